/-
  What the functions compute, as plain functions: locks, sessions, searches, clients, logs.
  Conditions: none beyond those that each theorem states.
-/
import Derived.Lib.Bytealg
import Derived.Test.YtbjakddkfgjkaaaGreatMb
import Derived.Test.YtbjakddkfgjkaaaGreatFd
set_option linter.unusedVariables false
set_option linter.unusedSimpArgs false
namespace Go.Proofs.YtbjakddkfgjkaaaGreat.Fw
open Go.RowKit
/-! ### locks that may be -/
def allTo (p : Nat → Bool) : Nat → Bool
  | 0 => true
  | k + 1 => allTo p k && p k
theorem allTo_bad {p : Nat → Bool} {j : Nat} (h : p j = false) : ∀ {n : Nat}, j < n → allTo p n = false
  | 0, hj => absurd hj (Nat.not_lt_zero _)
  | n + 1, hj => by
    simp only [allTo]
    rcases Nat.lt_succ_iff_lt_or_eq.1 hj with h1 | h1
    · rw [allTo_bad h h1]; rfl
    · subst h1; rw [h]; simp
/-- may stand at a place of the line -/
def posOk (d : DLock) (j : Nat) : Bool := inB (d.line.getD j default) 1 9 && (!decide (d.line.getD j default = d.holder) && !((d.line.take j).any fun z => decide (z = d.line.getD j default)))
def lineOk (d : DLock) : Bool := allTo (posOk d) d.line.length && (decide (d.line.length ≤ 3) && (!decide (d.holder = 0) || decide (d.line.length = 0)))
def lockF (l : List DLock) (i : Nat) : Int :=
  if mName (l.getD i default).name = false ∨ (l.getD i default).holder < 0 ∨ 9 < (l.getD i default).holder ∨ lineOk (l.getD i default) = false then 4 else
  if (l.getD i default).fence < 1 ∨ 1073741824 < (l.getD i default).fence then 2 else
  if 0 < i ∧ Op.bytesLess (l.getD (i - 1) default).name.toList (l.getD i default).name.toList = false then 14 else 0
def mLocks (l : List DLock) : Int := if 5 < l.length then 1 else firstF (lockF l) (l.length - 0) 0
theorem abs_at {s : Sl CLock} (q : Nat) : (s.xs.map CLock.abs).getD q default = (s.at q).abs := by
  unfold Sl.at
  rw [List.getD_eq_getElem?_getD, List.getD_eq_getElem?_getD, List.getElem?_map]
  cases s.xs[q]? <;> rfl
/-- a number is among the first ones -/
theorem any_none {s : Sl Int} {k : Nat} {n : Int} (hk : k ≤ s.n) (h : ∀ j, j < k → ¬ s.at j = n) : ((s.xs.take k).any fun z => decide (z = n)) = false := by
  rw [List.any_eq_false]
  intro z hz
  obtain ⟨j, hj, rfl⟩ := List.getElem_of_mem hz
  have hj1 : j < k := by rw [List.length_take] at hj; omega
  have hj2 : j < s.n := by omega
  have h1 := Sl.at_some hj2
  rw [List.getElem_take]
  rw [List.getElem?_eq_getElem (show j < s.xs.length from hj2)] at h1
  injection h1 with h1
  rw [h1]
  simpa using h j hj1
theorem any_here {s : Sl Int} {k j : Nat} {n : Int} (hk : k ≤ s.n) (hj : j < k) (h : s.at j = n) : ((s.xs.take k).any fun z => decide (z = n)) = true := by
  rw [List.any_eq_true]
  have hj2 : j < s.n := by omega
  have h1 := Sl.at_some hj2
  refine ⟨s.at j, ?_, by simpa using h⟩
  refine List.mem_iff_getElem?.2 ⟨j, ?_⟩
  rw [List.getElem?_take, if_pos hj]
  exact h1
theorem take_at {α : Type} [Inhabited α] {s : Sl α} {k j : Nat} (hj : j < k) : (⟨s.A, s.c, s.xs.take k⟩ : Sl α).at j = s.at j := by
  unfold Sl.at
  rw [List.getD_eq_getElem?_getD, List.getD_eq_getElem?_getD, List.getElem?_take, if_pos hj]
theorem take_n {α : Type} {s : Sl α} {k : Nat} (hk : k ≤ s.n) : (⟨s.A, s.c, s.xs.take k⟩ : Sl α).n = k := by
  show (s.xs.take k).length = k
  rw [List.length_take]
  exact Nat.min_eq_left hk
theorem mIdxT_none {α : Type} [Inhabited α] {s : Sl α} {k : Nat} {p : α → Bool} (hk : k ≤ s.n) (h : ∀ j, j < k → p (s.at j) = false) : mIdx p (s.xs.take k) = -1 :=
  mIdx_none (s := (⟨s.A, s.c, s.xs.take k⟩ : Sl α)) fun j hj => by
    rw [take_n hk] at hj
    rw [take_at hj]
    exact h j hj
theorem mIdxT_here {α : Type} [Inhabited α] {s : Sl α} {k i : Nat} {p : α → Bool} (hk : k ≤ s.n) (hi : i < k) (hp : p (s.at i) = true) (h : ∀ j, j < i → p (s.at j) = false) : mIdx p (s.xs.take k) = (i : Int) :=
  mIdx_here (s := (⟨s.A, s.c, s.xs.take k⟩ : Sl α)) (by rw [take_n hk]; exact hi) (by rw [take_at hi]; exact hp) fun j hj => by
    rw [take_at (by omega)]
    exact h j hj
end Go.Proofs.YtbjakddkfgjkaaaGreat.Fw

namespace Go.Proofs.YtbjakddkfgjkaaaGreat.Fw
open Go.RowKit
theorem firstF_zero {f : Nat → Int} : ∀ {n i : Nat}, firstF f n i = 0 → ∀ j, i ≤ j → j < i + n → f j = 0
  | 0, i, _, j, h1, h2 => by omega
  | n + 1, i, h, j, h1, h2 => by
    simp only [firstF] at h
    split at h
    · rename_i h0
      rcases Nat.eq_or_lt_of_le h1 with h3 | h3
      · subst h3; exact h0
      · exact firstF_zero h j h3 (by omega)
    · rename_i h0
      exact absurd h h0
theorem firstF_all {f : Nat → Int} {n : Nat} (h : firstF f (n - 0) 0 = 0) : ∀ j, j < n → f j = 0 := fun j hj => firstF_zero h j (Nat.zero_le _) (by omega)
theorem allTo_good {p : Nat → Bool} : ∀ {n : Nat}, allTo p n = true → ∀ j, j < n → p j = true
  | 0, _, j, hj => absurd hj (Nat.not_lt_zero _)
  | n + 1, h, j, hj => by
    simp only [allTo, Bool.and_eq_true] at h
    rcases Nat.lt_succ_iff_lt_or_eq.1 hj with h1 | h1
    · exact allTo_good h.1 j h1
    · subst h1; exact h.2
theorem allTo_step {p : Nat → Bool} {n : Nat} (h : allTo p n = true) (h2 : p n = true) : allTo p (n + 1) = true := by
  simp only [allTo, h, h2, Bool.and_self]
/-! ### sessions that may be -/
def keptOk (d : DSession) (j : Nat) : Bool :=
  decide (d.acked < (d.replies.getD j default).seq ∧ (d.replies.getD j default).seq ≤ d.acked + 4 ∧ (0 < j → (d.replies.getD (j - 1) default).seq < (d.replies.getD j default).seq) ∧
    0 ≤ (d.replies.getD j default).reply.code ∧ (d.replies.getD j default).reply.code ≤ 15 ∧ 0 ≤ (d.replies.getD j default).reply.n ∧ (d.replies.getD j default).reply.n ≤ 1073741824 ∧ ((d.replies.getD j default).reply.text.size : Int) ≤ 12)
def mReplies (d : DSession) : Bool := allTo (keptOk d) d.replies.length
def sessF (l : List DSession) (index : Int) (i : Nat) : Int :=
  if (l.getD i default).client < 1 ∨ 9 < (l.getD i default).client ∨ (l.getD i default).acked < 0 ∨ 1048576 < (l.getD i default).acked ∨ (l.getD i default).id < 1 ∨ (l.getD i default).last < (l.getD i default).id ∨ index < (l.getD i default).last then 2 else
  if mReplies (l.getD i default) = false then 4 else
  if 0 < i ∧ (l.getD i default).client ≤ (l.getD (i - 1) default).client then 14 else 0
def mSess (l : List DSession) (index : Int) : Int :=
  if index < 0 ∨ 1073741824 < index then 2 else if 4 < l.length then 1 else firstF (sessF l index) (l.length - 0) 0
theorem sabs_at {s : Sl CSession} (q : Nat) : (s.xs.map CSession.abs).getD q default = (s.at q).abs := by
  unfold Sl.at
  rw [List.getD_eq_getElem?_getD, List.getD_eq_getElem?_getD, List.getElem?_map]
  cases s.xs[q]? <;> rfl
theorem mSess_bd {l : List DSession} {index : Int} (h : mSess l index = 0) : 0 ≤ index ∧ index ≤ 1073741824 ∧ l.length ≤ 4 ∧ ∀ j, j < l.length → sessF l index j = 0 := by
  unfold mSess at h
  split at h
  · cases h
  split at h
  · cases h
  exact ⟨by omega, by omega, by omega, firstF_all h⟩
theorem sessF_bd {l : List DSession} {index : Int} {j : Nat} (h : sessF l index j = 0) : 1 ≤ (l.getD j default).client ∧ (l.getD j default).client ≤ 9 ∧ 0 ≤ (l.getD j default).acked ∧ (l.getD j default).acked ≤ 1048576 ∧ 1 ≤ (l.getD j default).id ∧ (l.getD j default).id ≤ (l.getD j default).last ∧ (l.getD j default).last ≤ index ∧ mReplies (l.getD j default) = true ∧ (0 < j → (l.getD (j - 1) default).client < (l.getD j default).client) := by
  unfold sessF at h
  split at h
  · cases h
  split at h
  · cases h
  rename_i h2
  split at h
  · cases h
  have h2' : mReplies (l.getD j default) = true := by simpa using h2
  exact ⟨by omega, by omega, by omega, by omega, by omega, by omega, by omega, h2', by omega⟩
end Go.Proofs.YtbjakddkfgjkaaaGreat.Fw
namespace Go.Proofs.YtbjakddkfgjkaaaGreat.Fw
theorem lineOk_false {d : DLock} (h : allTo (posOk d) d.line.length = false ∨ 3 < d.line.length ∨ (d.holder = 0 ∧ 0 < d.line.length)) : lineOk d = false := by
  unfold lineOk
  rcases h with h | h | ⟨h1, h2⟩
  · rw [h]; rfl
  · rw [decide_eq_false (show ¬ d.line.length ≤ 3 by omega)]; simp
  · rw [decide_eq_true h1, decide_eq_false (show ¬ d.line.length = 0 by omega)]; simp
theorem lineOk_true {d : DLock} (h : allTo (posOk d) d.line.length = true) (h2 : d.line.length ≤ 3) (h3 : ¬ d.holder = 0 ∨ d.line.length = 0) : lineOk d = true := by
  unfold lineOk
  rw [h, decide_eq_true h2]
  rcases h3 with h3 | h3
  · rw [decide_eq_false h3]; simp
  · rw [decide_eq_true h3]; simp
end Go.Proofs.YtbjakddkfgjkaaaGreat.Fw

namespace Go.Proofs.YtbjakddkfgjkaaaGreat.Fw
open Go.RowKit
/-! ### the search that halves -/
def bsGo (p : Nat → Bool) : Nat → Nat → Nat → Nat
  | 0, lo, _ => lo
  | f + 1, lo, hi => if lo < hi then (if p ((lo + hi) / 2) then bsGo p f ((lo + hi) / 2 + 1) hi else bsGo p f lo ((lo + hi) / 2)) else lo
theorem bsGo_le (p : Nat → Bool) : ∀ (f lo hi : Nat), lo ≤ hi → lo ≤ bsGo p f lo hi ∧ bsGo p f lo hi ≤ hi
  | 0, lo, hi, h => ⟨Nat.le_refl _, h⟩
  | f + 1, lo, hi, h => by
    simp only [bsGo]
    split
    · split
      · have := bsGo_le p f ((lo + hi) / 2 + 1) hi (by omega); omega
      · have := bsGo_le p f lo ((lo + hi) / 2) (by omega); omega
    · exact ⟨Nat.le_refl _, h⟩
theorem bsGo_end (p : Nat → Bool) (f lo hi : Nat) (h : hi ≤ lo) : bsGo p f lo hi = lo := by
  cases f with
  | zero => rfl
  | succ f => simp only [bsGo]; rw [if_neg (by omega)]
theorem bsGo_up {p : Nat → Bool} {f lo hi : Nat} (h : lo < hi) (hp : p ((lo + hi) / 2) = true) : bsGo p (f + 1) lo hi = bsGo p f ((lo + hi) / 2 + 1) hi := by simp only [bsGo]; rw [if_pos h, if_pos hp]
theorem bsGo_down {p : Nat → Bool} {f lo hi : Nat} (h : lo < hi) (hp : p ((lo + hi) / 2) = false) : bsGo p (f + 1) lo hi = bsGo p f lo ((lo + hi) / 2) := by simp only [bsGo]; rw [if_pos h, if_neg (by rw [hp]; simp)]
theorem bsGo_spec {p : Nat → Bool} {n : Nat} (mono : ∀ i j, i < j → j < n → p j = true → p i = true) : ∀ (f lo hi : Nat), lo ≤ hi → hi ≤ n → hi - lo ≤ f → (∀ j, j < lo → p j = true) → (∀ j, hi ≤ j → j < n → p j = false) →
    (∀ j, j < bsGo p f lo hi → p j = true) ∧ (∀ j, bsGo p f lo hi ≤ j → j < n → p j = false)
  | 0, lo, hi, h1, h2, h3, h4, h5 => by
    have : lo = hi := by omega
    subst this
    exact ⟨h4, h5⟩
  | f + 1, lo, hi, h1, h2, h3, h4, h5 => by
    simp only [bsGo]
    split
    · split
      · rename_i hp
        refine bsGo_spec mono f _ hi (by omega) h2 (by omega) (fun j hj => ?_) h5
        rcases Nat.lt_succ_iff_lt_or_eq.1 hj with h | h
        · exact mono j _ h (by omega) hp
        · rw [h]; exact hp
      · rename_i hp
        refine bsGo_spec mono f lo _ (by omega) (by omega) (by omega) h4 fun j hj hjn => ?_
        cases hpj : p j with
        | false => rfl
        | true =>
          rcases Nat.eq_or_lt_of_le hj with h | h
          · rw [← h] at hpj; exact absurd hpj hp
          · exact absurd (mono _ j h hjn hpj) hp
    · have : lo = hi := by omega
      subst this
      exact ⟨h4, h5⟩
def mBS {α : Type} [Inhabited α] (c : α → Int) (L : List α) : Nat := bsGo (fun j => decide (c (L.getD j default) < 0)) L.length 0 L.length
def mBSf {α : Type} [Inhabited α] (c : α → Int) (L : List α) : Bool := decide (mBS c L < L.length) && decide (c (L.getD (mBS c L) default) = 0)
theorem mBS_le {α : Type} [Inhabited α] (c : α → Int) (L : List α) : mBS c L ≤ L.length := (bsGo_le _ _ 0 L.length (Nat.zero_le _)).2
/-- sorted for the search -/
def Srt {α : Type} [Inhabited α] (c : α → Int) (L : List α) : Prop := ∀ i j, i < j → j < L.length → 0 ≤ c (L.getD i default) → 0 < c (L.getD j default)
theorem mBS_spec {α : Type} [Inhabited α] {c : α → Int} {L : List α} (h : Srt c L) : (∀ j, j < mBS c L → c (L.getD j default) < 0) ∧ (∀ j, mBS c L ≤ j → j < L.length → 0 ≤ c (L.getD j default)) := by
  have := bsGo_spec (p := fun j => decide (c (L.getD j default) < 0)) (n := L.length) (fun i j hij hj hp => by
    have hp' := of_decide_eq_true hp
    refine decide_eq_true ?_
    rcases Int.lt_or_le (c (L.getD i default)) 0 with h1 | h1
    · exact h1
    · have := h i j hij hj h1; omega) L.length 0 L.length (Nat.zero_le _) (Nat.le_refl _) (by omega) (fun j hj => absurd hj (Nat.not_lt_zero _)) (fun j hj hjn => absurd hjn (by omega))
  exact ⟨fun j hj => of_decide_eq_true (this.1 j hj), fun j hj hjn => by have := of_decide_eq_false (this.2 j hj hjn); omega⟩
/-- the first one, of a list -/
theorem mIdxL_none {α : Type} [Inhabited α] {L : List α} {p : α → Bool} (h : ∀ j, j < L.length → p (L.getD j default) = false) : mIdx p L = -1 := mIdx_none (s := (⟨none, 0, L⟩ : Sl α)) h
theorem mIdxL_here {α : Type} [Inhabited α] {L : List α} {p : α → Bool} {i : Nat} (hi : i < L.length) (hp : p (L.getD i default) = true) (h : ∀ j, j < i → p (L.getD j default) = false) : mIdx p L = (i : Int) := mIdx_here (s := (⟨none, 0, L⟩ : Sl α)) hi hp h
theorem mIdx_cases {α : Type} [Inhabited α] (p : α → Bool) (L : List α) : (mIdx p L = -1 ∧ ∀ j, j < L.length → p (L.getD j default) = false) ∨ ∃ i, i < L.length ∧ mIdx p L = (i : Int) ∧ p (L.getD i default) = true ∧ ∀ j, j < i → p (L.getD j default) = false := by
  by_cases h : ∃ i, i < L.length ∧ p (L.getD i default) = true
  · right
    have key : ∀ n, (∃ i, i < n ∧ i < L.length ∧ p (L.getD i default) = true) → ∃ i, i < L.length ∧ p (L.getD i default) = true ∧ ∀ j, j < i → p (L.getD j default) = false := by
      intro n
      induction n with
      | zero => rintro ⟨i, h1, _⟩; omega
      | succ n ih =>
        rintro ⟨i, h1, h2, h3⟩
        by_cases h4 : ∃ i, i < n ∧ i < L.length ∧ p (L.getD i default) = true
        · exact ih h4
        · refine ⟨i, h2, h3, fun j hj => ?_⟩
          cases hp : p (L.getD j default) with
          | false => rfl
          | true => exact absurd ⟨j, by omega, by omega, hp⟩ h4
    obtain ⟨i, h1, h2⟩ := h
    obtain ⟨k, h3, h4, h5⟩ := key (i + 1) ⟨i, by omega, h1, h2⟩
    exact ⟨k, h3, mIdxL_here h3 h4 h5, h4, h5⟩
  · left
    have h2 : ∀ j, j < L.length → p (L.getD j default) = false := fun j hj => by
      cases hp : p (L.getD j default) with
      | false => rfl
      | true => exact absurd ⟨j, hj, hp⟩ h
    exact ⟨mIdxL_none h2, h2⟩
theorem mIdx_bd {α : Type} [Inhabited α] (p : α → Bool) (L : List α) : -1 ≤ mIdx p L ∧ mIdx p L < L.length := by
  rcases mIdx_cases p L with ⟨h, _⟩ | ⟨i, h1, h2, _⟩
  · rw [h]; omega
  · rw [h2]; omega
theorem bs_none {α : Type} [Inhabited α] {c : α → Int} {L : List α} (h : ∀ j, j < L.length → ¬ c (L.getD j default) = 0) : mBSf c L = false ∧ mIdx (fun x => decide (c x = 0)) L = -1 := by
  refine ⟨?_, mIdxL_none fun j hj => decide_eq_false (h j hj)⟩
  unfold mBSf
  by_cases h1 : mBS c L < L.length
  · rw [decide_eq_false (h _ h1)]; simp
  · rw [decide_eq_false h1]; rfl
theorem bs_srt {α : Type} [Inhabited α] {c : α → Int} {L : List α} (h : Srt c L) : mBSf c L = decide (0 ≤ mIdx (fun x => decide (c x = 0)) L) ∧ (mBSf c L = true → (mBS c L : Int) = mIdx (fun x => decide (c x = 0)) L) := by
  have hs := mBS_spec h
  by_cases h1 : mBS c L < L.length ∧ c (L.getD (mBS c L) default) = 0
  · have h2 : mIdx (fun x => decide (c x = 0)) L = (mBS c L : Int) := mIdxL_here h1.1 (decide_eq_true h1.2) fun j hj => decide_eq_false (by have := hs.1 j hj; omega)
    have h3 : mBSf c L = true := by unfold mBSf; rw [decide_eq_true h1.1, decide_eq_true h1.2]; rfl
    rw [h3, h2]
    exact ⟨by simp, fun _ => rfl⟩
  · have h3 : mBSf c L = false := by
      unfold mBSf
      by_cases h4 : mBS c L < L.length
      · rw [decide_eq_false (fun e => h1 ⟨h4, e⟩)]; simp
      · rw [decide_eq_false h4]; rfl
    have h2 : mIdx (fun x => decide (c x = 0)) L = -1 := mIdxL_none fun j hj => decide_eq_false fun e => by
      by_cases h4 : mBS c L < L.length
      · have h5 := hs.2 _ (Nat.le_refl _) h4
        have h6 : 0 < c (L.getD (mBS c L) default) := by
          rcases Int.lt_or_eq_of_le h5 with h7 | h7
          · exact h7
          · exact absurd ⟨h4, h7.symm⟩ h1
        rcases Nat.lt_or_ge j (mBS c L) with h7 | h7
        · have := hs.1 j h7; omega
        · rcases Nat.eq_or_lt_of_le h7 with h8 | h8
          · rw [h8] at h6; omega
          · have := h _ j h8 hj h5; omega
      · have := hs.1 j (by omega); omega
    rw [h3, h2]
    exact ⟨rfl, fun h => by cases h⟩

/-! ### names in order -/
def cmpS (a b : ByteArray) : Int := Lib.compareBytes a.data.toList b.data.toList
theorem cb_lt : ∀ a b : List UInt8, Lib.compareBytes a b < 0 ↔ Op.bytesLess a b = true
  | [], [] => by simp [Lib.compareBytes, Op.bytesLess]
  | [], _ :: _ => by simp [Lib.compareBytes, Op.bytesLess]
  | _ :: _, [] => by simp [Lib.compareBytes, Op.bytesLess]
  | x :: a, y :: b => by
    have ih := cb_lt a b
    simp only [Lib.compareBytes, Op.bytesLess]
    by_cases h1 : x < y
    · simp [h1]
    · by_cases h2 : y < x
      · have h3 : ¬ x = y := fun e => by subst e; exact h1 h2
        simp [h1, h2, h3]
      · have h3 : x = y := UInt8.le_antisymm (UInt8.not_lt.1 h2) (UInt8.not_lt.1 h1)
        subst h3
        simp [h1, ih]
theorem cb_eq : ∀ a b : List UInt8, Lib.compareBytes a b = 0 ↔ a = b
  | [], [] => by simp [Lib.compareBytes]
  | [], _ :: _ => by simp [Lib.compareBytes]
  | _ :: _, [] => by simp [Lib.compareBytes]
  | x :: a, y :: b => by
    have ih := cb_eq a b
    simp only [Lib.compareBytes]
    by_cases h1 : x < y
    · have h3 : ¬ x = y := fun e => by subst e; exact UInt8.lt_irrefl x h1
      simp [h1, h3]
    · by_cases h2 : y < x
      · have h3 : ¬ x = y := fun e => by subst e; exact h1 h2
        simp [h1, h2, h3]
      · have h3 : x = y := UInt8.le_antisymm (UInt8.not_lt.1 h2) (UInt8.not_lt.1 h1)
        subst h3
        simp [h1, ih]
theorem cmpS_lt (a b : ByteArray) : cmpS a b < 0 ↔ Op.bytesLess a.toList b.toList = true := by
  rw [ByteArray.toList_eq, ByteArray.toList_eq]; exact cb_lt _ _
theorem cmpS_eq (a b : ByteArray) : cmpS a b = 0 ↔ a = b := by
  unfold cmpS
  rw [cb_eq]
  exact ⟨fun h => ByteArray.ext (Array.toList_inj.1 h), fun h => by rw [h]⟩
theorem bl_trans : ∀ a b c : List UInt8, Op.bytesLess a b = true → Op.bytesLess b c = true → Op.bytesLess a c = true
  | [], _, [], h1, h2 => by cases ‹List UInt8› <;> simp [Op.bytesLess] at *
  | [], _, _ :: _, _, _ => by simp [Op.bytesLess]
  | _ :: _, [], _, h1, _ => by simp [Op.bytesLess] at h1
  | _ :: _, _ :: _, [], _, h2 => by simp [Op.bytesLess] at h2
  | x :: a, y :: b, z :: c, h1, h2 => by
    have ih := bl_trans a b c
    simp only [Op.bytesLess, Bool.or_eq_true, decide_eq_true_eq, Bool.and_eq_true, beq_iff_eq] at h1 h2 ⊢
    rcases h1 with h1 | ⟨rfl, h1⟩ <;> rcases h2 with h2 | ⟨rfl, h2⟩
    · exact .inl (UInt8.lt_trans h1 h2)
    · exact .inl h1
    · exact .inl h2
    · exact .inr ⟨rfl, ih h1 h2⟩
/-- names that rise: sorted for every search -/
theorem srt_names {α : Type} [Inhabited α] {L : List α} (nm : α → ByteArray) (t : ByteArray) (h : ∀ i, 0 < i → i < L.length → Op.bytesLess (nm (L.getD (i - 1) default)).toList (nm (L.getD i default)).toList = true) : Srt (fun x => cmpS (nm x) t) L := by
  have step : ∀ d i, i + d + 1 < L.length → Op.bytesLess (nm (L.getD i default)).toList (nm (L.getD (i + d + 1) default)).toList = true := by
    intro d
    induction d with
    | zero => intro i hi; have := h (i + 1) (by omega) hi; simpa using this
    | succ d ih => intro i hi; exact bl_trans _ _ _ (ih i (by omega)) (by have := h (i + (d + 1) + 1) (by omega) hi; simpa [Nat.add_assoc] using this)
  intro i j hij hj h0
  have h1 := step (j - i - 1) i (by omega)
  rw [show i + (j - i - 1) + 1 = j by omega] at h1
  have h2 : ¬ cmpS (nm (L.getD i default)) t < 0 := by show ¬ _; intro h; have h0' : 0 ≤ cmpS (nm (L.getD i default)) t := h0; omega
  rw [cmpS_lt] at h2
  have h3 : ¬ cmpS (nm (L.getD j default)) t < 0 := fun h4 => h2 (bl_trans _ _ _ h1 ((cmpS_lt _ _).1 h4))
  have h4 : ¬ cmpS (nm (L.getD j default)) t = 0 := fun h5 => h2 (by rw [cmpS_eq] at h5; rw [← h5]; exact h1)
  show 0 < cmpS (nm (L.getD j default)) t
  omega
theorem mPairs_bd {l : List DPair} (h : mPairs l = 0) : l.length ≤ 5 ∧ ∀ j, j < l.length → pairF l j = 0 := by
  unfold mPairs at h
  split at h
  · cases h
  exact ⟨by omega, firstF_all h⟩
theorem pairF_bd {l : List DPair} {j : Nat} (h : pairF l j = 0) : mName (l.getD j default).name = true ∧ ((l.getD j default).value.size : Int) ≤ 12 ∧ 1 ≤ (l.getD j default).version ∧ (l.getD j default).version ≤ 1073741824 ∧ (0 < j → Op.bytesLess (l.getD (j - 1) default).name.toList (l.getD j default).name.toList = true) := by
  unfold pairF at h
  split at h
  · cases h
  rename_i h1
  split at h
  · cases h
  split at h
  · cases h
  split at h
  · cases h
  rename_i h4
  refine ⟨by simpa using h1, by omega, by omega, by omega, fun hj => ?_⟩
  cases hb : Op.bytesLess (l.getD (j - 1) default).name.toList (l.getD j default).name.toList with
  | true => rfl
  | false => exact absurd ⟨hj, hb⟩ h4
theorem mLocks_bd {l : List DLock} (h : mLocks l = 0) : l.length ≤ 5 ∧ ∀ j, j < l.length → lockF l j = 0 := by
  unfold mLocks at h
  split at h
  · cases h
  exact ⟨by omega, firstF_all h⟩
theorem lockF_bd {l : List DLock} {j : Nat} (h : lockF l j = 0) : mName (l.getD j default).name = true ∧ 0 ≤ (l.getD j default).holder ∧ (l.getD j default).holder ≤ 9 ∧ lineOk (l.getD j default) = true ∧ 1 ≤ (l.getD j default).fence ∧ (l.getD j default).fence ≤ 1073741824 ∧ (0 < j → Op.bytesLess (l.getD (j - 1) default).name.toList (l.getD j default).name.toList = true) := by
  unfold lockF at h
  split at h
  · cases h
  rename_i h1
  split at h
  · cases h
  split at h
  · cases h
  rename_i h4
  refine ⟨?_, by omega, by omega, ?_, by omega, by omega, fun hj => ?_⟩
  · cases hb : mName (l.getD j default).name with
    | true => rfl
    | false => exact absurd (.inl hb) h1
  · cases hb : lineOk (l.getD j default) with
    | true => rfl
    | false => exact absurd (.inr (.inr (.inr hb))) h1
  · cases hb : Op.bytesLess (l.getD (j - 1) default).name.toList (l.getD j default).name.toList with
    | true => rfl
    | false => exact absurd ⟨hj, hb⟩ h4
theorem pairs_srt {l : List DPair} (h : mPairs l = 0) (t : ByteArray) : Srt (fun x : DPair => cmpS x.name t) l := srt_names DPair.name t fun i hi hl => (pairF_bd ((mPairs_bd h).2 i hl)).2.2.2.2 hi
theorem locks_srt {l : List DLock} (h : mLocks l = 0) (t : ByteArray) : Srt (fun x : DLock => cmpS x.name t) l := srt_names DLock.name t fun i hi hl => (lockF_bd ((mLocks_bd h).2 i hl)).2.2.2.2.2.2 hi
theorem name_pred {α : Type} (nm : α → ByteArray) (t : ByteArray) : (fun x : α => decide (cmpS (nm x) t = 0)) = fun x => decide (nm x = t) := by
  funext x
  rw [decide_eq_decide.2 (cmpS_eq (nm x) t)]
end Go.Proofs.YtbjakddkfgjkaaaGreat.Fw

namespace Go.Proofs.YtbjakddkfgjkaaaGreat.Fw
open Go.RowKit
/-! ### what is deleted -/
theorem getD_drop {α : Type} [Inhabited α] {M L : List α} {j : Nat} (h : M.drop j = L.drop j) (hj : j < L.length) : M.getD j default = L.getD j default := by
  have h1 := congrArg (fun l => l[0]?) h
  simp only [List.getElem?_drop, Nat.add_zero] at h1
  rw [List.getD_eq_getElem?_getD, List.getD_eq_getElem?_getD, h1]
theorem drop_next {α : Type} {M L : List α} {j : Nat} (h : M.drop j = L.drop j) : M.drop (j + 1) = L.drop (j + 1) := by
  have h1 := congrArg (List.drop 1) h
  simpa only [List.drop_drop] using h1
theorem delF_none {α : Type} [Inhabited α] {p : α → Bool} {L : List α} (h : mIdx p L = -1) : L.filter (fun x => !p x) = L := by
  rcases mIdx_cases p L with ⟨_, h2⟩ | ⟨i, _, h2, _⟩
  · rw [List.filter_eq_self]
    intro x hx
    obtain ⟨j, hj, rfl⟩ := List.getElem_of_mem hx
    have := h2 j hj
    rw [List.getD_eq_getElem?_getD, List.getElem?_eq_getElem hj] at this
    simpa using this
  · omega
theorem delF_some {α : Type} [Inhabited α] {p : α → Bool} {L : List α} (h : ¬ mIdx p L = -1) : ∃ i, i < L.length ∧ (∀ j, j < i → p (L.getD j default) = false) ∧ p (L.getD i default) = true ∧ mIdx p L = (i : Int) := by
  rcases mIdx_cases p L with ⟨h1, _⟩ | ⟨i, h1, h2, h3, h4⟩
  · exact absurd h1 h
  · exact ⟨i, h1, h4, h3, h2⟩
theorem filter_take {α : Type} [Inhabited α] {p : α → Bool} {L : List α} {i : Nat} (hi : i ≤ L.length) (h : ∀ j, j < i → p (L.getD j default) = false) : (L.take i).filter (fun x => !p x) = L.take i := by
  rw [List.filter_eq_self]
  intro x hx
  obtain ⟨j, hj, rfl⟩ := List.getElem_of_mem hx
  have hj' : j < i := by rw [List.length_take] at hj; omega
  have h1 := h j hj'
  rw [List.getD_eq_getElem?_getD, List.getElem?_eq_getElem (by omega)] at h1
  rw [List.getElem_take]
  simpa using h1
theorem take_snocL {α : Type} [Inhabited α] {L : List α} {i : Nat} (hi : i < L.length) : L.take (i + 1) = L.take i ++ [L.getD i default] := by
  rw [List.take_add_one, getD_some hi]; rfl
theorem filt1 {α : Type} {p : α → Bool} {x : α} (h : p x = true) : [x].filter (fun x => !p x) = [] := by rw [List.filter_cons, h]; rfl
theorem filt0 {α : Type} {p : α → Bool} {x : α} (h : p x = false) : [x].filter (fun x => !p x) = [x] := by rw [List.filter_cons, h]; rfl
theorem delF_start {α : Type} [Inhabited α] {p : α → Bool} {L : List α} {i : Nat} (hi : i < L.length) (h : ∀ j, j < i → p (L.getD j default) = false) (hp : p (L.getD i default) = true) : L.take i = (L.take (i + 1)).filter (fun x => !p x) := by
  rw [take_snocL hi, List.filter_append, filter_take (by omega) h, filt1 hp, List.append_nil]
theorem delF_skip {α : Type} [Inhabited α] {p : α → Bool} {L M : List α} {i j : Nat} (hj : j < L.length) (h : M.take i = (L.take j).filter (fun x => !p x)) (hp : p (L.getD j default) = true) : M.take i = (L.take (j + 1)).filter (fun x => !p x) := by
  rw [take_snocL hj, List.filter_append, ← h, filt1 hp, List.append_nil]
theorem delF_keep {α : Type} [Inhabited α] {p : α → Bool} {L M : List α} {i j : Nat} (hij : i < j) (hj : j < L.length) (hM : M.length = L.length) (h : M.take i = (L.take j).filter (fun x => !p x)) (hp : p (L.getD j default) = false) (hjL : M.getD j default = L.getD j default) : (M.set i (M.getD j default)).take (i + 1) = (L.take (j + 1)).filter (fun x => !p x) := by
  rw [take_snocL hj, List.filter_append, ← h, filt0 hp, take_snocL (by rw [List.length_set]; omega)]
  rw [List.take_set_of_le (Nat.le_refl _), List.getD_eq_getElem?_getD, List.getElem?_set_self (by omega), hjL]
  rfl
theorem delF_drop {α : Type} {L M : List α} {i j : Nat} {x : α} (hij : i < j) (h : M.drop j = L.drop j) : (M.set i x).drop (j + 1) = L.drop (j + 1) := by
  rw [List.drop_set_of_lt (by omega)]
  exact drop_next h
end Go.Proofs.YtbjakddkfgjkaaaGreat.Fw

namespace Go.Proofs.YtbjakddkfgjkaaaGreat.Fw
open Go.RowKit
/-! ### what is small because it may be -/
theorem mReplies_len {d : DSession} (h : mReplies d = true) : d.replies.length ≤ 4 := by
  have key : ∀ j, j < d.replies.length → d.acked + 1 + (j : Int) ≤ (d.replies.getD j default).seq := by
    intro j
    induction j with
    | zero => intro hj; have := of_decide_eq_true (allTo_good h 0 hj); omega
    | succ j ih =>
      intro hj
      have h1 := ih (by omega)
      have h2 := of_decide_eq_true (allTo_good h (j + 1) hj)
      have h3 := h2.2.2.1 (by omega)
      simp only [Nat.add_sub_cancel] at h3
      omega
  rcases Nat.lt_or_ge 4 d.replies.length with h1 | h1
  · have h2 := key 4 h1
    have h3 := of_decide_eq_true (allTo_good h 4 h1)
    omega
  · exact h1
theorem small_sess {s : Sl CSession} {n : Int} (h : mSess (s.xs.map CSession.abs) n = 0) : Rds.small s := by
  obtain ⟨_, _, h3, h4⟩ := mSess_bd h
  have hl : (s.xs.map CSession.abs).length = s.n := by simp
  refine ⟨by show s.n * 56 ≤ _; omega, fun i hi => ?_⟩
  have h5 := (sessF_bd (h4 i (by omega))).2.2.2.2.2.2.2.1
  rw [sabs_at] at h5
  have h6 := mReplies_len h5
  have h7 : (s.at i).abs.replies.length = (s.at i).replies.n := rfl
  exact ⟨by show (s.at i).replies.n * 40 ≤ _; omega, fun _ _ => trivial⟩
theorem small_locks {s : Sl CLock} (h : mLocks (s.xs.map CLock.abs) = 0) : Rds.small s := by
  obtain ⟨h3, h4⟩ := mLocks_bd h
  have hl : (s.xs.map CLock.abs).length = s.n := by simp
  refine ⟨by show s.n * 56 ≤ _; omega, fun i hi => ?_⟩
  have h5 := (lockF_bd (h4 i (by omega))).2.2.2.1
  rw [abs_at] at h5
  simp only [lineOk, Bool.and_eq_true, decide_eq_true_eq] at h5
  have h7 : (s.at i).abs.line.length = (s.at i).line.n := rfl
  exact ⟨by show (s.at i).line.n * 8 ≤ _; omega, fun _ _ => trivial⟩
/-! ### locks and sessions of our own -/
theorem own_sess {eS eK : Nat} {A : Option Addr} {c : Nat} {L : List CSession} {w : World} (h1 : (ownL (keptR eK) L).p w) (h2 : (rowA eS A c L).p w) (hn : ∀ x, x ∈ L → ∀ k, k ∈ x.replies.xs → k.reply.text.size ≤ 9223372036854775807) : Sl.rd anyB w (⟨A, c, L⟩ : Sl CSession) :=
  Rr h2 (fun _ _ => trivial) fun x hx => Rr (h1 x hx) (fun _ _ => trivial) fun k hk => hn x hx k hk
theorem own_locks {eL eI : Nat} {A : Option Addr} {c : Nat} {L : List CLock} {w : World} (h1 : (ownL (lineR eI) L).p w) (h2 : (rowA eL A c L).p w) (hn : ∀ x, x ∈ L → x.name.size ≤ 9223372036854775807) : Sl.rd anyB w (⟨A, c, L⟩ : Sl CLock) :=
  Rr h2 (fun _ _ => trivial) fun x hx => ⟨hn x hx, Rr (h1 x hx) (fun _ _ => trivial) fun _ _ => trivial⟩
theorem out_sess {R : List Res} {eS eK : Nat} {A : Option Addr} {c : Nat} {L L0 : List CSession} {w : World} (hr : rowA eS A c L ∈ R) (ho : ownL (keptR eK) L0 ∈ R) (hR : ∀ r, r ∈ R → r.p w) (hsub : ∀ x, x ∈ L → x ∈ L0) (hn : ∀ x, x ∈ L0 → ∀ k, k ∈ x.replies.xs → k.reply.text.size ≤ 9223372036854775807) : Sl.rd (· ∈ (allR R).fp) w (⟨A, c, L⟩ : Sl CSession) :=
  allR_row hr (hR _ hr) fun x hx => Rr (hR _ ho x (hsub x hx)) (fun b hb => mem_allR ho (List.mem_flatMap.2 ⟨x, hsub x hx, hb⟩)) fun k hk => hn x (hsub x hx) k hk
theorem out_locks {R : List Res} {eS eK : Nat} {A : Option Addr} {c : Nat} {L L0 : List CLock} {w : World} (hr : rowA eS A c L ∈ R) (ho : ownL (lineR eK) L0 ∈ R) (hR : ∀ r, r ∈ R → r.p w) (hsub : ∀ x, x ∈ L → x ∈ L0) (hn : ∀ x, x ∈ L0 → x.name.size ≤ 9223372036854775807) : Sl.rd (· ∈ (allR R).fp) w (⟨A, c, L⟩ : Sl CLock) :=
  allR_row hr (hR _ hr) fun x hx => ⟨hn x (hsub x hx), Rr (hR _ ho x (hsub x hx)) (fun b hb => mem_allR ho (List.mem_flatMap.2 ⟨x, hsub x hx, hb⟩)) fun _ _ => trivial⟩
/-! ### sessions that are fresh -/
def stale (index : Int) (x : DSession) : Bool := decide (40 < index + 1 - x.last)
def mFresh (l : List DSession) (index : Int) : List DSession × Int := if mSess l index = 0 then (l.filter fun x => !stale index x, 0) else ([], mSess l index)
theorem fresh_ok {l : List DSession} {index : Int} (h : mSess l index = 0) : mFresh l index = (l.filter fun x => !stale index x, 0) := by unfold mFresh; rw [if_pos h]
theorem fresh_bad {l : List DSession} {index : Int} (h : ¬ mSess l index = 0) : mFresh l index = ([], mSess l index) := by unfold mFresh; rw [if_neg h]
theorem filter_abs {L : List CSession} {index : Int} : (L.filter fun x => !stale index x.abs).map CSession.abs = (L.map CSession.abs).filter fun x => !stale index x := by
  rw [List.filter_map]; rfl
/-! ### a pair's value -/
def mGot (l : List DPair) (t : ByteArray) : DReply × Int :=
  if mPairs l = 0 then
    (if 0 ≤ mIdx (fun x : DPair => decide (x.name = t)) l then ⟨0, (l.getD (mIdx (fun x : DPair => decide (x.name = t)) l).toNat default).version, (l.getD (mIdx (fun x : DPair => decide (x.name = t)) l).toNat default).value⟩ else ⟨6, 0, emp⟩, 0)
  else (⟨0, 0, emp⟩, mPairs l)
theorem got_bad {l : List DPair} {t : ByteArray} (h : ¬ mPairs l = 0) : mGot l t = (⟨0, 0, emp⟩, mPairs l) := by unfold mGot; rw [if_neg h]
theorem got_none {l : List DPair} {t : ByteArray} (h : mPairs l = 0) (h2 : mIdx (fun x : DPair => decide (x.name = t)) l < 0) : mGot l t = (⟨6, 0, emp⟩, 0) := by unfold mGot; rw [if_pos h, if_neg (by omega)]
theorem got_here {l : List DPair} {t : ByteArray} (h : mPairs l = 0) (h2 : ¬ mIdx (fun x : DPair => decide (x.name = t)) l < 0) : mGot l t = (⟨0, (l.getD (mIdx (fun x : DPair => decide (x.name = t)) l).toNat default).version, (l.getD (mIdx (fun x : DPair => decide (x.name = t)) l).toNat default).value⟩, 0) := by unfold mGot; rw [if_pos h, if_pos (by omega)]
theorem bsf_pair {l : List DPair} (h : mPairs l = 0) (t : ByteArray) : mBSf (fun x : DPair => cmpS x.name t) l = decide (0 ≤ mIdx (fun x : DPair => decide (x.name = t)) l) ∧ (mBSf (fun x : DPair => cmpS x.name t) l = true → (mBS (fun x : DPair => cmpS x.name t) l : Int) = mIdx (fun x : DPair => decide (x.name = t)) l) := by
  have := bs_srt (pairs_srt h t)
  rwa [name_pred DPair.name t] at this
theorem mBSf_lt {α : Type} [Inhabited α] {c : α → Int} {L : List α} (h : mBSf c L = true) : mBS c L < L.length := by
  unfold mBSf at h
  simp only [Bool.and_eq_true, decide_eq_true_eq] at h
  exact h.1
end Go.Proofs.YtbjakddkfgjkaaaGreat.Fw
namespace Go.Proofs.YtbjakddkfgjkaaaGreat.Fw
theorem fresh_in {s : Sl CSession} {n : Int} {L : List CSession} {i : Nat} (h : L = (s.xs.take i).filter fun x => !stale n x.abs) (hi : i < s.n) (hp : stale n (s.xs.getD i default).abs = false) : L ++ [s.xs.getD i default] = (s.xs.take (i + 1)).filter fun x => !stale n x.abs := by
  rw [take_snocL (show i < s.xs.length from hi), List.filter_append, ← h, filt0 (p := fun x : CSession => stale n x.abs) hp]
theorem fresh_out {s : Sl CSession} {n : Int} {L : List CSession} {i : Nat} (h : L = (s.xs.take i).filter fun x => !stale n x.abs) (hi : i < s.n) (hp : stale n (s.xs.getD i default).abs = true) : L = (s.xs.take (i + 1)).filter fun x => !stale n x.abs := by
  rw [take_snocL (show i < s.xs.length from hi), List.filter_append, ← h, filt1 (p := fun x : CSession => stale n x.abs) hp, List.append_nil]
end Go.Proofs.YtbjakddkfgjkaaaGreat.Fw

namespace Go.Proofs.YtbjakddkfgjkaaaGreat.Fw
open Go.RowKit
def mState (x : DState) : Int := if mSess x.sessions x.index = 0 then (if mLocks x.locks = 0 then mPairs x.pairs else mLocks x.locks) else mSess x.sessions x.index
/-! ### commands out of bytes -/
def zOp : DOp := ⟨0, emp, emp, 0⟩
def zCmd : DCommand := ⟨0, 0, 0, 0, 0, zOp⟩
def mBody (c : DCommand) (t : ByteArray) : DCommand × ByteArray × Int :=
  let r1 := mRead t
  if ¬ r1.2.2 = 0 then (c, emp, r1.2.2) else
  let r2 := mRead r1.2.1
  if ¬ r2.2.2 = 0 then (c, emp, r2.2.2) else
  let r3 := mRead r2.2.1
  if ¬ r3.2.2 = 0 then (c, emp, r3.2.2) else
  let r4 := mRead r3.2.1
  if ¬ r4.2.2 = 0 then (c, emp, r4.2.2) else
  let r5 := mRead r4.2.1
  if ¬ r5.2.2 = 0 then (c, emp, r5.2.2) else
  let r6 := mTell r5.2.1
  if ¬ r6.2.2 = 0 then (c, emp, r6.2.2) else
  let r7 := mTell r6.2.1
  if ¬ r7.2.2 = 0 then (c, emp, r7.2.2) else
  (⟨c.kind, c.client, r1.1, r2.1, r3.1, ⟨r4.1, r6.1, r7.1, r5.1⟩⟩, r7.2.1, 0)
def mFin (b : DCommand × ByteArray × Int) : DCommand × Int :=
  if ¬ b.2.2 = 0 then (zCmd, b.2.2) else if ¬ b.2.1 = emp then (zCmd, 4) else if ¬ mCmd b.1 = 0 then (zCmd, mCmd b.1) else (b.1, 0)
def cmd0 (s : ByteArray) : DCommand := ⟨((s.data.getD 0 0).toNat : Int), ((s.data.getD 1 0).toNat : Int), 0, 0, 0, zOp⟩
def mDecode (s : ByteArray) : DCommand × Int :=
  if 5000 < s.size then (zCmd, 1) else if s.size < 2 then (zCmd, 5) else
  if (cmd0 s).kind = 2 then mFin (mBody (cmd0 s) (s.extract 2 s.size)) else mFin (cmd0 s, s.extract 2 s.size, 0)
theorem mDecode_ok {s : ByteArray} (h : (mDecode s).2 = 0) : mCmd (mDecode s).1 = 0 ∧ s.size ≤ 5000 := by
  have key : ∀ b : DCommand × ByteArray × Int, (mFin b).2 = 0 → mCmd (mFin b).1 = 0 := by
    intro b hb
    unfold mFin at hb ⊢
    by_cases h1 : b.2.2 = 0
    · rw [if_neg (by simpa using h1)] at hb ⊢
      by_cases h2 : b.2.1 = emp
      · rw [if_neg (by simpa using h2)] at hb ⊢
        by_cases h3 : mCmd b.1 = 0
        · rw [if_neg (by simpa using h3)] at hb ⊢; exact h3
        · rw [if_pos h3] at hb; exact absurd hb h3
      · rw [if_pos h2] at hb; cases hb
    · rw [if_pos h1] at hb; exact absurd hb h1
  unfold mDecode at h ⊢
  split at h
  · cases h
  · rename_i h0
    split at h
    · cases h
    · rename_i h1
      rw [if_neg h0, if_neg h1]
      refine ⟨?_, by omega⟩
      split at h
      · rename_i h2; rw [if_pos h2]; exact key _ h
      · rename_i h2; rw [if_neg h2]; exact key _ h
/-! ### logs -/
def logF (l : List ByteArray) (i : Nat) : Int := (mDecode (l.getD i default)).2
def mLog (x : DLog) : Int := if x.base < 0 ∨ 1073741424 < x.base then 2 else if 400 < x.entries.length then 1 else firstF (logF x.entries) (x.entries.length - 0) 0
theorem mLog_bd {x : DLog} (h : mLog x = 0) : 0 ≤ x.base ∧ x.base ≤ 1073741424 ∧ x.entries.length ≤ 400 ∧ ∀ j, j < x.entries.length → (mDecode (x.entries.getD j default)).2 = 0 := by
  unfold mLog at h
  split at h
  · cases h
  split at h
  · cases h
  exact ⟨by omega, by omega, by omega, firstF_all h⟩
def mLast (x : DLog) : Int := x.base + (x.entries.length : Int)
/-! ### clients -/
def mAck (x : DCustomer) : Int := if 0 < x.waits.length then (x.waits.getD 0 default).seq - 1 else x.next - 1
def mHello (x : DCustomer) : ByteArray × Int := if mCust x = 0 then mEnc ⟨1, x.id, 0, 0, 0, zOp⟩ else (emp, mCust x)
def mReq (x : DCustomer) (k : Int) : ByteArray × Int :=
  if mCust x = 0 then (if 0 ≤ k ∧ k < x.waits.length then mEnc ⟨2, x.id, x.session, (x.waits.getD k.toNat default).seq, mAck x, (x.waits.getD k.toNat default).op⟩ else (emp, 6)) else (emp, mCust x)
def zCust : DCustomer := ⟨0, 0, 0, []⟩
def mStart (x : DCustomer) (o : DOp) : DCustomer × Int :=
  if ¬ mCust x = 0 then (zCust, mCust x) else if x.session = 0 then (zCust, 11) else if ¬ mOp o = 0 then (zCust, mOp o) else
  if 1048576 < x.next ∨ mAck x + 4 < x.next then (zCust, 8) else (⟨x.id, x.session, x.next + 1, x.waits ++ [⟨x.next, o⟩]⟩, 0)
theorem mCust_bd {x : DCustomer} (h : mCust x = 0) : 1 ≤ x.id ∧ x.id ≤ 9 ∧ 0 ≤ x.session ∧ x.session ≤ 1073741824 ∧ 1 ≤ x.next ∧ x.next ≤ 1048577 ∧ x.waits.length ≤ 4 ∧ (x.session = 0 → x.waits.length = 0) ∧ ∀ j, j < x.waits.length → custF x j = 0 := by
  unfold mCust at h
  split at h
  · cases h
  split at h
  · cases h
  exact ⟨by omega, by omega, by omega, by omega, by omega, by omega, by omega, by omega, firstF_all h⟩
/-! ### who has a lock -/
def mWho (l : List DLock) (t : ByteArray) : Int × Int × Int :=
  if mLocks l = 0 then
    (if 0 ≤ mIdx (fun x : DLock => decide (x.name = t)) l ∧ ¬ (l.getD (mIdx (fun x : DLock => decide (x.name = t)) l).toNat default).holder = 0 then ((l.getD (mIdx (fun x : DLock => decide (x.name = t)) l).toNat default).holder, (l.getD (mIdx (fun x : DLock => decide (x.name = t)) l).toNat default).fence, 0) else (0, 0, 0))
  else (0, 0, mLocks l)
/-- searches on things with slices, and on what they say -/
theorem mIdx_map {α β : Type} (f : α → β) (p : β → Bool) (L : List α) : mIdx (fun x => p (f x)) L = mIdx p (L.map f) := by
  unfold mIdx
  rw [List.findIdx_map, List.length_map]
  rfl
theorem getD_map {α β : Type} [Inhabited α] [Inhabited β] (f : α → β) (hf : f default = default) (L : List α) (i : Nat) : (L.map f).getD i default = f (L.getD i default) := by
  rw [List.getD_eq_getElem?_getD, List.getD_eq_getElem?_getD, List.getElem?_map]
  cases L[i]? with
  | none => exact hf.symm
  | some x => rfl
theorem srt_map {α β : Type} [Inhabited α] [Inhabited β] {f : α → β} (hf : f default = default) {c : β → Int} {L : List α} (h : Srt c (L.map f)) : Srt (fun x => c (f x)) L := fun i j hij hj h0 => by
  have := h i j hij (by rw [List.length_map]; exact hj) (by rw [getD_map f hf]; exact h0)
  rwa [getD_map f hf] at this
theorem bsf_lock {L : List CLock} (h : mLocks (L.map CLock.abs) = 0) (t : ByteArray) : mBSf (fun x : CLock => cmpS x.name t) L = decide (0 ≤ mIdx (fun x : DLock => decide (x.name = t)) (L.map CLock.abs)) ∧ (mBSf (fun x : CLock => cmpS x.name t) L = true → (mBS (fun x : CLock => cmpS x.name t) L : Int) = mIdx (fun x : DLock => decide (x.name = t)) (L.map CLock.abs)) := by
  have hs : Srt (fun x : CLock => cmpS x.name t) L := srt_map (f := CLock.abs) rfl (locks_srt h t)
  have := bs_srt hs
  rw [name_pred CLock.name t] at this
  have e : mIdx (fun x : CLock => decide (x.name = t)) L = mIdx (fun x : DLock => decide (x.name = t)) (L.map CLock.abs) := mIdx_map CLock.abs (fun y : DLock => decide (y.name = t)) L
  rwa [e] at this
end Go.Proofs.YtbjakddkfgjkaaaGreat.Fw
namespace Go.Proofs.YtbjakddkfgjkaaaGreat.Fw
theorem mTell_bd (s : ByteArray) : (mTell s).1.size ≤ s.size ∧ (mTell s).2.1.size ≤ s.size := by
  have h := mRead_bd s
  unfold mTell
  split
  · simp [emp_size]
  · split
    · simp [emp_size]
    · split
      · simp [emp_size]
      · simp only [ByteArray.size_extract]
        omega
end Go.Proofs.YtbjakddkfgjkaaaGreat.Fw

namespace Go.Proofs.YtbjakddkfgjkaaaGreat.Fw
open Go.RowKit
/-! ### mails to clients -/
def mHear (x : DCustomer) (m : DMail) : DCustomer × Int :=
  if ¬ mCust x = 0 then (zCust, mCust x) else if ¬ m.client = x.id then (zCust, 6) else
  if m.seq = 0 then
    (if 0 < x.session then (zCust, 12) else
     if m.reply.code = 0 ∨ m.reply.code = 7 then (if m.reply.n < 1 ∨ 1073741824 < m.reply.n then (zCust, 2) else (⟨x.id, m.reply.n, x.next, x.waits⟩, 0)) else (x, 0))
  else if mIdx (fun z : DWait => decide (z.seq = m.seq)) x.waits < 0 then (zCust, 12)
  else if m.reply.code = 11 then (⟨x.id, 0, x.next, []⟩, 0)
  else (⟨x.id, x.session, x.next, x.waits.filter fun z => !decide (z.seq = m.seq)⟩, 0)
/-- what is there once, taken out -/
theorem filter_one {α : Type} [Inhabited α] {p : α → Bool} {L : List α} {k : Nat} (hk : k < L.length) (hp : p (L.getD k default) = true) (h : ∀ j, j < L.length → ¬ j = k → p (L.getD j default) = false) : L.take k ++ L.drop (k + 1) = L.filter fun z => !p z := by
  have e : L = L.take k ++ (L.getD k default :: L.drop (k + 1)) := by
    have h1 : L.drop k = L.getD k default :: L.drop (k + 1) := by
      rw [List.drop_eq_getElem_cons hk, List.getD_eq_getElem?_getD, List.getElem?_eq_getElem hk]; rfl
    rw [← h1, List.take_append_drop]
  have h2 : (L.take k).filter (fun z => !p z) = L.take k := filter_take (by omega) fun j hj => h j (by omega) (by omega)
  have h3 : (L.drop (k + 1)).filter (fun z => !p z) = L.drop (k + 1) := by
    rw [List.filter_eq_self]
    intro z hz
    obtain ⟨j, hj, rfl⟩ := List.getElem_of_mem hz
    rw [List.length_drop] at hj
    have h4 := h (k + 1 + j) (by omega) (by omega)
    rw [List.getD_eq_getElem?_getD, List.getElem?_eq_getElem (by omega)] at h4
    rw [List.getElem_drop]
    simpa using h4
  have h5 : (L.take k ++ (L.getD k default :: L.drop (k + 1))).filter (fun z => !p z) = L.take k ++ L.drop (k + 1) := by
    rw [List.filter_append, h2, List.filter_cons, hp, h3]; rfl
  rw [← e] at h5
  exact h5.symm
/-- numbers that rise differ -/
theorem rise_lt {f : Nat → Int} {n : Nat} (h : ∀ i, 0 < i → i < n → f (i - 1) < f i) : ∀ d i, i + d + 1 < n → f i < f (i + d + 1)
  | 0, i, hi => by have := h (i + 1) (by omega) (by omega); simpa using this
  | d + 1, i, hi => by
    have h1 := rise_lt h d i (by omega)
    have h2 := h (i + d + 1 + 1) (by omega) (by omega)
    simp only [Nat.add_sub_cancel] at h2
    have e : i + (d + 1) + 1 = i + d + 1 + 1 := by omega
    rw [e]
    omega
/-! ### a session that is left -/
def zRep : DReply := ⟨0, 0, emp⟩
def mLeave (l : List DSession) (index client : Int) : List DSession × DReply × Int :=
  if ¬ mSess l index = 0 then ([], zRep, mSess l index) else
  if mIdx (fun x : DSession => decide (x.client = client)) l < 0 then (l, ⟨11, 0, emp⟩, 0) else
  (l.take (mIdx (fun x : DSession => decide (x.client = client)) l).toNat ++ l.drop ((mIdx (fun x : DSession => decide (x.client = client)) l).toNat + 1), zRep, 0)
theorem sess_rise {l : List DSession} {index : Int} (h : mSess l index = 0) : ∀ i, 0 < i → i < l.length → (l.getD (i - 1) default).client < (l.getD i default).client := fun i h0 hi => (sessF_bd ((mSess_bd h).2.2.2 i hi)).2.2.2.2.2.2.2.2 h0
/-- the search by a client's number -/
theorem wrap_sub0 {a b : Int} (ha : inR a) (hb : inR b) : IntKind.i64.wrap (a - b) = 0 ↔ a = b := by
  rw [IntKind.wrap_i64]
  unfold inR at ha hb
  omega
theorem sess_srt {l : List DSession} {index : Int} (h : mSess l index = 0) {t : Int} (ht : 1 ≤ t ∧ t ≤ 9) : Srt (fun x : DSession => IntKind.i64.wrap (x.client - t)) l := fun i j hij hj h0 => by
  have hi : i < l.length := by omega
  have h1 := sessF_bd ((mSess_bd h).2.2.2 i hi)
  have h2 := sessF_bd ((mSess_bd h).2.2.2 j hj)
  have h3 := rise_lt (f := fun i => (l.getD i default).client) (n := l.length) (sess_rise h) (j - i - 1) i (by omega)
  rw [show i + (j - i - 1) + 1 = j by omega] at h3
  have e1 : IntKind.i64.wrap ((l.getD i default).client - t) = (l.getD i default).client - t := wrap64_id ⟨by omega, by omega⟩
  have e2 : IntKind.i64.wrap ((l.getD j default).client - t) = (l.getD j default).client - t := wrap64_id ⟨by omega, by omega⟩
  have h0' : 0 ≤ IntKind.i64.wrap ((l.getD i default).client - t) := h0
  show 0 < IntKind.i64.wrap ((l.getD j default).client - t)
  rw [e1] at h0'
  rw [e2]
  have h3' : (l.getD i default).client < (l.getD j default).client := h3
  omega
theorem bsf_sess {L : List CSession} {index t : Int} (h : mSess (L.map CSession.abs) index = 0) (ht : inR t) : mBSf (fun x : CSession => IntKind.i64.wrap (x.client - t)) L = decide (0 ≤ mIdx (fun x : DSession => decide (x.client = t)) (L.map CSession.abs)) ∧ (mBSf (fun x : CSession => IntKind.i64.wrap (x.client - t)) L = true → (mBS (fun x : CSession => IntKind.i64.wrap (x.client - t)) L : Int) = mIdx (fun x : DSession => decide (x.client = t)) (L.map CSession.abs)) := by
  have hall : ∀ j, j < L.length → 1 ≤ (L.getD j default).client ∧ (L.getD j default).client ≤ 9 := fun j hj => by
    have := sessF_bd ((mSess_bd h).2.2.2 j (by rw [List.length_map]; exact hj))
    rw [getD_map CSession.abs rfl] at this
    exact ⟨this.1, this.2.1⟩
  have hp : ∀ j, j < L.length → (IntKind.i64.wrap ((L.getD j default).client - t) = 0 ↔ (L.getD j default).client = t) := fun j hj => wrap_sub0 ⟨by have := hall j hj; omega, by have := hall j hj; omega⟩ ht
  have e : mIdx (fun x : CSession => decide (IntKind.i64.wrap (x.client - t) = 0)) L = mIdx (fun x : DSession => decide (x.client = t)) (L.map CSession.abs) := by
    rw [← mIdx_map CSession.abs]
    rcases mIdx_cases (fun x : CSession => decide (IntKind.i64.wrap (x.client - t) = 0)) L with ⟨h1, h2⟩ | ⟨i, h1, h2, h3, h4⟩
    · rw [h1]
      exact (mIdxL_none (p := fun x : CSession => decide (x.abs.client = t)) fun j hj => decide_eq_false fun e => of_decide_eq_false (h2 j hj) ((hp j hj).2 e)).symm
    · rw [h2]
      exact (mIdxL_here (p := fun x : CSession => decide (x.abs.client = t)) h1 (decide_eq_true ((hp i h1).1 (of_decide_eq_true h3))) fun j hj => decide_eq_false fun e => of_decide_eq_false (h4 j hj) ((hp j (by omega)).2 e)).symm
  by_cases ht2 : 1 ≤ t ∧ t ≤ 9
  · have hs : Srt (fun x : CSession => IntKind.i64.wrap (x.client - t)) L := srt_map (f := CSession.abs) rfl (sess_srt h ht2)
    have := bs_srt hs
    rwa [e] at this
  · have := bs_none (c := fun x : CSession => IntKind.i64.wrap (x.client - t)) (L := L) fun j hj h0 => by
      have h1 := hall j hj
      have h2 := (hp j hj).1 h0
      omega
    rw [e] at this
    rw [this.1, this.2]
    exact ⟨rfl, fun h => by cases h⟩
end Go.Proofs.YtbjakddkfgjkaaaGreat.Fw
namespace Go.Proofs.YtbjakddkfgjkaaaGreat.Fw
end Go.Proofs.YtbjakddkfgjkaaaGreat.Fw

namespace Go.Proofs.YtbjakddkfgjkaaaGreat.Fw
open Go.RowKit
/-! ### a lock that is given up -/
def mPass (d : DLock) : DLock := if 0 < d.line.length ∧ d.fence < 1073741824 then ⟨d.name, d.line.getD 0 default, d.fence + 1, d.line.drop 1⟩ else ⟨d.name, 0, d.fence, []⟩
/-- one is not in the line any more -/
def unline (l : List Int) (who : Int) : List Int := l.filter fun z => !decide (z = who)
def goneF (who : Int) (d : DLock) : DLock := if d.holder = who then mPass ⟨d.name, d.holder, d.fence, unline d.line who⟩ else ⟨d.name, d.holder, d.fence, unline d.line who⟩
def mGone (l : List DLock) (who : Int) : List DLock × Int := if ¬ mLocks l = 0 then ([], mLocks l) else if who < 1 ∨ 9 < who then ([], 2) else (l.map (goneF who), 0)
/-- a line that may be: nobody stands twice -/
theorem line_one {d : DLock} (h : lineOk d = true) {who : Int} {k : Nat} (hk : mIdx (fun z => decide (z = who)) d.line = (k : Int)) : d.line.take k ++ d.line.drop (k + 1) = unline d.line who := by
  simp only [lineOk, Bool.and_eq_true] at h
  have hpos := allTo_good h.1
  rcases mIdx_cases (fun z => decide (z = who)) d.line with ⟨h1, _⟩ | ⟨i, h1, h2, h3, h4⟩
  · omega
  · have : i = k := by omega
    subst this
    refine filter_one (p := fun z => decide (z = who)) h1 h3 fun j hj hji => ?_
    rcases Nat.lt_or_gt_of_ne hji with h5 | h5
    · exact h4 j h5
    · refine decide_eq_false fun e => ?_
      have h6 := hpos j hj
      simp only [posOk, Bool.and_eq_true, Bool.not_eq_true', List.any_eq_false, decide_eq_true_eq] at h6
      refine h6.2.2 (d.line.getD i default) ?_ ((of_decide_eq_true h3).trans e.symm)
      rw [List.getD_eq_getElem?_getD, List.getElem?_eq_getElem h1]
      refine List.mem_iff_getElem?.2 ⟨i, ?_⟩
      rw [List.getElem?_take, if_pos h5, List.getElem?_eq_getElem h1]
      rfl
theorem line_none {l : List Int} {who : Int} (h : mIdx (fun z => decide (z = who)) l < 0) : unline l who = l := by
  rcases mIdx_cases (fun z => decide (z = who)) l with ⟨h1, _⟩ | ⟨i, _, h2, _⟩
  · exact delF_none h1
  · omega
def passC (x : CLock) : CLock := if 0 < x.line.n ∧ x.fence < 1073741824 then ⟨x.name, x.line.at 0, x.fence + 1, ⟨offA x.line.A x.line.c 1 1, x.line.c - 1, x.line.xs.drop 1⟩⟩ else ⟨x.name, 0, x.fence, Sl.nil⟩
theorem passC_abs (x : CLock) : (passC x).abs = mPass x.abs := by
  unfold passC mPass
  have h1 : x.abs.line = x.line.xs := rfl
  have h2 : x.abs.fence = x.fence := rfl
  rw [h1, h2]
  split <;> rfl
theorem CellsAt.off {w : World} {a : Addr} {vs : List Value} (h : CellsAt w a vs) (o : Nat) : CellsAt w (a.add o) (vs.drop o) := by
  have := h.part o vs.length
  rwa [List.take_of_length_le (by rw [List.length_drop]; omega)] at this
theorem Sl.rd.dropI {B : Nat → Prop} {w : World} {s : Sl Int} (h : s.rd B w) (hn : 0 < s.n) : Sl.rd B w (⟨offA s.A s.c 1 1, s.c - 1, s.xs.drop 1⟩ : Sl Int) := by
  have hl : (s.xs.drop 1).length = s.n - 1 := List.length_drop ..
  refine ⟨by show (s.xs.drop 1).length ≤ s.c - 1; have := h.1; omega, by show s.c - 1 ≤ maxLen; have := h.2.1; omega, fun i x hx => ?_⟩
  rw [List.getElem?_drop] at hx
  obtain ⟨⟨a, ha, hB, hc⟩, _⟩ := h.2.2 (1 + i) x hx
  have hi : 1 + i < s.n := (List.getElem?_eq_some_iff.1 hx).1
  have hne : ¬ s.c = 1 := by have := h.1; omega
  refine ⟨⟨a.add 1, ?_, by rw [add_block]; exact hB, ?_⟩, trivial⟩
  · show offA s.A s.c 1 1 = _
    unfold offA
    rw [if_neg hne, ha]
    rfl
  · rw [addr_add]
    have e : (1 + i) * Lay.size Int = 1 + i * Lay.size Int := by show (1 + i) * 1 = 1 + i * 1; omega
    rw [← e]
    exact hc
end Go.Proofs.YtbjakddkfgjkaaaGreat.Fw

namespace Go.Proofs.YtbjakddkfgjkaaaGreat.Fw
open Go.RowKit
def zLog : DLog := ⟨0, []⟩
def mCut (x : DLog) (i : Int) : DLog × Int :=
  if ¬ mLog x = 0 then (zLog, mLog x) else if i < x.base ∨ mLast x < i then (zLog, 2) else if 1073741424 < i then (zLog, 8) else (⟨i, x.entries.drop (i - x.base).toNat⟩, 0)
def mBehind (x : DLog) (i many : Int) : List ByteArray × Int :=
  if ¬ mLog x = 0 then ([], mLog x) else if i < x.base ∨ many < 0 then ([], 2) else ((x.entries.drop (i - x.base).toNat).take many.toNat, 0)
def putOne (E : List ByteArray) (k : Nat) (s : ByteArray) : List ByteArray := if k < E.length ∧ E.getD k default = s then E else E.take k ++ [s]
def putGo : List ByteArray → Nat → List ByteArray → List ByteArray × Int
  | E, _, [] => (E, 0)
  | E, k, s :: r => if ¬ (mDecode s).2 = 0 then ([], (mDecode s).2) else putGo (putOne E k s) (k + 1) r
def mPut (x : DLog) (behind : Int) (more : List ByteArray) : DLog × Int :=
  if ¬ mLog x = 0 then (zLog, mLog x) else if behind < 0 ∨ 1073741824 < behind then (zLog, 2) else if 400 < more.length then (zLog, 1) else if mLast x < behind then (zLog, 13) else
  if ¬ (putGo x.entries (behind - x.base).toNat (more.drop (x.base - behind).toNat)).2 = 0 then (zLog, (putGo x.entries (behind - x.base).toNat (more.drop (x.base - behind).toNat)).2) else
  if 400 < (putGo x.entries (behind - x.base).toNat (more.drop (x.base - behind).toNat)).1.length then (zLog, 8) else
  (⟨x.base, (putGo x.entries (behind - x.base).toNat (more.drop (x.base - behind).toNat)).1⟩, 0)
end Go.Proofs.YtbjakddkfgjkaaaGreat.Fw
namespace Go.Proofs.YtbjakddkfgjkaaaGreat.Fw
end Go.Proofs.YtbjakddkfgjkaaaGreat.Fw
namespace Go.Proofs.YtbjakddkfgjkaaaGreat.Fw
theorem inR_of_wf {n : Int} (h : (Lit.int .i64 n).wf = true) : inR n := by
  have h1 : IntKind.i64.min = -9223372036854775808 := by decide
  have h2 : IntKind.i64.max = 9223372036854775807 := by decide
  simp only [Lit.wf, h1, h2, Bool.and_eq_true, decide_eq_true_eq] at h
  exact h
end Go.Proofs.YtbjakddkfgjkaaaGreat.Fw
namespace Go.Proofs.YtbjakddkfgjkaaaGreat.Fw
theorem Sl.rd.drop {α : Type} [Lay α] {B : Nat → Prop} {w : World} {s : Sl α} (h : s.rd B w) (k : Nat) (hk : k ≤ s.n) : Sl.rd B w (⟨offA s.A s.c k (Lay.size α), s.c - k, s.xs.drop k⟩ : Sl α) := by
  have hl : (s.xs.drop k).length = s.n - k := List.length_drop ..
  refine ⟨by show (s.xs.drop k).length ≤ s.c - k; have := h.1; omega, by show s.c - k ≤ maxLen; have := h.2.1; omega, fun i x hx => ?_⟩
  rw [List.getElem?_drop] at hx
  obtain ⟨⟨a, ha, hB, hc⟩, h2⟩ := h.2.2 (k + i) x hx
  have hi : k + i < s.n := (List.getElem?_eq_some_iff.1 hx).1
  have hne : ¬ s.c = k := by have := h.1; omega
  refine ⟨⟨a.add (k * Lay.size α), ?_, by rw [add_block]; exact hB, ?_⟩, h2⟩
  · show offA s.A s.c k (Lay.size α) = _
    unfold offA
    rw [if_neg hne, ha]
    rfl
  · rw [addr_add, ← Nat.add_mul]
    exact hc
end Go.Proofs.YtbjakddkfgjkaaaGreat.Fw
namespace Go.Proofs.YtbjakddkfgjkaaaGreat.Fw
end Go.Proofs.YtbjakddkfgjkaaaGreat.Fw

namespace Go.Proofs.YtbjakddkfgjkaaaGreat.Fw
open Go.RowKit
/-! ### states as bytes -/
def mNums (l : List Int) : ByteArray := l.foldl (fun b n => b ++ (mNumber n).1) emp
def mTextB (s : ByteArray) : ByteArray := (mText s).1
theorem foldl_take {α β : Type} [Inhabited α] (f : β → α → β) (b : β) (l : List α) {i : Nat} (h : i < l.length) : (l.take (i + 1)).foldl f b = f ((l.take i).foldl f b) (l.getD i default) := by
  rw [List.take_add_one, List.foldl_append, List.getElem?_eq_getElem h, List.getD_eq_getElem?_getD, List.getElem?_eq_getElem h]
  rfl
theorem append_emp (x : ByteArray) : x ++ emp = x := by
  apply ByteArray.ext
  simp [emp]
def lockS (b : ByteArray) (d : DLock) : ByteArray := b ++ mTextB d.name ++ mNums [d.holder, d.fence, (d.line.length : Int)] ++ mNums d.line
def pairS (b : ByteArray) (d : DPair) : ByteArray := b ++ mTextB d.name ++ mTextB d.value ++ mNums [d.version]
def keptS (b : ByteArray) (d : DKept) : ByteArray := b ++ mNums [d.seq, d.reply.code, d.reply.n] ++ mTextB d.reply.text
def sessS (b : ByteArray) (d : DSession) : ByteArray := d.replies.foldl keptS (b ++ mNums [d.client, d.id, d.acked, d.last, (d.replies.length : Int)])
def mSnapB (s : DState) : ByteArray :=
  s.sessions.foldl sessS (s.pairs.foldl pairS (s.locks.foldl lockS (mNums [s.index, (s.locks.length : Int)]) ++ mNums [(s.pairs.length : Int)]) ++ mNums [(s.sessions.length : Int)])
def mSnap (s : DState) : ByteArray × Int := if mState s = 0 then (mSnapB s ++ mSeal (mSnapB s), 0) else (emp, mState s)
theorem replies_len {d : DSession} (h : mReplies d = true) : d.replies.length ≤ 4 := by
  have hk := allTo_good h
  have key : ∀ j, j < d.replies.length → d.acked + (j : Int) + 1 ≤ (d.replies.getD j default).seq := by
    intro j
    induction j with
    | zero =>
      intro hj
      have h1 := hk 0 hj
      simp only [keptOk, decide_eq_true_eq] at h1
      omega
    | succ j ih =>
      intro hj
      have h1 := hk (j + 1) hj
      simp only [keptOk, decide_eq_true_eq] at h1
      have h2 := h1.2.2.1 (by omega)
      have h3 := ih (by omega)
      have e : j + 1 - 1 = j := rfl
      rw [e] at h2
      omega
  rcases Nat.lt_or_ge 4 d.replies.length with h4 | h4
  · have h1 := key 4 h4
    have h2 := hk 4 h4
    simp only [keptOk, decide_eq_true_eq] at h2
    omega
  · exact h4
theorem mState_bd {x : DState} (h : mState x = 0) : x.locks.length ≤ 5 ∧ x.pairs.length ≤ 5 ∧ x.sessions.length ≤ 4 ∧ (∀ j, j < x.locks.length → (x.locks.getD j default).line.length ≤ 3) ∧ (∀ j, j < x.sessions.length → (x.sessions.getD j default).replies.length ≤ 4) := by
  have hs : mSess x.sessions x.index = 0 := by
    unfold mState at h
    split at h
    · assumption
    · exact h
  have hl : mLocks x.locks = 0 := by
    unfold mState at h
    rw [if_pos hs] at h
    split at h
    · assumption
    · exact h
  have hp : mPairs x.pairs = 0 := by
    unfold mState at h
    rw [if_pos hs, if_pos hl] at h
    exact h
  have h1 := mSess_bd hs
  have hl5 : x.locks.length ≤ 5 := by
    unfold mLocks at hl
    split at hl
    · cases hl
    · omega
  have hp5 : x.pairs.length ≤ 5 := by
    unfold mPairs at hp
    split at hp
    · cases hp
    · omega
  refine ⟨hl5, hp5, h1.2.2.1, fun j hj => ?_, fun j hj => ?_⟩
  · unfold mLocks at hl
    rw [if_neg (by omega)] at hl
    have h2 := firstF_all hl j hj
    unfold lockF at h2
    split at h2
    · cases h2
    · rename_i h3
      have h4 : lineOk (x.locks.getD j default) = true := by
        cases h5 : lineOk (x.locks.getD j default) with
        | true => rfl
        | false => exact absurd (.inr (.inr (.inr h5))) h3
      simp only [lineOk, Bool.and_eq_true, decide_eq_true_eq] at h4
      exact h4.2.1
  · have h2 := h1.2.2.2 j hj
    unfold sessF at h2
    split at h2
    · cases h2
    · split at h2
      · cases h2
      · rename_i h3
        refine replies_len ?_
        cases h4 : mReplies (x.sessions.getD j default) with
        | true => rfl
        | false => exact absurd h4 h3
end Go.Proofs.YtbjakddkfgjkaaaGreat.Fw

namespace Go.Proofs.YtbjakddkfgjkaaaGreat.Fw
open Go.RowKit
/-! ### one laid in, ahead of the first that is greater -/
def mIns {α : Type} (p : α → Bool) (x : α) (l : List α) : List α := l.take (l.findIdx p) ++ [x] ++ l.drop (l.findIdx p)
theorem findIdx_any {α : Type} {p : α → Bool} {l : List α} (h : l.any p = false) : l.findIdx p = l.length := by
  have h1 : ¬ l.findIdx p < l.length := fun hlt => by
    have := List.findIdx_lt_length.1 hlt
    rw [List.any_eq_true.2 this] at h
    cases h
  have := List.findIdx_le_length (p := p) (xs := l)
  omega
theorem ins_none {α : Type} {p : α → Bool} {x : α} {l : List α} (h : l.any p = false) : mIns p x l = l ++ [x] := by
  unfold mIns
  rw [findIdx_any h, List.take_length, List.drop_length, List.append_nil]
theorem ins_hit {α : Type} {p : α → Bool} {x y : α} {l : List α} (h : l.any p = false) (hy : p y = true) : mIns p x (l ++ [y]) = l ++ [x] ++ [y] := by
  unfold mIns
  have e : (l ++ [y]).findIdx p = l.length := by
    rw [List.findIdx_append, findIdx_any h, if_neg (Nat.lt_irrefl _)]
    simp [List.findIdx_cons, hy]
  rw [e, List.take_left, List.drop_left]
theorem ins_more {α : Type} {p : α → Bool} {x y : α} {l : List α} (h : l.any p = true) : mIns p x (l ++ [y]) = mIns p x l ++ [y] := by
  have hlt : l.findIdx p < l.length := List.findIdx_lt_length.2 (List.any_eq_true.1 h)
  unfold mIns
  have e : (l ++ [y]).findIdx p = l.findIdx p := by rw [List.findIdx_append, if_pos hlt]
  rw [e, List.take_append_of_le_length (Nat.le_of_lt hlt), List.drop_append_of_le_length (Nat.le_of_lt hlt)]
  simp
theorem ins_map {α β : Type} (f : α → β) (p : β → Bool) (x : α) (L : List α) : (mIns (fun y => p (f y)) x L).map f = mIns p (f x) (L.map f) := by
  unfold mIns
  have e : (L.map f).findIdx p = L.findIdx (fun y => p (f y)) := by rw [List.findIdx_map]; rfl
  rw [e]
  simp [List.map_take, List.map_drop]
theorem ins_len {α : Type} (p : α → Bool) (x : α) (l : List α) : (mIns p x l).length = l.length + 1 := by
  have := List.findIdx_le_length (p := p) (xs := l)
  unfold mIns
  simp only [List.length_append, List.length_take, List.length_drop, List.length_cons, List.length_nil]
  omega
theorem ins_mem {α : Type} {p : α → Bool} {x y : α} {l : List α} (h : y ∈ mIns p x l) : y = x ∨ y ∈ l := by
  unfold mIns at h
  simp only [List.mem_append, List.mem_singleton] at h
  rcases h with (h | h) | h
  · exact .inr (List.mem_of_mem_take h)
  · exact .inl h
  · exact .inr (List.mem_of_mem_drop h)
/-- where the search that halves would lay it -/
theorem ins_bs {α : Type} [Inhabited α] {c : α → Int} {L : List α} (h : Srt c L) (hz : ∀ j, j < L.length → ¬ c (L.getD j default) = 0) {p : α → Bool} (hp : ∀ j, j < L.length → p (L.getD j default) = decide (0 < c (L.getD j default))) : L.findIdx p = mBS c L := by
  obtain ⟨h1, h2⟩ := mBS_spec h
  rcases Nat.lt_or_ge (mBS c L) L.length with hlt | hge
  · rw [List.findIdx_eq hlt]
    have hg : ∀ j (hj : j < L.length), L[j] = L.getD j default := fun j hj => by rw [List.getD_eq_getElem?_getD, List.getElem?_eq_getElem hj]; rfl
    refine ⟨?_, fun j hj => ?_⟩
    · rw [hg _ hlt, hp _ hlt]
      have := h2 _ (Nat.le_refl _) hlt
      have := hz _ hlt
      exact decide_eq_true (by omega)
    · rw [hg _ (by omega), hp _ (by omega)]
      have := h1 j hj
      exact decide_eq_false (by omega)
  · have hle := mBS_le c L
    have he : mBS c L = L.length := by omega
    rw [he]
    refine findIdx_any ?_
    rw [List.any_eq_false]
    intro x hx
    obtain ⟨j, hj, rfl⟩ := List.getElem_of_mem hx
    have hg : L[j] = L.getD j default := by rw [List.getD_eq_getElem?_getD, List.getElem?_eq_getElem hj]; rfl
    intro h9
    rw [hg, hp _ hj] at h9
    have h10 := of_decide_eq_true h9
    have := h1 j (by omega)
    omega
theorem ins_at {α : Type} {p : α → Bool} {x : α} {L : List α} {i : Nat} (h : L.findIdx p = i) : L.take i ++ [x] ++ L.drop i = mIns p x L := by unfold mIns; rw [h]
/-! ### sessions: a client joins, asks, is answered -/
def sIdx (l : List DSession) (client : Int) : Int := mIdx (fun x : DSession => decide (x.client = client)) l
def mJoin (l : List DSession) (index client : Int) : List DSession × DReply × Int :=
  if ¬ mSess l index = 0 then ([], zRep, mSess l index) else
  if client < 1 ∨ 9 < client ∨ 1073741824 ≤ index then ([], zRep, 2) else
  if 0 ≤ sIdx l client then
    (l.set (sIdx l client).toNat { l.getD (sIdx l client).toNat default with last := index + 1 }, ⟨7, (l.getD (sIdx l client).toNat default).id, emp⟩, 0)
  else if 4 ≤ l.length then (l, ⟨8, 0, emp⟩, 0) else
  (mIns (fun x : DSession => decide (client < x.client)) ⟨client, index + 1, 0, index + 1, []⟩ l, ⟨0, index + 1, emp⟩, 0)
def kAck (d : DSession) (c : DCommand) : Int := if d.acked < c.acked then c.acked else d.acked
def kLeft (d : DSession) (c : DCommand) : List DKept := d.replies.filter fun k => !decide (k.seq ≤ kAck d c)
def kSess (d : DSession) (index : Int) (c : DCommand) : DSession := ⟨d.client, d.id, kAck d c, index + 1, kLeft d c⟩
def kIdx (l : List DKept) (seq : Int) : Int := mIdx (fun k : DKept => decide (k.seq = seq)) l
def kAns (d : DSession) (c : DCommand) : DReply × Bool :=
  if c.seq ≤ kAck d c then (⟨12, 0, emp⟩, false) else
  if 0 ≤ kIdx (kLeft d c) c.seq then (((kLeft d c).getD (kIdx (kLeft d c) c.seq).toNat default).reply, false) else
  if kAck d c + 4 < c.seq then (⟨2, 0, emp⟩, false) else (zRep, true)
def mReady (l : List DSession) (index : Int) (c : DCommand) : List DSession × DReply × Bool × Int :=
  if ¬ mSess l index = 0 then ([], zRep, false, mSess l index) else
  if 1073741824 ≤ index ∨ c.seq < 1 ∨ 1048576 < c.seq ∨ c.acked < 0 ∨ c.seq ≤ c.acked then ([], zRep, false, 2) else
  if sIdx l c.client < 0 ∨ ¬ (l.getD (sIdx l c.client).toNat default).id = c.session then (l, ⟨11, 0, emp⟩, false, 0) else
  (l.set (sIdx l c.client).toNat (kSess (l.getD (sIdx l c.client).toNat default) index c), (kAns (l.getD (sIdx l c.client).toNat default) c).1, (kAns (l.getD (sIdx l c.client).toNat default) c).2, 0)
def kIns (d : DSession) (seq : Int) (r : DReply) : DSession := { d with replies := mIns (fun k : DKept => decide (seq < k.seq)) ⟨seq, r⟩ d.replies }
def mKeep (l : List DSession) (index client seq : Int) (r : DReply) : List DSession × Int :=
  if ¬ mSess l index = 0 then ([], mSess l index) else
  if sIdx l client < 0 then ([], 11) else
  if 0 ≤ kIdx (l.getD (sIdx l client).toNat default).replies seq then ([], 7) else
  if mReplies (kIns (l.getD (sIdx l client).toNat default) seq r) = false then ([], 2) else
  (l.set (sIdx l client).toNat (kIns (l.getD (sIdx l client).toNat default) seq r), 0)
/-- of what is kept all is above what is known -/
theorem kept_above {d : DSession} (h : mReplies d = true) : d.replies.filter (fun k => !decide (k.seq ≤ d.acked)) = d.replies := by
  have hk := allTo_good h
  rw [List.filter_eq_self]
  intro x hx
  obtain ⟨j, hj, rfl⟩ := List.getElem_of_mem hx
  have h1 := hk j hj
  simp only [keptOk, decide_eq_true_eq] at h1
  rw [List.getD_eq_getElem?_getD, List.getElem?_eq_getElem hj] at h1
  simp only [Option.getD_some] at h1
  simp
  omega
/-- what is kept may be kept: each one -/
theorem kept_in {d : DSession} (h : mReplies d = true) {k : DKept} (hk : k ∈ d.replies) : d.acked < k.seq ∧ k.seq ≤ d.acked + 4 := by
  obtain ⟨j, hj, rfl⟩ := List.getElem_of_mem hk
  have h1 := allTo_good h j hj
  simp only [keptOk, decide_eq_true_eq] at h1
  rw [List.getD_eq_getElem?_getD, List.getElem?_eq_getElem hj] at h1
  simp only [Option.getD_some] at h1
  omega
theorem kept_rise {d : DSession} (h : mReplies d = true) : ∀ i, 0 < i → i < d.replies.length → (d.replies.getD (i - 1) default).seq < (d.replies.getD i default).seq := fun i h0 hi => by
  have h1 := allTo_good h i hi
  simp only [keptOk, decide_eq_true_eq] at h1
  exact h1.2.2.1 h0
/-! ### values by their names -/
def pIdx (l : List DPair) (t : ByteArray) : Int := mIdx (fun x : DPair => decide (x.name = t)) l
def mPSet (l : List DPair) (t v : ByteArray) : List DPair × DReply × Int :=
  if ¬ mPairs l = 0 then ([], zRep, mPairs l) else if mName t = false then ([], zRep, 4) else if 12 < v.size then ([], zRep, 1) else
  if 0 ≤ pIdx l t then
    (if 1073741824 ≤ (l.getD (pIdx l t).toNat default).version then (l, ⟨8, 0, emp⟩, 0) else
     (l.set (pIdx l t).toNat ⟨(l.getD (pIdx l t).toNat default).name, v, (l.getD (pIdx l t).toNat default).version + 1⟩, ⟨0, (l.getD (pIdx l t).toNat default).version + 1, emp⟩, 0))
  else if 5 ≤ l.length then (l, ⟨8, 0, emp⟩, 0) else
  (mIns (fun x : DPair => Op.bytesLess t.toList x.name.toList) ⟨t, v, 1⟩ l, ⟨0, 1, emp⟩, 0)
/-! ### locks: taken, given up -/
def lIdx (l : List DLock) (t : ByteArray) : Int := mIdx (fun x : DLock => decide (x.name = t)) l
def mAsk (l : List DLock) (t : ByteArray) (who : Int) : Int := if ¬ mLocks l = 0 then mLocks l else if mName t = false then 4 else if who < 1 ∨ 9 < who then 2 else 0
def lHas (d : DLock) (who : Int) : Bool := d.line.any fun z => decide (z = who)
/-- what taking does to a lock, and what is replied -/
def lTake (d : DLock) (who : Int) (wait : Bool) : DLock × DReply :=
  if d.holder = who then (d, ⟨0, d.fence, emp⟩) else
  if d.holder = 0 then (if 1073741824 ≤ d.fence then (d, ⟨8, 0, emp⟩) else (⟨d.name, who, d.fence + 1, d.line⟩, ⟨0, d.fence + 1, emp⟩)) else
  if wait = false ∨ lHas d who = true then (d, ⟨10, d.holder, emp⟩) else
  if 3 ≤ d.line.length then (d, ⟨8, 0, emp⟩) else (⟨d.name, d.holder, d.fence, d.line ++ [who]⟩, ⟨10, d.holder, emp⟩)
def mTake (l : List DLock) (t : ByteArray) (who : Int) (wait : Bool) : List DLock × DReply × Int :=
  if ¬ mAsk l t who = 0 then ([], zRep, mAsk l t who) else
  if lIdx l t < 0 then (if 5 ≤ l.length then (l, ⟨8, 0, emp⟩, 0) else (mIns (fun x : DLock => Op.bytesLess t.toList x.name.toList) ⟨t, who, 1, []⟩ l, ⟨0, 1, emp⟩, 0)) else
  (l.set (lIdx l t).toNat (lTake (l.getD (lIdx l t).toNat default) who wait).1, (lTake (l.getD (lIdx l t).toNat default) who wait).2, 0)
def lFree (d : DLock) (who : Int) : DLock × DReply :=
  if d.holder = who then (mPass d, ⟨0, (mPass d).holder, emp⟩) else
  if lHas d who = true then (⟨d.name, d.holder, d.fence, unline d.line who⟩, ⟨0, d.holder, emp⟩) else (d, ⟨10, d.holder, emp⟩)
def mFree (l : List DLock) (t : ByteArray) (who : Int) : List DLock × DReply × Int :=
  if ¬ mAsk l t who = 0 then ([], zRep, mAsk l t who) else
  if lIdx l t < 0 then (l, ⟨6, 0, emp⟩, 0) else
  (l.set (lIdx l t).toNat (lFree (l.getD (lIdx l t).toNat default) who).1, (lFree (l.getD (lIdx l t).toNat default) who).2, 0)
end Go.Proofs.YtbjakddkfgjkaaaGreat.Fw

namespace Go.Proofs.YtbjakddkfgjkaaaGreat.Fw
open Go.RowKit
/-- in the middle of laying one in, ahead of the first that is greater -/
structure InsI {α : Type} (p : α → Bool) (x : α) (S : List α) (k : Nat) (b : Bool) (L : List α) : Prop where
  le : k ≤ S.length
  any : (S.take k).any p = b
  eq : L = if b = true then mIns p x (S.take k) else S.take k
theorem InsI.start {α : Type} (p : α → Bool) (x : α) (S : List α) : InsI p x S 0 false [] := ⟨Nat.zero_le _, rfl, rfl⟩
theorem InsI.more {α : Type} [Inhabited α] {p : α → Bool} {x : α} {S L : List α} {k : Nat} {b : Bool} (h : InsI p x S k b L) (hb : b = true) (hk : k < S.length) : InsI p x S (k + 1) true (L ++ [S.getD k default]) := by
  subst hb
  refine ⟨hk, ?_, ?_⟩
  · rw [take_snocL hk, List.any_append, h.any]; rfl
  · have h1 := h.eq
    rw [if_pos rfl] at h1 ⊢
    rw [take_snocL hk, ins_more h.any, h1]
theorem InsI.hit {α : Type} [Inhabited α] {p : α → Bool} {x : α} {S L : List α} {k : Nat} {b : Bool} (h : InsI p x S k b L) (hb : b = false) (hk : k < S.length) (hy : p (S.getD k default) = true) : InsI p x S (k + 1) true (L ++ [x] ++ [S.getD k default]) := by
  subst hb
  refine ⟨hk, ?_, ?_⟩
  · rw [take_snocL hk, List.any_append, h.any, List.any_cons, hy]; rfl
  · have h1 := h.eq
    rw [if_neg (by simp)] at h1
    rw [if_pos rfl, take_snocL hk, ins_hit h.any hy, h1]
theorem InsI.skip {α : Type} [Inhabited α] {p : α → Bool} {x : α} {S L : List α} {k : Nat} {b : Bool} (h : InsI p x S k b L) (hb : b = false) (hk : k < S.length) (hy : p (S.getD k default) = false) : InsI p x S (k + 1) false (L ++ [S.getD k default]) := by
  subst hb
  refine ⟨hk, ?_, ?_⟩
  · rw [take_snocL hk, List.any_append, h.any, List.any_cons, hy]; rfl
  · have h1 := h.eq
    rw [if_neg (by simp)] at h1 ⊢
    rw [take_snocL hk, h1]
theorem InsI.len {α : Type} {p : α → Bool} {x : α} {S L : List α} {k : Nat} {b : Bool} (h : InsI p x S k b L) : L.length ≤ k + 1 := by
  have h1 := h.eq
  have h2 := h.le
  split at h1
  · rw [h1, ins_len, List.length_take]; omega
  · rw [h1, List.length_take]; omega
theorem InsI.fin1 {α : Type} {p : α → Bool} {x : α} {S L : List α} {k : Nat} {b : Bool} (h : InsI p x S k b L) (hb : b = true) (hk : S.length ≤ k) : L = mIns p x S := by
  subst hb
  have h1 := h.eq
  rwa [if_pos rfl, List.take_of_length_le hk] at h1
theorem InsI.fin0 {α : Type} {p : α → Bool} {x : α} {S L : List α} {k : Nat} {b : Bool} (h : InsI p x S k b L) (hb : b = false) (hk : S.length ≤ k) : L ++ [x] = mIns p x S := by
  subst hb
  have h1 := h.eq
  have h2 := h.any
  rw [if_neg (by simp), List.take_of_length_le hk] at h1
  rw [List.take_of_length_le hk] at h2
  rw [ins_none h2, h1]
theorem mIdx_neg {α : Type} [Inhabited α] {p : α → Bool} {L : List α} (h : mIdx p L < 0) : ∀ j, j < L.length → p (L.getD j default) = false := by
  rcases mIdx_cases p L with ⟨_, h2⟩ | ⟨i, _, h2, _⟩
  · exact h2
  · omega
theorem name_gt (y t : ByteArray) : Op.bytesLess t.toList y.toList = decide (0 < cmpS y t) := by
  have h := bytes_total y t
  have h1 := cmpS_lt y t
  have h2 := cmpS_eq y t
  cases hb : Op.bytesLess t.toList y.toList with
  | true =>
    rw [hb] at h
    simp only [Bool.not_true, Bool.or_eq_false_iff, decide_eq_false_iff_not] at h
    refine (decide_eq_true ?_).symm
    have h3 : ¬ cmpS y t < 0 := fun h4 => by rw [h1.1 h4] at h; cases h.1
    have h4 : ¬ cmpS y t = 0 := fun h5 => h.2 (h2.1 h5)
    omega
  | false =>
    rw [hb] at h
    simp only [Bool.not_false, Bool.or_eq_true, decide_eq_true_eq] at h
    refine (decide_eq_false ?_).symm
    rcases h with h | h
    · have := h1.2 h; omega
    · have := h2.2 h; omega
theorem ins_names {α : Type} [Inhabited α] {L : List α} (nm : α → ByteArray) {t : ByteArray} (h : Srt (fun x => cmpS (nm x) t) L) (hn : mIdx (fun x => decide (nm x = t)) L < 0) : L.findIdx (fun x => Op.bytesLess t.toList (nm x).toList) = mBS (fun x => cmpS (nm x) t) L :=
  ins_bs h (fun j hj h0 => of_decide_eq_false (mIdx_neg hn j hj) ((cmpS_eq _ _).1 h0)) (fun j _ => name_gt _ _)
theorem Sl.of_xs {α : Type} {y : Sl α} {L : List α} (h : y.xs = L) : ∃ A c, y = (⟨A, c, L⟩ : Sl α) := ⟨y.A, y.c, by cases y; cases h; rfl⟩
theorem mem_set {α : Type} {L : List α} {i : Nat} {x y : α} (h : y ∈ L.set i x) : y = x ∨ y ∈ L := (List.mem_or_eq_of_mem_set h).symm
end Go.Proofs.YtbjakddkfgjkaaaGreat.Fw

namespace Go.Proofs.YtbjakddkfgjkaaaGreat.Fw
open Go.RowKit
/-! ### bytes as states: 'q': what is left, and what went wrong first -/
abbrev RQ := ByteArray × Int
def rNum (q : RQ) : Int × RQ := if q.2 = 0 then ((mRead q.1).1, ((mRead q.1).2.1, (mRead q.1).2.2)) else (0, q)
def rTxt (q : RQ) : ByteArray × RQ := if q.2 = 0 then ((mTell q.1).1, ((mTell q.1).2.1, (mTell q.1).2.2)) else (emp, q)
def rMany (most : Int) (q : RQ) : Int × RQ :=
  if (rNum q).2.2 = 0 then (if most < (rNum q).1 then (0, ((rNum q).2.1, 1)) else rNum q) else (0, (rNum q).2)
def rIter {α : Type} (f : RQ → α × RQ) : Nat → RQ → List α × RQ
  | 0, q => ([], q)
  | n + 1, q => ((rIter f n q).1 ++ [(f (rIter f n q).2).1], (f (rIter f n q).2).2)
def rLock (q : RQ) : DLock × RQ :=
  let a := rTxt q
  let b := rNum a.2
  let c := rNum b.2
  let m := rMany 3 c.2
  let l := rIter rNum m.1.toNat m.2
  (⟨a.1, b.1, c.1, l.1⟩, l.2)
def rPair (q : RQ) : DPair × RQ :=
  let a := rTxt q
  let b := rTxt a.2
  let c := rNum b.2
  (⟨a.1, b.1, c.1⟩, c.2)
def rKept (q : RQ) : DKept × RQ :=
  let a := rNum q
  let b := rNum a.2
  let c := rNum b.2
  let d := rTxt c.2
  (⟨a.1, ⟨b.1, c.1, d.1⟩⟩, d.2)
def rSess (q : RQ) : DSession × RQ :=
  let a := rNum q
  let b := rNum a.2
  let c := rNum b.2
  let d := rNum c.2
  let m := rMany 4 d.2
  let l := rIter rKept m.1.toNat m.2
  (⟨a.1, b.1, c.1, d.1, l.1⟩, l.2)
def rState (q : RQ) : DState × RQ :=
  let a := rNum q
  let m1 := rMany 5 a.2
  let l1 := rIter rLock m1.1.toNat m1.2
  let m2 := rMany 5 l1.2
  let l2 := rIter rPair m2.1.toNat m2.2
  let m3 := rMany 4 l2.2
  let l3 := rIter rSess m3.1.toNat m3.2
  (⟨a.1, l1.1, l2.1, l3.1⟩, l3.2)
def zState : DState := ⟨0, [], [], []⟩
def mUnsnap (s : ByteArray) : DState × Int :=
  if 5000 < s.size then (zState, 1) else if s.size < 4 then (zState, 5) else
  if ¬ mSeal (s.extract 0 (s.size - 4)) = s.extract (s.size - 4) s.size then (zState, 15) else
  if (rState (s.extract 0 (s.size - 4), 0)).2.2 = 0 ∧ ¬ (rState (s.extract 0 (s.size - 4), 0)).2.1 = emp then (zState, 4) else
  if ¬ (rState (s.extract 0 (s.size - 4), 0)).2.2 = 0 then (zState, (rState (s.extract 0 (s.size - 4), 0)).2.2) else
  if ¬ mState (rState (s.extract 0 (s.size - 4), 0)).1 = 0 then (zState, mState (rState (s.extract 0 (s.size - 4), 0)).1) else
  ((rState (s.extract 0 (s.size - 4), 0)).1, 0)
/-- bounds: what is read is no longer than what there was -/
theorem rNum_bd (q : RQ) (B : Nat) (h : q.1.size ≤ B) : (rNum q).2.1.size ≤ B := by
  unfold rNum
  split
  · have := mRead_bd q.1
    simp only
    omega
  · exact h
theorem rTxt_bd (q : RQ) (B : Nat) (h : q.1.size ≤ B) : (rTxt q).2.1.size ≤ B ∧ (rTxt q).1.size ≤ B := by
  unfold rTxt
  split
  · have := mTell_bd q.1
    simp only
    omega
  · exact ⟨h, by rw [emp_size]; omega⟩
theorem rMany_bd (m : Int) (q : RQ) (B : Nat) (h : q.1.size ≤ B) : (rMany m q).2.1.size ≤ B := by
  have := rNum_bd q B h
  unfold rMany
  split
  · split <;> exact this
  · exact this
theorem rMany_n (m : Int) (hm : 0 ≤ m) (q : RQ) : 0 ≤ (rMany m q).1 ∧ (rMany m q).1 ≤ m := by
  unfold rMany
  split
  · rename_i h
    split
    · exact ⟨Int.le_refl _, hm⟩
    · rename_i h2
      refine ⟨?_, by omega⟩
      unfold rNum
      split
      · exact (mRead_bd q.1).1
      · exact Int.le_refl _
  · exact ⟨Int.le_refl _, hm⟩
theorem rIter_bd {α : Type} {f : RQ → α × RQ} {B : Nat} (hf : ∀ q : RQ, q.1.size ≤ B → (f q).2.1.size ≤ B) : ∀ (n : Nat) (q : RQ), q.1.size ≤ B → (rIter f n q).2.1.size ≤ B
  | 0, q, h => h
  | n + 1, q, h => hf _ (rIter_bd hf n q h)
theorem rIter_len {α : Type} (f : RQ → α × RQ) : ∀ (n : Nat) (q : RQ), (rIter f n q).1.length = n
  | 0, _ => rfl
  | n + 1, q => by simp [rIter, rIter_len f n q]
theorem rLock_bd (q : RQ) (B : Nat) (h : q.1.size ≤ B) : (rLock q).2.1.size ≤ B := rIter_bd (fun q h => rNum_bd q B h) _ _ (rMany_bd _ _ B (rNum_bd _ B (rNum_bd _ B (rTxt_bd q B h).1)))
theorem rPair_bd (q : RQ) (B : Nat) (h : q.1.size ≤ B) : (rPair q).2.1.size ≤ B := rNum_bd _ B (rTxt_bd _ B (rTxt_bd q B h).1).1
theorem rKept_bd (q : RQ) (B : Nat) (h : q.1.size ≤ B) : (rKept q).2.1.size ≤ B := (rTxt_bd _ B (rNum_bd _ B (rNum_bd _ B (rNum_bd q B h)))).1
theorem rSess_bd (q : RQ) (B : Nat) (h : q.1.size ≤ B) : (rSess q).2.1.size ≤ B := rIter_bd (fun q h => rKept_bd q B h) _ _ (rMany_bd _ _ B (rNum_bd _ B (rNum_bd _ B (rNum_bd _ B (rNum_bd q B h)))))
end Go.Proofs.YtbjakddkfgjkaaaGreat.Fw

namespace Go.Proofs.YtbjakddkfgjkaaaGreat.Fw
open Go.RowKit
/-! ### the machine -/
def relOne (now : List DSession) (locks : List DLock) (x : DSession) : List DLock := if sIdx now x.client < 0 then (mGone locks x.client).1 else locks
def mRel (locks : List DLock) (was now : List DSession) : List DLock := was.foldl (relOne now) locks
def mDo (locks : List DLock) (pairs : List DPair) (who : Int) (o : DOp) : List DLock × List DPair × DReply :=
  if o.kind = 1 ∨ o.kind = 2 then ((mTake locks o.a who (decide (o.kind = 2))).1, pairs, (mTake locks o.a who (decide (o.kind = 2))).2.1) else
  if o.kind = 3 then ((mFree locks o.a who).1, pairs, (mFree locks o.a who).2.1) else
  if o.kind = 4 then (locks, pairs, ⟨0, (mWho locks o.a).1, emp⟩) else
  if o.kind = 6 then (locks, pairs, (mGot pairs o.a).1) else
  if ¬ (mWho locks o.a).1 = who ∨ ¬ (mWho locks o.a).2.1 = o.n then (locks, pairs, ⟨10, (mWho locks o.a).1, emp⟩) else
  (locks, (mPSet pairs o.a o.b).1, (mPSet pairs o.a o.b).2.1)
/-- sessions that said nothing for long are gone, and their locks -/
def aFresh (s : DState) : List DSession := (mFresh s.sessions s.index).1
def aLocks (s : DState) : List DLock := mRel s.locks s.sessions (aFresh s)
def aReady (s : DState) (c : DCommand) : List DSession × DReply × Bool × Int := mReady (aFresh s) s.index c
def aDo (s : DState) (c : DCommand) : List DLock × List DPair × DReply := mDo (aLocks s) s.pairs c.client c.op
def mStep (s : DState) (c : DCommand) : DState × DReply :=
  if c.kind = 1 then (⟨s.index + 1, aLocks s, s.pairs, (mJoin (aFresh s) s.index c.client).1⟩, (mJoin (aFresh s) s.index c.client).2.1) else
  if c.kind = 3 then (⟨s.index + 1, mRel (aLocks s) (aFresh s) (mLeave (aFresh s) s.index c.client).1, s.pairs, (mLeave (aFresh s) s.index c.client).1⟩, (mLeave (aFresh s) s.index c.client).2.1) else
  if (aReady s c).2.2.1 = true then (⟨s.index + 1, (aDo s c).1, (aDo s c).2.1, (mKeep (aReady s c).1 (s.index + 1) c.client c.seq (aDo s c).2.2).1⟩, (aDo s c).2.2) else
  (⟨s.index + 1, aLocks s, s.pairs, (aReady s c).1⟩, (aReady s c).2.1)
def mApply (s : DState) (t : ByteArray) : DState × DReply × Int :=
  if ¬ mState s = 0 then (zState, zRep, mState s) else if 1073741824 ≤ s.index then (zState, zRep, 2) else
  if ¬ (mDecode t).2 = 0 then (zState, zRep, (mDecode t).2) else ((mStep s (mDecode t).1).1, (mStep s (mDecode t).1).2, 0)
theorem mState_parts {x : DState} (h : mState x = 0) : mSess x.sessions x.index = 0 ∧ mLocks x.locks = 0 ∧ mPairs x.pairs = 0 := by
  have hs : mSess x.sessions x.index = 0 := by
    unfold mState at h
    split at h
    · assumption
    · exact h
  have hl : mLocks x.locks = 0 := by
    unfold mState at h
    rw [if_pos hs] at h
    split at h
    · assumption
    · exact h
  refine ⟨hs, hl, ?_⟩
  unfold mState at h
  rwa [if_pos hs, if_pos hl] at h
end Go.Proofs.YtbjakddkfgjkaaaGreat.Fw

namespace Go.Proofs.YtbjakddkfgjkaaaGreat.Fw
open Go.RowKit
/-! ### replicas -/
def zRepl : DReplica := ⟨zLog, emp, zState⟩
def mKeptS (r : DReplica) : DState × Int :=
  if r.log.base = 0 then (if r.snap = emp then (zState, 0) else (zState, 9)) else
  if (mUnsnap r.snap).2 = 0 ∧ (mUnsnap r.snap).1.index = r.log.base then ((mUnsnap r.snap).1, 0) else (zState, 9)
def mReplica (r : DReplica) : Int :=
  if ¬ mLog r.log = 0 then mLog r.log else if ¬ mState r.state = 0 then mState r.state else
  if r.state.index < r.log.base ∨ mLast r.log < r.state.index then 9 else (mKeptS r).2
def agreeTo (a b : List ByteArray) (j : Nat) : Bool := decide (j < a.length) && decide (a.getD j default = b.getD j default)
def mRHear (r : DReplica) (behind : Int) (more : List ByteArray) : DReplica × Int :=
  if ¬ mReplica r = 0 then (zRepl, mReplica r) else
  if ¬ (mPut r.log behind more).2 = 0 then (zRepl, (mPut r.log behind more).2) else
  if allTo (agreeTo (mPut r.log behind more).1.entries r.log.entries) (r.state.index - r.log.base).toNat = false then (zRepl, 9) else
  (⟨(mPut r.log behind more).1, r.snap, r.state⟩, 0)
def mRunGo (E : List ByteArray) : Nat → Nat → DState → List DMail → DState × List DMail × Int
  | 0, _, s, out => (s, out, 0)
  | n + 1, k, s, out =>
    if ¬ (mApply s (E.getD k default)).2.2 = 0 then (zState, [], (mApply s (E.getD k default)).2.2) else
    mRunGo E n (k + 1) (mApply s (E.getD k default)).1 (out ++ [⟨(mDecode (E.getD k default)).1.client, (mDecode (E.getD k default)).1.seq, (mApply s (E.getD k default)).2.1⟩])
def rRun (r : DReplica) (upto : Int) : DState × List DMail × Int :=
  mRunGo r.log.entries ((if upto < mLast r.log then upto else mLast r.log) - r.state.index).toNat (r.state.index - r.log.base).toNat r.state []
def mRApply (r : DReplica) (upto : Int) : DReplica × List DMail × Int :=
  if ¬ mReplica r = 0 then (zRepl, [], mReplica r) else if upto < 0 ∨ 1073741824 < upto then (zRepl, [], 2) else
  if ¬ (rRun r upto).2.2 = 0 then (zRepl, [], (rRun r upto).2.2) else
  (⟨r.log, r.snap, (rRun r upto).1⟩, (rRun r upto).2.1, 0)
def mRCompact (r : DReplica) : DReplica × Int :=
  if ¬ mReplica r = 0 then (zRepl, mReplica r) else if r.state.index = r.log.base then (zRepl, 12) else
  if ¬ (mCut r.log r.state.index).2 = 0 then (zRepl, (mCut r.log r.state.index).2) else
  (⟨(mCut r.log r.state.index).1, (mSnap r.state).1, r.state⟩, 0)
def mRInstall (r : DReplica) (s : ByteArray) : DReplica × Int :=
  if ¬ mReplica r = 0 then (zRepl, mReplica r) else if ¬ (mUnsnap s).2 = 0 then (zRepl, (mUnsnap s).2) else
  if (mUnsnap s).1.index ≤ r.state.index then (zRepl, 12) else if 1073741424 < (mUnsnap s).1.index then (zRepl, 8) else
  (⟨if (mUnsnap s).1.index ≤ mLast r.log then ⟨(mUnsnap s).1.index, r.log.entries.drop ((mUnsnap s).1.index - r.log.base).toNat⟩ else ⟨(mUnsnap s).1.index, []⟩, s, (mUnsnap s).1⟩, 0)
def mRRestart (r : DReplica) : DReplica × Int := if ¬ mReplica r = 0 then (zRepl, mReplica r) else (⟨r.log, r.snap, (mKeptS r).1⟩, 0)
theorem mReplica_parts {r : DReplica} (h : mReplica r = 0) : mLog r.log = 0 ∧ mState r.state = 0 ∧ r.log.base ≤ r.state.index ∧ r.state.index ≤ mLast r.log ∧ (mKeptS r).2 = 0 := by
  unfold mReplica at h
  split at h
  · rename_i h1; exact absurd h h1
  rename_i h1
  split at h
  · rename_i h2; exact absurd h h2
  rename_i h2
  split at h
  · cases h
  rename_i h3
  exact ⟨Classical.not_not.1 h1, Classical.not_not.1 h2, by omega, by omega, h⟩
end Go.Proofs.YtbjakddkfgjkaaaGreat.Fw

namespace Go.Proofs.YtbjakddkfgjkaaaGreat.Fw
open Go.RowKit
/-! ### sessions of our own, turned -/
theorem out_sessG {R : List Res} {eS : Nat} {A : Option Addr} {c : Nat} {L : List CSession} {w : World} (hr : rowA eS A c L ∈ R) (hR : ∀ r, r ∈ R → r.p w) (h : ∀ x, x ∈ L → Sl.rd (· ∈ (allR R).fp) w x.replies) : Sl.rd (· ∈ (allR R).fp) w (⟨A, c, L⟩ : Sl CSession) := allR_row hr (hR _ hr) h
theorem own_in {R : List Res} {eK : Nat} {L0 : List CSession} {w : World} (ho : ownL (keptR eK) L0 ∈ R) (hR : ∀ r, r ∈ R → r.p w) (hn : ∀ x, x ∈ L0 → ∀ k, k ∈ x.replies.xs → k.reply.text.size ≤ 9223372036854775807) {x : CSession} (hx : x ∈ L0) : Sl.rd (· ∈ (allR R).fp) w x.replies :=
  Rr (hR _ ho x hx) (fun b hb => mem_allR ho (List.mem_flatMap.2 ⟨x, hx, hb⟩)) fun k hk => hn x hx k hk
theorem out_locksG {R : List Res} {eS : Nat} {A : Option Addr} {c : Nat} {L : List CLock} {w : World} (hr : rowA eS A c L ∈ R) (hR : ∀ r, r ∈ R → r.p w) (h : ∀ x, x ∈ L → x.name.size ≤ 9223372036854775807 ∧ Sl.rd (· ∈ (allR R).fp) w x.line) : Sl.rd (· ∈ (allR R).fp) w (⟨A, c, L⟩ : Sl CLock) := allR_row hr (hR _ hr) h
theorem own_inL {R : List Res} {eK : Nat} {L0 : List CLock} {w : World} (ho : ownL (lineR eK) L0 ∈ R) (hR : ∀ r, r ∈ R → r.p w) {x : CLock} (hx : x ∈ L0) : Sl.rd (· ∈ (allR R).fp) w x.line :=
  Rr (hR _ ho x hx) (fun b hb => mem_allR ho (List.mem_flatMap.2 ⟨x, hx, hb⟩)) fun _ _ => trivial
theorem sgetD {L : List CSession} (k : Nat) : (L.map CSession.abs).getD k default = (L.getD k default).abs := getD_map CSession.abs rfl L k
theorem lgetD {L : List CLock} (k : Nat) : (L.map CLock.abs).getD k default = (L.getD k default).abs := getD_map CLock.abs rfl L k
theorem sess_all {L : List CSession} {index : Int} (h : mSess (L.map CSession.abs) index = 0) {k : Nat} (hk : k < L.length) : 1 ≤ (L.getD k default).client ∧ (L.getD k default).client ≤ 9 ∧ 0 ≤ (L.getD k default).acked ∧ (L.getD k default).acked ≤ 1048576 ∧ mReplies (L.getD k default).abs = true := by
  have := sessF_bd ((mSess_bd h).2.2.2 k (by rw [List.length_map]; exact hk))
  rw [sgetD] at this
  exact ⟨this.1, this.2.1, this.2.2.1, this.2.2.2.1, this.2.2.2.2.2.2.2.1⟩
/-- where a new session would be laid -/
theorem ins_sess {L : List CSession} {index t : Int} (h : mSess (L.map CSession.abs) index = 0) (ht : 1 ≤ t ∧ t ≤ 9) (hn : mIdx (fun x : DSession => decide (x.client = t)) (L.map CSession.abs) < 0) : L.findIdx (fun x : CSession => decide (t < x.client)) = mBS (fun x : CSession => IntKind.i64.wrap (x.client - t)) L := by
  have hs : Srt (fun x : CSession => IntKind.i64.wrap (x.client - t)) L := srt_map (f := CSession.abs) rfl (sess_srt h ht)
  have hw : ∀ j, j < L.length → IntKind.i64.wrap ((L.getD j default).client - t) = (L.getD j default).client - t := fun j hj => by
    have := sess_all h hj
    exact wrap64_id ⟨by omega, by omega⟩
  refine ins_bs hs (fun j hj h0 => ?_) fun j hj => ?_
  · have h1 := mIdx_neg hn j (by rw [List.length_map]; exact hj)
    rw [sgetD] at h1
    have h2 : (L.getD j default).client = t := by rw [hw j hj] at h0; omega
    exact of_decide_eq_false h1 h2
  · rw [hw j hj]
    show decide (t < (L.getD j default).client) = _
    by_cases h1 : t < (L.getD j default).client
    · rw [decide_eq_true h1, decide_eq_true (by omega)]
    · rw [decide_eq_false h1, decide_eq_false (by omega)]
theorem insS_map {L L2 : List CSession} {t : Int} {x : CSession} (h : L2 = mIns (fun x : CSession => decide (t < x.client)) x L) : L2.map CSession.abs = mIns (fun x : DSession => decide (t < x.client)) x.abs (L.map CSession.abs) := by
  rw [h]
  exact ins_map CSession.abs (fun x : DSession => decide (t < x.client)) x L
theorem setS_map {L L2 : List CSession} {k : Nat} {x : CSession} (h : L2 = L.set k x) : L2.map CSession.abs = (L.map CSession.abs).set k x.abs := by rw [h, List.map_set]
theorem setL_map {L L2 : List CLock} {k : Nat} {x : CLock} (h : L2 = L.set k x) : L2.map CLock.abs = (L.map CLock.abs).set k x.abs := by rw [h, List.map_set]
end Go.Proofs.YtbjakddkfgjkaaaGreat.Fw
namespace Go.Proofs.YtbjakddkfgjkaaaGreat.Fw
open Go.RowKit
theorem own_elt {eK : Nat} {L : List CSession} {w : World} (h : (ownL (keptR eK) L).p w) (hn : ∀ x, x ∈ L → ∀ k, k ∈ x.replies.xs → k.reply.text.size ≤ 9223372036854775807) {x : CSession} (hx : x ∈ L) : Sl.rd anyB w x.replies := Rr (h x hx) (fun _ _ => trivial) fun k hk => hn x hx k hk
theorem own_eltL {eK : Nat} {L : List CLock} {w : World} (h : (ownL (lineR eK) L).p w) (hn : ∀ x, x ∈ L → x.name.size ≤ 9223372036854775807) {x : CLock} (hx : x ∈ L) : Rds.sub anyB w x := ⟨hn x hx, Rr (h x hx) (fun _ _ => trivial) fun _ _ => trivial⟩
end Go.Proofs.YtbjakddkfgjkaaaGreat.Fw
namespace Go.Proofs.YtbjakddkfgjkaaaGreat.Fw
open Go.RowKit
/-! ### replies that are kept: the search, and one more -/
theorem kept_none {d : DSession} (h : mReplies d = true) {q : Int} (hq : ¬ (d.acked < q ∧ q ≤ d.acked + 4)) : ∀ j, j < d.replies.length → ¬ (d.replies.getD j default).seq = q := fun j hj e => by
  have := kept_in h (mem_of_getD (L := d.replies) (i := j) hj)
  omega
theorem kept_srt {d : DSession} (h : mReplies d = true) (h0 : 0 ≤ d.acked ∧ d.acked ≤ 1048576) {q : Int} (hq : d.acked < q ∧ q ≤ d.acked + 4) : Srt (fun x : DKept => IntKind.i64.wrap (x.seq - q)) d.replies := fun i j hij hj hi => by
  have h1 := kept_in h (mem_of_getD (L := d.replies) (i := i) (by omega))
  have h2 := kept_in h (mem_of_getD (L := d.replies) (i := j) hj)
  have h3 := rise_lt (f := fun i => (d.replies.getD i default).seq) (n := d.replies.length) (kept_rise h) (j - i - 1) i (by omega)
  rw [show i + (j - i - 1) + 1 = j by omega] at h3
  have e1 : IntKind.i64.wrap ((d.replies.getD i default).seq - q) = (d.replies.getD i default).seq - q := wrap64_id ⟨by omega, by omega⟩
  have e2 : IntKind.i64.wrap ((d.replies.getD j default).seq - q) = (d.replies.getD j default).seq - q := wrap64_id ⟨by omega, by omega⟩
  have hi' : 0 ≤ IntKind.i64.wrap ((d.replies.getD i default).seq - q) := hi
  show 0 < IntKind.i64.wrap ((d.replies.getD j default).seq - q)
  rw [e1] at hi'
  rw [e2]
  have h3' : (d.replies.getD i default).seq < (d.replies.getD j default).seq := h3
  omega
theorem bsf_kept {d : DSession} (h : mReplies d = true) (h0 : 0 ≤ d.acked ∧ d.acked ≤ 1048576) {q : Int} (hq : inR q) : mBSf (fun x : DKept => IntKind.i64.wrap (x.seq - q)) d.replies = decide (0 ≤ kIdx d.replies q) := by
  have hp : ∀ j, j < d.replies.length → (IntKind.i64.wrap ((d.replies.getD j default).seq - q) = 0 ↔ (d.replies.getD j default).seq = q) := fun j hj => by
    have h1 := kept_in h (mem_of_getD (L := d.replies) (i := j) hj)
    exact wrap_sub0 ⟨by omega, by omega⟩ hq
  have e : mIdx (fun x : DKept => decide (IntKind.i64.wrap (x.seq - q) = 0)) d.replies = kIdx d.replies q := by
    unfold kIdx
    rcases mIdx_cases (fun x : DKept => decide (x.seq = q)) d.replies with ⟨h1, h2⟩ | ⟨i, h1, h2, h3, h4⟩
    · rw [h1]
      exact mIdxL_none fun j hj => decide_eq_false fun e => of_decide_eq_false (h2 j hj) ((hp j hj).1 e)
    · rw [h2]
      exact mIdxL_here h1 (decide_eq_true ((hp i h1).2 (of_decide_eq_true h3))) fun j hj => decide_eq_false fun e => of_decide_eq_false (h4 j hj) ((hp j (by omega)).1 e)
  by_cases hr : d.acked < q ∧ q ≤ d.acked + 4
  · have := (bs_srt (kept_srt h h0 hr)).1
    rwa [e] at this
  · have := bs_none (c := fun x : DKept => IntKind.i64.wrap (x.seq - q)) (L := d.replies) fun j hj h1 => kept_none h hr j hj ((hp j hj).1 h1)
    rw [e] at this
    rw [this.1, this.2]
    rfl
theorem mReplies_bad {d : DSession} {k : DKept} (hk : k ∈ d.replies) (h : ¬ (d.acked < k.seq ∧ k.seq ≤ d.acked + 4)) : mReplies d = false := by
  cases hm : mReplies d with
  | false => rfl
  | true => exact absurd (kept_in hm hk) h
/-- one more, where the search says: it may be kept as the document's may; and then it is the same -/
theorem kept_ins {d : DSession} (h : mReplies d = true) (h0 : 0 ≤ d.acked ∧ d.acked ≤ 1048576) {q : Int} (r : DReply) (hn : kIdx d.replies q < 0) {j : Nat} (hj : mBS (fun x : DKept => IntKind.i64.wrap (x.seq - q)) d.replies = j) :
    mReplies ⟨d.client, d.id, d.acked, d.last, d.replies.take j ++ [⟨q, r⟩] ++ d.replies.drop j⟩ = mReplies (kIns d q r) ∧ (mReplies (kIns d q r) = true → d.replies.take j ++ [⟨q, r⟩] ++ d.replies.drop j = (kIns d q r).replies) := by
  by_cases hr : d.acked < q ∧ q ≤ d.acked + 4
  · have e : d.replies.findIdx (fun k : DKept => decide (q < k.seq)) = j := by
      rw [← hj]
      have hw : ∀ i, i < d.replies.length → IntKind.i64.wrap ((d.replies.getD i default).seq - q) = (d.replies.getD i default).seq - q := fun i hi => by
        have h1 := kept_in h (mem_of_getD (L := d.replies) (i := i) hi)
        exact wrap64_id ⟨by omega, by omega⟩
      refine ins_bs (kept_srt h h0 hr) (fun i hi h1 => ?_) fun i hi => ?_
      · rw [hw i hi] at h1
        exact of_decide_eq_false (mIdx_neg hn i hi) (by omega)
      · rw [hw i hi]
        show decide (q < (d.replies.getD i default).seq) = _
        by_cases h1 : q < (d.replies.getD i default).seq
        · rw [decide_eq_true h1, decide_eq_true (by omega)]
        · rw [decide_eq_false h1, decide_eq_false (by omega)]
    have e2 := ins_at (x := (⟨q, r⟩ : DKept)) e
    unfold kIns
    rw [e2]
    exact ⟨rfl, fun _ => rfl⟩
  · have h1 : mReplies ⟨d.client, d.id, d.acked, d.last, d.replies.take j ++ [⟨q, r⟩] ++ d.replies.drop j⟩ = false := mReplies_bad (k := ⟨q, r⟩) (by simp) hr
    have h2 : mReplies (kIns d q r) = false := mReplies_bad (k := ⟨q, r⟩) (by unfold kIns mIns; simp) hr
    rw [h1, h2]
    exact ⟨rfl, fun h => by cases h⟩
end Go.Proofs.YtbjakddkfgjkaaaGreat.Fw
namespace Go.Proofs.YtbjakddkfgjkaaaGreat.Fw
theorem mem_set_ne {α : Type} : ∀ {L : List α} {i : Nat} {x y : α}, y ∈ L.set i x → y = x ∨ y ∈ L.eraseIdx i
  | [], i, x, y, h => by simp at h
  | a :: r, 0, x, y, h => by
    simp only [List.set_cons_zero, List.mem_cons] at h
    simpa using h
  | a :: r, i + 1, x, y, h => by
    simp only [List.set_cons_succ, List.mem_cons] at h
    rcases h with h | h
    · exact .inr (by rw [h]; simp)
    · rcases mem_set_ne h with h | h
      · exact .inl h
      · exact .inr (by simp [h])
end Go.Proofs.YtbjakddkfgjkaaaGreat.Fw

namespace Go.Proofs.YtbjakddkfgjkaaaGreat.Fw
open Go.RowKit
/-! ### locks of our own, turned -/
theorem filtS_in {α : Type} [Inhabited α] {s : Sl α} {p : α → Bool} {L : List α} {i : Nat} (h : L = (s.xs.take i).filter fun z => !p z) (hi : i < s.n) (hp : p (s.at i) = false) : L ++ [s.at i] = (s.xs.take (i + 1)).filter fun z => !p z := by
  rw [← take_snoc hi, List.filter_append, ← h, filt0 (p := p) hp]
theorem filtS_out {α : Type} [Inhabited α] {s : Sl α} {p : α → Bool} {L : List α} {i : Nat} (h : L = (s.xs.take i).filter fun z => !p z) (hi : i < s.n) (hp : p (s.at i) = true) : L = (s.xs.take (i + 1)).filter fun z => !p z := by
  rw [← take_snoc hi, List.filter_append, ← h, filt1 (p := p) hp, List.append_nil]
theorem mAsk_ok {l : List DLock} {t : ByteArray} {who : Int} (h : mAsk l t who = 0) : mLocks l = 0 ∧ mName t = true ∧ 1 ≤ who ∧ who ≤ 9 := by
  unfold mAsk at h
  split at h
  · rename_i h1; exact absurd h h1
  rename_i h1
  split at h
  · cases h
  rename_i h2
  split at h
  · cases h
  exact ⟨Classical.not_not.1 h1, by simpa using h2, by omega, by omega⟩
theorem lock_all {L : List CLock} (h : mLocks (L.map CLock.abs) = 0) {k : Nat} (hk : k < L.length) : 0 ≤ (L.getD k default).holder ∧ (L.getD k default).holder ≤ 9 ∧ lineOk (L.getD k default).abs = true ∧ 1 ≤ (L.getD k default).fence ∧ (L.getD k default).fence ≤ 1073741824 ∧ (L.getD k default).line.xs.length ≤ 3 := by
  have := lockF_bd ((mLocks_bd h).2 k (by rw [List.length_map]; exact hk))
  rw [lgetD] at this
  obtain ⟨_, h2, h3, h4, h5, h6, _⟩ := this
  have h7 := h4
  simp only [lineOk, Bool.and_eq_true, decide_eq_true_eq] at h7
  exact ⟨h2, h3, h4, h5, h6, h7.2.1⟩
theorem insL_map {L L2 : List CLock} {t : ByteArray} {x : CLock} (h : L2 = mIns (fun x : CLock => Op.bytesLess t.toList x.name.toList) x L) : L2.map CLock.abs = mIns (fun x : DLock => Op.bytesLess t.toList x.name.toList) x.abs (L.map CLock.abs) := by
  rw [h]
  exact ins_map CLock.abs (fun x : DLock => Op.bytesLess t.toList x.name.toList) x L
theorem ins_lock {L : List CLock} {t : ByteArray} (h : mLocks (L.map CLock.abs) = 0) (hn : mIdx (fun x : DLock => decide (x.name = t)) (L.map CLock.abs) < 0) : L.findIdx (fun x : CLock => Op.bytesLess t.toList x.name.toList) = mBS (fun x : CLock => cmpS x.name t) L := by
  have hs : Srt (fun x : CLock => cmpS x.name t) L := srt_map (f := CLock.abs) rfl (locks_srt h t)
  refine ins_names CLock.name hs ?_
  have e : mIdx (fun x : CLock => decide (x.name = t)) L = mIdx (fun x : DLock => decide (x.name = t)) (L.map CLock.abs) := mIdx_map CLock.abs (fun y : DLock => decide (y.name = t)) L
  rw [e]
  exact hn
end Go.Proofs.YtbjakddkfgjkaaaGreat.Fw
namespace Go.Proofs.YtbjakddkfgjkaaaGreat.Fw
/-- the search looks at what is said alone -/
theorem mBS_abs {α β : Type} [Inhabited α] [Inhabited β] {f : α → β} {c : β → Int} {L L2 : List α} (hf : f default = default) (h : L.map f = L2.map f) : mBS (fun x => c (f x)) L = mBS (fun x => c (f x)) L2 := by
  have e : ∀ M : List α, (fun j => decide (c (f (M.getD j default)) < 0)) = fun j => decide (c ((M.map f).getD j default) < 0) := fun M => by funext j; rw [getD_map f hf]
  have hl : L.length = L2.length := by simpa using congrArg List.length h
  unfold mBS
  rw [e L, e L2, h, hl]
theorem mBSf_abs {α β : Type} [Inhabited α] [Inhabited β] {f : α → β} {c : β → Int} {L L2 : List α} (hf : f default = default) (h : L.map f = L2.map f) : mBSf (fun x => c (f x)) L = mBSf (fun x => c (f x)) L2 := by
  have hl : L.length = L2.length := by simpa using congrArg List.length h
  unfold mBSf
  rw [mBS_abs hf h, hl]
  have e : f (L.getD (mBS (fun x => c (f x)) L2) default) = f (L2.getD (mBS (fun x => c (f x)) L2) default) := by rw [← getD_map f hf, ← getD_map f hf, h]
  simp only [e]
end Go.Proofs.YtbjakddkfgjkaaaGreat.Fw
namespace Go.Proofs.YtbjakddkfgjkaaaGreat.Fw
open Go.RowKit
theorem has_idx (d : DLock) (who : Int) : lHas d who = decide (0 ≤ mIdx (fun z => decide (z = who)) d.line) := (mIdx_nonneg _ _).symm
theorem line_one' {d : DLock} (h : lineOk d = true) {who : Int} {i : Nat} (hk : mIdx (fun z => decide (z = who)) d.line = (i : Int)) {L : List Int} (hL : L = d.line.take i ++ d.line.drop (i + 1)) : L = unline d.line who := by rw [hL]; exact line_one h hk
theorem passC_in {R : List Res} {eK : Nat} {L0 : List CLock} {w : World} (ho : ownL (lineR eK) L0 ∈ R) (hR : ∀ r, r ∈ R → r.p w) {x : CLock} (hx : x ∈ L0) : (passC x).name = x.name ∧ Sl.rd (· ∈ (allR R).fp) w (passC x).line := by
  have h1 := own_inL ho hR hx
  unfold passC
  split
  · rename_i h2; exact ⟨rfl, h1.dropI h2.1⟩
  · exact ⟨rfl, Sl.rd_nil _ _⟩
end Go.Proofs.YtbjakddkfgjkaaaGreat.Fw

namespace Go.Proofs.YtbjakddkfgjkaaaGreat.Fw
open Go.RowKit
/-! ### bytes as states: the ways out -/
def rIn (s : ByteArray) : RQ := (s.extract 0 ((s.size : Int) - 4).toNat, 0)
theorem cut4 {s : ByteArray} (h : ¬ (s.size : Int) < 4) : ((s.size : Int) - 4).toNat = s.size - 4 := by omega
theorem unsnap_big {s : ByteArray} (h : 5000 < (s.size : Int)) : mUnsnap s = (zState, 1) := by unfold mUnsnap; rw [if_pos (by omega)]
theorem unsnap_small {s : ByteArray} (h1 : ¬ 5000 < (s.size : Int)) (h : (s.size : Int) < 4) : mUnsnap s = (zState, 5) := by unfold mUnsnap; rw [if_neg (by omega), if_pos (by omega)]
theorem unsnap_rest {s : ByteArray} (h1 : ¬ 5000 < (s.size : Int)) (h2 : ¬ (s.size : Int) < 4) : mUnsnap s = if ¬ mSeal (s.extract 0 ((s.size : Int) - 4).toNat) = s.extract ((s.size : Int) - 4).toNat s.size then (zState, 15) else
  if (rState (rIn s)).2.2 = 0 ∧ ¬ (rState (rIn s)).2.1 = emp then (zState, 4) else
  if ¬ (rState (rIn s)).2.2 = 0 then (zState, (rState (rIn s)).2.2) else
  if ¬ mState (rState (rIn s)).1 = 0 then (zState, mState (rState (rIn s)).1) else ((rState (rIn s)).1, 0) := by
  unfold mUnsnap
  rw [if_neg (by omega), if_neg (by omega)]
  unfold rIn
  rw [cut4 h2]
theorem unsnap_seal {s : ByteArray} (h1 : ¬ 5000 < (s.size : Int)) (h2 : ¬ (s.size : Int) < 4) (h3 : ¬ mSeal (s.extract 0 ((s.size : Int) - 4).toNat) = s.extract ((s.size : Int) - 4).toNat s.size) : mUnsnap s = (zState, 15) := by
  rw [unsnap_rest h1 h2, if_pos h3]
theorem rState_of {q : RQ} {Q0 : List DLock × RQ} {Q2 : List DPair × RQ} {Q3 : List DSession × RQ} (h0 : rIter rLock (rMany 5 (rNum q).2).1.toNat (rMany 5 (rNum q).2).2 = Q0) (h2 : rIter rPair (rMany 5 Q0.2).1.toNat (rMany 5 Q0.2).2 = Q2) (h3 : rIter rSess (rMany 4 Q2.2).1.toNat (rMany 4 Q2.2).2 = Q3) : rState q = (⟨(rNum q).1, Q0.1, Q2.1, Q3.1⟩, Q3.2) := by
  subst h3; subst h2; subst h0; rfl
theorem unsnap_more {s : ByteArray} {q : RQ} {R : DState × RQ} (hq : q = rIn s) (hR : rState q = R) (h1 : ¬ 5000 < (s.size : Int)) (h2 : ¬ (s.size : Int) < 4) (h3 : mSeal (s.extract 0 ((s.size : Int) - 4).toNat) = s.extract ((s.size : Int) - 4).toNat s.size) (h4 : R.2.2 = 0) (h5 : ¬ R.2.1 = emp) : mUnsnap s = (zState, 4) := by
  subst hR; subst hq
  rw [unsnap_rest h1 h2, if_neg (fun h => h h3), if_pos ⟨h4, h5⟩]
theorem unsnap_bad {s : ByteArray} {q : RQ} {R : DState × RQ} (hq : q = rIn s) (hR : rState q = R) (h1 : ¬ 5000 < (s.size : Int)) (h2 : ¬ (s.size : Int) < 4) (h3 : mSeal (s.extract 0 ((s.size : Int) - 4).toNat) = s.extract ((s.size : Int) - 4).toNat s.size) (h4 : ¬ R.2.2 = 0) : mUnsnap s = (zState, R.2.2) := by
  subst hR; subst hq
  rw [unsnap_rest h1 h2, if_neg (fun h => h h3), if_neg (fun h => h4 h.1), if_pos h4]
theorem unsnap_fault {s : ByteArray} {q : RQ} {R : DState × RQ} {y : DState} (hq : q = rIn s) (hR : rState q = R) (h1 : ¬ 5000 < (s.size : Int)) (h2 : ¬ (s.size : Int) < 4) (h3 : mSeal (s.extract 0 ((s.size : Int) - 4).toNat) = s.extract ((s.size : Int) - 4).toNat s.size) (h4 : R.2.2 = 0) (h5 : R.2.1 = emp) (hy : y = R.1) (h6 : ¬ mState y = 0) : mUnsnap s = (zState, mState y) := by
  subst hy
  subst hR; subst hq
  rw [unsnap_rest h1 h2, if_neg (fun h => h h3), if_neg (fun h => h.2 h5), if_neg (fun h => h h4), if_pos h6]
theorem unsnap_ok {s : ByteArray} {q : RQ} {R : DState × RQ} {y : DState} (hq : q = rIn s) (hR : rState q = R) (h1 : ¬ 5000 < (s.size : Int)) (h2 : ¬ (s.size : Int) < 4) (h3 : mSeal (s.extract 0 ((s.size : Int) - 4).toNat) = s.extract ((s.size : Int) - 4).toNat s.size) (h4 : R.2.2 = 0) (h5 : R.2.1 = emp) (hy : y = R.1) (h6 : mState y = 0) : mUnsnap s = (y, 0) := by
  subst hy
  subst hR; subst hq
  rw [unsnap_rest h1 h2, if_neg (fun h => h h3), if_neg (fun h => h.2 h5), if_neg (fun h => h h4), if_neg (fun h => h h6)]
end Go.Proofs.YtbjakddkfgjkaaaGreat.Fw

namespace Go.Proofs.YtbjakddkfgjkaaaGreat.Fw
open Go.RowKit
/-! ### replicas: what their check says -/
theorem keptS_none {r : DReplica} (h : r.log.base = 0) (h2 : r.snap = emp) : mKeptS r = (zState, 0) := by unfold mKeptS; rw [if_pos h, if_pos h2]
theorem keptS_some {r : DReplica} (h : r.log.base = 0) (h2 : ¬ r.snap = emp) : mKeptS r = (zState, 9) := by unfold mKeptS; rw [if_pos h, if_neg h2]
theorem keptS_bad {r : DReplica} (h : ¬ r.log.base = 0) (h2 : ¬ (mUnsnap r.snap).2 = 0) : mKeptS r = (zState, 9) := by unfold mKeptS; rw [if_neg h, if_neg (fun q => h2 q.1)]
theorem keptS_off {r : DReplica} {i : Int} (h : ¬ r.log.base = 0) (hi : i = (mUnsnap r.snap).1.index) (h2 : ¬ i = r.log.base) : mKeptS r = (zState, 9) := by subst hi; unfold mKeptS; rw [if_neg h, if_neg (fun q => h2 q.2)]
theorem keptS_ok {r : DReplica} {i : Int} (h : ¬ r.log.base = 0) (h1 : (mUnsnap r.snap).2 = 0) (hi : i = (mUnsnap r.snap).1.index) (h2 : i = r.log.base) : mKeptS r = ((mUnsnap r.snap).1, 0) := by subst hi; unfold mKeptS; rw [if_neg h, if_pos ⟨h1, h2⟩]
theorem repl_log {r : DReplica} (h : ¬ mLog r.log = 0) : mReplica r = mLog r.log := by unfold mReplica; rw [if_pos h]
theorem repl_state {r : DReplica} (h1 : mLog r.log = 0) (h : ¬ mState r.state = 0) : mReplica r = mState r.state := by unfold mReplica; rw [if_neg (fun q => q h1), if_pos h]
theorem repl_out {r : DReplica} (h1 : mLog r.log = 0) (h2 : mState r.state = 0) (h : r.state.index < r.log.base ∨ mLast r.log < r.state.index) : mReplica r = 9 := by unfold mReplica; rw [if_neg (fun q => q h1), if_neg (fun q => q h2), if_pos h]
theorem repl_kept {r : DReplica} (h1 : mLog r.log = 0) (h2 : mState r.state = 0) (h : ¬ (r.state.index < r.log.base ∨ mLast r.log < r.state.index)) : mReplica r = (mKeptS r).2 := by unfold mReplica; rw [if_neg (fun q => q h1), if_neg (fun q => q h2), if_neg h]
theorem small_pairs {s : Sl DPair} (h : mPairs s.xs = 0) : Rds.small s := by
  have h1 := (mPairs_bd h).1
  exact ⟨by show s.xs.length * 40 ≤ _; omega, fun _ _ => trivial⟩
theorem small_state {s : CState} (h : mState s.abs = 0) : Rds.small s := by
  obtain ⟨h1, h2, h3⟩ := mState_parts h
  exact ⟨small_locks h2, small_pairs h3, small_sess h1⟩
theorem small_log {s : CLog} (h : mLog s.abs = 0) : Rds.small s := by
  have h1 : s.entries.xs.length ≤ 400 := (mLog_bd h).2.2.1
  exact ⟨by show s.entries.xs.length * 16 ≤ _; omega, fun _ _ => trivial⟩
theorem small_repl {r : CReplica} (h : mReplica r.abs = 0) : Rds.small r := by
  obtain ⟨h1, h2, _⟩ := mReplica_parts h
  exact ⟨small_log (s := r.log) h1, small_state (s := r.state) h2⟩
end Go.Proofs.YtbjakddkfgjkaaaGreat.Fw

namespace Go.Proofs.YtbjakddkfgjkaaaGreat.Fw
open Go.RowKit
/-! ### short words for what walks say often -/
abbrev DOp.cs (x : DOp) : List SV := [vI x.kind, vS x.a, vS x.b, vI x.n]
abbrev DReply.cs (x : DReply) : List SV := [vI x.code, vI x.n, vS x.text]
abbrev CLock.cs (x : CLock) : List SV := [vS x.name, vI x.holder, vI x.fence, .v (.slice x.line.A x.line.n x.line.c)]
abbrev DPair.cs (x : DPair) : List SV := [vS x.name, vS x.value, vI x.version]
abbrev DCommand.cs (x : DCommand) : List SV := [vI x.kind, vI x.client, vI x.session, vI x.seq, vI x.acked, vI x.op.kind, vS x.op.a, vS x.op.b, vI x.op.n]
abbrev DKept.cs (x : DKept) : List SV := [vI x.seq, vI x.reply.code, vI x.reply.n, vS x.reply.text]
abbrev CSession.cs (x : CSession) : List SV := [vI x.client, vI x.id, vI x.acked, vI x.last, .v (.slice x.replies.A x.replies.n x.replies.c)]
abbrev CState.cs (x : CState) : List SV := [vI x.index, .v (.slice x.locks.A x.locks.n x.locks.c), .v (.slice x.pairs.A x.pairs.n x.pairs.c), .v (.slice x.sessions.A x.sessions.n x.sessions.c)]
abbrev CLog.cs (x : CLog) : List SV := [vI x.base, .v (.slice x.entries.A x.entries.n x.entries.c)]
abbrev CReplica.cs (x : CReplica) : List SV := [vI x.log.base, .v (.slice x.log.entries.A x.log.entries.n x.log.entries.c), vS x.snap, vI x.state.index, .v (.slice x.state.locks.A x.state.locks.n x.state.locks.c), .v (.slice x.state.pairs.A x.state.pairs.n x.state.pairs.c), .v (.slice x.state.sessions.A x.state.sessions.n x.state.sessions.c)]
abbrev DWait.cs (x : DWait) : List SV := [vI x.seq, vI x.op.kind, vS x.op.a, vS x.op.b, vI x.op.n]
abbrev CCustomer.cs (x : CCustomer) : List SV := [vI x.id, vI x.session, vI x.next, .v (.slice x.waits.A x.waits.n x.waits.c)]
abbrev DMail.cs (x : DMail) : List SV := [vI x.client, vI x.seq, vI x.reply.code, vI x.reply.n, vS x.reply.text]
abbrev DAct.cs (x : DAct) : List SV := [vI x.kind, vI x.c, vI x.r, vI x.k, vI x.op.kind, vS x.op.a, vS x.op.b, vI x.op.n]
theorem iT {n l h : Int} : (inB n l h = true) = (l ≤ n ∧ n ≤ h) := by simp [inB]
theorem iF {n l h : Int} : (inB n l h = false) = (¬ l ≤ n ∨ ¬ n ≤ h) := by rw [← Decidable.not_and_iff_not_or_not]; simp [inB]
abbrev vi (z : Int) : Value := .int .i64 z
abbrev vb (b : Bool) : Value := .bool b
abbrev vs (s : ByteArray) : Value := .string s
abbrev ve : Value := .string emp
abbrev vn : Value := .slice none 0 0
abbrev vz (k : Int) : Value := .agg #[.int .i64 k, .int .i64 0, .string emp]
abbrev vC : Value := .agg #[.int .i64 0, .int .i64 0, .int .i64 0, .int .i64 0, .int .i64 0, .int .i64 0, .string emp, .string emp, .int .i64 0]
abbrev vA : Value := .agg #[.int .i64 0, .slice none 0 0, .slice none 0 0, .slice none 0 0]
abbrev vP : Value := .agg #[.int .i64 0, .slice none 0 0, .string emp, .int .i64 0, .slice none 0 0, .slice none 0 0, .slice none 0 0]
end Go.Proofs.YtbjakddkfgjkaaaGreat.Fw

namespace Go.Proofs.YtbjakddkfgjkaaaGreat.Fw
open Go.RowKit
/-! ### replicas that take in and throw away -/
theorem mem_getD {α : Type} [Inhabited α] {P : α → Prop} {l : List α} (h : ∀ j, j < l.length → P (l.getD j default)) : ∀ x, x ∈ l → P x := fun x hx => by
  obtain ⟨j, hj, rfl⟩ := List.mem_iff_getElem.1 hx
  have h1 := h j hj
  rwa [List.getD_eq_getElem?_getD, List.getElem?_eq_getElem hj] at h1
end Go.Proofs.YtbjakddkfgjkaaaGreat.Fw

namespace Go.Proofs.YtbjakddkfgjkaaaGreat.Fw
open Go.RowKit
/-! ### replicas that hear -/
end Go.Proofs.YtbjakddkfgjkaaaGreat.Fw

namespace Go.Proofs.YtbjakddkfgjkaaaGreat.Fw
open Go.RowKit
/-! ### locks of one who is gone -/
structure GoneI (who : Int) (S : List CLock) (k : Nat) (L : List CLock) : Prop where
  le : k ≤ S.length
  len : L.length = S.length
  rest : ∀ j, k ≤ j → L.getD j default = S.getD j default
  done : (L.take k).map CLock.abs = (S.take k).map fun x => goneF who x.abs
  names : ∀ x, x ∈ L → x.name.size ≤ 9223372036854775807
theorem GoneI.start {who : Int} {S : List CLock} (h : ∀ x, x ∈ S → x.name.size ≤ 9223372036854775807) : GoneI who S 0 S := ⟨Nat.zero_le _, rfl, fun _ _ => rfl, rfl, h⟩
theorem take_set_snoc {α : Type} [Inhabited α] {L : List α} {k : Nat} {x : α} (hk : k < L.length) : (L.set k x).take (k + 1) = L.take k ++ [x] := by
  rw [List.take_add_one, List.getElem?_set_self hk, List.take_set_of_le (Nat.le_refl _)]
  rfl
theorem GoneI.step {who : Int} {S : List CLock} {k : Nat} {L L' : List CLock} {x : CLock} (h : GoneI who S k L) (hk : k < S.length) (hL : L' = L.set k x) (ha : x.abs = goneF who (L.getD k default).abs) (hn : x.name = (L.getD k default).name) : GoneI who S (k + 1) L' := by
  have hkl : k < L.length := by rw [h.len]; exact hk
  subst hL
  refine ⟨hk, by rw [List.length_set, h.len], fun j hj => ?_, ?_, fun y hy => ?_⟩
  · rw [getD_set_ne (by omega), h.rest j (by omega)]
  · have e : S.take (k + 1) = S.take k ++ [S.getD k default] := by rw [List.take_add_one, getD_some hk]; rfl
    rw [take_set_snoc hkl, e, List.map_append, List.map_append, h.done, ← h.rest k (Nat.le_refl _)]
    exact congrArg (fun z => _ ++ [z]) ha
  · rcases mem_set hy with rfl | hy
    · rw [hn]; exact h.names _ (mem_of_getD hkl)
    · exact h.names _ hy
theorem GoneI.fin {who : Int} {S : List CLock} {k : Nat} {L : List CLock} (h : GoneI who S k L) (hk : S.length ≤ k) : L.map CLock.abs = (S.map CLock.abs).map (goneF who) := by
  have h1 := h.done
  rw [List.take_of_length_le (by rw [h.len]; exact hk), List.take_of_length_le hk] at h1
  rw [h1, List.map_map]; rfl
def goneR (fp : List Nat) (P : List CLock) : Res := ⟨fp, fun w => ∀ x, x ∈ P → Sl.rd (· ∈ fp) w x.line, fun h p x hx => Sl.rd.stay (p x hx) fun b hb _ => h b hb⟩
theorem goneR_step {fp fp' : List Nat} {L L' : List CLock} {k : Nat} {x : CLock} {w : World} (hk : k < L.length) (hL : L' = L.set k x) (h1 : Sl.rd (· ∈ fp') w x.line) (h2 : (goneR fp (L.take k)).p w) : (goneR (fp ++ fp') (L'.take (k + 1))).p w := fun y hy => by
  subst hL
  rw [take_set_snoc hk] at hy
  rcases List.mem_append.1 hy with hy | hy
  · exact Sl.rd.wide (h2 y hy) fun b hb => List.mem_append_left _ hb
  · rw [List.mem_singleton] at hy; subst hy; exact Sl.rd.wide h1 fun b hb => List.mem_append_right _ hb
theorem passC_rd {B : Nat → Prop} {w : World} {x : CLock} (h : Sl.rd B w x.line) : Sl.rd B w (passC x).line := by
  unfold passC
  split
  · rename_i hn; exact Sl.rd.dropI h hn.1
  · exact Sl.rd_nil _ _
theorem passC_name (x : CLock) : (passC x).name = x.name := by unfold passC; split <;> rfl
theorem mPass_name (d : DLock) : (mPass d).name = d.name := by unfold mPass; split <;> rfl
theorem gone_keep {D x : CLock} {who : Int} (hn : x.name = D.name) (hh : x.holder = D.holder) (hf : x.fence = D.fence) (hl : x.line.xs = unline D.line.xs who) (h : ¬ D.holder = who) : x.abs = goneF who D.abs := by
  unfold goneF
  rw [if_neg (show ¬ D.abs.holder = who from h)]
  show (⟨x.name, x.holder, x.fence, x.line.xs⟩ : DLock) = _
  rw [hn, hh, hf, hl]; rfl
theorem gone_pass {D x y : CLock} {who : Int} (hy : y.abs = mPass x.abs) (hn : x.name = D.name) (hh : x.holder = D.holder) (hf : x.fence = D.fence) (hl : x.line.xs = unline D.line.xs who) (h : D.holder = who) : y.abs = goneF who D.abs := by
  unfold goneF
  rw [if_pos (show D.abs.holder = who from h), hy]
  refine congrArg mPass ?_
  show (⟨x.name, x.holder, x.fence, x.line.xs⟩ : DLock) = _
  rw [hn, hh, hf, hl]; rfl
theorem own_uncons_fp {α : Type} [Inhabited α] (f : α → Res) {L : List α} {i : Nat} {D : α} (hi : i < L.length) (hD : D = L.getD i default) : ((f D).fp ++ (ownL f (L.drop (i + 1))).fp).Perm (ownL f (L.drop i)).fp := by
  subst hD
  have e : L.drop i = L.getD i default :: L.drop (i + 1) := by
    rw [List.drop_eq_getElem_cons hi, List.getD_eq_getElem?_getD, List.getElem?_eq_getElem hi]; rfl
  rw [e]
  exact List.Perm.refl _
theorem own_uncons_p {α : Type} [Inhabited α] (f : α → Res) {L : List α} {i : Nat} {D : α} (hi : i < L.length) (hD : D = L.getD i default) (w : World) (h : (ownL f (L.drop i)).p w) : (f D).p w ∧ (ownL f (L.drop (i + 1))).p w := by
  subst hD
  have e : L.drop i = L.getD i default :: L.drop (i + 1) := by
    rw [List.drop_eq_getElem_cons hi, List.getD_eq_getElem?_getD, List.getElem?_eq_getElem hi]; rfl
  rw [e] at h
  exact ⟨h _ (.head _), fun x hx => h x (.tail _ hx)⟩
theorem gone_out {who : Int} {S L : List CLock} {k : Nat} {fp : List Nat} {R : List Res} {w : World} {e : Nat} {A : Option Addr} {c : Nat} (hI : GoneI who S k L) (hk : S.length ≤ k) (hr : rowA e A c L ∈ R) (hg : goneR fp (L.take k) ∈ R) (hR : ∀ r, r ∈ R → r.p w) : Sl.rd (· ∈ (allR R).fp) w (⟨A, c, L⟩ : Sl CLock) :=
  allR_row hr (hR _ hr) fun x hx => ⟨hI.names x hx, Sl.rd.wide (hR _ hg x (by rw [List.take_of_length_le (by rw [hI.len]; exact hk)]; exact hx)) fun b hb => mem_allR hg hb⟩
theorem gone_ok {l : List DLock} {who : Int} (h : mLocks l = 0) (h1 : ¬ (who < 1 ∨ 9 < who)) : mGone l who = (l.map (goneF who), 0) := by unfold mGone; rw [if_neg (fun q => q h), if_neg h1]
theorem gone_bad {l : List DLock} {who : Int} (h : ¬ mLocks l = 0) : mGone l who = ([], mLocks l) := by unfold mGone; rw [if_pos h]
theorem gone_who {l : List DLock} {who : Int} (h : mLocks l = 0) (h1 : who < 1 ∨ 9 < who) : mGone l who = ([], 2) := by unfold mGone; rw [if_neg (fun q => q h), if_pos h1]
end Go.Proofs.YtbjakddkfgjkaaaGreat.Fw

namespace Go.Proofs.YtbjakddkfgjkaaaGreat.Fw
open Go.RowKit
/-! ### sessions that are ready -/
def rInv (index : Int) (c : DCommand) : Prop := 1073741824 ≤ index ∨ c.seq < 1 ∨ 1048576 < c.seq ∨ c.acked < 0 ∨ c.seq ≤ c.acked
theorem ready_bad {l : List DSession} {n : Int} {c : DCommand} (h : ¬ mSess l n = 0) : mReady l n c = ([], zRep, false, mSess l n) := by unfold mReady; rw [if_pos h]
theorem ready_inv {l : List DSession} {n : Int} {c : DCommand} (h : mSess l n = 0) (h1 : rInv n c) : mReady l n c = ([], zRep, false, 2) := by unfold rInv at h1; unfold mReady; rw [if_neg (fun q => q h), if_pos h1]
theorem ready_none {l : List DSession} {n : Int} {c : DCommand} (h : mSess l n = 0) (h1 : ¬ rInv n c) (h2 : sIdx l c.client < 0) : mReady l n c = (l, ⟨11, 0, emp⟩, false, 0) := by unfold rInv at h1; unfold mReady; rw [if_neg (fun q => q h), if_neg h1, if_pos (.inl h2)]
theorem ready_other {L : List CSession} {n : Int} {c : DCommand} {K : Nat} (h : mSess (L.map CSession.abs) n = 0) (h1 : ¬ rInv n c) (hK : (sIdx (L.map CSession.abs) c.client).toNat = K) (h2 : ¬ (L.getD K default).id = c.session) : mReady (L.map CSession.abs) n c = (L.map CSession.abs, ⟨11, 0, emp⟩, false, 0) := by
  unfold rInv at h1; unfold mReady; rw [if_neg (fun q => q h), if_neg h1, if_pos (.inr (by rw [hK, sgetD]; exact h2))]
theorem ready_one {L : List CSession} {n : Int} {c : DCommand} {K : Nat} {x : DSession} {a : DReply × Bool} (h : mSess (L.map CSession.abs) n = 0) (h1 : ¬ rInv n c) (h0 : ¬ sIdx (L.map CSession.abs) c.client < 0) (hK : (sIdx (L.map CSession.abs) c.client).toNat = K) (h2 : (L.getD K default).id = c.session) (hx : kSess (L.getD K default).abs n c = x) (ha : kAns (L.getD K default).abs c = a) : mReady (L.map CSession.abs) n c = ((L.map CSession.abs).set K x, a.1, a.2, 0) := by
  unfold rInv at h1; unfold mReady; rw [if_neg (fun q => q h), if_neg h1, if_neg (by rw [hK, sgetD]; rintro (h3 | h3); exact h0 h3; exact h3 h2), hK, sgetD, hx, ha]
theorem kSess_of {d : DSession} {n ak : Int} {c : DCommand} {LL : List DKept} (hak : kAck d c = ak) (hll : kLeft d c = LL) : kSess d n c = ⟨d.client, d.id, ak, n + 1, LL⟩ := by unfold kSess; rw [hak, hll]
theorem ans_old {d : DSession} {c : DCommand} {ak : Int} (hak : kAck d c = ak) (h : c.seq ≤ ak) : kAns d c = (⟨12, 0, emp⟩, false) := by unfold kAns; rw [hak, if_pos h]
theorem ans_kept {d : DSession} {c : DCommand} {ak I : Int} {LL : List DKept} (hak : kAck d c = ak) (hll : kLeft d c = LL) (hI : kIdx LL c.seq = I) (h : ¬ c.seq ≤ ak) (h2 : 0 ≤ I) : kAns d c = ((LL.getD I.toNat default).reply, false) := by unfold kAns; rw [hak, hll, hI, if_neg h, if_pos h2]
theorem ans_far {d : DSession} {c : DCommand} {ak I : Int} {LL : List DKept} (hak : kAck d c = ak) (hll : kLeft d c = LL) (hI : kIdx LL c.seq = I) (h : ¬ c.seq ≤ ak) (h2 : ¬ 0 ≤ I) (h3 : ak + 4 < c.seq) : kAns d c = (⟨2, 0, emp⟩, false) := by unfold kAns; rw [hak, hll, hI, if_neg h, if_neg h2, if_pos h3]
theorem ans_new {d : DSession} {c : DCommand} {ak I : Int} {LL : List DKept} (hak : kAck d c = ak) (hll : kLeft d c = LL) (hI : kIdx LL c.seq = I) (h : ¬ c.seq ≤ ak) (h2 : ¬ 0 ≤ I) (h3 : ¬ ak + 4 < c.seq) : kAns d c = (zRep, true) := by unfold kAns; rw [hak, hll, hI, if_neg h, if_neg h2, if_neg h3]
theorem left_more {d : DSession} {c : DCommand} {ak : Int} (hak : kAck d c = ak) : kLeft d c = d.replies.filter (fun z => !decide (z.seq ≤ ak)) := by unfold kLeft; rw [hak]
theorem left_same {d : DSession} {c : DCommand} (hak : kAck d c = d.acked) (h : mReplies d = true) : kLeft d c = d.replies := by rw [left_more hak]; exact kept_above h
theorem ack_up {d : DSession} {c : DCommand} (h : d.acked < c.acked) : kAck d c = c.acked := if_pos h
theorem ack_same {d : DSession} {c : DCommand} (h : ¬ d.acked < c.acked) : kAck d c = d.acked := if_neg h
/-- the one who is found first, in a list of numbers of things -/
theorem idx_at {L : List DKept} {q I : Int} (h : mIdx (fun z : DKept => decide (z.seq = q)) L = I) : kIdx L q = I := h
end Go.Proofs.YtbjakddkfgjkaaaGreat.Fw

namespace Go.Proofs.YtbjakddkfgjkaaaGreat.Fw
open Go.RowKit
/-! ### a slice of a block that may have been laid anew -/
def lk {α : Type} (s : Sl α) (o : Option (List Nat × Sl α)) : Sl α := match o with
  | none => s
  | some p => p.2
def lkR {α : Type} [Lay α] (o : Option (List Nat × Sl α)) : Res := match o with
  | none => noR
  | some p => subR p.1 p.2
theorem lk_rd {α : Type} [Lay α] {s : Sl α} {o : Option (List Nat × Sl α)} {B : Nat → Prop} {w : World} (h : s.rd B w) (h2 : (lkR o).p w) : Sl.rd anyB w (lk s o) := by
  cases o with
  | none => exact Sl.rd.wide h fun _ _ => trivial
  | some p => exact Sl.rd.wide h2 fun _ _ => trivial
theorem WS.resB {m : List Nat} {w0 : World} {bs : List Nat} {loc : List Blk} {R : List Res} {w w' : World} (h : WS m w0 bs loc R w) {i : Nat} {b : Blk} (hb : loc[i]? = some b) (hk : Kp [bs.getD i 0] w w') : ∀ r, r ∈ R → r.p w' := fun r hr =>
  r.st (fun x hx => hk.block x (h.lo x (List.mem_append_right _ (List.mem_flatMap.2 ⟨r, hr, hx⟩))).2 fun hm => by
    rw [List.mem_singleton] at hm
    exact (List.nodup_append.1 h.nd).2.2 _ (h.mem_bs hb) x (List.mem_flatMap.2 ⟨r, hr, hx⟩) hm.symm) (h.res r hr)
theorem mRel_step {locks : List DLock} {was now : List DSession} {i : Nat} (h : i < was.length) : mRel locks (was.take (i + 1)) now = relOne now (mRel locks (was.take i) now) (was.getD i default) := by
  unfold mRel
  exact foldl_take _ _ was h
theorem rel_next {l l' L0 : List DLock} {was now : List DSession} {i : Nat} {x : DSession} (hi : i < was.length) (hx : was.getD i default = x) (hI : l = mRel L0 (was.take i) now) (h : l' = if sIdx now x.client < 0 then (mGone l x.client).1 else l) : l' = mRel L0 (was.take (i + 1)) now := by
  rw [mRel_step hi, hx, ← hI]; exact h
/-! ### stores into blocks of others in regions that draw -/
end Go.Proofs.YtbjakddkfgjkaaaGreat.Fw

namespace Go.Proofs.YtbjakddkfgjkaaaGreat.Fw
open Go.RowKit
/-! ### one command more -/
theorem cmd_bd {c : DCommand} (h : mCmd c = 0) : 1 ≤ c.client ∧ c.client ≤ 9 ∧ 0 ≤ c.seq ∧ c.seq ≤ 1048576 ∧ c.op.a.size ≤ 9223372036854775807 ∧ c.op.b.size ≤ 9223372036854775807 := by
  unfold mCmd at h
  split at h
  · cases h
  split at h
  · cases h
  rename_i h1
  split at h
  · rename_i h2
    split at h
    · cases h
    rename_i h3
    unfold mOp at h
    split at h
    · cases h
    split at h
    · cases h
    rename_i h4
    split at h
    · cases h
    rename_i h5
    have h6 : mName c.op.a = true := by
      cases hh : mName c.op.a with
      | true => rfl
      | false => exact absurd (.inl hh) h4
    refine ⟨by omega, by omega, by omega, by omega, ?_, by omega⟩
    unfold mName at h6
    simp only [Bool.and_eq_true, decide_eq_true_eq] at h6
    omega
  · split at h
    · rename_i h3
      refine ⟨by omega, by omega, by omega, by omega, ?_, ?_⟩
      · rw [h3.2.2.2.2.1]; exact Nat.zero_le _
      · rw [h3.2.2.2.2.2.1]; exact Nat.zero_le _
    · cases h
theorem step_join {s : DState} {c : DCommand} {F : List DSession} {L : List DLock} (e3 : aFresh s = F) (e4 : aLocks s = L) (hk : c.kind = 1) : mStep s c = (⟨s.index + 1, L, s.pairs, (mJoin F s.index c.client).1⟩, (mJoin F s.index c.client).2.1) := by
  subst e3; subst e4; unfold mStep; rw [if_pos hk]
theorem step_leave {s : DState} {c : DCommand} {F : List DSession} {L : List DLock} (e3 : aFresh s = F) (e4 : aLocks s = L) (hk : ¬ c.kind = 1) (hk3 : c.kind = 3) : mStep s c = (⟨s.index + 1, mRel L F (mLeave F s.index c.client).1, s.pairs, (mLeave F s.index c.client).1⟩, (mLeave F s.index c.client).2.1) := by
  subst e3; subst e4; unfold mStep; rw [if_neg hk, if_pos hk3]
theorem step_do {s : DState} {c : DCommand} {F : List DSession} {L : List DLock} (e3 : aFresh s = F) (e4 : aLocks s = L) (hk : ¬ c.kind = 1) (hk3 : ¬ c.kind = 3) (hr : (mReady F s.index c).2.2.1 = true) : mStep s c = (⟨s.index + 1, (mDo L s.pairs c.client c.op).1, (mDo L s.pairs c.client c.op).2.1, (mKeep (mReady F s.index c).1 (s.index + 1) c.client c.seq (mDo L s.pairs c.client c.op).2.2).1⟩, (mDo L s.pairs c.client c.op).2.2) := by
  subst e3; subst e4; unfold mStep; rw [if_neg hk, if_neg hk3, if_pos (show (aReady s c).2.2.1 = true from hr)]; rfl
theorem step_not {s : DState} {c : DCommand} {F : List DSession} {L : List DLock} (e3 : aFresh s = F) (e4 : aLocks s = L) (hk : ¬ c.kind = 1) (hk3 : ¬ c.kind = 3) (hr : (mReady F s.index c).2.2.1 = false) : mStep s c = (⟨s.index + 1, L, s.pairs, (mReady F s.index c).1⟩, (mReady F s.index c).2.1) := by
  subst e3; subst e4; unfold mStep; rw [if_neg hk, if_neg hk3, if_neg (by rw [show (aReady s c).2.2.1 = false from hr]; simp)]; rfl
theorem apply_bad {s : DState} {t : ByteArray} (h : ¬ mState s = 0) : mApply s t = (zState, zRep, mState s) := by unfold mApply; rw [if_pos h]
theorem apply_end {s : DState} {t : ByteArray} (h : mState s = 0) (h1 : 1073741824 ≤ s.index) : mApply s t = (zState, zRep, 2) := by unfold mApply; rw [if_neg (fun q => q h), if_pos h1]
theorem apply_dec {s : DState} {t : ByteArray} (h : mState s = 0) (h1 : ¬ 1073741824 ≤ s.index) (h2 : ¬ (mDecode t).2 = 0) : mApply s t = (zState, zRep, (mDecode t).2) := by unfold mApply; rw [if_neg (fun q => q h), if_neg h1, if_pos h2]
theorem apply_ok {s : DState} {t : ByteArray} {r : DState × DReply} (h : mState s = 0) (h1 : ¬ 1073741824 ≤ s.index) (h2 : (mDecode t).2 = 0) (h3 : mStep s (mDecode t).1 = r) : mApply s t = (r.1, r.2, 0) := by unfold mApply; rw [if_neg (fun q => q h), if_neg h1, if_neg (fun q => q h2), h3]
theorem state_idx {s : DState} (h : mState s = 0) : 0 ≤ s.index ∧ s.index ≤ 1073741824 := by
  have := mSess_bd (mState_parts h).1
  exact ⟨this.1, this.2.1⟩
theorem lk_out {α : Type} [Lay α] {R : List Res} {s : Sl α} {o : Option (List Nat × Sl α)} {w : World} (h : Sl.rd (· ∈ (allR R).fp) w s) (ho : lkR o ∈ R) (hR : ∀ r, r ∈ R → r.p w) : Sl.rd (· ∈ (allR R).fp) w (lk s o) := by
  cases o with
  | none => exact h
  | some p => exact Sl.rd.wide (show Sl.rd (· ∈ p.1) w p.2 from hR _ ho) fun b hb => mem_allR ho hb
end Go.Proofs.YtbjakddkfgjkaaaGreat.Fw

namespace Go.Proofs.YtbjakddkfgjkaaaGreat.Fw
open Go.RowKit
/-! ### what is replied is short -/
theorem lTake_text (d : DLock) (who : Int) (b : Bool) : (lTake d who b).2.text = emp := by
  unfold lTake
  repeat' split
  all_goals rfl
theorem lFree_text (d : DLock) (who : Int) : (lFree d who).2.text = emp := by
  unfold lFree
  repeat' split
  all_goals rfl
theorem mTake_text (l : List DLock) (t : ByteArray) (who : Int) (b : Bool) : (mTake l t who b).2.1.text = emp := by
  unfold mTake
  repeat' split
  all_goals first | rfl | exact lTake_text _ _ _
theorem mFree_text (l : List DLock) (t : ByteArray) (who : Int) : (mFree l t who).2.1.text = emp := by
  unfold mFree
  repeat' split
  all_goals first | rfl | exact lFree_text _ _
theorem mPSet_text (l : List DPair) (t v : ByteArray) : (mPSet l t v).2.1.text = emp := by
  unfold mPSet
  repeat' split
  all_goals rfl
theorem mGot_text {l : List DPair} (h : ∀ p, p ∈ l → p.value.size ≤ 9223372036854775807) (t : ByteArray) : (mGot l t).1.text.size ≤ 9223372036854775807 := by
  unfold mGot
  split
  · split
    · rename_i h2
      by_cases hj : (mIdx (fun x : DPair => decide (x.name = t)) l).toNat < l.length
      · exact h _ (mem_of_getD hj)
      · rw [List.getD_eq_getElem?_getD, List.getElem?_eq_none (by omega)]
        exact Nat.zero_le _
    · exact Nat.zero_le _
  · exact Nat.zero_le _
theorem mDo_text {L : List DLock} {P : List DPair} (h : ∀ p, p ∈ P → p.value.size ≤ 9223372036854775807) (who : Int) (o : DOp) : (mDo L P who o).2.2.text.size ≤ 9223372036854775807 := by
  have e0 : emp.size = 0 := rfl
  unfold mDo
  split
  · show (mTake _ _ _ _).2.1.text.size ≤ _; rw [mTake_text, e0]; omega
  split
  · show (mFree _ _ _).2.1.text.size ≤ _; rw [mFree_text, e0]; omega
  split
  · exact Nat.zero_le _
  split
  · exact mGot_text h _
  split
  · exact Nat.zero_le _
  · show (mPSet _ _ _).2.1.text.size ≤ _; rw [mPSet_text, e0]; omega
end Go.Proofs.YtbjakddkfgjkaaaGreat.Fw

namespace Go.Proofs.YtbjakddkfgjkaaaGreat.Fw
open Go.RowKit
/-! ### more short words for what walks say often -/
abbrev ad (b : Nat) : Addr := ⟨b, 0, none⟩
abbrev zs : SV := .v (.slice none 0 0)
end Go.Proofs.YtbjakddkfgjkaaaGreat.Fw

