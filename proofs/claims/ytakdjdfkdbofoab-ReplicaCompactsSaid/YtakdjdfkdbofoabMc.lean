/-
  What the functions compute, as plain functions: locks, sessions, searches, clients, logs.
  Conditions: none beyond those that each theorem states.
-/
import Derived.Lib.Bytealg
import Derived.Test.YtakdjdfkdbofoabMb
import Derived.Test.YtakdjdfkdbofoabFd
set_option linter.unusedVariables false
set_option linter.unusedSimpArgs false
namespace Go.Proofs.Ytakdjdfkdbofoab.Fw
open Go.RowKit
/-! ### locks that may be -/
def allTo (p : Nat → Bool) : Nat → Bool
  | 0 => true
  | k + 1 => allTo p k && p k
theorem allTo_bad {p : Nat → Bool} {j : Nat} (h : p j = false) : ∀ {n : Nat}, j < n → allTo p n = false
  | 0, hj => absurd hj (Nat.not_lt_zero _)
  | n + 1, hj => by
    simp only [allTo]
    rcases Nat.lt_succ_iff_lt_or_eq.1 hj with h1 | h1
    · rw [allTo_bad h h1]; rfl
    · subst h1; rw [h]; simp
/-- may stand at a place of the line -/
def posOk (d : DLock) (j : Nat) : Bool := inB (d.line.getD j default) 1 9 && (!decide (d.line.getD j default = d.holder) && !((d.line.take j).any fun z => decide (z = d.line.getD j default)))
def lineOk (d : DLock) : Bool := allTo (posOk d) d.line.length && (decide (d.line.length ≤ 3) && (!decide (d.holder = 0) || decide (d.line.length = 0)))
def lockF (l : List DLock) (i : Nat) : Int :=
  if mName (l.getD i default).name = false ∨ (l.getD i default).holder < 0 ∨ 9 < (l.getD i default).holder ∨ lineOk (l.getD i default) = false then 4 else
  if (l.getD i default).fence < 1 ∨ 1073741824 < (l.getD i default).fence then 2 else
  if 0 < i ∧ Op.bytesLess (l.getD (i - 1) default).name.toList (l.getD i default).name.toList = false then 14 else 0
def mLocks (l : List DLock) : Int := if 5 < l.length then 1 else firstF (lockF l) (l.length - 0) 0
theorem abs_at {s : Sl CLock} (q : Nat) : (s.xs.map CLock.abs).getD q default = (s.at q).abs := by
  unfold Sl.at
  rw [List.getD_eq_getElem?_getD, List.getD_eq_getElem?_getD, List.getElem?_map]
  cases s.xs[q]? <;> rfl
/-- a number is among the first ones -/
theorem any_none {s : Sl Int} {k : Nat} {n : Int} (hk : k ≤ s.n) (h : ∀ j, j < k → ¬ s.at j = n) : ((s.xs.take k).any fun z => decide (z = n)) = false := by
  rw [List.any_eq_false]
  intro z hz
  obtain ⟨j, hj, rfl⟩ := List.getElem_of_mem hz
  have hj1 : j < k := by rw [List.length_take] at hj; omega
  have hj2 : j < s.n := by omega
  have h1 := Sl.at_some hj2
  rw [List.getElem_take]
  rw [List.getElem?_eq_getElem (show j < s.xs.length from hj2)] at h1
  injection h1 with h1
  rw [h1]
  simpa using h j hj1
theorem any_here {s : Sl Int} {k j : Nat} {n : Int} (hk : k ≤ s.n) (hj : j < k) (h : s.at j = n) : ((s.xs.take k).any fun z => decide (z = n)) = true := by
  rw [List.any_eq_true]
  have hj2 : j < s.n := by omega
  have h1 := Sl.at_some hj2
  refine ⟨s.at j, ?_, by simpa using h⟩
  refine List.mem_iff_getElem?.2 ⟨j, ?_⟩
  rw [List.getElem?_take, if_pos hj]
  exact h1
theorem take_at {α : Type} [Inhabited α] {s : Sl α} {k j : Nat} (hj : j < k) : (⟨s.A, s.c, s.xs.take k⟩ : Sl α).at j = s.at j := by
  unfold Sl.at
  rw [List.getD_eq_getElem?_getD, List.getD_eq_getElem?_getD, List.getElem?_take, if_pos hj]
theorem take_n {α : Type} {s : Sl α} {k : Nat} (hk : k ≤ s.n) : (⟨s.A, s.c, s.xs.take k⟩ : Sl α).n = k := by
  show (s.xs.take k).length = k
  rw [List.length_take]
  exact Nat.min_eq_left hk
theorem mIdxT_none {α : Type} [Inhabited α] {s : Sl α} {k : Nat} {p : α → Bool} (hk : k ≤ s.n) (h : ∀ j, j < k → p (s.at j) = false) : mIdx p (s.xs.take k) = -1 :=
  mIdx_none (s := (⟨s.A, s.c, s.xs.take k⟩ : Sl α)) fun j hj => by
    rw [take_n hk] at hj
    rw [take_at hj]
    exact h j hj
theorem mIdxT_here {α : Type} [Inhabited α] {s : Sl α} {k i : Nat} {p : α → Bool} (hk : k ≤ s.n) (hi : i < k) (hp : p (s.at i) = true) (h : ∀ j, j < i → p (s.at j) = false) : mIdx p (s.xs.take k) = (i : Int) :=
  mIdx_here (s := (⟨s.A, s.c, s.xs.take k⟩ : Sl α)) (by rw [take_n hk]; exact hi) (by rw [take_at hi]; exact hp) fun j hj => by
    rw [take_at (by omega)]
    exact h j hj
end Go.Proofs.Ytakdjdfkdbofoab.Fw

namespace Go.Proofs.Ytakdjdfkdbofoab.Fw
open Go.RowKit
theorem firstF_zero {f : Nat → Int} : ∀ {n i : Nat}, firstF f n i = 0 → ∀ j, i ≤ j → j < i + n → f j = 0
  | 0, i, _, j, h1, h2 => by omega
  | n + 1, i, h, j, h1, h2 => by
    simp only [firstF] at h
    split at h
    · rename_i h0
      rcases Nat.eq_or_lt_of_le h1 with h3 | h3
      · subst h3; exact h0
      · exact firstF_zero h j h3 (by omega)
    · rename_i h0
      exact absurd h h0
theorem firstF_all {f : Nat → Int} {n : Nat} (h : firstF f (n - 0) 0 = 0) : ∀ j, j < n → f j = 0 := fun j hj => firstF_zero h j (Nat.zero_le _) (by omega)
theorem allTo_good {p : Nat → Bool} : ∀ {n : Nat}, allTo p n = true → ∀ j, j < n → p j = true
  | 0, _, j, hj => absurd hj (Nat.not_lt_zero _)
  | n + 1, h, j, hj => by
    simp only [allTo, Bool.and_eq_true] at h
    rcases Nat.lt_succ_iff_lt_or_eq.1 hj with h1 | h1
    · exact allTo_good h.1 j h1
    · subst h1; exact h.2
theorem allTo_step {p : Nat → Bool} {n : Nat} (h : allTo p n = true) (h2 : p n = true) : allTo p (n + 1) = true := by
  simp only [allTo, h, h2, Bool.and_self]
/-! ### sessions that may be -/
def keptOk (d : DSession) (j : Nat) : Bool :=
  decide (d.acked < (d.replies.getD j default).seq ∧ (d.replies.getD j default).seq ≤ d.acked + 4 ∧ (0 < j → (d.replies.getD (j - 1) default).seq < (d.replies.getD j default).seq) ∧
    0 ≤ (d.replies.getD j default).reply.code ∧ (d.replies.getD j default).reply.code ≤ 15 ∧ 0 ≤ (d.replies.getD j default).reply.n ∧ (d.replies.getD j default).reply.n ≤ 1073741824 ∧ ((d.replies.getD j default).reply.text.size : Int) ≤ 12)
def mReplies (d : DSession) : Bool := allTo (keptOk d) d.replies.length
def sessF (l : List DSession) (index : Int) (i : Nat) : Int :=
  if (l.getD i default).client < 1 ∨ 9 < (l.getD i default).client ∨ (l.getD i default).acked < 0 ∨ 1048576 < (l.getD i default).acked ∨ (l.getD i default).id < 1 ∨ (l.getD i default).last < (l.getD i default).id ∨ index < (l.getD i default).last then 2 else
  if mReplies (l.getD i default) = false then 4 else
  if 0 < i ∧ (l.getD i default).client ≤ (l.getD (i - 1) default).client then 14 else 0
def mSess (l : List DSession) (index : Int) : Int :=
  if index < 0 ∨ 1073741824 < index then 2 else if 4 < l.length then 1 else firstF (sessF l index) (l.length - 0) 0
theorem sabs_at {s : Sl CSession} (q : Nat) : (s.xs.map CSession.abs).getD q default = (s.at q).abs := by
  unfold Sl.at
  rw [List.getD_eq_getElem?_getD, List.getD_eq_getElem?_getD, List.getElem?_map]
  cases s.xs[q]? <;> rfl
theorem mSess_bd {l : List DSession} {index : Int} (h : mSess l index = 0) : 0 ≤ index ∧ index ≤ 1073741824 ∧ l.length ≤ 4 ∧ ∀ j, j < l.length → sessF l index j = 0 := by
  unfold mSess at h
  split at h
  · cases h
  split at h
  · cases h
  exact ⟨by omega, by omega, by omega, firstF_all h⟩
theorem sessF_bd {l : List DSession} {index : Int} {j : Nat} (h : sessF l index j = 0) : 1 ≤ (l.getD j default).client ∧ (l.getD j default).client ≤ 9 ∧ 0 ≤ (l.getD j default).acked ∧ (l.getD j default).acked ≤ 1048576 ∧ 1 ≤ (l.getD j default).id ∧ (l.getD j default).id ≤ (l.getD j default).last ∧ (l.getD j default).last ≤ index ∧ mReplies (l.getD j default) = true ∧ (0 < j → (l.getD (j - 1) default).client < (l.getD j default).client) := by
  unfold sessF at h
  split at h
  · cases h
  split at h
  · cases h
  rename_i h2
  split at h
  · cases h
  have h2' : mReplies (l.getD j default) = true := by simpa using h2
  exact ⟨by omega, by omega, by omega, by omega, by omega, by omega, by omega, h2', by omega⟩
end Go.Proofs.Ytakdjdfkdbofoab.Fw
namespace Go.Proofs.Ytakdjdfkdbofoab.Fw
theorem lineOk_false {d : DLock} (h : allTo (posOk d) d.line.length = false ∨ 3 < d.line.length ∨ (d.holder = 0 ∧ 0 < d.line.length)) : lineOk d = false := by
  unfold lineOk
  rcases h with h | h | ⟨h1, h2⟩
  · rw [h]; rfl
  · rw [decide_eq_false (show ¬ d.line.length ≤ 3 by omega)]; simp
  · rw [decide_eq_true h1, decide_eq_false (show ¬ d.line.length = 0 by omega)]; simp
theorem lineOk_true {d : DLock} (h : allTo (posOk d) d.line.length = true) (h2 : d.line.length ≤ 3) (h3 : ¬ d.holder = 0 ∨ d.line.length = 0) : lineOk d = true := by
  unfold lineOk
  rw [h, decide_eq_true h2]
  rcases h3 with h3 | h3
  · rw [decide_eq_false h3]; simp
  · rw [decide_eq_true h3]; simp
end Go.Proofs.Ytakdjdfkdbofoab.Fw

namespace Go.Proofs.Ytakdjdfkdbofoab.Fw
open Go.RowKit
/-! ### the search that halves -/
/-- the first one, of a list -/
theorem mIdxL_none {α : Type} [Inhabited α] {L : List α} {p : α → Bool} (h : ∀ j, j < L.length → p (L.getD j default) = false) : mIdx p L = -1 := mIdx_none (s := (⟨none, 0, L⟩ : Sl α)) h
theorem mIdxL_here {α : Type} [Inhabited α] {L : List α} {p : α → Bool} {i : Nat} (hi : i < L.length) (hp : p (L.getD i default) = true) (h : ∀ j, j < i → p (L.getD j default) = false) : mIdx p L = (i : Int) := mIdx_here (s := (⟨none, 0, L⟩ : Sl α)) hi hp h
theorem mIdx_cases {α : Type} [Inhabited α] (p : α → Bool) (L : List α) : (mIdx p L = -1 ∧ ∀ j, j < L.length → p (L.getD j default) = false) ∨ ∃ i, i < L.length ∧ mIdx p L = (i : Int) ∧ p (L.getD i default) = true ∧ ∀ j, j < i → p (L.getD j default) = false := by
  by_cases h : ∃ i, i < L.length ∧ p (L.getD i default) = true
  · right
    have key : ∀ n, (∃ i, i < n ∧ i < L.length ∧ p (L.getD i default) = true) → ∃ i, i < L.length ∧ p (L.getD i default) = true ∧ ∀ j, j < i → p (L.getD j default) = false := by
      intro n
      induction n with
      | zero => rintro ⟨i, h1, _⟩; omega
      | succ n ih =>
        rintro ⟨i, h1, h2, h3⟩
        by_cases h4 : ∃ i, i < n ∧ i < L.length ∧ p (L.getD i default) = true
        · exact ih h4
        · refine ⟨i, h2, h3, fun j hj => ?_⟩
          cases hp : p (L.getD j default) with
          | false => rfl
          | true => exact absurd ⟨j, by omega, by omega, hp⟩ h4
    obtain ⟨i, h1, h2⟩ := h
    obtain ⟨k, h3, h4, h5⟩ := key (i + 1) ⟨i, by omega, h1, h2⟩
    exact ⟨k, h3, mIdxL_here h3 h4 h5, h4, h5⟩
  · left
    have h2 : ∀ j, j < L.length → p (L.getD j default) = false := fun j hj => by
      cases hp : p (L.getD j default) with
      | false => rfl
      | true => exact absurd ⟨j, hj, hp⟩ h
    exact ⟨mIdxL_none h2, h2⟩
theorem mIdx_bd {α : Type} [Inhabited α] (p : α → Bool) (L : List α) : -1 ≤ mIdx p L ∧ mIdx p L < L.length := by
  rcases mIdx_cases p L with ⟨h, _⟩ | ⟨i, h1, h2, _⟩
  · rw [h]; omega
  · rw [h2]; omega
/-! ### names in order -/
theorem mPairs_bd {l : List DPair} (h : mPairs l = 0) : l.length ≤ 5 ∧ ∀ j, j < l.length → pairF l j = 0 := by
  unfold mPairs at h
  split at h
  · cases h
  exact ⟨by omega, firstF_all h⟩
theorem mLocks_bd {l : List DLock} (h : mLocks l = 0) : l.length ≤ 5 ∧ ∀ j, j < l.length → lockF l j = 0 := by
  unfold mLocks at h
  split at h
  · cases h
  exact ⟨by omega, firstF_all h⟩
theorem lockF_bd {l : List DLock} {j : Nat} (h : lockF l j = 0) : mName (l.getD j default).name = true ∧ 0 ≤ (l.getD j default).holder ∧ (l.getD j default).holder ≤ 9 ∧ lineOk (l.getD j default) = true ∧ 1 ≤ (l.getD j default).fence ∧ (l.getD j default).fence ≤ 1073741824 ∧ (0 < j → Op.bytesLess (l.getD (j - 1) default).name.toList (l.getD j default).name.toList = true) := by
  unfold lockF at h
  split at h
  · cases h
  rename_i h1
  split at h
  · cases h
  split at h
  · cases h
  rename_i h4
  refine ⟨?_, by omega, by omega, ?_, by omega, by omega, fun hj => ?_⟩
  · cases hb : mName (l.getD j default).name with
    | true => rfl
    | false => exact absurd (.inl hb) h1
  · cases hb : lineOk (l.getD j default) with
    | true => rfl
    | false => exact absurd (.inr (.inr (.inr hb))) h1
  · cases hb : Op.bytesLess (l.getD (j - 1) default).name.toList (l.getD j default).name.toList with
    | true => rfl
    | false => exact absurd ⟨hj, hb⟩ h4
end Go.Proofs.Ytakdjdfkdbofoab.Fw

namespace Go.Proofs.Ytakdjdfkdbofoab.Fw
open Go.RowKit
/-! ### what is deleted -/
theorem take_snocL {α : Type} [Inhabited α] {L : List α} {i : Nat} (hi : i < L.length) : L.take (i + 1) = L.take i ++ [L.getD i default] := by
  rw [List.take_add_one, getD_some hi]; rfl
end Go.Proofs.Ytakdjdfkdbofoab.Fw

namespace Go.Proofs.Ytakdjdfkdbofoab.Fw
open Go.RowKit
/-! ### what is small because it may be -/
theorem mReplies_len {d : DSession} (h : mReplies d = true) : d.replies.length ≤ 4 := by
  have key : ∀ j, j < d.replies.length → d.acked + 1 + (j : Int) ≤ (d.replies.getD j default).seq := by
    intro j
    induction j with
    | zero => intro hj; have := of_decide_eq_true (allTo_good h 0 hj); omega
    | succ j ih =>
      intro hj
      have h1 := ih (by omega)
      have h2 := of_decide_eq_true (allTo_good h (j + 1) hj)
      have h3 := h2.2.2.1 (by omega)
      simp only [Nat.add_sub_cancel] at h3
      omega
  rcases Nat.lt_or_ge 4 d.replies.length with h1 | h1
  · have h2 := key 4 h1
    have h3 := of_decide_eq_true (allTo_good h 4 h1)
    omega
  · exact h1
theorem small_sess {s : Sl CSession} {n : Int} (h : mSess (s.xs.map CSession.abs) n = 0) : Rds.small s := by
  obtain ⟨_, _, h3, h4⟩ := mSess_bd h
  have hl : (s.xs.map CSession.abs).length = s.n := by simp
  refine ⟨by show s.n * 56 ≤ _; omega, fun i hi => ?_⟩
  have h5 := (sessF_bd (h4 i (by omega))).2.2.2.2.2.2.2.1
  rw [sabs_at] at h5
  have h6 := mReplies_len h5
  have h7 : (s.at i).abs.replies.length = (s.at i).replies.n := rfl
  exact ⟨by show (s.at i).replies.n * 40 ≤ _; omega, fun _ _ => trivial⟩
theorem small_locks {s : Sl CLock} (h : mLocks (s.xs.map CLock.abs) = 0) : Rds.small s := by
  obtain ⟨h3, h4⟩ := mLocks_bd h
  have hl : (s.xs.map CLock.abs).length = s.n := by simp
  refine ⟨by show s.n * 56 ≤ _; omega, fun i hi => ?_⟩
  have h5 := (lockF_bd (h4 i (by omega))).2.2.2.1
  rw [abs_at] at h5
  simp only [lineOk, Bool.and_eq_true, decide_eq_true_eq] at h5
  have h7 : (s.at i).abs.line.length = (s.at i).line.n := rfl
  exact ⟨by show (s.at i).line.n * 8 ≤ _; omega, fun _ _ => trivial⟩
/-! ### locks and sessions of our own -/
theorem out_sess {R : List Res} {eS eK : Nat} {A : Option Addr} {c : Nat} {L L0 : List CSession} {w : World} (hr : rowA eS A c L ∈ R) (ho : ownL (keptR eK) L0 ∈ R) (hR : ∀ r, r ∈ R → r.p w) (hsub : ∀ x, x ∈ L → x ∈ L0) (hn : ∀ x, x ∈ L0 → ∀ k, k ∈ x.replies.xs → k.reply.text.size ≤ 9223372036854775807) : Sl.rd (· ∈ (allR R).fp) w (⟨A, c, L⟩ : Sl CSession) :=
  allR_row hr (hR _ hr) fun x hx => Rr (hR _ ho x (hsub x hx)) (fun b hb => mem_allR ho (List.mem_flatMap.2 ⟨x, hsub x hx, hb⟩)) fun k hk => hn x (hsub x hx) k hk
theorem out_locks {R : List Res} {eS eK : Nat} {A : Option Addr} {c : Nat} {L L0 : List CLock} {w : World} (hr : rowA eS A c L ∈ R) (ho : ownL (lineR eK) L0 ∈ R) (hR : ∀ r, r ∈ R → r.p w) (hsub : ∀ x, x ∈ L → x ∈ L0) (hn : ∀ x, x ∈ L0 → x.name.size ≤ 9223372036854775807) : Sl.rd (· ∈ (allR R).fp) w (⟨A, c, L⟩ : Sl CLock) :=
  allR_row hr (hR _ hr) fun x hx => ⟨hn x (hsub x hx), Rr (hR _ ho x (hsub x hx)) (fun b hb => mem_allR ho (List.mem_flatMap.2 ⟨x, hsub x hx, hb⟩)) fun _ _ => trivial⟩
/-! ### sessions that are fresh -/
def stale (index : Int) (x : DSession) : Bool := decide (40 < index + 1 - x.last)
def mFresh (l : List DSession) (index : Int) : List DSession × Int := if mSess l index = 0 then (l.filter fun x => !stale index x, 0) else ([], mSess l index)
/-! ### a pair's value -/
def mGot (l : List DPair) (t : ByteArray) : DReply × Int :=
  if mPairs l = 0 then
    (if 0 ≤ mIdx (fun x : DPair => decide (x.name = t)) l then ⟨0, (l.getD (mIdx (fun x : DPair => decide (x.name = t)) l).toNat default).version, (l.getD (mIdx (fun x : DPair => decide (x.name = t)) l).toNat default).value⟩ else ⟨6, 0, emp⟩, 0)
  else (⟨0, 0, emp⟩, mPairs l)
end Go.Proofs.Ytakdjdfkdbofoab.Fw
namespace Go.Proofs.Ytakdjdfkdbofoab.Fw
end Go.Proofs.Ytakdjdfkdbofoab.Fw

namespace Go.Proofs.Ytakdjdfkdbofoab.Fw
open Go.RowKit
def mState (x : DState) : Int := if mSess x.sessions x.index = 0 then (if mLocks x.locks = 0 then mPairs x.pairs else mLocks x.locks) else mSess x.sessions x.index
/-! ### commands out of bytes -/
def zOp : DOp := ⟨0, emp, emp, 0⟩
def zCmd : DCommand := ⟨0, 0, 0, 0, 0, zOp⟩
def mBody (c : DCommand) (t : ByteArray) : DCommand × ByteArray × Int :=
  let r1 := mRead t
  if ¬ r1.2.2 = 0 then (c, emp, r1.2.2) else
  let r2 := mRead r1.2.1
  if ¬ r2.2.2 = 0 then (c, emp, r2.2.2) else
  let r3 := mRead r2.2.1
  if ¬ r3.2.2 = 0 then (c, emp, r3.2.2) else
  let r4 := mRead r3.2.1
  if ¬ r4.2.2 = 0 then (c, emp, r4.2.2) else
  let r5 := mRead r4.2.1
  if ¬ r5.2.2 = 0 then (c, emp, r5.2.2) else
  let r6 := mTell r5.2.1
  if ¬ r6.2.2 = 0 then (c, emp, r6.2.2) else
  let r7 := mTell r6.2.1
  if ¬ r7.2.2 = 0 then (c, emp, r7.2.2) else
  (⟨c.kind, c.client, r1.1, r2.1, r3.1, ⟨r4.1, r6.1, r7.1, r5.1⟩⟩, r7.2.1, 0)
def mFin (b : DCommand × ByteArray × Int) : DCommand × Int :=
  if ¬ b.2.2 = 0 then (zCmd, b.2.2) else if ¬ b.2.1 = emp then (zCmd, 4) else if ¬ mCmd b.1 = 0 then (zCmd, mCmd b.1) else (b.1, 0)
def cmd0 (s : ByteArray) : DCommand := ⟨((s.data.getD 0 0).toNat : Int), ((s.data.getD 1 0).toNat : Int), 0, 0, 0, zOp⟩
def mDecode (s : ByteArray) : DCommand × Int :=
  if 5000 < s.size then (zCmd, 1) else if s.size < 2 then (zCmd, 5) else
  if (cmd0 s).kind = 2 then mFin (mBody (cmd0 s) (s.extract 2 s.size)) else mFin (cmd0 s, s.extract 2 s.size, 0)
theorem mDecode_ok {s : ByteArray} (h : (mDecode s).2 = 0) : mCmd (mDecode s).1 = 0 ∧ s.size ≤ 5000 := by
  have key : ∀ b : DCommand × ByteArray × Int, (mFin b).2 = 0 → mCmd (mFin b).1 = 0 := by
    intro b hb
    unfold mFin at hb ⊢
    by_cases h1 : b.2.2 = 0
    · rw [if_neg (by simpa using h1)] at hb ⊢
      by_cases h2 : b.2.1 = emp
      · rw [if_neg (by simpa using h2)] at hb ⊢
        by_cases h3 : mCmd b.1 = 0
        · rw [if_neg (by simpa using h3)] at hb ⊢; exact h3
        · rw [if_pos h3] at hb; exact absurd hb h3
      · rw [if_pos h2] at hb; cases hb
    · rw [if_pos h1] at hb; exact absurd hb h1
  unfold mDecode at h ⊢
  split at h
  · cases h
  · rename_i h0
    split at h
    · cases h
    · rename_i h1
      rw [if_neg h0, if_neg h1]
      refine ⟨?_, by omega⟩
      split at h
      · rename_i h2; rw [if_pos h2]; exact key _ h
      · rename_i h2; rw [if_neg h2]; exact key _ h
/-! ### logs -/
def logF (l : List ByteArray) (i : Nat) : Int := (mDecode (l.getD i default)).2
def mLog (x : DLog) : Int := if x.base < 0 ∨ 1073741424 < x.base then 2 else if 400 < x.entries.length then 1 else firstF (logF x.entries) (x.entries.length - 0) 0
theorem mLog_bd {x : DLog} (h : mLog x = 0) : 0 ≤ x.base ∧ x.base ≤ 1073741424 ∧ x.entries.length ≤ 400 ∧ ∀ j, j < x.entries.length → (mDecode (x.entries.getD j default)).2 = 0 := by
  unfold mLog at h
  split at h
  · cases h
  split at h
  · cases h
  exact ⟨by omega, by omega, by omega, firstF_all h⟩
def mLast (x : DLog) : Int := x.base + (x.entries.length : Int)
/-! ### clients -/
def mAck (x : DCustomer) : Int := if 0 < x.waits.length then (x.waits.getD 0 default).seq - 1 else x.next - 1
def mHello (x : DCustomer) : ByteArray × Int := if mCust x = 0 then mEnc ⟨1, x.id, 0, 0, 0, zOp⟩ else (emp, mCust x)
def mReq (x : DCustomer) (k : Int) : ByteArray × Int :=
  if mCust x = 0 then (if 0 ≤ k ∧ k < x.waits.length then mEnc ⟨2, x.id, x.session, (x.waits.getD k.toNat default).seq, mAck x, (x.waits.getD k.toNat default).op⟩ else (emp, 6)) else (emp, mCust x)
def zCust : DCustomer := ⟨0, 0, 0, []⟩
def mStart (x : DCustomer) (o : DOp) : DCustomer × Int :=
  if ¬ mCust x = 0 then (zCust, mCust x) else if x.session = 0 then (zCust, 11) else if ¬ mOp o = 0 then (zCust, mOp o) else
  if 1048576 < x.next ∨ mAck x + 4 < x.next then (zCust, 8) else (⟨x.id, x.session, x.next + 1, x.waits ++ [⟨x.next, o⟩]⟩, 0)
theorem mCust_bd {x : DCustomer} (h : mCust x = 0) : 1 ≤ x.id ∧ x.id ≤ 9 ∧ 0 ≤ x.session ∧ x.session ≤ 1073741824 ∧ 1 ≤ x.next ∧ x.next ≤ 1048577 ∧ x.waits.length ≤ 4 ∧ (x.session = 0 → x.waits.length = 0) ∧ ∀ j, j < x.waits.length → custF x j = 0 := by
  unfold mCust at h
  split at h
  · cases h
  split at h
  · cases h
  exact ⟨by omega, by omega, by omega, by omega, by omega, by omega, by omega, by omega, firstF_all h⟩
/-! ### who has a lock -/
def mWho (l : List DLock) (t : ByteArray) : Int × Int × Int :=
  if mLocks l = 0 then
    (if 0 ≤ mIdx (fun x : DLock => decide (x.name = t)) l ∧ ¬ (l.getD (mIdx (fun x : DLock => decide (x.name = t)) l).toNat default).holder = 0 then ((l.getD (mIdx (fun x : DLock => decide (x.name = t)) l).toNat default).holder, (l.getD (mIdx (fun x : DLock => decide (x.name = t)) l).toNat default).fence, 0) else (0, 0, 0))
  else (0, 0, mLocks l)
end Go.Proofs.Ytakdjdfkdbofoab.Fw
namespace Go.Proofs.Ytakdjdfkdbofoab.Fw
theorem mTell_bd (s : ByteArray) : (mTell s).1.size ≤ s.size ∧ (mTell s).2.1.size ≤ s.size := by
  have h := mRead_bd s
  unfold mTell
  split
  · simp [emp_size]
  · split
    · simp [emp_size]
    · split
      · simp [emp_size]
      · simp only [ByteArray.size_extract]
        omega
end Go.Proofs.Ytakdjdfkdbofoab.Fw

namespace Go.Proofs.Ytakdjdfkdbofoab.Fw
open Go.RowKit
/-! ### mails to clients -/
def mHear (x : DCustomer) (m : DMail) : DCustomer × Int :=
  if ¬ mCust x = 0 then (zCust, mCust x) else if ¬ m.client = x.id then (zCust, 6) else
  if m.seq = 0 then
    (if 0 < x.session then (zCust, 12) else
     if m.reply.code = 0 ∨ m.reply.code = 7 then (if m.reply.n < 1 ∨ 1073741824 < m.reply.n then (zCust, 2) else (⟨x.id, m.reply.n, x.next, x.waits⟩, 0)) else (x, 0))
  else if mIdx (fun z : DWait => decide (z.seq = m.seq)) x.waits < 0 then (zCust, 12)
  else if m.reply.code = 11 then (⟨x.id, 0, x.next, []⟩, 0)
  else (⟨x.id, x.session, x.next, x.waits.filter fun z => !decide (z.seq = m.seq)⟩, 0)
/-! ### a session that is left -/
def zRep : DReply := ⟨0, 0, emp⟩
def mLeave (l : List DSession) (index client : Int) : List DSession × DReply × Int :=
  if ¬ mSess l index = 0 then ([], zRep, mSess l index) else
  if mIdx (fun x : DSession => decide (x.client = client)) l < 0 then (l, ⟨11, 0, emp⟩, 0) else
  (l.take (mIdx (fun x : DSession => decide (x.client = client)) l).toNat ++ l.drop ((mIdx (fun x : DSession => decide (x.client = client)) l).toNat + 1), zRep, 0)
end Go.Proofs.Ytakdjdfkdbofoab.Fw
namespace Go.Proofs.Ytakdjdfkdbofoab.Fw
end Go.Proofs.Ytakdjdfkdbofoab.Fw

namespace Go.Proofs.Ytakdjdfkdbofoab.Fw
open Go.RowKit
/-! ### a lock that is given up -/
def mPass (d : DLock) : DLock := if 0 < d.line.length ∧ d.fence < 1073741824 then ⟨d.name, d.line.getD 0 default, d.fence + 1, d.line.drop 1⟩ else ⟨d.name, 0, d.fence, []⟩
/-- one is not in the line any more -/
def unline (l : List Int) (who : Int) : List Int := l.filter fun z => !decide (z = who)
def goneF (who : Int) (d : DLock) : DLock := if d.holder = who then mPass ⟨d.name, d.holder, d.fence, unline d.line who⟩ else ⟨d.name, d.holder, d.fence, unline d.line who⟩
def mGone (l : List DLock) (who : Int) : List DLock × Int := if ¬ mLocks l = 0 then ([], mLocks l) else if who < 1 ∨ 9 < who then ([], 2) else (l.map (goneF who), 0)
theorem CellsAt.off {w : World} {a : Addr} {vs : List Value} (h : CellsAt w a vs) (o : Nat) : CellsAt w (a.add o) (vs.drop o) := by
  have := h.part o vs.length
  rwa [List.take_of_length_le (by rw [List.length_drop]; omega)] at this
end Go.Proofs.Ytakdjdfkdbofoab.Fw

namespace Go.Proofs.Ytakdjdfkdbofoab.Fw
open Go.RowKit
def zLog : DLog := ⟨0, []⟩
def mCut (x : DLog) (i : Int) : DLog × Int :=
  if ¬ mLog x = 0 then (zLog, mLog x) else if i < x.base ∨ mLast x < i then (zLog, 2) else if 1073741424 < i then (zLog, 8) else (⟨i, x.entries.drop (i - x.base).toNat⟩, 0)
def mBehind (x : DLog) (i many : Int) : List ByteArray × Int :=
  if ¬ mLog x = 0 then ([], mLog x) else if i < x.base ∨ many < 0 then ([], 2) else ((x.entries.drop (i - x.base).toNat).take many.toNat, 0)
def putOne (E : List ByteArray) (k : Nat) (s : ByteArray) : List ByteArray := if k < E.length ∧ E.getD k default = s then E else E.take k ++ [s]
def putGo : List ByteArray → Nat → List ByteArray → List ByteArray × Int
  | E, _, [] => (E, 0)
  | E, k, s :: r => if ¬ (mDecode s).2 = 0 then ([], (mDecode s).2) else putGo (putOne E k s) (k + 1) r
def mPut (x : DLog) (behind : Int) (more : List ByteArray) : DLog × Int :=
  if ¬ mLog x = 0 then (zLog, mLog x) else if behind < 0 ∨ 1073741824 < behind then (zLog, 2) else if 400 < more.length then (zLog, 1) else if mLast x < behind then (zLog, 13) else
  if ¬ (putGo x.entries (behind - x.base).toNat (more.drop (x.base - behind).toNat)).2 = 0 then (zLog, (putGo x.entries (behind - x.base).toNat (more.drop (x.base - behind).toNat)).2) else
  if 400 < (putGo x.entries (behind - x.base).toNat (more.drop (x.base - behind).toNat)).1.length then (zLog, 8) else
  (⟨x.base, (putGo x.entries (behind - x.base).toNat (more.drop (x.base - behind).toNat)).1⟩, 0)
end Go.Proofs.Ytakdjdfkdbofoab.Fw
namespace Go.Proofs.Ytakdjdfkdbofoab.Fw
end Go.Proofs.Ytakdjdfkdbofoab.Fw
namespace Go.Proofs.Ytakdjdfkdbofoab.Fw
theorem inR_of_wf {n : Int} (h : (Lit.int .i64 n).wf = true) : inR n := by
  have h1 : IntKind.i64.min = -9223372036854775808 := by decide
  have h2 : IntKind.i64.max = 9223372036854775807 := by decide
  simp only [Lit.wf, h1, h2, Bool.and_eq_true, decide_eq_true_eq] at h
  exact h
end Go.Proofs.Ytakdjdfkdbofoab.Fw
namespace Go.Proofs.Ytakdjdfkdbofoab.Fw
theorem Sl.rd.drop {α : Type} [Lay α] {B : Nat → Prop} {w : World} {s : Sl α} (h : s.rd B w) (k : Nat) (hk : k ≤ s.n) : Sl.rd B w (⟨offA s.A s.c k (Lay.size α), s.c - k, s.xs.drop k⟩ : Sl α) := by
  have hl : (s.xs.drop k).length = s.n - k := List.length_drop ..
  refine ⟨by show (s.xs.drop k).length ≤ s.c - k; have := h.1; omega, by show s.c - k ≤ maxLen; have := h.2.1; omega, fun i x hx => ?_⟩
  rw [List.getElem?_drop] at hx
  obtain ⟨⟨a, ha, hB, hc⟩, h2⟩ := h.2.2 (k + i) x hx
  have hi : k + i < s.n := (List.getElem?_eq_some_iff.1 hx).1
  have hne : ¬ s.c = k := by have := h.1; omega
  refine ⟨⟨a.add (k * Lay.size α), ?_, by rw [add_block]; exact hB, ?_⟩, h2⟩
  · show offA s.A s.c k (Lay.size α) = _
    unfold offA
    rw [if_neg hne, ha]
    rfl
  · rw [addr_add, ← Nat.add_mul]
    exact hc
end Go.Proofs.Ytakdjdfkdbofoab.Fw
namespace Go.Proofs.Ytakdjdfkdbofoab.Fw
end Go.Proofs.Ytakdjdfkdbofoab.Fw

namespace Go.Proofs.Ytakdjdfkdbofoab.Fw
open Go.RowKit
/-! ### states as bytes -/
def mNums (l : List Int) : ByteArray := l.foldl (fun b n => b ++ (mNumber n).1) emp
def mTextB (s : ByteArray) : ByteArray := (mText s).1
theorem foldl_take {α β : Type} [Inhabited α] (f : β → α → β) (b : β) (l : List α) {i : Nat} (h : i < l.length) : (l.take (i + 1)).foldl f b = f ((l.take i).foldl f b) (l.getD i default) := by
  rw [List.take_add_one, List.foldl_append, List.getElem?_eq_getElem h, List.getD_eq_getElem?_getD, List.getElem?_eq_getElem h]
  rfl
theorem foldl_all {α β : Type} (f : β → α → β) (b : β) (l : List α) {i : Nat} (h : l.length ≤ i) : (l.take i).foldl f b = l.foldl f b := by rw [List.take_of_length_le h]
theorem append_emp (x : ByteArray) : x ++ emp = x := by
  apply ByteArray.ext
  simp [emp]
theorem mNums_step {l : List Int} {i : Nat} (h : i < l.length) : mNums (l.take i) ++ (mNumber (l.getD i default)).1 = mNums (l.take (i + 1)) := by
  unfold mNums
  rw [foldl_take _ _ l h]
/-- a slice of numbers that is a block of ours -/
theorem rd_local {w : World} {b ty : Nat} (L : List Int) (h : w.heap[b]? = some (.cells (L.map (Value.int .i64)).toArray ty (0, 0))) (hl : L.length ≤ 65536) : Sl.rd anyB w (⟨some ⟨b, 0, none⟩, L.length, L⟩ : Sl Int) := by
  refine ⟨Nat.le_refl _, by unfold maxLen; show L.length ≤ _; omega, fun i x hx => ⟨⟨_, rfl, trivial, ?_⟩, trivial⟩⟩
  have hc : CellsAt w ⟨b, 0, none⟩ (L.map (Value.int .i64)) := blkR_at (ty := ty) h
  have h1 := hc.part (i * Lay.size Int) 1
  have hx' : L[i]? = some x := hx
  have e : ((L.map (Value.int .i64)).drop (i * Lay.size Int)).take 1 = Lay.cells x := by
    rw [show i * Lay.size Int = i from Nat.mul_one i, ← List.map_drop]
    cases hd : L.drop i with
    | nil => exact absurd (List.drop_eq_nil_iff.1 hd) (by have := (List.getElem?_eq_some_iff.1 hx').1; omega)
    | cons y r =>
      have : L[i]? = some y := by rw [← List.head?_drop, hd]; rfl
      rw [hx'] at this
      cases this
      rfl
  rw [e] at h1
  exact h1
theorem mNums_size (l : List Int) : (mNums l).size ≤ 6 * l.length := by
  have key : ∀ (l : List Int) (x : ByteArray), (l.foldl (fun b n => b ++ (mNumber n).1) x).size ≤ x.size + 6 * l.length := by
    intro l
    induction l with
    | nil => intro x; simp
    | cons n r ih =>
      intro x
      simp only [List.foldl_cons, List.length_cons]
      have h1 := ih (x ++ (mNumber n).1)
      have h2 := mNumber_size n
      rw [ByteArray.size_append] at h1
      omega
  have := key l emp
  have he : emp.size = 0 := rfl
  unfold mNums
  omega
theorem mTextB_size (s : ByteArray) : (mTextB s).size ≤ 5006 := by
  unfold mTextB mText
  split
  · show emp.size ≤ _
    have he : emp.size = 0 := rfl
    omega
  · show ((mNumber (s.size : Int)).1 ++ s).size ≤ _
    rw [ByteArray.size_append]
    have := mNumber_size (s.size : Int)
    omega
def lockS (b : ByteArray) (d : DLock) : ByteArray := b ++ mTextB d.name ++ mNums [d.holder, d.fence, (d.line.length : Int)] ++ mNums d.line
def pairS (b : ByteArray) (d : DPair) : ByteArray := b ++ mTextB d.name ++ mTextB d.value ++ mNums [d.version]
def keptS (b : ByteArray) (d : DKept) : ByteArray := b ++ mNums [d.seq, d.reply.code, d.reply.n] ++ mTextB d.reply.text
def sessS (b : ByteArray) (d : DSession) : ByteArray := d.replies.foldl keptS (b ++ mNums [d.client, d.id, d.acked, d.last, (d.replies.length : Int)])
def mSnapB (s : DState) : ByteArray :=
  s.sessions.foldl sessS (s.pairs.foldl pairS (s.locks.foldl lockS (mNums [s.index, (s.locks.length : Int)]) ++ mNums [(s.pairs.length : Int)]) ++ mNums [(s.sessions.length : Int)])
def mSnap (s : DState) : ByteArray × Int := if mState s = 0 then (mSnapB s ++ mSeal (mSnapB s), 0) else (emp, mState s)
/-- no slice of numbers lies in a block of one string -/
theorem rd_neblk {B : Nat → Prop} {w : World} {s : Sl Int} {b ty : Nat} {x : ByteArray} (h : s.rd B w) (hb : (blkR b ty [.string x]).p w) : s.rd (fun q => ¬ q = b) w := by
  refine ⟨h.1, h.2.1, fun i v hv => ?_⟩
  obtain ⟨⟨a, ha, hB, hc⟩, _⟩ := h.2.2 i v hv
  refine ⟨⟨a, ha, fun e => ?_, hc⟩, trivial⟩
  have h1 := hc 0 (.int .i64 v) rfl
  have hb' : w.heap[b]? = some (.cells #[Value.string x] ty (0, 0)) := hb
  have e2 : ((a.add (i * Lay.size Int)).add 0).block = b := by rw [add_block, add_block]; exact e
  revert h1
  simp only [World.cell?, e2, hb']
  intro h1
  split at h1
  · cases h1
  obtain ⟨h2, h3⟩ := Array.getElem?_eq_some_iff.1 h1
  have : ((a.add (i * Lay.size Int)).add 0).off = 0 := by simp at h2; exact h2
  simp [this] at h3
theorem replies_len {d : DSession} (h : mReplies d = true) : d.replies.length ≤ 4 := by
  have hk := allTo_good h
  have key : ∀ j, j < d.replies.length → d.acked + (j : Int) + 1 ≤ (d.replies.getD j default).seq := by
    intro j
    induction j with
    | zero =>
      intro hj
      have h1 := hk 0 hj
      simp only [keptOk, decide_eq_true_eq] at h1
      omega
    | succ j ih =>
      intro hj
      have h1 := hk (j + 1) hj
      simp only [keptOk, decide_eq_true_eq] at h1
      have h2 := h1.2.2.1 (by omega)
      have h3 := ih (by omega)
      have e : j + 1 - 1 = j := rfl
      rw [e] at h2
      omega
  rcases Nat.lt_or_ge 4 d.replies.length with h4 | h4
  · have h1 := key 4 h4
    have h2 := hk 4 h4
    simp only [keptOk, decide_eq_true_eq] at h2
    omega
  · exact h4
theorem at_out {α : Type} [Inhabited α] {s : Sl α} {q : Nat} (h : ¬ q < s.n) : s.at q = default := by
  unfold Sl.at
  rw [List.getD_eq_getElem?_getD, List.getElem?_eq_none (by unfold Sl.n at h; omega)]
  rfl
theorem mState_bd {x : DState} (h : mState x = 0) : x.locks.length ≤ 5 ∧ x.pairs.length ≤ 5 ∧ x.sessions.length ≤ 4 ∧ (∀ j, j < x.locks.length → (x.locks.getD j default).line.length ≤ 3) ∧ (∀ j, j < x.sessions.length → (x.sessions.getD j default).replies.length ≤ 4) := by
  have hs : mSess x.sessions x.index = 0 := by
    unfold mState at h
    split at h
    · assumption
    · exact h
  have hl : mLocks x.locks = 0 := by
    unfold mState at h
    rw [if_pos hs] at h
    split at h
    · assumption
    · exact h
  have hp : mPairs x.pairs = 0 := by
    unfold mState at h
    rw [if_pos hs, if_pos hl] at h
    exact h
  have h1 := mSess_bd hs
  have hl5 : x.locks.length ≤ 5 := by
    unfold mLocks at hl
    split at hl
    · cases hl
    · omega
  have hp5 : x.pairs.length ≤ 5 := by
    unfold mPairs at hp
    split at hp
    · cases hp
    · omega
  refine ⟨hl5, hp5, h1.2.2.1, fun j hj => ?_, fun j hj => ?_⟩
  · unfold mLocks at hl
    rw [if_neg (by omega)] at hl
    have h2 := firstF_all hl j hj
    unfold lockF at h2
    split at h2
    · cases h2
    · rename_i h3
      have h4 : lineOk (x.locks.getD j default) = true := by
        cases h5 : lineOk (x.locks.getD j default) with
        | true => rfl
        | false => exact absurd (.inr (.inr (.inr h5))) h3
      simp only [lineOk, Bool.and_eq_true, decide_eq_true_eq] at h4
      exact h4.2.1
  · have h2 := h1.2.2.2 j hj
    unfold sessF at h2
    split at h2
    · cases h2
    · split at h2
      · cases h2
      · rename_i h3
        refine replies_len ?_
        cases h4 : mReplies (x.sessions.getD j default) with
        | true => rfl
        | false => exact absurd h4 h3
end Go.Proofs.Ytakdjdfkdbofoab.Fw

namespace Go.Proofs.Ytakdjdfkdbofoab.Fw
open Go.RowKit
/-! ### one laid in, ahead of the first that is greater -/
def mIns {α : Type} (p : α → Bool) (x : α) (l : List α) : List α := l.take (l.findIdx p) ++ [x] ++ l.drop (l.findIdx p)
theorem ins_more {α : Type} {p : α → Bool} {x y : α} {l : List α} (h : l.any p = true) : mIns p x (l ++ [y]) = mIns p x l ++ [y] := by
  have hlt : l.findIdx p < l.length := List.findIdx_lt_length.2 (List.any_eq_true.1 h)
  unfold mIns
  have e : (l ++ [y]).findIdx p = l.findIdx p := by rw [List.findIdx_append, if_pos hlt]
  rw [e, List.take_append_of_le_length (Nat.le_of_lt hlt), List.drop_append_of_le_length (Nat.le_of_lt hlt)]
  simp
theorem ins_len {α : Type} (p : α → Bool) (x : α) (l : List α) : (mIns p x l).length = l.length + 1 := by
  have := List.findIdx_le_length (p := p) (xs := l)
  unfold mIns
  simp only [List.length_append, List.length_take, List.length_drop, List.length_cons, List.length_nil]
  omega
/-! ### sessions: a client joins, asks, is answered -/
def sIdx (l : List DSession) (client : Int) : Int := mIdx (fun x : DSession => decide (x.client = client)) l
def mJoin (l : List DSession) (index client : Int) : List DSession × DReply × Int :=
  if ¬ mSess l index = 0 then ([], zRep, mSess l index) else
  if client < 1 ∨ 9 < client ∨ 1073741824 ≤ index then ([], zRep, 2) else
  if 0 ≤ sIdx l client then
    (l.set (sIdx l client).toNat { l.getD (sIdx l client).toNat default with last := index + 1 }, ⟨7, (l.getD (sIdx l client).toNat default).id, emp⟩, 0)
  else if 4 ≤ l.length then (l, ⟨8, 0, emp⟩, 0) else
  (mIns (fun x : DSession => decide (client < x.client)) ⟨client, index + 1, 0, index + 1, []⟩ l, ⟨0, index + 1, emp⟩, 0)
def kAck (d : DSession) (c : DCommand) : Int := if d.acked < c.acked then c.acked else d.acked
def kLeft (d : DSession) (c : DCommand) : List DKept := d.replies.filter fun k => !decide (k.seq ≤ kAck d c)
def kSess (d : DSession) (index : Int) (c : DCommand) : DSession := ⟨d.client, d.id, kAck d c, index + 1, kLeft d c⟩
def kIdx (l : List DKept) (seq : Int) : Int := mIdx (fun k : DKept => decide (k.seq = seq)) l
def kAns (d : DSession) (c : DCommand) : DReply × Bool :=
  if c.seq ≤ kAck d c then (⟨12, 0, emp⟩, false) else
  if 0 ≤ kIdx (kLeft d c) c.seq then (((kLeft d c).getD (kIdx (kLeft d c) c.seq).toNat default).reply, false) else
  if kAck d c + 4 < c.seq then (⟨2, 0, emp⟩, false) else (zRep, true)
def mReady (l : List DSession) (index : Int) (c : DCommand) : List DSession × DReply × Bool × Int :=
  if ¬ mSess l index = 0 then ([], zRep, false, mSess l index) else
  if 1073741824 ≤ index ∨ c.seq < 1 ∨ 1048576 < c.seq ∨ c.acked < 0 ∨ c.seq ≤ c.acked then ([], zRep, false, 2) else
  if sIdx l c.client < 0 ∨ ¬ (l.getD (sIdx l c.client).toNat default).id = c.session then (l, ⟨11, 0, emp⟩, false, 0) else
  (l.set (sIdx l c.client).toNat (kSess (l.getD (sIdx l c.client).toNat default) index c), (kAns (l.getD (sIdx l c.client).toNat default) c).1, (kAns (l.getD (sIdx l c.client).toNat default) c).2, 0)
def kIns (d : DSession) (seq : Int) (r : DReply) : DSession := { d with replies := mIns (fun k : DKept => decide (seq < k.seq)) ⟨seq, r⟩ d.replies }
def mKeep (l : List DSession) (index client seq : Int) (r : DReply) : List DSession × Int :=
  if ¬ mSess l index = 0 then ([], mSess l index) else
  if sIdx l client < 0 then ([], 11) else
  if 0 ≤ kIdx (l.getD (sIdx l client).toNat default).replies seq then ([], 7) else
  if mReplies (kIns (l.getD (sIdx l client).toNat default) seq r) = false then ([], 2) else
  (l.set (sIdx l client).toNat (kIns (l.getD (sIdx l client).toNat default) seq r), 0)
/-! ### values by their names -/
def pIdx (l : List DPair) (t : ByteArray) : Int := mIdx (fun x : DPair => decide (x.name = t)) l
def mPSet (l : List DPair) (t v : ByteArray) : List DPair × DReply × Int :=
  if ¬ mPairs l = 0 then ([], zRep, mPairs l) else if mName t = false then ([], zRep, 4) else if 12 < v.size then ([], zRep, 1) else
  if 0 ≤ pIdx l t then
    (if 1073741824 ≤ (l.getD (pIdx l t).toNat default).version then (l, ⟨8, 0, emp⟩, 0) else
     (l.set (pIdx l t).toNat ⟨(l.getD (pIdx l t).toNat default).name, v, (l.getD (pIdx l t).toNat default).version + 1⟩, ⟨0, (l.getD (pIdx l t).toNat default).version + 1, emp⟩, 0))
  else if 5 ≤ l.length then (l, ⟨8, 0, emp⟩, 0) else
  (mIns (fun x : DPair => Op.bytesLess t.toList x.name.toList) ⟨t, v, 1⟩ l, ⟨0, 1, emp⟩, 0)
/-! ### locks: taken, given up -/
def lIdx (l : List DLock) (t : ByteArray) : Int := mIdx (fun x : DLock => decide (x.name = t)) l
def mAsk (l : List DLock) (t : ByteArray) (who : Int) : Int := if ¬ mLocks l = 0 then mLocks l else if mName t = false then 4 else if who < 1 ∨ 9 < who then 2 else 0
def lHas (d : DLock) (who : Int) : Bool := d.line.any fun z => decide (z = who)
/-- what taking does to a lock, and what is replied -/
def lTake (d : DLock) (who : Int) (wait : Bool) : DLock × DReply :=
  if d.holder = who then (d, ⟨0, d.fence, emp⟩) else
  if d.holder = 0 then (if 1073741824 ≤ d.fence then (d, ⟨8, 0, emp⟩) else (⟨d.name, who, d.fence + 1, d.line⟩, ⟨0, d.fence + 1, emp⟩)) else
  if wait = false ∨ lHas d who = true then (d, ⟨10, d.holder, emp⟩) else
  if 3 ≤ d.line.length then (d, ⟨8, 0, emp⟩) else (⟨d.name, d.holder, d.fence, d.line ++ [who]⟩, ⟨10, d.holder, emp⟩)
def mTake (l : List DLock) (t : ByteArray) (who : Int) (wait : Bool) : List DLock × DReply × Int :=
  if ¬ mAsk l t who = 0 then ([], zRep, mAsk l t who) else
  if lIdx l t < 0 then (if 5 ≤ l.length then (l, ⟨8, 0, emp⟩, 0) else (mIns (fun x : DLock => Op.bytesLess t.toList x.name.toList) ⟨t, who, 1, []⟩ l, ⟨0, 1, emp⟩, 0)) else
  (l.set (lIdx l t).toNat (lTake (l.getD (lIdx l t).toNat default) who wait).1, (lTake (l.getD (lIdx l t).toNat default) who wait).2, 0)
def lFree (d : DLock) (who : Int) : DLock × DReply :=
  if d.holder = who then (mPass d, ⟨0, (mPass d).holder, emp⟩) else
  if lHas d who = true then (⟨d.name, d.holder, d.fence, unline d.line who⟩, ⟨0, d.holder, emp⟩) else (d, ⟨10, d.holder, emp⟩)
def mFree (l : List DLock) (t : ByteArray) (who : Int) : List DLock × DReply × Int :=
  if ¬ mAsk l t who = 0 then ([], zRep, mAsk l t who) else
  if lIdx l t < 0 then (l, ⟨6, 0, emp⟩, 0) else
  (l.set (lIdx l t).toNat (lFree (l.getD (lIdx l t).toNat default) who).1, (lFree (l.getD (lIdx l t).toNat default) who).2, 0)
end Go.Proofs.Ytakdjdfkdbofoab.Fw

namespace Go.Proofs.Ytakdjdfkdbofoab.Fw
open Go.RowKit
/-- in the middle of laying one in, ahead of the first that is greater -/
structure InsI {α : Type} (p : α → Bool) (x : α) (S : List α) (k : Nat) (b : Bool) (L : List α) : Prop where
  le : k ≤ S.length
  any : (S.take k).any p = b
  eq : L = if b = true then mIns p x (S.take k) else S.take k
theorem InsI.start {α : Type} (p : α → Bool) (x : α) (S : List α) : InsI p x S 0 false [] := ⟨Nat.zero_le _, rfl, rfl⟩
theorem InsI.more {α : Type} [Inhabited α] {p : α → Bool} {x : α} {S L : List α} {k : Nat} {b : Bool} (h : InsI p x S k b L) (hb : b = true) (hk : k < S.length) : InsI p x S (k + 1) true (L ++ [S.getD k default]) := by
  subst hb
  refine ⟨hk, ?_, ?_⟩
  · rw [take_snocL hk, List.any_append, h.any]; rfl
  · have h1 := h.eq
    rw [if_pos rfl] at h1 ⊢
    rw [take_snocL hk, ins_more h.any, h1]
theorem InsI.skip {α : Type} [Inhabited α] {p : α → Bool} {x : α} {S L : List α} {k : Nat} {b : Bool} (h : InsI p x S k b L) (hb : b = false) (hk : k < S.length) (hy : p (S.getD k default) = false) : InsI p x S (k + 1) false (L ++ [S.getD k default]) := by
  subst hb
  refine ⟨hk, ?_, ?_⟩
  · rw [take_snocL hk, List.any_append, h.any, List.any_cons, hy]; rfl
  · have h1 := h.eq
    rw [if_neg (by simp)] at h1 ⊢
    rw [take_snocL hk, h1]
theorem InsI.len {α : Type} {p : α → Bool} {x : α} {S L : List α} {k : Nat} {b : Bool} (h : InsI p x S k b L) : L.length ≤ k + 1 := by
  have h1 := h.eq
  have h2 := h.le
  split at h1
  · rw [h1, ins_len, List.length_take]; omega
  · rw [h1, List.length_take]; omega
theorem mem_set {α : Type} {L : List α} {i : Nat} {x y : α} (h : y ∈ L.set i x) : y = x ∨ y ∈ L := (List.mem_or_eq_of_mem_set h).symm
end Go.Proofs.Ytakdjdfkdbofoab.Fw

namespace Go.Proofs.Ytakdjdfkdbofoab.Fw
open Go.RowKit
/-! ### bytes as states: 'q': what is left, and what went wrong first -/
abbrev RQ := ByteArray × Int
def rNum (q : RQ) : Int × RQ := if q.2 = 0 then ((mRead q.1).1, ((mRead q.1).2.1, (mRead q.1).2.2)) else (0, q)
def rTxt (q : RQ) : ByteArray × RQ := if q.2 = 0 then ((mTell q.1).1, ((mTell q.1).2.1, (mTell q.1).2.2)) else (emp, q)
def rMany (most : Int) (q : RQ) : Int × RQ :=
  if (rNum q).2.2 = 0 then (if most < (rNum q).1 then (0, ((rNum q).2.1, 1)) else rNum q) else (0, (rNum q).2)
def rIter {α : Type} (f : RQ → α × RQ) : Nat → RQ → List α × RQ
  | 0, q => ([], q)
  | n + 1, q => ((rIter f n q).1 ++ [(f (rIter f n q).2).1], (f (rIter f n q).2).2)
def rLock (q : RQ) : DLock × RQ :=
  let a := rTxt q
  let b := rNum a.2
  let c := rNum b.2
  let m := rMany 3 c.2
  let l := rIter rNum m.1.toNat m.2
  (⟨a.1, b.1, c.1, l.1⟩, l.2)
def rPair (q : RQ) : DPair × RQ :=
  let a := rTxt q
  let b := rTxt a.2
  let c := rNum b.2
  (⟨a.1, b.1, c.1⟩, c.2)
def rKept (q : RQ) : DKept × RQ :=
  let a := rNum q
  let b := rNum a.2
  let c := rNum b.2
  let d := rTxt c.2
  (⟨a.1, ⟨b.1, c.1, d.1⟩⟩, d.2)
def rSess (q : RQ) : DSession × RQ :=
  let a := rNum q
  let b := rNum a.2
  let c := rNum b.2
  let d := rNum c.2
  let m := rMany 4 d.2
  let l := rIter rKept m.1.toNat m.2
  (⟨a.1, b.1, c.1, d.1, l.1⟩, l.2)
def rState (q : RQ) : DState × RQ :=
  let a := rNum q
  let m1 := rMany 5 a.2
  let l1 := rIter rLock m1.1.toNat m1.2
  let m2 := rMany 5 l1.2
  let l2 := rIter rPair m2.1.toNat m2.2
  let m3 := rMany 4 l2.2
  let l3 := rIter rSess m3.1.toNat m3.2
  (⟨a.1, l1.1, l2.1, l3.1⟩, l3.2)
def zState : DState := ⟨0, [], [], []⟩
def mUnsnap (s : ByteArray) : DState × Int :=
  if 5000 < s.size then (zState, 1) else if s.size < 4 then (zState, 5) else
  if ¬ mSeal (s.extract 0 (s.size - 4)) = s.extract (s.size - 4) s.size then (zState, 15) else
  if (rState (s.extract 0 (s.size - 4), 0)).2.2 = 0 ∧ ¬ (rState (s.extract 0 (s.size - 4), 0)).2.1 = emp then (zState, 4) else
  if ¬ (rState (s.extract 0 (s.size - 4), 0)).2.2 = 0 then (zState, (rState (s.extract 0 (s.size - 4), 0)).2.2) else
  if ¬ mState (rState (s.extract 0 (s.size - 4), 0)).1 = 0 then (zState, mState (rState (s.extract 0 (s.size - 4), 0)).1) else
  ((rState (s.extract 0 (s.size - 4), 0)).1, 0)
/-- bounds: what is read is no longer than what there was -/
theorem rNum_bd (q : RQ) (B : Nat) (h : q.1.size ≤ B) : (rNum q).2.1.size ≤ B := by
  unfold rNum
  split
  · have := mRead_bd q.1
    simp only
    omega
  · exact h
theorem rTxt_bd (q : RQ) (B : Nat) (h : q.1.size ≤ B) : (rTxt q).2.1.size ≤ B ∧ (rTxt q).1.size ≤ B := by
  unfold rTxt
  split
  · have := mTell_bd q.1
    simp only
    omega
  · exact ⟨h, by rw [emp_size]; omega⟩
theorem rMany_bd (m : Int) (q : RQ) (B : Nat) (h : q.1.size ≤ B) : (rMany m q).2.1.size ≤ B := by
  have := rNum_bd q B h
  unfold rMany
  split
  · split <;> exact this
  · exact this
theorem rMany_n (m : Int) (hm : 0 ≤ m) (q : RQ) : 0 ≤ (rMany m q).1 ∧ (rMany m q).1 ≤ m := by
  unfold rMany
  split
  · rename_i h
    split
    · exact ⟨Int.le_refl _, hm⟩
    · rename_i h2
      refine ⟨?_, by omega⟩
      unfold rNum
      split
      · exact (mRead_bd q.1).1
      · exact Int.le_refl _
  · exact ⟨Int.le_refl _, hm⟩
theorem rIter_bd {α : Type} {f : RQ → α × RQ} {B : Nat} (hf : ∀ q : RQ, q.1.size ≤ B → (f q).2.1.size ≤ B) : ∀ (n : Nat) (q : RQ), q.1.size ≤ B → (rIter f n q).2.1.size ≤ B
  | 0, q, h => h
  | n + 1, q, h => hf _ (rIter_bd hf n q h)
theorem rIter_len {α : Type} (f : RQ → α × RQ) : ∀ (n : Nat) (q : RQ), (rIter f n q).1.length = n
  | 0, _ => rfl
  | n + 1, q => by simp [rIter, rIter_len f n q]
theorem rLock_bd (q : RQ) (B : Nat) (h : q.1.size ≤ B) : (rLock q).2.1.size ≤ B := rIter_bd (fun q h => rNum_bd q B h) _ _ (rMany_bd _ _ B (rNum_bd _ B (rNum_bd _ B (rTxt_bd q B h).1)))
theorem rPair_bd (q : RQ) (B : Nat) (h : q.1.size ≤ B) : (rPair q).2.1.size ≤ B := rNum_bd _ B (rTxt_bd _ B (rTxt_bd q B h).1).1
theorem rKept_bd (q : RQ) (B : Nat) (h : q.1.size ≤ B) : (rKept q).2.1.size ≤ B := (rTxt_bd _ B (rNum_bd _ B (rNum_bd _ B (rNum_bd q B h)))).1
theorem rSess_bd (q : RQ) (B : Nat) (h : q.1.size ≤ B) : (rSess q).2.1.size ≤ B := rIter_bd (fun q h => rKept_bd q B h) _ _ (rMany_bd _ _ B (rNum_bd _ B (rNum_bd _ B (rNum_bd _ B (rNum_bd q B h)))))
end Go.Proofs.Ytakdjdfkdbofoab.Fw

namespace Go.Proofs.Ytakdjdfkdbofoab.Fw
open Go.RowKit
/-! ### the machine -/
def relOne (now : List DSession) (locks : List DLock) (x : DSession) : List DLock := if sIdx now x.client < 0 then (mGone locks x.client).1 else locks
def mRel (locks : List DLock) (was now : List DSession) : List DLock := was.foldl (relOne now) locks
def mDo (locks : List DLock) (pairs : List DPair) (who : Int) (o : DOp) : List DLock × List DPair × DReply :=
  if o.kind = 1 ∨ o.kind = 2 then ((mTake locks o.a who (decide (o.kind = 2))).1, pairs, (mTake locks o.a who (decide (o.kind = 2))).2.1) else
  if o.kind = 3 then ((mFree locks o.a who).1, pairs, (mFree locks o.a who).2.1) else
  if o.kind = 4 then (locks, pairs, ⟨0, (mWho locks o.a).1, emp⟩) else
  if o.kind = 6 then (locks, pairs, (mGot pairs o.a).1) else
  if ¬ (mWho locks o.a).1 = who ∨ ¬ (mWho locks o.a).2.1 = o.n then (locks, pairs, ⟨10, (mWho locks o.a).1, emp⟩) else
  (locks, (mPSet pairs o.a o.b).1, (mPSet pairs o.a o.b).2.1)
/-- sessions that said nothing for long are gone, and their locks -/
def aFresh (s : DState) : List DSession := (mFresh s.sessions s.index).1
def aLocks (s : DState) : List DLock := mRel s.locks s.sessions (aFresh s)
def aReady (s : DState) (c : DCommand) : List DSession × DReply × Bool × Int := mReady (aFresh s) s.index c
def aDo (s : DState) (c : DCommand) : List DLock × List DPair × DReply := mDo (aLocks s) s.pairs c.client c.op
def mStep (s : DState) (c : DCommand) : DState × DReply :=
  if c.kind = 1 then (⟨s.index + 1, aLocks s, s.pairs, (mJoin (aFresh s) s.index c.client).1⟩, (mJoin (aFresh s) s.index c.client).2.1) else
  if c.kind = 3 then (⟨s.index + 1, mRel (aLocks s) (aFresh s) (mLeave (aFresh s) s.index c.client).1, s.pairs, (mLeave (aFresh s) s.index c.client).1⟩, (mLeave (aFresh s) s.index c.client).2.1) else
  if (aReady s c).2.2.1 = true then (⟨s.index + 1, (aDo s c).1, (aDo s c).2.1, (mKeep (aReady s c).1 (s.index + 1) c.client c.seq (aDo s c).2.2).1⟩, (aDo s c).2.2) else
  (⟨s.index + 1, aLocks s, s.pairs, (aReady s c).1⟩, (aReady s c).2.1)
def mApply (s : DState) (t : ByteArray) : DState × DReply × Int :=
  if ¬ mState s = 0 then (zState, zRep, mState s) else if 1073741824 ≤ s.index then (zState, zRep, 2) else
  if ¬ (mDecode t).2 = 0 then (zState, zRep, (mDecode t).2) else ((mStep s (mDecode t).1).1, (mStep s (mDecode t).1).2, 0)
theorem mState_parts {x : DState} (h : mState x = 0) : mSess x.sessions x.index = 0 ∧ mLocks x.locks = 0 ∧ mPairs x.pairs = 0 := by
  have hs : mSess x.sessions x.index = 0 := by
    unfold mState at h
    split at h
    · assumption
    · exact h
  have hl : mLocks x.locks = 0 := by
    unfold mState at h
    rw [if_pos hs] at h
    split at h
    · assumption
    · exact h
  refine ⟨hs, hl, ?_⟩
  unfold mState at h
  rwa [if_pos hs, if_pos hl] at h
end Go.Proofs.Ytakdjdfkdbofoab.Fw

namespace Go.Proofs.Ytakdjdfkdbofoab.Fw
open Go.RowKit
/-! ### replicas -/
def zRepl : DReplica := ⟨zLog, emp, zState⟩
def mKeptS (r : DReplica) : DState × Int :=
  if r.log.base = 0 then (if r.snap = emp then (zState, 0) else (zState, 9)) else
  if (mUnsnap r.snap).2 = 0 ∧ (mUnsnap r.snap).1.index = r.log.base then ((mUnsnap r.snap).1, 0) else (zState, 9)
def mReplica (r : DReplica) : Int :=
  if ¬ mLog r.log = 0 then mLog r.log else if ¬ mState r.state = 0 then mState r.state else
  if r.state.index < r.log.base ∨ mLast r.log < r.state.index then 9 else (mKeptS r).2
def agreeTo (a b : List ByteArray) (j : Nat) : Bool := decide (j < a.length) && decide (a.getD j default = b.getD j default)
def mRHear (r : DReplica) (behind : Int) (more : List ByteArray) : DReplica × Int :=
  if ¬ mReplica r = 0 then (zRepl, mReplica r) else
  if ¬ (mPut r.log behind more).2 = 0 then (zRepl, (mPut r.log behind more).2) else
  if allTo (agreeTo (mPut r.log behind more).1.entries r.log.entries) (r.state.index - r.log.base).toNat = false then (zRepl, 9) else
  (⟨(mPut r.log behind more).1, r.snap, r.state⟩, 0)
def mRunGo (E : List ByteArray) : Nat → Nat → DState → List DMail → DState × List DMail × Int
  | 0, _, s, out => (s, out, 0)
  | n + 1, k, s, out =>
    if ¬ (mApply s (E.getD k default)).2.2 = 0 then (zState, [], (mApply s (E.getD k default)).2.2) else
    mRunGo E n (k + 1) (mApply s (E.getD k default)).1 (out ++ [⟨(mDecode (E.getD k default)).1.client, (mDecode (E.getD k default)).1.seq, (mApply s (E.getD k default)).2.1⟩])
def rRun (r : DReplica) (upto : Int) : DState × List DMail × Int :=
  mRunGo r.log.entries ((if upto < mLast r.log then upto else mLast r.log) - r.state.index).toNat (r.state.index - r.log.base).toNat r.state []
def mRApply (r : DReplica) (upto : Int) : DReplica × List DMail × Int :=
  if ¬ mReplica r = 0 then (zRepl, [], mReplica r) else if upto < 0 ∨ 1073741824 < upto then (zRepl, [], 2) else
  if ¬ (rRun r upto).2.2 = 0 then (zRepl, [], (rRun r upto).2.2) else
  (⟨r.log, r.snap, (rRun r upto).1⟩, (rRun r upto).2.1, 0)
def mRCompact (r : DReplica) : DReplica × Int :=
  if ¬ mReplica r = 0 then (zRepl, mReplica r) else if r.state.index = r.log.base then (zRepl, 12) else
  if ¬ (mCut r.log r.state.index).2 = 0 then (zRepl, (mCut r.log r.state.index).2) else
  (⟨(mCut r.log r.state.index).1, (mSnap r.state).1, r.state⟩, 0)
def mRInstall (r : DReplica) (s : ByteArray) : DReplica × Int :=
  if ¬ mReplica r = 0 then (zRepl, mReplica r) else if ¬ (mUnsnap s).2 = 0 then (zRepl, (mUnsnap s).2) else
  if (mUnsnap s).1.index ≤ r.state.index then (zRepl, 12) else if 1073741424 < (mUnsnap s).1.index then (zRepl, 8) else
  (⟨if (mUnsnap s).1.index ≤ mLast r.log then ⟨(mUnsnap s).1.index, r.log.entries.drop ((mUnsnap s).1.index - r.log.base).toNat⟩ else ⟨(mUnsnap s).1.index, []⟩, s, (mUnsnap s).1⟩, 0)
def mRRestart (r : DReplica) : DReplica × Int := if ¬ mReplica r = 0 then (zRepl, mReplica r) else (⟨r.log, r.snap, (mKeptS r).1⟩, 0)
theorem mReplica_parts {r : DReplica} (h : mReplica r = 0) : mLog r.log = 0 ∧ mState r.state = 0 ∧ r.log.base ≤ r.state.index ∧ r.state.index ≤ mLast r.log ∧ (mKeptS r).2 = 0 := by
  unfold mReplica at h
  split at h
  · rename_i h1; exact absurd h h1
  rename_i h1
  split at h
  · rename_i h2; exact absurd h h2
  rename_i h2
  split at h
  · cases h
  rename_i h3
  exact ⟨Classical.not_not.1 h1, Classical.not_not.1 h2, by omega, by omega, h⟩
end Go.Proofs.Ytakdjdfkdbofoab.Fw

namespace Go.Proofs.Ytakdjdfkdbofoab.Fw
open Go.RowKit
/-! ### sessions of our own, turned -/
end Go.Proofs.Ytakdjdfkdbofoab.Fw
namespace Go.Proofs.Ytakdjdfkdbofoab.Fw
open Go.RowKit
end Go.Proofs.Ytakdjdfkdbofoab.Fw
namespace Go.Proofs.Ytakdjdfkdbofoab.Fw
open Go.RowKit
/-! ### replies that are kept: the search, and one more -/
end Go.Proofs.Ytakdjdfkdbofoab.Fw
namespace Go.Proofs.Ytakdjdfkdbofoab.Fw
end Go.Proofs.Ytakdjdfkdbofoab.Fw

namespace Go.Proofs.Ytakdjdfkdbofoab.Fw
open Go.RowKit
/-! ### locks of our own, turned -/
end Go.Proofs.Ytakdjdfkdbofoab.Fw
namespace Go.Proofs.Ytakdjdfkdbofoab.Fw
end Go.Proofs.Ytakdjdfkdbofoab.Fw
namespace Go.Proofs.Ytakdjdfkdbofoab.Fw
open Go.RowKit
end Go.Proofs.Ytakdjdfkdbofoab.Fw

namespace Go.Proofs.Ytakdjdfkdbofoab.Fw
open Go.RowKit
/-! ### bytes as states: the ways out -/
def rIn (s : ByteArray) : RQ := (s.extract 0 ((s.size : Int) - 4).toNat, 0)
theorem cut4 {s : ByteArray} (h : ¬ (s.size : Int) < 4) : ((s.size : Int) - 4).toNat = s.size - 4 := by omega
theorem unsnap_big {s : ByteArray} (h : 5000 < (s.size : Int)) : mUnsnap s = (zState, 1) := by unfold mUnsnap; rw [if_pos (by omega)]
theorem unsnap_small {s : ByteArray} (h1 : ¬ 5000 < (s.size : Int)) (h : (s.size : Int) < 4) : mUnsnap s = (zState, 5) := by unfold mUnsnap; rw [if_neg (by omega), if_pos (by omega)]
theorem unsnap_rest {s : ByteArray} (h1 : ¬ 5000 < (s.size : Int)) (h2 : ¬ (s.size : Int) < 4) : mUnsnap s = if ¬ mSeal (s.extract 0 ((s.size : Int) - 4).toNat) = s.extract ((s.size : Int) - 4).toNat s.size then (zState, 15) else
  if (rState (rIn s)).2.2 = 0 ∧ ¬ (rState (rIn s)).2.1 = emp then (zState, 4) else
  if ¬ (rState (rIn s)).2.2 = 0 then (zState, (rState (rIn s)).2.2) else
  if ¬ mState (rState (rIn s)).1 = 0 then (zState, mState (rState (rIn s)).1) else ((rState (rIn s)).1, 0) := by
  unfold mUnsnap
  rw [if_neg (by omega), if_neg (by omega)]
  unfold rIn
  rw [cut4 h2]
theorem unsnap_seal {s : ByteArray} (h1 : ¬ 5000 < (s.size : Int)) (h2 : ¬ (s.size : Int) < 4) (h3 : ¬ mSeal (s.extract 0 ((s.size : Int) - 4).toNat) = s.extract ((s.size : Int) - 4).toNat s.size) : mUnsnap s = (zState, 15) := by
  rw [unsnap_rest h1 h2, if_pos h3]
theorem rState_of {q : RQ} {Q0 : List DLock × RQ} {Q2 : List DPair × RQ} {Q3 : List DSession × RQ} (h0 : rIter rLock (rMany 5 (rNum q).2).1.toNat (rMany 5 (rNum q).2).2 = Q0) (h2 : rIter rPair (rMany 5 Q0.2).1.toNat (rMany 5 Q0.2).2 = Q2) (h3 : rIter rSess (rMany 4 Q2.2).1.toNat (rMany 4 Q2.2).2 = Q3) : rState q = (⟨(rNum q).1, Q0.1, Q2.1, Q3.1⟩, Q3.2) := by
  subst h3; subst h2; subst h0; rfl
theorem unsnap_more {s : ByteArray} {q : RQ} {R : DState × RQ} (hq : q = rIn s) (hR : rState q = R) (h1 : ¬ 5000 < (s.size : Int)) (h2 : ¬ (s.size : Int) < 4) (h3 : mSeal (s.extract 0 ((s.size : Int) - 4).toNat) = s.extract ((s.size : Int) - 4).toNat s.size) (h4 : R.2.2 = 0) (h5 : ¬ R.2.1 = emp) : mUnsnap s = (zState, 4) := by
  subst hR; subst hq
  rw [unsnap_rest h1 h2, if_neg (fun h => h h3), if_pos ⟨h4, h5⟩]
theorem unsnap_bad {s : ByteArray} {q : RQ} {R : DState × RQ} (hq : q = rIn s) (hR : rState q = R) (h1 : ¬ 5000 < (s.size : Int)) (h2 : ¬ (s.size : Int) < 4) (h3 : mSeal (s.extract 0 ((s.size : Int) - 4).toNat) = s.extract ((s.size : Int) - 4).toNat s.size) (h4 : ¬ R.2.2 = 0) : mUnsnap s = (zState, R.2.2) := by
  subst hR; subst hq
  rw [unsnap_rest h1 h2, if_neg (fun h => h h3), if_neg (fun h => h4 h.1), if_pos h4]
theorem unsnap_fault {s : ByteArray} {q : RQ} {R : DState × RQ} {y : DState} (hq : q = rIn s) (hR : rState q = R) (h1 : ¬ 5000 < (s.size : Int)) (h2 : ¬ (s.size : Int) < 4) (h3 : mSeal (s.extract 0 ((s.size : Int) - 4).toNat) = s.extract ((s.size : Int) - 4).toNat s.size) (h4 : R.2.2 = 0) (h5 : R.2.1 = emp) (hy : y = R.1) (h6 : ¬ mState y = 0) : mUnsnap s = (zState, mState y) := by
  subst hy
  subst hR; subst hq
  rw [unsnap_rest h1 h2, if_neg (fun h => h h3), if_neg (fun h => h.2 h5), if_neg (fun h => h h4), if_pos h6]
theorem unsnap_ok {s : ByteArray} {q : RQ} {R : DState × RQ} {y : DState} (hq : q = rIn s) (hR : rState q = R) (h1 : ¬ 5000 < (s.size : Int)) (h2 : ¬ (s.size : Int) < 4) (h3 : mSeal (s.extract 0 ((s.size : Int) - 4).toNat) = s.extract ((s.size : Int) - 4).toNat s.size) (h4 : R.2.2 = 0) (h5 : R.2.1 = emp) (hy : y = R.1) (h6 : mState y = 0) : mUnsnap s = (y, 0) := by
  subst hy
  subst hR; subst hq
  rw [unsnap_rest h1 h2, if_neg (fun h => h h3), if_neg (fun h => h.2 h5), if_neg (fun h => h h4), if_neg (fun h => h h6)]
end Go.Proofs.Ytakdjdfkdbofoab.Fw

namespace Go.Proofs.Ytakdjdfkdbofoab.Fw
open Go.RowKit
/-! ### replicas: what their check says -/
theorem keptS_none {r : DReplica} (h : r.log.base = 0) (h2 : r.snap = emp) : mKeptS r = (zState, 0) := by unfold mKeptS; rw [if_pos h, if_pos h2]
theorem keptS_some {r : DReplica} (h : r.log.base = 0) (h2 : ¬ r.snap = emp) : mKeptS r = (zState, 9) := by unfold mKeptS; rw [if_pos h, if_neg h2]
theorem keptS_bad {r : DReplica} (h : ¬ r.log.base = 0) (h2 : ¬ (mUnsnap r.snap).2 = 0) : mKeptS r = (zState, 9) := by unfold mKeptS; rw [if_neg h, if_neg (fun q => h2 q.1)]
theorem keptS_off {r : DReplica} {i : Int} (h : ¬ r.log.base = 0) (hi : i = (mUnsnap r.snap).1.index) (h2 : ¬ i = r.log.base) : mKeptS r = (zState, 9) := by subst hi; unfold mKeptS; rw [if_neg h, if_neg (fun q => h2 q.2)]
theorem keptS_ok {r : DReplica} {i : Int} (h : ¬ r.log.base = 0) (h1 : (mUnsnap r.snap).2 = 0) (hi : i = (mUnsnap r.snap).1.index) (h2 : i = r.log.base) : mKeptS r = ((mUnsnap r.snap).1, 0) := by subst hi; unfold mKeptS; rw [if_neg h, if_pos ⟨h1, h2⟩]
theorem repl_log {r : DReplica} (h : ¬ mLog r.log = 0) : mReplica r = mLog r.log := by unfold mReplica; rw [if_pos h]
theorem repl_state {r : DReplica} (h1 : mLog r.log = 0) (h : ¬ mState r.state = 0) : mReplica r = mState r.state := by unfold mReplica; rw [if_neg (fun q => q h1), if_pos h]
theorem repl_out {r : DReplica} (h1 : mLog r.log = 0) (h2 : mState r.state = 0) (h : r.state.index < r.log.base ∨ mLast r.log < r.state.index) : mReplica r = 9 := by unfold mReplica; rw [if_neg (fun q => q h1), if_neg (fun q => q h2), if_pos h]
theorem repl_kept {r : DReplica} (h1 : mLog r.log = 0) (h2 : mState r.state = 0) (h : ¬ (r.state.index < r.log.base ∨ mLast r.log < r.state.index)) : mReplica r = (mKeptS r).2 := by unfold mReplica; rw [if_neg (fun q => q h1), if_neg (fun q => q h2), if_neg h]
theorem small_pairs {s : Sl DPair} (h : mPairs s.xs = 0) : Rds.small s := by
  have h1 := (mPairs_bd h).1
  exact ⟨by show s.xs.length * 40 ≤ _; omega, fun _ _ => trivial⟩
theorem small_state {s : CState} (h : mState s.abs = 0) : Rds.small s := by
  obtain ⟨h1, h2, h3⟩ := mState_parts h
  exact ⟨small_locks h2, small_pairs h3, small_sess h1⟩
theorem small_log {s : CLog} (h : mLog s.abs = 0) : Rds.small s := by
  have h1 : s.entries.xs.length ≤ 400 := (mLog_bd h).2.2.1
  exact ⟨by show s.entries.xs.length * 16 ≤ _; omega, fun _ _ => trivial⟩
theorem small_repl {r : CReplica} (h : mReplica r.abs = 0) : Rds.small r := by
  obtain ⟨h1, h2, _⟩ := mReplica_parts h
  exact ⟨small_log (s := r.log) h1, small_state (s := r.state) h2⟩
end Go.Proofs.Ytakdjdfkdbofoab.Fw

namespace Go.Proofs.Ytakdjdfkdbofoab.Fw
open Go.RowKit
/-! ### short words for what walks say often -/
abbrev DOp.cs (x : DOp) : List SV := [vI x.kind, vS x.a, vS x.b, vI x.n]
abbrev DReply.cs (x : DReply) : List SV := [vI x.code, vI x.n, vS x.text]
abbrev CLock.cs (x : CLock) : List SV := [vS x.name, vI x.holder, vI x.fence, .v (.slice x.line.A x.line.n x.line.c)]
abbrev DPair.cs (x : DPair) : List SV := [vS x.name, vS x.value, vI x.version]
abbrev DCommand.cs (x : DCommand) : List SV := [vI x.kind, vI x.client, vI x.session, vI x.seq, vI x.acked, vI x.op.kind, vS x.op.a, vS x.op.b, vI x.op.n]
abbrev DKept.cs (x : DKept) : List SV := [vI x.seq, vI x.reply.code, vI x.reply.n, vS x.reply.text]
abbrev CSession.cs (x : CSession) : List SV := [vI x.client, vI x.id, vI x.acked, vI x.last, .v (.slice x.replies.A x.replies.n x.replies.c)]
abbrev CState.cs (x : CState) : List SV := [vI x.index, .v (.slice x.locks.A x.locks.n x.locks.c), .v (.slice x.pairs.A x.pairs.n x.pairs.c), .v (.slice x.sessions.A x.sessions.n x.sessions.c)]
abbrev CLog.cs (x : CLog) : List SV := [vI x.base, .v (.slice x.entries.A x.entries.n x.entries.c)]
abbrev CReplica.cs (x : CReplica) : List SV := [vI x.log.base, .v (.slice x.log.entries.A x.log.entries.n x.log.entries.c), vS x.snap, vI x.state.index, .v (.slice x.state.locks.A x.state.locks.n x.state.locks.c), .v (.slice x.state.pairs.A x.state.pairs.n x.state.pairs.c), .v (.slice x.state.sessions.A x.state.sessions.n x.state.sessions.c)]
abbrev DWait.cs (x : DWait) : List SV := [vI x.seq, vI x.op.kind, vS x.op.a, vS x.op.b, vI x.op.n]
abbrev CCustomer.cs (x : CCustomer) : List SV := [vI x.id, vI x.session, vI x.next, .v (.slice x.waits.A x.waits.n x.waits.c)]
abbrev DMail.cs (x : DMail) : List SV := [vI x.client, vI x.seq, vI x.reply.code, vI x.reply.n, vS x.reply.text]
abbrev DAct.cs (x : DAct) : List SV := [vI x.kind, vI x.c, vI x.r, vI x.k, vI x.op.kind, vS x.op.a, vS x.op.b, vI x.op.n]
theorem iT {n l h : Int} : (inB n l h = true) = (l ≤ n ∧ n ≤ h) := by simp [inB]
theorem iF {n l h : Int} : (inB n l h = false) = (¬ l ≤ n ∨ ¬ n ≤ h) := by rw [← Decidable.not_and_iff_not_or_not]; simp [inB]
abbrev vi (z : Int) : Value := .int .i64 z
abbrev vb (b : Bool) : Value := .bool b
abbrev vs (s : ByteArray) : Value := .string s
abbrev ve : Value := .string emp
abbrev vn : Value := .slice none 0 0
abbrev vC : Value := .agg #[.int .i64 0, .int .i64 0, .int .i64 0, .int .i64 0, .int .i64 0, .int .i64 0, .string emp, .string emp, .int .i64 0]
end Go.Proofs.Ytakdjdfkdbofoab.Fw

namespace Go.Proofs.Ytakdjdfkdbofoab.Fw
open Go.RowKit
/-! ### replicas that take in and throw away -/
theorem foldl_size {α : Type} {f : ByteArray → α → ByteArray} {K : Nat} : ∀ (l : List α) (b : ByteArray), (∀ d, d ∈ l → ∀ b, (f b d).size ≤ b.size + K) → (l.foldl f b).size ≤ b.size + l.length * K
  | [], b, _ => by simp
  | d :: l, b, h => by
    have h1 := foldl_size l (f b d) (fun d hd => h d (List.mem_cons_of_mem _ hd))
    have h2 := h d (List.mem_cons_self ..) b
    simp only [List.foldl_cons, List.length_cons, Nat.succ_mul] at h1 ⊢
    omega
theorem mem_getD {α : Type} [Inhabited α] {P : α → Prop} {l : List α} (h : ∀ j, j < l.length → P (l.getD j default)) : ∀ x, x ∈ l → P x := fun x hx => by
  obtain ⟨j, hj, rfl⟩ := List.mem_iff_getElem.1 hx
  have h1 := h j hj
  rwa [List.getD_eq_getElem?_getD, List.getElem?_eq_getElem hj] at h1
theorem lockS_size (d : DLock) (h : d.line.length ≤ 3) (b : ByteArray) : (lockS b d).size ≤ b.size + 5042 := by
  have h1 := mTextB_size d.name
  have h2 := mNums_size [d.holder, d.fence, (d.line.length : Int)]
  have h3 := mNums_size d.line
  simp only [lockS, ByteArray.size_append, List.length_cons, List.length_nil] at *
  omega
theorem pairS_size (d : DPair) (b : ByteArray) : (pairS b d).size ≤ b.size + 10018 := by
  have h1 := mTextB_size d.name
  have h2 := mTextB_size d.value
  have h3 := mNums_size [d.version]
  simp only [pairS, ByteArray.size_append, List.length_cons, List.length_nil] at *
  omega
theorem keptS_size (d : DKept) (b : ByteArray) : (keptS b d).size ≤ b.size + 5024 := by
  have h1 := mTextB_size d.reply.text
  have h2 := mNums_size [d.seq, d.reply.code, d.reply.n]
  simp only [keptS, ByteArray.size_append, List.length_cons, List.length_nil] at *
  omega
theorem sessS_size (d : DSession) (h : d.replies.length ≤ 4) (b : ByteArray) : (sessS b d).size ≤ b.size + 20126 := by
  have h2 := mNums_size [d.client, d.id, d.acked, d.last, (d.replies.length : Int)]
  have h1 := foldl_size (f := keptS) (K := 5024) d.replies (b ++ mNums [d.client, d.id, d.acked, d.last, (d.replies.length : Int)]) (fun d _ b => keptS_size d b)
  have h3 : d.replies.length * 5024 ≤ 4 * 5024 := Nat.mul_le_mul_right _ h
  simp only [sessS, ByteArray.size_append, List.length_cons, List.length_nil] at *
  omega
theorem mSnap_size (s : DState) : (mSnap s).1.size ≤ 9223372036854775807 := by
  unfold mSnap
  split
  · rename_i h
    obtain ⟨h1, h2, h3, h4, h5⟩ := mState_bd h
    have k1 := mNums_size [s.index, (s.locks.length : Int)]
    have k2 := mNums_size [(s.pairs.length : Int)]
    have k3 := mNums_size [(s.sessions.length : Int)]
    have f1 := foldl_size (f := lockS) (K := 5042) s.locks (mNums [s.index, (s.locks.length : Int)]) (fun d hd b => lockS_size d (mem_getD (P := fun d : DLock => d.line.length ≤ 3) h4 d hd) b)
    have f2 := foldl_size (f := pairS) (K := 10018) s.pairs (s.locks.foldl lockS (mNums [s.index, (s.locks.length : Int)]) ++ mNums [(s.pairs.length : Int)]) (fun d _ b => pairS_size d b)
    have f3 := foldl_size (f := sessS) (K := 20126) s.sessions (s.pairs.foldl pairS (s.locks.foldl lockS (mNums [s.index, (s.locks.length : Int)]) ++ mNums [(s.pairs.length : Int)]) ++ mNums [(s.sessions.length : Int)]) (fun d hd b => sessS_size d (mem_getD (P := fun d : DSession => d.replies.length ≤ 4) h5 d hd) b)
    have g1 : s.locks.length * 5042 ≤ 5 * 5042 := Nat.mul_le_mul_right _ h1
    have g2 : s.pairs.length * 10018 ≤ 5 * 10018 := Nat.mul_le_mul_right _ h2
    have g3 : s.sessions.length * 20126 ≤ 4 * 20126 := Nat.mul_le_mul_right _ h3
    have hz : (mSeal (mSnapB s)).size = 4 := bstr_size _
    show (mSnapB s ++ mSeal (mSnapB s)).size ≤ _
    rw [ByteArray.size_append, hz]
    show (s.sessions.foldl sessS _).size + 4 ≤ _
    simp only [ByteArray.size_append, List.length_cons, List.length_nil] at *
    omega
  · exact Nat.zero_le _
theorem mSnap_ok {s : DState} (h : mState s = 0) : (mSnap s).2 = 0 := by unfold mSnap; rw [if_pos h]
end Go.Proofs.Ytakdjdfkdbofoab.Fw

namespace Go.Proofs.Ytakdjdfkdbofoab.Fw
open Go.RowKit
/-! ### replicas that hear -/
end Go.Proofs.Ytakdjdfkdbofoab.Fw

namespace Go.Proofs.Ytakdjdfkdbofoab.Fw
open Go.RowKit
/-! ### locks of one who is gone -/
structure GoneI (who : Int) (S : List CLock) (k : Nat) (L : List CLock) : Prop where
  le : k ≤ S.length
  len : L.length = S.length
  rest : ∀ j, k ≤ j → L.getD j default = S.getD j default
  done : (L.take k).map CLock.abs = (S.take k).map fun x => goneF who x.abs
  names : ∀ x, x ∈ L → x.name.size ≤ 9223372036854775807
theorem GoneI.start {who : Int} {S : List CLock} (h : ∀ x, x ∈ S → x.name.size ≤ 9223372036854775807) : GoneI who S 0 S := ⟨Nat.zero_le _, rfl, fun _ _ => rfl, rfl, h⟩
theorem take_set_snoc {α : Type} [Inhabited α] {L : List α} {k : Nat} {x : α} (hk : k < L.length) : (L.set k x).take (k + 1) = L.take k ++ [x] := by
  rw [List.take_add_one, List.getElem?_set_self hk, List.take_set_of_le (Nat.le_refl _)]
  rfl
theorem GoneI.step {who : Int} {S : List CLock} {k : Nat} {L L' : List CLock} {x : CLock} (h : GoneI who S k L) (hk : k < S.length) (hL : L' = L.set k x) (ha : x.abs = goneF who (L.getD k default).abs) (hn : x.name = (L.getD k default).name) : GoneI who S (k + 1) L' := by
  have hkl : k < L.length := by rw [h.len]; exact hk
  subst hL
  refine ⟨hk, by rw [List.length_set, h.len], fun j hj => ?_, ?_, fun y hy => ?_⟩
  · rw [getD_set_ne (by omega), h.rest j (by omega)]
  · have e : S.take (k + 1) = S.take k ++ [S.getD k default] := by rw [List.take_add_one, getD_some hk]; rfl
    rw [take_set_snoc hkl, e, List.map_append, List.map_append, h.done, ← h.rest k (Nat.le_refl _)]
    exact congrArg (fun z => _ ++ [z]) ha
  · rcases mem_set hy with rfl | hy
    · rw [hn]; exact h.names _ (mem_of_getD hkl)
    · exact h.names _ hy
end Go.Proofs.Ytakdjdfkdbofoab.Fw

namespace Go.Proofs.Ytakdjdfkdbofoab.Fw
open Go.RowKit
/-! ### sessions that are ready -/
end Go.Proofs.Ytakdjdfkdbofoab.Fw

namespace Go.Proofs.Ytakdjdfkdbofoab.Fw
open Go.RowKit
/-! ### a slice of a block that may have been laid anew -/
/-! ### stores into blocks of others in regions that draw -/
end Go.Proofs.Ytakdjdfkdbofoab.Fw

namespace Go.Proofs.Ytakdjdfkdbofoab.Fw
open Go.RowKit
/-! ### one command more -/
end Go.Proofs.Ytakdjdfkdbofoab.Fw

namespace Go.Proofs.Ytakdjdfkdbofoab.Fw
open Go.RowKit
/-! ### what is replied is short -/
theorem lTake_text (d : DLock) (who : Int) (b : Bool) : (lTake d who b).2.text = emp := by
  unfold lTake
  repeat' split
  all_goals rfl
theorem lFree_text (d : DLock) (who : Int) : (lFree d who).2.text = emp := by
  unfold lFree
  repeat' split
  all_goals rfl
theorem mTake_text (l : List DLock) (t : ByteArray) (who : Int) (b : Bool) : (mTake l t who b).2.1.text = emp := by
  unfold mTake
  repeat' split
  all_goals first | rfl | exact lTake_text _ _ _
theorem mFree_text (l : List DLock) (t : ByteArray) (who : Int) : (mFree l t who).2.1.text = emp := by
  unfold mFree
  repeat' split
  all_goals first | rfl | exact lFree_text _ _
theorem mPSet_text (l : List DPair) (t v : ByteArray) : (mPSet l t v).2.1.text = emp := by
  unfold mPSet
  repeat' split
  all_goals rfl
theorem mGot_text {l : List DPair} (h : ∀ p, p ∈ l → p.value.size ≤ 9223372036854775807) (t : ByteArray) : (mGot l t).1.text.size ≤ 9223372036854775807 := by
  unfold mGot
  split
  · split
    · rename_i h2
      by_cases hj : (mIdx (fun x : DPair => decide (x.name = t)) l).toNat < l.length
      · exact h _ (mem_of_getD hj)
      · rw [List.getD_eq_getElem?_getD, List.getElem?_eq_none (by omega)]
        exact Nat.zero_le _
    · exact Nat.zero_le _
  · exact Nat.zero_le _
theorem mDo_text {L : List DLock} {P : List DPair} (h : ∀ p, p ∈ P → p.value.size ≤ 9223372036854775807) (who : Int) (o : DOp) : (mDo L P who o).2.2.text.size ≤ 9223372036854775807 := by
  have e0 : emp.size = 0 := rfl
  unfold mDo
  split
  · show (mTake _ _ _ _).2.1.text.size ≤ _; rw [mTake_text, e0]; omega
  split
  · show (mFree _ _ _).2.1.text.size ≤ _; rw [mFree_text, e0]; omega
  split
  · exact Nat.zero_le _
  split
  · exact mGot_text h _
  split
  · exact Nat.zero_le _
  · show (mPSet _ _ _).2.1.text.size ≤ _; rw [mPSet_text, e0]; omega
end Go.Proofs.Ytakdjdfkdbofoab.Fw

namespace Go.Proofs.Ytakdjdfkdbofoab.Fw
open Go.RowKit
/-! ### more short words for what walks say often -/
abbrev ad (b : Nat) : Addr := ⟨b, 0, none⟩
end Go.Proofs.Ytakdjdfkdbofoab.Fw

