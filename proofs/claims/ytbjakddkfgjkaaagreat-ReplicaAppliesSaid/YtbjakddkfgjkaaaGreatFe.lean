/-
  A machine for walks: it runs code by itself, words say what is not its own; a word checks in the kernel.
  Conditions: none beyond those that each theorem states.
-/
import Derived.Laws.OwnMore
import Derived.Test.YtbjakddkfgjkaaaGreatMc
set_option linter.unusedVariables false
set_option linter.unusedSimpArgs false
namespace Go.Proofs.YtbjakddkfgjkaaaGreat.Fw
open Go.RowKit

/-! ### a machine for code: it runs on by itself till something is wanted of us -/
inductive Fk where
  | th (c : Code)
  | bl (i : Nat)
  | lp (I : Act → World → Prop)
def QK (P : Program) (Q : Exit → Act → World → Prop) : List Fk → Exit → Act → World → Prop
  | [] => Q
  | .th c :: K => Exit.then (c.wp P (QK P Q K)) (QK P Q K)
  | .bl i :: K => Exit.inBlock i (QK P Q K)
  | .lp I :: K => Exit.then I (QK P Q K)
inductive Foc where
  | code (c : Code)
  | ops (all : Array Oper) (l : List Oper)
  | hw (all : Array Oper) (n : Nat) (t : Tr)
  | out (e : Exit)
structure Mch where
  foc : Foc
  K : List Fk
  s : SS
  k0 : Nat
  ms : List Nat
  kb : List (Nat × Nat)
/-- the blocks that every world meets in a region that draws -/
def loc0 (loc : List Blk) (k0 : Nat) (mk : List Nat) : List Blk := maskL (loc.take k0) mk
def JM (C : Cx) (Q : Exit → Act → World → Prop) (R0 R : List Res) (m : Mch) : Prop :=
  match m.foc with
  | .code c => JC C c (QK C.P Q m.K) R m.s
  | .ops all l => JL C all (QK C.P Q m.K) R m.s l
  | .hw all n t => JH C all (QK C.P Q m.K) R0 (loc0 m.s.loc m.k0 m.ms) n t R m.s
  | .out e => JQ C (QK C.P Q m.K) e R m.s

def hintFor (hs : List (Nat × Hint)) (o : Oper) : Hint :=
  match o.dst with
  | some t => findH hs t
  | none => .no
/-- what is known of tests: 1: true; 2: false; 3: nothing was laid there; 0: not known -/
def kbGet : List (Nat × Nat) → Nat → Nat
  | [], _ => 0
  | (t, x) :: r, u => bif Nat.beq t u then x else kbGet r u
def kbPut (kb : List (Nat × Nat)) (d : Option Nat) (x : Nat) : List (Nat × Nat) :=
  match d with
  | none => kb
  | some t => bif Nat.beq x 0 && Nat.beq (kbGet kb t) 0 then kb else (t, x) :: kb
def kbOp (kb : List (Nat × Nat)) : Operand → Nat
  | .tmp t => kbGet kb t
  | .const (.bool b) => bif b then 1 else 2
  | _ => 0
def kbOf (kb : List (Nat × Nat)) (o : Oper) : Nat :=
  match o.op with
  | .move x => kbOp kb x
  | .assign x => kbOp kb x
  | .pick c a b => bif Nat.beq (kbOp kb c) 1 then kbOp kb a else bif Nat.beq (kbOp kb c) 2 then kbOp kb b else 0
  | .unOp .not _ x => bif Nat.beq (kbOp kb x) 1 then 2 else bif Nat.beq (kbOp kb x) 2 then 1 else 0
  | _ => 0
/-- is the guard known? 0: no; 1: it is carried out; 2: it is not -/
def kbGuard (kb : List (Nat × Nat)) (all : Array Oper) (o : Oper) : Nat :=
  match o.guard with
  | none => 1
  | some (j, want) =>
    match (all[j]?).bind (·.dst) with
    | some d => match kbGet kb d with
      | 0 => 0
      | 1 => bif want then 1 else 2
      | 2 => bif want then 2 else 1
      | _ => 2
    | none => 0
/-- is it known which way it goes? -/
def ready (kb : List (Nat × Nat)) (all : Array Oper) (o : Oper) : Bool :=
  match kbGuard kb all o with
  | 0 => false
  | 1 => match o.op with
    | .pick c _ _ => !Nat.beq (kbOp kb c) 0
    | _ => true
  | _ => true
def kbStep (kb : List (Nat × Nat)) (all : Array Oper) (o : Oper) : List (Nat × Nat) := kbPut kb o.dst (bif Nat.beq (kbGuard kb all o) 1 then kbOf kb o else 3)
/-- what the machine does not do by itself -/
def waits (o : Oper) : Bool :=
  match o.op with
  | .call ⟨.builtin .min, _, _⟩ => true
  | .call ⟨.builtin .max, _, _⟩ => true
  | .buildSlice _ _ _ => true
  | _ => false
abbrev StepM := Option (Mch × List Prop × List (Addr × List Value))
def stO (P : Program) (n : Nat) (hs : List (Nat × Hint)) : Mch → StepM
  | ⟨.out e, K, s, k0, mk, kb⟩ =>
    match e, K with
    | .normal, .th c :: K => some (⟨.code c, K, s, k0, mk, kb⟩, [], [])
    | .normal, .bl _ :: K => some (⟨.out .normal, K, s, k0, mk, kb⟩, [], [])
    | .exit i, .th _ :: K => some (⟨.out (.exit i), K, s, k0, mk, kb⟩, [], [])
    | .exit i, .lp _ :: K => some (⟨.out (.exit i), K, s, k0, mk, kb⟩, [], [])
    | .exit i, .bl j :: K => some (⟨.out (bif Nat.beq i j then .normal else .exit i), K, s, k0, mk, kb⟩, [], [])
    | .ret, _ :: K => some (⟨.out .ret, K, s, k0, mk, kb⟩, [], [])
    | _, _ => none
  | ⟨.code c, K, s, k0, mk, kb⟩ =>
    match c with
    | .skip => some (⟨.out .normal, K, s, k0, mk, kb⟩, [], [])
    | .seq x y => some (⟨.code x, .th y :: K, s, k0, mk, kb⟩, [], [])
    | .block i c => some (⟨.code c, .bl i :: K, s, k0, mk, kb⟩, [], [])
    | .exit i => some (⟨.out (.exit i), K, s, k0, mk, kb⟩, [], [])
    | .ret => some (⟨.out .ret, K, s, k0, mk, kb⟩, [], [])
    | .region _ ops false => some (⟨.ops ops ops.toList, K, s, k0, mk, kb⟩, [], [])
    | .cond c x y =>
      bif Nat.beq (kbOp kb c) 0 then none else
      match ev s c with
      | some (.v (.bool true)) => some (⟨.code x, K, s, k0, mk, kb⟩, [], [])
      | some (.v (.bool false)) => some (⟨.code y, K, s, k0, mk, kb⟩, [], [])
      | _ => none
    | _ => none
  | ⟨.ops all l, K, s, k0, mk, kb⟩ =>
    match l with
    | [] => some (⟨.out .normal, K, s, k0, mk, kb⟩, [], [])
    | o :: r =>
      bif (waits o && !Nat.beq (kbGuard kb all o) 2) || !ready kb all o then none else
      match stepO P n all s (hintFor hs o) o with
      | some (s', obs, wobs) => some (⟨.ops all r, K, s', k0, mk, kbStep kb all o⟩, obs, wobs)
      | none => none
  | ⟨.hw _ _ _, _, _, _, _, _⟩ => none

/-- what is ours and may be written in a region that draws -/
def oursB (s : SS) (o : Oper) (k0 : Nat) (mk : List Nat) : Bool :=
  match o.op with
  | .alloc _ => true
  | .box _ _ => true
  | .buildSlice _ _ _ => true
  | .store _ A _ =>
    match ev s A with
    | some (.p i _) => mk.any (Nat.beq i) || Nat.ble k0 i
    | _ => false
  | _ => false
def oneLoc (P : Program) (n : Nat) (all : Array Oper) (q : Nat) (r : Tr) (K : List Fk) (s : SS) (k0 : Nat) (mk : List Nat) (kb : List (Nat × Nat)) (o : Oper) : StepM :=
  bif oursB s o k0 mk && (okLoc (loc0 s.loc k0 mk) && Nat.ble k0 s.loc.length) then
    match stepO P n all s .no o with
    | some (s', [], []) => some (⟨.hw all q r, K, s', k0, mk, kbStep kb all o⟩, [], [])
    | _ => none
  else none
def stH (P : Program) (n : Nat) (hs : List (Nat × Hint)) : Mch → StepM
  | ⟨.hw all q t, K, s, k0, mk, kb⟩ =>
    match t with
    | .nil => some (⟨.ops all (all.toList.drop q), K, s, 0, [], kb⟩, [], [])
    | .q i r =>
      match all[i]? with
      | none => none
      | some o =>
        bif okLoc (loc0 s.loc k0 mk) && ready kb all o then
          match runQ P n all [(i, hintFor hs o)] (loc0 s.loc k0 mk) [(i, false)] s.env with
          | some (e, obs, wobs) => some (⟨.hw all q r, K, ⟨e, s.loc⟩, k0, mk, kbStep kb all o⟩, obs, wobs)
          | none => none
        else none
    | .p i r =>
      match all[i]? with
      | none => none
      | some o =>
        bif okLoc (loc0 s.loc k0 mk) && ready kb all o then
          match runQ P n all [(i, hintFor hs o)] (loc0 s.loc k0 mk) [(i, true)] s.env with
          | some (e, obs, wobs) => some (⟨.hw all q r, K, ⟨e, s.loc⟩, k0, mk, kbStep kb all o⟩, obs, wobs)
          | none => none
        else none
    | .b i r .z =>
      match all[i]? with
      | none => none
      | some o =>
        bif dstOK n o.dst && ready kb all o then
          match gd all s o with
          | some false => some (⟨.hw all q r, K, ⟨putE s.env o.dst (.v undef), s.loc⟩, k0, mk, kbStep kb all o⟩, [], [])
          | some true => bif waits o then none else oneLoc P n all q r K s k0 mk kb o
          | none => none
        else none
    | _ => none
  | _ => none

theorem stO_sound {C : Cx} {Q : Exit → Act → World → Prop} {R0 R : List Res} {hs : List (Nat × Hint)} {m m' : Mch} {obs : List Prop} {wobs : List (Addr × List Value)} (h : stO C.P C.n hs m = some (m', obs, wobs))
    (ho : AllP obs) (hw : ∀ w, Kp C.m C.w0 w → (∀ r, r ∈ R → r.p w) → AllC w wobs) (hJ : JM C Q R0 R m') : JM C Q R0 R m := by
  obtain ⟨foc, K, s, k0, mk, kb⟩ := m
  cases foc with
  | hw all n t => simp [stO] at h
  | out e =>
    simp only [stO] at h
    split at h <;> simp only [Option.some.injEq, Prod.mk.injEq, reduceCtorEq] at h <;> obtain ⟨rfl, -, -⟩ := h
    · exact Qn hJ
    · exact q_block_normal hJ
    · exact Qe hJ
    · exact Qe hJ
    · rename_i i j K
      cases hb : Nat.beq i j with
      | true =>
        have e1 : i = j := Nat.eq_of_beq_eq_true hb
        subst e1
        rw [hb] at hJ
        exact Qh hJ
      | false =>
        rw [hb] at hJ
        exact q_block_miss hb hJ
    · rename_i fr K
      cases fr with
      | th c => exact Qr hJ
      | bl i => exact Qb hJ
      | lp I => exact Qr hJ
  | code c =>
    simp only [stO] at h
    split at h
    · simp only [Option.some.injEq, Prod.mk.injEq] at h; obtain ⟨rfl, -, -⟩ := h; exact Ck hJ
    · simp only [Option.some.injEq, Prod.mk.injEq] at h; obtain ⟨rfl, -, -⟩ := h; exact Cs hJ
    · simp only [Option.some.injEq, Prod.mk.injEq] at h; obtain ⟨rfl, -, -⟩ := h; exact Cb hJ
    · simp only [Option.some.injEq, Prod.mk.injEq] at h; obtain ⟨rfl, -, -⟩ := h; exact c_exit hJ
    · simp only [Option.some.injEq, Prod.mk.injEq] at h; obtain ⟨rfl, -, -⟩ := h; exact Cr hJ
    · rename_i id ops
      simp only [Option.some.injEq, Prod.mk.injEq] at h; obtain ⟨rfl, -, -⟩ := h
      have hJ' : JL C ops (QK C.P Q K) R s ops.toList := hJ
      have := Cg (id := id) (l := ops.toList) (Q := QK C.P Q K) (by simpa using hJ')
      show JC C (Code.region id ops false) (QK C.P Q K) R s
      simpa using this
    · rename_i c' x' y'
      cases hkc : Nat.beq (kbOp kb c') 0 with
      | true => rw [hkc] at h; cases h
      | false =>
      rw [hkc] at h
      simp only [cond_false] at h
      split at h
      · rename_i hc
        simp only [Option.some.injEq, Prod.mk.injEq] at h; obtain ⟨rfl, -, -⟩ := h; exact Ci true hc hJ
      · rename_i hc
        simp only [Option.some.injEq, Prod.mk.injEq] at h; obtain ⟨rfl, -, -⟩ := h; exact Ci false hc hJ
      · cases h
    · cases h
  | ops all l =>
    simp only [stO] at h
    split at h
    · simp only [Option.some.injEq, Prod.mk.injEq] at h; obtain ⟨rfl, -, -⟩ := h; exact Ln hJ
    · rename_i o r
      cases hwt : (waits o && !Nat.beq (kbGuard kb all o) 2) || !ready kb all o with
      | true => rw [hwt] at h; cases h
      | false =>
        rw [hwt] at h
        simp only [cond_false] at h
        split at h
        · rename_i s' obs' wobs' hst
          simp only [Option.some.injEq, Prod.mk.injEq] at h
          obtain ⟨rfl, rfl, rfl⟩ := h
          have hJ' : JL C all (QK C.P Q K) R s' r := hJ
          intro a w hs'
          exact wpList_step fun K' hK => stepO_sound C R all s s' _ o _ _ _ K' hst ho hw (fun a w h => hK a w (hJ' a w h)) a w hs'
        · cases h

theorem maskL_get : ∀ (mk : List Nat) (l : List Blk) (j : Nat), (maskL l mk)[j]? = if j ∈ mk ∧ j < l.length then some ⟨0, []⟩ else l[j]?
  | [], l, j => by simp [maskL]
  | i :: r, l, j => by
    rw [maskL, maskL_get r]
    simp only [List.length_set, List.mem_cons]
    by_cases h1 : j ∈ r ∧ j < l.length
    · simp [h1]
    · rw [if_neg h1]
      by_cases h2 : i = j
      · subst h2
        by_cases h3 : i < l.length
        · simp [h3]
        · simp [h3]
      · rw [List.getElem?_set_ne h2]
        have : ¬ ((j = i ∨ j ∈ r) ∧ j < l.length) := by rintro ⟨h3 | h3, h4⟩; exact h2 h3.symm; exact h1 ⟨h3, h4⟩
        rw [if_neg this]
theorem loc0_append (l l' : List Blk) (k0 : Nat) (mk : List Nat) (h : k0 ≤ l.length) : loc0 (l ++ l') k0 mk = loc0 l k0 mk := by
  unfold loc0
  rw [List.take_append_of_le_length h]
theorem loc0_set (l : List Blk) (i : Nat) (b : Blk) (k0 : Nat) (mk : List Nat) (h : i ∈ mk ∨ k0 ≤ i) : loc0 (l.set i b) k0 mk = loc0 l k0 mk := by
  unfold loc0
  apply List.ext_getElem?
  intro j
  rw [maskL_get, maskL_get]
  simp only [List.length_take, List.length_set]
  split
  · rfl
  · rename_i hn
    rw [List.getElem?_take, List.getElem?_take]
    split
    · rename_i hj
      by_cases hij : i = j
      · subst hij
        rcases h with h | h
        · have : ¬ (i < l.length) := fun hl => hn ⟨h, by omega⟩
          rw [List.getElem?_eq_none (by simp; omega), List.getElem?_eq_none (by omega)]
        · omega
      · rw [List.getElem?_set_ne hij]
    · rfl

theorem LocLe.of_get : ∀ (a b : List Blk), (∀ (j : Nat) (x : Blk), a[j]? = some x → ∃ y, b[j]? = some y ∧ (x.cs = [] ∨ x = y)) → LocLe a b
  | [], _, _ => trivial
  | x :: r, [], h => by obtain ⟨y, hy, _⟩ := h 0 x rfl; simp at hy
  | x :: r, y :: r', h => by
    refine ⟨?_, LocLe.of_get r r' fun j z hz => by simpa using h (j + 1) z (by simpa using hz)⟩
    obtain ⟨y', hy, h1⟩ := h 0 x rfl
    simp only [List.getElem?_cons_zero, Option.some.injEq] at hy
    subst hy
    exact h1
theorem LocLe.loc0 (loc : List Blk) (k0 : Nat) (mk : List Nat) : LocLe (Fw.loc0 loc k0 mk) loc := by
  apply LocLe.of_get
  intro j x hx
  unfold Fw.loc0 at hx
  rw [maskL_get] at hx
  split at hx
  · rename_i hj
    simp only [List.length_take] at hj
    have hl : j < loc.length := by omega
    refine ⟨loc[j], List.getElem?_eq_getElem hl, .inl ?_⟩
    injection hx with hx
    subst hx
    rfl
  · rw [List.getElem?_take] at hx
    split at hx
    · exact ⟨x, hx, .inr rfl⟩
    · cases hx
/-- what every world meets is met still -/
theorem WS.down0 {m : List Nat} {w0 : World} {bs bs0 : List Nat} {loc loc1 : List Blk} {R R0 : List Res} {w : World} {k0 : Nat} {mk : List Nat} (hp : bs0 <+: bs) (hl : (Fw.loc0 loc1 k0 mk).length = bs0.length) (hk : okLoc (Fw.loc0 loc1 k0 mk) = true)
    (he : Fw.loc0 loc k0 mk = Fw.loc0 loc1 k0 mk) (hR : R0.Sublist R) (h : WS m w0 bs loc R w) : WS m w0 bs0 (Fw.loc0 loc1 k0 mk) R0 w :=
  h.down hp hl hk (by rw [← he]; exact LocLe.loc0 loc k0 mk) hR

theorem stepO_loc {P : Program} {n : Nat} {all : Array Oper} {s s' : SS} {o : Oper} {hint : Hint} {obs : List Prop} {wobs : List (Addr × List Value)} {k0 : Nat} {mk : List Nat} (h : stepO P n all s hint o = some (s', obs, wobs)) (hb : oursB s o k0 mk = true) (hk : k0 ≤ s.loc.length) :
    loc0 s'.loc k0 mk = loc0 s.loc k0 mk := by
  unfold stepO at h
  unfold oursB at hb
  split at h
  case isFalse => cases h
  split at h
  · cases h
  · simp only [Option.some.injEq, Prod.mk.injEq] at h; obtain ⟨rfl, -, -⟩ := h; rfl
  · split at h
    · split at h
      · split at h
        · simp only [Option.some.injEq, Prod.mk.injEq] at h; obtain ⟨rfl, -, -⟩ := h; exact loc0_append _ _ _ _ hk
        · cases h
      · cases h
    · split at h
      · split at h
        · split at h
          · simp only [Option.some.injEq, Prod.mk.injEq] at h; obtain ⟨rfl, -, -⟩ := h; exact loc0_append _ _ _ _ hk
          · cases h
        · cases h
      · cases h
    · rename_i T A X hop
      rw [hop] at hb
      simp only at hb
      split at h
      · rename_i i off x hA hx
        rw [hA] at hb
        simp only [Bool.or_eq_true, List.any_eq_true] at hb
        have hb' : i ∈ mk ∨ k0 ≤ i := by
          rcases hb with ⟨j, hj, hj2⟩ | hb
          · have := Nat.eq_of_beq_eq_true hj2; subst this; exact .inl hj
          · exact .inr (Nat.le_of_ble_eq_true hb)
        split at h
        · split at h
          · simp only [Option.some.injEq, Prod.mk.injEq] at h; obtain ⟨rfl, -, -⟩ := h; exact loc0_set _ _ _ _ _ hb'
          · cases h
        · cases h
      · cases h
    · split at h
      · split at h
        · split at h
          · simp only [Option.some.injEq, Prod.mk.injEq] at h; obtain ⟨rfl, -, -⟩ := h; exact loc0_append _ _ _ _ hk
          · cases h
        · cases h
      · cases h
    · split at h
      · simp only [Option.some.injEq, Prod.mk.injEq] at h; obtain ⟨rfl, -, -⟩ := h; rfl
      · cases h

theorem oneLoc_sound {C : Cx} {Q : Exit → Act → World → Prop} {R0 R : List Res} {all : Array Oper} {q i : Nat} {r : Tr} {K : List Fk} {s : SS} {k0 : Nat} {mk : List Nat} {kb : List (Nat × Nat)} {o : Oper} {m' : Mch} {obs : List Prop} {wobs : List (Addr × List Value)}
    (hoi : all[i]? = some o) (h : oneLoc C.P C.n all q r K s k0 mk kb o = some (m', obs, wobs)) (hR : R0.Sublist R) (hJ : JM C Q R0 R m') : JM C Q R0 R ⟨.hw all q (.b i r .z), K, s, k0, mk, kb⟩ := by
  unfold oneLoc at h
  cases hc : oursB s o k0 mk && (okLoc (loc0 s.loc k0 mk) && Nat.ble k0 s.loc.length) with
  | false => rw [hc] at h; cases h
  | true =>
    rw [hc] at h
    simp only [Bool.and_eq_true] at hc
    simp only [cond_true] at h
    split at h
    · rename_i s' hst
      simp only [Option.some.injEq, Prod.mk.injEq] at h
      obtain ⟨rfl, -, -⟩ := h
      have hloc := stepO_loc hst hc.1 (Nat.le_of_ble_eq_true hc.2.2)
      refine Hl s' ?_ (fun bs0 bs w hp hl hS => hS.down0 hp hl hc.2.1 hloc hR) ?_
      · rw [hoi]; exact hst
      · have hJ' : JH C all (QK C.P Q K) R0 (loc0 s'.loc k0 mk) q r R s' := hJ
        rw [hloc] at hJ'
        exact hJ'
    · cases h

theorem stH_sound {C : Cx} {Q : Exit → Act → World → Prop} {R0 R : List Res} {hs : List (Nat × Hint)} {m m' : Mch} {obs : List Prop} {wobs : List (Addr × List Value)} (h : stH C.P C.n hs m = some (m', obs, wobs))
    (ho : AllP obs) (hw : ∀ w, Kp C.m C.w0 w → (∀ r, r ∈ R0 → r.p w) → AllC w wobs) (hR : R0.Sublist R) (hJ : JM C Q R0 R m') : JM C Q R0 R m := by
  obtain ⟨foc, K, s, k0, mk, kb⟩ := m
  cases foc with
  | out e => simp [stH] at h
  | code c => simp [stH] at h
  | ops all l => simp [stH] at h
  | hw all q t =>
    simp only [stH] at h
    split at h
    · simp only [Option.some.injEq, Prod.mk.injEq] at h; obtain ⟨rfl, -, -⟩ := h; exact Hn hJ
    · rename_i i r
      split at h
      · cases h
      rename_i o hoi
      cases hk : okLoc (loc0 s.loc k0 mk) && ready kb all o with
      | false => rw [hk] at h; cases h
      | true =>
        rw [hk] at h
        simp only [Bool.and_eq_true] at hk
        simp only [cond_true] at h
        split at h
        · rename_i e obs' wobs' hq
          simp only [Option.some.injEq, Prod.mk.injEq] at h
          obtain ⟨rfl, rfl, rfl⟩ := h
          exact Hq _ [(i, false)] e _ _ hk.1 hq ho hw hJ
        · cases h
    · rename_i i r
      split at h
      · cases h
      rename_i o hoi
      cases hk : okLoc (loc0 s.loc k0 mk) && ready kb all o with
      | false => rw [hk] at h; cases h
      | true =>
        rw [hk] at h
        simp only [Bool.and_eq_true] at hk
        simp only [cond_true] at h
        split at h
        · rename_i e obs' wobs' hq
          simp only [Option.some.injEq, Prod.mk.injEq] at h
          obtain ⟨rfl, rfl, rfl⟩ := h
          exact Hq _ [(i, true)] e _ _ hk.1 hq ho hw hJ
        · cases h
    · rename_i i r
      split at h
      · cases h
      · rename_i o hoi
        cases hd : dstOK C.n o.dst && ready kb all o with
        | false => rw [hd] at h; cases h
        | true =>
          rw [hd] at h
          simp only [Bool.and_eq_true] at hd
          simp only [cond_true] at h
          split at h
          · rename_i hg
            simp only [Option.some.injEq, Prod.mk.injEq] at h
            obtain ⟨rfl, -, -⟩ := h
            exact Hp hoi hd.1 hg hJ
          · cases hwt : waits o with
            | true => rw [hwt] at h; cases h
            | false =>
              rw [hwt] at h
              exact oneLoc_sound hoi h hR hJ
          · cases h
    · cases h

/-- quiet steps that ask for nothing -/
def stQ (P : Program) (n : Nat) (m : Mch) : Option Mch :=
  match stO P n [] m with
  | some (m', [], []) => some m'
  | some _ => none
  | none => match stH P n [] m with
    | some (m', [], []) => some m'
    | _ => none
def go (P : Program) (n : Nat) : Nat → Mch → Mch
  | 0, m => m
  | f + 1, m => match stQ P n m with
    | some m' => go P n f m'
    | none => m
def nx (C : Cx) (m : Mch) : Mch := go C.P C.n 2000 m
theorem go_sound {C : Cx} {Q : Exit → Act → World → Prop} {R0 R : List Res} (hR : R0.Sublist R) : ∀ (f : Nat) {m : Mch}, JM C Q R0 R (go C.P C.n f m) → JM C Q R0 R m
  | 0, _, h => h
  | f + 1, m, h => by
    simp only [go] at h
    split at h
    · rename_i m' hst
      have ih := go_sound hR f h
      unfold stQ at hst
      split at hst
      · rename_i m2 h2
        injection hst with hst
        subst hst
        exact stO_sound h2 trivial (fun _ _ _ => trivial) ih
      · cases hst
      · split at hst
        · rename_i m2 h2
          injection hst with hst
          subst hst
          exact stH_sound h2 trivial (fun _ _ _ => trivial) hR ih
        · cases hst
    · exact h
theorem nx_sound {C : Cx} {Q : Exit → Act → World → Prop} {R0 R : List Res} {m : Mch} (hR : R0.Sublist R) (h : JM C Q R0 R (nx C m)) : JM C Q R0 R m := go_sound hR 2000 h

/-- one list behind the other: not by the usual word, so that two such are compared from the front on -/
def cat {α : Type} : List α → List α → List α
  | [], l => l
  | a :: r, l => a :: cat r l
theorem cat_eq {α : Type} : ∀ a b : List α, cat a b = a ++ b
  | [], _ => rfl
  | x :: r, b => by rw [cat, cat_eq r b]; rfl
/-- with hints -/
def run (st : Mch → StepM) : Nat → Mch → Mch × List Prop × List (Addr × List Value)
  | 0, m => (m, [], [])
  | f + 1, m =>
    match st m with
    | none => (m, [], [])
    | some (m', o, w) => match run st f m' with
      | (m2, o2, w2) => (m2, cat o o2, cat w w2)
def rO (C : Cx) (hs : List (Nat × Hint)) (m : Mch) : Mch × List Prop × List (Addr × List Value) := run (stO C.P C.n hs) 2000 m
def rH (C : Cx) (hs : List (Nat × Hint)) (m : Mch) : Mch × List Prop × List (Addr × List Value) := run (stH C.P C.n hs) 2000 m
theorem run_sound {J : Mch → Prop} {st : Mch → StepM} {W : List (Addr × List Value) → Prop} (hW : ∀ a b, W (a ++ b) → W a ∧ W b) (hst : ∀ m m' o w, st m = some (m', o, w) → AllP o → W w → J m' → J m) :
    ∀ (f : Nat) (m : Mch) (m' : Mch) (o : List Prop) (w : List (Addr × List Value)), run st f m = (m', o, w) → AllP o → W w → J m' → J m
  | 0, m, m', o, w, h, _, _, hJ => by simp only [run, Prod.mk.injEq] at h; obtain ⟨rfl, -, -⟩ := h; exact hJ
  | f + 1, m, m', o, w, h, ho, hw, hJ => by
    simp only [run] at h
    split at h
    · simp only [Prod.mk.injEq] at h; obtain ⟨rfl, -, -⟩ := h; exact hJ
    · rename_i m1 o1 w1 h1
      simp only [Prod.mk.injEq] at h
      obtain ⟨rfl, rfl, rfl⟩ := h
      rw [cat_eq] at ho hw
      have ho' := AllP_append.1 ho
      have hw' := hW _ _ hw
      exact hst _ _ _ _ h1 ho'.1 hw'.1 (run_sound hW hst f m1 _ _ _ rfl ho'.2 hw'.2 hJ)
/-- on, with hints: the obligations -/
theorem Mr {C : Cx} {Q : Exit → Act → World → Prop} {R0 R : List Res} {m : Mch} (hs : List (Nat × Hint)) {obs : List Prop} {wobs : List (Addr × List Value)} (ho : AllP obs) (hw : ∀ w, Kp C.m C.w0 w → (∀ r, r ∈ R → r.p w) → AllC w wobs) (hR : R0.Sublist R := by first | exact List.nil_sublist _ | exact List.Sublist.refl _) (h : (rO C hs m).2 = (obs, wobs) := by kernel_rfl) (J : JM C Q R0 R (nx C (rO C hs m).1)) : JM C Q R0 R m := by
  refine run_sound (J := JM C Q R0 R) (W := fun l => ∀ w, Kp C.m C.w0 w → (∀ r, r ∈ R → r.p w) → AllC w l) (fun a b hab => ⟨fun w h1 h2 => (AllC_append.1 (hab w h1 h2)).1, fun w h1 h2 => (AllC_append.1 (hab w h1 h2)).2⟩)
    (fun m m' o w h1 h2 h3 h4 => stO_sound (hs := hs) h1 h2 h3 h4) 2000 m (rO C hs m).1 obs wobs ?_ ho hw (nx_sound hR J)
  show rO C hs m = _
  rw [← h]
theorem Mh {C : Cx} {Q : Exit → Act → World → Prop} {R0 R : List Res} {m : Mch} (hs : List (Nat × Hint)) {obs : List Prop} {wobs : List (Addr × List Value)} (ho : AllP obs) (hw : ∀ w, Kp C.m C.w0 w → (∀ r, r ∈ R0 → r.p w) → AllC w wobs) (hR : R0.Sublist R := by first | exact List.nil_sublist _ | exact List.Sublist.refl _) (h : (rH C hs m).2 = (obs, wobs) := by kernel_rfl) (J : JM C Q R0 R (nx C (rH C hs m).1)) : JM C Q R0 R m := by
  refine run_sound (J := JM C Q R0 R) (W := fun l => ∀ w, Kp C.m C.w0 w → (∀ r, r ∈ R0 → r.p w) → AllC w l) (fun a b hab => ⟨fun w h1 h2 => (AllC_append.1 (hab w h1 h2)).1, fun w h1 h2 => (AllC_append.1 (hab w h1 h2)).2⟩)
    (fun m m' o w h1 h2 h3 h4 => stH_sound (hs := hs) h1 h2 h3 hR h4) 2000 m (rH C hs m).1 obs wobs ?_ ho hw (nx_sound hR J)
  show rH C hs m = _
  rw [← h]
end Go.Proofs.YtbjakddkfgjkaaaGreat.Fw

namespace Go.Proofs.YtbjakddkfgjkaaaGreat.Fw
open Go.RowKit
section
variable {C : Cx} {Q : Exit → Act → World → Prop} {R0 R : List Res} {m : Mch}

/-! ### the operation that the machine waits for -/
def opM (n : Nat) : Mch → Option Oper
  | ⟨.ops all (o :: _), _, s, _, _, kb⟩ => bif dstOK n o.dst && ready kb all o then (match gd all s o with | some true => some o | _ => none) else none
  | ⟨.hw all _ (.b i _ .z), _, s, _, _, kb⟩ =>
    match all[i]? with
    | some o => bif dstOK n o.dst && ready kb all o then (match gd all s o with | some true => some o | _ => none) else none
    | none => none
  | _ => none
def adv (m : Mch) (x : SV) (loc' : List Blk) : Mch :=
  match m with
  | ⟨.ops all (o :: r), K, s, k0, mk, kb⟩ => ⟨.ops all r, K, ⟨putE s.env o.dst x, loc'⟩, k0, mk, kbPut kb o.dst 0⟩
  | ⟨.hw all q (.b i r .z), K, s, k0, mk, kb⟩ =>
    match all[i]? with
    | some o => ⟨.hw all q r, K, ⟨putE s.env o.dst x, loc'⟩, k0, mk, kbPut kb o.dst 0⟩
    | none => ⟨.hw all q (.b i r .z), K, s, k0, mk, kb⟩
  | m => m
/-- (m stands once in each of these words: the goals' terms don't double) -/
def adv0 (m : Mch) (x : SV) : Mch := adv m x m.s.loc
/-- the same blocks are met by every world -/
def locB (m : Mch) (loc' : List Blk) : Bool × List Blk := (okLoc (loc0 m.s.loc m.k0 m.ms), loc0 loc' m.k0 m.ms)
def locS (m : Mch) : Bool × List Blk := (true, loc0 m.s.loc m.k0 m.ms)
def vw {α : Type} (n : Nat) (v : Oper → SS → Option α) (m : Mch) : Option α :=
  match opM n m with
  | some o => v o m.s
  | none => none

theorem m_does {σ : Type} (val : σ → SV) (loc' : σ → List Blk) (R' : σ → List Res) (ho : (opM C.n m).isSome = true) (hD : ∀ o, opM C.n m = some o → Does C o R m.s val loc' R')
    (hL : ∀ y, locB m (loc' y) = locS m) (hR : ∀ y, R0.Sublist (R' y)) (hJ : ∀ y, JM C Q R0 (R' y) (nx C (adv m (val y) (loc' y)))) : JM C Q R0 R m := by
  obtain ⟨foc, K, s, k0, mk, kb⟩ := m
  have hJ' := fun y => nx_sound (hR y) (hJ y)
  unfold opM at ho hD
  split at ho
  · rename_i all o r K s k0 mk kb heq
    injection heq with e1 e2 e3 e4 e5 e6
    subst e1 e2 e3 e4 e5 e6
    cases hd : dstOK C.n o.dst && ready kb all o with
    | false => rw [hd] at ho; cases ho
    | true =>
      have hd1 := (Bool.and_eq_true _ _ ▸ hd : _ ∧ _).1
      rw [hd] at ho
      simp only [cond_true] at ho
      split at ho
      · rename_i hg
        exact l_does val loc' R' hd1 hg (hD o (by simp only [hd, cond_true, hg])) hJ'
      · cases ho
  · rename_i all q i r K s k0 mk kb heq
    injection heq with e1 e2 e3 e4 e5 e6
    subst e1 e2 e3 e4 e5 e6
    split at ho
    · rename_i o hoi
      cases hd : dstOK C.n o.dst && ready kb all o with
      | false => rw [hd] at ho; cases ho
      | true =>
        have hd1 := (Bool.and_eq_true _ _ ▸ hd : _ ∧ _).1
        rw [hd] at ho
        simp only [cond_true] at ho
        split at ho
        · rename_i hg
          refine h_does val loc' R' hoi hd1 hg (hD o (by simp only [hoi, hd, cond_true, hg])) (fun bs0 bs y w hp hl hS => ?_) fun y => ?_
          · have h1 := hL y
            simp only [locB, locS, Prod.mk.injEq] at h1
            exact hS.down0 hp hl h1.1 h1.2 (hR y)
          · have h1 := hL y
            simp only [locB, locS, Prod.mk.injEq] at h1
            have h2 := hJ' y
            simp only [adv, hoi] at h2
            have h3 : JH C all (QK C.P Q K) R0 (loc0 (loc' y) k0 mk) q r (R' y) ⟨putE s.env o.dst (val y), loc' y⟩ := h2
            rw [h1.2] at h3
            exact h3
        · cases ho
    · cases ho
  · cases ho
theorem m_eff {α σ : Type} (v : Oper → SS → Option α) (x : α) (hv : vw C.n v m = some x) (val : σ → SV) (loc' : σ → List Blk) (R' : σ → List Res) (hD : ∀ o, v o m.s = some x → Does C o R m.s val loc' R')
    (hL : ∀ y, locB m (loc' y) = locS m) (hR : ∀ y, R0.Sublist (R' y)) (hJ : ∀ y, JM C Q R0 (R' y) (nx C (adv m (val y) (loc' y)))) : JM C Q R0 R m := by
  refine m_does val loc' R' ?_ (fun o ho => hD o ?_) hL hR hJ
  · unfold vw at hv
    split at hv
    · rename_i o ho; rw [ho]; rfl
    · cases hv
  · unfold vw at hv
    rw [ho] at hv
    exact hv

section
variable {α : Type} {a b c d e f g k i : α} {l : List α}
theorem i0 : a ∈ a :: l := .head _
theorem i1 : b ∈ a :: b :: l := .tail _ i0
theorem i2 : c ∈ a :: b :: c :: l := .tail _ i1
theorem i3 : d ∈ a :: b :: c :: d :: l := .tail _ i2
theorem i4 : e ∈ a :: b :: c :: d :: e :: l := .tail _ i3
theorem i5 : f ∈ a :: b :: c :: d :: e :: f :: l := .tail _ i4
theorem i6 : g ∈ a :: b :: c :: d :: e :: f :: g :: l := .tail _ i5
end
/-! ### what is known, in other words -/
theorem jm_sat {R' : List Res} {foc : Foc} {K : List Fk} {s s' : SS} {k0 : Nat} {mk : List Nat} {kb kb' : List (Nat × Nat)} (hl : s'.loc = s.loc) (h : ∀ bs a w, SatB C R s bs a w → SatB C R' s' bs a w) (hJ : JM C Q R0 R' ⟨foc, K, s', k0, mk, kb'⟩) : JM C Q R0 R ⟨foc, K, s, k0, mk, kb⟩ := by
  cases foc with
  | code c => exact fun a w ⟨bs, hs⟩ => hJ a w ⟨bs, h bs a w hs⟩
  | ops all l => exact fun a w ⟨bs, hs⟩ => hJ a w ⟨bs, h bs a w hs⟩
  | out e => exact fun a w ⟨bs, hs⟩ => hJ a w ⟨bs, h bs a w hs⟩
  | hw all n t =>
    have hJ' : JH C all (QK C.P Q K) R0 (loc0 s'.loc k0 mk) n t R' s' := hJ
    rw [hl] at hJ'
    exact fun bs0 bs a w hp hs hS0 => hJ' bs0 bs a w hp (h bs a w hs) hS0
theorem m_any {σ : Type} (R' : σ → List Res) (h : ∀ bs w, WS C.m C.w0 bs m.s.loc R w → ∃ y, WS C.m C.w0 bs m.s.loc (R' y) w) (hJ : ∀ y, JM C Q R0 (R' y) m) : JM C Q R0 R m := by
  obtain ⟨foc, K, s, k0, mk, kb⟩ := m
  cases foc with
  | code c => exact fun a w ⟨bs, h1, h2, hS⟩ => let ⟨y, hy⟩ := h bs w hS; hJ y a w ⟨bs, h1, h2, hy⟩
  | ops all l => exact fun a w ⟨bs, h1, h2, hS⟩ => let ⟨y, hy⟩ := h bs w hS; hJ y a w ⟨bs, h1, h2, hy⟩
  | out e => exact fun a w ⟨bs, h1, h2, hS⟩ => let ⟨y, hy⟩ := h bs w hS; hJ y a w ⟨bs, h1, h2, hy⟩
  | hw all n t => exact fun bs0 bs a w hp ⟨h1, h2, hS⟩ hS0 => let ⟨y, hy⟩ := h bs w hS; hJ y bs0 bs a w hp ⟨h1, h2, hy⟩ hS0
theorem m_res (R' : List Res) (h : ∀ bs w, WS C.m C.w0 bs m.s.loc R w → WS C.m C.w0 bs m.s.loc R' w) (hJ : JM C Q R0 R' m) : JM C Q R0 R m := m_any (fun _ : Unit => R') (fun bs w hS => ⟨(), h bs w hS⟩) fun _ => hJ
theorem m_perm {R' : List Res} (hp : R'.Perm R) (h : JM C Q R0 R' m) : JM C Q R0 R m := m_res R' (fun _ _ hS => hS.perm hp) h
theorem m_f1 {a b : Res} (h : JM C Q R0 (b :: a :: R) m) : JM C Q R0 (a :: b :: R) m := m_perm (Pf 1 rfl) h
theorem WS.f1 {a b : Res} {ms bs : List Nat} {w0 w : World} {loc : List Blk} (h : WS ms w0 bs loc (a :: b :: R) w) : WS ms w0 bs loc (b :: a :: R) w := h.perm (Pf 1 rfl)
theorem m_f2 {a b c : Res} (h : JM C Q R0 (c :: a :: b :: R) m) : JM C Q R0 (a :: b :: c :: R) m := m_perm (Pf 2 rfl) h
theorem WS.f2 {a b c : Res} {ms bs : List Nat} {w0 w : World} {loc : List Blk} (h : WS ms w0 bs loc (a :: b :: c :: R) w) : WS ms w0 bs loc (c :: a :: b :: R) w := h.perm (Pf 2 rfl)
theorem m_f3 {a b c d : Res} (h : JM C Q R0 (d :: a :: b :: c :: R) m) : JM C Q R0 (a :: b :: c :: d :: R) m := m_perm (Pf 3 rfl) h
theorem m_f4 {a b c d e : Res} (h : JM C Q R0 (e :: a :: b :: c :: d :: R) m) : JM C Q R0 (a :: b :: c :: d :: e :: R) m := m_perm (Pf 4 rfl) h
theorem WS.f4 {a b c d e : Res} {ms bs : List Nat} {w0 w : World} {loc : List Blk} (h : WS ms w0 bs loc (a :: b :: c :: d :: e :: R) w) : WS ms w0 bs loc (e :: a :: b :: c :: d :: R) w := h.perm (Pf 4 rfl)
theorem m_f5 {a b c d e f : Res} (h : JM C Q R0 (f :: a :: b :: c :: d :: e :: R) m) : JM C Q R0 (a :: b :: c :: d :: e :: f :: R) m := m_perm (Pf 5 rfl) h
theorem WS.f5 {a b c d e f : Res} {ms bs : List Nat} {w0 w : World} {loc : List Blk} (h : WS ms w0 bs loc (a :: b :: c :: d :: e :: f :: R) w) : WS ms w0 bs loc (f :: a :: b :: c :: d :: e :: R) w := h.perm (Pf 5 rfl)
theorem m_weak {r : Res} (r' : Res) (hf : r'.fp.Sublist r.fp) (hp : ∀ w, r.p w → r'.p w) (h : JM C Q R0 (r' :: R) m) : JM C Q R0 (r :: R) m := m_res _ (fun _ w hS => hS.weak r' hf (hp w)) h
theorem m_join {r1 r2 : Res} (r : Res) (hf : r.fp.Perm (r1.fp ++ r2.fp)) (hp : ∀ w, r1.p w → r2.p w → r.p w) (h : JM C Q R0 (r :: R) m) : JM C Q R0 (r1 :: r2 :: R) m := m_res _ (fun _ w hS => hS.join r hf (hp w)) h
theorem m_part2 {r : Res} (r1 r2 : Res) (hf : (r1.fp ++ r2.fp).Perm r.fp) (hp : ∀ w, r.p w → r1.p w ∧ r2.p w) (h : JM C Q R0 (r1 :: r2 :: R) m) : JM C Q R0 (r :: R) m := m_res _ (fun _ w hS => hS.part2 r1 r2 hf (hp w)) h
theorem m_split2 {r1 r2 : Res} (h : JM C Q R0 (r1 :: r2 :: R) m) : JM C Q R0 (allR [r1, r2] :: R) m := m_part2 r1 r2 (by simp [allR]) (fun w h => ⟨h _ (.head _), h _ (.tail _ (.head _))⟩) h
theorem m_know {F : Prop} (h : ∀ bs w, WS C.m C.w0 bs m.s.loc R w → F) (hJ : F → JM C Q R0 R m) : JM C Q R0 R m := m_any (fun _ : { _u : Unit // F } => R) (fun bs w hS => ⟨⟨(), h bs w hS⟩, hS⟩) fun y => hJ y.2
theorem m_nores (r : Res) (hf : r.fp = []) (hp : ∀ w, r.p w) (h : JM C Q R0 (r :: R) m) : JM C Q R0 R m := m_res _ (fun _ w hS => hS.nores r hf (hp w)) h
theorem m_row (e size : Nat) (h : JM C Q R0 (rowR e size none 0 0 [] :: R) m) : JM C Q R0 R m := m_res _ (fun _ w hS => hS.new _ (rowR_nil e size w) (by simp [rowR]) (by simp [rowR])) h
theorem m_rowA {α : Type} [Lay α] (e : Nat) (h : JM C Q R0 (rowA e none 0 ([] : List α) :: R) m) : JM C Q R0 R m := m_row e (Lay.size α) h
theorem m_raw {α : Type} [Lay α] {e : Nat} {A : Option Addr} {c : Nat} {L : List α} (hL : 0 < L.length)
    (hJ : ∀ g zs, A = some ⟨g, 0, none⟩ → L.length ≤ c → (L.flatMap Lay.cells ++ zs).length = c * Lay.size α → JM C Q R0 (rawR e (Lay.size α) g c (L.flatMap Lay.cells ++ zs) :: R) m) : JM C Q R0 (rowA e A c L :: R) m := by
  refine m_any (fun y : { y : Nat × List Value // A = some ⟨y.1, 0, none⟩ ∧ L.length ≤ c ∧ (L.flatMap Lay.cells ++ y.2).length = c * Lay.size α } => rawR e (Lay.size α) y.1.1 c (L.flatMap Lay.cells ++ y.1.2) :: R) (fun bs w hS => ?_) fun y => hJ y.1.1 y.1.2 y.2.1 y.2.2.1 y.2.2.2
  rcases rowA_raw (hS.res _ (.head _)) with ⟨rfl, rfl, rfl⟩ | ⟨g, zs, hA, hr, hn⟩
  · simp at hL
  · exact ⟨⟨(g, zs), hA, hn, hr.2.1⟩, hS.weak _ (by subst hA; exact List.Sublist.refl _) (fun _ => hr)⟩
/-- a slot in other words -/
def setT (m : Mch) (t : Nat) (x : SV) : Mch := { m with s := ⟨putE m.s.env (some t) x, m.s.loc⟩, kb := kbPut m.kb (some t) 0 }
def setK (m : Mch) (t : Nat) (b : Bool) : Mch := { m with s := ⟨putE m.s.env (some t) (vB b), m.s.loc⟩, kb := (t, bif b then 1 else 2) :: m.kb }
theorem satT {s : SS} {bs : List Nat} {a : Act} {w : World} {t : Nat} {x : SV} (h : SatB C R s bs a w) (hx : get s.env t = some x) : SatB C R ⟨putE s.env (some t) x, s.loc⟩ bs a w := by
  refine ⟨⟨h.1.1, fun u y hu => ?_⟩, h.2.1, h.2.2⟩
  simp only [putE, get] at hu
  cases hb : Nat.beq t u with
  | true =>
    have e1 : t = u := Nat.eq_of_beq_eq_true hb
    subst e1
    simp only [hb, cond_true, Option.some.injEq] at hu
    subst hu
    exact h.1.2 _ _ hx
  | false =>
    simp only [hb, cond_false] at hu
    exact h.1.2 u y hu
theorem Mk (t : Nat) {x x' : SV} (J : JM C Q R0 R (nx C (setT m t x'))) (hx : x = x') (hR : R0.Sublist R := by first | exact List.nil_sublist _ | exact List.Sublist.refl _) (hv : get m.s.env t = some x := by kernel_rfl) : JM C Q R0 R m := by
  subst hx
  obtain ⟨foc, K, s, k0, mk, kb⟩ := m
  exact jm_sat (s' := ⟨putE s.env (some t) x, s.loc⟩) rfl (fun bs a w h => satT h hv) (nx_sound (m := setT ⟨foc, K, s, k0, mk, kb⟩ t x) hR J)
/-- no region that draws any more -/
def noHw (m : Mch) : Bool :=
  match m.foc with
  | .hw _ _ _ => false
  | _ => true
theorem Mz (J : JM C Q [] R m) (h : noHw m = true := by kernel_rfl) : JM C Q R0 R m := by
  obtain ⟨foc, K, s, k0, mk, kb⟩ := m
  cases foc with
  | hw all n t => cases h
  | _ => exact J

/-! ### what is asked: a test -/
def askO (kb : List (Nat × Nat)) (all : Array Oper) (o : Oper) : Nat :=
  match kbGuard kb all o with
  | 0 =>
    match o.guard with
    | some (j, _) => match (all[j]?).bind (·.dst) with
      | some t => t
      | none => 0
    | none => 0
  | _ =>
    match o.op with
    | .pick (.tmp t) _ _ => t
    | _ => 0
def askT (m : Mch) : Nat :=
  match m with
  | ⟨.code (.cond (.tmp t) _ _), _, _, _, _, _⟩ => t
  | ⟨.ops all (o :: _), _, _, _, _, kb⟩ => askO kb all o
  | ⟨.hw all _ (.q i _), _, _, _, _, kb⟩ => match all[i]? with | some o => askO kb all o | none => 0
  | ⟨.hw all _ (.p i _), _, _, _, _, kb⟩ => match all[i]? with | some o => askO kb all o | none => 0
  | ⟨.hw all _ (.b i _ _), _, _, _, _, kb⟩ => match all[i]? with | some o => askO kb all o | none => 0
  | _ => 0
/-- a slot holds a test whose answer is known -/
theorem Mq (t : Nat) {x : SV} (b : Bool) (J : JM C Q R0 R (nx C (setK m t b))) (hx : x = vB b) (hR : R0.Sublist R := by first | exact List.nil_sublist _ | exact List.Sublist.refl _) (hv : get m.s.env t = some x := by kernel_rfl) : JM C Q R0 R m := by
  subst hx
  obtain ⟨foc, K, s, k0, mk, kb⟩ := m
  exact jm_sat (s' := ⟨putE s.env (some t) (vB b), s.loc⟩) rfl (fun bs a w h => satT h hv) (nx_sound (m := setK ⟨foc, K, s, k0, mk, kb⟩ t b) hR J)
theorem get_putE {e : Env} {t : Nat} {x : SV} (h : get e t = some x) (u : Nat) : get (putE e (some t) x) u = get e u := by
  simp only [putE, get]
  cases hb : Nat.beq t u with
  | true =>
    have e1 : t = u := Nat.eq_of_beq_eq_true hb
    subst e1
    simp only [cond_true, h]
  | false => rfl
def bx (n X : Bool) : Bool := bif n then !X else X
/-- the slots named hold the test, or what it is not -/
def setKs (m : Mch) (b : Bool) : List (Nat × Bool) → Mch
  | [] => m
  | p :: r => setKs (setK m p.1 (bx p.2 b)) b r
def exV (m : Mch) (ex : List (Nat × Bool)) : List (Option SV) := ex.map fun p => get m.s.env p.1
def exX (X : Bool) (ex : List (Nat × Bool)) : List (Option SV) := ex.map fun p => some (vB (bx p.2 X))
theorem jm_setKs (b : Bool) : ∀ (ex : List (Nat × Bool)) (m : Mch), exV m ex = exX b ex → JM C Q R0 R (setKs m b ex) → JM C Q R0 R m
  | [], _, _, h => h
  | p :: r, m, hv, h => by
    simp only [exV, exX, List.map_cons, List.cons.injEq] at hv
    have h1 := jm_setKs b r (setK m p.1 (bx p.2 b)) (by
      rw [exX, ← hv.2]
      exact List.map_congr_left fun q _ => get_putE hv.1 q.1) h
    obtain ⟨foc, K, s, k0, mk, kb⟩ := m
    exact jm_sat (s' := ⟨putE s.env (some p.1) (vB (bx p.2 b)), s.loc⟩) rfl (fun bs a w h => satT h hv.1) h1
def askS (m : Mch) (b neg : Bool) (ex : List (Nat × Bool)) : Mch := setKs m b ((askT m, neg) :: ex)
theorem Mbx (X : Bool) (neg : Bool) (ex : List (Nat × Bool)) (T : X = true → JM C Q R0 R (nx C (askS m true neg ex))) (F : X = false → JM C Q R0 R (nx C (askS m false neg ex))) (hR : R0.Sublist R := by first | exact List.nil_sublist _ | exact List.Sublist.refl _)
    (hv : exV m ((askT m, neg) :: ex) = exX X ((askT m, neg) :: ex) := by kernel_rfl) : JM C Q R0 R m := by
  cases X with
  | true => exact jm_setKs true _ m hv (nx_sound hR (T rfl))
  | false => exact jm_setKs false _ m hv (nx_sound hR (F rfl))
theorem Mdx (p : Prop) (neg : Bool) (ex : List (Nat × Bool)) [d : Decidable p] (T : p → JM C Q R0 R (nx C (askS m true neg ex))) (F : ¬ p → JM C Q R0 R (nx C (askS m false neg ex))) (hR : R0.Sublist R := by first | exact List.nil_sublist _ | exact List.Sublist.refl _)
    (hv : exV m ((askT m, neg) :: ex) = exX (decide p) ((askT m, neg) :: ex) := by kernel_rfl) : JM C Q R0 R m :=
  Mbx (decide p) neg ex (fun h => T (of_decide_eq_true h)) (fun h => F (of_decide_eq_false h)) hR hv
theorem Mb (X : Bool) (T : X = true → JM C Q R0 R (nx C (askS m true false []))) (F : X = false → JM C Q R0 R (nx C (askS m false false []))) (hR : R0.Sublist R := by first | exact List.nil_sublist _ | exact List.Sublist.refl _)
    (hv : exV m [(askT m, false)] = exX X [(askT m, false)] := by kernel_rfl) : JM C Q R0 R m := Mbx X false [] T F hR hv
theorem Mbn (X : Bool) (T : X = true → JM C Q R0 R (nx C (askS m true true []))) (F : X = false → JM C Q R0 R (nx C (askS m false true []))) (hR : R0.Sublist R := by first | exact List.nil_sublist _ | exact List.Sublist.refl _)
    (hv : exV m [(askT m, true)] = exX X [(askT m, true)] := by kernel_rfl) : JM C Q R0 R m := Mbx X true [] T F hR hv
theorem Md (p : Prop) [d : Decidable p] (T : p → JM C Q R0 R (nx C (askS m true false []))) (F : ¬ p → JM C Q R0 R (nx C (askS m false false []))) (hR : R0.Sublist R := by first | exact List.nil_sublist _ | exact List.Sublist.refl _)
    (hv : exV m [(askT m, false)] = exX (decide p) [(askT m, false)] := by kernel_rfl) : JM C Q R0 R m := Mdx p false [] T F hR hv
theorem Mdn (p : Prop) [d : Decidable p] (T : p → JM C Q R0 R (nx C (askS m true true []))) (F : ¬ p → JM C Q R0 R (nx C (askS m false true []))) (hR : R0.Sublist R := by first | exact List.nil_sublist _ | exact List.Sublist.refl _)
    (hv : exV m [(askT m, true)] = exX (decide p) [(askT m, true)] := by kernel_rfl) : JM C Q R0 R m := Mdx p true [] T F hR hv
/-- a test whose answer is known -/
theorem Myx {X : Bool} (b neg : Bool) (ex : List (Nat × Bool)) (J : JM C Q R0 R (nx C (askS m b neg ex))) (h : X = b) (hR : R0.Sublist R := by first | exact List.nil_sublist _ | exact List.Sublist.refl _)
    (hv : exV m ((askT m, neg) :: ex) = exX X ((askT m, neg) :: ex) := by kernel_rfl) : JM C Q R0 R m := by
  subst h
  exact jm_setKs X _ m hv (nx_sound hR J)
theorem My {X : Bool} (b neg : Bool) (J : JM C Q R0 R (nx C (askS m b neg []))) (h : X = b) (hR : R0.Sublist R := by first | exact List.nil_sublist _ | exact List.Sublist.refl _)
    (hv : exV m [(askT m, neg)] = exX X [(askT m, neg)] := by kernel_rfl) : JM C Q R0 R m := Myx b neg [] J h hR hv
theorem dt {p : Prop} [Decidable p] (h : p) : decide p = true := decide_eq_true h
theorem df {p : Prop} [Decidable p] (h : ¬ p) : decide p = false := decide_eq_false h
theorem dT {p : Prop} [Decidable p] (h : p) : vB (decide p) = vB true := by rw [decide_eq_true h]
theorem dF {p : Prop} [Decidable p] (h : ¬ p) : vB (decide p) = vB false := by rw [decide_eq_false h]
/-! ### loops -/
def ovE (e : Env) : List Nat → Env → Env
  | [], _ => []
  | k :: r, ch =>
    match get ch k with
    | some x => (k, x) :: ovE e r ch
    | none => match get e k with
      | some x => (k, x) :: ovE e r ch
      | none => ovE e r ch
def ovL (l : List Blk) : List (Nat × List SV) → List Blk
  | [] => l
  | (i, cs) :: r => ovL (match l[i]? with | some b => l.set i ⟨b.ty, cs⟩ | none => l) r
def headS (m : Mch) (keys : List Nat) (ch : Env) (lc : List (Nat × List SV)) : SS := ⟨ovE m.s.env keys ch, ovL m.s.loc lc⟩
def bodyM (m : Mch) (I : Act → World → Prop) (s : SS) : Mch :=
  match m.foc with
  | .code (.loop c) => ⟨.code c, .lp I :: m.K, s, 0, [], []⟩
  | _ => m
def bodyH (m : Mch) (I : Act → World → Prop) (keys : List Nat) (ch : Env) (lc : List (Nat × List SV)) : Mch := bodyM m I (headS m keys ch lc)
def bodyS (m : Mch) (I : Act → World → Prop) (m' : Mch) : Mch := bodyM m I m'.s
def bodyU (m : Mch) (I : Act → World → Prop) : Mch := bodyM m I m.s
def isLp (m : Mch) : Bool :=
  match m.foc with
  | .code (.loop _) => true
  | _ => false
def topI (m : Mch) : Option (Act → World → Prop) :=
  match m with
  | ⟨.out .normal, .lp I :: _, _, _, _, _⟩ => some I
  | _ => none
theorem Ml {σ : Type} (I : σ → Prop) (μ : σ → Nat) (RS : σ → List Res) (keys : List Nat) (ch : σ → Env) (lc : σ → List (Nat × List SV)) (B : ∀ x, I x → ∀ inv : Act → World → Prop, (∀ {R' : List Res} {m' : Mch} (y : σ), I y → μ y < μ x → (hR : R' = RS y := by rfl) → (ht : topI m' = some inv := by kernel_rfl) → (hp : pruneP m'.s keys m.s.loc.length = some (headS m keys (ch y) (lc y)) := by kernel_rfl) → JM C Q [] R' m') →
      JM C Q [] (RS x) (nx C (bodyH m inv keys (ch x) (lc x)))) (x0 : σ) (hI : I x0) (hR : R = RS x0 := by rfl) (hl : isLp m = true := by kernel_rfl) (hp : pruneP m.s keys m.s.loc.length = some (headS m keys (ch x0) (lc x0)) := by kernel_rfl) : JM C Q [] R m := by
  obtain ⟨foc, K, s, k0, mk, kb⟩ := m
  cases foc with
  | code c =>
    cases c with
    | loop c =>
      show JC C (.loop c) (QK C.P Q K) R s
      refine Cl I μ RS (fun y => headS ⟨.code (.loop c), K, s, k0, mk, kb⟩ keys (ch y) (lc y)) x0 hI (Ss keys _ hp hR) fun x hx => ?_
      refine nx_sound (m := bodyM ⟨.code (.loop c), K, s, k0, mk, kb⟩ _ _) (Q := Q) (List.nil_sublist _) (B x hx (fun a w => ∃ y, I y ∧ μ y < μ x ∧ Sat C (RS y) (headS ⟨.code (.loop c), K, s, k0, mk, kb⟩ keys (ch y) (lc y)) a w) ?_)
      intro R' m' y hIy hμ hR' ht hp'
      obtain ⟨foc', K', s', k0', mk', kb'⟩ := m'
      unfold topI at ht
      split at ht
      · rename_i I' K'' s'' k0'' mk'' kb'' heq
        injection heq with e1 e2 e3 e4 e5 e6
        subst e1 e2 e3 e4 e5 e6
        injection ht with ht
        subst ht
        exact Ql y hIy hμ (Ss keys _ hp' hR')
      · cases ht
    | _ => cases hl
  | _ => cases hl
/-- a loop whose rounds are walked one by one -/
theorem Mun (n : Nat) (B : ∀ inv : Nat → Act → World → Prop, (∀ {R' : List Res} {m' : Mch} (k : Nat) (ht : topI m' = some (inv (k + 1)) := by kernel_rfl) (J : JM C Q [] R' (nx C (bodyS m (inv k) m'))), JM C Q [] R' m') → JM C Q [] R (nx C (bodyU m (inv n)))) (hl : isLp m = true := by kernel_rfl) : JM C Q [] R m := by
  obtain ⟨foc, K, s, k0, mk, kb⟩ := m
  cases foc with
  | code c =>
    cases c with
    | loop c =>
      refine c_unroll (n := n) ?_
      refine nx_sound (m := bodyM ⟨.code (.loop c), K, s, k0, mk, kb⟩ (Code.rounds C.P c (QK C.P Q K) n) s) (Q := Q) (List.nil_sublist _) (B (Code.rounds C.P c (QK C.P Q K)) ?_)
      intro R' m' k ht hJ
      obtain ⟨foc', K', s', k0', mk', kb'⟩ := m'
      have h2 := nx_sound (List.nil_sublist _) hJ
      unfold topI at ht
      split at ht
      · rename_i I' K'' s'' k0'' mk'' kb'' heq
        injection heq with e1 e2 e3 e4 e5 e6
        subst e1 e2 e3 e4 e5 e6
        injection ht with ht
        subst ht
        exact q_round h2
      · cases ht
    | _ => cases hl
  | _ => cases hl

/-! ### regions that draw -/
def drawM (m : Mch) (q : Nat) (t : Tr) (mk : List Nat) : Mch :=
  match m.foc with
  | .code (.region _ ops true) => ⟨.hw ops q t, m.K, m.s, m.s.loc.length, mk, m.kb⟩
  | _ => m
def drawOK (m : Mch) (q : Nat) (X : List Nat) (t : Tr) : Bool :=
  match m.foc with
  | .code (.region _ ops true) => drawB .any ops X q t
  | _ => false
theorem pq_QK {P : Program} (hQ : PQ Q) : ∀ K : List Fk, PQ (QK P Q K)
  | [] => hQ
  | .th _ :: K => pq_then (pq_QK hQ K)
  | .bl _ :: K => pq_block (pq_QK hQ K)
  | .lp _ :: K => pq_then (pq_QK hQ K)
theorem Mw (q : Nat) (X : List Nat) (t : Tr) (mk : List Nat) (R0 : List Res) (hm : C.P.follows .mixedOrders = true) {fn : Func} {R' : Ending → World → Prop} (J : JM C (bodyPost C.P fn R') R0 R (nx C (drawM m q t mk))) (hR : R0.Sublist R := by first | exact List.Sublist.refl _ | exact List.nil_sublist _) (h : drawOK m q X t = true := by kernel_rfl) : JM C (bodyPost C.P fn R') [] R m := by
  obtain ⟨foc, K, s, k0, mk0, kb⟩ := m
  unfold drawOK at h
  simp only at h
  split at h
  · rename_i id ops
    have h1 := nx_sound hR J
    have h2 : JH C ops (QK C.P (bodyPost C.P fn R') K) R0 (maskL (s.loc.take s.loc.length) mk) q t R s := h1
    rw [List.take_length] at h2
    have h3 : JC C (.region id ops.toList.toArray true) (QK C.P (bodyPost C.P fn R') K) R s := Cd q X t mk R0 hm (by simpa using h) (pq_QK pq_body K) hR (by simpa using h2)
    show JC C (.region id ops true) (QK C.P (bodyPost C.P fn R') K) R s
    simpa using h3
  · cases h
/-! ### the start and the end -/
def bodyOf (fn : Func) : Code :=
  match fn.body with
  | some c => c
  | none => .skip
def startM (fn : Func) (vs : List Value) : Mch := ⟨.code (bodyOf fn), [], ⟨envFrom 0 (vs.map .v), []⟩, 0, [], []⟩
theorem Mj {P : Program} {f : Nat} {fn : Func} {w : World} {R' : Ending → World → Prop} {vs : List Value} {m : List Nat} {R0 : List Res} (J : JM ⟨P, fn.ntmps, m, w⟩ (bodyPost P fn R') [] R0 (nx ⟨P, fn.ntmps, m, w⟩ (startM fn vs))) (hf : P.funcs[f]? = some fn) (hW : WS m w [] [] R0 w) (hb : (fn.body.isSome && Nat.ble vs.length fn.ntmps) = true := by kernel_rfl) : Calls P f vs.toArray w R' := by
  simp only [Bool.and_eq_true] at hb
  obtain ⟨c, hc⟩ := Option.isSome_iff_exists.1 hb.1
  refine Cj fn.ntmps m hf hc rfl [] [] R0 (vs.map .v) vs hb.2 (by simp [Function.comp_def, den]) hW ?_
  have h := nx_sound (List.nil_sublist _) J
  have h' : JC ⟨P, fn.ntmps, m, w⟩ (bodyOf fn) (bodyPost P fn R') R0 ⟨envFrom 0 (vs.map .v), []⟩ := h
  unfold bodyOf at h'
  rw [hc] at h'
  exact h'
theorem M0 {P : Program} {f : Nat} {fn : Func} {w : World} {R' : Ending → World → Prop} {vs : List Value} (J : JM ⟨P, fn.ntmps, [], w⟩ (bodyPost P fn R') [] [] (nx ⟨P, fn.ntmps, [], w⟩ (startM fn vs))) (hf : P.funcs[f]? = some fn) (hb : (fn.body.isSome && Nat.ble vs.length fn.ntmps) = true := by kernel_rfl) : Calls P f vs.toArray w R' := Mj J hf (WS.start w) hb
def retV (P : Program) (fn : Func) (m : Mch) : Option (List SV) :=
  match m with
  | ⟨.out .ret, [], s, _, _, _⟩ => resV P s fn.results.toList
  | ⟨.out .normal, [], s, _, _, _⟩ => resV P s fn.results.toList
  | _ => none
theorem Mt {fn : Func} {R' : Ending → World → Prop} (vs : List Value) (hR : ∀ bs w, WS C.m C.w0 bs m.s.loc R w → R' (.returned (retOf vs)) w) (h : retV C.P fn m = some (vs.map .v) := by kernel_rfl) : JM C (bodyPost C.P fn R') R0 R m := by
  obtain ⟨foc, K, s, k0, mk, kb⟩ := m
  have key : ∀ bs, (vs.map SV.v).map (den bs) = vs := fun bs => by simp [Function.comp_def, den]
  unfold retV at h
  split at h
  · rename_i s' k0' mk' kb' heq
    injection heq with e1 e2 e3 e4 e5 e6
    subst e1 e2 e3 e4 e5 e6
    exact Rt (.inl rfl) (vs.map .v) h fun bs w hS => by rw [key]; exact hR bs w hS
  · rename_i s' k0' mk' kb' heq
    injection heq with e1 e2 e3 e4 e5 e6
    subst e1 e2 e3 e4 e5 e6
    exact Rt (.inr rfl) (vs.map .v) h fun bs w hS => by rw [key]; exact hR bs w hS
  · cases h
theorem Me2 {fn : Func} {σ β : Type} {M : β × Int} {d : β} {k : Int} {A : σ → β} {V : σ → Value} {S : World → σ → Prop} (hm : M = (d, k)) (y : σ) (hA : A y = d) (hS : ∀ bs w, WS C.m C.w0 bs m.s.loc R w → S w y) (h : retV C.P fn m = some [.v (V y), vI k] := by kernel_rfl) : JM C (bodyPost C.P fn fun e w' => ∃ y, e = .returned (.tuple #[V y, .int .i64 M.2]) ∧ A y = M.1 ∧ S w' y) R0 R m := by
  subst hm
  exact Mt [V y, .int .i64 k] (fun bs w hS' => ⟨y, rfl, hA, hS bs w hS'⟩) h
/-- the end of a function that turns nothing, and answers a value -/
theorem Mtp {fn : Func} {X : Value} (v : Value) (hv : v = X) (h : retV C.P fn m = some [.v v] := by kernel_rfl) (hm : C.m = [] := by rfl) : JM C (bodyPost C.P fn fun e w' => e = .returned X ∧ Kp [] C.w0 w') R0 R m :=
  Mt [v] (fun bs w hS => ⟨by rw [← hv]; rfl, by rw [← hm]; exact hS.kp⟩) h
end
end Go.Proofs.YtbjakddkfgjkaaaGreat.Fw

namespace Go.Proofs.YtbjakddkfgjkaaaGreat.Fw
open Go.RowKit
section
variable {C : Cx} {Q : Exit → Act → World → Prop} {R0 R : List Res} {m : Mch}
theorem Does.as {o : Oper} {s : SS} {σ : Type} {val : σ → SV} {loc' : σ → List Blk} {R' : σ → List Res} {op : Op} (h : o.op = op) (hD : Does C ⟨o.dst, op, o.type, o.pos, o.after, o.guard⟩ R s val loc' R') : Does C o R s val loc' R' := by
  subst h; exact hD

/-! ### calls -/
def vCall (bs : List Nat) (o : Oper) (s : SS) : Option (Nat × List Value) :=
  match o.op with
  | .call ⟨.value f, args, _⟩ =>
    match ev s f, evs s args.toList with
    | some (.fn fid caps), some xs => some (fid, xs.map (den bs) ++ capVals bs caps)
    | some (.v (.func (.func fid) fs caps)), some xs => match fs.toList with
      | [] => some (fid, xs.map (den bs) ++ caps.toList)
      | _ => none
    | _, _ => none
  | _ => none
theorem m_call {σ : Type} {fid : Nat} {vs : List Nat → List Value} (val : σ → SV) (loc' : σ → List Blk) (R' : σ → List Res) (hcall : ∀ args w, (callFunc fid args).run C.P w = .ok (.enter fid args) w)
    (hc : ∀ bs w, WS C.m C.w0 bs m.s.loc R w → Calls C.P fid (vs bs).toArray w fun e w' => ∃ y, e = .returned (den bs (val y)) ∧ WS C.m C.w0 bs (loc' y) (R' y) w')
    (hJ : ∀ y, JM C Q R0 (R' y) (nx C (adv m (val y) (loc' y)))) (hL : ∀ y, locB m (loc' y) = locS m) (hR : ∀ y, R0.Sublist (R' y)) (hv : ∀ bs, vw C.n (vCall bs) m = some (fid, vs bs)) : JM C Q R0 R m := by
  have hv0 := hv []
  unfold vw at hv hv0
  split at hv0
  · rename_i o ho
    refine m_does val loc' R' (by rw [ho]; rfl) (fun o' ho' => ?_) hL hR hJ
    rw [ho] at ho'
    injection ho' with ho'
    subst ho'
    have hvo : ∀ bs, vCall bs o m.s = some (fid, vs bs) := fun bs => by have := hv bs; rw [ho] at this; exact this
    rintro bs a w ⟨hfr, hn, hS⟩ K Q' hK
    have h1 := hvo bs
    unfold vCall at h1
    unfold Oper.wp
    split at h1
    · rename_i f args ats hop
      have hrun : (execOp a.eval o).run C.P w = .ok (.enter fid (vs bs).toArray) w := by
        split at h1
        · rename_i fid' caps xs hf hx
          simp only [Option.some.injEq, Prod.mk.injEq] at h1
          obtain ⟨rfl, h1⟩ := h1
          have e1 := evs_sound hfr hx
          have e2 : args.map a.eval = (xs.map (den bs)).toArray := by
            rw [← e1]
            apply Array.ext'
            simp
          have e3 := ev_sound hfr hf
          simp only [den] at e3
          unfold execOp
          simp only [hop, resolve, Sem.run_bind, e3, Deferred.ofValue, e2, Sem.run_pure, Result.andThen_ok, invoke, hcall]
          rw [← h1]
          simp [capVals]
        · rename_i fid' fs caps xs hf hx
          split at h1
          · rename_i hfs
            simp only [Option.some.injEq, Prod.mk.injEq] at h1
            obtain ⟨rfl, h1⟩ := h1
            have hfs' : fs = #[] := Array.ext' hfs
            subst hfs'
            have e1 := evs_sound hfr hx
            have e2 : args.map a.eval = (xs.map (den bs)).toArray := by
              rw [← e1]
              apply Array.ext'
              simp
            have e3 := ev_sound hfr hf
            simp only [den] at e3
            unfold execOp
            simp only [hop, resolve, Sem.run_bind, e3, Deferred.ofValue, e2, Sem.run_pure, Result.andThen_ok, invoke, hcall]
            rw [← h1]
            simp
          · cases h1
        · cases h1
      rw [hrun]
      refine Calls.mono (hc bs w hS) fun e w' => ?_
      rintro ⟨y, rfl, h2⟩
      exact hK y w' h2
    · cases h1
  · cases hv0
/-- a call that answers a value, and turns nothing -/
theorem Mp {fid : Nat} {vs : List Nat → List Value} {v : Value} (J : JM C Q R0 R (nx C (adv0 m (.v v)))) (hcall : ∀ args w, (callFunc fid args).run C.P w = .ok (.enter fid args) w) (hc : ∀ bs w, WS C.m C.w0 bs m.s.loc R w → Calls C.P fid (vs bs).toArray w fun e w' => e = .returned v ∧ Kp [] w w') (hR : R0.Sublist R := by first | exact List.nil_sublist _ | exact List.Sublist.refl _) (hv : ∀ bs, vw C.n (vCall bs) m = some (fid, vs bs) := by intro bs; kernel_rfl) (hL : locB m m.s.loc = locS m := by kernel_rfl) : JM C Q R0 R m :=
  m_call (fun _ : Unit => .v v) (fun _ => m.s.loc) (fun _ => R) hcall (fun bs w hS => (hc bs w hS).mono fun _ _ h => ⟨(), h.1, hS.pure h.2⟩) (fun _ => J) (fun _ => hL) (fun _ => hR) hv
theorem Mf {σ : Type} {fid : Nat} {vs : List Nat → List Value} {v : σ → Value} {F : σ → Prop} {r : σ → Res} (J : ∀ y, F y → JM C Q R0 (r y :: R) (nx C (adv0 m (.v (v y))))) (hcall : ∀ args w, (callFunc fid args).run C.P w = .ok (.enter fid args) w) (hc : ∀ bs w, WS C.m C.w0 bs m.s.loc R w → Calls C.P fid (vs bs).toArray w fun e w' => ∃ y, e = .returned (v y) ∧ F y ∧ Kp [] w w' ∧ Fresh w w' (r y)) (hR : ∀ y, R0.Sublist (r y :: R) := by intros; first | exact List.nil_sublist _ | exact List.Sublist.cons _ (List.Sublist.refl _) | exact List.Sublist.refl _) (hv : ∀ bs, vw C.n (vCall bs) m = some (fid, vs bs) := by intro bs; kernel_rfl) (hL : locB m m.s.loc = locS m := by kernel_rfl) : JM C Q R0 R m :=
  m_call (σ := { y : σ // F y }) (fun y => .v (v y.1)) (fun _ => m.s.loc) (fun y => r y.1 :: R) hcall (fun bs w hS => (hc bs w hS).mono fun _ _ ⟨y, h1, h2, h3, h4⟩ => ⟨⟨y, h2⟩, h1, hS.fresh h3 (r y) h4.1 h4.2.1 h4.2.2⟩) (fun y => J y.1 y.2) (fun _ => hL) (fun y => hR y.1) hv
/-- .. something with slices that read -/
theorem Mu {σ : Type} [Rds σ] {fid : Nat} {vs : List Nat → List Value} {v : σ → Value} {F : σ → Prop} (J : ∀ fp y, F y → Rds.ok y → JM C Q R0 (subR fp y :: R) (nx C (adv0 m (.v (v y))))) (hcall : ∀ args w, (callFunc fid args).run C.P w = .ok (.enter fid args) w) (hc : ∀ bs w, WS C.m C.w0 bs m.s.loc R w → Calls C.P fid (vs bs).toArray w fun e w' => ∃ y, e = .returned (v y) ∧ F y ∧ FreshS w w' y) (hR : ∀ fp (y : σ), R0.Sublist (subR fp y :: R) := by intros; first | exact List.nil_sublist _ | exact List.Sublist.cons _ (List.Sublist.refl _) | exact List.Sublist.refl _) (hv : ∀ bs, vw C.n (vCall bs) m = some (fid, vs bs) := by intro bs; kernel_rfl) (hL : locB m m.s.loc = locS m := by kernel_rfl) : JM C Q R0 R m :=
  m_call (σ := { y : List Nat × σ // F y.2 ∧ Rds.ok y.2 }) (fun y => .v (v y.1.2)) (fun _ => m.s.loc) (fun y => subR y.1.1 y.1.2 :: R) hcall
    (fun bs w hS => (hc bs w hS).mono fun _ _ ⟨y, h1, h2, h3, fp, h4⟩ => ⟨⟨(fp, y), h2, Rds.okof h4.1⟩, h1, hS.fresh h3 (subR fp y) h4.1 h4.2.1 h4.2.2⟩) (fun y => J y.1.1 y.1.2 y.2.1 y.2.2) (fun _ => hL) (fun y => hR y.1.1 y.1.2) hv
/-- .. that turns the fact at the head -/
theorem Mtu {σ : Type} {fid : Nat} {vs : List Nat → List Value} {v : σ → Value} {F : σ → Prop} {r0 : Res} {r : σ → Res} (J : ∀ y, F y → JM C Q R0 (r y :: R) (nx C (adv0 m (.v (v y))))) (hcall : ∀ args w, (callFunc fid args).run C.P w = .ok (.enter fid args) w) (hc : ∀ bs w, WS C.m C.w0 bs m.s.loc (r0 :: R) w → Calls C.P fid (vs bs).toArray w fun e w' => ∃ y, e = .returned (v y) ∧ F y ∧ Turned r0 w w' (r y)) (hR : ∀ y, R0.Sublist (r y :: R) := by intros; first | exact List.nil_sublist _ | exact List.Sublist.cons _ (List.Sublist.refl _) | exact List.Sublist.refl _) (hv : ∀ bs, vw C.n (vCall bs) m = some (fid, vs bs) := by intro bs; kernel_rfl) (hL : locB m m.s.loc = locS m := by kernel_rfl) : JM C Q R0 (r0 :: R) m :=
  m_call (σ := { y : σ // F y }) (fun y => .v (v y.1)) (fun _ => m.s.loc) (fun y => r y.1 :: R) hcall (fun bs w hS => (hc bs w hS).mono fun _ _ ⟨y, h1, h2, h3⟩ => ⟨⟨y, h2⟩, h1, hS.turn h3.1 _ h3.2.1 h3.2.2.1 h3.2.2.2⟩) (fun y => J y.1 y.2) (fun _ => hL) (fun y => hR y.1) hv
theorem Mtu0 {fid : Nat} {vs : List Nat → List Value} {v : Value} {r0 r : Res} (J : Unit → True → JM C Q R0 (r :: R) (nx C (adv0 m (.v v)))) (hcall : ∀ args w, (callFunc fid args).run C.P w = .ok (.enter fid args) w) (hc : ∀ bs w, WS C.m C.w0 bs m.s.loc (r0 :: R) w → Calls C.P fid (vs bs).toArray w fun e w' => e = .returned v ∧ Turned r0 w w' r) (hR : R0.Sublist (r :: R) := by first | exact List.nil_sublist _ | exact List.Sublist.cons _ (List.Sublist.refl _) | exact List.Sublist.refl _) (hv : ∀ bs, vw C.n (vCall bs) m = some (fid, vs bs) := by intro bs; kernel_rfl) (hL : locB m m.s.loc = locS m := by kernel_rfl) : JM C Q R0 (r0 :: R) m :=
  Mtu (σ := Unit) (v := fun _ => v) (F := fun _ => True) (r := fun _ => r) J hcall (fun bs w h => (hc bs w h).mono fun e w' ⟨h1, h2⟩ => ⟨(), h1, trivial, h2⟩) (fun _ => hR) hv hL
theorem Mtk {σ : Type} {fid b ty : Nat} {vs : List Nat → List Value} {v : σ → Value} {F : σ → Prop} {cs0 : List Value} {cs : σ → List Value} (J : ∀ y, F y → JM C Q R0 (blkR b ty (cs y) :: R) (nx C (adv0 m (.v (v y))))) (hcall : ∀ args w, (callFunc fid args).run C.P w = .ok (.enter fid args) w) (hc : ∀ bs w, WS C.m C.w0 bs m.s.loc (blkR b ty cs0 :: R) w → Calls C.P fid (vs bs).toArray w fun e w' => ∃ y, e = .returned (v y) ∧ F y ∧ Kp [b] w w' ∧ (blkR b ty (cs y)).p w') (hR : ∀ y, R0.Sublist (blkR b ty (cs y) :: R) := by intros; first | exact List.nil_sublist _ | exact List.Sublist.cons _ (List.Sublist.refl _) | exact List.Sublist.refl _) (hv : ∀ bs, vw C.n (vCall bs) m = some (fid, vs bs) := by intro bs; kernel_rfl) (hL : locB m m.s.loc = locS m := by kernel_rfl) : JM C Q R0 (blkR b ty cs0 :: R) m :=
  Mtu J hcall (fun bs w h => (hc bs w h).mono fun e w' ⟨y, h1, h2, h3, h4⟩ => ⟨y, h1, h2, h3, h4, (by simp [blkR]), fun x hx => .inl hx⟩) hR hv hL
theorem Mtn {σ : Type} {fid : Nat} {vs : List Nat → List Value} {v : σ → Value} {F : σ → Prop} {r0 : Res} {r rn : σ → Res} (J : ∀ y, F y → JM C Q R0 (rn y :: r y :: R) (nx C (adv0 m (.v (v y))))) (hcall : ∀ args w, (callFunc fid args).run C.P w = .ok (.enter fid args) w) (hc : ∀ bs w, WS C.m C.w0 bs m.s.loc (r0 :: R) w → Calls C.P fid (vs bs).toArray w fun e w' => ∃ y, e = .returned (v y) ∧ F y ∧ TurnedN r0 w w' (r y) (rn y)) (hR : ∀ y, R0.Sublist (rn y :: r y :: R) := by intros; first | exact List.nil_sublist _ | exact List.Sublist.cons _ (List.Sublist.refl _) | exact List.Sublist.refl _) (hv : ∀ bs, vw C.n (vCall bs) m = some (fid, vs bs) := by intro bs; kernel_rfl) (hL : locB m m.s.loc = locS m := by kernel_rfl) : JM C Q R0 (r0 :: R) m :=
  m_call (σ := { y : σ // F y }) (fun y => .v (v y.1)) (fun _ => m.s.loc) (fun y => rn y.1 :: r y.1 :: R) hcall (fun bs w hS => (hc bs w hS).mono fun _ _ ⟨y, h1, h2, h3⟩ => ⟨⟨y, h2⟩, h1, hS.turnN h3⟩) (fun y => J y.1 y.2) (fun _ => hL) (fun y => hR y.1) hv
/-- .. that turns a block of ours -/
def setB (m : Mch) (i : Nat) (ty : Nat) (vs : List Value) : List Blk := m.s.loc.set i ⟨ty, vs.map .v⟩
def advB (m : Mch) (x : SV) (i ty : Nat) (vs : List Value) : Mch := adv m x (setB m i ty vs)
theorem blk_in {m : List Nat} {w0 : World} {bs : List Nat} {loc : List Blk} {R : List Res} {w : World} (hS : WS m w0 bs loc R w) {i ty : Nat} {vs : List Value} (hb : loc[i]? = some ⟨ty, vs.map .v⟩) (hne : vs.isEmpty = false) : (blkR (bs.getD i 0) ty vs).p w := by
  have h := hS.loc i _ hb (by cases vs <;> simp at hne ⊢)
  have e : (vs.map SV.v).map (den bs) = vs := by simp [Function.comp_def, den]
  rw [e] at h
  exact h
theorem blk_out {b ty : Nat} {vs : List Value} {w : World} (h : (blkR b ty vs).p w) (bs : List Nat) : w.heap[b]? = some (.cells ((vs.map SV.v).map (den bs)).toArray ty (0, 0)) := by
  have e : (vs.map SV.v).map (den bs) = vs := by simp [Function.comp_def, den]
  rw [e]
  exact h
theorem Mo {σ : Type} {fid : Nat} {vs : List Nat → List Value} {v : σ → Value} {F : σ → Prop} (i : Nat) {ty : Nat} {cs : List Value} {cs' : σ → List Value} (J : ∀ y, F y → JM C Q R0 R (nx C (advB m (.v (v y)) i ty (cs' y)))) (hcall : ∀ args w, (callFunc fid args).run C.P w = .ok (.enter fid args) w) (hc : ∀ bs w, WS C.m C.w0 bs m.s.loc R w → (blkR (bs.getD i 0) ty cs).p w → Calls C.P fid (vs bs).toArray w fun e w' => ∃ y, e = .returned (v y) ∧ F y ∧ Kp [bs.getD i 0] w w' ∧ (blkR (bs.getD i 0) ty (cs' y)).p w') (hR : R0.Sublist R := by first | exact List.nil_sublist _ | exact List.Sublist.refl _) (hv : ∀ bs, vw C.n (vCall bs) m = some (fid, vs bs) := by intro bs; kernel_rfl) (hb : (m.s.loc[i]?, cs.isEmpty) = (some ⟨ty, cs.map .v⟩, false) := by kernel_rfl) (hL : ∀ y, locB m (setB m i ty (cs' y)) = locS m := by intro y; kernel_rfl) : JM C Q R0 R m := by
  simp only [Prod.mk.injEq] at hb
  refine m_call (σ := { y : σ // F y }) (fun y => .v (v y.1)) (fun y => setB m i ty (cs' y.1)) (fun _ => R) hcall (fun bs w hS => (hc bs w hS (blk_in hS hb.1 hb.2)).mono fun _ _ ⟨y, h1, h2, h3, h4⟩ => ⟨⟨y, h2⟩, h1, ?_⟩) (fun y => J y.1 y.2) (fun y => hL y.1) (fun _ => hR) hv
  exact hS.blk i _ hb.1 _ h3 (blk_out h4 bs)
theorem Mon {σ : Type} {fid : Nat} {vs : List Nat → List Value} {v : σ → Value} {F : σ → Prop} (i : Nat) {ty : Nat} {cs : List Value} {cs' : σ → List Value} {r : σ → Res} (J : ∀ y, F y → JM C Q R0 (r y :: R) (nx C (advB m (.v (v y)) i ty (cs' y)))) (hcall : ∀ args w, (callFunc fid args).run C.P w = .ok (.enter fid args) w) (hc : ∀ bs w, WS C.m C.w0 bs m.s.loc R w → (blkR (bs.getD i 0) ty cs).p w → Calls C.P fid (vs bs).toArray w fun e w' => ∃ y, e = .returned (v y) ∧ F y ∧ TurnedN (blkR (bs.getD i 0) ty cs) w w' (blkR (bs.getD i 0) ty (cs' y)) (r y)) (hR : ∀ y, R0.Sublist (r y :: R) := by intros; first | exact List.nil_sublist _ | exact List.Sublist.cons _ (List.Sublist.refl _) | exact List.Sublist.refl _) (hv : ∀ bs, vw C.n (vCall bs) m = some (fid, vs bs) := by intro bs; kernel_rfl) (hb : (m.s.loc[i]?, cs.isEmpty) = (some ⟨ty, cs.map .v⟩, false) := by kernel_rfl) (hL : ∀ y, locB m (setB m i ty (cs' y)) = locS m := by intro y; kernel_rfl) : JM C Q R0 R m := by
  simp only [Prod.mk.injEq] at hb
  refine m_call (σ := { y : σ // F y }) (fun y => .v (v y.1)) (fun y => setB m i ty (cs' y.1)) (fun y => r y.1 :: R) hcall (fun bs w hS => (hc bs w hS (blk_in hS hb.1 hb.2)).mono fun _ _ ⟨y, h1, h2, h3⟩ => ⟨⟨y, h2⟩, h1, ?_⟩) (fun y => J y.1 y.2) (fun y => hL y.1) (fun y => hR y.1) hv
  obtain ⟨h4, h5, h6, h7, _⟩ := h3
  exact hS.blkNew i _ hb.1 _ h4.1 (blk_out h4.2.1 bs) _ ⟨h5, h6, h7⟩
/-- a function value that is no literal -/
def vCallV (o : Oper) (s : SS) : Option (Value × List SV) :=
  match o.op with
  | .call ⟨.value f, args, _⟩ =>
    match ev s f, evs s args.toList with
    | some (.v v), some xs => some (v, xs)
    | _, _ => none
  | _ => none
theorem Mv {fid : Nat} {caps : Array Value} {vs : List Value} {v : Value} (J : JM C Q R0 R (nx C (adv0 m (.v v)))) (hcall : ∀ args w, (callFunc fid args).run C.P w = .ok (.enter fid args) w) (hc : ∀ bs w, WS C.m C.w0 bs m.s.loc R w → Calls C.P fid (vs.toArray ++ caps) w fun e w' => e = .returned v ∧ Kp [] w w') (hR : R0.Sublist R := by first | exact List.nil_sublist _ | exact List.Sublist.refl _) (hv : vw C.n vCallV m = some (.func (.func fid) #[] caps, vs.map .v) := by kernel_rfl) (hL : locB m m.s.loc = locS m := by kernel_rfl) : JM C Q R0 R m := by
  refine m_eff (σ := Unit) vCallV _ hv (fun _ => .v v) (fun _ => m.s.loc) (fun _ => R) (fun o h => ?_) (fun _ => hL) (fun _ => hR) (fun _ => J)
  unfold vCallV at h
  split at h
  · rename_i f args ats hop
    split at h
    · rename_i fv xs hf hx
      simp only [Option.some.injEq, Prod.mk.injEq] at h
      obtain ⟨rfl, rfl⟩ := h
      refine Does.as hop ?_
      rintro bs a w ⟨hfr, hn, hS⟩ K Q' hK
      unfold Oper.wp
      have e1 := evs_sound hfr hx
      have e2 : args.map a.eval = vs.toArray := by
        apply Array.ext'
        rw [Array.toList_map, e1]
        simp [Function.comp_def, den]
      have e3 := ev_sound hfr hf
      simp only [den] at e3
      have hrun : (execOp a.eval ⟨o.dst, .call ⟨.value f, args, ats⟩, o.type, o.pos, o.after, o.guard⟩).run C.P w = .ok (.enter fid (vs.toArray ++ caps)) w := by
        unfold execOp
        simp only [resolve, Sem.run_bind, e3, Deferred.ofValue, e2, Sem.run_pure, Result.andThen_ok, invoke, hcall]
        simp
      rw [hrun]
      refine Calls.mono (hc bs w hS) fun e w' => ?_
      rintro ⟨rfl, hk⟩
      exact hK () w' (hS.pure hk)
    · cases h
  · cases h
/-- a function without a body -/
theorem Mx {fid : Nat} {vs : List Nat → List Value} {v : Value} (J : JM C Q R0 R (nx C (adv0 m (.v v)))) (hrun : ∀ bs w, WS C.m C.w0 bs m.s.loc R w → (callFunc fid (vs bs).toArray).run C.P w = .ok (.value v) w) (hR : R0.Sublist R := by first | exact List.nil_sublist _ | exact List.Sublist.refl _) (hv : ∀ bs, vw C.n (vCall bs) m = some (fid, vs bs) := by intro bs; kernel_rfl) (hL : locB m m.s.loc = locS m := by kernel_rfl) : JM C Q R0 R m := by
  have hv0 := hv []
  unfold vw at hv hv0
  split at hv0
  · rename_i o ho
    refine m_does (fun _ : Unit => .v v) (fun _ => m.s.loc) (fun _ => R) (by rw [ho]; rfl) (fun o' ho' => ?_) (fun _ => hL) (fun _ => hR) (fun _ => J)
    rw [ho] at ho'
    injection ho' with ho'
    subst ho'
    have hvo : ∀ bs, vCall bs o m.s = some (fid, vs bs) := fun bs => by have := hv bs; rw [ho] at this; exact this
    rintro bs a w ⟨hfr, hn, hS⟩ K Q' hK
    have h1 := hvo bs
    have h := hrun bs w hS
    unfold vCall at h1
    unfold Oper.wp
    split at h1
    · rename_i f args ats hop
      have hr : (execOp a.eval o).run C.P w = .ok (.value v) w := by
        split at h1
        · rename_i fid' caps xs hf hx
          simp only [Option.some.injEq, Prod.mk.injEq] at h1
          obtain ⟨rfl, h1⟩ := h1
          have e1 := evs_sound hfr hx
          have e2 : args.map a.eval = (xs.map (den bs)).toArray := by
            rw [← e1]
            apply Array.ext'
            simp
          have e3 := ev_sound hfr hf
          simp only [den] at e3
          unfold execOp
          simp only [hop, resolve, Sem.run_bind, e3, Deferred.ofValue, e2, Sem.run_pure, Result.andThen_ok, invoke]
          have h' : (callFunc fid' ((xs.map (den bs)).toArray ++ (caps.map fun c => Value.pointer (some (adr bs c.1 c.2))).toArray)).run C.P w = .ok (.value v) w := by
            rw [← h1] at h
            simpa [capVals] using h
          simpa using h'
        · rename_i fid' fs caps xs hf hx
          split at h1
          · rename_i hfs
            simp only [Option.some.injEq, Prod.mk.injEq] at h1
            obtain ⟨rfl, h1⟩ := h1
            have hfs' : fs = #[] := Array.ext' hfs
            subst hfs'
            have e1 := evs_sound hfr hx
            have e2 : args.map a.eval = (xs.map (den bs)).toArray := by
              rw [← e1]
              apply Array.ext'
              simp
            have e3 := ev_sound hfr hf
            simp only [den] at e3
            unfold execOp
            simp only [hop, resolve, Sem.run_bind, e3, Deferred.ofValue, e2, Sem.run_pure, Result.andThen_ok, invoke]
            have h' : (callFunc fid' ((xs.map (den bs)).toArray ++ caps)).run C.P w = .ok (.value v) w := by
              rw [← h1] at h
              have e9 : ((xs.map (den bs)) ++ caps.toList).toArray = (xs.map (den bs)).toArray ++ caps := by apply Array.ext'; simp
              rw [← e9]
              exact h
            simpa using h'
          · cases h1
        · cases h1
      rw [hr]
      exact hK () w hS
    · cases h1
  · cases hv0

/-! ### one operation on blocks of ours, that the machine does not do by itself -/
def oneM (P : Program) (n : Nat) (m : Mch) : Option Mch :=
  match m with
  | ⟨.ops all (o :: r), K, s, k0, mk, kb⟩ =>
    match stepO P n all s .no o with
    | some (s', [], []) => some ⟨.ops all r, K, s', k0, mk, kbStep kb all o⟩
    | _ => none
  | ⟨.hw all q (.b i r .z), K, s, k0, mk, kb⟩ =>
    match all[i]? with
    | some o => match oneLoc P n all q r K s k0 mk kb o with
      | some (m', [], []) => some m'
      | _ => none
    | none => none
  | _ => none
def oneG (C : Cx) (m : Mch) : Mch :=
  match oneM C.P C.n m with
  | some m' => m'
  | none => m
theorem M1 (J : JM C Q R0 R (nx C (oneG C m))) (hR : R0.Sublist R := by first | exact List.nil_sublist _ | exact List.Sublist.refl _) : JM C Q R0 R m := by
  have hJ' := nx_sound hR J
  unfold oneG at hJ'
  split at hJ'
  · rename_i m' h
    unfold oneM at h
    split at h
    · rename_i all o r K s k0 mk kb
      split at h
      · rename_i s' hst
        injection h with h
        subst h
        have hJ2 : JL C all (QK C.P Q K) R s' r := hJ'
        intro a w hs'
        exact wpList_step fun K' hK => stepO_sound C R all s s' _ o _ _ _ K' hst trivial (fun _ _ _ => trivial) (fun a w h => hK a w (hJ2 a w h)) a w hs'
      · cases h
    · rename_i all q i r K s k0 mk kb
      split at h
      · rename_i o hoi
        split at h
        · rename_i m2 h2
          injection h with h
          subst h
          exact oneLoc_sound hoi h2 hR hJ'
        · cases h
      · cases h
    · cases h
  · exact hJ'
end
end Go.Proofs.YtbjakddkfgjkaaaGreat.Fw

namespace Go.Proofs.YtbjakddkfgjkaaaGreat.Fw
open Go.RowKit
section
variable {C : Cx} {Q : Exit → Act → World → Prop} {R0 R : List Res} {m : Mch}
theorem arr2 {α : Type} {a : Array α} {x y : α} (h : a.toList = [x, y]) : a = #[x, y] := Array.ext' h
theorem arr1 {α : Type} {a : Array α} {x : α} (h : a.toList = [x]) : a = #[x] := Array.ext' h
/-- two values and the element's type of a builtin on slices -/
def vB2 (P : Program) (b : Builtin) (o : Oper) (s : SS) : Option (Nat × SV × SV) :=
  match o.op with
  | .call ⟨.builtin b', args, ats⟩ =>
    bif decide (b' = b) then
      match args.toList, ats.toList with
      | [X1, X2], [t, t2] =>
        match P.underlying t, ev s X1, ev s X2 with
        | some (.slice e), some x, some y => bif Nat.beq t t2 then some (e, x, y) else none
        | _, _, _ => none
      | _, _ => none
    else none
  | _ => none
theorem vB2_inv {P : Program} {b : Builtin} {o : Oper} {s : SS} {e : Nat} {x y : SV} (h : vB2 P b o s = some (e, x, y)) :
    ∃ X1 X2 t, o.op = .call ⟨.builtin b, #[X1, X2], #[t, t]⟩ ∧ P.underlying t = some (.slice e) ∧ ev s X1 = some x ∧ ev s X2 = some y := by
  unfold vB2 at h
  split at h
  · rename_i b' args ats hop
    by_cases hb : b' = b
    · subst hb
      simp only [decide_true, cond_true] at h
      split at h
      · rename_i X1 X2 t t2 ha ht
        split at h
        · rename_i e' x' y' hu h1 h2
          cases hbt : Nat.beq t t2 with
          | false => rw [hbt] at h; cases h
          | true =>
            rw [hbt] at h
            simp only [cond_true, Option.some.injEq, Prod.mk.injEq] at h
            obtain ⟨rfl, rfl, rfl⟩ := h
            have ett : t = t2 := Nat.eq_of_beq_eq_true hbt
            subst ett
            exact ⟨X1, X2, t, by rw [hop, arr2 ha, arr2 ht], hu, h1, h2⟩
        · cases h
      · cases h
    · simp only [hb, decide_false, cond_false] at h; cases h
  · cases h
/-- of a slice value: all but its room -/
def nocap : SV → Option (Option Addr × Nat)
  | .v (.slice A n _) => some (A, n)
  | _ => none
def vApp (P : Program) (o : Oper) (s : SS) : Option (Nat × SV × Option (Option Addr × Nat)) :=
  match vB2 P .append o s with
  | some (e, x, y) => some (e, x, nocap y)
  | none => none
/-- 'append(row, slice...)' -/
theorem Ma {α : Type} [Lay α] {e : Nat} {A A2 : Option Addr} {c n n2 : Nat} {L L2 : List α} (J : ∀ A' c', JM C Q R0 (rowA e A' c' (L ++ L2) :: R) (nx C (adv0 m (.v (.slice A' (L ++ L2).length c'))))) (bytes : Nat) (hsrc : ∀ bs w, WS C.m C.w0 bs m.s.loc (rowA e A c L :: R) w → SrcAt w A2 n2 (L2.flatMap Lay.cells)) (h63 : L.length + L2.length ≤ 9223372036854775807 := by first | omega | (simp only [List.length_nil, List.length_cons, List.length_append, List.length_take, List.length_drop, rIter_len]; omega)) (hb : (L.length + L2.length) * bytes ≤ 140737488355328 := by first | omega | (simp only [List.length_nil, List.length_cons, List.length_append, List.length_take, List.length_drop, rIter_len]; omega)) (hn : L.length = n := by rfl) (hn2 : L2.length = n2 := by rfl) (hR : ∀ A' c', R0.Sublist (rowA e A' c' (L ++ L2) :: R) := by intros; first | exact List.nil_sublist _ | exact List.Sublist.cons _ (List.Sublist.refl _) | exact List.Sublist.refl _) (hv : vw C.n (vApp C.P) m = some (e, .v (.slice A n c), some (A2, n2)) := by kernel_rfl) (hi : infoB C.P e (Lay.size α) bytes = true := by kernel_rfl) (hL : locB m m.s.loc = locS m := by kernel_rfl) : JM C Q R0 (rowA e A c L :: R) m := by
  subst hn hn2
  refine m_eff (σ := Option Addr × Nat) (vApp C.P) _ hv (fun y => .v (.slice y.1 (L ++ L2).length y.2)) (fun _ => m.s.loc) (fun y => rowA e y.1 y.2 (L ++ L2) :: R) (fun o h => ?_) (fun _ => hL) (fun y => hR y.1 y.2) fun y => J y.1 y.2
  unfold vApp at h
  split at h
  · rename_i e' x y h1
    simp only [Option.some.injEq, Prod.mk.injEq] at h
    obtain ⟨rfl, rfl, hy⟩ := h
    unfold nocap at hy
    split at hy
    · rename_i A2' n2' c2
      simp only [Option.some.injEq, Prod.mk.injEq] at hy
      obtain ⟨rfl, rfl⟩ := hy
      obtain ⟨X1, X2, t, hop, ht, hx1, hx2⟩ := vB2_inv h1
      exact Does.as hop (d_appendA e' bytes A c L _ L2 ht hi hx1 hx2 (fun bs w hS => ⟨A2', c2, rfl, hsrc bs w hS⟩) h63 hb)
    · cases hy
  · cases h
/-- .. the elements lie in a block of ours -/
def vAppL (P : Program) (o : Oper) (s : SS) : Option (Nat × SV × List Value × Nat) :=
  match vB2 P .append o s with
  | some (e, x, .s i off k _) =>
    match s.loc[i]? with
    | some b => match valsOf ((b.cs.drop off).take (k * P.cellsOf e)) with
      | some vs => some (e, x, vs, k)
      | none => none
    | none => none
  | _ => none
theorem Mal {α : Type} [Lay α] {e : Nat} {A : Option Addr} {c n : Nat} {L : List α} (bytes : Nat) (L2 : List α) (J : ∀ A' c', JM C Q R0 (rowA e A' c' (L ++ L2) :: R) (nx C (adv0 m (.v (.slice A' (L ++ L2).length c'))))) (h63 : L.length + L2.length ≤ 9223372036854775807 := by first | omega | (simp only [List.length_nil, List.length_cons, List.length_append, List.length_take, List.length_drop, rIter_len]; omega)) (hb : (L.length + L2.length) * bytes ≤ 140737488355328 := by first | omega | (simp only [List.length_nil, List.length_cons, List.length_append, List.length_take, List.length_drop, rIter_len]; omega)) (hn : L.length = n := by rfl) (hR : ∀ A' c', R0.Sublist (rowA e A' c' (L ++ L2) :: R) := by intros; first | exact List.nil_sublist _ | exact List.Sublist.cons _ (List.Sublist.refl _) | exact List.Sublist.refl _) (hv : vw C.n (vAppL C.P) m = some (e, .v (.slice A n c), L2.flatMap Lay.cells, L2.length) := by kernel_rfl) (hi : infoB C.P e (Lay.size α) bytes = true := by kernel_rfl) (hL : locB m m.s.loc = locS m := by kernel_rfl) : JM C Q R0 (rowA e A c L :: R) m := by
  subst hn
  refine m_eff (σ := Option Addr × Nat) (vAppL C.P) _ hv (fun y => .v (.slice y.1 (L ++ L2).length y.2)) (fun _ => m.s.loc) (fun y => rowA e y.1 y.2 (L ++ L2) :: R) (fun o h => ?_) (fun _ => hL) (fun y => hR y.1 y.2) fun y => J y.1 y.2
  unfold vAppL at h
  split at h
  · rename_i e' x i off k c2 h1
    split at h
    · rename_i b hb'
      split at h
      · rename_i vs hvs
        simp only [Option.some.injEq, Prod.mk.injEq] at h
        obtain ⟨rfl, rfl, rfl, rfl⟩ := h
        obtain ⟨X1, X2, t, hop, ht, hx1, hx2⟩ := vB2_inv h1
        refine Does.as hop (d_appendA e' bytes A c L _ L2 ht hi hx1 hx2 (fun bs w hS => ?_) h63 hb)
        obtain ⟨q1, q2, q3, q4⟩ := src_loc (i := i) (off := off) (k := L2.length) (c := c2) hS hb' hvs
        exact ⟨some q1, q2, q3, q4⟩
      · cases h
    · cases h
  · cases h
/-- 'append(row[:i], row[j:]...)' -/
theorem Mad {α : Type} [Lay α] {e : Nat} {A : Option Addr} {c : Nat} {L : List α} (bytes i j : Nat) (J : JM C Q R0 (rowA e A c (L.take i ++ L.drop j) :: R) (nx C (adv0 m (.v (.slice A (i + (L.length - j)) c))))) (hij : i ≤ j) (hj : j ≤ L.length) (hR : R0.Sublist (rowA e A c (L.take i ++ L.drop j) :: R) := by first | exact List.nil_sublist _ | exact List.Sublist.refl _) (hv : vw C.n (vB2 C.P .append) m = some (e, .v (.slice A i c), .v (.slice (offA A c j (Lay.size α)) (L.length - j) (c - j))) := by kernel_rfl) (hi : infoB C.P e (Lay.size α) bytes = true := by kernel_rfl) (hL : locB m m.s.loc = locS m := by kernel_rfl) : JM C Q R0 (rowA e A c L :: R) m := by
  refine m_eff (σ := Unit) (vB2 C.P .append) _ hv (fun _ => .v (.slice A (i + (L.length - j)) c)) (fun _ => m.s.loc) (fun _ => rowA e A c (L.take i ++ L.drop j) :: R) (fun o h => ?_) (fun _ => hL) (fun _ => hR) fun _ => J
  obtain ⟨X1, X2, t, hop, ht, hx1, hx2⟩ := vB2_inv h
  refine Does.as hop (d_builtin (σ := Unit) [.v (.slice A i c), .v (.slice (offA A c j (Lay.size α)) (L.length - j) (c - j))] _ _ _ (by simp [evs, hx1, hx2]) fun bs w cs hS => ?_)
  obtain ⟨w', h3, h4, h5⟩ := appdel_run (P := C.P) (t := t) (ty := o.type) ht hi (hS.res _ (.head _)) i j hij hj
  refine ⟨(), w', ?_, hS.turn h4 _ h5 (by cases A <;> simp [rowA, rowR]) (fun b hb => .inl hb)⟩
  show (builtin .append #[t, t] o.type cs #[Value.slice A i c, Value.slice (offA A c j (Lay.size α)) (L.length - j) (c - j)]).run C.P w = _
  simp only [builtin, Sem.run_bind, h3]
  rfl
/-- 'clear' of the end of a row -/
def vClr (P : Program) (o : Oper) (s : SS) : Option (Nat × SV) :=
  match o.op with
  | .call ⟨.builtin .clear, args, ats⟩ =>
    match args.toList, ats.toList with
    | [X], [t] =>
      match P.underlying t, ev s X with
      | some (.slice e), some x => some (e, x)
      | _, _ => none
    | _, _ => none
  | _ => none
theorem Mcl {α : Type} [Lay α] {e : Nat} {A : Option Addr} {c : Nat} {L : List α} (o q : Nat) (J : JM C Q R0 (rowA e A c (L.take o) :: R) (nx C (adv0 m (.v (.tuple #[]))))) (ho : o ≤ L.length) (hq : o + q ≤ c) (hR : R0.Sublist (rowA e A c (L.take o) :: R) := by first | exact List.nil_sublist _ | exact List.Sublist.refl _) (hv : vw C.n (vClr C.P) m = some (e, .v (.slice (offA A c o (Lay.size α)) q (c - o))) := by kernel_rfl) (hz : zeroB C.P e (Lay.size α) = true := by kernel_rfl) (hL : locB m m.s.loc = locS m := by kernel_rfl) : JM C Q R0 (rowA e A c L :: R) m := by
  refine m_eff (σ := Unit) (vClr C.P) _ hv (fun _ => .v (.tuple #[])) (fun _ => m.s.loc) (fun _ => rowA e A c (L.take o) :: R) (fun op h => ?_) (fun _ => hL) (fun _ => hR) fun _ => J
  unfold vClr at h
  split at h
  · rename_i args ats hop
    split at h
    · rename_i X t ha ht
      split at h
      · rename_i e' x hu hx
        simp only [Option.some.injEq, Prod.mk.injEq] at h
        obtain ⟨rfl, rfl⟩ := h
        rw [arr1 ha, arr1 ht] at hop
        refine Does.as hop (d_builtin (σ := Unit) [.v (.slice (offA A c o (Lay.size α)) q (c - o))] (fun _ => .v (.tuple #[])) (fun _ => m.s.loc) (fun _ => rowA e' A c (L.take o) :: R) (by simp [evs, hx]) fun bs w cs hS => ?_)
        obtain ⟨w', h1, h2, h3⟩ := clear_run (P := C.P) (t := t) (ty := op.type) hu hz (hS.res _ (.head _)) o q ho hq
        refine ⟨(), w', ?_, hS.turn h2 _ h3 (by cases A <;> simp [rowA, rowR]) (fun b hb => .inl hb)⟩
        show (builtin .clear #[t] op.type cs #[Value.slice (offA A c o (Lay.size α)) q (c - o)]).run C.P w = _
        simp only [builtin, Sem.run_bind, h1]
        rfl
      · cases h
    · cases h
  · cases h
/-- a store that is none of the machine's own -/
def vSto (P : Program) (o : Oper) (s : SS) : Option (Addr × List Value) :=
  match o.op with
  | .store T A X =>
    match ev s A, ev s X with
    | some (.v (.pointer (some ad))), some sx =>
      match cellsOfSV sx with
      | some cs => match valsOf cs with
        | some vs => bif Nat.beq vs.length (P.cellsOf T) && (!Nat.beq (P.cellsOf T) 0 && vs.all Value.oneCell') then some (ad, vs) else none
        | none => none
      | none => none
    | _, _ => none
  | _ => none
theorem vSto_inv {P : Program} {o : Oper} {s : SS} {ad : Addr} {vs : List Value} (h : vSto P o s = some (ad, vs)) :
    ∃ T A X sx, o.op = .store T A X ∧ ev s A = some (.v (.pointer (some ad))) ∧ ev s X = some sx ∧ (∀ bs, (den bs sx).cells.toList = vs) ∧ vs.length = P.cellsOf T ∧ P.cellsOf T ≠ 0 ∧ ∀ v, v ∈ vs → v.oneCell' = true := by
  unfold vSto at h
  split at h
  · rename_i T A X hop
    split at h
    · rename_i ad' sx hA hx
      split at h
      · rename_i cs hcs
        split at h
        · rename_i vs' hvs
          cases hb : Nat.beq vs'.length (P.cellsOf T) && (!Nat.beq (P.cellsOf T) 0 && vs'.all Value.oneCell') with
          | false => rw [hb] at h; cases h
          | true =>
            rw [hb] at h
            simp only [cond_true, Option.some.injEq, Prod.mk.injEq] at h
            obtain ⟨rfl, rfl⟩ := h
            simp only [Bool.and_eq_true, Bool.not_eq_true'] at hb
            refine ⟨T, A, X, sx, hop, hA, hx, fun bs => by rw [cellsOfSV_cells bs hcs, valsOf_sound bs hvs], Nat.eq_of_beq_eq_true hb.1, fun h0 => ?_, fun v hv => List.all_eq_true.1 hb.2.2 v hv⟩
            have := hb.2.1
            rw [h0] at this
            cases this
        · cases h
      · cases h
    · cases h
  · cases h
def stoVs (C : Cx) (m : Mch) : List Value :=
  match vw C.n (vSto C.P) m with
  | some (_, vs) => vs
  | none => []
def stoAd (C : Cx) (m : Mch) : Option Addr :=
  match vw C.n (vSto C.P) m with
  | some (ad, _) => some ad
  | none => none
theorem sto_view {ad : Addr} (h : stoAd C m = some ad) : vw C.n (vSto C.P) m = some (ad, stoVs C m) := by
  unfold stoAd at h
  unfold stoVs
  split at h
  · rename_i ad' vs h1
    injection h with h
    subst h
    rw [h1]
  · cases h
theorem d_stoA {α : Type} [Lay α] {e : Nat} {A : Option Addr} {c : Nat} {L : List α} {s : SS} {o : Oper} {vs : List Value} (i off : Nat) (x : α) (h : vSto C.P o s = some (((oad A).add (i * Lay.size α)).add off, vs)) (hi : i < L.length)
    (hoff : Nat.ble (off + vs.length) (Lay.size α) = true) (hcell : setAt (Lay.cells (L.getD i default)) off vs = Lay.cells x) :
    Does C o (rowA e A c L :: R) s (σ := Unit) (fun _ => .v undef) (fun _ => s.loc) (fun _ => rowA e A c (L.set i x) :: R) := by
  obtain ⟨T, Ao, X, sx, hop, hA, hx, hv, hT, hT0, hone⟩ := vSto_inv h
  refine Does.as hop (d_store _ sx (rowA e A c (L.set i x) :: R) hA hx fun bs w hS => ?_)
  obtain ⟨w', h1, h2, h3⟩ := row_store_run (P := C.P) (hS.res _ (.head _)) T i off (den bs sx) vs x hi (hv bs) hT hT0 hone (Nat.le_of_ble_eq_true hoff) hcell
  exact ⟨w', h1, hS.turn h2 _ h3 (by cases A <;> simp [rowA, rowR]) (fun b hb => .inl hb)⟩
/-- .. into an element of a row of ours -/
theorem Ms {α : Type} [Lay α] {e : Nat} {A : Option Addr} {c : Nat} {L : List α} (i off : Nat) {e0 : α} (x : α) (J : ∀ L2 : List α, L2 = L.set i x → L2.length = L.length → JM C Q R0 (rowA e A c L2 :: R) (nx C (adv0 m (.v undef)))) (hi : i < L.length) (hR : ∀ L2 : List α, R0.Sublist (rowA e A c L2 :: R) := by intros; first | exact List.nil_sublist _ | exact List.Sublist.cons _ (List.Sublist.refl _) | exact List.Sublist.refl _) (hv : stoAd C m = some (((oad A).add (i * Lay.size α)).add off) := by kernel_rfl) (hg : L.getD i default = e0 := by rfl) (hcell : setAt (Lay.cells e0) off (stoVs C m) = Lay.cells x := by kernel_rfl) (hoff : Nat.ble (off + (stoVs C m).length) (Lay.size α) = true := by kernel_rfl) (hL : locB m m.s.loc = locS m := by kernel_rfl) : JM C Q R0 (rowA e A c L :: R) m :=
  m_eff (σ := Unit) (vSto C.P) _ (sto_view hv) (fun _ => .v undef) (fun _ => m.s.loc) (fun _ => rowA e A c (L.set i x) :: R) (fun o h => d_stoA i off x h hi hoff (by rw [hg]; exact hcell)) (fun _ => hL) (fun _ => hR _) fun _ => J _ rfl (List.length_set ..)
theorem setAt_all {α : Type} {l vs : List α} (h : vs.length = l.length) : setAt l 0 vs = vs := by
  unfold setAt
  rw [List.take_zero, List.nil_append, Nat.zero_add, List.drop_eq_nil_of_le (by omega), List.append_nil]
/-- .. a whole element -/
theorem Mse {α : Type} [Lay α] {e : Nat} {A : Option Addr} {c : Nat} {L : List α} (i : Nat) (x : α) (J : ∀ L2 : List α, L2 = L.set i x → L2.length = L.length → JM C Q R0 (rowA e A c L2 :: R) (nx C (adv0 m (.v undef)))) (hi : i < L.length) (hR : ∀ L2 : List α, R0.Sublist (rowA e A c L2 :: R) := by intros; first | exact List.nil_sublist _ | exact List.Sublist.cons _ (List.Sublist.refl _) | exact List.Sublist.refl _) (hv : stoAd C m = some ((oad A).add (i * Lay.size α)) := by kernel_rfl) (hcell : stoVs C m = Lay.cells x := by kernel_rfl) (hL : locB m m.s.loc = locS m := by kernel_rfl) : JM C Q R0 (rowA e A c L :: R) m := by
  have hv' : stoAd C m = some (((oad A).add (i * Lay.size α)).add 0) := by rw [add_zero]; exact hv
  refine Ms i 0 x J hi hR hv' rfl ?_ ?_ hL
  · rw [hcell]; exact setAt_all (by rw [Lay.len, Lay.len])
  · rw [hcell, Lay.len, Nat.zero_add]; exact Nat.ble_eq_true_of_le (Nat.le_refl _)
theorem d_stoB {b ty : Nat} {vs us : List Value} {s : SS} {o : Oper} (off : Nat) (h : vSto C.P o s = some ((⟨b, 0, none⟩ : Addr).add off, us)) (hoff : Nat.ble (off + us.length) vs.length = true) :
    Does C o (blkR b ty vs :: R) s (σ := Unit) (fun _ => .v undef) (fun _ => s.loc) (fun _ => blkR b ty (setAt vs off us) :: R) := by
  obtain ⟨T, Ao, X, sx, hop, hA, hx, hv, hT, hT0, hone⟩ := vSto_inv h
  refine Does.as hop (d_store _ sx (blkR b ty (setAt vs off us) :: R) hA hx fun bs w hS => ?_)
  obtain ⟨w', h3, h4, h5⟩ := blkR_write (P := C.P) (hS.res _ (.head _)) off us hone (Nat.le_of_ble_eq_true hoff)
  refine ⟨w', ?_, hS.turn h4 _ h5 (by simp [blkR]) (fun x hx => .inl hx)⟩
  have hsz : (den bs sx).cells.size = C.P.cellsOf T := by rw [← Array.length_toList, hv, hT]
  rw [addr_at]
  simp only [storeVar, Sem.run_bind, sizeOf_run C.P T w (info_of_cells hT0), Result.andThen_ok, hsz, ne_eq, not_true_eq_false, if_false, hv]
  exact h3
/-- .. into a block of others -/
theorem Msb {b ty : Nat} {vs : List Value} (off : Nat) (vs2 : List Value) (J : JM C Q R0 (blkR b ty vs2 :: R) (nx C (adv0 m (.v undef)))) (hR : R0.Sublist (blkR b ty vs2 :: R) := by first | exact List.nil_sublist _ | exact List.Sublist.refl _) (hv : stoAd C m = some ((⟨b, 0, none⟩ : Addr).add off) := by kernel_rfl) (h2 : setAt vs off (stoVs C m) = vs2 := by kernel_rfl) (hoff : Nat.ble (off + (stoVs C m).length) vs.length = true := by kernel_rfl) (hL : locB m m.s.loc = locS m := by kernel_rfl) : JM C Q R0 (blkR b ty vs :: R) m := by
  subst h2
  exact m_eff (σ := Unit) (vSto C.P) _ (sto_view hv) (fun _ => .v undef) (fun _ => m.s.loc) (fun _ => blkR b ty (setAt vs off (stoVs C m)) :: R) (fun o h => d_stoB off h hoff) (fun _ => hL) (fun _ => hR) fun _ => J

/-! ### in a region that draws: the only one that may come up; less is known behind it -/
def opX (n : Nat) : Mch → Option Oper
  | ⟨.hw all _ (.x i _), _, s, _, _, kb⟩ =>
    match all[i]? with
    | some o => bif dstOK n o.dst && ready kb all o then (match gd all s o with | some true => some o | _ => none) else none
    | none => none
  | _ => none
/-- the same, as one of the others -/
def asB (m : Mch) : Mch :=
  match m with
  | ⟨.hw all q (.x i r), K, s, k0, mk, kb⟩ => ⟨.hw all q (.b i r .z), K, s, k0, mk, kb⟩
  | m => m
def advX (m : Mch) (x : SV) : Mch := adv (asB m) x m.s.loc
theorem m_doesX {σ : Type} (R1 : List Res) (val : σ → SV) (loc' : σ → List Blk) (R' : σ → List Res) (ho : (opX C.n m).isSome = true) (hD : ∀ o, opX C.n m = some o → Does C o R m.s val loc' R')
    (hL : ∀ y, locB m (loc' y) = locS m) (hR : ∀ y, R1.Sublist (R' y)) (hJ : ∀ y, JM C Q R1 (R' y) (nx C (adv (asB m) (val y) (loc' y)))) : JM C Q R0 R m := by
  obtain ⟨foc, K, s, k0, mk, kb⟩ := m
  have hJ' := fun y => nx_sound (hR y) (hJ y)
  unfold opX at ho hD
  split at ho
  · rename_i all q i r K s k0 mk kb heq
    injection heq with e1 e2 e3 e4 e5 e6
    subst e1 e2 e3 e4 e5 e6
    split at ho
    · rename_i o hoi
      cases hd : dstOK C.n o.dst && ready kb all o with
      | false => rw [hd] at ho; cases ho
      | true =>
        have hd1 := (Bool.and_eq_true _ _ ▸ hd : _ ∧ _).1
        rw [hd] at ho
        simp only [cond_true] at ho
        split at ho
        · rename_i hg
          refine h_change val loc' R' R1 (loc0 s.loc k0 mk) hoi hd1 hg (hD o (by simp only [hoi, hd, cond_true, hg])) (fun bs0 bs y w hp hl hS => ?_) fun y => ?_
          · have h1 := hL y
            simp only [locB, locS, Prod.mk.injEq] at h1
            exact hS.down0 hp hl h1.1 h1.2 (hR y)
          · have h1 := hL y
            simp only [locB, locS, Prod.mk.injEq] at h1
            have h2 := hJ' y
            simp only [asB, adv, hoi] at h2
            have h3 : JH C all (QK C.P Q K) R1 (loc0 (loc' y) k0 mk) q r (R' y) ⟨putE s.env o.dst (val y), loc' y⟩ := h2
            rw [h1.2] at h3
            exact h3
        · cases ho
    · cases ho
  · cases ho
def vwX {α : Type} (n : Nat) (v : Oper → SS → Option α) (m : Mch) : Option α :=
  match opX n m with
  | some o => v o m.s
  | none => none
theorem m_effX {α σ : Type} (R1 : List Res) (v : Oper → SS → Option α) (x : α) (hv : vwX C.n v m = some x) (val : σ → SV) (loc' : σ → List Blk) (R' : σ → List Res) (hD : ∀ o, v o m.s = some x → Does C o R m.s val loc' R')
    (hL : ∀ y, locB m (loc' y) = locS m) (hR : ∀ y, R1.Sublist (R' y)) (hJ : ∀ y, JM C Q R1 (R' y) (nx C (adv (asB m) (val y) (loc' y)))) : JM C Q R0 R m := by
  refine m_doesX R1 val loc' R' ?_ (fun o ho => hD o ?_) hL hR hJ
  · unfold vwX at hv
    split at hv
    · rename_i o ho; rw [ho]; rfl
    · cases hv
  · unfold vwX at hv
    rw [ho] at hv
    exact hv
def stoVsX (C : Cx) (m : Mch) : List Value :=
  match vwX C.n (vSto C.P) m with
  | some (_, vs) => vs
  | none => []
def stoAdX (C : Cx) (m : Mch) : Option Addr :=
  match vwX C.n (vSto C.P) m with
  | some (ad, _) => some ad
  | none => none
theorem sto_viewX {ad : Addr} (h : stoAdX C m = some ad) : vwX C.n (vSto C.P) m = some (ad, stoVsX C m) := by
  unfold stoAdX at h
  unfold stoVsX
  split at h
  · rename_i ad' vs h1
    injection h with h
    subst h
    rw [h1]
  · cases h
theorem MsX {α : Type} [Lay α] {e : Nat} {A : Option Addr} {c : Nat} {L : List α} (R1 : List Res) (i off : Nat) {e0 : α} (x : α) (J : ∀ L2 : List α, L2 = L.set i x → L2.length = L.length → JM C Q R1 (rowA e A c L2 :: R) (nx C (advX m (.v undef)))) (hi : i < L.length) (hR : ∀ L2 : List α, R1.Sublist (rowA e A c L2 :: R) := by intros; first | exact List.nil_sublist _ | exact List.Sublist.cons _ (List.Sublist.refl _) | exact List.Sublist.refl _) (hv : stoAdX C m = some (((oad A).add (i * Lay.size α)).add off) := by kernel_rfl) (hg : L.getD i default = e0 := by rfl) (hcell : setAt (Lay.cells e0) off (stoVsX C m) = Lay.cells x := by kernel_rfl) (hoff : Nat.ble (off + (stoVsX C m).length) (Lay.size α) = true := by kernel_rfl) (hL : locB m m.s.loc = locS m := by kernel_rfl) : JM C Q R0 (rowA e A c L :: R) m :=
  m_effX (σ := Unit) R1 (vSto C.P) _ (sto_viewX hv) (fun _ => .v undef) (fun _ => m.s.loc) (fun _ => rowA e A c (L.set i x) :: R) (fun o h => d_stoA i off x h hi hoff (by rw [hg]; exact hcell)) (fun _ => hL) (fun _ => hR _) fun _ => J _ rfl (List.length_set ..)
theorem MsbX {b ty : Nat} {vs : List Value} (R1 : List Res) (off : Nat) (vs2 : List Value) (J : JM C Q R1 (blkR b ty vs2 :: R) (nx C (advX m (.v undef)))) (hR : R1.Sublist (blkR b ty vs2 :: R) := by first | exact List.nil_sublist _ | exact List.Sublist.refl _) (hv : stoAdX C m = some ((⟨b, 0, none⟩ : Addr).add off) := by kernel_rfl) (h2 : setAt vs off (stoVsX C m) = vs2 := by kernel_rfl) (hoff : Nat.ble (off + (stoVsX C m).length) vs.length = true := by kernel_rfl) (hL : locB m m.s.loc = locS m := by kernel_rfl) : JM C Q R0 (blkR b ty vs :: R) m := by
  subst h2
  exact m_effX (σ := Unit) R1 (vSto C.P) _ (sto_viewX hv) (fun _ => .v undef) (fun _ => m.s.loc) (fun _ => blkR b ty (setAt vs off (stoVsX C m)) :: R) (fun o h => d_stoB off h hoff) (fun _ => hL) (fun _ => hR) fun _ => J
end
end Go.Proofs.YtbjakddkfgjkaaaGreat.Fw

namespace Go.Proofs.YtbjakddkfgjkaaaGreat.Fw
open Go.RowKit
theorem d_appzeros {α : Type} [Lay α] {C : Cx} {R : List Res} {s : SS} {d : Option Nat} {ty : Nat} {pos : String} {aft : Array Edge} {g0 : Option (Nat × Bool)} {X1 X2 : Operand} {t tn : Nat} (e bytes : Nat) (A : Option Addr) (c : Nat) (L : List α) (i k : Nat) (ik : Int)
    (ht : C.P.underlying t = some (.slice e)) (htn : C.P.underlying tn = some (.int .i64)) (hi : infoB C.P e (Lay.size α) bytes = true)
    (h1 : ev s X1 = some (.v (.slice A i c))) (h2 : ev s X2 = some (.v (.int .i64 ik))) (hk : ik = (k : Int)) (h0 : 0 < k) (hil : i ≤ L.length) (hgr : c < i + k) (h63 : i + k ≤ 1048577) (hby : bytes ≤ 1048576) :
    Does C ⟨d, .call ⟨.builtin .append, #[X1, X2], #[t, tn]⟩, ty, pos, aft, g0⟩ (rowA e A c L :: R) s (σ := { y : Nat × Nat × List Value // i + k ≤ y.2.1 ∧ y.2.1 ≤ 9223372036854775807 ∧ ((L.take i).flatMap Lay.cells ++ y.2.2).length = y.2.1 * Lay.size α }) (fun y => .v (.slice (some ⟨y.1.1, 0, none⟩) (i + k) y.1.2.1)) (fun _ => s.loc) (fun y => rawR e (Lay.size α) y.1.1 y.1.2.1 ((L.take i).flatMap Lay.cells ++ y.1.2.2) :: rowA e A c L :: R) := by
  subst hk
  refine d_builtin (σ := { y : Nat × Nat × List Value // i + k ≤ y.2.1 ∧ y.2.1 ≤ 9223372036854775807 ∧ ((L.take i).flatMap Lay.cells ++ y.2.2).length = y.2.1 * Lay.size α }) [.v (.slice A i c), .v (.int .i64 (k : Int))] _ _ _ (by simp [evs, h1, h2]) fun bs w cs hS => ?_
  have hi' := hi
  unfold infoB at hi
  split at hi
  case h_2 => cases hi
  rename_i ii hinfo
  simp only [Bool.and_eq_true] at hi
  obtain ⟨⟨hi1, hi2⟩, hi3⟩ := hi
  split at hi3
  case h_2 => cases hi3
  rename_i z hz
  have e1 : ii.size = Lay.size α := Nat.eq_of_beq_eq_true hi1
  have e2 : ii.bytes = bytes := Nat.eq_of_beq_eq_true hi2
  have e3 : z.cells.size = Lay.size α := Nat.eq_of_beq_eq_true hi3
  have hol : ((L.take i).flatMap Lay.cells).length = i * Lay.size α := by rw [flat_len, List.length_take, Nat.min_eq_left hil]
  have hsrc : SrcAt w.drew A i ((L.take i).flatMap Lay.cells) := SrcAt.takeL (rowA_src (hS.pure (Kp.drawn [] w _) |>.res _ (.head _))) hil
  have hmul : (i + k) * bytes ≤ 1048577 * 1048576 := Nat.mul_le_mul h63 hby
  have hb1 : (i + k) * bytes ≤ 140737488355328 := Nat.le_trans hmul (by decide)
  have hb2 : k * bytes ≤ 281474976710656 := Nat.le_trans (Nat.mul_le_mul_right _ (Nat.le_add_left k i)) (Nat.le_trans hb1 (by decide))
  have hrun := Go.Lib.run_append_grow_zeros (P := C.P) w t tn ty e ii z .i64 .i64 ht htn hinfo hz A i c ((L.take i).flatMap Lay.cells) (by rw [e1]; exact srcAt_first hsrc hol) k h0 (by rw [e1]; exact Lay.pos) hgr (by omega) (by rw [e2]; exact hb2) (by rw [e2]; exact growslice_fits hgr hb1)
  have hG1 : i + k ≤ grownCap w (i + k) c e := grownCap_ge w _ _ _
  have hG2 : grownCap w (i + k) c e ≤ maxLen := grownCap_le_maxLen w _ _ _ (by unfold maxLen; omega)
  have hzl : ∀ n, (Builtin.zeroCells z.cells n).size = n * Lay.size α := fun n => by simp [Builtin.zeroCells, e3]
  have hlen : ((L.take i).flatMap Lay.cells ++ (Builtin.zeroCells z.cells k ++ Builtin.zeroCells z.cells (grownCap w (i + k) c e - (i + k))).toList).length = grownCap w (i + k) c e * Lay.size α := by
    rw [List.length_append, hol, Array.length_toList, Array.size_append, hzl, hzl, ← Nat.add_mul, ← Nat.add_mul]
    congr 1
    omega
  refine ⟨⟨(w.heap.size, grownCap w (i + k) c e, (Builtin.zeroCells z.cells k ++ Builtin.zeroCells z.cells (grownCap w (i + k) c e - (i + k))).toList), hG1, by unfold maxLen at hG2; omega, hlen⟩, w.drew.alloc (.cells (((L.take i).flatMap Lay.cells).toArray ++ Builtin.zeroCells z.cells k ++ Builtin.zeroCells z.cells (grownCap w (i + k) c e - (i + k))) e), ?_, hS.fresh ((Kp.drawn [] w _).trans (Kp.alloc _ _)) _ ⟨?_, hlen, hG2⟩ (by simp [rawR]) ?_⟩
  · show (builtin .append #[t, tn] ty cs #[Value.slice A i c, .int .i64 (k : Int)]).run C.P w = _
    simp only [builtin, Sem.run_bind, hrun]
    rfl
  · have h9 := heap_alloc_new w.drew (.cells (((L.take i).flatMap Lay.cells).toArray ++ Builtin.zeroCells z.cells k ++ Builtin.zeroCells z.cells (grownCap w (i + k) c e - (i + k))) e)
    have e9 : (((L.take i).flatMap Lay.cells ++ (Builtin.zeroCells z.cells k ++ Builtin.zeroCells z.cells (grownCap w (i + k) c e - (i + k))).toList).toArray) = ((L.take i).flatMap Lay.cells).toArray ++ Builtin.zeroCells z.cells k ++ Builtin.zeroCells z.cells (grownCap w (i + k) c e - (i + k)) := by
      apply Array.ext'
      simp
    rw [e9]
    exact h9
  · intro b hb
    have hb' : b = w.heap.size := by simpa [rawR] using hb
    subst hb'
    exact ⟨Nat.le_refl _, by have h8 := (Kp.alloc w.drew (.cells (((L.take i).flatMap Lay.cells).toArray ++ Builtin.zeroCells z.cells k ++ Builtin.zeroCells z.cells (grownCap w (i + k) c e - (i + k))) e)); show w.heap.size < _; simp [World.alloc]⟩
section
variable {C : Cx} {Q : Exit → Act → World → Prop} {R0 R : List Res} {m : Mch}
/-- 'copy(d, s)' onto a raw block of ours -/
def vCpy (P : Program) (o : Oper) (s : SS) : Option (Nat × Option (Option Addr × Nat) × Option (Option Addr × Nat)) :=
  match o.op with
  | .call ⟨.builtin .copy, args, ats⟩ =>
    match args.toList, ats.toList with
    | [X1, X2], [t, _] =>
      match P.underlying t, ev s X1, ev s X2 with
      | some (.slice e), some x, some y => some (e, nocap x, nocap y)
      | _, _, _ => none
    | _, _ => none
  | _ => none
theorem nocap_inv {x : SV} {A : Option Addr} {n : Nat} (h : nocap x = some (A, n)) : ∃ c, x = .v (.slice A n c) := by
  unfold nocap at h
  split at h
  · rename_i c
    simp only [Option.some.injEq, Prod.mk.injEq] at h
    obtain ⟨rfl, rfl⟩ := h
    exact ⟨c, rfl⟩
  · cases h
theorem Mcp {e size g c : Nat} {cur : List Value} {A1 A2 : Option Addr} {n1 k q : Nat} {vs : List Value} (bytes o : Nat) (J : JM C Q R0 (rawR e size g c (setAt cur o vs) :: R) (nx C (adv0 m (.v (goInt q))))) (hA1 : A1 = some ⟨g, o, none⟩) (hq : Nat.min k n1 = q) (hsrc : ∀ bs w, WS C.m C.w0 bs m.s.loc (rawR e size g c cur :: R) w → SrcAt w A2 q vs) (hl : vs.length = q * size) (hone : vs.all Value.oneCell' = true) (hfit : o + vs.length ≤ cur.length) (hR : R0.Sublist (rawR e size g c (setAt cur o vs) :: R) := by first | exact List.nil_sublist _ | exact List.Sublist.refl _) (hv : vw C.n (vCpy C.P) m = some (e, some (A1, n1), some (A2, k)) := by kernel_rfl) (hi : infoB C.P e size bytes = true := by kernel_rfl) (hL : locB m m.s.loc = locS m := by kernel_rfl) : JM C Q R0 (rawR e size g c cur :: R) m := by
  subst hA1 hq
  refine m_eff (σ := Unit) (vCpy C.P) _ hv (fun _ => .v (goInt (Nat.min k n1))) (fun _ => m.s.loc) (fun _ => rawR e size g c (setAt cur o vs) :: R) (fun op h => ?_) (fun _ => hL) (fun _ => hR) fun _ => J
  unfold vCpy at h
  split at h
  · rename_i args ats hop
    split at h
    · rename_i X1 X2 t t2 ha ht
      split at h
      · rename_i e' x y hu hx hy
        simp only [Option.some.injEq, Prod.mk.injEq] at h
        obtain ⟨rfl, h1, h2⟩ := h
        obtain ⟨c1, rfl⟩ := nocap_inv h1
        obtain ⟨c2, rfl⟩ := nocap_inv h2
        rw [arr2 ha, arr2 ht] at hop
        refine Does.as hop (d_builtin (σ := Unit) [.v (.slice (some ⟨g, o, none⟩) n1 c1), .v (.slice A2 k c2)] _ _ _ (by simp [evs, hx, hy]) fun bs w cs hS => ?_)
        obtain ⟨h3, h4⟩ := infoB_cells hi
        obtain ⟨w', h5, h6, h7⟩ := copy_run (P := C.P) (t2 := t2) (ty := op.type) (hS.res _ (.head _)) hu h3 h4 o n1 c1 A2 k c2 vs (hsrc bs w hS) hl (fun v hv => List.all_eq_true.1 hone v hv) hfit
        refine ⟨(), w', ?_, hS.turn h6 _ h7 (by simp [rawR]) (fun b hb => .inl hb)⟩
        show (builtin .copy #[t, t2] op.type cs #[Value.slice (some ⟨g, o, none⟩) n1 c1, .slice A2 k c2]).run C.P w = _
        simp only [builtin, Sem.run_bind, h5]
        rfl
      · cases h
    · cases h
  · cases h
/-- 'append(row[:i], make(S, k)...)' that grows -/
def vApz (P : Program) (o : Oper) (s : SS) : Option (Nat × Nat × Nat × SV × SV) :=
  match o.op with
  | .call ⟨.builtin .append, args, ats⟩ =>
    match args.toList, ats.toList with
    | [X1, X2], [t, tn] =>
      match P.underlying t, P.underlying tn, ev s X1, ev s X2 with
      | some (.slice e), some (.int .i64), some x, some y => some (e, t, tn, x, y)
      | _, _, _, _ => none
    | _, _ => none
  | _ => none
theorem Mapz {α : Type} [Lay α] {e : Nat} {A : Option Addr} {c : Nat} {L : List α} (t tn bytes i k : Nat) (J : ∀ g2 c2 zs, i + k ≤ c2 → c2 ≤ 9223372036854775807 → ((L.take i).flatMap Lay.cells ++ zs).length = c2 * Lay.size α → JM C Q R0 (rawR e (Lay.size α) g2 c2 ((L.take i).flatMap Lay.cells ++ zs) :: rowA e A c L :: R) (nx C (adv0 m (.v (.slice (some ⟨g2, 0, none⟩) (i + k) c2))))) (ik : Int) (hk : ik = (k : Int)) (h0 : 0 < k) (hil : i ≤ L.length) (hgr : c < i + k) (h63 : i + k ≤ 1048577) (hby : bytes ≤ 1048576) (hR : ∀ r : Res, R0.Sublist (r :: rowA e A c L :: R) := by intros; first | exact List.nil_sublist _ | exact List.Sublist.cons _ (List.Sublist.refl _) | exact List.Sublist.refl _) (hv : vw C.n (vApz C.P) m = some (e, t, tn, .v (.slice A i c), vI ik) := by kernel_rfl) (hi : infoB C.P e (Lay.size α) bytes = true := by kernel_rfl) (hL : locB m m.s.loc = locS m := by kernel_rfl) : JM C Q R0 (rowA e A c L :: R) m := by
  refine m_eff (σ := { y : Nat × Nat × List Value // i + k ≤ y.2.1 ∧ y.2.1 ≤ 9223372036854775807 ∧ ((L.take i).flatMap Lay.cells ++ y.2.2).length = y.2.1 * Lay.size α }) (vApz C.P) _ hv (fun y => .v (.slice (some ⟨y.1.1, 0, none⟩) (i + k) y.1.2.1)) (fun _ => m.s.loc) (fun y => rawR e (Lay.size α) y.1.1 y.1.2.1 ((L.take i).flatMap Lay.cells ++ y.1.2.2) :: rowA e A c L :: R) (fun op h => ?_) (fun _ => hL) (fun y => hR _) fun y => J y.1.1 y.1.2.1 y.1.2.2 y.2.1 y.2.2.1 y.2.2.2
  unfold vApz at h
  split at h
  · rename_i args ats hop
    split at h
    · rename_i X1 X2 t' tn' ha ht
      split at h
      · rename_i e' x y hu hun hx hy
        simp only [Option.some.injEq, Prod.mk.injEq] at h
        obtain ⟨rfl, rfl, rfl, rfl, rfl⟩ := h
        rw [arr2 ha, arr2 ht] at hop
        refine Does.as hop ?_
        -- the elder rule, with a rest that is nothing
        rintro bs a w hsat K Q' hK
        have hd : Does C ⟨op.dst, .call ⟨.builtin .append, #[X1, X2], #[t', tn']⟩, op.type, op.pos, op.after, op.guard⟩ (rowA e' A c L :: R) m.s (σ := { y : Nat × Nat × List Value // i + k ≤ y.2.1 ∧ y.2.1 ≤ 9223372036854775807 ∧ ((L.take i).flatMap Lay.cells ++ y.2.2).length = y.2.1 * Lay.size α }) (fun y => .v (.slice (some ⟨y.1.1, 0, none⟩) (i + k) y.1.2.1)) (fun _ => m.s.loc) (fun y => rawR e' (Lay.size α) y.1.1 y.1.2.1 ((L.take i).flatMap Lay.cells ++ y.1.2.2) :: rowA e' A c L :: R) :=
          d_appzeros e' bytes A c L i k ik hu hun hi hx hy hk h0 hil hgr h63 hby
        exact hd bs a w hsat K Q' hK
      · cases h
    · cases h
  · cases h
/-- 's[l:h:m]' -/
def vSl3 (P : Program) (o : Oper) (s : SS) : Option (Nat × SV × SV × SV × SV) :=
  match o.op with
  | .slice T X (some Lo) (some Hi) (some Mx) =>
    match P.underlying T, ev s X, ev s Lo, ev s Hi, ev s Mx with
    | some (.slice e), some x, some lo, some hi, some mx => bif Nat.beq (P.cellsOf e) 0 then none else some (e, x, lo, hi, mx)
    | _, _, _, _, _ => none
  | _ => none
theorem Ms3 {e : Nat} {A : Option Addr} {n c : Nat} (l h mx : Nat) (J : JM C Q R0 R (nx C (adv0 m (.v (.slice (if mx = l then A else A.map (·.add (l * C.P.cellsOf e))) (h - l) (mx - l)))))) {il ih im : Int} (el : il = (l : Int)) (eh : ih = (h : Int)) (em : im = (mx : Int)) (h1 : l ≤ h) (h2 : h ≤ mx) (h3 : mx ≤ c) (hR : R0.Sublist R := by first | exact List.nil_sublist _ | exact List.Sublist.refl _) (hv : vw C.n (vSl3 C.P) m = some (e, .v (.slice A n c), vI il, vI ih, vI im) := by kernel_rfl) (hL : locB m m.s.loc = locS m := by kernel_rfl) : JM C Q R0 R m := by
  subst el eh em
  refine m_eff (σ := Unit) (vSl3 C.P) _ hv (fun _ => .v (.slice (if mx = l then A else A.map (·.add (l * C.P.cellsOf e))) (h - l) (mx - l))) (fun _ => m.s.loc) (fun _ => R) (fun op hh => ?_) (fun _ => hL) (fun _ => hR) fun _ => J
  unfold vSl3 at hh
  split at hh
  · rename_i T X Lo Hi Mx hop
    split at hh
    · rename_i e' x lo hi mx' ht hx hlo hhi hmx
      cases hc : Nat.beq (C.P.cellsOf e') 0 with
      | true => rw [hc] at hh; cases hh
      | false =>
        rw [hc] at hh
        simp only [cond_false, Option.some.injEq, Prod.mk.injEq] at hh
        obtain ⟨rfl, rfl, rfl, rfl, rfl⟩ := hh
        refine Does.as hop ?_
        rintro bs a w ⟨hfr, hn, hS⟩ K Q' hK
        have hc' : C.P.cellsOf e' ≠ 0 := fun h => by rw [h] at hc; cases hc
        have hrun : (execOp a.eval ⟨op.dst, .slice T X (some Lo) (some Hi) (some Mx), op.type, op.pos, op.after, op.guard⟩).run C.P w = .ok (.value (.slice (if mx = l then A else A.map (·.add (l * C.P.cellsOf e'))) (h - l) (mx - l))) w := by
          unfold execOp
          simp [ev_sound hfr hx, ev_sound hfr hlo, ev_sound hfr hhi, ev_sound hfr hmx, den, Instr.sliceAt, run_underlying ht, Instr.slice, Instr.sliceBounds, Instr.sliceBound, asIntOf, sizeOf_run C.P e' w (info_of_cells hc'), h1, h2, h3]
        exact Oper.wp_value hrun (hK () w hS)
    · cases hh
  · cases hh
/-- 'string(b)', '[]byte(s)' -/
def vCnv (P : Program) (o : Oper) (s : SS) : Option (TypeDesc × TypeDesc × SV) :=
  match o.op with
  | .convert S D X =>
    match P.underlying S, P.underlying D, ev s X with
    | some a, some b, some x => some (a, b, x)
    | _, _, _ => none
  | _ => none
theorem vCnv_inv {P : Program} {o : Oper} {s : SS} {a b : TypeDesc} {x : SV} (h : vCnv P o s = some (a, b, x)) : ∃ S D X, o.op = .convert S D X ∧ P.underlying S = some a ∧ P.underlying D = some b ∧ ev s X = some x := by
  unfold vCnv at h
  split at h
  · rename_i S D X hop
    split at h
    · rename_i a' b' x' h1 h2 h3
      simp only [Option.some.injEq, Prod.mk.injEq] at h
      obtain ⟨rfl, rfl, rfl⟩ := h
      exact ⟨S, D, X, hop, h1, h2, h3⟩
    · cases h
  · cases h
/-- .. in a block of ours -/
def vCnL (P : Program) (o : Oper) (s : SS) : Option (Nat × TypeDesc × Nat × List Value) :=
  match vCnv P o s with
  | some (.slice e, b, .s i off k _) =>
    match s.loc[i]? with
    | some bl => match valsOf ((bl.cs.drop off).take k) with
      | some vs => some (e, b, k, vs)
      | none => none
    | none => none
  | _ => none
theorem Mstl {eS : Nat} (ns : List Int) (J : JM C Q R0 R (nx C (adv0 m (.v (.string (bstr ns)))))) (hR : R0.Sublist R := by first | exact List.nil_sublist _ | exact List.Sublist.refl _) (hv : vw C.n (vCnL C.P) m = some (eS, .string, ns.length, ns.map (Value.int .u8)) := by kernel_rfl) (he : C.P.underlying eS = some (.int .u8) := by kernel_rfl) (hL : locB m m.s.loc = locS m := by kernel_rfl) : JM C Q R0 R m := by
  refine m_eff (σ := Unit) (vCnL C.P) _ hv (fun _ => .v (.string (bstr ns))) (fun _ => m.s.loc) (fun _ => R) (fun op h => ?_) (fun _ => hL) (fun _ => hR) fun _ => J
  unfold vCnL at h
  split at h
  · rename_i e b i off k c h1
    split at h
    · rename_i bl hb
      split at h
      · rename_i vs hvs
        simp only [Option.some.injEq, Prod.mk.injEq] at h
        obtain ⟨rfl, rfl, rfl, rfl⟩ := h
        obtain ⟨S, D, X, hop, hS, hD, hx⟩ := vCnv_inv h1
        refine Does.as hop (d_convert (σ := Unit) _ _ _ _ hx fun bs w hS' => ?_)
        obtain ⟨q1, q2, q3, q4⟩ := src_loc (i := i) (off := off) (k := ns.length) (c := c) hS' hb hvs
        exact ⟨(), w, by rw [q3]; exact bytes_string_run S D e q1 _ q2 ns hS he hD rfl q4, hS'⟩
      · cases h
    · cases h
  · cases h
theorem Msy {e : Nat} {str : ByteArray} (J : ∀ fp (y : Sl UInt8), y.xs = str.data.toList → Rds.ok y → JM C Q R0 (subR fp y :: R) (nx C (adv0 m (.v y.val)))) (hlen : str.size ≤ maxLen) (hR : ∀ fp (y : Sl UInt8), R0.Sublist (subR fp y :: R) := by intros; first | exact List.nil_sublist _ | exact List.Sublist.cons _ (List.Sublist.refl _) | exact List.Sublist.refl _) (hv : vw C.n (vCnv C.P) m = some (.string, .slice e, vS str) := by kernel_rfl) (he : C.P.underlying e = some (.int .u8) := by kernel_rfl) (hL : locB m m.s.loc = locS m := by kernel_rfl) : JM C Q R0 R m := by
  refine m_eff (σ := { y : List Nat × Sl UInt8 // y.2.xs = str.data.toList ∧ Rds.ok y.2 }) (vCnv C.P) _ hv (fun y => .v y.1.2.val) (fun _ => m.s.loc) (fun y => subR y.1.1 y.1.2 :: R) (fun op h => ?_) (fun _ => hL) (fun y => hR y.1.1 y.1.2) fun y => J y.1.1 y.1.2 y.2.1 y.2.2
  obtain ⟨S, D, X, hop, hS, hD, hx⟩ := vCnv_inv h
  exact Does.as hop (d_convert (σ := { y : List Nat × Sl UInt8 // y.2.xs = str.data.toList ∧ Rds.ok y.2 }) _ (fun y => .v y.1.2.val) (fun _ => m.s.loc) (fun y => subR y.1.1 y.1.2 :: R) hx fun bs w hS' => by
    obtain ⟨y, h1, h2, h3, fp, h4⟩ := strbytes_run w S D e str hS hD he hlen
    exact ⟨⟨(fp, y), h1, Rds.okof h4.1⟩, _, h2, hS'.fresh h3 (subR fp y) h4.1 h4.2.1 h4.2.2⟩)
/-- a slice literal as a row -/
def vLit (P : Program) (o : Oper) (s : SS) : Option (Nat × Nat × List Value) :=
  match o.op with
  | .buildSlice T n parts =>
    match P.underlying T with
    | some (.slice e) =>
      match partCells s (P.cellsOf e) 0 parts.toList with
      | some cs => match valsOf cs with
        | some vs => bif Nat.beq parts.size n && (!Nat.beq (P.cellsOf e) 0 && (Nat.ble n 65536 && Nat.ble (P.cellsOf e) 256)) then some (e, n, vs) else none
        | none => none
      | none => none
    | _ => none
  | _ => none
theorem Mlr {α : Type} [Lay α] {e : Nat} (L : List α) (J : ∀ A, JM C Q R0 (rowA e A L.length L :: R) (nx C (adv0 m (.v (.slice A L.length L.length))))) (hR : ∀ r : Res, R0.Sublist (r :: R) := by intros; first | exact List.nil_sublist _ | exact List.Sublist.cons _ (List.Sublist.refl _) | exact List.Sublist.refl _) (hv : vw C.n (vLit C.P) m = some (e, L.length, L.flatMap Lay.cells) := by kernel_rfl) (hc5 : ((zeroCellsOf C.P e).map List.length) = some (C.P.cellsOf e) := by kernel_rfl) (hL : locB m m.s.loc = locS m := by kernel_rfl) : JM C Q R0 R m := by
  refine m_eff (σ := Option Addr) (vLit C.P) _ hv (fun A => .v (.slice A L.length L.length)) (fun _ => m.s.loc) (fun A => rowA e A L.length L :: R) (fun op h => ?_) (fun _ => hL) (fun _ => hR _) fun A => ?_
  · unfold vLit at h
    split at h
    · rename_i T n' parts hop
      split at h
      · rename_i e' ht
        split at h
        · rename_i cs hcs
          split at h
          · rename_i vs hvs
            cases hb : Nat.beq parts.size n' && (!Nat.beq (C.P.cellsOf e') 0 && (Nat.ble n' 65536 && Nat.ble (C.P.cellsOf e') 256)) with
            | false => rw [hb] at h; cases h
            | true =>
              rw [hb] at h
              simp only [cond_true, Option.some.injEq, Prod.mk.injEq] at h
              obtain ⟨rfl, rfl, rfl⟩ := h
              simp only [Bool.and_eq_true, Bool.not_eq_true'] at hb
              refine Does.as hop ?_
              exact d_rowlit e' L cs ht hb.2.1 hb.2.2.1 hb.2.2.2 hc5 hcs (Nat.eq_of_beq_eq_true hb.1) hvs rfl
          · cases h
        · cases h
      · cases h
    · cases h
  · exact J A
/-- 'T{}' -/
theorem Mlz {α : Type} [Lay α] {e : Nat} (J : ∀ A, JM C Q R0 (rowA e A 0 ([] : List α) :: R) (nx C (adv0 m (.v (.slice A ([] : List α).length 0))))) (hR : ∀ r : Res, R0.Sublist (r :: R) := by intros; first | exact List.nil_sublist _ | exact List.Sublist.cons _ (List.Sublist.refl _) | exact List.Sublist.refl _) (hv : vw C.n (vLit C.P) m = some (e, ([] : List α).length, []) := by kernel_rfl) (hc5 : ((zeroCellsOf C.P e).map List.length) = some (C.P.cellsOf e) := by kernel_rfl) (hL : locB m m.s.loc = locS m := by kernel_rfl) : JM C Q R0 R m :=
  Mlr (α := α) [] J hR hv hc5 hL

/-! ### regions that draw: the order by itself -/
def quietK (P : Program) (o : Oper) : Nat :=
  match o.op with
  | .load _ _ => 2
  | .move _ | .assign _ | .pick _ _ _ | .binOp _ _ _ _ _ | .unOp _ _ _ | .fieldAddr _ _ _ | .field _ _ _ | .indexAddr _ _ _ | .index _ _ _ | .extract _ _ | .slice _ _ _ _ _ | .nilCheck _ | .build _ _ | .makeFunc _ _ _ => 1
  | .convert S D _ => match P.underlying S, P.underlying D with
    | some (.int _), some (.int _) => 1
    | _, _ => 0
  | .call ⟨.builtin b, _, _⟩ => match b with
    | .len | .cap | .min | .max => 1
    | _ => 0
  | _ => 0
def firstQ (P : Program) (ops : Array Oper) (q : Nat) (X : List Nat) : List Nat → Option (Nat × Nat)
  | [] => none
  | i :: r => match ops[i]? with
    | some o => match quietK P o with
      | 0 => firstQ P ops q X r
      | k + 1 => bif Nat.blt i q && !X.any (Nat.beq (i + 1000)) then some (i, k) else firstQ P ops q X r
    | none => firstQ P ops q X r
/-- an order: quiet ones first; of several others that may come up, each -/
def autoT (P : Program) (ops : Array Oper) (q : Nat) (X : List Nat) : Nat → Array Bool → Tr
  | 0, _ => .nil
  | f + 1, listed =>
    let rd := Region.ready .any ops listed
    match firstQ P ops q X rd with
    | some (i, 0) => .p i (autoT P ops q X f (listed.setIfInBounds i true))
    | some (i, _) => .q i (autoT P ops q X f (listed.setIfInBounds i true))
    | none => match rd with
      | [] => .nil
      | [i] => bif X.any (Nat.beq i) then .x i (autoT P ops q X f (listed.setIfInBounds i true)) else .b i (autoT P ops q X f (listed.setIfInBounds i true)) .z
      | l => l.foldr (fun i t => .b i (autoT P ops q X f (listed.setIfInBounds i true)) t) .z
def autoM (P : Program) (m : Mch) (q : Nat) (X : List Nat) : Tr :=
  match m.foc with
  | .code (.region _ ops true) => autoT P ops q X q (Array.replicate ops.size false)
  | _ => .nil
def drawA (P : Program) (m : Mch) (q : Nat) (X mk : List Nat) : Mch := drawM m q (autoM P m q X) mk
theorem Mda (q : Nat) (X : List Nat) (mk : List Nat) (R0 : List Res) (hm : C.P.follows .mixedOrders = true) {fn : Func} {R' : Ending → World → Prop} (J : JM C (bodyPost C.P fn R') R0 R (nx C (drawA C.P m q X mk))) (hR : R0.Sublist R := by first | exact List.Sublist.refl _ | exact List.nil_sublist _) (h : drawOK m q (X.filter fun i => Nat.blt i 1000) (autoM C.P m q X) = true := by kernel_rfl) : JM C (bodyPost C.P fn R') [] R m := Mw q (X.filter fun i => Nat.blt i 1000) _ mk R0 hm J hR h
theorem Mdr (q : Nat) {fn : Func} {R' : Ending → World → Prop} (J : JM C (bodyPost C.P fn R') R R (nx C (drawA C.P m q [] []))) (hm : C.P.follows .mixedOrders = true) (h : drawOK m q [] (autoM C.P m q []) = true := by kernel_rfl) : JM C (bodyPost C.P fn R') [] R m := Mda q [] [] R hm J (List.Sublist.refl _) h
end
end Go.Proofs.YtbjakddkfgjkaaaGreat.Fw

namespace Go.Proofs.YtbjakddkfgjkaaaGreat.Fw
open Go.RowKit
/-! ### hints, and what they owe -/
structure Pk (C : Cx) (R : List Res) (hs : List (Nat × Hint)) (obs : List Prop) (wobs : List (Addr × List Value)) : Prop where
  ho : ∀ w, Kp C.m C.w0 w → (∀ r, r ∈ R → r.p w) → AllP obs
  hw : ∀ w, Kp C.m C.w0 w → (∀ r, r ∈ R → r.p w) → AllC w wobs
section
variable {C : Cx} {Q : Exit → Act → World → Prop} {R0 R : List Res} {m : Mch}
theorem pc {h1 h2 : List (Nat × Hint)} {o1 o2 : List Prop} {w1 w2 : List (Addr × List Value)} (a : Pk C R h1 o1 w1) (b : Pk C R h2 o2 w2) : Pk C R (h1 ++ h2) (o1 ++ o2) (w1 ++ w2) :=
  ⟨fun w hk hr => AllP_append.2 ⟨a.ho w hk hr, b.ho w hk hr⟩, fun w hk hr => AllC_append.2 ⟨a.hw w hk hr, b.hw w hk hr⟩⟩
theorem Mi {hs : List (Nat × Hint)} (J : JM C Q R0 R (nx C (rO C hs m).1)) {obs : List Prop} {wobs : List (Addr × List Value)} (p : Pk C R hs obs wobs) (hR : R0.Sublist R := by first | exact List.nil_sublist _ | exact List.Sublist.refl _) (h : (rO C hs m).2 = (obs, wobs) := by kernel_rfl) : JM C Q R0 R m :=
  m_know (F := AllP obs) (fun bs w hS => p.ho w hS.kp hS.res) fun ho => Mr hs ho (fun w hk hr => p.hw w hk hr) hR h J
theorem Mih {hs : List (Nat × Hint)} (J : JM C Q R0 R (nx C (rH C hs m).1)) {obs : List Prop} {wobs : List (Addr × List Value)} (p : Pk C R0 hs obs wobs) (hR : R0.Sublist R := by first | exact List.nil_sublist _ | exact List.Sublist.refl _) (h : (rH C hs m).2 = (obs, wobs) := by kernel_rfl) : JM C Q R0 R m :=
  m_know (F := AllP obs) (fun bs w hS => p.ho w hS.kp (fun r hr => hS.res r (hR.subset hr))) fun ho => Mh hs ho (fun w hk hr => p.hw w hk hr) hR h J
/-- an operation's bounds -/
theorem pR (x : Int) (h : inR x := by unfold inR; omega) : Pk C R [] [inR x] [] := ⟨fun _ _ _ => ⟨h, trivial⟩, fun _ _ _ => trivial⟩
theorem pP (p : Prop) (h : p := by omega) : Pk C R [] [p] [] := ⟨fun _ _ _ => ⟨h, trivial⟩, fun _ _ _ => trivial⟩
/-- a hint and what it owes -/
theorem pG (hs : List (Nat × Hint)) {obs : List Prop} (h : AllP obs) : Pk C R hs obs [] := ⟨fun _ _ _ => h, fun _ _ _ => trivial⟩
/-- an index into a slice that reads -/
theorem pI {α : Type} [Lay α] {B : Nat → Prop} {s : Sl α} (t : Nat) (z : Int) (i : Nat) (rd : ∀ w, Kp C.m C.w0 w → (∀ r, r ∈ R → r.p w) → s.rd B w) (hi : i < s.n := by omega) (hz : z = (i : Int) := by first | rfl | omega) : Pk C R [(t, .idx s.ad i)] [s.A = some s.ad, z = (i : Int), i < s.n] [] :=
  ⟨fun w hk hr => ⟨(rd w hk hr).ok.own hi, hz, hi, trivial⟩, fun _ _ _ => trivial⟩
theorem pIk {α : Type} [Lay α] {B : Nat → Prop} {s : Sl α} (t : Nat) (z : Int) (i n : Nat) (rd : ∀ w, Kp C.m C.w0 w → (∀ r, r ∈ R → r.p w) → s.rd B w) (hi : i < n := by omega) (hn : n ≤ s.n := by omega) (hz : z = (i : Int) := by first | rfl | omega) : Pk C R [(t, .idx s.ad i)] [s.A = some s.ad, z = (i : Int), i < n] [] :=
  ⟨fun w hk hr => ⟨(rd w hk hr).ok.own (Nat.lt_of_lt_of_le hi hn), hz, hi, trivial⟩, fun _ _ _ => trivial⟩
/-- a load of an element, or of a part of one -/
theorem pE {α : Type} [Lay α] {B : Nat → Prop} {s : Sl α} (t : Nat) (i : Nat) (rd : ∀ w, Kp C.m C.w0 w → (∀ r, r ∈ R → r.p w) → s.rd B w) (hi : i < s.n := by omega) : Pk C R [(t, .ext (Lay.cells (s.at i)))] [] [(s.ad.add (i * Lay.size α), Lay.cells (s.at i))] :=
  ⟨fun _ _ _ => trivial, fun w hk hr => ⟨(rd w hk hr).get hi, trivial⟩⟩
theorem pF {α : Type} [Lay α] {B : Nat → Prop} {s : Sl α} (t : Nat) (i off n : Nat) (rd : ∀ w, Kp C.m C.w0 w → (∀ r, r ∈ R → r.p w) → s.rd B w) (hi : i < s.n := by omega) : Pk C R [(t, .ext (((Lay.cells (s.at i)).drop off).take n))] [] [((s.ad.add (i * Lay.size α)).add off, ((Lay.cells (s.at i)).drop off).take n)] :=
  ⟨fun _ _ _ => trivial, fun w hk hr => ⟨(rd w hk hr).fld hi off n rfl, trivial⟩⟩
/-- both -/
theorem pA {α : Type} [Lay α] {B : Nat → Prop} {s : Sl α} (t t2 : Nat) (z : Int) (i : Nat) (rd : ∀ w, Kp C.m C.w0 w → (∀ r, r ∈ R → r.p w) → s.rd B w) (hi : i < s.n := by omega) (hz : z = (i : Int) := by first | rfl | omega) : Pk C R [(t, .idx s.ad i), (t2, .ext (Lay.cells (s.at i)))] [s.A = some s.ad, z = (i : Int), i < s.n] [(s.ad.add (i * Lay.size α), Lay.cells (s.at i))] :=
  ⟨fun w hk hr => ⟨(rd w hk hr).ok.own hi, hz, hi, trivial⟩, fun w hk hr => ⟨(rd w hk hr).get hi, trivial⟩⟩
/-- an element of a row of ours -/
theorem pIo {α : Type} [Lay α] {e : Nat} {A : Option Addr} {c : Nat} {L : List α} (t : Nat) (z : Int) (i : Nat) (n : Nat) (mem : rowA e A c L ∈ R) (hi : i < L.length := by omega) (hz : z = (i : Int) := by first | rfl | omega) (hn : i < n := by omega) : Pk C R [(t, .idx (oad A) i)] [A = some (oad A), z = (i : Int), i < n] [] :=
  ⟨fun w hk hr => ⟨rowA_own (hr _ mem) hi, hz, hn, trivial⟩, fun _ _ _ => trivial⟩
theorem pEo {α : Type} [Lay α] {e : Nat} {A : Option Addr} {c : Nat} {L : List α} (t : Nat) (i : Nat) (mem : rowA e A c L ∈ R) (hi : i < L.length := by omega) : Pk C R [(t, .ext (Lay.cells (L.getD i default)))] [] [((oad A).add (i * Lay.size α), Lay.cells (L.getD i default))] :=
  ⟨fun _ _ _ => trivial, fun w hk hr => ⟨rowA_at (hr _ mem) hi, trivial⟩⟩
theorem pFo {α : Type} [Lay α] {e : Nat} {A : Option Addr} {c : Nat} {L : List α} (t : Nat) (i off n : Nat) (mem : rowA e A c L ∈ R) (hi : i < L.length := by omega) : Pk C R [(t, .ext (((Lay.cells (L.getD i default)).drop off).take n))] [] [(((oad A).add (i * Lay.size α)).add off, ((Lay.cells (L.getD i default)).drop off).take n)] :=
  ⟨fun _ _ _ => trivial, fun w hk hr => ⟨(rowA_at (hr _ mem) hi).part off n, trivial⟩⟩
/-- .. that is known -/
theorem pEk {α : Type} [Lay α] {e : Nat} {A : Option Addr} {c : Nat} {L : List α} {x : α} (t : Nat) (i : Nat) (hx : L.getD i default = x) (mem : rowA e A c L ∈ R) (hi : i < L.length := by omega) : Pk C R [(t, .ext (Lay.cells x))] [] [((oad A).add (i * Lay.size α), Lay.cells x)] := by
  subst hx
  exact pEo t i mem hi
theorem pFk {α : Type} [Lay α] {e : Nat} {A : Option Addr} {c : Nat} {L : List α} {x : α} (t : Nat) (i off n : Nat) (hx : L.getD i default = x) (mem : rowA e A c L ∈ R) (hi : i < L.length := by omega) : Pk C R [(t, .ext (((Lay.cells x).drop off).take n))] [] [(((oad A).add (i * Lay.size α)).add off, ((Lay.cells x).drop off).take n)] := by
  subst hx
  exact pFo t i off n mem hi
/-- a part of a block that is known as a fact -/
theorem pBk {b ty : Nat} {vs : List Value} (t : Nat) (off n : Nat) (mem : blkR b ty vs ∈ R) : Pk C R [(t, .ext ((vs.drop off).take n))] [] [((⟨b, 0, none⟩ : Addr).add off, (vs.drop off).take n)] :=
  ⟨fun _ _ _ => trivial, fun w hk hr => ⟨(blkR_at (hr _ mem)).part off n, trivial⟩⟩
/-- a load, by a proof -/
theorem pX {a : Addr} (t : Nat) (vs : List Value) (h : ∀ w, Kp C.m C.w0 w → (∀ r, r ∈ R → r.p w) → CellsAt w a vs) : Pk C R [(t, .ext vs)] [] [(a, vs)] := ⟨fun _ _ _ => trivial, fun w hk hr => ⟨h w hk hr, trivial⟩⟩
end
/-- arguments read still -/
theorem rdk {α : Type} [Lay α] {B : Nat → Prop} {s : Sl α} {P : Program} {n : Nat} {w0 : World} {R : List Res} (h : s.rd B w0) : ∀ w, Kp (Cx.mk P n [] w0).m (Cx.mk P n [] w0).w0 w → (∀ r, r ∈ R → r.p w) → s.rd B w := fun _ hk _ => h.kp hk
theorem WS.resI {m : List Nat} {w0 : World} {bs : List Nat} {loc : List Blk} {R : List Res} {w w' : World} (h : WS m w0 bs loc R w) (i : Nat) (hk : Kp [bs.getD i 0] w w') (hb : loc[i]?.isSome = true := by kernel_rfl) : ∀ r, r ∈ R → r.p w' := by
  obtain ⟨b, hb⟩ := Option.isSome_iff_exists.1 hb
  exact h.resB hb hk
end Go.Proofs.YtbjakddkfgjkaaaGreat.Fw

namespace Go.Proofs.YtbjakddkfgjkaaaGreat.Fw
open Go.RowKit
/-! ### replicas that apply entries -/
structure DRan where
  repl : DReplica
  out : List DMail
  deriving Inhabited
structure CRan where
  repl : CReplica
  out : Sl DMail
  deriving Inhabited
def CRan.abs (x : CRan) : DRan := { repl := x.repl.abs, out := x.out.xs }
instance : Lay CRan where
  sub B w x := x.repl.snap.size ≤ 9223372036854775807 ∧ x.repl.log.entries.rd B w ∧ x.repl.state.locks.rd B w ∧ x.repl.state.pairs.rd B w ∧ x.repl.state.sessions.rd B w ∧ x.out.rd B w
  stay := fun {B w w' x} hs ⟨h0, h1, h2, h3, h4, h5⟩ => ⟨h0, Sl.rd.stay h1 hs, Sl.rd.stay h2 hs, Sl.rd.stay h3 hs, Sl.rd.stay h4 hs, Sl.rd.stay h5 hs⟩
  wide := fun {B B' w x} hs ⟨h0, h1, h2, h3, h4, h5⟩ => ⟨h0, Sl.rd.wide h1 hs, Sl.rd.wide h2 hs, Sl.rd.wide h3 hs, Sl.rd.wide h4 hs, Sl.rd.wide h5 hs⟩
  ok x := x.repl.snap.size ≤ 9223372036854775807 ∧ x.repl.log.entries.ok ∧ x.repl.state.locks.ok ∧ x.repl.state.pairs.ok ∧ x.repl.state.sessions.ok ∧ x.out.ok
  small x := Rds.small x.repl.log.entries ∧ Rds.small x.repl.state.locks ∧ Rds.small x.repl.state.pairs ∧ Rds.small x.repl.state.sessions ∧ Rds.small x.out
  okof := fun {B w x} ⟨h0, h1, h2, h3, h4, h5⟩ => ⟨h0, Sl.rd.ok h1, Sl.rd.ok h2, Sl.rd.ok h3, Sl.rd.ok h4, Sl.rd.ok h5⟩
  size := 8
  bytes := 152
  pos := by decide
  cells x := [.int .i64 x.repl.log.base, .slice x.repl.log.entries.A x.repl.log.entries.n x.repl.log.entries.c, .string x.repl.snap, .int .i64 x.repl.state.index, .slice x.repl.state.locks.A x.repl.state.locks.n x.repl.state.locks.c, .slice x.repl.state.pairs.A x.repl.state.pairs.n x.repl.state.pairs.c, .slice x.repl.state.sessions.A x.repl.state.sessions.n x.repl.state.sessions.c, .slice x.out.A x.out.n x.out.c]
  len _ := rfl
  one _ := rfl
abbrev CRan.val (x : CRan) : Value := .agg #[.int .i64 x.repl.log.base, .slice x.repl.log.entries.A x.repl.log.entries.n x.repl.log.entries.c, .string x.repl.snap, .int .i64 x.repl.state.index, .slice x.repl.state.locks.A x.repl.state.locks.n x.repl.state.locks.c, .slice x.repl.state.pairs.A x.repl.state.pairs.n x.repl.state.pairs.c, .slice x.repl.state.sessions.A x.repl.state.sessions.n x.repl.state.sessions.c, .slice x.out.A x.out.n x.out.c]
/-- a state that may be new -/
def stk (z : CState) (o : Option (List Nat × CState)) : CState := match o with
  | none => z
  | some p => p.2
def stR (o : Option (List Nat × CState)) : Res := match o with
  | none => noR
  | some p => subR p.1 p.2
theorem stk_rd {z : CState} {o : Option (List Nat × CState)} {B : Nat → Prop} {w : World} (h : Rds.sub B w z) (h2 : (stR o).p w) : Rds.sub anyB w (stk z o) := by
  cases o with
  | none => exact Rds.wide (fun _ _ => trivial) h
  | some p => exact Rds.wide (fun _ _ => trivial) (show Rds.sub (· ∈ p.1) w p.2 from h2)
theorem stk_out {R : List Res} {z : CState} {o : Option (List Nat × CState)} {w : World} (h : Rds.sub (· ∈ (allR R).fp) w z) (ho : stR o ∈ R) (hR : ∀ r, r ∈ R → r.p w) : Rds.sub (· ∈ (allR R).fp) w (stk z o) := by
  cases o with
  | none => exact h
  | some p => exact Rds.wide (fun b hb => mem_allR ho hb) (show Rds.sub (· ∈ p.1) w p.2 from hR _ ho)
/-- what is replied is no longer than what is kept -/
def textsOk (s : DState) : Prop := (∀ p, p ∈ s.pairs → p.value.size ≤ 9223372036854775807) ∧ ∀ x, x ∈ s.sessions → ∀ k, k ∈ x.replies → k.reply.text.size ≤ 9223372036854775807
theorem texts_ok {z : CState} (h : Rds.ok z) : textsOk z.abs := by
  refine ⟨fun p hp => mem_getD (P := fun p : DPair => p.value.size ≤ 9223372036854775807) (fun j hj => (h.2.1.2.2 j hj).2.2) p hp, fun x hx k hk => ?_⟩
  obtain ⟨c, hc, rfl⟩ := List.mem_map.1 hx
  obtain ⟨j, hj, rfl⟩ := List.mem_iff_getElem.1 hc
  have h1 : Sl.ok (z.sessions.at j).replies := (h.2.2.2.2 j hj).2
  have e : z.sessions.at j = z.sessions.xs[j] := by unfold Sl.at; rw [List.getD_eq_getElem?_getD, List.getElem?_eq_getElem hj]; rfl
  rw [e] at h1
  exact mem_getD (P := fun k : DKept => k.reply.text.size ≤ 9223372036854775807) (fun i hi => (h1.2.2 i hi).2) k hk
theorem kAns_text {d : DSession} {c : DCommand} (h : ∀ k, k ∈ d.replies → k.reply.text.size ≤ 9223372036854775807) : (kAns d c).1.text.size ≤ 9223372036854775807 := by
  unfold kAns
  split
  · exact Nat.zero_le _
  split
  · by_cases hj : (kIdx (kLeft d c) c.seq).toNat < (kLeft d c).length
    · exact h _ (List.mem_filter.1 (mem_of_getD hj)).1
    · rw [List.getD_eq_getElem?_getD, List.getElem?_eq_none (by omega)]
      exact Nat.zero_le _
  split
  · exact Nat.zero_le _
  · exact Nat.zero_le _
theorem mReady_text {l : List DSession} {index : Int} {c : DCommand} (h : ∀ x, x ∈ l → ∀ k, k ∈ x.replies → k.reply.text.size ≤ 9223372036854775807) : (mReady l index c).2.1.text.size ≤ 9223372036854775807 := by
  unfold mReady
  split
  · exact Nat.zero_le _
  split
  · exact Nat.zero_le _
  split
  · exact Nat.zero_le _
  · refine kAns_text fun k hk => ?_
    by_cases hj : (sIdx l c.client).toNat < l.length
    · exact h _ (mem_of_getD hj) k hk
    · rw [List.getD_eq_getElem?_getD, List.getElem?_eq_none (by omega)] at hk
      exact absurd hk (List.not_mem_nil)
theorem mJoin_text (l : List DSession) (i c : Int) : (mJoin l i c).2.1.text = emp := by
  unfold mJoin
  repeat' split
  all_goals rfl
theorem mLeave_text (l : List DSession) (i c : Int) : (mLeave l i c).2.1.text = emp := by
  unfold mLeave
  repeat' split
  all_goals rfl
theorem aFresh_mem {s : DState} {x : DSession} (h : x ∈ aFresh s) : x ∈ s.sessions := by
  unfold aFresh mFresh at h
  split at h
  · exact (List.mem_filter.1 h).1
  · exact absurd h List.not_mem_nil
theorem mApply_text {s : DState} (h : textsOk s) (t : ByteArray) : (mApply s t).2.1.text.size ≤ 9223372036854775807 := by
  have e0 : emp.size = 0 := rfl
  unfold mApply
  split
  · exact Nat.zero_le _
  split
  · exact Nat.zero_le _
  split
  · exact Nat.zero_le _
  show (mStep s (mDecode t).1).2.text.size ≤ _
  unfold mStep
  split
  · show (mJoin _ _ _).2.1.text.size ≤ _; rw [mJoin_text, e0]; omega
  split
  · show (mLeave _ _ _).2.1.text.size ≤ _; rw [mLeave_text, e0]; omega
  split
  · exact mDo_text h.1 _ _
  · exact mReady_text fun x hx => h.2 x (aFresh_mem hx)
theorem mApply_index {s : DState} {t : ByteArray} (h : (mApply s t).2.2 = 0) : (mApply s t).1.index = s.index + 1 := by
  unfold mApply at h ⊢
  split
  · rename_i h1; rw [if_pos h1] at h; exact absurd h h1
  rename_i h1
  rw [if_neg h1] at h
  split
  · rename_i h2; rw [if_pos h2] at h; cases h
  rename_i h2
  rw [if_neg h2] at h
  split
  · rename_i h3; rw [if_pos h3] at h; exact absurd h h3
  show (mStep s (mDecode t).1).1.index = _
  unfold mStep
  repeat' split
  all_goals rfl
theorem run_S (E : List ByteArray) (n k : Nat) (s : DState) (out : List DMail) : mRunGo E (n + 1) k s out = if ¬ (mApply s (E.getD k default)).2.2 = 0 then (zState, [], (mApply s (E.getD k default)).2.2) else mRunGo E n (k + 1) (mApply s (E.getD k default)).1 (out ++ [⟨(mDecode (E.getD k default)).1.client, (mDecode (E.getD k default)).1.seq, (mApply s (E.getD k default)).2.1⟩]) := rfl
/-- entries applied, one by one: so far, and all of them -/
def RunI (E : List ByteArray) (N k0 : Nat) (s0 : DState) (k : Nat) (s : DState) (out : List DMail) : Prop :=
  mRunGo E (N - k) (k0 + k) s out = mRunGo E N k0 s0 [] ∧ s.index = s0.index + (k : Int) ∧ out.length = k ∧ ∀ m, m ∈ out → m.reply.text.size ≤ 9223372036854775807
theorem runI_0 (E : List ByteArray) (N k0 : Nat) (s0 : DState) : RunI E N k0 s0 0 s0 [] := ⟨rfl, by simp, rfl, fun _ h => absurd h List.not_mem_nil⟩
theorem runI_next {E : List ByteArray} {N k0 k : Nat} {s0 s z : DState} {out : List DMail} {t : ByteArray} (hI : RunI E N k0 s0 k s out) (hk : k < N) (ht : E.getD (k0 + k) default = t) (h : (mApply s t).2.2 = 0) (ho : textsOk s) (hz : z = (mApply s t).1) :
    RunI E N k0 s0 (k + 1) z (out ++ [⟨(mDecode t).1.client, (mDecode t).1.seq, (mApply s t).2.1⟩]) := by
  subst hz
  obtain ⟨h1, h2, h3, h4⟩ := hI
  refine ⟨?_, by rw [mApply_index h, h2]; omega, by simp [h3], fun m hm => ?_⟩
  · rw [← h1, show N - k = (N - (k + 1)) + 1 by omega]
    rw [run_S, ht, if_neg (fun q => q h), Nat.add_assoc]
  · rcases List.mem_append.1 hm with hm | hm
    · exact h4 m hm
    · rw [List.mem_singleton.1 hm]; exact mApply_text ho t
theorem runI_bad {E : List ByteArray} {N k0 k : Nat} {s0 s : DState} {out : List DMail} {t : ByteArray} (hI : RunI E N k0 s0 k s out) (hk : k < N) (ht : E.getD (k0 + k) default = t) (h : ¬ (mApply s t).2.2 = 0) : mRunGo E N k0 s0 [] = (zState, [], (mApply s t).2.2) := by
  rw [← hI.1, show N - k = (N - (k + 1)) + 1 by omega, run_S, ht, if_pos h]
theorem runI_end {E : List ByteArray} {N k0 k : Nat} {s0 s : DState} {out : List DMail} (hI : RunI E N k0 s0 k s out) (hk : k = N) : mRunGo E N k0 s0 [] = (s, out, 0) := by
  rw [← hI.1, hk, Nat.sub_self]; rfl
theorem rapp_bad {r : DReplica} {u : Int} (h : ¬ mReplica r = 0) : mRApply r u = (zRepl, [], mReplica r) := by unfold mRApply; rw [if_pos h]
theorem rapp_out {r : DReplica} {u : Int} (h : mReplica r = 0) (h1 : u < 0 ∨ 1073741824 < u) : mRApply r u = (zRepl, [], 2) := by unfold mRApply; rw [if_neg (fun q => q h), if_pos h1]
theorem rapp_run {r : DReplica} {u : Int} (h : mReplica r = 0) (h1 : ¬ (u < 0 ∨ 1073741824 < u)) {E : List ByteArray} {N k0 : Nat} {s0 : DState} (hE : r.log.entries = E) (hs : r.state = s0) (hN : ((if u < mLast r.log then u else mLast r.log) - s0.index).toNat = N) (hk : (s0.index - r.log.base).toNat = k0) {a : DState × List DMail × Int} (hr : mRunGo E N k0 s0 [] = a) :
    mRApply r u = if ¬ a.2.2 = 0 then (zRepl, [], a.2.2) else (⟨r.log, r.snap, a.1⟩, a.2.1, 0) := by
  have e : rRun r u = a := by unfold rRun; rw [hE, hs, hN, hk]; exact hr
  unfold mRApply; rw [if_neg (fun q => q h), if_neg h1, e]
theorem rapp_err {r : DReplica} {u : Int} (h : mReplica r = 0) (h1 : ¬ (u < 0 ∨ 1073741824 < u)) {E : List ByteArray} {N k0 : Nat} {s0 : DState} (hE : r.log.entries = E) (hs : r.state = s0) (hN : ((if u < mLast r.log then u else mLast r.log) - s0.index).toNat = N) (hk : (s0.index - r.log.base).toNat = k0) {e : Int} (hr : mRunGo E N k0 s0 [] = (zState, [], e)) (he : ¬ e = 0) : mRApply r u = (zRepl, [], e) := by
  rw [rapp_run h h1 hE hs hN hk hr]; exact if_pos he
theorem rapp_ok {r : DReplica} {u : Int} (h : mReplica r = 0) (h1 : ¬ (u < 0 ∨ 1073741824 < u)) {E : List ByteArray} {N k0 : Nat} {s0 : DState} (hE : r.log.entries = E) (hs : r.state = s0) (hN : ((if u < mLast r.log then u else mLast r.log) - s0.index).toNat = N) (hk : (s0.index - r.log.base).toNat = k0) {s : DState} {o : List DMail} (hr : mRunGo E N k0 s0 [] = (s, o, 0)) : mRApply r u = (⟨r.log, r.snap, s⟩, o, 0) := by
  rw [rapp_run h h1 hE hs hN hk hr]; exact if_neg (fun q => q rfl)
end Go.Proofs.YtbjakddkfgjkaaaGreat.Fw

namespace Go.Proofs.YtbjakddkfgjkaaaGreat.Fw
open Go.RowKit
/-! ### replicas and clients under a script -/
structure DTown where
  r : List DReplica
  c : List DCustomer
  mails : List DMail
  com : List ByteArray
  lead : Int
  deriving Inhabited
namespace DTown
def rep (t : DTown) (k : Int) : DReplica := t.r.getD k.toNat default
/-- the leader's log -/
def top (t : DTown) : DLog := (t.rep t.lead).log
/-- what the entry behind i others must be -/
def right (t : DTown) (i : Int) : Option ByteArray :=
  if i < t.com.length then some (t.com.getD i.toNat default) else
  if t.top.base ≤ i ∧ i < mLast t.top then some (t.top.entries.getD (i - t.top.base).toNat default) else none
def okAt (t : DTown) (l : DLog) (j : Nat) : Bool := decide (t.right (l.base + (j : Int)) = some (l.entries.getD j default))
end DTown
/-- how many hold, from the first on -/
def firstNot (p : Nat → Bool) : Nat → Nat
  | 0 => 0
  | n + 1 => if allTo p (n + 1) = true then n + 1 else firstNot p n
namespace DTown
/-- up to which index a replica has what must be -/
def agr (t : DTown) (k : Int) : Int := (t.rep k).log.base + ((firstNot (t.okAt (t.rep k).log) (t.rep k).log.entries.length : Nat) : Int)
/-- what is committed grows -/
def grow (t : DTown) (n : Int) : DTown := { t with com := t.com ++ (t.top.entries.drop ((t.com.length : Int) - t.top.base).toNat).take (n - (t.com.length : Int)).toNat }
def grow1 (t : DTown) (k : Int) : DTown := if k = t.lead then t else t.grow (t.agr k)
def commit (t : DTown) : DTown := ((t.grow1 0).grow1 1).grow1 2
def most (t : DTown) (k : Int) (u : Int) : Int := if k = t.lead then u else if u < t.agr k then t.agr k else u
def set (t : DTown) (k : Int) (x : DReplica) : DTown := { t with r := t.r.set k.toNat x }
def added (t : DTown) (s : ByteArray × Int) : DTown × Int :=
  if ¬ s.2 = 0 then (t, s.2) else
  if (mRHear (t.rep t.lead) (mLast t.top) [s.1]).2 = 0 then (t.set t.lead (mRHear (t.rep t.lead) (mLast t.top) [s.1]).1, 0) else (t, (mRHear (t.rep t.lead) (mLast t.top) [s.1]).2)
def cust (t : DTown) (k : Int) : DCustomer := t.c.getD k.toNat default
def byOne (t : DTown) (a : DAct) : DTown × Int :=
  if a.c < 0 ∨ (t.c.length : Int) ≤ a.c then (t, 6) else if a.kind = 1 then t.added (mHello (t.cust a.c)) else if a.kind = 3 then t.added (mReq (t.cust a.c) a.k) else
  if (mStart (t.cust a.c) a.op).2 = 0 then ({ t with c := t.c.set a.c.toNat (mStart (t.cust a.c) a.op).1 }, 0) else (t, (mStart (t.cust a.c) a.op).2)
/-- what a replica is told -/
def told (t : DTown) (k many : Int) : DReplica × Int :=
  if t.agr k < t.top.base then mRInstall (t.rep k) (t.rep t.lead).snap else
  if ¬ (mBehind t.top (t.agr k) many).2 = 0 then (zRepl, (mBehind t.top (t.agr k) many).2) else mRHear (t.rep k) (t.agr k) (mBehind t.top (t.agr k) many).1
def ship (t : DTown) (k many : Int) : DTown × Int :=
  if k = t.lead ∨ many < 0 then (t, 2) else if (t.told k many).2 = 0 then ((t.set k (t.told k many).1).commit, 0) else (t, (t.told k many).2)
def post1 (l : List DMail) (m : DMail) : List DMail := if l.length < 60 then l ++ [m] else l
def upto (t : DTown) (k many : Int) : Int := min ((t.rep k).state.index + min many 400) (min (t.com.length : Int) (t.agr k))
def ran (t : DTown) (k many : Int) : DReplica × List DMail × Int := mRApply (t.rep k) (t.upto k many)
def apply (t : DTown) (k many : Int) : DTown × Int :=
  if many < 0 then (t, 2) else if ¬ (t.ran k many).2.2 = 0 then (t, (t.ran k many).2.2) else
  ({ t.set k (t.ran k many).1 with mails := if k = t.lead then (t.ran k many).2.1.foldl post1 t.mails else t.mails }, 0)
def put (t : DTown) (k : Int) (x : DReplica × Int) : DTown × Int := if x.2 = 0 then (t.set k x.1, 0) else (t, x.2)
def atOne (t : DTown) (a : DAct) : DTown × Int :=
  if a.r < 0 ∨ 2 < a.r then (t, 6) else if a.kind = 4 then t.ship a.r a.k else if a.kind = 5 then t.apply a.r a.k else
  if a.kind = 8 then (if t.agr a.r < (t.com.length : Int) then (t, 9) else (commit { t with lead := a.r }, 0)) else
  if a.kind = 6 then t.put a.r (mRCompact (t.rep a.r)) else t.put a.r (mRRestart (t.rep a.r))
def who (t : DTown) (m : DMail) : Int := mIdx (fun x : DCustomer => decide (x.id = m.client)) t.c
def mail (t : DTown) (k : Int) : DMail := t.mails.getD k.toNat default
def left (t : DTown) (k : Int) : DTown := { t with mails := t.mails.take k.toNat ++ t.mails.drop (k.toNat + 1) }
def heard (t : DTown) (m : DMail) : DTown × Int :=
  if t.who m < 0 then (t, 6) else if (mHear (t.cust (t.who m)) m).2 = 0 then ({ t with c := t.c.set (t.who m).toNat (mHear (t.cust (t.who m)) m).1 }, 0) else (t, (mHear (t.cust (t.who m)) m).2)
def mailOne (t : DTown) (a : DAct) : DTown × Int :=
  if a.k < 0 ∨ (t.mails.length : Int) ≤ a.k then (t, 6) else
  if a.kind = 11 then (if t.mails.length = 60 then (t, 8) else ({ t with mails := t.mails ++ [t.mail a.k] }, 0)) else
  if a.kind = 10 then (t.left a.k, 0) else (t.left a.k).heard (t.mail a.k)
def act (t : DTown) (a : DAct) : DTown × Int :=
  if a.kind < 1 ∨ 11 < a.kind then (t, 3) else if a.kind ≤ 3 then t.byOne a else if a.kind ≤ 8 then t.atOne a else t.mailOne a
def start (n : Int) : DTown := ⟨[zRepl, zRepl, zRepl], (List.range n.toNat).map fun i : Nat => ⟨(i : Int) + 1, 0, 1, []⟩, [], [], 0⟩
end DTown
end Go.Proofs.YtbjakddkfgjkaaaGreat.Fw

namespace Go.Proofs.YtbjakddkfgjkaaaGreat.Fw
open Go.RowKit
/-! ### what holds of a town at all times -/
def logOk (l : DLog) : Prop := 0 ≤ l.base ∧ l.base ≤ 1073741424 ∧ l.entries.length ≤ 400 ∧ ∀ e, e ∈ l.entries → e.size ≤ 5000 ∧ ¬ e = emp
def lens (s : DState) : Prop := s.locks.length ≤ 99 ∧ (∀ x, x ∈ s.locks → x.line.length ≤ 99) ∧ s.pairs.length ≤ 99 ∧ s.sessions.length ≤ 99 ∧ ∀ x, x ∈ s.sessions → x.replies.length ≤ 99
theorem dec_ok {e : ByteArray} (h : (mDecode e).2 = 0) : e.size ≤ 5000 ∧ ¬ e = emp := by
  refine ⟨(mDecode_ok h).2, fun q => ?_⟩
  subst q
  unfold mDecode at h
  rw [if_neg (by rw [emp_size]; omega), if_pos (by rw [emp_size]; omega)] at h
  cases h
theorem log_dec {l : DLog} (h : mLog l = 0) : ∀ e, e ∈ l.entries → (mDecode e).2 = 0 := mem_getD (P := fun e => (mDecode e).2 = 0) (mLog_bd h).2.2.2
theorem logOk_of {l : DLog} (h : mLog l = 0) : logOk l :=
  ⟨(mLog_bd h).1, (mLog_bd h).2.1, (mLog_bd h).2.2.1, fun e he => dec_ok (log_dec h e he)⟩
theorem putGo_dec : ∀ (m : List ByteArray) (E : List ByteArray) (k : Nat), (∀ e, e ∈ E → (mDecode e).2 = 0) → (putGo E k m).2 = 0 → ∀ e, e ∈ (putGo E k m).1 → (mDecode e).2 = 0
  | [], E, k, h, _ => h
  | s :: r, E, k, h, h2 => by
    unfold putGo at h2 ⊢
    split
    · rename_i h3; rw [if_pos h3] at h2; exact absurd h2 h3
    · rename_i h3
      rw [if_neg h3] at h2
      refine putGo_dec r _ _ (fun e he => ?_) h2
      unfold putOne at he
      split at he
      · exact h e he
      · rcases List.mem_append.1 he with he | he
        · exact h e (List.mem_of_mem_take he)
        · rw [List.mem_singleton.1 he]; exact Classical.not_not.1 h3
theorem mPut_parts {l : DLog} {b : Int} {m : List ByteArray} (h : (mPut l b m).2 = 0) : mLog l = 0 ∧ (mPut l b m).1.base = l.base ∧ (mPut l b m).1.entries.length ≤ 400 ∧ ∀ e, e ∈ (mPut l b m).1.entries → (mDecode e).2 = 0 := by
  unfold mPut at h ⊢
  split
  · rename_i h1; rw [if_pos h1] at h; exact absurd h h1
  rename_i h1; rw [if_neg h1] at h
  split
  · rename_i h2; rw [if_pos h2] at h; cases h
  rename_i h2; rw [if_neg h2] at h
  split
  · rename_i h3; rw [if_pos h3] at h; cases h
  rename_i h3; rw [if_neg h3] at h
  split
  · rename_i h4; rw [if_pos h4] at h; cases h
  rename_i h4; rw [if_neg h4] at h
  split
  · rename_i h5; rw [if_pos h5] at h; exact absurd h h5
  rename_i h5; rw [if_neg h5] at h
  split
  · rename_i h6; rw [if_pos h6] at h; cases h
  rename_i h6
  have h0 := Classical.not_not.1 h1
  exact ⟨h0, rfl, by show (putGo _ _ _).1.length ≤ 400; omega, putGo_dec _ _ _ (log_dec h0) (Classical.not_not.1 h5)⟩
theorem logOk_put {l : DLog} {b : Int} {m : List ByteArray} (h : (mPut l b m).2 = 0) : logOk (mPut l b m).1 := by
  obtain ⟨h1, h2, h3, h4⟩ := mPut_parts h
  have h5 := logOk_of h1
  exact ⟨by rw [h2]; exact h5.1, by rw [h2]; exact h5.2.1, h3, fun e he => dec_ok (h4 e he)⟩
theorem logOk_drop {l : DLog} {i : Int} {k : Nat} (h : logOk l) (h0 : 0 ≤ i) (h1 : i ≤ 1073741424) : logOk ⟨i, l.entries.drop k⟩ :=
  ⟨h0, h1, by show (l.entries.drop k).length ≤ 400; rw [List.length_drop]; have := h.2.2.1; omega, fun e he => h.2.2.2 e (List.mem_of_mem_drop he)⟩
theorem lens_of {s : DState} (h : mState s = 0) : lens s := by
  obtain ⟨h1, h2, h3, h4, h5⟩ := mState_bd h
  exact ⟨by omega, fun x hx => Nat.le_trans (mem_getD (P := fun x : DLock => x.line.length ≤ 3) h4 x hx) (by omega), by omega, by omega, fun x hx => Nat.le_trans (mem_getD (P := fun x : DSession => x.replies.length ≤ 4) h5 x hx) (by omega)⟩
theorem lens_zero : lens zState := lens_of rfl
/-! a step adds little -/
def lkLen (K M : Nat) (l : List DLock) : Prop := l.length ≤ K ∧ ∀ x, x ∈ l → x.line.length ≤ M
def ssLen (K M : Nat) (l : List DSession) : Prop := l.length ≤ K ∧ ∀ x, x ∈ l → x.replies.length ≤ M
theorem lkLen.mono {K M K' M' : Nat} {l : List DLock} (h : lkLen K M l) (hK : K ≤ K') (hM : M ≤ M') : lkLen K' M' l := ⟨by have := h.1; omega, fun x hx => Nat.le_trans (h.2 x hx) hM⟩
theorem ssLen.mono {K M K' M' : Nat} {l : List DSession} (h : ssLen K M l) (hK : K ≤ K') (hM : M ≤ M') : ssLen K' M' l := ⟨by have := h.1; omega, fun x hx => Nat.le_trans (h.2 x hx) hM⟩
theorem lkLen.nil {K M : Nat} : lkLen K M [] := ⟨Nat.zero_le _, fun _ h => absurd h List.not_mem_nil⟩
theorem ssLen.nil {K M : Nat} : ssLen K M [] := ⟨Nat.zero_le _, fun _ h => absurd h List.not_mem_nil⟩
theorem ssLen.sub {K M : Nat} {l l' : List DSession} (h : ssLen K M l) (hs : l'.Sublist l) : ssLen K M l' := ⟨Nat.le_trans hs.length_le h.1, fun x hx => h.2 x (hs.subset hx)⟩
theorem lkLen.set {K M : Nat} {l : List DLock} {x : DLock} (h : lkLen K M l) (k : Nat) (hx : x.line.length ≤ M) : lkLen K M (l.set k x) :=
  ⟨by rw [List.length_set]; exact h.1, fun y hy => (List.mem_or_eq_of_mem_set hy).elim (h.2 y) fun e => e ▸ hx⟩
theorem ssLen.set {K M : Nat} {l : List DSession} {x : DSession} (h : ssLen K M l) (k : Nat) (hx : x.replies.length ≤ M) : ssLen K M (l.set k x) :=
  ⟨by rw [List.length_set]; exact h.1, fun y hy => (List.mem_or_eq_of_mem_set hy).elim (h.2 y) fun e => e ▸ hx⟩
theorem mIns_len {α : Type} (p : α → Bool) (x : α) (l : List α) : (mIns p x l).length ≤ l.length + 1 := by
  unfold mIns
  simp only [List.length_append, List.length_take, List.length_drop, List.length_singleton]
  omega
theorem mIns_mem {α : Type} {p : α → Bool} {x y : α} {l : List α} (h : y ∈ mIns p x l) : y = x ∨ y ∈ l := by
  unfold mIns at h
  rcases List.mem_append.1 h with h | h
  · rcases List.mem_append.1 h with h | h
    · exact .inr (List.mem_of_mem_take h)
    · exact .inl (List.mem_singleton.1 h)
  · exact .inr (List.mem_of_mem_drop h)
theorem lkLen.ins {K M : Nat} {l : List DLock} {x : DLock} (h : lkLen K M l) (p : DLock → Bool) (hx : x.line.length ≤ M) : lkLen (K + 1) M (mIns p x l) :=
  ⟨by have := mIns_len p x l; have := h.1; omega, fun y hy => (mIns_mem hy).elim (fun e => e ▸ hx) (h.2 y)⟩
theorem ssLen.ins {K M : Nat} {l : List DSession} {x : DSession} (h : ssLen K M l) (p : DSession → Bool) (hx : x.replies.length ≤ M) : ssLen (K + 1) M (mIns p x l) :=
  ⟨by have := mIns_len p x l; have := h.1; omega, fun y hy => (mIns_mem hy).elim (fun e => e ▸ hx) (h.2 y)⟩
theorem lkLen.at {K M : Nat} {l : List DLock} (h : lkLen K M l) (k : Nat) : (l.getD k default).line.length ≤ M := by
  by_cases hk : k < l.length
  · exact h.2 _ (mem_of_getD hk)
  · rw [List.getD_eq_getElem?_getD, List.getElem?_eq_none (by omega)]; exact Nat.zero_le _
theorem ssLen.at {K M : Nat} {l : List DSession} (h : ssLen K M l) (k : Nat) : (l.getD k default).replies.length ≤ M := by
  by_cases hk : k < l.length
  · exact h.2 _ (mem_of_getD hk)
  · rw [List.getD_eq_getElem?_getD, List.getElem?_eq_none (by omega)]; exact Nat.zero_le _
theorem mPass_len (d : DLock) : (mPass d).line.length ≤ d.line.length := by
  unfold mPass
  split
  · show (d.line.drop 1).length ≤ _; rw [List.length_drop]; omega
  · exact Nat.zero_le _
theorem unline_len (l : List Int) (who : Int) : (unline l who).length ≤ l.length := List.length_filter_le _ _
theorem goneF_len (who : Int) (d : DLock) : (goneF who d).line.length ≤ d.line.length := by
  unfold goneF
  split
  · exact Nat.le_trans (mPass_len _) (unline_len _ _)
  · exact unline_len _ _
theorem lkLen.gone {K M : Nat} {l : List DLock} (h : lkLen K M l) (who : Int) : lkLen K M (mGone l who).1 := by
  unfold mGone
  split
  · exact lkLen.nil
  split
  · exact lkLen.nil
  · refine ⟨by show (l.map _).length ≤ K; rw [List.length_map]; exact h.1, fun x hx => ?_⟩
    obtain ⟨y, hy, rfl⟩ := List.mem_map.1 hx
    exact Nat.le_trans (goneF_len who y) (h.2 y hy)
theorem lkLen.rel {K M : Nat} {now : List DSession} : ∀ (was : List DSession) {l : List DLock}, lkLen K M l → lkLen K M (mRel l was now)
  | [], _, h => h
  | x :: r, l, h => by
    have h1 : lkLen K M (relOne now l x) := by
      unfold relOne
      split
      · exact h.gone _
      · exact h
    exact lkLen.rel r h1
theorem lTake_len (d : DLock) (who : Int) (b : Bool) : (lTake d who b).1.line.length ≤ d.line.length + 1 := by
  unfold lTake
  repeat' split
  all_goals first | exact Nat.le_succ _ | (simp only [List.length_append, List.length_singleton]; omega)
theorem lFree_len (d : DLock) (who : Int) : (lFree d who).1.line.length ≤ d.line.length := by
  unfold lFree
  repeat' split
  all_goals first | exact mPass_len _ | exact Nat.le_refl _ | exact unline_len _ _
theorem lkLen.take {K M : Nat} {l : List DLock} (h : lkLen K M l) (t : ByteArray) (who : Int) (b : Bool) : lkLen (K + 1) (M + 1) (mTake l t who b).1 := by
  unfold mTake
  repeat' split
  all_goals first | exact lkLen.nil | exact h.mono (Nat.le_succ _) (Nat.le_succ _) | exact ((h.mono (Nat.le_refl _) (Nat.le_succ _)).set _ (Nat.le_trans (lTake_len _ _ _) (Nat.succ_le_succ (h.at _)))).mono (Nat.le_succ _) (Nat.le_refl _) | exact ((h.mono (Nat.le_refl _) (Nat.le_succ _)).ins _ (Nat.le_trans (lTake_len _ _ _) (by simp))) | exact ((h.mono (Nat.le_refl _) (Nat.le_succ _)).ins _ (by simp))
theorem lkLen.free {K M : Nat} {l : List DLock} (h : lkLen K M l) (t : ByteArray) (who : Int) : lkLen K M (mFree l t who).1 := by
  unfold mFree
  repeat' split
  all_goals first | exact lkLen.nil | exact h | exact h.set _ (Nat.le_trans (lFree_len _ _) (h.at _))
theorem mPSet_len (l : List DPair) (t v : ByteArray) : (mPSet l t v).1.length ≤ l.length + 1 := by
  unfold mPSet
  repeat' split
  all_goals first | exact Nat.zero_le _ | exact Nat.le_succ _ | exact mIns_len _ _ _ | (simp only [List.length_set]; omega)
theorem do_len {K M P : Nat} {l : List DLock} {p : List DPair} (h : lkLen K M l) (hp : p.length ≤ P) (who : Int) (o : DOp) : lkLen (K + 1) (M + 1) (mDo l p who o).1 ∧ (mDo l p who o).2.1.length ≤ P + 1 := by
  have h0 := h.mono (Nat.le_succ K) (Nat.le_succ M)
  unfold mDo
  split
  · exact ⟨h.take _ _ _, by show p.length ≤ _; omega⟩
  split
  · exact ⟨(h.free _ _).mono (Nat.le_succ K) (Nat.le_succ M), by show p.length ≤ _; omega⟩
  split
  · exact ⟨h0, by show p.length ≤ _; omega⟩
  split
  · exact ⟨h0, by show p.length ≤ _; omega⟩
  split
  · exact ⟨h0, by show p.length ≤ _; omega⟩
  · exact ⟨h0, Nat.le_trans (mPSet_len _ _ _) (by omega)⟩
theorem ssLen.join {K M : Nat} {l : List DSession} (h : ssLen K M l) (i c : Int) : ssLen (K + 1) M (mJoin l i c).1 := by
  unfold mJoin
  repeat' split
  all_goals first | exact ssLen.nil | (refine ssLen.mono (ssLen.set h _ ?_) (Nat.le_succ _) (Nat.le_refl _); exact h.at _) | exact h.mono (Nat.le_succ _) (Nat.le_refl _) | exact ssLen.ins (x := ⟨c, i + 1, 0, i + 1, []⟩) h _ (Nat.zero_le _)
theorem ssLen.leave {K M : Nat} {l : List DSession} (h : ssLen K M l) (i c : Int) : ssLen K M (mLeave l i c).1 := by
  unfold mLeave
  split
  · exact ssLen.nil
  split
  · exact h
  · refine ⟨by have := h.1; simp only [List.length_append, List.length_take, List.length_drop]; omega, fun x hx => ?_⟩
    rcases List.mem_append.1 hx with hx | hx
    · exact h.2 x (List.mem_of_mem_take hx)
    · exact h.2 x (List.mem_of_mem_drop hx)
theorem ssLen.ready {K M : Nat} {l : List DSession} (h : ssLen K M l) (i : Int) (c : DCommand) : ssLen K M (mReady l i c).1 := by
  unfold mReady
  split
  · exact ssLen.nil
  split
  · exact ssLen.nil
  split
  · exact h
  · exact h.set _ (Nat.le_trans (List.length_filter_le _ _) (h.at _))
theorem ssLen.keep {K M : Nat} {l : List DSession} (h : ssLen K M l) (i c s : Int) (r : DReply) : ssLen K (M + 1) (mKeep l i c s r).1 := by
  unfold mKeep
  repeat' split
  all_goals first | exact ssLen.nil | exact (h.mono (Nat.le_refl _) (Nat.le_succ _)).set _ (Nat.le_trans (mIns_len _ _ _) (Nat.succ_le_succ (h.at _)))
theorem fresh_len {K M : Nat} {s : DState} (h : ssLen K M s.sessions) : ssLen K M (aFresh s) := by
  unfold aFresh mFresh
  split
  · exact h.sub List.filter_sublist
  · exact ssLen.nil
theorem lens_apply {s : DState} {t : ByteArray} (h : (mApply s t).2.2 = 0) : lens (mApply s t).1 := by
  unfold mApply at h ⊢
  split
  · rename_i h1; rw [if_pos h1] at h; exact absurd h h1
  rename_i h1
  split
  · exact lens_zero
  split
  · exact lens_zero
  obtain ⟨b1, b2, b3, b4, b5⟩ := mState_bd (Classical.not_not.1 h1)
  have hl : lkLen 5 3 s.locks := ⟨b1, mem_getD (P := fun x : DLock => x.line.length ≤ 3) b4⟩
  have hs : ssLen 4 4 s.sessions := ⟨b3, mem_getD (P := fun x : DSession => x.replies.length ≤ 4) b5⟩
  have hf := fresh_len hs
  have ha : lkLen 5 3 (aLocks s) := lkLen.rel _ hl
  have key : ∀ (a : List DLock) (p : List DPair) (x : List DSession) (i : Int), lkLen 6 4 a → p.length ≤ 6 → ssLen 6 6 x → lens ⟨i, a, p, x⟩ := fun a p x i h1 h2 h3 =>
    ⟨by have := h1.1; show a.length ≤ 99; omega, fun y hy => Nat.le_trans (h1.2 y hy) (by omega), by show p.length ≤ 99; omega, by have := h3.1; show x.length ≤ 99; omega, fun y hy => Nat.le_trans (h3.2 y hy) (by omega)⟩
  show lens (mStep s (mDecode t).1).1
  unfold mStep
  split
  · exact key _ _ _ _ (ha.mono (by omega) (by omega)) (by omega) ((hf.join _ _).mono (by omega) (by omega))
  split
  · exact key _ _ _ _ ((lkLen.rel _ ha).mono (by omega) (by omega)) (by omega) ((hf.leave _ _).mono (by omega) (by omega))
  split
  · have hd := do_len ha b2 (mDecode t).1.client (mDecode t).1.op
    exact key _ _ _ _ hd.1 hd.2 (((hf.ready _ _).keep _ _ _ _).mono (by omega) (by omega))
  · exact key _ _ _ _ (ha.mono (by omega) (by omega)) (by omega) ((hf.ready _ _).mono (by omega) (by omega))
end Go.Proofs.YtbjakddkfgjkaaaGreat.Fw

namespace Go.Proofs.YtbjakddkfgjkaaaGreat.Fw
open Go.RowKit
/-! ### what was written is read: numbers -/
theorem bdata_append (a b : ByteArray) : (a ++ b).data = a.data ++ b.data := by first | exact ByteArray.data_append | simp
theorem bstr_get (pre rest : ByteArray) (b : Int) (l : List Int) : (pre ++ bstr (b :: l) ++ rest).data.getD pre.size 0 = UInt8.ofNat b.toNat := by
  have e : pre.size = pre.data.size := rfl
  have h1 : (pre ++ bstr (b :: l) ++ rest).data[pre.size]? = some (UInt8.ofNat b.toNat) := by
    rw [bdata_append, bdata_append, e, Array.append_assoc, Array.getElem?_append_right (Nat.le_refl _), Nat.sub_self, Array.getElem?_append_left (by simp [bstr])]
    simp [bstr]
  rw [Array.getD_eq_getD_getElem?, h1]; rfl
theorem bext_rest (pre rest : ByteArray) : (pre ++ rest).extract pre.size (pre ++ rest).size = rest := by
  rw [ByteArray.extract_append_eq_right rfl (by rw [ByteArray.size_append])]
theorem rd_digs : ∀ (f : Nat) (m acc : Int) (i : Nat) (pre rest : ByteArray), pre.size = i → 0 ≤ m → m < 128 * 128 ^ f → acc + 128 ^ i * m ≤ 1099511627776 → (m = 0 → i = 0) → rd (pre ++ bstr (digs f m) ++ rest) (f + 1) i acc = (acc + 128 ^ i * m, rest, 0) := by
  have small : ∀ (f : Nat) (m acc : Int) (i : Nat) (pre rest : ByteArray), pre.size = i → 0 ≤ m → m < 128 → acc + 128 ^ i * m ≤ 1099511627776 → (m = 0 → i = 0) → rd (pre ++ bstr [m] ++ rest) (f + 1) i acc = (acc + 128 ^ i * m, rest, 0) := by
    intro f m acc i pre rest hp h0 h1 h2 h3
    subst hp
    have hg := bstr_get pre rest m []
    have hb : (UInt8.ofNat m.toNat).toNat = m.toNat := by simp; omega
    have hm : ((m.toNat : Nat) : Int) % 128 = m := by omega
    have hz : (pre ++ bstr [m] ++ rest).size = pre.size + 1 + rest.size := by rw [ByteArray.size_append, ByteArray.size_append, bstr_size]; rfl
    unfold rd
    rw [hg, hb, if_neg (by omega), if_pos (by omega), hm, if_neg (by rintro (⟨h4, h5⟩ | h4); have := h3 (by omega); omega; omega)]
    have hx := bext_rest (pre ++ bstr [m]) rest
    rw [ByteArray.size_append, bstr_size] at hx
    rw [show pre.size + 1 = pre.size + [m].length from rfl, hx]
  intro f
  induction f with
  | zero => intro m acc i pre rest hp h0 h1 h2 h3; exact small 0 m acc i pre rest hp h0 (by omega) h2 h3
  | succ f ih =>
    intro m acc i pre rest hp h0 h1 h2 h3
    by_cases hm : m < 128
    · rw [digs_small _ m hm]; exact small _ m acc i pre rest hp h0 hm h2 h3
    · rw [digs_big f m (by omega)]
      have hg := bstr_get pre rest (128 + m % 128) (digs f (m / 128))
      have hb : (UInt8.ofNat (128 + m % 128).toNat).toNat = (128 + m % 128).toNat := by simp; omega
      have hz : (pre ++ bstr ((128 + m % 128) :: digs f (m / 128)) ++ rest).size = pre.size + ((digs f (m / 128)).length + 1) + rest.size := by rw [ByteArray.size_append, ByteArray.size_append, bstr_size]; rfl
      have hmm : (((128 + m % 128).toNat : Nat) : Int) % 128 = m % 128 := by omega
      have hpw : (128 : Int) ^ (i + 1) * (m / 128) = 128 ^ i * (128 * (m / 128)) := by rw [Int.pow_succ, Int.mul_assoc]
      have hsum : acc + 128 ^ i * (m % 128) + 128 ^ (i + 1) * (m / 128) = acc + 128 ^ i * m := by
        rw [hpw, Int.add_assoc, ← Int.mul_add, Int.emod_add_mul_ediv]
      unfold rd
      rw [← hp, hg, hb, if_neg (by omega), if_neg (by omega), hmm]
      have hs : pre ++ bstr ((128 + m % 128) :: digs f (m / 128)) ++ rest = (pre ++ bstr [128 + m % 128]) ++ bstr (digs f (m / 128)) ++ rest := by
        rw [ByteArray.append_assoc (a := pre) (b := bstr [128 + m % 128]), bstr_append]; rfl
      rw [hs, ← hp] at *
      have := ih (m / 128) (acc + 128 ^ pre.size * (m % 128)) (pre.size + 1) (pre ++ bstr [128 + m % 128]) rest (by rw [ByteArray.size_append, bstr_size]; rfl) (by omega) (by rw [Int.pow_succ] at h1; omega) (by rw [hsum]; exact h2) (by omega)
      rw [this, hsum]
theorem read_number {n : Int} (h0 : 0 ≤ n) (h1 : n ≤ 1099511627776) (rest : ByteArray) : mRead ((mNumber n).1 ++ rest) = (n, rest, 0) := by
  have h2 := rd_digs 5 n 0 0 emp rest rfl h0 (by omega) (by omega) (fun _ => rfl)
  rw [emp_append] at h2
  have e : (mNumber n).1 = bstr (digs 5 n) := by unfold mNumber; rw [if_neg (by omega)]
  rw [e]
  unfold mRead
  rw [h2]
  simp
end Go.Proofs.YtbjakddkfgjkaaaGreat.Fw

namespace Go.Proofs.YtbjakddkfgjkaaaGreat.Fw
open Go.RowKit
/-! ### what a snapshot says of its index -/
theorem foldl_pre {α : Type} {f : ByteArray → α → ByteArray} (h : ∀ b d, ∃ X, f b d = b ++ X) : ∀ (l : List α) (b : ByteArray), ∃ X, l.foldl f b = b ++ X
  | [], b => ⟨emp, (append_emp b).symm⟩
  | d :: l, b => by
    obtain ⟨X, hX⟩ := h b d
    obtain ⟨Y, hY⟩ := foldl_pre h l (f b d)
    exact ⟨X ++ Y, by rw [List.foldl_cons, hY, hX, ByteArray.append_assoc]⟩
theorem pre_trans {a b c : ByteArray} (h : ∃ X, b = a ++ X) (h2 : ∃ X, c = b ++ X) : ∃ X, c = a ++ X := by
  obtain ⟨X, rfl⟩ := h
  obtain ⟨Y, rfl⟩ := h2
  exact ⟨X ++ Y, ByteArray.append_assoc ..⟩
theorem lockS_pre (b : ByteArray) (d : DLock) : ∃ X, lockS b d = b ++ X := by
  unfold lockS; rw [ByteArray.append_assoc, ByteArray.append_assoc]; exact ⟨_, rfl⟩
theorem pairS_pre (b : ByteArray) (d : DPair) : ∃ X, pairS b d = b ++ X := by
  unfold pairS; rw [ByteArray.append_assoc, ByteArray.append_assoc]; exact ⟨_, rfl⟩
theorem keptS_pre (b : ByteArray) (d : DKept) : ∃ X, keptS b d = b ++ X := by
  unfold keptS; rw [ByteArray.append_assoc]; exact ⟨_, rfl⟩
theorem sessS_pre (b : ByteArray) (d : DSession) : ∃ X, sessS b d = b ++ X := pre_trans ⟨_, rfl⟩ (foldl_pre keptS_pre d.replies _)
theorem snapB_pre (s : DState) : ∃ X, mSnapB s = (mNumber s.index).1 ++ X := by
  unfold mSnapB
  refine pre_trans (pre_trans (pre_trans (pre_trans (pre_trans ?_ (foldl_pre lockS_pre s.locks _)) ⟨_, rfl⟩) (foldl_pre pairS_pre s.pairs _)) ⟨_, rfl⟩) (foldl_pre sessS_pre s.sessions _)
  exact ⟨(mNumber (s.locks.length : Int)).1, by simp only [mNums, List.foldl_cons, List.foldl_nil, emp_append]⟩
theorem state_bds {s : DState} (h : mState s = 0) : 0 ≤ s.index ∧ s.index ≤ 1073741824 := ⟨(mSess_bd (mState_parts h).1).1, (mSess_bd (mState_parts h).1).2.1⟩
theorem snap_cut (b : ByteArray) : (b ++ mSeal b).extract 0 ((b ++ mSeal b).size - 4) = b := by
  have hz : (mSeal b).size = 4 := bstr_size _
  rw [ByteArray.size_append, hz, Nat.add_sub_cancel]
  exact ByteArray.extract_append_eq_left rfl
theorem unsnap_parts {s : ByteArray} (h : (mUnsnap s).2 = 0) : (mUnsnap s).1 = (rState (s.extract 0 (s.size - 4), 0)).1 ∧ mState (mUnsnap s).1 = 0 := by
  unfold mUnsnap at h ⊢
  split
  · rename_i h1; rw [if_pos h1] at h; cases h
  rename_i h1; rw [if_neg h1] at h
  split
  · rename_i h2; rw [if_pos h2] at h; cases h
  rename_i h2; rw [if_neg h2] at h
  split
  · rename_i h3; rw [if_pos h3] at h; cases h
  rename_i h3; rw [if_neg h3] at h
  split
  · rename_i h4; rw [if_pos h4] at h; cases h
  rename_i h4; rw [if_neg h4] at h
  split
  · rename_i h5; rw [if_pos h5] at h; exact absurd h h5
  rename_i h5; rw [if_neg h5] at h
  split
  · rename_i h6; rw [if_pos h6] at h; exact absurd h h6
  rename_i h6
  exact ⟨rfl, Classical.not_not.1 h6⟩
theorem unsnap_index {s : DState} (h : mState s = 0) (h2 : (mUnsnap (mSnap s).1).2 = 0) : (mUnsnap (mSnap s).1).1.index = s.index := by
  have e : (mSnap s).1 = mSnapB s ++ mSeal (mSnapB s) := by unfold mSnap; rw [if_pos h]
  rw [(unsnap_parts h2).1, e, snap_cut]
  show (rNum (mSnapB s, 0)).1 = s.index
  obtain ⟨X, hX⟩ := snapB_pre s
  have hb := state_bds h
  unfold rNum
  rw [if_pos rfl]
  show (mRead (mSnapB s)).1 = s.index
  rw [hX, read_number hb.1 (by omega)]
/-! ### replicas of a town -/
def snapOk (n : Int) (s : ByteArray) : Prop := (mUnsnap s).2 = 0 → (mUnsnap s).1.index ≤ n
def replOk (n : Int) (x : DReplica) : Prop := logOk x.log ∧ x.log.base ≤ n ∧ 0 ≤ x.state.index ∧ x.state.index ≤ n ∧ lens x.state ∧ snapOk n x.snap
theorem replOk.mono {n n' : Int} {x : DReplica} (h : replOk n x) (hn : n ≤ n') : replOk n' x :=
  ⟨h.1, Int.le_trans h.2.1 hn, h.2.2.1, Int.le_trans h.2.2.2.1 hn, h.2.2.2.2.1, fun q => Int.le_trans (h.2.2.2.2.2 q) hn⟩
theorem repl_zero {n : Int} (h : 0 ≤ n) : replOk n zRepl :=
  ⟨⟨by decide, by decide, by decide, fun _ h => absurd h List.not_mem_nil⟩, h, by decide, h, lens_zero, fun q => by
    have : (mUnsnap emp).2 = 5 := by unfold mUnsnap; rw [if_neg (by rw [emp_size]; omega), if_pos (by rw [emp_size]; omega)]
    rw [show zRepl.snap = emp from rfl, this] at q; cases q⟩
theorem hear_ok {n b : Int} {x : DReplica} {m : List ByteArray} (h : replOk n x) (h2 : (mRHear x b m).2 = 0) : replOk n (mRHear x b m).1 := by
  unfold mRHear at h2 ⊢
  split
  · rename_i h1; rw [if_pos h1] at h2; exact absurd h2 h1
  rename_i h1; rw [if_neg h1] at h2
  split
  · rename_i h3; rw [if_pos h3] at h2; exact absurd h2 h3
  rename_i h3; rw [if_neg h3] at h2
  split
  · rename_i h4; rw [if_pos h4] at h2; cases h2
  have h5 := Classical.not_not.1 h3
  exact ⟨logOk_put h5, by rw [show _ = x.log.base from (mPut_parts h5).2.1]; exact h.2.1, h.2.2⟩
theorem inst_ok {n : Int} {x : DReplica} {s : ByteArray} (hs : snapOk n s) (h2 : (mRInstall x s).2 = 0) : replOk n (mRInstall x s).1 := by
  unfold mRInstall at h2 ⊢
  split
  · rename_i h1; rw [if_pos h1] at h2; exact absurd h2 h1
  rename_i h1; rw [if_neg h1] at h2
  split
  · rename_i h3; rw [if_pos h3] at h2; exact absurd h2 h3
  rename_i h3; rw [if_neg h3] at h2
  split
  · rename_i h4; rw [if_pos h4] at h2; cases h2
  rename_i h4; rw [if_neg h4] at h2
  split
  · rename_i h5; rw [if_pos h5] at h2; cases h2
  rename_i h5
  have h6 := Classical.not_not.1 h3
  have h7 := (unsnap_parts h6).2
  have h8 := state_bds h7
  have hl := logOk_of (mReplica_parts (Classical.not_not.1 h1)).1
  refine ⟨?_, ?_, h8.1, hs h6, lens_of h7, hs⟩
  rotate_left
  · show (if _ then (⟨_, _⟩ : DLog) else ⟨_, _⟩).base ≤ n
    split <;> exact hs h6
  split
  · exact logOk_drop hl h8.1 (by omega)
  · exact ⟨h8.1, by show (mUnsnap s).1.index ≤ _; omega, Nat.zero_le _, fun _ h => absurd h List.not_mem_nil⟩
theorem comp_ok {n : Int} {x : DReplica} (h : replOk n x) (h2 : (mRCompact x).2 = 0) : replOk n (mRCompact x).1 := by
  unfold mRCompact at h2 ⊢
  split
  · rename_i h1; rw [if_pos h1] at h2; exact absurd h2 h1
  rename_i h1; rw [if_neg h1] at h2
  split
  · rename_i h3; rw [if_pos h3] at h2; cases h2
  rename_i h3; rw [if_neg h3] at h2
  split
  · rename_i h4; rw [if_pos h4] at h2; exact absurd h2 h4
  rename_i h4
  obtain ⟨p1, p2, p3, p4, p5⟩ := mReplica_parts (Classical.not_not.1 h1)
  have h6 : mCut x.log x.state.index = (⟨x.state.index, x.log.entries.drop (x.state.index - x.log.base).toNat⟩, 0) ∧ x.state.index ≤ 1073741424 := by
    unfold mCut at h4 ⊢
    split
    · rename_i q; exact absurd p1 q
    split
    · rename_i q; omega
    split
    · rename_i q1 q2 q3; rw [if_neg q1, if_neg q2, if_pos q3] at h4; exact absurd (Classical.not_not.1 h4) (by decide)
    · exact ⟨rfl, by omega⟩
  have h8 := state_bds p2
  refine ⟨?_, ?_, h.2.2.1, h.2.2.2.1, h.2.2.2.2.1, fun q => ?_⟩
  · rw [h6.1]; exact logOk_drop (logOk_of p1) h8.1 h6.2
  · rw [h6.1]; exact h.2.2.2.1
  · exact Int.le_trans (Int.le_of_eq (unsnap_index p2 q)) h.2.2.2.1
theorem rest_ok {n : Int} {x : DReplica} (h0 : 0 ≤ n) (h : replOk n x) (h2 : (mRRestart x).2 = 0) : replOk n (mRRestart x).1 := by
  unfold mRRestart at h2 ⊢
  split
  · rename_i h1; rw [if_pos h1] at h2; exact absurd h2 h1
  rename_i h1
  have hk : 0 ≤ (mKeptS x).1.index ∧ (mKeptS x).1.index ≤ n ∧ lens (mKeptS x).1 := by
    unfold mKeptS
    split
    · split
      · exact ⟨Int.le_refl _, h0, lens_zero⟩
      · exact ⟨Int.le_refl _, h0, lens_zero⟩
    · split
      · rename_i q
        have h7 := (unsnap_parts q.1).2
        exact ⟨(state_bds h7).1, h.2.2.2.2.2 q.1, lens_of h7⟩
      · exact ⟨Int.le_refl _, h0, lens_zero⟩
  exact ⟨h.1, h.2.1, hk.1, hk.2.1, hk.2.2, h.2.2.2.2.2⟩
/-! texts of a state that may be -/
theorem texts_of {s : DState} (h : mState s = 0) : textsOk s := by
  obtain ⟨h1, h2, h3⟩ := mState_parts h
  refine ⟨mem_getD (P := fun p : DPair => p.value.size ≤ 9223372036854775807) fun j hj => ?_, fun x hx k hk => ?_⟩
  · have h4 := (mPairs_bd h3).2 j hj
    unfold pairF at h4
    split at h4
    · cases h4
    split at h4
    · cases h4
    omega
  · have h4 := mem_getD (P := fun x : DSession => mReplies x = true) (fun j hj => by
      have h5 := (mSess_bd h1).2.2.2 j hj
      unfold sessF at h5
      split at h5
      · cases h5
      split at h5
      · cases h5
      · rename_i h6; simpa using h6) x hx
    refine mem_getD (P := fun k : DKept => k.reply.text.size ≤ 9223372036854775807) (fun j hj => ?_) k hk
    have h5 := of_decide_eq_true (allTo_good h4 j hj)
    have := h5.2.2.2.2.2.2.2
    omega
theorem mApply_valid {s : DState} {t : ByteArray} (h : (mApply s t).2.2 = 0) : mState s = 0 := by
  unfold mApply at h
  split at h
  · rename_i h1; exact absurd h h1
  · rename_i h1; exact Classical.not_not.1 h1
theorem run_parts (E : List ByteArray) : ∀ (N k : Nat) (s : DState) (out : List DMail), lens s → (∀ m, m ∈ out → m.reply.text.size ≤ 9223372036854775807) → (mRunGo E N k s out).2.2 = 0 →
    lens (mRunGo E N k s out).1 ∧ (mRunGo E N k s out).1.index = s.index + (N : Int) ∧ ∀ m, m ∈ (mRunGo E N k s out).2.1 → m.reply.text.size ≤ 9223372036854775807
  | 0, k, s, out, h, hm, _ => ⟨h, by show s.index = _; omega, hm⟩
  | N + 1, k, s, out, h, hm, h2 => by
    rw [run_S] at h2 ⊢
    split
    · rename_i h3; rw [if_pos h3] at h2; exact absurd h2 h3
    rename_i h3; rw [if_neg h3] at h2
    have h4 := Classical.not_not.1 h3
    obtain ⟨q1, q2, q3⟩ := run_parts E N (k + 1) _ _ (lens_apply h4) (fun m hm' => by
      rcases List.mem_append.1 hm' with hm' | hm'
      · exact hm m hm'
      · rw [List.mem_singleton.1 hm']; exact mApply_text (texts_of (mApply_valid h4)) _) h2
    exact ⟨q1, by rw [q2, mApply_index h4]; omega, q3⟩
theorem appl_ok {n u : Int} {x : DReplica} (h : replOk n x) (hu : u ≤ n) (h2 : (mRApply x u).2.2 = 0) : replOk n (mRApply x u).1 ∧ ∀ m, m ∈ (mRApply x u).2.1 → m.reply.text.size ≤ 9223372036854775807 := by
  unfold mRApply at h2 ⊢
  split
  · rename_i h1; rw [if_pos h1] at h2; exact absurd h2 h1
  rename_i h1; rw [if_neg h1] at h2
  split
  · rename_i h3; rw [if_pos h3] at h2; cases h2
  rename_i h3; rw [if_neg h3] at h2
  split
  · rename_i h4; rw [if_pos h4] at h2; exact absurd h2 h4
  rename_i h4
  have h5 : (rRun x u).2.2 = 0 := Classical.not_not.1 h4
  obtain ⟨q1, q2, q3⟩ := run_parts x.log.entries _ _ x.state [] h.2.2.2.2.1 (fun _ q => absurd q List.not_mem_nil) h5
  refine ⟨⟨h.1, h.2.1, ?_, ?_, q1, h.2.2.2.2.2⟩, q3⟩
  · show 0 ≤ (rRun x u).1.index; unfold rRun; rw [q2]; have := h.2.2.1; omega
  · show (rRun x u).1.index ≤ n; unfold rRun; rw [q2]; have := h.2.2.2.1; omega
end Go.Proofs.YtbjakddkfgjkaaaGreat.Fw

namespace Go.Proofs.YtbjakddkfgjkaaaGreat.Fw
open Go.RowKit
/-! ### what is committed -/
structure townOk (t : DTown) : Prop where
  r3 : t.r.length = 3
  l0 : 0 ≤ t.lead
  l2 : t.lead ≤ 2
  rs : ∀ x, x ∈ t.r → replOk (t.com.length : Int) x
  cl : t.com.length ≤ 1073741824
  cs : ∀ e, e ∈ t.com → e.size ≤ 5000
  ml : t.mails.length ≤ 60
  mt : ∀ m, m ∈ t.mails → m.reply.text.size ≤ 9223372036854775807
  cc : t.c.length ≤ 9
  cw : ∀ x, x ∈ t.c → x.waits.length ≤ 9
theorem townOk.rep {t : DTown} (h : townOk t) {k : Int} (h0 : 0 ≤ k) (h2 : k ≤ 2) : replOk (t.com.length : Int) (t.rep k) := h.rs _ (mem_of_getD (by have := h.r3; omega))
theorem townOk.top {t : DTown} (h : townOk t) : logOk t.top ∧ t.top.base ≤ (t.com.length : Int) := ⟨(h.rep h.l0 h.l2).1, (h.rep h.l0 h.l2).2.1⟩
namespace DTown
theorem grow_com (t : DTown) (n : Int) : (t.grow n).com = t.com ++ (t.top.entries.drop ((t.com.length : Int) - t.top.base).toNat).take (n - (t.com.length : Int)).toNat := rfl
theorem grow_len {t : DTown} (n : Int) (hb : t.top.base ≤ (t.com.length : Int)) : ((t.grow n).com.length : Int) = t.com.length ∨ (((t.grow n).com.length : Int) ≤ mLast t.top ∧ ((t.grow n).com.length : Int) ≤ n ∧ t.com.length ≤ (t.grow n).com.length) := by
  rw [grow_com, List.length_append, List.length_take, List.length_drop]
  unfold mLast
  omega
theorem grow_le (t : DTown) (n : Int) : t.com.length ≤ (t.grow n).com.length := by rw [grow_com, List.length_append]; omega
end DTown
theorem townOk.grow {t : DTown} (h : townOk t) (n : Int) : townOk (t.grow n) := by
  obtain ⟨h1, h2⟩ := h.top
  have hle := t.grow_le n
  refine ⟨h.r3, h.l0, h.l2, fun x hx => (h.rs x hx).mono (by omega), ?_, fun e he => ?_, h.ml, h.mt, h.cc, h.cw⟩
  · rcases DTown.grow_len (t := t) n h2 with h3 | h3
    · have := h.cl; omega
    · have h4 := h1.2.1; have h5 := h1.2.2.1; unfold mLast at h3; omega
  · rw [DTown.grow_com] at he
    rcases List.mem_append.1 he with he | he
    · exact h.cs e he
    · exact (h1.2.2.2 e (List.mem_of_mem_drop (List.mem_of_mem_take he))).1
theorem townOk.grow1 {t : DTown} (h : townOk t) (k : Int) : townOk (t.grow1 k) := by
  unfold DTown.grow1
  split
  · exact h
  · exact h.grow _
theorem townOk.commit {t : DTown} (h : townOk t) : townOk t.commit := ((h.grow1 0).grow1 1).grow1 2
/-! ### every act -/
theorem townOk.set {t : DTown} (h : townOk t) {k : Int} {x : DReplica} (hx : replOk (t.com.length : Int) x) : townOk (t.set k x) :=
  ⟨by show (t.r.set _ _).length = 3; rw [List.length_set]; exact h.r3, h.l0, h.l2, fun y hy => (List.mem_or_eq_of_mem_set hy).elim (h.rs y) fun e => e ▸ hx, h.cl, h.cs, h.ml, h.mt, h.cc, h.cw⟩
theorem townOk.setc {t : DTown} (h : townOk t) (k : Nat) {x : DCustomer} (hx : x.waits.length ≤ 9) : townOk { t with c := t.c.set k x } :=
  ⟨h.r3, h.l0, h.l2, h.rs, h.cl, h.cs, h.ml, h.mt, by show (t.c.set _ _).length ≤ 9; rw [List.length_set]; exact h.cc, fun y hy => (List.mem_or_eq_of_mem_set hy).elim (h.cw y) fun e => e ▸ hx⟩
theorem townOk.setm {t : DTown} (h : townOk t) {l : List DMail} (h1 : l.length ≤ 60) (h2 : ∀ m, m ∈ l → m.reply.text.size ≤ 9223372036854775807) : townOk { t with mails := l } :=
  ⟨h.r3, h.l0, h.l2, h.rs, h.cl, h.cs, h1, h2, h.cc, h.cw⟩
theorem start_len {x : DCustomer} {o : DOp} (h : (mStart x o).2 = 0) : (mStart x o).1.waits.length ≤ 9 := by
  unfold mStart at h ⊢
  split
  · exact Nat.zero_le _
  rename_i h1
  split
  · exact Nat.zero_le _
  split
  · exact Nat.zero_le _
  split
  · exact Nat.zero_le _
  · have := (mCust_bd (Classical.not_not.1 h1)).2.2.2.2.2.2.1
    simp only [List.length_append, List.length_singleton]; omega
theorem heard_len {x : DCustomer} {m : DMail} (hx : x.waits.length ≤ 9) : (mHear x m).1.waits.length ≤ 9 := by
  unfold mHear
  repeat' split
  all_goals first | exact Nat.zero_le _ | exact hx | exact Nat.le_trans (List.length_filter_le _ _) hx
theorem townOk.added {t : DTown} (h : townOk t) (s : ByteArray × Int) : townOk (t.added s).1 := by
  unfold DTown.added
  split
  · exact h
  split
  · rename_i h1; exact h.set (hear_ok (h.rep h.l0 h.l2) h1)
  · exact h
theorem townOk.byOne {t : DTown} (h : townOk t) (a : DAct) : townOk (t.byOne a).1 := by
  unfold DTown.byOne
  split
  · exact h
  split
  · exact h.added _
  split
  · exact h.added _
  split
  · rename_i h1; exact h.setc _ (start_len h1)
  · exact h
theorem townOk.told {t : DTown} (h : townOk t) {k many : Int} (h0 : 0 ≤ k) (h2 : k ≤ 2) (h1 : (t.told k many).2 = 0) : replOk (t.com.length : Int) (t.told k many).1 := by
  unfold DTown.told at h1 ⊢
  split
  · rename_i q; rw [if_pos q] at h1; exact inst_ok (h.rep h.l0 h.l2).2.2.2.2.2 h1
  rename_i q; rw [if_neg q] at h1
  split
  · exact repl_zero (by omega)
  · rename_i q2; rw [if_neg q2] at h1; exact hear_ok (h.rep h0 h2) h1
theorem townOk.ship {t : DTown} (h : townOk t) {k many : Int} (h0 : 0 ≤ k) (h2 : k ≤ 2) : townOk (t.ship k many).1 := by
  unfold DTown.ship
  split
  · exact h
  split
  · rename_i h1; exact (h.set (h.told h0 h2 h1)).commit
  · exact h
theorem post_ok : ∀ (l : List DMail) {L : List DMail}, L.length ≤ 60 → (∀ m, m ∈ L → m.reply.text.size ≤ 9223372036854775807) → (∀ m, m ∈ l → m.reply.text.size ≤ 9223372036854775807) → (l.foldl DTown.post1 L).length ≤ 60 ∧ ∀ m, m ∈ l.foldl DTown.post1 L → m.reply.text.size ≤ 9223372036854775807
  | [], _, h1, h2, _ => ⟨h1, h2⟩
  | x :: l, L, h1, h2, h3 => by
    rw [List.foldl_cons]
    refine post_ok l ?_ ?_ fun m hm => h3 m (List.mem_cons_of_mem _ hm)
    · unfold DTown.post1; split
      · rw [List.length_append, List.length_singleton]; omega
      · exact h1
    · unfold DTown.post1; split
      · intro m hm
        rcases List.mem_append.1 hm with hm | hm
        · exact h2 m hm
        · rw [List.mem_singleton.1 hm]; exact h3 x (List.mem_cons_self ..)
      · exact h2
theorem townOk.apply {t : DTown} (h : townOk t) {k many : Int} (h0 : 0 ≤ k) (h2 : k ≤ 2) : townOk (t.apply k many).1 := by
  unfold DTown.apply
  split
  · exact h
  split
  · exact h
  rename_i h1
  obtain ⟨q1, q2⟩ := appl_ok (u := t.upto k many) (h.rep h0 h2) (by unfold DTown.upto; omega) (Classical.not_not.1 h1)
  have hs := h.set (k := k) q1
  split
  · have hp := post_ok (t.ran k many).2.1 h.ml h.mt q2
    exact hs.setm hp.1 hp.2
  · exact hs
theorem townOk.put {t : DTown} (h : townOk t) {k : Int} {x : DReplica × Int} (hx : x.2 = 0 → replOk (t.com.length : Int) x.1) : townOk (t.put k x).1 := by
  unfold DTown.put
  split
  · rename_i h1; exact h.set (hx h1)
  · exact h
theorem townOk.lead {t : DTown} (h : townOk t) {k : Int} (h0 : 0 ≤ k) (h2 : k ≤ 2) : townOk { t with lead := k } := ⟨h.r3, h0, h2, h.rs, h.cl, h.cs, h.ml, h.mt, h.cc, h.cw⟩
theorem townOk.atOne {t : DTown} (h : townOk t) (a : DAct) : townOk (t.atOne a).1 := by
  unfold DTown.atOne
  split
  · exact h
  rename_i h1
  split
  · exact h.ship (by omega) (by omega)
  split
  · exact h.apply (by omega) (by omega)
  split
  · split
    · exact h
    · exact (h.lead (by omega) (by omega)).commit
  split
  · exact h.put (comp_ok (h.rep (by omega) (by omega)))
  · exact h.put (rest_ok (by omega) (h.rep (by omega) (by omega)))
theorem townOk.mailOne {t : DTown} (h : townOk t) (a : DAct) : townOk (t.mailOne a).1 := by
  have hl : townOk (t.left a.k) := h.setm (by have := h.ml; simp only [List.length_append, List.length_take, List.length_drop]; omega) fun m hm => (List.mem_append.1 hm).elim (fun q => h.mt m (List.mem_of_mem_take q)) fun q => h.mt m (List.mem_of_mem_drop q)
  unfold DTown.mailOne
  split
  · exact h
  rename_i h1
  split
  · split
    · exact h
    · refine h.setm (by have := h.ml; simp only [List.length_append, List.length_singleton]; omega) fun m hm => ?_
      rcases List.mem_append.1 hm with hm | hm
      · exact h.mt m hm
      · rw [List.mem_singleton.1 hm]; exact h.mt _ (mem_of_getD (by omega))
  split
  · exact hl
  · unfold DTown.heard
    split
    · exact hl
    rename_i h3
    split
    · refine hl.setc _ (heard_len (hl.cw _ (mem_of_getD ?_)))
      have := mIdx_bd (fun x : DCustomer => decide (x.id = (t.mail a.k).client)) (t.left a.k).c
      unfold DTown.who at h3 ⊢
      omega
    · exact hl
theorem townOk.act {t : DTown} (h : townOk t) (a : DAct) : townOk (t.act a).1 := by
  unfold DTown.act
  split
  · exact h
  split
  · exact h.byOne a
  split
  · exact h.atOne a
  · exact h.mailOne a
end Go.Proofs.YtbjakddkfgjkaaaGreat.Fw

namespace Go.Proofs.YtbjakddkfgjkaaaGreat.Fw
open Go.RowKit
/-! ### a town as it lies: a block, four rows, and what lies behind them -/
structure CTown where
  r : Sl CReplica
  c : Sl CCustomer
  mails : Sl DMail
  com : Sl ByteArray
  lead : Int
  deriving Inhabited
def CTown.abs (t : CTown) : DTown := ⟨t.r.xs.map CReplica.abs, t.c.xs.map CCustomer.abs, t.mails.xs, t.com.xs, t.lead⟩
abbrev CTown.vals (t : CTown) : List Value := [.slice t.r.A t.r.n t.r.c, .slice t.c.A t.c.n t.c.c, .slice t.mails.A t.mails.n t.mails.c, .slice t.com.A t.com.n t.com.c, .int .i64 t.lead]
/-- the types -/
structure TK where
  r : Nat
  c : Nat
  m : Nat
  k : Nat
  ty : Nat
def townS (f : List Nat) (r : List CReplica) (c : List CCustomer) (m : List DMail) (k : List ByteArray) : Res :=
  ⟨f, fun w => (∀ x, x ∈ r → Rds.sub (· ∈ f) w x) ∧ (∀ x, x ∈ c → Rds.sub (· ∈ f) w x) ∧ (∀ x, x ∈ m → Rds.sub (· ∈ f) w x) ∧ ∀ x, x ∈ k → Rds.sub (· ∈ f) w x,
   fun h p => ⟨fun x hx => Rds.stay (fun b hb _ => h b hb) (p.1 x hx), fun x hx => Rds.stay (fun b hb _ => h b hb) (p.2.1 x hx), fun x hx => Rds.stay (fun b hb _ => h b hb) (p.2.2.1 x hx), fun x hx => Rds.stay (fun b hb _ => h b hb) (p.2.2.2 x hx)⟩⟩
def townL (K : TK) (b : Nat) (f : List Nat) (t : CTown) : List Res :=
  [blkR b K.ty t.vals, rowA K.r t.r.A t.r.c t.r.xs, rowA K.c t.c.A t.c.c t.c.xs, rowA K.m t.mails.A t.mails.c t.mails.xs, rowA K.k t.com.A t.com.c t.com.xs, townS f t.r.xs t.c.xs t.mails.xs t.com.xs]
def townR (K : TK) (b : Nat) (f : List Nat) (t : CTown) : Res := allR (townL K b f t)
section
variable {K : TK} {b : Nat} {f : List Nat} {t : CTown} {w : World}
end
/-- what lies here, apart from what is new -/
def Ow (r : Res) (w : World) : Prop := r.p w ∧ r.fp.Nodup ∧ ∀ b, b ∈ r.fp → b < w.heap.size
theorem Ow.kp {r : Res} {w w' : World} (h : Ow r w) (hk : Kp [] w w') : r.p w' := r.st (fun b hb => hk.block b (h.2.2 b hb) (by simp)) h.1
theorem Ow.mono {r : Res} {w w' : World} (h : Ow r w) (hk : Kp [] w w') : Ow r w' := ⟨h.kp hk, h.2.1, fun b hb => Nat.lt_of_lt_of_le (h.2.2 b hb) hk.size⟩
theorem Ow.start {r : Res} {w : World} (h : Ow r w) : WS r.fp w [] [] [r] w := WS.start1 w r h.1 h.2.1 h.2.2
def CTown.setc (t : CTown) (i : Nat) (y : CCustomer) : CTown := { t with c := ⟨t.c.A, t.c.c, t.c.xs.set i y⟩ }
section
variable {C : Cx} {Q : Exit → Act → World → Prop} {R0 R : List Res} {m : Mch} {K : TK} {b : Nat} {f : List Nat} {t : CTown}
theorem WS.town {ms : List Nat} {w0 w : World} {bs : List Nat} {loc : List Blk} {vs : List Value} {r : List CReplica} {c : List CCustomer} {ml : List DMail} {k : List ByteArray} (t' : CTown) (hS : WS ms w0 bs loc (blkR b K.ty vs :: rowA K.r t'.r.A t'.r.c t'.r.xs :: rowA K.c t'.c.A t'.c.c t'.c.xs :: rowA K.m t'.mails.A t'.mails.c t'.mails.xs :: rowA K.k t'.com.A t'.com.c t'.com.xs :: townS f r c ml k :: R) w)
    (hp : (townS f r c ml k).p w → (townS f t'.r.xs t'.c.xs t'.mails.xs t'.com.xs).p w) (hv : vs = t'.vals) : WS ms w0 bs loc (townR K b f t' :: R) w := by
  subst hv
  exact ⟨hS.kp, hS.len, hS.loc, fun q hq => by
    rw [List.mem_cons] at hq
    rcases hq with rfl | hq
    · intro q hq
      simp only [townL, List.mem_cons, List.mem_nil_iff, or_false] at hq
      rcases hq with rfl | rfl | rfl | rfl | rfl | rfl
      · exact hS.res _ (.head _)
      · exact hS.res _ (.tail _ (.head _))
      · exact hS.res _ (.tail _ (.tail _ (.head _)))
      · exact hS.res _ (.tail _ (.tail _ (.tail _ (.head _))))
      · exact hS.res _ (.tail _ (.tail _ (.tail _ (.tail _ (.head _)))))
      · exact hp (hS.res _ (.tail _ (.tail _ (.tail _ (.tail _ (.tail _ (.head _)))))))
    · exact hS.res _ (.tail _ (.tail _ (.tail _ (.tail _ (.tail _ (.tail _ hq)))))),
    by have h1 := hS.nd; simpa [townR, townL, allR, townS] using h1, by have h1 := hS.lo; simpa [townR, townL, allR, townS] using h1⟩
end
/-! ### a call that turns a block of ours and the fact at the head -/
section
variable {C : Cx} {Q : Exit → Act → World → Prop} {R0 R : List Res} {m : Mch}
end
/-! ### what is known of a town -/
section
variable {t : CTown}
end
end Go.Proofs.YtbjakddkfgjkaaaGreat.Fw

namespace Go.Proofs.YtbjakddkfgjkaaaGreat.Fw
open Go.RowKit
/-! ### a town, and something that lies behind it -/
theorem town_f {K : TK} {b : Nat} {f : List Nat} {t : CTown} {x : Nat} (h : x ∈ f) : x ∈ (townR K b f t).fp := by
  show x ∈ (townL K b f t).flatMap Res.fp
  exact List.mem_flatMap.2 ⟨townS f t.r.xs t.c.xs t.mails.xs t.com.xs, (.tail _ (.tail _ (.tail _ (.tail _ (.tail _ (.head _)))))), h⟩
def townX (K : TK) (b : Nat) (f : List Nat) (t : CTown) (q : Res) : Res :=
  ⟨(townR K b f t).fp, fun w => (townR K b f t).p w ∧ ((∀ x, x ∈ q.fp → x ∈ f) → q.p w), fun h p => ⟨(townR K b f t).st h p.1, fun hs => q.st (fun x hx => h x (town_f (hs x hx))) (p.2 hs)⟩⟩
theorem Ow.x {K : TK} {b : Nat} {f : List Nat} {t : CTown} {q : Res} {w : World} (h : Ow (townX K b f t q) w) : Ow (townR K b f t) w := ⟨h.1.1, h.2.1, h.2.2⟩
section
variable {C : Cx} {Q : Exit → Act → World → Prop} {R0 R : List Res} {m : Mch} {K : TK} {b : Nat} {f : List Nat} {t : CTown} {q : Res}
/-! ### the block and the mails -/
def CTown.setm (t : CTown) (s : Sl DMail) : CTown := { t with mails := s }
end
/-! ### what is behind a town, when some of it is turned -/
theorem townOk.left {t : DTown} (h : townOk t) (k : Int) : townOk (t.left k) := h.setm (by have := h.ml; simp only [List.length_append, List.length_take, List.length_drop]; omega) fun m hm => (List.mem_append.1 hm).elim (fun q => h.mt m (List.mem_of_mem_take q)) fun q => h.mt m (List.mem_of_mem_drop q)
/-! ### commit, one after the other -/
section
variable {D : DTown} {T : CTown}
end
/-! ### mails -/
/-! ### what the functions answer -/
section
variable {t : CTown}
end
end Go.Proofs.YtbjakddkfgjkaaaGreat.Fw

namespace Go.Proofs.YtbjakddkfgjkaaaGreat.Fw
open Go.RowKit
/-! ### what a script answers, as it lies -/
structure DOut where
  r : List DReplica
  c : List DCustomer
  mails : List DMail
  com : List ByteArray
  lead : Int
  codes : List Int
  deriving Inhabited
structure COut where
  r : Sl CReplica
  c : Sl CCustomer
  mails : Sl DMail
  com : Sl ByteArray
  lead : Int
  codes : Sl Int
  deriving Inhabited
def COut.abs (x : COut) : DOut := { r := x.r.xs.map CReplica.abs, c := x.c.xs.map CCustomer.abs, mails := x.mails.xs, com := x.com.xs, lead := x.lead, codes := x.codes.xs }
instance : Lay COut where
  sub B w x := x.r.rd B w ∧ x.c.rd B w ∧ x.mails.rd B w ∧ x.com.rd B w ∧ x.codes.rd B w
  stay := fun {B w w' x} hs ⟨h0, h1, h2, h3, h4⟩ => ⟨Sl.rd.stay h0 hs, Sl.rd.stay h1 hs, Sl.rd.stay h2 hs, Sl.rd.stay h3 hs, Sl.rd.stay h4 hs⟩
  wide := fun {B B' w x} hs ⟨h0, h1, h2, h3, h4⟩ => ⟨Sl.rd.wide h0 hs, Sl.rd.wide h1 hs, Sl.rd.wide h2 hs, Sl.rd.wide h3 hs, Sl.rd.wide h4 hs⟩
  ok x := x.r.ok ∧ x.c.ok ∧ x.mails.ok ∧ x.com.ok ∧ x.codes.ok
  small x := Rds.small x.r ∧ Rds.small x.c ∧ Rds.small x.mails ∧ Rds.small x.com ∧ Rds.small x.codes
  okof := fun {B w x} ⟨h0, h1, h2, h3, h4⟩ => ⟨Sl.rd.ok h0, Sl.rd.ok h1, Sl.rd.ok h2, Sl.rd.ok h3, Sl.rd.ok h4⟩
  size := 6
  bytes := 128
  pos := by decide
  cells x := [.slice x.r.A x.r.n x.r.c, .slice x.c.A x.c.n x.c.c, .slice x.mails.A x.mails.n x.mails.c, .slice x.com.A x.com.n x.com.c, .int .i64 x.lead, .slice x.codes.A x.codes.n x.codes.c]
  len _ := rfl
  one _ := rfl
abbrev COut.val (x : COut) : Value := .agg #[.slice x.r.A x.r.n x.r.c, .slice x.c.A x.c.n x.c.c, .slice x.mails.A x.mails.n x.mails.c, .slice x.com.A x.com.n x.com.c, .int .i64 x.lead, .slice x.codes.A x.codes.n x.codes.c]
/-! ### 'make' -/
section
variable {C : Cx} {Q : Exit → Act → World → Prop} {R0 R : List Res} {m : Mch}
/-! ### things and what lies behind them -/
/-! ### a town in a block of ours -/
variable {K : TK} {f : List Nat} {t : CTown}
end
section
variable {C : Cx} {R0 R : List Res} {m : Mch}
theorem Me0 {fn : Func} {M : Int} (k : Int) (hm : M = k) (h : retV C.P fn m = some [vI k] := by kernel_rfl) (h0 : C.m = [] := by rfl) : JM C (bodyPost C.P fn fun e w' => e = .returned (.int .i64 M) ∧ Kp [] C.w0 w') R0 R m := by
  subst hm
  exact Mtp (.int .i64 M) rfl h h0
theorem Meb {fn : Func} {M : Bool} (k : Bool) (hm : M = k) (h : retV C.P fn m = some [vB k] := by kernel_rfl) (h0 : C.m = [] := by rfl) : JM C (bodyPost C.P fn fun e w' => e = .returned (.bool M) ∧ Kp [] C.w0 w') R0 R m := by
  subst hm
  exact Mtp (.bool M) rfl h h0
end
/-! ### a script -/
end Go.Proofs.YtbjakddkfgjkaaaGreat.Fw

