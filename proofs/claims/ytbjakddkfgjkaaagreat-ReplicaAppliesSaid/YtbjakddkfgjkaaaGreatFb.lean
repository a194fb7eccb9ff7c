/-
  Rules for code, loops, calls, drawn regions and rows of the call's own, over the symbolic step; the last step of a law.
  Conditions: none beyond those that each theorem states.
-/
import Derived.Deep.LoopGhost
import Derived.OrdersHeld
import Derived.StillTail
import Derived.Maps.AppendAt
import Derived.Laws.BytesString
import Derived.OpenShut
import Derived.JoinedCond
import Derived.Test.YtbjakddkfgjkaaaGreatFa
set_option linter.unusedVariables false
set_option linter.unusedSimpArgs false
namespace Go.Proofs.YtbjakddkfgjkaaaGreat.Fw
open Go.RowKit

section
variable {C : Cx} {R : List Res} {s : SS} {Q : Exit → Act → World → Prop}

/-! ### what stands behind a piece of code -/
theorem Qn {c : Code} (h : JC C c Q R s) : JQ C (Exit.then (c.wp C.P Q) Q) .normal R s := h
theorem Qe {K : Act → World → Prop} {i : Nat} (h : JQ C Q (.exit i) R s) : JQ C (Exit.then K Q) (.exit i) R s := h
theorem Qr {K : Act → World → Prop} (h : JQ C Q .ret R s) : JQ C (Exit.then K Q) .ret R s := h
theorem q_block_normal {i : Nat} (h : JQ C Q .normal R s) : JQ C (Exit.inBlock i Q) .normal R s := h
theorem Qb {i : Nat} (h : JQ C Q .ret R s) : JQ C (Exit.inBlock i Q) .ret R s := h
theorem Qh {i : Nat} (h : JQ C Q .normal R s) : JQ C (Exit.inBlock i Q) (.exit i) R s := by
  intro a w hs
  show (if i = i then Q .normal a w else Q (.exit i) a w)
  rw [if_pos rfl]
  exact h a w hs
theorem q_block_miss {i j : Nat} (hij : Nat.beq j i = false) (h : JQ C Q (.exit j) R s) : JQ C (Exit.inBlock i Q) (.exit j) R s := by
  intro a w hs
  have : ¬ j = i := fun e => by subst e; rw [Nat.beq_refl] at hij; cases hij
  have e : Exit.inBlock i Q (.exit j) a w = Q (.exit j) a w := by simp [Exit.inBlock, this]
  rw [e]
  exact h a w hs

/-! ### code -/
theorem Cs {x y : Code} (h : JC C x (Exit.then (y.wp C.P Q) Q) R s) : JC C (.seq x y) Q R s := fun a w hs => wp_seq (h a w hs)
theorem Ck (h : JQ C Q .normal R s) : JC C .skip Q R s := fun a w hs => wp_skip (h a w hs)
theorem c_exit {i : Nat} (h : JQ C Q (.exit i) R s) : JC C (.exit i) Q R s := fun a w hs => wp_exit (h a w hs)
theorem Cr (h : JQ C Q .ret R s) : JC C .ret Q R s := fun a w hs => wp_ret (h a w hs)
theorem Cb {i : Nat} {c : Code} (h : JC C c (Exit.inBlock i Q) R s) : JC C (.block i c) Q R s := fun a w hs => wp_block (h a w hs)
theorem Cg {id : Nat} {l : List Oper} (h : JL C l.toArray Q R s l) : JC C (.region id l.toArray false) Q R s := fun a w hs => wp_region_lit (h a w hs)
theorem Ln {ops : Array Oper} (h : JQ C Q .normal R s) : JL C ops Q R s [] := fun a w hs => wpList_nil (h a w hs)

/-- a test that is known -/
theorem Ci (b : Bool) {c : Operand} {x y : Code} (hc : ev s c = some (.v (.bool b))) (h : JC C (bif b then x else y) Q R s) : JC C (.cond c x y) Q R s := by
  intro a w hs
  obtain ⟨bs, hf, hn, hS⟩ := hs
  refine wp_cond (t := b) (ev_sound hf hc) ?_
  have := h a w ⟨bs, hf, hn, hS⟩
  cases b <;> exact this

/-! ### a loop: 'σ' what changes from round to round -/
theorem Cl {σ : Type} (I : σ → Prop) (μ : σ → Nat) (RS : σ → List Res) (S : σ → SS) {c : Code} (x0 : σ) (hI : I x0) (h0 : ∀ a w, Sat C R s a w → Sat C (RS x0) (S x0) a w)
    (h : ∀ x : σ, I x → JC C c (Exit.then (fun a w => ∃ y, I y ∧ μ y < μ x ∧ Sat C (RS y) (S y) a w) Q) (RS x) (S x)) : JC C (.loop c) Q R s := by
  intro a w hs
  refine wp_loop_ghost (fun n a w => ∃ x, I x ∧ μ x = n ∧ Sat C (RS x) (S x) a w) (μ x0) ⟨x0, hI, rfl, h0 a w hs⟩ ?_
  rintro n a w ⟨x, hIx, rfl, hx⟩
  exact Code.wp_mono (fun e a w q => by
    cases e with
    | normal => obtain ⟨y, h0, h1, h2⟩ := q; exact ⟨μ y, h1, y, h0, rfl, h2⟩
    | exit i => exact q
    | goto l => exact q
    | ret => exact q
    | panic c => exact q
    | outgrown => exact q) (h x hIx a w hx)
end
end Go.Proofs.YtbjakddkfgjkaaaGreat.Fw

namespace Go.Proofs.YtbjakddkfgjkaaaGreat.Fw
open Go.RowKit

section
variable {P : Program} {ops : Array Oper} {Q : Exit → Act → World → Prop} {md : Region.Mode} {S : World → Prop} {n : Nat}

/-- whatever order is picked; S holds behind every operation of the head, until one of X changes it -/
def wpG (P : Program) (md : Region.Mode) (ops : Array Oper) (Q : Exit → Act → World → Prop) (X : List Nat) (n : Nat) : Nat → (World → Prop) → Array Bool → Act → World → Prop
  | 0, _, listed, a, w => Region.ready md ops listed = [] ∧ Q .normal a w
  | fuel + 1, S, listed, a, w =>
    (Region.ready md ops listed = [] → Q .normal a w) ∧
    ∀ i ∈ Region.ready md ops listed, wpOp P ops Q i (fun a' w' => ∃ S', (i ∉ X → S' = S) ∧ (i < n → S' w') ∧ wpG P md ops Q X n fuel S' (listed.setIfInBounds i true) a' w') a w

theorem wpAny_of_G {X : List Nat} : ∀ (fuel : Nat) (S : World → Prop) (listed : Array Bool) (a : Act) (w : World), wpG P md ops Q X n fuel S listed a w → wpAny P md ops Q fuel listed a w
  | 0, _, _, _, _, h => h
  | fuel + 1, _, _, _, _, h => ⟨h.1, fun i hi => wpOp_mono (fun a' w' ⟨S', _, _, h'⟩ => wpAny_of_G fuel S' _ a' w' h') (h.2 i hi)⟩

/-- the tail is reached only behind the whole head -/
def tailB (md : Region.Mode) (ops : Array Oper) (n : Nat) : Bool := Nat.beq n ops.size || (Nat.blt n ops.size && Region.sinkB md ops n && Region.chainB md ops n)

theorem head_first {listed : Array Bool} (hT : tailB md ops n = true) (inv : HeadInv md ops n listed) {i j : Nat} (hi : i < n) (hun : listed.getD i true = false) (hj : j ∈ Region.ready md ops listed) : j < n := by
  rcases Nat.lt_or_ge j n with h | h
  · exact h
  · exfalso
    simp only [tailB, Bool.or_eq_true, Bool.and_eq_true] at hT
    rcases hT with h0 | ⟨⟨h1, h2⟩, h3⟩
    · have e : n = ops.size := Nat.eq_of_beq_eq_true h0
      obtain ⟨_, oj, hoj, _⟩ := mem_ready.1 hj
      have := (Array.getElem?_eq_some_iff.1 hoj).1
      omega
    · exact tail_waits h2 h3 (by simpa using h1) inv _ i rfl hi hun j h hj

theorem wpG_first {X : List Nat} {T : World → Prop} {i : Nat} {oi : Oper} {v : Value} (hi : ops[i]? = some oi) (hsel : ∀ (j : Nat) (o : Oper) cs b, ops[j]? = some o → o.op ≠ .select cs b)
    (hT : tailB md ops n = true) (hin : i < n) (hiX : i ∉ X) (hQ : ∀ c a w, Q (.panic c) (a.put oi.dst v) w → Q (.panic c) a w) (hX : (∀ w, T w) ∨ X.all (fun j => Region.waitsFor md ops j i) = true) :
    ∀ (fuel : Nat) (S : World → Prop) (listed : Array Bool) (a : Act) (w : World), HeadInv md ops n listed →
      (∀ j oj, ops[j]? = some oj → j ≠ i → listed.getD j true = false → (∀ e ∈ oj.after, Region.binds md e = true → e.on ≠ i) → oi.apart ops oj = true) →
      i ∈ Region.ready md ops listed → (∀ w, S w → T w) → YieldsIf P ops T oi v a → S w →
      wpG P md ops Q X n fuel S (listed.setIfInBounds i true) (a.put oi.dst v) w → wpG P md ops Q X n (fuel + 1) S listed a w := by
  intro fuel
  induction fuel with
  | zero =>
    intro S listed a w inv _ hr hST hy hS H
    refine ⟨fun h => (by rw [h] at hr; cases hr), fun j hj => ?_⟩
    by_cases hji : j = i
    · subst hji; exact hy.wpOp hi (hST w hS) ⟨S, fun _ => rfl, fun _ => hS, H⟩
    · have := ready_mono hj hji
      rw [H.1] at this
      cases this
  | succ fuel ih =>
    intro S listed a w inv hfree hr hST hy hS H
    have hun := (mem_ready.1 hr).1
    refine ⟨fun h => (by rw [h] at hr; cases hr), fun j hj => ?_⟩
    have hjn : j < n := head_first hT inv hin hun hj
    by_cases hji : j = i
    · subst hji; exact hy.wpOp hi (hST w hS) ⟨S, fun _ => rfl, fun _ => hS, H⟩
    · have h1 := H.2 j (ready_mono hj hji)
      obtain ⟨hjun, oj, hoj, hall⟩ := mem_ready.1 hj
      have hnot : ∀ e ∈ oj.after, Region.binds md e = true → e.on ≠ i := fun e he hb heq => by
        have h1 := hall e he hb
        rw [heq, getD_both hun] at h1
        cases h1
      have hTX : (∀ w, T w) ∨ j ∉ X := by
        rcases hX with h | h
        · exact .inl h
        · refine .inr fun hjX => ?_
          obtain ⟨oj', hoj', e, he, hb, hon⟩ := Region.waitsFor_spec (List.all_eq_true.1 h j hjX)
          rw [hoj] at hoj'
          cases hoj'
          exact hnot e he hb hon
      have h2 := wpOp_putIf hoj (hfree j oj hoj hji hjun hnot) (fun cs b => hsel i oi cs b hi) (fun cs b => hsel j oj cs b hoj) hQ hy h1
      have hfree' : ∀ k ok, ops[k]? = some ok → k ≠ i → (listed.setIfInBounds j true).getD k true = false →
          (∀ e ∈ ok.after, Region.binds md e = true → e.on ≠ i) → oi.apart ops ok = true := fun k ok hk hki hun hno => by
        refine hfree k ok hk hki ?_ hno
        by_cases hjk : j = k
        · subst hjk; exact hjun
        · rw [getD_set_ne true hjk] at hun; exact hun
      refine wpOp_mono (fun a' w' h3 => ?_) h2
      obtain ⟨hy', S', h4, h5, h6⟩ := h3
      refine ⟨S', h4, h5, ih S' (listed.setIfInBounds j true) a' w' (inv.set hj hjn) hfree' (ready_mono hr (Ne.symm hji)) ?_ hy' (h5 hjn) ?_⟩
      · rcases hTX with h | h
        · exact fun w _ => h w
        · rw [h4 h]; exact hST
      · rw [Array.setIfInBounds_comm _ _ hji]
        exact h6

/-- the walk in an order of our choice. 'q': a quiet operation that needs S; 'p': one that needs none; 'b': one of those that may come up, and the others; 'x': the only one that may come up, and S is another behind it -/
inductive Tr where
  | nil
  | z
  | q (i : Nat) (r : Tr)
  | p (i : Nat) (r : Tr)
  | b (i : Nat) (r alt : Tr)
  | x (i : Nat) (r : Tr)
def Tr.e (i : Nat) (r : Tr) : Tr := .b i r .z
def Tr.heads : Tr → List Nat
  | .b i _ alt => i :: alt.heads
  | _ => []

def HW (P : Program) (ops : Array Oper) (Q : Exit → Act → World → Prop) (n : Nat) : (World → Prop) → Tr → Act → World → Prop
  | _, .nil, a, w => wpList P ops Q (ops.toList.drop n) a w
  | _, .z, _, _ => True
  | S, .q i r, a, w => S w ∧ ∃ oi v, ops[i]? = some oi ∧ YieldsIf P ops S oi v a ∧ HW P ops Q n S r (a.put oi.dst v) w
  | S, .p i r, a, w => S w ∧ ∃ oi v, ops[i]? = some oi ∧ YieldsIf P ops (fun _ => True) oi v a ∧ HW P ops Q n S r (a.put oi.dst v) w
  | S, .b i r alt, a, w => wpOp P ops Q i (fun a' w' => S w' ∧ HW P ops Q n S r a' w') a w ∧ HW P ops Q n S alt a w
  | _, .x i r, a, w => ∃ S' : World → Prop, wpOp P ops Q i (fun a' w' => S' w' ∧ HW P ops Q n S' r a' w') a w

def orderB (md : Region.Mode) (ops : Array Oper) (X : List Nat) (n : Nat) : Nat → Bool → Tr → Array Bool → Bool
  | 0, true, .nil, listed => Region.seqB md ops (ops.size - n) n listed
  | k + 1, true, .q i r, listed => Nat.blt i n && !X.contains i && X.all (fun j => Region.waitsFor md ops j i) && (Region.ready md ops listed).contains i && Region.free md ops listed i && orderB md ops X n k true r (listed.setIfInBounds i true)
  | k + 1, true, .p i r, listed => Nat.blt i n && !X.contains i && (Region.ready md ops listed).contains i && Region.free md ops listed i && orderB md ops X n k true r (listed.setIfInBounds i true)
  | k + 1, top, .b i r alt, listed => (!top || decide (Region.ready md ops listed = i :: alt.heads)) && Nat.blt i n && !X.contains i && orderB md ops X n k true r (listed.setIfInBounds i true) && orderB md ops X n (k + 1) false alt listed
  | k + 1, true, .x i r, listed => Nat.blt i n && decide (Region.ready md ops listed = [i]) && X.contains i && orderB md ops X n k true r (listed.setIfInBounds i true)
  | _, false, .z, _ => true
  | _, _, _, _ => false

theorem wpG_of_seq {X : List Nat} (hXn : X.all (Nat.blt · n) = true) : ∀ (l : List Oper) (k : Nat) (S : World → Prop) (listed : Array Bool) (a : Act) (w : World), n ≤ k → (∀ j, l[j]? = ops[k + j]?) →
    Region.seqB md ops l.length k listed = true → wpList P ops Q l a w → wpG P md ops Q X n l.length S listed a w
  | [], _, _, _, _, _, _, _, hB, h => ⟨by simpa [Region.seqB] using hB, h⟩
  | o :: l, k, S, listed, a, w, hk, hl, hB, h => by
    have h0 : ops[k]? = some o := by simpa using (hl 0).symm
    simp only [List.length_cons, Region.seqB, Bool.and_eq_true, decide_eq_true_eq] at hB
    refine ⟨fun h1 => (by rw [hB.1] at h1; cases h1), fun i hi => ?_⟩
    rw [hB.1] at hi
    have hik : i = k := by simpa using hi
    subst hik
    have hw : wpOp P ops Q i (wpList P ops Q l) a w := by unfold wpOp; simp only [h0]; exact h
    exact wpOp_mono (fun a' w' h' => ⟨S, fun _ => rfl, fun hin => absurd hin (by omega), wpG_of_seq hXn l (i + 1) S _ a' w' (by omega) (fun j => by have := hl (j + 1); simpa [Nat.add_assoc, Nat.add_comm 1 j] using this) hB.2 h'⟩) hw

theorem wpG_of_HW {X : List Nat} (hXn : X.all (Nat.blt · n) = true) (hsel : Region.noSelect ops = true) (hT : tailB md ops n = true) (hQ : ∀ c a d v w, Q (.panic c) (Act.put a d v) w → Q (.panic c) a w) :
    ∀ (t : Tr) (k : Nat) (S : World → Prop) (listed : Array Bool) (a : Act) (w : World), HeadInv md ops n listed → HW P ops Q n S t a w →
      (orderB md ops X n k true t listed = true → wpG P md ops Q X n (k + (ops.size - n)) S listed a w) ∧
      (orderB md ops X n k false t listed = true → ∀ j ∈ t.heads, j ∈ Region.ready md ops listed → ∃ k', k = k' + 1 ∧ wpOp P ops Q j (fun a' w' => ∃ S', (j ∉ X → S' = S) ∧ (j < n → S' w') ∧ wpG P md ops Q X n (k' + (ops.size - n)) S' (listed.setIfInBounds j true) a' w') a w) := by
  intro t
  induction t with
  | nil =>
    intro k S listed a w inv h
    refine ⟨fun hB => ?_, fun hB => (by cases k <;> simp [orderB] at hB)⟩
    cases k with
    | succ k => simp [orderB] at hB
    | zero =>
      have hl : (ops.toList.drop n).length = ops.size - n := by simp
      simp only [orderB] at hB
      have := wpG_of_seq (P := P) (Q := Q) (n := n) hXn (ops.toList.drop n) n S listed a w (Nat.le_refl _) (fun j => by simp [List.getElem?_drop]) (by rw [hl]; exact hB) h
      rw [hl] at this
      simpa using this
  | z =>
    intro k S listed a w inv h
    exact ⟨fun hB => (by cases k <;> simp [orderB] at hB), fun _ j hj => by simp [Tr.heads] at hj⟩
  | q i r ih =>
    intro k S listed a w inv h
    refine ⟨fun hB => ?_, fun hB => (by cases k <;> simp [orderB] at hB)⟩
    cases k with
    | zero => simp [orderB] at hB
    | succ k =>
      simp only [orderB, Bool.and_eq_true] at hB
      obtain ⟨⟨⟨⟨⟨h1, h0⟩, hX⟩, h2⟩, h3⟩, h4⟩ := hB
      obtain ⟨hS, oi, v, hoi, hy, hH⟩ := h
      have hin : i < n := by simpa using h1
      have hr : i ∈ Region.ready md ops listed := by simpa using h2
      have := wpG_first (X := X) hoi (Region.noSelect_spec hsel) hT hin (by simpa using h0) (fun c a w => hQ c a _ _ w) (.inr hX) _ S listed a w inv (Region.free_spec hoi h3) hr (fun _ h => h) hy hS ((ih k S _ _ w (inv.set hr hin) hH).1 h4)
      simpa [Nat.add_right_comm] using this
  | p i r ih =>
    intro k S listed a w inv h
    refine ⟨fun hB => ?_, fun hB => (by cases k <;> simp [orderB] at hB)⟩
    cases k with
    | zero => simp [orderB] at hB
    | succ k =>
      simp only [orderB, Bool.and_eq_true] at hB
      obtain ⟨⟨⟨⟨h1, h0⟩, h2⟩, h3⟩, h4⟩ := hB
      obtain ⟨hS, oi, v, hoi, hy, hH⟩ := h
      have hin : i < n := by simpa using h1
      have hr : i ∈ Region.ready md ops listed := by simpa using h2
      have := wpG_first (X := X) hoi (Region.noSelect_spec hsel) hT hin (by simpa using h0) (fun c a w => hQ c a _ _ w) (.inl fun _ => trivial) _ S listed a w inv (Region.free_spec hoi h3) hr (fun _ _ => trivial) hy hS ((ih k S _ _ w (inv.set hr hin) hH).1 h4)
      simpa [Nat.add_right_comm] using this
  | b i r alt ih1 ih2 =>
    intro k S listed a w inv h
    have key : ∀ (k : Nat), i < n → i ∉ X → orderB md ops X n k true r (listed.setIfInBounds i true) = true → i ∈ Region.ready md ops listed →
        wpOp P ops Q i (fun a' w' => ∃ S', (i ∉ X → S' = S) ∧ (i < n → S' w') ∧ wpG P md ops Q X n (k + (ops.size - n)) S' (listed.setIfInBounds i true) a' w') a w := fun k h1 h0 h4 hr =>
      wpOp_mono (fun a' w' h' => ⟨S, fun _ => rfl, fun _ => h'.1, (ih1 k S _ a' w' (inv.set hr h1) h'.2).1 h4⟩) h.1
    cases k with
    | zero => exact ⟨fun hB => (by simp [orderB] at hB), fun hB => (by simp [orderB] at hB)⟩
    | succ k =>
      refine ⟨fun hB => ?_, fun hB j hj hr => ?_⟩
      · simp only [orderB, Bool.and_eq_true, Bool.not_true, Bool.false_or, decide_eq_true_eq] at hB
        obtain ⟨⟨⟨⟨h2, h1⟩, h0⟩, h4⟩, h5⟩ := hB
        rw [show k + 1 + (ops.size - n) = (k + (ops.size - n)) + 1 by omega]
        refine ⟨fun h0 => (by rw [h2] at h0; cases h0), fun j hj => ?_⟩
        have hj' := hj
        rw [h2] at hj'
        rcases List.mem_cons.1 hj' with rfl | hj'
        · exact key k (by simpa using h1) (by simpa using h0) h4 hj
        · obtain ⟨k', hk, hh⟩ := (ih2 (k + 1) S listed a w inv h.2).2 h5 j hj' hj
          have : k' = k := by omega
          subst this
          exact hh
      · simp only [orderB, Bool.and_eq_true, Bool.not_false, Bool.true_or, true_and] at hB
        obtain ⟨⟨⟨h1, h0⟩, h4⟩, h5⟩ := hB
        rcases List.mem_cons.1 hj with rfl | hj
        · exact ⟨k, rfl, key k (by simpa using h1) (by simpa using h0) h4 hr⟩
        · exact (ih2 (k + 1) S listed a w inv h.2).2 h5 j hj hr
  | x i r ih =>
    intro k S listed a w inv h
    refine ⟨fun hB => ?_, fun hB => (by cases k <;> simp [orderB] at hB)⟩
    cases k with
    | zero => simp [orderB] at hB
    | succ k =>
      simp only [orderB, Bool.and_eq_true, decide_eq_true_eq] at hB
      obtain ⟨⟨⟨h1, h2⟩, h0⟩, h4⟩ := hB
      have hin : i < n := by simpa using h1
      have hr : i ∈ Region.ready md ops listed := by rw [h2]; simp
      obtain ⟨S', hS'⟩ := h
      rw [show k + 1 + (ops.size - n) = (k + (ops.size - n)) + 1 by omega]
      refine ⟨fun h0 => (by rw [h2] at h0; cases h0), fun j hj => ?_⟩
      rw [h2] at hj
      have : j = i := by simpa using hj
      subst this
      exact wpOp_mono (fun a' w' h' => ⟨S', fun hne => absurd (by simpa using h0) hne, fun _ => h'.1, (ih k S' _ a' w' (inv.set hr hin) h'.2).1 h4⟩) hS'

def drawB (md : Region.Mode) (ops : Array Oper) (X : List Nat) (n : Nat) (t : Tr) : Bool :=
  X.all (Nat.blt · n) && Region.noSelect ops && tailB md ops n && Nat.ble n ops.size && orderB md ops X n n true t (Array.replicate ops.size false)

theorem wp_region_text {id : Nat} {a : Act} {w : World} (X : List Nat) (t : Tr) (hm : P.follows .mixedOrders = true) (hB : drawB .any ops X n t = true) (hQ : ∀ c a d v w, Q (.panic c) (Act.put a d v) w → Q (.panic c) a w)
    (h : HW P ops Q n S t a { w with drawn := w.drawn + 1 }) : (Code.region id ops true).wp P Q a w := by
  simp only [drawB, Bool.and_eq_true] at hB
  obtain ⟨⟨⟨⟨h0, h1⟩, h2⟩, h3⟩, h5⟩ := hB
  have hn : n ≤ ops.size := Nat.le_of_ble_eq_true h3
  have inv0 : HeadInv .any ops n (Array.replicate ops.size false) :=
    ⟨by simp, fun j oj _ hl => (by rw [getD_replicate_false] at hl; cases hl), fun t _ ht => getD_in (by simpa using ht) (getD_replicate_false _ _)⟩
  have H := (wpG_of_HW h0 h1 h2 hQ t n S _ a _ inv0 h).1 h5
  rw [show n + (ops.size - n) = ops.size by omega] at H
  exact wp_region_any hm (wpAny_of_G _ _ _ _ _ H)
end
end Go.Proofs.YtbjakddkfgjkaaaGreat.Fw

namespace Go.Proofs.YtbjakddkfgjkaaaGreat.Fw
open Go.RowKit

/-! ### the world behind a call -/
section
variable {m : List Nat} {w0 : World} {bs : List Nat} {loc : List Blk} {R : List Res} {w w' : World}

theorem WS.mem_bs (h : WS m w0 bs loc R w) {i : Nat} {b : Blk} (hb : loc[i]? = some b) : bs.getD i 0 ∈ bs := by
  have hi : i < loc.length := (List.getElem?_eq_some_iff.1 hb).1
  have hl := h.len
  rw [List.getD_eq_getElem?_getD, List.getElem?_eq_getElem (by omega)]
  exact List.getElem_mem _
theorem WS.lt (h : WS m w0 bs loc R w) {b : Nat} (hb : b ∈ bs ++ R.flatMap Res.fp) : b < w.heap.size := (h.lo b hb).2

/-- nothing of ours has turned -/
theorem WS.pure (h : WS m w0 bs loc R w) (k : Kp [] w w') : WS m w0 bs loc R w' := by
  have hsame : ∀ b, b < w.heap.size → w'.heap[b]? = w.heap[b]? := fun b hb => k.block b hb (by simp)
  refine ⟨h.kp.trans (k.mono (by simp)), h.len, fun i b hb hne => ?_, fun r hr => r.st (fun b hb => hsame b (h.lt (List.mem_append_right _ (List.mem_flatMap.2 ⟨r, hr, hb⟩)))) (h.res r hr), h.nd,
    fun b hb => ⟨(h.lo b hb).1, Nat.lt_of_lt_of_le (h.lo b hb).2 k.size⟩⟩
  rw [hsame _ (h.lt (List.mem_append_left _ (h.mem_bs hb)))]
  exact h.loc i b hb hne

/-- something new besides -/
theorem WS.new (h : WS m w0 bs loc R w) (r : Res) (hp : r.p w) (hn : r.fp.Nodup) (hlo : ∀ b, b ∈ r.fp → (w0.heap.size ≤ b ∨ b ∈ m) ∧ b < w.heap.size ∧ b ∉ bs ++ R.flatMap Res.fp) : WS m w0 bs loc (r :: R) w := by
  refine ⟨h.kp, h.len, h.loc, ?_, ?_, ?_⟩
  · intro x hx
    rcases List.mem_cons.1 hx with rfl | hx
    · exact hp
    · exact h.res x hx
  · have h1 := List.nodup_append.1 h.nd
    rw [List.flatMap_cons, List.nodup_append]
    refine ⟨h1.1, List.nodup_append.2 ⟨hn, h1.2.1, ?_⟩, ?_⟩
    · rintro x hx y hy rfl
      exact (hlo x hx).2.2 (List.mem_append_right _ hy)
    · rintro x hx y hy rfl
      rcases List.mem_append.1 hy with hy | hy
      · exact (hlo x hy).2.2 (List.mem_append_left _ hx)
      · exact h1.2.2 x hx x hy rfl
  · intro b hb
    rw [List.flatMap_cons] at hb
    rcases List.mem_append.1 hb with hb | hb
    · exact h.lo b (List.mem_append_left _ hb)
    · rcases List.mem_append.1 hb with hb | hb
      · exact ⟨(hlo b hb).1, (hlo b hb).2.1⟩
      · exact h.lo b (List.mem_append_right _ hb)

/-- a call that hands back something in new memory -/
theorem WS.fresh (h : WS m w0 bs loc R w) (k : Kp [] w w') (r : Res) (hp : r.p w') (hn : r.fp.Nodup) (hlo : ∀ b, b ∈ r.fp → w.heap.size ≤ b ∧ b < w'.heap.size) : WS m w0 bs loc (r :: R) w' := by
  refine (h.pure k).new r hp hn fun b hb => ⟨.inl (Nat.le_trans h.kp.size (hlo b hb).1), (hlo b hb).2, fun hm => ?_⟩
  have := h.lt hm
  have := (hlo b hb).1
  omega

/-- a fact that is not wanted any more -/
theorem WS.drop1 {r : Res} (h : WS m w0 bs loc (r :: R) w) : WS m w0 bs loc R w := by
  refine ⟨h.kp, h.len, h.loc, fun x hx => h.res x (List.mem_cons_of_mem _ hx), ?_, fun b hb => h.lo b ?_⟩
  · have h1 := h.nd
    rw [List.flatMap_cons] at h1
    have h2 := List.nodup_append.1 h1
    exact List.nodup_append.2 ⟨h2.1, (List.nodup_append.1 h2.2.1).2.1, fun x hx y hy => h2.2.2 x hx y (List.mem_append_right _ hy)⟩
  · rcases List.mem_append.1 hb with hb | hb
    · exact List.mem_append_left _ hb
    · rw [List.flatMap_cons]
      exact List.mem_append_right _ (List.mem_append_right _ hb)
/-- facts of a sublist -/
theorem WS.sub (h : WS m w0 bs loc R w) {R' : List Res} (hs : R'.Sublist R) : WS m w0 bs loc R' w := by
  have hf : (R'.flatMap Res.fp).Sublist (R.flatMap Res.fp) := by
    induction hs with
    | slnil => exact List.Sublist.refl _
    | cons a _ ih => exact List.Sublist.trans (ih (h.drop1)) (by rw [List.flatMap_cons]; exact List.sublist_append_right _ _)
    | cons_cons a _ ih =>
      rw [List.flatMap_cons, List.flatMap_cons]
      exact List.Sublist.append (List.Sublist.refl _) (ih (h.drop1))
  refine ⟨h.kp, h.len, h.loc, fun x hx => h.res x (hs.subset hx), h.nd.sublist (List.Sublist.append (List.Sublist.refl _) hf), fun b hb => h.lo b ?_⟩
  rcases List.mem_append.1 hb with hb | hb
  · exact List.mem_append_left _ hb
  · exact List.mem_append_right _ (hf.subset hb)

/-- the fact at the head is another one now; only its blocks have turned -/
theorem WS.turn {r : Res} (h : WS m w0 bs loc (r :: R) w) (k : Kp r.fp w w') (r' : Res) (hp : r'.p w') (hn : r'.fp.Nodup) (hlo : ∀ b, b ∈ r'.fp → b ∈ r.fp ∨ (w.heap.size ≤ b ∧ b < w'.heap.size)) : WS m w0 bs loc (r' :: R) w' := by
  have hd := h.drop1
  have h1 := h.nd
  rw [List.flatMap_cons] at h1
  have h2 := List.nodup_append.1 h1
  have h3 := List.nodup_append.1 h2.2.1
  have hmr : ∀ b, b ∈ r.fp → b ∈ bs ++ (r :: R).flatMap Res.fp := fun b hb => by
    rw [List.flatMap_cons]; exact List.mem_append_right _ (List.mem_append_left _ hb)
  have hno : ∀ b, b ∈ bs ++ R.flatMap Res.fp → b ∉ r.fp := by
    intro b hb hr
    rcases List.mem_append.1 hb with hb | hb
    · exact h2.2.2 b hb b (List.mem_append_left _ hr) rfl
    · exact h3.2.2 b hr b hb rfl
  have hsame : ∀ b, b ∈ bs ++ R.flatMap Res.fp → w'.heap[b]? = w.heap[b]? := fun b hb => k.block b (hd.lt hb) (hno b hb)
  have hd' : WS m w0 bs loc R w' := by
    refine ⟨h.kp.step k fun i hi => ((h.lo i (hmr i hi)).1).symm, hd.len, fun i b hb hne => ?_, fun x hx => x.st (fun b hb => hsame b (List.mem_append_right _ (List.mem_flatMap.2 ⟨x, hx, hb⟩))) (hd.res x hx), hd.nd,
      fun b hb => ⟨(hd.lo b hb).1, Nat.lt_of_lt_of_le (hd.lo b hb).2 k.size⟩⟩
    rw [hsame _ (List.mem_append_left _ (hd.mem_bs hb))]
    exact hd.loc i b hb hne
  refine hd'.new r' hp hn fun b hb => ?_
  rcases hlo b hb with hr | ⟨h4, h5⟩
  · exact ⟨(h.lo b (hmr b hr)).1, Nat.lt_of_lt_of_le (h.lt (hmr b hr)) k.size, fun hm => hno b hm hr⟩
  · refine ⟨.inl (Nat.le_trans h.kp.size h4), h5, fun hm => ?_⟩
    have := hd.lt hm
    omega

/-- a call has turned a local block -/
theorem WS.blk (h : WS m w0 bs loc R w) (i : Nat) (b : Blk) (hb : loc[i]? = some b) (cs : List SV) (k : Kp [bs.getD i 0] w w') (hw : w'.heap[bs.getD i 0]? = some (.cells (cs.map (den bs)).toArray b.ty (0, 0))) :
    WS m w0 bs (loc.set i ⟨b.ty, cs⟩) R w' := by
  have hl := h.len
  have hi : i < loc.length := (List.getElem?_eq_some_iff.1 hb).1
  have hib : i < bs.length := by omega
  have hg : bs.getD i 0 = bs[i] := by simp [hib]
  have hmi := h.mem_bs hb
  have h1 := List.nodup_append.1 h.nd
  have hsame : ∀ k, k < w.heap.size → k ≠ bs.getD i 0 → w'.heap[k]? = w.heap[k]? := fun x hk1 hk2 => k.block x hk1 (by simpa using hk2)
  refine ⟨?_, by simp [hl], ?_, ?_, h.nd, fun x hx => ⟨(h.lo x hx).1, Nat.lt_of_lt_of_le (h.lo x hx).2 k.size⟩⟩
  · refine h.kp.step k (fun x hk => ?_)
    simp only [List.mem_singleton] at hk
    subst hk
    exact (h.lo _ (List.mem_append_left _ hmi)).1.symm
  · intro j c hc hne
    by_cases hij : i = j
    · subst hij
      rw [List.getElem?_set_self hi] at hc
      injection hc with hc
      subst hc
      exact hw
    · rw [List.getElem?_set_ne hij] at hc
      have hj : j < loc.length := (List.getElem?_eq_some_iff.1 hc).1
      have hjb : j < bs.length := by omega
      have hgj : bs.getD j 0 = bs[j] := by simp [hjb]
      rw [hsame _ (h.lo _ (List.mem_append_left _ (h.mem_bs hc))).2 (by
        rw [hg, hgj]
        intro he
        exact hij ((List.getElem?_inj hib h1.1).1 (by rw [List.getElem?_eq_getElem hib, List.getElem?_eq_getElem hjb, he])))]
      exact h.loc j c hc hne
  · intro r hr
    refine r.st (fun x hk1 => hsame x (h.lo x (List.mem_append_right _ (List.mem_flatMap.2 ⟨r, hr, hk1⟩))).2 ?_) (h.res r hr)
    rintro rfl
    exact h1.2.2 _ hmi _ (List.mem_flatMap.2 ⟨r, hr, hk1⟩) rfl
/-- a block of which nothing is wanted any more -/
theorem WS.mask (h : WS m w0 bs loc R w) (i : Nat) (t : Nat) : WS m w0 bs (loc.set i ⟨t, []⟩) R w := by
  refine ⟨h.kp, by simp [h.len], fun j c hc hne => ?_, h.res, h.nd, h.lo⟩
  by_cases hij : i = j
  · subst hij
    by_cases hi : i < loc.length
    · rw [List.getElem?_set_self hi] at hc
      injection hc with hc
      subst hc
      exact absurd rfl hne
    · rw [List.getElem?_eq_none (by simpa using hi)] at hc
      cases hc
  · rw [List.getElem?_set_ne hij] at hc
    exact h.loc j c hc hne
end

/-! ### entry and return -/
def envFrom : Nat → List SV → Env
  | _, [] => []
  | k, x :: r => (k, x) :: envFrom (k + 1) r
theorem get_envFrom : ∀ (l : List SV) (k t : Nat) (x : SV), get (envFrom k l) t = some x → k ≤ t ∧ l[t - k]? = some x
  | [], k, t, x, h => by simp [envFrom, get] at h
  | y :: r, k, t, x, h => by
    simp only [envFrom, get] at h
    cases hb : Nat.beq k t with
    | true =>
      have e : k = t := Nat.eq_of_beq_eq_true hb
      subst e
      simp only [hb, cond_true, Option.some.injEq] at h
      subst h
      simp
    | false =>
      simp only [hb, cond_false] at h
      obtain ⟨h1, h2⟩ := get_envFrom r (k + 1) t x h
      exact ⟨by omega, by rw [show t - k = (t - (k + 1)) + 1 by omega]; simpa using h2⟩

theorem Cj {P : Program} {f : Nat} {fn : Func} {c : Code} {w : World} {R' : Ending → World → Prop} (n : Nat) (m : List Nat) (hf : P.funcs[f]? = some fn) (hb : fn.body = some c) (hn : fn.ntmps = n)
    (bs0 : List Nat) (loc0 : List Blk) (R0 : List Res) (xs : List SV) (vs : List Value) (hlen : Nat.ble vs.length n = true) (hx : xs.map (den bs0) = vs) (hW : WS m w bs0 loc0 R0 w)
    (h : JC ⟨P, n, m, w⟩ c (bodyPost P fn R') R0 ⟨envFrom 0 xs, loc0⟩) : Calls P f vs.toArray w R' := by
  refine calls_of_wp hf hb (h _ _ ⟨bs0, ⟨rfl, fun t x ht => ?_⟩, ?_, hW⟩)
  · obtain ⟨_, h2⟩ := get_envFrom xs 0 t x ht
    have h3 : vs[t]? = some (den bs0 x) := by rw [← hx]; simp only [Nat.sub_zero] at h2; simp [h2]
    have ht : t < vs.length := (List.getElem?_eq_some_iff.1 h3).1
    have h4 : (vs.toArray ++ Array.replicate (fn.ntmps - vs.toArray.size) undef)[t]? = some (den bs0 x) := by
      rw [Array.getElem?_append_left (by simpa using ht)]
      simpa using h3
    simp only [Array.getD_eq_getD_getElem?, h4, Option.getD_some]
  · have := Nat.le_of_ble_eq_true hlen
    simp [hn]
    omega

theorem WS.start (w : World) : WS [] w [] [] [] w := ⟨Kp.refl _ _, rfl, fun i b hb => by simp at hb, fun r hr => by simp at hr, by simp, fun b hb => by simp at hb⟩
/-- the results -/
def resV (P : Program) (s : SS) : List ResultVar → Option (List SV)
  | [] => some []
  | .tmp t :: r =>
    match get s.env t, resV P s r with
    | some x, some l => some (x :: l)
    | _, _ => none
  | .cell t T :: r =>
    match get s.env t, resV P s r with
    | some (.p i o), some l =>
      if (P.underlying T).isNone then none else
      match s.loc[i]? with
      | some b =>
        if isAggB P T then
          match valsOf ((b.cs.drop o).take (P.cellsOf T)) with
          | some vs => if vs.length = P.cellsOf T then some (.v (.agg vs.toArray) :: l) else none
          | none => none
        else match b.cs[o]? with
          | some x => some (x :: l)
          | none => none
      | none => none
    | _, _ => none
def retOf : List Value → Value
  | [x] => x
  | l => .tuple l.toArray

def resOne (tmps : Array Value) : ResultVar → Sem Value
  | .tmp t => Pure.pure (tmps.getD t undef)
  | .cell a t => do loadVar t (← asAddr (tmps.getD a undef))
theorem resV_run (P : Program) (s : SS) (bs : List Nat) (a : Act) (w : World) (hf : Fr bs s.env a) (hl : LocOK bs s.loc w) : ∀ (l : List ResultVar) (xs : List SV), resV P s l = some xs →
    (l.mapM (resOne a.tmps)).run P w = .ok (xs.map (den bs)) w
  | [], xs, h => by simp [resV] at h; subst h; simp
  | .tmp t :: r, xs, h => by
    simp only [resV] at h
    split at h
    · rename_i x l hx hl'
      injection h with h
      subst h
      have ih := resV_run P s bs a w hf hl r l hl'
      simp only [List.mapM_cons, resOne, Sem.run_bind, Sem.run_pure, Result.andThen_ok, ih, hf.2 t x hx, List.map_cons]
    · cases h
  | .cell t T :: r, xs, h => by
    simp only [resV] at h
    split at h
    · rename_i i o l hx hl'
      have ih := resV_run P s bs a w hf hl r l hl'
      split at h
      · cases h
      · rename_i hU
        have hU' := some_of_none hU
        have hI := info_of_underlying (Bool.eq_false_iff.2 hU)
        split at h
        · rename_i b hb
          split at h
          · rename_i hagg
            split at h
            · rename_i vs hvs
              split at h
              · rename_i hlen
                injection h with h
                subst h
                have hc : CellsAt w (adr bs i o) vs := by
                  intro j v hj
                  have h1 := valsOf_sound bs hvs
                  rw [← h1] at hj
                  simp only [List.getElem?_map, List.getElem?_take, List.getElem?_drop] at hj
                  split at hj
                  · obtain ⟨y, hy, rfl⟩ := Option.map_eq_some_iff.1 hj
                    rw [adr_add]
                    exact hl.cell hb hy
                  · simp at hj
                simp only [List.mapM_cons, resOne, Sem.run_bind, hf.2 t _ hx, den, asAddr, Sem.run_pure, Result.andThen_ok, loadVar_agg P w T _ vs hagg hlen hI hc, ih, List.map_cons]
              · cases h
            · cases h
          · rename_i hagg
            split at h
            · rename_i y hy
              injection h with h
              subst h
              have hc : w.cell? (adr bs i o) = some (den bs y) := hl.cell hb hy
              have e1 := hf.2 t _ hx
              simp only [den] at e1
              simp only [List.mapM_cons, resOne, Sem.run_bind, e1, asAddr, Sem.run_pure, Result.andThen_ok, loadVar_one P w T _ _ (by simpa using hagg) hU' hc, ih, List.map_cons]
            · cases h
        · cases h
    · cases h

theorem Rt {C : Cx} {R : List Res} {s : SS} {fn : Func} {R' : Ending → World → Prop} {e : Exit} (he : e = .ret ∨ e = .normal) (xs : List SV) (h : resV C.P s fn.results.toList = some xs)
    (hR : ∀ bs w, WS C.m C.w0 bs s.loc R w → R' (.returned (retOf (xs.map (den bs)))) w) : JQ C (bodyPost C.P fn R') e R s := by
  rintro a w ⟨bs, hf, hn, hS⟩
  have h1 := resV_run C.P s bs a w hf hS.loc _ _ h
  have h2 : (results fn a.tmps).run C.P w = .ok (retOf (xs.map (den bs))) w := by
    have e : results fn a.tmps = (do let vs ← fn.results.mapM (resOne a.tmps); Pure.pure (if h : vs.size = 1 then vs[0] else .tuple vs)) := rfl
    rw [e, Array.mapM_eq_mapM_toList]
    simp only [Sem.run_bind, Sem.run_map, h1, Result.andThen_ok, Sem.run_pure]
    generalize xs.map (den bs) = l
    match l with
    | [] => rfl
    | [x] => rfl
    | x :: y :: r => simp [retOf]
  rcases he with rfl | rfl <;> exact ⟨hf.1, _, h2, hR bs w hS⟩
end Go.Proofs.YtbjakddkfgjkaaaGreat.Fw

namespace Go.Proofs.YtbjakddkfgjkaaaGreat.Fw
open Go.RowKit

theorem SatB.put {C : Cx} {R R' : List Res} {s : SS} {bs : List Nat} {a : Act} {w w' : World} {loc' : List Blk} (h : SatB C R s bs a w) {d : Option Nat} (hd : dstOK C.n d = true) (x : SV) (v : Value) (hx : v = den bs x) (hS : WS C.m C.w0 bs loc' R' w') :
    SatB C R' ⟨putE s.env d x, loc'⟩ bs (a.put d v) w' := by
  subst hx
  refine ⟨h.1.put d x (by rw [h.2.1]; exact dstOK_lt hd), ?_, hS⟩
  cases d with
  | none => exact h.2.1
  | some t => simp [Act.put, h.2.1]

/-- what an operation that is no mere reading does: it hands back 'val y', and the world is known anew. (The call: its callee's contract.) -/
def Does (C : Cx) (o : Oper) (R : List Res) (s : SS) {σ : Type} (val : σ → SV) (loc' : σ → List Blk) (R' : σ → List Res) : Prop :=
  ∀ bs a w, SatB C R s bs a w → ∀ (K : Act → World → Prop) (Q : Exit → Act → World → Prop), (∀ y w', WS C.m C.w0 bs (loc' y) (R' y) w' → K (a.put o.dst (den bs (val y))) w') → o.wp C.P a w K Q

theorem l_does {C : Cx} {R : List Res} {s : SS} {ops : Array Oper} {Q : Exit → Act → World → Prop} {o : Oper} {rest : List Oper} {σ : Type} (val : σ → SV) (loc' : σ → List Blk) (R' : σ → List Res)
    (hd : dstOK C.n o.dst = true) (hg : gd ops s o = some true) (h : Does C o R s val loc' R') (hJ : ∀ y, JL C ops Q (R' y) ⟨putE s.env o.dst (val y), loc' y⟩ rest) : JL C ops Q R s (o :: rest) := by
  rintro a w ⟨bs, hs'⟩
  have hs : SatB C R s bs a w := hs'
  refine wpList_step fun K hK => ?_
  rw [gd_sound hs.1 hg, if_pos rfl]
  exact h bs a w hs K Q fun y w' hS => hK _ _ (hJ y _ _ (Sat.of (hs.put hd (val y) _ rfl hS)))

/-! ### calls -/
def capVals (bs : List Nat) (caps : List (Nat × Nat)) : List Value := caps.map fun c => Value.pointer (some (adr bs c.1 c.2))
/-! ### stores from outside, append, conversions .. : by the equation of their run -/
theorem d_store {C : Cx} {R : List Res} {s : SS} {d : Option Nat} {ty : Nat} {pos : String} {aft : Array Edge} {g : Option (Nat × Bool)} {T : Nat} {A X : Operand} (ad : Addr) (x : SV) (R' : List Res)
    (hA : ev s A = some (.v (.pointer (some ad)))) (hx : ev s X = some x)
    (hst : ∀ bs w, WS C.m C.w0 bs s.loc R w → ∃ w', (storeVar T ad (den bs x)).run C.P w = .ok () w' ∧ WS C.m C.w0 bs s.loc R' w') :
    Does C ⟨d, .store T A X, ty, pos, aft, g⟩ R s (σ := Unit) (fun _ => .v undef) (fun _ => s.loc) (fun _ => R') := by
  rintro bs a w ⟨hfr, hn, hS⟩ K Q hK
  obtain ⟨w', h1, h2⟩ := hst bs w hS
  unfold Oper.wp
  have e1 : a.eval A = .pointer (some ad) := ev_sound hfr hA
  have e2 := ev_sound hfr hx
  have hrun : (execOp a.eval ⟨d, .store T A X, ty, pos, aft, g⟩).run C.P w = .ok .skip w' := by
    unfold execOp
    simp only [Sem.run_bind, Instr.storeAt, e1, Instr.sureAddr, Sem.run_pure, Result.andThen_ok, e2, h1]
  rw [hrun]
  exact hK () w' h2

theorem d_builtin {C : Cx} {R : List Res} {s : SS} {d : Option Nat} {ty : Nat} {pos : String} {aft : Array Edge} {g : Option (Nat × Bool)} {b : Builtin} {args : Array Operand} {ats : Array Nat} {σ : Type} (xs : List SV)
    (val : σ → SV) (loc' : σ → List Blk) (R' : σ → List Res) (hx : evs s args.toList = some xs)
    (hst : ∀ bs w cs, WS C.m C.w0 bs s.loc R w → ∃ y w', (builtin b ats ty cs (xs.map (den bs)).toArray).run C.P w = .ok (.value (den bs (val y))) w' ∧ WS C.m C.w0 bs (loc' y) (R' y) w') :
    Does C ⟨d, .call ⟨.builtin b, args, ats⟩, ty, pos, aft, g⟩ R s val loc' R' := by
  rintro bs a w ⟨hfr, hn, hS⟩ K Q hK
  have e1 := evs_sound hfr hx
  have e2 : args.map a.eval = (xs.map (den bs)).toArray := by
    rw [← e1]
    apply Array.ext'
    simp
  obtain ⟨y, w', h1, h2⟩ := hst bs w (args.map fun | .const _ => true | _ => false) hS
  unfold Oper.wp
  have hrun : (execOp a.eval ⟨d, .call ⟨.builtin b, args, ats⟩, ty, pos, aft, g⟩).run C.P w = .ok (.value (den bs (val y))) w' := by
    unfold execOp
    simp only [resolve, Sem.run_bind, e2, Sem.run_pure, Result.andThen_ok, invoke]
    exact h1
  rw [hrun]
  exact hK y w' h2

theorem d_convert {C : Cx} {R : List Res} {s : SS} {d : Option Nat} {ty : Nat} {pos : String} {aft : Array Edge} {g : Option (Nat × Bool)} {S D : Nat} {X : Operand} {σ : Type} (x : SV)
    (val : σ → SV) (loc' : σ → List Blk) (R' : σ → List Res) (hx : ev s X = some x)
    (hst : ∀ bs w, WS C.m C.w0 bs s.loc R w → ∃ y w', (convert S D (den bs x)).run C.P w = .ok (den bs (val y)) w' ∧ WS C.m C.w0 bs (loc' y) (R' y) w') :
    Does C ⟨d, .convert S D X, ty, pos, aft, g⟩ R s val loc' R' := by
  rintro bs a w ⟨hfr, hn, hS⟩ K Q hK
  obtain ⟨y, w', h1, h2⟩ := hst bs w hS
  unfold Oper.wp
  have hrun : (execOp a.eval ⟨d, .convert S D X, ty, pos, aft, g⟩).run C.P w = .ok (.value (den bs (val y))) w' := by
    unfold execOp
    simp only [Sem.run_bind, ev_sound hfr hx, h1, Result.andThen_ok, Sem.run_pure]
  rw [hrun]
  exact hK y w' h2

/-! ### regions that draw their order -/
def PQ (Q : Exit → Act → World → Prop) : Prop := ∀ c a d v w, Q (.panic c) (a.put d v) w → Q (.panic c) a w
theorem pq_body {P : Program} {fn : Func} {R : Ending → World → Prop} : PQ (bodyPost P fn R) := by
  intro c a d v w h
  have e : (a.put d v).defers = a.defers := by cases d <;> rfl
  exact ⟨e ▸ h.1, h.2⟩
theorem pq_then {K : Act → World → Prop} {Q : Exit → Act → World → Prop} (h : PQ Q) : PQ (Exit.then K Q) := h
theorem pq_block {i : Nat} {Q : Exit → Act → World → Prop} (h : PQ Q) : PQ (Exit.inBlock i Q) := h

/-- in the middle of such a region: 'S': what every world meets on the way: the blocks 'loc0', the facts 'R0' -/
def JH (C : Cx) (ops : Array Oper) (Q : Exit → Act → World → Prop) (R0 : List Res) (loc0 : List Blk) (n : Nat) (order : Tr) (R : List Res) (s : SS) : Prop :=
  ∀ bs0 bs a w, bs0 <+: bs → SatB C R s bs a w → WS C.m C.w0 bs0 loc0 R0 w → HW C.P ops Q n (WS C.m C.w0 bs0 loc0 R0) order a w

/-- the blocks named are masked -/
def maskL : List Blk → List Nat → List Blk
  | l, [] => l
  | l, i :: r => maskL (l.set i ⟨0, []⟩) r
theorem WS.maskL {m : List Nat} {w0 : World} {bs : List Nat} {R : List Res} {w : World} : ∀ (l : List Nat) {loc : List Blk}, WS m w0 bs loc R w → WS m w0 bs (Fw.maskL loc l) R w
  | [], _, h => h
  | i :: r, _, h => WS.maskL r (h.mask i 0)

theorem Hn {C : Cx} {ops : Array Oper} {Q : Exit → Act → World → Prop} {R0 : List Res} {loc0 : List Blk} {n : Nat} {R : List Res} {s : SS} (h : JL C ops Q R s (ops.toList.drop n)) : JH C ops Q R0 loc0 n .nil R s :=
  fun _ bs a w _ hs _ => h a w ⟨bs, hs⟩

/-- quiet operations, one by one in the order's own turn -/
def runQ (P : Program) (n : Nat) (ops : Array Oper) (hs : List (Nat × Hint)) (loc0 : List Blk) : List (Nat × Bool) → Env → Option (Env × List Prop × List (Addr × List Value))
  | [], e => some (e, [], [])
  | (i, fl) :: r, e =>
    match ops[i]? with
    | none => none
    | some o =>
      if dstOK n o.dst then
        match gd ops ⟨e, loc0⟩ o with
        | none => none
        | some false =>
          match runQ P n ops hs loc0 r (putE e o.dst (.v undef)) with
          | some (e2, obs, wobs) => some (e2, obs, wobs)
          | none => none
        | some true =>
          match quietOp P ⟨e, if fl then [] else loc0⟩ (findH hs i) o.op with
          | some (x, obs1, wobs1) =>
            if fl && !wobs1.isEmpty then none else
            match runQ P n ops hs loc0 r (putE e o.dst x) with
            | some (e2, obs, wobs) => some (e2, obs1 ++ obs, wobs1 ++ wobs)
            | none => none
          | none => none
      else none

def okLoc (loc : List Blk) : Bool := loc.all fun b => b.cs.all (okSV loc.length)

theorem den_prefix {bs bs0 : List Nat} (hp : bs0 <+: bs) {x : SV} {k : Nat} (hk : k = bs0.length) (h : okSV k x = true) : den bs x = den bs0 x := by
  obtain ⟨t, rfl⟩ := hp
  have key : ∀ i o, i < bs0.length → adr (bs0 ++ t) i o = adr bs0 i o := by
    intro i o hi
    simp [adr, List.getElem?_append, hi]
  subst hk
  cases x with
  | v x => rfl
  | p i o => simp only [den, key i o (by simpa [okSV] using h)]
  | s i o n c => simp only [den, key i o (by simpa [okSV] using h)]
  | fn f c =>
    simp only [den]
    congr 2
    apply List.map_congr_left
    intro y hy
    have h1 := List.all_eq_true.1 h y hy
    rw [key _ _ (by simpa using h1)]

theorem WS.locPrefix {m : List Nat} {w0 : World} {bs bs0 : List Nat} {loc0 : List Blk} {R0 : List Res} {w : World} (h : WS m w0 bs0 loc0 R0 w) (hp : bs0 <+: bs) (hk : okLoc loc0 = true) : LocOK bs loc0 w := by
  intro i b hb hne
  have h1 := h.loc i b hb hne
  have hi : i < loc0.length := (List.getElem?_eq_some_iff.1 hb).1
  have hl := h.len
  have e1 : bs.getD i 0 = bs0.getD i 0 := by
    obtain ⟨t, rfl⟩ := hp
    simp [List.getElem?_append, show i < bs0.length by omega]
  have e2 : b.cs.map (den bs) = b.cs.map (den bs0) := List.map_congr_left fun x hx => den_prefix hp hl (List.all_eq_true.1 (List.all_eq_true.1 hk b (List.mem_of_getElem? hb)) x hx)
  rw [e1, e2]
  exact h1

/-- quiet operations ahead of the rest -/
def Tr.pre : List (Nat × Bool) → Tr → Tr
  | [], t => t
  | (i, false) :: l, t => .q i (Tr.pre l t)
  | (i, true) :: l, t => .p i (Tr.pre l t)

theorem Hq {C : Cx} {ops : Array Oper} {Q : Exit → Act → World → Prop} {R0 : List Res} {loc0 : List Blk} {n : Nat} {R : List Res} {s : SS} {rest : Tr} (hs : List (Nat × Hint)) (l : List (Nat × Bool)) (env' : Env) (obs : List Prop) (wobs : List (Addr × List Value))
    (hk : okLoc loc0 = true)
    (h : runQ C.P C.n ops hs loc0 l s.env = some (env', obs, wobs)) (ho : AllP obs) (hw : ∀ w, Kp C.m C.w0 w → (∀ r, r ∈ R0 → r.p w) → AllC w wobs)
    (hJ : JH C ops Q R0 loc0 n rest R ⟨env', s.loc⟩) : JH C ops Q R0 loc0 n (Tr.pre l rest) R s := by
  have key : ∀ (l : List (Nat × Bool)) (e : Env) (obs : List Prop) (wobs : List (Addr × List Value)), runQ C.P C.n ops hs loc0 l e = some (env', obs, wobs) → AllP obs →
      (∀ w, Kp C.m C.w0 w → (∀ r, r ∈ R0 → r.p w) → AllC w wobs) → JH C ops Q R0 loc0 n (Tr.pre l rest) R ⟨e, s.loc⟩ := by
    intro l
    induction l with
    | nil =>
      intro e obs wobs h _ _
      simp only [runQ, Option.some.injEq, Prod.mk.injEq] at h
      obtain ⟨rfl, _, _⟩ := h
      exact hJ
    | cons y r ih =>
      obtain ⟨i, fl⟩ := y
      intro e obs wobs h ho hw
      simp only [runQ] at h
      split at h
      · cases h
      · rename_i o hoi
        split at h
        case isFalse => cases h
        rename_i hd
        split at h
        · cases h
        · rename_i hg
          split at h
          · rename_i e2 o2 w2 h2
            simp only [Option.some.injEq, Prod.mk.injEq] at h
            obtain ⟨rfl, rfl, rfl⟩ := h
            have ih' := ih _ _ _ h2 ho hw
            intro bs0 bs a w hp hsat hS0
            cases fl with
            | false => exact ⟨hS0, o, undef, hoi, .inr ⟨gd_sound (s := ⟨e, loc0⟩) hsat.1 hg, rfl⟩, ih' bs0 bs _ w hp (hsat.put hd (.v undef) undef rfl hsat.2.2) hS0⟩
            | true => exact ⟨hS0, o, undef, hoi, .inr ⟨gd_sound (s := ⟨e, loc0⟩) hsat.1 hg, rfl⟩, ih' bs0 bs _ w hp (hsat.put hd (.v undef) undef rfl hsat.2.2) hS0⟩
          · cases h
        · rename_i hg
          split at h
          · rename_i x o1 w1 h1
            split at h
            · cases h
            rename_i hfl
            split at h
            · rename_i e2 o2 w2 h2
              simp only [Option.some.injEq, Prod.mk.injEq] at h
              obtain ⟨rfl, rfl, rfl⟩ := h
              have ho' := AllP_append.1 ho
              have ih' := ih _ _ _ h2 ho'.2 (fun w a1 a2 => (AllC_append.1 (hw w a1 a2)).2)
              intro bs0 bs a w hp hsat hS0
              have hnext := ih' bs0 bs _ w hp (hsat.put hd x _ rfl hsat.2.2) hS0
              cases fl with
              | false =>
                refine ⟨hS0, o, den bs x, hoi, .inl ⟨gd_sound (s := ⟨e, loc0⟩) hsat.1 hg, fun w' hS' => ?_⟩, hnext⟩
                exact quiet_sound C.P o ⟨e, loc0⟩ _ x o1 w1 bs a w' (by simpa using h1) ho'.1 hsat.1 (hS'.locPrefix hp hk) (AllC_append.1 (hw w' hS'.kp hS'.res)).1
              | true =>
                have hw0 : w1 = [] := by simpa using hfl
                refine ⟨hS0, o, den bs x, hoi, .inl ⟨gd_sound (s := ⟨e, loc0⟩) hsat.1 hg, fun w' _ => ?_⟩, hnext⟩
                refine quiet_sound C.P o ⟨e, []⟩ _ x o1 w1 bs a w' (by simpa using h1) ho'.1 hsat.1 (fun i b hb => by simp at hb) ?_
                rw [hw0]
                exact trivial
            · cases h
          · cases h
  exact key l s.env obs wobs h ho hw

/-- an operation that is the only one that may come up -/
theorem h_does {C : Cx} {ops : Array Oper} {Q : Exit → Act → World → Prop} {R0 : List Res} {loc0 : List Blk} {n : Nat} {R : List Res} {s : SS} {rest : Tr} {i : Nat} {o : Oper} {σ : Type} (val : σ → SV) (loc' : σ → List Blk) (R' : σ → List Res)
    (hoi : ops[i]? = some o) (hd : dstOK C.n o.dst = true) (hg : gd ops s o = some true) (h : Does C o R s val loc' R')
    (hS : ∀ bs0 bs y w, bs0 <+: bs → loc0.length = bs0.length → WS C.m C.w0 bs (loc' y) (R' y) w → WS C.m C.w0 bs0 loc0 R0 w)
    (hJ : ∀ y, JH C ops Q R0 loc0 n rest (R' y) ⟨putE s.env o.dst (val y), loc' y⟩) : JH C ops Q R0 loc0 n (.b i rest .z) R s := by
  intro bs0 bs a w hp hsat hS0
  refine ⟨?_, trivial⟩
  show wpOp C.P ops Q i _ a w
  unfold wpOp
  simp only [hoi]
  rw [gd_sound hsat.1 hg, if_pos rfl]
  exact .inl (h bs a w hsat _ Q fun y w' hS' => ⟨hS bs0 bs y w' hp hS0.len hS', hJ y bs0 bs _ w' hp (hsat.put hd (val y) _ rfl hS') (hS bs0 bs y w' hp hS0.len hS')⟩)
/-- the only one that may come up: behind it less is known on the way -/
theorem h_change {C : Cx} {ops : Array Oper} {Q : Exit → Act → World → Prop} {R0 : List Res} {loc0 : List Blk} {n : Nat} {R : List Res} {s : SS} {rest : Tr} {i : Nat} {o : Oper} {σ : Type} (val : σ → SV) (loc' : σ → List Blk) (R' : σ → List Res) (R1 : List Res) (loc1 : List Blk)
    (hoi : ops[i]? = some o) (hd : dstOK C.n o.dst = true) (hg : gd ops s o = some true) (h : Does C o R s val loc' R')
    (hS : ∀ bs0 bs y w, bs0 <+: bs → loc0.length = bs0.length → WS C.m C.w0 bs (loc' y) (R' y) w → WS C.m C.w0 bs0 loc1 R1 w)
    (hJ : ∀ y, JH C ops Q R1 loc1 n rest (R' y) ⟨putE s.env o.dst (val y), loc' y⟩) : JH C ops Q R0 loc0 n (.x i rest) R s := by
  intro bs0 bs a w hp hsat hS0
  refine ⟨WS C.m C.w0 bs0 loc1 R1, ?_⟩
  show wpOp C.P ops Q i _ a w
  unfold wpOp
  simp only [hoi]
  rw [gd_sound hsat.1 hg, if_pos rfl]
  exact .inl (h bs a w hsat _ Q fun y w' hS' => ⟨hS bs0 bs y w' hp hS0.len hS', hJ y bs0 bs _ w' hp (hsat.put hd (val y) _ rfl hS') (hS bs0 bs y w' hp hS0.len hS')⟩)
/-- a new block, or a store into a block of ours, in the middle of such a region -/
theorem Hl {C : Cx} {ops : Array Oper} {Q : Exit → Act → World → Prop} {R0 : List Res} {loc0 : List Blk} {n : Nat} {R : List Res} {s : SS} {rest : Tr} {i : Nat} (s' : SS)
    (h : (match ops[i]? with | some o => stepO C.P C.n ops s .no o | none => none) = some (s', [], []))
    (hS : ∀ bs0 bs w, bs0 <+: bs → loc0.length = bs0.length → WS C.m C.w0 bs s'.loc R w → WS C.m C.w0 bs0 loc0 R0 w)
    (hJ : JH C ops Q R0 loc0 n rest R s') : JH C ops Q R0 loc0 n (.b i rest .z) R s := by
  intro bs0 bs a w hp hsat hS0
  refine ⟨?_, trivial⟩
  show wpOp C.P ops Q i _ a w
  split at h
  · rename_i o hoi
    unfold wpOp
    simp only [hoi]
    have := stepO_soundB C R ops s s' .no o [] [] Q (fun a' w' => WS C.m C.w0 bs0 loc0 R0 w' ∧ HW C.P ops Q n (WS C.m C.w0 bs0 loc0 R0) rest a' w') h trivial (fun _ _ _ => trivial) bs
      (fun bs' a' w' hp' hs' => by
        have h1 := hS bs0 bs' w' (hp.trans hp') hS0.len hs'.2.2
        exact ⟨h1, hJ bs0 bs' a' w' (hp.trans hp') hs' h1⟩) a w hsat
    split
    · rename_i hw
      rw [if_pos hw] at this
      exact .inl this
    · rename_i hw
      rw [if_neg hw] at this
      exact this
  · cases h

/-- the blocks of the first list stand in the second, or are masked -/
def LocLe : List Blk → List Blk → Prop
  | [], _ => True
  | a :: r, b :: r' => (a.cs = [] ∨ a = b) ∧ LocLe r r'
  | _ :: _, [] => False
theorem LocLe.get : ∀ {l l' : List Blk}, LocLe l l' → ∀ (i : Nat) (b : Blk), l[i]? = some b → b.cs ≠ [] → l'[i]? = some b
  | [], _, _, i, b, h, _ => by simp at h
  | a :: r, [], h, _, _, _, _ => h.elim
  | a :: r, c :: r', h, 0, b, hb, hne => by
    simp only [List.getElem?_cons_zero, Option.some.injEq] at hb ⊢
    subst hb
    rcases h.1 with h1 | h1
    · exact absurd h1 hne
    · exact h1.symm
  | a :: r, c :: r', h, i + 1, b, hb, hne => by
    simp only [List.getElem?_cons_succ] at hb ⊢
    exact LocLe.get h.2 i b hb hne
theorem WS.down {m : List Nat} {w0 : World} {bs bs0 : List Nat} {loc loc0 : List Blk} {R R0 : List Res} {w : World} (hp : bs0 <+: bs) (hl : loc0.length = bs0.length) (hk : okLoc loc0 = true) (hle : LocLe loc0 loc) (hR : R0.Sublist R)
    (h : WS m w0 bs loc R w) : WS m w0 bs0 loc0 R0 w := by
  have h' := h.sub hR
  have hsub : bs0.Sublist bs := hp.sublist
  refine ⟨h.kp, hl, ?_, h'.res, h'.nd.sublist (List.Sublist.append hsub (List.Sublist.refl _)), fun b hb => h'.lo b ?_⟩
  · intro i b hb hne
    have h1 := h.loc i b (hle.get i b hb hne) hne
    have hi : i < loc0.length := (List.getElem?_eq_some_iff.1 hb).1
    have e1 : bs.getD i 0 = bs0.getD i 0 := by
      obtain ⟨t, rfl⟩ := hp
      simp [List.getElem?_append, show i < bs0.length by omega]
    have e2 : b.cs.map (den bs) = b.cs.map (den bs0) := List.map_congr_left fun x hx => den_prefix hp hl (List.all_eq_true.1 (List.all_eq_true.1 hk b (List.mem_of_getElem? hb)) x hx)
    rw [← e1, ← e2]
    exact h1
  · rcases List.mem_append.1 hb with hb | hb
    · exact List.mem_append_left _ (hsub.subset hb)
    · exact List.mem_append_right _ hb

theorem Cd {C : Cx} {Q : Exit → Act → World → Prop} {R : List Res} {s : SS} {id : Nat} {l : List Oper} (n : Nat) (X : List Nat) (order : Tr) (mask : List Nat) (R0 : List Res) (hm : C.P.follows .mixedOrders = true)
    (hB : drawB .any l.toArray X n order = true) (hQ : PQ Q) (hR : R0.Sublist R) (h : JH C l.toArray Q R0 (maskL s.loc mask) n order R s) : JC C (.region id l.toArray true) Q R s := by
  rintro a w ⟨bs, hf, hn, hS⟩
  have hS' : WS C.m C.w0 bs s.loc R { w with drawn := w.drawn + 1 } := hS.pure (Kp.drawn [] w _)
  exact wp_region_text X order hm hB hQ (h bs bs a _ (List.prefix_refl _) ⟨hf, hn, hS'⟩ ((hS'.sub hR).maskL mask))
end Go.Proofs.YtbjakddkfgjkaaaGreat.Fw

namespace Go.Proofs.YtbjakddkfgjkaaaGreat.Fw
open Go.RowKit

abbrev vI (n : Int) : SV := .v (.int .i64 n)
abbrev vB (b : Bool) : SV := .v (.bool b)
abbrev vS (s : ByteArray) : SV := .v (.string s)
def emp : ByteArray := ⟨#[]⟩

theorem on : AllP [] := trivial
theorem oc {p : Prop} {l : List Prop} (h : p) (r : AllP l) : AllP (p :: l) := ⟨h, r⟩
/-- the slots named, in that order -/
def pickE (e : Env) : List Nat → Option Env
  | [] => some []
  | k :: r => match get e k, pickE e r with
    | some x, some l => some ((k, x) :: l)
    | _, _ => none
theorem get_pickE (e : Env) : ∀ (keys : List Nat) (e' : Env), pickE e keys = some e' → ∀ t x, get e' t = some x → get e t = some x
  | [], e', h, t, x, hx => by simp only [pickE, Option.some.injEq] at h; subst h; simp [get] at hx
  | k :: r, e', h, t, x, hx => by
    simp only [pickE] at h
    split at h
    · rename_i y l hy hl
      injection h with h
      subst h
      simp only [get] at hx
      cases hb : Nat.beq k t with
      | true =>
        have e1 : k = t := Nat.eq_of_beq_eq_true hb
        subst e1
        simp only [hb, cond_true, Option.some.injEq] at hx
        subst hx
        exact hy
      | false =>
        simp only [hb, cond_false] at hx
        exact get_pickE e r l hl t x hx
    · cases h
def pruneP (s : SS) (keys : List Nat) (nl : Nat) : Option SS :=
  match pickE s.env keys with
  | some e => bif Nat.ble nl s.loc.length && okP ⟨e, s.loc.take nl⟩ nl then some ⟨e, s.loc.take nl⟩ else none
  | none => none
theorem Ss {C : Cx} {R R' : List Res} {s s' : SS} (keys : List Nat) (nl : Nat) (h : pruneP s keys nl = some s') (hR : R = R') : ∀ a w, Sat C R s a w → Sat C R' s' a w := by
  subst hR
  intro a w hs
  unfold pruneP at h
  split at h
  · rename_i e he
    cases hc : Nat.ble nl s.loc.length && okP ⟨e, s.loc.take nl⟩ nl with
    | false => rw [hc] at h; cases h
    | true =>
      rw [hc] at h
      simp only [cond_true, Option.some.injEq] at h
      subst h
      simp only [Bool.and_eq_true] at hc
      have hk : Sat C R ⟨e, s.loc⟩ a w := by
        obtain ⟨bs, hf, hn, hS⟩ := hs
        exact ⟨bs, ⟨hf.1, fun t x hx => hf.2 t x (get_pickE _ _ _ he t x hx)⟩, hn, hS⟩
      have hkeep : (keepE e (e.map (·.1))) = e := by
        have : ∀ (l : List Nat) (e : Env), (∀ y, y ∈ e → y.1 ∈ l) → keepE e l = e := by
          intro l e
          induction e with
          | nil => intro _; rfl
          | cons y r ih =>
            obtain ⟨t, x⟩ := y
            intro hm
            have h1 : l.any (Nat.beq t) = true := List.any_eq_true.2 ⟨t, hm _ (List.mem_cons_self ..), Nat.beq_refl t⟩
            simp only [keepE, h1, cond_true, ih (fun y hy => hm y (List.mem_cons_of_mem _ hy))]
        exact this _ e (fun y hy => List.mem_map.2 ⟨y, hy, rfl⟩)
      have := hk.prune (e.map (·.1)) nl (by simp only [prune, hkeep]; exact hc.2) (Nat.le_of_ble_eq_true hc.1)
      simpa only [prune, hkeep] using this
  · cases h
theorem Ql {C : Cx} {R : List Res} {s : SS} {Q : Exit → Act → World → Prop} {σ : Type} {I : σ → Prop} {μ : σ → Nat} {RS : σ → List Res} {S : σ → SS} {x : σ} (y : σ) (hI : I y) (hμ : μ y < μ x) (h : ∀ a w, Sat C R s a w → Sat C (RS y) (S y) a w) :
    JQ C (Exit.then (fun a w => ∃ y, I y ∧ μ y < μ x ∧ Sat C (RS y) (S y) a w) Q) .normal R s := fun a w hs => ⟨y, hI, hμ, h a w hs⟩

/-- what a call hands back lies in new memory -/
def Fresh (w w' : World) (r : Res) : Prop := r.p w' ∧ r.fp.Nodup ∧ ∀ b, b ∈ r.fp → w.heap.size ≤ b ∧ b < w'.heap.size
end Go.Proofs.YtbjakddkfgjkaaaGreat.Fw

namespace Go.Proofs.YtbjakddkfgjkaaaGreat.Fw
open Go.RowKit

/-- a slice of the call's own: its row -/
def rowR (e size : Nat) (A : Option Addr) (n c : Nat) (xs : List Value) : Res where
  fp := match A with
    | some a => [a.block]
    | none => []
  p := fun w => w.ownsRow 0 e size (.slice A n c) n xs
  st := by
    intro w w' h ⟨h1, h2⟩
    refine ⟨h1, ?_⟩
    rcases h2 with h2 | ⟨g, cap, cur, hv, hg, hh, r⟩
    · exact .inl h2
    · refine .inr ⟨g, cap, cur, hv, hg, ?_, r⟩
      injection hv with e1 e2 e3
      subst e1
      rw [h g (by simp)]
      exact hh

theorem rowR_nil (e size : Nat) (w : World) : (rowR e size none 0 0 []).p w := ⟨by simp, .inl ⟨rfl, rfl⟩⟩

def infoB (P : Program) (e size bytes : Nat) : Bool :=
  match P.info? e with
  | some i => Nat.beq i.size size && Nat.beq i.bytes bytes && (match i.zero with | some z => Nat.beq z.cells.size size | none => false)
  | none => false

theorem kp_of_grown {w w' : World} {row : Option Nat} (h : w.grownBy w' row) (m : List Nat) (hm : ∀ k, row = some k → k ∈ m) : Kp m w w' :=
  ⟨h.os, h.tape, h.output, h.size, fun k hk hn => h.block k hk (fun e => hn (hm k e.symm))⟩

theorem append_run {P : Program} {m : List Nat} {w0 : World} {bs : List Nat} {loc : List Blk} {R : List Res} {w : World} (t ty e size bytes : Nat) (A : Option Addr) (n c : Nat) (xs : List Value)
    (hS : WS m w0 bs loc (rowR e size A n c xs :: R) w) (ht : P.underlying t = some (.slice e)) (hi : infoB P e size bytes = true) (hsz : 0 < size) (a : Addr) (k c2 : Nat) (vs : List Value)
    (hl : vs.length = k * size) (hc : CellsAt w a vs) (h1 : vs.all Value.oneCell' = true) (h63 : n + k ≤ maxLen) (hb : (n + k) * bytes ≤ 140737488355328) :
    ∃ A' c' w', (Builtin.append_ #[t, t] ty #[.slice A n c, .slice (some a) k c2]).run P w = .ok (.slice A' (n + k) c') w' ∧ WS m w0 bs loc (rowR e size A' (n + k) c' (xs ++ vs) :: R) w' := by
  unfold infoB at hi
  split at hi
  · rename_i i hinfo
    simp only [Bool.and_eq_true] at hi
    obtain ⟨⟨hi1, hi2⟩, hi3⟩ := hi
    split at hi3
    · rename_i z hz
      have hown : w.ownsRow 0 e size (.slice A n c) n xs := hS.res _ (List.mem_cons_self ..)
      obtain ⟨v', w', h2, h3, h4, h5, h6⟩ := run_append_own_at (P := P) w 0 t ty e i z size bytes ht hinfo hz (Nat.eq_of_beq_eq_true hi1) (Nat.eq_of_beq_eq_true hi2) (Nat.eq_of_beq_eq_true hi3) hsz _ n xs hown a k c2 vs hl hc (fun u hu => List.all_eq_true.1 h1 u hu) h63 hb (Nat.zero_le _)
      have hkp : Kp (rowR e size A n c xs).fp w w' := kp_of_grown h4 _ (fun q hq => by
        cases A with
        | none => simp [Value.ownBlock] at hq
        | some a => simp only [Value.ownBlock, Option.some.injEq] at hq; subst hq; simp [rowR])
      have hform : ∃ A' c', v' = .slice A' (n + k) c' := by
        rcases h3.2 with ⟨e1, e2⟩ | ⟨g, cap, cur, e1, _⟩
        · exact ⟨none, 0, by rw [e1, e2]⟩
        · exact ⟨_, _, e1⟩
      obtain ⟨A', c', rfl⟩ := hform
      refine ⟨A', c', w', h2, hS.turn hkp _ h3 ?_ ?_⟩
      · cases A' <;> simp [rowR]
      · intro b hb
        cases A' with
        | none => simp [rowR] at hb
        | some a' =>
          simp only [rowR, List.mem_singleton] at hb
          subst hb
          rcases h6 with h6 | h6
          · cases A with
            | none => simp [Value.ownBlock] at h6
            | some a0 => simp only [Value.ownBlock, Option.some.injEq] at h6; left; simp [rowR, h6]
          · simp only [Value.ownBlock, Option.some.injEq] at h6
            right
            refine ⟨by omega, ?_⟩
            have hh : (w'.ownsRow 0 e size (.slice (some a') (n + k) c') (n + k) (xs ++ vs)) := h3
            rcases hh.2 with ⟨e1, _⟩ | ⟨g, cap, cur, e1, _, e3, _⟩
            · cases e1
            · injection e1 with e1
              injection e1 with e1
              subst e1
              rcases Nat.lt_or_ge g w'.heap.size with hlt | hge
              · exact hlt
              · rw [Array.getElem?_eq_none hge] at e3; cases e3
    · cases hi3
  · cases hi

/-- the source is a block of ours -/
theorem src_loc {m : List Nat} {w0 : World} {bs : List Nat} {loc : List Blk} {R : List Res} {w : World} (hS : WS m w0 bs loc R w) {i off k c : Nat} {b : Blk} {q : Nat} {vs : List Value} (hb : loc[i]? = some b) (hv : valsOf ((b.cs.drop off).take q) = some vs) :
    ∃ a c2, den bs (.s i off k c) = .slice (some a) k c2 ∧ CellsAt w a vs := by
  refine ⟨adr bs i off, c, rfl, ?_⟩
  intro j v hj
  have h1 := valsOf_sound bs hv
  rw [← h1] at hj
  simp only [List.getElem?_map, List.getElem?_take, List.getElem?_drop] at hj
  split at hj
  · obtain ⟨y, hy, rfl⟩ := Option.map_eq_some_iff.1 hj
    rw [adr_add]
    exact hS.loc.cell hb hy
  · simp at hj

theorem WS.perm {m : List Nat} {w0 : World} {bs : List Nat} {loc : List Blk} {R R' : List Res} {w : World} (h : WS m w0 bs loc R w) (hp : R'.Perm R) : WS m w0 bs loc R' w := by
  have hf : (R'.flatMap Res.fp).Perm (R.flatMap Res.fp) := hp.flatMap_right _
  exact ⟨h.kp, h.len, h.loc, fun r hr => h.res r (hp.subset hr), ((List.Perm.append_left bs hf).nodup_iff).2 h.nd, fun b hb => h.lo b ((List.Perm.append_left bs hf).subset hb)⟩
/-! ### bytes as a string -/
def bstr (l : List Int) : ByteArray := ⟨(l.map fun n => UInt8.ofNat n.toNat).toArray⟩
theorem bstr_fold (l : List Int) : l.foldl (fun r n => r.push (UInt8.ofNat n.toNat)) ByteArray.empty = bstr l := by
  have key : ∀ (l : List Int) (acc : ByteArray), l.foldl (fun r n => r.push (UInt8.ofNat n.toNat)) acc = ⟨acc.data ++ (l.map fun n => UInt8.ofNat n.toNat).toArray⟩ := by
    intro l
    induction l with
    | nil => intro acc; simp
    | cons x r ih =>
      intro acc
      rw [List.foldl_cons, ih]
      simp [ByteArray.push]
  rw [key]
  simp [bstr, ByteArray.empty, ByteArray.emptyWithCapacity]
  rfl
theorem bytes_string_run {P : Program} {w : World} (S D eS : Nat) (a : Addr) (n c : Nat) (ns : List Int) (hS : P.underlying S = some (.slice eS)) (he : P.underlying eS = some (.int .u8)) (hD : P.underlying D = some .string)
    (hl : ns.length = n) (hc : CellsAt w a (ns.map (Value.int .u8))) : (convert S D (.slice (some a) n c)).run P w = .ok (.string (bstr ns)) w := by
  have h1 : (loadCells a n).run P w = .ok (ns.map (Value.int .u8)).toArray w := by
    have := loadCellsFrom_ok P w a n 0 #[] (ns.map (Value.int .u8)) (by simpa using hl) (fun j v h => by simpa using hc j v h)
    simpa [loadCells] using this
  have h2 := run_bytesToString (P := P) w a n c ns h1
  simp only [convert, Sem.run_bind, run_underlying hS, run_underlying hD, Result.andThen_ok, run_underlying he]
  rw [h2, bstr_fold]
end Go.Proofs.YtbjakddkfgjkaaaGreat.Fw

namespace Go.Proofs.YtbjakddkfgjkaaaGreat.Fw
open Go.RowKit Go.ChangeShapes Go.WideShapes

theorem args_stay {H : Type} {enc : TypeId × Value → H} {P : Program} (hl : laidOutB P = true) {W W' : World} (hb : Below W.heap.size W W') (sp : Nat → Bool) :
    ∀ (ts : List TypeId) (vs : List Value) (ds : List (DataW H)) (ps : List MemPlace), (ts.all fun t => P.readableRec t && Nat.blt t P.types.size) = true → (∀ x, x ∈ ps → x.block < W.heap.size) → (∀ x, x ∈ ps → sp x.block = true) →
    DataW.TrodAll enc P W 0 (fun _ => true) true ts vs ds ps → DataW.TrodAll enc P W' 0 sp true ts vs ds ps
  | [], vs, ds, ps, _, _, _, h => by
    obtain ⟨rfl, rfl, rfl⟩ := trodAll_nil h
    exact trodAll_mk0
  | t :: ts, vs, ds, ps, hr, hlt, hsp, h => by
    obtain ⟨v, vs', d, ds', p, q, rfl, rfl, rfl, h0, r0⟩ := trodAll_cons h
    simp only [List.all_cons, Bool.and_eq_true] at hr
    refine trodAll_cons_mk (WideElems.Trod_stays hl hr.1.1 (by simpa using hr.1.2) h0 (fun x hx => hb.same (hlt x (List.mem_append_left _ hx))) (fun x hx => hsp x (List.mem_append_left _ hx))) ?_
    exact args_stay hl hb sp ts vs' ds' q hr.2 (fun x hx => hlt x (List.mem_append_right _ hx)) (fun x hx => hsp x (List.mem_append_right _ hx)) r0

/-- the last step of a law: it has answered true and turned nothing -/
theorem law_post {H : Type} {enc : TypeId × Value → H} {P : Program} {f : Func} {s : ChangeSpec} {W W' : World} {args : Array Value} {ds gs : List (DataW H)} {before : List MemPlace} {tb : TypeId}
    (hW : DataW.Whole enc P f.params.toList s.vars false W args.toList ds gs before) (hv : s.vars = []) (hs : s.fn H (ds ++ gs) = { results := [.lit (.bool true)], args := ds }) (hf : f.resultTypes.toList = [tb]) (hn : f.resultTypes.size = 1)
    (hb : P.underlying tb = some .bool) (hl : laidOutB P = true) (hr : (f.params.toList.all fun t => P.readableRec t && Nat.blt t P.types.size) = true) (hk : Kp [] W W') : s.post enc P f false true false false W args (.bool true) W' := by
  have hbel := hk.below
  have hW' := hW
  obtain ⟨p, q, hA, hV, rfl, hfz, hnd⟩ := hW
  rw [hv] at hV
  obtain ⟨rfl, rfl⟩ := trodVars_none hV
  have hlt : ∀ x, x ∈ p → x.block < W.heap.size := fun x hx => by simpa using hW'.lt x (List.mem_append_left _ hx)
  have hx : (s.fn H (ds ++ [])).vars = [] := by rw [hs]
  refine ⟨ds, [], p ++ [], [], p, [], hW', ?_, ?_, ?_, hbel.frame _, fun h => by cases h⟩
  · rw [hf, hs, hn]
    exact trodAll_cons_mk (shut_bool hb true) trodAll_mk0
  · rw [hs]
    exact args_stay hl hbel _ _ _ _ _ hr hlt (fun x hx => by simpa using hlt x hx) hA
  · rw [hv, hx]
    rfl
end Go.Proofs.YtbjakddkfgjkaaaGreat.Fw

