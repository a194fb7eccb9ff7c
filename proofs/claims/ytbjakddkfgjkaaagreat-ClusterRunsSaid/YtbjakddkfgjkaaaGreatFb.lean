/-
  Rules for code, loops, calls, drawn regions and rows of the call's own, over the symbolic step; the last step of a law.
  Conditions: none beyond those that each theorem states.
-/
import Derived.Deep.LoopGhost
import Derived.OrdersHeld
import Derived.StillTail
import Derived.Maps.AppendAt
import Derived.Laws.BytesString
import Derived.OpenShut
import Derived.JoinedCond
import Derived.Test.YtbjakddkfgjkaaaGreatFa
set_option linter.unusedVariables false
set_option linter.unusedSimpArgs false
namespace Go.Proofs.YtbjakddkfgjkaaaGreat.Fw
open Go.RowKit
section
variable {C : Cx} {R : List bz} {s : SS} {Q : Exit → Act → World → Prop}
theorem Qn {c:Code}(h:JC C c Q R s):JQ C (Exit.then (c.wp C.P Q) Q) .normal R s:=h
theorem Qe {K:Act→World→Prop}{i:Nat}(h:JQ C Q (.exit i) R s):JQ C (Exit.then K Q) (.exit i) R s:=h
theorem Qr {K:Act→World→Prop}(h:JQ C Q .ret R s):JQ C (Exit.then K Q) .ret R s:=h
theorem tL {i:Nat}(h:JQ C Q .normal R s):JQ C (Exit.inBlock i Q) .normal R s:=h
theorem Qb {i:Nat}(h:JQ C Q .ret R s):JQ C (Exit.inBlock i Q) .ret R s:=h
theorem Qh {i:Nat}(h:JQ C Q .normal R s):JQ C (Exit.inBlock i Q) (.exit i) R s:=by
  intro a w hs
  show (if i=i then Q .normal a w else Q (.exit i) a w)
  rw[if_pos rfl]
  exact h a w hs
theorem xH {i j:Nat}(jf:Nat.beq j i=false)(h:JQ C Q (.exit j) R s):JQ C (Exit.inBlock i Q) (.exit j) R s:=by
  intro a w hs
  have: ¬j=i:=fun e=>by subst e;rw[Nat.beq_refl] at jf;cases jf
  have e:Exit.inBlock i Q (.exit j) a w=Q (.exit j) a w:=by simp[Exit.inBlock,this]
  rw[e]
  exact h a w hs
theorem Cs {x y:Code}(h:JC C x (Exit.then (y.wp C.P Q) Q) R s):JC C (.seq x y) Q R s:=fun a w hs=>wp_seq (h a w hs)
theorem Ck (h:JQ C Q .normal R s):JC C .skip Q R s:=fun a w hs=>wp_skip (h a w hs)
theorem I6 {i:Nat}(h:JQ C Q (.exit i) R s):JC C (.exit i) Q R s:=fun a w hs=>wp_exit (h a w hs)
theorem Cr (h:JQ C Q .ret R s):JC C .ret Q R s:=fun a w hs=>wp_ret (h a w hs)
theorem Cb {i:Nat}{c:Code}(h:JC C c (Exit.inBlock i Q) R s):JC C (.block i c) Q R s:=fun a w hs=>wp_block (h a w hs)
theorem Cg {id:Nat}{l:List Oper}(h:JL C l.toArray Q R s l):JC C (.region id l.toArray false) Q R s:=fun a w hs=>wp_region_lit (h a w hs)
theorem Ln {ops:Array Oper}(h:JQ C Q .normal R s):JL C ops Q R s []:=fun a w hs=>wpList_nil (h a w hs)
theorem Ci (b:Bool){c:Operand}{x y:Code}(hc:ev s c=some (.v (.bool b)))(h:JC C (bif b then x else y) Q R s):JC C (.cond c x y) Q R s:=by
  intro a w hs
  obtain⟨bs,hf,hn,hS⟩:=hs
  refine wp_cond (t:=b) (aV hf hc) ?_
  have:=h a w ⟨bs,hf,hn,hS⟩
  cases b<;>exact this
theorem Cl {σ:Type}(I:σ→Prop)(μ:σ→Nat)(RS:σ→List bz)(S:σ→SS){c:Code}(x0:σ)(hI:I x0)(h0: ∀a w,Sat C R s a w→Sat C (RS x0) (S x0) a w)
    (h: ∀x:σ,I x→JC C c (Exit.then (fun a w=> ∃y,I y∧μ y<μ x∧Sat C (RS y) (S y) a w) Q) (RS x) (S x)):JC C (.loop c) Q R s:=by
  intro a w hs
  refine wp_loop_ghost (fun n a w=> ∃x,I x∧μ x=n∧Sat C (RS x) (S x) a w) (μ x0) ⟨x0,hI,rfl,h0 a w hs⟩ ?_
  rintro n a w ⟨x,Cv,rfl,hx⟩
  exact Code.wp_mono (fun e a w q=>by
    cases e with
    |normal=>obtain⟨y,h0,h1,h2⟩:=q;exact⟨μ y,h1,y,h0,rfl,h2⟩
    |exit i=>exact q
    |goto l=>exact q
    |ret=>exact q
    |panic c=>exact q
    |outgrown=>exact q) (h x Cv a w hx)
end
end Go.Proofs.YtbjakddkfgjkaaaGreat.Fw
namespace Go.Proofs.YtbjakddkfgjkaaaGreat.Fw
open Go.RowKit
section
variable {P : Program} {ops : Array Oper} {Q : Exit → Act → World → Prop} {md : Region.Mode} {S : World → Prop} {n : Nat}
def Ix (P:Program)(md:Region.Mode)(ops:Array Oper)(Q:Exit→Act→World→Prop)(X:List Nat)(n:Nat):Nat→(World→Prop)→Array Bool→Act→World→Prop
  |0,_,bo,a,w=>Region.ready md ops bo=[]∧Q .normal a w
  |fuel+1,S,bo,a,w=>
    (Region.ready md ops bo=[]→Q .normal a w)∧
    ∀i∈Region.ready md ops bo,wpOp P ops Q i (fun a' w'=> ∃S',(i∉X→S'=S)∧(i<n→S' w')∧Ix P md ops Q X n fuel S' (bo.setIfInBounds i true) a' w') a w
theorem tM {X:List Nat}: ∀(fuel:Nat) (S:World→Prop) (bo:Array Bool) (a:Act) (w:World),Ix P md ops Q X n fuel S bo a w→wpAny P md ops Q fuel bo a w
  |0,_,_,_,_,h=>h
  |fuel+1,_,_,_,_,h=>⟨h.1,fun i hi=>wpOp_mono (fun a' w' ⟨S',_,_,h'⟩=>tM fuel S' _ a' w' h') (h.2 i hi)⟩
def yP (md:Region.Mode)(ops:Array Oper)(n:Nat):Bool:=Nat.beq n ops.size||(Nat.blt n ops.size && Region.sinkB md ops n && Region.chainB md ops n)
theorem AU {bo:Array Bool}(hT:yP md ops n=true)(inv:HeadInv md ops n bo){i j:Nat}(hi:i<n)(Hr:bo.getD i true=false)(hj:j∈Region.ready md ops bo):j<n:=by
  rcases Nat.lt_or_ge j n with h|h
  · exact h
  · exfalso
    simp only[yP,Bool.or_eq_true,Bool.and_eq_true] at hT
    rcases hT with h0|⟨⟨h1,h2⟩,h3⟩
    · have e:n=ops.size:=Nat.eq_of_beq_eq_true h0
      obtain⟨_,oj,hoj,_⟩:=mem_ready.1 hj
      have:=(Array.getElem?_eq_some_iff.1 hoj).1
      omega
    · exact tail_waits h2 h3 (by simpa using h1) inv _ i rfl hi Hr j h hj
theorem wk {X:List Nat}{T:World→Prop}{i:Nat}{oi:Oper}{v:Value}(hi:ops[i]? =some oi)(E8: ∀(j:Nat) (o:Oper) cs b,ops[j]? =some o→o.op≠ .select cs b)
    (hT:yP md ops n=true) (E9:i<n) (Tz:i∉X) (hQ: ∀c a w,Q (.panic c) (a.put oi.dst v) w→Q (.panic c) a w) (hX:(∀w,T w)∨X.all (fun j=>Region.waitsFor md ops j i)=true):
    ∀(fuel:Nat) (S:World→Prop) (bo:Array Bool) (a:Act) (w:World),HeadInv md ops n bo→
      (∀j oj,ops[j]? =some oj→j≠i→bo.getD j true=false→(∀e∈oj.after,Region.binds md e=true→e.on≠i)→oi.apart ops oj=true)→
      i∈Region.ready md ops bo→(∀w,S w→T w)→YieldsIf P ops T oi v a→S w→
      Ix P md ops Q X n fuel S (bo.setIfInBounds i true) (a.put oi.dst v) w→Ix P md ops Q X n (fuel+1) S bo a w:=by
  intro fuel
  induction fuel with
  |zero=>
    intro S bo a w inv _ hr Nr hy hS H
    refine⟨fun h=>(by rw[h] at hr;cases hr),fun j hj=>?_⟩
    by_cases EP:j=i
    · subst EP;exact hy.wpOp hi (Nr w hS) ⟨S,fun _=>rfl,fun _=>hS,H⟩
    · have:=ready_mono hj EP
      rw[H.1] at this
      cases this
  |succ fuel ih=>
    intro S bo a w inv Iy hr Nr hy hS H
    have Hr:=(mem_ready.1 hr).1
    refine⟨fun h=>(by rw[h] at hr;cases hr),fun j hj=>?_⟩
    have ql:j<n:=AU hT inv E9 Hr hj
    by_cases EP:j=i
    · subst EP;exact hy.wpOp hi (Nr w hS) ⟨S,fun _=>rfl,fun _=>hS,H⟩
    · have h1:=H.2 j (ready_mono hj EP)
      obtain⟨K0,oj,hoj,gI⟩:=mem_ready.1 hj
      have K1: ∀e∈oj.after,Region.binds md e=true→e.on≠i:=fun e he hb heq=>by
        have h1:=gI e he hb
        rw[heq,getD_both Hr] at h1
        cases h1
      have RD:(∀w,T w)∨j∉X:=by
        rcases hX with h|h
        · exact .inl h
        · refine .inr fun RE=>?_
          obtain⟨TA,K2,e,he,hb,hon⟩:=Region.waitsFor_spec (List.all_eq_true.1 h j RE)
          rw[hoj] at K2
          cases K2
          exact K1 e he hb hon
      have h2:=wpOp_putIf hoj (Iy j oj hoj EP K0 K1) (fun cs b=>E8 i oi cs b hi) (fun cs b=>E8 j oj cs b hoj) hQ hy h1
      have I7: ∀k ok,ops[k]? =some ok→k≠i→(bo.setIfInBounds j true).getD k true=false→
          (∀e∈ok.after,Region.binds md e=true→e.on≠i)→oi.apart ops ok=true:=fun k ok hk RF Hr Ns=>by
        refine Iy k ok hk RF ?_ Ns
        by_cases Qd:j=k
        · subst Qd;exact K0
        · rw[getD_set_ne true Qd] at Hr;exact Hr
      refine wpOp_mono (fun a' w' h3=>?_) h2
      obtain⟨RG,S',h4,h5,h6⟩:=h3
      refine⟨S',h4,h5,ih S' (bo.setIfInBounds j true) a' w' (inv.set hj ql) I7 (ready_mono hr (Ne.symm EP)) ?_ RG (h5 ql) ?_⟩
      · rcases RD with h|h
        · exact fun w _=>h w
        · rw[h4 h];exact Nr
      · rw[Array.setIfInBounds_comm _ _ EP]
        exact h6
inductive Tr where
  |nil
  |z
  |q (i:Nat) (r:Tr)
  |p (i:Nat) (r:Tr)
  |b (i:Nat) (r alt:Tr)
  |x (i:Nat) (r:Tr)
def Tr.e (i:Nat)(r:Tr):Tr:=.b i r .z
def Tr.Cw:Tr→List Nat
  | .b i _ alt=>i::alt.Cw
  |_=>[]
def HW (P:Program)(ops:Array Oper)(Q:Exit→Act→World→Prop)(n:Nat):(World→Prop)→Tr→Act→World→Prop
  |_,.nil,a,w=>wpList P ops Q (ops.toList.drop n) a w
  |_,.z,_,_=>True
  |S,.q i r,a,w=>S w∧ ∃oi v,ops[i]? =some oi∧YieldsIf P ops S oi v a∧HW P ops Q n S r (a.put oi.dst v) w
  |S,.p i r,a,w=>S w∧ ∃oi v,ops[i]? =some oi∧YieldsIf P ops (fun _=>True) oi v a∧HW P ops Q n S r (a.put oi.dst v) w
  |S,.b i r alt,a,w=>wpOp P ops Q i (fun a' w'=>S w'∧HW P ops Q n S r a' w') a w∧HW P ops Q n S alt a w
  |_,.x i r,a,w=> ∃S':World→Prop,wpOp P ops Q i (fun a' w'=>S' w'∧HW P ops Q n S' r a' w') a w
def eF (md:Region.Mode)(ops:Array Oper)(X:List Nat)(n:Nat):Nat→Bool→Tr→Array Bool→Bool
  |0,true,.nil,bo=>Region.seqB md ops (ops.size - n) n bo
  |k+1,true,.q i r,bo=>Nat.blt i n && !X.contains i && X.all (fun j=>Region.waitsFor md ops j i) && (Region.ready md ops bo).contains i && Region.free md ops bo i && eF md ops X n k true r (bo.setIfInBounds i true)
  |k+1,true,.p i r,bo=>Nat.blt i n && !X.contains i && (Region.ready md ops bo).contains i && Region.free md ops bo i && eF md ops X n k true r (bo.setIfInBounds i true)
  |k+1,top,.b i r alt,bo=>(!top||decide (Region.ready md ops bo=i::alt.Cw)) && Nat.blt i n && !X.contains i && eF md ops X n k true r (bo.setIfInBounds i true) && eF md ops X n (k+1) false alt bo
  |k+1,true,.x i r,bo=>Nat.blt i n && decide (Region.ready md ops bo=[i]) && X.contains i && eF md ops X n k true r (bo.setIfInBounds i true)
  |_,false,.z,_=>true
  |_,_,_,_=>false
theorem tN {X:List Nat}(N9:X.all (Nat.blt · n)=true): ∀(l:List Oper) (k:Nat) (S:World→Prop) (bo:Array Bool) (a:Act) (w:World),n≤k→(∀j,l[j]? =ops[k+j]?)→
    Region.seqB md ops l.length k bo=true→wpList P ops Q l a w→Ix P md ops Q X n l.length S bo a w
  |[],_,_,_,_,_,_,_,hB,h=>⟨by simpa[Region.seqB] using hB,h⟩
  |o::l,k,S,bo,a,w,hk,hl,hB,h=>by
    have h0:ops[k]? =some o:=by simpa using (hl 0).symm
    simp only[List.length_cons,Region.seqB,Bool.and_eq_true,decide_eq_true_eq] at hB
    refine⟨fun h1=>(by rw[hB.1] at h1;cases h1),fun i hi=>?_⟩
    rw[hB.1] at hi
    have RH:i=k:=by simpa using hi
    subst RH
    have hw:wpOp P ops Q i (wpList P ops Q l) a w:=by unfold wpOp;simp only[h0];exact h
    exact wpOp_mono (fun a' w' h'=>⟨S,fun _=>rfl,fun E9=>absurd E9 (by omega),tN N9 l (i+1) S _ a' w' (by omega) (fun j=>by have:=hl (j+1);simpa[Nat.add_assoc,Nat.add_comm 1 j] using this) hB.2 h'⟩) hw
theorem Dq {X:List Nat}(N9:X.all (Nat.blt · n)=true)(E8:Region.noSelect ops=true)(hT:yP md ops n=true)(hQ: ∀c a d v w,Q (.panic c) (Act.put a d v) w→Q (.panic c) a w):
    ∀(t:Tr) (k:Nat) (S:World→Prop) (bo:Array Bool) (a:Act) (w:World),HeadInv md ops n bo→HW P ops Q n S t a w→
      (eF md ops X n k true t bo=true→Ix P md ops Q X n (k+(ops.size - n)) S bo a w)∧
      (eF md ops X n k false t bo=true→ ∀j∈t.Cw,j∈Region.ready md ops bo→ ∃k',k=k'+1∧wpOp P ops Q j (fun a' w'=> ∃S',(j∉X→S'=S)∧(j<n→S' w')∧Ix P md ops Q X n (k'+(ops.size - n)) S' (bo.setIfInBounds j true) a' w') a w):=by
  intro t
  induction t with
  |nil=>
    intro k S bo a w inv h
    refine⟨fun hB=>?_,fun hB=>(by cases k<;>simp [eF] at hB)⟩
    cases k with
    |succ k=>simp [eF] at hB
    |zero=>
      have hl:(ops.toList.drop n).length=ops.size - n:=by simp
      simp only[eF] at hB
      have:=tN (P:=P) (Q:=Q) (n:=n) N9 (ops.toList.drop n) n S bo a w (Nat.le_refl _) (fun j=>by simp[List.getElem?_drop]) (by rw[hl];exact hB) h
      rw[hl] at this
      simpa using this
  |z=>
    intro k S bo a w inv h
    exact⟨fun hB=>(by cases k<;>simp [eF] at hB),fun _ j hj=>by simp[Tr.Cw] at hj⟩
  |q i r ih=>
    intro k S bo a w inv h
    refine⟨fun hB=>?_,fun hB=>(by cases k<;>simp [eF] at hB)⟩
    cases k with
    |zero=>simp [eF] at hB
    |succ k=>
      simp only[eF,Bool.and_eq_true] at hB
      obtain⟨⟨⟨⟨⟨h1,h0⟩,hX⟩,h2⟩,h3⟩,h4⟩:=hB
      obtain⟨hS,oi,v,nS,hy,hH⟩:=h
      have E9:i<n:=by simpa using h1
      have hr:i∈Region.ready md ops bo:=by simpa using h2
      have:=wk (X:=X) nS (Region.noSelect_spec E8) hT E9 (by simpa using h0) (fun c a w=>hQ c a _ _ w) (.inr hX) _ S bo a w inv (Region.free_spec nS h3) hr (fun _ h=>h) hy hS ((ih k S _ _ w (inv.set hr E9) hH).1 h4)
      simpa[Nat.add_right_comm] using this
  |p i r ih=>
    intro k S bo a w inv h
    refine⟨fun hB=>?_,fun hB=>(by cases k<;>simp [eF] at hB)⟩
    cases k with
    |zero=>simp [eF] at hB
    |succ k=>
      simp only[eF,Bool.and_eq_true] at hB
      obtain⟨⟨⟨⟨h1,h0⟩,h2⟩,h3⟩,h4⟩:=hB
      obtain⟨hS,oi,v,nS,hy,hH⟩:=h
      have E9:i<n:=by simpa using h1
      have hr:i∈Region.ready md ops bo:=by simpa using h2
      have:=wk (X:=X) nS (Region.noSelect_spec E8) hT E9 (by simpa using h0) (fun c a w=>hQ c a _ _ w) (.inl fun _=>trivial) _ S bo a w inv (Region.free_spec nS h3) hr (fun _ _=>trivial) hy hS ((ih k S _ _ w (inv.set hr E9) hH).1 h4)
      simpa[Nat.add_right_comm] using this
  |b i r alt RI KV=>
    intro k S bo a w inv h
    have key: ∀(k:Nat),i<n→i∉X→eF md ops X n k true r (bo.setIfInBounds i true)=true→i∈Region.ready md ops bo→
        wpOp P ops Q i (fun a' w'=> ∃S',(i∉X→S'=S)∧(i<n→S' w')∧Ix P md ops Q X n (k+(ops.size - n)) S' (bo.setIfInBounds i true) a' w') a w:=fun k h1 h0 h4 hr=>
      wpOp_mono (fun a' w' h'=>⟨S,fun _=>rfl,fun _=>h'.1,(RI k S _ a' w' (inv.set hr h1) h'.2).1 h4⟩) h.1
    cases k with
    |zero=>exact⟨fun hB=>(by simp[eF] at hB),fun hB=>(by simp[eF] at hB)⟩
    |succ k=>
      refine⟨fun hB=>?_,fun hB j hj hr=>?_⟩
      · simp only[eF,Bool.and_eq_true,Bool.not_true,Bool.false_or,decide_eq_true_eq] at hB
        obtain⟨⟨⟨⟨h2,h1⟩,h0⟩,h4⟩,h5⟩:=hB
        rw[show k+1+(ops.size - n)=(k+(ops.size - n))+1 by omega]
        refine⟨fun h0=>(by rw[h2] at h0;cases h0),fun j hj=>?_⟩
        have ER:=hj
        rw[h2] at ER
        rcases List.mem_cons.1 ER with rfl|ER
        · exact key k (by simpa using h1) (by simpa using h0) h4 hj
        · obtain⟨k',hk,hh⟩:=(KV (k+1) S bo a w inv h.2).2 h5 j ER hj
          have:k'=k:=by omega
          subst this
          exact hh
      · simp only[eF,Bool.and_eq_true,Bool.not_false,Bool.true_or,true_and] at hB
        obtain⟨⟨⟨h1,h0⟩,h4⟩,h5⟩:=hB
        rcases List.mem_cons.1 hj with rfl|hj
        · exact⟨k,rfl,key k (by simpa using h1) (by simpa using h0) h4 hr⟩
        · exact (KV (k+1) S bo a w inv h.2).2 h5 j hj hr
  |x i r ih=>
    intro k S bo a w inv h
    refine⟨fun hB=>?_,fun hB=>(by cases k<;>simp [eF] at hB)⟩
    cases k with
    |zero=>simp [eF] at hB
    |succ k=>
      simp only[eF,Bool.and_eq_true,decide_eq_true_eq] at hB
      obtain⟨⟨⟨h1,h2⟩,h0⟩,h4⟩:=hB
      have E9:i<n:=by simpa using h1
      have hr:i∈Region.ready md ops bo:=by rw[h2];simp
      obtain⟨S',oH⟩:=h
      rw[show k+1+(ops.size - n)=(k+(ops.size - n))+1 by omega]
      refine⟨fun h0=>(by rw[h2] at h0;cases h0),fun j hj=>?_⟩
      rw[h2] at hj
      have:j=i:=by simpa using hj
      subst this
      exact wpOp_mono (fun a' w' h'=>⟨S',fun lr=>absurd (by simpa using h0) lr,fun _=>h'.1,(ih k S' _ a' w' (inv.set hr E9) h'.2).1 h4⟩) oH
def Cy (md:Region.Mode)(ops:Array Oper)(X:List Nat)(n:Nat)(t:Tr):Bool:=
  X.all (Nat.blt · n) && Region.noSelect ops && yP md ops n && Nat.ble n ops.size && eF md ops X n n true t (Array.replicate ops.size false)
theorem tO {id:Nat}{a:Act}{w:World}(X:List Nat)(t:Tr)(hm:P.follows .mixedOrders=true)(hB:Cy .any ops X n t=true)(hQ: ∀c a d v w,Q (.panic c) (Act.put a d v) w→Q (.panic c) a w)
    (h:HW P ops Q n S t a { w with drawn:=w.drawn+1 }):(Code.region id ops true).wp P Q a w:=by
  simp only[Cy,Bool.and_eq_true] at hB
  obtain⟨⟨⟨⟨h0,h1⟩,h2⟩,h3⟩,h5⟩:=hB
  have hn:n≤ops.size:=Nat.le_of_ble_eq_true h3
  have Oa:HeadInv .any ops n (Array.replicate ops.size false):=
    ⟨by simp,fun j oj _ hl=>(by rw[getD_replicate_false] at hl;cases hl),fun t _ ht=>getD_in (by simpa using ht) (getD_replicate_false _ _)⟩
  have H:=(Dq h0 h1 h2 hQ t n S _ a _ Oa h).1 h5
  rw[show n+(ops.size - n)=ops.size by omega] at H
  exact wp_region_any hm (tM _ _ _ _ _ H)
end
end Go.Proofs.YtbjakddkfgjkaaaGreat.Fw
namespace Go.Proofs.YtbjakddkfgjkaaaGreat.Fw
open Go.RowKit
section
variable {m : List Nat} {w0 : World} {bs : List Nat} {loc : List fq} {R : List bz} {w w' : World}
theorem WS.lF (h:WS m w0 bs loc R w){i:Nat}{b:fq}(hb:loc[i]? =some b):bs.getD i 0∈bs:=by
  have hi:i<loc.length:=(List.getElem?_eq_some_iff.1 hb).1
  have hl:=h.len
  rw[List.getD_eq_getElem?_getD,List.getElem?_eq_getElem (by omega)]
  exact List.getElem_mem _
theorem WS.lt (h:WS m w0 bs loc R w){b:Nat}(hb:b∈bs++R.flatMap bz.fp):b<w.heap.size:=(h.lo b hb).2
theorem WS.pure (h:WS m w0 bs loc R w)(k:Kp [] w w'):WS m w0 bs loc R w':=by
  have kx: ∀b,b<w.heap.size→w'.heap[b]? =w.heap[b]?:=fun b hb=>k.block b hb (by simp)
  refine⟨h.kp.trans (k.mono (by simp)),h.len,fun i b hb lr=>?_,fun r hr=>r.st (fun b hb=>kx b (h.lt (List.mem_append_right _ (List.mem_flatMap.2 ⟨r,hr,hb⟩)))) (h.res r hr),h.nd,
    fun b hb=>⟨(h.lo b hb).1,Nat.lt_of_lt_of_le (h.lo b hb).2 k.size⟩⟩
  rw[kx _ (h.lt (List.mem_append_left _ (h.lF hb)))]
  exact h.loc i b hb lr
theorem WS.new (h:WS m w0 bs loc R w)(r:bz)(hp:r.p w)(hn:r.fp.Nodup)(rD: ∀b,b∈r.fp→(w0.heap.size≤b∨b∈m)∧b<w.heap.size∧b∉bs++R.flatMap bz.fp):WS m w0 bs loc (r::R) w:=by
  refine⟨h.kp,h.len,h.loc,?_,?_,?_⟩
  · intro x hx
    rcases List.mem_cons.1 hx with rfl|hx
    · exact hp
    · exact h.res x hx
  · have h1:=List.nodup_append.1 h.nd
    rw[List.flatMap_cons,List.nodup_append]
    refine⟨h1.1,List.nodup_append.2 ⟨hn,h1.2.1,?_⟩,?_⟩
    · rintro x hx y hy rfl
      exact (rD x hx).2.2 (List.mem_append_right _ hy)
    · rintro x hx y hy rfl
      rcases List.mem_append.1 hy with hy|hy
      · exact (rD x hy).2.2 (List.mem_append_left _ hx)
      · exact h1.2.2 x hx x hy rfl
  · intro b hb
    rw[List.flatMap_cons] at hb
    rcases List.mem_append.1 hb with hb|hb
    · exact h.lo b (List.mem_append_left _ hb)
    · rcases List.mem_append.1 hb with hb|hb
      · exact⟨(rD b hb).1,(rD b hb).2.1⟩
      · exact h.lo b (List.mem_append_right _ hb)
theorem WS.fresh (h:WS m w0 bs loc R w)(k:Kp [] w w')(r:bz)(hp:r.p w')(hn:r.fp.Nodup)(rD: ∀b,b∈r.fp→w.heap.size≤b∧b<w'.heap.size):WS m w0 bs loc (r::R) w':=by
  refine (h.pure k).new r hp hn fun b hb=>⟨.inl (Nat.le_trans h.kp.size (rD b hb).1),(rD b hb).2,fun hm=>?_⟩
  have:=h.lt hm
  have:=(rD b hb).1
  omega
theorem WS.Cz {r:bz}(h:WS m w0 bs loc (r::R) w):WS m w0 bs loc R w:=by
  refine⟨h.kp,h.len,h.loc,fun x hx=>h.res x (List.mem_cons_of_mem _ hx),?_,fun b hb=>h.lo b ?_⟩
  · have h1:=h.nd
    rw[List.flatMap_cons] at h1
    have h2:=List.nodup_append.1 h1
    exact List.nodup_append.2 ⟨h2.1,(List.nodup_append.1 h2.2.1).2.1,fun x hx y hy=>h2.2.2 x hx y (List.mem_append_right _ hy)⟩
  · rcases List.mem_append.1 hb with hb|hb
    · exact List.mem_append_left _ hb
    · rw[List.flatMap_cons]
      exact List.mem_append_right _ (List.mem_append_right _ hb)
theorem WS.sub (h:WS m w0 bs loc R w){R':List bz}(hs:R'.Sublist R):WS m w0 bs loc R' w:=by
  have hf:(R'.flatMap bz.fp).Sublist (R.flatMap bz.fp):=by
    induction hs with
    |slnil=>exact List.Sublist.refl _
    |cons a _ ih=>exact List.Sublist.trans (ih (h.Cz)) (by rw[List.flatMap_cons];exact List.sublist_append_right _ _)
    |cons_cons a _ ih=>
      rw[List.flatMap_cons,List.flatMap_cons]
      exact List.Sublist.append (List.Sublist.refl _) (ih (h.Cz))
  refine⟨h.kp,h.len,h.loc,fun x hx=>h.res x (hs.subset hx),h.nd.sublist (List.Sublist.append (List.Sublist.refl _) hf),fun b hb=>h.lo b ?_⟩
  rcases List.mem_append.1 hb with hb|hb
  · exact List.mem_append_left _ hb
  · exact List.mem_append_right _ (hf.subset hb)
theorem WS.turn {r:bz}(h:WS m w0 bs loc (r::R) w)(k:Kp r.fp w w')(r':bz)(hp:r'.p w')(hn:r'.fp.Nodup)(rD: ∀b,b∈r'.fp→b∈r.fp∨(w.heap.size≤b∧b<w'.heap.size)):WS m w0 bs loc (r'::R) w':=by
  have hd:=h.Cz
  have h1:=h.nd
  rw[List.flatMap_cons] at h1
  have h2:=List.nodup_append.1 h1
  have h3:=List.nodup_append.1 h2.2.1
  have Dr: ∀b,b∈r.fp→b∈bs++(r::R).flatMap bz.fp:=fun b hb=>by
    rw[List.flatMap_cons];exact List.mem_append_right _ (List.mem_append_left _ hb)
  have Ns: ∀b,b∈bs++R.flatMap bz.fp→b∉r.fp:=by
    intro b hb hr
    rcases List.mem_append.1 hb with hb|hb
    · exact h2.2.2 b hb b (List.mem_append_left _ hr) rfl
    · exact h3.2.2 b hr b hb rfl
  have kx: ∀b,b∈bs++R.flatMap bz.fp→w'.heap[b]? =w.heap[b]?:=fun b hb=>k.block b (hd.lt hb) (Ns b hb)
  have G5:WS m w0 bs loc R w':=by
    refine⟨h.kp.step k fun i hi=>((h.lo i (Dr i hi)).1).symm,hd.len,fun i b hb lr=>?_,fun x hx=>x.st (fun b hb=>kx b (List.mem_append_right _ (List.mem_flatMap.2 ⟨x,hx,hb⟩))) (hd.res x hx),hd.nd,
      fun b hb=>⟨(hd.lo b hb).1,Nat.lt_of_lt_of_le (hd.lo b hb).2 k.size⟩⟩
    rw[kx _ (List.mem_append_left _ (hd.lF hb))]
    exact hd.loc i b hb lr
  refine G5.new r' hp hn fun b hb=>?_
  rcases rD b hb with hr|⟨h4,h5⟩
  · exact⟨(h.lo b (Dr b hr)).1,Nat.lt_of_lt_of_le (h.lt (Dr b hr)) k.size,fun hm=>Ns b hm hr⟩
  · refine⟨.inl (Nat.le_trans h.kp.size h4),h5,fun hm=>?_⟩
    have:=hd.lt hm
    omega
theorem WS.Qf (h:WS m w0 bs loc R w)(i:Nat)(b:fq)(hb:loc[i]? =some b)(cs:List SV)(k:Kp [bs.getD i 0] w w')(hw:w'.heap[bs.getD i 0]? =some (.cells (cs.map (den bs)).toArray b.ty (0,0))):
    WS m w0 bs (loc.set i ⟨b.ty,cs⟩) R w':=by
  have hl:=h.len
  have hi:i<loc.length:=(List.getElem?_eq_some_iff.1 hb).1
  have E3:i<bs.length:=by omega
  have hg:bs.getD i 0=bs[i]:=by simp[E3]
  have tH:=h.lF hb
  have h1:=List.nodup_append.1 h.nd
  have kx: ∀k,k<w.heap.size→k≠bs.getD i 0→w'.heap[k]? =w.heap[k]?:=fun x yI G3=>k.block x yI (by simpa using G3)
  refine⟨?_,by simp[hl],?_,?_,h.nd,fun x hx=>⟨(h.lo x hx).1,Nat.lt_of_lt_of_le (h.lo x hx).2 k.size⟩⟩
  · refine h.kp.step k (fun x hk=>?_)
    simp only[List.mem_singleton] at hk
    subst hk
    exact (h.lo _ (List.mem_append_left _ tH)).1.symm
  · intro j c hc lr
    by_cases jf:i=j
    · subst jf
      rw[List.getElem?_set_self hi] at hc
      injection hc with hc
      subst hc
      exact hw
    · rw[List.getElem?_set_ne jf] at hc
      have hj:j<loc.length:=(List.getElem?_eq_some_iff.1 hc).1
      have Iu:j<bs.length:=by omega
      have Kt:bs.getD j 0=bs[j]:=by simp[Iu]
      rw[kx _ (h.lo _ (List.mem_append_left _ (h.lF hc))).2 (by
        rw[hg,Kt]
        intro he
        exact jf ((List.getElem?_inj E3 h1.1).1 (by rw[List.getElem?_eq_getElem E3,List.getElem?_eq_getElem Iu,he])))]
      exact h.loc j c hc lr
  · intro r hr
    refine r.st (fun x yI=>kx x (h.lo x (List.mem_append_right _ (List.mem_flatMap.2 ⟨r,hr,yI⟩))).2 ?_) (h.res r hr)
    rintro rfl
    exact h1.2.2 _ tH _ (List.mem_flatMap.2 ⟨r,hr,yI⟩) rfl
theorem WS.mask (h:WS m w0 bs loc R w)(i:Nat)(t:Nat):WS m w0 bs (loc.set i ⟨t,[]⟩) R w:=by
  refine⟨h.kp,by simp[h.len],fun j c hc lr=>?_,h.res,h.nd,h.lo⟩
  by_cases jf:i=j
  · subst jf
    by_cases hi:i<loc.length
    · rw[List.getElem?_set_self hi] at hc
      injection hc with hc
      subst hc
      exact absurd rfl lr
    · rw[List.getElem?_eq_none (by simpa using hi)] at hc
      cases hc
  · rw[List.getElem?_set_ne jf] at hc
    exact h.loc j c hc lr
end
def mW:Nat→List SV→Env
  |_,[]=>[]
  |k,x::r=>(k,x)::mW (k+1) r
theorem sw: ∀(l:List SV) (k t:Nat) (x:SV),get (mW k l) t=some x→k≤t∧l[t - k]? =some x
  |[],k,t,x,h=>by simp[mW,get] at h
  |y::r,k,t,x,h=>by
    simp only[mW,get] at h
    cases hb:Nat.beq k t with
    |true=>
      have e:k=t:=Nat.eq_of_beq_eq_true hb
      subst e
      simp only[hb,cond_true,Option.some.injEq] at h
      subst h
      simp
    |false=>
      simp only[hb,cond_false] at h
      obtain⟨h1,h2⟩:=sw r (k+1) t x h
      exact⟨by omega,by rw[show t - k=(t - (k+1))+1 by omega];simpa using h2⟩
theorem Cj {P:Program}{f:Nat}{fn:Func}{c:Code}{w:World}{R':Ending→World→Prop}(n:Nat)(m:List Nat)(hf:P.funcs[f]? =some fn)(hb:fn.body=some c)(hn:fn.ntmps=n)
    (gM:List Nat) (ck:List fq) (R0:List bz) (xs:List SV) (vs:List Value) (hlen:Nat.ble vs.length n=true) (hx:xs.map (den gM)=vs) (hW:WS m w gM ck R0 w)
    (h:JC ⟨P,n,m,w⟩ c (bodyPost P fn R') R0 ⟨mW 0 xs,ck⟩):Calls P f vs.toArray w R':=by
  refine calls_of_wp hf hb (h _ _ ⟨gM,⟨rfl,fun t x ht=>?_⟩,?_,hW⟩)
  · obtain⟨_,h2⟩:=sw xs 0 t x ht
    have h3:vs[t]? =some (den gM x):=by rw[←hx];simp only[Nat.sub_zero] at h2;simp[h2]
    have ht:t<vs.length:=(List.getElem?_eq_some_iff.1 h3).1
    have h4:(vs.toArray++Array.replicate (fn.ntmps - vs.toArray.size) undef)[t]? =some (den gM x):=by
      rw[Array.getElem?_append_left (by simpa using ht)]
      simpa using h3
    simp only[Array.getD_eq_getD_getElem?,h4,Option.getD_some]
  · have:=Nat.le_of_ble_eq_true hlen
    simp[hn]
    omega
theorem WS.start (w:World):WS [] w [] [] [] w:=⟨Kp.refl _ _,rfl,fun i b hb=>by simp at hb,fun r hr=>by simp at hr,by simp,fun b hb=>by simp at hb⟩
def xI (P:Program)(s:SS):List ResultVar→Option (List SV)
  |[]=>some []
  | .tmp t::r=>
    match get s.env t,xI P s r with
    |some x,some l=>some (x::l)
    |_,_=>none
  | .cell t T::r=>
    match get s.env t,xI P s r with
    |some (.p i o),some l=>
      if (P.underlying T).isNone then none else
      match s.loc[i]? with
      |some b=>
        if lE P T then
          match je ((b.cs.drop o).take (P.cellsOf T)) with
          |some vs=>if vs.length=P.cellsOf T then some (.v (.agg vs.toArray)::l) else none
          |none=>none
        else match b.cs[o]? with
          |some x=>some (x::l)
          |none=>none
      |none=>none
    |_,_=>none
def bO:List Value→Value
  |[x]=>x
  |l=>.tuple l.toArray
def tP (tmps:Array Value):ResultVar→Sem Value
  | .tmp t=>Pure.pure (tmps.getD t undef)
  | .cell a t=>do loadVar t (←asAddr (tmps.getD a undef))
theorem tQ (P:Program)(s:SS)(bs:List Nat)(a:Act)(w:World)(hf:Fr bs s.env a)(hl:wh bs s.loc w): ∀(l:List ResultVar) (xs:List SV),xI P s l=some xs→
    (l.mapM (tP a.tmps)).run P w=.ok (xs.map (den bs)) w
  |[],xs,h=>by simp[xI] at h;subst h;simp
  | .tmp t::r,xs,h=>by
    simp only[xI] at h
    split at h
    · rename_i x l hx Hm
      injection h with h
      subst h
      have ih:=tQ P s bs a w hf hl r l Hm
      simp only[List.mapM_cons,tP,Sem.run_bind,Sem.run_pure,Result.andThen_ok,ih,hf.2 t x hx,List.map_cons]
    · cases h
  | .cell t T::r,xs,h=>by
    simp only[xI] at h
    split at h
    · rename_i i o l hx Hm
      have ih:=tQ P s bs a w hf hl r l Hm
      split at h
      · cases h
      · rename_i hU
        have I1:=jA hU
        have hI:=info_of_underlying (Bool.eq_false_iff.2 hU)
        split at h
        · rename_i b hb
          split at h
          · rename_i mj
            split at h
            · rename_i vs rE
              split at h
              · rename_i hlen
                injection h with h
                subst h
                have hc:bq w (kv bs i o) vs:=by
                  intro j v hj
                  have h1:=iw bs rE
                  rw[←h1] at hj
                  simp only[List.getElem?_map,List.getElem?_take,List.getElem?_drop] at hj
                  split at hj
                  · obtain⟨y,hy,rfl⟩:=Option.map_eq_some_iff.1 hj
                    rw[oG]
                    exact hl.cell hb hy
                  · simp at hj
                simp only[List.mapM_cons,tP,Sem.run_bind,hf.2 t _ hx,den,asAddr,Sem.run_pure,Result.andThen_ok,nP P w T _ vs mj hlen hI hc,ih,List.map_cons]
              · cases h
            · cases h
          · rename_i mj
            split at h
            · rename_i y hy
              injection h with h
              subst h
              have hc:w.cell? (kv bs i o)=some (den bs y):=hl.cell hb hy
              have e1:=hf.2 t _ hx
              simp only[den] at e1
              simp only[List.mapM_cons,tP,Sem.run_bind,e1,asAddr,Sem.run_pure,Result.andThen_ok,nQ P w T _ _ (by simpa using mj) I1 hc,ih,List.map_cons]
            · cases h
        · cases h
    · cases h
theorem Rt {C:Cx}{R:List bz}{s:SS}{fn:Func}{R':Ending→World→Prop}{e:Exit}(he:e=.ret∨e=.normal)(xs:List SV)(h:xI C.P s fn.results.toList=some xs)
    (hR: ∀bs w,WS C.m C.w0 bs s.loc R w→R' (.returned (bO (xs.map (den bs)))) w):JQ C (bodyPost C.P fn R') e R s:=by
  rintro a w ⟨bs,hf,hn,hS⟩
  have h1:=tQ C.P s bs a w hf hS.loc _ _ h
  have h2:(results fn a.tmps).run C.P w=.ok (bO (xs.map (den bs))) w:=by
    have e:results fn a.tmps=(do let vs ←fn.results.mapM (tP a.tmps);Pure.pure (if h:vs.size=1 then vs[0] else .tuple vs)):=rfl
    rw[e,Array.mapM_eq_mapM_toList]
    simp only[Sem.run_bind,Sem.run_map,h1,Result.andThen_ok,Sem.run_pure]
    generalize xs.map (den bs)=l
    match l with
    |[]=>rfl
    |[x]=>rfl
    |x::y::r=>simp [bO]
  rcases he with rfl|rfl<;>exact⟨hf.1,_,h2,hR bs w hS⟩
end Go.Proofs.YtbjakddkfgjkaaaGreat.Fw
namespace Go.Proofs.YtbjakddkfgjkaaaGreat.Fw
open Go.RowKit
theorem rC.put {C:Cx}{R R':List bz}{s:SS}{bs:List Nat}{a:Act}{w w':World}{dN:List fq}(h:rC C R s bs a w){d:Option Nat}(hd:kW C.n d=true)(x:SV)(v:Value)(hx:v=den bs x)(hS:WS C.m C.w0 bs dN R' w'):
    rC C R' ⟨jz s.env d x,dN⟩ bs (a.put d v) w':=by
  subst hx
  refine⟨h.1.put d x (by rw[h.2.1];exact yN hd),?_,hS⟩
  cases d with
  |none=>exact h.2.1
  |some t=>simp [Act.put,h.2.1]
def g5 (C:Cx)(o:Oper)(R:List bz)(s:SS){σ:Type}(val:σ→SV)(dN:σ→List fq)(R':σ→List bz):Prop:=
  ∀bs a w,rC C R s bs a w→ ∀(K:Act→World→Prop) (Q:Exit→Act→World→Prop),(∀y w',WS C.m C.w0 bs (dN y) (R' y) w'→K (a.put o.dst (den bs (val y))) w')→o.wp C.P a w K Q
theorem I8 {C:Cx}{R:List bz}{s:SS}{ops:Array Oper}{Q:Exit→Act→World→Prop}{o:Oper}{rest:List Oper}{σ:Type}(val:σ→SV)(dN:σ→List fq)(R':σ→List bz)
    (hd:kW C.n o.dst=true) (hg:gd ops s o=some true) (h:g5 C o R s val dN R') (hJ: ∀y,JL C ops Q (R' y) ⟨jz s.env o.dst (val y),dN y⟩ rest):JL C ops Q R s (o::rest):=by
  rintro a w ⟨bs,Iz⟩
  have hs:rC C R s bs a w:=Iz
  refine wpList_step fun K hK=>?_
  rw[iM hs.1 hg,if_pos rfl]
  exact h bs a w hs K Q fun y w' hS=>hK _ _ (hJ y _ _ (Sat.of (hs.put hd (val y) _ rfl hS)))
def xJ (bs:List Nat)(dc:List (Nat×Nat)):List Value:=dc.map fun c=>Value.pointer (some (kv bs c.1 c.2))
theorem CA {C:Cx}{R:List bz}{s:SS}{d:Option Nat}{ty:Nat}{pos:String}{AV:Array Edge}{g:Option (Nat×Bool)}{T:Nat}{A X:Operand}(ad:Addr)(x:SV)(R':List bz)
    (hA:ev s A=some (.v (.pointer (some ad)))) (hx:ev s X=some x)
    (nD: ∀bs w,WS C.m C.w0 bs s.loc R w→ ∃w',(storeVar T ad (den bs x)).run C.P w=.ok () w'∧WS C.m C.w0 bs s.loc R' w'):
    g5 C ⟨d,.store T A X,ty,pos,AV,g⟩ R s (σ:=Unit) (fun _=>.v undef) (fun _=>s.loc) (fun _=>R'):=by
  rintro bs a w ⟨pz,hn,hS⟩ K Q hK
  obtain⟨w',h1,h2⟩:=nD bs w hS
  unfold Oper.wp
  have e1:a.eval A=.pointer (some ad):=aV pz hA
  have e2:=aV pz hx
  have jC:(execOp a.eval ⟨d,.store T A X,ty,pos,AV,g⟩).run C.P w=.ok .skip w':=by
    unfold execOp
    simp only[Sem.run_bind,Instr.storeAt,e1,Instr.sureAddr,Sem.run_pure,Result.andThen_ok,e2,h1]
  rw[jC]
  exact hK () w' h2
theorem lx {C:Cx}{R:List bz}{s:SS}{d:Option Nat}{ty:Nat}{pos:String}{AV:Array Edge}{g:Option (Nat×Bool)}{b:Builtin}{args:Array Operand}{su:Array Nat}{σ:Type}(xs:List SV)
    (val:σ→SV) (dN:σ→List fq) (R':σ→List bz) (hx:Cu s args.toList=some xs)
    (nD: ∀bs w cs,WS C.m C.w0 bs s.loc R w→ ∃y w',(builtin b su ty cs (xs.map (den bs)).toArray).run C.P w=.ok (.value (den bs (val y))) w'∧WS C.m C.w0 bs (dN y) (R' y) w'):
    g5 C ⟨d,.call ⟨.builtin b,args,su⟩,ty,pos,AV,g⟩ R s val dN R':=by
  rintro bs a w ⟨pz,hn,hS⟩ K Q hK
  have e1:=jl pz hx
  have e2:args.map a.eval=(xs.map (den bs)).toArray:=by
    rw[←e1]
    apply Array.ext'
    simp
  obtain⟨y,w',h1,h2⟩:=nD bs w (args.map fun| .const _=>true|_=>false) hS
  unfold Oper.wp
  have jC:(execOp a.eval ⟨d,.call ⟨.builtin b,args,su⟩,ty,pos,AV,g⟩).run C.P w=.ok (.value (den bs (val y))) w':=by
    unfold execOp
    simp only[resolve,Sem.run_bind,e2,Sem.run_pure,Result.andThen_ok,invoke]
    exact h1
  rw[jC]
  exact hK y w' h2
theorem rF {C:Cx}{R:List bz}{s:SS}{d:Option Nat}{ty:Nat}{pos:String}{AV:Array Edge}{g:Option (Nat×Bool)}{S D:Nat}{X:Operand}{σ:Type}(x:SV)
    (val:σ→SV) (dN:σ→List fq) (R':σ→List bz) (hx:ev s X=some x)
    (nD: ∀bs w,WS C.m C.w0 bs s.loc R w→ ∃y w',(convert S D (den bs x)).run C.P w=.ok (den bs (val y)) w'∧WS C.m C.w0 bs (dN y) (R' y) w'):
    g5 C ⟨d,.convert S D X,ty,pos,AV,g⟩ R s val dN R':=by
  rintro bs a w ⟨pz,hn,hS⟩ K Q hK
  obtain⟨y,w',h1,h2⟩:=nD bs w hS
  unfold Oper.wp
  have jC:(execOp a.eval ⟨d,.convert S D X,ty,pos,AV,g⟩).run C.P w=.ok (.value (den bs (val y))) w':=by
    unfold execOp
    simp only[Sem.run_bind,aV pz hx,h1,Result.andThen_ok,Sem.run_pure]
  rw[jC]
  exact hK y w' h2
def PQ (Q:Exit→Act→World→Prop):Prop:= ∀c a d v w,Q (.panic c) (a.put d v) w→Q (.panic c) a w
theorem Hs {P:Program}{fn:Func}{R:Ending→World→Prop}:PQ (bodyPost P fn R):=by
  intro c a d v w h
  have e:(a.put d v).defers=a.defers:=by cases d<;>rfl
  exact⟨e▸h.1,h.2⟩
theorem CB {K:Act→World→Prop}{Q:Exit→Act→World→Prop}(h:PQ Q):PQ (Exit.then K Q):=h
theorem Fa {i:Nat}{Q:Exit→Act→World→Prop}(h:PQ Q):PQ (Exit.inBlock i Q):=h
def JH (C:Cx)(ops:Array Oper)(Q:Exit→Act→World→Prop)(R0:List bz)(ck:List fq)(n:Nat)(order:Tr)(R:List bz)(s:SS):Prop:=
  ∀gM bs a w,gM<+:bs→rC C R s bs a w→WS C.m C.w0 gM ck R0 w→HW C.P ops Q n (WS C.m C.w0 gM ck R0) order a w
def nT:List fq→List Nat→List fq
  |l,[]=>l
  |l,i::r=>nT (l.set i ⟨0,[]⟩) r
theorem WS.nT {m:List Nat}{w0:World}{bs:List Nat}{R:List bz}{w:World}: ∀(l:List Nat) {loc:List fq},WS m w0 bs loc R w→WS m w0 bs (Fw.nT loc l) R w
  |[],_,h=>h
  |i::r,_,h=>WS.nT r (h.mask i 0)
theorem Hn {C:Cx}{ops:Array Oper}{Q:Exit→Act→World→Prop}{R0:List bz}{ck:List fq}{n:Nat}{R:List bz}{s:SS}(h:JL C ops Q R s (ops.toList.drop n)):JH C ops Q R0 ck n .nil R s:=
  fun _ bs a w _ hs _=>h a w ⟨bs,hs⟩
def yQ (P:Program)(n:Nat)(ops:Array Oper)(hs:List (Nat×Hint))(ck:List fq):List (Nat×Bool)→Env→Option (Env×List Prop×List (Addr×List Value))
  |[],e=>some (e,[],[])
  |(i,fl)::r,e=>
    match ops[i]? with
    |none=>none
    |some o=>
      if kW n o.dst then
        match gd ops ⟨e,ck⟩ o with
        |none=>none
        |some false=>
          match yQ P n ops hs ck r (jz e o.dst (.v undef)) with
          |some (e2,iL,ec)=>some (e2,iL,ec)
          |none=>none
        |some true=>
          match mV P ⟨e,if fl then [] else ck⟩ (E7 hs i) o.op with
          |some (x,Ob,IA)=>
            if fl && !IA.isEmpty then none else
            match yQ P n ops hs ck r (jz e o.dst x) with
            |some (e2,iL,ec)=>some (e2,Ob++iL,IA++ec)
            |none=>none
          |none=>none
      else none
def nU (loc:List fq):Bool:=loc.all fun b=>b.cs.all (nC loc.length)
theorem tR {bs gM:List Nat}(hp:gM<+:bs){x:SV}{k:Nat}(hk:k=gM.length)(h:nC k x=true):den bs x=den gM x:=by
  obtain⟨t,rfl⟩:=hp
  have key: ∀i o,i<gM.length→kv (gM++t) i o=kv gM i o:=by
    intro i o hi
    simp[kv,List.getElem?_append,hi]
  subst hk
  cases x with
  |v x=>rfl
  |p i o=>simp only [den,key i o (by simpa[nC] using h)]
  |s i o n c=>simp only [den,key i o (by simpa[nC] using h)]
  |fn f c=>
    simp only[den]
    congr 2
    apply List.map_congr_left
    intro y hy
    have h1:=List.all_eq_true.1 h y hy
    rw[key _ _ (by simpa using h1)]
theorem WS.Ds {m:List Nat}{w0:World}{bs gM:List Nat}{ck:List fq}{R0:List bz}{w:World}(h:WS m w0 gM ck R0 w)(hp:gM<+:bs)(hk:nU ck=true):wh bs ck w:=by
  intro i b hb lr
  have h1:=h.loc i b hb lr
  have hi:i<ck.length:=(List.getElem?_eq_some_iff.1 hb).1
  have hl:=h.len
  have e1:bs.getD i 0=gM.getD i 0:=by
    obtain⟨t,rfl⟩:=hp
    simp[List.getElem?_append,show i<gM.length by omega]
  have e2:b.cs.map (den bs)=b.cs.map (den gM):=List.map_congr_left fun x hx=>tR hp hl (List.all_eq_true.1 (List.all_eq_true.1 hk b (List.mem_of_getElem? hb)) x hx)
  rw[e1,e2]
  exact h1
def Tr.pre:List (Nat×Bool)→Tr→Tr
  |[],t=>t
  |(i,false)::l,t=>.q i (Tr.pre l t)
  |(i,true)::l,t=>.p i (Tr.pre l t)
theorem Hq {C:Cx}{ops:Array Oper}{Q:Exit→Act→World→Prop}{R0:List bz}{ck:List fq}{n:Nat}{R:List bz}{s:SS}{rest:Tr}(hs:List (Nat×Hint))(l:List (Nat×Bool))(I9:Env)(iL:List Prop)(ec:List (Addr×List Value))
    (hk:nU ck=true)
    (h:yQ C.P C.n ops hs ck l s.env=some (I9,iL,ec)) (ho:jX iL) (hw: ∀w,Kp C.m C.w0 w→(∀r,r∈R0→r.p w)→nB w ec)
    (hJ:JH C ops Q R0 ck n rest R ⟨I9,s.loc⟩):JH C ops Q R0 ck n (Tr.pre l rest) R s:=by
  have key: ∀(l:List (Nat×Bool)) (e:Env) (iL:List Prop) (ec:List (Addr×List Value)),yQ C.P C.n ops hs ck l e=some (I9,iL,ec)→jX iL→
      (∀w,Kp C.m C.w0 w→(∀r,r∈R0→r.p w)→nB w ec)→JH C ops Q R0 ck n (Tr.pre l rest) R ⟨e,s.loc⟩:=by
    intro l
    induction l with
    |nil=>
      intro e iL ec h _ _
      simp only[yQ,Option.some.injEq,Prod.mk.injEq] at h
      obtain⟨rfl,_,_⟩:=h
      exact hJ
    |cons y r ih=>
      obtain⟨i,fl⟩:=y
      intro e iL ec h ho hw
      simp only[yQ] at h
      split at h
      · cases h
      · rename_i o nS
        split at h
        case isFalse=>cases h
        rename_i hd
        split at h
        · cases h
        · rename_i hg
          split at h
          · rename_i e2 o2 w2 h2
            simp only[Option.some.injEq,Prod.mk.injEq] at h
            obtain⟨rfl,rfl,rfl⟩:=h
            have Nt:=ih _ _ _ h2 ho hw
            intro gM bs a w hp iN sy
            cases fl with
            |false=>exact⟨sy,o,undef,nS,.inr ⟨iM (s:=⟨e,ck⟩) iN.1 hg,rfl⟩,Nt gM bs _ w hp (iN.put hd (.v undef) undef rfl iN.2.2) sy⟩
            |true=>exact⟨sy,o,undef,nS,.inr ⟨iM (s:=⟨e,ck⟩) iN.1 hg,rfl⟩,Nt gM bs _ w hp (iN.put hd (.v undef) undef rfl iN.2.2) sy⟩
          · cases h
        · rename_i hg
          split at h
          · rename_i x o1 w1 h1
            split at h
            · cases h
            rename_i G6
            split at h
            · rename_i e2 o2 w2 h2
              simp only[Option.some.injEq,Prod.mk.injEq] at h
              obtain⟨rfl,rfl,rfl⟩:=h
              have kV:=nN.1 ho
              have Nt:=ih _ _ _ h2 kV.2 (fun w a1 a2=>(g8.1 (hw w a1 a2)).2)
              intro gM bs a w hp iN sy
              have IB:=Nt gM bs _ w hp (iN.put hd x _ rfl iN.2.2) sy
              cases fl with
              |false=>
                refine⟨sy,o,den bs x,nS,.inl ⟨iM (s:=⟨e,ck⟩) iN.1 hg,fun w' oH=>?_⟩,IB⟩
                exact l7 C.P o ⟨e,ck⟩ _ x o1 w1 bs a w' (by simpa using h1) kV.1 iN.1 (oH.Ds hp hk) (g8.1 (hw w' oH.kp oH.res)).1
              |true=>
                have Qg:w1=[]:=by simpa using G6
                refine⟨sy,o,den bs x,nS,.inl ⟨iM (s:=⟨e,ck⟩) iN.1 hg,fun w' _=>?_⟩,IB⟩
                refine l7 C.P o ⟨e,[]⟩ _ x o1 w1 bs a w' (by simpa using h1) kV.1 iN.1 (fun i b hb=>by simp at hb) ?_
                rw[Qg]
                exact trivial
            · cases h
          · cases h
  exact key l s.env iL ec h ho hw
theorem Ja {C:Cx}{ops:Array Oper}{Q:Exit→Act→World→Prop}{R0:List bz}{ck:List fq}{n:Nat}{R:List bz}{s:SS}{rest:Tr}{i:Nat}{o:Oper}{σ:Type}(val:σ→SV)(dN:σ→List fq)(R':σ→List bz)
    (nS:ops[i]? =some o) (hd:kW C.n o.dst=true) (hg:gd ops s o=some true) (h:g5 C o R s val dN R')
    (hS: ∀gM bs y w,gM<+:bs→ck.length=gM.length→WS C.m C.w0 bs (dN y) (R' y) w→WS C.m C.w0 gM ck R0 w)
    (hJ: ∀y,JH C ops Q R0 ck n rest (R' y) ⟨jz s.env o.dst (val y),dN y⟩):JH C ops Q R0 ck n (.b i rest .z) R s:=by
  intro gM bs a w hp iN sy
  refine⟨?_,trivial⟩
  show wpOp C.P ops Q i _ a w
  unfold wpOp
  simp only[nS]
  rw[iM iN.1 hg,if_pos rfl]
  exact .inl (h bs a w iN _ Q fun y w' oH=>⟨hS gM bs y w' hp sy.len oH,hJ y gM bs _ w' hp (iN.put hd (val y) _ rfl oH) (hS gM bs y w' hp sy.len oH)⟩)
theorem Oc {C:Cx}{ops:Array Oper}{Q:Exit→Act→World→Prop}{R0:List bz}{ck:List fq}{n:Nat}{R:List bz}{s:SS}{i:Nat}{r alt:Tr}(h1:JH C ops Q R0 ck n (.b i r .z) R s)(h2:JH C ops Q R0 ck n alt R s):JH C ops Q R0 ck n (.b i r alt) R s:=
  fun gM bs a w hp iN sy=>⟨(h1 gM bs a w hp iN sy).1,h2 gM bs a w hp iN sy⟩
theorem Fb {C:Cx}{ops:Array Oper}{Q:Exit→Act→World→Prop}{R0:List bz}{ck:List fq}{n:Nat}{R:List bz}{s:SS}{rest:Tr}{i:Nat}{o:Oper}{σ:Type}(val:σ→SV)(dN:σ→List fq)(R':σ→List bz)(R1:List bz)(yR:List fq)
    (nS:ops[i]? =some o) (hd:kW C.n o.dst=true) (hg:gd ops s o=some true) (h:g5 C o R s val dN R')
    (hS: ∀gM bs y w,gM<+:bs→ck.length=gM.length→WS C.m C.w0 bs (dN y) (R' y) w→WS C.m C.w0 gM yR R1 w)
    (hJ: ∀y,JH C ops Q R1 yR n rest (R' y) ⟨jz s.env o.dst (val y),dN y⟩):JH C ops Q R0 ck n (.x i rest) R s:=by
  intro gM bs a w hp iN sy
  refine⟨WS C.m C.w0 gM yR R1,?_⟩
  show wpOp C.P ops Q i _ a w
  unfold wpOp
  simp only[nS]
  rw[iM iN.1 hg,if_pos rfl]
  exact .inl (h bs a w iN _ Q fun y w' oH=>⟨hS gM bs y w' hp sy.len oH,hJ y gM bs _ w' hp (iN.put hd (val y) _ rfl oH) (hS gM bs y w' hp sy.len oH)⟩)
theorem Hl {C:Cx}{ops:Array Oper}{Q:Exit→Act→World→Prop}{R0:List bz}{ck:List fq}{n:Nat}{R:List bz}{s:SS}{rest:Tr}{i:Nat}(s':SS)
    (h:(match ops[i]? with|some o=>qj C.P C.n ops s .no o|none=>none)=some (s',[],[]))
    (hS: ∀gM bs w,gM<+:bs→ck.length=gM.length→WS C.m C.w0 bs s'.loc R w→WS C.m C.w0 gM ck R0 w)
    (hJ:JH C ops Q R0 ck n rest R s'):JH C ops Q R0 ck n (.b i rest .z) R s:=by
  intro gM bs a w hp iN sy
  refine⟨?_,trivial⟩
  show wpOp C.P ops Q i _ a w
  split at h
  · rename_i o nS
    unfold wpOp
    simp only[nS]
    have:=qk C R ops s s' .no o [] [] Q (fun a' w'=>WS C.m C.w0 gM ck R0 w'∧HW C.P ops Q n (WS C.m C.w0 gM ck R0) rest a' w') h trivial (fun _ _ _=>trivial) bs
      (fun KZ a' w' Jb Iz=>by
        have h1:=hS gM KZ w' (hp.trans Jb) sy.len Iz.2.2
        exact⟨h1,hJ gM KZ a' w' (hp.trans Jb) Iz h1⟩) a w iN
    split
    · rename_i hw
      rw[if_pos hw] at this
      exact .inl this
    · rename_i hw
      rw[if_neg hw] at this
      exact this
  · cases h
def nr:List fq→List fq→Prop
  |[],_=>True
  |a::r,b::r'=>(a.cs=[]∨a=b)∧nr r r'
  |_::_,[]=>False
theorem nr.get: ∀{l l':List fq},nr l l'→ ∀(i:Nat) (b:fq),l[i]? =some b→b.cs≠[]→l'[i]? =some b
  |[],_,_,i,b,h,_=>by simp at h
  |a::r,[],h,_,_,_,_=>h.elim
  |a::r,c::r',h,0,b,hb,lr=>by
    simp only[List.getElem?_cons_zero,Option.some.injEq] at hb⊢
    subst hb
    rcases h.1 with h1|h1
    · exact absurd h1 lr
    · exact h1.symm
  |a::r,c::r',h,i+1,b,hb,lr=>by
    simp only[List.getElem?_cons_succ] at hb⊢
    exact nr.get h.2 i b hb lr
theorem WS.down {m:List Nat}{w0:World}{bs gM:List Nat}{loc ck:List fq}{R R0:List bz}{w:World}(hp:gM<+:bs)(hl:ck.length=gM.length)(hk:nU ck=true)(hle:nr ck loc)(hR:R0.Sublist R)
    (h:WS m w0 bs loc R w):WS m w0 gM ck R0 w:=by
  have h':=h.sub hR
  have sS:gM.Sublist bs:=hp.sublist
  refine⟨h.kp,hl,?_,h'.res,h'.nd.sublist (List.Sublist.append sS (List.Sublist.refl _)),fun b hb=>h'.lo b ?_⟩
  · intro i b hb lr
    have h1:=h.loc i b (hle.get i b hb lr) lr
    have hi:i<ck.length:=(List.getElem?_eq_some_iff.1 hb).1
    have e1:bs.getD i 0=gM.getD i 0:=by
      obtain⟨t,rfl⟩:=hp
      simp[List.getElem?_append,show i<gM.length by omega]
    have e2:b.cs.map (den bs)=b.cs.map (den gM):=List.map_congr_left fun x hx=>tR hp hl (List.all_eq_true.1 (List.all_eq_true.1 hk b (List.mem_of_getElem? hb)) x hx)
    rw[←e1, ←e2]
    exact h1
  · rcases List.mem_append.1 hb with hb|hb
    · exact List.mem_append_left _ (sS.subset hb)
    · exact List.mem_append_right _ hb
theorem Cd {C:Cx}{Q:Exit→Act→World→Prop}{R:List bz}{s:SS}{id:Nat}{l:List Oper}(n:Nat)(X:List Nat)(order:Tr)(mask:List Nat)(R0:List bz)(hm:C.P.follows .mixedOrders=true)
    (hB:Cy .any l.toArray X n order=true) (hQ:PQ Q) (hR:R0.Sublist R) (h:JH C l.toArray Q R0 (nT s.loc mask) n order R s):JC C (.region id l.toArray true) Q R s:=by
  rintro a w ⟨bs,hf,hn,hS⟩
  have oH:WS C.m C.w0 bs s.loc R { w with drawn:=w.drawn+1 }:=hS.pure (Kp.drawn [] w _)
  exact tO X order hm hB hQ (h bs bs a _ (List.prefix_refl _) ⟨hf,hn,oH⟩ ((oH.sub hR).nT mask))
end Go.Proofs.YtbjakddkfgjkaaaGreat.Fw
namespace Go.Proofs.YtbjakddkfgjkaaaGreat.Fw
open Go.RowKit
abbrev vI (n:Int):SV:=.v (.int .i64 n)
abbrev vB (b:Bool):SV:=.v (.bool b)
abbrev vS (s:ByteArray):SV:=.v (.string s)
def emp:ByteArray:=⟨#[]⟩
theorem on:jX []:=trivial
theorem oc {p:Prop}{l:List Prop}(h:p)(r:jX l):jX (p::l):=⟨h,r⟩
def yS (e:Env):List Nat→Option Env
  |[]=>some []
  |k::r=>match get e k,yS e r with
    |some x,some l=>some ((k,x)::l)
    |_,_=>none
theorem wm (e:Env): ∀(keys:List Nat) (e':Env),yS e keys=some e'→ ∀t x,get e' t=some x→get e t=some x
  |[],e',h,t,x,hx=>by simp only[yS,Option.some.injEq] at h;subst h;simp[get] at hx
  |k::r,e',h,t,x,hx=>by
    simp only[yS] at h
    split at h
    · rename_i y l hy hl
      injection h with h
      subst h
      simp only[get] at hx
      cases hb:Nat.beq k t with
      |true=>
        have e1:k=t:=Nat.eq_of_beq_eq_true hb
        subst e1
        simp only[hb,cond_true,Option.some.injEq] at hx
        subst hx
        exact hy
      |false=>
        simp only[hb,cond_false] at hx
        exact wm e r l hl t x hx
    · cases h
def tS (s:SS)(keys:List Nat)(nl:Nat):Option SS:=
  match yS s.env keys with
  |some e=>bif Nat.ble nl s.loc.length && Nq ⟨e,s.loc.take nl⟩ nl then some ⟨e,s.loc.take nl⟩ else none
  |none=>none
theorem Ss {C:Cx}{R R':List bz}{s s':SS}(keys:List Nat)(nl:Nat)(h:tS s keys nl=some s')(hR:R=R'): ∀a w,Sat C R s a w→Sat C R' s' a w:=by
  subst hR
  intro a w hs
  unfold tS at h
  split at h
  · rename_i e he
    cases hc:Nat.ble nl s.loc.length && Nq ⟨e,s.loc.take nl⟩ nl with
    |false=>rw [hc] at h;cases h
    |true=>
      rw[hc] at h
      simp only[cond_true,Option.some.injEq] at h
      subst h
      simp only[Bool.and_eq_true] at hc
      have hk:Sat C R ⟨e,s.loc⟩ a w:=by
        obtain⟨bs,hf,hn,hS⟩:=hs
        exact⟨bs,⟨hf.1,fun t x hx=>hf.2 t x (wm _ _ _ he t x hx)⟩,hn,hS⟩
      have IC:(nq e (e.map (·.1)))=e:=by
        have: ∀(l:List Nat) (e:Env),(∀y,y∈e→y.1∈l)→nq e l=e:=by
          intro l e
          induction e with
          |nil=>intro _;rfl
          |cons y r ih=>
            obtain⟨t,x⟩:=y
            intro hm
            have h1:l.any (Nat.beq t)=true:=List.any_eq_true.2 ⟨t,hm _ (List.mem_cons_self ..),Nat.beq_refl t⟩
            simp only[nq,h1,cond_true,ih (fun y hy=>hm y (List.mem_cons_of_mem _ hy))]
        exact this _ e (fun y hy=>List.mem_map.2 ⟨y,hy,rfl⟩)
      have:=hk.prune (e.map (·.1)) nl (by simp only[prune,IC];exact hc.2) (Nat.le_of_ble_eq_true hc.1)
      simpa only [prune,IC] using this
  · cases h
theorem Ql {C:Cx}{R:List bz}{s:SS}{Q:Exit→Act→World→Prop}{σ:Type}{I:σ→Prop}{μ:σ→Nat}{RS:σ→List bz}{S:σ→SS}{x:σ}(y:σ)(hI:I y)(hμ:μ y<μ x)(h: ∀a w,Sat C R s a w→Sat C (RS y) (S y) a w):
    JQ C (Exit.then (fun a w=> ∃y,I y∧μ y<μ x∧Sat C (RS y) (S y) a w) Q) .normal R s:=fun a w hs=>⟨y,hI,hμ,h a w hs⟩
def gC (w w':World)(r:bz):Prop:=r.p w'∧r.fp.Nodup∧ ∀b,b∈r.fp→w.heap.size≤b∧b<w'.heap.size
end Go.Proofs.YtbjakddkfgjkaaaGreat.Fw
namespace Go.Proofs.YtbjakddkfgjkaaaGreat.Fw
open Go.RowKit
def fI (e size:Nat)(A:Option Addr)(n c:Nat)(xs:List Value):bz where
  fp:=match A with
    |some a=>[a.block]
    |none=>[]
  p:=fun w=>w.ownsRow 0 e size (.slice A n c) n xs
  st:=by
    intro w w' h ⟨h1,h2⟩
    refine⟨h1,?_⟩
    rcases h2 with h2|⟨g,cap,cur,hv,hg,hh,r⟩
    · exact .inl h2
    · refine .inr ⟨g,cap,cur,hv,hg,?_,r⟩
      injection hv with e1 e2 e3
      subst e1
      rw[h g (by simp)]
      exact hh
theorem qm (e size:Nat)(w:World):(fI e size none 0 0 []).p w:=⟨by simp,.inl ⟨rfl,rfl⟩⟩
def kX (P:Program)(e size bytes:Nat):Bool:=
  match P.info? e with
  |some i=>Nat.beq i.size size && Nat.beq i.bytes bytes && (match i.zero with|some z=>Nat.beq z.cells.size size|none=>false)
  |none=>false
theorem sA {w w':World}{row:Option Nat}(h:w.grownBy w' row)(m:List Nat)(hm: ∀k,row=some k→k∈m):Kp m w w':=
  ⟨h.os,h.tape,h.output,h.size,fun k hk hn=>h.block k hk (fun e=>hn (hm k e.symm))⟩
theorem tT {P:Program}{m:List Nat}{w0:World}{bs:List Nat}{loc:List fq}{R:List bz}{w:World}(t ty e size bytes:Nat)(A:Option Addr)(n c:Nat)(xs:List Value)
    (hS:WS m w0 bs loc (fI e size A n c xs::R) w) (ht:P.underlying t=some (.slice e)) (hi:kX P e size bytes=true) (lY:0<size) (a:Addr) (k c2:Nat) (vs:List Value)
    (hl:vs.length=k*size) (hc:bq w a vs) (h1:vs.all Value.oneCell'=true) (h63:n+k≤maxLen) (hb:(n+k)*bytes≤140737488355328):
    ∃A' c' w',(Builtin.append_ #[t,t] ty #[.slice A n c,.slice (some a) k c2]).run P w=.ok (.slice A' (n+k) c') w'∧WS m w0 bs loc (fI e size A' (n+k) c' (xs++vs)::R) w':=by
  unfold kX at hi
  split at hi
  · rename_i i Fc
    simp only[Bool.and_eq_true] at hi
    obtain⟨⟨wo,E2⟩,yT⟩:=hi
    split at yT
    · rename_i z hz
      have Od:w.ownsRow 0 e size (.slice A n c) n xs:=hS.res _ (List.mem_cons_self ..)
      obtain⟨v',w',h2,h3,h4,h5,h6⟩:=run_append_own_at (P:=P) w 0 t ty e i z size bytes ht Fc hz (Nat.eq_of_beq_eq_true wo) (Nat.eq_of_beq_eq_true E2) (Nat.eq_of_beq_eq_true yT) lY _ n xs Od a k c2 vs hl hc (fun u hu=>List.all_eq_true.1 h1 u hu) h63 hb (Nat.zero_le _)
      have K3:Kp (fI e size A n c xs).fp w w':=sA h4 _ (fun q hq=>by
        cases A with
        |none=>simp [Value.ownBlock] at hq
        |some a=>simp only [Value.ownBlock,Option.some.injEq] at hq;subst hq;simp[fI])
      have K4: ∃A' c',v'=.slice A' (n+k) c':=by
        rcases h3.2 with ⟨e1,e2⟩|⟨g,cap,cur,e1,_⟩
        · exact⟨none,0,by rw[e1,e2]⟩
        · exact⟨_,_,e1⟩
      obtain⟨A',c',rfl⟩:=K4
      refine⟨A',c',w',h2,hS.turn K3 _ h3 ?_ ?_⟩
      · cases A'<;>simp [fI]
      · intro b hb
        cases A' with
        |none=>simp [fI] at hb
        |some a'=>
          simp only[fI,List.mem_singleton] at hb
          subst hb
          rcases h6 with h6|h6
          · cases A with
            |none=>simp [Value.ownBlock] at h6
            |some a0=>simp only [Value.ownBlock,Option.some.injEq] at h6;left;simp[fI,h6]
          · simp only[Value.ownBlock,Option.some.injEq] at h6
            right
            refine⟨by omega,?_⟩
            have hh:(w'.ownsRow 0 e size (.slice (some a') (n+k) c') (n+k) (xs++vs)):=h3
            rcases hh.2 with ⟨e1,_⟩|⟨g,cap,cur,e1,_,e3,_⟩
            · cases e1
            · injection e1 with e1
              injection e1 with e1
              subst e1
              rcases Nat.lt_or_ge g w'.heap.size with dX|KY
              · exact dX
              · rw[Array.getElem?_eq_none KY] at e3;cases e3
    · cases yT
  · cases hi
theorem xK {m:List Nat}{w0:World}{bs:List Nat}{loc:List fq}{R:List bz}{w:World}(hS:WS m w0 bs loc R w){i off k c:Nat}{b:fq}{q:Nat}{vs:List Value}(hb:loc[i]? =some b)(hv:je ((b.cs.drop off).take q)=some vs):
    ∃a c2,den bs (.s i off k c)=.slice (some a) k c2∧bq w a vs:=by
  refine⟨kv bs i off,c,rfl,?_⟩
  intro j v hj
  have h1:=iw bs hv
  rw[←h1] at hj
  simp only[List.getElem?_map,List.getElem?_take,List.getElem?_drop] at hj
  split at hj
  · obtain⟨y,hy,rfl⟩:=Option.map_eq_some_iff.1 hj
    rw[oG]
    exact hS.loc.cell hb hy
  · simp at hj
theorem WS.perm {m:List Nat}{w0:World}{bs:List Nat}{loc:List fq}{R R':List bz}{w:World}(h:WS m w0 bs loc R w)(hp:R'.Perm R):WS m w0 bs loc R' w:=by
  have hf:(R'.flatMap bz.fp).Perm (R.flatMap bz.fp):=hp.flatMap_right _
  exact⟨h.kp,h.len,h.loc,fun r hr=>h.res r (hp.subset hr),((List.Perm.append_left bs hf).nodup_iff).2 h.nd,fun b hb=>h.lo b ((List.Perm.append_left bs hf).subset hb)⟩
def cP (l:List Int):ByteArray:=⟨(l.map fun n=>UInt8.ofNat n.toNat).toArray⟩
theorem Dt (l:List Int):l.foldl (fun r n=>r.push (UInt8.ofNat n.toNat)) ByteArray.empty=cP l:=by
  have key: ∀(l:List Int) (acc:ByteArray),l.foldl (fun r n=>r.push (UInt8.ofNat n.toNat)) acc=⟨acc.data++(l.map fun n=>UInt8.ofNat n.toNat).toArray⟩:=by
    intro l
    induction l with
    |nil=>intro acc;simp
    |cons x r ih=>
      intro acc
      rw[List.foldl_cons,ih]
      simp[ByteArray.push]
  rw[key]
  simp[cP,ByteArray.empty,ByteArray.emptyWithCapacity]
  rfl
theorem mA {P:Program}{w:World}(S D eS:Nat)(a:Addr)(n c:Nat)(ns:List Int)(hS:P.underlying S=some (.slice eS))(he:P.underlying eS=some (.int .u8))(hD:P.underlying D=some .string)
    (hl:ns.length=n) (hc:bq w a (ns.map (Value.int .u8))):(convert S D (.slice (some a) n c)).run P w=.ok (.string (cP ns)) w:=by
  have h1:(loadCells a n).run P w=.ok (ns.map (Value.int .u8)).toArray w:=by
    have:=fz P w a n 0 #[] (ns.map (Value.int .u8)) (by simpa using hl) (fun j v h=>by simpa using hc j v h)
    simpa[loadCells] using this
  have h2:=run_bytesToString (P:=P) w a n c ns h1
  simp only[convert,Sem.run_bind,run_underlying hS,run_underlying hD,Result.andThen_ok,run_underlying he]
  rw[h2,Dt]
theorem Du {m:List Nat}{w0:World}{bs:List Nat}{loc:List fq}{R:List bz}{w:World}{e size:Nat}{A:Option Addr}{n c:Nat}{xs:List Value}(hS:WS m w0 bs loc R w)(hr:fI e size A n c xs∈R)(hn:0<n):
    ∃g,A=some ⟨g,0,none⟩∧bq w ⟨g,0,none⟩ xs:=by
  have h:=hS.res _ hr
  have h':w.ownsRow 0 e size (.slice A n c) n xs:=h
  rcases h'.2 with ⟨e1,e2⟩|⟨g,cap,cur,e1,e2,e3,e4,e5,e6,e7⟩
  · omega
  · injection e1 with e1
    subst e1
    refine⟨g,rfl,fun j v hj=>?_⟩
    rw[←e7,List.getElem?_take] at hj
    split at hj
    · have ha:(Addr.mk g 0 none).add j=⟨g,j,none⟩:=by unfold Addr.add;split<;>simp_all
      rw[ha]
      simp only[World.cell?,e3]
      simpa using hj
    · cases hj
end Go.Proofs.YtbjakddkfgjkaaaGreat.Fw
namespace Go.Proofs.YtbjakddkfgjkaaaGreat.Fw
open Go.RowKit Go.ChangeShapes Go.WideShapes
theorem wq {H:Type}{enc:TypeId×Value→H}{P:Program}(hl:laidOutB P=true){W W':World}(hb:Below W.heap.size W W')(sp:Nat→Bool):
    ∀(ts:List TypeId) (vs:List Value) (ds:List (DataW H)) (ps:List MemPlace),(ts.all fun t=>P.readableRec t && Nat.blt t P.types.size)=true→(∀x,x∈ps→x.block<W.heap.size)→(∀x,x∈ps→sp x.block=true)→
    DataW.TrodAll enc P W 0 (fun _=>true) true ts vs ds ps→DataW.TrodAll enc P W' 0 sp true ts vs ds ps
  |[],vs,ds,ps,_,_,_,h=>by
    obtain⟨rfl,rfl,rfl⟩:=trodAll_nil h
    exact trodAll_mk0
  |t::ts,vs,ds,ps,hr,dX,Nu,h=>by
    obtain⟨v,Ku,d,RJ,p,q,rfl,rfl,rfl,h0,r0⟩:=trodAll_cons h
    simp only[List.all_cons,Bool.and_eq_true] at hr
    refine trodAll_cons_mk (WideElems.Trod_stays hl hr.1.1 (by simpa using hr.1.2) h0 (fun x hx=>hb.same (dX x (List.mem_append_left _ hx))) (fun x hx=>Nu x (List.mem_append_left _ hx))) ?_
    exact wq hl hb sp ts Ku RJ q hr.2 (fun x hx=>dX x (List.mem_append_right _ hx)) (fun x hx=>Nu x (List.mem_append_right _ hx)) r0
theorem Fe {H:Type}{enc:TypeId×Value→H}{P:Program}{f:Func}{s:ChangeSpec}{W W':World}{args:Array Value}{ds gs:List (DataW H)}{before:List MemPlace}{tb:TypeId}
    (hW:DataW.Whole enc P f.params.toList s.vars false W args.toList ds gs before) (hv:s.vars=[]) (hs:s.fn H (ds++gs)={ results:=[.lit (.bool true)],args:=ds }) (hf:f.resultTypes.toList=[tb]) (hn:f.resultTypes.size=1)
    (hb:P.underlying tb=some .bool) (hl:laidOutB P=true) (hr:(f.params.toList.all fun t=>P.readableRec t && Nat.blt t P.types.size)=true) (hk:Kp [] W W'):s.post enc P f false true false false W args (.bool true) W':=by
  have K5:=hk.below
  have K6:=hW
  obtain⟨p,q,hA,hV,rfl,hfz,Ht⟩:=hW
  rw[hv] at hV
  obtain⟨rfl,rfl⟩:=trodVars_none hV
  have dX: ∀x,x∈p→x.block<W.heap.size:=fun x hx=>by simpa using K6.lt x (List.mem_append_left _ hx)
  have hx:(s.fn H (ds++[])).vars=[]:=by rw[hs]
  refine⟨ds,[],p++[],[],p,[],K6,?_,?_,?_,K5.frame _,fun h=>by cases h⟩
  · rw[hf,hs,hn]
    exact trodAll_cons_mk (shut_bool hb true) trodAll_mk0
  · rw[hs]
    exact wq hl K5 _ _ _ _ _ hr dX (fun x hx=>by simpa using dX x hx) hA
  · rw[hv,hx]
    rfl
end Go.Proofs.YtbjakddkfgjkaaaGreat.Fw
