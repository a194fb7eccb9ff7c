/-
  A machine for walks: it runs code by itself, words say what is not its own; a word checks in the kernel.
  Conditions: none beyond those that each theorem states.
-/
import Derived.Laws.OwnMore
import Derived.Test.YtbjakddkfgjkaaaGreatMc
set_option linter.unusedVariables false
set_option linter.unusedSimpArgs false
namespace Go.Proofs.YtbjakddkfgjkaaaGreat.Fw
open Go.RowKit
inductive Fk where
  |th (c:Code)
  |bl (i:Nat)
  |lp (I:Act→World→Prop)
def QK (P:Program)(Q:Exit→Act→World→Prop):List Fk→Exit→Act→World→Prop
  |[]=>Q
  | .th c::K=>Exit.then (c.wp P (QK P Q K)) (QK P Q K)
  | .bl i::K=>Exit.inBlock i (QK P Q K)
  | .lp I::K=>Exit.then I (QK P Q K)
inductive Qo where
  |code (c:Code)
  |ops (all:Array Oper) (l:List Oper)
  |hw (all:Array Oper) (n:Nat) (t:Tr)
  |out (e:Exit)
structure eO where
  m4:Qo
  K:List Fk
  s:SS
  k0:Nat
  ms:List Nat
  kb:List (Nat×Nat)
def ck (loc:List fq)(k0:Nat)(mk:List Nat):List fq:=nT (loc.take k0) mk
def JM (C:Cx)(Q:Exit→Act→World→Prop)(R0 R:List bz)(m:eO):Prop:=
  match m.m4 with
  | .code c=>JC C c (QK C.P Q m.K) R m.s
  | .ops all l=>JL C all (QK C.P Q m.K) R m.s l
  | .hw all n t=>JH C all (QK C.P Q m.K) R0 (ck m.s.loc m.k0 m.ms) n t R m.s
  | .out e=>JQ C (QK C.P Q m.K) e R m.s
def x3 (hs:List (Nat×Hint))(o:Oper):Hint:=
  match o.dst with
  |some t=>E7 hs t
  |none=>.no
def CU:List (Nat×Nat)→Nat→Nat
  |[],_=>0
  |(t,x)::r,u=>bif Nat.beq t u then x else CU r u
def CV (kb:List (Nat×Nat))(d:Option Nat)(x:Nat):List (Nat×Nat):=
  match d with
  |none=>kb
  |some t=>bif Nat.beq x 0 && Nat.beq (CU kb t) 0 then kb else (t,x)::kb
def uI (kb:List (Nat×Nat)):Operand→Nat
  | .tmp t=>CU kb t
  | .const (.bool b)=>bif b then 1 else 2
  |_=>0
def Ov (kb:List (Nat×Nat))(o:Oper):Nat:=
  match o.op with
  | .move x=>uI kb x
  | .assign x=>uI kb x
  | .pick c a b=>bif Nat.beq (uI kb c) 1 then uI kb a else bif Nat.beq (uI kb c) 2 then uI kb b else 0
  | .unOp .not _ x=>bif Nat.beq (uI kb x) 1 then 2 else bif Nat.beq (uI kb x) 2 then 1 else 0
  |_=>0
def qE (kb:List (Nat×Nat))(all:Array Oper)(o:Oper):Nat:=
  match o.guard with
  |none=>1
  |some (j,want)=>
    match (all[j]?).bind (·.dst) with
    |some d=>match CU kb d with
      |0=>0
      |1=>bif want then 1 else 2
      |2=>bif want then 2 else 1
      |_=>2
    |none=>0
def ready (kb:List (Nat×Nat))(all:Array Oper)(o:Oper):Bool:=
  match qE kb all o with
  |0=>false
  |1=>match o.op with
    | .pick c _ _=>!Nat.beq (uI kb c) 0
    |_=>true
  |_=>true
def rX (kb:List (Nat×Nat))(all:Array Oper)(o:Oper):List (Nat×Nat):=CV kb o.dst (bif Nat.beq (qE kb all o) 1 then Ov kb o else 3)
def waits (o:Oper):Bool:=
  match o.op with
  | .call ⟨.builtin .min,_,_⟩=>true
  | .call ⟨.builtin .max,_,_⟩=>true
  | .buildSlice _ _ _=>true
  |_=>false
abbrev zJ:=Option (eO×List Prop×List (Addr×List Value))
def Je (P:Program)(n:Nat)(hs:List (Nat×Hint)):eO→zJ
  |⟨.out e,K,s,k0,mk,kb⟩=>
    match e,K with
    | .normal,.th c::K=>some (⟨.code c,K,s,k0,mk,kb⟩,[],[])
    | .normal,.bl _::K=>some (⟨.out .normal,K,s,k0,mk,kb⟩,[],[])
    | .exit i,.th _::K=>some (⟨.out (.exit i),K,s,k0,mk,kb⟩,[],[])
    | .exit i,.lp _::K=>some (⟨.out (.exit i),K,s,k0,mk,kb⟩,[],[])
    | .exit i,.bl j::K=>some (⟨.out (bif Nat.beq i j then .normal else .exit i),K,s,k0,mk,kb⟩,[],[])
    | .ret,_::K=>some (⟨.out .ret,K,s,k0,mk,kb⟩,[],[])
    |_,_=>none
  |⟨.code c,K,s,k0,mk,kb⟩=>
    match c with
    | .skip=>some (⟨.out .normal,K,s,k0,mk,kb⟩,[],[])
    | .seq x y=>some (⟨.code x,.th y::K,s,k0,mk,kb⟩,[],[])
    | .block i c=>some (⟨.code c,.bl i::K,s,k0,mk,kb⟩,[],[])
    | .exit i=>some (⟨.out (.exit i),K,s,k0,mk,kb⟩,[],[])
    | .ret=>some (⟨.out .ret,K,s,k0,mk,kb⟩,[],[])
    | .region _ ops false=>some (⟨.ops ops ops.toList,K,s,k0,mk,kb⟩,[],[])
    | .cond c x y=>
      bif Nat.beq (uI kb c) 0 then none else
      match ev s c with
      |some (.v (.bool true))=>some (⟨.code x,K,s,k0,mk,kb⟩,[],[])
      |some (.v (.bool false))=>some (⟨.code y,K,s,k0,mk,kb⟩,[],[])
      |_=>none
    |_=>none
  |⟨.ops all l,K,s,k0,mk,kb⟩=>
    match l with
    |[]=>some (⟨.out .normal,K,s,k0,mk,kb⟩,[],[])
    |o::r=>
      bif (waits o && !Nat.beq (qE kb all o) 2)||!ready kb all o then none else
      match qj P n all s (x3 hs o) o with
      |some (s',iL,ec)=>some (⟨.ops all r,K,s',k0,mk,rX kb all o⟩,iL,ec)
      |none=>none
  |⟨.hw _ _ _,_,_,_,_,_⟩=>none
def CW (s:SS)(o:Oper)(k0:Nat)(mk:List Nat):Bool:=
  match o.op with
  | .alloc _=>true
  | .box _ _=>true
  | .buildSlice _ _ _=>true
  | .store _ A _=>
    match ev s A with
    |some (.p i _)=>mk.any (Nat.beq i)||Nat.ble k0 i
    |_=>false
  |_=>false
def x4 (P:Program)(n:Nat)(all:Array Oper)(q:Nat)(r:Tr)(K:List Fk)(s:SS)(k0:Nat)(mk:List Nat)(kb:List (Nat×Nat))(o:Oper):zJ:=
  bif CW s o k0 mk && (nU (ck s.loc k0 mk) && Nat.ble k0 s.loc.length) then
    match qj P n all s .no o with
    |some (s',[],[])=>some (⟨.hw all q r,K,s',k0,mk,rX kb all o⟩,[],[])
    |_=>none
  else none
def Jf (P:Program)(n:Nat)(hs:List (Nat×Hint)):eO→zJ
  |⟨.hw all q t,K,s,k0,mk,kb⟩=>
    match t with
    | .nil=>some (⟨.ops all (all.toList.drop q),K,s,0,[],kb⟩,[],[])
    | .q i r=>
      match all[i]? with
      |none=>none
      |some o=>
        bif nU (ck s.loc k0 mk) && ready kb all o then
          match yQ P n all [(i,x3 hs o)] (ck s.loc k0 mk) [(i,false)] s.env with
          |some (e,iL,ec)=>some (⟨.hw all q r,K,⟨e,s.loc⟩,k0,mk,rX kb all o⟩,iL,ec)
          |none=>none
        else none
    | .p i r=>
      match all[i]? with
      |none=>none
      |some o=>
        bif nU (ck s.loc k0 mk) && ready kb all o then
          match yQ P n all [(i,x3 hs o)] (ck s.loc k0 mk) [(i,true)] s.env with
          |some (e,iL,ec)=>some (⟨.hw all q r,K,⟨e,s.loc⟩,k0,mk,rX kb all o⟩,iL,ec)
          |none=>none
        else none
    | .b i r .z=>
      match all[i]? with
      |none=>none
      |some o=>
        bif kW n o.dst && ready kb all o then
          match gd all s o with
          |some false=>some (⟨.hw all q r,K,⟨jz s.env o.dst (.v undef),s.loc⟩,k0,mk,rX kb all o⟩,[],[])
          |some true=>bif waits o then none else x4 P n all q r K s k0 mk kb o
          |none=>none
        else none
    |_=>none
  |_=>none
theorem xa {C:Cx}{Q:Exit→Act→World→Prop}{R0 R:List bz}{hs:List (Nat×Hint)}{m m':eO}{iL:List Prop}{ec:List (Addr×List Value)}(h:Je C.P C.n hs m=some (m',iL,ec))
    (ho:jX iL) (hw: ∀w,Kp C.m C.w0 w→(∀r,r∈R→r.p w)→nB w ec) (hJ:JM C Q R0 R m'):JM C Q R0 R m:=by
  obtain⟨m4,K,s,k0,mk,kb⟩:=m
  cases m4 with
  |hw all n t=>simp [Je] at h
  |out e=>
    simp only[Je] at h
    split at h<;>simp only [Option.some.injEq,Prod.mk.injEq,reduceCtorEq] at h<;>obtain⟨rfl, -, -⟩:=h
    · exact Qn hJ
    · exact tL hJ
    · exact Qe hJ
    · exact Qe hJ
    · rename_i i j K
      cases hb:Nat.beq i j with
      |true=>
        have e1:i=j:=Nat.eq_of_beq_eq_true hb
        subst e1
        rw[hb] at hJ
        exact Qh hJ
      |false=>
        rw[hb] at hJ
        exact xH hb hJ
    · rename_i fr K
      cases fr with
      |th c=>exact Qr hJ
      |bl i=>exact Qb hJ
      |lp I=>exact Qr hJ
  |code c=>
    simp only[Je] at h
    split at h
    · simp only[Option.some.injEq,Prod.mk.injEq] at h;obtain⟨rfl, -, -⟩:=h;exact Ck hJ
    · simp only[Option.some.injEq,Prod.mk.injEq] at h;obtain⟨rfl, -, -⟩:=h;exact Cs hJ
    · simp only[Option.some.injEq,Prod.mk.injEq] at h;obtain⟨rfl, -, -⟩:=h;exact Cb hJ
    · simp only[Option.some.injEq,Prod.mk.injEq] at h;obtain⟨rfl, -, -⟩:=h;exact I6 hJ
    · simp only[Option.some.injEq,Prod.mk.injEq] at h;obtain⟨rfl, -, -⟩:=h;exact Cr hJ
    · rename_i id ops
      simp only[Option.some.injEq,Prod.mk.injEq] at h;obtain⟨rfl, -, -⟩:=h
      have xb:JL C ops (QK C.P Q K) R s ops.toList:=hJ
      have:=Cg (id:=id) (l:=ops.toList) (Q:=QK C.P Q K) (by simpa using xb)
      show JC C (Code.region id ops false) (QK C.P Q K) R s
      simpa using this
    · rename_i c' x' y'
      cases Qp:Nat.beq (uI kb c') 0 with
      |true=>rw [Qp] at h;cases h
      |false=>
      rw[Qp] at h
      simp only[cond_false] at h
      split at h
      · rename_i hc
        simp only[Option.some.injEq,Prod.mk.injEq] at h;obtain⟨rfl, -, -⟩:=h;exact Ci true hc hJ
      · rename_i hc
        simp only[Option.some.injEq,Prod.mk.injEq] at h;obtain⟨rfl, -, -⟩:=h;exact Ci false hc hJ
      · cases h
    · cases h
  |ops all l=>
    simp only[Je] at h
    split at h
    · simp only[Option.some.injEq,Prod.mk.injEq] at h;obtain⟨rfl, -, -⟩:=h;exact Ln hJ
    · rename_i o r
      cases Ll:(waits o && !Nat.beq (qE kb all o) 2)||!ready kb all o with
      |true=>rw [Ll] at h;cases h
      |false=>
        rw[Ll] at h
        simp only[cond_false] at h
        split at h
        · rename_i s' Hk E6 nD
          simp only[Option.some.injEq,Prod.mk.injEq] at h
          obtain⟨rfl,rfl,rfl⟩:=h
          have xb:JL C all (QK C.P Q K) R s' r:=hJ
          intro a w Iz
          exact wpList_step fun K' hK=>sv C R all s s' _ o _ _ _ K' nD ho hw (fun a w h=>hK a w (xb a w h)) a w Iz
        · cases h
theorem oS: ∀(mk:List Nat) (l:List fq) (j:Nat),(nT l mk)[j]? =if j∈mk∧j<l.length then some ⟨0,[]⟩ else l[j]?
  |[],l,j=>by simp[nT]
  |i::r,l,j=>by
    rw[nT,oS r]
    simp only[List.length_set,List.mem_cons]
    by_cases h1:j∈r∧j<l.length
    · simp[h1]
    · rw[if_neg h1]
      by_cases h2:i=j
      · subst h2
        by_cases h3:i<l.length
        · simp[h3]
        · simp[h3]
      · rw[List.getElem?_set_ne h2]
        have: ¬((j=i∨j∈r)∧j<l.length):=by rintro⟨h3|h3,h4⟩;exact h2 h3.symm;exact h1 ⟨h3,h4⟩
        rw[if_neg this]
theorem oe (l l':List fq)(k0:Nat)(mk:List Nat)(h:k0≤l.length):ck (l++l') k0 mk=ck l k0 mk:=by
  unfold ck
  rw[List.take_append_of_le_length h]
theorem FI (l:List fq)(i:Nat)(b:fq)(k0:Nat)(mk:List Nat)(h:i∈mk∨k0≤i):ck (l.set i b) k0 mk=ck l k0 mk:=by
  unfold ck
  apply List.ext_getElem?
  intro j
  rw[oS,oS]
  simp only[List.length_take,List.length_set]
  split
  · rfl
  · rename_i hn
    rw[List.getElem?_take,List.getElem?_take]
    split
    · rename_i hj
      by_cases jf:i=j
      · subst jf
        rcases h with h|h
        · have: ¬(i<l.length):=fun hl=>hn ⟨h,by omega⟩
          rw[List.getElem?_eq_none (by simp;omega),List.getElem?_eq_none (by omega)]
        · omega
      · rw[List.getElem?_set_ne jf]
    · rfl
theorem nr.FJ: ∀(a b:List fq),(∀(j:Nat) (x:fq),a[j]? =some x→ ∃y,b[j]? =some y∧(x.cs=[]∨x=y))→nr a b
  |[],_,_=>trivial
  |x::r,[],h=>by obtain⟨y,hy,_⟩:=h 0 x rfl;simp at hy
  |x::r,y::r',h=>by
    refine⟨?_,nr.FJ r r' fun j z hz=>by simpa using h (j+1) z (by simpa using hz)⟩
    obtain⟨y',hy,h1⟩:=h 0 x rfl
    simp only[List.getElem?_cons_zero,Option.some.injEq] at hy
    subst hy
    exact h1
theorem nr.ck (loc:List fq)(k0:Nat)(mk:List Nat):nr (Fw.ck loc k0 mk) loc:=by
  apply nr.FJ
  intro j x hx
  unfold Fw.ck at hx
  rw[oS] at hx
  split at hx
  · rename_i hj
    simp only[List.length_take] at hj
    have hl:j<loc.length:=by omega
    refine⟨loc[j],List.getElem?_eq_getElem hl,.inl ?_⟩
    injection hx with hx
    subst hx
    rfl
  · rw[List.getElem?_take] at hx
    split at hx
    · exact⟨x,hx,.inr rfl⟩
    · cases hx
theorem WS.FK {m:List Nat}{w0:World}{bs gM:List Nat}{loc yR:List fq}{R R0:List bz}{w:World}{k0:Nat}{mk:List Nat}(hp:gM<+:bs)(hl:(Fw.ck yR k0 mk).length=gM.length)(hk:nU (Fw.ck yR k0 mk)=true)
    (he:Fw.ck loc k0 mk=Fw.ck yR k0 mk) (hR:R0.Sublist R) (h:WS m w0 bs loc R w):WS m w0 gM (Fw.ck yR k0 mk) R0 w:=
  h.down hp hl hk (by rw[←he];exact nr.ck loc k0 mk) hR
theorem DL {P:Program}{n:Nat}{all:Array Oper}{s s':SS}{o:Oper}{hint:Hint}{iL:List Prop}{ec:List (Addr×List Value)}{k0:Nat}{mk:List Nat}(h:qj P n all s hint o=some (s',iL,ec))(hb:CW s o k0 mk=true)(hk:k0≤s.loc.length):
    ck s'.loc k0 mk=ck s.loc k0 mk:=by
  unfold qj at h
  unfold CW at hb
  split at h
  case isFalse=>cases h
  split at h
  · cases h
  · simp only[Option.some.injEq,Prod.mk.injEq] at h;obtain⟨rfl, -, -⟩:=h;rfl
  · split at h
    · split at h
      · split at h
        · simp only[Option.some.injEq,Prod.mk.injEq] at h;obtain⟨rfl, -, -⟩:=h;exact oe _ _ _ _ hk
        · cases h
      · cases h
    · split at h
      · split at h
        · split at h
          · simp only[Option.some.injEq,Prod.mk.injEq] at h;obtain⟨rfl, -, -⟩:=h;exact oe _ _ _ _ hk
          · cases h
        · cases h
      · cases h
    · rename_i T A X jx
      rw[jx] at hb
      simp only at hb
      split at h
      · rename_i i off x hA hx
        rw[hA] at hb
        simp only[Bool.or_eq_true,List.any_eq_true] at hb
        have AQ:i∈mk∨k0≤i:=by
          rcases hb with ⟨j,hj,Kw⟩|hb
          · have:=Nat.eq_of_beq_eq_true Kw;subst this;exact .inl hj
          · exact .inr (Nat.le_of_ble_eq_true hb)
        split at h
        · split at h
          · simp only[Option.some.injEq,Prod.mk.injEq] at h;obtain⟨rfl, -, -⟩:=h;exact FI _ _ _ _ _ AQ
          · cases h
        · cases h
      · cases h
    · split at h
      · split at h
        · split at h
          · simp only[Option.some.injEq,Prod.mk.injEq] at h;obtain⟨rfl, -, -⟩:=h;exact oe _ _ _ _ hk
          · cases h
        · cases h
      · cases h
    · split at h
      · simp only[Option.some.injEq,Prod.mk.injEq] at h;obtain⟨rfl, -, -⟩:=h;rfl
      · cases h
theorem qF {C:Cx}{Q:Exit→Act→World→Prop}{R0 R:List bz}{all:Array Oper}{q i:Nat}{r:Tr}{K:List Fk}{s:SS}{k0:Nat}{mk:List Nat}{kb:List (Nat×Nat)}{o:Oper}{m':eO}{iL:List Prop}{ec:List (Addr×List Value)}
    (nS:all[i]? =some o) (h:x4 C.P C.n all q r K s k0 mk kb o=some (m',iL,ec)) (hR:R0.Sublist R) (hJ:JM C Q R0 R m'):JM C Q R0 R ⟨.hw all q (.b i r .z),K,s,k0,mk,kb⟩:=by
  unfold x4 at h
  cases hc:CW s o k0 mk && (nU (ck s.loc k0 mk) && Nat.ble k0 s.loc.length) with
  |false=>rw [hc] at h;cases h
  |true=>
    rw[hc] at h
    simp only[Bool.and_eq_true] at hc
    simp only[cond_true] at h
    split at h
    · rename_i s' nD
      simp only[Option.some.injEq,Prod.mk.injEq] at h
      obtain⟨rfl, -, -⟩:=h
      have Lm:=DL nD hc.1 (Nat.le_of_ble_eq_true hc.2.2)
      refine Hl s' ?_ (fun gM bs w hp hl hS=>hS.FK hp hl hc.2.1 Lm hR) ?_
      · rw[nS];exact nD
      · have xb:JH C all (QK C.P Q K) R0 (ck s'.loc k0 mk) q r R s':=hJ
        rw[Lm] at xb
        exact xb
    · cases h
theorem xc {C:Cx}{Q:Exit→Act→World→Prop}{R0 R:List bz}{hs:List (Nat×Hint)}{m m':eO}{iL:List Prop}{ec:List (Addr×List Value)}(h:Jf C.P C.n hs m=some (m',iL,ec))
    (ho:jX iL) (hw: ∀w,Kp C.m C.w0 w→(∀r,r∈R0→r.p w)→nB w ec) (hR:R0.Sublist R) (hJ:JM C Q R0 R m'):JM C Q R0 R m:=by
  obtain⟨m4,K,s,k0,mk,kb⟩:=m
  cases m4 with
  |out e=>simp [Jf] at h
  |code c=>simp [Jf] at h
  |ops all l=>simp [Jf] at h
  |hw all q t=>
    simp only[Jf] at h
    split at h
    · simp only[Option.some.injEq,Prod.mk.injEq] at h;obtain⟨rfl, -, -⟩:=h;exact Hn hJ
    · rename_i i r
      split at h
      · cases h
      rename_i o nS
      cases hk:nU (ck s.loc k0 mk) && ready kb all o with
      |false=>rw [hk] at h;cases h
      |true=>
        rw[hk] at h
        simp only[Bool.and_eq_true] at hk
        simp only[cond_true] at h
        split at h
        · rename_i e Hk E6 hq
          simp only[Option.some.injEq,Prod.mk.injEq] at h
          obtain⟨rfl,rfl,rfl⟩:=h
          exact Hq _ [(i,false)] e _ _ hk.1 hq ho hw hJ
        · cases h
    · rename_i i r
      split at h
      · cases h
      rename_i o nS
      cases hk:nU (ck s.loc k0 mk) && ready kb all o with
      |false=>rw [hk] at h;cases h
      |true=>
        rw[hk] at h
        simp only[Bool.and_eq_true] at hk
        simp only[cond_true] at h
        split at h
        · rename_i e Hk E6 hq
          simp only[Option.some.injEq,Prod.mk.injEq] at h
          obtain⟨rfl,rfl,rfl⟩:=h
          exact Hq _ [(i,true)] e _ _ hk.1 hq ho hw hJ
        · cases h
    · rename_i i r
      split at h
      · cases h
      · rename_i o nS
        cases hd:kW C.n o.dst && ready kb all o with
        |false=>rw [hd] at h;cases h
        |true=>
          rw[hd] at h
          simp only[Bool.and_eq_true] at hd
          simp only[cond_true] at h
          split at h
          · rename_i hg
            simp only[Option.some.injEq,Prod.mk.injEq] at h
            obtain⟨rfl, -, -⟩:=h
            exact Hp nS hd.1 hg hJ
          · cases Ll:waits o with
            |true=>rw [Ll] at h;cases h
            |false=>
              rw[Ll] at h
              exact qF nS h hR hJ
          · cases h
    · cases h
def Qq (P:Program)(n:Nat)(m:eO):Option eO:=
  match Je P n [] m with
  |some (m',[],[])=>some m'
  |some _=>none
  |none=>match Jf P n [] m with
    |some (m',[],[])=>some m'
    |_=>none
def go (P:Program)(n:Nat):Nat→eO→eO
  |0,m=>m
  |f+1,m=>match Qq P n m with
    |some m'=>go P n f m'
    |none=>m
def nx (C:Cx)(m:eO):eO:=go C.P C.n 2000 m
theorem go_sound {C:Cx}{Q:Exit→Act→World→Prop}{R0 R:List bz}(hR:R0.Sublist R): ∀(f:Nat) {m:eO},JM C Q R0 R (go C.P C.n f m)→JM C Q R0 R m
  |0,_,h=>h
  |f+1,m,h=>by
    simp only[go] at h
    split at h
    · rename_i m' nD
      have ih:=go_sound hR f h
      unfold Qq at nD
      split at nD
      · rename_i m2 h2
        injection nD with nD
        subst nD
        exact xa h2 trivial (fun _ _ _=>trivial) ih
      · cases nD
      · split at nD
        · rename_i m2 h2
          injection nD with nD
          subst nD
          exact xc h2 trivial (fun _ _ _=>trivial) hR ih
        · cases nD
    · exact h
theorem dR {C:Cx}{Q:Exit→Act→World→Prop}{R0 R:List bz}{m:eO}(hR:R0.Sublist R)(h:JM C Q R0 R (nx C m)):JM C Q R0 R m:=go_sound hR 2000 h
def cat {α:Type}:List α→List α→List α
  |[],l=>l
  |a::r,l=>a::cat r l
theorem FL {α:Type}: ∀a b:List α,cat a b=a++b
  |[],_=>rfl
  |x::r,b=>by rw[cat,FL r b];rfl
def run (st:eO→zJ):Nat→eO→eO×List Prop×List (Addr×List Value)
  |0,m=>(m,[],[])
  |f+1,m=>
    match st m with
    |none=>(m,[],[])
    |some (m',o,w)=>match run st f m' with
      |(m2,o2,w2)=>(m2,cat o o2,cat w w2)
def rO (C:Cx)(hs:List (Nat×Hint))(m:eO):eO×List Prop×List (Addr×List Value):=run (Je C.P C.n hs) 2000 m
def rH (C:Cx)(hs:List (Nat×Hint))(m:eO):eO×List Prop×List (Addr×List Value):=run (Jf C.P C.n hs) 2000 m
theorem rY {J:eO→Prop}{st:eO→zJ}{W:List (Addr×List Value)→Prop}(hW: ∀a b,W (a++b)→W a∧W b)(nD: ∀m m' o w,st m=some (m',o,w)→jX o→W w→J m'→J m):
    ∀(f:Nat) (m:eO) (m':eO) (o:List Prop) (w:List (Addr×List Value)),run st f m=(m',o,w)→jX o→W w→J m'→J m
  |0,m,m',o,w,h,_,_,hJ=>by simp only[run,Prod.mk.injEq] at h;obtain⟨rfl, -, -⟩:=h;exact hJ
  |f+1,m,m',o,w,h,ho,hw,hJ=>by
    simp only[run] at h
    split at h
    · simp only[Prod.mk.injEq] at h;obtain⟨rfl, -, -⟩:=h;exact hJ
    · rename_i m1 o1 w1 h1
      simp only[Prod.mk.injEq] at h
      obtain⟨rfl,rfl,rfl⟩:=h
      rw[FL] at ho hw
      have kV:=nN.1 ho
      have Qs:=hW _ _ hw
      exact nD _ _ _ _ h1 kV.1 Qs.1 (rY hW nD f m1 _ _ _ rfl kV.2 Qs.2 hJ)
theorem Mr {C:Cx}{Q:Exit→Act→World→Prop}{R0 R:List bz}{m:eO}(hs:List (Nat×Hint)){iL:List Prop}{ec:List (Addr×List Value)}(ho:jX iL)(hw: ∀w,Kp C.m C.w0 w→(∀r,r∈R→r.p w)→nB w ec)(hR:R0.Sublist R:=by first|exact List.nil_sublist _|exact List.Sublist.refl _)(h:(rO C hs m).2=(iL,ec):=by kernel_rfl)(J:JM C Q R0 R (nx C (rO C hs m).1)):JM C Q R0 R m:=by
  refine rY (J:=JM C Q R0 R) (W:=fun l=> ∀w,Kp C.m C.w0 w→(∀r,r∈R→r.p w)→nB w l) (fun a b vL=>⟨fun w h1 h2=>(g8.1 (vL w h1 h2)).1,fun w h1 h2=>(g8.1 (vL w h1 h2)).2⟩)
    (fun m m' o w h1 h2 h3 h4=>xa (hs:=hs) h1 h2 h3 h4) 2000 m (rO C hs m).1 iL ec ?_ ho hw (dR hR J)
  show rO C hs m=_
  rw[←h]
theorem Mh {C:Cx}{Q:Exit→Act→World→Prop}{R0 R:List bz}{m:eO}(hs:List (Nat×Hint)){iL:List Prop}{ec:List (Addr×List Value)}(ho:jX iL)(hw: ∀w,Kp C.m C.w0 w→(∀r,r∈R0→r.p w)→nB w ec)(hR:R0.Sublist R:=by first|exact List.nil_sublist _|exact List.Sublist.refl _)(h:(rH C hs m).2=(iL,ec):=by kernel_rfl)(J:JM C Q R0 R (nx C (rH C hs m).1)):JM C Q R0 R m:=by
  refine rY (J:=JM C Q R0 R) (W:=fun l=> ∀w,Kp C.m C.w0 w→(∀r,r∈R0→r.p w)→nB w l) (fun a b vL=>⟨fun w h1 h2=>(g8.1 (vL w h1 h2)).1,fun w h1 h2=>(g8.1 (vL w h1 h2)).2⟩)
    (fun m m' o w h1 h2 h3 h4=>xc (hs:=hs) h1 h2 h3 hR h4) 2000 m (rH C hs m).1 iL ec ?_ ho hw (dR hR J)
  show rH C hs m=_
  rw[←h]
end Go.Proofs.YtbjakddkfgjkaaaGreat.Fw
namespace Go.Proofs.YtbjakddkfgjkaaaGreat.Fw
open Go.RowKit
section
variable {C : Cx} {Q : Exit → Act → World → Prop} {R0 R : List bz} {m : eO}
def Ny (n:Nat):eO→Option Oper
  |⟨.ops all (o::_),_,s,_,_,kb⟩=>bif kW n o.dst && ready kb all o then (match gd all s o with|some true=>some o|_=>none) else none
  |⟨.hw all _ (.b i _ .z),_,s,_,_,kb⟩=>
    match all[i]? with
    |some o=>bif kW n o.dst && ready kb all o then (match gd all s o with|some true=>some o|_=>none) else none
    |none=>none
  |_=>none
def G7 (m:eO)(x:SV)(dN:List fq):eO:=
  match m with
  |⟨.ops all (o::r),K,s,k0,mk,kb⟩=>⟨.ops all r,K,⟨jz s.env o.dst x,dN⟩,k0,mk,CV kb o.dst 0⟩
  |⟨.hw all q (.b i r .z),K,s,k0,mk,kb⟩=>
    match all[i]? with
    |some o=>⟨.hw all q r,K,⟨jz s.env o.dst x,dN⟩,k0,mk,CV kb o.dst 0⟩
    |none=>⟨.hw all q (.b i r .z),K,s,k0,mk,kb⟩
  |m=>m
def iS (m:eO)(x:SV):eO:=G7 m x m.s.loc
def fJ (m:eO)(dN:List fq):Bool×List fq:=(nU (ck m.s.loc m.k0 m.ms),ck dN m.k0 m.ms)
def fK (m:eO):Bool×List fq:=(true,ck m.s.loc m.k0 m.ms)
def vw {α:Type}(n:Nat)(v:Oper→SS→Option α)(m:eO):Option α:=
  match Ny n m with
  |some o=>v o m.s
  |none=>none
theorem Bs {σ:Type}(val:σ→SV)(dN:σ→List fq)(R':σ→List bz)(ho:(Ny C.n m).isSome=true)(hD: ∀o,Ny C.n m=some o→g5 C o R m.s val dN R')
    (hL: ∀y,fJ m (dN y)=fK m) (hR: ∀y,R0.Sublist (R' y)) (hJ: ∀y,JM C Q R0 (R' y) (nx C (G7 m (val y) (dN y)))):JM C Q R0 R m:=by
  obtain⟨m4,K,s,k0,mk,kb⟩:=m
  have xb:=fun y=>dR (hR y) (hJ y)
  unfold Ny at ho hD
  split at ho
  · rename_i all o r K s k0 mk kb heq
    injection heq with e1 e2 e3 e4 e5 e6
    subst e1 e2 e3 e4 e5 e6
    cases hd:kW C.n o.dst && ready kb all o with
    |false=>rw [hd] at ho;cases ho
    |true=>
      have Lp:=(Bool.and_eq_true _ _▸hd:_∧_).1
      rw[hd] at ho
      simp only[cond_true] at ho
      split at ho
      · rename_i hg
        exact I8 val dN R' Lp hg (hD o (by simp only[hd,cond_true,hg])) xb
      · cases ho
  · rename_i all q i r K s k0 mk kb heq
    injection heq with e1 e2 e3 e4 e5 e6
    subst e1 e2 e3 e4 e5 e6
    split at ho
    · rename_i o nS
      cases hd:kW C.n o.dst && ready kb all o with
      |false=>rw [hd] at ho;cases ho
      |true=>
        have Lp:=(Bool.and_eq_true _ _▸hd:_∧_).1
        rw[hd] at ho
        simp only[cond_true] at ho
        split at ho
        · rename_i hg
          refine Ja val dN R' nS Lp hg (hD o (by simp only[nS,hd,cond_true,hg])) (fun gM bs y w hp hl hS=>?_) fun y=>?_
          · have h1:=hL y
            simp only[fJ,fK,Prod.mk.injEq] at h1
            exact hS.FK hp hl h1.1 h1.2 (hR y)
          · have h1:=hL y
            simp only[fJ,fK,Prod.mk.injEq] at h1
            have h2:=xb y
            simp only[G7,nS] at h2
            have h3:JH C all (QK C.P Q K) R0 (ck (dN y) k0 mk) q r (R' y) ⟨jz s.env o.dst (val y),dN y⟩:=h2
            rw[h1.2] at h3
            exact h3
        · cases ho
    · cases ho
  · cases ho
theorem j6 {α σ:Type}(v:Oper→SS→Option α)(x:α)(hv:vw C.n v m=some x)(val:σ→SV)(dN:σ→List fq)(R':σ→List bz)(hD: ∀o,v o m.s=some x→g5 C o R m.s val dN R')
    (hL: ∀y,fJ m (dN y)=fK m) (hR: ∀y,R0.Sublist (R' y)) (hJ: ∀y,JM C Q R0 (R' y) (nx C (G7 m (val y) (dN y)))):JM C Q R0 R m:=by
  refine Bs val dN R' ?_ (fun o ho=>hD o ?_) hL hR hJ
  · unfold vw at hv
    split at hv
    · rename_i o ho;rw[ho];rfl
    · cases hv
  · unfold vw at hv
    rw[ho] at hv
    exact hv
section
variable {α : Type} {a b c d e f g k i : α} {l : List α}
theorem i0:a∈a::l:=.head _
theorem i1:b∈a::b::l:=.tail _ i0
theorem i2:c∈a::b::c::l:=.tail _ i1
theorem i3:d∈a::b::c::d::l:=.tail _ i2
theorem i4:e∈a::b::c::d::e::l:=.tail _ i3
theorem i5:f∈a::b::c::d::e::f::l:=.tail _ i4
theorem i6:g∈a::b::c::d::e::f::g::l:=.tail _ i5
end
theorem Bt {R':List bz}{m4:Qo}{K:List Fk}{s s':SS}{k0:Nat}{mk:List Nat}{kb Kx:List (Nat×Nat)}(hl:s'.loc=s.loc)(h: ∀bs a w,rC C R s bs a w→rC C R' s' bs a w)(hJ:JM C Q R0 R' ⟨m4,K,s',k0,mk,Kx⟩):JM C Q R0 R ⟨m4,K,s,k0,mk,kb⟩:=by
  cases m4 with
  |code c=>exact fun a w ⟨bs,hs⟩=>hJ a w ⟨bs,h bs a w hs⟩
  |ops all l=>exact fun a w ⟨bs,hs⟩=>hJ a w ⟨bs,h bs a w hs⟩
  |out e=>exact fun a w ⟨bs,hs⟩=>hJ a w ⟨bs,h bs a w hs⟩
  |hw all n t=>
    have xb:JH C all (QK C.P Q K) R0 (ck s'.loc k0 mk) n t R' s':=hJ
    rw[hl] at xb
    exact fun gM bs a w hp hs sy=>xb gM bs a w hp (h bs a w hs) sy
theorem FM {σ:Type}(R':σ→List bz)(h: ∀bs w,WS C.m C.w0 bs m.s.loc R w→ ∃y,WS C.m C.w0 bs m.s.loc (R' y) w)(hJ: ∀y,JM C Q R0 (R' y) m):JM C Q R0 R m:=by
  obtain⟨m4,K,s,k0,mk,kb⟩:=m
  cases m4 with
  |code c=>exact fun a w ⟨bs,h1,h2,hS⟩=>let ⟨y,hy⟩:=h bs w hS;hJ y a w ⟨bs,h1,h2,hy⟩
  |ops all l=>exact fun a w ⟨bs,h1,h2,hS⟩=>let ⟨y,hy⟩:=h bs w hS;hJ y a w ⟨bs,h1,h2,hy⟩
  |out e=>exact fun a w ⟨bs,h1,h2,hS⟩=>let ⟨y,hy⟩:=h bs w hS;hJ y a w ⟨bs,h1,h2,hy⟩
  |hw all n t=>exact fun gM bs a w hp ⟨h1,h2,hS⟩ sy=>let ⟨y,hy⟩:=h bs w hS;hJ y gM bs a w hp ⟨h1,h2,hy⟩ sy
theorem og (R':List bz)(h: ∀bs w,WS C.m C.w0 bs m.s.loc R w→WS C.m C.w0 bs m.s.loc R' w)(hJ:JM C Q R0 R' m):JM C Q R0 R m:=FM (fun _:Unit=>R') (fun bs w hS=>⟨(),h bs w hS⟩) fun _=>hJ
theorem fO {R':List bz}(hp:R'.Perm R)(h:JM C Q R0 R' m):JM C Q R0 R m:=og R' (fun _ _ hS=>hS.perm hp) h
theorem cb {a b:bz}(h:JM C Q R0 (b::a::R) m):JM C Q R0 (a::b::R) m:=fO (Pf 1 rfl) h
theorem WS.f1 {a b:bz}{ms bs:List Nat}{w0 w:World}{loc:List fq}(h:WS ms w0 bs loc (a::b::R) w):WS ms w0 bs loc (b::a::R) w:=h.perm (Pf 1 rfl)
theorem cL {a b c:bz}(h:JM C Q R0 (c::a::b::R) m):JM C Q R0 (a::b::c::R) m:=fO (Pf 2 rfl) h
theorem WS.f2 {a b c:bz}{ms bs:List Nat}{w0 w:World}{loc:List fq}(h:WS ms w0 bs loc (a::b::c::R) w):WS ms w0 bs loc (c::a::b::R) w:=h.perm (Pf 2 rfl)
theorem jZ {a b c d:bz}(h:JM C Q R0 (d::a::b::c::R) m):JM C Q R0 (a::b::c::d::R) m:=fO (Pf 3 rfl) h
theorem x5 {a b c d e:bz}(h:JM C Q R0 (e::a::b::c::d::R) m):JM C Q R0 (a::b::c::d::e::R) m:=fO (Pf 4 rfl) h
theorem WS.f4 {a b c d e:bz}{ms bs:List Nat}{w0 w:World}{loc:List fq}(h:WS ms w0 bs loc (a::b::c::d::e::R) w):WS ms w0 bs loc (e::a::b::c::d::R) w:=h.perm (Pf 4 rfl)
theorem dx {a b c d e f:bz}(h:JM C Q R0 (f::a::b::c::d::e::R) m):JM C Q R0 (a::b::c::d::e::f::R) m:=fO (Pf 5 rfl) h
theorem WS.f5 {a b c d e f:bz}{ms bs:List Nat}{w0 w:World}{loc:List fq}(h:WS ms w0 bs loc (a::b::c::d::e::f::R) w):WS ms w0 bs loc (f::a::b::c::d::e::R) w:=h.perm (Pf 5 rfl)
theorem Bu {a b c d e f g:bz}(h:JM C Q R0 (g::a::b::c::d::e::f::R) m):JM C Q R0 (a::b::c::d::e::f::g::R) m:=fO (Pf 6 rfl) h
theorem CX {R':List bz}(hs:R'.Sublist R)(h:JM C Q R0 R' m):JM C Q R0 R m:=og R' (fun _ _ hS=>hS.sub hs) h
theorem eu {r:bz}(r':bz)(hf:r'.fp.Sublist r.fp)(hp: ∀w,r.p w→r'.p w)(h:JM C Q R0 (r'::R) m):JM C Q R0 (r::R) m:=og _ (fun _ w hS=>hS.vG r' hf (hp w)) h
theorem fc {r1 r2:bz}(r:bz)(hf:r.fp.Perm (r1.fp++r2.fp))(hp: ∀w,r1.p w→r2.p w→r.p w)(h:JM C Q R0 (r::R) m):JM C Q R0 (r1::r2::R) m:=og _ (fun _ w hS=>hS.join r hf (hp w)) h
theorem m5 {r:bz}(r1 r2:bz)(hf:(r1.fp++r2.fp).Perm r.fp)(hp: ∀w,r.p w→r1.p w∧r2.p w)(h:JM C Q R0 (r1::r2::R) m):JM C Q R0 (r::R) m:=og _ (fun _ w hS=>hS.Lc r1 r2 hf (hp w)) h
theorem dH {r1 r2:bz}(h:JM C Q R0 (r1::r2::R) m):JM C Q R0 (cN [r1,r2]::R) m:=m5 r1 r2 (by simp[cN]) (fun w h=>⟨h _ (.head _),h _ (.tail _ (.head _))⟩) h
theorem bk {F:Prop}(h: ∀bs w,WS C.m C.w0 bs m.s.loc R w→F)(hJ:F→JM C Q R0 R m):JM C Q R0 R m:=FM (fun _:{ _u:Unit // F }=>R) (fun bs w hS=>⟨⟨(),h bs w hS⟩,hS⟩) fun y=>hJ y.2
theorem gK (r:bz)(hf:r.fp=[])(hp: ∀w,r.p w)(h:JM C Q R0 (r::R) m):JM C Q R0 R m:=og _ (fun _ w hS=>hS.Lb r hf (hp w)) h
theorem IL (e size:Nat)(h:JM C Q R0 (fI e size none 0 0 []::R) m):JM C Q R0 R m:=og _ (fun _ w hS=>hS.new _ (qm e size w) (by simp[fI]) (by simp[fI])) h
theorem bU {α:Type}[aR α](e:Nat)(h:JM C Q R0 (ay e none 0 ([]:List α)::R) m):JM C Q R0 R m:=IL e (aR.size α) h
theorem CY {α:Type}[aR α]{e:Nat}{A:Option Addr}{c:Nat}{L:List α}(hL:0<L.length)
    (hJ: ∀g zs,A=some ⟨g,0,none⟩→L.length≤c→(L.flatMap aR.cells++zs).length=c*aR.size α→JM C Q R0 (jY e (aR.size α) g c (L.flatMap aR.cells++zs)::R) m):JM C Q R0 (ay e A c L::R) m:=by
  refine FM (fun y:{ y:Nat×List Value // A=some ⟨y.1,0,none⟩∧L.length≤c∧(L.flatMap aR.cells++y.2).length=c*aR.size α }=>jY e (aR.size α) y.1.1 c (L.flatMap aR.cells++y.1.2)::R) (fun bs w hS=>?_) fun y=>hJ y.1.1 y.1.2 y.2.1 y.2.2.1 y.2.2.2
  rcases mB (hS.res _ (.head _)) with ⟨rfl,rfl,rfl⟩|⟨g,zs,hA,hr,hn⟩
  · simp at hL
  · exact⟨⟨(g,zs),hA,hn,hr.2.1⟩,hS.vG _ (by subst hA;exact List.Sublist.refl _) (fun _=>hr)⟩
def Lq (m:eO)(t:Nat)(x:SV):eO:={ m with s:=⟨jz m.s.env (some t) x,m.s.loc⟩,kb:=CV m.kb (some t) 0 }
def HL (m:eO)(t:Nat)(b:Bool):eO:={ m with s:=⟨jz m.s.env (some t) (vB b),m.s.loc⟩,kb:=(t,bif b then 1 else 2)::m.kb }
theorem Jg {s:SS}{bs:List Nat}{a:Act}{w:World}{t:Nat}{x:SV}(h:rC C R s bs a w)(hx:get s.env t=some x):rC C R ⟨jz s.env (some t) x,s.loc⟩ bs a w:=by
  refine⟨⟨h.1.1,fun u y hu=>?_⟩,h.2.1,h.2.2⟩
  simp only[jz,get] at hu
  cases hb:Nat.beq t u with
  |true=>
    have e1:t=u:=Nat.eq_of_beq_eq_true hb
    subst e1
    simp only[hb,cond_true,Option.some.injEq] at hu
    subst hu
    exact h.1.2 _ _ hx
  |false=>
    simp only[hb,cond_false] at hu
    exact h.1.2 u y hu
theorem Mk (t:Nat){x x':SV}(J:JM C Q R0 R (nx C (Lq m t x')))(hx:x=x')(hR:R0.Sublist R:=by first|exact List.nil_sublist _|exact List.Sublist.refl _)(hv:get m.s.env t=some x:=by kernel_rfl):JM C Q R0 R m:=by
  subst hx
  obtain⟨m4,K,s,k0,mk,kb⟩:=m
  exact Bt (s':=⟨jz s.env (some t) x,s.loc⟩) rfl (fun bs a w h=>Jg h hv) (dR (m:=Lq ⟨m4,K,s,k0,mk,kb⟩ t x) hR J)
def Ox (m:eO):Bool:=
  match m.m4 with
  | .hw _ _ _=>false
  |_=>true
theorem Mz (J:JM C Q [] R m)(h:Ox m=true:=by kernel_rfl):JM C Q R0 R m:=by
  obtain⟨m4,K,s,k0,mk,kb⟩:=m
  cases m4 with
  |hw all n t=>cases h
  |_=>exact J
def HM (kb:List (Nat×Nat))(all:Array Oper)(o:Oper):Nat:=
  match qE kb all o with
  |0=>
    match o.guard with
    |some (j,_)=>match (all[j]?).bind (·.dst) with
      |some t=>t
      |none=>0
    |none=>0
  |_=>
    match o.op with
    | .pick (.tmp t) _ _=>t
    |_=>0
def oh (m:eO):Nat:=
  match m with
  |⟨.code (.cond (.tmp t) _ _),_,_,_,_,_⟩=>t
  |⟨.ops all (o::_),_,_,_,_,kb⟩=>HM kb all o
  |⟨.hw all _ (.q i _),_,_,_,_,kb⟩=>match all[i]? with|some o=>HM kb all o|none=>0
  |⟨.hw all _ (.p i _),_,_,_,_,kb⟩=>match all[i]? with|some o=>HM kb all o|none=>0
  |⟨.hw all _ (.b i _ _),_,_,_,_,kb⟩=>match all[i]? with|some o=>HM kb all o|none=>0
  |_=>0
theorem Mq (t:Nat){x:SV}(b:Bool)(J:JM C Q R0 R (nx C (HL m t b)))(hx:x=vB b)(hR:R0.Sublist R:=by first|exact List.nil_sublist _|exact List.Sublist.refl _)(hv:get m.s.env t=some x:=by kernel_rfl):JM C Q R0 R m:=by
  subst hx
  obtain⟨m4,K,s,k0,mk,kb⟩:=m
  exact Bt (s':=⟨jz s.env (some t) (vB b),s.loc⟩) rfl (fun bs a w h=>Jg h hv) (dR (m:=HL ⟨m4,K,s,k0,mk,kb⟩ t b) hR J)
theorem FN {e:Env}{t:Nat}{x:SV}(h:get e t=some x)(u:Nat):get (jz e (some t) x) u=get e u:=by
  simp only[jz,get]
  cases hb:Nat.beq t u with
  |true=>
    have e1:t=u:=Nat.eq_of_beq_eq_true hb
    subst e1
    simp only[cond_true,h]
  |false=>rfl
def bx (n X:Bool):Bool:=bif n then !X else X
def FO (m:eO)(b:Bool):List (Nat×Bool)→eO
  |[]=>m
  |p::r=>FO (HL m p.1 (bx p.2 b)) b r
def G8 (m:eO)(ex:List (Nat×Bool)):List (Option SV):=ex.map fun p=>get m.s.env p.1
def FP (X:Bool)(ex:List (Nat×Bool)):List (Option SV):=ex.map fun p=>some (vB (bx p.2 X))
theorem qG (b:Bool): ∀(ex:List (Nat×Bool)) (m:eO),G8 m ex=FP b ex→JM C Q R0 R (FO m b ex)→JM C Q R0 R m
  |[],_,_,h=>h
  |p::r,m,hv,h=>by
    simp only[G8,FP,List.map_cons,List.cons.injEq] at hv
    have h1:=qG b r (HL m p.1 (bx p.2 b)) (by
      rw[FP, ←hv.2]
      exact List.map_congr_left fun q _=>FN hv.1 q.1) h
    obtain⟨m4,K,s,k0,mk,kb⟩:=m
    exact Bt (s':=⟨jz s.env (some p.1) (vB (bx p.2 b)),s.loc⟩) rfl (fun bs a w h=>Jg h hv.1) h1
def qH (m:eO)(b neg:Bool)(ex:List (Nat×Bool)):eO:=FO m b ((oh m,neg)::ex)
theorem HN (X:Bool)(neg:Bool)(ex:List (Nat×Bool))(T:X=true→JM C Q R0 R (nx C (qH m true neg ex)))(F:X=false→JM C Q R0 R (nx C (qH m false neg ex)))(hR:R0.Sublist R:=by first|exact List.nil_sublist _|exact List.Sublist.refl _)
    (hv:G8 m ((oh m,neg)::ex)=FP X ((oh m,neg)::ex):=by kernel_rfl):JM C Q R0 R m:=by
  cases X with
  |true=>exact qG true _ m hv (dR hR (T rfl))
  |false=>exact qG false _ m hv (dR hR (F rfl))
theorem Qt (p:Prop)(neg:Bool)(ex:List (Nat×Bool))[d:Decidable p](T:p→JM C Q R0 R (nx C (qH m true neg ex)))(F: ¬p→JM C Q R0 R (nx C (qH m false neg ex)))(hR:R0.Sublist R:=by first|exact List.nil_sublist _|exact List.Sublist.refl _)
    (hv:G8 m ((oh m,neg)::ex)=FP (decide p) ((oh m,neg)::ex):=by kernel_rfl):JM C Q R0 R m:=
  HN (decide p) neg ex (fun h=>T (of_decide_eq_true h)) (fun h=>F (of_decide_eq_false h)) hR hv
theorem Mb (X:Bool)(T:X=true→JM C Q R0 R (nx C (qH m true false [])))(F:X=false→JM C Q R0 R (nx C (qH m false false [])))(hR:R0.Sublist R:=by first|exact List.nil_sublist _|exact List.Sublist.refl _)
    (hv:G8 m [(oh m,false)]=FP X [(oh m,false)]:=by kernel_rfl):JM C Q R0 R m:=HN X false [] T F hR hv
theorem fL (X:Bool)(T:X=true→JM C Q R0 R (nx C (qH m true true [])))(F:X=false→JM C Q R0 R (nx C (qH m false true [])))(hR:R0.Sublist R:=by first|exact List.nil_sublist _|exact List.Sublist.refl _)
    (hv:G8 m [(oh m,true)]=FP X [(oh m,true)]:=by kernel_rfl):JM C Q R0 R m:=HN X true [] T F hR hv
theorem Md (p:Prop)[d:Decidable p](T:p→JM C Q R0 R (nx C (qH m true false [])))(F: ¬p→JM C Q R0 R (nx C (qH m false false [])))(hR:R0.Sublist R:=by first|exact List.nil_sublist _|exact List.Sublist.refl _)
    (hv:G8 m [(oh m,false)]=FP (decide p) [(oh m,false)]:=by kernel_rfl):JM C Q R0 R m:=Qt p false [] T F hR hv
theorem cr (p:Prop)[d:Decidable p](T:p→JM C Q R0 R (nx C (qH m true true [])))(F: ¬p→JM C Q R0 R (nx C (qH m false true [])))(hR:R0.Sublist R:=by first|exact List.nil_sublist _|exact List.Sublist.refl _)
    (hv:G8 m [(oh m,true)]=FP (decide p) [(oh m,true)]:=by kernel_rfl):JM C Q R0 R m:=Qt p true [] T F hR hv
theorem RT {X:Bool}(b neg:Bool)(ex:List (Nat×Bool))(J:JM C Q R0 R (nx C (qH m b neg ex)))(h:X=b)(hR:R0.Sublist R:=by first|exact List.nil_sublist _|exact List.Sublist.refl _)
    (hv:G8 m ((oh m,neg)::ex)=FP X ((oh m,neg)::ex):=by kernel_rfl):JM C Q R0 R m:=by
  subst h
  exact qG X _ m hv (dR hR J)
theorem My {X:Bool}(b neg:Bool)(J:JM C Q R0 R (nx C (qH m b neg [])))(h:X=b)(hR:R0.Sublist R:=by first|exact List.nil_sublist _|exact List.Sublist.refl _)
    (hv:G8 m [(oh m,neg)]=FP X [(oh m,neg)]:=by kernel_rfl):JM C Q R0 R m:=RT b neg [] J h hR hv
theorem dt {p:Prop}[Decidable p](h:p):decide p=true:=decide_eq_true h
theorem df {p:Prop}[Decidable p](h: ¬p):decide p=false:=decide_eq_false h
theorem dT {p:Prop}[Decidable p](h:p):vB (decide p)=vB true:=by rw[decide_eq_true h]
theorem dF {p:Prop}[Decidable p](h: ¬p):vB (decide p)=vB false:=by rw[decide_eq_false h]
def Lr (e:Env):List Nat→Env→Env
  |[],_=>[]
  |k::r,ch=>
    match get ch k with
    |some x=>(k,x)::Lr e r ch
    |none=>match get e k with
      |some x=>(k,x)::Lr e r ch
      |none=>Lr e r ch
def Oy (l:List fq):List (Nat×List SV)→List fq
  |[]=>l
  |(i,cs)::r=>Oy (match l[i]? with|some b=>l.set i ⟨b.ty,cs⟩|none=>l) r
def zK (m:eO)(keys:List Nat)(ch:Env)(lc:List (Nat×List SV)):SS:=⟨Lr m.s.env keys ch,Oy m.s.loc lc⟩
def zL (m:eO)(I:Act→World→Prop)(s:SS):eO:=
  match m.m4 with
  | .code (.loop c)=>⟨.code c,.lp I::m.K,s,0,[],[]⟩
  |_=>m
def Ls (m:eO)(I:Act→World→Prop)(keys:List Nat)(ch:Env)(lc:List (Nat×List SV)):eO:=zL m I (zK m keys ch lc)
def Lt (m:eO)(I:Act→World→Prop)(m':eO):eO:=zL m I m'.s
def Lu (m:eO)(I:Act→World→Prop):eO:=zL m I m.s
def Lv (m:eO):Bool:=
  match m.m4 with
  | .code (.loop _)=>true
  |_=>false
def DM (m:eO):Option (Act→World→Prop):=
  match m with
  |⟨.out .normal,.lp I::_,_,_,_,_⟩=>some I
  |_=>none
theorem Ml {σ:Type}(I:σ→Prop)(μ:σ→Nat)(RS:σ→List bz)(keys:List Nat)(ch:σ→Env)(lc:σ→List (Nat×List SV))(B: ∀x,I x→ ∀inv:Act→World→Prop,(∀{R':List bz} {m':eO} (y:σ),I y→μ y<μ x→(hR:R'=RS y:=by rfl)→(ht:DM m'=some inv:=by kernel_rfl)→(hp:tS m'.s keys m.s.loc.length=some (zK m keys (ch y) (lc y)):=by kernel_rfl)→JM C Q [] R' m')→
      JM C Q [] (RS x) (nx C (Ls m inv keys (ch x) (lc x)))) (x0:σ) (hI:I x0) (hR:R=RS x0:=by rfl) (hl:Lv m=true:=by kernel_rfl) (hp:tS m.s keys m.s.loc.length=some (zK m keys (ch x0) (lc x0)):=by kernel_rfl):JM C Q [] R m:=by
  obtain⟨m4,K,s,k0,mk,kb⟩:=m
  cases m4 with
  |code c=>
    cases c with
    |loop c=>
      show JC C (.loop c) (QK C.P Q K) R s
      refine Cl I μ RS (fun y=>zK ⟨.code (.loop c),K,s,k0,mk,kb⟩ keys (ch y) (lc y)) x0 hI (Ss keys _ hp hR) fun x hx=>?_
      refine dR (m:=zL ⟨.code (.loop c),K,s,k0,mk,kb⟩ _ _) (Q:=Q) (List.nil_sublist _) (B x hx (fun a w=> ∃y,I y∧μ y<μ x∧Sat C (RS y) (zK ⟨.code (.loop c),K,s,k0,mk,kb⟩ keys (ch y) (lc y)) a w) ?_)
      intro R' m' y Oz hμ OA ht Jb
      obtain⟨Lw,K',s',Nz,mk',Kx⟩:=m'
      unfold DM at ht
      split at ht
      · rename_i I' Qu Qv Lx mk'' Ly heq
        injection heq with e1 e2 e3 e4 e5 e6
        subst e1 e2 e3 e4 e5 e6
        injection ht with ht
        subst ht
        exact Ql y Oz hμ (Ss keys _ Jb OA)
      · cases ht
    |_=>cases hl
  |_=>cases hl
def Lz (m:eO)(I:Act→World→Prop):eO:=
  match m.K with
  | .th _::K=>{ m with K:=.lp I::K }
  |_=>m
def LA (m:eO)(s:SS):eO:=
  match m.K with
  | .th c::K=>⟨.code c,K,s,0,[],[]⟩
  |_=>m
def FQ (m:eO)(keys:List Nat)(ch:Env)(lc:List (Nat×List SV))(nb:List fq):SS:=⟨Lr m.s.env keys ch,Oy m.s.loc lc++nb⟩
def OB (m:eO):Bool:=
  match m.m4,m.K with
  | .code _,.th _::_=>true
  |_,_=>false
theorem HO {σ:Type}(I:σ→Prop)(RS:σ→List bz)(keys:List Nat)(ch:σ→Env)(lc:σ→List (Nat×List SV))(nb:σ→List fq)(k:Nat)(B: ∀inv:Act→World→Prop,(∀{R':List bz} {m':eO} (y:σ),I y→(hR:R'=RS y:=by rfl)→(ht:DM m'=some inv:=by kernel_rfl)→(hp:tS m'.s keys (m.s.loc.length+k)=some (FQ m keys (ch y) (lc y) (nb y)):=by kernel_rfl)→JM C Q [] R' m')→JM C Q [] R (nx C (Lz m inv)))
    (J: ∀y,I y→JM C Q [] (RS y) (nx C (LA m (FQ m keys (ch y) (lc y) (nb y))))) (hl:OB m=true:=by kernel_rfl):JM C Q [] R m:=by
  obtain⟨m4,K,s,k0,mk,kb⟩:=m
  cases m4 with
  |code cc=>
    cases K with
    |nil=>cases hl
    |cons fr K=>
      cases fr with
      |th c=>
        refine dR (m:=⟨.code cc,.lp (c.wp C.P (QK C.P Q K))::K,s,k0,mk,kb⟩) (Q:=Q) (List.nil_sublist _) (B (c.wp C.P (QK C.P Q K)) ?_)
        intro R' m' y Oz OA ht Jb
        obtain⟨Lw,K',s',Nz,mk',Kx⟩:=m'
        unfold DM at ht
        split at ht
        · rename_i I' Qu Qv Lx mk'' Ly heq
          injection heq with e1 e2 e3 e4 e5 e6
          subst e1 e2 e3 e4 e5 e6
          injection ht with ht
          subst ht
          have h2:JC C c (QK C.P Q K) (RS y) (FQ ⟨.code cc,.th c::K,s,k0,mk,kb⟩ keys (ch y) (lc y) (nb y)):=dR (List.nil_sublist _) (J y Oz)
          exact fun a w hs=>h2 a w (Ss keys _ Jb OA a w hs)
        · cases ht
      |_=>cases hl
  |_=>cases hl
theorem LB (n:Nat)(B: ∀inv:Nat→Act→World→Prop,(∀{R':List bz} {m':eO} (k:Nat) (ht:DM m'=some (inv (k+1)):=by kernel_rfl) (J:JM C Q [] R' (nx C (Lt m (inv k) m'))),JM C Q [] R' m')→JM C Q [] R (nx C (Lu m (inv n))))(hl:Lv m=true:=by kernel_rfl):JM C Q [] R m:=by
  obtain⟨m4,K,s,k0,mk,kb⟩:=m
  cases m4 with
  |code c=>
    cases c with
    |loop c=>
      refine Fg (n:=n) ?_
      refine dR (m:=zL ⟨.code (.loop c),K,s,k0,mk,kb⟩ (Code.rounds C.P c (QK C.P Q K) n) s) (Q:=Q) (List.nil_sublist _) (B (Code.rounds C.P c (QK C.P Q K)) ?_)
      intro R' m' k ht hJ
      obtain⟨Lw,K',s',Nz,mk',Kx⟩:=m'
      have h2:=dR (List.nil_sublist _) hJ
      unfold DM at ht
      split at ht
      · rename_i I' Qu Qv Lx mk'' Ly heq
        injection heq with e1 e2 e3 e4 e5 e6
        subst e1 e2 e3 e4 e5 e6
        injection ht with ht
        subst ht
        exact Hw h2
      · cases ht
    |_=>cases hl
  |_=>cases hl
def IM (m:eO)(q:Nat)(t:Tr)(mk:List Nat):eO:=
  match m.m4 with
  | .code (.region _ ops true)=>⟨.hw ops q t,m.K,m.s,m.s.loc.length,mk,m.kb⟩
  |_=>m
def x6 (m:eO)(q:Nat)(X:List Nat)(t:Tr):Bool:=
  match m.m4 with
  | .code (.region _ ops true)=>Cy .any ops X q t
  |_=>false
theorem CZ {P:Program}(hQ:PQ Q): ∀K:List Fk,PQ (QK P Q K)
  |[]=>hQ
  | .th _::K=>CB (CZ hQ K)
  | .bl _::K=>Fa (CZ hQ K)
  | .lp _::K=>CB (CZ hQ K)
theorem Mw (q:Nat)(X:List Nat)(t:Tr)(mk:List Nat)(R0:List bz)(hm:C.P.follows .mixedOrders=true){fn:Func}{R':Ending→World→Prop}(J:JM C (bodyPost C.P fn R') R0 R (nx C (IM m q t mk)))(hR:R0.Sublist R:=by first|exact List.Sublist.refl _|exact List.nil_sublist _)(h:x6 m q X t=true:=by kernel_rfl):JM C (bodyPost C.P fn R') [] R m:=by
  obtain⟨m4,K,s,k0,TC,kb⟩:=m
  unfold x6 at h
  simp only at h
  split at h
  · rename_i id ops
    have h1:=dR hR J
    have h2:JH C ops (QK C.P (bodyPost C.P fn R') K) R0 (nT (s.loc.take s.loc.length) mk) q t R s:=h1
    rw[List.take_length] at h2
    have h3:JC C (.region id ops.toList.toArray true) (QK C.P (bodyPost C.P fn R') K) R s:=Cd q X t mk R0 hm (by simpa using h) (CZ Hs K) hR (by simpa using h2)
    show JC C (.region id ops true) (QK C.P (bodyPost C.P fn R') K) R s
    simpa using h3
  · cases h
def LC (m:eO)(b:Bool):eO:=
  match m.m4 with
  | .hw all q (.b i r alt)=>{ m with m4:=.hw all q (bif b then .b i r .z else alt)}
  |_=>m
theorem tw (h1:JM C Q R0 R (nx C (LC m true)))(h2:JM C Q R0 R (nx C (LC m false)))(hR:R0.Sublist R:=by first|exact List.nil_sublist _|exact List.Sublist.refl _):JM C Q R0 R m:=by
  have K8:=dR hR h1
  have Om:=dR hR h2
  obtain⟨m4,K,s,k0,mk,kb⟩:=m
  cases m4 with
  |hw all q t=>
    cases t with
    |b i r alt=>exact Oc K8 Om
    |_=>exact K8
  |_=>exact K8
def Bv (fn:Func):Code:=
  match fn.body with
  |some c=>c
  |none=>.skip
def FR (fn:Func)(vs:List Value):eO:=⟨.code (Bv fn),[],⟨mW 0 (vs.map .v),[]⟩,0,[],[]⟩
theorem Mj {P:Program}{f:Nat}{fn:Func}{w:World}{R':Ending→World→Prop}{vs:List Value}{m:List Nat}{R0:List bz}(J:JM ⟨P,fn.ntmps,m,w⟩ (bodyPost P fn R') [] R0 (nx ⟨P,fn.ntmps,m,w⟩ (FR fn vs)))(hf:P.funcs[f]? =some fn)(hW:WS m w [] [] R0 w)(hb:(fn.body.isSome && Nat.ble vs.length fn.ntmps)=true:=by kernel_rfl):Calls P f vs.toArray w R':=by
  simp only[Bool.and_eq_true] at hb
  obtain⟨c,hc⟩:=Option.isSome_iff_exists.1 hb.1
  refine Cj fn.ntmps m hf hc rfl [] [] R0 (vs.map .v) vs hb.2 (by simp[Function.comp_def,den]) hW ?_
  have h:=dR (List.nil_sublist _) J
  have h':JC ⟨P,fn.ntmps,m,w⟩ (Bv fn) (bodyPost P fn R') R0 ⟨mW 0 (vs.map .v),[]⟩:=h
  unfold Bv at h'
  rw[hc] at h'
  exact h'
theorem M0 {P:Program}{f:Nat}{fn:Func}{w:World}{R':Ending→World→Prop}{vs:List Value}(J:JM ⟨P,fn.ntmps,[],w⟩ (bodyPost P fn R') [] [] (nx ⟨P,fn.ntmps,[],w⟩ (FR fn vs)))(hf:P.funcs[f]? =some fn)(hb:(fn.body.isSome && Nat.ble vs.length fn.ntmps)=true:=by kernel_rfl):Calls P f vs.toArray w R':=Mj J hf (WS.start w) hb
def Bw (P:Program)(fn:Func)(m:eO):Option (List SV):=
  match m with
  |⟨.out .ret,[],s,_,_,_⟩=>xI P s fn.results.toList
  |⟨.out .normal,[],s,_,_,_⟩=>xI P s fn.results.toList
  |_=>none
theorem Mt {fn:Func}{R':Ending→World→Prop}(vs:List Value)(hR: ∀bs w,WS C.m C.w0 bs m.s.loc R w→R' (.returned (bO vs)) w)(h:Bw C.P fn m=some (vs.map .v):=by kernel_rfl):JM C (bodyPost C.P fn R') R0 R m:=by
  obtain⟨m4,K,s,k0,mk,kb⟩:=m
  have key: ∀bs,(vs.map SV.v).map (den bs)=vs:=fun bs=>by simp[Function.comp_def,den]
  unfold Bw at h
  split at h
  · rename_i s' Nz mk' Kx heq
    injection heq with e1 e2 e3 e4 e5 e6
    subst e1 e2 e3 e4 e5 e6
    exact Rt (.inl rfl) (vs.map .v) h fun bs w hS=>by rw[key];exact hR bs w hS
  · rename_i s' Nz mk' Kx heq
    injection heq with e1 e2 e3 e4 e5 e6
    subst e1 e2 e3 e4 e5 e6
    exact Rt (.inr rfl) (vs.map .v) h fun bs w hS=>by rw[key];exact hR bs w hS
  · cases h
theorem jN {fn:Func}{σ β:Type}{M:β×Int}{d:β}{k:Int}{A:σ→β}{S:World→σ→Prop}(hm:M=(d,k))(y:σ)(hA:A y=d)(hS: ∀bs w,WS C.m C.w0 bs m.s.loc R w→S w y)(h:Bw C.P fn m=some [vI k]:=by kernel_rfl):JM C (bodyPost C.P fn fun e w'=> ∃y,e=.returned (.int .i64 M.2)∧A y=M.1∧S w' y) R0 R m:=by
  subst hm
  exact Mt [.int .i64 k] (fun bs w oH=>⟨y,rfl,hA,hS bs w oH⟩) h
theorem eE {fn:Func}{σ β:Type}{M:β×Int}{d:β}{k:Int}{A:σ→β}{V:σ→Value}{S:World→σ→Prop}(hm:M=(d,k))(y:σ)(hA:A y=d)(hS: ∀bs w,WS C.m C.w0 bs m.s.loc R w→S w y)(h:Bw C.P fn m=some [.v (V y),vI k]:=by kernel_rfl):JM C (bodyPost C.P fn fun e w'=> ∃y,e=.returned (.tuple #[V y,.int .i64 M.2])∧A y=M.1∧S w' y) R0 R m:=by
  subst hm
  exact Mt [V y,.int .i64 k] (fun bs w oH=>⟨y,rfl,hA,hS bs w oH⟩) h
theorem Qw {fn:Func}{X:Value}(v:Value)(hv:v=X)(h:Bw C.P fn m=some [.v v]:=by kernel_rfl)(hm:C.m=[]:=by rfl):JM C (bodyPost C.P fn fun e w'=>e=.returned X∧Kp [] C.w0 w') R0 R m:=
  Mt [v] (fun bs w hS=>⟨by rw[←hv];rfl,by rw[←hm];exact hS.kp⟩) h
end
end Go.Proofs.YtbjakddkfgjkaaaGreat.Fw
namespace Go.Proofs.YtbjakddkfgjkaaaGreat.Fw
open Go.RowKit
section
variable {C : Cx} {Q : Exit → Act → World → Prop} {R0 R : List bz} {m : eO}
theorem g5.as {o:Oper}{s:SS}{σ:Type}{val:σ→SV}{dN:σ→List fq}{R':σ→List bz}{op:Op}(h:o.op=op)(hD:g5 C ⟨o.dst,op,o.type,o.pos,o.after,o.guard⟩ R s val dN R'):g5 C o R s val dN R':=by
  subst h;exact hD
def k5 (bs:List Nat)(o:Oper)(s:SS):Option (Nat×List Value):=
  match o.op with
  | .call ⟨.value f,args,_⟩=>
    match ev s f,Cu s args.toList with
    |some (.fn iu dc),some xs=>some (iu,xs.map (den bs)++xJ bs dc)
    |some (.v (.func (.func iu) fs dc)),some xs=>match fs.toList with
      |[]=>some (iu,xs.map (den bs)++dc.toList)
      |_=>none
    |_,_=>none
  |_=>none
theorem om {σ:Type}{iu:Nat}{vs:List Nat→List Value}(val:σ→SV)(dN:σ→List fq)(R':σ→List bz)(cH: ∀args w,(callFunc iu args).run C.P w=.ok (.enter iu args) w)
    (hc: ∀bs w,WS C.m C.w0 bs m.s.loc R w→Calls C.P iu (vs bs).toArray w fun e w'=> ∃y,e=.returned (den bs (val y))∧WS C.m C.w0 bs (dN y) (R' y) w')
    (hJ: ∀y,JM C Q R0 (R' y) (nx C (G7 m (val y) (dN y)))) (hL: ∀y,fJ m (dN y)=fK m) (hR: ∀y,R0.Sublist (R' y)) (hv: ∀bs,vw C.n (k5 bs) m=some (iu,vs bs)):JM C Q R0 R m:=by
  have Jh:=hv []
  unfold vw at hv Jh
  split at Jh
  · rename_i o ho
    refine Bs val dN R' (by rw[ho];rfl) (fun o' kV=>?_) hL hR hJ
    rw[ho] at kV
    injection kV with kV
    subst kV
    have OC: ∀bs,k5 bs o m.s=some (iu,vs bs):=fun bs=>by have:=hv bs;rw[ho] at this;exact this
    rintro bs a w ⟨pz,hn,hS⟩ K Q' hK
    have h1:=OC bs
    unfold k5 at h1
    unfold Oper.wp
    split at h1
    · rename_i f args su jx
      have jC:(execOp a.eval o).run C.P w=.ok (.enter iu (vs bs).toArray) w:=by
        split at h1
        · rename_i FT dc xs hf hx
          simp only[Option.some.injEq,Prod.mk.injEq] at h1
          obtain⟨rfl,h1⟩:=h1
          have e1:=jl pz hx
          have e2:args.map a.eval=(xs.map (den bs)).toArray:=by
            rw[←e1]
            apply Array.ext'
            simp
          have e3:=aV pz hf
          simp only[den] at e3
          unfold execOp
          simp only[jx,resolve,Sem.run_bind,e3,Deferred.ofValue,e2,Sem.run_pure,Result.andThen_ok,invoke,cH]
          rw[←h1]
          simp[xJ]
        · rename_i FT fs dc xs hf hx
          split at h1
          · rename_i OD
            simp only[Option.some.injEq,Prod.mk.injEq] at h1
            obtain⟨rfl,h1⟩:=h1
            have Ji:fs= #[]:=Array.ext' OD
            subst Ji
            have e1:=jl pz hx
            have e2:args.map a.eval=(xs.map (den bs)).toArray:=by
              rw[←e1]
              apply Array.ext'
              simp
            have e3:=aV pz hf
            simp only[den] at e3
            unfold execOp
            simp only[jx,resolve,Sem.run_bind,e3,Deferred.ofValue,e2,Sem.run_pure,Result.andThen_ok,invoke,cH]
            rw[←h1]
            simp
          · cases h1
        · cases h1
      rw[jC]
      refine Calls.mono (hc bs w hS) fun e w'=>?_
      rintro⟨y,rfl,h2⟩
      exact hK y w' h2
    · cases h1
  · cases Jh
theorem Mp {iu:Nat}{vs:List Nat→List Value}{v:Value}(J:JM C Q R0 R (nx C (iS m (.v v))))(cH: ∀args w,(callFunc iu args).run C.P w=.ok (.enter iu args) w)(hc: ∀bs w,WS C.m C.w0 bs m.s.loc R w→Calls C.P iu (vs bs).toArray w fun e w'=>e=.returned v∧Kp [] w w')(hR:R0.Sublist R:=by first|exact List.nil_sublist _|exact List.Sublist.refl _)(hv: ∀bs,vw C.n (k5 bs) m=some (iu,vs bs):=by intro bs;kernel_rfl)(hL:fJ m m.s.loc=fK m:=by kernel_rfl):JM C Q R0 R m:=
  om (fun _:Unit=>.v v) (fun _=>m.s.loc) (fun _=>R) cH (fun bs w hS=>(hc bs w hS).mono fun _ _ h=>⟨(),h.1,hS.pure h.2⟩) (fun _=>J) (fun _=>hL) (fun _=>hR) hv
theorem Mf {σ:Type}{iu:Nat}{vs:List Nat→List Value}{v:σ→Value}{F:σ→Prop}{r:σ→bz}(J: ∀y,F y→JM C Q R0 (r y::R) (nx C (iS m (.v (v y)))))(cH: ∀args w,(callFunc iu args).run C.P w=.ok (.enter iu args) w)(hc: ∀bs w,WS C.m C.w0 bs m.s.loc R w→Calls C.P iu (vs bs).toArray w fun e w'=> ∃y,e=.returned (v y)∧F y∧Kp [] w w'∧gC w w' (r y))(hR: ∀y,R0.Sublist (r y::R):=by intros;first|exact List.nil_sublist _|exact List.Sublist.cons _ (List.Sublist.refl _)|exact List.Sublist.refl _)(hv: ∀bs,vw C.n (k5 bs) m=some (iu,vs bs):=by intro bs;kernel_rfl)(hL:fJ m m.s.loc=fK m:=by kernel_rfl):JM C Q R0 R m:=
  om (σ:={ y:σ // F y }) (fun y=>.v (v y.1)) (fun _=>m.s.loc) (fun y=>r y.1::R) cH (fun bs w hS=>(hc bs w hS).mono fun _ _ ⟨y,h1,h2,h3,h4⟩=>⟨⟨y,h2⟩,h1,hS.fresh h3 (r y) h4.1 h4.2.1 h4.2.2⟩) (fun y=>J y.1 y.2) (fun _=>hL) (fun y=>hR y.1) hv
theorem Mu {σ:Type}[aJ σ]{iu:Nat}{vs:List Nat→List Value}{v:σ→Value}{F:σ→Prop}(J: ∀fp y,F y→aJ.ok y→JM C Q R0 (bF fp y::R) (nx C (iS m (.v (v y)))))(cH: ∀args w,(callFunc iu args).run C.P w=.ok (.enter iu args) w)(hc: ∀bs w,WS C.m C.w0 bs m.s.loc R w→Calls C.P iu (vs bs).toArray w fun e w'=> ∃y,e=.returned (v y)∧F y∧bJ w w' y)(hR: ∀fp (y:σ),R0.Sublist (bF fp y::R):=by intros;first|exact List.nil_sublist _|exact List.Sublist.cons _ (List.Sublist.refl _)|exact List.Sublist.refl _)(hv: ∀bs,vw C.n (k5 bs) m=some (iu,vs bs):=by intro bs;kernel_rfl)(hL:fJ m m.s.loc=fK m:=by kernel_rfl):JM C Q R0 R m:=
  om (σ:={ y:List Nat×σ // F y.2∧aJ.ok y.2 }) (fun y=>.v (v y.1.2)) (fun _=>m.s.loc) (fun y=>bF y.1.1 y.1.2::R) cH
    (fun bs w hS=>(hc bs w hS).mono fun _ _ ⟨y,h1,h2,h3,fp,h4⟩=>⟨⟨(fp,y),h2,aJ.bL h4.1⟩,h1,hS.fresh h3 (bF fp y) h4.1 h4.2.1 h4.2.2⟩) (fun y=>J y.1.1 y.1.2 y.2.1 y.2.2) (fun _=>hL) (fun y=>hR y.1.1 y.1.2) hv
theorem nF {σ:Type}{iu:Nat}{vs:List Nat→List Value}{v:σ→Value}{F:σ→Prop}{r0:bz}{r:σ→bz}(J: ∀y,F y→JM C Q R0 (r y::R) (nx C (iS m (.v (v y)))))(cH: ∀args w,(callFunc iu args).run C.P w=.ok (.enter iu args) w)(hc: ∀bs w,WS C.m C.w0 bs m.s.loc (r0::R) w→Calls C.P iu (vs bs).toArray w fun e w'=> ∃y,e=.returned (v y)∧F y∧dh r0 w w' (r y))(hR: ∀y,R0.Sublist (r y::R):=by intros;first|exact List.nil_sublist _|exact List.Sublist.cons _ (List.Sublist.refl _)|exact List.Sublist.refl _)(hv: ∀bs,vw C.n (k5 bs) m=some (iu,vs bs):=by intro bs;kernel_rfl)(hL:fJ m m.s.loc=fK m:=by kernel_rfl):JM C Q R0 (r0::R) m:=
  om (σ:={ y:σ // F y }) (fun y=>.v (v y.1)) (fun _=>m.s.loc) (fun y=>r y.1::R) cH (fun bs w hS=>(hc bs w hS).mono fun _ _ ⟨y,h1,h2,h3⟩=>⟨⟨y,h2⟩,h1,hS.turn h3.1 _ h3.2.1 h3.2.2.1 h3.2.2.2⟩) (fun y=>J y.1 y.2) (fun _=>hL) (fun y=>hR y.1) hv
theorem LD {iu:Nat}{vs:List Nat→List Value}{v:Value}{r0 r:bz}(J:Unit→True→JM C Q R0 (r::R) (nx C (iS m (.v v))))(cH: ∀args w,(callFunc iu args).run C.P w=.ok (.enter iu args) w)(hc: ∀bs w,WS C.m C.w0 bs m.s.loc (r0::R) w→Calls C.P iu (vs bs).toArray w fun e w'=>e=.returned v∧dh r0 w w' r)(hR:R0.Sublist (r::R):=by first|exact List.nil_sublist _|exact List.Sublist.cons _ (List.Sublist.refl _)|exact List.Sublist.refl _)(hv: ∀bs,vw C.n (k5 bs) m=some (iu,vs bs):=by intro bs;kernel_rfl)(hL:fJ m m.s.loc=fK m:=by kernel_rfl):JM C Q R0 (r0::R) m:=
  nF (σ:=Unit) (v:=fun _=>v) (F:=fun _=>True) (r:=fun _=>r) J cH (fun bs w h=>(hc bs w h).mono fun e w' ⟨h1,h2⟩=>⟨(),h1,trivial,h2⟩) (fun _=>hR) hv hL
theorem yJ {σ:Type}{iu b ty:Nat}{vs:List Nat→List Value}{v:σ→Value}{F:σ→Prop}{Qx:List Value}{cs:σ→List Value}(J: ∀y,F y→JM C Q R0 (bh b ty (cs y)::R) (nx C (iS m (.v (v y)))))(cH: ∀args w,(callFunc iu args).run C.P w=.ok (.enter iu args) w)(hc: ∀bs w,WS C.m C.w0 bs m.s.loc (bh b ty Qx::R) w→Calls C.P iu (vs bs).toArray w fun e w'=> ∃y,e=.returned (v y)∧F y∧Kp [b] w w'∧(bh b ty (cs y)).p w')(hR: ∀y,R0.Sublist (bh b ty (cs y)::R):=by intros;first|exact List.nil_sublist _|exact List.Sublist.cons _ (List.Sublist.refl _)|exact List.Sublist.refl _)(hv: ∀bs,vw C.n (k5 bs) m=some (iu,vs bs):=by intro bs;kernel_rfl)(hL:fJ m m.s.loc=fK m:=by kernel_rfl):JM C Q R0 (bh b ty Qx::R) m:=
  nF J cH (fun bs w h=>(hc bs w h).mono fun e w' ⟨y,h1,h2,h3,h4⟩=>⟨y,h1,h2,h3,h4,(by simp[bh]),fun x hx=>.inl hx⟩) hR hv hL
theorem Qy {σ:Type}{iu:Nat}{vs:List Nat→List Value}{v:σ→Value}{F:σ→Prop}{r0:bz}{r rn:σ→bz}(J: ∀y,F y→JM C Q R0 (rn y::r y::R) (nx C (iS m (.v (v y)))))(cH: ∀args w,(callFunc iu args).run C.P w=.ok (.enter iu args) w)(hc: ∀bs w,WS C.m C.w0 bs m.s.loc (r0::R) w→Calls C.P iu (vs bs).toArray w fun e w'=> ∃y,e=.returned (v y)∧F y∧jb r0 w w' (r y) (rn y))(hR: ∀y,R0.Sublist (rn y::r y::R):=by intros;first|exact List.nil_sublist _|exact List.Sublist.cons _ (List.Sublist.refl _)|exact List.Sublist.refl _)(hv: ∀bs,vw C.n (k5 bs) m=some (iu,vs bs):=by intro bs;kernel_rfl)(hL:fJ m m.s.loc=fK m:=by kernel_rfl):JM C Q R0 (r0::R) m:=
  om (σ:={ y:σ // F y }) (fun y=>.v (v y.1)) (fun _=>m.s.loc) (fun y=>rn y.1::r y.1::R) cH (fun bs w hS=>(hc bs w hS).mono fun _ _ ⟨y,h1,h2,h3⟩=>⟨⟨y,h2⟩,h1,hS.Lf h3⟩) (fun y=>J y.1 y.2) (fun _=>hL) (fun y=>hR y.1) hv
def Bx (m:eO)(i:Nat)(ty:Nat)(vs:List Value):List fq:=m.s.loc.set i ⟨ty,vs.map .v⟩
def Jj (m:eO)(x:SV)(i ty:Nat)(vs:List Value):eO:=G7 m x (Bx m i ty vs)
theorem By {m:List Nat}{w0:World}{bs:List Nat}{loc:List fq}{R:List bz}{w:World}(hS:WS m w0 bs loc R w){i ty:Nat}{vs:List Value}(hb:loc[i]? =some ⟨ty,vs.map .v⟩)(lr:vs.isEmpty=false):(bh (bs.getD i 0) ty vs).p w:=by
  have h:=hS.loc i _ hb (by cases vs<;>simp at lr⊢)
  have e:(vs.map SV.v).map (den bs)=vs:=by simp[Function.comp_def,den]
  rw[e] at h
  exact h
theorem x7 {b ty:Nat}{vs:List Value}{w:World}(h:(bh b ty vs).p w)(bs:List Nat):w.heap[b]? =some (.cells ((vs.map SV.v).map (den bs)).toArray ty (0,0)):=by
  have e:(vs.map SV.v).map (den bs)=vs:=by simp[Function.comp_def,den]
  rw[e]
  exact h
theorem Mo {σ:Type}{iu:Nat}{vs:List Nat→List Value}{v:σ→Value}{F:σ→Prop}(i:Nat){ty:Nat}{cs:List Value}{cs':σ→List Value}(J: ∀y,F y→JM C Q R0 R (nx C (Jj m (.v (v y)) i ty (cs' y))))(cH: ∀args w,(callFunc iu args).run C.P w=.ok (.enter iu args) w)(hc: ∀bs w,WS C.m C.w0 bs m.s.loc R w→(bh (bs.getD i 0) ty cs).p w→Calls C.P iu (vs bs).toArray w fun e w'=> ∃y,e=.returned (v y)∧F y∧Kp [bs.getD i 0] w w'∧(bh (bs.getD i 0) ty (cs' y)).p w')(hR:R0.Sublist R:=by first|exact List.nil_sublist _|exact List.Sublist.refl _)(hv: ∀bs,vw C.n (k5 bs) m=some (iu,vs bs):=by intro bs;kernel_rfl)(hb:(m.s.loc[i]?,cs.isEmpty)=(some ⟨ty,cs.map .v⟩,false):=by kernel_rfl)(hL: ∀y,fJ m (Bx m i ty (cs' y))=fK m:=by intro y;kernel_rfl):JM C Q R0 R m:=by
  simp only[Prod.mk.injEq] at hb
  refine om (σ:={ y:σ // F y }) (fun y=>.v (v y.1)) (fun y=>Bx m i ty (cs' y.1)) (fun _=>R) cH (fun bs w hS=>(hc bs w hS (By hS hb.1 hb.2)).mono fun _ _ ⟨y,h1,h2,h3,h4⟩=>⟨⟨y,h2⟩,h1,?_⟩) (fun y=>J y.1 y.2) (fun y=>hL y.1) (fun _=>hR) hv
  exact hS.Qf i _ hb.1 _ h3 (x7 h4 bs)
theorem Mon {σ:Type}{iu:Nat}{vs:List Nat→List Value}{v:σ→Value}{F:σ→Prop}(i:Nat){ty:Nat}{cs:List Value}{cs':σ→List Value}{r:σ→bz}(J: ∀y,F y→JM C Q R0 (r y::R) (nx C (Jj m (.v (v y)) i ty (cs' y))))(cH: ∀args w,(callFunc iu args).run C.P w=.ok (.enter iu args) w)(hc: ∀bs w,WS C.m C.w0 bs m.s.loc R w→(bh (bs.getD i 0) ty cs).p w→Calls C.P iu (vs bs).toArray w fun e w'=> ∃y,e=.returned (v y)∧F y∧jb (bh (bs.getD i 0) ty cs) w w' (bh (bs.getD i 0) ty (cs' y)) (r y))(hR: ∀y,R0.Sublist (r y::R):=by intros;first|exact List.nil_sublist _|exact List.Sublist.cons _ (List.Sublist.refl _)|exact List.Sublist.refl _)(hv: ∀bs,vw C.n (k5 bs) m=some (iu,vs bs):=by intro bs;kernel_rfl)(hb:(m.s.loc[i]?,cs.isEmpty)=(some ⟨ty,cs.map .v⟩,false):=by kernel_rfl)(hL: ∀y,fJ m (Bx m i ty (cs' y))=fK m:=by intro y;kernel_rfl):JM C Q R0 R m:=by
  simp only[Prod.mk.injEq] at hb
  refine om (σ:={ y:σ // F y }) (fun y=>.v (v y.1)) (fun y=>Bx m i ty (cs' y.1)) (fun y=>r y.1::R) cH (fun bs w hS=>(hc bs w hS (By hS hb.1 hb.2)).mono fun _ _ ⟨y,h1,h2,h3⟩=>⟨⟨y,h2⟩,h1,?_⟩) (fun y=>J y.1 y.2) (fun y=>hL y.1) (fun y=>hR y.1) hv
  obtain⟨h4,h5,h6,h7,_⟩:=h3
  exact hS.Jc i _ hb.1 _ h4.1 (x7 h4.2.1 bs) _ ⟨h5,h6,h7⟩
def Bz (o:Oper)(s:SS):Option (Value×List SV):=
  match o.op with
  | .call ⟨.value f,args,_⟩=>
    match ev s f,Cu s args.toList with
    |some (.v v),some xs=>some (v,xs)
    |_,_=>none
  |_=>none
theorem Mv {iu:Nat}{dc:Array Value}{vs:List Value}{v:Value}(J:JM C Q R0 R (nx C (iS m (.v v))))(cH: ∀args w,(callFunc iu args).run C.P w=.ok (.enter iu args) w)(hc: ∀bs w,WS C.m C.w0 bs m.s.loc R w→Calls C.P iu (vs.toArray++dc) w fun e w'=>e=.returned v∧Kp [] w w')(hR:R0.Sublist R:=by first|exact List.nil_sublist _|exact List.Sublist.refl _)(hv:vw C.n Bz m=some (.func (.func iu) #[] dc,vs.map .v):=by kernel_rfl)(hL:fJ m m.s.loc=fK m:=by kernel_rfl):JM C Q R0 R m:=by
  refine j6 (σ:=Unit) Bz _ hv (fun _=>.v v) (fun _=>m.s.loc) (fun _=>R) (fun o h=>?_) (fun _=>hL) (fun _=>hR) (fun _=>J)
  unfold Bz at h
  split at h
  · rename_i f args su jx
    split at h
    · rename_i fv xs hf hx
      simp only[Option.some.injEq,Prod.mk.injEq] at h
      obtain⟨rfl,rfl⟩:=h
      refine g5.as jx ?_
      rintro bs a w ⟨pz,hn,hS⟩ K Q' hK
      unfold Oper.wp
      have e1:=jl pz hx
      have e2:args.map a.eval=vs.toArray:=by
        apply Array.ext'
        rw[Array.toList_map,e1]
        simp[Function.comp_def,den]
      have e3:=aV pz hf
      simp only[den] at e3
      have jC:(execOp a.eval ⟨o.dst,.call ⟨.value f,args,su⟩,o.type,o.pos,o.after,o.guard⟩).run C.P w=.ok (.enter iu (vs.toArray++dc)) w:=by
        unfold execOp
        simp only[resolve,Sem.run_bind,e3,Deferred.ofValue,e2,Sem.run_pure,Result.andThen_ok,invoke,cH]
        simp
      rw[jC]
      refine Calls.mono (hc bs w hS) fun e w'=>?_
      rintro⟨rfl,hk⟩
      exact hK () w' (hS.pure hk)
    · cases h
  · cases h
theorem Mx {iu:Nat}{vs:List Nat→List Value}{v:Value}(J:JM C Q R0 R (nx C (iS m (.v v))))(jC: ∀bs w,WS C.m C.w0 bs m.s.loc R w→(callFunc iu (vs bs).toArray).run C.P w=.ok (.value v) w)(hR:R0.Sublist R:=by first|exact List.nil_sublist _|exact List.Sublist.refl _)(hv: ∀bs,vw C.n (k5 bs) m=some (iu,vs bs):=by intro bs;kernel_rfl)(hL:fJ m m.s.loc=fK m:=by kernel_rfl):JM C Q R0 R m:=by
  have Jh:=hv []
  unfold vw at hv Jh
  split at Jh
  · rename_i o ho
    refine Bs (fun _:Unit=>.v v) (fun _=>m.s.loc) (fun _=>R) (by rw[ho];rfl) (fun o' kV=>?_) (fun _=>hL) (fun _=>hR) (fun _=>J)
    rw[ho] at kV
    injection kV with kV
    subst kV
    have OC: ∀bs,k5 bs o m.s=some (iu,vs bs):=fun bs=>by have:=hv bs;rw[ho] at this;exact this
    rintro bs a w ⟨pz,hn,hS⟩ K Q' hK
    have h1:=OC bs
    have h:=jC bs w hS
    unfold k5 at h1
    unfold Oper.wp
    split at h1
    · rename_i f args su jx
      have hr:(execOp a.eval o).run C.P w=.ok (.value v) w:=by
        split at h1
        · rename_i FT dc xs hf hx
          simp only[Option.some.injEq,Prod.mk.injEq] at h1
          obtain⟨rfl,h1⟩:=h1
          have e1:=jl pz hx
          have e2:args.map a.eval=(xs.map (den bs)).toArray:=by
            rw[←e1]
            apply Array.ext'
            simp
          have e3:=aV pz hf
          simp only[den] at e3
          unfold execOp
          simp only[jx,resolve,Sem.run_bind,e3,Deferred.ofValue,e2,Sem.run_pure,Result.andThen_ok,invoke]
          have h':(callFunc FT ((xs.map (den bs)).toArray++(dc.map fun c=>Value.pointer (some (kv bs c.1 c.2))).toArray)).run C.P w=.ok (.value v) w:=by
            rw[←h1] at h
            simpa[xJ] using h
          simpa using h'
        · rename_i FT fs dc xs hf hx
          split at h1
          · rename_i OD
            simp only[Option.some.injEq,Prod.mk.injEq] at h1
            obtain⟨rfl,h1⟩:=h1
            have Ji:fs= #[]:=Array.ext' OD
            subst Ji
            have e1:=jl pz hx
            have e2:args.map a.eval=(xs.map (den bs)).toArray:=by
              rw[←e1]
              apply Array.ext'
              simp
            have e3:=aV pz hf
            simp only[den] at e3
            unfold execOp
            simp only[jx,resolve,Sem.run_bind,e3,Deferred.ofValue,e2,Sem.run_pure,Result.andThen_ok,invoke]
            have h':(callFunc FT ((xs.map (den bs)).toArray++dc)).run C.P w=.ok (.value v) w:=by
              rw[←h1] at h
              have e9:((xs.map (den bs))++dc.toList).toArray=(xs.map (den bs)).toArray++dc:=by apply Array.ext';simp
              rw[←e9]
              exact h
            simpa using h'
          · cases h1
        · cases h1
      rw[hr]
      exact hK () w hS
    · cases h1
  · cases Jh
def LF (P:Program)(n:Nat)(m:eO):Option eO:=
  match m with
  |⟨.ops all (o::r),K,s,k0,mk,kb⟩=>
    match qj P n all s .no o with
    |some (s',[],[])=>some ⟨.ops all r,K,s',k0,mk,rX kb all o⟩
    |_=>none
  |⟨.hw all q (.b i r .z),K,s,k0,mk,kb⟩=>
    match all[i]? with
    |some o=>match x4 P n all q r K s k0 mk kb o with
      |some (m',[],[])=>some m'
      |_=>none
    |none=>none
  |_=>none
def LG (C:Cx)(m:eO):eO:=
  match LF C.P C.n m with
  |some m'=>m'
  |none=>m
theorem M1 (J:JM C Q R0 R (nx C (LG C m)))(hR:R0.Sublist R:=by first|exact List.nil_sublist _|exact List.Sublist.refl _):JM C Q R0 R m:=by
  have xb:=dR hR J
  unfold LG at xb
  split at xb
  · rename_i m' h
    unfold LF at h
    split at h
    · rename_i all o r K s k0 mk kb
      split at h
      · rename_i s' nD
        injection h with h
        subst h
        have RU:JL C all (QK C.P Q K) R s' r:=xb
        intro a w Iz
        exact wpList_step fun K' hK=>sv C R all s s' _ o _ _ _ K' nD trivial (fun _ _ _=>trivial) (fun a w h=>hK a w (RU a w h)) a w Iz
      · cases h
    · rename_i all q i r K s k0 mk kb
      split at h
      · rename_i o nS
        split at h
        · rename_i m2 h2
          injection h with h
          subst h
          exact qF nS h2 hR xb
        · cases h
      · cases h
    · cases h
  · exact xb
def Ky (o:Oper)(s:SS):Option (Bool×Int×Int):=
  match o.op with
  | .call ⟨.builtin .min,args,_⟩=>
    match args.toList with
    |[x,y]=>match ev s x,ev s y with
      |some (.v (.int .i64 a)),some (.v (.int .i64 b))=>some (true,a,b)
      |_,_=>none
    |_=>none
  | .call ⟨.builtin .max,args,_⟩=>
    match args.toList with
    |[x,y]=>match ev s x,ev s y with
      |some (.v (.int .i64 a)),some (.v (.int .i64 b))=>some (false,a,b)
      |_,_=>none
    |_=>none
  |_=>none
theorem C0 {s:SS}{o:Oper}{x:SV}(h:mV C.P s .no o.op=some (x,[],[])):g5 C o R s (σ:=Unit) (fun _=>x) (fun _=>s.loc) (fun _=>R):=by
  rintro bs a w ⟨pz,hn,hS⟩ K Q' hK
  exact Oper.mz (l7 C.P o s .no x [] [] bs a w h trivial pz hS.loc trivial) (hK () w hS)
theorem uJ {a b v:Int}(J:JM C Q R0 R (nx C (iS m (vI v))))(hv:(if b<a then b else a)=v)(hR:R0.Sublist R:=by first|exact List.nil_sublist _|exact List.Sublist.refl _)(hx:vw C.n Ky m=some (true,a,b):=by kernel_rfl)(hL:fJ m m.s.loc=fK m:=by kernel_rfl):JM C Q R0 R m:=by
  refine j6 (σ:=Unit) Ky _ hx (fun _=>vI v) (fun _=>m.s.loc) (fun _=>R) (fun o h=>?_) (fun _=>hL) (fun _=>hR) (fun _=>J)
  unfold Ky at h
  split at h
  · rename_i args su jx
    split at h
    · rename_i x y hl
      split at h
      · rename_i a' b' h1 h2
        simp only[Option.some.injEq,Prod.mk.injEq,true_and] at h
        obtain⟨rfl,rfl⟩:=h
        refine C0 ?_
        rw[jx]
        simp only[mV,hl]
        simp only[h1,h2,hv]
      · cases h
    · cases h
  · split at h
    · split at h
      · simp at h
      · cases h
    · cases h
  · cases h
theorem OE {a b v:Int}(J:JM C Q R0 R (nx C (iS m (vI v))))(hv:(if b>a then b else a)=v)(hR:R0.Sublist R:=by first|exact List.nil_sublist _|exact List.Sublist.refl _)(hx:vw C.n Ky m=some (false,a,b):=by kernel_rfl)(hL:fJ m m.s.loc=fK m:=by kernel_rfl):JM C Q R0 R m:=by
  refine j6 (σ:=Unit) Ky _ hx (fun _=>vI v) (fun _=>m.s.loc) (fun _=>R) (fun o h=>?_) (fun _=>hL) (fun _=>hR) (fun _=>J)
  unfold Ky at h
  split at h
  · split at h
    · split at h
      · simp at h
      · cases h
    · cases h
  · rename_i args su jx
    split at h
    · rename_i x y hl
      split at h
      · rename_i a' b' h1 h2
        simp only[Option.some.injEq,Prod.mk.injEq,true_and] at h
        obtain⟨rfl,rfl⟩:=h
        refine C0 ?_
        rw[jx]
        simp only[mV,hl]
        simp only[h1,h2,hv]
      · cases h
    · cases h
  · cases h
end
end Go.Proofs.YtbjakddkfgjkaaaGreat.Fw
namespace Go.Proofs.YtbjakddkfgjkaaaGreat.Fw
open Go.RowKit
section
variable {C : Cx} {Q : Exit → Act → World → Prop} {R0 R : List bz} {m : eO}
theorem DN {α:Type}{a:Array α}{x y:α}(h:a.toList=[x,y]):a= #[x,y]:=Array.ext' h
theorem LH {α:Type}{a:Array α}{x:α}(h:a.toList=[x]):a= #[x]:=Array.ext' h
def Kz (P:Program)(b:Builtin)(o:Oper)(s:SS):Option (Nat×SV×SV):=
  match o.op with
  | .call ⟨.builtin b',args,su⟩=>
    bif decide (b'=b) then
      match args.toList,su.toList with
      |[X1,X2],[t,t2]=>
        match P.underlying t,ev s X1,ev s X2 with
        |some (.slice e),some x,some y=>bif Nat.beq t t2 then some (e,x,y) else none
        |_,_,_=>none
      |_,_=>none
    else none
  |_=>none
theorem tx {P:Program}{b:Builtin}{o:Oper}{s:SS}{e:Nat}{x y:SV}(h:Kz P b o s=some (e,x,y)):
    ∃X1 X2 t,o.op=.call ⟨.builtin b, #[X1,X2], #[t,t]⟩∧P.underlying t=some (.slice e)∧ev s X1=some x∧ev s X2=some y:=by
  unfold Kz at h
  split at h
  · rename_i b' args su jx
    by_cases hb:b'=b
    · subst hb
      simp only[decide_true,cond_true] at h
      split at h
      · rename_i X1 X2 t t2 ha ht
        split at h
        · rename_i e' x' y' hu h1 h2
          cases DO:Nat.beq t t2 with
          |false=>rw [DO] at h;cases h
          |true=>
            rw[DO] at h
            simp only[cond_true,Option.some.injEq,Prod.mk.injEq] at h
            obtain⟨rfl,rfl,rfl⟩:=h
            have RV:t=t2:=Nat.eq_of_beq_eq_true DO
            subst RV
            exact⟨X1,X2,t,by rw[jx,DN ha,DN ht],hu,h1,h2⟩
        · cases h
      · cases h
    · simp only[hb,decide_false,cond_false] at h;cases h
  · cases h
def xd:SV→Option (Option Addr×Nat)
  | .v (.slice A n _)=>some (A,n)
  |_=>none
def Jk (P:Program)(o:Oper)(s:SS):Option (Nat×SV×Option (Option Addr×Nat)):=
  match Kz P .append o s with
  |some (e,x,y)=>some (e,x,xd y)
  |none=>none
theorem Ma {α:Type}[aR α]{e:Nat}{A A2:Option Addr}{c n n2:Nat}{L L2:List α}(J: ∀A' c',JM C Q R0 (ay e A' c' (L++L2)::R) (nx C (iS m (.v (.slice A' (L++L2).length c')))))(bytes:Nat)(nE: ∀bs w,WS C.m C.w0 bs m.s.loc (ay e A c L::R) w→fx w A2 n2 (L2.flatMap aR.cells))(h63:L.length+L2.length≤9223372036854775807:=by first|omega|(simp only[List.length_nil,List.length_cons,List.length_append,List.length_take,List.length_drop,er];omega))(hb:(L.length+L2.length)*bytes≤140737488355328:=by first|omega|(simp only[List.length_nil,List.length_cons,List.length_append,List.length_take,List.length_drop,er];omega))(hn:L.length=n:=by rfl)(hn2:L2.length=n2:=by rfl)(hR: ∀A' c',R0.Sublist (ay e A' c' (L++L2)::R):=by intros;first|exact List.nil_sublist _|exact List.Sublist.cons _ (List.Sublist.refl _)|exact List.Sublist.refl _)(hv:vw C.n (Jk C.P) m=some (e,.v (.slice A n c),some (A2,n2)):=by kernel_rfl)(hi:kX C.P e (aR.size α) bytes=true:=by kernel_rfl)(hL:fJ m m.s.loc=fK m:=by kernel_rfl):JM C Q R0 (ay e A c L::R) m:=by
  subst hn hn2
  refine j6 (σ:=Option Addr×Nat) (Jk C.P) _ hv (fun y=>.v (.slice y.1 (L++L2).length y.2)) (fun _=>m.s.loc) (fun y=>ay e y.1 y.2 (L++L2)::R) (fun o h=>?_) (fun _=>hL) (fun y=>hR y.1 y.2) fun y=>J y.1 y.2
  unfold Jk at h
  split at h
  · rename_i e' x y h1
    simp only[Option.some.injEq,Prod.mk.injEq] at h
    obtain⟨rfl,rfl,hy⟩:=h
    unfold xd at hy
    split at hy
    · rename_i RW TD c2
      simp only[Option.some.injEq,Prod.mk.injEq] at hy
      obtain⟨rfl,rfl⟩:=hy
      obtain⟨X1,X2,t,jx,ht,pM,DP⟩:=tx h1
      exact g5.as jx (wx e' bytes A c L _ L2 ht hi pM DP (fun bs w hS=>⟨RW,c2,rfl,nE bs w hS⟩) h63 hb)
    · cases hy
  · cases h
def xe (P:Program)(o:Oper)(s:SS):Option (Nat×SV×List Value×Nat):=
  match Kz P .append o s with
  |some (e,x,.s i off k _)=>
    match s.loc[i]? with
    |some b=>match je ((b.cs.drop off).take (k*P.cellsOf e)) with
      |some vs=>some (e,x,vs,k)
      |none=>none
    |none=>none
  |_=>none
theorem gX {α:Type}[aR α]{e:Nat}{A:Option Addr}{c n:Nat}{L:List α}(bytes:Nat)(L2:List α)(J: ∀A' c',JM C Q R0 (ay e A' c' (L++L2)::R) (nx C (iS m (.v (.slice A' (L++L2).length c')))))(h63:L.length+L2.length≤9223372036854775807:=by first|omega|(simp only[List.length_nil,List.length_cons,List.length_append,List.length_take,List.length_drop,er];omega))(hb:(L.length+L2.length)*bytes≤140737488355328:=by first|omega|(simp only[List.length_nil,List.length_cons,List.length_append,List.length_take,List.length_drop,er];omega))(hn:L.length=n:=by rfl)(hR: ∀A' c',R0.Sublist (ay e A' c' (L++L2)::R):=by intros;first|exact List.nil_sublist _|exact List.Sublist.cons _ (List.Sublist.refl _)|exact List.Sublist.refl _)(hv:vw C.n (xe C.P) m=some (e,.v (.slice A n c),L2.flatMap aR.cells,L2.length):=by kernel_rfl)(hi:kX C.P e (aR.size α) bytes=true:=by kernel_rfl)(hL:fJ m m.s.loc=fK m:=by kernel_rfl):JM C Q R0 (ay e A c L::R) m:=by
  subst hn
  refine j6 (σ:=Option Addr×Nat) (xe C.P) _ hv (fun y=>.v (.slice y.1 (L++L2).length y.2)) (fun _=>m.s.loc) (fun y=>ay e y.1 y.2 (L++L2)::R) (fun o h=>?_) (fun _=>hL) (fun y=>hR y.1 y.2) fun y=>J y.1 y.2
  unfold xe at h
  split at h
  · rename_i e' x i off k c2 h1
    split at h
    · rename_i b AQ
      split at h
      · rename_i vs rE
        simp only[Option.some.injEq,Prod.mk.injEq] at h
        obtain⟨rfl,rfl,rfl,rfl⟩:=h
        obtain⟨X1,X2,t,jx,ht,pM,DP⟩:=tx h1
        refine g5.as jx (wx e' bytes A c L _ L2 ht hi pM DP (fun bs w hS=>?_) h63 hb)
        obtain⟨q1,q2,q3,q4⟩:=xK (i:=i) (off:=off) (k:=L2.length) (c:=c2) hS AQ rE
        exact⟨some q1,q2,q3,q4⟩
      · cases h
    · cases h
  · cases h
theorem NA {α:Type}[aR α]{e:Nat}{A:Option Addr}{c:Nat}{L:List α}(bytes i j:Nat)(J:JM C Q R0 (ay e A c (L.take i++L.drop j)::R) (nx C (iS m (.v (.slice A (i+(L.length - j)) c)))))(jf:i≤j)(hj:j≤L.length)(hR:R0.Sublist (ay e A c (L.take i++L.drop j)::R):=by first|exact List.nil_sublist _|exact List.Sublist.refl _)(hv:vw C.n (Kz C.P .append) m=some (e,.v (.slice A i c),.v (.slice (gA A c j (aR.size α)) (L.length - j) (c - j))):=by kernel_rfl)(hi:kX C.P e (aR.size α) bytes=true:=by kernel_rfl)(hL:fJ m m.s.loc=fK m:=by kernel_rfl):JM C Q R0 (ay e A c L::R) m:=by
  refine j6 (σ:=Unit) (Kz C.P .append) _ hv (fun _=>.v (.slice A (i+(L.length - j)) c)) (fun _=>m.s.loc) (fun _=>ay e A c (L.take i++L.drop j)::R) (fun o h=>?_) (fun _=>hL) (fun _=>hR) fun _=>J
  obtain⟨X1,X2,t,jx,ht,pM,DP⟩:=tx h
  refine g5.as jx (lx (σ:=Unit) [.v (.slice A i c),.v (.slice (gA A c j (aR.size α)) (L.length - j) (c - j))] _ _ _ (by simp[Cu,pM,DP]) fun bs w cs hS=>?_)
  obtain⟨w',h3,h4,h5⟩:=Ba (P:=C.P) (t:=t) (ty:=o.type) ht hi (hS.res _ (.head _)) i j jf hj
  refine⟨(),w',?_,hS.turn h4 _ h5 (by cases A<;>simp [ay,fI]) (fun b hb=>.inl hb)⟩
  show (builtin .append #[t,t] o.type cs #[Value.slice A i c,Value.slice (gA A c j (aR.size α)) (L.length - j) (c - j)]).run C.P w=_
  simp only[builtin,Sem.run_bind,h3]
  rfl
def Jl (P:Program)(o:Oper)(s:SS):Option (Nat×SV):=
  match o.op with
  | .call ⟨.builtin .clear,args,su⟩=>
    match args.toList,su.toList with
    |[X],[t]=>
      match P.underlying t,ev s X with
      |some (.slice e),some x=>some (e,x)
      |_,_=>none
    |_,_=>none
  |_=>none
theorem KA {α:Type}[aR α]{e:Nat}{A:Option Addr}{c:Nat}{L:List α}(o q:Nat)(J:JM C Q R0 (ay e A c (L.take o)::R) (nx C (iS m (.v (.tuple #[])))))(ho:o≤L.length)(hq:o+q≤c)(hR:R0.Sublist (ay e A c (L.take o)::R):=by first|exact List.nil_sublist _|exact List.Sublist.refl _)(hv:vw C.n (Jl C.P) m=some (e,.v (.slice (gA A c o (aR.size α)) q (c - o))):=by kernel_rfl)(hz:Fi C.P e (aR.size α)=true:=by kernel_rfl)(hL:fJ m m.s.loc=fK m:=by kernel_rfl):JM C Q R0 (ay e A c L::R) m:=by
  refine j6 (σ:=Unit) (Jl C.P) _ hv (fun _=>.v (.tuple #[])) (fun _=>m.s.loc) (fun _=>ay e A c (L.take o)::R) (fun op h=>?_) (fun _=>hL) (fun _=>hR) fun _=>J
  unfold Jl at h
  split at h
  · rename_i args su jx
    split at h
    · rename_i X t ha ht
      split at h
      · rename_i e' x hu hx
        simp only[Option.some.injEq,Prod.mk.injEq] at h
        obtain⟨rfl,rfl⟩:=h
        rw[LH ha,LH ht] at jx
        refine g5.as jx (lx (σ:=Unit) [.v (.slice (gA A c o (aR.size α)) q (c - o))] (fun _=>.v (.tuple #[])) (fun _=>m.s.loc) (fun _=>ay e' A c (L.take o)::R) (by simp[Cu,hx]) fun bs w cs hS=>?_)
        obtain⟨w',h1,h2,h3⟩:=Dx (P:=C.P) (t:=t) (ty:=op.type) hu hz (hS.res _ (.head _)) o q ho hq
        refine⟨(),w',?_,hS.turn h2 _ h3 (by cases A<;>simp [ay,fI]) (fun b hb=>.inl hb)⟩
        show (builtin .clear #[t] op.type cs #[Value.slice (gA A c o (aR.size α)) q (c - o)]).run C.P w=_
        simp only[builtin,Sem.run_bind,h1]
        rfl
      · cases h
    · cases h
  · cases h
def qJ (P:Program)(o:Oper)(s:SS):Option (Addr×List Value):=
  match o.op with
  | .store T A X=>
    match ev s A,ev s X with
    |some (.v (.pointer (some ad))),some sx=>
      match lu sx with
      |some cs=>match je cs with
        |some vs=>bif Nat.beq vs.length (P.cellsOf T) && (!Nat.beq (P.cellsOf T) 0 && vs.all Value.oneCell') then some (ad,vs) else none
        |none=>none
      |none=>none
    |_,_=>none
  |_=>none
theorem zM {P:Program}{o:Oper}{s:SS}{ad:Addr}{vs:List Value}(h:qJ P o s=some (ad,vs)):
    ∃T A X sx,o.op=.store T A X∧ev s A=some (.v (.pointer (some ad)))∧ev s X=some sx∧(∀bs,(den bs sx).cells.toList=vs)∧vs.length=P.cellsOf T∧P.cellsOf T≠0∧ ∀v,v∈vs→v.oneCell'=true:=by
  unfold qJ at h
  split at h
  · rename_i T A X jx
    split at h
    · rename_i Qz sx hA hx
      split at h
      · rename_i cs wj
        split at h
        · rename_i Ku rE
          cases hb:Nat.beq Ku.length (P.cellsOf T) && (!Nat.beq (P.cellsOf T) 0 && Ku.all Value.oneCell') with
          |false=>rw [hb] at h;cases h
          |true=>
            rw[hb] at h
            simp only[cond_true,Option.some.injEq,Prod.mk.injEq] at h
            obtain⟨rfl,rfl⟩:=h
            simp only[Bool.and_eq_true,Bool.not_eq_true'] at hb
            refine⟨T,A,X,sx,jx,hA,hx,fun bs=>by rw[ja bs wj,iw bs rE],Nat.eq_of_beq_eq_true hb.1,fun h0=>?_,fun v hv=>List.all_eq_true.1 hb.2.2 v hv⟩
            have:=hb.2.1
            rw[h0] at this
            cases this
        · cases h
      · cases h
    · cases h
  · cases h
def oo (C:Cx)(m:eO):List Value:=
  match vw C.n (qJ C.P) m with
  |some (_,vs)=>vs
  |none=>[]
def qK (C:Cx)(m:eO):Option Addr:=
  match vw C.n (qJ C.P) m with
  |some (ad,_)=>some ad
  |none=>none
theorem zN {ad:Addr}(h:qK C m=some ad):vw C.n (qJ C.P) m=some (ad,oo C m):=by
  unfold qK at h
  unfold oo
  split at h
  · rename_i Qz vs h1
    injection h with h
    subst h
    rw[h1]
  · cases h
theorem FU {α:Type}[aR α]{e:Nat}{A:Option Addr}{c:Nat}{L:List α}{s:SS}{o:Oper}{vs:List Value}(i off:Nat)(x:α)(h:qJ C.P o s=some (((xN A).add (i*aR.size α)).add off,vs))(hi:i<L.length)
    (nY:Nat.ble (off+vs.length) (aR.size α)=true) (hcell:setAt (aR.cells (L.getD i default)) off vs=aR.cells x):
    g5 C o (ay e A c L::R) s (σ:=Unit) (fun _=>.v undef) (fun _=>s.loc) (fun _=>ay e A c (L.set i x)::R):=by
  obtain⟨T,Ao,X,sx,jx,hA,hx,hv,hT,Hy,xP⟩:=zM h
  refine g5.as jx (CA _ sx (ay e A c (L.set i x)::R) hA hx fun bs w hS=>?_)
  obtain⟨w',h1,h2,h3⟩:=vF (P:=C.P) (hS.res _ (.head _)) T i off (den bs sx) vs x hi (hv bs) hT Hy xP (Nat.le_of_ble_eq_true nY) hcell
  exact⟨w',h1,hS.turn h2 _ h3 (by cases A<;>simp [ay,fI]) (fun b hb=>.inl hb)⟩
theorem Ms {α:Type}[aR α]{e:Nat}{A:Option Addr}{c:Nat}{L:List α}(i off:Nat){e0:α}(x:α)(J: ∀L2:List α,L2=L.set i x→L2.length=L.length→JM C Q R0 (ay e A c L2::R) (nx C (iS m (.v undef))))(hi:i<L.length)(hR: ∀L2:List α,R0.Sublist (ay e A c L2::R):=by intros;first|exact List.nil_sublist _|exact List.Sublist.cons _ (List.Sublist.refl _)|exact List.Sublist.refl _)(hv:qK C m=some (((xN A).add (i*aR.size α)).add off):=by kernel_rfl)(hg:L.getD i default=e0:=by rfl)(hcell:setAt (aR.cells e0) off (oo C m)=aR.cells x:=by kernel_rfl)(nY:Nat.ble (off+(oo C m).length) (aR.size α)=true:=by kernel_rfl)(hL:fJ m m.s.loc=fK m:=by kernel_rfl):JM C Q R0 (ay e A c L::R) m:=
  j6 (σ:=Unit) (qJ C.P) _ (zN hv) (fun _=>.v undef) (fun _=>m.s.loc) (fun _=>ay e A c (L.set i x)::R) (fun o h=>FU i off x h hi nY (by rw[hg];exact hcell)) (fun _=>hL) (fun _=>hR _) fun _=>J _ rfl (List.length_set ..)
theorem DQ {α:Type}{l vs:List α}(h:vs.length=l.length):setAt l 0 vs=vs:=by
  unfold setAt
  rw[List.take_zero,List.nil_append,Nat.zero_add,List.drop_eq_nil_of_le (by omega),List.append_nil]
theorem LI {α:Type}[aR α]{e:Nat}{A:Option Addr}{c:Nat}{L:List α}(i:Nat)(x:α)(J: ∀L2:List α,L2=L.set i x→L2.length=L.length→JM C Q R0 (ay e A c L2::R) (nx C (iS m (.v undef))))(hi:i<L.length)(hR: ∀L2:List α,R0.Sublist (ay e A c L2::R):=by intros;first|exact List.nil_sublist _|exact List.Sublist.cons _ (List.Sublist.refl _)|exact List.Sublist.refl _)(hv:qK C m=some ((xN A).add (i*aR.size α)):=by kernel_rfl)(hcell:oo C m=aR.cells x:=by kernel_rfl)(hL:fJ m m.s.loc=fK m:=by kernel_rfl):JM C Q R0 (ay e A c L::R) m:=by
  have Og:qK C m=some (((xN A).add (i*aR.size α)).add 0):=by rw[add_zero];exact hv
  refine Ms i 0 x J hi hR Og rfl ?_ ?_ hL
  · rw[hcell];exact DQ (by rw[aR.len,aR.len])
  · rw[hcell,aR.len,Nat.zero_add];exact Nat.ble_eq_true_of_le (Nat.le_refl _)
theorem FV {b ty:Nat}{vs us:List Value}{s:SS}{o:Oper}(off:Nat)(h:qJ C.P o s=some ((⟨b,0,none⟩:Addr).add off,us))(nY:Nat.ble (off+us.length) vs.length=true):
    g5 C o (bh b ty vs::R) s (σ:=Unit) (fun _=>.v undef) (fun _=>s.loc) (fun _=>bh b ty (setAt vs off us)::R):=by
  obtain⟨T,Ao,X,sx,jx,hA,hx,hv,hT,Hy,xP⟩:=zM h
  refine g5.as jx (CA _ sx (bh b ty (setAt vs off us)::R) hA hx fun bs w hS=>?_)
  obtain⟨w',h3,h4,h5⟩:=Bb (P:=C.P) (hS.res _ (.head _)) off us xP (Nat.le_of_ble_eq_true nY)
  refine⟨w',?_,hS.turn h4 _ h5 (by simp[bh]) (fun x hx=>.inl hx)⟩
  have lY:(den bs sx).cells.size=C.P.cellsOf T:=by rw[←Array.length_toList,hv,hT]
  rw[cz]
  simp only[storeVar,Sem.run_bind,cF C.P T w (dM Hy),Result.andThen_ok,lY,ne_eq,not_true_eq_false,if_false,hv]
  exact h3
theorem rz {b ty:Nat}{vs:List Value}(off:Nat)(Jm:List Value)(J:JM C Q R0 (bh b ty Jm::R) (nx C (iS m (.v undef))))(hR:R0.Sublist (bh b ty Jm::R):=by first|exact List.nil_sublist _|exact List.Sublist.refl _)(hv:qK C m=some ((⟨b,0,none⟩:Addr).add off):=by kernel_rfl)(h2:setAt vs off (oo C m)=Jm:=by kernel_rfl)(nY:Nat.ble (off+(oo C m).length) vs.length=true:=by kernel_rfl)(hL:fJ m m.s.loc=fK m:=by kernel_rfl):JM C Q R0 (bh b ty vs::R) m:=by
  subst h2
  exact j6 (σ:=Unit) (qJ C.P) _ (zN hv) (fun _=>.v undef) (fun _=>m.s.loc) (fun _=>bh b ty (setAt vs off (oo C m))::R) (fun o h=>FV off h nY) (fun _=>hL) (fun _=>hR) fun _=>J
def NB (n:Nat):eO→Option Oper
  |⟨.hw all _ (.x i _),_,s,_,_,kb⟩=>
    match all[i]? with
    |some o=>bif kW n o.dst && ready kb all o then (match gd all s o with|some true=>some o|_=>none) else none
    |none=>none
  |_=>none
def NC (m:eO):eO:=
  match m with
  |⟨.hw all q (.x i r),K,s,k0,mk,kb⟩=>⟨.hw all q (.b i r .z),K,s,k0,mk,kb⟩
  |m=>m
def LJ (m:eO)(x:SV):eO:=G7 (NC m) x m.s.loc
theorem HP {σ:Type}(R1:List bz)(val:σ→SV)(dN:σ→List fq)(R':σ→List bz)(ho:(NB C.n m).isSome=true)(hD: ∀o,NB C.n m=some o→g5 C o R m.s val dN R')
    (hL: ∀y,fJ m (dN y)=fK m) (hR: ∀y,R1.Sublist (R' y)) (hJ: ∀y,JM C Q R1 (R' y) (nx C (G7 (NC m) (val y) (dN y)))):JM C Q R0 R m:=by
  obtain⟨m4,K,s,k0,mk,kb⟩:=m
  have xb:=fun y=>dR (hR y) (hJ y)
  unfold NB at ho hD
  split at ho
  · rename_i all q i r K s k0 mk kb heq
    injection heq with e1 e2 e3 e4 e5 e6
    subst e1 e2 e3 e4 e5 e6
    split at ho
    · rename_i o nS
      cases hd:kW C.n o.dst && ready kb all o with
      |false=>rw [hd] at ho;cases ho
      |true=>
        have Lp:=(Bool.and_eq_true _ _▸hd:_∧_).1
        rw[hd] at ho
        simp only[cond_true] at ho
        split at ho
        · rename_i hg
          refine Fb val dN R' R1 (ck s.loc k0 mk) nS Lp hg (hD o (by simp only[nS,hd,cond_true,hg])) (fun gM bs y w hp hl hS=>?_) fun y=>?_
          · have h1:=hL y
            simp only[fJ,fK,Prod.mk.injEq] at h1
            exact hS.FK hp hl h1.1 h1.2 (hR y)
          · have h1:=hL y
            simp only[fJ,fK,Prod.mk.injEq] at h1
            have h2:=xb y
            simp only[NC,G7,nS] at h2
            have h3:JH C all (QK C.P Q K) R1 (ck (dN y) k0 mk) q r (R' y) ⟨jz s.env o.dst (val y),dN y⟩:=h2
            rw[h1.2] at h3
            exact h3
        · cases ho
    · cases ho
  · cases ho
def KB {α:Type}(n:Nat)(v:Oper→SS→Option α)(m:eO):Option α:=
  match NB n m with
  |some o=>v o m.s
  |none=>none
theorem FW {α σ:Type}(R1:List bz)(v:Oper→SS→Option α)(x:α)(hv:KB C.n v m=some x)(val:σ→SV)(dN:σ→List fq)(R':σ→List bz)(hD: ∀o,v o m.s=some x→g5 C o R m.s val dN R')
    (hL: ∀y,fJ m (dN y)=fK m) (hR: ∀y,R1.Sublist (R' y)) (hJ: ∀y,JM C Q R1 (R' y) (nx C (G7 (NC m) (val y) (dN y)))):JM C Q R0 R m:=by
  refine HP R1 val dN R' ?_ (fun o ho=>hD o ?_) hL hR hJ
  · unfold KB at hv
    split at hv
    · rename_i o ho;rw[ho];rfl
    · cases hv
  · unfold KB at hv
    rw[ho] at hv
    exact hv
def pN (C:Cx)(m:eO):List Value:=
  match KB C.n (qJ C.P) m with
  |some (_,vs)=>vs
  |none=>[]
def x8 (C:Cx)(m:eO):Option Addr:=
  match KB C.n (qJ C.P) m with
  |some (ad,_)=>some ad
  |none=>none
theorem xf {ad:Addr}(h:x8 C m=some ad):KB C.n (qJ C.P) m=some (ad,pN C m):=by
  unfold x8 at h
  unfold pN
  split at h
  · rename_i Qz vs h1
    injection h with h
    subst h
    rw[h1]
  · cases h
theorem RX {α:Type}[aR α]{e:Nat}{A:Option Addr}{c:Nat}{L:List α}(R1:List bz)(i off:Nat){e0:α}(x:α)(J: ∀L2:List α,L2=L.set i x→L2.length=L.length→JM C Q R1 (ay e A c L2::R) (nx C (LJ m (.v undef))))(hi:i<L.length)(hR: ∀L2:List α,R1.Sublist (ay e A c L2::R):=by intros;first|exact List.nil_sublist _|exact List.Sublist.cons _ (List.Sublist.refl _)|exact List.Sublist.refl _)(hv:x8 C m=some (((xN A).add (i*aR.size α)).add off):=by kernel_rfl)(hg:L.getD i default=e0:=by rfl)(hcell:setAt (aR.cells e0) off (pN C m)=aR.cells x:=by kernel_rfl)(nY:Nat.ble (off+(pN C m).length) (aR.size α)=true:=by kernel_rfl)(hL:fJ m m.s.loc=fK m:=by kernel_rfl):JM C Q R0 (ay e A c L::R) m:=
  FW (σ:=Unit) R1 (qJ C.P) _ (xf hv) (fun _=>.v undef) (fun _=>m.s.loc) (fun _=>ay e A c (L.set i x)::R) (fun o h=>FU i off x h hi nY (by rw[hg];exact hcell)) (fun _=>hL) (fun _=>hR _) fun _=>J _ rfl (List.length_set ..)
theorem FX {b ty:Nat}{vs:List Value}(R1:List bz)(off:Nat)(Jm:List Value)(J:JM C Q R1 (bh b ty Jm::R) (nx C (LJ m (.v undef))))(hR:R1.Sublist (bh b ty Jm::R):=by first|exact List.nil_sublist _|exact List.Sublist.refl _)(hv:x8 C m=some ((⟨b,0,none⟩:Addr).add off):=by kernel_rfl)(h2:setAt vs off (pN C m)=Jm:=by kernel_rfl)(nY:Nat.ble (off+(pN C m).length) vs.length=true:=by kernel_rfl)(hL:fJ m m.s.loc=fK m:=by kernel_rfl):JM C Q R0 (bh b ty vs::R) m:=by
  subst h2
  exact FW (σ:=Unit) R1 (qJ C.P) _ (xf hv) (fun _=>.v undef) (fun _=>m.s.loc) (fun _=>bh b ty (setAt vs off (pN C m))::R) (fun o h=>FV off h nY) (fun _=>hL) (fun _=>hR) fun _=>J
end
end Go.Proofs.YtbjakddkfgjkaaaGreat.Fw
namespace Go.Proofs.YtbjakddkfgjkaaaGreat.Fw
open Go.RowKit
theorem BA {α:Type}[aR α]{C:Cx}{R:List bz}{s:SS}{d:Option Nat}{ty:Nat}{pos:String}{AV:Array Edge}{g0:Option (Nat×Bool)}{X1 X2:Operand}{t tn:Nat}(e bytes:Nat)(A:Option Addr)(c:Nat)(L:List α)(i k:Nat)(ik:Int)
    (ht:C.P.underlying t=some (.slice e)) (RY:C.P.underlying tn=some (.int .i64)) (hi:kX C.P e (aR.size α) bytes=true)
    (h1:ev s X1=some (.v (.slice A i c))) (h2:ev s X2=some (.v (.int .i64 ik))) (hk:ik=(k:Int)) (h0:0<k) (IN:i≤L.length) (ND:c<i+k) (h63:i+k≤1048577) (LK:bytes≤1048576):
    g5 C ⟨d,.call ⟨.builtin .append, #[X1,X2], #[t,tn]⟩,ty,pos,AV,g0⟩ (ay e A c L::R) s (σ:={ y:Nat×Nat×List Value // i+k≤y.2.1∧y.2.1≤9223372036854775807∧((L.take i).flatMap aR.cells++y.2.2).length=y.2.1*aR.size α }) (fun y=>.v (.slice (some ⟨y.1.1,0,none⟩) (i+k) y.1.2.1)) (fun _=>s.loc) (fun y=>jY e (aR.size α) y.1.1 y.1.2.1 ((L.take i).flatMap aR.cells++y.1.2.2)::ay e A c L::R):=by
  subst hk
  refine lx (σ:={ y:Nat×Nat×List Value // i+k≤y.2.1∧y.2.1≤9223372036854775807∧((L.take i).flatMap aR.cells++y.2.2).length=y.2.1*aR.size α }) [.v (.slice A i c),.v (.int .i64 (k:Int))] _ _ _ (by simp[Cu,h1,h2]) fun bs w cs hS=>?_
  have AZ:=hi
  unfold kX at hi
  split at hi
  case h_2=>cases hi
  rename_i ii Fc
  simp only[Bool.and_eq_true] at hi
  obtain⟨⟨wo,E2⟩,yT⟩:=hi
  split at yT
  case h_2=>cases yT
  rename_i z hz
  have e1:ii.size=aR.size α:=Nat.eq_of_beq_eq_true wo
  have e2:ii.bytes=bytes:=Nat.eq_of_beq_eq_true E2
  have e3:z.cells.size=aR.size α:=Nat.eq_of_beq_eq_true yT
  have QA:((L.take i).flatMap aR.cells).length=i*aR.size α:=by rw[dO,List.length_take,Nat.min_eq_left IN]
  have nE:fx w.drew A i ((L.take i).flatMap aR.cells):=fx.tZ (mE (hS.pure (Kp.drawn [] w _)|>.res _ (.head _))) IN
  have hmul:(i+k)*bytes≤1048577*1048576:=Nat.mul_le_mul h63 LK
  have gU:(i+k)*bytes≤140737488355328:=Nat.le_trans hmul (by decide)
  have gT:k*bytes≤281474976710656:=Nat.le_trans (Nat.mul_le_mul_right _ (Nat.le_add_left k i)) (Nat.le_trans gU (by decide))
  have jC:=Go.Lib.run_append_grow_zeros (P:=C.P) w t tn ty e ii z .i64 .i64 ht RY Fc hz A i c ((L.take i).flatMap aR.cells) (by rw[e1];exact zb nE QA) k h0 (by rw[e1];exact aR.pos) ND (by omega) (by rw[e2];exact gT) (by rw[e2];exact growslice_fits ND gU)
  have OF:i+k≤grownCap w (i+k) c e:=grownCap_ge w _ _ _
  have QB:grownCap w (i+k) c e≤maxLen:=grownCap_le_maxLen w _ _ _ (by unfold maxLen;omega)
  have N5: ∀n,(Builtin.zeroCells z.cells n).size=n*aR.size α:=fun n=>by simp[Builtin.zeroCells,e3]
  have hlen:((L.take i).flatMap aR.cells++(Builtin.zeroCells z.cells k++Builtin.zeroCells z.cells (grownCap w (i+k) c e - (i+k))).toList).length=grownCap w (i+k) c e*aR.size α:=by
    rw[List.length_append,QA,Array.length_toList,Array.size_append,N5,N5, ←Nat.add_mul, ←Nat.add_mul]
    congr 1
    omega
  refine⟨⟨(w.heap.size,grownCap w (i+k) c e,(Builtin.zeroCells z.cells k++Builtin.zeroCells z.cells (grownCap w (i+k) c e - (i+k))).toList),OF,by unfold maxLen at QB;omega,hlen⟩,w.drew.alloc (.cells (((L.take i).flatMap aR.cells).toArray++Builtin.zeroCells z.cells k++Builtin.zeroCells z.cells (grownCap w (i+k) c e - (i+k))) e),?_,hS.fresh ((Kp.drawn [] w _).trans (Kp.alloc _ _)) _ ⟨?_,hlen,QB⟩ (by simp[jY]) ?_⟩
  · show (builtin .append #[t,tn] ty cs #[Value.slice A i c,.int .i64 (k:Int)]).run C.P w=_
    simp only[builtin,Sem.run_bind,jC]
    rfl
  · have h9:=heap_alloc_new w.drew (.cells (((L.take i).flatMap aR.cells).toArray++Builtin.zeroCells z.cells k++Builtin.zeroCells z.cells (grownCap w (i+k) c e - (i+k))) e)
    have e9:(((L.take i).flatMap aR.cells++(Builtin.zeroCells z.cells k++Builtin.zeroCells z.cells (grownCap w (i+k) c e - (i+k))).toList).toArray)=((L.take i).flatMap aR.cells).toArray++Builtin.zeroCells z.cells k++Builtin.zeroCells z.cells (grownCap w (i+k) c e - (i+k)):=by
      apply Array.ext'
      simp
    rw[e9]
    exact h9
  · intro b hb
    have AQ:b=w.heap.size:=by simpa[jY] using hb
    subst AQ
    exact⟨Nat.le_refl _,by have h8:=(Kp.alloc w.drew (.cells (((L.take i).flatMap aR.cells).toArray++Builtin.zeroCells z.cells k++Builtin.zeroCells z.cells (grownCap w (i+k) c e - (i+k))) e));show w.heap.size<_;simp[World.alloc]⟩
section
variable {C : Cx} {Q : Exit → Act → World → Prop} {R0 R : List bz} {m : eO}
def Jn (P:Program)(o:Oper)(s:SS):Option (Nat×Option (Option Addr×Nat)×Option (Option Addr×Nat)):=
  match o.op with
  | .call ⟨.builtin .copy,args,su⟩=>
    match args.toList,su.toList with
    |[X1,X2],[t,_]=>
      match P.underlying t,ev s X1,ev s X2 with
      |some (.slice e),some x,some y=>some (e,xd x,xd y)
      |_,_,_=>none
    |_,_=>none
  |_=>none
theorem xg {x:SV}{A:Option Addr}{n:Nat}(h:xd x=some (A,n)): ∃c,x=.v (.slice A n c):=by
  unfold xd at h
  split at h
  · rename_i c
    simp only[Option.some.injEq,Prod.mk.injEq] at h
    obtain⟨rfl,rfl⟩:=h
    exact⟨c,rfl⟩
  · cases h
theorem AR {e size g c:Nat}{cur:List Value}{A1 A2:Option Addr}{n1 k q:Nat}{vs:List Value}(bytes o:Nat)(J:JM C Q R0 (jY e size g c (setAt cur o vs)::R) (nx C (iS m (.v (goInt q)))))(RZ:A1=some ⟨g,o,none⟩)(hq:Nat.min k n1=q)(nE: ∀bs w,WS C.m C.w0 bs m.s.loc (jY e size g c cur::R) w→fx w A2 q vs)(hl:vs.length=q*size)(xP:vs.all Value.oneCell'=true)(AW:o+vs.length≤cur.length)(hR:R0.Sublist (jY e size g c (setAt cur o vs)::R):=by first|exact List.nil_sublist _|exact List.Sublist.refl _)(hv:vw C.n (Jn C.P) m=some (e,some (A1,n1),some (A2,k)):=by kernel_rfl)(hi:kX C.P e size bytes=true:=by kernel_rfl)(hL:fJ m m.s.loc=fK m:=by kernel_rfl):JM C Q R0 (jY e size g c cur::R) m:=by
  subst RZ hq
  refine j6 (σ:=Unit) (Jn C.P) _ hv (fun _=>.v (goInt (Nat.min k n1))) (fun _=>m.s.loc) (fun _=>jY e size g c (setAt cur o vs)::R) (fun op h=>?_) (fun _=>hL) (fun _=>hR) fun _=>J
  unfold Jn at h
  split at h
  · rename_i args su jx
    split at h
    · rename_i X1 X2 t t2 ha ht
      split at h
      · rename_i e' x y hu hx hy
        simp only[Option.some.injEq,Prod.mk.injEq] at h
        obtain⟨rfl,h1,h2⟩:=h
        obtain⟨c1,rfl⟩:=xg h1
        obtain⟨c2,rfl⟩:=xg h2
        rw[DN ha,DN ht] at jx
        refine g5.as jx (lx (σ:=Unit) [.v (.slice (some ⟨g,o,none⟩) n1 c1),.v (.slice A2 k c2)] _ _ _ (by simp[Cu,hx,hy]) fun bs w cs hS=>?_)
        obtain⟨h3,h4⟩:=za hi
        obtain⟨w',h5,h6,h7⟩:=Fm (P:=C.P) (t2:=t2) (ty:=op.type) (hS.res _ (.head _)) hu h3 h4 o n1 c1 A2 k c2 vs (nE bs w hS) hl (fun v hv=>List.all_eq_true.1 xP v hv) AW
        refine⟨(),w',?_,hS.turn h6 _ h7 (by simp[jY]) (fun b hb=>.inl hb)⟩
        show (builtin .copy #[t,t2] op.type cs #[Value.slice (some ⟨g,o,none⟩) n1 c1,.slice A2 k c2]).run C.P w=_
        simp only[builtin,Sem.run_bind,h5]
        rfl
      · cases h
    · cases h
  · cases h
theorem QC {e size n c k:Nat}{A:Option Addr}{xs:List Value}(bytes:Nat)(vs:List Value)(J: ∀A' c',JM C Q R0 (fI e size A' (n+k) c' (xs++vs)::R) (nx C (iS m (.v (.slice A' (n+k) c')))))(hl:vs.length=k*size:=by rfl)(xP:vs.all Value.oneCell'=true:=by kernel_rfl)(h63:n+k≤maxLen:=by unfold maxLen;omega)(hb:(n+k)*bytes≤140737488355328:=by omega)(lY:0<size:=by omega)(hR: ∀r:bz,R0.Sublist (r::R):=by intros;first|exact List.nil_sublist _|exact List.Sublist.cons _ (List.Sublist.refl _)|exact List.Sublist.refl _)(hv:vw C.n (xe C.P) m=some (e,.v (.slice A n c),vs,k):=by kernel_rfl)(hi:kX C.P e size bytes=true:=by kernel_rfl)(hL:fJ m m.s.loc=fK m:=by kernel_rfl):JM C Q R0 (fI e size A n c xs::R) m:=by
  refine j6 (σ:=Option Addr×Nat) (xe C.P) _ hv (fun y=>.v (.slice y.1 (n+k) y.2)) (fun _=>m.s.loc) (fun y=>fI e size y.1 (n+k) y.2 (xs++vs)::R) (fun o h=>?_) (fun _=>hL) (fun _=>hR _) fun y=>J y.1 y.2
  unfold xe at h
  split at h
  · rename_i e' x i off k' c2 h1
    split at h
    · rename_i b AQ
      split at h
      · rename_i Ku rE
        simp only[Option.some.injEq,Prod.mk.injEq] at h
        obtain⟨rfl,rfl,rfl,rfl⟩:=h
        obtain⟨X1,X2,t,jx,ht,pM,DP⟩:=tx h1
        refine g5.as jx (lx (σ:=Option Addr×Nat) [.v (.slice A n c),.s i off k' c2] _ _ _ (by simp[Cu,pM,DP]) fun bs w cs hS=>?_)
        obtain⟨q1,q2,q3,q4⟩:=xK (i:=i) (off:=off) (k:=k') (c:=c2) hS AQ rE
        obtain⟨A',c',w',h3,h4⟩:=tT t o.type e' size bytes A n c xs hS ht hi lY q1 k' q2 Ku hl q4 xP h63 hb
        refine⟨(A',c'),w',?_,h4⟩
        have e1:([SV.v (.slice A n c),.s i off k' c2].map (den bs))=[Value.slice A n c,.slice (some q1) k' q2]:=by rw[List.map_cons,List.map_cons,q3];rfl
        rw[e1]
        simp only[builtin,Sem.run_bind]
        rw[h3]
        rfl
      · cases h
    · cases h
  · cases h
def Jo (P:Program)(o:Oper)(s:SS):Option (Nat×Nat×Nat×SV×SV):=
  match o.op with
  | .call ⟨.builtin .append,args,su⟩=>
    match args.toList,su.toList with
    |[X1,X2],[t,tn]=>
      match P.underlying t,P.underlying tn,ev s X1,ev s X2 with
      |some (.slice e),some (.int .i64),some x,some y=>some (e,t,tn,x,y)
      |_,_,_,_=>none
    |_,_=>none
  |_=>none
theorem HQ {α:Type}[aR α]{e:Nat}{A:Option Addr}{c:Nat}{L:List α}(t tn bytes i k:Nat)(J: ∀g2 c2 zs,i+k≤c2→c2≤9223372036854775807→((L.take i).flatMap aR.cells++zs).length=c2*aR.size α→JM C Q R0 (jY e (aR.size α) g2 c2 ((L.take i).flatMap aR.cells++zs)::ay e A c L::R) (nx C (iS m (.v (.slice (some ⟨g2,0,none⟩) (i+k) c2)))))(ik:Int)(hk:ik=(k:Int))(h0:0<k)(IN:i≤L.length)(ND:c<i+k)(h63:i+k≤1048577)(LK:bytes≤1048576)(hR: ∀r:bz,R0.Sublist (r::ay e A c L::R):=by intros;first|exact List.nil_sublist _|exact List.Sublist.cons _ (List.Sublist.refl _)|exact List.Sublist.refl _)(hv:vw C.n (Jo C.P) m=some (e,t,tn,.v (.slice A i c),vI ik):=by kernel_rfl)(hi:kX C.P e (aR.size α) bytes=true:=by kernel_rfl)(hL:fJ m m.s.loc=fK m:=by kernel_rfl):JM C Q R0 (ay e A c L::R) m:=by
  refine j6 (σ:={ y:Nat×Nat×List Value // i+k≤y.2.1∧y.2.1≤9223372036854775807∧((L.take i).flatMap aR.cells++y.2.2).length=y.2.1*aR.size α }) (Jo C.P) _ hv (fun y=>.v (.slice (some ⟨y.1.1,0,none⟩) (i+k) y.1.2.1)) (fun _=>m.s.loc) (fun y=>jY e (aR.size α) y.1.1 y.1.2.1 ((L.take i).flatMap aR.cells++y.1.2.2)::ay e A c L::R) (fun op h=>?_) (fun _=>hL) (fun y=>hR _) fun y=>J y.1.1 y.1.2.1 y.1.2.2 y.2.1 y.2.2.1 y.2.2.2
  unfold Jo at h
  split at h
  · rename_i args su jx
    split at h
    · rename_i X1 X2 t' R2 ha ht
      split at h
      · rename_i e' x y hu Hr hx hy
        simp only[Option.some.injEq,Prod.mk.injEq] at h
        obtain⟨rfl,rfl,rfl,rfl,rfl⟩:=h
        rw[DN ha,DN ht] at jx
        refine g5.as jx ?_
        rintro bs a w iN K Q' hK
        have hd:g5 C ⟨op.dst,.call ⟨.builtin .append, #[X1,X2], #[t',R2]⟩,op.type,op.pos,op.after,op.guard⟩ (ay e' A c L::R) m.s (σ:={ y:Nat×Nat×List Value // i+k≤y.2.1∧y.2.1≤9223372036854775807∧((L.take i).flatMap aR.cells++y.2.2).length=y.2.1*aR.size α }) (fun y=>.v (.slice (some ⟨y.1.1,0,none⟩) (i+k) y.1.2.1)) (fun _=>m.s.loc) (fun y=>jY e' (aR.size α) y.1.1 y.1.2.1 ((L.take i).flatMap aR.cells++y.1.2.2)::ay e' A c L::R):=
          BA e' bytes A c L i k ik hu Hr hi hx hy hk h0 IN ND h63 LK
        exact hd bs a w iN K Q' hK
      · cases h
    · cases h
  · cases h
def Jp (P:Program)(o:Oper)(s:SS):Option (Nat×SV×SV×SV×SV):=
  match o.op with
  | .slice T X (some Lo) (some Hi) (some Mx)=>
    match P.underlying T,ev s X,ev s Lo,ev s Hi,ev s Mx with
    |some (.slice e),some x,some lo,some hi,some mx=>bif Nat.beq (P.cellsOf e) 0 then none else some (e,x,lo,hi,mx)
    |_,_,_,_,_=>none
  |_=>none
theorem NF {e:Nat}{A:Option Addr}{n c:Nat}(l h mx:Nat)(J:JM C Q R0 R (nx C (iS m (.v (.slice (if mx=l then A else A.map (·.add (l*C.P.cellsOf e))) (h - l) (mx - l)))))){il ih im:Int}(el:il=(l:Int))(eh:ih=(h:Int))(em:im=(mx:Int))(h1:l≤h)(h2:h≤mx)(h3:mx≤c)(hR:R0.Sublist R:=by first|exact List.nil_sublist _|exact List.Sublist.refl _)(hv:vw C.n (Jp C.P) m=some (e,.v (.slice A n c),vI il,vI ih,vI im):=by kernel_rfl)(hL:fJ m m.s.loc=fK m:=by kernel_rfl):JM C Q R0 R m:=by
  subst el eh em
  refine j6 (σ:=Unit) (Jp C.P) _ hv (fun _=>.v (.slice (if mx=l then A else A.map (·.add (l*C.P.cellsOf e))) (h - l) (mx - l))) (fun _=>m.s.loc) (fun _=>R) (fun op hh=>?_) (fun _=>hL) (fun _=>hR) fun _=>J
  unfold Jp at hh
  split at hh
  · rename_i T X Lo Hi Mx jx
    split at hh
    · rename_i e' x lo hi TE ht hx rD KC HR
      cases hc:Nat.beq (C.P.cellsOf e') 0 with
      |true=>rw [hc] at hh;cases hh
      |false=>
        rw[hc] at hh
        simp only[cond_false,Option.some.injEq,Prod.mk.injEq] at hh
        obtain⟨rfl,rfl,rfl,rfl,rfl⟩:=hh
        refine g5.as jx ?_
        rintro bs a w ⟨pz,hn,hS⟩ K Q' hK
        have R3:C.P.cellsOf e'≠0:=fun h=>by rw[h] at hc;cases hc
        have jC:(execOp a.eval ⟨op.dst,.slice T X (some Lo) (some Hi) (some Mx),op.type,op.pos,op.after,op.guard⟩).run C.P w=.ok (.value (.slice (if mx=l then A else A.map (·.add (l*C.P.cellsOf e'))) (h - l) (mx - l))) w:=by
          unfold execOp
          simp[aV pz hx,aV pz rD,aV pz KC,aV pz HR,den,Instr.sliceAt,run_underlying ht,Instr.slice,Instr.sliceBounds,Instr.sliceBound,asIntOf,cF C.P e' w (dM R3),h1,h2,h3]
        exact Oper.mz jC (hK () w hS)
    · cases hh
  · cases hh
def BB (P:Program)(o:Oper)(s:SS):Option (TypeDesc×TypeDesc×SV):=
  match o.op with
  | .convert S D X=>
    match P.underlying S,P.underlying D,ev s X with
    |some a,some b,some x=>some (a,b,x)
    |_,_,_=>none
  |_=>none
theorem uK {P:Program}{o:Oper}{s:SS}{a b:TypeDesc}{x:SV}(h:BB P o s=some (a,b,x)): ∃S D X,o.op=.convert S D X∧P.underlying S=some a∧P.underlying D=some b∧ev s X=some x:=by
  unfold BB at h
  split at h
  · rename_i S D X jx
    split at h
    · rename_i a' b' x' h1 h2 h3
      simp only[Option.some.injEq,Prod.mk.injEq] at h
      obtain⟨rfl,rfl,rfl⟩:=h
      exact⟨S,D,X,jx,h1,h2,h3⟩
    · cases h
  · cases h
theorem R4 {eS n c:Nat}{A:Option Addr}(ns:List Int)(J:JM C Q R0 R (nx C (iS m (.v (.string (cP ns))))))(nE: ∀bs w,WS C.m C.w0 bs m.s.loc R w→ ∃a,A=some a∧bq w a (ns.map (Value.int .u8)))(hn:ns.length=n:=by rfl)(hR:R0.Sublist R:=by first|exact List.nil_sublist _|exact List.Sublist.refl _)(hv:vw C.n (BB C.P) m=some (.slice eS,.string,.v (.slice A n c)):=by kernel_rfl)(he:C.P.underlying eS=some (.int .u8):=by kernel_rfl)(hL:fJ m m.s.loc=fK m:=by kernel_rfl):JM C Q R0 R m:=by
  subst hn
  refine j6 (σ:=Unit) (BB C.P) _ hv (fun _=>.v (.string (cP ns))) (fun _=>m.s.loc) (fun _=>R) (fun op h=>?_) (fun _=>hL) (fun _=>hR) fun _=>J
  obtain⟨S,D,X,jx,hS,hD,hx⟩:=uK h
  refine g5.as jx (rF (σ:=Unit) _ _ _ _ hx fun bs w oH=>?_)
  obtain⟨a,rfl,hc⟩:=nE bs w oH
  exact⟨(),w,mA S D eS a _ c ns hS he hD rfl hc,oH⟩
def Jq (P:Program)(o:Oper)(s:SS):Option (Nat×TypeDesc×Nat×List Value):=
  match BB P o s with
  |some (.slice e,b,.s i off k _)=>
    match s.loc[i]? with
    |some bl=>match je ((bl.cs.drop off).take k) with
      |some vs=>some (e,b,k,vs)
      |none=>none
    |none=>none
  |_=>none
theorem DR {eS:Nat}(ns:List Int)(J:JM C Q R0 R (nx C (iS m (.v (.string (cP ns))))))(hR:R0.Sublist R:=by first|exact List.nil_sublist _|exact List.Sublist.refl _)(hv:vw C.n (Jq C.P) m=some (eS,.string,ns.length,ns.map (Value.int .u8)):=by kernel_rfl)(he:C.P.underlying eS=some (.int .u8):=by kernel_rfl)(hL:fJ m m.s.loc=fK m:=by kernel_rfl):JM C Q R0 R m:=by
  refine j6 (σ:=Unit) (Jq C.P) _ hv (fun _=>.v (.string (cP ns))) (fun _=>m.s.loc) (fun _=>R) (fun op h=>?_) (fun _=>hL) (fun _=>hR) fun _=>J
  unfold Jq at h
  split at h
  · rename_i e b i off k c h1
    split at h
    · rename_i bl hb
      split at h
      · rename_i vs rE
        simp only[Option.some.injEq,Prod.mk.injEq] at h
        obtain⟨rfl,rfl,rfl,rfl⟩:=h
        obtain⟨S,D,X,jx,hS,hD,hx⟩:=uK h1
        refine g5.as jx (rF (σ:=Unit) _ _ _ _ hx fun bs w oH=>?_)
        obtain⟨q1,q2,q3,q4⟩:=xK (i:=i) (off:=off) (k:=ns.length) (c:=c) oH hb rE
        exact⟨(),w,by rw[q3];exact mA S D e q1 _ q2 ns hS he hD rfl q4,oH⟩
      · cases h
    · cases h
  · cases h
theorem R5 {e:Nat}{str:ByteArray}(J: ∀fp (y:Sl UInt8),y.xs=str.data.toList→aJ.ok y→JM C Q R0 (bF fp y::R) (nx C (iS m (.v y.val))))(hlen:str.size≤maxLen)(hR: ∀fp (y:Sl UInt8),R0.Sublist (bF fp y::R):=by intros;first|exact List.nil_sublist _|exact List.Sublist.cons _ (List.Sublist.refl _)|exact List.Sublist.refl _)(hv:vw C.n (BB C.P) m=some (.string,.slice e,vS str):=by kernel_rfl)(he:C.P.underlying e=some (.int .u8):=by kernel_rfl)(hL:fJ m m.s.loc=fK m:=by kernel_rfl):JM C Q R0 R m:=by
  refine j6 (σ:={ y:List Nat×Sl UInt8 // y.2.xs=str.data.toList∧aJ.ok y.2 }) (BB C.P) _ hv (fun y=>.v y.1.2.val) (fun _=>m.s.loc) (fun y=>bF y.1.1 y.1.2::R) (fun op h=>?_) (fun _=>hL) (fun y=>hR y.1.1 y.1.2) fun y=>J y.1.1 y.1.2 y.2.1 y.2.2
  obtain⟨S,D,X,jx,hS,hD,hx⟩:=uK h
  exact g5.as jx (rF (σ:={ y:List Nat×Sl UInt8 // y.2.xs=str.data.toList∧aJ.ok y.2 }) _ (fun y=>.v y.1.2.val) (fun _=>m.s.loc) (fun y=>bF y.1.1 y.1.2::R) hx fun bs w oH=>by
    obtain⟨y,h1,h2,h3,fp,h4⟩:=xL w S D e str hS hD he hlen
    exact⟨⟨(fp,y),h1,aJ.bL h4.1⟩,_,h2,oH.fresh h3 (bF fp y) h4.1 h4.2.1 h4.2.2⟩)
def FY (P:Program)(o:Oper)(s:SS):Option (Nat×Nat×List Value):=
  match o.op with
  | .buildSlice T n parts=>
    match P.underlying T with
    |some (.slice e)=>
      match ix s (P.cellsOf e) 0 parts.toList with
      |some cs=>match je cs with
        |some vs=>bif Nat.beq parts.size n && (!Nat.beq (P.cellsOf e) 0 && (Nat.ble n 65536 && Nat.ble (P.cellsOf e) 256)) then some (e,n,vs) else none
        |none=>none
      |none=>none
    |_=>none
  |_=>none
theorem QD {α:Type}[aR α]{e:Nat}(L:List α)(J: ∀A,JM C Q R0 (ay e A L.length L::R) (nx C (iS m (.v (.slice A L.length L.length)))))(hR: ∀r:bz,R0.Sublist (r::R):=by intros;first|exact List.nil_sublist _|exact List.Sublist.cons _ (List.Sublist.refl _)|exact List.Sublist.refl _)(hv:vw C.n (FY C.P) m=some (e,L.length,L.flatMap aR.cells):=by kernel_rfl)(E5:((fV C.P e).map List.length)=some (C.P.cellsOf e):=by kernel_rfl)(hL:fJ m m.s.loc=fK m:=by kernel_rfl):JM C Q R0 R m:=by
  refine j6 (σ:=Option Addr) (FY C.P) _ hv (fun A=>.v (.slice A L.length L.length)) (fun _=>m.s.loc) (fun A=>ay e A L.length L::R) (fun op h=>?_) (fun _=>hL) (fun _=>hR _) fun A=>?_
  · unfold FY at h
    split at h
    · rename_i T n' parts jx
      split at h
      · rename_i e' ht
        split at h
        · rename_i cs wj
          split at h
          · rename_i vs rE
            cases hb:Nat.beq parts.size n' && (!Nat.beq (C.P.cellsOf e') 0 && (Nat.ble n' 65536 && Nat.ble (C.P.cellsOf e') 256)) with
            |false=>rw [hb] at h;cases h
            |true=>
              rw[hb] at h
              simp only[cond_true,Option.some.injEq,Prod.mk.injEq] at h
              obtain⟨rfl,rfl,rfl⟩:=h
              simp only[Bool.and_eq_true,Bool.not_eq_true'] at hb
              refine g5.as jx ?_
              exact Ff e' L cs ht hb.2.1 hb.2.2.1 hb.2.2.2 E5 wj (Nat.eq_of_beq_eq_true hb.1) rE rfl
          · cases h
        · cases h
      · cases h
    · cases h
  · exact J A
theorem DS {α:Type}[aR α]{e:Nat}(L:List α)(J: ∀y:Sl α,y.xs=L→y.ok→JM C Q R0 (ay e y.A y.c y.xs::R) (nx C (iS m (.v (.slice y.A y.n y.c)))))(sS: ∀x,x∈L→ ∀w,aJ.sub bH w x)(hR: ∀r:bz,R0.Sublist (r::R):=by intros;first|exact List.nil_sublist _|exact List.Sublist.cons _ (List.Sublist.refl _)|exact List.Sublist.refl _)(hv:vw C.n (FY C.P) m=some (e,L.length,L.flatMap aR.cells):=by kernel_rfl)(E5:((fV C.P e).map List.length)=some (C.P.cellsOf e):=by kernel_rfl)(hL:fJ m m.s.loc=fK m:=by kernel_rfl):JM C Q R0 R m:=
  QD L (fun A=>bk (F:=Sl.ok (⟨A,L.length,L⟩:Sl α)) (fun bs w hS=>Hv (hS.res _ (.head _)) fun x hx=>sS x hx w) fun R6=>J ⟨A,L.length,L⟩ rfl R6) hR hv E5 hL
theorem LM {α:Type}[aR α]{e:Nat}(J: ∀A,JM C Q R0 (ay e A 0 ([]:List α)::R) (nx C (iS m (.v (.slice A ([]:List α).length 0)))))(hR: ∀r:bz,R0.Sublist (r::R):=by intros;first|exact List.nil_sublist _|exact List.Sublist.cons _ (List.Sublist.refl _)|exact List.Sublist.refl _)(hv:vw C.n (FY C.P) m=some (e,([]:List α).length,[]):=by kernel_rfl)(E5:((fV C.P e).map List.length)=some (C.P.cellsOf e):=by kernel_rfl)(hL:fJ m m.s.loc=fK m:=by kernel_rfl):JM C Q R0 R m:=
  QD (α:=α) [] J hR hv E5 hL
def Jr (P:Program)(o:Oper):Nat:=
  match o.op with
  | .load _ _=>2
  | .move _| .assign _| .pick _ _ _| .binOp _ _ _ _ _| .unOp _ _ _| .fieldAddr _ _ _| .field _ _ _| .indexAddr _ _ _| .index _ _ _| .extract _ _| .slice _ _ _ _ _| .nilCheck _| .build _ _| .makeFunc _ _ _=>1
  | .convert S D _=>match P.underlying S,P.underlying D with
    |some (.int _),some (.int _)=>1
    |_,_=>0
  | .call ⟨.builtin b,_,_⟩=>match b with
    | .len| .cap| .min| .max=>1
    |_=>0
  |_=>0
def x9 (P:Program)(ops:Array Oper)(q:Nat)(X:List Nat):List Nat→Option (Nat×Nat)
  |[]=>none
  |i::r=>match ops[i]? with
    |some o=>match Jr P o with
      |0=>x9 P ops q X r
      |k+1=>bif Nat.blt i q && !X.any (Nat.beq (i+1000)) then some (i,k) else x9 P ops q X r
    |none=>x9 P ops q X r
def xh (P:Program)(ops:Array Oper)(q:Nat)(X:List Nat):Nat→Array Bool→Tr
  |0,_=>.nil
  |f+1,bo=>
    let rd:=Region.ready .any ops bo
    match x9 P ops q X rd with
    |some (i,0)=>.p i (xh P ops q X f (bo.setIfInBounds i true))
    |some (i,_)=>.q i (xh P ops q X f (bo.setIfInBounds i true))
    |none=>match rd with
      |[]=>.nil
      |[i]=>bif X.any (Nat.beq i) then .x i (xh P ops q X f (bo.setIfInBounds i true)) else .b i (xh P ops q X f (bo.setIfInBounds i true)) .z
      |l=>l.foldr (fun i t=>.b i (xh P ops q X f (bo.setIfInBounds i true)) t) .z
def FZ (P:Program)(m:eO)(q:Nat)(X:List Nat):Tr:=
  match m.m4 with
  | .code (.region _ ops true)=>xh P ops q X q (Array.replicate ops.size false)
  |_=>.nil
def IP (P:Program)(m:eO)(q:Nat)(X mk:List Nat):eO:=IM m q (FZ P m q X) mk
theorem cZ (q:Nat)(X:List Nat)(mk:List Nat)(R0:List bz)(hm:C.P.follows .mixedOrders=true){fn:Func}{R':Ending→World→Prop}(J:JM C (bodyPost C.P fn R') R0 R (nx C (IP C.P m q X mk)))(hR:R0.Sublist R:=by first|exact List.Sublist.refl _|exact List.nil_sublist _)(h:x6 m q (X.filter fun i=>Nat.blt i 1000) (FZ C.P m q X)=true:=by kernel_rfl):JM C (bodyPost C.P fn R') [] R m:=Mw q (X.filter fun i=>Nat.blt i 1000) _ mk R0 hm J hR h
theorem fP (q:Nat){fn:Func}{R':Ending→World→Prop}(J:JM C (bodyPost C.P fn R') R R (nx C (IP C.P m q [] [])))(hm:C.P.follows .mixedOrders=true)(h:x6 m q [] (FZ C.P m q [])=true:=by kernel_rfl):JM C (bodyPost C.P fn R') [] R m:=cZ q [] [] R hm J (List.Sublist.refl _) h
end
end Go.Proofs.YtbjakddkfgjkaaaGreat.Fw
namespace Go.Proofs.YtbjakddkfgjkaaaGreat.Fw
open Go.RowKit
structure Pk (C:Cx) (R:List bz) (hs:List (Nat×Hint)) (iL:List Prop) (ec:List (Addr×List Value)):Prop where
  ho: ∀w,Kp C.m C.w0 w→(∀r,r∈R→r.p w)→jX iL
  hw: ∀w,Kp C.m C.w0 w→(∀r,r∈R→r.p w)→nB w ec
section
variable {C : Cx} {Q : Exit → Act → World → Prop} {R0 R : List bz} {m : eO}
theorem pc {h1 h2:List (Nat×Hint)}{o1 o2:List Prop}{w1 w2:List (Addr×List Value)}(a:Pk C R h1 o1 w1)(b:Pk C R h2 o2 w2):Pk C R (h1++h2) (o1++o2) (w1++w2):=
  ⟨fun w hk hr=>nN.2 ⟨a.ho w hk hr,b.ho w hk hr⟩,fun w hk hr=>g8.2 ⟨a.hw w hk hr,b.hw w hk hr⟩⟩
theorem Mi {hs:List (Nat×Hint)}(J:JM C Q R0 R (nx C (rO C hs m).1)){iL:List Prop}{ec:List (Addr×List Value)}(p:Pk C R hs iL ec)(hR:R0.Sublist R:=by first|exact List.nil_sublist _|exact List.Sublist.refl _)(h:(rO C hs m).2=(iL,ec):=by kernel_rfl):JM C Q R0 R m:=
  bk (F:=jX iL) (fun bs w hS=>p.ho w hS.kp hS.res) fun ho=>Mr hs ho (fun w hk hr=>p.hw w hk hr) hR h J
theorem bY {hs:List (Nat×Hint)}(J:JM C Q R0 R (nx C (rH C hs m).1)){iL:List Prop}{ec:List (Addr×List Value)}(p:Pk C R0 hs iL ec)(hR:R0.Sublist R:=by first|exact List.nil_sublist _|exact List.Sublist.refl _)(h:(rH C hs m).2=(iL,ec):=by kernel_rfl):JM C Q R0 R m:=
  bk (F:=jX iL) (fun bs w hS=>p.ho w hS.kp (fun r hr=>hS.res r (hR.subset hr))) fun ho=>Mh hs ho (fun w hk hr=>p.hw w hk hr) hR h J
theorem pR (x:Int)(h:ln x:=by unfold ln;omega):Pk C R [] [ln x] []:=⟨fun _ _ _=>⟨h,trivial⟩,fun _ _ _=>trivial⟩
theorem pP (p:Prop)(h:p:=by omega):Pk C R [] [p] []:=⟨fun _ _ _=>⟨h,trivial⟩,fun _ _ _=>trivial⟩
theorem pG (hs:List (Nat×Hint)){iL:List Prop}(h:jX iL):Pk C R hs iL []:=⟨fun _ _ _=>h,fun _ _ _=>trivial⟩
theorem pI {α:Type}[aR α]{B:Nat→Prop}{s:Sl α}(t:Nat)(z:Int)(i:Nat)(rd: ∀w,Kp C.m C.w0 w→(∀r,r∈R→r.p w)→s.rd B w)(hi:i<s.n:=by omega)(hz:z=(i:Int):=by first|rfl|omega):Pk C R [(t,.idx s.ad i)] [s.A=some s.ad,z=(i:Int),i<s.n] []:=
  ⟨fun w hk hr=>⟨(rd w hk hr).ok.own hi,hz,hi,trivial⟩,fun _ _ _=>trivial⟩
theorem QE {α:Type}[aR α]{B:Nat→Prop}{s:Sl α}(t:Nat)(z:Int)(i n:Nat)(rd: ∀w,Kp C.m C.w0 w→(∀r,r∈R→r.p w)→s.rd B w)(hi:i<n:=by omega)(hn:n≤s.n:=by omega)(hz:z=(i:Int):=by first|rfl|omega):Pk C R [(t,.idx s.ad i)] [s.A=some s.ad,z=(i:Int),i<n] []:=
  ⟨fun w hk hr=>⟨(rd w hk hr).ok.own (Nat.lt_of_lt_of_le hi hn),hz,hi,trivial⟩,fun _ _ _=>trivial⟩
theorem pE {α:Type}[aR α]{B:Nat→Prop}{s:Sl α}(t:Nat)(i:Nat)(rd: ∀w,Kp C.m C.w0 w→(∀r,r∈R→r.p w)→s.rd B w)(hi:i<s.n:=by omega):Pk C R [(t,.ext (aR.cells (s.at i)))] [] [(s.ad.add (i*aR.size α),aR.cells (s.at i))]:=
  ⟨fun _ _ _=>trivial,fun w hk hr=>⟨(rd w hk hr).get hi,trivial⟩⟩
theorem pF {α:Type}[aR α]{B:Nat→Prop}{s:Sl α}(t:Nat)(i off n:Nat)(rd: ∀w,Kp C.m C.w0 w→(∀r,r∈R→r.p w)→s.rd B w)(hi:i<s.n:=by omega):Pk C R [(t,.ext (((aR.cells (s.at i)).drop off).take n))] [] [((s.ad.add (i*aR.size α)).add off,((aR.cells (s.at i)).drop off).take n)]:=
  ⟨fun _ _ _=>trivial,fun w hk hr=>⟨(rd w hk hr).RK hi off n rfl,trivial⟩⟩
theorem pA {α:Type}[aR α]{B:Nat→Prop}{s:Sl α}(t t2:Nat)(z:Int)(i:Nat)(rd: ∀w,Kp C.m C.w0 w→(∀r,r∈R→r.p w)→s.rd B w)(hi:i<s.n:=by omega)(hz:z=(i:Int):=by first|rfl|omega):Pk C R [(t,.idx s.ad i),(t2,.ext (aR.cells (s.at i)))] [s.A=some s.ad,z=(i:Int),i<s.n] [(s.ad.add (i*aR.size α),aR.cells (s.at i))]:=
  ⟨fun w hk hr=>⟨(rd w hk hr).ok.own hi,hz,hi,trivial⟩,fun w hk hr=>⟨(rd w hk hr).get hi,trivial⟩⟩
theorem fG {α:Type}[aR α]{e:Nat}{A:Option Addr}{c:Nat}{L:List α}(t:Nat)(z:Int)(i:Nat)(n:Nat)(mem:ay e A c L∈R)(hi:i<L.length:=by omega)(hz:z=(i:Int):=by first|rfl|omega)(hn:i<n:=by omega):Pk C R [(t,.idx (xN A) i)] [A=some (xN A),z=(i:Int),i<n] []:=
  ⟨fun w hk hr=>⟨yV (hr _ mem) hi,hz,hn,trivial⟩,fun _ _ _=>trivial⟩
theorem C1 {α:Type}[aR α]{e:Nat}{A:Option Addr}{c:Nat}{L:List α}(t:Nat)(i:Nat)(mem:ay e A c L∈R)(hi:i<L.length:=by omega):Pk C R [(t,.ext (aR.cells (L.getD i default)))] [] [((xN A).add (i*aR.size α),aR.cells (L.getD i default))]:=
  ⟨fun _ _ _=>trivial,fun w hk hr=>⟨xO (hr _ mem) hi,trivial⟩⟩
theorem lg {α:Type}[aR α]{e:Nat}{A:Option Addr}{c:Nat}{L:List α}(t:Nat)(i off n:Nat)(mem:ay e A c L∈R)(hi:i<L.length:=by omega):Pk C R [(t,.ext (((aR.cells (L.getD i default)).drop off).take n))] [] [(((xN A).add (i*aR.size α)).add off,((aR.cells (L.getD i default)).drop off).take n)]:=
  ⟨fun _ _ _=>trivial,fun w hk hr=>⟨(xO (hr _ mem) hi).part off n,trivial⟩⟩
theorem NG {α:Type}[aR α]{e:Nat}{A:Option Addr}{c:Nat}{L:List α}{x:α}(t:Nat)(i:Nat)(hx:L.getD i default=x)(mem:ay e A c L∈R)(hi:i<L.length:=by omega):Pk C R [(t,.ext (aR.cells x))] [] [((xN A).add (i*aR.size α),aR.cells x)]:=by
  subst hx
  exact C1 t i mem hi
theorem l5 {α:Type}[aR α]{e:Nat}{A:Option Addr}{c:Nat}{L:List α}{x:α}(t:Nat)(i off n:Nat)(hx:L.getD i default=x)(mem:ay e A c L∈R)(hi:i<L.length:=by omega):Pk C R [(t,.ext (((aR.cells x).drop off).take n))] [] [(((xN A).add (i*aR.size α)).add off,((aR.cells x).drop off).take n)]:=by
  subst hx
  exact lg t i off n mem hi
theorem nI {b ty:Nat}{vs:List Value}(t:Nat)(off n:Nat)(mem:bh b ty vs∈R):Pk C R [(t,.ext ((vs.drop off).take n))] [] [((⟨b,0,none⟩:Addr).add off,(vs.drop off).take n)]:=
  ⟨fun _ _ _=>trivial,fun w hk hr=>⟨(l9 (hr _ mem)).part off n,trivial⟩⟩
theorem pX {a:Addr}(t:Nat)(vs:List Value)(h: ∀w,Kp C.m C.w0 w→(∀r,r∈R→r.p w)→bq w a vs):Pk C R [(t,.ext vs)] [] [(a,vs)]:=⟨fun _ _ _=>trivial,fun w hk hr=>⟨h w hk hr,trivial⟩⟩
end
theorem db {α:Type}[aR α]{B:Nat→Prop}{s:Sl α}{P:Program}{n:Nat}{w0:World}{R:List bz}(h:s.rd B w0): ∀w,Kp (Cx.mk P n [] w0).m (Cx.mk P n [] w0).w0 w→(∀r,r∈R→r.p w)→s.rd B w:=fun _ hk _=>h.kp hk
theorem WS.rZ {m:List Nat}{w0:World}{bs:List Nat}{loc:List fq}{R:List bz}{w w':World}(h:WS m w0 bs loc R w)(i:Nat)(hk:Kp [bs.getD i 0] w w')(hb:loc[i]?.isSome=true:=by kernel_rfl): ∀r,r∈R→r.p w':=by
  obtain⟨b,hb⟩:=Option.isSome_iff_exists.1 hb
  exact h.Ou hb hk
end Go.Proofs.YtbjakddkfgjkaaaGreat.Fw
namespace Go.Proofs.YtbjakddkfgjkaaaGreat.Fw
open Go.RowKit
structure vM where
  cM:aT
  out:List bg
  deriving Inhabited
structure jO where
  cM:aw
  out:Sl bg
  deriving Inhabited
def jO.abs (x:jO):vM:={ cM:=x.cM.abs,out:=x.out.xs }
instance:aR jO where
  sub B w x:=x.cM.snap.size≤9223372036854775807∧x.cM.log.entries.rd B w∧x.cM.state.aj.rd B w∧x.cM.state.an.rd B w∧x.cM.state.af.rd B w∧x.out.rd B w
  stay:=fun {B w w' x} hs ⟨h0,h1,h2,h3,h4,h5⟩=>⟨h0,Sl.rd.stay h1 hs,Sl.rd.stay h2 hs,Sl.rd.stay h3 hs,Sl.rd.stay h4 hs,Sl.rd.stay h5 hs⟩
  wide:=fun {B B' w x} hs ⟨h0,h1,h2,h3,h4,h5⟩=>⟨h0,Sl.rd.wide h1 hs,Sl.rd.wide h2 hs,Sl.rd.wide h3 hs,Sl.rd.wide h4 hs,Sl.rd.wide h5 hs⟩
  ok x:=x.cM.snap.size≤9223372036854775807∧x.cM.log.entries.ok∧x.cM.state.aj.ok∧x.cM.state.an.ok∧x.cM.state.af.ok∧x.out.ok
  small x:=aJ.small x.cM.log.entries∧aJ.small x.cM.state.aj∧aJ.small x.cM.state.an∧aJ.small x.cM.state.af∧aJ.small x.out
  bL:=fun {B w x} ⟨h0,h1,h2,h3,h4,h5⟩=>⟨h0,Sl.rd.ok h1,Sl.rd.ok h2,Sl.rd.ok h3,Sl.rd.ok h4,Sl.rd.ok h5⟩
  size:=8
  bytes:=152
  pos:=by decide
  cells x:=[.int .i64 x.cM.log.base,.slice x.cM.log.entries.A x.cM.log.entries.n x.cM.log.entries.c,.string x.cM.snap,.int .i64 x.cM.state.index,.slice x.cM.state.aj.A x.cM.state.aj.n x.cM.state.aj.c,.slice x.cM.state.an.A x.cM.state.an.n x.cM.state.an.c,.slice x.cM.state.af.A x.cM.state.af.n x.cM.state.af.c,.slice x.out.A x.out.n x.out.c]
  len _:=rfl
  one _:=rfl
abbrev jO.val (x:jO):Value:=.agg #[.int .i64 x.cM.log.base,.slice x.cM.log.entries.A x.cM.log.entries.n x.cM.log.entries.c,.string x.cM.snap,.int .i64 x.cM.state.index,.slice x.cM.state.aj.A x.cM.state.aj.n x.cM.state.aj.c,.slice x.cM.state.an.A x.cM.state.an.n x.cM.state.an.c,.slice x.cM.state.af.A x.cM.state.af.n x.cM.state.af.c,.slice x.out.A x.out.n x.out.c]
def eD (z:aN)(o:Option (List Nat×aN)):aN:=match o with
  |none=>z
  |some p=>p.2
def F0 (o:Option (List Nat×aN)):bz:=match o with
  |none=>CD
  |some p=>bF p.1 p.2
theorem F1 {z:aN}{o:Option (List Nat×aN)}{B:Nat→Prop}{w:World}(h:aJ.sub B w z)(h2:(F0 o).p w):aJ.sub bH w (eD z o):=by
  cases o with
  |none=>exact aJ.wide (fun _ _=>trivial) h
  |some p=>exact aJ.wide (fun _ _=>trivial) (show aJ.sub (· ∈p.1) w p.2 from h2)
theorem ya {R:List bz}{z:aN}{o:Option (List Nat×aN)}{w:World}(h:aJ.sub (· ∈(cN R).fp) w z)(ho:F0 o∈R)(hR: ∀r,r∈R→r.p w):aJ.sub (· ∈(cN R).fp) w (eD z o):=by
  cases o with
  |none=>exact h
  |some p=>exact aJ.wide (fun b hb=>fi ho hb) (show aJ.sub (· ∈p.1) w p.2 from hR _ ho)
def tz (s:aZ):Prop:=(∀p,p∈s.an→p.value.size≤9223372036854775807)∧ ∀x,x∈s.af→ ∀k,k∈x.ab→k.aE.text.size≤9223372036854775807
theorem zO {z:aN}(h:aJ.ok z):tz z.abs:=by
  refine⟨fun p hp=>fZ (P:=fun p:aG=>p.value.size≤9223372036854775807) (fun j hj=>(h.2.1.2.2 j hj).2.2) p hp,fun x hx k hk=>?_⟩
  obtain⟨c,hc,rfl⟩:=List.mem_map.1 hx
  obtain⟨j,hj,rfl⟩:=List.mem_iff_getElem.1 hc
  have h1:Sl.ok (z.af.at j).ab:=(h.2.2.2.2 j hj).2
  have e:z.af.at j=z.af.xs[j]:=by unfold Sl.at;rw[List.getD_eq_getElem?_getD,List.getElem?_eq_getElem hj];rfl
  rw[e] at h1
  exact fZ (P:=fun k:aK=>k.aE.text.size≤9223372036854775807) (fun i hi=>(h1.2.2 i hi).2) k hk
theorem DT {d:az}{c:aF}(h: ∀k,k∈d.ab→k.aE.text.size≤9223372036854775807):(rR d c).1.text.size≤9223372036854775807:=by
  unfold rR
  split
  · exact Nat.zero_le _
  split
  · by_cases hj:(ld (kZ d c) c.seq).toNat<(kZ d c).length
    · exact h _ (List.mem_filter.1 (aB hj)).1
    · rw[List.getD_eq_getElem?_getD,List.getElem?_eq_none (by omega)]
      exact Nat.zero_le _
  split
  · exact Nat.zero_le _
  · exact Nat.zero_le _
theorem zP {l:List az}{index:Int}{c:aF}(h: ∀x,x∈l→ ∀k,k∈x.ab→k.aE.text.size≤9223372036854775807):(dn l index c).2.1.text.size≤9223372036854775807:=by
  unfold dn
  split
  · exact Nat.zero_le _
  split
  · exact Nat.zero_le _
  split
  · exact Nat.zero_le _
  · refine DT fun k hk=>?_
    by_cases hj:(ef l c.ag).toNat<l.length
    · exact h _ (aB hj) k hk
    · rw[List.getD_eq_getElem?_getD,List.getElem?_eq_none (by omega)] at hk
      exact absurd hk (List.not_mem_nil)
theorem BC (l:List az)(i c:Int):(dg l i c).2.1.text=emp:=by
  unfold dg
  repeat' split
  all_goals rfl
theorem zQ (l:List az)(i c:Int):(dB l i c).2.1.text=emp:=by
  unfold dB
  repeat' split
  all_goals rfl
theorem BD {s:aZ}{x:az}(h:x∈cx s):x∈s.af:=by
  unfold cx lJ at h
  split at h
  · exact (List.mem_filter.1 h).1
  · exact absurd h List.not_mem_nil
theorem sH {s:aZ}(h:tz s)(t:ByteArray):(bS s t).2.1.text.size≤9223372036854775807:=by
  have e0:emp.size=0:=rfl
  unfold bS
  split
  · exact Nat.zero_le _
  split
  · exact Nat.zero_le _
  split
  · exact Nat.zero_le _
  show (cX s (aq t).1).2.text.size≤_
  unfold cX
  split
  · show (dg _ _ _).2.1.text.size≤_;rw[BC,e0];omega
  split
  · show (dB _ _ _).2.1.text.size≤_;rw[zQ,e0];omega
  split
  · exact zI h.1 _ _
  · exact zP fun x hx=>h.2 x (BD hx)
theorem qO {s:aZ}{t:ByteArray}(h:(bS s t).2.2=0):(bS s t).1.index=s.index+1:=by
  unfold bS at h⊢
  split
  · rename_i h1;rw[if_pos h1] at h;exact absurd h h1
  rename_i h1
  rw[if_neg h1] at h
  split
  · rename_i h2;rw[if_pos h2] at h;cases h
  rename_i h2
  rw[if_neg h2] at h
  split
  · rename_i h3;rw[if_pos h3] at h;exact absurd h h3
  show (cX s (aq t).1).1.index=_
  unfold cX
  repeat' split
  all_goals rfl
theorem F2 (E:List ByteArray)(n k:Nat)(s:aZ)(out:List bg):jh E (n+1) k s out=if ¬(bS s (E.getD k default)).2.2=0 then (cR,[],(bS s (E.getD k default)).2.2) else jh E n (k+1) (bS s (E.getD k default)).1 (out++[⟨(aq (E.getD k default)).1.ag,(aq (E.getD k default)).1.seq,(bS s (E.getD k default)).2.1⟩]):=rfl
def BE (E:List ByteArray)(N k0:Nat)(s0:aZ)(k:Nat)(s:aZ)(out:List bg):Prop:=
  jh E (N - k) (k0+k) s out=jh E N k0 s0 []∧s.index=s0.index+(k:Int)∧out.length=k∧ ∀m,m∈out→m.aE.text.size≤9223372036854775807
theorem F3 (E:List ByteArray)(N k0:Nat)(s0:aZ):BE E N k0 s0 0 s0 []:=⟨rfl,by simp,rfl,fun _ h=>absurd h List.not_mem_nil⟩
theorem xi {E:List ByteArray}{N k0 k:Nat}{s0 s z:aZ}{out:List bg}{t:ByteArray}(hI:BE E N k0 s0 k s out)(hk:k<N)(ht:E.getD (k0+k) default=t)(h:(bS s t).2.2=0)(ho:tz s)(hz:z=(bS s t).1):
    BE E N k0 s0 (k+1) z (out++[⟨(aq t).1.ag,(aq t).1.seq,(bS s t).2.1⟩]):=by
  subst hz
  obtain⟨h1,h2,h3,h4⟩:=hI
  refine⟨?_,by rw[qO h,h2];omega,by simp[h3],fun m hm=>?_⟩
  · rw[←h1,show N - k=(N - (k+1))+1 by omega]
    rw[F2,ht,if_neg (fun q=>q h),Nat.add_assoc]
  · rcases List.mem_append.1 hm with hm|hm
    · exact h4 m hm
    · rw[List.mem_singleton.1 hm];exact sH ho t
theorem zR {E:List ByteArray}{N k0 k:Nat}{s0 s:aZ}{out:List bg}{t:ByteArray}(hI:BE E N k0 s0 k s out)(hk:k<N)(ht:E.getD (k0+k) default=t)(h: ¬(bS s t).2.2=0):jh E N k0 s0 []=(cR,[],(bS s t).2.2):=by
  rw[←hI.1,show N - k=(N - (k+1))+1 by omega,F2,ht,if_pos h]
theorem uL {E:List ByteArray}{N k0 k:Nat}{s0 s:aZ}{out:List bg}(hI:BE E N k0 s0 k s out)(hk:k=N):jh E N k0 s0 []=(s,out,0):=by
  rw[←hI.1,hk,Nat.sub_self];rfl
theorem zS {r:aT}{u:Int}(h: ¬a6 r=0):cB r u=(dA,[],a6 r):=by unfold cB;rw[if_pos h]
theorem uM {r:aT}{u:Int}(h:a6 r=0)(h1:u<0∨1073741824<u):cB r u=(dA,[],2):=by unfold cB;rw[if_neg (fun q=>q h),if_pos h1]
theorem zT {r:aT}{u:Int}(h:a6 r=0)(h1: ¬(u<0∨1073741824<u)){E:List ByteArray}{N k0:Nat}{s0:aZ}(hE:r.log.entries=E)(hs:r.state=s0)(hN:((if u<cD r.log then u else cD r.log) - s0.index).toNat=N)(hk:(s0.index - r.log.base).toNat=k0){a:aZ×List bg×Int}(hr:jh E N k0 s0 []=a):
    cB r u=if ¬a.2.2=0 then (dA,[],a.2.2) else (⟨r.log,r.snap,a.1⟩,a.2.1,0):=by
  have e:ur r u=a:=by unfold ur;rw[hE,hs,hN,hk];exact hr
  unfold cB;rw[if_neg (fun q=>q h),if_neg h1,e]
theorem zU {r:aT}{u:Int}(h:a6 r=0)(h1: ¬(u<0∨1073741824<u)){E:List ByteArray}{N k0:Nat}{s0:aZ}(hE:r.log.entries=E)(hs:r.state=s0)(hN:((if u<cD r.log then u else cD r.log) - s0.index).toNat=N)(hk:(s0.index - r.log.base).toNat=k0){e:Int}(hr:jh E N k0 s0 []=(cR,[],e))(he: ¬e=0):cB r u=(dA,[],e):=by
  rw[zT h h1 hE hs hN hk hr];exact if_pos he
theorem yb {r:aT}{u:Int}(h:a6 r=0)(h1: ¬(u<0∨1073741824<u)){E:List ByteArray}{N k0:Nat}{s0:aZ}(hE:r.log.entries=E)(hs:r.state=s0)(hN:((if u<cD r.log then u else cD r.log) - s0.index).toNat=N)(hk:(s0.index - r.log.base).toNat=k0){s:aZ}{o:List bg}(hr:jh E N k0 s0 []=(s,o,0)):cB r u=(⟨r.log,r.snap,s⟩,o,0):=by
  rw[zT h h1 hE hs hN hk hr];exact if_neg (fun q=>q rfl)
end Go.Proofs.YtbjakddkfgjkaaaGreat.Fw
namespace Go.Proofs.YtbjakddkfgjkaaaGreat.Fw
open Go.RowKit
structure aH where
  r:List aT
  c:List ba
  au:List bg
  a8:List ByteArray
  lead:Int
  deriving Inhabited
namespace aH
def rep (t:aH)(k:Int):aT:=t.r.getD k.toNat default
def top (t:aH):iy:=(t.rep t.lead).log
def right (t:aH)(i:Int):Option ByteArray:=
  if i<t.a8.length then some (t.a8.getD i.toNat default) else
  if t.top.base≤i∧i<cD t.top then some (t.top.entries.getD (i - t.top.base).toNat default) else none
def sU (t:aH)(l:iy)(j:Nat):Bool:=decide (t.right (l.base+(j:Int))=some (l.entries.getD j default))
end aH
def dp (p:Nat→Bool):Nat→Nat
  |0=>0
  |n+1=>if bE p (n+1)=true then n+1 else dp p n
theorem kH (p:Nat→Bool): ∀n,dp p n≤n
  |0=>Nat.le_refl _
  |n+1=>by
    unfold dp
    split
    · exact Nat.le_refl _
    · exact Nat.le_succ_of_le (kH p n)
theorem iB (p:Nat→Bool): ∀n,bE p (dp p n)=true
  |0=>rfl
  |n+1=>by
    unfold dp
    split
    · assumption
    · exact iB p n
theorem m6 (p:Nat→Bool): ∀n,dp p n<n→p (dp p n)=false
  |0,h=>absurd h (Nat.not_lt_zero _)
  |n+1,h=>by
    unfold dp at h⊢
    split
    · rename_i h1;rw[if_pos h1] at h;omega
    · rename_i h1
      rw[if_neg h1] at h
      by_cases h2:dp p n<n
      · exact m6 p n h2
      · have h3:dp p n=n:=Nat.le_antisymm (kH p n) (by omega)
        rw[h3]
        have h4:=iB p n
        rw[h3] at h4
        simp only[bE,h4,Bool.true_and] at h1
        simpa using h1
theorem oq {p:Nat→Bool}{n j:Nat}(h:bE p j=true)(hj:j≤n)(h2:j=n∨p j=false):dp p n=j:=by
  have h3:=kH p n
  rcases Nat.lt_trichotomy (dp p n) j with h4|h4|h4
  · have h5:=m6 p n (by omega)
    rw[di h _ h4] at h5
    cases h5
  · exact h4
  · rcases h2 with h2|h2
    · omega
    · rw[di (iB p n) _ h4] at h2
      cases h2
theorem uN {p q:Nat→Bool}{n:Nat}(h: ∀j,j<n→p j=q j):dp p n=dp q n:=by
  have hl:=kH q n
  refine oq ?_ hl ?_
  · have: ∀m,m≤dp q n→bE p m=true:=by
      intro m
      induction m with
      |zero=>intro _;rfl
      |succ m ih=>
        intro hm
        simp only[bE,ih (by omega),h m (by omega),Bool.true_and]
        exact di (iB q n) m (by omega)
    exact this _ (Nat.le_refl _)
  · by_cases h1:dp q n<n
    · exact .inr ((h _ h1).trans (m6 q n h1))
    · exact .inl (by omega)
namespace aH
def fH (t:aH)(k:Int):Int:=(t.rep k).log.base+((dp (t.sU (t.rep k).log) (t.rep k).log.entries.length:Nat):Int)
def grow (t:aH)(n:Int):aH:={ t with a8:=t.a8++(t.top.entries.drop ((t.a8.length:Int) - t.top.base).toNat).take (n - (t.a8.length:Int)).toNat }
def j7 (t:aH)(k:Int):aH:=if k=t.lead then t else t.grow (t.fH k)
def fe (t:aH):aH:=((t.j7 0).j7 1).j7 2
def most (t:aH)(k:Int)(u:Int):Int:=if k=t.lead then u else if u<t.fH k then t.fH k else u
def set (t:aH)(k:Int)(x:aT):aH:={ t with r:=t.r.set k.toNat x }
def added (t:aH)(s:ByteArray×Int):aH×Int:=
  if ¬s.2=0 then (t,s.2) else
  if (cS (t.rep t.lead) (cD t.top) [s.1]).2=0 then (t.set t.lead (cS (t.rep t.lead) (cD t.top) [s.1]).1,0) else (t,(cS (t.rep t.lead) (cD t.top) [s.1]).2)
def yc (t:aH)(k:Int):ba:=t.c.getD k.toNat default
def kI (t:aH)(a:eP):aH×Int:=
  if a.c<0∨(t.c.length:Int)≤a.c then (t,6) else if a.kind=1 then t.added (gv (t.yc a.c)) else if a.kind=3 then t.added (kB (t.yc a.c) a.k) else
  if (mStart (t.yc a.c) a.op).2=0 then ({ t with c:=t.c.set a.c.toNat (mStart (t.yc a.c) a.op).1 },0) else (t,(mStart (t.yc a.c) a.op).2)
def told (t:aH)(k many:Int):aT×Int:=
  if t.fH k<t.top.base then cv (t.rep k) (t.rep t.lead).snap else
  if ¬(cm t.top (t.fH k) many).2=0 then (dA,(cm t.top (t.fH k) many).2) else cS (t.rep k) (t.fH k) (cm t.top (t.fH k) many).1
def pb (t:aH)(k many:Int):aH×Int:=
  if k=t.lead∨many<0 then (t,2) else if (t.told k many).2=0 then ((t.set k (t.told k many).1).fe,0) else (t,(t.told k many).2)
def fF (l:List bg)(m:bg):List bg:=if l.length<60 then l++[m] else l
def upto (t:aH)(k many:Int):Int:=min ((t.rep k).state.index+min many 400) (min (t.a8.length:Int) (t.fH k))
def Js (t:aH)(k many:Int):aT×List bg×Int:=cB (t.rep k) (t.upto k many)
def apply (t:aH)(k many:Int):aH×Int:=
  if many<0 then (t,2) else if ¬(t.Js k many).2.2=0 then (t,(t.Js k many).2.2) else
  ({ t.set k (t.Js k many).1 with au:=if k=t.lead then (t.Js k many).2.1.foldl fF t.au else t.au },0)
def put (t:aH)(k:Int)(x:aT×Int):aH×Int:=if x.2=0 then (t.set k x.1,0) else (t,x.2)
def kJ (t:aH)(a:eP):aH×Int:=
  if a.r<0∨2<a.r then (t,6) else if a.kind=4 then t.pb a.r a.k else if a.kind=5 then t.apply a.r a.k else
  if a.kind=8 then (if t.fH a.r<(t.a8.length:Int) then (t,9) else (fe { t with lead:=a.r },0)) else
  if a.kind=6 then t.put a.r (b8 (t.rep a.r)) else t.put a.r (cK (t.rep a.r))
def who (t:aH)(m:bg):Int:=aQ (fun x:ba=>decide (x.id=m.ag)) t.c
def F4 (t:aH)(k:Int):bg:=t.au.getD k.toNat default
def left (t:aH)(k:Int):aH:={ t with au:=t.au.take k.toNat++t.au.drop (k.toNat+1)}
def heard (t:aH)(m:bg):aH×Int:=
  if t.who m<0 then (t,6) else if (bX (t.yc (t.who m)) m).2=0 then ({ t with c:=t.c.set (t.who m).toNat (bX (t.yc (t.who m)) m).1 },0) else (t,(bX (t.yc (t.who m)) m).2)
def dU (t:aH)(a:eP):aH×Int:=
  if a.k<0∨(t.au.length:Int)≤a.k then (t,6) else
  if a.kind=11 then (if t.au.length=60 then (t,8) else ({ t with au:=t.au++[t.F4 a.k]},0)) else
  if a.kind=10 then (t.left a.k,0) else (t.left a.k).heard (t.F4 a.k)
def act (t:aH)(a:eP):aH×Int:=
  if a.kind<1∨11<a.kind then (t,3) else if a.kind≤3 then t.kI a else if a.kind≤8 then t.kJ a else t.dU a
def sV (t:aH):List eP→aH×List Int
  |[]=>(t,[])
  |a::l=>((sV (t.act a).1 l).1,(t.act a).2::(sV (t.act a).1 l).2)
def start (n:Int):aH:=⟨[dA,dA,dA],(List.range n.toNat).map fun i:Nat=>⟨(i:Int)+1,0,1,[]⟩,[],[],0⟩
end aH
def k6 (n:Int)(l:List eP):aH×List Int×Int:=
  if n<1∨9<n then (⟨[],[],[],[],0⟩,[],2) else if 400<l.length then (⟨[],[],[],[],0⟩,[],1) else
  (((aH.start n).sV l).1,((aH.start n).sV l).2,0)
end Go.Proofs.YtbjakddkfgjkaaaGreat.Fw
namespace Go.Proofs.YtbjakddkfgjkaaaGreat.Fw
open Go.RowKit
def xj (l:iy):Prop:=0≤l.base∧l.base≤1073741424∧l.entries.length≤400∧ ∀e,e∈l.entries→e.size≤5000∧ ¬e=emp
def lens (s:aZ):Prop:=s.aj.length≤99∧(∀x,x∈s.aj→x.line.length≤99)∧s.an.length≤99∧s.af.length≤99∧ ∀x,x∈s.af→x.ab.length≤99
theorem F5 {e:ByteArray}(h:(aq e).2=0):e.size≤5000∧ ¬e=emp:=by
  refine⟨(m0 h).2,fun q=>?_⟩
  subst q
  unfold aq at h
  rw[if_neg (by rw[aL];omega),if_pos (by rw[aL];omega)] at h
  cases h
theorem C2 {l:iy}(h:cT l=0): ∀e,e∈l.entries→(aq e).2=0:=fZ (P:=fun e=>(aq e).2=0) (eb h).2.2.2
theorem uO {l:iy}(h:cT l=0):xj l:=
  ⟨(eb h).1,(eb h).2.1,(eb h).2.2.1,fun e he=>F5 (C2 h e he)⟩
theorem xk: ∀(m:List ByteArray) (E:List ByteArray) (k:Nat),(∀e,e∈E→(aq e).2=0)→(eT E k m).2=0→ ∀e,e∈(eT E k m).1→(aq e).2=0
  |[],E,k,h,_=>h
  |s::r,E,k,h,h2=>by
    unfold eT at h2⊢
    split
    · rename_i h3;rw[if_pos h3] at h2;exact absurd h2 h3
    · rename_i h3
      rw[if_neg h3] at h2
      refine xk r _ _ (fun e he=>?_) h2
      unfold pJ at he
      split at he
      · exact h e he
      · rcases List.mem_append.1 he with he|he
        · exact h e (List.mem_of_mem_take he)
        · rw[List.mem_singleton.1 he];exact Classical.not_not.1 h3
theorem uP {l:iy}{b:Int}{m:List ByteArray}(h:(de l b m).2=0):cT l=0∧(de l b m).1.base=l.base∧(de l b m).1.entries.length≤400∧ ∀e,e∈(de l b m).1.entries→(aq e).2=0:=by
  unfold de at h⊢
  split
  · rename_i h1;rw[if_pos h1] at h;exact absurd h h1
  rename_i h1;rw[if_neg h1] at h
  split
  · rename_i h2;rw[if_pos h2] at h;cases h
  rename_i h2;rw[if_neg h2] at h
  split
  · rename_i h3;rw[if_pos h3] at h;cases h
  rename_i h3;rw[if_neg h3] at h
  split
  · rename_i h4;rw[if_pos h4] at h;cases h
  rename_i h4;rw[if_neg h4] at h
  split
  · rename_i h5;rw[if_pos h5] at h;exact absurd h h5
  rename_i h5;rw[if_neg h5] at h
  split
  · rename_i h6;rw[if_pos h6] at h;cases h
  rename_i h6
  have h0:=Classical.not_not.1 h1
  exact⟨h0,rfl,by show (eT _ _ _).1.length≤400;omega,xk _ _ _ (C2 h0) (Classical.not_not.1 h5)⟩
theorem DU {l:iy}{b:Int}{m:List ByteArray}(h:(de l b m).2=0):xj (de l b m).1:=by
  obtain⟨h1,h2,h3,h4⟩:=uP h
  have h5:=uO h1
  exact⟨by rw[h2];exact h5.1,by rw[h2];exact h5.2.1,h3,fun e he=>F5 (h4 e he)⟩
theorem uQ {l:iy}{i:Int}{k:Nat}(h:xj l)(h0:0≤i)(h1:i≤1073741424):xj ⟨i,l.entries.drop k⟩:=
  ⟨h0,h1,by show (l.entries.drop k).length≤400;rw[List.length_drop];have:=h.2.2.1;omega,fun e he=>h.2.2.2 e (List.mem_of_mem_drop he)⟩
theorem yd {s:aZ}(h:bA s=0):lens s:=by
  obtain⟨h1,h2,h3,h4,h5⟩:=mJ h
  exact⟨by omega,fun x hx=>Nat.le_trans (fZ (P:=fun x:aY=>x.line.length≤3) h4 x hx) (by omega),by omega,by omega,fun x hx=>Nat.le_trans (fZ (P:=fun x:az=>x.ab.length≤4) h5 x hx) (by omega)⟩
theorem lB:lens cR:=yd rfl
def dZ (K M:Nat)(l:List aY):Prop:=l.length≤K∧ ∀x,x∈l→x.line.length≤M
def dI (K M:Nat)(l:List az):Prop:=l.length≤K∧ ∀x,x∈l→x.ab.length≤M
theorem dZ.mono {K M K' M':Nat}{l:List aY}(h:dZ K M l)(hK:K≤K')(hM:M≤M'):dZ K' M' l:=⟨by have:=h.1;omega,fun x hx=>Nat.le_trans (h.2 x hx) hM⟩
theorem dI.mono {K M K' M':Nat}{l:List az}(h:dI K M l)(hK:K≤K')(hM:M≤M'):dI K' M' l:=⟨by have:=h.1;omega,fun x hx=>Nat.le_trans (h.2 x hx) hM⟩
theorem dZ.nil {K M:Nat}:dZ K M []:=⟨Nat.zero_le _,fun _ h=>absurd h List.not_mem_nil⟩
theorem dI.nil {K M:Nat}:dI K M []:=⟨Nat.zero_le _,fun _ h=>absurd h List.not_mem_nil⟩
theorem dI.sub {K M:Nat}{l l':List az}(h:dI K M l)(hs:l'.Sublist l):dI K M l':=⟨Nat.le_trans hs.length_le h.1,fun x hx=>h.2 x (hs.subset hx)⟩
theorem dZ.set {K M:Nat}{l:List aY}{x:aY}(h:dZ K M l)(k:Nat)(hx:x.line.length≤M):dZ K M (l.set k x):=
  ⟨by rw[List.length_set];exact h.1,fun y hy=>(List.mem_or_eq_of_mem_set hy).elim (h.2 y) fun e=>e▸hx⟩
theorem dI.set {K M:Nat}{l:List az}{x:az}(h:dI K M l)(k:Nat)(hx:x.ab.length≤M):dI K M (l.set k x):=
  ⟨by rw[List.length_set];exact h.1,fun y hy=>(List.mem_or_eq_of_mem_set hy).elim (h.2 y) fun e=>e▸hx⟩
theorem qP {α:Type}(p:α→Bool)(x:α)(l:List α):(dW p x l).length≤l.length+1:=by
  unfold dW
  simp only[List.length_append,List.length_take,List.length_drop,List.length_singleton]
  omega
theorem zV {α:Type}{p:α→Bool}{x y:α}{l:List α}(h:y∈dW p x l):y=x∨y∈l:=by
  unfold dW at h
  rcases List.mem_append.1 h with h|h
  · rcases List.mem_append.1 h with h|h
    · exact .inr (List.mem_of_mem_take h)
    · exact .inl (List.mem_singleton.1 h)
  · exact .inr (List.mem_of_mem_drop h)
theorem dZ.ins {K M:Nat}{l:List aY}{x:aY}(h:dZ K M l)(p:aY→Bool)(hx:x.line.length≤M):dZ (K+1) M (dW p x l):=
  ⟨by have:=qP p x l;have:=h.1;omega,fun y hy=>(zV hy).elim (fun e=>e▸hx) (h.2 y)⟩
theorem dI.ins {K M:Nat}{l:List az}{x:az}(h:dI K M l)(p:az→Bool)(hx:x.ab.length≤M):dI (K+1) M (dW p x l):=
  ⟨by have:=qP p x l;have:=h.1;omega,fun y hy=>(zV hy).elim (fun e=>e▸hx) (h.2 y)⟩
theorem dZ.at {K M:Nat}{l:List aY}(h:dZ K M l)(k:Nat):(l.getD k default).line.length≤M:=by
  by_cases hk:k<l.length
  · exact h.2 _ (aB hk)
  · rw[List.getD_eq_getElem?_getD,List.getElem?_eq_none (by omega)];exact Nat.zero_le _
theorem dI.at {K M:Nat}{l:List az}(h:dI K M l)(k:Nat):(l.getD k default).ab.length≤M:=by
  by_cases hk:k<l.length
  · exact h.2 _ (aB hk)
  · rw[List.getD_eq_getElem?_getD,List.getElem?_eq_none (by omega)];exact Nat.zero_le _
theorem xl (d:aY):(gN d).line.length≤d.line.length:=by
  unfold gN
  split
  · show (d.line.drop 1).length≤_;rw[List.length_drop];omega
  · exact Nat.zero_le _
theorem pO (l:List Int)(who:Int):(gi l who).length≤l.length:=List.length_filter_le _ _
theorem DV (who:Int)(d:aY):(kC who d).line.length≤d.line.length:=by
  unfold kC
  split
  · exact Nat.le_trans (xl _) (pO _ _)
  · exact pO _ _
theorem dZ.gone {K M:Nat}{l:List aY}(h:dZ K M l)(who:Int):dZ K M (j3 l who).1:=by
  unfold j3
  split
  · exact dZ.nil
  split
  · exact dZ.nil
  · refine⟨by show (l.map _).length≤K;rw[List.length_map];exact h.1,fun x hx=>?_⟩
    obtain⟨y,hy,rfl⟩:=List.mem_map.1 hx
    exact Nat.le_trans (DV who y) (h.2 y hy)
theorem dZ.rel {K M:Nat}{now:List az}: ∀(CQ:List az) {l:List aY},dZ K M l→dZ K M (rS l CQ now)
  |[],_,h=>h
  |x::r,l,h=>by
    have h1:dZ K M (xX now l x):=by
      unfold xX
      split
      · exact h.gone _
      · exact h
    exact dZ.rel r h1
theorem xm (d:aY)(who:Int)(b:Bool):(eU d who b).1.line.length≤d.line.length+1:=by
  unfold eU
  repeat' split
  all_goals first|exact Nat.le_succ _|(simp only[List.length_append,List.length_singleton];omega)
theorem DW (d:aY)(who:Int):(j4 d who).1.line.length≤d.line.length:=by
  unfold j4
  repeat' split
  all_goals first|exact xl _|exact Nat.le_refl _|exact pO _ _
theorem dZ.take {K M:Nat}{l:List aY}(h:dZ K M l)(t:ByteArray)(who:Int)(b:Bool):dZ (K+1) (M+1) (bZ l t who b).1:=by
  unfold bZ
  repeat' split
  all_goals first|exact dZ.nil|exact h.mono (Nat.le_succ _) (Nat.le_succ _)|exact ((h.mono (Nat.le_refl _) (Nat.le_succ _)).set _ (Nat.le_trans (xm _ _ _) (Nat.succ_le_succ (h.at _)))).mono (Nat.le_succ _) (Nat.le_refl _)|exact ((h.mono (Nat.le_refl _) (Nat.le_succ _)).ins _ (Nat.le_trans (xm _ _ _) (by simp)))|exact ((h.mono (Nat.le_refl _) (Nat.le_succ _)).ins _ (by simp))
theorem dZ.free {K M:Nat}{l:List aY}(h:dZ K M l)(t:ByteArray)(who:Int):dZ K M (dL l t who).1:=by
  unfold dL
  repeat' split
  all_goals first|exact dZ.nil|exact h|exact h.set _ (Nat.le_trans (DW _ _) (h.at _))
theorem DX (l:List aG)(t v:ByteArray):(cA l t v).1.length≤l.length+1:=by
  unfold cA
  repeat' split
  all_goals first|exact Nat.zero_le _|exact Nat.le_succ _|exact qP _ _ _|(simp only[List.length_set];omega)
theorem Jt {K M P:Nat}{l:List aY}{p:List aG}(h:dZ K M l)(hp:p.length≤P)(who:Int)(o:vJ):dZ (K+1) (M+1) (lK l p who o).1∧(lK l p who o).2.1.length≤P+1:=by
  have h0:=h.mono (Nat.le_succ K) (Nat.le_succ M)
  unfold lK
  split
  · exact⟨h.take _ _ _,by show p.length≤_;omega⟩
  split
  · exact⟨(h.free _ _).mono (Nat.le_succ K) (Nat.le_succ M),by show p.length≤_;omega⟩
  split
  · exact⟨h0,by show p.length≤_;omega⟩
  split
  · exact⟨h0,by show p.length≤_;omega⟩
  split
  · exact⟨h0,by show p.length≤_;omega⟩
  · exact⟨h0,Nat.le_trans (DX _ _ _) (by omega)⟩
theorem dI.join {K M:Nat}{l:List az}(h:dI K M l)(i c:Int):dI (K+1) M (dg l i c).1:=by
  unfold dg
  repeat' split
  all_goals first|exact dI.nil|(refine dI.mono (dI.set h _ ?_) (Nat.le_succ _) (Nat.le_refl _);exact h.at _)|exact h.mono (Nat.le_succ _) (Nat.le_refl _)|exact dI.ins (x:=⟨c,i+1,0,i+1,[]⟩) h _ (Nat.zero_le _)
theorem dI.leave {K M:Nat}{l:List az}(h:dI K M l)(i c:Int):dI K M (dB l i c).1:=by
  unfold dB
  split
  · exact dI.nil
  split
  · exact h
  · refine⟨by have:=h.1;simp only[List.length_append,List.length_take,List.length_drop];omega,fun x hx=>?_⟩
    rcases List.mem_append.1 hx with hx|hx
    · exact h.2 x (List.mem_of_mem_take hx)
    · exact h.2 x (List.mem_of_mem_drop hx)
theorem dI.ready {K M:Nat}{l:List az}(h:dI K M l)(i:Int)(c:aF):dI K M (dn l i c).1:=by
  unfold dn
  split
  · exact dI.nil
  split
  · exact dI.nil
  split
  · exact h
  · exact h.set _ (Nat.le_trans (List.length_filter_le _ _) (h.at _))
theorem dI.I0 {K M:Nat}{l:List az}(h:dI K M l)(i c s:Int)(r:cQ):dI K (M+1) (fy l i c s r).1:=by
  unfold fy
  repeat' split
  all_goals first|exact dI.nil|exact (h.mono (Nat.le_refl _) (Nat.le_succ _)).set _ (Nat.le_trans (qP _ _ _) (Nat.succ_le_succ (h.at _)))
theorem DY {K M:Nat}{s:aZ}(h:dI K M s.af):dI K M (cx s):=by
  unfold cx lJ
  split
  · exact h.sub List.filter_sublist
  · exact dI.nil
theorem BF {s:aZ}{t:ByteArray}(h:(bS s t).2.2=0):lens (bS s t).1:=by
  unfold bS at h⊢
  split
  · rename_i h1;rw[if_pos h1] at h;exact absurd h h1
  rename_i h1
  split
  · exact lB
  split
  · exact lB
  obtain⟨b1,b2,b3,b4,b5⟩:=mJ (Classical.not_not.1 h1)
  have hl:dZ 5 3 s.aj:=⟨b1,fZ (P:=fun x:aY=>x.line.length≤3) b4⟩
  have hs:dI 4 4 s.af:=⟨b3,fZ (P:=fun x:az=>x.ab.length≤4) b5⟩
  have hf:=DY hs
  have ha:dZ 5 3 (cG s):=dZ.rel _ hl
  have key: ∀(a:List aY) (p:List aG) (x:List az) (i:Int),dZ 6 4 a→p.length≤6→dI 6 6 x→lens ⟨i,a,p,x⟩:=fun a p x i h1 h2 h3=>
    ⟨by have:=h1.1;show a.length≤99;omega,fun y hy=>Nat.le_trans (h1.2 y hy) (by omega),by show p.length≤99;omega,by have:=h3.1;show x.length≤99;omega,fun y hy=>Nat.le_trans (h3.2 y hy) (by omega)⟩
  show lens (cX s (aq t).1).1
  unfold cX
  split
  · exact key _ _ _ _ (ha.mono (by omega) (by omega)) (by omega) ((hf.join _ _).mono (by omega) (by omega))
  split
  · exact key _ _ _ _ ((dZ.rel _ ha).mono (by omega) (by omega)) (by omega) ((hf.leave _ _).mono (by omega) (by omega))
  split
  · have hd:=Jt ha b2 (aq t).1.ag (aq t).1.op
    exact key _ _ _ _ hd.1 hd.2 (((hf.ready _ _).I0 _ _ _ _).mono (by omega) (by omega))
  · exact key _ _ _ _ (ha.mono (by omega) (by omega)) (by omega) ((hf.ready _ _).mono (by omega) (by omega))
end Go.Proofs.YtbjakddkfgjkaaaGreat.Fw
namespace Go.Proofs.YtbjakddkfgjkaaaGreat.Fw
open Go.RowKit
theorem qQ (a b:ByteArray):(a++b).data=a.data++b.data:=by first|exact ByteArray.data_append|simp
theorem zW (pre rest:ByteArray)(b:Int)(l:List Int):(pre++cP (b::l)++rest).data.getD pre.size 0=UInt8.ofNat b.toNat:=by
  have e:pre.size=pre.data.size:=rfl
  have h1:(pre++cP (b::l)++rest).data[pre.size]? =some (UInt8.ofNat b.toNat):=by
    rw[qQ,qQ,e,Array.append_assoc,Array.getElem?_append_right (Nat.le_refl _),Nat.sub_self,Array.getElem?_append_left (by simp[cP])]
    simp[cP]
  rw[Array.getD_eq_getD_getElem?,h1];rfl
theorem DZ (pre rest:ByteArray):(pre++rest).extract pre.size (pre++rest).size=rest:=by
  rw[ByteArray.extract_append_eq_right rfl (by rw[ByteArray.size_append])]
theorem HS: ∀(f:Nat) (m acc:Int) (i:Nat) (pre rest:ByteArray),pre.size=i→0≤m→m<128*128 ^ f→acc+128 ^ i*m≤1099511627776→(m=0→i=0)→rd (pre++cP (mF f m)++rest) (f+1) i acc=(acc+128 ^ i*m,rest,0):=by
  have small: ∀(f:Nat) (m acc:Int) (i:Nat) (pre rest:ByteArray),pre.size=i→0≤m→m<128→acc+128 ^ i*m≤1099511627776→(m=0→i=0)→rd (pre++cP [m]++rest) (f+1) i acc=(acc+128 ^ i*m,rest,0):=by
    intro f m acc i pre rest hp h0 h1 h2 h3
    subst hp
    have hg:=zW pre rest m []
    have hb:(UInt8.ofNat m.toNat).toNat=m.toNat:=by simp;omega
    have hm:((m.toNat:Nat):Int) % 128=m:=by omega
    have hz:(pre++cP [m]++rest).size=pre.size+1+rest.size:=by rw[ByteArray.size_append,ByteArray.size_append,fA];rfl
    unfold rd
    rw[hg,hb,if_neg (by omega),if_pos (by omega),hm,if_neg (by rintro (⟨h4,h5⟩|h4);have:=h3 (by omega);omega;omega)]
    have hx:=DZ (pre++cP [m]) rest
    rw[ByteArray.size_append,fA] at hx
    rw[show pre.size+1=pre.size+[m].length from rfl,hx]
  intro f
  induction f with
  |zero=>intro m acc i pre rest hp h0 h1 h2 h3;exact small 0 m acc i pre rest hp h0 (by omega) h2 h3
  |succ f ih=>
    intro m acc i pre rest hp h0 h1 h2 h3
    by_cases hm:m<128
    · rw[ub _ m hm];exact small _ m acc i pre rest hp h0 hm h2 h3
    · rw[zd f m (by omega)]
      have hg:=zW pre rest (128+m % 128) (mF f (m / 128))
      have hb:(UInt8.ofNat (128+m % 128).toNat).toNat=(128+m % 128).toNat:=by simp;omega
      have hz:(pre++cP ((128+m % 128)::mF f (m / 128))++rest).size=pre.size+((mF f (m / 128)).length+1)+rest.size:=by rw[ByteArray.size_append,ByteArray.size_append,fA];rfl
      have OG:(((128+m % 128).toNat:Nat):Int) % 128=m % 128:=by omega
      have R7:(128:Int) ^ (i+1)*(m / 128)=128 ^ i*(128*(m / 128)):=by rw[Int.pow_succ,Int.mul_assoc]
      have LN:acc+128 ^ i*(m % 128)+128 ^ (i+1)*(m / 128)=acc+128 ^ i*m:=by
        rw[R7,Int.add_assoc, ←Int.mul_add,Int.emod_add_mul_ediv]
      unfold rd
      rw[←hp,hg,hb,if_neg (by omega),if_neg (by omega),OG]
      have hs:pre++cP ((128+m % 128)::mF f (m / 128))++rest=(pre++cP [128+m % 128])++cP (mF f (m / 128))++rest:=by
        rw[ByteArray.append_assoc (a:=pre) (b:=cP [128+m % 128]),n3];rfl
      rw[hs, ←hp] at*
      have:=ih (m / 128) (acc+128 ^ pre.size*(m % 128)) (pre.size+1) (pre++cP [128+m % 128]) rest (by rw[ByteArray.size_append,fA];rfl) (by omega) (by rw[Int.pow_succ] at h1;omega) (by rw[LN];exact h2) (by omega)
      rw[this,LN]
theorem zX {n:Int}(h0:0≤n)(h1:n≤1099511627776)(rest:ByteArray):bf ((cf n).1++rest)=(n,rest,0):=by
  have h2:=HS 5 n 0 0 emp rest rfl h0 (by omega) (by omega) (fun _=>rfl)
  rw[pB] at h2
  have e:(cf n).1=cP (mF 5 n):=by unfold cf;rw[if_neg (by omega)]
  rw[e]
  unfold bf
  rw[h2]
  simp
end Go.Proofs.YtbjakddkfgjkaaaGreat.Fw
namespace Go.Proofs.YtbjakddkfgjkaaaGreat.Fw
open Go.RowKit
theorem mP {α:Type}{f:ByteArray→α→ByteArray}(h: ∀b d, ∃X,f b d=b++X): ∀(l:List α) (b:ByteArray), ∃X,l.foldl f b=b++X
  |[],b=>⟨emp,(uk b).symm⟩
  |d::l,b=>by
    obtain⟨X,hX⟩:=h b d
    obtain⟨Y,hY⟩:=mP h l (f b d)
    exact⟨X++Y,by rw[List.foldl_cons,hY,hX,ByteArray.append_assoc]⟩
theorem lC {a b c:ByteArray}(h: ∃X,b=a++X)(h2: ∃X,c=b++X): ∃X,c=a++X:=by
  obtain⟨X,rfl⟩:=h
  obtain⟨Y,rfl⟩:=h2
  exact⟨X++Y,ByteArray.append_assoc ..⟩
theorem D0 (b:ByteArray)(d:aY): ∃X,kY b d=b++X:=by
  unfold kY;rw[ByteArray.append_assoc,ByteArray.append_assoc];exact⟨_,rfl⟩
theorem D1 (b:ByteArray)(d:aG): ∃X,kD b d=b++X:=by
  unfold kD;rw[ByteArray.append_assoc,ByteArray.append_assoc];exact⟨_,rfl⟩
theorem D2 (b:ByteArray)(d:aK): ∃X,nt b d=b++X:=by
  unfold nt;rw[ByteArray.append_assoc];exact⟨_,rfl⟩
theorem D3 (b:ByteArray)(d:az): ∃X,nu b d=b++X:=lC ⟨_,rfl⟩ (mP D2 d.ab _)
theorem D4 (s:aZ): ∃X,jg s=(cf s.index).1++X:=by
  unfold jg
  refine lC (lC (lC (lC (lC ?_ (mP D0 s.aj _)) ⟨_,rfl⟩) (mP D1 s.an _)) ⟨_,rfl⟩) (mP D3 s.af _)
  exact⟨(cf (s.aj.length:Int)).1,by simp only[bc,List.foldl_cons,List.foldl_nil,pB]⟩
theorem oT {s:aZ}(h:bA s=0):0≤s.index∧s.index≤1073741824:=⟨(dm (jL h).1).1,(dm (jL h).1).2.1⟩
theorem F6 (b:ByteArray):(b++gE b).extract 0 ((b++gE b).size - 4)=b:=by
  have hz:(gE b).size=4:=fA _
  rw[ByteArray.size_append,hz,Nat.add_sub_cancel]
  exact ByteArray.extract_append_eq_left rfl
theorem m7 {s:ByteArray}(h:(bb s).2=0):(bb s).1=(ep (s.extract 0 (s.size - 4),0)).1∧bA (bb s).1=0:=by
  unfold bb at h⊢
  split
  · rename_i h1;rw[if_pos h1] at h;cases h
  rename_i h1;rw[if_neg h1] at h
  split
  · rename_i h2;rw[if_pos h2] at h;cases h
  rename_i h2;rw[if_neg h2] at h
  split
  · rename_i h3;rw[if_pos h3] at h;cases h
  rename_i h3;rw[if_neg h3] at h
  split
  · rename_i h4;rw[if_pos h4] at h;cases h
  rename_i h4;rw[if_neg h4] at h
  split
  · rename_i h5;rw[if_pos h5] at h;exact absurd h h5
  rename_i h5;rw[if_neg h5] at h
  split
  · rename_i h6;rw[if_pos h6] at h;exact absurd h h6
  rename_i h6
  exact⟨rfl,Classical.not_not.1 h6⟩
theorem ye {s:aZ}(h:bA s=0)(h2:(bb (gH s).1).2=0):(bb (gH s).1).1.index=s.index:=by
  have e:(gH s).1=jg s++gE (jg s):=by unfold gH;rw[if_pos h]
  rw[(m7 h2).1,e,F6]
  show (ah (jg s,0)).1=s.index
  obtain⟨X,hX⟩:=D4 s
  have hb:=oT h
  unfold ah
  rw[if_pos rfl]
  show (bf (jg s)).1=s.index
  rw[hX,zX hb.1 (by omega)]
def F7 (n:Int)(s:ByteArray):Prop:=(bb s).2=0→(bb s).1.index≤n
def gY (n:Int)(x:aT):Prop:=xj x.log∧x.log.base≤n∧0≤x.state.index∧x.state.index≤n∧lens x.state∧F7 n x.snap
theorem gY.mono {n n':Int}{x:aT}(h:gY n x)(hn:n≤n'):gY n' x:=
  ⟨h.1,Int.le_trans h.2.1 hn,h.2.2.1,Int.le_trans h.2.2.2.1 hn,h.2.2.2.2.1,fun q=>Int.le_trans (h.2.2.2.2.2 q) hn⟩
theorem xn {n:Int}(h:0≤n):gY n dA:=
  ⟨⟨by decide,by decide,by decide,fun _ h=>absurd h List.not_mem_nil⟩,h,by decide,h,lB,fun q=>by
    have:(bb emp).2=5:=by unfold bb;rw[if_neg (by rw[aL];omega),if_pos (by rw[aL];omega)]
    rw[show dA.snap=emp from rfl,this] at q;cases q⟩
theorem C3 {n b:Int}{x:aT}{m:List ByteArray}(h:gY n x)(h2:(cS x b m).2=0):gY n (cS x b m).1:=by
  unfold cS at h2⊢
  split
  · rename_i h1;rw[if_pos h1] at h2;exact absurd h2 h1
  rename_i h1;rw[if_neg h1] at h2
  split
  · rename_i h3;rw[if_pos h3] at h2;exact absurd h2 h3
  rename_i h3;rw[if_neg h3] at h2
  split
  · rename_i h4;rw[if_pos h4] at h2;cases h2
  have h5:=Classical.not_not.1 h3
  exact⟨DU h5,by rw[show _=x.log.base from (uP h5).2.1];exact h.2.1,h.2.2⟩
theorem HT {n:Int}{x:aT}{s:ByteArray}(hs:F7 n s)(h2:(cv x s).2=0):gY n (cv x s).1:=by
  unfold cv at h2⊢
  split
  · rename_i h1;rw[if_pos h1] at h2;exact absurd h2 h1
  rename_i h1;rw[if_neg h1] at h2
  split
  · rename_i h3;rw[if_pos h3] at h2;exact absurd h2 h3
  rename_i h3;rw[if_neg h3] at h2
  split
  · rename_i h4;rw[if_pos h4] at h2;cases h2
  rename_i h4;rw[if_neg h4] at h2
  split
  · rename_i h5;rw[if_pos h5] at h2;cases h2
  rename_i h5
  have h6:=Classical.not_not.1 h3
  have h7:=(m7 h6).2
  have h8:=oT h7
  have hl:=uO (cq (Classical.not_not.1 h1)).1
  refine⟨?_,?_,h8.1,hs h6,yd h7,hs⟩
  rotate_left
  · show (if _ then (⟨_,_⟩:iy) else ⟨_,_⟩).base≤n
    split<;>exact hs h6
  split
  · exact uQ hl h8.1 (by omega)
  · exact⟨h8.1,by show (bb s).1.index≤_;omega,Nat.zero_le _,fun _ h=>absurd h List.not_mem_nil⟩
theorem HU {n:Int}{x:aT}(h:gY n x)(h2:(b8 x).2=0):gY n (b8 x).1:=by
  unfold b8 at h2⊢
  split
  · rename_i h1;rw[if_pos h1] at h2;exact absurd h2 h1
  rename_i h1;rw[if_neg h1] at h2
  split
  · rename_i h3;rw[if_pos h3] at h2;cases h2
  rename_i h3;rw[if_neg h3] at h2
  split
  · rename_i h4;rw[if_pos h4] at h2;exact absurd h2 h4
  rename_i h4
  obtain⟨p1,p2,p3,p4,p5⟩:=cq (Classical.not_not.1 h1)
  have h6:gW x.log x.state.index=(⟨x.state.index,x.log.entries.drop (x.state.index - x.log.base).toNat⟩,0)∧x.state.index≤1073741424:=by
    unfold gW at h4⊢
    split
    · rename_i q;exact absurd p1 q
    split
    · rename_i q;omega
    split
    · rename_i q1 q2 q3;rw[if_neg q1,if_neg q2,if_pos q3] at h4;exact absurd (Classical.not_not.1 h4) (by decide)
    · exact⟨rfl,by omega⟩
  have h8:=oT p2
  refine⟨?_,?_,h.2.2.1,h.2.2.2.1,h.2.2.2.2.1,fun q=>?_⟩
  · rw[h6.1];exact uQ (uO p1) h8.1 h6.2
  · rw[h6.1];exact h.2.2.2.1
  · exact Int.le_trans (Int.le_of_eq (ye p2 q)) h.2.2.2.1
theorem HV {n:Int}{x:aT}(h0:0≤n)(h:gY n x)(h2:(cK x).2=0):gY n (cK x).1:=by
  unfold cK at h2⊢
  split
  · rename_i h1;rw[if_pos h1] at h2;exact absurd h2 h1
  rename_i h1
  have hk:0≤(dC x).1.index∧(dC x).1.index≤n∧lens (dC x).1:=by
    unfold dC
    split
    · split
      · exact⟨Int.le_refl _,h0,lB⟩
      · exact⟨Int.le_refl _,h0,lB⟩
    · split
      · rename_i q
        have h7:=(m7 q.1).2
        exact⟨(oT h7).1,h.2.2.2.2.2 q.1,yd h7⟩
      · exact⟨Int.le_refl _,h0,lB⟩
  exact⟨h.1,h.2.1,hk.1,hk.2.1,hk.2.2,h.2.2.2.2.2⟩
theorem F8 {s:aZ}(h:bA s=0):tz s:=by
  obtain⟨h1,h2,h3⟩:=jL h
  refine⟨fZ (P:=fun p:aG=>p.value.size≤9223372036854775807) fun j hj=>?_,fun x hx k hk=>?_⟩
  · have h4:=(iz h3).2 j hj
    unfold fj at h4
    split at h4
    · cases h4
    split at h4
    · cases h4
    omega
  · have h4:=fZ (P:=fun x:az=>a9 x=true) (fun j hj=>by
      have h5:=(dm h1).2.2.2 j hj
      unfold da at h5
      split at h5
      · cases h5
      split at h5
      · cases h5
      · rename_i h6;simpa using h6) x hx
    refine fZ (P:=fun k:aK=>k.aE.text.size≤9223372036854775807) (fun j hj=>?_) k hk
    have h5:=of_decide_eq_true (di h4 j hj)
    have:=h5.2.2.2.2.2.2.2
    omega
theorem yf {s:aZ}{t:ByteArray}(h:(bS s t).2.2=0):bA s=0:=by
  unfold bS at h
  split at h
  · rename_i h1;exact absurd h h1
  · rename_i h1;exact Classical.not_not.1 h1
theorem xo (E:List ByteArray): ∀(N k:Nat) (s:aZ) (out:List bg),lens s→(∀m,m∈out→m.aE.text.size≤9223372036854775807)→(jh E N k s out).2.2=0→
    lens (jh E N k s out).1∧(jh E N k s out).1.index=s.index+(N:Int)∧ ∀m,m∈(jh E N k s out).2.1→m.aE.text.size≤9223372036854775807
  |0,k,s,out,h,hm,_=>⟨h,by show s.index=_;omega,hm⟩
  |N+1,k,s,out,h,hm,h2=>by
    rw[F2] at h2⊢
    split
    · rename_i h3;rw[if_pos h3] at h2;exact absurd h2 h3
    rename_i h3;rw[if_neg h3] at h2
    have h4:=Classical.not_not.1 h3
    obtain⟨q1,q2,q3⟩:=xo E N (k+1) _ _ (BF h4) (fun m LO=>by
      rcases List.mem_append.1 LO with LO|LO
      · exact hm m LO
      · rw[List.mem_singleton.1 LO];exact sH (F8 (yf h4)) _) h2
    exact⟨q1,by rw[q2,qO h4];omega,q3⟩
theorem HX {n u:Int}{x:aT}(h:gY n x)(hu:u≤n)(h2:(cB x u).2.2=0):gY n (cB x u).1∧ ∀m,m∈(cB x u).2.1→m.aE.text.size≤9223372036854775807:=by
  unfold cB at h2⊢
  split
  · rename_i h1;rw[if_pos h1] at h2;exact absurd h2 h1
  rename_i h1;rw[if_neg h1] at h2
  split
  · rename_i h3;rw[if_pos h3] at h2;cases h2
  rename_i h3;rw[if_neg h3] at h2
  split
  · rename_i h4;rw[if_pos h4] at h2;exact absurd h2 h4
  rename_i h4
  have h5:(ur x u).2.2=0:=Classical.not_not.1 h4
  obtain⟨q1,q2,q3⟩:=xo x.log.entries _ _ x.state [] h.2.2.2.2.1 (fun _ q=>absurd q List.not_mem_nil) h5
  refine⟨⟨h.1,h.2.1,?_,?_,q1,h.2.2.2.2.2⟩,q3⟩
  · show 0≤(ur x u).1.index;unfold ur;rw[q2];have:=h.2.2.1;omega
  · show (ur x u).1.index≤n;unfold ur;rw[q2];have:=h.2.2.2.1;omega
end Go.Proofs.YtbjakddkfgjkaaaGreat.Fw
namespace Go.Proofs.YtbjakddkfgjkaaaGreat.Fw
open Go.RowKit
structure aM (t:aH):Prop where
  r3:t.r.length=3
  l0:0≤t.lead
  l2:t.lead≤2
  rs: ∀x,x∈t.r→gY (t.a8.length:Int) x
  cl:t.a8.length≤1073741824
  cs: ∀e,e∈t.a8→e.size≤5000
  ml:t.au.length≤60
  mt: ∀m,m∈t.au→m.aE.text.size≤9223372036854775807
  cc:t.c.length≤9
  cw: ∀x,x∈t.c→x.waits.length≤9
theorem aM.rep {t:aH}(h:aM t){k:Int}(h0:0≤k)(h2:k≤2):gY (t.a8.length:Int) (t.rep k):=h.rs _ (aB (by have:=h.r3;omega))
theorem aM.top {t:aH}(h:aM t):xj t.top∧t.top.base≤(t.a8.length:Int):=⟨(h.rep h.l0 h.l2).1,(h.rep h.l0 h.l2).2.1⟩
namespace aH
theorem gy (t:aH)(n:Int):(t.grow n).a8=t.a8++(t.top.entries.drop ((t.a8.length:Int) - t.top.base).toNat).take (n - (t.a8.length:Int)).toNat:=rfl
theorem zY {t:aH}(n:Int)(hb:t.top.base≤(t.a8.length:Int)):((t.grow n).a8.length:Int)=t.a8.length∨(((t.grow n).a8.length:Int)≤cD t.top∧((t.grow n).a8.length:Int)≤n∧t.a8.length≤(t.grow n).a8.length):=by
  rw[gy,List.length_append,List.length_take,List.length_drop]
  unfold cD
  omega
theorem C4 (t:aH)(n:Int):t.a8.length≤(t.grow n).a8.length:=by rw[gy,List.length_append];omega
theorem uR {t:aH}{n i:Int}(hb:t.top.base≤(t.a8.length:Int))(h0:0≤i):(t.grow n).right i=t.right i:=by
  have ht:(t.grow n).top=t.top:=rfl
  have hl:=zY (t:=t) n hb
  have hle:=t.C4 n
  unfold right
  rw[ht]
  by_cases h1:i<t.a8.length
  · rw[if_pos (by omega),if_pos h1,gy,List.getD_eq_getElem?_getD,List.getD_eq_getElem?_getD,List.getElem?_append_left (by omega)]
  · rw[if_neg h1]
    by_cases h2:i<(t.grow n).a8.length
    · rw[if_pos h2,if_pos (by omega)]
      congr 1
      have h3:=h2
      rw[gy,List.length_append,List.length_take,List.length_drop] at h3
      rw[gy,List.getD_eq_getElem?_getD,List.getD_eq_getElem?_getD,List.getElem?_append_right (by omega),List.getElem?_take_of_lt (by omega),List.getElem?_drop,show ((t.a8.length:Int) - t.top.base).toNat+(i.toNat - t.a8.length)=(i - t.top.base).toNat by omega]
    · rw[if_neg h2]
theorem F9 {t:aH}{n k:Int}(hb:t.top.base≤(t.a8.length:Int))(h0:0≤(t.rep k).log.base):(t.grow n).fH k=t.fH k:=by
  unfold fH
  rw[show (t.grow n).rep k=t.rep k from rfl]
  congr 2
  refine uN fun j _=>?_
  unfold sU
  rw[uR hb (by omega)]
theorem HY {t:aH}{k:Int}(h:(t.rep k).log.base≤(t.a8.length:Int)):t.fH k≤t.a8.length∨(t.fH k≤cD t.top∧t.top.base<t.fH k):=by
  by_cases h1:t.fH k≤t.a8.length
  · exact .inl h1
  · right
    have h2:(dp (t.sU (t.rep k).log) (t.rep k).log.entries.length:Int)=t.fH k - (t.rep k).log.base:=by unfold fH;omega
    have h3:=di (iB (t.sU (t.rep k).log) (t.rep k).log.entries.length) (dp (t.sU (t.rep k).log) (t.rep k).log.entries.length - 1) (by omega)
    have h4:=of_decide_eq_true h3
    unfold right at h4
    rw[if_neg (by omega)] at h4
    split at h4
    · omega
    · cases h4
theorem oU {t:aH}{n:Int}(h:n≤t.a8.length):t.grow n=t:=by
  have e:(t.grow n).a8=t.a8:=by rw[gy,show (n - (t.a8.length:Int)).toNat=0 by omega,List.take_zero,List.append_nil]
  show (⟨t.r,t.c,t.au,(t.grow n).a8,t.lead⟩:aH)=t
  rw[e]
theorem D5 {t:aH}{a b:Int}(hb:t.top.base≤(t.a8.length:Int))(ha:a≤cD t.top∨a≤t.a8.length):(t.grow a).grow b=t.grow (if a<b then b else a):=by
  have hl:((t.grow a).a8.length:Int)=if t.a8.length<a then a else (t.a8.length:Int):=by
    rw[gy,List.length_append,List.length_take,List.length_drop]
    unfold cD at ha
    split<;>omega
  have key:((t.grow a).grow b).a8=(t.grow (if a<b then b else a)).a8:=by
    rw[gy (t.grow a),hl,show (t.grow a).top=t.top from rfl,gy,gy]
    by_cases h1:(t.a8.length:Int)<a
    · rw[if_pos h1,List.append_assoc]
      congr 1
      have e1:(a - t.top.base).toNat=((t.a8.length:Int) - t.top.base).toNat+(a - (t.a8.length:Int)).toNat:=by omega
      rw[e1, ←List.drop_drop]
      by_cases h2:a<b
      · rw[if_pos h2,show (b - (t.a8.length:Int)).toNat=(a - (t.a8.length:Int)).toNat+(b - a).toNat by omega,List.take_add]
      · rw[if_neg h2,show (b - a).toNat=0 by omega,List.take_zero,List.append_nil]
    · rw[if_neg h1,show (a - (t.a8.length:Int)).toNat=0 by omega,List.take_zero,List.append_nil]
      by_cases h2:a<b
      · rw[if_pos h2]
      · rw[if_neg h2,show (b - (t.a8.length:Int)).toNat=0 by omega,show (a - (t.a8.length:Int)).toNat=0 by omega]
  show (⟨t.r,t.c,t.au,((t.grow a).grow b).a8,t.lead⟩:aH)=⟨t.r,t.c,t.au,(t.grow (if a<b then b else a)).a8,t.lead⟩
  rw[key]
end aH
theorem aM.grow {t:aH}(h:aM t)(n:Int):aM (t.grow n):=by
  obtain⟨h1,h2⟩:=h.top
  have hle:=t.C4 n
  refine⟨h.r3,h.l0,h.l2,fun x hx=>(h.rs x hx).mono (by omega),?_,fun e he=>?_,h.ml,h.mt,h.cc,h.cw⟩
  · rcases aH.zY (t:=t) n h2 with h3|h3
    · have:=h.cl;omega
    · have h4:=h1.2.1;have h5:=h1.2.2.1;unfold cD at h3;omega
  · rw[aH.gy] at he
    rcases List.mem_append.1 he with he|he
    · exact h.cs e he
    · exact (h1.2.2.2 e (List.mem_of_mem_drop (List.mem_of_mem_take he))).1
theorem aM.j7 {t:aH}(h:aM t)(k:Int):aM (t.j7 k):=by
  unfold aH.j7
  split
  · exact h
  · exact h.grow _
theorem aM.fe {t:aH}(h:aM t):aM t.fe:=((h.j7 0).j7 1).j7 2
theorem kg {t:aH}(h:aM t){k u:Int}(h0:0≤k)(h2:k≤2)(hu:u≤cD t.top∨u≤t.a8.length)(hz:0≤u):(t.grow u).j7 k=t.grow (t.most k u)∧(t.most k u≤cD t.top∨t.most k u≤t.a8.length)∧0≤t.most k u:=by
  obtain⟨q1,q2⟩:=h.top
  have hr:=h.rep h0 h2
  unfold aH.j7 aH.most
  rw[show (t.grow u).lead=t.lead from rfl]
  split
  · exact⟨rfl,hu,hz⟩
  · rw[aH.F9 q2 hr.1.1,aH.D5 q2 hu]
    refine⟨rfl,?_,?_⟩
    · have:=aH.HY (t:=t) (k:=k) hr.2.1
      split<;>omega
    · split<;>omega
theorem zZ {t:aH}(h:aM t):t.fe=t.grow (t.most 2 (t.most 1 (t.most 0 0))):=by
  obtain⟨a1,a2,a3⟩:=kg h (k:=0) (u:=0) (by omega) (by omega) (.inr (by omega)) (by omega)
  obtain⟨b1,b2,b3⟩:=kg h (k:=1) (by omega) (by omega) a2 a3
  obtain⟨c1,c2,c3⟩:=kg h (k:=2) (by omega) (by omega) b2 b3
  unfold aH.fe
  rw[show t.j7 0=t.grow (t.most 0 0) by rw[←a1,aH.oU (by omega)],b1,c1]
theorem Ga {t:aH}(h:aM t):t.most 2 (t.most 1 (t.most 0 0))≤cD t.top∨t.most 2 (t.most 1 (t.most 0 0))≤t.a8.length:=by
  obtain⟨a1,a2,a3⟩:=kg h (k:=0) (u:=0) (by omega) (by omega) (.inr (by omega)) (by omega)
  obtain⟨b1,b2,b3⟩:=kg h (k:=1) (by omega) (by omega) a2 a3
  exact (kg h (k:=2) (by omega) (by omega) b2 b3).2.1
theorem aM.set {t:aH}(h:aM t){k:Int}{x:aT}(hx:gY (t.a8.length:Int) x):aM (t.set k x):=
  ⟨by show (t.r.set _ _).length=3;rw[List.length_set];exact h.r3,h.l0,h.l2,fun y hy=>(List.mem_or_eq_of_mem_set hy).elim (h.rs y) fun e=>e▸hx,h.cl,h.cs,h.ml,h.mt,h.cc,h.cw⟩
theorem aM.sW {t:aH}(h:aM t)(k:Nat){x:ba}(hx:x.waits.length≤9):aM { t with c:=t.c.set k x }:=
  ⟨h.r3,h.l0,h.l2,h.rs,h.cl,h.cs,h.ml,h.mt,by show (t.c.set _ _).length≤9;rw[List.length_set];exact h.cc,fun y hy=>(List.mem_or_eq_of_mem_set hy).elim (h.cw y) fun e=>e▸hx⟩
theorem aM.z4 {t:aH}(h:aM t){l:List bg}(h1:l.length≤60)(h2: ∀m,m∈l→m.aE.text.size≤9223372036854775807):aM { t with au:=l }:=
  ⟨h.r3,h.l0,h.l2,h.rs,h.cl,h.cs,h1,h2,h.cc,h.cw⟩
theorem D6 {x:ba}{o:vJ}(h:(mStart x o).2=0):(mStart x o).1.waits.length≤9:=by
  unfold mStart at h⊢
  split
  · exact Nat.zero_le _
  rename_i h1
  split
  · exact Nat.zero_le _
  split
  · exact Nat.zero_le _
  split
  · exact Nat.zero_le _
  · have:=(hG (Classical.not_not.1 h1)).2.2.2.2.2.2.1
    simp only[List.length_append,List.length_singleton];omega
theorem D7 {x:ba}{m:bg}(hx:x.waits.length≤9):(bX x m).1.waits.length≤9:=by
  unfold bX
  repeat' split
  all_goals first|exact Nat.zero_le _|exact hx|exact Nat.le_trans (List.length_filter_le _ _) hx
theorem aM.added {t:aH}(h:aM t)(s:ByteArray×Int):aM (t.added s).1:=by
  unfold aH.added
  split
  · exact h
  split
  · rename_i h1;exact h.set (C3 (h.rep h.l0 h.l2) h1)
  · exact h
theorem aM.kI {t:aH}(h:aM t)(a:eP):aM (t.kI a).1:=by
  unfold aH.kI
  split
  · exact h
  split
  · exact h.added _
  split
  · exact h.added _
  split
  · rename_i h1;exact h.sW _ (D6 h1)
  · exact h
theorem aM.told {t:aH}(h:aM t){k many:Int}(h0:0≤k)(h2:k≤2)(h1:(t.told k many).2=0):gY (t.a8.length:Int) (t.told k many).1:=by
  unfold aH.told at h1⊢
  split
  · rename_i q;rw[if_pos q] at h1;exact HT (h.rep h.l0 h.l2).2.2.2.2.2 h1
  rename_i q;rw[if_neg q] at h1
  split
  · exact xn (by omega)
  · rename_i q2;rw[if_neg q2] at h1;exact C3 (h.rep h0 h2) h1
theorem aM.pb {t:aH}(h:aM t){k many:Int}(h0:0≤k)(h2:k≤2):aM (t.pb k many).1:=by
  unfold aH.pb
  split
  · exact h
  split
  · rename_i h1;exact (h.set (h.told h0 h2 h1)).fe
  · exact h
theorem C5: ∀(l:List bg) {L:List bg},L.length≤60→(∀m,m∈L→m.aE.text.size≤9223372036854775807)→(∀m,m∈l→m.aE.text.size≤9223372036854775807)→(l.foldl aH.fF L).length≤60∧ ∀m,m∈l.foldl aH.fF L→m.aE.text.size≤9223372036854775807
  |[],_,h1,h2,_=>⟨h1,h2⟩
  |x::l,L,h1,h2,h3=>by
    rw[List.foldl_cons]
    refine C5 l ?_ ?_ fun m hm=>h3 m (List.mem_cons_of_mem _ hm)
    · unfold aH.fF;split
      · rw[List.length_append,List.length_singleton];omega
      · exact h1
    · unfold aH.fF;split
      · intro m hm
        rcases List.mem_append.1 hm with hm|hm
        · exact h2 m hm
        · rw[List.mem_singleton.1 hm];exact h3 x (List.mem_cons_self ..)
      · exact h2
theorem aM.apply {t:aH}(h:aM t){k many:Int}(h0:0≤k)(h2:k≤2):aM (t.apply k many).1:=by
  unfold aH.apply
  split
  · exact h
  split
  · exact h
  rename_i h1
  obtain⟨q1,q2⟩:=HX (u:=t.upto k many) (h.rep h0 h2) (by unfold aH.upto;omega) (Classical.not_not.1 h1)
  have hs:=h.set (k:=k) q1
  split
  · have hp:=C5 (t.Js k many).2.1 h.ml h.mt q2
    exact hs.z4 hp.1 hp.2
  · exact hs
theorem aM.put {t:aH}(h:aM t){k:Int}{x:aT×Int}(hx:x.2=0→gY (t.a8.length:Int) x.1):aM (t.put k x).1:=by
  unfold aH.put
  split
  · rename_i h1;exact h.set (hx h1)
  · exact h
theorem aM.lead {t:aH}(h:aM t){k:Int}(h0:0≤k)(h2:k≤2):aM { t with lead:=k }:=⟨h.r3,h0,h2,h.rs,h.cl,h.cs,h.ml,h.mt,h.cc,h.cw⟩
theorem aM.kJ {t:aH}(h:aM t)(a:eP):aM (t.kJ a).1:=by
  unfold aH.kJ
  split
  · exact h
  rename_i h1
  split
  · exact h.pb (by omega) (by omega)
  split
  · exact h.apply (by omega) (by omega)
  split
  · split
    · exact h
    · exact (h.lead (by omega) (by omega)).fe
  split
  · exact h.put (HU (h.rep (by omega) (by omega)))
  · exact h.put (HV (by omega) (h.rep (by omega) (by omega)))
theorem aM.dU {t:aH}(h:aM t)(a:eP):aM (t.dU a).1:=by
  have hl:aM (t.left a.k):=h.z4 (by have:=h.ml;simp only[List.length_append,List.length_take,List.length_drop];omega) fun m hm=>(List.mem_append.1 hm).elim (fun q=>h.mt m (List.mem_of_mem_take q)) fun q=>h.mt m (List.mem_of_mem_drop q)
  unfold aH.dU
  split
  · exact h
  rename_i h1
  split
  · split
    · exact h
    · refine h.z4 (by have:=h.ml;simp only[List.length_append,List.length_singleton];omega) fun m hm=>?_
      rcases List.mem_append.1 hm with hm|hm
      · exact h.mt m hm
      · rw[List.mem_singleton.1 hm];exact h.mt _ (aB (by omega))
  split
  · exact hl
  · unfold aH.heard
    split
    · exact hl
    rename_i h3
    split
    · refine hl.sW _ (D7 (hl.cw _ (aB ?_)))
      have:=du (fun x:ba=>decide (x.id=(t.F4 a.k).ag)) (t.left a.k).c
      unfold aH.who at h3⊢
      omega
    · exact hl
theorem aM.act {t:aH}(h:aM t)(a:eP):aM (t.act a).1:=by
  unfold aH.act
  split
  · exact h
  split
  · exact h.kI a
  split
  · exact h.kJ a
  · exact h.dU a
theorem BG {n:Int}(h:n≤9):aM (aH.start n):=by
  refine⟨rfl,Int.le_refl 0,by show (0:Int)≤2;omega,fun x hx=>?_,by show (0:Nat)≤_;omega,fun _ h=>absurd h List.not_mem_nil,by show (0:Nat)≤_;omega,fun _ h=>absurd h List.not_mem_nil,?_,fun x hx=>?_⟩
  · have e:x=dA:=by
      simp only[aH.start,List.mem_cons,List.not_mem_nil,or_false,or_self] at hx
      exact hx
    rw[e];exact xn (by omega)
  · show ((List.range n.toNat).map _).length≤9
    rw[List.length_map,List.length_range];omega
  · obtain⟨i,hi,rfl⟩:=List.mem_map.1 hx
    exact Nat.zero_le _
end Go.Proofs.YtbjakddkfgjkaaaGreat.Fw
namespace Go.Proofs.YtbjakddkfgjkaaaGreat.Fw
open Go.RowKit
structure aS where
  r:Sl aw
  c:Sl av
  au:Sl bg
  a8:Sl ByteArray
  lead:Int
  deriving Inhabited
def aS.abs (t:aS):aH:=⟨t.r.xs.map aw.abs,t.c.xs.map av.abs,t.au.xs,t.a8.xs,t.lead⟩
abbrev aS.pd (t:aS):List Value:=[.slice t.r.A t.r.n t.r.c,.slice t.c.A t.c.n t.c.c,.slice t.au.A t.au.n t.au.c,.slice t.a8.A t.a8.n t.a8.c,.int .i64 t.lead]
structure TK where
  r:Nat
  c:Nat
  m:Nat
  k:Nat
  ty:Nat
def eN (f:List Nat)(r:List aw)(c:List av)(m:List bg)(k:List ByteArray):bz:=
  ⟨f,fun w=>(∀x,x∈r→aJ.sub (· ∈f) w x)∧(∀x,x∈c→aJ.sub (· ∈f) w x)∧(∀x,x∈m→aJ.sub (· ∈f) w x)∧ ∀x,x∈k→aJ.sub (· ∈f) w x,
   fun h p=>⟨fun x hx=>aJ.stay (fun b hb _=>h b hb) (p.1 x hx),fun x hx=>aJ.stay (fun b hb _=>h b hb) (p.2.1 x hx),fun x hx=>aJ.stay (fun b hb _=>h b hb) (p.2.2.1 x hx),fun x hx=>aJ.stay (fun b hb _=>h b hb) (p.2.2.2 x hx)⟩⟩
def nv (K:TK)(b:Nat)(f:List Nat)(t:aS):List bz:=
  [bh b K.ty t.pd,ay K.r t.r.A t.r.c t.r.xs,ay K.c t.c.A t.c.c t.c.xs,ay K.m t.au.A t.au.c t.au.xs,ay K.k t.a8.A t.a8.c t.a8.xs,eN f t.r.xs t.c.xs t.au.xs t.a8.xs]
def bm (K:TK)(b:Nat)(f:List Nat)(t:aS):bz:=cN (nv K b f t)
section
variable {K : TK} {b : Nat} {f : List Nat} {t : aS} {w : World}
theorem Ju (h:(bm K b f t).p w):(bh b K.ty t.pd).p w:=h _ (.head _)
theorem yg (h:(bm K b f t).p w):(eN f t.r.xs t.c.xs t.au.xs t.a8.xs).p w:=h _ (.tail _ (.tail _ (.tail _ (.tail _ (.tail _ (.head _))))))
theorem a7 (h:(bm K b f t).p w):Sl.rd bH w t.r:=Rr (B:=bH) (h _ (.tail _ (.head _))) (fun _ _=>trivial) fun z hz=>aJ.wide (fun _ _=>trivial) ((yg h).1 z hz)
theorem ff (h:(bm K b f t).p w):Sl.rd bH w t.c:=Rr (B:=bH) (h _ (.tail _ (.tail _ (.head _)))) (fun _ _=>trivial) fun z hz=>aJ.wide (fun _ _=>trivial) ((yg h).2.1 z hz)
theorem uS (h:(bm K b f t).p w):Sl.rd bH w t.au:=Rr (B:=bH) (h _ (.tail _ (.tail _ (.tail _ (.head _))))) (fun _ _=>trivial) fun z hz=>aJ.wide (fun _ _=>trivial) ((yg h).2.2.1 z hz)
theorem BH (h:(bm K b f t).p w):Sl.rd bH w t.a8:=Rr (B:=bH) (h _ (.tail _ (.tail _ (.tail _ (.tail _ (.head _)))))) (fun _ _=>trivial) fun z hz=>aJ.wide (fun _ _=>trivial) ((yg h).2.2.2 z hz)
end
theorem HZ {e:Nat}{f:List Nat}{s:Sl aw}{c:List av}{m:List bg}{k:List ByteArray}{w:World}(h1:(ay e s.A s.c s.xs).p w)(h2:(eN f s.xs c m k).p w):Sl.rd bH w s:=Rr (B:=bH) h1 (fun _ _=>trivial) fun z hz=>aJ.wide (fun _ _=>trivial) (h2.1 z hz)
def Ow (r:bz)(w:World):Prop:=r.p w∧r.fp.Nodup∧ ∀b,b∈r.fp→b<w.heap.size
theorem Ow.kp {r:bz}{w w':World}(h:Ow r w)(hk:Kp [] w w'):r.p w':=r.st (fun b hb=>hk.block b (h.2.2 b hb) (by simp)) h.1
theorem Ow.mono {r:bz}{w w':World}(h:Ow r w)(hk:Kp [] w w'):Ow r w':=⟨h.kp hk,h.2.1,fun b hb=>Nat.lt_of_lt_of_le (h.2.2 b hb) hk.size⟩
theorem pq: ∀{R:List bz} {r:bz},r∈R→(R.flatMap bz.fp).Nodup→r.fp.Nodup
  |[],_,hr,_=>by cases hr
  |a::R,r,hr,hn=>by
    rw[List.flatMap_cons] at hn
    have h1:=List.nodup_append.1 hn
    rcases List.mem_cons.1 hr with rfl|hr
    · exact h1.1
    · exact pq hr h1.2.1
theorem WS.ow {ms:List Nat}{w0 w:World}{bs:List Nat}{loc:List fq}{R:List bz}{r:bz}(hS:WS ms w0 bs loc R w)(hr:r∈R):Ow r w:=
  ⟨hS.res _ hr,pq hr (List.nodup_append.1 hS.nd).2.1,fun b hb=>(hS.lo b (List.mem_append_right _ (List.mem_flatMap.2 ⟨r,hr,hb⟩))).2⟩
theorem Ow.start {r:bz}{w:World}(h:Ow r w):WS r.fp w [] [] [r] w:=WS.eG w r h.1 h.2.1 h.2.2
def iE (t:aS):Prop:=t.r.ok∧t.c.ok∧t.au.ok∧t.a8.ok
theorem ct {K:TK}{b:Nat}{f:List Nat}{t:aS}{w:World}(h:(bm K b f t).p w):iE t:=⟨(a7 h).ok,(ff h).ok,(uS h).ok,(BH h).ok⟩
def aS.jP (t:aS)(i:Nat)(y:aw):aS:={ t with r:=⟨t.r.A,t.r.c,t.r.xs.set i y⟩}
def aS.sW (t:aS)(i:Nat)(y:av):aS:={ t with c:=⟨t.c.A,t.c.c,t.c.xs.set i y⟩}
theorem gP (t:aS){i:Nat}{k:Int}(hk:k=(i:Int))(y:aw):(t.jP i y).abs=t.abs.set k y.abs:=by
  subst hk
  simp[aS.abs,aS.jP,aH.set,List.map_set]
theorem qR (t:aS){i:Nat}{k:Int}(hk:k=(i:Int))(y:av):(t.sW i y).abs={ t.abs with c:=t.abs.c.set k.toNat y.abs }:=by
  subst hk
  simp[aS.abs,aS.sW,List.map_set]
theorem jd (t:aS){i:Nat}{k:Int}(hk:k=(i:Int)):t.abs.rep k=(t.r.at i).abs:=by
  subst hk
  show (t.r.xs.map aw.abs).getD _ default=_
  rw[Int.toNat_natCast,List.getD_eq_getElem?_getD,List.getElem?_map]
  unfold Sl.at
  rw[List.getD_eq_getElem?_getD]
  cases t.r.xs[i]? <;>rfl
theorem z5 (t:aS){i:Nat}{k:Int}(hk:k=(i:Int)):t.abs.yc k=(t.c.at i).abs:=by
  subst hk
  show (t.c.xs.map av.abs).getD _ default=_
  rw[Int.toNat_natCast,List.getD_eq_getElem?_getD,List.getElem?_map]
  unfold Sl.at
  rw[List.getD_eq_getElem?_getD]
  cases t.c.xs[i]? <;>rfl
theorem BI (t:aS):t.abs.r.length=t.r.n∧t.abs.c.length=t.c.n∧t.abs.au.length=t.au.n∧t.abs.a8.length=t.a8.n:=⟨List.length_map ..,List.length_map ..,rfl,rfl⟩
section
variable {C : Cx} {Q : Exit → Act → World → Prop} {R0 R : List bz} {m : eO} {K : TK} {b : Nat} {f : List Nat} {t : aS}
theorem lN (h:JM C Q R0 (bh b K.ty t.pd::ay K.r t.r.A t.r.c t.r.xs::ay K.c t.c.A t.c.c t.c.xs::ay K.m t.au.A t.au.c t.au.xs::ay K.k t.a8.A t.a8.c t.a8.xs::eN f t.r.xs t.c.xs t.au.xs t.a8.xs::R) m):JM C Q R0 (bm K b f t::R) m:=
  og _ (fun bs w hS=>⟨hS.kp,hS.len,hS.loc,fun r hr=>by
    have h0:=hS.res _ (.head _)
    simp only[List.mem_cons] at hr
    rcases hr with rfl|rfl|rfl|rfl|rfl|rfl|hr
    · exact h0 _ (.head _)
    · exact h0 _ (.tail _ (.head _))
    · exact h0 _ (.tail _ (.tail _ (.head _)))
    · exact h0 _ (.tail _ (.tail _ (.tail _ (.head _))))
    · exact h0 _ (.tail _ (.tail _ (.tail _ (.tail _ (.head _)))))
    · exact h0 _ (.tail _ (.tail _ (.tail _ (.tail _ (.tail _ (.head _))))))
    · exact hS.res _ (.tail _ hr),
    by have h1:=hS.nd;simpa[bm,nv,cN] using h1,by have h1:=hS.lo;simpa[bm,nv,cN] using h1⟩) h
theorem WS.OH {ms:List Nat}{w0 w:World}{bs:List Nat}{loc:List fq}{vs:List Value}{r:List aw}{c:List av}{ml:List bg}{k:List ByteArray}(t':aS)(hS:WS ms w0 bs loc (bh b K.ty vs::ay K.r t'.r.A t'.r.c t'.r.xs::ay K.c t'.c.A t'.c.c t'.c.xs::ay K.m t'.au.A t'.au.c t'.au.xs::ay K.k t'.a8.A t'.a8.c t'.a8.xs::eN f r c ml k::R) w)
    (hp:(eN f r c ml k).p w→(eN f t'.r.xs t'.c.xs t'.au.xs t'.a8.xs).p w) (hv:vs=t'.pd):WS ms w0 bs loc (bm K b f t'::R) w:=by
  subst hv
  exact⟨hS.kp,hS.len,hS.loc,fun q hq=>by
    rw[List.mem_cons] at hq
    rcases hq with rfl|hq
    · intro q hq
      simp only[nv,List.mem_cons,List.mem_nil_iff,or_false] at hq
      rcases hq with rfl|rfl|rfl|rfl|rfl|rfl
      · exact hS.res _ (.head _)
      · exact hS.res _ (.tail _ (.head _))
      · exact hS.res _ (.tail _ (.tail _ (.head _)))
      · exact hS.res _ (.tail _ (.tail _ (.tail _ (.head _))))
      · exact hS.res _ (.tail _ (.tail _ (.tail _ (.tail _ (.head _)))))
      · exact hp (hS.res _ (.tail _ (.tail _ (.tail _ (.tail _ (.tail _ (.head _)))))))
    · exact hS.res _ (.tail _ (.tail _ (.tail _ (.tail _ (.tail _ (.tail _ hq)))))),
    by have h1:=hS.nd;simpa[bm,nv,cN,eN] using h1,by have h1:=hS.lo;simpa[bm,nv,cN,eN] using h1⟩
theorem iU {vs:List Value}{r:List aw}{c:List av}{ml:List bg}{k:List ByteArray}(t':aS)(hp: ∀w,(eN f r c ml k).p w→(eN f t'.r.xs t'.c.xs t'.au.xs t'.a8.xs).p w)(h:JM C Q R0 (bm K b f t'::R) m)(hv:vs=t'.pd:=by rfl):
    JM C Q R0 (bh b K.ty vs::ay K.r t'.r.A t'.r.c t'.r.xs::ay K.c t'.c.A t'.c.c t'.c.xs::ay K.m t'.au.A t'.au.c t'.au.xs::ay K.k t'.a8.A t'.a8.c t'.a8.xs::eN f r c ml k::R) m:=
  og _ (fun bs w hS=>WS.OH t' hS (hp w) hv) h
theorem pT (s off n:Nat)(h: ∀w,Kp C.m C.w0 w→(∀r,r∈R→r.p w)→(bm K b f t).p w):Pk C R [(s,.ext ((t.pd.drop off).take n))] [] [((⟨b,0,none⟩:Addr).add off,(t.pd.drop off).take n)]:=
  ⟨fun _ _ _=>trivial,fun w hk hr=>⟨(l9 (Ju (h w hk hr))).part off n,trivial⟩⟩
theorem G9 {fp:List Nat}{y:aw}(i:Nat)(J:JM C Q [] (bm K b (f++fp) (t.jP i y)::R) (nx C (iS m (.v undef))))(hi:i<t.r.n:=by omega)(hv:qK C m=some (t.r.ad.add (i*aR.size aw)):=by kernel_rfl)(hcell:oo C m=aR.cells y:=by kernel_rfl)(hL:fJ m m.s.loc=fK m:=by kernel_rfl):JM C Q [] (bF fp y::bm K b f t::R) m:=by
  refine cb (lN (Bu (cL (LI i y ?_ hi (by intros;exact List.nil_sublist _) hv hcell hL))))
  intro L2 r8 _
  subst r8
  refine cb (Bu (fc (eN (f++fp) (t.r.xs.set i y) t.c.xs t.au.xs t.a8.xs) (List.Perm.refl _) (fun w h1 h2=>?_) (dx (dx (dx (x5 (dx (iU (t.jP i y) (fun _ h=>h) J ?_))))))))
  · have w1: ∀{α:Type} [aJ α] {x:α},aJ.sub (· ∈f) w x→aJ.sub (· ∈f++fp) w x:=fun h=>aJ.wide (fun b hb=>List.mem_append_left _ hb) h
    refine⟨fun x hx=>?_,fun x hx=>w1 (h1.2.1 x hx),fun x hx=>w1 (h1.2.2.1 x hx),fun x hx=>w1 (h1.2.2.2 x hx)⟩
    rcases mem_set hx with rfl|hx
    · exact aJ.wide (fun b hb=>List.mem_append_right _ hb) h2
    · exact w1 (h1.1 x hx)
  · simp[aS.jP,Sl.n]
theorem NH {fp:List Nat}{y:av}(i:Nat)(J:JM C Q [] (bm K b (f++fp) (t.sW i y)::R) (nx C (iS m (.v undef))))(hi:i<t.c.n:=by omega)(hv:qK C m=some (t.c.ad.add (i*aR.size av)):=by kernel_rfl)(hcell:oo C m=aR.cells y:=by kernel_rfl)(hL:fJ m m.s.loc=fK m:=by kernel_rfl):JM C Q [] (bF fp y::bm K b f t::R) m:=by
  refine cb (lN (Bu (jZ (LI i y ?_ hi (by intros;exact List.nil_sublist _) hv hcell hL))))
  intro L2 r8 _
  subst r8
  refine cb (Bu (fc (eN (f++fp) t.r.xs (t.c.xs.set i y) t.au.xs t.a8.xs) (List.Perm.refl _) (fun w h1 h2=>?_) (dx (dx (jZ (dx (dx (iU (t.sW i y) (fun _ h=>h) J ?_))))))))
  · have w1: ∀{α:Type} [aJ α] {x:α},aJ.sub (· ∈f) w x→aJ.sub (· ∈f++fp) w x:=fun h=>aJ.wide (fun b hb=>List.mem_append_left _ hb) h
    refine⟨fun x hx=>w1 (h1.1 x hx),fun x hx=>?_,fun x hx=>w1 (h1.2.2.1 x hx),fun x hx=>w1 (h1.2.2.2 x hx)⟩
    rcases mem_set hx with rfl|hx
    · exact aJ.wide (fun b hb=>List.mem_append_right _ hb) h2
    · exact w1 (h1.2.1 x hx)
  · simp[aS.sW,Sl.n]
end
theorem WS.LP {ms:List Nat}{w0 w w':World}{bs:List Nat}{loc:List fq}{R:List bz}{r0 r:bz}(h:WS ms w0 bs loc (r0::R) w)(i:Nat){ty:Nat}{cs cs':List SV}(hb:loc[i]? =some ⟨ty,cs⟩)(k:Kp (bs.getD i 0::r0.fp) w w')
    (hw:w'.heap[bs.getD i 0]? =some (.cells (cs'.map (den bs)).toArray ty (0,0))) (hr:r.p w') (hn:(bs.getD i 0::r.fp).Nodup) (rD: ∀b,b∈r.fp→b∈r0.fp∨(w.heap.size≤b∧b<w'.heap.size)):WS ms w0 bs (loc.set i ⟨ty,cs'⟩) (r::R) w':=by
  have hd:=h.Cz
  have hl:=h.len
  have hi:i<loc.length:=(List.getElem?_eq_some_iff.1 hb).1
  have E3:i<bs.length:=by omega
  have hg:bs.getD i 0=bs[i]:=by simp[E3]
  have tH:=h.lF hb
  have h1:=h.nd
  rw[List.flatMap_cons] at h1
  have h2:=List.nodup_append.1 h1
  have h3:=List.nodup_append.1 h2.2.1
  have Dr: ∀b,b∈r0.fp→b∈bs++(r0::R).flatMap bz.fp:=fun b hb=>by
    rw[List.flatMap_cons];exact List.mem_append_right _ (List.mem_append_left _ hb)
  have kx: ∀x,x<w.heap.size→x≠bs.getD i 0→x∉r0.fp→w'.heap[x]? =w.heap[x]?:=fun x hx DP R8=>k.block x hx (by rw[List.mem_cons];rintro (h|h);exact DP h;exact R8 h)
  have G5:WS ms w0 bs (loc.set i ⟨ty,cs'⟩) R w':=by
    refine⟨h.kp.step k fun x hx=>?_,by simp[hl],fun j c hc lr=>?_,fun q hq=>?_,hd.nd,fun b hb=>⟨(hd.lo b hb).1,Nat.lt_of_lt_of_le (hd.lo b hb).2 k.size⟩⟩
    · rcases List.mem_cons.1 hx with rfl|hx
      · exact (h.lo _ (List.mem_append_left _ tH)).1.symm
      · exact (h.lo _ (Dr x hx)).1.symm
    · by_cases jf:i=j
      · subst jf
        rw[List.getElem?_set_self hi] at hc
        injection hc with hc
        subst hc
        exact hw
      · rw[List.getElem?_set_ne jf] at hc
        have hj:j<loc.length:=(List.getElem?_eq_some_iff.1 hc).1
        have Iu:j<bs.length:=by omega
        have Kt:bs.getD j 0=bs[j]:=by simp[Iu]
        rw[kx _ (hd.lo _ (List.mem_append_left _ (h.lF hc))).2 (by
          rw[hg,Kt]
          intro he
          exact jf ((List.getElem?_inj E3 h2.1).1 (by rw[List.getElem?_eq_getElem E3,List.getElem?_eq_getElem Iu,he]))) fun hm=>h2.2.2 _ (h.lF hc) _ (List.mem_append_left _ hm) rfl]
        exact hd.loc j c hc lr
    · refine q.st (fun x hx=>?_) (hd.res q hq)
      have IG:x∈R.flatMap bz.fp:=List.mem_flatMap.2 ⟨q,hq,hx⟩
      refine kx x (hd.lo x (List.mem_append_right _ IG)).2 ?_ fun hm=>h3.2.2 _ hm _ IG rfl
      rintro rfl
      exact h2.2.2 _ tH _ (List.mem_append_right _ IG) rfl
  refine G5.new r hr (List.nodup_cons.1 hn).2 fun b AQ=>?_
  rcases rD b AQ with hm|⟨h4,h5⟩
  · refine⟨(h.lo b (Dr b hm)).1,Nat.lt_of_lt_of_le (h.lt (Dr b hm)) k.size,fun hq=>?_⟩
    rcases List.mem_append.1 hq with hq|hq
    · exact h2.2.2 b hq b (List.mem_append_left _ hm) rfl
    · exact h3.2.2 b hm b hq rfl
  · refine⟨.inl (Nat.le_trans h.kp.size h4),h5,fun hm=>?_⟩
    have:=hd.lt hm
    omega
def ib (K:TK)(f:List Nat)(t:aS):bz:=cN [ay K.r t.r.A t.r.c t.r.xs,ay K.c t.c.A t.c.c t.c.xs,ay K.m t.au.A t.au.c t.au.xs,ay K.k t.a8.A t.a8.c t.a8.xs,eN f t.r.xs t.c.xs t.au.xs t.a8.xs]
theorem yh {K:TK}{b:Nat}{f:List Nat}{t:aS}{w:World}:(bm K b f t).p w↔(bh b K.ty t.pd).p w∧(ib K f t).p w:=by
  constructor
  · exact fun h=>⟨h _ (.head _),fun q hq=>h q (.tail _ hq)⟩
  · rintro⟨h1,h2⟩ q hq
    rcases List.mem_cons.1 hq with rfl|hq
    · exact h1
    · exact h2 q hq
theorem z6 (K:TK)(b:Nat)(f:List Nat)(t:aS):(bm K b f t).fp=b::(ib K f t).fp:=rfl
section
variable {C : Cx} {Q : Exit → Act → World → Prop} {R0 R : List bz} {m : eO}
theorem NI {σ:Type}{iu:Nat}{vs:List Nat→List Value}{v:σ→Value}{F:σ→Prop}{K:TK}{f:List Nat}{t:aS}{g:σ→List Nat×aS}(i:Nat)(J: ∀y,F y→JM C Q R0 (ib K (g y).1 (g y).2::R) (nx C (Jj m (.v (v y)) i K.ty (g y).2.pd)))(cH: ∀args w,(callFunc iu args).run C.P w=.ok (.enter iu args) w)(hc: ∀bs w,Ow (bm K (bs.getD i 0) f t) w→Calls C.P iu (vs bs).toArray w fun e w'=> ∃y,e=.returned (v y)∧F y∧dh (bm K (bs.getD i 0) f t) w w' (bm K (bs.getD i 0) (g y).1 (g y).2))(hR:R0=[]:=by rfl)(hv: ∀bs,vw C.n (k5 bs) m=some (iu,vs bs):=by intro bs;kernel_rfl)(hb:m.s.loc[i]? =some ⟨K.ty,t.pd.map .v⟩:=by kernel_rfl)(hL: ∀y,fJ m (Bx m i K.ty (g y).2.pd)=fK m:=by intro y;kernel_rfl):JM C Q R0 (ib K f t::R) m:=by
  subst hR
  refine om (σ:={ y:σ // F y }) (fun y=>.v (v y.1)) (fun y=>Bx m i K.ty (g y.1).2.pd) (fun y=>ib K (g y.1).1 (g y.1).2::R) cH (fun bs w hS=>?_) (fun y=>J y.1 y.2) (fun y=>hL y.1) (fun _=>List.nil_sublist _) hv
  have hB:=By hS hb (by rfl)
  have hh:=hS.lH
  have tH:=hS.lF hb
  have hO:Ow (bm K (bs.getD i 0) f t) w:=by
    refine⟨yh.2 ⟨hB,hh.1⟩,?_,fun b hb=>?_⟩
    · rw[z6]
      refine List.nodup_cons.2 ⟨fun hm=>?_,hh.2.1⟩
      exact (List.nodup_append.1 hS.nd).2.2 _ tH _ (by rw[List.flatMap_cons];exact List.mem_append_left _ hm) rfl
    · rw[z6] at hb
      rcases List.mem_cons.1 hb with rfl|hb
      · exact (hS.lo _ (List.mem_append_left _ tH)).2
      · exact hh.2.2 b hb
  refine (hc bs w hO).mono fun _ w' ⟨y,h1,h2,h3,h4,h5,h6⟩=>⟨⟨y,h2⟩,h1,?_⟩
  refine hS.LP i hb h3 (x7 (yh.1 h4).1 bs) (yh.1 h4).2 h5 fun b hb=>?_
  rcases h6 b (List.mem_cons_of_mem _ hb) with h7|h7
  · rcases List.mem_cons.1 h7 with rfl|h7
    · exact absurd hb (List.nodup_cons.1 h5).1
    · exact .inl h7
  · exact .inr h7
end
section
variable {t : aS}
theorem cu (h:aM t.abs):t.r.n=3∧0≤t.lead∧t.lead≤2∧t.a8.n≤1073741824∧t.au.n≤60∧t.c.n≤9:=by
  obtain⟨e1,e2,_,_⟩:=BI t
  exact⟨e1▸h.r3,h.l0,h.l2,h.cl,h.ml,e2▸h.cc⟩
theorem ew (h:aM t.abs){i:Nat}(hi:i<3):0≤(t.r.at i).log.base∧(t.r.at i).log.base≤1073741424∧(t.r.at i).log.entries.n≤400∧(t.r.at i).log.base≤(t.a8.n:Int)∧0≤(t.r.at i).state.index∧(t.r.at i).state.index≤(t.a8.n:Int):=by
  obtain⟨h1,h2,h3,h4,_⟩:=h.rep (k:=(i:Int)) (by omega) (by omega)
  rw[jd t rfl] at h1 h2 h3 h4
  exact⟨h1.1,h1.2.1,h1.2.2.1,h2,h3,h4⟩
theorem D8 (h:aM t.abs){i:Nat}(hi:i<3):lens (t.r.at i).state.abs:=by
  obtain⟨_,_,_,_,h5,_⟩:=h.rep (k:=(i:Int)) (by omega) (by omega)
  rw[jd t rfl] at h5
  exact h5
theorem r9 (h:aM t.abs){d:Nat}(hd:t.lead=(d:Int)):t.abs.top=(t.r.at d).log.abs:=by
  show (t.abs.rep t.lead).log=_
  rw[jd t hd]
  rfl
theorem sa {i:Nat}{z:Int}(hz:z=(i:Int))(hi:i<t.a8.n):t.abs.right z=some (t.a8.at i):=by
  subst hz
  unfold aH.right
  rw[if_pos (show (i:Int)<(t.abs.a8.length:Int) from Int.ofNat_lt.2 hi),Int.toNat_natCast]
  rfl
theorem sb (h:aM t.abs){d i:Nat}(hd:t.lead=(d:Int)){z:Int}(hz:(t.a8.n:Int)≤z)(h1:z=(t.r.at d).log.base+(i:Int))(h2:i<(t.r.at d).log.entries.n):t.abs.right z=some ((t.r.at d).log.entries.at i):=by
  unfold aH.right
  rw[r9 h hd,if_neg (show ¬z<(t.abs.a8.length:Int) by show ¬z<(t.a8.n:Int);omega),if_pos ⟨by show (t.r.at d).log.base≤z;omega,by show z<(t.r.at d).log.base+((t.r.at d).log.entries.n:Int);omega⟩,show (z - (t.r.at d).log.abs.base).toNat=i by show (z - (t.r.at d).log.base).toNat=i;omega]
  rfl
theorem pQ (h:aM t.abs){d:Nat}(hd:t.lead=(d:Int)){z:Int}(hz:(t.a8.n:Int)≤z)(h2:z<(t.r.at d).log.base∨(t.r.at d).log.base+((t.r.at d).log.entries.n:Int)≤z):t.abs.right z=none:=by
  unfold aH.right
  rw[r9 h hd,if_neg (show ¬z<(t.abs.a8.length:Int) by show ¬z<(t.a8.n:Int);omega),if_neg]
  rintro⟨h3,h4⟩
  have Oo:(t.r.at d).log.base≤z:=h3
  have TF:z<(t.r.at d).log.base+((t.r.at d).log.entries.n:Int):=h4
  omega
def BJ (t:aS)(i:Nat)(j:Nat):Prop:=j≤(t.r.at i).log.entries.n∧bE (t.abs.sU (t.r.at i).log.abs) j=true
theorem Gb (t:aS)(i:Nat):BJ t i 0:=⟨Nat.zero_le _,rfl⟩
theorem z7 {i j:Nat}{k:Int}(hk:k=(i:Int))(h:BJ t i j)(hj:(t.r.at i).log.entries.n≤j):t.abs.fH k=(t.r.at i).log.base+(j:Int):=by
  unfold aH.fH
  rw[jd t hk]
  show (t.r.at i).log.base+((dp (t.abs.sU (t.r.at i).log.abs) (t.r.at i).log.entries.n:Nat):Int)=_
  rw[oq (j:=j) h.2 h.1 (.inl (Nat.le_antisymm h.1 hj))]
theorem ot {i j:Nat}{k:Int}(hk:k=(i:Int))(h:BJ t i j)(hb:t.abs.sU (t.r.at i).log.abs j=false):t.abs.fH k=(t.r.at i).log.base+(j:Int):=by
  unfold aH.fH
  rw[jd t hk]
  show (t.r.at i).log.base+((dp (t.abs.sU (t.r.at i).log.abs) (t.r.at i).log.entries.n:Nat):Int)=_
  rw[oq (j:=j) h.2 h.1 (.inr hb)]
theorem sc {i j:Nat}(h:BJ t i j)(hj:j<(t.r.at i).log.entries.n)(hb:t.abs.right ((t.r.at i).log.base+(j:Int))=some ((t.r.at i).log.entries.at j)):BJ t i (j+1):=
  ⟨hj,by simp only[bE,h.2,Bool.true_and];exact decide_eq_true hb⟩
theorem qT {i j:Nat}{o:Option ByteArray}(hb:t.abs.right ((t.r.at i).log.base+(j:Int))=o)(hn: ¬o=some ((t.r.at i).log.entries.at j)):t.abs.sU (t.r.at i).log.abs j=false:=
  decide_eq_false fun h=>hn (hb.symm.trans h)
theorem lO (h:aM t.abs){k:Int}(h0:0≤k)(h2:k≤2):0≤t.abs.fH k∧t.abs.fH k≤1073741824:=by
  obtain⟨h1,_⟩:=h.rep h0 h2
  have h3:=kH (t.abs.sU (t.abs.rep k).log) (t.abs.rep k).log.entries.length
  obtain⟨h4,h5,h6,_⟩:=h1
  unfold aH.fH
  omega
def iK (t:aH):Nat→Int
  |0=>0
  |n+1=>t.most (n:Int) (iK t n)
theorem D9 {t:aH}{n:Nat}(h: ¬(n:Int)=t.lead):iK t (n+1)=if t.fH (n:Int)>iK t n then t.fH (n:Int) else iK t n:=by
  show t.most _ _=_
  unfold aH.most
  rw[if_neg h]
theorem BK {t:aH}{n:Nat}(h:(n:Int)=t.lead):iK t (n+1)=iK t n:=by
  show t.most _ _=_
  unfold aH.most
  rw[if_pos h]
theorem BL (h:aM t.abs):iK t.abs 3≤(t.r.at t.lead.toNat).log.base+((t.r.at t.lead.toNat).log.entries.n:Int)∨iK t.abs 3≤(t.a8.n:Int):=by
  have h1:=Ga h
  rw[r9 h (d:=t.lead.toNat) (Int.toNat_of_nonneg h.l0).symm] at h1
  exact h1
def z8 (t:aS)(U:Int)(m:Nat)(L:List ByteArray):Prop:=
  L=t.a8.xs++((t.r.at t.lead.toNat).log.entries.xs.drop ((t.a8.n:Int) - (t.r.at t.lead.toNat).log.base).toNat).take m∧L.length=t.a8.n+m∧(m=0∨((t.a8.n+m:Nat):Int)≤U)
theorem H0 (t:aS)(U:Int):z8 t U 0 t.a8.xs:=⟨by simp,rfl,.inl rfl⟩
theorem BM {U:Int}{m j:Nat}{L:List ByteArray}(h:z8 t U m L)(hl:((L.length:Nat):Int)<U)(hb:(t.r.at t.lead.toNat).log.base≤(t.a8.n:Int))(hj:(j:Int)=(L.length:Int) - (t.r.at t.lead.toNat).log.base)(hn:j<(t.r.at t.lead.toNat).log.entries.n):z8 t U (m+1) (L++[(t.r.at t.lead.toNat).log.entries.at j]):=by
  obtain⟨h1,h2,h3⟩:=h
  refine⟨?_,by rw[List.length_append,h2];rfl,.inr (by omega)⟩
  have e:j=((t.a8.n:Int) - (t.r.at t.lead.toNat).log.base).toNat+m:=by omega
  rw[←rP (E:=(t.r.at t.lead.toNat).log.entries) (by omega) e, ←List.append_assoc, ←h1]
theorem Ea {U:Int}{m c:Nat}{A:Option Addr}{L:List ByteArray}(hk:aM t.abs)(h:z8 t U m L)(hl: ¬((L.length:Nat):Int)<U):(⟨t.r,t.c,t.au,⟨A,c,L⟩,t.lead⟩:aS).abs=t.abs.grow U:=by
  obtain⟨h1,h2,h3⟩:=h
  unfold aH.grow
  rw[r9 hk (d:=t.lead.toNat) (Int.toNat_of_nonneg hk.l0).symm]
  show (⟨_,_,_,L,_⟩:aH)=⟨_,_,_,t.a8.xs++((t.r.at t.lead.toNat).log.entries.xs.drop ((t.a8.n:Int) - (t.r.at t.lead.toNat).log.base).toNat).take (U - (t.a8.n:Int)).toNat,_⟩
  rw[show (U - (t.a8.n:Int)).toNat=m by omega, ←h1]
  rfl
theorem z9 (h:aM t.abs):t.abs.grow (iK t.abs 3)=t.abs.fe:=(zZ h).symm
theorem Eb {f:List Nat}{t':aS}{d:aH}(h:t'.abs=d)(hd:aM d){r:List aw}{c:List av}{m:List bg}{k:List ByteArray}(e1:t'.r.xs=r)(e2:t'.c.xs=c)(e3:t'.au.xs=m): ∀w,(eN f r c m k).p w→(eN f t'.r.xs t'.c.xs t'.au.xs t'.a8.xs).p w:=fun w hp=>by
  subst e1 e2 e3
  refine⟨hp.1,hp.2.1,hp.2.2.1,fun x hx=>?_⟩
  have h1:=hd.cs x (by rw[←h];exact hx)
  show x.size≤9223372036854775807
  omega
theorem C6 {o:Option ByteArray}{s:ByteArray}(h:o.isSome=true)(h2:o.getD emp=s):o=some s:=by
  cases o with
  |none=>cases h
  |some x=>exact congrArg some h2
theorem H2 {o:Option ByteArray}(h:o.isSome=false):o=none:=by
  cases o with
  |none=>rfl
  |some x=>cases h
theorem Jv (h:aM t.abs){i j:Nat}(hi:i<3)(hj:j<(t.r.at i).log.entries.n): ¬(t.r.at i).log.entries.at j=emp:=by
  obtain⟨h1,_⟩:=h.rep (k:=(i:Int)) (by omega) (by omega)
  rw[jd t rfl] at h1
  exact (h1.2.2.2 _ (aB (L:=(t.r.at i).log.entries.xs) (i:=j) hj)).2
end
end Go.Proofs.YtbjakddkfgjkaaaGreat.Fw
namespace Go.Proofs.YtbjakddkfgjkaaaGreat.Fw
open Go.RowKit
theorem Jw {K:TK}{b:Nat}{f:List Nat}{t:aS}{x:Nat}(h:x∈f):x∈(bm K b f t).fp:=by
  show x∈(nv K b f t).flatMap bz.fp
  exact List.mem_flatMap.2 ⟨eN f t.r.xs t.c.xs t.au.xs t.a8.xs,(.tail _ (.tail _ (.tail _ (.tail _ (.tail _ (.head _)))))),h⟩
def qU (K:TK)(b:Nat)(f:List Nat)(t:aS)(q:bz):bz:=
  ⟨(bm K b f t).fp,fun w=>(bm K b f t).p w∧((∀x,x∈q.fp→x∈f)→q.p w),fun h p=>⟨(bm K b f t).st h p.1,fun hs=>q.st (fun x hx=>h x (Jw (hs x hx))) (p.2 hs)⟩⟩
def m8 (f:List Nat)(r:List aw)(c:List av)(m:List bg)(k:List ByteArray)(q:bz):bz:=
  ⟨f,fun w=>(eN f r c m k).p w∧((∀x,x∈q.fp→x∈f)→q.p w),fun h p=>⟨(eN f r c m k).st h p.1,fun hs=>q.st (fun x hx=>h x (hs x hx)) (p.2 hs)⟩⟩
theorem Ow.x {K:TK}{b:Nat}{f:List Nat}{t:aS}{q:bz}{w:World}(h:Ow (qU K b f t q) w):Ow (bm K b f t) w:=⟨h.1.1,h.2.1,h.2.2⟩
theorem QF {f:List Nat}{q:bz}: ∀x,x∈q.fp→x∈f++q.fp:=fun _ h=>List.mem_append_right _ h
section
variable {C : Cx} {Q : Exit → Act → World → Prop} {R0 R : List bz} {m : eO} {K : TK} {b : Nat} {f : List Nat} {t : aS} {q : bz}
theorem C7 (h:JM C Q R0 (bh b K.ty t.pd::ay K.r t.r.A t.r.c t.r.xs::ay K.c t.c.A t.c.c t.c.xs::ay K.m t.au.A t.au.c t.au.xs::ay K.k t.a8.A t.a8.c t.a8.xs::m8 f t.r.xs t.c.xs t.au.xs t.a8.xs q::R) m):JM C Q R0 (qU K b f t q::R) m:=
  og _ (fun bs w hS=>⟨hS.kp,hS.len,hS.loc,fun r hr=>by
    have h0:=hS.res _ (.head _)
    simp only[List.mem_cons] at hr
    rcases hr with rfl|rfl|rfl|rfl|rfl|rfl|hr
    · exact h0.1 _ (.head _)
    · exact h0.1 _ (.tail _ (.head _))
    · exact h0.1 _ (.tail _ (.tail _ (.head _)))
    · exact h0.1 _ (.tail _ (.tail _ (.tail _ (.head _))))
    · exact h0.1 _ (.tail _ (.tail _ (.tail _ (.tail _ (.head _)))))
    · exact⟨h0.1 _ (.tail _ (.tail _ (.tail _ (.tail _ (.tail _ (.head _)))))),h0.2⟩
    · exact hS.res _ (.tail _ hr),
    by have h1:=hS.nd;simpa[qU,m8,eN,bm,nv,cN] using h1,by have h1:=hS.lo;simpa[qU,m8,eN,bm,nv,cN] using h1⟩) h
theorem oV {vs:List Value}{r:List aw}{c:List av}{ml:List bg}{k:List ByteArray}(t':aS)(hp: ∀w,(eN f r c ml k).p w→(eN f t'.r.xs t'.c.xs t'.au.xs t'.a8.xs).p w)(h:JM C Q R0 (qU K b f t' q::R) m)(hv:vs=t'.pd:=by rfl):
    JM C Q R0 (bh b K.ty vs::ay K.r t'.r.A t'.r.c t'.r.xs::ay K.c t'.c.A t'.c.c t'.c.xs::ay K.m t'.au.A t'.au.c t'.au.xs::ay K.k t'.a8.A t'.a8.c t'.a8.xs::m8 f r c ml k q::R) m:=
  og _ (fun bs w hS=>by
    subst hv
    exact⟨hS.kp,hS.len,hS.loc,fun z hz=>by
      rw[List.mem_cons] at hz
      rcases hz with rfl|hz
      · have h6:=hS.res _ (.tail _ (.tail _ (.tail _ (.tail _ (.tail _ (.head _))))))
        refine⟨?_,h6.2⟩
        intro z hz
        simp only[nv,List.mem_cons,List.mem_nil_iff,or_false] at hz
        rcases hz with rfl|rfl|rfl|rfl|rfl|rfl
        · exact hS.res _ (.head _)
        · exact hS.res _ (.tail _ (.head _))
        · exact hS.res _ (.tail _ (.tail _ (.head _)))
        · exact hS.res _ (.tail _ (.tail _ (.tail _ (.head _))))
        · exact hS.res _ (.tail _ (.tail _ (.tail _ (.tail _ (.head _)))))
        · exact hp _ h6.1
      · exact hS.res _ (.tail _ (.tail _ (.tail _ (.tail _ (.tail _ (.tail _ hz)))))),
      by have h1:=hS.nd;simpa[qU,m8,eN,bm,nv,cN] using h1,by have h1:=hS.lo;simpa[qU,m8,eN,bm,nv,cN] using h1⟩) h
theorem C8 (h:JM C Q R0 (bm K b f t::R) m):JM C Q R0 (qU K b f t q::R) m:=eu (bm K b f t) (List.Sublist.refl _) (fun _ p=>p.1) h
theorem LQ {y:aw}(i:Nat)(J:JM C Q [] (qU K b (f++q.fp) (t.jP i y) q::R) (nx C (iS m (.v undef))))(hq: ∀w,q.p w→aJ.sub (· ∈q.fp) w y)(hi:i<t.r.n:=by omega)(hv:qK C m=some (t.r.ad.add (i*aR.size aw)):=by kernel_rfl)(hcell:oo C m=aR.cells y:=by kernel_rfl)(hL:fJ m m.s.loc=fK m:=by kernel_rfl):JM C Q [] (q::bm K b f t::R) m:=by
  refine cb (lN (Bu (cL (LI i y ?_ hi (by intros;exact List.nil_sublist _) hv hcell hL))))
  intro L2 r8 _
  subst r8
  refine cb (Bu (fc (m8 (f++q.fp) (t.r.xs.set i y) t.c.xs t.au.xs t.a8.xs q) (List.Perm.refl _) (fun w h1 h2=>⟨?_,fun _=>h2⟩) (dx (dx (dx (x5 (dx (oV (t.jP i y) (fun _ h=>h) J ?_))))))))
  · have w1: ∀{α:Type} [aJ α] {x:α},aJ.sub (· ∈f) w x→aJ.sub (· ∈f++q.fp) w x:=fun h=>aJ.wide (fun b hb=>List.mem_append_left _ hb) h
    refine⟨fun x hx=>?_,fun x hx=>w1 (h1.2.1 x hx),fun x hx=>w1 (h1.2.2.1 x hx),fun x hx=>w1 (h1.2.2.2 x hx)⟩
    rcases mem_set hx with rfl|hx
    · exact aJ.wide (fun b hb=>List.mem_append_right _ hb) (hq w h2)
    · exact w1 (h1.1 x hx)
  · simp[aS.jP,Sl.n]
def sI (K:TK)(b:Nat)(t:aS):bz:=cN [bh b K.ty t.pd,ay K.m t.au.A t.au.c t.au.xs]
def aS.z4 (t:aS)(s:Sl bg):aS:={ t with au:=s }
theorem BN {vs:List Value}(t:aS)(h:JM C Q R0 (sI K b t::R) m)(hv:vs=t.pd:=by rfl):JM C Q R0 (bh b K.ty vs::ay K.m t.au.A t.au.c t.au.xs::R) m:=by
  subst hv
  exact fc (sI K b t) (by simp[sI,cN]) (fun w h1 h2 z hz=>by
    simp only[List.mem_cons,List.mem_nil_iff,or_false] at hz
    rcases hz with rfl|rfl
    · exact h1
    · exact h2) h
end
theorem Jx {α:Type}[aR α]{w:World}{b ty:Nat}(x:α)(h:w.heap[b]? =some (.cells (aR.cells x).toArray ty (0,0)))(hx:aJ.sub bH w x):Sl.rd bH w (⟨some ⟨b,0,none⟩,1,[x]⟩:Sl α):=by
  refine⟨Nat.le_refl _,(show (1:Nat)≤maxLen by unfold maxLen;omega),fun i z hz=>?_⟩
  cases i with
  |zero=>
    simp only[List.getElem?_cons_zero,Option.some.injEq] at hz
    subst hz
    refine⟨⟨⟨b,0,none⟩,rfl,trivial,?_⟩,hx⟩
    rw[Nat.zero_mul]
    have h2:(bh b ty (aR.cells x)).p w:=h
    exact (l9 h2).part 0 0|>fun _=>by
      have:=l9 h2
      simpa[Addr.add] using this
  |succ i=>simp at hz
theorem ic {f:List Nat}{t':aS}{d:aH}(h:t'.abs=d)(hd:aM d){r:List aw}{c:List av}{m:List bg}{k:List ByteArray}(e1:t'.r.xs=r)(e2:t'.c.xs=c): ∀w,(eN f r c m k).p w→(eN f t'.r.xs t'.c.xs t'.au.xs t'.a8.xs).p w:=fun w hp=>by
  subst e1 e2
  refine⟨hp.1,hp.2.1,fun x hx=>?_,fun x hx=>?_⟩
  · have h1:=hd.mt x (by rw[←h];exact hx)
    exact h1
  · have h1:=hd.cs x (by rw[←h];exact hx)
    show x.size≤9223372036854775807
    omega
theorem BO {s:aN}(h:lens s.abs):aJ.small s:=by
  obtain⟨h1,h2,h3,h4,h5⟩:=h
  have e1:s.abs.aj.length=s.aj.xs.length:=List.length_map ..
  have e4:s.abs.af.length=s.af.xs.length:=List.length_map ..
  have Oo:s.an.xs.length≤99:=h3
  refine⟨⟨by show s.aj.xs.length*56≤_;omega,fun i hi=>⟨?_,fun _ _=>trivial⟩⟩,⟨by show s.an.xs.length*40≤_;omega,fun _ _=>trivial⟩,⟨by show s.af.xs.length*56≤_;omega,fun i hi=>⟨?_,fun _ _=>trivial⟩⟩⟩
  · have h9:(s.aj.at i).line.xs.length≤99:=h2 (s.aj.at i).abs (List.mem_map.2 ⟨_,aB hi,rfl⟩)
    show (s.aj.at i).line.xs.length*8≤_
    omega
  · have h9:(s.af.at i).ab.xs.length≤99:=h5 (s.af.at i).abs (List.mem_map.2 ⟨_,aB hi,rfl⟩)
    show (s.af.at i).ab.xs.length*40≤_
    omega
theorem pS {t:aS}(h:aM t.abs){i:Nat}(hi:i<3):aJ.small (t.r.at i):=by
  have h1:=D8 h hi
  have h2:=(ew h hi).2.2.1
  exact⟨⟨by show (t.r.at i).log.entries.n*16≤_;omega,fun _ _=>trivial⟩,BO h1⟩
theorem WS.LR {m:List Nat}{w0:World}{bs:List Nat}{loc:List fq}{r:bz}{R:List bz}{w w':World}(h:WS m w0 bs loc (r::R) w)(hk:Kp r.fp w w'): ∀r2,r2∈R→r2.p w':=fun _ h2=>h.IF hk h2
theorem aM.left {t:aH}(h:aM t)(k:Int):aM (t.left k):=h.z4 (by have:=h.ml;simp only[List.length_append,List.length_take,List.length_drop];omega) fun m hm=>(List.mem_append.1 hm).elim (fun q=>h.mt m (List.mem_of_mem_take q)) fun q=>h.mt m (List.mem_of_mem_drop q)
def ET (d:aH):Nat→aH
  |0=>d
  |k+1=>(ET d k).j7 (k:Int)
theorem aM.ET {d:aH}(h:aM d): ∀k,aM (ET d k)
  |0=>h
  |k+1=>(h.ET k).j7 _
section
variable {D : aH} {T : aS}
theorem Gc {i:Nat}(h:T.abs=ET D i)(hl:(i:Int)=T.lead):T.abs=ET D (i+1):=by
  show _=(ET D i).j7 _
  rw[←h]
  unfold aH.j7
  rw[if_pos (show (i:Int)=T.abs.lead from hl)]
def IQ (T:aS)(k m:Nat)(T':aS):Prop:=T'.abs=T.abs.grow ((T.a8.n:Int)+(m:Int))∧(m=0∨(T.a8.n:Int)+(m:Int)≤T.abs.fH (k:Int))
theorem LS (T:aS)(k:Nat):IQ T k 0 T:=⟨by rw[aH.oU (by show (T.a8.n:Int)+((0:Nat):Int)≤(T.a8.n:Int);omega)],.inl rfl⟩
theorem Gd {k m:Nat}{T':aS}(hd:aM T.abs)(h:IQ T k m T'):aM T'.abs:=by rw[h.1];exact hd.grow _
theorem Ec {k:Int}{z:Int}(h1:(D.rep k).log.base≤z)(h2:z<D.fH k): ∃s,D.right z=some s:=by
  have h3:=di (iB (D.sU (D.rep k).log) (D.rep k).log.entries.length) (z - (D.rep k).log.base).toNat (by unfold aH.fH at h2;omega)
  have h4:=of_decide_eq_true h3
  rw[show (D.rep k).log.base+((z - (D.rep k).log.base).toNat:Int)=z by omega] at h4
  exact⟨_,h4⟩
theorem Ge (hd:aM D){z:Int}(hz:(D.a8.length:Int)≤z){s:ByteArray}(hs:D.right z=some s):(D.grow z).a8++[s]=(D.grow (z+1)).a8:=by
  unfold aH.right at hs
  rw[if_neg (by omega)] at hs
  have hb:=hd.top.2
  split at hs
  · rename_i h1
    unfold cD at h1
    injection hs with hs
    have e1:(z - D.top.base).toNat=((D.a8.length:Int) - D.top.base).toNat+(z - (D.a8.length:Int)).toNat:=by omega
    rw[aH.gy,aH.gy,List.append_assoc,show (z+1 - (D.a8.length:Int)).toNat=(z - (D.a8.length:Int)).toNat+1 by omega,List.take_add_one]
    congr 2
    rw[List.getElem?_drop, ←e1,List.getElem?_eq_getElem (by omega)]
    rw[List.getD_eq_getElem?_getD,List.getElem?_eq_getElem (by omega)] at hs
    exact congrArg (fun x=>[x]) hs.symm
  · cases hs
theorem Ed {k m:Nat}{T':aS}(hd:aM T.abs)(hk:k≤2)(h:IQ T k m T')(hn:(T.a8.n:Int)+(m:Int)<T.abs.fH (k:Int)){z:Int}(hz:z=(T.a8.n:Int)+(m:Int)): ∃s,T'.abs.right z=some s∧T.abs.right z=some s:=by
  have hr:=hd.rep (k:=(k:Int)) (by omega) (by omega)
  have hc:(T.abs.rep (k:Int)).log.base≤(T.a8.n:Int):=hr.2.1
  have QG:=hr.1.1
  obtain⟨s,hs⟩:=Ec (D:=T.abs) (k:=(k:Int)) (z:=z) (by omega) (by omega)
  exact⟨s,by rw[h.1,aH.uR hd.top.2 (by omega)];exact hs,hs⟩
theorem Gf {k m c:Nat}{T':aS}{A:Option Addr}(hd:aM T.abs)(hk:k≤2)(h:IQ T k m T')(hn:(T.a8.n:Int)+(m:Int)<T.abs.fH (k:Int)){z:Int}(hz:z=(T.a8.n:Int)+(m:Int)):
    IQ T k (m+1) ⟨T'.r,T'.c,T'.au,⟨A,c,T'.a8.xs++[(T'.abs.right z).getD emp]⟩,T'.lead⟩:=by
  obtain⟨s,h1,h2⟩:=Ed hd hk h hn hz
  refine⟨?_,.inr (by omega)⟩
  have h3:=Ge hd (z:=z) (by show (T.a8.n:Int)≤z;omega) h2
  have h4:T'.abs.a8=(T.abs.grow z).a8:=by rw[h.1,hz]
  have e: ∀D:aH,D=⟨D.r,D.c,D.au,D.a8,D.lead⟩:=fun _=>rfl
  show (⟨T'.abs.r,T'.abs.c,T'.abs.au,T'.abs.a8++[(T'.abs.right z).getD emp],T'.abs.lead⟩:aH)=_
  rw[h1,Option.getD_some,h4,h3,h.1,show (T.a8.n:Int)+((m+1:Nat):Int)=z+1 by omega]
  rfl
theorem H3 {i m:Nat}{T':aS}(hT:T.abs=ET D i)(hl: ¬(i:Int)=T.lead)(h:IQ T i m T')(hn: ¬(T.a8.n:Int)+(m:Int)<T.abs.fH (i:Int)):T'.abs=ET D (i+1):=by
  show _=(ET D i).j7 _
  rw[←hT,h.1]
  unfold aH.j7
  rw[if_neg (show ¬(i:Int)=T.abs.lead from hl)]
  rcases h.2 with rfl|h2
  · rw[aH.oU (by show _≤(T.a8.n:Int);omega),aH.oU (by show _≤(T.a8.n:Int);omega)]
  · rw[show (T.a8.n:Int)+(m:Int)=T.abs.fH (i:Int) by omega]
end
theorem xp {l:Sl bg}{k:Nat}(hk:k<l.n)(M:List bg):(l.xs.take (k+1)).foldl aH.fF M=aH.fF ((l.xs.take k).foldl aH.fF M) (l.at k):=by
  have h:l.xs.take (k+1)=l.xs.take k++[l.at k]:=by
    rw[List.take_add_one,List.getElem?_eq_getElem hk]
    unfold Sl.at
    rw[List.getD_eq_getElem?_getD,List.getElem?_eq_getElem hk]
    rfl
  rw[h,List.foldl_append]
  rfl
theorem C9 {M L:List bg}{l:Sl bg}{k:Nat}(hk:k<l.n)(h:L=(l.xs.take k).foldl aH.fF M)(hl:L.length<60):L++[l.at k]=(l.xs.take (k+1)).foldl aH.fF M:=by
  rw[xp hk, ←h]
  unfold aH.fF
  rw[if_pos hl]
theorem Aa {M L:List bg}{l:Sl bg}{k:Nat}(hk:k<l.n)(h:L=(l.xs.take k).foldl aH.fF M)(hl: ¬L.length<60):L=(l.xs.take (k+1)).foldl aH.fF M:=by
  rw[xp hk, ←h]
  unfold aH.fF
  rw[if_neg hl]
theorem Ee {p:Prop}[Decidable p]{l:Sl bg}{k:Nat}{M L:List bg}(hk:l.n≤k)(h:L=(l.xs.take k).foldl aH.fF M)(hp:0<k→p):L=if p then l.xs.foldl aH.fF M else M:=by
  rw[List.take_of_length_le hk] at h
  split
  · exact h
  · rename_i h1
    have h2:k=0:=by
      rcases Nat.eq_zero_or_pos k with h3|h3
      · exact h3
      · exact absurd (hp h3) h1
    have h4:l.xs=[]:=List.length_eq_zero_iff.1 (by show l.n=0;omega)
    rw[h,h4];rfl
theorem Ef {p:Prop}[Decidable p]{l:Sl bg}{k:Nat}{M L:List bg}(h:L=(l.xs.take k).foldl aH.fF M)(hp:0<k→p)(hn: ¬p):L=if p then l.xs.foldl aH.fF M else M:=by
  rw[if_neg hn]
  have h2:k=0:=by
    rcases Nat.eq_zero_or_pos k with h3|h3
    · exact h3
    · exact absurd (hp h3) hn
  rw[h,h2,List.take_zero];rfl
theorem yi: ∀(l:List bg) {M:List bg},M.length≤60→(l.foldl aH.fF M).length≤60
  |[],_,h=>h
  |x::l,M,h=>by
    rw[List.foldl_cons]
    refine yi l ?_
    unfold aH.fF
    split
    · rw[List.length_append,List.length_singleton];omega
    · exact h
theorem uT {a l h:Int}(q:gk a l h=true):l≤a∧a≤h:=by simpa[gk] using q
theorem uU {a l h:Int}(q:gk a l h=false):a<l∨h<a:=by
  rcases Int.lt_or_le a l with h1|h1
  · exact .inl h1
  · rcases Int.lt_or_le h a with h2|h2
    · exact .inr h2
    · have:gk a l h=true:=by simp[gk,h1,h2]
      rw[this] at q;cases q
theorem pU (t:aS){i:Nat}{k:Int}(hk:k=(i:Int))(y:aw)(s:Sl bg){M:List bg}(hM:s.xs=M):(⟨⟨t.r.A,t.r.c,t.r.xs.set i y⟩,t.c,s,t.a8,t.lead⟩:aS).abs={ t.abs.set k y.abs with au:=M }:=by
  subst hM
  exact congrArg (fun D:aH=>{ D with au:=s.xs }) (gP t hk y)
section
variable {t : aS}
theorem Ab {A B:aH}{v:Int}:(if v=0 then (A,(0:Int)) else (B,v))=(if v=0 then A else B,v):=by
  split
  · rename_i h;rw[h]
  · rfl
theorem qV (hk:aM t.abs){d:Nat}(hd:t.lead=(d:Int)){n:Int}(hn:n=(t.r.at d).log.base+((t.r.at d).log.entries.n:Int))(s:ByteArray){e:Int}(he:e=0){L:List ByteArray}(hL:L=[s]):t.abs.added (s,e)=
    (if (cS (t.r.at d).abs n L).2=0 then t.abs.set t.lead (cS (t.r.at d).abs n L).1 else t.abs,(cS (t.r.at d).abs n L).2):=by
  subst he hL
  unfold aH.added
  rw[if_neg (by simp),show t.abs.rep t.abs.lead=(t.r.at d).abs from jd t hd,r9 hk hd,show cD (t.r.at d).log.abs=n from hn.symm,Ab]
  rfl
theorem Ac {s:ByteArray}{e:Int}(h: ¬e=0):t.abs.added (s,e)=(t.abs,e):=by
  unfold aH.added
  rw[if_pos h]
theorem yj (hk:aM t.abs){i d:Nat}{r many:Int}(hr:r=(i:Int))(hd:t.lead=(d:Int)):t.abs.told r many=
    if t.abs.fH r<(t.r.at d).log.base then cv (t.r.at i).abs (t.r.at d).snap else if ¬(cm (t.r.at d).log.abs (t.abs.fH r) many).2=0 then (dA,(cm (t.r.at d).log.abs (t.abs.fH r) many).2) else cS (t.r.at i).abs (t.abs.fH r) (cm (t.r.at d).log.abs (t.abs.fH r) many).1:=by
  unfold aH.told
  rw[show t.abs.rep t.abs.lead=(t.r.at d).abs from jd t hd,r9 hk hd,jd t hr]
  rfl
theorem Gg {i:Nat}{r many u:Int}(hr:r=(i:Int))(hu:t.abs.upto r many=u):t.abs.Js r many=cB (t.r.at i).abs u:=by
  unfold aH.Js
  rw[jd t hr,hu]
theorem oW {i:Nat}{r many u:Int}(hr:r=(i:Int))(hu:u=min ((t.r.at i).state.index+min many 400) (min (t.a8.n:Int) (t.abs.fH r))):t.abs.upto r many=u:=by
  rw[hu]
  unfold aH.upto
  rw[jd t hr]
  rfl
theorem sd {a:eP}(h:a.c<0∨(t.c.n:Int)≤a.c):t.abs.kI a=(t.abs,6):=by
  unfold aH.kI
  rw[if_pos (by rw[(BI t).2.1];exact h)]
theorem kK {a:eP}{i:Nat}(ha:a.c=(i:Int))(hi:i<t.c.n):t.abs.kI a=
    if a.kind=1 then t.abs.added (gv (t.c.at i).abs) else if a.kind=3 then t.abs.added (kB (t.c.at i).abs a.k) else
    (if (mStart (t.c.at i).abs a.op).2=0 then { t.abs with c:=t.abs.c.set a.c.toNat (mStart (t.c.at i).abs a.op).1 } else t.abs,(mStart (t.c.at i).abs a.op).2):=by
  unfold aH.kI
  rw[if_neg (by rw[(BI t).2.1];omega),z5 t ha,Ab]
theorem se {a:eP}(h:a.r<0∨2<a.r):t.abs.kJ a=(t.abs,6):=by
  unfold aH.kJ
  rw[if_pos h]
theorem dV {a:eP}{i:Nat}(ha:a.r=(i:Int))(hi:i≤2):t.abs.kJ a=
    if a.kind=4 then t.abs.pb a.r a.k else if a.kind=5 then t.abs.apply a.r a.k else
    if a.kind=8 then (if t.abs.fH a.r<(t.a8.n:Int) then (t.abs,9) else (aH.fe { t.abs with lead:=a.r },0)) else
    if a.kind=6 then t.abs.put a.r (b8 (t.r.at i).abs) else t.abs.put a.r (cK (t.r.at i).abs):=by
  unfold aH.kJ
  rw[if_neg (by omega),jd t ha]
  rfl
theorem uV {D:aH}{a:eP}(h:a.kind<1∨11<a.kind):D.act a=(D,3):=by unfold aH.act;rw[if_pos h]
theorem Gh {D:aH}{a:eP}(h: ¬a.kind<1)(h2:a.kind≤3):D.act a=D.kI a:=by unfold aH.act;rw[if_neg (by omega),if_pos h2]
theorem Gi {D:aH}{a:eP}(h: ¬a.kind≤3)(h2:a.kind≤8):D.act a=D.kJ a:=by unfold aH.act;rw[if_neg (by omega),if_neg h,if_pos h2]
theorem Ad {D:aH}{a:eP}(h: ¬a.kind≤8)(h2:a.kind≤11):D.act a=D.dU a:=by unfold aH.act;rw[if_neg (by omega),if_neg (by omega),if_neg h]
theorem Gj {M:List bg}(m:bg)(h:M.length<60):[m].foldl aH.fF M=M++[m]:=by
  show aH.fF M m=_
  unfold aH.fF
  rw[if_pos h]
theorem Ae (t:aS){i j:Nat}{k:Int}(hk:k=(i:Int))(hj:j=i+1)(A:Option Addr)(c:Nat):(⟨t.r,t.c,⟨A,c,t.au.xs.take i++t.au.xs.drop j⟩,t.a8,t.lead⟩:aS).abs=t.abs.left k:=by
  subst hk hj
  rfl
theorem ou {a:eP}(h:a.k<0∨(t.au.n:Int)≤a.k):t.abs.dU a=(t.abs,6):=by
  unfold aH.dU
  rw[if_pos (show a.k<0∨(t.abs.au.length:Int)≤a.k from h)]
theorem m9 {a:eP}{i:Nat}(ha:a.k=(i:Int))(hi:i<t.au.n):t.abs.dU a=
    if a.kind=11 then (if t.au.n=60 then (t.abs,8) else ({ t.abs with au:=t.au.xs++[t.au.at i]},0)) else
    if a.kind=10 then (t.abs.left a.k,0) else (t.abs.left a.k).heard (t.au.at i):=by
  unfold aH.dU
  rw[if_neg (by show ¬(a.k<0∨(t.au.n:Int)≤a.k);omega),show t.abs.F4 a.k=t.au.at i by unfold aH.F4;rw[ha];rfl]
  rfl
theorem qW {a:eP}{i:Nat}(ha:a.k=(i:Int))(hi:i<t.au.n)(hk:a.kind=11)(h:t.au.n<60)(s:Sl bg)(hs:s.xs=t.au.xs++[t.au.at i]):t.abs.dU a=((⟨t.r,t.c,s,t.a8,t.lead⟩:aS).abs,0):=by
  rw[m9 ha hi,if_pos hk,if_neg (by omega)]
  rw[←hs]
  rfl
theorem ga {a:eP}{i:Nat}(ha:a.k=(i:Int))(hi:i<t.au.n)(hk: ¬a.kind=11):t.abs.dU a=if a.kind=10 then (t.abs.left a.k,0) else (t.abs.left a.k).heard (t.au.at i):=by
  rw[m9 ha hi,if_neg hk]
theorem sf (c:Sl av)(D:aH)(hD:D.c=c.xs.map av.abs)(m:bg):D.who m=aQ (fun z:av=>decide (z.id=m.ag)) c.xs:=by
  unfold aH.who
  rw[hD, ←fm]
  rfl
theorem ov {r:Int}{x:aT×Int}:t.abs.put r x=(if x.2=0 then t.abs.set r x.1 else t.abs,x.2):=Ab
theorem qX {r many:Int}(h:r=t.lead∨many<0):t.abs.pb r many=(t.abs,2):=by
  unfold aH.pb
  rw[if_pos (show r=t.abs.lead∨many<0 from h)]
theorem kr {r many:Int}(h: ¬(r=t.lead∨many<0)){x:aT×Int}(hx:t.abs.told r many=x):t.abs.pb r many=(if x.2=0 then (t.abs.set r x.1).fe else t.abs,x.2):=by
  unfold aH.pb
  rw[if_neg (show ¬(r=t.abs.lead∨many<0) from h),hx,Ab]
theorem oX (hk:aM t.abs){i d:Nat}{r many:Int}(hr:r=(i:Int))(hd:t.lead=(d:Int))(h:t.abs.fH r<(t.r.at d).log.base):t.abs.told r many=cv (t.r.at i).abs (t.r.at d).snap:=by
  rw[yj hk hr hd,if_pos h]
theorem Af (hk:aM t.abs){i d:Nat}{r many:Int}(hr:r=(i:Int))(hd:t.lead=(d:Int))(h: ¬t.abs.fH r<(t.r.at d).log.base)(h2: ¬(cm (t.r.at d).log.abs (t.abs.fH r) many).2=0):t.abs.told r many=(dA,(cm (t.r.at d).log.abs (t.abs.fH r) many).2):=by
  rw[yj hk hr hd,if_neg h,if_pos h2]
theorem oY (hk:aM t.abs){i d:Nat}{r many:Int}(hr:r=(i:Int))(hd:t.lead=(d:Int))(h: ¬t.abs.fH r<(t.r.at d).log.base)(h2:(cm (t.r.at d).log.abs (t.abs.fH r) many).2=0){L:List ByteArray}(hL:L=(cm (t.r.at d).log.abs (t.abs.fH r) many).1):t.abs.told r many=cS (t.r.at i).abs (t.abs.fH r) L:=by
  rw[yj hk hr hd,if_neg h,if_neg (fun q=>q h2),hL]
theorem uW {r many:Int}(h:many<0):t.abs.apply r many=(t.abs,2):=by
  unfold aH.apply
  rw[if_pos h]
theorem uX {i:Nat}{r many u:Int}(h: ¬many<0)(hr:r=(i:Int))(hu:t.abs.upto r many=u)(h2: ¬(cB (t.r.at i).abs u).2.2=0):t.abs.apply r many=(t.abs,(cB (t.r.at i).abs u).2.2):=by
  unfold aH.apply
  rw[if_neg h,Gg hr hu,if_pos h2]
theorem oZ {i:Nat}{r many u:Int}(h: ¬many<0)(hr:r=(i:Int))(hu:t.abs.upto r many=u)(h2:(cB (t.r.at i).abs u).2.2=0){y:jO}(hy:y.abs=(⟨(cB (t.r.at i).abs u).1,(cB (t.r.at i).abs u).2.1⟩:vM)):
    t.abs.apply r many=({ t.abs.set r y.cM.abs with au:=if r=t.lead then y.out.xs.foldl aH.fF t.au.xs else t.au.xs },0):=by
  have e1:y.cM.abs=(cB (t.r.at i).abs u).1:=congrArg vM.cM hy
  have e2:y.out.xs=(cB (t.r.at i).abs u).2.1:=congrArg vM.out hy
  unfold aH.apply
  rw[if_neg h,Gg hr hu,if_neg (fun q=>q h2),e1,e2]
  rfl
theorem Ag (D:aH)(m:bg)(h:D.who m<0):D.heard m=(D,6):=by
  unfold aH.heard
  rw[if_pos h]
theorem qY (T:aS)(m:bg){i:Nat}(h:T.abs.who m=(i:Int)):T.abs.heard m=(if (bX (T.c.at i).abs m).2=0 then { T.abs with c:=T.abs.c.set i (bX (T.c.at i).abs m).1 } else T.abs,(bX (T.c.at i).abs m).2):=by
  unfold aH.heard
  rw[if_neg (by omega),h,z5 T (i:=i) rfl,Ab]
  rfl
theorem xq (c:aF):(g6 c).1.size≤100000:=by
  unfold g6
  split
  · show (if c.kind=2 then _ else _:ByteArray).size≤_
    split
    · have h1:=wB (kP (cP [c.kind % 256,c.ag % 256]) [c.aD,c.seq,c.aC,c.op.kind,c.op.n]) [c.op.a,c.op.b]
      have h2:=oM (cP [c.kind % 256,c.ag % 256]) [c.aD,c.seq,c.aC,c.op.kind,c.op.n]
      rw[fA] at h2
      simp only[List.length_cons,List.length_nil] at h1 h2⊢
      omega
    · rw[fA];simp
  · show emp.size≤_
    rw[aL];omega
theorem me (x:ba):(gv x).1.size≤9223372036854775807:=by
  unfold gv
  split
  · exact Nat.le_trans (xq _) (by decide)
  · show emp.size≤_
    rw[aL];omega
theorem o0 (x:ba)(k:Int):(kB x k).1.size≤9223372036854775807:=by
  unfold kB
  split
  · split
    · exact Nat.le_trans (xq _) (by decide)
    · show emp.size≤_
      rw[aL];omega
  · show emp.size≤_
    rw[aL];omega
end
end Go.Proofs.YtbjakddkfgjkaaaGreat.Fw
namespace Go.Proofs.YtbjakddkfgjkaaaGreat.Fw
open Go.RowKit
structure vN where
  r:List aT
  c:List ba
  au:List bg
  a8:List ByteArray
  lead:Int
  ie:List Int
  deriving Inhabited
structure l6 where
  r:Sl aw
  c:Sl av
  au:Sl bg
  a8:Sl ByteArray
  lead:Int
  ie:Sl Int
  deriving Inhabited
def l6.abs (x:l6):vN:={ r:=x.r.xs.map aw.abs,c:=x.c.xs.map av.abs,au:=x.au.xs,a8:=x.a8.xs,lead:=x.lead,ie:=x.ie.xs }
instance:aR l6 where
  sub B w x:=x.r.rd B w∧x.c.rd B w∧x.au.rd B w∧x.a8.rd B w∧x.ie.rd B w
  stay:=fun {B w w' x} hs ⟨h0,h1,h2,h3,h4⟩=>⟨Sl.rd.stay h0 hs,Sl.rd.stay h1 hs,Sl.rd.stay h2 hs,Sl.rd.stay h3 hs,Sl.rd.stay h4 hs⟩
  wide:=fun {B B' w x} hs ⟨h0,h1,h2,h3,h4⟩=>⟨Sl.rd.wide h0 hs,Sl.rd.wide h1 hs,Sl.rd.wide h2 hs,Sl.rd.wide h3 hs,Sl.rd.wide h4 hs⟩
  ok x:=x.r.ok∧x.c.ok∧x.au.ok∧x.a8.ok∧x.ie.ok
  small x:=aJ.small x.r∧aJ.small x.c∧aJ.small x.au∧aJ.small x.a8∧aJ.small x.ie
  bL:=fun {B w x} ⟨h0,h1,h2,h3,h4⟩=>⟨Sl.rd.ok h0,Sl.rd.ok h1,Sl.rd.ok h2,Sl.rd.ok h3,Sl.rd.ok h4⟩
  size:=6
  bytes:=128
  pos:=by decide
  cells x:=[.slice x.r.A x.r.n x.r.c,.slice x.c.A x.c.n x.c.c,.slice x.au.A x.au.n x.au.c,.slice x.a8.A x.a8.n x.a8.c,.int .i64 x.lead,.slice x.ie.A x.ie.n x.ie.c]
  len _:=rfl
  one _:=rfl
abbrev l6.val (x:l6):Value:=.agg #[.slice x.r.A x.r.n x.r.c,.slice x.c.A x.c.n x.c.c,.slice x.au.A x.au.n x.au.c,.slice x.a8.A x.a8.n x.a8.c,.int .i64 x.lead,.slice x.ie.A x.ie.n x.ie.c]
def OI (o:Oper)(s:SS):Option (Nat×Int×Int):=
  match o.op with
  | .makeSlice T l c=>match ev s l,ev s c with
    |some (.v (.int .i64 a)),some (.v (.int .i64 b))=>some (T,a,b)
    |_,_=>none
  |_=>none
def QH (P:Program)(T e n:Nat):Option (Nat×List Value):=
  match P.underlying T,P.info? e with
  |some (.slice e'),some i=>match i.zero with
    |some z=>bif Nat.beq e' e && (Nat.ble (i.bytes*n) 65536 && Nat.ble n 65536) then some (i.size,(madeCells z.cells (n*i.size)).toList) else none
    |none=>none
  |_,_=>none
section
variable {C : Cx} {Q : Exit → Act → World → Prop} {R0 R : List bz} {m : eO}
theorem QI {α:Type}[aR α]{T:Nat}(e n:Nat)(L:List α)(J: ∀A,JM C Q R0 (ay e A n L::R) (nx C (iS m (.v (.slice A n n)))))(hn:L.length=n:=by rfl)(hz:QH C.P T e n=some (aR.size α,L.flatMap aR.cells):=by kernel_rfl)(hv:vw C.n OI m=some (T,(n:Int),(n:Int)):=by kernel_rfl)(hR: ∀r:bz,R0.Sublist (r::R):=by intros;first|exact List.nil_sublist _|exact List.Sublist.cons _ (List.Sublist.refl _)|exact List.Sublist.refl _)(hL:fJ m m.s.loc=fK m:=by kernel_rfl):JM C Q R0 R m:=by
  refine j6 (σ:=Option Addr) OI _ hv (fun A=>.v (.slice A n n)) (fun _=>m.s.loc) (fun A=>ay e A n L::R) (fun op h=>?_) (fun _=>hL) (fun _=>hR _) fun A=>J A
  unfold OI at h
  split at h
  · rename_i T' l c jx
    split at h
    · rename_i a b h1 h2
      simp only[Option.some.injEq,Prod.mk.injEq] at h
      obtain⟨rfl,rfl,rfl⟩:=h
      unfold QH at hz
      split at hz
      · rename_i e' i ht hi
        split at hz
        · rename_i z Oh
          cases hb:Nat.beq e' e && (Nat.ble (i.bytes*n) 65536 && Nat.ble n 65536) with
          |false=>rw [hb] at hz;cases hz
          |true=>
            rw[hb] at hz
            simp only[cond_true,Option.some.injEq,Prod.mk.injEq] at hz
            simp only[Bool.and_eq_true] at hb
            obtain⟨gU,gT,jB⟩:=hb
            obtain rfl:=Nat.eq_of_beq_eq_true gU
            have gT:=Nat.le_of_ble_eq_true gT
            have jB:=Nat.le_of_ble_eq_true jB
            refine g5.as jx ?_
            rintro bs a w ⟨pz,RM,hS⟩ K Q' hK
            unfold Oper.wp
            obtain⟨w',jC,r1,r2⟩:=run_make_full (P:=C.P) w 0 T' e' i z i.size ht hi Oh rfl .i64 .i64 n (by omega) (by unfold maxLen;omega) (Nat.zero_le _)
            have e1:a.eval l=.int .i64 (n:Int):=aV pz h1
            have e2:a.eval c=.int .i64 (n:Int):=aV pz h2
            rw[hz.2,hz.1] at r1
            have hx:(execOp a.eval ⟨op.dst,.makeSlice T' l c,op.type,op.pos,op.after,op.guard⟩).run C.P w=.ok (.value (.slice (some ⟨w.heap.size,0,none⟩) n n)) w':=by
              simp[execOp,e1,e2,jC]
            rw[hx]
            have lY:w.heap.size<w'.heap.size:=by
              obtain⟨_,h9⟩:=r1
              rcases h9 with ⟨h9,_⟩|⟨g,cap,cur,QJ,_,hh,_⟩
              · cases h9
              · simp only[Value.slice.injEq,Option.some.injEq,Addr.mk.injEq] at QJ
                rw[QJ.1.1]
                exact (Array.getElem?_eq_some_iff.1 hh).1
            refine hK (some ⟨w.heap.size,0,none⟩) _ (hS.fresh (sA r2 [] (fun k h=>by cases h)) _ ?_ ?_ ?_)
            · show w'.ownsRow 0 e' (aR.size α) (.slice (some ⟨w.heap.size,0,none⟩) L.length n) L.length (L.flatMap aR.cells)
              rw[hn]
              exact r1
            · simp[ay,fI]
            · intro b hb
              simp only[ay,fI,List.mem_singleton] at hb
              subst hb
              exact⟨Nat.le_refl _,lY⟩
        · cases hz
      · cases hz
    · cases h
  · cases h
def qZ {α:Type}[aJ α](f:List Nat)(L:List α):bz:=⟨f,fun w=> ∀x,x∈L→aJ.sub (· ∈f) w x,fun h p x hx=>aJ.stay (fun b hb _=>h b hb) (p x hx)⟩
theorem yk (α:Type)[aJ α](h:JM C Q R0 (qZ [] ([]:List α)::R) m):JM C Q R0 R m:=gK _ rfl (fun _ x hx=>absurd hx List.not_mem_nil) h
theorem Da {α:Type}[aJ α]{f fp:List Nat}{L:List α}{y:α}(h:JM C Q R0 (qZ (f++fp) (L++[y])::R) m):JM C Q R0 (qZ f L::bF fp y::R) m:=
  fc (qZ (f++fp) (L++[y])) (List.Perm.refl _) (fun w h1 h2 x hx=>by
    rcases List.mem_append.1 hx with hx|hx
    · exact aJ.wide (fun b hb=>List.mem_append_left _ hb) (h1 x hx)
    · rw[List.mem_singleton.1 hx];exact aJ.wide (fun b hb=>List.mem_append_right _ hb) h2) h
variable {K : TK} {f : List Nat} {t : aS}
theorem o3 {w:World}(h:(ib K f t).p w):(eN f t.r.xs t.c.xs t.au.xs t.a8.xs).p w:=h _ (.tail _ (.tail _ (.tail _ (.tail _ (.head _)))))
theorem q8 {w:World}(h:(ib K f t).p w):Sl.rd bH w t.r:=Rr (B:=bH) (h _ (.head _)) (fun _ _=>trivial) fun z hz=>aJ.wide (fun _ _=>trivial) ((o3 h).1 z hz)
theorem q9 {w:World}(h:(ib K f t).p w):Sl.rd bH w t.c:=Rr (B:=bH) (h _ (.tail _ (.head _))) (fun _ _=>trivial) fun z hz=>aJ.wide (fun _ _=>trivial) ((o3 h).2.1 z hz)
theorem H4 {w:World}(h:(ib K f t).p w):Sl.rd bH w t.au:=Rr (B:=bH) (h _ (.tail _ (.tail _ (.head _)))) (fun _ _=>trivial) fun z hz=>aJ.wide (fun _ _=>trivial) ((o3 h).2.2.1 z hz)
theorem H5 {w:World}(h:(ib K f t).p w):Sl.rd bH w t.a8:=Rr (B:=bH) (h _ (.tail _ (.tail _ (.tail _ (.head _))))) (fun _ _=>trivial) fun z hz=>aJ.wide (fun _ _=>trivial) ((o3 h).2.2.2 z hz)
theorem Ah {w:World}(h:(ib K f t).p w):iE t:=⟨(q8 h).ok,(q9 h).ok,(H4 h).ok,(H5 h).ok⟩
theorem Db {A B:Option Addr}{c d:Nat}{L:List aw}{M:List av}(hr: ∀x,x∈L→ ∀w,aJ.sub (fun b=>b∈([]:List Nat)) w x)(hc: ∀x,x∈M→ ∀w,aJ.sub (fun b=>b∈([]:List Nat)) w x)(h:JM C Q R0 (ib K [] ⟨⟨A,c,L⟩,⟨B,d,M⟩,Sl.nil,Sl.nil,0⟩::R) m):JM C Q R0 (ay K.r A c L::ay K.c B d M::R) m:=
  fc (ib K [] ⟨⟨A,c,L⟩,⟨B,d,M⟩,Sl.nil,Sl.nil,0⟩) (by simp[ib,cN,eN,ay,fI,Sl.nil]) (fun w h1 h2 q hq=>by
    simp only[List.mem_cons,List.mem_nil_iff,or_false] at hq
    rcases hq with rfl|rfl|rfl|rfl|rfl
    · exact h1
    · exact h2
    · exact qm K.m (aR.size bg) w
    · exact qm K.k (aR.size ByteArray) w
    · exact⟨fun x hx=>hr x hx w,fun x hx=>hc x hx w,fun x hx=>absurd hx List.not_mem_nil,fun x hx=>absurd hx List.not_mem_nil⟩) h
theorem H6 {R:List bz}{w:World}(h:ib K f t∈R)(hp:(ib K f t).p w):Sl.rd (· ∈(cN R).fp) w t.au∧Sl.rd (· ∈(cN R).fp) w t.a8:=by
  have e: ∀q,q∈[ay K.r t.r.A t.r.c t.r.xs,ay K.c t.c.A t.c.c t.c.xs,ay K.m t.au.A t.au.c t.au.xs,ay K.k t.a8.A t.a8.c t.a8.xs,eN f t.r.xs t.c.xs t.au.xs t.a8.xs]→ ∀b,b∈q.fp→b∈(cN R).fp:=fun q hq b hb=>fi h (List.mem_flatMap.2 ⟨q,hq,hb⟩)
  refine⟨Rr (hp _ (.tail _ (.tail _ (.head _)))) (e _ (.tail _ (.tail _ (.head _)))) fun z hz=>?_,Rr (hp _ (.tail _ (.tail _ (.tail _ (.head _))))) (e _ (.tail _ (.tail _ (.tail _ (.head _))))) fun z hz=>?_⟩
  · exact aJ.wide (e _ (.tail _ (.tail _ (.tail _ (.tail _ (.head _)))))) ((o3 hp).2.2.1 z hz)
  · exact aJ.wide (e _ (.tail _ (.tail _ (.tail _ (.tail _ (.head _)))))) ((o3 hp).2.2.2 z hz)
theorem H7 {α:Type}[aR α]{R:List bz}{w:World}{e:Nat}{A:Option Addr}{c:Nat}{g:List Nat}{L:List α}(h:ay e A c L∈R)(hp:(ay e A c L).p w)(h2:qZ g L∈R)(sJ:(qZ g L).p w):Sl.rd (· ∈(cN R).fp) w (⟨A,c,L⟩:Sl α):=
  Rr hp (fun b hb=>fi h hb) fun z hz=>aJ.wide (fun b hb=>fi h2 hb) (sJ z hz)
end
section
variable {C : Cx} {R0 R : List bz} {m : eO}
theorem cd {fn:Func}{M:Int}(k:Int)(hm:M=k)(h:Bw C.P fn m=some [vI k]:=by kernel_rfl)(h0:C.m=[]:=by rfl):JM C (bodyPost C.P fn fun e w'=>e=.returned (.int .i64 M)∧Kp [] C.w0 w') R0 R m:=by
  subst hm
  exact Qw (.int .i64 M) rfl h h0
theorem o4 {fn:Func}{M:Bool}(k:Bool)(hm:M=k)(h:Bw C.P fn m=some [vB k]:=by kernel_rfl)(h0:C.m=[]:=by rfl):JM C (bodyPost C.P fn fun e w'=>e=.returned (.bool M)∧Kp [] C.w0 w') R0 R m:=by
  subst hm
  exact Qw (.bool M) rfl h h0
end
theorem xr: ∀(l:List eP) (D:aH) (a:eP),D.sV (l++[a])=(((D.sV l).1.act a).1,(D.sV l).2++[((D.sV l).1.act a).2])
  |[],D,a=>rfl
  |x::l,D,a=>by
    show (((D.act x).1.sV (l++[a])).1,(D.act x).2::((D.act x).1.sV (l++[a])).2)=_
    rw[xr l]
    rfl
def Eg (D:aH)(l:Sl eP)(k:Nat)(T:aS)(L:List Int):Prop:=k≤l.n∧T.abs=(D.sV (l.xs.take k)).1∧L=(D.sV (l.xs.take k)).2∧aM T.abs∧L.length=k
theorem ra {D:aH}{l:Sl eP}{k:Nat}{T T2:aS}{L:List Int}{X:aH×Int}(h:Eg D l k T L)(hk:k<l.n)(hX:T.abs.act (l.at k)=X)(h2:T2.abs=X.1):Eg D l (k+1) T2 (L++[X.2]):=by
  subst hX
  obtain⟨_,h3,h4,h5,h6⟩:=h
  have e:=xr (l.xs.take k) D (l.at k)
  rw[gq hk, ←h3, ←h4] at e
  exact⟨hk,by rw[h2,e],by rw[e],by rw[h2];exact h5.act _,by rw[List.length_append,h6];rfl⟩
theorem mf {α β:Type}[Inhabited α]{f:α→β}{s:Sl α}{L:List α}{k:Nat}{y:α}(h:L.map f=(s.xs.take k).map f)(hk:k<s.n)(hy:f y=f (s.at k)):(L++[y]).map f=(s.xs.take (k+1)).map f:=by
  rw[List.map_append,h, ←gq hk,List.map_append]
  show _++[f y]=_++[f (s.at k)]
  rw[hy]
theorem na {α β:Type}{f:α→β}{s:Sl α}{L:List α}{k:Nat}(h:L.map f=(s.xs.take k).map f)(hk:s.n≤k):L.map f=s.xs.map f:=by rw[h,List.take_of_length_le hk]
theorem uY {t:aS}(h:aM t.abs){i:Nat}(hi:i<t.c.n):(t.c.at i).waits.n*56≤140737488355328:=by
  have h1:(t.c.at i).abs.waits.length≤9:=h.cw _ (List.mem_map.2 ⟨_,aB hi,rfl⟩)
  have h2:(t.c.at i).waits.n≤9:=h1
  omega
theorem Gk {n:Int}(hn:n≤9)(l:Sl eP){T:aS}(h:T.abs=aH.start n):Eg (aH.start n) l 0 T []:=⟨Nat.zero_le _,h,rfl,by rw[h];exact BG hn,rfl⟩
def yl (n:Int)(l:List eP):vN:=⟨(k6 n l).1.r,(k6 n l).1.c,(k6 n l).1.au,(k6 n l).1.a8,(k6 n l).1.lead,(k6 n l).2.1⟩
theorem sg {n:Int}(h:n<1∨9<n)(l:List eP):k6 n l=(⟨[],[],[],[],0⟩,[],2):=by unfold k6;rw[if_pos h]
theorem Ai {n:Int}(h: ¬(n<1∨9<n)){l:List eP}(h2:400<l.length):k6 n l=(⟨[],[],[],[],0⟩,[],1):=by unfold k6;rw[if_neg h,if_pos h2]
theorem Gl {n:Int}(h: ¬(n<1∨9<n)){l:Sl eP}(h2:l.n≤400){k:Nat}{T:aS}{L:List Int}(hI:Eg (aH.start n) l k T L)(hk:l.n≤k):k6 n l.xs=(T.abs,L,0):=by
  unfold k6
  rw[if_neg h,if_neg (by show ¬400<l.n;omega),hI.2.1,hI.2.2.1,List.take_of_length_le hk]
def nw (k:Nat):List av:=(List.range k).map fun i:Nat=>⟨(i:Int)+1,0,1,Sl.nil⟩
theorem uZ (k:Nat):nw k++[⟨(k:Int)+1,0,1,Sl.nil⟩]=nw (k+1):=by unfold nw;rw[List.range_succ,List.map_append];rfl
theorem Jy {n:Int}(h1:1≤n)(h2:n≤9):pC n=(⟨n,0,1,Sl.nil⟩,0):=by unfold pC;first|rw[if_pos ⟨h1,h2⟩]|(rw[if_neg (by omega)])|(simp[gk,h1,h2])
theorem xt (k:Nat):(nw k).length=k:=by unfold nw;rw[List.length_map,List.length_range]
theorem xu {k:Nat}: ∀x,x∈nw k→ ∀w,aJ.sub (fun b=>b∈([]:List Nat)) w x:=fun x hx w=>by
  unfold nw at hx
  obtain⟨i,_,rfl⟩:=List.mem_map.1 hx
  exact Sl.ao _ _
def o5:aw:=⟨⟨0,Sl.nil⟩,emp,0,Sl.nil,Sl.nil,Sl.nil⟩
theorem H8 (w:World):aJ.sub (fun b=>b∈([]:List Nat)) w o5:=⟨by show emp.size≤_;rw[aL];omega,Sl.ao _ _,Sl.ao _ _,Sl.ao _ _,Sl.ao _ _⟩
def Jz (A B:Option Addr)(d k:Nat):aS:=⟨⟨A,3,[o5,o5,o5]⟩,⟨B,d,nw k⟩,Sl.nil,Sl.nil,0⟩
theorem xv {A B:Option Addr}{d k:Nat}{n:Int}(hn:n.toNat=k):(Jz A B d k).abs=aH.start n:=by
  subst hn
  show (⟨_,(nw n.toNat).map av.abs,_,_,_⟩:aH)=_
  unfold nw aH.start
  rw[List.map_map]
  rfl
theorem xw: ∀x,x∈[o5,o5,o5]→ ∀w,aJ.sub (fun b=>b∈([]:List Nat)) w x:=fun x hx w=>by
  simp only[List.mem_cons,List.not_mem_nil,or_false,or_self] at hx
  subst hx
  exact H8 w
end Go.Proofs.YtbjakddkfgjkaaaGreat.Fw
