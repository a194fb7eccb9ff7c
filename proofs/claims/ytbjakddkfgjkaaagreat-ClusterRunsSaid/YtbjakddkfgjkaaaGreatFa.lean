/-
  A symbolic step for the operations of a region, sound for the model: states, quiet operations, the frame, and runs of operations.
  Conditions: none beyond those that each theorem states.
-/
import Derived.WalkKit
import Derived.ProofKit
import Derived.Orders
import Derived.KernelRfl
set_option linter.unusedVariables false
set_option linter.unusedSimpArgs false
namespace Go.Proofs.YtbjakddkfgjkaaaGreat.Fw
open Go.RowKit
inductive SV where
  |v (x:Value)
  |p (i off:Nat)
  |s (i off n c:Nat)
  |fn (f:FuncId) (dc:List (Nat×Nat))
  deriving Inhabited
def kv (bs:List Nat)(i off:Nat):Addr:=⟨bs.getD i 0,off,none⟩
def den (bs:List Nat):SV→Value
  | .v x=>x
  | .p i off=>.pointer (some (kv bs i off))
  | .s i off n c=>.slice (some (kv bs i off)) n c
  | .fn f dc=>.func (.func f) #[] (dc.map fun c=>Value.pointer (some (kv bs c.1 c.2))).toArray
abbrev Env:=List (Nat×SV)
def get:Env→Nat→Option SV
  |[],_=>none
  |(t,x)::r,u=>bif Nat.beq t u then some x else get r u
def jz (e:Env):Option Nat→SV→Env
  |none,_=>e
  |some t,x=>(t,x)::e
def nq:Env→List Nat→Env
  |[],_=>[]
  |(t,x)::r,l=>bif l.any (Nat.beq t) then (t,x)::nq r l else nq r l
structure fq where
  ty:Nat
  cs:List SV
  deriving Inhabited
structure SS where
  env:Env
  loc:List fq
def Fr (bs:List Nat)(e:Env)(a:Act):Prop:=a.defers=[]∧ ∀t x,get e t=some x→a.tmps.getD t undef=den bs x
theorem Fr.put {bs:List Nat}{e:Env}{a:Act}(h:Fr bs e a)(d:Option Nat)(x:SV)(hd: ∀t,d=some t→t<a.tmps.size):Fr bs (jz e d x) (a.put d (den bs x)):=by
  cases d with
  |none=>exact h
  |some t=>
    refine⟨h.1,fun u y hu=>?_⟩
    have ht:=hd t rfl
    simp only[jz,get] at hu
    simp only[Act.put]
    cases hb:Nat.beq t u with
    |true=>
      have e1:t=u:=Nat.eq_of_beq_eq_true hb
      subst e1
      simp only[hb,cond_true] at hu
      injection hu with hu
      subst hu
      simp[Array.getD,ht]
    |false=>
      simp only[hb,cond_false] at hu
      have h2:u≠t:=fun e1=>by subst e1;rw[Nat.beq_refl] at hb;cases hb
      have:=h.2 u y hu
      rw[←this]
      simp only[Array.getD_eq_getD_getElem?]
      rw[Array.getElem?_setIfInBounds_ne (Ne.symm h2)]
theorem Dm (e:Env)(l:List Nat)(u:Nat)(x:SV)(h:get (nq e l) u=some x):get e u=some x:=by
  induction e with
  |nil=>cases h
  |cons y r ih=>
    obtain⟨s,z⟩:=y
    cases hk:l.any (Nat.beq s) with
    |true=>
      simp only[nq,hk,cond_true,get] at h⊢
      cases hb:Nat.beq s u with
      |true=>simpa [hb] using h
      |false=>simp only [hb,cond_false] at h⊢;exact ih h
    |false=>
      simp only[nq,hk,cond_false] at h
      have h1:=ih h
      simp only[get]
      cases hb:Nat.beq s u with
      |false=>simpa using h1
      |true=>
        exfalso
        have e1:s=u:=Nat.eq_of_beq_eq_true hb
        subst e1
        clear ih h1 hb
        induction r with
        |nil=>cases h
        |cons y r KV=>
          obtain⟨s2,z2⟩:=y
          cases G3:l.any (Nat.beq s2) with
          |false=>simp only [nq,G3,cond_false] at h;exact KV h
          |true=>
            simp only[nq,G3,cond_true,get] at h
            cases gT:Nat.beq s2 s with
            |true=>rw [Nat.eq_of_beq_eq_true gT,hk] at G3;cases G3
            |false=>simp only [gT,cond_false] at h;exact KV h
theorem Fr.I0 {bs:List Nat}{e:Env}{a:Act}(h:Fr bs e a)(l:List Nat):Fr bs (nq e l) a:=
  ⟨h.1,fun u x hu=>h.2 u x (Dm _ _ _ _ hu)⟩
def bq (w:World)(a:Addr)(vs:List Value):Prop:= ∀(j:Nat) (v:Value),vs[j]? =some v→w.cell? (a.add j)=some v
def wh (bs:List Nat)(loc:List fq)(w:World):Prop:=
  ∀(i:Nat) (b:fq),loc[i]? =some b→b.cs≠[]→w.heap[bs.getD i 0]? =some (.cells (b.cs.map (den bs)).toArray b.ty (0,0))
def jX:List Prop→Prop
  |[]=>True
  |p::r=>p∧jX r
theorem nN {a b:List Prop}:jX (a++b)↔jX a∧jX b:=by
  induction a with
  |nil=>simp [jX]
  |cons p r ih=>simp [jX,ih,and_assoc]
def nB (w:World):List (Addr×List Value)→Prop
  |[]=>True
  |x::r=>bq w x.1 x.2∧nB w r
theorem g8 {w:World}{a b:List (Addr×List Value)}:nB w (a++b)↔nB w a∧nB w b:=by
  induction a with
  |nil=>simp [nB]
  |cons p r ih=>simp [nB,ih,and_assoc]
end Go.Proofs.YtbjakddkfgjkaaaGreat.Fw
namespace Go.Proofs.YtbjakddkfgjkaaaGreat.Fw
open Go.RowKit
inductive Hint where
  |no
  |ext (vs:List Value)
  |idx (a:Addr) (j:Nat)
  |qg (j:Nat)
  |sl (l h:Nat)
  |val (v:Value)
  deriving Inhabited
def ln (x:Int):Prop:= -9223372036854775808≤x∧x≤9223372036854775807
abbrev QR:=Option (SV×List Prop×List (Addr×List Value))
def ev (s:SS):Operand→Option SV
  | .tmp t=>get s.env t
  | .const v=>some (.v v)
  | .global _=>none
  | .func f=>some (.fn f [])
def Hj (op:BinOp):Value→Value→Option (Value×List Prop)
  | .int .i64 a,.int .i64 b=>
    match op with
    | .add=>some (.int .i64 (a+b),[ln (a+b)])
    | .sub=>some (.int .i64 (a - b),[ln (a - b)])
    | .mul=>some (.int .i64 (a*b),[ln (a*b)])
    | .quo=>some (.int .i64 (a / b),[0≤a,a≤9223372036854775807,0<b])
    | .rem=>some (.int .i64 (a % b),[0≤a,0<b])
    | .and=>some (.int .i64 (bits .and .i64 a b),[])
    | .or=>some (.int .i64 (bits .or .i64 a b),[])
    | .eql=>some (.bool (decide (a=b)),[])
    | .neq=>some (.bool (!decide (a=b)),[])
    | .lss=>some (.bool (decide (a<b)),[])
    | .leq=>some (.bool (decide (a≤b)),[])
    | .gtr=>some (.bool (decide (b<a)),[])
    | .geq=>some (.bool (decide (b≤a)),[])
    | .shl=>some (.int .i64 (IntKind.i64.wrap (a*2 ^ b.toNat)),[0≤b,b≤64])
    | .shr=>some (.int .i64 (a / 2 ^ b.toNat),[0≤b,b≤64])
    |_=>none
  | .int .i64 a,.int .u64 b=>
    match op with
    | .shl=>some (.int .i64 (IntKind.i64.wrap (a*2 ^ b.toNat)),[0≤b,b≤64])
    | .shr=>some (.int .i64 (a / 2 ^ b.toNat),[0≤b,b≤64])
    |_=>none
  | .int .u8 a,.int .u8 b=>
    match op with
    | .and=>some (.int .u8 (bits .and .u8 a b),[])
    | .or=>some (.int .u8 (bits .or .u8 a b),[])
    | .eql=>some (.bool (decide (a=b)),[])
    | .neq=>some (.bool (!decide (a=b)),[])
    | .lss=>some (.bool (decide (a<b)),[])
    | .leq=>some (.bool (decide (a≤b)),[])
    | .gtr=>some (.bool (decide (b<a)),[])
    | .geq=>some (.bool (decide (b≤a)),[])
    |_=>none
  | .string a,.string b=>
    match op with
    | .add=>some (.string (a++b),[a.size+b.size≤9223372036854775807])
    | .eql=>some (.bool (decide (a=b)),[])
    | .neq=>some (.bool (!decide (a=b)),[])
    | .lss=>some (.bool (Op.bytesLess a.toList b.toList),[])
    | .geq=>some (.bool (!Op.bytesLess a.toList b.toList),[])
    | .gtr=>some (.bool (!(Op.bytesLess a.toList b.toList||decide (a=b))),[])
    | .leq=>some (.bool (Op.bytesLess a.toList b.toList||decide (a=b)),[])
    |_=>none
  |_,_=>none
theorem eR {x:Int}(h:ln x):IntKind.i64.wrap x=x:=by
  unfold ln at h
  rw[IntKind.wrap_i64]
  omega
theorem toList_eq (a b:ByteArray):(a.toList==b.toList)=decide (a=b):=by
  have h:a.toList=b.toList↔a=b:=by
    rw[ByteArray.toList_eq,ByteArray.toList_eq]
    exact⟨WideShapes.bytes_inj,by rintro rfl;rfl⟩
  by_cases e:a=b
  · simp[e]
  · simp[e,mt h.1 e]
theorem AT (P:Program)(op:BinOp)(T:TypeId)(X Y:Operand)(x y v:Value)(iL:List Prop)(w:World)(h:Hj op x y=some (v,iL))(ho:jX iL):
    (do eqGuard op T X Y x y;binOp op T x y:Sem Value).run P w=.ok v w:=by
  have hg:(eqGuard op T X Y x y).run P w=.ok () w:=by
    unfold Hj at h
    unfold eqGuard
    split at h<;>(try (cases h;done))<;>cases op<;>simp
  rw[Sem.run_bind,hg]
  simp only[Result.andThen_ok]
  unfold Hj at h
  split at h
  · rename_i a b
    cases op<;>simp only [Option.some.injEq,Prod.mk.injEq,reduceCtorEq] at h<;>obtain⟨rfl,rfl⟩:=h<;>simp only [jX,and_true] at ho
    case add=>simp [binOp,Op.intArith,eR ho]
    case sub=>simp [binOp,Op.intArith,eR ho]
    case mul=>simp [binOp,Op.intArith,eR ho]
    case quo=>
      obtain⟨h0,h1,h2⟩:=ho
      have hq:0≤a / b:=Int.ediv_nonneg h0 (Int.le_of_lt h2)
      have kN:a / b≤a:=Int.ediv_le_self b h0
      have:b≠0:=by omega
      simp only[binOp,Op.intDiv,this,if_false,Int.tdiv_eq_ediv_of_nonneg h0]
      simp[eR (x:=a / b) ⟨by omega,by omega⟩]
    case rem=>
      obtain⟨h0,h2⟩:=ho
      have:b≠0:=by omega
      simp[binOp,Op.intDiv,this,Int.tmod_eq_emod_of_nonneg h0]
    case and=>simp [binOp];rfl
    case or=>simp [binOp];rfl
    case shl=>simp only [binOp];rw[shift_shl _ _ _ _ ho.1 (by simpa[IntKind.bits] using ho.2)];rfl
    case shr=>simp only [binOp];rw[shift_shr _ _ _ _ ho.1 (by simpa[IntKind.bits] using ho.2)];rfl
    case eql=>simp [binOp,Op.intCmp];rfl
    case neq=>simp [binOp,Op.intCmp];rfl
    all_goals simp[binOp,Op.intCmp]
  · rename_i a b
    cases op<;>simp only [Option.some.injEq,Prod.mk.injEq,reduceCtorEq] at h<;>obtain⟨rfl,rfl⟩:=h<;>simp only [jX,and_true] at ho
    case shl=>simp only [binOp];rw[shift_shl _ _ _ _ ho.1 (by simpa[IntKind.bits] using ho.2)];rfl
    case shr=>simp only [binOp];rw[shift_shr _ _ _ _ ho.1 (by simpa[IntKind.bits] using ho.2)];rfl
  · rename_i a b
    cases op<;>simp only [Option.some.injEq,Prod.mk.injEq,reduceCtorEq] at h<;>obtain⟨rfl,rfl⟩:=h
    case and=>simp [binOp];rfl
    case or=>simp [binOp];rfl
    case eql=>simp [binOp,Op.intCmp];rfl
    case neq=>simp [binOp,Op.intCmp];rfl
    all_goals simp[binOp,Op.intCmp]
  · rename_i a b
    cases op<;>simp only [Option.some.injEq,Prod.mk.injEq,reduceCtorEq] at h<;>obtain⟨rfl,rfl⟩:=h<;>simp only [jX,and_true] at ho
    case add=>
      simp[binOp,Op.stringOp]
      omega
    all_goals simp[binOp,Op.stringOp,toList_eq]
  · cases h
def lE (P:Program)(t:TypeId):Bool:=
  match P.underlying t with
  |some (.struct _)|some (.array _ _)=>true
  |_=>false
def je:List SV→Option (List Value)
  |[]=>some []
  | .v x::r=>match je r with
    |some l=>some (x::l)
    |none=>none
  |_::_=>none
def nO:List SV→Option (List (Nat×Nat))
  |[]=>some []
  | .p i o::r=>match nO r with
    |some l=>some ((i,o)::l)
    |none=>none
  |_::_=>none
def Cu (s:SS):List Operand→Option (List SV)
  |[]=>some []
  |o::r=>match ev s o,Cu s r with
    |some x,some l=>some (x::l)
    |_,_=>none
def qh (s:SS):List (Nat×Operand)→Option (List (Nat×Value))
  |[]=>some []
  |(i,o)::r=>match ev s o,qh s r with
    |some (.v x),some l=>some ((i,x)::l)
    |_,_=>none
def tl (P:Program)(T:TypeId)(f:Nat):Option Field:=
  match P.underlying T with
  |some (.struct fs)=>fs[f]?
  |_=>none
def mV (P:Program)(s:SS)(hint:Hint):Op→QR
  | .move x| .assign x=>match ev s x with|some y=>some (y,[],[])|none=>none
  | .pick c a b=>
    match ev s c with
    |some (.v (.bool true))=>(match ev s a with|some y=>some (y,[],[])|none=>none)
    |some (.v (.bool false))=>(match ev s b with|some y=>some (y,[],[])|none=>none)
    |_=>none
  | .binOp op T X Y _=>
    match ev s X,ev s Y with
    |some (.v x),some (.v y)=>match hint with
      | .val v=>some (.v v,[∀w,(do eqGuard op T X Y x y;binOp op T x y:Sem Value).run P w=.ok v w],[])
      |_=>match Hj op x y with
        |some (v,iL)=>some (.v v,iL,[])
        |none=>none
    |_,_=>none
  | .unOp op _ X=>match op,ev s X with
    | .not,some (.v (.bool b))=>some (.v (.bool (!b)),[],[])
    |_,_=>none
  | .convert S D X=>
    if (P.underlying S).isNone then none else
    match P.underlying D,ev s X with
    |some (.int .i64),some (.v (.int .i64 n))=>some (.v (.int .i64 n),[ln n],[])
    |some (.int .i64),some (.v (.int .u8 n))=>some (.v (.int .i64 n),[0≤n,n≤255],[])
    |some (.int .u8),some (.v (.int .i64 n))=>some (.v (.int .u8 (n % 256)),[],[])
    |_,some (.v x)=>match hint with
      | .val v=>some (.v v,[∀w,(convert S D x:Sem Value).run P w=.ok v w],[])
      |_=>none
    |_,_=>none
  | .fieldAddr T X f=>
    match tl P T f with
    |some fd=>if P.cellsOf fd.type=0 then none else
      match ev s X with
      |some (.p i o)=>some (.p i (o+fd.offset),[],[])
      |some (.v (.pointer (some a)))=>some (.v (.pointer (some (a.add fd.offset))),[],[])
      |_=>none
    |none=>none
  | .field T X f=>
    match tl P T f,ev s X with
    |some fd,some (.v (.agg cs))=>
      if (P.underlying fd.type).isNone then none else
      if lE P fd.type then some (.v (.agg (cs.extract fd.offset (fd.offset+P.cellsOf fd.type))),[],[])
      else match cs[fd.offset]? with
        |some v=>some (.v v,[],[])
        |none=>none
    |_,_=>none
  | .nilCheck X=>
    match ev s X with
    |some (.p i o)=>some (.p i o,[],[])
    |some (.v (.pointer (some a)))=>some (.v (.pointer (some a)),[],[])
    |some (.fn f c)=>some (.fn f c,[],[])
    |_=>none
  | .extract X i=>
    match ev s X with
    |some (.v (.tuple vs))=>match vs[i]? with
      |some v=>some (.v v,[],[])
      |none=>none
    |_=>none
  | .build T parts=>
    match qh s parts.toList with
    |some l=>match P.built T l with
      |some cells=>some (.v (.agg cells),[],[])
      |none=>none
    |none=>none
  | .makeFunc (.func f) first captured=>
    match first.toList,Cu s captured.toList with
    |[],some l=>match nO l with
      |some c=>some (.fn f c,[],[])
      |none=>none
    |_,_=>none
  | .indexAddr T X I=>
    match P.underlying T,ev s X,ev s I,hint with
    |some (.slice e),some (.v (.slice A n _)),some (.v (.int .i64 i)),.idx a j=>
      if P.cellsOf e=0 then none else some (.v (.pointer (some (a.add (j*P.cellsOf e)))),[A=some a,i=(j:Int),j<n],[])
    |some (.array n e),some (.p b o),some (.v (.int .i64 i)),.idx _ j=>
      if P.cellsOf e=0 then none else some (.p b (o+j*P.cellsOf e),[i=(j:Int),j<n],[])
    |some (.slice e),some (.s b o n _),some (.v (.int .i64 i)),.idx _ j=>
      if P.cellsOf e=0 then none else some (.p b (o+j*P.cellsOf e),[i=(j:Int),j<n],[])
    |_,_,_,_=>none
  | .index T X I=>
    match P.underlying T,ev s X,ev s I,hint with
    |some .string,some (.v (.string b)),some (.v (.int .i64 i)),.qg j=>
      some (.v (.int .u8 ((b.data.getD j 0).toNat:Nat)),[i=(j:Int),j<b.size],[])
    |_,_,_,_=>none
  | .slice T X lo hi none=>
    match P.underlying T,ev s X,hint with
    |some .string,some (.v (.string b)),.sl l h=>
      match lo.map (ev s),hi.map (ev s) with
      |none,none=>some (.v (.string (b.extract l h)),[l=0,h=b.size],[])
      |some (some (.v (.int .i64 i))),none=>some (.v (.string (b.extract l h)),[i=(l:Int),h=b.size,l≤h],[])
      |none,some (some (.v (.int .i64 j)))=>some (.v (.string (b.extract l h)),[l=0,j=(h:Int),h≤b.size],[])
      |some (some (.v (.int .i64 i))),some (some (.v (.int .i64 j)))=>some (.v (.string (b.extract l h)),[i=(l:Int),j=(h:Int),l≤h,h≤b.size],[])
      |_,_=>none
    |some (.slice e),some (.v (.slice A n c)),.sl l h=>
      if P.cellsOf e=0 then none else
      match lo.map (ev s),hi.map (ev s) with
      |some (some (.v (.int .i64 i))),none=>some (.v (.slice (if c=l then A else A.map (·.add (l*P.cellsOf e))) (h - l) (c - l)),[i=(l:Int),h=n,l≤h],[])
      |none,some (some (.v (.int .i64 j)))=>some (.v (.slice A h c),[l=0,j=(h:Int),h≤c],[])
      |some (some (.v (.int .i64 i))),some (some (.v (.int .i64 j)))=>some (.v (.slice (if c=l then A else A.map (·.add (l*P.cellsOf e))) (h - l) (c - l)),[i=(l:Int),j=(h:Int),l≤h,h≤c],[])
      |_,_=>none
    |_,_,_=>none
  | .load T X=>
    if (P.underlying T).isNone then none else
    match ev s X with
    |some (.p i o)=>
      match s.loc[i]? with
      |some b=>
        if lE P T then
          match je ((b.cs.drop o).take (P.cellsOf T)) with
          |some l=>if l.length=P.cellsOf T then some (.v (.agg l.toArray),[],[]) else none
          |none=>none
        else match b.cs[o]? with
          |some x=>some (x,[],[])
          |none=>none
      |none=>none
    |some (.v (.pointer (some a)))=>
      match hint with
      | .ext vs=>
        if lE P T then (if vs.length=P.cellsOf T then some (.v (.agg vs.toArray),[],[(a,vs)]) else none)
        else match vs with
          |[v]=>some (.v v,[],[(a,[v])])
          |_=>none
      |_=>none
    |_=>none
  | .call { callee:=.builtin b,args,argTypes }=>
    match b,args.toList,argTypes.toList with
    | .len,[x],[t]=>
      match P.underlying t,ev s x with
      |some (.slice _),some (.v (.slice _ n _))=>some (.v (.int .i64 (n:Int)),[],[])
      |some (.slice _),some (.s _ _ n _)=>some (.v (.int .i64 (n:Int)),[],[])
      |some .string,some (.v (.string b))=>some (.v (.int .i64 (b.size:Int)),[],[])
      |_,_=>none
    | .cap,[x],[t]=>
      match P.underlying t,ev s x with
      |some (.slice _),some (.v (.slice _ _ c))=>some (.v (.int .i64 (c:Int)),[],[])
      |_,_=>none
    | .min,[x,y],_=>
      match ev s x,ev s y with
      |some (.v (.int k a)),some (.v (.int _ b))=>some (.v (.int k (if b<a then b else a)),[],[])
      |_,_=>none
    | .max,[x,y],_=>
      match ev s x,ev s y with
      |some (.v (.int k a)),some (.v (.int _ b))=>some (.v (.int k (if b>a then b else a)),[],[])
      |_,_=>none
    | .min,[x,y,z],_=>
      match ev s x,ev s y,ev s z with
      |some (.v (.int k a)),some (.v (.int _ b)),some (.v (.int _ c))=>some (.v (.int k (if c<(if b<a then b else a) then c else (if b<a then b else a))),[],[])
      |_,_,_=>none
    |_,_,_=>none
  |_=>none
end Go.Proofs.YtbjakddkfgjkaaaGreat.Fw
namespace Go.Proofs.YtbjakddkfgjkaaaGreat.Fw
open Go.RowKit
theorem aV {bs:List Nat}{s:SS}{a:Act}(hf:Fr bs s.env a){X:Operand}{y:SV}(h:ev s X=some y):a.eval X=den bs y:=by
  cases X<;>simp only [ev,Option.some.injEq,reduceCtorEq] at h
  case tmp t=>exact hf.2 _ _ h
  case const v=>subst h;rfl
  case func f=>subst h;rfl
theorem jl {bs:List Nat}{s:SS}{a:Act}(hf:Fr bs s.env a): ∀{l:List Operand} {ys:List SV},Cu s l=some ys→l.map a.eval=ys.map (den bs)
  |[],ys,h=>by simp[Cu] at h;subst h;rfl
  |o::r,ys,h=>by
    simp only[Cu] at h
    split at h
    · rename_i x l hx hl
      injection h with h
      subst h
      simp[aV hf hx,jl hf hl]
    · cases h
theorem pj {bs:List Nat}{s:SS}{a:Act}(hf:Fr bs s.env a): ∀{l:List (Nat×Operand)} {ys:List (Nat×Value)},qh s l=some ys→l.map (fun p=>(p.1,a.eval p.2))=ys
  |[],ys,h=>by simp[qh] at h;subst h;rfl
  |(i,o)::r,ys,h=>by
    simp only[qh] at h
    split at h
    · rename_i x l hx hl
      injection h with h
      subst h
      simp[aV hf hx,pj hf hl,den]
    · cases h
theorem qi (bs:List Nat): ∀{l:List SV} {c:List (Nat×Nat)},nO l=some c→l.map (den bs)=c.map fun c=>Value.pointer (some (kv bs c.1 c.2))
  |[],c,h=>by simp[nO] at h;subst h;rfl
  | .p i o::r,c,h=>by
    simp only[nO] at h
    split at h
    · rename_i l hl
      injection h with h
      subst h
      simp[qi bs hl,den]
    · cases h
  | .v _::_,c,h=>by simp[nO] at h
  | .fn _ _::_,c,h=>by simp[nO] at h
  | .s _ _ _ _::_,c,h=>by simp[nO] at h
theorem iw (bs:List Nat): ∀{l:List SV} {c:List Value},je l=some c→l.map (den bs)=c
  |[],c,h=>by simp[je] at h;subst h;rfl
  | .v x::r,c,h=>by
    simp only[je] at h
    split at h
    · rename_i l hl
      injection h with h
      subst h
      simp[iw bs hl,den]
    · cases h
  | .p _ _::_,c,h=>by simp[je] at h
  | .fn _ _::_,c,h=>by simp[je] at h
  | .s _ _ _ _::_,c,h=>by simp[je] at h
theorem lq (P:Program)(t:TypeId)(w:World)(hu:(P.underlying t).isSome=true):(isAgg t).run P w=.ok (lE P t) w:=by
  obtain⟨d,hd⟩:=Option.isSome_iff_exists.1 hu
  simp only[isAgg,Sem.run_bind,run_underlying hd,Result.andThen_ok,lE,hd]
  cases d<;>rfl
theorem cF (P:Program)(t:TypeId)(w:World)(hu:(P.info? t).isSome=true):(sizeOf t).run P w=.ok (P.cellsOf t) w:=by
  obtain⟨d,hd⟩:=Option.isSome_iff_exists.1 hu
  simp[sizeOf,typeInfo,hd,Program.cellsOf]
theorem dM {P:Program}{t:TypeId}(h:P.cellsOf t≠0):(P.info? t).isSome=true:=by
  unfold Program.cellsOf at h
  cases hi:P.info? t with
  |none=>simp [hi] at h
  |some i=>rfl
theorem fz (P:Program)(w:World)(a:Addr): ∀(n i:Nat) (acc:Array Value) (vs:List Value),vs.length=n→(∀j v,vs[j]? =some v→w.cell? (a.add (i+j))=some v)→
    (loadCellsFrom a i n acc).run P w=.ok (acc++vs.toArray) w
  |0,i,acc,vs,hl,_=>by
    have:vs=[]:=List.eq_nil_of_length_eq_zero hl
    subst this
    simp[loadCellsFrom]
  |n+1,i,acc,vs,hl,hc=>by
    cases vs with
    |nil=>simp at hl
    |cons v r=>
      have h0:=hc 0 v rfl
      simp only[Nat.add_zero] at h0
      simp only[loadCellsFrom,Sem.run_bind,run_load,h0,Result.andThen_ok]
      rw[fz P w a n (i+1) (acc.push v) r (by simpa using hl) (fun j u hu=>by
        have:=hc (j+1) u (by simpa using hu)
        rwa [show i+1+j=i+(j+1) by omega])]
      simp
theorem nP (P:Program)(w:World)(t:TypeId)(a:Addr)(vs:List Value)(mj:lE P t=true)(hl:vs.length=P.cellsOf t)(hi:(P.info? t).isSome=true)(hc:bq w a vs):
    (loadVar t a).run P w=.ok (.agg vs.toArray) w:=by
  have hu:(P.underlying t).isSome=true:=by
    unfold lE at mj
    cases h:P.underlying t with
    |none=>simp [h] at mj
    |some d=>rfl
  simp only[loadVar,Sem.run_bind,lq P t w hu,mj,Result.andThen_ok,if_true,cF P t w hi,loadCells,Sem.run_pure]
  rw[fz P w a _ 0 #[] vs hl (fun j v h=>by simpa using hc j v h)]
  simp
theorem nQ (P:Program)(w:World)(t:TypeId)(a:Addr)(v:Value)(mj:lE P t=false)(hu:(P.underlying t).isSome=true)(hc:w.cell? a=some v):
    (loadVar t a).run P w=.ok v w:=by
  simp[loadVar,lq P t w hu,mj,hc]
theorem add_zero (a:Addr):a.add 0=a:=by simp[Addr.add]
theorem oG (bs:List Nat)(i o n:Nat):(kv bs i o).add n=kv bs i (o+n):=by
  unfold Addr.add kv
  split
  · rename_i h;subst h;rfl
  · rfl
theorem wh.cell {bs:List Nat}{loc:List fq}{w:World}(h:wh bs loc w){i:Nat}{b:fq}(hb:loc[i]? =some b){o:Nat}{x:SV}(hx:b.cs[o]? =some x):w.cell? (kv bs i o)=some (den bs x):=by
  have:=h i b hb (by rintro e;rw[e] at hx;simp at hx)
  simp only[World.cell?,kv,this]
  simp[hx]
end Go.Proofs.YtbjakddkfgjkaaaGreat.Fw
namespace Go.Proofs.YtbjakddkfgjkaaaGreat.Fw
open Go.RowKit
theorem info_of_underlying {P:Program}{t:TypeId}(h:(P.underlying t).isNone=false):(P.info? t).isSome=true:=by
  unfold Program.underlying at h
  cases hi:P.info? t with
  |none=>simp [hi] at h
  |some i=>rfl
theorem jA {α:Type}{o:Option α}(h: ¬(o.isNone=true)):o.isSome=true:=by cases o<;>simp_all
theorem l7 (P:Program)(o:Oper)(s:SS)(hint:Hint)(x:SV)(iL:List Prop)(ec:List (Addr×List Value))(bs:List Nat)(a:Act)(w:World)
    (h:mV P s hint o.op=some (x,iL,ec)) (ho:jX iL) (hf:Fr bs s.env a) (hl:wh bs s.loc w) (hw:nB w ec):
    (execOp a.eval o).run P w=.ok (.value (den bs x)) w:=by
  unfold mV at h
  unfold execOp
  split at h
  case h_1 X kV=>
    rw[kV]
    split at h
    · rename_i y hy
      simp only[Option.some.injEq,Prod.mk.injEq] at h
      obtain⟨rfl,rfl,rfl⟩:=h
      simp[aV hf hy]
    · cases h
  case h_2 X kV=>
    rw[kV]
    split at h
    · rename_i y hy
      simp only[Option.some.injEq,Prod.mk.injEq] at h
      obtain⟨rfl,rfl,rfl⟩:=h
      simp[aV hf hy]
    · cases h
  case h_3 c A B kV=>
    rw[kV]
    split at h
    · rename_i hc
      split at h
      · rename_i y hy
        simp only[Option.some.injEq,Prod.mk.injEq] at h
        obtain⟨rfl,rfl,rfl⟩:=h
        simp[aV hf hc,den,asBool,aV hf hy]
      · cases h
    · rename_i hc
      split at h
      · rename_i y hy
        simp only[Option.some.injEq,Prod.mk.injEq] at h
        obtain⟨rfl,rfl,rfl⟩:=h
        simp[aV hf hc,den,asBool,aV hf hy]
      · cases h
    · cases h
  case h_4 op T X Y yt kV=>
    rw[kV]
    split at h
    · rename_i x y hx hy
      have ex:=aV hf hx
      have ey:=aV hf hy
      simp only[den] at ex ey
      split at h
      · rename_i v
        simp only[Option.some.injEq,Prod.mk.injEq] at h
        obtain⟨rfl,rfl,rfl⟩:=h
        have:=ho.1 w
        simp only[ex,ey,den,Sem.run_bind] at this⊢
        rw[this]
        simp
      · split at h
        · rename_i v Hk hv
          simp only[Option.some.injEq,Prod.mk.injEq] at h
          obtain⟨rfl,rfl,rfl⟩:=h
          have:=AT P op T X Y x y v _ w hv ho
          simp only[ex,ey,den,Sem.run_bind] at this⊢
          rw[this]
          simp
        · cases h
    · cases h
  case h_5 op t X kV=>
    rw[kV]
    split at h
    · rename_i b hb
      simp only[Option.some.injEq,Prod.mk.injEq] at h
      obtain⟨rfl,rfl,rfl⟩:=h
      simp[aV hf hb,den,Op.unary]
    · cases h
  case h_6 S D X kV=>
    rw[kV]
    split at h
    · cases h
    · rename_i hS
      obtain⟨dS,oH⟩:=Option.isSome_iff_exists.1 (jA hS)
      split at h
      · rename_i n hD hx
        simp only[Option.some.injEq,Prod.mk.injEq] at h
        obtain⟨rfl,rfl,rfl⟩:=h
        simp[aV hf hx,den,convert,run_underlying hD,run_underlying oH,Conv.intToInt,eR ho.1]
      · rename_i n hD hx
        simp only[Option.some.injEq,Prod.mk.injEq] at h
        obtain⟨rfl,rfl,rfl⟩:=h
        have:IntKind.i64.wrap n=n:=eR ⟨by have:=ho.1;omega,by have:=ho.2.1;omega⟩
        simp[aV hf hx,den,convert,run_underlying hD,run_underlying oH,Conv.intToInt,this]
      · rename_i n hD hx
        simp only[Option.some.injEq,Prod.mk.injEq] at h
        obtain⟨rfl,rfl,rfl⟩:=h
        have:IntKind.u8.wrap n=n % 256:=by simp[IntKind.wrap,IntKind.bits,IntKind.signed]
        simp[aV hf hx,den,convert,run_underlying hD,run_underlying oH,Conv.intToInt,this]
      · rename_i D' X' hx _ _ _
        split at h
        · rename_i v
          simp only[Option.some.injEq,Prod.mk.injEq] at h
          obtain⟨rfl,rfl,rfl⟩:=h
          have:=ho.1 w
          simp only[aV hf (by assumption),den,Sem.run_bind] at this⊢
          rw[this]
          simp
        · cases h
      · cases h
  case h_7 T X f kV=>
    rw[kV]
    split at h
    · rename_i fd G4
      split at h
      · cases h
      · rename_i lr
        have Qa: ∀(ad:Addr),(Instr.fieldAt T (.pointer (some ad)) f).run P w=.ok (.pointer (some (ad.add fd.offset))) w:=by
          intro ad
          unfold tl at G4
          split at G4
          · rename_i fs hu
            simp[Instr.fieldAt,run_underlying hu,G4,Instr.sureAddr,fieldPlace,cF P fd.type w (dM lr),lr]
          · cases G4
        split at h
        · rename_i i o' hx
          simp only[Option.some.injEq,Prod.mk.injEq] at h
          obtain⟨rfl,rfl,rfl⟩:=h
          simp[aV hf hx,den,Qa,oG]
        · rename_i a' hx
          simp only[Option.some.injEq,Prod.mk.injEq] at h
          obtain⟨rfl,rfl,rfl⟩:=h
          simp[aV hf hx,den,Qa]
        · cases h
    · cases h
  case h_8 T X f kV=>
    rw[kV]
    split at h
    · rename_i fd cs G4 hx
      unfold tl at G4
      split at G4
      · rename_i fs hu
        split at h
        · cases h
        · rename_i hU
          have I1:=jA hU
          have hI:=info_of_underlying (Bool.eq_false_iff.2 hU)
          split at h
          · rename_i mj
            simp only[Option.some.injEq,Prod.mk.injEq] at h
            obtain⟨rfl,rfl,rfl⟩:=h
            simp[aV hf hx,den,Instr.field,run_underlying hu,G4,asAgg,part,lq P fd.type w I1,mj,cF P fd.type w hI]
          · rename_i mj
            split at h
            · rename_i v hv
              simp only[Option.some.injEq,Prod.mk.injEq] at h
              obtain⟨rfl,rfl,rfl⟩:=h
              simp[aV hf hx,den,Instr.field,run_underlying hu,G4,asAgg,part,lq P fd.type w I1,mj,hv]
            · cases h
      · cases G4
    · cases h
  case h_9 X kV=>
    rw[kV]
    split at h
    · rename_i i o' hx
      simp only[Option.some.injEq,Prod.mk.injEq] at h
      obtain⟨rfl,rfl,rfl⟩:=h
      simp[aV hf hx,den]
    · rename_i a' hx
      simp only[Option.some.injEq,Prod.mk.injEq] at h
      obtain⟨rfl,rfl,rfl⟩:=h
      simp[aV hf hx,den]
    · rename_i f c hx
      simp only[Option.some.injEq,Prod.mk.injEq] at h
      obtain⟨rfl,rfl,rfl⟩:=h
      simp[aV hf hx,den]
    · cases h
  case h_10 X i kV=>
    rw[kV]
    split at h
    · rename_i vs hx
      split at h
      · rename_i v hv
        simp only[Option.some.injEq,Prod.mk.injEq] at h
        obtain⟨rfl,rfl,rfl⟩:=h
        simp[aV hf hx,den,Instr.extract,hv]
      · cases h
    · cases h
  case h_11 T parts kV=>
    rw[kV]
    split at h
    · rename_i l Hm
      split at h
      · rename_i cells hb
        simp only[Option.some.injEq,Prod.mk.injEq] at h
        obtain⟨rfl,rfl,rfl⟩:=h
        have h1:=pj hf Hm
        have h2:(parts.map fun p=>(p.1,a.eval p.2)).toList=l:=by simpa using h1
        rw[←h2] at hb
        have:=run_build w T _ cells hb
        simp[this,den]
      · cases h
    · cases h
  case h_12 f first cap kV=>
    rw[kV]
    split at h
    · rename_i l Rz Hm
      split at h
      · rename_i c hc
        simp only[Option.some.injEq,Prod.mk.injEq] at h
        obtain⟨rfl,rfl,rfl⟩:=h
        have h1:=jl hf Hm
        have h2:=qi bs hc
        have e1:first= #[]:=by cases first;simp_all
        have e2:cap.map a.eval=(c.map fun c=>Value.pointer (some (kv bs c.1 c.2))).toArray:=by
          rw[←h2, ←h1]
          apply Array.ext'
          simp
        simp[Instr.makeFunc,den,e1,e2]
      · cases h
    · cases h
  case h_13 T X I kV=>
    rw[kV]
    split at h
    · rename_i e A n c i ad j hu hx hi
      split at h
      · cases h
      · rename_i lr
        simp only[Option.some.injEq,Prod.mk.injEq] at h
        obtain⟨rfl,rfl,rfl⟩:=h
        obtain⟨rfl,rfl,h3,_⟩:=ho
        simp[aV hf hx,aV hf hi,den,Instr.indexAt,run_underlying hu,asIntOf,cF P e w (dM lr),Nat.not_le.2 h3]
    · rename_i n e b o' i ad j hu hx hi
      split at h
      · cases h
      · rename_i lr
        simp only[Option.some.injEq,Prod.mk.injEq] at h
        obtain⟨rfl,rfl,rfl⟩:=h
        obtain⟨rfl,h3,_⟩:=ho
        simp[aV hf hx,aV hf hi,den,Instr.indexAt,run_underlying hu,asIntOf,Instr.sureAddr,cF P e w (dM lr),Nat.not_le.2 h3,oG]
    · rename_i e b o' n c i ad j hu hx hi
      split at h
      · cases h
      · rename_i lr
        simp only[Option.some.injEq,Prod.mk.injEq] at h
        obtain⟨rfl,rfl,rfl⟩:=h
        obtain⟨rfl,h3,_⟩:=ho
        simp[aV hf hx,aV hf hi,den,Instr.indexAt,run_underlying hu,asIntOf,cF P e w (dM lr),Nat.not_le.2 h3,oG]
    · cases h
  case h_14 T X I kV=>
    rw[kV]
    split at h
    · rename_i b i j hu hx hi
      simp only[Option.some.injEq,Prod.mk.injEq] at h
      obtain⟨rfl,rfl,rfl⟩:=h
      obtain⟨rfl,h3,_⟩:=ho
      have h4:b[j]? =some (b.data.getD j 0):=by
        rw[getElem?_pos b j h3]
        simp only[Array.getD,dif_pos (show j<b.data.size from h3)]
        rfl
      simp[aV hf hx,aV hf hi,den,Instr.index,run_underlying hu,asIntOf,h4]
    · cases h
  case h_15 T X lo hi kV=>
    rw[kV]
    split at h
    · rename_i b l hh hu hx
      have key: ∀(lv hv:Option Value),((lv=none∧l=0)∨lv=some (.int .i64 l))→((hv=none∧hh=b.size)∨hv=some (.int .i64 hh))→l≤hh→hh≤b.size→
          (Instr.sliceAt T (.string b) lv hv none).run P w=.ok (.string (b.extract l hh)) w:=by
        intro lv hv h1 h2 h3 h4
        rcases h1 with ⟨rfl,rfl⟩|rfl<;>rcases h2 with ⟨rfl,rfl⟩|rfl<;>
          simp[Instr.sliceAt,run_underlying hu,Instr.slice,Instr.sliceBounds,Instr.sliceBound,asIntOf,h3,h4, -ByteArray.extract_zero_size]
      split at h
      · rename_i e1 e2
        simp only[Option.some.injEq,Prod.mk.injEq] at h
        obtain⟨rfl,rfl,rfl⟩:=h
        obtain⟨rfl,rfl,_⟩:=ho
        simp only[Option.map_eq_none_iff] at e1 e2
        subst e1 e2
        simp[aV hf hx,den,key none none (.inl ⟨rfl,rfl⟩) (.inl ⟨rfl,rfl⟩) (Nat.zero_le _) (Nat.le_refl _)]
      · rename_i i e1 e2
        simp only[Option.some.injEq,Prod.mk.injEq] at h
        obtain⟨rfl,rfl,rfl⟩:=h
        obtain⟨rfl,rfl,h3,_⟩:=ho
        simp only[Option.map_eq_none_iff] at e2
        obtain⟨L,rfl,f1⟩:=Option.map_eq_some_iff.1 e1
        subst e2
        simp[aV hf hx,aV hf f1,den,key (some _) none (.inr rfl) (.inl ⟨rfl,rfl⟩) h3 (Nat.le_refl _)]
      · rename_i i e1 e2
        simp only[Option.some.injEq,Prod.mk.injEq] at h
        obtain⟨rfl,rfl,rfl⟩:=h
        obtain⟨rfl,rfl,h3,_⟩:=ho
        simp only[Option.map_eq_none_iff] at e1
        obtain⟨L,rfl,f2⟩:=Option.map_eq_some_iff.1 e2
        subst e1
        simp[aV hf hx,aV hf f2,den,key none (some _) (.inl ⟨rfl,rfl⟩) (.inr rfl) (Nat.zero_le _) h3]
      · rename_i i j e1 e2
        simp only[Option.some.injEq,Prod.mk.injEq] at h
        obtain⟨rfl,rfl,rfl⟩:=h
        obtain⟨rfl,rfl,h3,h4,_⟩:=ho
        obtain⟨L,rfl,f1⟩:=Option.map_eq_some_iff.1 e1
        obtain⟨H,rfl,f2⟩:=Option.map_eq_some_iff.1 e2
        simp[aV hf hx,aV hf f1,aV hf f2,den,key (some _) (some _) (.inr rfl) (.inr rfl) h3 h4]
      · cases h
    · rename_i e A n c l hh hu hx
      split at h
      · cases h
      rename_i lr
      have key: ∀(lv hv:Option Value),((lv=none∧l=0)∨lv=some (.int .i64 l))→((hv=none∧hh=n)∨(hv=some (.int .i64 hh)∧hh≤c))→l≤hh→
          (Instr.sliceAt T (.slice A n c) lv hv none).run P w=.ok (.slice (if c=l then A else A.map (·.add (l*P.cellsOf e))) (hh - l) (c - l)) w:=by
        intro lv hv h1 h2 h3
        rcases h1 with ⟨rfl,rfl⟩|rfl<;>rcases h2 with ⟨rfl,rfl⟩|⟨rfl,h4⟩<;>
          simp[Instr.sliceAt,run_underlying hu,Instr.slice,Instr.sliceBounds,Instr.sliceBound,asIntOf,cF P e w (dM lr), *]
      split at h
      · rename_i i e1 e2
        simp only[Option.some.injEq,Prod.mk.injEq] at h
        obtain⟨rfl,rfl,rfl⟩:=h
        obtain⟨rfl,rfl,h3,_⟩:=ho
        simp only[Option.map_eq_none_iff] at e2
        obtain⟨L,rfl,f1⟩:=Option.map_eq_some_iff.1 e1
        subst e2
        simp[aV hf hx,aV hf f1,den,key (some _) none (.inr rfl) (.inl ⟨rfl,rfl⟩) h3]
      · rename_i i e1 e2
        simp only[Option.some.injEq,Prod.mk.injEq] at h
        obtain⟨rfl,rfl,rfl⟩:=h
        obtain⟨rfl,rfl,h3,_⟩:=ho
        simp only[Option.map_eq_none_iff] at e1
        obtain⟨L,rfl,f2⟩:=Option.map_eq_some_iff.1 e2
        subst e1
        have e3:(if c=0 then A else A.map (·.add (0*P.cellsOf e)))=A:=by
          split
          · rfl
          · cases A<;>simp [add_zero]
        have:=key none (some (.int .i64 hh)) (.inl ⟨rfl,rfl⟩) (.inr ⟨rfl,h3⟩) (Nat.zero_le _)
        rw[e3] at this
        simp[aV hf hx,aV hf f2,den,this]
      · rename_i i j e1 e2
        simp only[Option.some.injEq,Prod.mk.injEq] at h
        obtain⟨rfl,rfl,rfl⟩:=h
        obtain⟨rfl,rfl,h3,h4,_⟩:=ho
        obtain⟨L,rfl,f1⟩:=Option.map_eq_some_iff.1 e1
        obtain⟨H,rfl,f2⟩:=Option.map_eq_some_iff.1 e2
        simp[aV hf hx,aV hf f1,aV hf f2,den,key (some _) (some _) (.inr rfl) (.inr ⟨rfl,h4⟩) h3]
      · cases h
    · cases h
  case h_16 T X kV=>
    rw[kV]
    split at h
    · cases h
    · rename_i hU
      have I1:=jA hU
      have hI:=info_of_underlying (Bool.eq_false_iff.2 hU)
      split at h
      · rename_i i o' hx
        split at h
        · rename_i b hb
          split at h
          · rename_i mj
            split at h
            · rename_i l Hm
              split at h
              · rename_i hlen
                simp only[Option.some.injEq,Prod.mk.injEq] at h
                obtain⟨rfl,rfl,rfl⟩:=h
                have hc:bq w (kv bs i o') l:=by
                  intro j v hj
                  have h1:=iw bs Hm
                  rw[←h1] at hj
                  simp only[List.getElem?_map,List.getElem?_take,List.getElem?_drop] at hj
                  split at hj
                  · obtain⟨y,hy,rfl⟩:=Option.map_eq_some_iff.1 hj
                    rw[oG]
                    exact hl.cell hb hy
                  · simp at hj
                simp[aV hf hx,den,Instr.loadAt,Instr.sureAddr,nP P w T _ l mj hlen hI hc]
              · cases h
            · cases h
          · rename_i mj
            split at h
            · rename_i y hy
              simp only[Option.some.injEq,Prod.mk.injEq] at h
              obtain⟨rfl,rfl,rfl⟩:=h
              have hc:w.cell? (kv bs i o')=some (den bs y):=hl.cell hb hy
              simp[aV hf hx,den,Instr.loadAt,Instr.sureAddr,nQ P w T _ _ (by simpa using mj) I1 hc]
            · cases h
        · cases h
      · rename_i ad hx
        split at h
        · rename_i vs
          split at h
          · rename_i mj
            split at h
            · rename_i hlen
              simp only[Option.some.injEq,Prod.mk.injEq] at h
              obtain⟨rfl,rfl,rfl⟩:=h
              simp[aV hf hx,den,Instr.loadAt,Instr.sureAddr,nP P w T _ vs mj hlen hI hw.1]
            · cases h
          · rename_i mj
            split at h
            · rename_i v
              simp only[Option.some.injEq,Prod.mk.injEq] at h
              obtain⟨rfl,rfl,rfl⟩:=h
              have hc:w.cell? ad=some v:=by simpa[add_zero] using hw.1 0 v rfl
              simp[aV hf hx,den,Instr.loadAt,Instr.sureAddr,nQ P w T _ _ (by simpa using mj) I1 hc]
            · cases h
        · cases h
      · cases h
  case h_17 b args su kV=>
    rw[kV]
    split at h
    · rename_i x t yM N3
      have e1:args= #[x]:=by cases args;simp_all
      have e2:su= #[t]:=by cases su;simp_all
      subst e1 e2
      split at h
      · rename_i n c hu hx
        simp only[Option.some.injEq,Prod.mk.injEq] at h
        obtain⟨rfl,rfl,rfl⟩:=h
        simp[aV hf hx,den,resolve,invoke,builtin,Builtin.len_,run_underlying hu,goInt]
      · rename_i i o' n c hu hx
        simp only[Option.some.injEq,Prod.mk.injEq] at h
        obtain⟨rfl,rfl,rfl⟩:=h
        simp[aV hf hx,den,resolve,invoke,builtin,Builtin.len_,run_underlying hu,goInt]
      · rename_i b hu hx
        simp only[Option.some.injEq,Prod.mk.injEq] at h
        obtain⟨rfl,rfl,rfl⟩:=h
        simp[aV hf hx,den,resolve,invoke,builtin,Builtin.len_,run_underlying hu,goInt]
      · cases h
    · rename_i x t yM N3
      have e1:args= #[x]:=by cases args;simp_all
      have e2:su= #[t]:=by cases su;simp_all
      subst e1 e2
      split at h
      · rename_i n c hu hx
        simp only[Option.some.injEq,Prod.mk.injEq] at h
        obtain⟨rfl,rfl,rfl⟩:=h
        simp[aV hf hx,den,resolve,invoke,builtin,Builtin.cap_,run_underlying hu,goInt]
      · cases h
    · rename_i x y yM
      have e1:args= #[x,y]:=by cases args;simp_all
      subst e1
      split at h
      · rename_i k n k' m hx hy
        simp only[Option.some.injEq,Prod.mk.injEq] at h
        obtain⟨rfl,rfl,rfl⟩:=h
        simp[aV hf hx,aV hf hy,den,resolve,invoke,builtin,Builtin.min_,Builtin.min2]
      · cases h
    · rename_i x y yM
      have e1:args= #[x,y]:=by cases args;simp_all
      subst e1
      split at h
      · rename_i k n k' m hx hy
        simp only[Option.some.injEq,Prod.mk.injEq] at h
        obtain⟨rfl,rfl,rfl⟩:=h
        simp[aV hf hx,aV hf hy,den,resolve,invoke,builtin,Builtin.max_,Builtin.max2]
      · cases h
    · rename_i x y z yM
      have e1:args= #[x,y,z]:=by cases args;simp_all
      subst e1
      split at h
      · rename_i k n k' m Tx q hx hy hz
        simp only[Option.some.injEq,Prod.mk.injEq] at h
        obtain⟨rfl,rfl,rfl⟩:=h
        simp[aV hf hx,aV hf hy,aV hf hz,den,resolve,invoke,builtin,Builtin.min_,Builtin.min2]
      · cases h
    · cases h
  case h_18=>cases h
end Go.Proofs.YtbjakddkfgjkaaaGreat.Fw
namespace Go.Proofs.YtbjakddkfgjkaaaGreat.Fw
open Go.RowKit
structure Kp (m:List Nat) (w w':World):Prop where
  os:w'.os=w.os
  tape:w'.tape=w.tape
  output:w'.output=w.output
  size:w.heap.size≤w'.heap.size
  block: ∀k,k<w.heap.size→k∉m→w'.heap[k]? =w.heap[k]?
theorem Kp.refl (m:List Nat)(w:World):Kp m w w:=⟨rfl,rfl,rfl,Nat.le_refl _,fun _ _ _=>rfl⟩
theorem Kp.trans {m:List Nat}{a b c:World}(h:Kp m a b)(k:Kp m b c):Kp m a c:=
  ⟨k.os.trans h.os,k.tape.trans h.tape,k.output.trans h.output,Nat.le_trans h.size k.size,fun i hi hm=>(k.block i (Nat.lt_of_lt_of_le hi h.size) hm).trans (h.block i hi hm)⟩
theorem Kp.mono {m m':List Nat}{a b:World}(h:Kp m a b)(hm: ∀k,k∈m→k∈m'):Kp m' a b:=⟨h.os,h.tape,h.output,h.size,fun i hi hn=>h.block i hi (fun hk=>hn (hm i hk))⟩
theorem Kp.step {m m2:List Nat}{a b c:World}(h:Kp m a b)(k:Kp m2 b c)(hm: ∀i,i∈m2→i∈m∨a.heap.size≤i):Kp m a c:=
  ⟨k.os.trans h.os,k.tape.trans h.tape,k.output.trans h.output,Nat.le_trans h.size k.size,fun i hi hn=>(k.block i (Nat.lt_of_lt_of_le hi h.size) (fun hk=>by rcases hm i hk with h1|h1;exact hn h1;omega)).trans (h.block i hi hn)⟩
theorem Kp.below {w w':World}(h:Kp [] w w'):Below w.heap.size w w':=⟨h.os,h.tape,h.output,h.size,fun k hk=>h.block k hk (by simp)⟩
theorem Kp.alloc (w:World)(o:Obj):Kp [] w (w.alloc o):=⟨rfl,rfl,rfl,by simp,fun k hk _=>Below.heap_alloc w o k hk⟩
theorem Kp.drawn (m:List Nat)(w:World)(n:Nat):Kp m w { w with drawn:=n }:=⟨rfl,rfl,rfl,Nat.le_refl _,fun _ _ _=>rfl⟩
structure bz where
  fp:List Nat
  p:World→Prop
  st: ∀{w w':World},(∀b,b∈fp→w'.heap[b]? =w.heap[b]?)→p w→p w'
structure WS (m:List Nat) (w0:World) (bs:List Nat) (loc:List fq) (R:List bz) (w:World):Prop where
  kp:Kp m w0 w
  len:loc.length=bs.length
  loc:wh bs loc w
  res: ∀r,r∈R→r.p w
  nd:(bs++R.flatMap bz.fp).Nodup
  lo: ∀b,b∈bs++R.flatMap bz.fp→(w0.heap.size≤b∨b∈m)∧b<w.heap.size
structure Cx where
  P:Program
  n:Nat
  m:List Nat
  w0:World
def Sat (C:Cx)(R:List bz)(s:SS)(a:Act)(w:World):Prop:= ∃bs,Fr bs s.env a∧a.tmps.size=C.n∧WS C.m C.w0 bs s.loc R w
def rC (C:Cx)(R:List bz)(s:SS)(bs:List Nat)(a:Act)(w:World):Prop:=Fr bs s.env a∧a.tmps.size=C.n∧WS C.m C.w0 bs s.loc R w
theorem Sat.of {C:Cx}{R:List bz}{s:SS}{bs:List Nat}{a:Act}{w:World}(h:rC C R s bs a w):Sat C R s a w:=⟨bs,h⟩
def JC (C:Cx)(c:Code)(Q:Exit→Act→World→Prop)(R:List bz)(s:SS):Prop:= ∀a w,Sat C R s a w→c.wp C.P Q a w
def JL (C:Cx)(ops:Array Oper)(Q:Exit→Act→World→Prop)(R:List bz)(s:SS)(rest:List Oper):Prop:= ∀a w,Sat C R s a w→wpList C.P ops Q rest a w
def JQ (C:Cx)(Q:Exit→Act→World→Prop)(e:Exit)(R:List bz)(s:SS):Prop:= ∀a w,Sat C R s a w→Q e a w
def setAt {α:Type}(l:List α)(off:Nat)(vs:List α):List α:=l.take off++vs++l.drop (off+vs.length)
theorem wi {α:Type}(l:List α)(off:Nat):setAt l off []=l:=by simp[setAt]
theorem Dn {α:Type}(A:List α)(x v:α)(B vs:List α)(off:Nat)(h:A.length=off):setAt ((A++x::B).set off v) (off+1) vs=setAt (A++x::B) off (v::vs):=by
  subst h
  have e:(A++x::B).set A.length v=A++v::B:=by simp
  rw[e]
  unfold setAt
  have e1:(A++v::B).take (A.length+1)=A++[v]:=by rw[List.take_append,List.take_of_length_le (by omega)];simp
  have e2:(A++v::B).drop (A.length+1+vs.length)=B.drop vs.length:=by
    rw[List.drop_append,List.drop_eq_nil_of_le (by omega),show A.length+1+vs.length - A.length=vs.length+1 by omega]
    simp
  have e3:(A++x::B).take A.length=A:=by simp
  have e4:(A++x::B).drop (A.length+(v::vs).length)=B.drop vs.length:=by
    rw[List.drop_append,List.drop_eq_nil_of_le (by omega),show A.length+(v::vs).length - A.length=vs.length+1 by simp]
    simp
  rw[e1,e2,e3,e4]
  simp
theorem tG {α:Type}(l:List α)(off:Nat)(v:α)(vs:List α)(h:off+vs.length+1≤l.length):setAt (l.set off v) (off+1) vs=setAt l off (v::vs):=by
  have e:l=l.take off++l[off]::l.drop (off+1):=by simp
  have:=Dn (l.take off) (l[off]) v (l.drop (off+1)) vs off (by simp;omega)
  rwa [←e] at this
theorem km (P:Program)(b:Nat)(t:TypeId): ∀(vs:List Value) (i:Nat) (off:Nat) (w:World) (cs:List Value),(∀v,v∈vs→v.oneCell'=true)→
    w.heap[b]? =some (.cells cs.toArray t (0,0))→off+i+vs.length≤cs.length→
    ∃w',(storeCells ⟨b,off,none⟩ vs i).run P w=.ok () w'∧w'.heap[b]? =some (.cells (setAt cs (off+i) vs).toArray t (0,0))∧Kp [b] w w'∧w'.heap.size=w.heap.size
  |[],i,off,w,cs,_,hb,_=>⟨w,by simp[storeCells],by rw[wi];exact hb,Kp.refl _ _,rfl⟩
  |v::r,i,off,w,cs,h1,hb,hl=>by
    simp only[List.length_cons] at hl
    have ha:(Addr.mk b off none).add i=⟨b,off+i,none⟩:=by unfold Addr.add;split<;>simp_all
    have hc:w.cell? ⟨b,off+i,none⟩=some (cs[off+i]'(by omega)):=by
      simp only[World.cell?,hb]
      simp
    have hf:w.frozen? ⟨b,off+i,none⟩=false:=by simp[World.frozen?,hb]
    have AQ:(w.setCell ⟨b,off+i,none⟩ v).heap[b]? =some (.cells ((cs.set (off+i) v)).toArray t (0,0)):=by
      simp only[World.setCell,Array.getElem?_modify,if_true,hb,Option.map_some]
      simp
    obtain⟨w',h2,h3,h4,h5⟩:=km P b t r (i+1) off _ _ (fun u hu=>h1 u (List.mem_cons_of_mem _ hu)) AQ (by simp;omega)
    refine⟨w',?_,?_,?_,?_⟩
    · simp only[storeCells,Sem.run_bind,ha,run_store P w _ v _ (h1 v (List.mem_cons_self ..)),hc,hf,Bool.false_eq_true,if_false,Result.andThen_ok]
      exact h2
    · rw[h3, ←tG cs (off+i) v r (by omega)]
      rfl
    · refine Kp.trans (b:=w.setCell ⟨b,off+i,none⟩ v) ⟨rfl,rfl,rfl,by simp[World.setCell],fun k hk hm=>Below.heap_setCell w ⟨b,off+i,none⟩ v k (by simpa using hm)⟩ h4
    · rw[h5];simp[World.setCell]
def lu:SV→Option (List SV)
  | .v (.agg cs)=>some (cs.toList.map .v)
  | .v (.tuple _)=>none
  | .v (.int k n)=>some [.v (.int k n)]
  | .v (.bool b)=>some [.v (.bool b)]
  | .v (.string b)=>some [.v (.string b)]
  | .v (.slice A n c)=>some [.v (.slice A n c)]
  | .v (.pointer A)=>some [.v (.pointer A)]
  | .p i o=>some [.p i o]
  | .s i o n c=>some [.s i o n c]
  | .fn f c=>some [.fn f c]
  |_=>none
theorem ja (bs:List Nat){x:SV}{l:List SV}(h:lu x=some l):(den bs x).cells.toList=l.map (den bs):=by
  unfold lu at h
  split at h<;>simp only [Option.some.injEq,reduceCtorEq] at h<;>subst h<;>simp [den,Value.cells,Function.comp_def]
def fQ:List SV→Bool
  |[]=>true
  | .v (.agg _)::_=>false
  | .v (.tuple _)::_=>false
  | .v (.int _ _)::r=>fQ r
  | .v (.bool _)::r=>fQ r
  | .v (.string _)::r=>fQ r
  | .v (.slice _ _ _)::r=>fQ r
  | .v (.pointer _)::r=>fQ r
  | .p _ _::r=>fQ r
  | .s _ _ _ _::r=>fQ r
  | .fn _ _::r=>fQ r
  |_=>false
theorem pk (bs:List Nat): ∀{l:List SV},fQ l=true→ ∀v,v∈l.map (den bs)→v.oneCell'=true
  |[],_,v,hv=>by simp at hv
  |x::r,h,v,hv=>by
    have hr:fQ r=true∧(den bs x).oneCell'=true:=by
      unfold fQ at h
      split at h<;>first|cases h;done|(injections;subst_vars;exact⟨h,rfl⟩)|(rename_i e;cases e;done)|skip
      all_goals (rename_i e;injection e with e1 e2;subst e1 e2;exact⟨h,rfl⟩)
    rcases List.mem_cons.1 hv with rfl|hv
    · exact hr.2
    · exact pk bs hr.1 v hv
end Go.Proofs.YtbjakddkfgjkaaaGreat.Fw
namespace Go.Proofs.YtbjakddkfgjkaaaGreat.Fw
open Go.RowKit
def kW (n:Nat):Option Tmp→Bool
  |none=>true
  |some t=>Nat.blt t n
theorem yN {n:Nat}{d:Option Tmp}(h:kW n d=true): ∀t,d=some t→t<n:=by
  rintro t rfl
  exact Nat.blt_eq▸h
def gd (ops:Array Oper)(s:SS)(o:Oper):Option Bool:=
  match o.guard with
  |none=>some true
  |some (j,want)=>
    match (ops[j]?).bind (·.dst) with
    |some d=>match get s.env d with
      |some (.v (.bool true))=>some want
      |some (.v (.bool false))=>some (!want)
      |some (.v (.tuple _))=>some false
      |_=>none
    |none=>none
theorem iM {ops:Array Oper}{s:SS}{o:Oper}{b:Bool}{bs:List Nat}{a:Act}(hf:Fr bs s.env a)(h:gd ops s o=some b):Region.wanted o (yielded ops a.tmps)=b:=by
  unfold gd at h
  unfold Region.wanted
  split at h
  · rename_i hg
    simp only[hg,Option.some.injEq] at h⊢
    exact h
  · rename_i j want hg
    simp only[hg]
    split at h
    · rename_i d hd
      have key:yielded ops a.tmps j=match a.tmps[d]? with|some (.bool b)=>some b|_=>none:=by
        unfold yielded
        rw[hd]
        rfl
      split at h
      · rename_i hx
        have h1:=hf.2 _ _ hx
        have h2:a.tmps[d]? =some (.bool true):=by
          cases h3:a.tmps[d]? with
          |none=>simp [Array.getD_eq_getD_getElem?,h3,den,undef] at h1
          |some v=>simpa [Array.getD_eq_getD_getElem?,h3,den] using h1
        rw[key,h2]
        injection h with h
        subst h
        cases want<;>rfl
      · rename_i hx
        have h1:=hf.2 _ _ hx
        have h2:a.tmps[d]? =some (.bool false):=by
          cases h3:a.tmps[d]? with
          |none=>simp [Array.getD_eq_getD_getElem?,h3,den,undef] at h1
          |some v=>simpa [Array.getD_eq_getD_getElem?,h3,den] using h1
        rw[key,h2]
        injection h with h
        subst h
        cases want<;>rfl
      · rename_i vs hx
        have h1:=hf.2 _ _ hx
        injection h with h
        subst h
        rw[key]
        cases h3:a.tmps[d]? with
        |none=>rfl
        |some v=>
          have:v=.tuple vs:=by simpa[Array.getD_eq_getD_getElem?,h3,den] using h1
          subst this
          rfl
      · cases h
    · cases h
def nC (k:Nat):SV→Bool
  | .v _=>true
  | .p i _=>Nat.blt i k
  | .s i _ _ _=>Nat.blt i k
  | .fn _ c=>c.all fun x=>Nat.blt x.1 k
def I2 (s:SS):Bool:=s.env.all (fun x=>nC s.loc.length x.2) && s.loc.all fun b=>b.cs.all (nC s.loc.length)
theorem xG {bs:List Nat}{x:SV}{k:Nat}(hk:k=bs.length)(h:nC k x=true)(b:Nat):den (bs++[b]) x=den bs x:=by
  have key: ∀i o,i<bs.length→kv (bs++[b]) i o=kv bs i o:=by
    intro i o hi
    simp[kv,List.getElem?_append,hi]
  subst hk
  cases x with
  |v x=>rfl
  |p i o=>simp only [den,key i o (by simpa[nC] using h)]
  |s i o n c=>simp only [den,key i o (by simpa[nC] using h)]
  |fn f c=>
    simp only[den]
    congr 2
    apply List.map_congr_left
    intro y hy
    have h1:=List.all_eq_true.1 h y hy
    rw[key _ _ (by simpa using h1)]
theorem get_mem {e:Env}{t:Nat}{x:SV}(h:get e t=some x): ∃u,(u,x)∈e:=by
  induction e with
  |nil=>cases h
  |cons y r ih=>
    obtain⟨u,z⟩:=y
    simp only[get] at h
    cases hb:Nat.beq u t with
    |true=>simp only [hb,cond_true,Option.some.injEq] at h;subst h;exact⟨u,List.mem_cons_self ..⟩
    |false=>simp only [hb,cond_false] at h;obtain⟨v,hv⟩:=ih h;exact⟨v,List.mem_cons_of_mem _ hv⟩
theorem Fr.ext {bs:List Nat}{s:SS}{a:Act}(hf:Fr bs s.env a)(hl:s.loc.length=bs.length)(hk:I2 s=true)(b:Nat):Fr (bs++[b]) s.env a:=by
  simp only[I2,Bool.and_eq_true] at hk
  refine⟨hf.1,fun t x hx=>?_⟩
  obtain⟨u,hu⟩:=get_mem hx
  rw[xG hl (List.all_eq_true.1 hk.1 _ hu)]
  exact hf.2 t x hx
theorem WS.alloc {m:List Nat}{w0:World}{bs:List Nat}{s:SS}{R:List bz}{w:World}(h:WS m w0 bs s.loc R w)(hk:I2 s=true)(T:Nat)(cs:List SV)(wj: ∀x,x∈cs→nC s.loc.length x=true):
    WS m w0 (bs++[w.heap.size]) (s.loc++[⟨T,cs⟩]) R (w.alloc (.cells (cs.map (den bs)).toArray T)):=by
  have hl:=h.len
  simp only[I2,Bool.and_eq_true] at hk
  have dX: ∀b,b∈bs++R.flatMap bz.fp→b<w.heap.size:=fun b hb=>(h.lo b hb).2
  have kx: ∀k,k<w.heap.size→(w.alloc (.cells (cs.map (den bs)).toArray T)).heap[k]? =w.heap[k]?:=fun k hk=>Below.heap_alloc w _ k hk
  have N4:cs.map (den (bs++[w.heap.size]))=cs.map (den bs):=List.map_congr_left fun x hx=>xG hl (wj x hx) _
  refine⟨h.kp.trans ((Kp.alloc w _).mono (by simp)),by simp[hl],?_,?_,?_,?_⟩
  · intro i b hb lr
    rw[List.getElem?_append] at hb
    by_cases hi:i<s.loc.length
    · rw[if_pos hi] at hb
      have h1:=h.loc i b hb lr
      have I3:b∈s.loc:=List.mem_of_getElem? hb
      have hd:b.cs.map (den (bs++[w.heap.size]))=b.cs.map (den bs):=List.map_congr_left fun x hx=>xG hl (List.all_eq_true.1 (List.all_eq_true.1 hk.2 b I3) x hx) _
      have gT:(bs++[w.heap.size]).getD i 0=bs.getD i 0:=by simp[List.getElem?_append, ←hl,hi]
      have jB:bs.getD i 0∈bs++R.flatMap bz.fp:=by
        rw[List.getD_eq_getElem?_getD,List.getElem?_eq_getElem (by omega)]
        exact List.mem_append_left _ (List.getElem_mem _)
      rw[gT,hd,kx _ (dX _ jB)]
      exact h1
    · rw[if_neg hi] at hb
      have E2:i=s.loc.length:=by
        rcases Nat.lt_or_ge (i - s.loc.length) 1 with h2|h2
        · omega
        · rw[List.getElem?_eq_none (by simpa using h2)] at hb;cases hb
      subst E2
      simp only[Nat.sub_self,List.getElem?_cons_zero,Option.some.injEq] at hb
      subst hb
      have:(bs++[w.heap.size]).getD s.loc.length 0=w.heap.size:=by simp[hl]
      rw[this,N4]
      exact heap_alloc_new w _
  · exact fun r hr=>r.st (fun b hb=>kx b (dX b (List.mem_append_right _ (List.mem_flatMap.2 ⟨r,hr,hb⟩)))) (h.res r hr)
  · rw[List.append_assoc,List.nodup_append]
    have h1:=List.nodup_append.1 h.nd
    refine⟨h1.1,?_,?_⟩
    · rw[List.singleton_append,List.nodup_cons]
      exact⟨fun hm=>Nat.lt_irrefl _ (dX _ (List.mem_append_right _ hm)),h1.2.1⟩
    · intro x hx y hy
      rcases List.mem_append.1 hy with hy|hy
      · simp only[List.mem_singleton] at hy
        subst hy
        exact Nat.ne_of_lt (dX _ (List.mem_append_left _ hx))
      · exact h1.2.2 x hx y hy
  · intro b hb
    have lY:(w.alloc (.cells (cs.map (den bs)).toArray T)).heap.size=w.heap.size+1:=by simp
    rw[lY]
    have h0:=h.kp.size
    simp only[List.append_assoc,List.mem_append,List.mem_singleton] at hb
    rcases hb with hb|rfl|hb
    · have:=h.lo b (List.mem_append_left _ hb);exact⟨this.1,by omega⟩
    · exact⟨.inl h0,by omega⟩
    · have:=h.lo b (List.mem_append_right _ hb);exact⟨this.1,by omega⟩
theorem WS.set {m:List Nat}{w0:World}{bs:List Nat}{loc:List fq}{R:List bz}{w w':World}(h:WS m w0 bs loc R w)(i:Nat)(b:fq)(hb:loc[i]? =some b)(cs:List SV)
    (hw:w'.heap[bs.getD i 0]? =some (.cells (cs.map (den bs)).toArray b.ty (0,0))) (hk:Kp [bs.getD i 0] w w') (hs:w'.heap.size=w.heap.size):
    WS m w0 bs (loc.set i ⟨b.ty,cs⟩) R w':=by
  have hl:=h.len
  have hi:i<loc.length:=(List.getElem?_eq_some_iff.1 hb).1
  have E3:i<bs.length:=by omega
  have hg:bs.getD i 0=bs[i]:=by simp[E3]
  have tH:bs.getD i 0∈bs:=by rw[hg];exact List.getElem_mem _
  have h1:=List.nodup_append.1 h.nd
  have kx: ∀k,k<w.heap.size→k≠bs.getD i 0→w'.heap[k]? =w.heap[k]?:=fun k yI G3=>hk.block k yI (by simpa using G3)
  refine⟨?_,by simp[hl],?_,?_,h.nd,fun x hx=>by rw[hs];exact h.lo x hx⟩
  · refine h.kp.step hk (fun k hk=>?_)
    simp only[List.mem_singleton] at hk
    subst hk
    exact (h.lo _ (List.mem_append_left _ tH)).1.symm
  · intro j c hc lr
    by_cases jf:i=j
    · subst jf
      rw[List.getElem?_set_self hi] at hc
      injection hc with hc
      subst hc
      exact hw
    · rw[List.getElem?_set_ne jf] at hc
      have hj:j<loc.length:=(List.getElem?_eq_some_iff.1 hc).1
      have Iu:j<bs.length:=by omega
      have Kt:bs.getD j 0=bs[j]:=by simp[Iu]
      have RA:bs.getD j 0∈bs:=by rw[Kt];exact List.getElem_mem _
      rw[kx _ (h.lo _ (List.mem_append_left _ RA)).2 (by
        rw[hg,Kt]
        intro he
        exact jf ((List.getElem?_inj E3 h1.1).1 (by rw[List.getElem?_eq_getElem E3,List.getElem?_eq_getElem Iu,he])))]
      exact h.loc j c hc lr
  · intro r hr
    refine r.st (fun k yI=>kx k (h.lo k (List.mem_append_right _ (List.mem_flatMap.2 ⟨r,hr,yI⟩))).2 ?_) (h.res r hr)
    rintro rfl
    exact h1.2.2 _ tH _ (List.mem_flatMap.2 ⟨r,hr,yI⟩) rfl
end Go.Proofs.YtbjakddkfgjkaaaGreat.Fw
namespace Go.Proofs.YtbjakddkfgjkaaaGreat.Fw
open Go.RowKit
abbrev KW:=Option (SS×List Prop×List (Addr×List Value))
def fV (P:Program)(T:TypeId):Option (List Value):=
  match P.info? T with
  |some i=>match i.zero with
    |some z=>some z.cells.toList
    |none=>none
  |none=>none
def ix (s:SS)(size:Nat):Nat→List (Nat×Operand)→Option (List SV)
  |_,[]=>some []
  |k,(i,o)::r=>
    bif Nat.beq i k then
      match ev s o with
      |some x=>match lu x,ix s size (k+1) r with
        |some cs,some l=>if cs.length=size then some (cs++l) else none
        |_,_=>none
      |none=>none
    else none
def qj (P:Program)(n:Nat)(ops:Array Oper)(s:SS)(hint:Hint)(o:Oper):KW:=
  if kW n o.dst then
    match gd ops s o with
    |none=>none
    |some false=>some (⟨jz s.env o.dst (.v undef),s.loc⟩,[],[])
    |some true=>
      match o.op with
      | .alloc T=>
        match fV P T with
        |some z=>if I2 s then some (⟨jz s.env o.dst (.p s.loc.length 0),s.loc++[⟨T,z.map .v⟩]⟩,[],[]) else none
        |none=>none
      | .box T X=>
        match ev s X with
        |some x=>match lu x with
          |some cs=>if I2 s && cs.all (nC s.loc.length) then some (⟨jz s.env o.dst (.p s.loc.length 0),s.loc++[⟨T,cs⟩]⟩,[],[]) else none
          |none=>none
        |none=>none
      | .store T A X=>
        match ev s A,ev s X with
        |some (.p i off),some x=>
          match s.loc[i]?,lu x with
          |some b,some cs=>
            if cs.length=P.cellsOf T∧P.cellsOf T≠0∧off+cs.length≤b.cs.length∧fQ cs=true then
              some (⟨jz s.env o.dst (.v undef),s.loc.set i ⟨b.ty,setAt b.cs off cs⟩⟩,[],[])
            else none
          |_,_=>none
        |_,_=>none
      | .buildSlice T len parts=>
        match P.underlying T with
        |some (.slice e)=>
          match ix s (P.cellsOf e) 0 parts.toList with
          |some cs=>
            if parts.size=len∧P.cellsOf e≠0∧len≤65536∧P.cellsOf e≤256∧((fV P e).map List.length)=some (P.cellsOf e)∧I2 s=true∧cs.all (nC s.loc.length)=true then
              some (⟨jz s.env o.dst (.s s.loc.length 0 len len),s.loc++[⟨e,cs⟩]⟩,[],[])
            else none
          |none=>none
        |_=>none
      |op=>
        match mV P s hint op with
        |some (x,iL,ec)=>some (⟨jz s.env o.dst x,s.loc⟩,iL,ec)
        |none=>none
  else none
theorem E4 (cells:List Value)(off:Nat)(v:Value)(h:off+v.cells.size≤cells.length):
    v.cells.zipIdx.foldl (fun cs (c,j)=>cs.setIfInBounds (off+j) c) cells.toArray=(setAt cells off v.cells.toList).toArray:=by
  rw[←Array.foldl_toList,Array.toList_zipIdx]
  generalize hv:v.cells.toList=vs
  have hl:off+vs.length≤cells.length:=by rw[←hv];simpa using h
  clear hv h
  have key: ∀(vs:List Value) (k:Nat) (cells:List Value),off+k+vs.length≤cells.length→
      (vs.zipIdx k).foldl (fun cs (x:Value×Nat)=>cs.setIfInBounds (off+x.2) x.1) cells.toArray=(setAt cells (off+k) vs).toArray:=by
    intro vs
    induction vs with
    |nil=>intro k cells _;simp[wi]
    |cons v r ih=>
      intro k cells hh
      simp only[List.length_cons] at hh
      simp only[List.zipIdx_cons,List.foldl_cons]
      have e:cells.toArray.setIfInBounds (off+k) v=(cells.set (off+k) v).toArray:=by simp
      rw[e,ih (k+1) _ (by simp;omega), ←tG cells (off+k) v r (by omega)]
      rfl
  simpa using key vs 0 cells (by simpa using hl)
theorem tI (bs:List Nat)(s:SS)(a:Act)(hf:Fr bs s.env a)(size:Nat): ∀(l:List (Nat×Operand)) (k:Nat) (cs:List SV) (done pn:List Value),
    ix s size k l=some cs→done.length=k*size→pn.length=l.length*size→
    Instr.fill (fun i=>some (i*size,size)) (done++pn).toArray (l.map fun p=>(p.1,a.eval p.2))=some (done++cs.map (den bs)).toArray
  |[],k,cs,done,pn,h,_,hz=>by
    simp[ix] at h
    subst h
    have:pn=[]:=List.eq_nil_of_length_eq_zero (by simpa using hz)
    subst this
    simp[Instr.fill]
  |(i,o)::r,k,cs,done,pn,h,hd,hz=>by
    simp only[ix] at h
    cases hb:Nat.beq i k with
    |false=>simp [hb] at h
    |true=>
      have hi:i=k:=Nat.eq_of_beq_eq_true hb
      subst hi
      simp only[hb,cond_true] at h
      split at h
      · rename_i x hx
        split at h
        · rename_i c1 l1 Iv KX
          split at h
          · rename_i hlen
            injection h with h
            subst h
            have e1:=ja bs Iv
            have e2:(a.eval o).cells.toList=c1.map (den bs):=by rw[aV hf hx];exact e1
            have e3:(a.eval o).cells.size=size:=by rw[←Array.length_toList,e2];simpa using hlen
            simp only[List.length_cons,Nat.add_mul,Nat.one_mul] at hz
            have KY: ¬(i*size+(a.eval o).cells.size>(done++pn).toArray.size):=by
              simp only[List.size_toArray,List.length_append,e3,hd,hz];omega
            simp only[List.map_cons,Instr.fill,e3,ne_eq,not_true_eq_false]
            rw[if_neg (by rw[e3] at KY;simpa using KY)]
            have e4:=E4 (done++pn) (i*size) (a.eval o) (by simp only[List.length_append,e3,hd,hz];omega)
            rw[e4,e2]
            have e5:setAt (done++pn) (i*size) (c1.map (den bs))=(done++c1.map (den bs))++pn.drop size:=by
              unfold setAt
              rw[List.take_append_of_le_length (by omega), ←hd,List.take_length,List.drop_append,List.drop_eq_nil_of_le (by omega)]
              simp[hlen]
            rw[e5]
            have:=tI bs s a hf size r (i+1) l1 (done++c1.map (den bs)) (pn.drop size) KX (by simp[hd,hlen,Nat.add_mul]) (by simp;omega)
            rw[this]
            simp
          · cases h
        · cases h
      · cases h
theorem nR (P:Program)(T e len:Nat)(hu:P.underlying T=some (.slice e))(Dp:P.cellsOf e≠0)(Ho:len≤65536)(I4:P.cellsOf e≤256)(E5:((fV P e).map List.length)=some (P.cellsOf e))
    (bs:List Nat) (s:SS) (a:Act) (hf:Fr bs s.env a) (parts:Array (Nat×Operand)) (cs:List SV) (wj:ix s (P.cellsOf e) 0 parts.toList=some cs) (Iv:parts.size=len) (w:World):
    (Instr.buildSlice T len (parts.map fun (i,x)=>(i,a.eval x))).run P w=.ok (.slice (some ⟨w.heap.size,0,none⟩) len len) (w.alloc (.cells ((cs.map (den bs)).toArray) e)):=by
  obtain⟨z,hz,N5⟩:=Option.map_eq_some_iff.1 E5
  unfold fV at hz
  split at hz
  · rename_i i hi
    split at hz
    · rename_i zv N6
      injection hz with hz
      have lY:len*P.cellsOf e≤2 ^ 24:=by
        have:=Nat.mul_le_mul Ho I4
        omega
      have RB:(zeroValue e).run P w=.ok zv w:=by simp[zeroValue,typeInfo,hi,N6]
      have Iw:=tI bs s a hf (P.cellsOf e) parts.toList 0 cs [] ((List.range (len*P.cellsOf e)).map fun k=>zv.cells[k % zv.cells.size]!) wj (by simp) (by simp[Iv])
      have N7:((Array.range (len*P.cellsOf e)).map fun k=>zv.cells[k % zv.cells.size]!)=(((List.range (len*P.cellsOf e)).map fun k=>zv.cells[k % zv.cells.size]!)).toArray:=by
        apply Array.ext'
        simp
      have I5:(parts.map fun (x:Nat×Operand)=>(x.1,a.eval x.2)).toList=parts.toList.map fun p=>(p.1,a.eval p.2):=by simp
      simp only[Instr.buildSlice,Sem.run_bind,run_underlying hu,Result.andThen_ok,cF P e w (dM Dp),Sem.run_ite,if_neg (Nat.not_lt.2 lY)]
      by_cases h0:len*P.cellsOf e=0
      · have hlen:len=0:=by
          rcases Nat.mul_eq_zero.1 h0 with h|h
          · exact h
          · exact absurd h Dp
        subst hlen
        have hp:parts= #[]:=Array.eq_empty_of_size_eq_zero Iv
        subst hp
        simp[ix] at wj
        subst wj
        simp only[h0,if_true,Sem.run_pure,Result.andThen_ok]
        have e0:(Array.range 0)= #[]:=Array.eq_empty_of_size_eq_zero (by simp)
        simp[Instr.fill,newRow,e0]
      · simp only[h0,if_false,RB,Result.andThen_ok,Sem.run_pure]
        simp only[List.nil_append] at Iw
        rw[I5,N7,Iw]
        simp[newRow]
    · cases hz
  · cases hz
theorem Oper.mz {P:Program}{o:Oper}{a:Act}{w w':World}{K:Act→World→Prop}{Q:Exit→Act→World→Prop}{v:Value}(h:(execOp a.eval o).run P w=.ok (.value v) w')(hk:K (a.put o.dst v) w'):o.wp P a w K Q:=by
  unfold Oper.wp
  rw[h]
  exact hk
theorem qk (C:Cx)(R:List bz)(ops:Array Oper)(s s':SS)(hint:Hint)(o:Oper)(iL:List Prop)(ec:List (Addr×List Value))(Q:Exit→Act→World→Prop)(K:Act→World→Prop)
    (h:qj C.P C.n ops s hint o=some (s',iL,ec)) (ho:jX iL) (hw: ∀w,Kp C.m C.w0 w→(∀r,r∈R→r.p w)→nB w ec)
    (bs:List Nat) (hK: ∀KZ a w,bs<+:KZ→rC C R s' KZ a w→K a w) (a:Act) (w:World) (hs:rC C R s bs a w):
    if Region.wanted o (yielded ops a.tmps) then o.wp C.P a w K Q else K (a.put o.dst undef) w:=by
  obtain⟨hf,hn,hS⟩:=hs
  unfold qj at h
  split at h
  case isFalse=>cases h
  rename_i hd
  have G5: ∀t,o.dst=some t→t<a.tmps.size:=by rw[hn];exact yN hd
  have lY: ∀v,(a.put o.dst v).tmps.size=C.n:=by
    intro v
    cases o.dst with
    |none=>exact hn
    |some t=>simp [Act.put,hn]
  split at h
  · cases h
  · rename_i hg
    simp only[Option.some.injEq,Prod.mk.injEq] at h
    obtain⟨rfl,rfl,rfl⟩:=h
    simp only[iM hf hg,Bool.false_eq_true,if_false]
    exact hK bs _ _ (List.prefix_refl _) ⟨hf.put o.dst (.v undef) G5,lY _,hS⟩
  · rename_i hg
    simp only[iM hf hg,if_true]
    split at h
    · rename_i T jx
      split at h
      · rename_i z hz
        split at h
        · rename_i hk
          simp only[Option.some.injEq,Prod.mk.injEq] at h
          obtain⟨rfl,rfl,rfl⟩:=h
          unfold fV at hz
          split at hz
          · rename_i i hi
            split at hz
            · rename_i zv N6
              injection hz with hz
              have hl:=hS.len
              have jC:(execOp a.eval o).run C.P w=.ok (.value (.pointer (some ⟨w.heap.size,0,none⟩))) (w.alloc (.cells (((z.map SV.v).map (den bs)).toArray) T)):=by
                have e:((z.map SV.v).map (den bs)).toArray=zv.cells:=by
                  rw[←hz];simp[Function.comp_def,den]
                rw[e]
                unfold execOp
                rw[jx]
                simp[Instr.alloc,zeroValue,typeInfo,hi,N6,newVar,newRow]
              refine Oper.mz jC (hK (bs++[w.heap.size]) _ _ (List.prefix_append _ _) ⟨?_,lY _,hS.alloc hk T _ (by simp[nC])⟩)
              have:=(hf.ext hl hk w.heap.size).put o.dst (.p s.loc.length 0) G5
              have e2:den (bs++[w.heap.size]) (.p s.loc.length 0)=.pointer (some ⟨w.heap.size,0,none⟩):=by simp[den,kv,hl]
              rwa [e2] at this
            · cases hz
          · cases hz
        · cases h
      · cases h
    · rename_i T X jx
      split at h
      · rename_i x hx
        split at h
        · rename_i cs wj
          split at h
          · rename_i hk
            simp only[Bool.and_eq_true] at hk
            simp only[Option.some.injEq,Prod.mk.injEq] at h
            obtain⟨rfl,rfl,rfl⟩:=h
            have hl:=hS.len
            have jC:(execOp a.eval o).run C.P w=.ok (.value (.pointer (some ⟨w.heap.size,0,none⟩))) (w.alloc (.cells ((cs.map (den bs)).toArray) T)):=by
              have e:=ja bs wj
              rw[←e]
              unfold execOp
              rw[jx]
              simp[Instr.box,newVar,newRow,aV hf hx]
            refine Oper.mz jC (hK (bs++[w.heap.size]) _ _ (List.prefix_append _ _) ⟨?_,lY _,hS.alloc hk.1 T _ (fun y hy=>List.all_eq_true.1 hk.2 y hy)⟩)
            have:=(hf.ext hl hk.1 w.heap.size).put o.dst (.p s.loc.length 0) G5
            have e2:den (bs++[w.heap.size]) (.p s.loc.length 0)=.pointer (some ⟨w.heap.size,0,none⟩):=by simp[den,kv,hl]
            rwa [e2] at this
          · cases h
        · cases h
      · cases h
    · rename_i T A X jx
      split at h
      · rename_i i off x hA hx
        split at h
        · rename_i b cs hb wj
          split at h
          · rename_i hc
            obtain⟨Iv,Dp,Ho,I4⟩:=hc
            simp only[Option.some.injEq,Prod.mk.injEq] at h
            obtain⟨rfl,rfl,rfl⟩:=h
            have e:=ja bs wj
            obtain⟨w',h1,h2,h3,h4⟩:=km C.P (bs.getD i 0) b.ty (cs.map (den bs)) 0 off w (b.cs.map (den bs)) (pk bs I4) (hS.loc i b hb (by rintro e9;simp only[e9,List.length_nil] at Ho;omega)) (by simpa using Ho)
            have jC:(execOp a.eval o).run C.P w=.ok .skip w':=by
              unfold execOp
              rw[jx]
              have e3:(den bs x).cells.size=C.P.cellsOf T:=by rw[←Array.length_toList,e];simpa using Iv
              have e4:a.eval A=.pointer (some ⟨bs.getD i 0,off,none⟩):=aV hf hA
              have e5:=aV hf hx
              simp only[Sem.run_bind,Instr.storeAt,Instr.sureAddr,Sem.run_pure,Result.andThen_ok,storeVar,e5,e3,cF C.P T w (dM Dp),ne_eq,not_true_eq_false,if_false,e,e4]
              rw[h1]
              rfl
            have N8:(setAt (b.cs.map (den bs)) (off+0) (cs.map (den bs)))=(setAt b.cs off cs).map (den bs):=by
              simp[setAt,List.map_take,List.map_drop]
            rw[N8] at h2
            unfold Oper.wp
            rw[jC]
            exact hK bs _ _ (List.prefix_refl _) ⟨hf.put o.dst (.v undef) G5,lY _,hS.set i b hb _ h2 h3 h4⟩
          · cases h
        · cases h
      · cases h
    · rename_i T len parts jx
      split at h
      · rename_i e hu
        split at h
        · rename_i cs wj
          split at h
          · rename_i hc
            obtain⟨Iv,Dp,Ho,I4,E5,Qc,RC⟩:=hc
            simp only[Option.some.injEq,Prod.mk.injEq] at h
            obtain⟨rfl,rfl,rfl⟩:=h
            have hl:=hS.len
            have jC:(execOp a.eval o).run C.P w=.ok (.value (.slice (some ⟨w.heap.size,0,none⟩) len len)) (w.alloc (.cells ((cs.map (den bs)).toArray) e)):=by
              have:=nR C.P T e len hu Dp Ho I4 E5 bs s a hf parts cs wj Iv w
              unfold execOp
              rw[jx]
              simp only[Sem.run_bind,this,Result.andThen_ok,Sem.run_pure]
            refine Oper.mz jC (hK (bs++[w.heap.size]) _ _ (List.prefix_append _ _) ⟨?_,lY _,hS.alloc Qc e _ (fun y hy=>List.all_eq_true.1 RC y hy)⟩)
            have:=(hf.ext hl Qc w.heap.size).put o.dst (.s s.loc.length 0 len len) G5
            have e2:den (bs++[w.heap.size]) (.s s.loc.length 0 len len)=.slice (some ⟨w.heap.size,0,none⟩) len len:=by simp[den,kv,hl]
            rwa [e2] at this
          · cases h
        · cases h
      · cases h
    · split at h
      · rename_i x Hk E6 hq
        simp only[Option.some.injEq,Prod.mk.injEq] at h
        obtain⟨rfl,rfl,rfl⟩:=h
        have jC:=l7 C.P o s hint x _ _ bs a w hq ho hf hS.loc (hw w hS.kp hS.res)
        exact Oper.mz jC (hK bs _ _ (List.prefix_refl _) ⟨hf.put o.dst x G5,lY _,hS⟩)
      · cases h
theorem sv (C:Cx)(R:List bz)(ops:Array Oper)(s s':SS)(hint:Hint)(o:Oper)(iL:List Prop)(ec:List (Addr×List Value))(Q:Exit→Act→World→Prop)(K:Act→World→Prop)
    (h:qj C.P C.n ops s hint o=some (s',iL,ec)) (ho:jX iL) (hw: ∀w,Kp C.m C.w0 w→(∀r,r∈R→r.p w)→nB w ec)
    (hK: ∀a w,Sat C R s' a w→K a w) (a:Act) (w:World) (hs:Sat C R s a w):
    if Region.wanted o (yielded ops a.tmps) then o.wp C.P a w K Q else K (a.put o.dst undef) w:=
  let ⟨bs,hb⟩:=hs
  qk C R ops s s' hint o iL ec Q K h ho hw bs (fun _ a w _ h=>hK a w (Sat.of h)) a w hb
def E7:List (Nat×Hint)→Nat→Hint
  |[],_=>.no
  |(i,h)::r,k=>bif Nat.beq i k then h else E7 r k
def prune (s:SS)(keys:List Nat)(nl:Nat):SS:=⟨nq s.env keys,s.loc.take nl⟩
def Nq (s:SS)(nl:Nat):Bool:=s.env.all (fun x=>nC nl x.2) && (s.loc.take nl).all fun b=>b.cs.all (nC nl)
theorem yO {bs:List Nat}{x:SV}{k:Nat}(Ty:k≤bs.length)(h:nC k x=true):den (bs.take k) x=den bs x:=by
  have key: ∀i o,i<k→kv (bs.take k) i o=kv bs i o:=by
    intro i o hi
    simp[kv,hi]
  cases x with
  |v x=>rfl
  |p i o=>simp only [den,key i o (by simpa[nC] using h)]
  |s i o n c=>simp only [den,key i o (by simpa[nC] using h)]
  |fn f c=>
    simp only[den]
    congr 2
    apply List.map_congr_left
    intro y hy
    have h1:=List.all_eq_true.1 h y hy
    rw[key _ _ (by simpa using h1)]
theorem Sat.prune {C:Cx}{R:List bz}{s:SS}{a:Act}{w:World}(h:Sat C R s a w)(keys:List Nat)(nl:Nat)(hk:Nq (prune s keys nl) nl=true)(hn:nl≤s.loc.length):Sat C R (prune s keys nl) a w:=by
  obtain⟨bs,hf,lY,hS⟩:=h
  have hl:=hS.len
  simp only[Nq,Bool.and_eq_true,Fw.prune] at hk
  refine⟨bs.take nl,⟨hf.1,fun t x hx=>?_⟩,lY,?_⟩
  · obtain⟨u,hu⟩:=get_mem hx
    rw[yO (by omega) (List.all_eq_true.1 hk.1 _ hu)]
    exact (hf.I0 keys).2 t x hx
  · refine⟨hS.kp,by simp[Fw.prune];omega,?_,hS.res,?_,?_⟩
    · intro i b hb lr
      simp only[Fw.prune] at hb
      rw[List.getElem?_take] at hb
      split at hb
      · rename_i hi
        have h1:=hS.loc i b hb lr
        have I3:b∈s.loc.take nl:=by
          apply List.mem_of_getElem? (i:=i)
          rw[List.getElem?_take,if_pos hi]
          exact hb
        have hd:b.cs.map (den (bs.take nl))=b.cs.map (den bs):=List.map_congr_left fun x hx=>yO (by omega) (List.all_eq_true.1 (List.all_eq_true.1 hk.2 b (by rw[List.take_take,Nat.min_self];exact I3)) x hx)
        have gT:(bs.take nl).getD i 0=bs.getD i 0:=by simp[hi]
        rw[gT,hd]
        exact h1
      · cases hb
    · have h1:=List.nodup_append.1 hS.nd
      exact List.nodup_append.2 ⟨h1.1.sublist (List.take_sublist _ _),h1.2.1,fun x hx y hy=>h1.2.2 x (List.mem_of_mem_take hx) y hy⟩
    · intro b hb
      rcases List.mem_append.1 hb with hb|hb
      · exact hS.lo b (List.mem_append_left _ (List.mem_of_mem_take hb))
      · exact hS.lo b (List.mem_append_right _ hb)
end Go.Proofs.YtbjakddkfgjkaaaGreat.Fw
