/-
  Equality of plain structs; slices that read, rows of things, and calls that hand such back.
  Conditions: none beyond those that each theorem states.
-/
import Derived.Laws.Cover3
import Derived.Laws.StructEq
import Derived.Lib.ConvBytes
import Derived.Test.YtbjakddkfgjkaaaGreatFb
set_option linter.unusedVariables false
set_option linter.unusedSimpArgs false
namespace Go.Proofs.YtbjakddkfgjkaaaGreat.Fw
open Go.RowKit
def CC (P:Program)(t:TypeId)(xs:Array Value)(off:Nat):Option Value:=
  if (P.underlying t).isNone then none else
  if lE P t then some (Value.agg (xs.extract off (off+P.cellsOf t))) else xs[off]?
def K7 (P:Program):Nat→TypeId→Value→Value→Option Bool
  |0,_,_,_=>none
  |d+1,t,x,y=>
    match P.underlying t,x,y with
    |some .bool,.bool a,.bool b=>some (a==b)
    |some (.int _),.int .i64 a,.int .i64 b=>some (decide (a=b))
    |some .string,.string a,.string b=>some (decide (a=b))
    |some (.struct fs),.agg xs,.agg ys=>
      if P.stoodInHeld t then none else
      fs.toList.foldr (fun f acc=>
        if f.name = "_" then none else
        match CC P f.type xs f.offset,CC P f.type ys f.offset,acc with
        |some a,some b,some q=>match K7 P d f.type a b with
          |some p=>some (p && q)
          |none=>none
        |_,_,_=>none) (some true)
    |_,_,_=>none
theorem yU (P:Program)(w:World)(t:TypeId)(xs:Array Value)(off:Nat)(v:Value)(h:CC P t xs off=some v):(part t xs off).run P w=.ok v w:=by
  unfold CC at h
  split at h
  · cases h
  · rename_i hu
    have Qi:=jA hu
    have hi:=info_of_underlying (t:=t) (Bool.eq_false_iff.2 hu)
    unfold part
    cases hb:lE P t with
    |true=>
      rw[hb,if_pos rfl] at h
      injection h with h
      subst h
      simp[lq P t w Qi,hb,cF P t w hi]
    |false=>
      rw[hb] at h
      simp only[Bool.false_eq_true,if_false] at h
      simp[lq P t w Qi,hb,h]
theorem Dv (a b:ByteArray):(a==b)=decide (a=b):=by
  have h0:(a==b)=(a.data==b.data):=by cases a;cases b;rfl
  rw[h0]
  by_cases h:a=b
  · subst h;simp
  · have: ¬a.data=b.data:=fun e=>h (ByteArray.ext e)
    simp[h,this]
theorem wu (P:Program)(w:World): ∀(d k:Nat) (t:TypeId) (x y:Value) (b:Bool),K7 P d t x y=some b→(Op.equalIn (d+k) t x y).run P w=.ok b w
  |0,k,t,x,y,b,h=>by simp[K7] at h
  |d+1,k,t,x,y,b,h=>by
    rw[show d+1+k=(d+k)+1 by omega]
    unfold K7 at h
    split at h
    · rename_i hu
      injection h with h
      subst h
      simp[Op.equalIn,run_underlying hu]
    · rename_i hu
      injection h with h
      subst h
      simp[Op.equalIn,run_underlying hu]
      rfl
    · rename_i hu
      injection h with h
      subst h
      simp[Op.equalIn,run_underlying hu,Dv]
    · rename_i fs xs ys hu
      split at h
      · cases h
      · rename_i nD
        have hf:P.fieldsOf t=fs:=by simp[Program.fieldsOf,hu]
        rw[run_equalIn_struct w (d+k) t xs ys (by rw[hf];exact hu) (by simpa using nD),hf]
        clear hf hu
        revert h
        generalize fs.toList=l
        intro h
        induction l generalizing b with
        |nil=>
          simp only[List.foldr_nil,Option.some.injEq] at h
          subst h
          simp[Op.eqFields]
        |cons f r ih=>
          rw[List.foldr_cons] at h
          split at h
          · cases h
          · rename_i hn
            split at h
            · rename_i a c q ha hc hq
              split at h
              · rename_i p hp
                injection h with h
                subst h
                have e1:=wu P w d k f.type a c p hp
                have e2:=ih q hq
                simp only[Op.eqFields,hn,ne_eq,not_false_eq_true,if_true,Sem.run_bind,yU P w _ _ _ _ ha,yU P w _ _ _ _ hc,Result.andThen_ok,e1]
                cases p
                · simp
                · simpa using e2
              · cases h
            · cases h
    · cases h
theorem qn {P:Program}{T:TypeId}{X Y:Operand}{xs ys:Array Value}{b:Bool}(h:K7 P 8 T (.agg xs) (.agg ys)=some b)(hg:P.eqGuardType P.depth T=false)(w:World):
    (do eqGuard .neq T X Y (.agg xs) (.agg ys);binOp .neq T (.agg xs) (.agg ys):Sem Value).run P w=.ok (.bool (!b)) w:=by
  have h1:=wu P w 8 9992 T _ _ b h
  have K8:(Op.equal T (.agg xs) (.agg ys)).run P w=.ok b w:=h1
  simp[eqGuard,binOp,hg,K8]
theorem eq_nil {P:Program}{T e:TypeId}{X Y:Operand}{A:Option Addr}{n c:Nat}(hu:P.underlying T=some (.slice e))(w:World):
    (do eqGuard .eql T X Y (.slice A n c) (.slice none 0 0);binOp .eql T (.slice A n c) (.slice none 0 0):Sem Value).run P w=.ok (.bool A.isNone) w:=by
  have h1:=run_equal_slice_nil (P:=P) w T e A n c hu
  simp[eqGuard,binOp,h1]
end Go.Proofs.YtbjakddkfgjkaaaGreat.Fw
namespace Go.Proofs.YtbjakddkfgjkaaaGreat.Fw
open Go.RowKit
class aJ (α:Type) where
  sub:(Nat→Prop)→World→α→Prop
  stay: ∀{B w w' x},(∀b,B b→b<w.heap.size→w'.heap[b]? =w.heap[b]?)→sub B w x→sub B w' x
  wide: ∀{B B' w x},(∀b,B b→B' b)→sub B w x→sub B' w x
  ok:α→Prop
  bL: ∀{B w x},sub B w x→ok x
  small:α→Prop
class aR (α:Type) extends Inhabited α,aJ α where
  size:Nat
  bytes:Nat
  pos:0<size
  cells:α→List Value
  len: ∀x,(cells x).length=size
  one: ∀x,(cells x).all Value.oneCell'=true
structure Sl (α:Type) where
  A:Option Addr
  c:Nat
  xs:List α
  deriving Inhabited
def Sl.ad {α:Type}(s:Sl α):Addr:=s.A.getD ⟨0,0,none⟩
abbrev Sl.n {α:Type}(s:Sl α):Nat:=s.xs.length
def Sl.val {α:Type}(s:Sl α):Value:=.slice s.A s.n s.c
def Sl.at {α:Type}[Inhabited α](s:Sl α)(i:Nat):α:=s.xs.getD i default
def Sl.nil {α:Type}:Sl α:=⟨none,0,[]⟩
theorem Hu {w:World}{a:Addr}{v:Value}(h:w.cell? a=some v):a.block<w.heap.size:=by
  rcases Nat.lt_or_ge a.block w.heap.size with h1|h1
  · exact h1
  · simp[World.cell?,Array.getElem?_eq_none h1] at h
theorem j9 (a:Addr)(n:Nat):(a.add n).block=a.block:=by unfold Addr.add;split<;>rfl
theorem Dw {w w':World}{a:Addr}(h:w'.heap[a.block]? =w.heap[a.block]?):w'.cell? a=w.cell? a:=by simp[World.cell?,h]
theorem bq.same {w w':World}{a:Addr}{vs:List Value}(h:bq w a vs)(hs:a.block<w.heap.size→w'.heap[a.block]? =w.heap[a.block]?):bq w' a vs:=fun j v hj=>by
  have h1:=h j v hj
  have h2:=Hu h1
  rw[j9] at h2
  have e:=Dw (w:=w) (w':=w') (a:=a.add j) (by rw[j9];exact hs h2)
  rw[e]
  exact h1
def Sl.rd {α:Type}[aR α](B:Nat→Prop)(w:World)(s:Sl α):Prop:=
  s.n≤s.c∧s.c≤maxLen∧ ∀i x,s.xs[i]? =some x→(∃a,s.A=some a∧B a.block∧bq w (a.add (i*aR.size α)) (aR.cells x))∧aJ.sub B w x
theorem Sl.ao {α:Type}[aR α](B:Nat→Prop)(w:World):(Sl.nil:Sl α).rd B w:=⟨Nat.le_refl _,Nat.zero_le _,fun i x h=>by simp[Sl.nil] at h⟩
theorem Sl.rd.stay {α:Type}[aR α]{B:Nat→Prop}{w w':World}{s:Sl α}(h:s.rd B w)(hs: ∀b,B b→b<w.heap.size→w'.heap[b]? =w.heap[b]?):s.rd B w':=
  ⟨h.1,h.2.1,fun i x hx=>by
    obtain⟨⟨a,ha,hB,hc⟩,h2⟩:=h.2.2 i x hx
    exact⟨⟨a,ha,hB,hc.same fun dX=>by rw[j9] at dX⊢;exact hs _ hB dX⟩,aJ.stay hs h2⟩⟩
theorem Sl.rd.wide {α:Type}[aR α]{B B':Nat→Prop}{w:World}{s:Sl α}(h:s.rd B w)(hs: ∀b,B b→B' b):s.rd B' w:=
  ⟨h.1,h.2.1,fun i x hx=>by
    obtain⟨⟨a,ha,hB,hc⟩,h2⟩:=h.2.2 i x hx
    exact⟨⟨a,ha,hs _ hB,hc⟩,aJ.wide hs h2⟩⟩
abbrev bH:Nat→Prop:=fun _=>True
theorem Sl.rd.kp {α:Type}[aR α]{w w':World}{s:Sl α}{B:Nat→Prop}(h:s.rd B w)(k:Kp [] w w'):s.rd B w':=h.stay fun b _ hb=>k.block b hb (by simp)
theorem Sl.eA {α:Type}[Inhabited α]{s:Sl α}{i:Nat}(hi:i<s.n):s.xs[i]? =some (s.at i):=by
  unfold Sl.at Sl.n at*
  rw[List.getElem?_eq_getElem hi,List.getD_eq_getElem?_getD,List.getElem?_eq_getElem hi]
  rfl
theorem Sl.rd.Qj {α:Type}[aR α]{B:Nat→Prop}{w:World}{s:Sl α}(h:s.rd B w){i:Nat}(hi:i<s.n):s.A=some s.ad:=by
  obtain⟨⟨a,ha,_⟩,_⟩:=h.2.2 i _ (Sl.eA hi)
  simp[Sl.ad,ha]
theorem Sl.rd.get {α:Type}[aR α]{B:Nat→Prop}{w:World}{s:Sl α}(h:s.rd B w){i:Nat}(hi:i<s.n):bq w (s.ad.add (i*aR.size α)) (aR.cells (s.at i)):=by
  obtain⟨⟨a,ha,_,hc⟩,_⟩:=h.2.2 i _ (Sl.eA hi)
  simpa[Sl.ad,ha] using hc
theorem Sl.rd.sub {α:Type}[aR α]{B:Nat→Prop}{w:World}{s:Sl α}(h:s.rd B w){i:Nat}(hi:i<s.n):aJ.sub B w (s.at i):=(h.2.2 i _ (Sl.eA hi)).2
theorem bq.part {w:World}{a:Addr}{vs:List Value}(h:bq w a vs)(off n:Nat):bq w (a.add off) ((vs.drop off).take n):=fun j v hj=>by
  simp only[List.getElem?_take,List.getElem?_drop] at hj
  split at hj
  · have e:(a.add off).add j=a.add (off+j):=by
      by_cases h1:off=0
      · subst h1;simp[Addr.add]
      · by_cases h2:j=0
        · subst h2;simp[Addr.add]
        · have h3: ¬off+j=0:=by omega
          simp[Addr.add,h1,h2,Nat.add_assoc]
    rw[e]
    exact h _ _ hj
  · cases hj
theorem Sl.rd.RK {α:Type}[aR α]{B:Nat→Prop}{w:World}{s:Sl α}(h:s.rd B w){i:Nat}(hi:i<s.n)(off n:Nat){vs:List Value}(hv:((aR.cells (s.at i)).drop off).take n=vs):bq w ((s.ad.add (i*aR.size α)).add off) vs:=by
  subst hv
  exact (h.get hi).part off n
theorem Sl.rd.all {α:Type}[aR α]{B:Nat→Prop}{w:World}{s:Sl α}(h:s.rd B w){i:Nat}(hi:i<s.n){vs:List Value}(hv:aR.cells (s.at i)=vs):bq w (s.ad.add (i*aR.size α)) vs:=by
  subst hv
  exact h.get hi
def Sl.ok {α:Type}[aR α](s:Sl α):Prop:=s.n≤s.c∧s.c≤maxLen∧ ∀i,i<s.n→s.A=some s.ad∧aJ.ok (s.at i)
theorem Sl.rd.ok {α:Type}[aR α]{B:Nat→Prop}{w:World}{s:Sl α}(h:s.rd B w):s.ok:=⟨h.1,h.2.1,fun i hi=>⟨h.Qj hi,aJ.bL (h.sub hi)⟩⟩
theorem Sl.ok.own {α:Type}[aR α]{s:Sl α}(h:s.ok){i:Nat}(hi:i<s.n):s.A=some s.ad:=(h.2.2 i hi).1
theorem Sl.ok.at {α:Type}[aR α]{s:Sl α}(h:s.ok){i:Nat}(hi:i<s.n):aJ.ok (s.at i):=(h.2.2 i hi).2
theorem Sl.ok.nc {α:Type}[aR α]{s:Sl α}(h:s.ok):s.n≤s.c∧s.c≤9223372036854775807:=⟨h.1,by have:=h.2.1;unfold maxLen at this;omega⟩
instance {α:Type} [aR α]:aJ (Sl α) where
  sub:=Sl.rd
  stay hs h:=h.stay hs
  wide hs h:=h.wide hs
  ok:=Sl.ok
  bL h:=h.ok
  small s:=s.n*aR.bytes α≤140737488355328∧ ∀i,i<s.n→aJ.small (s.at i)
theorem aJ.kp {α:Type}[aJ α]{w w':World}{x:α}{B:Nat→Prop}(h:aJ.sub B w x)(k:Kp [] w w'):aJ.sub B w' x:=aJ.stay (fun b _ hb=>k.block b hb (by simp)) h
instance:aR Int where
  size:=1
  bytes:=8
  pos:=by decide
  cells n:=[.int .i64 n]
  len _:=rfl
  one _:=rfl
  sub _ _ _:=True
  stay _ _:=trivial
  wide _ _:=trivial
  ok _:=True
  bL _:=trivial
  small _:=True
instance:aR ByteArray where
  size:=1
  bytes:=16
  pos:=by decide
  cells n:=[.string n]
  len _:=rfl
  one _:=rfl
  sub _ _ x:=x.size≤9223372036854775807
  stay _ h:=h
  wide _ h:=h
  ok x:=x.size≤9223372036854775807
  bL h:=h
  small _:=True
instance:aR UInt8 where
  size:=1
  bytes:=1
  pos:=by decide
  cells n:=[.int .u8 n.toNat]
  len _:=rfl
  one _:=rfl
  sub _ _ _:=True
  stay _ _:=trivial
  wide _ _:=trivial
  ok _:=True
  bL _:=trivial
  small _:=True
end Go.Proofs.YtbjakddkfgjkaaaGreat.Fw
namespace Go.Proofs.YtbjakddkfgjkaaaGreat.Fw
open Go.RowKit
def bF {α:Type}[aJ α](fp:List Nat)(x:α):bz:=⟨fp,fun w=>aJ.sub (· ∈fp) w x,fun h p=>aJ.stay (fun b hb _=>h b hb) p⟩
def bJ {α:Type}[aJ α](w w':World)(x:α):Prop:=Kp [] w w'∧ ∃fp,gC w w' (bF fp x)
def fx (w:World)(A:Option Addr)(k:Nat)(vs:List Value):Prop:=
  match A with
  |none=>k=0
  |some a=>bq w a vs
theorem nV {P:Program}{w:World}(t ty e:TypeId)(A:Option Addr)(n c c2:Nat)(ht:P.underlying t=some (.slice e))(hi:(P.info? e).isSome=true)(Oe:n≤c):
    (Builtin.append_ #[t,t] ty #[.slice A n c,.slice none 0 c2]).run P w=.ok (.slice A n c) w:=by
  obtain⟨i,hi⟩:=Option.isSome_iff_exists.1 hi
  cases A<;>simp [Builtin.append_,run_underlying ht,sizeOf,typeInfo,hi,Builtin.lenOf,Builtin.firstCells,Oe,storeCells]
def ay {α:Type}[aR α](e:Nat)(A:Option Addr)(c:Nat)(L:List α):bz:=fI e (aR.size α) A L.length c (L.flatMap aR.cells)
theorem dO {α:Type}[aR α]: ∀(L:List α),(L.flatMap aR.cells).length=L.length*aR.size α
  |[]=>by simp
  |x::r=>by simp only[List.flatMap_cons,List.length_append,aR.len,dO r,List.length_cons,Nat.succ_mul];omega
theorem ed {α:Type}[aR α](L:List α):(L.flatMap aR.cells).all Value.oneCell'=true:=by
  rw[List.all_eq_true]
  intro v hv
  obtain⟨x,_,hx⟩:=List.mem_flatMap.1 hv
  exact List.all_eq_true.1 (aR.one x) v hx
theorem tU {α:Type}[aR α]: ∀(L:List α) (i:Nat) (x:α),L[i]? =some x→((L.flatMap aR.cells).drop (i*aR.size α)).take (aR.size α)=aR.cells x
  |[],i,x,h=>by simp at h
  |y::r,0,x,h=>by
    simp only[List.getElem?_cons_zero,Option.some.injEq] at h
    subst h
    simp only[Nat.zero_mul,List.drop_zero,List.flatMap_cons]
    rw[←aR.len y,List.take_left]
  |y::r,i+1,x,h=>by
    have ih:=tU r i x (by simpa using h)
    rw[←ih,List.flatMap_cons,List.drop_append,List.drop_eq_nil_of_le (by rw[aR.len,Nat.succ_mul];omega)]
    rw[aR.len,Nat.succ_mul,Nat.add_sub_cancel]
    simp
theorem Sl.rd.flat {α:Type}[aR α]{B:Nat→Prop}{w:World}{s:Sl α}(h:s.rd B w){a:Addr}(ha:s.A=some a):bq w a (s.xs.flatMap aR.cells):=by
  intro j v hj
  have dX:j<s.xs.length*aR.size α:=by
    rw[←dO]
    exact (List.getElem?_eq_some_iff.1 hj).1
  have hp:=aR.pos (α:=α)
  have hi:j / aR.size α<s.n:=by
    unfold Sl.n
    exact (Nat.div_lt_iff_lt_mul hp).2 dX
  have h1:=h.get hi
  have h2:=tU s.xs (j / aR.size α) _ (Sl.eA hi)
  have h3:(aR.cells (s.at (j / aR.size α)))[j % aR.size α]? =some v:=by
    rw[←h2,List.getElem?_take,if_pos (Nat.mod_lt _ hp),List.getElem?_drop]
    rw[show j / aR.size α*aR.size α+j % aR.size α=j by rw[Nat.mul_comm];exact Nat.div_add_mod _ _]
    exact hj
  have h4:=h1 _ _ h3
  have h5:s.ad=a:=by simp[Sl.ad,ha]
  rw[h5] at h4
  have e:(a.add (j / aR.size α*aR.size α)).add (j % aR.size α)=a.add j:=by
    have hm:j / aR.size α*aR.size α+j % aR.size α=j:=by rw[Nat.mul_comm];exact Nat.div_add_mod _ _
    generalize j / aR.size α*aR.size α=p at*
    generalize j % aR.size α=q at*
    subst hm
    by_cases h1:p=0
    · subst h1;simp[Addr.add]
    · by_cases h2:q=0
      · subst h2;simp[Addr.add]
      · simp[Addr.add,h1,h2,Nat.add_assoc]
  rwa [e] at h4
theorem Sl.rd.src {α:Type}[aR α]{B:Nat→Prop}{w:World}{s:Sl α}(h:s.rd B w):fx w s.A s.n (s.xs.flatMap aR.cells):=by
  cases hA:s.A with
  |none=>
    show s.n=0
    rcases Nat.eq_zero_or_pos s.n with h0|h0
    · exact h0
    · have:=h.Qj h0
      rw[hA] at this
      cases this
  |some a=>exact h.flat hA
theorem nW {α:Type}[aR α]{e:Nat}{A:Option Addr}{c:Nat}{L:List α}{w:World}(h:(ay e A c L).p w):L.length≤c∧c≤maxLen∧ ∀i x,L[i]? =some x→ ∃g,A=some ⟨g,0,none⟩∧bq w ((⟨g,0,none⟩:Addr).add (i*aR.size α)) (aR.cells x):=by
  have h':w.ownsRow 0 e (aR.size α) (.slice A L.length c) L.length (L.flatMap aR.cells):=h
  rcases h'.2 with ⟨e1,e2⟩|⟨g,cap,cur,e1,e2,e3,e4,e5,e6,e7⟩
  · injection e1 with e3 e4 e5
    subst e5
    have:L=[]:=List.eq_nil_of_length_eq_zero e2
    subst this
    exact⟨Nat.le_refl _,Nat.zero_le _,fun i x hx=>by simp at hx⟩
  · injection e1 with e8 _ e9
    subst e8 e9
    refine⟨e4,e5,fun i x hx=>⟨g,rfl,?_⟩⟩
    have G6:bq w ⟨g,0,none⟩ (L.flatMap aR.cells):=fun j v hj=>by
      rw[←e7,List.getElem?_take] at hj
      split at hj
      · have ha:(Addr.mk g 0 none).add j=⟨g,j,none⟩:=by unfold Addr.add;split<;>simp_all
        rw[ha]
        simp only[World.cell?,e3]
        simpa using hj
      · cases hj
    have:=G6.part (i*aR.size α) (aR.size α)
    rwa [tU L i x hx] at this
theorem Rr {α:Type}[aR α]{e:Nat}{A:Option Addr}{c:Nat}{L:List α}{w:World}{B:Nat→Prop}(h:(ay e A c L).p w)(hB: ∀b,b∈(ay e A c L).fp→B b)(hs: ∀x,x∈L→aJ.sub B w x):Sl.rd B w ⟨A,c,L⟩:=by
  obtain⟨h1,h2,h3⟩:=nW h
  refine⟨h1,h2,fun i x hx=>?_⟩
  obtain⟨g,rfl,hc⟩:=h3 i x hx
  exact⟨⟨_,rfl,hB _ (by simp[ay,fI]),hc⟩,hs x (List.mem_of_getElem? hx)⟩
theorem xL {P:Program}(w:World)(S D e:TypeId)(str:ByteArray)(hS:P.underlying S=some .string)(hD:P.underlying D=some (.slice e))(he:P.underlying e=some (.int .u8))(hlen:str.size≤maxLen):
    ∃y:Sl UInt8,y.xs=str.data.toList∧(convert S D (.string str)).run P w=.ok y.val (Lib.bytesWorld w e str)∧bJ w (Lib.bytesWorld w e str) y:=by
  have hl:str.data.toList.length=str.size:=by rw[Array.length_toList];rfl
  refine⟨⟨some ⟨w.heap.size,0,none⟩,grownCap w str.size 0 e,str.data.toList⟩,rfl,?_,⟨rfl,rfl,rfl,?_,?_⟩,[w.heap.size],?_,(by show [w.heap.size].Nodup;simp),?_⟩
  · rw[Lib.run_convert_string_bytes w S D e str hS hD he]
    simp only[Sl.val,Sl.n,hl]
  · rw[Lib.bytesWorld_size];omega
  · intro k hk _
    exact Lib.bytesWorld_at_old w e str k hk
  · refine⟨by simp only[Sl.n,hl];exact grownCap_ge w _ _ e,grownCap_le_maxLen w _ _ e hlen,fun i x hx=>⟨⟨_,rfl,by simp,?_⟩,trivial⟩⟩
    intro j v hj
    have hi:i<str.size:=by rw[←hl];exact (List.getElem?_eq_some_iff.1 hx).1
    have K9:([Value.int .u8 (x.toNat:Int)])[j]? =some v:=hj
    have h0:j=0:=by
      cases j with
      |zero=>rfl
      |succ j=>simp at K9
    subst h0
    simp only[List.getElem?_cons_zero,Option.some.injEq] at K9
    have h1:=Lib.bytesWorld_cell w e str i hi
    have h2:((⟨w.heap.size,0,none⟩:Addr).add (i*aR.size UInt8)).add 0=⟨w.heap.size,i,none⟩:=by
      have h3:aR.size UInt8=1:=rfl
      rw[h3,add_zero]
      unfold Addr.add
      split<;>simp_all
    rw[h2,h1,List.getD_eq_getElem?_getD,hx]
    rw[←K9]
    rfl
  · intro b hb
    simp only[bF,List.mem_singleton] at hb
    subst hb
    exact⟨Nat.le_refl _,by rw[Lib.bytesWorld_size];omega⟩
def cN (R:List bz):bz:=⟨R.flatMap bz.fp,fun w=> ∀r,r∈R→r.p w,fun h p r hr=>r.st (fun b hb=>h b (List.mem_flatMap.2 ⟨r,hr,hb⟩)) (p r hr)⟩
theorem WS.out {w0:World}{bs:List Nat}{loc:List fq}{R:List bz}{w:World}(h:WS [] w0 bs loc R w):gC w0 w (cN R):=by
  refine⟨h.res,(List.nodup_append.1 h.nd).2.1,fun b hb=>?_⟩
  have:=h.lo b (List.mem_append_right _ hb)
  exact⟨this.1.resolve_right (by simp),this.2⟩
theorem gC.sub {α:Type}[aJ α]{w0 w:World}{r:bz}{y:α}(h:gC w0 w r)(hs:r.p w→aJ.sub (· ∈r.fp) w y): ∃fp,gC w0 w (bF fp y):=⟨r.fp,hs h.1,h.2.1,h.2.2⟩
theorem WS.aO {α:Type}[aJ α]{w0:World}{bs:List Nat}{loc:List fq}{R:List bz}{w:World}{y:α}(h:WS [] w0 bs loc R w)(hs:aJ.sub (· ∈(cN R).fp) w y):bJ w0 w y:=⟨h.kp,h.out.sub fun _=>hs⟩
theorem fi {R:List bz}{r:bz}(h:r∈R){b:Nat}(hb:b∈r.fp):b∈(cN R).fp:=List.mem_flatMap.2 ⟨r,h,hb⟩
theorem aU {α:Type}[aJ α]{R:List bz}{fp:List Nat}{y:α}{w:World}(h:bF fp y∈R)(hp:(bF fp y).p w):aJ.sub (· ∈(cN R).fp) w y:=aJ.wide (fun b hb=>fi h hb) hp
theorem a4 {α:Type}[aR α]{R:List bz}{e:Nat}{A:Option Addr}{c:Nat}{L:List α}{w:World}(h:ay e A c L∈R)(hp:(ay e A c L).p w)(hs: ∀x,x∈L→aJ.sub (· ∈(cN R).fp) w x):Sl.rd (· ∈(cN R).fp) w ⟨A,c,L⟩:=
  Rr hp (fun b hb=>fi h hb) hs
end Go.Proofs.YtbjakddkfgjkaaaGreat.Fw
namespace Go.Proofs.YtbjakddkfgjkaaaGreat.Fw
open Go.RowKit
theorem WS.join {m:List Nat}{w0:World}{bs:List Nat}{loc:List fq}{R:List bz}{w:World}{r1 r2:bz}(h:WS m w0 bs loc (r1::r2::R) w)(r:bz)(hf:r.fp.Perm (r1.fp++r2.fp))(hp:r1.p w→r2.p w→r.p w):WS m w0 bs loc (r::R) w:=by
  have La:((r::R).flatMap bz.fp).Perm ((r1::r2::R).flatMap bz.fp):=by
    simp only[List.flatMap_cons]
    rw[←List.append_assoc]
    exact hf.append_right _
  refine⟨h.kp,h.len,h.loc,fun x hx=>?_,((List.Perm.append_left bs La).nodup_iff).2 h.nd,fun b hb=>h.lo b ((List.Perm.append_left bs La).subset hb)⟩
  rcases List.mem_cons.1 hx with rfl|hx
  · exact hp (h.res _ (.head _)) (h.res _ (.tail _ (.head _)))
  · exact h.res _ (.tail _ (.tail _ hx))
def CD:bz:=⟨[],fun _=>True,fun _ _=>trivial⟩
theorem WS.Lb {m:List Nat}{w0:World}{bs:List Nat}{loc:List fq}{R:List bz}{w:World}(h:WS m w0 bs loc R w)(r:bz)(hf:r.fp=[])(hp:r.p w):WS m w0 bs loc (r::R) w:=h.new r hp (by rw[hf];simp) (by rw[hf];intro b hb;cases hb)
def bI {α:Type}(f:α→bz)(L:List α):bz:=⟨L.flatMap fun x=>(f x).fp,fun w=> ∀x,x∈L→(f x).p w,fun h p x hx=>(f x).st (fun b hb=>h b (List.mem_flatMap.2 ⟨x,hx,hb⟩)) (p x hx)⟩
theorem gD {α:Type}(f:α→bz)(L:List α)(x:α):(bI f (L++[x])).fp.Perm ((f x).fp++(bI f L).fp):=by
  show ((L++[x]).flatMap fun x=>(f x).fp).Perm _
  rw[List.flatMap_append]
  simpa[bI] using List.perm_append_comm
theorem g9 {α:Type}(f:α→bz)(L:List α)(x:α)(w:World)(h1:(f x).p w)(h2:(bI f L).p w):(bI f (L++[x])).p w:=fun y hy=>by
  rcases List.mem_append.1 hy with hy|hy
  · exact h2 y hy
  · rw[List.mem_singleton] at hy;subst hy;exact h1
theorem Pf {α:Type}{R' R:List α}(i:Nat)(h:R'=(match R[i]? with|some x=>x::R.eraseIdx i|none=>R)):R'.Perm R:=by
  subst h
  cases hx:R[i]? with
  |none=>exact List.Perm.refl _
  |some x=>
    show (x::R.eraseIdx i).Perm R
    induction R generalizing i with
    |nil=>simp at hx
    |cons y r ih=>
      cases i with
      |zero=>
        simp only[List.getElem?_cons_zero,Option.some.injEq] at hx
        subst hx
        exact List.Perm.refl _
      |succ i=>
        have:=ih i (by simpa using hx)
        exact (List.Perm.swap y x _).trans (this.cons y)
theorem xM {α β γ:Type}[Inhabited α][Inhabited β]{a:Sl α}{b:Sl β}{f:α→γ}{g:β→γ}(hd:f default=g default)(h:a.xs.map f=b.xs.map g)(i:Nat):f (a.at i)=g (b.at i):=by
  have h1:=congrArg (fun l=>l[i]?) h
  simp only[List.getElem?_map] at h1
  simp only[Sl.at,List.getD_eq_getElem?_getD]
  cases h2:a.xs[i]? <;>cases h3:b.xs[i]? <;>rw [h2,h3] at h1<;>simp_all
theorem sB {α β γ:Type}{a:Sl α}{b:Sl β}{f:α→γ}{g:β→γ}(h:a.xs.map f=b.xs.map g):a.n=b.n:=by simpa using congrArg List.length h
theorem jm {α:Type}[Inhabited α]{a b:Sl α}(h:a.xs=b.xs)(i:Nat):a.at i=b.at i:=by simp only[Sl.at,h]
theorem sT {α:Type}{a b:Sl α}(h:a.xs=b.xs):a.n=b.n:=by simp only[Sl.n,h]
def aQ {α:Type}(p:α→Bool)(l:List α):Int:=if l.findIdx p<l.length then (l.findIdx p:Int) else -1
theorem gp {α:Type}[Inhabited α]{s:Sl α}{p:α→Bool}(h: ∀j,j<s.n→p (s.at j)=false):aQ p s.xs= -1:=by
  unfold aQ
  rw[if_neg]
  intro dX
  have h1:=List.findIdx_getElem (w:=dX)
  have h2:=h _ dX
  have h3:=Sl.eA (s:=s) dX
  rw[List.getElem?_eq_getElem dX] at h3
  injection h3 with h3
  rw[←h3] at h2
  rw[h1] at h2
  cases h2
theorem fR {α:Type}[Inhabited α]{s:Sl α}{p:α→Bool}{i:Nat}(hi:i<s.n)(hp:p (s.at i)=true)(h: ∀j,j<i→p (s.at j)=false):aQ p s.xs=(i:Int):=by
  have h3:=Sl.eA hi
  have dX:i<s.xs.length:=hi
  rw[List.getElem?_eq_getElem dX] at h3
  injection h3 with h3
  have he:s.xs.findIdx p=i:=by
    rw[List.findIdx_eq dX]
    refine⟨by rw[h3];exact hp,fun j hj=>?_⟩
    have ER:j<s.n:=Nat.lt_trans hj hi
    have h4:=Sl.eA ER
    rw[List.getElem?_eq_getElem (show j<s.xs.length from ER)] at h4
    injection h4 with h4
    rw[h4]
    exact h j hj
  unfold aQ
  rw[he,if_pos dX]
theorem hC {α:Type}(p:α→Bool)(l:List α):decide (0≤aQ p l)=l.any p:=by
  unfold aQ
  by_cases h:l.findIdx p<l.length
  · rw[if_pos h]
    have:=List.findIdx_lt_length.1 h
    have h2:l.any p=true:=List.any_eq_true.2 this
    rw[h2]
    simp
  · rw[if_neg h]
    have h2:l.any p=false:=by
      cases ha:l.any p with
      |false=>rfl
      |true=>exact absurd (List.findIdx_lt_length.2 (List.any_eq_true.1 ha)) h
    rw[h2]
    rfl
theorem Sl.ok.empty {α:Type}[aR α]{s:Sl α}(h:s.ok)(hA:s.A=none):s.xs=[]:=by
  cases hx:s.xs with
  |nil=>rfl
  |cons x r=>
    have:=h.own (i:=0) (by simp[Sl.n,hx])
    rw[hA] at this
    cases this
theorem nX {α:Type}[aR α](e:Nat)(w:World){w0:World}:gC w0 w (ay e none 0 ([]:List α)):=⟨qm e (aR.size α) w,by simp[ay,fI],by simp[ay,fI]⟩
theorem WS.rG {w0:World}{bs:List Nat}{loc:List fq}{R:List bz}{r:bz}{w:World}(h:WS [] w0 bs loc (r::R) w):gC w0 w r:=by
  have h2:=h.sub (R':=[r]) (List.Sublist.cons_cons _ (List.nil_sublist _))
  refine⟨h.res _ (.head _),?_,fun b hb=>?_⟩
  · have:=(List.nodup_append.1 h2.nd).2.1
    simpa using this
  · have:=h2.lo b (by simp[hb])
    exact⟨this.1.resolve_right (by simp),this.2⟩
theorem Hv {α:Type}[aR α]{e:Nat}{A:Option Addr}{c:Nat}{L:List α}{w:World}(h:(ay e A c L).p w)(hs: ∀x,x∈L→aJ.sub bH w x):Sl.ok (⟨A,c,L⟩:Sl α):=(Rr h (fun _ _=>trivial) hs).ok
theorem gq {α:Type}[Inhabited α]{s:Sl α}{i:Nat}(hi:i<s.n):s.xs.take i++[s.at i]=s.xs.take (i+1):=by
  have h:=Sl.eA hi
  rw[List.take_add_one,h]
  rfl
theorem dE {α:Type}{s:Sl α}{i:Nat}(hi:s.n≤i):s.xs.take i=s.xs:=List.take_of_length_le hi
theorem Ff {α:Type}[aR α]{C:Cx}{R:List bz}{s:SS}{d:Option Nat}{T n:Nat}{parts:Array (Nat×Operand)}{ty:Nat}{pos:String}{AV:Array Edge}{g:Option (Nat×Bool)}(e:Nat)(L:List α)(cs:List SV)(ht:C.P.underlying T=some (.slice e))
    (Dp:Nat.beq (C.P.cellsOf e) 0=false) (Ho:Nat.ble n 65536=true) (I4:Nat.ble (C.P.cellsOf e) 256=true) (E5:((fV C.P e).map List.length)=some (C.P.cellsOf e)) (wj:ix s (C.P.cellsOf e) 0 parts.toList=some cs) (RL:parts.size=n)
    (hv:je cs=some (L.flatMap aR.cells)) (hn:L.length=n):
    g5 C ⟨d,.buildSlice T n parts,ty,pos,AV,g⟩ R s (σ:=Option Addr) (fun y=>.v (.slice y n n)) (fun _=>s.loc) (fun y=>ay e y n L::R):=by
  rintro bs a w ⟨pz,RM,hS⟩ K Q hK
  unfold Oper.wp
  have Of:C.P.cellsOf e≠0:=fun h=>by rw[h] at Dp;cases Dp
  have h1:=nR C.P T e n ht Of (Nat.le_of_ble_eq_true Ho) (Nat.le_of_ble_eq_true I4) E5 bs s a pz parts cs wj RL w
  have Og:=iw bs hv
  have jC:(execOp a.eval ⟨d,.buildSlice T n parts,ty,pos,AV,g⟩).run C.P w=.ok (.value (.slice (some ⟨w.heap.size,0,none⟩) n n)) (w.alloc (.cells (L.flatMap aR.cells).toArray e)):=by
    unfold execOp
    simp only[Sem.run_bind]
    rw[h1,Og]
    rfl
  rw[jC]
  have hw:n≤maxLen:=by have:=Nat.le_of_ble_eq_true Ho;unfold maxLen;omega
  refine hK (some ⟨w.heap.size,0,none⟩) _ (hS.fresh (Kp.alloc _ _) _ ?_ ?_ ?_)
  · refine⟨dO L,.inr ⟨w.heap.size,n,(L.flatMap aR.cells).toArray,by rw[hn],Nat.zero_le _,heap_alloc_new w _,Nat.le_of_eq hn,hw,?_,?_⟩⟩
    · simp only[List.size_toArray,dO,hn]
    · simp only[List.take_of_length_le (Nat.le_of_eq (dO L))]
  · simp[ay,fI]
  · intro b hb
    simp only[ay,fI,List.mem_singleton] at hb
    subst hb
    exact⟨Nat.le_refl _,by simp⟩
theorem Sl.rd.mem {α:Type}[aR α]{B:Nat→Prop}{w:World}{s:Sl α}(h:s.rd B w)(x:α)(hx:x∈s.xs):aJ.sub B w x:=by
  obtain⟨i,hi⟩:=List.mem_iff_getElem?.1 hx
  exact (h.2.2 i x hi).2
theorem Hp {C:Cx}{ops:Array Oper}{Q:Exit→Act→World→Prop}{R0:List bz}{ck:List fq}{n:Nat}{R:List bz}{s:SS}{rest:Tr}{i:Nat}{o:Oper}
    (nS:ops[i]? =some o) (hd:kW C.n o.dst=true) (hg:gd ops s o=some false) (hJ:JH C ops Q R0 ck n rest R ⟨jz s.env o.dst (.v undef),s.loc⟩):JH C ops Q R0 ck n (.b i rest .z) R s:=by
  intro gM bs a w hp iN sy
  refine⟨?_,trivial⟩
  show wpOp C.P ops Q i _ a w
  unfold wpOp
  simp only[nS]
  rw[iM iN.1 hg,if_neg (by simp)]
  exact⟨sy,hJ gM bs _ w hp (iN.put hd (.v undef) _ rfl iN.2.2) sy⟩
end Go.Proofs.YtbjakddkfgjkaaaGreat.Fw
namespace Go.Proofs.YtbjakddkfgjkaaaGreat.Fw
open Go.RowKit
end Go.Proofs.YtbjakddkfgjkaaaGreat.Fw
