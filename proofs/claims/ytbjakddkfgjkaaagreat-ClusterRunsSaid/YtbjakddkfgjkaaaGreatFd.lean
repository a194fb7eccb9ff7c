/-
  Rows of the call's own that are written, cut and cleared; calls that turn what is known; blocks of others.
  Conditions: none beyond those that each theorem states.
-/
import Derived.LoopN
import Derived.Lib.AppendZerosOnto
import Derived.Lib.Overlaps
import Derived.Test.YtbjakddkfgjkaaaGreatFc
set_option linter.unusedVariables false
set_option linter.unusedSimpArgs false
namespace Go.Proofs.YtbjakddkfgjkaaaGreat.Fw
open Go.RowKit
theorem Fg {C:Cx}{R:List bz}{s:SS}{Q:Exit→Act→World→Prop}{c:Code}{n:Nat}(h:JC C c (Exit.then (Code.rounds C.P c Q n) Q) R s):JC C (.loop c) Q R s:=fun a w hs=>wp_loop_rounds (n+1) (h a w hs)
theorem Hw {C:Cx}{R:List bz}{s:SS}{Q:Exit→Act→World→Prop}{c:Code}{n:Nat}(h:JC C c (Exit.then (Code.rounds C.P c Q n) Q) R s):JQ C (Exit.then (Code.rounds C.P c Q (n+1)) Q) .normal R s:=fun a w hs=>h a w hs
def jY (e size g c:Nat)(cur:List Value):bz where
  fp:=[g]
  p:=fun w=>w.heap[g]? =some (.cells cur.toArray e (0,0))∧cur.length=c*size∧c≤maxLen
  st:=by
    intro w w' h ⟨h1,h2⟩
    exact⟨by rw[h g (by simp)];exact h1,h2⟩
theorem CE {e size:Nat}{A:Option Addr}{n c:Nat}{xs:List Value}{w:World}(h:(fI e size A n c xs).p w):xs.length=n*size∧((A=none∧n=0∧c=0)∨ ∃g zs,A=some ⟨g,0,none⟩∧(jY e size g c (xs++zs)).p w∧n≤c):=by
  have h':w.ownsRow 0 e size (.slice A n c) n xs:=h
  refine⟨h'.1,?_⟩
  rcases h'.2 with ⟨e1,e2⟩|⟨g,cap,cur,e1,e2,e3,e4,e5,e6,e7⟩
  · injection e1 with e3 e4 e5
    exact .inl ⟨e3,e4,e5⟩
  · injection e1 with e8 _ e9
    subst e8 e9
    refine .inr ⟨g,cur.toList.drop (n*size),rfl,⟨?_,?_,e5⟩,e4⟩
    · rw[←e7,List.take_append_drop];exact e3
    · rw[←e7,List.take_append_drop];simpa using e6
theorem CF {e size g c:Nat}{cur:List Value}{w:World}(h:(jY e size g c cur).p w)(n:Nat)(hn:n≤c):(fI e size (some ⟨g,0,none⟩) n c (cur.take (n*size))).p w:=by
  have hl:n*size≤cur.length:=by rw[h.2.1];exact Nat.mul_le_mul_right _ hn
  refine⟨by rw[List.length_take];exact Nat.min_eq_left hl,.inr ⟨g,c,cur.toArray,rfl,Nat.zero_le _,h.1,hn,h.2.2,by simpa using h.2.1,by simp⟩⟩
theorem oI {P:Program}{e size g c:Nat}{cur:List Value}{w:World}(h:(jY e size g c cur).p w)(o:Nat)(vs:List Value)(h1: ∀v,v∈vs→v.oneCell'=true)(AW:o+vs.length≤cur.length):
    ∃w',(storeCells ⟨g,o,none⟩ vs).run P w=.ok () w'∧Kp [g] w w'∧(jY e size g c (setAt cur o vs)).p w':=by
  obtain⟨w',h2,h3,h4,_⟩:=km P g e vs 0 o w cur h1 h.1 (by simpa using AW)
  refine⟨w',h2,h4,h3,?_,h.2.2⟩
  rw[←h.2.1]
  unfold setAt
  simp only[List.length_append,List.length_take,List.length_drop,Nat.add_zero]
  omega
abbrev xN (A:Option Addr):Addr:=A.getD ⟨0,0,none⟩
theorem cz (g k:Nat):(⟨g,0,none⟩:Addr).add k=⟨g,k,none⟩:=by unfold Addr.add;split<;>simp_all
theorem tV (a:Addr)(i j:Nat):(a.add i).add j=a.add (i+j):=by
  by_cases h1:i=0
  · subst h1;simp[Addr.add]
  · by_cases h2:j=0
    · subst h2;simp[Addr.add]
    · have h3: ¬i+j=0:=by omega
      simp[Addr.add,h1,h2,Nat.add_assoc]
theorem getD_some {α:Type}[Inhabited α]{L:List α}{i:Nat}(hi:i<L.length):L[i]? =some (L.getD i default):=by
  rw[List.getD_eq_getElem?_getD,List.getElem?_eq_getElem hi];rfl
theorem yV {α:Type}[aR α]{e:Nat}{A:Option Addr}{c:Nat}{L:List α}{w:World}(h:(ay e A c L).p w){i:Nat}(hi:i<L.length):A=some (xN A):=by
  obtain⟨_,_,h3⟩:=nW h
  obtain⟨g,rfl,_⟩:=h3 i _ (getD_some hi)
  rfl
theorem xO {α:Type}[aR α]{e:Nat}{A:Option Addr}{c:Nat}{L:List α}{w:World}(h:(ay e A c L).p w){i:Nat}(hi:i<L.length):bq w ((xN A).add (i*aR.size α)) (aR.cells (L.getD i default)):=by
  obtain⟨_,_,h3⟩:=nW h
  obtain⟨g,rfl,hc⟩:=h3 i _ (getD_some hi)
  exact hc
theorem Fh {α:Type}[aR α]{e:Nat}{A:Option Addr}{c:Nat}{L:List α}{w:World}(h:(ay e A c L).p w){i:Nat}(hi:i<L.length)(off n:Nat){vs:List Value}(hv:((aR.cells (L.getD i default)).drop off).take n=vs):bq w (((xN A).add (i*aR.size α)).add off) vs:=by
  subst hv
  exact (xO h hi).part off n
theorem Hx {α:Type}[aR α]{e:Nat}{A:Option Addr}{c:Nat}{L:List α}{w:World}(h:(ay e A c L).p w):L.length≤c∧c≤9223372036854775807:=by
  obtain⟨h1,h2,_⟩:=nW h
  exact⟨h1,by unfold maxLen at h2;omega⟩
def dY {α:Type}(A:Option Addr)(c:Nat)(L:List α):Prop:=(∀i,i<L.length→A=some (xN A))∧L.length≤c∧c≤9223372036854775807
theorem br {α:Type}[aR α]{e:Nat}{A:Option Addr}{c:Nat}{L:List α}{w:World}(h:(ay e A c L).p w):dY A c L:=⟨fun _ hi=>yV h hi,Hx h⟩
theorem AX {α:Type}(l r:List α)(off:Nat)(vs:List α)(h:off+vs.length≤l.length):setAt (l++r) off vs=setAt l off vs++r:=by
  unfold setAt
  rw[List.take_append_of_le_length (by omega),List.drop_append_of_le_length h]
  simp only[List.append_assoc]
theorem yW {α:Type}(l r:List α)(off:Nat)(vs:List α):setAt (l++r) (l.length+off) vs=l++setAt r off vs:=by
  unfold setAt
  rw[List.take_append,List.take_of_length_le (by omega),Nat.add_sub_cancel_left,Nat.add_assoc,List.drop_append,List.drop_eq_nil_of_le (by omega),Nat.add_sub_cancel_left]
  simp only[List.nil_append,List.append_assoc]
theorem yX {α:Type}[aR α]: ∀(L:List α) (i:Nat) (x:α) (off:Nat) (vs:List Value) (zs:List Value),i<L.length→off+vs.length≤aR.size α→setAt (aR.cells (L.getD i default)) off vs=aR.cells x→
    setAt (L.flatMap aR.cells++zs) (i*aR.size α+off) vs=(L.set i x).flatMap aR.cells++zs
  |[],i,x,off,vs,zs,hi,_,_=>by simp at hi
  |y::r,0,x,off,vs,zs,_,nY,he=>by
    simp only[List.getD_cons_zero] at he
    simp only[Nat.zero_mul,Nat.zero_add,List.flatMap_cons,List.set_cons_zero, ←he,List.append_assoc]
    exact AX _ _ _ _ (by rw[aR.len];exact nY)
  |y::r,i+1,x,off,vs,zs,hi,nY,he=>by
    have ih:=yX r i x off vs zs (by simpa using hi) nY (by simpa using he)
    simp only[List.flatMap_cons,List.set_cons_succ,List.append_assoc]
    rw[←ih,show (i+1)*aR.size α+off=(aR.cells y).length+(i*aR.size α+off) by rw[aR.len,Nat.succ_mul];omega]
    exact yW _ _ _ _
theorem vF {α:Type}[aR α]{P:Program}{e:Nat}{A:Option Addr}{c:Nat}{L:List α}{w:World}(h:(ay e A c L).p w)(T:Nat)(i off:Nat)(v:Value)(vs:List Value)(x:α)(hi:i<L.length)(hv:v.cells.toList=vs)(hT:vs.length=P.cellsOf T)(Hy:P.cellsOf T≠0)
    (xP: ∀v,v∈vs→v.oneCell'=true) (nY:off+vs.length≤aR.size α) (hx:setAt (aR.cells (L.getD i default)) off vs=aR.cells x):
    ∃w',(storeVar T (((xN A).add (i*aR.size α)).add off) v).run P w=.ok () w'∧Kp (ay e A c L).fp w w'∧(ay e A c (L.set i x)).p w':=by
  obtain⟨h1,h2⟩:=CE h
  rcases h2 with ⟨_,h0,_⟩|⟨g,zs,rfl,hr,hn⟩
  · omega
  have hlen:(L.flatMap aR.cells).length=L.length*aR.size α:=dO L
  have hle:(i+1)*aR.size α≤L.length*aR.size α:=Nat.mul_le_mul_right _ hi
  rw[Nat.succ_mul] at hle
  obtain⟨w',h3,h4,h5⟩:=oI (P:=P) hr (i*aR.size α+off) vs xP (by rw[List.length_append,hlen];omega)
  refine⟨w',?_,h4,?_⟩
  · have lY:v.cells.size=P.cellsOf T:=by rw[←Array.length_toList,hv,hT]
    show (storeVar T (((⟨g,0,none⟩:Addr).add (i*aR.size α)).add off) v).run P w=_
    rw[tV,cz]
    simp only[storeVar,Sem.run_bind,cF P T w (dM Hy),Result.andThen_ok,lY,ne_eq,not_true_eq_false,if_false,hv]
    exact h3
  · rw[yX L i x off vs zs hi nY hx] at h5
    have:=CF h5 L.length hn
    rw[List.take_append_of_le_length (by rw[dO,List.length_set];exact Nat.le_refl _),List.take_of_length_le (by rw[dO,List.length_set];exact Nat.le_refl _)] at this
    unfold ay
    rw[List.length_set]
    exact this
theorem WS.vG {m:List Nat}{w0:World}{bs:List Nat}{loc:List fq}{R:List bz}{w:World}{r:bz}(h:WS m w0 bs loc (r::R) w)(r':bz)(hf:r'.fp.Sublist r.fp)(hp:r.p w→r'.p w):WS m w0 bs loc (r'::R) w:=by
  have hs:((r'::R).flatMap bz.fp).Sublist ((r::R).flatMap bz.fp):=by simp only[List.flatMap_cons];exact hf.append (List.Sublist.refl _)
  refine⟨h.kp,h.len,h.loc,fun x hx=>?_,h.nd.sublist ((List.Sublist.refl _).append hs),fun b hb=>h.lo b (((List.Sublist.refl _).append hs).subset hb)⟩
  rcases List.mem_cons.1 hx with rfl|hx
  · exact hp (h.res _ (.head _))
  · exact h.res _ (.tail _ hx)
theorem WS.Lc {m:List Nat}{w0:World}{bs:List Nat}{loc:List fq}{R:List bz}{w:World}{r:bz}(h:WS m w0 bs loc (r::R) w)(r1 r2:bz)(hf:(r1.fp++r2.fp).Perm r.fp)(hp:r.p w→r1.p w∧r2.p w):WS m w0 bs loc (r1::r2::R) w:=by
  have La:((r1::r2::R).flatMap bz.fp).Perm ((r::R).flatMap bz.fp):=by
    simp only[List.flatMap_cons]
    rw[←List.append_assoc]
    exact hf.append_right _
  have h2:=hp (h.res _ (.head _))
  refine⟨h.kp,h.len,h.loc,fun x hx=>?_,((List.Perm.append_left bs La).nodup_iff).2 h.nd,fun b hb=>h.lo b ((List.Perm.append_left bs La).subset hb)⟩
  rcases List.mem_cons.1 hx with rfl|hx
  · exact h2.1
  · rcases List.mem_cons.1 hx with rfl|hx
    · exact h2.2
    · exact h.res _ (.tail _ hx)
theorem aB {α:Type}[Inhabited α]{L:List α}{i:Nat}(hi:i<L.length):L.getD i default∈L:=List.mem_of_getElem? (getD_some hi)
theorem tW {α:Type}[Inhabited α]: ∀{L:List α} {i:Nat},i<L.length→(L.getD i default::L.eraseIdx i).Perm L
  |[],i,h=>by simp at h
  |x::r,0,_=>by simp
  |x::r,i+1,h=>by
    have ih:=tW (L:=r) (i:=i) (by simpa using h)
    simp only[List.getD_cons_succ,List.eraseIdx_cons_succ]
    exact (List.Perm.swap x _ _).trans (ih.cons x)
theorem ky {α:Type}[Inhabited α](f:α→bz){L:List α}{i:Nat}(hi:i<L.length):((f (L.getD i default)).fp++(bI f (L.eraseIdx i)).fp).Perm (bI f L).fp:=by
  have:=(tW hi).flatMap_right (fun x=>(f x).fp)
  rw[List.flatMap_cons] at this
  exact this
theorem lG {α:Type}[Inhabited α](f:α→bz){L:List α}{i:Nat}(hi:i<L.length)(w:World)(h:(bI f L).p w):(f (L.getD i default)).p w∧(bI f (L.eraseIdx i)).p w:=⟨h _ (aB hi),fun x hx=>h x (List.mem_of_mem_eraseIdx hx)⟩
theorem WS.Jc {m:List Nat}{w0:World}{bs:List Nat}{loc:List fq}{R:List bz}{w w':World}(h:WS m w0 bs loc R w)(i:Nat)(b:fq)(hb:loc[i]? =some b)(cs:List SV)(k:Kp [bs.getD i 0] w w')(hw:w'.heap[bs.getD i 0]? =some (.cells (cs.map (den bs)).toArray b.ty (0,0)))(r:bz)(hr:gC w w' r):
    WS m w0 bs (loc.set i ⟨b.ty,cs⟩) (r::R) w':=by
  refine (h.Qf i b hb cs k hw).new r hr.1 hr.2.1 fun x hx=>?_
  have h3:=hr.2.2 x hx
  refine⟨.inl (Nat.le_trans h.kp.size h3.1),h3.2,fun hm=>?_⟩
  have:=(h.lo x hm).2
  omega
def dh (r0:bz)(w w':World)(r:bz):Prop:=Kp r0.fp w w'∧r.p w'∧r.fp.Nodup∧ ∀b,b∈r.fp→b∈r0.fp∨(w.heap.size≤b∧b<w'.heap.size)
theorem WS.aW {w0:World}{bs:List Nat}{loc:List fq}{R:List bz}{w:World}{r0 r:bz}(h:WS r0.fp w0 bs loc (r::R) w):dh r0 w0 w r:=by
  have h2:=h.sub (R':=[r]) (List.Sublist.cons_cons _ (List.nil_sublist _))
  refine⟨h.kp,h.res _ (.head _),?_,fun b hb=>?_⟩
  · have:=(List.nodup_append.1 h2.nd).2.1
    simpa using this
  · have:=h2.lo b (by simp[hb])
    rcases this.1 with h3|h3
    · exact .inr ⟨h3,this.2⟩
    · exact .inl h3
theorem WS.eG (w:World)(r:bz)(hp:r.p w)(hn:r.fp.Nodup)(hl: ∀b,b∈r.fp→b<w.heap.size):WS r.fp w [] [] [r] w:=⟨Kp.refl _ _,rfl,fun i b hb=>by simp at hb,fun x hx=>by rw[List.mem_singleton] at hx;subst hx;exact hp,by simpa using hn,fun b hb=>by
  have AQ:b∈r.fp:=by simpa using hb
  exact⟨.inr AQ,hl b AQ⟩⟩
theorem WS.lH {m:List Nat}{w0:World}{bs:List Nat}{loc:List fq}{R:List bz}{w:World}{r:bz}(h:WS m w0 bs loc (r::R) w):r.p w∧r.fp.Nodup∧ ∀b,b∈r.fp→b<w.heap.size:=by
  have h2:=h.sub (R':=[r]) (List.Sublist.cons_cons _ (List.nil_sublist _))
  exact⟨h.res _ (.head _),by simpa using (List.nodup_append.1 h2.nd).2.1,fun b hb=>(h2.lo b (by simp[hb])).2⟩
end Go.Proofs.YtbjakddkfgjkaaaGreat.Fw
namespace Go.Proofs.YtbjakddkfgjkaaaGreat.Fw
open Go.RowKit
theorem jD {P:Program}{S D:TypeId}{n:Int}(hS:P.underlying S=some (.int .i64))(hD:P.underlying D=some (.int .u64))(h0:0≤n)(h1:n≤9223372036854775807)(w:World):(convert S D (.int .i64 n):Sem Value).run P w=.ok (.int .u64 n) w:=by
  have e:IntKind.u64.wrap n=n:=by simp[IntKind.wrap,IntKind.bits,IntKind.signed];omega
  simp[convert,run_underlying hS,run_underlying hD,Conv.intToInt,e]
theorem jE {P:Program}{S D:TypeId}{n:Int}(hS:P.underlying S=some (.int .u64))(hD:P.underlying D=some (.int .i64))(h0:0≤n)(h1:n≤9223372036854775807)(w:World):(convert S D (.int .u64 n):Sem Value).run P w=.ok (.int .i64 n) w:=by
  have e:IntKind.i64.wrap n=n:=eR ⟨by omega,h1⟩
  simp[convert,run_underlying hS,run_underlying hD,Conv.intToInt,e]
theorem qo {P:Program}{T:TypeId}{X Y:Operand}{a:Int}{kk:IntKind}(w:World):(do eqGuard .shr T X Y (.int .u64 a) (.int kk 1);binOp .shr T (.int .u64 a) (.int kk 1):Sem Value).run P w=.ok (.int .u64 (a / 2)) w:=by
  have h:=shift_shr .u64 kk a 1 (by omega) (by decide)
  simp[eqGuard,binOp,h]
theorem yY {P:Program}{T:TypeId}{X Y:Operand}{a b:Int}(w:World):(do eqGuard .sub T X Y (.int .i64 a) (.int .i64 b);binOp .sub T (.int .i64 a) (.int .i64 b):Sem Value).run P w=.ok (.int .i64 (IntKind.i64.wrap (a - b))) w:=by
  simp[eqGuard,binOp,Op.intArith]
end Go.Proofs.YtbjakddkfgjkaaaGreat.Fw
namespace Go.Proofs.YtbjakddkfgjkaaaGreat.Fw
open Go.RowKit
structure Fl (α:Type) where
  v:α
  deriving Inhabited
instance {α:Type} [aR α]:aR (Fl α) where
  size:=aR.size α
  bytes:=aR.bytes α
  pos:=aR.pos
  cells x:=aR.cells x.v
  len x:=aR.len x.v
  one x:=aR.one x.v
  sub _ _ _:=True
  stay _ _:=trivial
  wide _ _:=trivial
  ok _:=True
  bL _:=trivial
  small _:=True
abbrev vH {α:Type}(L:List α):List (Fl α):=L.map Fl.mk
theorem wv {α:Type}[aR α]: ∀(L:List α),(vH L).flatMap aR.cells=L.flatMap aR.cells
  |[]=>rfl
  |x::r=>by
    have ih:=wv r
    simp only[vH,List.map_cons,List.flatMap_cons] at ih⊢
    rw[ih]
    rfl
theorem l8 {α:Type}[aR α](e:Nat)(A:Option Addr)(c:Nat)(L:List α):ay e A c (vH L)=ay e A c L:=by
  unfold ay
  rw[wv,List.length_map]
  rfl
theorem Sl.rd.fl {α:Type}[aR α]{B:Nat→Prop}{w:World}{s:Sl α}(h:s.rd B w):Sl.rd B w (⟨s.A,s.c,vH s.xs⟩:Sl (Fl α)):=by
  refine⟨by simpa[Sl.n] using h.1,h.2.1,fun i x hx=>?_⟩
  simp only[vH,List.getElem?_map] at hx
  cases hy:s.xs[i]? with
  |none=>rw [hy] at hx;cases hx
  |some y=>
    rw[hy] at hx
    simp only[Option.map_some,Option.some.injEq] at hx
    subst hx
    exact⟨(h.2.2 i y hy).1,trivial⟩
theorem tX {α:Type}(p:α→Bool)(L:List α):(vH L).filter (fun x=>p x.v)=vH (L.filter p):=by
  simp only[vH,List.filter_map]
  rfl
theorem tm {α:Type}[Inhabited α](p:α→Bool)(L:List α):aQ (fun x:Fl α=>p x.v) (vH L)=aQ p L:=by
  unfold aQ
  have h:(vH L).findIdx (fun x:Fl α=>p x.v)=L.findIdx p:=by
    simp only[vH]
    rw[List.findIdx_map]
    rfl
  rw[h,List.length_map]
theorem mB {α:Type}[aR α]{e:Nat}{A:Option Addr}{c:Nat}{L:List α}{w:World}(h:(ay e A c L).p w):(A=none∧L=[]∧c=0)∨ ∃g zs,A=some ⟨g,0,none⟩∧(jY e (aR.size α) g c (L.flatMap aR.cells++zs)).p w∧L.length≤c:=by
  obtain⟨_,h2⟩:=CE h
  rcases h2 with ⟨h3,h4,h5⟩|h2
  · exact .inl ⟨h3,List.eq_nil_of_length_eq_zero h4,h5⟩
  · exact .inr h2
theorem mC {α:Type}[aR α]{e g c:Nat}{cur:List Value}{w:World}(h:(jY e (aR.size α) g c cur).p w)(M:List α)(hM:cur.take (M.length*aR.size α)=M.flatMap aR.cells)(hn:M.length≤c):(ay e (some ⟨g,0,none⟩) c M).p w:=by
  have:=CF h M.length hn
  rw[hM] at this
  exact this
theorem jn {α:Type}[aR α]: ∀(L:List α) (k:Nat),(L.flatMap aR.cells).take (k*aR.size α)=(L.take k).flatMap aR.cells
  |[],k=>by simp
  |x::r,0=>by simp
  |x::r,k+1=>by
    have ih:=jn r k
    have hx:=aR.len x
    simp only[List.flatMap_cons,List.take_succ_cons]
    rw[←ih,Nat.succ_mul,List.take_append,List.take_of_length_le (by omega),hx]
    congr 2
    omega
theorem mD {α:Type}[aR α]: ∀(L:List α) (k:Nat),(L.flatMap aR.cells).drop (k*aR.size α)=(L.drop k).flatMap aR.cells
  |[],k=>by simp
  |x::r,0=>by simp
  |x::r,k+1=>by
    have ih:=mD r k
    have hx:=aR.len x
    simp only[List.flatMap_cons,List.drop_succ_cons]
    rw[←ih,Nat.succ_mul,List.drop_append,List.drop_eq_nil_of_le (by omega),hx]
    simp only[List.nil_append]
    congr 1
    omega
theorem AY {α:Type}(l:List α)(o k:Nat)(vs:List α)(hk:k≤o)(ho:o≤l.length):(setAt l o vs).take k=l.take k:=by
  unfold setAt
  rw[List.append_assoc,List.take_append_of_le_length (by rw[List.length_take];omega),List.take_take,Nat.min_eq_left hk]
theorem nZ {α:Type}(l:List α)(o:Nat)(vs:List α)(ho:o≤l.length):(setAt l o vs).take (o+vs.length)=l.take o++vs:=by
  unfold setAt
  rw[List.take_append_of_le_length (by simp only[List.length_append,List.length_take];omega),List.take_of_length_le (by simp only[List.length_append,List.length_take];omega)]
def gA (A:Option Addr)(c o size:Nat):Option Addr:=if c=o then A else A.map (·.add (o*size))
theorem tY {z:Array Value}{n:Nat}(h:z.toList.all Value.oneCell'=true): ∀v,v∈(Builtin.zeroCells z n).toList→v.oneCell'=true:=by
  intro v hv
  simp only[Builtin.zeroCells,Array.toList_map,List.mem_map] at hv
  obtain⟨i,hi,rfl⟩:=hv
  have AZ:i<n*z.size:=by simpa using hi
  have hz:0<z.size:=by
    rcases Nat.eq_zero_or_pos z.size with h0|h0
    · rw[h0] at AZ;simp at AZ
    · exact h0
  have hm:i % z.size<z.size:=Nat.mod_lt _ hz
  rw[getElem!_pos z _ hm]
  exact List.all_eq_true.1 h _ (Array.getElem_mem_toList hm)
def Fi (P:Program)(e size:Nat):Bool:=
  match P.info? e with
  |some i=>match i.zero with
    |some z=>Nat.beq z.cells.size size && z.cells.toList.all Value.oneCell'
    |none=>false
  |none=>false
theorem Dx {α:Type}[aR α]{P:Program}{t ty e:TypeId}(ht:P.underlying t=some (.slice e))(hz:Fi P e (aR.size α)=true){A:Option Addr}{c:Nat}{L:List α}{w:World}(h:(ay e A c L).p w)(o q:Nat)(ho:o≤L.length)(hq:o+q≤c):
    ∃w',(Builtin.clear_ #[t] ty #[.slice (gA A c o (aR.size α)) q (c - o)]).run P w=.ok (.tuple #[]) w'∧Kp (ay e A c L).fp w w'∧(ay e A c (L.take o)).p w':=by
  unfold Fi at hz
  split at hz
  · rename_i i hi
    split at hz
    · rename_i z Oh
      simp only[Bool.and_eq_true] at hz
      have RN:z.cells.size=aR.size α:=Nat.eq_of_beq_eq_true hz.1
      have Ld:(zeroValue e).run P w=.ok z w:=by simp[zeroValue,typeInfo,hi,Oh]
      rcases mB h with ⟨rfl,rfl,rfl⟩|⟨g,zs,rfl,hr,hn⟩
      · have:q=0:=by omega
        subst this
        have h1:gA none 0 o (aR.size α)=none:=by unfold gA;split<;>rfl
        refine⟨w,?_,Kp.refl _ _,by simpa using h⟩
        rw[h1]
        simp[Builtin.clear_,run_underlying ht]
      · have hlen:(L.flatMap aR.cells).length=L.length*aR.size α:=dO L
        have Nv: ∀cur:List Value,cur.take (o*aR.size α)=(L.flatMap aR.cells++zs).take (o*aR.size α)→cur.take ((L.take o).length*aR.size α)=(L.take o).flatMap aR.cells:=by
          intro cur hc
          have e1:(L.take o).length=o:=by rw[List.length_take];omega
          rw[e1,hc,List.take_append_of_le_length (by rw[hlen];exact Nat.mul_le_mul_right _ ho),jn]
        rcases Nat.eq_zero_or_pos q with Nw|Nw
        · subst Nw
          refine⟨w,?_,Kp.refl _ _,mC hr _ (Nv _ rfl) (by rw[List.length_take];omega)⟩
          unfold gA
          split<;>simp [Builtin.clear_,run_underlying ht]
        · have h1:gA (some ⟨g,0,none⟩) c o (aR.size α)=some ⟨g,o*aR.size α,none⟩:=by
            unfold gA
            rw[if_neg (by omega)]
            simp[cz]
          have lY:(Builtin.zeroCells z.cells q).toList.length=q*aR.size α:=by rw[Array.length_toList,size_zeroCells,RN]
          have Le:=hr.2.1
          have hmul:(o+q)*aR.size α≤c*aR.size α:=Nat.mul_le_mul_right _ hq
          rw[Nat.add_mul] at hmul
          obtain⟨w',h3,h4,h5⟩:=oI (P:=P) hr (o*aR.size α) (Builtin.zeroCells z.cells q).toList (tY hz.2) (by rw[lY,Le];exact hmul)
          refine⟨w',?_,h4,mC h5 _ (Nv _ (AY _ _ _ _ (Nat.le_refl _) (by rw[Le];omega))) (by rw[List.length_take];omega)⟩
          rw[h1]
          obtain⟨q',rfl⟩: ∃q',q=q'+1:=⟨q - 1,by omega⟩
          simp only[Builtin.clear_]
          simp[run_underlying ht,Ld,h3]
    · cases hz
  · cases hz
theorem Ba {α:Type}[aR α]{P:Program}{t ty e:TypeId}{bytes:Nat}(ht:P.underlying t=some (.slice e))(hi:kX P e (aR.size α) bytes=true){A:Option Addr}{c:Nat}{L:List α}{w:World}(h:(ay e A c L).p w)(i j:Nat)(jf:i≤j)(hj:j≤L.length):
    ∃w',(Builtin.append_ #[t,t] ty #[.slice A i c,.slice (gA A c j (aR.size α)) (L.length - j) (c - j)]).run P w=.ok (.slice A (i+(L.length - j)) c) w'∧Kp (ay e A c L).fp w w'∧(ay e A c (L.take i++L.drop j)).p w':=by
  have Hz:(P.info? e).isSome=true∧P.cellsOf e=aR.size α:=by
    unfold kX at hi
    split at hi
    · rename_i i' AZ
      simp only[Bool.and_eq_true] at hi
      exact⟨by simp[AZ],by simp[Program.cellsOf,AZ,Nat.eq_of_beq_eq_true hi.1.1]⟩
    · cases hi
  rcases mB h with ⟨rfl,rfl,rfl⟩|⟨g,zs,rfl,hr,hn⟩
  · have h1:i=0:=by simp at hj;omega
    have h2:j=0:=by simpa using hj
    subst h1 h2
    have:=nV (P:=P) (w:=w) t ty e none 0 0 0 ht Hz.1 (Nat.le_refl _)
    exact⟨w,by simpa[gA] using this,Kp.refl _ _,by simpa using h⟩
  · have hlen:(L.flatMap aR.cells).length=L.length*aR.size α:=dO L
    rcases Nat.eq_or_lt_of_le hj with Kv|Kv
    · subst Kv
      have Nv:(ay e (some ⟨g,0,none⟩) c (L.take i)).p w:=mC hr _ (by
        have e1:(L.take i).length=i:=by rw[List.length_take];omega
        rw[e1,List.take_append_of_le_length (by rw[hlen];exact Nat.mul_le_mul_right _ jf),jn]) (by rw[List.length_take];omega)
      refine⟨w,?_,Kp.refl _ _,by rw[List.drop_length,List.append_nil];exact Nv⟩
      have hz: ∃a2,gA (some ⟨g,0,none⟩) c L.length (aR.size α)=some a2:=by unfold gA;split<;>simp
      obtain⟨a2,iO⟩:=hz
      have RO:i≤c:=by omega
      rw[iO,Nat.sub_self,Nat.add_zero]
      obtain⟨ii,hii⟩:=Option.isSome_iff_exists.1 Hz.1
      simp[Builtin.append_,run_underlying ht,sizeOf,typeInfo,hii,Builtin.lenOf,Builtin.firstCells,RO,loadCells,loadCellsFrom,storeCells]
    · have h1:gA (some ⟨g,0,none⟩) c j (aR.size α)=some ⟨g,j*aR.size α,none⟩:=by
        unfold gA
        rw[if_neg (by omega)]
        simp[cz]
      have Le:=hr.2.1
      have nE:bq w ⟨g,j*aR.size α,none⟩ ((L.drop j).flatMap aR.cells):=by
        intro k v hk
        have e1:(⟨g,j*aR.size α,none⟩:Addr).add k=⟨g,j*aR.size α+k,none⟩:=by unfold Addr.add;split<;>simp_all
        rw[e1]
        simp only[World.cell?,hr.1]
        have G3:(L.flatMap aR.cells++zs)[j*aR.size α+k]? =some v:=by
          rw[←mD,List.getElem?_drop] at hk
          rw[List.getElem?_append_left (List.getElem?_eq_some_iff.1 hk).1]
          exact hk
        simpa using G3
      have Oi:((L.drop j).flatMap aR.cells).length=(L.length - j)*aR.size α:=by rw[dO,List.length_drop]
      have ID:i+(L.length - j)≤c:=by omega
      have hmul:(i+(L.length - j))*aR.size α≤c*aR.size α:=Nat.mul_le_mul_right _ ID
      rw[Nat.add_mul] at hmul
      obtain⟨w',h3,h4,h5⟩:=oI (P:=P) hr (i*aR.size α) ((L.drop j).flatMap aR.cells) (fun v hv=>List.all_eq_true.1 (ed (L.drop j)) v hv) (by rw[Oi,Le];exact hmul)
      refine⟨w',?_,h4,mC h5 _ ?_ (by simp only[List.length_append,List.length_take,List.length_drop];omega)⟩
      · have IE:(loadCells ⟨g,j*aR.size α,none⟩ ((L.length - j)*aR.size α)).run P w=.ok ((L.drop j).flatMap aR.cells).toArray w:=by
          have:=fz P w ⟨g,j*aR.size α,none⟩ _ 0 #[] ((L.drop j).flatMap aR.cells) Oi (fun k v hk=>by simpa using nE k v hk)
          simpa[loadCells] using this
        have lY:(sizeOf e).run P w=.ok (aR.size α) w:=by rw[cF P e w Hz.1,Hz.2]
        rw[h1]
        simp only[Builtin.append_]
        simp[run_underlying ht,lY,Builtin.lenOf,Builtin.firstCells,ID,IE,cz,h3]
      · have e1:(L.take i++L.drop j).length*aR.size α=i*aR.size α+((L.drop j).flatMap aR.cells).length:=by
          rw[Oi,List.length_append,List.length_take,List.length_drop,Nat.min_eq_left (by omega),Nat.add_mul]
        rw[e1,nZ _ _ _ (by rw[Le];omega),List.flatMap_append,List.take_append_of_le_length (by rw[hlen];exact Nat.mul_le_mul_right _ (by omega)),jn]
end Go.Proofs.YtbjakddkfgjkaaaGreat.Fw
namespace Go.Proofs.YtbjakddkfgjkaaaGreat.Fw
open Go.RowKit
theorem WS.Fj {m:List Nat}{w0:World}{bs:List Nat}{loc:List fq}{r:bz}{R:List bz}{w w':World}(h:WS m w0 bs loc (r::R) w)(hk:Kp r.fp w w'){i:Nat}{b:fq}(hb:loc[i]? =some b)(lr:b.cs≠[]):w'.heap[bs.getD i 0]? =some (.cells (b.cs.map (den bs)).toArray b.ty (0,0)):=by
  have tH:=h.lF hb
  rw[hk.block _ (h.lo _ (List.mem_append_left _ tH)).2 fun hm=>(List.nodup_append.1 h.nd).2.2 _ tH _ (List.mem_flatMap.2 ⟨r,.head _,hm⟩) rfl]
  exact h.loc i b hb lr
theorem WS.IF {m:List Nat}{w0:World}{bs:List Nat}{loc:List fq}{r:bz}{R:List bz}{w w':World}(h:WS m w0 bs loc (r::R) w)(hk:Kp r.fp w w'){r2:bz}(h2:r2∈R):r2.p w':=by
  have Ht:=h.nd
  rw[List.flatMap_cons] at Ht
  have hn2:=(List.nodup_append.1 (List.nodup_append.1 Ht).2.1).2.2
  refine r2.st (fun b hb=>hk.block b ?_ fun hm=>hn2 b hm b (List.mem_flatMap.2 ⟨r2,h2,hb⟩) rfl) (h.res r2 (.tail _ h2))
  exact (h.lo b (List.mem_append_right _ (List.mem_flatMap.2 ⟨r2,.tail _ h2,hb⟩))).2
end Go.Proofs.YtbjakddkfgjkaaaGreat.Fw
namespace Go.Proofs.YtbjakddkfgjkaaaGreat.Fw
open Go.RowKit
end Go.Proofs.YtbjakddkfgjkaaaGreat.Fw
namespace Go.Proofs.YtbjakddkfgjkaaaGreat.Fw
open Go.RowKit
def bh (b ty:Nat)(vs:List Value):bz:=⟨[b],fun w=>w.heap[b]? =some (.cells vs.toArray ty (0,0)),fun h p=>by rw[h b (by simp)];exact p⟩
theorem l9 {b ty:Nat}{vs:List Value}{w:World}(h:(bh b ty vs).p w):bq w ⟨b,0,none⟩ vs:=fun j v hj=>by
  have h':w.heap[b]? =some (.cells vs.toArray ty (0,0)):=h
  rw[cz]
  simp only[World.cell?,h']
  simpa using hj
theorem qp {b ty:Nat}{vs:List Value}{w:World}(h:(bh b ty vs).p w)(off n:Nat){us:List Value}(hv:(vs.drop off).take n=us):bq w ((⟨b,0,none⟩:Addr).add off) us:=by
  subst hv
  exact (l9 h).part off n
theorem gm {b ty:Nat}{vs:List Value}{w:World}(h:(bh b ty vs).p w): ∀x,x∈(bh b ty vs).fp→x<w.heap.size:=fun x hx=>by
  have IG:x=b:=by simpa[bh] using hx
  subst IG
  have h':w.heap[x]? =some (.cells vs.toArray ty (0,0)):=h
  rcases Nat.lt_or_ge x w.heap.size with h1|h1
  · exact h1
  · rw[Array.getElem?_eq_none h1] at h';cases h'
end Go.Proofs.YtbjakddkfgjkaaaGreat.Fw
namespace Go.Proofs.YtbjakddkfgjkaaaGreat.Fw
open Go.RowKit
theorem Bb {P:Program}{b ty:Nat}{vs:List Value}{w:World}(h:(bh b ty vs).p w)(off:Nat)(us:List Value)(h1: ∀v,v∈us→v.oneCell'=true)(AW:off+us.length≤vs.length):
    ∃w',(storeCells ⟨b,off,none⟩ us).run P w=.ok () w'∧Kp [b] w w'∧(bh b ty (setAt vs off us)).p w':=by
  obtain⟨w',h2,h3,h4,_⟩:=km P b ty us 0 off w vs h1 h (by simpa using AW)
  exact⟨w',h2,h4,h3⟩
end Go.Proofs.YtbjakddkfgjkaaaGreat.Fw
namespace Go.Proofs.YtbjakddkfgjkaaaGreat.Fw
theorem yZ {b ty:Nat}{vs:List Value}{w:World}(h:(bh b ty vs).p w)(n:Nat){us:List Value}(hv:vs.take n=us):bq w ⟨b,0,none⟩ us:=by
  have:=(l9 h).part 0 n
  rw[List.drop_zero,hv,add_zero] at this
  exact this
end Go.Proofs.YtbjakddkfgjkaaaGreat.Fw
namespace Go.Proofs.YtbjakddkfgjkaaaGreat.Fw
open Go.RowKit
end Go.Proofs.YtbjakddkfgjkaaaGreat.Fw
namespace Go.Proofs.YtbjakddkfgjkaaaGreat.Fw
open Go.RowKit
theorem wx {α:Type}[aR α]{C:Cx}{R':List bz}{s:SS}{d:Option Nat}{ty:Nat}{pos:String}{AV:Array Edge}{g:Option (Nat×Bool)}{X1 X2:Operand}{t:Nat}(e bytes:Nat)
    (A:Option Addr) (c:Nat) (L:List α) (x2:SV) (L2:List α) (ht:C.P.underlying t=some (.slice e)) (hi:kX C.P e (aR.size α) bytes=true)
    (h1:ev s X1=some (.v (.slice A L.length c))) (h2:ev s X2=some x2) (nE: ∀bs w,WS C.m C.w0 bs s.loc (ay e A c L::R') w→ ∃A2 c2,den bs x2=.slice A2 L2.length c2∧fx w A2 L2.length (L2.flatMap aR.cells))
    (h63:L.length+L2.length≤9223372036854775807) (hb:(L.length+L2.length)*bytes≤140737488355328):
    g5 C ⟨d,.call ⟨.builtin .append, #[X1,X2], #[t,t]⟩,ty,pos,AV,g⟩ (ay e A c L::R') s (σ:=Option Addr×Nat) (fun y=>.v (.slice y.1 (L++L2).length y.2)) (fun _=>s.loc) (fun y=>ay e y.1 y.2 (L++L2)::R'):=by
  refine lx (σ:=Option Addr×Nat) [.v (.slice A L.length c),x2] _ _ _ (by simp[Cu,h1,h2]) fun bs w cs hS=>?_
  obtain⟨A2,c2,hx,hc⟩:=nE bs w hS
  have e1:([SV.v (.slice A L.length c),x2].map (den bs))=[Value.slice A L.length c,.slice A2 L2.length c2]:=by rw[List.map_cons,List.map_cons,hx];rfl
  rw[e1]
  simp only[builtin,Sem.run_bind]
  cases A2 with
  |some a=>
    obtain⟨A',c',w',h3,h4⟩:=tT t ty e (aR.size α) bytes A L.length c (L.flatMap aR.cells) hS ht hi aR.pos a L2.length c2 (L2.flatMap aR.cells) (dO L2) hc (ed L2) (by unfold maxLen;omega) hb
    rw[←List.flatMap_append, ←List.length_append] at h4
    refine⟨(A',c'),w',?_,h4⟩
    rw[h3,List.length_append]
    rfl
  |none=>
    have hk:L2.length=0:=hc
    have hv:L2=[]:=List.eq_nil_of_length_eq_zero hk
    subst hv
    have Oe:L.length≤c:=(nW (hS.res _ (.head _))).1
    refine⟨(A,c),w,?_,?_⟩
    · rw[show (([]:List α).length)=0 from rfl,nV t ty e A L.length c c2 ht (by
        unfold kX at hi
        split at hi
        · rename_i i h;simp[h]
        · cases hi) Oe]
      simp[den]
    · rw[List.append_nil];exact hS
end Go.Proofs.YtbjakddkfgjkaaaGreat.Fw
namespace Go.Proofs.YtbjakddkfgjkaaaGreat.Fw
open Go.RowKit
theorem oJ {b ty:Nat}{vs:List Value}{w0 w:World}(h:(bh b ty vs).p w0)(k:Kp [] w0 w):(bh b ty vs).p w:=(bh b ty vs).st (fun x hx=>k.block x (gm h x hx) (by simp)) h
theorem bq.kp {w0 w:World}{a:Addr}{vs:List Value}(h:bq w0 a vs)(k:Kp [] w0 w):bq w a vs:=h.same fun dX=>k.block _ dX (by simp)
theorem bq.take {w:World}{a:Addr}{vs:List Value}(h:bq w a vs)(n:Nat):bq w a (vs.take n):=fun j v hj=>by
  rw[List.getElem?_take] at hj
  split at hj
  · exact h j v hj
  · cases hj
theorem Sl.rd.HA {α:Type}[aR α]{B:Nat→Prop}{w:World}{s:Sl α}(h:s.rd B w){i:Nat}(hi:i≤s.n):fx w s.A i ((s.xs.take i).flatMap aR.cells):=by
  have h1:=h.src
  cases hA:s.A with
  |none=>
    rw[hA] at h1
    have h2:s.n=0:=h1
    show i=0
    omega
  |some a=>
    rw[hA] at h1
    have h2:bq w a (s.xs.flatMap aR.cells):=h1
    show bq w a _
    rw[←jn]
    exact h2.take _
theorem Sl.rd.oK {α:Type}[aR α]{B:Nat→Prop}{w:World}{s:Sl α}(h:s.rd B w){j:Nat}(hj:j≤s.n):fx w (gA s.A s.c j (aR.size α)) (s.n - j) ((s.xs.drop j).flatMap aR.cells):=by
  have h1:=h.src
  cases hA:s.A with
  |none=>
    rw[hA] at h1
    have h2:s.n=0:=h1
    have:gA none s.c j (aR.size α)=none:=by unfold gA;split<;>rfl
    rw[this]
    show s.n - j=0
    omega
  |some a=>
    rw[hA] at h1
    have h2:bq w a (s.xs.flatMap aR.cells):=h1
    unfold gA
    split
    · have h3:s.n≤s.c:=h.1
      have h4:(s.xs.drop j)=[]:=List.drop_eq_nil_of_le (by show s.xs.length≤j;have:s.n=s.xs.length:=rfl;omega)
      show bq w a _
      rw[h4]
      intro k v hk
      simp at hk
    · show bq w (a.add (j*aR.size α)) _
      rw[←mD]
      have:=h2.part (j*aR.size α) (s.xs.flatMap aR.cells).length
      rwa [List.take_of_length_le (by rw[List.length_drop];omega)] at this
end Go.Proofs.YtbjakddkfgjkaaaGreat.Fw
namespace Go.Proofs.YtbjakddkfgjkaaaGreat.Fw
open Go.RowKit
theorem bQ {α:Type}[Inhabited α]{L:List α}{i:Nat}{x:α}(hi:i<L.length):(L.set i x).getD i default=x:=by
  rw[List.getD_eq_getElem?_getD,List.getElem?_set_self hi];rfl
theorem getD_set_ne {α:Type}[Inhabited α]{L:List α}{i j:Nat}{x:α}(h: ¬i=j):(L.set i x).getD j default=L.getD j default:=by
  rw[List.getD_eq_getElem?_getD,List.getD_eq_getElem?_getD,List.getElem?_set_ne h]
theorem fW {α:Type}[Inhabited α]{L:List α}{i:Nat}(hi:i<L.length):L.set i (L.getD i default)=L:=by
  apply List.ext_getElem?
  intro j
  by_cases h:i=j
  · subst h;rw[List.getElem?_set_self hi,getD_some hi]
  · rw[List.getElem?_set_ne h]
end Go.Proofs.YtbjakddkfgjkaaaGreat.Fw
namespace Go.Proofs.YtbjakddkfgjkaaaGreat.Fw
open Go.RowKit
theorem fx.kp {w0 w:World}{A:Option Addr}{n:Nat}{vs:List Value}(h:fx w0 A n vs)(k:Kp [] w0 w):fx w A n vs:=by
  cases A with
  |none=>exact h
  |some a=>exact bq.kp h k
theorem fx.tZ {α:Type}[aR α]{w:World}{A:Option Addr}{n m:Nat}{L:List α}(h:fx w A n (L.flatMap aR.cells))(hm:m≤n):fx w A m ((L.take m).flatMap aR.cells):=by
  cases A with
  |none=>
    have h1:n=0:=h
    show m=0
    omega
  |some a=>
    have h1:bq w a (L.flatMap aR.cells):=h
    show bq w a _
    rw[←jn]
    exact h1.take _
theorem jo {α:Type}[aR α]{e:Nat}{A:Option Addr}{c:Nat}{L:List α}{w:World}(h:(ay e A c L).p w)(m:Nat)(hm:m≤L.length):(ay e A c (L.take m)).p w:=by
  rcases mB h with ⟨rfl,rfl,rfl⟩|⟨g,zs,rfl,hr,hn⟩
  · simpa using h
  · refine mC hr _ ?_ (by rw[List.length_take];omega)
    rw[List.length_take,Nat.min_eq_left hm,List.take_append_of_le_length (by rw[dO];exact Nat.mul_le_mul_right _ hm),jn]
end Go.Proofs.YtbjakddkfgjkaaaGreat.Fw
namespace Go.Proofs.YtbjakddkfgjkaaaGreat.Fw
open Go.RowKit
end Go.Proofs.YtbjakddkfgjkaaaGreat.Fw
namespace Go.Proofs.YtbjakddkfgjkaaaGreat.Fw
open Go.RowKit
theorem mE {α:Type}[aR α]{e:Nat}{A:Option Addr}{c:Nat}{L:List α}{w:World}(h:(ay e A c L).p w):fx w A L.length (L.flatMap aR.cells):=by
  rcases mB h with ⟨rfl,rfl,rfl⟩|⟨g,zs,rfl,hr,hn⟩
  · exact rfl
  · intro j v hj
    rw[cz]
    simp only[World.cell?,hr.1]
    have:(L.flatMap aR.cells++zs)[j]? =some v:=by rw[List.getElem?_append_left (List.getElem?_eq_some_iff.1 hj).1];exact hj
    simpa using this
end Go.Proofs.YtbjakddkfgjkaaaGreat.Fw
namespace Go.Proofs.YtbjakddkfgjkaaaGreat.Fw
open Go.RowKit
theorem Fm {P:Program}{e size g c:Nat}{cur:List Value}{w:World}(h:(jY e size g c cur).p w){t t2 ty:TypeId}(ht:P.underlying t=some (.slice e))(hi:(P.info? e).isSome=true)(hc:P.cellsOf e=size)(o n1 c1:Nat)(A2:Option Addr)(k c2:Nat)(vs:List Value)
    (nE:fx w A2 (Nat.min k n1) vs) (hl:vs.length=Nat.min k n1*size) (h1: ∀v,v∈vs→v.oneCell'=true) (AW:o+vs.length≤cur.length):
    ∃w',(Builtin.copy_ #[t,t2] ty #[.slice (some ⟨g,o,none⟩) n1 c1,.slice A2 k c2]).run P w=.ok (goInt (Nat.min k n1)) w'∧Kp [g] w w'∧(jY e size g c (setAt cur o vs)).p w':=by
  obtain⟨w',h3,h4,h5⟩:=oI (P:=P) h o vs h1 AW
  refine⟨w',?_,h4,h5⟩
  have lY:(sizeOf e).run P w=.ok size w:=by rw[cF P e w hi,hc]
  cases A2 with
  |none=>
    have hz:Nat.min k n1=0:=nE
    have hv:vs=[]:=List.eq_nil_of_length_eq_zero (by rw[hl,hz,Nat.zero_mul])
    subst hv
    rw[hz]
    simp only[Builtin.copy_]
    simp[run_underlying ht,lY,Builtin.lenOf,Builtin.firstCells,hz,h3]
  |some a=>
    have hcell:bq w a vs:=nE
    have IE:(loadCells a (Nat.min k n1*size)).run P w=.ok vs.toArray w:=by
      have:=fz P w a _ 0 #[] vs hl (fun j v hj=>by simpa using hcell j v hj)
      simpa[loadCells] using this
    simp only[Builtin.copy_]
    simp[run_underlying ht,lY,Builtin.lenOf,Builtin.firstCells,IE,h3]
theorem za {P:Program}{e size bytes:Nat}(hi:kX P e size bytes=true):(P.info? e).isSome=true∧P.cellsOf e=size:=by
  unfold kX at hi
  split at hi
  · rename_i i' AZ
    simp only[Bool.and_eq_true] at hi
    exact⟨by simp[AZ],by simp[Program.cellsOf,AZ,Nat.eq_of_beq_eq_true hi.1.1]⟩
  · cases hi
theorem zb {P:Program}{w:World}{A:Option Addr}{i c size:Nat}{vs:List Value}(h:fx w A i vs)(hl:vs.length=i*size):(Builtin.firstCells size i (.slice A i c)).run P w=.ok vs.toArray w:=by
  cases A with
  |none=>
    have hz:i=0:=h
    subst hz
    have hv:vs=[]:=List.eq_nil_of_length_eq_zero (by rw[hl,Nat.zero_mul])
    subst hv
    simp[Builtin.firstCells]
  |some a=>
    have hcell:bq w a vs:=h
    have IE:(loadCells a (i*size)).run P w=.ok vs.toArray w:=by
      have:=fz P w a _ 0 #[] vs hl (fun j v hj=>by simpa using hcell j v hj)
      simpa[loadCells] using this
    simp[Builtin.firstCells,IE]
theorem mX {b ty:Nat}{vs:List Value}{w:World}(h:(bh b ty vs).p w):w.shape? b=some (ty,vs.length):=by
  have h':w.heap[b]? =some (.cells vs.toArray ty (0,0)):=h
  simp[World.shape?,h']
theorem jq {b ty:Nat}{vs:List Value}{w:World}(h:(bh b ty vs).p w)(o:Nat):w.frozen? ⟨b,o,none⟩=false:=by
  have h':w.heap[b]? =some (.cells vs.toArray ty (0,0)):=h
  simp[World.frozen?,h']
theorem mY {e size g c:Nat}{cur:List Value}{w:World}(h:(jY e size g c cur).p w):w.shape? g=some (e,cur.length):=by
  simp[World.shape?,h.1]
theorem CG {e size g c:Nat}{cur:List Value}{w:World}(h:(jY e size g c cur).p w)(o:Nat):bq w ⟨g,o,none⟩ (cur.drop o):=fun j v hj=>by
  have e1:(⟨g,o,none⟩:Addr).add j=⟨g,o+j,none⟩:=by unfold Addr.add;split<;>simp_all
  rw[e1]
  rw[List.getElem?_drop] at hj
  simp[World.cell?,h.1,hj]
theorem k9 {α:Type}[aR α]{e:Nat}{A:Option Addr}{c:Nat}{L:List α}{w:World}(h:(ay e A c L).p w){j:Nat}(hj:j≤L.length):fx w (gA A c j (aR.size α)) (L.length - j) ((L.drop j).flatMap aR.cells):=by
  rcases mB h with ⟨rfl,rfl,rfl⟩|⟨g,zs,rfl,hr,hn⟩
  · have:gA none 0 j (aR.size α)=none:=by unfold gA;split<;>rfl
    rw[this]
    show ([]:List α).length - j=0
    simp
  · unfold gA
    split
    · have h3:L.drop j=[]:=List.drop_eq_nil_of_le (by omega)
      rw[h3]
      intro k v hk
      simp at hk
    · show bq w ((⟨g,0,none⟩:Addr).add (j*aR.size α)) _
      rw[cz]
      have h4:=(CG hr (j*aR.size α)).take (((L.drop j).flatMap aR.cells).length)
      rw[List.drop_append_of_le_length (by rw[dO];exact Nat.mul_le_mul_right _ hj),mD,List.take_left] at h4
      exact h4
theorem Dy {cur P X D:List Value}{o m:Nat}(hP:cur.take o=P)(ho:o≤cur.length)(hX:X.length=m)(hf:o+m+D.length≤cur.length):
    (setAt (setAt cur (o+m) D) o X).take (o+m+D.length)=P++X++D:=by
  have KX:(setAt cur (o+m) D).length=cur.length:=by unfold setAt;simp only[List.length_append,List.length_take,List.length_drop];omega
  have e1:(setAt cur (o+m) D).take o=P:=by
    unfold setAt
    rw[List.append_assoc,List.take_append_of_le_length (by rw[List.length_take];omega),List.take_take,Nat.min_eq_left (by omega),hP]
  have TB:P.length=o:=by rw[←hP,List.length_take];omega
  have e2:(setAt cur (o+m) D).drop (o+m)=D++cur.drop (o+m+D.length):=by
    unfold setAt
    rw[List.append_assoc,List.drop_append,List.drop_eq_nil_of_le (by rw[List.length_take];omega),List.length_take,Nat.min_eq_left (by omega),Nat.sub_self]
    simp
  have e3:setAt (setAt cur (o+m) D) o X=P++X++(D++cur.drop (o+m+D.length)):=by
    show (setAt cur (o+m) D).take o++X++(setAt cur (o+m) D).drop (o+X.length)=_
    rw[e1,hX,e2]
  rw[e3, ←List.append_assoc,List.take_append_of_le_length (by simp only[List.length_append];omega),List.take_of_length_le (by simp only[List.length_append];omega)]
theorem Bc {cur P X D:List Value}{o m:Nat}(hP:cur.take o=P)(ho:o≤cur.length)(hX:X.length=m)(hf:o+m+D.length≤cur.length):
    (setAt (setAt cur o X) (o+m) D).take (o+m+D.length)=P++X++D:=by
  have KX:(setAt cur o X).length=cur.length:=by unfold setAt;simp only[List.length_append,List.length_take,List.length_drop];omega
  rw[nZ _ _ _ (by rw[KX];omega)]
  congr 1
  rw[←hX,nZ _ _ _ ho,hP]
theorem jr {α:Type}{l:List α}{o:Nat}{vs:List α}(h:o+vs.length≤l.length):(setAt l o vs).length=l.length:=by unfold setAt;simp only[List.length_append,List.length_take,List.length_drop];omega
theorem ea {α:Type}[aR α](x:α):([x].flatMap aR.cells).length=aR.size α:=by simp[aR.len]
theorem iP {α:Type}[aR α](L:List α)(i:Nat):((L.drop i).flatMap aR.cells).length=(L.length - i)*aR.size α:=by rw[dO,List.length_drop]
theorem dj {α:Type}[aR α]{L:List α}{i c:Nat}(hi:i≤L.length)(hc:L.length+1≤c):i*aR.size α+aR.size α+((L.drop i).flatMap aR.cells).length≤c*aR.size α:=by
  rw[iP, ←Nat.succ_mul, ←Nat.add_mul]
  exact Nat.mul_le_mul_right _ (by omega)
theorem CH {α:Type}[aR α]{e g c:Nat}{cur:List Value}{w:World}(h:(jY e (aR.size α) g c cur).p w){L:List α}{i:Nat}{x:α}(hi:i≤L.length)
    (Oj:cur.take (i*aR.size α+aR.size α+((L.drop i).flatMap aR.cells).length)=(L.take i).flatMap aR.cells++[x].flatMap aR.cells++(L.drop i).flatMap aR.cells) (hc:L.length+1≤c):(ay e (some ⟨g,0,none⟩) c (L.take i++[x]++L.drop i)).p w:=by
  have hl:(L.take i++[x]++L.drop i).length=L.length+1:=by simp only[List.length_append,List.length_take,List.length_drop,List.length_cons,List.length_nil];omega
  refine mC h _ ?_ (by rw[hl];exact hc)
  have e1:(L.take i++[x]++L.drop i).length*aR.size α=i*aR.size α+aR.size α+((L.drop i).flatMap aR.cells).length:=by
    rw[hl,iP, ←Nat.succ_mul, ←Nat.add_mul]
    congr 1
    omega
  rw[e1,Oj]
  simp
theorem qq {α:Type}[aR α]{e g c:Nat}{zs:List Value}{w:World}{L:List α}{i:Nat}{x:α}(hi:i≤L.length)(hc:L.length+1≤c)(hl:((L.take i).flatMap aR.cells++zs).length=c*aR.size α)
    (h:(jY e (aR.size α) g c (setAt (setAt ((L.take i).flatMap aR.cells++zs) (i*aR.size α) ([x].flatMap aR.cells)) (i*aR.size α+aR.size α) ((L.drop i).flatMap aR.cells))).p w):(ay e (some ⟨g,0,none⟩) c (L.take i++[x]++L.drop i)).p w:=by
  refine CH h hi (Bc ?_ ?_ (ea x) (by rw[hl];exact dj hi hc)) hc
  · have h0:((L.take i).flatMap aR.cells).length=i*aR.size α:=by rw[dO,List.length_take,Nat.min_eq_left hi]
    rw[←h0,List.take_left]
  · rw[hl];exact Nat.mul_le_mul_right _ (by omega)
theorem qs {α:Type}[aR α]{e g c:Nat}{zs:List Value}{w:World}{L:List α}{i:Nat}{x:α}(hi:i≤L.length)(hc:L.length+1≤c)(hl:(L.flatMap aR.cells++zs).length=c*aR.size α)
    (h:(jY e (aR.size α) g c (setAt (setAt (L.flatMap aR.cells++zs) (i*aR.size α+aR.size α) ((L.drop i).flatMap aR.cells)) (i*aR.size α) ([x].flatMap aR.cells))).p w):(ay e (some ⟨g,0,none⟩) c (L.take i++[x]++L.drop i)).p w:=by
  refine CH h hi (Dy ?_ ?_ (ea x) (by rw[hl];exact dj hi hc)) hc
  · rw[List.take_append_of_le_length (by rw[dO];exact Nat.mul_le_mul_right _ hi),jn]
  · rw[hl];exact Nat.mul_le_mul_right _ (by omega)
theorem ma {α:Type}[aR α]{e g c:Nat}{zs:List Value}{w:World}{L:List α}{i:Nat}(hi:i≤L.length)(h:(jY e (aR.size α) g c (L.flatMap aR.cells++zs)).p w):fx w (some ⟨g,i*aR.size α,none⟩) (L.length - i) ((L.drop i).flatMap aR.cells):=by
  show bq w _ _
  have h4:=(CG h (i*aR.size α)).take (((L.drop i).flatMap aR.cells).length)
  rw[List.drop_append_of_le_length (by rw[dO];exact Nat.mul_le_mul_right _ hi),mD,List.take_left] at h4
  exact h4
theorem qt {b ty:Nat}{vs:List Value}{m:List Nat}{w w':World}(h:(bh b ty vs).p w)(k:Kp m w w')(hn:b∉m):(bh b ty vs).p w':=(bh b ty vs).st (fun x hx=>k.block x (gm h x hx) (by
  have h2:x=b:=by simpa[bh] using hx
  rw[h2]
  exact hn)) h
theorem oL {α:Type}[aR α]{b ty:Nat}{x:α}{w:World}(h:(bh b ty (aR.cells x)).p w):fx w (some ⟨b,0,none⟩) 1 ([x].flatMap aR.cells):=by
  show bq w ⟨b,0,none⟩ _
  have h9:=l9 h
  simpa using h9
theorem WS.tp {m:List Nat}{w0:World}{bs:List Nat}{loc:List fq}{R:List bz}{w:World}{r:bz}(h:WS m w0 bs loc (r::R) w){i:Nat}{b:fq}(hb:loc[i]? =some b):bs.getD i 0∉r.fp:=fun hm=>by
  have h1:=h.lF hb
  have h2:=(List.nodup_append.1 h.nd).2.2
  exact h2 _ h1 _ (by rw[List.flatMap_cons];exact List.mem_append_left _ hm) rfl
end Go.Proofs.YtbjakddkfgjkaaaGreat.Fw
namespace Go.Proofs.YtbjakddkfgjkaaaGreat.Fw
open Go.RowKit
theorem WS.Jd {m:List Nat}{w0:World}{bs:List Nat}{loc:List fq}{R:List bz}{w:World}{r1 r2:bz}(h:WS m w0 bs loc (r1::R) w)(h2:r2∈R): ∀b,b∈r2.fp→b∉r1.fp:=fun b hb gU=>by
  have h3:=(List.nodup_append.1 h.nd).2.1
  rw[List.flatMap_cons] at h3
  exact (List.nodup_append.1 h3).2.2 b gU b (List.mem_flatMap.2 ⟨r2,h2,hb⟩) rfl
end Go.Proofs.YtbjakddkfgjkaaaGreat.Fw
namespace Go.Proofs.YtbjakddkfgjkaaaGreat.Fw
open Go.RowKit
def jb (r0:bz)(w w':World)(r rn:bz):Prop:=dh r0 w w' r∧rn.p w'∧rn.fp.Nodup∧(∀b,b∈rn.fp→w.heap.size≤b∧b<w'.heap.size)∧ ∀b,b∈rn.fp→b∉r.fp
theorem WS.Lf {m:List Nat}{w0:World}{bs:List Nat}{loc:List fq}{R:List bz}{w w':World}{r0 r rn:bz}(hS:WS m w0 bs loc (r0::R) w)(h:jb r0 w w' r rn):WS m w0 bs loc (rn::r::R) w':=by
  obtain⟨h3,h4,h5,h6,h7⟩:=h
  have oH:=hS.turn h3.1 _ h3.2.1 h3.2.2.1 h3.2.2.2
  refine oH.new _ h4 h5 fun b hb=>⟨.inl (Nat.le_trans hS.kp.size (h6 b hb).1),(h6 b hb).2,fun hm=>?_⟩
  have h8:=(h6 b hb).1
  rcases List.mem_append.1 hm with hm|hm
  · have:=(hS.lo b (List.mem_append_left _ hm)).2;omega
  · rw[List.flatMap_cons] at hm
    rcases List.mem_append.1 hm with hm|hm
    · exact h7 b hb hm
    · have:=(hS.lo b (List.mem_append_right _ (by rw[List.flatMap_cons];exact List.mem_append_right _ hm))).2;omega
theorem WS.jc {w0:World}{bs:List Nat}{loc:List fq}{Rs:List bz}{w:World}{r0 r:bz}(h:WS r0.fp w0 bs loc (r::Rs) w)(hf: ∀b,b∈r0.fp→b∈r.fp):jb r0 w0 w r (cN Rs):=by
  have Ht:=(List.nodup_append.1 h.nd).2.1
  rw[List.flatMap_cons] at Ht
  refine⟨h.aW,fun q hq=>h.res q (.tail _ hq),(List.nodup_append.1 Ht).2.1,fun b hb=>?_,fun b hb hr=>(List.nodup_append.1 Ht).2.2 b hr b hb rfl⟩
  have h1:=h.lo b (List.mem_append_right _ (by rw[List.flatMap_cons];exact List.mem_append_right _ hb))
  refine⟨h1.1.resolve_right fun hm=>(List.nodup_append.1 Ht).2.2 b (hf b hm) b hb rfl,h1.2⟩
theorem jb.as {r0 r rn Ok:bz}{w w':World}(h:jb r0 w w' r rn)(hp:rn.p w'→Ok.p w')(hf:Ok.fp=rn.fp):jb r0 w w' r Ok:=by
  obtain⟨h1,h2,h3,h4,h5⟩:=h
  exact⟨h1,hp h2,by rw[hf];exact h3,fun b hb=>h4 b (by rw[←hf];exact hb),fun b hb=>h5 b (by rw[←hf];exact hb)⟩
theorem ua (r:bz)(w:World)(h:(cN [r]).p w):r.p w:=h _ (.head _)
theorem n0 (r:bz):r.fp=(cN [r]).fp:=by simp[cN]
end Go.Proofs.YtbjakddkfgjkaaaGreat.Fw
