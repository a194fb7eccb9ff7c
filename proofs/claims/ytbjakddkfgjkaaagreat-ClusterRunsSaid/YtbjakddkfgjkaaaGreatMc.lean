/-
  What the functions compute, as plain functions: locks, sessions, searches, clients, logs.
  Conditions: none beyond those that each theorem states.
-/
import Derived.Lib.Bytealg
import Derived.Test.YtbjakddkfgjkaaaGreatMb
import Derived.Test.YtbjakddkfgjkaaaGreatFd
set_option linter.unusedVariables false
set_option linter.unusedSimpArgs false
namespace Go.Proofs.YtbjakddkfgjkaaaGreat.Fw
open Go.RowKit
def bE (p:Nat→Bool):Nat→Bool
  |0=>true
  |k+1=>bE p k && p k
theorem cJ {p:Nat→Bool}{j:Nat}(h:p j=false): ∀{n:Nat},j<n→bE p n=false
  |0,hj=>absurd hj (Nat.not_lt_zero _)
  |n+1,hj=>by
    simp only[bE]
    rcases Nat.lt_succ_iff_lt_or_eq.1 hj with h1|h1
    · rw[cJ h h1];rfl
    · subst h1;rw[h];simp
def dy (d:aY)(j:Nat):Bool:=gk (d.line.getD j default) 1 9 && (!decide (d.line.getD j default=d.ar) && !((d.line.take j).any fun z=>decide (z=d.line.getD j default)))
def cp (d:aY):Bool:=bE (dy d) d.line.length && (decide (d.line.length≤3) && (!decide (d.ar=0)||decide (d.line.length=0)))
def b9 (l:List aY)(i:Nat):Int:=
  if ee (l.getD i default).name=false∨(l.getD i default).ar<0∨9<(l.getD i default).ar∨cp (l.getD i default)=false then 4 else
  if (l.getD i default).aA<1∨1073741824<(l.getD i default).aA then 2 else
  if 0<i∧Op.bytesLess (l.getD (i - 1) default).name.toList (l.getD i default).name.toList=false then 14 else 0
def bB (l:List aY):Int:=if 5<l.length then 1 else ek (b9 l) (l.length - 0) 0
theorem pH {s:Sl ae}(q:Nat):(s.xs.map ae.abs).getD q default=(s.at q).abs:=by
  unfold Sl.at
  rw[List.getD_eq_getElem?_getD,List.getD_eq_getElem?_getD,List.getElem?_map]
  cases s.xs[q]? <;>rfl
theorem any_none {s:Sl Int}{k:Nat}{n:Int}(hk:k≤s.n)(h: ∀j,j<k→ ¬s.at j=n):((s.xs.take k).any fun z=>decide (z=n))=false:=by
  rw[List.any_eq_false]
  intro z hz
  obtain⟨j,hj,rfl⟩:=List.getElem_of_mem hz
  have K9:j<k:=by rw[List.length_take] at hj;omega
  have Kw:j<s.n:=by omega
  have h1:=Sl.eA Kw
  rw[List.getElem_take]
  rw[List.getElem?_eq_getElem (show j<s.xs.length from Kw)] at h1
  injection h1 with h1
  rw[h1]
  simpa using h j K9
theorem Fp {s:Sl Int}{k j:Nat}{n:Int}(hk:k≤s.n)(hj:j<k)(h:s.at j=n):((s.xs.take k).any fun z=>decide (z=n))=true:=by
  rw[List.any_eq_true]
  have Kw:j<s.n:=by omega
  have h1:=Sl.eA Kw
  refine⟨s.at j,?_,by simpa using h⟩
  refine List.mem_iff_getElem?.2 ⟨j,?_⟩
  rw[List.getElem?_take,if_pos hj]
  exact h1
theorem xQ {α:Type}[Inhabited α]{s:Sl α}{k j:Nat}(hj:j<k):(⟨s.A,s.c,s.xs.take k⟩:Sl α).at j=s.at j:=by
  unfold Sl.at
  rw[List.getD_eq_getElem?_getD,List.getD_eq_getElem?_getD,List.getElem?_take,if_pos hj]
theorem Fq {α:Type}{s:Sl α}{k:Nat}(hk:k≤s.n):(⟨s.A,s.c,s.xs.take k⟩:Sl α).n=k:=by
  show (s.xs.take k).length=k
  rw[List.length_take]
  exact Nat.min_eq_left hk
theorem Bf {α:Type}[Inhabited α]{s:Sl α}{k:Nat}{p:α→Bool}(hk:k≤s.n)(h: ∀j,j<k→p (s.at j)=false):aQ p (s.xs.take k)= -1:=
  gp (s:=(⟨s.A,s.c,s.xs.take k⟩:Sl α)) fun j hj=>by
    rw[Fq hk] at hj
    rw[xQ hj]
    exact h j hj
theorem Bg {α:Type}[Inhabited α]{s:Sl α}{k i:Nat}{p:α→Bool}(hk:k≤s.n)(hi:i<k)(hp:p (s.at i)=true)(h: ∀j,j<i→p (s.at j)=false):aQ p (s.xs.take k)=(i:Int):=
  fR (s:=(⟨s.A,s.c,s.xs.take k⟩:Sl α)) (by rw[Fq hk];exact hi) (by rw[xQ hi];exact hp) fun j hj=>by
    rw[xQ (by omega)]
    exact h j hj
end Go.Proofs.YtbjakddkfgjkaaaGreat.Fw
namespace Go.Proofs.YtbjakddkfgjkaaaGreat.Fw
open Go.RowKit
theorem sC {f:Nat→Int}: ∀{n i:Nat},ek f n i=0→ ∀j,i≤j→j<i+n→f j=0
  |0,i,_,j,h1,h2=>by omega
  |n+1,i,h,j,h1,h2=>by
    simp only[ek] at h
    split at h
    · rename_i h0
      rcases Nat.eq_or_lt_of_le h1 with h3|h3
      · subst h3;exact h0
      · exact sC h j h3 (by omega)
    · rename_i h0
      exact absurd h h0
theorem kc {f:Nat→Int}{n:Nat}(h:ek f (n - 0) 0=0): ∀j,j<n→f j=0:=fun j hj=>sC h j (Nat.zero_le _) (by omega)
theorem di {p:Nat→Bool}: ∀{n:Nat},bE p n=true→ ∀j,j<n→p j=true
  |0,_,j,hj=>absurd hj (Nat.not_lt_zero _)
  |n+1,h,j,hj=>by
    simp only[bE,Bool.and_eq_true] at h
    rcases Nat.lt_succ_iff_lt_or_eq.1 hj with h1|h1
    · exact di h.1 j h1
    · subst h1;exact h.2
theorem lI {p:Nat→Bool}{n:Nat}(h:bE p n=true)(h2:p n=true):bE p (n+1)=true:=by
  simp only[bE,h,h2,Bool.and_self]
def mZ (d:az)(j:Nat):Bool:=
  decide (d.aC<(d.ab.getD j default).seq∧(d.ab.getD j default).seq≤d.aC+4∧(0<j→(d.ab.getD (j - 1) default).seq<(d.ab.getD j default).seq)∧
    0≤(d.ab.getD j default).aE.code∧(d.ab.getD j default).aE.code≤15∧0≤(d.ab.getD j default).aE.n∧(d.ab.getD j default).aE.n≤1073741824∧((d.ab.getD j default).aE.text.size:Int)≤12)
def a9 (d:az):Bool:=bE (mZ d) d.ab.length
def da (l:List az)(index:Int)(i:Nat):Int:=
  if (l.getD i default).ag<1∨9<(l.getD i default).ag∨(l.getD i default).aC<0∨1048576<(l.getD i default).aC∨(l.getD i default).id<1∨(l.getD i default).last<(l.getD i default).id∨index<(l.getD i default).last then 2 else
  if a9 (l.getD i default)=false then 4 else
  if 0<i∧(l.getD i default).ag≤(l.getD (i - 1) default).ag then 14 else 0
def bC (l:List az)(index:Int):Int:=
  if index<0∨1073741824<index then 2 else if 4<l.length then 1 else ek (da l index) (l.length - 0) 0
theorem lb {s:Sl aa}(q:Nat):(s.xs.map aa.abs).getD q default=(s.at q).abs:=by
  unfold Sl.at
  rw[List.getD_eq_getElem?_getD,List.getD_eq_getElem?_getD,List.getElem?_map]
  cases s.xs[q]? <;>rfl
theorem dm {l:List az}{index:Int}(h:bC l index=0):0≤index∧index≤1073741824∧l.length≤4∧ ∀j,j<l.length→da l index j=0:=by
  unfold bC at h
  split at h
  · cases h
  split at h
  · cases h
  exact⟨by omega,by omega,by omega,kc h⟩
theorem kA {l:List az}{index:Int}{j:Nat}(h:da l index j=0):1≤(l.getD j default).ag∧(l.getD j default).ag≤9∧0≤(l.getD j default).aC∧(l.getD j default).aC≤1048576∧1≤(l.getD j default).id∧(l.getD j default).id≤(l.getD j default).last∧(l.getD j default).last≤index∧a9 (l.getD j default)=true∧(0<j→(l.getD (j - 1) default).ag<(l.getD j default).ag):=by
  unfold da at h
  split at h
  · cases h
  split at h
  · cases h
  rename_i h2
  split at h
  · cases h
  have Om:a9 (l.getD j default)=true:=by simpa using h2
  exact⟨by omega,by omega,by omega,by omega,by omega,by omega,by omega,Om,by omega⟩
end Go.Proofs.YtbjakddkfgjkaaaGreat.Fw
namespace Go.Proofs.YtbjakddkfgjkaaaGreat.Fw
theorem cg {d:aY}(h:bE (dy d) d.line.length=false∨3<d.line.length∨(d.ar=0∧0<d.line.length)):cp d=false:=by
  unfold cp
  rcases h with h|h|⟨h1,h2⟩
  · rw[h];rfl
  · rw[decide_eq_false (show ¬d.line.length≤3 by omega)];simp
  · rw[decide_eq_true h1,decide_eq_false (show ¬d.line.length=0 by omega)];simp
theorem gG {d:aY}(h:bE (dy d) d.line.length=true)(h2:d.line.length≤3)(h3: ¬d.ar=0∨d.line.length=0):cp d=true:=by
  unfold cp
  rw[h,decide_eq_true h2]
  rcases h3 with h3|h3
  · rw[decide_eq_false h3];simp
  · rw[decide_eq_true h3];simp
end Go.Proofs.YtbjakddkfgjkaaaGreat.Fw
namespace Go.Proofs.YtbjakddkfgjkaaaGreat.Fw
open Go.RowKit
def lZ (p:Nat→Bool):Nat→Nat→Nat→Nat
  |0,lo,_=>lo
  |f+1,lo,hi=>if lo<hi then (if p ((lo+hi) / 2) then lZ p f ((lo+hi) / 2+1) hi else lZ p f lo ((lo+hi) / 2)) else lo
theorem xR (p:Nat→Bool): ∀(f lo hi:Nat),lo≤hi→lo≤lZ p f lo hi∧lZ p f lo hi≤hi
  |0,lo,hi,h=>⟨Nat.le_refl _,h⟩
  |f+1,lo,hi,h=>by
    simp only[lZ]
    split
    · split
      · have:=xR p f ((lo+hi) / 2+1) hi (by omega);omega
      · have:=xR p f lo ((lo+hi) / 2) (by omega);omega
    · exact⟨Nat.le_refl _,h⟩
theorem iQ (p:Nat→Bool)(f lo hi:Nat)(h:hi≤lo):lZ p f lo hi=lo:=by
  cases f with
  |zero=>rfl
  |succ f=>simp only [lZ];rw[if_neg (by omega)]
theorem qu {p:Nat→Bool}{f lo hi:Nat}(h:lo<hi)(hp:p ((lo+hi) / 2)=true):lZ p (f+1) lo hi=lZ p f ((lo+hi) / 2+1) hi:=by simp only[lZ];rw[if_pos h,if_pos hp]
theorem mH {p:Nat→Bool}{f lo hi:Nat}(h:lo<hi)(hp:p ((lo+hi) / 2)=false):lZ p (f+1) lo hi=lZ p f lo ((lo+hi) / 2):=by simp only[lZ];rw[if_pos h,if_neg (by rw[hp];simp)]
theorem rI {p:Nat→Bool}{n:Nat}(mono: ∀i j,i<j→j<n→p j=true→p i=true): ∀(f lo hi:Nat),lo≤hi→hi≤n→hi - lo≤f→(∀j,j<lo→p j=true)→(∀j,hi≤j→j<n→p j=false)→
    (∀j,j<lZ p f lo hi→p j=true)∧(∀j,lZ p f lo hi≤j→j<n→p j=false)
  |0,lo,hi,h1,h2,h3,h4,h5=>by
    have:lo=hi:=by omega
    subst this
    exact⟨h4,h5⟩
  |f+1,lo,hi,h1,h2,h3,h4,h5=>by
    simp only[lZ]
    split
    · split
      · rename_i hp
        refine rI mono f _ hi (by omega) h2 (by omega) (fun j hj=>?_) h5
        rcases Nat.lt_succ_iff_lt_or_eq.1 hj with h|h
        · exact mono j _ h (by omega) hp
        · rw[h];exact hp
      · rename_i hp
        refine rI mono f lo _ (by omega) (by omega) (by omega) h4 fun j hj ql=>?_
        cases On:p j with
        |false=>rfl
        |true=>
          rcases Nat.eq_or_lt_of_le hj with h|h
          · rw[←h] at On;exact absurd On hp
          · exact absurd (mono _ j h ql On) hp
    · have:lo=hi:=by omega
      subst this
      exact⟨h4,h5⟩
def eQ {α:Type}[Inhabited α](c:α→Int)(L:List α):Nat:=lZ (fun j=>decide (c (L.getD j default)<0)) L.length 0 L.length
def dk {α:Type}[Inhabited α](c:α→Int)(L:List α):Bool:=decide (eQ c L<L.length) && decide (c (L.getD (eQ c L) default)=0)
theorem n5 {α:Type}[Inhabited α](c:α→Int)(L:List α):eQ c L≤L.length:=(xR _ _ 0 L.length (Nat.zero_le _)).2
def Bh {α:Type}[Inhabited α](c:α→Int)(L:List α):Prop:= ∀i j,i<j→j<L.length→0≤c (L.getD i default)→0<c (L.getD j default)
theorem zh {α:Type}[Inhabited α]{c:α→Int}{L:List α}(h:Bh c L):(∀j,j<eQ c L→c (L.getD j default)<0)∧(∀j,eQ c L≤j→j<L.length→0≤c (L.getD j default)):=by
  have:=rI (p:=fun j=>decide (c (L.getD j default)<0)) (n:=L.length) (fun i j jf hj hp=>by
    have Jb:=of_decide_eq_true hp
    refine decide_eq_true ?_
    rcases Int.lt_or_le (c (L.getD i default)) 0 with h1|h1
    · exact h1
    · have:=h i j jf hj h1;omega) L.length 0 L.length (Nat.zero_le _) (Nat.le_refl _) (by omega) (fun j hj=>absurd hj (Nat.not_lt_zero _)) (fun j hj ql=>absurd ql (by omega))
  exact⟨fun j hj=>of_decide_eq_true (this.1 j hj),fun j hj ql=>by have:=of_decide_eq_false (this.2 j hj ql);omega⟩
theorem en {α:Type}[Inhabited α]{L:List α}{p:α→Bool}(h: ∀j,j<L.length→p (L.getD j default)=false):aQ p L= -1:=gp (s:=(⟨none,0,L⟩:Sl α)) h
theorem kd {α:Type}[Inhabited α]{L:List α}{p:α→Bool}{i:Nat}(hi:i<L.length)(hp:p (L.getD i default)=true)(h: ∀j,j<i→p (L.getD j default)=false):aQ p L=(i:Int):=fR (s:=(⟨none,0,L⟩:Sl α)) hi hp h
theorem gJ {α:Type}[Inhabited α](p:α→Bool)(L:List α):(aQ p L= -1∧ ∀j,j<L.length→p (L.getD j default)=false)∨ ∃i,i<L.length∧aQ p L=(i:Int)∧p (L.getD i default)=true∧ ∀j,j<i→p (L.getD j default)=false:=by
  by_cases h: ∃i,i<L.length∧p (L.getD i default)=true
  · right
    have key: ∀n,(∃i,i<n∧i<L.length∧p (L.getD i default)=true)→ ∃i,i<L.length∧p (L.getD i default)=true∧ ∀j,j<i→p (L.getD j default)=false:=by
      intro n
      induction n with
      |zero=>rintro⟨i,h1,_⟩;omega
      |succ n ih=>
        rintro⟨i,h1,h2,h3⟩
        by_cases h4: ∃i,i<n∧i<L.length∧p (L.getD i default)=true
        · exact ih h4
        · refine⟨i,h2,h3,fun j hj=>?_⟩
          cases hp:p (L.getD j default) with
          |false=>rfl
          |true=>exact absurd ⟨j,by omega,by omega,hp⟩ h4
    obtain⟨i,h1,h2⟩:=h
    obtain⟨k,h3,h4,h5⟩:=key (i+1) ⟨i,by omega,h1,h2⟩
    exact⟨k,h3,kd h3 h4 h5,h4,h5⟩
  · left
    have h2: ∀j,j<L.length→p (L.getD j default)=false:=fun j hj=>by
      cases hp:p (L.getD j default) with
      |false=>rfl
      |true=>exact absurd ⟨j,hj,hp⟩ h
    exact⟨en h2,h2⟩
theorem du {α:Type}[Inhabited α](p:α→Bool)(L:List α): -1≤aQ p L∧aQ p L<L.length:=by
  rcases gJ p L with ⟨h,_⟩|⟨i,h1,h2,_⟩
  · rw[h];omega
  · rw[h2];omega
theorem CK {α:Type}[Inhabited α]{c:α→Int}{L:List α}(h: ∀j,j<L.length→ ¬c (L.getD j default)=0):dk c L=false∧aQ (fun x=>decide (c x=0)) L= -1:=by
  refine⟨?_,en fun j hj=>decide_eq_false (h j hj)⟩
  unfold dk
  by_cases h1:eQ c L<L.length
  · rw[decide_eq_false (h _ h1)];simp
  · rw[decide_eq_false h1];rfl
theorem xS {α:Type}[Inhabited α]{c:α→Int}{L:List α}(h:Bh c L):dk c L=decide (0≤aQ (fun x=>decide (c x=0)) L)∧(dk c L=true→(eQ c L:Int)=aQ (fun x=>decide (c x=0)) L):=by
  have hs:=zh h
  by_cases h1:eQ c L<L.length∧c (L.getD (eQ c L) default)=0
  · have h2:aQ (fun x=>decide (c x=0)) L=(eQ c L:Int):=kd h1.1 (decide_eq_true h1.2) fun j hj=>decide_eq_false (by have:=hs.1 j hj;omega)
    have h3:dk c L=true:=by unfold dk;rw[decide_eq_true h1.1,decide_eq_true h1.2];rfl
    rw[h3,h2]
    exact⟨by simp,fun _=>rfl⟩
  · have h3:dk c L=false:=by
      unfold dk
      by_cases h4:eQ c L<L.length
      · rw[decide_eq_false (fun e=>h1 ⟨h4,e⟩)];simp
      · rw[decide_eq_false h4];rfl
    have h2:aQ (fun x=>decide (c x=0)) L= -1:=en fun j hj=>decide_eq_false fun e=>by
      by_cases h4:eQ c L<L.length
      · have h5:=hs.2 _ (Nat.le_refl _) h4
        have h6:0<c (L.getD (eQ c L) default):=by
          rcases Int.lt_or_eq_of_le h5 with h7|h7
          · exact h7
          · exact absurd ⟨h4,h7.symm⟩ h1
        rcases Nat.lt_or_ge j (eQ c L) with h7|h7
        · have:=hs.1 j h7;omega
        · rcases Nat.eq_or_lt_of_le h7 with h8|h8
          · rw[h8] at h6;omega
          · have:=h _ j h8 hj h5;omega
      · have:=hs.1 j (by omega);omega
    rw[h3,h2]
    exact⟨rfl,fun h=>by cases h⟩
def bK (a b:ByteArray):Int:=Lib.compareBytes a.data.toList b.data.toList
theorem II: ∀a b:List UInt8,Lib.compareBytes a b<0↔Op.bytesLess a b=true
  |[],[]=>by simp[Lib.compareBytes,Op.bytesLess]
  |[],_::_=>by simp[Lib.compareBytes,Op.bytesLess]
  |_::_,[]=>by simp[Lib.compareBytes,Op.bytesLess]
  |x::a,y::b=>by
    have ih:=II a b
    simp only[Lib.compareBytes,Op.bytesLess]
    by_cases h1:x<y
    · simp[h1]
    · by_cases h2:y<x
      · have h3: ¬x=y:=fun e=>by subst e;exact h1 h2
        simp[h1,h2,h3]
      · have h3:x=y:=UInt8.le_antisymm (UInt8.not_lt.1 h2) (UInt8.not_lt.1 h1)
        subst h3
        simp[h1,ih]
theorem IJ: ∀a b:List UInt8,Lib.compareBytes a b=0↔a=b
  |[],[]=>by simp[Lib.compareBytes]
  |[],_::_=>by simp[Lib.compareBytes]
  |_::_,[]=>by simp[Lib.compareBytes]
  |x::a,y::b=>by
    have ih:=IJ a b
    simp only[Lib.compareBytes]
    by_cases h1:x<y
    · have h3: ¬x=y:=fun e=>by subst e;exact UInt8.lt_irrefl x h1
      simp[h1,h3]
    · by_cases h2:y<x
      · have h3: ¬x=y:=fun e=>by subst e;exact h1 h2
        simp[h1,h2,h3]
      · have h3:x=y:=UInt8.le_antisymm (UInt8.not_lt.1 h2) (UInt8.not_lt.1 h1)
        subst h3
        simp[h1,ih]
theorem xT (a b:ByteArray):bK a b<0↔Op.bytesLess a.toList b.toList=true:=by
  rw[ByteArray.toList_eq,ByteArray.toList_eq];exact II _ _
theorem tq (a b:ByteArray):bK a b=0↔a=b:=by
  unfold bK
  rw[IJ]
  exact⟨fun h=>ByteArray.ext (Array.toList_inj.1 h),fun h=>by rw[h]⟩
theorem ud: ∀a b c:List UInt8,Op.bytesLess a b=true→Op.bytesLess b c=true→Op.bytesLess a c=true
  |[],_,[],h1,h2=>by cases ‹List UInt8› <;>simp [Op.bytesLess] at*
  |[],_,_::_,_,_=>by simp[Op.bytesLess]
  |_::_,[],_,h1,_=>by simp[Op.bytesLess] at h1
  |_::_,_::_,[],_,h2=>by simp[Op.bytesLess] at h2
  |x::a,y::b,z::c,h1,h2=>by
    have ih:=ud a b c
    simp only[Op.bytesLess,Bool.or_eq_true,decide_eq_true_eq,Bool.and_eq_true,beq_iff_eq] at h1 h2⊢
    rcases h1 with h1|⟨rfl,h1⟩<;>rcases h2 with h2|⟨rfl,h2⟩
    · exact .inl (UInt8.lt_trans h1 h2)
    · exact .inl h1
    · exact .inl h2
    · exact .inr ⟨rfl,ih h1 h2⟩
theorem wC {α:Type}[Inhabited α]{L:List α}(nm:α→ByteArray)(t:ByteArray)(h: ∀i,0<i→i<L.length→Op.bytesLess (nm (L.getD (i - 1) default)).toList (nm (L.getD i default)).toList=true):Bh (fun x=>bK (nm x) t) L:=by
  have step: ∀d i,i+d+1<L.length→Op.bytesLess (nm (L.getD i default)).toList (nm (L.getD (i+d+1) default)).toList=true:=by
    intro d
    induction d with
    |zero=>intro i hi;have:=h (i+1) (by omega) hi;simpa using this
    |succ d ih=>intro i hi;exact ud _ _ _ (ih i (by omega)) (by have:=h (i+(d+1)+1) (by omega) hi;simpa[Nat.add_assoc] using this)
  intro i j jf hj h0
  have h1:=step (j - i - 1) i (by omega)
  rw[show i+(j - i - 1)+1=j by omega] at h1
  have h2: ¬bK (nm (L.getD i default)) t<0:=by show ¬_;intro h;have Qk:0≤bK (nm (L.getD i default)) t:=h0;omega
  rw[xT] at h2
  have h3: ¬bK (nm (L.getD j default)) t<0:=fun h4=>h2 (ud _ _ _ h1 ((xT _ _).1 h4))
  have h4: ¬bK (nm (L.getD j default)) t=0:=fun h5=>h2 (by rw[tq] at h5;rw[←h5];exact h1)
  show 0<bK (nm (L.getD j default)) t
  omega
theorem iz {l:List aG}(h:cy l=0):l.length≤5∧ ∀j,j<l.length→fj l j=0:=by
  unfold cy at h
  split at h
  · cases h
  exact⟨by omega,kc h⟩
theorem ue {l:List aG}{j:Nat}(h:fj l j=0):ee (l.getD j default).name=true∧((l.getD j default).value.size:Int)≤12∧1≤(l.getD j default).version∧(l.getD j default).version≤1073741824∧(0<j→Op.bytesLess (l.getD (j - 1) default).name.toList (l.getD j default).name.toList=true):=by
  unfold fj at h
  split at h
  · cases h
  rename_i h1
  split at h
  · cases h
  split at h
  · cases h
  split at h
  · cases h
  rename_i h4
  refine⟨by simpa using h1,by omega,by omega,by omega,fun hj=>?_⟩
  cases hb:Op.bytesLess (l.getD (j - 1) default).name.toList (l.getD j default).name.toList with
  |true=>rfl
  |false=>exact absurd ⟨hj,hb⟩ h4
theorem fS {l:List aY}(h:bB l=0):l.length≤5∧ ∀j,j<l.length→b9 l j=0:=by
  unfold bB at h
  split at h
  · cases h
  exact⟨by omega,kc h⟩
theorem uf {l:List aY}{j:Nat}(h:b9 l j=0):ee (l.getD j default).name=true∧0≤(l.getD j default).ar∧(l.getD j default).ar≤9∧cp (l.getD j default)=true∧1≤(l.getD j default).aA∧(l.getD j default).aA≤1073741824∧(0<j→Op.bytesLess (l.getD (j - 1) default).name.toList (l.getD j default).name.toList=true):=by
  unfold b9 at h
  split at h
  · cases h
  rename_i h1
  split at h
  · cases h
  split at h
  · cases h
  rename_i h4
  refine⟨?_,by omega,by omega,?_,by omega,by omega,fun hj=>?_⟩
  · cases hb:ee (l.getD j default).name with
    |true=>rfl
    |false=>exact absurd (.inl hb) h1
  · cases hb:cp (l.getD j default) with
    |true=>rfl
    |false=>exact absurd (.inr (.inr (.inr hb))) h1
  · cases hb:Op.bytesLess (l.getD (j - 1) default).name.toList (l.getD j default).name.toList with
    |true=>rfl
    |false=>exact absurd ⟨hj,hb⟩ h4
theorem wD {l:List aG}(h:cy l=0)(t:ByteArray):Bh (fun x:aG=>bK x.name t) l:=wC aG.name t fun i hi hl=>(ue ((iz h).2 i hl)).2.2.2.2 hi
theorem wE {l:List aY}(h:bB l=0)(t:ByteArray):Bh (fun x:aY=>bK x.name t) l:=wC aY.name t fun i hi hl=>(uf ((fS h).2 i hl)).2.2.2.2.2.2 hi
theorem wF {α:Type}(nm:α→ByteArray)(t:ByteArray):(fun x:α=>decide (bK (nm x) t=0))=fun x=>decide (nm x=t):=by
  funext x
  rw[decide_eq_decide.2 (tq (nm x) t)]
end Go.Proofs.YtbjakddkfgjkaaaGreat.Fw
namespace Go.Proofs.YtbjakddkfgjkaaaGreat.Fw
open Go.RowKit
theorem ly {α:Type}[Inhabited α]{M L:List α}{j:Nat}(h:M.drop j=L.drop j)(hj:j<L.length):M.getD j default=L.getD j default:=by
  have h1:=congrArg (fun l=>l[0]?) h
  simp only[List.getElem?_drop,Nat.add_zero] at h1
  rw[List.getD_eq_getElem?_getD,List.getD_eq_getElem?_getD,h1]
theorem rJ {α:Type}{M L:List α}{j:Nat}(h:M.drop j=L.drop j):M.drop (j+1)=L.drop (j+1):=by
  have h1:=congrArg (List.drop 1) h
  simpa only [List.drop_drop] using h1
theorem rK {α:Type}[Inhabited α]{p:α→Bool}{L:List α}(h:aQ p L= -1):L.filter (fun x=>!p x)=L:=by
  rcases gJ p L with ⟨_,h2⟩|⟨i,_,h2,_⟩
  · rw[List.filter_eq_self]
    intro x hx
    obtain⟨j,hj,rfl⟩:=List.getElem_of_mem hx
    have:=h2 j hj
    rw[List.getD_eq_getElem?_getD,List.getElem?_eq_getElem hj] at this
    simpa using this
  · omega
theorem wG {α:Type}[Inhabited α]{p:α→Bool}{L:List α}(h: ¬aQ p L= -1): ∃i,i<L.length∧(∀j,j<i→p (L.getD j default)=false)∧p (L.getD i default)=true∧aQ p L=(i:Int):=by
  rcases gJ p L with ⟨h1,_⟩|⟨i,h1,h2,h3,h4⟩
  · exact absurd h1 h
  · exact⟨i,h1,h4,h3,h2⟩
theorem sD {α:Type}[Inhabited α]{p:α→Bool}{L:List α}{i:Nat}(hi:i≤L.length)(h: ∀j,j<i→p (L.getD j default)=false):(L.take i).filter (fun x=>!p x)=L.take i:=by
  rw[List.filter_eq_self]
  intro x hx
  obtain⟨j,hj,rfl⟩:=List.getElem_of_mem hx
  have ER:j<i:=by rw[List.length_take] at hj;omega
  have h1:=h j ER
  rw[List.getD_eq_getElem?_getD,List.getElem?_eq_getElem (by omega)] at h1
  rw[List.getElem_take]
  simpa using h1
theorem eY {α:Type}[Inhabited α]{L:List α}{i:Nat}(hi:i<L.length):L.take (i+1)=L.take i++[L.getD i default]:=by
  rw[List.take_add_one,getD_some hi];rfl
theorem zi {α:Type}{p:α→Bool}{x:α}(h:p x=true):[x].filter (fun x=>!p x)=[]:=by rw[List.filter_cons,h];rfl
theorem CL {α:Type}{p:α→Bool}{x:α}(h:p x=false):[x].filter (fun x=>!p x)=[x]:=by rw[List.filter_cons,h];rfl
theorem ug {α:Type}[Inhabited α]{p:α→Bool}{L:List α}{i:Nat}(hi:i<L.length)(h: ∀j,j<i→p (L.getD j default)=false)(hp:p (L.getD i default)=true):L.take i=(L.take (i+1)).filter (fun x=>!p x):=by
  rw[eY hi,List.filter_append,sD (by omega) h,zi hp,List.append_nil]
theorem wH {α:Type}[Inhabited α]{p:α→Bool}{L M:List α}{i j:Nat}(hj:j<L.length)(h:M.take i=(L.take j).filter (fun x=>!p x))(hp:p (L.getD j default)=true):M.take i=(L.take (j+1)).filter (fun x=>!p x):=by
  rw[eY hj,List.filter_append, ←h,zi hp,List.append_nil]
theorem wI {α:Type}[Inhabited α]{p:α→Bool}{L M:List α}{i j:Nat}(jf:i<j)(hj:j<L.length)(hM:M.length=L.length)(h:M.take i=(L.take j).filter (fun x=>!p x))(hp:p (L.getD j default)=false)(Fs:M.getD j default=L.getD j default):(M.set i (M.getD j default)).take (i+1)=(L.take (j+1)).filter (fun x=>!p x):=by
  rw[eY hj,List.filter_append, ←h,CL hp,eY (by rw[List.length_set];omega)]
  rw[List.take_set_of_le (Nat.le_refl _),List.getD_eq_getElem?_getD,List.getElem?_set_self (by omega),Fs]
  rfl
theorem wJ {α:Type}{L M:List α}{i j:Nat}{x:α}(jf:i<j)(h:M.drop j=L.drop j):(M.set i x).drop (j+1)=L.drop (j+1):=by
  rw[List.drop_set_of_lt (by omega)]
  exact rJ h
end Go.Proofs.YtbjakddkfgjkaaaGreat.Fw
namespace Go.Proofs.YtbjakddkfgjkaaaGreat.Fw
open Go.RowKit
theorem jF {d:az}(h:a9 d=true):d.ab.length≤4:=by
  have key: ∀j,j<d.ab.length→d.aC+1+(j:Int)≤(d.ab.getD j default).seq:=by
    intro j
    induction j with
    |zero=>intro hj;have:=of_decide_eq_true (di h 0 hj);omega
    |succ j ih=>
      intro hj
      have h1:=ih (by omega)
      have h2:=of_decide_eq_true (di h (j+1) hj)
      have h3:=h2.2.2.1 (by omega)
      simp only[Nat.add_sub_cancel] at h3
      omega
  rcases Nat.lt_or_ge 4 d.ab.length with h1|h1
  · have h2:=key 4 h1
    have h3:=of_decide_eq_true (di h 4 h1)
    omega
  · exact h1
theorem fC {s:Sl aa}{n:Int}(h:bC (s.xs.map aa.abs) n=0):aJ.small s:=by
  obtain⟨_,_,h3,h4⟩:=dm h
  have hl:(s.xs.map aa.abs).length=s.n:=by simp
  refine⟨by show s.n*56≤_;omega,fun i hi=>?_⟩
  have h5:=(kA (h4 i (by omega))).2.2.2.2.2.2.2.1
  rw[lb] at h5
  have h6:=jF h5
  have h7:(s.at i).abs.ab.length=(s.at i).ab.n:=rfl
  exact⟨by show (s.at i).ab.n*40≤_;omega,fun _ _=>trivial⟩
theorem js {s:Sl ae}(h:bB (s.xs.map ae.abs)=0):aJ.small s:=by
  obtain⟨h3,h4⟩:=fS h
  have hl:(s.xs.map ae.abs).length=s.n:=by simp
  refine⟨by show s.n*56≤_;omega,fun i hi=>?_⟩
  have h5:=(uf (h4 i (by omega))).2.2.2.1
  rw[pH] at h5
  simp only[cp,Bool.and_eq_true,decide_eq_true_eq] at h5
  have h7:(s.at i).abs.line.length=(s.at i).line.n:=rfl
  exact⟨by show (s.at i).line.n*8≤_;omega,fun _ _=>trivial⟩
theorem gu {eS eK:Nat}{A:Option Addr}{c:Nat}{L:List aa}{w:World}(h1:(bI (cj eK) L).p w)(h2:(ay eS A c L).p w)(hn: ∀x,x∈L→ ∀k,k∈x.ab.xs→k.aE.text.size≤9223372036854775807):Sl.rd bH w (⟨A,c,L⟩:Sl aa):=
  Rr h2 (fun _ _=>trivial) fun x hx=>Rr (h1 x hx) (fun _ _=>trivial) fun k hk=>hn x hx k hk
theorem rL {eL eI:Nat}{A:Option Addr}{c:Nat}{L:List ae}{w:World}(h1:(bI (bM eI) L).p w)(h2:(ay eL A c L).p w)(hn: ∀x,x∈L→x.name.size≤9223372036854775807):Sl.rd bH w (⟨A,c,L⟩:Sl ae):=
  Rr h2 (fun _ _=>trivial) fun x hx=>⟨hn x hx,Rr (h1 x hx) (fun _ _=>trivial) fun _ _=>trivial⟩
theorem jG {R:List bz}{eS eK:Nat}{A:Option Addr}{c:Nat}{L L0:List aa}{w:World}(hr:ay eS A c L∈R)(ho:bI (cj eK) L0∈R)(hR: ∀r,r∈R→r.p w)(sS: ∀x,x∈L→x∈L0)(hn: ∀x,x∈L0→ ∀k,k∈x.ab.xs→k.aE.text.size≤9223372036854775807):Sl.rd (· ∈(cN R).fp) w (⟨A,c,L⟩:Sl aa):=
  a4 hr (hR _ hr) fun x hx=>Rr (hR _ ho x (sS x hx)) (fun b hb=>fi ho (List.mem_flatMap.2 ⟨x,sS x hx,hb⟩)) fun k hk=>hn x (sS x hx) k hk
theorem rM {R:List bz}{eS eK:Nat}{A:Option Addr}{c:Nat}{L L0:List ae}{w:World}(hr:ay eS A c L∈R)(ho:bI (bM eK) L0∈R)(hR: ∀r,r∈R→r.p w)(sS: ∀x,x∈L→x∈L0)(hn: ∀x,x∈L0→x.name.size≤9223372036854775807):Sl.rd (· ∈(cN R).fp) w (⟨A,c,L⟩:Sl ae):=
  a4 hr (hR _ hr) fun x hx=>⟨hn x (sS x hx),Rr (hR _ ho x (sS x hx)) (fun b hb=>fi ho (List.mem_flatMap.2 ⟨x,sS x hx,hb⟩)) fun _ _=>trivial⟩
def jH (index:Int)(x:az):Bool:=decide (40<index+1 - x.last)
def lJ (l:List az)(index:Int):List az×Int:=if bC l index=0 then (l.filter fun x=>!jH index x,0) else ([],bC l index)
theorem zj {l:List az}{index:Int}(h:bC l index=0):lJ l index=(l.filter fun x=>!jH index x,0):=by unfold lJ;rw[if_pos h]
theorem oN {l:List az}{index:Int}(h: ¬bC l index=0):lJ l index=([],bC l index):=by unfold lJ;rw[if_neg h]
theorem uh {L:List aa}{index:Int}:(L.filter fun x=>!jH index x.abs).map aa.abs=(L.map aa.abs).filter fun x=>!jH index x:=by
  rw[List.filter_map];rfl
def l4 (l:List aG)(t:ByteArray):cQ×Int:=
  if cy l=0 then
    (if 0≤aQ (fun x:aG=>decide (x.name=t)) l then ⟨0,(l.getD (aQ (fun x:aG=>decide (x.name=t)) l).toNat default).version,(l.getD (aQ (fun x:aG=>decide (x.name=t)) l).toNat default).value⟩ else ⟨6,0,emp⟩,0)
  else (⟨0,0,emp⟩,cy l)
theorem CM {l:List aG}{t:ByteArray}(h: ¬cy l=0):l4 l t=(⟨0,0,emp⟩,cy l):=by unfold l4;rw[if_neg h]
theorem zk {l:List aG}{t:ByteArray}(h:cy l=0)(h2:aQ (fun x:aG=>decide (x.name=t)) l<0):l4 l t=(⟨6,0,emp⟩,0):=by unfold l4;rw[if_pos h,if_neg (by omega)]
theorem zl {l:List aG}{t:ByteArray}(h:cy l=0)(h2: ¬aQ (fun x:aG=>decide (x.name=t)) l<0):l4 l t=(⟨0,(l.getD (aQ (fun x:aG=>decide (x.name=t)) l).toNat default).version,(l.getD (aQ (fun x:aG=>decide (x.name=t)) l).toNat default).value⟩,0):=by unfold l4;rw[if_pos h,if_pos (by omega)]
theorem qv {l:List aG}(h:cy l=0)(t:ByteArray):dk (fun x:aG=>bK x.name t) l=decide (0≤aQ (fun x:aG=>decide (x.name=t)) l)∧(dk (fun x:aG=>bK x.name t) l=true→(eQ (fun x:aG=>bK x.name t) l:Int)=aQ (fun x:aG=>decide (x.name=t)) l):=by
  have:=xS (wD h t)
  rwa [wF aG.name t] at this
theorem xU {α:Type}[Inhabited α]{c:α→Int}{L:List α}(h:dk c L=true):eQ c L<L.length:=by
  unfold dk at h
  simp only[Bool.and_eq_true,decide_eq_true_eq] at h
  exact h.1
end Go.Proofs.YtbjakddkfgjkaaaGreat.Fw
namespace Go.Proofs.YtbjakddkfgjkaaaGreat.Fw
theorem zm {s:Sl aa}{n:Int}{L:List aa}{i:Nat}(h:L=(s.xs.take i).filter fun x=>!jH n x.abs)(hi:i<s.n)(hp:jH n (s.xs.getD i default).abs=false):L++[s.xs.getD i default]=(s.xs.take (i+1)).filter fun x=>!jH n x.abs:=by
  rw[eY (show i<s.xs.length from hi),List.filter_append, ←h,CL (p:=fun x:aa=>jH n x.abs) hp]
theorem wK {s:Sl aa}{n:Int}{L:List aa}{i:Nat}(h:L=(s.xs.take i).filter fun x=>!jH n x.abs)(hi:i<s.n)(hp:jH n (s.xs.getD i default).abs=true):L=(s.xs.take (i+1)).filter fun x=>!jH n x.abs:=by
  rw[eY (show i<s.xs.length from hi),List.filter_append, ←h,zi (p:=fun x:aa=>jH n x.abs) hp,List.append_nil]
end Go.Proofs.YtbjakddkfgjkaaaGreat.Fw
namespace Go.Proofs.YtbjakddkfgjkaaaGreat.Fw
open Go.RowKit
def bA (x:aZ):Int:=if bC x.af x.index=0 then (if bB x.aj=0 then cy x.an else bB x.aj) else bC x.af x.index
def ui:vJ:=⟨0,emp,emp,0⟩
def Ft:aF:=⟨0,0,0,0,0,ui⟩
def dQ (c:aF)(t:ByteArray):aF×ByteArray×Int:=
  let r1:=bf t
  if ¬r1.2.2=0 then (c,emp,r1.2.2) else
  let r2:=bf r1.2.1
  if ¬r2.2.2=0 then (c,emp,r2.2.2) else
  let r3:=bf r2.2.1
  if ¬r3.2.2=0 then (c,emp,r3.2.2) else
  let r4:=bf r3.2.1
  if ¬r4.2.2=0 then (c,emp,r4.2.2) else
  let r5:=bf r4.2.1
  if ¬r5.2.2=0 then (c,emp,r5.2.2) else
  let r6:=dK r5.2.1
  if ¬r6.2.2=0 then (c,emp,r6.2.2) else
  let r7:=dK r6.2.1
  if ¬r7.2.2=0 then (c,emp,r7.2.2) else
  (⟨c.kind,c.ag,r1.1,r2.1,r3.1,⟨r4.1,r6.1,r7.1,r5.1⟩⟩,r7.2.1,0)
def kQ (b:aF×ByteArray×Int):aF×Int:=
  if ¬b.2.2=0 then (Ft,b.2.2) else if ¬b.2.1=emp then (Ft,4) else if ¬dP b.1=0 then (Ft,dP b.1) else (b.1,0)
def eZ (s:ByteArray):aF:=⟨((s.data.getD 0 0).toNat:Int),((s.data.getD 1 0).toNat:Int),0,0,0,ui⟩
def aq (s:ByteArray):aF×Int:=
  if 5000<s.size then (Ft,1) else if s.size<2 then (Ft,5) else
  if (eZ s).kind=2 then kQ (dQ (eZ s) (s.extract 2 s.size)) else kQ (eZ s,s.extract 2 s.size,0)
theorem m0 {s:ByteArray}(h:(aq s).2=0):dP (aq s).1=0∧s.size≤5000:=by
  have key: ∀b:aF×ByteArray×Int,(kQ b).2=0→dP (kQ b).1=0:=by
    intro b hb
    unfold kQ at hb⊢
    by_cases h1:b.2.2=0
    · rw[if_neg (by simpa using h1)] at hb⊢
      by_cases h2:b.2.1=emp
      · rw[if_neg (by simpa using h2)] at hb⊢
        by_cases h3:dP b.1=0
        · rw[if_neg (by simpa using h3)] at hb⊢;exact h3
        · rw[if_pos h3] at hb;exact absurd hb h3
      · rw[if_pos h2] at hb;cases hb
    · rw[if_pos h1] at hb;exact absurd hb h1
  unfold aq at h⊢
  split at h
  · cases h
  · rename_i h0
    split at h
    · cases h
    · rename_i h1
      rw[if_neg h0,if_neg h1]
      refine⟨?_,by omega⟩
      split at h
      · rename_i h2;rw[if_pos h2];exact key _ h
      · rename_i h2;rw[if_neg h2];exact key _ h
def uj (l:List ByteArray)(i:Nat):Int:=(aq (l.getD i default)).2
def cT (x:iy):Int:=if x.base<0∨1073741424<x.base then 2 else if 400<x.entries.length then 1 else ek (uj x.entries) (x.entries.length - 0) 0
theorem eb {x:iy}(h:cT x=0):0≤x.base∧x.base≤1073741424∧x.entries.length≤400∧ ∀j,j<x.entries.length→(aq (x.entries.getD j default)).2=0:=by
  unfold cT at h
  split at h
  · cases h
  split at h
  · cases h
  exact⟨by omega,by omega,by omega,kc h⟩
def cD (x:iy):Int:=x.base+(x.entries.length:Int)
def jI (x:ba):Int:=if 0<x.waits.length then (x.waits.getD 0 default).seq - 1 else x.next - 1
def gv (x:ba):ByteArray×Int:=if bW x=0 then g6 ⟨1,x.id,0,0,0,ui⟩ else (emp,bW x)
def kB (x:ba)(k:Int):ByteArray×Int:=
  if bW x=0 then (if 0≤k∧k<x.waits.length then g6 ⟨2,x.id,x.aD,(x.waits.getD k.toNat default).seq,jI x,(x.waits.getD k.toNat default).op⟩ else (emp,6)) else (emp,bW x)
def fk:ba:=⟨0,0,0,[]⟩
def mStart (x:ba)(o:vJ):ba×Int:=
  if ¬bW x=0 then (fk,bW x) else if x.aD=0 then (fk,11) else if ¬jy o=0 then (fk,jy o) else
  if 1048576<x.next∨jI x+4<x.next then (fk,8) else (⟨x.id,x.aD,x.next+1,x.waits++[⟨x.next,o⟩]⟩,0)
theorem hG {x:ba}(h:bW x=0):1≤x.id∧x.id≤9∧0≤x.aD∧x.aD≤1073741824∧1≤x.next∧x.next≤1048577∧x.waits.length≤4∧(x.aD=0→x.waits.length=0)∧ ∀j,j<x.waits.length→bR x j=0:=by
  unfold bW at h
  split at h
  · cases h
  split at h
  · cases h
  exact⟨by omega,by omega,by omega,by omega,by omega,by omega,by omega,by omega,kc h⟩
theorem iR {x:ba}{i:Nat}(h:bR x i=0):1≤(x.waits.getD i default).seq∧(x.waits.getD i default).seq<x.next∧(0<i→(x.waits.getD (i - 1) default).seq<(x.waits.getD i default).seq)∧(x.waits.getD i default).seq≤(x.waits.getD 0 default).seq+3∧jy (x.waits.getD i default).op=0:=by
  unfold bR at h
  split at h
  · cases h
  exact⟨by omega,by omega,by omega,by omega,h⟩
def fN (l:List aY)(t:ByteArray):Int×Int×Int:=
  if bB l=0 then
    (if 0≤aQ (fun x:aY=>decide (x.name=t)) l∧ ¬(l.getD (aQ (fun x:aY=>decide (x.name=t)) l).toNat default).ar=0 then ((l.getD (aQ (fun x:aY=>decide (x.name=t)) l).toNat default).ar,(l.getD (aQ (fun x:aY=>decide (x.name=t)) l).toNat default).aA,0) else (0,0,0))
  else (0,0,bB l)
theorem fm {α β:Type}(f:α→β)(p:β→Bool)(L:List α):aQ (fun x=>p (f x)) L=aQ p (L.map f):=by
  unfold aQ
  rw[List.findIdx_map,List.length_map]
  rfl
theorem getD_map {α β:Type}[Inhabited α][Inhabited β](f:α→β)(hf:f default=default)(L:List α)(i:Nat):(L.map f).getD i default=f (L.getD i default):=by
  rw[List.getD_eq_getElem?_getD,List.getD_eq_getElem?_getD,List.getElem?_map]
  cases L[i]? with
  |none=>exact hf.symm
  |some x=>rfl
theorem tr {α β:Type}[Inhabited α][Inhabited β]{f:α→β}(hf:f default=default){c:β→Int}{L:List α}(h:Bh c (L.map f)):Bh (fun x=>c (f x)) L:=fun i j jf hj h0=>by
  have:=h i j jf (by rw[List.length_map];exact hj) (by rw[getD_map f hf];exact h0)
  rwa [getD_map f hf] at this
theorem n6 {L:List ae}(h:bB (L.map ae.abs)=0)(t:ByteArray):dk (fun x:ae=>bK x.name t) L=decide (0≤aQ (fun x:aY=>decide (x.name=t)) (L.map ae.abs))∧(dk (fun x:ae=>bK x.name t) L=true→(eQ (fun x:ae=>bK x.name t) L:Int)=aQ (fun x:aY=>decide (x.name=t)) (L.map ae.abs)):=by
  have hs:Bh (fun x:ae=>bK x.name t) L:=tr (f:=ae.abs) rfl (wE h t)
  have:=xS hs
  rw[wF ae.name t] at this
  have e:aQ (fun x:ae=>decide (x.name=t)) L=aQ (fun x:aY=>decide (x.name=t)) (L.map ae.abs):=fm ae.abs (fun y:aY=>decide (y.name=t)) L
  rwa [e] at this
end Go.Proofs.YtbjakddkfgjkaaaGreat.Fw
namespace Go.Proofs.YtbjakddkfgjkaaaGreat.Fw
theorem n7 (s:ByteArray):(dK s).1.size≤s.size∧(dK s).2.1.size≤s.size:=by
  have h:=eH s
  unfold dK
  split
  · simp[aL]
  · split
    · simp[aL]
    · split
      · simp[aL]
      · simp only[ByteArray.size_extract]
        omega
end Go.Proofs.YtbjakddkfgjkaaaGreat.Fw
namespace Go.Proofs.YtbjakddkfgjkaaaGreat.Fw
open Go.RowKit
def bX (x:ba)(m:bg):ba×Int:=
  if ¬bW x=0 then (fk,bW x) else if ¬m.ag=x.id then (fk,6) else
  if m.seq=0 then
    (if 0<x.aD then (fk,12) else
     if m.aE.code=0∨m.aE.code=7 then (if m.aE.n<1∨1073741824<m.aE.n then (fk,2) else (⟨x.id,m.aE.n,x.next,x.waits⟩,0)) else (x,0))
  else if aQ (fun z:bD=>decide (z.seq=m.seq)) x.waits<0 then (fk,12)
  else if m.aE.code=11 then (⟨x.id,0,x.next,[]⟩,0)
  else (⟨x.id,x.aD,x.next,x.waits.filter fun z=>!decide (z.seq=m.seq)⟩,0)
theorem filter_one {α:Type}[Inhabited α]{p:α→Bool}{L:List α}{k:Nat}(hk:k<L.length)(hp:p (L.getD k default)=true)(h: ∀j,j<L.length→ ¬j=k→p (L.getD j default)=false):L.take k++L.drop (k+1)=L.filter fun z=>!p z:=by
  have e:L=L.take k++(L.getD k default::L.drop (k+1)):=by
    have h1:L.drop k=L.getD k default::L.drop (k+1):=by
      rw[List.drop_eq_getElem_cons hk,List.getD_eq_getElem?_getD,List.getElem?_eq_getElem hk];rfl
    rw[←h1,List.take_append_drop]
  have h2:(L.take k).filter (fun z=>!p z)=L.take k:=sD (by omega) fun j hj=>h j (by omega) (by omega)
  have h3:(L.drop (k+1)).filter (fun z=>!p z)=L.drop (k+1):=by
    rw[List.filter_eq_self]
    intro z hz
    obtain⟨j,hj,rfl⟩:=List.getElem_of_mem hz
    rw[List.length_drop] at hj
    have h4:=h (k+1+j) (by omega) (by omega)
    rw[List.getD_eq_getElem?_getD,List.getElem?_eq_getElem (by omega)] at h4
    rw[List.getElem_drop]
    simpa using h4
  have h5:(L.take k++(L.getD k default::L.drop (k+1))).filter (fun z=>!p z)=L.take k++L.drop (k+1):=by
    rw[List.filter_append,h2,List.filter_cons,hp,h3];rfl
  rw[←e] at h5
  exact h5.symm
theorem qw {f:Nat→Int}{n:Nat}(h: ∀i,0<i→i<n→f (i - 1)<f i): ∀d i,i+d+1<n→f i<f (i+d+1)
  |0,i,hi=>by have:=h (i+1) (by omega) (by omega);simpa using this
  |d+1,i,hi=>by
    have h1:=qw h d i (by omega)
    have h2:=h (i+d+1+1) (by omega) (by omega)
    simp only[Nat.add_sub_cancel] at h2
    have e:i+(d+1)+1=i+d+1+1:=by omega
    rw[e]
    omega
theorem HD {f:Nat→Int}{n:Nat}(h: ∀i,0<i→i<n→f (i - 1)<f i){i j:Nat}(hi:i<n)(hj:j<n)(jf: ¬i=j): ¬f i=f j:=by
  rcases Nat.lt_or_gt_of_ne jf with h1|h1
  · have:=qw h (j - i - 1) i (by omega)
    rw[show i+(j - i - 1)+1=j by omega] at this
    omega
  · have:=qw h (i - j - 1) j (by omega)
    rw[show j+(i - j - 1)+1=i by omega] at this
    omega
theorem DC {x:ba}(h:bW x=0){q:Int}{k:Nat}(hk:aQ (fun z:bD=>decide (z.seq=q)) x.waits=(k:Int)):x.waits.take k++x.waits.drop (k+1)=x.waits.filter fun z=>!decide (z.seq=q):=by
  obtain⟨_,_,_,_,_,_,_,_,h9⟩:=hG h
  rcases gJ (fun z:bD=>decide (z.seq=q)) x.waits with ⟨h1,_⟩|⟨i,h1,h2,h3,_⟩
  · omega
  · have:i=k:=by omega
    subst this
    have hp:=of_decide_eq_true h3
    refine filter_one (p:=fun z:bD=>decide (z.seq=q)) h1 h3 fun j hj EP=>decide_eq_false fun e=>?_
    exact HD (f:=fun i=>(x.waits.getD i default).seq) (n:=x.waits.length) (fun i h0 hi=>(iR (h9 i hi)).2.2.1 h0) hj h1 EP (e.trans hp.symm)
theorem CN {s:Sl bD}{q:Int}{L:List bD}{i:Nat}(h:L=(s.xs.take i).filter fun z=>!decide (z.seq=q))(hi:i<s.n)(hp: ¬(s.at i).seq=q):L++[s.at i]=(s.xs.take (i+1)).filter fun z=>!decide (z.seq=q):=by
  rw[←gq hi,List.filter_append, ←h,CL (p:=fun z:bD=>decide (z.seq=q)) (decide_eq_false hp)]
theorem zn {s:Sl bD}{q:Int}{L:List bD}{i:Nat}(h:L=(s.xs.take i).filter fun z=>!decide (z.seq=q))(hi:i<s.n)(hp:(s.at i).seq=q):L=(s.xs.take (i+1)).filter fun z=>!decide (z.seq=q):=by
  rw[←gq hi,List.filter_append, ←h,zi (p:=fun z:bD=>decide (z.seq=q)) (decide_eq_true hp),List.append_nil]
theorem mI {α:Type}[Inhabited α]{s:Sl α}{p:α→Bool}{b:Bool}{i:Nat}(h:b=(s.xs.take i).any p)(hi:i<s.n):(b||p (s.at i))=(s.xs.take (i+1)).any p:=by
  rw[←gq hi,List.any_append, ←h]
  simp
def gl:cQ:=⟨0,0,emp⟩
def dB (l:List az)(index ag:Int):List az×cQ×Int:=
  if ¬bC l index=0 then ([],gl,bC l index) else
  if aQ (fun x:az=>decide (x.ag=ag)) l<0 then (l,⟨11,0,emp⟩,0) else
  (l.take (aQ (fun x:az=>decide (x.ag=ag)) l).toNat++l.drop ((aQ (fun x:az=>decide (x.ag=ag)) l).toNat+1),gl,0)
theorem DD {l:List az}{index:Int}(h:bC l index=0): ∀i,0<i→i<l.length→(l.getD (i - 1) default).ag<(l.getD i default).ag:=fun i h0 hi=>(kA ((dm h).2.2.2 i hi)).2.2.2.2.2.2.2.2 h0
theorem wL {a b:Int}(ha:ln a)(hb:ln b):IntKind.i64.wrap (a - b)=0↔a=b:=by
  rw[IntKind.wrap_i64]
  unfold ln at ha hb
  omega
theorem zo {l:List az}{index:Int}(h:bC l index=0){t:Int}(ht:1≤t∧t≤9):Bh (fun x:az=>IntKind.i64.wrap (x.ag - t)) l:=fun i j jf hj h0=>by
  have hi:i<l.length:=by omega
  have h1:=kA ((dm h).2.2.2 i hi)
  have h2:=kA ((dm h).2.2.2 j hj)
  have h3:=qw (f:=fun i=>(l.getD i default).ag) (n:=l.length) (DD h) (j - i - 1) i (by omega)
  rw[show i+(j - i - 1)+1=j by omega] at h3
  have e1:IntKind.i64.wrap ((l.getD i default).ag - t)=(l.getD i default).ag - t:=eR ⟨by omega,by omega⟩
  have e2:IntKind.i64.wrap ((l.getD j default).ag - t)=(l.getD j default).ag - t:=eR ⟨by omega,by omega⟩
  have Qk:0≤IntKind.i64.wrap ((l.getD i default).ag - t):=h0
  show 0<IntKind.i64.wrap ((l.getD j default).ag - t)
  rw[e1] at Qk
  rw[e2]
  have Oo:(l.getD i default).ag<(l.getD j default).ag:=h3
  omega
theorem n8 {L:List aa}{index t:Int}(h:bC (L.map aa.abs) index=0)(ht:ln t):dk (fun x:aa=>IntKind.i64.wrap (x.ag - t)) L=decide (0≤aQ (fun x:az=>decide (x.ag=t)) (L.map aa.abs))∧(dk (fun x:aa=>IntKind.i64.wrap (x.ag - t)) L=true→(eQ (fun x:aa=>IntKind.i64.wrap (x.ag - t)) L:Int)=aQ (fun x:az=>decide (x.ag=t)) (L.map aa.abs)):=by
  have gI: ∀j,j<L.length→1≤(L.getD j default).ag∧(L.getD j default).ag≤9:=fun j hj=>by
    have:=kA ((dm h).2.2.2 j (by rw[List.length_map];exact hj))
    rw[getD_map aa.abs rfl] at this
    exact⟨this.1,this.2.1⟩
  have hp: ∀j,j<L.length→(IntKind.i64.wrap ((L.getD j default).ag - t)=0↔(L.getD j default).ag=t):=fun j hj=>wL ⟨by have:=gI j hj;omega,by have:=gI j hj;omega⟩ ht
  have e:aQ (fun x:aa=>decide (IntKind.i64.wrap (x.ag - t)=0)) L=aQ (fun x:az=>decide (x.ag=t)) (L.map aa.abs):=by
    rw[←fm aa.abs]
    rcases gJ (fun x:aa=>decide (IntKind.i64.wrap (x.ag - t)=0)) L with ⟨h1,h2⟩|⟨i,h1,h2,h3,h4⟩
    · rw[h1]
      exact (en (p:=fun x:aa=>decide (x.abs.ag=t)) fun j hj=>decide_eq_false fun e=>of_decide_eq_false (h2 j hj) ((hp j hj).2 e)).symm
    · rw[h2]
      exact (kd (p:=fun x:aa=>decide (x.abs.ag=t)) h1 (decide_eq_true ((hp i h1).1 (of_decide_eq_true h3))) fun j hj=>decide_eq_false fun e=>of_decide_eq_false (h4 j hj) ((hp j (by omega)).2 e)).symm
  by_cases RP:1≤t∧t≤9
  · have hs:Bh (fun x:aa=>IntKind.i64.wrap (x.ag - t)) L:=tr (f:=aa.abs) rfl (zo h RP)
    have:=xS hs
    rwa [e] at this
  · have:=CK (c:=fun x:aa=>IntKind.i64.wrap (x.ag - t)) (L:=L) fun j hj h0=>by
      have h1:=gI j hj
      have h2:=(hp j hj).1 h0
      omega
    rw[e] at this
    rw[this.1,this.2]
    exact⟨rfl,fun h=>by cases h⟩
end Go.Proofs.YtbjakddkfgjkaaaGreat.Fw
namespace Go.Proofs.YtbjakddkfgjkaaaGreat.Fw
theorem mb {x:ba}(h:bW x=0):0≤jI x∧jI x≤1048576:=by
  obtain⟨_,_,_,_,h5,h6,h7,_,h9⟩:=hG h
  unfold jI
  split
  · rename_i h0
    have:=iR (h9 0 h0)
    omega
  · omega
end Go.Proofs.YtbjakddkfgjkaaaGreat.Fw
namespace Go.Proofs.YtbjakddkfgjkaaaGreat.Fw
open Go.RowKit
def gN (d:aY):aY:=if 0<d.line.length∧d.aA<1073741824 then ⟨d.name,d.line.getD 0 default,d.aA+1,d.line.drop 1⟩ else ⟨d.name,0,d.aA,[]⟩
def gi (l:List Int)(who:Int):List Int:=l.filter fun z=>!decide (z=who)
def kC (who:Int)(d:aY):aY:=if d.ar=who then gN ⟨d.name,d.ar,d.aA,gi d.line who⟩ else ⟨d.name,d.ar,d.aA,gi d.line who⟩
def j3 (l:List aY)(who:Int):List aY×Int:=if ¬bB l=0 then ([],bB l) else if who<1∨9<who then ([],2) else (l.map (kC who),0)
theorem Fu {d:aY}(h:cp d=true){who:Int}{k:Nat}(hk:aQ (fun z=>decide (z=who)) d.line=(k:Int)):d.line.take k++d.line.drop (k+1)=gi d.line who:=by
  simp only[cp,Bool.and_eq_true] at h
  have Oq:=di h.1
  rcases gJ (fun z=>decide (z=who)) d.line with ⟨h1,_⟩|⟨i,h1,h2,h3,h4⟩
  · omega
  · have:i=k:=by omega
    subst this
    refine filter_one (p:=fun z=>decide (z=who)) h1 h3 fun j hj EP=>?_
    rcases Nat.lt_or_gt_of_ne EP with h5|h5
    · exact h4 j h5
    · refine decide_eq_false fun e=>?_
      have h6:=Oq j hj
      simp only[dy,Bool.and_eq_true,Bool.not_eq_true',List.any_eq_false,decide_eq_true_eq] at h6
      refine h6.2.2 (d.line.getD i default) ?_ ((of_decide_eq_true h3).trans e.symm)
      rw[List.getD_eq_getElem?_getD,List.getElem?_eq_getElem h1]
      refine List.mem_iff_getElem?.2 ⟨i,?_⟩
      rw[List.getElem?_take,if_pos h5,List.getElem?_eq_getElem h1]
      rfl
theorem wM {l:List Int}{who:Int}(h:aQ (fun z=>decide (z=who)) l<0):gi l who=l:=by
  rcases gJ (fun z=>decide (z=who)) l with ⟨h1,_⟩|⟨i,_,h2,_⟩
  · exact rK h1
  · omega
def eJ (x:ae):ae:=if 0<x.line.n∧x.aA<1073741824 then ⟨x.name,x.line.at 0,x.aA+1,⟨gA x.line.A x.line.c 1 1,x.line.c - 1,x.line.xs.drop 1⟩⟩ else ⟨x.name,0,x.aA,Sl.nil⟩
theorem rN (x:ae):(eJ x).abs=gN x.abs:=by
  unfold eJ gN
  have h1:x.abs.line=x.line.xs:=rfl
  have h2:x.abs.aA=x.aA:=rfl
  rw[h1,h2]
  split<;>rfl
theorem bq.off {w:World}{a:Addr}{vs:List Value}(h:bq w a vs)(o:Nat):bq w (a.add o) (vs.drop o):=by
  have:=h.part o vs.length
  rwa [List.take_of_length_le (by rw[List.length_drop];omega)] at this
theorem Sl.rd.IK {B:Nat→Prop}{w:World}{s:Sl Int}(h:s.rd B w)(hn:0<s.n):Sl.rd B w (⟨gA s.A s.c 1 1,s.c - 1,s.xs.drop 1⟩:Sl Int):=by
  have hl:(s.xs.drop 1).length=s.n - 1:=List.length_drop ..
  refine⟨by show (s.xs.drop 1).length≤s.c - 1;have:=h.1;omega,by show s.c - 1≤maxLen;have:=h.2.1;omega,fun i x hx=>?_⟩
  rw[List.getElem?_drop] at hx
  obtain⟨⟨a,ha,hB,hc⟩,_⟩:=h.2.2 (1+i) x hx
  have hi:1+i<s.n:=(List.getElem?_eq_some_iff.1 hx).1
  have lr: ¬s.c=1:=by have:=h.1;omega
  refine⟨⟨a.add 1,?_,by rw[j9];exact hB,?_⟩,trivial⟩
  · show gA s.A s.c 1 1=_
    unfold gA
    rw[if_neg lr,ha]
    rfl
  · rw[tV]
    have e:(1+i)*aR.size Int=1+i*aR.size Int:=by show (1+i)*1=1+i*1;omega
    rw[←e]
    exact hc
end Go.Proofs.YtbjakddkfgjkaaaGreat.Fw
namespace Go.Proofs.YtbjakddkfgjkaaaGreat.Fw
open Go.RowKit
def iI:iy:=⟨0,[]⟩
def gW (x:iy)(i:Int):iy×Int:=
  if ¬cT x=0 then (iI,cT x) else if i<x.base∨cD x<i then (iI,2) else if 1073741424<i then (iI,8) else (⟨i,x.entries.drop (i - x.base).toNat⟩,0)
def cm (x:iy)(i many:Int):List ByteArray×Int:=
  if ¬cT x=0 then ([],cT x) else if i<x.base∨many<0 then ([],2) else ((x.entries.drop (i - x.base).toNat).take many.toNat,0)
def pJ (E:List ByteArray)(k:Nat)(s:ByteArray):List ByteArray:=if k<E.length∧E.getD k default=s then E else E.take k++[s]
def eT:List ByteArray→Nat→List ByteArray→List ByteArray×Int
  |E,_,[]=>(E,0)
  |E,k,s::r=>if ¬(aq s).2=0 then ([],(aq s).2) else eT (pJ E k s) (k+1) r
def de (x:iy)(behind:Int)(more:List ByteArray):iy×Int:=
  if ¬cT x=0 then (iI,cT x) else if behind<0∨1073741824<behind then (iI,2) else if 400<more.length then (iI,1) else if cD x<behind then (iI,13) else
  if ¬(eT x.entries (behind - x.base).toNat (more.drop (x.base - behind).toNat)).2=0 then (iI,(eT x.entries (behind - x.base).toNat (more.drop (x.base - behind).toNat)).2) else
  if 400<(eT x.entries (behind - x.base).toNat (more.drop (x.base - behind).toNat)).1.length then (iI,8) else
  (⟨x.base,(eT x.entries (behind - x.base).toNat (more.drop (x.base - behind).toNat)).1⟩,0)
end Go.Proofs.YtbjakddkfgjkaaaGreat.Fw
namespace Go.Proofs.YtbjakddkfgjkaaaGreat.Fw
theorem Fv {α:Type}{l:List α}{m d:Nat}(h:l.length=d):l.take (if m<d then m else d)=l.take m:=by
  split
  · rfl
  · rw[List.take_of_length_le (by omega),List.take_of_length_le (by omega)]
theorem rP {E:Sl ByteArray}{d k:Nat}(h:d+k<E.n){j:Nat}(hj:j=d+k):(E.xs.drop d).take k++[E.at j]=(E.xs.drop d).take (k+1):=by
  subst hj
  have h1:(E.xs.drop d)[k]? =some (E.at (d+k)):=by rw[List.getElem?_drop];exact Sl.eA h
  rw[List.take_add_one,h1]
  rfl
end Go.Proofs.YtbjakddkfgjkaaaGreat.Fw
namespace Go.Proofs.YtbjakddkfgjkaaaGreat.Fw
end Go.Proofs.YtbjakddkfgjkaaaGreat.Fw
namespace Go.Proofs.YtbjakddkfgjkaaaGreat.Fw
theorem Pn {E:List ByteArray}{k:Nat}{M:Sl ByteArray}{i:Nat}(hi:i<M.n)(h:(aq (M.at i)).2=0):eT E k (M.xs.drop i)=eT (pJ E k (M.at i)) (k+1) (M.xs.drop (i+1)):=by
  have e:M.xs.drop i=M.at i::M.xs.drop (i+1):=by
    have h1:=Sl.eA hi
    have hl:i<M.xs.length:=hi
    rw[List.drop_eq_getElem_cons hl]
    rw[List.getElem?_eq_getElem hl] at h1
    injection h1 with h1
    rw[h1]
  rw[e]
  simp only[eT,h,not_true_eq_false,if_false]
theorem rQ {E:List ByteArray}{k:Nat}{M:Sl ByteArray}{i:Nat}(hi:i<M.n)(h: ¬(aq (M.at i)).2=0):eT E k (M.xs.drop i)=([],(aq (M.at i)).2):=by
  have e:M.xs.drop i=M.at i::M.xs.drop (i+1):=by
    have h1:=Sl.eA hi
    have hl:i<M.xs.length:=hi
    rw[List.drop_eq_getElem_cons hl]
    rw[List.getElem?_eq_getElem hl] at h1
    injection h1 with h1
    rw[h1]
  rw[e]
  simp only[eT,h,not_false_eq_true,if_true]
theorem jt {E:List ByteArray}{k:Nat}{M:Sl ByteArray}{i:Nat}(hi:M.n≤i):eT E k (M.xs.drop i)=(E,0):=by
  rw[List.drop_eq_nil_of_le (show M.xs.length≤i from hi)];rfl
theorem n9 {E:List ByteArray}{k:Nat}{s:ByteArray}(h1:k<E.length)(h2:E.getD k default=s):pJ E k s=E:=by unfold pJ;rw[if_pos ⟨h1,h2⟩]
theorem fa {E:List ByteArray}{k:Nat}{s:ByteArray}(h: ¬(k<E.length∧E.getD k default=s)):pJ E k s=E.take k++[s]:=by unfold pJ;rw[if_neg h]
theorem dv {s:ByteArray}(h:(aq s).2=0):s.size≤9223372036854775807:=by have:=(m0 h).2;omega
theorem Sl.rd.drop {α:Type}[aR α]{B:Nat→Prop}{w:World}{s:Sl α}(h:s.rd B w)(k:Nat)(hk:k≤s.n):Sl.rd B w (⟨gA s.A s.c k (aR.size α),s.c - k,s.xs.drop k⟩:Sl α):=by
  have hl:(s.xs.drop k).length=s.n - k:=List.length_drop ..
  refine⟨by show (s.xs.drop k).length≤s.c - k;have:=h.1;omega,by show s.c - k≤maxLen;have:=h.2.1;omega,fun i x hx=>?_⟩
  rw[List.getElem?_drop] at hx
  obtain⟨⟨a,ha,hB,hc⟩,h2⟩:=h.2.2 (k+i) x hx
  have hi:k+i<s.n:=(List.getElem?_eq_some_iff.1 hx).1
  have lr: ¬s.c=k:=by have:=h.1;omega
  refine⟨⟨a.add (k*aR.size α),?_,by rw[j9];exact hB,?_⟩,h2⟩
  · show gA s.A s.c k (aR.size α)=_
    unfold gA
    rw[if_neg lr,ha]
    rfl
  · rw[tV, ←Nat.add_mul]
    exact hc
end Go.Proofs.YtbjakddkfgjkaaaGreat.Fw
namespace Go.Proofs.YtbjakddkfgjkaaaGreat.Fw
theorem zp {m:Sl ByteArray}{k d:Nat}(h:k=d∨(m.n≤k∧m.n≤d)):m.xs.drop k=m.xs.drop d:=by
  rcases h with h|⟨h1,h2⟩
  · rw[h]
  · rw[List.drop_eq_nil_of_le (show m.xs.length≤k from h1),List.drop_eq_nil_of_le (show m.xs.length≤d from h2)]
end Go.Proofs.YtbjakddkfgjkaaaGreat.Fw
namespace Go.Proofs.YtbjakddkfgjkaaaGreat.Fw
open Go.RowKit
def bc (l:List Int):ByteArray:=l.foldl (fun b n=>b++(cf n).1) emp
def bj (s:ByteArray):ByteArray:=(gr s).1
theorem eo {α β:Type}[Inhabited α](f:β→α→β)(b:β)(l:List α){i:Nat}(h:i<l.length):(l.take (i+1)).foldl f b=f ((l.take i).foldl f b) (l.getD i default):=by
  rw[List.take_add_one,List.foldl_append,List.getElem?_eq_getElem h,List.getD_eq_getElem?_getD,List.getElem?_eq_getElem h]
  rfl
theorem DE {α β:Type}(f:β→α→β)(b:β)(l:List α){i:Nat}(h:l.length≤i):(l.take i).foldl f b=l.foldl f b:=by rw[List.take_of_length_le h]
theorem uk (x:ByteArray):x++emp=x:=by
  apply ByteArray.ext
  simp[emp]
theorem um {l:List Int}{i:Nat}(h:i<l.length):bc (l.take i)++(cf (l.getD i default)).1=bc (l.take (i+1)):=by
  unfold bc
  rw[eo _ _ l h]
theorem eM {w:World}{b ty:Nat}(L:List Int)(h:w.heap[b]? =some (.cells (L.map (Value.int .i64)).toArray ty (0,0)))(hl:L.length≤65536):Sl.rd bH w (⟨some ⟨b,0,none⟩,L.length,L⟩:Sl Int):=by
  refine⟨Nat.le_refl _,by unfold maxLen;show L.length≤_;omega,fun i x hx=>⟨⟨_,rfl,trivial,?_⟩,trivial⟩⟩
  have hc:bq w ⟨b,0,none⟩ (L.map (Value.int .i64)):=l9 (ty:=ty) h
  have h1:=hc.part (i*aR.size Int) 1
  have IG:L[i]? =some x:=hx
  have e:((L.map (Value.int .i64)).drop (i*aR.size Int)).take 1=aR.cells x:=by
    rw[show i*aR.size Int=i from Nat.mul_one i, ←List.map_drop]
    cases hd:L.drop i with
    |nil=>exact absurd (List.drop_eq_nil_iff.1 hd) (by have:=(List.getElem?_eq_some_iff.1 IG).1;omega)
    |cons y r=>
      have:L[i]? =some y:=by rw[←List.head?_drop,hd];rfl
      rw[IG] at this
      cases this
      rfl
  rw[e] at h1
  exact h1
theorem bP (l:List Int):(bc l).size≤6*l.length:=by
  have key: ∀(l:List Int) (x:ByteArray),(l.foldl (fun b n=>b++(cf n).1) x).size≤x.size+6*l.length:=by
    intro l
    induction l with
    |nil=>intro x;simp
    |cons n r ih=>
      intro x
      simp only[List.foldl_cons,List.length_cons]
      have h1:=ih (x++(cf n).1)
      have h2:=eB n
      rw[ByteArray.size_append] at h1
      omega
  have:=key l emp
  have he:emp.size=0:=rfl
  unfold bc
  omega
theorem cE (s:ByteArray):(bj s).size≤5006:=by
  unfold bj gr
  split
  · show emp.size≤_
    have he:emp.size=0:=rfl
    omega
  · show ((cf (s.size:Int)).1++s).size≤_
    rw[ByteArray.size_append]
    have:=eB (s.size:Int)
    omega
def kY (b:ByteArray)(d:aY):ByteArray:=b++bj d.name++bc [d.ar,d.aA,(d.line.length:Int)]++bc d.line
def kD (b:ByteArray)(d:aG):ByteArray:=b++bj d.name++bj d.value++bc [d.version]
def nt (b:ByteArray)(d:aK):ByteArray:=b++bc [d.seq,d.aE.code,d.aE.n]++bj d.aE.text
def nu (b:ByteArray)(d:az):ByteArray:=d.ab.foldl nt (b++bc [d.ag,d.id,d.aC,d.last,(d.ab.length:Int)])
def jg (s:aZ):ByteArray:=
  s.af.foldl nu (s.an.foldl kD (s.aj.foldl kY (bc [s.index,(s.aj.length:Int)])++bc [(s.an.length:Int)])++bc [(s.af.length:Int)])
def gH (s:aZ):ByteArray×Int:=if bA s=0 then (jg s++gE (jg s),0) else (emp,bA s)
theorem Fx {B:Nat→Prop}{w:World}{s:Sl Int}{b ty:Nat}{x:ByteArray}(h:s.rd B w)(hb:(bh b ty [.string x]).p w):s.rd (fun q=> ¬q=b) w:=by
  refine⟨h.1,h.2.1,fun i v hv=>?_⟩
  obtain⟨⟨a,ha,hB,hc⟩,_⟩:=h.2.2 i v hv
  refine⟨⟨a,ha,fun e=>?_,hc⟩,trivial⟩
  have h1:=hc 0 (.int .i64 v) rfl
  have AQ:w.heap[b]? =some (.cells #[Value.string x] ty (0,0)):=hb
  have e2:((a.add (i*aR.size Int)).add 0).block=b:=by rw[j9,j9];exact e
  revert h1
  simp only[World.cell?,e2,AQ]
  intro h1
  split at h1
  · cases h1
  obtain⟨h2,h3⟩:=Array.getElem?_eq_some_iff.1 h1
  have:((a.add (i*aR.size Int)).add 0).off=0:=by simp at h2;exact h2
  simp[this] at h3
theorem zq {d:az}(h:a9 d=true):d.ab.length≤4:=by
  have hk:=di h
  have key: ∀j,j<d.ab.length→d.aC+(j:Int)+1≤(d.ab.getD j default).seq:=by
    intro j
    induction j with
    |zero=>
      intro hj
      have h1:=hk 0 hj
      simp only[mZ,decide_eq_true_eq] at h1
      omega
    |succ j ih=>
      intro hj
      have h1:=hk (j+1) hj
      simp only[mZ,decide_eq_true_eq] at h1
      have h2:=h1.2.2.1 (by omega)
      have h3:=ih (by omega)
      have e:j+1 - 1=j:=rfl
      rw[e] at h2
      omega
  rcases Nat.lt_or_ge 4 d.ab.length with h4|h4
  · have h1:=key 4 h4
    have h2:=hk 4 h4
    simp only[mZ,decide_eq_true_eq] at h2
    omega
  · exact h4
theorem xV {α:Type}[Inhabited α]{s:Sl α}{q:Nat}(h: ¬q<s.n):s.at q=default:=by
  unfold Sl.at
  rw[List.getD_eq_getElem?_getD,List.getElem?_eq_none (by unfold Sl.n at h;omega)]
  rfl
theorem mJ {x:aZ}(h:bA x=0):x.aj.length≤5∧x.an.length≤5∧x.af.length≤4∧(∀j,j<x.aj.length→(x.aj.getD j default).line.length≤3)∧(∀j,j<x.af.length→(x.af.getD j default).ab.length≤4):=by
  have hs:bC x.af x.index=0:=by
    unfold bA at h
    split at h
    · assumption
    · exact h
  have hl:bB x.aj=0:=by
    unfold bA at h
    rw[if_pos hs] at h
    split at h
    · assumption
    · exact h
  have hp:cy x.an=0:=by
    unfold bA at h
    rw[if_pos hs,if_pos hl] at h
    exact h
  have h1:=dm hs
  have RR:x.aj.length≤5:=by
    unfold bB at hl
    split at hl
    · cases hl
    · omega
  have HE:x.an.length≤5:=by
    unfold cy at hp
    split at hp
    · cases hp
    · omega
  refine⟨RR,HE,h1.2.2.1,fun j hj=>?_,fun j hj=>?_⟩
  · unfold bB at hl
    rw[if_neg (by omega)] at hl
    have h2:=kc hl j hj
    unfold b9 at h2
    split at h2
    · cases h2
    · rename_i h3
      have h4:cp (x.aj.getD j default)=true:=by
        cases h5:cp (x.aj.getD j default) with
        |true=>rfl
        |false=>exact absurd (.inr (.inr (.inr h5))) h3
      simp only[cp,Bool.and_eq_true,decide_eq_true_eq] at h4
      exact h4.2.1
  · have h2:=h1.2.2.2 j hj
    unfold da at h2
    split at h2
    · cases h2
    · split at h2
      · cases h2
      · rename_i h3
        refine zq ?_
        cases h4:a9 (x.af.getD j default) with
        |true=>rfl
        |false=>exact absurd h4 h3
end Go.Proofs.YtbjakddkfgjkaaaGreat.Fw
namespace Go.Proofs.YtbjakddkfgjkaaaGreat.Fw
open Go.RowKit
def dW {α:Type}(p:α→Bool)(x:α)(l:List α):List α:=l.take (l.findIdx p)++[x]++l.drop (l.findIdx p)
theorem oa {α:Type}{p:α→Bool}{l:List α}(h:l.any p=false):l.findIdx p=l.length:=by
  have h1: ¬l.findIdx p<l.length:=fun dX=>by
    have:=List.findIdx_lt_length.1 dX
    rw[List.any_eq_true.2 this] at h
    cases h
  have:=List.findIdx_le_length (p:=p) (xs:=l)
  omega
theorem Fy {α:Type}{p:α→Bool}{x:α}{l:List α}(h:l.any p=false):dW p x l=l++[x]:=by
  unfold dW
  rw[oa h,List.take_length,List.drop_length,List.append_nil]
theorem HF {α:Type}{p:α→Bool}{x y:α}{l:List α}(h:l.any p=false)(hy:p y=true):dW p x (l++[y])=l++[x]++[y]:=by
  unfold dW
  have e:(l++[y]).findIdx p=l.length:=by
    rw[List.findIdx_append,oa h,if_neg (Nat.lt_irrefl _)]
    simp[List.findIdx_cons,hy]
  rw[e,List.take_left,List.drop_left]
theorem Fz {α:Type}{p:α→Bool}{x y:α}{l:List α}(h:l.any p=true):dW p x (l++[y])=dW p x l++[y]:=by
  have dX:l.findIdx p<l.length:=List.findIdx_lt_length.2 (List.any_eq_true.1 h)
  unfold dW
  have e:(l++[y]).findIdx p=l.findIdx p:=by rw[List.findIdx_append,if_pos dX]
  rw[e,List.take_append_of_le_length (Nat.le_of_lt dX),List.drop_append_of_le_length (Nat.le_of_lt dX)]
  simp
theorem CO {α β:Type}(f:α→β)(p:β→Bool)(x:α)(L:List α):(dW (fun y=>p (f y)) x L).map f=dW p (f x) (L.map f):=by
  unfold dW
  have e:(L.map f).findIdx p=L.findIdx (fun y=>p (f y)):=by rw[List.findIdx_map];rfl
  rw[e]
  simp[List.map_take,List.map_drop]
theorem HG {α:Type}(p:α→Bool)(x:α)(l:List α):(dW p x l).length=l.length+1:=by
  have:=List.findIdx_le_length (p:=p) (xs:=l)
  unfold dW
  simp only[List.length_append,List.length_take,List.length_drop,List.length_cons,List.length_nil]
  omega
theorem ko {α:Type}{p:α→Bool}{x y:α}{l:List α}(h:y∈dW p x l):y=x∨y∈l:=by
  unfold dW at h
  simp only[List.mem_append,List.mem_singleton] at h
  rcases h with (h|h)|h
  · exact .inr (List.mem_of_mem_take h)
  · exact .inl h
  · exact .inr (List.mem_of_mem_drop h)
theorem Bi {α:Type}[Inhabited α]{c:α→Int}{L:List α}(h:Bh c L)(hz: ∀j,j<L.length→ ¬c (L.getD j default)=0){p:α→Bool}(hp: ∀j,j<L.length→p (L.getD j default)=decide (0<c (L.getD j default))):L.findIdx p=eQ c L:=by
  obtain⟨h1,h2⟩:=zh h
  rcases Nat.lt_or_ge (eQ c L) L.length with dX|KY
  · rw[List.findIdx_eq dX]
    have hg: ∀j (hj:j<L.length),L[j]=L.getD j default:=fun j hj=>by rw[List.getD_eq_getElem?_getD,List.getElem?_eq_getElem hj];rfl
    refine⟨?_,fun j hj=>?_⟩
    · rw[hg _ dX,hp _ dX]
      have:=h2 _ (Nat.le_refl _) dX
      have:=hz _ dX
      exact decide_eq_true (by omega)
    · rw[hg _ (by omega),hp _ (by omega)]
      have:=h1 j hj
      exact decide_eq_false (by omega)
  · have hle:=n5 c L
    have he:eQ c L=L.length:=by omega
    rw[he]
    refine oa ?_
    rw[List.any_eq_false]
    intro x hx
    obtain⟨j,hj,rfl⟩:=List.getElem_of_mem hx
    have hg:L[j]=L.getD j default:=by rw[List.getD_eq_getElem?_getD,List.getElem?_eq_getElem hj];rfl
    intro h9
    rw[hg,hp _ hj] at h9
    have ir:=of_decide_eq_true h9
    have:=h1 j (by omega)
    omega
theorem xW {α:Type}{p:α→Bool}{x:α}{L:List α}{i:Nat}(h:L.findIdx p=i):L.take i++[x]++L.drop i=dW p x L:=by unfold dW;rw[h]
def ef (l:List az)(ag:Int):Int:=aQ (fun x:az=>decide (x.ag=ag)) l
def dg (l:List az)(index ag:Int):List az×cQ×Int:=
  if ¬bC l index=0 then ([],gl,bC l index) else
  if ag<1∨9<ag∨1073741824≤index then ([],gl,2) else
  if 0≤ef l ag then
    (l.set (ef l ag).toNat { l.getD (ef l ag).toNat default with last:=index+1 },⟨7,(l.getD (ef l ag).toNat default).id,emp⟩,0)
  else if 4≤l.length then (l,⟨8,0,emp⟩,0) else
  (dW (fun x:az=>decide (ag<x.ag)) ⟨ag,index+1,0,index+1,[]⟩ l,⟨0,index+1,emp⟩,0)
def pK (d:az)(c:aF):Int:=if d.aC<c.aC then c.aC else d.aC
def kZ (d:az)(c:aF):List aK:=d.ab.filter fun k=>!decide (k.seq≤pK d c)
def CP (d:az)(index:Int)(c:aF):az:=⟨d.ag,d.id,pK d c,index+1,kZ d c⟩
def ld (l:List aK)(seq:Int):Int:=aQ (fun k:aK=>decide (k.seq=seq)) l
def rR (d:az)(c:aF):cQ×Bool:=
  if c.seq≤pK d c then (⟨12,0,emp⟩,false) else
  if 0≤ld (kZ d c) c.seq then (((kZ d c).getD (ld (kZ d c) c.seq).toNat default).aE,false) else
  if pK d c+4<c.seq then (⟨2,0,emp⟩,false) else (gl,true)
def dn (l:List az)(index:Int)(c:aF):List az×cQ×Bool×Int:=
  if ¬bC l index=0 then ([],gl,false,bC l index) else
  if 1073741824≤index∨c.seq<1∨1048576<c.seq∨c.aC<0∨c.seq≤c.aC then ([],gl,false,2) else
  if ef l c.ag<0∨ ¬(l.getD (ef l c.ag).toNat default).id=c.aD then (l,⟨11,0,emp⟩,false,0) else
  (l.set (ef l c.ag).toNat (CP (l.getD (ef l c.ag).toNat default) index c),(rR (l.getD (ef l c.ag).toNat default) c).1,(rR (l.getD (ef l c.ag).toNat default) c).2,0)
def mK (d:az)(seq:Int)(r:cQ):az:={ d with ab:=dW (fun k:aK=>decide (seq<k.seq)) ⟨seq,r⟩ d.ab }
def fy (l:List az)(index ag seq:Int)(r:cQ):List az×Int:=
  if ¬bC l index=0 then ([],bC l index) else
  if ef l ag<0 then ([],11) else
  if 0≤ld (l.getD (ef l ag).toNat default).ab seq then ([],7) else
  if a9 (mK (l.getD (ef l ag).toNat default) seq r)=false then ([],2) else
  (l.set (ef l ag).toNat (mK (l.getD (ef l ag).toNat default) seq r),0)
theorem Bj {d:az}(h:a9 d=true):d.ab.filter (fun k=>!decide (k.seq≤d.aC))=d.ab:=by
  have hk:=di h
  rw[List.filter_eq_self]
  intro x hx
  obtain⟨j,hj,rfl⟩:=List.getElem_of_mem hx
  have h1:=hk j hj
  simp only[mZ,decide_eq_true_eq] at h1
  rw[List.getD_eq_getElem?_getD,List.getElem?_eq_getElem hj] at h1
  simp only[Option.getD_some] at h1
  simp
  omega
theorem oO {d:az}(h:a9 d=true){k:aK}(hk:k∈d.ab):d.aC<k.seq∧k.seq≤d.aC+4:=by
  obtain⟨j,hj,rfl⟩:=List.getElem_of_mem hk
  have h1:=di h j hj
  simp only[mZ,decide_eq_true_eq] at h1
  rw[List.getD_eq_getElem?_getD,List.getElem?_eq_getElem hj] at h1
  simp only[Option.getD_some] at h1
  omega
theorem DF {d:az}(h:a9 d=true): ∀i,0<i→i<d.ab.length→(d.ab.getD (i - 1) default).seq<(d.ab.getD i default).seq:=fun i h0 hi=>by
  have h1:=di h i hi
  simp only[mZ,decide_eq_true_eq] at h1
  exact h1.2.2.1 h0
def mm (l:List aG)(t:ByteArray):Int:=aQ (fun x:aG=>decide (x.name=t)) l
def cA (l:List aG)(t v:ByteArray):List aG×cQ×Int:=
  if ¬cy l=0 then ([],gl,cy l) else if ee t=false then ([],gl,4) else if 12<v.size then ([],gl,1) else
  if 0≤mm l t then
    (if 1073741824≤(l.getD (mm l t).toNat default).version then (l,⟨8,0,emp⟩,0) else
     (l.set (mm l t).toNat ⟨(l.getD (mm l t).toNat default).name,v,(l.getD (mm l t).toNat default).version+1⟩,⟨0,(l.getD (mm l t).toNat default).version+1,emp⟩,0))
  else if 5≤l.length then (l,⟨8,0,emp⟩,0) else
  (dW (fun x:aG=>Op.bytesLess t.toList x.name.toList) ⟨t,v,1⟩ l,⟨0,1,emp⟩,0)
def iA (l:List aY)(t:ByteArray):Int:=aQ (fun x:aY=>decide (x.name=t)) l
def dw (l:List aY)(t:ByteArray)(who:Int):Int:=if ¬bB l=0 then bB l else if ee t=false then 4 else if who<1∨9<who then 2 else 0
def uo (d:aY)(who:Int):Bool:=d.line.any fun z=>decide (z=who)
def eU (d:aY)(who:Int)(wait:Bool):aY×cQ:=
  if d.ar=who then (d,⟨0,d.aA,emp⟩) else
  if d.ar=0 then (if 1073741824≤d.aA then (d,⟨8,0,emp⟩) else (⟨d.name,who,d.aA+1,d.line⟩,⟨0,d.aA+1,emp⟩)) else
  if wait=false∨uo d who=true then (d,⟨10,d.ar,emp⟩) else
  if 3≤d.line.length then (d,⟨8,0,emp⟩) else (⟨d.name,d.ar,d.aA,d.line++[who]⟩,⟨10,d.ar,emp⟩)
def bZ (l:List aY)(t:ByteArray)(who:Int)(wait:Bool):List aY×cQ×Int:=
  if ¬dw l t who=0 then ([],gl,dw l t who) else
  if iA l t<0 then (if 5≤l.length then (l,⟨8,0,emp⟩,0) else (dW (fun x:aY=>Op.bytesLess t.toList x.name.toList) ⟨t,who,1,[]⟩ l,⟨0,1,emp⟩,0)) else
  (l.set (iA l t).toNat (eU (l.getD (iA l t).toNat default) who wait).1,(eU (l.getD (iA l t).toNat default) who wait).2,0)
def j4 (d:aY)(who:Int):aY×cQ:=
  if d.ar=who then (gN d,⟨0,(gN d).ar,emp⟩) else
  if uo d who=true then (⟨d.name,d.ar,d.aA,gi d.line who⟩,⟨0,d.ar,emp⟩) else (d,⟨10,d.ar,emp⟩)
def dL (l:List aY)(t:ByteArray)(who:Int):List aY×cQ×Int:=
  if ¬dw l t who=0 then ([],gl,dw l t who) else
  if iA l t<0 then (l,⟨6,0,emp⟩,0) else
  (l.set (iA l t).toNat (j4 (l.getD (iA l t).toNat default) who).1,(j4 (l.getD (iA l t).toNat default) who).2,0)
end Go.Proofs.YtbjakddkfgjkaaaGreat.Fw
namespace Go.Proofs.YtbjakddkfgjkaaaGreat.Fw
open Go.RowKit
structure jJ {α:Type} (p:α→Bool) (x:α) (S:List α) (k:Nat) (b:Bool) (L:List α):Prop where
  le:k≤S.length
  any:(S.take k).any p=b
  eq:L=if b=true then dW p x (S.take k) else S.take k
theorem jJ.start {α:Type}(p:α→Bool)(x:α)(S:List α):jJ p x S 0 false []:=⟨Nat.zero_le _,rfl,rfl⟩
theorem jJ.more {α:Type}[Inhabited α]{p:α→Bool}{x:α}{S L:List α}{k:Nat}{b:Bool}(h:jJ p x S k b L)(hb:b=true)(hk:k<S.length):jJ p x S (k+1) true (L++[S.getD k default]):=by
  subst hb
  refine⟨hk,?_,?_⟩
  · rw[eY hk,List.any_append,h.any];rfl
  · have h1:=h.eq
    rw[if_pos rfl] at h1⊢
    rw[eY hk,Fz h.any,h1]
theorem jJ.ES {α:Type}[Inhabited α]{p:α→Bool}{x:α}{S L:List α}{k:Nat}{b:Bool}(h:jJ p x S k b L)(hb:b=false)(hk:k<S.length)(hy:p (S.getD k default)=true):jJ p x S (k+1) true (L++[x]++[S.getD k default]):=by
  subst hb
  refine⟨hk,?_,?_⟩
  · rw[eY hk,List.any_append,h.any,List.any_cons,hy];rfl
  · have h1:=h.eq
    rw[if_neg (by simp)] at h1
    rw[if_pos rfl,eY hk,HF h.any hy,h1]
theorem jJ.skip {α:Type}[Inhabited α]{p:α→Bool}{x:α}{S L:List α}{k:Nat}{b:Bool}(h:jJ p x S k b L)(hb:b=false)(hk:k<S.length)(hy:p (S.getD k default)=false):jJ p x S (k+1) false (L++[S.getD k default]):=by
  subst hb
  refine⟨hk,?_,?_⟩
  · rw[eY hk,List.any_append,h.any,List.any_cons,hy];rfl
  · have h1:=h.eq
    rw[if_neg (by simp)] at h1⊢
    rw[eY hk,h1]
theorem jJ.len {α:Type}{p:α→Bool}{x:α}{S L:List α}{k:Nat}{b:Bool}(h:jJ p x S k b L):L.length≤k+1:=by
  have h1:=h.eq
  have h2:=h.le
  split at h1
  · rw[h1,HG,List.length_take];omega
  · rw[h1,List.length_take];omega
theorem jJ.HH {α:Type}{p:α→Bool}{x:α}{S L:List α}{k:Nat}{b:Bool}(h:jJ p x S k b L)(hb:b=true)(hk:S.length≤k):L=dW p x S:=by
  subst hb
  have h1:=h.eq
  rwa [if_pos rfl,List.take_of_length_le hk] at h1
theorem jJ.HI {α:Type}{p:α→Bool}{x:α}{S L:List α}{k:Nat}{b:Bool}(h:jJ p x S k b L)(hb:b=false)(hk:S.length≤k):L++[x]=dW p x S:=by
  subst hb
  have h1:=h.eq
  have h2:=h.any
  rw[if_neg (by simp),List.take_of_length_le hk] at h1
  rw[List.take_of_length_le hk] at h2
  rw[Fy h2,h1]
theorem uq {α:Type}[Inhabited α]{p:α→Bool}{L:List α}(h:aQ p L<0): ∀j,j<L.length→p (L.getD j default)=false:=by
  rcases gJ p L with ⟨_,h2⟩|⟨i,_,h2,_⟩
  · exact h2
  · omega
theorem HJ (y t:ByteArray):Op.bytesLess t.toList y.toList=decide (0<bK y t):=by
  have h:=bytes_total y t
  have h1:=xT y t
  have h2:=tq y t
  cases hb:Op.bytesLess t.toList y.toList with
  |true=>
    rw[hb] at h
    simp only[Bool.not_true,Bool.or_eq_false_iff,decide_eq_false_iff_not] at h
    refine (decide_eq_true ?_).symm
    have h3: ¬bK y t<0:=fun h4=>by rw[h1.1 h4] at h;cases h.1
    have h4: ¬bK y t=0:=fun h5=>h.2 (h2.1 h5)
    omega
  |false=>
    rw[hb] at h
    simp only[Bool.not_false,Bool.or_eq_true,decide_eq_true_eq] at h
    refine (decide_eq_false ?_).symm
    rcases h with h|h
    · have:=h1.2 h;omega
    · have:=h2.2 h;omega
theorem wN {α:Type}[Inhabited α]{L:List α}(nm:α→ByteArray){t:ByteArray}(h:Bh (fun x=>bK (nm x) t) L)(hn:aQ (fun x=>decide (nm x=t)) L<0):L.findIdx (fun x=>Op.bytesLess t.toList (nm x).toList)=eQ (fun x=>bK (nm x) t) L:=
  Bi h (fun j hj h0=>of_decide_eq_false (uq hn j hj) ((tq _ _).1 h0)) (fun j _=>HJ _ _)
theorem Sl.wO {α:Type}{y:Sl α}{L:List α}(h:y.xs=L): ∃A c,y=(⟨A,c,L⟩:Sl α):=⟨y.A,y.c,by cases y;cases h;rfl⟩
theorem mem_set {α:Type}{L:List α}{i:Nat}{x y:α}(h:y∈L.set i x):y=x∨y∈L:=(List.mem_or_eq_of_mem_set h).symm
end Go.Proofs.YtbjakddkfgjkaaaGreat.Fw
namespace Go.Proofs.YtbjakddkfgjkaaaGreat.Fw
open Go.RowKit
abbrev RQ:=ByteArray×Int
def ah (q:RQ):Int×RQ:=if q.2=0 then ((bf q.1).1,((bf q.1).2.1,(bf q.1).2.2)) else (0,q)
def bw (q:RQ):ByteArray×RQ:=if q.2=0 then ((dK q.1).1,((dK q.1).2.1,(dK q.1).2.2)) else (emp,q)
def al (most:Int)(q:RQ):Int×RQ:=
  if (ah q).2.2=0 then (if most<(ah q).1 then (0,((ah q).2.1,1)) else ah q) else (0,(ah q).2)
def ax {α:Type}(f:RQ→α×RQ):Nat→RQ→List α×RQ
  |0,q=>([],q)
  |n+1,q=>((ax f n q).1++[(f (ax f n q).2).1],(f (ax f n q).2).2)
def bG (q:RQ):aY×RQ:=
  let a:=bw q
  let b:=ah a.2
  let c:=ah b.2
  let m:=al 3 c.2
  let l:=ax ah m.1.toNat m.2
  (⟨a.1,b.1,c.1,l.1⟩,l.2)
def dz (q:RQ):aG×RQ:=
  let a:=bw q
  let b:=bw a.2
  let c:=ah b.2
  (⟨a.1,b.1,c.1⟩,c.2)
def ca (q:RQ):aK×RQ:=
  let a:=ah q
  let b:=ah a.2
  let c:=ah b.2
  let d:=bw c.2
  (⟨a.1,⟨b.1,c.1,d.1⟩⟩,d.2)
def aX (q:RQ):az×RQ:=
  let a:=ah q
  let b:=ah a.2
  let c:=ah b.2
  let d:=ah c.2
  let m:=al 4 d.2
  let l:=ax ca m.1.toNat m.2
  (⟨a.1,b.1,c.1,d.1,l.1⟩,l.2)
def ep (q:RQ):aZ×RQ:=
  let a:=ah q
  let m1:=al 5 a.2
  let l1:=ax bG m1.1.toNat m1.2
  let m2:=al 5 l1.2
  let l2:=ax dz m2.1.toNat m2.2
  let m3:=al 4 l2.2
  let l3:=ax aX m3.1.toNat m3.2
  (⟨a.1,l1.1,l2.1,l3.1⟩,l3.2)
def cR:aZ:=⟨0,[],[],[]⟩
def bb (s:ByteArray):aZ×Int:=
  if 5000<s.size then (cR,1) else if s.size<4 then (cR,5) else
  if ¬gE (s.extract 0 (s.size - 4))=s.extract (s.size - 4) s.size then (cR,15) else
  if (ep (s.extract 0 (s.size - 4),0)).2.2=0∧ ¬(ep (s.extract 0 (s.size - 4),0)).2.1=emp then (cR,4) else
  if ¬(ep (s.extract 0 (s.size - 4),0)).2.2=0 then (cR,(ep (s.extract 0 (s.size - 4),0)).2.2) else
  if ¬bA (ep (s.extract 0 (s.size - 4),0)).1=0 then (cR,bA (ep (s.extract 0 (s.size - 4),0)).1) else
  ((ep (s.extract 0 (s.size - 4),0)).1,0)
theorem aP (q:RQ)(B:Nat)(h:q.1.size≤B):(ah q).2.1.size≤B:=by
  unfold ah
  split
  · have:=eH q.1
    simp only
    omega
  · exact h
theorem cW (q:RQ)(B:Nat)(h:q.1.size≤B):(bw q).2.1.size≤B∧(bw q).1.size≤B:=by
  unfold bw
  split
  · have:=n7 q.1
    simp only
    omega
  · exact⟨h,by rw[aL];omega⟩
theorem bt (m:Int)(q:RQ)(B:Nat)(h:q.1.size≤B):(al m q).2.1.size≤B:=by
  have:=aP q B h
  unfold al
  split
  · split<;>exact this
  · exact this
theorem kq (m:Int)(hm:0≤m)(q:RQ):0≤(al m q).1∧(al m q).1≤m:=by
  unfold al
  split
  · rename_i h
    split
    · exact⟨Int.le_refl _,hm⟩
    · rename_i h2
      refine⟨?_,by omega⟩
      unfold ah
      split
      · exact (eH q.1).1
      · exact Int.le_refl _
  · exact⟨Int.le_refl _,hm⟩
theorem bp {α:Type}{f:RQ→α×RQ}{B:Nat}(hf: ∀q:RQ,q.1.size≤B→(f q).2.1.size≤B): ∀(n:Nat) (q:RQ),q.1.size≤B→(ax f n q).2.1.size≤B
  |0,q,h=>h
  |n+1,q,h=>hf _ (bp hf n q h)
theorem er {α:Type}(f:RQ→α×RQ): ∀(n:Nat) (q:RQ),(ax f n q).1.length=n
  |0,_=>rfl
  |n+1,q=>by simp[ax,er f n q]
theorem jK (q:RQ)(B:Nat)(h:q.1.size≤B):(bG q).2.1.size≤B:=bp (fun q h=>aP q B h) _ _ (bt _ _ B (aP _ B (aP _ B (cW q B h).1)))
theorem gO (q:RQ)(B:Nat)(h:q.1.size≤B):(dz q).2.1.size≤B:=aP _ B (cW _ B (cW q B h).1).1
theorem hZ (q:RQ)(B:Nat)(h:q.1.size≤B):(ca q).2.1.size≤B:=(cW _ B (aP _ B (aP _ B (aP q B h)))).1
theorem gw (q:RQ)(B:Nat)(h:q.1.size≤B):(aX q).2.1.size≤B:=bp (fun q h=>hZ q B h) _ _ (bt _ _ B (aP _ B (aP _ B (aP _ B (aP q B h)))))
end Go.Proofs.YtbjakddkfgjkaaaGreat.Fw
namespace Go.Proofs.YtbjakddkfgjkaaaGreat.Fw
open Go.RowKit
def xX (now:List az)(aj:List aY)(x:az):List aY:=if ef now x.ag<0 then (j3 aj x.ag).1 else aj
def rS (aj:List aY)(CQ now:List az):List aY:=CQ.foldl (xX now) aj
def lK (aj:List aY)(an:List aG)(who:Int)(o:vJ):List aY×List aG×cQ:=
  if o.kind=1∨o.kind=2 then ((bZ aj o.a who (decide (o.kind=2))).1,an,(bZ aj o.a who (decide (o.kind=2))).2.1) else
  if o.kind=3 then ((dL aj o.a who).1,an,(dL aj o.a who).2.1) else
  if o.kind=4 then (aj,an,⟨0,(fN aj o.a).1,emp⟩) else
  if o.kind=6 then (aj,an,(l4 an o.a).1) else
  if ¬(fN aj o.a).1=who∨ ¬(fN aj o.a).2.1=o.n then (aj,an,⟨10,(fN aj o.a).1,emp⟩) else
  (aj,(cA an o.a o.b).1,(cA an o.a o.b).2.1)
def cx (s:aZ):List az:=(lJ s.af s.index).1
def cG (s:aZ):List aY:=rS s.aj s.af (cx s)
def rT (s:aZ)(c:aF):List az×cQ×Bool×Int:=dn (cx s) s.index c
def Nx (s:aZ)(c:aF):List aY×List aG×cQ:=lK (cG s) s.an c.ag c.op
def cX (s:aZ)(c:aF):aZ×cQ:=
  if c.kind=1 then (⟨s.index+1,cG s,s.an,(dg (cx s) s.index c.ag).1⟩,(dg (cx s) s.index c.ag).2.1) else
  if c.kind=3 then (⟨s.index+1,rS (cG s) (cx s) (dB (cx s) s.index c.ag).1,s.an,(dB (cx s) s.index c.ag).1⟩,(dB (cx s) s.index c.ag).2.1) else
  if (rT s c).2.2.1=true then (⟨s.index+1,(Nx s c).1,(Nx s c).2.1,(fy (rT s c).1 (s.index+1) c.ag c.seq (Nx s c).2.2).1⟩,(Nx s c).2.2) else
  (⟨s.index+1,cG s,s.an,(rT s c).1⟩,(rT s c).2.1)
def bS (s:aZ)(t:ByteArray):aZ×cQ×Int:=
  if ¬bA s=0 then (cR,gl,bA s) else if 1073741824≤s.index then (cR,gl,2) else
  if ¬(aq t).2=0 then (cR,gl,(aq t).2) else ((cX s (aq t).1).1,(cX s (aq t).1).2,0)
theorem jL {x:aZ}(h:bA x=0):bC x.af x.index=0∧bB x.aj=0∧cy x.an=0:=by
  have hs:bC x.af x.index=0:=by
    unfold bA at h
    split at h
    · assumption
    · exact h
  have hl:bB x.aj=0:=by
    unfold bA at h
    rw[if_pos hs] at h
    split at h
    · assumption
    · exact h
  refine⟨hs,hl,?_⟩
  unfold bA at h
  rwa [if_pos hs,if_pos hl] at h
end Go.Proofs.YtbjakddkfgjkaaaGreat.Fw
namespace Go.Proofs.YtbjakddkfgjkaaaGreat.Fw
open Go.RowKit
def dA:aT:=⟨iI,emp,cR⟩
def dC (r:aT):aZ×Int:=
  if r.log.base=0 then (if r.snap=emp then (cR,0) else (cR,9)) else
  if (bb r.snap).2=0∧(bb r.snap).1.index=r.log.base then ((bb r.snap).1,0) else (cR,9)
def a6 (r:aT):Int:=
  if ¬cT r.log=0 then cT r.log else if ¬bA r.state=0 then bA r.state else
  if r.state.index<r.log.base∨cD r.log<r.state.index then 9 else (dC r).2
def jM (a b:List ByteArray)(j:Nat):Bool:=decide (j<a.length) && decide (a.getD j default=b.getD j default)
def cS (r:aT)(behind:Int)(more:List ByteArray):aT×Int:=
  if ¬a6 r=0 then (dA,a6 r) else
  if ¬(de r.log behind more).2=0 then (dA,(de r.log behind more).2) else
  if bE (jM (de r.log behind more).1.entries r.log.entries) (r.state.index - r.log.base).toNat=false then (dA,9) else
  (⟨(de r.log behind more).1,r.snap,r.state⟩,0)
def jh (E:List ByteArray):Nat→Nat→aZ→List bg→aZ×List bg×Int
  |0,_,s,out=>(s,out,0)
  |n+1,k,s,out=>
    if ¬(bS s (E.getD k default)).2.2=0 then (cR,[],(bS s (E.getD k default)).2.2) else
    jh E n (k+1) (bS s (E.getD k default)).1 (out++[⟨(aq (E.getD k default)).1.ag,(aq (E.getD k default)).1.seq,(bS s (E.getD k default)).2.1⟩])
def ur (r:aT)(upto:Int):aZ×List bg×Int:=
  jh r.log.entries ((if upto<cD r.log then upto else cD r.log) - r.state.index).toNat (r.state.index - r.log.base).toNat r.state []
def cB (r:aT)(upto:Int):aT×List bg×Int:=
  if ¬a6 r=0 then (dA,[],a6 r) else if upto<0∨1073741824<upto then (dA,[],2) else
  if ¬(ur r upto).2.2=0 then (dA,[],(ur r upto).2.2) else
  (⟨r.log,r.snap,(ur r upto).1⟩,(ur r upto).2.1,0)
def b8 (r:aT):aT×Int:=
  if ¬a6 r=0 then (dA,a6 r) else if r.state.index=r.log.base then (dA,12) else
  if ¬(gW r.log r.state.index).2=0 then (dA,(gW r.log r.state.index).2) else
  (⟨(gW r.log r.state.index).1,(gH r.state).1,r.state⟩,0)
def cv (r:aT)(s:ByteArray):aT×Int:=
  if ¬a6 r=0 then (dA,a6 r) else if ¬(bb s).2=0 then (dA,(bb s).2) else
  if (bb s).1.index≤r.state.index then (dA,12) else if 1073741424<(bb s).1.index then (dA,8) else
  (⟨if (bb s).1.index≤cD r.log then ⟨(bb s).1.index,r.log.entries.drop ((bb s).1.index - r.log.base).toNat⟩ else ⟨(bb s).1.index,[]⟩,s,(bb s).1⟩,0)
def cK (r:aT):aT×Int:=if ¬a6 r=0 then (dA,a6 r) else (⟨r.log,r.snap,(dC r).1⟩,0)
theorem cq {r:aT}(h:a6 r=0):cT r.log=0∧bA r.state=0∧r.log.base≤r.state.index∧r.state.index≤cD r.log∧(dC r).2=0:=by
  unfold a6 at h
  split at h
  · rename_i h1;exact absurd h h1
  rename_i h1
  split at h
  · rename_i h2;exact absurd h h2
  rename_i h2
  split at h
  · cases h
  rename_i h3
  exact⟨Classical.not_not.1 h1,Classical.not_not.1 h2,by omega,by omega,h⟩
end Go.Proofs.YtbjakddkfgjkaaaGreat.Fw
namespace Go.Proofs.YtbjakddkfgjkaaaGreat.Fw
open Go.RowKit
theorem bV {R:List bz}{eS:Nat}{A:Option Addr}{c:Nat}{L:List aa}{w:World}(hr:ay eS A c L∈R)(hR: ∀r,r∈R→r.p w)(h: ∀x,x∈L→Sl.rd (· ∈(cN R).fp) w x.ab):Sl.rd (· ∈(cN R).fp) w (⟨A,c,L⟩:Sl aa):=a4 hr (hR _ hr) h
theorem cY {R:List bz}{eK:Nat}{L0:List aa}{w:World}(ho:bI (cj eK) L0∈R)(hR: ∀r,r∈R→r.p w)(hn: ∀x,x∈L0→ ∀k,k∈x.ab.xs→k.aE.text.size≤9223372036854775807){x:aa}(hx:x∈L0):Sl.rd (· ∈(cN R).fp) w x.ab:=
  Rr (hR _ ho x hx) (fun b hb=>fi ho (List.mem_flatMap.2 ⟨x,hx,hb⟩)) fun k hk=>hn x hx k hk
theorem bT {R:List bz}{eS:Nat}{A:Option Addr}{c:Nat}{L:List ae}{w:World}(hr:ay eS A c L∈R)(hR: ∀r,r∈R→r.p w)(h: ∀x,x∈L→x.name.size≤9223372036854775807∧Sl.rd (· ∈(cN R).fp) w x.line):Sl.rd (· ∈(cN R).fp) w (⟨A,c,L⟩:Sl ae):=a4 hr (hR _ hr) h
theorem cO {R:List bz}{eK:Nat}{L0:List ae}{w:World}(ho:bI (bM eK) L0∈R)(hR: ∀r,r∈R→r.p w){x:ae}(hx:x∈L0):Sl.rd (· ∈(cN R).fp) w x.line:=
  Rr (hR _ ho x hx) (fun b hb=>fi ho (List.mem_flatMap.2 ⟨x,hx,hb⟩)) fun _ _=>trivial
theorem lL {L:List aa}(k:Nat):(L.map aa.abs).getD k default=(L.getD k default).abs:=getD_map aa.abs rfl L k
theorem fo {L:List ae}(k:Nat):(L.map ae.abs).getD k default=(L.getD k default).abs:=getD_map ae.abs rfl L k
theorem ob {L:List aa}{index:Int}(h:bC (L.map aa.abs) index=0){k:Nat}(hk:k<L.length):1≤(L.getD k default).ag∧(L.getD k default).ag≤9∧0≤(L.getD k default).aC∧(L.getD k default).aC≤1048576∧a9 (L.getD k default).abs=true:=by
  have:=kA ((dm h).2.2.2 k (by rw[List.length_map];exact hk))
  rw[lL] at this
  exact⟨this.1,this.2.1,this.2.2.1,this.2.2.2.1,this.2.2.2.2.2.2.2.1⟩
theorem FA {L:List aa}{index t:Int}(h:bC (L.map aa.abs) index=0)(ht:1≤t∧t≤9)(hn:aQ (fun x:az=>decide (x.ag=t)) (L.map aa.abs)<0):L.findIdx (fun x:aa=>decide (t<x.ag))=eQ (fun x:aa=>IntKind.i64.wrap (x.ag - t)) L:=by
  have hs:Bh (fun x:aa=>IntKind.i64.wrap (x.ag - t)) L:=tr (f:=aa.abs) rfl (zo h ht)
  have hw: ∀j,j<L.length→IntKind.i64.wrap ((L.getD j default).ag - t)=(L.getD j default).ag - t:=fun j hj=>by
    have:=ob h hj
    exact eR ⟨by omega,by omega⟩
  refine Bi hs (fun j hj h0=>?_) fun j hj=>?_
  · have h1:=uq hn j (by rw[List.length_map];exact hj)
    rw[lL] at h1
    have h2:(L.getD j default).ag=t:=by rw[hw j hj] at h0;omega
    exact of_decide_eq_false h1 h2
  · rw[hw j hj]
    show decide (t<(L.getD j default).ag)=_
    by_cases h1:t<(L.getD j default).ag
    · rw[decide_eq_true h1,decide_eq_true (by omega)]
    · rw[decide_eq_false h1,decide_eq_false (by omega)]
theorem uu {L L2:List aa}{t:Int}{x:aa}(h:L2=dW (fun x:aa=>decide (t<x.ag)) x L):L2.map aa.abs=dW (fun x:az=>decide (t<x.ag)) x.abs (L.map aa.abs):=by
  rw[h]
  exact CO aa.abs (fun x:az=>decide (t<x.ag)) x L
theorem dG {L L2:List aa}{k:Nat}{x:aa}(h:L2=L.set k x):L2.map aa.abs=(L.map aa.abs).set k x.abs:=by rw[h,List.map_set]
theorem kF {L L2:List ae}{k:Nat}{x:ae}(h:L2=L.set k x):L2.map ae.abs=(L.map ae.abs).set k x.abs:=by rw[h,List.map_set]
end Go.Proofs.YtbjakddkfgjkaaaGreat.Fw
namespace Go.Proofs.YtbjakddkfgjkaaaGreat.Fw
open Go.RowKit
theorem fY {eK:Nat}{L:List aa}{w:World}(h:(bI (cj eK) L).p w)(hn: ∀x,x∈L→ ∀k,k∈x.ab.xs→k.aE.text.size≤9223372036854775807){x:aa}(hx:x∈L):Sl.rd bH w x.ab:=Rr (h x hx) (fun _ _=>trivial) fun k hk=>hn x hx k hk
theorem gx {eK:Nat}{L:List ae}{w:World}(h:(bI (bM eK) L).p w)(hn: ∀x,x∈L→x.name.size≤9223372036854775807){x:ae}(hx:x∈L):aJ.sub bH w x:=⟨hn x hx,Rr (h x hx) (fun _ _=>trivial) fun _ _=>trivial⟩
end Go.Proofs.YtbjakddkfgjkaaaGreat.Fw
namespace Go.Proofs.YtbjakddkfgjkaaaGreat.Fw
open Go.RowKit
theorem DG {d:az}(h:a9 d=true){q:Int}(hq: ¬(d.aC<q∧q≤d.aC+4)): ∀j,j<d.ab.length→ ¬(d.ab.getD j default).seq=q:=fun j hj e=>by
  have:=oO h (aB (L:=d.ab) (i:=j) hj)
  omega
theorem zr {d:az}(h:a9 d=true)(h0:0≤d.aC∧d.aC≤1048576){q:Int}(hq:d.aC<q∧q≤d.aC+4):Bh (fun x:aK=>IntKind.i64.wrap (x.seq - q)) d.ab:=fun i j jf hj hi=>by
  have h1:=oO h (aB (L:=d.ab) (i:=i) (by omega))
  have h2:=oO h (aB (L:=d.ab) (i:=j) hj)
  have h3:=qw (f:=fun i=>(d.ab.getD i default).seq) (n:=d.ab.length) (DF h) (j - i - 1) i (by omega)
  rw[show i+(j - i - 1)+1=j by omega] at h3
  have e1:IntKind.i64.wrap ((d.ab.getD i default).seq - q)=(d.ab.getD i default).seq - q:=eR ⟨by omega,by omega⟩
  have e2:IntKind.i64.wrap ((d.ab.getD j default).seq - q)=(d.ab.getD j default).seq - q:=eR ⟨by omega,by omega⟩
  have AZ:0≤IntKind.i64.wrap ((d.ab.getD i default).seq - q):=hi
  show 0<IntKind.i64.wrap ((d.ab.getD j default).seq - q)
  rw[e1] at AZ
  rw[e2]
  have Oo:(d.ab.getD i default).seq<(d.ab.getD j default).seq:=h3
  omega
theorem FB {d:az}(h:a9 d=true)(h0:0≤d.aC∧d.aC≤1048576){q:Int}(hq:ln q):dk (fun x:aK=>IntKind.i64.wrap (x.seq - q)) d.ab=decide (0≤ld d.ab q):=by
  have hp: ∀j,j<d.ab.length→(IntKind.i64.wrap ((d.ab.getD j default).seq - q)=0↔(d.ab.getD j default).seq=q):=fun j hj=>by
    have h1:=oO h (aB (L:=d.ab) (i:=j) hj)
    exact wL ⟨by omega,by omega⟩ hq
  have e:aQ (fun x:aK=>decide (IntKind.i64.wrap (x.seq - q)=0)) d.ab=ld d.ab q:=by
    unfold ld
    rcases gJ (fun x:aK=>decide (x.seq=q)) d.ab with ⟨h1,h2⟩|⟨i,h1,h2,h3,h4⟩
    · rw[h1]
      exact en fun j hj=>decide_eq_false fun e=>of_decide_eq_false (h2 j hj) ((hp j hj).1 e)
    · rw[h2]
      exact kd h1 (decide_eq_true ((hp i h1).2 (of_decide_eq_true h3))) fun j hj=>decide_eq_false fun e=>of_decide_eq_false (h4 j hj) ((hp j (by omega)).1 e)
  by_cases hr:d.aC<q∧q≤d.aC+4
  · have:=(xS (zr h h0 hr)).1
    rwa [e] at this
  · have:=CK (c:=fun x:aK=>IntKind.i64.wrap (x.seq - q)) (L:=d.ab) fun j hj h1=>DG h hr j hj ((hp j hj).1 h1)
    rw[e] at this
    rw[this.1,this.2]
    rfl
theorem qx {d:az}{k:aK}(hk:k∈d.ab)(h: ¬(d.aC<k.seq∧k.seq≤d.aC+4)):a9 d=false:=by
  cases hm:a9 d with
  |false=>rfl
  |true=>exact absurd (oO hm hk) h
theorem FC {d:az}(h:a9 d=true)(h0:0≤d.aC∧d.aC≤1048576){q:Int}(r:cQ)(hn:ld d.ab q<0){j:Nat}(hj:eQ (fun x:aK=>IntKind.i64.wrap (x.seq - q)) d.ab=j):
    a9 ⟨d.ag,d.id,d.aC,d.last,d.ab.take j++[⟨q,r⟩]++d.ab.drop j⟩=a9 (mK d q r)∧(a9 (mK d q r)=true→d.ab.take j++[⟨q,r⟩]++d.ab.drop j=(mK d q r).ab):=by
  by_cases hr:d.aC<q∧q≤d.aC+4
  · have e:d.ab.findIdx (fun k:aK=>decide (q<k.seq))=j:=by
      rw[←hj]
      have hw: ∀i,i<d.ab.length→IntKind.i64.wrap ((d.ab.getD i default).seq - q)=(d.ab.getD i default).seq - q:=fun i hi=>by
        have h1:=oO h (aB (L:=d.ab) (i:=i) hi)
        exact eR ⟨by omega,by omega⟩
      refine Bi (zr h h0 hr) (fun i hi h1=>?_) fun i hi=>?_
      · rw[hw i hi] at h1
        exact of_decide_eq_false (uq hn i hi) (by omega)
      · rw[hw i hi]
        show decide (q<(d.ab.getD i default).seq)=_
        by_cases h1:q<(d.ab.getD i default).seq
        · rw[decide_eq_true h1,decide_eq_true (by omega)]
        · rw[decide_eq_false h1,decide_eq_false (by omega)]
    have e2:=xW (x:=(⟨q,r⟩:aK)) e
    unfold mK
    rw[e2]
    exact⟨rfl,fun _=>rfl⟩
  · have h1:a9 ⟨d.ag,d.id,d.aC,d.last,d.ab.take j++[⟨q,r⟩]++d.ab.drop j⟩=false:=qx (k:=⟨q,r⟩) (by simp) hr
    have h2:a9 (mK d q r)=false:=qx (k:=⟨q,r⟩) (by unfold mK dW;simp) hr
    rw[h1,h2]
    exact⟨rfl,fun h=>by cases h⟩
end Go.Proofs.YtbjakddkfgjkaaaGreat.Fw
namespace Go.Proofs.YtbjakddkfgjkaaaGreat.Fw
theorem ia {α:Type}: ∀{L:List α} {i:Nat} {x y:α},y∈L.set i x→y=x∨y∈L.eraseIdx i
  |[],i,x,y,h=>by simp at h
  |a::r,0,x,y,h=>by
    simp only[List.set_cons_zero,List.mem_cons] at h
    simpa using h
  |a::r,i+1,x,y,h=>by
    simp only[List.set_cons_succ,List.mem_cons] at h
    rcases h with h|h
    · exact .inr (by rw[h];simp)
    · rcases ia h with h|h
      · exact .inl h
      · exact .inr (by simp[h])
end Go.Proofs.YtbjakddkfgjkaaaGreat.Fw
namespace Go.Proofs.YtbjakddkfgjkaaaGreat.Fw
open Go.RowKit
theorem mL {α:Type}[Inhabited α]{s:Sl α}{p:α→Bool}{L:List α}{i:Nat}(h:L=(s.xs.take i).filter fun z=>!p z)(hi:i<s.n)(hp:p (s.at i)=false):L++[s.at i]=(s.xs.take (i+1)).filter fun z=>!p z:=by
  rw[←gq hi,List.filter_append, ←h,CL (p:=p) hp]
theorem lz {α:Type}[Inhabited α]{s:Sl α}{p:α→Bool}{L:List α}{i:Nat}(h:L=(s.xs.take i).filter fun z=>!p z)(hi:i<s.n)(hp:p (s.at i)=true):L=(s.xs.take (i+1)).filter fun z=>!p z:=by
  rw[←gq hi,List.filter_append, ←h,zi (p:=p) hp,List.append_nil]
theorem oP {l:List aY}{t:ByteArray}{who:Int}(h:dw l t who=0):bB l=0∧ee t=true∧1≤who∧who≤9:=by
  unfold dw at h
  split at h
  · rename_i h1;exact absurd h h1
  rename_i h1
  split at h
  · cases h
  rename_i h2
  split at h
  · cases h
  exact⟨Classical.not_not.1 h1,by simpa using h2,by omega,by omega⟩
theorem mM {L:List ae}(h:bB (L.map ae.abs)=0){k:Nat}(hk:k<L.length):0≤(L.getD k default).ar∧(L.getD k default).ar≤9∧cp (L.getD k default).abs=true∧1≤(L.getD k default).aA∧(L.getD k default).aA≤1073741824∧(L.getD k default).line.xs.length≤3:=by
  have:=uf ((fS h).2 k (by rw[List.length_map];exact hk))
  rw[fo] at this
  obtain⟨_,h2,h3,h4,h5,h6,_⟩:=this
  have h7:=h4
  simp only[cp,Bool.and_eq_true,decide_eq_true_eq] at h7
  exact⟨h2,h3,h4,h5,h6,h7.2.1⟩
theorem zt {L L2:List ae}{t:ByteArray}{x:ae}(h:L2=dW (fun x:ae=>Op.bytesLess t.toList x.name.toList) x L):L2.map ae.abs=dW (fun x:aY=>Op.bytesLess t.toList x.name.toList) x.abs (L.map ae.abs):=by
  rw[h]
  exact CO ae.abs (fun x:aY=>Op.bytesLess t.toList x.name.toList) x L
theorem FD {L:List ae}{t:ByteArray}(h:bB (L.map ae.abs)=0)(hn:aQ (fun x:aY=>decide (x.name=t)) (L.map ae.abs)<0):L.findIdx (fun x:ae=>Op.bytesLess t.toList x.name.toList)=eQ (fun x:ae=>bK x.name t) L:=by
  have hs:Bh (fun x:ae=>bK x.name t) L:=tr (f:=ae.abs) rfl (wE h t)
  refine wN ae.name hs ?_
  have e:aQ (fun x:ae=>decide (x.name=t)) L=aQ (fun x:aY=>decide (x.name=t)) (L.map ae.abs):=fm ae.abs (fun y:aY=>decide (y.name=t)) L
  rw[e]
  exact hn
end Go.Proofs.YtbjakddkfgjkaaaGreat.Fw
namespace Go.Proofs.YtbjakddkfgjkaaaGreat.Fw
theorem xY {α β:Type}[Inhabited α][Inhabited β]{f:α→β}{c:β→Int}{L L2:List α}(hf:f default=default)(h:L.map f=L2.map f):eQ (fun x=>c (f x)) L=eQ (fun x=>c (f x)) L2:=by
  have e: ∀M:List α,(fun j=>decide (c (f (M.getD j default))<0))=fun j=>decide (c ((M.map f).getD j default)<0):=fun M=>by funext j;rw[getD_map f hf]
  have hl:L.length=L2.length:=by simpa using congrArg List.length h
  unfold eQ
  rw[e L,e L2,h,hl]
theorem zu {α β:Type}[Inhabited α][Inhabited β]{f:α→β}{c:β→Int}{L L2:List α}(hf:f default=default)(h:L.map f=L2.map f):dk (fun x=>c (f x)) L=dk (fun x=>c (f x)) L2:=by
  have hl:L.length=L2.length:=by simpa using congrArg List.length h
  unfold dk
  rw[xY hf h,hl]
  have e:f (L.getD (eQ (fun x=>c (f x)) L2) default)=f (L2.getD (eQ (fun x=>c (f x)) L2) default):=by rw[←getD_map f hf, ←getD_map f hf,h]
  simp only[e]
end Go.Proofs.YtbjakddkfgjkaaaGreat.Fw
namespace Go.Proofs.YtbjakddkfgjkaaaGreat.Fw
open Go.RowKit
theorem CR (d:aY)(who:Int):uo d who=decide (0≤aQ (fun z=>decide (z=who)) d.line):=(hC _ _).symm
theorem rU {d:aY}(h:cp d=true){who:Int}{i:Nat}(hk:aQ (fun z=>decide (z=who)) d.line=(i:Int)){L:List Int}(hL:L=d.line.take i++d.line.drop (i+1)):L=gi d.line who:=by rw[hL];exact Fu h hk
theorem FE {R:List bz}{eK:Nat}{L0:List ae}{w:World}(ho:bI (bM eK) L0∈R)(hR: ∀r,r∈R→r.p w){x:ae}(hx:x∈L0):(eJ x).name=x.name∧Sl.rd (· ∈(cN R).fp) w (eJ x).line:=by
  have h1:=cO ho hR hx
  unfold eJ
  split
  · rename_i h2;exact⟨rfl,h1.IK h2.1⟩
  · exact⟨rfl,Sl.ao _ _⟩
end Go.Proofs.YtbjakddkfgjkaaaGreat.Fw
namespace Go.Proofs.YtbjakddkfgjkaaaGreat.Fw
open Go.RowKit
def cU (s:ByteArray):RQ:=(s.extract 0 ((s.size:Int) - 4).toNat,0)
theorem Ot {s:ByteArray}(h: ¬(s.size:Int)<4):((s.size:Int) - 4).toNat=s.size - 4:=by omega
theorem uv {s:ByteArray}(h:5000<(s.size:Int)):bb s=(cR,1):=by unfold bb;rw[if_pos (by omega)]
theorem qy {s:ByteArray}(h1: ¬5000<(s.size:Int))(h:(s.size:Int)<4):bb s=(cR,5):=by unfold bb;rw[if_neg (by omega),if_pos (by omega)]
theorem kG {s:ByteArray}(h1: ¬5000<(s.size:Int))(h2: ¬(s.size:Int)<4):bb s=if ¬gE (s.extract 0 ((s.size:Int) - 4).toNat)=s.extract ((s.size:Int) - 4).toNat s.size then (cR,15) else
  if (ep (cU s)).2.2=0∧ ¬(ep (cU s)).2.1=emp then (cR,4) else
  if ¬(ep (cU s)).2.2=0 then (cR,(ep (cU s)).2.2) else
  if ¬bA (ep (cU s)).1=0 then (cR,bA (ep (cU s)).1) else ((ep (cU s)).1,0):=by
  unfold bb
  rw[if_neg (by omega),if_neg (by omega)]
  unfold cU
  rw[Ot h2]
theorem sE {s:ByteArray}(h1: ¬5000<(s.size:Int))(h2: ¬(s.size:Int)<4)(h3: ¬gE (s.extract 0 ((s.size:Int) - 4).toNat)=s.extract ((s.size:Int) - 4).toNat s.size):bb s=(cR,15):=by
  rw[kG h1 h2,if_pos h3]
theorem mN {q:RQ}{Q0:List aY×RQ}{Q2:List aG×RQ}{Q3:List az×RQ}(h0:ax bG (al 5 (ah q).2).1.toNat (al 5 (ah q).2).2=Q0)(h2:ax dz (al 5 Q0.2).1.toNat (al 5 Q0.2).2=Q2)(h3:ax aX (al 4 Q2.2).1.toNat (al 4 Q2.2).2=Q3):ep q=(⟨(ah q).1,Q0.1,Q2.1,Q3.1⟩,Q3.2):=by
  subst h3;subst h2;subst h0;rfl
theorem sF {s:ByteArray}{q:RQ}{R:aZ×RQ}(hq:q=cU s)(hR:ep q=R)(h1: ¬5000<(s.size:Int))(h2: ¬(s.size:Int)<4)(h3:gE (s.extract 0 ((s.size:Int) - 4).toNat)=s.extract ((s.size:Int) - 4).toNat s.size)(h4:R.2.2=0)(h5: ¬R.2.1=emp):bb s=(cR,4):=by
  subst hR;subst hq
  rw[kG h1 h2,if_neg (fun h=>h h3),if_pos ⟨h4,h5⟩]
theorem uw {s:ByteArray}{q:RQ}{R:aZ×RQ}(hq:q=cU s)(hR:ep q=R)(h1: ¬5000<(s.size:Int))(h2: ¬(s.size:Int)<4)(h3:gE (s.extract 0 ((s.size:Int) - 4).toNat)=s.extract ((s.size:Int) - 4).toNat s.size)(h4: ¬R.2.2=0):bb s=(cR,R.2.2):=by
  subst hR;subst hq
  rw[kG h1 h2,if_neg (fun h=>h h3),if_neg (fun h=>h4 h.1),if_pos h4]
theorem qz {s:ByteArray}{q:RQ}{R:aZ×RQ}{y:aZ}(hq:q=cU s)(hR:ep q=R)(h1: ¬5000<(s.size:Int))(h2: ¬(s.size:Int)<4)(h3:gE (s.extract 0 ((s.size:Int) - 4).toNat)=s.extract ((s.size:Int) - 4).toNat s.size)(h4:R.2.2=0)(h5:R.2.1=emp)(hy:y=R.1)(h6: ¬bA y=0):bb s=(cR,bA y):=by
  subst hy
  subst hR;subst hq
  rw[kG h1 h2,if_neg (fun h=>h h3),if_neg (fun h=>h.2 h5),if_neg (fun h=>h h4),if_pos h6]
theorem wP {s:ByteArray}{q:RQ}{R:aZ×RQ}{y:aZ}(hq:q=cU s)(hR:ep q=R)(h1: ¬5000<(s.size:Int))(h2: ¬(s.size:Int)<4)(h3:gE (s.extract 0 ((s.size:Int) - 4).toNat)=s.extract ((s.size:Int) - 4).toNat s.size)(h4:R.2.2=0)(h5:R.2.1=emp)(hy:y=R.1)(h6:bA y=0):bb s=(y,0):=by
  subst hy
  subst hR;subst hq
  rw[kG h1 h2,if_neg (fun h=>h h3),if_neg (fun h=>h.2 h5),if_neg (fun h=>h h4),if_neg (fun h=>h h6)]
end Go.Proofs.YtbjakddkfgjkaaaGreat.Fw
namespace Go.Proofs.YtbjakddkfgjkaaaGreat.Fw
open Go.RowKit
theorem ux {r:aT}(h:r.log.base=0)(h2:r.snap=emp):dC r=(cR,0):=by unfold dC;rw[if_pos h,if_pos h2]
theorem uy {r:aT}(h:r.log.base=0)(h2: ¬r.snap=emp):dC r=(cR,9):=by unfold dC;rw[if_pos h,if_neg h2]
theorem wQ {r:aT}(h: ¬r.log.base=0)(h2: ¬(bb r.snap).2=0):dC r=(cR,9):=by unfold dC;rw[if_neg h,if_neg (fun q=>h2 q.1)]
theorem wR {r:aT}{i:Int}(h: ¬r.log.base=0)(hi:i=(bb r.snap).1.index)(h2: ¬i=r.log.base):dC r=(cR,9):=by subst hi;unfold dC;rw[if_neg h,if_neg (fun q=>h2 q.2)]
theorem zw {r:aT}{i:Int}(h: ¬r.log.base=0)(h1:(bb r.snap).2=0)(hi:i=(bb r.snap).1.index)(h2:i=r.log.base):dC r=((bb r.snap).1,0):=by subst hi;unfold dC;rw[if_neg h,if_pos ⟨h1,h2⟩]
theorem zx {r:aT}(h: ¬cT r.log=0):a6 r=cT r.log:=by unfold a6;rw[if_pos h]
theorem uz {r:aT}(h1:cT r.log=0)(h: ¬bA r.state=0):a6 r=bA r.state:=by unfold a6;rw[if_neg (fun q=>q h1),if_pos h]
theorem uA {r:aT}(h1:cT r.log=0)(h2:bA r.state=0)(h:r.state.index<r.log.base∨cD r.log<r.state.index):a6 r=9:=by unfold a6;rw[if_neg (fun q=>q h1),if_neg (fun q=>q h2),if_pos h]
theorem lA {r:aT}(h1:cT r.log=0)(h2:bA r.state=0)(h: ¬(r.state.index<r.log.base∨cD r.log<r.state.index)):a6 r=(dC r).2:=by unfold a6;rw[if_neg (fun q=>q h1),if_neg (fun q=>q h2),if_neg h]
theorem zy {s:Sl aG}(h:cy s.xs=0):aJ.small s:=by
  have h1:=(iz h).1
  exact⟨by show s.xs.length*40≤_;omega,fun _ _=>trivial⟩
theorem od {s:aN}(h:bA s.abs=0):aJ.small s:=by
  obtain⟨h1,h2,h3⟩:=jL h
  exact⟨js h2,zy h3,fC h1⟩
theorem DH {s:dr}(h:cT s.abs=0):aJ.small s:=by
  have h1:s.entries.xs.length≤400:=(eb h).2.2.1
  exact⟨by show s.entries.xs.length*16≤_;omega,fun _ _=>trivial⟩
theorem ji {r:aw}(h:a6 r.abs=0):aJ.small r:=by
  obtain⟨h1,h2,_⟩:=cq h
  exact⟨DH (s:=r.log) h1,od (s:=r.state) h2⟩
end Go.Proofs.YtbjakddkfgjkaaaGreat.Fw
namespace Go.Proofs.YtbjakddkfgjkaaaGreat.Fw
open Go.RowKit
abbrev vJ.cs (x:vJ):List SV:=[vI x.kind,vS x.a,vS x.b,vI x.n]
abbrev cQ.cs (x:cQ):List SV:=[vI x.code,vI x.n,vS x.text]
abbrev ae.cs (x:ae):List SV:=[vS x.name,vI x.ar,vI x.aA,.v (.slice x.line.A x.line.n x.line.c)]
abbrev aG.cs (x:aG):List SV:=[vS x.name,vS x.value,vI x.version]
abbrev aF.cs (x:aF):List SV:=[vI x.kind,vI x.ag,vI x.aD,vI x.seq,vI x.aC,vI x.op.kind,vS x.op.a,vS x.op.b,vI x.op.n]
abbrev aK.cs (x:aK):List SV:=[vI x.seq,vI x.aE.code,vI x.aE.n,vS x.aE.text]
abbrev aa.cs (x:aa):List SV:=[vI x.ag,vI x.id,vI x.aC,vI x.last,.v (.slice x.ab.A x.ab.n x.ab.c)]
abbrev aN.cs (x:aN):List SV:=[vI x.index,.v (.slice x.aj.A x.aj.n x.aj.c),.v (.slice x.an.A x.an.n x.an.c),.v (.slice x.af.A x.af.n x.af.c)]
abbrev dr.cs (x:dr):List SV:=[vI x.base,.v (.slice x.entries.A x.entries.n x.entries.c)]
abbrev aw.cs (x:aw):List SV:=[vI x.log.base,.v (.slice x.log.entries.A x.log.entries.n x.log.entries.c),vS x.snap,vI x.state.index,.v (.slice x.state.aj.A x.state.aj.n x.state.aj.c),.v (.slice x.state.an.A x.state.an.n x.state.an.c),.v (.slice x.state.af.A x.state.af.n x.state.af.c)]
abbrev bD.cs (x:bD):List SV:=[vI x.seq,vI x.op.kind,vS x.op.a,vS x.op.b,vI x.op.n]
abbrev av.cs (x:av):List SV:=[vI x.id,vI x.aD,vI x.next,.v (.slice x.waits.A x.waits.n x.waits.c)]
abbrev bg.cs (x:bg):List SV:=[vI x.ag,vI x.seq,vI x.aE.code,vI x.aE.n,vS x.aE.text]
abbrev eP.cs (x:eP):List SV:=[vI x.kind,vI x.c,vI x.r,vI x.k,vI x.op.kind,vS x.op.a,vS x.op.b,vI x.op.n]
theorem iT {n l h:Int}:(gk n l h=true)=(l≤n∧n≤h):=by simp[gk]
theorem iF {n l h:Int}:(gk n l h=false)=(¬l≤n∨ ¬n≤h):=by rw[←Decidable.not_and_iff_not_or_not];simp[gk]
abbrev vi (z:Int):Value:=.int .i64 z
abbrev vb (b:Bool):Value:=.bool b
abbrev vs (s:ByteArray):Value:=.string s
abbrev ve:Value:=.string emp
abbrev vn:Value:=.slice none 0 0
abbrev vz (k:Int):Value:=.agg #[.int .i64 k,.int .i64 0,.string emp]
abbrev vC:Value:=.agg #[.int .i64 0,.int .i64 0,.int .i64 0,.int .i64 0,.int .i64 0,.int .i64 0,.string emp,.string emp,.int .i64 0]
abbrev vA:Value:=.agg #[.int .i64 0,.slice none 0 0,.slice none 0 0,.slice none 0 0]
abbrev vP:Value:=.agg #[.int .i64 0,.slice none 0 0,.string emp,.int .i64 0,.slice none 0 0,.slice none 0 0,.slice none 0 0]
end Go.Proofs.YtbjakddkfgjkaaaGreat.Fw
namespace Go.Proofs.YtbjakddkfgjkaaaGreat.Fw
open Go.RowKit
theorem lM {α:Type}{f:ByteArray→α→ByteArray}{K:Nat}: ∀(l:List α) (b:ByteArray),(∀d,d∈l→ ∀b,(f b d).size≤b.size+K)→(l.foldl f b).size≤b.size+l.length*K
  |[],b,_=>by simp
  |d::l,b,h=>by
    have h1:=lM l (f b d) (fun d hd=>h d (List.mem_cons_of_mem _ hd))
    have h2:=h d (List.mem_cons_self ..) b
    simp only[List.foldl_cons,List.length_cons,Nat.succ_mul] at h1⊢
    omega
theorem fZ {α:Type}[Inhabited α]{P:α→Prop}{l:List α}(h: ∀j,j<l.length→P (l.getD j default)): ∀x,x∈l→P x:=fun x hx=>by
  obtain⟨j,hj,rfl⟩:=List.mem_iff_getElem.1 hx
  have h1:=h j hj
  rwa [List.getD_eq_getElem?_getD,List.getElem?_eq_getElem hj] at h1
theorem Bk (d:aY)(h:d.line.length≤3)(b:ByteArray):(kY b d).size≤b.size+5042:=by
  have h1:=cE d.name
  have h2:=bP [d.ar,d.aA,(d.line.length:Int)]
  have h3:=bP d.line
  simp only[kY,ByteArray.size_append,List.length_cons,List.length_nil] at*
  omega
theorem Bl (d:aG)(b:ByteArray):(kD b d).size≤b.size+10018:=by
  have h1:=cE d.name
  have h2:=cE d.value
  have h3:=bP [d.version]
  simp only[kD,ByteArray.size_append,List.length_cons,List.length_nil] at*
  omega
theorem Bm (d:aK)(b:ByteArray):(nt b d).size≤b.size+5024:=by
  have h1:=cE d.aE.text
  have h2:=bP [d.seq,d.aE.code,d.aE.n]
  simp only[nt,ByteArray.size_append,List.length_cons,List.length_nil] at*
  omega
theorem Bn (d:az)(h:d.ab.length≤4)(b:ByteArray):(nu b d).size≤b.size+20126:=by
  have h2:=bP [d.ag,d.id,d.aC,d.last,(d.ab.length:Int)]
  have h1:=lM (f:=nt) (K:=5024) d.ab (b++bc [d.ag,d.id,d.aC,d.last,(d.ab.length:Int)]) (fun d _ b=>Bm d b)
  have h3:d.ab.length*5024≤4*5024:=Nat.mul_le_mul_right _ h
  simp only[nu,ByteArray.size_append,List.length_cons,List.length_nil] at*
  omega
theorem uB (s:aZ):(gH s).1.size≤9223372036854775807:=by
  unfold gH
  split
  · rename_i h
    obtain⟨h1,h2,h3,h4,h5⟩:=mJ h
    have k1:=bP [s.index,(s.aj.length:Int)]
    have k2:=bP [(s.an.length:Int)]
    have k3:=bP [(s.af.length:Int)]
    have f1:=lM (f:=kY) (K:=5042) s.aj (bc [s.index,(s.aj.length:Int)]) (fun d hd b=>Bk d (fZ (P:=fun d:aY=>d.line.length≤3) h4 d hd) b)
    have f2:=lM (f:=kD) (K:=10018) s.an (s.aj.foldl kY (bc [s.index,(s.aj.length:Int)])++bc [(s.an.length:Int)]) (fun d _ b=>Bl d b)
    have f3:=lM (f:=nu) (K:=20126) s.af (s.an.foldl kD (s.aj.foldl kY (bc [s.index,(s.aj.length:Int)])++bc [(s.an.length:Int)])++bc [(s.af.length:Int)]) (fun d hd b=>Bn d (fZ (P:=fun d:az=>d.ab.length≤4) h5 d hd) b)
    have g1:s.aj.length*5042≤5*5042:=Nat.mul_le_mul_right _ h1
    have g2:s.an.length*10018≤5*10018:=Nat.mul_le_mul_right _ h2
    have g3:s.af.length*20126≤4*20126:=Nat.mul_le_mul_right _ h3
    have hz:(gE (jg s)).size=4:=fA _
    show (jg s++gE (jg s)).size≤_
    rw[ByteArray.size_append,hz]
    show (s.af.foldl nu _).size+4≤_
    simp only[ByteArray.size_append,List.length_cons,List.length_nil] at*
    omega
  · exact Nat.zero_le _
theorem wS {r:aT}{s:ByteArray}(h: ¬a6 r=0):cv r s=(dA,a6 r):=by unfold cv;rw[if_pos h]
theorem wT {r:aT}{s:ByteArray}(h:a6 r=0)(h1: ¬(bb s).2=0):cv r s=(dA,(bb s).2):=by unfold cv;rw[if_neg (fun q=>q h),if_pos h1]
theorem wU {r:aT}{s:ByteArray}{i:Int}(h:a6 r=0)(h1:(bb s).2=0)(hi:i=(bb s).1.index)(h2:i≤r.state.index):cv r s=(dA,12):=by subst hi;unfold cv;rw[if_neg (fun q=>q h),if_neg (fun q=>q h1),if_pos h2]
theorem wV {r:aT}{s:ByteArray}{i:Int}(h:a6 r=0)(h1:(bb s).2=0)(hi:i=(bb s).1.index)(h2: ¬i≤r.state.index)(h3:1073741424<i):cv r s=(dA,8):=by subst hi;unfold cv;rw[if_neg (fun q=>q h),if_neg (fun q=>q h1),if_neg h2,if_pos h3]
theorem uC {r:aT}{s:ByteArray}{i:Int}(h:a6 r=0)(h1:(bb s).2=0)(hi:i=(bb s).1.index)(h2: ¬i≤r.state.index)(h3: ¬1073741424<i):cv r s=(⟨⟨i,r.log.entries.drop (i - r.log.base).toNat⟩,s,(bb s).1⟩,0):=by
  obtain⟨p1,p2,p3,p4,p5⟩:=cq h
  subst hi;unfold cv;rw[if_neg (fun q=>q h),if_neg (fun q=>q h1),if_neg h2,if_neg h3]
  split
  · rfl
  · rename_i h4
    have h5:cD r.log=r.log.base+(r.log.entries.length:Int):=rfl
    rw[List.drop_eq_nil_of_le (by omega)]
theorem HK {x:iy}{i:Int}(h:cT x=0)(h1:x.base≤i)(h2:i≤cD x)(h3: ¬1073741424<i):gW x i=(⟨i,x.entries.drop (i - x.base).toNat⟩,0):=by
  unfold gW;rw[if_neg (fun q=>q h),if_neg (by omega),if_neg h3]
theorem FF {s:aZ}(h:bA s=0):(gH s).2=0:=by unfold gH;rw[if_pos h]
end Go.Proofs.YtbjakddkfgjkaaaGreat.Fw
namespace Go.Proofs.YtbjakddkfgjkaaaGreat.Fw
open Go.RowKit
theorem zz {a b:Sl ByteArray}{j k1 k2:Nat}(h1:k1=j)(h2:k2=j)(hl:j<a.n)(h:a.at k1=b.at k2):jM a.xs b.xs j=true:=by
  subst h1;subst h2
  unfold jM
  rw[Bool.and_eq_true]
  exact⟨decide_eq_true hl,decide_eq_true h⟩
theorem zA {a b:Sl ByteArray}{j k1 k2:Nat}(h1:k1=j)(h2:k2=j)(h: ¬a.at k1=b.at k2):jM a.xs b.xs j=false:=by
  subst h1;subst h2
  unfold jM
  rw[Bool.and_eq_false_iff]
  exact .inr (decide_eq_false h)
theorem wW {a b:Sl ByteArray}{j:Nat}(h:a.n≤j):jM a.xs b.xs j=false:=by
  unfold jM
  rw[Bool.and_eq_false_iff]
  exact .inl (decide_eq_false (fun q=>by have e:a.n=a.xs.length:=rfl;omega))
theorem DI {p:Nat→Bool}{n j:Nat}(hj:j<n)(h:p j=false):bE p n=false:=by
  cases hh:bE p n with
  |false=>rfl
  |true=>rw [di hh j hj] at h;cases h
theorem CS {x:iy}{n:Int}{m:List ByteArray}(h:(de x n m).2=0)(hx:cT x=0):(de x n m).1.base=x.base∧(de x n m).1.entries.length≤400:=by
  unfold de at h⊢
  rw[if_neg (fun q=>q hx)] at h⊢
  split at h
  · cases h
  rename_i h2
  rw[if_neg h2]
  split at h
  · cases h
  rename_i h3
  rw[if_neg h3]
  split at h
  · cases h
  rename_i h4
  rw[if_neg h4]
  split at h
  · rename_i h5;exact absurd h h5
  rename_i h5
  rw[if_neg h5]
  split at h
  · cases h
  rename_i h6
  rw[if_neg h6]
  exact⟨rfl,by simpa using h6⟩
theorem wX {r:aT}{n:Int}{m:List ByteArray}(h: ¬a6 r=0):cS r n m=(dA,a6 r):=by unfold cS;rw[if_pos h]
theorem wY {r:aT}{n:Int}{m:List ByteArray}(h:a6 r=0)(h1: ¬(de r.log n m).2=0):cS r n m=(dA,(de r.log n m).2):=by unfold cS;rw[if_neg (fun q=>q h),if_pos h1]
theorem oQ {r:aT}{n:Int}{m E:List ByteArray}{j:Nat}(h:a6 r=0)(h1:(de r.log n m).2=0)(hE:E=(de r.log n m).1.entries)(hj:j<(r.state.index - r.log.base).toNat)(ha:jM E r.log.entries j=false):cS r n m=(dA,9):=by
  subst hE;unfold cS;rw[if_neg (fun q=>q h),if_neg (fun q=>q h1),if_pos (DI hj ha)]
theorem zB {r:aT}{n:Int}{m E:List ByteArray}(h:a6 r=0)(h1:(de r.log n m).2=0)(hE:E=(de r.log n m).1.entries)(ha:bE (jM E r.log.entries) (r.state.index - r.log.base).toNat=true):cS r n m=(⟨(de r.log n m).1,r.snap,r.state⟩,0):=by
  subst hE;unfold cS;rw[if_neg (fun q=>q h),if_neg (fun q=>q h1),if_neg (by rw[ha];simp)]
end Go.Proofs.YtbjakddkfgjkaaaGreat.Fw
namespace Go.Proofs.YtbjakddkfgjkaaaGreat.Fw
open Go.RowKit
structure j5 (who:Int) (S:List ae) (k:Nat) (L:List ae):Prop where
  le:k≤S.length
  len:L.length=S.length
  rest: ∀j,k≤j→L.getD j default=S.getD j default
  done:(L.take k).map ae.abs=(S.take k).map fun x=>kC who x.abs
  names: ∀x,x∈L→x.name.size≤9223372036854775807
theorem j5.start {who:Int}{S:List ae}(h: ∀x,x∈S→x.name.size≤9223372036854775807):j5 who S 0 S:=⟨Nat.zero_le _,rfl,fun _ _=>rfl,rfl,h⟩
theorem po {α:Type}[Inhabited α]{L:List α}{k:Nat}{x:α}(hk:k<L.length):(L.set k x).take (k+1)=L.take k++[x]:=by
  rw[List.take_add_one,List.getElem?_set_self hk,List.take_set_of_le (Nat.le_refl _)]
  rfl
theorem j5.step {who:Int}{S:List ae}{k:Nat}{L L':List ae}{x:ae}(h:j5 who S k L)(hk:k<S.length)(hL:L'=L.set k x)(ha:x.abs=kC who (L.getD k default).abs)(hn:x.name=(L.getD k default).name):j5 who S (k+1) L':=by
  have wZ:k<L.length:=by rw[h.len];exact hk
  subst hL
  refine⟨hk,by rw[List.length_set,h.len],fun j hj=>?_,?_,fun y hy=>?_⟩
  · rw[getD_set_ne (by omega),h.rest j (by omega)]
  · have e:S.take (k+1)=S.take k++[S.getD k default]:=by rw[List.take_add_one,getD_some hk];rfl
    rw[po wZ,e,List.map_append,List.map_append,h.done, ←h.rest k (Nat.le_refl _)]
    exact congrArg (fun z=>_++[z]) ha
  · rcases mem_set hy with rfl|hy
    · rw[hn];exact h.names _ (aB wZ)
    · exact h.names _ hy
theorem j5.fin {who:Int}{S:List ae}{k:Nat}{L:List ae}(h:j5 who S k L)(hk:S.length≤k):L.map ae.abs=(S.map ae.abs).map (kC who):=by
  have h1:=h.done
  rw[List.take_of_length_le (by rw[h.len];exact hk),List.take_of_length_le hk] at h1
  rw[h1,List.map_map];rfl
def mc (fp:List Nat)(P:List ae):bz:=⟨fp,fun w=> ∀x,x∈P→Sl.rd (· ∈fp) w x.line,fun h p x hx=>Sl.rd.stay (p x hx) fun b hb _=>h b hb⟩
theorem ke {fp Qm:List Nat}{L L':List ae}{k:Nat}{x:ae}{w:World}(hk:k<L.length)(hL:L'=L.set k x)(h1:Sl.rd (· ∈Qm) w x.line)(h2:(mc fp (L.take k)).p w):(mc (fp++Qm) (L'.take (k+1))).p w:=fun y hy=>by
  subst hL
  rw[po hk] at hy
  rcases List.mem_append.1 hy with hy|hy
  · exact Sl.rd.wide (h2 y hy) fun b hb=>List.mem_append_left _ hb
  · rw[List.mem_singleton] at hy;subst hy;exact Sl.rd.wide h1 fun b hb=>List.mem_append_right _ hb
theorem zC {B:Nat→Prop}{w:World}{x:ae}(h:Sl.rd B w x.line):Sl.rd B w (eJ x).line:=by
  unfold eJ
  split
  · rename_i hn;exact Sl.rd.IK h hn.1
  · exact Sl.ao _ _
theorem uD (x:ae):(eJ x).name=x.name:=by unfold eJ;split<;>rfl
theorem Bo (d:aY):(gN d).name=d.name:=by unfold gN;split<;>rfl
theorem rV {D x:ae}{who:Int}(hn:x.name=D.name)(hh:x.ar=D.ar)(hf:x.aA=D.aA)(hl:x.line.xs=gi D.line.xs who)(h: ¬D.ar=who):x.abs=kC who D.abs:=by
  unfold kC
  rw[if_neg (show ¬D.abs.ar=who from h)]
  show (⟨x.name,x.ar,x.aA,x.line.xs⟩:aY)=_
  rw[hn,hh,hf,hl];rfl
theorem rW {D x y:ae}{who:Int}(hy:y.abs=gN x.abs)(hn:x.name=D.name)(hh:x.ar=D.ar)(hf:x.aA=D.aA)(hl:x.line.xs=gi D.line.xs who)(h:D.ar=who):y.abs=kC who D.abs:=by
  unfold kC
  rw[if_pos (show D.abs.ar=who from h),hy]
  refine congrArg gN ?_
  show (⟨x.name,x.ar,x.aA,x.line.xs⟩:aY)=_
  rw[hn,hh,hf,hl];rfl
theorem vK {α:Type}[Inhabited α](f:α→bz){L:List α}{i:Nat}{D:α}(hi:i<L.length)(hD:D=L.getD i default):((f D).fp++(bI f (L.drop (i+1))).fp).Perm (bI f (L.drop i)).fp:=by
  subst hD
  have e:L.drop i=L.getD i default::L.drop (i+1):=by
    rw[List.drop_eq_getElem_cons hi,List.getD_eq_getElem?_getD,List.getElem?_eq_getElem hi];rfl
  rw[e]
  exact List.Perm.refl _
theorem xZ {α:Type}[Inhabited α](f:α→bz){L:List α}{i:Nat}{D:α}(hi:i<L.length)(hD:D=L.getD i default)(w:World)(h:(bI f (L.drop i)).p w):(f D).p w∧(bI f (L.drop (i+1))).p w:=by
  subst hD
  have e:L.drop i=L.getD i default::L.drop (i+1):=by
    rw[List.drop_eq_getElem_cons hi,List.getD_eq_getElem?_getD,List.getElem?_eq_getElem hi];rfl
  rw[e] at h
  exact⟨h _ (.head _),fun x hx=>h x (.tail _ hx)⟩
theorem zD {who:Int}{S L:List ae}{k:Nat}{fp:List Nat}{R:List bz}{w:World}{e:Nat}{A:Option Addr}{c:Nat}(hI:j5 who S k L)(hk:S.length≤k)(hr:ay e A c L∈R)(hg:mc fp (L.take k)∈R)(hR: ∀r,r∈R→r.p w):Sl.rd (· ∈(cN R).fp) w (⟨A,c,L⟩:Sl ae):=
  a4 hr (hR _ hr) fun x hx=>⟨hI.names x hx,Sl.rd.wide (hR _ hg x (by rw[List.take_of_length_le (by rw[hI.len];exact hk)];exact hx)) fun b hb=>fi hg hb⟩
theorem CT {l:List aY}{who:Int}(h:bB l=0)(h1: ¬(who<1∨9<who)):j3 l who=(l.map (kC who),0):=by unfold j3;rw[if_neg (fun q=>q h),if_neg h1]
theorem zE {l:List aY}{who:Int}(h: ¬bB l=0):j3 l who=([],bB l):=by unfold j3;rw[if_pos h]
theorem zF {l:List aY}{who:Int}(h:bB l=0)(h1:who<1∨9<who):j3 l who=([],2):=by unfold j3;rw[if_neg (fun q=>q h),if_pos h1]
end Go.Proofs.YtbjakddkfgjkaaaGreat.Fw
namespace Go.Proofs.YtbjakddkfgjkaaaGreat.Fw
open Go.RowKit
def eC (index:Int)(c:aF):Prop:=1073741824≤index∨c.seq<1∨1048576<c.seq∨c.aC<0∨c.seq≤c.aC
theorem w3 {l:List az}{n:Int}{c:aF}(h: ¬bC l n=0):dn l n c=([],gl,false,bC l n):=by unfold dn;rw[if_pos h]
theorem ju {l:List az}{n:Int}{c:aF}(h:bC l n=0)(h1:eC n c):dn l n c=([],gl,false,2):=by unfold eC at h1;unfold dn;rw[if_neg (fun q=>q h),if_pos h1]
theorem uE {l:List az}{n:Int}{c:aF}(h:bC l n=0)(h1: ¬eC n c)(h2:ef l c.ag<0):dn l n c=(l,⟨11,0,emp⟩,false,0):=by unfold eC at h1;unfold dn;rw[if_neg (fun q=>q h),if_neg h1,if_pos (.inl h2)]
theorem sG {L:List aa}{n:Int}{c:aF}{K:Nat}(h:bC (L.map aa.abs) n=0)(h1: ¬eC n c)(hK:(ef (L.map aa.abs) c.ag).toNat=K)(h2: ¬(L.getD K default).id=c.aD):dn (L.map aa.abs) n c=(L.map aa.abs,⟨11,0,emp⟩,false,0):=by
  unfold eC at h1;unfold dn;rw[if_neg (fun q=>q h),if_neg h1,if_pos (.inr (by rw[hK,lL];exact h2))]
theorem et {L:List aa}{n:Int}{c:aF}{K:Nat}{x:az}{a:cQ×Bool}(h:bC (L.map aa.abs) n=0)(h1: ¬eC n c)(h0: ¬ef (L.map aa.abs) c.ag<0)(hK:(ef (L.map aa.abs) c.ag).toNat=K)(h2:(L.getD K default).id=c.aD)(hx:CP (L.getD K default).abs n c=x)(ha:rR (L.getD K default).abs c=a):dn (L.map aa.abs) n c=((L.map aa.abs).set K x,a.1,a.2,0):=by
  unfold eC at h1;unfold dn;rw[if_neg (fun q=>q h),if_neg h1,if_neg (by rw[hK,lL];rintro (h3|h3);exact h0 h3;exact h3 h2),hK,lL,hx,ha]
theorem fD {d:az}{n ak:Int}{c:aF}{LL:List aK}(kO:pK d c=ak)(gB:kZ d c=LL):CP d n c=⟨d.ag,d.id,ak,n+1,LL⟩:=by unfold CP;rw[kO,gB]
theorem x1 {d:az}{c:aF}{ak:Int}(kO:pK d c=ak)(h:c.seq≤ak):rR d c=(⟨12,0,emp⟩,false):=by unfold rR;rw[kO,if_pos h]
theorem qA {d:az}{c:aF}{ak I:Int}{LL:List aK}(kO:pK d c=ak)(gB:kZ d c=LL)(hI:ld LL c.seq=I)(h: ¬c.seq≤ak)(h2:0≤I):rR d c=((LL.getD I.toNat default).aE,false):=by unfold rR;rw[kO,gB,hI,if_neg h,if_pos h2]
theorem tt {d:az}{c:aF}{ak I:Int}{LL:List aK}(kO:pK d c=ak)(gB:kZ d c=LL)(hI:ld LL c.seq=I)(h: ¬c.seq≤ak)(h2: ¬0≤I)(h3:ak+4<c.seq):rR d c=(⟨2,0,emp⟩,false):=by unfold rR;rw[kO,gB,hI,if_neg h,if_neg h2,if_pos h3]
theorem tu {d:az}{c:aF}{ak I:Int}{LL:List aK}(kO:pK d c=ak)(gB:kZ d c=LL)(hI:ld LL c.seq=I)(h: ¬c.seq≤ak)(h2: ¬0≤I)(h3: ¬ak+4<c.seq):rR d c=(gl,true):=by unfold rR;rw[kO,gB,hI,if_neg h,if_neg h2,if_neg h3]
theorem oR {d:az}{c:aF}{ak:Int}(kO:pK d c=ak):kZ d c=d.ab.filter (fun z=>!decide (z.seq≤ak)):=by unfold kZ;rw[kO]
theorem DJ {d:az}{c:aF}(kO:pK d c=d.aC)(h:a9 d=true):kZ d c=d.ab:=by rw[oR kO];exact Bj h
theorem FG {d:az}{c:aF}(h:d.aC<c.aC):pK d c=c.aC:=if_pos h
theorem zG {d:az}{c:aF}(h: ¬d.aC<c.aC):pK d c=d.aC:=if_neg h
theorem kR {L:List aK}{q I:Int}(h:aQ (fun z:aK=>decide (z.seq=q)) L=I):ld L q=I:=h
end Go.Proofs.YtbjakddkfgjkaaaGreat.Fw
namespace Go.Proofs.YtbjakddkfgjkaaaGreat.Fw
open Go.RowKit
def lk {α:Type}(s:Sl α)(o:Option (List Nat×Sl α)):Sl α:=match o with
  |none=>s
  |some p=>p.2
def mO {α:Type}[aR α](o:Option (List Nat×Sl α)):bz:=match o with
  |none=>CD
  |some p=>bF p.1 p.2
theorem qC {α:Type}[aR α]{s:Sl α}{o:Option (List Nat×Sl α)}{B:Nat→Prop}{w:World}(h:s.rd B w)(h2:(mO o).p w):Sl.rd bH w (lk s o):=by
  cases o with
  |none=>exact Sl.rd.wide h fun _ _=>trivial
  |some p=>exact Sl.rd.wide h2 fun _ _=>trivial
theorem WS.Ou {m:List Nat}{w0:World}{bs:List Nat}{loc:List fq}{R:List bz}{w w':World}(h:WS m w0 bs loc R w){i:Nat}{b:fq}(hb:loc[i]? =some b)(hk:Kp [bs.getD i 0] w w'): ∀r,r∈R→r.p w':=fun r hr=>
  r.st (fun x hx=>hk.block x (h.lo x (List.mem_append_right _ (List.mem_flatMap.2 ⟨r,hr,hx⟩))).2 fun hm=>by
    rw[List.mem_singleton] at hm
    exact (List.nodup_append.1 h.nd).2.2 _ (h.lF hb) x (List.mem_flatMap.2 ⟨r,hr,hx⟩) hm.symm) (h.res r hr)
theorem DK {aj:List aY}{CQ now:List az}{i:Nat}(h:i<CQ.length):rS aj (CQ.take (i+1)) now=xX now (rS aj (CQ.take i) now) (CQ.getD i default):=by
  unfold rS
  exact eo _ _ CQ h
theorem qD {l l' L0:List aY}{CQ now:List az}{i:Nat}{x:az}(hi:i<CQ.length)(hx:CQ.getD i default=x)(hI:l=rS L0 (CQ.take i) now)(h:l'=if ef now x.ag<0 then (j3 l x.ag).1 else l):l'=rS L0 (CQ.take (i+1)) now:=by
  rw[DK hi,hx, ←hI];exact h
end Go.Proofs.YtbjakddkfgjkaaaGreat.Fw
namespace Go.Proofs.YtbjakddkfgjkaaaGreat.Fw
open Go.RowKit
theorem FH {c:aF}(h:dP c=0):1≤c.ag∧c.ag≤9∧0≤c.seq∧c.seq≤1048576∧c.op.a.size≤9223372036854775807∧c.op.b.size≤9223372036854775807:=by
  unfold dP at h
  split at h
  · cases h
  split at h
  · cases h
  rename_i h1
  split at h
  · rename_i h2
    split at h
    · cases h
    rename_i h3
    unfold jy at h
    split at h
    · cases h
    split at h
    · cases h
    rename_i h4
    split at h
    · cases h
    rename_i h5
    have h6:ee c.op.a=true:=by
      cases hh:ee c.op.a with
      |true=>rfl
      |false=>exact absurd (.inl hh) h4
    refine⟨by omega,by omega,by omega,by omega,?_,by omega⟩
    unfold ee at h6
    simp only[Bool.and_eq_true,decide_eq_true_eq] at h6
    omega
  · split at h
    · rename_i h3
      refine⟨by omega,by omega,by omega,by omega,?_,?_⟩
      · rw[h3.2.2.2.2.1];exact Nat.zero_le _
      · rw[h3.2.2.2.2.2.1];exact Nat.zero_le _
    · cases h
theorem w4 {s:aZ}{c:aF}{F:List az}{L:List aY}(e3:cx s=F)(e4:cG s=L)(hk:c.kind=1):cX s c=(⟨s.index+1,L,s.an,(dg F s.index c.ag).1⟩,(dg F s.index c.ag).2.1):=by
  subst e3;subst e4;unfold cX;rw[if_pos hk]
theorem uF {s:aZ}{c:aF}{F:List az}{L:List aY}(e3:cx s=F)(e4:cG s=L)(hk: ¬c.kind=1)(Bp:c.kind=3):cX s c=(⟨s.index+1,rS L F (dB F s.index c.ag).1,s.an,(dB F s.index c.ag).1⟩,(dB F s.index c.ag).2.1):=by
  subst e3;subst e4;unfold cX;rw[if_neg hk,if_pos Bp]
theorem lf {s:aZ}{c:aF}{F:List az}{L:List aY}(e3:cx s=F)(e4:cG s=L)(hk: ¬c.kind=1)(Bp: ¬c.kind=3)(hr:(dn F s.index c).2.2.1=true):cX s c=(⟨s.index+1,(lK L s.an c.ag c.op).1,(lK L s.an c.ag c.op).2.1,(fy (dn F s.index c).1 (s.index+1) c.ag c.seq (lK L s.an c.ag c.op).2.2).1⟩,(lK L s.an c.ag c.op).2.2):=by
  subst e3;subst e4;unfold cX;rw[if_neg hk,if_neg Bp,if_pos (show (rT s c).2.2.1=true from hr)];rfl
theorem zH {s:aZ}{c:aF}{F:List az}{L:List aY}(e3:cx s=F)(e4:cG s=L)(hk: ¬c.kind=1)(Bp: ¬c.kind=3)(hr:(dn F s.index c).2.2.1=false):cX s c=(⟨s.index+1,L,s.an,(dn F s.index c).1⟩,(dn F s.index c).2.1):=by
  subst e3;subst e4;unfold cX;rw[if_neg hk,if_neg Bp,if_neg (by rw[show (rT s c).2.2.1=false from hr];simp)];rfl
theorem w5 {s:aZ}{t:ByteArray}(h: ¬bA s=0):bS s t=(cR,gl,bA s):=by unfold bS;rw[if_pos h]
theorem w6 {s:aZ}{t:ByteArray}(h:bA s=0)(h1:1073741824≤s.index):bS s t=(cR,gl,2):=by unfold bS;rw[if_neg (fun q=>q h),if_pos h1]
theorem w7 {s:aZ}{t:ByteArray}(h:bA s=0)(h1: ¬1073741824≤s.index)(h2: ¬(aq t).2=0):bS s t=(cR,gl,(aq t).2):=by unfold bS;rw[if_neg (fun q=>q h),if_neg h1,if_pos h2]
theorem fE {s:aZ}{t:ByteArray}{r:aZ×cQ}(h:bA s=0)(h1: ¬1073741824≤s.index)(h2:(aq t).2=0)(h3:cX s (aq t).1=r):bS s t=(r.1,r.2,0):=by unfold bS;rw[if_neg (fun q=>q h),if_neg h1,if_neg (fun q=>q h2),h3]
theorem w8 {s:aZ}(h:bA s=0):0≤s.index∧s.index≤1073741824:=by
  have:=dm (jL h).1
  exact⟨this.1,this.2.1⟩
theorem iJ {α:Type}[aR α]{R:List bz}{s:Sl α}{o:Option (List Nat×Sl α)}{w:World}(h:Sl.rd (· ∈(cN R).fp) w s)(ho:mO o∈R)(hR: ∀r,r∈R→r.p w):Sl.rd (· ∈(cN R).fp) w (lk s o):=by
  cases o with
  |none=>exact h
  |some p=>exact Sl.rd.wide (show Sl.rd (· ∈p.1) w p.2 from hR _ ho) fun b hb=>fi ho hb
end Go.Proofs.YtbjakddkfgjkaaaGreat.Fw
namespace Go.Proofs.YtbjakddkfgjkaaaGreat.Fw
open Go.RowKit
theorem Bq (d:aY)(who:Int)(b:Bool):(eU d who b).2.text=emp:=by
  unfold eU
  repeat' split
  all_goals rfl
theorem Br (d:aY)(who:Int):(j4 d who).2.text=emp:=by
  unfold j4
  repeat' split
  all_goals rfl
theorem pL (l:List aY)(t:ByteArray)(who:Int)(b:Bool):(bZ l t who b).2.1.text=emp:=by
  unfold bZ
  repeat' split
  all_goals first|rfl|exact Bq _ _ _
theorem uG (l:List aY)(t:ByteArray)(who:Int):(dL l t who).2.1.text=emp:=by
  unfold dL
  repeat' split
  all_goals first|rfl|exact Br _ _
theorem uH (l:List aG)(t v:ByteArray):(cA l t v).2.1.text=emp:=by
  unfold cA
  repeat' split
  all_goals rfl
theorem w9 {l:List aG}(h: ∀p,p∈l→p.value.size≤9223372036854775807)(t:ByteArray):(l4 l t).1.text.size≤9223372036854775807:=by
  unfold l4
  split
  · split
    · rename_i h2
      by_cases hj:(aQ (fun x:aG=>decide (x.name=t)) l).toNat<l.length
      · exact h _ (aB hj)
      · rw[List.getD_eq_getElem?_getD,List.getElem?_eq_none (by omega)]
        exact Nat.zero_le _
    · exact Nat.zero_le _
  · exact Nat.zero_le _
theorem zI {L:List aY}{P:List aG}(h: ∀p,p∈P→p.value.size≤9223372036854775807)(who:Int)(o:vJ):(lK L P who o).2.2.text.size≤9223372036854775807:=by
  have e0:emp.size=0:=rfl
  unfold lK
  split
  · show (bZ _ _ _ _).2.1.text.size≤_;rw[pL,e0];omega
  split
  · show (dL _ _ _).2.1.text.size≤_;rw[uG,e0];omega
  split
  · exact Nat.zero_le _
  split
  · exact w9 h _
  split
  · exact Nat.zero_le _
  · show (cA _ _ _).2.1.text.size≤_;rw[uH,e0];omega
end Go.Proofs.YtbjakddkfgjkaaaGreat.Fw
namespace Go.Proofs.YtbjakddkfgjkaaaGreat.Fw
open Go.RowKit
abbrev ad (b:Nat):Addr:=⟨b,0,none⟩
abbrev zs:SV:=.v (.slice none 0 0)
end Go.Proofs.YtbjakddkfgjkaaaGreat.Fw
