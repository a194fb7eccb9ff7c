/-
  What the functions compute, as plain functions; the program's structs.
  Conditions: none beyond those that each theorem states.
-/
import Derived.Test.YtbjakddkfgjkaaaGreatFc
set_option linter.unusedVariables false
set_option linter.unusedSimpArgs false
namespace Go.Proofs.YtbjakddkfgjkaaaGreat.Fw
open Go.RowKit
def gk (n lo hi:Int):Bool:=decide (lo≤n) && decide (n≤hi)
def zc (p:Int×Int)(b:UInt8):Int×Int:=((p.1+(b.toNat:Int)) % 65521,(p.2+(p.1+(b.toNat:Int)) % 65521) % 65521)
def b7 (s:ByteArray):Nat→Int×Int
  |0=>(1,0)
  |k+1=>zc (b7 s k) (s.data.getD k 0)
theorem wy (s:ByteArray)(k:Nat):0≤(b7 s k).1∧(b7 s k).1<65521∧0≤(b7 s k).2∧(b7 s k).2<65521:=by
  cases k with
  |zero=>simp [b7]
  |succ k=>simp only [b7,zc];omega
def gE (s:ByteArray):ByteArray:=cP [(b7 s s.size).2 / 256 % 256,(b7 s s.size).2 % 256,(b7 s s.size).1 / 256 % 256,(b7 s s.size).1 % 256]
theorem n3 (a b:List Int):cP a++cP b=cP (a++b):=by
  apply ByteArray.ext
  rw[ByteArray.data_append]
  simp[cP]
theorem fA (l:List Int):(cP l).size=l.length:=by simp[cP,ByteArray.size]
theorem aL:emp.size=0:=rfl
theorem pB (s:ByteArray):emp++s=s:=by
  apply ByteArray.ext
  rw[ByteArray.data_append]
  simp[emp]
theorem ofInt64 (a:Nat)(ha:a<9223372036854775808):(BitVec.ofInt 64 (a:Int)).toNat=a:=by
  rw[BitVec.ofInt_natCast,BitVec.toNat_ofNat];exact Nat.mod_eq_of_lt (by omega)
theorem ofInt8 (a:Nat)(ha:a<256):(BitVec.ofInt 8 (a:Int)).toNat=a:=by
  rw[BitVec.ofInt_natCast,BitVec.toNat_ofNat];exact Nat.mod_eq_of_lt (by omega)
theorem Lg (a b:Nat)(ha:a<9223372036854775808)(hb:b<9223372036854775808):bits .and .i64 (a:Int) (b:Int)=((a &&& b:Nat):Int):=by
  have hx:a &&& b<2 ^ 63:=Nat.and_lt_two_pow _ (by omega)
  show IntKind.i64.wrap ((BitVec.ofInt 64 (a:Int) &&& BitVec.ofInt 64 (b:Int)).toNat:Int)=_
  rw[BitVec.toNat_and,ofInt64 a ha,ofInt64 b hb,IntKind.wrap_i64]
  omega
theorem Lh (a b:Nat)(ha:a<9223372036854775808)(hb:b<9223372036854775808):bits .or .i64 (a:Int) (b:Int)=((a|||b:Nat):Int):=by
  have hx:a|||b<2 ^ 63:=Nat.or_lt_two_pow (by omega) (by omega)
  show IntKind.i64.wrap ((BitVec.ofInt 64 (a:Int)|||BitVec.ofInt 64 (b:Int)).toNat:Int)=_
  rw[BitVec.toNat_or,ofInt64 a ha,ofInt64 b hb,IntKind.wrap_i64]
  omega
theorem Li (a b:Nat)(ha:a<256)(hb:b<256):bits .and .u8 (a:Int) (b:Int)=((a &&& b:Nat):Int):=by
  have hx:a &&& b<2 ^ 8:=Nat.and_lt_two_pow _ (by omega)
  show IntKind.u8.wrap ((BitVec.ofInt 8 (a:Int) &&& BitVec.ofInt 8 (b:Int)).toNat:Int)=_
  rw[BitVec.toNat_and,ofInt8 a ha,ofInt8 b hb]
  simp[IntKind.wrap,IntKind.bits,IntKind.signed]
  omega
theorem Fo (x n k:Nat)(h:n<2 ^ k):n|||x*2 ^ k=n+2 ^ k*x:=by
  have:=Nat.shiftLeft_add_eq_or_of_lt h x
  rw[Nat.shiftLeft_eq] at this
  rw[Nat.or_comm, ←this,Nat.mul_comm]
  omega
theorem Bd (a:Nat):a &&& 127=a % 128:=Nat.and_two_pow_sub_one_eq_mod a 7
def mF:Nat→Int→List Int
  |0,n=>[n]
  |f+1,n=>if n<128 then [n] else (128+n % 128)::mF f (n / 128)
def cf (n:Int):ByteArray×Int:=if n<0∨1099511627776<n then (emp,2) else (cP (mF 5 n),0)
theorem HB (m:Int)(h0:0≤m)(h1:m≤1099511627776):bits .or .i64 (bits .and .i64 m 127) 128 % 256=128+m % 128:=by
  obtain⟨a,rfl⟩:=Int.eq_ofNat_of_zero_le h0
  have e1:bits .and .i64 (a:Int) 127=((a % 128:Nat):Int):=by
    have:=Lg a 127 (by omega) (by omega)
    rw[Bd] at this
    exact this
  have e2:bits .or .i64 ((a % 128:Nat):Int) 128=((a % 128+128:Nat):Int):=by
    have:=Lh (a % 128) 128 (by omega) (by omega)
    have h3:=Fo 1 (a % 128) 7 (by omega)
    simp only[Nat.one_mul,Nat.mul_one] at h3
    rw[show (2:Nat) ^ 7=128 from rfl] at h3
    rw[h3] at this
    exact this
  rw[e1,e2]
  omega
theorem ub (f:Nat)(m:Int)(h:m<128):mF f m=[m]:=by cases f<;>simp [mF,h]
theorem zd (f:Nat)(m:Int)(h:128≤m):mF (f+1) m=(128+m % 128)::mF f (m / 128):=by
  simp only[mF]
  rw[if_neg (by omega)]
structure n4 (n:Int) (done:List Int) (m:Int) (f:Nat):Prop where
  eq:done++mF f m=mF 5 n
  lo:0≤m
  hi:m≤1099511627776
  pw:m<128*128 ^ f
  len:done.length+f=5
theorem n4.start {n:Int}(h0:0≤n)(h1:n≤1099511627776):n4 n [] n 5:=⟨rfl,h0,h1,by omega,rfl⟩
theorem n4.step {n:Int}{done:List Int}{m:Int}{f:Nat}(h:n4 n done m f)(hm:128≤m):0<f∧n4 n (done++[128+m % 128]) (m / 128) (f - 1):=by
  obtain⟨h1,h2,h3,h4,h5⟩:=h
  cases f with
  |zero=>omega
  |succ f=>
    refine⟨by omega,?_,by omega,by omega,?_,by simp;omega⟩
    · rw[zd f m hm] at h1
      simpa using h1
    · simp only[Nat.add_sub_cancel]
      rw[Int.pow_succ] at h4
      omega
theorem n4.done {n:Int}{done:List Int}{m:Int}{f:Nat}(h:n4 n done m f)(hm:m<128):done++[m]=mF 5 n:=by rw[←h.eq,ub f m hm]
theorem ze: ∀(f:Nat) (n:Int),(mF f n).length≤f+1
  |0,n=>by simp[mF]
  |f+1,n=>by
    simp only[mF]
    split
    · simp
    · simp only[List.length_cons];have:=ze f (n / 128);omega
theorem eB (n:Int):(cf n).1.size≤6:=by
  unfold cf
  split
  · simp[aL]
  · simp only[fA];exact ze 5 n
def gr (s:ByteArray):ByteArray×Int:=if 5000<s.size then (emp,1) else ((cf (s.size:Int)).1++s,0)
def rd (s:ByteArray):Nat→Nat→Int→Int×ByteArray×Int
  |0,_,_=>(0,emp,4)
  |f+1,i,n=>
    if s.size=i then (0,emp,5) else
    if (s.data.getD i 0).toNat<128 then
      (if ((s.data.getD i 0).toNat=0∧0<i)∨1099511627776<n+128 ^ i*(((s.data.getD i 0).toNat:Int) % 128) then (0,emp,4) else (n+128 ^ i*(((s.data.getD i 0).toNat:Int) % 128),s.extract (i+1) s.size,0))
    else rd s f (i+1) (n+128 ^ i*(((s.data.getD i 0).toNat:Int) % 128))
def bf (s:ByteArray):Int×ByteArray×Int:=rd s 6 0 0
structure pa (s:ByteArray) (i:Nat) (n:Int):Prop where
  eq:rd s (6 - i) i n=bf s
  le:i≤6
  sz:i≤s.size
  lo:0≤n
  hi:n<128 ^ i
theorem pa.start (s:ByteArray):pa s 0 0:=⟨rfl,by omega,by omega,by omega,by decide⟩
theorem Lj (i:Nat)(h:i<6):(128:Int) ^ i≤128 ^ 5∧0<(128:Int) ^ i:=by
  match i,h with
  |0,_=>decide
  |1,_=>decide
  |2,_=>decide
  |3,_=>decide
  |4,_=>decide
  |5,_=>decide
theorem pa.step {s:ByteArray}{i:Nat}{n:Int}(h:pa s i n)(hi:i<6)(hs:i<s.size)(hb:128≤(s.data.getD i 0).toNat):pa s (i+1) (n+128 ^ i*(((s.data.getD i 0).toNat:Int) % 128)):=by
  obtain⟨h1,h2,h3,h4,h5⟩:=h
  have hp:=Lj i hi
  refine⟨?_,by omega,by omega,?_,?_⟩
  · rw[←h1,show 6 - i=(6 - (i+1))+1 by omega]
    simp only[rd]
    rw[if_neg (by omega),if_neg (by omega)]
  · have:0≤(128:Int) ^ i*(((s.data.getD i 0).toNat:Int) % 128):=Int.mul_nonneg (Int.le_of_lt hp.2) (by omega)
    omega
  · have h6:(128:Int) ^ i*(((s.data.getD i 0).toNat:Int) % 128)≤128 ^ i*127:=Int.mul_le_mul_of_nonneg_left (by omega) (Int.le_of_lt hp.2)
    rw[Int.pow_succ]
    omega
theorem pa.short {s:ByteArray}{i:Nat}{n:Int}(h:pa s i n)(hi:i<6)(hs:i=s.size):bf s=(0,emp,5):=by
  rw[←h.eq,show 6 - i=(6 - (i+1))+1 by omega]
  simp only[rd]
  rw[if_pos hs.symm]
theorem pa.out {s:ByteArray}{i:Nat}{n:Int}(h:pa s i n)(hi:6≤i):bf s=(0,emp,4):=by
  rw[←h.eq,show 6 - i=0 by omega]
  rfl
theorem pa.last {s:ByteArray}{i:Nat}{n:Int}(h:pa s i n)(hi:i<6)(hs:i<s.size)(hb:(s.data.getD i 0).toNat<128):
    bf s=if ((s.data.getD i 0).toNat=0∧0<i)∨1099511627776<n+128 ^ i*(((s.data.getD i 0).toNat:Int) % 128) then (0,emp,4) else (n+128 ^ i*(((s.data.getD i 0).toNat:Int) % 128),s.extract (i+1) s.size,0):=by
  rw[←h.eq,show 6 - i=(6 - (i+1))+1 by omega]
  simp only[rd]
  rw[if_neg (by omega),if_pos hb]
theorem mG (s:ByteArray)(i:Nat)(n:Int)(h0:0≤n)(h1:n<128 ^ i)(hi:i<6):
    bits .or .i64 n (IntKind.i64.wrap (bits .and .u8 ((s.data.getD i 0).toNat:Int) 127*2 ^ ((7*(i:Int))).toNat))=n+128 ^ i*(((s.data.getD i 0).toNat:Int) % 128):=by
  obtain⟨a,rfl⟩:=Int.eq_ofNat_of_zero_le h0
  generalize hb:(s.data.getD i 0).toNat=b
  have gT:b<256:=by rw[←hb];exact (s.data.getD i 0).toNat_lt
  have e1:bits .and .u8 (b:Int) 127=((b % 128:Nat):Int):=by
    have:=Li b 127 gT (by omega)
    rw[Bd] at this
    exact this
  rw[e1,show (7*(i:Int)).toNat=7*i by omega]
  have Ol:(128:Nat) ^ i=2 ^ (7*i):=by rw[Nat.pow_mul]
  have IH:(128:Int) ^ i=((2 ^ (7*i):Nat):Int):=by rw[←Ol];simp
  have hle:2 ^ (7*i)≤2 ^ 35:=Nat.pow_le_pow_right (by omega) (by omega)
  have ha:a<2 ^ (7*i):=by rw[IH] at h1;omega
  have e2:((b % 128:Nat):Int)*2 ^ (7*i)=((b % 128*2 ^ (7*i):Nat):Int):=by simp
  have dX:b % 128*2 ^ (7*i)≤127*2 ^ 35:=Nat.mul_le_mul (by omega) hle
  rw[e2,show IntKind.i64.wrap ((b % 128*2 ^ (7*i):Nat):Int)=((b % 128*2 ^ (7*i):Nat):Int) from eR ⟨by omega,by omega⟩]
  rw[Lh a _ (by omega) (by omega),Fo _ _ _ ha,IH]
  simp
theorem Dz (b:UInt8):0≤bits .and .u8 (b.toNat:Int) 127∧bits .and .u8 (b.toNat:Int) 127≤127:=by
  have h:=Li b.toNat 127 b.toNat_lt (by omega)
  rw[Bd] at h
  have h2:bits .and .u8 (b.toNat:Int) 127=((b.toNat % 128:Nat):Int):=h
  omega
theorem HC (b:UInt8)(i:Nat)(h:i≤6):0≤(128:Int) ^ i*((b.toNat:Int) % 128)∧(128:Int) ^ i*((b.toNat:Int) % 128)≤128 ^ i*127∧1≤(128:Int) ^ i∧(128:Int) ^ i≤4398046511104:=by
  have hp:0<(128:Int) ^ i∧(128:Int) ^ i≤4398046511104:=by
    match i,h with
    |0,_=>decide
    |1,_=>decide
    |2,_=>decide
    |3,_=>decide
    |4,_=>decide
    |5,_=>decide
    |6,_=>decide
  exact⟨Int.mul_nonneg (Int.le_of_lt hp.1) (by omega),Int.mul_le_mul_of_nonneg_left (by omega) (Int.le_of_lt hp.1),hp.1,hp.2⟩
def dK (s:ByteArray):ByteArray×ByteArray×Int:=
  if (bf s).2.2≠0 then (emp,emp,(bf s).2.2) else
  if 5000<(bf s).1 then (emp,emp,1) else
  if ((bf s).2.1.size:Int)<(bf s).1 then (emp,emp,5) else
  ((bf s).2.1.extract 0 (bf s).1.toNat,(bf s).2.1.extract (bf s).1.toNat (bf s).2.1.size,0)
theorem eH (s:ByteArray):0≤(bf s).1∧(bf s).1≤1099511627776∧((bf s).2.2=0∨(bf s).2.2=4∨(bf s).2.2=5)∧(bf s).2.1.size≤s.size:=by
  have key: ∀(f i:Nat) (n:Int),0≤n→i+f=6→0≤(rd s f i n).1∧(rd s f i n).1≤1099511627776∧((rd s f i n).2.2=0∨(rd s f i n).2.2=4∨(rd s f i n).2.2=5)∧(rd s f i n).2.1.size≤s.size:=by
    intro f
    induction f with
    |zero=>intro i n _ _;simp[rd,aL]
    |succ f ih=>
      intro i n hn hi
      have hp:=Lj i (by omega)
      have h6:0≤(128:Int) ^ i*(((s.data.getD i 0).toNat:Int) % 128):=Int.mul_nonneg (Int.le_of_lt hp.2) (by omega)
      simp only[rd]
      split
      · simp[aL]
      · split
        · split
          · simp[aL]
          · rename_i h7
            refine⟨by show 0≤n+_;omega,by show n+_≤_;omega,by simp,?_⟩
            show (s.extract (i+1) s.size).size≤s.size
            simp
        · exact ih (i+1) _ (by omega) (by omega)
  exact key 6 0 0 (by omega) rfl
end Go.Proofs.YtbjakddkfgjkaaaGreat.Fw
namespace Go.Proofs.YtbjakddkfgjkaaaGreat.Fw
open Go.RowKit
structure vJ where
  kind:Int
  a:ByteArray
  b:ByteArray
  n:Int
  deriving Inhabited
instance:aR vJ where
  sub B w x:=x.a.size≤9223372036854775807∧x.b.size≤9223372036854775807
  stay:=fun {B w w' x} hs ⟨h0,h1⟩=>⟨h0,h1⟩
  wide:=fun {B B' w x} hs ⟨h0,h1⟩=>⟨h0,h1⟩
  ok x:=x.a.size≤9223372036854775807∧x.b.size≤9223372036854775807
  small x:=True
  bL:=fun {B w x} ⟨h0,h1⟩=>⟨h0,h1⟩
  size:=4
  bytes:=48
  pos:=by decide
  cells x:=[.int .i64 x.kind,.string x.a,.string x.b,.int .i64 x.n]
  len _:=rfl
  one _:=rfl
abbrev vJ.val (x:vJ):Value:=.agg #[.int .i64 x.kind,.string x.a,.string x.b,.int .i64 x.n]
structure cQ where
  code:Int
  n:Int
  text:ByteArray
  deriving Inhabited
instance:aR cQ where
  sub B w x:=x.text.size≤9223372036854775807
  stay:=fun {B w w' x} hs h0=>h0
  wide:=fun {B B' w x} hs h0=>h0
  ok x:=x.text.size≤9223372036854775807
  small x:=True
  bL:=fun {B w x} h0=>h0
  size:=3
  bytes:=32
  pos:=by decide
  cells x:=[.int .i64 x.code,.int .i64 x.n,.string x.text]
  len _:=rfl
  one _:=rfl
abbrev cQ.val (x:cQ):Value:=.agg #[.int .i64 x.code,.int .i64 x.n,.string x.text]
structure aY where
  name:ByteArray
  ar:Int
  aA:Int
  line:List Int
  deriving Inhabited
structure ae where
  name:ByteArray
  ar:Int
  aA:Int
  line:Sl Int
  deriving Inhabited
def ae.abs (x:ae):aY:={ name:=x.name,ar:=x.ar,aA:=x.aA,line:=x.line.xs }
instance:aR ae where
  sub B w x:=x.name.size≤9223372036854775807∧x.line.rd B w
  stay:=fun {B w w' x} hs ⟨h0,h1⟩=>⟨h0,Sl.rd.stay h1 hs⟩
  wide:=fun {B B' w x} hs ⟨h0,h1⟩=>⟨h0,Sl.rd.wide h1 hs⟩
  ok x:=x.name.size≤9223372036854775807∧x.line.ok
  small x:=aJ.small x.line
  bL:=fun {B w x} ⟨h0,h1⟩=>⟨h0,Sl.rd.ok h1⟩
  size:=4
  bytes:=56
  pos:=by decide
  cells x:=[.string x.name,.int .i64 x.ar,.int .i64 x.aA,.slice x.line.A x.line.n x.line.c]
  len _:=rfl
  one _:=rfl
abbrev ae.val (x:ae):Value:=.agg #[.string x.name,.int .i64 x.ar,.int .i64 x.aA,.slice x.line.A x.line.n x.line.c]
structure aG where
  name:ByteArray
  value:ByteArray
  version:Int
  deriving Inhabited
instance:aR aG where
  sub B w x:=x.name.size≤9223372036854775807∧x.value.size≤9223372036854775807
  stay:=fun {B w w' x} hs ⟨h0,h1⟩=>⟨h0,h1⟩
  wide:=fun {B B' w x} hs ⟨h0,h1⟩=>⟨h0,h1⟩
  ok x:=x.name.size≤9223372036854775807∧x.value.size≤9223372036854775807
  small x:=True
  bL:=fun {B w x} ⟨h0,h1⟩=>⟨h0,h1⟩
  size:=3
  bytes:=40
  pos:=by decide
  cells x:=[.string x.name,.string x.value,.int .i64 x.version]
  len _:=rfl
  one _:=rfl
abbrev aG.val (x:aG):Value:=.agg #[.string x.name,.string x.value,.int .i64 x.version]
structure aF where
  kind:Int
  ag:Int
  aD:Int
  seq:Int
  aC:Int
  op:vJ
  deriving Inhabited
instance:aR aF where
  sub B w x:=x.op.a.size≤9223372036854775807∧x.op.b.size≤9223372036854775807
  stay:=fun {B w w' x} hs ⟨h0,h1⟩=>⟨h0,h1⟩
  wide:=fun {B B' w x} hs ⟨h0,h1⟩=>⟨h0,h1⟩
  ok x:=x.op.a.size≤9223372036854775807∧x.op.b.size≤9223372036854775807
  small x:=True
  bL:=fun {B w x} ⟨h0,h1⟩=>⟨h0,h1⟩
  size:=9
  bytes:=88
  pos:=by decide
  cells x:=[.int .i64 x.kind,.int .i64 x.ag,.int .i64 x.aD,.int .i64 x.seq,.int .i64 x.aC,.int .i64 x.op.kind,.string x.op.a,.string x.op.b,.int .i64 x.op.n]
  len _:=rfl
  one _:=rfl
abbrev aF.val (x:aF):Value:=.agg #[.int .i64 x.kind,.int .i64 x.ag,.int .i64 x.aD,.int .i64 x.seq,.int .i64 x.aC,.int .i64 x.op.kind,.string x.op.a,.string x.op.b,.int .i64 x.op.n]
structure aK where
  seq:Int
  aE:cQ
  deriving Inhabited
instance:aR aK where
  sub B w x:=x.aE.text.size≤9223372036854775807
  stay:=fun {B w w' x} hs h0=>h0
  wide:=fun {B B' w x} hs h0=>h0
  ok x:=x.aE.text.size≤9223372036854775807
  small x:=True
  bL:=fun {B w x} h0=>h0
  size:=4
  bytes:=40
  pos:=by decide
  cells x:=[.int .i64 x.seq,.int .i64 x.aE.code,.int .i64 x.aE.n,.string x.aE.text]
  len _:=rfl
  one _:=rfl
abbrev aK.val (x:aK):Value:=.agg #[.int .i64 x.seq,.int .i64 x.aE.code,.int .i64 x.aE.n,.string x.aE.text]
structure az where
  ag:Int
  id:Int
  aC:Int
  last:Int
  ab:List aK
  deriving Inhabited
structure aa where
  ag:Int
  id:Int
  aC:Int
  last:Int
  ab:Sl aK
  deriving Inhabited
def aa.abs (x:aa):az:={ ag:=x.ag,id:=x.id,aC:=x.aC,last:=x.last,ab:=x.ab.xs }
instance:aR aa where
  sub B w x:=x.ab.rd B w
  stay:=fun {B w w' x} hs h0=>Sl.rd.stay h0 hs
  wide:=fun {B B' w x} hs h0=>Sl.rd.wide h0 hs
  ok x:=x.ab.ok
  small x:=aJ.small x.ab
  bL:=fun {B w x} h0=>Sl.rd.ok h0
  size:=5
  bytes:=56
  pos:=by decide
  cells x:=[.int .i64 x.ag,.int .i64 x.id,.int .i64 x.aC,.int .i64 x.last,.slice x.ab.A x.ab.n x.ab.c]
  len _:=rfl
  one _:=rfl
abbrev aa.val (x:aa):Value:=.agg #[.int .i64 x.ag,.int .i64 x.id,.int .i64 x.aC,.int .i64 x.last,.slice x.ab.A x.ab.n x.ab.c]
structure aZ where
  index:Int
  aj:List aY
  an:List aG
  af:List az
  deriving Inhabited
structure aN where
  index:Int
  aj:Sl ae
  an:Sl aG
  af:Sl aa
  deriving Inhabited
def aN.abs (x:aN):aZ:={ index:=x.index,aj:=x.aj.xs.map ae.abs,an:=x.an.xs,af:=x.af.xs.map aa.abs }
instance:aR aN where
  sub B w x:=x.aj.rd B w∧x.an.rd B w∧x.af.rd B w
  stay:=fun {B w w' x} hs ⟨h0,h1,h2⟩=>⟨Sl.rd.stay h0 hs,Sl.rd.stay h1 hs,Sl.rd.stay h2 hs⟩
  wide:=fun {B B' w x} hs ⟨h0,h1,h2⟩=>⟨Sl.rd.wide h0 hs,Sl.rd.wide h1 hs,Sl.rd.wide h2 hs⟩
  ok x:=x.aj.ok∧x.an.ok∧x.af.ok
  small x:=aJ.small x.aj∧aJ.small x.an∧aJ.small x.af
  bL:=fun {B w x} ⟨h0,h1,h2⟩=>⟨Sl.rd.ok h0,Sl.rd.ok h1,Sl.rd.ok h2⟩
  size:=4
  bytes:=80
  pos:=by decide
  cells x:=[.int .i64 x.index,.slice x.aj.A x.aj.n x.aj.c,.slice x.an.A x.an.n x.an.c,.slice x.af.A x.af.n x.af.c]
  len _:=rfl
  one _:=rfl
abbrev aN.val (x:aN):Value:=.agg #[.int .i64 x.index,.slice x.aj.A x.aj.n x.aj.c,.slice x.an.A x.an.n x.an.c,.slice x.af.A x.af.n x.af.c]
structure iy where
  base:Int
  entries:List ByteArray
  deriving Inhabited
structure dr where
  base:Int
  entries:Sl ByteArray
  deriving Inhabited
def dr.abs (x:dr):iy:={ base:=x.base,entries:=x.entries.xs }
instance:aR dr where
  sub B w x:=x.entries.rd B w
  stay:=fun {B w w' x} hs h0=>Sl.rd.stay h0 hs
  wide:=fun {B B' w x} hs h0=>Sl.rd.wide h0 hs
  ok x:=x.entries.ok
  small x:=aJ.small x.entries
  bL:=fun {B w x} h0=>Sl.rd.ok h0
  size:=2
  bytes:=32
  pos:=by decide
  cells x:=[.int .i64 x.base,.slice x.entries.A x.entries.n x.entries.c]
  len _:=rfl
  one _:=rfl
abbrev dr.val (x:dr):Value:=.agg #[.int .i64 x.base,.slice x.entries.A x.entries.n x.entries.c]
structure aT where
  log:iy
  snap:ByteArray
  state:aZ
  deriving Inhabited
structure aw where
  log:dr
  snap:ByteArray
  state:aN
  deriving Inhabited
def aw.abs (x:aw):aT:={ log:=x.log.abs,snap:=x.snap,state:=x.state.abs }
instance:aR aw where
  sub B w x:=x.snap.size≤9223372036854775807∧x.log.entries.rd B w∧x.state.aj.rd B w∧x.state.an.rd B w∧x.state.af.rd B w
  stay:=fun {B w w' x} hs ⟨h0,h1,h2,h3,h4⟩=>⟨h0,Sl.rd.stay h1 hs,Sl.rd.stay h2 hs,Sl.rd.stay h3 hs,Sl.rd.stay h4 hs⟩
  wide:=fun {B B' w x} hs ⟨h0,h1,h2,h3,h4⟩=>⟨h0,Sl.rd.wide h1 hs,Sl.rd.wide h2 hs,Sl.rd.wide h3 hs,Sl.rd.wide h4 hs⟩
  ok x:=x.snap.size≤9223372036854775807∧x.log.entries.ok∧x.state.aj.ok∧x.state.an.ok∧x.state.af.ok
  small x:=aJ.small x.log.entries∧aJ.small x.state.aj∧aJ.small x.state.an∧aJ.small x.state.af
  bL:=fun {B w x} ⟨h0,h1,h2,h3,h4⟩=>⟨h0,Sl.rd.ok h1,Sl.rd.ok h2,Sl.rd.ok h3,Sl.rd.ok h4⟩
  size:=7
  bytes:=128
  pos:=by decide
  cells x:=[.int .i64 x.log.base,.slice x.log.entries.A x.log.entries.n x.log.entries.c,.string x.snap,.int .i64 x.state.index,.slice x.state.aj.A x.state.aj.n x.state.aj.c,.slice x.state.an.A x.state.an.n x.state.an.c,.slice x.state.af.A x.state.af.n x.state.af.c]
  len _:=rfl
  one _:=rfl
abbrev aw.val (x:aw):Value:=.agg #[.int .i64 x.log.base,.slice x.log.entries.A x.log.entries.n x.log.entries.c,.string x.snap,.int .i64 x.state.index,.slice x.state.aj.A x.state.aj.n x.state.aj.c,.slice x.state.an.A x.state.an.n x.state.an.c,.slice x.state.af.A x.state.af.n x.state.af.c]
structure bD where
  seq:Int
  op:vJ
  deriving Inhabited
instance:aR bD where
  sub B w x:=x.op.a.size≤9223372036854775807∧x.op.b.size≤9223372036854775807
  stay:=fun {B w w' x} hs ⟨h0,h1⟩=>⟨h0,h1⟩
  wide:=fun {B B' w x} hs ⟨h0,h1⟩=>⟨h0,h1⟩
  ok x:=x.op.a.size≤9223372036854775807∧x.op.b.size≤9223372036854775807
  small x:=True
  bL:=fun {B w x} ⟨h0,h1⟩=>⟨h0,h1⟩
  size:=5
  bytes:=56
  pos:=by decide
  cells x:=[.int .i64 x.seq,.int .i64 x.op.kind,.string x.op.a,.string x.op.b,.int .i64 x.op.n]
  len _:=rfl
  one _:=rfl
abbrev bD.val (x:bD):Value:=.agg #[.int .i64 x.seq,.int .i64 x.op.kind,.string x.op.a,.string x.op.b,.int .i64 x.op.n]
structure ba where
  id:Int
  aD:Int
  next:Int
  waits:List bD
  deriving Inhabited
structure av where
  id:Int
  aD:Int
  next:Int
  waits:Sl bD
  deriving Inhabited
def av.abs (x:av):ba:={ id:=x.id,aD:=x.aD,next:=x.next,waits:=x.waits.xs }
instance:aR av where
  sub B w x:=x.waits.rd B w
  stay:=fun {B w w' x} hs h0=>Sl.rd.stay h0 hs
  wide:=fun {B B' w x} hs h0=>Sl.rd.wide h0 hs
  ok x:=x.waits.ok
  small x:=aJ.small x.waits
  bL:=fun {B w x} h0=>Sl.rd.ok h0
  size:=4
  bytes:=48
  pos:=by decide
  cells x:=[.int .i64 x.id,.int .i64 x.aD,.int .i64 x.next,.slice x.waits.A x.waits.n x.waits.c]
  len _:=rfl
  one _:=rfl
abbrev av.val (x:av):Value:=.agg #[.int .i64 x.id,.int .i64 x.aD,.int .i64 x.next,.slice x.waits.A x.waits.n x.waits.c]
structure bg where
  ag:Int
  seq:Int
  aE:cQ
  deriving Inhabited
instance:aR bg where
  sub B w x:=x.aE.text.size≤9223372036854775807
  stay:=fun {B w w' x} hs h0=>h0
  wide:=fun {B B' w x} hs h0=>h0
  ok x:=x.aE.text.size≤9223372036854775807
  small x:=True
  bL:=fun {B w x} h0=>h0
  size:=5
  bytes:=48
  pos:=by decide
  cells x:=[.int .i64 x.ag,.int .i64 x.seq,.int .i64 x.aE.code,.int .i64 x.aE.n,.string x.aE.text]
  len _:=rfl
  one _:=rfl
abbrev bg.val (x:bg):Value:=.agg #[.int .i64 x.ag,.int .i64 x.seq,.int .i64 x.aE.code,.int .i64 x.aE.n,.string x.aE.text]
structure eP where
  kind:Int
  c:Int
  r:Int
  k:Int
  op:vJ
  deriving Inhabited
instance:aR eP where
  sub B w x:=x.op.a.size≤9223372036854775807∧x.op.b.size≤9223372036854775807
  stay:=fun {B w w' x} hs ⟨h0,h1⟩=>⟨h0,h1⟩
  wide:=fun {B B' w x} hs ⟨h0,h1⟩=>⟨h0,h1⟩
  ok x:=x.op.a.size≤9223372036854775807∧x.op.b.size≤9223372036854775807
  small x:=True
  bL:=fun {B w x} ⟨h0,h1⟩=>⟨h0,h1⟩
  size:=8
  bytes:=80
  pos:=by decide
  cells x:=[.int .i64 x.kind,.int .i64 x.c,.int .i64 x.r,.int .i64 x.k,.int .i64 x.op.kind,.string x.op.a,.string x.op.b,.int .i64 x.op.n]
  len _:=rfl
  one _:=rfl
abbrev eP.val (x:eP):Value:=.agg #[.int .i64 x.kind,.int .i64 x.c,.int .i64 x.r,.int .i64 x.k,.int .i64 x.op.kind,.string x.op.a,.string x.op.b,.int .i64 x.op.n]
end Go.Proofs.YtbjakddkfgjkaaaGreat.Fw
namespace Go.Proofs.YtbjakddkfgjkaaaGreat.Fw
open Go.RowKit
def fX (c:UInt8):Bool:=decide ((c.toNat:Int)<97)||decide (122<(c.toNat:Int))
def ee (s:ByteArray):Bool:=!decide (s=emp) && (decide ((s.size:Int)≤6) && !(s.data.toList.any fX))
theorem Lk (s:ByteArray):s.size=0↔s=emp:=by
  constructor
  · intro h
    apply ByteArray.ext
    exact Array.eq_empty_of_size_eq_zero h
  · rintro rfl;rfl
theorem DA {s:ByteArray}{i:Nat}(hi:i<s.size)(h:fX (s.data.getD i 0)=true):ee s=false:=by
  have h2:s.data.toList.any fX=true:=by
    rw[List.any_eq_true]
    refine⟨s.data.getD i 0,?_,h⟩
    have AZ:i<s.data.size:=hi
    rw[Array.getD_eq_getD_getElem?,Array.getElem?_eq_getElem AZ]
    simp
  unfold ee
  rw[h2]
  simp
theorem Be {s:ByteArray}(h: ∀j,j<s.size→fX (s.data.getD j 0)=false):gk (s.size:Int) 1 6=ee s:=by
  have h2:s.data.toList.any fX=false:=by
    rw[List.any_eq_false]
    intro x hx
    obtain⟨j,hj,rfl⟩:=List.getElem_of_mem hx
    have ER:j<s.data.size:=by simpa using hj
    have:=h j ER
    rw[Array.getD_eq_getD_getElem?,Array.getElem?_eq_getElem ER] at this
    simpa using this
  unfold ee gk
  rw[h2]
  by_cases h0:s=emp
  · subst h0;rfl
  · have h1:s.size≠0:=fun h=>h0 ((Lk s).1 h)
    have h3:decide ((1:Int)≤(s.size:Int))=true:=decide_eq_true (by omega)
    rw[h3]
    simp[h0]
end Go.Proofs.YtbjakddkfgjkaaaGreat.Fw
namespace Go.Proofs.YtbjakddkfgjkaaaGreat.Fw
open Go.RowKit
def bM (e:Nat)(x:ae):bz:=ay e x.line.A x.line.c x.line.xs
def cj (e:Nat)(x:aa):bz:=ay e x.ab.A x.ab.c x.ab.xs
def uc (eL eI:Nat)(y:Sl ae):bz:=cN [bI (bM eI) y.xs,ay eL y.A y.c y.xs]
def CI (eS eK:Nat)(y:Sl aa):bz:=cN [bI (cj eK) y.xs,ay eS y.A y.c y.xs]
theorem wz {eL eI:Nat}{y:Sl ae}{w:World}(h:(uc eL eI y).p w)(hn: ∀x,x∈y.xs→x.name.size≤9223372036854775807):Sl.rd (· ∈(uc eL eI y).fp) w y:=by
  have h1:(bI (bM eI) y.xs).p w:=h _ (.head _)
  have h2:(ay eL y.A y.c y.xs).p w:=h _ (.tail _ (.head _))
  refine Rr h2 (fun b hb=>fi (.tail _ (.head _)) hb) fun x hx=>⟨hn x hx,?_⟩
  exact Rr (h1 x hx) (fun b hb=>fi (.head _) (List.mem_flatMap.2 ⟨x,hx,hb⟩)) fun _ _=>trivial
theorem zf {eL eI:Nat}{y:Sl aa}{w:World}(h:(CI eL eI y).p w)(hn: ∀x,x∈y.xs→ ∀k,k∈x.ab.xs→k.aE.text.size≤9223372036854775807):Sl.rd (· ∈(CI eL eI y).fp) w y:=by
  have h1:(bI (cj eI) y.xs).p w:=h _ (.head _)
  have h2:(ay eL y.A y.c y.xs).p w:=h _ (.tail _ (.head _))
  refine Rr h2 (fun b hb=>fi (.tail _ (.head _)) hb) fun x hx=>?_
  exact Rr (h1 x hx) (fun b hb=>fi (.head _) (List.mem_flatMap.2 ⟨x,hx,hb⟩)) fun k hk=>hn x hx k hk
theorem gF {s y:Sl ae}{w:World}{B:Nat→Prop}(hs:s.rd B w)(h:y.xs.map ae.abs=s.xs.map ae.abs): ∀x,x∈y.xs→x.name.size≤9223372036854775807:=fun x hx=>by
  have h1:x.abs∈s.xs.map ae.abs:=by rw[←h];exact List.mem_map.2 ⟨x,hx,rfl⟩
  obtain⟨z,hz,he⟩:=List.mem_map.1 h1
  have h2:=(hs.mem z hz).1
  have h3:z.name=x.name:=congrArg aY.name he
  rwa [h3] at h2
theorem eW {s y:Sl aa}{w:World}{B:Nat→Prop}(hs:s.rd B w)(h:y.xs.map aa.abs=s.xs.map aa.abs): ∀x,x∈y.xs→ ∀k,k∈x.ab.xs→k.aE.text.size≤9223372036854775807:=fun x hx k hk=>by
  have h1:x.abs∈s.xs.map aa.abs:=by rw[←h];exact List.mem_map.2 ⟨x,hx,rfl⟩
  obtain⟨z,hz,he⟩:=List.mem_map.1 h1
  have h2:z.ab.rd B w:=hs.mem z hz
  have h3:z.ab.xs=x.ab.xs:=congrArg az.ab he
  exact h2.mem k (by rw[h3];exact hk)
theorem kn {α β:Type}[Inhabited α]{s:Sl α}{f:α→β}{i:Nat}{L:List α}{x:α}(hi:i<s.n)(hL:L.map f=(s.xs.take i).map f)(hx:f x=f (s.at i)):(L++[x]).map f=(s.xs.take (i+1)).map f:=by
  rw[←gq hi,List.map_append,List.map_append,hL]
  simp[hx]
theorem CJ {α:Type}(n:Nat)(a b c:α):[a,b,c].Perm [c,a,b]:=by
  have h:([c]++[a,b]).Perm ([a,b]++[c]):=List.perm_append_comm
  exact h.symm
def pC (n:Int):av×Int:=if 1≤n∧n≤9 then (⟨n,0,1,Sl.nil⟩,0) else (⟨0,0,0,Sl.nil⟩,2)
end Go.Proofs.YtbjakddkfgjkaaaGreat.Fw
namespace Go.Proofs.YtbjakddkfgjkaaaGreat.Fw
open Go.RowKit
def jy (o:vJ):Int:=
  if o.kind<1∨6<o.kind then 3 else
  if ee o.a=false∨(¬o.kind=5∧ ¬o.b=emp) then 4 else
  if 12<(o.b.size:Int) then 1 else
  if (o.kind=5∧(o.n<1∨1073741824<o.n))∨(¬o.kind=5∧ ¬o.n=0) then 2 else 0
def dP (c:aF):Int:=
  if c.kind<1∨3<c.kind then 3 else
  if c.ag<1∨9<c.ag then 2 else
  if c.kind=2 then
    if c.aD<1∨1073741824<c.aD∨c.seq<1∨1048576<c.seq∨c.aC<0∨c.seq≤c.aC then 2 else jy c.op
  else if c.aD=0∧c.seq=0∧c.aC=0∧c.op.kind=0∧c.op.a=emp∧c.op.b=emp∧c.op.n=0 then 0 else 4
end Go.Proofs.YtbjakddkfgjkaaaGreat.Fw
namespace Go.Proofs.YtbjakddkfgjkaaaGreat.Fw
open Go.RowKit
theorem zg: ∀x y:List UInt8,(Op.bytesLess x y||decide (x=y))=!Op.bytesLess y x
  |[],[]=>rfl
  |[],b::y=>rfl
  |a::x,[]=>rfl
  |a::x,b::y=>by
    have ih:=zg x y
    simp only[Op.bytesLess]
    rcases Nat.lt_trichotomy a.toNat b.toNat with h|h|h
    · have h1:a<b:=h
      have h2: ¬b<a:=fun h3=>absurd (show b.toNat<a.toNat from h3) (by omega)
      have h3: ¬b=a:=fun e=>by subst e;omega
      simp[h1,h2,h3]
    · have h1:a=b:=UInt8.toNat_inj.1 h
      subst h1
      have h2: ¬a<a:=fun h3=>absurd (show a.toNat<a.toNat from h3) (by omega)
      simp only[h2,decide_false,Bool.false_or,beq_self_eq_true,Bool.true_and,List.cons.injEq,true_and]
      exact ih
    · have h1:b<a:=h
      have h2: ¬a<b:=fun h3=>absurd (show a.toNat<b.toNat from h3) (by omega)
      have h3: ¬a=b:=fun e=>by subst e;omega
      simp[h1,h2,h3]
theorem bytes_total (s t:ByteArray):(Op.bytesLess s.toList t.toList||decide (s=t))=!Op.bytesLess t.toList s.toList:=by
  have h:decide (s=t)=decide (s.toList=t.toList):=by
    by_cases e:s=t
    · subst e;simp
    · have: ¬s.toList=t.toList:=fun h=>e (by
        rw[ByteArray.toList_eq,ByteArray.toList_eq] at h
        exact ByteArray.ext (Array.toList_inj.1 h))
      simp[e,this]
  rw[h]
  exact zg _ _
def ek (f:Nat→Int):Nat→Nat→Int
  |0,_=>0
  |k+1,i=>if f i=0 then ek f k (i+1) else f i
theorem bN {f:Nat→Int}{n i:Nat}(hi:i<n)(h:f i=0):ek f (n - i) i=ek f (n - (i+1)) (i+1):=by
  rw[show n - i=(n - (i+1))+1 by omega]
  simp[ek,h]
theorem aI {f:Nat→Int}{n i:Nat}{e:Int}(hi:i<n)(h:f i=e)(he: ¬e=0):ek f (n - i) i=e:=by
  rw[show n - i=(n - (i+1))+1 by omega]
  simp[ek,h,he]
theorem eX {f:Nat→Int}{n i:Nat}(hi:n≤i):ek f (n - i) i=0:=by
  rw[show n - i=0 by omega]
  rfl
def fj (l:List aG)(i:Nat):Int:=
  if ee (l.getD i default).name=false then 4 else
  if 12<((l.getD i default).value.size:Int) then 1 else
  if (l.getD i default).version<1∨1073741824<(l.getD i default).version then 2 else
  if 0<i∧Op.bytesLess (l.getD (i - 1) default).name.toList (l.getD i default).name.toList=false then 14 else 0
def cy (l:List aG):Int:=if 5<l.length then 1 else ek (fj l) (l.length - 0) 0
end Go.Proofs.YtbjakddkfgjkaaaGreat.Fw
namespace Go.Proofs.YtbjakddkfgjkaaaGreat.Fw
open Go.RowKit
def bR (c:ba)(i:Nat):Int:=
  if (c.waits.getD i default).seq<1∨c.next≤(c.waits.getD i default).seq∨(0<i∧(c.waits.getD i default).seq≤(c.waits.getD (i - 1) default).seq)∨(c.waits.getD 0 default).seq+3<(c.waits.getD i default).seq then 9 else jy (c.waits.getD i default).op
def bW (c:ba):Int:=
  if c.id<1∨9<c.id∨c.aD<0∨1073741824<c.aD∨c.next<1∨1048577<c.next then 2 else
  if 4<c.waits.length∨(c.aD=0∧0<c.waits.length) then 9 else ek (bR c) (c.waits.length - 0) 0
end Go.Proofs.YtbjakddkfgjkaaaGreat.Fw
namespace Go.Proofs.YtbjakddkfgjkaaaGreat.Fw
open Go.RowKit
def kP (s:ByteArray)(l:List Int):ByteArray:=l.foldl (fun s n=>s++(cf n).1) s
def pD (s:ByteArray)(l:List ByteArray):ByteArray:=l.foldl (fun s t=>s++(gr t).1) s
theorem wA (s:ByteArray)(l:List Int)(n:Int):kP s (l++[n])=kP s l++(cf n).1:=by simp[kP]
theorem DB (s:ByteArray)(l:List ByteArray)(t:ByteArray):pD s (l++[t])=pD s l++(gr t).1:=by simp[pD]
theorem kz (a b:ByteArray):(a++b).size=a.size+b.size:=by simp
theorem oM (s:ByteArray)(l:List Int):(kP s l).size≤s.size+6*l.length:=by
  induction l generalizing s with
  |nil=>simp [kP]
  |cons n r ih=>
    have h1:=ih (s++(cf n).1)
    have h2:=eB n
    rw[kz] at h1
    show (kP (s++(cf n).1) r).size≤_
    simp only[List.length_cons]
    omega
theorem ka (t:ByteArray):(gr t).1.size≤5006:=by
  unfold gr
  split
  · simp[aL]
  · have:=eB (t.size:Int)
    rw[kz]
    omega
theorem wB (s:ByteArray)(l:List ByteArray):(pD s l).size≤s.size+5006*l.length:=by
  induction l generalizing s with
  |nil=>simp [pD]
  |cons n r ih=>
    have h1:=ih (s++(gr n).1)
    have h2:=ka n
    rw[kz] at h1
    show (pD (s++(gr n).1) r).size≤_
    simp only[List.length_cons]
    omega
def g6 (c:aF):ByteArray×Int:=
  if dP c=0 then
    (if c.kind=2 then pD (kP (cP [c.kind % 256,c.ag % 256]) [c.aD,c.seq,c.aC,c.op.kind,c.op.n]) [c.op.a,c.op.b] else cP [c.kind % 256,c.ag % 256],0)
  else (emp,dP c)
end Go.Proofs.YtbjakddkfgjkaaaGreat.Fw
