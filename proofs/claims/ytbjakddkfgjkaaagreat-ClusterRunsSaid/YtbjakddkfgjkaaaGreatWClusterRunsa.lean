/-
  The functions that the law ClusterRuns reaches, walked: each returns what its model says.
  Conditions: those that each theorem states.
-/
import Derived.Test.YtbjakddkfgjkaaaGreatFe
import Derived.Test.YtbjakddkfgjkaaaGreatChecked
set_option linter.unusedVariables false
set_option linter.unusedSimpArgs false
set_option maxRecDepth 100000
set_option maxHeartbeats 2000000
namespace Go.Proofs.YtbjakddkfgjkaaaGreat.W
open Go.Proofs.YtbjakddkfgjkaaaGreat.Fw Go.RowKit Tryz
variable {B : Nat → Prop}
abbrev dd {α:Type}[Inhabited α]:α:=default
attribute [local irreducible] JM nx
theorem ai:prog.follows .mixedOrders=true:=by kernel_rfl
theorem laid:laidOutB prog=true:=by kernel_rfl
abbrev tK:TK:=⟨39,101,93,9,98⟩
abbrev tJ:TK:=⟨39,101,93,9,110⟩
theorem b6 (n lo hi:Int)(w:World):Calls prog 51 #[vi n,vi lo,vi hi] w fun e w'=>e=.returned (vb (gk n lo hi))∧Kp [] w w':=by
 refine M0 ?_ func51
 refine Md (lo≤n) (fun h1=>?_) fun h1=>?_
 rotate_left
 ·exact Mt [vb false] fun bs w hS=>⟨by simp[bO,den,gk,h1],hS.kp⟩
 exact Mt [vb (decide (n≤hi))] fun bs w hS=>⟨by simp[bO,den,gk,h1],hS.kp⟩
theorem BP (c:UInt8)(w:World):Calls prog 187 #[.int .u8 (c.toNat:Int)] w fun e w'=>e=.returned (vb (fX c))∧Kp [] w w':=by
 refine M0 ?_ func187
 refine Md ((c.toNat:Int)<97) (fun h1=>?_) fun h1=>?_
 ·exact Mt [vb true] fun bs w hS=>⟨by simp[bO,den,fX,h1],hS.kp⟩
 exact Mt [vb (decide ((122:Int)<(c.toNat:Int)))] fun bs w hS=>⟨by simp[bO,den,fX,h1],hS.kp⟩
theorem Eh (s:Sl UInt8)(w:World)(hs:s.rd B w):Calls prog 216 #[s.val,.func (.func 187) #[] #[]] w fun e w'=>e=.returned (vi (aQ fX s.xs))∧Kp [] w w':=by
 have cV:=Sl.rd.ok hs
 have iV:=Sl.ok.nc cV
 have iW:s.n=s.xs.length:=rfl
 refine Mj ?_ func216 (WS.start w)
 refine Ml (σ:=Nat) (fun i=>i≤s.n∧ ∀j,j<i→fX (s.at j)=false) (fun i=>s.n - i) (fun _=>[]) [8,7,0,1] (fun i=>[(8,vI (i:Int))]) (fun _=>[]) ?_ 0 ⟨Nat.zero_le _,fun j hj=>absurd hj (Nat.not_lt_zero _)⟩
 rintro i ⟨hi,hI⟩ _ bu
 refine Md ((i:Int)<(s.n:Int)) (fun h1=>?_) fun h1=>?_
 rotate_left
 ·exact cd (-1) (by rw[gp fun j hj=>hI j (by omega)])
 refine Mi ?_ (pA 14 15 (i:Int) i (db hs))
 refine Mp ?_ call187 (fun bs w hS=>BP (s.at i) w)
 refine Mb (fX (s.at i)) (fun h2=>?_) fun h2=>?_
 ·exact cd (i:Int) (by rw[fR (by omega) (by assumption) hI])
 refine Mi ?_ (pR ((i:Int)+1))
 exact bu (i+1) ⟨by omega,fun j hj=>by rcases Nat.lt_succ_iff_lt_or_eq.1 hj with h|h;exact hI j h;subst h;assumption⟩ (by omega)
theorem Ei (s:Sl UInt8)(w:World)(hs:s.rd B w):Calls prog 186 #[s.val,.func (.func 187) #[] #[]] w fun e w'=>e=.returned (vb (s.xs.any fX))∧Kp [] w w':=by
 have cV:=Sl.rd.ok hs
 have iV:=Sl.ok.nc cV
 have iW:s.n=s.xs.length:=rfl
 refine Mj ?_ func186 (WS.start w)
 refine Mp ?_ call216 (fun bs w hS=>Eh _ w (Sl.rd.kp hs hS.kp))
 exact o4 (decide ((0:Int)≤aQ fX s.xs)) (by simp only[bO,den,List.map_cons,List.map_nil,hC])
theorem mQ (s:ByteArray)(w:World)(hs:s.size≤9223372036854775807):Calls prog 129 #[vs s] w fun e w'=>e=.returned (vb (ee s))∧Kp [] w w':=by
 refine M0 ?_ func129
 refine cr (s=emp) (fun h1=>?_) fun h1=>?_
 ·exact o4 false (by simp[bO,den,ee, *])
 refine Md ((s.size:Int)≤6) (fun h2=>?_) fun h2=>?_
 rotate_left
 ·exact o4 false (by simp[bO,den,ee, *])
 refine R5 ?_ (e:=5) (by unfold maxLen;omega)
 rintro gZ y1 a5 ft
 refine Mp ?_ call186 (fun bs w hS=>Ei _ w (hS.res _ i0))
 exact o4 (!(y1.xs.any fX)) (by simp[bO,den,ee, *])
theorem kL (s:ByteArray)(w:World)(hs:s.size≤9223372036854775807):Calls prog 107 #[vs s] w fun e w'=>e=.returned (vb (ee s))∧Kp [] w w':=by
 refine M0 ?_ func107
 refine Ml (σ:=Nat) (fun i=>i≤s.size∧ ∀j,j<i→fX (s.data.getD j 0)=false) (fun i=>s.size - i) (fun _=>[]) [3,0] (fun i=>[(3,vI (i:Int))]) (fun _=>[]) ?_ 0 ⟨Nat.zero_le _,fun j hj=>absurd hj (Nat.not_lt_zero _)⟩
 rintro i ⟨hi,hI⟩ _ bu
 have hu:=(s.data.getD i 0).toNat_lt
 refine Md ((i:Int)<(s.size:Int)) (fun h1=>?_) fun h1=>?_
 rotate_left
 ·refine Mp ?_ call51 (fun bs w hS=>b6 (s.size:Int) 1 6 w)
  exact o4 (gk (s.size:Int) 1 6) (by simp only[bO,den,List.map_cons,List.map_nil,Be fun j hj=>hI j (by omega)])
 refine Mi ?_ (pc (pG [(12,.qg i)] (oc (rfl:(i:Int)=(i:Int)) (oc ((by omega):i<s.size) on))) (pc (pP (0≤((s.data.getD i 0).toNat:Int))) (pP (((s.data.getD i 0).toNat:Int)≤255))))
 refine Mp ?_ call51 (fun bs w hS=>b6 ((s.data.getD i 0).toNat:Int) 97 122 w)
 refine fL (gk ((s.data.getD i 0).toNat:Int) 97 122) (fun h2=>?_) fun h2=>?_
 rotate_left
 ·refine Mt [vb false] fun bs w hS=>?_
  clear bu
  refine⟨?_,hS.kp⟩
  rw[DA (i:=i) (by omega) (by simp only[gk,fX,Bool.and_eq_false_iff,Bool.or_eq_true,decide_eq_true_eq,decide_eq_false_iff_not] at*;omega)]
  rfl
 refine Mi ?_ (pR ((i:Int)+1))
 exact bu (i+1) ⟨by omega,fun j hj=>by rcases Nat.lt_succ_iff_lt_or_eq.1 hj with h|h;exact hI j h;subst h;simp only[gk,fX,Bool.and_eq_true,Bool.or_eq_false_iff,decide_eq_true_eq,decide_eq_false_iff_not] at*;omega⟩ (by omega)
theorem nf (n:Int)(w:World):Calls prog 228 #[vi n] w fun e w'=>e=.returned (.tuple #[vs (cf n).1,vi (cf n).2])∧Kp [] w w':=by
 refine M0 ?_ func228
 refine Md (n<0) (fun h1=>?_) fun h1=>?_
 ·exact Mt [ve,vi 2] fun bs w hS=>⟨by simp[bO,den,cf,h1],hS.kp⟩
 refine Md ((1099511627776:Int)<n) (fun h2=>?_) fun h2=>?_
 ·exact Mt [ve,vi 2] fun bs w hS=>⟨by simp[bO,den,cf,h1,h2],hS.kp⟩
 refine IL 5 1 ?_
 refine Ml (σ:=List Int×Int×Nat×Option Addr×Nat) (fun⟨done,m,f,A,c⟩=>n4 n done m f) (fun⟨done,m,f,A,c⟩=>f) (fun⟨done,m,f,A,c⟩=>[fI 5 1 A done.length c (done.map (Value.int .u8))]) [4,0] (fun⟨done,m,f,A,c⟩=>[(4,.v (.slice A done.length c)),(0,vI m)]) (fun _=>[]) ?_ (⟨[],n,5,none,0⟩) (n4.start (by omega) (by omega))
 rintro⟨done,m,f,A,c⟩ hI _ bu
 have rD:=hI.lo
 have KC:=hI.hi
 have hlen:=hI.len
 refine Md ((128:Int)≤m) (fun h3=>?_) fun h3=>?_
 ·refine M1 ?_
  refine QC 1 [.int .u8 ((bits .or .i64 (bits .and .i64 m 127) 128) % 256)] ?_ (k:=1)
  intro A1 c1
  refine Mi ?_ (pc (pP ((0:Int)≤7)) (pP (7≤(64:Int))))
  have nD:=hI.step h3
  exact bu ⟨done++[128+m % 128],m / 128,f - 1,A1,c1⟩ nD.2 (by have:=nD.1;show f - 1<f;omega) (hp:=(by simp only[List.length_append,List.length_cons,List.length_nil];kernel_rfl)) (hR:=(by rw[HB m rD KC];simp))
 refine M1 ?_
 refine QC 1 [.int .u8 (m % 256)] ?_ (k:=1)
 intro A2 c2
 refine R4 (eS:=5) (A:=A2) (n:=done.length+1) (c:=c2) (done++[m % 256]) ?_ (fun bs w hS=>?_) (hn:=by first|rfl|simp)
 rotate_left
 ·obtain⟨g,hg,hc⟩:=Du (e:=5) (size:=1) (A:=A2) (n:=done.length+1) (c:=c2) (xs:=done.map (Value.int .u8)++[.int .u8 (m % 256)]) hS (by simp) (by omega)
  subst hg
  exact⟨⟨g,0,none⟩,rfl,by simpa using hc⟩
 refine Mt [vs (cP (done++[m % 256])),vi 0] fun bs w hS=>?_
 have e1:m % 256=m:=by omega
 have e2:=hI.done (by omega)
 refine⟨?_,hS.kp⟩
 simp only[bO,den,List.map_cons,List.map_nil,cf,e1,e2]
 rw[if_neg (by omega)]
theorem kS (n:Int)(w:World):Calls prog 212 #[vi n] w fun e w'=>e=.returned (.tuple #[vs (cf n).1,vi (cf n).2])∧Kp [] w w':=by
 refine M0 ?_ func212
 refine Mp ?_ call51 (fun bs w hS=>b6 n 0 1099511627776 w)
 refine fL (gk n 0 1099511627776) (fun h1=>?_) fun h1=>?_
 rotate_left
 ·refine Mt [ve,vi 2] fun bs w hS=>?_
  simp[gk]at h1
  exact⟨by simp only[bO,den,List.map_cons,List.map_nil,cf];rw[if_pos (by omega)],hS.kp⟩
 refine Ml (σ:=List Int×Int×Nat) (fun⟨done,m,f⟩=>n4 n done m f) (fun⟨done,m,f⟩=>f) (fun _=>[]) [4,0] (fun⟨done,m,f⟩=>[(4,vS (cP done)),(0,vI m)]) (fun _=>[]) ?_ (⟨[],n,5⟩) (n4.start (by simp[gk]at h1;omega) (by simp[gk]at h1;omega))
 rintro⟨done,m,f⟩ hI _ bu
 have rD:=hI.lo
 have KC:=hI.hi
 have hlen:=hI.len
 refine Md ((128:Int)≤m) (fun h2=>?_) fun h2=>?_
 rotate_left
 ·refine M1 ?_
  refine DR (eS:=5) [m % 256] ?_
  refine Mi ?_ (pP ((cP done).size+(cP ([m % 256])).size≤9223372036854775807) (by simp only[fA,List.length_cons,List.length_nil];omega))
  refine Mt [vs ((cP done)++(cP ([m % 256]))),vi 0] fun bs w hS=>?_
  have e1:m % 256=m:=by omega
  have e2:=hI.done (by omega)
  simp[gk]at h1
  refine⟨?_,hS.kp⟩
  simp only[bO,den,List.map_cons,List.map_nil,cf,e1,n3,e2]
  rw[if_neg (by omega)]
 refine Mi ?_ (pc (pP (0≤m)) (pc (pP ((0:Int)<128)) (pR ((128:Int)+(m % 128)))))
 refine M1 ?_
 refine DR (eS:=5) [((128:Int)+(m % 128)) % 256] ?_
 refine Mi ?_ (pc (pP ((cP done).size+(cP ([((128:Int)+(m % 128)) % 256])).size≤9223372036854775807) (by simp only[fA,List.length_cons,List.length_nil];omega)) (pc (pP (0≤m)) (pc (pP (m≤9223372036854775807)) (pP ((0:Int)<128)))))
 have nD:=hI.step h2
 exact bu ⟨done++[128+m % 128],m / 128,f - 1⟩ nD.2 (by have:=nD.1;show f - 1<f;omega) (hp:=(by try dsimp only;rw[show cP (done++[128+m % 128])=cP done++cP [((128:Int)+(m % 128)) % 256] by rw[n3,show ((128:Int)+m % 128) % 256=128+m % 128 by omega]];kernel_rfl))
theorem u4 (s:ByteArray)(w:World)(hs:s.size≤9223372036854775807):Calls prog 229 #[vs s] w fun e w'=>e=.returned (.tuple #[vs (gr s).1,vi (gr s).2])∧Kp [] w w':=by
 refine M0 ?_ func229
 refine Md ((5000:Int)<(s.size:Int)) (fun h1=>?_) fun h1=>?_
 ·refine Mt [ve,vi 1] fun bs w hS=>?_
  refine⟨?_,hS.kp⟩
  simp only[bO,den,List.map_cons,List.map_nil,gr]
  first|rw[if_pos (by omega)]|rw[if_neg (by omega)]
 refine Mp ?_ call228 (fun bs w hS=>nf (s.size:Int) w)
 refine Mi ?_ (pP ((cf (s.size:Int)).1.size+s.size≤9223372036854775807) (by have:=eB (s.size:Int);omega))
 refine Mt [vs ((cf (s.size:Int)).1++s),vi 0] fun bs w hS=>?_
 refine⟨?_,hS.kp⟩
 simp only[bO,den,List.map_cons,List.map_nil,gr]
 first|rw[if_pos (by omega)]|rw[if_neg (by omega)]
theorem mn (s:ByteArray)(w:World)(hs:s.size≤9223372036854775807):Calls prog 213 #[vs s] w fun e w'=>e=.returned (.tuple #[vs (gr s).1,vi (gr s).2])∧Kp [] w w':=by
 refine M0 ?_ func213
 refine Md ((5000:Int)<(s.size:Int)) (fun h1=>?_) fun h1=>?_
 ·refine Mt [ve,vi 1] fun bs w hS=>?_
  refine⟨?_,hS.kp⟩
  simp only[bO,den,List.map_cons,List.map_nil,gr]
  first|rw[if_pos (by omega)]|rw[if_neg (by omega)]
 refine Mp ?_ call212 (fun bs w hS=>kS (s.size:Int) w)
 refine Mi ?_ (pP ((cf (s.size:Int)).1.size+s.size≤9223372036854775807) (by have:=eB (s.size:Int);omega))
 refine Mt [vs ((cf (s.size:Int)).1++s),vi 0] fun bs w hS=>?_
 refine⟨?_,hS.kp⟩
 simp only[bO,den,List.map_cons,List.map_nil,gr]
 first|rw[if_pos (by omega)]|rw[if_neg (by omega)]
theorem ez (s:ByteArray)(w:World)(hs:s.size≤9223372036854775807):Calls prog 132 #[.string s] w fun e w'=>e=.returned (.tuple #[.int .i64 (bf s).1,.string (bf s).2.1,.int .i64 (bf s).2.2])∧Kp [] w w':=by
 refine M0 ?_ func132
 refine Ml (σ:=Nat×Int) (fun⟨i,n⟩=>pa s i n) (fun⟨i,n⟩=>6 - i) (fun _=>[]) [6,5,0] (fun⟨i,n⟩=>[(6,vI (i:Int)),(5,vI n)]) (fun _=>[]) ?_ (⟨0,0⟩) (pa.start s)
 rintro⟨i,n⟩ hI _ bu
 have hle:=hI.le
 have lY:=hI.sz
 have rD:=hI.lo
 have KC:=hI.hi
 have hu:=(s.data.getD i 0).toNat_lt
 have DO:=Dz (s.data.getD i 0)
 refine Md ((i:Int)<6) (fun h1=>?_) (fun h1=>?_)
 rotate_left
 ·refine Mt [.int .i64 0,.string emp,.int .i64 4] fun bs w hS=>?_
  refine⟨?_,hS.kp⟩
  rw[hI.out (by omega)]
  simp only[bO,den,List.map_cons,List.map_nil]
 refine Md ((i:Int)=(s.size:Int)) (fun h2=>?_) fun h2=>?_
 ·refine Mt [vi 0,ve,vi 5] fun bs w hS=>?_
  refine⟨?_,hS.kp⟩
  rw[hI.short (by omega) (by omega)]
  simp only[bO,den,List.map_cons,List.map_nil]
 refine Mi ?_ (pc (pG [(18,.qg i)] (oc (rfl:(i:Int)=(i:Int)) (oc ((by omega):i<s.size) on))) (pc (pP (0≤(bits .and .u8 ((s.data.getD i 0).toNat:Int) 127))) (pc (pP ((bits .and .u8 ((s.data.getD i 0).toNat:Int) 127)≤255)) (pc (pR ((7:Int)*(i:Int))) (pc (pP ((0:Int)≤(7:Int)*(i:Int))) (pc (pP ((7:Int)*(i:Int)≤(64:Int))) (pG [(27,.qg i)] (oc (rfl:(i:Int)=(i:Int)) (oc ((by omega):i<s.size) on)))))))))
 refine Md ((128:Int)≤((s.data.getD i 0).toNat:Int)) (fun h3=>?_) fun h3=>?_
 ·refine Mi ?_ (pR ((i:Int)+1))
  exact bu ⟨i+1,bits .or .i64 n (IntKind.i64.wrap ((bits .and .u8 ((s.data.getD i 0).toNat:Int) 127)*2 ^ ((7:Int)*(i:Int):Int).toNat))⟩ (by show pa s (i+1) _;rw[mG s i n hI.lo hI.hi (by omega)];exact hI.step (by omega) (by omega) (by omega)) (by show 6 - (i+1)<6 - i;omega)
 refine Mi ?_ (pG [(31,.qg i)] (oc (rfl:(i:Int)=(i:Int)) (oc ((by omega):i<s.size) on)))
 refine Md (((s.data.getD i 0).toNat:Int)=0) (fun h4=>?_) fun h4=>?_
 rotate_left
 ·refine Md ((1099511627776:Int)<bits .or .i64 n (IntKind.i64.wrap ((bits .and .u8 ((s.data.getD i 0).toNat:Int) 127)*2 ^ ((7:Int)*(i:Int):Int).toNat))) (fun h7=>?_) fun h7=>?_
  ·refine Mt [.int .i64 0,.string emp,.int .i64 4] fun bs w hS=>?_
   refine⟨?_,hS.kp⟩
   have xx:=mG s i n hI.lo hI.hi (by omega)
   try rw[xx]at h7
   try rw[xx]
   rw[hI.last (by omega) (by omega) (by omega),if_pos (by omega)]
   simp only[bO,den,List.map_cons,List.map_nil]
  refine cZ 8 [] [] [] ai ?_
  refine bY ?_ (pc (pR ((i:Int)+1)) (pG [(45,.sl (i+1) s.size)] (oc ((by omega):(i:Int)+1=(((i+1):Nat):Int)) (oc (rfl:s.size=s.size) (oc ((by omega):(i+1)≤s.size) on)))))
  refine Mt [vi (bits .or .i64 n (IntKind.i64.wrap ((bits .and .u8 ((s.data.getD i 0).toNat:Int) 127)*2 ^ ((7:Int)*(i:Int):Int).toNat))),vs (s.extract (i+1) s.size),vi 0] fun bs w hS=>?_
  refine⟨?_,hS.kp⟩
  have xx:=mG s i n hI.lo hI.hi (by omega)
  try rw[xx]at h7
  try rw[xx]
  rw[hI.last (by omega) (by omega) (by omega),if_neg (by omega)]
  simp only[bO,den,List.map_cons,List.map_nil]
 refine Md ((0:Int)<(i:Int)) (fun h5=>?_) fun h5=>?_
 ·refine Mt [.int .i64 0,.string emp,.int .i64 4] fun bs w hS=>?_
  refine⟨?_,hS.kp⟩
  have xx:=mG s i n hI.lo hI.hi (by omega)
  try rw[xx]at h5
  try rw[xx]
  rw[hI.last (by omega) (by omega) (by omega),if_pos (by omega)]
  simp only[bO,den,List.map_cons,List.map_nil]
 refine Md ((1099511627776:Int)<bits .or .i64 n (IntKind.i64.wrap ((bits .and .u8 ((s.data.getD i 0).toNat:Int) 127)*2 ^ ((7:Int)*(i:Int):Int).toNat))) (fun h6=>?_) fun h6=>?_
 ·refine Mt [.int .i64 0,.string emp,.int .i64 4] fun bs w hS=>?_
  refine⟨?_,hS.kp⟩
  have xx:=mG s i n hI.lo hI.hi (by omega)
  try rw[xx]at h6
  try rw[xx]
  rw[hI.last (by omega) (by omega) (by omega),if_pos (by omega)]
  simp only[bO,den,List.map_cons,List.map_nil]
 refine cZ 8 [] [] [] ai ?_
 refine bY ?_ (pc (pR ((i:Int)+1)) (pG [(45,.sl (i+1) s.size)] (oc ((by omega):(i:Int)+1=(((i+1):Nat):Int)) (oc (rfl:s.size=s.size) (oc ((by omega):(i+1)≤s.size) on)))))
 refine Mt [vi (bits .or .i64 n (IntKind.i64.wrap ((bits .and .u8 ((s.data.getD i 0).toNat:Int) 127)*2 ^ ((7:Int)*(i:Int):Int).toNat))),vs (s.extract (i+1) s.size),vi 0] fun bs w hS=>?_
 refine⟨?_,hS.kp⟩
 have xx:=mG s i n hI.lo hI.hi (by omega)
 try rw[xx]at h6
 try rw[xx]
 rw[hI.last (by omega) (by omega) (by omega),if_neg (by omega)]
 simp only[bO,den,List.map_cons,List.map_nil]
theorem gL (s:ByteArray)(w:World)(hs:s.size≤9223372036854775807):Calls prog 95 #[.string s] w fun e w'=>e=.returned (.tuple #[.int .i64 (bf s).1,.string (bf s).2.1,.int .i64 (bf s).2.2])∧Kp [] w w':=by
 refine M0 ?_ func95
 refine Ml (σ:=Nat×Int) (fun⟨i,n⟩=>pa s i n) (fun⟨i,n⟩=>6 - i) (fun _=>[]) [7,6,5,0] (fun⟨i,n⟩=>[(7,vI (i:Int)),(6,vI ((128:Int) ^ i)),(5,vI n)]) (fun _=>[]) ?_ (⟨0,0⟩) (pa.start s)
 rintro⟨i,n⟩ hI _ bu
 have hle:=hI.le
 have lY:=hI.sz
 have rD:=hI.lo
 have KC:=hI.hi
 have hu:=(s.data.getD i 0).toNat_lt
 have DO:=HC (s.data.getD i 0) i hle
 refine Md ((i:Int)<6) (fun h1=>?_) (fun h1=>?_)
 rotate_left
 ·refine Mt [.int .i64 0,.string emp,.int .i64 4] fun bs w hS=>?_
  refine⟨?_,hS.kp⟩
  rw[hI.out (by omega)]
  simp only[bO,den,List.map_cons,List.map_nil]
 refine Md ((s.size:Int)≤(i:Int)) (fun h2=>?_) fun h2=>?_
 ·refine Mt [vi 0,ve,vi 5] fun bs w hS=>?_
  refine⟨?_,hS.kp⟩
  rw[hI.short (by omega) (by omega)]
  simp only[bO,den,List.map_cons,List.map_nil]
 refine Mi ?_ (pc (pG [(20,.qg i)] (oc (rfl:(i:Int)=(i:Int)) (oc ((by omega):i<s.size) on))) (pc (pP (0≤((s.data.getD i 0).toNat:Int))) (pc (pP (((s.data.getD i 0).toNat:Int)≤255)) (pc (pP (0≤((s.data.getD i 0).toNat:Int))) (pc (pP ((0:Int)<128)) (pc (pR (((128:Int) ^ i)*(((s.data.getD i 0).toNat:Int) % 128))) (pc (pR (n+(((128:Int) ^ i)*(((s.data.getD i 0).toNat:Int) % 128)))) (pc (pR (((128:Int) ^ i)*128)) (pG [(29,.qg i)] (oc (rfl:(i:Int)=(i:Int)) (oc ((by omega):i<s.size) on)))))))))))
 refine Md (((s.data.getD i 0).toNat:Int)<128) (fun h3=>?_) fun h3=>?_
 rotate_left
 ·refine Mi ?_ (pR ((i:Int)+1))
  exact bu ⟨i+1,n+(((128:Int) ^ i)*(((s.data.getD i 0).toNat:Int) % 128))⟩ (hI.step (by omega) (by omega) (by omega)) (by show 6 - (i+1)<6 - i;omega) (hp:=(by simp only[Int.pow_succ];kernel_rfl))
 refine Md ((0:Int)<(i:Int)) (fun h4=>?_) fun h4=>?_
 rotate_left
 ·refine Md ((1099511627776:Int)<n+(((128:Int) ^ i)*(((s.data.getD i 0).toNat:Int) % 128))) (fun h7=>?_) fun h7=>?_
  ·refine Mt [.int .i64 0,.string emp,.int .i64 4] fun bs w hS=>?_
   refine⟨?_,hS.kp⟩
   rw[hI.last (by omega) (by omega) (by omega),if_pos (by omega)]
   simp only[bO,den,List.map_cons,List.map_nil]
  refine cZ 8 [] [] [] ai ?_
  refine bY ?_ (pc (pR ((i:Int)+1)) (pG [(47,.sl (i+1) s.size)] (oc ((by omega):(i:Int)+1=(((i+1):Nat):Int)) (oc (rfl:s.size=s.size) (oc ((by omega):(i+1)≤s.size) on)))))
  refine Mt [vi (n+(((128:Int) ^ i)*(((s.data.getD i 0).toNat:Int) % 128))),vs (s.extract (i+1) s.size),vi 0] fun bs w hS=>?_
  refine⟨?_,hS.kp⟩
  rw[hI.last (by omega) (by omega) (by omega),if_neg (by omega)]
  simp only[bO,den,List.map_cons,List.map_nil]
 refine Mi ?_ (pG [(36,.qg i)] (oc (rfl:(i:Int)=(i:Int)) (oc ((by omega):i<s.size) on)))
 refine Md (((s.data.getD i 0).toNat:Int)=0) (fun h5=>?_) fun h5=>?_
 ·refine Mt [.int .i64 0,.string emp,.int .i64 4] fun bs w hS=>?_
  refine⟨?_,hS.kp⟩
  rw[hI.last (by omega) (by omega) (by omega),if_pos (by omega)]
  simp only[bO,den,List.map_cons,List.map_nil]
 refine Md ((1099511627776:Int)<n+(((128:Int) ^ i)*(((s.data.getD i 0).toNat:Int) % 128))) (fun h6=>?_) fun h6=>?_
 ·refine Mt [.int .i64 0,.string emp,.int .i64 4] fun bs w hS=>?_
  refine⟨?_,hS.kp⟩
  rw[hI.last (by omega) (by omega) (by omega),if_pos (by omega)]
  simp only[bO,den,List.map_cons,List.map_nil]
 refine cZ 8 [] [] [] ai ?_
 refine bY ?_ (pc (pR ((i:Int)+1)) (pG [(47,.sl (i+1) s.size)] (oc ((by omega):(i:Int)+1=(((i+1):Nat):Int)) (oc (rfl:s.size=s.size) (oc ((by omega):(i+1)≤s.size) on)))))
 refine Mt [vi (n+(((128:Int) ^ i)*(((s.data.getD i 0).toNat:Int) % 128))),vs (s.extract (i+1) s.size),vi 0] fun bs w hS=>?_
 refine⟨?_,hS.kp⟩
 rw[hI.last (by omega) (by omega) (by omega),if_neg (by omega)]
 simp only[bO,den,List.map_cons,List.map_nil]
theorem lP (s:ByteArray)(w:World)(hs:s.size≤9223372036854775807):Calls prog 133 #[vs s] w fun e w'=>e=.returned (.tuple #[vs (dK s).1,vs (dK s).2.1,vi (dK s).2.2])∧Kp [] w w':=by
 have hb:=eH s
 refine M0 ?_ func133
 refine Mp ?_ call132 (fun bs w hS=>ez _ w (by first|assumption|omega|(simp only[aL];omega)))
 refine cr ((bf s).2.2=0) (fun h1=>?_) fun h1=>?_
 rotate_left
 ·refine Mt [ve,ve,vi (bf s).2.2] fun bs w hS=>?_
  refine⟨?_,hS.kp⟩
  simp only[bO,den,List.map_cons,List.map_nil]
  grind[dK]
 refine Md ((5000:Int)<(bf s).1) (fun h2=>?_) fun h2=>?_
 ·refine Mt [ve,ve,vi 1] fun bs w hS=>?_
  refine⟨?_,hS.kp⟩
  simp only[bO,den,List.map_cons,List.map_nil]
  grind[dK]
 refine Md (((bf s).2.1.size:Int)<(bf s).1) (fun h3=>?_) fun h3=>?_
 ·refine Mt [ve,ve,vi 5] fun bs w hS=>?_
  refine⟨?_,hS.kp⟩
  simp only[bO,den,List.map_cons,List.map_nil]
  grind[dK]
 refine cZ 9 [] [] [] ai ?_
 refine bY ?_ (pc (pG [(25,.sl 0 (bf s).1.toNat)] (oc (rfl:0=0) (oc ((by omega):(bf s).1=(((bf s).1.toNat:Nat):Int)) (oc ((by omega):(bf s).1.toNat≤(bf s).2.1.size) on)))) (pG [(28,.sl (bf s).1.toNat (bf s).2.1.size)] (oc ((by omega):(bf s).1=(((bf s).1.toNat:Nat):Int)) (oc (rfl:(bf s).2.1.size=(bf s).2.1.size) (oc ((by omega):(bf s).1.toNat≤(bf s).2.1.size) on)))))
 refine Mt [vs ((bf s).2.1.extract 0 (bf s).1.toNat),vs ((bf s).2.1.extract (bf s).1.toNat (bf s).2.1.size),vi 0] fun bs w hS=>?_
 refine⟨?_,hS.kp⟩
 simp only[bO,den,List.map_cons,List.map_nil]
 grind[dK]
theorem pV (s:ByteArray)(w:World)(hs:s.size≤9223372036854775807):Calls prog 96 #[vs s] w fun e w'=>e=.returned (.tuple #[vs (dK s).1,vs (dK s).2.1,vi (dK s).2.2])∧Kp [] w w':=by
 have hb:=eH s
 refine M0 ?_ func96
 refine Mp ?_ call95 (fun bs w hS=>gL _ w (by first|assumption|omega|(simp only[aL];omega)))
 refine Md ((bf s).2.2=0) (fun h1=>?_) fun h1=>?_
 rotate_left
 ·refine My false false ?_ (df h1)
  refine My false true ?_ (df h1)
  refine Mt [ve,ve,vi (bf s).2.2] fun bs w hS=>?_
  refine⟨?_,hS.kp⟩
  simp only[bO,den,List.map_cons,List.map_nil]
  grind[dK]
 refine Md ((5000:Int)<(bf s).1) (fun h2=>?_) fun h2=>?_
 ·refine Mq 22 false ?_ rfl
  refine Mq 29 true ?_ rfl
  refine Mt [ve,ve,vi 1] fun bs w hS=>?_
  refine⟨?_,hS.kp⟩
  simp only[bO,den,List.map_cons,List.map_nil]
  grind[dK]
 refine My true false ?_ (dt h1)
 refine Md (((bf s).2.1.size:Int)<(bf s).1) (fun h4=>?_) fun h4=>?_
 ·refine Mq 29 true ?_ rfl
  refine Mt [ve,ve,vi 5] fun bs w hS=>?_
  refine⟨?_,hS.kp⟩
  simp only[bO,den,List.map_cons,List.map_nil]
  grind[dK]
 refine My true true ?_ (dt h1)
 refine cZ 9 [] [] [] ai ?_
 refine bY ?_ (pc (pG [(33,.sl 0 (bf s).1.toNat)] (oc (rfl:0=0) (oc ((by omega):(bf s).1=(((bf s).1.toNat:Nat):Int)) (oc ((by omega):(bf s).1.toNat≤(bf s).2.1.size) on)))) (pG [(36,.sl (bf s).1.toNat (bf s).2.1.size)] (oc ((by omega):(bf s).1=(((bf s).1.toNat:Nat):Int)) (oc (rfl:(bf s).2.1.size=(bf s).2.1.size) (oc ((by omega):(bf s).1.toNat≤(bf s).2.1.size) on)))))
 refine Mt [vs ((bf s).2.1.extract 0 (bf s).1.toNat),vs ((bf s).2.1.extract (bf s).1.toNat (bf s).2.1.size),vi 0] fun bs w hS=>?_
 refine⟨?_,hS.kp⟩
 simp only[bO,den,List.map_cons,List.map_nil]
 grind[dK]
theorem fT (x:vJ)(w:World)(hx:aJ.sub B w x):Calls prog 134 #[x.val] w fun e w'=>e=.returned (vi (jy x))∧Kp [] w w':=by
 have cC:=aJ.bL hx
 refine M0 ?_ func134
 refine Md (x.kind<1) (fun h1=>?_) fun h1=>?_
 ·exact cd 3 (by grind[jy])
 refine Md ((6:Int)<x.kind) (fun h2=>?_) fun h2=>?_
 ·exact cd 3 (by grind[jy])
 refine Mp ?_ call129 (fun bs w hS=>mQ _ w cC.1)
 refine fL (ee x.a) (fun h3=>?_) fun h3=>?_
 rotate_left
 ·exact cd 4 (by grind[jy])
 refine cr (x.kind=5) (fun h4=>?_) fun h4=>?_
 ·refine Md ((12:Int)<(x.b.size:Int)) (fun h5=>?_) fun h5=>?_
  ·exact cd 1 (by grind[jy])
  refine My true false ?_ (dt h4)
  refine Md (x.n<1) (fun h7=>?_) fun h7=>?_
  ·exact cd 2 (by grind[jy])
  refine Md ((1073741824:Int)<x.n) (fun h8=>?_) fun h8=>?_
  ·exact cd 2 (by grind[jy])
  refine My true true ?_ (dt h4)
  exact cd 0 (by grind[jy])
 refine cr (x.b=emp) (fun ir=>?_) fun ir=>?_
 rotate_left
 ·exact cd 4 (by grind[jy])
 have QL:x.b.size=0:=by rw[ir];rfl
 refine Md ((12:Int)<(x.b.size:Int)) (fun g7=>?_) fun g7=>?_
 ·exact cd 1 (by grind[jy])
 refine My false false ?_ (df h4)
 refine My false true ?_ (df h4)
 refine cr (x.n=0) (fun mo=>?_) fun mo=>?_
 ·exact cd 0 (by grind[jy])
 exact cd 2 (by grind[jy])
theorem jv (x:vJ)(w:World)(hx:aJ.sub B w x):Calls prog 155 #[x.val] w fun e w'=>e=.returned (vi (jy x))∧Kp [] w w':=by
 have cC:=aJ.bL hx
 refine M0 ?_ func155
 refine Mp ?_ call51 (fun bs w hS=>b6 x.kind 1 6 w)
 refine fL (gk x.kind 1 6) (fun h1=>?_) fun h1=>?_
 rotate_left
 ·simp only[iT,iF]at h1
  exact cd 3 (by grind[jy])
 simp only[iT,iF]at h1
 refine Mp ?_ call107 (fun bs w hS=>kL _ w cC.1)
 refine fL (ee x.a) (fun h2=>?_) fun h2=>?_
 rotate_left
 ·exact cd 4 (by grind[jy])
 refine cr (x.b=emp) (fun h3=>?_) fun h3=>?_
 rotate_left
 ·refine cr (x.kind=5) (fun h8=>?_) fun h8=>?_
  rotate_left
  ·exact cd 4 (by grind[jy])
  refine Md ((12:Int)<(x.b.size:Int)) (fun h9=>?_) fun h9=>?_
  ·exact cd 1 (by grind[jy])
  refine My true false ?_ (dt h8)
  refine Mp ?_ call51 (fun bs w hS=>b6 x.n 1 1073741824 w)
  refine fL (gk x.n 1 1073741824) (fun g7=>?_) fun g7=>?_
  ·simp only[iT,iF]at g7
   exact cd 0 (by grind[jy])
  simp only[iT,iF]at g7
  exact cd 2 (by grind[jy])
 have R9:x.b.size=0:=by rw[h3];rfl
 refine Md ((12:Int)<(x.b.size:Int)) (fun h4=>?_) fun h4=>?_
 ·exact cd 1 (by grind[jy])
 refine Md (x.kind=5) (fun h5=>?_) fun h5=>?_
 rotate_left
 ·refine cr (x.n=0) (fun h7=>?_) fun h7=>?_
  ·exact cd 0 (by grind[jy])
  exact cd 2 (by grind[jy])
 refine Mp ?_ call51 (fun bs w hS=>b6 x.n 1 1073741824 w)
 refine fL (gk x.n 1 1073741824) (fun h6=>?_) fun h6=>?_
 ·simp only[iT,iF]at h6
  exact cd 0 (by grind[jy])
 simp only[iT,iF]at h6
 exact cd 2 (by grind[jy])
theorem mq (x:aF)(w:World)(hx:aJ.sub B w x):Calls prog 67 #[x.val] w fun e w'=>e=.returned (vi (dP x))∧Kp [] w w':=by
 have cC:=aJ.bL hx
 refine M0 ?_ func67
 refine Md (x.kind<1) (fun h1=>?_) fun h1=>?_
 ·exact cd 3 (by grind[dP])
 refine Md ((3:Int)<x.kind) (fun h2=>?_) fun h2=>?_
 ·exact cd 3 (by grind[dP])
 refine Md (x.ag<1) (fun h3=>?_) fun h3=>?_
 ·exact cd 2 (by grind[dP])
 refine Md ((9:Int)<x.ag) (fun h4=>?_) fun h4=>?_
 ·exact cd 2 (by grind[dP])
 refine cr (x.kind=2) (fun h5=>?_) fun h5=>?_
 rotate_left
 ·refine cr (x.aD=0) (fun jW=>?_) fun jW=>?_
  rotate_left
  ·exact cd 4 (by grind[dP])
  refine cr (x.seq=0) (fun k7=>?_) fun k7=>?_
  rotate_left
  ·exact cd 4 (by grind[dP])
  refine cr (x.aC=0) (fun mo=>?_) fun mo=>?_
  rotate_left
  ·exact cd 4 (by grind[dP])
  refine Mi ?_ (pG [(39,.val (vb (!((decide (x.op.kind=0)) && ((decide (x.op.a=emp)) && ((decide (x.op.b=emp)) && ((decide (x.op.n=0)) && true)))))))] (oc ((qn (by kernel_rfl) (by kernel_rfl)): ∀w,(do eqGuard .neq 61 (.tmp 37) (.tmp 38) x.op.val (.agg #[vi 0,ve,ve,vi 0]);binOp .neq 61 x.op.val (.agg #[vi 0,ve,ve,vi 0]):Sem Value).run prog w=.ok (vb (!((decide (x.op.kind=0)) && ((decide (x.op.a=emp)) && ((decide (x.op.b=emp)) && ((decide (x.op.n=0)) && true)))))) w) on))
  refine fL ((decide (x.op.kind=0)) && ((decide (x.op.a=emp)) && ((decide (x.op.b=emp)) && ((decide (x.op.n=0)) && true)))) (fun pr=>?_) fun pr=>?_
  ·simp only[Bool.and_eq_true,decide_eq_true_eq,and_true]at pr
   exact cd 0 (by grind[dP])
  rw[Bool.eq_false_iff]at pr
  simp only[ne_eq,Bool.and_eq_true,decide_eq_true_eq,and_true]at pr
  exact cd 4 (by grind[dP])
 refine Md (x.aD<1) (fun h6=>?_) fun h6=>?_
 ·exact cd 2 (by grind[dP])
 refine Md ((1073741824:Int)<x.aD) (fun h7=>?_) fun h7=>?_
 ·exact cd 2 (by grind[dP])
 refine Md (x.seq<1) (fun h8=>?_) fun h8=>?_
 ·exact cd 2 (by grind[dP])
 refine Md ((1048576:Int)<x.seq) (fun h9=>?_) fun h9=>?_
 ·exact cd 2 (by grind[dP])
 refine Md (x.aC<0) (fun ir=>?_) fun ir=>?_
 ·exact cd 2 (by grind[dP])
 refine Md (x.seq≤x.aC) (fun g7=>?_) fun g7=>?_
 ·exact cd 2 (by grind[dP])
 refine Mp ?_ call134 (fun bs w hS=>fT (B:=bH) x.op w ⟨cC.1,cC.2⟩)
 exact cd (jy x.op) (by grind[dP])
theorem kh (x:aF)(w:World)(hx:aJ.sub B w x):Calls prog 97 #[x.val] w fun e w'=>e=.returned (vi (dP x))∧Kp [] w w':=by
 have cC:=aJ.bL hx
 refine M0 ?_ func97
 refine Mp ?_ call51 (fun bs w hS=>b6 x.kind 1 3 w)
 refine fL (gk x.kind 1 3) (fun h1=>?_) fun h1=>?_
 rotate_left
 ·simp only[iT,iF]at h1
  exact cd 3 (by grind[dP])
 simp only[iT,iF]at h1
 refine Mp ?_ call51 (fun bs w hS=>b6 x.ag 1 9 w)
 refine fL (gk x.ag 1 9) (fun h2=>?_) fun h2=>?_
 rotate_left
 ·simp only[iT,iF]at h2
  exact cd 2 (by grind[dP])
 simp only[iT,iF]at h2
 refine Md (x.kind=2) (fun h3=>?_) fun h3=>?_
 ·refine Mp ?_ call51 (fun bs w hS=>b6 x.aD 1 1073741824 w)
  refine fL (gk x.aD 1 1073741824) (fun h4=>?_) fun h4=>?_
  rotate_left
  ·simp only[iT,iF]at h4
   exact cd 2 (by grind[dP])
  simp only[iT,iF]at h4
  refine Mp ?_ call51 (fun bs w hS=>b6 x.seq 1 1048576 w)
  refine fL (gk x.seq 1 1048576) (fun h5=>?_) fun h5=>?_
  rotate_left
  ·simp only[iT,iF]at h5
   exact cd 2 (by grind[dP])
  simp only[iT,iF]at h5
  refine Mi ?_ (pR (x.seq - 1))
  refine Mp ?_ call51 (fun bs w hS=>b6 x.aC 0 (x.seq - 1) w)
  refine fL (gk x.aC 0 (x.seq - 1)) (fun h6=>?_) fun h6=>?_
  rotate_left
  ·simp only[iT,iF]at h6
   exact cd 2 (by grind[dP])
  simp only[iT,iF]at h6
  refine Mp ?_ call155 (fun bs w hS=>jv (B:=bH) x.op w ⟨cC.1,cC.2⟩)
  exact cd (jy x.op) (by grind[dP])
 refine cr (x.aD=0) (fun h7=>?_) fun h7=>?_
 rotate_left
 ·exact cd 4 (by grind[dP])
 refine cr (x.seq=0) (fun h8=>?_) fun h8=>?_
 rotate_left
 ·exact cd 4 (by grind[dP])
 refine cr (x.aC=0) (fun h9=>?_) fun h9=>?_
 rotate_left
 ·exact cd 4 (by grind[dP])
 refine cr (x.op.kind=0) (fun ir=>?_) fun ir=>?_
 rotate_left
 ·exact cd 4 (by grind[dP])
 refine cr (x.op.a=emp) (fun g7=>?_) fun g7=>?_
 rotate_left
 ·exact cd 4 (by grind[dP])
 have LU:x.op.a.size=0:=by rw[g7];rfl
 refine cr (x.op.b=emp) (fun jW=>?_) fun jW=>?_
 rotate_left
 ·exact cd 4 (by grind[dP])
 have QM:x.op.b.size=0:=by rw[jW];rfl
 refine cr (x.op.n=0) (fun k7=>?_) fun k7=>?_
 ·exact cd 0 (by grind[dP])
 exact cd 4 (by grind[dP])
theorem ym (c:aF)(b:Nat)(t:ByteArray)(w:World)(hb:(bh b 63 [vi c.kind,vi c.ag,vi c.aD,vi c.seq,vi c.aC,vi c.op.kind,vs c.op.a,vs c.op.b,vi c.op.n]).p w)(ht:t.size≤9223372036854775807)(hc:aJ.ok c):Calls prog 66 #[.pointer (some ⟨b,0,none⟩),vs t] w fun e w'=> ∃y:aF,e=.returned (.tuple #[vs (dQ c t).2.1,vi (dQ c t).2.2])∧(((dQ c t).2.2=0→y=(dQ c t).1)∧aJ.ok y)∧Kp [b] w w'∧(bh b 63 [vi y.kind,vi y.ag,vi y.aD,vi y.seq,vi y.aC,vi y.op.kind,vs y.op.a,vs y.op.b,vi y.op.n]).p w':=by
 refine Mj ?_ func66 (WS.eG w _ hb (by simp[bh]) (gm hb))
 refine fP 20 ?_ ai
 refine M1 ?_
 refine Mz ?_
 refine LB 6 fun _ bu=>?_
 refine Mq 32 true ?_ rfl
 refine Mi ?_ (pG [(33,.idx dd 0)] (oc (rfl:(0:Int)=((0:Nat):Int)) (oc ((by omega):0<5) on)))
 refine Mp ?_ (vs:=fun bs=>[vs t]) call132 (fun bs w hS=>ez _ w (by first|assumption|omega|(simp only[aL];omega)))
 have JA:=eH t
 generalize u5:bf t=r1 at JA⊢
 refine rz 2 [vi c.kind,vi c.ag,vi r1.1,vi c.seq,vi c.aC,vi c.op.kind,vs c.op.a,vs c.op.b,vi c.op.n] ?_
 refine cr (r1.2.2=0) (fun h1=>?_) fun h1=>?_
 rotate_left
 ·refine Mt [ve,vi r1.2.2] fun bs w hS=>?_
  have hm:dQ c t=(c,emp,r1.2.2):=by grind[dQ]
  exact⟨(⟨c.kind,c.ag,r1.1,c.seq,c.aC,⟨c.op.kind,c.op.a,c.op.b,c.op.n⟩⟩:aF),by rw[hm];rfl,⟨fun h0=>absurd h0 (by rw[hm];exact h1),⟨hc.1,hc.2⟩⟩,hS.kp,hS.res _ i0⟩
 refine Mi ?_ (pR (1))
 refine bu 5 (J:=?_)
 refine Mq 32 true ?_ rfl
 refine Mi ?_ (pG [(33,.idx dd 1)] (oc (rfl:(1:Int)=((1:Nat):Int)) (oc ((by omega):1<5) on)))
 refine Mp ?_ (vs:=fun bs=>[vs r1.2.1]) call132 (fun bs w hS=>ez _ w (by first|assumption|omega|(simp only[aL];omega)))
 have JB:=eH r1.2.1
 generalize ny:bf r1.2.1=r2 at JB⊢
 refine rz 3 [vi c.kind,vi c.ag,vi r1.1,vi r2.1,vi c.aC,vi c.op.kind,vs c.op.a,vs c.op.b,vi c.op.n] ?_
 refine cr (r2.2.2=0) (fun h2=>?_) fun h2=>?_
 rotate_left
 ·refine Mt [ve,vi r2.2.2] fun bs w hS=>?_
  have hm:dQ c t=(c,emp,r2.2.2):=by grind[dQ]
  exact⟨(⟨c.kind,c.ag,r1.1,r2.1,c.aC,⟨c.op.kind,c.op.a,c.op.b,c.op.n⟩⟩:aF),by rw[hm];rfl,⟨fun h0=>absurd h0 (by rw[hm];exact h2),⟨hc.1,hc.2⟩⟩,hS.kp,hS.res _ i0⟩
 refine Mi ?_ (pR (2))
 refine bu 4 (J:=?_)
 refine Mq 32 true ?_ rfl
 refine Mi ?_ (pG [(33,.idx dd 2)] (oc (rfl:(2:Int)=((2:Nat):Int)) (oc ((by omega):2<5) on)))
 refine Mp ?_ (vs:=fun bs=>[vs r2.2.1]) call132 (fun bs w hS=>ez _ w (by first|assumption|omega|(simp only[aL];omega)))
 have JD:=eH r2.2.1
 generalize H9:bf r2.2.1=r3 at JD⊢
 refine rz 4 [vi c.kind,vi c.ag,vi r1.1,vi r2.1,vi r3.1,vi c.op.kind,vs c.op.a,vs c.op.b,vi c.op.n] ?_
 refine cr (r3.2.2=0) (fun h3=>?_) fun h3=>?_
 rotate_left
 ·refine Mt [ve,vi r3.2.2] fun bs w hS=>?_
  have hm:dQ c t=(c,emp,r3.2.2):=by grind[dQ]
  exact⟨(⟨c.kind,c.ag,r1.1,r2.1,r3.1,⟨c.op.kind,c.op.a,c.op.b,c.op.n⟩⟩:aF),by rw[hm];rfl,⟨fun h0=>absurd h0 (by rw[hm];exact h3),⟨hc.1,hc.2⟩⟩,hS.kp,hS.res _ i0⟩
 refine Mi ?_ (pR (3))
 refine bu 3 (J:=?_)
 refine Mq 32 true ?_ rfl
 refine Mi ?_ (pG [(33,.idx dd 3)] (oc (rfl:(3:Int)=((3:Nat):Int)) (oc ((by omega):3<5) on)))
 refine Mp ?_ (vs:=fun bs=>[vs r3.2.1]) call132 (fun bs w hS=>ez _ w (by first|assumption|omega|(simp only[aL];omega)))
 have JE:=eH r3.2.1
 generalize IS:bf r3.2.1=r4 at JE⊢
 refine rz 5 [vi c.kind,vi c.ag,vi r1.1,vi r2.1,vi r3.1,vi r4.1,vs c.op.a,vs c.op.b,vi c.op.n] ?_
 refine cr (r4.2.2=0) (fun h4=>?_) fun h4=>?_
 rotate_left
 ·refine Mt [ve,vi r4.2.2] fun bs w hS=>?_
  have hm:dQ c t=(c,emp,r4.2.2):=by grind[dQ]
  exact⟨(⟨c.kind,c.ag,r1.1,r2.1,r3.1,⟨r4.1,c.op.a,c.op.b,c.op.n⟩⟩:aF),by rw[hm];rfl,⟨fun h0=>absurd h0 (by rw[hm];exact h4),⟨hc.1,hc.2⟩⟩,hS.kp,hS.res _ i0⟩
 refine Mi ?_ (pR (4))
 refine bu 2 (J:=?_)
 refine Mq 32 true ?_ rfl
 refine Mi ?_ (pG [(33,.idx dd 4)] (oc (rfl:(4:Int)=((4:Nat):Int)) (oc ((by omega):4<5) on)))
 refine Mp ?_ (vs:=fun bs=>[vs r4.2.1]) call132 (fun bs w hS=>ez _ w (by first|assumption|omega|(simp only[aL];omega)))
 have JF:=eH r4.2.1
 generalize JG:bf r4.2.1=r5 at JF⊢
 refine rz 8 [vi c.kind,vi c.ag,vi r1.1,vi r2.1,vi r3.1,vi r4.1,vs c.op.a,vs c.op.b,vi r5.1] ?_
 refine cr (r5.2.2=0) (fun h5=>?_) fun h5=>?_
 rotate_left
 ·refine Mt [ve,vi r5.2.2] fun bs w hS=>?_
  have hm:dQ c t=(c,emp,r5.2.2):=by grind[dQ]
  exact⟨(⟨c.kind,c.ag,r1.1,r2.1,r3.1,⟨r4.1,c.op.a,c.op.b,r5.1⟩⟩:aF),by rw[hm];rfl,⟨fun h0=>absurd h0 (by rw[hm];exact h5),⟨hc.1,hc.2⟩⟩,hS.kp,hS.res _ i0⟩
 refine Mi ?_ (pR (5))
 refine bu 1 (J:=?_)
 refine Mq 32 false ?_ rfl
 refine fP 11 ?_ ai
 refine M1 ?_
 refine Mz ?_
 refine LB 3 fun _ j8=>?_
 refine Mq 58 true ?_ rfl
 refine Mi ?_ (pG [(59,.idx dd 0)] (oc (rfl:(0:Int)=((0:Nat):Int)) (oc ((by omega):0<2) on)))
 refine Mp ?_ (vs:=fun bs=>[vs r5.2.1]) call133 (fun bs w hS=>lP _ w (by first|assumption|omega|(simp only[aL];omega)))
 have JI:=n7 r5.2.1
 generalize KD:dK r5.2.1=r6 at JI⊢
 refine rz 6 [vi c.kind,vi c.ag,vi r1.1,vi r2.1,vi r3.1,vi r4.1,vs r6.1,vs c.op.b,vi r5.1] ?_
 refine cr (r6.2.2=0) (fun h6=>?_) fun h6=>?_
 rotate_left
 ·refine Mt [ve,vi r6.2.2] fun bs w hS=>?_
  have hm:dQ c t=(c,emp,r6.2.2):=by grind[dQ]
  exact⟨(⟨c.kind,c.ag,r1.1,r2.1,r3.1,⟨r4.1,r6.1,c.op.b,r5.1⟩⟩:aF),by rw[hm];rfl,⟨fun h0=>absurd h0 (by rw[hm];exact h6),⟨(show r6.1.size≤9223372036854775807 by omega),hc.2⟩⟩,hS.kp,hS.res _ i0⟩
 refine Mi ?_ (pR (1))
 refine j8 2 (J:=?_)
 refine Mq 58 true ?_ rfl
 refine Mi ?_ (pG [(59,.idx dd 1)] (oc (rfl:(1:Int)=((1:Nat):Int)) (oc ((by omega):1<2) on)))
 refine Mp ?_ (vs:=fun bs=>[vs r6.2.1]) call133 (fun bs w hS=>lP _ w (by first|assumption|omega|(simp only[aL];omega)))
 have JJ:=n7 r6.2.1
 generalize LV:dK r6.2.1=r7 at JJ⊢
 refine rz 7 [vi c.kind,vi c.ag,vi r1.1,vi r2.1,vi r3.1,vi r4.1,vs r6.1,vs r7.1,vi r5.1] ?_
 refine cr (r7.2.2=0) (fun h7=>?_) fun h7=>?_
 rotate_left
 ·refine Mt [ve,vi r7.2.2] fun bs w hS=>?_
  have hm:dQ c t=(c,emp,r7.2.2):=by grind[dQ]
  exact⟨(⟨c.kind,c.ag,r1.1,r2.1,r3.1,⟨r4.1,r6.1,r7.1,r5.1⟩⟩:aF),by rw[hm];rfl,⟨fun h0=>absurd h0 (by rw[hm];exact h7),⟨(show r6.1.size≤9223372036854775807 by omega),(show r7.1.size≤9223372036854775807 by omega)⟩⟩,hS.kp,hS.res _ i0⟩
 refine Mi ?_ (pR (2))
 refine j8 1 (J:=?_)
 refine Mq 58 false ?_ rfl
 refine Mt [vs r7.2.1,vi 0] fun bs w hS=>?_
 have hm:dQ c t=((⟨c.kind,c.ag,r1.1,r2.1,r3.1,⟨r4.1,r6.1,r7.1,r5.1⟩⟩:aF),r7.2.1,0):=by grind[dQ]
 exact⟨(⟨c.kind,c.ag,r1.1,r2.1,r3.1,⟨r4.1,r6.1,r7.1,r5.1⟩⟩:aF),by rw[hm];rfl,⟨fun _=>by rw[hm],⟨(show r6.1.size≤9223372036854775807 by omega),(show r7.1.size≤9223372036854775807 by omega)⟩⟩,hS.kp,hS.res _ i0⟩
theorem ig (s:ByteArray)(w:World)(hs:s.size≤9223372036854775807):Calls prog 21 #[vs s] w fun e w'=>e=.returned (.tuple #[(aq s).1.val,vi (aq s).2])∧Kp [] w w':=by
 have LW:=(s.data.getD 0 0).toNat_lt
 have KE:=(s.data.getD 1 0).toNat_lt
 have hex:(s.extract 2 s.size).size≤s.size:=by simp
 refine M0 ?_ func21
 refine Md ((5000:Int)<(s.size:Int)) (fun h1=>?_) fun h1=>?_
 ·refine Mt [vC,vi 1] fun bs w hS=>?_
  refine⟨?_,hS.kp⟩
  have hm:aq s=((⟨0,0,0,0,0,⟨0,emp,emp,0⟩⟩:aF),1):=by
    have hk:(eZ s).kind=((s.data.getD 0 0).toNat:Int):=rfl
    unfold aq
    repeat (first|rw[if_pos (by omega)]|rw[if_neg (by omega)])
    rfl
  rw[hm]
  rfl
 refine Md ((s.size:Int)<2) (fun h2=>?_) fun h2=>?_
 ·refine Mt [vC,vi 5] fun bs w hS=>?_
  refine⟨?_,hS.kp⟩
  have hm:aq s=((⟨0,0,0,0,0,⟨0,emp,emp,0⟩⟩:aF),5):=by
    have hk:(eZ s).kind=((s.data.getD 0 0).toNat:Int):=rfl
    unfold aq
    repeat (first|rw[if_pos (by omega)]|rw[if_neg (by omega)])
    rfl
  rw[hm]
  rfl
 refine cZ 8 [] [] [] ai ?_
 refine bY ?_ (pc (pG [(16,.qg 0)] (oc (rfl:(0:Int)=((0:Nat):Int)) (oc ((by omega):0<s.size) on))) (pc (pP (0≤((s.data.getD 0 0).toNat:Int))) (pc (pP (((s.data.getD 0 0).toNat:Int)≤255)) (pc (pG [(19,.qg 1)] (oc (rfl:(1:Int)=((1:Nat):Int)) (oc ((by omega):1<s.size) on))) (pc (pP (0≤((s.data.getD 1 0).toNat:Int))) (pP (((s.data.getD 1 0).toNat:Int)≤255)))))))
 refine Mi ?_ (pG [(23,.sl 2 s.size)] (oc (rfl:(2:Int)=((2:Nat):Int)) (oc (rfl:s.size=s.size) (oc ((by omega):2≤s.size) on))))
 refine Md (((s.data.getD 0 0).toNat:Int)=2) (fun h3=>?_) fun h3=>?_
 rotate_left
 ·refine cr ((s.extract 2 s.size)=emp) (fun h7=>?_) fun h7=>?_
  rotate_left
  ·refine Mt [vC,vi 4] fun bs w hS=>?_
   refine⟨?_,hS.kp⟩
   have hm:aq s=((⟨0,0,0,0,0,⟨0,emp,emp,0⟩⟩:aF),4):=by
     have hk:(eZ s).kind=((s.data.getD 0 0).toNat:Int):=rfl
     unfold aq
     repeat (first|rw[if_pos (by omega)]|rw[if_neg (by omega)])
     all_goals (simp only[kQ,eZ,ui,h7,ne_eq,not_true_eq_false,not_false_eq_true,if_true,if_false,reduceIte];try rfl)
   rw[hm]
   rfl
  have Sa:(s.extract 2 s.size).size=0:=by rw[h7];rfl
  refine Mp ?_ call67 (fun bs w hS=>mq (B:=bH) (⟨((s.data.getD 0 0).toNat:Int),((s.data.getD 1 0).toNat:Int),0,0,0,⟨0,emp,emp,0⟩⟩:aF) w ⟨(show emp.size≤9223372036854775807 from (by first|assumption|omega|(simp only[aL];omega))),(show emp.size≤9223372036854775807 from (by first|assumption|omega|(simp only[aL];omega)))⟩)
  refine cr (dP (⟨((s.data.getD 0 0).toNat:Int),((s.data.getD 1 0).toNat:Int),0,0,0,⟨0,emp,emp,0⟩⟩:aF)=0) (fun h8=>?_) fun h8=>?_
  ·refine Mt [.agg #[vi ((s.data.getD 0 0).toNat:Int),vi ((s.data.getD 1 0).toNat:Int),vi 0,vi 0,vi 0,vi 0,ve,ve,vi 0],vi 0] fun bs w hS=>?_
   refine⟨?_,hS.kp⟩
   have hm:aq s=((⟨((s.data.getD 0 0).toNat:Int),((s.data.getD 1 0).toNat:Int),0,0,0,⟨0,emp,emp,0⟩⟩:aF),0):=by
     have hk:(eZ s).kind=((s.data.getD 0 0).toNat:Int):=rfl
     unfold aq
     repeat (first|rw[if_pos (by omega)]|rw[if_neg (by omega)])
     all_goals (simp only[kQ,eZ,ui,h7,h8,ne_eq,not_true_eq_false,not_false_eq_true,if_true,if_false,reduceIte];try rfl)
   rw[hm]
   rfl
  refine Mt [vC,vi (dP (⟨((s.data.getD 0 0).toNat:Int),((s.data.getD 1 0).toNat:Int),0,0,0,⟨0,emp,emp,0⟩⟩:aF))] fun bs w hS=>?_
  refine⟨?_,hS.kp⟩
  have hm:aq s=((⟨0,0,0,0,0,⟨0,emp,emp,0⟩⟩:aF),dP (⟨((s.data.getD 0 0).toNat:Int),((s.data.getD 1 0).toNat:Int),0,0,0,⟨0,emp,emp,0⟩⟩:aF)):=by
    have hk:(eZ s).kind=((s.data.getD 0 0).toNat:Int):=rfl
    unfold aq
    repeat (first|rw[if_pos (by omega)]|rw[if_neg (by omega)])
    all_goals (simp only[kQ,eZ,ui,h7,h8,ne_eq,not_true_eq_false,not_false_eq_true,if_true,if_false,reduceIte];try rfl)
  rw[hm]
  rfl
 refine Mo 1 ?_ call66 (fun bs w hS hb=>ym (⟨((s.data.getD 0 0).toNat:Int),((s.data.getD 1 0).toNat:Int),0,0,0,⟨0,emp,emp,0⟩⟩:aF) (bs.getD 1 0) (s.extract 2 s.size) w hb (by first|assumption|omega|(simp only[aL];omega)) ⟨(by simp[aL]),(by simp[aL])⟩)
 rintro y1 ⟨a5,OF⟩
 generalize xy:dQ (⟨((s.data.getD 0 0).toNat:Int),((s.data.getD 1 0).toNat:Int),0,0,0,⟨0,emp,emp,0⟩⟩:aF) (s.extract 2 s.size)=bd at a5⊢
 refine cr (bd.2.2=0) (fun h4=>?_) fun h4=>?_
 rotate_left
 ·refine Mt [vC,vi bd.2.2] fun bs w hS=>?_
  refine⟨?_,hS.kp⟩
  have hm:aq s=((⟨0,0,0,0,0,⟨0,emp,emp,0⟩⟩:aF),bd.2.2):=by
    have hk:(eZ s).kind=((s.data.getD 0 0).toNat:Int):=rfl
    unfold aq
    repeat (first|rw[if_pos (by omega)]|rw[if_neg (by omega)])
    rw[show dQ (eZ s) (s.extract 2 s.size)=bd from xy]
    all_goals (simp only[kQ,eZ,ui,h4,ne_eq,not_true_eq_false,not_false_eq_true,if_true,if_false,reduceIte];try rfl)
  rw[hm]
  rfl
 refine cr (bd.2.1=emp) (fun h5=>?_) fun h5=>?_
 rotate_left
 ·refine Mt [vC,vi 4] fun bs w hS=>?_
  refine⟨?_,hS.kp⟩
  have hm:aq s=((⟨0,0,0,0,0,⟨0,emp,emp,0⟩⟩:aF),4):=by
    have hk:(eZ s).kind=((s.data.getD 0 0).toNat:Int):=rfl
    unfold aq
    repeat (first|rw[if_pos (by omega)]|rw[if_neg (by omega)])
    rw[show dQ (eZ s) (s.extract 2 s.size)=bd from xy]
    have LX:bd.2.2=0:=by assumption
    all_goals (simp only[kQ,eZ,ui, ←a5 LX,h4,h5,ne_eq,not_true_eq_false,not_false_eq_true,if_true,if_false,reduceIte];try rfl)
  rw[hm]
  rfl
 have OJ:bd.2.1.size=0:=by rw[h5];rfl
 refine Mp ?_ call67 (fun bs w hS=>mq (B:=bH) y1 w OF)
 refine cr (dP y1=0) (fun h6=>?_) fun h6=>?_
 rotate_left
 ·refine Mt [vC,vi (dP y1)] fun bs w hS=>?_
  refine⟨?_,hS.kp⟩
  have hm:aq s=((⟨0,0,0,0,0,⟨0,emp,emp,0⟩⟩:aF),dP y1):=by
    have hk:(eZ s).kind=((s.data.getD 0 0).toNat:Int):=rfl
    unfold aq
    repeat (first|rw[if_pos (by omega)]|rw[if_neg (by omega)])
    rw[show dQ (eZ s) (s.extract 2 s.size)=bd from xy]
    have LX:bd.2.2=0:=by assumption
    all_goals (simp only[kQ,eZ,ui, ←a5 LX,h4,h5,h6,ne_eq,not_true_eq_false,not_false_eq_true,if_true,if_false,reduceIte];try rfl)
  rw[hm]
  rfl
 refine Mt [y1.val,vi 0] fun bs w hS=>?_
 refine⟨?_,hS.kp⟩
 have hm:aq s=((⟨y1.kind,y1.ag,y1.aD,y1.seq,y1.aC,⟨y1.op.kind,y1.op.a,y1.op.b,y1.op.n⟩⟩:aF),0):=by
   have hk:(eZ s).kind=((s.data.getD 0 0).toNat:Int):=rfl
   unfold aq
   repeat (first|rw[if_pos (by omega)]|rw[if_neg (by omega)])
   rw[show dQ (eZ s) (s.extract 2 s.size)=bd from xy]
   have LX:bd.2.2=0:=by assumption
   all_goals (simp only[kQ,eZ,ui, ←a5 LX,h4,h5,h6,ne_eq,not_true_eq_false,not_false_eq_true,if_true,if_false,reduceIte];try rfl)
 rw[hm]
 rfl
theorem ks (s:ByteArray)(w:World)(hs:s.size≤9223372036854775807):Calls prog 31 #[vs s] w fun e w'=>e=.returned (.tuple #[(aq s).1.val,vi (aq s).2])∧Kp [] w w':=by
 have LW:=(s.data.getD 0 0).toNat_lt
 have KE:=(s.data.getD 1 0).toNat_lt
 have hex:(s.extract 2 s.size).size≤s.size:=by simp
 refine M0 ?_ func31
 refine Md ((5000:Int)<(s.size:Int)) (fun h1=>?_) fun h1=>?_
 ·refine Mt [vC,vi 1] fun bs w hS=>?_
  refine⟨?_,hS.kp⟩
  have hm:aq s=((⟨0,0,0,0,0,⟨0,emp,emp,0⟩⟩:aF),1):=by
    have hk:(eZ s).kind=((s.data.getD 0 0).toNat:Int):=rfl
    unfold aq
    repeat (first|rw[if_pos (by omega)]|rw[if_neg (by omega)])
    rfl
  rw[hm]
  rfl
 refine Md ((s.size:Int)<2) (fun h2=>?_) fun h2=>?_
 ·refine Mt [vC,vi 5] fun bs w hS=>?_
  refine⟨?_,hS.kp⟩
  have hm:aq s=((⟨0,0,0,0,0,⟨0,emp,emp,0⟩⟩:aF),5):=by
    have hk:(eZ s).kind=((s.data.getD 0 0).toNat:Int):=rfl
    unfold aq
    repeat (first|rw[if_pos (by omega)]|rw[if_neg (by omega)])
    rfl
  rw[hm]
  rfl
 refine cZ 8 [] [] [] ai ?_
 refine bY ?_ (pc (pG [(27,.qg 0)] (oc (rfl:(0:Int)=((0:Nat):Int)) (oc ((by omega):0<s.size) on))) (pc (pP (0≤((s.data.getD 0 0).toNat:Int))) (pc (pP (((s.data.getD 0 0).toNat:Int)≤255)) (pc (pG [(30,.qg 1)] (oc (rfl:(1:Int)=((1:Nat):Int)) (oc ((by omega):1<s.size) on))) (pc (pP (0≤((s.data.getD 1 0).toNat:Int))) (pP (((s.data.getD 1 0).toNat:Int)≤255)))))))
 refine Mi ?_ (pG [(34,.sl 2 s.size)] (oc (rfl:(2:Int)=((2:Nat):Int)) (oc (rfl:s.size=s.size) (oc ((by omega):2≤s.size) on))))
 refine Md (((s.data.getD 0 0).toNat:Int)=2) (fun h3=>?_) fun h3=>?_
 rotate_left
 ·refine cr ((s.extract 2 s.size)=emp) (fun k7=>?_) fun k7=>?_
  rotate_left
  ·refine Mt [vC,vi 4] fun bs w hS=>?_
   refine⟨?_,hS.kp⟩
   have hm:aq s=((⟨0,0,0,0,0,⟨0,emp,emp,0⟩⟩:aF),4):=by
     have hk:(eZ s).kind=((s.data.getD 0 0).toNat:Int):=rfl
     unfold aq
     repeat (first|rw[if_pos (by omega)]|rw[if_neg (by omega)])
     all_goals (simp only[kQ,dQ,eZ,ui,k7,ne_eq,not_true_eq_false,not_false_eq_true,if_true,if_false,reduceIte];try rfl)
   rw[hm]
   rfl
  have QN:(s.extract 2 s.size).size=0:=by rw[k7];rfl
  refine Mp ?_ call97 (fun bs w hS=>kh (B:=bH) (⟨((s.data.getD 0 0).toNat:Int),((s.data.getD 1 0).toNat:Int),0,0,0,⟨0,emp,emp,0⟩⟩:aF) w ⟨(show emp.size≤9223372036854775807 from (by first|assumption|omega|(simp only[aL];omega))),(show emp.size≤9223372036854775807 from (by first|assumption|omega|(simp only[aL];omega)))⟩)
  refine cr (dP (⟨((s.data.getD 0 0).toNat:Int),((s.data.getD 1 0).toNat:Int),0,0,0,⟨0,emp,emp,0⟩⟩:aF)=0) (fun mo=>?_) fun mo=>?_
  ·refine Mt [.agg #[vi ((s.data.getD 0 0).toNat:Int),vi ((s.data.getD 1 0).toNat:Int),vi 0,vi 0,vi 0,vi 0,ve,ve,vi 0],vi 0] fun bs w hS=>?_
   refine⟨?_,hS.kp⟩
   have hm:aq s=((⟨((s.data.getD 0 0).toNat:Int),((s.data.getD 1 0).toNat:Int),0,0,0,⟨0,emp,emp,0⟩⟩:aF),0):=by
     have hk:(eZ s).kind=((s.data.getD 0 0).toNat:Int):=rfl
     unfold aq
     repeat (first|rw[if_pos (by omega)]|rw[if_neg (by omega)])
     all_goals (simp only[kQ,dQ,eZ,ui,k7,mo,ne_eq,not_true_eq_false,not_false_eq_true,if_true,if_false,reduceIte];try rfl)
   rw[hm]
   rfl
  refine Mt [vC,vi (dP (⟨((s.data.getD 0 0).toNat:Int),((s.data.getD 1 0).toNat:Int),0,0,0,⟨0,emp,emp,0⟩⟩:aF))] fun bs w hS=>?_
  refine⟨?_,hS.kp⟩
  have hm:aq s=((⟨0,0,0,0,0,⟨0,emp,emp,0⟩⟩:aF),dP (⟨((s.data.getD 0 0).toNat:Int),((s.data.getD 1 0).toNat:Int),0,0,0,⟨0,emp,emp,0⟩⟩:aF)):=by
    have hk:(eZ s).kind=((s.data.getD 0 0).toNat:Int):=rfl
    unfold aq
    repeat (first|rw[if_pos (by omega)]|rw[if_neg (by omega)])
    all_goals (simp only[kQ,dQ,eZ,ui,k7,mo,ne_eq,not_true_eq_false,not_false_eq_true,if_true,if_false,reduceIte];try rfl)
  rw[hm]
  rfl
 refine LB 6 fun _ bu=>?_
 refine Mq 39 true ?_ rfl
 refine Mp ?_ (vs:=fun bs=>[vs (s.extract 2 s.size)]) call95 (fun bs w hS=>gL _ w (by first|assumption|omega|(simp only[aL];omega)))
 have JA:=eH (s.extract 2 s.size)
 generalize u5:bf (s.extract 2 s.size)=r1 at JA⊢
 refine cr (r1.2.2=0) (fun h4=>?_) fun h4=>?_
 rotate_left
 ·refine Mt [vC,vi r1.2.2] fun bs w hS=>?_
  refine⟨?_,hS.kp⟩
  have hm:aq s=((⟨0,0,0,0,0,⟨0,emp,emp,0⟩⟩:aF),r1.2.2):=by
    have hk:(eZ s).kind=((s.data.getD 0 0).toNat:Int):=rfl
    unfold aq
    repeat (first|rw[if_pos (by omega)]|rw[if_neg (by omega)])
    all_goals (simp only[kQ,dQ,eZ,ui,u5,h4,ne_eq,not_true_eq_false,not_false_eq_true,if_true,if_false,reduceIte];try rfl)
  rw[hm]
  rfl
 refine Mi ?_ (pc (pG [(54,.idx dd 0)] (oc (rfl:(0:Int)=((0:Nat):Int)) (oc ((by omega):0<5) on))) (pR (1)))
 refine bu 5 (J:=?_)
 refine Mq 39 true ?_ rfl
 refine Mp ?_ (vs:=fun bs=>[vs r1.2.1]) call95 (fun bs w hS=>gL _ w (by first|assumption|omega|(simp only[aL];omega)))
 have JB:=eH r1.2.1
 generalize ny:bf r1.2.1=r2 at JB⊢
 refine cr (r2.2.2=0) (fun h5=>?_) fun h5=>?_
 rotate_left
 ·refine Mt [vC,vi r2.2.2] fun bs w hS=>?_
  refine⟨?_,hS.kp⟩
  have hm:aq s=((⟨0,0,0,0,0,⟨0,emp,emp,0⟩⟩:aF),r2.2.2):=by
    have hk:(eZ s).kind=((s.data.getD 0 0).toNat:Int):=rfl
    unfold aq
    repeat (first|rw[if_pos (by omega)]|rw[if_neg (by omega)])
    all_goals (simp only[kQ,dQ,eZ,ui,u5,ny,h4,h5,ne_eq,not_true_eq_false,not_false_eq_true,if_true,if_false,reduceIte];try rfl)
  rw[hm]
  rfl
 refine Mi ?_ (pc (pG [(54,.idx dd 1)] (oc (rfl:(1:Int)=((1:Nat):Int)) (oc ((by omega):1<5) on))) (pR (2)))
 refine bu 4 (J:=?_)
 refine Mq 39 true ?_ rfl
 refine Mp ?_ (vs:=fun bs=>[vs r2.2.1]) call95 (fun bs w hS=>gL _ w (by first|assumption|omega|(simp only[aL];omega)))
 have JD:=eH r2.2.1
 generalize H9:bf r2.2.1=r3 at JD⊢
 refine cr (r3.2.2=0) (fun h6=>?_) fun h6=>?_
 rotate_left
 ·refine Mt [vC,vi r3.2.2] fun bs w hS=>?_
  refine⟨?_,hS.kp⟩
  have hm:aq s=((⟨0,0,0,0,0,⟨0,emp,emp,0⟩⟩:aF),r3.2.2):=by
    have hk:(eZ s).kind=((s.data.getD 0 0).toNat:Int):=rfl
    unfold aq
    repeat (first|rw[if_pos (by omega)]|rw[if_neg (by omega)])
    all_goals (simp only[kQ,dQ,eZ,ui,u5,ny,H9,h4,h5,h6,ne_eq,not_true_eq_false,not_false_eq_true,if_true,if_false,reduceIte];try rfl)
  rw[hm]
  rfl
 refine Mi ?_ (pc (pG [(54,.idx dd 2)] (oc (rfl:(2:Int)=((2:Nat):Int)) (oc ((by omega):2<5) on))) (pR (3)))
 refine bu 3 (J:=?_)
 refine Mq 39 true ?_ rfl
 refine Mp ?_ (vs:=fun bs=>[vs r3.2.1]) call95 (fun bs w hS=>gL _ w (by first|assumption|omega|(simp only[aL];omega)))
 have JE:=eH r3.2.1
 generalize IS:bf r3.2.1=r4 at JE⊢
 refine cr (r4.2.2=0) (fun h7=>?_) fun h7=>?_
 rotate_left
 ·refine Mt [vC,vi r4.2.2] fun bs w hS=>?_
  refine⟨?_,hS.kp⟩
  have hm:aq s=((⟨0,0,0,0,0,⟨0,emp,emp,0⟩⟩:aF),r4.2.2):=by
    have hk:(eZ s).kind=((s.data.getD 0 0).toNat:Int):=rfl
    unfold aq
    repeat (first|rw[if_pos (by omega)]|rw[if_neg (by omega)])
    all_goals (simp only[kQ,dQ,eZ,ui,u5,ny,H9,IS,h4,h5,h6,h7,ne_eq,not_true_eq_false,not_false_eq_true,if_true,if_false,reduceIte];try rfl)
  rw[hm]
  rfl
 refine Mi ?_ (pc (pG [(54,.idx dd 3)] (oc (rfl:(3:Int)=((3:Nat):Int)) (oc ((by omega):3<5) on))) (pR (4)))
 refine bu 2 (J:=?_)
 refine Mq 39 true ?_ rfl
 refine Mp ?_ (vs:=fun bs=>[vs r4.2.1]) call95 (fun bs w hS=>gL _ w (by first|assumption|omega|(simp only[aL];omega)))
 have JF:=eH r4.2.1
 generalize JG:bf r4.2.1=r5 at JF⊢
 refine cr (r5.2.2=0) (fun h8=>?_) fun h8=>?_
 rotate_left
 ·refine Mt [vC,vi r5.2.2] fun bs w hS=>?_
  refine⟨?_,hS.kp⟩
  have hm:aq s=((⟨0,0,0,0,0,⟨0,emp,emp,0⟩⟩:aF),r5.2.2):=by
    have hk:(eZ s).kind=((s.data.getD 0 0).toNat:Int):=rfl
    unfold aq
    repeat (first|rw[if_pos (by omega)]|rw[if_neg (by omega)])
    all_goals (simp only[kQ,dQ,eZ,ui,u5,ny,H9,IS,JG,h4,h5,h6,h7,h8,ne_eq,not_true_eq_false,not_false_eq_true,if_true,if_false,reduceIte];try rfl)
  rw[hm]
  rfl
 refine Mi ?_ (pc (pG [(54,.idx dd 4)] (oc (rfl:(4:Int)=((4:Nat):Int)) (oc ((by omega):4<5) on))) (pR (5)))
 refine bu 1 (J:=?_)
 refine Mq 39 false ?_ rfl
 refine Mi ?_ (pc (pG [(56,.idx dd 0)] (oc (rfl:(0:Int)=((0:Nat):Int)) (oc ((by omega):0<5) on))) (pc (pG [(59,.idx dd 1)] (oc (rfl:(1:Int)=((1:Nat):Int)) (oc ((by omega):1<5) on))) (pc (pG [(62,.idx dd 2)] (oc (rfl:(2:Int)=((2:Nat):Int)) (oc ((by omega):2<5) on))) (pc (pG [(65,.idx dd 3)] (oc (rfl:(3:Int)=((3:Nat):Int)) (oc ((by omega):3<5) on))) (pG [(69,.idx dd 4)] (oc (rfl:(4:Int)=((4:Nat):Int)) (oc ((by omega):4<5) on)))))))
 refine Mp ?_ (vs:=fun bs=>[vs r5.2.1]) call96 (fun bs w hS=>pV _ w (by first|assumption|omega|(simp only[aL];omega)))
 have JI:=n7 r5.2.1
 generalize KD:dK r5.2.1=r6 at JI⊢
 refine cr (r6.2.2=0) (fun h9=>?_) fun h9=>?_
 rotate_left
 ·refine Mt [vC,vi r6.2.2] fun bs w hS=>?_
  refine⟨?_,hS.kp⟩
  have hm:aq s=((⟨0,0,0,0,0,⟨0,emp,emp,0⟩⟩:aF),r6.2.2):=by
    have hk:(eZ s).kind=((s.data.getD 0 0).toNat:Int):=rfl
    unfold aq
    repeat (first|rw[if_pos (by omega)]|rw[if_neg (by omega)])
    all_goals (simp only[kQ,dQ,eZ,ui,u5,ny,H9,IS,JG,KD,h4,h5,h6,h7,h8,h9,ne_eq,not_true_eq_false,not_false_eq_true,if_true,if_false,reduceIte];try rfl)
  rw[hm]
  rfl
 refine Mp ?_ (vs:=fun bs=>[vs r6.2.1]) call96 (fun bs w hS=>pV _ w (by first|assumption|omega|(simp only[aL];omega)))
 have JJ:=n7 r6.2.1
 generalize LV:dK r6.2.1=r7 at JJ⊢
 refine cr (r7.2.2=0) (fun ir=>?_) fun ir=>?_
 rotate_left
 ·refine Mt [vC,vi r7.2.2] fun bs w hS=>?_
  refine⟨?_,hS.kp⟩
  have hm:aq s=((⟨0,0,0,0,0,⟨0,emp,emp,0⟩⟩:aF),r7.2.2):=by
    have hk:(eZ s).kind=((s.data.getD 0 0).toNat:Int):=rfl
    unfold aq
    repeat (first|rw[if_pos (by omega)]|rw[if_neg (by omega)])
    all_goals (simp only[kQ,dQ,eZ,ui,u5,ny,H9,IS,JG,KD,LV,h4,h5,h6,h7,h8,h9,ir,ne_eq,not_true_eq_false,not_false_eq_true,if_true,if_false,reduceIte];try rfl)
  rw[hm]
  rfl
 refine cr (r7.2.1=emp) (fun g7=>?_) fun g7=>?_
 rotate_left
 ·refine Mt [vC,vi 4] fun bs w hS=>?_
  refine⟨?_,hS.kp⟩
  have hm:aq s=((⟨0,0,0,0,0,⟨0,emp,emp,0⟩⟩:aF),4):=by
    have hk:(eZ s).kind=((s.data.getD 0 0).toNat:Int):=rfl
    unfold aq
    repeat (first|rw[if_pos (by omega)]|rw[if_neg (by omega)])
    all_goals (simp only[kQ,dQ,eZ,ui,u5,ny,H9,IS,JG,KD,LV,h4,h5,h6,h7,h8,h9,ir,g7,ne_eq,not_true_eq_false,not_false_eq_true,if_true,if_false,reduceIte];try rfl)
  rw[hm]
  rfl
 have LU:r7.2.1.size=0:=by rw[g7];rfl
 refine Mp ?_ call97 (fun bs w hS=>kh (B:=bH) (⟨((s.data.getD 0 0).toNat:Int),((s.data.getD 1 0).toNat:Int),r1.1,r2.1,r3.1,⟨r4.1,r6.1,r7.1,r5.1⟩⟩:aF) w ⟨(show r6.1.size≤9223372036854775807 from (by first|assumption|omega|(simp only[aL];omega))),(show r7.1.size≤9223372036854775807 from (by first|assumption|omega|(simp only[aL];omega)))⟩)
 refine cr (dP (⟨((s.data.getD 0 0).toNat:Int),((s.data.getD 1 0).toNat:Int),r1.1,r2.1,r3.1,⟨r4.1,r6.1,r7.1,r5.1⟩⟩:aF)=0) (fun jW=>?_) fun jW=>?_
 ·refine Mt [.agg #[vi ((s.data.getD 0 0).toNat:Int),vi ((s.data.getD 1 0).toNat:Int),vi r1.1,vi r2.1,vi r3.1,vi r4.1,vs r6.1,vs r7.1,vi r5.1],vi 0] fun bs w hS=>?_
  refine⟨?_,hS.kp⟩
  have hm:aq s=((⟨((s.data.getD 0 0).toNat:Int),((s.data.getD 1 0).toNat:Int),r1.1,r2.1,r3.1,⟨r4.1,r6.1,r7.1,r5.1⟩⟩:aF),0):=by
    have hk:(eZ s).kind=((s.data.getD 0 0).toNat:Int):=rfl
    unfold aq
    repeat (first|rw[if_pos (by omega)]|rw[if_neg (by omega)])
    all_goals (simp only[kQ,dQ,eZ,ui,u5,ny,H9,IS,JG,KD,LV,h4,h5,h6,h7,h8,h9,ir,g7,jW,ne_eq,not_true_eq_false,not_false_eq_true,if_true,if_false,reduceIte];try rfl)
  rw[hm]
  rfl
 refine Mt [vC,vi (dP (⟨((s.data.getD 0 0).toNat:Int),((s.data.getD 1 0).toNat:Int),r1.1,r2.1,r3.1,⟨r4.1,r6.1,r7.1,r5.1⟩⟩:aF))] fun bs w hS=>?_
 refine⟨?_,hS.kp⟩
 have hm:aq s=((⟨0,0,0,0,0,⟨0,emp,emp,0⟩⟩:aF),dP (⟨((s.data.getD 0 0).toNat:Int),((s.data.getD 1 0).toNat:Int),r1.1,r2.1,r3.1,⟨r4.1,r6.1,r7.1,r5.1⟩⟩:aF)):=by
   have hk:(eZ s).kind=((s.data.getD 0 0).toNat:Int):=rfl
   unfold aq
   repeat (first|rw[if_pos (by omega)]|rw[if_neg (by omega)])
   all_goals (simp only[kQ,dQ,eZ,ui,u5,ny,H9,IS,JG,KD,LV,h4,h5,h6,h7,h8,h9,ir,g7,jW,ne_eq,not_true_eq_false,not_false_eq_true,if_true,if_false,reduceIte];try rfl)
 rw[hm]
 rfl
theorem mg (n:Int)(w:World):Calls prog 130 #[vi n] w fun e w'=>e=.returned (vb (gk n 1 9))∧Kp [] w w':=by
 refine M0 ?_ func130
 refine Md ((1:Int)≤n) (fun h1=>?_) fun h1=>?_
 rotate_left
 ·exact Mt [vb false] fun bs w hS=>⟨by simp[bO,den,gk,h1],hS.kp⟩
 exact Mt [vb (decide (n≤9))] fun bs w hS=>⟨by simp[bO,den,gk,h1],hS.kp⟩
theorem u6 (s:Sl Int)(k:Nat)(n:Int)(w:World)(hs:s.rd B w)(hk:k≤s.n):Calls prog 138 #[.slice s.A k s.c,vi n] w fun e w'=>e=.returned (vi (aQ (fun z=>decide (z=n)) (s.xs.take k)))∧Kp [] w w':=by
 have cV:=Sl.rd.ok hs
 have iV:=Sl.ok.nc cV
 have iW:s.n=s.xs.length:=rfl
 refine M0 ?_ func138
 refine Ml (σ:=Nat) (fun i=>i≤k∧ ∀j,j<i→decide (s.at j=n)=false) (fun i=>k - i) (fun _=>[]) [8,7,0,1] (fun i=>[(8,vI (i:Int))]) (fun _=>[]) ?_ 0 ⟨Nat.zero_le _,fun j hj=>absurd hj (Nat.not_lt_zero _)⟩
 rintro i ⟨hi,hI⟩ _ bu
 refine Md ((i:Int)<(k:Int)) (fun h1=>?_) fun h1=>?_
 rotate_left
 ·exact cd (-1) (by rw[Bf hk fun j hj=>hI j (by omega)])
 refine Mi ?_ (pc (QE 14 (i:Int) i k (db hs)) (pE 15 i (db hs)))
 refine Md (n=(s.at i)) (fun h2=>?_) fun h2=>?_
 ·exact cd (i:Int) (by rw[Bg (i:=i) hk (by omega) (decide_eq_true (by omega)) hI])
 refine Mi ?_ (pR ((i:Int)+1))
 exact bu (i+1) ⟨by omega,fun j hj=>by rcases Nat.lt_succ_iff_lt_or_eq.1 hj with h|h;exact hI j h;subst h;exact decide_eq_false (fun e=>by omega)⟩ (by omega)
theorem Aj (s:Sl Int)(k:Nat)(n:Int)(w:World)(hs:s.rd B w)(hk:k≤s.n):Calls prog 150 #[.slice s.A k s.c,vi n] w fun e w'=>e=.returned (vb ((s.xs.take k).any fun z=>decide (z=n)))∧Kp [] w w':=by
 have cV:=Sl.rd.ok hs
 have iV:=Sl.ok.nc cV
 have iW:s.n=s.xs.length:=rfl
 refine M0 ?_ func150
 refine Mp ?_ call138 (fun bs w hS=>u6 s k n w (Sl.rd.kp hs hS.kp) (by omega))
 exact o4 (decide ((0:Int)≤aQ (fun z=>decide (z=n)) (s.xs.take k))) (by simp only[bO,den,List.map_cons,List.map_nil,hC])
theorem tA (s:Sl Int)(k:Nat)(n:Int)(w:World)(hs:s.rd B w)(hk:k≤s.n):Calls prog 103 #[.slice s.A k s.c,vi n] w fun e w'=>e=.returned (vb ((s.xs.take k).any fun z=>decide (z=n)))∧Kp [] w w':=by
 have cV:=Sl.rd.ok hs
 have iV:=Sl.ok.nc cV
 have iW:s.n=s.xs.length:=rfl
 refine M0 ?_ func103
 refine Ml (σ:=Nat) (fun i=>i≤k∧ ∀j,j<i→ ¬s.at j=n) (fun i=>k - i) (fun _=>[]) [5,0,1] (fun i=>[(5,vI (i:Int))]) (fun _=>[]) ?_ 0 ⟨Nat.zero_le _,fun j hj=>absurd hj (Nat.not_lt_zero _)⟩
 rintro i ⟨hi,hI⟩ _ bu
 refine Md ((i:Int)<(k:Int)) (fun h1=>?_) fun h1=>?_
 rotate_left
 ·exact o4 false (by rw[any_none hk fun j hj=>hI j (by omega)])
 refine Mi ?_ (pc (QE 14 (i:Int) i k (db hs)) (pE 15 i (db hs)))
 refine Md ((s.at i)=n) (fun h2=>?_) fun h2=>?_
 ·exact o4 true (by rw[Fp (j:=i) hk (by omega) (by assumption)])
 refine Mi ?_ (pR ((i:Int)+1))
 exact bu (i+1) ⟨by omega,fun j hj=>by rcases Nat.lt_succ_iff_lt_or_eq.1 hj with h|h;exact hI j h;subst h;assumption⟩ (by omega)
theorem xz (x:ae)(w:World)(hx:aJ.sub B w x):Calls prog 131 #[x.val] w fun e w'=>e=.returned (vb (cp x.abs))∧Kp [] w w':=by
 have cC:=aJ.bL hx
 have mr:=Sl.ok.nc cC.2
 have mu:x.line.n=x.line.xs.length:=rfl
 have gB:x.abs.line.length=x.line.n:=rfl
 have OK:x.abs.ar=x.ar:=rfl
 have hp: ∀q,dy x.abs q=(gk (x.line.at q) 1 9 && (!decide (x.line.at q=x.ar) && !((x.line.xs.take q).any fun z=>decide (z=x.line.at q)))):=fun _=>rfl
 refine M0 ?_ func131
 refine Ml (σ:=Nat) (fun i=>i≤x.line.n∧bE (dy x.abs) i=true) (fun i=>x.line.n - i) (fun _=>[]) [8,7,6,1] (fun i=>[(8,vI (i:Int))]) (fun _=>[]) ?_ 0 ⟨Nat.zero_le _,rfl⟩
 rintro i ⟨hi,hI⟩ _ bu
 refine Md ((i:Int)<(x.line.n:Int)) (fun h1=>?_) fun h1=>?_
 rotate_left
 ·refine Md ((x.line.n:Int)≤3) (fun h5=>?_) fun h5=>?_
  rotate_left
  ·have gI:bE (dy x.abs) x.line.n=true:=by rw[show x.line.n=i by omega];exact hI
   have hm:cp x.abs=(false):=by
     rw[Bool.eq_iff_iff]
     simp only[cp,gB,OK,gI,Bool.true_and,Bool.and_eq_true,Bool.or_eq_true,Bool.not_eq_true',decide_eq_true_eq,decide_eq_false_iff_not,Bool.false_eq_true,iff_true,iff_false]
     omega
   exact o4 false hm
  refine cr (x.ar=0) (fun h6=>?_) fun h6=>?_
  rotate_left
  ·have gI:bE (dy x.abs) x.line.n=true:=by rw[show x.line.n=i by omega];exact hI
   have hm:cp x.abs=(true):=by
     rw[Bool.eq_iff_iff]
     simp only[cp,gB,OK,gI,Bool.true_and,Bool.and_eq_true,Bool.or_eq_true,Bool.not_eq_true',decide_eq_true_eq,decide_eq_false_iff_not,Bool.false_eq_true,iff_true,iff_false]
     omega
   exact o4 true hm
  have gI:bE (dy x.abs) x.line.n=true:=by rw[show x.line.n=i by omega];exact hI
  have hm:cp x.abs=(decide ((x.line.n:Int)=0)):=by
    rw[Bool.eq_iff_iff]
    simp only[cp,gB,OK,gI,Bool.true_and,Bool.and_eq_true,Bool.or_eq_true,Bool.not_eq_true',decide_eq_true_eq,decide_eq_false_iff_not,Bool.false_eq_true,iff_true,iff_false]
    omega
  exact o4 (decide ((x.line.n:Int)=0)) hm
 refine Mi ?_ (pA 11 12 (i:Int) i (s:=x.line) (fun w hk hr=>(aJ.kp hx hk).2))
 refine Mp ?_ call130 (fun bs w hS=>mg (x.line.at i) w)
 refine fL (gk (x.line.at i) 1 9) (fun h2=>?_) fun h2=>?_
 rotate_left
 ·have hb:dy x.abs i=false:=by rw[hp];simp[h1,h2]
  have hm:cp x.abs=false:=by unfold cp;rw[cJ hb (show i<x.abs.line.length by rw[gB];omega)];rfl
  exact o4 false hm
 refine Md ((x.line.at i)=x.ar) (fun h3=>?_) fun h3=>?_
 ·have hb:dy x.abs i=false:=by rw[hp];simp[h1,h2,h3]
  have hm:cp x.abs=false:=by unfold cp;rw[cJ hb (show i<x.abs.line.length by rw[gB];omega)];rfl
  exact o4 false hm
 refine Mi ?_ (pG [(26,.sl 0 i)] (oc (rfl:0=0) (oc (rfl:(i:Int)=(i:Int)) (oc ((by omega):i≤x.line.c) on))))
 refine Mp ?_ call150 (fun bs w hS=>Aj x.line i (x.line.at i) w (aJ.kp hx hS.kp).2 (by omega))
 refine Mb ((x.line.xs.take i).any fun z=>decide (z=(x.line.at i))) (fun h4=>?_) fun h4=>?_
 rotate_left
 ·refine Mi ?_ (pR ((i:Int)+1))
  exact bu (i+1) ⟨by omega,by show (bE _ i && dy x.abs i)=true;rw[hI,hp];simp[*]⟩ (by omega)
 have hb:dy x.abs i=false:=by rw[hp];simp[h1,h2,h3,h4]
 have hm:cp x.abs=false:=by unfold cp;rw[cJ hb (show i<x.abs.line.length by rw[gB];omega)];rfl
 exact o4 false hm
theorem ng (s:Sl ae)(w:World)(hs:s.rd B w):Calls prog 64 #[s.val] w fun e w'=>e=.returned (vi (bB (s.xs.map ae.abs)))∧Kp [] w w':=by
 have cV:=Sl.rd.ok hs
 have iV:=Sl.ok.nc cV
 have iW:s.n=s.xs.length:=rfl
 have fg: ∀q,(s.xs.map ae.abs).getD q dd=(s.at q).abs:=fun q=>pH q
 have lQ: ∀q,(s.at q).abs.name=(s.at q).name:=fun _=>rfl
 have kN: ∀q,(s.at q).abs.ar=(s.at q).ar:=fun _=>rfl
 have nh: ∀q,(s.at q).abs.aA=(s.at q).aA:=fun _=>rfl
 have tB:(s.xs.map ae.abs).length=s.n:=by simp
 refine M0 ?_ func64
 refine Md ((5:Int)<(s.n:Int)) (fun h1=>?_) fun h1=>?_
 ·have hm:bB (s.xs.map ae.abs)=1:=by
    grind[bB]
  exact cd 1 hm
 refine Ml (σ:=Nat) (fun i=>i≤s.n∧bB (s.xs.map ae.abs)=ek (b9 (s.xs.map ae.abs)) (s.n - i) i) (fun i=>s.n - i) (fun _=>[]) [10,9,8,0] (fun i=>[(10,vI (i:Int))]) (fun _=>[]) ?_ 0 ⟨Nat.zero_le _,by unfold bB;rw[tB,if_neg (by omega)]⟩
 rintro i ⟨hi,hI⟩ _ bu
 refine Md ((i:Int)<(s.n:Int)) (fun h2=>?_) fun h2=>?_
 rotate_left
 ·exact cd 0 (by rw[hI,eX (by omega)])
 refine Mi ?_ (pA 13 14 (i:Int) i (db hs))
 refine Mp ?_ call129 (fun bs w hS=>mQ _ w (Sl.ok.at (s:=s) (i:=i) cV (by omega)).1)
 refine fL (ee (s.at i).name) (fun h3=>?_) fun h3=>?_
 rotate_left
 ·refine cd 4 ?_
  have hf:b9 (s.xs.map ae.abs) i=4:=by
    grind[b9]
  rw[hI,aI (by omega) hf (by omega)]
 refine cr ((s.at i).ar=0) (fun h4=>?_) fun h4=>?_
 ·refine Mp ?_ call131 (fun bs w hS=>xz (s.at i) w (Sl.rd.sub (s:=s) (i:=i) (Sl.rd.kp hs hS.kp) (by omega)))
  refine fL (cp (s.at i).abs) (fun h5=>?_) fun h5=>?_
  rotate_left
  ·refine cd 4 ?_
   have hf:b9 (s.xs.map ae.abs) i=4:=by
     grind[b9]
   rw[hI,aI (by omega) hf (by omega)]
  refine Md ((s.at i).aA<1) (fun h6=>?_) fun h6=>?_
  ·refine cd 2 ?_
   have hf:b9 (s.xs.map ae.abs) i=2:=by
     grind[b9]
   rw[hI,aI (by omega) hf (by omega)]
  refine Md ((1073741824:Int)<(s.at i).aA) (fun h7=>?_) fun h7=>?_
  ·refine cd 2 ?_
   have hf:b9 (s.xs.map ae.abs) i=2:=by
     grind[b9]
   rw[hI,aI (by omega) hf (by omega)]
  refine cZ 13 [] [] [] ai ?_
  refine Md ((0:Int)<(i:Int)) (fun h8=>?_) fun h8=>?_
  rotate_left
  ·refine Mi ?_ (pR ((i:Int)+1))
   have kT:b9 (s.xs.map ae.abs) i=0:=by
     grind[b9]
   exact bu (i+1) ⟨by omega,by rw[hI];exact bN (by omega) kT⟩ (by omega)
  refine bY ?_ (pc (pR ((i:Int) - 1)) (pc (pI 49 ((i:Int) - 1) (i - 1) (db hs)) (pF 51 (i - 1) 0 1 (db hs))))
  refine fL (Op.bytesLess ((s.at (i - 1)).name).toList ((s.at i).name).toList) (fun h9=>?_) fun h9=>?_
  ·refine Mi ?_ (pR ((i:Int)+1))
   have kT:b9 (s.xs.map ae.abs) i=0:=by
     grind[b9]
   exact bu (i+1) ⟨by omega,by rw[hI];exact bN (by omega) kT⟩ (by omega)
  refine cd 14 ?_
  have hf:b9 (s.xs.map ae.abs) i=14:=by
    grind[b9]
  rw[hI,aI (by omega) hf (by omega)]
 refine Mp ?_ call130 (fun bs w hS=>mg (s.at i).ar w)
 refine fL (gk (s.at i).ar 1 9) (fun ir=>?_) fun ir=>?_
 rotate_left
 ·simp only[iT,iF]at ir
  refine cd 4 ?_
  have hf:b9 (s.xs.map ae.abs) i=4:=by
    grind[b9]
  rw[hI,aI (by omega) hf (by omega)]
 simp only[iT,iF]at ir
 refine Mp ?_ call131 (fun bs w hS=>xz (s.at i) w (Sl.rd.sub (s:=s) (i:=i) (Sl.rd.kp hs hS.kp) (by omega)))
 refine fL (cp (s.at i).abs) (fun g7=>?_) fun g7=>?_
 rotate_left
 ·refine cd 4 ?_
  have hf:b9 (s.xs.map ae.abs) i=4:=by
    grind[b9]
  rw[hI,aI (by omega) hf (by omega)]
 refine Md ((s.at i).aA<1) (fun jW=>?_) fun jW=>?_
 ·refine cd 2 ?_
  have hf:b9 (s.xs.map ae.abs) i=2:=by
    grind[b9]
  rw[hI,aI (by omega) hf (by omega)]
 refine Md ((1073741824:Int)<(s.at i).aA) (fun k7=>?_) fun k7=>?_
 ·refine cd 2 ?_
  have hf:b9 (s.xs.map ae.abs) i=2:=by
    grind[b9]
  rw[hI,aI (by omega) hf (by omega)]
 refine cZ 13 [] [] [] ai ?_
 refine Md ((0:Int)<(i:Int)) (fun mo=>?_) fun mo=>?_
 rotate_left
 ·refine Mi ?_ (pR ((i:Int)+1))
  have kT:b9 (s.xs.map ae.abs) i=0:=by
    grind[b9]
  exact bu (i+1) ⟨by omega,by rw[hI];exact bN (by omega) kT⟩ (by omega)
 refine bY ?_ (pc (pR ((i:Int) - 1)) (pc (pI 49 ((i:Int) - 1) (i - 1) (db hs)) (pF 51 (i - 1) 0 1 (db hs))))
 refine fL (Op.bytesLess ((s.at (i - 1)).name).toList ((s.at i).name).toList) (fun pr=>?_) fun pr=>?_
 ·refine Mi ?_ (pR ((i:Int)+1))
  have kT:b9 (s.xs.map ae.abs) i=0:=by
    grind[b9]
  exact bu (i+1) ⟨by omega,by rw[hI];exact bN (by omega) kT⟩ (by omega)
 refine cd 14 ?_
 have hf:b9 (s.xs.map ae.abs) i=14:=by
   grind[b9]
 rw[hI,aI (by omega) hf (by omega)]
theorem jQ (s:Sl ae)(w:World)(hs:s.rd B w):Calls prog 93 #[.slice s.A s.n s.c] w fun e w'=>e=.returned (.int .i64 (bB (s.xs.map ae.abs)))∧Kp [] w w':=by
 have cV:=Sl.rd.ok hs
 have iV:=Sl.ok.nc cV
 have iW:s.n=s.xs.length:=rfl
 have fg: ∀q,(s.xs.map ae.abs).getD q dd=(s.at q).abs:=fun q=>pH q
 have lQ: ∀q,(s.at q).abs.name=(s.at q).name:=fun _=>rfl
 have kN: ∀q,(s.at q).abs.ar=(s.at q).ar:=fun _=>rfl
 have nh: ∀q,(s.at q).abs.aA=(s.at q).aA:=fun _=>rfl
 have tB:(s.xs.map ae.abs).length=s.n:=by simp
 refine M0 ?_ func93
 refine Md ((5:Int)<(s.n:Int)) (fun h1=>?_) (fun h1=>?_)
 ·refine Mt [.int .i64 1] fun bs w hS=>?_
  refine⟨?_,hS.kp⟩
  simp only[bO,den,List.map_cons,List.map_nil]
  have hm:bB (s.xs.map ae.abs)=1:=by
    grind[bB]
  rw[hm]
 refine Ml (σ:=Nat) (fun i=>i≤s.n∧bB (s.xs.map ae.abs)=ek (b9 (s.xs.map ae.abs)) (s.n - i) i) (fun i=>s.n - i) (fun _=>[]) [3,0] (fun i=>[(3,vI (i:Int))]) (fun _=>[]) ?_ 0 ⟨Nat.zero_le _,by unfold bB;rw[tB,if_neg (by omega)]⟩
 rintro i ⟨hi,hI⟩ _ bu
 have hp: ∀q,dy (s.at i).abs q=(gk ((s.at i).line.at q) 1 9 && (!decide ((s.at i).line.at q=(s.at i).ar) && !(((s.at i).line.xs.take q).any fun z=>decide (z=(s.at i).line.at q)))):=fun _=>rfl
 refine Md ((i:Int)<(s.n:Int)) (fun h2=>?_) (fun h2=>?_)
 rotate_left
 ·refine Mt [.int .i64 0] fun bs w hS=>?_
  refine⟨?_,hS.kp⟩
  simp only[bO,den,List.map_cons,List.map_nil]
  rw[hI,eX (by omega)]
 refine Mi ?_ (pA 18 19 (i:Int) i (db hs))
 refine Mp ?_ (vs:=fun bs=>[.string (s.at i).name]) call107 (fun bs w hS=>kL _ w (And.left (Sl.ok.at (s:=s) (i:=i) cV (by omega))))
 refine fL (ee (s.at i).name) (fun h3=>?_) (fun h3=>?_)
 rotate_left
 ·refine Ml (σ:=Nat×Bool) (fun⟨j,b⟩=>j≤(s.at i).line.n∧b=(true||!(bE (dy (s.at i).abs) j))) (fun⟨j,b⟩=>(s.at i).line.n - j) (fun _=>[]) [6,5,4,3,0] (fun⟨j,b⟩=>[(6,vI (j:Int)),(5,vB b)]) (fun _=>[]) ?_ (⟨0,true⟩) ⟨Nat.zero_le _,by simp[bE]⟩
  rintro⟨j,b⟩ ⟨hj,hJ⟩ _ QO
  have Ia:=Sl.ok.nc (Sl.ok.at cV (show i<s.n by omega)).2
  refine Md ((j:Int)<(((s.at i).line.n:Nat):Int)) (fun Sb=>?_) fun Sb=>?_
  ·refine cZ 33 [] [] [] ai ?_
   refine Mb b (fun QP=>?_) fun QP=>?_
   rotate_left
   ·exfalso;rw[QP]at hJ;simp at hJ
   refine Mi ?_ (pR ((j:Int)+1))
   exact QO ⟨j+1,true⟩ ⟨by omega,by simp only[bE,hp];simp_all⟩ (by show (s.at i).line.n - (j+1)<(s.at i).line.n - j;omega)
  refine Mb b (fun QQ=>?_) fun QQ=>?_
  rotate_left
  ·exfalso;rw[QQ]at hJ;simp at hJ
  refine Mt [vi 4] fun bs w hS=>?_
  clear bu QO
  refine⟨?_,hS.kp⟩
  simp only[bO,den,List.map_cons,List.map_nil]
  have hf:b9 (s.xs.map ae.abs) i=4:=by
    have xx:ee (s.at i).name=false∨(s.at i).ar<0∨9<(s.at i).ar∨cp (s.at i).abs=false:=by
      first|exact .inl (by assumption)|exact .inr ((show (s.at i).ar<0∨9<(s.at i).ar by omega).elim .inl (fun h=>.inr (.inl h)))|exact .inr (.inr (.inr (cg (.inr (.inl (by show 3<(s.at i).line.n;omega))))))|exact .inr (.inr (.inr (cg (.inr (.inr ⟨by show (s.at i).ar=0;omega,by show 0<(s.at i).line.n;omega⟩)))))|exact .inr (.inr (.inr (cg (.inl (by show bE _ (s.at i).line.n=false;rw[show (s.at i).line.n=j by omega];cases hq:bE (dy (s.at i).abs) j<;>simp_all)))))
    grind[b9]
  rw[hI,aI (by omega) hf (by omega)]
 refine Mp ?_ call51 (fun bs w hS=>b6 (s.at i).ar 0 9 w)
 refine fL (gk (s.at i).ar 0 9) (fun h4=>?_) fun h4=>?_
 rotate_left
 ·simp only[iT,iF]at h4
  refine Ml (σ:=Nat×Bool) (fun⟨j,b⟩=>j≤(s.at i).line.n∧b=(true||!(bE (dy (s.at i).abs) j))) (fun⟨j,b⟩=>(s.at i).line.n - j) (fun _=>[]) [6,5,4,3,0] (fun⟨j,b⟩=>[(6,vI (j:Int)),(5,vB b)]) (fun _=>[]) ?_ (⟨0,true⟩) ⟨Nat.zero_le _,by simp[bE]⟩
  rintro⟨j,b⟩ ⟨hj,hJ⟩ _ OL
  have Ia:=Sl.ok.nc (Sl.ok.at cV (show i<s.n by omega)).2
  refine Md ((j:Int)<(((s.at i).line.n:Nat):Int)) (fun Sc=>?_) fun Sc=>?_
  ·refine cZ 33 [] [] [] ai ?_
   refine Mb b (fun QS=>?_) fun QS=>?_
   rotate_left
   ·exfalso;rw[QS]at hJ;simp at hJ
   refine Mi ?_ (pR ((j:Int)+1))
   exact OL ⟨j+1,true⟩ ⟨by omega,by simp only[bE,hp];simp_all⟩ (by show (s.at i).line.n - (j+1)<(s.at i).line.n - j;omega)
  refine Mb b (fun QT=>?_) fun QT=>?_
  rotate_left
  ·exfalso;rw[QT]at hJ;simp at hJ
  refine Mt [vi 4] fun bs w hS=>?_
  clear bu OL
  refine⟨?_,hS.kp⟩
  simp only[bO,den,List.map_cons,List.map_nil]
  have hf:b9 (s.xs.map ae.abs) i=4:=by
    have xx:ee (s.at i).name=false∨(s.at i).ar<0∨9<(s.at i).ar∨cp (s.at i).abs=false:=by
      first|exact .inl (by assumption)|exact .inr ((show (s.at i).ar<0∨9<(s.at i).ar by omega).elim .inl (fun h=>.inr (.inl h)))|exact .inr (.inr (.inr (cg (.inr (.inl (by show 3<(s.at i).line.n;omega))))))|exact .inr (.inr (.inr (cg (.inr (.inr ⟨by show (s.at i).ar=0;omega,by show 0<(s.at i).line.n;omega⟩)))))|exact .inr (.inr (.inr (cg (.inl (by show bE _ (s.at i).line.n=false;rw[show (s.at i).line.n=j by omega];cases hq:bE (dy (s.at i).abs) j<;>simp_all)))))
    grind[b9]
  rw[hI,aI (by omega) hf (by omega)]
 simp only[iT,iF]at h4
 refine Md ((3:Int)<(((s.at i).line.n:Nat):Int)) (fun h5=>?_) fun h5=>?_
 ·refine Ml (σ:=Nat×Bool) (fun⟨j,b⟩=>j≤(s.at i).line.n∧b=(true||!(bE (dy (s.at i).abs) j))) (fun⟨j,b⟩=>(s.at i).line.n - j) (fun _=>[]) [6,5,4,3,0] (fun⟨j,b⟩=>[(6,vI (j:Int)),(5,vB b)]) (fun _=>[]) ?_ (⟨0,true⟩) ⟨Nat.zero_le _,by simp[bE]⟩
  rintro⟨j,b⟩ ⟨hj,hJ⟩ _ j8
  have Ia:=Sl.ok.nc (Sl.ok.at cV (show i<s.n by omega)).2
  refine Md ((j:Int)<(((s.at i).line.n:Nat):Int)) (fun h6=>?_) fun h6=>?_
  ·refine cZ 33 [] [] [] ai ?_
   refine Mb b (fun h7=>?_) fun h7=>?_
   rotate_left
   ·exfalso;rw[h7]at hJ;simp at hJ
   refine Mi ?_ (pR ((j:Int)+1))
   exact j8 ⟨j+1,true⟩ ⟨by omega,by simp only[bE,hp];simp_all⟩ (by show (s.at i).line.n - (j+1)<(s.at i).line.n - j;omega)
  refine Mb b (fun h8=>?_) fun h8=>?_
  rotate_left
  ·exfalso;rw[h8]at hJ;simp at hJ
  refine Mt [vi 4] fun bs w hS=>?_
  clear bu j8
  refine⟨?_,hS.kp⟩
  simp only[bO,den,List.map_cons,List.map_nil]
  have hf:b9 (s.xs.map ae.abs) i=4:=by
    have xx:ee (s.at i).name=false∨(s.at i).ar<0∨9<(s.at i).ar∨cp (s.at i).abs=false:=by
      first|exact .inl (by assumption)|exact .inr ((show (s.at i).ar<0∨9<(s.at i).ar by omega).elim .inl (fun h=>.inr (.inl h)))|exact .inr (.inr (.inr (cg (.inr (.inl (by show 3<(s.at i).line.n;omega))))))|exact .inr (.inr (.inr (cg (.inr (.inr ⟨by show (s.at i).ar=0;omega,by show 0<(s.at i).line.n;omega⟩)))))|exact .inr (.inr (.inr (cg (.inl (by show bE _ (s.at i).line.n=false;rw[show (s.at i).line.n=j by omega];cases hq:bE (dy (s.at i).abs) j<;>simp_all)))))
    grind[b9]
  rw[hI,aI (by omega) hf (by omega)]
 refine Md ((s.at i).ar=0) (fun h9=>?_) fun h9=>?_
 rotate_left
 ·refine Ml (σ:=Nat×Bool) (fun⟨j,b⟩=>j≤(s.at i).line.n∧b=(false||!(bE (dy (s.at i).abs) j))) (fun⟨j,b⟩=>(s.at i).line.n - j) (fun _=>[]) [6,5,4,3,0] (fun⟨j,b⟩=>[(6,vI (j:Int)),(5,vB b)]) (fun _=>[]) ?_ (⟨0,false⟩) ⟨Nat.zero_le _,by simp[bE]⟩
  rintro⟨j,b⟩ ⟨hj,hJ⟩ _ Ha
  have Ia:=Sl.ok.nc (Sl.ok.at cV (show i<s.n by omega)).2
  refine Md ((j:Int)<(((s.at i).line.n:Nat):Int)) (fun KF=>?_) fun KF=>?_
  ·refine cZ 33 [] [] [] ai ?_
   refine Mb b (fun LY=>?_) fun LY=>?_
   ·refine Mi ?_ (pR ((j:Int)+1))
    exact Ha ⟨j+1,true⟩ ⟨by omega,by simp only[bE,hp];simp_all⟩ (by show (s.at i).line.n - (j+1)<(s.at i).line.n - j;omega)
   refine bY ?_ (pA 59 60 (j:Int) j (s:=(s.at i).line) (fun w hk hr=>(Sl.rd.sub (s:=s) (i:=i) (Sl.rd.kp hs hk) (by omega)).2))
   refine Mp ?_ call51 (fun bs w hS=>b6 ((s.at i).line.at j) 1 9 w)
   refine fL (gk ((s.at i).line.at j) 1 9) (fun OM=>?_) fun OM=>?_
   rotate_left
   ·refine Mi ?_ (pR ((j:Int)+1))
    exact Ha ⟨j+1,true⟩ ⟨by omega,by simp only[bE,hp];simp_all⟩ (by show (s.at i).line.n - (j+1)<(s.at i).line.n - j;omega)
   refine bY ?_ (pA 68 69 (j:Int) j (s:=(s.at i).line) (fun w hk hr=>(Sl.rd.sub (s:=s) (i:=i) (Sl.rd.kp hs hk) (by omega)).2))
   refine Md (((s.at i).line.at j)=(s.at i).ar) (fun ON=>?_) fun ON=>?_
   ·refine Mi ?_ (pR ((j:Int)+1))
    exact Ha ⟨j+1,true⟩ ⟨by omega,by simp only[bE,hp];simp_all⟩ (by show (s.at i).line.n - (j+1)<(s.at i).line.n - j;omega)
   refine bY ?_ (pc (pG [(78,.sl 0 j)] (oc (rfl:0=0) (oc (rfl:(j:Int)=(j:Int)) (oc ((by omega):j≤(s.at i).line.c) on)))) (pA 82 83 (j:Int) j (s:=(s.at i).line) (fun w hk hr=>(Sl.rd.sub (s:=s) (i:=i) (Sl.rd.kp hs hk) (by omega)).2)))
   refine Mp ?_ call103 (fun bs w hS=>tA (s.at i).line j ((s.at i).line.at j) w (Sl.rd.sub (s:=s) (i:=i) (Sl.rd.kp hs hS.kp) (by omega)).2 (by omega))
   refine Mi ?_ (pR ((j:Int)+1))
   exact Ha ⟨j+1,((s.at i).line.xs.take j).any fun z=>decide (z=((s.at i).line.at j))⟩ ⟨by omega,by simp only[bE,hp];simp_all⟩ (by show (s.at i).line.n - (j+1)<(s.at i).line.n - j;omega)
  refine Mb b (fun OO=>?_) fun OO=>?_
  ·refine Mt [vi 4] fun bs w hS=>?_
   clear bu Ha
   refine⟨?_,hS.kp⟩
   simp only[bO,den,List.map_cons,List.map_nil]
   have hf:b9 (s.xs.map ae.abs) i=4:=by
     have xx:ee (s.at i).name=false∨(s.at i).ar<0∨9<(s.at i).ar∨cp (s.at i).abs=false:=by
       first|exact .inl (by assumption)|exact .inr ((show (s.at i).ar<0∨9<(s.at i).ar by omega).elim .inl (fun h=>.inr (.inl h)))|exact .inr (.inr (.inr (cg (.inr (.inl (by show 3<(s.at i).line.n;omega))))))|exact .inr (.inr (.inr (cg (.inr (.inr ⟨by show (s.at i).ar=0;omega,by show 0<(s.at i).line.n;omega⟩)))))|exact .inr (.inr (.inr (cg (.inl (by show bE _ (s.at i).line.n=false;rw[show (s.at i).line.n=j by omega];cases hq:bE (dy (s.at i).abs) j<;>simp_all)))))
     grind[b9]
   rw[hI,aI (by omega) hf (by omega)]
  refine Mp ?_ call51 (fun bs w hS=>b6 (s.at i).aA 1 1073741824 w)
  refine fL (gk (s.at i).aA 1 1073741824) (fun LZ=>?_) fun LZ=>?_
  rotate_left
  ·simp only[iT,iF]at LZ
   refine Mt [vi 2] fun bs w hS=>?_
   clear bu Ha
   refine⟨?_,hS.kp⟩
   simp only[bO,den,List.map_cons,List.map_nil]
   have hf:b9 (s.xs.map ae.abs) i=2:=by
     have ql:(s.at i).line.n=j:=by omega
     have gI:bE (dy (s.at i).abs) (s.at i).line.n=true:=by rw[ql];cases hq:bE (dy (s.at i).abs) j<;>simp_all
     have rD:cp (s.at i).abs=true:=gG gI (by show (s.at i).line.n≤3;omega) (by show ¬(s.at i).ar=0∨(s.at i).line.n=0;omega)
     grind[b9]
   rw[hI,aI (by omega) hf (by omega)]
  simp only[iT,iF]at LZ
  refine cZ 13 [] [] [] ai ?_
  refine Md ((0:Int)<(i:Int)) (fun Sd=>?_) fun Sd=>?_
  rotate_left
  ·refine Mi ?_ (pR ((i:Int)+1))
   have kT:b9 (s.xs.map ae.abs) i=0:=by
     have ql:(s.at i).line.n=j:=by omega
     have gI:bE (dy (s.at i).abs) (s.at i).line.n=true:=by rw[ql];cases hq:bE (dy (s.at i).abs) j<;>simp_all
     have rD:cp (s.at i).abs=true:=gG gI (by show (s.at i).line.n≤3;omega) (by show ¬(s.at i).ar=0∨(s.at i).line.n=0;omega)
     grind[b9]
   exact bu (i+1) ⟨by omega,by rw[hI];exact bN (by omega) kT⟩ (by omega)
  refine bY ?_ (pc (pR ((i:Int) - 1)) (pc (pI 99 ((i:Int) - 1) (i - 1) (db hs)) (pF 101 (i - 1) 0 1 (db hs))))
  refine Mb (Op.bytesLess ((s.at i).name).toList ((s.at (i - 1)).name).toList||decide ((s.at i).name=(s.at (i - 1)).name)) (fun Mc=>?_) fun Mc=>?_
  rotate_left
  ·rw[bytes_total]at Mc
   simp only[Bool.not_eq_true',Bool.not_eq_false',Bool.not_eq_true,Bool.not_eq_false]at Mc
   refine Mi ?_ (pR ((i:Int)+1))
   have kT:b9 (s.xs.map ae.abs) i=0:=by
     have ql:(s.at i).line.n=j:=by omega
     have gI:bE (dy (s.at i).abs) (s.at i).line.n=true:=by rw[ql];cases hq:bE (dy (s.at i).abs) j<;>simp_all
     have rD:cp (s.at i).abs=true:=gG gI (by show (s.at i).line.n≤3;omega) (by show ¬(s.at i).ar=0∨(s.at i).line.n=0;omega)
     grind[b9]
   exact bu (i+1) ⟨by omega,by rw[hI];exact bN (by omega) kT⟩ (by omega)
  rw[bytes_total]at Mc
  simp only[Bool.not_eq_true',Bool.not_eq_false',Bool.not_eq_true,Bool.not_eq_false]at Mc
  refine Mt [vi 14] fun bs w hS=>?_
  clear bu Ha
  refine⟨?_,hS.kp⟩
  simp only[bO,den,List.map_cons,List.map_nil]
  have hf:b9 (s.xs.map ae.abs) i=14:=by
    have ql:(s.at i).line.n=j:=by omega
    have gI:bE (dy (s.at i).abs) (s.at i).line.n=true:=by rw[ql];cases hq:bE (dy (s.at i).abs) j<;>simp_all
    have rD:cp (s.at i).abs=true:=gG gI (by show (s.at i).line.n≤3;omega) (by show ¬(s.at i).ar=0∨(s.at i).line.n=0;omega)
    grind[b9]
  rw[hI,aI (by omega) hf (by omega)]
 by_cases ir:(0:Int)<(((s.at i).line.n:Nat):Int)
 ·refine Mq 5 true ?_ (dT ir)
  refine Ml (σ:=Nat×Bool) (fun⟨j,b⟩=>j≤(s.at i).line.n∧b=(true||!(bE (dy (s.at i).abs) j))) (fun⟨j,b⟩=>(s.at i).line.n - j) (fun _=>[]) [6,5,4,3,0] (fun⟨j,b⟩=>[(6,vI (j:Int)),(5,vB b)]) (fun _=>[]) ?_ (⟨0,true⟩) ⟨Nat.zero_le _,by simp[bE]⟩
  rintro⟨j,b⟩ ⟨hj,hJ⟩ _ o6
  have Ia:=Sl.ok.nc (Sl.ok.at cV (show i<s.n by omega)).2
  refine Md ((j:Int)<(((s.at i).line.n:Nat):Int)) (fun g7=>?_) fun g7=>?_
  ·refine cZ 33 [] [] [] ai ?_
   refine Mb b (fun jW=>?_) fun jW=>?_
   rotate_left
   ·exfalso;rw[jW]at hJ;simp at hJ
   refine Mi ?_ (pR ((j:Int)+1))
   exact o6 ⟨j+1,true⟩ ⟨by omega,by simp only[bE,hp];simp_all⟩ (by show (s.at i).line.n - (j+1)<(s.at i).line.n - j;omega)
  refine Mb b (fun k7=>?_) fun k7=>?_
  rotate_left
  ·exfalso;rw[k7]at hJ;simp at hJ
  refine Mt [vi 4] fun bs w hS=>?_
  clear bu o6
  refine⟨?_,hS.kp⟩
  simp only[bO,den,List.map_cons,List.map_nil]
  have hf:b9 (s.xs.map ae.abs) i=4:=by
    have xx:ee (s.at i).name=false∨(s.at i).ar<0∨9<(s.at i).ar∨cp (s.at i).abs=false:=by
      first|exact .inl (by assumption)|exact .inr ((show (s.at i).ar<0∨9<(s.at i).ar by omega).elim .inl (fun h=>.inr (.inl h)))|exact .inr (.inr (.inr (cg (.inr (.inl (by show 3<(s.at i).line.n;omega))))))|exact .inr (.inr (.inr (cg (.inr (.inr ⟨by show (s.at i).ar=0;omega,by show 0<(s.at i).line.n;omega⟩)))))|exact .inr (.inr (.inr (cg (.inl (by show bE _ (s.at i).line.n=false;rw[show (s.at i).line.n=j by omega];cases hq:bE (dy (s.at i).abs) j<;>simp_all)))))
    grind[b9]
  rw[hI,aI (by omega) hf (by omega)]
 refine Mq 5 false ?_ (dF ir)
 refine Ml (σ:=Nat×Bool) (fun⟨j,b⟩=>j≤(s.at i).line.n∧b=(false||!(bE (dy (s.at i).abs) j))) (fun⟨j,b⟩=>(s.at i).line.n - j) (fun _=>[]) [6,5,4,3,0] (fun⟨j,b⟩=>[(6,vI (j:Int)),(5,vB b)]) (fun _=>[]) ?_ (⟨0,false⟩) ⟨Nat.zero_le _,by simp[bE]⟩
 rintro⟨j,b⟩ ⟨hj,hJ⟩ _ sK
 have Ia:=Sl.ok.nc (Sl.ok.at cV (show i<s.n by omega)).2
 refine Md ((j:Int)<(((s.at i).line.n:Nat):Int)) (fun mo=>?_) fun mo=>?_
 ·refine cZ 33 [] [] [] ai ?_
  refine Mb b (fun pr=>?_) fun pr=>?_
  ·refine Mi ?_ (pR ((j:Int)+1))
   exact sK ⟨j+1,true⟩ ⟨by omega,by simp only[bE,hp];simp_all⟩ (by show (s.at i).line.n - (j+1)<(s.at i).line.n - j;omega)
  refine bY ?_ (pA 59 60 (j:Int) j (s:=(s.at i).line) (fun w hk hr=>(Sl.rd.sub (s:=s) (i:=i) (Sl.rd.kp hs hk) (by omega)).2))
  refine Mp ?_ call51 (fun bs w hS=>b6 ((s.at i).line.at j) 1 9 w)
  refine fL (gk ((s.at i).line.at j) 1 9) (fun yK=>?_) fun yK=>?_
  rotate_left
  ·refine Mi ?_ (pR ((j:Int)+1))
   exact sK ⟨j+1,true⟩ ⟨by omega,by simp only[bE,hp];simp_all⟩ (by show (s.at i).line.n - (j+1)<(s.at i).line.n - j;omega)
  refine bY ?_ (pA 68 69 (j:Int) j (s:=(s.at i).line) (fun w hk hr=>(Sl.rd.sub (s:=s) (i:=i) (Sl.rd.kp hs hk) (by omega)).2))
  refine Md (((s.at i).line.at j)=(s.at i).ar) (fun Ej=>?_) fun Ej=>?_
  ·refine Mi ?_ (pR ((j:Int)+1))
   exact sK ⟨j+1,true⟩ ⟨by omega,by simp only[bE,hp];simp_all⟩ (by show (s.at i).line.n - (j+1)<(s.at i).line.n - j;omega)
  refine bY ?_ (pc (pG [(78,.sl 0 j)] (oc (rfl:0=0) (oc (rfl:(j:Int)=(j:Int)) (oc ((by omega):j≤(s.at i).line.c) on)))) (pA 82 83 (j:Int) j (s:=(s.at i).line) (fun w hk hr=>(Sl.rd.sub (s:=s) (i:=i) (Sl.rd.kp hs hk) (by omega)).2)))
  refine Mp ?_ call103 (fun bs w hS=>tA (s.at i).line j ((s.at i).line.at j) w (Sl.rd.sub (s:=s) (i:=i) (Sl.rd.kp hs hS.kp) (by omega)).2 (by omega))
  refine Mi ?_ (pR ((j:Int)+1))
  exact sK ⟨j+1,((s.at i).line.xs.take j).any fun z=>decide (z=((s.at i).line.at j))⟩ ⟨by omega,by simp only[bE,hp];simp_all⟩ (by show (s.at i).line.n - (j+1)<(s.at i).line.n - j;omega)
 refine Mb b (fun yn=>?_) fun yn=>?_
 ·refine Mt [vi 4] fun bs w hS=>?_
  clear bu sK
  refine⟨?_,hS.kp⟩
  simp only[bO,den,List.map_cons,List.map_nil]
  have hf:b9 (s.xs.map ae.abs) i=4:=by
    have xx:ee (s.at i).name=false∨(s.at i).ar<0∨9<(s.at i).ar∨cp (s.at i).abs=false:=by
      first|exact .inl (by assumption)|exact .inr ((show (s.at i).ar<0∨9<(s.at i).ar by omega).elim .inl (fun h=>.inr (.inl h)))|exact .inr (.inr (.inr (cg (.inr (.inl (by show 3<(s.at i).line.n;omega))))))|exact .inr (.inr (.inr (cg (.inr (.inr ⟨by show (s.at i).ar=0;omega,by show 0<(s.at i).line.n;omega⟩)))))|exact .inr (.inr (.inr (cg (.inl (by show bE _ (s.at i).line.n=false;rw[show (s.at i).line.n=j by omega];cases hq:bE (dy (s.at i).abs) j<;>simp_all)))))
    grind[b9]
  rw[hI,aI (by omega) hf (by omega)]
 refine Mp ?_ call51 (fun bs w hS=>b6 (s.at i).aA 1 1073741824 w)
 refine fL (gk (s.at i).aA 1 1073741824) (fun EU=>?_) fun EU=>?_
 rotate_left
 ·simp only[iT,iF]at EU
  refine Mt [vi 2] fun bs w hS=>?_
  clear bu sK
  refine⟨?_,hS.kp⟩
  simp only[bO,den,List.map_cons,List.map_nil]
  have hf:b9 (s.xs.map ae.abs) i=2:=by
    have ql:(s.at i).line.n=j:=by omega
    have gI:bE (dy (s.at i).abs) (s.at i).line.n=true:=by rw[ql];cases hq:bE (dy (s.at i).abs) j<;>simp_all
    have rD:cp (s.at i).abs=true:=gG gI (by show (s.at i).line.n≤3;omega) (by show ¬(s.at i).ar=0∨(s.at i).line.n=0;omega)
    grind[b9]
  rw[hI,aI (by omega) hf (by omega)]
 simp only[iT,iF]at EU
 refine cZ 13 [] [] [] ai ?_
 refine Md ((0:Int)<(i:Int)) (fun Dc=>?_) fun Dc=>?_
 rotate_left
 ·refine Mi ?_ (pR ((i:Int)+1))
  have kT:b9 (s.xs.map ae.abs) i=0:=by
    have ql:(s.at i).line.n=j:=by omega
    have gI:bE (dy (s.at i).abs) (s.at i).line.n=true:=by rw[ql];cases hq:bE (dy (s.at i).abs) j<;>simp_all
    have rD:cp (s.at i).abs=true:=gG gI (by show (s.at i).line.n≤3;omega) (by show ¬(s.at i).ar=0∨(s.at i).line.n=0;omega)
    grind[b9]
  exact bu (i+1) ⟨by omega,by rw[hI];exact bN (by omega) kT⟩ (by omega)
 refine bY ?_ (pc (pR ((i:Int) - 1)) (pc (pI 99 ((i:Int) - 1) (i - 1) (db hs)) (pF 101 (i - 1) 0 1 (db hs))))
 refine Mb (Op.bytesLess ((s.at i).name).toList ((s.at (i - 1)).name).toList||decide ((s.at i).name=(s.at (i - 1)).name)) (fun Hb=>?_) fun Hb=>?_
 rotate_left
 ·rw[bytes_total]at Hb
  simp only[Bool.not_eq_true',Bool.not_eq_false',Bool.not_eq_true,Bool.not_eq_false]at Hb
  refine Mi ?_ (pR ((i:Int)+1))
  have kT:b9 (s.xs.map ae.abs) i=0:=by
    have ql:(s.at i).line.n=j:=by omega
    have gI:bE (dy (s.at i).abs) (s.at i).line.n=true:=by rw[ql];cases hq:bE (dy (s.at i).abs) j<;>simp_all
    have rD:cp (s.at i).abs=true:=gG gI (by show (s.at i).line.n≤3;omega) (by show ¬(s.at i).ar=0∨(s.at i).line.n=0;omega)
    grind[b9]
  exact bu (i+1) ⟨by omega,by rw[hI];exact bN (by omega) kT⟩ (by omega)
 rw[bytes_total]at Hb
 simp only[Bool.not_eq_true',Bool.not_eq_false',Bool.not_eq_true,Bool.not_eq_false]at Hb
 refine Mt [vi 14] fun bs w hS=>?_
 clear bu sK
 refine⟨?_,hS.kp⟩
 simp only[bO,den,List.map_cons,List.map_nil]
 have hf:b9 (s.xs.map ae.abs) i=14:=by
   have ql:(s.at i).line.n=j:=by omega
   have gI:bE (dy (s.at i).abs) (s.at i).line.n=true:=by rw[ql];cases hq:bE (dy (s.at i).abs) j<;>simp_all
   have rD:cp (s.at i).abs=true:=gG gI (by show (s.at i).line.n≤3;omega) (by show ¬(s.at i).ar=0∨(s.at i).line.n=0;omega)
   grind[b9]
 rw[hI,aI (by omega) hf (by omega)]
theorem nz (x:aa)(w:World)(hx:aJ.sub B w x)(hb:0≤x.aC∧x.aC≤1048576):Calls prog 91 #[x.val] w fun e w'=>e=.returned (vb (a9 x.abs))∧Kp [] w w':=by
 have cC:=aJ.bL hx
 have mr:=Sl.ok.nc cC
 have iW:x.ab.n=x.ab.xs.length:=rfl
 have fg: ∀q,x.abs.ab.getD q dd=x.ab.at q:=fun _=>rfl
 have vO:x.abs.aC=x.aC:=rfl
 have mh:x.abs.ab.length=x.ab.n:=rfl
 refine M0 ?_ func91
 refine Ml (σ:=Nat) (fun i=>i≤x.ab.n∧bE (mZ x.abs) i=true) (fun i=>x.ab.n - i) (fun _=>[]) [9,8,7,1] (fun i=>[(9,vI (i:Int))]) (fun _=>[]) ?_ 0 ⟨Nat.zero_le _,rfl⟩
 rintro i ⟨hi,hI⟩ _ bu
 refine Md ((i:Int)<(x.ab.n:Int)) (fun h1=>?_) fun h1=>?_
 rotate_left
 ·have hm:a9 x.abs=true:=by show bE _ x.abs.ab.length=true;rw[mh,show x.ab.n=i by omega];exact hI
  exact o4 true hm
 refine Mi ?_ (pA 12 13 (i:Int) i (s:=x.ab) (fun w hk hr=>(aJ.kp hx hk)))
 refine cZ 29 [] [] [] ai ?_
 refine Md ((x.ab.at i).seq≤x.aC) (fun h2=>?_) fun h2=>?_
 ·have hm:a9 x.abs=false:=cJ (j:=i) (decide_eq_false (fun hk=>by simp only[fg,vO]at hk;omega)) (show i<x.abs.ab.length by rw[mh];omega)
  exact o4 false hm
 refine bY ?_ (pR (x.aC+4))
 refine Md (x.aC+4<(x.ab.at i).seq) (fun h3=>?_) fun h3=>?_
 ·have hm:a9 x.abs=false:=cJ (j:=i) (decide_eq_false (fun hk=>by simp only[fg,vO]at hk;omega)) (show i<x.abs.ab.length by rw[mh];omega)
  exact o4 false hm
 refine Md ((0:Int)<(i:Int)) (fun h4=>?_) fun h4=>?_
 rotate_left
 ·refine Md ((x.ab.at i).aE.code<0) (fun g7=>?_) fun g7=>?_
  ·have hm:a9 x.abs=false:=cJ (j:=i) (decide_eq_false (fun hk=>by simp only[fg,vO]at hk;omega)) (show i<x.abs.ab.length by rw[mh];omega)
   exact o4 false hm
  refine Md ((15:Int)<(x.ab.at i).aE.code) (fun jW=>?_) fun jW=>?_
  ·have hm:a9 x.abs=false:=cJ (j:=i) (decide_eq_false (fun hk=>by simp only[fg,vO]at hk;omega)) (show i<x.abs.ab.length by rw[mh];omega)
   exact o4 false hm
  refine Md ((x.ab.at i).aE.n<0) (fun k7=>?_) fun k7=>?_
  ·have hm:a9 x.abs=false:=cJ (j:=i) (decide_eq_false (fun hk=>by simp only[fg,vO]at hk;omega)) (show i<x.abs.ab.length by rw[mh];omega)
   exact o4 false hm
  refine Md ((1073741824:Int)<(x.ab.at i).aE.n) (fun mo=>?_) fun mo=>?_
  ·have hm:a9 x.abs=false:=cJ (j:=i) (decide_eq_false (fun hk=>by simp only[fg,vO]at hk;omega)) (show i<x.abs.ab.length by rw[mh];omega)
   exact o4 false hm
  refine Md ((12:Int)<((x.ab.at i).aE.text.size:Int)) (fun pr=>?_) fun pr=>?_
  rotate_left
  ·refine Mi ?_ (pR ((i:Int)+1))
   exact bu (i+1) ⟨by omega,lI hI (decide_eq_true (by simp only[fg,vO];exact⟨by omega,by omega,by omega,by omega,by omega,by omega,by omega,by omega⟩))⟩ (by omega)
  have hm:a9 x.abs=false:=cJ (j:=i) (decide_eq_false (fun hk=>by simp only[fg,vO]at hk;omega)) (show i<x.abs.ab.length by rw[mh];omega)
  exact o4 false hm
 refine bY ?_ (pc (pR ((i:Int) - 1)) (pc (pI 35 ((i:Int) - 1) (i - 1) (s:=x.ab) (fun w hk hr=>(aJ.kp hx hk))) (pF 37 (i - 1) 0 1 (s:=x.ab) (fun w hk hr=>(aJ.kp hx hk)))))
 refine Md ((x.ab.at i).seq≤(x.ab.at (i - 1)).seq) (fun h5=>?_) fun h5=>?_
 ·have hm:a9 x.abs=false:=cJ (j:=i) (decide_eq_false (fun hk=>by simp only[fg,vO]at hk;omega)) (show i<x.abs.ab.length by rw[mh];omega)
  exact o4 false hm
 refine Md ((x.ab.at i).aE.code<0) (fun h6=>?_) fun h6=>?_
 ·have hm:a9 x.abs=false:=cJ (j:=i) (decide_eq_false (fun hk=>by simp only[fg,vO]at hk;omega)) (show i<x.abs.ab.length by rw[mh];omega)
  exact o4 false hm
 refine Md ((15:Int)<(x.ab.at i).aE.code) (fun h7=>?_) fun h7=>?_
 ·have hm:a9 x.abs=false:=cJ (j:=i) (decide_eq_false (fun hk=>by simp only[fg,vO]at hk;omega)) (show i<x.abs.ab.length by rw[mh];omega)
  exact o4 false hm
 refine Md ((x.ab.at i).aE.n<0) (fun h8=>?_) fun h8=>?_
 ·have hm:a9 x.abs=false:=cJ (j:=i) (decide_eq_false (fun hk=>by simp only[fg,vO]at hk;omega)) (show i<x.abs.ab.length by rw[mh];omega)
  exact o4 false hm
 refine Md ((1073741824:Int)<(x.ab.at i).aE.n) (fun h9=>?_) fun h9=>?_
 ·have hm:a9 x.abs=false:=cJ (j:=i) (decide_eq_false (fun hk=>by simp only[fg,vO]at hk;omega)) (show i<x.abs.ab.length by rw[mh];omega)
  exact o4 false hm
 refine Md ((12:Int)<((x.ab.at i).aE.text.size:Int)) (fun ir=>?_) fun ir=>?_
 rotate_left
 ·refine Mi ?_ (pR ((i:Int)+1))
  exact bu (i+1) ⟨by omega,lI hI (decide_eq_true (by simp only[fg,vO];exact⟨by omega,by omega,by omega,by omega,by omega,by omega,by omega,by omega⟩))⟩ (by omega)
 have hm:a9 x.abs=false:=cJ (j:=i) (decide_eq_false (fun hk=>by simp only[fg,vO]at hk;omega)) (show i<x.abs.ab.length by rw[mh];omega)
 exact o4 false hm
theorem lR (x:aa)(w:World)(hx:aJ.sub B w x)(hb:0≤x.aC∧x.aC≤1048576):Calls prog 108 #[x.val] w fun e w'=>e=.returned (vb (a9 x.abs))∧Kp [] w w':=by
 have cC:=aJ.bL hx
 have mr:=Sl.ok.nc cC
 have iW:x.ab.n=x.ab.xs.length:=rfl
 have fg: ∀q,x.abs.ab.getD q dd=x.ab.at q:=fun _=>rfl
 have vO:x.abs.aC=x.aC:=rfl
 have mh:x.abs.ab.length=x.ab.n:=rfl
 refine M0 ?_ func108
 refine Ml (σ:=Nat×Int) (fun⟨i,la⟩=>i≤x.ab.n∧bE (mZ x.abs) i=true∧x.aC≤la∧la≤x.aC+4∧(i=0→la=x.aC)∧(0<i→la=(x.ab.at (i - 1)).seq)) (fun⟨i,la⟩=>x.ab.n - i) (fun _=>[]) [4,3,1] (fun⟨i,la⟩=>[(4,vI (i:Int)),(3,vI la)]) (fun _=>[]) ?_ (⟨0,x.aC⟩) ⟨Nat.zero_le _,rfl,by omega,by omega,fun _=>rfl,fun h=>absurd h (by omega)⟩
 rintro⟨i,la⟩ ⟨hi,hI,KX,QU,Se,Sf⟩ _ bu
 have hz:i=0∧la=x.aC∨0<i∧la=(x.ab.at (i - 1)).seq:=by rcases Nat.eq_zero_or_pos i with h|h;exact .inl ⟨h,Se h⟩;exact .inr ⟨h,Sf h⟩
 refine Md ((i:Int)<(x.ab.n:Int)) (fun h1=>?_) fun h1=>?_
 rotate_left
 ·have hm:a9 x.abs=true:=by show bE _ x.abs.ab.length=true;rw[mh,show x.ab.n=i by omega];exact hI
  exact o4 true hm
 refine Mi ?_ (pc (pA 18 19 (i:Int) i (s:=x.ab) (fun w hk hr=>(aJ.kp hx hk))) (pc (pR (la+1)) (pR (x.aC+4))))
 refine Mp ?_ call51 (fun bs w hS=>b6 (x.ab.at i).seq (la+1) (x.aC+4) w)
 refine fL (gk (x.ab.at i).seq (la+1) (x.aC+4)) (fun h2=>?_) fun h2=>?_
 rotate_left
 ·simp only[iT,iF]at h2
  have hm:a9 x.abs=false:=cJ (j:=i) (decide_eq_false (fun hk=>by simp only[fg,vO]at hk;omega)) (show i<x.abs.ab.length by rw[mh];omega)
  exact o4 false hm
 simp only[iT,iF]at h2
 refine Mp ?_ call51 (fun bs w hS=>b6 (x.ab.at i).aE.code 0 15 w)
 refine fL (gk (x.ab.at i).aE.code 0 15) (fun h3=>?_) fun h3=>?_
 rotate_left
 ·simp only[iT,iF]at h3
  have hm:a9 x.abs=false:=cJ (j:=i) (decide_eq_false (fun hk=>by simp only[fg,vO]at hk;omega)) (show i<x.abs.ab.length by rw[mh];omega)
  exact o4 false hm
 simp only[iT,iF]at h3
 refine Mp ?_ call51 (fun bs w hS=>b6 (x.ab.at i).aE.n 0 1073741824 w)
 refine fL (gk (x.ab.at i).aE.n 0 1073741824) (fun h4=>?_) fun h4=>?_
 rotate_left
 ·simp only[iT,iF]at h4
  have hm:a9 x.abs=false:=cJ (j:=i) (decide_eq_false (fun hk=>by simp only[fg,vO]at hk;omega)) (show i<x.abs.ab.length by rw[mh];omega)
  exact o4 false hm
 simp only[iT,iF]at h4
 refine Md ((12:Int)<((x.ab.at i).aE.text.size:Int)) (fun h5=>?_) fun h5=>?_
 ·have hm:a9 x.abs=false:=cJ (j:=i) (decide_eq_false (fun hk=>by simp only[fg,vO]at hk;omega)) (show i<x.abs.ab.length by rw[mh];omega)
  exact o4 false hm
 refine Mi ?_ (pR ((i:Int)+1))
 exact bu ⟨i+1,(x.ab.at i).seq⟩ ⟨by omega,lI hI (decide_eq_true (by simp only[fg,vO];exact⟨by omega,by omega,by omega,by omega,by omega,by omega,by omega,by omega⟩)),by omega,by omega,fun h=>absurd h (by omega),fun _=>rfl⟩ (by show x.ab.n - (i+1)<x.ab.n - i;omega)
theorem gV (s:Sl aa)(n:Int)(w:World)(hs:s.rd B w):Calls prog 63 #[s.val,vi n] w fun e w'=>e=.returned (vi (bC (s.xs.map aa.abs) n))∧Kp [] w w':=by
 have cV:=Sl.rd.ok hs
 have iV:=Sl.ok.nc cV
 have iW:s.n=s.xs.length:=rfl
 have fg: ∀q,(s.xs.map aa.abs).getD q dd=(s.at q).abs:=fun q=>lb q
 have Nw: ∀q,(s.at q).abs.ag=(s.at q).ag:=fun _=>rfl
 have lQ: ∀q,(s.at q).abs.id=(s.at q).id:=fun _=>rfl
 have kN: ∀q,(s.at q).abs.aC=(s.at q).aC:=fun _=>rfl
 have nh: ∀q,(s.at q).abs.last=(s.at q).last:=fun _=>rfl
 have tB:(s.xs.map aa.abs).length=s.n:=by simp
 refine M0 ?_ func63
 refine Md (n<0) (fun h1=>?_) fun h1=>?_
 ·have hm:bC (s.xs.map aa.abs) n=2:=by
    unfold bC;rw[tB]
    first|rw[if_pos (by omega)]|rw[if_neg (by omega),if_pos (by omega)]
  exact cd 2 hm
 refine Md ((1073741824:Int)<n) (fun h2=>?_) fun h2=>?_
 ·have hm:bC (s.xs.map aa.abs) n=2:=by
    unfold bC;rw[tB]
    first|rw[if_pos (by omega)]|rw[if_neg (by omega),if_pos (by omega)]
  exact cd 2 hm
 refine Md ((4:Int)<(s.n:Int)) (fun h3=>?_) fun h3=>?_
 ·have hm:bC (s.xs.map aa.abs) n=1:=by
    unfold bC;rw[tB]
    first|rw[if_pos (by omega)]|rw[if_neg (by omega),if_pos (by omega)]
  exact cd 1 hm
 refine Ml (σ:=Nat) (fun i=>i≤s.n∧bC (s.xs.map aa.abs) n=ek (da (s.xs.map aa.abs) n) (s.n - i) i) (fun i=>s.n - i) (fun _=>[]) [18,17,16,0,1] (fun i=>[(18,vI (i:Int))]) (fun _=>[]) ?_ 0 ⟨Nat.zero_le _,by unfold bC;rw[tB,if_neg (by omega),if_neg (by omega)]⟩
 rintro i ⟨hi,hI⟩ _ bu
 refine Md ((i:Int)<(s.n:Int)) (fun h4=>?_) fun h4=>?_
 rotate_left
 ·exact cd 0 (by rw[hI,eX (by omega)])
 refine Mi ?_ (pA 21 22 (i:Int) i (db hs))
 refine Md ((s.at i).ag<1) (fun h5=>?_) fun h5=>?_
 ·refine cd 2 ?_
  have hf:da (s.xs.map aa.abs) n i=2:=by
    grind[da]
  rw[hI,aI (by omega) hf (by omega)]
 refine Md ((9:Int)<(s.at i).ag) (fun h6=>?_) fun h6=>?_
 ·refine cd 2 ?_
  have hf:da (s.xs.map aa.abs) n i=2:=by
    grind[da]
  rw[hI,aI (by omega) hf (by omega)]
 refine Md ((s.at i).aC<0) (fun h7=>?_) fun h7=>?_
 ·refine cd 2 ?_
  have hf:da (s.xs.map aa.abs) n i=2:=by
    grind[da]
  rw[hI,aI (by omega) hf (by omega)]
 refine Md ((1048576:Int)<(s.at i).aC) (fun h8=>?_) fun h8=>?_
 ·refine cd 2 ?_
  have hf:da (s.xs.map aa.abs) n i=2:=by
    grind[da]
  rw[hI,aI (by omega) hf (by omega)]
 refine Md ((s.at i).id<1) (fun h9=>?_) fun h9=>?_
 ·refine cd 2 ?_
  have hf:da (s.xs.map aa.abs) n i=2:=by
    grind[da]
  rw[hI,aI (by omega) hf (by omega)]
 refine Md ((s.at i).last<(s.at i).id) (fun ir=>?_) fun ir=>?_
 ·refine cd 2 ?_
  have hf:da (s.xs.map aa.abs) n i=2:=by
    grind[da]
  rw[hI,aI (by omega) hf (by omega)]
 refine Md (n<(s.at i).last) (fun g7=>?_) fun g7=>?_
 ·refine cd 2 ?_
  have hf:da (s.xs.map aa.abs) n i=2:=by
    grind[da]
  rw[hI,aI (by omega) hf (by omega)]
 refine Mp ?_ call91 (fun bs w hS=>nz (s.at i) w (Sl.rd.sub (s:=s) (i:=i) (Sl.rd.kp hs hS.kp) (by omega)) (by first|exact⟨by omega,by omega⟩|(simp only[] at*;exact⟨by omega,by omega⟩)))
 refine fL (a9 (s.at i).abs) (fun jW=>?_) fun jW=>?_
 rotate_left
 ·refine cd 4 ?_
  have hf:da (s.xs.map aa.abs) n i=4:=by
    grind[da]
  rw[hI,aI (by omega) hf (by omega)]
 refine cZ 13 [] [] [] ai ?_
 refine Md ((0:Int)<(i:Int)) (fun k7=>?_) fun k7=>?_
 rotate_left
 ·refine Mi ?_ (pR ((i:Int)+1))
  have kT:da (s.xs.map aa.abs) n i=0:=by
    grind[da]
  exact bu (i+1) ⟨by omega,by rw[hI];exact bN (by omega) kT⟩ (by omega)
 refine bY ?_ (pc (pR ((i:Int) - 1)) (pc (pI 68 ((i:Int) - 1) (i - 1) (db hs)) (pF 70 (i - 1) 0 1 (db hs))))
 refine Md ((s.at i).ag≤(s.at (i - 1)).ag) (fun mo=>?_) fun mo=>?_
 rotate_left
 ·refine Mi ?_ (pR ((i:Int)+1))
  have kT:da (s.xs.map aa.abs) n i=0:=by
    grind[da]
  exact bu (i+1) ⟨by omega,by rw[hI];exact bN (by omega) kT⟩ (by omega)
 refine cd 14 ?_
 have hf:da (s.xs.map aa.abs) n i=14:=by
   grind[da]
 rw[hI,aI (by omega) hf (by omega)]
theorem eV (s:Sl aa)(n:Int)(w:World)(hs:s.rd B w):Calls prog 92 #[s.val,vi n] w fun e w'=>e=.returned (vi (bC (s.xs.map aa.abs) n))∧Kp [] w w':=by
 have cV:=Sl.rd.ok hs
 have iV:=Sl.ok.nc cV
 have iW:s.n=s.xs.length:=rfl
 have fg: ∀q,(s.xs.map aa.abs).getD q dd=(s.at q).abs:=fun q=>lb q
 have Nw: ∀q,(s.at q).abs.ag=(s.at q).ag:=fun _=>rfl
 have lQ: ∀q,(s.at q).abs.id=(s.at q).id:=fun _=>rfl
 have kN: ∀q,(s.at q).abs.aC=(s.at q).aC:=fun _=>rfl
 have nh: ∀q,(s.at q).abs.last=(s.at q).last:=fun _=>rfl
 have tB:(s.xs.map aa.abs).length=s.n:=by simp
 refine M0 ?_ func92
 refine Mp ?_ call51 (fun bs w hS=>b6 n 0 1073741824 w)
 refine fL (gk n 0 1073741824) (fun h1=>?_) fun h1=>?_
 rotate_left
 ·simp only[iT,iF]at h1
  have hm:bC (s.xs.map aa.abs) n=2:=by
    unfold bC;rw[tB]
    first|rw[if_pos (by omega)]|rw[if_neg (by omega),if_pos (by omega)]
  exact cd 2 hm
 simp only[iT,iF]at h1
 refine Md ((4:Int)<(s.n:Int)) (fun h2=>?_) fun h2=>?_
 ·have hm:bC (s.xs.map aa.abs) n=1:=by
    unfold bC;rw[tB]
    first|rw[if_pos (by omega)]|rw[if_neg (by omega),if_pos (by omega)]
  exact cd 1 hm
 refine Ml (σ:=Nat) (fun i=>i≤s.n∧bC (s.xs.map aa.abs) n=ek (da (s.xs.map aa.abs) n) (s.n - i) i) (fun i=>s.n - i) (fun _=>[]) [5,0,1] (fun i=>[(5,vI (i:Int))]) (fun _=>[]) ?_ 0 ⟨Nat.zero_le _,by unfold bC;rw[tB,if_neg (by omega),if_neg (by omega)]⟩
 rintro i ⟨hi,hI⟩ _ bu
 refine Md ((i:Int)<(s.n:Int)) (fun h3=>?_) fun h3=>?_
 rotate_left
 ·exact cd 0 (by rw[hI,eX (by omega)])
 refine Mi ?_ (pA 21 22 (i:Int) i (db hs))
 refine Mp ?_ call51 (fun bs w hS=>b6 (s.at i).ag 1 9 w)
 refine fL (gk (s.at i).ag 1 9) (fun h4=>?_) fun h4=>?_
 rotate_left
 ·simp only[iT,iF]at h4
  refine cd 2 ?_
  have hf:da (s.xs.map aa.abs) n i=2:=by
    grind[da]
  rw[hI,aI (by omega) hf (by omega)]
 simp only[iT,iF]at h4
 refine Mp ?_ call51 (fun bs w hS=>b6 (s.at i).aC 0 1048576 w)
 refine fL (gk (s.at i).aC 0 1048576) (fun h5=>?_) fun h5=>?_
 rotate_left
 ·simp only[iT,iF]at h5
  refine cd 2 ?_
  have hf:da (s.xs.map aa.abs) n i=2:=by
    grind[da]
  rw[hI,aI (by omega) hf (by omega)]
 simp only[iT,iF]at h5
 refine Mp ?_ call51 (fun bs w hS=>b6 (s.at i).id 1 n w)
 refine fL (gk (s.at i).id 1 n) (fun h6=>?_) fun h6=>?_
 rotate_left
 ·simp only[iT,iF]at h6
  refine cd 2 ?_
  have hf:da (s.xs.map aa.abs) n i=2:=by
    grind[da]
  rw[hI,aI (by omega) hf (by omega)]
 simp only[iT,iF]at h6
 refine Mp ?_ call51 (fun bs w hS=>b6 (s.at i).last (s.at i).id n w)
 refine fL (gk (s.at i).last (s.at i).id n) (fun h7=>?_) fun h7=>?_
 rotate_left
 ·simp only[iT,iF]at h7
  refine cd 2 ?_
  have hf:da (s.xs.map aa.abs) n i=2:=by
    grind[da]
  rw[hI,aI (by omega) hf (by omega)]
 simp only[iT,iF]at h7
 refine Mp ?_ call108 (fun bs w hS=>lR (s.at i) w (Sl.rd.sub (s:=s) (i:=i) (Sl.rd.kp hs hS.kp) (by omega)) (by first|exact⟨by omega,by omega⟩|(simp only[] at*;exact⟨by omega,by omega⟩)))
 refine fL (a9 (s.at i).abs) (fun h8=>?_) fun h8=>?_
 rotate_left
 ·refine cd 4 ?_
  have hf:da (s.xs.map aa.abs) n i=4:=by
    grind[da]
  rw[hI,aI (by omega) hf (by omega)]
 refine cZ 13 [] [] [] ai ?_
 refine Md ((0:Int)<(i:Int)) (fun h9=>?_) fun h9=>?_
 rotate_left
 ·refine Mi ?_ (pR ((i:Int)+1))
  have kT:da (s.xs.map aa.abs) n i=0:=by
    grind[da]
  exact bu (i+1) ⟨by omega,by rw[hI];exact bN (by omega) kT⟩ (by omega)
 refine bY ?_ (pc (pR ((i:Int) - 1)) (pc (pI 60 ((i:Int) - 1) (i - 1) (db hs)) (pF 62 (i - 1) 0 1 (db hs))))
 refine Md ((s.at i).ag≤(s.at (i - 1)).ag) (fun ir=>?_) fun ir=>?_
 rotate_left
 ·refine Mi ?_ (pR ((i:Int)+1))
  have kT:da (s.xs.map aa.abs) n i=0:=by
    grind[da]
  exact bu (i+1) ⟨by omega,by rw[hI];exact bN (by omega) kT⟩ (by omega)
 refine cd 14 ?_
 have hf:da (s.xs.map aa.abs) n i=14:=by
   grind[da]
 rw[hI,aI (by omega) hf (by omega)]
theorem pW (s:Sl aG)(w:World)(hs:s.rd B w):Calls prog 65 #[s.val] w fun e w'=>e=.returned (vi (cy s.xs))∧Kp [] w w':=by
 have cV:=Sl.rd.ok hs
 have iV:=Sl.ok.nc cV
 have iW:s.n=s.xs.length:=rfl
 refine M0 ?_ func65
 refine Md ((5:Int)<(s.n:Int)) (fun h1=>?_) fun h1=>?_
 ·have hm:cy s.xs=1:=by
    unfold cy;rw[if_pos (by omega)]
  exact cd 1 hm
 refine Ml (σ:=Nat) (fun i=>i≤s.n∧cy s.xs=ek (fj s.xs) (s.n - i) i) (fun i=>s.n - i) (fun _=>[]) [10,9,8,0] (fun i=>[(10,vI (i:Int))]) (fun _=>[]) ?_ 0 ⟨Nat.zero_le _,by unfold cy;rw[if_neg (by omega)]⟩
 rintro i ⟨hi,hI⟩ _ bu
 have dX:=hi
 refine Md ((i:Int)<(s.n:Int)) (fun h2=>?_) fun h2=>?_
 rotate_left
 ·exact cd 0 (by rw[hI,eX (by omega)])
 refine Mi ?_ (pA 13 14 (i:Int) i (db hs))
 refine Mp ?_ call129 (fun bs w hS=>mQ _ w (Sl.ok.at (s:=s) (i:=i) cV (by omega)).1)
 refine fL (ee (s.at i).name) (fun h3=>?_) fun h3=>?_
 rotate_left
 ·refine cd 4 ?_
  have hf:fj s.xs i=4:=by
    have fg: ∀q,s.xs.getD q dd=s.at q:=fun _=>rfl
    grind[fj]
  rw[hI,aI (by omega) hf (by omega)]
 refine Md ((12:Int)<((s.at i).value.size:Int)) (fun h4=>?_) fun h4=>?_
 ·refine cd 1 ?_
  have hf:fj s.xs i=1:=by
    have fg: ∀q,s.xs.getD q dd=s.at q:=fun _=>rfl
    grind[fj]
  rw[hI,aI (by omega) hf (by omega)]
 refine Md ((s.at i).version<1) (fun h5=>?_) fun h5=>?_
 ·refine cd 2 ?_
  have hf:fj s.xs i=2:=by
    have fg: ∀q,s.xs.getD q dd=s.at q:=fun _=>rfl
    grind[fj]
  rw[hI,aI (by omega) hf (by omega)]
 refine Md ((1073741824:Int)<(s.at i).version) (fun h6=>?_) fun h6=>?_
 ·refine cd 2 ?_
  have hf:fj s.xs i=2:=by
    have fg: ∀q,s.xs.getD q dd=s.at q:=fun _=>rfl
    grind[fj]
  rw[hI,aI (by omega) hf (by omega)]
 refine cZ 13 [] [] [] ai ?_
 refine Md ((0:Int)<(i:Int)) (fun h7=>?_) fun h7=>?_
 rotate_left
 ·refine Mi ?_ (pR ((i:Int)+1))
  have kT:fj s.xs i=0:=by
    have fg: ∀q,s.xs.getD q dd=s.at q:=fun _=>rfl
    grind[fj]
  exact bu (i+1) ⟨by omega,by rw[hI];exact bN (by omega) kT⟩ (by omega)
 refine bY ?_ (pc (pR ((i:Int) - 1)) (pc (pI 37 ((i:Int) - 1) (i - 1) (db hs)) (pF 39 (i - 1) 0 1 (db hs))))
 refine fL (Op.bytesLess ((s.at (i - 1)).name).toList ((s.at i).name).toList) (fun h8=>?_) fun h8=>?_
 ·refine Mi ?_ (pR ((i:Int)+1))
  have kT:fj s.xs i=0:=by
    have fg: ∀q,s.xs.getD q dd=s.at q:=fun _=>rfl
    grind[fj]
  exact bu (i+1) ⟨by omega,by rw[hI];exact bN (by omega) kT⟩ (by omega)
 refine cd 14 ?_
 have hf:fj s.xs i=14:=by
   have fg: ∀q,s.xs.getD q dd=s.at q:=fun _=>rfl
   grind[fj]
 rw[hI,aI (by omega) hf (by omega)]
theorem lS (s:Sl aG)(w:World)(hs:s.rd B w):Calls prog 94 #[s.val] w fun e w'=>e=.returned (vi (cy s.xs))∧Kp [] w w':=by
 have cV:=Sl.rd.ok hs
 have iV:=Sl.ok.nc cV
 have iW:s.n=s.xs.length:=rfl
 refine M0 ?_ func94
 refine Md ((5:Int)<(s.n:Int)) (fun h1=>?_) fun h1=>?_
 ·have hm:cy s.xs=1:=by
    unfold cy;rw[if_pos (by omega)]
  exact cd 1 hm
 refine Ml (σ:=Nat) (fun i=>i≤s.n∧cy s.xs=ek (fj s.xs) (s.n - i) i) (fun i=>s.n - i) (fun _=>[]) [3,0] (fun i=>[(3,vI (i:Int))]) (fun _=>[]) ?_ 0 ⟨Nat.zero_le _,by unfold cy;rw[if_neg (by omega)]⟩
 rintro i ⟨hi,hI⟩ _ bu
 have dX:=hi
 refine Md ((i:Int)<(s.n:Int)) (fun h2=>?_) fun h2=>?_
 rotate_left
 ·exact cd 0 (by rw[hI,eX (by omega)])
 refine Mi ?_ (pc (pI 15 (i:Int) i (db hs)) (pF 17 i 0 1 (db hs)))
 refine Mp ?_ call107 (fun bs w hS=>kL _ w (Sl.ok.at (s:=s) (i:=i) cV (by omega)).1)
 refine fL (ee (s.at i).name) (fun h3=>?_) fun h3=>?_
 rotate_left
 ·refine cd 4 ?_
  have hf:fj s.xs i=4:=by
    have fg: ∀q,s.xs.getD q dd=s.at q:=fun _=>rfl
    grind[fj]
  rw[hI,aI (by omega) hf (by omega)]
 refine Mi ?_ (pc (pI 22 (i:Int) i (db hs)) (pF 24 i 1 1 (db hs)))
 refine Md ((12:Int)<((s.at i).value.size:Int)) (fun h4=>?_) fun h4=>?_
 ·refine cd 1 ?_
  have hf:fj s.xs i=1:=by
    have fg: ∀q,s.xs.getD q dd=s.at q:=fun _=>rfl
    grind[fj]
  rw[hI,aI (by omega) hf (by omega)]
 refine Mi ?_ (pc (pI 29 (i:Int) i (db hs)) (pF 31 i 2 1 (db hs)))
 refine Mp ?_ call51 (fun bs w hS=>b6 (s.at i).version 1 1073741824 w)
 refine fL (gk (s.at i).version 1 1073741824) (fun h5=>?_) fun h5=>?_
 rotate_left
 ·simp only[iT,iF]at h5
  refine cd 2 ?_
  have hf:fj s.xs i=2:=by
    have fg: ∀q,s.xs.getD q dd=s.at q:=fun _=>rfl
    grind[fj]
  rw[hI,aI (by omega) hf (by omega)]
 simp only[iT,iF]at h5
 refine cZ 16 [] [] [] ai ?_
 refine Md ((0:Int)<(i:Int)) (fun h6=>?_) fun h6=>?_
 rotate_left
 ·refine Mi ?_ (pR ((i:Int)+1))
  have kT:fj s.xs i=0:=by
    have fg: ∀q,s.xs.getD q dd=s.at q:=fun _=>rfl
    grind[fj]
  exact bu (i+1) ⟨by omega,by rw[hI];exact bN (by omega) kT⟩ (by omega)
 refine bY ?_ (pc (pI 39 (i:Int) i (db hs)) (pc (pF 41 i 0 1 (db hs)) (pc (pR ((i:Int) - 1)) (pc (pI 45 ((i:Int) - 1) (i - 1) (db hs)) (pF 47 (i - 1) 0 1 (db hs))))))
 refine Mb (Op.bytesLess ((s.at i).name).toList ((s.at (i - 1)).name).toList||decide ((s.at i).name=(s.at (i - 1)).name)) (fun h7=>?_) fun h7=>?_
 rotate_left
 ·rw[bytes_total]at h7
  simp only[Bool.not_eq_true',Bool.not_eq_false',Bool.not_eq_true,Bool.not_eq_false]at h7
  refine Mi ?_ (pR ((i:Int)+1))
  have kT:fj s.xs i=0:=by
    have fg: ∀q,s.xs.getD q dd=s.at q:=fun _=>rfl
    grind[fj]
  exact bu (i+1) ⟨by omega,by rw[hI];exact bN (by omega) kT⟩ (by omega)
 rw[bytes_total]at h7
 simp only[Bool.not_eq_true',Bool.not_eq_false',Bool.not_eq_true,Bool.not_eq_false]at h7
 refine cd 14 ?_
 have hf:fj s.xs i=14:=by
   have fg: ∀q,s.xs.getD q dd=s.at q:=fun _=>rfl
   grind[fj]
 rw[hI,aI (by omega) hf (by omega)]
theorem kt (x:aN)(w:World)(hx:aJ.sub B w x):Calls prog 20 #[x.val] w fun e w'=>e=.returned (vi (bA x.abs))∧Kp [] w w':=by
 have cC:=aJ.bL hx
 refine M0 ?_ func20
 refine Mp ?_ call63 (fun bs w hS=>gV x.af x.index w (aJ.kp hx hS.kp).2.2)
 refine cr (bC (x.af.xs.map aa.abs) x.index=0) (fun h1=>?_) fun h1=>?_
 rotate_left
 ·have hm:bA x.abs=bC (x.af.xs.map aa.abs) x.index:=by
    have q1:x.abs.af=x.af.xs.map aa.abs:=rfl
    have q2:x.abs.aj=x.aj.xs.map ae.abs:=rfl
    have q3:x.abs.an=x.an.xs:=rfl
    have q4:x.abs.index=x.index:=rfl
    grind[bA]
  exact cd (bC (x.af.xs.map aa.abs) x.index) hm
 refine Mp ?_ call64 (fun bs w hS=>ng x.aj w (aJ.kp hx hS.kp).1)
 refine cr (bB (x.aj.xs.map ae.abs)=0) (fun h2=>?_) fun h2=>?_
 rotate_left
 ·have hm:bA x.abs=bB (x.aj.xs.map ae.abs):=by
    have q1:x.abs.af=x.af.xs.map aa.abs:=rfl
    have q2:x.abs.aj=x.aj.xs.map ae.abs:=rfl
    have q3:x.abs.an=x.an.xs:=rfl
    have q4:x.abs.index=x.index:=rfl
    grind[bA]
  exact cd (bB (x.aj.xs.map ae.abs)) hm
 refine Mp ?_ call65 (fun bs w hS=>pW x.an w (aJ.kp hx hS.kp).2.1)
 have hm:bA x.abs=cy x.an.xs:=by
   have q1:x.abs.af=x.af.xs.map aa.abs:=rfl
   have q2:x.abs.aj=x.aj.xs.map ae.abs:=rfl
   have q3:x.abs.an=x.an.xs:=rfl
   have q4:x.abs.index=x.index:=rfl
   grind[bA]
 exact cd (cy x.an.xs) hm
theorem jR (x:aN)(w:World)(hx:aJ.sub B w x):Calls prog 30 #[x.val] w fun e w'=>e=.returned (vi (bA x.abs))∧Kp [] w w':=by
 have cC:=aJ.bL hx
 refine M0 ?_ func30
 refine Mp ?_ call92 (fun bs w hS=>eV x.af x.index w (aJ.kp hx hS.kp).2.2)
 refine Md (bC (x.af.xs.map aa.abs) x.index=0) (fun h1=>?_) fun h1=>?_
 rotate_left
 ·refine My false false ?_ (df h1)
  have hm:bA x.abs=bC (x.af.xs.map aa.abs) x.index:=by
    have q1:x.abs.af=x.af.xs.map aa.abs:=rfl
    have q2:x.abs.aj=x.aj.xs.map ae.abs:=rfl
    have q3:x.abs.an=x.an.xs:=rfl
    have q4:x.abs.index=x.index:=rfl
    grind[bA]
  exact cd (bC (x.af.xs.map aa.abs) x.index) hm
 refine Mp ?_ call93 (fun bs w hS=>jQ x.aj w (aJ.kp hx hS.kp).1)
 refine Md (bB (x.aj.xs.map ae.abs)=0) (fun h2=>?_) fun h2=>?_
 rotate_left
 ·have hm:bA x.abs=bB (x.aj.xs.map ae.abs):=by
    have q1:x.abs.af=x.af.xs.map aa.abs:=rfl
    have q2:x.abs.aj=x.aj.xs.map ae.abs:=rfl
    have q3:x.abs.an=x.an.xs:=rfl
    have q4:x.abs.index=x.index:=rfl
    grind[bA]
  exact cd (bB (x.aj.xs.map ae.abs)) hm
 refine Mp ?_ call94 (fun bs w hS=>lS x.an w (aJ.kp hx hS.kp).2.1)
 have hm:bA x.abs=cy x.an.xs:=by
   have q1:x.abs.af=x.af.xs.map aa.abs:=rfl
   have q2:x.abs.aj=x.aj.xs.map ae.abs:=rfl
   have q3:x.abs.an=x.an.xs:=rfl
   have q4:x.abs.index=x.index:=rfl
   grind[bA]
 exact cd (cy x.an.xs) hm
theorem o7 (x:dr)(w:World)(hx:aJ.sub B w x):Calls prog 110 #[x.val] w fun e w'=>e=.returned (vi (cT x.abs))∧Kp [] w w':=by
 have cC:=aJ.bL hx
 have mr:=Sl.ok.nc cC
 have mu:x.entries.n=x.entries.xs.length:=rfl
 have q1:x.abs.base=x.base:=rfl
 have q2:x.abs.entries=x.entries.xs:=rfl
 have fg: ∀q,x.entries.xs.getD q dd=x.entries.at q:=fun _=>rfl
 refine M0 ?_ func110
 refine Md (x.base<0) (fun h1=>?_) fun h1=>?_
 ·have hm:cT x.abs=2:=by
    unfold cT;rw[q1,q2]
    first|rw[if_pos (by omega)]|rw[if_neg (by omega),if_pos (by omega)]
  exact cd 2 hm
 refine Md ((1073741424:Int)<x.base) (fun h2=>?_) fun h2=>?_
 ·have hm:cT x.abs=2:=by
    unfold cT;rw[q1,q2]
    first|rw[if_pos (by omega)]|rw[if_neg (by omega),if_pos (by omega)]
  exact cd 2 hm
 refine Md ((400:Int)<(x.entries.n:Int)) (fun h3=>?_) fun h3=>?_
 ·have hm:cT x.abs=1:=by
    unfold cT;rw[q1,q2]
    first|rw[if_pos (by omega)]|rw[if_neg (by omega),if_pos (by omega)]
  exact cd 1 hm
 refine Ml (σ:=Nat) (fun i=>i≤x.entries.n∧cT x.abs=ek (uj x.entries.xs) (x.entries.n - i) i) (fun i=>x.entries.n - i) (fun _=>[]) [22,21,20] (fun i=>[(22,vI (i:Int))]) (fun _=>[]) ?_ 0 ⟨Nat.zero_le _,by unfold cT;rw[q1,q2,if_neg (by omega),if_neg (by omega)]⟩
 rintro i ⟨hi,hI⟩ _ bu
 refine Md ((i:Int)<(x.entries.n:Int)) (fun h4=>?_) fun h4=>?_
 rotate_left
 ·exact cd 0 (by rw[hI,eX (by omega)])
 refine Mi ?_ (pA 24 25 (i:Int) i (s:=x.entries) (fun w hk hr=>(aJ.kp hx hk)))
 refine Mp ?_ call21 (fun bs w hS=>ig (x.entries.at i) w (Sl.ok.at (s:=x.entries) (i:=i) cC (by omega)))
 refine cr ((aq (x.entries.at i)).2=0) (fun h5=>?_) fun h5=>?_
 ·refine Mi ?_ (pR ((i:Int)+1))
  have kT:uj x.entries.xs i=0:=by grind[uj]
  exact bu (i+1) ⟨by omega,by rw[hI];exact bN (by omega) kT⟩ (by omega)
 refine cd ((aq (x.entries.at i)).2) ?_
 have hf:uj x.entries.xs i=(aq (x.entries.at i)).2:=by unfold uj;rw[fg]
 rw[hI,aI (by omega) hf (by assumption)]
theorem lh (x:dr)(w:World)(hx:aJ.sub B w x):Calls prog 113 #[x.val] w fun e w'=>e=.returned (vi (cT x.abs))∧Kp [] w w':=by
 have cC:=aJ.bL hx
 have mr:=Sl.ok.nc cC
 have mu:x.entries.n=x.entries.xs.length:=rfl
 have q1:x.abs.base=x.base:=rfl
 have q2:x.abs.entries=x.entries.xs:=rfl
 have fg: ∀q,x.entries.xs.getD q dd=x.entries.at q:=fun _=>rfl
 refine M0 ?_ func113
 refine Mp ?_ call51 (fun bs w hS=>b6 x.base 0 1073741424 w)
 refine fL (gk x.base 0 1073741424) (fun h1=>?_) fun h1=>?_
 rotate_left
 ·simp only[iT,iF]at h1
  have hm:cT x.abs=2:=by
    unfold cT;rw[q1,q2]
    first|rw[if_pos (by omega)]|rw[if_neg (by omega),if_pos (by omega)]
  exact cd 2 hm
 simp only[iT,iF]at h1
 refine Md ((400:Int)<(x.entries.n:Int)) (fun h2=>?_) fun h2=>?_
 ·have hm:cT x.abs=1:=by
    unfold cT;rw[q1,q2]
    first|rw[if_pos (by omega)]|rw[if_neg (by omega),if_pos (by omega)]
  exact cd 1 hm
 refine Ml (σ:=Nat) (fun i=>i≤x.entries.n∧cT x.abs=ek (uj x.entries.xs) (x.entries.n - i) i) (fun i=>x.entries.n - i) (fun _=>[]) [3,1] (fun i=>[(3,vI (i:Int))]) (fun _=>[]) ?_ 0 ⟨Nat.zero_le _,by unfold cT;rw[q1,q2,if_neg (by omega),if_neg (by omega)]⟩
 rintro i ⟨hi,hI⟩ _ bu
 refine Md ((i:Int)<(x.entries.n:Int)) (fun h3=>?_) fun h3=>?_
 rotate_left
 ·exact cd 0 (by rw[hI,eX (by omega)])
 refine Mi ?_ (pA 25 26 (i:Int) i (s:=x.entries) (fun w hk hr=>(aJ.kp hx hk)))
 refine Mp ?_ call31 (fun bs w hS=>ks (x.entries.at i) w (Sl.ok.at (s:=x.entries) (i:=i) cC (by omega)))
 refine cr ((aq (x.entries.at i)).2=0) (fun h4=>?_) fun h4=>?_
 ·refine Mi ?_ (pR ((i:Int)+1))
  have kT:uj x.entries.xs i=0:=by grind[uj]
  exact bu (i+1) ⟨by omega,by rw[hI];exact bN (by omega) kT⟩ (by omega)
 refine cd ((aq (x.entries.at i)).2) ?_
 have hf:uj x.entries.xs i=(aq (x.entries.at i)).2:=by unfold uj;rw[fg]
 rw[hI,aI (by omega) hf (by assumption)]
theorem gQ (x:dr)(w:World)(hx:aJ.sub B w x)(hb:0≤x.base∧x.base≤1073741424∧x.entries.n≤1048576):Calls prog 49 #[x.val] w fun e w'=>e=.returned (vi (x.base+(x.entries.n:Int)))∧Kp [] w w':=by
 have cC:=aJ.bL hx
 have mr:=Sl.ok.nc cC
 have mu:x.entries.n=x.entries.xs.length:=rfl
 have q1:x.abs.base=x.base:=rfl
 have q2:x.abs.entries=x.entries.xs:=rfl
 have fg: ∀q,x.entries.xs.getD q dd=x.entries.at q:=fun _=>rfl
 refine M0 ?_ func49
 refine Mi ?_ (pR (x.base+(x.entries.n:Int)))
 exact Mt [vi (x.base+(x.entries.n:Int))] fun bs w hS=>⟨rfl,hS.kp⟩
theorem dD (x:dr)(w:World)(hx:aJ.sub B w x)(hb:0≤x.base∧x.base≤1073741424∧x.entries.n≤1048576):Calls prog 52 #[x.val] w fun e w'=>e=.returned (vi (x.base+(x.entries.n:Int)))∧Kp [] w w':=by
 have cC:=aJ.bL hx
 have mr:=Sl.ok.nc cC
 have mu:x.entries.n=x.entries.xs.length:=rfl
 have q1:x.abs.base=x.base:=rfl
 have q2:x.abs.entries=x.entries.xs:=rfl
 have fg: ∀q,x.entries.xs.getD q dd=x.entries.at q:=fun _=>rfl
 refine M0 ?_ func52
 refine Mi ?_ (pR (x.base+(x.entries.n:Int)))
 exact Mt [vi (x.base+(x.entries.n:Int))] fun bs w hS=>⟨rfl,hS.kp⟩
theorem nG (a b:ByteArray)(w:World):Calls prog 189 #[vs a,vs b] w fun e w'=>e=.returned (vi (bK a b))∧Kp [] w w':=by
 refine M0 ?_ func189
 refine Mx ?_ (vs:=fun bs=>[vs a,vs b]) (v:=vi (bK a b)) (fun bs w hS=>by rw[run_callFunc_extern func218 (by kernel_rfl) (by kernel_rfl) (by kernel_rfl) (e:=Extern.BytealgCompare.compare) (by kernel_rfl)];show ((Extern.BytealgCompare.compare #[vs a,vs b]).run _ w).andThen _=_;rw[Lib.run_compareString];rfl)
 exact Mt [vi (bK a b)] fun bs w hS=>⟨rfl,hS.kp⟩
theorem kU (a b:ByteArray)(w:World):Calls prog 147 #[vs a,vs b] w fun e w'=>e=.returned (vi (bK a b))∧Kp [] w w':=by
 refine M0 ?_ func147
 refine Mp ?_ call189 (fun bs w hS=>nG a b w)
 exact Mt [vi (bK a b)] fun bs w hS=>⟨rfl,hS.kp⟩
theorem u7 (x:ae)(t:ByteArray)(w:World):Calls prog 146 #[x.val,vs t] w fun e w'=>e=.returned (vi (bK x.name t))∧Kp [] w w':=by
 refine M0 ?_ func146
 refine Mp ?_ call147 (fun bs w hS=>kU x.name t w)
 exact Mt [vi (bK x.name t)] fun bs w hS=>⟨rfl,hS.kp⟩
theorem vQ (s:Sl ae)(t:ByteArray)(w:World)(hs:s.rd B w)(hn:s.n≤1048576):Calls prog 145 #[s.val,vs t,.func (.func 146) #[] #[]] w fun e w'=>e=.returned (.tuple #[vi (eQ (fun x:ae=>bK x.name t) s.xs:Nat),vb (dk (fun x:ae=>bK x.name t) s.xs)])∧Kp [] w w':=by
 have cV:=Sl.rd.ok hs
 have iV:=Sl.ok.nc cV
 have iW:s.n=s.xs.length:=rfl
 refine Mj ?_ func145 (WS.start w)
 refine Ml (σ:=Nat×Nat×Nat) (fun⟨i,j,f⟩=>i≤j∧j≤s.n∧j - i≤f∧eQ (fun x:ae=>bK x.name t) s.xs=lZ (fun j=>decide (bK (s.at j).name t<0)) f i j) (fun⟨i,j,f⟩=>f) (fun _=>[]) [10,9,8,0,1,2] (fun⟨i,j,f⟩=>[(10,vI (j:Int)),(9,vI (i:Int))]) (fun _=>[]) ?_ (⟨0,s.n,s.n⟩) ⟨Nat.zero_le _,Nat.le_refl _,Nat.le_refl _,rfl⟩
 rintro⟨i,j,f⟩ ⟨h1,h2,h3,hI⟩ _ bu
 have hdiv:((i:Int)+(j:Int)) / 2=(((i+j) / 2:Nat):Int):=by omega
 refine Md ((i:Int)<(j:Int)) (fun h1=>?_) fun h1=>?_
 rotate_left
 ·refine Md ((i:Int)<(s.n:Int)) (fun h3=>?_) fun h3=>?_
  rotate_left
  ·refine Mt [vi (i:Int),vb false] fun bs w hS=>?_
   have jf:i=j:=by omega
   subst jf
   have hr:eQ (fun x:ae=>bK x.name t) s.xs=i:=by rw[hI];exact iQ _ _ _ _ (Nat.le_refl _)
   refine⟨?_,hS.kp⟩
   have ny:dk (fun x:ae=>bK x.name t) s.xs=false:=by
     unfold dk;rw[hr]
     rw[decide_eq_false (show ¬i<s.xs.length by omega)];rfl
   rw[hr,ny]
   rfl
  refine Mi ?_ (pA 43 44 (i:Int) i (db hs))
  refine Mp ?_ call146 (fun bs w hS=>u7 (s.at i) t w)
  refine Mt [vi (i:Int),vb (decide (bK (s.at i).name t=0))] fun bs w hS=>?_
  have jf:i=j:=by omega
  subst jf
  have hr:eQ (fun x:ae=>bK x.name t) s.xs=i:=by rw[hI];exact iQ _ _ _ _ (Nat.le_refl _)
  refine⟨?_,hS.kp⟩
  have ny:dk (fun x:ae=>bK x.name t) s.xs=(decide (bK (s.at i).name t=0)):=by
    unfold dk;rw[hr]
    rw[decide_eq_true (show i<s.xs.length by omega)];rfl
  rw[hr,ny]
  rfl
 refine Mi ?_ (pc (pR ((i:Int)+(j:Int))) (pc (pG [(21,.val (.int .u64 ((i:Int)+(j:Int))))] (oc ((jD Tryz.underlying3 Tryz.underlying203 (by omega) (by omega)): ∀w,(convert 3 203 (vi ((i:Int)+(j:Int))):Sem Value).run prog w=.ok (.int .u64 ((i:Int)+(j:Int))) w) on)) (pc (pG [(22,.val (.int .u64 (((i:Int)+(j:Int)) / 2)))] (oc (qo: ∀w,(do eqGuard .shr 203 (.tmp 21) (.const (.int .u64 1)) (.int .u64 ((i:Int)+(j:Int))) (.int .u64 1);binOp .shr 203 (.int .u64 ((i:Int)+(j:Int))) (.int .u64 1):Sem Value).run prog w=.ok (.int .u64 (((i:Int)+(j:Int)) / 2)) w) on)) (pc (pG [(23,.val (vi (((i:Int)+(j:Int)) / 2)))] (oc ((jE Tryz.underlying203 Tryz.underlying3 (by omega) (by omega)): ∀w,(convert 203 3 (.int .u64 (((i:Int)+(j:Int)) / 2)):Sem Value).run prog w=.ok (vi (((i:Int)+(j:Int)) / 2)) w) on)) (pA 27 28 (((i:Int)+(j:Int)) / 2) (((i:Int)+(j:Int)) / 2).toNat (db hs))))))
 refine Mp ?_ call146 (fun bs w hS=>u7 (s.at (((i:Int)+(j:Int)) / 2).toNat) t w)
 refine Md (bK (s.at (((i:Int)+(j:Int)) / 2).toNat).name t<0) (fun h2=>?_) fun h2=>?_
 rotate_left
 ·have yo:f=(f - 1)+1:=by omega
  rw[yo]at hI
  have sh:=hI.trans (mH (by omega) (decide_eq_false (by assumption)))
  exact bu ⟨i,(i+j) / 2,f - 1⟩ ⟨by omega,by omega,by omega,sh⟩ (by show f - 1<f;omega)
 refine Mi ?_ (pR ((((i:Int)+(j:Int)) / 2)+1))
 have yo:f=(f - 1)+1:=by omega
 rw[yo]at hI
 have sh:=hI.trans (qu (by omega) (decide_eq_true (by assumption)))
 exact bu ⟨(i+j) / 2+1,j,f - 1⟩ ⟨by omega,by omega,by omega,sh⟩ (by show f - 1<f;omega)
theorem jk (s:Sl ae)(t:ByteArray)(w:World)(hs:s.rd B w):Calls prog 100 #[s.val,vs t] w fun e w'=>e=.returned (vi (aQ (fun x:ae=>decide (x.name=t)) s.xs))∧Kp [] w w':=by
 have cV:=Sl.rd.ok hs
 have iV:=Sl.ok.nc cV
 have iW:s.n=s.xs.length:=rfl
 refine M0 ?_ func100
 refine Ml (σ:=Nat) (fun i=>i≤s.n∧ ∀j,j<i→decide ((s.at j).name=t)=false) (fun i=>s.n - i) (fun _=>[]) [5,0,1] (fun i=>[(5,vI (i:Int))]) (fun _=>[]) ?_ 0 ⟨Nat.zero_le _,fun j hj=>absurd hj (Nat.not_lt_zero _)⟩
 rintro i ⟨hi,hI⟩ _ bu
 refine Md ((i:Int)<(s.n:Int)) (fun h1=>?_) fun h1=>?_
 rotate_left
 ·exact cd (-1) (by rw[gp (p:=(fun x:ae=>decide (x.name=t))) fun j hj=>hI j (by omega)])
 refine Mi ?_ (pc (pI 14 (i:Int) i (db hs)) (pF 16 i 0 1 (db hs)))
 refine Md ((s.at i).name=t) (fun h2=>?_) fun h2=>?_
 ·exact cd (i:Int) (by rw[fR (p:=(fun x:ae=>decide (x.name=t))) (i:=i) (by omega) (decide_eq_true (by assumption)) hI])
 refine Mi ?_ (pR ((i:Int)+1))
 exact bu (i+1) ⟨by omega,fun j hj=>by rcases Nat.lt_succ_iff_lt_or_eq.1 hj with h|h;exact hI j h;subst h;exact decide_eq_false (by assumption)⟩ (by omega)
theorem Gm (s:Sl ae)(t:ByteArray)(w:World)(hs:s.rd B w):Calls prog 83 #[s.val,vs t] w fun e w'=>e=.returned (.tuple #[vi (fN (s.xs.map ae.abs) t).1,vi (fN (s.xs.map ae.abs) t).2.1,vi (fN (s.xs.map ae.abs) t).2.2])∧Kp [] w w':=by
 have cV:=Sl.rd.ok hs
 have iV:=Sl.ok.nc cV
 have iW:s.n=s.xs.length:=rfl
 have fg: ∀q,(s.xs.map ae.abs).getD q dd=(s.at q).abs:=fun q=>pH q
 have lQ: ∀q,(s.at q).abs.name=(s.at q).name:=fun _=>rfl
 have kN: ∀q,(s.at q).abs.ar=(s.at q).ar:=fun _=>rfl
 have nh: ∀q,(s.at q).abs.aA=(s.at q).aA:=fun _=>rfl
 have tB:(s.xs.map ae.abs).length=s.n:=by simp
 refine M0 ?_ func83
 refine Mp ?_ call64 (fun bs w hS=>ng s w (Sl.rd.kp hs hS.kp))
 refine cr (bB (s.xs.map ae.abs)=0) (fun h1=>?_) fun h1=>?_
 rotate_left
 ·refine Mt [vi 0,vi 0,vi (bB (s.xs.map ae.abs))] fun bs w hS=>?_
  refine⟨?_,hS.kp⟩
  have hm:fN (s.xs.map ae.abs) t=(0,0,bB (s.xs.map ae.abs)):=by
    unfold fN;rw[if_neg h1]
  rw[hm]
  rfl
 have mh:=(fS h1).1
 refine Mp ?_ call145 (fun bs w hS=>vQ s t w (Sl.rd.kp hs hS.kp) (by omega))
 refine fL (dk (fun x:ae=>bK x.name t) s.xs) (fun h2=>?_) fun h2=>?_
 rotate_left
 ·refine Mt [vi 0,vi 0,vi 0] fun bs w hS=>?_
  refine⟨?_,hS.kp⟩
  have hm:fN (s.xs.map ae.abs) t=(0,0,0):=by
    have hb:=n6 (L:=s.xs) (by assumption) t
    have gU:=hb.1
    rw[h2]at gU
    have jB:=of_decide_eq_false gU.symm
    unfold fN;rw[if_pos (by assumption)]
    apply if_neg
    rintro⟨OP,JK⟩
    omega
  rw[hm]
  rfl
 have dX:=xU h2
 refine Mi ?_ (pc (pI 26 ((eQ (fun x:ae=>bK x.name t) s.xs:Nat):Int) (((eQ (fun x:ae=>bK x.name t) s.xs:Nat):Int)).toNat (db hs)) (pF 28 (((eQ (fun x:ae=>bK x.name t) s.xs:Nat):Int)).toNat 1 1 (db hs)))
 refine Md ((s.at (((eQ (fun x:ae=>bK x.name t) s.xs:Nat):Int)).toNat).ar=0) (fun h3=>?_) fun h3=>?_
 ·refine Mt [vi 0,vi 0,vi 0] fun bs w hS=>?_
  refine⟨?_,hS.kp⟩
  have hm:fN (s.xs.map ae.abs) t=(0,0,0):=by
    have hb:=n6 (L:=s.xs) (by assumption) t
    have gT:=hb.2 h2
    have gU:=hb.1
    rw[h2]at gU
    have jB:=of_decide_eq_true gU.symm
    unfold fN;rw[if_pos (by assumption)]
    apply if_neg
    rintro⟨OP,JK⟩
    rw[←gT,Int.toNat_natCast,fg,kN]at JK
    exact JK h3
  rw[hm]
  rfl
 refine cZ 13 [] [] [] ai ?_
 refine bY ?_ (pc (pI 33 ((eQ (fun x:ae=>bK x.name t) s.xs:Nat):Int) (((eQ (fun x:ae=>bK x.name t) s.xs:Nat):Int)).toNat (db hs)) (pc (pF 35 (((eQ (fun x:ae=>bK x.name t) s.xs:Nat):Int)).toNat 1 1 (db hs)) (pc (pI 38 ((eQ (fun x:ae=>bK x.name t) s.xs:Nat):Int) (((eQ (fun x:ae=>bK x.name t) s.xs:Nat):Int)).toNat (db hs)) (pF 40 (((eQ (fun x:ae=>bK x.name t) s.xs:Nat):Int)).toNat 2 1 (db hs)))))
 refine Mt [vi (s.at (((eQ (fun x:ae=>bK x.name t) s.xs:Nat):Int)).toNat).ar,vi (s.at (((eQ (fun x:ae=>bK x.name t) s.xs:Nat):Int)).toNat).aA,vi 0] fun bs w hS=>?_
 refine⟨?_,hS.kp⟩
 have hm:fN (s.xs.map ae.abs) t=((s.at (((eQ (fun x:ae=>bK x.name t) s.xs:Nat):Int)).toNat).ar,(s.at (((eQ (fun x:ae=>bK x.name t) s.xs:Nat):Int)).toNat).aA,0):=by
   have hb:=n6 (L:=s.xs) (by assumption) t
   have gT:=hb.2 h2
   have gU:=hb.1
   rw[h2]at gU
   have jB:=of_decide_eq_true gU.symm
   unfold fN;rw[if_pos (by assumption)]
   rw[←gT,Int.toNat_natCast,fg,kN,nh,if_pos ⟨by omega,by assumption⟩]
 rw[hm]
 rfl
theorem yp (s:Sl ae)(t:ByteArray)(w:World)(hs:s.rd B w):Calls prog 37 #[s.val,vs t] w fun e w'=>e=.returned (.tuple #[vi (fN (s.xs.map ae.abs) t).1,vi (fN (s.xs.map ae.abs) t).2.1,vi (fN (s.xs.map ae.abs) t).2.2])∧Kp [] w w':=by
 have cV:=Sl.rd.ok hs
 have iV:=Sl.ok.nc cV
 have iW:s.n=s.xs.length:=rfl
 have fg: ∀q,(s.xs.map ae.abs).getD q dd=(s.at q).abs:=fun q=>pH q
 have lQ: ∀q,(s.at q).abs.name=(s.at q).name:=fun _=>rfl
 have kN: ∀q,(s.at q).abs.ar=(s.at q).ar:=fun _=>rfl
 have nh: ∀q,(s.at q).abs.aA=(s.at q).aA:=fun _=>rfl
 have tB:(s.xs.map ae.abs).length=s.n:=by simp
 have Sg:=du (fun x:ae=>decide (x.name=t)) s.xs
 have Me:aQ (fun x:ae=>decide (x.name=t)) s.xs=aQ (fun y:aY=>decide (y.name=t)) (s.xs.map ae.abs):=fm ae.abs (fun y:aY=>decide (y.name=t)) s.xs
 refine M0 ?_ func37
 refine Mp ?_ call93 (fun bs w hS=>jQ s w (Sl.rd.kp hs hS.kp))
 refine Mp ?_ call100 (fun bs w hS=>jk s t w (Sl.rd.kp hs hS.kp))
 refine cr (bB (s.xs.map ae.abs)=0) (fun h1=>?_) fun h1=>?_
 rotate_left
 ·refine Mt [vi 0,vi 0,vi (bB (s.xs.map ae.abs))] fun bs w hS=>?_
  refine⟨?_,hS.kp⟩
  have hm:fN (s.xs.map ae.abs) t=(0,0,bB (s.xs.map ae.abs)):=by
    unfold fN;rw[if_neg h1]
  rw[hm]
  rfl
 have mh:=(fS h1).1
 refine Md (aQ (fun x:ae=>decide (x.name=t)) s.xs<0) (fun h2=>?_) fun h2=>?_
 ·refine Mt [vi 0,vi 0,vi (bB (s.xs.map ae.abs))] fun bs w hS=>?_
  refine⟨?_,hS.kp⟩
  have hm:fN (s.xs.map ae.abs) t=(0,0,bB (s.xs.map ae.abs)):=by
    have xy:=du (fun y:aY=>decide (y.name=t)) (s.xs.map ae.abs)
    rw[h1]
    unfold fN;rw[if_pos (by assumption)]
    apply if_neg
    rintro⟨OP,JK⟩
    omega
  rw[hm]
  rfl
 refine Mi ?_ (pc (pI 23 (aQ (fun x:ae=>decide (x.name=t)) s.xs) (aQ (fun x:ae=>decide (x.name=t)) s.xs).toNat (db hs)) (pF 25 (aQ (fun x:ae=>decide (x.name=t)) s.xs).toNat 1 1 (db hs)))
 refine Md ((s.at (aQ (fun x:ae=>decide (x.name=t)) s.xs).toNat).ar=0) (fun h3=>?_) fun h3=>?_
 ·refine Mt [vi 0,vi 0,vi (bB (s.xs.map ae.abs))] fun bs w hS=>?_
  refine⟨?_,hS.kp⟩
  have hm:fN (s.xs.map ae.abs) t=(0,0,bB (s.xs.map ae.abs)):=by
    have xy:=du (fun y:aY=>decide (y.name=t)) (s.xs.map ae.abs)
    rw[h1]
    unfold fN;rw[if_pos (by assumption)]
    apply if_neg
    rintro⟨OP,JK⟩
    rw[←Me,fg,kN]at JK
    exact JK h3
  rw[hm]
  rfl
 refine cZ 13 [] [] [] ai ?_
 refine bY ?_ (pc (pI 31 (aQ (fun x:ae=>decide (x.name=t)) s.xs) (aQ (fun x:ae=>decide (x.name=t)) s.xs).toNat (db hs)) (pc (pF 33 (aQ (fun x:ae=>decide (x.name=t)) s.xs).toNat 1 1 (db hs)) (pc (pI 36 (aQ (fun x:ae=>decide (x.name=t)) s.xs) (aQ (fun x:ae=>decide (x.name=t)) s.xs).toNat (db hs)) (pF 38 (aQ (fun x:ae=>decide (x.name=t)) s.xs).toNat 2 1 (db hs)))))
 refine Mt [vi (s.at (aQ (fun x:ae=>decide (x.name=t)) s.xs).toNat).ar,vi (s.at (aQ (fun x:ae=>decide (x.name=t)) s.xs).toNat).aA,vi 0] fun bs w hS=>?_
 refine⟨?_,hS.kp⟩
 have hm:fN (s.xs.map ae.abs) t=((s.at (aQ (fun x:ae=>decide (x.name=t)) s.xs).toNat).ar,(s.at (aQ (fun x:ae=>decide (x.name=t)) s.xs).toNat).aA,0):=by
   have xy:=du (fun y:aY=>decide (y.name=t)) (s.xs.map ae.abs)
   unfold fN;rw[if_pos (by assumption)]
   rw[←Me,fg,kN,nh,if_pos ⟨by omega,by assumption⟩]
 rw[hm]
 rfl
theorem jS (x:av)(w:World)(hx:aJ.sub B w x):Calls prog 201 #[x.val] w fun e w'=>e=.returned (vi (bW x.abs))∧Kp [] w w':=by
 have cC:=aJ.bL hx
 have mr:=Sl.ok.nc cC
 have iW:x.waits.n=x.waits.xs.length:=rfl
 have fg: ∀q,x.abs.waits.getD q dd=x.waits.at q:=fun _=>rfl
 have j0:x.abs.id=x.id:=rfl
 have iO:x.abs.aD=x.aD:=rfl
 have iv:x.abs.next=x.next:=rfl
 have rA:x.abs.waits.length=x.waits.n:=rfl
 refine M0 ?_ func201
 refine Md (x.id<1) (fun h1=>?_) fun h1=>?_
 ·have hm:bW x.abs=2:=by
    grind[bW]
  exact cd 2 hm
 refine Md ((9:Int)<x.id) (fun h2=>?_) fun h2=>?_
 ·have hm:bW x.abs=2:=by
    grind[bW]
  exact cd 2 hm
 refine Md (x.aD<0) (fun h3=>?_) fun h3=>?_
 ·have hm:bW x.abs=2:=by
    grind[bW]
  exact cd 2 hm
 refine Md ((1073741824:Int)<x.aD) (fun h4=>?_) fun h4=>?_
 ·have hm:bW x.abs=2:=by
    grind[bW]
  exact cd 2 hm
 refine Md (x.next<1) (fun h5=>?_) fun h5=>?_
 ·have hm:bW x.abs=2:=by
    grind[bW]
  exact cd 2 hm
 refine Md ((1048577:Int)<x.next) (fun h6=>?_) fun h6=>?_
 ·have hm:bW x.abs=2:=by
    grind[bW]
  exact cd 2 hm
 refine Md ((4:Int)<(x.waits.n:Int)) (fun h7=>?_) fun h7=>?_
 ·have hm:bW x.abs=9:=by
    grind[bW]
  exact cd 9 hm
 refine Md (x.aD=0) (fun h8=>?_) fun h8=>?_
 rotate_left
 ·refine Ml (σ:=Nat) (fun i=>i≤x.waits.n∧bW x.abs=ek (bR x.abs) (x.waits.n - i) i∧(0<i→1≤(x.waits.at 0).seq∧(x.waits.at 0).seq<x.next)) (fun i=>x.waits.n - i) (fun _=>[]) [52,51,50,1] (fun i=>[(52,vI (i:Int))]) (fun _=>[]) ?_ 0 ⟨Nat.zero_le _,by unfold bW;simp only[j0,iO,iv,rA];rw[if_neg (by omega),if_neg (by omega)],fun h=>absurd h (by omega)⟩
  rintro i ⟨hi,hI,h0⟩ _ j8
  have hz:i=0∨(0<i∧1≤(x.waits.at 0).seq∧(x.waits.at 0).seq<x.next):=by rcases Nat.eq_zero_or_pos i with h|h;exact .inl h;exact .inr ⟨h,h0 h⟩
  have rb:i=0→(x.waits.at i).seq=(x.waits.at 0).seq:=fun h=>by rw[h]
  refine Md ((i:Int)<(x.waits.n:Int)) (fun EU=>?_) fun EU=>?_
  rotate_left
  ·exact cd 0 (by rw[hI,eX (by omega)])
  refine Mi ?_ (pA 55 56 (i:Int) i (s:=x.waits) (fun w hk hr=>(aJ.kp hx hk)))
  refine cZ 38 [] [] [] ai ?_
  refine Md ((x.waits.at i).seq<1) (fun Dc=>?_) fun Dc=>?_
  ·refine cd 9 ?_
   have hf:bR x.abs i=9:=by
     grind[bR]
   rw[hI,aI (by omega) hf (by first|assumption|omega)]
  refine Md (x.next≤(x.waits.at i).seq) (fun Hb=>?_) fun Hb=>?_
  ·refine cd 9 ?_
   have hf:bR x.abs i=9:=by
     grind[bR]
   rw[hI,aI (by omega) hf (by first|assumption|omega)]
  refine Md ((0:Int)<(i:Int)) (fun KF=>?_) fun KF=>?_
  rotate_left
  ·refine bY ?_ (pc (pI 88 0 0 (s:=x.waits) (fun w hk hr=>(aJ.kp hx hk))) (pc (pF 90 0 0 1 (s:=x.waits) (fun w hk hr=>(aJ.kp hx hk))) (pc (pR ((x.waits.at 0).seq+4)) (pR (((x.waits.at 0).seq+4) - 1)))))
   refine Md (((x.waits.at 0).seq+4) - 1<(x.waits.at i).seq) (fun OO=>?_) fun OO=>?_
   ·refine cd 9 ?_
    have hf:bR x.abs i=9:=by
      grind[bR]
    rw[hI,aI (by omega) hf (by first|assumption|omega)]
   refine Mp ?_ call134 (fun bs w hS=>fT (B:=bH) (x.waits.at i).op w ⟨(Sl.ok.at (s:=x.waits) (i:=i) cC (by omega)).1,(Sl.ok.at (s:=x.waits) (i:=i) cC (by omega)).2⟩)
   refine cr (jy (x.waits.at i).op=0) (fun LZ=>?_) fun LZ=>?_
   ·refine Mi ?_ (pR ((i:Int)+1))
    have kT:bR x.abs i=0:=by
      grind[bR]
    exact j8 (i+1) ⟨by omega,by rw[hI];exact bN (by omega) kT,fun _=>by omega⟩ (by omega)
   refine cd (jy (x.waits.at i).op) ?_
   have hf:bR x.abs i=jy (x.waits.at i).op:=by
     grind[bR]
   rw[hI,aI (by omega) hf (by first|assumption|omega)]
  refine bY ?_ (pc (pR ((i:Int) - 1)) (pc (pI 75 ((i:Int) - 1) (i - 1) (s:=x.waits) (fun w hk hr=>(aJ.kp hx hk))) (pF 77 (i - 1) 0 1 (s:=x.waits) (fun w hk hr=>(aJ.kp hx hk)))))
  refine Md ((x.waits.at i).seq≤(x.waits.at (i - 1)).seq) (fun LY=>?_) fun LY=>?_
  ·refine cd 9 ?_
   have hf:bR x.abs i=9:=by
     grind[bR]
   rw[hI,aI (by omega) hf (by first|assumption|omega)]
  refine bY ?_ (pc (pI 88 0 0 (s:=x.waits) (fun w hk hr=>(aJ.kp hx hk))) (pc (pF 90 0 0 1 (s:=x.waits) (fun w hk hr=>(aJ.kp hx hk))) (pc (pR ((x.waits.at 0).seq+4)) (pR (((x.waits.at 0).seq+4) - 1)))))
  refine Md (((x.waits.at 0).seq+4) - 1<(x.waits.at i).seq) (fun OM=>?_) fun OM=>?_
  ·refine cd 9 ?_
   have hf:bR x.abs i=9:=by
     grind[bR]
   rw[hI,aI (by omega) hf (by first|assumption|omega)]
  refine Mp ?_ call134 (fun bs w hS=>fT (B:=bH) (x.waits.at i).op w ⟨(Sl.ok.at (s:=x.waits) (i:=i) cC (by omega)).1,(Sl.ok.at (s:=x.waits) (i:=i) cC (by omega)).2⟩)
  refine cr (jy (x.waits.at i).op=0) (fun ON=>?_) fun ON=>?_
  ·refine Mi ?_ (pR ((i:Int)+1))
   have kT:bR x.abs i=0:=by
     grind[bR]
   exact j8 (i+1) ⟨by omega,by rw[hI];exact bN (by omega) kT,fun _=>by omega⟩ (by omega)
  refine cd (jy (x.waits.at i).op) ?_
  have hf:bR x.abs i=jy (x.waits.at i).op:=by
    grind[bR]
  rw[hI,aI (by omega) hf (by first|assumption|omega)]
 refine Md ((0:Int)<(x.waits.n:Int)) (fun h9=>?_) fun h9=>?_
 ·have hm:bW x.abs=9:=by
    grind[bW]
  exact cd 9 hm
 refine Ml (σ:=Nat) (fun i=>i≤x.waits.n∧bW x.abs=ek (bR x.abs) (x.waits.n - i) i∧(0<i→1≤(x.waits.at 0).seq∧(x.waits.at 0).seq<x.next)) (fun i=>x.waits.n - i) (fun _=>[]) [52,51,50,1] (fun i=>[(52,vI (i:Int))]) (fun _=>[]) ?_ 0 ⟨Nat.zero_le _,by unfold bW;simp only[j0,iO,iv,rA];rw[if_neg (by omega),if_neg (by omega)],fun h=>absurd h (by omega)⟩
 rintro i ⟨hi,hI,h0⟩ _ bu
 have hz:i=0∨(0<i∧1≤(x.waits.at 0).seq∧(x.waits.at 0).seq<x.next):=by rcases Nat.eq_zero_or_pos i with h|h;exact .inl h;exact .inr ⟨h,h0 h⟩
 have rb:i=0→(x.waits.at i).seq=(x.waits.at 0).seq:=fun h=>by rw[h]
 refine Md ((i:Int)<(x.waits.n:Int)) (fun ir=>?_) fun ir=>?_
 rotate_left
 ·exact cd 0 (by rw[hI,eX (by omega)])
 refine Mi ?_ (pA 55 56 (i:Int) i (s:=x.waits) (fun w hk hr=>(aJ.kp hx hk)))
 refine cZ 38 [] [] [] ai ?_
 refine Md ((x.waits.at i).seq<1) (fun g7=>?_) fun g7=>?_
 ·refine cd 9 ?_
  have hf:bR x.abs i=9:=by
    grind[bR]
  rw[hI,aI (by omega) hf (by first|assumption|omega)]
 refine Md (x.next≤(x.waits.at i).seq) (fun jW=>?_) fun jW=>?_
 ·refine cd 9 ?_
  have hf:bR x.abs i=9:=by
    grind[bR]
  rw[hI,aI (by omega) hf (by first|assumption|omega)]
 refine Md ((0:Int)<(i:Int)) (fun k7=>?_) fun k7=>?_
 rotate_left
 ·refine bY ?_ (pc (pI 88 0 0 (s:=x.waits) (fun w hk hr=>(aJ.kp hx hk))) (pc (pF 90 0 0 1 (s:=x.waits) (fun w hk hr=>(aJ.kp hx hk))) (pc (pR ((x.waits.at 0).seq+4)) (pR (((x.waits.at 0).seq+4) - 1)))))
  refine Md (((x.waits.at 0).seq+4) - 1<(x.waits.at i).seq) (fun Ej=>?_) fun Ej=>?_
  ·refine cd 9 ?_
   have hf:bR x.abs i=9:=by
     grind[bR]
   rw[hI,aI (by omega) hf (by first|assumption|omega)]
  refine Mp ?_ call134 (fun bs w hS=>fT (B:=bH) (x.waits.at i).op w ⟨(Sl.ok.at (s:=x.waits) (i:=i) cC (by omega)).1,(Sl.ok.at (s:=x.waits) (i:=i) cC (by omega)).2⟩)
  refine cr (jy (x.waits.at i).op=0) (fun yn=>?_) fun yn=>?_
  ·refine Mi ?_ (pR ((i:Int)+1))
   have kT:bR x.abs i=0:=by
     grind[bR]
   exact bu (i+1) ⟨by omega,by rw[hI];exact bN (by omega) kT,fun _=>by omega⟩ (by omega)
  refine cd (jy (x.waits.at i).op) ?_
  have hf:bR x.abs i=jy (x.waits.at i).op:=by
    grind[bR]
  rw[hI,aI (by omega) hf (by first|assumption|omega)]
 refine bY ?_ (pc (pR ((i:Int) - 1)) (pc (pI 75 ((i:Int) - 1) (i - 1) (s:=x.waits) (fun w hk hr=>(aJ.kp hx hk))) (pF 77 (i - 1) 0 1 (s:=x.waits) (fun w hk hr=>(aJ.kp hx hk)))))
 refine Md ((x.waits.at i).seq≤(x.waits.at (i - 1)).seq) (fun mo=>?_) fun mo=>?_
 ·refine cd 9 ?_
  have hf:bR x.abs i=9:=by
    grind[bR]
  rw[hI,aI (by omega) hf (by first|assumption|omega)]
 refine bY ?_ (pc (pI 88 0 0 (s:=x.waits) (fun w hk hr=>(aJ.kp hx hk))) (pc (pF 90 0 0 1 (s:=x.waits) (fun w hk hr=>(aJ.kp hx hk))) (pc (pR ((x.waits.at 0).seq+4)) (pR (((x.waits.at 0).seq+4) - 1)))))
 refine Md (((x.waits.at 0).seq+4) - 1<(x.waits.at i).seq) (fun pr=>?_) fun pr=>?_
 ·refine cd 9 ?_
  have hf:bR x.abs i=9:=by
    grind[bR]
  rw[hI,aI (by omega) hf (by first|assumption|omega)]
 refine Mp ?_ call134 (fun bs w hS=>fT (B:=bH) (x.waits.at i).op w ⟨(Sl.ok.at (s:=x.waits) (i:=i) cC (by omega)).1,(Sl.ok.at (s:=x.waits) (i:=i) cC (by omega)).2⟩)
 refine cr (jy (x.waits.at i).op=0) (fun yK=>?_) fun yK=>?_
 ·refine Mi ?_ (pR ((i:Int)+1))
  have kT:bR x.abs i=0:=by
    grind[bR]
  exact bu (i+1) ⟨by omega,by rw[hI];exact bN (by omega) kT,fun _=>by omega⟩ (by omega)
 refine cd (jy (x.waits.at i).op) ?_
 have hf:bR x.abs i=jy (x.waits.at i).op:=by
   grind[bR]
 rw[hI,aI (by omega) hf (by first|assumption|omega)]
theorem g4 (x:av)(w:World)(hx:aJ.sub B w x):Calls prog 178 #[x.val] w fun e w'=>e=.returned (vi (bW x.abs))∧Kp [] w w':=by
 have cC:=aJ.bL hx
 have mr:=Sl.ok.nc cC
 have iW:x.waits.n=x.waits.xs.length:=rfl
 have fg: ∀q,x.abs.waits.getD q dd=x.waits.at q:=fun _=>rfl
 have j0:x.abs.id=x.id:=rfl
 have iO:x.abs.aD=x.aD:=rfl
 have iv:x.abs.next=x.next:=rfl
 have rA:x.abs.waits.length=x.waits.n:=rfl
 refine M0 ?_ func178
 refine Mp ?_ call51 (fun bs w hS=>b6 x.id 1 9 w)
 refine fL (gk x.id 1 9) (fun h1=>?_) fun h1=>?_
 rotate_left
 ·simp only[iT,iF]at h1
  have hm:bW x.abs=2:=by
    grind[bW]
  exact cd 2 hm
 simp only[iT,iF]at h1
 refine Mp ?_ call51 (fun bs w hS=>b6 x.aD 0 1073741824 w)
 refine fL (gk x.aD 0 1073741824) (fun h2=>?_) fun h2=>?_
 rotate_left
 ·simp only[iT,iF]at h2
  have hm:bW x.abs=2:=by
    grind[bW]
  exact cd 2 hm
 simp only[iT,iF]at h2
 refine Mp ?_ call51 (fun bs w hS=>b6 x.next 1 1048577 w)
 refine fL (gk x.next 1 1048577) (fun h3=>?_) fun h3=>?_
 rotate_left
 ·simp only[iT,iF]at h3
  have hm:bW x.abs=2:=by
    grind[bW]
  exact cd 2 hm
 simp only[iT,iF]at h3
 refine Md ((4:Int)<(x.waits.n:Int)) (fun h4=>?_) fun h4=>?_
 ·have hm:bW x.abs=9:=by
    grind[bW]
  exact cd 9 hm
 refine Md ((0:Int)<(x.waits.n:Int)) (fun h5=>?_) fun h5=>?_
 rotate_left
 ·refine Ml (σ:=Nat) (fun i=>i≤x.waits.n∧bW x.abs=ek (bR x.abs) (x.waits.n - i) i∧(0<i→1≤(x.waits.at 0).seq∧(x.waits.at 0).seq<x.next)) (fun i=>x.waits.n - i) (fun _=>[]) [3,1] (fun i=>[(3,vI (i:Int))]) (fun _=>[]) ?_ 0 ⟨Nat.zero_le _,by unfold bW;simp only[j0,iO,iv,rA];rw[if_neg (by omega),if_neg (by omega)],fun h=>absurd h (by omega)⟩
  rintro i ⟨hi,hI,h0⟩ _ j8
  have hz:i=0∨(0<i∧1≤(x.waits.at 0).seq∧(x.waits.at 0).seq<x.next):=by rcases Nat.eq_zero_or_pos i with h|h;exact .inl h;exact .inr ⟨h,h0 h⟩
  have rb:i=0→(x.waits.at i).seq=(x.waits.at 0).seq:=fun h=>by rw[h]
  refine Md ((i:Int)<(x.waits.n:Int)) (fun mo=>?_) fun mo=>?_
  rotate_left
  ·exact cd 0 (by rw[hI,eX (by omega)])
  refine Mi ?_ (pA 47 48 (i:Int) i (s:=x.waits) (fun w hk hr=>(aJ.kp hx hk)))
  refine cZ 34 [] [] [] ai ?_
  refine bY ?_ (pR (x.next - 1))
  refine Mp ?_ call51 (fun bs w hS=>b6 (x.waits.at i).seq 1 (x.next - 1) w)
  refine fL (gk (x.waits.at i).seq 1 (x.next - 1)) (fun pr=>?_) fun pr=>?_
  rotate_left
  ·simp only[iT,iF]at pr
   refine cd 9 ?_
   have hf:bR x.abs i=9:=by
     grind[bR]
   rw[hI,aI (by omega) hf (by first|assumption|omega)]
  simp only[iT,iF]at pr
  refine bY ?_ (pc (pI 61 0 0 (s:=x.waits) (fun w hk hr=>(aJ.kp hx hk))) (pc (pF 63 0 0 1 (s:=x.waits) (fun w hk hr=>(aJ.kp hx hk))) (pR ((x.waits.at i).seq - (x.waits.at 0).seq))))
  refine Md ((3:Int)<(x.waits.at i).seq - (x.waits.at 0).seq) (fun yK=>?_) fun yK=>?_
  ·refine cd 9 ?_
   have hf:bR x.abs i=9:=by
     grind[bR]
   rw[hI,aI (by omega) hf (by first|assumption|omega)]
  refine Md ((0:Int)<(i:Int)) (fun Ej=>?_) fun Ej=>?_
  rotate_left
  ·refine Mp ?_ call155 (fun bs w hS=>jv (B:=bH) (x.waits.at i).op w ⟨(Sl.ok.at (s:=x.waits) (i:=i) cC (by omega)).1,(Sl.ok.at (s:=x.waits) (i:=i) cC (by omega)).2⟩)
   refine cr (jy (x.waits.at i).op=0) (fun Dc=>?_) fun Dc=>?_
   ·refine Mi ?_ (pR ((i:Int)+1))
    have kT:bR x.abs i=0:=by
      grind[bR]
    exact j8 (i+1) ⟨by omega,by rw[hI];exact bN (by omega) kT,fun _=>by omega⟩ (by omega)
   refine cd (jy (x.waits.at i).op) ?_
   have hf:bR x.abs i=jy (x.waits.at i).op:=by
     grind[bR]
   rw[hI,aI (by omega) hf (by first|assumption|omega)]
  refine bY ?_ (pc (pR ((i:Int) - 1)) (pc (pI 77 ((i:Int) - 1) (i - 1) (s:=x.waits) (fun w hk hr=>(aJ.kp hx hk))) (pF 79 (i - 1) 0 1 (s:=x.waits) (fun w hk hr=>(aJ.kp hx hk)))))
  refine Md ((x.waits.at i).seq≤(x.waits.at (i - 1)).seq) (fun yn=>?_) fun yn=>?_
  ·refine cd 9 ?_
   have hf:bR x.abs i=9:=by
     grind[bR]
   rw[hI,aI (by omega) hf (by first|assumption|omega)]
  refine Mp ?_ call155 (fun bs w hS=>jv (B:=bH) (x.waits.at i).op w ⟨(Sl.ok.at (s:=x.waits) (i:=i) cC (by omega)).1,(Sl.ok.at (s:=x.waits) (i:=i) cC (by omega)).2⟩)
  refine cr (jy (x.waits.at i).op=0) (fun EU=>?_) fun EU=>?_
  ·refine Mi ?_ (pR ((i:Int)+1))
   have kT:bR x.abs i=0:=by
     grind[bR]
   exact j8 (i+1) ⟨by omega,by rw[hI];exact bN (by omega) kT,fun _=>by omega⟩ (by omega)
  refine cd (jy (x.waits.at i).op) ?_
  have hf:bR x.abs i=jy (x.waits.at i).op:=by
    grind[bR]
  rw[hI,aI (by omega) hf (by first|assumption|omega)]
 refine Md (x.aD=0) (fun h6=>?_) fun h6=>?_
 ·have hm:bW x.abs=9:=by
    grind[bW]
  exact cd 9 hm
 refine Ml (σ:=Nat) (fun i=>i≤x.waits.n∧bW x.abs=ek (bR x.abs) (x.waits.n - i) i∧(0<i→1≤(x.waits.at 0).seq∧(x.waits.at 0).seq<x.next)) (fun i=>x.waits.n - i) (fun _=>[]) [3,1] (fun i=>[(3,vI (i:Int))]) (fun _=>[]) ?_ 0 ⟨Nat.zero_le _,by unfold bW;simp only[j0,iO,iv,rA];rw[if_neg (by omega),if_neg (by omega)],fun h=>absurd h (by omega)⟩
 rintro i ⟨hi,hI,h0⟩ _ bu
 have hz:i=0∨(0<i∧1≤(x.waits.at 0).seq∧(x.waits.at 0).seq<x.next):=by rcases Nat.eq_zero_or_pos i with h|h;exact .inl h;exact .inr ⟨h,h0 h⟩
 have rb:i=0→(x.waits.at i).seq=(x.waits.at 0).seq:=fun h=>by rw[h]
 refine Md ((i:Int)<(x.waits.n:Int)) (fun h7=>?_) fun h7=>?_
 rotate_left
 ·exact cd 0 (by rw[hI,eX (by omega)])
 refine Mi ?_ (pA 47 48 (i:Int) i (s:=x.waits) (fun w hk hr=>(aJ.kp hx hk)))
 refine cZ 34 [] [] [] ai ?_
 refine bY ?_ (pR (x.next - 1))
 refine Mp ?_ call51 (fun bs w hS=>b6 (x.waits.at i).seq 1 (x.next - 1) w)
 refine fL (gk (x.waits.at i).seq 1 (x.next - 1)) (fun h8=>?_) fun h8=>?_
 rotate_left
 ·simp only[iT,iF]at h8
  refine cd 9 ?_
  have hf:bR x.abs i=9:=by
    grind[bR]
  rw[hI,aI (by omega) hf (by first|assumption|omega)]
 simp only[iT,iF]at h8
 refine bY ?_ (pc (pI 61 0 0 (s:=x.waits) (fun w hk hr=>(aJ.kp hx hk))) (pc (pF 63 0 0 1 (s:=x.waits) (fun w hk hr=>(aJ.kp hx hk))) (pR ((x.waits.at i).seq - (x.waits.at 0).seq))))
 refine Md ((3:Int)<(x.waits.at i).seq - (x.waits.at 0).seq) (fun h9=>?_) fun h9=>?_
 ·refine cd 9 ?_
  have hf:bR x.abs i=9:=by
    grind[bR]
  rw[hI,aI (by omega) hf (by first|assumption|omega)]
 refine Md ((0:Int)<(i:Int)) (fun ir=>?_) fun ir=>?_
 rotate_left
 ·refine Mp ?_ call155 (fun bs w hS=>jv (B:=bH) (x.waits.at i).op w ⟨(Sl.ok.at (s:=x.waits) (i:=i) cC (by omega)).1,(Sl.ok.at (s:=x.waits) (i:=i) cC (by omega)).2⟩)
  refine cr (jy (x.waits.at i).op=0) (fun k7=>?_) fun k7=>?_
  ·refine Mi ?_ (pR ((i:Int)+1))
   have kT:bR x.abs i=0:=by
     grind[bR]
   exact bu (i+1) ⟨by omega,by rw[hI];exact bN (by omega) kT,fun _=>by omega⟩ (by omega)
  refine cd (jy (x.waits.at i).op) ?_
  have hf:bR x.abs i=jy (x.waits.at i).op:=by
    grind[bR]
  rw[hI,aI (by omega) hf (by first|assumption|omega)]
 refine bY ?_ (pc (pR ((i:Int) - 1)) (pc (pI 77 ((i:Int) - 1) (i - 1) (s:=x.waits) (fun w hk hr=>(aJ.kp hx hk))) (pF 79 (i - 1) 0 1 (s:=x.waits) (fun w hk hr=>(aJ.kp hx hk)))))
 refine Md ((x.waits.at i).seq≤(x.waits.at (i - 1)).seq) (fun g7=>?_) fun g7=>?_
 ·refine cd 9 ?_
  have hf:bR x.abs i=9:=by
    grind[bR]
  rw[hI,aI (by omega) hf (by first|assumption|omega)]
 refine Mp ?_ call155 (fun bs w hS=>jv (B:=bH) (x.waits.at i).op w ⟨(Sl.ok.at (s:=x.waits) (i:=i) cC (by omega)).1,(Sl.ok.at (s:=x.waits) (i:=i) cC (by omega)).2⟩)
 refine cr (jy (x.waits.at i).op=0) (fun jW=>?_) fun jW=>?_
 ·refine Mi ?_ (pR ((i:Int)+1))
  have kT:bR x.abs i=0:=by
    grind[bR]
  exact bu (i+1) ⟨by omega,by rw[hI];exact bN (by omega) kT,fun _=>by omega⟩ (by omega)
 refine cd (jy (x.waits.at i).op) ?_
 have hf:bR x.abs i=jy (x.waits.at i).op:=by
   grind[bR]
 rw[hI,aI (by omega) hf (by first|assumption|omega)]
theorem ox (x:aF)(w:World)(hx:aJ.sub B w x):Calls prog 202 #[.agg #[.int .i64 x.kind,.int .i64 x.ag,.int .i64 x.aD,.int .i64 x.seq,.int .i64 x.aC,.int .i64 x.op.kind,.string x.op.a,.string x.op.b,.int .i64 x.op.n]] w fun e w'=>e=.returned (.tuple #[.string (g6 x).1,.int .i64 (g6 x).2])∧Kp [] w w':=by
 have cC:=aJ.bL hx
 have Sh:=ka x.op.a
 have Si:=ka x.op.b
 refine M0 ?_ func202
 refine Mp ?_ call67 (fun bs w hS=>mq (B:=bH) x w (aJ.kp hx hS.kp))
 refine cr (dP x=0) (fun h1=>?_) (fun h1=>?_)
 rotate_left
 ·refine Mt [.string emp,.int .i64 (dP x)] fun bs w hS=>?_
  refine⟨?_,hS.kp⟩
  simp only[bO,den,List.map_cons,List.map_nil]
  have hm:g6 x=(emp,dP x):=by grind[g6]
  rw[hm]
 refine M1 ?_
 refine DR (eS:=5) [x.kind % 256,x.ag % 256] ?_
 refine cr (x.kind=2) (fun h2=>?_) fun h2=>?_
 rotate_left
 ·refine Mt [vs (cP ([x.kind % 256,x.ag % 256])),vi 0] fun bs w hS=>?_
  refine⟨?_,hS.kp⟩
  simp only[bO,den,List.map_cons,List.map_nil]
  have hm:g6 x=(cP ([x.kind % 256,x.ag % 256]),0):=by grind[g6]
  rw[hm]
 have lT: ∀z,z∈([x.aD,x.seq,x.aC,x.op.kind,x.op.n]:List Int)→ ∀w,aJ.sub bH w z:=(fun _ _ _=>trivial)
 refine DS (α:=Int) (e:=3) [x.aD,x.seq,x.aC,x.op.kind,x.op.n] ?_ lT
 intro y1 pM ft
 refine Ml (σ:=Nat) (fun i=>i≤y1.n) (fun i=>y1.n - i) (fun i=>[ay 3 y1.A y1.c (y1.xs:List Int)]) [45,44,43,5,1] (fun i=>[(45,vI (i:Int)),(5,vS (kP (cP ([x.kind % 256,x.ag % 256])) (y1.xs.take i)))]) (fun _=>[]) ?_ 0 (Nat.zero_le _) (hp:=(by simp only[List.take_zero];kernel_rfl))
 rintro i hi _ bu
 have JN:y1.n=5:=by rw[Sl.n,pM];rfl
 have hz:=oM (cP ([x.kind % 256,x.ag % 256])) (y1.xs.take i)
 have rb:=eB (y1.at i)
 have Sj:(y1.xs.take i).length≤5:=by rw[List.length_take];unfold Sl.n at JN;omega
 have Sk:(cP ([x.kind % 256,x.ag % 256])).size=2:=rfl
 refine Md ((i:Int)<(y1.n:Int)) (fun h3=>?_) fun h3=>?_
 ·refine Mi ?_ (pA 47 48 (i:Int) i (s:=y1) (fun w hk hr=>(Rr (B:=bH) (hr _ i0) (fun _ _=>trivial) (fun z hz=>lT z (pM▸hz) _))))
  refine Mp ?_ call228 (fun bs w hS=>nf (y1.at i) w)
  refine Mi ?_ (pc (pP ((kP (cP ([x.kind % 256,x.ag % 256])) (y1.xs.take i)).size+(cf (y1.at i)).1.size≤9223372036854775807) (by (try simp only[kz]);omega)) (pR ((i:Int)+1)))
  exact bu (i+1) (by omega) (by omega) (hp:=(by simp only[←gq (s:=y1) (i:=i) (show i<y1.n by omega),wA];kernel_rfl))
 have IT: ∀z,z∈([x.op.a,x.op.b]:List ByteArray)→ ∀w,aJ.sub bH w z:=(fun z hz w=>by simp only[List.mem_cons,List.not_mem_nil,or_false]at hz;rcases hz with rfl|rfl;exact cC.1;exact cC.2)
 refine DS (α:=ByteArray) (e:=9) [x.op.a,x.op.b] ?_ IT
 intro y2 DP jT
 refine Ml (σ:=Nat) (fun j=>j≤y2.n) (fun j=>y2.n - j) (fun j=>[ay 9 y2.A y2.c (y2.xs:List ByteArray),ay 3 y1.A y1.c (y1.xs:List Int)]) [66,65,64,5] (fun j=>[(66,vI (j:Int)),(5,vS (pD (kP (cP ([x.kind % 256,x.ag % 256])) y1.xs) (y2.xs.take j)))]) (fun _=>[]) ?_ 0 (Nat.zero_le _) (hp:=(by rw[dE (by omega)];simp only[List.take_zero];kernel_rfl))
 rintro j hj _ j8
 have hn2:y2.n=2:=by rw[Sl.n,DP];rfl
 have hw:=wB (kP (cP ([x.kind % 256,x.ag % 256])) y1.xs) (y2.xs.take j)
 have NJ:=oM (cP ([x.kind % 256,x.ag % 256])) y1.xs
 have NK:=ka (y2.at j)
 have TG:(y2.xs.take j).length≤2:=by rw[List.length_take];unfold Sl.n at hn2;omega
 have TH:y1.xs.length=5:=JN
 refine Md ((j:Int)<(y2.n:Int)) (fun h4=>?_) fun h4=>?_
 rotate_left
 ·refine Mt [vs (pD (kP (cP ([x.kind % 256,x.ag % 256])) y1.xs) (y2.xs.take j)),vi 0] fun bs w hS=>?_
  refine⟨?_,hS.kp⟩
  simp only[bO,den,List.map_cons,List.map_nil]
  have hq:pD (kP (cP ([x.kind % 256,x.ag % 256])) y1.xs) (y2.xs.take j)=pD (kP (cP ([x.kind % 256,x.ag % 256])) [x.aD,x.seq,x.aC,x.op.kind,x.op.n]) [x.op.a,x.op.b]:=by rw[dE (by omega),pM,DP]
  have hm:g6 x=(pD (kP (cP ([x.kind % 256,x.ag % 256])) [x.aD,x.seq,x.aC,x.op.kind,x.op.n]) [x.op.a,x.op.b],0):=by grind[g6]
  rw[hm,hq]
 refine Mi ?_ (pA 68 69 (j:Int) j (s:=y2) (fun w hk hr=>(Rr (B:=bH) (hr _ i0) (fun _ _=>trivial) (fun z hz=>IT z (DP▸hz) _))))
 refine Mp ?_ call229 (fun bs w hS=>u4 _ w (Sl.ok.at (s:=y2) (i:=j) jT (by omega)))
 refine Mi ?_ (pc (pP ((pD (kP (cP ([x.kind % 256,x.ag % 256])) y1.xs) (y2.xs.take j)).size+(gr (y2.at j)).1.size≤9223372036854775807) (by (try simp only[kz]);omega)) (pR ((j:Int)+1)))
 exact j8 (j+1) (by omega) (by omega) (hp:=(by simp only[←gq (s:=y2) (i:=j) (show j<y2.n by omega),DB];kernel_rfl))
theorem mR (x:aF)(w:World)(hx:aJ.sub B w x):Calls prog 179 #[.agg #[.int .i64 x.kind,.int .i64 x.ag,.int .i64 x.aD,.int .i64 x.seq,.int .i64 x.aC,.int .i64 x.op.kind,.string x.op.a,.string x.op.b,.int .i64 x.op.n]] w fun e w'=>e=.returned (.tuple #[.string (g6 x).1,.int .i64 (g6 x).2])∧Kp [] w w':=by
 have cC:=aJ.bL hx
 have Sh:=ka x.op.a
 have Si:=ka x.op.b
 refine M0 ?_ func179
 refine Mp ?_ call97 (fun bs w hS=>kh (B:=bH) x w (aJ.kp hx hS.kp))
 refine cr (dP x=0) (fun h1=>?_) (fun h1=>?_)
 rotate_left
 ·refine Mt [.string emp,.int .i64 (dP x)] fun bs w hS=>?_
  refine⟨?_,hS.kp⟩
  simp only[bO,den,List.map_cons,List.map_nil]
  have hm:g6 x=(emp,dP x):=by grind[g6]
  rw[hm]
 refine M1 ?_
 refine DR (eS:=5) [x.kind % 256,x.ag % 256] ?_
 refine Md (x.kind=2) (fun h2=>?_) fun h2=>?_
 rotate_left
 ·refine Mt [vs (cP ([x.kind % 256,x.ag % 256])),vi 0] fun bs w hS=>?_
  refine⟨?_,hS.kp⟩
  simp only[bO,den,List.map_cons,List.map_nil]
  have hm:g6 x=(cP ([x.kind % 256,x.ag % 256]),0):=by grind[g6]
  rw[hm]
 have lT: ∀z,z∈([x.aD,x.seq,x.aC,x.op.kind,x.op.n]:List Int)→ ∀w,aJ.sub bH w z:=(fun _ _ _=>trivial)
 refine DS (α:=Int) (e:=3) [x.aD,x.seq,x.aC,x.op.kind,x.op.n] ?_ lT
 intro y1 pM ft
 refine Ml (σ:=Nat) (fun i=>i≤y1.n) (fun i=>y1.n - i) (fun i=>[ay 3 y1.A y1.c (y1.xs:List Int)]) [7,6,5,1] (fun i=>[(7,vI (i:Int)),(5,vS (kP (cP ([x.kind % 256,x.ag % 256])) (y1.xs.take i)))]) (fun _=>[]) ?_ 0 (Nat.zero_le _) (hp:=(by simp only[List.take_zero];kernel_rfl))
 rintro i hi _ bu
 have JN:y1.n=5:=by rw[Sl.n,pM];rfl
 have hz:=oM (cP ([x.kind % 256,x.ag % 256])) (y1.xs.take i)
 have rb:=eB (y1.at i)
 have Sj:(y1.xs.take i).length≤5:=by rw[List.length_take];unfold Sl.n at JN;omega
 have Sk:(cP ([x.kind % 256,x.ag % 256])).size=2:=rfl
 refine Md ((i:Int)<(y1.n:Int)) (fun h3=>?_) fun h3=>?_
 ·refine Mi ?_ (pA 52 53 (i:Int) i (s:=y1) (fun w hk hr=>(Rr (B:=bH) (hr _ i0) (fun _ _=>trivial) (fun z hz=>lT z (pM▸hz) _))))
  refine Mp ?_ call212 (fun bs w hS=>kS (y1.at i) w)
  refine Mi ?_ (pc (pP ((kP (cP ([x.kind % 256,x.ag % 256])) (y1.xs.take i)).size+(cf (y1.at i)).1.size≤9223372036854775807) (by (try simp only[kz]);omega)) (pR ((i:Int)+1)))
  exact bu (i+1) (by omega) (by omega) (hp:=(by simp only[←gq (s:=y1) (i:=i) (show i<y1.n by omega),wA];kernel_rfl))
 refine Mp ?_ call213 (fun bs w hS=>mn _ w cC.1)
 refine Mp ?_ call213 (fun bs w hS=>mn _ w cC.2)
 refine Mi ?_ (pc (pP ((kP (cP ([x.kind % 256,x.ag % 256])) (y1.xs.take i)).size+(gr x.op.a).1.size≤9223372036854775807) (by (try simp only[kz]);omega)) (pP (((kP (cP ([x.kind % 256,x.ag % 256])) (y1.xs.take i))++(gr x.op.a).1).size+(gr x.op.b).1.size≤9223372036854775807) (by (try simp only[kz]);omega)))
 refine Mt [vs (((kP (cP ([x.kind % 256,x.ag % 256])) (y1.xs.take i))++(gr x.op.a).1)++(gr x.op.b).1),vi 0] fun bs w hS=>?_
 refine⟨?_,hS.kp⟩
 simp only[bO,den,List.map_cons,List.map_nil]
 have hq:((kP (cP ([x.kind % 256,x.ag % 256])) (y1.xs.take i))++(gr x.op.a).1)++(gr x.op.b).1=pD (kP (cP ([x.kind % 256,x.ag % 256])) [x.aD,x.seq,x.aC,x.op.kind,x.op.n]) [x.op.a,x.op.b]:=by rw[dE (by omega),pM];rfl
 have hm:g6 x=(pD (kP (cP ([x.kind % 256,x.ag % 256])) [x.aD,x.seq,x.aC,x.op.kind,x.op.n]) [x.op.a,x.op.b],0):=by grind[g6]
 rw[hm,hq]
theorem oy (x:av)(w:World)(hx:aJ.sub B w x)(hb:1≤x.next∧x.next≤1048577)(gT:0<x.waits.n→1≤(x.waits.at 0).seq∧(x.waits.at 0).seq≤1048576):Calls prog 203 #[x.val] w fun e w'=>e=.returned (vi (jI x.abs))∧Kp [] w w':=by
 have fg: ∀q,x.abs.waits.getD q dd=x.waits.at q:=fun _=>rfl
 have j0:x.abs.id=x.id:=rfl
 have iO:x.abs.aD=x.aD:=rfl
 have iv:x.abs.next=x.next:=rfl
 have rA:x.abs.waits.length=x.waits.n:=rfl
 have cC:=aJ.bL hx
 have mr:=Sl.ok.nc cC
 have mu:x.waits.n=x.waits.xs.length:=rfl
 refine M0 ?_ func203
 refine Md ((0:Int)<(x.waits.n:Int)) (fun h1=>?_) fun h1=>?_
 rotate_left
 ·refine Mi ?_ (pR (x.next - 1))
  have hm:jI x.abs=x.next - 1:=by
    grind[jI]
  exact cd (x.next - 1) hm
 have hz:=gT (by omega)
 refine Mi ?_ (pc (pI 9 0 0 (s:=x.waits) (fun w hk hr=>(aJ.kp hx hk))) (pc (pF 11 0 0 1 (s:=x.waits) (fun w hk hr=>(aJ.kp hx hk))) (pR ((x.waits.at 0).seq - 1))))
 have hm:jI x.abs=(x.waits.at 0).seq - 1:=by
   grind[jI]
 exact cd ((x.waits.at 0).seq - 1) hm
theorem sL (x:av)(w:World)(hx:aJ.sub B w x)(hb:1≤x.next∧x.next≤1048577)(gT:0<x.waits.n→1≤(x.waits.at 0).seq∧(x.waits.at 0).seq≤1048576):Calls prog 180 #[x.val] w fun e w'=>e=.returned (vi (jI x.abs))∧Kp [] w w':=by
 have fg: ∀q,x.abs.waits.getD q dd=x.waits.at q:=fun _=>rfl
 have j0:x.abs.id=x.id:=rfl
 have iO:x.abs.aD=x.aD:=rfl
 have iv:x.abs.next=x.next:=rfl
 have rA:x.abs.waits.length=x.waits.n:=rfl
 have cC:=aJ.bL hx
 have mr:=Sl.ok.nc cC
 have mu:x.waits.n=x.waits.xs.length:=rfl
 refine M0 ?_ func180
 refine Md ((x.waits.n:Int)=0) (fun h1=>?_) fun h1=>?_
 ·refine Mi ?_ (pR (x.next - 1))
  have hm:jI x.abs=x.next - 1:=by
    grind[jI]
  exact cd (x.next - 1) hm
 have hz:=gT (by omega)
 refine Mi ?_ (pc (pI 12 0 0 (s:=x.waits) (fun w hk hr=>(aJ.kp hx hk))) (pc (pF 14 0 0 1 (s:=x.waits) (fun w hk hr=>(aJ.kp hx hk))) (pR ((x.waits.at 0).seq - 1))))
 have hm:jI x.abs=(x.waits.at 0).seq - 1:=by
   grind[jI]
 exact cd ((x.waits.at 0).seq - 1) hm
theorem u9 (x:av)(w:World)(hx:aJ.sub B w x):Calls prog 163 #[x.val] w fun e w'=>e=.returned (.tuple #[vs (gv x.abs).1,vi (gv x.abs).2])∧Kp [] w w':=by
 have fg: ∀q,x.abs.waits.getD q dd=x.waits.at q:=fun _=>rfl
 have j0:x.abs.id=x.id:=rfl
 have iO:x.abs.aD=x.aD:=rfl
 have iv:x.abs.next=x.next:=rfl
 have rA:x.abs.waits.length=x.waits.n:=rfl
 have cC:=aJ.bL hx
 have mr:=Sl.ok.nc cC
 have mu:x.waits.n=x.waits.xs.length:=rfl
 refine M0 ?_ func163
 refine Mp ?_ call201 (fun bs w hS=>jS x w (aJ.kp hx hS.kp))
 refine cr (bW x.abs=0) (fun h1=>?_) fun h1=>?_
 rotate_left
 ·refine Mt [ve,vi (bW x.abs)] fun bs w hS=>?_
  refine⟨?_,hS.kp⟩
  have hm:gv x.abs=(emp,bW x.abs):=by
    unfold gv;rw[if_neg h1]
  rw[hm]
  rfl
 have BQ:=mb h1
 obtain⟨gU,gT,jB,nH,va,nJ,BR,JO,vc⟩:=hG h1
 rw[j0]at gU gT
 rw[iO]at jB nH
 rw[iv]at va nJ
 rw[rA]at BR vc
 have vd: ∀j,j<x.waits.n→1≤(x.waits.at j).seq∧(x.waits.at j).seq≤1048576:=fun j hj=>by have hz:=iR (vc j hj);rw[fg,iv]at hz;omega
 refine Mp ?_ call202 (fun bs w hS=>ox (B:=bH) (⟨1,x.id,0,0,0,⟨0,emp,emp,0⟩⟩:aF) w ⟨(show emp.size≤9223372036854775807 from (by first|assumption|omega|(simp only[aL];omega))),(show emp.size≤9223372036854775807 from (by first|assumption|omega|(simp only[aL];omega)))⟩)
 refine Mt [vs (g6 (⟨1,x.id,0,0,0,⟨0,emp,emp,0⟩⟩:aF)).1,vi (g6 (⟨1,x.id,0,0,0,⟨0,emp,emp,0⟩⟩:aF)).2] fun bs w hS=>?_
 refine⟨?_,hS.kp⟩
 have hm:gv x.abs=((g6 (⟨1,x.id,0,0,0,⟨0,emp,emp,0⟩⟩:aF)).1,(g6 (⟨1,x.id,0,0,0,⟨0,emp,emp,0⟩⟩:aF)).2):=by
   unfold gv;rw[if_pos (by assumption)];rfl
 rw[hm]
 rfl
theorem Ak (x:av)(w:World)(hx:aJ.sub B w x):Calls prog 120 #[x.val] w fun e w'=>e=.returned (.tuple #[vs (gv x.abs).1,vi (gv x.abs).2])∧Kp [] w w':=by
 have fg: ∀q,x.abs.waits.getD q dd=x.waits.at q:=fun _=>rfl
 have j0:x.abs.id=x.id:=rfl
 have iO:x.abs.aD=x.aD:=rfl
 have iv:x.abs.next=x.next:=rfl
 have rA:x.abs.waits.length=x.waits.n:=rfl
 have cC:=aJ.bL hx
 have mr:=Sl.ok.nc cC
 have mu:x.waits.n=x.waits.xs.length:=rfl
 refine M0 ?_ func120
 refine Mp ?_ call178 (fun bs w hS=>g4 x w (aJ.kp hx hS.kp))
 refine cr (bW x.abs=0) (fun h1=>?_) fun h1=>?_
 rotate_left
 ·refine Mt [ve,vi (bW x.abs)] fun bs w hS=>?_
  refine⟨?_,hS.kp⟩
  have hm:gv x.abs=(emp,bW x.abs):=by
    unfold gv;rw[if_neg h1]
  rw[hm]
  rfl
 have BQ:=mb h1
 obtain⟨gU,gT,jB,nH,va,nJ,BR,JO,vc⟩:=hG h1
 rw[j0]at gU gT
 rw[iO]at jB nH
 rw[iv]at va nJ
 rw[rA]at BR vc
 have vd: ∀j,j<x.waits.n→1≤(x.waits.at j).seq∧(x.waits.at j).seq≤1048576:=fun j hj=>by have hz:=iR (vc j hj);rw[fg,iv]at hz;omega
 refine Mp ?_ call179 (fun bs w hS=>mR (B:=bH) (⟨1,x.id,0,0,0,⟨0,emp,emp,0⟩⟩:aF) w ⟨(show emp.size≤9223372036854775807 from (by first|assumption|omega|(simp only[aL];omega))),(show emp.size≤9223372036854775807 from (by first|assumption|omega|(simp only[aL];omega)))⟩)
 refine Mt [vs (g6 (⟨1,x.id,0,0,0,⟨0,emp,emp,0⟩⟩:aF)).1,vi (g6 (⟨1,x.id,0,0,0,⟨0,emp,emp,0⟩⟩:aF)).2] fun bs w hS=>?_
 refine⟨?_,hS.kp⟩
 have hm:gv x.abs=((g6 (⟨1,x.id,0,0,0,⟨0,emp,emp,0⟩⟩:aF)).1,(g6 (⟨1,x.id,0,0,0,⟨0,emp,emp,0⟩⟩:aF)).2):=by
   unfold gv;rw[if_pos (by assumption)];rfl
 rw[hm]
 rfl
theorem si (x:av)(n:Int)(w:World)(hx:aJ.sub B w x):Calls prog 164 #[x.val,vi n] w fun e w'=>e=.returned (.tuple #[vs (kB x.abs n).1,vi (kB x.abs n).2])∧Kp [] w w':=by
 have fg: ∀q,x.abs.waits.getD q dd=x.waits.at q:=fun _=>rfl
 have j0:x.abs.id=x.id:=rfl
 have iO:x.abs.aD=x.aD:=rfl
 have iv:x.abs.next=x.next:=rfl
 have rA:x.abs.waits.length=x.waits.n:=rfl
 have cC:=aJ.bL hx
 have mr:=Sl.ok.nc cC
 have mu:x.waits.n=x.waits.xs.length:=rfl
 refine M0 ?_ func164
 refine Mp ?_ call201 (fun bs w hS=>jS x w (aJ.kp hx hS.kp))
 refine cr (bW x.abs=0) (fun h1=>?_) fun h1=>?_
 rotate_left
 ·refine Mt [ve,vi (bW x.abs)] fun bs w hS=>?_
  refine⟨?_,hS.kp⟩
  have hm:kB x.abs n=(emp,bW x.abs):=by
    unfold kB;rw[if_neg h1]
  rw[hm]
  rfl
 have BQ:=mb h1
 obtain⟨gU,gT,jB,nH,va,nJ,BR,JO,vc⟩:=hG h1
 rw[j0]at gU gT
 rw[iO]at jB nH
 rw[iv]at va nJ
 rw[rA]at BR vc
 have vd: ∀j,j<x.waits.n→1≤(x.waits.at j).seq∧(x.waits.at j).seq≤1048576:=fun j hj=>by have hz:=iR (vc j hj);rw[fg,iv]at hz;omega
 refine Md (n<0) (fun h2=>?_) fun h2=>?_
 ·refine Mt [ve,vi 6] fun bs w hS=>?_
  refine⟨?_,hS.kp⟩
  have hm:kB x.abs n=(emp,6):=by
    grind[kB]
  rw[hm]
  rfl
 refine Md ((x.waits.n:Int)≤n) (fun h3=>?_) fun h3=>?_
 ·refine Mt [ve,vi 6] fun bs w hS=>?_
  refine⟨?_,hS.kp⟩
  have hm:kB x.abs n=(emp,6):=by
    grind[kB]
  rw[hm]
  rfl
 refine Mi ?_ (pA 25 26 n (n).toNat (s:=x.waits) (fun w hk hr=>(aJ.kp hx hk)))
 refine cZ 16 [] [] [] ai ?_
 refine Mp ?_ call203 (fun bs w hS=>oy x w (aJ.kp hx hS.kp) ⟨by omega,by omega⟩ (fun hz=>vd 0 hz))
 refine Mp ?_ call202 (fun bs w hS=>ox (B:=bH) (⟨2,x.id,x.aD,(x.waits.at (n).toNat).seq,jI x.abs,⟨(x.waits.at (n).toNat).op.kind,(x.waits.at (n).toNat).op.a,(x.waits.at (n).toNat).op.b,(x.waits.at (n).toNat).op.n⟩⟩:aF) w ⟨(show (x.waits.at (n).toNat).op.a.size≤9223372036854775807 from (Sl.ok.at (s:=x.waits) (i:=(n).toNat) cC (by omega)).1),(show (x.waits.at (n).toNat).op.b.size≤9223372036854775807 from (Sl.ok.at (s:=x.waits) (i:=(n).toNat) cC (by omega)).2)⟩)
 refine Mt [vs (g6 (⟨2,x.id,x.aD,(x.waits.at (n).toNat).seq,jI x.abs,⟨(x.waits.at (n).toNat).op.kind,(x.waits.at (n).toNat).op.a,(x.waits.at (n).toNat).op.b,(x.waits.at (n).toNat).op.n⟩⟩:aF)).1,vi (g6 (⟨2,x.id,x.aD,(x.waits.at (n).toNat).seq,jI x.abs,⟨(x.waits.at (n).toNat).op.kind,(x.waits.at (n).toNat).op.a,(x.waits.at (n).toNat).op.b,(x.waits.at (n).toNat).op.n⟩⟩:aF)).2] fun bs w hS=>?_
 refine⟨?_,hS.kp⟩
 have hm:kB x.abs n=((g6 (⟨2,x.id,x.aD,(x.waits.at (n).toNat).seq,jI x.abs,⟨(x.waits.at (n).toNat).op.kind,(x.waits.at (n).toNat).op.a,(x.waits.at (n).toNat).op.b,(x.waits.at (n).toNat).op.n⟩⟩:aF)).1,(g6 (⟨2,x.id,x.aD,(x.waits.at (n).toNat).seq,jI x.abs,⟨(x.waits.at (n).toNat).op.kind,(x.waits.at (n).toNat).op.a,(x.waits.at (n).toNat).op.b,(x.waits.at (n).toNat).op.n⟩⟩:aF)).2):=by
   unfold kB;rw[if_pos (by assumption),rA,if_pos (by omega),fg,j0,iO]
 rw[hm]
 rfl
theorem vR (x:av)(n:Int)(w:World)(hx:aJ.sub B w x):Calls prog 121 #[x.val,vi n] w fun e w'=>e=.returned (.tuple #[vs (kB x.abs n).1,vi (kB x.abs n).2])∧Kp [] w w':=by
 have fg: ∀q,x.abs.waits.getD q dd=x.waits.at q:=fun _=>rfl
 have j0:x.abs.id=x.id:=rfl
 have iO:x.abs.aD=x.aD:=rfl
 have iv:x.abs.next=x.next:=rfl
 have rA:x.abs.waits.length=x.waits.n:=rfl
 have cC:=aJ.bL hx
 have mr:=Sl.ok.nc cC
 have mu:x.waits.n=x.waits.xs.length:=rfl
 refine M0 ?_ func121
 refine Mp ?_ call178 (fun bs w hS=>g4 x w (aJ.kp hx hS.kp))
 refine Md (bW x.abs=0) (fun h1=>?_) fun h1=>?_
 rotate_left
 ·refine My false true ?_ (df h1)
  refine Mt [ve,vi (bW x.abs)] fun bs w hS=>?_
  refine⟨?_,hS.kp⟩
  have hm:kB x.abs n=(emp,bW x.abs):=by
    unfold kB;rw[if_neg h1]
  rw[hm]
  rfl
 have BQ:=mb h1
 obtain⟨gU,gT,jB,nH,va,nJ,BR,JO,vc⟩:=hG h1
 rw[j0]at gU gT
 rw[iO]at jB nH
 rw[iv]at va nJ
 rw[rA]at BR vc
 have vd: ∀j,j<x.waits.n→1≤(x.waits.at j).seq∧(x.waits.at j).seq≤1048576:=fun j hj=>by have hz:=iR (vc j hj);rw[fg,iv]at hz;omega
 refine Mi ?_ (pR ((x.waits.n:Int) - 1))
 refine Mp ?_ call51 (fun bs w hS=>b6 n 0 ((x.waits.n:Int) - 1) w)
 refine fL (gk n 0 ((x.waits.n:Int) - 1)) (fun h2=>?_) fun h2=>?_
 rotate_left
 ·simp only[iT,iF]at h2
  refine Mq 21 true ?_ rfl
  refine Mt [ve,vi 6] fun bs w hS=>?_
  refine⟨?_,hS.kp⟩
  have hm:kB x.abs n=(emp,6):=by
    grind[kB]
  rw[hm]
  rfl
 simp only[iT,iF]at h2
 refine My true true ?_ (dt h1)
 refine cZ 24 [] [] [] ai ?_
 refine bY ?_ (pc (pI 30 n (n).toNat (s:=x.waits) (fun w hk hr=>(aJ.kp hx hk))) (pc (pF 32 (n).toNat 0 1 (s:=x.waits) (fun w hk hr=>(aJ.kp hx hk))) (pc (pI 38 n (n).toNat (s:=x.waits) (fun w hk hr=>(aJ.kp hx hk))) (pF 40 (n).toNat 1 4 (s:=x.waits) (fun w hk hr=>(aJ.kp hx hk))))))
 refine Mp ?_ call180 (fun bs w hS=>sL x w (aJ.kp hx hS.kp) ⟨by omega,by omega⟩ (fun hz=>vd 0 hz))
 refine Mp ?_ call179 (fun bs w hS=>mR (B:=bH) (⟨2,x.id,x.aD,(x.waits.at (n).toNat).seq,jI x.abs,⟨(x.waits.at (n).toNat).op.kind,(x.waits.at (n).toNat).op.a,(x.waits.at (n).toNat).op.b,(x.waits.at (n).toNat).op.n⟩⟩:aF) w ⟨(show (x.waits.at (n).toNat).op.a.size≤9223372036854775807 from (Sl.ok.at (s:=x.waits) (i:=(n).toNat) cC (by omega)).1),(show (x.waits.at (n).toNat).op.b.size≤9223372036854775807 from (Sl.ok.at (s:=x.waits) (i:=(n).toNat) cC (by omega)).2)⟩)
 refine Mt [vs (g6 (⟨2,x.id,x.aD,(x.waits.at (n).toNat).seq,jI x.abs,⟨(x.waits.at (n).toNat).op.kind,(x.waits.at (n).toNat).op.a,(x.waits.at (n).toNat).op.b,(x.waits.at (n).toNat).op.n⟩⟩:aF)).1,vi (g6 (⟨2,x.id,x.aD,(x.waits.at (n).toNat).seq,jI x.abs,⟨(x.waits.at (n).toNat).op.kind,(x.waits.at (n).toNat).op.a,(x.waits.at (n).toNat).op.b,(x.waits.at (n).toNat).op.n⟩⟩:aF)).2] fun bs w hS=>?_
 refine⟨?_,hS.kp⟩
 have hm:kB x.abs n=((g6 (⟨2,x.id,x.aD,(x.waits.at (n).toNat).seq,jI x.abs,⟨(x.waits.at (n).toNat).op.kind,(x.waits.at (n).toNat).op.a,(x.waits.at (n).toNat).op.b,(x.waits.at (n).toNat).op.n⟩⟩:aF)).1,(g6 (⟨2,x.id,x.aD,(x.waits.at (n).toNat).seq,jI x.abs,⟨(x.waits.at (n).toNat).op.kind,(x.waits.at (n).toNat).op.a,(x.waits.at (n).toNat).op.b,(x.waits.at (n).toNat).op.n⟩⟩:aF)).2):=by
   unfold kB;rw[if_pos (by assumption),rA,if_pos (by omega),fg,j0,iO]
 rw[hm]
 rfl
theorem BS (s:Sl bD)(w:World)(hs:s.rd B w)(hb:s.n*56≤140737488355328):Calls prog 118 #[s.val] w fun e w'=> ∃y:Sl bD,e=.returned y.val∧y.xs=s.xs∧Kp [] w w'∧gC w w' (ay 168 y.A y.c y.xs):=by
 have cV:=Sl.rd.ok hs
 have iV:=Sl.ok.nc cV
 have iW:s.n=s.xs.length:=rfl
 refine M0 ?_ func118
 refine Mi ?_ (pG [(4,.val (.bool s.A.isNone))] (oc ((eq_nil Tryz.underlying99): ∀w,(do eqGuard .eql 99 (.tmp 3) (.const vn) s.val vn;binOp .eql 99 s.val vn:Sem Value).run prog w=.ok (.bool s.A.isNone) w) on))
 refine Mb s.A.isNone (fun h1=>?_) fun h1=>?_
 ·refine Mt [vn] fun bs w hS=>?_
  have yq:s.xs=[]:=Sl.ok.empty cV (by cases h:s.A<;>simp_all)
  exact⟨Sl.nil,rfl,yq.symm,hS.kp,nX 168 w⟩
 refine LM ?_ (α:=bD) (e:=168)
 intro A1
 refine Ma ?_ (α:=bD) (L2:=s.xs) 56 (fun bs w hS=>Sl.rd.src (s:=s) (Sl.rd.kp hs hS.kp))
 intro A2 c2
 exact Mt [.slice A2 ([]++s.xs).length c2] fun bs w hS=>⟨⟨A2,c2,[]++s.xs⟩,rfl,by simp,hS.kp,hS.rG⟩
theorem lU (x:av)(w:World)(hx:aJ.sub B w x)(hb:x.waits.n*56≤140737488355328):Calls prog 56 #[x.val] w fun e w'=> ∃y:Sl bD,e=.returned (.agg #[vi x.id,vi x.aD,vi x.next,y.val])∧y.xs=x.waits.xs∧Kp [] w w'∧gC w w' (ay 168 y.A y.c y.xs):=by
 have fg: ∀q,x.abs.waits.getD q dd=x.waits.at q:=fun _=>rfl
 have j0:x.abs.id=x.id:=rfl
 have iO:x.abs.aD=x.aD:=rfl
 have iv:x.abs.next=x.next:=rfl
 have rA:x.abs.waits.length=x.waits.n:=rfl
 have cC:=aJ.bL hx
 have mr:=Sl.ok.nc cC
 have mu:x.waits.n=x.waits.xs.length:=rfl
 refine M0 ?_ func56
 refine Mf ?_ call118 (fun bs w hS=>BS x.waits w (aJ.kp hx hS.kp) hb)
 rintro y1 a5
 exact Mt [.agg #[vi x.id,vi x.aD,vi x.next,y1.val]] fun bs w hS=>⟨y1,rfl,a5,hS.kp,hS.rG⟩
theorem vT (x:av)(w:World)(hx:aJ.sub B w x)(hb:x.waits.n*56≤140737488355328):Calls prog 56 #[x.val] w fun e w'=> ∃y:av,e=.returned (y.val)∧y.abs=x.abs∧bJ w w' y:=
  (lU x w hx hb).mono fun e w' ⟨y,h1,h2,h3,h4⟩=>⟨⟨x.id,x.aD,x.next,y⟩,h1,by simp[av.abs,h2],h3,h4.sub fun hp=>Rr hp (fun b hb=>hb) fun z hz=>Sl.rd.mem (s:=x.waits) hx z (h2▸hz)⟩
theorem mi (x:av)(w:World)(hx:aJ.sub B w x)(hb:x.waits.n*56≤140737488355328):Calls prog 60 #[x.val] w fun e w'=> ∃y:Sl bD,e=.returned (.agg #[vi x.id,vi x.aD,vi x.next,y.val])∧y.xs=x.waits.xs∧Kp [] w w'∧gC w w' (ay 168 y.A y.c y.xs):=by
 have fg: ∀q,x.abs.waits.getD q dd=x.waits.at q:=fun _=>rfl
 have j0:x.abs.id=x.id:=rfl
 have iO:x.abs.aD=x.aD:=rfl
 have iv:x.abs.next=x.next:=rfl
 have rA:x.abs.waits.length=x.waits.n:=rfl
 have cC:=aJ.bL hx
 have mr:=Sl.ok.nc cC
 have mu:x.waits.n=x.waits.xs.length:=rfl
 refine M0 ?_ func60
 refine cZ 10 [] [] [] ai ?_
 refine bU (α:=bD) 168 ?_
 refine Ma ?_ (α:=bD) (L2:=x.waits.xs) 56 (fun bs w hS=>Sl.rd.src (s:=x.waits) (aJ.kp hx hS.kp))
 intro A1 c1
 exact Mt [.agg #[vi x.id,vi x.aD,vi x.next,.slice A1 ([]++x.waits.xs).length c1]] fun bs w hS=>⟨⟨A1,c1,[]++x.waits.xs⟩,rfl,by simp,hS.kp,hS.rG⟩
theorem mS (x:av)(w:World)(hx:aJ.sub B w x)(hb:x.waits.n*56≤140737488355328):Calls prog 60 #[x.val] w fun e w'=> ∃y:av,e=.returned (y.val)∧y.abs=x.abs∧bJ w w' y:=
  (mi x w hx hb).mono fun e w' ⟨y,h1,h2,h3,h4⟩=>⟨⟨x.id,x.aD,x.next,y⟩,h1,by simp[av.abs,h2],h3,h4.sub fun hp=>Rr hp (fun b hb=>hb) fun z hz=>Sl.rd.mem (s:=x.waits) hx z (h2▸hz)⟩
theorem vf (x:av)(o:vJ)(w:World)(hx:aJ.sub B w x)(ho:aJ.sub B w o):Calls prog 165 #[x.val,o.val] w fun e w'=> ∃y:av,e=.returned (.tuple #[y.val,vi (mStart x.abs o).2])∧y.abs=(mStart x.abs o).1∧bJ w w' y:=by
 have fg: ∀q,x.abs.waits.getD q dd=x.waits.at q:=fun _=>rfl
 have j0:x.abs.id=x.id:=rfl
 have iO:x.abs.aD=x.aD:=rfl
 have iv:x.abs.next=x.next:=rfl
 have rA:x.abs.waits.length=x.waits.n:=rfl
 have cC:=aJ.bL hx
 have mr:=Sl.ok.nc cC
 have mu:x.waits.n=x.waits.xs.length:=rfl
 have OQ:=aJ.bL ho
 refine M0 ?_ func165
 refine Mp ?_ call201 (fun bs w hS=>jS x w (aJ.kp hx hS.kp))
 refine cr (bW x.abs=0) (fun h1=>?_) fun h1=>?_
 rotate_left
 ·have hm:mStart x.abs o=(fk,bW x.abs):=by
    unfold mStart;rw[iO,iv];simp only[h1,ne_eq,not_true_eq_false,not_false_eq_true,if_true,if_false,reduceIte]
    try rw[if_pos (by omega)]
  exact eE hm ⟨0,0,0,Sl.nil⟩ rfl fun bs w hS=>hS.aO (y:=(⟨0,0,0,Sl.nil⟩:av)) (Sl.ao _ _)
 have BQ:=mb h1
 obtain⟨gU,gT,jB,nH,va,nJ,BR,JO,vc⟩:=hG h1
 rw[j0]at gU gT
 rw[iO]at jB nH
 rw[iv]at va nJ
 rw[rA]at BR vc
 have vd: ∀j,j<x.waits.n→1≤(x.waits.at j).seq∧(x.waits.at j).seq≤1048576:=fun j hj=>by have hz:=iR (vc j hj);rw[fg,iv]at hz;omega
 refine Md (x.aD=0) (fun h2=>?_) fun h2=>?_
 ·have hm:mStart x.abs o=(fk,11):=by
    unfold mStart;rw[iO,iv];simp only[h1,h2,ne_eq,not_true_eq_false,not_false_eq_true,if_true,if_false,reduceIte]
    try rw[if_pos (by omega)]
  exact eE hm ⟨0,0,0,Sl.nil⟩ rfl fun bs w hS=>hS.aO (y:=(⟨0,0,0,Sl.nil⟩:av)) (Sl.ao _ _)
 refine Mp ?_ call134 (fun bs w hS=>fT (B:=bH) o w ho)
 refine cr (jy o=0) (fun h3=>?_) fun h3=>?_
 rotate_left
 ·have hm:mStart x.abs o=(fk,jy o):=by
    unfold mStart;rw[iO,iv];simp only[h1,h2,h3,ne_eq,not_true_eq_false,not_false_eq_true,if_true,if_false,reduceIte]
    try rw[if_pos (by omega)]
  exact eE hm ⟨0,0,0,Sl.nil⟩ rfl fun bs w hS=>hS.aO (y:=(⟨0,0,0,Sl.nil⟩:av)) (Sl.ao _ _)
 refine cZ 11 [] [] [] ai ?_
 refine Md ((1048576:Int)<x.next) (fun h4=>?_) fun h4=>?_
 ·have hm:mStart x.abs o=(fk,8):=by
    unfold mStart;rw[iO,iv];simp only[h1,h2,h3,ne_eq,not_true_eq_false,not_false_eq_true,if_true,if_false,reduceIte]
    try rw[if_pos (by omega)]
  exact eE hm ⟨0,0,0,Sl.nil⟩ rfl fun bs w hS=>hS.aO (y:=(⟨0,0,0,Sl.nil⟩:av)) (Sl.ao _ _)
 refine Mp ?_ call203 (fun bs w hS=>oy x w (aJ.kp hx hS.kp) ⟨by omega,by omega⟩ (fun hz=>vd 0 hz))
 refine bY ?_ (pR ((jI x.abs)+4))
 refine Md ((jI x.abs)+4<x.next) (fun h5=>?_) fun h5=>?_
 ·have hm:mStart x.abs o=(fk,8):=by
    unfold mStart;rw[iO,iv];simp only[h1,h2,h3,ne_eq,not_true_eq_false,not_false_eq_true,if_true,if_false,reduceIte]
    try rw[if_pos (by omega)]
  exact eE hm ⟨0,0,0,Sl.nil⟩ rfl fun bs w hS=>hS.aO (y:=(⟨0,0,0,Sl.nil⟩:av)) (Sl.ao _ _)
 refine Mf ?_ call56 (fun bs w hS=>lU x w (aJ.kp hx hS.kp) (by omega))
 rintro y1 a5
 refine bk (F:=dY y1.A y1.c (y1.xs:List bD)) (fun bs w hS=>br (hS.res _ i0)) fun cI=>?_
 have cn:=cI.2
 have vg: ∀z,z∈y1.xs→z.op.a.size≤9223372036854775807∧z.op.b.size≤9223372036854775807:=fun z hz=>Sl.rd.mem (s:=x.waits) hx z (a5▸hz)
 have Mg:=sT a5
 have Mm:y1.n=y1.xs.length:=rfl
 have ft:Sl.ok y1:=⟨cn.1,by unfold maxLen;exact cn.2,fun i hi=>⟨cI.1 i hi,vg _ (List.mem_of_getElem? (Sl.eA hi))⟩⟩
 refine M1 ?_
 refine gX (α:=bD) 56 ([(⟨x.next,⟨o.kind,o.a,o.b,o.n⟩⟩:bD)]) ?_
 intro A3 c3
 refine Mi ?_ (pR (x.next+1))
 refine Mt [.agg #[vi x.id,vi x.aD,vi (x.next+1),.slice A3 (y1.xs++[(⟨x.next,⟨o.kind,o.a,o.b,o.n⟩⟩:bD)]).length c3],vi 0] fun bs w hS=>?_
 have hm:mStart x.abs o=(⟨x.id,x.aD,x.next+1,x.waits.xs++[⟨x.next,o⟩]⟩,0):=by
   unfold mStart;rw[iO,iv];simp only[h1,h2,h3,ne_eq,not_true_eq_false,not_false_eq_true,if_true,if_false,reduceIte];rw[if_neg (by omega)];rfl
 refine⟨⟨x.id,x.aD,x.next+1,⟨A3,c3,y1.xs++[(⟨x.next,⟨o.kind,o.a,o.b,o.n⟩⟩:bD)]⟩⟩,?_,?_,hS.aO (y:=(⟨x.id,x.aD,x.next+1,⟨A3,c3,y1.xs++[(⟨x.next,⟨o.kind,o.a,o.b,o.n⟩⟩:bD)]⟩⟩:av)) (a4 i0 (hS.res _ i0) (fun z hz=>?_))⟩
 ·rw[hm];rfl
 ·rw[hm];simp[av.abs,a5]
 ·rcases List.mem_append.1 hz with hz|hz
  ·exact vg z hz
  ·rw[List.mem_singleton]at hz;subst hz;exact OQ
theorem pt (x:av)(o:vJ)(w:World)(hx:aJ.sub B w x)(ho:aJ.sub B w o):Calls prog 122 #[x.val,o.val] w fun e w'=> ∃y:av,e=.returned (.tuple #[y.val,vi (mStart x.abs o).2])∧y.abs=(mStart x.abs o).1∧bJ w w' y:=by
 have fg: ∀q,x.abs.waits.getD q dd=x.waits.at q:=fun _=>rfl
 have j0:x.abs.id=x.id:=rfl
 have iO:x.abs.aD=x.aD:=rfl
 have iv:x.abs.next=x.next:=rfl
 have rA:x.abs.waits.length=x.waits.n:=rfl
 have cC:=aJ.bL hx
 have mr:=Sl.ok.nc cC
 have mu:x.waits.n=x.waits.xs.length:=rfl
 have OQ:=aJ.bL ho
 refine M0 ?_ func122
 refine Mp ?_ call178 (fun bs w hS=>g4 x w (aJ.kp hx hS.kp))
 refine Md (bW x.abs=0) (fun h1=>?_) fun h1=>?_
 rotate_left
 ·refine My false false ?_ (df h1)
  refine cZ 15 [] [] [] ai ?_
  refine My false false ?_ (df h1)
  refine My false true ?_ (df h1)
  have hm:mStart x.abs o=(fk,bW x.abs):=by
    unfold mStart;rw[iO,iv];simp only[h1,ne_eq,not_true_eq_false,not_false_eq_true,if_true,if_false,reduceIte]
    try rw[if_pos (by omega)]
  exact eE hm ⟨0,0,0,Sl.nil⟩ rfl fun bs w hS=>hS.aO (y:=(⟨0,0,0,Sl.nil⟩:av)) (Sl.ao _ _)
 have BQ:=mb h1
 obtain⟨gU,gT,jB,nH,va,nJ,BR,JO,vc⟩:=hG h1
 rw[j0]at gU gT
 rw[iO]at jB nH
 rw[iv]at va nJ
 rw[rA]at BR vc
 have vd: ∀j,j<x.waits.n→1≤(x.waits.at j).seq∧(x.waits.at j).seq≤1048576:=fun j hj=>by have hz:=iR (vc j hj);rw[fg,iv]at hz;omega
 refine Md (x.aD=0) (fun h2=>?_) fun h2=>?_
 ·refine Mq 18 false ?_ rfl
  refine cZ 15 [] [] [] ai ?_
  refine Mq 23 false ?_ rfl
  refine Mq 37 true ?_ rfl
  have hm:mStart x.abs o=(fk,11):=by
    unfold mStart;rw[iO,iv];simp only[h1,h2,ne_eq,not_true_eq_false,not_false_eq_true,if_true,if_false,reduceIte]
    try rw[if_pos (by omega)]
  exact eE hm ⟨0,0,0,Sl.nil⟩ rfl fun bs w hS=>hS.aO (y:=(⟨0,0,0,Sl.nil⟩:av)) (Sl.ao _ _)
 refine My true false ?_ (dt h1)
 refine Mp ?_ call155 (fun bs w hS=>jv (B:=bH) o w ho)
 refine cZ 15 [] [] [] ai ?_
 refine Md (jy o=0) (fun h4=>?_) fun h4=>?_
 rotate_left
 ·refine My false true ?_ (df h4)
  have hm:mStart x.abs o=(fk,jy o):=by
    unfold mStart;rw[iO,iv];simp only[h1,h2,h4,ne_eq,not_true_eq_false,not_false_eq_true,if_true,if_false,reduceIte]
    try rw[if_pos (by omega)]
  exact eE hm ⟨0,0,0,Sl.nil⟩ rfl fun bs w hS=>hS.aO (y:=(⟨0,0,0,Sl.nil⟩:av)) (Sl.ao _ _)
 refine Md ((1048576:Int)<x.next) (fun h5=>?_) fun h5=>?_
 ·refine Mq 37 true ?_ rfl
  have hm:mStart x.abs o=(fk,8):=by
    unfold mStart;rw[iO,iv];simp only[h1,h2,h4,ne_eq,not_true_eq_false,not_false_eq_true,if_true,if_false,reduceIte]
    try rw[if_pos (by omega)]
  exact eE hm ⟨0,0,0,Sl.nil⟩ rfl fun bs w hS=>hS.aO (y:=(⟨0,0,0,Sl.nil⟩:av)) (Sl.ao _ _)
 refine Mp ?_ call180 (fun bs w hS=>sL x w (aJ.kp hx hS.kp) ⟨by omega,by omega⟩ (fun hz=>vd 0 hz))
 refine bY ?_ (pR (x.next - (jI x.abs)))
 refine Md ((4:Int)<x.next - (jI x.abs)) (fun h6=>?_) fun h6=>?_
 ·refine Mq 37 true ?_ rfl
  have hm:mStart x.abs o=(fk,8):=by
    unfold mStart;rw[iO,iv];simp only[h1,h2,h4,ne_eq,not_true_eq_false,not_false_eq_true,if_true,if_false,reduceIte]
    try rw[if_pos (by omega)]
  exact eE hm ⟨0,0,0,Sl.nil⟩ rfl fun bs w hS=>hS.aO (y:=(⟨0,0,0,Sl.nil⟩:av)) (Sl.ao _ _)
 refine My true true ?_ (dt h4)
 refine Mf ?_ call60 (fun bs w hS=>mi x w (aJ.kp hx hS.kp) (by omega))
 rintro y1 a5
 refine bk (F:=dY y1.A y1.c (y1.xs:List bD)) (fun bs w hS=>br (hS.res _ i0)) fun cI=>?_
 have cn:=cI.2
 have vg: ∀z,z∈y1.xs→z.op.a.size≤9223372036854775807∧z.op.b.size≤9223372036854775807:=fun z hz=>Sl.rd.mem (s:=x.waits) hx z (a5▸hz)
 have Mg:=sT a5
 have Mm:y1.n=y1.xs.length:=rfl
 have ft:Sl.ok y1:=⟨cn.1,by unfold maxLen;exact cn.2,fun i hi=>⟨cI.1 i hi,vg _ (List.mem_of_getElem? (Sl.eA hi))⟩⟩
 refine M1 ?_
 refine gX (α:=bD) 56 ([(⟨x.next,⟨o.kind,o.a,o.b,o.n⟩⟩:bD)]) ?_
 intro A3 c3
 refine Mi ?_ (pR (x.next+1))
 refine Mt [.agg #[vi x.id,vi x.aD,vi (x.next+1),.slice A3 (y1.xs++[(⟨x.next,⟨o.kind,o.a,o.b,o.n⟩⟩:bD)]).length c3],vi 0] fun bs w hS=>?_
 have hm:mStart x.abs o=(⟨x.id,x.aD,x.next+1,x.waits.xs++[⟨x.next,o⟩]⟩,0):=by
   unfold mStart;rw[iO,iv];simp only[h1,h2,h4,ne_eq,not_true_eq_false,not_false_eq_true,if_true,if_false,reduceIte];rw[if_neg (by omega)];rfl
 refine⟨⟨x.id,x.aD,x.next+1,⟨A3,c3,y1.xs++[(⟨x.next,⟨o.kind,o.a,o.b,o.n⟩⟩:bD)]⟩⟩,?_,?_,hS.aO (y:=(⟨x.id,x.aD,x.next+1,⟨A3,c3,y1.xs++[(⟨x.next,⟨o.kind,o.a,o.b,o.n⟩⟩:bD)]⟩⟩:av)) (a4 i0 (hS.res _ i0) (fun z hz=>?_))⟩
 ·rw[hm];rfl
 ·rw[hm];simp[av.abs,a5]
 ·rcases List.mem_append.1 hz with hz|hz
  ·exact vg z hz
  ·rw[List.mem_singleton]at hz;subst hz;exact OQ
theorem vU {B B':Nat→Prop}(a b:av)(w:World)(ha:aJ.sub B w a)(hb:aJ.sub B' w b)(he:a.abs=b.abs):Calls prog 62 #[a.val,b.val] w fun e w'=>e=.returned (vb true)∧Kp [] w w':=by
 have qa:=aJ.bL ha
 have EV:=aJ.bL hb
 have hw:a.waits.xs=b.waits.xs:=congrArg ba.waits he
 have TI:=sT hw
 have h1:a.id=b.id:=congrArg ba.id he
 have h2:a.aD=b.aD:=congrArg ba.aD he
 have h3:a.next=b.next:=congrArg ba.next he
 have JP:=Sl.ok.nc qa
 refine M0 ?_ func62
 refine cr (a.id=b.id) (fun g7=>?_) fun g7=>?_
 rotate_left
 ·exfalso;first|omega|(rw[fg]at g7;simp at g7)
 refine cr (a.aD=b.aD) (fun jW=>?_) fun jW=>?_
 rotate_left
 ·exfalso;first|omega|(rw[fg]at jW;simp at jW)
 refine cr (a.next=b.next) (fun k7=>?_) fun k7=>?_
 rotate_left
 ·exfalso;first|omega|(rw[fg]at k7;simp at k7)
 refine cr ((a.waits.n:Int)=(b.waits.n:Int)) (fun mo=>?_) fun mo=>?_
 rotate_left
 ·exfalso;first|omega|(rw[fg]at mo;simp at mo)
 refine Ml (σ:=Nat) (fun i=>True) (fun i=>a.waits.n - i) (fun _=>[]) [5,3,2] (fun i=>[(5,vI (i:Int))]) (fun _=>[]) ?_ 0 trivial
 rintro i _ _ bu
 have fg:=jm hw i
 refine Md ((i:Int)<(a.waits.n:Int)) (fun pr=>?_) fun pr=>?_
 rotate_left
 ·exact Mt [vb true] fun bs w hS=>⟨rfl,hS.kp⟩
 refine cZ 11 [] [] [] ai ?_
 refine bY ?_ (pc (pA 44 45 (i:Int) i (s:=a.waits) (fun w hk hr=>(aJ.kp ha hk))) (pc (pA 49 50 (i:Int) i (s:=b.waits) (fun w hk hr=>(aJ.kp hb hk))) (pG [(51,.val (vb (!((decide ((a.waits.at i).seq=(b.waits.at i).seq)) && (((decide ((a.waits.at i).op.kind=(b.waits.at i).op.kind)) && ((decide ((a.waits.at i).op.a=(b.waits.at i).op.a)) && ((decide ((a.waits.at i).op.b=(b.waits.at i).op.b)) && ((decide ((a.waits.at i).op.n=(b.waits.at i).op.n)) && true)))) && true)))))] (oc ((qn (by kernel_rfl) (by kernel_rfl)): ∀w,(do eqGuard .neq 168 (.tmp 45) (.tmp 50) (a.waits.at i).val (b.waits.at i).val;binOp .neq 168 (a.waits.at i).val (b.waits.at i).val:Sem Value).run prog w=.ok (vb (!((decide ((a.waits.at i).seq=(b.waits.at i).seq)) && (((decide ((a.waits.at i).op.kind=(b.waits.at i).op.kind)) && ((decide ((a.waits.at i).op.a=(b.waits.at i).op.a)) && ((decide ((a.waits.at i).op.b=(b.waits.at i).op.b)) && ((decide ((a.waits.at i).op.n=(b.waits.at i).op.n)) && true)))) && true)))) w) on))))
 refine fL ((decide ((a.waits.at i).seq=(b.waits.at i).seq)) && (((decide ((a.waits.at i).op.kind=(b.waits.at i).op.kind)) && ((decide ((a.waits.at i).op.a=(b.waits.at i).op.a)) && ((decide ((a.waits.at i).op.b=(b.waits.at i).op.b)) && ((decide ((a.waits.at i).op.n=(b.waits.at i).op.n)) && true)))) && true)) (fun yK=>?_) fun yK=>?_
 rotate_left
 ·exfalso;first|omega|(rw[fg]at yK;simp at yK)
 refine Mi ?_ (pR ((i:Int)+1))
 exact bu (i+1) trivial (by omega)
theorem Ek (s:Sl (Fl bD))(p:Fl bD→Bool)(kf:Nat)(dc:Array Value)(w:World)(hs:s.rd B w)(cH: ∀args w,(callFunc kf args).run prog w=.ok (.enter kf args) w)
    (hf: ∀(w':World) (x:(Fl bD)),x∈s.xs→Kp [] w w'→Calls prog kf (#[x.v.val]++dc) w' fun e sX=>e=.returned (vb (p x))∧Kp [] w' sX):Calls prog 208 #[.slice s.A s.n s.c,.func (.func kf) #[] dc] w fun e w'=>e=.returned (vi (aQ p s.xs))∧Kp [] w w':=by
 have cV:=Sl.rd.ok hs
 have iV:=Sl.ok.nc cV
 have iW:s.n=s.xs.length:=rfl
 refine M0 ?_ func208
 refine Ml (σ:=Nat) (fun i=>i≤s.n∧ ∀j,j<i→p (s.at j)=false) (fun i=>s.n - i) (fun _=>[]) [8,7,0,1] (fun i=>[(8,vI (i:Int))]) (fun _=>[]) ?_ 0 ⟨Nat.zero_le _,fun j hj=>absurd hj (Nat.not_lt_zero _)⟩
 rintro i ⟨hi,hI⟩ _ bu
 refine Md ((i:Int)<(s.n:Int)) (fun h1=>?_) (fun h1=>?_)
 rotate_left
 ·refine Mt [.int .i64 (-1)] fun bs w hS=>?_
  refine⟨?_,hS.kp⟩
  rw[gp fun j hj=>hI j (by omega)]
  rfl
 refine Mi ?_ (pA 14 15 (i:Int) i (db hs))
 refine Mv ?_ cH (fun bs w hS=>hf w (s.at i) (List.mem_of_getElem? (Sl.eA (show i<s.n by omega))) hS.kp)
 refine Mb (p (s.at i)) (fun h2=>?_) (fun h2=>?_)
 ·refine Mt [.int .i64 (i:Int)] fun bs w hS=>?_
  refine⟨?_,hS.kp⟩
  rw[fR (i:=i) (by omega) (by assumption) hI]
  rfl
 refine Mi ?_ (pR ((i:Int)+1))
 exact bu (i+1) ⟨by omega,fun j hj=>by rcases Nat.lt_succ_iff_lt_or_eq.1 hj with h|h;exact hI j h;subst h;assumption⟩ (by omega)
theorem Gn (s:Sl bD)(p:bD→Bool)(kf:Nat)(dc:Array Value)(w:World)(hs:s.rd B w)(cH: ∀args w,(callFunc kf args).run prog w=.ok (.enter kf args) w)
    (hf: ∀(w':World) (x:bD),x∈s.xs→Kp [] w w'→Calls prog kf (#[x.val]++dc) w' fun e sX=>e=.returned (vb (p x))∧Kp [] w' sX):Calls prog 208 #[s.val,.func (.func kf) #[] dc] w fun e w'=>e=.returned (vi (aQ p s.xs))∧Kp [] w w':=by
  have h:=Ek (⟨s.A,s.c,vH s.xs⟩:Sl (Fl bD)) (fun x=>p x.v) kf dc w hs.fl cH (fun w' x hx hk=>hf w' x.v (by obtain⟨y,hy,rfl⟩:=List.mem_map.1 hx;exact hy) hk)
  simp only[tm,Sl.n,List.length_map]at h
  exact h
theorem El (A:Option Addr)(c:Nat)(L:List bD)(i j:Nat)(ii jj:Int)(w:World)(gb:(ay 168 A c L).p w)(dX: ∀b,b∈(ay 168 A c L).fp→b<w.heap.size)(ei:ii=(i:Int))(ej:jj=(j:Int))(jf:i≤j)(hj:j≤L.length):
    Calls prog 210 #[.slice A L.length c,vi ii,vi jj] w fun e w'=>e=.returned (.slice A (L.take i++L.drop j).length c)∧dh (ay 168 A c L) w w' (ay 168 A c (L.take i++L.drop j)):=by
 subst ei ej
 have mv:=br gb
 have nc:=mv.2
 refine Mj ?_ func210 (WS.eG w _ gb (by cases A<;>simp [ay,fI]) dX)
 refine NF (e:=168) (A:=A) (n:=L.length) (il:=(i:Int)) (ih:=(j:Int)) (im:=(L.length:Int)) (c:=c) i j L.length ?_ rfl rfl rfl (by omega) (by omega) (by omega)
 refine Md ((i:Int)=(j:Int)) (fun h1=>?_) fun h1=>?_
 ·refine Mt [.slice A L.length c] fun bs w hS=>?_
  have BT:i=j:=by omega
  subst BT
  rw[List.take_append_drop]
  exact⟨rfl,hS.aW⟩
 refine fP 6 ?_ ai
 refine bY ?_ (pc (pG [(22,.sl 0 i)] (oc (rfl:0=0) (oc (rfl:(i:Int)=(i:Int)) (oc ((by omega):i≤c) on)))) (pG [(25,.sl j L.length)] (oc (rfl:(j:Int)=(j:Int)) (oc (rfl:L.length=L.length) (oc ((by omega):j≤L.length) on)))))
 refine Mz ?_
 refine NA 56 i j ?_ jf hj
 refine Mi ?_ (pG [(31,.sl (i+(L.length - j)) L.length)] (oc (rfl:((i+(L.length - j):Nat):Int)=(((i+(L.length - j)):Nat):Int)) (oc (rfl:(L.length:Int)=(L.length:Int)) (oc ((by omega):(i+(L.length - j))≤L.length) (oc ((by omega):L.length≤c) on)))))
 refine KA (i+(L.length - j)) (L.length - (i+(L.length - j))) ?_ (by simp only[List.length_append,List.length_take,List.length_drop];omega) (by omega)
 refine Mt [.slice A (i+(L.length - j)) c] fun bs w hS=>?_
 have hlen:(L.take i++L.drop j).length=i+(L.length - j):=by simp only[List.length_append,List.length_take,List.length_drop];omega
 have j1:=hS
 rw[←hlen,List.take_length]at j1
 refine⟨?_,j1.aW⟩
 rw[hlen]
 rfl
theorem pe (x:bD)(m:bg)(b:Nat)(w:World)(hb:(bh b 93 [vi m.ag,vi m.seq,vi m.aE.code,vi m.aE.n,vs m.aE.text]).p w):Calls prog 209 #[x.val,.pointer (some (⟨b,0,none⟩:Addr))] w fun e w'=>e=.returned (vb (decide (x.seq=m.seq)))∧Kp [] w w':=by
 refine M0 ?_ func209
 refine Mi ?_ (pX 7 [vi m.seq] (fun w hk hr=>(qp (oJ hb hk) 1 1 rfl)))
 exact Mt [vb (decide (x.seq=m.seq))] fun bs w hS=>⟨rfl,hS.kp⟩
theorem pv (x:av)(m:bg)(w:World)(hx:aJ.sub B w x)(HR:aJ.sub B w m):Calls prog 176 #[x.val,m.val] w fun e w'=> ∃y:av,e=.returned (.tuple #[y.val,vi (bX x.abs m).2])∧y.abs=(bX x.abs m).1∧bJ w w' y:=by
 have fg: ∀q,x.abs.waits.getD q dd=x.waits.at q:=fun _=>rfl
 have j0:x.abs.id=x.id:=rfl
 have iO:x.abs.aD=x.aD:=rfl
 have iv:x.abs.next=x.next:=rfl
 have rA:x.abs.waits.length=x.waits.n:=rfl
 have cC:=aJ.bL hx
 have mr:=Sl.ok.nc cC
 have mu:x.waits.n=x.waits.xs.length:=rfl
 have OG:=aJ.bL HR
 refine M0 ?_ func176
 refine Mp ?_ call201 (fun bs w hS=>jS x w (aJ.kp hx hS.kp))
 refine cr (bW x.abs=0) (fun h1=>?_) fun h1=>?_
 rotate_left
 ·have hm:bX x.abs m=(fk,bW x.abs):=by
    have lD:x.abs.waits=x.waits.xs:=rfl
    unfold bX;rw[j0,iO,iv,lD];try simp only[h1,ne_eq,not_true_eq_false,not_false_eq_true,if_true,if_false,reduceIte,true_or,or_true,or_self,false_or,or_false]
    repeat (first|rw[if_pos (by omega)]|rw[if_neg (by omega)])
    all_goals rfl
  exact eE hm ⟨0,0,0,Sl.nil⟩ rfl fun bs w hS=>hS.aO (y:=(⟨0,0,0,Sl.nil⟩:av)) (Sl.ao _ _)
 have BQ:=mb h1
 obtain⟨gU,gT,jB,nH,va,nJ,BR,JO,vc⟩:=hG h1
 rw[j0]at gU gT
 rw[iO]at jB nH
 rw[iv]at va nJ
 rw[rA]at BR vc
 have vd: ∀j,j<x.waits.n→1≤(x.waits.at j).seq∧(x.waits.at j).seq≤1048576:=fun j hj=>by have hz:=iR (vc j hj);rw[fg,iv]at hz;omega
 refine cr (m.ag=x.id) (fun h2=>?_) fun h2=>?_
 rotate_left
 ·have hm:bX x.abs m=(fk,6):=by
    have lD:x.abs.waits=x.waits.xs:=rfl
    unfold bX;rw[j0,iO,iv,lD];try simp only[h1,h2,ne_eq,not_true_eq_false,not_false_eq_true,if_true,if_false,reduceIte,true_or,or_true,or_self,false_or,or_false]
    repeat (first|rw[if_pos (by omega)]|rw[if_neg (by omega)])
    all_goals rfl
  exact eE hm ⟨0,0,0,Sl.nil⟩ rfl fun bs w hS=>hS.aO (y:=(⟨0,0,0,Sl.nil⟩:av)) (Sl.ao _ _)
 refine Mf ?_ call56 (fun bs w hS=>lU x w (aJ.kp hx hS.kp) (by omega))
 rintro y1 a5
 refine bk (F:=dY y1.A y1.c (y1.xs:List bD)) (fun bs w hS=>br (hS.res _ i0)) fun cI=>?_
 have cn:=cI.2
 have vg: ∀z,z∈y1.xs→z.op.a.size≤9223372036854775807∧z.op.b.size≤9223372036854775807:=fun z hz=>Sl.rd.mem (s:=x.waits) hx z (a5▸hz)
 have Mg:=sT a5
 have Mm:y1.n=y1.xs.length:=rfl
 have ft:Sl.ok y1:=⟨cn.1,by unfold maxLen;exact cn.2,fun i hi=>⟨cI.1 i hi,vg _ (List.mem_of_getElem? (Sl.eA hi))⟩⟩
 refine Md (m.seq=0) (fun h3=>?_) fun h3=>?_
 rotate_left
 ·refine Mp ?_ call208 (fun bs w hS=>Gn y1 (fun z:bD=>decide (z.seq=m.seq)) 209 #[.pointer (some (kv bs 1 0))] w (Rr (A:=y1.A) (c:=y1.c) (L:=y1.xs) (B:=bH) (hS.res _ i0) (fun _ _=>trivial) vg) call209 (fun w' z hz hk=>pe z m (bs.getD 1 0) w' (show (bh _ _ _).p w' from (hS.pure hk).loc 1 ⟨93,m.cs⟩ (by kernel_rfl) (by simp))))
  refine Md (aQ (fun z:bD=>decide (z.seq=m.seq)) y1.xs<0) (fun g7=>?_) fun g7=>?_
  ·have OR:aQ (fun z:bD=>decide (z.seq=m.seq)) x.waits.xs<0:=by rw[←a5];omega
   have hm:bX x.abs m=(fk,12):=by
     have lD:x.abs.waits=x.waits.xs:=rfl
     unfold bX;rw[j0,iO,iv,lD];try simp only[h1,h2,h3,ne_eq,not_true_eq_false,not_false_eq_true,if_true,if_false,reduceIte,true_or,or_true,or_self,false_or,or_false]
     repeat (first|rw[if_pos (by omega)]|rw[if_neg (by omega)])
     all_goals rfl
   exact eE hm ⟨0,0,0,Sl.nil⟩ rfl fun bs w hS=>hS.aO (y:=(⟨0,0,0,Sl.nil⟩:av)) (Sl.ao _ _)
  have Sm:=du (fun z:bD=>decide (z.seq=m.seq)) y1.xs
  refine Md (m.aE.code=11) (fun jW=>?_) fun jW=>?_
  ·refine Mt [.agg #[vi x.id,vi 0,vi x.next,vn],vi 0] fun bs w hS=>?_
   have e4:=a5
   have vV: ¬aQ (fun z:bD=>decide (z.seq=m.seq)) x.waits.xs<0:=by rw[←a5];omega
   have hm:bX x.abs m=(⟨x.id,0,x.next,[]⟩,0):=by
     have lD:x.abs.waits=x.waits.xs:=rfl
     unfold bX;rw[j0,iO,iv,lD];try simp only[h1,h2,h3,jW,ne_eq,not_true_eq_false,not_false_eq_true,if_true,if_false,reduceIte,true_or,or_true,or_self,false_or,or_false]
     repeat (first|rw[if_pos (by omega)]|rw[if_neg (by omega)])
     all_goals rfl
   refine⟨⟨x.id,0,x.next,Sl.nil⟩,?_,?_,hS.aO (y:=(⟨x.id,0,x.next,Sl.nil⟩:av)) (Sl.ao _ _)⟩
   ·rw[hm];rfl
   ·rw[hm];simp[av.abs,Sl.nil]
  refine Mi ?_ (pR ((aQ (fun z:bD=>decide (z.seq=m.seq)) y1.xs)+1))
  refine nF ?_ (σ:=Unit) (v:=fun _=>.slice y1.A (y1.xs.take (aQ (fun z:bD=>decide (z.seq=m.seq)) y1.xs).toNat++y1.xs.drop ((aQ (fun z:bD=>decide (z.seq=m.seq)) y1.xs).toNat+1)).length y1.c) (F:=fun _=>True) (r:=fun _=>ay 168 y1.A y1.c (y1.xs.take (aQ (fun z:bD=>decide (z.seq=m.seq)) y1.xs).toNat++y1.xs.drop ((aQ (fun z:bD=>decide (z.seq=m.seq)) y1.xs).toNat+1):List bD)) (vs:=fun bs=>[y1.val,vi (aQ (fun z:bD=>decide (z.seq=m.seq)) y1.xs),vi ((aQ (fun z:bD=>decide (z.seq=m.seq)) y1.xs)+1)]) call210 (fun bs w hS=>(El y1.A y1.c y1.xs (aQ (fun z:bD=>decide (z.seq=m.seq)) y1.xs).toNat ((aQ (fun z:bD=>decide (z.seq=m.seq)) y1.xs).toNat+1) _ _ w (hS.res _ i0) hS.lH.2.2 (by omega) (by omega) (by first|omega|(simp only[Sl.n] at*;omega)) (by first|omega|(simp only[Sl.n] at*;omega))).mono (fun e w' ⟨h1,h2⟩=>⟨(),h1,trivial,h2⟩))
  rintro _ _
  refine Mt [.agg #[vi x.id,vi x.aD,vi x.next,.slice y1.A (y1.xs.take (aQ (fun z:bD=>decide (z.seq=m.seq)) y1.xs).toNat++y1.xs.drop ((aQ (fun z:bD=>decide (z.seq=m.seq)) y1.xs).toNat+1)).length y1.c],vi 0] fun bs w hS=>?_
  have e4:=a5
  have G6:y1.xs.take (aQ (fun z:bD=>decide (z.seq=m.seq)) y1.xs).toNat++y1.xs.drop ((aQ (fun z:bD=>decide (z.seq=m.seq)) y1.xs).toNat+1)=x.waits.xs.filter fun z=>!decide (z.seq=m.seq):=by rw[a5];exact DC (x:=x.abs) (by assumption) (by show aQ _ x.waits.xs=_;rw[←a5];omega)
  have vV: ¬aQ (fun z:bD=>decide (z.seq=m.seq)) x.waits.xs<0:=by rw[←a5];omega
  have hm:bX x.abs m=(⟨x.id,x.aD,x.next,x.waits.xs.filter fun z=>!decide (z.seq=m.seq)⟩,0):=by
    have lD:x.abs.waits=x.waits.xs:=rfl
    unfold bX;rw[j0,iO,iv,lD];try simp only[h1,h2,h3,jW,ne_eq,not_true_eq_false,not_false_eq_true,if_true,if_false,reduceIte,true_or,or_true,or_self,false_or,or_false]
    repeat (first|rw[if_pos (by omega)]|rw[if_neg (by omega)])
    all_goals rfl
  refine⟨⟨x.id,x.aD,x.next,⟨y1.A,y1.c,y1.xs.take (aQ (fun z:bD=>decide (z.seq=m.seq)) y1.xs).toNat++y1.xs.drop ((aQ (fun z:bD=>decide (z.seq=m.seq)) y1.xs).toNat+1)⟩⟩,?_,?_,hS.aO (y:=(⟨x.id,x.aD,x.next,⟨y1.A,y1.c,y1.xs.take (aQ (fun z:bD=>decide (z.seq=m.seq)) y1.xs).toNat++y1.xs.drop ((aQ (fun z:bD=>decide (z.seq=m.seq)) y1.xs).toNat+1)⟩⟩:av)) (a4 i0 (hS.res _ i0) (fun z hz=>Sl.rd.mem (s:=x.waits) hx z (List.mem_filter.1 (G6▸hz)).1))⟩
  ·rw[hm];rfl
  ·rw[hm];simp[av.abs,G6]
 refine Md ((0:Int)<x.aD) (fun h4=>?_) fun h4=>?_
 ·have hm:bX x.abs m=(fk,12):=by
    have lD:x.abs.waits=x.waits.xs:=rfl
    unfold bX;rw[j0,iO,iv,lD];try simp only[h1,h2,h3,ne_eq,not_true_eq_false,not_false_eq_true,if_true,if_false,reduceIte,true_or,or_true,or_self,false_or,or_false]
    repeat (first|rw[if_pos (by omega)]|rw[if_neg (by omega)])
    all_goals rfl
  exact eE hm ⟨0,0,0,Sl.nil⟩ rfl fun bs w hS=>hS.aO (y:=(⟨0,0,0,Sl.nil⟩:av)) (Sl.ao _ _)
 refine cr (m.aE.code=0) (fun h5=>?_) fun h5=>?_
 ·refine Md (m.aE.n<1) (fun h6=>?_) fun h6=>?_
  ·have hm:bX x.abs m=(fk,2):=by
     have lD:x.abs.waits=x.waits.xs:=rfl
     unfold bX;rw[j0,iO,iv,lD];try simp only[h1,h2,h3,h5,ne_eq,not_true_eq_false,not_false_eq_true,if_true,if_false,reduceIte,true_or,or_true,or_self,false_or,or_false]
     repeat (first|rw[if_pos (by omega)]|rw[if_neg (by omega)])
     all_goals rfl
   exact eE hm ⟨0,0,0,Sl.nil⟩ rfl fun bs w hS=>hS.aO (y:=(⟨0,0,0,Sl.nil⟩:av)) (Sl.ao _ _)
  refine Md ((1073741824:Int)<m.aE.n) (fun h7=>?_) fun h7=>?_
  ·have hm:bX x.abs m=(fk,2):=by
     have lD:x.abs.waits=x.waits.xs:=rfl
     unfold bX;rw[j0,iO,iv,lD];try simp only[h1,h2,h3,h5,ne_eq,not_true_eq_false,not_false_eq_true,if_true,if_false,reduceIte,true_or,or_true,or_self,false_or,or_false]
     repeat (first|rw[if_pos (by omega)]|rw[if_neg (by omega)])
     all_goals rfl
   exact eE hm ⟨0,0,0,Sl.nil⟩ rfl fun bs w hS=>hS.aO (y:=(⟨0,0,0,Sl.nil⟩:av)) (Sl.ao _ _)
  refine Mt [.agg #[vi x.id,vi m.aE.n,vi x.next,y1.val],vi 0] fun bs w hS=>?_
  have e4:=a5
  have hm:bX x.abs m=(⟨x.id,m.aE.n,x.next,x.waits.xs⟩,0):=by
    have lD:x.abs.waits=x.waits.xs:=rfl
    unfold bX;rw[j0,iO,iv,lD];try simp only[h1,h2,h3,h5,ne_eq,not_true_eq_false,not_false_eq_true,if_true,if_false,reduceIte,true_or,or_true,or_self,false_or,or_false]
    repeat (first|rw[if_pos (by omega)]|rw[if_neg (by omega)])
    all_goals rfl
  refine⟨⟨x.id,m.aE.n,x.next,y1⟩,?_,?_,hS.aO (y:=(⟨x.id,m.aE.n,x.next,y1⟩:av)) (a4 i0 (hS.res _ i0) vg)⟩
  ·rw[hm];rfl
  ·rw[hm];simp[av.abs,e4]
 refine cr (m.aE.code=7) (fun h8=>?_) fun h8=>?_
 rotate_left
 ·refine Mt [.agg #[vi x.id,vi x.aD,vi x.next,y1.val],vi 0] fun bs w hS=>?_
  have e4:=a5
  have hm:bX x.abs m=(⟨x.id,x.aD,x.next,x.waits.xs⟩,0):=by
    have lD:x.abs.waits=x.waits.xs:=rfl
    unfold bX;rw[j0,iO,iv,lD];try simp only[h1,h2,h3,h5,h8,ne_eq,not_true_eq_false,not_false_eq_true,if_true,if_false,reduceIte,true_or,or_true,or_self,false_or,or_false]
    repeat (first|rw[if_pos (by omega)]|rw[if_neg (by omega)])
    all_goals rfl
  refine⟨⟨x.id,x.aD,x.next,y1⟩,?_,?_,hS.aO (y:=(⟨x.id,x.aD,x.next,y1⟩:av)) (a4 i0 (hS.res _ i0) vg)⟩
  ·rw[hm];rfl
  ·rw[hm];simp[av.abs,e4]
 refine Md (m.aE.n<1) (fun h9=>?_) fun h9=>?_
 ·have hm:bX x.abs m=(fk,2):=by
    have lD:x.abs.waits=x.waits.xs:=rfl
    unfold bX;rw[j0,iO,iv,lD];try simp only[h1,h2,h3,h5,h8,ne_eq,not_true_eq_false,not_false_eq_true,if_true,if_false,reduceIte,true_or,or_true,or_self,false_or,or_false]
    repeat (first|rw[if_pos (by omega)]|rw[if_neg (by omega)])
    all_goals rfl
  exact eE hm ⟨0,0,0,Sl.nil⟩ rfl fun bs w hS=>hS.aO (y:=(⟨0,0,0,Sl.nil⟩:av)) (Sl.ao _ _)
 refine Md ((1073741824:Int)<m.aE.n) (fun ir=>?_) fun ir=>?_
 ·have hm:bX x.abs m=(fk,2):=by
    have lD:x.abs.waits=x.waits.xs:=rfl
    unfold bX;rw[j0,iO,iv,lD];try simp only[h1,h2,h3,h5,h8,ne_eq,not_true_eq_false,not_false_eq_true,if_true,if_false,reduceIte,true_or,or_true,or_self,false_or,or_false]
    repeat (first|rw[if_pos (by omega)]|rw[if_neg (by omega)])
    all_goals rfl
  exact eE hm ⟨0,0,0,Sl.nil⟩ rfl fun bs w hS=>hS.aO (y:=(⟨0,0,0,Sl.nil⟩:av)) (Sl.ao _ _)
 refine Mt [.agg #[vi x.id,vi m.aE.n,vi x.next,y1.val],vi 0] fun bs w hS=>?_
 have e4:=a5
 have hm:bX x.abs m=(⟨x.id,m.aE.n,x.next,x.waits.xs⟩,0):=by
   have lD:x.abs.waits=x.waits.xs:=rfl
   unfold bX;rw[j0,iO,iv,lD];try simp only[h1,h2,h3,h5,h8,ne_eq,not_true_eq_false,not_false_eq_true,if_true,if_false,reduceIte,true_or,or_true,or_self,false_or,or_false]
   repeat (first|rw[if_pos (by omega)]|rw[if_neg (by omega)])
   all_goals rfl
 refine⟨⟨x.id,m.aE.n,x.next,y1⟩,?_,?_,hS.aO (y:=(⟨x.id,m.aE.n,x.next,y1⟩:av)) (a4 i0 (hS.res _ i0) vg)⟩
 ·rw[hm];rfl
 ·rw[hm];simp[av.abs,e4]
theorem vh (x:av)(m:bg)(w:World)(hx:aJ.sub B w x)(HR:aJ.sub B w m):Calls prog 128 #[x.val,m.val] w fun e w'=> ∃y:av,e=.returned (.tuple #[y.val,vi (bX x.abs m).2])∧y.abs=(bX x.abs m).1∧bJ w w' y:=by
 have fg: ∀q,x.abs.waits.getD q dd=x.waits.at q:=fun _=>rfl
 have j0:x.abs.id=x.id:=rfl
 have iO:x.abs.aD=x.aD:=rfl
 have iv:x.abs.next=x.next:=rfl
 have rA:x.abs.waits.length=x.waits.n:=rfl
 have cC:=aJ.bL hx
 have mr:=Sl.ok.nc cC
 have mu:x.waits.n=x.waits.xs.length:=rfl
 have OG:=aJ.bL HR
 refine M0 ?_ func128
 refine Mp ?_ call178 (fun bs w hS=>g4 x w (aJ.kp hx hS.kp))
 refine Md (bW x.abs=0) (fun h1=>?_) fun h1=>?_
 rotate_left
 ·refine My false true ?_ (df h1)
  have hm:bX x.abs m=(fk,bW x.abs):=by
    have lD:x.abs.waits=x.waits.xs:=rfl
    unfold bX;rw[j0,iO,iv,lD];try simp only[h1,ne_eq,not_true_eq_false,not_false_eq_true,if_true,if_false,reduceIte,true_or,or_true,or_self,false_or,or_false]
    repeat (first|rw[if_pos (by omega)]|rw[if_neg (by omega)])
    all_goals rfl
  exact eE hm ⟨0,0,0,Sl.nil⟩ rfl fun bs w hS=>hS.aO (y:=(⟨0,0,0,Sl.nil⟩:av)) (Sl.ao _ _)
 have BQ:=mb h1
 obtain⟨gU,gT,jB,nH,va,nJ,BR,JO,vc⟩:=hG h1
 rw[j0]at gU gT
 rw[iO]at jB nH
 rw[iv]at va nJ
 rw[rA]at BR vc
 have vd: ∀j,j<x.waits.n→1≤(x.waits.at j).seq∧(x.waits.at j).seq≤1048576:=fun j hj=>by have hz:=iR (vc j hj);rw[fg,iv]at hz;omega
 refine cr (m.ag=x.id) (fun h2=>?_) fun h2=>?_
 rotate_left
 ·refine Mq 22 true ?_ rfl
  have hm:bX x.abs m=(fk,6):=by
    have lD:x.abs.waits=x.waits.xs:=rfl
    unfold bX;rw[j0,iO,iv,lD];try simp only[h1,h2,ne_eq,not_true_eq_false,not_false_eq_true,if_true,if_false,reduceIte,true_or,or_true,or_self,false_or,or_false]
    repeat (first|rw[if_pos (by omega)]|rw[if_neg (by omega)])
    all_goals rfl
  exact eE hm ⟨0,0,0,Sl.nil⟩ rfl fun bs w hS=>hS.aO (y:=(⟨0,0,0,Sl.nil⟩:av)) (Sl.ao _ _)
 refine My true true ?_ (dt h1)
 refine Mu ?_ call60 (fun bs w hS=>mS x w (aJ.kp hx hS.kp) (by omega))
 rintro gZ y1 a5 ft
 refine Md (m.seq=0) (fun h4=>?_) fun h4=>?_
 ·refine Md ((0:Int)<x.aD) (fun h5=>?_) fun h5=>?_
  ·have hm:bX x.abs m=(fk,12):=by
     have lD:x.abs.waits=x.waits.xs:=rfl
     unfold bX;rw[j0,iO,iv,lD];try simp only[h1,h2,h4,ne_eq,not_true_eq_false,not_false_eq_true,if_true,if_false,reduceIte,true_or,or_true,or_self,false_or,or_false]
     repeat (first|rw[if_pos (by omega)]|rw[if_neg (by omega)])
     all_goals rfl
   exact eE hm ⟨0,0,0,Sl.nil⟩ rfl fun bs w hS=>hS.aO (y:=(⟨0,0,0,Sl.nil⟩:av)) (Sl.ao _ _)
  refine Md (m.aE.code=0) (fun h6=>?_) fun h6=>?_
  ·refine Mp ?_ call51 (fun bs w hS=>b6 m.aE.n 1 1073741824 w)
   refine fL (gk m.aE.n 1 1073741824) (fun h7=>?_) fun h7=>?_
   rotate_left
   ·simp only[iT,iF]at h7
    have hm:bX x.abs m=(fk,2):=by
      have lD:x.abs.waits=x.waits.xs:=rfl
      unfold bX;rw[j0,iO,iv,lD];try simp only[h1,h2,h4,h6,ne_eq,not_true_eq_false,not_false_eq_true,if_true,if_false,reduceIte,true_or,or_true,or_self,false_or,or_false]
      repeat (first|rw[if_pos (by omega)]|rw[if_neg (by omega)])
      all_goals rfl
    exact eE hm ⟨0,0,0,Sl.nil⟩ rfl fun bs w hS=>hS.aO (y:=(⟨0,0,0,Sl.nil⟩:av)) (Sl.ao _ _)
   simp only[iT,iF]at h7
   refine Mt [.agg #[vi y1.id,vi m.aE.n,vi y1.next,y1.waits.val],vi 0] fun bs w hS=>?_
   have e1:y1.id=x.id:=congrArg ba.id a5
   have e2:y1.aD=x.aD:=congrArg ba.aD a5
   have e3:y1.next=x.next:=congrArg ba.next a5
   have e4:y1.waits.xs=x.waits.xs:=congrArg ba.waits a5
   have hm:bX x.abs m=(⟨x.id,m.aE.n,x.next,x.waits.xs⟩,0):=by
     have lD:x.abs.waits=x.waits.xs:=rfl
     unfold bX;rw[j0,iO,iv,lD];try simp only[h1,h2,h4,h6,ne_eq,not_true_eq_false,not_false_eq_true,if_true,if_false,reduceIte,true_or,or_true,or_self,false_or,or_false]
     repeat (first|rw[if_pos (by omega)]|rw[if_neg (by omega)])
     all_goals rfl
   refine⟨⟨y1.id,m.aE.n,y1.next,y1.waits⟩,?_,?_,hS.aO (y:=(⟨y1.id,m.aE.n,y1.next,y1.waits⟩:av)) (aU (y:=y1) i0 (hS.res _ i0))⟩
   ·rw[hm];rfl
   ·rw[hm];simp[av.abs,e4,e1,e2,e3]
  refine Md (m.aE.code=7) (fun h8=>?_) fun h8=>?_
  rotate_left
  ·refine Mt [y1.val,vi 0] fun bs w hS=>?_
   have e1:y1.id=x.id:=congrArg ba.id a5
   have e2:y1.aD=x.aD:=congrArg ba.aD a5
   have e3:y1.next=x.next:=congrArg ba.next a5
   have e4:y1.waits.xs=x.waits.xs:=congrArg ba.waits a5
   have hm:bX x.abs m=(⟨x.id,x.aD,x.next,x.waits.xs⟩,0):=by
     have lD:x.abs.waits=x.waits.xs:=rfl
     unfold bX;rw[j0,iO,iv,lD];try simp only[h1,h2,h4,h6,h8,ne_eq,not_true_eq_false,not_false_eq_true,if_true,if_false,reduceIte,true_or,or_true,or_self,false_or,or_false]
     repeat (first|rw[if_pos (by omega)]|rw[if_neg (by omega)])
     all_goals rfl
   refine⟨⟨y1.id,y1.aD,y1.next,y1.waits⟩,?_,?_,hS.aO (y:=(⟨y1.id,y1.aD,y1.next,y1.waits⟩:av)) (aU (y:=y1) i0 (hS.res _ i0))⟩
   ·rw[hm];rfl
   ·rw[hm];simp[av.abs,e4,e1,e2,e3]
  refine Mp ?_ call51 (fun bs w hS=>b6 m.aE.n 1 1073741824 w)
  refine fL (gk m.aE.n 1 1073741824) (fun h9=>?_) fun h9=>?_
  rotate_left
  ·simp only[iT,iF]at h9
   have hm:bX x.abs m=(fk,2):=by
     have lD:x.abs.waits=x.waits.xs:=rfl
     unfold bX;rw[j0,iO,iv,lD];try simp only[h1,h2,h4,h6,h8,ne_eq,not_true_eq_false,not_false_eq_true,if_true,if_false,reduceIte,true_or,or_true,or_self,false_or,or_false]
     repeat (first|rw[if_pos (by omega)]|rw[if_neg (by omega)])
     all_goals rfl
   exact eE hm ⟨0,0,0,Sl.nil⟩ rfl fun bs w hS=>hS.aO (y:=(⟨0,0,0,Sl.nil⟩:av)) (Sl.ao _ _)
  simp only[iT,iF]at h9
  refine Mt [.agg #[vi y1.id,vi m.aE.n,vi y1.next,y1.waits.val],vi 0] fun bs w hS=>?_
  have e1:y1.id=x.id:=congrArg ba.id a5
  have e2:y1.aD=x.aD:=congrArg ba.aD a5
  have e3:y1.next=x.next:=congrArg ba.next a5
  have e4:y1.waits.xs=x.waits.xs:=congrArg ba.waits a5
  have hm:bX x.abs m=(⟨x.id,m.aE.n,x.next,x.waits.xs⟩,0):=by
    have lD:x.abs.waits=x.waits.xs:=rfl
    unfold bX;rw[j0,iO,iv,lD];try simp only[h1,h2,h4,h6,h8,ne_eq,not_true_eq_false,not_false_eq_true,if_true,if_false,reduceIte,true_or,or_true,or_self,false_or,or_false]
    repeat (first|rw[if_pos (by omega)]|rw[if_neg (by omega)])
    all_goals rfl
  refine⟨⟨y1.id,m.aE.n,y1.next,y1.waits⟩,?_,?_,hS.aO (y:=(⟨y1.id,m.aE.n,y1.next,y1.waits⟩:av)) (aU (y:=y1) i0 (hS.res _ i0))⟩
  ·rw[hm];rfl
  ·rw[hm];simp[av.abs,e4,e1,e2,e3]
 refine bU (α:=bD) 168 ?_
 refine Ml (σ:=Nat×Bool×Option Addr×Nat×List bD) (fun⟨i,b,A,c,L⟩=>i≤x.waits.n∧L=(x.waits.xs.take i).filter (fun z=>!decide (z.seq=m.seq))∧b=(x.waits.xs.take i).any (fun z=>decide (z.seq=m.seq))) (fun⟨i,b,A,c,L⟩=>x.waits.n - i) (fun⟨i,b,A,c,L⟩=>[ay 168 A c (L:List bD),bF gZ y1]) [9,8,7,4,3,2] (fun⟨i,b,A,c,L⟩=>[(9,vI (i:Int)),(8,vB b)]) (fun⟨i,b,A,c,L⟩=>[(3,[vI y1.id,vI y1.aD,vI y1.next,.v (.slice A L.length c)])]) ?_ (⟨0,false,none,0,[]⟩) ⟨Nat.zero_le _,rfl,rfl⟩
 rintro⟨i,b,A,c,L⟩ ⟨hi,hL,hB⟩ _ bu
 have Mn:L.length≤i:=by rw[hL];exact Nat.le_trans (List.length_filter_le _ _) (by rw[List.length_take];omega)
 refine Md ((i:Int)<(x.waits.n:Int)) (fun ir=>?_) fun ir=>?_
 ·refine fP 9 ?_ ai
  refine bY ?_ (pc (pI 66 (i:Int) i (s:=x.waits) (fun w hk hr=>(aJ.kp hx hk))) (pF 68 i 0 1 (s:=x.waits) (fun w hk hr=>(aJ.kp hx hk))))
  refine Mz ?_
  refine Md ((x.waits.at i).seq=m.seq) (fun g7=>?_) fun g7=>?_
  ·refine Mi ?_ (pR ((i:Int)+1))
   exact bu ⟨i+1,true,A,c,L⟩ ⟨by omega,by first|exact CN hL (by omega) (by assumption)|exact zn hL (by omega) (by assumption),by first|exact (Bool.or_true b▸(decide_eq_true (show (x.waits.at i).seq=m.seq by assumption)▸mI hB (show i<x.waits.n by omega)):true=_)|(have hz:=mI (p:=fun z:bD=>decide (z.seq=m.seq)) hB (show i<x.waits.n by omega);rw[decide_eq_false (by assumption),Bool.or_false]at hz;exact hz)|(have hz:=mI (p:=fun z:bD=>decide (z.seq=m.seq)) hB (show i<x.waits.n by omega);rw[decide_eq_true (by assumption),Bool.or_true]at hz;exact hz)⟩ (by show x.waits.n - (i+1)<x.waits.n - i;omega)
  refine fP 8 ?_ ai
  refine bY ?_ (pA 77 78 (i:Int) i (s:=x.waits) (fun w hk hr=>(aJ.kp hx hk)))
  refine M1 ?_
  refine Mz ?_
  refine gX (α:=bD) 56 ([(⟨(x.waits.at i).seq,⟨(x.waits.at i).op.kind,(x.waits.at i).op.a,(x.waits.at i).op.b,(x.waits.at i).op.n⟩⟩:bD)]) ?_
  intro A2 c2
  refine Mi ?_ (pR ((i:Int)+1))
  exact bu ⟨i+1,b,A2,c2,L++[(⟨(x.waits.at i).seq,⟨(x.waits.at i).op.kind,(x.waits.at i).op.a,(x.waits.at i).op.b,(x.waits.at i).op.n⟩⟩:bD)]⟩ ⟨by omega,by first|exact CN hL (by omega) (by assumption)|exact zn hL (by omega) (by assumption),by first|exact (Bool.or_true b▸(decide_eq_true (show (x.waits.at i).seq=m.seq by assumption)▸mI hB (show i<x.waits.n by omega)):true=_)|(have hz:=mI (p:=fun z:bD=>decide (z.seq=m.seq)) hB (show i<x.waits.n by omega);rw[decide_eq_false (by assumption),Bool.or_false]at hz;exact hz)|(have hz:=mI (p:=fun z:bD=>decide (z.seq=m.seq)) hB (show i<x.waits.n by omega);rw[decide_eq_true (by assumption),Bool.or_true]at hz;exact hz)⟩ (by show x.waits.n - (i+1)<x.waits.n - i;omega)
 refine fL b (fun jW=>?_) fun jW=>?_
 rotate_left
 ·have OR:aQ (fun z:bD=>decide (z.seq=m.seq)) x.waits.xs<0:=by have h9:=hC (fun z:bD=>decide (z.seq=m.seq)) x.waits.xs;rw[dE (by omega)]at hB;rw[←hB]at h9;have:=of_decide_eq_false (h9.trans jW);omega
  have hm:bX x.abs m=(fk,12):=by
    have lD:x.abs.waits=x.waits.xs:=rfl
    unfold bX;rw[j0,iO,iv,lD];try simp only[h1,h2,h4,ne_eq,not_true_eq_false,not_false_eq_true,if_true,if_false,reduceIte,true_or,or_true,or_self,false_or,or_false]
    repeat (first|rw[if_pos (by omega)]|rw[if_neg (by omega)])
    all_goals rfl
  exact eE hm ⟨0,0,0,Sl.nil⟩ rfl fun bs w hS=>hS.aO (y:=(⟨0,0,0,Sl.nil⟩:av)) (Sl.ao _ _)
 refine Md (m.aE.code=11) (fun k7=>?_) fun k7=>?_
 ·refine Mt [.agg #[vi y1.id,vi 0,vi y1.next,vn],vi 0] fun bs w hS=>?_
  have e1:y1.id=x.id:=congrArg ba.id a5
  have e2:y1.aD=x.aD:=congrArg ba.aD a5
  have e3:y1.next=x.next:=congrArg ba.next a5
  have e4:y1.waits.xs=x.waits.xs:=congrArg ba.waits a5
  have vV: ¬aQ (fun z:bD=>decide (z.seq=m.seq)) x.waits.xs<0:=by have h9:=hC (fun z:bD=>decide (z.seq=m.seq)) x.waits.xs;rw[dE (by omega)]at hB;rw[←hB]at h9;have:=of_decide_eq_true (h9.trans jW);omega
  have hm:bX x.abs m=(⟨x.id,0,x.next,[]⟩,0):=by
    have lD:x.abs.waits=x.waits.xs:=rfl
    unfold bX;rw[j0,iO,iv,lD];try simp only[h1,h2,h4,k7,ne_eq,not_true_eq_false,not_false_eq_true,if_true,if_false,reduceIte,true_or,or_true,or_self,false_or,or_false]
    repeat (first|rw[if_pos (by omega)]|rw[if_neg (by omega)])
    all_goals rfl
  refine⟨⟨y1.id,0,y1.next,Sl.nil⟩,?_,?_,hS.aO (y:=(⟨y1.id,0,y1.next,Sl.nil⟩:av)) (Sl.ao _ _)⟩
  ·rw[hm];rfl
  ·rw[hm];simp[av.abs,Sl.nil,e1,e2,e3]
 refine Mt [.agg #[vi y1.id,vi y1.aD,vi y1.next,.slice A L.length c],vi 0] fun bs w hS=>?_
 have e1:y1.id=x.id:=congrArg ba.id a5
 have e2:y1.aD=x.aD:=congrArg ba.aD a5
 have e3:y1.next=x.next:=congrArg ba.next a5
 have e4:y1.waits.xs=x.waits.xs:=congrArg ba.waits a5
 have G6:L=x.waits.xs.filter fun z=>!decide (z.seq=m.seq):=by rw[hL,dE (by omega)]
 have vV: ¬aQ (fun z:bD=>decide (z.seq=m.seq)) x.waits.xs<0:=by have h9:=hC (fun z:bD=>decide (z.seq=m.seq)) x.waits.xs;rw[dE (by omega)]at hB;rw[←hB]at h9;have:=of_decide_eq_true (h9.trans jW);omega
 have hm:bX x.abs m=(⟨x.id,x.aD,x.next,x.waits.xs.filter fun z=>!decide (z.seq=m.seq)⟩,0):=by
   have lD:x.abs.waits=x.waits.xs:=rfl
   unfold bX;rw[j0,iO,iv,lD];try simp only[h1,h2,h4,k7,ne_eq,not_true_eq_false,not_false_eq_true,if_true,if_false,reduceIte,true_or,or_true,or_self,false_or,or_false]
   repeat (first|rw[if_pos (by omega)]|rw[if_neg (by omega)])
   all_goals rfl
 refine⟨⟨y1.id,y1.aD,y1.next,⟨A,c,L⟩⟩,?_,?_,hS.aO (y:=(⟨y1.id,y1.aD,y1.next,⟨A,c,L⟩⟩:av)) (a4 i0 (hS.res _ i0) (fun z hz=>Sl.rd.mem (s:=x.waits) hx z (List.mem_filter.1 (G6▸hz)).1))⟩
 ·rw[hm];rfl
 ·rw[hm];simp[av.abs,G6,e1,e2,e3]
theorem Em (s:Sl Int)(w:World)(hs:s.rd B w)(hb:s.n*8≤140737488355328):Calls prog 135 #[s.val] w fun e w'=> ∃y:Sl Int,e=.returned y.val∧y.xs=s.xs∧Kp [] w w'∧gC w w' (ay 3 y.A y.c y.xs):=by
 have cV:=Sl.rd.ok hs
 have iV:=Sl.ok.nc cV
 have iW:s.n=s.xs.length:=rfl
 refine M0 ?_ func135
 refine Mi ?_ (pG [(4,.val (.bool s.A.isNone))] (oc ((eq_nil Tryz.underlying113): ∀w,(do eqGuard .eql 113 (.tmp 3) (.const vn) s.val vn;binOp .eql 113 s.val vn:Sem Value).run prog w=.ok (.bool s.A.isNone) w) on))
 refine Mb s.A.isNone (fun h1=>?_) fun h1=>?_
 ·refine Mt [vn] fun bs w hS=>?_
  have yq:s.xs=[]:=Sl.ok.empty cV (by cases h:s.A<;>simp_all)
  exact⟨Sl.nil,rfl,yq.symm,hS.kp,nX 3 w⟩
 refine LM ?_ (α:=Int) (e:=3)
 intro A1
 refine Ma ?_ (α:=Int) (L2:=s.xs) 8 (fun bs w hS=>Sl.rd.src (s:=s) (Sl.rd.kp hs hS.kp))
 intro A2 c2
 exact Mt [.slice A2 ([]++s.xs).length c2] fun bs w hS=>⟨⟨A2,c2,[]++s.xs⟩,rfl,by simp,hS.kp,hS.rG⟩
theorem BU (s:Sl aK)(w:World)(hs:s.rd B w)(hb:s.n*40≤140737488355328):Calls prog 136 #[s.val] w fun e w'=> ∃y:Sl aK,e=.returned y.val∧y.xs=s.xs∧Kp [] w w'∧gC w w' (ay 141 y.A y.c y.xs):=by
 have cV:=Sl.rd.ok hs
 have iV:=Sl.ok.nc cV
 have iW:s.n=s.xs.length:=rfl
 refine M0 ?_ func136
 refine Mi ?_ (pG [(4,.val (.bool s.A.isNone))] (oc ((eq_nil Tryz.underlying116): ∀w,(do eqGuard .eql 116 (.tmp 3) (.const vn) s.val vn;binOp .eql 116 s.val vn:Sem Value).run prog w=.ok (.bool s.A.isNone) w) on))
 refine Mb s.A.isNone (fun h1=>?_) fun h1=>?_
 ·refine Mt [vn] fun bs w hS=>?_
  have yq:s.xs=[]:=Sl.ok.empty cV (by cases h:s.A<;>simp_all)
  exact⟨Sl.nil,rfl,yq.symm,hS.kp,nX 141 w⟩
 refine LM ?_ (α:=aK) (e:=141)
 intro A1
 refine Ma ?_ (α:=aK) (L2:=s.xs) 40 (fun bs w hS=>Sl.rd.src (s:=s) (Sl.rd.kp hs hS.kp))
 intro A2 c2
 exact Mt [.slice A2 ([]++s.xs).length c2] fun bs w hS=>⟨⟨A2,c2,[]++s.xs⟩,rfl,by simp,hS.kp,hS.rG⟩
theorem sj (s:Sl ae)(w:World)(hs:s.rd B w)(lj:aJ.small s):Calls prog 68 #[s.val] w fun e w'=> ∃y:Sl ae,e=.returned y.val∧y.xs.map ae.abs=s.xs.map ae.abs∧Kp [] w w'∧gC w w' (uc 115 3 y):=by
 have cV:=Sl.rd.ok hs
 have iV:=Sl.ok.nc cV
 refine M0 ?_ func68
 refine bU (α:=ae) 115 ?_
 refine gK (bI (bM 3) []) rfl (fun w x hx=>by cases hx) ?_
 refine Ml (σ:=Nat×Option Addr×Nat×List ae) (fun⟨i,A,c,L⟩=>i≤s.n∧L.length=i∧L.map ae.abs=(s.xs.take i).map ae.abs) (fun⟨i,A,c,L⟩=>s.n - i) (fun⟨i,A,c,L⟩=>[bI (bM 3) L,ay 115 A c (L:List ae)]) [8,7,6,3] (fun⟨i,A,c,L⟩=>[(8,vI (i:Int)),(3,.v (.slice A L.length c))]) (fun _=>[]) ?_ (⟨0,none,0,[]⟩) ⟨Nat.zero_le _,rfl,by simp⟩
 rintro⟨i,A,c,L⟩ ⟨hi,hL,hI⟩ _ bu
 have NL:s.n*56≤140737488355328:=lj.1
 refine Md ((i:Int)<(s.n:Int)) (fun h1=>?_) fun h1=>?_
 rotate_left
 ·refine Mt [.slice A L.length c] fun bs w hS=>?_
  have hn:L.length=s.n:=by omega
  exact⟨⟨A,c,L⟩,rfl,by rw[hI,dE (by omega)],hS.kp,hS.out⟩
 refine Mi ?_ (pA 10 11 (i:Int) i (db hs))
 refine Mf ?_ call135 (fun bs w hS=>Em (s.at i).line w (Sl.rd.sub (s:=s) (i:=i) (Sl.rd.kp hs hS.kp) (by omega)).2 (lj.2 i (by omega)).1)
 rintro y1 a5
 refine M1 ?_
 refine cL ?_
 refine gX (α:=ae) 56 ([(⟨(s.at i).name,(s.at i).ar,(s.at i).aA,y1⟩:ae)]) ?_
 intro A3 c3
 refine Mi ?_ (pR ((i:Int)+1))
 refine fO (R':=[ay 3 y1.A y1.c (y1.xs:List Int),bI (bM 3) L,ay 115 A3 c3 (L++[(⟨(s.at i).name,(s.at i).ar,(s.at i).aA,y1⟩:ae)]:List ae)]) (by exact CJ 0 _ _ _) ?_
 refine fc (bI (bM 3) (L++[(⟨(s.at i).name,(s.at i).ar,(s.at i).aA,y1⟩:ae)])) (gD (bM 3) L (⟨(s.at i).name,(s.at i).ar,(s.at i).aA,y1⟩:ae)) (fun w=>g9 (bM 3) L (⟨(s.at i).name,(s.at i).ar,(s.at i).aA,y1⟩:ae) w) ?_
 exact bu ⟨i+1,A3,c3,L++[(⟨(s.at i).name,(s.at i).ar,(s.at i).aA,y1⟩:ae)]⟩ ⟨by omega,by rw[List.length_append];simp[hL],kn (by omega) hI (by first|simp[ae.abs,a5]|simp[ae.abs])⟩ (by show s.n - (i+1)<s.n - i;omega)
theorem BV (s:Sl ae)(w:World)(hs:s.rd B w)(lj:aJ.small s):Calls prog 68 #[s.val] w fun e w'=> ∃y:Sl ae,e=.returned y.val∧y.xs.map ae.abs=s.xs.map ae.abs∧bJ w w' y:=
  (sj s w hs lj).mono fun e w' ⟨y,h1,h2,h3,h4⟩=>⟨y,h1,h2,h3,h4.sub fun hp=>wz hp (gF hs h2)⟩
theorem iC (s:Sl aa)(w:World)(hs:s.rd B w)(lj:aJ.small s):Calls prog 70 #[s.val] w fun e w'=> ∃y:Sl aa,e=.returned y.val∧y.xs.map aa.abs=s.xs.map aa.abs∧Kp [] w w'∧gC w w' (CI 118 141 y):=by
 have cV:=Sl.rd.ok hs
 have iV:=Sl.ok.nc cV
 refine M0 ?_ func70
 refine bU (α:=aa) 118 ?_
 refine gK (bI (cj 141) []) rfl (fun w x hx=>by cases hx) ?_
 refine Ml (σ:=Nat×Option Addr×Nat×List aa) (fun⟨i,A,c,L⟩=>i≤s.n∧L.length=i∧L.map aa.abs=(s.xs.take i).map aa.abs) (fun⟨i,A,c,L⟩=>s.n - i) (fun⟨i,A,c,L⟩=>[bI (cj 141) L,ay 118 A c (L:List aa)]) [8,7,6,3] (fun⟨i,A,c,L⟩=>[(8,vI (i:Int)),(3,.v (.slice A L.length c))]) (fun _=>[]) ?_ (⟨0,none,0,[]⟩) ⟨Nat.zero_le _,rfl,by simp⟩
 rintro⟨i,A,c,L⟩ ⟨hi,hL,hI⟩ _ bu
 have NL:s.n*56≤140737488355328:=lj.1
 refine Md ((i:Int)<(s.n:Int)) (fun h1=>?_) fun h1=>?_
 rotate_left
 ·refine Mt [.slice A L.length c] fun bs w hS=>?_
  have hn:L.length=s.n:=by omega
  exact⟨⟨A,c,L⟩,rfl,by rw[hI,dE (by omega)],hS.kp,hS.out⟩
 refine Mi ?_ (pA 10 11 (i:Int) i (db hs))
 refine Mf ?_ call136 (fun bs w hS=>BU (s.at i).ab w (Sl.rd.sub (s:=s) (i:=i) (Sl.rd.kp hs hS.kp) (by omega)) (lj.2 i (by omega)).1)
 rintro y1 a5
 refine M1 ?_
 refine cL ?_
 refine gX (α:=aa) 56 ([(⟨(s.at i).ag,(s.at i).id,(s.at i).aC,(s.at i).last,y1⟩:aa)]) ?_
 intro A3 c3
 refine Mi ?_ (pR ((i:Int)+1))
 refine fO (R':=[ay 141 y1.A y1.c (y1.xs:List aK),bI (cj 141) L,ay 118 A3 c3 (L++[(⟨(s.at i).ag,(s.at i).id,(s.at i).aC,(s.at i).last,y1⟩:aa)]:List aa)]) (by exact CJ 0 _ _ _) ?_
 refine fc (bI (cj 141) (L++[(⟨(s.at i).ag,(s.at i).id,(s.at i).aC,(s.at i).last,y1⟩:aa)])) (gD (cj 141) L (⟨(s.at i).ag,(s.at i).id,(s.at i).aC,(s.at i).last,y1⟩:aa)) (fun w=>g9 (cj 141) L (⟨(s.at i).ag,(s.at i).id,(s.at i).aC,(s.at i).last,y1⟩:aa) w) ?_
 exact bu ⟨i+1,A3,c3,L++[(⟨(s.at i).ag,(s.at i).id,(s.at i).aC,(s.at i).last,y1⟩:aa)]⟩ ⟨by omega,by rw[List.length_append];simp[hL],kn (by omega) hI (by first|simp[aa.abs,a5]|simp[aa.abs])⟩ (by show s.n - (i+1)<s.n - i;omega)
theorem vW (s:Sl aa)(w:World)(hs:s.rd B w)(lj:aJ.small s):Calls prog 70 #[s.val] w fun e w'=> ∃y:Sl aa,e=.returned y.val∧y.xs.map aa.abs=s.xs.map aa.abs∧bJ w w' y:=
  (iC s w hs lj).mono fun e w' ⟨y,h1,h2,h3,h4⟩=>⟨y,h1,h2,h3,h4.sub fun hp=>zf hp (eW hs h2)⟩
theorem fB (s:Sl aa)(w:World)(hs:s.rd B w)(lj:aJ.small s):Calls prog 19 #[s.val] w fun e w'=> ∃y:Sl aa,e=.returned y.val∧y.xs.map aa.abs=s.xs.map aa.abs∧Kp [] w w'∧gC w w' (CI 118 141 y):=by
 have cV:=Sl.rd.ok hs
 have iV:=Sl.ok.nc cV
 refine M0 ?_ func19
 refine bU (α:=aa) 118 ?_
 refine gK (bI (cj 141) []) rfl (fun w x hx=>by cases hx) ?_
 refine Ml (σ:=Nat×Option Addr×Nat×List aa) (fun⟨i,A,c,L⟩=>i≤s.n∧L.length=i∧L.map aa.abs=(s.xs.take i).map aa.abs) (fun⟨i,A,c,L⟩=>s.n - i) (fun⟨i,A,c,L⟩=>[bI (cj 141) L,ay 118 A c (L:List aa)]) [4,3,0] (fun⟨i,A,c,L⟩=>[(4,vI (i:Int)),(3,.v (.slice A L.length c))]) (fun _=>[]) ?_ (⟨0,none,0,[]⟩) ⟨Nat.zero_le _,rfl,by simp⟩
 rintro⟨i,A,c,L⟩ ⟨hi,hL,hI⟩ _ bu
 have NL:s.n*56≤140737488355328:=lj.1
 refine Md ((i:Int)<(s.n:Int)) (fun h1=>?_) fun h1=>?_
 rotate_left
 ·refine Mt [.slice A L.length c] fun bs w hS=>?_
  have hn:L.length=s.n:=by omega
  exact⟨⟨A,c,L⟩,rfl,by rw[hI,dE (by omega)],hS.kp,hS.out⟩
 refine Mi ?_ (pA 14 15 (i:Int) i (db hs))
 refine bU (α:=aK) 141 ?_
 refine Ma ?_ (α:=aK) (L2:=(s.at i).ab.xs) 40 (fun bs w hS=>Sl.rd.src (s:=(s.at i).ab) (Sl.rd.sub (s:=s) (i:=i) (Sl.rd.kp hs hS.kp) (by omega))) (h63:=(by first|omega|(simp only[List.length_nil,List.length_cons,List.length_append];omega)|(have hq:_*(40:Nat)≤140737488355328:=(lj.2 i (by omega)).1;simp only[Sl.n,List.length_nil]at hq⊢;omega))) (hb:=(by first|omega|(simp only[List.length_nil,List.length_cons,List.length_append];omega)|(have hq:_*(40:Nat)≤140737488355328:=(lj.2 i (by omega)).1;simp only[Sl.n,List.length_nil]at hq⊢;omega)))
 intro A1 c1
 refine M1 ?_
 refine cL ?_
 refine gX (α:=aa) 56 ([(⟨(s.at i).ag,(s.at i).id,(s.at i).aC,(s.at i).last,⟨A1,c1,[]++(s.at i).ab.xs⟩⟩:aa)]) ?_
 intro A2 c2
 refine Mi ?_ (pR ((i:Int)+1))
 refine fO (R':=[ay 141 A1 c1 ([]++(s.at i).ab.xs:List aK),bI (cj 141) L,ay 118 A2 c2 (L++[(⟨(s.at i).ag,(s.at i).id,(s.at i).aC,(s.at i).last,⟨A1,c1,[]++(s.at i).ab.xs⟩⟩:aa)]:List aa)]) (by exact CJ 0 _ _ _) ?_
 refine fc (bI (cj 141) (L++[(⟨(s.at i).ag,(s.at i).id,(s.at i).aC,(s.at i).last,⟨A1,c1,[]++(s.at i).ab.xs⟩⟩:aa)])) (gD (cj 141) L (⟨(s.at i).ag,(s.at i).id,(s.at i).aC,(s.at i).last,⟨A1,c1,[]++(s.at i).ab.xs⟩⟩:aa)) (fun w=>g9 (cj 141) L (⟨(s.at i).ag,(s.at i).id,(s.at i).aC,(s.at i).last,⟨A1,c1,[]++(s.at i).ab.xs⟩⟩:aa) w) ?_
 exact bu ⟨i+1,A2,c2,L++[(⟨(s.at i).ag,(s.at i).id,(s.at i).aC,(s.at i).last,⟨A1,c1,[]++(s.at i).ab.xs⟩⟩:aa)]⟩ ⟨by omega,by rw[List.length_append];simp[hL],kn (by omega) hI (by first|simp[aa.abs,a5]|simp[aa.abs])⟩ (by show s.n - (i+1)<s.n - i;omega)
theorem re (s:Sl aa)(w:World)(hs:s.rd B w)(lj:aJ.small s):Calls prog 19 #[s.val] w fun e w'=> ∃y:Sl aa,e=.returned y.val∧y.xs.map aa.abs=s.xs.map aa.abs∧bJ w w' y:=
  (fB s w hs lj).mono fun e w' ⟨y,h1,h2,h3,h4⟩=>⟨y,h1,h2,h3,h4.sub fun hp=>zf hp (eW hs h2)⟩
theorem ku (s:Sl ae)(w:World)(hs:s.rd B w)(lj:aJ.small s):Calls prog 18 #[s.val] w fun e w'=> ∃y:Sl ae,e=.returned y.val∧y.xs.map ae.abs=s.xs.map ae.abs∧Kp [] w w'∧gC w w' (uc 115 3 y):=by
 have cV:=Sl.rd.ok hs
 have iV:=Sl.ok.nc cV
 refine M0 ?_ func18
 refine bU (α:=ae) 115 ?_
 refine gK (bI (bM 3) []) rfl (fun w x hx=>by cases hx) ?_
 refine Ml (σ:=Nat×Option Addr×Nat×List ae) (fun⟨i,A,c,L⟩=>i≤s.n∧L.length=i∧L.map ae.abs=(s.xs.take i).map ae.abs) (fun⟨i,A,c,L⟩=>s.n - i) (fun⟨i,A,c,L⟩=>[bI (bM 3) L,ay 115 A c (L:List ae)]) [4,3,0] (fun⟨i,A,c,L⟩=>[(4,vI (i:Int)),(3,.v (.slice A L.length c))]) (fun _=>[]) ?_ (⟨0,none,0,[]⟩) ⟨Nat.zero_le _,rfl,by simp⟩
 rintro⟨i,A,c,L⟩ ⟨hi,hL,hI⟩ _ bu
 have NL:s.n*56≤140737488355328:=lj.1
 refine Md ((i:Int)<(s.n:Int)) (fun h1=>?_) fun h1=>?_
 rotate_left
 ·refine Mt [.slice A L.length c] fun bs w hS=>?_
  have hn:L.length=s.n:=by omega
  exact⟨⟨A,c,L⟩,rfl,by rw[hI,dE (by omega)],hS.kp,hS.out⟩
 refine fP 24 ?_ ai
 refine bY ?_ (pc (pI 14 (i:Int) i (db hs)) (pc (pF 16 i 0 1 (db hs)) (pc (pI 19 (i:Int) i (db hs)) (pc (pF 21 i 1 1 (db hs)) (pc (pI 24 (i:Int) i (db hs)) (pc (pF 26 i 2 1 (db hs)) (pc (pI 29 (i:Int) i (db hs)) (pF 31 i 3 1 (db hs)))))))))
 refine bU (α:=Int) 3 ?_
 refine Ma ?_ (α:=Int) (L2:=(s.at i).line.xs) 8 (fun bs w hS=>Sl.rd.src (s:=(s.at i).line) (Sl.rd.sub (s:=s) (i:=i) (Sl.rd.kp hs hS.kp) (by omega)).2) (h63:=(by first|omega|(simp only[List.length_nil,List.length_cons,List.length_append];omega)|(have hq:_*(8:Nat)≤140737488355328:=(lj.2 i (by omega)).1;simp only[Sl.n,List.length_nil]at hq⊢;omega))) (hb:=(by first|omega|(simp only[List.length_nil,List.length_cons,List.length_append];omega)|(have hq:_*(8:Nat)≤140737488355328:=(lj.2 i (by omega)).1;simp only[Sl.n,List.length_nil]at hq⊢;omega)))
 intro A1 c1
 refine M1 ?_ (hR:=(.cons _ (List.Sublist.refl _)))
 refine Mz ?_
 refine cL ?_
 refine gX (α:=ae) 56 ([(⟨(s.at i).name,(s.at i).ar,(s.at i).aA,⟨A1,c1,[]++(s.at i).line.xs⟩⟩:ae)]) ?_
 intro A2 c2
 refine Mi ?_ (pR ((i:Int)+1))
 refine fO (R':=[ay 3 A1 c1 ([]++(s.at i).line.xs:List Int),bI (bM 3) L,ay 115 A2 c2 (L++[(⟨(s.at i).name,(s.at i).ar,(s.at i).aA,⟨A1,c1,[]++(s.at i).line.xs⟩⟩:ae)]:List ae)]) (by exact CJ 0 _ _ _) ?_
 refine fc (bI (bM 3) (L++[(⟨(s.at i).name,(s.at i).ar,(s.at i).aA,⟨A1,c1,[]++(s.at i).line.xs⟩⟩:ae)])) (gD (bM 3) L (⟨(s.at i).name,(s.at i).ar,(s.at i).aA,⟨A1,c1,[]++(s.at i).line.xs⟩⟩:ae)) (fun w=>g9 (bM 3) L (⟨(s.at i).name,(s.at i).ar,(s.at i).aA,⟨A1,c1,[]++(s.at i).line.xs⟩⟩:ae) w) ?_
 exact bu ⟨i+1,A2,c2,L++[(⟨(s.at i).name,(s.at i).ar,(s.at i).aA,⟨A1,c1,[]++(s.at i).line.xs⟩⟩:ae)]⟩ ⟨by omega,by rw[List.length_append];simp[hL],kn (by omega) hI (by first|simp[ae.abs,a5]|simp[ae.abs])⟩ (by show s.n - (i+1)<s.n - i;omega)
theorem vj (s:Sl ae)(w:World)(hs:s.rd B w)(lj:aJ.small s):Calls prog 18 #[s.val] w fun e w'=> ∃y:Sl ae,e=.returned y.val∧y.xs.map ae.abs=s.xs.map ae.abs∧bJ w w' y:=
  (ku s w hs lj).mono fun e w' ⟨y,h1,h2,h3,h4⟩=>⟨y,h1,h2,h3,h4.sub fun hp=>wz hp (gF hs h2)⟩
theorem En {B B':Nat→Prop}(a b:Sl Int)(w:World)(ha:a.rd B w)(hb:b.rd B' w)(he:a.xs=b.xs):Calls prog 109 #[a.val,b.val] w fun e w'=>e=.returned (vb true)∧Kp [] w w':=by
 have qa:=Sl.rd.ok ha
 have EV:=Sl.rd.ok hb
 have hn:=sT he
 have JP:=Sl.ok.nc qa
 refine M0 ?_ func109
 refine cr ((a.n:Int)=(b.n:Int)) (fun h1=>?_) fun h1=>?_
 rotate_left
 ·exfalso;first|omega|exact h1 (jm he i)
 refine Ml (σ:=Nat) (fun i=>True) (fun i=>a.n - i) (fun _=>[]) [5,0,1] (fun i=>[(5,vI (i:Int))]) (fun _=>[]) ?_ 0 trivial
 rintro i _ _ bu
 have fg:=jm he i
 refine Md ((i:Int)<(a.n:Int)) (fun h2=>?_) fun h2=>?_
 rotate_left
 ·exact Mt [vb true] fun bs w hS=>⟨rfl,hS.kp⟩
 refine cZ 9 [] [] [] ai ?_
 refine bY ?_ (pc (pA 19 20 (i:Int) i (db ha)) (pA 23 24 (i:Int) i (db hb)))
 refine cr ((a.at i)=(b.at i)) (fun h3=>?_) fun h3=>?_
 rotate_left
 ·exfalso;first|omega|exact h3 (jm he i)
 refine Mi ?_ (pR ((i:Int)+1))
 exact bu (i+1) trivial (by omega)
theorem BW {B B':Nat→Prop}(a b:Sl ae)(w:World)(ha:a.rd B w)(hb:b.rd B' w)(he:a.xs.map ae.abs=b.xs.map ae.abs):Calls prog 43 #[a.val,b.val] w fun e w'=>e=.returned (vb true)∧Kp [] w w':=by
 have qa:=Sl.rd.ok ha
 have EV:=Sl.rd.ok hb
 have hn:=sB he
 have JP:=Sl.ok.nc qa
 refine M0 ?_ func43
 refine cr ((a.n:Int)=(b.n:Int)) (fun h1=>?_) fun h1=>?_
 rotate_left
 ·exfalso;first|omega|exact h1 q1
 refine Ml (σ:=Nat) (fun i=>True) (fun i=>a.n - i) (fun _=>[]) [5,0,1] (fun i=>[(5,vI (i:Int))]) (fun _=>[]) ?_ 0 trivial
 rintro i _ _ bu
 have fg:=xM (f:=ae.abs) (g:=ae.abs) rfl he i
 have q1:(a.at i).name=(b.at i).name:=congrArg aY.name fg
 have q2:(a.at i).ar=(b.at i).ar:=congrArg aY.ar fg
 have q3:(a.at i).aA=(b.at i).aA:=congrArg aY.aA fg
 have q4:(a.at i).line.xs=(b.at i).line.xs:=congrArg aY.line fg
 refine Md ((i:Int)<(a.n:Int)) (fun h2=>?_) fun h2=>?_
 rotate_left
 ·exact Mt [vb true] fun bs w hS=>⟨rfl,hS.kp⟩
 refine cZ 51 [] [] [] ai ?_
 refine bY ?_ (pc (pI 19 (i:Int) i (db ha)) (pc (pF 21 i 0 1 (db ha)) (pc (pI 24 (i:Int) i (db hb)) (pF 26 i 0 1 (db hb)))))
 refine cr ((a.at i).name=(b.at i).name) (fun h3=>?_) fun h3=>?_
 rotate_left
 ·exfalso;first|omega|exact h3 q1
 refine bY ?_ (pc (pI 31 (i:Int) i (db ha)) (pc (pF 33 i 1 1 (db ha)) (pc (pI 36 (i:Int) i (db hb)) (pF 38 i 1 1 (db hb)))))
 refine cr ((a.at i).ar=(b.at i).ar) (fun h4=>?_) fun h4=>?_
 rotate_left
 ·exfalso;first|omega|exact h4 q1
 refine bY ?_ (pc (pI 44 (i:Int) i (db ha)) (pc (pF 46 i 2 1 (db ha)) (pc (pI 49 (i:Int) i (db hb)) (pF 51 i 2 1 (db hb)))))
 refine cr ((a.at i).aA=(b.at i).aA) (fun h5=>?_) fun h5=>?_
 rotate_left
 ·exfalso;first|omega|exact h5 q1
 refine bY ?_ (pc (pI 57 (i:Int) i (db ha)) (pc (pF 59 i 3 1 (db ha)) (pc (pI 62 (i:Int) i (db hb)) (pF 64 i 3 1 (db hb)))))
 refine Mp ?_ call109 (fun bs w hS=>En _ _ w (Sl.rd.sub (s:=a) (i:=i) (Sl.rd.kp ha hS.kp) (by omega)).2 (Sl.rd.sub (s:=b) (i:=i) (Sl.rd.kp hb hS.kp) (by omega)).2 q4)
 refine Mq 67 false ?_ rfl
 refine Mi ?_ (pR ((i:Int)+1))
 exact bu (i+1) trivial (by omega)
theorem vX {B B':Nat→Prop}(a b:Sl aa)(w:World)(ha:a.rd B w)(hb:b.rd B' w)(he:a.xs.map aa.abs=b.xs.map aa.abs):Calls prog 45 #[a.val,b.val] w fun e w'=>e=.returned (vb true)∧Kp [] w w':=by
 have qa:=Sl.rd.ok ha
 have EV:=Sl.rd.ok hb
 have hn:=sB he
 have JP:=Sl.ok.nc qa
 refine M0 ?_ func45
 refine cr ((a.n:Int)=(b.n:Int)) (fun h1=>?_) fun h1=>?_
 rotate_left
 ·exfalso;first|omega|(rw[DO]at h1;simp at h1)
 refine Ml (σ:=Nat) (fun i=>True) (fun i=>a.n - i) (fun _=>[]) [5,0,1] (fun i=>[(5,vI (i:Int))]) (fun _=>[]) ?_ 0 trivial
 rintro i _ _ bu
 have fg:=xM (f:=aa.abs) (g:=aa.abs) rfl he i
 have q0:(a.at i).ag=(b.at i).ag:=congrArg az.ag fg
 have q1:(a.at i).id=(b.at i).id:=congrArg az.id fg
 have q2:(a.at i).aC=(b.at i).aC:=congrArg az.aC fg
 have q3:(a.at i).last=(b.at i).last:=congrArg az.last fg
 have q4:(a.at i).ab.xs=(b.at i).ab.xs:=congrArg az.ab fg
 have q5:=sT q4
 refine Md ((i:Int)<(a.n:Int)) (fun h2=>?_) fun h2=>?_
 rotate_left
 ·exact Mt [vb true] fun bs w hS=>⟨rfl,hS.kp⟩
 refine Mi ?_ (pc (pA 22 23 (i:Int) i (db ha)) (pA 26 27 (i:Int) i (db hb)))
 refine cr ((a.at i).ag=(b.at i).ag) (fun h3=>?_) fun h3=>?_
 rotate_left
 ·exfalso;first|omega|(rw[DO]at h3;simp at h3)
 refine cr ((a.at i).id=(b.at i).id) (fun h4=>?_) fun h4=>?_
 rotate_left
 ·exfalso;first|omega|(rw[DO]at h4;simp at h4)
 refine cr ((a.at i).aC=(b.at i).aC) (fun h5=>?_) fun h5=>?_
 rotate_left
 ·exfalso;first|omega|(rw[DO]at h5;simp at h5)
 refine cr ((a.at i).last=(b.at i).last) (fun h6=>?_) fun h6=>?_
 rotate_left
 ·exfalso;first|omega|(rw[DO]at h6;simp at h6)
 refine cr ((((a.at i).ab.n:Nat):Int)=(((b.at i).ab.n:Nat):Int)) (fun h7=>?_) fun h7=>?_
 rotate_left
 ·exfalso;first|omega|(rw[DO]at h7;simp at h7)
 refine Ml (σ:=Nat) (fun j=>True) (fun j=>(a.at i).ab.n - j) (fun _=>[]) [8,7,6,5,0,1] (fun j=>[(8,vI (j:Int))]) (fun _=>[]) ?_ 0 trivial
 rintro j _ _ j8
 have DO:=jm q4 j
 have vY:=Sl.ok.nc (Sl.ok.at qa (show i<a.n by omega))
 refine Md ((j:Int)<(((a.at i).ab.n:Nat):Int)) (fun h8=>?_) fun h8=>?_
 rotate_left
 ·refine Mi ?_ (pR ((i:Int)+1))
  exact bu (i+1) trivial (by omega)
 refine cZ 11 [] [] [] ai ?_
 refine bY ?_ (pc (pA 73 74 (j:Int) j (s:=(a.at i).ab) (fun w hk hr=>(Sl.rd.sub (s:=a) (i:=i) (Sl.rd.kp ha hk) (by omega)))) (pc (pA 78 79 (j:Int) j (s:=(b.at i).ab) (fun w hk hr=>(Sl.rd.sub (s:=b) (i:=i) (Sl.rd.kp hb hk) (by omega)))) (pG [(80,.val (vb (!((decide (((a.at i).ab.at j).seq=((b.at i).ab.at j).seq)) && (((decide (((a.at i).ab.at j).aE.code=((b.at i).ab.at j).aE.code)) && ((decide (((a.at i).ab.at j).aE.n=((b.at i).ab.at j).aE.n)) && ((decide (((a.at i).ab.at j).aE.text=((b.at i).ab.at j).aE.text)) && true))) && true)))))] (oc ((qn (by kernel_rfl) (by kernel_rfl)): ∀w,(do eqGuard .neq 141 (.tmp 74) (.tmp 79) ((a.at i).ab.at j).val ((b.at i).ab.at j).val;binOp .neq 141 ((a.at i).ab.at j).val ((b.at i).ab.at j).val:Sem Value).run prog w=.ok (vb (!((decide (((a.at i).ab.at j).seq=((b.at i).ab.at j).seq)) && (((decide (((a.at i).ab.at j).aE.code=((b.at i).ab.at j).aE.code)) && ((decide (((a.at i).ab.at j).aE.n=((b.at i).ab.at j).aE.n)) && ((decide (((a.at i).ab.at j).aE.text=((b.at i).ab.at j).aE.text)) && true))) && true)))) w) on))))
 refine fL ((decide (((a.at i).ab.at j).seq=((b.at i).ab.at j).seq)) && (((decide (((a.at i).ab.at j).aE.code=((b.at i).ab.at j).aE.code)) && ((decide (((a.at i).ab.at j).aE.n=((b.at i).ab.at j).aE.n)) && ((decide (((a.at i).ab.at j).aE.text=((b.at i).ab.at j).aE.text)) && true))) && true)) (fun h9=>?_) fun h9=>?_
 rotate_left
 ·exfalso;first|omega|(rw[DO]at h9;simp at h9)
 refine Mi ?_ (pR ((j:Int)+1))
 exact j8 (j+1) trivial (by omega)
theorem oz (x:aa)(t:Int)(w:World):Calls prog 142 #[x.val,vi t] w fun e w'=>e=.returned (vi (IntKind.i64.wrap (x.ag - t)))∧Kp [] w w':=by
 refine M0 ?_ func142
 refine Mi ?_ (pG [(8,.val (vi (IntKind.i64.wrap (x.ag - t))))] (oc (yY: ∀w,(do eqGuard .sub 3 (.tmp 6) (.tmp 7) (vi x.ag) (vi t);binOp .sub 3 (vi x.ag) (vi t):Sem Value).run prog w=.ok (vi (IntKind.i64.wrap (x.ag - t))) w) on))
 exact Mt [vi (IntKind.i64.wrap (x.ag - t))] fun bs w hS=>⟨rfl,hS.kp⟩
end Go.Proofs.YtbjakddkfgjkaaaGreat.W
