/-
  The functions that the law ClusterRuns reaches, walked: each returns what its model says.
  Conditions: those that each theorem states.
-/
import Derived.Test.YtbjakddkfgjkaaaGreatWClusterRunsd
set_option linter.unusedVariables false
set_option linter.unusedSimpArgs false
set_option maxRecDepth 100000
set_option maxHeartbeats 2000000
namespace Go.Proofs.YtbjakddkfgjkaaaGreat.W
open Go.Proofs.YtbjakddkfgjkaaaGreat.Fw Go.RowKit Tryz
variable {B : Nat → Prop}
attribute [local irreducible] JM nx
theorem Kr (b:Nat)(f:List Nat)(t:aS)(a:eP)(w:World)(hO:Ow (bm tK b f t) w)(hk:aM t.abs)(ha:aJ.sub bH w a):Calls prog 55 #[.pointer (some (⟨b,0,none⟩:Addr)),a.val] w fun e w'=> ∃y:List Nat×aS,e=.returned (vi (t.abs.act a).2)∧y.2.abs=(t.abs.act a).1∧dh (bm tK b f t) w w' (bm tK b y.1 y.2):=by
 have fU:=ct hO.1
 obtain⟨q1,q2,q3,q4,q5,q6⟩:=cu hk
 have vY:=Sl.ok.nc fU.1
 have AS:=Sl.ok.nc fU.2.2.2
 have xE:=Sl.ok.nc fU.2.2.1
 have AJ:=Sl.ok.nc fU.2.1
 have qa:=aJ.bL ha
 refine Mj ?_ func55 hO.start
 refine Md (a.kind<1) (fun h1=>?_) fun h1=>?_
 ·exact jN (uV (D:=t.abs) (a:=a) (by omega)) (f,t) rfl fun bs w hS=>hS.aW
 refine Md ((11:Int)<a.kind) (fun h2=>?_) fun h2=>?_
 ·exact jN (uV (D:=t.abs) (a:=a) (by omega)) (f,t) rfl fun bs w hS=>hS.aW
 refine Md (a.kind≤3) (fun h3=>?_) fun h3=>?_
 ·refine nF ?_ call115 (fun bs w hS=>Ni b f t a w (hS.ow i0) hk ha)
  rintro tF ry
  have yI:aM tF.2.abs:=by rw[ry];exact aM.kI hk _
  refine bk (F:=iE tF.2) (fun bs w hS=>ct (hS.res _ i0)) fun Il=>?_
  exact jN (Gh (D:=t.abs) (a:=a) (by omega) (by omega)) (tF.1,tF.2) (ry) fun bs w hS=>hS.aW
 refine Md (a.kind≤8) (fun h4=>?_) fun h4=>?_
 ·refine nF ?_ call116 (fun bs w hS=>Nl b f t a w (hS.ow i0) hk ha)
  rintro tj p9
  have Bp:aM tj.2.abs:=by rw[p9];exact aM.kJ hk _
  refine bk (F:=iE tj.2) (fun bs w hS=>ct (hS.res _ i0)) fun Kl=>?_
  exact jN (Gi (D:=t.abs) (a:=a) (by omega) (by omega)) (tj.1,tj.2) (p9) fun bs w hS=>hS.aW
 refine nF ?_ call117 (fun bs w hS=>Is b f t a w (hS.ow i0) hk ha)
 rintro E1 Cq
 have nK:aM E1.2.abs:=by rw[Cq];exact aM.dU hk _
 refine bk (F:=iE E1.2) (fun bs w hS=>ct (hS.res _ i0)) fun PY=>?_
 exact jN (Ad (D:=t.abs) (a:=a) (by omega) (by omega)) (E1.1,E1.2) (Cq) fun bs w hS=>hS.aW
theorem yF (n:Int)(w:World):Calls prog 54 #[vi n] w fun e w'=>e=.returned (.tuple #[.agg #[vi (pC n).1.id,vi (pC n).1.aD,vi (pC n).1.next,vn],vi (pC n).2])∧Kp [] w w':=by
 refine M0 ?_ func54
 refine Md (n<1) (fun h1=>?_) fun h1=>?_
 ·refine Mt [.agg #[vi 0,vi 0,vi 0,vn],vi 2] fun bs w hS=>?_
  refine⟨?_,hS.kp⟩
  simp only[bO,den,List.map_cons,List.map_nil,pC]
  first|rw[if_pos (by (try simp only[iT,iF] at*);omega)]|rw[if_neg (by (try simp only[iT,iF] at*);omega)]
  try rfl
 refine Md ((9:Int)<n) (fun h2=>?_) fun h2=>?_
 ·refine Mt [.agg #[vi 0,vi 0,vi 0,vn],vi 2] fun bs w hS=>?_
  refine⟨?_,hS.kp⟩
  simp only[bO,den,List.map_cons,List.map_nil,pC]
  first|rw[if_pos (by (try simp only[iT,iF] at*);omega)]|rw[if_neg (by (try simp only[iT,iF] at*);omega)]
  try rfl
 refine Mt [.agg #[vi n,vi 0,vi 1,vn],vi 0] fun bs w hS=>?_
 refine⟨?_,hS.kp⟩
 simp only[bO,den,List.map_cons,List.map_nil,pC]
 first|rw[if_pos (by (try simp only[iT,iF] at*);omega)]|rw[if_neg (by (try simp only[iT,iF] at*);omega)]
 try rfl
theorem Ks (n:Int)(l:Sl eP)(w:World)(hl:l.rd B w):Calls prog 15 #[vi n,l.val] w fun e w'=> ∃y:l6,e=.returned (.tuple #[y.val,vi (k6 n l.xs).2.2])∧y.abs=yl n l.xs∧bJ w w' y:=by
 have oE:=Sl.rd.ok hl
 have Ia:=Sl.ok.nc oE
 refine M0 ?_ func15
 refine Md (n<1) (fun h1=>?_) fun h1=>?_
 ·refine Mt [.agg #[vn,vn,vn,vn,vi 0,vn],vi 2] fun bs w hS=>?_
  have hm:=sg (n:=n) (by omega) l.xs
  refine⟨(⟨Sl.nil,Sl.nil,Sl.nil,Sl.nil,0,Sl.nil⟩:l6),?_,?_,hS.aO (y:=(⟨Sl.nil,Sl.nil,Sl.nil,Sl.nil,0,Sl.nil⟩:l6)) ⟨Sl.ao _ _,Sl.ao _ _,Sl.ao _ _,Sl.ao _ _,Sl.ao _ _⟩⟩
  ·rw[hm];rfl
  ·unfold yl;rw[hm];rfl
 refine Md ((9:Int)<n) (fun h2=>?_) fun h2=>?_
 ·refine Mt [.agg #[vn,vn,vn,vn,vi 0,vn],vi 2] fun bs w hS=>?_
  have hm:=sg (n:=n) (by omega) l.xs
  refine⟨(⟨Sl.nil,Sl.nil,Sl.nil,Sl.nil,0,Sl.nil⟩:l6),?_,?_,hS.aO (y:=(⟨Sl.nil,Sl.nil,Sl.nil,Sl.nil,0,Sl.nil⟩:l6)) ⟨Sl.ao _ _,Sl.ao _ _,Sl.ao _ _,Sl.ao _ _,Sl.ao _ _⟩⟩
  ·rw[hm];rfl
  ·unfold yl;rw[hm];rfl
 refine Md ((400:Int)<(l.n:Int)) (fun h3=>?_) fun h3=>?_
 ·refine Mt [.agg #[vn,vn,vn,vn,vi 0,vn],vi 1] fun bs w hS=>?_
  have hm:=Ai (n:=n) (by omega) (show 400<l.n by omega)
  refine⟨(⟨Sl.nil,Sl.nil,Sl.nil,Sl.nil,0,Sl.nil⟩:l6),?_,?_,hS.aO (y:=(⟨Sl.nil,Sl.nil,Sl.nil,Sl.nil,0,Sl.nil⟩:l6)) ⟨Sl.ao _ _,Sl.ao _ _,Sl.ao _ _,Sl.ao _ _,Sl.ao _ _⟩⟩
  ·rw[hm];rfl
  ·unfold yl;rw[hm];rfl
 refine QI (α:=aw) (T:=48) 39 3 [o5,o5,o5] ?_
 intro Hh
 refine bU (α:=av) 101 ?_
 refine Ml (σ:=Nat×Option Addr×Nat×List av) (fun⟨k,A,c,L⟩=>(k:Int)≤n∧L=nw k) (fun⟨k,A,c,L⟩=>n.toNat - k) (fun⟨k,A,c,L⟩=>[ay 101 A c (L:List av),ay 39 Hh 3 ([o5,o5,o5]:List aw)]) [32,31,6,4,1] (fun⟨k,A,c,L⟩=>[(32,vI (k:Int))]) (fun⟨k,A,c,L⟩=>[(1,[.v (.slice Hh 3 3),.v (.slice A L.length c),.v vn,.v vn,vI 0])]) ?_ (⟨0,none,0,[]⟩) ⟨by omega,rfl⟩
 rintro⟨k,A,c,L⟩ ⟨IV,hL⟩ _ bu
 have Tp:L.length=k:=by rw[hL];exact xt k
 refine Md ((k:Int)<n) (fun h4=>?_) fun h4=>?_
 ·refine Mi ?_ (pR ((k:Int)+1))
  refine Mp ?_ call54 (fun bs w hS=>yF ((k:Int)+1) w)
  refine cZ 10 [] [] [ay 39 Hh 3 ([o5,o5,o5]:List aw)] ai ?_ (hR:=(.cons _ (List.Sublist.refl _)))
  refine M1 ?_ (hR:=(.cons _ (List.Sublist.refl _)))
  refine gX (α:=av) 48 ([(⟨(pC ((k:Int)+1)).1.id,(pC ((k:Int)+1)).1.aD,(pC ((k:Int)+1)).1.next,Sl.nil⟩:av)]) ?_
  intro A2 c2
  refine Mz ?_
  refine Mi ?_ (pR ((k:Int)+1))
  exact bu ⟨k+1,A2,c2,L++[(⟨(pC ((k:Int)+1)).1.id,(pC ((k:Int)+1)).1.aD,(pC ((k:Int)+1)).1.next,Sl.nil⟩:av)]⟩ ⟨by omega,by rw[hL,Jy (by omega) (by omega)];exact uZ k⟩ (by show n.toNat - (k+1)<n.toNat - k;omega)
 refine cb ?_
 have Hy:(⟨⟨Hh,3,[o5,o5,o5]⟩,⟨A,c,L⟩,Sl.nil,Sl.nil,0⟩:aS).abs=aH.start n:=by rw[hL];exact xv (by omega)
 refine Db (K:=tK) xw (fun x hx=>xu x (hL▸hx)) ?_
 refine bU (α:=Int) 28 ?_
 refine cb ?_
 refine Ml (σ:=Nat×List Nat×aS×Option Addr×Nat×List Int) (fun⟨k,f,T,A3,c3,L3⟩=>Eg (aH.start n) l k T L3) (fun⟨k,f,T,A3,c3,L3⟩=>l.n - k) (fun⟨k,f,T,A3,c3,L3⟩=>[ib tK f T,ay 28 A3 c3 (L3:List Int)]) [55,54,53,10,6,4] (fun⟨k,f,T,A3,c3,L3⟩=>[(55,vI (k:Int))]) (fun⟨k,f,T,A3,c3,L3⟩=>[(1,[.v T.r.val,.v T.c.val,.v T.au.val,.v T.a8.val,vI T.lead]),(2,[.v vn,.v vn,.v vn,.v vn,vI 0,.v (.slice A3 L3.length c3)])]) ?_ (⟨0,[],(⟨⟨Hh,3,[o5,o5,o5]⟩,⟨A,c,L⟩,Sl.nil,Sl.nil,0⟩:aS),none,0,[]⟩) (Gk (by omega) l Hy)
 rintro⟨k,f,T,A3,c3,L3⟩ hI _ j8
 have yL:=hI.2.2.2.1
 have sY:=hI.2.2.2.2
 have PZ:=hI.1
 refine bk (F:=iE T) (fun bs w hS=>Ah (hS.res _ i0)) fun ru=>?_
 obtain⟨Rn,Ro,Rp,Rq,Ru,Rv⟩:=cu yL
 have Nb:=Sl.ok.nc ru.1
 have Nc:=Sl.ok.nc ru.2.2.2
 have Nd:=Sl.ok.nc ru.2.2.1
 have Nf:=Sl.ok.nc ru.2.1
 refine Md ((k:Int)<(l.n:Int)) (fun h5=>?_) fun h5=>?_
 ·refine Mi ?_ (pA 57 58 (k:Int) k (db hl))
  refine cZ 6 [] [1] [] ai ?_
  refine NI (K:=tK) (g:=fun y=>y) 1 ?_ call55 (fun bs w hO=>Kr (bs.getD 1 0) f T (l.at k) w hO yL (Sl.ok.at (s:=l) (i:=k) oE (by omega)))
  rintro tj p9
  refine M1 ?_
  refine cb ?_
  refine gX (α:=Int) 8 ([(T.abs.act (l.at k)).2]) ?_
  intro A4 c4
  refine Mi ?_ (pR ((k:Int)+1))
  refine cb ?_
  exact j8 ⟨k+1,tj.1,tj.2,A4,c4,L3++[(T.abs.act (l.at k)).2]⟩ (ra hI (by omega) (rfl) p9) (by show l.n - (k+1)<l.n - k;omega)
 have wZ:l.n≤k:=by omega
 refine yk aw ?_
 refine bU (α:=aw) 39 ?_
 refine Ml (σ:=Nat×Option Addr×Nat×List aw×List Nat) (fun⟨k1,A1,c1,L1,g1⟩=>k1≤T.r.n∧L1.map aw.abs=(T.r.xs.take k1).map aw.abs) (fun⟨k1,A1,c1,L1,g1⟩=>T.r.n - k1) (fun⟨k1,A1,c1,L1,g1⟩=>[ay 39 A1 c1 (L1:List aw),qZ g1 L1,ib tK f T,ay 28 A3 c3 (L3:List Int)]) [73,72,71,10,6,4] (fun⟨k1,A1,c1,L1,g1⟩=>[(73,vI (k1:Int))]) (fun⟨k1,A1,c1,L1,g1⟩=>[(2,[.v (.slice A1 L1.length c1),.v vn,.v vn,.v vn,vI 0,.v (.slice A3 L3.length c3)])]) ?_ (⟨0,none,0,[],[]⟩) ⟨Nat.zero_le _,rfl⟩
 rintro⟨k1,A1,c1,L1,g1⟩ ⟨P0,Hc⟩ _ o6
 have P1:L1.length≤T.r.n:=by have h9:=congrArg List.length Hc;simp only[List.length_map,List.length_take]at h9;omega
 refine Md ((k1:Int)<(T.r.n:Int)) (fun h6=>?_) fun h6=>?_
 ·refine Mi ?_ (pA 75 76 (k1:Int) k1 (s:=T.r) (fun w hk hr=>(q8 (hr _ i2))))
  refine fP 5 ?_ ai
  refine Mu ?_ call48 (fun bs w hS=>jV (T.r.at k1) w (Sl.rd.sub (s:=T.r) (i:=k1) (q8 (hS.res _ i2)) (by omega)) (pS yL (by omega)))
  rintro rh y5 tC pf
  refine M1 ?_ (hR:=(.cons _ (List.Sublist.refl _)))
  refine Mz ?_
  refine cb ?_
  refine gX (α:=aw) 128 ([y5]) ?_
  intro A6 c6
  refine Mi ?_ (pR ((k1:Int)+1))
  refine cb ?_
  refine cL ?_
  refine Da ?_
  refine cb ?_
  exact o6 ⟨k1+1,A6,c6,L1++[y5],g1++rh⟩ ⟨by omega,mf Hc (by omega) tC⟩ (by show T.r.n - (k1+1)<T.r.n - k1;omega)
 have yI:T.r.n≤k1:=by omega
 refine yk av ?_
 refine bU (α:=av) 101 ?_
 refine Ml (σ:=Nat×Option Addr×Nat×List av×List Nat) (fun⟨k2,A2,c2,L2,g2⟩=>k2≤T.c.n∧L2.map av.abs=(T.c.xs.take k2).map av.abs) (fun⟨k2,A2,c2,L2,g2⟩=>T.c.n - k2) (fun⟨k2,A2,c2,L2,g2⟩=>[ay 101 A2 c2 (L2:List av),qZ g2 L2,ay 39 A1 c1 (L1:List aw),qZ g1 L1,ib tK f T,ay 28 A3 c3 (L3:List Int)]) [90,89,88,10,6,4] (fun⟨k2,A2,c2,L2,g2⟩=>[(90,vI (k2:Int))]) (fun⟨k2,A2,c2,L2,g2⟩=>[(2,[.v (.slice A1 L1.length c1),.v (.slice A2 L2.length c2),.v vn,.v vn,vI 0,.v (.slice A3 L3.length c3)])]) ?_ (⟨0,none,0,[],[]⟩) ⟨Nat.zero_le _,rfl⟩
 rintro⟨k2,A2,c2,L2,g2⟩ ⟨P2,r8⟩ _ sK
 have P3:L2.length≤T.c.n:=by have h9:=congrArg List.length r8;simp only[List.length_map,List.length_take]at h9;omega
 refine Md ((k2:Int)<(T.c.n:Int)) (fun h7=>?_) fun h7=>?_
 ·refine Mi ?_ (pA 92 93 (k2:Int) k2 (s:=T.c) (fun w hk hr=>(q9 (hr _ i4))))
  refine fP 5 ?_ ai
  refine Mu ?_ call56 (fun bs w hS=>vT (T.c.at k2) w (Sl.rd.sub (s:=T.c) (i:=k2) (q9 (hS.res _ i4)) (by omega)) (uY yL (by omega)))
  rintro Ik y7 Cc EJ
  refine M1 ?_ (hR:=(.cons _ (List.Sublist.refl _)))
  refine Mz ?_
  refine cb ?_
  refine gX (α:=av) 48 ([y7]) ?_
  intro A8 c8
  refine Mi ?_ (pR ((k2:Int)+1))
  refine cb ?_
  refine cL ?_
  refine Da ?_
  refine cb ?_
  exact sK ⟨k2+1,A8,c8,L2++[y7],g2++Ik⟩ ⟨by omega,mf r8 (by omega) Cc⟩ (by show T.c.n - (k2+1)<T.c.n - k2;omega)
 refine cZ 17 [] [2] [ay 101 A2 c2 (L2:List av),qZ g2 L2,ay 39 A1 c1 (L1:List aw),qZ g1 L1,ib tK f T,ay 28 A3 c3 (L3:List Int)] ai ?_
 refine Mz ?_
 refine Mt [.agg #[.slice A1 L1.length c1,.slice A2 L2.length c2,T.au.val,T.a8.val,vi T.lead,.slice A3 L3.length c3],vi 0] fun bs w hS=>?_
 have hm:=Gl (n:=n) (by omega) (by omega) hI wZ
 have e1:=na Hc yI
 have e2:=na r8 (show T.c.n≤k2 by omega)
 refine⟨(⟨⟨A1,c1,L1⟩,⟨A2,c2,L2⟩,T.au,T.a8,T.lead,⟨A3,c3,L3⟩⟩:l6),?_,?_,hS.aO (y:=(⟨⟨A1,c1,L1⟩,⟨A2,c2,L2⟩,T.au,T.a8,T.lead,⟨A3,c3,L3⟩⟩:l6)) ⟨H7 i2 (hS.res _ i2) i3 (hS.res _ i3),H7 i0 (hS.res _ i0) i1 (hS.res _ i1),(H6 i4 (hS.res _ i4)).1,(H6 i4 (hS.res _ i4)).2,a4 i5 (hS.res _ i5) (fun _ _=>trivial)⟩⟩
 ·rw[hm];rfl
 ·unfold yl;rw[hm];show (⟨L1.map aw.abs,L2.map av.abs,_,_,_,_⟩:vN)=_;rw[e1,e2];rfl
theorem EL (n:Int)(l:Sl eP)(w:World)(hl:l.rd B w):Calls prog 16 #[vi n,l.val] w fun e w'=> ∃y:l6,e=.returned (.tuple #[y.val,vi (k6 n l.xs).2.2])∧y.abs=yl n l.xs∧bJ w w' y:=by
 have oE:=Sl.rd.ok hl
 have Ia:=Sl.ok.nc oE
 refine M0 ?_ func16
 refine Mp ?_ call51 (fun bs w hS=>b6 n 1 9 w)
 refine fL (gk n 1 9) (fun h1=>?_) fun h1=>?_
 rotate_left
 ·have Km:=uU h1
  refine Mt [.agg #[vn,vn,vn,vn,vi 0,vn],vi 2] fun bs w hS=>?_
  have hm:=sg (n:=n) (by omega) l.xs
  refine⟨(⟨Sl.nil,Sl.nil,Sl.nil,Sl.nil,0,Sl.nil⟩:l6),?_,?_,hS.aO (y:=(⟨Sl.nil,Sl.nil,Sl.nil,Sl.nil,0,Sl.nil⟩:l6)) ⟨Sl.ao _ _,Sl.ao _ _,Sl.ao _ _,Sl.ao _ _,Sl.ao _ _⟩⟩
  ·rw[hm];rfl
  ·unfold yl;rw[hm];rfl
 obtain⟨Km,PV⟩:=uT h1
 refine Md ((400:Int)<(l.n:Int)) (fun h2=>?_) fun h2=>?_
 ·refine Mt [.agg #[vn,vn,vn,vn,vi 0,vn],vi 1] fun bs w hS=>?_
  have hm:=Ai (n:=n) (by omega) (show 400<l.n by omega)
  refine⟨(⟨Sl.nil,Sl.nil,Sl.nil,Sl.nil,0,Sl.nil⟩:l6),?_,?_,hS.aO (y:=(⟨Sl.nil,Sl.nil,Sl.nil,Sl.nil,0,Sl.nil⟩:l6)) ⟨Sl.ao _ _,Sl.ao _ _,Sl.ao _ _,Sl.ao _ _,Sl.ao _ _⟩⟩
  ·rw[hm];rfl
  ·unfold yl;rw[hm];rfl
 refine QI (α:=aw) (T:=48) 39 3 [o5,o5,o5] ?_
 intro Hh
 refine bU (α:=av) 101 ?_
 refine Ml (σ:=Nat×Option Addr×Nat×List av) (fun⟨k,A,c,L⟩=>(k:Int)≤n∧L=nw k) (fun⟨k,A,c,L⟩=>n.toNat - k) (fun⟨k,A,c,L⟩=>[ay 101 A c (L:List av),ay 39 Hh 3 ([o5,o5,o5]:List aw)]) [7,6,4,0,1] (fun⟨k,A,c,L⟩=>[(7,vI ((k:Int)+1))]) (fun⟨k,A,c,L⟩=>[(1,[.v (.slice Hh 3 3),.v (.slice A L.length c),.v vn,.v vn,vI 0])]) ?_ (⟨0,none,0,[]⟩) ⟨by omega,rfl⟩ (hp:=(by try simp only[Int.natCast_zero,Int.zero_add];kernel_rfl))
 rintro⟨k,A,c,L⟩ ⟨IV,hL⟩ _ bu
 have Tp:L.length=k:=by rw[hL];exact xt k
 refine Md ((k:Int)+1≤n) (fun h3=>?_) fun h3=>?_
 ·refine M1 ?_
  refine gX (α:=av) 48 ([(⟨(k:Int)+1,0,1,Sl.nil⟩:av)]) ?_
  intro A2 c2
  refine Mi ?_ (pR (((k:Int)+1)+1))
  exact bu ⟨k+1,A2,c2,L++[(⟨(k:Int)+1,0,1,Sl.nil⟩:av)]⟩ ⟨by omega,by rw[hL];exact uZ k⟩ (by show n.toNat - (k+1)<n.toNat - k;omega) (hp:=(by (try dsimp only);rw[show ((k+1:Nat):Int)+1=(k:Int)+1+1 by omega];kernel_rfl))
 refine cb ?_
 have Hy:(⟨⟨Hh,3,[o5,o5,o5]⟩,⟨A,c,L⟩,Sl.nil,Sl.nil,0⟩:aS).abs=aH.start n:=by rw[hL];exact xv (by omega)
 refine Db (K:=tJ) xw (fun x hx=>xu x (hL▸hx)) ?_
 refine bU (α:=Int) 28 ?_
 refine cb ?_
 refine Ml (σ:=Nat×List Nat×aS×Option Addr×Nat×List Int) (fun⟨k,f,T,A3,c3,L3⟩=>Eg (aH.start n) l k T L3) (fun⟨k,f,T,A3,c3,L3⟩=>l.n - k) (fun⟨k,f,T,A3,c3,L3⟩=>[ib tJ f T,ay 28 A3 c3 (L3:List Int)]) [9,8,6,4,1] (fun⟨k,f,T,A3,c3,L3⟩=>[(9,vI (k:Int))]) (fun⟨k,f,T,A3,c3,L3⟩=>[(1,[.v T.r.val,.v T.c.val,.v T.au.val,.v T.a8.val,vI T.lead]),(2,[.v vn,.v vn,.v vn,.v vn,vI 0,.v (.slice A3 L3.length c3)])]) ?_ (⟨0,[],(⟨⟨Hh,3,[o5,o5,o5]⟩,⟨A,c,L⟩,Sl.nil,Sl.nil,0⟩:aS),none,0,[]⟩) (Gk (by omega) l Hy)
 rintro⟨k,f,T,A3,c3,L3⟩ hI _ j8
 have yL:=hI.2.2.2.1
 have sY:=hI.2.2.2.2
 have PZ:=hI.1
 refine bk (F:=iE T) (fun bs w hS=>Ah (hS.res _ i0)) fun ru=>?_
 obtain⟨Rn,Ro,Rp,Rq,Ru,Rv⟩:=cu yL
 have Nb:=Sl.ok.nc ru.1
 have Nc:=Sl.ok.nc ru.2.2.2
 have Nd:=Sl.ok.nc ru.2.2.1
 have Nf:=Sl.ok.nc ru.2.1
 refine Md ((k:Int)<(l.n:Int)) (fun h4=>?_) fun h4=>?_
 ·refine Mi ?_ (pc (pI 49 (k:Int) k (db hl)) (pF 51 k 0 1 (db hl)))
  refine Mp ?_ call51 (fun bs w hS=>b6 (l.at k).kind 1 3 w)
  refine Mb (gk (l.at k).kind 1 3) (fun h5=>?_) fun h5=>?_
  ·obtain⟨Tq,T5⟩:=uT h5
   refine Mi ?_ (pA 56 57 (k:Int) k (db hl))
   refine NI (K:=tJ) (g:=fun y=>y) 1 ?_ call57 (fun bs w hO=>Nj (bs.getD 1 0) f T (l.at k) w hO yL (Sl.ok.at (s:=l) (i:=k) oE (by omega)))
   rintro tj p9
   refine M1 ?_
   refine cb ?_
   refine gX (α:=Int) 8 ([(T.abs.kI (l.at k)).2]) ?_
   intro A4 c4
   refine Mi ?_ (pR ((k:Int)+1))
   refine cb ?_
   exact j8 ⟨k+1,tj.1,tj.2,A4,c4,L3++[(T.abs.kI (l.at k)).2]⟩ (ra hI (by omega) (Gh (by omega) (by omega)) p9) (by show l.n - (k+1)<l.n - k;omega)
  have Tq:=uU h5
  refine Mi ?_ (pc (pI 61 (k:Int) k (db hl)) (pF 63 k 0 1 (db hl)))
  refine Mp ?_ call51 (fun bs w hS=>b6 (l.at k).kind 4 8 w)
  refine Mb (gk (l.at k).kind 4 8) (fun h6=>?_) fun h6=>?_
  ·obtain⟨Ts,T6⟩:=uT h6
   refine Mi ?_ (pA 68 69 (k:Int) k (db hl))
   refine NI (K:=tJ) (g:=fun y=>y) 1 ?_ call58 (fun bs w hO=>Nm (bs.getD 1 0) f T (l.at k) w hO yL (Sl.ok.at (s:=l) (i:=k) oE (by omega)))
   rintro E1 Cq
   refine M1 ?_
   refine cb ?_
   refine gX (α:=Int) 8 ([(T.abs.kJ (l.at k)).2]) ?_
   intro A6 c6
   refine Mi ?_ (pR ((k:Int)+1))
   refine cb ?_
   exact j8 ⟨k+1,E1.1,E1.2,A6,c6,L3++[(T.abs.kJ (l.at k)).2]⟩ (ra hI (by omega) (Gi (by omega) (by omega)) Cq) (by show l.n - (k+1)<l.n - k;omega)
  have Ts:=uU h6
  refine Mi ?_ (pc (pI 73 (k:Int) k (db hl)) (pF 75 k 0 1 (db hl)))
  refine Mp ?_ call51 (fun bs w hS=>b6 (l.at k).kind 9 11 w)
  refine Mb (gk (l.at k).kind 9 11) (fun h7=>?_) fun h7=>?_
  rotate_left
  ·have Tt:=uU h7
   refine M1 ?_
   refine cb ?_
   refine gX (α:=Int) 8 ([3]) ?_
   intro A9 c9
   refine Mi ?_ (pR ((k:Int)+1))
   refine cb ?_
   exact j8 ⟨k+1,f,T,A9,c9,L3++[3]⟩ (ra hI (by omega) (uV (by omega)) rfl) (by show l.n - (k+1)<l.n - k;omega)
  obtain⟨Tt,T7⟩:=uT h7
  refine Mi ?_ (pA 80 81 (k:Int) k (db hl))
  refine NI (K:=tJ) (g:=fun y=>y) 1 ?_ call59 (fun bs w hO=>It (bs.getD 1 0) f T (l.at k) w hO yL (Sl.ok.at (s:=l) (i:=k) oE (by omega)))
  rintro Ko Ir
  refine M1 ?_
  refine cb ?_
  refine gX (α:=Int) 8 ([(T.abs.dU (l.at k)).2]) ?_
  intro A8 c8
  refine Mi ?_ (pR ((k:Int)+1))
  refine cb ?_
  exact j8 ⟨k+1,Ko.1,Ko.2,A8,c8,L3++[(T.abs.dU (l.at k)).2]⟩ (ra hI (by omega) (Ad (by omega) (by omega)) Ir) (by show l.n - (k+1)<l.n - k;omega)
 have wZ:l.n≤k:=by omega
 refine yk aw ?_
 refine bU (α:=aw) 39 ?_
 refine Ml (σ:=Nat×Option Addr×Nat×List aw×List Nat) (fun⟨k1,A1,c1,L1,g1⟩=>k1≤T.r.n∧L1.map aw.abs=(T.r.xs.take k1).map aw.abs) (fun⟨k1,A1,c1,L1,g1⟩=>T.r.n - k1) (fun⟨k1,A1,c1,L1,g1⟩=>[ay 39 A1 c1 (L1:List aw),qZ g1 L1,ib tJ f T,ay 28 A3 c3 (L3:List Int)]) [11,8,6,4] (fun⟨k1,A1,c1,L1,g1⟩=>[(11,vI (k1:Int))]) (fun⟨k1,A1,c1,L1,g1⟩=>[(2,[.v (.slice A1 L1.length c1),.v vn,.v vn,.v vn,vI 0,.v (.slice A3 L3.length c3)])]) ?_ (⟨0,none,0,[],[]⟩) ⟨Nat.zero_le _,rfl⟩
 rintro⟨k1,A1,c1,L1,g1⟩ ⟨P0,Hc⟩ _ o6
 have P1:L1.length≤T.r.n:=by have h9:=congrArg List.length Hc;simp only[List.length_map,List.length_take]at h9;omega
 refine Md ((k1:Int)<3) (fun h8=>?_) fun h8=>?_
 ·refine fP 11 ?_ ai
  refine bY ?_ (pA 100 101 (k1:Int) k1 (s:=T.r) (fun w hk hr=>(q8 (hr _ i2))))
  refine Mu ?_ call10 (fun bs w hS=>gS (T.r.at k1) w (Sl.rd.sub (s:=T.r) (i:=k1) (q8 (hS.res _ i2)) (by omega)) (pS yL (by omega)))
  rintro Ki qf EF AH
  refine M1 ?_ (hR:=(.cons _ (List.Sublist.refl _)))
  refine Mz ?_
  refine cb ?_
  refine gX (α:=aw) 128 ([qf]) ?_
  intro EX EY
  refine Mi ?_ (pR ((k1:Int)+1))
  refine cb ?_
  refine cL ?_
  refine Da ?_
  refine cb ?_
  exact o6 ⟨k1+1,EX,EY,L1++[qf],g1++Ki⟩ ⟨by omega,mf Hc (by omega) EF⟩ (by show T.r.n - (k1+1)<T.r.n - k1;omega)
 have yI:T.r.n≤k1:=by omega
 refine yk av ?_
 refine bU (α:=av) 101 ?_
 refine Ml (σ:=Nat×Option Addr×Nat×List av×List Nat) (fun⟨k2,A2,c2,L2,g2⟩=>k2≤T.c.n∧L2.map av.abs=(T.c.xs.take k2).map av.abs) (fun⟨k2,A2,c2,L2,g2⟩=>T.c.n - k2) (fun⟨k2,A2,c2,L2,g2⟩=>[ay 101 A2 c2 (L2:List av),qZ g2 L2,ay 39 A1 c1 (L1:List aw),qZ g1 L1,ib tJ f T,ay 28 A3 c3 (L3:List Int)]) [12,8,6,4] (fun⟨k2,A2,c2,L2,g2⟩=>[(12,vI (k2:Int))]) (fun⟨k2,A2,c2,L2,g2⟩=>[(2,[.v (.slice A1 L1.length c1),.v (.slice A2 L2.length c2),.v vn,.v vn,vI 0,.v (.slice A3 L3.length c3)])]) ?_ (⟨0,none,0,[],[]⟩) ⟨Nat.zero_le _,rfl⟩
 rintro⟨k2,A2,c2,L2,g2⟩ ⟨P2,r8⟩ _ sK
 have P3:L2.length≤T.c.n:=by have h9:=congrArg List.length r8;simp only[List.length_map,List.length_take]at h9;omega
 refine Md ((k2:Int)<(T.c.n:Int)) (fun h9=>?_) fun h9=>?_
 ·refine fP 11 ?_ ai
  refine bY ?_ (pA 122 123 (k2:Int) k2 (s:=T.c) (fun w hk hr=>(q9 (hr _ i4))))
  refine Mu ?_ call60 (fun bs w hS=>mS (T.c.at k2) w (Sl.rd.sub (s:=T.c) (i:=k2) (q9 (hS.res _ i4)) (by omega)) (uY yL (by omega)))
  rintro Ce td Cf vv
  refine M1 ?_ (hR:=(.cons _ (List.Sublist.refl _)))
  refine Mz ?_
  refine cb ?_
  refine gX (α:=av) 48 ([td]) ?_
  intro Pl Pm
  refine Mi ?_ (pR ((k2:Int)+1))
  refine cb ?_
  refine cL ?_
  refine Da ?_
  refine cb ?_
  exact sK ⟨k2+1,Pl,Pm,L2++[td],g2++Ce⟩ ⟨by omega,mf r8 (by omega) Cf⟩ (by show T.c.n - (k2+1)<T.c.n - k2;omega)
 refine Mt [.agg #[.slice A1 L1.length c1,.slice A2 L2.length c2,T.au.val,T.a8.val,vi T.lead,.slice A3 L3.length c3],vi 0] fun bs w hS=>?_
 have hm:=Gl (n:=n) (by omega) (by omega) hI wZ
 have e1:=na Hc yI
 have e2:=na r8 (show T.c.n≤k2 by omega)
 refine⟨(⟨⟨A1,c1,L1⟩,⟨A2,c2,L2⟩,T.au,T.a8,T.lead,⟨A3,c3,L3⟩⟩:l6),?_,?_,hS.aO (y:=(⟨⟨A1,c1,L1⟩,⟨A2,c2,L2⟩,T.au,T.a8,T.lead,⟨A3,c3,L3⟩⟩:l6)) ⟨H7 i2 (hS.res _ i2) i3 (hS.res _ i3),H7 i0 (hS.res _ i0) i1 (hS.res _ i1),(H6 i4 (hS.res _ i4)).1,(H6 i4 (hS.res _ i4)).2,a4 i5 (hS.res _ i5) (fun _ _=>trivial)⟩⟩
 ·rw[hm];rfl
 ·unfold yl;rw[hm];show (⟨L1.map aw.abs,L2.map av.abs,_,_,_,_⟩:vN)=_;rw[e1,e2];rfl
theorem yG {B B':Nat→Prop}(a b:l6)(w:World)(ha:aJ.sub B w a)(hb:aJ.sub B' w b)(he:a.abs=b.abs):Calls prog 17 #[a.val,b.val] w fun e w'=>e=.returned (vb true)∧Kp [] w w':=by
 have qa:=aJ.bL ha
 have EV:=aJ.bL hb
 have hr:a.r.xs.map aw.abs=b.r.xs.map aw.abs:=congrArg vN.r he
 have hc:a.c.xs.map av.abs=b.c.xs.map av.abs:=congrArg vN.c he
 have hm:a.au.xs=b.au.xs:=congrArg vN.au he
 have hk:a.a8.xs=b.a8.xs:=congrArg vN.a8 he
 have hd:a.ie.xs=b.ie.xs:=congrArg vN.ie he
 have hle:a.lead=b.lead:=congrArg vN.lead he
 have SJ:=sB hr
 have T8:=sB hc
 have T9:=sT hm
 have IV:=sT hk
 have Ua:=sT hd
 have vY:=Sl.ok.nc qa.1
 have AJ:=Sl.ok.nc qa.2.1
 have Ub:=Sl.ok.nc qa.2.2.2.2
 refine M0 ?_ func17
 refine cr ((a.r.n:Int)=(b.r.n:Int)) (fun h1=>?_) fun h1=>?_
 rotate_left
 ·exfalso;first|omega|exact h1 (jm hd k)
 refine cr ((a.c.n:Int)=(b.c.n:Int)) (fun h2=>?_) fun h2=>?_
 rotate_left
 ·exfalso;first|omega|exact h2 (jm hd k)
 refine Mp ?_ call14 (fun bs w hS=>Co a.au b.au w (aJ.kp ha hS.kp).2.2.1 (aJ.kp hb hS.kp).2.2.1 hm)
 refine Mq 32 false ?_ rfl
 refine Mp ?_ call61 (fun bs w hS=>vl _ _ w (aJ.kp ha hS.kp).2.2.2.1 (aJ.kp hb hS.kp).2.2.2.1 hk)
 refine Mq 40 false ?_ rfl
 refine cr (a.lead=b.lead) (fun h3=>?_) fun h3=>?_
 rotate_left
 ·exfalso;first|omega|exact h3 (jm hd k)
 refine cr ((a.ie.n:Int)=(b.ie.n:Int)) (fun h4=>?_) fun h4=>?_
 rotate_left
 ·exfalso;first|omega|exact h4 (jm hd k)
 refine Ml (σ:=Nat) (fun i=>True) (fun i=>a.r.n - i) (fun _=>[]) [5,3,2] (fun i=>[(5,vI (i:Int))]) (fun _=>[]) ?_ 0 trivial
 rintro i _ _ bu
 have P4:=xM (f:=aw.abs) (g:=aw.abs) rfl hr i
 refine Md ((i:Int)<(a.r.n:Int)) (fun h5=>?_) fun h5=>?_
 ·refine cZ 12 [] [] [] ai ?_
  refine bY ?_ (pc (pA 66 67 (i:Int) i (s:=a.r) (fun w hk hr=>(aJ.kp ha hk).1)) (pA 71 72 (i:Int) i (s:=b.r) (fun w hk hr=>(aJ.kp hb hk).1)))
  refine Mp ?_ call13 (fun bs w hS=>yB (a.r.at i) (b.r.at i) w (Sl.rd.sub (s:=a.r) (i:=i) (aJ.kp ha hS.kp).1 (by omega)) (Sl.rd.sub (s:=b.r) (i:=i) (aJ.kp hb hS.kp).1 (by omega)) P4)
  refine Mq 74 false ?_ rfl
  refine Mi ?_ (pR ((i:Int)+1))
  exact bu (i+1) trivial (by omega)
 refine Ml (σ:=Nat) (fun j=>True) (fun j=>a.c.n - j) (fun _=>[]) [6,3,2] (fun j=>[(6,vI (j:Int))]) (fun _=>[]) ?_ 0 trivial
 rintro j _ _ j8
 have P5:=xM (f:=av.abs) (g:=av.abs) rfl hc j
 refine Md ((j:Int)<(a.c.n:Int)) (fun h6=>?_) fun h6=>?_
 ·refine cZ 12 [] [] [] ai ?_
  refine bY ?_ (pc (pA 85 86 (j:Int) j (s:=a.c) (fun w hk hr=>(aJ.kp ha hk).2.1)) (pA 90 91 (j:Int) j (s:=b.c) (fun w hk hr=>(aJ.kp hb hk).2.1)))
  refine Mp ?_ call62 (fun bs w hS=>vU (a.c.at j) (b.c.at j) w (Sl.rd.sub (s:=a.c) (i:=j) (aJ.kp ha hS.kp).2.1 (by omega)) (Sl.rd.sub (s:=b.c) (i:=j) (aJ.kp hb hS.kp).2.1 (by omega)) P5)
  refine Mq 93 false ?_ rfl
  refine Mi ?_ (pR ((j:Int)+1))
  exact j8 (j+1) trivial (by omega)
 refine Ml (σ:=Nat) (fun k=>True) (fun k=>a.ie.n - k) (fun _=>[]) [7,3,2] (fun k=>[(7,vI (k:Int))]) (fun _=>[]) ?_ 0 trivial
 rintro k _ _ o6
 have Tu:=jm hd k
 refine Md ((k:Int)<(a.ie.n:Int)) (fun h7=>?_) fun h7=>?_
 rotate_left
 ·exact Mt [vb true] fun bs w hS=>⟨rfl,hS.kp⟩
 refine cZ 11 [] [] [] ai ?_
 refine bY ?_ (pc (pA 104 105 (k:Int) k (s:=a.ie) (fun w hk hr=>(aJ.kp ha hk).2.2.2.2)) (pA 109 110 (k:Int) k (s:=b.ie) (fun w hk hr=>(aJ.kp hb hk).2.2.2.2)))
 refine cr ((a.ie.at k)=(b.ie.at k)) (fun h8=>?_) fun h8=>?_
 rotate_left
 ·exfalso;first|omega|exact h8 (jm hd k)
 refine Mi ?_ (pR ((k:Int)+1))
 exact o6 (k+1) trivial (by omega)
theorem tk (n:Int)(l:Sl eP)(w:World)(hl:l.rd B w)(lj:aJ.small l):Calls prog 5 #[vi n,.slice l.A l.n l.c] w fun e w'=>e=.returned (vb true)∧Kp [] w w':=by
 have oE:=Sl.rd.ok hl
 have Ia:=Sl.ok.nc oE
 have Tv:l.xs.length*80≤140737488355328:=lj.1
 refine M0 ?_ func5
 refine bU (α:=eP) 105 ?_
 refine Ma ?_ (α:=eP) (L2:=l.xs) 80 (fun bs w hS=>Sl.rd.src (s:=l) (Sl.rd.kp hl hS.kp))
 intro A1 c1
 refine eu (ay 105 A1 c1 (l.xs:List eP)) (List.Sublist.refl _) (fun w h=>h) ?_
 refine Mu ?_ call15 (fun bs w hS=>Ks n (⟨A1,c1,l.xs⟩:Sl eP) w (Rr (B:=bH) (hS.res _ i0) (fun _ _=>trivial) (fun z hz=>Sl.rd.mem (s:=l) hl z hz)))
 rintro gn y2 jw jT
 refine Mu ?_ call16 (fun bs w hS=>EL n l w (Sl.rd.kp hl hS.kp))
 rintro sN y3 my sm
 refine Md ((k6 n l.xs).2.2=(k6 n l.xs).2.2) (fun h1=>?_) fun h1=>?_
 rotate_left
 ·exact absurd rfl h1
 refine Mp ?_ call17 (fun bs w hS=>yG y2 y3 w (hS.res _ i1) (hS.res _ i0) (jw.trans my.symm))
 exact o4 true (by simp[bO,den])
end Go.Proofs.YtbjakddkfgjkaaaGreat.W
