/-
  The functions that the law ClusterRuns reaches, walked: each returns what its model says.
  Conditions: those that each theorem states.
-/
import Derived.Test.YtbjakddkfgjkaaaGreatWClusterRunsa
set_option linter.unusedVariables false
set_option linter.unusedSimpArgs false
set_option maxRecDepth 100000
set_option maxHeartbeats 2000000
namespace Go.Proofs.YtbjakddkfgjkaaaGreat.W
open Go.Proofs.YtbjakddkfgjkaaaGreat.Fw Go.RowKit Tryz
variable {B : Nat → Prop}
attribute [local irreducible] JM nx
theorem ll (s:Sl aa)(t:Int)(w:World)(hs:s.rd B w)(hn:s.n≤1048576):Calls prog 76 #[s.val,vi t] w fun e w'=>e=.returned (.tuple #[vi (eQ (fun x:aa=>IntKind.i64.wrap (x.ag - t)) s.xs:Nat),vb (dk (fun x:aa=>IntKind.i64.wrap (x.ag - t)) s.xs)])∧Kp [] w w':=by
 have cV:=Sl.rd.ok hs
 have iV:=Sl.ok.nc cV
 have iW:s.n=s.xs.length:=rfl
 refine M0 ?_ func76
 refine Mp ?_ call141 (fun bs w hS=>re s t w (Sl.rd.kp hs hS.kp) (by omega))
 exact Mt [vi ((eQ (fun x:aa=>IntKind.i64.wrap (x.ag - t)) s.xs:Nat):Int),vb (dk (fun x:aa=>IntKind.i64.wrap (x.ag - t)) s.xs)] fun bs w hS=>⟨rfl,hS.kp⟩
theorem eg (s:Sl aa)(t:Int)(w:World)(hs:s.rd B w):Calls prog 98 #[s.val,vi t] w fun e w'=>e=.returned (vi (aQ (fun x:aa=>decide (x.ag=t)) s.xs))∧Kp [] w w':=by
 have cV:=Sl.rd.ok hs
 have iV:=Sl.ok.nc cV
 have iW:s.n=s.xs.length:=rfl
 refine M0 ?_ func98
 refine Ml (σ:=Nat) (fun i=>i≤s.n∧ ∀j,j<i→decide ((s.at j).ag=t)=false) (fun i=>s.n - i) (fun _=>[]) [5,0,1] (fun i=>[(5,vI (i:Int))]) (fun _=>[]) ?_ 0 ⟨Nat.zero_le _,fun j hj=>absurd hj (Nat.not_lt_zero _)⟩
 rintro i ⟨hi,hI⟩ _ bu
 refine Md ((i:Int)<(s.n:Int)) (fun h1=>?_) fun h1=>?_
 rotate_left
 · exact b8 (-1) (by rw[gp (p:=(fun x:aa=>decide (x.ag=t))) fun j hj=>hI j (by omega)])
 refine Mi ?_ (pc (pI 14 (i:Int) i (db hs)) (pF 16 i 0 1 (db hs)))
 refine Md ((s.at i).ag=t) (fun h2=>?_) fun h2=>?_
 · exact b8 (i:Int) (by rw[fR (p:=(fun x:aa=>decide (x.ag=t))) (i:=i) (by omega) (decide_eq_true (by assumption)) hI])
 refine Mi ?_ (pR ((i:Int)+1))
 exact bu (i+1) ⟨by omega,fun j hj=>by rcases Nat.lt_succ_iff_lt_or_eq.1 hj with h|h;exact hI j h;subst h;exact decide_eq_false (by assumption)⟩ (by omega)
theorem yq (A:Option Addr)(c:Nat)(L:List aa)(i j:Nat)(ii jj:Int)(w:World)(gb:(ay 118 A c L).p w)(dX: ∀b,b∈(ay 118 A c L).fp→b<w.heap.size)(ei:ii=(i:Int))(ej:jj=(j:Int))(jf:i≤j)(hj:j≤L.length):
    Calls prog 78 #[.slice A L.length c,vi ii,vi jj] w fun e w'=>e=.returned (.slice A (L.take i++L.drop j).length c)∧dh (ay 118 A c L) w w' (ay 118 A c (L.take i++L.drop j)):=by
 subst ei ej
 have mu:=br gb
 have nc:=mu.2
 refine Mj ?_ func78 (WS.eG w _ gb (by cases A<;>simp [ay,fI]) dX)
 refine NF (e:=118) (A:=A) (n:=L.length) (il:=(i:Int)) (ih:=(j:Int)) (im:=(L.length:Int)) (c:=c) i j L.length ?_ rfl rfl rfl (by omega) (by omega) (by omega)
 refine Md ((i:Int)=(j:Int)) (fun h1=>?_) fun h1=>?_
 · refine Mt [.slice A L.length c] fun bs w hS=>?_
   have BU:i=j:=by omega
   subst BU
   rw[List.take_append_drop]
   exact⟨rfl,hS.aW⟩
 refine fP 6 ?_ ai
 refine bY ?_ (pc (pG [(22,.sl 0 i)] (oc (rfl:0=0) (oc (rfl:(i:Int)=(i:Int)) (oc ((by omega):i≤c) on)))) (pG [(25,.sl j L.length)] (oc (rfl:(j:Int)=(j:Int)) (oc (rfl:L.length=L.length) (oc ((by omega):j≤L.length) on)))))
 refine Mz ?_
 refine NA 56 i j ?_ jf hj
 refine Mi ?_ (pG [(31,.sl (i+(L.length - j)) L.length)] (oc (rfl:((i+(L.length - j):Nat):Int)=(((i+(L.length - j)):Nat):Int)) (oc (rfl:(L.length:Int)=(L.length:Int)) (oc ((by omega):(i+(L.length - j))≤L.length) (oc ((by omega):L.length≤c) on)))))
 refine KC (i+(L.length - j)) (L.length - (i+(L.length - j))) ?_ (by simp only[List.length_append,List.length_take,List.length_drop];omega) (by omega)
 refine Mt [.slice A (i+(L.length - j)) c] fun bs w hS=>?_
 have hlen:(L.take i++L.drop j).length=i+(L.length - j):=by simp only[List.length_append,List.length_take,List.length_drop];omega
 have j1:=hS
 rw[←hlen,List.take_length] at j1
 refine⟨?_,j1.aW⟩
 rw[hlen]
 rfl
theorem vY (s:Sl aa)(n t:Int)(w:World)(hs:s.rd B w)(ht:ln t):Calls prog 26 #[s.val,vi n,vi t] w fun e w'=> ∃y:Sl aa,e=.returned (.tuple #[y.val,((dB (s.xs.map aa.abs) n t).2.1).val,vi (dB (s.xs.map aa.abs) n t).2.2])∧y.xs.map aa.abs=(dB (s.xs.map aa.abs) n t).1∧bJ w w' y:=by
 have cV:=Sl.rd.ok hs
 have iV:=Sl.ok.nc cV
 have iW:s.n=s.xs.length:=rfl
 have tA:(s.xs.map aa.abs).length=s.n:=by simp
 refine M0 ?_ func26
 refine Mp ?_ call63 (fun bs w hS=>gV s n w (Sl.rd.kp hs hS.kp))
 refine cr (bC (s.xs.map aa.abs) n=0) (fun h1=>?_) fun h1=>?_
 rotate_left
 · refine Mt [vn,vz 0,vi (bC (s.xs.map aa.abs) n)] fun bs w hS=>?_
   have hm:dB (s.xs.map aa.abs) n t=([],gl,bC (s.xs.map aa.abs) n):=by grind[dB]
   refine⟨Sl.nil,?_,?_,hS.aO (Sl.ao _ _)⟩
   · rw[hm];rfl
   · rw[hm];rfl
 obtain⟨EY,wm,mg,gI⟩:=dm h1
 refine Mf ?_ call70 (fun bs w hS=>iC s w (Sl.rd.kp hs hS.kp) (fC (by assumption)))
 rintro y1 a5
 refine dH ?_
 have bn:=eW (hs) a5
 refine bk (F:= ∀i,i<y1.n→aJ.ok (y1.at i)) (fun bs w hS i hi=>aJ.bL (Sl.rd.sub (gu (A:=y1.A) (c:=y1.c) (L:=y1.xs) (hS.res _ i0) (hS.res _ i1) bn) hi)) fun gj=>?_
 refine bk (F:=dY y1.A y1.c (y1.xs:List aa)) (fun bs w hS=>br (hS.res _ i1)) fun cI=>?_
 have cn:=cI.2
 have OT:=sA a5
 have mr:y1.n=y1.xs.length:=rfl
 have ft:Sl.ok y1:=⟨cn.1,by unfold maxLen;exact cn.2,fun i hi=>⟨cI.1 i hi,gj i hi⟩⟩
 refine Mp ?_ call76 (fun bs w hS=>ll y1 t w (gu (A:=y1.A) (c:=y1.c) (L:=y1.xs) (hS.res _ i0) (hS.res _ i1) bn) (by omega))
 refine fL (dk (fun x:aa=>IntKind.i64.wrap (x.ag - t)) y1.xs) (fun h2=>?_) fun h2=>?_
 rotate_left
 · refine Mt [y1.val,vz 11,vi 0] fun bs w hS=>?_
   have tG:aQ (fun x:az=>decide (x.ag=t)) (y1.xs.map aa.abs)=aQ (fun x:az=>decide (x.ag=t)) (s.xs.map aa.abs):=by rw[a5]
   have hb:=n8 (L:=y1.xs) (index:=n) (t:=t) (by rw[a5];assumption) ht
   have gU:=hb.1
   rw[h2,tG] at gU
   have jB:=of_decide_eq_false gU.symm
   have hm:dB (s.xs.map aa.abs) n t=(s.xs.map aa.abs,⟨11,0,emp⟩,0):=by grind[dB]
   refine⟨y1,?_,?_,hS.aO (y:=y1) (jG (L0:=y1.xs) i1 i0 hS.res (fun x hx=>hx) bn)⟩
   · rw[hm];rfl
   · rw[hm];exact a5
 have dX:=xT h2
 refine Mi ?_ (pR (((eQ (fun x:aa=>IntKind.i64.wrap (x.ag - t)) y1.xs:Nat):Int)+1))
 refine cd ?_
 refine nF ?_ (σ:=Unit) (v:=fun _=>.slice y1.A (y1.xs.take (((eQ (fun x:aa=>IntKind.i64.wrap (x.ag - t)) y1.xs:Nat):Int)).toNat++y1.xs.drop ((((eQ (fun x:aa=>IntKind.i64.wrap (x.ag - t)) y1.xs:Nat):Int)).toNat+1)).length y1.c) (F:=fun _=>True) (r:=fun _=>ay 118 y1.A y1.c (y1.xs.take (((eQ (fun x:aa=>IntKind.i64.wrap (x.ag - t)) y1.xs:Nat):Int)).toNat++y1.xs.drop ((((eQ (fun x:aa=>IntKind.i64.wrap (x.ag - t)) y1.xs:Nat):Int)).toNat+1):List aa)) (vs:=fun bs=>[y1.val,vi ((eQ (fun x:aa=>IntKind.i64.wrap (x.ag - t)) y1.xs:Nat):Int),vi (((eQ (fun x:aa=>IntKind.i64.wrap (x.ag - t)) y1.xs:Nat):Int)+1)]) call78 (fun bs w hS=>(yq y1.A y1.c y1.xs (((eQ (fun x:aa=>IntKind.i64.wrap (x.ag - t)) y1.xs:Nat):Int)).toNat ((((eQ (fun x:aa=>IntKind.i64.wrap (x.ag - t)) y1.xs:Nat):Int)).toNat+1) _ _ w (hS.res _ i0) hS.lH.2.2 (by omega) (by omega) (by omega) (by omega)).mono (fun e w' ⟨h1,h2⟩=>⟨(),h1,trivial,h2⟩))
 rintro _ _
 refine Mt [.slice y1.A (y1.xs.take (((eQ (fun x:aa=>IntKind.i64.wrap (x.ag - t)) y1.xs:Nat):Int)).toNat++y1.xs.drop ((((eQ (fun x:aa=>IntKind.i64.wrap (x.ag - t)) y1.xs:Nat):Int)).toNat+1)).length y1.c,vz 0,vi 0] fun bs w hS=>?_
 have tG:aQ (fun x:az=>decide (x.ag=t)) (y1.xs.map aa.abs)=aQ (fun x:az=>decide (x.ag=t)) (s.xs.map aa.abs):=by rw[a5]
 have hb:=n8 (L:=y1.xs) (index:=n) (t:=t) (by rw[a5];assumption) ht
 have gU:=hb.1
 rw[h2,tG] at gU
 have jB:=of_decide_eq_true gU.symm
 have gT:=hb.2 h2
 rw[tG] at gT
 have hm:dB (s.xs.map aa.abs) n t=((s.xs.map aa.abs).take (aQ (fun x:az=>decide (x.ag=t)) (s.xs.map aa.abs)).toNat++(s.xs.map aa.abs).drop ((aQ (fun x:az=>decide (x.ag=t)) (s.xs.map aa.abs)).toNat+1),gl,0):=by grind[dB]
 refine⟨⟨y1.A,y1.c,y1.xs.take (((eQ (fun x:aa=>IntKind.i64.wrap (x.ag - t)) y1.xs:Nat):Int)).toNat++y1.xs.drop ((((eQ (fun x:aa=>IntKind.i64.wrap (x.ag - t)) y1.xs:Nat):Int)).toNat+1)⟩,?_,?_,hS.aO (y:=(⟨y1.A,y1.c,y1.xs.take (((eQ (fun x:aa=>IntKind.i64.wrap (x.ag - t)) y1.xs:Nat):Int)).toNat++y1.xs.drop ((((eQ (fun x:aa=>IntKind.i64.wrap (x.ag - t)) y1.xs:Nat):Int)).toNat+1)⟩:Sl aa)) (jG (L0:=y1.xs) i0 i1 hS.res (fun x hx=>?_) bn)⟩
 · rw[hm];rfl
 · rw[hm, ←gT,Int.toNat_natCast, ←a5];simp[List.map_append,List.map_take,List.map_drop]
 · simp only[List.nil_append,List.mem_append] at hx;rcases hx with hx|hx
   · exact List.mem_of_mem_take hx
   · exact List.mem_of_mem_drop hx
theorem BY (s:Sl aa)(n t:Int)(w:World)(hs:s.rd B w)(ht:ln t):Calls prog 35 #[s.val,vi n,vi t] w fun e w'=> ∃y:Sl aa,e=.returned (.tuple #[y.val,((dB (s.xs.map aa.abs) n t).2.1).val,vi (dB (s.xs.map aa.abs) n t).2.2])∧y.xs.map aa.abs=(dB (s.xs.map aa.abs) n t).1∧bJ w w' y:=by
 have cV:=Sl.rd.ok hs
 have iV:=Sl.ok.nc cV
 have iW:s.n=s.xs.length:=rfl
 have tA:(s.xs.map aa.abs).length=s.n:=by simp
 refine M0 ?_ func35
 refine Mp ?_ call92 (fun bs w hS=>eV s n w (Sl.rd.kp hs hS.kp))
 refine cr (bC (s.xs.map aa.abs) n=0) (fun h1=>?_) fun h1=>?_
 rotate_left
 · refine Mt [vn,vz 0,vi (bC (s.xs.map aa.abs) n)] fun bs w hS=>?_
   have hm:dB (s.xs.map aa.abs) n t=([],gl,bC (s.xs.map aa.abs) n):=by grind[dB]
   refine⟨Sl.nil,?_,?_,hS.aO (Sl.ao _ _)⟩
   · rw[hm];rfl
   · rw[hm];rfl
 obtain⟨EY,wm,mg,gI⟩:=dm h1
 refine Mf ?_ call19 (fun bs w hS=>fB s w (Sl.rd.kp hs hS.kp) (fC (by assumption)))
 rintro y1 a5
 refine dH ?_
 have bn:=eW (hs) a5
 refine bk (F:= ∀i,i<y1.n→aJ.ok (y1.at i)) (fun bs w hS i hi=>aJ.bL (Sl.rd.sub (gu (A:=y1.A) (c:=y1.c) (L:=y1.xs) (hS.res _ i0) (hS.res _ i1) bn) hi)) fun gj=>?_
 refine bk (F:=dY y1.A y1.c (y1.xs:List aa)) (fun bs w hS=>br (hS.res _ i1)) fun cI=>?_
 have cn:=cI.2
 have OT:=sA a5
 have mr:y1.n=y1.xs.length:=rfl
 have So:=du (fun x:aa=>decide (x.ag=t)) y1.xs
 have ft:Sl.ok y1:=⟨cn.1,by unfold maxLen;exact cn.2,fun i hi=>⟨cI.1 i hi,gj i hi⟩⟩
 refine Mp ?_ call98 (fun bs w hS=>eg y1 t w (gu (A:=y1.A) (c:=y1.c) (L:=y1.xs) (hS.res _ i0) (hS.res _ i1) bn))
 refine Md (aQ (fun x:aa=>decide (x.ag=t)) y1.xs<0) (fun h2=>?_) fun h2=>?_
 · refine Mt [y1.val,vz 11,vi 0] fun bs w hS=>?_
   have tG:aQ (fun x:az=>decide (x.ag=t)) (y1.xs.map aa.abs)=aQ (fun x:az=>decide (x.ag=t)) (s.xs.map aa.abs):=by rw[a5]
   have Mg:aQ (fun x:aa=>decide (x.ag=t)) y1.xs=aQ (fun x:az=>decide (x.ag=t)) (s.xs.map aa.abs):=(fm aa.abs (fun x:az=>decide (x.ag=t)) y1.xs).trans tG
   have hm:dB (s.xs.map aa.abs) n t=(s.xs.map aa.abs,⟨11,0,emp⟩,0):=by grind[dB]
   refine⟨y1,?_,?_,hS.aO (y:=y1) (jG (L0:=y1.xs) i1 i0 hS.res (fun x hx=>hx) bn)⟩
   · rw[hm];rfl
   · rw[hm];exact a5
 refine Mi ?_ (pG [(31,.sl 0 (aQ (fun x:aa=>decide (x.ag=t)) y1.xs).toNat)] (oc (rfl:0=0) (oc ((by omega):aQ (fun x:aa=>decide (x.ag=t)) y1.xs=(((aQ (fun x:aa=>decide (x.ag=t)) y1.xs).toNat:Nat):Int)) (oc ((by omega):(aQ (fun x:aa=>decide (x.ag=t)) y1.xs).toNat≤y1.c) on))))
 refine bU (α:=aa) 118 ?_
 refine Ma ?_ (α:=aa) (L2:=(y1.xs).take (aQ (fun x:aa=>decide (x.ag=t)) y1.xs).toNat) 56 (fun bs w hS=>fx.tY (mE (hS.res _ i2)) (by omega)) (hn2:=(by rw[List.length_take];exact Nat.min_eq_left (by omega)))
 intro A3 c3
 refine Mi ?_ (pc (pR ((aQ (fun x:aa=>decide (x.ag=t)) y1.xs)+1)) (pG [(37,.sl ((aQ (fun x:aa=>decide (x.ag=t)) y1.xs)+1).toNat y1.n)] (oc ((by omega):(aQ (fun x:aa=>decide (x.ag=t)) y1.xs)+1=((((aQ (fun x:aa=>decide (x.ag=t)) y1.xs)+1).toNat:Nat):Int)) (oc (rfl:y1.n=y1.n) (oc ((by omega):((aQ (fun x:aa=>decide (x.ag=t)) y1.xs)+1).toNat≤y1.n) on)))))
 refine Ma ?_ (α:=aa) (L2:=y1.xs.drop ((aQ (fun x:aa=>decide (x.ag=t)) y1.xs)+1).toNat) 56 (fun bs w hS=>Sl.rd.oJ (s:=y1) (gu (A:=y1.A) (c:=y1.c) (L:=y1.xs) (hS.res _ i1) (hS.res _ i2) bn) (by omega)) (hn2:=(List.length_drop ..))
 intro A4 c4
 refine Mt [.slice A4 ([]++(y1.xs).take (aQ (fun x:aa=>decide (x.ag=t)) y1.xs).toNat++y1.xs.drop ((aQ (fun x:aa=>decide (x.ag=t)) y1.xs)+1).toNat).length c4,vz 0,vi 0] fun bs w hS=>?_
 have tG:aQ (fun x:az=>decide (x.ag=t)) (y1.xs.map aa.abs)=aQ (fun x:az=>decide (x.ag=t)) (s.xs.map aa.abs):=by rw[a5]
 have Mg:aQ (fun x:aa=>decide (x.ag=t)) y1.xs=aQ (fun x:az=>decide (x.ag=t)) (s.xs.map aa.abs):=(fm aa.abs (fun x:az=>decide (x.ag=t)) y1.xs).trans tG
 have hm:dB (s.xs.map aa.abs) n t=((s.xs.map aa.abs).take (aQ (fun x:az=>decide (x.ag=t)) (s.xs.map aa.abs)).toNat++(s.xs.map aa.abs).drop ((aQ (fun x:az=>decide (x.ag=t)) (s.xs.map aa.abs)).toNat+1),gl,0):=by grind[dB]
 refine⟨⟨A4,c4,[]++(y1.xs).take (aQ (fun x:aa=>decide (x.ag=t)) y1.xs).toNat++y1.xs.drop ((aQ (fun x:aa=>decide (x.ag=t)) y1.xs)+1).toNat⟩,?_,?_,hS.aO (y:=(⟨A4,c4,[]++(y1.xs).take (aQ (fun x:aa=>decide (x.ag=t)) y1.xs).toNat++y1.xs.drop ((aQ (fun x:aa=>decide (x.ag=t)) y1.xs)+1).toNat⟩:Sl aa)) (jG (L0:=y1.xs) i0 i1 hS.res (fun x hx=>?_) bn)⟩
 · rw[hm];rfl
 · have Sp:(aQ (fun x:aa=>decide (x.ag=t)) y1.xs+1).toNat=(aQ (fun x:aa=>decide (x.ag=t)) y1.xs).toNat+1:=by omega
   rw[hm, ←Mg, ←a5];simp[List.map_append,List.map_take,List.map_drop,Sp]
 · simp only[List.nil_append,List.mem_append] at hx;rcases hx with hx|hx
   · exact List.mem_of_mem_take hx
   · exact List.mem_of_mem_drop hx
theorem sL (s:Sl Int)(who:Int)(w:World)(hs:s.rd B w)(hb:s.n≤1048576):Calls prog 105 #[s.val,vi who] w fun e w'=> ∃y:Sl Int,e=.returned y.val∧y.xs=gi s.xs who∧bJ w w' y:=by
 have cV:=Sl.rd.ok hs
 have iV:=Sl.ok.nc cV
 have iW:s.n=s.xs.length:=rfl
 refine M0 ?_ func105
 refine bU (α:=Int) 3 ?_
 refine Ml (σ:=Nat×Option Addr×Nat×List Int) (fun⟨i,A,c,L⟩=>i≤s.n∧L=(s.xs.take i).filter (fun z=>!decide (z=who))) (fun⟨i,A,c,L⟩=>s.n - i) (fun⟨i,A,c,L⟩=>[ay 3 A c (L:List Int)]) [6,5,0,1] (fun⟨i,A,c,L⟩=>[(6,vI (i:Int)),(5,.v (.slice A L.length c))]) (fun _=>[]) ?_ (⟨0,none,0,[]⟩) ⟨Nat.zero_le _,rfl⟩
 rintro⟨i,A,c,L⟩ ⟨hi,hI⟩ _ bu
 have MA:L.length≤i:=by rw[hI];exact Nat.le_trans (List.length_filter_le _ _) (by rw[List.length_take];omega)
 refine Md ((i:Int)<(s.n:Int)) (fun h1=>?_) fun h1=>?_
 rotate_left
 · exact Mt [.slice A L.length c] fun bs w hS=>⟨⟨A,c,L⟩,rfl,by show L=_;rw[hI,dE (by omega)];rfl,hS.aO (y:=(⟨A,c,L⟩:Sl Int)) (a4 i0 (hS.res _ i0) (fun _ _=>trivial))⟩
 refine Mi ?_ (pA 15 16 (i:Int) i (db hs))
 refine cr ((s.at i)=who) (fun h2=>?_) fun h2=>?_
 · refine Mi ?_ (pR ((i:Int)+1))
   exact bu ⟨i+1,A,c,L⟩ ⟨by omega,by first|exact mL (p:=fun z=>decide (z=who)) hI (by omega) (decide_eq_false (by assumption))|exact lz (p:=fun z=>decide (z=who)) hI (by omega) (decide_eq_true (by assumption))⟩ (by show s.n - (i+1)<s.n - i;omega)
 refine Mi ?_ (pA 22 23 (i:Int) i (db hs))
 refine M1 ?_
 refine gX (α:=Int) 8 ([(s.at i)]) ?_
 intro A1 c1
 refine Mi ?_ (pR ((i:Int)+1))
 exact bu ⟨i+1,A1,c1,L++[(s.at i)]⟩ ⟨by omega,by first|exact mL (p:=fun z=>decide (z=who)) hI (by omega) (decide_eq_false (by assumption))|exact lz (p:=fun z=>decide (z=who)) hI (by omega) (decide_eq_true (by assumption))⟩ (by show s.n - (i+1)<s.n - i;omega)
theorem vj (x:ae)(w:World)(hx:aJ.sub B w x)(hf:1≤x.aA∧x.aA≤1073741824)(hl:x.line.n≤1048576):Calls prog 104 #[x.val] w fun e w'=> ∃y:ae,e=.returned y.val∧y.abs=gN x.abs∧bJ w w' y:=by
 have cC:=aJ.bL hx
 have mq:=Sl.ok.nc cC.2
 have mr:x.line.n=x.line.xs.length:=rfl
 have lQ:x.abs.line=x.line.xs:=rfl
 have kN:x.abs.aA=x.aA:=rfl
 refine M0 ?_ func104
 refine Md ((x.line.n:Int)=0) (fun h1=>?_) fun h1=>?_
 · refine Mt [.agg #[vs x.name,vi 0,vi x.aA,vn]] fun bs w hS=>?_
   have hp:gN x.abs=⟨x.name,0,x.aA,[]⟩:=by unfold gN;rw[lQ,kN,if_neg (by omega)];rfl
   exact⟨⟨x.name,0,x.aA,Sl.nil⟩,rfl,hp.symm,hS.aO (y:=(⟨x.name,0,x.aA,Sl.nil⟩:ae)) ⟨cC.1,Sl.ao _ _⟩⟩
 refine Md ((1073741824:Int)≤x.aA) (fun h2=>?_) fun h2=>?_
 · refine Mt [.agg #[vs x.name,vi 0,vi x.aA,vn]] fun bs w hS=>?_
   have hp:gN x.abs=⟨x.name,0,x.aA,[]⟩:=by unfold gN;rw[lQ,kN,if_neg (by omega)];rfl
   exact⟨⟨x.name,0,x.aA,Sl.nil⟩,rfl,hp.symm,hS.aO (y:=(⟨x.name,0,x.aA,Sl.nil⟩:ae)) ⟨cC.1,Sl.ao _ _⟩⟩
 refine cZ 14 [] [] [] ai ?_
 refine bY ?_ (pc (pA 21 22 0 0 (s:=x.line) (fun w hk hr=>(aJ.kp hx hk).2)) (pc (pR (x.aA+1)) (pG [(28,.sl 1 x.line.n)] (oc (rfl:(1:Int)=((1:Nat):Int)) (oc (rfl:x.line.n=x.line.n) (oc ((by omega):1≤x.line.n) on))))))
 refine bU (α:=Int) 3 ?_
 refine Ma ?_ (α:=Int) (L2:=x.line.xs.drop 1) 8 (fun bs w hS=>Sl.rd.oJ (s:=x.line) (aJ.kp hx hS.kp).2 (by omega)) (hn2:=(List.length_drop ..))
 intro A1 c1
 refine eu (ay 3 A1 c1 (x.line.xs.drop 1:List Int)) (List.Sublist.refl _) (fun w h=>h) ?_
 refine Mt [.agg #[vs x.name,vi (x.line.at 0),vi (x.aA+1),.slice A1 (x.line.xs.drop 1).length c1]] fun bs w hS=>?_
 have hp:gN x.abs=⟨x.name,x.line.at 0,x.aA+1,x.line.xs.drop 1⟩:=by unfold gN;rw[lQ,kN,if_pos (by omega)];rfl
 exact⟨⟨x.name,x.line.at 0,x.aA+1,⟨A1,c1,x.line.xs.drop 1⟩⟩,rfl,hp.symm,hS.aO (y:=(⟨x.name,x.line.at 0,x.aA+1,⟨A1,c1,x.line.xs.drop 1⟩⟩:ae)) ⟨cC.1,a4 i0 (hS.res _ i0) (fun _ _=>trivial)⟩⟩
theorem sj (A:Option Addr)(c:Nat)(L:List ae)(k:Nat)(w:World)(gb:(ay 115 A c L).p w)(dX: ∀b,b∈(ay 115 A c L).fp→b<w.heap.size)(hk:k<L.length)(hx:aJ.sub B w (L.getD k dd))(hB: ∀b,B b→b∉(ay 115 A c L).fp)(hf:1≤(L.getD k dd).aA∧(L.getD k dd).aA≤1073741824):Calls prog 140 #[.pointer (some ((xM A).add (k*4)))] w fun e w'=> ∃_:Unit,e=.returned (.tuple #[])∧True∧dh (ay 115 A c L) w w' (ay 115 A c (L.set k (eJ (L.getD k dd)))):=by
 have mu:=br gb
 have nc:=mu.2
 have cC:=aJ.bL hx
 have mq:=Sl.ok.nc cC.2
 have mr:(L.getD k dd).line.n=(L.getD k dd).line.xs.length:=rfl
 have nD: ∀w',Kp (ay 115 A c L).fp w w'→aJ.sub B w' (L.getD k dd):=fun w' hk=>aJ.stay (fun b hb dX=>hk.block b dX (hB b hb)) hx
 refine Mj ?_ func140 (WS.eG w _ gb (by cases A<;>simp [ay,fI]) dX)
 refine Ms k 1 (⟨(L.getD k dd).name,0,(L.getD k dd).aA,(L.getD k dd).line⟩:ae) ?_ (by omega)
 intro L1 He Sq
 have Ak:L1.getD k dd=(⟨(L.getD k dd).name,0,(L.getD k dd).aA,(L.getD k dd).line⟩:ae):=by rw[He];exact bQ (by omega)
 have JT:L1=List.set L k (⟨(L.getD k dd).name,0,(L.getD k dd).aA,(L.getD k dd).line⟩:ae):=by rw[He]
 refine Mi ?_ (l4 8 k 3 1 Ak i0)
 refine Md ((0:Int)<(((L.getD k dd).line.n:Nat):Int)) (fun h1=>?_) fun h1=>?_
 rotate_left
 · refine Ms k 3 (⟨(L.getD k dd).name,0,(L.getD k dd).aA,Sl.nil⟩:ae) ?_ (by omega) (hg:=Ak)
   intro L6 rA Al
   have ni:L6.getD k dd=(⟨(L.getD k dd).name,0,(L.getD k dd).aA,Sl.nil⟩:ae):=by rw[rA];exact bQ (by omega)
   have fM:L6=List.set L k (⟨(L.getD k dd).name,0,(L.getD k dd).aA,Sl.nil⟩:ae):=by rw[rA,JT,List.set_set]
   refine Mt [] fun bs w hS=>?_
   have hp:eJ (L.getD k dd)=(⟨(L.getD k dd).name,0,(L.getD k dd).aA,Sl.nil⟩:ae):=by grind[eJ]
   have hL:L6=L.set k (eJ (L.getD k dd)):=by rw[hp];exact fM
   subst hL
   exact⟨(),rfl,trivial,hS.aW⟩
 refine Mi ?_ (l4 15 k 2 1 Ak i0)
 refine Md ((L.getD k dd).aA<1073741824) (fun h2=>?_) fun h2=>?_
 rotate_left
 · refine Ms k 3 (⟨(L.getD k dd).name,0,(L.getD k dd).aA,Sl.nil⟩:ae) ?_ (by omega) (hg:=Ak)
   intro L5 IW MB
   have Gr:L5.getD k dd=(⟨(L.getD k dd).name,0,(L.getD k dd).aA,Sl.nil⟩:ae):=by rw[IW];exact bQ (by omega)
   have BZ:L5=List.set L k (⟨(L.getD k dd).name,0,(L.getD k dd).aA,Sl.nil⟩:ae):=by rw[IW,JT,List.set_set]
   refine Mt [] fun bs w hS=>?_
   have hp:eJ (L.getD k dd)=(⟨(L.getD k dd).name,0,(L.getD k dd).aA,Sl.nil⟩:ae):=by grind[eJ]
   have hL:L5=L.set k (eJ (L.getD k dd)):=by rw[hp];exact BZ
   subst hL
   exact⟨(),rfl,trivial,hS.aW⟩
 refine cZ 27 [21] [] [ay 115 A c (L1:List ae)] ai ?_
 refine bY ?_ (pc (l4 24 k 3 1 Ak i0) (pc (pA 25 26 0 0 (s:=(L.getD k dd).line) (fun w hk hr=>(nD _ hk).2)) (pc (l4 30 k 2 1 Ak i0) (pc (pR ((L.getD k dd).aA+1)) (pc (l4 35 k 3 1 Ak i0) (pG [(36,.sl 1 (L.getD k dd).line.n)] (oc (rfl:(1:Int)=((1:Nat):Int)) (oc (rfl:(L.getD k dd).line.n=(L.getD k dd).line.n) (oc ((by omega):1≤(L.getD k dd).line.n) on)))))))))
 refine RY [] k 1 (⟨(L.getD k dd).name,((L.getD k dd).line.at 0),(L.getD k dd).aA,(L.getD k dd).line⟩:ae) ?_ (by omega) (hg:=Ak)
 intro L2 rZ OU
 have Ie:L2.getD k dd=(⟨(L.getD k dd).name,((L.getD k dd).line.at 0),(L.getD k dd).aA,(L.getD k dd).line⟩:ae):=by rw[rZ];exact bQ (by omega)
 have JU:L2=List.set L k (⟨(L.getD k dd).name,((L.getD k dd).line.at 0),(L.getD k dd).aA,(L.getD k dd).line⟩:ae):=by rw[rZ,JT,List.set_set]
 refine Ms k 2 (⟨(L.getD k dd).name,((L.getD k dd).line.at 0),(L.getD k dd).aA+1,(L.getD k dd).line⟩:ae) ?_ (by omega) (hg:=Ie)
 intro L3 sX B0
 have ki:L3.getD k dd=(⟨(L.getD k dd).name,((L.getD k dd).line.at 0),(L.getD k dd).aA+1,(L.getD k dd).line⟩:ae):=by rw[sX];exact bQ (by omega)
 have iX:L3=List.set L k (⟨(L.getD k dd).name,((L.getD k dd).line.at 0),(L.getD k dd).aA+1,(L.getD k dd).line⟩:ae):=by rw[sX,JU,List.set_set]
 refine Ms k 3 (⟨(L.getD k dd).name,((L.getD k dd).line.at 0),(L.getD k dd).aA+1,⟨gA (L.getD k dd).line.A (L.getD k dd).line.c 1 1,(L.getD k dd).line.c - 1,(L.getD k dd).line.xs.drop 1⟩⟩:ae) ?_ (by omega) (hg:=ki) (hcell:=(Eq.trans (by kernel_rfl) (congrArg (fun q=>[Value.string (L.getD k dd).name,vi ((L.getD k dd).line.at 0),vi ((L.getD k dd).aA+1),.slice (gA (L.getD k dd).line.A (L.getD k dd).line.c 1 1) q ((L.getD k dd).line.c - 1)]) (List.length_drop ..).symm)))
 intro L4 qa Am
 have j2:L4.getD k dd=(⟨(L.getD k dd).name,((L.getD k dd).line.at 0),(L.getD k dd).aA+1,⟨gA (L.getD k dd).line.A (L.getD k dd).line.c 1 1,(L.getD k dd).line.c - 1,(L.getD k dd).line.xs.drop 1⟩⟩:ae):=by rw[qa];exact bQ (by omega)
 have lV:L4=List.set L k (⟨(L.getD k dd).name,((L.getD k dd).line.at 0),(L.getD k dd).aA+1,⟨gA (L.getD k dd).line.A (L.getD k dd).line.c 1 1,(L.getD k dd).line.c - 1,(L.getD k dd).line.xs.drop 1⟩⟩:ae):=by rw[qa,iX,List.set_set]
 refine Mt [] fun bs w hS=>?_
 have hp:eJ (L.getD k dd)=(⟨(L.getD k dd).name,((L.getD k dd).line.at 0),(L.getD k dd).aA+1,⟨gA (L.getD k dd).line.A (L.getD k dd).line.c 1 1,(L.getD k dd).line.c - 1,(L.getD k dd).line.xs.drop 1⟩⟩:ae):=by grind[eJ]
 have hL:L4=L.set k (eJ (L.getD k dd)):=by rw[hp];exact lV
 subst hL
 exact⟨(),rfl,trivial,hS.aW⟩
theorem An (A:Option Addr)(c:Nat)(L:List Int)(i j:Nat)(ii jj:Int)(w:World)(gb:(ay 3 A c L).p w)(dX: ∀b,b∈(ay 3 A c L).fp→b<w.heap.size)(ei:ii=(i:Int))(ej:jj=(j:Int))(jf:i≤j)(hj:j≤L.length):
    Calls prog 139 #[.slice A L.length c,vi ii,vi jj] w fun e w'=>e=.returned (.slice A (L.take i++L.drop j).length c)∧dh (ay 3 A c L) w w' (ay 3 A c (L.take i++L.drop j)):=by
 subst ei ej
 have mu:=br gb
 have nc:=mu.2
 refine Mj ?_ func139 (WS.eG w _ gb (by cases A<;>simp [ay,fI]) dX)
 refine NF (e:=3) (A:=A) (n:=L.length) (il:=(i:Int)) (ih:=(j:Int)) (im:=(L.length:Int)) (c:=c) i j L.length ?_ rfl rfl rfl (by omega) (by omega) (by omega)
 refine Md ((i:Int)=(j:Int)) (fun h1=>?_) fun h1=>?_
 · refine Mt [.slice A L.length c] fun bs w hS=>?_
   have BU:i=j:=by omega
   subst BU
   rw[List.take_append_drop]
   exact⟨rfl,hS.aW⟩
 refine fP 6 ?_ ai
 refine bY ?_ (pc (pG [(22,.sl 0 i)] (oc (rfl:0=0) (oc (rfl:(i:Int)=(i:Int)) (oc ((by omega):i≤c) on)))) (pG [(25,.sl j L.length)] (oc (rfl:(j:Int)=(j:Int)) (oc (rfl:L.length=L.length) (oc ((by omega):j≤L.length) on)))))
 refine Mz ?_
 refine NA 8 i j ?_ jf hj
 refine Mi ?_ (pG [(31,.sl (i+(L.length - j)) L.length)] (oc (rfl:((i+(L.length - j):Nat):Int)=(((i+(L.length - j)):Nat):Int)) (oc (rfl:(L.length:Int)=(L.length:Int)) (oc ((by omega):(i+(L.length - j))≤L.length) (oc ((by omega):L.length≤c) on)))))
 refine KC (i+(L.length - j)) (L.length - (i+(L.length - j))) ?_ (by simp only[List.length_append,List.length_take,List.length_drop];omega) (by omega)
 refine Mt [.slice A (i+(L.length - j)) c] fun bs w hS=>?_
 have hlen:(L.take i++L.drop j).length=i+(L.length - j):=by simp only[List.length_append,List.length_take,List.length_drop];omega
 have j1:=hS
 rw[←hlen,List.take_length] at j1
 refine⟨?_,j1.aW⟩
 rw[hlen]
 rfl
theorem Ep (s:Sl ae)(who:Int)(w:World)(hs:s.rd B w):Calls prog 75 #[s.val,vi who] w fun e w'=> ∃y:Sl ae,e=.returned (.tuple #[y.val,vi (j3 (s.xs.map ae.abs) who).2])∧y.xs.map ae.abs=(j3 (s.xs.map ae.abs) who).1∧bJ w w' y:=by
 have cV:=Sl.rd.ok hs
 have iV:=Sl.ok.nc cV
 have iW:s.n=s.xs.length:=rfl
 refine M0 ?_ func75
 refine Mp ?_ call64 (fun bs w hS=>ng s w (Sl.rd.kp hs hS.kp))
 refine cr (bB (s.xs.map ae.abs)=0) (fun h1=>?_) fun h1=>?_
 rotate_left
 · exact eE (zD (who:=who) h1) Sl.nil rfl fun bs w hS=>hS.aO (Sl.ao _ _)
 refine Mp ?_ call130 (fun bs w hS=>mf who w)
 refine fL (gk who 1 9) (fun h2=>?_) fun h2=>?_
 rotate_left
 · simp only[iT,iF] at h2
   exact eE (zE (who:=who) h1 (by simp only[iT,iF] at*;omega)) Sl.nil rfl fun bs w hS=>hS.aO (Sl.ao _ _)
 simp only[iT,iF] at h2
 refine Mf ?_ call68 (fun bs w hS=>si s w (Sl.rd.kp hs hS.kp) (js (by assumption)))
 rintro y1 a5
 refine dH ?_
 obtain⟨A1,c1,S1⟩:=y1
 have a5:S1.map ae.abs=s.xs.map ae.abs:=a5
 refine fO (R':=[bI (bM 3) S1,ay 115 A1 c1 (S1:List ae)]) (List.Perm.refl _) ?_
 have bn:=gF (y:=(⟨A1,c1,S1⟩:Sl ae)) (hs) a5
 have oA:S1.length=s.xs.length:=by simpa using congrArg List.length a5
 refine bk (F:= ∀i,i<S1.length→aJ.ok (S1.getD i dd)) (fun bs w hS i hi=>aJ.bL (B:=bH) (w:=w) (gx (hS.res _ i0) bn (aB hi))) fun gj=>?_
 refine bk (F:=dY A1 c1 (S1:List ae)) (fun bs w hS=>br (hS.res _ i1)) fun cI=>?_
 have cn:=cI.2
 have kj:bB (S1.map ae.abs)=0:=by rw[a5];assumption
 have Gs:S1.length≤5:=by have h9:=(fS kj).1;simpa using h9
 refine gK (mb [] (S1.take 0)) rfl (fun w x hx=>by cases hx) ?_
 refine Ml (σ:=Nat×List ae×List Nat) (fun⟨k,L,fp⟩=>j5 who S1 k L) (fun⟨k,L,fp⟩=>S1.length - k) (fun⟨k,L,fp⟩=>[mb fp (L.take k),bI (bM 3) (S1.drop k),ay 115 A1 c1 (L:List ae)]) [22,21,0,1] (fun⟨k,L,fp⟩=>[(22,vI (k:Int))]) (fun _=>[]) ?_ (⟨0,S1,[]⟩) (j5.start bn)
 rintro⟨k,L,fp⟩ hI _ bu
 have MC:=hI.len
 have MD:=hI.le
 refine Md ((k:Int)<(S1.length:Int)) (fun h3=>?_) fun h3=>?_
 rotate_left
 · refine Mt [.slice A1 S1.length c1,vi 0] fun bs w hS=>?_
   clear bu
   have hm:=CU (who:=who) h1 (by simp only[iT,iF] at*;omega)
   refine⟨⟨A1,c1,L⟩,?_,?_,hS.aO (y:=(⟨A1,c1,L⟩:Sl ae)) (zC hI (by omega) i2 i0 hS.res)⟩
   · rw[hm];exact congrArg (fun q=>Ending.returned (.tuple #[.slice A1 q c1,vi 0])) hI.len.symm
   · rw[hm, ←a5];exact hI.fin (by omega)
 have hD:(L.getD k dd)=S1.getD k dd:=hI.rest k (Nat.le_refl _)
 have B4:k<L.length:=by omega
 have nK:=mM kj (k:=k) (by omega)
 rw[←hD] at nK
 obtain⟨Gt,Gu,Ap,Aq,Ar,Gv⟩:=nK
 have Hf:(L.getD k dd).line.n=(L.getD k dd).line.xs.length:=rfl
 have ME:=gj k (by omega)
 rw[←hD] at ME
 have Sr:=Sl.ok.nc ME.2
 refine cd ?_
 refine m5 (ay 3 (L.getD k dd).line.A (L.getD k dd).line.c ((L.getD k dd).line.xs:List Int)) (bI (bM 3) (S1.drop (k+1))) (vJ (bM 3) (i:=k) (by omega) hD) (xY (bM 3) (i:=k) (by omega) hD) ?_
 refine Mi ?_ (pc (fG 27 (k:Int) k S1.length i3) (lg 31 k 3 1 i3))
 refine Mp ?_ call138 (fun bs w hS=>u5 (L.getD k dd).line (L.getD k dd).line.n who w (And.right ⟨hI.names _ (aB B4),Rr (B:=bH) (hS.res _ i0) (fun _ _=>trivial) (fun _ _=>trivial)⟩) (by omega))
 have nA:aQ (fun z=>decide (z=who)) ((L.getD k dd).line.xs.take (L.getD k dd).line.n)=aQ (fun z=>decide (z=who)) (L.getD k dd).line.xs:=by rw[dE (Nat.le_refl _)]
 rw[nA]
 have JV:=du (fun z=>decide (z=who)) (L.getD k dd).line.xs
 generalize Cw:aQ (fun z=>decide (z=who)) (L.getD k dd).line.xs=I at JV⊢
 refine Md ((0:Int)≤I) (fun h4=>?_) fun h4=>?_
 rotate_left
 · refine Mi ?_ (lg 50 k 1 1 i3)
   refine Md ((L.getD k dd).ar=who) (fun h6=>?_) fun h6=>?_
   rotate_left
   · refine Mi ?_ (pR ((k:Int)+1))
     have Ig:(L.getD k dd).line.xs=gi (L.getD k dd).line.xs who:=(wL (by rw[Cw];omega)).symm
     have Gw:((L.getD k dd)).abs=kC who (L.getD k dd).abs:=rU (D:=(L.getD k dd)) (x:=(L.getD k dd)) rfl rfl rfl Ig h6
     have Gx:((L.getD k dd)).name=(L.getD k dd).name:=rfl
     refine cL ?_
     refine cd ?_
     refine fc (mb (fp++(ay 3 (L.getD k dd).line.A (L.getD k dd).line.c ((L.getD k dd).line.xs:List Int)).fp) (List.take (k+1) L)) List.perm_append_comm (fun w h1 h2=>ke B4 (fW B4).symm (Rr (A:=(L.getD k dd).line.A) (c:=(L.getD k dd).line.c) (L:=(L.getD k dd).line.xs) h1 (fun b hb=>hb) (fun _ _=>trivial)) h2) ?_
     refine cL (cL (cL ?_))
     exact bu ⟨k+1,L,fp++(ay 3 (L.getD k dd).line.A (L.getD k dd).line.c ((L.getD k dd).line.xs:List Int)).fp⟩ (j5.step hI (by omega) (fW B4).symm Gw Gx) (by show S1.length - (k+1)<S1.length - k;omega)
   refine jZ ?_
   refine nF ?_ call140 (fun bs w hS=>sj (B:=(· ∈(ay 3 (L.getD k dd).line.A (L.getD k dd).line.c ((L.getD k dd).line.xs:List Int)).fp)) A1 c1 L k w (hS.res _ i0) hS.lH.2.2 (by omega) ⟨(show (L.getD k dd).name.size≤9223372036854775807 from hI.names _ (aB B4)),Rr (hS.res _ i1) (fun b hb=>hb) (fun _ _=>trivial)⟩ (fun b hb=>hS.Jf (r2:=ay 3 (L.getD k dd).line.A (L.getD k dd).line.c ((L.getD k dd).line.xs:List Int)) i0 b hb) ⟨Aq,Ar⟩)
   rintro _ _
   obtain⟨L8,Hg⟩: ∃M:List ae,M=L.set k (eJ (L.getD k dd)):=⟨_,rfl⟩
   rw[←Hg]
   have MF:L8.length=L.length:=by rw[Hg,List.length_set]
   have Ih:L8.getD k dd=eJ (L.getD k dd):=by rw[Hg];exact bQ (by omega)
   have nj:L8=List.set L k (eJ (L.getD k dd)):=by rw[Hg]
   refine Mi ?_ (pR ((k:Int)+1))
   have Ig:(L.getD k dd).line.xs=gi (L.getD k dd).line.xs who:=(wL (by rw[Cw];omega)).symm
   have Gw:((eJ (L.getD k dd))).abs=kC who (L.getD k dd).abs:=rV (D:=(L.getD k dd)) (x:=(L.getD k dd)) (rM _) rfl rfl rfl Ig h6
   have Gx:((eJ (L.getD k dd))).name=(L.getD k dd).name:=uC _
   refine jZ ?_
   refine cL ?_
   refine fc (mb (fp++(ay 3 (L.getD k dd).line.A (L.getD k dd).line.c ((L.getD k dd).line.xs:List Int)).fp) (List.take (k+1) L8)) List.perm_append_comm (fun w h1 h2=>ke B4 nj (zB (x:=(L.getD k dd)) (Rr (A:=(L.getD k dd).line.A) (c:=(L.getD k dd).line.c) (L:=(L.getD k dd).line.xs) h1 (fun b hb=>hb) (fun _ _=>trivial))) h2) ?_
   refine cd (cL (cL ?_))
   exact bu ⟨k+1,L8,fp++(ay 3 (L.getD k dd).line.A (L.getD k dd).line.c ((L.getD k dd).line.xs:List Int)).fp⟩ (j5.step hI (by omega) nj Gw Gx) (by show S1.length - (k+1)<S1.length - k;omega)
 refine Mi ?_ (pc (lg 40 k 3 1 i3) (pR (I+1)))
 refine nF ?_ (σ:=Unit) (v:=fun _=>.slice (L.getD k dd).line.A ((L.getD k dd).line.xs.take I.toNat++(L.getD k dd).line.xs.drop (I.toNat+1)).length (L.getD k dd).line.c) (F:=fun _=>True) (r:=fun _=>ay 3 (L.getD k dd).line.A (L.getD k dd).line.c ((L.getD k dd).line.xs.take I.toNat++(L.getD k dd).line.xs.drop (I.toNat+1):List Int)) (vs:=fun bs=>[.slice (L.getD k dd).line.A (L.getD k dd).line.n (L.getD k dd).line.c,vi I,vi (I+1)]) call139 (fun bs w hS=>(An (L.getD k dd).line.A (L.getD k dd).line.c (L.getD k dd).line.xs I.toNat (I.toNat+1) _ _ w (hS.res _ i0) hS.lH.2.2 (by omega) (by omega) (by first|omega|(simp only[Sl.n] at*;omega)) (by first|omega|(simp only[Sl.n] at*;omega))).mono (fun e w' ⟨h1,h2⟩=>⟨(),h1,trivial,h2⟩))
 rintro _ _
 refine jZ ?_
 refine Ms k 3 (⟨(L.getD k dd).name,(L.getD k dd).ar,(L.getD k dd).aA,⟨(L.getD k dd).line.A,(L.getD k dd).line.c,(L.getD k dd).line.xs.take I.toNat++(L.getD k dd).line.xs.drop (I.toNat+1)⟩⟩:ae) ?_ (by omega)
 intro L4 qa Am
 have j2:L4.getD k dd=(⟨(L.getD k dd).name,(L.getD k dd).ar,(L.getD k dd).aA,⟨(L.getD k dd).line.A,(L.getD k dd).line.c,(L.getD k dd).line.xs.take I.toNat++(L.getD k dd).line.xs.drop (I.toNat+1)⟩⟩:ae):=by rw[qa];exact bQ (by omega)
 have lV:L4=List.set L k (⟨(L.getD k dd).name,(L.getD k dd).ar,(L.getD k dd).aA,⟨(L.getD k dd).line.A,(L.getD k dd).line.c,(L.getD k dd).line.xs.take I.toNat++(L.getD k dd).line.xs.drop (I.toNat+1)⟩⟩:ae):=by rw[qa]
 refine Mi ?_ (l4 50 k 1 1 j2 i0)
 refine Md ((L.getD k dd).ar=who) (fun h5=>?_) fun h5=>?_
 rotate_left
 · refine Mi ?_ (pR ((k:Int)+1))
   have Ig:(L.getD k dd).line.xs.take I.toNat++(L.getD k dd).line.xs.drop (I.toNat+1)=gi (L.getD k dd).line.xs who:=rT (d:=(L.getD k dd).abs) Ap (i:=I.toNat) (by show aQ _ (L.getD k dd).line.xs=_;rw[Cw];omega) rfl
   have Gw:((⟨(L.getD k dd).name,(L.getD k dd).ar,(L.getD k dd).aA,⟨(L.getD k dd).line.A,(L.getD k dd).line.c,(L.getD k dd).line.xs.take I.toNat++(L.getD k dd).line.xs.drop (I.toNat+1)⟩⟩:ae)).abs=kC who (L.getD k dd).abs:=rU (D:=(L.getD k dd)) (x:=(⟨(L.getD k dd).name,(L.getD k dd).ar,(L.getD k dd).aA,⟨(L.getD k dd).line.A,(L.getD k dd).line.c,(L.getD k dd).line.xs.take I.toNat++(L.getD k dd).line.xs.drop (I.toNat+1)⟩⟩:ae)) rfl rfl rfl Ig h5
   have Gx:((⟨(L.getD k dd).name,(L.getD k dd).ar,(L.getD k dd).aA,⟨(L.getD k dd).line.A,(L.getD k dd).line.c,(L.getD k dd).line.xs.take I.toNat++(L.getD k dd).line.xs.drop (I.toNat+1)⟩⟩:ae)).name=(L.getD k dd).name:=rfl
   refine jZ ?_
   refine cL ?_
   refine fc (mb (fp++(ay 3 (L.getD k dd).line.A (L.getD k dd).line.c ((L.getD k dd).line.xs.take I.toNat++(L.getD k dd).line.xs.drop (I.toNat+1):List Int)).fp) (List.take (k+1) L4)) List.perm_append_comm (fun w h1 h2=>ke B4 lV (Rr (A:=(L.getD k dd).line.A) (c:=(L.getD k dd).line.c) (L:=(L.getD k dd).line.xs.take I.toNat++(L.getD k dd).line.xs.drop (I.toNat+1)) h1 (fun b hb=>hb) (fun _ _=>trivial)) h2) ?_
   refine cd (cL (cL ?_))
   exact bu ⟨k+1,L4,fp++(ay 3 (L.getD k dd).line.A (L.getD k dd).line.c ((L.getD k dd).line.xs.take I.toNat++(L.getD k dd).line.xs.drop (I.toNat+1):List Int)).fp⟩ (j5.step hI (by omega) lV Gw Gx) (by show S1.length - (k+1)<S1.length - k;omega)
 refine nF ?_ call140 (fun bs w hS=>sj (B:=(· ∈(ay 3 (L.getD k dd).line.A (L.getD k dd).line.c ((L.getD k dd).line.xs.take I.toNat++(L.getD k dd).line.xs.drop (I.toNat+1):List Int)).fp)) A1 c1 L4 k w (hS.res _ i0) hS.lH.2.2 (by omega) (by rw[j2];exact⟨(show (L.getD k dd).name.size≤9223372036854775807 from hI.names _ (aB B4)),Rr (hS.res _ i1) (fun b hb=>hb) (fun _ _=>trivial)⟩) (fun b hb=>hS.Jf (r2:=ay 3 (L.getD k dd).line.A (L.getD k dd).line.c ((L.getD k dd).line.xs.take I.toNat++(L.getD k dd).line.xs.drop (I.toNat+1):List Int)) i0 b hb) (by rw[j2];exact⟨Aq,Ar⟩))
 rintro _ _
 obtain⟨L6,rA⟩: ∃M:List ae,M=L4.set k (eJ (L4.getD k dd)):=⟨_,rfl⟩
 rw[←rA]
 have Al:L6.length=L4.length:=by rw[rA,List.length_set]
 have ni:L6.getD k dd=eJ (⟨(L.getD k dd).name,(L.getD k dd).ar,(L.getD k dd).aA,⟨(L.getD k dd).line.A,(L.getD k dd).line.c,(L.getD k dd).line.xs.take I.toNat++(L.getD k dd).line.xs.drop (I.toNat+1)⟩⟩:ae):=by rw[rA,j2];exact bQ (by omega)
 have fM:L6=List.set L k (eJ (⟨(L.getD k dd).name,(L.getD k dd).ar,(L.getD k dd).aA,⟨(L.getD k dd).line.A,(L.getD k dd).line.c,(L.getD k dd).line.xs.take I.toNat++(L.getD k dd).line.xs.drop (I.toNat+1)⟩⟩:ae)):=by rw[rA,j2,lV,List.set_set]
 refine Mi ?_ (pR ((k:Int)+1))
 have Ig:(L.getD k dd).line.xs.take I.toNat++(L.getD k dd).line.xs.drop (I.toNat+1)=gi (L.getD k dd).line.xs who:=rT (d:=(L.getD k dd).abs) Ap (i:=I.toNat) (by show aQ _ (L.getD k dd).line.xs=_;rw[Cw];omega) rfl
 have Gw:((eJ (⟨(L.getD k dd).name,(L.getD k dd).ar,(L.getD k dd).aA,⟨(L.getD k dd).line.A,(L.getD k dd).line.c,(L.getD k dd).line.xs.take I.toNat++(L.getD k dd).line.xs.drop (I.toNat+1)⟩⟩:ae))).abs=kC who (L.getD k dd).abs:=rV (D:=(L.getD k dd)) (x:=(⟨(L.getD k dd).name,(L.getD k dd).ar,(L.getD k dd).aA,⟨(L.getD k dd).line.A,(L.getD k dd).line.c,(L.getD k dd).line.xs.take I.toNat++(L.getD k dd).line.xs.drop (I.toNat+1)⟩⟩:ae)) (rM _) rfl rfl rfl Ig h5
 have Gx:((eJ (⟨(L.getD k dd).name,(L.getD k dd).ar,(L.getD k dd).aA,⟨(L.getD k dd).line.A,(L.getD k dd).line.c,(L.getD k dd).line.xs.take I.toNat++(L.getD k dd).line.xs.drop (I.toNat+1)⟩⟩:ae))).name=(L.getD k dd).name:=uC _
 refine jZ ?_
 refine cL ?_
 refine fc (mb (fp++(ay 3 (L.getD k dd).line.A (L.getD k dd).line.c ((L.getD k dd).line.xs.take I.toNat++(L.getD k dd).line.xs.drop (I.toNat+1):List Int)).fp) (List.take (k+1) L6)) List.perm_append_comm (fun w h1 h2=>ke B4 fM (zB (x:=(⟨(L.getD k dd).name,(L.getD k dd).ar,(L.getD k dd).aA,⟨(L.getD k dd).line.A,(L.getD k dd).line.c,(L.getD k dd).line.xs.take I.toNat++(L.getD k dd).line.xs.drop (I.toNat+1)⟩⟩:ae)) (Rr (A:=(L.getD k dd).line.A) (c:=(L.getD k dd).line.c) (L:=(L.getD k dd).line.xs.take I.toNat++(L.getD k dd).line.xs.drop (I.toNat+1)) h1 (fun b hb=>hb) (fun _ _=>trivial))) h2) ?_
 refine cd (cL (cL ?_))
 exact bu ⟨k+1,L6,fp++(ay 3 (L.getD k dd).line.A (L.getD k dd).line.c ((L.getD k dd).line.xs.take I.toNat++(L.getD k dd).line.xs.drop (I.toNat+1):List Int)).fp⟩ (j5.step hI (by omega) fM Gw Gx) (by show S1.length - (k+1)<S1.length - k;omega)
theorem B5 (s:Sl ae)(who:Int)(w:World)(hs:s.rd B w):Calls prog 99 #[s.val,vi who] w fun e w'=> ∃y:Sl ae,e=.returned (.tuple #[y.val,vi (j3 (s.xs.map ae.abs) who).2])∧y.xs.map ae.abs=(j3 (s.xs.map ae.abs) who).1∧bJ w w' y:=by
 have cV:=Sl.rd.ok hs
 have iV:=Sl.ok.nc cV
 have iW:s.n=s.xs.length:=rfl
 refine M0 ?_ func99
 refine Mp ?_ call93 (fun bs w hS=>jQ s w (Sl.rd.kp hs hS.kp))
 refine Md (bB (s.xs.map ae.abs)=0) (fun h1=>?_) fun h1=>?_
 rotate_left
 · refine My false true ?_ (df h1)
   exact eE (zD (who:=who) h1) Sl.nil rfl fun bs w hS=>hS.aO (Sl.ao _ _)
 refine Mp ?_ call51 (fun bs w hS=>b6 who 1 9 w)
 refine fL (gk who 1 9) (fun h2=>?_) fun h2=>?_
 rotate_left
 · simp only[iT,iF] at h2
   refine Mq 19 true ?_ rfl
   exact eE (zE (who:=who) h1 (by simp only[iT,iF] at*;omega)) Sl.nil rfl fun bs w hS=>hS.aO (Sl.ao _ _)
 simp only[iT,iF] at h2
 refine My true true ?_ (dt h1)
 refine Mf ?_ call18 (fun bs w hS=>ku s w (Sl.rd.kp hs hS.kp) (js (by assumption)))
 rintro y1 a5
 refine dH ?_
 obtain⟨A1,c1,S1⟩:=y1
 have a5:S1.map ae.abs=s.xs.map ae.abs:=a5
 refine fO (R':=[bI (bM 3) S1,ay 115 A1 c1 (S1:List ae)]) (List.Perm.refl _) ?_
 have bn:=gF (y:=(⟨A1,c1,S1⟩:Sl ae)) (hs) a5
 have oA:S1.length=s.xs.length:=by simpa using congrArg List.length a5
 refine bk (F:= ∀i,i<S1.length→aJ.ok (S1.getD i dd)) (fun bs w hS i hi=>aJ.bL (B:=bH) (w:=w) (gx (hS.res _ i0) bn (aB hi))) fun gj=>?_
 refine bk (F:=dY A1 c1 (S1:List ae)) (fun bs w hS=>br (hS.res _ i1)) fun cI=>?_
 have cn:=cI.2
 have kj:bB (S1.map ae.abs)=0:=by rw[a5];assumption
 have Gs:S1.length≤5:=by have h9:=(fS kj).1;simpa using h9
 refine gK (mb [] (S1.take 0)) rfl (fun w x hx=>by cases hx) ?_
 refine Ml (σ:=Nat×List ae×List Nat) (fun⟨k,L,fp⟩=>j5 who S1 k L) (fun⟨k,L,fp⟩=>S1.length - k) (fun⟨k,L,fp⟩=>[mb fp (L.take k),bI (bM 3) S1,ay 115 A1 c1 (L:List ae)]) [8,7,1] (fun⟨k,L,fp⟩=>[(8,vI (k:Int))]) (fun _=>[]) ?_ (⟨0,S1,[]⟩) (j5.start bn)
 rintro⟨k,L,fp⟩ hI _ bu
 have MC:=hI.len
 have MD:=hI.le
 refine Md ((k:Int)<(S1.length:Int)) (fun h4=>?_) fun h4=>?_
 rotate_left
 · refine Mt [.slice A1 S1.length c1,vi 0] fun bs w hS=>?_
   clear bu
   have hm:=CU (who:=who) h1 (by simp only[iT,iF] at*;omega)
   refine⟨⟨A1,c1,L⟩,?_,?_,hS.aO (y:=(⟨A1,c1,L⟩:Sl ae)) (zC hI (by omega) i2 i0 hS.res)⟩
   · rw[hm];exact congrArg (fun q=>Ending.returned (.tuple #[.slice A1 q c1,vi 0])) hI.len.symm
   · rw[hm, ←a5];exact hI.fin (by omega)
 have hD:(L.getD k dd)=S1.getD k dd:=hI.rest k (Nat.le_refl _)
 have B4:k<L.length:=by omega
 have nK:=mM kj (k:=k) (by omega)
 rw[←hD] at nK
 obtain⟨Gt,Gu,Ap,Aq,Ar,Gv⟩:=nK
 have Hf:(L.getD k dd).line.n=(L.getD k dd).line.xs.length:=rfl
 have ME:=gj k (by omega)
 rw[←hD] at ME
 have Sr:=Sl.ok.nc ME.2
 refine Mi ?_ (pc (fG 33 (k:Int) k S1.length i2) (lg 35 k 3 1 i2))
 refine Mu ?_ call105 (fun bs w hS=>sL (L.getD k dd).line who w (And.right (by rw[hD];exact gx (hS.res _ i1) bn (aB (i:=k) (by omega)))) (by omega))
 rintro sM y3 mw sk
 refine Mi ?_ (fG 38 (k:Int) k S1.length i3)
 refine jZ ?_
 refine Ms k 3 (⟨(L.getD k dd).name,(L.getD k dd).ar,(L.getD k dd).aA,y3⟩:ae) ?_ (by omega)
 intro L4 qa Am
 have j2:L4.getD k dd=(⟨(L.getD k dd).name,(L.getD k dd).ar,(L.getD k dd).aA,y3⟩:ae):=by rw[qa];exact bQ (by omega)
 have lV:L4=List.set L k (⟨(L.getD k dd).name,(L.getD k dd).ar,(L.getD k dd).aA,y3⟩:ae):=by rw[qa]
 refine Mi ?_ (pc (fG 42 (k:Int) k S1.length i0) (l4 44 k 1 1 j2 i0))
 refine Md ((L.getD k dd).ar=who) (fun h5=>?_) fun h5=>?_
 rotate_left
 · refine Mi ?_ (pR ((k:Int)+1))
   have Gw:((⟨(L.getD k dd).name,(L.getD k dd).ar,(L.getD k dd).aA,y3⟩:ae)).abs=kC who (L.getD k dd).abs:=rU (D:=(L.getD k dd)) (x:=(⟨(L.getD k dd).name,(L.getD k dd).ar,(L.getD k dd).aA,y3⟩:ae)) rfl rfl rfl mw h5
   have Gx:((⟨(L.getD k dd).name,(L.getD k dd).ar,(L.getD k dd).aA,y3⟩:ae)).name=(L.getD k dd).name:=rfl
   refine cL ?_
   refine cL ?_
   refine fc (mb (fp++sM) (List.take (k+1) L4)) List.perm_append_comm (fun w h1 h2=>ke B4 lV h1 h2) ?_
   refine cd (cL (cL ?_))
   exact bu ⟨k+1,L4,fp++sM⟩ (j5.step hI (by omega) lV Gw Gx) (by show S1.length - (k+1)<S1.length - k;omega)
 refine Mi ?_ (pc (fG 51 (k:Int) k S1.length i0) (NG 52 k j2 i0))
 have TJ:y3.xs.length≤3:=by rw[mw];exact Nat.le_trans (List.length_filter_le _ _) (by omega)
 refine Mu ?_ call104 (fun bs w hS=>vj (⟨(L.getD k dd).name,(L.getD k dd).ar,(L.getD k dd).aA,y3⟩:ae) w ⟨(show (L.getD k dd).name.size≤9223372036854775807 from hI.names _ (aB B4)),(hS.res _ i1)⟩ ⟨Aq,Ar⟩ (by show y3.xs.length≤_;omega))
 rintro rf y5 tB pe
 refine Mi ?_ (fG 54 (k:Int) k S1.length i1)
 refine cd ?_
 refine Ms k 0 (⟨y5.name,y5.ar,y5.aA,y5.line⟩:ae) ?_ (by omega) (hg:=j2)
 intro L6 rA Al
 have ni:L6.getD k dd=(⟨y5.name,y5.ar,y5.aA,y5.line⟩:ae):=by rw[rA];exact bQ (by omega)
 have fM:L6=List.set L k (⟨y5.name,y5.ar,y5.aA,y5.line⟩:ae):=by rw[rA,lV,List.set_set]
 refine Mi ?_ (pR ((k:Int)+1))
 have Gw:((⟨y5.name,y5.ar,y5.aA,y5.line⟩:ae)).abs=kC who (L.getD k dd).abs:=rV (D:=(L.getD k dd)) (x:=(⟨(L.getD k dd).name,(L.getD k dd).ar,(L.getD k dd).aA,y3⟩:ae)) tB rfl rfl rfl mw h5
 have Gx:((⟨y5.name,y5.ar,y5.aA,y5.line⟩:ae)).name=(L.getD k dd).name:=(congrArg aY.name tB).trans (Bp _)
 refine jZ ?_
 refine jZ ?_
 refine fc (mb (fp++sM) (L.take k)) List.perm_append_comm (fun w h1 h2 x hx=>Sl.rd.wide (h2 x hx) fun b hb=>List.mem_append_left _ hb) ?_
 refine cL ?_
 refine fc (mb ((fp++sM)++rf) (List.take (k+1) L6)) List.perm_append_comm (fun w h1 h2=>ke B4 fM h1.2 h2) ?_
 refine cd (cL (cL ?_))
 exact bu ⟨k+1,L6,(fp++sM)++rf⟩ (j5.step hI (by omega) fM Gw Gx) (by show S1.length - (k+1)<S1.length - k;omega)
theorem xz (s:Sl (Fl aK))(p:Fl aK→Bool)(kf:Nat)(dc:Array Value)(w:World)(hs:s.rd B w)(cH: ∀args w,(callFunc kf args).run prog w=.ok (.enter kf args) w)
    (hf: ∀(w':World) (x:(Fl aK)),x∈s.xs→Kp [] w w'→Calls prog kf (#[x.v.val]++dc) w' fun e sW=>e=.returned (vb (p x))∧Kp [] w' sW):Calls prog 81 #[.slice s.A s.n s.c,.func (.func kf) #[] dc] w fun e w'=>e=.returned (vi (aQ p s.xs))∧Kp [] w w':=by
 have cV:=Sl.rd.ok hs
 have iV:=Sl.ok.nc cV
 have iW:s.n=s.xs.length:=rfl
 refine M0 ?_ func81
 refine Ml (σ:=Nat) (fun i=>i≤s.n∧ ∀j,j<i→p (s.at j)=false) (fun i=>s.n - i) (fun _=>[]) [8,7,0,1] (fun i=>[(8,vI (i:Int))]) (fun _=>[]) ?_ 0 ⟨Nat.zero_le _,fun j hj=>absurd hj (Nat.not_lt_zero _)⟩
 rintro i ⟨hi,hI⟩ _ bu
 refine Md ((i:Int)<(s.n:Int)) (fun h1=>?_) fun h1=>?_
 rotate_left
 · exact b8 (-1) (by rw[gp fun j hj=>hI j (by omega)])
 refine Mi ?_ (pA 14 15 (i:Int) i (db hs))
 refine Mv ?_ cH (fun bs w hS=>hf w (s.at i) (List.mem_of_getElem? (Sl.eA (show i<s.n by omega))) hS.kp)
 refine Mb (p (s.at i)) (fun h2=>?_) fun h2=>?_
 · exact b8 (i:Int) (by rw[fR (i:=i) (by omega) (by assumption) hI])
 refine Mi ?_ (pR ((i:Int)+1))
 exact bu (i+1) ⟨by omega,fun j hj=>by rcases Nat.lt_succ_iff_lt_or_eq.1 hj with h|h;exact hI j h;subst h;assumption⟩ (by omega)
theorem As (s:Sl aK)(p:aK→Bool)(kf:Nat)(dc:Array Value)(w:World)(hs:s.rd B w)(cH: ∀args w,(callFunc kf args).run prog w=.ok (.enter kf args) w)
    (hf: ∀(w':World) (x:aK),x∈s.xs→Kp [] w w'→Calls prog kf (#[x.val]++dc) w' fun e sW=>e=.returned (vb (p x))∧Kp [] w' sW):Calls prog 81 #[s.val,.func (.func kf) #[] dc] w fun e w'=>e=.returned (vi (aQ p s.xs))∧Kp [] w w':=by
  have h:=xz (⟨s.A,s.c,vG s.xs⟩:Sl (Fl aK)) (fun x=>p x.v) kf dc w hs.fl cH (fun w' x hx hk=>hf w' x.v (by obtain⟨y,hy,rfl⟩:=List.mem_map.1 hx;exact hy) hk)
  simp only[tl,Sl.n,List.length_map] at h
  exact h
theorem Er (A:Option Addr)(c:Nat)(L:List (Fl aK))(p:Fl aK→Bool)(kf:Nat)(dc:Array Value)(w:World)(gb:(ay 141 A c L).p w)(dX: ∀b,b∈(ay 141 A c L).fp→b<w.heap.size)(hn:L.length≤1048576)(cH: ∀args w,(callFunc kf args).run prog w=.ok (.enter kf args) w)
    (hf: ∀(w':World) (x:(Fl aK)),x∈L→Kp (ay 141 A c L).fp w w'→Calls prog kf (#[x.v.val]++dc) w' fun e sW=>e=.returned (vb (p x))∧Kp [] w' sW):
    Calls prog 79 #[.slice A L.length c,.func (.func kf) #[] dc] w fun e w'=>e=.returned (.slice A (L.filter fun x=>!p x).length c)∧dh (ay 141 A c L) w w' (ay 141 A c (L.filter fun x=>!p x)):=by
 have mu:=br gb
 have nc:=mu.2
 refine Mj ?_ func79 (WS.eG w _ gb (by cases A<;>simp [ay,fI]) dX)
 refine Mp ?_ call81 (fun bs w hS=>xz (⟨A,c,L⟩:Sl (Fl aK)) p kf dc w (Rr (B:=bH) (hS.res _ i0) (fun _ _=>trivial) (fun _ _=>trivial)) cH (fun w' x hx hk=>hf w' x hx (hS.kp.step hk (fun i hi=>by cases hi))))
 refine Md (aQ p L=(-1)) (fun h1=>?_) fun h1=>?_
 · refine Mt [.slice A L.length c] fun bs w hS=>?_
   have vU:L.filter (fun x=>!p x)=L:=rJ (by assumption)
   rw[vU]
   exact⟨rfl,hS.aW⟩
 obtain⟨i0,wm,E4,yS,MG⟩:=wF (p:=p) h1
 refine Mi ?_ (pR ((aQ p L)+1))
 refine Mk 6 ?_ (show (vI ((aQ p L)+1))=vI (((i0:Int))+1) by rw[MG])
 refine Mk 5 ?_ (show (vI (aQ p L))=vI ((i0:Int)) by rw[MG])
 refine Ml (σ:=Nat×Nat×List (Fl aK)) (fun⟨i,j,M⟩=>i<j∧j≤L.length∧M.length=L.length∧M.take i=(L.take j).filter (fun x=>!p x)∧M.drop j=L.drop j) (fun⟨i,j,M⟩=>L.length - j) (fun⟨i,j,M⟩=>[ay 141 A c (M:List (Fl aK))]) [6,5,0,1] (fun⟨i,j,M⟩=>[(6,vI (j:Int)),(5,vI (i:Int))]) (fun _=>[]) ?_ (⟨i0,i0+1,L⟩) ⟨by omega,by omega,rfl,uf wm E4 yS,rfl⟩
 rintro⟨i,j,M⟩ ⟨h1,h2,hM,hT,hD⟩ _ bu
 refine Md ((j:Int)<(L.length:Int)) (fun h2=>?_) fun h2=>?_
 rotate_left
 · refine Mi ?_ (pG [(38,.sl i L.length)] (oc (rfl:(i:Int)=(i:Int)) (oc (rfl:L.length=L.length) (oc ((by omega):i≤L.length) on))))
   refine KC i (L.length - i) ?_ (by omega) (by omega)
   refine Mi ?_ (pG [(41,.sl 0 i)] (oc (rfl:0=0) (oc (rfl:(i:Int)=(i:Int)) (oc ((by omega):i≤c) on))))
   refine Mt [.slice A i c] fun bs w hS=>?_
   have vU:M.take i=L.filter (fun x=>!p x):=by rw[hT,show j=L.length by omega,List.take_length]
   have IQ:(L.filter (fun x=>!p x)).length=i:=by rw[←vU,List.length_take];omega
   have j1:=hS
   rw[vU] at j1
   refine⟨?_,j1.aW⟩
   rw[IQ]
   rfl
 refine Mi ?_ (pc (fG 24 (j:Int) j L.length (.head _)) (C2 25 j (.head _)))
 refine Mv ?_ cH (fun bs w hS=>hf w (M.getD j dd) (by rw[ly hD (by omega)];exact aB (by omega)) hS.kp)
 refine fL (p (M.getD j dd)) (fun h3=>?_) fun h3=>?_
 · refine Mi ?_ (pR ((j:Int)+1))
   have Fu:M.getD j dd=L.getD j dd:=ly hD (by omega)
   exact bu ⟨i,j+1,M⟩ ⟨by omega,by omega,hM,wG (by omega) hT (Fu▸by assumption),rI hD⟩ (by show L.length - (j+1)<L.length - j;omega)
 refine Mi ?_ (fG 33 (i:Int) i L.length (.head _))
 refine LK i (M.getD j dd) ?_ (by omega)
 intro L2 rZ QV
 refine Mi ?_ (pc (pR ((i:Int)+1)) (pR ((j:Int)+1)))
 have Fu:M.getD j dd=L.getD j dd:=ly hD (by omega)
 exact bu ⟨i+1,j+1,L2⟩ ⟨by omega,by omega,by omega,by rw[rZ];exact wH h1 (by omega) hM hT (Fu▸by assumption) Fu,by rw[rZ];exact wI h1 hD⟩ (by show L.length - (j+1)<L.length - j;omega)
theorem Gy (A:Option Addr)(c:Nat)(L:List aK)(p:aK→Bool)(kf:Nat)(dc:Array Value)(w:World)(gb:(ay 141 A c L).p w)(dX: ∀b,b∈(ay 141 A c L).fp→b<w.heap.size)(hn:L.length≤1048576)(cH: ∀args w,(callFunc kf args).run prog w=.ok (.enter kf args) w)
    (hf: ∀(w':World) (x:aK),x∈L→Kp (ay 141 A c L).fp w w'→Calls prog kf (#[x.val]++dc) w' fun e sW=>e=.returned (vb (p x))∧Kp [] w' sW):
    Calls prog 79 #[.slice A L.length c,.func (.func kf) #[] dc] w fun e w'=>e=.returned (.slice A (L.filter fun x=>!p x).length c)∧dh (ay 141 A c L) w w' (ay 141 A c (L.filter fun x=>!p x)):=by
  have h:=Er A c (vG L) (fun x=>p x.v) kf dc w (by rw[l7];exact gb) (by rw[l7];exact dX) (by simpa using hn) cH (fun w' x hx hk=>hf w' x.v (by obtain⟨y,hy,rfl⟩:=List.mem_map.1 hx;exact hy) (by rwa [l7] at hk))
  have e1:(vG L).filter (fun x=>!(p x.v))=vG (L.filter fun x=>!p x):=tW (fun x=>!p x) L
  simp only[e1,l7,List.length_map] at h
  exact h
theorem k8 (x:aK)(c:aF)(b:Nat)(w:World)(hb:(bh b 63 [vi c.kind,vi c.ag,vi c.aD,vi c.seq,vi c.aC,vi c.op.kind,vs c.op.a,vs c.op.b,vi c.op.n]).p w):Calls prog 82 #[x.val,.pointer (some (⟨b,0,none⟩:Addr))] w fun e w'=>e=.returned (vb (decide (x.seq=c.seq)))∧Kp [] w w':=by
 refine M0 ?_ func82
 refine Mi ?_ (pX 7 [vi c.seq] (fun w hk hr=>(qo (oI hb hk) 3 1 rfl)))
 exact Mt [vb (decide (x.seq=c.seq))] fun bs w hS=>⟨rfl,hS.kp⟩
theorem pf (x:aK)(a:Addr)(q:Int)(b:Nat)(w:World)(hb:(bh b 138 [.pointer (some a)]).p w)(ha:bq w (a.add 2) [vi q]):Calls prog 80 #[x.val,.pointer (some (⟨b,0,none⟩:Addr))] w fun e w'=>e=.returned (vb (decide (x.seq≤q)))∧Kp [] w w':=by
 refine M0 ?_ func80
 refine cZ 8 [] [] [] ai ?_
 refine bY ?_ (pc (pX 6 [.pointer (some a)] (fun w hk hr=>(yY (oI hb hk) 1 rfl))) (pX 9 [vi q] (fun w hk hr=>(bq.kp ha hk))))
 exact Mt [vb (decide (x.seq≤q))] fun bs w hS=>⟨rfl,hS.kp⟩
theorem vZ (s:Sl aa)(n:Int)(c:aF)(w:World)(hs:s.rd B w)(ht:ln c.ag)(hc:aJ.sub B w c):Calls prog 27 #[s.val,vi n,c.val] w fun e w'=> ∃y:Sl aa,e=.returned (.tuple #[y.val,((dn (s.xs.map aa.abs) n c).2.1).val,vb (dn (s.xs.map aa.abs) n c).2.2.1,vi (dn (s.xs.map aa.abs) n c).2.2.2])∧y.xs.map aa.abs=(dn (s.xs.map aa.abs) n c).1∧bJ w w' y:=by
 have cV:=Sl.rd.ok hs
 have iV:=Sl.ok.nc cV
 have iW:s.n=s.xs.length:=rfl
 have tA:(s.xs.map aa.abs).length=s.n:=by simp
 refine M0 ?_ func27
 refine Mp ?_ call63 (fun bs w hS=>gV s n w (Sl.rd.kp hs hS.kp))
 refine cr (bC (s.xs.map aa.abs) n=0) (fun h1=>?_) fun h1=>?_
 rotate_left
 · refine Mt [vn,vz 0,vb false,vi (bC (s.xs.map aa.abs) n)] fun bs w hS=>?_
   have hm:=wZ (c:=c) h1
   refine⟨Sl.nil,?_,?_,hS.aO (Sl.ao _ _)⟩
   · rw[hm]<;>rfl
   · rw[hm]<;>rfl
 obtain⟨EY,wm,mg,gI⟩:=dm h1
 have Es:s.xs.length≤4:=by simpa using mg
 refine Md (n=1073741824) (fun h2=>?_) fun h2=>?_
 · refine Mt [vn,vz 0,vb false,vi 2] fun bs w hS=>?_
   have hm:=ju (c:=c) h1 (by unfold eC;omega)
   refine⟨Sl.nil,?_,?_,hS.aO (Sl.ao _ _)⟩
   · rw[hm]<;>rfl
   · rw[hm]<;>rfl
 refine Md (c.seq<1) (fun h3=>?_) fun h3=>?_
 · refine Mt [vn,vz 0,vb false,vi 2] fun bs w hS=>?_
   have hm:=ju (c:=c) h1 (by unfold eC;omega)
   refine⟨Sl.nil,?_,?_,hS.aO (Sl.ao _ _)⟩
   · rw[hm]<;>rfl
   · rw[hm]<;>rfl
 refine Md ((1048576:Int)<c.seq) (fun h4=>?_) fun h4=>?_
 · refine Mt [vn,vz 0,vb false,vi 2] fun bs w hS=>?_
   have hm:=ju (c:=c) h1 (by unfold eC;omega)
   refine⟨Sl.nil,?_,?_,hS.aO (Sl.ao _ _)⟩
   · rw[hm]<;>rfl
   · rw[hm]<;>rfl
 refine Md (c.aC<0) (fun h5=>?_) fun h5=>?_
 · refine Mt [vn,vz 0,vb false,vi 2] fun bs w hS=>?_
   have hm:=ju (c:=c) h1 (by unfold eC;omega)
   refine⟨Sl.nil,?_,?_,hS.aO (Sl.ao _ _)⟩
   · rw[hm]<;>rfl
   · rw[hm]<;>rfl
 refine Md (c.seq≤c.aC) (fun h6=>?_) fun h6=>?_
 · refine Mt [vn,vz 0,vb false,vi 2] fun bs w hS=>?_
   have hm:=ju (c:=c) h1 (by unfold eC;omega)
   refine⟨Sl.nil,?_,?_,hS.aO (Sl.ao _ _)⟩
   · rw[hm]<;>rfl
   · rw[hm]<;>rfl
 refine Mf ?_ call70 (fun bs w hS=>iC s w (Sl.rd.kp hs hS.kp) (fC (by assumption)))
 rintro y1 a5
 refine dH ?_
 obtain⟨A1,c1,S1⟩:=y1
 have a5:S1.map aa.abs=s.xs.map aa.abs:=a5
 refine fO (R':=[bI (cj 141) S1,ay 118 A1 c1 (S1:List aa)]) (List.Perm.refl _) ?_
 have bn:=eW (y:=(⟨A1,c1,S1⟩:Sl aa)) (hs) a5
 have oA:S1.length=s.xs.length:=by simpa using congrArg List.length a5
 refine bk (F:= ∀i,i<S1.length→aJ.ok (S1.getD i dd)) (fun bs w hS i hi=>aJ.bL (B:=bH) (w:=w) (fY (hS.res _ i0) bn (aB hi))) fun gj=>?_
 refine bk (F:=dY A1 c1 (S1:List aa)) (fun bs w hS=>br (hS.res _ i1)) fun cI=>?_
 have cn:=cI.2
 have Gz:(S1.map aa.abs).length=S1.length:=by simp
 have kj:bC (S1.map aa.abs) n=0:=by rw[a5];assumption
 refine Mp ?_ call76 (fun bs w hS=>ll (⟨A1,c1,S1⟩:Sl aa) c.ag w (gu (hS.res _ i0) (hS.res _ i1) bn) (show S1.length≤1048576 by omega))
 have oB:=n8 (L:=S1) (index:=n) (t:=c.ag) (by rw[a5];assumption) ht
 have qb:=du (fun x:az=>decide (x.ag=c.ag)) (S1.map aa.abs)
 generalize hJ:aQ (fun x:az=>decide (x.ag=c.ag)) (S1.map aa.abs)=J at oB qb
 have wY:=n5 (fun x:aa=>IntKind.i64.wrap (x.ag - c.ag)) S1
 generalize hk:eQ (fun x:aa=>IntKind.i64.wrap (x.ag - c.ag)) S1=k at oB wY⊢
 generalize hf:dk (fun x:aa=>IntKind.i64.wrap (x.ag - c.ag)) S1=fb at oB⊢
 refine fP 12 ?_ ai
 refine fL fb (fun h7=>?_) fun h7=>?_
 rotate_left
 · have At:=of_decide_eq_false (oB.1.symm.trans h7)
   refine Mz ?_
   refine Mt [.slice A1 S1.length c1,vz 11,vb false,vi 0] fun bs w hS=>?_
   have hv: ¬eC n c:=by unfold eC;omega
   rw[←a5]
   have hm:=uD (l:=S1.map aa.abs) (c:=c) kj hv (by show aQ _ _<0;rw[hJ];omega)
   refine⟨⟨A1,c1,S1⟩,?_,?_,hS.aO (y:=(⟨A1,c1,S1⟩:Sl aa)) (bV i1 hS.res (fun x hx=>?_))⟩
   · rw[hm]<;>rfl
   · exact (congrArg Prod.fst hm).symm
   · exact cY i0 hS.res bn hx
 have GA:=oB.2 h7
 subst GA
 have nK:=ob kj (k:=k) (by omega)
 have KI:(S1.getD k dd).ab.xs.length≤4:=jF nK.2.2.2.2
 have Hf:(S1.getD k dd).ab.n=(S1.getD k dd).ab.xs.length:=rfl
 refine bY ?_ (pc (fG 61 (k:Int) k S1.length i1) (lg 63 k 1 1 i1))
 refine Mz ?_
 refine cr ((S1.getD k dd).id=c.aD) (fun h8=>?_) fun h8=>?_
 rotate_left
 · refine Mt [.slice A1 S1.length c1,vz 11,vb false,vi 0] fun bs w hS=>?_
   have hv: ¬eC n c:=by unfold eC;omega
   rw[←a5]
   have hm:=sF (c:=c) kj hv (K:=k) (by show (aQ _ _).toNat=_;rw[hJ];rfl) h8
   refine⟨⟨A1,c1,S1⟩,?_,?_,hS.aO (y:=(⟨A1,c1,S1⟩:Sl aa)) (bV i1 hS.res (fun x hx=>?_))⟩
   · rw[hm]<;>rfl
   · exact (congrArg Prod.fst hm).symm
   · exact cY i0 hS.res bn hx
 refine Mi ?_ (pc (fG 72 (k:Int) k S1.length i1) (pR (n+1)))
 refine cd ?_
 refine Ms k 3 (⟨(S1.getD k dd).ag,(S1.getD k dd).id,(S1.getD k dd).aC,n+1,(S1.getD k dd).ab⟩:aa) ?_ (by omega)
 intro L3 sX B0
 have ki:L3.getD k dd=(⟨(S1.getD k dd).ag,(S1.getD k dd).id,(S1.getD k dd).aC,n+1,(S1.getD k dd).ab⟩:aa):=by rw[sX];exact bQ (by omega)
 have iX:L3=List.set S1 k (⟨(S1.getD k dd).ag,(S1.getD k dd).id,(S1.getD k dd).aC,n+1,(S1.getD k dd).ab⟩:aa):=by rw[sX]
 refine fP 7 ?_ ai
 refine bY ?_ (l4 83 k 2 1 ki i0)
 refine Mz ?_
 refine Md ((S1.getD k dd).aC<c.aC) (fun h9=>?_) fun h9=>?_
 rotate_left
 · have kO:pJ (S1.getD k dd).abs c=(S1.getD k dd).aC:=zF (d:=(S1.getD k dd).abs) h9
   have gB:kZ (S1.getD k dd).abs c=(S1.getD k dd).ab.xs:=DK (d:=(S1.getD k dd).abs) kO nK.2.2.2.2
   refine fP 7 ?_ ai
   refine bY ?_ (l4 104 k 2 1 ki i0)
   refine Mz ?_
   refine Md (c.seq≤(S1.getD k dd).aC) (fun k7=>?_) fun k7=>?_
   · refine Mt [.slice A1 S1.length c1,vz 12,vb false,vi 0] fun bs w hS=>?_
     have hv: ¬eC n c:=by unfold eC;omega
     rw[←a5]
     have ha:=xZ kO k7
     have hm:=et (c:=c) kj hv (K:=k) (by show ¬aQ _ _<0;rw[hJ];omega) (by show (aQ _ _).toNat=_;rw[hJ];rfl) h8 (fD kO gB) ha
     have gf:=dG iX
     refine⟨⟨A1,c1,L3⟩,?_,?_,hS.aO (y:=(⟨A1,c1,L3⟩:Sl aa)) (bV i0 hS.res (fun x hx=>?_))⟩
     · have jU:S1.length=L3.length:=by rw[iX,List.length_set]
       rw[hm]
       exact congrArg (fun q=>Ending.returned (.tuple #[.slice A1 q c1,vz 12,vb false,vi 0])) jU
     · exact Eq.trans gf (congrArg Prod.fst hm).symm
     · rw[iX] at hx
       rcases mem_set hx with hx|hx
       · subst hx;exact cY (x:=(S1.getD k dd)) i1 hS.res bn (aB (L:=S1) (i:=k) (by omega))
       · exact cY i1 hS.res bn hx
   refine Mi ?_ (l4 111 k 4 1 ki i0)
   refine Mp ?_ call81 (fun bs w hS=>As (S1.getD k dd).ab (fun z:aK=>decide (z.seq=c.seq)) 82 #[.pointer (some (kv bs 0 0))] w (fY (hS.res _ i1) bn (aB (i:=k) (by omega))) call82 (fun w' z hz hk=>k8 z c (bs.getD 0 0) w' (show (bh _ _ _).p w' from (hS.pure hk).loc 0 ⟨63,c.cs⟩ (by kernel_rfl) (by simp))))
   have JV:=du (fun z:aK=>decide (z.seq=c.seq)) (S1.getD k dd).ab.xs
   generalize Cw:aQ (fun z:aK=>decide (z.seq=c.seq)) (S1.getD k dd).ab.xs=I at JV⊢
   refine Md ((0:Int)≤I) (fun mn=>?_) fun mn=>?_
   · refine cZ 13 [] [1] [ay 118 A1 c1 (L3:List aa),bI (cj 141) S1] ai ?_
     refine bY ?_ (pc (l4 120 k 4 1 ki i0) (pc (pI 122 I I.toNat (s:=(S1.getD k dd).ab) (fun w hk hr=>(fY (hr _ i1) bn (aB (i:=k) (by omega))))) (pF 124 I.toNat 1 3 (s:=(S1.getD k dd).ab) (fun w hk hr=>(fY (hr _ i1) bn (aB (i:=k) (by omega)))))))
     refine Mz ?_
     refine Mt [.slice A1 S1.length c1,((S1.getD k dd).ab.at I.toNat).aE.val,vb false,vi 0] fun bs w hS=>?_
     have hv: ¬eC n c:=by unfold eC;omega
     rw[←a5]
     have ha:=qz kO gB (kR Cw) k7 mn
     have hm:=et (c:=c) kj hv (K:=k) (by show ¬aQ _ _<0;rw[hJ];omega) (by show (aQ _ _).toNat=_;rw[hJ];rfl) h8 (fD kO gB) ha
     have gf:=dG iX
     refine⟨⟨A1,c1,L3⟩,?_,?_,hS.aO (y:=(⟨A1,c1,L3⟩:Sl aa)) (bV i0 hS.res (fun x hx=>?_))⟩
     · have jU:S1.length=L3.length:=by rw[iX,List.length_set]
       rw[hm]
       exact congrArg (fun q=>Ending.returned (.tuple #[.slice A1 q c1,((S1.getD k dd).ab.at I.toNat).aE.val,vb false,vi 0])) jU
     · exact Eq.trans gf (congrArg Prod.fst hm).symm
     · rw[iX] at hx
       rcases mem_set hx with hx|hx
       · subst hx;exact cY (x:=(S1.getD k dd)) i1 hS.res bn (aB (L:=S1) (i:=k) (by omega))
       · exact cY i1 hS.res bn hx
   refine fP 8 ?_ ai
   refine bY ?_ (pc (l4 130 k 2 1 ki i0) (pR ((S1.getD k dd).aC+4)))
   refine Mz ?_
   refine Md ((S1.getD k dd).aC+4<c.seq) (fun pq=>?_) fun pq=>?_
   rotate_left
   · refine Mt [.slice A1 S1.length c1,vz 0,vb true,vi 0] fun bs w hS=>?_
     have hv: ¬eC n c:=by unfold eC;omega
     rw[←a5]
     have ha:=tt kO gB (kR Cw) k7 mn pq
     have hm:=et (c:=c) kj hv (K:=k) (by show ¬aQ _ _<0;rw[hJ];omega) (by show (aQ _ _).toNat=_;rw[hJ];rfl) h8 (fD kO gB) ha
     have gf:=dG iX
     refine⟨⟨A1,c1,L3⟩,?_,?_,hS.aO (y:=(⟨A1,c1,L3⟩:Sl aa)) (bV i0 hS.res (fun x hx=>?_))⟩
     · have jU:S1.length=L3.length:=by rw[iX,List.length_set]
       rw[hm]
       exact congrArg (fun q=>Ending.returned (.tuple #[.slice A1 q c1,vz 0,vb true,vi 0])) jU
     · exact Eq.trans gf (congrArg Prod.fst hm).symm
     · rw[iX] at hx
       rcases mem_set hx with hx|hx
       · subst hx;exact cY (x:=(S1.getD k dd)) i1 hS.res bn (aB (L:=S1) (i:=k) (by omega))
       · exact cY i1 hS.res bn hx
   refine Mt [.slice A1 S1.length c1,vz 2,vb false,vi 0] fun bs w hS=>?_
   have hv: ¬eC n c:=by unfold eC;omega
   rw[←a5]
   have ha:=tr kO gB (kR Cw) k7 mn pq
   have hm:=et (c:=c) kj hv (K:=k) (by show ¬aQ _ _<0;rw[hJ];omega) (by show (aQ _ _).toNat=_;rw[hJ];rfl) h8 (fD kO gB) ha
   have gf:=dG iX
   refine⟨⟨A1,c1,L3⟩,?_,?_,hS.aO (y:=(⟨A1,c1,L3⟩:Sl aa)) (bV i0 hS.res (fun x hx=>?_))⟩
   · have jU:S1.length=L3.length:=by rw[iX,List.length_set]
     rw[hm]
     exact congrArg (fun q=>Ending.returned (.tuple #[.slice A1 q c1,vz 2,vb false,vi 0])) jU
   · exact Eq.trans gf (congrArg Prod.fst hm).symm
   · rw[iX] at hx
     rcases mem_set hx with hx|hx
     · subst hx;exact cY (x:=(S1.getD k dd)) i1 hS.res bn (aB (L:=S1) (i:=k) (by omega))
     · exact cY i1 hS.res bn hx
 have kO:=FI (d:=(S1.getD k dd).abs) (c:=c) h9
 have gB:=oQ kO
 have G8:=List.length_filter_le (fun z:aK=>!decide (z.seq≤c.aC)) (S1.getD k dd).ab.xs
 refine Ms k 2 (⟨(S1.getD k dd).ag,(S1.getD k dd).id,c.aC,n+1,(S1.getD k dd).ab⟩:aa) ?_ (by omega) (hg:=ki)
 intro L4 qa Am
 have j2:L4.getD k dd=(⟨(S1.getD k dd).ag,(S1.getD k dd).id,c.aC,n+1,(S1.getD k dd).ab⟩:aa):=by rw[qa];exact bQ (by omega)
 have lV:L4=List.set S1 k (⟨(S1.getD k dd).ag,(S1.getD k dd).id,c.aC,n+1,(S1.getD k dd).ab⟩:aa):=by rw[qa,iX,List.set_set]
 refine cd ?_
 refine m5 (ay 141 (S1.getD k dd).ab.A (S1.getD k dd).ab.c ((S1.getD k dd).ab.xs:List aK)) (bI (cj 141) (List.eraseIdx S1 k)) (ky (cj 141) (i:=k) (by omega)) (fun w h=>lG (cj 141) (i:=k) (by omega) w h) ?_
 refine bk (F:=dY (S1.getD k dd).ab.A (S1.getD k dd).ab.c ((S1.getD k dd).ab.xs:List aK)) (fun bs w hS=>br (hS.res _ i0)) fun Au=>?_
 have De:=Au.2
 refine cZ 9 [] [] [bI (cj 141) (List.eraseIdx S1 k),ay 118 A1 c1 (L4:List aa)] ai ?_ (hR:=(.cons _ (List.Sublist.refl _)))
 refine bY ?_ (l4 94 k 4 1 j2 i1) (hR:=(.cons _ (List.Sublist.refl _)))
 refine LG ?_ call79 (fun bs w hS=>Gy (S1.getD k dd).ab.A (S1.getD k dd).ab.c (S1.getD k dd).ab.xs (fun z:aK=>decide (z.seq≤c.aC)) 80 #[.pointer (some (kv bs 2 0))] w (hS.res _ i0) hS.lH.2.2 (by omega) call80 (fun w' x hx hk=>pf x ((xM A1).add (k*5)) c.aC (bs.getD 2 0) w' (show (bh _ _ _).p w' from hS.Fo (i:=2) (b:=⟨138,[.v (.pointer (some ((xM A1).add (k*5))))]⟩) hk (by kernel_rfl) (by simp)) (Fj (i:=k) (hS.IH hk i1) (by omega) 2 1 (by rw[j2];rfl))))
 rintro _ _
 refine Mz ?_
 refine cL ?_
 refine Ms k 4 (⟨(S1.getD k dd).ag,(S1.getD k dd).id,c.aC,n+1,⟨(S1.getD k dd).ab.A,(S1.getD k dd).ab.c,(S1.getD k dd).ab.xs.filter fun z:aK=>!decide (z.seq≤c.aC)⟩⟩:aa) ?_ (by omega) (hg:=j2)
 intro L6 rA Al
 have ni:L6.getD k dd=(⟨(S1.getD k dd).ag,(S1.getD k dd).id,c.aC,n+1,⟨(S1.getD k dd).ab.A,(S1.getD k dd).ab.c,(S1.getD k dd).ab.xs.filter fun z:aK=>!decide (z.seq≤c.aC)⟩⟩:aa):=by rw[rA];exact bQ (by omega)
 have fM:L6=List.set S1 k (⟨(S1.getD k dd).ag,(S1.getD k dd).id,c.aC,n+1,⟨(S1.getD k dd).ab.A,(S1.getD k dd).ab.c,(S1.getD k dd).ab.xs.filter fun z:aK=>!decide (z.seq≤c.aC)⟩⟩:aa):=by rw[rA,lV,List.set_set]
 refine fP 7 ?_ ai
 refine bY ?_ (l4 104 k 2 1 ni i0)
 refine Mz ?_
 refine My false false ?_ (df h6)
 refine Mi ?_ (l4 111 k 4 1 ni i0)
 refine Mp ?_ call81 (fun bs w hS=>As (⟨(S1.getD k dd).ab.A,(S1.getD k dd).ab.c,(S1.getD k dd).ab.xs.filter fun z:aK=>!decide (z.seq≤c.aC)⟩:Sl aK) (fun z:aK=>decide (z.seq=c.seq)) 82 #[.pointer (some (kv bs 0 0))] w (Rr (B:=bH) (hS.res _ i1) (fun _ _=>trivial) (fun z hz=>bn _ (aB (L:=S1) (i:=k) (by omega)) z (List.mem_filter.1 hz).1)) call82 (fun w' z hz hk=>k8 z c (bs.getD 0 0) w' (show (bh _ _ _).p w' from (hS.pure hk).loc 0 ⟨63,c.cs⟩ (by kernel_rfl) (by simp))))
 have JV:=du (fun z:aK=>decide (z.seq=c.seq)) ((S1.getD k dd).ab.xs.filter fun z:aK=>!decide (z.seq≤c.aC))
 generalize Cw:aQ (fun z:aK=>decide (z.seq=c.seq)) ((S1.getD k dd).ab.xs.filter fun z:aK=>!decide (z.seq≤c.aC))=I at JV⊢
 refine Md ((0:Int)≤I) (fun g7=>?_) fun g7=>?_
 · refine cZ 13 [] [1] [ay 118 A1 c1 (L6:List aa),ay 141 (S1.getD k dd).ab.A (S1.getD k dd).ab.c ((S1.getD k dd).ab.xs.filter fun z:aK=>!decide (z.seq≤c.aC):List aK),bI (cj 141) (List.eraseIdx S1 k)] ai ?_
   refine bY ?_ (pc (l4 120 k 4 1 ni i0) (pc (fG 122 I I.toNat ((S1.getD k dd).ab.xs.filter fun z:aK=>!decide (z.seq≤c.aC)).length i1) (lg 124 I.toNat 1 3 i1)))
   refine Mz ?_
   refine Mt [.slice A1 S1.length c1,(((S1.getD k dd).ab.xs.filter fun z:aK=>!decide (z.seq≤c.aC)).getD I.toNat dd).aE.val,vb false,vi 0] fun bs w hS=>?_
   have hv: ¬eC n c:=by unfold eC;omega
   rw[←a5]
   have ha:=qz kO gB (kR Cw) h6 g7
   have hm:=et (c:=c) kj hv (K:=k) (by show ¬aQ _ _<0;rw[hJ];omega) (by show (aQ _ _).toNat=_;rw[hJ];rfl) h8 (fD kO gB) ha
   have gf:=dG fM
   refine⟨⟨A1,c1,L6⟩,?_,?_,hS.aO (y:=(⟨A1,c1,L6⟩:Sl aa)) (bV i0 hS.res (fun x hx=>?_))⟩
   · have jU:S1.length=L6.length:=by rw[fM,List.length_set]
     rw[hm]
     exact congrArg (fun q=>Ending.returned (.tuple #[.slice A1 q c1,(((S1.getD k dd).ab.xs.filter fun z:aK=>!decide (z.seq≤c.aC)).getD I.toNat dd).aE.val,vb false,vi 0])) jU
   · exact Eq.trans gf (congrArg Prod.fst hm).symm
   · rw[fM] at hx
     rcases ia hx with hx|hx
     · subst hx;exact a4 i1 (hS.res _ i1) (fun z hz=>bn _ (aB (L:=S1) (i:=k) (by omega)) z (List.mem_filter.1 hz).1)
     · exact cY i2 hS.res (fun z hz=>bn z (List.mem_of_mem_eraseIdx hz)) hx
 refine fP 8 ?_ ai
 refine bY ?_ (pc (l4 130 k 2 1 ni i0) (pR (c.aC+4)))
 refine Mz ?_
 refine Md (c.aC+4<c.seq) (fun jW=>?_) fun jW=>?_
 rotate_left
 · refine Mt [.slice A1 S1.length c1,vz 0,vb true,vi 0] fun bs w hS=>?_
   have hv: ¬eC n c:=by unfold eC;omega
   rw[←a5]
   have ha:=tt kO gB (kR Cw) h6 g7 jW
   have hm:=et (c:=c) kj hv (K:=k) (by show ¬aQ _ _<0;rw[hJ];omega) (by show (aQ _ _).toNat=_;rw[hJ];rfl) h8 (fD kO gB) ha
   have gf:=dG fM
   refine⟨⟨A1,c1,L6⟩,?_,?_,hS.aO (y:=(⟨A1,c1,L6⟩:Sl aa)) (bV i0 hS.res (fun x hx=>?_))⟩
   · have jU:S1.length=L6.length:=by rw[fM,List.length_set]
     rw[hm]
     exact congrArg (fun q=>Ending.returned (.tuple #[.slice A1 q c1,vz 0,vb true,vi 0])) jU
   · exact Eq.trans gf (congrArg Prod.fst hm).symm
   · rw[fM] at hx
     rcases ia hx with hx|hx
     · subst hx;exact a4 i1 (hS.res _ i1) (fun z hz=>bn _ (aB (L:=S1) (i:=k) (by omega)) z (List.mem_filter.1 hz).1)
     · exact cY i2 hS.res (fun z hz=>bn z (List.mem_of_mem_eraseIdx hz)) hx
 refine Mt [.slice A1 S1.length c1,vz 2,vb false,vi 0] fun bs w hS=>?_
 have hv: ¬eC n c:=by unfold eC;omega
 rw[←a5]
 have ha:=tr kO gB (kR Cw) h6 g7 jW
 have hm:=et (c:=c) kj hv (K:=k) (by show ¬aQ _ _<0;rw[hJ];omega) (by show (aQ _ _).toNat=_;rw[hJ];rfl) h8 (fD kO gB) ha
 have gf:=dG fM
 refine⟨⟨A1,c1,L6⟩,?_,?_,hS.aO (y:=(⟨A1,c1,L6⟩:Sl aa)) (bV i0 hS.res (fun x hx=>?_))⟩
 · have jU:S1.length=L6.length:=by rw[fM,List.length_set]
   rw[hm]
   exact congrArg (fun q=>Ending.returned (.tuple #[.slice A1 q c1,vz 2,vb false,vi 0])) jU
 · exact Eq.trans gf (congrArg Prod.fst hm).symm
 · rw[fM] at hx
   rcases ia hx with hx|hx
   · subst hx;exact a4 i1 (hS.res _ i1) (fun z hz=>bn _ (aB (L:=S1) (i:=k) (by omega)) z (List.mem_filter.1 hz).1)
   · exact cY i2 hS.res (fun z hz=>bn z (List.mem_of_mem_eraseIdx hz)) hx
theorem Av (s:Sl aa)(n:Int)(c:aF)(w:World)(hs:s.rd B w)(ht:ln c.ag)(hc:aJ.sub B w c):Calls prog 36 #[s.val,vi n,c.val] w fun e w'=> ∃y:Sl aa,e=.returned (.tuple #[y.val,((dn (s.xs.map aa.abs) n c).2.1).val,vb (dn (s.xs.map aa.abs) n c).2.2.1,vi (dn (s.xs.map aa.abs) n c).2.2.2])∧y.xs.map aa.abs=(dn (s.xs.map aa.abs) n c).1∧bJ w w' y:=by
 have cV:=Sl.rd.ok hs
 have iV:=Sl.ok.nc cV
 have iW:s.n=s.xs.length:=rfl
 have tA:(s.xs.map aa.abs).length=s.n:=by simp
 refine M0 ?_ func36
 refine Mp ?_ call92 (fun bs w hS=>eV s n w (Sl.rd.kp hs hS.kp))
 refine Md (bC (s.xs.map aa.abs) n=0) (fun h1=>?_) fun h1=>?_
 rotate_left
 · refine My false true ?_ (df h1)
   refine Mt [vn,vz 0,vb false,vi (bC (s.xs.map aa.abs) n)] fun bs w hS=>?_
   have hm:=wZ (c:=c) h1
   refine⟨Sl.nil,?_,?_,hS.aO (Sl.ao _ _)⟩
   · rw[hm]<;>rfl
   · rw[hm]<;>rfl
 obtain⟨EY,wm,mg,gI⟩:=dm h1
 have Es:s.xs.length≤4:=by simpa using mg
 refine Md ((1073741824:Int)≤n) (fun h2=>?_) fun h2=>?_
 · refine Mq 41 true ?_ rfl
   refine Mt [vn,vz 0,vb false,vi 2] fun bs w hS=>?_
   have hm:=ju (c:=c) h1 (by unfold eC;simp only[iT,iF] at*;omega)
   refine⟨Sl.nil,?_,?_,hS.aO (Sl.ao _ _)⟩
   · rw[hm]<;>rfl
   · rw[hm]<;>rfl
 refine Mp ?_ call51 (fun bs w hS=>b6 c.seq 1 1048576 w)
 refine fL (gk c.seq 1 1048576) (fun h3=>?_) fun h3=>?_
 rotate_left
 · simp only[iT,iF] at h3
   refine Mq 41 true ?_ rfl
   refine Mt [vn,vz 0,vb false,vi 2] fun bs w hS=>?_
   have hm:=ju (c:=c) h1 (by unfold eC;simp only[iT,iF] at*;omega)
   refine⟨Sl.nil,?_,?_,hS.aO (Sl.ao _ _)⟩
   · rw[hm]<;>rfl
   · rw[hm]<;>rfl
 simp only[iT,iF] at h3
 refine Mi ?_ (pR (c.seq - 1))
 refine Mp ?_ call51 (fun bs w hS=>b6 c.aC 0 (c.seq - 1) w)
 refine fL (gk c.aC 0 (c.seq - 1)) (fun h4=>?_) fun h4=>?_
 rotate_left
 · simp only[iT,iF] at h4
   refine Mq 41 true ?_ rfl
   refine Mt [vn,vz 0,vb false,vi 2] fun bs w hS=>?_
   have hm:=ju (c:=c) h1 (by unfold eC;simp only[iT,iF] at*;omega)
   refine⟨Sl.nil,?_,?_,hS.aO (Sl.ao _ _)⟩
   · rw[hm]<;>rfl
   · rw[hm]<;>rfl
 simp only[iT,iF] at h4
 refine My true true ?_ (dt h1)
 refine Mf ?_ call19 (fun bs w hS=>fB s w (Sl.rd.kp hs hS.kp) (fC (by assumption)))
 rintro y1 a5
 refine dH ?_
 obtain⟨A1,c1,S1⟩:=y1
 have a5:S1.map aa.abs=s.xs.map aa.abs:=a5
 refine fO (R':=[bI (cj 141) S1,ay 118 A1 c1 (S1:List aa)]) (List.Perm.refl _) ?_
 have bn:=eW (y:=(⟨A1,c1,S1⟩:Sl aa)) (hs) a5
 have oA:S1.length=s.xs.length:=by simpa using congrArg List.length a5
 refine bk (F:= ∀i,i<S1.length→aJ.ok (S1.getD i dd)) (fun bs w hS i hi=>aJ.bL (B:=bH) (w:=w) (fY (hS.res _ i0) bn (aB hi))) fun gj=>?_
 refine bk (F:=dY A1 c1 (S1:List aa)) (fun bs w hS=>br (hS.res _ i1)) fun cI=>?_
 have cn:=cI.2
 have Gz:(S1.map aa.abs).length=S1.length:=by simp
 have kj:bC (S1.map aa.abs) n=0:=by rw[a5];assumption
 refine Mp ?_ call98 (fun bs w hS=>eg (⟨A1,c1,S1⟩:Sl aa) c.ag w (gu (hS.res _ i0) (hS.res _ i1) bn))
 have Ii:aQ (fun x:aa=>decide (x.ag=c.ag)) S1=aQ (fun x:az=>decide (x.ag=c.ag)) (S1.map aa.abs):=fm aa.abs (fun x:az=>decide (x.ag=c.ag)) S1
 rw[Ii]
 have qb:=du (fun x:az=>decide (x.ag=c.ag)) (S1.map aa.abs)
 generalize hJ:aQ (fun x:az=>decide (x.ag=c.ag)) (S1.map aa.abs)=J at qb⊢
 rw[List.length_map] at qb
 refine fP 12 ?_ ai
 refine Md (J<0) (fun h6=>?_) fun h6=>?_
 · have At: ¬0≤J:=by omega
   refine Mz ?_
   refine Mt [.slice A1 S1.length c1,vz 11,vb false,vi 0] fun bs w hS=>?_
   have hv: ¬eC n c:=by grind[eC]
   rw[←a5]
   have hm:=uD (l:=S1.map aa.abs) (c:=c) kj hv (by show aQ _ _<0;rw[hJ];omega)
   refine⟨⟨A1,c1,S1⟩,?_,?_,hS.aO (y:=(⟨A1,c1,S1⟩:Sl aa)) (bV i1 hS.res (fun x hx=>?_))⟩
   · rw[hm]<;>rfl
   · exact (congrArg Prod.fst hm).symm
   · exact cY i0 hS.res bn hx
 have At:0≤J:=by omega
 have nK:=ob kj (k:=J.toNat) (by omega)
 have KI:(S1.getD J.toNat dd).ab.xs.length≤4:=jF nK.2.2.2.2
 have Hf:(S1.getD J.toNat dd).ab.n=(S1.getD J.toNat dd).ab.xs.length:=rfl
 refine bY ?_ (pc (fG 55 J J.toNat S1.length i1) (lg 57 J.toNat 1 1 i1))
 refine Mz ?_
 refine cr ((S1.getD J.toNat dd).id=c.aD) (fun h7=>?_) fun h7=>?_
 rotate_left
 · refine Mt [.slice A1 S1.length c1,vz 11,vb false,vi 0] fun bs w hS=>?_
   have hv: ¬eC n c:=by grind[eC]
   rw[←a5]
   have hm:=sF (c:=c) kj hv (K:=J.toNat) (by show (aQ _ _).toNat=_;rw[hJ]) h7
   refine⟨⟨A1,c1,S1⟩,?_,?_,hS.aO (y:=(⟨A1,c1,S1⟩:Sl aa)) (bV i1 hS.res (fun x hx=>?_))⟩
   · rw[hm]<;>rfl
   · exact (congrArg Prod.fst hm).symm
   · exact cY i0 hS.res bn hx
 refine Mi ?_ (pc (pR (n+1)) (fG 68 J J.toNat S1.length i1))
 refine cd ?_
 refine Ms J.toNat 3 (⟨(S1.getD J.toNat dd).ag,(S1.getD J.toNat dd).id,(S1.getD J.toNat dd).aC,n+1,(S1.getD J.toNat dd).ab⟩:aa) ?_ (by omega)
 intro L3 sX B0
 have ki:L3.getD J.toNat dd=(⟨(S1.getD J.toNat dd).ag,(S1.getD J.toNat dd).id,(S1.getD J.toNat dd).aC,n+1,(S1.getD J.toNat dd).ab⟩:aa):=by rw[sX];exact bQ (by omega)
 have iX:L3=List.set S1 J.toNat (⟨(S1.getD J.toNat dd).ag,(S1.getD J.toNat dd).id,(S1.getD J.toNat dd).aC,n+1,(S1.getD J.toNat dd).ab⟩:aa):=by rw[sX]
 refine fP 8 ?_ ai
 refine bY ?_ (pc (fG 74 J J.toNat S1.length i0) (l4 76 J.toNat 2 1 ki i0))
 refine Mz ?_
 refine Md ((S1.getD J.toNat dd).aC<c.aC) (fun h8=>?_) fun h8=>?_
 rotate_left
 · have kO:pJ (S1.getD J.toNat dd).abs c=(S1.getD J.toNat dd).aC:=zF (d:=(S1.getD J.toNat dd).abs) h8
   refine bU (α:=aK) 141 ?_
   refine Ml (σ:=Nat×Option Addr×Nat×List aK) (fun⟨i,A,c9,L⟩=>i≤(S1.getD J.toNat dd).ab.n∧L=((S1.getD J.toNat dd).ab.xs.take i).filter (fun z:aK=>!decide (z.seq≤(S1.getD J.toNat dd).aC))) (fun⟨i,A,c9,L⟩=>(S1.getD J.toNat dd).ab.n - i) (fun⟨i,A,c9,L⟩=>[ay 141 A c9 (L:List aK),ay 118 A1 c1 (L3:List aa),bI (cj 141) S1]) [14,13,12,11,7,5] (fun⟨i,A,c9,L⟩=>[(14,vI (i:Int)),(13,.v (.slice A L.length c9))]) (fun _=>[]) ?_ (⟨0,none,0,[]⟩) ⟨Nat.zero_le _,rfl⟩
   rintro⟨i,A,c9,L⟩ ⟨hi,hI⟩ _ o5
   have MA:L.length≤i:=by rw[hI];exact Nat.le_trans (List.length_filter_le _ _) (by rw[List.length_take];omega)
   refine Mi ?_ (pc (fG 87 J J.toNat S1.length i1) (l4 89 J.toNat 4 1 ki i1))
   refine Md ((i:Int)<(((S1.getD J.toNat dd).ab.n:Nat):Int)) (fun pq=>?_) fun pq=>?_
   · refine fP 15 ?_ ai
     refine bY ?_ (pc (fG 96 J J.toNat S1.length i1) (pc (l4 98 J.toNat 4 1 ki i1) (pc (pI 100 (i:Int) i (s:=(S1.getD J.toNat dd).ab) (fun w hk hr=>(fY (hr _ i2) bn (aB (i:=J.toNat) (by omega))))) (pc (pF 102 i 0 1 (s:=(S1.getD J.toNat dd).ab) (fun w hk hr=>(fY (hr _ i2) bn (aB (i:=J.toNat) (by omega))))) (pc (fG 105 J J.toNat S1.length i1) (l4 107 J.toNat 2 1 ki i1))))))
     refine Mz ?_
     refine Md ((S1.getD J.toNat dd).aC<((S1.getD J.toNat dd).ab.at i).seq) (fun yJ=>?_) fun yJ=>?_
     rotate_left
     · refine Mi ?_ (pR ((i:Int)+1))
       exact o5 ⟨i+1,A,c9,L⟩ ⟨by omega,by first|exact mL (s:=(S1.getD J.toNat dd).ab) (p:=(fun z:aK=>decide (z.seq≤(S1.getD J.toNat dd).aC))) hI (by omega) (decide_eq_false (by omega))|exact lz (s:=(S1.getD J.toNat dd).ab) (p:=(fun z:aK=>decide (z.seq≤(S1.getD J.toNat dd).aC))) hI (by omega) (decide_eq_true (by omega))⟩ (by show (S1.getD J.toNat dd).ab.n - (i+1)<(S1.getD J.toNat dd).ab.n - i;omega)
     refine Mi ?_ (pc (fG 112 J J.toNat S1.length i1) (pc (l4 114 J.toNat 4 1 ki i1) (pA 116 117 (i:Int) i (s:=(S1.getD J.toNat dd).ab) (fun w hk hr=>(fY (hr _ i2) bn (aB (i:=J.toNat) (by omega)))))))
     refine M1 ?_
     refine gX (α:=aK) 40 ([(⟨((S1.getD J.toNat dd).ab.at i).seq,⟨((S1.getD J.toNat dd).ab.at i).aE.code,((S1.getD J.toNat dd).ab.at i).aE.n,((S1.getD J.toNat dd).ab.at i).aE.text⟩⟩:aK)]) ?_
     intro A7 c7
     refine Mi ?_ (pR ((i:Int)+1))
     exact o5 ⟨i+1,A7,c7,L++[(⟨((S1.getD J.toNat dd).ab.at i).seq,⟨((S1.getD J.toNat dd).ab.at i).aE.code,((S1.getD J.toNat dd).ab.at i).aE.n,((S1.getD J.toNat dd).ab.at i).aE.text⟩⟩:aK)]⟩ ⟨by omega,by first|exact mL (s:=(S1.getD J.toNat dd).ab) (p:=(fun z:aK=>decide (z.seq≤(S1.getD J.toNat dd).aC))) hI (by omega) (decide_eq_false (by omega))|exact lz (s:=(S1.getD J.toNat dd).ab) (p:=(fun z:aK=>decide (z.seq≤(S1.getD J.toNat dd).aC))) hI (by omega) (decide_eq_true (by omega))⟩ (by show (S1.getD J.toNat dd).ab.n - (i+1)<(S1.getD J.toNat dd).ab.n - i;omega)
   have GB:L=(S1.getD J.toNat dd).ab.xs.filter (fun z:aK=>!decide (z.seq≤(S1.getD J.toNat dd).aC)):=by rw[hI,dE (by omega)]
   have gB:kZ (S1.getD J.toNat dd).abs c=L:=(oQ kO).trans GB.symm
   refine bk (F:=dY A c9 (L:List aK)) (fun bs w hS=>br (hS.res _ i0)) fun Au=>?_
   have De:=Au.2
   refine Mi ?_ (fG 123 J J.toNat S1.length i1)
   refine cd ?_
   refine Ms J.toNat 4 (⟨(S1.getD J.toNat dd).ag,(S1.getD J.toNat dd).id,(S1.getD J.toNat dd).aC,n+1,⟨A,c9,L⟩⟩:aa) ?_ (by omega) (hg:=ki)
   intro L8 Hg MF
   have Ih:L8.getD J.toNat dd=(⟨(S1.getD J.toNat dd).ag,(S1.getD J.toNat dd).id,(S1.getD J.toNat dd).aC,n+1,⟨A,c9,L⟩⟩:aa):=by rw[Hg];exact bQ (by omega)
   have nj:L8=List.set S1 J.toNat (⟨(S1.getD J.toNat dd).ag,(S1.getD J.toNat dd).id,(S1.getD J.toNat dd).aC,n+1,⟨A,c9,L⟩⟩:aa):=by rw[Hg,iX,List.set_set]
   refine fP 8 ?_ ai
   refine bY ?_ (pc (fG 129 J J.toNat S1.length i0) (l4 131 J.toNat 2 1 Ih i0))
   refine Mz ?_
   refine Md (c.seq≤(S1.getD J.toNat dd).aC) (fun Ek=>?_) fun Ek=>?_
   · refine Mt [.slice A1 S1.length c1,vz 12,vb false,vi 0] fun bs w hS=>?_
     clear o5
     have hv: ¬eC n c:=by grind[eC]
     rw[←a5]
     have ha:=xZ kO Ek
     have hm:=et (c:=c) kj hv (K:=J.toNat) (by show ¬aQ _ _<0;rw[hJ];omega) (by show (aQ _ _).toNat=_;rw[hJ]) h7 (fD kO gB) ha
     have gf:=dG nj
     refine⟨⟨A1,c1,L8⟩,?_,?_,hS.aO (y:=(⟨A1,c1,L8⟩:Sl aa)) (bV i0 hS.res (fun x hx=>?_))⟩
     · have jU:S1.length=L8.length:=by rw[nj,List.length_set]
       rw[hm]
       exact congrArg (fun q=>Ending.returned (.tuple #[.slice A1 q c1,vz 12,vb false,vi 0])) jU
     · exact Eq.trans gf (congrArg Prod.fst hm).symm
     · rw[nj] at hx
       rcases mem_set hx with hx|hx
       · subst hx;exact a4 i1 (hS.res _ i1) (fun z hz=>bn _ (aB (L:=S1) (i:=J.toNat) (by omega)) z (by rw[GB] at hz;exact (List.mem_filter.1 hz).1))
       · exact cY i2 hS.res bn hx
   refine Ml (σ:=Nat) (fun j=>j≤L.length∧ ∀i0,i0<j→ ¬(L.getD i0 dd).seq=c.seq) (fun j=>L.length - j) (fun j=>[ay 118 A1 c1 (L8:List aa),ay 141 A c9 (L:List aK),bI (cj 141) S1]) [15,13,12,11,7,5] (fun j=>[(15,vI (j:Int))]) (fun _=>[]) ?_ 0 ⟨Nat.zero_le _,fun i0 h0=>absurd h0 (Nat.not_lt_zero _)⟩
   rintro j ⟨Kx,hX⟩ _ sJ
   refine Md ((j:Int)<(L.length:Int)) (fun ym=>?_) fun ym=>?_
   · refine fP 8 ?_ ai
     refine bY ?_ (pc (fG 143 (j:Int) j L.length i1) (lg 145 j 0 1 i1))
     refine Mz ?_
     refine Md ((L.getD j dd).seq=c.seq) (fun EW=>?_) fun EW=>?_
     rotate_left
     · refine Mi ?_ (pR ((j:Int)+1))
       exact sJ (j+1) ⟨by omega,fun i0 h0=>by rcases Nat.lt_succ_iff_lt_or_eq.1 h0 with h|h;exact hX i0 h;subst h;assumption⟩ (by show L.length - (j+1)<L.length - j;omega)
     refine cZ 10 [] [1] [ay 118 A1 c1 (L8:List aa),ay 141 A c9 (L:List aK),bI (cj 141) S1] ai ?_
     refine bY ?_ (pc (fG 152 (j:Int) j L.length i1) (lg 154 j 1 3 i1))
     refine Mz ?_
     refine Mt [.slice A1 S1.length c1,(L.getD j dd).aE.val,vb false,vi 0] fun bs w hS=>?_
     clear o5 sJ
     have hv: ¬eC n c:=by grind[eC]
     rw[←a5]
     have ha:=qz kO gB (kR (kd (L:=L) (p:=fun z:aK=>decide (z.seq=c.seq)) (i:=j) (by omega) (decide_eq_true EW) (fun i0 h0=>decide_eq_false (hX i0 h0)))) Ek (by omega)
     have hm:=et (c:=c) kj hv (K:=J.toNat) (by show ¬aQ _ _<0;rw[hJ];omega) (by show (aQ _ _).toNat=_;rw[hJ]) h7 (fD kO gB) ha
     have gf:=dG nj
     refine⟨⟨A1,c1,L8⟩,?_,?_,hS.aO (y:=(⟨A1,c1,L8⟩:Sl aa)) (bV i0 hS.res (fun x hx=>?_))⟩
     · have jU:S1.length=L8.length:=by rw[nj,List.length_set]
       rw[hm]
       exact congrArg (fun q=>Ending.returned (.tuple #[.slice A1 q c1,(L.getD j dd).aE.val,vb false,vi 0])) jU
     · exact Eq.trans gf (congrArg Prod.fst hm).symm
     · rw[nj] at hx
       rcases mem_set hx with hx|hx
       · subst hx;exact a4 i1 (hS.res _ i1) (fun z hz=>bn _ (aB (L:=S1) (i:=J.toNat) (by omega)) z (by rw[GB] at hz;exact (List.mem_filter.1 hz).1))
       · exact cY i2 hS.res bn hx
   refine fP 9 ?_ ai
   refine bY ?_ (pc (fG 159 J J.toNat S1.length i0) (pc (l4 161 J.toNat 2 1 Ih i0) (pR ((S1.getD J.toNat dd).aC+4))))
   refine Mz ?_
   refine Md ((S1.getD J.toNat dd).aC+4<c.seq) (fun Dd=>?_) fun Dd=>?_
   rotate_left
   · refine Mt [.slice A1 S1.length c1,vz 0,vb true,vi 0] fun bs w hS=>?_
     clear o5 sJ
     have hv: ¬eC n c:=by grind[eC]
     rw[←a5]
     have ha:=tt kO gB (kR (en (L:=L) (p:=fun z:aK=>decide (z.seq=c.seq)) fun i0 h0=>decide_eq_false (hX i0 (by omega)))) Ek (by omega) Dd
     have hm:=et (c:=c) kj hv (K:=J.toNat) (by show ¬aQ _ _<0;rw[hJ];omega) (by show (aQ _ _).toNat=_;rw[hJ]) h7 (fD kO gB) ha
     have gf:=dG nj
     refine⟨⟨A1,c1,L8⟩,?_,?_,hS.aO (y:=(⟨A1,c1,L8⟩:Sl aa)) (bV i0 hS.res (fun x hx=>?_))⟩
     · have jU:S1.length=L8.length:=by rw[nj,List.length_set]
       rw[hm]
       exact congrArg (fun q=>Ending.returned (.tuple #[.slice A1 q c1,vz 0,vb true,vi 0])) jU
     · exact Eq.trans gf (congrArg Prod.fst hm).symm
     · rw[nj] at hx
       rcases mem_set hx with hx|hx
       · subst hx;exact a4 i1 (hS.res _ i1) (fun z hz=>bn _ (aB (L:=S1) (i:=J.toNat) (by omega)) z (by rw[GB] at hz;exact (List.mem_filter.1 hz).1))
       · exact cY i2 hS.res bn hx
   refine Mt [.slice A1 S1.length c1,vz 2,vb false,vi 0] fun bs w hS=>?_
   clear o5 sJ
   have hv: ¬eC n c:=by grind[eC]
   rw[←a5]
   have ha:=tr kO gB (kR (en (L:=L) (p:=fun z:aK=>decide (z.seq=c.seq)) fun i0 h0=>decide_eq_false (hX i0 (by omega)))) Ek (by omega) Dd
   have hm:=et (c:=c) kj hv (K:=J.toNat) (by show ¬aQ _ _<0;rw[hJ];omega) (by show (aQ _ _).toNat=_;rw[hJ]) h7 (fD kO gB) ha
   have gf:=dG nj
   refine⟨⟨A1,c1,L8⟩,?_,?_,hS.aO (y:=(⟨A1,c1,L8⟩:Sl aa)) (bV i0 hS.res (fun x hx=>?_))⟩
   · have jU:S1.length=L8.length:=by rw[nj,List.length_set]
     rw[hm]
     exact congrArg (fun q=>Ending.returned (.tuple #[.slice A1 q c1,vz 2,vb false,vi 0])) jU
   · exact Eq.trans gf (congrArg Prod.fst hm).symm
   · rw[nj] at hx
     rcases mem_set hx with hx|hx
     · subst hx;exact a4 i1 (hS.res _ i1) (fun z hz=>bn _ (aB (L:=S1) (i:=J.toNat) (by omega)) z (by rw[GB] at hz;exact (List.mem_filter.1 hz).1))
     · exact cY i2 hS.res bn hx
 have kO:=FI (d:=(S1.getD J.toNat dd).abs) (c:=c) h8
 have St:=kO
 refine Mi ?_ (fG 82 J J.toNat S1.length i0)
 refine Ms J.toNat 2 (⟨(S1.getD J.toNat dd).ag,(S1.getD J.toNat dd).id,c.aC,n+1,(S1.getD J.toNat dd).ab⟩:aa) ?_ (by omega) (hg:=ki)
 intro L4 qa Am
 have j2:L4.getD J.toNat dd=(⟨(S1.getD J.toNat dd).ag,(S1.getD J.toNat dd).id,c.aC,n+1,(S1.getD J.toNat dd).ab⟩:aa):=by rw[qa];exact bQ (by omega)
 have lV:L4=List.set S1 J.toNat (⟨(S1.getD J.toNat dd).ag,(S1.getD J.toNat dd).id,c.aC,n+1,(S1.getD J.toNat dd).ab⟩:aa):=by rw[qa,iX,List.set_set]
 refine bU (α:=aK) 141 ?_
 refine Ml (σ:=Nat×Option Addr×Nat×List aK) (fun⟨i,A,c9,L⟩=>i≤(S1.getD J.toNat dd).ab.n∧L=((S1.getD J.toNat dd).ab.xs.take i).filter (fun z:aK=>!decide (z.seq≤c.aC))) (fun⟨i,A,c9,L⟩=>(S1.getD J.toNat dd).ab.n - i) (fun⟨i,A,c9,L⟩=>[ay 141 A c9 (L:List aK),ay 118 A1 c1 (L4:List aa),bI (cj 141) S1]) [14,13,12,11,7,5] (fun⟨i,A,c9,L⟩=>[(14,vI (i:Int)),(13,.v (.slice A L.length c9))]) (fun _=>[]) ?_ (⟨0,none,0,[]⟩) ⟨Nat.zero_le _,rfl⟩
 rintro⟨i,A,c9,L⟩ ⟨hi,hI⟩ _ bu
 have MA:L.length≤i:=by rw[hI];exact Nat.le_trans (List.length_filter_le _ _) (by rw[List.length_take];omega)
 refine Mi ?_ (pc (fG 87 J J.toNat S1.length i1) (l4 89 J.toNat 4 1 j2 i1))
 refine Md ((i:Int)<(((S1.getD J.toNat dd).ab.n:Nat):Int)) (fun h9=>?_) fun h9=>?_
 · refine fP 15 ?_ ai
   refine bY ?_ (pc (fG 96 J J.toNat S1.length i1) (pc (l4 98 J.toNat 4 1 j2 i1) (pc (pI 100 (i:Int) i (s:=(S1.getD J.toNat dd).ab) (fun w hk hr=>(fY (hr _ i2) bn (aB (i:=J.toNat) (by omega))))) (pc (pF 102 i 0 1 (s:=(S1.getD J.toNat dd).ab) (fun w hk hr=>(fY (hr _ i2) bn (aB (i:=J.toNat) (by omega))))) (pc (fG 105 J J.toNat S1.length i1) (l4 107 J.toNat 2 1 j2 i1))))))
   refine Mz ?_
   refine Md (c.aC<((S1.getD J.toNat dd).ab.at i).seq) (fun ir=>?_) fun ir=>?_
   rotate_left
   · refine Mi ?_ (pR ((i:Int)+1))
     exact bu ⟨i+1,A,c9,L⟩ ⟨by omega,by first|exact mL (s:=(S1.getD J.toNat dd).ab) (p:=(fun z:aK=>decide (z.seq≤c.aC))) hI (by omega) (decide_eq_false (by omega))|exact lz (s:=(S1.getD J.toNat dd).ab) (p:=(fun z:aK=>decide (z.seq≤c.aC))) hI (by omega) (decide_eq_true (by omega))⟩ (by show (S1.getD J.toNat dd).ab.n - (i+1)<(S1.getD J.toNat dd).ab.n - i;omega)
   refine Mi ?_ (pc (fG 112 J J.toNat S1.length i1) (pc (l4 114 J.toNat 4 1 j2 i1) (pA 116 117 (i:Int) i (s:=(S1.getD J.toNat dd).ab) (fun w hk hr=>(fY (hr _ i2) bn (aB (i:=J.toNat) (by omega)))))))
   refine M1 ?_
   refine gX (α:=aK) 40 ([(⟨((S1.getD J.toNat dd).ab.at i).seq,⟨((S1.getD J.toNat dd).ab.at i).aE.code,((S1.getD J.toNat dd).ab.at i).aE.n,((S1.getD J.toNat dd).ab.at i).aE.text⟩⟩:aK)]) ?_
   intro A5 c5
   refine Mi ?_ (pR ((i:Int)+1))
   exact bu ⟨i+1,A5,c5,L++[(⟨((S1.getD J.toNat dd).ab.at i).seq,⟨((S1.getD J.toNat dd).ab.at i).aE.code,((S1.getD J.toNat dd).ab.at i).aE.n,((S1.getD J.toNat dd).ab.at i).aE.text⟩⟩:aK)]⟩ ⟨by omega,by first|exact mL (s:=(S1.getD J.toNat dd).ab) (p:=(fun z:aK=>decide (z.seq≤c.aC))) hI (by omega) (decide_eq_false (by omega))|exact lz (s:=(S1.getD J.toNat dd).ab) (p:=(fun z:aK=>decide (z.seq≤c.aC))) hI (by omega) (decide_eq_true (by omega))⟩ (by show (S1.getD J.toNat dd).ab.n - (i+1)<(S1.getD J.toNat dd).ab.n - i;omega)
 have GB:L=(S1.getD J.toNat dd).ab.xs.filter (fun z:aK=>!decide (z.seq≤c.aC)):=by rw[hI,dE (by omega)]
 have gB:kZ (S1.getD J.toNat dd).abs c=L:=(oQ kO).trans GB.symm
 refine bk (F:=dY A c9 (L:List aK)) (fun bs w hS=>br (hS.res _ i0)) fun Au=>?_
 have De:=Au.2
 refine Mi ?_ (fG 123 J J.toNat S1.length i1)
 refine cd ?_
 refine Ms J.toNat 4 (⟨(S1.getD J.toNat dd).ag,(S1.getD J.toNat dd).id,c.aC,n+1,⟨A,c9,L⟩⟩:aa) ?_ (by omega) (hg:=j2)
 intro L6 rA Al
 have ni:L6.getD J.toNat dd=(⟨(S1.getD J.toNat dd).ag,(S1.getD J.toNat dd).id,c.aC,n+1,⟨A,c9,L⟩⟩:aa):=by rw[rA];exact bQ (by omega)
 have fM:L6=List.set S1 J.toNat (⟨(S1.getD J.toNat dd).ag,(S1.getD J.toNat dd).id,c.aC,n+1,⟨A,c9,L⟩⟩:aa):=by rw[rA,lV,List.set_set]
 refine fP 8 ?_ ai
 refine bY ?_ (pc (fG 129 J J.toNat S1.length i0) (l4 131 J.toNat 2 1 ni i0))
 refine Mz ?_
 refine Md (c.seq≤c.aC) (fun g7=>?_) fun g7=>?_
 · refine Mt [.slice A1 S1.length c1,vz 12,vb false,vi 0] fun bs w hS=>?_
   clear bu
   have hv: ¬eC n c:=by grind[eC]
   rw[←a5]
   have ha:=xZ kO g7
   have hm:=et (c:=c) kj hv (K:=J.toNat) (by show ¬aQ _ _<0;rw[hJ];omega) (by show (aQ _ _).toNat=_;rw[hJ]) h7 (fD kO gB) ha
   have gf:=dG fM
   refine⟨⟨A1,c1,L6⟩,?_,?_,hS.aO (y:=(⟨A1,c1,L6⟩:Sl aa)) (bV i0 hS.res (fun x hx=>?_))⟩
   · have jU:S1.length=L6.length:=by rw[fM,List.length_set]
     rw[hm]
     exact congrArg (fun q=>Ending.returned (.tuple #[.slice A1 q c1,vz 12,vb false,vi 0])) jU
   · exact Eq.trans gf (congrArg Prod.fst hm).symm
   · rw[fM] at hx
     rcases mem_set hx with hx|hx
     · subst hx;exact a4 i1 (hS.res _ i1) (fun z hz=>bn _ (aB (L:=S1) (i:=J.toNat) (by omega)) z (by rw[GB] at hz;exact (List.mem_filter.1 hz).1))
     · exact cY i2 hS.res bn hx
 refine Ml (σ:=Nat) (fun j=>j≤L.length∧ ∀i0,i0<j→ ¬(L.getD i0 dd).seq=c.seq) (fun j=>L.length - j) (fun j=>[ay 118 A1 c1 (L6:List aa),ay 141 A c9 (L:List aK),bI (cj 141) S1]) [15,13,12,11,7,5] (fun j=>[(15,vI (j:Int))]) (fun _=>[]) ?_ 0 ⟨Nat.zero_le _,fun i0 h0=>absurd h0 (Nat.not_lt_zero _)⟩
 rintro j ⟨Kx,hX⟩ _ j8
 refine Md ((j:Int)<(L.length:Int)) (fun jW=>?_) fun jW=>?_
 · refine fP 8 ?_ ai
   refine bY ?_ (pc (fG 143 (j:Int) j L.length i1) (lg 145 j 0 1 i1))
   refine Mz ?_
   refine Md ((L.getD j dd).seq=c.seq) (fun k7=>?_) fun k7=>?_
   rotate_left
   · refine Mi ?_ (pR ((j:Int)+1))
     exact j8 (j+1) ⟨by omega,fun i0 h0=>by rcases Nat.lt_succ_iff_lt_or_eq.1 h0 with h|h;exact hX i0 h;subst h;assumption⟩ (by show L.length - (j+1)<L.length - j;omega)
   refine cZ 10 [] [1] [ay 118 A1 c1 (L6:List aa),ay 141 A c9 (L:List aK),bI (cj 141) S1] ai ?_
   refine bY ?_ (pc (fG 152 (j:Int) j L.length i1) (lg 154 j 1 3 i1))
   refine Mz ?_
   refine Mt [.slice A1 S1.length c1,(L.getD j dd).aE.val,vb false,vi 0] fun bs w hS=>?_
   clear bu j8
   have hv: ¬eC n c:=by grind[eC]
   rw[←a5]
   have ha:=qz kO gB (kR (kd (L:=L) (p:=fun z:aK=>decide (z.seq=c.seq)) (i:=j) (by omega) (decide_eq_true k7) (fun i0 h0=>decide_eq_false (hX i0 h0)))) g7 (by omega)
   have hm:=et (c:=c) kj hv (K:=J.toNat) (by show ¬aQ _ _<0;rw[hJ];omega) (by show (aQ _ _).toNat=_;rw[hJ]) h7 (fD kO gB) ha
   have gf:=dG fM
   refine⟨⟨A1,c1,L6⟩,?_,?_,hS.aO (y:=(⟨A1,c1,L6⟩:Sl aa)) (bV i0 hS.res (fun x hx=>?_))⟩
   · have jU:S1.length=L6.length:=by rw[fM,List.length_set]
     rw[hm]
     exact congrArg (fun q=>Ending.returned (.tuple #[.slice A1 q c1,(L.getD j dd).aE.val,vb false,vi 0])) jU
   · exact Eq.trans gf (congrArg Prod.fst hm).symm
   · rw[fM] at hx
     rcases mem_set hx with hx|hx
     · subst hx;exact a4 i1 (hS.res _ i1) (fun z hz=>bn _ (aB (L:=S1) (i:=J.toNat) (by omega)) z (by rw[GB] at hz;exact (List.mem_filter.1 hz).1))
     · exact cY i2 hS.res bn hx
 refine fP 9 ?_ ai
 refine bY ?_ (pc (fG 159 J J.toNat S1.length i0) (pc (l4 161 J.toNat 2 1 ni i0) (pR (c.aC+4))))
 refine Mz ?_
 refine Md (c.aC+4<c.seq) (fun mn=>?_) fun mn=>?_
 rotate_left
 · refine Mt [.slice A1 S1.length c1,vz 0,vb true,vi 0] fun bs w hS=>?_
   clear bu j8
   have hv: ¬eC n c:=by grind[eC]
   rw[←a5]
   have ha:=tt kO gB (kR (en (L:=L) (p:=fun z:aK=>decide (z.seq=c.seq)) fun i0 h0=>decide_eq_false (hX i0 (by omega)))) g7 (by omega) mn
   have hm:=et (c:=c) kj hv (K:=J.toNat) (by show ¬aQ _ _<0;rw[hJ];omega) (by show (aQ _ _).toNat=_;rw[hJ]) h7 (fD kO gB) ha
   have gf:=dG fM
   refine⟨⟨A1,c1,L6⟩,?_,?_,hS.aO (y:=(⟨A1,c1,L6⟩:Sl aa)) (bV i0 hS.res (fun x hx=>?_))⟩
   · have jU:S1.length=L6.length:=by rw[fM,List.length_set]
     rw[hm]
     exact congrArg (fun q=>Ending.returned (.tuple #[.slice A1 q c1,vz 0,vb true,vi 0])) jU
   · exact Eq.trans gf (congrArg Prod.fst hm).symm
   · rw[fM] at hx
     rcases mem_set hx with hx|hx
     · subst hx;exact a4 i1 (hS.res _ i1) (fun z hz=>bn _ (aB (L:=S1) (i:=J.toNat) (by omega)) z (by rw[GB] at hz;exact (List.mem_filter.1 hz).1))
     · exact cY i2 hS.res bn hx
 refine Mt [.slice A1 S1.length c1,vz 2,vb false,vi 0] fun bs w hS=>?_
 clear bu j8
 have hv: ¬eC n c:=by grind[eC]
 rw[←a5]
 have ha:=tr kO gB (kR (en (L:=L) (p:=fun z:aK=>decide (z.seq=c.seq)) fun i0 h0=>decide_eq_false (hX i0 (by omega)))) g7 (by omega) mn
 have hm:=et (c:=c) kj hv (K:=J.toNat) (by show ¬aQ _ _<0;rw[hJ];omega) (by show (aQ _ _).toNat=_;rw[hJ]) h7 (fD kO gB) ha
 have gf:=dG fM
 refine⟨⟨A1,c1,L6⟩,?_,?_,hS.aO (y:=(⟨A1,c1,L6⟩:Sl aa)) (bV i0 hS.res (fun x hx=>?_))⟩
 · have jU:S1.length=L6.length:=by rw[fM,List.length_set]
   rw[hm]
   exact congrArg (fun q=>Ending.returned (.tuple #[.slice A1 q c1,vz 2,vb false,vi 0])) jU
 · exact Eq.trans gf (congrArg Prod.fst hm).symm
 · rw[fM] at hx
   rcases mem_set hx with hx|hx
   · subst hx;exact a4 i1 (hS.res _ i1) (fun z hz=>bn _ (aB (L:=S1) (i:=J.toNat) (by omega)) z (by rw[GB] at hz;exact (List.mem_filter.1 hz).1))
   · exact cY i2 hS.res bn hx
theorem vk {B B':Nat→Prop}(a b:Sl ByteArray)(w:World)(ha:a.rd B w)(hb:b.rd B' w)(he:a.xs=b.xs):Calls prog 61 #[a.val,b.val] w fun e w'=>e=.returned (vb true)∧Kp [] w w':=by
 have p9:=Sl.rd.ok ha
 have EX:=Sl.rd.ok hb
 have hn:=sS he
 have JS:=Sl.ok.nc p9
 refine M0 ?_ func61
 refine cr ((a.n:Int)=(b.n:Int)) (fun h1=>?_) fun h1=>?_
 rotate_left
 · exfalso;first|omega|exact h1 (jm he i)
 refine Ml (σ:=Nat) (fun i=>True) (fun i=>a.n - i) (fun _=>[]) [5,0,1] (fun i=>[(5,vI (i:Int))]) (fun _=>[]) ?_ 0 trivial
 rintro i _ _ bu
 have fg:=jm he i
 refine Md ((i:Int)<(a.n:Int)) (fun h2=>?_) fun h2=>?_
 rotate_left
 · exact Mt [vb true] fun bs w hS=>⟨rfl,hS.kp⟩
 refine cZ 9 [] [] [] ai ?_
 refine bY ?_ (pc (pA 19 20 (i:Int) i (db ha)) (pA 23 24 (i:Int) i (db hb)))
 refine cr ((a.at i)=(b.at i)) (fun h3=>?_) fun h3=>?_
 rotate_left
 · exfalso;first|omega|exact h3 (jm he i)
 refine Mi ?_ (pR ((i:Int)+1))
 exact bu (i+1) trivial (by omega)
theorem kl (A:Option Addr)(n c:Nat)(L:List ByteArray)(w:World)(hl:L.length=n)(nE:fx w A n (L.flatMap aR.cells))(hb:n≤1048576):Calls prog 157 #[.slice A n c] w fun e w'=> ∃y:Sl ByteArray,e=.returned y.val∧y.xs=L∧Kp [] w w'∧gC w w' (ay 9 y.A y.c y.xs):=by
 refine M0 ?_ func157
 refine Mi ?_ (pG [(4,.val (.bool A.isNone))] (oc ((eq_nil Tryz.underlying35): ∀w,(do eqGuard .eql 35 (.tmp 3) (.const vn) (.slice A n c) vn;binOp .eql 35 (.slice A n c) vn:Sem Value).run prog w=.ok (.bool A.isNone) w) on))
 refine Mb A.isNone (fun h1=>?_) fun h1=>?_
 · refine Mt [vn] fun bs w hS=>?_
   have yp:L=[]:=by cases hA:A with|none=>rw [hA] at nE;have h0:n=0:=nE;exact List.eq_nil_of_length_eq_zero (by omega)|some a=>rw [hA] at h1;cases h1
   exact⟨Sl.nil,rfl,yp.symm,hS.kp,nX 9 w⟩
 refine LN ?_ (α:=ByteArray) (e:=9)
 intro A1
 refine Ma ?_ (α:=ByteArray) (L2:=L) 16 (fun bs w hS=>(fx.kp nE hS.kp)) (hn2:=hl)
 intro A2 c2
 exact Mt [.slice A2 ([]++L).length c2] fun bs w hS=>⟨⟨A2,c2,[]++L⟩,rfl,by simp,hS.kp,hS.rF⟩
theorem sY (s:Sl ByteArray)(w:World)(hs:s.rd B w)(hb:s.n≤1048576):Calls prog 157 #[s.val] w fun e w'=> ∃y:Sl ByteArray,e=.returned y.val∧y.xs=s.xs∧Kp [] w w'∧gC w w' (ay 9 y.A y.c y.xs):=kl s.A s.n s.c s.xs w rfl hs.src hb
theorem GC {B B':Nat→Prop}(a b:dr)(w:World)(ha:aJ.sub B w a)(hb:aJ.sub B' w b)(he:a.abs=b.abs):Calls prog 53 #[a.val,b.val] w fun e w'=>e=.returned (vb true)∧Kp [] w w':=by
 have p9:=aJ.bL ha
 have EX:=aJ.bL hb
 refine M0 ?_ func53
 refine Md (a.base=b.base) (fun h1=>?_) fun h1=>?_
 rotate_left
 · exact absurd (congrArg (fun q=>q.base) he) h1
 refine Mp ?_ call61 (fun bs w hS=>vk _ _ w (aJ.kp ha hS.kp) (aJ.kp hb hS.kp) (congrArg iy.entries he))
 exact Mt [vb true] fun bs w hS=>⟨rfl,hS.kp⟩
theorem Df (x:dr)(n:Int)(w:World)(hx:aJ.sub B w x):Calls prog 206 #[x.val,vi n] w fun e w'=> ∃y:dr,e=.returned (.tuple #[y.val,vi (gW x.abs n).2])∧y.abs=(gW x.abs n).1∧bJ w w' y:=by
 have cC:=aJ.bL hx
 have mq:=Sl.ok.nc cC
 have mr:x.entries.n=x.entries.xs.length:=rfl
 have yr:cD x.abs=x.base+(x.entries.n:Int):=rfl
 have q1:x.abs.base=x.base:=rfl
 have q2:x.abs.entries=x.entries.xs:=rfl
 have fg: ∀q,x.entries.xs.getD q dd=x.entries.at q:=fun _=>rfl
 refine M0 ?_ func206
 refine Mp ?_ call110 (fun bs w hS=>o6 x w (aJ.kp hx hS.kp))
 refine cr (cT x.abs=0) (fun h1=>?_) fun h1=>?_
 rotate_left
 · have hm:gW x.abs n=(iI,cT x.abs):=by grind[gW]
   exact eE hm ⟨0,Sl.nil⟩ rfl fun bs w hS=>hS.aO (y:=(⟨0,Sl.nil⟩:dr)) (Sl.ao _ _)
 obtain⟨gU,gT,jB,nH⟩:=eb h1
 rw[q1] at gU gT
 rw[q2] at jB
 refine Md (n<x.base) (fun h2=>?_) fun h2=>?_
 · have hm:gW x.abs n=(iI,2):=by grind[gW]
   exact eE hm ⟨0,Sl.nil⟩ rfl fun bs w hS=>hS.aO (y:=(⟨0,Sl.nil⟩:dr)) (Sl.ao _ _)
 refine Mp ?_ call49 (fun bs w hS=>gQ x w (aJ.kp hx hS.kp) (by first|exact⟨by omega,by omega,by omega⟩|omega))
 refine Md (x.base+(x.entries.n:Int)<n) (fun h3=>?_) fun h3=>?_
 · have hm:gW x.abs n=(iI,2):=by grind[gW]
   exact eE hm ⟨0,Sl.nil⟩ rfl fun bs w hS=>hS.aO (y:=(⟨0,Sl.nil⟩:dr)) (Sl.ao _ _)
 refine Md ((1073741424:Int)<n) (fun h4=>?_) fun h4=>?_
 · have hm:gW x.abs n=(iI,8):=by grind[gW]
   exact eE hm ⟨0,Sl.nil⟩ rfl fun bs w hS=>hS.aO (y:=(⟨0,Sl.nil⟩:dr)) (Sl.ao _ _)
 refine Mi ?_ (pc (pR (n - x.base)) (pG [(34,.sl (n - x.base).toNat x.entries.n)] (oc ((by omega):n - x.base=(((n - x.base).toNat:Nat):Int)) (oc (rfl:x.entries.n=x.entries.n) (oc ((by omega):(n - x.base).toNat≤x.entries.n) on)))))
 refine Mf ?_ (vs:=fun bs=>[.slice (if x.entries.c=(n - x.base).toNat then x.entries.A else x.entries.A.map (·.add ((n - x.base).toNat*1))) (x.entries.n - (n - x.base).toNat) (x.entries.c - (n - x.base).toNat)]) call157 (fun bs w hS=>kl _ _ _ (x.entries.xs.drop (n - x.base).toNat) w (show (x.entries.xs.drop (n - x.base).toNat).length=x.entries.n - (n - x.base).toNat from List.length_drop ..) (Sl.rd.oJ (s:=x.entries) (aJ.kp hx hS.kp) (by omega)) (by omega))
 rintro y1 a5
 refine Mt [.agg #[vi n,y1.val],vi 0] fun bs w hS=>?_
 have hm:gW x.abs n=(⟨n,x.entries.xs.drop (n - x.base).toNat⟩,0):=by grind[gW]
 have my: ∀z,z∈y1.xs→z.size≤9223372036854775807:=fun z hz=>Sl.rd.mem (s:=x.entries) hx z (List.mem_of_mem_drop (a5▸hz))
 refine⟨⟨n,⟨y1.A,y1.c,y1.xs⟩⟩,?_,?_,hS.aO (y:=(⟨n,⟨y1.A,y1.c,y1.xs⟩⟩:dr)) (a4 i0 (hS.res _ i0) my)⟩
 · rw[hm];rfl
 · rw[hm];simp[dr.abs,a5]
theorem Et (x:dr)(n:Int)(w:World)(hx:aJ.sub B w x):Calls prog 184 #[x.val,vi n] w fun e w'=> ∃y:dr,e=.returned (.tuple #[y.val,vi (gW x.abs n).2])∧y.abs=(gW x.abs n).1∧bJ w w' y:=by
 have cC:=aJ.bL hx
 have mq:=Sl.ok.nc cC
 have mr:x.entries.n=x.entries.xs.length:=rfl
 have yr:cD x.abs=x.base+(x.entries.n:Int):=rfl
 have q1:x.abs.base=x.base:=rfl
 have q2:x.abs.entries=x.entries.xs:=rfl
 have fg: ∀q,x.entries.xs.getD q dd=x.entries.at q:=fun _=>rfl
 refine M0 ?_ func184
 refine Mp ?_ call113 (fun bs w hS=>lh x w (aJ.kp hx hS.kp))
 refine cZ 11 [] [] [] ai ?_
 refine Md (cT x.abs=0) (fun h1=>?_) fun h1=>?_
 rotate_left
 · refine My false false ?_ (df h1)
   refine My false true ?_ (df h1)
   have hm:gW x.abs n=(iI,cT x.abs):=by grind[gW]
   exact eE hm ⟨0,Sl.nil⟩ rfl fun bs w hS=>hS.aO (y:=(⟨0,Sl.nil⟩:dr)) (Sl.ao _ _)
 obtain⟨gU,gT,jB,nH⟩:=eb h1
 rw[q1] at gU gT
 rw[q2] at jB
 refine Mp ?_ call52 (fun bs w hS=>dD x w (aJ.kp hx hS.kp) (by first|exact⟨by omega,by omega,by omega⟩|omega))
 refine Mp ?_ call51 (fun bs w hS=>b6 n x.base (x.base+(x.entries.n:Int)) w)
 refine fL (gk n x.base (x.base+(x.entries.n:Int))) (fun h2=>?_) fun h2=>?_
 rotate_left
 · simp only[iT,iF] at h2
   refine Mq 22 false ?_ rfl
   refine Mq 27 true ?_ rfl
   have hm:gW x.abs n=(iI,2):=by grind[gW]
   exact eE hm ⟨0,Sl.nil⟩ rfl fun bs w hS=>hS.aO (y:=(⟨0,Sl.nil⟩:dr)) (Sl.ao _ _)
 simp only[iT,iF] at h2
 refine My true false ?_ (dt h1)
 refine Md ((1073741424:Int)<n) (fun h4=>?_) fun h4=>?_
 · refine Mq 27 true ?_ rfl
   have hm:gW x.abs n=(iI,8):=by grind[gW]
   exact eE hm ⟨0,Sl.nil⟩ rfl fun bs w hS=>hS.aO (y:=(⟨0,Sl.nil⟩:dr)) (Sl.ao _ _)
 refine My true true ?_ (dt h1)
 refine Mi ?_ (pc (pR (n - x.base)) (pG [(37,.sl (n - x.base).toNat x.entries.n)] (oc ((by omega):n - x.base=(((n - x.base).toNat:Nat):Int)) (oc (rfl:x.entries.n=x.entries.n) (oc ((by omega):(n - x.base).toNat≤x.entries.n) on)))))
 refine bU (α:=ByteArray) 9 ?_
 refine Ma ?_ (α:=ByteArray) (L2:=x.entries.xs.drop (n - x.base).toNat) 16 (fun bs w hS=>Sl.rd.oJ (s:=x.entries) (aJ.kp hx hS.kp) (by omega)) (hn2:=(List.length_drop ..))
 intro A1 c1
 refine Mt [.agg #[vi n,.slice A1 ([]++x.entries.xs.drop (n - x.base).toNat).length c1],vi 0] fun bs w hS=>?_
 have hm:gW x.abs n=(⟨n,x.entries.xs.drop (n - x.base).toNat⟩,0):=by grind[gW]
 have my: ∀z,z∈[]++x.entries.xs.drop (n - x.base).toNat→z.size≤9223372036854775807:=fun z hz=>Sl.rd.mem (s:=x.entries) hx z (List.mem_of_mem_drop (by simpa using hz))
 refine⟨⟨n,⟨A1,c1,[]++x.entries.xs.drop (n - x.base).toNat⟩⟩,?_,?_,hS.aO (y:=(⟨n,⟨A1,c1,[]++x.entries.xs.drop (n - x.base).toNat⟩⟩:dr)) (a4 i0 (hS.res _ i0) my)⟩
 · rw[hm];rfl
 · rw[hm];simp[dr.abs]
theorem ij (s:ByteArray)(w:World)(hs:s.size≤9223372036854775807):Calls prog 215 #[vs s] w fun e w'=>e=.returned (vs (bj s))∧Kp [] w w':=by
 refine M0 ?_ func215
 refine Mp ?_ call213 (fun bs w hS=>mm _ w (by first|assumption|omega|(simp only[aL];omega)))
 exact Mt [vs (gr s).1] fun bs w hS=>⟨rfl,hS.kp⟩
theorem fh (s:Sl Int)(w:World)(hs:s.rd B w)(hb:s.n≤1048576):Calls prog 214 #[s.val] w fun e w'=>e=.returned (vs (bc s.xs))∧Kp [] w w':=by
 have cV:=Sl.rd.ok hs
 have iV:=Sl.ok.nc cV
 have iW:s.n=s.xs.length:=rfl
 refine M0 ?_ func214
 refine Ml (σ:=Nat×ByteArray) (fun⟨i,u⟩=>i≤s.n∧u=bc (s.xs.take i)∧u.size≤6*i) (fun⟨i,u⟩=>s.n - i) (fun _=>[]) [4,3,0] (fun⟨i,u⟩=>[(4,vI (i:Int)),(3,vS u)]) (fun _=>[]) ?_ (⟨0,emp⟩) ⟨Nat.zero_le _,rfl,Nat.zero_le _⟩
 rintro⟨i,u⟩ ⟨hi,hI,hz⟩ _ bu
 have Su:=eB (s.at i)
 refine Md ((i:Int)<(s.n:Int)) (fun h1=>?_) fun h1=>?_
 rotate_left
 · refine Mt [vs u] fun bs w hS=>?_
   refine⟨?_,hS.kp⟩
   rw[hI]
   unfold bc
   rw[DF _ _ s.xs (by omega)]
   rfl
 refine Mi ?_ (pA 16 17 (i:Int) i (db hs))
 refine Mp ?_ call212 (fun bs w hS=>kS (s.at i) w)
 refine Mi ?_ (pc (pP (u.size+(cf (s.at i)).1.size≤9223372036854775807)) (pR ((i:Int)+1)))
 exact bu ⟨i+1,u++(cf (s.at i)).1⟩ ⟨by show i+1≤s.n;omega,by rw[hI];exact uk (i:=i) (l:=s.xs) (by omega),by show (u++_).size≤6*(i+1);rw[ByteArray.size_append];omega⟩ (by show s.n - (i+1)<s.n - i;omega)
theorem o7 (x s:ByteArray)(b:Nat)(w:World)(hb:(bh b 254 [vs x]).p w)(hs:s.size≤9223372036854775807)(hx:x.size≤4611686018427387904):Calls prog 231 #[.pointer (some ⟨b,0,none⟩),vs s] w fun e w'=> ∃_:Unit,e=.returned (.tuple #[])∧True∧Kp [b] w w'∧(bh b 254 [vs (x++bj s)]).p w':=by
 refine Mj ?_ func231 (WS.eG w _ hb (by simp[bh]) (gm hb))
 refine Mp ?_ call229 (fun bs w hS=>uZ _ w (by first|assumption|omega|(simp only[aL];omega)))
 refine Mi ?_ (pc (nI 14 0 1 i0) (pP (x.size+(gr s).1.size≤9223372036854775807) (by have:=cE s;unfold bj at this;omega)))
 refine ry 0 [vs (x++(gr s).1)] ?_
 exact Mt [] fun bs w hS=>⟨(),rfl,trivial,hS.kp,hS.res _ i0⟩
theorem gg (x:ByteArray)(s:Sl Int)(b:Nat)(w:World)(hb:(bh b 254 [vs x]).p w)(hs:s.rd B w)(NL:s.n≤1048576)(hx:x.size≤4611686018427387904):Calls prog 230 #[.pointer (some ⟨b,0,none⟩),s.val] w fun e w'=> ∃_:Unit,e=.returned (.tuple #[])∧True∧Kp [b] w w'∧(bh b 254 [vs (x++bc s.xs)]).p w':=by
 have cV:=Sl.rd.ok hs
 have iV:=Sl.ok.nc cV
 have iW:s.n=s.xs.length:=rfl
 have Ij:=Fz hs hb
 refine Mj ?_ func230 (WS.eG w _ hb (by simp[bh]) (gm hb))
 refine Ml (σ:=Nat×ByteArray) (fun⟨i,u⟩=>i≤s.n∧u=x++bc (s.xs.take i)∧u.size≤x.size+6*i) (fun⟨i,u⟩=>s.n - i) (fun⟨i,u⟩=>[bh b 254 [vs u]]) [10,9,8,0] (fun⟨i,u⟩=>[(10,vI (i:Int))]) (fun _=>[]) ?_ (⟨0,x⟩) ⟨Nat.zero_le _,(uj x).symm,Nat.le_refl _⟩
 rintro⟨i,u⟩ ⟨hi,hI,hz⟩ _ bu
 have Su:=eB (s.at i)
 refine Md ((i:Int)<(s.n:Int)) (fun h1=>?_) fun h1=>?_
 rotate_left
 · refine Mt [] fun bs w hS=>?_
   refine⟨(),rfl,trivial,hS.kp,?_⟩
   have hu:u=x++bc s.xs:=by rw[hI,List.take_of_length_le (by omega)]
   rw[←hu]
   exact hS.res _ i0
 refine Mi ?_ (pA 12 13 (i:Int) i (s:=s) (fun w hk hr=>(Sl.rd.stay Ij fun q hq dX=>hk.block q dX (by simpa[bh] using hq))))
 refine Mp ?_ call228 (fun bs w hS=>nf (s.at i) w)
 refine Mi ?_ (pc (nI 22 0 1 i0) (pP (u.size+(cf (s.at i)).1.size≤9223372036854775807)))
 refine ry 0 [vs (u++(cf (s.at i)).1)] ?_
 refine Mi ?_ (pR ((i:Int)+1))
 exact bu ⟨i+1,u++(cf (s.at i)).1⟩ ⟨by show i+1≤s.n;omega,by rw[hI,ByteArray.append_assoc];exact congrArg _ (uk (i:=i) (l:=s.xs) (by omega)),by show (u++_).size≤x.size+6*(i+1);rw[ByteArray.size_append];omega⟩ (by show s.n - (i+1)<s.n - i;omega)
theorem vl (s:ByteArray)(w:World)(hs:s.size≤9223372036854775807):Calls prog 198 #[vs s] w fun e w'=>e=.returned (vs (gE s))∧Kp [] w w':=by
 refine M0 ?_ func198
 refine Ml (σ:=Nat) (fun k=>k≤s.size) (fun k=>s.size - k) (fun _=>[]) [8,7,4,3,0] (fun k=>[(8,vI (k:Int)),(4,vI (b7 s k).2),(3,vI (b7 s k).1)]) (fun _=>[]) ?_ 0 (Nat.zero_le _)
 rintro k hk _ bu
 have hb:=wx s k
 have hu:=(s.data.getD k 0).toNat_lt
 refine Md ((k:Int)<(s.size:Int)) (fun h1=>?_) fun h1=>?_
 rotate_left
 · refine Mi ?_ (pc (pP ((0:Int)≤8)) (pc (pP (8≤(64:Int))) (pc (pP ((0:Int)≤8)) (pP (8≤(64:Int))))))
   refine M1 ?_
   refine DS (eS:=5) [((b7 s k).2 / 2 ^ (8:Int).toNat) % 256,(b7 s k).2 % 256,((b7 s k).1 / 2 ^ (8:Int).toNat) % 256,(b7 s k).1 % 256] ?_
   refine Mt [vs (cP ([((b7 s k).2 / 2 ^ (8:Int).toNat) % 256,(b7 s k).2 % 256,((b7 s k).1 / 2 ^ (8:Int).toNat) % 256,(b7 s k).1 % 256]))] fun bs w hS=>?_
   refine⟨?_,hS.kp⟩
   have e:k=s.size:=by omega
   subst e
   simp[bO,den,gE]
 refine Mi ?_ (pc (pG [(14,.qf k)] (oc (rfl:(k:Int)=(k:Int)) (oc ((by omega):k<s.size) on))) (pc (pP (0≤((s.data.getD k 0).toNat:Int))) (pc (pP (((s.data.getD k 0).toNat:Int)≤255)) (pc (pR ((b7 s k).1+((s.data.getD k 0).toNat:Int))) (pc (pP (0≤(b7 s k).1+((s.data.getD k 0).toNat:Int))) (pc (pP ((0:Int)<65521)) (pc (pR ((b7 s k).2+(((b7 s k).1+((s.data.getD k 0).toNat:Int)) % 65521))) (pc (pP (0≤(b7 s k).2+(((b7 s k).1+((s.data.getD k 0).toNat:Int)) % 65521))) (pc (pP ((0:Int)<65521)) (pR ((k:Int)+1)))))))))))
 exact bu (k+1) (by omega) (by omega)
theorem vm (s:ByteArray)(w:World)(hs:s.size≤9223372036854775807):Calls prog 158 #[vs s] w fun e w'=>e=.returned (vs (gE s))∧Kp [] w w':=by
 refine M0 ?_ func158
 refine Ml (σ:=Nat) (fun k=>k≤s.size) (fun k=>s.size - k) (fun _=>[]) [5,4,3,0] (fun k=>[(5,vI (k:Int)),(4,vI (b7 s k).2),(3,vI (b7 s k).1)]) (fun _=>[]) ?_ 0 (Nat.zero_le _)
 rintro k hk _ bu
 have hb:=wx s k
 have hu:=(s.data.getD k 0).toNat_lt
 refine Md ((k:Int)<(s.size:Int)) (fun h1=>?_) fun h1=>?_
 · refine Mi ?_ (pc (pG [(15,.qf k)] (oc (rfl:(k:Int)=(k:Int)) (oc ((by omega):k<s.size) on))) (pc (pP (0≤((s.data.getD k 0).toNat:Int))) (pc (pP (((s.data.getD k 0).toNat:Int)≤255)) (pc (pR ((b7 s k).1+((s.data.getD k 0).toNat:Int))) (pc (pP (0≤(b7 s k).1+((s.data.getD k 0).toNat:Int))) (pc (pP ((0:Int)<65521)) (pc (pR ((b7 s k).2+(((b7 s k).1+((s.data.getD k 0).toNat:Int)) % 65521))) (pc (pP (0≤(b7 s k).2+(((b7 s k).1+((s.data.getD k 0).toNat:Int)) % 65521))) (pc (pP ((0:Int)<65521)) (pR ((k:Int)+1)))))))))))
   exact bu (k+1) (by omega) (by omega)
 refine Mi ?_ (pc (pP (0≤(b7 s k).2)) (pc (pP ((b7 s k).2≤9223372036854775807)) (pc (pP ((0:Int)<256)) (pc (pP (0≤(b7 s k).2)) (pc (pP ((0:Int)<256)) (pc (pP (0≤(b7 s k).1)) (pc (pP ((b7 s k).1≤9223372036854775807)) (pc (pP ((0:Int)<256)) (pc (pP (0≤(b7 s k).1)) (pP ((0:Int)<256)))))))))))
 refine M1 ?_
 refine DS (eS:=5) [((b7 s k).2 / 256) % 256,((b7 s k).2 % 256) % 256,((b7 s k).1 / 256) % 256,((b7 s k).1 % 256) % 256] ?_
 refine Mt [vs (cP ([((b7 s k).2 / 256) % 256,((b7 s k).2 % 256) % 256,((b7 s k).1 / 256) % 256,((b7 s k).1 % 256) % 256]))] fun bs w hS=>?_
 refine⟨?_,hS.kp⟩
 have e:k=s.size:=by omega
 subst e
 simp[bO,den,gE]
theorem v5 (s:aN)(w:World)(hs:aJ.sub B w s):Calls prog 185 #[s.val] w fun e w'=>e=.returned (.tuple #[vs (gH s.abs).1,vi (gH s.abs).2])∧Kp [] w w':=by
 have Sv:emp.size=0:=rfl
 have cC:=aJ.bL hs
 have cV:=cC.1
 have OV:=cC.2.1
 have OW:=cC.2.2
 have iV:=Sl.ok.nc cV
 have Sw:=Sl.ok.nc OV
 have Sx:=Sl.ok.nc OW
 have iW:s.aj.n=s.aj.xs.length:=rfl
 have Sy:s.an.n=s.an.xs.length:=rfl
 have lr:s.af.n=s.af.xs.length:=rfl
 have gB:s.abs.aj.length=s.aj.n:=List.length_map _
 have OX:s.abs.an.length=s.an.n:=rfl
 have hle:s.abs.af.length=s.af.n:=List.length_map _
 have KJ: ∀q,s.abs.aj.getD q default=(s.aj.at q).abs:=fun q=>pD q
 have Sz: ∀q,s.abs.an.getD q default=s.an.at q:=fun _=>rfl
 have MH: ∀q,s.abs.af.getD q default=(s.af.at q).abs:=fun q=>lb q
 refine M0 ?_ func185
 refine Mp ?_ call30 (fun bs w hS=>jR s w (aJ.kp hs hS.kp))
 refine cr (bA s.abs=0) (fun h1=>?_) fun h1=>?_
 rotate_left
 · refine Mt [ve,vi (bA s.abs)] fun bs w hS=>?_
   refine⟨?_,hS.kp⟩
   unfold gH
   rw[if_neg (by assumption)]
   rfl
 have xx:=mJ (x:=s.abs) (by assumption)
 have gU:=xx.1
 have gT:=xx.2.1
 have jB:=xx.2.2.1
 have nH: ∀q,(s.aj.at q).line.n≤3:=fun q=>by
   by_cases hq:q<s.aj.n
   · have:=xx.2.2.2.1 q (by rw[gB];exact hq);rw[KJ] at this;exact this
   · rw[xU hq];show 0≤3;omega
 have u9: ∀q,(s.af.at q).ab.n≤4:=fun q=>by
   by_cases hq:q<s.af.n
   · have:=xx.2.2.2.2 q (by rw[hle];exact hq);rw[MH] at this;exact this
   · rw[xU hq];show 0≤4;omega
 refine M1 ?_
 have OY:=bP [(s.index:Int),((s.aj.n:Int):Int)]
 simp only[List.length_cons,List.length_nil] at OY
 refine Mp ?_ (v:=vs (bc [(s.index:Int),((s.aj.n:Int):Int)])) call214 (fun bs w hS=>fh (⟨some ⟨bs.getD 1 0,0,none⟩,2,[(s.index:Int),((s.aj.n:Int):Int)]⟩:Sl Int) w (eM [(s.index:Int),((s.aj.n:Int):Int)] (hS.loc 1 ⟨3,[vI s.index,vI (s.aj.n:Int)]⟩ (by kernel_rfl) (by simp)) (by simp)) (by show 2≤1048576;omega))
 have JW:(bc [(s.index:Int),((s.aj.n:Int):Int)]).size≤40:=by first|omega|(simp only[ByteArray.size_append];omega)
 generalize LX:bc [(s.index:Int),((s.aj.n:Int):Int)]=z0 at JW⊢
 refine Ml (σ:=Nat×ByteArray) (fun⟨i0,u0⟩=>i0≤s.aj.n∧u0=(s.abs.aj.take i0).foldl kY z0∧u0.size≤40+i0*5100) (fun⟨i0,u0⟩=>s.aj.n - i0) (fun _=>[]) [5,6,1] (fun⟨i0,u0⟩=>[(5,vS u0),(6,vI (i0:Int))]) (fun _=>[]) ?_ (⟨0,z0⟩) ⟨Nat.zero_le _,rfl,by show z0.size≤40+0*5100;omega⟩
 rintro⟨i0,u0⟩ ⟨EY,KK,OZ⟩ _ bu
 have O0:=nH i0
 have O1:(s.aj.at i0).line.xs.length≤3:=nH i0
 refine Md ((i0:Int)<(s.aj.n:Int)) (fun h2=>?_) fun h2=>?_
 · refine Mi ?_ (pA 35 36 (i0:Int) i0 (s:=s.aj) (fun w hk hr=>(aJ.kp hs hk).1))
   refine cZ 20 [] [] [] ai ?_
   refine tu ?_ ?_
   · have SA:=cE (s.aj.at i0).name
     refine Mp ?_ call215 (fun bs w hS=>ij _ w (Sl.ok.at (s:=s.aj) (i:=i0) cC.1 (by omega)).1)
     refine bY ?_ (pP (u0.size+(bj (s.aj.at i0).name).size≤9223372036854775807) (by first|omega|(simp only[ByteArray.size_append];omega)))
     refine M1 ?_
     have O2:=bP [((s.aj.at i0).ar:Int),((s.aj.at i0).aA:Int),((((s.aj.at i0).line.n:Nat):Int):Int)]
     simp only[List.length_cons,List.length_nil] at O2
     refine Mp ?_ (v:=vs (bc [((s.aj.at i0).ar:Int),((s.aj.at i0).aA:Int),((((s.aj.at i0).line.n:Nat):Int):Int)])) call214 (fun bs w hS=>fh (⟨some ⟨bs.getD 3 0,0,none⟩,3,[((s.aj.at i0).ar:Int),((s.aj.at i0).aA:Int),((((s.aj.at i0).line.n:Nat):Int):Int)]⟩:Sl Int) w (eM [((s.aj.at i0).ar:Int),((s.aj.at i0).aA:Int),((((s.aj.at i0).line.n:Nat):Int):Int)] (hS.loc 3 ⟨3,[vI (s.aj.at i0).ar,vI (s.aj.at i0).aA,vI (((s.aj.at i0).line.n:Nat):Int)]⟩ (by kernel_rfl) (by simp)) (by simp)) (by show 3≤1048576;omega))
     refine bY ?_ (pP ((u0++(bj (s.aj.at i0).name)).size+(bc [((s.aj.at i0).ar:Int),((s.aj.at i0).aA:Int),((((s.aj.at i0).line.n:Nat):Int):Int)]).size≤9223372036854775807) (by first|omega|(simp only[ByteArray.size_append];omega)))
     have SB:=bP (s.aj.at i0).line.xs
     refine Mp ?_ call214 (fun bs w hS=>fh (s.aj.at i0).line w (Sl.rd.sub (s:=s.aj) (i:=i0) (aJ.kp hs hS.kp).1 (by omega)).2 (by omega))
     refine bY ?_ (pP (((u0++(bj (s.aj.at i0).name))++(bc [((s.aj.at i0).ar:Int),((s.aj.at i0).aA:Int),((((s.aj.at i0).line.n:Nat):Int):Int)])).size+(bc (s.aj.at i0).line.xs).size≤9223372036854775807) (by first|omega|(simp only[ByteArray.size_append];omega)))
     refine Mi ?_ (pR ((i0:Int)+1))
     have GD:((u0++(bj (s.aj.at i0).name))++(bc [((s.aj.at i0).ar:Int),((s.aj.at i0).aA:Int),((((s.aj.at i0).line.n:Nat):Int):Int)]))++(bc (s.aj.at i0).line.xs)=kY u0 (s.abs.aj.getD i0 default):=by
       rw[KJ];rfl
     have GF:(((u0++(bj (s.aj.at i0).name))++(bc [((s.aj.at i0).ar:Int),((s.aj.at i0).aA:Int),((((s.aj.at i0).line.n:Nat):Int):Int)]))++(bc (s.aj.at i0).line.xs)).size≤40+(i0+1)*5100:=by simp only[ByteArray.size_append];omega
     exact bu ⟨i0+1,((u0++(bj (s.aj.at i0).name))++(bc [((s.aj.at i0).ar:Int),((s.aj.at i0).aA:Int),((((s.aj.at i0).line.n:Nat):Int):Int)]))++(bc (s.aj.at i0).line.xs)⟩ ⟨by show i0+1≤s.aj.n;omega,by show _=(s.abs.aj.take (i0+1)).foldl kY z0;rw[GD,KK];exact (eo (i:=i0) _ _ s.abs.aj (by omega)).symm,GF⟩ (by show s.aj.n - (i0+1)<s.aj.n - i0;omega)
   refine M1 ?_
   have SC:=cE (s.aj.at i0).name
   refine Mp ?_ call215 (fun bs w hS=>ij _ w (Sl.ok.at (s:=s.aj) (i:=i0) cC.1 (by omega)).1)
   refine bY ?_ (pP (u0.size+(bj (s.aj.at i0).name).size≤9223372036854775807) (by first|omega|(simp only[ByteArray.size_append];omega)))
   have O3:=bP [((s.aj.at i0).ar:Int),((s.aj.at i0).aA:Int),((((s.aj.at i0).line.n:Nat):Int):Int)]
   simp only[List.length_cons,List.length_nil] at O3
   refine Mp ?_ (v:=vs (bc [((s.aj.at i0).ar:Int),((s.aj.at i0).aA:Int),((((s.aj.at i0).line.n:Nat):Int):Int)])) call214 (fun bs w hS=>fh (⟨some ⟨bs.getD 3 0,0,none⟩,3,[((s.aj.at i0).ar:Int),((s.aj.at i0).aA:Int),((((s.aj.at i0).line.n:Nat):Int):Int)]⟩:Sl Int) w (eM [((s.aj.at i0).ar:Int),((s.aj.at i0).aA:Int),((((s.aj.at i0).line.n:Nat):Int):Int)] (hS.loc 3 ⟨3,[vI (s.aj.at i0).ar,vI (s.aj.at i0).aA,vI (((s.aj.at i0).line.n:Nat):Int)]⟩ (by kernel_rfl) (by simp)) (by simp)) (by show 3≤1048576;omega))
   refine bY ?_ (pP ((u0++(bj (s.aj.at i0).name)).size+(bc [((s.aj.at i0).ar:Int),((s.aj.at i0).aA:Int),((((s.aj.at i0).line.n:Nat):Int):Int)]).size≤9223372036854775807) (by first|omega|(simp only[ByteArray.size_append];omega)))
   have SD:=bP (s.aj.at i0).line.xs
   refine Mp ?_ call214 (fun bs w hS=>fh (s.aj.at i0).line w (Sl.rd.sub (s:=s.aj) (i:=i0) (aJ.kp hs hS.kp).1 (by omega)).2 (by omega))
   refine bY ?_ (pP (((u0++(bj (s.aj.at i0).name))++(bc [((s.aj.at i0).ar:Int),((s.aj.at i0).aA:Int),((((s.aj.at i0).line.n:Nat):Int):Int)])).size+(bc (s.aj.at i0).line.xs).size≤9223372036854775807) (by first|omega|(simp only[ByteArray.size_append];omega)))
   refine Mi ?_ (pR ((i0:Int)+1))
   have GD:((u0++(bj (s.aj.at i0).name))++(bc [((s.aj.at i0).ar:Int),((s.aj.at i0).aA:Int),((((s.aj.at i0).line.n:Nat):Int):Int)]))++(bc (s.aj.at i0).line.xs)=kY u0 (s.abs.aj.getD i0 default):=by
     rw[KJ];rfl
   have GF:(((u0++(bj (s.aj.at i0).name))++(bc [((s.aj.at i0).ar:Int),((s.aj.at i0).aA:Int),((((s.aj.at i0).line.n:Nat):Int):Int)]))++(bc (s.aj.at i0).line.xs)).size≤40+(i0+1)*5100:=by simp only[ByteArray.size_append];omega
   exact bu ⟨i0+1,((u0++(bj (s.aj.at i0).name))++(bc [((s.aj.at i0).ar:Int),((s.aj.at i0).aA:Int),((((s.aj.at i0).line.n:Nat):Int):Int)]))++(bc (s.aj.at i0).line.xs)⟩ ⟨by show i0+1≤s.aj.n;omega,by show _=(s.abs.aj.take (i0+1)).foldl kY z0;rw[GD,KK];exact (eo (i:=i0) _ _ s.abs.aj (by omega)).symm,GF⟩ (by show s.aj.n - (i0+1)<s.aj.n - i0;omega)
 refine M1 ?_
 have O4:=bP [((s.an.n:Int):Int)]
 simp only[List.length_cons,List.length_nil] at O4
 refine Mp ?_ (v:=vs (bc [((s.an.n:Int):Int)])) call214 (fun bs w hS=>fh (⟨some ⟨bs.getD 2 0,0,none⟩,1,[((s.an.n:Int):Int)]⟩:Sl Int) w (eM [((s.an.n:Int):Int)] (hS.loc 2 ⟨3,[vI (s.an.n:Int)]⟩ (by kernel_rfl) (by simp)) (by simp)) (by show 1≤1048576;omega))
 refine Mi ?_ (pP (u0.size+(bc [((s.an.n:Int):Int)]).size≤9223372036854775807) (by first|omega|(simp only[ByteArray.size_append];omega)))
 have JX:(u0++(bc [((s.an.n:Int):Int)])).size≤30000:=by first|omega|(simp only[ByteArray.size_append];omega)
 generalize KG:u0++(bc [((s.an.n:Int):Int)])=z1 at JX⊢
 refine Ml (σ:=Nat×ByteArray) (fun⟨i1,u1⟩=>i1≤s.an.n∧u1=(s.an.xs.take i1).foldl kD z1∧u1.size≤30000+i1*10100) (fun⟨i1,u1⟩=>s.an.n - i1) (fun _=>[]) [5,8,1] (fun⟨i1,u1⟩=>[(5,vS u1),(8,vI (i1:Int))]) (fun _=>[]) ?_ (⟨0,z1⟩) ⟨Nat.zero_le _,rfl,by show z1.size≤30000+0*10100;omega⟩
 rintro⟨i1,u1⟩ ⟨wm,JY,O5⟩ _ j8
 refine Md ((i1:Int)<(s.an.n:Int)) (fun h3=>?_) fun h3=>?_
 · refine cZ 27 [] [] [] ai ?_
   refine bY ?_ (pc (pI 74 (i1:Int) i1 (s:=s.an) (fun w hk hr=>(aJ.kp hs hk).2.1)) (pc (pF 76 i1 0 1 (s:=s.an) (fun w hk hr=>(aJ.kp hs hk).2.1)) (pc (pI 82 (i1:Int) i1 (s:=s.an) (fun w hk hr=>(aJ.kp hs hk).2.1)) (pc (pF 84 i1 1 1 (s:=s.an) (fun w hk hr=>(aJ.kp hs hk).2.1)) (pc (pI 90 (i1:Int) i1 (s:=s.an) (fun w hk hr=>(aJ.kp hs hk).2.1)) (pF 92 i1 2 1 (s:=s.an) (fun w hk hr=>(aJ.kp hs hk).2.1)))))))
   refine tu ?_ ?_
   · have SE:=cE (s.an.at i1).name
     refine Mp ?_ call215 (fun bs w hS=>ij _ w (Sl.ok.at (s:=s.an) (i:=i1) cC.2.1 (by omega)).1)
     refine bY ?_ (pP (u1.size+(bj (s.an.at i1).name).size≤9223372036854775807) (by first|omega|(simp only[ByteArray.size_append];omega)))
     refine tu ?_ ?_
     · have QW:=cE (s.an.at i1).value
       refine Mp ?_ call215 (fun bs w hS=>ij _ w (Sl.ok.at (s:=s.an) (i:=i1) cC.2.1 (by omega)).2)
       refine bY ?_ (pP ((u1++(bj (s.an.at i1).name)).size+(bj (s.an.at i1).value).size≤9223372036854775807) (by first|omega|(simp only[ByteArray.size_append];omega)))
       refine M1 ?_
       have MI:=bP [((s.an.at i1).version:Int)]
       simp only[List.length_cons,List.length_nil] at MI
       refine Mp ?_ (v:=vs (bc [((s.an.at i1).version:Int)])) call214 (fun bs w hS=>fh (⟨some ⟨bs.getD 3 0,0,none⟩,1,[((s.an.at i1).version:Int)]⟩:Sl Int) w (eM [((s.an.at i1).version:Int)] (hS.loc 3 ⟨3,[vI (s.an.at i1).version]⟩ (by kernel_rfl) (by simp)) (by simp)) (by show 1≤1048576;omega))
       refine bY ?_ (pP (((u1++(bj (s.an.at i1).name))++(bj (s.an.at i1).value)).size+(bc [((s.an.at i1).version:Int)]).size≤9223372036854775807) (by first|omega|(simp only[ByteArray.size_append];omega)))
       refine Mi ?_ (pR ((i1:Int)+1))
       have B6:((u1++(bj (s.an.at i1).name))++(bj (s.an.at i1).value))++(bc [((s.an.at i1).version:Int)])=kD u1 (s.an.xs.getD i1 default):=by
         rfl
       have B7:(((u1++(bj (s.an.at i1).name))++(bj (s.an.at i1).value))++(bc [((s.an.at i1).version:Int)])).size≤30000+(i1+1)*10100:=by simp only[ByteArray.size_append];omega
       exact j8 ⟨i1+1,((u1++(bj (s.an.at i1).name))++(bj (s.an.at i1).value))++(bc [((s.an.at i1).version:Int)])⟩ ⟨by show i1+1≤s.an.n;omega,by show _=(s.an.xs.take (i1+1)).foldl kD z1;rw[B6,JY];exact (eo (i:=i1) _ _ s.an.xs (by omega)).symm,B7⟩ (by show s.an.n - (i1+1)<s.an.n - i1;omega)
     refine M1 ?_
     have QX:=cE (s.an.at i1).value
     refine Mp ?_ call215 (fun bs w hS=>ij _ w (Sl.ok.at (s:=s.an) (i:=i1) cC.2.1 (by omega)).2)
     refine bY ?_ (pP ((u1++(bj (s.an.at i1).name)).size+(bj (s.an.at i1).value).size≤9223372036854775807) (by first|omega|(simp only[ByteArray.size_append];omega)))
     have MJ:=bP [((s.an.at i1).version:Int)]
     simp only[List.length_cons,List.length_nil] at MJ
     refine Mp ?_ (v:=vs (bc [((s.an.at i1).version:Int)])) call214 (fun bs w hS=>fh (⟨some ⟨bs.getD 3 0,0,none⟩,1,[((s.an.at i1).version:Int)]⟩:Sl Int) w (eM [((s.an.at i1).version:Int)] (hS.loc 3 ⟨3,[vI (s.an.at i1).version]⟩ (by kernel_rfl) (by simp)) (by simp)) (by show 1≤1048576;omega))
     refine bY ?_ (pP (((u1++(bj (s.an.at i1).name))++(bj (s.an.at i1).value)).size+(bc [((s.an.at i1).version:Int)]).size≤9223372036854775807) (by first|omega|(simp only[ByteArray.size_append];omega)))
     refine Mi ?_ (pR ((i1:Int)+1))
     have B6:((u1++(bj (s.an.at i1).name))++(bj (s.an.at i1).value))++(bc [((s.an.at i1).version:Int)])=kD u1 (s.an.xs.getD i1 default):=by
       rfl
     have B7:(((u1++(bj (s.an.at i1).name))++(bj (s.an.at i1).value))++(bc [((s.an.at i1).version:Int)])).size≤30000+(i1+1)*10100:=by simp only[ByteArray.size_append];omega
     exact j8 ⟨i1+1,((u1++(bj (s.an.at i1).name))++(bj (s.an.at i1).value))++(bc [((s.an.at i1).version:Int)])⟩ ⟨by show i1+1≤s.an.n;omega,by show _=(s.an.xs.take (i1+1)).foldl kD z1;rw[B6,JY];exact (eo (i:=i1) _ _ s.an.xs (by omega)).symm,B7⟩ (by show s.an.n - (i1+1)<s.an.n - i1;omega)
   refine M1 ?_
   have QY:=cE (s.an.at i1).name
   refine Mp ?_ call215 (fun bs w hS=>ij _ w (Sl.ok.at (s:=s.an) (i:=i1) cC.2.1 (by omega)).1)
   refine bY ?_ (pP (u1.size+(bj (s.an.at i1).name).size≤9223372036854775807) (by first|omega|(simp only[ByteArray.size_append];omega)))
   have QZ:=cE (s.an.at i1).value
   refine Mp ?_ call215 (fun bs w hS=>ij _ w (Sl.ok.at (s:=s.an) (i:=i1) cC.2.1 (by omega)).2)
   refine bY ?_ (pP ((u1++(bj (s.an.at i1).name)).size+(bj (s.an.at i1).value).size≤9223372036854775807) (by first|omega|(simp only[ByteArray.size_append];omega)))
   have MK:=bP [((s.an.at i1).version:Int)]
   simp only[List.length_cons,List.length_nil] at MK
   refine Mp ?_ (v:=vs (bc [((s.an.at i1).version:Int)])) call214 (fun bs w hS=>fh (⟨some ⟨bs.getD 3 0,0,none⟩,1,[((s.an.at i1).version:Int)]⟩:Sl Int) w (eM [((s.an.at i1).version:Int)] (hS.loc 3 ⟨3,[vI (s.an.at i1).version]⟩ (by kernel_rfl) (by simp)) (by simp)) (by show 1≤1048576;omega))
   refine bY ?_ (pP (((u1++(bj (s.an.at i1).name))++(bj (s.an.at i1).value)).size+(bc [((s.an.at i1).version:Int)]).size≤9223372036854775807) (by first|omega|(simp only[ByteArray.size_append];omega)))
   refine Mi ?_ (pR ((i1:Int)+1))
   have B6:((u1++(bj (s.an.at i1).name))++(bj (s.an.at i1).value))++(bc [((s.an.at i1).version:Int)])=kD u1 (s.an.xs.getD i1 default):=by
     rfl
   have B7:(((u1++(bj (s.an.at i1).name))++(bj (s.an.at i1).value))++(bc [((s.an.at i1).version:Int)])).size≤30000+(i1+1)*10100:=by simp only[ByteArray.size_append];omega
   exact j8 ⟨i1+1,((u1++(bj (s.an.at i1).name))++(bj (s.an.at i1).value))++(bc [((s.an.at i1).version:Int)])⟩ ⟨by show i1+1≤s.an.n;omega,by show _=(s.an.xs.take (i1+1)).foldl kD z1;rw[B6,JY];exact (eo (i:=i1) _ _ s.an.xs (by omega)).symm,B7⟩ (by show s.an.n - (i1+1)<s.an.n - i1;omega)
 refine M1 ?_
 have ML:=bP [((s.af.n:Int):Int)]
 simp only[List.length_cons,List.length_nil] at ML
 refine Mp ?_ (v:=vs (bc [((s.af.n:Int):Int)])) call214 (fun bs w hS=>fh (⟨some ⟨bs.getD 3 0,0,none⟩,1,[((s.af.n:Int):Int)]⟩:Sl Int) w (eM [((s.af.n:Int):Int)] (hS.loc 3 ⟨3,[vI (s.af.n:Int)]⟩ (by kernel_rfl) (by simp)) (by simp)) (by show 1≤1048576;omega))
 refine Mi ?_ (pP (u1.size+(bc [((s.af.n:Int):Int)]).size≤9223372036854775807) (by first|omega|(simp only[ByteArray.size_append];omega)))
 have JZ:(u1++(bc [((s.af.n:Int):Int)])).size≤100000:=by first|omega|(simp only[ByteArray.size_append];omega)
 generalize NM:u1++(bc [((s.af.n:Int):Int)])=z2 at JZ⊢
 refine Ml (σ:=Nat×ByteArray) (fun⟨i2,u2⟩=>i2≤s.af.n∧u2=(s.abs.af.take i2).foldl nu z2∧u2.size≤100000+i2*30000) (fun⟨i2,u2⟩=>s.af.n - i2) (fun _=>[]) [5,9,1] (fun⟨i2,u2⟩=>[(5,vS u2),(9,vI (i2:Int))]) (fun _=>[]) ?_ (⟨0,z2⟩) ⟨Nat.zero_le _,rfl,by show z2.size≤100000+0*30000;omega⟩
 rintro⟨i2,u2⟩ ⟨E4,sg,O6⟩ _ o5
 have O7:=u9 i2
 have SF:(s.af.at i2).ab.n=(s.af.at i2).ab.xs.length:=rfl
 refine Md ((i2:Int)<(s.af.n:Int)) (fun h4=>?_) fun h4=>?_
 rotate_left
 · have Q4:(gE u2).size=4:=fA _
   refine Mp ?_ (vs:=fun bs=>[vs u2]) call158 (fun bs w hS=>vm _ w (by first|assumption|omega|(simp only[aL];omega)))
   refine Mi ?_ (pP (u2.size+(gE u2).size≤9223372036854775807) (by first|omega|(simp only[ByteArray.size_append];omega)))
   refine Mt [vs (u2++(gE u2)),vi 0] fun bs w hS=>?_
   refine⟨?_,hS.kp⟩
   have hb:u2=jg s.abs:=by
     unfold jg
     rw[sg,List.take_of_length_le (by omega), ←NM,JY,List.take_of_length_le (by omega), ←KG,KK,List.take_of_length_le (by omega), ←LX]
     skip
     rw[gB,OX,hle]
     rfl
   unfold gH
   rw[if_pos (by assumption), ←hb]
   rfl
 refine Mi ?_ (pA 113 114 (i2:Int) i2 (s:=s.af) (fun w hk hr=>(aJ.kp hs hk).2.2))
 refine M1 ?_
 have MM:=bP [((s.af.at i2).ag:Int),((s.af.at i2).id:Int),((s.af.at i2).aC:Int),((s.af.at i2).last:Int),((((s.af.at i2).ab.n:Nat):Int):Int)]
 simp only[List.length_cons,List.length_nil] at MM
 refine Mp ?_ (v:=vs (bc [((s.af.at i2).ag:Int),((s.af.at i2).id:Int),((s.af.at i2).aC:Int),((s.af.at i2).last:Int),((((s.af.at i2).ab.n:Nat):Int):Int)])) call214 (fun bs w hS=>fh (⟨some ⟨bs.getD 5 0,0,none⟩,5,[((s.af.at i2).ag:Int),((s.af.at i2).id:Int),((s.af.at i2).aC:Int),((s.af.at i2).last:Int),((((s.af.at i2).ab.n:Nat):Int):Int)]⟩:Sl Int) w (eM [((s.af.at i2).ag:Int),((s.af.at i2).id:Int),((s.af.at i2).aC:Int),((s.af.at i2).last:Int),((((s.af.at i2).ab.n:Nat):Int):Int)] (hS.loc 5 ⟨3,[vI (s.af.at i2).ag,vI (s.af.at i2).id,vI (s.af.at i2).aC,vI (s.af.at i2).last,vI (((s.af.at i2).ab.n:Nat):Int)]⟩ (by kernel_rfl) (by simp)) (by simp)) (by show 5≤1048576;omega))
 refine Mi ?_ (pP (u2.size+(bc [((s.af.at i2).ag:Int),((s.af.at i2).id:Int),((s.af.at i2).aC:Int),((s.af.at i2).last:Int),((((s.af.at i2).ab.n:Nat):Int):Int)]).size≤9223372036854775807) (by first|omega|(simp only[ByteArray.size_append];omega)))
 have J0:(u2++(bc [((s.af.at i2).ag:Int),((s.af.at i2).id:Int),((s.af.at i2).aC:Int),((s.af.at i2).last:Int),((((s.af.at i2).ab.n:Nat):Int):Int)])).size≤100030+i2*30000:=by first|omega|(simp only[ByteArray.size_append];omega)
 generalize NN:u2++(bc [((s.af.at i2).ag:Int),((s.af.at i2).id:Int),((s.af.at i2).aC:Int),((s.af.at i2).last:Int),((((s.af.at i2).ab.n:Nat):Int):Int)])=z3 at J0⊢
 refine Ml (σ:=Nat×ByteArray) (fun⟨i3,u3⟩=>i3≤(s.af.at i2).ab.n∧u3=((s.af.at i2).ab.xs.take i3).foldl nt z3∧u3.size≤100030+i2*30000+i3*5100) (fun⟨i3,u3⟩=>(s.af.at i2).ab.n - i3) (fun _=>[]) [5,11,10,9,1] (fun⟨i3,u3⟩=>[(5,vS u3),(11,vI (i3:Int))]) (fun _=>[]) ?_ (⟨0,z3⟩) ⟨Nat.zero_le _,rfl,by show z3.size≤100030+i2*30000+0*5100;omega⟩
 rintro⟨i3,u3⟩ ⟨yS,J1,O8⟩ _ sJ
 refine Md ((i3:Int)<(((s.af.at i2).ab.n:Nat):Int)) (fun h5=>?_) fun h5=>?_
 rotate_left
 · refine Mi ?_ (pR ((i2:Int)+1))
   have J2:u3=nu u2 (s.abs.af.getD i2 default):=by
     rw[MH,J1,List.take_of_length_le (by omega), ←NN]
     rfl
   have J3:(u3).size≤100000+(i2+1)*30000:=by omega
   exact o5 ⟨i2+1,u3⟩ ⟨by show i2+1≤s.af.n;omega,by show _=(s.abs.af.take (i2+1)).foldl nu z2;rw[J2,sg];exact (eo (i:=i2) _ _ s.abs.af (by omega)).symm,J3⟩ (by show s.af.n - (i2+1)<s.af.n - i2;omega)
 refine Mi ?_ (pA 140 141 (i3:Int) i3 (s:=(s.af.at i2).ab) (fun w hk hr=>(Sl.rd.sub (s:=s.af) (i:=i2) (aJ.kp hs hk).2.2 (by omega))))
 refine cZ 18 [] [] [] ai ?_
 refine M1 ?_
 have MN:=bP [(((s.af.at i2).ab.at i3).seq:Int),(((s.af.at i2).ab.at i3).aE.code:Int),(((s.af.at i2).ab.at i3).aE.n:Int)]
 simp only[List.length_cons,List.length_nil] at MN
 refine Mp ?_ (v:=vs (bc [(((s.af.at i2).ab.at i3).seq:Int),(((s.af.at i2).ab.at i3).aE.code:Int),(((s.af.at i2).ab.at i3).aE.n:Int)])) call214 (fun bs w hS=>fh (⟨some ⟨bs.getD 7 0,0,none⟩,3,[(((s.af.at i2).ab.at i3).seq:Int),(((s.af.at i2).ab.at i3).aE.code:Int),(((s.af.at i2).ab.at i3).aE.n:Int)]⟩:Sl Int) w (eM [(((s.af.at i2).ab.at i3).seq:Int),(((s.af.at i2).ab.at i3).aE.code:Int),(((s.af.at i2).ab.at i3).aE.n:Int)] (hS.loc 7 ⟨3,[vI ((s.af.at i2).ab.at i3).seq,vI ((s.af.at i2).ab.at i3).aE.code,vI ((s.af.at i2).ab.at i3).aE.n]⟩ (by kernel_rfl) (by simp)) (by simp)) (by show 3≤1048576;omega))
 refine bY ?_ (pP (u3.size+(bc [(((s.af.at i2).ab.at i3).seq:Int),(((s.af.at i2).ab.at i3).aE.code:Int),(((s.af.at i2).ab.at i3).aE.n:Int)]).size≤9223372036854775807) (by first|omega|(simp only[ByteArray.size_append];omega)))
 have Q5:=cE ((s.af.at i2).ab.at i3).aE.text
 refine Mp ?_ call215 (fun bs w hS=>ij _ w (Sl.ok.at (s:=(s.af.at i2).ab) (i:=i3) (Sl.ok.at (s:=s.af) (i:=i2) cC.2.2 (by omega)) (by omega)))
 refine bY ?_ (pP ((u3++(bc [(((s.af.at i2).ab.at i3).seq:Int),(((s.af.at i2).ab.at i3).aE.code:Int),(((s.af.at i2).ab.at i3).aE.n:Int)])).size+(bj ((s.af.at i2).ab.at i3).aE.text).size≤9223372036854775807) (by first|omega|(simp only[ByteArray.size_append];omega)))
 refine Mi ?_ (pR ((i3:Int)+1))
 have J4:(u3++(bc [(((s.af.at i2).ab.at i3).seq:Int),(((s.af.at i2).ab.at i3).aE.code:Int),(((s.af.at i2).ab.at i3).aE.n:Int)]))++(bj ((s.af.at i2).ab.at i3).aE.text)=nt u3 ((s.af.at i2).ab.xs.getD i3 default):=by
   rfl
 have J5:((u3++(bc [(((s.af.at i2).ab.at i3).seq:Int),(((s.af.at i2).ab.at i3).aE.code:Int),(((s.af.at i2).ab.at i3).aE.n:Int)]))++(bj ((s.af.at i2).ab.at i3).aE.text)).size≤100030+i2*30000+(i3+1)*5100:=by simp only[ByteArray.size_append];omega
 exact sJ ⟨i3+1,(u3++(bc [(((s.af.at i2).ab.at i3).seq:Int),(((s.af.at i2).ab.at i3).aE.code:Int),(((s.af.at i2).ab.at i3).aE.n:Int)]))++(bj ((s.af.at i2).ab.at i3).aE.text)⟩ ⟨by show i3+1≤(s.af.at i2).ab.n;omega,by show _=((s.af.at i2).ab.xs.take (i3+1)).foldl nt z3;rw[J4,J1];exact (eo (i:=i3) _ _ (s.af.at i2).ab.xs (by omega)).symm,J5⟩ (by show (s.af.at i2).ab.n - (i3+1)<(s.af.at i2).ab.n - i3;omega)
theorem Aw (s:aN)(w:World)(hs:aJ.sub B w s):Calls prog 207 #[s.val] w fun e w'=>e=.returned (.tuple #[.string (gH s.abs).1,.int .i64 (gH s.abs).2])∧Kp [] w w':=by
 have Sv:emp.size=0:=rfl
 have cC:=aJ.bL hs
 have cV:=cC.1
 have OV:=cC.2.1
 have OW:=cC.2.2
 have iV:=Sl.ok.nc cV
 have Sw:=Sl.ok.nc OV
 have Sx:=Sl.ok.nc OW
 have iW:s.aj.n=s.aj.xs.length:=rfl
 have Sy:s.an.n=s.an.xs.length:=rfl
 have lr:s.af.n=s.af.xs.length:=rfl
 have gB:s.abs.aj.length=s.aj.n:=List.length_map _
 have OX:s.abs.an.length=s.an.n:=rfl
 have hle:s.abs.af.length=s.af.n:=List.length_map _
 have KJ: ∀q,s.abs.aj.getD q dd=(s.aj.at q).abs:=fun q=>pD q
 have Sz: ∀q,s.abs.an.getD q dd=s.an.at q:=fun _=>rfl
 have MH: ∀q,s.abs.af.getD q dd=(s.af.at q).abs:=fun q=>lb q
 refine M0 ?_ func207
 refine Mp ?_ call20 (fun bs w hS=>kt s w (aJ.kp hs hS.kp))
 refine cr (bA s.abs=0) (fun h1=>?_) fun h1=>?_
 rotate_left
 · refine Mt [ve,vi (bA s.abs)] fun bs w hS=>?_
   refine⟨?_,hS.kp⟩
   unfold gH
   rw[if_neg (by assumption)]
   rfl
 have xx:=mJ (x:=s.abs) (by assumption)
 have gU:=xx.1
 have gT:=xx.2.1
 have jB:=xx.2.2.1
 have nH: ∀q,(s.aj.at q).line.n≤3:=fun q=>by
   by_cases hq:q<s.aj.n
   · have:=xx.2.2.2.1 q (by rw[gB];exact hq);rw[KJ] at this;exact this
   · rw[xU hq];show 0≤3;omega
 have u9: ∀q,(s.af.at q).ab.n≤4:=fun q=>by
   by_cases hq:q<s.af.n
   · have:=xx.2.2.2.2 q (by rw[hle];exact hq);rw[MH] at this;exact this
   · rw[xU hq];show 0≤4;omega
 refine M1 ?_
 have O9:=bP [(s.index:Int),((s.aj.n:Int):Int)]
 simp only[List.length_cons,List.length_nil] at O9
 refine Mo 1 ?_ (vs:=fun bs=>[.pointer (some (kv bs 1 0)),.slice (some (kv bs 2 0)) 2 2]) (cs':=fun _=>[vs (emp++bc [(s.index:Int),((s.aj.n:Int):Int)])]) call230 (fun bs w hS hb=>gg emp (⟨some ⟨bs.getD 2 0,0,none⟩,2,[(s.index:Int),((s.aj.n:Int):Int)]⟩:Sl Int) (bs.getD 1 0) w hb (eM [(s.index:Int),((s.aj.n:Int):Int)] (hS.loc 2 ⟨3,[vI s.index,vI (s.aj.n:Int)]⟩ (by kernel_rfl) (by simp)) (by simp)) (by show 2≤1048576;omega) (by first|omega|(simp only[ByteArray.size_append];omega)))
 rintro y _
 have JW:(emp++bc [(s.index:Int),((s.aj.n:Int):Int)]).size≤40:=by first|omega|(simp only[ByteArray.size_append];omega)
 generalize LX:emp++bc [(s.index:Int),((s.aj.n:Int):Int)]=z0 at JW⊢
 refine Ml (σ:=Nat×ByteArray) (fun⟨i0,u0⟩=>i0≤s.aj.n∧u0=(s.abs.aj.take i0).foldl kY z0∧u0.size≤40+i0*5100) (fun⟨i0,u0⟩=>s.aj.n - i0) (fun _=>[]) [32,31,30,5,1] (fun⟨i0,u0⟩=>[(32,vI (i0:Int))]) (fun⟨i0,u0⟩=>[(1,[vS u0])]) ?_ (⟨0,z0⟩) ⟨Nat.zero_le _,rfl,by show z0.size≤40+0*5100;omega⟩
 rintro⟨i0,u0⟩ ⟨EY,KK,OZ⟩ _ bu
 have O0:=nH i0
 have O1:(s.aj.at i0).line.xs.length≤3:=nH i0
 refine Md ((i0:Int)<(s.aj.n:Int)) (fun h2=>?_) fun h2=>?_
 · refine Mi ?_ (pA 34 35 (i0:Int) i0 (s:=s.aj) (fun w hk hr=>(aJ.kp hs hk).1))
   have SG:=cE (s.aj.at i0).name
   refine Mo 1 ?_ call231 (fun bs w hS hb=>o7 u0 (s.aj.at i0).name (bs.getD 1 0) w hb (Sl.ok.at (s:=s.aj) (i:=i0) cC.1 (by omega)).1 (by first|omega|(simp only[ByteArray.size_append];omega)))
   rintro y _
   refine M1 ?_
   have Pa:=bP [((s.aj.at i0).ar:Int),((s.aj.at i0).aA:Int),((((s.aj.at i0).line.n:Nat):Int):Int)]
   simp only[List.length_cons,List.length_nil] at Pa
   refine Mo 1 ?_ (vs:=fun bs=>[.pointer (some (kv bs 1 0)),.slice (some (kv bs 4 0)) 3 3]) (cs':=fun _=>[vs (u0++bj (s.aj.at i0).name++bc [((s.aj.at i0).ar:Int),((s.aj.at i0).aA:Int),((((s.aj.at i0).line.n:Nat):Int):Int)])]) call230 (fun bs w hS hb=>gg (u0++bj (s.aj.at i0).name) (⟨some ⟨bs.getD 4 0,0,none⟩,3,[((s.aj.at i0).ar:Int),((s.aj.at i0).aA:Int),((((s.aj.at i0).line.n:Nat):Int):Int)]⟩:Sl Int) (bs.getD 1 0) w hb (eM [((s.aj.at i0).ar:Int),((s.aj.at i0).aA:Int),((((s.aj.at i0).line.n:Nat):Int):Int)] (hS.loc 4 ⟨3,[vI (s.aj.at i0).ar,vI (s.aj.at i0).aA,vI (((s.aj.at i0).line.n:Nat):Int)]⟩ (by kernel_rfl) (by simp)) (by simp)) (by show 3≤1048576;omega) (by first|omega|(simp only[ByteArray.size_append];omega)))
   rintro y _
   have SH:=bP (s.aj.at i0).line.xs
   refine Mo 1 ?_ call230 (fun bs w hS hb=>gg (u0++bj (s.aj.at i0).name++bc [((s.aj.at i0).ar:Int),((s.aj.at i0).aA:Int),((((s.aj.at i0).line.n:Nat):Int):Int)]) (s.aj.at i0).line (bs.getD 1 0) w hb (Sl.rd.sub (s:=s.aj) (i:=i0) (aJ.kp hs hS.kp).1 (by omega)).2 (by omega) (by first|omega|(simp only[ByteArray.size_append];omega)))
   rintro y _
   refine Mi ?_ (pR ((i0:Int)+1))
   have GD:u0++bj (s.aj.at i0).name++bc [((s.aj.at i0).ar:Int),((s.aj.at i0).aA:Int),((((s.aj.at i0).line.n:Nat):Int):Int)]++bc (s.aj.at i0).line.xs=kY u0 (s.abs.aj.getD i0 dd):=by
     rw[KJ];rfl
   have GF:(u0++bj (s.aj.at i0).name++bc [((s.aj.at i0).ar:Int),((s.aj.at i0).aA:Int),((((s.aj.at i0).line.n:Nat):Int):Int)]++bc (s.aj.at i0).line.xs).size≤40+(i0+1)*5100:=by simp only[ByteArray.size_append];omega
   exact bu ⟨i0+1,u0++bj (s.aj.at i0).name++bc [((s.aj.at i0).ar:Int),((s.aj.at i0).aA:Int),((((s.aj.at i0).line.n:Nat):Int):Int)]++bc (s.aj.at i0).line.xs⟩ ⟨by show i0+1≤s.aj.n;omega,by show _=(s.abs.aj.take (i0+1)).foldl kY z0;rw[GD,KK];exact (eo (i:=i0) _ _ s.abs.aj (by omega)).symm,GF⟩ (by show s.aj.n - (i0+1)<s.aj.n - i0;omega)
 refine M1 ?_
 have Pb:=bP [((s.an.n:Int):Int)]
 simp only[List.length_cons,List.length_nil] at Pb
 refine Mo 1 ?_ (vs:=fun bs=>[.pointer (some (kv bs 1 0)),.slice (some (kv bs 3 0)) 1 1]) (cs':=fun _=>[vs (u0++bc [((s.an.n:Int):Int)])]) call230 (fun bs w hS hb=>gg u0 (⟨some ⟨bs.getD 3 0,0,none⟩,1,[((s.an.n:Int):Int)]⟩:Sl Int) (bs.getD 1 0) w hb (eM [((s.an.n:Int):Int)] (hS.loc 3 ⟨3,[vI (s.an.n:Int)]⟩ (by kernel_rfl) (by simp)) (by simp)) (by show 1≤1048576;omega) (by first|omega|(simp only[ByteArray.size_append];omega)))
 rintro y _
 have JX:(u0++bc [((s.an.n:Int):Int)]).size≤30000:=by first|omega|(simp only[ByteArray.size_append];omega)
 generalize KG:u0++bc [((s.an.n:Int):Int)]=z1 at JX⊢
 refine Ml (σ:=Nat×ByteArray) (fun⟨i1,u1⟩=>i1≤s.an.n∧u1=(s.an.xs.take i1).foldl kD z1∧u1.size≤30000+i1*10100) (fun⟨i1,u1⟩=>s.an.n - i1) (fun _=>[]) [64,63,62,5,1] (fun⟨i1,u1⟩=>[(64,vI (i1:Int))]) (fun⟨i1,u1⟩=>[(1,[vS u1])]) ?_ (⟨0,z1⟩) ⟨Nat.zero_le _,rfl,by show z1.size≤30000+0*10100;omega⟩
 rintro⟨i1,u1⟩ ⟨wm,JY,O5⟩ _ j8
 refine Md ((i1:Int)<(s.an.n:Int)) (fun h3=>?_) fun h3=>?_
 · refine Mi ?_ (pA 66 67 (i1:Int) i1 (s:=s.an) (fun w hk hr=>(aJ.kp hs hk).2.1))
   have Q6:=cE (s.an.at i1).name
   refine Mo 1 ?_ call231 (fun bs w hS hb=>o7 u1 (s.an.at i1).name (bs.getD 1 0) w hb (Sl.ok.at (s:=s.an) (i:=i1) cC.2.1 (by omega)).1 (by first|omega|(simp only[ByteArray.size_append];omega)))
   rintro y _
   have Q7:=cE (s.an.at i1).value
   refine Mo 1 ?_ call231 (fun bs w hS hb=>o7 (u1++bj (s.an.at i1).name) (s.an.at i1).value (bs.getD 1 0) w hb (Sl.ok.at (s:=s.an) (i:=i1) cC.2.1 (by omega)).2 (by first|omega|(simp only[ByteArray.size_append];omega)))
   rintro y _
   refine M1 ?_
   have MO:=bP [((s.an.at i1).version:Int)]
   simp only[List.length_cons,List.length_nil] at MO
   refine Mo 1 ?_ (vs:=fun bs=>[.pointer (some (kv bs 1 0)),.slice (some (kv bs 5 0)) 1 1]) (cs':=fun _=>[vs (u1++bj (s.an.at i1).name++bj (s.an.at i1).value++bc [((s.an.at i1).version:Int)])]) call230 (fun bs w hS hb=>gg (u1++bj (s.an.at i1).name++bj (s.an.at i1).value) (⟨some ⟨bs.getD 5 0,0,none⟩,1,[((s.an.at i1).version:Int)]⟩:Sl Int) (bs.getD 1 0) w hb (eM [((s.an.at i1).version:Int)] (hS.loc 5 ⟨3,[vI (s.an.at i1).version]⟩ (by kernel_rfl) (by simp)) (by simp)) (by show 1≤1048576;omega) (by first|omega|(simp only[ByteArray.size_append];omega)))
   rintro y _
   refine Mi ?_ (pR ((i1:Int)+1))
   have B6:u1++bj (s.an.at i1).name++bj (s.an.at i1).value++bc [((s.an.at i1).version:Int)]=kD u1 (s.an.xs.getD i1 dd):=by
     rfl
   have B7:(u1++bj (s.an.at i1).name++bj (s.an.at i1).value++bc [((s.an.at i1).version:Int)]).size≤30000+(i1+1)*10100:=by simp only[ByteArray.size_append];omega
   exact j8 ⟨i1+1,u1++bj (s.an.at i1).name++bj (s.an.at i1).value++bc [((s.an.at i1).version:Int)]⟩ ⟨by show i1+1≤s.an.n;omega,by show _=(s.an.xs.take (i1+1)).foldl kD z1;rw[B6,JY];exact (eo (i:=i1) _ _ s.an.xs (by omega)).symm,B7⟩ (by show s.an.n - (i1+1)<s.an.n - i1;omega)
 refine M1 ?_
 have MP:=bP [((s.af.n:Int):Int)]
 simp only[List.length_cons,List.length_nil] at MP
 refine Mo 1 ?_ (vs:=fun bs=>[.pointer (some (kv bs 1 0)),.slice (some (kv bs 4 0)) 1 1]) (cs':=fun _=>[vs (u1++bc [((s.af.n:Int):Int)])]) call230 (fun bs w hS hb=>gg u1 (⟨some ⟨bs.getD 4 0,0,none⟩,1,[((s.af.n:Int):Int)]⟩:Sl Int) (bs.getD 1 0) w hb (eM [((s.af.n:Int):Int)] (hS.loc 4 ⟨3,[vI (s.af.n:Int)]⟩ (by kernel_rfl) (by simp)) (by simp)) (by show 1≤1048576;omega) (by first|omega|(simp only[ByteArray.size_append];omega)))
 rintro y _
 have JZ:(u1++bc [((s.af.n:Int):Int)]).size≤100000:=by first|omega|(simp only[ByteArray.size_append];omega)
 generalize NM:u1++bc [((s.af.n:Int):Int)]=z2 at JZ⊢
 refine Ml (σ:=Nat×ByteArray) (fun⟨i2,u2⟩=>i2≤s.af.n∧u2=(s.abs.af.take i2).foldl nu z2∧u2.size≤100000+i2*30000) (fun⟨i2,u2⟩=>s.af.n - i2) (fun _=>[]) [91,90,89,5] (fun⟨i2,u2⟩=>[(91,vI (i2:Int))]) (fun⟨i2,u2⟩=>[(1,[vS u2])]) ?_ (⟨0,z2⟩) ⟨Nat.zero_le _,rfl,by show z2.size≤100000+0*30000;omega⟩
 rintro⟨i2,u2⟩ ⟨E4,sg,O6⟩ _ o5
 have O7:=u9 i2
 have SF:(s.af.at i2).ab.n=(s.af.at i2).ab.xs.length:=rfl
 refine Md ((i2:Int)<(s.af.n:Int)) (fun h4=>?_) fun h4=>?_
 rotate_left
 · refine cZ 12 [] [] [] ai ?_
   have Q8:(gE u2).size=4:=fA _
   refine Mp ?_ (vs:=fun bs=>[vs u2]) call198 (fun bs w hS=>vl _ w (by first|assumption|omega|(simp only[aL];omega)))
   refine bY ?_ (pP (u2.size+(gE u2).size≤9223372036854775807) (by first|omega|(simp only[ByteArray.size_append];omega)))
   refine Mt [vs (u2++(gE u2)),vi 0] fun bs w hS=>?_
   refine⟨?_,hS.kp⟩
   have hb:u2=jg s.abs:=by
     unfold jg
     rw[sg,List.take_of_length_le (by omega), ←NM,JY,List.take_of_length_le (by omega), ←KG,KK,List.take_of_length_le (by omega), ←LX]
     simp only[pz]
     rw[gB,OX,hle]
     rfl
   unfold gH
   rw[if_pos (by assumption), ←hb]
   rfl
 refine Mi ?_ (pA 93 94 (i2:Int) i2 (s:=s.af) (fun w hk hr=>(aJ.kp hs hk).2.2))
 refine M1 ?_
 have MQ:=bP [((s.af.at i2).ag:Int),((s.af.at i2).id:Int),((s.af.at i2).aC:Int),((s.af.at i2).last:Int),((((s.af.at i2).ab.n:Nat):Int):Int)]
 simp only[List.length_cons,List.length_nil] at MQ
 refine Mo 1 ?_ (vs:=fun bs=>[.pointer (some (kv bs 1 0)),.slice (some (kv bs 6 0)) 5 5]) (cs':=fun _=>[vs (u2++bc [((s.af.at i2).ag:Int),((s.af.at i2).id:Int),((s.af.at i2).aC:Int),((s.af.at i2).last:Int),((((s.af.at i2).ab.n:Nat):Int):Int)])]) call230 (fun bs w hS hb=>gg u2 (⟨some ⟨bs.getD 6 0,0,none⟩,5,[((s.af.at i2).ag:Int),((s.af.at i2).id:Int),((s.af.at i2).aC:Int),((s.af.at i2).last:Int),((((s.af.at i2).ab.n:Nat):Int):Int)]⟩:Sl Int) (bs.getD 1 0) w hb (eM [((s.af.at i2).ag:Int),((s.af.at i2).id:Int),((s.af.at i2).aC:Int),((s.af.at i2).last:Int),((((s.af.at i2).ab.n:Nat):Int):Int)] (hS.loc 6 ⟨3,[vI (s.af.at i2).ag,vI (s.af.at i2).id,vI (s.af.at i2).aC,vI (s.af.at i2).last,vI (((s.af.at i2).ab.n:Nat):Int)]⟩ (by kernel_rfl) (by simp)) (by simp)) (by show 5≤1048576;omega) (by first|omega|(simp only[ByteArray.size_append];omega)))
 rintro y _
 have J0:(u2++bc [((s.af.at i2).ag:Int),((s.af.at i2).id:Int),((s.af.at i2).aC:Int),((s.af.at i2).last:Int),((((s.af.at i2).ab.n:Nat):Int):Int)]).size≤100030+i2*30000:=by first|omega|(simp only[ByteArray.size_append];omega)
 generalize NN:u2++bc [((s.af.at i2).ag:Int),((s.af.at i2).id:Int),((s.af.at i2).aC:Int),((s.af.at i2).last:Int),((((s.af.at i2).ab.n:Nat):Int):Int)]=z3 at J0⊢
 refine Ml (σ:=Nat×ByteArray) (fun⟨i3,u3⟩=>i3≤(s.af.at i2).ab.n∧u3=((s.af.at i2).ab.xs.take i3).foldl nt z3∧u3.size≤100030+i2*30000+i3*5100) (fun⟨i3,u3⟩=>(s.af.at i2).ab.n - i3) (fun _=>[]) [112,111,110,91,90,89,5] (fun⟨i3,u3⟩=>[(112,vI (i3:Int))]) (fun⟨i3,u3⟩=>[(1,[vS u3])]) ?_ (⟨0,z3⟩) ⟨Nat.zero_le _,rfl,by show z3.size≤100030+i2*30000+0*5100;omega⟩
 rintro⟨i3,u3⟩ ⟨yS,J1,O8⟩ _ sJ
 refine Md ((i3:Int)<(((s.af.at i2).ab.n:Nat):Int)) (fun h5=>?_) fun h5=>?_
 rotate_left
 · refine Mi ?_ (pR ((i2:Int)+1))
   have J2:u3=nu u2 (s.abs.af.getD i2 dd):=by
     rw[MH,J1,List.take_of_length_le (by omega), ←NN]
     rfl
   have J3:(u3).size≤100000+(i2+1)*30000:=by omega
   exact o5 ⟨i2+1,u3⟩ ⟨by show i2+1≤s.af.n;omega,by show _=(s.abs.af.take (i2+1)).foldl nu z2;rw[J2,sg];exact (eo (i:=i2) _ _ s.abs.af (by omega)).symm,J3⟩ (by show s.af.n - (i2+1)<s.af.n - i2;omega)
 refine Mi ?_ (pA 114 115 (i3:Int) i3 (s:=(s.af.at i2).ab) (fun w hk hr=>(Sl.rd.sub (s:=s.af) (i:=i2) (aJ.kp hs hk).2.2 (by omega))))
 refine M1 ?_
 have MR:=bP [(((s.af.at i2).ab.at i3).seq:Int),(((s.af.at i2).ab.at i3).aE.code:Int),(((s.af.at i2).ab.at i3).aE.n:Int)]
 simp only[List.length_cons,List.length_nil] at MR
 refine Mo 1 ?_ (vs:=fun bs=>[.pointer (some (kv bs 1 0)),.slice (some (kv bs 8 0)) 3 3]) (cs':=fun _=>[vs (u3++bc [(((s.af.at i2).ab.at i3).seq:Int),(((s.af.at i2).ab.at i3).aE.code:Int),(((s.af.at i2).ab.at i3).aE.n:Int)])]) call230 (fun bs w hS hb=>gg u3 (⟨some ⟨bs.getD 8 0,0,none⟩,3,[(((s.af.at i2).ab.at i3).seq:Int),(((s.af.at i2).ab.at i3).aE.code:Int),(((s.af.at i2).ab.at i3).aE.n:Int)]⟩:Sl Int) (bs.getD 1 0) w hb (eM [(((s.af.at i2).ab.at i3).seq:Int),(((s.af.at i2).ab.at i3).aE.code:Int),(((s.af.at i2).ab.at i3).aE.n:Int)] (hS.loc 8 ⟨3,[vI ((s.af.at i2).ab.at i3).seq,vI ((s.af.at i2).ab.at i3).aE.code,vI ((s.af.at i2).ab.at i3).aE.n]⟩ (by kernel_rfl) (by simp)) (by simp)) (by show 3≤1048576;omega) (by first|omega|(simp only[ByteArray.size_append];omega)))
 rintro y _
 have Q9:=cE ((s.af.at i2).ab.at i3).aE.text
 refine Mo 1 ?_ call231 (fun bs w hS hb=>o7 (u3++bc [(((s.af.at i2).ab.at i3).seq:Int),(((s.af.at i2).ab.at i3).aE.code:Int),(((s.af.at i2).ab.at i3).aE.n:Int)]) ((s.af.at i2).ab.at i3).aE.text (bs.getD 1 0) w hb (Sl.ok.at (s:=(s.af.at i2).ab) (i:=i3) (Sl.ok.at (s:=s.af) (i:=i2) cC.2.2 (by omega)) (by omega)) (by first|omega|(simp only[ByteArray.size_append];omega)))
 rintro y _
 refine Mi ?_ (pR ((i3:Int)+1))
 have J4:u3++bc [(((s.af.at i2).ab.at i3).seq:Int),(((s.af.at i2).ab.at i3).aE.code:Int),(((s.af.at i2).ab.at i3).aE.n:Int)]++bj ((s.af.at i2).ab.at i3).aE.text=nt u3 ((s.af.at i2).ab.xs.getD i3 dd):=by
   rfl
 have J5:(u3++bc [(((s.af.at i2).ab.at i3).seq:Int),(((s.af.at i2).ab.at i3).aE.code:Int),(((s.af.at i2).ab.at i3).aE.n:Int)]++bj ((s.af.at i2).ab.at i3).aE.text).size≤100030+i2*30000+(i3+1)*5100:=by simp only[ByteArray.size_append];omega
 exact sJ ⟨i3+1,u3++bc [(((s.af.at i2).ab.at i3).seq:Int),(((s.af.at i2).ab.at i3).aE.code:Int),(((s.af.at i2).ab.at i3).aE.n:Int)]++bj ((s.af.at i2).ab.at i3).aE.text⟩ ⟨by show i3+1≤(s.af.at i2).ab.n;omega,by show _=((s.af.at i2).ab.xs.take (i3+1)).foldl nt z3;rw[J4,J1];exact (eo (i:=i3) _ _ (s.af.at i2).ab.xs (by omega)).symm,J5⟩ (by show (s.af.at i2).ab.n - (i3+1)<(s.af.at i2).ab.n - i3;omega)
theorem yu (A:Option Addr)(c:Nat)(L:List aa)(i:Nat)(ii:Int)(x:aa)(vb tv:Nat)(w:World)(gb:(ay 118 A c L).p w)(dX: ∀b,b∈(ay 118 A c L).fp→b<w.heap.size)(ei:ii=(i:Int))(hi:i≤L.length)(hn:L.length≤1048575)(hv:(bh vb tv (aR.cells x)).p w)(GG:vb∉(ay 118 A c L).fp):
    Calls prog 77 #[.slice A L.length c,vi ii,.slice (some (⟨vb,0,none⟩:Addr)) 1 1] w fun e w'=> ∃y:Option Addr×Nat,e=.returned (.slice y.1 (L.take i++[x]++L.drop i).length y.2)∧dh (ay 118 A c L) w w' (ay 118 y.1 y.2 (L.take i++[x]++L.drop i)):=by
 subst ei
 have mu:=br gb
 have nc:=mu.2
 have sm: ∀w',Kp (ay 118 A c L).fp w w'→(bh vb tv (aR.cells x)).p w':=fun w' hk=>qs hv hk GG
 have rD: ∀w',Kp (ay 118 A c L).fp w w'→fx w' (some (⟨vb,0,none⟩:Addr)) 1 ([x].flatMap aR.cells):=fun w' hk=>oK (sm w' hk)
 refine Mj ?_ func77 (WS.eG w _ gb (by cases A<;>simp [ay,fI]) dX)
 refine Mi ?_ (pG [(12,.sl i L.length)] (oc (rfl:(i:Int)=(i:Int)) (oc (rfl:L.length=L.length) (oc ((by omega):i≤L.length) on))))
 refine Mq 16 false ?_ rfl
 refine Md ((i:Int)=(L.length:Int)) (fun h1=>?_) fun h1=>?_
 · refine Ma ?_ (α:=aa) (L2:=[x]) 56 (fun bs w hS=>rD w hS.kp) (h63:=by show L.length+1≤_;omega) (hb:=by show (L.length+1)*_≤_;omega)
   intro A1 c1
   refine Mt [.slice A1 (L++[x]).length c1] fun bs w hS=>?_
   have vU:i=L.length:=by omega
   subst vU
   rw[List.take_length,List.drop_length,List.append_nil]
   exact⟨(A1,c1),rfl,hS.aW⟩
 refine Mi ?_ (pR ((L.length:Int)+1))
 refine Md ((c:Int)<(L.length:Int)+1) (fun h2=>?_) fun h2=>?_
 · refine Mi ?_ (pc (pG [(34,.sl 0 i)] (oc (rfl:0=0) (oc (rfl:(i:Int)=(i:Int)) (oc ((by omega):i≤c) on)))) (pc (pR ((L.length:Int)+1)) (pR (((L.length:Int)+1) - (i:Int)))))
   refine HS (α:=aa) 24 3 56 i (L.length+1 - i) ?_ (((L.length:Int)+1) - (i:Int)) (by omega) (by omega) hi (by omega) (by omega) (by omega)
   intro g2 c2 zs Dq J6 dq
   refine Mi ?_ (pG [(43,.sl i (i+(L.length+1 - i)))] (oc (rfl:(i:Int)=(i:Int)) (oc (rfl:i+(L.length+1 - i)=i+(L.length+1 - i)) (oc ((by omega):i≤i+(L.length+1 - i)) on))))
   refine AS (A1:=(if c2=i then (some (⟨g2,0,none⟩:Addr)) else (some (⟨g2,0,none⟩:Addr)).map (·.add (i*5)))) (A2:=(some (⟨vb,0,none⟩:Addr))) (n1:=(i+(L.length+1 - i)) - i) (k:=1) (q:=1) (vs:=[x].flatMap aR.cells) 56 (i*aR.size aa) ?_ (by rw[if_neg (by omega)];show some (Addr.add _ (i*5))=_;rw[cz];rfl) (by simp only[Nat.min_def];split<;>omega) (fun bs w hS=>rD w hS.kp) (by rw[ea,Nat.one_mul]) (ed _) (by rw[ea];rw[dq];have h9:=dj (L:=L) hi (by omega:L.length+1≤c2);omega)
   refine fP 8 ?_ ai
   refine bY ?_ (pc (pR ((i:Int)+1)) (pc (pG [(50,.sl (i+1) (i+(L.length+1 - i)))] (oc ((by omega):(i:Int)+1=(((i+1):Nat):Int)) (oc (rfl:i+(L.length+1 - i)=i+(L.length+1 - i)) (oc ((by omega):(i+1)≤i+(L.length+1 - i)) on)))) (pG [(53,.sl i L.length)] (oc (rfl:(i:Int)=(i:Int)) (oc (rfl:L.length=L.length) (oc ((by omega):i≤L.length) on))))))
   refine Mz ?_
   refine AS (A1:=(if c2=(i+1) then (some (⟨g2,0,none⟩:Addr)) else (some (⟨g2,0,none⟩:Addr)).map (·.add ((i+1)*5)))) (A2:=(if c=i then A else A.map (·.add (i*5)))) (n1:=(i+(L.length+1 - i)) - (i+1)) (k:=L.length - i) (q:=(L.length - i)) (vs:=(L.drop i).flatMap aR.cells) 56 (i*aR.size aa+aR.size aa) ?_ (by rw[if_neg (by omega)];show some (Addr.add _ ((i+1)*5))=_;rw[cz,Nat.succ_mul];rfl) (by simp only[Nat.min_def];split<;>omega) (fun bs w hS=>k9 (hS.res _ i1) hi) (iP L i) (ed _) (by rw[jr (by rw[ea,dq];have h9:=dj (L:=L) hi (by omega:L.length+1≤c2);omega),dq];exact dj hi (by omega))
   refine Mt [.slice (some (⟨g2,0,none⟩:Addr)) (i+(L.length+1 - i)) c2] fun bs w hS=>?_
   have hlen:(L.take i++[x]++L.drop i).length=L.length+1:=by simp only[List.length_append,List.length_take,List.length_drop,List.length_cons,List.length_nil];omega
   have j1:=hS.vF (ay 118 (some (⟨g2,0,none⟩:Addr)) c2 (L.take i++[x]++L.drop i)) (List.Sublist.refl _) (fun h=>qp hi (by omega) dq h)
   refine⟨(some ⟨g2,0,none⟩,c2),?_,j1.aW⟩
   exact congrArg (fun q=>Ending.returned (Value.slice (some (⟨g2,0,none⟩:Addr)) q c2)) (show i+(L.length+1 - i)=(L.take i++[x]++L.drop i).length by rw[hlen];omega)
 refine CZ (α:=aa) (by omega) ?_
 intro g zs hA Pc dq
 have J7:vb≠g:=fun e0=>GG (by rw[hA];simp[ay,fI,e0])
 refine Mi ?_ (pc (pR ((L.length:Int)+1)) (pc (pG [(60,.sl 0 (L.length+1))] (oc (rfl:0=0) (oc ((by omega):(L.length:Int)+1=(((L.length+1):Nat):Int)) (oc ((by omega):(L.length+1)≤c) on)))) (pc (pR ((i:Int)+1)) (pG [(66,.sl (i+1) (L.length+1))] (oc ((by omega):(i:Int)+1=(((i+1):Nat):Int)) (oc (rfl:(L.length+1)=(L.length+1)) (oc ((by omega):(i+1)≤(L.length+1)) on)))))))
 refine Mx ?_ (vs:=fun _=>[.slice (some (⟨vb,0,none⟩:Addr)) 1 1,.slice (if c=(i+1) then A else A.map (·.add ((i+1)*5))) ((L.length+1) - (i+1)) (c - (i+1))]) (v:=.bool false) (fun bs w hS=>by show (callFunc 143 #[.slice (some (⟨vb,0,none⟩:Addr)) 1 1,.slice (if c=(i+1) then A else A.map (·.add ((i+1)*5))) ((L.length+1) - (i+1)) (c - (i+1))]).run prog w=_;rw[(show (if c=(i+1) then A else A.map (·.add ((i+1)*5)))=some ⟨g,i*aR.size aa+aR.size aa,none⟩ from (by rw[if_neg (by omega),hA];show some (Addr.add _ ((i+1)*5))=_;rw[cz,Nat.succ_mul];rfl)),run_callFunc_extern func143 (by kernel_rfl) (by kernel_rfl) (by kernel_rfl) (e:=Extern.SlicesOverlaps.overlaps #[24,24] #[4]) (by kernel_rfl)];show ((Extern.SlicesOverlaps.overlaps #[24,24] #[4] #[.slice (some (⟨vb,0,none⟩:Addr)) 1 1,.slice (some _) _ _]).run _ w).andThen _=_;rw[Go.Lib.run_overlaps_apart w 24 4 118 Tryz.underlying24 _ (fun w=>cF _ _ w (by kernel_rfl)) ⟨vb,0,none⟩ ⟨g,i*aR.size aa+aR.size aa,none⟩ 1 1 _ _ J7 _ _ _ _ (mX (sm w hS.kp)) (mY (hS.res _ i0)) (by rw[dq];exact Nat.mul_ne_zero (by omega) (Nat.ne_of_gt aR.pos)) (jq (sm w hS.kp) 0) (jq (sm w hS.kp) _)];rfl)
 refine Mq 68 true ?_ rfl
 refine fP 8 ?_ ai
 refine bY ?_ (pc (pR ((i:Int)+1)) (pc (pG [(73,.sl (i+1) (L.length+1))] (oc ((by omega):(i:Int)+1=(((i+1):Nat):Int)) (oc (rfl:(L.length+1)=(L.length+1)) (oc ((by omega):(i+1)≤(L.length+1)) on)))) (pG [(76,.sl i (L.length+1))] (oc (rfl:(i:Int)=(i:Int)) (oc (rfl:(L.length+1)=(L.length+1)) (oc ((by omega):i≤(L.length+1)) on))))))
 refine Mz ?_
 refine AS (A1:=(if c=(i+1) then A else A.map (·.add ((i+1)*5)))) (A2:=(if c=i then A else A.map (·.add (i*5)))) (n1:=(L.length+1) - (i+1)) (k:=(L.length+1) - i) (q:=(L.length - i)) (vs:=(L.drop i).flatMap aR.cells) 56 (i*aR.size aa+aR.size aa) ?_ (by rw[if_neg (by omega),hA];show some (Addr.add _ ((i+1)*5))=_;rw[cz,Nat.succ_mul];rfl) (by simp only[Nat.min_def];split<;>omega) (fun bs w hS=>by rw[show (if c=i then A else A.map (·.add (i*5)))=some ⟨g,i*aR.size aa,none⟩ from (by rw[if_neg (by omega),hA];show some (Addr.add _ (i*5))=_;rw[cz];rfl)];exact l9 hi (hS.res _ i0)) (iP L i) (ed _) (by rw[dq];exact dj hi (by omega))
 refine Mi ?_ (pG [(80,.sl i (L.length+1))] (oc (rfl:(i:Int)=(i:Int)) (oc (rfl:(L.length+1)=(L.length+1)) (oc ((by omega):i≤(L.length+1)) on))))
 refine AS (A1:=(if c=i then A else A.map (·.add (i*5)))) (A2:=(some (⟨vb,0,none⟩:Addr))) (n1:=(L.length+1) - i) (k:=1) (q:=1) (vs:=[x].flatMap aR.cells) 56 (i*aR.size aa) ?_ (by rw[if_neg (by omega),hA];show some (Addr.add _ (i*5))=_;rw[cz];rfl) (by simp only[Nat.min_def];split<;>omega) (fun bs w hS=>rD w hS.kp) (by rw[ea,Nat.one_mul]) (ed _) (by rw[ea];rw[jr (by rw[dq];exact dj hi (by omega)),dq];have h9:=dj (L:=L) hi (by omega:L.length+1≤c);omega)
 refine Mt [.slice A (L.length+1) c] fun bs w hS=>?_
 have hlen:(L.take i++[x]++L.drop i).length=L.length+1:=by simp only[List.length_append,List.length_take,List.length_drop,List.length_cons,List.length_nil];omega
 have j1:=hS.vF (ay 118 (some ⟨g,0,none⟩) c (L.take i++[x]++L.drop i)) (List.Sublist.refl _) (fun h=>qq hi (by omega) dq h)
 refine⟨(some ⟨g,0,none⟩,c),?_,j1.aW⟩
 subst hA
 exact congrArg (fun q=>Ending.returned (Value.slice (some (⟨g,0,none⟩:Addr)) q c)) (show L.length+1=(L.take i++[x]++L.drop i).length by rw[hlen])
theorem Eu (A:Option Addr)(c:Nat)(L:List aK)(i:Nat)(ii:Int)(x:aK)(vb tv:Nat)(w:World)(gb:(ay 141 A c L).p w)(dX: ∀b,b∈(ay 141 A c L).fp→b<w.heap.size)(ei:ii=(i:Int))(hi:i≤L.length)(hn:L.length≤1048575)(hv:(bh vb tv (aR.cells x)).p w)(GG:vb∉(ay 141 A c L).fp):
    Calls prog 90 #[.slice A L.length c,vi ii,.slice (some (⟨vb,0,none⟩:Addr)) 1 1] w fun e w'=> ∃y:Option Addr×Nat,e=.returned (.slice y.1 (L.take i++[x]++L.drop i).length y.2)∧dh (ay 141 A c L) w w' (ay 141 y.1 y.2 (L.take i++[x]++L.drop i)):=by
 subst ei
 have mu:=br gb
 have nc:=mu.2
 have sm: ∀w',Kp (ay 141 A c L).fp w w'→(bh vb tv (aR.cells x)).p w':=fun w' hk=>qs hv hk GG
 have rD: ∀w',Kp (ay 141 A c L).fp w w'→fx w' (some (⟨vb,0,none⟩:Addr)) 1 ([x].flatMap aR.cells):=fun w' hk=>oK (sm w' hk)
 refine Mj ?_ func90 (WS.eG w _ gb (by cases A<;>simp [ay,fI]) dX)
 refine Mi ?_ (pG [(12,.sl i L.length)] (oc (rfl:(i:Int)=(i:Int)) (oc (rfl:L.length=L.length) (oc ((by omega):i≤L.length) on))))
 refine Mq 16 false ?_ rfl
 refine Md ((i:Int)=(L.length:Int)) (fun h1=>?_) fun h1=>?_
 · refine Ma ?_ (α:=aK) (L2:=[x]) 40 (fun bs w hS=>rD w hS.kp) (h63:=by show L.length+1≤_;omega) (hb:=by show (L.length+1)*_≤_;omega)
   intro A1 c1
   refine Mt [.slice A1 (L++[x]).length c1] fun bs w hS=>?_
   have vU:i=L.length:=by omega
   subst vU
   rw[List.take_length,List.drop_length,List.append_nil]
   exact⟨(A1,c1),rfl,hS.aW⟩
 refine Mi ?_ (pR ((L.length:Int)+1))
 refine Md ((c:Int)<(L.length:Int)+1) (fun h2=>?_) fun h2=>?_
 · refine Mi ?_ (pc (pG [(34,.sl 0 i)] (oc (rfl:0=0) (oc (rfl:(i:Int)=(i:Int)) (oc ((by omega):i≤c) on)))) (pc (pR ((L.length:Int)+1)) (pR (((L.length:Int)+1) - (i:Int)))))
   refine HS (α:=aK) 116 3 40 i (L.length+1 - i) ?_ (((L.length:Int)+1) - (i:Int)) (by omega) (by omega) hi (by omega) (by omega) (by omega)
   intro g2 c2 zs Dq J6 dq
   refine Mi ?_ (pG [(43,.sl i (i+(L.length+1 - i)))] (oc (rfl:(i:Int)=(i:Int)) (oc (rfl:i+(L.length+1 - i)=i+(L.length+1 - i)) (oc ((by omega):i≤i+(L.length+1 - i)) on))))
   refine AS (A1:=(if c2=i then (some (⟨g2,0,none⟩:Addr)) else (some (⟨g2,0,none⟩:Addr)).map (·.add (i*4)))) (A2:=(some (⟨vb,0,none⟩:Addr))) (n1:=(i+(L.length+1 - i)) - i) (k:=1) (q:=1) (vs:=[x].flatMap aR.cells) 40 (i*aR.size aK) ?_ (by rw[if_neg (by omega)];show some (Addr.add _ (i*4))=_;rw[cz];rfl) (by simp only[Nat.min_def];split<;>omega) (fun bs w hS=>rD w hS.kp) (by rw[ea,Nat.one_mul]) (ed _) (by rw[ea];rw[dq];have h9:=dj (L:=L) hi (by omega:L.length+1≤c2);omega)
   refine fP 8 ?_ ai
   refine bY ?_ (pc (pR ((i:Int)+1)) (pc (pG [(50,.sl (i+1) (i+(L.length+1 - i)))] (oc ((by omega):(i:Int)+1=(((i+1):Nat):Int)) (oc (rfl:i+(L.length+1 - i)=i+(L.length+1 - i)) (oc ((by omega):(i+1)≤i+(L.length+1 - i)) on)))) (pG [(53,.sl i L.length)] (oc (rfl:(i:Int)=(i:Int)) (oc (rfl:L.length=L.length) (oc ((by omega):i≤L.length) on))))))
   refine Mz ?_
   refine AS (A1:=(if c2=(i+1) then (some (⟨g2,0,none⟩:Addr)) else (some (⟨g2,0,none⟩:Addr)).map (·.add ((i+1)*4)))) (A2:=(if c=i then A else A.map (·.add (i*4)))) (n1:=(i+(L.length+1 - i)) - (i+1)) (k:=L.length - i) (q:=(L.length - i)) (vs:=(L.drop i).flatMap aR.cells) 40 (i*aR.size aK+aR.size aK) ?_ (by rw[if_neg (by omega)];show some (Addr.add _ ((i+1)*4))=_;rw[cz,Nat.succ_mul];rfl) (by simp only[Nat.min_def];split<;>omega) (fun bs w hS=>k9 (hS.res _ i1) hi) (iP L i) (ed _) (by rw[jr (by rw[ea,dq];have h9:=dj (L:=L) hi (by omega:L.length+1≤c2);omega),dq];exact dj hi (by omega))
   refine Mt [.slice (some (⟨g2,0,none⟩:Addr)) (i+(L.length+1 - i)) c2] fun bs w hS=>?_
   have hlen:(L.take i++[x]++L.drop i).length=L.length+1:=by simp only[List.length_append,List.length_take,List.length_drop,List.length_cons,List.length_nil];omega
   have j1:=hS.vF (ay 141 (some (⟨g2,0,none⟩:Addr)) c2 (L.take i++[x]++L.drop i)) (List.Sublist.refl _) (fun h=>qp hi (by omega) dq h)
   refine⟨(some ⟨g2,0,none⟩,c2),?_,j1.aW⟩
   exact congrArg (fun q=>Ending.returned (Value.slice (some (⟨g2,0,none⟩:Addr)) q c2)) (show i+(L.length+1 - i)=(L.take i++[x]++L.drop i).length by rw[hlen];omega)
 refine CZ (α:=aK) (by omega) ?_
 intro g zs hA Pc dq
 have J7:vb≠g:=fun e0=>GG (by rw[hA];simp[ay,fI,e0])
 refine Mi ?_ (pc (pR ((L.length:Int)+1)) (pc (pG [(60,.sl 0 (L.length+1))] (oc (rfl:0=0) (oc ((by omega):(L.length:Int)+1=(((L.length+1):Nat):Int)) (oc ((by omega):(L.length+1)≤c) on)))) (pc (pR ((i:Int)+1)) (pG [(66,.sl (i+1) (L.length+1))] (oc ((by omega):(i:Int)+1=(((i+1):Nat):Int)) (oc (rfl:(L.length+1)=(L.length+1)) (oc ((by omega):(i+1)≤(L.length+1)) on)))))))
 refine Mx ?_ (vs:=fun _=>[.slice (some (⟨vb,0,none⟩:Addr)) 1 1,.slice (if c=(i+1) then A else A.map (·.add ((i+1)*4))) ((L.length+1) - (i+1)) (c - (i+1))]) (v:=.bool false) (fun bs w hS=>by show (callFunc 153 #[.slice (some (⟨vb,0,none⟩:Addr)) 1 1,.slice (if c=(i+1) then A else A.map (·.add ((i+1)*4))) ((L.length+1) - (i+1)) (c - (i+1))]).run prog w=_;rw[(show (if c=(i+1) then A else A.map (·.add ((i+1)*4)))=some ⟨g,i*aR.size aK+aR.size aK,none⟩ from (by rw[if_neg (by omega),hA];show some (Addr.add _ ((i+1)*4))=_;rw[cz,Nat.succ_mul];rfl)),run_callFunc_extern func153 (by kernel_rfl) (by kernel_rfl) (by kernel_rfl) (e:=Extern.SlicesOverlaps.overlaps #[116,116] #[4]) (by kernel_rfl)];show ((Extern.SlicesOverlaps.overlaps #[116,116] #[4] #[.slice (some (⟨vb,0,none⟩:Addr)) 1 1,.slice (some _) _ _]).run _ w).andThen _=_;rw[Go.Lib.run_overlaps_apart w 116 4 141 Tryz.underlying116 _ (fun w=>cF _ _ w (by kernel_rfl)) ⟨vb,0,none⟩ ⟨g,i*aR.size aK+aR.size aK,none⟩ 1 1 _ _ J7 _ _ _ _ (mX (sm w hS.kp)) (mY (hS.res _ i0)) (by rw[dq];exact Nat.mul_ne_zero (by omega) (Nat.ne_of_gt aR.pos)) (jq (sm w hS.kp) 0) (jq (sm w hS.kp) _)];rfl)
 refine Mq 68 true ?_ rfl
 refine fP 8 ?_ ai
 refine bY ?_ (pc (pR ((i:Int)+1)) (pc (pG [(73,.sl (i+1) (L.length+1))] (oc ((by omega):(i:Int)+1=(((i+1):Nat):Int)) (oc (rfl:(L.length+1)=(L.length+1)) (oc ((by omega):(i+1)≤(L.length+1)) on)))) (pG [(76,.sl i (L.length+1))] (oc (rfl:(i:Int)=(i:Int)) (oc (rfl:(L.length+1)=(L.length+1)) (oc ((by omega):i≤(L.length+1)) on))))))
 refine Mz ?_
 refine AS (A1:=(if c=(i+1) then A else A.map (·.add ((i+1)*4)))) (A2:=(if c=i then A else A.map (·.add (i*4)))) (n1:=(L.length+1) - (i+1)) (k:=(L.length+1) - i) (q:=(L.length - i)) (vs:=(L.drop i).flatMap aR.cells) 40 (i*aR.size aK+aR.size aK) ?_ (by rw[if_neg (by omega),hA];show some (Addr.add _ ((i+1)*4))=_;rw[cz,Nat.succ_mul];rfl) (by simp only[Nat.min_def];split<;>omega) (fun bs w hS=>by rw[show (if c=i then A else A.map (·.add (i*4)))=some ⟨g,i*aR.size aK,none⟩ from (by rw[if_neg (by omega),hA];show some (Addr.add _ (i*4))=_;rw[cz];rfl)];exact l9 hi (hS.res _ i0)) (iP L i) (ed _) (by rw[dq];exact dj hi (by omega))
 refine Mi ?_ (pG [(80,.sl i (L.length+1))] (oc (rfl:(i:Int)=(i:Int)) (oc (rfl:(L.length+1)=(L.length+1)) (oc ((by omega):i≤(L.length+1)) on))))
 refine AS (A1:=(if c=i then A else A.map (·.add (i*4)))) (A2:=(some (⟨vb,0,none⟩:Addr))) (n1:=(L.length+1) - i) (k:=1) (q:=1) (vs:=[x].flatMap aR.cells) 40 (i*aR.size aK) ?_ (by rw[if_neg (by omega),hA];show some (Addr.add _ (i*4))=_;rw[cz];rfl) (by simp only[Nat.min_def];split<;>omega) (fun bs w hS=>rD w hS.kp) (by rw[ea,Nat.one_mul]) (ed _) (by rw[ea];rw[jr (by rw[dq];exact dj hi (by omega)),dq];have h9:=dj (L:=L) hi (by omega:L.length+1≤c);omega)
 refine Mt [.slice A (L.length+1) c] fun bs w hS=>?_
 have hlen:(L.take i++[x]++L.drop i).length=L.length+1:=by simp only[List.length_append,List.length_take,List.length_drop,List.length_cons,List.length_nil];omega
 have j1:=hS.vF (ay 141 (some ⟨g,0,none⟩) c (L.take i++[x]++L.drop i)) (List.Sublist.refl _) (fun h=>qq hi (by omega) dq h)
 refine⟨(some ⟨g,0,none⟩,c),?_,j1.aW⟩
 subst hA
 exact congrArg (fun q=>Ending.returned (Value.slice (some (⟨g,0,none⟩:Addr)) q c)) (show L.length+1=(L.take i++[x]++L.drop i).length by rw[hlen])
theorem Ev (A:Option Addr)(c:Nat)(L:List aG)(i:Nat)(ii:Int)(x:aG)(vb tv:Nat)(w:World)(gb:(ay 128 A c L).p w)(dX: ∀b,b∈(ay 128 A c L).fp→b<w.heap.size)(ei:ii=(i:Int))(hi:i≤L.length)(hn:L.length≤1048575)(hv:(bh vb tv (aR.cells x)).p w)(GG:vb∉(ay 128 A c L).fp):
    Calls prog 152 #[.slice A L.length c,vi ii,.slice (some (⟨vb,0,none⟩:Addr)) 1 1] w fun e w'=> ∃y:Option Addr×Nat,e=.returned (.slice y.1 (L.take i++[x]++L.drop i).length y.2)∧dh (ay 128 A c L) w w' (ay 128 y.1 y.2 (L.take i++[x]++L.drop i)):=by
 subst ei
 have mu:=br gb
 have nc:=mu.2
 have sm: ∀w',Kp (ay 128 A c L).fp w w'→(bh vb tv (aR.cells x)).p w':=fun w' hk=>qs hv hk GG
 have rD: ∀w',Kp (ay 128 A c L).fp w w'→fx w' (some (⟨vb,0,none⟩:Addr)) 1 ([x].flatMap aR.cells):=fun w' hk=>oK (sm w' hk)
 refine Mj ?_ func152 (WS.eG w _ gb (by cases A<;>simp [ay,fI]) dX)
 refine Mi ?_ (pG [(12,.sl i L.length)] (oc (rfl:(i:Int)=(i:Int)) (oc (rfl:L.length=L.length) (oc ((by omega):i≤L.length) on))))
 refine Mq 16 false ?_ rfl
 refine Md ((i:Int)=(L.length:Int)) (fun h1=>?_) fun h1=>?_
 · refine Ma ?_ (α:=aG) (L2:=[x]) 40 (fun bs w hS=>rD w hS.kp) (h63:=by show L.length+1≤_;omega) (hb:=by show (L.length+1)*_≤_;omega)
   intro A1 c1
   refine Mt [.slice A1 (L++[x]).length c1] fun bs w hS=>?_
   have vU:i=L.length:=by omega
   subst vU
   rw[List.take_length,List.drop_length,List.append_nil]
   exact⟨(A1,c1),rfl,hS.aW⟩
 refine Mi ?_ (pR ((L.length:Int)+1))
 refine Md ((c:Int)<(L.length:Int)+1) (fun h2=>?_) fun h2=>?_
 · refine Mi ?_ (pc (pG [(34,.sl 0 i)] (oc (rfl:0=0) (oc (rfl:(i:Int)=(i:Int)) (oc ((by omega):i≤c) on)))) (pc (pR ((L.length:Int)+1)) (pR (((L.length:Int)+1) - (i:Int)))))
   refine HS (α:=aG) 23 3 40 i (L.length+1 - i) ?_ (((L.length:Int)+1) - (i:Int)) (by omega) (by omega) hi (by omega) (by omega) (by omega)
   intro g2 c2 zs Dq J6 dq
   refine Mi ?_ (pG [(43,.sl i (i+(L.length+1 - i)))] (oc (rfl:(i:Int)=(i:Int)) (oc (rfl:i+(L.length+1 - i)=i+(L.length+1 - i)) (oc ((by omega):i≤i+(L.length+1 - i)) on))))
   refine AS (A1:=(if c2=i then (some (⟨g2,0,none⟩:Addr)) else (some (⟨g2,0,none⟩:Addr)).map (·.add (i*3)))) (A2:=(some (⟨vb,0,none⟩:Addr))) (n1:=(i+(L.length+1 - i)) - i) (k:=1) (q:=1) (vs:=[x].flatMap aR.cells) 40 (i*aR.size aG) ?_ (by rw[if_neg (by omega)];show some (Addr.add _ (i*3))=_;rw[cz];rfl) (by simp only[Nat.min_def];split<;>omega) (fun bs w hS=>rD w hS.kp) (by rw[ea,Nat.one_mul]) (ed _) (by rw[ea];rw[dq];have h9:=dj (L:=L) hi (by omega:L.length+1≤c2);omega)
   refine fP 8 ?_ ai
   refine bY ?_ (pc (pR ((i:Int)+1)) (pc (pG [(50,.sl (i+1) (i+(L.length+1 - i)))] (oc ((by omega):(i:Int)+1=(((i+1):Nat):Int)) (oc (rfl:i+(L.length+1 - i)=i+(L.length+1 - i)) (oc ((by omega):(i+1)≤i+(L.length+1 - i)) on)))) (pG [(53,.sl i L.length)] (oc (rfl:(i:Int)=(i:Int)) (oc (rfl:L.length=L.length) (oc ((by omega):i≤L.length) on))))))
   refine Mz ?_
   refine AS (A1:=(if c2=(i+1) then (some (⟨g2,0,none⟩:Addr)) else (some (⟨g2,0,none⟩:Addr)).map (·.add ((i+1)*3)))) (A2:=(if c=i then A else A.map (·.add (i*3)))) (n1:=(i+(L.length+1 - i)) - (i+1)) (k:=L.length - i) (q:=(L.length - i)) (vs:=(L.drop i).flatMap aR.cells) 40 (i*aR.size aG+aR.size aG) ?_ (by rw[if_neg (by omega)];show some (Addr.add _ ((i+1)*3))=_;rw[cz,Nat.succ_mul];rfl) (by simp only[Nat.min_def];split<;>omega) (fun bs w hS=>k9 (hS.res _ i1) hi) (iP L i) (ed _) (by rw[jr (by rw[ea,dq];have h9:=dj (L:=L) hi (by omega:L.length+1≤c2);omega),dq];exact dj hi (by omega))
   refine Mt [.slice (some (⟨g2,0,none⟩:Addr)) (i+(L.length+1 - i)) c2] fun bs w hS=>?_
   have hlen:(L.take i++[x]++L.drop i).length=L.length+1:=by simp only[List.length_append,List.length_take,List.length_drop,List.length_cons,List.length_nil];omega
   have j1:=hS.vF (ay 128 (some (⟨g2,0,none⟩:Addr)) c2 (L.take i++[x]++L.drop i)) (List.Sublist.refl _) (fun h=>qp hi (by omega) dq h)
   refine⟨(some ⟨g2,0,none⟩,c2),?_,j1.aW⟩
   exact congrArg (fun q=>Ending.returned (Value.slice (some (⟨g2,0,none⟩:Addr)) q c2)) (show i+(L.length+1 - i)=(L.take i++[x]++L.drop i).length by rw[hlen];omega)
 refine CZ (α:=aG) (by omega) ?_
 intro g zs hA Pc dq
 have J7:vb≠g:=fun e0=>GG (by rw[hA];simp[ay,fI,e0])
 refine Mi ?_ (pc (pR ((L.length:Int)+1)) (pc (pG [(60,.sl 0 (L.length+1))] (oc (rfl:0=0) (oc ((by omega):(L.length:Int)+1=(((L.length+1):Nat):Int)) (oc ((by omega):(L.length+1)≤c) on)))) (pc (pR ((i:Int)+1)) (pG [(66,.sl (i+1) (L.length+1))] (oc ((by omega):(i:Int)+1=(((i+1):Nat):Int)) (oc (rfl:(L.length+1)=(L.length+1)) (oc ((by omega):(i+1)≤(L.length+1)) on)))))))
 refine Mx ?_ (vs:=fun _=>[.slice (some (⟨vb,0,none⟩:Addr)) 1 1,.slice (if c=(i+1) then A else A.map (·.add ((i+1)*3))) ((L.length+1) - (i+1)) (c - (i+1))]) (v:=.bool false) (fun bs w hS=>by show (callFunc 195 #[.slice (some (⟨vb,0,none⟩:Addr)) 1 1,.slice (if c=(i+1) then A else A.map (·.add ((i+1)*3))) ((L.length+1) - (i+1)) (c - (i+1))]).run prog w=_;rw[(show (if c=(i+1) then A else A.map (·.add ((i+1)*3)))=some ⟨g,i*aR.size aG+aR.size aG,none⟩ from (by rw[if_neg (by omega),hA];show some (Addr.add _ ((i+1)*3))=_;rw[cz,Nat.succ_mul];rfl)),run_callFunc_extern func195 (by kernel_rfl) (by kernel_rfl) (by kernel_rfl) (e:=Extern.SlicesOverlaps.overlaps #[23,23] #[4]) (by kernel_rfl)];show ((Extern.SlicesOverlaps.overlaps #[23,23] #[4] #[.slice (some (⟨vb,0,none⟩:Addr)) 1 1,.slice (some _) _ _]).run _ w).andThen _=_;rw[Go.Lib.run_overlaps_apart w 23 4 128 Tryz.underlying23 _ (fun w=>cF _ _ w (by kernel_rfl)) ⟨vb,0,none⟩ ⟨g,i*aR.size aG+aR.size aG,none⟩ 1 1 _ _ J7 _ _ _ _ (mX (sm w hS.kp)) (mY (hS.res _ i0)) (by rw[dq];exact Nat.mul_ne_zero (by omega) (Nat.ne_of_gt aR.pos)) (jq (sm w hS.kp) 0) (jq (sm w hS.kp) _)];rfl)
 refine Mq 68 true ?_ rfl
 refine fP 8 ?_ ai
 refine bY ?_ (pc (pR ((i:Int)+1)) (pc (pG [(73,.sl (i+1) (L.length+1))] (oc ((by omega):(i:Int)+1=(((i+1):Nat):Int)) (oc (rfl:(L.length+1)=(L.length+1)) (oc ((by omega):(i+1)≤(L.length+1)) on)))) (pG [(76,.sl i (L.length+1))] (oc (rfl:(i:Int)=(i:Int)) (oc (rfl:(L.length+1)=(L.length+1)) (oc ((by omega):i≤(L.length+1)) on))))))
 refine Mz ?_
 refine AS (A1:=(if c=(i+1) then A else A.map (·.add ((i+1)*3)))) (A2:=(if c=i then A else A.map (·.add (i*3)))) (n1:=(L.length+1) - (i+1)) (k:=(L.length+1) - i) (q:=(L.length - i)) (vs:=(L.drop i).flatMap aR.cells) 40 (i*aR.size aG+aR.size aG) ?_ (by rw[if_neg (by omega),hA];show some (Addr.add _ ((i+1)*3))=_;rw[cz,Nat.succ_mul];rfl) (by simp only[Nat.min_def];split<;>omega) (fun bs w hS=>by rw[show (if c=i then A else A.map (·.add (i*3)))=some ⟨g,i*aR.size aG,none⟩ from (by rw[if_neg (by omega),hA];show some (Addr.add _ (i*3))=_;rw[cz];rfl)];exact l9 hi (hS.res _ i0)) (iP L i) (ed _) (by rw[dq];exact dj hi (by omega))
 refine Mi ?_ (pG [(80,.sl i (L.length+1))] (oc (rfl:(i:Int)=(i:Int)) (oc (rfl:(L.length+1)=(L.length+1)) (oc ((by omega):i≤(L.length+1)) on))))
 refine AS (A1:=(if c=i then A else A.map (·.add (i*3)))) (A2:=(some (⟨vb,0,none⟩:Addr))) (n1:=(L.length+1) - i) (k:=1) (q:=1) (vs:=[x].flatMap aR.cells) 40 (i*aR.size aG) ?_ (by rw[if_neg (by omega),hA];show some (Addr.add _ (i*3))=_;rw[cz];rfl) (by simp only[Nat.min_def];split<;>omega) (fun bs w hS=>rD w hS.kp) (by rw[ea,Nat.one_mul]) (ed _) (by rw[ea];rw[jr (by rw[dq];exact dj hi (by omega)),dq];have h9:=dj (L:=L) hi (by omega:L.length+1≤c);omega)
 refine Mt [.slice A (L.length+1) c] fun bs w hS=>?_
 have hlen:(L.take i++[x]++L.drop i).length=L.length+1:=by simp only[List.length_append,List.length_take,List.length_drop,List.length_cons,List.length_nil];omega
 have j1:=hS.vF (ay 128 (some ⟨g,0,none⟩) c (L.take i++[x]++L.drop i)) (List.Sublist.refl _) (fun h=>qq hi (by omega) dq h)
 refine⟨(some ⟨g,0,none⟩,c),?_,j1.aW⟩
 subst hA
 exact congrArg (fun q=>Ending.returned (Value.slice (some (⟨g,0,none⟩:Addr)) q c)) (show L.length+1=(L.take i++[x]++L.drop i).length by rw[hlen])
theorem Ew (A:Option Addr)(c:Nat)(L:List ae)(i:Nat)(ii:Int)(x:ae)(vb tv:Nat)(w:World)(gb:(ay 115 A c L).p w)(dX: ∀b,b∈(ay 115 A c L).fp→b<w.heap.size)(ei:ii=(i:Int))(hi:i≤L.length)(hn:L.length≤1048575)(hv:(bh vb tv (aR.cells x)).p w)(GG:vb∉(ay 115 A c L).fp):
    Calls prog 149 #[.slice A L.length c,vi ii,.slice (some (⟨vb,0,none⟩:Addr)) 1 1] w fun e w'=> ∃y:Option Addr×Nat,e=.returned (.slice y.1 (L.take i++[x]++L.drop i).length y.2)∧dh (ay 115 A c L) w w' (ay 115 y.1 y.2 (L.take i++[x]++L.drop i)):=by
 subst ei
 have mu:=br gb
 have nc:=mu.2
 have sm: ∀w',Kp (ay 115 A c L).fp w w'→(bh vb tv (aR.cells x)).p w':=fun w' hk=>qs hv hk GG
 have rD: ∀w',Kp (ay 115 A c L).fp w w'→fx w' (some (⟨vb,0,none⟩:Addr)) 1 ([x].flatMap aR.cells):=fun w' hk=>oK (sm w' hk)
 refine Mj ?_ func149 (WS.eG w _ gb (by cases A<;>simp [ay,fI]) dX)
 refine Mi ?_ (pG [(12,.sl i L.length)] (oc (rfl:(i:Int)=(i:Int)) (oc (rfl:L.length=L.length) (oc ((by omega):i≤L.length) on))))
 refine Mq 16 false ?_ rfl
 refine Md ((i:Int)=(L.length:Int)) (fun h1=>?_) fun h1=>?_
 · refine Ma ?_ (α:=ae) (L2:=[x]) 56 (fun bs w hS=>rD w hS.kp) (h63:=by show L.length+1≤_;omega) (hb:=by show (L.length+1)*_≤_;omega)
   intro A1 c1
   refine Mt [.slice A1 (L++[x]).length c1] fun bs w hS=>?_
   have vU:i=L.length:=by omega
   subst vU
   rw[List.take_length,List.drop_length,List.append_nil]
   exact⟨(A1,c1),rfl,hS.aW⟩
 refine Mi ?_ (pR ((L.length:Int)+1))
 refine Md ((c:Int)<(L.length:Int)+1) (fun h2=>?_) fun h2=>?_
 · refine Mi ?_ (pc (pG [(34,.sl 0 i)] (oc (rfl:0=0) (oc (rfl:(i:Int)=(i:Int)) (oc ((by omega):i≤c) on)))) (pc (pR ((L.length:Int)+1)) (pR (((L.length:Int)+1) - (i:Int)))))
   refine HS (α:=ae) 22 3 56 i (L.length+1 - i) ?_ (((L.length:Int)+1) - (i:Int)) (by omega) (by omega) hi (by omega) (by omega) (by omega)
   intro g2 c2 zs Dq J6 dq
   refine Mi ?_ (pG [(43,.sl i (i+(L.length+1 - i)))] (oc (rfl:(i:Int)=(i:Int)) (oc (rfl:i+(L.length+1 - i)=i+(L.length+1 - i)) (oc ((by omega):i≤i+(L.length+1 - i)) on))))
   refine AS (A1:=(if c2=i then (some (⟨g2,0,none⟩:Addr)) else (some (⟨g2,0,none⟩:Addr)).map (·.add (i*4)))) (A2:=(some (⟨vb,0,none⟩:Addr))) (n1:=(i+(L.length+1 - i)) - i) (k:=1) (q:=1) (vs:=[x].flatMap aR.cells) 56 (i*aR.size ae) ?_ (by rw[if_neg (by omega)];show some (Addr.add _ (i*4))=_;rw[cz];rfl) (by simp only[Nat.min_def];split<;>omega) (fun bs w hS=>rD w hS.kp) (by rw[ea,Nat.one_mul]) (ed _) (by rw[ea];rw[dq];have h9:=dj (L:=L) hi (by omega:L.length+1≤c2);omega)
   refine fP 8 ?_ ai
   refine bY ?_ (pc (pR ((i:Int)+1)) (pc (pG [(50,.sl (i+1) (i+(L.length+1 - i)))] (oc ((by omega):(i:Int)+1=(((i+1):Nat):Int)) (oc (rfl:i+(L.length+1 - i)=i+(L.length+1 - i)) (oc ((by omega):(i+1)≤i+(L.length+1 - i)) on)))) (pG [(53,.sl i L.length)] (oc (rfl:(i:Int)=(i:Int)) (oc (rfl:L.length=L.length) (oc ((by omega):i≤L.length) on))))))
   refine Mz ?_
   refine AS (A1:=(if c2=(i+1) then (some (⟨g2,0,none⟩:Addr)) else (some (⟨g2,0,none⟩:Addr)).map (·.add ((i+1)*4)))) (A2:=(if c=i then A else A.map (·.add (i*4)))) (n1:=(i+(L.length+1 - i)) - (i+1)) (k:=L.length - i) (q:=(L.length - i)) (vs:=(L.drop i).flatMap aR.cells) 56 (i*aR.size ae+aR.size ae) ?_ (by rw[if_neg (by omega)];show some (Addr.add _ ((i+1)*4))=_;rw[cz,Nat.succ_mul];rfl) (by simp only[Nat.min_def];split<;>omega) (fun bs w hS=>k9 (hS.res _ i1) hi) (iP L i) (ed _) (by rw[jr (by rw[ea,dq];have h9:=dj (L:=L) hi (by omega:L.length+1≤c2);omega),dq];exact dj hi (by omega))
   refine Mt [.slice (some (⟨g2,0,none⟩:Addr)) (i+(L.length+1 - i)) c2] fun bs w hS=>?_
   have hlen:(L.take i++[x]++L.drop i).length=L.length+1:=by simp only[List.length_append,List.length_take,List.length_drop,List.length_cons,List.length_nil];omega
   have j1:=hS.vF (ay 115 (some (⟨g2,0,none⟩:Addr)) c2 (L.take i++[x]++L.drop i)) (List.Sublist.refl _) (fun h=>qp hi (by omega) dq h)
   refine⟨(some ⟨g2,0,none⟩,c2),?_,j1.aW⟩
   exact congrArg (fun q=>Ending.returned (Value.slice (some (⟨g2,0,none⟩:Addr)) q c2)) (show i+(L.length+1 - i)=(L.take i++[x]++L.drop i).length by rw[hlen];omega)
 refine CZ (α:=ae) (by omega) ?_
 intro g zs hA Pc dq
 have J7:vb≠g:=fun e0=>GG (by rw[hA];simp[ay,fI,e0])
 refine Mi ?_ (pc (pR ((L.length:Int)+1)) (pc (pG [(60,.sl 0 (L.length+1))] (oc (rfl:0=0) (oc ((by omega):(L.length:Int)+1=(((L.length+1):Nat):Int)) (oc ((by omega):(L.length+1)≤c) on)))) (pc (pR ((i:Int)+1)) (pG [(66,.sl (i+1) (L.length+1))] (oc ((by omega):(i:Int)+1=(((i+1):Nat):Int)) (oc (rfl:(L.length+1)=(L.length+1)) (oc ((by omega):(i+1)≤(L.length+1)) on)))))))
 refine Mx ?_ (vs:=fun _=>[.slice (some (⟨vb,0,none⟩:Addr)) 1 1,.slice (if c=(i+1) then A else A.map (·.add ((i+1)*4))) ((L.length+1) - (i+1)) (c - (i+1))]) (v:=.bool false) (fun bs w hS=>by show (callFunc 191 #[.slice (some (⟨vb,0,none⟩:Addr)) 1 1,.slice (if c=(i+1) then A else A.map (·.add ((i+1)*4))) ((L.length+1) - (i+1)) (c - (i+1))]).run prog w=_;rw[(show (if c=(i+1) then A else A.map (·.add ((i+1)*4)))=some ⟨g,i*aR.size ae+aR.size ae,none⟩ from (by rw[if_neg (by omega),hA];show some (Addr.add _ ((i+1)*4))=_;rw[cz,Nat.succ_mul];rfl)),run_callFunc_extern func191 (by kernel_rfl) (by kernel_rfl) (by kernel_rfl) (e:=Extern.SlicesOverlaps.overlaps #[22,22] #[4]) (by kernel_rfl)];show ((Extern.SlicesOverlaps.overlaps #[22,22] #[4] #[.slice (some (⟨vb,0,none⟩:Addr)) 1 1,.slice (some _) _ _]).run _ w).andThen _=_;rw[Go.Lib.run_overlaps_apart w 22 4 115 Tryz.underlying22 _ (fun w=>cF _ _ w (by kernel_rfl)) ⟨vb,0,none⟩ ⟨g,i*aR.size ae+aR.size ae,none⟩ 1 1 _ _ J7 _ _ _ _ (mX (sm w hS.kp)) (mY (hS.res _ i0)) (by rw[dq];exact Nat.mul_ne_zero (by omega) (Nat.ne_of_gt aR.pos)) (jq (sm w hS.kp) 0) (jq (sm w hS.kp) _)];rfl)
 refine Mq 68 true ?_ rfl
 refine fP 8 ?_ ai
 refine bY ?_ (pc (pR ((i:Int)+1)) (pc (pG [(73,.sl (i+1) (L.length+1))] (oc ((by omega):(i:Int)+1=(((i+1):Nat):Int)) (oc (rfl:(L.length+1)=(L.length+1)) (oc ((by omega):(i+1)≤(L.length+1)) on)))) (pG [(76,.sl i (L.length+1))] (oc (rfl:(i:Int)=(i:Int)) (oc (rfl:(L.length+1)=(L.length+1)) (oc ((by omega):i≤(L.length+1)) on))))))
 refine Mz ?_
 refine AS (A1:=(if c=(i+1) then A else A.map (·.add ((i+1)*4)))) (A2:=(if c=i then A else A.map (·.add (i*4)))) (n1:=(L.length+1) - (i+1)) (k:=(L.length+1) - i) (q:=(L.length - i)) (vs:=(L.drop i).flatMap aR.cells) 56 (i*aR.size ae+aR.size ae) ?_ (by rw[if_neg (by omega),hA];show some (Addr.add _ ((i+1)*4))=_;rw[cz,Nat.succ_mul];rfl) (by simp only[Nat.min_def];split<;>omega) (fun bs w hS=>by rw[show (if c=i then A else A.map (·.add (i*4)))=some ⟨g,i*aR.size ae,none⟩ from (by rw[if_neg (by omega),hA];show some (Addr.add _ (i*4))=_;rw[cz];rfl)];exact l9 hi (hS.res _ i0)) (iP L i) (ed _) (by rw[dq];exact dj hi (by omega))
 refine Mi ?_ (pG [(80,.sl i (L.length+1))] (oc (rfl:(i:Int)=(i:Int)) (oc (rfl:(L.length+1)=(L.length+1)) (oc ((by omega):i≤(L.length+1)) on))))
 refine AS (A1:=(if c=i then A else A.map (·.add (i*4)))) (A2:=(some (⟨vb,0,none⟩:Addr))) (n1:=(L.length+1) - i) (k:=1) (q:=1) (vs:=[x].flatMap aR.cells) 56 (i*aR.size ae) ?_ (by rw[if_neg (by omega),hA];show some (Addr.add _ (i*4))=_;rw[cz];rfl) (by simp only[Nat.min_def];split<;>omega) (fun bs w hS=>rD w hS.kp) (by rw[ea,Nat.one_mul]) (ed _) (by rw[ea];rw[jr (by rw[dq];exact dj hi (by omega)),dq];have h9:=dj (L:=L) hi (by omega:L.length+1≤c);omega)
 refine Mt [.slice A (L.length+1) c] fun bs w hS=>?_
 have hlen:(L.take i++[x]++L.drop i).length=L.length+1:=by simp only[List.length_append,List.length_take,List.length_drop,List.length_cons,List.length_nil];omega
 have j1:=hS.vF (ay 115 (some ⟨g,0,none⟩) c (L.take i++[x]++L.drop i)) (List.Sublist.refl _) (fun h=>qq hi (by omega) dq h)
 refine⟨(some ⟨g,0,none⟩,c),?_,j1.aW⟩
 subst hA
 exact congrArg (fun q=>Ending.returned (Value.slice (some (⟨g,0,none⟩:Addr)) q c)) (show L.length+1=(L.take i++[x]++L.drop i).length by rw[hlen])
theorem sN (x:aG)(t:ByteArray)(w:World):Calls prog 194 #[x.val,vs t] w fun e w'=>e=.returned (vi (bK x.name t))∧Kp [] w w':=by
 refine M0 ?_ func194
 refine Mp ?_ call147 (fun bs w hS=>kU x.name t w)
 exact Mt [vi (bK x.name t)] fun bs w hS=>⟨rfl,hS.kp⟩
theorem vo (s:Sl aG)(t:ByteArray)(w:World)(hs:s.rd B w)(hn:s.n≤1048576):Calls prog 193 #[s.val,vs t,.func (.func 194) #[] #[]] w fun e w'=>e=.returned (.tuple #[vi (eQ (fun x:aG=>bK x.name t) s.xs:Nat),vb (dk (fun x:aG=>bK x.name t) s.xs)])∧Kp [] w w':=by
 have cV:=Sl.rd.ok hs
 have iV:=Sl.ok.nc cV
 have iW:s.n=s.xs.length:=rfl
 refine Mj ?_ func193 (WS.start w)
 refine Ml (σ:=Nat×Nat×Nat) (fun⟨i,j,f⟩=>i≤j∧j≤s.n∧j - i≤f∧eQ (fun x:aG=>bK x.name t) s.xs=lY (fun j=>decide (bK (s.at j).name t<0)) f i j) (fun⟨i,j,f⟩=>f) (fun _=>[]) [10,9,8,0,1,2] (fun⟨i,j,f⟩=>[(10,vI (j:Int)),(9,vI (i:Int))]) (fun _=>[]) ?_ (⟨0,s.n,s.n⟩) ⟨Nat.zero_le _,Nat.le_refl _,Nat.le_refl _,rfl⟩
 rintro⟨i,j,f⟩ ⟨h1,h2,h3,hI⟩ _ bu
 have hdiv:((i:Int)+(j:Int)) / 2=(((i+j) / 2:Nat):Int):=by omega
 refine Md ((i:Int)<(j:Int)) (fun h1=>?_) fun h1=>?_
 rotate_left
 · refine Md ((i:Int)<(s.n:Int)) (fun h3=>?_) fun h3=>?_
   rotate_left
   · refine Mt [vi (i:Int),vb false] fun bs w hS=>?_
     have jf:i=j:=by omega
     subst jf
     have hr:eQ (fun x:aG=>bK x.name t) s.xs=i:=by rw[hI];exact iQ _ _ _ _ (Nat.le_refl _)
     refine⟨?_,hS.kp⟩
     have ny:dk (fun x:aG=>bK x.name t) s.xs=false:=by
       unfold dk;rw[hr]
       rw[decide_eq_false (show ¬i<s.xs.length by omega)];rfl
     rw[hr,ny]
     rfl
   refine Mi ?_ (pA 43 44 (i:Int) i (db hs))
   refine Mp ?_ call194 (fun bs w hS=>sN (s.at i) t w)
   refine Mt [vi (i:Int),vb (decide (bK (s.at i).name t=0))] fun bs w hS=>?_
   have jf:i=j:=by omega
   subst jf
   have hr:eQ (fun x:aG=>bK x.name t) s.xs=i:=by rw[hI];exact iQ _ _ _ _ (Nat.le_refl _)
   refine⟨?_,hS.kp⟩
   have ny:dk (fun x:aG=>bK x.name t) s.xs=(decide (bK (s.at i).name t=0)):=by
     unfold dk;rw[hr]
     rw[decide_eq_true (show i<s.xs.length by omega)];rfl
   rw[hr,ny]
   rfl
 refine Mi ?_ (pc (pR ((i:Int)+(j:Int))) (pc (pG [(21,.val (.int .u64 ((i:Int)+(j:Int))))] (oc ((jD Tryz.underlying3 Tryz.underlying203 (by omega) (by omega)): ∀w,(convert 3 203 (vi ((i:Int)+(j:Int))):Sem Value).run prog w=.ok (.int .u64 ((i:Int)+(j:Int))) w) on)) (pc (pG [(22,.val (.int .u64 (((i:Int)+(j:Int)) / 2)))] (oc (qn: ∀w,(do eqGuard .shr 203 (.tmp 21) (.const (.int .u64 1)) (.int .u64 ((i:Int)+(j:Int))) (.int .u64 1);binOp .shr 203 (.int .u64 ((i:Int)+(j:Int))) (.int .u64 1):Sem Value).run prog w=.ok (.int .u64 (((i:Int)+(j:Int)) / 2)) w) on)) (pc (pG [(23,.val (vi (((i:Int)+(j:Int)) / 2)))] (oc ((jE Tryz.underlying203 Tryz.underlying3 (by omega) (by omega)): ∀w,(convert 203 3 (.int .u64 (((i:Int)+(j:Int)) / 2)):Sem Value).run prog w=.ok (vi (((i:Int)+(j:Int)) / 2)) w) on)) (pA 27 28 (((i:Int)+(j:Int)) / 2) (((i:Int)+(j:Int)) / 2).toNat (db hs))))))
 refine Mp ?_ call194 (fun bs w hS=>sN (s.at (((i:Int)+(j:Int)) / 2).toNat) t w)
 refine Md (bK (s.at (((i:Int)+(j:Int)) / 2).toNat).name t<0) (fun h2=>?_) fun h2=>?_
 rotate_left
 · have yn:f=(f - 1)+1:=by omega
   rw[yn] at hI
   have sg:=hI.trans (mH (by omega) (decide_eq_false (by assumption)))
   exact bu ⟨i,(i+j) / 2,f - 1⟩ ⟨by omega,by omega,by omega,sg⟩ (by show f - 1<f;omega)
 refine Mi ?_ (pR ((((i:Int)+(j:Int)) / 2)+1))
 have yn:f=(f - 1)+1:=by omega
 rw[yn] at hI
 have sg:=hI.trans (qt (by omega) (decide_eq_true (by assumption)))
 exact bu ⟨(i+j) / 2+1,j,f - 1⟩ ⟨by omega,by omega,by omega,sg⟩ (by show f - 1<f;omega)
theorem xA (s:Sl aG)(t:ByteArray)(w:World)(hs:s.rd B w)(hn:s.n≤1048576):Calls prog 151 #[s.val,vs t] w fun e w'=>e=.returned (.tuple #[vi (eQ (fun x:aG=>bK x.name t) s.xs:Nat),vb (dk (fun x:aG=>bK x.name t) s.xs)])∧Kp [] w w':=by
 have cV:=Sl.rd.ok hs
 have iV:=Sl.ok.nc cV
 have iW:s.n=s.xs.length:=rfl
 refine M0 ?_ func151
 refine Mp ?_ call193 (fun bs w hS=>vo s t w (Sl.rd.kp hs hS.kp) (by omega))
 exact Mt [vi ((eQ (fun x:aG=>bK x.name t) s.xs:Nat):Int),vb (dk (fun x:aG=>bK x.name t) s.xs)] fun bs w hS=>⟨rfl,hS.kp⟩
theorem lW (s:Sl aG)(t:ByteArray)(w:World)(hs:s.rd B w):Calls prog 106 #[s.val,vs t] w fun e w'=>e=.returned (vi (aQ (fun x:aG=>decide (x.name=t)) s.xs))∧Kp [] w w':=by
 have cV:=Sl.rd.ok hs
 have iV:=Sl.ok.nc cV
 have iW:s.n=s.xs.length:=rfl
 refine M0 ?_ func106
 refine Ml (σ:=Nat) (fun i=>i≤s.n∧ ∀j,j<i→decide ((s.at j).name=t)=false) (fun i=>s.n - i) (fun _=>[]) [5,0,1] (fun i=>[(5,vI (i:Int))]) (fun _=>[]) ?_ 0 ⟨Nat.zero_le _,fun j hj=>absurd hj (Nat.not_lt_zero _)⟩
 rintro i ⟨hi,hI⟩ _ bu
 refine Md ((i:Int)<(s.n:Int)) (fun h1=>?_) fun h1=>?_
 rotate_left
 · exact b8 (-1) (by rw[gp (p:=(fun x:aG=>decide (x.name=t))) fun j hj=>hI j (by omega)])
 refine Mi ?_ (pc (pI 14 (i:Int) i (db hs)) (pF 16 i 0 1 (db hs)))
 refine Md ((s.at i).name=t) (fun h2=>?_) fun h2=>?_
 · exact b8 (i:Int) (by rw[fR (p:=(fun x:aG=>decide (x.name=t))) (i:=i) (by omega) (decide_eq_true (by assumption)) hI])
 refine Mi ?_ (pR ((i:Int)+1))
 exact bu (i+1) ⟨by omega,fun j hj=>by rcases Nat.lt_succ_iff_lt_or_eq.1 hj with h|h;exact hI j h;subst h;exact decide_eq_false (by assumption)⟩ (by omega)
theorem vp (s:Sl aG)(w:World)(hs:s.rd B w)(hb:s.n≤1048576):Calls prog 69 #[s.val] w fun e w'=> ∃y:Sl aG,e=.returned y.val∧y.xs=s.xs∧Kp [] w w'∧gC w w' (ay 128 y.A y.c y.xs):=by
 have cV:=Sl.rd.ok hs
 have iV:=Sl.ok.nc cV
 have iW:s.n=s.xs.length:=rfl
 refine M0 ?_ func69
 refine Mi ?_ (pG [(4,.val (.bool s.A.isNone))] (oc ((eq_nil Tryz.underlying23): ∀w,(do eqGuard .eql 23 (.tmp 3) (.const vn) s.val vn;binOp .eql 23 s.val vn:Sem Value).run prog w=.ok (.bool s.A.isNone) w) on))
 refine Mb s.A.isNone (fun h1=>?_) fun h1=>?_
 · refine Mt [vn] fun bs w hS=>?_
   have yp:s.xs=[]:=Sl.ok.empty cV (by cases h:s.A<;>simp_all)
   exact⟨Sl.nil,rfl,yp.symm,hS.kp,nX 128 w⟩
 refine LN ?_ (α:=aG) (e:=128)
 intro A1
 refine Ma ?_ (α:=aG) (L2:=s.xs) 40 (fun bs w hS=>Sl.rd.src (s:=s) (Sl.rd.kp hs hS.kp))
 intro A2 c2
 exact Mt [.slice A2 ([]++s.xs).length c2] fun bs w hS=>⟨⟨A2,c2,[]++s.xs⟩,rfl,by simp,hS.kp,hS.rF⟩
theorem B8 {B B':Nat→Prop}(a b:Sl aG)(w:World)(ha:a.rd B w)(hb:b.rd B' w)(he:a.xs=b.xs):Calls prog 44 #[a.val,b.val] w fun e w'=>e=.returned (vb true)∧Kp [] w w':=by
 have p9:=Sl.rd.ok ha
 have EX:=Sl.rd.ok hb
 have hn:=sS he
 have JS:=Sl.ok.nc p9
 refine M0 ?_ func44
 refine cr ((a.n:Int)=(b.n:Int)) (fun h1=>?_) fun h1=>?_
 rotate_left
 · exfalso;first|omega|exact h1 (jm he i)
 refine Ml (σ:=Nat) (fun i=>True) (fun i=>a.n - i) (fun _=>[]) [5,0,1] (fun i=>[(5,vI (i:Int))]) (fun _=>[]) ?_ 0 trivial
 rintro i _ _ bu
 have fg:=jm he i
 refine Md ((i:Int)<(a.n:Int)) (fun h2=>?_) fun h2=>?_
 rotate_left
 · exact Mt [vb true] fun bs w hS=>⟨rfl,hS.kp⟩
 refine cZ 9 [] [] [] ai ?_
 refine bY ?_ (pc (pA 19 20 (i:Int) i (db ha)) (pc (pA 23 24 (i:Int) i (db hb)) (pG [(25,.val (vb (!((decide ((a.at i).name=(b.at i).name)) && ((decide ((a.at i).value=(b.at i).value)) && ((decide ((a.at i).version=(b.at i).version)) && true))))))] (oc ((qm (by kernel_rfl) (by kernel_rfl)): ∀w,(do eqGuard .neq 128 (.tmp 20) (.tmp 24) (a.at i).val (b.at i).val;binOp .neq 128 (a.at i).val (b.at i).val:Sem Value).run prog w=.ok (vb (!((decide ((a.at i).name=(b.at i).name)) && ((decide ((a.at i).value=(b.at i).value)) && ((decide ((a.at i).version=(b.at i).version)) && true))))) w) on))))
 refine fL ((decide ((a.at i).name=(b.at i).name)) && ((decide ((a.at i).value=(b.at i).value)) && ((decide ((a.at i).version=(b.at i).version)) && true))) (fun h3=>?_) fun h3=>?_
 rotate_left
 · exfalso;simp[jm he i] at h3
 refine Mi ?_ (pR ((i:Int)+1))
 exact bu (i+1) trivial (by omega)
theorem GH (s:Sl aG)(t v:ByteArray)(w:World)(hs:s.rd B w)(ht:t.size≤9223372036854775807)(hv:v.size≤9223372036854775807):Calls prog 87 #[.slice s.A s.n s.c,.string t,.string v] w fun e w'=> ∃y:Sl aG,e=.returned (.tuple #[.slice y.A y.n y.c,.agg #[.int .i64 ((cA s.xs t v).2.1).code,.int .i64 ((cA s.xs t v).2.1).n,.string ((cA s.xs t v).2.1).text],.int .i64 (cA s.xs t v).2.2])∧y.xs=(cA s.xs t v).1∧bJ w w' y:=by
 have cV:=Sl.rd.ok hs
 have iV:=Sl.ok.nc cV
 have iW:s.n=s.xs.length:=rfl
 refine M0 ?_ func87
 refine Mp ?_ call65 (fun bs w hS=>pV s w (Sl.rd.kp hs hS.kp))
 refine cr (cy s.xs=0) (fun h1=>?_) fun h1=>?_
 rotate_left
 · refine Mt [vn,vz 0,vi (cy s.xs)] fun bs w hS=>?_
   have hm:cA s.xs t v=([],gl,cy s.xs):=by
     grind[cA,mj]
   refine⟨Sl.nil,?_,?_,hS.aO (Sl.ao _ _)⟩
   · rw[hm]<;>rfl
   · rw[hm]<;>rfl
 have mg:=(iz h1).1
 refine Mp ?_ (vs:=fun bs=>[vs t]) call129 (fun bs w hS=>mQ _ w (by first|assumption|omega|(simp only[aL];omega)))
 refine fL (ee t) (fun h2=>?_) fun h2=>?_
 rotate_left
 · refine Mt [vn,vz 0,vi 4] fun bs w hS=>?_
   have hm:cA s.xs t v=([],gl,4):=by
     grind[cA,mj]
   refine⟨Sl.nil,?_,?_,hS.aO (Sl.ao _ _)⟩
   · rw[hm]<;>rfl
   · rw[hm]<;>rfl
 refine Md ((12:Int)<(v.size:Int)) (fun h3=>?_) fun h3=>?_
 · refine Mt [vn,vz 0,vi 1] fun bs w hS=>?_
   have hm:cA s.xs t v=([],gl,1):=by
     grind[cA,mj]
   refine⟨Sl.nil,?_,?_,hS.aO (Sl.ao _ _)⟩
   · rw[hm]<;>rfl
   · rw[hm]<;>rfl
 refine Mf ?_ call69 (fun bs w hS=>vp s w (Sl.rd.kp hs hS.kp) (by omega))
 rintro y1 a5
 obtain⟨A1,c1,rfl⟩:=Sl.wN a5
 refine eu (ay 128 A1 c1 (s.xs:List aG)) (List.Sublist.refl _) (fun w h=>h) ?_
 refine bk (F:=dY A1 c1 (s.xs:List aG)) (fun bs w hS=>br (hS.res _ i0)) fun cI=>?_
 have cn:=cI.2
 refine Mp ?_ (v:=.tuple #[vi ((eQ (fun x:aG=>bK x.name t) s.xs:Nat):Int),vb (dk (fun x:aG=>bK x.name t) s.xs)]) call151 (fun bs w hS=>xA (⟨A1,c1,s.xs⟩:Sl aG) t w (Rr (B:=bH) (hS.res _ i0) (fun _ _=>trivial) (fun z hz=>Sl.rd.mem (s:=s) hs z hz)) (show s.xs.length≤1048576 by omega))
 have oB:=qu (l:=s.xs) (by assumption) t
 have qb:=du (fun x:aG=>decide (x.name=t)) s.xs
 generalize hJ:aQ (fun x:aG=>decide (x.name=t)) s.xs=J at oB qb
 have wY:=n5 (fun x:aG=>bK x.name t) s.xs
 generalize hk:eQ (fun x:aG=>bK x.name t) s.xs=k at oB wY⊢
 generalize hf:dk (fun x:aG=>bK x.name t) s.xs=fb at oB⊢
 refine HP fb true [(11,false)] (fun h4=>?_) fun h4=>?_
 rotate_left
 · have At:=of_decide_eq_false (oB.1.symm.trans h4)
   refine Md ((s.xs.length:Int)=5) (fun h6=>?_) fun h6=>?_
   · refine Mt [.slice A1 s.xs.length c1,vz 8,vi 0] fun bs w hS=>?_
     have hm:cA s.xs t v=(s.xs,⟨8,0,emp⟩,0):=by
       grind[cA,mj]
     refine⟨⟨A1,c1,s.xs⟩,?_,?_,hS.aO (y:=(⟨A1,c1,s.xs⟩:Sl aG)) (a4 i0 (hS.res _ i0) (fun z hz=>Sl.rd.mem (s:=s) hs z hz))⟩
     · rw[hm]<;>rfl
     · exact Eq.trans rfl (congrArg Prod.fst hm).symm
   refine M1 ?_
   refine nF ?_ (v:=fun q5=>.slice q5.1 (s.xs.take k++[(⟨t,v,1⟩:aG)]++s.xs.drop k).length q5.2) (vs:=fun bs=>[.slice A1 s.xs.length c1,vi (k:Int),.slice (some (kv bs 1 0)) 1 1]) call152 (fun bs w hS=>(Ev A1 c1 s.xs k _ (⟨t,v,1⟩:aG) (bs.getD 1 0) 128 w (hS.res _ i0) hS.lH.2.2 rfl (by first|omega|(simp only[Sl.n] at*;omega)) (by first|omega|(simp only[Sl.n] at*;omega)) (hS.loc 1 ⟨128,[vS t,vS v,vI 1]⟩ (by kernel_rfl) (by simp)) (hS.tm (i:=1) (b:=⟨128,[vS t,vS v,vI 1]⟩) (by kernel_rfl))).mono (fun e w' ⟨y,h1,h2⟩=>⟨y,h1,trivial,h2⟩))
   rintro q5 _
   refine Mt [.slice q5.1 (s.xs.take k++[(⟨t,v,1⟩:aG)]++s.xs.drop k).length q5.2,.agg #[vi 0,vi 1,ve],vi 0] fun bs w hS=>?_
   have gf:s.xs.take k++[(⟨t,v,1⟩:aG)]++s.xs.drop k=dW (fun x:aG=>Op.bytesLess t.toList x.name.toList) ⟨t,v,1⟩ s.xs:=xV ((wM aG.name (wC (by assumption) t) (by rw[hJ];omega)).trans hk)
   have hm:cA s.xs t v=(dW (fun x:aG=>Op.bytesLess t.toList x.name.toList) ⟨t,v,1⟩ s.xs,⟨0,1,emp⟩,0):=by
     grind[cA,mj]
   refine⟨⟨q5.1,q5.2,s.xs.take k++[(⟨t,v,1⟩:aG)]++s.xs.drop k⟩,?_,?_,hS.aO (y:=(⟨q5.1,q5.2,s.xs.take k++[(⟨t,v,1⟩:aG)]++s.xs.drop k⟩:Sl aG)) (a4 i0 (hS.res _ i0) (fun z hz=>?_))⟩
   · rw[hm]<;>rfl
   · exact Eq.trans gf (congrArg Prod.fst hm).symm
   · rw[gf] at hz
     rcases ko hz with hz|hz
     · subst hz;exact⟨ht,hv⟩
     · exact Sl.rd.mem (s:=s) hs z hz
 have GA:=oB.2 h4
 subst GA
 have MS:=ud ((iz (l:=s.xs) (by assumption)).2 k (by omega))
 have Pd:=MS.2.2.1
 have Pe:=MS.2.2.2.1
 refine Mi ?_ (pc (fG 46 (k:Int) k s.xs.length i0) (lg 48 k 2 1 i0))
 refine Md ((s.xs.getD k default).version=1073741824) (fun h5=>?_) fun h5=>?_
 · refine Mt [.slice A1 s.xs.length c1,vz 8,vi 0] fun bs w hS=>?_
   have hm:cA s.xs t v=(s.xs,⟨8,0,emp⟩,0):=by
     grind[cA,mj]
   refine⟨⟨A1,c1,s.xs⟩,?_,?_,hS.aO (y:=(⟨A1,c1,s.xs⟩:Sl aG)) (a4 i0 (hS.res _ i0) (fun z hz=>Sl.rd.mem (s:=s) hs z hz))⟩
   · rw[hm]<;>rfl
   · exact Eq.trans rfl (congrArg Prod.fst hm).symm
 refine Mi ?_ (fG 67 (k:Int) k s.xs.length i0)
 refine Ms k 1 (⟨(s.xs.getD k default).name,v,(s.xs.getD k default).version⟩:aG) ?_ (by omega)
 intro L3 sX B0
 have ki:L3.getD k default=(⟨(s.xs.getD k default).name,v,(s.xs.getD k default).version⟩:aG):=by rw[sX];exact bQ (by omega)
 have iX:L3=List.set s.xs k (⟨(s.xs.getD k default).name,v,(s.xs.getD k default).version⟩:aG):=by rw[sX]
 refine Mi ?_ (pc (fG 71 (k:Int) k s.xs.length i0) (pc (l4 73 k 2 1 ki i0) (pc (pR ((s.xs.getD k default).version+1)) (fG 75 (k:Int) k s.xs.length i0))))
 refine Ms k 2 (⟨(s.xs.getD k default).name,v,(s.xs.getD k default).version+1⟩:aG) ?_ (by omega) (hg:=ki)
 intro L4 qa Am
 have j2:L4.getD k default=(⟨(s.xs.getD k default).name,v,(s.xs.getD k default).version+1⟩:aG):=by rw[qa];exact bQ (by omega)
 have lV:L4=List.set s.xs k (⟨(s.xs.getD k default).name,v,(s.xs.getD k default).version+1⟩:aG):=by rw[qa,iX,List.set_set]
 refine cZ 10 [] [0] [ay 128 A1 c1 (L4:List aG)] ai ?_
 refine bY ?_ (pc (fG 80 (k:Int) k s.xs.length i0) (l4 82 k 2 1 j2 i0))
 refine Mz ?_
 refine Mt [.slice A1 s.xs.length c1,.agg #[vi 0,vi ((s.xs.getD k default).version+1),ve],vi 0] fun bs w hS=>?_
 have gf:L4=s.xs.set k ⟨(s.xs.getD k default).name,v,(s.xs.getD k default).version+1⟩:=lV
 have hm:cA s.xs t v=(s.xs.set k ⟨(s.xs.getD k default).name,v,(s.xs.getD k default).version+1⟩,⟨0,(s.xs.getD k default).version+1,emp⟩,0):=by
   grind[cA,mj]
 refine⟨⟨A1,c1,L4⟩,?_,?_,hS.aO (y:=(⟨A1,c1,L4⟩:Sl aG)) (a4 i0 (hS.res _ i0) (fun z hz=>?_))⟩
 · have gB:L4.length=s.xs.length:=by rw[gf,List.length_set]
   rw[hm]
   exact congrArg (fun q=>Ending.returned (.tuple #[.slice A1 q c1,.agg #[vi 0,vi ((s.xs.getD k default).version+1),ve],vi 0])) gB.symm
 · exact Eq.trans gf (congrArg Prod.fst hm).symm
 · rw[gf] at hz
   rcases mem_set hz with hz|hz
   · subst hz;exact⟨(Sl.rd.mem (s:=s) hs _ (aB (i:=k) (by omega))).1,hv⟩
   · exact Sl.rd.mem (s:=s) hs z hz
theorem Ex (s:Sl aG)(t v:ByteArray)(w:World)(hs:s.rd B w)(ht:t.size≤9223372036854775807)(hv:v.size≤9223372036854775807):Calls prog 41 #[.slice s.A s.n s.c,.string t,.string v] w fun e w'=> ∃y:Sl aG,e=.returned (.tuple #[.slice y.A y.n y.c,.agg #[.int .i64 ((cA s.xs t v).2.1).code,.int .i64 ((cA s.xs t v).2.1).n,.string ((cA s.xs t v).2.1).text],.int .i64 (cA s.xs t v).2.2])∧y.xs=(cA s.xs t v).1∧bJ w w' y:=by
 have cV:=Sl.rd.ok hs
 have iV:=Sl.ok.nc cV
 have iW:s.n=s.xs.length:=rfl
 refine M0 ?_ func41
 refine Mp ?_ call94 (fun bs w hS=>lS s w (Sl.rd.kp hs hS.kp))
 refine Md (cy s.xs=0) (fun h1=>?_) fun h1=>?_
 rotate_left
 · refine My false false ?_ (df h1)
   refine My false true ?_ (df h1)
   refine Mt [vn,vz 0,vi (cy s.xs)] fun bs w hS=>?_
   have hm:cA s.xs t v=([],gl,cy s.xs):=by
     grind[cA,mj]
   refine⟨Sl.nil,?_,?_,hS.aO (Sl.ao _ _)⟩
   · rw[hm]<;>rfl
   · rw[hm]<;>rfl
 have mg:=(iz h1).1
 refine Mp ?_ (vs:=fun bs=>[vs t]) call107 (fun bs w hS=>kL _ w (by first|assumption|omega|(simp only[aL];omega)))
 refine fL (ee t) (fun h2=>?_) fun h2=>?_
 rotate_left
 · refine Mq 26 false ?_ rfl
   refine Mq 32 true ?_ rfl
   refine Mt [vn,vz 0,vi 4] fun bs w hS=>?_
   have hm:cA s.xs t v=([],gl,4):=by
     grind[cA,mj]
   refine⟨Sl.nil,?_,?_,hS.aO (Sl.ao _ _)⟩
   · rw[hm]<;>rfl
   · rw[hm]<;>rfl
 refine My true false ?_ (dt h1)
 refine Md ((12:Int)<(v.size:Int)) (fun h4=>?_) fun h4=>?_
 · refine Mq 32 true ?_ rfl
   refine Mt [vn,vz 0,vi 1] fun bs w hS=>?_
   have hm:cA s.xs t v=([],gl,1):=by
     grind[cA,mj]
   refine⟨Sl.nil,?_,?_,hS.aO (Sl.ao _ _)⟩
   · rw[hm]<;>rfl
   · rw[hm]<;>rfl
 refine My true true ?_ (dt h1)
 refine bU (α:=aG) 128 ?_
 refine Ma ?_ (α:=aG) (L2:=s.xs) 40 (fun bs w hS=>Sl.rd.src (s:=s) (Sl.rd.kp hs hS.kp))
 intro A1 c1
 refine eu (ay 128 A1 c1 (s.xs:List aG)) (List.Sublist.refl _) (fun w h=>h) ?_
 refine bk (F:=dY A1 c1 (s.xs:List aG)) (fun bs w hS=>br (hS.res _ i0)) fun cI=>?_
 have cn:=cI.2
 refine Mp ?_ (v:=vi (aQ (fun x:aG=>decide (x.name=t)) s.xs)) call106 (fun bs w hS=>lW (⟨A1,c1,s.xs⟩:Sl aG) t w (Rr (B:=bH) (hS.res _ i0) (fun _ _=>trivial) (fun z hz=>Sl.rd.mem (s:=s) hs z hz)))
 have qb:=du (fun x:aG=>decide (x.name=t)) s.xs
 generalize hJ:aQ (fun x:aG=>decide (x.name=t)) s.xs=J at qb⊢
 refine Md ((0:Int)≤J) (fun h6=>?_) fun h6=>?_
 · have At:0≤J:=by omega
   have MS:=ud ((iz (l:=s.xs) (by assumption)).2 J.toNat (by omega))
   have Pd:=MS.2.2.1
   have Pe:=MS.2.2.2.1
   refine Mi ?_ (pc (fG 44 J J.toNat (s.xs).length i0) (lg 46 J.toNat 2 1 i0))
   refine Md ((1073741824:Int)≤(s.xs.getD J.toNat default).version) (fun h7=>?_) fun h7=>?_
   · refine Mt [.slice A1 (s.xs).length c1,vz 8,vi 0] fun bs w hS=>?_
     have hm:cA s.xs t v=(s.xs,⟨8,0,emp⟩,0):=by
       grind[cA,mj]
     refine⟨⟨A1,c1,s.xs⟩,?_,?_,hS.aO (y:=(⟨A1,c1,s.xs⟩:Sl aG)) (a4 i0 (hS.res _ i0) (fun z hz=>Sl.rd.mem (s:=s) hs z hz))⟩
     · rw[hm]<;>rfl
     · exact Eq.trans rfl (congrArg Prod.fst hm).symm
   refine Mi ?_ (fG 53 J J.toNat (s.xs).length i0)
   refine Ms J.toNat 1 (⟨(s.xs.getD J.toNat default).name,v,(s.xs.getD J.toNat default).version⟩:aG) ?_ (by omega)
   intro L2 rZ OU
   have Ie:L2.getD J.toNat default=(⟨(s.xs.getD J.toNat default).name,v,(s.xs.getD J.toNat default).version⟩:aG):=by rw[rZ];exact bQ (by omega)
   have JU:L2=List.set s.xs J.toNat (⟨(s.xs.getD J.toNat default).name,v,(s.xs.getD J.toNat default).version⟩:aG):=by rw[rZ]
   refine Mi ?_ (pc (fG 57 J J.toNat (s.xs).length i0) (pc (l4 59 J.toNat 2 1 Ie i0) (pc (pR ((s.xs.getD J.toNat default).version+1)) (fG 61 J J.toNat (s.xs).length i0))))
   refine Ms J.toNat 2 (⟨(s.xs.getD J.toNat default).name,v,(s.xs.getD J.toNat default).version+1⟩:aG) ?_ (by omega) (hg:=Ie)
   intro L3 sX B0
   have ki:L3.getD J.toNat default=(⟨(s.xs.getD J.toNat default).name,v,(s.xs.getD J.toNat default).version+1⟩:aG):=by rw[sX];exact bQ (by omega)
   have iX:L3=List.set s.xs J.toNat (⟨(s.xs.getD J.toNat default).name,v,(s.xs.getD J.toNat default).version+1⟩:aG):=by rw[sX,JU,List.set_set]
   refine cZ 10 [] [0] [ay 128 A1 c1 (L3:List aG)] ai ?_
   refine bY ?_ (pc (fG 66 J J.toNat (s.xs).length i0) (l4 68 J.toNat 2 1 ki i0))
   refine Mz ?_
   refine Mt [.slice A1 (s.xs).length c1,.agg #[vi 0,vi ((s.xs.getD J.toNat default).version+1),ve],vi 0] fun bs w hS=>?_
   have gf:L3=s.xs.set J.toNat ⟨(s.xs.getD J.toNat default).name,v,(s.xs.getD J.toNat default).version+1⟩:=iX
   have hm:cA s.xs t v=(s.xs.set J.toNat ⟨(s.xs.getD J.toNat default).name,v,(s.xs.getD J.toNat default).version+1⟩,⟨0,(s.xs.getD J.toNat default).version+1,emp⟩,0):=by
     grind[cA,mj]
   refine⟨⟨A1,c1,L3⟩,?_,?_,hS.aO (y:=(⟨A1,c1,L3⟩:Sl aG)) (a4 i0 (hS.res _ i0) (fun z hz=>?_))⟩
   · have gB:L3.length=s.xs.length:=by rw[gf,List.length_set]
     rw[hm]
     exact congrArg (fun q=>Ending.returned (.tuple #[.slice A1 q c1,.agg #[vi 0,vi ((s.xs.getD J.toNat default).version+1),ve],vi 0])) gB.symm
   · exact Eq.trans gf (congrArg Prod.fst hm).symm
   · rw[gf] at hz
     rcases mem_set hz with hz|hz
     · subst hz;exact⟨(Sl.rd.mem (s:=s) hs _ (aB (i:=J.toNat) (by omega))).1,hv⟩
     · exact Sl.rd.mem (s:=s) hs z hz
 have At: ¬0≤J:=by omega
 refine Md ((5:Int)≤(((s.xs).length:Nat):Int)) (fun h8=>?_) fun h8=>?_
 · refine Mt [.slice A1 (s.xs).length c1,vz 8,vi 0] fun bs w hS=>?_
   have hm:cA s.xs t v=(s.xs,⟨8,0,emp⟩,0):=by
     grind[cA,mj]
   refine⟨⟨A1,c1,s.xs⟩,?_,?_,hS.aO (y:=(⟨A1,c1,s.xs⟩:Sl aG)) (a4 i0 (hS.res _ i0) (fun z hz=>Sl.rd.mem (s:=s) hs z hz))⟩
   · rw[hm]<;>rfl
   · exact Eq.trans rfl (congrArg Prod.fst hm).symm
 refine bU (α:=aG) 128 ?_
 refine Ml (σ:=Nat×Bool×Option Addr×Nat×List aG) (fun⟨k,b,A,c,L⟩=>jJ (fun x:aG=>Op.bytesLess t.toList x.name.toList) (⟨t,v,1⟩:aG) s.xs k b L) (fun⟨k,b,A,c,L⟩=>s.xs.length - k) (fun⟨k,b,A,c,L⟩=>[ay 128 A c (L:List aG),ay 128 A1 c1 (s.xs:List aG)]) [14,13,12,10,7,1,2] (fun⟨k,b,A,c,L⟩=>[(14,vI (k:Int)),(13,vB b),(12,.v (.slice A L.length c))]) (fun _=>[]) ?_ (⟨0,false,none,0,[]⟩) (show jJ (fun x:aG=>Op.bytesLess t.toList x.name.toList) (⟨t,v,1⟩:aG) s.xs 0 false [] from jJ.start _ _ _)
 rintro⟨k,b,A,c,L⟩ hI _ bu
 have MC:=hI.len
 have MD:=hI.le
 refine Md ((k:Int)<(((s.xs).length:Nat):Int)) (fun h9=>?_) fun h9=>?_
 rotate_left
 · refine fL b (fun jW=>?_) fun jW=>?_
   · refine Mt [.slice A L.length c,.agg #[vi 0,vi 1,ve],vi 0] fun bs w hS=>?_
     clear bu
     have gf:L=dW (fun x:aG=>Op.bytesLess t.toList x.name.toList) ⟨t,v,1⟩ s.xs:=(hI.HJ (by assumption) (by omega))
     have hm:cA s.xs t v=(dW (fun x:aG=>Op.bytesLess t.toList x.name.toList) ⟨t,v,1⟩ s.xs,⟨0,1,emp⟩,0):=by
       grind[cA,mj]
     refine⟨⟨A,c,L⟩,?_,?_,hS.aO (y:=(⟨A,c,L⟩:Sl aG)) (a4 i0 (hS.res _ i0) (fun z hz=>?_))⟩
     · rw[hm]<;>rfl
     · exact Eq.trans gf (congrArg Prod.fst hm).symm
     · rw[gf] at hz
       rcases ko hz with hz|hz
       · subst hz;exact⟨ht,hv⟩
       · exact Sl.rd.mem (s:=s) hs z hz
   refine M1 ?_
   refine gX (α:=aG) 40 ([(⟨t,v,1⟩:aG)]) ?_
   intro A8 c8
   refine bk (F:=dY A8 c8 (L++[(⟨t,v,1⟩:aG)]:List aG)) (fun bs w hS=>br (hS.res _ i0)) fun MT=>?_
   have NO:=MT.2
   refine Mt [.slice A8 (L++[(⟨t,v,1⟩:aG)]).length c8,.agg #[vi 0,vi 1,ve],vi 0] fun bs w hS=>?_
   clear bu
   have gf:L++[(⟨t,v,1⟩:aG)]=dW (fun x:aG=>Op.bytesLess t.toList x.name.toList) ⟨t,v,1⟩ s.xs:=(hI.HK (by assumption) (by omega))
   have hm:cA s.xs t v=(dW (fun x:aG=>Op.bytesLess t.toList x.name.toList) ⟨t,v,1⟩ s.xs,⟨0,1,emp⟩,0):=by
     grind[cA,mj]
   refine⟨⟨A8,c8,L++[(⟨t,v,1⟩:aG)]⟩,?_,?_,hS.aO (y:=(⟨A8,c8,L++[(⟨t,v,1⟩:aG)]⟩:Sl aG)) (a4 i0 (hS.res _ i0) (fun z hz=>?_))⟩
   · rw[hm]<;>rfl
   · exact Eq.trans gf (congrArg Prod.fst hm).symm
   · rw[gf] at hz
     rcases ko hz with hz|hz
     · subst hz;exact⟨ht,hv⟩
     · exact Sl.rd.mem (s:=s) hs z hz
 refine HP b true [(13,false)] (fun ir=>?_) fun ir=>?_
 · refine Mi ?_ (pc (fG 101 (k:Int) k (s.xs).length i1) (C2 102 k i1))
   refine M1 ?_
   refine gX (α:=aG) 40 ([(⟨(s.xs.getD k default).name,(s.xs.getD k default).value,(s.xs.getD k default).version⟩:aG)]) ?_
   intro A4 c4
   refine bk (F:=dY A4 c4 (L++[(⟨(s.xs.getD k default).name,(s.xs.getD k default).value,(s.xs.getD k default).version⟩:aG)]:List aG)) (fun bs w hS=>br (hS.res _ i0)) fun MU=>?_
   have NP:=MU.2
   refine Mi ?_ (pR ((k:Int)+1))
   exact bu ⟨k+1,true,A4,c4,L++[(⟨(s.xs.getD k default).name,(s.xs.getD k default).value,(s.xs.getD k default).version⟩:aG)]⟩ (by first|exact hI.more (by assumption) (by omega)|exact hI.EU (by assumption) (by omega) (by assumption)|exact hI.skip (by assumption) (by omega) (by assumption)) (by show s.xs.length - (k+1)<s.xs.length - k;omega)
 refine Mi ?_ (pc (fG 86 (k:Int) k (s.xs).length i1) (lg 88 k 0 1 i1))
 refine fL (Op.bytesLess ((s.xs.getD k default).name).toList (t).toList||decide ((s.xs.getD k default).name=t)) (fun g7=>?_) fun g7=>?_
 · rw[bytes_total] at g7
   simp only[Bool.not_eq_true',Bool.not_eq_false',Bool.not_eq_true,Bool.not_eq_false] at g7
   refine Mi ?_ (pc (fG 101 (k:Int) k (s.xs).length i1) (C2 102 k i1))
   refine M1 ?_
   refine gX (α:=aG) 40 ([(⟨(s.xs.getD k default).name,(s.xs.getD k default).value,(s.xs.getD k default).version⟩:aG)]) ?_
   intro A5 c5
   refine bk (F:=dY A5 c5 (L++[(⟨(s.xs.getD k default).name,(s.xs.getD k default).value,(s.xs.getD k default).version⟩:aG)]:List aG)) (fun bs w hS=>br (hS.res _ i0)) fun MV=>?_
   have NQ:=MV.2
   refine Mi ?_ (pR ((k:Int)+1))
   exact bu ⟨k+1,false,A5,c5,L++[(⟨(s.xs.getD k default).name,(s.xs.getD k default).value,(s.xs.getD k default).version⟩:aG)]⟩ (by first|exact hI.more (by assumption) (by omega)|exact hI.EU (by assumption) (by omega) (by assumption)|exact hI.skip (by assumption) (by omega) (by assumption)) (by show s.xs.length - (k+1)<s.xs.length - k;omega)
 rw[bytes_total] at g7
 simp only[Bool.not_eq_true',Bool.not_eq_false',Bool.not_eq_true,Bool.not_eq_false] at g7
 refine M1 ?_
 refine gX (α:=aG) 40 ([(⟨t,v,1⟩:aG)]) ?_
 intro A6 c6
 refine bk (F:=dY A6 c6 (L++[(⟨t,v,1⟩:aG)]:List aG)) (fun bs w hS=>br (hS.res _ i0)) fun MW=>?_
 have NR:=MW.2
 refine Mi ?_ (pc (fG 101 (k:Int) k (s.xs).length i1) (C2 102 k i1))
 refine M1 ?_
 refine gX (α:=aG) 40 ([(⟨(s.xs.getD k default).name,(s.xs.getD k default).value,(s.xs.getD k default).version⟩:aG)]) ?_
 intro A7 c7
 refine bk (F:=dY A7 c7 (L++[(⟨t,v,1⟩:aG)]++[(⟨(s.xs.getD k default).name,(s.xs.getD k default).value,(s.xs.getD k default).version⟩:aG)]:List aG)) (fun bs w hS=>br (hS.res _ i0)) fun MX=>?_
 have NS:=MX.2
 refine Mi ?_ (pR ((k:Int)+1))
 exact bu ⟨k+1,true,A7,c7,L++[(⟨t,v,1⟩:aG)]++[(⟨(s.xs.getD k default).name,(s.xs.getD k default).value,(s.xs.getD k default).version⟩:aG)]⟩ (by first|exact hI.more (by assumption) (by omega)|exact hI.EU (by assumption) (by omega) (by assumption)|exact hI.skip (by assumption) (by omega) (by assumption)) (by show s.xs.length - (k+1)<s.xs.length - k;omega)
theorem yv (s:Sl aa)(n t:Int)(w:World)(hs:s.rd B w)(ht:ln t):Calls prog 25 #[s.val,vi n,vi t] w fun e w'=> ∃y:Sl aa,e=.returned (.tuple #[y.val,((dg (s.xs.map aa.abs) n t).2.1).val,vi (dg (s.xs.map aa.abs) n t).2.2])∧y.xs.map aa.abs=(dg (s.xs.map aa.abs) n t).1∧bJ w w' y:=by
 have cV:=Sl.rd.ok hs
 have iV:=Sl.ok.nc cV
 have iW:s.n=s.xs.length:=rfl
 have tA:(s.xs.map aa.abs).length=s.n:=by simp
 refine M0 ?_ func25
 refine Mp ?_ call63 (fun bs w hS=>gV s n w (Sl.rd.kp hs hS.kp))
 refine cr (bC (s.xs.map aa.abs) n=0) (fun h1=>?_) fun h1=>?_
 rotate_left
 · refine Mt [vn,vz 0,vi (bC (s.xs.map aa.abs) n)] fun bs w hS=>?_
   have hm:dg (s.xs.map aa.abs) n t=([],gl,bC (s.xs.map aa.abs) n):=by
     grind[dg,ef]
   refine⟨Sl.nil,?_,?_,hS.aO (Sl.ao _ _)⟩
   · rw[hm]<;>rfl
   · rw[hm]<;>rfl
 obtain⟨EY,wm,mg,gI⟩:=dm h1
 have Es:s.xs.length≤4:=by simpa using mg
 refine Md (t<1) (fun h2=>?_) fun h2=>?_
 · refine Mt [vn,vz 0,vi 2] fun bs w hS=>?_
   have hm:dg (s.xs.map aa.abs) n t=([],gl,2):=by
     grind[dg,ef]
   refine⟨Sl.nil,?_,?_,hS.aO (Sl.ao _ _)⟩
   · rw[hm]<;>rfl
   · rw[hm]<;>rfl
 refine Md ((9:Int)<t) (fun h3=>?_) fun h3=>?_
 · refine Mt [vn,vz 0,vi 2] fun bs w hS=>?_
   have hm:dg (s.xs.map aa.abs) n t=([],gl,2):=by
     grind[dg,ef]
   refine⟨Sl.nil,?_,?_,hS.aO (Sl.ao _ _)⟩
   · rw[hm]<;>rfl
   · rw[hm]<;>rfl
 refine Md (n=1073741824) (fun h4=>?_) fun h4=>?_
 · refine Mt [vn,vz 0,vi 2] fun bs w hS=>?_
   have hm:dg (s.xs.map aa.abs) n t=([],gl,2):=by
     grind[dg,ef]
   refine⟨Sl.nil,?_,?_,hS.aO (Sl.ao _ _)⟩
   · rw[hm]<;>rfl
   · rw[hm]<;>rfl
 refine Mf ?_ call70 (fun bs w hS=>iC s w (Sl.rd.kp hs hS.kp) (fC (by assumption)))
 rintro y1 a5
 refine dH ?_
 obtain⟨A1,c1,S1⟩:=y1
 have a5:S1.map aa.abs=s.xs.map aa.abs:=a5
 refine fO (R':=[bI (cj 141) S1,ay 118 A1 c1 (S1:List aa)]) (List.Perm.refl _) ?_
 have bn:=eW (y:=(⟨A1,c1,S1⟩:Sl aa)) (hs) a5
 have oA:S1.length=s.xs.length:=by simpa using congrArg List.length a5
 refine bk (F:= ∀i,i<S1.length→aJ.ok (S1.getD i dd)) (fun bs w hS i hi=>aJ.bL (B:=bH) (w:=w) (fY (hS.res _ i0) bn (aB hi))) fun gj=>?_
 refine bk (F:=dY A1 c1 (S1:List aa)) (fun bs w hS=>br (hS.res _ i1)) fun cI=>?_
 have cn:=cI.2
 have Gz:(S1.map aa.abs).length=S1.length:=by simp
 refine Mp ?_ call76 (fun bs w hS=>ll (⟨A1,c1,S1⟩:Sl aa) t w (gu (hS.res _ i0) (hS.res _ i1) bn) (show S1.length≤1048576 by omega))
 have oB:=n8 (L:=S1) (index:=n) (t:=t) (by rw[a5];assumption) ht
 have qb:=du (fun x:az=>decide (x.ag=t)) (S1.map aa.abs)
 generalize hJ:aQ (fun x:az=>decide (x.ag=t)) (S1.map aa.abs)=J at oB qb
 have wY:=n5 (fun x:aa=>IntKind.i64.wrap (x.ag - t)) S1
 generalize hk:eQ (fun x:aa=>IntKind.i64.wrap (x.ag - t)) S1=k at oB wY⊢
 generalize hf:dk (fun x:aa=>IntKind.i64.wrap (x.ag - t)) S1=fb at oB⊢
 refine Mb fb (fun h5=>?_) fun h5=>?_
 · have GA:=oB.2 h5
   subst GA
   refine Mi ?_ (pc (pR (n+1)) (fG 44 (k:Int) k S1.length i1))
   refine cd ?_
   refine Ms k 3 (⟨(S1.getD k dd).ag,(S1.getD k dd).id,(S1.getD k dd).aC,n+1,(S1.getD k dd).ab⟩:aa) ?_ (by omega)
   intro L3 sX B0
   have ki:L3.getD k dd=(⟨(S1.getD k dd).ag,(S1.getD k dd).id,(S1.getD k dd).aC,n+1,(S1.getD k dd).ab⟩:aa):=by rw[sX];exact bQ (by omega)
   have iX:L3=List.set S1 k (⟨(S1.getD k dd).ag,(S1.getD k dd).id,(S1.getD k dd).aC,n+1,(S1.getD k dd).ab⟩:aa):=by rw[sX]
   refine cZ 10 [] [0] [ay 118 A1 c1 (L3:List aa),bI (cj 141) S1] ai ?_
   refine bY ?_ (pc (fG 49 (k:Int) k S1.length i0) (l4 51 k 1 1 ki i0))
   refine Mz ?_
   refine Mt [.slice A1 S1.length c1,.agg #[vi 7,vi (S1.getD k dd).id,ve],vi 0] fun bs w hS=>?_
   have kj:bC (S1.map aa.abs) n=0:=by rw[a5];assumption
   rw[←a5]
   have gf:=dG iX
   have hm:dg (S1.map aa.abs) n t=((S1.map aa.abs).set k { (S1.getD k dd).abs with last:=n+1 },⟨7,(S1.getD k dd).id,emp⟩,0):=by
     unfold dg ef
     simp only[hJ,Int.toNat_natCast,lL,List.length_map]
     repeat (first|rw[if_pos (by first|assumption|omega)]|rw[if_neg (by first|assumption|omega|(intro h0;first|exact absurd h0 (by assumption)|(simp_all;done)))])
     all_goals rfl
   refine⟨⟨A1,c1,L3⟩,?_,?_,hS.aO (y:=(⟨A1,c1,L3⟩:Sl aa)) (bV i0 hS.res (fun x hx=>?_))⟩
   · have gB:S1.length=L3.length:=by rw[iX,List.length_set]
     rw[hm]
     exact congrArg (fun q=>Ending.returned (.tuple #[.slice A1 q c1,.agg #[vi 7,vi (S1.getD k dd).id,ve],vi 0])) gB
   · exact Eq.trans gf (congrArg Prod.fst hm).symm
   · rw[iX] at hx
     rcases mem_set hx with hx|hx
     · subst hx;exact cY (x:=S1.getD k dd) i1 hS.res bn (aB (L:=S1) (i:=k) (by omega))
     · exact cY i1 hS.res bn hx
 have At:=of_decide_eq_false (oB.1.symm.trans h5)
 refine Md ((S1.length:Int)=4) (fun h6=>?_) fun h6=>?_
 · refine Mt [.slice A1 S1.length c1,vz 8,vi 0] fun bs w hS=>?_
   have kj:bC (S1.map aa.abs) n=0:=by rw[a5];assumption
   rw[←a5]
   have hm:dg (S1.map aa.abs) n t=(S1.map aa.abs,⟨8,0,emp⟩,0):=by
     grind[dg,ef]
   refine⟨⟨A1,c1,S1⟩,?_,?_,hS.aO (y:=(⟨A1,c1,S1⟩:Sl aa)) (bV i1 hS.res (fun x hx=>?_))⟩
   · rw[hm]<;>rfl
   · exact Eq.trans rfl (congrArg Prod.fst hm).symm
   · exact cY i0 hS.res bn hx
 refine Mi ?_ (pc (pR (n+1)) (pR (n+1)))
 refine M1 ?_
 refine cd ?_
 refine nF ?_ call77 (fun bs w hS=>(yu A1 c1 S1 k _ (⟨t,n+1,0,n+1,Sl.nil⟩:aa) (bs.getD 1 0) 118 w (hS.res _ i0) hS.lH.2.2 rfl (by first|omega|(simp only[Sl.n] at*;omega)) (by first|omega|(simp only[Sl.n] at*;omega)) (hS.loc 1 ⟨118,[vI t,vI (n+1),vI 0,vI (n+1),.v vn]⟩ (by kernel_rfl) (by simp)) (hS.tm (i:=1) (b:=⟨118,[vI t,vI (n+1),vI 0,vI (n+1),.v vn]⟩) (by kernel_rfl))).mono (fun e w' ⟨y,h1,h2⟩=>⟨y,h1,trivial,h2⟩))
 rintro q4 _
 refine Mi ?_ (pR (n+1))
 refine Mt [.slice q4.1 (S1.take k++[(⟨t,n+1,0,n+1,Sl.nil⟩:aa)]++S1.drop k).length q4.2,.agg #[vi 0,vi (n+1),ve],vi 0] fun bs w hS=>?_
 have kj:bC (S1.map aa.abs) n=0:=by rw[a5];assumption
 rw[←a5]
 have Dg:S1.take k++[(⟨t,n+1,0,n+1,Sl.nil⟩:aa)]++S1.drop k=dW (fun x:aa=>decide (t<x.ag)) (⟨t,n+1,0,n+1,Sl.nil⟩:aa) S1:=(xV ((FC (index:=n) kj (by omega) (by rw[hJ];omega)).trans hk))
 have gf:=ur Dg
 have hm:dg (S1.map aa.abs) n t=(dW (fun x:az=>decide (t<x.ag)) ⟨t,n+1,0,n+1,[]⟩ (S1.map aa.abs),⟨0,n+1,emp⟩,0):=by
   grind[dg,ef]
 refine⟨⟨q4.1,q4.2,S1.take k++[(⟨t,n+1,0,n+1,Sl.nil⟩:aa)]++S1.drop k⟩,?_,?_,hS.aO (y:=(⟨q4.1,q4.2,S1.take k++[(⟨t,n+1,0,n+1,Sl.nil⟩:aa)]++S1.drop k⟩:Sl aa)) (bV i0 hS.res (fun x hx=>?_))⟩
 · rw[hm]<;>rfl
 · exact Eq.trans gf (congrArg Prod.fst hm).symm
 · rw[Dg] at hx
   rcases ko hx with hx|hx
   · subst hx;exact Sl.ao _ _
   · exact cY i1 hS.res bn hx
theorem yw (s:Sl aa)(n t:Int)(w:World)(hs:s.rd B w)(ht:ln t):Calls prog 34 #[s.val,vi n,vi t] w fun e w'=> ∃y:Sl aa,e=.returned (.tuple #[y.val,((dg (s.xs.map aa.abs) n t).2.1).val,vi (dg (s.xs.map aa.abs) n t).2.2])∧y.xs.map aa.abs=(dg (s.xs.map aa.abs) n t).1∧bJ w w' y:=by
 have cV:=Sl.rd.ok hs
 have iV:=Sl.ok.nc cV
 have iW:s.n=s.xs.length:=rfl
 have tA:(s.xs.map aa.abs).length=s.n:=by simp
 refine M0 ?_ func34
 refine Mp ?_ call92 (fun bs w hS=>eV s n w (Sl.rd.kp hs hS.kp))
 refine Md (bC (s.xs.map aa.abs) n=0) (fun h1=>?_) fun h1=>?_
 rotate_left
 · refine My false true ?_ (df h1)
   refine Mt [vn,vz 0,vi (bC (s.xs.map aa.abs) n)] fun bs w hS=>?_
   have hm:dg (s.xs.map aa.abs) n t=([],gl,bC (s.xs.map aa.abs) n):=by
     grind[dg,ef]
   refine⟨Sl.nil,?_,?_,hS.aO (Sl.ao _ _)⟩
   · rw[hm]<;>rfl
   · rw[hm]<;>rfl
 obtain⟨EY,wm,mg,gI⟩:=dm h1
 have Es:s.xs.length≤4:=by simpa using mg
 refine Mp ?_ call51 (fun bs w hS=>b6 t 1 9 w)
 refine fL (gk t 1 9) (fun h2=>?_) fun h2=>?_
 rotate_left
 · simp only[iT,iF] at h2
   refine Mq 31 true ?_ rfl
   refine Mt [vn,vz 0,vi 2] fun bs w hS=>?_
   have hm:dg (s.xs.map aa.abs) n t=([],gl,2):=by
     grind[dg,ef]
   refine⟨Sl.nil,?_,?_,hS.aO (Sl.ao _ _)⟩
   · rw[hm]<;>rfl
   · rw[hm]<;>rfl
 simp only[iT,iF] at h2
 refine Md ((1073741824:Int)≤n) (fun h3=>?_) fun h3=>?_
 · refine Mq 31 true ?_ rfl
   refine Mt [vn,vz 0,vi 2] fun bs w hS=>?_
   have hm:dg (s.xs.map aa.abs) n t=([],gl,2):=by
     grind[dg,ef]
   refine⟨Sl.nil,?_,?_,hS.aO (Sl.ao _ _)⟩
   · rw[hm]<;>rfl
   · rw[hm]<;>rfl
 refine My true true ?_ (dt h1)
 refine Mf ?_ call19 (fun bs w hS=>fB s w (Sl.rd.kp hs hS.kp) (fC (by assumption)))
 rintro y1 a5
 refine dH ?_
 obtain⟨A1,c1,S1⟩:=y1
 have a5:S1.map aa.abs=s.xs.map aa.abs:=a5
 refine fO (R':=[bI (cj 141) S1,ay 118 A1 c1 (S1:List aa)]) (List.Perm.refl _) ?_
 have bn:=eW (y:=(⟨A1,c1,S1⟩:Sl aa)) (hs) a5
 have oA:S1.length=s.xs.length:=by simpa using congrArg List.length a5
 refine bk (F:= ∀i,i<S1.length→aJ.ok (S1.getD i dd)) (fun bs w hS i hi=>aJ.bL (B:=bH) (w:=w) (fY (hS.res _ i0) bn (aB hi))) fun gj=>?_
 refine bk (F:=dY A1 c1 (S1:List aa)) (fun bs w hS=>br (hS.res _ i1)) fun cI=>?_
 have cn:=cI.2
 have Gz:(S1.map aa.abs).length=S1.length:=by simp
 refine Mp ?_ call98 (fun bs w hS=>eg (⟨A1,c1,S1⟩:Sl aa) t w (gu (hS.res _ i0) (hS.res _ i1) bn))
 have Ii:aQ (fun x:aa=>decide (x.ag=t)) S1=aQ (fun x:az=>decide (x.ag=t)) (S1.map aa.abs):=fm aa.abs (fun x:az=>decide (x.ag=t)) S1
 rw[Ii]
 have qb:=du (fun x:az=>decide (x.ag=t)) (S1.map aa.abs)
 generalize hJ:aQ (fun x:az=>decide (x.ag=t)) (S1.map aa.abs)=J at qb⊢
 rw[List.length_map] at qb
 refine Md ((0:Int)≤J) (fun h5=>?_) fun h5=>?_
 · have At:0≤J:=by omega
   refine Mi ?_ (pc (pR (n+1)) (fG 45 J J.toNat S1.length i1))
   refine cd ?_
   refine Ms J.toNat 3 (⟨(S1.getD J.toNat dd).ag,(S1.getD J.toNat dd).id,(S1.getD J.toNat dd).aC,n+1,(S1.getD J.toNat dd).ab⟩:aa) ?_ (by omega)
   intro L3 sX B0
   have ki:L3.getD J.toNat dd=(⟨(S1.getD J.toNat dd).ag,(S1.getD J.toNat dd).id,(S1.getD J.toNat dd).aC,n+1,(S1.getD J.toNat dd).ab⟩:aa):=by rw[sX];exact bQ (by omega)
   have iX:L3=List.set S1 J.toNat (⟨(S1.getD J.toNat dd).ag,(S1.getD J.toNat dd).id,(S1.getD J.toNat dd).aC,n+1,(S1.getD J.toNat dd).ab⟩:aa):=by rw[sX]
   refine cZ 10 [] [0] [ay 118 A1 c1 (L3:List aa),bI (cj 141) S1] ai ?_
   refine bY ?_ (pc (fG 50 J J.toNat S1.length i0) (l4 52 J.toNat 1 1 ki i0))
   refine Mz ?_
   refine Mt [.slice A1 S1.length c1,.agg #[vi 7,vi (S1.getD J.toNat dd).id,ve],vi 0] fun bs w hS=>?_
   have kj:bC (S1.map aa.abs) n=0:=by rw[a5];assumption
   rw[←a5]
   have gf:=dG iX
   have hm:dg (S1.map aa.abs) n t=((S1.map aa.abs).set J.toNat { (S1.getD J.toNat dd).abs with last:=n+1 },⟨7,(S1.getD J.toNat dd).id,emp⟩,0):=by
     unfold dg ef
     simp only[hJ,lL,List.length_map]
     repeat (first|rw[if_pos (by first|assumption|omega)]|rw[if_neg (by first|assumption|omega|(intro h0;first|exact absurd h0 (by assumption)|(simp_all;done)))])
     all_goals rfl
   refine⟨⟨A1,c1,L3⟩,?_,?_,hS.aO (y:=(⟨A1,c1,L3⟩:Sl aa)) (bV i0 hS.res (fun x hx=>?_))⟩
   · have gB:S1.length=L3.length:=by rw[iX,List.length_set]
     rw[hm]
     exact congrArg (fun q=>Ending.returned (.tuple #[.slice A1 q c1,.agg #[vi 7,vi (S1.getD J.toNat dd).id,ve],vi 0])) gB
   · exact Eq.trans gf (congrArg Prod.fst hm).symm
   · rw[iX] at hx
     rcases mem_set hx with hx|hx
     · subst hx;exact cY (x:=S1.getD J.toNat dd) i1 hS.res bn (aB (L:=S1) (i:=J.toNat) (by omega))
     · exact cY i1 hS.res bn hx
 have At: ¬0≤J:=by omega
 refine Md ((4:Int)≤(S1.length:Int)) (fun h6=>?_) fun h6=>?_
 · refine Mt [.slice A1 S1.length c1,vz 8,vi 0] fun bs w hS=>?_
   have kj:bC (S1.map aa.abs) n=0:=by rw[a5];assumption
   rw[←a5]
   have hm:dg (S1.map aa.abs) n t=(S1.map aa.abs,⟨8,0,emp⟩,0):=by
     grind[dg,ef]
   refine⟨⟨A1,c1,S1⟩,?_,?_,hS.aO (y:=(⟨A1,c1,S1⟩:Sl aa)) (bV i1 hS.res (fun x hx=>?_))⟩
   · rw[hm]<;>rfl
   · exact Eq.trans rfl (congrArg Prod.fst hm).symm
   · exact cY i0 hS.res bn hx
 refine Mi ?_ (pc (pR (n+1)) (pR (n+1)))
 refine bU (α:=aa) 118 ?_
 refine Ml (σ:=Nat×Bool×Option Addr×Nat×List aa) (fun⟨k,b,A,c,L⟩=>jJ (fun x:aa=>decide (t<x.ag)) (⟨t,n+1,0,n+1,Sl.nil⟩:aa) S1 k b L) (fun⟨k,b,A,c,L⟩=>S1.length - k) (fun⟨k,b,A,c,L⟩=>[ay 118 A c (L:List aa),bI (cj 141) S1,ay 118 A1 c1 (S1:List aa)]) [15,14,13,12,10,7,1,2] (fun⟨k,b,A,c,L⟩=>[(15,vI (k:Int)),(14,vB b),(13,.v (.slice A L.length c))]) (fun _=>[]) ?_ (⟨0,false,none,0,[]⟩) (show jJ (fun x:aa=>decide (t<x.ag)) (⟨t,n+1,0,n+1,Sl.nil⟩:aa) S1 0 false [] from jJ.start _ _ _)
 rintro⟨k,b,A,c,L⟩ hI _ bu
 have MC:=hI.len
 have MD:=hI.le
 refine Md ((k:Int)<(S1.length:Int)) (fun h7=>?_) fun h7=>?_
 rotate_left
 · refine fL b (fun ir=>?_) fun ir=>?_
   · refine Mi ?_ (pR (n+1))
     refine Mt [.slice A L.length c,.agg #[vi 0,vi (n+1),ve],vi 0] fun bs w hS=>?_
     clear bu
     have kj:bC (S1.map aa.abs) n=0:=by rw[a5];assumption
     rw[←a5]
     have Dg:L=dW (fun x:aa=>decide (t<x.ag)) (⟨t,n+1,0,n+1,Sl.nil⟩:aa) S1:=(hI.HJ (by assumption) (by omega))
     have gf:=ur Dg
     have hm:dg (S1.map aa.abs) n t=(dW (fun x:az=>decide (t<x.ag)) ⟨t,n+1,0,n+1,[]⟩ (S1.map aa.abs),⟨0,n+1,emp⟩,0):=by
       grind[dg,ef]
     refine⟨⟨A,c,L⟩,?_,?_,hS.aO (y:=(⟨A,c,L⟩:Sl aa)) (bV i0 hS.res (fun x hx=>?_))⟩
     · rw[hm]<;>rfl
     · exact Eq.trans gf (congrArg Prod.fst hm).symm
     · rw[Dg] at hx
       rcases ko hx with hx|hx
       · subst hx;exact Sl.ao _ _
       · exact cY i1 hS.res bn hx
   refine M1 ?_
   refine gX (α:=aa) 56 ([(⟨t,n+1,0,n+1,Sl.nil⟩:aa)]) ?_
   intro A8 c8
   refine Mi ?_ (pR (n+1))
   refine Mt [.slice A8 (L++[(⟨t,n+1,0,n+1,Sl.nil⟩:aa)]).length c8,.agg #[vi 0,vi (n+1),ve],vi 0] fun bs w hS=>?_
   clear bu
   have kj:bC (S1.map aa.abs) n=0:=by rw[a5];assumption
   rw[←a5]
   have Dg:L++[(⟨t,n+1,0,n+1,Sl.nil⟩:aa)]=dW (fun x:aa=>decide (t<x.ag)) (⟨t,n+1,0,n+1,Sl.nil⟩:aa) S1:=(hI.HK (by assumption) (by omega))
   have gf:=ur Dg
   have hm:dg (S1.map aa.abs) n t=(dW (fun x:az=>decide (t<x.ag)) ⟨t,n+1,0,n+1,[]⟩ (S1.map aa.abs),⟨0,n+1,emp⟩,0):=by
     grind[dg,ef]
   refine⟨⟨A8,c8,L++[(⟨t,n+1,0,n+1,Sl.nil⟩:aa)]⟩,?_,?_,hS.aO (y:=(⟨A8,c8,L++[(⟨t,n+1,0,n+1,Sl.nil⟩:aa)]⟩:Sl aa)) (bV i0 hS.res (fun x hx=>?_))⟩
   · rw[hm]<;>rfl
   · exact Eq.trans gf (congrArg Prod.fst hm).symm
   · rw[Dg] at hx
     rcases ko hx with hx|hx
     · subst hx;exact Sl.ao _ _
     · exact cY i1 hS.res bn hx
 refine HP b true [(14,false)] (fun h8=>?_) fun h8=>?_
 · refine Mi ?_ (pc (fG 89 (k:Int) k S1.length i2) (C2 90 k i2))
   refine M1 ?_
   refine gX (α:=aa) 56 ([(⟨(S1.getD k dd).ag,(S1.getD k dd).id,(S1.getD k dd).aC,(S1.getD k dd).last,(S1.getD k dd).ab⟩:aa)]) ?_
   intro A4 c4
   refine Mi ?_ (pR ((k:Int)+1))
   exact bu ⟨k+1,true,A4,c4,L++[(⟨(S1.getD k dd).ag,(S1.getD k dd).id,(S1.getD k dd).aC,(S1.getD k dd).last,(S1.getD k dd).ab⟩:aa)]⟩ (by first|exact hI.more (by assumption) (by omega)|exact hI.EU (by assumption) (by omega) (decide_eq_true (by assumption))|exact hI.skip (by assumption) (by omega) (decide_eq_false (by assumption))) (by show S1.length - (k+1)<S1.length - k;omega)
 refine Mi ?_ (pc (fG 76 (k:Int) k S1.length i2) (lg 78 k 0 1 i2))
 refine Md (t<(S1.getD k dd).ag) (fun h9=>?_) fun h9=>?_
 rotate_left
 · refine Mi ?_ (pc (fG 89 (k:Int) k S1.length i2) (C2 90 k i2))
   refine M1 ?_
   refine gX (α:=aa) 56 ([(⟨(S1.getD k dd).ag,(S1.getD k dd).id,(S1.getD k dd).aC,(S1.getD k dd).last,(S1.getD k dd).ab⟩:aa)]) ?_
   intro A7 c7
   refine Mi ?_ (pR ((k:Int)+1))
   exact bu ⟨k+1,false,A7,c7,L++[(⟨(S1.getD k dd).ag,(S1.getD k dd).id,(S1.getD k dd).aC,(S1.getD k dd).last,(S1.getD k dd).ab⟩:aa)]⟩ (by first|exact hI.more (by assumption) (by omega)|exact hI.EU (by assumption) (by omega) (decide_eq_true (by assumption))|exact hI.skip (by assumption) (by omega) (decide_eq_false (by assumption))) (by show S1.length - (k+1)<S1.length - k;omega)
 refine M1 ?_
 refine gX (α:=aa) 56 ([(⟨t,n+1,0,n+1,Sl.nil⟩:aa)]) ?_
 intro A5 c5
 refine Mi ?_ (pc (fG 89 (k:Int) k S1.length i2) (C2 90 k i2))
 refine M1 ?_
 refine gX (α:=aa) 56 ([(⟨(S1.getD k dd).ag,(S1.getD k dd).id,(S1.getD k dd).aC,(S1.getD k dd).last,(S1.getD k dd).ab⟩:aa)]) ?_
 intro A6 c6
 refine Mi ?_ (pR ((k:Int)+1))
 exact bu ⟨k+1,true,A6,c6,L++[(⟨t,n+1,0,n+1,Sl.nil⟩:aa)]++[(⟨(S1.getD k dd).ag,(S1.getD k dd).id,(S1.getD k dd).aC,(S1.getD k dd).last,(S1.getD k dd).ab⟩:aa)]⟩ (by first|exact hI.more (by assumption) (by omega)|exact hI.EU (by assumption) (by omega) (decide_eq_true (by assumption))|exact hI.skip (by assumption) (by omega) (decide_eq_false (by assumption))) (by show S1.length - (k+1)<S1.length - k;omega)
theorem oC (x:aK)(t:Int)(w:World):Calls prog 89 #[x.val,vi t] w fun e w'=>e=.returned (vi (IntKind.i64.wrap (x.seq - t)))∧Kp [] w w':=by
 refine M0 ?_ func89
 refine Mi ?_ (pG [(8,.val (vi (IntKind.i64.wrap (x.seq - t))))] (oc (yX: ∀w,(do eqGuard .sub 3 (.tmp 6) (.tmp 7) (vi x.seq) (vi t);binOp .sub 3 (vi x.seq) (vi t):Sem Value).run prog w=.ok (vi (IntKind.i64.wrap (x.seq - t))) w) on))
 exact Mt [vi (IntKind.i64.wrap (x.seq - t))] fun bs w hS=>⟨rfl,hS.kp⟩
theorem rh (s:Sl aK)(t:Int)(w:World)(hs:s.rd B w)(hn:s.n≤1048576):Calls prog 88 #[s.val,vi t,.func (.func 89) #[] #[]] w fun e w'=>e=.returned (.tuple #[vi (eQ (fun x:aK=>IntKind.i64.wrap (x.seq - t)) s.xs:Nat),vb (dk (fun x:aK=>IntKind.i64.wrap (x.seq - t)) s.xs)])∧Kp [] w w':=by
 have cV:=Sl.rd.ok hs
 have iV:=Sl.ok.nc cV
 have iW:s.n=s.xs.length:=rfl
 refine Mj ?_ func88 (WS.start w)
 refine Ml (σ:=Nat×Nat×Nat) (fun⟨i,j,f⟩=>i≤j∧j≤s.n∧j - i≤f∧eQ (fun x:aK=>IntKind.i64.wrap (x.seq - t)) s.xs=lY (fun j=>decide (IntKind.i64.wrap ((s.at j).seq - t)<0)) f i j) (fun⟨i,j,f⟩=>f) (fun _=>[]) [10,9,8,0,1,2] (fun⟨i,j,f⟩=>[(10,vI (j:Int)),(9,vI (i:Int))]) (fun _=>[]) ?_ (⟨0,s.n,s.n⟩) ⟨Nat.zero_le _,Nat.le_refl _,Nat.le_refl _,rfl⟩
 rintro⟨i,j,f⟩ ⟨h1,h2,h3,hI⟩ _ bu
 have hdiv:((i:Int)+(j:Int)) / 2=(((i+j) / 2:Nat):Int):=by omega
 refine Md ((i:Int)<(j:Int)) (fun h1=>?_) fun h1=>?_
 rotate_left
 · refine Md ((i:Int)<(s.n:Int)) (fun h3=>?_) fun h3=>?_
   rotate_left
   · refine Mt [vi (i:Int),vb false] fun bs w hS=>?_
     have jf:i=j:=by omega
     subst jf
     have hr:eQ (fun x:aK=>IntKind.i64.wrap (x.seq - t)) s.xs=i:=by rw[hI];exact iQ _ _ _ _ (Nat.le_refl _)
     refine⟨?_,hS.kp⟩
     have ny:dk (fun x:aK=>IntKind.i64.wrap (x.seq - t)) s.xs=false:=by
       unfold dk;rw[hr]
       rw[decide_eq_false (show ¬i<s.xs.length by omega)];rfl
     rw[hr,ny]
     rfl
   refine Mi ?_ (pA 43 44 (i:Int) i (db hs))
   refine Mp ?_ call89 (fun bs w hS=>oC (s.at i) t w)
   refine Mt [vi (i:Int),vb (decide (IntKind.i64.wrap ((s.at i).seq - t)=0))] fun bs w hS=>?_
   have jf:i=j:=by omega
   subst jf
   have hr:eQ (fun x:aK=>IntKind.i64.wrap (x.seq - t)) s.xs=i:=by rw[hI];exact iQ _ _ _ _ (Nat.le_refl _)
   refine⟨?_,hS.kp⟩
   have ny:dk (fun x:aK=>IntKind.i64.wrap (x.seq - t)) s.xs=(decide (IntKind.i64.wrap ((s.at i).seq - t)=0)):=by
     unfold dk;rw[hr]
     rw[decide_eq_true (show i<s.xs.length by omega)];rfl
   rw[hr,ny]
   rfl
 refine Mi ?_ (pc (pR ((i:Int)+(j:Int))) (pc (pG [(21,.val (.int .u64 ((i:Int)+(j:Int))))] (oc ((jD Tryz.underlying3 Tryz.underlying203 (by omega) (by omega)): ∀w,(convert 3 203 (vi ((i:Int)+(j:Int))):Sem Value).run prog w=.ok (.int .u64 ((i:Int)+(j:Int))) w) on)) (pc (pG [(22,.val (.int .u64 (((i:Int)+(j:Int)) / 2)))] (oc (qn: ∀w,(do eqGuard .shr 203 (.tmp 21) (.const (.int .u64 1)) (.int .u64 ((i:Int)+(j:Int))) (.int .u64 1);binOp .shr 203 (.int .u64 ((i:Int)+(j:Int))) (.int .u64 1):Sem Value).run prog w=.ok (.int .u64 (((i:Int)+(j:Int)) / 2)) w) on)) (pc (pG [(23,.val (vi (((i:Int)+(j:Int)) / 2)))] (oc ((jE Tryz.underlying203 Tryz.underlying3 (by omega) (by omega)): ∀w,(convert 203 3 (.int .u64 (((i:Int)+(j:Int)) / 2)):Sem Value).run prog w=.ok (vi (((i:Int)+(j:Int)) / 2)) w) on)) (pA 27 28 (((i:Int)+(j:Int)) / 2) (((i:Int)+(j:Int)) / 2).toNat (db hs))))))
 refine Mp ?_ call89 (fun bs w hS=>oC (s.at (((i:Int)+(j:Int)) / 2).toNat) t w)
 refine Md (IntKind.i64.wrap ((s.at (((i:Int)+(j:Int)) / 2).toNat).seq - t)<0) (fun h2=>?_) fun h2=>?_
 rotate_left
 · have yn:f=(f - 1)+1:=by omega
   rw[yn] at hI
   have sg:=hI.trans (mH (by omega) (decide_eq_false (by assumption)))
   exact bu ⟨i,(i+j) / 2,f - 1⟩ ⟨by omega,by omega,by omega,sg⟩ (by show f - 1<f;omega)
 refine Mi ?_ (pR ((((i:Int)+(j:Int)) / 2)+1))
 have yn:f=(f - 1)+1:=by omega
 rw[yn] at hI
 have sg:=hI.trans (qt (by omega) (decide_eq_true (by assumption)))
 exact bu ⟨(i+j) / 2+1,j,f - 1⟩ ⟨by omega,by omega,by omega,sg⟩ (by show f - 1<f;omega)
end Go.Proofs.YtbjakddkfgjkaaaGreat.W
