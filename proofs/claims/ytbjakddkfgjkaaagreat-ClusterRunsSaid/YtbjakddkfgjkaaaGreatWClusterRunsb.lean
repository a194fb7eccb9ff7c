/-
  The functions that the law ClusterRuns reaches, walked: each returns what its model says.
  Conditions: those that each theorem states.
-/
import Derived.Test.YtbjakddkfgjkaaaGreatWClusterRunsa
set_option linter.unusedVariables false
set_option linter.unusedSimpArgs false
set_option maxRecDepth 100000
set_option maxHeartbeats 2000000
namespace Go.Proofs.YtbjakddkfgjkaaaGreat.W
open Go.Proofs.YtbjakddkfgjkaaaGreat.Fw Go.RowKit Tryz
variable {B : Nat → Prop}
attribute [local irreducible] JM nx
theorem rf (s:Sl aa)(t:Int)(w:World)(hs:s.rd B w)(hn:s.n≤1048576):Calls prog 141 #[s.val,vi t,.func (.func 142) #[] #[]] w fun e w'=>e=.returned (.tuple #[vi (eQ (fun x:aa=>IntKind.i64.wrap (x.ag - t)) s.xs:Nat),vb (dk (fun x:aa=>IntKind.i64.wrap (x.ag - t)) s.xs)])∧Kp [] w w':=by
 have cV:=Sl.rd.ok hs
 have iV:=Sl.ok.nc cV
 have iW:s.n=s.xs.length:=rfl
 refine Mj ?_ func141 (WS.start w)
 refine Ml (σ:=Nat×Nat×Nat) (fun⟨i,j,f⟩=>i≤j∧j≤s.n∧j - i≤f∧eQ (fun x:aa=>IntKind.i64.wrap (x.ag - t)) s.xs=lZ (fun j=>decide (IntKind.i64.wrap ((s.at j).ag - t)<0)) f i j) (fun⟨i,j,f⟩=>f) (fun _=>[]) [10,9,8,0,1,2] (fun⟨i,j,f⟩=>[(10,vI (j:Int)),(9,vI (i:Int))]) (fun _=>[]) ?_ (⟨0,s.n,s.n⟩) ⟨Nat.zero_le _,Nat.le_refl _,Nat.le_refl _,rfl⟩
 rintro⟨i,j,f⟩ ⟨h1,h2,h3,hI⟩ _ bu
 have hdiv:((i:Int)+(j:Int)) / 2=(((i+j) / 2:Nat):Int):=by omega
 refine Md ((i:Int)<(j:Int)) (fun h1=>?_) fun h1=>?_
 rotate_left
 ·refine Md ((i:Int)<(s.n:Int)) (fun h3=>?_) fun h3=>?_
  rotate_left
  ·refine Mt [vi (i:Int),vb false] fun bs w hS=>?_
   have jf:i=j:=by omega
   subst jf
   have hr:eQ (fun x:aa=>IntKind.i64.wrap (x.ag - t)) s.xs=i:=by rw[hI];exact iQ _ _ _ _ (Nat.le_refl _)
   refine⟨?_,hS.kp⟩
   have ny:dk (fun x:aa=>IntKind.i64.wrap (x.ag - t)) s.xs=false:=by
     unfold dk;rw[hr]
     rw[decide_eq_false (show ¬i<s.xs.length by omega)];rfl
   rw[hr,ny]
   rfl
  refine Mi ?_ (pA 43 44 (i:Int) i (db hs))
  refine Mp ?_ call142 (fun bs w hS=>oz (s.at i) t w)
  refine Mt [vi (i:Int),vb (decide (IntKind.i64.wrap ((s.at i).ag - t)=0))] fun bs w hS=>?_
  have jf:i=j:=by omega
  subst jf
  have hr:eQ (fun x:aa=>IntKind.i64.wrap (x.ag - t)) s.xs=i:=by rw[hI];exact iQ _ _ _ _ (Nat.le_refl _)
  refine⟨?_,hS.kp⟩
  have ny:dk (fun x:aa=>IntKind.i64.wrap (x.ag - t)) s.xs=(decide (IntKind.i64.wrap ((s.at i).ag - t)=0)):=by
    unfold dk;rw[hr]
    rw[decide_eq_true (show i<s.xs.length by omega)];rfl
  rw[hr,ny]
  rfl
 refine Mi ?_ (pc (pR ((i:Int)+(j:Int))) (pc (pG [(21,.val (.int .u64 ((i:Int)+(j:Int))))] (oc ((jD Tryz.underlying3 Tryz.underlying203 (by omega) (by omega)): ∀w,(convert 3 203 (vi ((i:Int)+(j:Int))):Sem Value).run prog w=.ok (.int .u64 ((i:Int)+(j:Int))) w) on)) (pc (pG [(22,.val (.int .u64 (((i:Int)+(j:Int)) / 2)))] (oc (qo: ∀w,(do eqGuard .shr 203 (.tmp 21) (.const (.int .u64 1)) (.int .u64 ((i:Int)+(j:Int))) (.int .u64 1);binOp .shr 203 (.int .u64 ((i:Int)+(j:Int))) (.int .u64 1):Sem Value).run prog w=.ok (.int .u64 (((i:Int)+(j:Int)) / 2)) w) on)) (pc (pG [(23,.val (vi (((i:Int)+(j:Int)) / 2)))] (oc ((jE Tryz.underlying203 Tryz.underlying3 (by omega) (by omega)): ∀w,(convert 203 3 (.int .u64 (((i:Int)+(j:Int)) / 2)):Sem Value).run prog w=.ok (vi (((i:Int)+(j:Int)) / 2)) w) on)) (pA 27 28 (((i:Int)+(j:Int)) / 2) (((i:Int)+(j:Int)) / 2).toNat (db hs))))))
 refine Mp ?_ call142 (fun bs w hS=>oz (s.at (((i:Int)+(j:Int)) / 2).toNat) t w)
 refine Md (IntKind.i64.wrap ((s.at (((i:Int)+(j:Int)) / 2).toNat).ag - t)<0) (fun h2=>?_) fun h2=>?_
 rotate_left
 ·have yo:f=(f - 1)+1:=by omega
  rw[yo]at hI
  have sh:=hI.trans (mH (by omega) (decide_eq_false (by assumption)))
  exact bu ⟨i,(i+j) / 2,f - 1⟩ ⟨by omega,by omega,by omega,sh⟩ (by show f - 1<f;omega)
 refine Mi ?_ (pR ((((i:Int)+(j:Int)) / 2)+1))
 have yo:f=(f - 1)+1:=by omega
 rw[yo]at hI
 have sh:=hI.trans (qu (by omega) (decide_eq_true (by assumption)))
 exact bu ⟨(i+j) / 2+1,j,f - 1⟩ ⟨by omega,by omega,by omega,sh⟩ (by show f - 1<f;omega)
theorem ll (s:Sl aa)(t:Int)(w:World)(hs:s.rd B w)(hn:s.n≤1048576):Calls prog 76 #[s.val,vi t] w fun e w'=>e=.returned (.tuple #[vi (eQ (fun x:aa=>IntKind.i64.wrap (x.ag - t)) s.xs:Nat),vb (dk (fun x:aa=>IntKind.i64.wrap (x.ag - t)) s.xs)])∧Kp [] w w':=by
 have cV:=Sl.rd.ok hs
 have iV:=Sl.ok.nc cV
 have iW:s.n=s.xs.length:=rfl
 refine M0 ?_ func76
 refine Mp ?_ call141 (fun bs w hS=>rf s t w (Sl.rd.kp hs hS.kp) (by omega))
 exact Mt [vi ((eQ (fun x:aa=>IntKind.i64.wrap (x.ag - t)) s.xs:Nat):Int),vb (dk (fun x:aa=>IntKind.i64.wrap (x.ag - t)) s.xs)] fun bs w hS=>⟨rfl,hS.kp⟩
theorem eg (s:Sl aa)(t:Int)(w:World)(hs:s.rd B w):Calls prog 98 #[s.val,vi t] w fun e w'=>e=.returned (vi (aQ (fun x:aa=>decide (x.ag=t)) s.xs))∧Kp [] w w':=by
 have cV:=Sl.rd.ok hs
 have iV:=Sl.ok.nc cV
 have iW:s.n=s.xs.length:=rfl
 refine M0 ?_ func98
 refine Ml (σ:=Nat) (fun i=>i≤s.n∧ ∀j,j<i→decide ((s.at j).ag=t)=false) (fun i=>s.n - i) (fun _=>[]) [5,0,1] (fun i=>[(5,vI (i:Int))]) (fun _=>[]) ?_ 0 ⟨Nat.zero_le _,fun j hj=>absurd hj (Nat.not_lt_zero _)⟩
 rintro i ⟨hi,hI⟩ _ bu
 refine Md ((i:Int)<(s.n:Int)) (fun h1=>?_) fun h1=>?_
 rotate_left
 ·exact cd (-1) (by rw[gp (p:=(fun x:aa=>decide (x.ag=t))) fun j hj=>hI j (by omega)])
 refine Mi ?_ (pc (pI 14 (i:Int) i (db hs)) (pF 16 i 0 1 (db hs)))
 refine Md ((s.at i).ag=t) (fun h2=>?_) fun h2=>?_
 ·exact cd (i:Int) (by rw[fR (p:=(fun x:aa=>decide (x.ag=t))) (i:=i) (by omega) (decide_eq_true (by assumption)) hI])
 refine Mi ?_ (pR ((i:Int)+1))
 exact bu (i+1) ⟨by omega,fun j hj=>by rcases Nat.lt_succ_iff_lt_or_eq.1 hj with h|h;exact hI j h;subst h;exact decide_eq_false (by assumption)⟩ (by omega)
theorem yr (A:Option Addr)(c:Nat)(L:List aa)(i j:Nat)(ii jj:Int)(w:World)(gb:(ay 118 A c L).p w)(dX: ∀b,b∈(ay 118 A c L).fp→b<w.heap.size)(ei:ii=(i:Int))(ej:jj=(j:Int))(jf:i≤j)(hj:j≤L.length):
    Calls prog 78 #[.slice A L.length c,vi ii,vi jj] w fun e w'=>e=.returned (.slice A (L.take i++L.drop j).length c)∧dh (ay 118 A c L) w w' (ay 118 A c (L.take i++L.drop j)):=by
 subst ei ej
 have mv:=br gb
 have nc:=mv.2
 refine Mj ?_ func78 (WS.eG w _ gb (by cases A<;>simp [ay,fI]) dX)
 refine NF (e:=118) (A:=A) (n:=L.length) (il:=(i:Int)) (ih:=(j:Int)) (im:=(L.length:Int)) (c:=c) i j L.length ?_ rfl rfl rfl (by omega) (by omega) (by omega)
 refine Md ((i:Int)=(j:Int)) (fun h1=>?_) fun h1=>?_
 ·refine Mt [.slice A L.length c] fun bs w hS=>?_
  have BT:i=j:=by omega
  subst BT
  rw[List.take_append_drop]
  exact⟨rfl,hS.aW⟩
 refine fP 6 ?_ ai
 refine bY ?_ (pc (pG [(22,.sl 0 i)] (oc (rfl:0=0) (oc (rfl:(i:Int)=(i:Int)) (oc ((by omega):i≤c) on)))) (pG [(25,.sl j L.length)] (oc (rfl:(j:Int)=(j:Int)) (oc (rfl:L.length=L.length) (oc ((by omega):j≤L.length) on)))))
 refine Mz ?_
 refine NA 56 i j ?_ jf hj
 refine Mi ?_ (pG [(31,.sl (i+(L.length - j)) L.length)] (oc (rfl:((i+(L.length - j):Nat):Int)=(((i+(L.length - j)):Nat):Int)) (oc (rfl:(L.length:Int)=(L.length:Int)) (oc ((by omega):(i+(L.length - j))≤L.length) (oc ((by omega):L.length≤c) on)))))
 refine KA (i+(L.length - j)) (L.length - (i+(L.length - j))) ?_ (by simp only[List.length_append,List.length_take,List.length_drop];omega) (by omega)
 refine Mt [.slice A (i+(L.length - j)) c] fun bs w hS=>?_
 have hlen:(L.take i++L.drop j).length=i+(L.length - j):=by simp only[List.length_append,List.length_take,List.length_drop];omega
 have j1:=hS
 rw[←hlen,List.take_length]at j1
 refine⟨?_,j1.aW⟩
 rw[hlen]
 rfl
theorem vZ (s:Sl aa)(n t:Int)(w:World)(hs:s.rd B w)(ht:ln t):Calls prog 26 #[s.val,vi n,vi t] w fun e w'=> ∃y:Sl aa,e=.returned (.tuple #[y.val,((dB (s.xs.map aa.abs) n t).2.1).val,vi (dB (s.xs.map aa.abs) n t).2.2])∧y.xs.map aa.abs=(dB (s.xs.map aa.abs) n t).1∧bJ w w' y:=by
 have cV:=Sl.rd.ok hs
 have iV:=Sl.ok.nc cV
 have iW:s.n=s.xs.length:=rfl
 have tB:(s.xs.map aa.abs).length=s.n:=by simp
 refine M0 ?_ func26
 refine Mp ?_ call63 (fun bs w hS=>gV s n w (Sl.rd.kp hs hS.kp))
 refine cr (bC (s.xs.map aa.abs) n=0) (fun h1=>?_) fun h1=>?_
 rotate_left
 ·refine Mt [vn,vz 0,vi (bC (s.xs.map aa.abs) n)] fun bs w hS=>?_
  have hm:dB (s.xs.map aa.abs) n t=([],gl,bC (s.xs.map aa.abs) n):=by grind[dB]
  refine⟨Sl.nil,?_,?_,hS.aO (Sl.ao _ _)⟩
  ·rw[hm];rfl
  ·rw[hm];rfl
 obtain⟨EW,wo,mh,gI⟩:=dm h1
 refine Mf ?_ call70 (fun bs w hS=>iC s w (Sl.rd.kp hs hS.kp) (fC (by assumption)))
 rintro y1 a5
 refine dH ?_
 have bn:=eW (hs) a5
 refine bk (F:= ∀i,i<y1.n→aJ.ok (y1.at i)) (fun bs w hS i hi=>aJ.bL (Sl.rd.sub (gu (A:=y1.A) (c:=y1.c) (L:=y1.xs) (hS.res _ i0) (hS.res _ i1) bn) hi)) fun gj=>?_
 refine bk (F:=dY y1.A y1.c (y1.xs:List aa)) (fun bs w hS=>br (hS.res _ i1)) fun cI=>?_
 have cn:=cI.2
 have OS:=sB a5
 have mu:y1.n=y1.xs.length:=rfl
 have ft:Sl.ok y1:=⟨cn.1,by unfold maxLen;exact cn.2,fun i hi=>⟨cI.1 i hi,gj i hi⟩⟩
 refine Mp ?_ call76 (fun bs w hS=>ll y1 t w (gu (A:=y1.A) (c:=y1.c) (L:=y1.xs) (hS.res _ i0) (hS.res _ i1) bn) (by omega))
 refine fL (dk (fun x:aa=>IntKind.i64.wrap (x.ag - t)) y1.xs) (fun h2=>?_) fun h2=>?_
 rotate_left
 ·refine Mt [y1.val,vz 11,vi 0] fun bs w hS=>?_
  have tH:aQ (fun x:az=>decide (x.ag=t)) (y1.xs.map aa.abs)=aQ (fun x:az=>decide (x.ag=t)) (s.xs.map aa.abs):=by rw[a5]
  have hb:=n8 (L:=y1.xs) (index:=n) (t:=t) (by rw[a5];assumption) ht
  have gU:=hb.1
  rw[h2,tH]at gU
  have jB:=of_decide_eq_false gU.symm
  have hm:dB (s.xs.map aa.abs) n t=(s.xs.map aa.abs,⟨11,0,emp⟩,0):=by grind[dB]
  refine⟨y1,?_,?_,hS.aO (y:=y1) (jG (L0:=y1.xs) i1 i0 hS.res (fun x hx=>hx) bn)⟩
  ·rw[hm];rfl
  ·rw[hm];exact a5
 have dX:=xU h2
 refine Mi ?_ (pR (((eQ (fun x:aa=>IntKind.i64.wrap (x.ag - t)) y1.xs:Nat):Int)+1))
 refine cb ?_
 refine nF ?_ (σ:=Unit) (v:=fun _=>.slice y1.A (y1.xs.take (((eQ (fun x:aa=>IntKind.i64.wrap (x.ag - t)) y1.xs:Nat):Int)).toNat++y1.xs.drop ((((eQ (fun x:aa=>IntKind.i64.wrap (x.ag - t)) y1.xs:Nat):Int)).toNat+1)).length y1.c) (F:=fun _=>True) (r:=fun _=>ay 118 y1.A y1.c (y1.xs.take (((eQ (fun x:aa=>IntKind.i64.wrap (x.ag - t)) y1.xs:Nat):Int)).toNat++y1.xs.drop ((((eQ (fun x:aa=>IntKind.i64.wrap (x.ag - t)) y1.xs:Nat):Int)).toNat+1):List aa)) (vs:=fun bs=>[y1.val,vi ((eQ (fun x:aa=>IntKind.i64.wrap (x.ag - t)) y1.xs:Nat):Int),vi (((eQ (fun x:aa=>IntKind.i64.wrap (x.ag - t)) y1.xs:Nat):Int)+1)]) call78 (fun bs w hS=>(yr y1.A y1.c y1.xs (((eQ (fun x:aa=>IntKind.i64.wrap (x.ag - t)) y1.xs:Nat):Int)).toNat ((((eQ (fun x:aa=>IntKind.i64.wrap (x.ag - t)) y1.xs:Nat):Int)).toNat+1) _ _ w (hS.res _ i0) hS.lH.2.2 (by omega) (by omega) (by omega) (by omega)).mono (fun e w' ⟨h1,h2⟩=>⟨(),h1,trivial,h2⟩))
 rintro _ _
 refine Mt [.slice y1.A (y1.xs.take (((eQ (fun x:aa=>IntKind.i64.wrap (x.ag - t)) y1.xs:Nat):Int)).toNat++y1.xs.drop ((((eQ (fun x:aa=>IntKind.i64.wrap (x.ag - t)) y1.xs:Nat):Int)).toNat+1)).length y1.c,vz 0,vi 0] fun bs w hS=>?_
 have tH:aQ (fun x:az=>decide (x.ag=t)) (y1.xs.map aa.abs)=aQ (fun x:az=>decide (x.ag=t)) (s.xs.map aa.abs):=by rw[a5]
 have hb:=n8 (L:=y1.xs) (index:=n) (t:=t) (by rw[a5];assumption) ht
 have gU:=hb.1
 rw[h2,tH]at gU
 have jB:=of_decide_eq_true gU.symm
 have gT:=hb.2 h2
 rw[tH]at gT
 have hm:dB (s.xs.map aa.abs) n t=((s.xs.map aa.abs).take (aQ (fun x:az=>decide (x.ag=t)) (s.xs.map aa.abs)).toNat++(s.xs.map aa.abs).drop ((aQ (fun x:az=>decide (x.ag=t)) (s.xs.map aa.abs)).toNat+1),gl,0):=by grind[dB]
 refine⟨⟨y1.A,y1.c,y1.xs.take (((eQ (fun x:aa=>IntKind.i64.wrap (x.ag - t)) y1.xs:Nat):Int)).toNat++y1.xs.drop ((((eQ (fun x:aa=>IntKind.i64.wrap (x.ag - t)) y1.xs:Nat):Int)).toNat+1)⟩,?_,?_,hS.aO (y:=(⟨y1.A,y1.c,y1.xs.take (((eQ (fun x:aa=>IntKind.i64.wrap (x.ag - t)) y1.xs:Nat):Int)).toNat++y1.xs.drop ((((eQ (fun x:aa=>IntKind.i64.wrap (x.ag - t)) y1.xs:Nat):Int)).toNat+1)⟩:Sl aa)) (jG (L0:=y1.xs) i0 i1 hS.res (fun x hx=>?_) bn)⟩
 ·rw[hm];rfl
 ·rw[hm, ←gT,Int.toNat_natCast, ←a5];simp[List.map_append,List.map_take,List.map_drop]
 ·simp only[List.nil_append,List.mem_append]at hx;rcases hx with hx|hx
  ·exact List.mem_of_mem_take hx
  ·exact List.mem_of_mem_drop hx
theorem BX (s:Sl aa)(n t:Int)(w:World)(hs:s.rd B w)(ht:ln t):Calls prog 35 #[s.val,vi n,vi t] w fun e w'=> ∃y:Sl aa,e=.returned (.tuple #[y.val,((dB (s.xs.map aa.abs) n t).2.1).val,vi (dB (s.xs.map aa.abs) n t).2.2])∧y.xs.map aa.abs=(dB (s.xs.map aa.abs) n t).1∧bJ w w' y:=by
 have cV:=Sl.rd.ok hs
 have iV:=Sl.ok.nc cV
 have iW:s.n=s.xs.length:=rfl
 have tB:(s.xs.map aa.abs).length=s.n:=by simp
 refine M0 ?_ func35
 refine Mp ?_ call92 (fun bs w hS=>eV s n w (Sl.rd.kp hs hS.kp))
 refine cr (bC (s.xs.map aa.abs) n=0) (fun h1=>?_) fun h1=>?_
 rotate_left
 ·refine Mt [vn,vz 0,vi (bC (s.xs.map aa.abs) n)] fun bs w hS=>?_
  have hm:dB (s.xs.map aa.abs) n t=([],gl,bC (s.xs.map aa.abs) n):=by grind[dB]
  refine⟨Sl.nil,?_,?_,hS.aO (Sl.ao _ _)⟩
  ·rw[hm];rfl
  ·rw[hm];rfl
 obtain⟨EW,wo,mh,gI⟩:=dm h1
 refine Mf ?_ call19 (fun bs w hS=>fB s w (Sl.rd.kp hs hS.kp) (fC (by assumption)))
 rintro y1 a5
 refine dH ?_
 have bn:=eW (hs) a5
 refine bk (F:= ∀i,i<y1.n→aJ.ok (y1.at i)) (fun bs w hS i hi=>aJ.bL (Sl.rd.sub (gu (A:=y1.A) (c:=y1.c) (L:=y1.xs) (hS.res _ i0) (hS.res _ i1) bn) hi)) fun gj=>?_
 refine bk (F:=dY y1.A y1.c (y1.xs:List aa)) (fun bs w hS=>br (hS.res _ i1)) fun cI=>?_
 have cn:=cI.2
 have OS:=sB a5
 have mu:y1.n=y1.xs.length:=rfl
 have Sn:=du (fun x:aa=>decide (x.ag=t)) y1.xs
 have ft:Sl.ok y1:=⟨cn.1,by unfold maxLen;exact cn.2,fun i hi=>⟨cI.1 i hi,gj i hi⟩⟩
 refine Mp ?_ call98 (fun bs w hS=>eg y1 t w (gu (A:=y1.A) (c:=y1.c) (L:=y1.xs) (hS.res _ i0) (hS.res _ i1) bn))
 refine Md (aQ (fun x:aa=>decide (x.ag=t)) y1.xs<0) (fun h2=>?_) fun h2=>?_
 ·refine Mt [y1.val,vz 11,vi 0] fun bs w hS=>?_
  have tH:aQ (fun x:az=>decide (x.ag=t)) (y1.xs.map aa.abs)=aQ (fun x:az=>decide (x.ag=t)) (s.xs.map aa.abs):=by rw[a5]
  have Me:aQ (fun x:aa=>decide (x.ag=t)) y1.xs=aQ (fun x:az=>decide (x.ag=t)) (s.xs.map aa.abs):=(fm aa.abs (fun x:az=>decide (x.ag=t)) y1.xs).trans tH
  have hm:dB (s.xs.map aa.abs) n t=(s.xs.map aa.abs,⟨11,0,emp⟩,0):=by grind[dB]
  refine⟨y1,?_,?_,hS.aO (y:=y1) (jG (L0:=y1.xs) i1 i0 hS.res (fun x hx=>hx) bn)⟩
  ·rw[hm];rfl
  ·rw[hm];exact a5
 refine Mi ?_ (pG [(31,.sl 0 (aQ (fun x:aa=>decide (x.ag=t)) y1.xs).toNat)] (oc (rfl:0=0) (oc ((by omega):aQ (fun x:aa=>decide (x.ag=t)) y1.xs=(((aQ (fun x:aa=>decide (x.ag=t)) y1.xs).toNat:Nat):Int)) (oc ((by omega):(aQ (fun x:aa=>decide (x.ag=t)) y1.xs).toNat≤y1.c) on))))
 refine bU (α:=aa) 118 ?_
 refine Ma ?_ (α:=aa) (L2:=(y1.xs).take (aQ (fun x:aa=>decide (x.ag=t)) y1.xs).toNat) 56 (fun bs w hS=>fx.tZ (mE (hS.res _ i2)) (by omega)) (hn2:=(by rw[List.length_take];exact Nat.min_eq_left (by omega)))
 intro A3 c3
 refine Mi ?_ (pc (pR ((aQ (fun x:aa=>decide (x.ag=t)) y1.xs)+1)) (pG [(37,.sl ((aQ (fun x:aa=>decide (x.ag=t)) y1.xs)+1).toNat y1.n)] (oc ((by omega):(aQ (fun x:aa=>decide (x.ag=t)) y1.xs)+1=((((aQ (fun x:aa=>decide (x.ag=t)) y1.xs)+1).toNat:Nat):Int)) (oc (rfl:y1.n=y1.n) (oc ((by omega):((aQ (fun x:aa=>decide (x.ag=t)) y1.xs)+1).toNat≤y1.n) on)))))
 refine Ma ?_ (α:=aa) (L2:=y1.xs.drop ((aQ (fun x:aa=>decide (x.ag=t)) y1.xs)+1).toNat) 56 (fun bs w hS=>Sl.rd.oK (s:=y1) (gu (A:=y1.A) (c:=y1.c) (L:=y1.xs) (hS.res _ i1) (hS.res _ i2) bn) (by omega)) (hn2:=(List.length_drop ..))
 intro A4 c4
 refine Mt [.slice A4 ([]++(y1.xs).take (aQ (fun x:aa=>decide (x.ag=t)) y1.xs).toNat++y1.xs.drop ((aQ (fun x:aa=>decide (x.ag=t)) y1.xs)+1).toNat).length c4,vz 0,vi 0] fun bs w hS=>?_
 have tH:aQ (fun x:az=>decide (x.ag=t)) (y1.xs.map aa.abs)=aQ (fun x:az=>decide (x.ag=t)) (s.xs.map aa.abs):=by rw[a5]
 have Me:aQ (fun x:aa=>decide (x.ag=t)) y1.xs=aQ (fun x:az=>decide (x.ag=t)) (s.xs.map aa.abs):=(fm aa.abs (fun x:az=>decide (x.ag=t)) y1.xs).trans tH
 have hm:dB (s.xs.map aa.abs) n t=((s.xs.map aa.abs).take (aQ (fun x:az=>decide (x.ag=t)) (s.xs.map aa.abs)).toNat++(s.xs.map aa.abs).drop ((aQ (fun x:az=>decide (x.ag=t)) (s.xs.map aa.abs)).toNat+1),gl,0):=by grind[dB]
 refine⟨⟨A4,c4,[]++(y1.xs).take (aQ (fun x:aa=>decide (x.ag=t)) y1.xs).toNat++y1.xs.drop ((aQ (fun x:aa=>decide (x.ag=t)) y1.xs)+1).toNat⟩,?_,?_,hS.aO (y:=(⟨A4,c4,[]++(y1.xs).take (aQ (fun x:aa=>decide (x.ag=t)) y1.xs).toNat++y1.xs.drop ((aQ (fun x:aa=>decide (x.ag=t)) y1.xs)+1).toNat⟩:Sl aa)) (jG (L0:=y1.xs) i0 i1 hS.res (fun x hx=>?_) bn)⟩
 ·rw[hm];rfl
 ·have So:(aQ (fun x:aa=>decide (x.ag=t)) y1.xs+1).toNat=(aQ (fun x:aa=>decide (x.ag=t)) y1.xs).toNat+1:=by omega
  rw[hm, ←Me, ←a5];simp[List.map_append,List.map_take,List.map_drop,So]
 ·simp only[List.nil_append,List.mem_append]at hx;rcases hx with hx|hx
  ·exact List.mem_of_mem_take hx
  ·exact List.mem_of_mem_drop hx
theorem sM (s:Sl Int)(who:Int)(w:World)(hs:s.rd B w)(hb:s.n≤1048576):Calls prog 105 #[s.val,vi who] w fun e w'=> ∃y:Sl Int,e=.returned y.val∧y.xs=gi s.xs who∧bJ w w' y:=by
 have cV:=Sl.rd.ok hs
 have iV:=Sl.ok.nc cV
 have iW:s.n=s.xs.length:=rfl
 refine M0 ?_ func105
 refine bU (α:=Int) 3 ?_
 refine Ml (σ:=Nat×Option Addr×Nat×List Int) (fun⟨i,A,c,L⟩=>i≤s.n∧L=(s.xs.take i).filter (fun z=>!decide (z=who))) (fun⟨i,A,c,L⟩=>s.n - i) (fun⟨i,A,c,L⟩=>[ay 3 A c (L:List Int)]) [6,5,0,1] (fun⟨i,A,c,L⟩=>[(6,vI (i:Int)),(5,.v (.slice A L.length c))]) (fun _=>[]) ?_ (⟨0,none,0,[]⟩) ⟨Nat.zero_le _,rfl⟩
 rintro⟨i,A,c,L⟩ ⟨hi,hI⟩ _ bu
 have Mn:L.length≤i:=by rw[hI];exact Nat.le_trans (List.length_filter_le _ _) (by rw[List.length_take];omega)
 refine Md ((i:Int)<(s.n:Int)) (fun h1=>?_) fun h1=>?_
 rotate_left
 ·exact Mt [.slice A L.length c] fun bs w hS=>⟨⟨A,c,L⟩,rfl,by show L=_;rw[hI,dE (by omega)];rfl,hS.aO (y:=(⟨A,c,L⟩:Sl Int)) (a4 i0 (hS.res _ i0) (fun _ _=>trivial))⟩
 refine Mi ?_ (pA 15 16 (i:Int) i (db hs))
 refine cr ((s.at i)=who) (fun h2=>?_) fun h2=>?_
 ·refine Mi ?_ (pR ((i:Int)+1))
  exact bu ⟨i+1,A,c,L⟩ ⟨by omega,by first|exact mL (p:=fun z=>decide (z=who)) hI (by omega) (decide_eq_false (by assumption))|exact lz (p:=fun z=>decide (z=who)) hI (by omega) (decide_eq_true (by assumption))⟩ (by show s.n - (i+1)<s.n - i;omega)
 refine Mi ?_ (pA 22 23 (i:Int) i (db hs))
 refine M1 ?_
 refine gX (α:=Int) 8 ([(s.at i)]) ?_
 intro A1 c1
 refine Mi ?_ (pR ((i:Int)+1))
 exact bu ⟨i+1,A1,c1,L++[(s.at i)]⟩ ⟨by omega,by first|exact mL (p:=fun z=>decide (z=who)) hI (by omega) (decide_eq_false (by assumption))|exact lz (p:=fun z=>decide (z=who)) hI (by omega) (decide_eq_true (by assumption))⟩ (by show s.n - (i+1)<s.n - i;omega)
theorem vk (x:ae)(w:World)(hx:aJ.sub B w x)(hf:1≤x.aA∧x.aA≤1073741824)(hl:x.line.n≤1048576):Calls prog 104 #[x.val] w fun e w'=> ∃y:ae,e=.returned y.val∧y.abs=gN x.abs∧bJ w w' y:=by
 have cC:=aJ.bL hx
 have mr:=Sl.ok.nc cC.2
 have mu:x.line.n=x.line.xs.length:=rfl
 have lQ:x.abs.line=x.line.xs:=rfl
 have kN:x.abs.aA=x.aA:=rfl
 refine M0 ?_ func104
 refine Md ((x.line.n:Int)=0) (fun h1=>?_) fun h1=>?_
 ·refine Mt [.agg #[vs x.name,vi 0,vi x.aA,vn]] fun bs w hS=>?_
  have hp:gN x.abs=⟨x.name,0,x.aA,[]⟩:=by unfold gN;rw[lQ,kN,if_neg (by omega)];rfl
  exact⟨⟨x.name,0,x.aA,Sl.nil⟩,rfl,hp.symm,hS.aO (y:=(⟨x.name,0,x.aA,Sl.nil⟩:ae)) ⟨cC.1,Sl.ao _ _⟩⟩
 refine Md ((1073741824:Int)≤x.aA) (fun h2=>?_) fun h2=>?_
 ·refine Mt [.agg #[vs x.name,vi 0,vi x.aA,vn]] fun bs w hS=>?_
  have hp:gN x.abs=⟨x.name,0,x.aA,[]⟩:=by unfold gN;rw[lQ,kN,if_neg (by omega)];rfl
  exact⟨⟨x.name,0,x.aA,Sl.nil⟩,rfl,hp.symm,hS.aO (y:=(⟨x.name,0,x.aA,Sl.nil⟩:ae)) ⟨cC.1,Sl.ao _ _⟩⟩
 refine cZ 14 [] [] [] ai ?_
 refine bY ?_ (pc (pA 21 22 0 0 (s:=x.line) (fun w hk hr=>(aJ.kp hx hk).2)) (pc (pR (x.aA+1)) (pG [(28,.sl 1 x.line.n)] (oc (rfl:(1:Int)=((1:Nat):Int)) (oc (rfl:x.line.n=x.line.n) (oc ((by omega):1≤x.line.n) on))))))
 refine bU (α:=Int) 3 ?_
 refine Ma ?_ (α:=Int) (L2:=x.line.xs.drop 1) 8 (fun bs w hS=>Sl.rd.oK (s:=x.line) (aJ.kp hx hS.kp).2 (by omega)) (hn2:=(List.length_drop ..))
 intro A1 c1
 refine eu (ay 3 A1 c1 (x.line.xs.drop 1:List Int)) (List.Sublist.refl _) (fun w h=>h) ?_
 refine Mt [.agg #[vs x.name,vi (x.line.at 0),vi (x.aA+1),.slice A1 (x.line.xs.drop 1).length c1]] fun bs w hS=>?_
 have hp:gN x.abs=⟨x.name,x.line.at 0,x.aA+1,x.line.xs.drop 1⟩:=by unfold gN;rw[lQ,kN,if_pos (by omega)];rfl
 exact⟨⟨x.name,x.line.at 0,x.aA+1,⟨A1,c1,x.line.xs.drop 1⟩⟩,rfl,hp.symm,hS.aO (y:=(⟨x.name,x.line.at 0,x.aA+1,⟨A1,c1,x.line.xs.drop 1⟩⟩:ae)) ⟨cC.1,a4 i0 (hS.res _ i0) (fun _ _=>trivial)⟩⟩
theorem sk (A:Option Addr)(c:Nat)(L:List ae)(k:Nat)(w:World)(gb:(ay 115 A c L).p w)(dX: ∀b,b∈(ay 115 A c L).fp→b<w.heap.size)(hk:k<L.length)(hx:aJ.sub B w (L.getD k dd))(hB: ∀b,B b→b∉(ay 115 A c L).fp)(hf:1≤(L.getD k dd).aA∧(L.getD k dd).aA≤1073741824):Calls prog 140 #[.pointer (some ((xN A).add (k*4)))] w fun e w'=> ∃_:Unit,e=.returned (.tuple #[])∧True∧dh (ay 115 A c L) w w' (ay 115 A c (L.set k (eJ (L.getD k dd)))):=by
 have mv:=br gb
 have nc:=mv.2
 have cC:=aJ.bL hx
 have mr:=Sl.ok.nc cC.2
 have mu:(L.getD k dd).line.n=(L.getD k dd).line.xs.length:=rfl
 have nD: ∀w',Kp (ay 115 A c L).fp w w'→aJ.sub B w' (L.getD k dd):=fun w' hk=>aJ.stay (fun b hb dX=>hk.block b dX (hB b hb)) hx
 refine Mj ?_ func140 (WS.eG w _ gb (by cases A<;>simp [ay,fI]) dX)
 refine Ms k 1 (⟨(L.getD k dd).name,0,(L.getD k dd).aA,(L.getD k dd).line⟩:ae) ?_ (by omega)
 intro L1 Hc Sp
 have Al:L1.getD k dd=(⟨(L.getD k dd).name,0,(L.getD k dd).aA,(L.getD k dd).line⟩:ae):=by rw[Hc];exact bQ (by omega)
 have JR:L1=List.set L k (⟨(L.getD k dd).name,0,(L.getD k dd).aA,(L.getD k dd).line⟩:ae):=by rw[Hc]
 refine Mi ?_ (l5 8 k 3 1 Al i0)
 refine Md ((0:Int)<(((L.getD k dd).line.n:Nat):Int)) (fun h1=>?_) fun h1=>?_
 rotate_left
 ·refine Ms k 3 (⟨(L.getD k dd).name,0,(L.getD k dd).aA,Sl.nil⟩:ae) ?_ (by omega) (hg:=Al)
  intro L6 rB Am
  have ni:L6.getD k dd=(⟨(L.getD k dd).name,0,(L.getD k dd).aA,Sl.nil⟩:ae):=by rw[rB];exact bQ (by omega)
  have fM:L6=List.set L k (⟨(L.getD k dd).name,0,(L.getD k dd).aA,Sl.nil⟩:ae):=by rw[rB,JR,List.set_set]
  refine Mt [] fun bs w hS=>?_
  have hp:eJ (L.getD k dd)=(⟨(L.getD k dd).name,0,(L.getD k dd).aA,Sl.nil⟩:ae):=by grind[eJ]
  have hL:L6=L.set k (eJ (L.getD k dd)):=by rw[hp];exact fM
  subst hL
  exact⟨(),rfl,trivial,hS.aW⟩
 refine Mi ?_ (l5 15 k 2 1 Al i0)
 refine Md ((L.getD k dd).aA<1073741824) (fun h2=>?_) fun h2=>?_
 rotate_left
 ·refine Ms k 3 (⟨(L.getD k dd).name,0,(L.getD k dd).aA,Sl.nil⟩:ae) ?_ (by omega) (hg:=Al)
  intro L5 IU MA
  have Gp:L5.getD k dd=(⟨(L.getD k dd).name,0,(L.getD k dd).aA,Sl.nil⟩:ae):=by rw[IU];exact bQ (by omega)
  have BY:L5=List.set L k (⟨(L.getD k dd).name,0,(L.getD k dd).aA,Sl.nil⟩:ae):=by rw[IU,JR,List.set_set]
  refine Mt [] fun bs w hS=>?_
  have hp:eJ (L.getD k dd)=(⟨(L.getD k dd).name,0,(L.getD k dd).aA,Sl.nil⟩:ae):=by grind[eJ]
  have hL:L5=L.set k (eJ (L.getD k dd)):=by rw[hp];exact BY
  subst hL
  exact⟨(),rfl,trivial,hS.aW⟩
 refine cZ 27 [21] [] [ay 115 A c (L1:List ae)] ai ?_
 refine bY ?_ (pc (l5 24 k 3 1 Al i0) (pc (pA 25 26 0 0 (s:=(L.getD k dd).line) (fun w hk hr=>(nD _ hk).2)) (pc (l5 30 k 2 1 Al i0) (pc (pR ((L.getD k dd).aA+1)) (pc (l5 35 k 3 1 Al i0) (pG [(36,.sl 1 (L.getD k dd).line.n)] (oc (rfl:(1:Int)=((1:Nat):Int)) (oc (rfl:(L.getD k dd).line.n=(L.getD k dd).line.n) (oc ((by omega):1≤(L.getD k dd).line.n) on)))))))))
 refine RX [] k 1 (⟨(L.getD k dd).name,((L.getD k dd).line.at 0),(L.getD k dd).aA,(L.getD k dd).line⟩:ae) ?_ (by omega) (hg:=Al)
 intro L2 r8 OT
 have Ib:L2.getD k dd=(⟨(L.getD k dd).name,((L.getD k dd).line.at 0),(L.getD k dd).aA,(L.getD k dd).line⟩:ae):=by rw[r8];exact bQ (by omega)
 have JS:L2=List.set L k (⟨(L.getD k dd).name,((L.getD k dd).line.at 0),(L.getD k dd).aA,(L.getD k dd).line⟩:ae):=by rw[r8,JR,List.set_set]
 refine Ms k 2 (⟨(L.getD k dd).name,((L.getD k dd).line.at 0),(L.getD k dd).aA+1,(L.getD k dd).line⟩:ae) ?_ (by omega) (hg:=Ib)
 intro L3 sY BZ
 have ki:L3.getD k dd=(⟨(L.getD k dd).name,((L.getD k dd).line.at 0),(L.getD k dd).aA+1,(L.getD k dd).line⟩:ae):=by rw[sY];exact bQ (by omega)
 have iX:L3=List.set L k (⟨(L.getD k dd).name,((L.getD k dd).line.at 0),(L.getD k dd).aA+1,(L.getD k dd).line⟩:ae):=by rw[sY,JS,List.set_set]
 refine Ms k 3 (⟨(L.getD k dd).name,((L.getD k dd).line.at 0),(L.getD k dd).aA+1,⟨gA (L.getD k dd).line.A (L.getD k dd).line.c 1 1,(L.getD k dd).line.c - 1,(L.getD k dd).line.xs.drop 1⟩⟩:ae) ?_ (by omega) (hg:=ki) (hcell:=(Eq.trans (by kernel_rfl) (congrArg (fun q=>[Value.string (L.getD k dd).name,vi ((L.getD k dd).line.at 0),vi ((L.getD k dd).aA+1),.slice (gA (L.getD k dd).line.A (L.getD k dd).line.c 1 1) q ((L.getD k dd).line.c - 1)]) (List.length_drop ..).symm)))
 intro L4 qb An
 have j2:L4.getD k dd=(⟨(L.getD k dd).name,((L.getD k dd).line.at 0),(L.getD k dd).aA+1,⟨gA (L.getD k dd).line.A (L.getD k dd).line.c 1 1,(L.getD k dd).line.c - 1,(L.getD k dd).line.xs.drop 1⟩⟩:ae):=by rw[qb];exact bQ (by omega)
 have lV:L4=List.set L k (⟨(L.getD k dd).name,((L.getD k dd).line.at 0),(L.getD k dd).aA+1,⟨gA (L.getD k dd).line.A (L.getD k dd).line.c 1 1,(L.getD k dd).line.c - 1,(L.getD k dd).line.xs.drop 1⟩⟩:ae):=by rw[qb,iX,List.set_set]
 refine Mt [] fun bs w hS=>?_
 have hp:eJ (L.getD k dd)=(⟨(L.getD k dd).name,((L.getD k dd).line.at 0),(L.getD k dd).aA+1,⟨gA (L.getD k dd).line.A (L.getD k dd).line.c 1 1,(L.getD k dd).line.c - 1,(L.getD k dd).line.xs.drop 1⟩⟩:ae):=by grind[eJ]
 have hL:L4=L.set k (eJ (L.getD k dd)):=by rw[hp];exact lV
 subst hL
 exact⟨(),rfl,trivial,hS.aW⟩
theorem Ap (A:Option Addr)(c:Nat)(L:List Int)(i j:Nat)(ii jj:Int)(w:World)(gb:(ay 3 A c L).p w)(dX: ∀b,b∈(ay 3 A c L).fp→b<w.heap.size)(ei:ii=(i:Int))(ej:jj=(j:Int))(jf:i≤j)(hj:j≤L.length):
    Calls prog 139 #[.slice A L.length c,vi ii,vi jj] w fun e w'=>e=.returned (.slice A (L.take i++L.drop j).length c)∧dh (ay 3 A c L) w w' (ay 3 A c (L.take i++L.drop j)):=by
 subst ei ej
 have mv:=br gb
 have nc:=mv.2
 refine Mj ?_ func139 (WS.eG w _ gb (by cases A<;>simp [ay,fI]) dX)
 refine NF (e:=3) (A:=A) (n:=L.length) (il:=(i:Int)) (ih:=(j:Int)) (im:=(L.length:Int)) (c:=c) i j L.length ?_ rfl rfl rfl (by omega) (by omega) (by omega)
 refine Md ((i:Int)=(j:Int)) (fun h1=>?_) fun h1=>?_
 ·refine Mt [.slice A L.length c] fun bs w hS=>?_
  have BT:i=j:=by omega
  subst BT
  rw[List.take_append_drop]
  exact⟨rfl,hS.aW⟩
 refine fP 6 ?_ ai
 refine bY ?_ (pc (pG [(22,.sl 0 i)] (oc (rfl:0=0) (oc (rfl:(i:Int)=(i:Int)) (oc ((by omega):i≤c) on)))) (pG [(25,.sl j L.length)] (oc (rfl:(j:Int)=(j:Int)) (oc (rfl:L.length=L.length) (oc ((by omega):j≤L.length) on)))))
 refine Mz ?_
 refine NA 8 i j ?_ jf hj
 refine Mi ?_ (pG [(31,.sl (i+(L.length - j)) L.length)] (oc (rfl:((i+(L.length - j):Nat):Int)=(((i+(L.length - j)):Nat):Int)) (oc (rfl:(L.length:Int)=(L.length:Int)) (oc ((by omega):(i+(L.length - j))≤L.length) (oc ((by omega):L.length≤c) on)))))
 refine KA (i+(L.length - j)) (L.length - (i+(L.length - j))) ?_ (by simp only[List.length_append,List.length_take,List.length_drop];omega) (by omega)
 refine Mt [.slice A (i+(L.length - j)) c] fun bs w hS=>?_
 have hlen:(L.take i++L.drop j).length=i+(L.length - j):=by simp only[List.length_append,List.length_take,List.length_drop];omega
 have j1:=hS
 rw[←hlen,List.take_length]at j1
 refine⟨?_,j1.aW⟩
 rw[hlen]
 rfl
theorem Eo (s:Sl ae)(who:Int)(w:World)(hs:s.rd B w):Calls prog 75 #[s.val,vi who] w fun e w'=> ∃y:Sl ae,e=.returned (.tuple #[y.val,vi (j3 (s.xs.map ae.abs) who).2])∧y.xs.map ae.abs=(j3 (s.xs.map ae.abs) who).1∧bJ w w' y:=by
 have cV:=Sl.rd.ok hs
 have iV:=Sl.ok.nc cV
 have iW:s.n=s.xs.length:=rfl
 refine M0 ?_ func75
 refine Mp ?_ call64 (fun bs w hS=>ng s w (Sl.rd.kp hs hS.kp))
 refine cr (bB (s.xs.map ae.abs)=0) (fun h1=>?_) fun h1=>?_
 rotate_left
 ·exact eE (zE (who:=who) h1) Sl.nil rfl fun bs w hS=>hS.aO (Sl.ao _ _)
 refine Mp ?_ call130 (fun bs w hS=>mg who w)
 refine fL (gk who 1 9) (fun h2=>?_) fun h2=>?_
 rotate_left
 ·simp only[iT,iF]at h2
  exact eE (zF (who:=who) h1 (by simp only[iT,iF] at*;omega)) Sl.nil rfl fun bs w hS=>hS.aO (Sl.ao _ _)
 simp only[iT,iF]at h2
 refine Mf ?_ call68 (fun bs w hS=>sj s w (Sl.rd.kp hs hS.kp) (js (by assumption)))
 rintro y1 a5
 refine dH ?_
 obtain⟨A1,c1,S1⟩:=y1
 have a5:S1.map ae.abs=s.xs.map ae.abs:=a5
 refine fO (R':=[bI (bM 3) S1,ay 115 A1 c1 (S1:List ae)]) (List.Perm.refl _) ?_
 have bn:=gF (y:=(⟨A1,c1,S1⟩:Sl ae)) (hs) a5
 have oA:S1.length=s.xs.length:=by simpa using congrArg List.length a5
 refine bk (F:= ∀i,i<S1.length→aJ.ok (S1.getD i dd)) (fun bs w hS i hi=>aJ.bL (B:=bH) (w:=w) (gx (hS.res _ i0) bn (aB hi))) fun gj=>?_
 refine bk (F:=dY A1 c1 (S1:List ae)) (fun bs w hS=>br (hS.res _ i1)) fun cI=>?_
 have cn:=cI.2
 have kj:bB (S1.map ae.abs)=0:=by rw[a5];assumption
 have Gq:S1.length≤5:=by have h9:=(fS kj).1;simpa using h9
 refine gK (mc [] (S1.take 0)) rfl (fun w x hx=>by cases hx) ?_
 refine Ml (σ:=Nat×List ae×List Nat) (fun⟨k,L,fp⟩=>j5 who S1 k L) (fun⟨k,L,fp⟩=>S1.length - k) (fun⟨k,L,fp⟩=>[mc fp (L.take k),bI (bM 3) (S1.drop k),ay 115 A1 c1 (L:List ae)]) [22,21,0,1] (fun⟨k,L,fp⟩=>[(22,vI (k:Int))]) (fun _=>[]) ?_ (⟨0,S1,[]⟩) (j5.start bn)
 rintro⟨k,L,fp⟩ hI _ bu
 have MB:=hI.len
 have MC:=hI.le
 refine Md ((k:Int)<(S1.length:Int)) (fun h3=>?_) fun h3=>?_
 rotate_left
 ·refine Mt [.slice A1 S1.length c1,vi 0] fun bs w hS=>?_
  clear bu
  have hm:=CT (who:=who) h1 (by simp only[iT,iF] at*;omega)
  refine⟨⟨A1,c1,L⟩,?_,?_,hS.aO (y:=(⟨A1,c1,L⟩:Sl ae)) (zD hI (by omega) i2 i0 hS.res)⟩
  ·rw[hm];exact congrArg (fun q=>Ending.returned (.tuple #[.slice A1 q c1,vi 0])) hI.len.symm
  ·rw[hm, ←a5];exact hI.fin (by omega)
 have hD:(L.getD k dd)=S1.getD k dd:=hI.rest k (Nat.le_refl _)
 have B0:k<L.length:=by omega
 have nK:=mM kj (k:=k) (by omega)
 rw[←hD]at nK
 obtain⟨Gr,Gs,Aq,Ar,As,Gt⟩:=nK
 have Hd:(L.getD k dd).line.n=(L.getD k dd).line.xs.length:=rfl
 have MD:=gj k (by omega)
 rw[←hD]at MD
 have Sq:=Sl.ok.nc MD.2
 refine cb ?_
 refine m5 (ay 3 (L.getD k dd).line.A (L.getD k dd).line.c ((L.getD k dd).line.xs:List Int)) (bI (bM 3) (S1.drop (k+1))) (vK (bM 3) (i:=k) (by omega) hD) (xZ (bM 3) (i:=k) (by omega) hD) ?_
 refine Mi ?_ (pc (fG 27 (k:Int) k S1.length i3) (lg 31 k 3 1 i3))
 refine Mp ?_ call138 (fun bs w hS=>u6 (L.getD k dd).line (L.getD k dd).line.n who w (And.right ⟨hI.names _ (aB B0),Rr (B:=bH) (hS.res _ i0) (fun _ _=>trivial) (fun _ _=>trivial)⟩) (by omega))
 have nA:aQ (fun z=>decide (z=who)) ((L.getD k dd).line.xs.take (L.getD k dd).line.n)=aQ (fun z=>decide (z=who)) (L.getD k dd).line.xs:=by rw[dE (Nat.le_refl _)]
 rw[nA]
 have JT:=du (fun z=>decide (z=who)) (L.getD k dd).line.xs
 generalize Cv:aQ (fun z=>decide (z=who)) (L.getD k dd).line.xs=I at JT⊢
 refine Md ((0:Int)≤I) (fun h4=>?_) fun h4=>?_
 rotate_left
 ·refine Mi ?_ (lg 50 k 1 1 i3)
  refine Md ((L.getD k dd).ar=who) (fun h6=>?_) fun h6=>?_
  rotate_left
  ·refine Mi ?_ (pR ((k:Int)+1))
   have Ic:(L.getD k dd).line.xs=gi (L.getD k dd).line.xs who:=(wM (by rw[Cv];omega)).symm
   have Gu:((L.getD k dd)).abs=kC who (L.getD k dd).abs:=rV (D:=(L.getD k dd)) (x:=(L.getD k dd)) rfl rfl rfl Ic h6
   have Gv:((L.getD k dd)).name=(L.getD k dd).name:=rfl
   refine cL ?_
   refine cb ?_
   refine fc (mc (fp++(ay 3 (L.getD k dd).line.A (L.getD k dd).line.c ((L.getD k dd).line.xs:List Int)).fp) (List.take (k+1) L)) List.perm_append_comm (fun w h1 h2=>ke B0 (fW B0).symm (Rr (A:=(L.getD k dd).line.A) (c:=(L.getD k dd).line.c) (L:=(L.getD k dd).line.xs) h1 (fun b hb=>hb) (fun _ _=>trivial)) h2) ?_
   refine cL (cL (cL ?_))
   exact bu ⟨k+1,L,fp++(ay 3 (L.getD k dd).line.A (L.getD k dd).line.c ((L.getD k dd).line.xs:List Int)).fp⟩ (j5.step hI (by omega) (fW B0).symm Gu Gv) (by show S1.length - (k+1)<S1.length - k;omega)
  refine jZ ?_
  refine nF ?_ call140 (fun bs w hS=>sk (B:=(· ∈(ay 3 (L.getD k dd).line.A (L.getD k dd).line.c ((L.getD k dd).line.xs:List Int)).fp)) A1 c1 L k w (hS.res _ i0) hS.lH.2.2 (by omega) ⟨(show (L.getD k dd).name.size≤9223372036854775807 from hI.names _ (aB B0)),Rr (hS.res _ i1) (fun b hb=>hb) (fun _ _=>trivial)⟩ (fun b hb=>hS.Jd (r2:=ay 3 (L.getD k dd).line.A (L.getD k dd).line.c ((L.getD k dd).line.xs:List Int)) i0 b hb) ⟨Ar,As⟩)
  rintro _ _
  obtain⟨L8,He⟩: ∃M:List ae,M=L.set k (eJ (L.getD k dd)):=⟨_,rfl⟩
  rw[←He]
  have ME:L8.length=L.length:=by rw[He,List.length_set]
  have Ie:L8.getD k dd=eJ (L.getD k dd):=by rw[He];exact bQ (by omega)
  have nj:L8=List.set L k (eJ (L.getD k dd)):=by rw[He]
  refine Mi ?_ (pR ((k:Int)+1))
  have Ic:(L.getD k dd).line.xs=gi (L.getD k dd).line.xs who:=(wM (by rw[Cv];omega)).symm
  have Gu:((eJ (L.getD k dd))).abs=kC who (L.getD k dd).abs:=rW (D:=(L.getD k dd)) (x:=(L.getD k dd)) (rN _) rfl rfl rfl Ic h6
  have Gv:((eJ (L.getD k dd))).name=(L.getD k dd).name:=uD _
  refine jZ ?_
  refine cL ?_
  refine fc (mc (fp++(ay 3 (L.getD k dd).line.A (L.getD k dd).line.c ((L.getD k dd).line.xs:List Int)).fp) (List.take (k+1) L8)) List.perm_append_comm (fun w h1 h2=>ke B0 nj (zC (x:=(L.getD k dd)) (Rr (A:=(L.getD k dd).line.A) (c:=(L.getD k dd).line.c) (L:=(L.getD k dd).line.xs) h1 (fun b hb=>hb) (fun _ _=>trivial))) h2) ?_
  refine cb (cL (cL ?_))
  exact bu ⟨k+1,L8,fp++(ay 3 (L.getD k dd).line.A (L.getD k dd).line.c ((L.getD k dd).line.xs:List Int)).fp⟩ (j5.step hI (by omega) nj Gu Gv) (by show S1.length - (k+1)<S1.length - k;omega)
 refine Mi ?_ (pc (lg 40 k 3 1 i3) (pR (I+1)))
 refine nF ?_ (σ:=Unit) (v:=fun _=>.slice (L.getD k dd).line.A ((L.getD k dd).line.xs.take I.toNat++(L.getD k dd).line.xs.drop (I.toNat+1)).length (L.getD k dd).line.c) (F:=fun _=>True) (r:=fun _=>ay 3 (L.getD k dd).line.A (L.getD k dd).line.c ((L.getD k dd).line.xs.take I.toNat++(L.getD k dd).line.xs.drop (I.toNat+1):List Int)) (vs:=fun bs=>[.slice (L.getD k dd).line.A (L.getD k dd).line.n (L.getD k dd).line.c,vi I,vi (I+1)]) call139 (fun bs w hS=>(Ap (L.getD k dd).line.A (L.getD k dd).line.c (L.getD k dd).line.xs I.toNat (I.toNat+1) _ _ w (hS.res _ i0) hS.lH.2.2 (by omega) (by omega) (by first|omega|(simp only[Sl.n] at*;omega)) (by first|omega|(simp only[Sl.n] at*;omega))).mono (fun e w' ⟨h1,h2⟩=>⟨(),h1,trivial,h2⟩))
 rintro _ _
 refine jZ ?_
 refine Ms k 3 (⟨(L.getD k dd).name,(L.getD k dd).ar,(L.getD k dd).aA,⟨(L.getD k dd).line.A,(L.getD k dd).line.c,(L.getD k dd).line.xs.take I.toNat++(L.getD k dd).line.xs.drop (I.toNat+1)⟩⟩:ae) ?_ (by omega)
 intro L4 qb An
 have j2:L4.getD k dd=(⟨(L.getD k dd).name,(L.getD k dd).ar,(L.getD k dd).aA,⟨(L.getD k dd).line.A,(L.getD k dd).line.c,(L.getD k dd).line.xs.take I.toNat++(L.getD k dd).line.xs.drop (I.toNat+1)⟩⟩:ae):=by rw[qb];exact bQ (by omega)
 have lV:L4=List.set L k (⟨(L.getD k dd).name,(L.getD k dd).ar,(L.getD k dd).aA,⟨(L.getD k dd).line.A,(L.getD k dd).line.c,(L.getD k dd).line.xs.take I.toNat++(L.getD k dd).line.xs.drop (I.toNat+1)⟩⟩:ae):=by rw[qb]
 refine Mi ?_ (l5 50 k 1 1 j2 i0)
 refine Md ((L.getD k dd).ar=who) (fun h5=>?_) fun h5=>?_
 rotate_left
 ·refine Mi ?_ (pR ((k:Int)+1))
  have Ic:(L.getD k dd).line.xs.take I.toNat++(L.getD k dd).line.xs.drop (I.toNat+1)=gi (L.getD k dd).line.xs who:=rU (d:=(L.getD k dd).abs) Aq (i:=I.toNat) (by show aQ _ (L.getD k dd).line.xs=_;rw[Cv];omega) rfl
  have Gu:((⟨(L.getD k dd).name,(L.getD k dd).ar,(L.getD k dd).aA,⟨(L.getD k dd).line.A,(L.getD k dd).line.c,(L.getD k dd).line.xs.take I.toNat++(L.getD k dd).line.xs.drop (I.toNat+1)⟩⟩:ae)).abs=kC who (L.getD k dd).abs:=rV (D:=(L.getD k dd)) (x:=(⟨(L.getD k dd).name,(L.getD k dd).ar,(L.getD k dd).aA,⟨(L.getD k dd).line.A,(L.getD k dd).line.c,(L.getD k dd).line.xs.take I.toNat++(L.getD k dd).line.xs.drop (I.toNat+1)⟩⟩:ae)) rfl rfl rfl Ic h5
  have Gv:((⟨(L.getD k dd).name,(L.getD k dd).ar,(L.getD k dd).aA,⟨(L.getD k dd).line.A,(L.getD k dd).line.c,(L.getD k dd).line.xs.take I.toNat++(L.getD k dd).line.xs.drop (I.toNat+1)⟩⟩:ae)).name=(L.getD k dd).name:=rfl
  refine jZ ?_
  refine cL ?_
  refine fc (mc (fp++(ay 3 (L.getD k dd).line.A (L.getD k dd).line.c ((L.getD k dd).line.xs.take I.toNat++(L.getD k dd).line.xs.drop (I.toNat+1):List Int)).fp) (List.take (k+1) L4)) List.perm_append_comm (fun w h1 h2=>ke B0 lV (Rr (A:=(L.getD k dd).line.A) (c:=(L.getD k dd).line.c) (L:=(L.getD k dd).line.xs.take I.toNat++(L.getD k dd).line.xs.drop (I.toNat+1)) h1 (fun b hb=>hb) (fun _ _=>trivial)) h2) ?_
  refine cb (cL (cL ?_))
  exact bu ⟨k+1,L4,fp++(ay 3 (L.getD k dd).line.A (L.getD k dd).line.c ((L.getD k dd).line.xs.take I.toNat++(L.getD k dd).line.xs.drop (I.toNat+1):List Int)).fp⟩ (j5.step hI (by omega) lV Gu Gv) (by show S1.length - (k+1)<S1.length - k;omega)
 refine nF ?_ call140 (fun bs w hS=>sk (B:=(· ∈(ay 3 (L.getD k dd).line.A (L.getD k dd).line.c ((L.getD k dd).line.xs.take I.toNat++(L.getD k dd).line.xs.drop (I.toNat+1):List Int)).fp)) A1 c1 L4 k w (hS.res _ i0) hS.lH.2.2 (by omega) (by rw[j2];exact⟨(show (L.getD k dd).name.size≤9223372036854775807 from hI.names _ (aB B0)),Rr (hS.res _ i1) (fun b hb=>hb) (fun _ _=>trivial)⟩) (fun b hb=>hS.Jd (r2:=ay 3 (L.getD k dd).line.A (L.getD k dd).line.c ((L.getD k dd).line.xs.take I.toNat++(L.getD k dd).line.xs.drop (I.toNat+1):List Int)) i0 b hb) (by rw[j2];exact⟨Ar,As⟩))
 rintro _ _
 obtain⟨L6,rB⟩: ∃M:List ae,M=L4.set k (eJ (L4.getD k dd)):=⟨_,rfl⟩
 rw[←rB]
 have Am:L6.length=L4.length:=by rw[rB,List.length_set]
 have ni:L6.getD k dd=eJ (⟨(L.getD k dd).name,(L.getD k dd).ar,(L.getD k dd).aA,⟨(L.getD k dd).line.A,(L.getD k dd).line.c,(L.getD k dd).line.xs.take I.toNat++(L.getD k dd).line.xs.drop (I.toNat+1)⟩⟩:ae):=by rw[rB,j2];exact bQ (by omega)
 have fM:L6=List.set L k (eJ (⟨(L.getD k dd).name,(L.getD k dd).ar,(L.getD k dd).aA,⟨(L.getD k dd).line.A,(L.getD k dd).line.c,(L.getD k dd).line.xs.take I.toNat++(L.getD k dd).line.xs.drop (I.toNat+1)⟩⟩:ae)):=by rw[rB,j2,lV,List.set_set]
 refine Mi ?_ (pR ((k:Int)+1))
 have Ic:(L.getD k dd).line.xs.take I.toNat++(L.getD k dd).line.xs.drop (I.toNat+1)=gi (L.getD k dd).line.xs who:=rU (d:=(L.getD k dd).abs) Aq (i:=I.toNat) (by show aQ _ (L.getD k dd).line.xs=_;rw[Cv];omega) rfl
 have Gu:((eJ (⟨(L.getD k dd).name,(L.getD k dd).ar,(L.getD k dd).aA,⟨(L.getD k dd).line.A,(L.getD k dd).line.c,(L.getD k dd).line.xs.take I.toNat++(L.getD k dd).line.xs.drop (I.toNat+1)⟩⟩:ae))).abs=kC who (L.getD k dd).abs:=rW (D:=(L.getD k dd)) (x:=(⟨(L.getD k dd).name,(L.getD k dd).ar,(L.getD k dd).aA,⟨(L.getD k dd).line.A,(L.getD k dd).line.c,(L.getD k dd).line.xs.take I.toNat++(L.getD k dd).line.xs.drop (I.toNat+1)⟩⟩:ae)) (rN _) rfl rfl rfl Ic h5
 have Gv:((eJ (⟨(L.getD k dd).name,(L.getD k dd).ar,(L.getD k dd).aA,⟨(L.getD k dd).line.A,(L.getD k dd).line.c,(L.getD k dd).line.xs.take I.toNat++(L.getD k dd).line.xs.drop (I.toNat+1)⟩⟩:ae))).name=(L.getD k dd).name:=uD _
 refine jZ ?_
 refine cL ?_
 refine fc (mc (fp++(ay 3 (L.getD k dd).line.A (L.getD k dd).line.c ((L.getD k dd).line.xs.take I.toNat++(L.getD k dd).line.xs.drop (I.toNat+1):List Int)).fp) (List.take (k+1) L6)) List.perm_append_comm (fun w h1 h2=>ke B0 fM (zC (x:=(⟨(L.getD k dd).name,(L.getD k dd).ar,(L.getD k dd).aA,⟨(L.getD k dd).line.A,(L.getD k dd).line.c,(L.getD k dd).line.xs.take I.toNat++(L.getD k dd).line.xs.drop (I.toNat+1)⟩⟩:ae)) (Rr (A:=(L.getD k dd).line.A) (c:=(L.getD k dd).line.c) (L:=(L.getD k dd).line.xs.take I.toNat++(L.getD k dd).line.xs.drop (I.toNat+1)) h1 (fun b hb=>hb) (fun _ _=>trivial))) h2) ?_
 refine cb (cL (cL ?_))
 exact bu ⟨k+1,L6,fp++(ay 3 (L.getD k dd).line.A (L.getD k dd).line.c ((L.getD k dd).line.xs.take I.toNat++(L.getD k dd).line.xs.drop (I.toNat+1):List Int)).fp⟩ (j5.step hI (by omega) fM Gu Gv) (by show S1.length - (k+1)<S1.length - k;omega)
theorem B4 (s:Sl ae)(who:Int)(w:World)(hs:s.rd B w):Calls prog 99 #[s.val,vi who] w fun e w'=> ∃y:Sl ae,e=.returned (.tuple #[y.val,vi (j3 (s.xs.map ae.abs) who).2])∧y.xs.map ae.abs=(j3 (s.xs.map ae.abs) who).1∧bJ w w' y:=by
 have cV:=Sl.rd.ok hs
 have iV:=Sl.ok.nc cV
 have iW:s.n=s.xs.length:=rfl
 refine M0 ?_ func99
 refine Mp ?_ call93 (fun bs w hS=>jQ s w (Sl.rd.kp hs hS.kp))
 refine Md (bB (s.xs.map ae.abs)=0) (fun h1=>?_) fun h1=>?_
 rotate_left
 ·refine My false true ?_ (df h1)
  exact eE (zE (who:=who) h1) Sl.nil rfl fun bs w hS=>hS.aO (Sl.ao _ _)
 refine Mp ?_ call51 (fun bs w hS=>b6 who 1 9 w)
 refine fL (gk who 1 9) (fun h2=>?_) fun h2=>?_
 rotate_left
 ·simp only[iT,iF]at h2
  refine Mq 19 true ?_ rfl
  exact eE (zF (who:=who) h1 (by simp only[iT,iF] at*;omega)) Sl.nil rfl fun bs w hS=>hS.aO (Sl.ao _ _)
 simp only[iT,iF]at h2
 refine My true true ?_ (dt h1)
 refine Mf ?_ call18 (fun bs w hS=>ku s w (Sl.rd.kp hs hS.kp) (js (by assumption)))
 rintro y1 a5
 refine dH ?_
 obtain⟨A1,c1,S1⟩:=y1
 have a5:S1.map ae.abs=s.xs.map ae.abs:=a5
 refine fO (R':=[bI (bM 3) S1,ay 115 A1 c1 (S1:List ae)]) (List.Perm.refl _) ?_
 have bn:=gF (y:=(⟨A1,c1,S1⟩:Sl ae)) (hs) a5
 have oA:S1.length=s.xs.length:=by simpa using congrArg List.length a5
 refine bk (F:= ∀i,i<S1.length→aJ.ok (S1.getD i dd)) (fun bs w hS i hi=>aJ.bL (B:=bH) (w:=w) (gx (hS.res _ i0) bn (aB hi))) fun gj=>?_
 refine bk (F:=dY A1 c1 (S1:List ae)) (fun bs w hS=>br (hS.res _ i1)) fun cI=>?_
 have cn:=cI.2
 have kj:bB (S1.map ae.abs)=0:=by rw[a5];assumption
 have Gq:S1.length≤5:=by have h9:=(fS kj).1;simpa using h9
 refine gK (mc [] (S1.take 0)) rfl (fun w x hx=>by cases hx) ?_
 refine Ml (σ:=Nat×List ae×List Nat) (fun⟨k,L,fp⟩=>j5 who S1 k L) (fun⟨k,L,fp⟩=>S1.length - k) (fun⟨k,L,fp⟩=>[mc fp (L.take k),bI (bM 3) S1,ay 115 A1 c1 (L:List ae)]) [8,7,1] (fun⟨k,L,fp⟩=>[(8,vI (k:Int))]) (fun _=>[]) ?_ (⟨0,S1,[]⟩) (j5.start bn)
 rintro⟨k,L,fp⟩ hI _ bu
 have MB:=hI.len
 have MC:=hI.le
 refine Md ((k:Int)<(S1.length:Int)) (fun h4=>?_) fun h4=>?_
 rotate_left
 ·refine Mt [.slice A1 S1.length c1,vi 0] fun bs w hS=>?_
  clear bu
  have hm:=CT (who:=who) h1 (by simp only[iT,iF] at*;omega)
  refine⟨⟨A1,c1,L⟩,?_,?_,hS.aO (y:=(⟨A1,c1,L⟩:Sl ae)) (zD hI (by omega) i2 i0 hS.res)⟩
  ·rw[hm];exact congrArg (fun q=>Ending.returned (.tuple #[.slice A1 q c1,vi 0])) hI.len.symm
  ·rw[hm, ←a5];exact hI.fin (by omega)
 have hD:(L.getD k dd)=S1.getD k dd:=hI.rest k (Nat.le_refl _)
 have B0:k<L.length:=by omega
 have nK:=mM kj (k:=k) (by omega)
 rw[←hD]at nK
 obtain⟨Gr,Gs,Aq,Ar,As,Gt⟩:=nK
 have Hd:(L.getD k dd).line.n=(L.getD k dd).line.xs.length:=rfl
 have MD:=gj k (by omega)
 rw[←hD]at MD
 have Sq:=Sl.ok.nc MD.2
 refine Mi ?_ (pc (fG 33 (k:Int) k S1.length i2) (lg 35 k 3 1 i2))
 refine Mu ?_ call105 (fun bs w hS=>sM (L.getD k dd).line who w (And.right (by rw[hD];exact gx (hS.res _ i1) bn (aB (i:=k) (by omega)))) (by omega))
 rintro sN y3 my sm
 refine Mi ?_ (fG 38 (k:Int) k S1.length i3)
 refine jZ ?_
 refine Ms k 3 (⟨(L.getD k dd).name,(L.getD k dd).ar,(L.getD k dd).aA,y3⟩:ae) ?_ (by omega)
 intro L4 qb An
 have j2:L4.getD k dd=(⟨(L.getD k dd).name,(L.getD k dd).ar,(L.getD k dd).aA,y3⟩:ae):=by rw[qb];exact bQ (by omega)
 have lV:L4=List.set L k (⟨(L.getD k dd).name,(L.getD k dd).ar,(L.getD k dd).aA,y3⟩:ae):=by rw[qb]
 refine Mi ?_ (pc (fG 42 (k:Int) k S1.length i0) (l5 44 k 1 1 j2 i0))
 refine Md ((L.getD k dd).ar=who) (fun h5=>?_) fun h5=>?_
 rotate_left
 ·refine Mi ?_ (pR ((k:Int)+1))
  have Gu:((⟨(L.getD k dd).name,(L.getD k dd).ar,(L.getD k dd).aA,y3⟩:ae)).abs=kC who (L.getD k dd).abs:=rV (D:=(L.getD k dd)) (x:=(⟨(L.getD k dd).name,(L.getD k dd).ar,(L.getD k dd).aA,y3⟩:ae)) rfl rfl rfl my h5
  have Gv:((⟨(L.getD k dd).name,(L.getD k dd).ar,(L.getD k dd).aA,y3⟩:ae)).name=(L.getD k dd).name:=rfl
  refine cL ?_
  refine cL ?_
  refine fc (mc (fp++sN) (List.take (k+1) L4)) List.perm_append_comm (fun w h1 h2=>ke B0 lV h1 h2) ?_
  refine cb (cL (cL ?_))
  exact bu ⟨k+1,L4,fp++sN⟩ (j5.step hI (by omega) lV Gu Gv) (by show S1.length - (k+1)<S1.length - k;omega)
 refine Mi ?_ (pc (fG 51 (k:Int) k S1.length i0) (NG 52 k j2 i0))
 have TJ:y3.xs.length≤3:=by rw[my];exact Nat.le_trans (List.length_filter_le _ _) (by omega)
 refine Mu ?_ call104 (fun bs w hS=>vk (⟨(L.getD k dd).name,(L.getD k dd).ar,(L.getD k dd).aA,y3⟩:ae) w ⟨(show (L.getD k dd).name.size≤9223372036854775807 from hI.names _ (aB B0)),(hS.res _ i1)⟩ ⟨Ar,As⟩ (by show y3.xs.length≤_;omega))
 rintro rh y5 tC pf
 refine Mi ?_ (fG 54 (k:Int) k S1.length i1)
 refine cb ?_
 refine Ms k 0 (⟨y5.name,y5.ar,y5.aA,y5.line⟩:ae) ?_ (by omega) (hg:=j2)
 intro L6 rB Am
 have ni:L6.getD k dd=(⟨y5.name,y5.ar,y5.aA,y5.line⟩:ae):=by rw[rB];exact bQ (by omega)
 have fM:L6=List.set L k (⟨y5.name,y5.ar,y5.aA,y5.line⟩:ae):=by rw[rB,lV,List.set_set]
 refine Mi ?_ (pR ((k:Int)+1))
 have Gu:((⟨y5.name,y5.ar,y5.aA,y5.line⟩:ae)).abs=kC who (L.getD k dd).abs:=rW (D:=(L.getD k dd)) (x:=(⟨(L.getD k dd).name,(L.getD k dd).ar,(L.getD k dd).aA,y3⟩:ae)) tC rfl rfl rfl my h5
 have Gv:((⟨y5.name,y5.ar,y5.aA,y5.line⟩:ae)).name=(L.getD k dd).name:=(congrArg aY.name tC).trans (Bo _)
 refine jZ ?_
 refine jZ ?_
 refine fc (mc (fp++sN) (L.take k)) List.perm_append_comm (fun w h1 h2 x hx=>Sl.rd.wide (h2 x hx) fun b hb=>List.mem_append_left _ hb) ?_
 refine cL ?_
 refine fc (mc ((fp++sN)++rh) (List.take (k+1) L6)) List.perm_append_comm (fun w h1 h2=>ke B0 fM h1.2 h2) ?_
 refine cb (cL (cL ?_))
 exact bu ⟨k+1,L6,(fp++sN)++rh⟩ (j5.step hI (by omega) fM Gu Gv) (by show S1.length - (k+1)<S1.length - k;omega)
theorem xA (s:Sl (Fl aK))(p:Fl aK→Bool)(kf:Nat)(dc:Array Value)(w:World)(hs:s.rd B w)(cH: ∀args w,(callFunc kf args).run prog w=.ok (.enter kf args) w)
    (hf: ∀(w':World) (x:(Fl aK)),x∈s.xs→Kp [] w w'→Calls prog kf (#[x.v.val]++dc) w' fun e sX=>e=.returned (vb (p x))∧Kp [] w' sX):Calls prog 81 #[.slice s.A s.n s.c,.func (.func kf) #[] dc] w fun e w'=>e=.returned (vi (aQ p s.xs))∧Kp [] w w':=by
 have cV:=Sl.rd.ok hs
 have iV:=Sl.ok.nc cV
 have iW:s.n=s.xs.length:=rfl
 refine M0 ?_ func81
 refine Ml (σ:=Nat) (fun i=>i≤s.n∧ ∀j,j<i→p (s.at j)=false) (fun i=>s.n - i) (fun _=>[]) [8,7,0,1] (fun i=>[(8,vI (i:Int))]) (fun _=>[]) ?_ 0 ⟨Nat.zero_le _,fun j hj=>absurd hj (Nat.not_lt_zero _)⟩
 rintro i ⟨hi,hI⟩ _ bu
 refine Md ((i:Int)<(s.n:Int)) (fun h1=>?_) (fun h1=>?_)
 rotate_left
 ·refine Mt [.int .i64 (-1)] fun bs w hS=>?_
  refine⟨?_,hS.kp⟩
  rw[gp fun j hj=>hI j (by omega)]
  rfl
 refine Mi ?_ (pA 14 15 (i:Int) i (db hs))
 refine Mv ?_ cH (fun bs w hS=>hf w (s.at i) (List.mem_of_getElem? (Sl.eA (show i<s.n by omega))) hS.kp)
 refine Mb (p (s.at i)) (fun h2=>?_) (fun h2=>?_)
 ·refine Mt [.int .i64 (i:Int)] fun bs w hS=>?_
  refine⟨?_,hS.kp⟩
  rw[fR (i:=i) (by omega) (by assumption) hI]
  rfl
 refine Mi ?_ (pR ((i:Int)+1))
 exact bu (i+1) ⟨by omega,fun j hj=>by rcases Nat.lt_succ_iff_lt_or_eq.1 hj with h|h;exact hI j h;subst h;assumption⟩ (by omega)
theorem At (s:Sl aK)(p:aK→Bool)(kf:Nat)(dc:Array Value)(w:World)(hs:s.rd B w)(cH: ∀args w,(callFunc kf args).run prog w=.ok (.enter kf args) w)
    (hf: ∀(w':World) (x:aK),x∈s.xs→Kp [] w w'→Calls prog kf (#[x.val]++dc) w' fun e sX=>e=.returned (vb (p x))∧Kp [] w' sX):Calls prog 81 #[s.val,.func (.func kf) #[] dc] w fun e w'=>e=.returned (vi (aQ p s.xs))∧Kp [] w w':=by
  have h:=xA (⟨s.A,s.c,vH s.xs⟩:Sl (Fl aK)) (fun x=>p x.v) kf dc w hs.fl cH (fun w' x hx hk=>hf w' x.v (by obtain⟨y,hy,rfl⟩:=List.mem_map.1 hx;exact hy) hk)
  simp only[tm,Sl.n,List.length_map]at h
  exact h
theorem Ep (A:Option Addr)(c:Nat)(L:List (Fl aK))(p:Fl aK→Bool)(kf:Nat)(dc:Array Value)(w:World)(gb:(ay 141 A c L).p w)(dX: ∀b,b∈(ay 141 A c L).fp→b<w.heap.size)(hn:L.length≤1048576)(cH: ∀args w,(callFunc kf args).run prog w=.ok (.enter kf args) w)
    (hf: ∀(w':World) (x:(Fl aK)),x∈L→Kp (ay 141 A c L).fp w w'→Calls prog kf (#[x.v.val]++dc) w' fun e sX=>e=.returned (vb (p x))∧Kp [] w' sX):
    Calls prog 79 #[.slice A L.length c,.func (.func kf) #[] dc] w fun e w'=>e=.returned (.slice A (L.filter fun x=>!p x).length c)∧dh (ay 141 A c L) w w' (ay 141 A c (L.filter fun x=>!p x)):=by
 have mv:=br gb
 have nc:=mv.2
 refine Mj ?_ func79 (WS.eG w _ gb (by cases A<;>simp [ay,fI]) dX)
 refine Mp ?_ call81 (fun bs w hS=>xA (⟨A,c,L⟩:Sl (Fl aK)) p kf dc w (Rr (B:=bH) (hS.res _ i0) (fun _ _=>trivial) (fun _ _=>trivial)) cH (fun w' x hx hk=>hf w' x hx (hS.kp.step hk (fun i hi=>by cases hi))))
 refine Md (aQ p L=(-1)) (fun h1=>?_) fun h1=>?_
 ·refine Mt [.slice A L.length c] fun bs w hS=>?_
  have vV:L.filter (fun x=>!p x)=L:=rK (by assumption)
  rw[vV]
  exact⟨rfl,hS.aW⟩
 obtain⟨i0,wo,E2,yT,MF⟩:=wG (p:=p) h1
 refine Mi ?_ (pR ((aQ p L)+1))
 refine Mk 6 ?_ (show (vI ((aQ p L)+1))=vI (((i0:Int))+1) by rw[MF])
 refine Mk 5 ?_ (show (vI (aQ p L))=vI ((i0:Int)) by rw[MF])
 refine Ml (σ:=Nat×Nat×List (Fl aK)) (fun⟨i,j,M⟩=>i<j∧j≤L.length∧M.length=L.length∧M.take i=(L.take j).filter (fun x=>!p x)∧M.drop j=L.drop j) (fun⟨i,j,M⟩=>L.length - j) (fun⟨i,j,M⟩=>[ay 141 A c (M:List (Fl aK))]) [6,5,0,1] (fun⟨i,j,M⟩=>[(6,vI (j:Int)),(5,vI (i:Int))]) (fun _=>[]) ?_ (⟨i0,i0+1,L⟩) ⟨by omega,by omega,rfl,ug wo E2 yT,rfl⟩
 rintro⟨i,j,M⟩ ⟨h1,h2,hM,hT,hD⟩ _ bu
 refine Md ((j:Int)<(L.length:Int)) (fun h2=>?_) fun h2=>?_
 rotate_left
 ·refine Mi ?_ (pG [(38,.sl i L.length)] (oc (rfl:(i:Int)=(i:Int)) (oc (rfl:L.length=L.length) (oc ((by omega):i≤L.length) on))))
  refine KA i (L.length - i) ?_ (by omega) (by omega)
  refine Mi ?_ (pG [(41,.sl 0 i)] (oc (rfl:0=0) (oc (rfl:(i:Int)=(i:Int)) (oc ((by omega):i≤c) on))))
  refine Mt [.slice A i c] fun bs w hS=>?_
  have vV:M.take i=L.filter (fun x=>!p x):=by rw[hT,show j=L.length by omega,List.take_length]
  have IN:(L.filter (fun x=>!p x)).length=i:=by rw[←vV,List.length_take];omega
  have j1:=hS
  rw[vV]at j1
  refine⟨?_,j1.aW⟩
  rw[IN]
  rfl
 refine Mi ?_ (pc (fG 24 (j:Int) j L.length (.head _)) (C1 25 j (.head _)))
 refine Mv ?_ cH (fun bs w hS=>hf w (M.getD j dd) (by rw[ly hD (by omega)];exact aB (by omega)) hS.kp)
 refine fL (p (M.getD j dd)) (fun h3=>?_) fun h3=>?_
 ·refine Mi ?_ (pR ((j:Int)+1))
  have Fs:M.getD j dd=L.getD j dd:=ly hD (by omega)
  exact bu ⟨i,j+1,M⟩ ⟨by omega,by omega,hM,wH (by omega) hT (Fs▸by assumption),rJ hD⟩ (by show L.length - (j+1)<L.length - j;omega)
 refine Mi ?_ (fG 33 (i:Int) i L.length (.head _))
 refine LI i (M.getD j dd) ?_ (by omega)
 intro L2 r8 QU
 refine Mi ?_ (pc (pR ((i:Int)+1)) (pR ((j:Int)+1)))
 have Fs:M.getD j dd=L.getD j dd:=ly hD (by omega)
 exact bu ⟨i+1,j+1,L2⟩ ⟨by omega,by omega,by omega,by rw[r8];exact wI h1 (by omega) hM hT (Fs▸by assumption) Fs,by rw[r8];exact wJ h1 hD⟩ (by show L.length - (j+1)<L.length - j;omega)
theorem Gw (A:Option Addr)(c:Nat)(L:List aK)(p:aK→Bool)(kf:Nat)(dc:Array Value)(w:World)(gb:(ay 141 A c L).p w)(dX: ∀b,b∈(ay 141 A c L).fp→b<w.heap.size)(hn:L.length≤1048576)(cH: ∀args w,(callFunc kf args).run prog w=.ok (.enter kf args) w)
    (hf: ∀(w':World) (x:aK),x∈L→Kp (ay 141 A c L).fp w w'→Calls prog kf (#[x.val]++dc) w' fun e sX=>e=.returned (vb (p x))∧Kp [] w' sX):
    Calls prog 79 #[.slice A L.length c,.func (.func kf) #[] dc] w fun e w'=>e=.returned (.slice A (L.filter fun x=>!p x).length c)∧dh (ay 141 A c L) w w' (ay 141 A c (L.filter fun x=>!p x)):=by
  have h:=Ep A c (vH L) (fun x=>p x.v) kf dc w (by rw[l8];exact gb) (by rw[l8];exact dX) (by simpa using hn) cH (fun w' x hx hk=>hf w' x.v (by obtain⟨y,hy,rfl⟩:=List.mem_map.1 hx;exact hy) (by rwa [l8]at hk))
  have e1:(vH L).filter (fun x=>!(p x.v))=vH (L.filter fun x=>!p x):=tX (fun x=>!p x) L
  simp only[e1,l8,List.length_map]at h
  exact h
theorem k8 (x:aK)(c:aF)(b:Nat)(w:World)(hb:(bh b 63 [vi c.kind,vi c.ag,vi c.aD,vi c.seq,vi c.aC,vi c.op.kind,vs c.op.a,vs c.op.b,vi c.op.n]).p w):Calls prog 82 #[x.val,.pointer (some (⟨b,0,none⟩:Addr))] w fun e w'=>e=.returned (vb (decide (x.seq=c.seq)))∧Kp [] w w':=by
 refine M0 ?_ func82
 refine Mi ?_ (pX 7 [vi c.seq] (fun w hk hr=>(qp (oJ hb hk) 3 1 rfl)))
 exact Mt [vb (decide (x.seq=c.seq))] fun bs w hS=>⟨rfl,hS.kp⟩
theorem pg (x:aK)(a:Addr)(q:Int)(b:Nat)(w:World)(hb:(bh b 138 [.pointer (some a)]).p w)(ha:bq w (a.add 2) [vi q]):Calls prog 80 #[x.val,.pointer (some (⟨b,0,none⟩:Addr))] w fun e w'=>e=.returned (vb (decide (x.seq≤q)))∧Kp [] w w':=by
 refine M0 ?_ func80
 refine cZ 8 [] [] [] ai ?_
 refine bY ?_ (pc (pX 6 [.pointer (some a)] (fun w hk hr=>(yZ (oJ hb hk) 1 rfl))) (pX 9 [vi q] (fun w hk hr=>(bq.kp ha hk))))
 exact Mt [vb (decide (x.seq≤q))] fun bs w hS=>⟨rfl,hS.kp⟩
theorem v5 (s:Sl aa)(n:Int)(c:aF)(w:World)(hs:s.rd B w)(ht:ln c.ag)(hc:aJ.sub B w c):Calls prog 27 #[s.val,vi n,c.val] w fun e w'=> ∃y:Sl aa,e=.returned (.tuple #[y.val,((dn (s.xs.map aa.abs) n c).2.1).val,vb (dn (s.xs.map aa.abs) n c).2.2.1,vi (dn (s.xs.map aa.abs) n c).2.2.2])∧y.xs.map aa.abs=(dn (s.xs.map aa.abs) n c).1∧bJ w w' y:=by
 have cV:=Sl.rd.ok hs
 have iV:=Sl.ok.nc cV
 have iW:s.n=s.xs.length:=rfl
 have tB:(s.xs.map aa.abs).length=s.n:=by simp
 refine M0 ?_ func27
 refine Mp ?_ call63 (fun bs w hS=>gV s n w (Sl.rd.kp hs hS.kp))
 refine cr (bC (s.xs.map aa.abs) n=0) (fun h1=>?_) fun h1=>?_
 rotate_left
 ·refine Mt [vn,vz 0,vb false,vi (bC (s.xs.map aa.abs) n)] fun bs w hS=>?_
  have hm:=w3 (c:=c) h1
  refine⟨Sl.nil,?_,?_,hS.aO (Sl.ao _ _)⟩
  ·rw[hm]<;>rfl
  ·rw[hm]<;>rfl
 obtain⟨EW,wo,mh,gI⟩:=dm h1
 have Er:s.xs.length≤4:=by simpa using mh
 refine Md (n=1073741824) (fun h2=>?_) fun h2=>?_
 ·refine Mt [vn,vz 0,vb false,vi 2] fun bs w hS=>?_
  have hm:=ju (c:=c) h1 (by unfold eC;omega)
  refine⟨Sl.nil,?_,?_,hS.aO (Sl.ao _ _)⟩
  ·rw[hm]<;>rfl
  ·rw[hm]<;>rfl
 refine Md (c.seq<1) (fun h3=>?_) fun h3=>?_
 ·refine Mt [vn,vz 0,vb false,vi 2] fun bs w hS=>?_
  have hm:=ju (c:=c) h1 (by unfold eC;omega)
  refine⟨Sl.nil,?_,?_,hS.aO (Sl.ao _ _)⟩
  ·rw[hm]<;>rfl
  ·rw[hm]<;>rfl
 refine Md ((1048576:Int)<c.seq) (fun h4=>?_) fun h4=>?_
 ·refine Mt [vn,vz 0,vb false,vi 2] fun bs w hS=>?_
  have hm:=ju (c:=c) h1 (by unfold eC;omega)
  refine⟨Sl.nil,?_,?_,hS.aO (Sl.ao _ _)⟩
  ·rw[hm]<;>rfl
  ·rw[hm]<;>rfl
 refine Md (c.aC<0) (fun h5=>?_) fun h5=>?_
 ·refine Mt [vn,vz 0,vb false,vi 2] fun bs w hS=>?_
  have hm:=ju (c:=c) h1 (by unfold eC;omega)
  refine⟨Sl.nil,?_,?_,hS.aO (Sl.ao _ _)⟩
  ·rw[hm]<;>rfl
  ·rw[hm]<;>rfl
 refine Md (c.seq≤c.aC) (fun h6=>?_) fun h6=>?_
 ·refine Mt [vn,vz 0,vb false,vi 2] fun bs w hS=>?_
  have hm:=ju (c:=c) h1 (by unfold eC;omega)
  refine⟨Sl.nil,?_,?_,hS.aO (Sl.ao _ _)⟩
  ·rw[hm]<;>rfl
  ·rw[hm]<;>rfl
 refine Mf ?_ call70 (fun bs w hS=>iC s w (Sl.rd.kp hs hS.kp) (fC (by assumption)))
 rintro y1 a5
 refine dH ?_
 obtain⟨A1,c1,S1⟩:=y1
 have a5:S1.map aa.abs=s.xs.map aa.abs:=a5
 refine fO (R':=[bI (cj 141) S1,ay 118 A1 c1 (S1:List aa)]) (List.Perm.refl _) ?_
 have bn:=eW (y:=(⟨A1,c1,S1⟩:Sl aa)) (hs) a5
 have oA:S1.length=s.xs.length:=by simpa using congrArg List.length a5
 refine bk (F:= ∀i,i<S1.length→aJ.ok (S1.getD i dd)) (fun bs w hS i hi=>aJ.bL (B:=bH) (w:=w) (fY (hS.res _ i0) bn (aB hi))) fun gj=>?_
 refine bk (F:=dY A1 c1 (S1:List aa)) (fun bs w hS=>br (hS.res _ i1)) fun cI=>?_
 have cn:=cI.2
 have Gx:(S1.map aa.abs).length=S1.length:=by simp
 have kj:bC (S1.map aa.abs) n=0:=by rw[a5];assumption
 refine Mp ?_ call76 (fun bs w hS=>ll (⟨A1,c1,S1⟩:Sl aa) c.ag w (gu (hS.res _ i0) (hS.res _ i1) bn) (show S1.length≤1048576 by omega))
 have oB:=n8 (L:=S1) (index:=n) (t:=c.ag) (by rw[a5];assumption) ht
 have qc:=du (fun x:az=>decide (x.ag=c.ag)) (S1.map aa.abs)
 generalize hJ:aQ (fun x:az=>decide (x.ag=c.ag)) (S1.map aa.abs)=J at oB qc
 have wZ:=n5 (fun x:aa=>IntKind.i64.wrap (x.ag - c.ag)) S1
 generalize hk:eQ (fun x:aa=>IntKind.i64.wrap (x.ag - c.ag)) S1=k at oB wZ⊢
 generalize hf:dk (fun x:aa=>IntKind.i64.wrap (x.ag - c.ag)) S1=fb at oB⊢
 refine fP 12 ?_ ai
 refine fL fb (fun h7=>?_) fun h7=>?_
 rotate_left
 ·have Au:=of_decide_eq_false (oB.1.symm.trans h7)
  refine Mz ?_
  refine Mt [.slice A1 S1.length c1,vz 11,vb false,vi 0] fun bs w hS=>?_
  have hv: ¬eC n c:=by unfold eC;omega
  rw[←a5]
  have hm:=uE (l:=S1.map aa.abs) (c:=c) kj hv (by show aQ _ _<0;rw[hJ];omega)
  refine⟨⟨A1,c1,S1⟩,?_,?_,hS.aO (y:=(⟨A1,c1,S1⟩:Sl aa)) (bV i1 hS.res (fun x hx=>?_))⟩
  ·rw[hm]<;>rfl
  ·exact (congrArg Prod.fst hm).symm
  ·exact cY i0 hS.res bn hx
 have Gy:=oB.2 h7
 subst Gy
 have nK:=ob kj (k:=k) (by omega)
 have KG:(S1.getD k dd).ab.xs.length≤4:=jF nK.2.2.2.2
 have Hd:(S1.getD k dd).ab.n=(S1.getD k dd).ab.xs.length:=rfl
 refine bY ?_ (pc (fG 61 (k:Int) k S1.length i1) (lg 63 k 1 1 i1))
 refine Mz ?_
 refine cr ((S1.getD k dd).id=c.aD) (fun h8=>?_) fun h8=>?_
 rotate_left
 ·refine Mt [.slice A1 S1.length c1,vz 11,vb false,vi 0] fun bs w hS=>?_
  have hv: ¬eC n c:=by unfold eC;omega
  rw[←a5]
  have hm:=sG (c:=c) kj hv (K:=k) (by show (aQ _ _).toNat=_;rw[hJ];rfl) h8
  refine⟨⟨A1,c1,S1⟩,?_,?_,hS.aO (y:=(⟨A1,c1,S1⟩:Sl aa)) (bV i1 hS.res (fun x hx=>?_))⟩
  ·rw[hm]<;>rfl
  ·exact (congrArg Prod.fst hm).symm
  ·exact cY i0 hS.res bn hx
 refine Mi ?_ (pc (fG 72 (k:Int) k S1.length i1) (pR (n+1)))
 refine cb ?_
 refine Ms k 3 (⟨(S1.getD k dd).ag,(S1.getD k dd).id,(S1.getD k dd).aC,n+1,(S1.getD k dd).ab⟩:aa) ?_ (by omega)
 intro L3 sY BZ
 have ki:L3.getD k dd=(⟨(S1.getD k dd).ag,(S1.getD k dd).id,(S1.getD k dd).aC,n+1,(S1.getD k dd).ab⟩:aa):=by rw[sY];exact bQ (by omega)
 have iX:L3=List.set S1 k (⟨(S1.getD k dd).ag,(S1.getD k dd).id,(S1.getD k dd).aC,n+1,(S1.getD k dd).ab⟩:aa):=by rw[sY]
 refine fP 7 ?_ ai
 refine bY ?_ (l5 83 k 2 1 ki i0)
 refine Mz ?_
 refine Md ((S1.getD k dd).aC<c.aC) (fun h9=>?_) fun h9=>?_
 rotate_left
 ·have kO:pK (S1.getD k dd).abs c=(S1.getD k dd).aC:=zG (d:=(S1.getD k dd).abs) h9
  have gB:kZ (S1.getD k dd).abs c=(S1.getD k dd).ab.xs:=DJ (d:=(S1.getD k dd).abs) kO nK.2.2.2.2
  refine fP 7 ?_ ai
  refine bY ?_ (l5 104 k 2 1 ki i0)
  refine Mz ?_
  refine Md (c.seq≤(S1.getD k dd).aC) (fun k7=>?_) fun k7=>?_
  ·refine Mt [.slice A1 S1.length c1,vz 12,vb false,vi 0] fun bs w hS=>?_
   have hv: ¬eC n c:=by unfold eC;omega
   rw[←a5]
   have ha:=x1 kO k7
   have hm:=et (c:=c) kj hv (K:=k) (by show ¬aQ _ _<0;rw[hJ];omega) (by show (aQ _ _).toNat=_;rw[hJ];rfl) h8 (fD kO gB) ha
   have gf:=dG iX
   refine⟨⟨A1,c1,L3⟩,?_,?_,hS.aO (y:=(⟨A1,c1,L3⟩:Sl aa)) (bV i0 hS.res (fun x hx=>?_))⟩
   ·have jU:S1.length=L3.length:=by rw[iX,List.length_set]
    rw[hm]
    exact congrArg (fun q=>Ending.returned (.tuple #[.slice A1 q c1,vz 12,vb false,vi 0])) jU
   ·exact Eq.trans gf (congrArg Prod.fst hm).symm
   ·rw[iX]at hx
    rcases mem_set hx with hx|hx
    ·subst hx;exact cY (x:=(S1.getD k dd)) i1 hS.res bn (aB (L:=S1) (i:=k) (by omega))
    ·exact cY i1 hS.res bn hx
  refine Mi ?_ (l5 111 k 4 1 ki i0)
  refine Mp ?_ call81 (fun bs w hS=>At (S1.getD k dd).ab (fun z:aK=>decide (z.seq=c.seq)) 82 #[.pointer (some (kv bs 0 0))] w (fY (hS.res _ i1) bn (aB (i:=k) (by omega))) call82 (fun w' z hz hk=>k8 z c (bs.getD 0 0) w' (show (bh _ _ _).p w' from (hS.pure hk).loc 0 ⟨63,c.cs⟩ (by kernel_rfl) (by simp))))
  have JT:=du (fun z:aK=>decide (z.seq=c.seq)) (S1.getD k dd).ab.xs
  generalize Cv:aQ (fun z:aK=>decide (z.seq=c.seq)) (S1.getD k dd).ab.xs=I at JT⊢
  refine Md ((0:Int)≤I) (fun mo=>?_) fun mo=>?_
  ·refine cZ 13 [] [1] [ay 118 A1 c1 (L3:List aa),bI (cj 141) S1] ai ?_
   refine bY ?_ (pc (l5 120 k 4 1 ki i0) (pc (pI 122 I I.toNat (s:=(S1.getD k dd).ab) (fun w hk hr=>(fY (hr _ i1) bn (aB (i:=k) (by omega))))) (pF 124 I.toNat 1 3 (s:=(S1.getD k dd).ab) (fun w hk hr=>(fY (hr _ i1) bn (aB (i:=k) (by omega)))))))
   refine Mz ?_
   refine Mt [.slice A1 S1.length c1,((S1.getD k dd).ab.at I.toNat).aE.val,vb false,vi 0] fun bs w hS=>?_
   have hv: ¬eC n c:=by unfold eC;omega
   rw[←a5]
   have ha:=qA kO gB (kR Cv) k7 mo
   have hm:=et (c:=c) kj hv (K:=k) (by show ¬aQ _ _<0;rw[hJ];omega) (by show (aQ _ _).toNat=_;rw[hJ];rfl) h8 (fD kO gB) ha
   have gf:=dG iX
   refine⟨⟨A1,c1,L3⟩,?_,?_,hS.aO (y:=(⟨A1,c1,L3⟩:Sl aa)) (bV i0 hS.res (fun x hx=>?_))⟩
   ·have jU:S1.length=L3.length:=by rw[iX,List.length_set]
    rw[hm]
    exact congrArg (fun q=>Ending.returned (.tuple #[.slice A1 q c1,((S1.getD k dd).ab.at I.toNat).aE.val,vb false,vi 0])) jU
   ·exact Eq.trans gf (congrArg Prod.fst hm).symm
   ·rw[iX]at hx
    rcases mem_set hx with hx|hx
    ·subst hx;exact cY (x:=(S1.getD k dd)) i1 hS.res bn (aB (L:=S1) (i:=k) (by omega))
    ·exact cY i1 hS.res bn hx
  refine fP 8 ?_ ai
  refine bY ?_ (pc (l5 130 k 2 1 ki i0) (pR ((S1.getD k dd).aC+4)))
  refine Mz ?_
  refine Md ((S1.getD k dd).aC+4<c.seq) (fun pr=>?_) fun pr=>?_
  rotate_left
  ·refine Mt [.slice A1 S1.length c1,vz 0,vb true,vi 0] fun bs w hS=>?_
   have hv: ¬eC n c:=by unfold eC;omega
   rw[←a5]
   have ha:=tu kO gB (kR Cv) k7 mo pr
   have hm:=et (c:=c) kj hv (K:=k) (by show ¬aQ _ _<0;rw[hJ];omega) (by show (aQ _ _).toNat=_;rw[hJ];rfl) h8 (fD kO gB) ha
   have gf:=dG iX
   refine⟨⟨A1,c1,L3⟩,?_,?_,hS.aO (y:=(⟨A1,c1,L3⟩:Sl aa)) (bV i0 hS.res (fun x hx=>?_))⟩
   ·have jU:S1.length=L3.length:=by rw[iX,List.length_set]
    rw[hm]
    exact congrArg (fun q=>Ending.returned (.tuple #[.slice A1 q c1,vz 0,vb true,vi 0])) jU
   ·exact Eq.trans gf (congrArg Prod.fst hm).symm
   ·rw[iX]at hx
    rcases mem_set hx with hx|hx
    ·subst hx;exact cY (x:=(S1.getD k dd)) i1 hS.res bn (aB (L:=S1) (i:=k) (by omega))
    ·exact cY i1 hS.res bn hx
  refine Mt [.slice A1 S1.length c1,vz 2,vb false,vi 0] fun bs w hS=>?_
  have hv: ¬eC n c:=by unfold eC;omega
  rw[←a5]
  have ha:=tt kO gB (kR Cv) k7 mo pr
  have hm:=et (c:=c) kj hv (K:=k) (by show ¬aQ _ _<0;rw[hJ];omega) (by show (aQ _ _).toNat=_;rw[hJ];rfl) h8 (fD kO gB) ha
  have gf:=dG iX
  refine⟨⟨A1,c1,L3⟩,?_,?_,hS.aO (y:=(⟨A1,c1,L3⟩:Sl aa)) (bV i0 hS.res (fun x hx=>?_))⟩
  ·have jU:S1.length=L3.length:=by rw[iX,List.length_set]
   rw[hm]
   exact congrArg (fun q=>Ending.returned (.tuple #[.slice A1 q c1,vz 2,vb false,vi 0])) jU
  ·exact Eq.trans gf (congrArg Prod.fst hm).symm
  ·rw[iX]at hx
   rcases mem_set hx with hx|hx
   ·subst hx;exact cY (x:=(S1.getD k dd)) i1 hS.res bn (aB (L:=S1) (i:=k) (by omega))
   ·exact cY i1 hS.res bn hx
 have kO:=FG (d:=(S1.getD k dd).abs) (c:=c) h9
 have gB:=oR kO
 have G6:=List.length_filter_le (fun z:aK=>!decide (z.seq≤c.aC)) (S1.getD k dd).ab.xs
 refine Ms k 2 (⟨(S1.getD k dd).ag,(S1.getD k dd).id,c.aC,n+1,(S1.getD k dd).ab⟩:aa) ?_ (by omega) (hg:=ki)
 intro L4 qb An
 have j2:L4.getD k dd=(⟨(S1.getD k dd).ag,(S1.getD k dd).id,c.aC,n+1,(S1.getD k dd).ab⟩:aa):=by rw[qb];exact bQ (by omega)
 have lV:L4=List.set S1 k (⟨(S1.getD k dd).ag,(S1.getD k dd).id,c.aC,n+1,(S1.getD k dd).ab⟩:aa):=by rw[qb,iX,List.set_set]
 refine cb ?_
 refine m5 (ay 141 (S1.getD k dd).ab.A (S1.getD k dd).ab.c ((S1.getD k dd).ab.xs:List aK)) (bI (cj 141) (List.eraseIdx S1 k)) (ky (cj 141) (i:=k) (by omega)) (fun w h=>lG (cj 141) (i:=k) (by omega) w h) ?_
 refine bk (F:=dY (S1.getD k dd).ab.A (S1.getD k dd).ab.c ((S1.getD k dd).ab.xs:List aK)) (fun bs w hS=>br (hS.res _ i0)) fun Av=>?_
 have Dd:=Av.2
 refine cZ 9 [] [] [bI (cj 141) (List.eraseIdx S1 k),ay 118 A1 c1 (L4:List aa)] ai ?_ (hR:=(.cons _ (List.Sublist.refl _)))
 refine bY ?_ (l5 94 k 4 1 j2 i1) (hR:=(.cons _ (List.Sublist.refl _)))
 refine LD ?_ call79 (fun bs w hS=>Gw (S1.getD k dd).ab.A (S1.getD k dd).ab.c (S1.getD k dd).ab.xs (fun z:aK=>decide (z.seq≤c.aC)) 80 #[.pointer (some (kv bs 2 0))] w (hS.res _ i0) hS.lH.2.2 (by omega) call80 (fun w' x hx hk=>pg x ((xN A1).add (k*5)) c.aC (bs.getD 2 0) w' (show (bh _ _ _).p w' from hS.Fj (i:=2) (b:=⟨138,[.v (.pointer (some ((xN A1).add (k*5))))]⟩) hk (by kernel_rfl) (by simp)) (Fh (i:=k) (hS.IF hk i1) (by omega) 2 1 (by rw[j2];rfl))))
 rintro _ _
 refine Mz ?_
 refine cL ?_
 refine Ms k 4 (⟨(S1.getD k dd).ag,(S1.getD k dd).id,c.aC,n+1,⟨(S1.getD k dd).ab.A,(S1.getD k dd).ab.c,(S1.getD k dd).ab.xs.filter fun z:aK=>!decide (z.seq≤c.aC)⟩⟩:aa) ?_ (by omega) (hg:=j2)
 intro L6 rB Am
 have ni:L6.getD k dd=(⟨(S1.getD k dd).ag,(S1.getD k dd).id,c.aC,n+1,⟨(S1.getD k dd).ab.A,(S1.getD k dd).ab.c,(S1.getD k dd).ab.xs.filter fun z:aK=>!decide (z.seq≤c.aC)⟩⟩:aa):=by rw[rB];exact bQ (by omega)
 have fM:L6=List.set S1 k (⟨(S1.getD k dd).ag,(S1.getD k dd).id,c.aC,n+1,⟨(S1.getD k dd).ab.A,(S1.getD k dd).ab.c,(S1.getD k dd).ab.xs.filter fun z:aK=>!decide (z.seq≤c.aC)⟩⟩:aa):=by rw[rB,lV,List.set_set]
 refine fP 7 ?_ ai
 refine bY ?_ (l5 104 k 2 1 ni i0)
 refine Mz ?_
 refine My false false ?_ (df h6)
 refine Mi ?_ (l5 111 k 4 1 ni i0)
 refine Mp ?_ call81 (fun bs w hS=>At (⟨(S1.getD k dd).ab.A,(S1.getD k dd).ab.c,(S1.getD k dd).ab.xs.filter fun z:aK=>!decide (z.seq≤c.aC)⟩:Sl aK) (fun z:aK=>decide (z.seq=c.seq)) 82 #[.pointer (some (kv bs 0 0))] w (Rr (B:=bH) (hS.res _ i1) (fun _ _=>trivial) (fun z hz=>bn _ (aB (L:=S1) (i:=k) (by omega)) z (List.mem_filter.1 hz).1)) call82 (fun w' z hz hk=>k8 z c (bs.getD 0 0) w' (show (bh _ _ _).p w' from (hS.pure hk).loc 0 ⟨63,c.cs⟩ (by kernel_rfl) (by simp))))
 have JT:=du (fun z:aK=>decide (z.seq=c.seq)) ((S1.getD k dd).ab.xs.filter fun z:aK=>!decide (z.seq≤c.aC))
 generalize Cv:aQ (fun z:aK=>decide (z.seq=c.seq)) ((S1.getD k dd).ab.xs.filter fun z:aK=>!decide (z.seq≤c.aC))=I at JT⊢
 refine Md ((0:Int)≤I) (fun g7=>?_) fun g7=>?_
 ·refine cZ 13 [] [1] [ay 118 A1 c1 (L6:List aa),ay 141 (S1.getD k dd).ab.A (S1.getD k dd).ab.c ((S1.getD k dd).ab.xs.filter fun z:aK=>!decide (z.seq≤c.aC):List aK),bI (cj 141) (List.eraseIdx S1 k)] ai ?_
  refine bY ?_ (pc (l5 120 k 4 1 ni i0) (pc (fG 122 I I.toNat ((S1.getD k dd).ab.xs.filter fun z:aK=>!decide (z.seq≤c.aC)).length i1) (lg 124 I.toNat 1 3 i1)))
  refine Mz ?_
  refine Mt [.slice A1 S1.length c1,(((S1.getD k dd).ab.xs.filter fun z:aK=>!decide (z.seq≤c.aC)).getD I.toNat dd).aE.val,vb false,vi 0] fun bs w hS=>?_
  have hv: ¬eC n c:=by unfold eC;omega
  rw[←a5]
  have ha:=qA kO gB (kR Cv) h6 g7
  have hm:=et (c:=c) kj hv (K:=k) (by show ¬aQ _ _<0;rw[hJ];omega) (by show (aQ _ _).toNat=_;rw[hJ];rfl) h8 (fD kO gB) ha
  have gf:=dG fM
  refine⟨⟨A1,c1,L6⟩,?_,?_,hS.aO (y:=(⟨A1,c1,L6⟩:Sl aa)) (bV i0 hS.res (fun x hx=>?_))⟩
  ·have jU:S1.length=L6.length:=by rw[fM,List.length_set]
   rw[hm]
   exact congrArg (fun q=>Ending.returned (.tuple #[.slice A1 q c1,(((S1.getD k dd).ab.xs.filter fun z:aK=>!decide (z.seq≤c.aC)).getD I.toNat dd).aE.val,vb false,vi 0])) jU
  ·exact Eq.trans gf (congrArg Prod.fst hm).symm
  ·rw[fM]at hx
   rcases ia hx with hx|hx
   ·subst hx;exact a4 i1 (hS.res _ i1) (fun z hz=>bn _ (aB (L:=S1) (i:=k) (by omega)) z (List.mem_filter.1 hz).1)
   ·exact cY i2 hS.res (fun z hz=>bn z (List.mem_of_mem_eraseIdx hz)) hx
 refine fP 8 ?_ ai
 refine bY ?_ (pc (l5 130 k 2 1 ni i0) (pR (c.aC+4)))
 refine Mz ?_
 refine Md (c.aC+4<c.seq) (fun jW=>?_) fun jW=>?_
 rotate_left
 ·refine Mt [.slice A1 S1.length c1,vz 0,vb true,vi 0] fun bs w hS=>?_
  have hv: ¬eC n c:=by unfold eC;omega
  rw[←a5]
  have ha:=tu kO gB (kR Cv) h6 g7 jW
  have hm:=et (c:=c) kj hv (K:=k) (by show ¬aQ _ _<0;rw[hJ];omega) (by show (aQ _ _).toNat=_;rw[hJ];rfl) h8 (fD kO gB) ha
  have gf:=dG fM
  refine⟨⟨A1,c1,L6⟩,?_,?_,hS.aO (y:=(⟨A1,c1,L6⟩:Sl aa)) (bV i0 hS.res (fun x hx=>?_))⟩
  ·have jU:S1.length=L6.length:=by rw[fM,List.length_set]
   rw[hm]
   exact congrArg (fun q=>Ending.returned (.tuple #[.slice A1 q c1,vz 0,vb true,vi 0])) jU
  ·exact Eq.trans gf (congrArg Prod.fst hm).symm
  ·rw[fM]at hx
   rcases ia hx with hx|hx
   ·subst hx;exact a4 i1 (hS.res _ i1) (fun z hz=>bn _ (aB (L:=S1) (i:=k) (by omega)) z (List.mem_filter.1 hz).1)
   ·exact cY i2 hS.res (fun z hz=>bn z (List.mem_of_mem_eraseIdx hz)) hx
 refine Mt [.slice A1 S1.length c1,vz 2,vb false,vi 0] fun bs w hS=>?_
 have hv: ¬eC n c:=by unfold eC;omega
 rw[←a5]
 have ha:=tt kO gB (kR Cv) h6 g7 jW
 have hm:=et (c:=c) kj hv (K:=k) (by show ¬aQ _ _<0;rw[hJ];omega) (by show (aQ _ _).toNat=_;rw[hJ];rfl) h8 (fD kO gB) ha
 have gf:=dG fM
 refine⟨⟨A1,c1,L6⟩,?_,?_,hS.aO (y:=(⟨A1,c1,L6⟩:Sl aa)) (bV i0 hS.res (fun x hx=>?_))⟩
 ·have jU:S1.length=L6.length:=by rw[fM,List.length_set]
  rw[hm]
  exact congrArg (fun q=>Ending.returned (.tuple #[.slice A1 q c1,vz 2,vb false,vi 0])) jU
 ·exact Eq.trans gf (congrArg Prod.fst hm).symm
 ·rw[fM]at hx
  rcases ia hx with hx|hx
  ·subst hx;exact a4 i1 (hS.res _ i1) (fun z hz=>bn _ (aB (L:=S1) (i:=k) (by omega)) z (List.mem_filter.1 hz).1)
  ·exact cY i2 hS.res (fun z hz=>bn z (List.mem_of_mem_eraseIdx hz)) hx
theorem Aw (s:Sl aa)(n:Int)(c:aF)(w:World)(hs:s.rd B w)(ht:ln c.ag)(hc:aJ.sub B w c):Calls prog 36 #[s.val,vi n,c.val] w fun e w'=> ∃y:Sl aa,e=.returned (.tuple #[y.val,((dn (s.xs.map aa.abs) n c).2.1).val,vb (dn (s.xs.map aa.abs) n c).2.2.1,vi (dn (s.xs.map aa.abs) n c).2.2.2])∧y.xs.map aa.abs=(dn (s.xs.map aa.abs) n c).1∧bJ w w' y:=by
 have cV:=Sl.rd.ok hs
 have iV:=Sl.ok.nc cV
 have iW:s.n=s.xs.length:=rfl
 have tB:(s.xs.map aa.abs).length=s.n:=by simp
 refine M0 ?_ func36
 refine Mp ?_ call92 (fun bs w hS=>eV s n w (Sl.rd.kp hs hS.kp))
 refine Md (bC (s.xs.map aa.abs) n=0) (fun h1=>?_) fun h1=>?_
 rotate_left
 ·refine My false true ?_ (df h1)
  refine Mt [vn,vz 0,vb false,vi (bC (s.xs.map aa.abs) n)] fun bs w hS=>?_
  have hm:=w3 (c:=c) h1
  refine⟨Sl.nil,?_,?_,hS.aO (Sl.ao _ _)⟩
  ·rw[hm]<;>rfl
  ·rw[hm]<;>rfl
 obtain⟨EW,wo,mh,gI⟩:=dm h1
 have Er:s.xs.length≤4:=by simpa using mh
 refine Md ((1073741824:Int)≤n) (fun h2=>?_) fun h2=>?_
 ·refine Mq 41 true ?_ rfl
  refine Mt [vn,vz 0,vb false,vi 2] fun bs w hS=>?_
  have hm:=ju (c:=c) h1 (by unfold eC;simp only[iT,iF] at*;omega)
  refine⟨Sl.nil,?_,?_,hS.aO (Sl.ao _ _)⟩
  ·rw[hm]<;>rfl
  ·rw[hm]<;>rfl
 refine Mp ?_ call51 (fun bs w hS=>b6 c.seq 1 1048576 w)
 refine fL (gk c.seq 1 1048576) (fun h3=>?_) fun h3=>?_
 rotate_left
 ·simp only[iT,iF]at h3
  refine Mq 41 true ?_ rfl
  refine Mt [vn,vz 0,vb false,vi 2] fun bs w hS=>?_
  have hm:=ju (c:=c) h1 (by unfold eC;simp only[iT,iF] at*;omega)
  refine⟨Sl.nil,?_,?_,hS.aO (Sl.ao _ _)⟩
  ·rw[hm]<;>rfl
  ·rw[hm]<;>rfl
 simp only[iT,iF]at h3
 refine Mi ?_ (pR (c.seq - 1))
 refine Mp ?_ call51 (fun bs w hS=>b6 c.aC 0 (c.seq - 1) w)
 refine fL (gk c.aC 0 (c.seq - 1)) (fun h4=>?_) fun h4=>?_
 rotate_left
 ·simp only[iT,iF]at h4
  refine Mq 41 true ?_ rfl
  refine Mt [vn,vz 0,vb false,vi 2] fun bs w hS=>?_
  have hm:=ju (c:=c) h1 (by unfold eC;simp only[iT,iF] at*;omega)
  refine⟨Sl.nil,?_,?_,hS.aO (Sl.ao _ _)⟩
  ·rw[hm]<;>rfl
  ·rw[hm]<;>rfl
 simp only[iT,iF]at h4
 refine My true true ?_ (dt h1)
 refine Mf ?_ call19 (fun bs w hS=>fB s w (Sl.rd.kp hs hS.kp) (fC (by assumption)))
 rintro y1 a5
 refine dH ?_
 obtain⟨A1,c1,S1⟩:=y1
 have a5:S1.map aa.abs=s.xs.map aa.abs:=a5
 refine fO (R':=[bI (cj 141) S1,ay 118 A1 c1 (S1:List aa)]) (List.Perm.refl _) ?_
 have bn:=eW (y:=(⟨A1,c1,S1⟩:Sl aa)) (hs) a5
 have oA:S1.length=s.xs.length:=by simpa using congrArg List.length a5
 refine bk (F:= ∀i,i<S1.length→aJ.ok (S1.getD i dd)) (fun bs w hS i hi=>aJ.bL (B:=bH) (w:=w) (fY (hS.res _ i0) bn (aB hi))) fun gj=>?_
 refine bk (F:=dY A1 c1 (S1:List aa)) (fun bs w hS=>br (hS.res _ i1)) fun cI=>?_
 have cn:=cI.2
 have Gx:(S1.map aa.abs).length=S1.length:=by simp
 have kj:bC (S1.map aa.abs) n=0:=by rw[a5];assumption
 refine Mp ?_ call98 (fun bs w hS=>eg (⟨A1,c1,S1⟩:Sl aa) c.ag w (gu (hS.res _ i0) (hS.res _ i1) bn))
 have Ig:aQ (fun x:aa=>decide (x.ag=c.ag)) S1=aQ (fun x:az=>decide (x.ag=c.ag)) (S1.map aa.abs):=fm aa.abs (fun x:az=>decide (x.ag=c.ag)) S1
 rw[Ig]
 have qc:=du (fun x:az=>decide (x.ag=c.ag)) (S1.map aa.abs)
 generalize hJ:aQ (fun x:az=>decide (x.ag=c.ag)) (S1.map aa.abs)=J at qc⊢
 rw[List.length_map]at qc
 refine fP 12 ?_ ai
 refine Md (J<0) (fun h6=>?_) fun h6=>?_
 ·have Au: ¬0≤J:=by omega
  refine Mz ?_
  refine Mt [.slice A1 S1.length c1,vz 11,vb false,vi 0] fun bs w hS=>?_
  have hv: ¬eC n c:=by grind[eC]
  rw[←a5]
  have hm:=uE (l:=S1.map aa.abs) (c:=c) kj hv (by show aQ _ _<0;rw[hJ];omega)
  refine⟨⟨A1,c1,S1⟩,?_,?_,hS.aO (y:=(⟨A1,c1,S1⟩:Sl aa)) (bV i1 hS.res (fun x hx=>?_))⟩
  ·rw[hm]<;>rfl
  ·exact (congrArg Prod.fst hm).symm
  ·exact cY i0 hS.res bn hx
 have Au:0≤J:=by omega
 have nK:=ob kj (k:=J.toNat) (by omega)
 have KG:(S1.getD J.toNat dd).ab.xs.length≤4:=jF nK.2.2.2.2
 have Hd:(S1.getD J.toNat dd).ab.n=(S1.getD J.toNat dd).ab.xs.length:=rfl
 refine bY ?_ (pc (fG 55 J J.toNat S1.length i1) (lg 57 J.toNat 1 1 i1))
 refine Mz ?_
 refine cr ((S1.getD J.toNat dd).id=c.aD) (fun h7=>?_) fun h7=>?_
 rotate_left
 ·refine Mt [.slice A1 S1.length c1,vz 11,vb false,vi 0] fun bs w hS=>?_
  have hv: ¬eC n c:=by grind[eC]
  rw[←a5]
  have hm:=sG (c:=c) kj hv (K:=J.toNat) (by show (aQ _ _).toNat=_;rw[hJ]) h7
  refine⟨⟨A1,c1,S1⟩,?_,?_,hS.aO (y:=(⟨A1,c1,S1⟩:Sl aa)) (bV i1 hS.res (fun x hx=>?_))⟩
  ·rw[hm]<;>rfl
  ·exact (congrArg Prod.fst hm).symm
  ·exact cY i0 hS.res bn hx
 refine Mi ?_ (pc (pR (n+1)) (fG 68 J J.toNat S1.length i1))
 refine cb ?_
 refine Ms J.toNat 3 (⟨(S1.getD J.toNat dd).ag,(S1.getD J.toNat dd).id,(S1.getD J.toNat dd).aC,n+1,(S1.getD J.toNat dd).ab⟩:aa) ?_ (by omega)
 intro L3 sY BZ
 have ki:L3.getD J.toNat dd=(⟨(S1.getD J.toNat dd).ag,(S1.getD J.toNat dd).id,(S1.getD J.toNat dd).aC,n+1,(S1.getD J.toNat dd).ab⟩:aa):=by rw[sY];exact bQ (by omega)
 have iX:L3=List.set S1 J.toNat (⟨(S1.getD J.toNat dd).ag,(S1.getD J.toNat dd).id,(S1.getD J.toNat dd).aC,n+1,(S1.getD J.toNat dd).ab⟩:aa):=by rw[sY]
 refine fP 8 ?_ ai
 refine bY ?_ (pc (fG 74 J J.toNat S1.length i0) (l5 76 J.toNat 2 1 ki i0))
 refine Mz ?_
 refine Md ((S1.getD J.toNat dd).aC<c.aC) (fun h8=>?_) fun h8=>?_
 rotate_left
 ·have kO:pK (S1.getD J.toNat dd).abs c=(S1.getD J.toNat dd).aC:=zG (d:=(S1.getD J.toNat dd).abs) h8
  refine bU (α:=aK) 141 ?_
  refine Ml (σ:=Nat×Option Addr×Nat×List aK) (fun⟨i,A,c9,L⟩=>i≤(S1.getD J.toNat dd).ab.n∧L=((S1.getD J.toNat dd).ab.xs.take i).filter (fun z:aK=>!decide (z.seq≤(S1.getD J.toNat dd).aC))) (fun⟨i,A,c9,L⟩=>(S1.getD J.toNat dd).ab.n - i) (fun⟨i,A,c9,L⟩=>[ay 141 A c9 (L:List aK),ay 118 A1 c1 (L3:List aa),bI (cj 141) S1]) [14,13,12,11,7,5] (fun⟨i,A,c9,L⟩=>[(14,vI (i:Int)),(13,.v (.slice A L.length c9))]) (fun _=>[]) ?_ (⟨0,none,0,[]⟩) ⟨Nat.zero_le _,rfl⟩
  rintro⟨i,A,c9,L⟩ ⟨hi,hI⟩ _ o6
  have Mn:L.length≤i:=by rw[hI];exact Nat.le_trans (List.length_filter_le _ _) (by rw[List.length_take];omega)
  refine Mi ?_ (pc (fG 87 J J.toNat S1.length i1) (l5 89 J.toNat 4 1 ki i1))
  refine Md ((i:Int)<(((S1.getD J.toNat dd).ab.n:Nat):Int)) (fun pr=>?_) fun pr=>?_
  ·refine fP 15 ?_ ai
   refine bY ?_ (pc (fG 96 J J.toNat S1.length i1) (pc (l5 98 J.toNat 4 1 ki i1) (pc (pI 100 (i:Int) i (s:=(S1.getD J.toNat dd).ab) (fun w hk hr=>(fY (hr _ i2) bn (aB (i:=J.toNat) (by omega))))) (pc (pF 102 i 0 1 (s:=(S1.getD J.toNat dd).ab) (fun w hk hr=>(fY (hr _ i2) bn (aB (i:=J.toNat) (by omega))))) (pc (fG 105 J J.toNat S1.length i1) (l5 107 J.toNat 2 1 ki i1))))))
   refine Mz ?_
   refine Md ((S1.getD J.toNat dd).aC<((S1.getD J.toNat dd).ab.at i).seq) (fun yK=>?_) fun yK=>?_
   rotate_left
   ·refine Mi ?_ (pR ((i:Int)+1))
    exact o6 ⟨i+1,A,c9,L⟩ ⟨by omega,by first|exact mL (s:=(S1.getD J.toNat dd).ab) (p:=(fun z:aK=>decide (z.seq≤(S1.getD J.toNat dd).aC))) hI (by omega) (decide_eq_false (by omega))|exact lz (s:=(S1.getD J.toNat dd).ab) (p:=(fun z:aK=>decide (z.seq≤(S1.getD J.toNat dd).aC))) hI (by omega) (decide_eq_true (by omega))⟩ (by show (S1.getD J.toNat dd).ab.n - (i+1)<(S1.getD J.toNat dd).ab.n - i;omega)
   refine Mi ?_ (pc (fG 112 J J.toNat S1.length i1) (pc (l5 114 J.toNat 4 1 ki i1) (pA 116 117 (i:Int) i (s:=(S1.getD J.toNat dd).ab) (fun w hk hr=>(fY (hr _ i2) bn (aB (i:=J.toNat) (by omega)))))))
   refine M1 ?_
   refine gX (α:=aK) 40 ([(⟨((S1.getD J.toNat dd).ab.at i).seq,⟨((S1.getD J.toNat dd).ab.at i).aE.code,((S1.getD J.toNat dd).ab.at i).aE.n,((S1.getD J.toNat dd).ab.at i).aE.text⟩⟩:aK)]) ?_
   intro A7 c7
   refine Mi ?_ (pR ((i:Int)+1))
   exact o6 ⟨i+1,A7,c7,L++[(⟨((S1.getD J.toNat dd).ab.at i).seq,⟨((S1.getD J.toNat dd).ab.at i).aE.code,((S1.getD J.toNat dd).ab.at i).aE.n,((S1.getD J.toNat dd).ab.at i).aE.text⟩⟩:aK)]⟩ ⟨by omega,by first|exact mL (s:=(S1.getD J.toNat dd).ab) (p:=(fun z:aK=>decide (z.seq≤(S1.getD J.toNat dd).aC))) hI (by omega) (decide_eq_false (by omega))|exact lz (s:=(S1.getD J.toNat dd).ab) (p:=(fun z:aK=>decide (z.seq≤(S1.getD J.toNat dd).aC))) hI (by omega) (decide_eq_true (by omega))⟩ (by show (S1.getD J.toNat dd).ab.n - (i+1)<(S1.getD J.toNat dd).ab.n - i;omega)
  have Gz:L=(S1.getD J.toNat dd).ab.xs.filter (fun z:aK=>!decide (z.seq≤(S1.getD J.toNat dd).aC)):=by rw[hI,dE (by omega)]
  have gB:kZ (S1.getD J.toNat dd).abs c=L:=(oR kO).trans Gz.symm
  refine bk (F:=dY A c9 (L:List aK)) (fun bs w hS=>br (hS.res _ i0)) fun Av=>?_
  have Dd:=Av.2
  refine Mi ?_ (fG 123 J J.toNat S1.length i1)
  refine cb ?_
  refine Ms J.toNat 4 (⟨(S1.getD J.toNat dd).ag,(S1.getD J.toNat dd).id,(S1.getD J.toNat dd).aC,n+1,⟨A,c9,L⟩⟩:aa) ?_ (by omega) (hg:=ki)
  intro L8 He ME
  have Ie:L8.getD J.toNat dd=(⟨(S1.getD J.toNat dd).ag,(S1.getD J.toNat dd).id,(S1.getD J.toNat dd).aC,n+1,⟨A,c9,L⟩⟩:aa):=by rw[He];exact bQ (by omega)
  have nj:L8=List.set S1 J.toNat (⟨(S1.getD J.toNat dd).ag,(S1.getD J.toNat dd).id,(S1.getD J.toNat dd).aC,n+1,⟨A,c9,L⟩⟩:aa):=by rw[He,iX,List.set_set]
  refine fP 8 ?_ ai
  refine bY ?_ (pc (fG 129 J J.toNat S1.length i0) (l5 131 J.toNat 2 1 Ie i0))
  refine Mz ?_
  refine Md (c.seq≤(S1.getD J.toNat dd).aC) (fun Ej=>?_) fun Ej=>?_
  ·refine Mt [.slice A1 S1.length c1,vz 12,vb false,vi 0] fun bs w hS=>?_
   clear o6
   have hv: ¬eC n c:=by grind[eC]
   rw[←a5]
   have ha:=x1 kO Ej
   have hm:=et (c:=c) kj hv (K:=J.toNat) (by show ¬aQ _ _<0;rw[hJ];omega) (by show (aQ _ _).toNat=_;rw[hJ]) h7 (fD kO gB) ha
   have gf:=dG nj
   refine⟨⟨A1,c1,L8⟩,?_,?_,hS.aO (y:=(⟨A1,c1,L8⟩:Sl aa)) (bV i0 hS.res (fun x hx=>?_))⟩
   ·have jU:S1.length=L8.length:=by rw[nj,List.length_set]
    rw[hm]
    exact congrArg (fun q=>Ending.returned (.tuple #[.slice A1 q c1,vz 12,vb false,vi 0])) jU
   ·exact Eq.trans gf (congrArg Prod.fst hm).symm
   ·rw[nj]at hx
    rcases mem_set hx with hx|hx
    ·subst hx;exact a4 i1 (hS.res _ i1) (fun z hz=>bn _ (aB (L:=S1) (i:=J.toNat) (by omega)) z (by rw[Gz]at hz;exact (List.mem_filter.1 hz).1))
    ·exact cY i2 hS.res bn hx
  refine Ml (σ:=Nat) (fun j=>j≤L.length∧ ∀i0,i0<j→ ¬(L.getD i0 dd).seq=c.seq) (fun j=>L.length - j) (fun j=>[ay 118 A1 c1 (L8:List aa),ay 141 A c9 (L:List aK),bI (cj 141) S1]) [15,13,12,11,7,5] (fun j=>[(15,vI (j:Int))]) (fun _=>[]) ?_ 0 ⟨Nat.zero_le _,fun i0 h0=>absurd h0 (Nat.not_lt_zero _)⟩
  rintro j ⟨Kv,hX⟩ _ sK
  refine Md ((j:Int)<(L.length:Int)) (fun yn=>?_) fun yn=>?_
  ·refine fP 8 ?_ ai
   refine bY ?_ (pc (fG 143 (j:Int) j L.length i1) (lg 145 j 0 1 i1))
   refine Mz ?_
   refine Md ((L.getD j dd).seq=c.seq) (fun EU=>?_) fun EU=>?_
   rotate_left
   ·refine Mi ?_ (pR ((j:Int)+1))
    exact sK (j+1) ⟨by omega,fun i0 h0=>by rcases Nat.lt_succ_iff_lt_or_eq.1 h0 with h|h;exact hX i0 h;subst h;assumption⟩ (by show L.length - (j+1)<L.length - j;omega)
   refine cZ 10 [] [1] [ay 118 A1 c1 (L8:List aa),ay 141 A c9 (L:List aK),bI (cj 141) S1] ai ?_
   refine bY ?_ (pc (fG 152 (j:Int) j L.length i1) (lg 154 j 1 3 i1))
   refine Mz ?_
   refine Mt [.slice A1 S1.length c1,(L.getD j dd).aE.val,vb false,vi 0] fun bs w hS=>?_
   clear o6 sK
   have hv: ¬eC n c:=by grind[eC]
   rw[←a5]
   have ha:=qA kO gB (kR (kd (L:=L) (p:=fun z:aK=>decide (z.seq=c.seq)) (i:=j) (by omega) (decide_eq_true EU) (fun i0 h0=>decide_eq_false (hX i0 h0)))) Ej (by omega)
   have hm:=et (c:=c) kj hv (K:=J.toNat) (by show ¬aQ _ _<0;rw[hJ];omega) (by show (aQ _ _).toNat=_;rw[hJ]) h7 (fD kO gB) ha
   have gf:=dG nj
   refine⟨⟨A1,c1,L8⟩,?_,?_,hS.aO (y:=(⟨A1,c1,L8⟩:Sl aa)) (bV i0 hS.res (fun x hx=>?_))⟩
   ·have jU:S1.length=L8.length:=by rw[nj,List.length_set]
    rw[hm]
    exact congrArg (fun q=>Ending.returned (.tuple #[.slice A1 q c1,(L.getD j dd).aE.val,vb false,vi 0])) jU
   ·exact Eq.trans gf (congrArg Prod.fst hm).symm
   ·rw[nj]at hx
    rcases mem_set hx with hx|hx
    ·subst hx;exact a4 i1 (hS.res _ i1) (fun z hz=>bn _ (aB (L:=S1) (i:=J.toNat) (by omega)) z (by rw[Gz]at hz;exact (List.mem_filter.1 hz).1))
    ·exact cY i2 hS.res bn hx
  refine fP 9 ?_ ai
  refine bY ?_ (pc (fG 159 J J.toNat S1.length i0) (pc (l5 161 J.toNat 2 1 Ie i0) (pR ((S1.getD J.toNat dd).aC+4))))
  refine Mz ?_
  refine Md ((S1.getD J.toNat dd).aC+4<c.seq) (fun Dc=>?_) fun Dc=>?_
  rotate_left
  ·refine Mt [.slice A1 S1.length c1,vz 0,vb true,vi 0] fun bs w hS=>?_
   clear o6 sK
   have hv: ¬eC n c:=by grind[eC]
   rw[←a5]
   have ha:=tu kO gB (kR (en (L:=L) (p:=fun z:aK=>decide (z.seq=c.seq)) fun i0 h0=>decide_eq_false (hX i0 (by omega)))) Ej (by omega) Dc
   have hm:=et (c:=c) kj hv (K:=J.toNat) (by show ¬aQ _ _<0;rw[hJ];omega) (by show (aQ _ _).toNat=_;rw[hJ]) h7 (fD kO gB) ha
   have gf:=dG nj
   refine⟨⟨A1,c1,L8⟩,?_,?_,hS.aO (y:=(⟨A1,c1,L8⟩:Sl aa)) (bV i0 hS.res (fun x hx=>?_))⟩
   ·have jU:S1.length=L8.length:=by rw[nj,List.length_set]
    rw[hm]
    exact congrArg (fun q=>Ending.returned (.tuple #[.slice A1 q c1,vz 0,vb true,vi 0])) jU
   ·exact Eq.trans gf (congrArg Prod.fst hm).symm
   ·rw[nj]at hx
    rcases mem_set hx with hx|hx
    ·subst hx;exact a4 i1 (hS.res _ i1) (fun z hz=>bn _ (aB (L:=S1) (i:=J.toNat) (by omega)) z (by rw[Gz]at hz;exact (List.mem_filter.1 hz).1))
    ·exact cY i2 hS.res bn hx
  refine Mt [.slice A1 S1.length c1,vz 2,vb false,vi 0] fun bs w hS=>?_
  clear o6 sK
  have hv: ¬eC n c:=by grind[eC]
  rw[←a5]
  have ha:=tt kO gB (kR (en (L:=L) (p:=fun z:aK=>decide (z.seq=c.seq)) fun i0 h0=>decide_eq_false (hX i0 (by omega)))) Ej (by omega) Dc
  have hm:=et (c:=c) kj hv (K:=J.toNat) (by show ¬aQ _ _<0;rw[hJ];omega) (by show (aQ _ _).toNat=_;rw[hJ]) h7 (fD kO gB) ha
  have gf:=dG nj
  refine⟨⟨A1,c1,L8⟩,?_,?_,hS.aO (y:=(⟨A1,c1,L8⟩:Sl aa)) (bV i0 hS.res (fun x hx=>?_))⟩
  ·have jU:S1.length=L8.length:=by rw[nj,List.length_set]
   rw[hm]
   exact congrArg (fun q=>Ending.returned (.tuple #[.slice A1 q c1,vz 2,vb false,vi 0])) jU
  ·exact Eq.trans gf (congrArg Prod.fst hm).symm
  ·rw[nj]at hx
   rcases mem_set hx with hx|hx
   ·subst hx;exact a4 i1 (hS.res _ i1) (fun z hz=>bn _ (aB (L:=S1) (i:=J.toNat) (by omega)) z (by rw[Gz]at hz;exact (List.mem_filter.1 hz).1))
   ·exact cY i2 hS.res bn hx
 have kO:=FG (d:=(S1.getD J.toNat dd).abs) (c:=c) h8
 have Sr:=kO
 refine Mi ?_ (fG 82 J J.toNat S1.length i0)
 refine Ms J.toNat 2 (⟨(S1.getD J.toNat dd).ag,(S1.getD J.toNat dd).id,c.aC,n+1,(S1.getD J.toNat dd).ab⟩:aa) ?_ (by omega) (hg:=ki)
 intro L4 qb An
 have j2:L4.getD J.toNat dd=(⟨(S1.getD J.toNat dd).ag,(S1.getD J.toNat dd).id,c.aC,n+1,(S1.getD J.toNat dd).ab⟩:aa):=by rw[qb];exact bQ (by omega)
 have lV:L4=List.set S1 J.toNat (⟨(S1.getD J.toNat dd).ag,(S1.getD J.toNat dd).id,c.aC,n+1,(S1.getD J.toNat dd).ab⟩:aa):=by rw[qb,iX,List.set_set]
 refine bU (α:=aK) 141 ?_
 refine Ml (σ:=Nat×Option Addr×Nat×List aK) (fun⟨i,A,c9,L⟩=>i≤(S1.getD J.toNat dd).ab.n∧L=((S1.getD J.toNat dd).ab.xs.take i).filter (fun z:aK=>!decide (z.seq≤c.aC))) (fun⟨i,A,c9,L⟩=>(S1.getD J.toNat dd).ab.n - i) (fun⟨i,A,c9,L⟩=>[ay 141 A c9 (L:List aK),ay 118 A1 c1 (L4:List aa),bI (cj 141) S1]) [14,13,12,11,7,5] (fun⟨i,A,c9,L⟩=>[(14,vI (i:Int)),(13,.v (.slice A L.length c9))]) (fun _=>[]) ?_ (⟨0,none,0,[]⟩) ⟨Nat.zero_le _,rfl⟩
 rintro⟨i,A,c9,L⟩ ⟨hi,hI⟩ _ bu
 have Mn:L.length≤i:=by rw[hI];exact Nat.le_trans (List.length_filter_le _ _) (by rw[List.length_take];omega)
 refine Mi ?_ (pc (fG 87 J J.toNat S1.length i1) (l5 89 J.toNat 4 1 j2 i1))
 refine Md ((i:Int)<(((S1.getD J.toNat dd).ab.n:Nat):Int)) (fun h9=>?_) fun h9=>?_
 ·refine fP 15 ?_ ai
  refine bY ?_ (pc (fG 96 J J.toNat S1.length i1) (pc (l5 98 J.toNat 4 1 j2 i1) (pc (pI 100 (i:Int) i (s:=(S1.getD J.toNat dd).ab) (fun w hk hr=>(fY (hr _ i2) bn (aB (i:=J.toNat) (by omega))))) (pc (pF 102 i 0 1 (s:=(S1.getD J.toNat dd).ab) (fun w hk hr=>(fY (hr _ i2) bn (aB (i:=J.toNat) (by omega))))) (pc (fG 105 J J.toNat S1.length i1) (l5 107 J.toNat 2 1 j2 i1))))))
  refine Mz ?_
  refine Md (c.aC<((S1.getD J.toNat dd).ab.at i).seq) (fun ir=>?_) fun ir=>?_
  rotate_left
  ·refine Mi ?_ (pR ((i:Int)+1))
   exact bu ⟨i+1,A,c9,L⟩ ⟨by omega,by first|exact mL (s:=(S1.getD J.toNat dd).ab) (p:=(fun z:aK=>decide (z.seq≤c.aC))) hI (by omega) (decide_eq_false (by omega))|exact lz (s:=(S1.getD J.toNat dd).ab) (p:=(fun z:aK=>decide (z.seq≤c.aC))) hI (by omega) (decide_eq_true (by omega))⟩ (by show (S1.getD J.toNat dd).ab.n - (i+1)<(S1.getD J.toNat dd).ab.n - i;omega)
  refine Mi ?_ (pc (fG 112 J J.toNat S1.length i1) (pc (l5 114 J.toNat 4 1 j2 i1) (pA 116 117 (i:Int) i (s:=(S1.getD J.toNat dd).ab) (fun w hk hr=>(fY (hr _ i2) bn (aB (i:=J.toNat) (by omega)))))))
  refine M1 ?_
  refine gX (α:=aK) 40 ([(⟨((S1.getD J.toNat dd).ab.at i).seq,⟨((S1.getD J.toNat dd).ab.at i).aE.code,((S1.getD J.toNat dd).ab.at i).aE.n,((S1.getD J.toNat dd).ab.at i).aE.text⟩⟩:aK)]) ?_
  intro A5 c5
  refine Mi ?_ (pR ((i:Int)+1))
  exact bu ⟨i+1,A5,c5,L++[(⟨((S1.getD J.toNat dd).ab.at i).seq,⟨((S1.getD J.toNat dd).ab.at i).aE.code,((S1.getD J.toNat dd).ab.at i).aE.n,((S1.getD J.toNat dd).ab.at i).aE.text⟩⟩:aK)]⟩ ⟨by omega,by first|exact mL (s:=(S1.getD J.toNat dd).ab) (p:=(fun z:aK=>decide (z.seq≤c.aC))) hI (by omega) (decide_eq_false (by omega))|exact lz (s:=(S1.getD J.toNat dd).ab) (p:=(fun z:aK=>decide (z.seq≤c.aC))) hI (by omega) (decide_eq_true (by omega))⟩ (by show (S1.getD J.toNat dd).ab.n - (i+1)<(S1.getD J.toNat dd).ab.n - i;omega)
 have Gz:L=(S1.getD J.toNat dd).ab.xs.filter (fun z:aK=>!decide (z.seq≤c.aC)):=by rw[hI,dE (by omega)]
 have gB:kZ (S1.getD J.toNat dd).abs c=L:=(oR kO).trans Gz.symm
 refine bk (F:=dY A c9 (L:List aK)) (fun bs w hS=>br (hS.res _ i0)) fun Av=>?_
 have Dd:=Av.2
 refine Mi ?_ (fG 123 J J.toNat S1.length i1)
 refine cb ?_
 refine Ms J.toNat 4 (⟨(S1.getD J.toNat dd).ag,(S1.getD J.toNat dd).id,c.aC,n+1,⟨A,c9,L⟩⟩:aa) ?_ (by omega) (hg:=j2)
 intro L6 rB Am
 have ni:L6.getD J.toNat dd=(⟨(S1.getD J.toNat dd).ag,(S1.getD J.toNat dd).id,c.aC,n+1,⟨A,c9,L⟩⟩:aa):=by rw[rB];exact bQ (by omega)
 have fM:L6=List.set S1 J.toNat (⟨(S1.getD J.toNat dd).ag,(S1.getD J.toNat dd).id,c.aC,n+1,⟨A,c9,L⟩⟩:aa):=by rw[rB,lV,List.set_set]
 refine fP 8 ?_ ai
 refine bY ?_ (pc (fG 129 J J.toNat S1.length i0) (l5 131 J.toNat 2 1 ni i0))
 refine Mz ?_
 refine Md (c.seq≤c.aC) (fun g7=>?_) fun g7=>?_
 ·refine Mt [.slice A1 S1.length c1,vz 12,vb false,vi 0] fun bs w hS=>?_
  clear bu
  have hv: ¬eC n c:=by grind[eC]
  rw[←a5]
  have ha:=x1 kO g7
  have hm:=et (c:=c) kj hv (K:=J.toNat) (by show ¬aQ _ _<0;rw[hJ];omega) (by show (aQ _ _).toNat=_;rw[hJ]) h7 (fD kO gB) ha
  have gf:=dG fM
  refine⟨⟨A1,c1,L6⟩,?_,?_,hS.aO (y:=(⟨A1,c1,L6⟩:Sl aa)) (bV i0 hS.res (fun x hx=>?_))⟩
  ·have jU:S1.length=L6.length:=by rw[fM,List.length_set]
   rw[hm]
   exact congrArg (fun q=>Ending.returned (.tuple #[.slice A1 q c1,vz 12,vb false,vi 0])) jU
  ·exact Eq.trans gf (congrArg Prod.fst hm).symm
  ·rw[fM]at hx
   rcases mem_set hx with hx|hx
   ·subst hx;exact a4 i1 (hS.res _ i1) (fun z hz=>bn _ (aB (L:=S1) (i:=J.toNat) (by omega)) z (by rw[Gz]at hz;exact (List.mem_filter.1 hz).1))
   ·exact cY i2 hS.res bn hx
 refine Ml (σ:=Nat) (fun j=>j≤L.length∧ ∀i0,i0<j→ ¬(L.getD i0 dd).seq=c.seq) (fun j=>L.length - j) (fun j=>[ay 118 A1 c1 (L6:List aa),ay 141 A c9 (L:List aK),bI (cj 141) S1]) [15,13,12,11,7,5] (fun j=>[(15,vI (j:Int))]) (fun _=>[]) ?_ 0 ⟨Nat.zero_le _,fun i0 h0=>absurd h0 (Nat.not_lt_zero _)⟩
 rintro j ⟨Kv,hX⟩ _ j8
 refine Md ((j:Int)<(L.length:Int)) (fun jW=>?_) fun jW=>?_
 ·refine fP 8 ?_ ai
  refine bY ?_ (pc (fG 143 (j:Int) j L.length i1) (lg 145 j 0 1 i1))
  refine Mz ?_
  refine Md ((L.getD j dd).seq=c.seq) (fun k7=>?_) fun k7=>?_
  rotate_left
  ·refine Mi ?_ (pR ((j:Int)+1))
   exact j8 (j+1) ⟨by omega,fun i0 h0=>by rcases Nat.lt_succ_iff_lt_or_eq.1 h0 with h|h;exact hX i0 h;subst h;assumption⟩ (by show L.length - (j+1)<L.length - j;omega)
  refine cZ 10 [] [1] [ay 118 A1 c1 (L6:List aa),ay 141 A c9 (L:List aK),bI (cj 141) S1] ai ?_
  refine bY ?_ (pc (fG 152 (j:Int) j L.length i1) (lg 154 j 1 3 i1))
  refine Mz ?_
  refine Mt [.slice A1 S1.length c1,(L.getD j dd).aE.val,vb false,vi 0] fun bs w hS=>?_
  clear bu j8
  have hv: ¬eC n c:=by grind[eC]
  rw[←a5]
  have ha:=qA kO gB (kR (kd (L:=L) (p:=fun z:aK=>decide (z.seq=c.seq)) (i:=j) (by omega) (decide_eq_true k7) (fun i0 h0=>decide_eq_false (hX i0 h0)))) g7 (by omega)
  have hm:=et (c:=c) kj hv (K:=J.toNat) (by show ¬aQ _ _<0;rw[hJ];omega) (by show (aQ _ _).toNat=_;rw[hJ]) h7 (fD kO gB) ha
  have gf:=dG fM
  refine⟨⟨A1,c1,L6⟩,?_,?_,hS.aO (y:=(⟨A1,c1,L6⟩:Sl aa)) (bV i0 hS.res (fun x hx=>?_))⟩
  ·have jU:S1.length=L6.length:=by rw[fM,List.length_set]
   rw[hm]
   exact congrArg (fun q=>Ending.returned (.tuple #[.slice A1 q c1,(L.getD j dd).aE.val,vb false,vi 0])) jU
  ·exact Eq.trans gf (congrArg Prod.fst hm).symm
  ·rw[fM]at hx
   rcases mem_set hx with hx|hx
   ·subst hx;exact a4 i1 (hS.res _ i1) (fun z hz=>bn _ (aB (L:=S1) (i:=J.toNat) (by omega)) z (by rw[Gz]at hz;exact (List.mem_filter.1 hz).1))
   ·exact cY i2 hS.res bn hx
 refine fP 9 ?_ ai
 refine bY ?_ (pc (fG 159 J J.toNat S1.length i0) (pc (l5 161 J.toNat 2 1 ni i0) (pR (c.aC+4))))
 refine Mz ?_
 refine Md (c.aC+4<c.seq) (fun mo=>?_) fun mo=>?_
 rotate_left
 ·refine Mt [.slice A1 S1.length c1,vz 0,vb true,vi 0] fun bs w hS=>?_
  clear bu j8
  have hv: ¬eC n c:=by grind[eC]
  rw[←a5]
  have ha:=tu kO gB (kR (en (L:=L) (p:=fun z:aK=>decide (z.seq=c.seq)) fun i0 h0=>decide_eq_false (hX i0 (by omega)))) g7 (by omega) mo
  have hm:=et (c:=c) kj hv (K:=J.toNat) (by show ¬aQ _ _<0;rw[hJ];omega) (by show (aQ _ _).toNat=_;rw[hJ]) h7 (fD kO gB) ha
  have gf:=dG fM
  refine⟨⟨A1,c1,L6⟩,?_,?_,hS.aO (y:=(⟨A1,c1,L6⟩:Sl aa)) (bV i0 hS.res (fun x hx=>?_))⟩
  ·have jU:S1.length=L6.length:=by rw[fM,List.length_set]
   rw[hm]
   exact congrArg (fun q=>Ending.returned (.tuple #[.slice A1 q c1,vz 0,vb true,vi 0])) jU
  ·exact Eq.trans gf (congrArg Prod.fst hm).symm
  ·rw[fM]at hx
   rcases mem_set hx with hx|hx
   ·subst hx;exact a4 i1 (hS.res _ i1) (fun z hz=>bn _ (aB (L:=S1) (i:=J.toNat) (by omega)) z (by rw[Gz]at hz;exact (List.mem_filter.1 hz).1))
   ·exact cY i2 hS.res bn hx
 refine Mt [.slice A1 S1.length c1,vz 2,vb false,vi 0] fun bs w hS=>?_
 clear bu j8
 have hv: ¬eC n c:=by grind[eC]
 rw[←a5]
 have ha:=tt kO gB (kR (en (L:=L) (p:=fun z:aK=>decide (z.seq=c.seq)) fun i0 h0=>decide_eq_false (hX i0 (by omega)))) g7 (by omega) mo
 have hm:=et (c:=c) kj hv (K:=J.toNat) (by show ¬aQ _ _<0;rw[hJ];omega) (by show (aQ _ _).toNat=_;rw[hJ]) h7 (fD kO gB) ha
 have gf:=dG fM
 refine⟨⟨A1,c1,L6⟩,?_,?_,hS.aO (y:=(⟨A1,c1,L6⟩:Sl aa)) (bV i0 hS.res (fun x hx=>?_))⟩
 ·have jU:S1.length=L6.length:=by rw[fM,List.length_set]
  rw[hm]
  exact congrArg (fun q=>Ending.returned (.tuple #[.slice A1 q c1,vz 2,vb false,vi 0])) jU
 ·exact Eq.trans gf (congrArg Prod.fst hm).symm
 ·rw[fM]at hx
  rcases mem_set hx with hx|hx
  ·subst hx;exact a4 i1 (hS.res _ i1) (fun z hz=>bn _ (aB (L:=S1) (i:=J.toNat) (by omega)) z (by rw[Gz]at hz;exact (List.mem_filter.1 hz).1))
  ·exact cY i2 hS.res bn hx
theorem vl {B B':Nat→Prop}(a b:Sl ByteArray)(w:World)(ha:a.rd B w)(hb:b.rd B' w)(he:a.xs=b.xs):Calls prog 61 #[a.val,b.val] w fun e w'=>e=.returned (vb true)∧Kp [] w w':=by
 have qa:=Sl.rd.ok ha
 have EV:=Sl.rd.ok hb
 have hn:=sT he
 have JP:=Sl.ok.nc qa
 refine M0 ?_ func61
 refine cr ((a.n:Int)=(b.n:Int)) (fun h1=>?_) fun h1=>?_
 rotate_left
 ·exfalso;first|omega|exact h1 (jm he i)
 refine Ml (σ:=Nat) (fun i=>True) (fun i=>a.n - i) (fun _=>[]) [5,0,1] (fun i=>[(5,vI (i:Int))]) (fun _=>[]) ?_ 0 trivial
 rintro i _ _ bu
 have fg:=jm he i
 refine Md ((i:Int)<(a.n:Int)) (fun h2=>?_) fun h2=>?_
 rotate_left
 ·exact Mt [vb true] fun bs w hS=>⟨rfl,hS.kp⟩
 refine cZ 9 [] [] [] ai ?_
 refine bY ?_ (pc (pA 19 20 (i:Int) i (db ha)) (pA 23 24 (i:Int) i (db hb)))
 refine cr ((a.at i)=(b.at i)) (fun h3=>?_) fun h3=>?_
 rotate_left
 ·exfalso;first|omega|exact h3 (jm he i)
 refine Mi ?_ (pR ((i:Int)+1))
 exact bu (i+1) trivial (by omega)
theorem kl (A:Option Addr)(n c:Nat)(L:List ByteArray)(w:World)(hl:L.length=n)(nE:fx w A n (L.flatMap aR.cells))(hb:n*16≤140737488355328):Calls prog 157 #[.slice A n c] w fun e w'=> ∃y:Sl ByteArray,e=.returned y.val∧y.xs=L∧Kp [] w w'∧gC w w' (ay 9 y.A y.c y.xs):=by
 refine M0 ?_ func157
 refine Mi ?_ (pG [(4,.val (.bool A.isNone))] (oc ((eq_nil Tryz.underlying35): ∀w,(do eqGuard .eql 35 (.tmp 3) (.const vn) (.slice A n c) vn;binOp .eql 35 (.slice A n c) vn:Sem Value).run prog w=.ok (.bool A.isNone) w) on))
 refine Mb A.isNone (fun h1=>?_) fun h1=>?_
 ·refine Mt [vn] fun bs w hS=>?_
  have yq:L=[]:=by cases hA:A with|none=>rw [hA]at nE;have h0:n=0:=nE;exact List.eq_nil_of_length_eq_zero (by omega)|some a=>rw [hA]at h1;cases h1
  exact⟨Sl.nil,rfl,yq.symm,hS.kp,nX 9 w⟩
 refine LM ?_ (α:=ByteArray) (e:=9)
 intro A1
 refine Ma ?_ (α:=ByteArray) (L2:=L) 16 (fun bs w hS=>(fx.kp nE hS.kp)) (hn2:=hl)
 intro A2 c2
 exact Mt [.slice A2 ([]++L).length c2] fun bs w hS=>⟨⟨A2,c2,[]++L⟩,rfl,by simp,hS.kp,hS.rG⟩
theorem sZ (s:Sl ByteArray)(w:World)(hs:s.rd B w)(hb:s.n*16≤140737488355328):Calls prog 157 #[s.val] w fun e w'=> ∃y:Sl ByteArray,e=.returned y.val∧y.xs=s.xs∧Kp [] w w'∧gC w w' (ay 9 y.A y.c y.xs):=kl s.A s.n s.c s.xs w rfl hs.src hb
theorem GA {B B':Nat→Prop}(a b:dr)(w:World)(ha:aJ.sub B w a)(hb:aJ.sub B' w b)(he:a.abs=b.abs):Calls prog 53 #[a.val,b.val] w fun e w'=>e=.returned (vb true)∧Kp [] w w':=by
 have qa:=aJ.bL ha
 have EV:=aJ.bL hb
 refine M0 ?_ func53
 refine Md (a.base=b.base) (fun h1=>?_) fun h1=>?_
 rotate_left
 ·exact absurd (congrArg (fun q=>q.base) he) h1
 refine Mp ?_ call61 (fun bs w hS=>vl _ _ w (aJ.kp ha hS.kp) (aJ.kp hb hS.kp) (congrArg iy.entries he))
 exact Mt [vb true] fun bs w hS=>⟨rfl,hS.kp⟩
theorem De (x:dr)(n:Int)(w:World)(hx:aJ.sub B w x):Calls prog 206 #[x.val,vi n] w fun e w'=> ∃y:dr,e=.returned (.tuple #[y.val,vi (gW x.abs n).2])∧y.abs=(gW x.abs n).1∧bJ w w' y:=by
 have cC:=aJ.bL hx
 have mr:=Sl.ok.nc cC
 have mu:x.entries.n=x.entries.xs.length:=rfl
 have yu:cD x.abs=x.base+(x.entries.n:Int):=rfl
 have q1:x.abs.base=x.base:=rfl
 have q2:x.abs.entries=x.entries.xs:=rfl
 have fg: ∀q,x.entries.xs.getD q dd=x.entries.at q:=fun _=>rfl
 refine M0 ?_ func206
 refine Mp ?_ call110 (fun bs w hS=>o7 x w (aJ.kp hx hS.kp))
 refine cr (cT x.abs=0) (fun h1=>?_) fun h1=>?_
 rotate_left
 ·have hm:gW x.abs n=(iI,cT x.abs):=by grind[gW]
  exact eE hm ⟨0,Sl.nil⟩ rfl fun bs w hS=>hS.aO (y:=(⟨0,Sl.nil⟩:dr)) (Sl.ao _ _)
 obtain⟨gU,gT,jB,nH⟩:=eb h1
 rw[q1]at gU gT
 rw[q2]at jB
 refine Md (n<x.base) (fun h2=>?_) fun h2=>?_
 ·have hm:gW x.abs n=(iI,2):=by grind[gW]
  exact eE hm ⟨0,Sl.nil⟩ rfl fun bs w hS=>hS.aO (y:=(⟨0,Sl.nil⟩:dr)) (Sl.ao _ _)
 refine Mp ?_ call49 (fun bs w hS=>gQ x w (aJ.kp hx hS.kp) (by first|exact⟨by omega,by omega,by omega⟩|omega))
 refine Md (x.base+(x.entries.n:Int)<n) (fun h3=>?_) fun h3=>?_
 ·have hm:gW x.abs n=(iI,2):=by grind[gW]
  exact eE hm ⟨0,Sl.nil⟩ rfl fun bs w hS=>hS.aO (y:=(⟨0,Sl.nil⟩:dr)) (Sl.ao _ _)
 refine Md ((1073741424:Int)<n) (fun h4=>?_) fun h4=>?_
 ·have hm:gW x.abs n=(iI,8):=by grind[gW]
  exact eE hm ⟨0,Sl.nil⟩ rfl fun bs w hS=>hS.aO (y:=(⟨0,Sl.nil⟩:dr)) (Sl.ao _ _)
 refine Mi ?_ (pc (pR (n - x.base)) (pG [(34,.sl (n - x.base).toNat x.entries.n)] (oc ((by omega):n - x.base=(((n - x.base).toNat:Nat):Int)) (oc (rfl:x.entries.n=x.entries.n) (oc ((by omega):(n - x.base).toNat≤x.entries.n) on)))))
 refine Mf ?_ (vs:=fun bs=>[.slice (if x.entries.c=(n - x.base).toNat then x.entries.A else x.entries.A.map (·.add ((n - x.base).toNat*1))) (x.entries.n - (n - x.base).toNat) (x.entries.c - (n - x.base).toNat)]) call157 (fun bs w hS=>kl _ _ _ (x.entries.xs.drop (n - x.base).toNat) w (show (x.entries.xs.drop (n - x.base).toNat).length=x.entries.n - (n - x.base).toNat from List.length_drop ..) (Sl.rd.oK (s:=x.entries) (aJ.kp hx hS.kp) (by omega)) (by omega))
 rintro y1 a5
 refine Mt [.agg #[vi n,y1.val],vi 0] fun bs w hS=>?_
 have hm:gW x.abs n=(⟨n,x.entries.xs.drop (n - x.base).toNat⟩,0):=by grind[gW]
 have lY: ∀z,z∈y1.xs→z.size≤9223372036854775807:=fun z hz=>Sl.rd.mem (s:=x.entries) hx z (List.mem_of_mem_drop (a5▸hz))
 refine⟨⟨n,⟨y1.A,y1.c,y1.xs⟩⟩,?_,?_,hS.aO (y:=(⟨n,⟨y1.A,y1.c,y1.xs⟩⟩:dr)) (a4 i0 (hS.res _ i0) lY)⟩
 ·rw[hm];rfl
 ·rw[hm];simp[dr.abs,a5]
theorem Es (x:dr)(n:Int)(w:World)(hx:aJ.sub B w x):Calls prog 184 #[x.val,vi n] w fun e w'=> ∃y:dr,e=.returned (.tuple #[y.val,vi (gW x.abs n).2])∧y.abs=(gW x.abs n).1∧bJ w w' y:=by
 have cC:=aJ.bL hx
 have mr:=Sl.ok.nc cC
 have mu:x.entries.n=x.entries.xs.length:=rfl
 have yu:cD x.abs=x.base+(x.entries.n:Int):=rfl
 have q1:x.abs.base=x.base:=rfl
 have q2:x.abs.entries=x.entries.xs:=rfl
 have fg: ∀q,x.entries.xs.getD q dd=x.entries.at q:=fun _=>rfl
 refine M0 ?_ func184
 refine Mp ?_ call113 (fun bs w hS=>lh x w (aJ.kp hx hS.kp))
 refine cZ 11 [] [] [] ai ?_
 refine Md (cT x.abs=0) (fun h1=>?_) fun h1=>?_
 rotate_left
 ·refine My false false ?_ (df h1)
  refine My false true ?_ (df h1)
  have hm:gW x.abs n=(iI,cT x.abs):=by grind[gW]
  exact eE hm ⟨0,Sl.nil⟩ rfl fun bs w hS=>hS.aO (y:=(⟨0,Sl.nil⟩:dr)) (Sl.ao _ _)
 obtain⟨gU,gT,jB,nH⟩:=eb h1
 rw[q1]at gU gT
 rw[q2]at jB
 refine Mp ?_ call52 (fun bs w hS=>dD x w (aJ.kp hx hS.kp) (by first|exact⟨by omega,by omega,by omega⟩|omega))
 refine Mp ?_ call51 (fun bs w hS=>b6 n x.base (x.base+(x.entries.n:Int)) w)
 refine fL (gk n x.base (x.base+(x.entries.n:Int))) (fun h2=>?_) fun h2=>?_
 rotate_left
 ·simp only[iT,iF]at h2
  refine Mq 22 false ?_ rfl
  refine Mq 27 true ?_ rfl
  have hm:gW x.abs n=(iI,2):=by grind[gW]
  exact eE hm ⟨0,Sl.nil⟩ rfl fun bs w hS=>hS.aO (y:=(⟨0,Sl.nil⟩:dr)) (Sl.ao _ _)
 simp only[iT,iF]at h2
 refine My true false ?_ (dt h1)
 refine Md ((1073741424:Int)<n) (fun h4=>?_) fun h4=>?_
 ·refine Mq 27 true ?_ rfl
  have hm:gW x.abs n=(iI,8):=by grind[gW]
  exact eE hm ⟨0,Sl.nil⟩ rfl fun bs w hS=>hS.aO (y:=(⟨0,Sl.nil⟩:dr)) (Sl.ao _ _)
 refine My true true ?_ (dt h1)
 refine Mi ?_ (pc (pR (n - x.base)) (pG [(37,.sl (n - x.base).toNat x.entries.n)] (oc ((by omega):n - x.base=(((n - x.base).toNat:Nat):Int)) (oc (rfl:x.entries.n=x.entries.n) (oc ((by omega):(n - x.base).toNat≤x.entries.n) on)))))
 refine bU (α:=ByteArray) 9 ?_
 refine Ma ?_ (α:=ByteArray) (L2:=x.entries.xs.drop (n - x.base).toNat) 16 (fun bs w hS=>Sl.rd.oK (s:=x.entries) (aJ.kp hx hS.kp) (by omega)) (hn2:=(List.length_drop ..))
 intro A1 c1
 refine Mt [.agg #[vi n,.slice A1 ([]++x.entries.xs.drop (n - x.base).toNat).length c1],vi 0] fun bs w hS=>?_
 have hm:gW x.abs n=(⟨n,x.entries.xs.drop (n - x.base).toNat⟩,0):=by grind[gW]
 have lY: ∀z,z∈[]++x.entries.xs.drop (n - x.base).toNat→z.size≤9223372036854775807:=fun z hz=>Sl.rd.mem (s:=x.entries) hx z (List.mem_of_mem_drop (by simpa using hz))
 refine⟨⟨n,⟨A1,c1,[]++x.entries.xs.drop (n - x.base).toNat⟩⟩,?_,?_,hS.aO (y:=(⟨n,⟨A1,c1,[]++x.entries.xs.drop (n - x.base).toNat⟩⟩:dr)) (a4 i0 (hS.res _ i0) lY)⟩
 ·rw[hm];rfl
 ·rw[hm];simp[dr.abs]
theorem ij (s:ByteArray)(w:World)(hs:s.size≤9223372036854775807):Calls prog 215 #[vs s] w fun e w'=>e=.returned (vs (bj s))∧Kp [] w w':=by
 refine M0 ?_ func215
 refine Mp ?_ call213 (fun bs w hS=>mn _ w (by first|assumption|omega|(simp only[aL];omega)))
 exact Mt [vs (gr s).1] fun bs w hS=>⟨rfl,hS.kp⟩
theorem fh (s:Sl Int)(w:World)(hs:s.rd B w)(hb:s.n≤1048576):Calls prog 214 #[s.val] w fun e w'=>e=.returned (vs (bc s.xs))∧Kp [] w w':=by
 have cV:=Sl.rd.ok hs
 have iV:=Sl.ok.nc cV
 have iW:s.n=s.xs.length:=rfl
 refine M0 ?_ func214
 refine Ml (σ:=Nat×ByteArray) (fun⟨i,u⟩=>i≤s.n∧u=bc (s.xs.take i)∧u.size≤6*i) (fun⟨i,u⟩=>s.n - i) (fun _=>[]) [4,3,0] (fun⟨i,u⟩=>[(4,vI (i:Int)),(3,vS u)]) (fun _=>[]) ?_ (⟨0,emp⟩) ⟨Nat.zero_le _,rfl,Nat.zero_le _⟩
 rintro⟨i,u⟩ ⟨hi,hI,hz⟩ _ bu
 have St:=eB (s.at i)
 refine Md ((i:Int)<(s.n:Int)) (fun h1=>?_) fun h1=>?_
 rotate_left
 ·refine Mt [vs u] fun bs w hS=>?_
  refine⟨?_,hS.kp⟩
  rw[hI]
  unfold bc
  rw[DE _ _ s.xs (by omega)]
  rfl
 refine Mi ?_ (pA 16 17 (i:Int) i (db hs))
 refine Mp ?_ call212 (fun bs w hS=>kS (s.at i) w)
 refine Mi ?_ (pc (pP (u.size+(cf (s.at i)).1.size≤9223372036854775807)) (pR ((i:Int)+1)))
 exact bu ⟨i+1,u++(cf (s.at i)).1⟩ ⟨by show i+1≤s.n;omega,by rw[hI];exact um (i:=i) (l:=s.xs) (by omega),by show (u++_).size≤6*(i+1);rw[ByteArray.size_append];omega⟩ (by show s.n - (i+1)<s.n - i;omega)
theorem o8 (x s:ByteArray)(b:Nat)(w:World)(hb:(bh b 254 [vs x]).p w)(hs:s.size≤9223372036854775807)(hx:x.size≤4611686018427387904):Calls prog 231 #[.pointer (some ⟨b,0,none⟩),vs s] w fun e w'=> ∃_:Unit,e=.returned (.tuple #[])∧True∧Kp [b] w w'∧(bh b 254 [vs (x++bj s)]).p w':=by
 refine Mj ?_ func231 (WS.eG w _ hb (by simp[bh]) (gm hb))
 refine Mp ?_ call229 (fun bs w hS=>u4 _ w (by first|assumption|omega|(simp only[aL];omega)))
 refine Mi ?_ (pc (nI 14 0 1 i0) (pP (x.size+(gr s).1.size≤9223372036854775807) (by have:=cE s;unfold bj at this;omega)))
 refine rz 0 [vs (x++(gr s).1)] ?_
 exact Mt [] fun bs w hS=>⟨(),rfl,trivial,hS.kp,hS.res _ i0⟩
theorem gg (x:ByteArray)(s:Sl Int)(b:Nat)(w:World)(hb:(bh b 254 [vs x]).p w)(hs:s.rd B w)(NL:s.n≤1048576)(hx:x.size≤4611686018427387904):Calls prog 230 #[.pointer (some ⟨b,0,none⟩),s.val] w fun e w'=> ∃_:Unit,e=.returned (.tuple #[])∧True∧Kp [b] w w'∧(bh b 254 [vs (x++bc s.xs)]).p w':=by
 have cV:=Sl.rd.ok hs
 have iV:=Sl.ok.nc cV
 have iW:s.n=s.xs.length:=rfl
 have Ih:=Fx hs hb
 refine Mj ?_ func230 (WS.eG w _ hb (by simp[bh]) (gm hb))
 refine Ml (σ:=Nat×ByteArray) (fun⟨i,u⟩=>i≤s.n∧u=x++bc (s.xs.take i)∧u.size≤x.size+6*i) (fun⟨i,u⟩=>s.n - i) (fun⟨i,u⟩=>[bh b 254 [vs u]]) [10,9,8,0] (fun⟨i,u⟩=>[(10,vI (i:Int))]) (fun _=>[]) ?_ (⟨0,x⟩) ⟨Nat.zero_le _,(uk x).symm,Nat.le_refl _⟩
 rintro⟨i,u⟩ ⟨hi,hI,hz⟩ _ bu
 have St:=eB (s.at i)
 refine Md ((i:Int)<(s.n:Int)) (fun h1=>?_) fun h1=>?_
 rotate_left
 ·refine Mt [] fun bs w hS=>?_
  refine⟨(),rfl,trivial,hS.kp,?_⟩
  have hu:u=x++bc s.xs:=by rw[hI,List.take_of_length_le (by omega)]
  rw[←hu]
  exact hS.res _ i0
 refine Mi ?_ (pA 12 13 (i:Int) i (s:=s) (fun w hk hr=>(Sl.rd.stay Ih fun q hq dX=>hk.block q dX (by simpa[bh] using hq))))
 refine Mp ?_ call228 (fun bs w hS=>nf (s.at i) w)
 refine Mi ?_ (pc (nI 22 0 1 i0) (pP (u.size+(cf (s.at i)).1.size≤9223372036854775807)))
 refine rz 0 [vs (u++(cf (s.at i)).1)] ?_
 refine Mi ?_ (pR ((i:Int)+1))
 exact bu ⟨i+1,u++(cf (s.at i)).1⟩ ⟨by show i+1≤s.n;omega,by rw[hI,ByteArray.append_assoc];exact congrArg _ (um (i:=i) (l:=s.xs) (by omega)),by show (u++_).size≤x.size+6*(i+1);rw[ByteArray.size_append];omega⟩ (by show s.n - (i+1)<s.n - i;omega)
theorem vm (s:ByteArray)(w:World)(hs:s.size≤9223372036854775807):Calls prog 198 #[vs s] w fun e w'=>e=.returned (vs (gE s))∧Kp [] w w':=by
 refine M0 ?_ func198
 refine Ml (σ:=Nat) (fun k=>k≤s.size) (fun k=>s.size - k) (fun _=>[]) [8,7,4,3,0] (fun k=>[(8,vI (k:Int)),(4,vI (b7 s k).2),(3,vI (b7 s k).1)]) (fun _=>[]) ?_ 0 (Nat.zero_le _)
 rintro k hk _ bu
 have hb:=wy s k
 have hu:=(s.data.getD k 0).toNat_lt
 refine Md ((k:Int)<(s.size:Int)) (fun h1=>?_) fun h1=>?_
 rotate_left
 ·refine Mi ?_ (pc (pP ((0:Int)≤8)) (pc (pP (8≤(64:Int))) (pc (pP ((0:Int)≤8)) (pP (8≤(64:Int))))))
  refine M1 ?_
  refine DR (eS:=5) [((b7 s k).2 / 2 ^ (8:Int).toNat) % 256,(b7 s k).2 % 256,((b7 s k).1 / 2 ^ (8:Int).toNat) % 256,(b7 s k).1 % 256] ?_
  refine Mt [vs (cP ([((b7 s k).2 / 2 ^ (8:Int).toNat) % 256,(b7 s k).2 % 256,((b7 s k).1 / 2 ^ (8:Int).toNat) % 256,(b7 s k).1 % 256]))] fun bs w hS=>?_
  refine⟨?_,hS.kp⟩
  have e:k=s.size:=by omega
  subst e
  simp[bO,den,gE]
 refine Mi ?_ (pc (pG [(14,.qg k)] (oc (rfl:(k:Int)=(k:Int)) (oc ((by omega):k<s.size) on))) (pc (pP (0≤((s.data.getD k 0).toNat:Int))) (pc (pP (((s.data.getD k 0).toNat:Int)≤255)) (pc (pR ((b7 s k).1+((s.data.getD k 0).toNat:Int))) (pc (pP (0≤(b7 s k).1+((s.data.getD k 0).toNat:Int))) (pc (pP ((0:Int)<65521)) (pc (pR ((b7 s k).2+(((b7 s k).1+((s.data.getD k 0).toNat:Int)) % 65521))) (pc (pP (0≤(b7 s k).2+(((b7 s k).1+((s.data.getD k 0).toNat:Int)) % 65521))) (pc (pP ((0:Int)<65521)) (pR ((k:Int)+1)))))))))))
 exact bu (k+1) (by omega) (by omega)
theorem vo (s:ByteArray)(w:World)(hs:s.size≤9223372036854775807):Calls prog 158 #[vs s] w fun e w'=>e=.returned (vs (gE s))∧Kp [] w w':=by
 refine M0 ?_ func158
 refine Ml (σ:=Nat) (fun k=>k≤s.size) (fun k=>s.size - k) (fun _=>[]) [5,4,3,0] (fun k=>[(5,vI (k:Int)),(4,vI (b7 s k).2),(3,vI (b7 s k).1)]) (fun _=>[]) ?_ 0 (Nat.zero_le _)
 rintro k hk _ bu
 have hb:=wy s k
 have hu:=(s.data.getD k 0).toNat_lt
 refine Md ((k:Int)<(s.size:Int)) (fun h1=>?_) fun h1=>?_
 ·refine Mi ?_ (pc (pG [(15,.qg k)] (oc (rfl:(k:Int)=(k:Int)) (oc ((by omega):k<s.size) on))) (pc (pP (0≤((s.data.getD k 0).toNat:Int))) (pc (pP (((s.data.getD k 0).toNat:Int)≤255)) (pc (pR ((b7 s k).1+((s.data.getD k 0).toNat:Int))) (pc (pP (0≤(b7 s k).1+((s.data.getD k 0).toNat:Int))) (pc (pP ((0:Int)<65521)) (pc (pR ((b7 s k).2+(((b7 s k).1+((s.data.getD k 0).toNat:Int)) % 65521))) (pc (pP (0≤(b7 s k).2+(((b7 s k).1+((s.data.getD k 0).toNat:Int)) % 65521))) (pc (pP ((0:Int)<65521)) (pR ((k:Int)+1)))))))))))
  exact bu (k+1) (by omega) (by omega)
 refine Mi ?_ (pc (pP (0≤(b7 s k).2)) (pc (pP ((b7 s k).2≤9223372036854775807)) (pc (pP ((0:Int)<256)) (pc (pP (0≤(b7 s k).2)) (pc (pP ((0:Int)<256)) (pc (pP (0≤(b7 s k).1)) (pc (pP ((b7 s k).1≤9223372036854775807)) (pc (pP ((0:Int)<256)) (pc (pP (0≤(b7 s k).1)) (pP ((0:Int)<256)))))))))))
 refine M1 ?_
 refine DR (eS:=5) [((b7 s k).2 / 256) % 256,((b7 s k).2 % 256) % 256,((b7 s k).1 / 256) % 256,((b7 s k).1 % 256) % 256] ?_
 refine Mt [vs (cP ([((b7 s k).2 / 256) % 256,((b7 s k).2 % 256) % 256,((b7 s k).1 / 256) % 256,((b7 s k).1 % 256) % 256]))] fun bs w hS=>?_
 refine⟨?_,hS.kp⟩
 have e:k=s.size:=by omega
 subst e
 simp[bO,den,gE]
theorem v7 (s:aN)(w:World)(hs:aJ.sub B w s):Calls prog 185 #[s.val] w fun e w'=>e=.returned (.tuple #[vs (gH s.abs).1,vi (gH s.abs).2])∧Kp [] w w':=by
 have Su:emp.size=0:=rfl
 have cC:=aJ.bL hs
 have cV:=cC.1
 have OU:=cC.2.1
 have OV:=cC.2.2
 have iV:=Sl.ok.nc cV
 have Sv:=Sl.ok.nc OU
 have Sw:=Sl.ok.nc OV
 have iW:s.aj.n=s.aj.xs.length:=rfl
 have Sx:s.an.n=s.an.xs.length:=rfl
 have lr:s.af.n=s.af.xs.length:=rfl
 have gB:s.abs.aj.length=s.aj.n:=List.length_map _
 have OW:s.abs.an.length=s.an.n:=rfl
 have hle:s.abs.af.length=s.af.n:=List.length_map _
 have KH: ∀q,s.abs.aj.getD q default=(s.aj.at q).abs:=fun q=>pH q
 have Sy: ∀q,s.abs.an.getD q default=s.an.at q:=fun _=>rfl
 have MG: ∀q,s.abs.af.getD q default=(s.af.at q).abs:=fun q=>lb q
 refine M0 ?_ func185
 refine Mp ?_ call30 (fun bs w hS=>jR s w (aJ.kp hs hS.kp))
 refine cr (bA s.abs=0) (fun h1=>?_) fun h1=>?_
 rotate_left
 ·refine Mt [ve,vi (bA s.abs)] fun bs w hS=>?_
  refine⟨?_,hS.kp⟩
  unfold gH
  rw[if_neg (by assumption)]
  rfl
 have xy:=mJ (x:=s.abs) (by assumption)
 have gU:=xy.1
 have gT:=xy.2.1
 have jB:=xy.2.2.1
 have nH: ∀q,(s.aj.at q).line.n≤3:=fun q=>by
   by_cases hq:q<s.aj.n
   ·have:=xy.2.2.2.1 q (by rw[gB];exact hq);rw[KH]at this;exact this
   ·rw[xV hq];show 0≤3;omega
 have va: ∀q,(s.af.at q).ab.n≤4:=fun q=>by
   by_cases hq:q<s.af.n
   ·have:=xy.2.2.2.2 q (by rw[hle];exact hq);rw[MG]at this;exact this
   ·rw[xV hq];show 0≤4;omega
 refine M1 ?_
 have OX:=bP [(s.index:Int),((s.aj.n:Int):Int)]
 simp only[List.length_cons,List.length_nil]at OX
 refine Mp ?_ (v:=vs (bc [(s.index:Int),((s.aj.n:Int):Int)])) call214 (fun bs w hS=>fh (⟨some ⟨bs.getD 1 0,0,none⟩,2,[(s.index:Int),((s.aj.n:Int):Int)]⟩:Sl Int) w (eM [(s.index:Int),((s.aj.n:Int):Int)] (hS.loc 1 ⟨3,[vI s.index,vI (s.aj.n:Int)]⟩ (by kernel_rfl) (by simp)) (by simp)) (by show 2≤1048576;omega))
 have JU:(bc [(s.index:Int),((s.aj.n:Int):Int)]).size≤40:=by first|omega|(simp only[ByteArray.size_append];omega)
 generalize LW:bc [(s.index:Int),((s.aj.n:Int):Int)]=z0 at JU⊢
 refine Ml (σ:=Nat×ByteArray) (fun⟨i0,u0⟩=>i0≤s.aj.n∧u0=(s.abs.aj.take i0).foldl kY z0∧u0.size≤40+i0*5100) (fun⟨i0,u0⟩=>s.aj.n - i0) (fun _=>[]) [5,6,1] (fun⟨i0,u0⟩=>[(5,vS u0),(6,vI (i0:Int))]) (fun _=>[]) ?_ (⟨0,z0⟩) ⟨Nat.zero_le _,rfl,by show z0.size≤40+0*5100;omega⟩
 rintro⟨i0,u0⟩ ⟨EW,KI,OY⟩ _ bu
 have OZ:=nH i0
 have O0:(s.aj.at i0).line.xs.length≤3:=nH i0
 refine Md ((i0:Int)<(s.aj.n:Int)) (fun h2=>?_) fun h2=>?_
 ·refine Mi ?_ (pA 35 36 (i0:Int) i0 (s:=s.aj) (fun w hk hr=>(aJ.kp hs hk).1))
  refine cZ 20 [] [] [] ai ?_
  refine tw ?_ ?_
  ·have Sz:=cE (s.aj.at i0).name
   refine Mp ?_ call215 (fun bs w hS=>ij _ w (Sl.ok.at (s:=s.aj) (i:=i0) cC.1 (by omega)).1)
   refine bY ?_ (pP (u0.size+(bj (s.aj.at i0).name).size≤9223372036854775807) (by first|omega|(simp only[ByteArray.size_append];omega)))
   refine M1 ?_
   have O1:=bP [((s.aj.at i0).ar:Int),((s.aj.at i0).aA:Int),((((s.aj.at i0).line.n:Nat):Int):Int)]
   simp only[List.length_cons,List.length_nil]at O1
   refine Mp ?_ (v:=vs (bc [((s.aj.at i0).ar:Int),((s.aj.at i0).aA:Int),((((s.aj.at i0).line.n:Nat):Int):Int)])) call214 (fun bs w hS=>fh (⟨some ⟨bs.getD 3 0,0,none⟩,3,[((s.aj.at i0).ar:Int),((s.aj.at i0).aA:Int),((((s.aj.at i0).line.n:Nat):Int):Int)]⟩:Sl Int) w (eM [((s.aj.at i0).ar:Int),((s.aj.at i0).aA:Int),((((s.aj.at i0).line.n:Nat):Int):Int)] (hS.loc 3 ⟨3,[vI (s.aj.at i0).ar,vI (s.aj.at i0).aA,vI (((s.aj.at i0).line.n:Nat):Int)]⟩ (by kernel_rfl) (by simp)) (by simp)) (by show 3≤1048576;omega))
   refine bY ?_ (pP ((u0++(bj (s.aj.at i0).name)).size+(bc [((s.aj.at i0).ar:Int),((s.aj.at i0).aA:Int),((((s.aj.at i0).line.n:Nat):Int):Int)]).size≤9223372036854775807) (by first|omega|(simp only[ByteArray.size_append];omega)))
   have SA:=bP (s.aj.at i0).line.xs
   refine Mp ?_ call214 (fun bs w hS=>fh (s.aj.at i0).line w (Sl.rd.sub (s:=s.aj) (i:=i0) (aJ.kp hs hS.kp).1 (by omega)).2 (by omega))
   refine bY ?_ (pP (((u0++(bj (s.aj.at i0).name))++(bc [((s.aj.at i0).ar:Int),((s.aj.at i0).aA:Int),((((s.aj.at i0).line.n:Nat):Int):Int)])).size+(bc (s.aj.at i0).line.xs).size≤9223372036854775807) (by first|omega|(simp only[ByteArray.size_append];omega)))
   refine Mi ?_ (pR ((i0:Int)+1))
   have GB:((u0++(bj (s.aj.at i0).name))++(bc [((s.aj.at i0).ar:Int),((s.aj.at i0).aA:Int),((((s.aj.at i0).line.n:Nat):Int):Int)]))++(bc (s.aj.at i0).line.xs)=kY u0 (s.abs.aj.getD i0 default):=by
     rw[KH];rfl
   have GC:(((u0++(bj (s.aj.at i0).name))++(bc [((s.aj.at i0).ar:Int),((s.aj.at i0).aA:Int),((((s.aj.at i0).line.n:Nat):Int):Int)]))++(bc (s.aj.at i0).line.xs)).size≤40+(i0+1)*5100:=by simp only[ByteArray.size_append];omega
   exact bu ⟨i0+1,((u0++(bj (s.aj.at i0).name))++(bc [((s.aj.at i0).ar:Int),((s.aj.at i0).aA:Int),((((s.aj.at i0).line.n:Nat):Int):Int)]))++(bc (s.aj.at i0).line.xs)⟩ ⟨by show i0+1≤s.aj.n;omega,by show _=(s.abs.aj.take (i0+1)).foldl kY z0;rw[GB,KI];exact (eo (i:=i0) _ _ s.abs.aj (by omega)).symm,GC⟩ (by show s.aj.n - (i0+1)<s.aj.n - i0;omega)
  refine M1 ?_
  have SB:=cE (s.aj.at i0).name
  refine Mp ?_ call215 (fun bs w hS=>ij _ w (Sl.ok.at (s:=s.aj) (i:=i0) cC.1 (by omega)).1)
  refine bY ?_ (pP (u0.size+(bj (s.aj.at i0).name).size≤9223372036854775807) (by first|omega|(simp only[ByteArray.size_append];omega)))
  have O2:=bP [((s.aj.at i0).ar:Int),((s.aj.at i0).aA:Int),((((s.aj.at i0).line.n:Nat):Int):Int)]
  simp only[List.length_cons,List.length_nil]at O2
  refine Mp ?_ (v:=vs (bc [((s.aj.at i0).ar:Int),((s.aj.at i0).aA:Int),((((s.aj.at i0).line.n:Nat):Int):Int)])) call214 (fun bs w hS=>fh (⟨some ⟨bs.getD 3 0,0,none⟩,3,[((s.aj.at i0).ar:Int),((s.aj.at i0).aA:Int),((((s.aj.at i0).line.n:Nat):Int):Int)]⟩:Sl Int) w (eM [((s.aj.at i0).ar:Int),((s.aj.at i0).aA:Int),((((s.aj.at i0).line.n:Nat):Int):Int)] (hS.loc 3 ⟨3,[vI (s.aj.at i0).ar,vI (s.aj.at i0).aA,vI (((s.aj.at i0).line.n:Nat):Int)]⟩ (by kernel_rfl) (by simp)) (by simp)) (by show 3≤1048576;omega))
  refine bY ?_ (pP ((u0++(bj (s.aj.at i0).name)).size+(bc [((s.aj.at i0).ar:Int),((s.aj.at i0).aA:Int),((((s.aj.at i0).line.n:Nat):Int):Int)]).size≤9223372036854775807) (by first|omega|(simp only[ByteArray.size_append];omega)))
  have SC:=bP (s.aj.at i0).line.xs
  refine Mp ?_ call214 (fun bs w hS=>fh (s.aj.at i0).line w (Sl.rd.sub (s:=s.aj) (i:=i0) (aJ.kp hs hS.kp).1 (by omega)).2 (by omega))
  refine bY ?_ (pP (((u0++(bj (s.aj.at i0).name))++(bc [((s.aj.at i0).ar:Int),((s.aj.at i0).aA:Int),((((s.aj.at i0).line.n:Nat):Int):Int)])).size+(bc (s.aj.at i0).line.xs).size≤9223372036854775807) (by first|omega|(simp only[ByteArray.size_append];omega)))
  refine Mi ?_ (pR ((i0:Int)+1))
  have GB:((u0++(bj (s.aj.at i0).name))++(bc [((s.aj.at i0).ar:Int),((s.aj.at i0).aA:Int),((((s.aj.at i0).line.n:Nat):Int):Int)]))++(bc (s.aj.at i0).line.xs)=kY u0 (s.abs.aj.getD i0 default):=by
    rw[KH];rfl
  have GC:(((u0++(bj (s.aj.at i0).name))++(bc [((s.aj.at i0).ar:Int),((s.aj.at i0).aA:Int),((((s.aj.at i0).line.n:Nat):Int):Int)]))++(bc (s.aj.at i0).line.xs)).size≤40+(i0+1)*5100:=by simp only[ByteArray.size_append];omega
  exact bu ⟨i0+1,((u0++(bj (s.aj.at i0).name))++(bc [((s.aj.at i0).ar:Int),((s.aj.at i0).aA:Int),((((s.aj.at i0).line.n:Nat):Int):Int)]))++(bc (s.aj.at i0).line.xs)⟩ ⟨by show i0+1≤s.aj.n;omega,by show _=(s.abs.aj.take (i0+1)).foldl kY z0;rw[GB,KI];exact (eo (i:=i0) _ _ s.abs.aj (by omega)).symm,GC⟩ (by show s.aj.n - (i0+1)<s.aj.n - i0;omega)
 refine M1 ?_
 have O3:=bP [((s.an.n:Int):Int)]
 simp only[List.length_cons,List.length_nil]at O3
 refine Mp ?_ (v:=vs (bc [((s.an.n:Int):Int)])) call214 (fun bs w hS=>fh (⟨some ⟨bs.getD 2 0,0,none⟩,1,[((s.an.n:Int):Int)]⟩:Sl Int) w (eM [((s.an.n:Int):Int)] (hS.loc 2 ⟨3,[vI (s.an.n:Int)]⟩ (by kernel_rfl) (by simp)) (by simp)) (by show 1≤1048576;omega))
 refine Mi ?_ (pP (u0.size+(bc [((s.an.n:Int):Int)]).size≤9223372036854775807) (by first|omega|(simp only[ByteArray.size_append];omega)))
 have JV:(u0++(bc [((s.an.n:Int):Int)])).size≤30000:=by first|omega|(simp only[ByteArray.size_append];omega)
 generalize KE:u0++(bc [((s.an.n:Int):Int)])=z1 at JV⊢
 refine Ml (σ:=Nat×ByteArray) (fun⟨i1,u1⟩=>i1≤s.an.n∧u1=(s.an.xs.take i1).foldl kD z1∧u1.size≤30000+i1*10100) (fun⟨i1,u1⟩=>s.an.n - i1) (fun _=>[]) [5,8,1] (fun⟨i1,u1⟩=>[(5,vS u1),(8,vI (i1:Int))]) (fun _=>[]) ?_ (⟨0,z1⟩) ⟨Nat.zero_le _,rfl,by show z1.size≤30000+0*10100;omega⟩
 rintro⟨i1,u1⟩ ⟨wo,JW,O4⟩ _ j8
 refine Md ((i1:Int)<(s.an.n:Int)) (fun h3=>?_) fun h3=>?_
 ·refine cZ 27 [] [] [] ai ?_
  refine bY ?_ (pc (pI 74 (i1:Int) i1 (s:=s.an) (fun w hk hr=>(aJ.kp hs hk).2.1)) (pc (pF 76 i1 0 1 (s:=s.an) (fun w hk hr=>(aJ.kp hs hk).2.1)) (pc (pI 82 (i1:Int) i1 (s:=s.an) (fun w hk hr=>(aJ.kp hs hk).2.1)) (pc (pF 84 i1 1 1 (s:=s.an) (fun w hk hr=>(aJ.kp hs hk).2.1)) (pc (pI 90 (i1:Int) i1 (s:=s.an) (fun w hk hr=>(aJ.kp hs hk).2.1)) (pF 92 i1 2 1 (s:=s.an) (fun w hk hr=>(aJ.kp hs hk).2.1)))))))
  refine tw ?_ ?_
  ·have SD:=cE (s.an.at i1).name
   refine Mp ?_ call215 (fun bs w hS=>ij _ w (Sl.ok.at (s:=s.an) (i:=i1) cC.2.1 (by omega)).1)
   refine bY ?_ (pP (u1.size+(bj (s.an.at i1).name).size≤9223372036854775807) (by first|omega|(simp only[ByteArray.size_append];omega)))
   refine tw ?_ ?_
   ·have QV:=cE (s.an.at i1).value
    refine Mp ?_ call215 (fun bs w hS=>ij _ w (Sl.ok.at (s:=s.an) (i:=i1) cC.2.1 (by omega)).2)
    refine bY ?_ (pP ((u1++(bj (s.an.at i1).name)).size+(bj (s.an.at i1).value).size≤9223372036854775807) (by first|omega|(simp only[ByteArray.size_append];omega)))
    refine M1 ?_
    have MH:=bP [((s.an.at i1).version:Int)]
    simp only[List.length_cons,List.length_nil]at MH
    refine Mp ?_ (v:=vs (bc [((s.an.at i1).version:Int)])) call214 (fun bs w hS=>fh (⟨some ⟨bs.getD 3 0,0,none⟩,1,[((s.an.at i1).version:Int)]⟩:Sl Int) w (eM [((s.an.at i1).version:Int)] (hS.loc 3 ⟨3,[vI (s.an.at i1).version]⟩ (by kernel_rfl) (by simp)) (by simp)) (by show 1≤1048576;omega))
    refine bY ?_ (pP (((u1++(bj (s.an.at i1).name))++(bj (s.an.at i1).value)).size+(bc [((s.an.at i1).version:Int)]).size≤9223372036854775807) (by first|omega|(simp only[ByteArray.size_append];omega)))
    refine Mi ?_ (pR ((i1:Int)+1))
    have B5:((u1++(bj (s.an.at i1).name))++(bj (s.an.at i1).value))++(bc [((s.an.at i1).version:Int)])=kD u1 (s.an.xs.getD i1 default):=by
      rfl
    have B6:(((u1++(bj (s.an.at i1).name))++(bj (s.an.at i1).value))++(bc [((s.an.at i1).version:Int)])).size≤30000+(i1+1)*10100:=by simp only[ByteArray.size_append];omega
    exact j8 ⟨i1+1,((u1++(bj (s.an.at i1).name))++(bj (s.an.at i1).value))++(bc [((s.an.at i1).version:Int)])⟩ ⟨by show i1+1≤s.an.n;omega,by show _=(s.an.xs.take (i1+1)).foldl kD z1;rw[B5,JW];exact (eo (i:=i1) _ _ s.an.xs (by omega)).symm,B6⟩ (by show s.an.n - (i1+1)<s.an.n - i1;omega)
   refine M1 ?_
   have QW:=cE (s.an.at i1).value
   refine Mp ?_ call215 (fun bs w hS=>ij _ w (Sl.ok.at (s:=s.an) (i:=i1) cC.2.1 (by omega)).2)
   refine bY ?_ (pP ((u1++(bj (s.an.at i1).name)).size+(bj (s.an.at i1).value).size≤9223372036854775807) (by first|omega|(simp only[ByteArray.size_append];omega)))
   have MI:=bP [((s.an.at i1).version:Int)]
   simp only[List.length_cons,List.length_nil]at MI
   refine Mp ?_ (v:=vs (bc [((s.an.at i1).version:Int)])) call214 (fun bs w hS=>fh (⟨some ⟨bs.getD 3 0,0,none⟩,1,[((s.an.at i1).version:Int)]⟩:Sl Int) w (eM [((s.an.at i1).version:Int)] (hS.loc 3 ⟨3,[vI (s.an.at i1).version]⟩ (by kernel_rfl) (by simp)) (by simp)) (by show 1≤1048576;omega))
   refine bY ?_ (pP (((u1++(bj (s.an.at i1).name))++(bj (s.an.at i1).value)).size+(bc [((s.an.at i1).version:Int)]).size≤9223372036854775807) (by first|omega|(simp only[ByteArray.size_append];omega)))
   refine Mi ?_ (pR ((i1:Int)+1))
   have B5:((u1++(bj (s.an.at i1).name))++(bj (s.an.at i1).value))++(bc [((s.an.at i1).version:Int)])=kD u1 (s.an.xs.getD i1 default):=by
     rfl
   have B6:(((u1++(bj (s.an.at i1).name))++(bj (s.an.at i1).value))++(bc [((s.an.at i1).version:Int)])).size≤30000+(i1+1)*10100:=by simp only[ByteArray.size_append];omega
   exact j8 ⟨i1+1,((u1++(bj (s.an.at i1).name))++(bj (s.an.at i1).value))++(bc [((s.an.at i1).version:Int)])⟩ ⟨by show i1+1≤s.an.n;omega,by show _=(s.an.xs.take (i1+1)).foldl kD z1;rw[B5,JW];exact (eo (i:=i1) _ _ s.an.xs (by omega)).symm,B6⟩ (by show s.an.n - (i1+1)<s.an.n - i1;omega)
  refine M1 ?_
  have QX:=cE (s.an.at i1).name
  refine Mp ?_ call215 (fun bs w hS=>ij _ w (Sl.ok.at (s:=s.an) (i:=i1) cC.2.1 (by omega)).1)
  refine bY ?_ (pP (u1.size+(bj (s.an.at i1).name).size≤9223372036854775807) (by first|omega|(simp only[ByteArray.size_append];omega)))
  have QY:=cE (s.an.at i1).value
  refine Mp ?_ call215 (fun bs w hS=>ij _ w (Sl.ok.at (s:=s.an) (i:=i1) cC.2.1 (by omega)).2)
  refine bY ?_ (pP ((u1++(bj (s.an.at i1).name)).size+(bj (s.an.at i1).value).size≤9223372036854775807) (by first|omega|(simp only[ByteArray.size_append];omega)))
  have MJ:=bP [((s.an.at i1).version:Int)]
  simp only[List.length_cons,List.length_nil]at MJ
  refine Mp ?_ (v:=vs (bc [((s.an.at i1).version:Int)])) call214 (fun bs w hS=>fh (⟨some ⟨bs.getD 3 0,0,none⟩,1,[((s.an.at i1).version:Int)]⟩:Sl Int) w (eM [((s.an.at i1).version:Int)] (hS.loc 3 ⟨3,[vI (s.an.at i1).version]⟩ (by kernel_rfl) (by simp)) (by simp)) (by show 1≤1048576;omega))
  refine bY ?_ (pP (((u1++(bj (s.an.at i1).name))++(bj (s.an.at i1).value)).size+(bc [((s.an.at i1).version:Int)]).size≤9223372036854775807) (by first|omega|(simp only[ByteArray.size_append];omega)))
  refine Mi ?_ (pR ((i1:Int)+1))
  have B5:((u1++(bj (s.an.at i1).name))++(bj (s.an.at i1).value))++(bc [((s.an.at i1).version:Int)])=kD u1 (s.an.xs.getD i1 default):=by
    rfl
  have B6:(((u1++(bj (s.an.at i1).name))++(bj (s.an.at i1).value))++(bc [((s.an.at i1).version:Int)])).size≤30000+(i1+1)*10100:=by simp only[ByteArray.size_append];omega
  exact j8 ⟨i1+1,((u1++(bj (s.an.at i1).name))++(bj (s.an.at i1).value))++(bc [((s.an.at i1).version:Int)])⟩ ⟨by show i1+1≤s.an.n;omega,by show _=(s.an.xs.take (i1+1)).foldl kD z1;rw[B5,JW];exact (eo (i:=i1) _ _ s.an.xs (by omega)).symm,B6⟩ (by show s.an.n - (i1+1)<s.an.n - i1;omega)
 refine M1 ?_
 have MK:=bP [((s.af.n:Int):Int)]
 simp only[List.length_cons,List.length_nil]at MK
 refine Mp ?_ (v:=vs (bc [((s.af.n:Int):Int)])) call214 (fun bs w hS=>fh (⟨some ⟨bs.getD 3 0,0,none⟩,1,[((s.af.n:Int):Int)]⟩:Sl Int) w (eM [((s.af.n:Int):Int)] (hS.loc 3 ⟨3,[vI (s.af.n:Int)]⟩ (by kernel_rfl) (by simp)) (by simp)) (by show 1≤1048576;omega))
 refine Mi ?_ (pP (u1.size+(bc [((s.af.n:Int):Int)]).size≤9223372036854775807) (by first|omega|(simp only[ByteArray.size_append];omega)))
 have JX:(u1++(bc [((s.af.n:Int):Int)])).size≤100000:=by first|omega|(simp only[ByteArray.size_append];omega)
 generalize NM:u1++(bc [((s.af.n:Int):Int)])=z2 at JX⊢
 refine Ml (σ:=Nat×ByteArray) (fun⟨i2,u2⟩=>i2≤s.af.n∧u2=(s.abs.af.take i2).foldl nu z2∧u2.size≤100000+i2*30000) (fun⟨i2,u2⟩=>s.af.n - i2) (fun _=>[]) [5,9,1] (fun⟨i2,u2⟩=>[(5,vS u2),(9,vI (i2:Int))]) (fun _=>[]) ?_ (⟨0,z2⟩) ⟨Nat.zero_le _,rfl,by show z2.size≤100000+0*30000;omega⟩
 rintro⟨i2,u2⟩ ⟨E2,sh,O5⟩ _ o6
 have O6:=va i2
 have SE:(s.af.at i2).ab.n=(s.af.at i2).ab.xs.length:=rfl
 refine Md ((i2:Int)<(s.af.n:Int)) (fun h4=>?_) fun h4=>?_
 rotate_left
 ·have QZ:(gE u2).size=4:=fA _
  refine Mp ?_ (vs:=fun bs=>[vs u2]) call158 (fun bs w hS=>vo _ w (by first|assumption|omega|(simp only[aL];omega)))
  refine Mi ?_ (pP (u2.size+(gE u2).size≤9223372036854775807) (by first|omega|(simp only[ByteArray.size_append];omega)))
  refine Mt [vs (u2++(gE u2)),vi 0] fun bs w hS=>?_
  refine⟨?_,hS.kp⟩
  have hb:u2=jg s.abs:=by
    unfold jg
    rw[sh,List.take_of_length_le (by omega), ←NM,JW,List.take_of_length_le (by omega), ←KE,KI,List.take_of_length_le (by omega), ←LW]
    skip
    rw[gB,OW,hle]
    rfl
  unfold gH
  rw[if_pos (by assumption), ←hb]
  rfl
 refine Mi ?_ (pA 113 114 (i2:Int) i2 (s:=s.af) (fun w hk hr=>(aJ.kp hs hk).2.2))
 refine M1 ?_
 have ML:=bP [((s.af.at i2).ag:Int),((s.af.at i2).id:Int),((s.af.at i2).aC:Int),((s.af.at i2).last:Int),((((s.af.at i2).ab.n:Nat):Int):Int)]
 simp only[List.length_cons,List.length_nil]at ML
 refine Mp ?_ (v:=vs (bc [((s.af.at i2).ag:Int),((s.af.at i2).id:Int),((s.af.at i2).aC:Int),((s.af.at i2).last:Int),((((s.af.at i2).ab.n:Nat):Int):Int)])) call214 (fun bs w hS=>fh (⟨some ⟨bs.getD 5 0,0,none⟩,5,[((s.af.at i2).ag:Int),((s.af.at i2).id:Int),((s.af.at i2).aC:Int),((s.af.at i2).last:Int),((((s.af.at i2).ab.n:Nat):Int):Int)]⟩:Sl Int) w (eM [((s.af.at i2).ag:Int),((s.af.at i2).id:Int),((s.af.at i2).aC:Int),((s.af.at i2).last:Int),((((s.af.at i2).ab.n:Nat):Int):Int)] (hS.loc 5 ⟨3,[vI (s.af.at i2).ag,vI (s.af.at i2).id,vI (s.af.at i2).aC,vI (s.af.at i2).last,vI (((s.af.at i2).ab.n:Nat):Int)]⟩ (by kernel_rfl) (by simp)) (by simp)) (by show 5≤1048576;omega))
 refine Mi ?_ (pP (u2.size+(bc [((s.af.at i2).ag:Int),((s.af.at i2).id:Int),((s.af.at i2).aC:Int),((s.af.at i2).last:Int),((((s.af.at i2).ab.n:Nat):Int):Int)]).size≤9223372036854775807) (by first|omega|(simp only[ByteArray.size_append];omega)))
 have JY:(u2++(bc [((s.af.at i2).ag:Int),((s.af.at i2).id:Int),((s.af.at i2).aC:Int),((s.af.at i2).last:Int),((((s.af.at i2).ab.n:Nat):Int):Int)])).size≤100030+i2*30000:=by first|omega|(simp only[ByteArray.size_append];omega)
 generalize NN:u2++(bc [((s.af.at i2).ag:Int),((s.af.at i2).id:Int),((s.af.at i2).aC:Int),((s.af.at i2).last:Int),((((s.af.at i2).ab.n:Nat):Int):Int)])=z3 at JY⊢
 refine Ml (σ:=Nat×ByteArray) (fun⟨i3,u3⟩=>i3≤(s.af.at i2).ab.n∧u3=((s.af.at i2).ab.xs.take i3).foldl nt z3∧u3.size≤100030+i2*30000+i3*5100) (fun⟨i3,u3⟩=>(s.af.at i2).ab.n - i3) (fun _=>[]) [5,11,10,9,1] (fun⟨i3,u3⟩=>[(5,vS u3),(11,vI (i3:Int))]) (fun _=>[]) ?_ (⟨0,z3⟩) ⟨Nat.zero_le _,rfl,by show z3.size≤100030+i2*30000+0*5100;omega⟩
 rintro⟨i3,u3⟩ ⟨yT,JZ,O7⟩ _ sK
 refine Md ((i3:Int)<(((s.af.at i2).ab.n:Nat):Int)) (fun h5=>?_) fun h5=>?_
 rotate_left
 ·refine Mi ?_ (pR ((i2:Int)+1))
  have J0:u3=nu u2 (s.abs.af.getD i2 default):=by
    rw[MG,JZ,List.take_of_length_le (by omega), ←NN]
    rfl
  have J1:(u3).size≤100000+(i2+1)*30000:=by omega
  exact o6 ⟨i2+1,u3⟩ ⟨by show i2+1≤s.af.n;omega,by show _=(s.abs.af.take (i2+1)).foldl nu z2;rw[J0,sh];exact (eo (i:=i2) _ _ s.abs.af (by omega)).symm,J1⟩ (by show s.af.n - (i2+1)<s.af.n - i2;omega)
 refine Mi ?_ (pA 140 141 (i3:Int) i3 (s:=(s.af.at i2).ab) (fun w hk hr=>(Sl.rd.sub (s:=s.af) (i:=i2) (aJ.kp hs hk).2.2 (by omega))))
 refine cZ 18 [] [] [] ai ?_
 refine M1 ?_
 have MM:=bP [(((s.af.at i2).ab.at i3).seq:Int),(((s.af.at i2).ab.at i3).aE.code:Int),(((s.af.at i2).ab.at i3).aE.n:Int)]
 simp only[List.length_cons,List.length_nil]at MM
 refine Mp ?_ (v:=vs (bc [(((s.af.at i2).ab.at i3).seq:Int),(((s.af.at i2).ab.at i3).aE.code:Int),(((s.af.at i2).ab.at i3).aE.n:Int)])) call214 (fun bs w hS=>fh (⟨some ⟨bs.getD 7 0,0,none⟩,3,[(((s.af.at i2).ab.at i3).seq:Int),(((s.af.at i2).ab.at i3).aE.code:Int),(((s.af.at i2).ab.at i3).aE.n:Int)]⟩:Sl Int) w (eM [(((s.af.at i2).ab.at i3).seq:Int),(((s.af.at i2).ab.at i3).aE.code:Int),(((s.af.at i2).ab.at i3).aE.n:Int)] (hS.loc 7 ⟨3,[vI ((s.af.at i2).ab.at i3).seq,vI ((s.af.at i2).ab.at i3).aE.code,vI ((s.af.at i2).ab.at i3).aE.n]⟩ (by kernel_rfl) (by simp)) (by simp)) (by show 3≤1048576;omega))
 refine bY ?_ (pP (u3.size+(bc [(((s.af.at i2).ab.at i3).seq:Int),(((s.af.at i2).ab.at i3).aE.code:Int),(((s.af.at i2).ab.at i3).aE.n:Int)]).size≤9223372036854775807) (by first|omega|(simp only[ByteArray.size_append];omega)))
 have Q4:=cE ((s.af.at i2).ab.at i3).aE.text
 refine Mp ?_ call215 (fun bs w hS=>ij _ w (Sl.ok.at (s:=(s.af.at i2).ab) (i:=i3) (Sl.ok.at (s:=s.af) (i:=i2) cC.2.2 (by omega)) (by omega)))
 refine bY ?_ (pP ((u3++(bc [(((s.af.at i2).ab.at i3).seq:Int),(((s.af.at i2).ab.at i3).aE.code:Int),(((s.af.at i2).ab.at i3).aE.n:Int)])).size+(bj ((s.af.at i2).ab.at i3).aE.text).size≤9223372036854775807) (by first|omega|(simp only[ByteArray.size_append];omega)))
 refine Mi ?_ (pR ((i3:Int)+1))
 have J2:(u3++(bc [(((s.af.at i2).ab.at i3).seq:Int),(((s.af.at i2).ab.at i3).aE.code:Int),(((s.af.at i2).ab.at i3).aE.n:Int)]))++(bj ((s.af.at i2).ab.at i3).aE.text)=nt u3 ((s.af.at i2).ab.xs.getD i3 default):=by
   rfl
 have J3:((u3++(bc [(((s.af.at i2).ab.at i3).seq:Int),(((s.af.at i2).ab.at i3).aE.code:Int),(((s.af.at i2).ab.at i3).aE.n:Int)]))++(bj ((s.af.at i2).ab.at i3).aE.text)).size≤100030+i2*30000+(i3+1)*5100:=by simp only[ByteArray.size_append];omega
 exact sK ⟨i3+1,(u3++(bc [(((s.af.at i2).ab.at i3).seq:Int),(((s.af.at i2).ab.at i3).aE.code:Int),(((s.af.at i2).ab.at i3).aE.n:Int)]))++(bj ((s.af.at i2).ab.at i3).aE.text)⟩ ⟨by show i3+1≤(s.af.at i2).ab.n;omega,by show _=((s.af.at i2).ab.xs.take (i3+1)).foldl nt z3;rw[J2,JZ];exact (eo (i:=i3) _ _ (s.af.at i2).ab.xs (by omega)).symm,J3⟩ (by show (s.af.at i2).ab.n - (i3+1)<(s.af.at i2).ab.n - i3;omega)
theorem Ax (s:aN)(w:World)(hs:aJ.sub B w s):Calls prog 207 #[s.val] w fun e w'=>e=.returned (.tuple #[.string (gH s.abs).1,.int .i64 (gH s.abs).2])∧Kp [] w w':=by
 have Su:emp.size=0:=rfl
 have cC:=aJ.bL hs
 have cV:=cC.1
 have OU:=cC.2.1
 have OV:=cC.2.2
 have iV:=Sl.ok.nc cV
 have Sv:=Sl.ok.nc OU
 have Sw:=Sl.ok.nc OV
 have iW:s.aj.n=s.aj.xs.length:=rfl
 have Sx:s.an.n=s.an.xs.length:=rfl
 have lr:s.af.n=s.af.xs.length:=rfl
 have gB:s.abs.aj.length=s.aj.n:=List.length_map _
 have OW:s.abs.an.length=s.an.n:=rfl
 have hle:s.abs.af.length=s.af.n:=List.length_map _
 have KH: ∀q,s.abs.aj.getD q dd=(s.aj.at q).abs:=fun q=>pH q
 have Sy: ∀q,s.abs.an.getD q dd=s.an.at q:=fun _=>rfl
 have MG: ∀q,s.abs.af.getD q dd=(s.af.at q).abs:=fun q=>lb q
 refine M0 ?_ func207
 refine Mp ?_ call20 (fun bs w hS=>kt s w (aJ.kp hs hS.kp))
 refine cr (bA s.abs=0) (fun h1=>?_) fun h1=>?_
 rotate_left
 ·refine Mt [ve,vi (bA s.abs)] fun bs w hS=>?_
  refine⟨?_,hS.kp⟩
  unfold gH
  rw[if_neg (by assumption)]
  rfl
 have xy:=mJ (x:=s.abs) (by assumption)
 have gU:=xy.1
 have gT:=xy.2.1
 have jB:=xy.2.2.1
 have nH: ∀q,(s.aj.at q).line.n≤3:=fun q=>by
   by_cases hq:q<s.aj.n
   ·have:=xy.2.2.2.1 q (by rw[gB];exact hq);rw[KH]at this;exact this
   ·rw[xV hq];show 0≤3;omega
 have va: ∀q,(s.af.at q).ab.n≤4:=fun q=>by
   by_cases hq:q<s.af.n
   ·have:=xy.2.2.2.2 q (by rw[hle];exact hq);rw[MG]at this;exact this
   ·rw[xV hq];show 0≤4;omega
 refine M1 ?_
 have O8:=bP [(s.index:Int),((s.aj.n:Int):Int)]
 simp only[List.length_cons,List.length_nil]at O8
 refine Mo 1 ?_ (vs:=fun bs=>[.pointer (some (kv bs 1 0)),.slice (some (kv bs 2 0)) 2 2]) (cs':=fun _=>[vs (emp++bc [(s.index:Int),((s.aj.n:Int):Int)])]) call230 (fun bs w hS hb=>gg emp (⟨some ⟨bs.getD 2 0,0,none⟩,2,[(s.index:Int),((s.aj.n:Int):Int)]⟩:Sl Int) (bs.getD 1 0) w hb (eM [(s.index:Int),((s.aj.n:Int):Int)] (hS.loc 2 ⟨3,[vI s.index,vI (s.aj.n:Int)]⟩ (by kernel_rfl) (by simp)) (by simp)) (by show 2≤1048576;omega) (by first|omega|(simp only[ByteArray.size_append];omega)))
 rintro y _
 have JU:(emp++bc [(s.index:Int),((s.aj.n:Int):Int)]).size≤40:=by first|omega|(simp only[ByteArray.size_append];omega)
 generalize LW:emp++bc [(s.index:Int),((s.aj.n:Int):Int)]=z0 at JU⊢
 refine Ml (σ:=Nat×ByteArray) (fun⟨i0,u0⟩=>i0≤s.aj.n∧u0=(s.abs.aj.take i0).foldl kY z0∧u0.size≤40+i0*5100) (fun⟨i0,u0⟩=>s.aj.n - i0) (fun _=>[]) [32,31,30,5,1] (fun⟨i0,u0⟩=>[(32,vI (i0:Int))]) (fun⟨i0,u0⟩=>[(1,[vS u0])]) ?_ (⟨0,z0⟩) ⟨Nat.zero_le _,rfl,by show z0.size≤40+0*5100;omega⟩
 rintro⟨i0,u0⟩ ⟨EW,KI,OY⟩ _ bu
 have OZ:=nH i0
 have O0:(s.aj.at i0).line.xs.length≤3:=nH i0
 refine Md ((i0:Int)<(s.aj.n:Int)) (fun h2=>?_) fun h2=>?_
 ·refine Mi ?_ (pA 34 35 (i0:Int) i0 (s:=s.aj) (fun w hk hr=>(aJ.kp hs hk).1))
  have SF:=cE (s.aj.at i0).name
  refine Mo 1 ?_ call231 (fun bs w hS hb=>o8 u0 (s.aj.at i0).name (bs.getD 1 0) w hb (Sl.ok.at (s:=s.aj) (i:=i0) cC.1 (by omega)).1 (by first|omega|(simp only[ByteArray.size_append];omega)))
  rintro y _
  refine M1 ?_
  have O9:=bP [((s.aj.at i0).ar:Int),((s.aj.at i0).aA:Int),((((s.aj.at i0).line.n:Nat):Int):Int)]
  simp only[List.length_cons,List.length_nil]at O9
  refine Mo 1 ?_ (vs:=fun bs=>[.pointer (some (kv bs 1 0)),.slice (some (kv bs 4 0)) 3 3]) (cs':=fun _=>[vs (u0++bj (s.aj.at i0).name++bc [((s.aj.at i0).ar:Int),((s.aj.at i0).aA:Int),((((s.aj.at i0).line.n:Nat):Int):Int)])]) call230 (fun bs w hS hb=>gg (u0++bj (s.aj.at i0).name) (⟨some ⟨bs.getD 4 0,0,none⟩,3,[((s.aj.at i0).ar:Int),((s.aj.at i0).aA:Int),((((s.aj.at i0).line.n:Nat):Int):Int)]⟩:Sl Int) (bs.getD 1 0) w hb (eM [((s.aj.at i0).ar:Int),((s.aj.at i0).aA:Int),((((s.aj.at i0).line.n:Nat):Int):Int)] (hS.loc 4 ⟨3,[vI (s.aj.at i0).ar,vI (s.aj.at i0).aA,vI (((s.aj.at i0).line.n:Nat):Int)]⟩ (by kernel_rfl) (by simp)) (by simp)) (by show 3≤1048576;omega) (by first|omega|(simp only[ByteArray.size_append];omega)))
  rintro y _
  have SG:=bP (s.aj.at i0).line.xs
  refine Mo 1 ?_ call230 (fun bs w hS hb=>gg (u0++bj (s.aj.at i0).name++bc [((s.aj.at i0).ar:Int),((s.aj.at i0).aA:Int),((((s.aj.at i0).line.n:Nat):Int):Int)]) (s.aj.at i0).line (bs.getD 1 0) w hb (Sl.rd.sub (s:=s.aj) (i:=i0) (aJ.kp hs hS.kp).1 (by omega)).2 (by omega) (by first|omega|(simp only[ByteArray.size_append];omega)))
  rintro y _
  refine Mi ?_ (pR ((i0:Int)+1))
  have GB:u0++bj (s.aj.at i0).name++bc [((s.aj.at i0).ar:Int),((s.aj.at i0).aA:Int),((((s.aj.at i0).line.n:Nat):Int):Int)]++bc (s.aj.at i0).line.xs=kY u0 (s.abs.aj.getD i0 dd):=by
    rw[KH];rfl
  have GC:(u0++bj (s.aj.at i0).name++bc [((s.aj.at i0).ar:Int),((s.aj.at i0).aA:Int),((((s.aj.at i0).line.n:Nat):Int):Int)]++bc (s.aj.at i0).line.xs).size≤40+(i0+1)*5100:=by simp only[ByteArray.size_append];omega
  exact bu ⟨i0+1,u0++bj (s.aj.at i0).name++bc [((s.aj.at i0).ar:Int),((s.aj.at i0).aA:Int),((((s.aj.at i0).line.n:Nat):Int):Int)]++bc (s.aj.at i0).line.xs⟩ ⟨by show i0+1≤s.aj.n;omega,by show _=(s.abs.aj.take (i0+1)).foldl kY z0;rw[GB,KI];exact (eo (i:=i0) _ _ s.abs.aj (by omega)).symm,GC⟩ (by show s.aj.n - (i0+1)<s.aj.n - i0;omega)
 refine M1 ?_
 have Pa:=bP [((s.an.n:Int):Int)]
 simp only[List.length_cons,List.length_nil]at Pa
 refine Mo 1 ?_ (vs:=fun bs=>[.pointer (some (kv bs 1 0)),.slice (some (kv bs 3 0)) 1 1]) (cs':=fun _=>[vs (u0++bc [((s.an.n:Int):Int)])]) call230 (fun bs w hS hb=>gg u0 (⟨some ⟨bs.getD 3 0,0,none⟩,1,[((s.an.n:Int):Int)]⟩:Sl Int) (bs.getD 1 0) w hb (eM [((s.an.n:Int):Int)] (hS.loc 3 ⟨3,[vI (s.an.n:Int)]⟩ (by kernel_rfl) (by simp)) (by simp)) (by show 1≤1048576;omega) (by first|omega|(simp only[ByteArray.size_append];omega)))
 rintro y _
 have JV:(u0++bc [((s.an.n:Int):Int)]).size≤30000:=by first|omega|(simp only[ByteArray.size_append];omega)
 generalize KE:u0++bc [((s.an.n:Int):Int)]=z1 at JV⊢
 refine Ml (σ:=Nat×ByteArray) (fun⟨i1,u1⟩=>i1≤s.an.n∧u1=(s.an.xs.take i1).foldl kD z1∧u1.size≤30000+i1*10100) (fun⟨i1,u1⟩=>s.an.n - i1) (fun _=>[]) [64,63,62,5,1] (fun⟨i1,u1⟩=>[(64,vI (i1:Int))]) (fun⟨i1,u1⟩=>[(1,[vS u1])]) ?_ (⟨0,z1⟩) ⟨Nat.zero_le _,rfl,by show z1.size≤30000+0*10100;omega⟩
 rintro⟨i1,u1⟩ ⟨wo,JW,O4⟩ _ j8
 refine Md ((i1:Int)<(s.an.n:Int)) (fun h3=>?_) fun h3=>?_
 ·refine Mi ?_ (pA 66 67 (i1:Int) i1 (s:=s.an) (fun w hk hr=>(aJ.kp hs hk).2.1))
  have Q5:=cE (s.an.at i1).name
  refine Mo 1 ?_ call231 (fun bs w hS hb=>o8 u1 (s.an.at i1).name (bs.getD 1 0) w hb (Sl.ok.at (s:=s.an) (i:=i1) cC.2.1 (by omega)).1 (by first|omega|(simp only[ByteArray.size_append];omega)))
  rintro y _
  have Q6:=cE (s.an.at i1).value
  refine Mo 1 ?_ call231 (fun bs w hS hb=>o8 (u1++bj (s.an.at i1).name) (s.an.at i1).value (bs.getD 1 0) w hb (Sl.ok.at (s:=s.an) (i:=i1) cC.2.1 (by omega)).2 (by first|omega|(simp only[ByteArray.size_append];omega)))
  rintro y _
  refine M1 ?_
  have MN:=bP [((s.an.at i1).version:Int)]
  simp only[List.length_cons,List.length_nil]at MN
  refine Mo 1 ?_ (vs:=fun bs=>[.pointer (some (kv bs 1 0)),.slice (some (kv bs 5 0)) 1 1]) (cs':=fun _=>[vs (u1++bj (s.an.at i1).name++bj (s.an.at i1).value++bc [((s.an.at i1).version:Int)])]) call230 (fun bs w hS hb=>gg (u1++bj (s.an.at i1).name++bj (s.an.at i1).value) (⟨some ⟨bs.getD 5 0,0,none⟩,1,[((s.an.at i1).version:Int)]⟩:Sl Int) (bs.getD 1 0) w hb (eM [((s.an.at i1).version:Int)] (hS.loc 5 ⟨3,[vI (s.an.at i1).version]⟩ (by kernel_rfl) (by simp)) (by simp)) (by show 1≤1048576;omega) (by first|omega|(simp only[ByteArray.size_append];omega)))
  rintro y _
  refine Mi ?_ (pR ((i1:Int)+1))
  have B5:u1++bj (s.an.at i1).name++bj (s.an.at i1).value++bc [((s.an.at i1).version:Int)]=kD u1 (s.an.xs.getD i1 dd):=by
    rfl
  have B6:(u1++bj (s.an.at i1).name++bj (s.an.at i1).value++bc [((s.an.at i1).version:Int)]).size≤30000+(i1+1)*10100:=by simp only[ByteArray.size_append];omega
  exact j8 ⟨i1+1,u1++bj (s.an.at i1).name++bj (s.an.at i1).value++bc [((s.an.at i1).version:Int)]⟩ ⟨by show i1+1≤s.an.n;omega,by show _=(s.an.xs.take (i1+1)).foldl kD z1;rw[B5,JW];exact (eo (i:=i1) _ _ s.an.xs (by omega)).symm,B6⟩ (by show s.an.n - (i1+1)<s.an.n - i1;omega)
 refine M1 ?_
 have MO:=bP [((s.af.n:Int):Int)]
 simp only[List.length_cons,List.length_nil]at MO
 refine Mo 1 ?_ (vs:=fun bs=>[.pointer (some (kv bs 1 0)),.slice (some (kv bs 4 0)) 1 1]) (cs':=fun _=>[vs (u1++bc [((s.af.n:Int):Int)])]) call230 (fun bs w hS hb=>gg u1 (⟨some ⟨bs.getD 4 0,0,none⟩,1,[((s.af.n:Int):Int)]⟩:Sl Int) (bs.getD 1 0) w hb (eM [((s.af.n:Int):Int)] (hS.loc 4 ⟨3,[vI (s.af.n:Int)]⟩ (by kernel_rfl) (by simp)) (by simp)) (by show 1≤1048576;omega) (by first|omega|(simp only[ByteArray.size_append];omega)))
 rintro y _
 have JX:(u1++bc [((s.af.n:Int):Int)]).size≤100000:=by first|omega|(simp only[ByteArray.size_append];omega)
 generalize NM:u1++bc [((s.af.n:Int):Int)]=z2 at JX⊢
 refine Ml (σ:=Nat×ByteArray) (fun⟨i2,u2⟩=>i2≤s.af.n∧u2=(s.abs.af.take i2).foldl nu z2∧u2.size≤100000+i2*30000) (fun⟨i2,u2⟩=>s.af.n - i2) (fun _=>[]) [91,90,89,5] (fun⟨i2,u2⟩=>[(91,vI (i2:Int))]) (fun⟨i2,u2⟩=>[(1,[vS u2])]) ?_ (⟨0,z2⟩) ⟨Nat.zero_le _,rfl,by show z2.size≤100000+0*30000;omega⟩
 rintro⟨i2,u2⟩ ⟨E2,sh,O5⟩ _ o6
 have O6:=va i2
 have SE:(s.af.at i2).ab.n=(s.af.at i2).ab.xs.length:=rfl
 refine Md ((i2:Int)<(s.af.n:Int)) (fun h4=>?_) fun h4=>?_
 rotate_left
 ·refine cZ 12 [] [] [] ai ?_
  have Q7:(gE u2).size=4:=fA _
  refine Mp ?_ (vs:=fun bs=>[vs u2]) call198 (fun bs w hS=>vm _ w (by first|assumption|omega|(simp only[aL];omega)))
  refine bY ?_ (pP (u2.size+(gE u2).size≤9223372036854775807) (by first|omega|(simp only[ByteArray.size_append];omega)))
  refine Mt [vs (u2++(gE u2)),vi 0] fun bs w hS=>?_
  refine⟨?_,hS.kp⟩
  have hb:u2=jg s.abs:=by
    unfold jg
    rw[sh,List.take_of_length_le (by omega), ←NM,JW,List.take_of_length_le (by omega), ←KE,KI,List.take_of_length_le (by omega), ←LW]
    simp only[pB]
    rw[gB,OW,hle]
    rfl
  unfold gH
  rw[if_pos (by assumption), ←hb]
  rfl
 refine Mi ?_ (pA 93 94 (i2:Int) i2 (s:=s.af) (fun w hk hr=>(aJ.kp hs hk).2.2))
 refine M1 ?_
 have MP:=bP [((s.af.at i2).ag:Int),((s.af.at i2).id:Int),((s.af.at i2).aC:Int),((s.af.at i2).last:Int),((((s.af.at i2).ab.n:Nat):Int):Int)]
 simp only[List.length_cons,List.length_nil]at MP
 refine Mo 1 ?_ (vs:=fun bs=>[.pointer (some (kv bs 1 0)),.slice (some (kv bs 6 0)) 5 5]) (cs':=fun _=>[vs (u2++bc [((s.af.at i2).ag:Int),((s.af.at i2).id:Int),((s.af.at i2).aC:Int),((s.af.at i2).last:Int),((((s.af.at i2).ab.n:Nat):Int):Int)])]) call230 (fun bs w hS hb=>gg u2 (⟨some ⟨bs.getD 6 0,0,none⟩,5,[((s.af.at i2).ag:Int),((s.af.at i2).id:Int),((s.af.at i2).aC:Int),((s.af.at i2).last:Int),((((s.af.at i2).ab.n:Nat):Int):Int)]⟩:Sl Int) (bs.getD 1 0) w hb (eM [((s.af.at i2).ag:Int),((s.af.at i2).id:Int),((s.af.at i2).aC:Int),((s.af.at i2).last:Int),((((s.af.at i2).ab.n:Nat):Int):Int)] (hS.loc 6 ⟨3,[vI (s.af.at i2).ag,vI (s.af.at i2).id,vI (s.af.at i2).aC,vI (s.af.at i2).last,vI (((s.af.at i2).ab.n:Nat):Int)]⟩ (by kernel_rfl) (by simp)) (by simp)) (by show 5≤1048576;omega) (by first|omega|(simp only[ByteArray.size_append];omega)))
 rintro y _
 have JY:(u2++bc [((s.af.at i2).ag:Int),((s.af.at i2).id:Int),((s.af.at i2).aC:Int),((s.af.at i2).last:Int),((((s.af.at i2).ab.n:Nat):Int):Int)]).size≤100030+i2*30000:=by first|omega|(simp only[ByteArray.size_append];omega)
 generalize NN:u2++bc [((s.af.at i2).ag:Int),((s.af.at i2).id:Int),((s.af.at i2).aC:Int),((s.af.at i2).last:Int),((((s.af.at i2).ab.n:Nat):Int):Int)]=z3 at JY⊢
 refine Ml (σ:=Nat×ByteArray) (fun⟨i3,u3⟩=>i3≤(s.af.at i2).ab.n∧u3=((s.af.at i2).ab.xs.take i3).foldl nt z3∧u3.size≤100030+i2*30000+i3*5100) (fun⟨i3,u3⟩=>(s.af.at i2).ab.n - i3) (fun _=>[]) [112,111,110,91,90,89,5] (fun⟨i3,u3⟩=>[(112,vI (i3:Int))]) (fun⟨i3,u3⟩=>[(1,[vS u3])]) ?_ (⟨0,z3⟩) ⟨Nat.zero_le _,rfl,by show z3.size≤100030+i2*30000+0*5100;omega⟩
 rintro⟨i3,u3⟩ ⟨yT,JZ,O7⟩ _ sK
 refine Md ((i3:Int)<(((s.af.at i2).ab.n:Nat):Int)) (fun h5=>?_) fun h5=>?_
 rotate_left
 ·refine Mi ?_ (pR ((i2:Int)+1))
  have J0:u3=nu u2 (s.abs.af.getD i2 dd):=by
    rw[MG,JZ,List.take_of_length_le (by omega), ←NN]
    rfl
  have J1:(u3).size≤100000+(i2+1)*30000:=by omega
  exact o6 ⟨i2+1,u3⟩ ⟨by show i2+1≤s.af.n;omega,by show _=(s.abs.af.take (i2+1)).foldl nu z2;rw[J0,sh];exact (eo (i:=i2) _ _ s.abs.af (by omega)).symm,J1⟩ (by show s.af.n - (i2+1)<s.af.n - i2;omega)
 refine Mi ?_ (pA 114 115 (i3:Int) i3 (s:=(s.af.at i2).ab) (fun w hk hr=>(Sl.rd.sub (s:=s.af) (i:=i2) (aJ.kp hs hk).2.2 (by omega))))
 refine M1 ?_
 have MQ:=bP [(((s.af.at i2).ab.at i3).seq:Int),(((s.af.at i2).ab.at i3).aE.code:Int),(((s.af.at i2).ab.at i3).aE.n:Int)]
 simp only[List.length_cons,List.length_nil]at MQ
 refine Mo 1 ?_ (vs:=fun bs=>[.pointer (some (kv bs 1 0)),.slice (some (kv bs 8 0)) 3 3]) (cs':=fun _=>[vs (u3++bc [(((s.af.at i2).ab.at i3).seq:Int),(((s.af.at i2).ab.at i3).aE.code:Int),(((s.af.at i2).ab.at i3).aE.n:Int)])]) call230 (fun bs w hS hb=>gg u3 (⟨some ⟨bs.getD 8 0,0,none⟩,3,[(((s.af.at i2).ab.at i3).seq:Int),(((s.af.at i2).ab.at i3).aE.code:Int),(((s.af.at i2).ab.at i3).aE.n:Int)]⟩:Sl Int) (bs.getD 1 0) w hb (eM [(((s.af.at i2).ab.at i3).seq:Int),(((s.af.at i2).ab.at i3).aE.code:Int),(((s.af.at i2).ab.at i3).aE.n:Int)] (hS.loc 8 ⟨3,[vI ((s.af.at i2).ab.at i3).seq,vI ((s.af.at i2).ab.at i3).aE.code,vI ((s.af.at i2).ab.at i3).aE.n]⟩ (by kernel_rfl) (by simp)) (by simp)) (by show 3≤1048576;omega) (by first|omega|(simp only[ByteArray.size_append];omega)))
 rintro y _
 have Q8:=cE ((s.af.at i2).ab.at i3).aE.text
 refine Mo 1 ?_ call231 (fun bs w hS hb=>o8 (u3++bc [(((s.af.at i2).ab.at i3).seq:Int),(((s.af.at i2).ab.at i3).aE.code:Int),(((s.af.at i2).ab.at i3).aE.n:Int)]) ((s.af.at i2).ab.at i3).aE.text (bs.getD 1 0) w hb (Sl.ok.at (s:=(s.af.at i2).ab) (i:=i3) (Sl.ok.at (s:=s.af) (i:=i2) cC.2.2 (by omega)) (by omega)) (by first|omega|(simp only[ByteArray.size_append];omega)))
 rintro y _
 refine Mi ?_ (pR ((i3:Int)+1))
 have J2:u3++bc [(((s.af.at i2).ab.at i3).seq:Int),(((s.af.at i2).ab.at i3).aE.code:Int),(((s.af.at i2).ab.at i3).aE.n:Int)]++bj ((s.af.at i2).ab.at i3).aE.text=nt u3 ((s.af.at i2).ab.xs.getD i3 dd):=by
   rfl
 have J3:(u3++bc [(((s.af.at i2).ab.at i3).seq:Int),(((s.af.at i2).ab.at i3).aE.code:Int),(((s.af.at i2).ab.at i3).aE.n:Int)]++bj ((s.af.at i2).ab.at i3).aE.text).size≤100030+i2*30000+(i3+1)*5100:=by simp only[ByteArray.size_append];omega
 exact sK ⟨i3+1,u3++bc [(((s.af.at i2).ab.at i3).seq:Int),(((s.af.at i2).ab.at i3).aE.code:Int),(((s.af.at i2).ab.at i3).aE.n:Int)]++bj ((s.af.at i2).ab.at i3).aE.text⟩ ⟨by show i3+1≤(s.af.at i2).ab.n;omega,by show _=((s.af.at i2).ab.xs.take (i3+1)).foldl nt z3;rw[J2,JZ];exact (eo (i:=i3) _ _ (s.af.at i2).ab.xs (by omega)).symm,J3⟩ (by show (s.af.at i2).ab.n - (i3+1)<(s.af.at i2).ab.n - i3;omega)
theorem yv (A:Option Addr)(c:Nat)(L:List aa)(i:Nat)(ii:Int)(x:aa)(vb tv:Nat)(w:World)(gb:(ay 118 A c L).p w)(dX: ∀b,b∈(ay 118 A c L).fp→b<w.heap.size)(ei:ii=(i:Int))(hi:i≤L.length)(hn:L.length≤1048575)(hv:(bh vb tv (aR.cells x)).p w)(GD:vb∉(ay 118 A c L).fp):
    Calls prog 77 #[.slice A L.length c,vi ii,.slice (some (⟨vb,0,none⟩:Addr)) 1 1] w fun e w'=> ∃y:Option Addr×Nat,e=.returned (.slice y.1 (L.take i++[x]++L.drop i).length y.2)∧dh (ay 118 A c L) w w' (ay 118 y.1 y.2 (L.take i++[x]++L.drop i)):=by
 subst ei
 have mv:=br gb
 have nc:=mv.2
 have sn: ∀w',Kp (ay 118 A c L).fp w w'→(bh vb tv (aR.cells x)).p w':=fun w' hk=>qt hv hk GD
 have rE: ∀w',Kp (ay 118 A c L).fp w w'→fx w' (some (⟨vb,0,none⟩:Addr)) 1 ([x].flatMap aR.cells):=fun w' hk=>oL (sn w' hk)
 refine Mj ?_ func77 (WS.eG w _ gb (by cases A<;>simp [ay,fI]) dX)
 refine Mi ?_ (pG [(12,.sl i L.length)] (oc (rfl:(i:Int)=(i:Int)) (oc (rfl:L.length=L.length) (oc ((by omega):i≤L.length) on))))
 refine Mq 16 false ?_ rfl
 refine Md ((i:Int)=(L.length:Int)) (fun h1=>?_) fun h1=>?_
 ·refine Ma ?_ (α:=aa) (L2:=[x]) 56 (fun bs w hS=>rE w hS.kp) (h63:=by show L.length+1≤_;omega) (hb:=by show (L.length+1)*_≤_;omega)
  intro A1 c1
  refine Mt [.slice A1 (L++[x]).length c1] fun bs w hS=>?_
  have vV:i=L.length:=by omega
  subst vV
  rw[List.take_length,List.drop_length,List.append_nil]
  exact⟨(A1,c1),rfl,hS.aW⟩
 refine Mi ?_ (pR ((L.length:Int)+1))
 refine Md ((c:Int)<(L.length:Int)+1) (fun h2=>?_) fun h2=>?_
 ·refine Mi ?_ (pc (pG [(34,.sl 0 i)] (oc (rfl:0=0) (oc (rfl:(i:Int)=(i:Int)) (oc ((by omega):i≤c) on)))) (pc (pR ((L.length:Int)+1)) (pR (((L.length:Int)+1) - (i:Int)))))
  refine HQ (α:=aa) 24 3 56 i (L.length+1 - i) ?_ (((L.length:Int)+1) - (i:Int)) (by omega) (by omega) hi (by omega) (by omega) (by omega)
  intro g2 c2 zs Dp J4 dq
  refine Mi ?_ (pG [(43,.sl i (i+(L.length+1 - i)))] (oc (rfl:(i:Int)=(i:Int)) (oc (rfl:i+(L.length+1 - i)=i+(L.length+1 - i)) (oc ((by omega):i≤i+(L.length+1 - i)) on))))
  refine AR (A1:=(if c2=i then (some (⟨g2,0,none⟩:Addr)) else (some (⟨g2,0,none⟩:Addr)).map (·.add (i*5)))) (A2:=(some (⟨vb,0,none⟩:Addr))) (n1:=(i+(L.length+1 - i)) - i) (k:=1) (q:=1) (vs:=[x].flatMap aR.cells) 56 (i*aR.size aa) ?_ (by rw[if_neg (by omega)];show some (Addr.add _ (i*5))=_;rw[cz];rfl) (by simp only[Nat.min_def];split<;>omega) (fun bs w hS=>rE w hS.kp) (by rw[ea,Nat.one_mul]) (ed _) (by rw[ea];rw[dq];have h9:=dj (L:=L) hi (by omega:L.length+1≤c2);omega)
  refine fP 8 ?_ ai
  refine bY ?_ (pc (pR ((i:Int)+1)) (pc (pG [(50,.sl (i+1) (i+(L.length+1 - i)))] (oc ((by omega):(i:Int)+1=(((i+1):Nat):Int)) (oc (rfl:i+(L.length+1 - i)=i+(L.length+1 - i)) (oc ((by omega):(i+1)≤i+(L.length+1 - i)) on)))) (pG [(53,.sl i L.length)] (oc (rfl:(i:Int)=(i:Int)) (oc (rfl:L.length=L.length) (oc ((by omega):i≤L.length) on))))))
  refine Mz ?_
  refine AR (A1:=(if c2=(i+1) then (some (⟨g2,0,none⟩:Addr)) else (some (⟨g2,0,none⟩:Addr)).map (·.add ((i+1)*5)))) (A2:=(if c=i then A else A.map (·.add (i*5)))) (n1:=(i+(L.length+1 - i)) - (i+1)) (k:=L.length - i) (q:=(L.length - i)) (vs:=(L.drop i).flatMap aR.cells) 56 (i*aR.size aa+aR.size aa) ?_ (by rw[if_neg (by omega)];show some (Addr.add _ ((i+1)*5))=_;rw[cz,Nat.succ_mul];rfl) (by simp only[Nat.min_def];split<;>omega) (fun bs w hS=>k9 (hS.res _ i1) hi) (iP L i) (ed _) (by rw[jr (by rw[ea,dq];have h9:=dj (L:=L) hi (by omega:L.length+1≤c2);omega),dq];exact dj hi (by omega))
  refine Mt [.slice (some (⟨g2,0,none⟩:Addr)) (i+(L.length+1 - i)) c2] fun bs w hS=>?_
  have hlen:(L.take i++[x]++L.drop i).length=L.length+1:=by simp only[List.length_append,List.length_take,List.length_drop,List.length_cons,List.length_nil];omega
  have j1:=hS.vG (ay 118 (some (⟨g2,0,none⟩:Addr)) c2 (L.take i++[x]++L.drop i)) (List.Sublist.refl _) (fun h=>qq hi (by omega) dq h)
  refine⟨(some ⟨g2,0,none⟩,c2),?_,j1.aW⟩
  exact congrArg (fun q=>Ending.returned (Value.slice (some (⟨g2,0,none⟩:Addr)) q c2)) (show i+(L.length+1 - i)=(L.take i++[x]++L.drop i).length by rw[hlen];omega)
 refine CY (α:=aa) (by omega) ?_
 intro g zs hA Pb dq
 have J5:vb≠g:=fun e0=>GD (by rw[hA];simp[ay,fI,e0])
 refine Mi ?_ (pc (pR ((L.length:Int)+1)) (pc (pG [(60,.sl 0 (L.length+1))] (oc (rfl:0=0) (oc ((by omega):(L.length:Int)+1=(((L.length+1):Nat):Int)) (oc ((by omega):(L.length+1)≤c) on)))) (pc (pR ((i:Int)+1)) (pG [(66,.sl (i+1) (L.length+1))] (oc ((by omega):(i:Int)+1=(((i+1):Nat):Int)) (oc (rfl:(L.length+1)=(L.length+1)) (oc ((by omega):(i+1)≤(L.length+1)) on)))))))
 refine Mx ?_ (vs:=fun _=>[.slice (some (⟨vb,0,none⟩:Addr)) 1 1,.slice (if c=(i+1) then A else A.map (·.add ((i+1)*5))) ((L.length+1) - (i+1)) (c - (i+1))]) (v:=.bool false) (fun bs w hS=>by show (callFunc 143 #[.slice (some (⟨vb,0,none⟩:Addr)) 1 1,.slice (if c=(i+1) then A else A.map (·.add ((i+1)*5))) ((L.length+1) - (i+1)) (c - (i+1))]).run prog w=_;rw[(show (if c=(i+1) then A else A.map (·.add ((i+1)*5)))=some ⟨g,i*aR.size aa+aR.size aa,none⟩ from (by rw[if_neg (by omega),hA];show some (Addr.add _ ((i+1)*5))=_;rw[cz,Nat.succ_mul];rfl)),run_callFunc_extern func143 (by kernel_rfl) (by kernel_rfl) (by kernel_rfl) (e:=Extern.SlicesOverlaps.overlaps #[24,24] #[4]) (by kernel_rfl)];show ((Extern.SlicesOverlaps.overlaps #[24,24] #[4] #[.slice (some (⟨vb,0,none⟩:Addr)) 1 1,.slice (some _) _ _]).run _ w).andThen _=_;rw[Go.Lib.run_overlaps_apart w 24 4 118 Tryz.underlying24 _ (fun w=>cF _ _ w (by kernel_rfl)) ⟨vb,0,none⟩ ⟨g,i*aR.size aa+aR.size aa,none⟩ 1 1 _ _ J5 _ _ _ _ (mX (sn w hS.kp)) (mY (hS.res _ i0)) (by rw[dq];exact Nat.mul_ne_zero (by omega) (Nat.ne_of_gt aR.pos)) (jq (sn w hS.kp) 0) (jq (sn w hS.kp) _)];rfl)
 refine Mq 68 true ?_ rfl
 refine fP 8 ?_ ai
 refine bY ?_ (pc (pR ((i:Int)+1)) (pc (pG [(73,.sl (i+1) (L.length+1))] (oc ((by omega):(i:Int)+1=(((i+1):Nat):Int)) (oc (rfl:(L.length+1)=(L.length+1)) (oc ((by omega):(i+1)≤(L.length+1)) on)))) (pG [(76,.sl i (L.length+1))] (oc (rfl:(i:Int)=(i:Int)) (oc (rfl:(L.length+1)=(L.length+1)) (oc ((by omega):i≤(L.length+1)) on))))))
 refine Mz ?_
 refine AR (A1:=(if c=(i+1) then A else A.map (·.add ((i+1)*5)))) (A2:=(if c=i then A else A.map (·.add (i*5)))) (n1:=(L.length+1) - (i+1)) (k:=(L.length+1) - i) (q:=(L.length - i)) (vs:=(L.drop i).flatMap aR.cells) 56 (i*aR.size aa+aR.size aa) ?_ (by rw[if_neg (by omega),hA];show some (Addr.add _ ((i+1)*5))=_;rw[cz,Nat.succ_mul];rfl) (by simp only[Nat.min_def];split<;>omega) (fun bs w hS=>by rw[show (if c=i then A else A.map (·.add (i*5)))=some ⟨g,i*aR.size aa,none⟩ from (by rw[if_neg (by omega),hA];show some (Addr.add _ (i*5))=_;rw[cz];rfl)];exact ma hi (hS.res _ i0)) (iP L i) (ed _) (by rw[dq];exact dj hi (by omega))
 refine Mi ?_ (pG [(80,.sl i (L.length+1))] (oc (rfl:(i:Int)=(i:Int)) (oc (rfl:(L.length+1)=(L.length+1)) (oc ((by omega):i≤(L.length+1)) on))))
 refine AR (A1:=(if c=i then A else A.map (·.add (i*5)))) (A2:=(some (⟨vb,0,none⟩:Addr))) (n1:=(L.length+1) - i) (k:=1) (q:=1) (vs:=[x].flatMap aR.cells) 56 (i*aR.size aa) ?_ (by rw[if_neg (by omega),hA];show some (Addr.add _ (i*5))=_;rw[cz];rfl) (by simp only[Nat.min_def];split<;>omega) (fun bs w hS=>rE w hS.kp) (by rw[ea,Nat.one_mul]) (ed _) (by rw[ea];rw[jr (by rw[dq];exact dj hi (by omega)),dq];have h9:=dj (L:=L) hi (by omega:L.length+1≤c);omega)
 refine Mt [.slice A (L.length+1) c] fun bs w hS=>?_
 have hlen:(L.take i++[x]++L.drop i).length=L.length+1:=by simp only[List.length_append,List.length_take,List.length_drop,List.length_cons,List.length_nil];omega
 have j1:=hS.vG (ay 118 (some ⟨g,0,none⟩) c (L.take i++[x]++L.drop i)) (List.Sublist.refl _) (fun h=>qs hi (by omega) dq h)
 refine⟨(some ⟨g,0,none⟩,c),?_,j1.aW⟩
 subst hA
 exact congrArg (fun q=>Ending.returned (Value.slice (some (⟨g,0,none⟩:Addr)) q c)) (show L.length+1=(L.take i++[x]++L.drop i).length by rw[hlen])
theorem Et (A:Option Addr)(c:Nat)(L:List aK)(i:Nat)(ii:Int)(x:aK)(vb tv:Nat)(w:World)(gb:(ay 141 A c L).p w)(dX: ∀b,b∈(ay 141 A c L).fp→b<w.heap.size)(ei:ii=(i:Int))(hi:i≤L.length)(hn:L.length≤1048575)(hv:(bh vb tv (aR.cells x)).p w)(GD:vb∉(ay 141 A c L).fp):
    Calls prog 90 #[.slice A L.length c,vi ii,.slice (some (⟨vb,0,none⟩:Addr)) 1 1] w fun e w'=> ∃y:Option Addr×Nat,e=.returned (.slice y.1 (L.take i++[x]++L.drop i).length y.2)∧dh (ay 141 A c L) w w' (ay 141 y.1 y.2 (L.take i++[x]++L.drop i)):=by
 subst ei
 have mv:=br gb
 have nc:=mv.2
 have sn: ∀w',Kp (ay 141 A c L).fp w w'→(bh vb tv (aR.cells x)).p w':=fun w' hk=>qt hv hk GD
 have rE: ∀w',Kp (ay 141 A c L).fp w w'→fx w' (some (⟨vb,0,none⟩:Addr)) 1 ([x].flatMap aR.cells):=fun w' hk=>oL (sn w' hk)
 refine Mj ?_ func90 (WS.eG w _ gb (by cases A<;>simp [ay,fI]) dX)
 refine Mi ?_ (pG [(12,.sl i L.length)] (oc (rfl:(i:Int)=(i:Int)) (oc (rfl:L.length=L.length) (oc ((by omega):i≤L.length) on))))
 refine Mq 16 false ?_ rfl
 refine Md ((i:Int)=(L.length:Int)) (fun h1=>?_) fun h1=>?_
 ·refine Ma ?_ (α:=aK) (L2:=[x]) 40 (fun bs w hS=>rE w hS.kp) (h63:=by show L.length+1≤_;omega) (hb:=by show (L.length+1)*_≤_;omega)
  intro A1 c1
  refine Mt [.slice A1 (L++[x]).length c1] fun bs w hS=>?_
  have vV:i=L.length:=by omega
  subst vV
  rw[List.take_length,List.drop_length,List.append_nil]
  exact⟨(A1,c1),rfl,hS.aW⟩
 refine Mi ?_ (pR ((L.length:Int)+1))
 refine Md ((c:Int)<(L.length:Int)+1) (fun h2=>?_) fun h2=>?_
 ·refine Mi ?_ (pc (pG [(34,.sl 0 i)] (oc (rfl:0=0) (oc (rfl:(i:Int)=(i:Int)) (oc ((by omega):i≤c) on)))) (pc (pR ((L.length:Int)+1)) (pR (((L.length:Int)+1) - (i:Int)))))
  refine HQ (α:=aK) 116 3 40 i (L.length+1 - i) ?_ (((L.length:Int)+1) - (i:Int)) (by omega) (by omega) hi (by omega) (by omega) (by omega)
  intro g2 c2 zs Dp J4 dq
  refine Mi ?_ (pG [(43,.sl i (i+(L.length+1 - i)))] (oc (rfl:(i:Int)=(i:Int)) (oc (rfl:i+(L.length+1 - i)=i+(L.length+1 - i)) (oc ((by omega):i≤i+(L.length+1 - i)) on))))
  refine AR (A1:=(if c2=i then (some (⟨g2,0,none⟩:Addr)) else (some (⟨g2,0,none⟩:Addr)).map (·.add (i*4)))) (A2:=(some (⟨vb,0,none⟩:Addr))) (n1:=(i+(L.length+1 - i)) - i) (k:=1) (q:=1) (vs:=[x].flatMap aR.cells) 40 (i*aR.size aK) ?_ (by rw[if_neg (by omega)];show some (Addr.add _ (i*4))=_;rw[cz];rfl) (by simp only[Nat.min_def];split<;>omega) (fun bs w hS=>rE w hS.kp) (by rw[ea,Nat.one_mul]) (ed _) (by rw[ea];rw[dq];have h9:=dj (L:=L) hi (by omega:L.length+1≤c2);omega)
  refine fP 8 ?_ ai
  refine bY ?_ (pc (pR ((i:Int)+1)) (pc (pG [(50,.sl (i+1) (i+(L.length+1 - i)))] (oc ((by omega):(i:Int)+1=(((i+1):Nat):Int)) (oc (rfl:i+(L.length+1 - i)=i+(L.length+1 - i)) (oc ((by omega):(i+1)≤i+(L.length+1 - i)) on)))) (pG [(53,.sl i L.length)] (oc (rfl:(i:Int)=(i:Int)) (oc (rfl:L.length=L.length) (oc ((by omega):i≤L.length) on))))))
  refine Mz ?_
  refine AR (A1:=(if c2=(i+1) then (some (⟨g2,0,none⟩:Addr)) else (some (⟨g2,0,none⟩:Addr)).map (·.add ((i+1)*4)))) (A2:=(if c=i then A else A.map (·.add (i*4)))) (n1:=(i+(L.length+1 - i)) - (i+1)) (k:=L.length - i) (q:=(L.length - i)) (vs:=(L.drop i).flatMap aR.cells) 40 (i*aR.size aK+aR.size aK) ?_ (by rw[if_neg (by omega)];show some (Addr.add _ ((i+1)*4))=_;rw[cz,Nat.succ_mul];rfl) (by simp only[Nat.min_def];split<;>omega) (fun bs w hS=>k9 (hS.res _ i1) hi) (iP L i) (ed _) (by rw[jr (by rw[ea,dq];have h9:=dj (L:=L) hi (by omega:L.length+1≤c2);omega),dq];exact dj hi (by omega))
  refine Mt [.slice (some (⟨g2,0,none⟩:Addr)) (i+(L.length+1 - i)) c2] fun bs w hS=>?_
  have hlen:(L.take i++[x]++L.drop i).length=L.length+1:=by simp only[List.length_append,List.length_take,List.length_drop,List.length_cons,List.length_nil];omega
  have j1:=hS.vG (ay 141 (some (⟨g2,0,none⟩:Addr)) c2 (L.take i++[x]++L.drop i)) (List.Sublist.refl _) (fun h=>qq hi (by omega) dq h)
  refine⟨(some ⟨g2,0,none⟩,c2),?_,j1.aW⟩
  exact congrArg (fun q=>Ending.returned (Value.slice (some (⟨g2,0,none⟩:Addr)) q c2)) (show i+(L.length+1 - i)=(L.take i++[x]++L.drop i).length by rw[hlen];omega)
 refine CY (α:=aK) (by omega) ?_
 intro g zs hA Pb dq
 have J5:vb≠g:=fun e0=>GD (by rw[hA];simp[ay,fI,e0])
 refine Mi ?_ (pc (pR ((L.length:Int)+1)) (pc (pG [(60,.sl 0 (L.length+1))] (oc (rfl:0=0) (oc ((by omega):(L.length:Int)+1=(((L.length+1):Nat):Int)) (oc ((by omega):(L.length+1)≤c) on)))) (pc (pR ((i:Int)+1)) (pG [(66,.sl (i+1) (L.length+1))] (oc ((by omega):(i:Int)+1=(((i+1):Nat):Int)) (oc (rfl:(L.length+1)=(L.length+1)) (oc ((by omega):(i+1)≤(L.length+1)) on)))))))
 refine Mx ?_ (vs:=fun _=>[.slice (some (⟨vb,0,none⟩:Addr)) 1 1,.slice (if c=(i+1) then A else A.map (·.add ((i+1)*4))) ((L.length+1) - (i+1)) (c - (i+1))]) (v:=.bool false) (fun bs w hS=>by show (callFunc 153 #[.slice (some (⟨vb,0,none⟩:Addr)) 1 1,.slice (if c=(i+1) then A else A.map (·.add ((i+1)*4))) ((L.length+1) - (i+1)) (c - (i+1))]).run prog w=_;rw[(show (if c=(i+1) then A else A.map (·.add ((i+1)*4)))=some ⟨g,i*aR.size aK+aR.size aK,none⟩ from (by rw[if_neg (by omega),hA];show some (Addr.add _ ((i+1)*4))=_;rw[cz,Nat.succ_mul];rfl)),run_callFunc_extern func153 (by kernel_rfl) (by kernel_rfl) (by kernel_rfl) (e:=Extern.SlicesOverlaps.overlaps #[116,116] #[4]) (by kernel_rfl)];show ((Extern.SlicesOverlaps.overlaps #[116,116] #[4] #[.slice (some (⟨vb,0,none⟩:Addr)) 1 1,.slice (some _) _ _]).run _ w).andThen _=_;rw[Go.Lib.run_overlaps_apart w 116 4 141 Tryz.underlying116 _ (fun w=>cF _ _ w (by kernel_rfl)) ⟨vb,0,none⟩ ⟨g,i*aR.size aK+aR.size aK,none⟩ 1 1 _ _ J5 _ _ _ _ (mX (sn w hS.kp)) (mY (hS.res _ i0)) (by rw[dq];exact Nat.mul_ne_zero (by omega) (Nat.ne_of_gt aR.pos)) (jq (sn w hS.kp) 0) (jq (sn w hS.kp) _)];rfl)
 refine Mq 68 true ?_ rfl
 refine fP 8 ?_ ai
 refine bY ?_ (pc (pR ((i:Int)+1)) (pc (pG [(73,.sl (i+1) (L.length+1))] (oc ((by omega):(i:Int)+1=(((i+1):Nat):Int)) (oc (rfl:(L.length+1)=(L.length+1)) (oc ((by omega):(i+1)≤(L.length+1)) on)))) (pG [(76,.sl i (L.length+1))] (oc (rfl:(i:Int)=(i:Int)) (oc (rfl:(L.length+1)=(L.length+1)) (oc ((by omega):i≤(L.length+1)) on))))))
 refine Mz ?_
 refine AR (A1:=(if c=(i+1) then A else A.map (·.add ((i+1)*4)))) (A2:=(if c=i then A else A.map (·.add (i*4)))) (n1:=(L.length+1) - (i+1)) (k:=(L.length+1) - i) (q:=(L.length - i)) (vs:=(L.drop i).flatMap aR.cells) 40 (i*aR.size aK+aR.size aK) ?_ (by rw[if_neg (by omega),hA];show some (Addr.add _ ((i+1)*4))=_;rw[cz,Nat.succ_mul];rfl) (by simp only[Nat.min_def];split<;>omega) (fun bs w hS=>by rw[show (if c=i then A else A.map (·.add (i*4)))=some ⟨g,i*aR.size aK,none⟩ from (by rw[if_neg (by omega),hA];show some (Addr.add _ (i*4))=_;rw[cz];rfl)];exact ma hi (hS.res _ i0)) (iP L i) (ed _) (by rw[dq];exact dj hi (by omega))
 refine Mi ?_ (pG [(80,.sl i (L.length+1))] (oc (rfl:(i:Int)=(i:Int)) (oc (rfl:(L.length+1)=(L.length+1)) (oc ((by omega):i≤(L.length+1)) on))))
 refine AR (A1:=(if c=i then A else A.map (·.add (i*4)))) (A2:=(some (⟨vb,0,none⟩:Addr))) (n1:=(L.length+1) - i) (k:=1) (q:=1) (vs:=[x].flatMap aR.cells) 40 (i*aR.size aK) ?_ (by rw[if_neg (by omega),hA];show some (Addr.add _ (i*4))=_;rw[cz];rfl) (by simp only[Nat.min_def];split<;>omega) (fun bs w hS=>rE w hS.kp) (by rw[ea,Nat.one_mul]) (ed _) (by rw[ea];rw[jr (by rw[dq];exact dj hi (by omega)),dq];have h9:=dj (L:=L) hi (by omega:L.length+1≤c);omega)
 refine Mt [.slice A (L.length+1) c] fun bs w hS=>?_
 have hlen:(L.take i++[x]++L.drop i).length=L.length+1:=by simp only[List.length_append,List.length_take,List.length_drop,List.length_cons,List.length_nil];omega
 have j1:=hS.vG (ay 141 (some ⟨g,0,none⟩) c (L.take i++[x]++L.drop i)) (List.Sublist.refl _) (fun h=>qs hi (by omega) dq h)
 refine⟨(some ⟨g,0,none⟩,c),?_,j1.aW⟩
 subst hA
 exact congrArg (fun q=>Ending.returned (Value.slice (some (⟨g,0,none⟩:Addr)) q c)) (show L.length+1=(L.take i++[x]++L.drop i).length by rw[hlen])
theorem Eu (A:Option Addr)(c:Nat)(L:List aG)(i:Nat)(ii:Int)(x:aG)(vb tv:Nat)(w:World)(gb:(ay 128 A c L).p w)(dX: ∀b,b∈(ay 128 A c L).fp→b<w.heap.size)(ei:ii=(i:Int))(hi:i≤L.length)(hn:L.length≤1048575)(hv:(bh vb tv (aR.cells x)).p w)(GD:vb∉(ay 128 A c L).fp):
    Calls prog 152 #[.slice A L.length c,vi ii,.slice (some (⟨vb,0,none⟩:Addr)) 1 1] w fun e w'=> ∃y:Option Addr×Nat,e=.returned (.slice y.1 (L.take i++[x]++L.drop i).length y.2)∧dh (ay 128 A c L) w w' (ay 128 y.1 y.2 (L.take i++[x]++L.drop i)):=by
 subst ei
 have mv:=br gb
 have nc:=mv.2
 have sn: ∀w',Kp (ay 128 A c L).fp w w'→(bh vb tv (aR.cells x)).p w':=fun w' hk=>qt hv hk GD
 have rE: ∀w',Kp (ay 128 A c L).fp w w'→fx w' (some (⟨vb,0,none⟩:Addr)) 1 ([x].flatMap aR.cells):=fun w' hk=>oL (sn w' hk)
 refine Mj ?_ func152 (WS.eG w _ gb (by cases A<;>simp [ay,fI]) dX)
 refine Mi ?_ (pG [(12,.sl i L.length)] (oc (rfl:(i:Int)=(i:Int)) (oc (rfl:L.length=L.length) (oc ((by omega):i≤L.length) on))))
 refine Mq 16 false ?_ rfl
 refine Md ((i:Int)=(L.length:Int)) (fun h1=>?_) fun h1=>?_
 ·refine Ma ?_ (α:=aG) (L2:=[x]) 40 (fun bs w hS=>rE w hS.kp) (h63:=by show L.length+1≤_;omega) (hb:=by show (L.length+1)*_≤_;omega)
  intro A1 c1
  refine Mt [.slice A1 (L++[x]).length c1] fun bs w hS=>?_
  have vV:i=L.length:=by omega
  subst vV
  rw[List.take_length,List.drop_length,List.append_nil]
  exact⟨(A1,c1),rfl,hS.aW⟩
 refine Mi ?_ (pR ((L.length:Int)+1))
 refine Md ((c:Int)<(L.length:Int)+1) (fun h2=>?_) fun h2=>?_
 ·refine Mi ?_ (pc (pG [(34,.sl 0 i)] (oc (rfl:0=0) (oc (rfl:(i:Int)=(i:Int)) (oc ((by omega):i≤c) on)))) (pc (pR ((L.length:Int)+1)) (pR (((L.length:Int)+1) - (i:Int)))))
  refine HQ (α:=aG) 23 3 40 i (L.length+1 - i) ?_ (((L.length:Int)+1) - (i:Int)) (by omega) (by omega) hi (by omega) (by omega) (by omega)
  intro g2 c2 zs Dp J4 dq
  refine Mi ?_ (pG [(43,.sl i (i+(L.length+1 - i)))] (oc (rfl:(i:Int)=(i:Int)) (oc (rfl:i+(L.length+1 - i)=i+(L.length+1 - i)) (oc ((by omega):i≤i+(L.length+1 - i)) on))))
  refine AR (A1:=(if c2=i then (some (⟨g2,0,none⟩:Addr)) else (some (⟨g2,0,none⟩:Addr)).map (·.add (i*3)))) (A2:=(some (⟨vb,0,none⟩:Addr))) (n1:=(i+(L.length+1 - i)) - i) (k:=1) (q:=1) (vs:=[x].flatMap aR.cells) 40 (i*aR.size aG) ?_ (by rw[if_neg (by omega)];show some (Addr.add _ (i*3))=_;rw[cz];rfl) (by simp only[Nat.min_def];split<;>omega) (fun bs w hS=>rE w hS.kp) (by rw[ea,Nat.one_mul]) (ed _) (by rw[ea];rw[dq];have h9:=dj (L:=L) hi (by omega:L.length+1≤c2);omega)
  refine fP 8 ?_ ai
  refine bY ?_ (pc (pR ((i:Int)+1)) (pc (pG [(50,.sl (i+1) (i+(L.length+1 - i)))] (oc ((by omega):(i:Int)+1=(((i+1):Nat):Int)) (oc (rfl:i+(L.length+1 - i)=i+(L.length+1 - i)) (oc ((by omega):(i+1)≤i+(L.length+1 - i)) on)))) (pG [(53,.sl i L.length)] (oc (rfl:(i:Int)=(i:Int)) (oc (rfl:L.length=L.length) (oc ((by omega):i≤L.length) on))))))
  refine Mz ?_
  refine AR (A1:=(if c2=(i+1) then (some (⟨g2,0,none⟩:Addr)) else (some (⟨g2,0,none⟩:Addr)).map (·.add ((i+1)*3)))) (A2:=(if c=i then A else A.map (·.add (i*3)))) (n1:=(i+(L.length+1 - i)) - (i+1)) (k:=L.length - i) (q:=(L.length - i)) (vs:=(L.drop i).flatMap aR.cells) 40 (i*aR.size aG+aR.size aG) ?_ (by rw[if_neg (by omega)];show some (Addr.add _ ((i+1)*3))=_;rw[cz,Nat.succ_mul];rfl) (by simp only[Nat.min_def];split<;>omega) (fun bs w hS=>k9 (hS.res _ i1) hi) (iP L i) (ed _) (by rw[jr (by rw[ea,dq];have h9:=dj (L:=L) hi (by omega:L.length+1≤c2);omega),dq];exact dj hi (by omega))
  refine Mt [.slice (some (⟨g2,0,none⟩:Addr)) (i+(L.length+1 - i)) c2] fun bs w hS=>?_
  have hlen:(L.take i++[x]++L.drop i).length=L.length+1:=by simp only[List.length_append,List.length_take,List.length_drop,List.length_cons,List.length_nil];omega
  have j1:=hS.vG (ay 128 (some (⟨g2,0,none⟩:Addr)) c2 (L.take i++[x]++L.drop i)) (List.Sublist.refl _) (fun h=>qq hi (by omega) dq h)
  refine⟨(some ⟨g2,0,none⟩,c2),?_,j1.aW⟩
  exact congrArg (fun q=>Ending.returned (Value.slice (some (⟨g2,0,none⟩:Addr)) q c2)) (show i+(L.length+1 - i)=(L.take i++[x]++L.drop i).length by rw[hlen];omega)
 refine CY (α:=aG) (by omega) ?_
 intro g zs hA Pb dq
 have J5:vb≠g:=fun e0=>GD (by rw[hA];simp[ay,fI,e0])
 refine Mi ?_ (pc (pR ((L.length:Int)+1)) (pc (pG [(60,.sl 0 (L.length+1))] (oc (rfl:0=0) (oc ((by omega):(L.length:Int)+1=(((L.length+1):Nat):Int)) (oc ((by omega):(L.length+1)≤c) on)))) (pc (pR ((i:Int)+1)) (pG [(66,.sl (i+1) (L.length+1))] (oc ((by omega):(i:Int)+1=(((i+1):Nat):Int)) (oc (rfl:(L.length+1)=(L.length+1)) (oc ((by omega):(i+1)≤(L.length+1)) on)))))))
 refine Mx ?_ (vs:=fun _=>[.slice (some (⟨vb,0,none⟩:Addr)) 1 1,.slice (if c=(i+1) then A else A.map (·.add ((i+1)*3))) ((L.length+1) - (i+1)) (c - (i+1))]) (v:=.bool false) (fun bs w hS=>by show (callFunc 195 #[.slice (some (⟨vb,0,none⟩:Addr)) 1 1,.slice (if c=(i+1) then A else A.map (·.add ((i+1)*3))) ((L.length+1) - (i+1)) (c - (i+1))]).run prog w=_;rw[(show (if c=(i+1) then A else A.map (·.add ((i+1)*3)))=some ⟨g,i*aR.size aG+aR.size aG,none⟩ from (by rw[if_neg (by omega),hA];show some (Addr.add _ ((i+1)*3))=_;rw[cz,Nat.succ_mul];rfl)),run_callFunc_extern func195 (by kernel_rfl) (by kernel_rfl) (by kernel_rfl) (e:=Extern.SlicesOverlaps.overlaps #[23,23] #[4]) (by kernel_rfl)];show ((Extern.SlicesOverlaps.overlaps #[23,23] #[4] #[.slice (some (⟨vb,0,none⟩:Addr)) 1 1,.slice (some _) _ _]).run _ w).andThen _=_;rw[Go.Lib.run_overlaps_apart w 23 4 128 Tryz.underlying23 _ (fun w=>cF _ _ w (by kernel_rfl)) ⟨vb,0,none⟩ ⟨g,i*aR.size aG+aR.size aG,none⟩ 1 1 _ _ J5 _ _ _ _ (mX (sn w hS.kp)) (mY (hS.res _ i0)) (by rw[dq];exact Nat.mul_ne_zero (by omega) (Nat.ne_of_gt aR.pos)) (jq (sn w hS.kp) 0) (jq (sn w hS.kp) _)];rfl)
 refine Mq 68 true ?_ rfl
 refine fP 8 ?_ ai
 refine bY ?_ (pc (pR ((i:Int)+1)) (pc (pG [(73,.sl (i+1) (L.length+1))] (oc ((by omega):(i:Int)+1=(((i+1):Nat):Int)) (oc (rfl:(L.length+1)=(L.length+1)) (oc ((by omega):(i+1)≤(L.length+1)) on)))) (pG [(76,.sl i (L.length+1))] (oc (rfl:(i:Int)=(i:Int)) (oc (rfl:(L.length+1)=(L.length+1)) (oc ((by omega):i≤(L.length+1)) on))))))
 refine Mz ?_
 refine AR (A1:=(if c=(i+1) then A else A.map (·.add ((i+1)*3)))) (A2:=(if c=i then A else A.map (·.add (i*3)))) (n1:=(L.length+1) - (i+1)) (k:=(L.length+1) - i) (q:=(L.length - i)) (vs:=(L.drop i).flatMap aR.cells) 40 (i*aR.size aG+aR.size aG) ?_ (by rw[if_neg (by omega),hA];show some (Addr.add _ ((i+1)*3))=_;rw[cz,Nat.succ_mul];rfl) (by simp only[Nat.min_def];split<;>omega) (fun bs w hS=>by rw[show (if c=i then A else A.map (·.add (i*3)))=some ⟨g,i*aR.size aG,none⟩ from (by rw[if_neg (by omega),hA];show some (Addr.add _ (i*3))=_;rw[cz];rfl)];exact ma hi (hS.res _ i0)) (iP L i) (ed _) (by rw[dq];exact dj hi (by omega))
 refine Mi ?_ (pG [(80,.sl i (L.length+1))] (oc (rfl:(i:Int)=(i:Int)) (oc (rfl:(L.length+1)=(L.length+1)) (oc ((by omega):i≤(L.length+1)) on))))
 refine AR (A1:=(if c=i then A else A.map (·.add (i*3)))) (A2:=(some (⟨vb,0,none⟩:Addr))) (n1:=(L.length+1) - i) (k:=1) (q:=1) (vs:=[x].flatMap aR.cells) 40 (i*aR.size aG) ?_ (by rw[if_neg (by omega),hA];show some (Addr.add _ (i*3))=_;rw[cz];rfl) (by simp only[Nat.min_def];split<;>omega) (fun bs w hS=>rE w hS.kp) (by rw[ea,Nat.one_mul]) (ed _) (by rw[ea];rw[jr (by rw[dq];exact dj hi (by omega)),dq];have h9:=dj (L:=L) hi (by omega:L.length+1≤c);omega)
 refine Mt [.slice A (L.length+1) c] fun bs w hS=>?_
 have hlen:(L.take i++[x]++L.drop i).length=L.length+1:=by simp only[List.length_append,List.length_take,List.length_drop,List.length_cons,List.length_nil];omega
 have j1:=hS.vG (ay 128 (some ⟨g,0,none⟩) c (L.take i++[x]++L.drop i)) (List.Sublist.refl _) (fun h=>qs hi (by omega) dq h)
 refine⟨(some ⟨g,0,none⟩,c),?_,j1.aW⟩
 subst hA
 exact congrArg (fun q=>Ending.returned (Value.slice (some (⟨g,0,none⟩:Addr)) q c)) (show L.length+1=(L.take i++[x]++L.drop i).length by rw[hlen])
theorem Ev (A:Option Addr)(c:Nat)(L:List ae)(i:Nat)(ii:Int)(x:ae)(vb tv:Nat)(w:World)(gb:(ay 115 A c L).p w)(dX: ∀b,b∈(ay 115 A c L).fp→b<w.heap.size)(ei:ii=(i:Int))(hi:i≤L.length)(hn:L.length≤1048575)(hv:(bh vb tv (aR.cells x)).p w)(GD:vb∉(ay 115 A c L).fp):
    Calls prog 149 #[.slice A L.length c,vi ii,.slice (some (⟨vb,0,none⟩:Addr)) 1 1] w fun e w'=> ∃y:Option Addr×Nat,e=.returned (.slice y.1 (L.take i++[x]++L.drop i).length y.2)∧dh (ay 115 A c L) w w' (ay 115 y.1 y.2 (L.take i++[x]++L.drop i)):=by
 subst ei
 have mv:=br gb
 have nc:=mv.2
 have sn: ∀w',Kp (ay 115 A c L).fp w w'→(bh vb tv (aR.cells x)).p w':=fun w' hk=>qt hv hk GD
 have rE: ∀w',Kp (ay 115 A c L).fp w w'→fx w' (some (⟨vb,0,none⟩:Addr)) 1 ([x].flatMap aR.cells):=fun w' hk=>oL (sn w' hk)
 refine Mj ?_ func149 (WS.eG w _ gb (by cases A<;>simp [ay,fI]) dX)
 refine Mi ?_ (pG [(12,.sl i L.length)] (oc (rfl:(i:Int)=(i:Int)) (oc (rfl:L.length=L.length) (oc ((by omega):i≤L.length) on))))
 refine Mq 16 false ?_ rfl
 refine Md ((i:Int)=(L.length:Int)) (fun h1=>?_) fun h1=>?_
 ·refine Ma ?_ (α:=ae) (L2:=[x]) 56 (fun bs w hS=>rE w hS.kp) (h63:=by show L.length+1≤_;omega) (hb:=by show (L.length+1)*_≤_;omega)
  intro A1 c1
  refine Mt [.slice A1 (L++[x]).length c1] fun bs w hS=>?_
  have vV:i=L.length:=by omega
  subst vV
  rw[List.take_length,List.drop_length,List.append_nil]
  exact⟨(A1,c1),rfl,hS.aW⟩
 refine Mi ?_ (pR ((L.length:Int)+1))
 refine Md ((c:Int)<(L.length:Int)+1) (fun h2=>?_) fun h2=>?_
 ·refine Mi ?_ (pc (pG [(34,.sl 0 i)] (oc (rfl:0=0) (oc (rfl:(i:Int)=(i:Int)) (oc ((by omega):i≤c) on)))) (pc (pR ((L.length:Int)+1)) (pR (((L.length:Int)+1) - (i:Int)))))
  refine HQ (α:=ae) 22 3 56 i (L.length+1 - i) ?_ (((L.length:Int)+1) - (i:Int)) (by omega) (by omega) hi (by omega) (by omega) (by omega)
  intro g2 c2 zs Dp J4 dq
  refine Mi ?_ (pG [(43,.sl i (i+(L.length+1 - i)))] (oc (rfl:(i:Int)=(i:Int)) (oc (rfl:i+(L.length+1 - i)=i+(L.length+1 - i)) (oc ((by omega):i≤i+(L.length+1 - i)) on))))
  refine AR (A1:=(if c2=i then (some (⟨g2,0,none⟩:Addr)) else (some (⟨g2,0,none⟩:Addr)).map (·.add (i*4)))) (A2:=(some (⟨vb,0,none⟩:Addr))) (n1:=(i+(L.length+1 - i)) - i) (k:=1) (q:=1) (vs:=[x].flatMap aR.cells) 56 (i*aR.size ae) ?_ (by rw[if_neg (by omega)];show some (Addr.add _ (i*4))=_;rw[cz];rfl) (by simp only[Nat.min_def];split<;>omega) (fun bs w hS=>rE w hS.kp) (by rw[ea,Nat.one_mul]) (ed _) (by rw[ea];rw[dq];have h9:=dj (L:=L) hi (by omega:L.length+1≤c2);omega)
  refine fP 8 ?_ ai
  refine bY ?_ (pc (pR ((i:Int)+1)) (pc (pG [(50,.sl (i+1) (i+(L.length+1 - i)))] (oc ((by omega):(i:Int)+1=(((i+1):Nat):Int)) (oc (rfl:i+(L.length+1 - i)=i+(L.length+1 - i)) (oc ((by omega):(i+1)≤i+(L.length+1 - i)) on)))) (pG [(53,.sl i L.length)] (oc (rfl:(i:Int)=(i:Int)) (oc (rfl:L.length=L.length) (oc ((by omega):i≤L.length) on))))))
  refine Mz ?_
  refine AR (A1:=(if c2=(i+1) then (some (⟨g2,0,none⟩:Addr)) else (some (⟨g2,0,none⟩:Addr)).map (·.add ((i+1)*4)))) (A2:=(if c=i then A else A.map (·.add (i*4)))) (n1:=(i+(L.length+1 - i)) - (i+1)) (k:=L.length - i) (q:=(L.length - i)) (vs:=(L.drop i).flatMap aR.cells) 56 (i*aR.size ae+aR.size ae) ?_ (by rw[if_neg (by omega)];show some (Addr.add _ ((i+1)*4))=_;rw[cz,Nat.succ_mul];rfl) (by simp only[Nat.min_def];split<;>omega) (fun bs w hS=>k9 (hS.res _ i1) hi) (iP L i) (ed _) (by rw[jr (by rw[ea,dq];have h9:=dj (L:=L) hi (by omega:L.length+1≤c2);omega),dq];exact dj hi (by omega))
  refine Mt [.slice (some (⟨g2,0,none⟩:Addr)) (i+(L.length+1 - i)) c2] fun bs w hS=>?_
  have hlen:(L.take i++[x]++L.drop i).length=L.length+1:=by simp only[List.length_append,List.length_take,List.length_drop,List.length_cons,List.length_nil];omega
  have j1:=hS.vG (ay 115 (some (⟨g2,0,none⟩:Addr)) c2 (L.take i++[x]++L.drop i)) (List.Sublist.refl _) (fun h=>qq hi (by omega) dq h)
  refine⟨(some ⟨g2,0,none⟩,c2),?_,j1.aW⟩
  exact congrArg (fun q=>Ending.returned (Value.slice (some (⟨g2,0,none⟩:Addr)) q c2)) (show i+(L.length+1 - i)=(L.take i++[x]++L.drop i).length by rw[hlen];omega)
 refine CY (α:=ae) (by omega) ?_
 intro g zs hA Pb dq
 have J5:vb≠g:=fun e0=>GD (by rw[hA];simp[ay,fI,e0])
 refine Mi ?_ (pc (pR ((L.length:Int)+1)) (pc (pG [(60,.sl 0 (L.length+1))] (oc (rfl:0=0) (oc ((by omega):(L.length:Int)+1=(((L.length+1):Nat):Int)) (oc ((by omega):(L.length+1)≤c) on)))) (pc (pR ((i:Int)+1)) (pG [(66,.sl (i+1) (L.length+1))] (oc ((by omega):(i:Int)+1=(((i+1):Nat):Int)) (oc (rfl:(L.length+1)=(L.length+1)) (oc ((by omega):(i+1)≤(L.length+1)) on)))))))
 refine Mx ?_ (vs:=fun _=>[.slice (some (⟨vb,0,none⟩:Addr)) 1 1,.slice (if c=(i+1) then A else A.map (·.add ((i+1)*4))) ((L.length+1) - (i+1)) (c - (i+1))]) (v:=.bool false) (fun bs w hS=>by show (callFunc 191 #[.slice (some (⟨vb,0,none⟩:Addr)) 1 1,.slice (if c=(i+1) then A else A.map (·.add ((i+1)*4))) ((L.length+1) - (i+1)) (c - (i+1))]).run prog w=_;rw[(show (if c=(i+1) then A else A.map (·.add ((i+1)*4)))=some ⟨g,i*aR.size ae+aR.size ae,none⟩ from (by rw[if_neg (by omega),hA];show some (Addr.add _ ((i+1)*4))=_;rw[cz,Nat.succ_mul];rfl)),run_callFunc_extern func191 (by kernel_rfl) (by kernel_rfl) (by kernel_rfl) (e:=Extern.SlicesOverlaps.overlaps #[22,22] #[4]) (by kernel_rfl)];show ((Extern.SlicesOverlaps.overlaps #[22,22] #[4] #[.slice (some (⟨vb,0,none⟩:Addr)) 1 1,.slice (some _) _ _]).run _ w).andThen _=_;rw[Go.Lib.run_overlaps_apart w 22 4 115 Tryz.underlying22 _ (fun w=>cF _ _ w (by kernel_rfl)) ⟨vb,0,none⟩ ⟨g,i*aR.size ae+aR.size ae,none⟩ 1 1 _ _ J5 _ _ _ _ (mX (sn w hS.kp)) (mY (hS.res _ i0)) (by rw[dq];exact Nat.mul_ne_zero (by omega) (Nat.ne_of_gt aR.pos)) (jq (sn w hS.kp) 0) (jq (sn w hS.kp) _)];rfl)
 refine Mq 68 true ?_ rfl
 refine fP 8 ?_ ai
 refine bY ?_ (pc (pR ((i:Int)+1)) (pc (pG [(73,.sl (i+1) (L.length+1))] (oc ((by omega):(i:Int)+1=(((i+1):Nat):Int)) (oc (rfl:(L.length+1)=(L.length+1)) (oc ((by omega):(i+1)≤(L.length+1)) on)))) (pG [(76,.sl i (L.length+1))] (oc (rfl:(i:Int)=(i:Int)) (oc (rfl:(L.length+1)=(L.length+1)) (oc ((by omega):i≤(L.length+1)) on))))))
 refine Mz ?_
 refine AR (A1:=(if c=(i+1) then A else A.map (·.add ((i+1)*4)))) (A2:=(if c=i then A else A.map (·.add (i*4)))) (n1:=(L.length+1) - (i+1)) (k:=(L.length+1) - i) (q:=(L.length - i)) (vs:=(L.drop i).flatMap aR.cells) 56 (i*aR.size ae+aR.size ae) ?_ (by rw[if_neg (by omega),hA];show some (Addr.add _ ((i+1)*4))=_;rw[cz,Nat.succ_mul];rfl) (by simp only[Nat.min_def];split<;>omega) (fun bs w hS=>by rw[show (if c=i then A else A.map (·.add (i*4)))=some ⟨g,i*aR.size ae,none⟩ from (by rw[if_neg (by omega),hA];show some (Addr.add _ (i*4))=_;rw[cz];rfl)];exact ma hi (hS.res _ i0)) (iP L i) (ed _) (by rw[dq];exact dj hi (by omega))
 refine Mi ?_ (pG [(80,.sl i (L.length+1))] (oc (rfl:(i:Int)=(i:Int)) (oc (rfl:(L.length+1)=(L.length+1)) (oc ((by omega):i≤(L.length+1)) on))))
 refine AR (A1:=(if c=i then A else A.map (·.add (i*4)))) (A2:=(some (⟨vb,0,none⟩:Addr))) (n1:=(L.length+1) - i) (k:=1) (q:=1) (vs:=[x].flatMap aR.cells) 56 (i*aR.size ae) ?_ (by rw[if_neg (by omega),hA];show some (Addr.add _ (i*4))=_;rw[cz];rfl) (by simp only[Nat.min_def];split<;>omega) (fun bs w hS=>rE w hS.kp) (by rw[ea,Nat.one_mul]) (ed _) (by rw[ea];rw[jr (by rw[dq];exact dj hi (by omega)),dq];have h9:=dj (L:=L) hi (by omega:L.length+1≤c);omega)
 refine Mt [.slice A (L.length+1) c] fun bs w hS=>?_
 have hlen:(L.take i++[x]++L.drop i).length=L.length+1:=by simp only[List.length_append,List.length_take,List.length_drop,List.length_cons,List.length_nil];omega
 have j1:=hS.vG (ay 115 (some ⟨g,0,none⟩) c (L.take i++[x]++L.drop i)) (List.Sublist.refl _) (fun h=>qs hi (by omega) dq h)
 refine⟨(some ⟨g,0,none⟩,c),?_,j1.aW⟩
 subst hA
 exact congrArg (fun q=>Ending.returned (Value.slice (some (⟨g,0,none⟩:Addr)) q c)) (show L.length+1=(L.take i++[x]++L.drop i).length by rw[hlen])
theorem sO (x:aG)(t:ByteArray)(w:World):Calls prog 194 #[x.val,vs t] w fun e w'=>e=.returned (vi (bK x.name t))∧Kp [] w w':=by
 refine M0 ?_ func194
 refine Mp ?_ call147 (fun bs w hS=>kU x.name t w)
 exact Mt [vi (bK x.name t)] fun bs w hS=>⟨rfl,hS.kp⟩
theorem vp (s:Sl aG)(t:ByteArray)(w:World)(hs:s.rd B w)(hn:s.n≤1048576):Calls prog 193 #[s.val,vs t,.func (.func 194) #[] #[]] w fun e w'=>e=.returned (.tuple #[vi (eQ (fun x:aG=>bK x.name t) s.xs:Nat),vb (dk (fun x:aG=>bK x.name t) s.xs)])∧Kp [] w w':=by
 have cV:=Sl.rd.ok hs
 have iV:=Sl.ok.nc cV
 have iW:s.n=s.xs.length:=rfl
 refine Mj ?_ func193 (WS.start w)
 refine Ml (σ:=Nat×Nat×Nat) (fun⟨i,j,f⟩=>i≤j∧j≤s.n∧j - i≤f∧eQ (fun x:aG=>bK x.name t) s.xs=lZ (fun j=>decide (bK (s.at j).name t<0)) f i j) (fun⟨i,j,f⟩=>f) (fun _=>[]) [10,9,8,0,1,2] (fun⟨i,j,f⟩=>[(10,vI (j:Int)),(9,vI (i:Int))]) (fun _=>[]) ?_ (⟨0,s.n,s.n⟩) ⟨Nat.zero_le _,Nat.le_refl _,Nat.le_refl _,rfl⟩
 rintro⟨i,j,f⟩ ⟨h1,h2,h3,hI⟩ _ bu
 have hdiv:((i:Int)+(j:Int)) / 2=(((i+j) / 2:Nat):Int):=by omega
 refine Md ((i:Int)<(j:Int)) (fun h1=>?_) fun h1=>?_
 rotate_left
 ·refine Md ((i:Int)<(s.n:Int)) (fun h3=>?_) fun h3=>?_
  rotate_left
  ·refine Mt [vi (i:Int),vb false] fun bs w hS=>?_
   have jf:i=j:=by omega
   subst jf
   have hr:eQ (fun x:aG=>bK x.name t) s.xs=i:=by rw[hI];exact iQ _ _ _ _ (Nat.le_refl _)
   refine⟨?_,hS.kp⟩
   have ny:dk (fun x:aG=>bK x.name t) s.xs=false:=by
     unfold dk;rw[hr]
     rw[decide_eq_false (show ¬i<s.xs.length by omega)];rfl
   rw[hr,ny]
   rfl
  refine Mi ?_ (pA 43 44 (i:Int) i (db hs))
  refine Mp ?_ call194 (fun bs w hS=>sO (s.at i) t w)
  refine Mt [vi (i:Int),vb (decide (bK (s.at i).name t=0))] fun bs w hS=>?_
  have jf:i=j:=by omega
  subst jf
  have hr:eQ (fun x:aG=>bK x.name t) s.xs=i:=by rw[hI];exact iQ _ _ _ _ (Nat.le_refl _)
  refine⟨?_,hS.kp⟩
  have ny:dk (fun x:aG=>bK x.name t) s.xs=(decide (bK (s.at i).name t=0)):=by
    unfold dk;rw[hr]
    rw[decide_eq_true (show i<s.xs.length by omega)];rfl
  rw[hr,ny]
  rfl
 refine Mi ?_ (pc (pR ((i:Int)+(j:Int))) (pc (pG [(21,.val (.int .u64 ((i:Int)+(j:Int))))] (oc ((jD Tryz.underlying3 Tryz.underlying203 (by omega) (by omega)): ∀w,(convert 3 203 (vi ((i:Int)+(j:Int))):Sem Value).run prog w=.ok (.int .u64 ((i:Int)+(j:Int))) w) on)) (pc (pG [(22,.val (.int .u64 (((i:Int)+(j:Int)) / 2)))] (oc (qo: ∀w,(do eqGuard .shr 203 (.tmp 21) (.const (.int .u64 1)) (.int .u64 ((i:Int)+(j:Int))) (.int .u64 1);binOp .shr 203 (.int .u64 ((i:Int)+(j:Int))) (.int .u64 1):Sem Value).run prog w=.ok (.int .u64 (((i:Int)+(j:Int)) / 2)) w) on)) (pc (pG [(23,.val (vi (((i:Int)+(j:Int)) / 2)))] (oc ((jE Tryz.underlying203 Tryz.underlying3 (by omega) (by omega)): ∀w,(convert 203 3 (.int .u64 (((i:Int)+(j:Int)) / 2)):Sem Value).run prog w=.ok (vi (((i:Int)+(j:Int)) / 2)) w) on)) (pA 27 28 (((i:Int)+(j:Int)) / 2) (((i:Int)+(j:Int)) / 2).toNat (db hs))))))
 refine Mp ?_ call194 (fun bs w hS=>sO (s.at (((i:Int)+(j:Int)) / 2).toNat) t w)
 refine Md (bK (s.at (((i:Int)+(j:Int)) / 2).toNat).name t<0) (fun h2=>?_) fun h2=>?_
 rotate_left
 ·have yo:f=(f - 1)+1:=by omega
  rw[yo]at hI
  have sh:=hI.trans (mH (by omega) (decide_eq_false (by assumption)))
  exact bu ⟨i,(i+j) / 2,f - 1⟩ ⟨by omega,by omega,by omega,sh⟩ (by show f - 1<f;omega)
 refine Mi ?_ (pR ((((i:Int)+(j:Int)) / 2)+1))
 have yo:f=(f - 1)+1:=by omega
 rw[yo]at hI
 have sh:=hI.trans (qu (by omega) (decide_eq_true (by assumption)))
 exact bu ⟨(i+j) / 2+1,j,f - 1⟩ ⟨by omega,by omega,by omega,sh⟩ (by show f - 1<f;omega)
theorem xB (s:Sl aG)(t:ByteArray)(w:World)(hs:s.rd B w)(hn:s.n≤1048576):Calls prog 151 #[s.val,vs t] w fun e w'=>e=.returned (.tuple #[vi (eQ (fun x:aG=>bK x.name t) s.xs:Nat),vb (dk (fun x:aG=>bK x.name t) s.xs)])∧Kp [] w w':=by
 have cV:=Sl.rd.ok hs
 have iV:=Sl.ok.nc cV
 have iW:s.n=s.xs.length:=rfl
 refine M0 ?_ func151
 refine Mp ?_ call193 (fun bs w hS=>vp s t w (Sl.rd.kp hs hS.kp) (by omega))
 exact Mt [vi ((eQ (fun x:aG=>bK x.name t) s.xs:Nat):Int),vb (dk (fun x:aG=>bK x.name t) s.xs)] fun bs w hS=>⟨rfl,hS.kp⟩
theorem lW (s:Sl aG)(t:ByteArray)(w:World)(hs:s.rd B w):Calls prog 106 #[s.val,vs t] w fun e w'=>e=.returned (vi (aQ (fun x:aG=>decide (x.name=t)) s.xs))∧Kp [] w w':=by
 have cV:=Sl.rd.ok hs
 have iV:=Sl.ok.nc cV
 have iW:s.n=s.xs.length:=rfl
 refine M0 ?_ func106
 refine Ml (σ:=Nat) (fun i=>i≤s.n∧ ∀j,j<i→decide ((s.at j).name=t)=false) (fun i=>s.n - i) (fun _=>[]) [5,0,1] (fun i=>[(5,vI (i:Int))]) (fun _=>[]) ?_ 0 ⟨Nat.zero_le _,fun j hj=>absurd hj (Nat.not_lt_zero _)⟩
 rintro i ⟨hi,hI⟩ _ bu
 refine Md ((i:Int)<(s.n:Int)) (fun h1=>?_) fun h1=>?_
 rotate_left
 ·exact cd (-1) (by rw[gp (p:=(fun x:aG=>decide (x.name=t))) fun j hj=>hI j (by omega)])
 refine Mi ?_ (pc (pI 14 (i:Int) i (db hs)) (pF 16 i 0 1 (db hs)))
 refine Md ((s.at i).name=t) (fun h2=>?_) fun h2=>?_
 ·exact cd (i:Int) (by rw[fR (p:=(fun x:aG=>decide (x.name=t))) (i:=i) (by omega) (decide_eq_true (by assumption)) hI])
 refine Mi ?_ (pR ((i:Int)+1))
 exact bu (i+1) ⟨by omega,fun j hj=>by rcases Nat.lt_succ_iff_lt_or_eq.1 hj with h|h;exact hI j h;subst h;exact decide_eq_false (by assumption)⟩ (by omega)
theorem vq (s:Sl aG)(w:World)(hs:s.rd B w)(hb:s.n*40≤140737488355328):Calls prog 69 #[s.val] w fun e w'=> ∃y:Sl aG,e=.returned y.val∧y.xs=s.xs∧Kp [] w w'∧gC w w' (ay 128 y.A y.c y.xs):=by
 have cV:=Sl.rd.ok hs
 have iV:=Sl.ok.nc cV
 have iW:s.n=s.xs.length:=rfl
 refine M0 ?_ func69
 refine Mi ?_ (pG [(4,.val (.bool s.A.isNone))] (oc ((eq_nil Tryz.underlying23): ∀w,(do eqGuard .eql 23 (.tmp 3) (.const vn) s.val vn;binOp .eql 23 s.val vn:Sem Value).run prog w=.ok (.bool s.A.isNone) w) on))
 refine Mb s.A.isNone (fun h1=>?_) fun h1=>?_
 ·refine Mt [vn] fun bs w hS=>?_
  have yq:s.xs=[]:=Sl.ok.empty cV (by cases h:s.A<;>simp_all)
  exact⟨Sl.nil,rfl,yq.symm,hS.kp,nX 128 w⟩
 refine LM ?_ (α:=aG) (e:=128)
 intro A1
 refine Ma ?_ (α:=aG) (L2:=s.xs) 40 (fun bs w hS=>Sl.rd.src (s:=s) (Sl.rd.kp hs hS.kp))
 intro A2 c2
 exact Mt [.slice A2 ([]++s.xs).length c2] fun bs w hS=>⟨⟨A2,c2,[]++s.xs⟩,rfl,by simp,hS.kp,hS.rG⟩
theorem B7 {B B':Nat→Prop}(a b:Sl aG)(w:World)(ha:a.rd B w)(hb:b.rd B' w)(he:a.xs=b.xs):Calls prog 44 #[a.val,b.val] w fun e w'=>e=.returned (vb true)∧Kp [] w w':=by
 have qa:=Sl.rd.ok ha
 have EV:=Sl.rd.ok hb
 have hn:=sT he
 have JP:=Sl.ok.nc qa
 refine M0 ?_ func44
 refine cr ((a.n:Int)=(b.n:Int)) (fun h1=>?_) fun h1=>?_
 rotate_left
 ·exfalso;first|omega|exact h1 (jm he i)
 refine Ml (σ:=Nat) (fun i=>True) (fun i=>a.n - i) (fun _=>[]) [5,0,1] (fun i=>[(5,vI (i:Int))]) (fun _=>[]) ?_ 0 trivial
 rintro i _ _ bu
 have fg:=jm he i
 refine Md ((i:Int)<(a.n:Int)) (fun h2=>?_) fun h2=>?_
 rotate_left
 ·exact Mt [vb true] fun bs w hS=>⟨rfl,hS.kp⟩
 refine cZ 9 [] [] [] ai ?_
 refine bY ?_ (pc (pA 19 20 (i:Int) i (db ha)) (pc (pA 23 24 (i:Int) i (db hb)) (pG [(25,.val (vb (!((decide ((a.at i).name=(b.at i).name)) && ((decide ((a.at i).value=(b.at i).value)) && ((decide ((a.at i).version=(b.at i).version)) && true))))))] (oc ((qn (by kernel_rfl) (by kernel_rfl)): ∀w,(do eqGuard .neq 128 (.tmp 20) (.tmp 24) (a.at i).val (b.at i).val;binOp .neq 128 (a.at i).val (b.at i).val:Sem Value).run prog w=.ok (vb (!((decide ((a.at i).name=(b.at i).name)) && ((decide ((a.at i).value=(b.at i).value)) && ((decide ((a.at i).version=(b.at i).version)) && true))))) w) on))))
 refine fL ((decide ((a.at i).name=(b.at i).name)) && ((decide ((a.at i).value=(b.at i).value)) && ((decide ((a.at i).version=(b.at i).version)) && true))) (fun h3=>?_) fun h3=>?_
 rotate_left
 ·exfalso;simp[jm he i]at h3
 refine Mi ?_ (pR ((i:Int)+1))
 exact bu (i+1) trivial (by omega)
theorem GF (s:Sl aG)(t v:ByteArray)(w:World)(hs:s.rd B w)(ht:t.size≤9223372036854775807)(hv:v.size≤9223372036854775807):Calls prog 87 #[.slice s.A s.n s.c,.string t,.string v] w fun e w'=> ∃y:Sl aG,e=.returned (.tuple #[.slice y.A y.n y.c,.agg #[.int .i64 ((cA s.xs t v).2.1).code,.int .i64 ((cA s.xs t v).2.1).n,.string ((cA s.xs t v).2.1).text],.int .i64 (cA s.xs t v).2.2])∧y.xs=(cA s.xs t v).1∧bJ w w' y:=by
 have cV:=Sl.rd.ok hs
 have iV:=Sl.ok.nc cV
 have iW:s.n=s.xs.length:=rfl
 refine M0 ?_ func87
 refine Mp ?_ call65 (fun bs w hS=>pW s w (Sl.rd.kp hs hS.kp))
 refine cr (cy s.xs=0) (fun h1=>?_) fun h1=>?_
 rotate_left
 ·refine Mt [vn,vz 0,vi (cy s.xs)] fun bs w hS=>?_
  have hm:cA s.xs t v=([],gl,cy s.xs):=by
    grind[cA,mm]
  refine⟨Sl.nil,?_,?_,hS.aO (Sl.ao _ _)⟩
  ·rw[hm]<;>rfl
  ·rw[hm]<;>rfl
 have mh:=(iz h1).1
 refine Mp ?_ (vs:=fun bs=>[vs t]) call129 (fun bs w hS=>mQ _ w (by first|assumption|omega|(simp only[aL];omega)))
 refine fL (ee t) (fun h2=>?_) fun h2=>?_
 rotate_left
 ·refine Mt [vn,vz 0,vi 4] fun bs w hS=>?_
  have hm:cA s.xs t v=([],gl,4):=by
    grind[cA,mm]
  refine⟨Sl.nil,?_,?_,hS.aO (Sl.ao _ _)⟩
  ·rw[hm]<;>rfl
  ·rw[hm]<;>rfl
 refine Md ((12:Int)<(v.size:Int)) (fun h3=>?_) fun h3=>?_
 ·refine Mt [vn,vz 0,vi 1] fun bs w hS=>?_
  have hm:cA s.xs t v=([],gl,1):=by
    grind[cA,mm]
  refine⟨Sl.nil,?_,?_,hS.aO (Sl.ao _ _)⟩
  ·rw[hm]<;>rfl
  ·rw[hm]<;>rfl
 refine Mf ?_ call69 (fun bs w hS=>vq s w (Sl.rd.kp hs hS.kp) (by omega))
 rintro y1 a5
 obtain⟨A1,c1,rfl⟩:=Sl.wO a5
 refine eu (ay 128 A1 c1 (s.xs:List aG)) (List.Sublist.refl _) (fun w h=>h) ?_
 refine bk (F:=dY A1 c1 (s.xs:List aG)) (fun bs w hS=>br (hS.res _ i0)) fun cI=>?_
 have cn:=cI.2
 refine Mp ?_ (v:=.tuple #[vi ((eQ (fun x:aG=>bK x.name t) s.xs:Nat):Int),vb (dk (fun x:aG=>bK x.name t) s.xs)]) call151 (fun bs w hS=>xB (⟨A1,c1,s.xs⟩:Sl aG) t w (Rr (B:=bH) (hS.res _ i0) (fun _ _=>trivial) (fun z hz=>Sl.rd.mem (s:=s) hs z hz)) (show s.xs.length≤1048576 by omega))
 have oB:=qv (l:=s.xs) (by assumption) t
 have qc:=du (fun x:aG=>decide (x.name=t)) s.xs
 generalize hJ:aQ (fun x:aG=>decide (x.name=t)) s.xs=J at oB qc
 have wZ:=n5 (fun x:aG=>bK x.name t) s.xs
 generalize hk:eQ (fun x:aG=>bK x.name t) s.xs=k at oB wZ⊢
 generalize hf:dk (fun x:aG=>bK x.name t) s.xs=fb at oB⊢
 refine HN fb true [(11,false)] (fun h4=>?_) fun h4=>?_
 rotate_left
 ·have Au:=of_decide_eq_false (oB.1.symm.trans h4)
  refine Md ((s.xs.length:Int)=5) (fun h6=>?_) fun h6=>?_
  ·refine Mt [.slice A1 s.xs.length c1,vz 8,vi 0] fun bs w hS=>?_
   have hm:cA s.xs t v=(s.xs,⟨8,0,emp⟩,0):=by
     grind[cA,mm]
   refine⟨⟨A1,c1,s.xs⟩,?_,?_,hS.aO (y:=(⟨A1,c1,s.xs⟩:Sl aG)) (a4 i0 (hS.res _ i0) (fun z hz=>Sl.rd.mem (s:=s) hs z hz))⟩
   ·rw[hm]<;>rfl
   ·exact Eq.trans rfl (congrArg Prod.fst hm).symm
  refine M1 ?_
  refine nF ?_ (v:=fun q5=>.slice q5.1 (s.xs.take k++[(⟨t,v,1⟩:aG)]++s.xs.drop k).length q5.2) (vs:=fun bs=>[.slice A1 s.xs.length c1,vi (k:Int),.slice (some (kv bs 1 0)) 1 1]) call152 (fun bs w hS=>(Eu A1 c1 s.xs k _ (⟨t,v,1⟩:aG) (bs.getD 1 0) 128 w (hS.res _ i0) hS.lH.2.2 rfl (by first|omega|(simp only[Sl.n] at*;omega)) (by first|omega|(simp only[Sl.n] at*;omega)) (hS.loc 1 ⟨128,[vS t,vS v,vI 1]⟩ (by kernel_rfl) (by simp)) (hS.tp (i:=1) (b:=⟨128,[vS t,vS v,vI 1]⟩) (by kernel_rfl))).mono (fun e w' ⟨y,h1,h2⟩=>⟨y,h1,trivial,h2⟩))
  rintro q5 _
  refine Mt [.slice q5.1 (s.xs.take k++[(⟨t,v,1⟩:aG)]++s.xs.drop k).length q5.2,.agg #[vi 0,vi 1,ve],vi 0] fun bs w hS=>?_
  have gf:s.xs.take k++[(⟨t,v,1⟩:aG)]++s.xs.drop k=dW (fun x:aG=>Op.bytesLess t.toList x.name.toList) ⟨t,v,1⟩ s.xs:=xW ((wN aG.name (wD (by assumption) t) (by rw[hJ];omega)).trans hk)
  have hm:cA s.xs t v=(dW (fun x:aG=>Op.bytesLess t.toList x.name.toList) ⟨t,v,1⟩ s.xs,⟨0,1,emp⟩,0):=by
    grind[cA,mm]
  refine⟨⟨q5.1,q5.2,s.xs.take k++[(⟨t,v,1⟩:aG)]++s.xs.drop k⟩,?_,?_,hS.aO (y:=(⟨q5.1,q5.2,s.xs.take k++[(⟨t,v,1⟩:aG)]++s.xs.drop k⟩:Sl aG)) (a4 i0 (hS.res _ i0) (fun z hz=>?_))⟩
  ·rw[hm]<;>rfl
  ·exact Eq.trans gf (congrArg Prod.fst hm).symm
  ·rw[gf]at hz
   rcases ko hz with hz|hz
   ·subst hz;exact⟨ht,hv⟩
   ·exact Sl.rd.mem (s:=s) hs z hz
 have Gy:=oB.2 h4
 subst Gy
 have MR:=ue ((iz (l:=s.xs) (by assumption)).2 k (by omega))
 have Pc:=MR.2.2.1
 have Pd:=MR.2.2.2.1
 refine Mi ?_ (pc (fG 46 (k:Int) k s.xs.length i0) (lg 48 k 2 1 i0))
 refine Md ((s.xs.getD k default).version=1073741824) (fun h5=>?_) fun h5=>?_
 ·refine Mt [.slice A1 s.xs.length c1,vz 8,vi 0] fun bs w hS=>?_
  have hm:cA s.xs t v=(s.xs,⟨8,0,emp⟩,0):=by
    grind[cA,mm]
  refine⟨⟨A1,c1,s.xs⟩,?_,?_,hS.aO (y:=(⟨A1,c1,s.xs⟩:Sl aG)) (a4 i0 (hS.res _ i0) (fun z hz=>Sl.rd.mem (s:=s) hs z hz))⟩
  ·rw[hm]<;>rfl
  ·exact Eq.trans rfl (congrArg Prod.fst hm).symm
 refine Mi ?_ (fG 67 (k:Int) k s.xs.length i0)
 refine Ms k 1 (⟨(s.xs.getD k default).name,v,(s.xs.getD k default).version⟩:aG) ?_ (by omega)
 intro L3 sY BZ
 have ki:L3.getD k default=(⟨(s.xs.getD k default).name,v,(s.xs.getD k default).version⟩:aG):=by rw[sY];exact bQ (by omega)
 have iX:L3=List.set s.xs k (⟨(s.xs.getD k default).name,v,(s.xs.getD k default).version⟩:aG):=by rw[sY]
 refine Mi ?_ (pc (fG 71 (k:Int) k s.xs.length i0) (pc (l5 73 k 2 1 ki i0) (pc (pR ((s.xs.getD k default).version+1)) (fG 75 (k:Int) k s.xs.length i0))))
 refine Ms k 2 (⟨(s.xs.getD k default).name,v,(s.xs.getD k default).version+1⟩:aG) ?_ (by omega) (hg:=ki)
 intro L4 qb An
 have j2:L4.getD k default=(⟨(s.xs.getD k default).name,v,(s.xs.getD k default).version+1⟩:aG):=by rw[qb];exact bQ (by omega)
 have lV:L4=List.set s.xs k (⟨(s.xs.getD k default).name,v,(s.xs.getD k default).version+1⟩:aG):=by rw[qb,iX,List.set_set]
 refine cZ 10 [] [0] [ay 128 A1 c1 (L4:List aG)] ai ?_
 refine bY ?_ (pc (fG 80 (k:Int) k s.xs.length i0) (l5 82 k 2 1 j2 i0))
 refine Mz ?_
 refine Mt [.slice A1 s.xs.length c1,.agg #[vi 0,vi ((s.xs.getD k default).version+1),ve],vi 0] fun bs w hS=>?_
 have gf:L4=s.xs.set k ⟨(s.xs.getD k default).name,v,(s.xs.getD k default).version+1⟩:=lV
 have hm:cA s.xs t v=(s.xs.set k ⟨(s.xs.getD k default).name,v,(s.xs.getD k default).version+1⟩,⟨0,(s.xs.getD k default).version+1,emp⟩,0):=by
   grind[cA,mm]
 refine⟨⟨A1,c1,L4⟩,?_,?_,hS.aO (y:=(⟨A1,c1,L4⟩:Sl aG)) (a4 i0 (hS.res _ i0) (fun z hz=>?_))⟩
 ·have gB:L4.length=s.xs.length:=by rw[gf,List.length_set]
  rw[hm]
  exact congrArg (fun q=>Ending.returned (.tuple #[.slice A1 q c1,.agg #[vi 0,vi ((s.xs.getD k default).version+1),ve],vi 0])) gB.symm
 ·exact Eq.trans gf (congrArg Prod.fst hm).symm
 ·rw[gf]at hz
  rcases mem_set hz with hz|hz
  ·subst hz;exact⟨(Sl.rd.mem (s:=s) hs _ (aB (i:=k) (by omega))).1,hv⟩
  ·exact Sl.rd.mem (s:=s) hs z hz
theorem Ew (s:Sl aG)(t v:ByteArray)(w:World)(hs:s.rd B w)(ht:t.size≤9223372036854775807)(hv:v.size≤9223372036854775807):Calls prog 41 #[.slice s.A s.n s.c,.string t,.string v] w fun e w'=> ∃y:Sl aG,e=.returned (.tuple #[.slice y.A y.n y.c,.agg #[.int .i64 ((cA s.xs t v).2.1).code,.int .i64 ((cA s.xs t v).2.1).n,.string ((cA s.xs t v).2.1).text],.int .i64 (cA s.xs t v).2.2])∧y.xs=(cA s.xs t v).1∧bJ w w' y:=by
 have cV:=Sl.rd.ok hs
 have iV:=Sl.ok.nc cV
 have iW:s.n=s.xs.length:=rfl
 refine M0 ?_ func41
 refine Mp ?_ call94 (fun bs w hS=>lS s w (Sl.rd.kp hs hS.kp))
 refine Md (cy s.xs=0) (fun h1=>?_) fun h1=>?_
 rotate_left
 ·refine My false false ?_ (df h1)
  refine My false true ?_ (df h1)
  refine Mt [vn,vz 0,vi (cy s.xs)] fun bs w hS=>?_
  have hm:cA s.xs t v=([],gl,cy s.xs):=by
    grind[cA,mm]
  refine⟨Sl.nil,?_,?_,hS.aO (Sl.ao _ _)⟩
  ·rw[hm]<;>rfl
  ·rw[hm]<;>rfl
 have mh:=(iz h1).1
 refine Mp ?_ (vs:=fun bs=>[vs t]) call107 (fun bs w hS=>kL _ w (by first|assumption|omega|(simp only[aL];omega)))
 refine fL (ee t) (fun h2=>?_) fun h2=>?_
 rotate_left
 ·refine Mq 26 false ?_ rfl
  refine Mq 32 true ?_ rfl
  refine Mt [vn,vz 0,vi 4] fun bs w hS=>?_
  have hm:cA s.xs t v=([],gl,4):=by
    grind[cA,mm]
  refine⟨Sl.nil,?_,?_,hS.aO (Sl.ao _ _)⟩
  ·rw[hm]<;>rfl
  ·rw[hm]<;>rfl
 refine My true false ?_ (dt h1)
 refine Md ((12:Int)<(v.size:Int)) (fun h4=>?_) fun h4=>?_
 ·refine Mq 32 true ?_ rfl
  refine Mt [vn,vz 0,vi 1] fun bs w hS=>?_
  have hm:cA s.xs t v=([],gl,1):=by
    grind[cA,mm]
  refine⟨Sl.nil,?_,?_,hS.aO (Sl.ao _ _)⟩
  ·rw[hm]<;>rfl
  ·rw[hm]<;>rfl
 refine My true true ?_ (dt h1)
 refine bU (α:=aG) 128 ?_
 refine Ma ?_ (α:=aG) (L2:=s.xs) 40 (fun bs w hS=>Sl.rd.src (s:=s) (Sl.rd.kp hs hS.kp))
 intro A1 c1
 refine eu (ay 128 A1 c1 (s.xs:List aG)) (List.Sublist.refl _) (fun w h=>h) ?_
 refine bk (F:=dY A1 c1 (s.xs:List aG)) (fun bs w hS=>br (hS.res _ i0)) fun cI=>?_
 have cn:=cI.2
 refine Mp ?_ (v:=vi (aQ (fun x:aG=>decide (x.name=t)) s.xs)) call106 (fun bs w hS=>lW (⟨A1,c1,s.xs⟩:Sl aG) t w (Rr (B:=bH) (hS.res _ i0) (fun _ _=>trivial) (fun z hz=>Sl.rd.mem (s:=s) hs z hz)))
 have qc:=du (fun x:aG=>decide (x.name=t)) s.xs
 generalize hJ:aQ (fun x:aG=>decide (x.name=t)) s.xs=J at qc⊢
 refine Md ((0:Int)≤J) (fun h6=>?_) fun h6=>?_
 ·have Au:0≤J:=by omega
  have MR:=ue ((iz (l:=s.xs) (by assumption)).2 J.toNat (by omega))
  have Pc:=MR.2.2.1
  have Pd:=MR.2.2.2.1
  refine Mi ?_ (pc (fG 44 J J.toNat (s.xs).length i0) (lg 46 J.toNat 2 1 i0))
  refine Md ((1073741824:Int)≤(s.xs.getD J.toNat default).version) (fun h7=>?_) fun h7=>?_
  ·refine Mt [.slice A1 (s.xs).length c1,vz 8,vi 0] fun bs w hS=>?_
   have hm:cA s.xs t v=(s.xs,⟨8,0,emp⟩,0):=by
     grind[cA,mm]
   refine⟨⟨A1,c1,s.xs⟩,?_,?_,hS.aO (y:=(⟨A1,c1,s.xs⟩:Sl aG)) (a4 i0 (hS.res _ i0) (fun z hz=>Sl.rd.mem (s:=s) hs z hz))⟩
   ·rw[hm]<;>rfl
   ·exact Eq.trans rfl (congrArg Prod.fst hm).symm
  refine Mi ?_ (fG 53 J J.toNat (s.xs).length i0)
  refine Ms J.toNat 1 (⟨(s.xs.getD J.toNat default).name,v,(s.xs.getD J.toNat default).version⟩:aG) ?_ (by omega)
  intro L2 r8 OT
  have Ib:L2.getD J.toNat default=(⟨(s.xs.getD J.toNat default).name,v,(s.xs.getD J.toNat default).version⟩:aG):=by rw[r8];exact bQ (by omega)
  have JS:L2=List.set s.xs J.toNat (⟨(s.xs.getD J.toNat default).name,v,(s.xs.getD J.toNat default).version⟩:aG):=by rw[r8]
  refine Mi ?_ (pc (fG 57 J J.toNat (s.xs).length i0) (pc (l5 59 J.toNat 2 1 Ib i0) (pc (pR ((s.xs.getD J.toNat default).version+1)) (fG 61 J J.toNat (s.xs).length i0))))
  refine Ms J.toNat 2 (⟨(s.xs.getD J.toNat default).name,v,(s.xs.getD J.toNat default).version+1⟩:aG) ?_ (by omega) (hg:=Ib)
  intro L3 sY BZ
  have ki:L3.getD J.toNat default=(⟨(s.xs.getD J.toNat default).name,v,(s.xs.getD J.toNat default).version+1⟩:aG):=by rw[sY];exact bQ (by omega)
  have iX:L3=List.set s.xs J.toNat (⟨(s.xs.getD J.toNat default).name,v,(s.xs.getD J.toNat default).version+1⟩:aG):=by rw[sY,JS,List.set_set]
  refine cZ 10 [] [0] [ay 128 A1 c1 (L3:List aG)] ai ?_
  refine bY ?_ (pc (fG 66 J J.toNat (s.xs).length i0) (l5 68 J.toNat 2 1 ki i0))
  refine Mz ?_
  refine Mt [.slice A1 (s.xs).length c1,.agg #[vi 0,vi ((s.xs.getD J.toNat default).version+1),ve],vi 0] fun bs w hS=>?_
  have gf:L3=s.xs.set J.toNat ⟨(s.xs.getD J.toNat default).name,v,(s.xs.getD J.toNat default).version+1⟩:=iX
  have hm:cA s.xs t v=(s.xs.set J.toNat ⟨(s.xs.getD J.toNat default).name,v,(s.xs.getD J.toNat default).version+1⟩,⟨0,(s.xs.getD J.toNat default).version+1,emp⟩,0):=by
    grind[cA,mm]
  refine⟨⟨A1,c1,L3⟩,?_,?_,hS.aO (y:=(⟨A1,c1,L3⟩:Sl aG)) (a4 i0 (hS.res _ i0) (fun z hz=>?_))⟩
  ·have gB:L3.length=s.xs.length:=by rw[gf,List.length_set]
   rw[hm]
   exact congrArg (fun q=>Ending.returned (.tuple #[.slice A1 q c1,.agg #[vi 0,vi ((s.xs.getD J.toNat default).version+1),ve],vi 0])) gB.symm
  ·exact Eq.trans gf (congrArg Prod.fst hm).symm
  ·rw[gf]at hz
   rcases mem_set hz with hz|hz
   ·subst hz;exact⟨(Sl.rd.mem (s:=s) hs _ (aB (i:=J.toNat) (by omega))).1,hv⟩
   ·exact Sl.rd.mem (s:=s) hs z hz
 have Au: ¬0≤J:=by omega
 refine Md ((5:Int)≤(((s.xs).length:Nat):Int)) (fun h8=>?_) fun h8=>?_
 ·refine Mt [.slice A1 (s.xs).length c1,vz 8,vi 0] fun bs w hS=>?_
  have hm:cA s.xs t v=(s.xs,⟨8,0,emp⟩,0):=by
    grind[cA,mm]
  refine⟨⟨A1,c1,s.xs⟩,?_,?_,hS.aO (y:=(⟨A1,c1,s.xs⟩:Sl aG)) (a4 i0 (hS.res _ i0) (fun z hz=>Sl.rd.mem (s:=s) hs z hz))⟩
  ·rw[hm]<;>rfl
  ·exact Eq.trans rfl (congrArg Prod.fst hm).symm
 refine bU (α:=aG) 128 ?_
 refine Ml (σ:=Nat×Bool×Option Addr×Nat×List aG) (fun⟨k,b,A,c,L⟩=>jJ (fun x:aG=>Op.bytesLess t.toList x.name.toList) (⟨t,v,1⟩:aG) s.xs k b L) (fun⟨k,b,A,c,L⟩=>s.xs.length - k) (fun⟨k,b,A,c,L⟩=>[ay 128 A c (L:List aG),ay 128 A1 c1 (s.xs:List aG)]) [14,13,12,10,7,1,2] (fun⟨k,b,A,c,L⟩=>[(14,vI (k:Int)),(13,vB b),(12,.v (.slice A L.length c))]) (fun _=>[]) ?_ (⟨0,false,none,0,[]⟩) (show jJ (fun x:aG=>Op.bytesLess t.toList x.name.toList) (⟨t,v,1⟩:aG) s.xs 0 false [] from jJ.start _ _ _)
 rintro⟨k,b,A,c,L⟩ hI _ bu
 have MB:=hI.len
 have MC:=hI.le
 refine Md ((k:Int)<(((s.xs).length:Nat):Int)) (fun h9=>?_) fun h9=>?_
 rotate_left
 ·refine fL b (fun jW=>?_) fun jW=>?_
  ·refine Mt [.slice A L.length c,.agg #[vi 0,vi 1,ve],vi 0] fun bs w hS=>?_
   clear bu
   have gf:L=dW (fun x:aG=>Op.bytesLess t.toList x.name.toList) ⟨t,v,1⟩ s.xs:=(hI.HH (by assumption) (by omega))
   have hm:cA s.xs t v=(dW (fun x:aG=>Op.bytesLess t.toList x.name.toList) ⟨t,v,1⟩ s.xs,⟨0,1,emp⟩,0):=by
     grind[cA,mm]
   refine⟨⟨A,c,L⟩,?_,?_,hS.aO (y:=(⟨A,c,L⟩:Sl aG)) (a4 i0 (hS.res _ i0) (fun z hz=>?_))⟩
   ·rw[hm]<;>rfl
   ·exact Eq.trans gf (congrArg Prod.fst hm).symm
   ·rw[gf]at hz
    rcases ko hz with hz|hz
    ·subst hz;exact⟨ht,hv⟩
    ·exact Sl.rd.mem (s:=s) hs z hz
  refine M1 ?_
  refine gX (α:=aG) 40 ([(⟨t,v,1⟩:aG)]) ?_
  intro A8 c8
  refine bk (F:=dY A8 c8 (L++[(⟨t,v,1⟩:aG)]:List aG)) (fun bs w hS=>br (hS.res _ i0)) fun MS=>?_
  have NO:=MS.2
  refine Mt [.slice A8 (L++[(⟨t,v,1⟩:aG)]).length c8,.agg #[vi 0,vi 1,ve],vi 0] fun bs w hS=>?_
  clear bu
  have gf:L++[(⟨t,v,1⟩:aG)]=dW (fun x:aG=>Op.bytesLess t.toList x.name.toList) ⟨t,v,1⟩ s.xs:=(hI.HI (by assumption) (by omega))
  have hm:cA s.xs t v=(dW (fun x:aG=>Op.bytesLess t.toList x.name.toList) ⟨t,v,1⟩ s.xs,⟨0,1,emp⟩,0):=by
    grind[cA,mm]
  refine⟨⟨A8,c8,L++[(⟨t,v,1⟩:aG)]⟩,?_,?_,hS.aO (y:=(⟨A8,c8,L++[(⟨t,v,1⟩:aG)]⟩:Sl aG)) (a4 i0 (hS.res _ i0) (fun z hz=>?_))⟩
  ·rw[hm]<;>rfl
  ·exact Eq.trans gf (congrArg Prod.fst hm).symm
  ·rw[gf]at hz
   rcases ko hz with hz|hz
   ·subst hz;exact⟨ht,hv⟩
   ·exact Sl.rd.mem (s:=s) hs z hz
 refine HN b true [(13,false)] (fun ir=>?_) fun ir=>?_
 ·refine Mi ?_ (pc (fG 101 (k:Int) k (s.xs).length i1) (C1 102 k i1))
  refine M1 ?_
  refine gX (α:=aG) 40 ([(⟨(s.xs.getD k default).name,(s.xs.getD k default).value,(s.xs.getD k default).version⟩:aG)]) ?_
  intro A4 c4
  refine bk (F:=dY A4 c4 (L++[(⟨(s.xs.getD k default).name,(s.xs.getD k default).value,(s.xs.getD k default).version⟩:aG)]:List aG)) (fun bs w hS=>br (hS.res _ i0)) fun MT=>?_
  have NP:=MT.2
  refine Mi ?_ (pR ((k:Int)+1))
  exact bu ⟨k+1,true,A4,c4,L++[(⟨(s.xs.getD k default).name,(s.xs.getD k default).value,(s.xs.getD k default).version⟩:aG)]⟩ (by first|exact hI.more (by assumption) (by omega)|exact hI.ES (by assumption) (by omega) (by assumption)|exact hI.skip (by assumption) (by omega) (by assumption)) (by show s.xs.length - (k+1)<s.xs.length - k;omega)
 refine Mi ?_ (pc (fG 86 (k:Int) k (s.xs).length i1) (lg 88 k 0 1 i1))
 refine fL (Op.bytesLess ((s.xs.getD k default).name).toList (t).toList||decide ((s.xs.getD k default).name=t)) (fun g7=>?_) fun g7=>?_
 ·rw[bytes_total]at g7
  simp only[Bool.not_eq_true',Bool.not_eq_false',Bool.not_eq_true,Bool.not_eq_false]at g7
  refine Mi ?_ (pc (fG 101 (k:Int) k (s.xs).length i1) (C1 102 k i1))
  refine M1 ?_
  refine gX (α:=aG) 40 ([(⟨(s.xs.getD k default).name,(s.xs.getD k default).value,(s.xs.getD k default).version⟩:aG)]) ?_
  intro A5 c5
  refine bk (F:=dY A5 c5 (L++[(⟨(s.xs.getD k default).name,(s.xs.getD k default).value,(s.xs.getD k default).version⟩:aG)]:List aG)) (fun bs w hS=>br (hS.res _ i0)) fun MU=>?_
  have NQ:=MU.2
  refine Mi ?_ (pR ((k:Int)+1))
  exact bu ⟨k+1,false,A5,c5,L++[(⟨(s.xs.getD k default).name,(s.xs.getD k default).value,(s.xs.getD k default).version⟩:aG)]⟩ (by first|exact hI.more (by assumption) (by omega)|exact hI.ES (by assumption) (by omega) (by assumption)|exact hI.skip (by assumption) (by omega) (by assumption)) (by show s.xs.length - (k+1)<s.xs.length - k;omega)
 rw[bytes_total]at g7
 simp only[Bool.not_eq_true',Bool.not_eq_false',Bool.not_eq_true,Bool.not_eq_false]at g7
 refine M1 ?_
 refine gX (α:=aG) 40 ([(⟨t,v,1⟩:aG)]) ?_
 intro A6 c6
 refine bk (F:=dY A6 c6 (L++[(⟨t,v,1⟩:aG)]:List aG)) (fun bs w hS=>br (hS.res _ i0)) fun MV=>?_
 have NR:=MV.2
 refine Mi ?_ (pc (fG 101 (k:Int) k (s.xs).length i1) (C1 102 k i1))
 refine M1 ?_
 refine gX (α:=aG) 40 ([(⟨(s.xs.getD k default).name,(s.xs.getD k default).value,(s.xs.getD k default).version⟩:aG)]) ?_
 intro A7 c7
 refine bk (F:=dY A7 c7 (L++[(⟨t,v,1⟩:aG)]++[(⟨(s.xs.getD k default).name,(s.xs.getD k default).value,(s.xs.getD k default).version⟩:aG)]:List aG)) (fun bs w hS=>br (hS.res _ i0)) fun MW=>?_
 have NS:=MW.2
 refine Mi ?_ (pR ((k:Int)+1))
 exact bu ⟨k+1,true,A7,c7,L++[(⟨t,v,1⟩:aG)]++[(⟨(s.xs.getD k default).name,(s.xs.getD k default).value,(s.xs.getD k default).version⟩:aG)]⟩ (by first|exact hI.more (by assumption) (by omega)|exact hI.ES (by assumption) (by omega) (by assumption)|exact hI.skip (by assumption) (by omega) (by assumption)) (by show s.xs.length - (k+1)<s.xs.length - k;omega)
theorem yw (s:Sl aa)(n t:Int)(w:World)(hs:s.rd B w)(ht:ln t):Calls prog 25 #[s.val,vi n,vi t] w fun e w'=> ∃y:Sl aa,e=.returned (.tuple #[y.val,((dg (s.xs.map aa.abs) n t).2.1).val,vi (dg (s.xs.map aa.abs) n t).2.2])∧y.xs.map aa.abs=(dg (s.xs.map aa.abs) n t).1∧bJ w w' y:=by
 have cV:=Sl.rd.ok hs
 have iV:=Sl.ok.nc cV
 have iW:s.n=s.xs.length:=rfl
 have tB:(s.xs.map aa.abs).length=s.n:=by simp
 refine M0 ?_ func25
 refine Mp ?_ call63 (fun bs w hS=>gV s n w (Sl.rd.kp hs hS.kp))
 refine cr (bC (s.xs.map aa.abs) n=0) (fun h1=>?_) fun h1=>?_
 rotate_left
 ·refine Mt [vn,vz 0,vi (bC (s.xs.map aa.abs) n)] fun bs w hS=>?_
  have hm:dg (s.xs.map aa.abs) n t=([],gl,bC (s.xs.map aa.abs) n):=by
    grind[dg,ef]
  refine⟨Sl.nil,?_,?_,hS.aO (Sl.ao _ _)⟩
  ·rw[hm]<;>rfl
  ·rw[hm]<;>rfl
 obtain⟨EW,wo,mh,gI⟩:=dm h1
 have Er:s.xs.length≤4:=by simpa using mh
 refine Md (t<1) (fun h2=>?_) fun h2=>?_
 ·refine Mt [vn,vz 0,vi 2] fun bs w hS=>?_
  have hm:dg (s.xs.map aa.abs) n t=([],gl,2):=by
    grind[dg,ef]
  refine⟨Sl.nil,?_,?_,hS.aO (Sl.ao _ _)⟩
  ·rw[hm]<;>rfl
  ·rw[hm]<;>rfl
 refine Md ((9:Int)<t) (fun h3=>?_) fun h3=>?_
 ·refine Mt [vn,vz 0,vi 2] fun bs w hS=>?_
  have hm:dg (s.xs.map aa.abs) n t=([],gl,2):=by
    grind[dg,ef]
  refine⟨Sl.nil,?_,?_,hS.aO (Sl.ao _ _)⟩
  ·rw[hm]<;>rfl
  ·rw[hm]<;>rfl
 refine Md (n=1073741824) (fun h4=>?_) fun h4=>?_
 ·refine Mt [vn,vz 0,vi 2] fun bs w hS=>?_
  have hm:dg (s.xs.map aa.abs) n t=([],gl,2):=by
    grind[dg,ef]
  refine⟨Sl.nil,?_,?_,hS.aO (Sl.ao _ _)⟩
  ·rw[hm]<;>rfl
  ·rw[hm]<;>rfl
 refine Mf ?_ call70 (fun bs w hS=>iC s w (Sl.rd.kp hs hS.kp) (fC (by assumption)))
 rintro y1 a5
 refine dH ?_
 obtain⟨A1,c1,S1⟩:=y1
 have a5:S1.map aa.abs=s.xs.map aa.abs:=a5
 refine fO (R':=[bI (cj 141) S1,ay 118 A1 c1 (S1:List aa)]) (List.Perm.refl _) ?_
 have bn:=eW (y:=(⟨A1,c1,S1⟩:Sl aa)) (hs) a5
 have oA:S1.length=s.xs.length:=by simpa using congrArg List.length a5
 refine bk (F:= ∀i,i<S1.length→aJ.ok (S1.getD i dd)) (fun bs w hS i hi=>aJ.bL (B:=bH) (w:=w) (fY (hS.res _ i0) bn (aB hi))) fun gj=>?_
 refine bk (F:=dY A1 c1 (S1:List aa)) (fun bs w hS=>br (hS.res _ i1)) fun cI=>?_
 have cn:=cI.2
 have Gx:(S1.map aa.abs).length=S1.length:=by simp
 refine Mp ?_ call76 (fun bs w hS=>ll (⟨A1,c1,S1⟩:Sl aa) t w (gu (hS.res _ i0) (hS.res _ i1) bn) (show S1.length≤1048576 by omega))
 have oB:=n8 (L:=S1) (index:=n) (t:=t) (by rw[a5];assumption) ht
 have qc:=du (fun x:az=>decide (x.ag=t)) (S1.map aa.abs)
 generalize hJ:aQ (fun x:az=>decide (x.ag=t)) (S1.map aa.abs)=J at oB qc
 have wZ:=n5 (fun x:aa=>IntKind.i64.wrap (x.ag - t)) S1
 generalize hk:eQ (fun x:aa=>IntKind.i64.wrap (x.ag - t)) S1=k at oB wZ⊢
 generalize hf:dk (fun x:aa=>IntKind.i64.wrap (x.ag - t)) S1=fb at oB⊢
 refine Mb fb (fun h5=>?_) fun h5=>?_
 ·have Gy:=oB.2 h5
  subst Gy
  refine Mi ?_ (pc (pR (n+1)) (fG 44 (k:Int) k S1.length i1))
  refine cb ?_
  refine Ms k 3 (⟨(S1.getD k dd).ag,(S1.getD k dd).id,(S1.getD k dd).aC,n+1,(S1.getD k dd).ab⟩:aa) ?_ (by omega)
  intro L3 sY BZ
  have ki:L3.getD k dd=(⟨(S1.getD k dd).ag,(S1.getD k dd).id,(S1.getD k dd).aC,n+1,(S1.getD k dd).ab⟩:aa):=by rw[sY];exact bQ (by omega)
  have iX:L3=List.set S1 k (⟨(S1.getD k dd).ag,(S1.getD k dd).id,(S1.getD k dd).aC,n+1,(S1.getD k dd).ab⟩:aa):=by rw[sY]
  refine cZ 10 [] [0] [ay 118 A1 c1 (L3:List aa),bI (cj 141) S1] ai ?_
  refine bY ?_ (pc (fG 49 (k:Int) k S1.length i0) (l5 51 k 1 1 ki i0))
  refine Mz ?_
  refine Mt [.slice A1 S1.length c1,.agg #[vi 7,vi (S1.getD k dd).id,ve],vi 0] fun bs w hS=>?_
  have kj:bC (S1.map aa.abs) n=0:=by rw[a5];assumption
  rw[←a5]
  have gf:=dG iX
  have hm:dg (S1.map aa.abs) n t=((S1.map aa.abs).set k { (S1.getD k dd).abs with last:=n+1 },⟨7,(S1.getD k dd).id,emp⟩,0):=by
    unfold dg ef
    simp only[hJ,Int.toNat_natCast,lL,List.length_map]
    repeat (first|rw[if_pos (by first|assumption|omega)]|rw[if_neg (by first|assumption|omega|(intro h0;first|exact absurd h0 (by assumption)|(simp_all;done)))])
    all_goals rfl
  refine⟨⟨A1,c1,L3⟩,?_,?_,hS.aO (y:=(⟨A1,c1,L3⟩:Sl aa)) (bV i0 hS.res (fun x hx=>?_))⟩
  ·have gB:S1.length=L3.length:=by rw[iX,List.length_set]
   rw[hm]
   exact congrArg (fun q=>Ending.returned (.tuple #[.slice A1 q c1,.agg #[vi 7,vi (S1.getD k dd).id,ve],vi 0])) gB
  ·exact Eq.trans gf (congrArg Prod.fst hm).symm
  ·rw[iX]at hx
   rcases mem_set hx with hx|hx
   ·subst hx;exact cY (x:=S1.getD k dd) i1 hS.res bn (aB (L:=S1) (i:=k) (by omega))
   ·exact cY i1 hS.res bn hx
 have Au:=of_decide_eq_false (oB.1.symm.trans h5)
 refine Md ((S1.length:Int)=4) (fun h6=>?_) fun h6=>?_
 ·refine Mt [.slice A1 S1.length c1,vz 8,vi 0] fun bs w hS=>?_
  have kj:bC (S1.map aa.abs) n=0:=by rw[a5];assumption
  rw[←a5]
  have hm:dg (S1.map aa.abs) n t=(S1.map aa.abs,⟨8,0,emp⟩,0):=by
    grind[dg,ef]
  refine⟨⟨A1,c1,S1⟩,?_,?_,hS.aO (y:=(⟨A1,c1,S1⟩:Sl aa)) (bV i1 hS.res (fun x hx=>?_))⟩
  ·rw[hm]<;>rfl
  ·exact Eq.trans rfl (congrArg Prod.fst hm).symm
  ·exact cY i0 hS.res bn hx
 refine Mi ?_ (pc (pR (n+1)) (pR (n+1)))
 refine M1 ?_
 refine cb ?_
 refine nF ?_ call77 (fun bs w hS=>(yv A1 c1 S1 k _ (⟨t,n+1,0,n+1,Sl.nil⟩:aa) (bs.getD 1 0) 118 w (hS.res _ i0) hS.lH.2.2 rfl (by first|omega|(simp only[Sl.n] at*;omega)) (by first|omega|(simp only[Sl.n] at*;omega)) (hS.loc 1 ⟨118,[vI t,vI (n+1),vI 0,vI (n+1),.v vn]⟩ (by kernel_rfl) (by simp)) (hS.tp (i:=1) (b:=⟨118,[vI t,vI (n+1),vI 0,vI (n+1),.v vn]⟩) (by kernel_rfl))).mono (fun e w' ⟨y,h1,h2⟩=>⟨y,h1,trivial,h2⟩))
 rintro q4 _
 refine Mi ?_ (pR (n+1))
 refine Mt [.slice q4.1 (S1.take k++[(⟨t,n+1,0,n+1,Sl.nil⟩:aa)]++S1.drop k).length q4.2,.agg #[vi 0,vi (n+1),ve],vi 0] fun bs w hS=>?_
 have kj:bC (S1.map aa.abs) n=0:=by rw[a5];assumption
 rw[←a5]
 have Df:S1.take k++[(⟨t,n+1,0,n+1,Sl.nil⟩:aa)]++S1.drop k=dW (fun x:aa=>decide (t<x.ag)) (⟨t,n+1,0,n+1,Sl.nil⟩:aa) S1:=(xW ((FA (index:=n) kj (by omega) (by rw[hJ];omega)).trans hk))
 have gf:=uu Df
 have hm:dg (S1.map aa.abs) n t=(dW (fun x:az=>decide (t<x.ag)) ⟨t,n+1,0,n+1,[]⟩ (S1.map aa.abs),⟨0,n+1,emp⟩,0):=by
   grind[dg,ef]
 refine⟨⟨q4.1,q4.2,S1.take k++[(⟨t,n+1,0,n+1,Sl.nil⟩:aa)]++S1.drop k⟩,?_,?_,hS.aO (y:=(⟨q4.1,q4.2,S1.take k++[(⟨t,n+1,0,n+1,Sl.nil⟩:aa)]++S1.drop k⟩:Sl aa)) (bV i0 hS.res (fun x hx=>?_))⟩
 ·rw[hm]<;>rfl
 ·exact Eq.trans gf (congrArg Prod.fst hm).symm
 ·rw[Df]at hx
  rcases ko hx with hx|hx
  ·subst hx;exact Sl.ao _ _
  ·exact cY i1 hS.res bn hx
theorem yx (s:Sl aa)(n t:Int)(w:World)(hs:s.rd B w)(ht:ln t):Calls prog 34 #[s.val,vi n,vi t] w fun e w'=> ∃y:Sl aa,e=.returned (.tuple #[y.val,((dg (s.xs.map aa.abs) n t).2.1).val,vi (dg (s.xs.map aa.abs) n t).2.2])∧y.xs.map aa.abs=(dg (s.xs.map aa.abs) n t).1∧bJ w w' y:=by
 have cV:=Sl.rd.ok hs
 have iV:=Sl.ok.nc cV
 have iW:s.n=s.xs.length:=rfl
 have tB:(s.xs.map aa.abs).length=s.n:=by simp
 refine M0 ?_ func34
 refine Mp ?_ call92 (fun bs w hS=>eV s n w (Sl.rd.kp hs hS.kp))
 refine Md (bC (s.xs.map aa.abs) n=0) (fun h1=>?_) fun h1=>?_
 rotate_left
 ·refine My false true ?_ (df h1)
  refine Mt [vn,vz 0,vi (bC (s.xs.map aa.abs) n)] fun bs w hS=>?_
  have hm:dg (s.xs.map aa.abs) n t=([],gl,bC (s.xs.map aa.abs) n):=by
    grind[dg,ef]
  refine⟨Sl.nil,?_,?_,hS.aO (Sl.ao _ _)⟩
  ·rw[hm]<;>rfl
  ·rw[hm]<;>rfl
 obtain⟨EW,wo,mh,gI⟩:=dm h1
 have Er:s.xs.length≤4:=by simpa using mh
 refine Mp ?_ call51 (fun bs w hS=>b6 t 1 9 w)
 refine fL (gk t 1 9) (fun h2=>?_) fun h2=>?_
 rotate_left
 ·simp only[iT,iF]at h2
  refine Mq 31 true ?_ rfl
  refine Mt [vn,vz 0,vi 2] fun bs w hS=>?_
  have hm:dg (s.xs.map aa.abs) n t=([],gl,2):=by
    grind[dg,ef]
  refine⟨Sl.nil,?_,?_,hS.aO (Sl.ao _ _)⟩
  ·rw[hm]<;>rfl
  ·rw[hm]<;>rfl
 simp only[iT,iF]at h2
 refine Md ((1073741824:Int)≤n) (fun h3=>?_) fun h3=>?_
 ·refine Mq 31 true ?_ rfl
  refine Mt [vn,vz 0,vi 2] fun bs w hS=>?_
  have hm:dg (s.xs.map aa.abs) n t=([],gl,2):=by
    grind[dg,ef]
  refine⟨Sl.nil,?_,?_,hS.aO (Sl.ao _ _)⟩
  ·rw[hm]<;>rfl
  ·rw[hm]<;>rfl
 refine My true true ?_ (dt h1)
 refine Mf ?_ call19 (fun bs w hS=>fB s w (Sl.rd.kp hs hS.kp) (fC (by assumption)))
 rintro y1 a5
 refine dH ?_
 obtain⟨A1,c1,S1⟩:=y1
 have a5:S1.map aa.abs=s.xs.map aa.abs:=a5
 refine fO (R':=[bI (cj 141) S1,ay 118 A1 c1 (S1:List aa)]) (List.Perm.refl _) ?_
 have bn:=eW (y:=(⟨A1,c1,S1⟩:Sl aa)) (hs) a5
 have oA:S1.length=s.xs.length:=by simpa using congrArg List.length a5
 refine bk (F:= ∀i,i<S1.length→aJ.ok (S1.getD i dd)) (fun bs w hS i hi=>aJ.bL (B:=bH) (w:=w) (fY (hS.res _ i0) bn (aB hi))) fun gj=>?_
 refine bk (F:=dY A1 c1 (S1:List aa)) (fun bs w hS=>br (hS.res _ i1)) fun cI=>?_
 have cn:=cI.2
 have Gx:(S1.map aa.abs).length=S1.length:=by simp
 refine Mp ?_ call98 (fun bs w hS=>eg (⟨A1,c1,S1⟩:Sl aa) t w (gu (hS.res _ i0) (hS.res _ i1) bn))
 have Ig:aQ (fun x:aa=>decide (x.ag=t)) S1=aQ (fun x:az=>decide (x.ag=t)) (S1.map aa.abs):=fm aa.abs (fun x:az=>decide (x.ag=t)) S1
 rw[Ig]
 have qc:=du (fun x:az=>decide (x.ag=t)) (S1.map aa.abs)
 generalize hJ:aQ (fun x:az=>decide (x.ag=t)) (S1.map aa.abs)=J at qc⊢
 rw[List.length_map]at qc
 refine Md ((0:Int)≤J) (fun h5=>?_) fun h5=>?_
 ·have Au:0≤J:=by omega
  refine Mi ?_ (pc (pR (n+1)) (fG 45 J J.toNat S1.length i1))
  refine cb ?_
  refine Ms J.toNat 3 (⟨(S1.getD J.toNat dd).ag,(S1.getD J.toNat dd).id,(S1.getD J.toNat dd).aC,n+1,(S1.getD J.toNat dd).ab⟩:aa) ?_ (by omega)
  intro L3 sY BZ
  have ki:L3.getD J.toNat dd=(⟨(S1.getD J.toNat dd).ag,(S1.getD J.toNat dd).id,(S1.getD J.toNat dd).aC,n+1,(S1.getD J.toNat dd).ab⟩:aa):=by rw[sY];exact bQ (by omega)
  have iX:L3=List.set S1 J.toNat (⟨(S1.getD J.toNat dd).ag,(S1.getD J.toNat dd).id,(S1.getD J.toNat dd).aC,n+1,(S1.getD J.toNat dd).ab⟩:aa):=by rw[sY]
  refine cZ 10 [] [0] [ay 118 A1 c1 (L3:List aa),bI (cj 141) S1] ai ?_
  refine bY ?_ (pc (fG 50 J J.toNat S1.length i0) (l5 52 J.toNat 1 1 ki i0))
  refine Mz ?_
  refine Mt [.slice A1 S1.length c1,.agg #[vi 7,vi (S1.getD J.toNat dd).id,ve],vi 0] fun bs w hS=>?_
  have kj:bC (S1.map aa.abs) n=0:=by rw[a5];assumption
  rw[←a5]
  have gf:=dG iX
  have hm:dg (S1.map aa.abs) n t=((S1.map aa.abs).set J.toNat { (S1.getD J.toNat dd).abs with last:=n+1 },⟨7,(S1.getD J.toNat dd).id,emp⟩,0):=by
    unfold dg ef
    simp only[hJ,lL,List.length_map]
    repeat (first|rw[if_pos (by first|assumption|omega)]|rw[if_neg (by first|assumption|omega|(intro h0;first|exact absurd h0 (by assumption)|(simp_all;done)))])
    all_goals rfl
  refine⟨⟨A1,c1,L3⟩,?_,?_,hS.aO (y:=(⟨A1,c1,L3⟩:Sl aa)) (bV i0 hS.res (fun x hx=>?_))⟩
  ·have gB:S1.length=L3.length:=by rw[iX,List.length_set]
   rw[hm]
   exact congrArg (fun q=>Ending.returned (.tuple #[.slice A1 q c1,.agg #[vi 7,vi (S1.getD J.toNat dd).id,ve],vi 0])) gB
  ·exact Eq.trans gf (congrArg Prod.fst hm).symm
  ·rw[iX]at hx
   rcases mem_set hx with hx|hx
   ·subst hx;exact cY (x:=S1.getD J.toNat dd) i1 hS.res bn (aB (L:=S1) (i:=J.toNat) (by omega))
   ·exact cY i1 hS.res bn hx
 have Au: ¬0≤J:=by omega
 refine Md ((4:Int)≤(S1.length:Int)) (fun h6=>?_) fun h6=>?_
 ·refine Mt [.slice A1 S1.length c1,vz 8,vi 0] fun bs w hS=>?_
  have kj:bC (S1.map aa.abs) n=0:=by rw[a5];assumption
  rw[←a5]
  have hm:dg (S1.map aa.abs) n t=(S1.map aa.abs,⟨8,0,emp⟩,0):=by
    grind[dg,ef]
  refine⟨⟨A1,c1,S1⟩,?_,?_,hS.aO (y:=(⟨A1,c1,S1⟩:Sl aa)) (bV i1 hS.res (fun x hx=>?_))⟩
  ·rw[hm]<;>rfl
  ·exact Eq.trans rfl (congrArg Prod.fst hm).symm
  ·exact cY i0 hS.res bn hx
 refine Mi ?_ (pc (pR (n+1)) (pR (n+1)))
 refine bU (α:=aa) 118 ?_
 refine Ml (σ:=Nat×Bool×Option Addr×Nat×List aa) (fun⟨k,b,A,c,L⟩=>jJ (fun x:aa=>decide (t<x.ag)) (⟨t,n+1,0,n+1,Sl.nil⟩:aa) S1 k b L) (fun⟨k,b,A,c,L⟩=>S1.length - k) (fun⟨k,b,A,c,L⟩=>[ay 118 A c (L:List aa),bI (cj 141) S1,ay 118 A1 c1 (S1:List aa)]) [15,14,13,12,10,7,1,2] (fun⟨k,b,A,c,L⟩=>[(15,vI (k:Int)),(14,vB b),(13,.v (.slice A L.length c))]) (fun _=>[]) ?_ (⟨0,false,none,0,[]⟩) (show jJ (fun x:aa=>decide (t<x.ag)) (⟨t,n+1,0,n+1,Sl.nil⟩:aa) S1 0 false [] from jJ.start _ _ _)
 rintro⟨k,b,A,c,L⟩ hI _ bu
 have MB:=hI.len
 have MC:=hI.le
 refine Md ((k:Int)<(S1.length:Int)) (fun h7=>?_) fun h7=>?_
 rotate_left
 ·refine fL b (fun ir=>?_) fun ir=>?_
  ·refine Mi ?_ (pR (n+1))
   refine Mt [.slice A L.length c,.agg #[vi 0,vi (n+1),ve],vi 0] fun bs w hS=>?_
   clear bu
   have kj:bC (S1.map aa.abs) n=0:=by rw[a5];assumption
   rw[←a5]
   have Df:L=dW (fun x:aa=>decide (t<x.ag)) (⟨t,n+1,0,n+1,Sl.nil⟩:aa) S1:=(hI.HH (by assumption) (by omega))
   have gf:=uu Df
   have hm:dg (S1.map aa.abs) n t=(dW (fun x:az=>decide (t<x.ag)) ⟨t,n+1,0,n+1,[]⟩ (S1.map aa.abs),⟨0,n+1,emp⟩,0):=by
     grind[dg,ef]
   refine⟨⟨A,c,L⟩,?_,?_,hS.aO (y:=(⟨A,c,L⟩:Sl aa)) (bV i0 hS.res (fun x hx=>?_))⟩
   ·rw[hm]<;>rfl
   ·exact Eq.trans gf (congrArg Prod.fst hm).symm
   ·rw[Df]at hx
    rcases ko hx with hx|hx
    ·subst hx;exact Sl.ao _ _
    ·exact cY i1 hS.res bn hx
  refine M1 ?_
  refine gX (α:=aa) 56 ([(⟨t,n+1,0,n+1,Sl.nil⟩:aa)]) ?_
  intro A8 c8
  refine Mi ?_ (pR (n+1))
  refine Mt [.slice A8 (L++[(⟨t,n+1,0,n+1,Sl.nil⟩:aa)]).length c8,.agg #[vi 0,vi (n+1),ve],vi 0] fun bs w hS=>?_
  clear bu
  have kj:bC (S1.map aa.abs) n=0:=by rw[a5];assumption
  rw[←a5]
  have Df:L++[(⟨t,n+1,0,n+1,Sl.nil⟩:aa)]=dW (fun x:aa=>decide (t<x.ag)) (⟨t,n+1,0,n+1,Sl.nil⟩:aa) S1:=(hI.HI (by assumption) (by omega))
  have gf:=uu Df
  have hm:dg (S1.map aa.abs) n t=(dW (fun x:az=>decide (t<x.ag)) ⟨t,n+1,0,n+1,[]⟩ (S1.map aa.abs),⟨0,n+1,emp⟩,0):=by
    grind[dg,ef]
  refine⟨⟨A8,c8,L++[(⟨t,n+1,0,n+1,Sl.nil⟩:aa)]⟩,?_,?_,hS.aO (y:=(⟨A8,c8,L++[(⟨t,n+1,0,n+1,Sl.nil⟩:aa)]⟩:Sl aa)) (bV i0 hS.res (fun x hx=>?_))⟩
  ·rw[hm]<;>rfl
  ·exact Eq.trans gf (congrArg Prod.fst hm).symm
  ·rw[Df]at hx
   rcases ko hx with hx|hx
   ·subst hx;exact Sl.ao _ _
   ·exact cY i1 hS.res bn hx
 refine HN b true [(14,false)] (fun h8=>?_) fun h8=>?_
 ·refine Mi ?_ (pc (fG 89 (k:Int) k S1.length i2) (C1 90 k i2))
  refine M1 ?_
  refine gX (α:=aa) 56 ([(⟨(S1.getD k dd).ag,(S1.getD k dd).id,(S1.getD k dd).aC,(S1.getD k dd).last,(S1.getD k dd).ab⟩:aa)]) ?_
  intro A4 c4
  refine Mi ?_ (pR ((k:Int)+1))
  exact bu ⟨k+1,true,A4,c4,L++[(⟨(S1.getD k dd).ag,(S1.getD k dd).id,(S1.getD k dd).aC,(S1.getD k dd).last,(S1.getD k dd).ab⟩:aa)]⟩ (by first|exact hI.more (by assumption) (by omega)|exact hI.ES (by assumption) (by omega) (decide_eq_true (by assumption))|exact hI.skip (by assumption) (by omega) (decide_eq_false (by assumption))) (by show S1.length - (k+1)<S1.length - k;omega)
 refine Mi ?_ (pc (fG 76 (k:Int) k S1.length i2) (lg 78 k 0 1 i2))
 refine Md (t<(S1.getD k dd).ag) (fun h9=>?_) fun h9=>?_
 rotate_left
 ·refine Mi ?_ (pc (fG 89 (k:Int) k S1.length i2) (C1 90 k i2))
  refine M1 ?_
  refine gX (α:=aa) 56 ([(⟨(S1.getD k dd).ag,(S1.getD k dd).id,(S1.getD k dd).aC,(S1.getD k dd).last,(S1.getD k dd).ab⟩:aa)]) ?_
  intro A7 c7
  refine Mi ?_ (pR ((k:Int)+1))
  exact bu ⟨k+1,false,A7,c7,L++[(⟨(S1.getD k dd).ag,(S1.getD k dd).id,(S1.getD k dd).aC,(S1.getD k dd).last,(S1.getD k dd).ab⟩:aa)]⟩ (by first|exact hI.more (by assumption) (by omega)|exact hI.ES (by assumption) (by omega) (decide_eq_true (by assumption))|exact hI.skip (by assumption) (by omega) (decide_eq_false (by assumption))) (by show S1.length - (k+1)<S1.length - k;omega)
 refine M1 ?_
 refine gX (α:=aa) 56 ([(⟨t,n+1,0,n+1,Sl.nil⟩:aa)]) ?_
 intro A5 c5
 refine Mi ?_ (pc (fG 89 (k:Int) k S1.length i2) (C1 90 k i2))
 refine M1 ?_
 refine gX (α:=aa) 56 ([(⟨(S1.getD k dd).ag,(S1.getD k dd).id,(S1.getD k dd).aC,(S1.getD k dd).last,(S1.getD k dd).ab⟩:aa)]) ?_
 intro A6 c6
 refine Mi ?_ (pR ((k:Int)+1))
 exact bu ⟨k+1,true,A6,c6,L++[(⟨t,n+1,0,n+1,Sl.nil⟩:aa)]++[(⟨(S1.getD k dd).ag,(S1.getD k dd).id,(S1.getD k dd).aC,(S1.getD k dd).last,(S1.getD k dd).ab⟩:aa)]⟩ (by first|exact hI.more (by assumption) (by omega)|exact hI.ES (by assumption) (by omega) (decide_eq_true (by assumption))|exact hI.skip (by assumption) (by omega) (decide_eq_false (by assumption))) (by show S1.length - (k+1)<S1.length - k;omega)
theorem oC (x:aK)(t:Int)(w:World):Calls prog 89 #[x.val,vi t] w fun e w'=>e=.returned (vi (IntKind.i64.wrap (x.seq - t)))∧Kp [] w w':=by
 refine M0 ?_ func89
 refine Mi ?_ (pG [(8,.val (vi (IntKind.i64.wrap (x.seq - t))))] (oc (yY: ∀w,(do eqGuard .sub 3 (.tmp 6) (.tmp 7) (vi x.seq) (vi t);binOp .sub 3 (vi x.seq) (vi t):Sem Value).run prog w=.ok (vi (IntKind.i64.wrap (x.seq - t))) w) on))
 exact Mt [vi (IntKind.i64.wrap (x.seq - t))] fun bs w hS=>⟨rfl,hS.kp⟩
end Go.Proofs.YtbjakddkfgjkaaaGreat.W
