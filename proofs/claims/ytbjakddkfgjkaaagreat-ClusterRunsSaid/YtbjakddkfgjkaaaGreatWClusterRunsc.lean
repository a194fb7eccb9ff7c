/-
  The functions that the law ClusterRuns reaches, walked: each returns what its model says.
  Conditions: those that each theorem states.
-/
import Derived.Test.YtbjakddkfgjkaaaGreatWClusterRunsb
set_option linter.unusedVariables false
set_option linter.unusedSimpArgs false
set_option maxRecDepth 100000
set_option maxHeartbeats 2000000
namespace Go.Proofs.YtbjakddkfgjkaaaGreat.W
open Go.Proofs.YtbjakddkfgjkaaaGreat.Fw Go.RowKit Tryz
variable {B : Nat → Prop}
attribute [local irreducible] JM nx
theorem ri (s:Sl aK)(t:Int)(w:World)(hs:s.rd B w)(hn:s.n≤1048576):Calls prog 88 #[s.val,vi t,.func (.func 89) #[] #[]] w fun e w'=>e=.returned (.tuple #[vi (eQ (fun x:aK=>IntKind.i64.wrap (x.seq - t)) s.xs:Nat),vb (dk (fun x:aK=>IntKind.i64.wrap (x.seq - t)) s.xs)])∧Kp [] w w':=by
 have cV:=Sl.rd.ok hs
 have iV:=Sl.ok.nc cV
 have iW:s.n=s.xs.length:=rfl
 refine Mj ?_ func88 (WS.start w)
 refine Ml (σ:=Nat×Nat×Nat) (fun⟨i,j,f⟩=>i≤j∧j≤s.n∧j - i≤f∧eQ (fun x:aK=>IntKind.i64.wrap (x.seq - t)) s.xs=lZ (fun j=>decide (IntKind.i64.wrap ((s.at j).seq - t)<0)) f i j) (fun⟨i,j,f⟩=>f) (fun _=>[]) [10,9,8,0,1,2] (fun⟨i,j,f⟩=>[(10,vI (j:Int)),(9,vI (i:Int))]) (fun _=>[]) ?_ (⟨0,s.n,s.n⟩) ⟨Nat.zero_le _,Nat.le_refl _,Nat.le_refl _,rfl⟩
 rintro⟨i,j,f⟩ ⟨h1,h2,h3,hI⟩ _ bu
 have hdiv:((i:Int)+(j:Int)) / 2=(((i+j) / 2:Nat):Int):=by omega
 refine Md ((i:Int)<(j:Int)) (fun h1=>?_) fun h1=>?_
 rotate_left
 ·refine Md ((i:Int)<(s.n:Int)) (fun h3=>?_) fun h3=>?_
  rotate_left
  ·refine Mt [vi (i:Int),vb false] fun bs w hS=>?_
   have jf:i=j:=by omega
   subst jf
   have hr:eQ (fun x:aK=>IntKind.i64.wrap (x.seq - t)) s.xs=i:=by rw[hI];exact iQ _ _ _ _ (Nat.le_refl _)
   refine⟨?_,hS.kp⟩
   have ny:dk (fun x:aK=>IntKind.i64.wrap (x.seq - t)) s.xs=false:=by
     unfold dk;rw[hr]
     rw[decide_eq_false (show ¬i<s.xs.length by omega)];rfl
   rw[hr,ny]
   rfl
  refine Mi ?_ (pA 43 44 (i:Int) i (db hs))
  refine Mp ?_ call89 (fun bs w hS=>oC (s.at i) t w)
  refine Mt [vi (i:Int),vb (decide (IntKind.i64.wrap ((s.at i).seq - t)=0))] fun bs w hS=>?_
  have jf:i=j:=by omega
  subst jf
  have hr:eQ (fun x:aK=>IntKind.i64.wrap (x.seq - t)) s.xs=i:=by rw[hI];exact iQ _ _ _ _ (Nat.le_refl _)
  refine⟨?_,hS.kp⟩
  have ny:dk (fun x:aK=>IntKind.i64.wrap (x.seq - t)) s.xs=(decide (IntKind.i64.wrap ((s.at i).seq - t)=0)):=by
    unfold dk;rw[hr]
    rw[decide_eq_true (show i<s.xs.length by omega)];rfl
  rw[hr,ny]
  rfl
 refine Mi ?_ (pc (pR ((i:Int)+(j:Int))) (pc (pG [(21,.val (.int .u64 ((i:Int)+(j:Int))))] (oc ((jD Tryz.underlying3 Tryz.underlying203 (by omega) (by omega)): ∀w,(convert 3 203 (vi ((i:Int)+(j:Int))):Sem Value).run prog w=.ok (.int .u64 ((i:Int)+(j:Int))) w) on)) (pc (pG [(22,.val (.int .u64 (((i:Int)+(j:Int)) / 2)))] (oc (qo: ∀w,(do eqGuard .shr 203 (.tmp 21) (.const (.int .u64 1)) (.int .u64 ((i:Int)+(j:Int))) (.int .u64 1);binOp .shr 203 (.int .u64 ((i:Int)+(j:Int))) (.int .u64 1):Sem Value).run prog w=.ok (.int .u64 (((i:Int)+(j:Int)) / 2)) w) on)) (pc (pG [(23,.val (vi (((i:Int)+(j:Int)) / 2)))] (oc ((jE Tryz.underlying203 Tryz.underlying3 (by omega) (by omega)): ∀w,(convert 203 3 (.int .u64 (((i:Int)+(j:Int)) / 2)):Sem Value).run prog w=.ok (vi (((i:Int)+(j:Int)) / 2)) w) on)) (pA 27 28 (((i:Int)+(j:Int)) / 2) (((i:Int)+(j:Int)) / 2).toNat (db hs))))))
 refine Mp ?_ call89 (fun bs w hS=>oC (s.at (((i:Int)+(j:Int)) / 2).toNat) t w)
 refine Md (IntKind.i64.wrap ((s.at (((i:Int)+(j:Int)) / 2).toNat).seq - t)<0) (fun h2=>?_) fun h2=>?_
 rotate_left
 ·have yo:f=(f - 1)+1:=by omega
  rw[yo]at hI
  have sh:=hI.trans (mH (by omega) (decide_eq_false (by assumption)))
  exact bu ⟨i,(i+j) / 2,f - 1⟩ ⟨by omega,by omega,by omega,sh⟩ (by show f - 1<f;omega)
 refine Mi ?_ (pR ((((i:Int)+(j:Int)) / 2)+1))
 have yo:f=(f - 1)+1:=by omega
 rw[yo]at hI
 have sh:=hI.trans (qu (by omega) (decide_eq_true (by assumption)))
 exact bu ⟨(i+j) / 2+1,j,f - 1⟩ ⟨by omega,by omega,by omega,sh⟩ (by show f - 1<f;omega)
theorem yy (s:Sl aa)(n t q:Int)(r:cQ)(w:World)(hs:s.rd B w)(ht:ln t)(hq:ln q)(hr:r.text.size≤9223372036854775807):Calls prog 29 #[s.val,vi n,vi t,vi q,r.val] w fun e w'=> ∃y:Sl aa,e=.returned (.tuple #[y.val,vi (fy (s.xs.map aa.abs) n t q r).2])∧y.xs.map aa.abs=(fy (s.xs.map aa.abs) n t q r).1∧bJ w w' y:=by
 have cV:=Sl.rd.ok hs
 have iV:=Sl.ok.nc cV
 have iW:s.n=s.xs.length:=rfl
 have tB:(s.xs.map aa.abs).length=s.n:=by simp
 refine M0 ?_ func29
 refine Mp ?_ call63 (fun bs w hS=>gV s n w (Sl.rd.kp hs hS.kp))
 refine cr (bC (s.xs.map aa.abs) n=0) (fun h1=>?_) fun h1=>?_
 rotate_left
 ·have hm:fy (s.xs.map aa.abs) n t q r=([],bC (s.xs.map aa.abs) n):=by
    grind[fy,ef]
  exact eE hm Sl.nil rfl fun bs w hS=>hS.aO (Sl.ao _ _)
 obtain⟨EW,wo,mh,gI⟩:=dm h1
 have Er:s.xs.length≤4:=by simpa using mh
 refine Mf ?_ call70 (fun bs w hS=>iC s w (Sl.rd.kp hs hS.kp) (fC (by assumption)))
 rintro y1 a5
 refine dH ?_
 obtain⟨A1,c1,S1⟩:=y1
 have a5:S1.map aa.abs=s.xs.map aa.abs:=a5
 refine fO (R':=[bI (cj 141) S1,ay 118 A1 c1 (S1:List aa)]) (List.Perm.refl _) ?_
 have bn:=eW (y:=(⟨A1,c1,S1⟩:Sl aa)) (hs) a5
 have oA:S1.length=s.xs.length:=by simpa using congrArg List.length a5
 refine bk (F:= ∀i,i<S1.length→aJ.ok (S1.getD i default)) (fun bs w hS i hi=>aJ.bL (B:=bH) (w:=w) (fY (hS.res _ i0) bn (aB hi))) fun gj=>?_
 refine bk (F:=dY A1 c1 (S1:List aa)) (fun bs w hS=>br (hS.res _ i1)) fun cI=>?_
 have cn:=cI.2
 have Gx:(S1.map aa.abs).length=S1.length:=by simp
 have kj:bC (S1.map aa.abs) n=0:=by rw[a5];assumption
 refine Mp ?_ call76 (fun bs w hS=>ll (⟨A1,c1,S1⟩:Sl aa) t w (gu (hS.res _ i0) (hS.res _ i1) bn) (show S1.length≤1048576 by omega))
 have oB:=n8 (L:=S1) (index:=n) (t:=t) (by rw[a5];assumption) ht
 have qc:=du (fun x:az=>decide (x.ag=t)) (S1.map aa.abs)
 generalize hJ:aQ (fun x:az=>decide (x.ag=t)) (S1.map aa.abs)=J at oB qc
 have wZ:=n5 (fun x:aa=>IntKind.i64.wrap (x.ag - t)) S1
 generalize hk:eQ (fun x:aa=>IntKind.i64.wrap (x.ag - t)) S1=k at oB wZ⊢
 generalize hf:dk (fun x:aa=>IntKind.i64.wrap (x.ag - t)) S1=fb at oB⊢
 refine fL fb (fun h2=>?_) fun h2=>?_
 rotate_left
 ·have Au:=of_decide_eq_false (oB.1.symm.trans h2)
  rw[←a5]
  have hm:fy (S1.map aa.abs) n t q r=([],11):=by
    grind[fy,ef]
  exact eE hm Sl.nil rfl fun bs w hS=>hS.aO (Sl.ao _ _)
 have Gy:=oB.2 h2
 subst Gy
 have nK:=ob kj (k:=k) (by omega)
 have KG:(S1.getD k default).ab.xs.length≤4:=jF nK.2.2.2.2
 have Hd:(S1.getD k default).ab.n=(S1.getD k default).ab.xs.length:=rfl
 refine Mi ?_ (pc (fG 36 (k:Int) k S1.length i1) (lg 41 k 4 1 i1))
 refine Mp ?_ call88 (fun bs w hS=>ri (S1.getD k default).ab q w (fY (hS.res _ i0) bn (aB (i:=k) (by omega))) (by show (Sl.xs _).length≤1048576;omega))
 have NT:dk (fun x:aK=>IntKind.i64.wrap (x.seq - q)) (S1.getD k default).ab.xs=decide (0≤ld (S1.getD k default).ab.xs q):=FB (d:=(S1.getD k default).abs) nK.2.2.2.2 ⟨nK.2.2.1,nK.2.2.2.1⟩ hq
 rw[NT]
 have NU:=n5 (fun x:aK=>IntKind.i64.wrap (x.seq - q)) (S1.getD k default).ab.xs
 generalize hj:eQ (fun x:aK=>IntKind.i64.wrap (x.seq - q)) (S1.getD k default).ab.xs=j at NU⊢
 refine Md (0≤ld (S1.getD k default).ab.xs q) (fun h3=>?_) fun h3=>?_
 ·refine Mt [vn,vi 7] fun bs w hS=>?_
  rw[←a5]
  have hm:fy (S1.map aa.abs) n t q r=([],7):=by
    unfold fy ef
    simp only[hJ,Int.toNat_natCast,lL,List.length_map]
    repeat (first|rw[if_pos (by first|assumption|omega)]|rw[if_neg (by first|assumption|omega|(intro h0;first|exact absurd h0 (by assumption)|(simp_all;done)))])
    all_goals rfl
  refine⟨Sl.nil,?_,?_,hS.aO (Sl.ao _ _)⟩
  ·rw[hm]<;>rfl
  ·rw[hm]<;>rfl
 have IV:ld (S1.getD k default).ab.xs q<0:=by omega
 refine m5 (ay 141 (S1.getD k default).ab.A (S1.getD k default).ab.c ((S1.getD k default).ab.xs:List aK)) (bI (cj 141) (List.eraseIdx S1 k)) (ky (cj 141) (i:=k) (by omega)) (fun w h=>lG (cj 141) (i:=k) (by omega) w h) ?_
 refine cZ 13 [] [] [bI (cj 141) (List.eraseIdx S1 k),ay 118 A1 c1 (S1:List aa)] ai ?_ (hR:=(.cons _ (List.Sublist.refl _)))
 refine bY ?_ (lg 51 k 4 1 i1) (hR:=(.cons _ (List.Sublist.refl _)))
 refine M1 ?_ (hR:=(.cons _ (List.Sublist.refl _)))
 refine nF ?_ call90 (fun bs w hS=>(Et (S1.getD k default).ab.A (S1.getD k default).ab.c (S1.getD k default).ab.xs j _ (⟨q,⟨r.code,r.n,r.text⟩⟩:aK) (bs.getD 1 0) 141 w (hS.res _ i0) hS.lH.2.2 rfl (by omega) (by omega) (hS.loc 1 ⟨141,[vI q,vI r.code,vI r.n,vS r.text]⟩ (by kernel_rfl) (by simp)) (hS.tp (i:=1) (b:=⟨141,[vI q,vI r.code,vI r.n,vS r.text]⟩) (by kernel_rfl))).mono (fun e w' ⟨y,h1,h2⟩=>⟨y,h1,trivial,h2⟩))
 rintro q3 _
 refine Mz ?_
 refine cL ?_
 refine Ms k 4 (⟨(S1.getD k default).ag,(S1.getD k default).id,(S1.getD k default).aC,(S1.getD k default).last,⟨q3.1,q3.2,(S1.getD k default).ab.xs.take j++[(⟨q,⟨r.code,r.n,r.text⟩⟩:aK)]++(S1.getD k default).ab.xs.drop j⟩⟩:aa) ?_ (by omega)
 intro L5 IU MA
 have Gp:L5.getD k default=(⟨(S1.getD k default).ag,(S1.getD k default).id,(S1.getD k default).aC,(S1.getD k default).last,⟨q3.1,q3.2,(S1.getD k default).ab.xs.take j++[(⟨q,⟨r.code,r.n,r.text⟩⟩:aK)]++(S1.getD k default).ab.xs.drop j⟩⟩:aa):=by rw[IU];exact bQ (by omega)
 have BY:L5=List.set S1 k (⟨(S1.getD k default).ag,(S1.getD k default).id,(S1.getD k default).aC,(S1.getD k default).last,⟨q3.1,q3.2,(S1.getD k default).ab.xs.take j++[(⟨q,⟨r.code,r.n,r.text⟩⟩:aK)]++(S1.getD k default).ab.xs.drop j⟩⟩:aa):=by rw[IU]
 refine Mi ?_ (NG 62 k Gp i0)
 have Ay: ∀z,z∈(S1.getD k default).ab.xs.take j++[(⟨q,⟨r.code,r.n,r.text⟩⟩:aK)]++(S1.getD k default).ab.xs.drop j→z.aE.text.size≤9223372036854775807:=fun z hz=>by simp only[List.mem_append,List.mem_singleton]at hz;rcases hz with (hz|hz)|hz;exact bn _ (aB (L:=S1) (i:=k) (by omega)) z (List.mem_of_mem_take hz);subst hz;exact hr;exact bn _ (aB (L:=S1) (i:=k) (by omega)) z (List.mem_of_mem_drop hz)
 refine Mp ?_ (v:=vb (a9 (⟨(S1.getD k default).ag,(S1.getD k default).id,(S1.getD k default).aC,(S1.getD k default).last,(S1.getD k default).ab.xs.take j++[(⟨q,⟨r.code,r.n,r.text⟩⟩:aK)]++(S1.getD k default).ab.xs.drop j⟩:az))) call91 (fun bs w hS=>nz (⟨(S1.getD k default).ag,(S1.getD k default).id,(S1.getD k default).aC,(S1.getD k default).last,⟨q3.1,q3.2,(S1.getD k default).ab.xs.take j++[(⟨q,⟨r.code,r.n,r.text⟩⟩:aK)]++(S1.getD k default).ab.xs.drop j⟩⟩:aa) w (Rr (B:=bH) (hS.res _ i1) (fun _ _=>trivial) Ay) ⟨nK.2.2.1,nK.2.2.2.1⟩)
 have Q9:=FC (d:=(S1.getD k default).abs) nK.2.2.2.2 ⟨nK.2.2.1,nK.2.2.2.1⟩ r (by show aQ _ _<0;exact IV) hj
 have Dr:a9 (⟨(S1.getD k default).ag,(S1.getD k default).id,(S1.getD k default).aC,(S1.getD k default).last,(S1.getD k default).ab.xs.take j++[(⟨q,⟨r.code,r.n,r.text⟩⟩:aK)]++(S1.getD k default).ab.xs.drop j⟩:az)=a9 (mK (S1.getD k default).abs q r):=Q9.1
 rw[Dr]
 refine fL (a9 (mK (S1.getD k default).abs q r)) (fun h4=>?_) fun h4=>?_
 rotate_left
 ·refine Mt [vn,vi 2] fun bs w hS=>?_
  rw[←a5]
  have hm:fy (S1.map aa.abs) n t q r=([],2):=by
    unfold fy ef
    simp only[hJ,Int.toNat_natCast,lL,List.length_map]
    repeat (first|rw[if_pos (by first|assumption|omega)]|rw[if_neg (by first|assumption|omega|(intro h0;first|exact absurd h0 (by assumption)|(simp_all;done)))])
    all_goals rfl
  refine⟨Sl.nil,?_,?_,hS.aO (Sl.ao _ _)⟩
  ·rw[hm]<;>rfl
  ·rw[hm]<;>rfl
 refine Mt [.slice A1 S1.length c1,vi 0] fun bs w hS=>?_
 rw[←a5]
 have gf:=dG BY
 have MX:((⟨(S1.getD k default).ag,(S1.getD k default).id,(S1.getD k default).aC,(S1.getD k default).last,⟨q3.1,q3.2,(S1.getD k default).ab.xs.take j++[(⟨q,⟨r.code,r.n,r.text⟩⟩:aK)]++(S1.getD k default).ab.xs.drop j⟩⟩:aa)).abs=mK (S1.getD k default).abs q r:=by exact congrArg (fun l=>(⟨(S1.getD k default).ag,(S1.getD k default).id,(S1.getD k default).aC,(S1.getD k default).last,l⟩:az)) (Q9.2 (by assumption))
 rw[MX]at gf
 have hm:fy (S1.map aa.abs) n t q r=((S1.map aa.abs).set k (mK (S1.getD k default).abs q r),0):=by
   unfold fy ef
   simp only[hJ,Int.toNat_natCast,lL,List.length_map]
   repeat (first|rw[if_pos (by first|assumption|omega)]|rw[if_neg (by first|assumption|omega|(intro h0;first|exact absurd h0 (by assumption)|(simp_all;done)))])
   all_goals rfl
 refine⟨⟨A1,c1,L5⟩,?_,?_,hS.aO (y:=(⟨A1,c1,L5⟩:Sl aa)) (bV i0 hS.res (fun x hx=>?_))⟩
 ·have gB:S1.length=L5.length:=by rw[BY,List.length_set]
  rw[hm]
  exact congrArg (fun q=>Ending.returned (.tuple #[.slice A1 q c1,vi 0])) gB
 ·exact Eq.trans gf (congrArg Prod.fst hm).symm
 ·rw[BY]at hx
  rcases ia hx with hx|hx
  ·subst hx;exact a4 i1 (hS.res _ i1) Ay
  ·exact cY i2 hS.res (fun z hz=>bn z (List.mem_of_mem_eraseIdx hz)) hx
theorem iq (s:Sl aa)(n t q:Int)(r:cQ)(w:World)(hs:s.rd B w)(ht:ln t)(hq:ln q)(hr:r.text.size≤9223372036854775807):Calls prog 42 #[s.val,vi n,vi t,vi q,r.val] w fun e w'=> ∃y:Sl aa,e=.returned (.tuple #[y.val,vi (fy (s.xs.map aa.abs) n t q r).2])∧y.xs.map aa.abs=(fy (s.xs.map aa.abs) n t q r).1∧bJ w w' y:=by
 have cV:=Sl.rd.ok hs
 have iV:=Sl.ok.nc cV
 have iW:s.n=s.xs.length:=rfl
 have tB:(s.xs.map aa.abs).length=s.n:=by simp
 refine M0 ?_ func42
 refine Mp ?_ call92 (fun bs w hS=>eV s n w (Sl.rd.kp hs hS.kp))
 refine cr (bC (s.xs.map aa.abs) n=0) (fun h1=>?_) fun h1=>?_
 rotate_left
 ·have hm:fy (s.xs.map aa.abs) n t q r=([],bC (s.xs.map aa.abs) n):=by
    grind[fy,ef]
  exact eE hm Sl.nil rfl fun bs w hS=>hS.aO (Sl.ao _ _)
 obtain⟨EW,wo,mh,gI⟩:=dm h1
 have Er:s.xs.length≤4:=by simpa using mh
 refine Mf ?_ call19 (fun bs w hS=>fB s w (Sl.rd.kp hs hS.kp) (fC (by assumption)))
 rintro y1 a5
 refine dH ?_
 obtain⟨A1,c1,S1⟩:=y1
 have a5:S1.map aa.abs=s.xs.map aa.abs:=a5
 refine fO (R':=[bI (cj 141) S1,ay 118 A1 c1 (S1:List aa)]) (List.Perm.refl _) ?_
 have bn:=eW (y:=(⟨A1,c1,S1⟩:Sl aa)) (hs) a5
 have oA:S1.length=s.xs.length:=by simpa using congrArg List.length a5
 refine bk (F:= ∀i,i<S1.length→aJ.ok (S1.getD i default)) (fun bs w hS i hi=>aJ.bL (B:=bH) (w:=w) (fY (hS.res _ i0) bn (aB hi))) fun gj=>?_
 refine bk (F:=dY A1 c1 (S1:List aa)) (fun bs w hS=>br (hS.res _ i1)) fun cI=>?_
 have cn:=cI.2
 have Gx:(S1.map aa.abs).length=S1.length:=by simp
 have kj:bC (S1.map aa.abs) n=0:=by rw[a5];assumption
 refine Mp ?_ call98 (fun bs w hS=>eg (⟨A1,c1,S1⟩:Sl aa) t w (gu (hS.res _ i0) (hS.res _ i1) bn))
 have Ig:aQ (fun x:aa=>decide (x.ag=t)) S1=aQ (fun x:az=>decide (x.ag=t)) (S1.map aa.abs):=fm aa.abs (fun x:az=>decide (x.ag=t)) S1
 rw[Ig]
 have qc:=du (fun x:az=>decide (x.ag=t)) (S1.map aa.abs)
 generalize hJ:aQ (fun x:az=>decide (x.ag=t)) (S1.map aa.abs)=J at qc⊢
 rw[List.length_map]at qc
 refine Md (J<0) (fun h2=>?_) fun h2=>?_
 ·have Au: ¬0≤J:=by omega
  rw[←a5]
  have hm:fy (S1.map aa.abs) n t q r=([],11):=by
    grind[fy,ef]
  exact eE hm Sl.nil rfl fun bs w hS=>hS.aO (Sl.ao _ _)
 have Au:0≤J:=by omega
 have nK:=ob kj (k:=J.toNat) (by omega)
 have KG:(S1.getD J.toNat default).ab.xs.length≤4:=jF nK.2.2.2.2
 have Hd:(S1.getD J.toNat default).ab.n=(S1.getD J.toNat default).ab.xs.length:=rfl
 refine bU (α:=aK) 141 ?_
 refine Ml (σ:=Nat×Bool×Option Addr×Nat×List aK) (fun⟨k,b,A,c,L⟩=>jJ (fun k:aK=>decide (q<k.seq)) (⟨q,r⟩:aK) (S1.getD J.toNat default).ab.xs k b L∧ ∀j,j<k→ ¬((S1.getD J.toNat default).ab.xs.getD j default).seq=q) (fun⟨k,b,A,c,L⟩=>(S1.getD J.toNat default).ab.xs.length - k) (fun⟨k,b,A,c,L⟩=>[ay 141 A c (L:List aK),bI (cj 141) S1,ay 118 A1 c1 (S1:List aa)]) [17,16,15,14,13,9,3] (fun⟨k,b,A,c,L⟩=>[(17,vI (k:Int)),(16,vB b),(15,.v (.slice A L.length c))]) (fun _=>[]) ?_ (⟨0,false,none,0,[]⟩) ⟨(show jJ (fun k:aK=>decide (q<k.seq)) (⟨q,r⟩:aK) (S1.getD J.toNat default).ab.xs 0 false [] from jJ.start _ _ _),fun j hj=>absurd hj (Nat.not_lt_zero _)⟩
 rintro⟨k,b,A,c,L⟩ ⟨hI,hX⟩ _ bu
 have MB:=hI.len
 have MC:=hI.le
 refine Mi ?_ (pc (fG 35 J J.toNat S1.length i2) (lg 37 J.toNat 4 1 i2))
 refine Md ((k:Int)<(((S1.getD J.toNat default).ab.n:Nat):Int)) (fun h3=>?_) fun h3=>?_
 ·refine Mi ?_ (pc (fG 44 J J.toNat S1.length i2) (pc (lg 46 J.toNat 4 1 i2) (pA 48 49 (k:Int) k (s:=(S1.getD J.toNat default).ab) (fun w hk hr=>(fY (hr _ i1) bn (aB (i:=J.toNat) (by omega)))))))
  refine Md (((S1.getD J.toNat default).ab.at k).seq=q) (fun h4=>?_) fun h4=>?_
  ·refine Mt [vn,vi 7] fun bs w hS=>?_
   clear bu
   rw[←a5]
   have TL:0≤ld (S1.getD J.toNat default).ab.xs q:=by have h9:=hC (fun k:aK=>decide (k.seq=q)) (S1.getD J.toNat default).ab.xs;rw[List.any_eq_true.2 ⟨_,aB (L:=(S1.getD J.toNat default).ab.xs) (i:=k) (by have h8:(S1.getD J.toNat default).ab.n=(S1.getD J.toNat default).ab.xs.length:=rfl;omega),decide_eq_true (by assumption)⟩]at h9;exact of_decide_eq_true h9
   have hm:fy (S1.map aa.abs) n t q r=([],7):=by
     unfold fy ef
     simp only[hJ,lL,List.length_map]
     repeat (first|rw[if_pos (by first|assumption|omega)]|rw[if_neg (by first|assumption|omega|(intro h0;first|exact absurd h0 (by assumption)|(simp_all;done)))])
     all_goals rfl
   refine⟨Sl.nil,?_,?_,hS.aO (Sl.ao _ _)⟩
   ·rw[hm]<;>rfl
   ·rw[hm]<;>rfl
  refine HN b true [(16,false)] (fun h5=>?_) fun h5=>?_
  ·refine M1 ?_
   refine gX (α:=aK) 40 ([(⟨((S1.getD J.toNat default).ab.at k).seq,⟨((S1.getD J.toNat default).ab.at k).aE.code,((S1.getD J.toNat default).ab.at k).aE.n,((S1.getD J.toNat default).ab.at k).aE.text⟩⟩:aK)]) ?_
   intro A3 c3
   refine Mi ?_ (pR ((k:Int)+1))
   exact bu ⟨k+1,true,A3,c3,L++[(⟨((S1.getD J.toNat default).ab.at k).seq,⟨((S1.getD J.toNat default).ab.at k).aE.code,((S1.getD J.toNat default).ab.at k).aE.n,((S1.getD J.toNat default).ab.at k).aE.text⟩⟩:aK)]⟩ ⟨(by first|exact hI.more (by assumption) (by omega)|exact hI.ES (by assumption) (by omega) (decide_eq_true (by assumption))|exact hI.skip (by assumption) (by omega) (decide_eq_false (by assumption))),fun j hj=>by rcases Nat.lt_succ_iff_lt_or_eq.1 hj with h|h;exact hX j h;subst h;assumption⟩ (by show (S1.getD J.toNat default).ab.xs.length - (k+1)<(S1.getD J.toNat default).ab.xs.length - k;omega)
  refine Md (q<((S1.getD J.toNat default).ab.at k).seq) (fun h6=>?_) fun h6=>?_
  rotate_left
  ·refine M1 ?_
   refine gX (α:=aK) 40 ([(⟨((S1.getD J.toNat default).ab.at k).seq,⟨((S1.getD J.toNat default).ab.at k).aE.code,((S1.getD J.toNat default).ab.at k).aE.n,((S1.getD J.toNat default).ab.at k).aE.text⟩⟩:aK)]) ?_
   intro A6 c6
   refine Mi ?_ (pR ((k:Int)+1))
   exact bu ⟨k+1,false,A6,c6,L++[(⟨((S1.getD J.toNat default).ab.at k).seq,⟨((S1.getD J.toNat default).ab.at k).aE.code,((S1.getD J.toNat default).ab.at k).aE.n,((S1.getD J.toNat default).ab.at k).aE.text⟩⟩:aK)]⟩ ⟨(by first|exact hI.more (by assumption) (by omega)|exact hI.ES (by assumption) (by omega) (decide_eq_true (by assumption))|exact hI.skip (by assumption) (by omega) (decide_eq_false (by assumption))),fun j hj=>by rcases Nat.lt_succ_iff_lt_or_eq.1 hj with h|h;exact hX j h;subst h;assumption⟩ (by show (S1.getD J.toNat default).ab.xs.length - (k+1)<(S1.getD J.toNat default).ab.xs.length - k;omega)
  refine M1 ?_
  refine gX (α:=aK) 40 ([(⟨q,⟨r.code,r.n,r.text⟩⟩:aK)]) ?_
  intro A4 c4
  refine M1 ?_
  refine gX (α:=aK) 40 ([(⟨((S1.getD J.toNat default).ab.at k).seq,⟨((S1.getD J.toNat default).ab.at k).aE.code,((S1.getD J.toNat default).ab.at k).aE.n,((S1.getD J.toNat default).ab.at k).aE.text⟩⟩:aK)]) ?_
  intro A5 c5
  refine Mi ?_ (pR ((k:Int)+1))
  exact bu ⟨k+1,true,A5,c5,L++[(⟨q,⟨r.code,r.n,r.text⟩⟩:aK)]++[(⟨((S1.getD J.toNat default).ab.at k).seq,⟨((S1.getD J.toNat default).ab.at k).aE.code,((S1.getD J.toNat default).ab.at k).aE.n,((S1.getD J.toNat default).ab.at k).aE.text⟩⟩:aK)]⟩ ⟨(by first|exact hI.more (by assumption) (by omega)|exact hI.ES (by assumption) (by omega) (decide_eq_true (by assumption))|exact hI.skip (by assumption) (by omega) (decide_eq_false (by assumption))),fun j hj=>by rcases Nat.lt_succ_iff_lt_or_eq.1 hj with h|h;exact hX j h;subst h;assumption⟩ (by show (S1.getD J.toNat default).ab.xs.length - (k+1)<(S1.getD J.toNat default).ab.xs.length - k;omega)
 refine fL b (fun h7=>?_) fun h7=>?_
 ·refine Mi ?_ (fG 83 J J.toNat S1.length i2)
  refine cL ?_
  refine Ms J.toNat 4 (⟨(S1.getD J.toNat default).ag,(S1.getD J.toNat default).id,(S1.getD J.toNat default).aC,(S1.getD J.toNat default).last,⟨A,c,L⟩⟩:aa) ?_ (by omega)
  intro L7 Ra SH
  have Pe:L7.getD J.toNat default=(⟨(S1.getD J.toNat default).ag,(S1.getD J.toNat default).id,(S1.getD J.toNat default).aC,(S1.getD J.toNat default).last,⟨A,c,L⟩⟩:aa):=by rw[Ra];exact bQ (by omega)
  have J6:L7=List.set S1 J.toNat (⟨(S1.getD J.toNat default).ag,(S1.getD J.toNat default).id,(S1.getD J.toNat default).aC,(S1.getD J.toNat default).last,⟨A,c,L⟩⟩:aa):=by rw[Ra]
  refine Mi ?_ (pc (fG 87 J J.toNat S1.length i0) (NG 88 J.toNat Pe i0))
  have sn:L=dW (fun k:aK=>decide (q<k.seq)) ⟨q,r⟩ (S1.getD J.toNat default).ab.xs:=(hI.HH (by assumption) (by omega))
  have Ay: ∀z,z∈L→z.aE.text.size≤9223372036854775807:=fun z hz=>by rcases ko (sn▸hz) with hz|hz;subst hz;exact hr;exact bn _ (aB (L:=S1) (i:=J.toNat) (by omega)) z hz
  refine Mp ?_ (v:=vb (a9 (⟨(S1.getD J.toNat default).ag,(S1.getD J.toNat default).id,(S1.getD J.toNat default).aC,(S1.getD J.toNat default).last,L⟩:az))) call108 (fun bs w hS=>lR (⟨(S1.getD J.toNat default).ag,(S1.getD J.toNat default).id,(S1.getD J.toNat default).aC,(S1.getD J.toNat default).last,⟨A,c,L⟩⟩:aa) w (Rr (B:=bH) (hS.res _ i1) (fun _ _=>trivial) Ay) ⟨nK.2.2.1,nK.2.2.2.1⟩)
  have Dr:a9 (⟨(S1.getD J.toNat default).ag,(S1.getD J.toNat default).id,(S1.getD J.toNat default).aC,(S1.getD J.toNat default).last,L⟩:az)=a9 (mK (S1.getD J.toNat default).abs q r):=by rw[sn];rfl
  rw[Dr]
  refine fL (a9 (mK (S1.getD J.toNat default).abs q r)) (fun h8=>?_) fun h8=>?_
  rotate_left
  ·refine Mt [vn,vi 2] fun bs w hS=>?_
   clear bu
   rw[←a5]
   have IV: ¬0≤ld (S1.getD J.toNat default).ab.xs q:=by unfold ld;rw[en (L:=(S1.getD J.toNat default).ab.xs) (p:=fun k:aK=>decide (k.seq=q)) fun j hj=>decide_eq_false (hX j (by omega))];omega
   have hm:fy (S1.map aa.abs) n t q r=([],2):=by
     unfold fy ef
     simp only[hJ,lL,List.length_map]
     repeat (first|rw[if_pos (by first|assumption|omega)]|rw[if_neg (by first|assumption|omega|(intro h0;first|exact absurd h0 (by assumption)|(simp_all;done)))])
     all_goals rfl
   refine⟨Sl.nil,?_,?_,hS.aO (Sl.ao _ _)⟩
   ·rw[hm]<;>rfl
   ·rw[hm]<;>rfl
  refine Mt [.slice A1 S1.length c1,vi 0] fun bs w hS=>?_
  clear bu
  rw[←a5]
  have IV: ¬0≤ld (S1.getD J.toNat default).ab.xs q:=by unfold ld;rw[en (L:=(S1.getD J.toNat default).ab.xs) (p:=fun k:aK=>decide (k.seq=q)) fun j hj=>decide_eq_false (hX j (by omega))];omega
  have gf:=dG J6
  have MX:((⟨(S1.getD J.toNat default).ag,(S1.getD J.toNat default).id,(S1.getD J.toNat default).aC,(S1.getD J.toNat default).last,⟨A,c,L⟩⟩:aa)).abs=mK (S1.getD J.toNat default).abs q r:=by exact congrArg (fun l=>(⟨(S1.getD J.toNat default).ag,(S1.getD J.toNat default).id,(S1.getD J.toNat default).aC,(S1.getD J.toNat default).last,l⟩:az)) sn
  rw[MX]at gf
  have hm:fy (S1.map aa.abs) n t q r=((S1.map aa.abs).set J.toNat (mK (S1.getD J.toNat default).abs q r),0):=by
    unfold fy ef
    simp only[hJ,lL,List.length_map]
    repeat (first|rw[if_pos (by first|assumption|omega)]|rw[if_neg (by first|assumption|omega|(intro h0;first|exact absurd h0 (by assumption)|(simp_all;done)))])
    all_goals rfl
  refine⟨⟨A1,c1,L7⟩,?_,?_,hS.aO (y:=(⟨A1,c1,L7⟩:Sl aa)) (bV i0 hS.res (fun x hx=>?_))⟩
  ·have gB:S1.length=L7.length:=by rw[J6,List.length_set]
   rw[hm]
   exact congrArg (fun q=>Ending.returned (.tuple #[.slice A1 q c1,vi 0])) gB
  ·exact Eq.trans gf (congrArg Prod.fst hm).symm
  ·rw[J6]at hx
   rcases mem_set hx with hx|hx
   ·subst hx;exact a4 i1 (hS.res _ i1) Ay
   ·exact cY i2 hS.res bn hx
 refine M1 ?_
 refine gX (α:=aK) 40 ([(⟨q,⟨r.code,r.n,r.text⟩⟩:aK)]) ?_
 intro A8 c8
 refine Mi ?_ (fG 83 J J.toNat S1.length i2)
 refine cL ?_
 refine Ms J.toNat 4 (⟨(S1.getD J.toNat default).ag,(S1.getD J.toNat default).id,(S1.getD J.toNat default).aC,(S1.getD J.toNat default).last,⟨A8,c8,L++[(⟨q,⟨r.code,r.n,r.text⟩⟩:aK)]⟩⟩:aa) ?_ (by omega)
 intro L9 KJ SI
 have Pg:L9.getD J.toNat default=(⟨(S1.getD J.toNat default).ag,(S1.getD J.toNat default).id,(S1.getD J.toNat default).aC,(S1.getD J.toNat default).last,⟨A8,c8,L++[(⟨q,⟨r.code,r.n,r.text⟩⟩:aK)]⟩⟩:aa):=by rw[KJ];exact bQ (by omega)
 have J7:L9=List.set S1 J.toNat (⟨(S1.getD J.toNat default).ag,(S1.getD J.toNat default).id,(S1.getD J.toNat default).aC,(S1.getD J.toNat default).last,⟨A8,c8,L++[(⟨q,⟨r.code,r.n,r.text⟩⟩:aK)]⟩⟩:aa):=by rw[KJ]
 refine Mi ?_ (pc (fG 87 J J.toNat S1.length i0) (NG 88 J.toNat Pg i0))
 have sn:L++[(⟨q,⟨r.code,r.n,r.text⟩⟩:aK)]=dW (fun k:aK=>decide (q<k.seq)) ⟨q,r⟩ (S1.getD J.toNat default).ab.xs:=(hI.HI (by assumption) (by omega))
 have Ay: ∀z,z∈L++[(⟨q,⟨r.code,r.n,r.text⟩⟩:aK)]→z.aE.text.size≤9223372036854775807:=fun z hz=>by rcases ko (sn▸hz) with hz|hz;subst hz;exact hr;exact bn _ (aB (L:=S1) (i:=J.toNat) (by omega)) z hz
 refine Mp ?_ (v:=vb (a9 (⟨(S1.getD J.toNat default).ag,(S1.getD J.toNat default).id,(S1.getD J.toNat default).aC,(S1.getD J.toNat default).last,L++[(⟨q,⟨r.code,r.n,r.text⟩⟩:aK)]⟩:az))) call108 (fun bs w hS=>lR (⟨(S1.getD J.toNat default).ag,(S1.getD J.toNat default).id,(S1.getD J.toNat default).aC,(S1.getD J.toNat default).last,⟨A8,c8,L++[(⟨q,⟨r.code,r.n,r.text⟩⟩:aK)]⟩⟩:aa) w (Rr (B:=bH) (hS.res _ i1) (fun _ _=>trivial) Ay) ⟨nK.2.2.1,nK.2.2.2.1⟩)
 have Dr:a9 (⟨(S1.getD J.toNat default).ag,(S1.getD J.toNat default).id,(S1.getD J.toNat default).aC,(S1.getD J.toNat default).last,L++[(⟨q,⟨r.code,r.n,r.text⟩⟩:aK)]⟩:az)=a9 (mK (S1.getD J.toNat default).abs q r):=by rw[sn];rfl
 rw[Dr]
 refine fL (a9 (mK (S1.getD J.toNat default).abs q r)) (fun h9=>?_) fun h9=>?_
 rotate_left
 ·refine Mt [vn,vi 2] fun bs w hS=>?_
  clear bu
  rw[←a5]
  have IV: ¬0≤ld (S1.getD J.toNat default).ab.xs q:=by unfold ld;rw[en (L:=(S1.getD J.toNat default).ab.xs) (p:=fun k:aK=>decide (k.seq=q)) fun j hj=>decide_eq_false (hX j (by omega))];omega
  have hm:fy (S1.map aa.abs) n t q r=([],2):=by
    unfold fy ef
    simp only[hJ,lL,List.length_map]
    repeat (first|rw[if_pos (by first|assumption|omega)]|rw[if_neg (by first|assumption|omega|(intro h0;first|exact absurd h0 (by assumption)|(simp_all;done)))])
    all_goals rfl
  refine⟨Sl.nil,?_,?_,hS.aO (Sl.ao _ _)⟩
  ·rw[hm]<;>rfl
  ·rw[hm]<;>rfl
 refine Mt [.slice A1 S1.length c1,vi 0] fun bs w hS=>?_
 clear bu
 rw[←a5]
 have IV: ¬0≤ld (S1.getD J.toNat default).ab.xs q:=by unfold ld;rw[en (L:=(S1.getD J.toNat default).ab.xs) (p:=fun k:aK=>decide (k.seq=q)) fun j hj=>decide_eq_false (hX j (by omega))];omega
 have gf:=dG J7
 have MX:((⟨(S1.getD J.toNat default).ag,(S1.getD J.toNat default).id,(S1.getD J.toNat default).aC,(S1.getD J.toNat default).last,⟨A8,c8,L++[(⟨q,⟨r.code,r.n,r.text⟩⟩:aK)]⟩⟩:aa)).abs=mK (S1.getD J.toNat default).abs q r:=by exact congrArg (fun l=>(⟨(S1.getD J.toNat default).ag,(S1.getD J.toNat default).id,(S1.getD J.toNat default).aC,(S1.getD J.toNat default).last,l⟩:az)) sn
 rw[MX]at gf
 have hm:fy (S1.map aa.abs) n t q r=((S1.map aa.abs).set J.toNat (mK (S1.getD J.toNat default).abs q r),0):=by
   unfold fy ef
   simp only[hJ,lL,List.length_map]
   repeat (first|rw[if_pos (by first|assumption|omega)]|rw[if_neg (by first|assumption|omega|(intro h0;first|exact absurd h0 (by assumption)|(simp_all;done)))])
   all_goals rfl
 refine⟨⟨A1,c1,L9⟩,?_,?_,hS.aO (y:=(⟨A1,c1,L9⟩:Sl aa)) (bV i0 hS.res (fun x hx=>?_))⟩
 ·have gB:S1.length=L9.length:=by rw[J7,List.length_set]
  rw[hm]
  exact congrArg (fun q=>Ending.returned (.tuple #[.slice A1 q c1,vi 0])) gB
 ·exact Eq.trans gf (congrArg Prod.fst hm).symm
 ·rw[J7]at hx
  rcases mem_set hx with hx|hx
  ·subst hx;exact a4 i1 (hS.res _ i1) Ay
  ·exact cY i2 hS.res bn hx
theorem rj (x:ae)(t:ByteArray)(w:World):Calls prog 190 #[x.val,vs t] w fun e w'=>e=.returned (vi (bK x.name t))∧Kp [] w w':=by
 refine M0 ?_ func190
 refine Mp ?_ call147 (fun bs w hS=>kU x.name t w)
 exact Mt [vi (bK x.name t)] fun bs w hS=>⟨rfl,hS.kp⟩
theorem s7 (s:Sl ae)(t:ByteArray)(w:World)(hs:s.rd B w)(hn:s.n≤1048576):Calls prog 145 #[s.val,vs t,.func (.func 190) #[] #[]] w fun e w'=>e=.returned (.tuple #[vi (eQ (fun x:ae=>bK x.name t) s.xs:Nat),vb (dk (fun x:ae=>bK x.name t) s.xs)])∧Kp [] w w':=by
 have cV:=Sl.rd.ok hs
 have iV:=Sl.ok.nc cV
 have iW:s.n=s.xs.length:=rfl
 refine Mj ?_ func145 (WS.start w)
 refine Ml (σ:=Nat×Nat×Nat) (fun⟨i,j,f⟩=>i≤j∧j≤s.n∧j - i≤f∧eQ (fun x:ae=>bK x.name t) s.xs=lZ (fun j=>decide (bK (s.at j).name t<0)) f i j) (fun⟨i,j,f⟩=>f) (fun _=>[]) [10,9,8,0,1,2] (fun⟨i,j,f⟩=>[(10,vI (j:Int)),(9,vI (i:Int))]) (fun _=>[]) ?_ (⟨0,s.n,s.n⟩) ⟨Nat.zero_le _,Nat.le_refl _,Nat.le_refl _,rfl⟩
 rintro⟨i,j,f⟩ ⟨h1,h2,h3,hI⟩ _ bu
 have hdiv:((i:Int)+(j:Int)) / 2=(((i+j) / 2:Nat):Int):=by omega
 refine Md ((i:Int)<(j:Int)) (fun h1=>?_) fun h1=>?_
 rotate_left
 ·refine Md ((i:Int)<(s.n:Int)) (fun h3=>?_) fun h3=>?_
  rotate_left
  ·refine Mt [vi (i:Int),vb false] fun bs w hS=>?_
   have jf:i=j:=by omega
   subst jf
   have hr:eQ (fun x:ae=>bK x.name t) s.xs=i:=by rw[hI];exact iQ _ _ _ _ (Nat.le_refl _)
   refine⟨?_,hS.kp⟩
   have ny:dk (fun x:ae=>bK x.name t) s.xs=false:=by
     unfold dk;rw[hr]
     rw[decide_eq_false (show ¬i<s.xs.length by omega)];rfl
   rw[hr,ny]
   rfl
  refine Mi ?_ (pA 43 44 (i:Int) i (db hs))
  refine Mp ?_ call190 (fun bs w hS=>rj (s.at i) t w)
  refine Mt [vi (i:Int),vb (decide (bK (s.at i).name t=0))] fun bs w hS=>?_
  have jf:i=j:=by omega
  subst jf
  have hr:eQ (fun x:ae=>bK x.name t) s.xs=i:=by rw[hI];exact iQ _ _ _ _ (Nat.le_refl _)
  refine⟨?_,hS.kp⟩
  have ny:dk (fun x:ae=>bK x.name t) s.xs=(decide (bK (s.at i).name t=0)):=by
    unfold dk;rw[hr]
    rw[decide_eq_true (show i<s.xs.length by omega)];rfl
  rw[hr,ny]
  rfl
 refine Mi ?_ (pc (pR ((i:Int)+(j:Int))) (pc (pG [(21,.val (.int .u64 ((i:Int)+(j:Int))))] (oc ((jD Tryz.underlying3 Tryz.underlying203 (by omega) (by omega)): ∀w,(convert 3 203 (vi ((i:Int)+(j:Int))):Sem Value).run prog w=.ok (.int .u64 ((i:Int)+(j:Int))) w) on)) (pc (pG [(22,.val (.int .u64 (((i:Int)+(j:Int)) / 2)))] (oc (qo: ∀w,(do eqGuard .shr 203 (.tmp 21) (.const (.int .u64 1)) (.int .u64 ((i:Int)+(j:Int))) (.int .u64 1);binOp .shr 203 (.int .u64 ((i:Int)+(j:Int))) (.int .u64 1):Sem Value).run prog w=.ok (.int .u64 (((i:Int)+(j:Int)) / 2)) w) on)) (pc (pG [(23,.val (vi (((i:Int)+(j:Int)) / 2)))] (oc ((jE Tryz.underlying203 Tryz.underlying3 (by omega) (by omega)): ∀w,(convert 203 3 (.int .u64 (((i:Int)+(j:Int)) / 2)):Sem Value).run prog w=.ok (vi (((i:Int)+(j:Int)) / 2)) w) on)) (pA 27 28 (((i:Int)+(j:Int)) / 2) (((i:Int)+(j:Int)) / 2).toNat (db hs))))))
 refine Mp ?_ call190 (fun bs w hS=>rj (s.at (((i:Int)+(j:Int)) / 2).toNat) t w)
 refine Md (bK (s.at (((i:Int)+(j:Int)) / 2).toNat).name t<0) (fun h2=>?_) fun h2=>?_
 rotate_left
 ·have yo:f=(f - 1)+1:=by omega
  rw[yo]at hI
  have sh:=hI.trans (mH (by omega) (decide_eq_false (by assumption)))
  exact bu ⟨i,(i+j) / 2,f - 1⟩ ⟨by omega,by omega,by omega,sh⟩ (by show f - 1<f;omega)
 refine Mi ?_ (pR ((((i:Int)+(j:Int)) / 2)+1))
 have yo:f=(f - 1)+1:=by omega
 rw[yo]at hI
 have sh:=hI.trans (qu (by omega) (decide_eq_true (by assumption)))
 exact bu ⟨(i+j) / 2+1,j,f - 1⟩ ⟨by omega,by omega,by omega,sh⟩ (by show f - 1<f;omega)
theorem xC (s:Sl ae)(t:ByteArray)(who:Int)(w:World)(hs:s.rd B w)(ht:t.size≤9223372036854775807):Calls prog 101 #[s.val,vs t,vi who] w fun e w'=>e=.returned (vi (dw (s.xs.map ae.abs) t who))∧Kp [] w w':=by
 have cV:=Sl.rd.ok hs
 have iV:=Sl.ok.nc cV
 have iW:s.n=s.xs.length:=rfl
 refine M0 ?_ func101
 refine Mp ?_ call93 (fun bs w hS=>jQ s w (Sl.rd.kp hs hS.kp))
 refine Md (bB (s.xs.map ae.abs)=0) (fun h1=>?_) fun h1=>?_
 rotate_left
 ·refine My false false ?_ (df h1)
  refine cd (bB (s.xs.map ae.abs)) ?_
  have hm:dw (s.xs.map ae.abs) t who=bB (s.xs.map ae.abs):=by
    unfold dw
    repeat (first|rw[if_pos (by first|assumption|omega)]|rw[if_neg (by first|assumption|omega|(simp_all;done))])
    try rfl
    try omega
  rw[hm]<;>rfl
 refine Mp ?_ call107 (fun bs w hS=>kL _ w (by first|assumption|omega|(simp only[aL];omega)))
 refine fL (ee t) (fun h2=>?_) fun h2=>?_
 rotate_left
 ·refine Mq 19 false ?_ rfl
  refine cd 4 ?_
  have hm:dw (s.xs.map ae.abs) t who=4:=by
    unfold dw
    repeat (first|rw[if_pos (by first|assumption|omega)]|rw[if_neg (by first|assumption|omega|(simp_all;done))])
    try rfl
    try omega
  rw[hm]<;>rfl
 refine My true false ?_ (dt h1)
 refine Mp ?_ call51 (fun bs w hS=>b6 who 1 9 w)
 refine fL (gk who 1 9) (fun h4=>?_) fun h4=>?_
 rotate_left
 ·simp only[iT,iF]at h4
  refine cd 2 ?_
  have hm:dw (s.xs.map ae.abs) t who=2:=by
    unfold dw
    repeat (first|rw[if_pos (by first|assumption|omega)]|rw[if_neg (by first|assumption|omega|(simp_all;done))])
    try rfl
    try omega
  rw[hm]<;>rfl
 simp only[iT,iF]at h4
 refine cd (bB (s.xs.map ae.abs)) ?_
 have hm:dw (s.xs.map ae.abs) t who=bB (s.xs.map ae.abs):=by
   unfold dw
   repeat (first|rw[if_pos (by first|assumption|omega)]|rw[if_neg (by first|assumption|omega|(simp_all;done))])
   try rfl
   try omega
 rw[hm]<;>rfl
theorem nk (s:Sl ae)(t:ByteArray)(who:Int)(w:World)(hs:s.rd B w)(ht:t.size≤9223372036854775807):Calls prog 148 #[s.val,vs t,vi who] w fun e w'=>(¬dw (s.xs.map ae.abs) t who=0∧e=.returned (.tuple #[vn,vi 0,vb false,vi (dw (s.xs.map ae.abs) t who)])∧Kp [] w w')∨(dw (s.xs.map ae.abs) t who=0∧ ∃y:Sl ae,e=.returned (.tuple #[y.val,vi ((eQ (fun x:ae=>bK x.name t) s.xs:Nat):Int),vb (dk (fun x:ae=>bK x.name t) s.xs),vi 0])∧y.xs.map ae.abs=s.xs.map ae.abs∧Kp [] w w'∧gC w w' (uc 115 3 y)):=by
 have cV:=Sl.rd.ok hs
 have iV:=Sl.ok.nc cV
 have iW:s.n=s.xs.length:=rfl
 refine M0 ?_ func148
 refine Mp ?_ call64 (fun bs w hS=>ng s w (Sl.rd.kp hs hS.kp))
 refine cr (bB (s.xs.map ae.abs)=0) (fun h1=>?_) fun h1=>?_
 rotate_left
 ·refine Mt [vn,vi 0,vb false,vi (bB (s.xs.map ae.abs))] fun bs w hS=>?_
  have hm:dw (s.xs.map ae.abs) t who=bB (s.xs.map ae.abs):=by
    unfold dw
    repeat (first|rw[if_pos (by first|assumption|omega)]|rw[if_neg (by first|assumption|omega|(simp_all;done))])
    try rfl
    try omega
  refine .inl ⟨?_,?_,hS.kp⟩
  ·rw[hm];first|assumption|omega
  ·rw[hm]<;>rfl
 have mh:=(fS h1).1
 have Er:s.xs.length≤5:=by simpa using mh
 refine Mp ?_ call129 (fun bs w hS=>mQ _ w (by first|assumption|omega|(simp only[aL];omega)))
 refine fL (ee t) (fun h2=>?_) fun h2=>?_
 rotate_left
 ·refine Mt [vn,vi 0,vb false,vi 4] fun bs w hS=>?_
  have hm:dw (s.xs.map ae.abs) t who=4:=by
    unfold dw
    repeat (first|rw[if_pos (by first|assumption|omega)]|rw[if_neg (by first|assumption|omega|(simp_all;done))])
    try rfl
    try omega
  refine .inl ⟨?_,?_,hS.kp⟩
  ·rw[hm];first|assumption|omega
  ·rw[hm]<;>rfl
 refine Mp ?_ call130 (fun bs w hS=>mg who w)
 refine fL (gk who 1 9) (fun h3=>?_) fun h3=>?_
 rotate_left
 ·simp only[iT,iF]at h3
  refine Mt [vn,vi 0,vb false,vi 2] fun bs w hS=>?_
  have hm:dw (s.xs.map ae.abs) t who=2:=by
    unfold dw
    repeat (first|rw[if_pos (by first|assumption|omega)]|rw[if_neg (by first|assumption|omega|(simp_all;done))])
    try rfl
    try omega
  refine .inl ⟨?_,?_,hS.kp⟩
  ·rw[hm];first|assumption|omega
  ·rw[hm]<;>rfl
 simp only[iT,iF]at h3
 refine Mp ?_ call145 (fun bs w hS=>s7 s t w (Sl.rd.kp hs hS.kp) (show s.xs.length≤1048576 by omega))
 refine Mf ?_ call68 (fun bs w hS=>sj s w (Sl.rd.kp hs hS.kp) (js (by assumption)))
 rintro y1 a5
 refine Mt [y1.val,vi ((eQ (fun x:ae=>bK x.name t) s.xs:Nat):Int),vb (dk (fun x:ae=>bK x.name t) s.xs),vi 0] fun bs w hS=>?_
 have hm:dw (s.xs.map ae.abs) t who=0:=by
   unfold dw
   repeat (first|rw[if_pos (by first|assumption|omega)]|rw[if_neg (by first|assumption|omega|(simp_all;done))])
   try rfl
   try omega
 exact .inr ⟨hm,y1,rfl,a5,hS.kp,hS.rG⟩
theorem yz (s:Sl ae)(x:ae)(w:World)(hs:s.rd B w)(hb:s.n≤1048575):Calls prog 102 #[s.val,x.val] w fun e w'=> ∃y:Sl ae,e=.returned y.val∧y.xs=dW (fun z:ae=>Op.bytesLess x.name.toList z.name.toList) x s.xs∧Kp [] w w'∧gC w w' (ay 115 y.A y.c y.xs):=by
 have cV:=Sl.rd.ok hs
 have iV:=Sl.ok.nc cV
 have iW:s.n=s.xs.length:=rfl
 refine M0 ?_ func102
 refine bU (α:=ae) 115 ?_
 refine Ml (σ:=Nat×Bool×Option Addr×Nat×List ae) (fun⟨k,b,A,c,L⟩=>jJ (fun z:ae=>Op.bytesLess x.name.toList z.name.toList) x s.xs k b L) (fun⟨k,b,A,c,L⟩=>s.xs.length - k) (fun⟨k,b,A,c,L⟩=>[ay 115 A c (L:List ae)]) [7,6,5,3,0] (fun⟨k,b,A,c,L⟩=>[(7,vI (k:Int)),(6,vB b),(5,.v (.slice A L.length c))]) (fun _=>[]) ?_ (⟨0,false,none,0,[]⟩) (show jJ (fun z:ae=>Op.bytesLess x.name.toList z.name.toList) x s.xs 0 false [] from jJ.start _ _ _)
 rintro⟨k,b,A,c,L⟩ hI _ bu
 have MB:=hI.len
 have MC:=hI.le
 refine Md ((k:Int)<(s.n:Int)) (fun h1=>?_) fun h1=>?_
 rotate_left
 ·refine fL b (fun h4=>?_) fun h4=>?_
  ·exact Mt [.slice A L.length c] fun bs w hS=>⟨⟨A,c,L⟩,rfl,(hI.HH (by assumption) (by omega)),hS.kp,hS.rG⟩
  refine M1 ?_
  refine gX (α:=ae) 56 ([(⟨x.name,x.ar,x.aA,x.line⟩:ae)]) ?_
  intro A5 c5
  exact Mt [.slice A5 (L++[(⟨x.name,x.ar,x.aA,x.line⟩:ae)]).length c5] fun bs w hS=>⟨⟨A5,c5,L++[(⟨x.name,x.ar,x.aA,x.line⟩:ae)]⟩,rfl,(hI.HI (by assumption) (by omega)),hS.kp,hS.rG⟩
 refine fP 12 ?_ ai
 refine HN b true [(6,false)] (fun h2=>?_) fun h2=>?_
 ·refine Mz ?_
  refine Mi ?_ (pA 33 34 (k:Int) k (db hs))
  refine M1 ?_
  refine gX (α:=ae) 56 ([(⟨(s.at k).name,(s.at k).ar,(s.at k).aA,(s.at k).line⟩:ae)]) ?_
  intro A1 c1
  refine Mi ?_ (pR ((k:Int)+1))
  exact bu ⟨k+1,true,A1,c1,L++[(⟨(s.at k).name,(s.at k).ar,(s.at k).aA,(s.at k).line⟩:ae)]⟩ (by first|exact hI.more (by assumption) (by omega)|exact hI.ES (by assumption) (by omega) (by assumption)|exact hI.skip (by assumption) (by omega) (by assumption)) (by show s.xs.length - (k+1)<s.xs.length - k;omega)
 refine bY ?_ (pc (pI 19 (k:Int) k (db hs)) (pF 21 k 0 1 (db hs)))
 refine Mz ?_
 refine fL (Op.bytesLess ((s.at k).name).toList (x.name).toList||decide ((s.at k).name=x.name)) (fun h3=>?_) fun h3=>?_
 ·rw[bytes_total]at h3
  simp only[Bool.not_eq_true',Bool.not_eq_false',Bool.not_eq_true,Bool.not_eq_false]at h3
  refine Mi ?_ (pA 33 34 (k:Int) k (db hs))
  refine M1 ?_
  refine gX (α:=ae) 56 ([(⟨(s.at k).name,(s.at k).ar,(s.at k).aA,(s.at k).line⟩:ae)]) ?_
  intro A2 c2
  refine Mi ?_ (pR ((k:Int)+1))
  exact bu ⟨k+1,false,A2,c2,L++[(⟨(s.at k).name,(s.at k).ar,(s.at k).aA,(s.at k).line⟩:ae)]⟩ (by first|exact hI.more (by assumption) (by omega)|exact hI.ES (by assumption) (by omega) (by assumption)|exact hI.skip (by assumption) (by omega) (by assumption)) (by show s.xs.length - (k+1)<s.xs.length - k;omega)
 rw[bytes_total]at h3
 simp only[Bool.not_eq_true',Bool.not_eq_false',Bool.not_eq_true,Bool.not_eq_false]at h3
 refine M1 ?_
 refine gX (α:=ae) 56 ([(⟨x.name,x.ar,x.aA,x.line⟩:ae)]) ?_
 intro A3 c3
 refine Mi ?_ (pA 33 34 (k:Int) k (db hs))
 refine M1 ?_
 refine gX (α:=ae) 56 ([(⟨(s.at k).name,(s.at k).ar,(s.at k).aA,(s.at k).line⟩:ae)]) ?_
 intro A4 c4
 refine Mi ?_ (pR ((k:Int)+1))
 exact bu ⟨k+1,true,A4,c4,L++[(⟨x.name,x.ar,x.aA,x.line⟩:ae)]++[(⟨(s.at k).name,(s.at k).ar,(s.at k).aA,(s.at k).line⟩:ae)]⟩ (by first|exact hI.more (by assumption) (by omega)|exact hI.ES (by assumption) (by omega) (by assumption)|exact hI.skip (by assumption) (by omega) (by assumption)) (by show s.xs.length - (k+1)<s.xs.length - k;omega)
theorem xD (s:Sl ae)(t:ByteArray)(who:Int)(wait:Bool)(w:World)(hs:s.rd B w)(ht:t.size≤9223372036854775807):Calls prog 84 #[.slice s.A s.n s.c,vs t,vi who,.bool wait] w fun e w'=> ∃y:Sl ae,e=.returned (.tuple #[.slice y.A y.n y.c,((bZ (s.xs.map ae.abs) t who wait).2.1).val,vi (bZ (s.xs.map ae.abs) t who wait).2.2])∧y.xs.map ae.abs=(bZ (s.xs.map ae.abs) t who wait).1∧bJ w w' y:=by
 have cV:=Sl.rd.ok hs
 have iV:=Sl.ok.nc cV
 have iW:s.n=s.xs.length:=rfl
 refine M0 ?_ func84
 by_cases h1:dw (s.xs.map ae.abs) t who=0
 rotate_left
 ·refine Mp ?_ call148 (fun bs w hS=>(nk s t who w (Sl.rd.kp hs hS.kp) (by first|assumption|omega|(simp only[aL];omega))).mono (fun e w' h=>(h.resolve_right (fun h9=>h1 h9.1)).2))
  refine My false true ?_ (df h1)
  refine Mt [vn,vz 0,vi (dw (s.xs.map ae.abs) t who)] fun bs w hS=>?_
  have hm:bZ (s.xs.map ae.abs) t who wait=([],gl,dw (s.xs.map ae.abs) t who):=by
    grind[bZ]
  refine⟨Sl.nil,?_,?_,hS.aO (Sl.ao _ _)⟩
  ·rw[hm]<;>rfl
  ·rw[hm]<;>rfl
 refine Mf ?_ call148 (fun bs w hS=>(nk s t who w (Sl.rd.kp hs hS.kp) (by first|assumption|omega|(simp only[aL];omega))).mono (fun e w' h=>(h.resolve_left (fun h9=>h9.1 h1)).2))
 rintro y1 a5
 refine dH ?_
 obtain⟨A1,c1,S1⟩:=y1
 have a5:S1.map ae.abs=s.xs.map ae.abs:=a5
 refine fO (R':=[bI (bM 3) S1,ay 115 A1 c1 (S1:List ae)]) (List.Perm.refl _) ?_
 have bn:=gF (y:=(⟨A1,c1,S1⟩:Sl ae)) hs a5
 have oA:S1.length=s.xs.length:=by simpa using congrArg List.length a5
 refine bk (F:= ∀i,i<S1.length→aJ.ok (S1.getD i default)) (fun bs w hS i hi=>aJ.bL (B:=bH) (w:=w) (gx (hS.res _ i0) bn (aB hi))) fun gj=>?_
 refine bk (F:=dY A1 c1 (S1:List ae)) (fun bs w hS=>br (hS.res _ i1)) fun cI=>?_
 have cn:=cI.2
 have pY:=oP h1
 have kj:bB (S1.map ae.abs)=0:=by rw[a5];exact pY.1
 have NJ:=pY.2.2.1
 have NK:=pY.2.2.2
 have Gq:S1.length≤5:=by have h9:=(fS kj).1;simpa using h9
 have J8:eQ (fun x:ae=>bK x.name t) s.xs=eQ (fun x:ae=>bK x.name t) S1:=xY (L:=s.xs) (L2:=S1) (f:=ae.abs) (c:=fun x:aY=>bK x.name t) rfl a5.symm
 have J9:dk (fun x:ae=>bK x.name t) s.xs=dk (fun x:ae=>bK x.name t) S1:=zu (L:=s.xs) (L2:=S1) (f:=ae.abs) (c:=fun x:aY=>bK x.name t) rfl a5.symm
 rw[J8,J9]
 have oB:=n6 (L:=S1) kj t
 have qc:=du (fun x:aY=>decide (x.name=t)) (S1.map ae.abs)
 rw[List.length_map]at qc
 generalize hJ:aQ (fun x:aY=>decide (x.name=t)) (S1.map ae.abs)=J at oB qc
 have wZ:=n5 (fun x:ae=>bK x.name t) S1
 generalize hk:eQ (fun x:ae=>bK x.name t) S1=k at oB wZ⊢
 generalize hf:dk (fun x:ae=>bK x.name t) S1=fb at oB⊢
 refine Mq 24 false ?_ rfl
 refine HN fb true [(12,false)] (fun h2=>?_) fun h2=>?_
 rotate_left
 ·have Au:=of_decide_eq_false (oB.1.symm.trans h2)
  refine Md ((S1.length:Int)=5) (fun g7=>?_) fun g7=>?_
  ·refine Mt [.slice A1 S1.length c1,vz 8,vi 0] fun bs w hS=>?_
   have gR:dw (S1.map ae.abs) t who=0:=by rw[a5];assumption
   rw[←a5]
   have lQ:(S1.getD k default).abs.ar=(S1.getD k default).ar:=rfl
   have kN:(S1.getD k default).abs.aA=(S1.getD k default).aA:=rfl
   have nh:(S1.getD k default).abs.line=(S1.getD k default).line.xs:=rfl
   have pZ:(S1.getD k default).abs.name=(S1.getD k default).name:=rfl
   have hm:bZ (S1.map ae.abs) t who wait=(S1.map ae.abs,⟨8,0,emp⟩,0):=by
     grind[bZ,iA]
   refine⟨⟨A1,c1,S1⟩,?_,?_,hS.aO (y:=(⟨A1,c1,S1⟩:Sl ae)) (bT i1 hS.res (fun x hx=>?_))⟩
   ·rw[hm]<;>rfl
   ·exact (congrArg Prod.fst hm).symm
   ·exact⟨bn x hx,cO i0 hS.res hx⟩
  refine M1 ?_
  refine cb ?_
  refine nF ?_ call149 (fun bs w hS=>(Ev A1 c1 S1 k _ (⟨t,who,1,Sl.nil⟩:ae) (bs.getD 1 0) 115 w (hS.res _ i0) hS.lH.2.2 rfl (by omega) (by omega) (hS.loc 1 ⟨115,[vS t,vI who,vI 1,.v vn]⟩ (by kernel_rfl) (by simp)) (hS.tp (i:=1) (b:=⟨115,[vS t,vI who,vI 1,.v vn]⟩) (by kernel_rfl))).mono (fun e w' ⟨y,h1,h2⟩=>⟨y,h1,trivial,h2⟩))
  rintro q7 _
  refine Mt [.slice q7.1 (S1.take k++[(⟨t,who,1,Sl.nil⟩:ae)]++S1.drop k).length q7.2,.agg #[vi 0,vi 1,ve],vi 0] fun bs w hS=>?_
  have gR:dw (S1.map ae.abs) t who=0:=by rw[a5];assumption
  rw[←a5]
  have lQ:(S1.getD k default).abs.ar=(S1.getD k default).ar:=rfl
  have kN:(S1.getD k default).abs.aA=(S1.getD k default).aA:=rfl
  have nh:(S1.getD k default).abs.line=(S1.getD k default).line.xs:=rfl
  have pZ:(S1.getD k default).abs.name=(S1.getD k default).name:=rfl
  have Df:S1.take k++[(⟨t,who,1,Sl.nil⟩:ae)]++S1.drop k=dW (fun x:ae=>Op.bytesLess t.toList x.name.toList) (⟨t,who,1,Sl.nil⟩:ae) S1:=xW ((FD kj (by rw[hJ];omega)).trans hk)
  have gf:=zt Df
  have hm:bZ (S1.map ae.abs) t who wait=(dW (fun x:aY=>Op.bytesLess t.toList x.name.toList) ⟨t,who,1,[]⟩ (S1.map ae.abs),⟨0,1,emp⟩,0):=by
    grind[bZ,iA]
  refine⟨⟨q7.1,q7.2,S1.take k++[(⟨t,who,1,Sl.nil⟩:ae)]++S1.drop k⟩,?_,?_,hS.aO (y:=(⟨q7.1,q7.2,S1.take k++[(⟨t,who,1,Sl.nil⟩:ae)]++S1.drop k⟩:Sl ae)) (bT i0 hS.res (fun x hx=>?_))⟩
  ·rw[hm]<;>rfl
  ·exact Eq.trans gf (congrArg Prod.fst hm).symm
  ·rw[Df]at hx
   rcases ko hx with hx|hx
   ·subst hx;exact⟨ht,Sl.ao _ _⟩
   ·exact⟨bn x hx,cO i1 hS.res hx⟩
 have Gy:=oB.2 h2
 subst Gy
 have nK:=mM kj (k:=k) (by omega)
 obtain⟨Gr,Gs,Aq,Ar,As,Gt⟩:=nK
 have Hd:(S1.getD k default).line.n=(S1.getD k default).line.xs.length:=rfl
 refine Mi ?_ (pc (fG 52 (k:Int) k S1.length i1) (lg 57 k 1 1 i1))
 refine Md ((S1.getD k default).ar=who) (fun h3=>?_) fun h3=>?_
 ·refine cZ 9 [] [0] [bI (bM 3) S1,ay 115 A1 c1 (S1:List ae)] ai ?_
  refine bY ?_ (lg 64 k 2 1 i1)
  refine Mz ?_
  refine Mt [.slice A1 S1.length c1,.agg #[vi 0,vi (S1.getD k default).aA,ve],vi 0] fun bs w hS=>?_
  have gR:dw (S1.map ae.abs) t who=0:=by rw[a5];assumption
  rw[←a5]
  have lQ:(S1.getD k default).abs.ar=(S1.getD k default).ar:=rfl
  have kN:(S1.getD k default).abs.aA=(S1.getD k default).aA:=rfl
  have nh:(S1.getD k default).abs.line=(S1.getD k default).line.xs:=rfl
  have pZ:(S1.getD k default).abs.name=(S1.getD k default).name:=rfl
  have dX:eU (S1.getD k default).abs who wait=((S1.getD k default).abs,⟨0,(S1.getD k default).aA,emp⟩):=by
    grind[eU]
  have hm:bZ (S1.map ae.abs) t who wait=(S1.map ae.abs,⟨0,(S1.getD k default).aA,emp⟩,0):=by
    unfold bZ iA
    simp only[hJ,Int.toNat_natCast,fo,List.length_map]
    rw[dX]
    repeat (first|rw[if_pos (by first|assumption|omega)]|rw[if_neg (by first|assumption|omega|(intro h0;first|exact absurd h0 (by assumption)|(simp_all;done)))])
    all_goals (show ((S1.map ae.abs).set k (S1.getD k default).abs,_,_)=_;rw[←fo,fW (by rw[List.length_map];omega)])
  refine⟨⟨A1,c1,S1⟩,?_,?_,hS.aO (y:=(⟨A1,c1,S1⟩:Sl ae)) (bT i1 hS.res (fun x hx=>?_))⟩
  ·rw[hm]<;>rfl
  ·exact (congrArg Prod.fst hm).symm
  ·exact⟨bn x hx,cO i0 hS.res hx⟩
 refine Mi ?_ (lg 70 k 1 1 i1)
 refine Md ((S1.getD k default).ar=0) (fun h4=>?_) fun h4=>?_
 ·refine Mi ?_ (lg 76 k 2 1 i1)
  refine Md ((S1.getD k default).aA=1073741824) (fun h5=>?_) fun h5=>?_
  ·refine Mt [.slice A1 S1.length c1,vz 8,vi 0] fun bs w hS=>?_
   have gR:dw (S1.map ae.abs) t who=0:=by rw[a5];assumption
   rw[←a5]
   have lQ:(S1.getD k default).abs.ar=(S1.getD k default).ar:=rfl
   have kN:(S1.getD k default).abs.aA=(S1.getD k default).aA:=rfl
   have nh:(S1.getD k default).abs.line=(S1.getD k default).line.xs:=rfl
   have pZ:(S1.getD k default).abs.name=(S1.getD k default).name:=rfl
   have dX:eU (S1.getD k default).abs who wait=((S1.getD k default).abs,⟨8,0,emp⟩):=by
     grind[eU]
   have hm:bZ (S1.map ae.abs) t who wait=(S1.map ae.abs,⟨8,0,emp⟩,0):=by
     unfold bZ iA
     simp only[hJ,Int.toNat_natCast,fo,List.length_map]
     rw[dX]
     repeat (first|rw[if_pos (by first|assumption|omega)]|rw[if_neg (by first|assumption|omega|(intro h0;first|exact absurd h0 (by assumption)|(simp_all;done)))])
     all_goals (show ((S1.map ae.abs).set k (S1.getD k default).abs,_,_)=_;rw[←fo,fW (by rw[List.length_map];omega)])
   refine⟨⟨A1,c1,S1⟩,?_,?_,hS.aO (y:=(⟨A1,c1,S1⟩:Sl ae)) (bT i1 hS.res (fun x hx=>?_))⟩
   ·rw[hm]<;>rfl
   ·exact (congrArg Prod.fst hm).symm
   ·exact⟨bn x hx,cO i0 hS.res hx⟩
  refine Mi ?_ (lg 85 k 1 1 i1)
  refine My true false ?_ (dt h4)
  refine Mi ?_ (pc (lg 93 k 2 1 i1) (pR ((S1.getD k default).aA+1)))
  refine cb ?_
  refine Ms k 1 (⟨(S1.getD k default).name,who,(S1.getD k default).aA,(S1.getD k default).line⟩:ae) ?_ (by omega)
  intro L3 sY BZ
  have ki:L3.getD k default=(⟨(S1.getD k default).name,who,(S1.getD k default).aA,(S1.getD k default).line⟩:ae):=by rw[sY];exact bQ (by omega)
  have iX:L3=List.set S1 k (⟨(S1.getD k default).name,who,(S1.getD k default).aA,(S1.getD k default).line⟩:ae):=by rw[sY]
  refine Ms k 2 (⟨(S1.getD k default).name,who,(S1.getD k default).aA+1,(S1.getD k default).line⟩:ae) ?_ (by omega) (hg:=ki)
  intro L4 qb An
  have j2:L4.getD k default=(⟨(S1.getD k default).name,who,(S1.getD k default).aA+1,(S1.getD k default).line⟩:ae):=by rw[qb];exact bQ (by omega)
  have lV:L4=List.set S1 k (⟨(S1.getD k default).name,who,(S1.getD k default).aA+1,(S1.getD k default).line⟩:ae):=by rw[qb,iX,List.set_set]
  refine cZ 9 [] [0] [ay 115 A1 c1 (L4:List ae),bI (bM 3) S1] ai ?_
  refine bY ?_ (l5 103 k 2 1 j2 i0)
  refine Mz ?_
  refine Mt [.slice A1 S1.length c1,.agg #[vi 0,vi ((S1.getD k default).aA+1),ve],vi 0] fun bs w hS=>?_
  have gR:dw (S1.map ae.abs) t who=0:=by rw[a5];assumption
  rw[←a5]
  have lQ:(S1.getD k default).abs.ar=(S1.getD k default).ar:=rfl
  have kN:(S1.getD k default).abs.aA=(S1.getD k default).aA:=rfl
  have nh:(S1.getD k default).abs.line=(S1.getD k default).line.xs:=rfl
  have pZ:(S1.getD k default).abs.name=(S1.getD k default).name:=rfl
  have gf:=kF lV
  have dX:eU (S1.getD k default).abs who wait=(((⟨(S1.getD k default).name,who,(S1.getD k default).aA+1,(S1.getD k default).line⟩:ae)).abs,⟨0,(S1.getD k default).aA+1,emp⟩):=by
    unfold eU
    simp only[lQ,kN,nh,pZ]
    repeat (first|rw[if_pos (by first|assumption|omega|exact .inl (by assumption)|exact .inr (by assumption))]|rw[if_neg (by first|assumption|omega|(rintro (h8|h8)<;>simp_all;done))])
    all_goals rfl
  have hm:bZ (S1.map ae.abs) t who wait=((S1.map ae.abs).set k ((⟨(S1.getD k default).name,who,(S1.getD k default).aA+1,(S1.getD k default).line⟩:ae)).abs,⟨0,(S1.getD k default).aA+1,emp⟩,0):=by
    unfold bZ iA
    simp only[hJ,Int.toNat_natCast,fo,List.length_map]
    rw[dX]
    repeat (first|rw[if_pos (by first|assumption|omega)]|rw[if_neg (by first|assumption|omega|(intro h0;first|exact absurd h0 (by assumption)|(simp_all;done)))])
    all_goals rfl
  refine⟨⟨A1,c1,L4⟩,?_,?_,hS.aO (y:=(⟨A1,c1,L4⟩:Sl ae)) (bT i0 hS.res (fun x hx=>?_))⟩
  ·have gB:S1.length=L4.length:=by rw[lV,List.length_set]
   rw[hm]
   exact congrArg (fun q=>Ending.returned (.tuple #[.slice A1 q c1,.agg #[vi 0,vi ((S1.getD k default).aA+1),ve],vi 0])) gB
  ·exact Eq.trans gf (congrArg Prod.fst hm).symm
  ·rw[lV]at hx
   rcases mem_set hx with hx|hx
   ·subst hx;exact⟨bn (S1.getD k default) (aB (L:=S1) (i:=k) (by omega)),cO (x:=(S1.getD k default)) i1 hS.res (aB (L:=S1) (i:=k) (by omega))⟩
   ·exact⟨bn x hx,cO i1 hS.res hx⟩
 refine Mi ?_ (lg 85 k 1 1 i1)
 refine My false false ?_ (df h4)
 refine fL wait (fun h8=>?_) fun h8=>?_
 rotate_left
 ·refine cZ 9 [] [0] [bI (bM 3) S1,ay 115 A1 c1 (S1:List ae)] ai ?_
  refine bY ?_ (lg 120 k 1 1 i1)
  refine Mz ?_
  refine Mt [.slice A1 S1.length c1,.agg #[vi 10,vi (S1.getD k default).ar,ve],vi 0] fun bs w hS=>?_
  have gR:dw (S1.map ae.abs) t who=0:=by rw[a5];assumption
  rw[←a5]
  have lQ:(S1.getD k default).abs.ar=(S1.getD k default).ar:=rfl
  have kN:(S1.getD k default).abs.aA=(S1.getD k default).aA:=rfl
  have nh:(S1.getD k default).abs.line=(S1.getD k default).line.xs:=rfl
  have pZ:(S1.getD k default).abs.name=(S1.getD k default).name:=rfl
  have dX:eU (S1.getD k default).abs who wait=((S1.getD k default).abs,⟨10,(S1.getD k default).ar,emp⟩):=by
    grind[eU]
  have hm:bZ (S1.map ae.abs) t who wait=(S1.map ae.abs,⟨10,(S1.getD k default).ar,emp⟩,0):=by
    unfold bZ iA
    simp only[hJ,Int.toNat_natCast,fo,List.length_map]
    rw[dX]
    repeat (first|rw[if_pos (by first|assumption|omega)]|rw[if_neg (by first|assumption|omega|(intro h0;first|exact absurd h0 (by assumption)|(simp_all;done)))])
    all_goals (show ((S1.map ae.abs).set k (S1.getD k default).abs,_,_)=_;rw[←fo,fW (by rw[List.length_map];omega)])
  refine⟨⟨A1,c1,S1⟩,?_,?_,hS.aO (y:=(⟨A1,c1,S1⟩:Sl ae)) (bT i1 hS.res (fun x hx=>?_))⟩
  ·rw[hm]<;>rfl
  ·exact (congrArg Prod.fst hm).symm
  ·exact⟨bn x hx,cO i0 hS.res hx⟩
 refine Mi ?_ (lg 112 k 3 1 i1)
 refine Mp ?_ call150 (fun bs w hS=>Aj (S1.getD k default).line (S1.getD k default).line.n who w (gx (hS.res _ i0) bn (aB (i:=k) (by omega))).2 (by omega))
 have Ii:(((S1.getD k default).line.xs.take (S1.getD k default).line.n).any fun z=>decide (z=who))=uo (S1.getD k default).abs who:=by rw[dE (Nat.le_refl _)];rfl
 rw[Ii]
 refine Mb (uo (S1.getD k default).abs who) (fun h9=>?_) fun h9=>?_
 ·refine cZ 9 [] [0] [bI (bM 3) S1,ay 115 A1 c1 (S1:List ae)] ai ?_
  refine bY ?_ (lg 120 k 1 1 i1)
  refine Mz ?_
  refine Mt [.slice A1 S1.length c1,.agg #[vi 10,vi (S1.getD k default).ar,ve],vi 0] fun bs w hS=>?_
  have gR:dw (S1.map ae.abs) t who=0:=by rw[a5];assumption
  rw[←a5]
  have lQ:(S1.getD k default).abs.ar=(S1.getD k default).ar:=rfl
  have kN:(S1.getD k default).abs.aA=(S1.getD k default).aA:=rfl
  have nh:(S1.getD k default).abs.line=(S1.getD k default).line.xs:=rfl
  have pZ:(S1.getD k default).abs.name=(S1.getD k default).name:=rfl
  have dX:eU (S1.getD k default).abs who wait=((S1.getD k default).abs,⟨10,(S1.getD k default).ar,emp⟩):=by
    grind[eU]
  have hm:bZ (S1.map ae.abs) t who wait=(S1.map ae.abs,⟨10,(S1.getD k default).ar,emp⟩,0):=by
    unfold bZ iA
    simp only[hJ,Int.toNat_natCast,fo,List.length_map]
    rw[dX]
    repeat (first|rw[if_pos (by first|assumption|omega)]|rw[if_neg (by first|assumption|omega|(intro h0;first|exact absurd h0 (by assumption)|(simp_all;done)))])
    all_goals (show ((S1.map ae.abs).set k (S1.getD k default).abs,_,_)=_;rw[←fo,fW (by rw[List.length_map];omega)])
  refine⟨⟨A1,c1,S1⟩,?_,?_,hS.aO (y:=(⟨A1,c1,S1⟩:Sl ae)) (bT i1 hS.res (fun x hx=>?_))⟩
  ·rw[hm]<;>rfl
  ·exact (congrArg Prod.fst hm).symm
  ·exact⟨bn x hx,cO i0 hS.res hx⟩
 refine Mi ?_ (lg 126 k 3 1 i1)
 refine Md ((((S1.getD k default).line.n:Nat):Int)=3) (fun ir=>?_) fun ir=>?_
 ·refine Mt [.slice A1 S1.length c1,vz 8,vi 0] fun bs w hS=>?_
  have gR:dw (S1.map ae.abs) t who=0:=by rw[a5];assumption
  rw[←a5]
  have lQ:(S1.getD k default).abs.ar=(S1.getD k default).ar:=rfl
  have kN:(S1.getD k default).abs.aA=(S1.getD k default).aA:=rfl
  have nh:(S1.getD k default).abs.line=(S1.getD k default).line.xs:=rfl
  have pZ:(S1.getD k default).abs.name=(S1.getD k default).name:=rfl
  have dX:eU (S1.getD k default).abs who wait=((S1.getD k default).abs,⟨8,0,emp⟩):=by
    grind[eU]
  have hm:bZ (S1.map ae.abs) t who wait=(S1.map ae.abs,⟨8,0,emp⟩,0):=by
    unfold bZ iA
    simp only[hJ,Int.toNat_natCast,fo,List.length_map]
    rw[dX]
    repeat (first|rw[if_pos (by first|assumption|omega)]|rw[if_neg (by first|assumption|omega|(intro h0;first|exact absurd h0 (by assumption)|(simp_all;done)))])
    all_goals (show ((S1.map ae.abs).set k (S1.getD k default).abs,_,_)=_;rw[←fo,fW (by rw[List.length_map];omega)])
  refine⟨⟨A1,c1,S1⟩,?_,?_,hS.aO (y:=(⟨A1,c1,S1⟩:Sl ae)) (bT i1 hS.res (fun x hx=>?_))⟩
  ·rw[hm]<;>rfl
  ·exact (congrArg Prod.fst hm).symm
  ·exact⟨bn x hx,cO i0 hS.res hx⟩
 refine m5 (ay 3 (S1.getD k default).line.A (S1.getD k default).line.c ((S1.getD k default).line.xs:List Int)) (bI (bM 3) (List.eraseIdx S1 k)) (ky (bM 3) (i:=k) (by omega)) (fun w h=>lG (bM 3) (i:=k) (by omega) w h) ?_
 refine Mi ?_ (lg 135 k 3 1 i2)
 refine M1 ?_
 refine gX (α:=Int) 8 ([who]) ?_
 intro A5 c5
 refine cL ?_
 refine Ms k 3 (⟨(S1.getD k default).name,(S1.getD k default).ar,(S1.getD k default).aA,⟨A5,c5,(S1.getD k default).line.xs++[who]⟩⟩:ae) ?_ (by omega)
 intro L6 rB Am
 have ni:L6.getD k default=(⟨(S1.getD k default).name,(S1.getD k default).ar,(S1.getD k default).aA,⟨A5,c5,(S1.getD k default).line.xs++[who]⟩⟩:ae):=by rw[rB];exact bQ (by omega)
 have fM:L6=List.set S1 k (⟨(S1.getD k default).name,(S1.getD k default).ar,(S1.getD k default).aA,⟨A5,c5,(S1.getD k default).line.xs++[who]⟩⟩:ae):=by rw[rB]
 refine cZ 9 [] [0] [ay 115 A1 c1 (L6:List ae),ay 3 A5 c5 ((S1.getD k default).line.xs++[who]:List Int),bI (bM 3) (List.eraseIdx S1 k)] ai ?_
 refine bY ?_ (l5 145 k 1 1 ni i0)
 refine Mz ?_
 refine Mt [.slice A1 S1.length c1,.agg #[vi 10,vi (S1.getD k default).ar,ve],vi 0] fun bs w hS=>?_
 have gR:dw (S1.map ae.abs) t who=0:=by rw[a5];assumption
 rw[←a5]
 have lQ:(S1.getD k default).abs.ar=(S1.getD k default).ar:=rfl
 have kN:(S1.getD k default).abs.aA=(S1.getD k default).aA:=rfl
 have nh:(S1.getD k default).abs.line=(S1.getD k default).line.xs:=rfl
 have pZ:(S1.getD k default).abs.name=(S1.getD k default).name:=rfl
 have gf:=kF fM
 have dX:eU (S1.getD k default).abs who wait=(((⟨(S1.getD k default).name,(S1.getD k default).ar,(S1.getD k default).aA,⟨A5,c5,(S1.getD k default).line.xs++[who]⟩⟩:ae)).abs,⟨10,(S1.getD k default).ar,emp⟩):=by
   unfold eU
   simp only[lQ,kN,nh,pZ]
   repeat (first|rw[if_pos (by first|assumption|omega|exact .inl (by assumption)|exact .inr (by assumption))]|rw[if_neg (by first|assumption|omega|(rintro (h8|h8)<;>simp_all;done))])
   all_goals rfl
 have hm:bZ (S1.map ae.abs) t who wait=((S1.map ae.abs).set k ((⟨(S1.getD k default).name,(S1.getD k default).ar,(S1.getD k default).aA,⟨A5,c5,(S1.getD k default).line.xs++[who]⟩⟩:ae)).abs,⟨10,(S1.getD k default).ar,emp⟩,0):=by
   unfold bZ iA
   simp only[hJ,Int.toNat_natCast,fo,List.length_map]
   rw[dX]
   repeat (first|rw[if_pos (by first|assumption|omega)]|rw[if_neg (by first|assumption|omega|(intro h0;first|exact absurd h0 (by assumption)|(simp_all;done)))])
   all_goals rfl
 refine⟨⟨A1,c1,L6⟩,?_,?_,hS.aO (y:=(⟨A1,c1,L6⟩:Sl ae)) (bT i0 hS.res (fun x hx=>?_))⟩
 ·have gB:S1.length=L6.length:=by rw[fM,List.length_set]
  rw[hm]
  exact congrArg (fun q=>Ending.returned (.tuple #[.slice A1 q c1,.agg #[vi 10,vi (S1.getD k default).ar,ve],vi 0])) gB
 ·exact Eq.trans gf (congrArg Prod.fst hm).symm
 ·rw[fM]at hx
  rcases ia hx with hx|hx
  ·subst hx;exact⟨bn (S1.getD k default) (aB (L:=S1) (i:=k) (by omega)),a4 i1 (hS.res _ i1) (fun _ _=>trivial)⟩
  ·exact⟨bn x (List.mem_of_mem_eraseIdx hx),cO i2 hS.res hx⟩
theorem sP (s:Sl ae)(t:ByteArray)(who:Int)(wait:Bool)(w:World)(hs:s.rd B w)(ht:t.size≤9223372036854775807):Calls prog 38 #[s.val,vs t,vi who,.bool wait] w fun e w'=> ∃y:Sl ae,e=.returned (.tuple #[y.val,((bZ (s.xs.map ae.abs) t who wait).2.1).val,vi (bZ (s.xs.map ae.abs) t who wait).2.2])∧y.xs.map ae.abs=(bZ (s.xs.map ae.abs) t who wait).1∧bJ w w' y:=by
 have cV:=Sl.rd.ok hs
 have iV:=Sl.ok.nc cV
 have iW:s.n=s.xs.length:=rfl
 refine M0 ?_ func38
 refine Mp ?_ call101 (fun bs w hS=>xC s t who w (Sl.rd.kp hs hS.kp) (by first|assumption|omega|(simp only[aL];omega)))
 refine cr (dw (s.xs.map ae.abs) t who=0) (fun h1=>?_) fun h1=>?_
 rotate_left
 ·refine Mt [vn,vz 0,vi (dw (s.xs.map ae.abs) t who)] fun bs w hS=>?_
  have hm:bZ (s.xs.map ae.abs) t who wait=([],gl,dw (s.xs.map ae.abs) t who):=by
    grind[bZ]
  refine⟨Sl.nil,?_,?_,hS.aO (Sl.ao _ _)⟩
  ·rw[hm]<;>rfl
  ·rw[hm]<;>rfl
 refine Mf ?_ call18 (fun bs w hS=>ku s w (Sl.rd.kp hs hS.kp) (js (oP (by assumption)).1))
 rintro y1 a5
 refine dH ?_
 obtain⟨A1,c1,S1⟩:=y1
 have a5:S1.map ae.abs=s.xs.map ae.abs:=a5
 refine fO (R':=[bI (bM 3) S1,ay 115 A1 c1 (S1:List ae)]) (List.Perm.refl _) ?_
 have bn:=gF (y:=(⟨A1,c1,S1⟩:Sl ae)) (hs) a5
 have oA:S1.length=s.xs.length:=by simpa using congrArg List.length a5
 refine bk (F:= ∀i,i<S1.length→aJ.ok (S1.getD i default)) (fun bs w hS i hi=>aJ.bL (B:=bH) (w:=w) (gx (hS.res _ i0) bn (aB hi))) fun gj=>?_
 refine bk (F:=dY A1 c1 (S1:List ae)) (fun bs w hS=>br (hS.res _ i1)) fun cI=>?_
 have cn:=cI.2
 have pY:=oP h1
 have kj:bB (S1.map ae.abs)=0:=by rw[a5];exact pY.1
 have NJ:=pY.2.2.1
 have NK:=pY.2.2.2
 have Gq:S1.length≤5:=by have h9:=(fS kj).1;simpa using h9
 refine Mp ?_ call100 (fun bs w hS=>jk (⟨A1,c1,S1⟩:Sl ae) t w (rL (hS.res _ i0) (hS.res _ i1) bn))
 have Ig:aQ (fun x:ae=>decide (x.name=t)) S1=aQ (fun x:aY=>decide (x.name=t)) (S1.map ae.abs):=fm ae.abs (fun x:aY=>decide (x.name=t)) S1
 rw[Ig]
 have qc:=du (fun x:aY=>decide (x.name=t)) (S1.map ae.abs)
 generalize hJ:aQ (fun x:aY=>decide (x.name=t)) (S1.map ae.abs)=J at qc⊢
 rw[List.length_map]at qc
 refine Md (J<0) (fun h2=>?_) fun h2=>?_
 ·have Au: ¬0≤J:=by omega
  refine Md ((5:Int)≤(S1.length:Int)) (fun h3=>?_) fun h3=>?_
  ·refine Mt [.slice A1 S1.length c1,vz 8,vi 0] fun bs w hS=>?_
   have gR:dw (S1.map ae.abs) t who=0:=by rw[a5];assumption
   rw[←a5]
   have lQ:(S1.getD J.toNat default).abs.ar=(S1.getD J.toNat default).ar:=rfl
   have kN:(S1.getD J.toNat default).abs.aA=(S1.getD J.toNat default).aA:=rfl
   have nh:(S1.getD J.toNat default).abs.line=(S1.getD J.toNat default).line.xs:=rfl
   have pZ:(S1.getD J.toNat default).abs.name=(S1.getD J.toNat default).name:=rfl
   have hm:bZ (S1.map ae.abs) t who wait=(S1.map ae.abs,⟨8,0,emp⟩,0):=by
     grind[bZ,iA]
   refine⟨⟨A1,c1,S1⟩,?_,?_,hS.aO (y:=(⟨A1,c1,S1⟩:Sl ae)) (bT i1 hS.res (fun x hx=>?_))⟩
   ·rw[hm]<;>rfl
   ·exact (congrArg Prod.fst hm).symm
   ·exact⟨bn x hx,cO i0 hS.res hx⟩
  refine Mf ?_ call102 (fun bs w hS=>yz (⟨A1,c1,S1⟩:Sl ae) (⟨t,who,1,Sl.nil⟩:ae) w (rL (hS.res _ i0) (hS.res _ i1) bn) (by show S1.length≤_;omega))
  rintro y3 my
  obtain⟨A3,c3,rfl⟩:=Sl.wO my
  refine eu (ay 115 A3 c3 (dW (fun z:ae=>Op.bytesLess t.toList z.name.toList) (⟨t,who,1,Sl.nil⟩:ae) S1:List ae)) (List.Sublist.refl _) (fun w h=>h) ?_
  refine Mt [.slice A3 (dW (fun z:ae=>Op.bytesLess t.toList z.name.toList) (⟨t,who,1,Sl.nil⟩:ae) S1).length c3,.agg #[vi 0,vi 1,ve],vi 0] fun bs w hS=>?_
  have gR:dw (S1.map ae.abs) t who=0:=by rw[a5];assumption
  rw[←a5]
  have lQ:(S1.getD J.toNat default).abs.ar=(S1.getD J.toNat default).ar:=rfl
  have kN:(S1.getD J.toNat default).abs.aA=(S1.getD J.toNat default).aA:=rfl
  have nh:(S1.getD J.toNat default).abs.line=(S1.getD J.toNat default).line.xs:=rfl
  have pZ:(S1.getD J.toNat default).abs.name=(S1.getD J.toNat default).name:=rfl
  have Df:dW (fun z:ae=>Op.bytesLess t.toList z.name.toList) (⟨t,who,1,Sl.nil⟩:ae) S1=dW (fun x:ae=>Op.bytesLess t.toList x.name.toList) (⟨t,who,1,Sl.nil⟩:ae) S1:=rfl
  have gf:=zt Df
  have hm:bZ (S1.map ae.abs) t who wait=(dW (fun x:aY=>Op.bytesLess t.toList x.name.toList) ⟨t,who,1,[]⟩ (S1.map ae.abs),⟨0,1,emp⟩,0):=by
    grind[bZ,iA]
  refine⟨⟨A3,c3,dW (fun z:ae=>Op.bytesLess t.toList z.name.toList) (⟨t,who,1,Sl.nil⟩:ae) S1⟩,?_,?_,hS.aO (y:=(⟨A3,c3,dW (fun z:ae=>Op.bytesLess t.toList z.name.toList) (⟨t,who,1,Sl.nil⟩:ae) S1⟩:Sl ae)) (bT i0 hS.res (fun x hx=>?_))⟩
  ·rw[hm]<;>rfl
  ·exact Eq.trans gf (congrArg Prod.fst hm).symm
  ·rw[Df]at hx
   rcases ko hx with hx|hx
   ·subst hx;exact⟨ht,Sl.ao _ _⟩
   ·exact⟨bn x hx,cO i1 hS.res hx⟩
 have Au:0≤J:=by omega
 have nK:=mM kj (k:=J.toNat) (by omega)
 obtain⟨Gr,Gs,Aq,Ar,As,Gt⟩:=nK
 have Hd:(S1.getD J.toNat default).line.n=(S1.getD J.toNat default).line.xs.length:=rfl
 refine Mi ?_ (pc (fG 43 J J.toNat S1.length i1) (lg 45 J.toNat 1 1 i1))
 refine Md ((S1.getD J.toNat default).ar=0) (fun h4=>?_) fun h4=>?_
 ·refine Mi ?_ (pc (fG 49 J J.toNat S1.length i1) (lg 51 J.toNat 2 1 i1))
  refine Md ((1073741824:Int)≤(S1.getD J.toNat default).aA) (fun h5=>?_) fun h5=>?_
  ·refine Mt [.slice A1 S1.length c1,vz 8,vi 0] fun bs w hS=>?_
   have gR:dw (S1.map ae.abs) t who=0:=by rw[a5];assumption
   rw[←a5]
   have lQ:(S1.getD J.toNat default).abs.ar=(S1.getD J.toNat default).ar:=rfl
   have kN:(S1.getD J.toNat default).abs.aA=(S1.getD J.toNat default).aA:=rfl
   have nh:(S1.getD J.toNat default).abs.line=(S1.getD J.toNat default).line.xs:=rfl
   have pZ:(S1.getD J.toNat default).abs.name=(S1.getD J.toNat default).name:=rfl
   have dX:eU (S1.getD J.toNat default).abs who wait=((S1.getD J.toNat default).abs,⟨8,0,emp⟩):=by
     grind[eU]
   have hm:bZ (S1.map ae.abs) t who wait=(S1.map ae.abs,⟨8,0,emp⟩,0):=by
     unfold bZ iA
     simp only[hJ,fo,List.length_map]
     rw[dX]
     repeat (first|rw[if_pos (by first|assumption|omega)]|rw[if_neg (by first|assumption|omega|(intro h0;first|exact absurd h0 (by assumption)|(simp_all;done)))])
     all_goals (show ((S1.map ae.abs).set J.toNat (S1.getD J.toNat default).abs,_,_)=_;rw[←fo,fW (by rw[List.length_map];omega)])
   refine⟨⟨A1,c1,S1⟩,?_,?_,hS.aO (y:=(⟨A1,c1,S1⟩:Sl ae)) (bT i1 hS.res (fun x hx=>?_))⟩
   ·rw[hm]<;>rfl
   ·exact (congrArg Prod.fst hm).symm
   ·exact⟨bn x hx,cO i0 hS.res hx⟩
  refine Mi ?_ (fG 58 J J.toNat S1.length i1)
  refine cb ?_
  refine Ms J.toNat 1 (⟨(S1.getD J.toNat default).name,who,(S1.getD J.toNat default).aA,(S1.getD J.toNat default).line⟩:ae) ?_ (by omega)
  intro L5 IU MA
  have Gp:L5.getD J.toNat default=(⟨(S1.getD J.toNat default).name,who,(S1.getD J.toNat default).aA,(S1.getD J.toNat default).line⟩:ae):=by rw[IU];exact bQ (by omega)
  have BY:L5=List.set S1 J.toNat (⟨(S1.getD J.toNat default).name,who,(S1.getD J.toNat default).aA,(S1.getD J.toNat default).line⟩:ae):=by rw[IU]
  refine Mi ?_ (pc (fG 62 J J.toNat S1.length i0) (pc (l5 64 J.toNat 2 1 Gp i0) (pc (pR ((S1.getD J.toNat default).aA+1)) (fG 66 J J.toNat S1.length i0))))
  refine Ms J.toNat 2 (⟨(S1.getD J.toNat default).name,who,(S1.getD J.toNat default).aA+1,(S1.getD J.toNat default).line⟩:ae) ?_ (by omega) (hg:=Gp)
  intro L6 rB Am
  have ni:L6.getD J.toNat default=(⟨(S1.getD J.toNat default).name,who,(S1.getD J.toNat default).aA+1,(S1.getD J.toNat default).line⟩:ae):=by rw[rB];exact bQ (by omega)
  have fM:L6=List.set S1 J.toNat (⟨(S1.getD J.toNat default).name,who,(S1.getD J.toNat default).aA+1,(S1.getD J.toNat default).line⟩:ae):=by rw[rB,BY,List.set_set]
  refine Mi ?_ (pc (fG 70 J J.toNat S1.length i0) (l5 72 J.toNat 1 1 ni i0))
  refine Md (who=who) (fun h6=>?_) fun h6=>?_
  rotate_left
  ·exact absurd rfl h6
  refine cZ 10 [] [0] [ay 115 A1 c1 (L6:List ae),bI (bM 3) S1] ai ?_
  refine bY ?_ (pc (fG 78 J J.toNat S1.length i0) (l5 80 J.toNat 2 1 ni i0))
  refine Mz ?_
  refine Mt [.slice A1 S1.length c1,.agg #[vi 0,vi ((S1.getD J.toNat default).aA+1),ve],vi 0] fun bs w hS=>?_
  have gR:dw (S1.map ae.abs) t who=0:=by rw[a5];assumption
  rw[←a5]
  have lQ:(S1.getD J.toNat default).abs.ar=(S1.getD J.toNat default).ar:=rfl
  have kN:(S1.getD J.toNat default).abs.aA=(S1.getD J.toNat default).aA:=rfl
  have nh:(S1.getD J.toNat default).abs.line=(S1.getD J.toNat default).line.xs:=rfl
  have pZ:(S1.getD J.toNat default).abs.name=(S1.getD J.toNat default).name:=rfl
  have gf:=kF fM
  have dX:eU (S1.getD J.toNat default).abs who wait=(((⟨(S1.getD J.toNat default).name,who,(S1.getD J.toNat default).aA+1,(S1.getD J.toNat default).line⟩:ae)).abs,⟨0,(S1.getD J.toNat default).aA+1,emp⟩):=by
    unfold eU
    simp only[lQ,kN,nh,pZ]
    repeat (first|rw[if_pos (by first|assumption|omega|exact .inl (by assumption)|exact .inr (by assumption))]|rw[if_neg (by first|assumption|omega|(rintro (h8|h8)<;>simp_all;done))])
    all_goals rfl
  have hm:bZ (S1.map ae.abs) t who wait=((S1.map ae.abs).set J.toNat ((⟨(S1.getD J.toNat default).name,who,(S1.getD J.toNat default).aA+1,(S1.getD J.toNat default).line⟩:ae)).abs,⟨0,(S1.getD J.toNat default).aA+1,emp⟩,0):=by
    unfold bZ iA
    simp only[hJ,fo,List.length_map]
    rw[dX]
    repeat (first|rw[if_pos (by first|assumption|omega)]|rw[if_neg (by first|assumption|omega|(intro h0;first|exact absurd h0 (by assumption)|(simp_all;done)))])
    all_goals rfl
  refine⟨⟨A1,c1,L6⟩,?_,?_,hS.aO (y:=(⟨A1,c1,L6⟩:Sl ae)) (bT i0 hS.res (fun x hx=>?_))⟩
  ·have gB:S1.length=L6.length:=by rw[fM,List.length_set]
   rw[hm]
   exact congrArg (fun q=>Ending.returned (.tuple #[.slice A1 q c1,.agg #[vi 0,vi ((S1.getD J.toNat default).aA+1),ve],vi 0])) gB
  ·exact Eq.trans gf (congrArg Prod.fst hm).symm
  ·rw[fM]at hx
   rcases mem_set hx with hx|hx
   ·subst hx;exact⟨bn (S1.getD J.toNat default) (aB (L:=S1) (i:=J.toNat) (by omega)),cO (x:=(S1.getD J.toNat default)) i1 hS.res (aB (L:=S1) (i:=J.toNat) (by omega))⟩
   ·exact⟨bn x hx,cO i1 hS.res hx⟩
 refine Mi ?_ (pc (fG 70 J J.toNat S1.length i1) (lg 72 J.toNat 1 1 i1))
 refine Md ((S1.getD J.toNat default).ar=who) (fun h7=>?_) fun h7=>?_
 ·refine cZ 10 [] [0] [bI (bM 3) S1,ay 115 A1 c1 (S1:List ae)] ai ?_
  refine bY ?_ (pc (fG 78 J J.toNat S1.length i1) (lg 80 J.toNat 2 1 i1))
  refine Mz ?_
  refine Mt [.slice A1 S1.length c1,.agg #[vi 0,vi (S1.getD J.toNat default).aA,ve],vi 0] fun bs w hS=>?_
  have gR:dw (S1.map ae.abs) t who=0:=by rw[a5];assumption
  rw[←a5]
  have lQ:(S1.getD J.toNat default).abs.ar=(S1.getD J.toNat default).ar:=rfl
  have kN:(S1.getD J.toNat default).abs.aA=(S1.getD J.toNat default).aA:=rfl
  have nh:(S1.getD J.toNat default).abs.line=(S1.getD J.toNat default).line.xs:=rfl
  have pZ:(S1.getD J.toNat default).abs.name=(S1.getD J.toNat default).name:=rfl
  have dX:eU (S1.getD J.toNat default).abs who wait=((S1.getD J.toNat default).abs,⟨0,(S1.getD J.toNat default).aA,emp⟩):=by
    grind[eU]
  have hm:bZ (S1.map ae.abs) t who wait=(S1.map ae.abs,⟨0,(S1.getD J.toNat default).aA,emp⟩,0):=by
    unfold bZ iA
    simp only[hJ,fo,List.length_map]
    rw[dX]
    repeat (first|rw[if_pos (by first|assumption|omega)]|rw[if_neg (by first|assumption|omega|(intro h0;first|exact absurd h0 (by assumption)|(simp_all;done)))])
    all_goals (show ((S1.map ae.abs).set J.toNat (S1.getD J.toNat default).abs,_,_)=_;rw[←fo,fW (by rw[List.length_map];omega)])
  refine⟨⟨A1,c1,S1⟩,?_,?_,hS.aO (y:=(⟨A1,c1,S1⟩:Sl ae)) (bT i1 hS.res (fun x hx=>?_))⟩
  ·rw[hm]<;>rfl
  ·exact (congrArg Prod.fst hm).symm
  ·exact⟨bn x hx,cO i0 hS.res hx⟩
 refine Mi ?_ (pc (fG 84 J J.toNat S1.length i1) (lg 86 J.toNat 1 1 i1))
 refine Mb wait (fun h8=>?_) fun h8=>?_
 rotate_left
 ·refine cZ 5 [] [0] [bI (bM 3) S1,ay 115 A1 c1 (S1:List ae)] ai ?_
  refine Mz ?_
  refine Mt [.slice A1 S1.length c1,.agg #[vi 10,vi (S1.getD J.toNat default).ar,ve],vi 0] fun bs w hS=>?_
  have gR:dw (S1.map ae.abs) t who=0:=by rw[a5];assumption
  rw[←a5]
  have lQ:(S1.getD J.toNat default).abs.ar=(S1.getD J.toNat default).ar:=rfl
  have kN:(S1.getD J.toNat default).abs.aA=(S1.getD J.toNat default).aA:=rfl
  have nh:(S1.getD J.toNat default).abs.line=(S1.getD J.toNat default).line.xs:=rfl
  have pZ:(S1.getD J.toNat default).abs.name=(S1.getD J.toNat default).name:=rfl
  have dX:eU (S1.getD J.toNat default).abs who wait=((S1.getD J.toNat default).abs,⟨10,(S1.getD J.toNat default).ar,emp⟩):=by
    grind[eU]
  have hm:bZ (S1.map ae.abs) t who wait=(S1.map ae.abs,⟨10,(S1.getD J.toNat default).ar,emp⟩,0):=by
    unfold bZ iA
    simp only[hJ,fo,List.length_map]
    rw[dX]
    repeat (first|rw[if_pos (by first|assumption|omega)]|rw[if_neg (by first|assumption|omega|(intro h0;first|exact absurd h0 (by assumption)|(simp_all;done)))])
    all_goals (show ((S1.map ae.abs).set J.toNat (S1.getD J.toNat default).abs,_,_)=_;rw[←fo,fW (by rw[List.length_map];omega)])
  refine⟨⟨A1,c1,S1⟩,?_,?_,hS.aO (y:=(⟨A1,c1,S1⟩:Sl ae)) (bT i1 hS.res (fun x hx=>?_))⟩
  ·rw[hm]<;>rfl
  ·exact (congrArg Prod.fst hm).symm
  ·exact⟨bn x hx,cO i0 hS.res hx⟩
 refine Mi ?_ (pc (fG 92 J J.toNat S1.length i1) (lg 94 J.toNat 3 1 i1))
 refine Mp ?_ call103 (fun bs w hS=>tA (S1.getD J.toNat default).line (S1.getD J.toNat default).line.n who w (gx (hS.res _ i0) bn (aB (i:=J.toNat) (by omega))).2 (by omega))
 have Ii:(((S1.getD J.toNat default).line.xs.take (S1.getD J.toNat default).line.n).any fun z=>decide (z=who))=uo (S1.getD J.toNat default).abs who:=by rw[dE (Nat.le_refl _)];rfl
 rw[Ii]
 refine fL (uo (S1.getD J.toNat default).abs who) (fun h9=>?_) fun h9=>?_
 ·refine cZ 5 [] [0] [bI (bM 3) S1,ay 115 A1 c1 (S1:List ae)] ai ?_
  refine Mz ?_
  refine Mt [.slice A1 S1.length c1,.agg #[vi 10,vi (S1.getD J.toNat default).ar,ve],vi 0] fun bs w hS=>?_
  have gR:dw (S1.map ae.abs) t who=0:=by rw[a5];assumption
  rw[←a5]
  have lQ:(S1.getD J.toNat default).abs.ar=(S1.getD J.toNat default).ar:=rfl
  have kN:(S1.getD J.toNat default).abs.aA=(S1.getD J.toNat default).aA:=rfl
  have nh:(S1.getD J.toNat default).abs.line=(S1.getD J.toNat default).line.xs:=rfl
  have pZ:(S1.getD J.toNat default).abs.name=(S1.getD J.toNat default).name:=rfl
  have dX:eU (S1.getD J.toNat default).abs who wait=((S1.getD J.toNat default).abs,⟨10,(S1.getD J.toNat default).ar,emp⟩):=by
    grind[eU]
  have hm:bZ (S1.map ae.abs) t who wait=(S1.map ae.abs,⟨10,(S1.getD J.toNat default).ar,emp⟩,0):=by
    unfold bZ iA
    simp only[hJ,fo,List.length_map]
    rw[dX]
    repeat (first|rw[if_pos (by first|assumption|omega)]|rw[if_neg (by first|assumption|omega|(intro h0;first|exact absurd h0 (by assumption)|(simp_all;done)))])
    all_goals (show ((S1.map ae.abs).set J.toNat (S1.getD J.toNat default).abs,_,_)=_;rw[←fo,fW (by rw[List.length_map];omega)])
  refine⟨⟨A1,c1,S1⟩,?_,?_,hS.aO (y:=(⟨A1,c1,S1⟩:Sl ae)) (bT i1 hS.res (fun x hx=>?_))⟩
  ·rw[hm]<;>rfl
  ·exact (congrArg Prod.fst hm).symm
  ·exact⟨bn x hx,cO i0 hS.res hx⟩
 refine Mi ?_ (pc (fG 101 J J.toNat S1.length i1) (lg 103 J.toNat 3 1 i1))
 refine Md ((3:Int)≤(((S1.getD J.toNat default).line.n:Nat):Int)) (fun ir=>?_) fun ir=>?_
 ·refine Mt [.slice A1 S1.length c1,vz 8,vi 0] fun bs w hS=>?_
  have gR:dw (S1.map ae.abs) t who=0:=by rw[a5];assumption
  rw[←a5]
  have lQ:(S1.getD J.toNat default).abs.ar=(S1.getD J.toNat default).ar:=rfl
  have kN:(S1.getD J.toNat default).abs.aA=(S1.getD J.toNat default).aA:=rfl
  have nh:(S1.getD J.toNat default).abs.line=(S1.getD J.toNat default).line.xs:=rfl
  have pZ:(S1.getD J.toNat default).abs.name=(S1.getD J.toNat default).name:=rfl
  have dX:eU (S1.getD J.toNat default).abs who wait=((S1.getD J.toNat default).abs,⟨8,0,emp⟩):=by
    grind[eU]
  have hm:bZ (S1.map ae.abs) t who wait=(S1.map ae.abs,⟨8,0,emp⟩,0):=by
    unfold bZ iA
    simp only[hJ,fo,List.length_map]
    rw[dX]
    repeat (first|rw[if_pos (by first|assumption|omega)]|rw[if_neg (by first|assumption|omega|(intro h0;first|exact absurd h0 (by assumption)|(simp_all;done)))])
    all_goals (show ((S1.map ae.abs).set J.toNat (S1.getD J.toNat default).abs,_,_)=_;rw[←fo,fW (by rw[List.length_map];omega)])
  refine⟨⟨A1,c1,S1⟩,?_,?_,hS.aO (y:=(⟨A1,c1,S1⟩:Sl ae)) (bT i1 hS.res (fun x hx=>?_))⟩
  ·rw[hm]<;>rfl
  ·exact (congrArg Prod.fst hm).symm
  ·exact⟨bn x hx,cO i0 hS.res hx⟩
 refine m5 (ay 3 (S1.getD J.toNat default).line.A (S1.getD J.toNat default).line.c ((S1.getD J.toNat default).line.xs:List Int)) (bI (bM 3) (List.eraseIdx S1 J.toNat)) (ky (bM 3) (i:=J.toNat) (by omega)) (fun w h=>lG (bM 3) (i:=J.toNat) (by omega) w h) ?_
 refine Mi ?_ (pc (fG 112 J J.toNat S1.length i2) (lg 114 J.toNat 3 1 i2))
 refine M1 ?_
 refine gX (α:=Int) 8 ([who]) ?_
 intro A7 c7
 refine Mi ?_ (fG 118 J J.toNat S1.length i2)
 refine cL ?_
 refine Ms J.toNat 3 (⟨(S1.getD J.toNat default).name,(S1.getD J.toNat default).ar,(S1.getD J.toNat default).aA,⟨A7,c7,(S1.getD J.toNat default).line.xs++[who]⟩⟩:ae) ?_ (by omega)
 intro L8 He ME
 have Ie:L8.getD J.toNat default=(⟨(S1.getD J.toNat default).name,(S1.getD J.toNat default).ar,(S1.getD J.toNat default).aA,⟨A7,c7,(S1.getD J.toNat default).line.xs++[who]⟩⟩:ae):=by rw[He];exact bQ (by omega)
 have nj:L8=List.set S1 J.toNat (⟨(S1.getD J.toNat default).name,(S1.getD J.toNat default).ar,(S1.getD J.toNat default).aA,⟨A7,c7,(S1.getD J.toNat default).line.xs++[who]⟩⟩:ae):=by rw[He]
 refine cZ 5 [] [0] [ay 115 A1 c1 (L8:List ae),ay 3 A7 c7 ((S1.getD J.toNat default).line.xs++[who]:List Int),bI (bM 3) (List.eraseIdx S1 J.toNat)] ai ?_
 refine Mz ?_
 refine Mt [.slice A1 S1.length c1,.agg #[vi 10,vi (S1.getD J.toNat default).ar,ve],vi 0] fun bs w hS=>?_
 have gR:dw (S1.map ae.abs) t who=0:=by rw[a5];assumption
 rw[←a5]
 have lQ:(S1.getD J.toNat default).abs.ar=(S1.getD J.toNat default).ar:=rfl
 have kN:(S1.getD J.toNat default).abs.aA=(S1.getD J.toNat default).aA:=rfl
 have nh:(S1.getD J.toNat default).abs.line=(S1.getD J.toNat default).line.xs:=rfl
 have pZ:(S1.getD J.toNat default).abs.name=(S1.getD J.toNat default).name:=rfl
 have gf:=kF nj
 have dX:eU (S1.getD J.toNat default).abs who wait=(((⟨(S1.getD J.toNat default).name,(S1.getD J.toNat default).ar,(S1.getD J.toNat default).aA,⟨A7,c7,(S1.getD J.toNat default).line.xs++[who]⟩⟩:ae)).abs,⟨10,(S1.getD J.toNat default).ar,emp⟩):=by
   unfold eU
   simp only[lQ,kN,nh,pZ]
   repeat (first|rw[if_pos (by first|assumption|omega|exact .inl (by assumption)|exact .inr (by assumption))]|rw[if_neg (by first|assumption|omega|(rintro (h8|h8)<;>simp_all;done))])
   all_goals rfl
 have hm:bZ (S1.map ae.abs) t who wait=((S1.map ae.abs).set J.toNat ((⟨(S1.getD J.toNat default).name,(S1.getD J.toNat default).ar,(S1.getD J.toNat default).aA,⟨A7,c7,(S1.getD J.toNat default).line.xs++[who]⟩⟩:ae)).abs,⟨10,(S1.getD J.toNat default).ar,emp⟩,0):=by
   unfold bZ iA
   simp only[hJ,fo,List.length_map]
   rw[dX]
   repeat (first|rw[if_pos (by first|assumption|omega)]|rw[if_neg (by first|assumption|omega|(intro h0;first|exact absurd h0 (by assumption)|(simp_all;done)))])
   all_goals rfl
 refine⟨⟨A1,c1,L8⟩,?_,?_,hS.aO (y:=(⟨A1,c1,L8⟩:Sl ae)) (bT i0 hS.res (fun x hx=>?_))⟩
 ·have gB:S1.length=L8.length:=by rw[nj,List.length_set]
  rw[hm]
  exact congrArg (fun q=>Ending.returned (.tuple #[.slice A1 q c1,.agg #[vi 10,vi (S1.getD J.toNat default).ar,ve],vi 0])) gB
 ·exact Eq.trans gf (congrArg Prod.fst hm).symm
 ·rw[nj]at hx
  rcases ia hx with hx|hx
  ·subst hx;exact⟨bn (S1.getD J.toNat default) (aB (L:=S1) (i:=J.toNat) (by omega)),a4 i1 (hS.res _ i1) (fun _ _=>trivial)⟩
  ·exact⟨bn x (List.mem_of_mem_eraseIdx hx),cO i2 hS.res hx⟩
theorem Ex (s:Sl ae)(t:ByteArray)(who:Int)(w:World)(hs:s.rd B w)(ht:t.size≤9223372036854775807):Calls prog 85 #[.slice s.A s.n s.c,vs t,vi who] w fun e w'=> ∃y:Sl ae,e=.returned (.tuple #[.slice y.A y.n y.c,((dL (s.xs.map ae.abs) t who).2.1).val,vi (dL (s.xs.map ae.abs) t who).2.2])∧y.xs.map ae.abs=(dL (s.xs.map ae.abs) t who).1∧bJ w w' y:=by
 have cV:=Sl.rd.ok hs
 have iV:=Sl.ok.nc cV
 have iW:s.n=s.xs.length:=rfl
 refine M0 ?_ func85
 by_cases h1:dw (s.xs.map ae.abs) t who=0
 rotate_left
 ·refine Mp ?_ call148 (fun bs w hS=>(nk s t who w (Sl.rd.kp hs hS.kp) (by first|assumption|omega|(simp only[aL];omega))).mono (fun e w' h=>(h.resolve_right (fun h9=>h1 h9.1)).2))
  refine My false true ?_ (df h1)
  refine Mt [vn,vz 0,vi (dw (s.xs.map ae.abs) t who)] fun bs w hS=>?_
  have hm:dL (s.xs.map ae.abs) t who=([],gl,dw (s.xs.map ae.abs) t who):=by
    grind[dL]
  refine⟨Sl.nil,?_,?_,hS.aO (Sl.ao _ _)⟩
  ·rw[hm]<;>rfl
  ·rw[hm]<;>rfl
 refine Mf ?_ call148 (fun bs w hS=>(nk s t who w (Sl.rd.kp hs hS.kp) (by first|assumption|omega|(simp only[aL];omega))).mono (fun e w' h=>(h.resolve_left (fun h9=>h9.1 h1)).2))
 rintro y1 a5
 refine dH ?_
 obtain⟨A1,c1,S1⟩:=y1
 have a5:S1.map ae.abs=s.xs.map ae.abs:=a5
 refine fO (R':=[bI (bM 3) S1,ay 115 A1 c1 (S1:List ae)]) (List.Perm.refl _) ?_
 have bn:=gF (y:=(⟨A1,c1,S1⟩:Sl ae)) hs a5
 have oA:S1.length=s.xs.length:=by simpa using congrArg List.length a5
 refine bk (F:= ∀i,i<S1.length→aJ.ok (S1.getD i default)) (fun bs w hS i hi=>aJ.bL (B:=bH) (w:=w) (gx (hS.res _ i0) bn (aB hi))) fun gj=>?_
 refine bk (F:=dY A1 c1 (S1:List ae)) (fun bs w hS=>br (hS.res _ i1)) fun cI=>?_
 have cn:=cI.2
 have pY:=oP h1
 have kj:bB (S1.map ae.abs)=0:=by rw[a5];exact pY.1
 have NJ:=pY.2.2.1
 have NK:=pY.2.2.2
 have Gq:S1.length≤5:=by have h9:=(fS kj).1;simpa using h9
 have J8:eQ (fun x:ae=>bK x.name t) s.xs=eQ (fun x:ae=>bK x.name t) S1:=xY (L:=s.xs) (L2:=S1) (f:=ae.abs) (c:=fun x:aY=>bK x.name t) rfl a5.symm
 have J9:dk (fun x:ae=>bK x.name t) s.xs=dk (fun x:ae=>bK x.name t) S1:=zu (L:=s.xs) (L2:=S1) (f:=ae.abs) (c:=fun x:aY=>bK x.name t) rfl a5.symm
 rw[J8,J9]
 have oB:=n6 (L:=S1) kj t
 have qc:=du (fun x:aY=>decide (x.name=t)) (S1.map ae.abs)
 rw[List.length_map]at qc
 generalize hJ:aQ (fun x:aY=>decide (x.name=t)) (S1.map ae.abs)=J at oB qc
 have wZ:=n5 (fun x:ae=>bK x.name t) S1
 generalize hk:eQ (fun x:ae=>bK x.name t) S1=k at oB wZ⊢
 generalize hf:dk (fun x:ae=>bK x.name t) S1=fb at oB⊢
 refine Mq 24 false ?_ rfl
 refine fL fb (fun h2=>?_) fun h2=>?_
 rotate_left
 ·have Au:=of_decide_eq_false (oB.1.symm.trans h2)
  refine Mt [.slice A1 S1.length c1,vz 6,vi 0] fun bs w hS=>?_
  have gR:dw (S1.map ae.abs) t who=0:=by rw[a5];assumption
  rw[←a5]
  have lQ:(S1.getD k default).abs.ar=(S1.getD k default).ar:=rfl
  have kN:(S1.getD k default).abs.aA=(S1.getD k default).aA:=rfl
  have nh:(S1.getD k default).abs.line=(S1.getD k default).line.xs:=rfl
  have pZ:(S1.getD k default).abs.name=(S1.getD k default).name:=rfl
  have hm:dL (S1.map ae.abs) t who=(S1.map ae.abs,⟨6,0,emp⟩,0):=by
    grind[dL,iA]
  refine⟨⟨A1,c1,S1⟩,?_,?_,hS.aO (y:=(⟨A1,c1,S1⟩:Sl ae)) (bT i1 hS.res (fun x hx=>?_))⟩
  ·rw[hm]<;>rfl
  ·exact (congrArg Prod.fst hm).symm
  ·exact⟨bn x hx,cO i0 hS.res hx⟩
 have Gy:=oB.2 h2
 subst Gy
 have nK:=mM kj (k:=k) (by omega)
 obtain⟨Gr,Gs,Aq,Ar,As,Gt⟩:=nK
 have Hd:(S1.getD k default).line.n=(S1.getD k default).line.xs.length:=rfl
 refine Mi ?_ (pc (fG 33 (k:Int) k S1.length i1) (lg 37 k 3 1 i1))
 refine Mp ?_ call138 (fun bs w hS=>u6 (S1.getD k default).line (S1.getD k default).line.n who w (gx (hS.res _ i0) bn (aB (i:=k) (by omega))).2 (by omega))
 have nA:aQ (fun z=>decide (z=who)) ((S1.getD k default).line.xs.take (S1.getD k default).line.n)=aQ (fun z=>decide (z=who)) (S1.getD k default).line.xs:=by rw[dE (Nat.le_refl _)]
 rw[nA]
 have JT:=du (fun z=>decide (z=who)) (S1.getD k default).line.xs
 generalize hI:aQ (fun z=>decide (z=who)) (S1.getD k default).line.xs=I at JT⊢
 refine Mi ?_ (lg 50 k 1 1 i1)
 refine Md ((S1.getD k default).ar=who) (fun h3=>?_) fun h3=>?_
 ·refine cb ?_
  refine nF ?_ call140 (fun bs w hS=>sk (B:=(· ∈(bM 3 (S1.getD k default)).fp)) A1 c1 S1 k w (hS.res _ i0) hS.lH.2.2 (by omega) ⟨bn _ (aB (L:=S1) (by omega)),Rr (hS.res _ i1 (S1.getD k default) (aB (L:=S1) (by omega))) (fun b hb=>hb) (fun _ _=>trivial)⟩ (fun b hb=>hS.Jd (r2:=bI (bM 3) S1) i0 b (List.mem_flatMap.2 ⟨(S1.getD k default),aB (L:=S1) (by omega),hb⟩)) ⟨by omega,by omega⟩)
  rintro _ _
  obtain⟨L4,qb⟩: ∃M:List ae,M=S1.set k (eJ (S1.getD k default)):=⟨_,rfl⟩
  rw[←qb]
  have An:L4.length=S1.length:=by rw[qb,List.length_set]
  have j2:L4.getD k default=eJ (S1.getD k default):=by rw[qb];exact bQ (by omega)
  refine cZ 9 [] [0] [ay 115 A1 c1 (L4:List ae),bI (bM 3) S1] ai ?_
  refine bY ?_ (l5 73 k 1 1 j2 i0)
  refine Mz ?_
  refine Mt [.slice A1 S1.length c1,.agg #[vi 0,vi (eJ (S1.getD k default)).ar,ve],vi 0] fun bs w hS=>?_
  have gR:dw (S1.map ae.abs) t who=0:=by rw[a5];assumption
  rw[←a5]
  have lQ:(S1.getD k default).abs.ar=(S1.getD k default).ar:=rfl
  have kN:(S1.getD k default).abs.aA=(S1.getD k default).aA:=rfl
  have nh:(S1.getD k default).abs.line=(S1.getD k default).line.xs:=rfl
  have pZ:(S1.getD k default).abs.name=(S1.getD k default).name:=rfl
  have gf:=kF qb
  have NV:=rN (S1.getD k default)
  rw[NV]at gf
  have dX:j4 (S1.getD k default).abs who=((gN (S1.getD k default).abs),⟨0,(eJ (S1.getD k default)).ar,emp⟩):=by
    unfold j4
    simp only[lQ,kN,nh,pZ]
    repeat (first|rw[if_pos (by first|assumption|omega)]|rw[if_neg (by first|assumption|omega|(rw[Ii];simp;done)|(intro h0;simp_all;done))])
    all_goals first|rfl|exact congrArg (fun h:Int=>(gN (S1.getD k default).abs,(⟨0,h,emp⟩:cQ))) (congrArg aY.ar NV).symm
  have hm:dL (S1.map ae.abs) t who=((S1.map ae.abs).set k (gN (S1.getD k default).abs),⟨0,(eJ (S1.getD k default)).ar,emp⟩,0):=by
    unfold dL iA
    simp only[hJ,Int.toNat_natCast,fo,List.length_map]
    rw[dX]
    repeat (first|rw[if_pos (by first|assumption|omega)]|rw[if_neg (by first|assumption|omega|(intro h0;first|exact absurd h0 (by assumption)|(simp_all;done)))])
    all_goals rfl
  refine⟨⟨A1,c1,L4⟩,?_,?_,hS.aO (y:=(⟨A1,c1,L4⟩:Sl ae)) (bT i0 hS.res (fun x hx=>?_))⟩
  ·have gB:S1.length=L4.length:=by rw[qb,List.length_set]
   rw[hm]
   exact congrArg (fun q=>Ending.returned (.tuple #[.slice A1 q c1,.agg #[vi 0,vi (eJ (S1.getD k default)).ar,ve],vi 0])) gB
  ·exact Eq.trans gf (congrArg Prod.fst hm).symm
  ·rw[qb]at hx
   rcases mem_set hx with hx|hx
   ·subst hx;have hP:=FE i1 hS.res (x:=(S1.getD k default)) (aB (L:=S1) (i:=k) (by omega));exact⟨by rw[hP.1];exact bn (S1.getD k default) (aB (L:=S1) (i:=k) (by omega)),hP.2⟩
   ·exact⟨bn x hx,cO i1 hS.res hx⟩
 refine Md ((0:Int)≤I) (fun h4=>?_) fun h4=>?_
 rotate_left
 ·refine cZ 9 [] [0] [bI (bM 3) S1,ay 115 A1 c1 (S1:List ae)] ai ?_
  refine bY ?_ (lg 44 k 1 1 i1)
  refine Mz ?_
  refine Mt [.slice A1 S1.length c1,.agg #[vi 10,vi (S1.getD k default).ar,ve],vi 0] fun bs w hS=>?_
  have gR:dw (S1.map ae.abs) t who=0:=by rw[a5];assumption
  rw[←a5]
  have lQ:(S1.getD k default).abs.ar=(S1.getD k default).ar:=rfl
  have kN:(S1.getD k default).abs.aA=(S1.getD k default).aA:=rfl
  have nh:(S1.getD k default).abs.line=(S1.getD k default).line.xs:=rfl
  have pZ:(S1.getD k default).abs.name=(S1.getD k default).name:=rfl
  have Ii:uo (S1.getD k default).abs who=false:=by rw[CR];show decide (0≤aQ _ (S1.getD k default).line.xs)=_;rw[hI];exact decide_eq_false h4
  have dX:j4 (S1.getD k default).abs who=((S1.getD k default).abs,⟨10,(S1.getD k default).ar,emp⟩):=by
    grind[j4]
  have hm:dL (S1.map ae.abs) t who=(S1.map ae.abs,⟨10,(S1.getD k default).ar,emp⟩,0):=by
    unfold dL iA
    simp only[hJ,Int.toNat_natCast,fo,List.length_map]
    rw[dX]
    repeat (first|rw[if_pos (by first|assumption|omega)]|rw[if_neg (by first|assumption|omega|(intro h0;first|exact absurd h0 (by assumption)|(simp_all;done)))])
    all_goals (show ((S1.map ae.abs).set k (S1.getD k default).abs,_,_)=_;rw[←fo,fW (by rw[List.length_map];omega)])
  refine⟨⟨A1,c1,S1⟩,?_,?_,hS.aO (y:=(⟨A1,c1,S1⟩:Sl ae)) (bT i1 hS.res (fun x hx=>?_))⟩
  ·rw[hm]<;>rfl
  ·exact (congrArg Prod.fst hm).symm
  ·exact⟨bn x hx,cO i0 hS.res hx⟩
 refine m5 (ay 3 (S1.getD k default).line.A (S1.getD k default).line.c ((S1.getD k default).line.xs:List Int)) (bI (bM 3) (List.eraseIdx S1 k)) (ky (bM 3) (i:=k) (by omega)) (fun w h=>lG (bM 3) (i:=k) (by omega) w h) ?_
 refine Mi ?_ (pc (lg 62 k 3 1 i2) (pR (I+1)))
 refine nF ?_ (σ:=Unit) (v:=fun _=>.slice (S1.getD k default).line.A ((S1.getD k default).line.xs.take I.toNat++(S1.getD k default).line.xs.drop (I.toNat+1)).length (S1.getD k default).line.c) (F:=fun _=>True) (r:=fun _=>ay 3 (S1.getD k default).line.A (S1.getD k default).line.c ((S1.getD k default).line.xs.take I.toNat++(S1.getD k default).line.xs.drop (I.toNat+1):List Int)) (vs:=fun bs=>[.slice (S1.getD k default).line.A (S1.getD k default).line.n (S1.getD k default).line.c,vi I,vi (I+1)]) call139 (fun bs w hS=>(Ap (S1.getD k default).line.A (S1.getD k default).line.c (S1.getD k default).line.xs I.toNat (I.toNat+1) _ _ w (hS.res _ i0) hS.lH.2.2 (by omega) (by omega) (by first|omega|(simp only[Sl.n] at*;omega)) (by first|omega|(simp only[Sl.n] at*;omega))).mono (fun e w' ⟨h1,h2⟩=>⟨(),h1,trivial,h2⟩))
 rintro _ _
 refine cL ?_
 refine Ms k 3 (⟨(S1.getD k default).name,(S1.getD k default).ar,(S1.getD k default).aA,⟨(S1.getD k default).line.A,(S1.getD k default).line.c,(S1.getD k default).line.xs.take I.toNat++(S1.getD k default).line.xs.drop (I.toNat+1)⟩⟩:ae) ?_ (by omega)
 intro L6 rB Am
 have ni:L6.getD k default=(⟨(S1.getD k default).name,(S1.getD k default).ar,(S1.getD k default).aA,⟨(S1.getD k default).line.A,(S1.getD k default).line.c,(S1.getD k default).line.xs.take I.toNat++(S1.getD k default).line.xs.drop (I.toNat+1)⟩⟩:ae):=by rw[rB];exact bQ (by omega)
 have fM:L6=List.set S1 k (⟨(S1.getD k default).name,(S1.getD k default).ar,(S1.getD k default).aA,⟨(S1.getD k default).line.A,(S1.getD k default).line.c,(S1.getD k default).line.xs.take I.toNat++(S1.getD k default).line.xs.drop (I.toNat+1)⟩⟩:ae):=by rw[rB]
 refine cZ 9 [] [0] [ay 115 A1 c1 (L6:List ae),ay 3 (S1.getD k default).line.A (S1.getD k default).line.c ((S1.getD k default).line.xs.take I.toNat++(S1.getD k default).line.xs.drop (I.toNat+1):List Int),bI (bM 3) (List.eraseIdx S1 k)] ai ?_
 refine bY ?_ (l5 73 k 1 1 ni i0)
 refine Mz ?_
 refine Mt [.slice A1 S1.length c1,.agg #[vi 0,vi (S1.getD k default).ar,ve],vi 0] fun bs w hS=>?_
 have gR:dw (S1.map ae.abs) t who=0:=by rw[a5];assumption
 rw[←a5]
 have lQ:(S1.getD k default).abs.ar=(S1.getD k default).ar:=rfl
 have kN:(S1.getD k default).abs.aA=(S1.getD k default).aA:=rfl
 have nh:(S1.getD k default).abs.line=(S1.getD k default).line.xs:=rfl
 have pZ:(S1.getD k default).abs.name=(S1.getD k default).name:=rfl
 have gf:=kF fM
 have Ii:uo (S1.getD k default).abs who=true:=by rw[CR];show decide (0≤aQ _ (S1.getD k default).line.xs)=_;rw[hI];exact decide_eq_true h4
 have Ic:(S1.getD k default).line.xs.take I.toNat++(S1.getD k default).line.xs.drop (I.toNat+1)=gi (S1.getD k default).line.xs who:=rU (d:=(S1.getD k default).abs) Aq (i:=I.toNat) (by show aQ _ (S1.getD k default).line.xs=_;rw[hI];omega) rfl
 rw[show ((⟨(S1.getD k default).name,(S1.getD k default).ar,(S1.getD k default).aA,⟨(S1.getD k default).line.A,(S1.getD k default).line.c,(S1.getD k default).line.xs.take I.toNat++(S1.getD k default).line.xs.drop (I.toNat+1)⟩⟩:ae)).abs=(⟨(S1.getD k default).name,(S1.getD k default).ar,(S1.getD k default).aA,gi (S1.getD k default).line.xs who⟩:aY) from congrArg (fun l=>(⟨(S1.getD k default).name,(S1.getD k default).ar,(S1.getD k default).aA,l⟩:aY)) Ic]at gf
 have dX:j4 (S1.getD k default).abs who=(⟨(S1.getD k default).name,(S1.getD k default).ar,(S1.getD k default).aA,gi (S1.getD k default).line.xs who⟩,⟨0,(S1.getD k default).ar,emp⟩):=by
   grind[j4]
 have hm:dL (S1.map ae.abs) t who=((S1.map ae.abs).set k ⟨(S1.getD k default).name,(S1.getD k default).ar,(S1.getD k default).aA,gi (S1.getD k default).line.xs who⟩,⟨0,(S1.getD k default).ar,emp⟩,0):=by
   unfold dL iA
   simp only[hJ,Int.toNat_natCast,fo,List.length_map]
   rw[dX]
   repeat (first|rw[if_pos (by first|assumption|omega)]|rw[if_neg (by first|assumption|omega|(intro h0;first|exact absurd h0 (by assumption)|(simp_all;done)))])
   all_goals rfl
 refine⟨⟨A1,c1,L6⟩,?_,?_,hS.aO (y:=(⟨A1,c1,L6⟩:Sl ae)) (bT i0 hS.res (fun x hx=>?_))⟩
 ·have gB:S1.length=L6.length:=by rw[fM,List.length_set]
  rw[hm]
  exact congrArg (fun q=>Ending.returned (.tuple #[.slice A1 q c1,.agg #[vi 0,vi (S1.getD k default).ar,ve],vi 0])) gB
 ·exact Eq.trans gf (congrArg Prod.fst hm).symm
 ·rw[fM]at hx
  rcases ia hx with hx|hx
  ·subst hx;exact⟨bn (S1.getD k default) (aB (L:=S1) (i:=k) (by omega)),a4 i1 (hS.res _ i1) (fun _ _=>trivial)⟩
  ·exact⟨bn x (List.mem_of_mem_eraseIdx hx),cO i2 hS.res hx⟩
theorem Az (s:Sl ae)(t:ByteArray)(who:Int)(w:World)(hs:s.rd B w)(ht:t.size≤9223372036854775807):Calls prog 39 #[s.val,vs t,vi who] w fun e w'=> ∃y:Sl ae,e=.returned (.tuple #[y.val,((dL (s.xs.map ae.abs) t who).2.1).val,vi (dL (s.xs.map ae.abs) t who).2.2])∧y.xs.map ae.abs=(dL (s.xs.map ae.abs) t who).1∧bJ w w' y:=by
 have cV:=Sl.rd.ok hs
 have iV:=Sl.ok.nc cV
 have iW:s.n=s.xs.length:=rfl
 refine M0 ?_ func39
 refine Mp ?_ call101 (fun bs w hS=>xC s t who w (Sl.rd.kp hs hS.kp) (by first|assumption|omega|(simp only[aL];omega)))
 refine cr (dw (s.xs.map ae.abs) t who=0) (fun h1=>?_) fun h1=>?_
 rotate_left
 ·refine Mt [vn,vz 0,vi (dw (s.xs.map ae.abs) t who)] fun bs w hS=>?_
  have hm:dL (s.xs.map ae.abs) t who=([],gl,dw (s.xs.map ae.abs) t who):=by
    grind[dL]
  refine⟨Sl.nil,?_,?_,hS.aO (Sl.ao _ _)⟩
  ·rw[hm]<;>rfl
  ·rw[hm]<;>rfl
 refine Mf ?_ call18 (fun bs w hS=>ku s w (Sl.rd.kp hs hS.kp) (js (oP (by assumption)).1))
 rintro y1 a5
 refine dH ?_
 obtain⟨A1,c1,S1⟩:=y1
 have a5:S1.map ae.abs=s.xs.map ae.abs:=a5
 refine fO (R':=[bI (bM 3) S1,ay 115 A1 c1 (S1:List ae)]) (List.Perm.refl _) ?_
 have bn:=gF (y:=(⟨A1,c1,S1⟩:Sl ae)) (hs) a5
 have oA:S1.length=s.xs.length:=by simpa using congrArg List.length a5
 refine bk (F:= ∀i,i<S1.length→aJ.ok (S1.getD i default)) (fun bs w hS i hi=>aJ.bL (B:=bH) (w:=w) (gx (hS.res _ i0) bn (aB hi))) fun gj=>?_
 refine bk (F:=dY A1 c1 (S1:List ae)) (fun bs w hS=>br (hS.res _ i1)) fun cI=>?_
 have cn:=cI.2
 have pY:=oP h1
 have kj:bB (S1.map ae.abs)=0:=by rw[a5];exact pY.1
 have NJ:=pY.2.2.1
 have NK:=pY.2.2.2
 have Gq:S1.length≤5:=by have h9:=(fS kj).1;simpa using h9
 refine Mp ?_ call100 (fun bs w hS=>jk (⟨A1,c1,S1⟩:Sl ae) t w (rL (hS.res _ i0) (hS.res _ i1) bn))
 have Ig:aQ (fun x:ae=>decide (x.name=t)) S1=aQ (fun x:aY=>decide (x.name=t)) (S1.map ae.abs):=fm ae.abs (fun x:aY=>decide (x.name=t)) S1
 rw[Ig]
 have qc:=du (fun x:aY=>decide (x.name=t)) (S1.map ae.abs)
 generalize hJ:aQ (fun x:aY=>decide (x.name=t)) (S1.map ae.abs)=J at qc⊢
 rw[List.length_map]at qc
 refine Md (J<0) (fun h2=>?_) fun h2=>?_
 ·have Au: ¬0≤J:=by omega
  refine Mt [.slice A1 S1.length c1,vz 6,vi 0] fun bs w hS=>?_
  have gR:dw (S1.map ae.abs) t who=0:=by rw[a5];assumption
  rw[←a5]
  have lQ:(S1.getD J.toNat default).abs.ar=(S1.getD J.toNat default).ar:=rfl
  have kN:(S1.getD J.toNat default).abs.aA=(S1.getD J.toNat default).aA:=rfl
  have nh:(S1.getD J.toNat default).abs.line=(S1.getD J.toNat default).line.xs:=rfl
  have pZ:(S1.getD J.toNat default).abs.name=(S1.getD J.toNat default).name:=rfl
  have hm:dL (S1.map ae.abs) t who=(S1.map ae.abs,⟨6,0,emp⟩,0):=by
    grind[dL,iA]
  refine⟨⟨A1,c1,S1⟩,?_,?_,hS.aO (y:=(⟨A1,c1,S1⟩:Sl ae)) (bT i1 hS.res (fun x hx=>?_))⟩
  ·rw[hm]<;>rfl
  ·exact (congrArg Prod.fst hm).symm
  ·exact⟨bn x hx,cO i0 hS.res hx⟩
 have Au:0≤J:=by omega
 have nK:=mM kj (k:=J.toNat) (by omega)
 obtain⟨Gr,Gs,Aq,Ar,As,Gt⟩:=nK
 have Hd:(S1.getD J.toNat default).line.n=(S1.getD J.toNat default).line.xs.length:=rfl
 refine Mi ?_ (pc (fG 31 J J.toNat S1.length i1) (lg 33 J.toNat 1 1 i1))
 refine Md ((S1.getD J.toNat default).ar=who) (fun h3=>?_) fun h3=>?_
 ·refine Mi ?_ (pc (fG 40 J J.toNat S1.length i1) (C1 41 J.toNat i1))
  refine Mu ?_ call104 (fun bs w hS=>vk (S1.getD J.toNat default) w (gx (hS.res _ i0) bn (aB (i:=J.toNat) (by omega))) ⟨by omega,by omega⟩ (by omega))
  rintro sN y3 my sm
  refine Mi ?_ (fG 43 J J.toNat S1.length i2)
  refine cL ?_
  refine Ms J.toNat 0 (⟨y3.name,y3.ar,y3.aA,y3.line⟩:ae) ?_ (by omega)
  intro L4 qb An
  have j2:L4.getD J.toNat default=(⟨y3.name,y3.ar,y3.aA,y3.line⟩:ae):=by rw[qb];exact bQ (by omega)
  have lV:L4=List.set S1 J.toNat (⟨y3.name,y3.ar,y3.aA,y3.line⟩:ae):=by rw[qb]
  refine cZ 10 [] [0] [ay 115 A1 c1 (L4:List ae),bF sN y3,bI (bM 3) S1] ai ?_
  refine bY ?_ (pc (fG 72 J J.toNat S1.length i0) (l5 74 J.toNat 1 1 j2 i0))
  refine Mz ?_
  refine Mt [.slice A1 S1.length c1,.agg #[vi 0,vi y3.ar,ve],vi 0] fun bs w hS=>?_
  have gR:dw (S1.map ae.abs) t who=0:=by rw[a5];assumption
  rw[←a5]
  have lQ:(S1.getD J.toNat default).abs.ar=(S1.getD J.toNat default).ar:=rfl
  have kN:(S1.getD J.toNat default).abs.aA=(S1.getD J.toNat default).aA:=rfl
  have nh:(S1.getD J.toNat default).abs.line=(S1.getD J.toNat default).line.xs:=rfl
  have pZ:(S1.getD J.toNat default).abs.name=(S1.getD J.toNat default).name:=rfl
  have gf:=kF lV
  rw[show ((⟨y3.name,y3.ar,y3.aA,y3.line⟩:ae)).abs=gN (S1.getD J.toNat default).abs from my]at gf
  have NV:=my
  have dX:j4 (S1.getD J.toNat default).abs who=((gN (S1.getD J.toNat default).abs),⟨0,y3.ar,emp⟩):=by
    unfold j4
    simp only[lQ,kN,nh,pZ]
    repeat (first|rw[if_pos (by first|assumption|omega)]|rw[if_neg (by first|assumption|omega|(rw[Ii];simp;done)|(intro h0;simp_all;done))])
    all_goals first|rfl|exact congrArg (fun h:Int=>(gN (S1.getD J.toNat default).abs,(⟨0,h,emp⟩:cQ))) (congrArg aY.ar NV).symm
  have hm:dL (S1.map ae.abs) t who=((S1.map ae.abs).set J.toNat (gN (S1.getD J.toNat default).abs),⟨0,y3.ar,emp⟩,0):=by
    unfold dL iA
    simp only[hJ,fo,List.length_map]
    rw[dX]
    repeat (first|rw[if_pos (by first|assumption|omega)]|rw[if_neg (by first|assumption|omega|(intro h0;first|exact absurd h0 (by assumption)|(simp_all;done)))])
    all_goals rfl
  refine⟨⟨A1,c1,L4⟩,?_,?_,hS.aO (y:=(⟨A1,c1,L4⟩:Sl ae)) (bT i0 hS.res (fun x hx=>?_))⟩
  ·have gB:S1.length=L4.length:=by rw[lV,List.length_set]
   rw[hm]
   exact congrArg (fun q=>Ending.returned (.tuple #[.slice A1 q c1,.agg #[vi 0,vi y3.ar,ve],vi 0])) gB
  ·exact Eq.trans gf (congrArg Prod.fst hm).symm
  ·rw[lV]at hx
   rcases mem_set hx with hx|hx
   ·subst hx;exact aU (y:=y3) i1 (hS.res _ i1)
   ·exact⟨bn x hx,cO i2 hS.res hx⟩
 refine Mi ?_ (pc (fG 46 J J.toNat S1.length i1) (lg 48 J.toNat 3 1 i1))
 refine Mp ?_ call103 (fun bs w hS=>tA (S1.getD J.toNat default).line (S1.getD J.toNat default).line.n who w (gx (hS.res _ i0) bn (aB (i:=J.toNat) (by omega))).2 (by omega))
 have Ii:(((S1.getD J.toNat default).line.xs.take (S1.getD J.toNat default).line.n).any fun z=>decide (z=who))=uo (S1.getD J.toNat default).abs who:=by rw[dE (Nat.le_refl _)];rfl
 rw[Ii]
 refine Mb (uo (S1.getD J.toNat default).abs who) (fun h4=>?_) fun h4=>?_
 rotate_left
 ·refine cZ 10 [] [0] [bI (bM 3) S1,ay 115 A1 c1 (S1:List ae)] ai ?_
  refine bY ?_ (pc (fG 65 J J.toNat S1.length i1) (lg 67 J.toNat 1 1 i1))
  refine Mz ?_
  refine Mt [.slice A1 S1.length c1,.agg #[vi 10,vi (S1.getD J.toNat default).ar,ve],vi 0] fun bs w hS=>?_
  have gR:dw (S1.map ae.abs) t who=0:=by rw[a5];assumption
  rw[←a5]
  have lQ:(S1.getD J.toNat default).abs.ar=(S1.getD J.toNat default).ar:=rfl
  have kN:(S1.getD J.toNat default).abs.aA=(S1.getD J.toNat default).aA:=rfl
  have nh:(S1.getD J.toNat default).abs.line=(S1.getD J.toNat default).line.xs:=rfl
  have pZ:(S1.getD J.toNat default).abs.name=(S1.getD J.toNat default).name:=rfl
  have dX:j4 (S1.getD J.toNat default).abs who=((S1.getD J.toNat default).abs,⟨10,(S1.getD J.toNat default).ar,emp⟩):=by
    grind[j4]
  have hm:dL (S1.map ae.abs) t who=(S1.map ae.abs,⟨10,(S1.getD J.toNat default).ar,emp⟩,0):=by
    unfold dL iA
    simp only[hJ,fo,List.length_map]
    rw[dX]
    repeat (first|rw[if_pos (by first|assumption|omega)]|rw[if_neg (by first|assumption|omega|(intro h0;first|exact absurd h0 (by assumption)|(simp_all;done)))])
    all_goals (show ((S1.map ae.abs).set J.toNat (S1.getD J.toNat default).abs,_,_)=_;rw[←fo,fW (by rw[List.length_map];omega)])
  refine⟨⟨A1,c1,S1⟩,?_,?_,hS.aO (y:=(⟨A1,c1,S1⟩:Sl ae)) (bT i1 hS.res (fun x hx=>?_))⟩
  ·rw[hm]<;>rfl
  ·exact (congrArg Prod.fst hm).symm
  ·exact⟨bn x hx,cO i0 hS.res hx⟩
 refine Mi ?_ (pc (fG 55 J J.toNat S1.length i1) (lg 57 J.toNat 3 1 i1))
 refine Mu ?_ call105 (fun bs w hS=>sM (S1.getD J.toNat default).line who w (gx (hS.res _ i0) bn (aB (i:=J.toNat) (by omega))).2 (by omega))
 rintro rh y5 tC pf
 refine Mi ?_ (fG 60 J J.toNat S1.length i2)
 refine cL ?_
 refine Ms J.toNat 3 (⟨(S1.getD J.toNat default).name,(S1.getD J.toNat default).ar,(S1.getD J.toNat default).aA,y5⟩:ae) ?_ (by omega)
 intro L6 rB Am
 have ni:L6.getD J.toNat default=(⟨(S1.getD J.toNat default).name,(S1.getD J.toNat default).ar,(S1.getD J.toNat default).aA,y5⟩:ae):=by rw[rB];exact bQ (by omega)
 have fM:L6=List.set S1 J.toNat (⟨(S1.getD J.toNat default).name,(S1.getD J.toNat default).ar,(S1.getD J.toNat default).aA,y5⟩:ae):=by rw[rB]
 refine cZ 10 [] [0] [ay 115 A1 c1 (L6:List ae),bF rh y5,bI (bM 3) S1] ai ?_
 refine bY ?_ (pc (fG 72 J J.toNat S1.length i0) (l5 74 J.toNat 1 1 ni i0))
 refine Mz ?_
 refine Mt [.slice A1 S1.length c1,.agg #[vi 0,vi (S1.getD J.toNat default).ar,ve],vi 0] fun bs w hS=>?_
 have gR:dw (S1.map ae.abs) t who=0:=by rw[a5];assumption
 rw[←a5]
 have lQ:(S1.getD J.toNat default).abs.ar=(S1.getD J.toNat default).ar:=rfl
 have kN:(S1.getD J.toNat default).abs.aA=(S1.getD J.toNat default).aA:=rfl
 have nh:(S1.getD J.toNat default).abs.line=(S1.getD J.toNat default).line.xs:=rfl
 have pZ:(S1.getD J.toNat default).abs.name=(S1.getD J.toNat default).name:=rfl
 have gf:=kF fM
 rw[show ((⟨(S1.getD J.toNat default).name,(S1.getD J.toNat default).ar,(S1.getD J.toNat default).aA,y5⟩:ae)).abs=⟨(S1.getD J.toNat default).name,(S1.getD J.toNat default).ar,(S1.getD J.toNat default).aA,gi (S1.getD J.toNat default).line.xs who⟩ from congrArg (fun l=>(⟨(S1.getD J.toNat default).name,(S1.getD J.toNat default).ar,(S1.getD J.toNat default).aA,l⟩:aY)) tC]at gf
 have dX:j4 (S1.getD J.toNat default).abs who=(⟨(S1.getD J.toNat default).name,(S1.getD J.toNat default).ar,(S1.getD J.toNat default).aA,gi (S1.getD J.toNat default).line.xs who⟩,⟨0,(S1.getD J.toNat default).ar,emp⟩):=by
   grind[j4]
 have hm:dL (S1.map ae.abs) t who=((S1.map ae.abs).set J.toNat ⟨(S1.getD J.toNat default).name,(S1.getD J.toNat default).ar,(S1.getD J.toNat default).aA,gi (S1.getD J.toNat default).line.xs who⟩,⟨0,(S1.getD J.toNat default).ar,emp⟩,0):=by
   unfold dL iA
   simp only[hJ,fo,List.length_map]
   rw[dX]
   repeat (first|rw[if_pos (by first|assumption|omega)]|rw[if_neg (by first|assumption|omega|(intro h0;first|exact absurd h0 (by assumption)|(simp_all;done)))])
   all_goals rfl
 refine⟨⟨A1,c1,L6⟩,?_,?_,hS.aO (y:=(⟨A1,c1,L6⟩:Sl ae)) (bT i0 hS.res (fun x hx=>?_))⟩
 ·have gB:S1.length=L6.length:=by rw[fM,List.length_set]
  rw[hm]
  exact congrArg (fun q=>Ending.returned (.tuple #[.slice A1 q c1,.agg #[vi 0,vi (S1.getD J.toNat default).ar,ve],vi 0])) gB
 ·exact Eq.trans gf (congrArg Prod.fst hm).symm
 ·rw[fM]at hx
  rcases mem_set hx with hx|hx
  ·subst hx;exact⟨bn (S1.getD J.toNat default) (aB (L:=S1) (i:=J.toNat) (by omega)),aU (y:=y5) i1 (hS.res _ i1)⟩
  ·exact⟨bn x hx,cO i2 hS.res hx⟩
theorem o9 (x:dr)(w:World)(hx:aJ.sub B w x)(hb:x.entries.n*16≤140737488355328):Calls prog 112 #[x.val] w fun e w'=> ∃y:Sl ByteArray,e=.returned (.agg #[vi x.base,y.val])∧y.xs=x.entries.xs∧Kp [] w w'∧gC w w' (ay 9 y.A y.c y.xs):=by
 have cC:=aJ.bL hx
 have mr:=Sl.ok.nc cC
 have mu:x.entries.n=x.entries.xs.length:=rfl
 have yu:cD x.abs=x.base+(x.entries.n:Int):=rfl
 have q1:x.abs.base=x.base:=rfl
 have q2:x.abs.entries=x.entries.xs:=rfl
 have fg: ∀q,x.entries.xs.getD q default=x.entries.at q:=fun _=>rfl
 refine M0 ?_ func112
 refine cZ 6 [] [] [] ai ?_
 refine Mf ?_ call157 (fun bs w hS=>sZ x.entries w (aJ.kp hx hS.kp) hb)
 rintro y1 a5
 exact Mt [.agg #[vi x.base,y1.val]] fun bs w hS=>⟨y1,rfl,a5,hS.kp,hS.rG⟩
theorem GG (x:dr)(w:World)(hx:aJ.sub B w x)(lj:aJ.small x):Calls prog 112 #[x.val] w fun e w'=> ∃y:dr,e=.returned (y.val)∧y.abs=x.abs∧bJ w w' y:=
  (o9 x w hx lj.1).mono fun e w' ⟨y,h1,h2,h3,h4⟩=>⟨⟨x.base,y⟩,h1,by simp[dr.abs,h2],h3,h4.sub fun hp=>Rr hp (fun b hb=>hb) fun z hz=>Sl.rd.mem (s:=x.entries) hx z (h2▸hz)⟩
theorem rk (x:dr)(w:World)(hx:aJ.sub B w x)(hb:x.entries.n*16≤140737488355328):Calls prog 46 #[x.val] w fun e w'=> ∃y:Sl ByteArray,e=.returned (.agg #[vi x.base,y.val])∧y.xs=x.entries.xs∧Kp [] w w'∧gC w w' (ay 9 y.A y.c y.xs):=by
 have cC:=aJ.bL hx
 have mr:=Sl.ok.nc cC
 have mu:x.entries.n=x.entries.xs.length:=rfl
 have yu:cD x.abs=x.base+(x.entries.n:Int):=rfl
 have q1:x.abs.base=x.base:=rfl
 have q2:x.abs.entries=x.entries.xs:=rfl
 have fg: ∀q,x.entries.xs.getD q default=x.entries.at q:=fun _=>rfl
 refine M0 ?_ func46
 refine cZ 6 [] [] [] ai ?_
 refine bU (α:=ByteArray) 9 ?_
 refine Ma ?_ (α:=ByteArray) (L2:=x.entries.xs) 16 (fun bs w hS=>Sl.rd.src (s:=x.entries) (aJ.kp hx hS.kp))
 intro A1 c1
 exact Mt [.agg #[vi x.base,.slice A1 ([]++x.entries.xs).length c1]] fun bs w hS=>⟨⟨A1,c1,[]++x.entries.xs⟩,rfl,by simp,hS.kp,hS.rG⟩
theorem AA (x:dr)(w:World)(hx:aJ.sub B w x)(lj:aJ.small x):Calls prog 46 #[x.val] w fun e w'=> ∃y:dr,e=.returned (y.val)∧y.abs=x.abs∧bJ w w' y:=
  (rk x w hx lj.1).mono fun e w' ⟨y,h1,h2,h3,h4⟩=>⟨⟨x.base,y⟩,h1,by simp[dr.abs,h2],h3,h4.sub fun hp=>Rr hp (fun b hb=>hb) fun z hz=>Sl.rd.mem (s:=x.entries) hx z (h2▸hz)⟩
theorem Ij {B B':Nat→Prop}(x:dr)(n:Int)(m:Sl ByteArray)(w:World)(hx:aJ.sub B w x)(hm:m.rd B' w):Calls prog 227 #[x.val,vi n,m.val] w fun e w'=> ∃y:dr,e=.returned (.tuple #[y.val,vi (de x.abs n m.xs).2])∧y.abs=(de x.abs n m.xs).1∧bJ w w' y:=by
 have cC:=aJ.bL hx
 have mr:=Sl.ok.nc cC
 have mu:x.entries.n=x.entries.xs.length:=rfl
 have yu:cD x.abs=x.base+(x.entries.n:Int):=rfl
 have q1:x.abs.base=x.base:=rfl
 have q2:x.abs.entries=x.entries.xs:=rfl
 have fg: ∀q,x.entries.xs.getD q default=x.entries.at q:=fun _=>rfl
 have IW:=Sl.rd.ok hm
 have xE:=Sl.ok.nc IW
 have HR:m.n=m.xs.length:=rfl
 refine M0 ?_ func227
 refine Mp ?_ call110 (fun bs w hS=>o7 x w (aJ.kp hx hS.kp))
 refine cr (cT x.abs=0) (fun h1=>?_) fun h1=>?_
 rotate_left
 ·have hm:de x.abs n m.xs=(iI,cT x.abs):=by grind[de]
  exact eE hm ⟨0,Sl.nil⟩ rfl fun bs w hS=>hS.aO (y:=(⟨0,Sl.nil⟩:dr)) (Sl.ao _ _)
 obtain⟨gU,gT,jB,nH⟩:=eb h1
 rw[q1]at gU gT
 rw[q2]at jB
 have GH: ∀z,z∈x.entries.xs→z.size≤9223372036854775807:=fun z hz=>Sl.rd.mem (s:=x.entries) hx z hz
 refine Md (n<0) (fun h2=>?_) fun h2=>?_
 ·have hm:de x.abs n m.xs=(iI,2):=by
    unfold de;rw[if_neg (by simpa using (by assumption:cT _=0)),yu,q1,q2]
    first|rw[if_pos (by omega)]|rw[if_neg (by omega),if_pos (by omega)]|rw[if_neg (by omega),if_neg (by omega),if_pos (by omega)]|(rw[if_neg (by omega),if_neg (by omega),if_neg (by omega),if_neg (by simp),if_pos (by show 400<E.length;omega)])
    all_goals first|rfl|(exfalso;omega)
  exact eE hm ⟨0,Sl.nil⟩ rfl fun bs w hS=>hS.aO (y:=(⟨0,Sl.nil⟩:dr)) (Sl.ao _ _)
 refine Md ((1073741824:Int)<n) (fun h3=>?_) fun h3=>?_
 ·have hm:de x.abs n m.xs=(iI,2):=by
    unfold de;rw[if_neg (by simpa using (by assumption:cT _=0)),yu,q1,q2]
    first|rw[if_pos (by omega)]|rw[if_neg (by omega),if_pos (by omega)]|rw[if_neg (by omega),if_neg (by omega),if_pos (by omega)]|(rw[if_neg (by omega),if_neg (by omega),if_neg (by omega),if_neg (by simp),if_pos (by show 400<E.length;omega)])
    all_goals first|rfl|(exfalso;omega)
  exact eE hm ⟨0,Sl.nil⟩ rfl fun bs w hS=>hS.aO (y:=(⟨0,Sl.nil⟩:dr)) (Sl.ao _ _)
 refine Md ((400:Int)<(m.n:Int)) (fun h4=>?_) fun h4=>?_
 ·have hm:de x.abs n m.xs=(iI,1):=by
    unfold de;rw[if_neg (by simpa using (by assumption:cT _=0)),yu,q1,q2]
    first|rw[if_pos (by omega)]|rw[if_neg (by omega),if_pos (by omega)]|rw[if_neg (by omega),if_neg (by omega),if_pos (by omega)]|(rw[if_neg (by omega),if_neg (by omega),if_neg (by omega),if_neg (by simp),if_pos (by show 400<E.length;omega)])
    all_goals first|rfl|(exfalso;omega)
  exact eE hm ⟨0,Sl.nil⟩ rfl fun bs w hS=>hS.aO (y:=(⟨0,Sl.nil⟩:dr)) (Sl.ao _ _)
 refine Mp ?_ call49 (fun bs w hS=>gQ x w (aJ.kp hx hS.kp) (by first|exact⟨by omega,by omega,by omega⟩|omega))
 refine Md (x.base+(x.entries.n:Int)<n) (fun h5=>?_) fun h5=>?_
 ·have hm:de x.abs n m.xs=(iI,13):=by
    unfold de;rw[if_neg (by simpa using (by assumption:cT _=0)),yu,q1,q2]
    first|rw[if_pos (by omega)]|rw[if_neg (by omega),if_pos (by omega)]|rw[if_neg (by omega),if_neg (by omega),if_pos (by omega)]|(rw[if_neg (by omega),if_neg (by omega),if_neg (by omega),if_neg (by simp),if_pos (by show 400<E.length;omega)])
    all_goals first|rfl|(exfalso;omega)
  exact eE hm ⟨0,Sl.nil⟩ rfl fun bs w hS=>hS.aO (y:=(⟨0,Sl.nil⟩:dr)) (Sl.ao _ _)
 refine Md (n<x.base) (fun h6=>?_) fun h6=>?_
 rotate_left
 ·refine Mf ?_ call112 (fun bs w hS=>o9 x w (aJ.kp hx hS.kp) (by omega))
  rintro y9 vr
  obtain⟨A9,c9,rfl⟩:=Sl.wO vr
  refine eu (ay 9 A9 c9 (x.entries.xs:List ByteArray)) (List.Sublist.refl _) (fun w h=>h) ?_
  refine bk (F:=dY A9 c9 (x.entries.xs:List ByteArray)) (fun bs w hS=>br (hS.res _ i0)) fun MY=>?_
  have NW:=MY.2
  obtain⟨r,hr,SJ⟩: ∃r:Sl ByteArray,r=m∧True:=⟨m,rfl,trivial⟩
  have MZ:r.xs=m.xs.drop (x.base - n).toNat:=by rw[hr,show (x.base - n).toNat=0 by omega];rfl
  have Ka:Sl.rd bH w r:=by rw[hr];exact hm.wide (fun _ _=>trivial)
  have IX:r.n=m.n:=by rw[hr]
  have Kb:=Sl.rd.ok Ka
  have vY:=Sl.ok.nc Kb
  have M4:r.n=r.xs.length:=rfl
  refine Mk 58 ?_ (show (vI (m.n:Int))=vI (r.n:Int) by rw[IX])
  refine Mk 57 ?_ (show (.v (.slice m.A m.n m.c))=.v (.slice r.A r.n r.c) by rw[IX,hr];first|done|rfl)
  refine Ml (σ:=Nat×Option Addr×Nat×List ByteArray) (fun⟨i,A,c,E⟩=>i≤r.n∧eT x.entries.xs (n - x.base).toNat (m.xs.drop (x.base - n).toNat)=eT E ((n - x.base).toNat+i) (r.xs.drop i)∧(n - x.base).toNat+i≤E.length∧E.length≤400+i∧ ∀z,z∈E→z.size≤9223372036854775807) (fun⟨i,A,c,E⟩=>r.n - i) (fun⟨i,A,c,E⟩=>[ay 9 A c (E:List ByteArray)]) [57,58,59,10,6,3,1] (fun⟨i,A,c,E⟩=>[(59,vI (i:Int))]) (fun⟨i,A,c,E⟩=>[(2,[vI x.base,.v (.slice A E.length c)])]) ?_ (⟨0,A9,c9,x.entries.xs⟩) ⟨Nat.zero_le _,by rw[MZ];rfl,by omega,by omega,GH⟩
  rintro⟨i,A,c,E⟩ ⟨hi,hP,hE,Ph,tD⟩ _ o6
  refine bk (F:=dY A c (E:List ByteArray)) (fun bs w hS=>br (hS.res _ i0)) fun gb=>?_
  have Pj:=gb.2
  refine Md ((i:Int)<(r.n:Int)) (fun Ej=>?_) fun Ej=>?_
  rotate_left
  ·refine Md ((400:Int)<(E.length:Int)) (fun LY=>?_) fun LY=>?_
   rotate_left
   ·have Dg:eT x.entries.xs (n - x.base).toNat (m.xs.drop (x.base - n).toNat)=(E,0):=by rw[hP];exact jt (by omega)
    have hm:de x.abs n m.xs=(⟨x.base,E⟩,0):=by grind[de]
    exact eE hm ⟨x.base,⟨A,c,E⟩⟩ rfl fun bs w hS=>hS.aO (y:=(⟨x.base,⟨A,c,E⟩⟩:dr)) (a4 i0 (hS.res _ i0) tD)
   have Dg:eT x.entries.xs (n - x.base).toNat (m.xs.drop (x.base - n).toNat)=(E,0):=by rw[hP];exact jt (by omega)
   have hm:de x.abs n m.xs=(iI,8):=by
     unfold de;rw[if_neg (by simpa using (by assumption:cT _=0)),yu,q1,q2]
     first|rw[if_pos (by omega)]|rw[if_neg (by omega),if_pos (by omega)]|rw[if_neg (by omega),if_neg (by omega),if_pos (by omega)]|(rw[if_neg (by omega),if_neg (by omega),if_neg (by omega),Dg,if_neg (by simp),if_pos (by show 400<E.length;omega)])
     all_goals first|rfl|(exfalso;omega)
   exact eE hm ⟨0,Sl.nil⟩ rfl fun bs w hS=>hS.aO (y:=(⟨0,Sl.nil⟩:dr)) (Sl.ao _ _)
  refine Mi ?_ (pA 62 63 (i:Int) i (db Ka))
  refine Mp ?_ call21 (fun bs w hS=>ig (r.at i) w (Sl.ok.at (s:=r) (i:=i) Kb (by omega)))
  refine cr ((aq (r.at i)).2=0) (fun yn=>?_) fun yn=>?_
  rotate_left
  ·have Dg:eT x.entries.xs (n - x.base).toNat (m.xs.drop (x.base - n).toNat)=([],(aq (r.at i)).2):=by rw[hP];exact rQ (by omega) yn
   have hm:de x.abs n m.xs=(iI,(aq (r.at i)).2):=by grind[de]
   exact eE hm ⟨0,Sl.nil⟩ rfl fun bs w hS=>hS.aO (y:=(⟨0,Sl.nil⟩:dr)) (Sl.ao _ _)
  refine Mi ?_ (pc (pR (n+(i:Int))) (pR ((n+(i:Int)) - x.base)))
  refine Md ((n+(i:Int)) - x.base<(E.length:Int)) (fun EU=>?_) fun EU=>?_
  rotate_left
  ·by_cases KF:(E.length:Int)<(n+(i:Int)) - x.base
   ·refine uJ ?_ (if_pos KF)
    refine Mi ?_ (pG [(100,.sl 0 E.length)] (oc (rfl:0=0) (oc (rfl:(E.length:Int)=(E.length:Int)) (oc ((by omega):E.length≤c) on))))
    refine M1 ?_
    refine eu (ay 9 A c ((E).take E.length:List ByteArray)) (List.Sublist.refl _) (fun w h=>jo h E.length (by omega)) ?_
    refine gX (α:=ByteArray) 16 ([(r.at i)]) ?_ (n:=E.length) (hn:=by rw[List.length_take];omega)
    intro Pl Pm
    refine Mi ?_ (pR ((i:Int)+1))
    exact o6 ⟨i+1,Pl,Pm,((E).take E.length)++[(r.at i)]⟩ ⟨by omega,by rw[hP,Pn (by omega) yn,fa (k:=(n - x.base).toNat+i) (by rintro⟨GI,rb⟩;omega),show (n - x.base).toNat+i+1=(n - x.base).toNat+(i+1) by omega];(rw[show (n - x.base).toNat+i=E.length by omega]<;>rfl),by simp only[List.length_append,List.length_take,List.length_cons,List.length_nil];omega,by simp only[List.length_append,List.length_take,List.length_cons,List.length_nil];omega,fun z hz=>by simp only[List.nil_append,List.mem_append,List.mem_singleton]at hz;rcases hz with hz|hz;exact tD z (List.mem_of_mem_take hz);subst hz;exact dv yn⟩ (by show r.n - (i+1)<r.n - i;omega)
   refine uJ ?_ (if_neg KF)
   refine Mi ?_ (pG [(100,.sl 0 ((n+(i:Int)) - x.base).toNat)] (oc (rfl:0=0) (oc ((by omega):(n+(i:Int)) - x.base=((((n+(i:Int)) - x.base).toNat:Nat):Int)) (oc ((by omega):((n+(i:Int)) - x.base).toNat≤c) on))))
   refine M1 ?_
   refine eu (ay 9 A c ((E).take ((n+(i:Int)) - x.base).toNat:List ByteArray)) (List.Sublist.refl _) (fun w h=>jo h ((n+(i:Int)) - x.base).toNat (by omega)) ?_
   refine gX (α:=ByteArray) 16 ([(r.at i)]) ?_ (n:=((n+(i:Int)) - x.base).toNat) (hn:=by rw[List.length_take];omega)
   intro SK SL
   refine Mi ?_ (pR ((i:Int)+1))
   exact o6 ⟨i+1,SK,SL,((E).take ((n+(i:Int)) - x.base).toNat)++[(r.at i)]⟩ ⟨by omega,by rw[hP,Pn (by omega) yn,fa (k:=(n - x.base).toNat+i) (by rintro⟨GI,rb⟩;omega),show (n - x.base).toNat+i+1=(n - x.base).toNat+(i+1) by omega];(rw[show (n - x.base).toNat+i=((n+(i:Int)) - x.base).toNat by omega]<;>rfl),by simp only[List.length_append,List.length_take,List.length_cons,List.length_nil];omega,by simp only[List.length_append,List.length_take,List.length_cons,List.length_nil];omega,fun z hz=>by simp only[List.nil_append,List.mem_append,List.mem_singleton]at hz;rcases hz with hz|hz;exact tD z (List.mem_of_mem_take hz);subst hz;exact dv yn⟩ (by show r.n - (i+1)<r.n - i;omega)
  refine Mi ?_ (pc (fG 88 ((n+(i:Int)) - x.base) ((n+(i:Int)) - x.base).toNat E.length i0) (C1 89 ((n+(i:Int)) - x.base).toNat i0))
  refine Md ((E.getD ((n+(i:Int)) - x.base).toNat default)=(r.at i)) (fun Dc=>?_) fun Dc=>?_
  ·refine Mi ?_ (pR ((i:Int)+1))
   exact o6 ⟨i+1,A,c,E⟩ ⟨by omega,by rw[hP,Pn (by omega) yn,n9 (k:=(n - x.base).toNat+i) (by omega) (by rw[show (n - x.base).toNat+i=((n+(i:Int)) - x.base).toNat by omega];exact Dc),show (n - x.base).toNat+i+1=(n - x.base).toNat+(i+1) by omega],by omega,by omega,tD⟩ (by show r.n - (i+1)<r.n - i;omega)
  by_cases Hb:(E.length:Int)<(n+(i:Int)) - x.base
  ·refine uJ ?_ (if_pos Hb)
   refine Mi ?_ (pG [(100,.sl 0 E.length)] (oc (rfl:0=0) (oc (rfl:(E.length:Int)=(E.length:Int)) (oc ((by omega):E.length≤c) on))))
   refine M1 ?_
   refine eu (ay 9 A c ((E).take E.length:List ByteArray)) (List.Sublist.refl _) (fun w h=>jo h E.length (by omega)) ?_
   refine gX (α:=ByteArray) 16 ([(r.at i)]) ?_ (n:=E.length) (hn:=by rw[List.length_take];omega)
   intro EX EY
   refine Mi ?_ (pR ((i:Int)+1))
   exact o6 ⟨i+1,EX,EY,((E).take E.length)++[(r.at i)]⟩ ⟨by omega,by rw[hP,Pn (by omega) yn,fa (k:=(n - x.base).toNat+i) (by rintro⟨GI,rb⟩;first|omega|(rw[show (n - x.base).toNat+i=((n+(i:Int)) - x.base).toNat by omega]at rb;exact Dc rb)),show (n - x.base).toNat+i+1=(n - x.base).toNat+(i+1) by omega];(rw[show (n - x.base).toNat+i=E.length by omega]<;>rfl),by simp only[List.length_append,List.length_take,List.length_cons,List.length_nil];omega,by simp only[List.length_append,List.length_take,List.length_cons,List.length_nil];omega,fun z hz=>by simp only[List.nil_append,List.mem_append,List.mem_singleton]at hz;rcases hz with hz|hz;exact tD z (List.mem_of_mem_take hz);subst hz;exact dv yn⟩ (by show r.n - (i+1)<r.n - i;omega)
  refine uJ ?_ (if_neg Hb)
  refine Mi ?_ (pG [(100,.sl 0 ((n+(i:Int)) - x.base).toNat)] (oc (rfl:0=0) (oc ((by omega):(n+(i:Int)) - x.base=((((n+(i:Int)) - x.base).toNat:Nat):Int)) (oc ((by omega):((n+(i:Int)) - x.base).toNat≤c) on))))
  refine M1 ?_
  refine eu (ay 9 A c ((E).take ((n+(i:Int)) - x.base).toNat:List ByteArray)) (List.Sublist.refl _) (fun w h=>jo h ((n+(i:Int)) - x.base).toNat (by omega)) ?_
  refine gX (α:=ByteArray) 16 ([(r.at i)]) ?_ (n:=((n+(i:Int)) - x.base).toNat) (hn:=by rw[List.length_take];omega)
  intro SM SN
  refine Mi ?_ (pR ((i:Int)+1))
  exact o6 ⟨i+1,SM,SN,((E).take ((n+(i:Int)) - x.base).toNat)++[(r.at i)]⟩ ⟨by omega,by rw[hP,Pn (by omega) yn,fa (k:=(n - x.base).toNat+i) (by rintro⟨GI,rb⟩;first|omega|(rw[show (n - x.base).toNat+i=((n+(i:Int)) - x.base).toNat by omega]at rb;exact Dc rb)),show (n - x.base).toNat+i+1=(n - x.base).toNat+(i+1) by omega];(rw[show (n - x.base).toNat+i=((n+(i:Int)) - x.base).toNat by omega]<;>rfl),by simp only[List.length_append,List.length_take,List.length_cons,List.length_nil];omega,by simp only[List.length_append,List.length_take,List.length_cons,List.length_nil];omega,fun z hz=>by simp only[List.nil_append,List.mem_append,List.mem_singleton]at hz;rcases hz with hz|hz;exact tD z (List.mem_of_mem_take hz);subst hz;exact dv yn⟩ (by show r.n - (i+1)<r.n - i;omega)
 refine Mi ?_ (pR (x.base - n))
 by_cases h7:(m.n:Int)<x.base - n
 ·refine uJ ?_ (if_pos h7)
  refine Mi ?_ (pc (pG [(51,.sl m.n m.n)] (oc (rfl:(m.n:Int)=(m.n:Int)) (oc (rfl:m.n=m.n) (oc ((by omega):m.n≤m.n) on)))) (pR (n+(m.n:Int))))
  refine Mf ?_ call112 (fun bs w hS=>o9 x w (aJ.kp hx hS.kp) (by omega))
  rintro y1 a5
  obtain⟨A1,c1,rfl⟩:=Sl.wO a5
  refine eu (ay 9 A1 c1 (x.entries.xs:List ByteArray)) (List.Sublist.refl _) (fun w h=>h) ?_
  refine bk (F:=dY A1 c1 (x.entries.xs:List ByteArray)) (fun bs w hS=>br (hS.res _ i0)) fun cI=>?_
  have cn:=cI.2
  obtain⟨r,hr⟩: ∃r:Sl ByteArray,r=⟨gA m.A m.c m.n 1,m.c - m.n,m.xs.drop m.n⟩:=⟨_,rfl⟩
  have MZ:r.xs=m.xs.drop (x.base - n).toNat:=by rw[hr]<;>exact zp (by first|omega|(split at* <;>omega))
  have Ka:Sl.rd bH w r:=by rw[hr];exact (hm.wide (fun _ _=>trivial)).drop _ (by first|omega|(split<;>omega))
  have IX:r.n=m.n - m.n:=by rw[hr];exact List.length_drop ..
  have Kb:=Sl.rd.ok Ka
  have vY:=Sl.ok.nc Kb
  have M4:r.n=r.xs.length:=rfl
  refine Mk 58 ?_ (show (vI ((m.n - m.n:Nat):Int))=vI (r.n:Int) by rw[IX])
  refine Mk 57 ?_ (show (.v (.slice (if m.c=m.n then m.A else m.A.map (·.add (m.n*1))) (m.n - m.n) (m.c - m.n)))=.v (.slice r.A r.n r.c) by rw[IX,hr];first|done|rfl)
  refine Ml (σ:=Nat×Option Addr×Nat×List ByteArray) (fun⟨i,A,c,E⟩=>i≤r.n∧eT x.entries.xs (n - x.base).toNat (m.xs.drop (x.base - n).toNat)=eT E ((n - x.base).toNat+i) (r.xs.drop i)∧(n - x.base).toNat+i≤E.length∧E.length≤400+i∧ ∀z,z∈E→z.size≤9223372036854775807) (fun⟨i,A,c,E⟩=>r.n - i) (fun⟨i,A,c,E⟩=>[ay 9 A c (E:List ByteArray)]) [57,58,59,10,1,6,3] (fun⟨i,A,c,E⟩=>[(59,vI (i:Int))]) (fun⟨i,A,c,E⟩=>[(2,[vI x.base,.v (.slice A E.length c)])]) ?_ (⟨0,A1,c1,x.entries.xs⟩) ⟨Nat.zero_le _,by rw[MZ];rfl,by omega,by omega,GH⟩
  rintro⟨i,A,c,E⟩ ⟨hi,hP,hE,Ph,tD⟩ _ bu
  refine bk (F:=dY A c (E:List ByteArray)) (fun bs w hS=>br (hS.res _ i0)) fun gb=>?_
  have Pj:=gb.2
  refine Md ((i:Int)<(r.n:Int)) (fun h8=>?_) fun h8=>?_
  ·exfalso;omega
  refine Md ((400:Int)<(E.length:Int)) (fun h9=>?_) fun h9=>?_
  rotate_left
  ·have Dg:eT x.entries.xs (n - x.base).toNat (m.xs.drop (x.base - n).toNat)=(E,0):=by rw[hP];exact jt (by omega)
   have hm:de x.abs n m.xs=(⟨x.base,E⟩,0):=by grind[de]
   exact eE hm ⟨x.base,⟨A,c,E⟩⟩ rfl fun bs w hS=>hS.aO (y:=(⟨x.base,⟨A,c,E⟩⟩:dr)) (a4 i0 (hS.res _ i0) tD)
  have Dg:eT x.entries.xs (n - x.base).toNat (m.xs.drop (x.base - n).toNat)=(E,0):=by rw[hP];exact jt (by omega)
  have hm:de x.abs n m.xs=(iI,8):=by
    unfold de;rw[if_neg (by simpa using (by assumption:cT _=0)),yu,q1,q2]
    first|rw[if_pos (by omega)]|rw[if_neg (by omega),if_pos (by omega)]|rw[if_neg (by omega),if_neg (by omega),if_pos (by omega)]|(rw[if_neg (by omega),if_neg (by omega),if_neg (by omega),Dg,if_neg (by simp),if_pos (by show 400<E.length;omega)])
    all_goals first|rfl|(exfalso;omega)
  exact eE hm ⟨0,Sl.nil⟩ rfl fun bs w hS=>hS.aO (y:=(⟨0,Sl.nil⟩:dr)) (Sl.ao _ _)
 refine uJ ?_ (if_neg h7)
 refine Mi ?_ (pc (pG [(51,.sl (x.base - n).toNat m.n)] (oc ((by omega):x.base - n=(((x.base - n).toNat:Nat):Int)) (oc (rfl:m.n=m.n) (oc ((by omega):(x.base - n).toNat≤m.n) on)))) (pR (n+(x.base - n))))
 refine Mf ?_ call112 (fun bs w hS=>o9 x w (aJ.kp hx hS.kp) (by omega))
 rintro y3 my
 obtain⟨A3,c3,rfl⟩:=Sl.wO my
 refine eu (ay 9 A3 c3 (x.entries.xs:List ByteArray)) (List.Sublist.refl _) (fun w h=>h) ?_
 refine bk (F:=dY A3 c3 (x.entries.xs:List ByteArray)) (fun bs w hS=>br (hS.res _ i0)) fun M5=>?_
 have NX:=M5.2
 obtain⟨r,hr⟩: ∃r:Sl ByteArray,r=⟨gA m.A m.c (x.base - n).toNat 1,m.c - (x.base - n).toNat,m.xs.drop (x.base - n).toNat⟩:=⟨_,rfl⟩
 have MZ:r.xs=m.xs.drop (x.base - n).toNat:=by rw[hr]<;>exact zp (by first|omega|(split at* <;>omega))
 have Ka:Sl.rd bH w r:=by rw[hr];exact (hm.wide (fun _ _=>trivial)).drop _ (by first|omega|(split<;>omega))
 have IX:r.n=m.n - (x.base - n).toNat:=by rw[hr];exact List.length_drop ..
 have Kb:=Sl.rd.ok Ka
 have vY:=Sl.ok.nc Kb
 have M4:r.n=r.xs.length:=rfl
 refine Mk 58 ?_ (show (vI ((m.n - (x.base - n).toNat:Nat):Int))=vI (r.n:Int) by rw[IX])
 refine Mk 57 ?_ (show (.v (.slice (if m.c=(x.base - n).toNat then m.A else m.A.map (·.add ((x.base - n).toNat*1))) (m.n - (x.base - n).toNat) (m.c - (x.base - n).toNat)))=.v (.slice r.A r.n r.c) by rw[IX,hr];first|done|rfl)
 refine Ml (σ:=Nat×Option Addr×Nat×List ByteArray) (fun⟨i,A,c,E⟩=>i≤r.n∧eT x.entries.xs (n - x.base).toNat (m.xs.drop (x.base - n).toNat)=eT E ((n - x.base).toNat+i) (r.xs.drop i)∧(n - x.base).toNat+i≤E.length∧E.length≤400+i∧ ∀z,z∈E→z.size≤9223372036854775807) (fun⟨i,A,c,E⟩=>r.n - i) (fun⟨i,A,c,E⟩=>[ay 9 A c (E:List ByteArray)]) [57,58,59,10,1,6,3] (fun⟨i,A,c,E⟩=>[(59,vI (i:Int))]) (fun⟨i,A,c,E⟩=>[(2,[vI x.base,.v (.slice A E.length c)])]) ?_ (⟨0,A3,c3,x.entries.xs⟩) ⟨Nat.zero_le _,by rw[MZ];rfl,by omega,by omega,GH⟩
 rintro⟨i,A,c,E⟩ ⟨hi,hP,hE,Ph,tD⟩ _ j8
 refine bk (F:=dY A c (E:List ByteArray)) (fun bs w hS=>br (hS.res _ i0)) fun gb=>?_
 have Pj:=gb.2
 refine Md ((i:Int)<(r.n:Int)) (fun ir=>?_) fun ir=>?_
 rotate_left
 ·refine Md ((400:Int)<(E.length:Int)) (fun yK=>?_) fun yK=>?_
  rotate_left
  ·have Dg:eT x.entries.xs (n - x.base).toNat (m.xs.drop (x.base - n).toNat)=(E,0):=by rw[hP];exact jt (by omega)
   have hm:de x.abs n m.xs=(⟨x.base,E⟩,0):=by grind[de]
   exact eE hm ⟨x.base,⟨A,c,E⟩⟩ rfl fun bs w hS=>hS.aO (y:=(⟨x.base,⟨A,c,E⟩⟩:dr)) (a4 i0 (hS.res _ i0) tD)
  have Dg:eT x.entries.xs (n - x.base).toNat (m.xs.drop (x.base - n).toNat)=(E,0):=by rw[hP];exact jt (by omega)
  have hm:de x.abs n m.xs=(iI,8):=by
    unfold de;rw[if_neg (by simpa using (by assumption:cT _=0)),yu,q1,q2]
    first|rw[if_pos (by omega)]|rw[if_neg (by omega),if_pos (by omega)]|rw[if_neg (by omega),if_neg (by omega),if_pos (by omega)]|(rw[if_neg (by omega),if_neg (by omega),if_neg (by omega),Dg,if_neg (by simp),if_pos (by show 400<E.length;omega)])
    all_goals first|rfl|(exfalso;omega)
  exact eE hm ⟨0,Sl.nil⟩ rfl fun bs w hS=>hS.aO (y:=(⟨0,Sl.nil⟩:dr)) (Sl.ao _ _)
 refine Mi ?_ (pA 62 63 (i:Int) i (db Ka))
 refine Mp ?_ call21 (fun bs w hS=>ig (r.at i) w (Sl.ok.at (s:=r) (i:=i) Kb (by omega)))
 refine cr ((aq (r.at i)).2=0) (fun g7=>?_) fun g7=>?_
 rotate_left
 ·have Dg:eT x.entries.xs (n - x.base).toNat (m.xs.drop (x.base - n).toNat)=([],(aq (r.at i)).2):=by rw[hP];exact rQ (by omega) g7
  have hm:de x.abs n m.xs=(iI,(aq (r.at i)).2):=by grind[de]
  exact eE hm ⟨0,Sl.nil⟩ rfl fun bs w hS=>hS.aO (y:=(⟨0,Sl.nil⟩:dr)) (Sl.ao _ _)
 refine Mi ?_ (pc (pR ((n+(x.base - n))+(i:Int))) (pR (((n+(x.base - n))+(i:Int)) - x.base)))
 refine Md (((n+(x.base - n))+(i:Int)) - x.base<(E.length:Int)) (fun jW=>?_) fun jW=>?_
 rotate_left
 ·by_cases pr:(E.length:Int)<((n+(x.base - n))+(i:Int)) - x.base
  ·refine uJ ?_ (if_pos pr)
   refine Mi ?_ (pG [(100,.sl 0 E.length)] (oc (rfl:0=0) (oc (rfl:(E.length:Int)=(E.length:Int)) (oc ((by omega):E.length≤c) on))))
   refine M1 ?_
   refine eu (ay 9 A c ((E).take E.length:List ByteArray)) (List.Sublist.refl _) (fun w h=>jo h E.length (by omega)) ?_
   refine gX (α:=ByteArray) 16 ([(r.at i)]) ?_ (n:=E.length) (hn:=by rw[List.length_take];omega)
   intro A7 c7
   refine Mi ?_ (pR ((i:Int)+1))
   exact j8 ⟨i+1,A7,c7,((E).take E.length)++[(r.at i)]⟩ ⟨by omega,by rw[hP,Pn (by omega) g7,fa (k:=(n - x.base).toNat+i) (by rintro⟨GI,rb⟩;omega),show (n - x.base).toNat+i+1=(n - x.base).toNat+(i+1) by omega];(rw[show (n - x.base).toNat+i=E.length by omega]<;>rfl),by simp only[List.length_append,List.length_take,List.length_cons,List.length_nil];omega,by simp only[List.length_append,List.length_take,List.length_cons,List.length_nil];omega,fun z hz=>by simp only[List.nil_append,List.mem_append,List.mem_singleton]at hz;rcases hz with hz|hz;exact tD z (List.mem_of_mem_take hz);subst hz;exact dv g7⟩ (by show r.n - (i+1)<r.n - i;omega)
  refine uJ ?_ (if_neg pr)
  refine Mi ?_ (pG [(100,.sl 0 (((n+(x.base - n))+(i:Int)) - x.base).toNat)] (oc (rfl:0=0) (oc ((by omega):((n+(x.base - n))+(i:Int)) - x.base=(((((n+(x.base - n))+(i:Int)) - x.base).toNat:Nat):Int)) (oc ((by omega):(((n+(x.base - n))+(i:Int)) - x.base).toNat≤c) on))))
  refine M1 ?_
  refine eu (ay 9 A c ((E).take (((n+(x.base - n))+(i:Int)) - x.base).toNat:List ByteArray)) (List.Sublist.refl _) (fun w h=>jo h (((n+(x.base - n))+(i:Int)) - x.base).toNat (by omega)) ?_
  refine gX (α:=ByteArray) 16 ([(r.at i)]) ?_ (n:=(((n+(x.base - n))+(i:Int)) - x.base).toNat) (hn:=by rw[List.length_take];omega)
  intro A8 c8
  refine Mi ?_ (pR ((i:Int)+1))
  exact j8 ⟨i+1,A8,c8,((E).take (((n+(x.base - n))+(i:Int)) - x.base).toNat)++[(r.at i)]⟩ ⟨by omega,by rw[hP,Pn (by omega) g7,fa (k:=(n - x.base).toNat+i) (by rintro⟨GI,rb⟩;omega),show (n - x.base).toNat+i+1=(n - x.base).toNat+(i+1) by omega];(rw[show (n - x.base).toNat+i=(((n+(x.base - n))+(i:Int)) - x.base).toNat by omega]<;>rfl),by simp only[List.length_append,List.length_take,List.length_cons,List.length_nil];omega,by simp only[List.length_append,List.length_take,List.length_cons,List.length_nil];omega,fun z hz=>by simp only[List.nil_append,List.mem_append,List.mem_singleton]at hz;rcases hz with hz|hz;exact tD z (List.mem_of_mem_take hz);subst hz;exact dv g7⟩ (by show r.n - (i+1)<r.n - i;omega)
 refine Mi ?_ (pc (fG 88 (((n+(x.base - n))+(i:Int)) - x.base) (((n+(x.base - n))+(i:Int)) - x.base).toNat E.length i0) (C1 89 (((n+(x.base - n))+(i:Int)) - x.base).toNat i0))
 refine Md ((E.getD (((n+(x.base - n))+(i:Int)) - x.base).toNat default)=(r.at i)) (fun k7=>?_) fun k7=>?_
 ·refine Mi ?_ (pR ((i:Int)+1))
  exact j8 ⟨i+1,A,c,E⟩ ⟨by omega,by rw[hP,Pn (by omega) g7,n9 (k:=(n - x.base).toNat+i) (by omega) (by rw[show (n - x.base).toNat+i=(((n+(x.base - n))+(i:Int)) - x.base).toNat by omega];exact k7),show (n - x.base).toNat+i+1=(n - x.base).toNat+(i+1) by omega],by omega,by omega,tD⟩ (by show r.n - (i+1)<r.n - i;omega)
 by_cases mo:(E.length:Int)<((n+(x.base - n))+(i:Int)) - x.base
 ·refine uJ ?_ (if_pos mo)
  refine Mi ?_ (pG [(100,.sl 0 E.length)] (oc (rfl:0=0) (oc (rfl:(E.length:Int)=(E.length:Int)) (oc ((by omega):E.length≤c) on))))
  refine M1 ?_
  refine eu (ay 9 A c ((E).take E.length:List ByteArray)) (List.Sublist.refl _) (fun w h=>jo h E.length (by omega)) ?_
  refine gX (α:=ByteArray) 16 ([(r.at i)]) ?_ (n:=E.length) (hn:=by rw[List.length_take];omega)
  intro A5 c5
  refine Mi ?_ (pR ((i:Int)+1))
  exact j8 ⟨i+1,A5,c5,((E).take E.length)++[(r.at i)]⟩ ⟨by omega,by rw[hP,Pn (by omega) g7,fa (k:=(n - x.base).toNat+i) (by rintro⟨GI,rb⟩;first|omega|(rw[show (n - x.base).toNat+i=(((n+(x.base - n))+(i:Int)) - x.base).toNat by omega]at rb;exact k7 rb)),show (n - x.base).toNat+i+1=(n - x.base).toNat+(i+1) by omega];(rw[show (n - x.base).toNat+i=E.length by omega]<;>rfl),by simp only[List.length_append,List.length_take,List.length_cons,List.length_nil];omega,by simp only[List.length_append,List.length_take,List.length_cons,List.length_nil];omega,fun z hz=>by simp only[List.nil_append,List.mem_append,List.mem_singleton]at hz;rcases hz with hz|hz;exact tD z (List.mem_of_mem_take hz);subst hz;exact dv g7⟩ (by show r.n - (i+1)<r.n - i;omega)
 refine uJ ?_ (if_neg mo)
 refine Mi ?_ (pG [(100,.sl 0 (((n+(x.base - n))+(i:Int)) - x.base).toNat)] (oc (rfl:0=0) (oc ((by omega):((n+(x.base - n))+(i:Int)) - x.base=(((((n+(x.base - n))+(i:Int)) - x.base).toNat:Nat):Int)) (oc ((by omega):(((n+(x.base - n))+(i:Int)) - x.base).toNat≤c) on))))
 refine M1 ?_
 refine eu (ay 9 A c ((E).take (((n+(x.base - n))+(i:Int)) - x.base).toNat:List ByteArray)) (List.Sublist.refl _) (fun w h=>jo h (((n+(x.base - n))+(i:Int)) - x.base).toNat (by omega)) ?_
 refine gX (α:=ByteArray) 16 ([(r.at i)]) ?_ (n:=(((n+(x.base - n))+(i:Int)) - x.base).toNat) (hn:=by rw[List.length_take];omega)
 intro A6 c6
 refine Mi ?_ (pR ((i:Int)+1))
 exact j8 ⟨i+1,A6,c6,((E).take (((n+(x.base - n))+(i:Int)) - x.base).toNat)++[(r.at i)]⟩ ⟨by omega,by rw[hP,Pn (by omega) g7,fa (k:=(n - x.base).toNat+i) (by rintro⟨GI,rb⟩;first|omega|(rw[show (n - x.base).toNat+i=(((n+(x.base - n))+(i:Int)) - x.base).toNat by omega]at rb;exact k7 rb)),show (n - x.base).toNat+i+1=(n - x.base).toNat+(i+1) by omega];(rw[show (n - x.base).toNat+i=(((n+(x.base - n))+(i:Int)) - x.base).toNat by omega]<;>rfl),by simp only[List.length_append,List.length_take,List.length_cons,List.length_nil];omega,by simp only[List.length_append,List.length_take,List.length_cons,List.length_nil];omega,fun z hz=>by simp only[List.nil_append,List.mem_append,List.mem_singleton]at hz;rcases hz with hz|hz;exact tD z (List.mem_of_mem_take hz);subst hz;exact dv g7⟩ (by show r.n - (i+1)<r.n - i;omega)
theorem Ey {B B':Nat→Prop}(x:dr)(n:Int)(m:Sl ByteArray)(w:World)(hx:aJ.sub B w x)(hm:m.rd B' w):Calls prog 211 #[x.val,vi n,m.val] w fun e w'=> ∃y:dr,e=.returned (.tuple #[y.val,vi (de x.abs n m.xs).2])∧y.abs=(de x.abs n m.xs).1∧bJ w w' y:=by
 have cC:=aJ.bL hx
 have mr:=Sl.ok.nc cC
 have mu:x.entries.n=x.entries.xs.length:=rfl
 have yu:cD x.abs=x.base+(x.entries.n:Int):=rfl
 have q1:x.abs.base=x.base:=rfl
 have q2:x.abs.entries=x.entries.xs:=rfl
 have fg: ∀q,x.entries.xs.getD q default=x.entries.at q:=fun _=>rfl
 have IW:=Sl.rd.ok hm
 have xE:=Sl.ok.nc IW
 have HR:m.n=m.xs.length:=rfl
 refine M0 ?_ func211
 refine Mp ?_ call113 (fun bs w hS=>lh x w (aJ.kp hx hS.kp))
 refine Md (cT x.abs=0) (fun h1=>?_) fun h1=>?_
 rotate_left
 ·refine My false false ?_ (df h1)
  refine My false false ?_ (df h1)
  refine My false true ?_ (df h1)
  have hm:de x.abs n m.xs=(iI,cT x.abs):=by grind[de]
  exact eE hm ⟨0,Sl.nil⟩ rfl fun bs w hS=>hS.aO (y:=(⟨0,Sl.nil⟩:dr)) (Sl.ao _ _)
 obtain⟨gU,gT,jB,nH⟩:=eb h1
 rw[q1]at gU gT
 rw[q2]at jB
 have GH: ∀z,z∈x.entries.xs→z.size≤9223372036854775807:=fun z hz=>Sl.rd.mem (s:=x.entries) hx z hz
 refine Mp ?_ call51 (fun bs w hS=>b6 n 0 1073741824 w)
 refine fL (gk n 0 1073741824) (fun h2=>?_) fun h2=>?_
 rotate_left
 ·simp only[iT,iF]at h2
  refine Mq 25 false ?_ rfl
  refine Mq 32 false ?_ rfl
  refine Mq 39 true ?_ rfl
  have hm:de x.abs n m.xs=(iI,2):=by
    unfold de;rw[if_neg (by simpa using (by assumption:cT _=0)),yu,q1,q2]
    first|rw[if_pos (by omega)]|rw[if_neg (by omega),if_pos (by omega)]|rw[if_neg (by omega),if_neg (by omega),if_pos (by omega)]|(rw[if_neg (by omega),if_neg (by omega),if_neg (by omega),if_neg (by simp),if_pos (by show 400<E.length;omega)])
    all_goals first|rfl|(exfalso;omega)
  exact eE hm ⟨0,Sl.nil⟩ rfl fun bs w hS=>hS.aO (y:=(⟨0,Sl.nil⟩:dr)) (Sl.ao _ _)
 simp only[iT,iF]at h2
 refine My true false ?_ (dt h1)
 refine Md ((400:Int)<(m.n:Int)) (fun h4=>?_) fun h4=>?_
 ·refine Mq 32 false ?_ rfl
  refine Mq 39 true ?_ rfl
  have hm:de x.abs n m.xs=(iI,1):=by
    unfold de;rw[if_neg (by simpa using (by assumption:cT _=0)),yu,q1,q2]
    first|rw[if_pos (by omega)]|rw[if_neg (by omega),if_pos (by omega)]|rw[if_neg (by omega),if_neg (by omega),if_pos (by omega)]|(rw[if_neg (by omega),if_neg (by omega),if_neg (by omega),if_neg (by simp),if_pos (by show 400<E.length;omega)])
    all_goals first|rfl|(exfalso;omega)
  exact eE hm ⟨0,Sl.nil⟩ rfl fun bs w hS=>hS.aO (y:=(⟨0,Sl.nil⟩:dr)) (Sl.ao _ _)
 refine My true false ?_ (dt h1)
 refine Mp ?_ call52 (fun bs w hS=>dD x w (aJ.kp hx hS.kp) (by first|exact⟨by omega,by omega,by omega⟩|omega))
 refine Md (x.base+(x.entries.n:Int)<n) (fun h6=>?_) fun h6=>?_
 ·refine Mq 39 true ?_ rfl
  have hm:de x.abs n m.xs=(iI,13):=by
    unfold de;rw[if_neg (by simpa using (by assumption:cT _=0)),yu,q1,q2]
    first|rw[if_pos (by omega)]|rw[if_neg (by omega),if_pos (by omega)]|rw[if_neg (by omega),if_neg (by omega),if_pos (by omega)]|(rw[if_neg (by omega),if_neg (by omega),if_neg (by omega),if_neg (by simp),if_pos (by show 400<E.length;omega)])
    all_goals first|rfl|(exfalso;omega)
  exact eE hm ⟨0,Sl.nil⟩ rfl fun bs w hS=>hS.aO (y:=(⟨0,Sl.nil⟩:dr)) (Sl.ao _ _)
 refine My true true ?_ (dt h1)
 refine Mf ?_ call46 (fun bs w hS=>rk x w (aJ.kp hx hS.kp) (by omega))
 rintro y1 a5
 obtain⟨A1,c1,rfl⟩:=Sl.wO a5
 refine eu (ay 9 A1 c1 (x.entries.xs:List ByteArray)) (List.Sublist.refl _) (fun w h=>h) ?_
 refine bk (F:=dY A1 c1 (x.entries.xs:List ByteArray)) (fun bs w hS=>br (hS.res _ i0)) fun cI=>?_
 have cn:=cI.2
 refine Ml (σ:=Nat×Option Addr×Nat×List ByteArray) (fun⟨i,A,c,E⟩=>i≤m.n∧eT x.entries.xs (n - x.base).toNat (m.xs.drop (x.base - n).toNat)=eT E ((n - x.base).toNat+(i - (x.base - n).toNat)) (m.xs.drop (max i (x.base - n).toNat))∧(n - x.base).toNat+(i - (x.base - n).toNat)≤E.length∧E.length≤400+i∧ ∀z,z∈E→z.size≤9223372036854775807) (fun⟨i,A,c,E⟩=>m.n - i) (fun⟨i,A,c,E⟩=>[ay 9 A c (E:List ByteArray)]) [10,9,6,3,1,2] (fun⟨i,A,c,E⟩=>[(10,vI (i:Int))]) (fun⟨i,A,c,E⟩=>[(2,[vI x.base,.v (.slice A E.length c)])]) ?_ (⟨0,A1,c1,x.entries.xs⟩) ⟨Nat.zero_le _,by rw[Nat.zero_max];simp,by omega,by omega,GH⟩
 rintro⟨i,A,c,E⟩ ⟨hi,hP,hE,Ph,tD⟩ _ bu
 refine bk (F:=dY A c (E:List ByteArray)) (fun bs w hS=>br (hS.res _ i0)) fun gb=>?_
 have Pj:=gb.2
 refine Md ((i:Int)<(m.n:Int)) (fun h8=>?_) fun h8=>?_
 rotate_left
 ·refine Md ((400:Int)<(E.length:Int)) (fun k7=>?_) fun k7=>?_
  rotate_left
  ·have Dg:eT x.entries.xs (n - x.base).toNat (m.xs.drop (x.base - n).toNat)=(E,0):=by rw[hP];exact jt (by omega)
   have hm:de x.abs n m.xs=(⟨x.base,E⟩,0):=by grind[de]
   exact eE hm ⟨x.base,⟨A,c,E⟩⟩ rfl fun bs w hS=>hS.aO (y:=(⟨x.base,⟨A,c,E⟩⟩:dr)) (a4 i0 (hS.res _ i0) tD)
  have Dg:eT x.entries.xs (n - x.base).toNat (m.xs.drop (x.base - n).toNat)=(E,0):=by rw[hP];exact jt (by omega)
  have hm:de x.abs n m.xs=(iI,8):=by
    unfold de;rw[if_neg (by simpa using (by assumption:cT _=0)),yu,q1,q2]
    first|rw[if_pos (by omega)]|rw[if_neg (by omega),if_pos (by omega)]|rw[if_neg (by omega),if_neg (by omega),if_pos (by omega)]|(rw[if_neg (by omega),if_neg (by omega),if_neg (by omega),Dg,if_neg (by simp),if_pos (by show 400<E.length;omega)])
    all_goals first|rfl|(exfalso;omega)
  exact eE hm ⟨0,Sl.nil⟩ rfl fun bs w hS=>hS.aO (y:=(⟨0,Sl.nil⟩:dr)) (Sl.ao _ _)
 refine Mi ?_ (pc (pR (n+(i:Int))) (pR ((n+(i:Int))+1)))
 refine Md ((n+(i:Int))+1≤x.base) (fun h9=>?_) fun h9=>?_
 ·refine Mi ?_ (pR ((i:Int)+1))
  exact bu ⟨i+1,A,c,E⟩ ⟨by omega,by rw[hP,show i+1 - (x.base - n).toNat=i - (x.base - n).toNat by omega,show max (i+1) (x.base - n).toNat=max i (x.base - n).toNat by omega],by omega,by omega,tD⟩ (by show m.n - (i+1)<m.n - i;omega)
 refine Mi ?_ (pA 61 62 (i:Int) i (db hm))
 refine Mp ?_ call31 (fun bs w hS=>ks (m.at i) w (Sl.ok.at (s:=m) (i:=i) IW (by omega)))
 refine cr ((aq (m.at i)).2=0) (fun ir=>?_) fun ir=>?_
 rotate_left
 ·have Dg:eT x.entries.xs (n - x.base).toNat (m.xs.drop (x.base - n).toNat)=([],(aq (m.at i)).2):=by rw[hP];rw[Nat.max_eq_left (by omega)];exact rQ (by omega) ir
  have hm:de x.abs n m.xs=(iI,(aq (m.at i)).2):=by grind[de]
  exact eE hm ⟨0,Sl.nil⟩ rfl fun bs w hS=>hS.aO (y:=(⟨0,Sl.nil⟩:dr)) (Sl.ao _ _)
 refine fP 20 ?_ ai
 refine Mp ?_ call52 (fun bs w hS=>dD (⟨x.base,⟨A,c,E⟩⟩:dr) w (Rr (hS.res _ i0) (fun _ _=>trivial) tD:Sl.rd bH w _) ⟨by omega,by omega,by show (E).length≤1048576;omega⟩)
 refine Md ((n+(i:Int))+1≤x.base+((E).length:Int)) (fun g7=>?_) fun g7=>?_
 rotate_left
 ·refine Mz ?_
  refine fP 14 ?_ ai
  refine bY ?_ (pc (pR (((n+(i:Int))+1) - x.base)) (pc (pR ((((n+(i:Int))+1) - x.base) - 1)) (pc (pG [(97,.sl 0 ((((n+(i:Int))+1) - x.base) - 1).toNat)] (oc (rfl:0=0) (oc ((by omega):(((n+(i:Int))+1) - x.base) - 1=((((((n+(i:Int))+1) - x.base) - 1).toNat:Nat):Int)) (oc ((by omega):((((n+(i:Int))+1) - x.base) - 1).toNat≤c) on)))) (pA 101 102 (i:Int) i (db hm)))))
  refine tw ?_ ?_
  ·refine bU (α:=ByteArray) 9 ?_
   refine Ma ?_ (α:=ByteArray) (L2:=(E).take ((((n+(i:Int))+1) - x.base) - 1).toNat) 16 (fun bs w hS=>fx.tZ (mE (hS.res _ i1)) (by omega)) (hn2:=(by rw[List.length_take];exact Nat.min_eq_left (by omega)))
   intro A7 c7
   refine eu (ay 9 A7 c7 ((E).take ((((n+(i:Int))+1) - x.base) - 1).toNat:List ByteArray)) (List.Sublist.refl _) (fun w h=>h) ?_
   refine M1 ?_ (hR:=(.cons _ (List.Sublist.refl _)))
   refine Mz ?_
   refine gX (α:=ByteArray) 16 ([(m.at i)]) ?_
   intro A8 c8
   refine Mi ?_ (pR ((i:Int)+1))
   refine CX (R':=[ay 9 A8 c8 ((E).take ((((n+(i:Int))+1) - x.base) - 1).toNat++[(m.at i)]:List ByteArray)]) (.cons_cons _ (.cons _ .slnil)) ?_
   exact bu ⟨i+1,A8,c8,(E).take ((((n+(i:Int))+1) - x.base) - 1).toNat++[(m.at i)]⟩ ⟨by omega,by rw[Nat.max_eq_left (show (x.base - n).toNat≤i+1 by omega),hP,Nat.max_eq_left (show (x.base - n).toNat≤i by omega),Pn (by omega) ir,fa (k:=(n - x.base).toNat+(i - (x.base - n).toNat)) (by rintro⟨GI,rb⟩;omega),show (n - x.base).toNat+(i - (x.base - n).toNat)+1=(n - x.base).toNat+(i+1 - (x.base - n).toNat) by omega];(rw[show (n - x.base).toNat+(i - (x.base - n).toNat)=((((n+(i:Int))+1) - x.base) - 1).toNat by omega]<;>rfl),by simp only[List.length_append,List.length_take,List.length_cons,List.length_nil];omega,by simp only[List.length_append,List.length_take,List.length_cons,List.length_nil];omega,fun z hz=>by simp only[List.nil_append,List.mem_append,List.mem_singleton]at hz;rcases hz with hz|hz;exact tD z (List.mem_of_mem_take hz);subst hz;exact dv ir⟩ (by show m.n - (i+1)<m.n - i;omega)
  refine M1 ?_
  refine bU (α:=ByteArray) 9 ?_
  refine Ma ?_ (α:=ByteArray) (L2:=(E).take ((((n+(i:Int))+1) - x.base) - 1).toNat) 16 (fun bs w hS=>fx.tZ (mE (hS.res _ i1)) (by omega)) (hn2:=(by rw[List.length_take];exact Nat.min_eq_left (by omega)))
  intro A9 c9
  refine eu (ay 9 A9 c9 ((E).take ((((n+(i:Int))+1) - x.base) - 1).toNat:List ByteArray)) (List.Sublist.refl _) (fun w h=>h) ?_
  refine Mz ?_
  refine gX (α:=ByteArray) 16 ([(m.at i)]) ?_
  intro NY NZ
  refine Mi ?_ (pR ((i:Int)+1))
  refine CX (R':=[ay 9 NY NZ ((E).take ((((n+(i:Int))+1) - x.base) - 1).toNat++[(m.at i)]:List ByteArray)]) (.cons_cons _ (.cons _ .slnil)) ?_
  exact bu ⟨i+1,NY,NZ,(E).take ((((n+(i:Int))+1) - x.base) - 1).toNat++[(m.at i)]⟩ ⟨by omega,by rw[Nat.max_eq_left (show (x.base - n).toNat≤i+1 by omega),hP,Nat.max_eq_left (show (x.base - n).toNat≤i by omega),Pn (by omega) ir,fa (k:=(n - x.base).toNat+(i - (x.base - n).toNat)) (by rintro⟨GI,rb⟩;omega),show (n - x.base).toNat+(i - (x.base - n).toNat)+1=(n - x.base).toNat+(i+1 - (x.base - n).toNat) by omega];(rw[show (n - x.base).toNat+(i - (x.base - n).toNat)=((((n+(i:Int))+1) - x.base) - 1).toNat by omega]<;>rfl),by simp only[List.length_append,List.length_take,List.length_cons,List.length_nil];omega,by simp only[List.length_append,List.length_take,List.length_cons,List.length_nil];omega,fun z hz=>by simp only[List.nil_append,List.mem_append,List.mem_singleton]at hz;rcases hz with hz|hz;exact tD z (List.mem_of_mem_take hz);subst hz;exact dv ir⟩ (by show m.n - (i+1)<m.n - i;omega)
 refine bY ?_ (pc (pR (((n+(i:Int))+1) - x.base)) (pc (pR ((((n+(i:Int))+1) - x.base) - 1)) (pc (fG 82 ((((n+(i:Int))+1) - x.base) - 1) ((((n+(i:Int))+1) - x.base) - 1).toNat E.length i0) (pc (C1 83 ((((n+(i:Int))+1) - x.base) - 1).toNat i0) (pA 86 87 (i:Int) i (db hm))))))
 refine Mz ?_
 refine Md ((E.getD ((((n+(i:Int))+1) - x.base) - 1).toNat default)=(m.at i)) (fun jW=>?_) fun jW=>?_
 ·refine Mi ?_ (pR ((i:Int)+1))
  exact bu ⟨i+1,A,c,E⟩ ⟨by omega,by rw[Nat.max_eq_left (show (x.base - n).toNat≤i+1 by omega),hP,Nat.max_eq_left (show (x.base - n).toNat≤i by omega),Pn (by omega) ir,n9 (k:=(n - x.base).toNat+(i - (x.base - n).toNat)) (by omega) (by rw[show (n - x.base).toNat+(i - (x.base - n).toNat)=((((n+(i:Int))+1) - x.base) - 1).toNat by omega];exact jW),show (n - x.base).toNat+(i - (x.base - n).toNat)+1=(n - x.base).toNat+(i+1 - (x.base - n).toNat) by omega],by omega,by omega,tD⟩ (by show m.n - (i+1)<m.n - i;omega)
 refine fP 14 ?_ ai
 refine bY ?_ (pc (pR (((n+(i:Int))+1) - x.base)) (pc (pR ((((n+(i:Int))+1) - x.base) - 1)) (pc (pG [(97,.sl 0 ((((n+(i:Int))+1) - x.base) - 1).toNat)] (oc (rfl:0=0) (oc ((by omega):(((n+(i:Int))+1) - x.base) - 1=((((((n+(i:Int))+1) - x.base) - 1).toNat:Nat):Int)) (oc ((by omega):((((n+(i:Int))+1) - x.base) - 1).toNat≤c) on)))) (pA 101 102 (i:Int) i (db hm)))))
 refine tw ?_ ?_
 ·refine bU (α:=ByteArray) 9 ?_
  refine Ma ?_ (α:=ByteArray) (L2:=(E).take ((((n+(i:Int))+1) - x.base) - 1).toNat) 16 (fun bs w hS=>fx.tZ (mE (hS.res _ i1)) (by omega)) (hn2:=(by rw[List.length_take];exact Nat.min_eq_left (by omega)))
  intro A3 c3
  refine eu (ay 9 A3 c3 ((E).take ((((n+(i:Int))+1) - x.base) - 1).toNat:List ByteArray)) (List.Sublist.refl _) (fun w h=>h) ?_
  refine M1 ?_ (hR:=(.cons _ (List.Sublist.refl _)))
  refine Mz ?_
  refine gX (α:=ByteArray) 16 ([(m.at i)]) ?_
  intro A4 c4
  refine Mi ?_ (pR ((i:Int)+1))
  refine CX (R':=[ay 9 A4 c4 ((E).take ((((n+(i:Int))+1) - x.base) - 1).toNat++[(m.at i)]:List ByteArray)]) (.cons_cons _ (.cons _ .slnil)) ?_
  exact bu ⟨i+1,A4,c4,(E).take ((((n+(i:Int))+1) - x.base) - 1).toNat++[(m.at i)]⟩ ⟨by omega,by rw[Nat.max_eq_left (show (x.base - n).toNat≤i+1 by omega),hP,Nat.max_eq_left (show (x.base - n).toNat≤i by omega),Pn (by omega) ir,fa (k:=(n - x.base).toNat+(i - (x.base - n).toNat)) (by rintro⟨GI,rb⟩;first|omega|(rw[show (n - x.base).toNat+(i - (x.base - n).toNat)=((((n+(i:Int))+1) - x.base) - 1).toNat by omega]at rb;exact jW rb)),show (n - x.base).toNat+(i - (x.base - n).toNat)+1=(n - x.base).toNat+(i+1 - (x.base - n).toNat) by omega];(rw[show (n - x.base).toNat+(i - (x.base - n).toNat)=((((n+(i:Int))+1) - x.base) - 1).toNat by omega]<;>rfl),by simp only[List.length_append,List.length_take,List.length_cons,List.length_nil];omega,by simp only[List.length_append,List.length_take,List.length_cons,List.length_nil];omega,fun z hz=>by simp only[List.nil_append,List.mem_append,List.mem_singleton]at hz;rcases hz with hz|hz;exact tD z (List.mem_of_mem_take hz);subst hz;exact dv ir⟩ (by show m.n - (i+1)<m.n - i;omega)
 refine M1 ?_
 refine bU (α:=ByteArray) 9 ?_
 refine Ma ?_ (α:=ByteArray) (L2:=(E).take ((((n+(i:Int))+1) - x.base) - 1).toNat) 16 (fun bs w hS=>fx.tZ (mE (hS.res _ i1)) (by omega)) (hn2:=(by rw[List.length_take];exact Nat.min_eq_left (by omega)))
 intro A5 c5
 refine eu (ay 9 A5 c5 ((E).take ((((n+(i:Int))+1) - x.base) - 1).toNat:List ByteArray)) (List.Sublist.refl _) (fun w h=>h) ?_
 refine Mz ?_
 refine gX (α:=ByteArray) 16 ([(m.at i)]) ?_
 intro A6 c6
 refine Mi ?_ (pR ((i:Int)+1))
 refine CX (R':=[ay 9 A6 c6 ((E).take ((((n+(i:Int))+1) - x.base) - 1).toNat++[(m.at i)]:List ByteArray)]) (.cons_cons _ (.cons _ .slnil)) ?_
 exact bu ⟨i+1,A6,c6,(E).take ((((n+(i:Int))+1) - x.base) - 1).toNat++[(m.at i)]⟩ ⟨by omega,by rw[Nat.max_eq_left (show (x.base - n).toNat≤i+1 by omega),hP,Nat.max_eq_left (show (x.base - n).toNat≤i by omega),Pn (by omega) ir,fa (k:=(n - x.base).toNat+(i - (x.base - n).toNat)) (by rintro⟨GI,rb⟩;first|omega|(rw[show (n - x.base).toNat+(i - (x.base - n).toNat)=((((n+(i:Int))+1) - x.base) - 1).toNat by omega]at rb;exact jW rb)),show (n - x.base).toNat+(i - (x.base - n).toNat)+1=(n - x.base).toNat+(i+1 - (x.base - n).toNat) by omega];(rw[show (n - x.base).toNat+(i - (x.base - n).toNat)=((((n+(i:Int))+1) - x.base) - 1).toNat by omega]<;>rfl),by simp only[List.length_append,List.length_take,List.length_cons,List.length_nil];omega,by simp only[List.length_append,List.length_take,List.length_cons,List.length_nil];omega,fun z hz=>by simp only[List.nil_append,List.mem_append,List.mem_singleton]at hz;rcases hz with hz|hz;exact tD z (List.mem_of_mem_take hz);subst hz;exact dv ir⟩ (by show m.n - (i+1)<m.n - i;omega)
theorem dJ (q:RQ)(b:Nat)(w:World)(hb:(bh b 238 [vs q.1,vi q.2]).p w)(hz:q.1.size≤9223372036854775807):Calls prog 222 #[.pointer (some (⟨b,0,none⟩:Addr))] w fun e w'=> ∃_:Unit,e=.returned (vi (ah q).1)∧True∧Kp [b] w w'∧(bh b 238 [vs (ah q).2.1,vi (ah q).2.2]).p w':=by
 have SO:=eH q.1
 refine Mj ?_ func222 (WS.eG w _ hb (by simp[bh]) (gm hb))
 refine Mi ?_ (nI 9 1 1 i0)
 refine cr (q.2=0) (fun h1=>?_) fun h1=>?_
 rotate_left
 ·refine Mt [vi 0] fun bs w hS=>?_
  have hm:ah q=(0,q):=by grind[ah]
  rw[hm]
  exact⟨(),rfl,trivial,hS.kp,hS.res _ i0⟩
 refine Mi ?_ (nI 15 0 1 i0)
 refine Mp ?_ call132 (fun bs w hS=>ez _ w hz)
 refine rz 0 [vs (bf q.1).2.1,vi q.2] ?_
 refine rz 1 [vs (bf q.1).2.1,vi (bf q.1).2.2] ?_
 refine Mt [vi (bf q.1).1] fun bs w hS=>?_
 have hm:ah q=((bf q.1).1,((bf q.1).2.1,(bf q.1).2.2)):=by grind[ah]
 rw[hm]
 exact⟨(),rfl,trivial,hS.kp,hS.res _ i0⟩
theorem nn (q:RQ)(b:Nat)(w:World)(hb:(bh b 238 [vs q.1,vi q.2]).p w)(hz:q.1.size≤9223372036854775807):Calls prog 225 #[.pointer (some (⟨b,0,none⟩:Addr))] w fun e w'=> ∃_:Unit,e=.returned (vs (bw q).1)∧True∧Kp [b] w w'∧(bh b 238 [vs (bw q).2.1,vi (bw q).2.2]).p w':=by
 refine Mj ?_ func225 (WS.eG w _ hb (by simp[bh]) (gm hb))
 refine Mi ?_ (nI 9 1 1 i0)
 refine cr (q.2=0) (fun h1=>?_) fun h1=>?_
 rotate_left
 ·refine Mt [ve] fun bs w hS=>?_
  have hm:bw q=(emp,q):=by grind[bw]
  rw[hm]
  exact⟨(),rfl,trivial,hS.kp,hS.res _ i0⟩
 refine Mi ?_ (nI 15 0 1 i0)
 refine Mp ?_ call133 (fun bs w hS=>lP _ w hz)
 refine rz 0 [vs (dK q.1).2.1,vi q.2] ?_
 refine rz 1 [vs (dK q.1).2.1,vi (dK q.1).2.2] ?_
 refine Mt [vs (dK q.1).1] fun bs w hS=>?_
 have hm:bw q=((dK q.1).1,((dK q.1).2.1,(dK q.1).2.2)):=by grind[bw]
 rw[hm]
 exact⟨(),rfl,trivial,hS.kp,hS.res _ i0⟩
theorem lX (q:RQ)(m:Int)(b:Nat)(w:World)(hb:(bh b 238 [vs q.1,vi q.2]).p w)(hz:q.1.size≤9223372036854775807):Calls prog 223 #[.pointer (some (⟨b,0,none⟩:Addr)),vi m] w fun e w'=> ∃_:Unit,e=.returned (vi (al m q).1)∧True∧Kp [b] w w'∧(bh b 238 [vs (al m q).2.1,vi (al m q).2.2]).p w':=by
 refine Mj ?_ func223 (WS.eG w _ hb (by simp[bh]) (gm hb))
 refine yJ ?_ call222 (fun bs w hS=>dJ q b w (hS.res _ i0) hz)
 rintro y _
 refine Mi ?_ (nI 11 1 1 i0)
 refine Md ((ah q).2.2=0) (fun h1=>?_) fun h1=>?_
 rotate_left
 ·refine Mi ?_ (nI 24 1 1 i0)
  refine My false true ?_ (df h1)
  refine Mt [vi 0] fun bs w hS=>?_
  have hm:al m q=(0,(ah q).2):=by grind[al]
  rw[hm]
  exact⟨(),rfl,trivial,hS.kp,hS.res _ i0⟩
 refine Md (m<(ah q).1) (fun h2=>?_) fun h2=>?_
 rotate_left
 ·refine Mi ?_ (nI 24 1 1 i0)
  refine My true true ?_ (dt h1)
  refine Mt [vi (ah q).1] fun bs w hS=>?_
  have hm:al m q=ah q:=by grind[al]
  rw[hm]
  exact⟨(),rfl,trivial,hS.kp,hS.res _ i0⟩
 refine rz 1 [vs (ah q).2.1,vi 1] ?_
 refine Mi ?_ (nI 24 1 1 i0)
 refine Mq 25 true ?_ rfl
 refine Mt [vi 0] fun bs w hS=>?_
 have hm:al m q=(0,((ah q).2.1,1)):=by grind[al]
 rw[hm]
 exact⟨(),rfl,trivial,hS.kp,hS.res _ i0⟩
theorem iD (q:RQ)(b:Nat)(w:World)(hb:(bh b 210 [vs q.1,vi q.2]).p w)(hz:q.1.size≤9223372036854775807):Calls prog 159 #[.pointer (some (⟨b,0,none⟩:Addr))] w fun e w'=> ∃_:Unit,e=.returned (vi (ah q).1)∧True∧Kp [b] w w'∧(bh b 210 [vs (ah q).2.1,vi (ah q).2.2]).p w':=by
 have SO:=eH q.1
 refine Mj ?_ func159 (WS.eG w _ hb (by simp[bh]) (gm hb))
 refine Mi ?_ (nI 9 1 1 i0)
 refine cr (q.2=0) (fun h1=>?_) fun h1=>?_
 rotate_left
 ·refine Mt [vi 0] fun bs w hS=>?_
  have hm:ah q=(0,q):=by grind[ah]
  rw[hm]
  exact⟨(),rfl,trivial,hS.kp,hS.res _ i0⟩
 refine Mi ?_ (nI 15 0 1 i0)
 refine Mp ?_ call95 (fun bs w hS=>gL _ w hz)
 refine rz 0 [vs (bf q.1).2.1,vi q.2] ?_
 refine rz 1 [vs (bf q.1).2.1,vi (bf q.1).2.2] ?_
 refine Mt [vi (bf q.1).1] fun bs w hS=>?_
 have hm:ah q=((bf q.1).1,((bf q.1).2.1,(bf q.1).2.2)):=by grind[ah]
 rw[hm]
 exact⟨(),rfl,trivial,hS.kp,hS.res _ i0⟩
theorem tE (q:RQ)(b:Nat)(w:World)(hb:(bh b 210 [vs q.1,vi q.2]).p w)(hz:q.1.size≤9223372036854775807):Calls prog 161 #[.pointer (some (⟨b,0,none⟩:Addr))] w fun e w'=> ∃_:Unit,e=.returned (vs (bw q).1)∧True∧Kp [b] w w'∧(bh b 210 [vs (bw q).2.1,vi (bw q).2.2]).p w':=by
 refine Mj ?_ func161 (WS.eG w _ hb (by simp[bh]) (gm hb))
 refine Mi ?_ (nI 9 1 1 i0)
 refine cr (q.2=0) (fun h1=>?_) fun h1=>?_
 rotate_left
 ·refine Mt [ve] fun bs w hS=>?_
  have hm:bw q=(emp,q):=by grind[bw]
  rw[hm]
  exact⟨(),rfl,trivial,hS.kp,hS.res _ i0⟩
 refine Mi ?_ (nI 15 0 1 i0)
 refine Mp ?_ call96 (fun bs w hS=>pV _ w hz)
 refine rz 0 [vs (dK q.1).2.1,vi q.2] ?_
 refine rz 1 [vs (dK q.1).2.1,vi (dK q.1).2.2] ?_
 refine Mt [vs (dK q.1).1] fun bs w hS=>?_
 have hm:bw q=((dK q.1).1,((dK q.1).2.1,(dK q.1).2.2)):=by grind[bw]
 rw[hm]
 exact⟨(),rfl,trivial,hS.kp,hS.res _ i0⟩
theorem oD (q:RQ)(m:Int)(b:Nat)(w:World)(hb:(bh b 210 [vs q.1,vi q.2]).p w)(hz:q.1.size≤9223372036854775807):Calls prog 160 #[.pointer (some (⟨b,0,none⟩:Addr)),vi m] w fun e w'=> ∃_:Unit,e=.returned (vi (al m q).1)∧True∧Kp [b] w w'∧(bh b 210 [vs (al m q).2.1,vi (al m q).2.2]).p w':=by
 refine Mj ?_ func160 (WS.eG w _ hb (by simp[bh]) (gm hb))
 refine yJ ?_ call159 (fun bs w hS=>iD q b w (hS.res _ i0) hz)
 rintro y _
 refine Mi ?_ (nI 11 1 1 i0)
 refine Md ((ah q).2.2=0) (fun h1=>?_) fun h1=>?_
 rotate_left
 ·refine Mi ?_ (nI 24 1 1 i0)
  refine My false true ?_ (df h1)
  refine Mt [vi 0] fun bs w hS=>?_
  have hm:al m q=(0,(ah q).2):=by grind[al]
  rw[hm]
  exact⟨(),rfl,trivial,hS.kp,hS.res _ i0⟩
 refine Md (m<(ah q).1) (fun h2=>?_) fun h2=>?_
 rotate_left
 ·refine Mi ?_ (nI 24 1 1 i0)
  refine My true true ?_ (dt h1)
  refine Mt [vi (ah q).1] fun bs w hS=>?_
  have hm:al m q=ah q:=by grind[al]
  rw[hm]
  exact⟨(),rfl,trivial,hS.kp,hS.res _ i0⟩
 refine rz 1 [vs (ah q).2.1,vi 1] ?_
 refine Mi ?_ (nI 24 1 1 i0)
 refine Mq 25 true ?_ rfl
 refine Mt [vi 0] fun bs w hS=>?_
 have hm:al m q=(0,((ah q).2.1,1)):=by grind[al]
 rw[hm]
 exact⟨(),rfl,trivial,hS.kp,hS.res _ i0⟩
theorem Ez (q:RQ)(b:Nat)(w:World)(hb:(bh b 238 [vs q.1,vi q.2]).p w)(hz:q.1.size≤9223372036854775807):Calls prog 224 #[.pointer (some (⟨b,0,none⟩:Addr))] w fun e w'=> ∃y:ae,e=.returned y.val∧(y.abs=(bG q).1∧y.name.size≤9223372036854775807)∧jb (bh b 238 [vs q.1,vi q.2]) w w' (bh b 238 [vs (bG q).2.1,vi (bG q).2.2]) (bM 3 y):=by
 refine Mj ?_ func224 (WS.eG w _ hb (by simp[bh]) (gm hb))
 refine yJ ?_ call225 (fun bs w hS=>nn q b w (hS.res _ i0) hz)
 rintro y _
 refine yJ ?_ call222 (fun bs w hS=>dJ (bw q).2 b w (hS.res _ i0) (cW q _ hz).1)
 rintro y _
 refine yJ ?_ call222 (fun bs w hS=>dJ (ah (bw q).2).2 b w (hS.res _ i0) (aP (bw q).2 _ (cW q _ hz).1))
 rintro y _
 refine yJ ?_ call223 (fun bs w hS=>lX (ah (ah (bw q).2).2).2 3 b w (hS.res _ i0) (aP (ah (bw q).2).2 _ (aP (bw q).2 _ (cW q _ hz).1)))
 rintro y _
 have SP:=kq 3 (by decide) (ah (ah (bw q).2).2).2
 refine bU (α:=Int) 3 ?_
 refine Ml (σ:=Nat×Option Addr×Nat) (fun⟨i0,iG,iH⟩=>i0≤(al 3 (ah (ah (bw q).2).2).2).1.toNat) (fun⟨i0,iG,iH⟩=>(al 3 (ah (ah (bw q).2).2).2).1.toNat - i0) (fun⟨i0,iG,iH⟩=>[ay 3 iG iH ((ax ah i0 (al 3 (ah (ah (bw q).2).2).2).2).1:List Int),bh b 238 [vs (ax ah i0 (al 3 (ah (ah (bw q).2).2).2).2).2.1,vi (ax ah i0 (al 3 (ah (ah (bw q).2).2).2).2).2.2]]) [13,12,3,2,0] (fun⟨i0,iG,iH⟩=>[(13,vI (i0:Int))]) (fun⟨i0,iG,iH⟩=>[(1,[vS (bw q).1,vI (ah (bw q).2).1,vI (ah (ah (bw q).2).2).1,.v (.slice iG ((ax ah i0 (al 3 (ah (ah (bw q).2).2).2).2).1).length iH)])]) ?_ (⟨0,none,0⟩) (Nat.zero_le _)
 rintro⟨i0,iG,iH⟩ Po _ bu
 have Pp:(ax ah i0 (al 3 (ah (ah (bw q).2).2).2).2).1.length=i0:=by exact er _ _ _
 refine Md ((i0:Int)<(al 3 (ah (ah (bw q).2).2).2).1) (fun h1=>?_) fun h1=>?_
 rotate_left
 ·have vt:i0=(al 3 (ah (ah (bw q).2).2).2).1.toNat:=by omega
  subst vt
  refine Mt [.agg #[vs (bw q).1,vi (ah (bw q).2).1,vi (ah (ah (bw q).2).2).1,.slice iG ((ax ah (al 3 (ah (ah (bw q).2).2).2).1.toNat (al 3 (ah (ah (bw q).2).2).2).2).1).length iH]] fun bs w hS=>?_
  have j1:=hS.f1
  exact⟨(⟨(bw q).1,(ah (bw q).2).1,(ah (ah (bw q).2).2).1,⟨iG,iH,(ax ah (al 3 (ah (ah (bw q).2).2).2).1.toNat (al 3 (ah (ah (bw q).2).2).2).2).1⟩⟩:ae),rfl,⟨rfl,(cW q _ hz).2⟩,(j1.jc (fun _ h=>h)).as (ua _ _) (n0 _)⟩
 refine cZ 5 [] [] [ay 3 iG iH ((ax ah i0 (al 3 (ah (ah (bw q).2).2).2).2).1:List Int)] ai ?_ (hR:=(.cons_cons _ (.cons _ .slnil)))
 refine cb ?_
 refine nF ?_ (v:=fun _=>vi (ah (ax ah i0 (al 3 (ah (ah (bw q).2).2).2).2).2).1) call222 (fun bs w hS=>(dJ (ax ah i0 (al 3 (ah (ah (bw q).2).2).2).2).2 b w (hS.res _ (.head _)) (bp (B:=9223372036854775807) (fun q h=>aP q _ h) i0 (al 3 (ah (ah (bw q).2).2).2).2 (bt 3 (ah (ah (bw q).2).2).2 _ (aP (ah (bw q).2).2 _ (aP (bw q).2 _ (cW q _ hz).1))))).mono (fun e w' ⟨y,h1,h2,h3,h4⟩=>⟨y,h1,h2,h3,h4,(by simp[bh]),fun x hx=>.inl hx⟩))
 rintro y _
 refine M1 ?_ (hR:=(.cons _ (List.Sublist.refl _)))
 refine Mz ?_
 refine cb ?_
 refine gX (α:=Int) 8 ([(ah (ax ah i0 (al 3 (ah (ah (bw q).2).2).2).2).2).1]) ?_
 intro A7 c7
 refine Mi ?_ (pR ((i0:Int)+1))
 refine cb (cb ?_)
 exact bu ⟨i0+1,A7,c7⟩ (by show i0+1≤(al 3 (ah (ah (bw q).2).2).2).1.toNat;omega) (by show (al 3 (ah (ah (bw q).2).2).2).1.toNat - (i0+1)<(al 3 (ah (ah (bw q).2).2).2).1.toNat - i0;omega)
theorem yA (q:RQ)(b:Nat)(w:World)(hb:(bh b 238 [vs q.1,vi q.2]).p w)(hz:q.1.size≤9223372036854775807):Calls prog 226 #[.pointer (some (⟨b,0,none⟩:Addr))] w fun e w'=> ∃y:aa,e=.returned y.val∧(y.abs=(aX q).1∧ ∀k,k∈y.ab.xs→k.aE.text.size≤9223372036854775807)∧jb (bh b 238 [vs q.1,vi q.2]) w w' (bh b 238 [vs (aX q).2.1,vi (aX q).2.2]) (cj 141 y):=by
 refine Mj ?_ func226 (WS.eG w _ hb (by simp[bh]) (gm hb))
 refine yJ ?_ call222 (fun bs w hS=>dJ q b w (hS.res _ i0) hz)
 rintro y _
 refine yJ ?_ call222 (fun bs w hS=>dJ (ah q).2 b w (hS.res _ i0) (aP q _ hz))
 rintro y _
 refine yJ ?_ call222 (fun bs w hS=>dJ (ah (ah q).2).2 b w (hS.res _ i0) (aP (ah q).2 _ (aP q _ hz)))
 rintro y _
 refine yJ ?_ call222 (fun bs w hS=>dJ (ah (ah (ah q).2).2).2 b w (hS.res _ i0) (aP (ah (ah q).2).2 _ (aP (ah q).2 _ (aP q _ hz))))
 rintro y _
 refine yJ ?_ call223 (fun bs w hS=>lX (ah (ah (ah (ah q).2).2).2).2 4 b w (hS.res _ i0) (aP (ah (ah (ah q).2).2).2 _ (aP (ah (ah q).2).2 _ (aP (ah q).2 _ (aP q _ hz)))))
 rintro y _
 have SQ:=kq 4 (by decide) (ah (ah (ah (ah q).2).2).2).2
 refine bU (α:=aK) 141 ?_
 refine Ml (σ:=Nat×Option Addr×Nat) (fun⟨i0,iG,iH⟩=>i0≤(al 4 (ah (ah (ah (ah q).2).2).2).2).1.toNat∧ ∀x,x∈(ax ca i0 (al 4 (ah (ah (ah (ah q).2).2).2).2).2).1→x.aE.text.size≤9223372036854775807) (fun⟨i0,iG,iH⟩=>(al 4 (ah (ah (ah (ah q).2).2).2).2).1.toNat - i0) (fun⟨i0,iG,iH⟩=>[ay 141 iG iH ((ax ca i0 (al 4 (ah (ah (ah (ah q).2).2).2).2).2).1:List aK),bh b 238 [vs (ax ca i0 (al 4 (ah (ah (ah (ah q).2).2).2).2).2).2.1,vi (ax ca i0 (al 4 (ah (ah (ah (ah q).2).2).2).2).2).2.2]]) [15,14,3,2,0] (fun⟨i0,iG,iH⟩=>[(15,vI (i0:Int))]) (fun⟨i0,iG,iH⟩=>[(1,[vI (ah q).1,vI (ah (ah q).2).1,vI (ah (ah (ah q).2).2).1,vI (ah (ah (ah (ah q).2).2).2).1,.v (.slice iG ((ax ca i0 (al 4 (ah (ah (ah (ah q).2).2).2).2).2).1).length iH)])]) ?_ (⟨0,none,0⟩) ⟨(Nat.zero_le _),(fun x hx=>by cases hx)⟩
 rintro⟨i0,iG,iH⟩ ⟨Po,Hf⟩ _ bu
 have Pp:(ax ca i0 (al 4 (ah (ah (ah (ah q).2).2).2).2).2).1.length=i0:=by exact er _ _ _
 refine Md ((i0:Int)<(al 4 (ah (ah (ah (ah q).2).2).2).2).1) (fun h1=>?_) fun h1=>?_
 rotate_left
 ·have vt:i0=(al 4 (ah (ah (ah (ah q).2).2).2).2).1.toNat:=by omega
  subst vt
  refine Mt [.agg #[vi (ah q).1,vi (ah (ah q).2).1,vi (ah (ah (ah q).2).2).1,vi (ah (ah (ah (ah q).2).2).2).1,.slice iG ((ax ca (al 4 (ah (ah (ah (ah q).2).2).2).2).1.toNat (al 4 (ah (ah (ah (ah q).2).2).2).2).2).1).length iH]] fun bs w hS=>?_
  have j1:=hS.f1
  exact⟨(⟨(ah q).1,(ah (ah q).2).1,(ah (ah (ah q).2).2).1,(ah (ah (ah (ah q).2).2).2).1,⟨iG,iH,(ax ca (al 4 (ah (ah (ah (ah q).2).2).2).2).1.toNat (al 4 (ah (ah (ah (ah q).2).2).2).2).2).1⟩⟩:aa),rfl,⟨rfl,Hf⟩,(j1.jc (fun _ h=>h)).as (ua _ _) (n0 _)⟩
 refine cZ 13 [] [] [ay 141 iG iH ((ax ca i0 (al 4 (ah (ah (ah (ah q).2).2).2).2).2).1:List aK)] ai ?_ (hR:=(.cons_cons _ (.cons _ .slnil)))
 refine cb ?_
 refine nF ?_ (v:=fun _=>vi (ah (ax ca i0 (al 4 (ah (ah (ah (ah q).2).2).2).2).2).2).1) call222 (fun bs w hS=>(dJ (ax ca i0 (al 4 (ah (ah (ah (ah q).2).2).2).2).2).2 b w (hS.res _ (.head _)) (bp (B:=9223372036854775807) (fun q h=>hZ q _ h) i0 (al 4 (ah (ah (ah (ah q).2).2).2).2).2 (bt 4 (ah (ah (ah (ah q).2).2).2).2 _ (aP (ah (ah (ah q).2).2).2 _ (aP (ah (ah q).2).2 _ (aP (ah q).2 _ (aP q _ hz))))))).mono (fun e w' ⟨y,h1,h2,h3,h4⟩=>⟨y,h1,h2,h3,h4,(by simp[bh]),fun x hx=>.inl hx⟩))
 rintro y _
 refine nF ?_ (v:=fun _=>vi (ah (ah (ax ca i0 (al 4 (ah (ah (ah (ah q).2).2).2).2).2).2).2).1) call222 (fun bs w hS=>(dJ (ah (ax ca i0 (al 4 (ah (ah (ah (ah q).2).2).2).2).2).2).2 b w (hS.res _ (.head _)) (aP (ax ca i0 (al 4 (ah (ah (ah (ah q).2).2).2).2).2).2 _ (bp (B:=9223372036854775807) (fun q h=>hZ q _ h) i0 (al 4 (ah (ah (ah (ah q).2).2).2).2).2 (bt 4 (ah (ah (ah (ah q).2).2).2).2 _ (aP (ah (ah (ah q).2).2).2 _ (aP (ah (ah q).2).2 _ (aP (ah q).2 _ (aP q _ hz)))))))).mono (fun e w' ⟨y,h1,h2,h3,h4⟩=>⟨y,h1,h2,h3,h4,(by simp[bh]),fun x hx=>.inl hx⟩))
 rintro y _
 refine nF ?_ (v:=fun _=>vi (ah (ah (ah (ax ca i0 (al 4 (ah (ah (ah (ah q).2).2).2).2).2).2).2).2).1) call222 (fun bs w hS=>(dJ (ah (ah (ax ca i0 (al 4 (ah (ah (ah (ah q).2).2).2).2).2).2).2).2 b w (hS.res _ (.head _)) (aP (ah (ax ca i0 (al 4 (ah (ah (ah (ah q).2).2).2).2).2).2).2 _ (aP (ax ca i0 (al 4 (ah (ah (ah (ah q).2).2).2).2).2).2 _ (bp (B:=9223372036854775807) (fun q h=>hZ q _ h) i0 (al 4 (ah (ah (ah (ah q).2).2).2).2).2 (bt 4 (ah (ah (ah (ah q).2).2).2).2 _ (aP (ah (ah (ah q).2).2).2 _ (aP (ah (ah q).2).2 _ (aP (ah q).2 _ (aP q _ hz))))))))).mono (fun e w' ⟨y,h1,h2,h3,h4⟩=>⟨y,h1,h2,h3,h4,(by simp[bh]),fun x hx=>.inl hx⟩))
 rintro y _
 refine nF ?_ (v:=fun _=>vs (bw (ah (ah (ah (ax ca i0 (al 4 (ah (ah (ah (ah q).2).2).2).2).2).2).2).2).2).1) call225 (fun bs w hS=>(nn (ah (ah (ah (ax ca i0 (al 4 (ah (ah (ah (ah q).2).2).2).2).2).2).2).2).2 b w (hS.res _ (.head _)) (aP (ah (ah (ax ca i0 (al 4 (ah (ah (ah (ah q).2).2).2).2).2).2).2).2 _ (aP (ah (ax ca i0 (al 4 (ah (ah (ah (ah q).2).2).2).2).2).2).2 _ (aP (ax ca i0 (al 4 (ah (ah (ah (ah q).2).2).2).2).2).2 _ (bp (B:=9223372036854775807) (fun q h=>hZ q _ h) i0 (al 4 (ah (ah (ah (ah q).2).2).2).2).2 (bt 4 (ah (ah (ah (ah q).2).2).2).2 _ (aP (ah (ah (ah q).2).2).2 _ (aP (ah (ah q).2).2 _ (aP (ah q).2 _ (aP q _ hz)))))))))).mono (fun e w' ⟨y,h1,h2,h3,h4⟩=>⟨y,h1,h2,h3,h4,(by simp[bh]),fun x hx=>.inl hx⟩))
 rintro y _
 refine M1 ?_ (hR:=(.cons _ (List.Sublist.refl _)))
 refine Mz ?_
 refine cb ?_
 refine gX (α:=aK) 40 ([(⟨(ah (ax ca i0 (al 4 (ah (ah (ah (ah q).2).2).2).2).2).2).1,⟨(ah (ah (ax ca i0 (al 4 (ah (ah (ah (ah q).2).2).2).2).2).2).2).1,(ah (ah (ah (ax ca i0 (al 4 (ah (ah (ah (ah q).2).2).2).2).2).2).2).2).1,(bw (ah (ah (ah (ax ca i0 (al 4 (ah (ah (ah (ah q).2).2).2).2).2).2).2).2).2).1⟩⟩:aK)]) ?_
 intro EX EY
 refine Mi ?_ (pR ((i0:Int)+1))
 refine cb (cb ?_)
 exact bu ⟨i0+1,EX,EY⟩ ⟨(by show i0+1≤(al 4 (ah (ah (ah (ah q).2).2).2).2).1.toNat;omega),(fun x hx=>by rcases List.mem_append.1 hx with hx|hx;exact Hf x hx;rw[List.mem_singleton]at hx;subst hx;exact (cW (ah (ah (ah (ax ca i0 (al 4 (ah (ah (ah (ah q).2).2).2).2).2).2).2).2).2 _ (aP (ah (ah (ax ca i0 (al 4 (ah (ah (ah (ah q).2).2).2).2).2).2).2).2 _ (aP (ah (ax ca i0 (al 4 (ah (ah (ah (ah q).2).2).2).2).2).2).2 _ (aP (ax ca i0 (al 4 (ah (ah (ah (ah q).2).2).2).2).2).2 _ (bp (B:=9223372036854775807) (fun q h=>hZ q _ h) i0 (al 4 (ah (ah (ah (ah q).2).2).2).2).2 (bt 4 (ah (ah (ah (ah q).2).2).2).2 _ (aP (ah (ah (ah q).2).2).2 _ (aP (ah (ah q).2).2 _ (aP (ah q).2 _ (aP q _ hz)))))))))).2)⟩ (by show (al 4 (ah (ah (ah (ah q).2).2).2).2).1.toNat - (i0+1)<(al 4 (ah (ah (ah (ah q).2).2).2).2).1.toNat - i0;omega)
theorem B8 (q:RQ)(b:Nat)(w:World)(hb:(bh b 238 [vs q.1,vi q.2]).p w)(hz:q.1.size≤9223372036854775807):Calls prog 199 #[.pointer (some (⟨b,0,none⟩:Addr))] w fun e w'=> ∃y:List Nat×aN,e=.returned y.2.val∧(y.2.abs=(ep q).1∧(∀x,x∈y.2.aj.xs→x.name.size≤9223372036854775807)∧(∀x,x∈y.2.an.xs→x.name.size≤9223372036854775807∧x.value.size≤9223372036854775807)∧ ∀x,x∈y.2.af.xs→ ∀k,k∈x.ab.xs→k.aE.text.size≤9223372036854775807)∧jb (bh b 238 [vs q.1,vi q.2]) w w' (bh b 238 [vs (ep q).2.1,vi (ep q).2.2]) (bF y.1 y.2):=by
 refine Mj ?_ func199 (WS.eG w _ hb (by simp[bh]) (gm hb))
 refine yJ ?_ call222 (fun bs w hS=>dJ q b w (hS.res _ i0) hz)
 rintro y _
 refine yJ ?_ call223 (fun bs w hS=>lX (ah q).2 5 b w (hS.res _ i0) (aP q _ hz))
 rintro y _
 have Pq:=kq 5 (by decide) (ah q).2
 refine bU (α:=ae) 115 ?_
 refine gK (bI (bM 3) []) rfl (fun w x hx=>by cases hx) ?_
 refine Ml (σ:=Nat×Option Addr×Nat×List ae) (fun⟨i0,iG,iH,M0⟩=>i0≤(al 5 (ah q).2).1.toNat∧M0.map ae.abs=(ax bG i0 (al 5 (ah q).2).2).1∧ ∀x,x∈M0→x.name.size≤9223372036854775807) (fun⟨i0,iG,iH,M0⟩=>(al 5 (ah q).2).1.toNat - i0) (fun⟨i0,iG,iH,M0⟩=>[bI (bM 3) M0,ay 115 iG iH (M0:List ae),bh b 238 [vs (ax bG i0 (al 5 (ah q).2).2).2.1,vi (ax bG i0 (al 5 (ah q).2).2).2.2]]) [9,8,3,2,0] (fun⟨i0,iG,iH,M0⟩=>[(9,vI (i0:Int))]) (fun⟨i0,iG,iH,M0⟩=>[(1,[vI (ah q).1,.v (.slice iG M0.length iH),.v vn,.v vn])]) ?_ (⟨0,none,0,[]⟩) ⟨(Nat.zero_le _),rfl,(fun x hx=>by cases hx)⟩
 rintro⟨i0,iG,iH,M0⟩ ⟨Po,IY,Hf⟩ _ bu
 have Pp:M0.length=i0:=by have h9:=congrArg List.length IY;rw[List.length_map,er]at h9;exact h9
 refine Md ((i0:Int)<(al 5 (ah q).2).1) (fun h1=>?_) fun h1=>?_
 ·refine cZ 5 [] [] [bI (bM 3) M0,ay 115 iG iH (M0:List ae)] ai ?_ (hR:=(.cons_cons _ (.cons_cons _ (.cons _ .slnil))))
  refine cL ?_
  refine Qy ?_ call224 (fun bs w hS=>Ez (ax bG i0 (al 5 (ah q).2).2).2 b w (hS.res _ (.head _)) (bp (B:=9223372036854775807) (fun q h=>jK q _ h) i0 (al 5 (ah q).2).2 (bt 5 (ah q).2 _ (aP q _ hz)))) (hR:=fun _=>(.cons _ (.cons _ (List.Sublist.refl _))))
  rintro y4 GJ
  refine M1 ?_ (hR:=(.cons _ (.cons _ (List.Sublist.refl _))))
  refine Mz ?_
  refine jZ ?_
  refine gX (α:=ae) 56 ([(⟨y4.name,y4.ar,y4.aA,y4.line⟩:ae)]) ?_
  intro A5 c5
  refine Mi ?_ (pR ((i0:Int)+1))
  refine jZ ?_
  refine cL ?_
  refine fc (bI (bM 3) (M0++[(⟨y4.name,y4.ar,y4.aA,y4.line⟩:ae)])) (gD (bM 3) M0 (⟨y4.name,y4.ar,y4.aA,y4.line⟩:ae)) (fun w=>g9 (bM 3) M0 (⟨y4.name,y4.ar,y4.aA,y4.line⟩:ae) w) ?_
  refine cL (cL (cL ?_))
  exact bu ⟨i0+1,A5,c5,M0++[(⟨y4.name,y4.ar,y4.aA,y4.line⟩:ae)]⟩ ⟨(by show i0+1≤(al 5 (ah q).2).1.toNat;omega),(by rw[List.map_append,IY];exact congrArg (fun z=>(ax bG i0 (al 5 (ah q).2).2).1++[z]) (show ae.abs (⟨y4.name,y4.ar,y4.aA,y4.line⟩:ae)=(bG (ax bG i0 (al 5 (ah q).2).2).2).1 from GJ.1)),(fun x hx=>by rcases List.mem_append.1 hx with hx|hx;exact Hf x hx;rw[List.mem_singleton]at hx;subst hx;exact GJ.2)⟩ (by show (al 5 (ah q).2).1.toNat - (i0+1)<(al 5 (ah q).2).1.toNat - i0;omega)
 have vt:i0=(al 5 (ah q).2).1.toNat:=by omega
 subst vt
 have p6:=(bp (B:=9223372036854775807) (fun q h=>jK q _ h) (al 5 (ah q).2).1.toNat (al 5 (ah q).2).2 (bt 5 (ah q).2 _ (aP q _ hz)))
 try dsimp only
 generalize KK:(ax bG (al 5 (ah q).2).1.toNat (al 5 (ah q).2).2)=Q0 at*
 refine cL ?_
 refine yJ ?_ call223 (fun bs w hS=>lX Q0.2 5 b w (hS.res _ i0) p6)
 rintro y _
 have SR:=kq 5 (by decide) Q0.2
 refine bU (α:=aG) 128 ?_
 refine Ml (σ:=Nat×Option Addr×Nat) (fun⟨i1,qd,qe⟩=>i1≤(al 5 Q0.2).1.toNat∧ ∀x,x∈(ax dz i1 (al 5 Q0.2).2).1→x.name.size≤9223372036854775807∧x.value.size≤9223372036854775807) (fun⟨i1,qd,qe⟩=>(al 5 Q0.2).1.toNat - i1) (fun⟨i1,qd,qe⟩=>[ay 128 qd qe ((ax dz i1 (al 5 Q0.2).2).1:List aG),bh b 238 [vs (ax dz i1 (al 5 Q0.2).2).2.1,vi (ax dz i1 (al 5 Q0.2).2).2.2],bI (bM 3) M0,ay 115 iG iH (M0:List ae)]) [21,20,3,2,0] (fun⟨i1,qd,qe⟩=>[(21,vI (i1:Int))]) (fun⟨i1,qd,qe⟩=>[(1,[vI (ah q).1,.v (.slice iG M0.length iH),.v (.slice qd ((ax dz i1 (al 5 Q0.2).2).1).length qe),.v vn])]) ?_ (⟨0,none,0⟩) ⟨(Nat.zero_le _),(fun x hx=>by cases hx)⟩
 rintro⟨i1,qd,qe⟩ ⟨SU,Pr⟩ _ j8
 have SW:(ax dz i1 (al 5 Q0.2).2).1.length=i1:=by exact er _ _ _
 refine Md ((i1:Int)<(al 5 Q0.2).1) (fun h2=>?_) fun h2=>?_
 ·refine cZ 10 [] [] [ay 128 qd qe ((ax dz i1 (al 5 Q0.2).2).1:List aG),bI (bM 3) M0,ay 115 iG iH (M0:List ae)] ai ?_ (hR:=(.cons_cons _ (.cons _ (List.Sublist.refl _))))
  refine cb ?_
  refine yJ ?_ call225 (fun bs w hS=>nn (ax dz i1 (al 5 Q0.2).2).2 b w (hS.res _ i0) (bp (B:=9223372036854775807) (fun q h=>gO q _ h) i1 (al 5 Q0.2).2 (bt 5 Q0.2 _ p6)))
  rintro y _
  refine yJ ?_ call225 (fun bs w hS=>nn (bw (ax dz i1 (al 5 Q0.2).2).2).2 b w (hS.res _ i0) (cW (ax dz i1 (al 5 Q0.2).2).2 _ (bp (B:=9223372036854775807) (fun q h=>gO q _ h) i1 (al 5 Q0.2).2 (bt 5 Q0.2 _ p6))).1)
  rintro y _
  refine yJ ?_ call222 (fun bs w hS=>dJ (bw (bw (ax dz i1 (al 5 Q0.2).2).2).2).2 b w (hS.res _ i0) (cW (bw (ax dz i1 (al 5 Q0.2).2).2).2 _ (cW (ax dz i1 (al 5 Q0.2).2).2 _ (bp (B:=9223372036854775807) (fun q h=>gO q _ h) i1 (al 5 Q0.2).2 (bt 5 Q0.2 _ p6))).1).1)
  rintro y _
  refine M1 ?_ (hR:=(.cons _ (List.Sublist.refl _)))
  refine Mz ?_
  refine cb ?_
  refine gX (α:=aG) 40 ([(⟨(bw (ax dz i1 (al 5 Q0.2).2).2).1,(bw (bw (ax dz i1 (al 5 Q0.2).2).2).2).1,(ah (bw (bw (ax dz i1 (al 5 Q0.2).2).2).2).2).1⟩:aG)]) ?_
  intro EX EY
  refine Mi ?_ (pR ((i1:Int)+1))
  refine jZ (jZ (jZ (jZ ?_)))
  exact j8 ⟨i1+1,EX,EY⟩ ⟨(by show i1+1≤(al 5 Q0.2).1.toNat;omega),(fun x hx=>by rcases List.mem_append.1 hx with hx|hx;exact Pr x hx;rw[List.mem_singleton]at hx;subst hx;exact⟨(cW (ax dz i1 (al 5 Q0.2).2).2 _ (bp (B:=9223372036854775807) (fun q h=>gO q _ h) i1 (al 5 Q0.2).2 (bt 5 Q0.2 _ p6))).2,(cW (bw (ax dz i1 (al 5 Q0.2).2).2).2 _ (cW (ax dz i1 (al 5 Q0.2).2).2 _ (bp (B:=9223372036854775807) (fun q h=>gO q _ h) i1 (al 5 Q0.2).2 (bt 5 Q0.2 _ p6))).1).2⟩)⟩ (by show (al 5 Q0.2).1.toNat - (i1+1)<(al 5 Q0.2).1.toNat - i1;omega)
 have GK:i1=(al 5 Q0.2).1.toNat:=by omega
 subst GK
 have Kc:=(bp (B:=9223372036854775807) (fun q h=>gO q _ h) (al 5 Q0.2).1.toNat (al 5 Q0.2).2 (bt 5 Q0.2 _ p6))
 try dsimp only
 generalize SX:(ax dz (al 5 Q0.2).1.toNat (al 5 Q0.2).2)=Q1 at*
 refine cb ?_
 refine yJ ?_ call223 (fun bs w hS=>lX Q1.2 4 b w (hS.res _ i0) Kc)
 rintro y _
 have M6:=kq 4 (by decide) Q1.2
 refine bU (α:=aa) 118 ?_
 refine gK (bI (cj 141) []) rfl (fun w x hx=>by cases hx) ?_
 refine Ml (σ:=Nat×Option Addr×Nat×List aa) (fun⟨i2,nL,nM,M2⟩=>i2≤(al 4 Q1.2).1.toNat∧M2.map aa.abs=(ax aX i2 (al 4 Q1.2).2).1∧ ∀x,x∈M2→ ∀k,k∈x.ab.xs→k.aE.text.size≤9223372036854775807) (fun⟨i2,nL,nM,M2⟩=>(al 4 Q1.2).1.toNat - i2) (fun⟨i2,nL,nM,M2⟩=>[bI (cj 141) M2,ay 118 nL nM (M2:List aa),bh b 238 [vs (ax aX i2 (al 4 Q1.2).2).2.1,vi (ax aX i2 (al 4 Q1.2).2).2.2],ay 128 qd qe (Q1.1:List aG),bI (bM 3) M0,ay 115 iG iH (M0:List ae)]) [38,37,3,2,0] (fun⟨i2,nL,nM,M2⟩=>[(38,vI (i2:Int))]) (fun⟨i2,nL,nM,M2⟩=>[(1,[vI (ah q).1,.v (.slice iG M0.length iH),.v (.slice qd (Q1.1).length qe),.v (.slice nL M2.length nM)])]) ?_ (⟨0,none,0,[]⟩) ⟨(Nat.zero_le _),rfl,(fun x hx=>by cases hx)⟩
 rintro⟨i2,nL,nM,M2⟩ ⟨SY,Ps,Kd⟩ _ o6
 have SZ:M2.length=i2:=by have h9:=congrArg List.length Ps;rw[List.length_map,er]at h9;exact h9
 refine Md ((i2:Int)<(al 4 Q1.2).1) (fun h3=>?_) fun h3=>?_
 rotate_left
 ·have GL:i2=(al 4 Q1.2).1.toNat:=by omega
  subst GL
  have so:=(bp (B:=9223372036854775807) (fun q h=>gw q _ h) (al 4 Q1.2).1.toNat (al 4 Q1.2).2 (bt 4 Q1.2 _ Kc))
  try dsimp only
  generalize KL:(ax aX (al 4 Q1.2).1.toNat (al 4 Q1.2).2)=Q2 at*
  refine Mt [.agg #[vi (ah q).1,.slice iG M0.length iH,.slice qd (Q1.1).length qe,.slice nL M2.length nM]] fun bs w hS=>?_
  have hR:=mN KK SX KL
  rw[hR]
  have j1:=hS.f5.f5.f5.f4.f4.f5
  refine⟨((cN [bI (cj 141) M2,ay 118 nL nM (M2:List aa),ay 128 qd qe (Q1.1:List aG),bI (bM 3) M0,ay 115 iG iH (M0:List ae)]).fp,(⟨(ah q).1,⟨iG,iH,M0⟩,⟨qd,qe,Q1.1⟩,⟨nL,nM,M2⟩⟩:aN)),rfl,⟨?_,Hf,Pr,Kd⟩,(j1.jc (fun _ h=>h)).as (fun hp=>?_) rfl⟩
  ·show aN.abs (⟨(ah q).1,⟨iG,iH,M0⟩,⟨qd,qe,Q1.1⟩,⟨nL,nM,M2⟩⟩:aN)=_;simp only[aN.abs,IY,Ps]
  ·exact⟨rM i4 i3 hp (fun x hx=>hx) Hf,a4 i2 (hp _ i2) Pr,jG i1 i0 hp (fun x hx=>hx) Kd⟩
 refine cZ 5 [] [] [bI (cj 141) M2,ay 118 nL nM (M2:List aa),ay 128 qd qe (Q1.1:List aG),bI (bM 3) M0,ay 115 iG iH (M0:List ae)] ai ?_ (hR:=(.cons_cons _ (.cons_cons _ (.cons _ (List.Sublist.refl _)))))
 refine cL ?_
 refine Qy ?_ call226 (fun bs w hS=>yA (ax aX i2 (al 4 Q1.2).2).2 b w (hS.res _ i0) (bp (B:=9223372036854775807) (fun q h=>gw q _ h) i2 (al 4 Q1.2).2 (bt 4 Q1.2 _ Kc))) (hR:=fun _=>(.cons _ (.cons _ (List.Sublist.refl _))))
 rintro mU EA
 refine M1 ?_ (hR:=(.cons _ (.cons _ (List.Sublist.refl _))))
 refine Mz ?_
 refine jZ ?_
 refine gX (α:=aa) 56 ([(⟨mU.ag,mU.id,mU.aC,mU.last,mU.ab⟩:aa)]) ?_
 intro S0 S2
 refine Mi ?_ (pR ((i2:Int)+1))
 refine jZ ?_
 refine cL ?_
 refine fc (bI (cj 141) (M2++[(⟨mU.ag,mU.id,mU.aC,mU.last,mU.ab⟩:aa)])) (gD (cj 141) M2 (⟨mU.ag,mU.id,mU.aC,mU.last,mU.ab⟩:aa)) (fun w=>g9 (cj 141) M2 (⟨mU.ag,mU.id,mU.aC,mU.last,mU.ab⟩:aa) w) ?_
 refine dx (dx (dx (dx (dx (dx ?_)))))
 exact o6 ⟨i2+1,S0,S2,M2++[(⟨mU.ag,mU.id,mU.aC,mU.last,mU.ab⟩:aa)]⟩ ⟨(by show i2+1≤(al 4 Q1.2).1.toNat;omega),(by rw[List.map_append,Ps];exact congrArg (fun z=>(ax aX i2 (al 4 Q1.2).2).1++[z]) (show aa.abs (⟨mU.ag,mU.id,mU.aC,mU.last,mU.ab⟩:aa)=(aX (ax aX i2 (al 4 Q1.2).2).2).1 from EA.1)),(fun x hx=>by rcases List.mem_append.1 hx with hx|hx;exact Kd x hx;rw[List.mem_singleton]at hx;subst hx;exact EA.2)⟩ (by show (al 4 Q1.2).1.toNat - (i2+1)<(al 4 Q1.2).1.toNat - i2;omega)
theorem sQ (s:ByteArray)(w:World)(hs:s.size≤9223372036854775807):Calls prog 156 #[vs s] w fun e w'=> ∃y:aN,e=.returned (.tuple #[y.val,vi (bb s).2])∧y.abs=(bb s).1∧bJ w w' y:=by
 refine M0 ?_ func156
 refine Md ((5000:Int)<(s.size:Int)) (fun h1=>?_) fun h1=>?_
 ·exact eE (uv (by assumption)) ⟨0,Sl.nil,Sl.nil,Sl.nil⟩ rfl fun bs w hS=>hS.aO (y:=(⟨0,Sl.nil,Sl.nil,Sl.nil⟩:aN)) ⟨Sl.ao _ _,Sl.ao _ _,Sl.ao _ _⟩
 refine Md ((s.size:Int)<4) (fun h2=>?_) fun h2=>?_
 ·exact eE (qy (by assumption) (by assumption)) ⟨0,Sl.nil,Sl.nil,Sl.nil⟩ rfl fun bs w hS=>hS.aO (y:=(⟨0,Sl.nil,Sl.nil,Sl.nil⟩:aN)) ⟨Sl.ao _ _,Sl.ao _ _,Sl.ao _ _⟩
 have GM:(s.extract 0 ((s.size:Int) - 4).toNat).size≤9223372036854775807:=by rw[ByteArray.size_extract];omega
 refine Mi ?_ (pR ((s.size:Int) - 4))
 refine cZ 8 [] [] [] ai ?_
 refine bY ?_ (pc (pG [(21,.sl 0 ((s.size:Int) - 4).toNat)] (oc (rfl:0=0) (oc ((by omega):(s.size:Int) - 4=((((s.size:Int) - 4).toNat:Nat):Int)) (oc ((by omega):((s.size:Int) - 4).toNat≤s.size) on)))) (pG [(25,.sl ((s.size:Int) - 4).toNat s.size)] (oc ((by omega):(s.size:Int) - 4=((((s.size:Int) - 4).toNat:Nat):Int)) (oc (rfl:s.size=s.size) (oc ((by omega):((s.size:Int) - 4).toNat≤s.size) on)))))
 refine Mp ?_ call198 (fun bs w hS=>vm _ w (by first|assumption|omega|(simp only[aL];omega)))
 refine cr ((gE (s.extract 0 ((s.size:Int) - 4).toNat))=(s.extract ((s.size:Int) - 4).toNat s.size)) (fun h3=>?_) fun h3=>?_
 rotate_left
 ·exact eE (sE h1 h2 h3) ⟨0,Sl.nil,Sl.nil,Sl.nil⟩ rfl fun bs w hS=>hS.aO (y:=(⟨0,Sl.nil,Sl.nil,Sl.nil⟩:aN)) ⟨Sl.ao _ _,Sl.ao _ _,Sl.ao _ _⟩
 refine Mi ?_ (pG [(30,.sl 0 ((s.size:Int) - 4).toNat)] (oc (rfl:0=0) (oc ((by omega):(s.size:Int) - 4=((((s.size:Int) - 4).toNat:Nat):Int)) (oc ((by omega):((s.size:Int) - 4).toNat≤s.size) on))))
 refine Mon 1 ?_ call199 (fun bs w hS hb=>B8 (cU s) (bs.getD 1 0) w hb GM)
 rintro y1 a5
 refine bk (F:=aJ.ok y1.2) (fun bs w hS=>aJ.bL (hS.res _ i0)) fun ft=>?_
 refine Md ((ep (cU s)).2.2=0) (fun h4=>?_) fun h4=>?_
 rotate_left
 ·refine My false true ?_ (df h4)
  refine cZ 7 [] [0] [bF y1.1 y1.2] ai ?_
  refine Mz ?_
  exact eE (uw (q:=(cU s)) rfl rfl h1 h2 h3 h4) ⟨0,Sl.nil,Sl.nil,Sl.nil⟩ rfl fun bs w hS=>hS.aO (y:=(⟨0,Sl.nil,Sl.nil,Sl.nil⟩:aN)) ⟨Sl.ao _ _,Sl.ao _ _,Sl.ao _ _⟩
 refine cr ((ep (cU s)).2.1=emp) (fun h5=>?_) fun h5=>?_
 rotate_left
 ·refine Mq 54 true ?_ rfl
  refine cZ 7 [] [0] [bF y1.1 y1.2] ai ?_
  refine Mz ?_
  exact eE (sF (q:=(cU s)) rfl rfl h1 h2 h3 h4 h5) ⟨0,Sl.nil,Sl.nil,Sl.nil⟩ rfl fun bs w hS=>hS.aO (y:=(⟨0,Sl.nil,Sl.nil,Sl.nil⟩:aN)) ⟨Sl.ao _ _,Sl.ao _ _,Sl.ao _ _⟩
 refine My true true ?_ (dt h4)
 refine Mp ?_ call20 (fun bs w hS=>kt y1.2 w (hS.res _ i0))
 refine cr (bA y1.2.abs=0) (fun h7=>?_) fun h7=>?_
 rotate_left
 ·have hy:y1.2.abs=(ep (cU s)).1:=a5.1
  exact eE (qz (y:=y1.2.abs) (q:=(cU s)) rfl rfl h1 h2 h3 h4 h5 hy h7) ⟨0,Sl.nil,Sl.nil,Sl.nil⟩ rfl fun bs w hS=>hS.aO (y:=(⟨0,Sl.nil,Sl.nil,Sl.nil⟩:aN)) ⟨Sl.ao _ _,Sl.ao _ _,Sl.ao _ _⟩
 have hy:y1.2.abs=(ep (cU s)).1:=a5.1
 exact eE (wP (y:=y1.2.abs) (q:=(cU s)) rfl rfl h1 h2 h3 h4 h5 hy h7) y1.2 rfl fun bs w hS=>hS.aO (y:=y1.2) (aU i0 (hS.res _ i0))
set_option maxHeartbeats 1600000 in
theorem p7 (s:ByteArray)(w:World)(hs:s.size≤9223372036854775807):Calls prog 114 #[vs s] w fun e w'=> ∃y:aN,e=.returned (.tuple #[y.val,vi (bb s).2])∧y.abs=(bb s).1∧bJ w w' y:=by
 refine M0 ?_ func114
 refine Md ((5000:Int)<(s.size:Int)) (fun h1=>?_) fun h1=>?_
 ·exact eE (uv (by assumption)) ⟨0,Sl.nil,Sl.nil,Sl.nil⟩ rfl fun bs w hS=>hS.aO (y:=(⟨0,Sl.nil,Sl.nil,Sl.nil⟩:aN)) ⟨Sl.ao _ _,Sl.ao _ _,Sl.ao _ _⟩
 refine Md ((s.size:Int)<4) (fun h2=>?_) fun h2=>?_
 ·exact eE (qy (by assumption) (by assumption)) ⟨0,Sl.nil,Sl.nil,Sl.nil⟩ rfl fun bs w hS=>hS.aO (y:=(⟨0,Sl.nil,Sl.nil,Sl.nil⟩:aN)) ⟨Sl.ao _ _,Sl.ao _ _,Sl.ao _ _⟩
 have GM:(s.extract 0 ((s.size:Int) - 4).toNat).size≤9223372036854775807:=by rw[ByteArray.size_extract];omega
 refine cZ 12 [] [] [] ai ?_
 refine bY ?_ (pc (pR ((s.size:Int) - 4)) (pc (pG [(30,.sl 0 ((s.size:Int) - 4).toNat)] (oc (rfl:0=0) (oc ((by omega):(s.size:Int) - 4=((((s.size:Int) - 4).toNat:Nat):Int)) (oc ((by omega):((s.size:Int) - 4).toNat≤s.size) on)))) (pc (pR ((s.size:Int) - 4)) (pG [(36,.sl ((s.size:Int) - 4).toNat s.size)] (oc ((by omega):(s.size:Int) - 4=((((s.size:Int) - 4).toNat:Nat):Int)) (oc (rfl:s.size=s.size) (oc ((by omega):((s.size:Int) - 4).toNat≤s.size) on)))))))
 refine Mp ?_ call158 (fun bs w hS=>vo _ w (by first|assumption|omega|(simp only[aL];omega)))
 refine cr ((gE (s.extract 0 ((s.size:Int) - 4).toNat))=(s.extract ((s.size:Int) - 4).toNat s.size)) (fun h3=>?_) fun h3=>?_
 rotate_left
 ·exact eE (sE h1 h2 h3) ⟨0,Sl.nil,Sl.nil,Sl.nil⟩ rfl fun bs w hS=>hS.aO (y:=(⟨0,Sl.nil,Sl.nil,Sl.nil⟩:aN)) ⟨Sl.ao _ _,Sl.ao _ _,Sl.ao _ _⟩
 refine Mi ?_ (pc (pR ((s.size:Int) - 4)) (pG [(43,.sl 0 ((s.size:Int) - 4).toNat)] (oc (rfl:0=0) (oc ((by omega):(s.size:Int) - 4=((((s.size:Int) - 4).toNat:Nat):Int)) (oc ((by omega):((s.size:Int) - 4).toNat≤s.size) on)))))
 refine Mo 1 ?_ call159 (fun bs w hS hb=>iD (cU s) (bs.getD 1 0) w hb GM)
 rintro y _
 refine Mo 1 ?_ call160 (fun bs w hS hb=>oD (ah (cU s)).2 5 (bs.getD 1 0) w hb (aP (cU s) _ GM))
 rintro y _
 have Pq:=kq 5 (by decide) (ah (cU s)).2
 refine bU (α:=ae) 115 ?_
 refine gK (bI (bM 3) []) rfl (fun w x hx=>by cases hx) ?_
 refine Ml (σ:=Nat×Option Addr×Nat×List ae) (fun⟨i0,iG,iH,M0⟩=>i0≤(al 5 (ah (cU s)).2).1.toNat∧M0.map ae.abs=(ax bG i0 (al 5 (ah (cU s)).2).2).1∧ ∀x,x∈M0→x.name.size≤9223372036854775807) (fun⟨i0,iG,iH,M0⟩=>(al 5 (ah (cU s)).2).1.toNat - i0) (fun⟨i0,iG,iH,M0⟩=>[bI (bM 3) M0,ay 115 iG iH (M0:List ae)]) [7,6,5,4,2] (fun⟨i0,iG,iH,M0⟩=>[(7,vI (i0:Int))]) (fun⟨i0,iG,iH,M0⟩=>[(1,[vS (ax bG i0 (al 5 (ah (cU s)).2).2).2.1,vI (ax bG i0 (al 5 (ah (cU s)).2).2).2.2]),(2,[vI (ah (cU s)).1,.v (.slice iG M0.length iH),.v vn,.v vn])]) ?_ (⟨0,none,0,[]⟩) ⟨(Nat.zero_le _),rfl,(fun x hx=>by cases hx)⟩
 rintro⟨i0,iG,iH,M0⟩ ⟨Po,IY,Hf⟩ _ bu
 have Pp:M0.length=i0:=by have h9:=congrArg List.length IY;rw[List.length_map,er]at h9;exact h9
 refine Md ((i0:Int)<(al 5 (ah (cU s)).2).1) (fun h4=>?_) fun h4=>?_
 ·refine Mo 1 ?_ call161 (fun bs w hS hb=>tE (ax bG i0 (al 5 (ah (cU s)).2).2).2 (bs.getD 1 0) w hb (bp (B:=9223372036854775807) (fun q h=>jK q _ h) i0 (al 5 (ah (cU s)).2).2 (bt 5 (ah (cU s)).2 _ (aP (cU s) _ GM))))
  rintro y _
  refine Mo 1 ?_ call159 (fun bs w hS hb=>iD (bw (ax bG i0 (al 5 (ah (cU s)).2).2).2).2 (bs.getD 1 0) w hb (cW (ax bG i0 (al 5 (ah (cU s)).2).2).2 _ (bp (B:=9223372036854775807) (fun q h=>jK q _ h) i0 (al 5 (ah (cU s)).2).2 (bt 5 (ah (cU s)).2 _ (aP (cU s) _ GM)))).1)
  rintro y _
  refine Mo 1 ?_ call159 (fun bs w hS hb=>iD (ah (bw (ax bG i0 (al 5 (ah (cU s)).2).2).2).2).2 (bs.getD 1 0) w hb (aP (bw (ax bG i0 (al 5 (ah (cU s)).2).2).2).2 _ (cW (ax bG i0 (al 5 (ah (cU s)).2).2).2 _ (bp (B:=9223372036854775807) (fun q h=>jK q _ h) i0 (al 5 (ah (cU s)).2).2 (bt 5 (ah (cU s)).2 _ (aP (cU s) _ GM)))).1))
  rintro y _
  refine Mo 1 ?_ call160 (fun bs w hS hb=>oD (ah (ah (bw (ax bG i0 (al 5 (ah (cU s)).2).2).2).2).2).2 3 (bs.getD 1 0) w hb (aP (ah (bw (ax bG i0 (al 5 (ah (cU s)).2).2).2).2).2 _ (aP (bw (ax bG i0 (al 5 (ah (cU s)).2).2).2).2 _ (cW (ax bG i0 (al 5 (ah (cU s)).2).2).2 _ (bp (B:=9223372036854775807) (fun q h=>jK q _ h) i0 (al 5 (ah (cU s)).2).2 (bt 5 (ah (cU s)).2 _ (aP (cU s) _ GM)))).1)))
  rintro y _
  have S3:=kq 3 (by decide) (ah (ah (bw (ax bG i0 (al 5 (ah (cU s)).2).2).2).2).2).2
  refine bU (α:=Int) 3 ?_
  refine Ml (σ:=Nat×Option Addr×Nat) (fun⟨i1,qd,qe⟩=>i1≤(al 3 (ah (ah (bw (ax bG i0 (al 5 (ah (cU s)).2).2).2).2).2).2).1.toNat) (fun⟨i1,qd,qe⟩=>(al 3 (ah (ah (bw (ax bG i0 (al 5 (ah (cU s)).2).2).2).2).2).2).1.toNat - i1) (fun⟨i1,qd,qe⟩=>[ay 3 qd qe ((ax ah i1 (al 3 (ah (ah (bw (ax bG i0 (al 5 (ah (cU s)).2).2).2).2).2).2).2).1:List Int),bI (bM 3) M0,ay 115 iG iH (M0:List ae)]) [10,9,8,7,6,5,4,2] (fun⟨i1,qd,qe⟩=>[(10,vI (i1:Int))]) (fun⟨i1,qd,qe⟩=>[(1,[vS (ax ah i1 (al 3 (ah (ah (bw (ax bG i0 (al 5 (ah (cU s)).2).2).2).2).2).2).2).2.1,vI (ax ah i1 (al 3 (ah (ah (bw (ax bG i0 (al 5 (ah (cU s)).2).2).2).2).2).2).2).2.2]),(3,[vS (bw (ax bG i0 (al 5 (ah (cU s)).2).2).2).1,vI (ah (bw (ax bG i0 (al 5 (ah (cU s)).2).2).2).2).1,vI (ah (ah (bw (ax bG i0 (al 5 (ah (cU s)).2).2).2).2).2).1,.v (.slice qd ((ax ah i1 (al 3 (ah (ah (bw (ax bG i0 (al 5 (ah (cU s)).2).2).2).2).2).2).2).1).length qe)])]) ?_ (⟨0,none,0⟩) (Nat.zero_le _)
  rintro⟨i1,qd,qe⟩ SU _ j8
  have SW:(ax ah i1 (al 3 (ah (ah (bw (ax bG i0 (al 5 (ah (cU s)).2).2).2).2).2).2).2).1.length=i1:=by exact er _ _ _
  refine Md ((i1:Int)<(al 3 (ah (ah (bw (ax bG i0 (al 5 (ah (cU s)).2).2).2).2).2).2).1) (fun h5=>?_) fun h5=>?_
  ·refine cZ 5 [] [1] [ay 3 qd qe ((ax ah i1 (al 3 (ah (ah (bw (ax bG i0 (al 5 (ah (cU s)).2).2).2).2).2).2).2).1:List Int),bI (bM 3) M0,ay 115 iG iH (M0:List ae)] ai ?_
   refine Mo 1 ?_ call159 (fun bs w hS hb=>iD (ax ah i1 (al 3 (ah (ah (bw (ax bG i0 (al 5 (ah (cU s)).2).2).2).2).2).2).2).2 (bs.getD 1 0) w hb (bp (B:=9223372036854775807) (fun q h=>aP q _ h) i1 (al 3 (ah (ah (bw (ax bG i0 (al 5 (ah (cU s)).2).2).2).2).2).2).2 (bt 3 (ah (ah (bw (ax bG i0 (al 5 (ah (cU s)).2).2).2).2).2).2 _ (aP (ah (bw (ax bG i0 (al 5 (ah (cU s)).2).2).2).2).2 _ (aP (bw (ax bG i0 (al 5 (ah (cU s)).2).2).2).2 _ (cW (ax bG i0 (al 5 (ah (cU s)).2).2).2 _ (bp (B:=9223372036854775807) (fun q h=>jK q _ h) i0 (al 5 (ah (cU s)).2).2 (bt 5 (ah (cU s)).2 _ (aP (cU s) _ GM)))).1)))))
   rintro y _
   refine M1 ?_
   refine Mz ?_
   refine gX (α:=Int) 8 ([(ah (ax ah i1 (al 3 (ah (ah (bw (ax bG i0 (al 5 (ah (cU s)).2).2).2).2).2).2).2).2).1]) ?_
   intro NY NZ
   refine Mi ?_ (pR ((i1:Int)+1))
   refine cL (cL (cL ?_))
   exact j8 ⟨i1+1,NY,NZ⟩ (by show i1+1≤(al 3 (ah (ah (bw (ax bG i0 (al 5 (ah (cU s)).2).2).2).2).2).2).1.toNat;omega) (by show (al 3 (ah (ah (bw (ax bG i0 (al 5 (ah (cU s)).2).2).2).2).2).2).1.toNat - (i1+1)<(al 3 (ah (ah (bw (ax bG i0 (al 5 (ah (cU s)).2).2).2).2).2).2).1.toNat - i1;omega)
  have GK:i1=(al 3 (ah (ah (bw (ax bG i0 (al 5 (ah (cU s)).2).2).2).2).2).2).1.toNat:=by omega
  subst GK
  refine M1 ?_
  refine cL ?_
  refine gX (α:=ae) 56 ([(⟨(bw (ax bG i0 (al 5 (ah (cU s)).2).2).2).1,(ah (bw (ax bG i0 (al 5 (ah (cU s)).2).2).2).2).1,(ah (ah (bw (ax bG i0 (al 5 (ah (cU s)).2).2).2).2).2).1,⟨qd,qe,(ax ah (al 3 (ah (ah (bw (ax bG i0 (al 5 (ah (cU s)).2).2).2).2).2).2).1.toNat (al 3 (ah (ah (bw (ax bG i0 (al 5 (ah (cU s)).2).2).2).2).2).2).2).1⟩⟩:ae)]) ?_
  intro EX EY
  refine Mi ?_ (pR ((i0:Int)+1))
  refine cL ?_
  refine cL ?_
  refine fc (bI (bM 3) (M0++[(⟨(bw (ax bG i0 (al 5 (ah (cU s)).2).2).2).1,(ah (bw (ax bG i0 (al 5 (ah (cU s)).2).2).2).2).1,(ah (ah (bw (ax bG i0 (al 5 (ah (cU s)).2).2).2).2).2).1,⟨qd,qe,(ax ah (al 3 (ah (ah (bw (ax bG i0 (al 5 (ah (cU s)).2).2).2).2).2).2).1.toNat (al 3 (ah (ah (bw (ax bG i0 (al 5 (ah (cU s)).2).2).2).2).2).2).2).1⟩⟩:ae)])) (gD (bM 3) M0 (⟨(bw (ax bG i0 (al 5 (ah (cU s)).2).2).2).1,(ah (bw (ax bG i0 (al 5 (ah (cU s)).2).2).2).2).1,(ah (ah (bw (ax bG i0 (al 5 (ah (cU s)).2).2).2).2).2).1,⟨qd,qe,(ax ah (al 3 (ah (ah (bw (ax bG i0 (al 5 (ah (cU s)).2).2).2).2).2).2).1.toNat (al 3 (ah (ah (bw (ax bG i0 (al 5 (ah (cU s)).2).2).2).2).2).2).2).1⟩⟩:ae)) (fun w=>g9 (bM 3) M0 (⟨(bw (ax bG i0 (al 5 (ah (cU s)).2).2).2).1,(ah (bw (ax bG i0 (al 5 (ah (cU s)).2).2).2).2).1,(ah (ah (bw (ax bG i0 (al 5 (ah (cU s)).2).2).2).2).2).1,⟨qd,qe,(ax ah (al 3 (ah (ah (bw (ax bG i0 (al 5 (ah (cU s)).2).2).2).2).2).2).1.toNat (al 3 (ah (ah (bw (ax bG i0 (al 5 (ah (cU s)).2).2).2).2).2).2).2).1⟩⟩:ae) w) ?_
  refine cb (cb ?_)
  exact bu ⟨i0+1,EX,EY,M0++[(⟨(bw (ax bG i0 (al 5 (ah (cU s)).2).2).2).1,(ah (bw (ax bG i0 (al 5 (ah (cU s)).2).2).2).2).1,(ah (ah (bw (ax bG i0 (al 5 (ah (cU s)).2).2).2).2).2).1,⟨qd,qe,(ax ah (al 3 (ah (ah (bw (ax bG i0 (al 5 (ah (cU s)).2).2).2).2).2).2).1.toNat (al 3 (ah (ah (bw (ax bG i0 (al 5 (ah (cU s)).2).2).2).2).2).2).2).1⟩⟩:ae)]⟩ ⟨(by show i0+1≤(al 5 (ah (cU s)).2).1.toNat;omega),(by rw[List.map_append,IY];exact congrArg (fun z=>(ax bG i0 (al 5 (ah (cU s)).2).2).1++[z]) (show ae.abs (⟨(bw (ax bG i0 (al 5 (ah (cU s)).2).2).2).1,(ah (bw (ax bG i0 (al 5 (ah (cU s)).2).2).2).2).1,(ah (ah (bw (ax bG i0 (al 5 (ah (cU s)).2).2).2).2).2).1,⟨qd,qe,(ax ah (al 3 (ah (ah (bw (ax bG i0 (al 5 (ah (cU s)).2).2).2).2).2).2).1.toNat (al 3 (ah (ah (bw (ax bG i0 (al 5 (ah (cU s)).2).2).2).2).2).2).2).1⟩⟩:ae)=(bG (ax bG i0 (al 5 (ah (cU s)).2).2).2).1 from rfl)),(fun x hx=>by rcases List.mem_append.1 hx with hx|hx;exact Hf x hx;rw[List.mem_singleton]at hx;subst hx;exact (cW (ax bG i0 (al 5 (ah (cU s)).2).2).2 _ (bp (B:=9223372036854775807) (fun q h=>jK q _ h) i0 (al 5 (ah (cU s)).2).2 (bt 5 (ah (cU s)).2 _ (aP (cU s) _ GM)))).2)⟩ (by show (al 5 (ah (cU s)).2).1.toNat - (i0+1)<(al 5 (ah (cU s)).2).1.toNat - i0;omega)
 have vt:i0=(al 5 (ah (cU s)).2).1.toNat:=by omega
 subst vt
 have p6:=(bp (B:=9223372036854775807) (fun q h=>jK q _ h) (al 5 (ah (cU s)).2).1.toNat (al 5 (ah (cU s)).2).2 (bt 5 (ah (cU s)).2 _ (aP (cU s) _ GM)))
 try dsimp only
 generalize KK:(ax bG (al 5 (ah (cU s)).2).1.toNat (al 5 (ah (cU s)).2).2)=Q0 at*
 refine Mo 1 ?_ call160 (fun bs w hS hb=>oD Q0.2 5 (bs.getD 1 0) w hb p6)
 rintro y _
 have M6:=kq 5 (by decide) Q0.2
 refine bU (α:=aG) 128 ?_
 refine Ml (σ:=Nat×Option Addr×Nat) (fun⟨i2,nL,nM⟩=>i2≤(al 5 Q0.2).1.toNat∧ ∀x,x∈(ax dz i2 (al 5 Q0.2).2).1→x.name.size≤9223372036854775807∧x.value.size≤9223372036854775807) (fun⟨i2,nL,nM⟩=>(al 5 Q0.2).1.toNat - i2) (fun⟨i2,nL,nM⟩=>[ay 128 nL nM ((ax dz i2 (al 5 Q0.2).2).1:List aG),bI (bM 3) M0,ay 115 iG iH (M0:List ae)]) [11,6,5,4,2] (fun⟨i2,nL,nM⟩=>[(11,vI (i2:Int))]) (fun⟨i2,nL,nM⟩=>[(1,[vS (ax dz i2 (al 5 Q0.2).2).2.1,vI (ax dz i2 (al 5 Q0.2).2).2.2]),(2,[vI (ah (cU s)).1,.v (.slice iG M0.length iH),.v (.slice nL ((ax dz i2 (al 5 Q0.2).2).1).length nM),.v vn])]) ?_ (⟨0,none,0⟩) ⟨(Nat.zero_le _),(fun x hx=>by cases hx)⟩
 rintro⟨i2,nL,nM⟩ ⟨SY,Kd⟩ _ o6
 have SZ:(ax dz i2 (al 5 Q0.2).2).1.length=i2:=by exact er _ _ _
 refine Md ((i2:Int)<(al 5 Q0.2).1) (fun h6=>?_) fun h6=>?_
 ·refine Mo 1 ?_ call161 (fun bs w hS hb=>tE (ax dz i2 (al 5 Q0.2).2).2 (bs.getD 1 0) w hb (bp (B:=9223372036854775807) (fun q h=>gO q _ h) i2 (al 5 Q0.2).2 (bt 5 Q0.2 _ p6)))
  rintro y _
  refine Mo 1 ?_ call161 (fun bs w hS hb=>tE (bw (ax dz i2 (al 5 Q0.2).2).2).2 (bs.getD 1 0) w hb (cW (ax dz i2 (al 5 Q0.2).2).2 _ (bp (B:=9223372036854775807) (fun q h=>gO q _ h) i2 (al 5 Q0.2).2 (bt 5 Q0.2 _ p6))).1)
  rintro y _
  refine Mo 1 ?_ call159 (fun bs w hS hb=>iD (bw (bw (ax dz i2 (al 5 Q0.2).2).2).2).2 (bs.getD 1 0) w hb (cW (bw (ax dz i2 (al 5 Q0.2).2).2).2 _ (cW (ax dz i2 (al 5 Q0.2).2).2 _ (bp (B:=9223372036854775807) (fun q h=>gO q _ h) i2 (al 5 Q0.2).2 (bt 5 Q0.2 _ p6))).1).1)
  rintro y _
  refine M1 ?_
  refine gX (α:=aG) 40 ([(⟨(bw (ax dz i2 (al 5 Q0.2).2).2).1,(bw (bw (ax dz i2 (al 5 Q0.2).2).2).2).1,(ah (bw (bw (ax dz i2 (al 5 Q0.2).2).2).2).2).1⟩:aG)]) ?_
  intro S4 S5
  refine Mi ?_ (pR ((i2:Int)+1))
  refine cL (cL (cL ?_))
  exact o6 ⟨i2+1,S4,S5⟩ ⟨(by show i2+1≤(al 5 Q0.2).1.toNat;omega),(fun x hx=>by rcases List.mem_append.1 hx with hx|hx;exact Kd x hx;rw[List.mem_singleton]at hx;subst hx;exact⟨(cW (ax dz i2 (al 5 Q0.2).2).2 _ (bp (B:=9223372036854775807) (fun q h=>gO q _ h) i2 (al 5 Q0.2).2 (bt 5 Q0.2 _ p6))).2,(cW (bw (ax dz i2 (al 5 Q0.2).2).2).2 _ (cW (ax dz i2 (al 5 Q0.2).2).2 _ (bp (B:=9223372036854775807) (fun q h=>gO q _ h) i2 (al 5 Q0.2).2 (bt 5 Q0.2 _ p6))).1).2⟩)⟩ (by show (al 5 Q0.2).1.toNat - (i2+1)<(al 5 Q0.2).1.toNat - i2;omega)
 have GL:i2=(al 5 Q0.2).1.toNat:=by omega
 subst GL
 have so:=(bp (B:=9223372036854775807) (fun q h=>gO q _ h) (al 5 Q0.2).1.toNat (al 5 Q0.2).2 (bt 5 Q0.2 _ p6))
 try dsimp only
 generalize KL:(ax dz (al 5 Q0.2).1.toNat (al 5 Q0.2).2)=Q2 at*
 refine Mo 1 ?_ call160 (fun bs w hS hb=>oD Q2.2 4 (bs.getD 1 0) w hb so)
 rintro y _
 have Rb:=kq 4 (by decide) Q2.2
 refine bU (α:=aa) 118 ?_
 refine gK (bI (cj 141) []) rfl (fun w x hx=>by cases hx) ?_
 refine Ml (σ:=Nat×Option Addr×Nat×List aa) (fun⟨i3,v8,v9,M3⟩=>i3≤(al 4 Q2.2).1.toNat∧M3.map aa.abs=(ax aX i3 (al 4 Q2.2).2).1∧ ∀x,x∈M3→ ∀k,k∈x.ab.xs→k.aE.text.size≤9223372036854775807) (fun⟨i3,v8,v9,M3⟩=>(al 4 Q2.2).1.toNat - i3) (fun⟨i3,v8,v9,M3⟩=>[bI (cj 141) M3,ay 118 v8 v9 (M3:List aa),ay 128 nL nM (Q2.1:List aG),bI (bM 3) M0,ay 115 iG iH (M0:List ae)]) [13,6,5,4,2] (fun⟨i3,v8,v9,M3⟩=>[(13,vI (i3:Int))]) (fun⟨i3,v8,v9,M3⟩=>[(1,[vS (ax aX i3 (al 4 Q2.2).2).2.1,vI (ax aX i3 (al 4 Q2.2).2).2.2]),(2,[vI (ah (cU s)).1,.v (.slice iG M0.length iH),.v (.slice nL (Q2.1).length nM),.v (.slice v8 M3.length v9)])]) ?_ (⟨0,none,0,[]⟩) ⟨(Nat.zero_le _),rfl,(fun x hx=>by cases hx)⟩
 rintro⟨i3,v8,v9,M3⟩ ⟨TM,N0,Pt⟩ _ sK
 have TN:M3.length=i3:=by have h9:=congrArg List.length N0;rw[List.length_map,er]at h9;exact h9
 refine Md ((i3:Int)<(al 4 Q2.2).1) (fun h7=>?_) fun h7=>?_
 rotate_left
 ·have M7:i3=(al 4 Q2.2).1.toNat:=by omega
  subst M7
  have S6:=(bp (B:=9223372036854775807) (fun q h=>gw q _ h) (al 4 Q2.2).1.toNat (al 4 Q2.2).2 (bt 4 Q2.2 _ so))
  try dsimp only
  generalize N1:(ax aX (al 4 Q2.2).1.toNat (al 4 Q2.2).2)=Q3 at*
  refine Md (Q3.2.2=0) (fun h9=>?_) fun h9=>?_
  rotate_left
  ·refine My false false ?_ (df h9)
   refine My false true ?_ (df h9)
   refine cZ 7 [] [0] [bI (cj 141) M3,ay 118 v8 v9 (M3:List aa),ay 128 nL nM (Q2.1:List aG),bI (bM 3) M0,ay 115 iG iH (M0:List ae)] ai ?_
   refine Mz ?_
   have hR:=mN KK KL N1
   exact eE (uw (q:=(cU s)) rfl hR h1 h2 h3 h9) ⟨0,Sl.nil,Sl.nil,Sl.nil⟩ rfl fun bs w hS=>hS.aO (y:=(⟨0,Sl.nil,Sl.nil,Sl.nil⟩:aN)) ⟨Sl.ao _ _,Sl.ao _ _,Sl.ao _ _⟩
  refine cr (Q3.2.1=emp) (fun ir=>?_) fun ir=>?_
  rotate_left
  ·refine Mq 184 false ?_ rfl
   refine Mq 194 true ?_ rfl
   refine cZ 7 [] [0] [bI (cj 141) M3,ay 118 v8 v9 (M3:List aa),ay 128 nL nM (Q2.1:List aG),bI (bM 3) M0,ay 115 iG iH (M0:List ae)] ai ?_
   refine Mz ?_
   have hR:=mN KK KL N1
   exact eE (sF (q:=(cU s)) rfl hR h1 h2 h3 h9 ir) ⟨0,Sl.nil,Sl.nil,Sl.nil⟩ rfl fun bs w hS=>hS.aO (y:=(⟨0,Sl.nil,Sl.nil,Sl.nil⟩:aN)) ⟨Sl.ao _ _,Sl.ao _ _,Sl.ao _ _⟩
  refine My true false ?_ (dt h9)
  refine Mp ?_ call30 (fun bs w hS=>jR (⟨(ah (cU s)).1,⟨iG,iH,M0⟩,⟨nL,nM,Q2.1⟩,⟨v8,v9,M3⟩⟩:aN) w ⟨rM i4 i3 hS.res (fun x hx=>hx) Hf,a4 i2 (hS.res _ i2) Kd,jG i1 i0 hS.res (fun x hx=>hx) Pt⟩)
  refine cr (bA (aN.abs (⟨(ah (cU s)).1,⟨iG,iH,M0⟩,⟨nL,nM,Q2.1⟩,⟨v8,v9,M3⟩⟩:aN))=0) (fun jW=>?_) fun jW=>?_
  rotate_left
  ·refine cZ 7 [] [0] [bI (cj 141) M3,ay 118 v8 v9 (M3:List aa),ay 128 nL nM (Q2.1:List aG),bI (bM 3) M0,ay 115 iG iH (M0:List ae)] ai ?_
   refine Mz ?_
   have hR:=mN KK KL N1
   have hy:(aN.abs (⟨(ah (cU s)).1,⟨iG,iH,M0⟩,⟨nL,nM,Q2.1⟩,⟨v8,v9,M3⟩⟩:aN))=(⟨(ah (cU s)).1,Q0.1,Q2.1,Q3.1⟩:aZ):=by show aN.abs (⟨(ah (cU s)).1,⟨iG,iH,M0⟩,⟨nL,nM,Q2.1⟩,⟨v8,v9,M3⟩⟩:aN)=_;simp only[aN.abs,IY,N0]
   exact eE (qz (y:=(aN.abs (⟨(ah (cU s)).1,⟨iG,iH,M0⟩,⟨nL,nM,Q2.1⟩,⟨v8,v9,M3⟩⟩:aN))) (q:=(cU s)) rfl hR h1 h2 h3 h9 ir hy jW) ⟨0,Sl.nil,Sl.nil,Sl.nil⟩ rfl fun bs w hS=>hS.aO (y:=(⟨0,Sl.nil,Sl.nil,Sl.nil⟩:aN)) ⟨Sl.ao _ _,Sl.ao _ _,Sl.ao _ _⟩
  have hR:=mN KK KL N1
  have hy:(aN.abs (⟨(ah (cU s)).1,⟨iG,iH,M0⟩,⟨nL,nM,Q2.1⟩,⟨v8,v9,M3⟩⟩:aN))=(⟨(ah (cU s)).1,Q0.1,Q2.1,Q3.1⟩:aZ):=by show aN.abs (⟨(ah (cU s)).1,⟨iG,iH,M0⟩,⟨nL,nM,Q2.1⟩,⟨v8,v9,M3⟩⟩:aN)=_;simp only[aN.abs,IY,N0]
  exact eE (wP (y:=(aN.abs (⟨(ah (cU s)).1,⟨iG,iH,M0⟩,⟨nL,nM,Q2.1⟩,⟨v8,v9,M3⟩⟩:aN))) (q:=(cU s)) rfl hR h1 h2 h3 h9 ir hy jW) (⟨(ah (cU s)).1,⟨iG,iH,M0⟩,⟨nL,nM,Q2.1⟩,⟨v8,v9,M3⟩⟩:aN) rfl fun bs w hS=>hS.aO (y:=(⟨(ah (cU s)).1,⟨iG,iH,M0⟩,⟨nL,nM,Q2.1⟩,⟨v8,v9,M3⟩⟩:aN)) ⟨rM i4 i3 hS.res (fun x hx=>hx) Hf,a4 i2 (hS.res _ i2) Kd,jG i1 i0 hS.res (fun x hx=>hx) Pt⟩
 refine Mo 1 ?_ call159 (fun bs w hS hb=>iD (ax aX i3 (al 4 Q2.2).2).2 (bs.getD 1 0) w hb (bp (B:=9223372036854775807) (fun q h=>gw q _ h) i3 (al 4 Q2.2).2 (bt 4 Q2.2 _ so)))
 rintro y _
 refine Mo 1 ?_ call159 (fun bs w hS hb=>iD (ah (ax aX i3 (al 4 Q2.2).2).2).2 (bs.getD 1 0) w hb (aP (ax aX i3 (al 4 Q2.2).2).2 _ (bp (B:=9223372036854775807) (fun q h=>gw q _ h) i3 (al 4 Q2.2).2 (bt 4 Q2.2 _ so))))
 rintro y _
 refine Mo 1 ?_ call159 (fun bs w hS hb=>iD (ah (ah (ax aX i3 (al 4 Q2.2).2).2).2).2 (bs.getD 1 0) w hb (aP (ah (ax aX i3 (al 4 Q2.2).2).2).2 _ (aP (ax aX i3 (al 4 Q2.2).2).2 _ (bp (B:=9223372036854775807) (fun q h=>gw q _ h) i3 (al 4 Q2.2).2 (bt 4 Q2.2 _ so)))))
 rintro y _
 refine Mo 1 ?_ call159 (fun bs w hS hb=>iD (ah (ah (ah (ax aX i3 (al 4 Q2.2).2).2).2).2).2 (bs.getD 1 0) w hb (aP (ah (ah (ax aX i3 (al 4 Q2.2).2).2).2).2 _ (aP (ah (ax aX i3 (al 4 Q2.2).2).2).2 _ (aP (ax aX i3 (al 4 Q2.2).2).2 _ (bp (B:=9223372036854775807) (fun q h=>gw q _ h) i3 (al 4 Q2.2).2 (bt 4 Q2.2 _ so))))))
 rintro y _
 refine Mo 1 ?_ call160 (fun bs w hS hb=>oD (ah (ah (ah (ah (ax aX i3 (al 4 Q2.2).2).2).2).2).2).2 4 (bs.getD 1 0) w hb (aP (ah (ah (ah (ax aX i3 (al 4 Q2.2).2).2).2).2).2 _ (aP (ah (ah (ax aX i3 (al 4 Q2.2).2).2).2).2 _ (aP (ah (ax aX i3 (al 4 Q2.2).2).2).2 _ (aP (ax aX i3 (al 4 Q2.2).2).2 _ (bp (B:=9223372036854775807) (fun q h=>gw q _ h) i3 (al 4 Q2.2).2 (bt 4 Q2.2 _ so)))))))
 rintro y _
 have Rc:=kq 4 (by decide) (ah (ah (ah (ah (ax aX i3 (al 4 Q2.2).2).2).2).2).2).2
 refine bU (α:=aK) 141 ?_
 refine Ml (σ:=Nat×Option Addr×Nat) (fun⟨i4,EB,EC⟩=>i4≤(al 4 (ah (ah (ah (ah (ax aX i3 (al 4 Q2.2).2).2).2).2).2).2).1.toNat∧ ∀x,x∈(ax ca i4 (al 4 (ah (ah (ah (ah (ax aX i3 (al 4 Q2.2).2).2).2).2).2).2).2).1→x.aE.text.size≤9223372036854775807) (fun⟨i4,EB,EC⟩=>(al 4 (ah (ah (ah (ah (ax aX i3 (al 4 Q2.2).2).2).2).2).2).2).1.toNat - i4) (fun⟨i4,EB,EC⟩=>[ay 141 EB EC ((ax ca i4 (al 4 (ah (ah (ah (ah (ax aX i3 (al 4 Q2.2).2).2).2).2).2).2).2).1:List aK),bI (cj 141) M3,ay 118 v8 v9 (M3:List aa),ay 128 nL nM (Q2.1:List aG),bI (bM 3) M0,ay 115 iG iH (M0:List ae)]) [16,15,14,13,6,5,4,2] (fun⟨i4,EB,EC⟩=>[(16,vI (i4:Int))]) (fun⟨i4,EB,EC⟩=>[(1,[vS (ax ca i4 (al 4 (ah (ah (ah (ah (ax aX i3 (al 4 Q2.2).2).2).2).2).2).2).2).2.1,vI (ax ca i4 (al 4 (ah (ah (ah (ah (ax aX i3 (al 4 Q2.2).2).2).2).2).2).2).2).2.2]),(3,[vI (ah (ax aX i3 (al 4 Q2.2).2).2).1,vI (ah (ah (ax aX i3 (al 4 Q2.2).2).2).2).1,vI (ah (ah (ah (ax aX i3 (al 4 Q2.2).2).2).2).2).1,vI (ah (ah (ah (ah (ax aX i3 (al 4 Q2.2).2).2).2).2).2).1,.v (.slice EB ((ax ca i4 (al 4 (ah (ah (ah (ah (ax aX i3 (al 4 Q2.2).2).2).2).2).2).2).2).1).length EC)])]) ?_ (⟨0,none,0⟩) ⟨(Nat.zero_le _),(fun x hx=>by cases hx)⟩
 rintro⟨i4,EB,EC⟩ ⟨TO,Rd⟩ _ Ha
 have TP:(ax ca i4 (al 4 (ah (ah (ah (ah (ax aX i3 (al 4 Q2.2).2).2).2).2).2).2).2).1.length=i4:=by exact er _ _ _
 refine Md ((i4:Int)<(al 4 (ah (ah (ah (ah (ax aX i3 (al 4 Q2.2).2).2).2).2).2).2).1) (fun h8=>?_) fun h8=>?_
 rotate_left
 ·have M8:i4=(al 4 (ah (ah (ah (ah (ax aX i3 (al 4 Q2.2).2).2).2).2).2).2).1.toNat:=by omega
  subst M8
  refine M1 ?_
  refine cL ?_
  refine gX (α:=aa) 56 ([(⟨(ah (ax aX i3 (al 4 Q2.2).2).2).1,(ah (ah (ax aX i3 (al 4 Q2.2).2).2).2).1,(ah (ah (ah (ax aX i3 (al 4 Q2.2).2).2).2).2).1,(ah (ah (ah (ah (ax aX i3 (al 4 Q2.2).2).2).2).2).2).1,⟨EB,EC,(ax ca (al 4 (ah (ah (ah (ah (ax aX i3 (al 4 Q2.2).2).2).2).2).2).2).1.toNat (al 4 (ah (ah (ah (ah (ax aX i3 (al 4 Q2.2).2).2).2).2).2).2).2).1⟩⟩:aa)]) ?_
  intro S7 S8
  refine Mi ?_ (pR ((i3:Int)+1))
  refine cL ?_
  refine cL ?_
  refine fc (bI (cj 141) (M3++[(⟨(ah (ax aX i3 (al 4 Q2.2).2).2).1,(ah (ah (ax aX i3 (al 4 Q2.2).2).2).2).1,(ah (ah (ah (ax aX i3 (al 4 Q2.2).2).2).2).2).1,(ah (ah (ah (ah (ax aX i3 (al 4 Q2.2).2).2).2).2).2).1,⟨EB,EC,(ax ca (al 4 (ah (ah (ah (ah (ax aX i3 (al 4 Q2.2).2).2).2).2).2).2).1.toNat (al 4 (ah (ah (ah (ah (ax aX i3 (al 4 Q2.2).2).2).2).2).2).2).2).1⟩⟩:aa)])) (gD (cj 141) M3 (⟨(ah (ax aX i3 (al 4 Q2.2).2).2).1,(ah (ah (ax aX i3 (al 4 Q2.2).2).2).2).1,(ah (ah (ah (ax aX i3 (al 4 Q2.2).2).2).2).2).1,(ah (ah (ah (ah (ax aX i3 (al 4 Q2.2).2).2).2).2).2).1,⟨EB,EC,(ax ca (al 4 (ah (ah (ah (ah (ax aX i3 (al 4 Q2.2).2).2).2).2).2).2).1.toNat (al 4 (ah (ah (ah (ah (ax aX i3 (al 4 Q2.2).2).2).2).2).2).2).2).1⟩⟩:aa)) (fun w=>g9 (cj 141) M3 (⟨(ah (ax aX i3 (al 4 Q2.2).2).2).1,(ah (ah (ax aX i3 (al 4 Q2.2).2).2).2).1,(ah (ah (ah (ax aX i3 (al 4 Q2.2).2).2).2).2).1,(ah (ah (ah (ah (ax aX i3 (al 4 Q2.2).2).2).2).2).2).1,⟨EB,EC,(ax ca (al 4 (ah (ah (ah (ah (ax aX i3 (al 4 Q2.2).2).2).2).2).2).2).1.toNat (al 4 (ah (ah (ah (ah (ax aX i3 (al 4 Q2.2).2).2).2).2).2).2).2).1⟩⟩:aa) w) ?_
  refine x5 (x5 (x5 (x5 (x5 ?_))))
  exact sK ⟨i3+1,S7,S8,M3++[(⟨(ah (ax aX i3 (al 4 Q2.2).2).2).1,(ah (ah (ax aX i3 (al 4 Q2.2).2).2).2).1,(ah (ah (ah (ax aX i3 (al 4 Q2.2).2).2).2).2).1,(ah (ah (ah (ah (ax aX i3 (al 4 Q2.2).2).2).2).2).2).1,⟨EB,EC,(ax ca (al 4 (ah (ah (ah (ah (ax aX i3 (al 4 Q2.2).2).2).2).2).2).2).1.toNat (al 4 (ah (ah (ah (ah (ax aX i3 (al 4 Q2.2).2).2).2).2).2).2).2).1⟩⟩:aa)]⟩ ⟨(by show i3+1≤(al 4 Q2.2).1.toNat;omega),(by rw[List.map_append,N0];exact congrArg (fun z=>(ax aX i3 (al 4 Q2.2).2).1++[z]) (show aa.abs (⟨(ah (ax aX i3 (al 4 Q2.2).2).2).1,(ah (ah (ax aX i3 (al 4 Q2.2).2).2).2).1,(ah (ah (ah (ax aX i3 (al 4 Q2.2).2).2).2).2).1,(ah (ah (ah (ah (ax aX i3 (al 4 Q2.2).2).2).2).2).2).1,⟨EB,EC,(ax ca (al 4 (ah (ah (ah (ah (ax aX i3 (al 4 Q2.2).2).2).2).2).2).2).1.toNat (al 4 (ah (ah (ah (ah (ax aX i3 (al 4 Q2.2).2).2).2).2).2).2).2).1⟩⟩:aa)=(aX (ax aX i3 (al 4 Q2.2).2).2).1 from rfl)),(fun x hx=>by rcases List.mem_append.1 hx with hx|hx;exact Pt x hx;rw[List.mem_singleton]at hx;subst hx;exact Rd)⟩ (by show (al 4 Q2.2).1.toNat - (i3+1)<(al 4 Q2.2).1.toNat - i3;omega)
 refine Mo 1 ?_ call159 (fun bs w hS hb=>iD (ax ca i4 (al 4 (ah (ah (ah (ah (ax aX i3 (al 4 Q2.2).2).2).2).2).2).2).2).2 (bs.getD 1 0) w hb (bp (B:=9223372036854775807) (fun q h=>hZ q _ h) i4 (al 4 (ah (ah (ah (ah (ax aX i3 (al 4 Q2.2).2).2).2).2).2).2).2 (bt 4 (ah (ah (ah (ah (ax aX i3 (al 4 Q2.2).2).2).2).2).2).2 _ (aP (ah (ah (ah (ax aX i3 (al 4 Q2.2).2).2).2).2).2 _ (aP (ah (ah (ax aX i3 (al 4 Q2.2).2).2).2).2 _ (aP (ah (ax aX i3 (al 4 Q2.2).2).2).2 _ (aP (ax aX i3 (al 4 Q2.2).2).2 _ (bp (B:=9223372036854775807) (fun q h=>gw q _ h) i3 (al 4 Q2.2).2 (bt 4 Q2.2 _ so)))))))))
 rintro y _
 refine Mo 1 ?_ call159 (fun bs w hS hb=>iD (ah (ax ca i4 (al 4 (ah (ah (ah (ah (ax aX i3 (al 4 Q2.2).2).2).2).2).2).2).2).2).2 (bs.getD 1 0) w hb (aP (ax ca i4 (al 4 (ah (ah (ah (ah (ax aX i3 (al 4 Q2.2).2).2).2).2).2).2).2).2 _ (bp (B:=9223372036854775807) (fun q h=>hZ q _ h) i4 (al 4 (ah (ah (ah (ah (ax aX i3 (al 4 Q2.2).2).2).2).2).2).2).2 (bt 4 (ah (ah (ah (ah (ax aX i3 (al 4 Q2.2).2).2).2).2).2).2 _ (aP (ah (ah (ah (ax aX i3 (al 4 Q2.2).2).2).2).2).2 _ (aP (ah (ah (ax aX i3 (al 4 Q2.2).2).2).2).2 _ (aP (ah (ax aX i3 (al 4 Q2.2).2).2).2 _ (aP (ax aX i3 (al 4 Q2.2).2).2 _ (bp (B:=9223372036854775807) (fun q h=>gw q _ h) i3 (al 4 Q2.2).2 (bt 4 Q2.2 _ so))))))))))
 rintro y _
 refine Mo 1 ?_ call159 (fun bs w hS hb=>iD (ah (ah (ax ca i4 (al 4 (ah (ah (ah (ah (ax aX i3 (al 4 Q2.2).2).2).2).2).2).2).2).2).2).2 (bs.getD 1 0) w hb (aP (ah (ax ca i4 (al 4 (ah (ah (ah (ah (ax aX i3 (al 4 Q2.2).2).2).2).2).2).2).2).2).2 _ (aP (ax ca i4 (al 4 (ah (ah (ah (ah (ax aX i3 (al 4 Q2.2).2).2).2).2).2).2).2).2 _ (bp (B:=9223372036854775807) (fun q h=>hZ q _ h) i4 (al 4 (ah (ah (ah (ah (ax aX i3 (al 4 Q2.2).2).2).2).2).2).2).2 (bt 4 (ah (ah (ah (ah (ax aX i3 (al 4 Q2.2).2).2).2).2).2).2 _ (aP (ah (ah (ah (ax aX i3 (al 4 Q2.2).2).2).2).2).2 _ (aP (ah (ah (ax aX i3 (al 4 Q2.2).2).2).2).2 _ (aP (ah (ax aX i3 (al 4 Q2.2).2).2).2 _ (aP (ax aX i3 (al 4 Q2.2).2).2 _ (bp (B:=9223372036854775807) (fun q h=>gw q _ h) i3 (al 4 Q2.2).2 (bt 4 Q2.2 _ so)))))))))))
 rintro y _
 refine Mo 1 ?_ call161 (fun bs w hS hb=>tE (ah (ah (ah (ax ca i4 (al 4 (ah (ah (ah (ah (ax aX i3 (al 4 Q2.2).2).2).2).2).2).2).2).2).2).2).2 (bs.getD 1 0) w hb (aP (ah (ah (ax ca i4 (al 4 (ah (ah (ah (ah (ax aX i3 (al 4 Q2.2).2).2).2).2).2).2).2).2).2).2 _ (aP (ah (ax ca i4 (al 4 (ah (ah (ah (ah (ax aX i3 (al 4 Q2.2).2).2).2).2).2).2).2).2).2 _ (aP (ax ca i4 (al 4 (ah (ah (ah (ah (ax aX i3 (al 4 Q2.2).2).2).2).2).2).2).2).2 _ (bp (B:=9223372036854775807) (fun q h=>hZ q _ h) i4 (al 4 (ah (ah (ah (ah (ax aX i3 (al 4 Q2.2).2).2).2).2).2).2).2 (bt 4 (ah (ah (ah (ah (ax aX i3 (al 4 Q2.2).2).2).2).2).2).2 _ (aP (ah (ah (ah (ax aX i3 (al 4 Q2.2).2).2).2).2).2 _ (aP (ah (ah (ax aX i3 (al 4 Q2.2).2).2).2).2 _ (aP (ah (ax aX i3 (al 4 Q2.2).2).2).2 _ (aP (ax aX i3 (al 4 Q2.2).2).2 _ (bp (B:=9223372036854775807) (fun q h=>gw q _ h) i3 (al 4 Q2.2).2 (bt 4 Q2.2 _ so))))))))))))
 rintro y _
 refine M1 ?_
 refine gX (α:=aK) 40 ([(⟨(ah (ax ca i4 (al 4 (ah (ah (ah (ah (ax aX i3 (al 4 Q2.2).2).2).2).2).2).2).2).2).1,⟨(ah (ah (ax ca i4 (al 4 (ah (ah (ah (ah (ax aX i3 (al 4 Q2.2).2).2).2).2).2).2).2).2).2).1,(ah (ah (ah (ax ca i4 (al 4 (ah (ah (ah (ah (ax aX i3 (al 4 Q2.2).2).2).2).2).2).2).2).2).2).2).1,(bw (ah (ah (ah (ax ca i4 (al 4 (ah (ah (ah (ah (ax aX i3 (al 4 Q2.2).2).2).2).2).2).2).2).2).2).2).2).1⟩⟩:aK)]) ?_
 intro S9 Ta
 refine Mi ?_ (pR ((i4:Int)+1))
 refine dx (dx (dx (dx (dx (dx ?_)))))
 exact Ha ⟨i4+1,S9,Ta⟩ ⟨(by show i4+1≤(al 4 (ah (ah (ah (ah (ax aX i3 (al 4 Q2.2).2).2).2).2).2).2).1.toNat;omega),(fun x hx=>by rcases List.mem_append.1 hx with hx|hx;exact Rd x hx;rw[List.mem_singleton]at hx;subst hx;exact (cW (ah (ah (ah (ax ca i4 (al 4 (ah (ah (ah (ah (ax aX i3 (al 4 Q2.2).2).2).2).2).2).2).2).2).2).2).2 _ (aP (ah (ah (ax ca i4 (al 4 (ah (ah (ah (ah (ax aX i3 (al 4 Q2.2).2).2).2).2).2).2).2).2).2).2 _ (aP (ah (ax ca i4 (al 4 (ah (ah (ah (ah (ax aX i3 (al 4 Q2.2).2).2).2).2).2).2).2).2).2 _ (aP (ax ca i4 (al 4 (ah (ah (ah (ah (ax aX i3 (al 4 Q2.2).2).2).2).2).2).2).2).2 _ (bp (B:=9223372036854775807) (fun q h=>hZ q _ h) i4 (al 4 (ah (ah (ah (ah (ax aX i3 (al 4 Q2.2).2).2).2).2).2).2).2 (bt 4 (ah (ah (ah (ah (ax aX i3 (al 4 Q2.2).2).2).2).2).2).2 _ (aP (ah (ah (ah (ax aX i3 (al 4 Q2.2).2).2).2).2).2 _ (aP (ah (ah (ax aX i3 (al 4 Q2.2).2).2).2).2 _ (aP (ah (ax aX i3 (al 4 Q2.2).2).2).2 _ (aP (ax aX i3 (al 4 Q2.2).2).2 _ (bp (B:=9223372036854775807) (fun q h=>gw q _ h) i3 (al 4 Q2.2).2 (bt 4 Q2.2 _ so)))))))))))).2)⟩ (by show (al 4 (ah (ah (ah (ah (ax aX i3 (al 4 Q2.2).2).2).2).2).2).2).1.toNat - (i4+1)<(al 4 (ah (ah (ah (ah (ax aX i3 (al 4 Q2.2).2).2).2).2).2).2).1.toNat - i4;omega)
theorem B9 {B B':Nat→Prop}(a b:aN)(w:World)(ha:aJ.sub B w a)(hb:aJ.sub B' w b)(he:a.abs=b.abs):Calls prog 9 #[a.val,b.val] w fun e w'=>e=.returned (vb true)∧Kp [] w w':=by
 have qa:=aJ.bL ha
 have EV:=aJ.bL hb
 refine M0 ?_ func9
 refine Md (a.index=b.index) (fun h1=>?_) fun h1=>?_
 rotate_left
 ·exact absurd (congrArg (fun q=>q.index) he) h1
 refine Mp ?_ call43 (fun bs w hS=>BW _ _ w (aJ.kp ha hS.kp).1 (aJ.kp hb hS.kp).1 (congrArg aZ.aj he))
 refine Mq 17 true ?_ rfl
 refine Mp ?_ call44 (fun bs w hS=>B7 a.an b.an w (aJ.kp ha hS.kp).2.1 (aJ.kp hb hS.kp).2.1 (congrArg aZ.an he))
 refine Mq 24 true ?_ rfl
 refine Mp ?_ call45 (fun bs w hS=>vX _ _ w (aJ.kp ha hS.kp).2.2 (aJ.kp hb hS.kp).2.2 (congrArg aZ.af he))
 exact Mt [vb true] fun bs w hS=>⟨rfl,hS.kp⟩
theorem vu (x:aw)(w:World)(hx:aJ.sub B w x):Calls prog 111 #[x.val] w fun e w'=> ∃y:aN,e=.returned (.tuple #[y.val,vi (dC x.abs).2])∧y.abs=(dC x.abs).1∧bJ w w' y:=by
 have qL:x.abs.log=x.log.abs:=rfl
 have qS:x.abs.state=x.state.abs:=rfl
 have qN:x.abs.snap=x.snap:=rfl
 have qB:x.abs.log.base=x.log.base:=rfl
 have qI:x.abs.state.index=x.state.index:=rfl
 have qM:cD x.abs.log=x.log.base+(x.log.entries.n:Int):=rfl
 have cC:=aJ.bL hx
 have oE:=cC.2.1
 have mr:=Sl.ok.nc oE
 have mu:x.log.entries.n=x.log.entries.xs.length:=rfl
 refine M0 ?_ func111
 refine Md (x.log.base=0) (fun h1=>?_) fun h1=>?_
 ·refine cr (x.snap=emp) (fun h2=>?_) fun h2=>?_
  ·exact eE (ux (r:=x.abs) h1 h2) (⟨0,Sl.nil,Sl.nil,Sl.nil⟩:aN) rfl fun bs w hS=>hS.aO (y:=(⟨0,Sl.nil,Sl.nil,Sl.nil⟩:aN)) ⟨Sl.ao _ _,Sl.ao _ _,Sl.ao _ _⟩
  exact eE (uy (r:=x.abs) h1 h2) (⟨0,Sl.nil,Sl.nil,Sl.nil⟩:aN) rfl fun bs w hS=>hS.aO (y:=(⟨0,Sl.nil,Sl.nil,Sl.nil⟩:aN)) ⟨Sl.ao _ _,Sl.ao _ _,Sl.ao _ _⟩
 refine Mu ?_ call156 (fun bs w hS=>sQ x.snap w cC.1)
 rintro gZ y1 a5 ft
 refine cr ((bb x.snap).2=0) (fun h3=>?_) fun h3=>?_
 rotate_left
 ·exact eE (wQ (r:=x.abs) h1 h3) (⟨0,Sl.nil,Sl.nil,Sl.nil⟩:aN) rfl fun bs w hS=>hS.aO (y:=(⟨0,Sl.nil,Sl.nil,Sl.nil⟩:aN)) ⟨Sl.ao _ _,Sl.ao _ _,Sl.ao _ _⟩
 refine cr (y1.index=x.log.base) (fun h4=>?_) fun h4=>?_
 rotate_left
 ·exact eE (wR (r:=x.abs) (i:=y1.index) h1 (show y1.index=(bb x.abs.snap).1.index from congrArg aZ.index a5) h4) (⟨0,Sl.nil,Sl.nil,Sl.nil⟩:aN) rfl fun bs w hS=>hS.aO (y:=(⟨0,Sl.nil,Sl.nil,Sl.nil⟩:aN)) ⟨Sl.ao _ _,Sl.ao _ _,Sl.ao _ _⟩
 exact eE (zw (r:=x.abs) (i:=y1.index) h1 h3 (show y1.index=(bb x.abs.snap).1.index from congrArg aZ.index a5) h4) y1 (a5) fun bs w hS=>hS.aO (aU i0 (hS.res _ i0))
theorem iY (x:aw)(w:World)(hx:aJ.sub B w x):Calls prog 47 #[x.val] w fun e w'=>e=.returned (vi (a6 x.abs))∧Kp [] w w':=by
 have qL:x.abs.log=x.log.abs:=rfl
 have qS:x.abs.state=x.state.abs:=rfl
 have qN:x.abs.snap=x.snap:=rfl
 have qB:x.abs.log.base=x.log.base:=rfl
 have qI:x.abs.state.index=x.state.index:=rfl
 have qM:cD x.abs.log=x.log.base+(x.log.entries.n:Int):=rfl
 have cC:=aJ.bL hx
 have oE:=cC.2.1
 have mr:=Sl.ok.nc oE
 have mu:x.log.entries.n=x.log.entries.xs.length:=rfl
 refine M0 ?_ func47
 refine Mp ?_ call110 (fun bs w hS=>o7 x.log w (aJ.kp hx hS.kp).2.1)
 refine cr (cT x.log.abs=0) (fun h1=>?_) fun h1=>?_
 rotate_left
 ·exact cd (cT x.log.abs) (zx (r:=x.abs) h1)
 obtain⟨gU,gT,jB,nH⟩:=eb h1
 have va:x.log.abs.base=x.log.base:=rfl
 have nJ:x.log.abs.entries=x.log.entries.xs:=rfl
 rw[va]at gU gT
 rw[nJ]at jB
 refine Mp ?_ call20 (fun bs w hS=>kt x.state w ⟨(aJ.kp hx hS.kp).2.2.1,(aJ.kp hx hS.kp).2.2.2.1,(aJ.kp hx hS.kp).2.2.2.2⟩)
 refine cr (bA x.state.abs=0) (fun h2=>?_) fun h2=>?_
 rotate_left
 ·exact cd (bA x.state.abs) (uz (r:=x.abs) h1 h2)
 refine cZ 16 [] [] [] ai ?_
 refine Md (x.state.index<x.log.base) (fun h3=>?_) fun h3=>?_
 ·exact cd 9 (uA (r:=x.abs) h1 h2 (by rw[qI,qB,qM];omega))
 refine Mp ?_ call49 (fun bs w hS=>gQ x.log w (aJ.kp hx hS.kp).2.1 (by first|exact⟨by omega,by omega,by omega⟩|omega))
 refine Md (x.log.base+(x.log.entries.n:Int)<x.state.index) (fun h4=>?_) fun h4=>?_
 ·exact cd 9 (uA (r:=x.abs) h1 h2 (by rw[qI,qB,qM];omega))
 refine Mu ?_ call111 (fun bs w hS=>vu x w (aJ.kp hx hS.kp))
 rintro gZ y1 a5 ft
 exact cd ((dC x.abs).2) (lA (r:=x.abs) h1 h2 (by rw[qI,qB,qM];omega))
theorem gz (x:aw)(w:World)(hx:aJ.sub B w x):Calls prog 50 #[x.val] w fun e w'=>e=.returned (vi (a6 x.abs))∧Kp [] w w':=by
 have qL:x.abs.log=x.log.abs:=rfl
 have qS:x.abs.state=x.state.abs:=rfl
 have qN:x.abs.snap=x.snap:=rfl
 have qB:x.abs.log.base=x.log.base:=rfl
 have qI:x.abs.state.index=x.state.index:=rfl
 have qM:cD x.abs.log=x.log.base+(x.log.entries.n:Int):=rfl
 have cC:=aJ.bL hx
 have oE:=cC.2.1
 have mr:=Sl.ok.nc oE
 have mu:x.log.entries.n=x.log.entries.xs.length:=rfl
 refine M0 ?_ func50
 refine Mp ?_ call113 (fun bs w hS=>lh x.log w (aJ.kp hx hS.kp).2.1)
 refine Md (cT x.log.abs=0) (fun h1=>?_) fun h1=>?_
 rotate_left
 ·refine My false true ?_ (df h1)
  exact cd (cT x.log.abs) (zx (r:=x.abs) h1)
 obtain⟨gU,gT,jB,nH⟩:=eb h1
 have va:x.log.abs.base=x.log.base:=rfl
 have nJ:x.log.abs.entries=x.log.entries.xs:=rfl
 rw[va]at gU gT
 rw[nJ]at jB
 refine Mp ?_ call30 (fun bs w hS=>jR x.state w ⟨(aJ.kp hx hS.kp).2.2.1,(aJ.kp hx hS.kp).2.2.2.1,(aJ.kp hx hS.kp).2.2.2.2⟩)
 refine cr (bA x.state.abs=0) (fun h2=>?_) fun h2=>?_
 rotate_left
 ·exact cd (bA x.state.abs) (uz (r:=x.abs) h1 h2)
 refine cZ 11 [] [] [] ai ?_
 refine Mp ?_ call52 (fun bs w hS=>dD x.log w (aJ.kp hx hS.kp).2.1 (by first|exact⟨by omega,by omega,by omega⟩|omega))
 refine Mp ?_ call51 (fun bs w hS=>b6 x.state.index x.log.base (x.log.base+(x.log.entries.n:Int)) w)
 refine fL (gk x.state.index x.log.base (x.log.base+(x.log.entries.n:Int))) (fun h3=>?_) fun h3=>?_
 rotate_left
 ·simp only[iT,iF]at h3
  exact cd 9 (uA (r:=x.abs) h1 h2 (by (try simp only[iT,iF]at h3);rw[qI,qB,qM];omega))
 simp only[iT,iF]at h3
 refine Md (x.log.base=0) (fun h4=>?_) fun h4=>?_
 ·refine cr (x.snap=emp) (fun h5=>?_) fun h5=>?_
  rotate_left
  ·refine cd 9 ?_
   have hm:=lA (r:=x.abs) h1 h2 (by (try simp only[iT,iF]at h3);rw[qI,qB,qM];omega)
   have hk:=uy (r:=x.abs) h4 h5
   rw[hm,hk]
  have OJ:x.snap.size=0:=by rw[h5];rfl
  refine cd 0 ?_
  have hm:=lA (r:=x.abs) h1 h2 (by (try simp only[iT,iF]at h3);rw[qI,qB,qM];omega)
  have hk:=ux (r:=x.abs) h4 h5
  rw[hm,hk]
 refine Mu ?_ call114 (fun bs w hS=>p7 x.snap w cC.1)
 rintro gZ y1 a5 ft
 refine cr ((bb x.snap).2=0) (fun h6=>?_) fun h6=>?_
 rotate_left
 ·refine cd 9 ?_
  have hm:=lA (r:=x.abs) h1 h2 (by (try simp only[iT,iF]at h3);rw[qI,qB,qM];omega)
  have hk:=wQ (r:=x.abs) h4 h6
  rw[hm,hk]
 refine cr (y1.index=x.log.base) (fun h7=>?_) fun h7=>?_
 rotate_left
 ·refine cd 9 ?_
  have hm:=lA (r:=x.abs) h1 h2 (by (try simp only[iT,iF]at h3);rw[qI,qB,qM];omega)
  have hk:=wR (r:=x.abs) (i:=y1.index) h4 (show y1.index=(bb x.abs.snap).1.index from congrArg aZ.index a5) h7
  rw[hm,hk]
 refine cd 0 ?_
 have hm:=lA (r:=x.abs) h1 h2 (by (try simp only[iT,iF]at h3);rw[qI,qB,qM];omega)
 have hk:=zw (r:=x.abs) (i:=y1.index) h4 h6 (show y1.index=(bb x.abs.snap).1.index from congrArg aZ.index a5) h7
 rw[hm,hk]
theorem px (x:aN)(w:World)(hx:aJ.sub B w x)(lj:aJ.small x):Calls prog 6 #[x.val] w fun e w'=> ∃y:aN,e=.returned (y.val)∧y.abs=x.abs∧bJ w w' y:=by
 have cC:=aJ.bL hx
 have Nu:x.an.xs.length*40≤140737488355328:=lj.2.1.1
 refine M0 ?_ func6
 refine cZ 12 [] [] [] ai ?_
 refine Mu ?_ call18 (fun bs w hS=>vj x.aj w (aJ.kp hx hS.kp).1 lj.1)
 rintro gZ y1 a5 ft
 refine bU (α:=aG) 128 ?_
 refine Ma ?_ (α:=aG) (L2:=x.an.xs) 40 (fun bs w hS=>Sl.rd.src (s:=x.an) (aJ.kp hx hS.kp).2.1)
 intro A2 c2
 refine Mu ?_ call19 (fun bs w hS=>re x.af w (aJ.kp hx hS.kp).2.2 lj.2.2)
 rintro sN y3 my sm
 refine Mt [.agg #[vi x.index,y1.val,.slice A2 ([]++x.an.xs).length c2,y3.val]] fun bs w hS=>?_
 have vL:aN.abs (⟨x.index,y1,⟨A2,c2,[]++x.an.xs⟩,y3⟩:aN)=aN.abs x:=by simp[aN.abs, *]
 exact⟨(⟨x.index,y1,⟨A2,c2,[]++x.an.xs⟩,y3⟩:aN),rfl,vL,hS.aO (y:=(⟨x.index,y1,⟨A2,c2,[]++x.an.xs⟩,y3⟩:aN)) ⟨(aU i2 (hS.res _ i2)),(a4 i1 (hS.res _ i1) (fun z hz=>Sl.rd.mem (s:=x.an) (aJ.kp hx hS.kp).2.1 z (by simpa using hz))),(aU i0 (hS.res _ i0))⟩⟩
theorem rl (x:aN)(w:World)(hx:aJ.sub B w x)(lj:aJ.small x):Calls prog 22 #[x.val] w fun e w'=> ∃y:aN,e=.returned (y.val)∧y.abs=x.abs∧bJ w w' y:=by
 have cC:=aJ.bL hx
 refine M0 ?_ func22
 refine cZ 12 [] [] [] ai ?_
 refine Mu ?_ call68 (fun bs w hS=>BV x.aj w (aJ.kp hx hS.kp).1 lj.1)
 rintro gZ y1 a5 ft
 refine Mf ?_ call69 (fun bs w hS=>vq x.an w (aJ.kp hx hS.kp).2.1 lj.2.1.1)
 rintro y2 jw
 refine Mu ?_ call70 (fun bs w hS=>vW x.af w (aJ.kp hx hS.kp).2.2 lj.2.2)
 rintro ED y4 GJ wa
 refine Mt [.agg #[vi x.index,y1.val,y2.val,y4.val]] fun bs w hS=>?_
 have vL:aN.abs (⟨x.index,y1,y2,y4⟩:aN)=aN.abs x:=by simp[aN.abs, *]
 exact⟨(⟨x.index,y1,y2,y4⟩:aN),rfl,vL,hS.aO (y:=(⟨x.index,y1,y2,y4⟩:aN)) ⟨(aU i2 (hS.res _ i2)),(a4 i1 (hS.res _ i1) (fun z hz=>Sl.rd.mem (aJ.kp hx hS.kp).2.1 z (jw▸hz))),(aU i0 (hS.res _ i0))⟩⟩
theorem gS (x:aw)(w:World)(hx:aJ.sub B w x)(lj:aJ.small x):Calls prog 10 #[x.val] w fun e w'=> ∃y:aw,e=.returned (y.val)∧y.abs=x.abs∧bJ w w' y:=by
 have cC:=aJ.bL hx
 refine M0 ?_ func10
 refine cZ 9 [] [] [] ai ?_
 refine Mu ?_ call46 (fun bs w hS=>AA x.log w (aJ.kp hx hS.kp).2.1 lj.1)
 rintro gZ y1 a5 ft
 refine Mu ?_ call6 (fun bs w hS=>px x.state w ⟨(aJ.kp hx hS.kp).2.2.1,(aJ.kp hx hS.kp).2.2.2.1,(aJ.kp hx hS.kp).2.2.2.2⟩ ⟨lj.2.1,lj.2.2.1,lj.2.2.2⟩)
 rintro gn y2 jw jT
 refine Mt [.agg #[vi y1.base,y1.entries.val,vs x.snap,vi y2.index,y2.aj.val,y2.an.val,y2.af.val]] fun bs w hS=>?_
 have vL:aw.abs (⟨⟨y1.base,y1.entries⟩,x.snap,⟨y2.index,y2.aj,y2.an,y2.af⟩⟩:aw)=aw.abs x:=by simp[aw.abs, *]
 exact⟨(⟨⟨y1.base,y1.entries⟩,x.snap,⟨y2.index,y2.aj,y2.an,y2.af⟩⟩:aw),rfl,vL,hS.aO (y:=(⟨⟨y1.base,y1.entries⟩,x.snap,⟨y2.index,y2.aj,y2.an,y2.af⟩⟩:aw)) ⟨cC.1,(aU (y:=y1) i1 (hS.res _ i1)),(aU (y:=y2) i0 (hS.res _ i0)).1,(aU (y:=y2) i0 (hS.res _ i0)).2.1,(aU (y:=y2) i0 (hS.res _ i0)).2.2⟩⟩
theorem jV (x:aw)(w:World)(hx:aJ.sub B w x)(lj:aJ.small x):Calls prog 48 #[x.val] w fun e w'=> ∃y:aw,e=.returned (y.val)∧y.abs=x.abs∧bJ w w' y:=by
 have cC:=aJ.bL hx
 refine M0 ?_ func48
 refine cZ 9 [] [] [] ai ?_
 refine Mu ?_ call112 (fun bs w hS=>GG x.log w (aJ.kp hx hS.kp).2.1 lj.1)
 rintro gZ y1 a5 ft
 refine Mu ?_ call22 (fun bs w hS=>rl x.state w ⟨(aJ.kp hx hS.kp).2.2.1,(aJ.kp hx hS.kp).2.2.2.1,(aJ.kp hx hS.kp).2.2.2.2⟩ ⟨lj.2.1,lj.2.2.1,lj.2.2.2⟩)
 rintro gn y2 jw jT
 refine Mt [.agg #[vi y1.base,y1.entries.val,vs x.snap,vi y2.index,y2.aj.val,y2.an.val,y2.af.val]] fun bs w hS=>?_
 have vL:aw.abs (⟨⟨y1.base,y1.entries⟩,x.snap,⟨y2.index,y2.aj,y2.an,y2.af⟩⟩:aw)=aw.abs x:=by simp[aw.abs, *]
 exact⟨(⟨⟨y1.base,y1.entries⟩,x.snap,⟨y2.index,y2.aj,y2.an,y2.af⟩⟩:aw),rfl,vL,hS.aO (y:=(⟨⟨y1.base,y1.entries⟩,x.snap,⟨y2.index,y2.aj,y2.an,y2.af⟩⟩:aw)) ⟨cC.1,(aU (y:=y1) i1 (hS.res _ i1)),(aU (y:=y2) i0 (hS.res _ i0)).1,(aU (y:=y2) i0 (hS.res _ i0)).2.1,(aU (y:=y2) i0 (hS.res _ i0)).2.2⟩⟩
theorem yB {B B':Nat→Prop}(a b:aw)(w:World)(ha:aJ.sub B w a)(hb:aJ.sub B' w b)(he:a.abs=b.abs):Calls prog 13 #[a.val,b.val] w fun e w'=>e=.returned (vb true)∧Kp [] w w':=by
 have qa:=aJ.bL ha
 have EV:=aJ.bL hb
 refine M0 ?_ func13
 refine Md (a.snap=b.snap) (fun h1=>?_) fun h1=>?_
 rotate_left
 ·exact absurd (congrArg (fun q=>q.snap) he) h1
 refine Mp ?_ call53 (fun bs w hS=>GA a.log b.log w (aJ.kp ha hS.kp).2.1 (aJ.kp hb hS.kp).2.1 (congrArg aT.log he))
 refine Mq 17 true ?_ rfl
 refine Mp ?_ call9 (fun bs w hS=>B9 a.state b.state w ⟨(aJ.kp ha hS.kp).2.2.1,(aJ.kp ha hS.kp).2.2.2.1,(aJ.kp ha hS.kp).2.2.2.2⟩ ⟨(aJ.kp hb hS.kp).2.2.1,(aJ.kp hb hS.kp).2.2.2.1,(aJ.kp hb hS.kp).2.2.2.2⟩ (congrArg aT.state he))
 exact Mt [vb true] fun bs w hS=>⟨rfl,hS.kp⟩
theorem s8 (x:aw)(w:World)(hx:aJ.sub B w x):Calls prog 171 #[.agg #[.int .i64 x.log.base,.slice x.log.entries.A x.log.entries.n x.log.entries.c,.string x.snap,.int .i64 x.state.index,.slice x.state.aj.A x.state.aj.n x.state.aj.c,.slice x.state.an.A x.state.an.n x.state.an.c,.slice x.state.af.A x.state.af.n x.state.af.c]] w fun e w'=> ∃y:aw,e=.returned (.tuple #[.agg #[.int .i64 y.log.base,.slice y.log.entries.A y.log.entries.n y.log.entries.c,.string y.snap,.int .i64 y.state.index,.slice y.state.aj.A y.state.aj.n y.state.aj.c,.slice y.state.an.A y.state.an.n y.state.an.c,.slice y.state.af.A y.state.af.n y.state.af.c],.int .i64 (cK x.abs).2])∧y.abs=(cK x.abs).1∧bJ w w' y:=by
 have qL:x.abs.log=x.log.abs:=rfl
 have qS:x.abs.state=x.state.abs:=rfl
 have qN:x.abs.snap=x.snap:=rfl
 have qB:x.abs.log.base=x.log.base:=rfl
 have qI:x.abs.state.index=x.state.index:=rfl
 have qM:cD x.abs.log=x.log.base+(x.log.entries.n:Int):=rfl
 have cC:=aJ.bL hx
 have oE:=cC.2.1
 have mr:=Sl.ok.nc oE
 have mu:x.log.entries.n=x.log.entries.xs.length:=rfl
 refine M0 ?_ func171
 refine Mp ?_ call47 (fun bs w hS=>iY x w (aJ.kp hx hS.kp))
 refine cr (a6 x.abs=0) (fun h1=>?_) fun h1=>?_
 rotate_left
 ·have hm:cK x.abs=(dA,a6 x.abs):=by grind[cK]
  exact eE hm (⟨⟨0,Sl.nil⟩,emp,0,Sl.nil,Sl.nil,Sl.nil⟩:aw) rfl fun bs w hS=>hS.aO (y:=(⟨⟨0,Sl.nil⟩,emp,0,Sl.nil,Sl.nil,Sl.nil⟩:aw)) ⟨(by show emp.size≤_;rw[aL];omega),Sl.ao _ _,Sl.ao _ _,Sl.ao _ _,Sl.ao _ _⟩
 refine Mu ?_ call48 (fun bs w hS=>jV x w (aJ.kp hx hS.kp) (ji (by assumption)))
 rintro gZ y1 a5 ft
 refine Mu ?_ call111 (fun bs w hS=>vu y1 w (hS.res _ i0))
 rintro gn y2 jw jT
 refine Mt [.agg #[vi y1.log.base,y1.log.entries.val,vs y1.snap,vi y2.index,y2.aj.val,y2.an.val,y2.af.val],vi 0] fun bs w hS=>?_
 have hm:cK x.abs=(⟨x.log.abs,x.snap,(dC x.abs).1⟩,0):=by grind[cK]
 have hl:y1.log.abs=x.log.abs:=congrArg aT.log a5
 have hs:y1.snap=x.snap:=congrArg aT.snap a5
 have ha:(y2).abs=(dC x.abs).1:=by show y2.abs=_;rw[jw,a5]
 have np:=(show aJ.sub (· ∈(cN [bF gn y2,bF gZ y1]).fp) w y1 from aU (y:=y1) i1 (hS.res _ i1))
 have sJ:=(show aJ.sub (· ∈(cN [bF gn y2,bF gZ y1]).fp) w y2 from aU (y:=y2) i0 (hS.res _ i0))
 refine⟨(⟨y1.log,y1.snap,y2⟩:aw),?_,?_,hS.aO (y:=(⟨y1.log,y1.snap,y2⟩:aw)) ⟨np.1,np.2.1,sJ⟩⟩
 ·rw[hm];rfl
 ·rw[hm];show (⟨y1.log.abs,y1.snap,(y2).abs⟩:aT)=_;rw[hl,hs,ha]
theorem s9 (x:aw)(w:World)(hx:aJ.sub B w x)(lj:aJ.small x):Calls prog 127 #[x.val] w fun e w'=> ∃y:aw,e=.returned (.tuple #[y.val,vi (cK x.abs).2])∧y.abs=(cK x.abs).1∧bJ w w' y:=by
 have qL:x.abs.log=x.log.abs:=rfl
 have qS:x.abs.state=x.state.abs:=rfl
 have qN:x.abs.snap=x.snap:=rfl
 have qB:x.abs.log.base=x.log.base:=rfl
 have qI:x.abs.state.index=x.state.index:=rfl
 have qM:cD x.abs.log=x.log.base+(x.log.entries.n:Int):=rfl
 have cC:=aJ.bL hx
 have oE:=cC.2.1
 have mr:=Sl.ok.nc oE
 have mu:x.log.entries.n=x.log.entries.xs.length:=rfl
 refine M0 ?_ func127
 refine Mp ?_ call50 (fun bs w hS=>gz x w (aJ.kp hx hS.kp))
 refine cr (a6 x.abs=0) (fun h1=>?_) fun h1=>?_
 rotate_left
 ·have hm:cK x.abs=(dA,a6 x.abs):=by grind[cK]
  exact eE hm (⟨⟨0,Sl.nil⟩,emp,0,Sl.nil,Sl.nil,Sl.nil⟩:aw) rfl fun bs w hS=>hS.aO (y:=(⟨⟨0,Sl.nil⟩,emp,0,Sl.nil,Sl.nil,Sl.nil⟩:aw)) ⟨(by show emp.size≤_;rw[aL];omega),Sl.ao _ _,Sl.ao _ _,Sl.ao _ _,Sl.ao _ _⟩
 refine Mu ?_ call10 (fun bs w hS=>gS x w (aJ.kp hx hS.kp) lj)
 rintro gZ y1 a5 ft
 refine Md ((0:Int)<x.log.base) (fun h2=>?_) fun h2=>?_
 rotate_left
 ·refine Mt [.agg #[vi y1.log.base,y1.log.entries.val,vs y1.snap,vi 0,vn,vn,vn],vi 0] fun bs w hS=>?_
  have hm:cK x.abs=(⟨x.log.abs,x.snap,(dC x.abs).1⟩,0):=by grind[cK]
  have hl:y1.log.abs=x.log.abs:=congrArg aT.log a5
  have hs:y1.snap=x.snap:=congrArg aT.snap a5
  have hp:=cq h1
  have QG:=(eb hp.1).1
  have hk:(dC x.abs).1=cR:=by
    unfold dC
    rw[if_pos (by rw[qB]at QG⊢;omega)]
    split<;>rfl
  have ha:((⟨0,Sl.nil,Sl.nil,Sl.nil⟩:aN)).abs=(dC x.abs).1:=by rw[hk];rfl
  have np:=(show aJ.sub (· ∈(cN [bF gZ y1]).fp) w y1 from aU (y:=y1) i0 (hS.res _ i0))
  skip
  refine⟨(⟨y1.log,y1.snap,(⟨0,Sl.nil,Sl.nil,Sl.nil⟩:aN)⟩:aw),?_,?_,hS.aO (y:=(⟨y1.log,y1.snap,(⟨0,Sl.nil,Sl.nil,Sl.nil⟩:aN)⟩:aw)) ⟨np.1,np.2.1,⟨Sl.ao _ _,Sl.ao _ _,Sl.ao _ _⟩⟩⟩
  ·rw[hm];rfl
  ·rw[hm];show (⟨y1.log.abs,y1.snap,((⟨0,Sl.nil,Sl.nil,Sl.nil⟩:aN)).abs⟩:aT)=_;rw[hl,hs,ha]
 refine Mu ?_ call114 (fun bs w hS=>p7 x.snap w cC.1)
 rintro gn y2 jw jT
 refine Mt [.agg #[vi y1.log.base,y1.log.entries.val,vs y1.snap,vi y2.index,y2.aj.val,y2.an.val,y2.af.val],vi 0] fun bs w hS=>?_
 have hm:cK x.abs=(⟨x.log.abs,x.snap,(dC x.abs).1⟩,0):=by grind[cK]
 have hl:y1.log.abs=x.log.abs:=congrArg aT.log a5
 have hs:y1.snap=x.snap:=congrArg aT.snap a5
 have hp:=cq h1
 have hk:(dC x.abs).1=(bb x.snap).1:=by
   have h9:=hp.2.2.2.2
   unfold dC at h9⊢
   rw[if_neg (by rw[qB];omega)]at h9⊢
   split at h9
   ·rename_i h8;rw[if_pos h8];rfl
   ·cases h9
 have ha:(y2).abs=(dC x.abs).1:=by show y2.abs=_;rw[hk];exact jw
 have np:=(show aJ.sub (· ∈(cN [bF gn y2,bF gZ y1]).fp) w y1 from aU (y:=y1) i1 (hS.res _ i1))
 have sJ:=(show aJ.sub (· ∈(cN [bF gn y2,bF gZ y1]).fp) w y2 from aU (y:=y2) i0 (hS.res _ i0))
 refine⟨(⟨y1.log,y1.snap,y2⟩:aw),?_,?_,hS.aO (y:=(⟨y1.log,y1.snap,y2⟩:aw)) ⟨np.1,np.2.1,sJ⟩⟩
 ·rw[hm];rfl
 ·rw[hm];show (⟨y1.log.abs,y1.snap,(y2).abs⟩:aT)=_;rw[hl,hs,ha]
theorem rm (s:Sl (Fl aa))(p:Fl aa→Bool)(kf:Nat)(dc:Array Value)(w:World)(hs:s.rd B w)(cH: ∀args w,(callFunc kf args).run prog w=.ok (.enter kf args) w)
    (hf: ∀(w':World) (x:(Fl aa)),x∈s.xs→Kp [] w w'→Calls prog kf (#[x.v.val]++dc) w' fun e sX=>e=.returned (vb (p x))∧Kp [] w' sX):Calls prog 137 #[.slice s.A s.n s.c,.func (.func kf) #[] dc] w fun e w'=>e=.returned (vi (aQ p s.xs))∧Kp [] w w':=by
 have cV:=Sl.rd.ok hs
 have iV:=Sl.ok.nc cV
 have iW:s.n=s.xs.length:=rfl
 refine M0 ?_ func137
 refine Ml (σ:=Nat) (fun i=>i≤s.n∧ ∀j,j<i→p (s.at j)=false) (fun i=>s.n - i) (fun _=>[]) [8,7,0,1] (fun i=>[(8,vI (i:Int))]) (fun _=>[]) ?_ 0 ⟨Nat.zero_le _,fun j hj=>absurd hj (Nat.not_lt_zero _)⟩
 rintro i ⟨hi,hI⟩ _ bu
 refine Md ((i:Int)<(s.n:Int)) (fun h1=>?_) (fun h1=>?_)
 rotate_left
 ·refine Mt [.int .i64 (-1)] fun bs w hS=>?_
  refine⟨?_,hS.kp⟩
  rw[gp fun j hj=>hI j (by omega)]
  rfl
 refine Mi ?_ (pA 14 15 (i:Int) i (db hs))
 refine Mv ?_ cH (fun bs w hS=>hf w (s.at i) (List.mem_of_getElem? (Sl.eA (show i<s.n by omega))) hS.kp)
 refine Mb (p (s.at i)) (fun h2=>?_) (fun h2=>?_)
 ·refine Mt [.int .i64 (i:Int)] fun bs w hS=>?_
  refine⟨?_,hS.kp⟩
  rw[fR (i:=i) (by omega) (by assumption) hI]
  rfl
 refine Mi ?_ (pR ((i:Int)+1))
 exact bu (i+1) ⟨by omega,fun j hj=>by rcases Nat.lt_succ_iff_lt_or_eq.1 hj with h|h;exact hI j h;subst h;assumption⟩ (by omega)
theorem AB (s:Sl aa)(p:aa→Bool)(kf:Nat)(dc:Array Value)(w:World)(hs:s.rd B w)(cH: ∀args w,(callFunc kf args).run prog w=.ok (.enter kf args) w)
    (hf: ∀(w':World) (x:aa),x∈s.xs→Kp [] w w'→Calls prog kf (#[x.val]++dc) w' fun e sX=>e=.returned (vb (p x))∧Kp [] w' sX):Calls prog 137 #[s.val,.func (.func kf) #[] dc] w fun e w'=>e=.returned (vi (aQ p s.xs))∧Kp [] w w':=by
  have h:=rm (⟨s.A,s.c,vH s.xs⟩:Sl (Fl aa)) (fun x=>p x.v) kf dc w hs.fl cH (fun w' x hx hk=>hf w' x.v (by obtain⟨y,hy,rfl⟩:=List.mem_map.1 hx;exact hy) hk)
  simp only[tm,Sl.n,List.length_map]at h
  exact h
end Go.Proofs.YtbjakddkfgjkaaaGreat.W
