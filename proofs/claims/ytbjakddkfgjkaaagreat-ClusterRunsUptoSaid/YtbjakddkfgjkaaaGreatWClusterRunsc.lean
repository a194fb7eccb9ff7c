/-
  The functions that the law ClusterRuns reaches, walked: each returns what its model says.
  Conditions: those that each theorem states.
-/
import Derived.Test.YtbjakddkfgjkaaaGreatWClusterRunsb
set_option linter.unusedVariables false
set_option linter.unusedSimpArgs false
set_option maxRecDepth 100000
set_option maxHeartbeats 2000000
namespace Go.Proofs.YtbjakddkfgjkaaaGreat.W
open Go.Proofs.YtbjakddkfgjkaaaGreat.Fw Go.RowKit Tryz
variable {B : Nat → Prop}
attribute [local irreducible] JM nx
theorem yx (s:Sl aa)(n t q:Int)(r:cQ)(w:World)(hs:s.rd B w)(ht:ln t)(hq:ln q)(hr:r.text.size≤9223372036854775807):Calls prog 29 #[s.val,vi n,vi t,vi q,r.val] w fun e w'=> ∃y:Sl aa,e=.returned (.tuple #[y.val,vi (fy (s.xs.map aa.abs) n t q r).2])∧y.xs.map aa.abs=(fy (s.xs.map aa.abs) n t q r).1∧bJ w w' y:=by
 have cV:=Sl.rd.ok hs
 have iV:=Sl.ok.nc cV
 have iW:s.n=s.xs.length:=rfl
 have tA:(s.xs.map aa.abs).length=s.n:=by simp
 refine M0 ?_ func29
 refine Mp ?_ call63 (fun bs w hS=>gV s n w (Sl.rd.kp hs hS.kp))
 refine cr (bC (s.xs.map aa.abs) n=0) (fun h1=>?_) fun h1=>?_
 rotate_left
 ·have hm:fy (s.xs.map aa.abs) n t q r=([],bC (s.xs.map aa.abs) n):=by
    grind[fy,ef]
  exact eE hm Sl.nil rfl fun bs w hS=>hS.aO (Sl.ao _ _)
 obtain⟨EY,wm,mg,gI⟩:=dm h1
 have Es:s.xs.length≤4:=by simpa using mg
 refine Mf ?_ call70 (fun bs w hS=>iC s w (Sl.rd.kp hs hS.kp) (fC (by assumption)))
 rintro y1 a5
 refine dH ?_
 obtain⟨A1,c1,S1⟩:=y1
 have a5:S1.map aa.abs=s.xs.map aa.abs:=a5
 refine fO (R':=[bI (cj 141) S1,ay 118 A1 c1 (S1:List aa)]) (List.Perm.refl _) ?_
 have bn:=eW (y:=(⟨A1,c1,S1⟩:Sl aa)) (hs) a5
 have oA:S1.length=s.xs.length:=by simpa using congrArg List.length a5
 refine bk (F:= ∀i,i<S1.length→aJ.ok (S1.getD i default)) (fun bs w hS i hi=>aJ.bL (B:=bH) (w:=w) (fY (hS.res _ i0) bn (aB hi))) fun gj=>?_
 refine bk (F:=dY A1 c1 (S1:List aa)) (fun bs w hS=>br (hS.res _ i1)) fun cI=>?_
 have cn:=cI.2
 have Gz:(S1.map aa.abs).length=S1.length:=by simp
 have kj:bC (S1.map aa.abs) n=0:=by rw[a5];assumption
 refine Mp ?_ call76 (fun bs w hS=>ll (⟨A1,c1,S1⟩:Sl aa) t w (gu (hS.res _ i0) (hS.res _ i1) bn) (show S1.length≤1048576 by omega))
 have oB:=n8 (L:=S1) (index:=n) (t:=t) (by rw[a5];assumption) ht
 have qb:=du (fun x:az=>decide (x.ag=t)) (S1.map aa.abs)
 generalize hJ:aQ (fun x:az=>decide (x.ag=t)) (S1.map aa.abs)=J at oB qb
 have wY:=n5 (fun x:aa=>IntKind.i64.wrap (x.ag - t)) S1
 generalize hk:eQ (fun x:aa=>IntKind.i64.wrap (x.ag - t)) S1=k at oB wY⊢
 generalize hf:dk (fun x:aa=>IntKind.i64.wrap (x.ag - t)) S1=fb at oB⊢
 refine fL fb (fun h2=>?_) fun h2=>?_
 rotate_left
 ·have At:=of_decide_eq_false (oB.1.symm.trans h2)
  rw[←a5]
  have hm:fy (S1.map aa.abs) n t q r=([],11):=by
    grind[fy,ef]
  exact eE hm Sl.nil rfl fun bs w hS=>hS.aO (Sl.ao _ _)
 have GA:=oB.2 h2
 subst GA
 have nK:=ob kj (k:=k) (by omega)
 have KI:(S1.getD k default).ab.xs.length≤4:=jF nK.2.2.2.2
 have Hf:(S1.getD k default).ab.n=(S1.getD k default).ab.xs.length:=rfl
 refine Mi ?_ (pc (fG 36 (k:Int) k S1.length i1) (lg 41 k 4 1 i1))
 refine Mp ?_ call88 (fun bs w hS=>rh (S1.getD k default).ab q w (fY (hS.res _ i0) bn (aB (i:=k) (by omega))) (by show (Sl.xs _).length≤1048576;omega))
 have NT:dk (fun x:aK=>IntKind.i64.wrap (x.seq - q)) (S1.getD k default).ab.xs=decide (0≤ld (S1.getD k default).ab.xs q):=FD (d:=(S1.getD k default).abs) nK.2.2.2.2 ⟨nK.2.2.1,nK.2.2.2.1⟩ hq
 rw[NT]
 have NU:=n5 (fun x:aK=>IntKind.i64.wrap (x.seq - q)) (S1.getD k default).ab.xs
 generalize hj:eQ (fun x:aK=>IntKind.i64.wrap (x.seq - q)) (S1.getD k default).ab.xs=j at NU⊢
 refine Md (0≤ld (S1.getD k default).ab.xs q) (fun h3=>?_) fun h3=>?_
 ·refine Mt [vn,vi 7] fun bs w hS=>?_
  rw[←a5]
  have hm:fy (S1.map aa.abs) n t q r=([],7):=by
    unfold fy ef
    simp only[hJ,Int.toNat_natCast,lL,List.length_map]
    repeat (first|rw[if_pos (by first|assumption|omega)]|rw[if_neg (by first|assumption|omega|(intro h0;first|exact absurd h0 (by assumption)|(simp_all;done)))])
    all_goals rfl
  refine⟨Sl.nil,?_,?_,hS.aO (Sl.ao _ _)⟩
  ·rw[hm]<;>rfl
  ·rw[hm]<;>rfl
 have IX:ld (S1.getD k default).ab.xs q<0:=by omega
 refine m5 (ay 141 (S1.getD k default).ab.A (S1.getD k default).ab.c ((S1.getD k default).ab.xs:List aK)) (bI (cj 141) (List.eraseIdx S1 k)) (ky (cj 141) (i:=k) (by omega)) (fun w h=>lG (cj 141) (i:=k) (by omega) w h) ?_
 refine cZ 13 [] [] [bI (cj 141) (List.eraseIdx S1 k),ay 118 A1 c1 (S1:List aa)] ai ?_ (hR:=(.cons _ (List.Sublist.refl _)))
 refine bY ?_ (lg 51 k 4 1 i1) (hR:=(.cons _ (List.Sublist.refl _)))
 refine M1 ?_ (hR:=(.cons _ (List.Sublist.refl _)))
 refine nF ?_ call90 (fun bs w hS=>(Eu (S1.getD k default).ab.A (S1.getD k default).ab.c (S1.getD k default).ab.xs j _ (⟨q,⟨r.code,r.n,r.text⟩⟩:aK) (bs.getD 1 0) 141 w (hS.res _ i0) hS.lH.2.2 rfl (by omega) (by omega) (hS.loc 1 ⟨141,[vI q,vI r.code,vI r.n,vS r.text]⟩ (by kernel_rfl) (by simp)) (hS.tm (i:=1) (b:=⟨141,[vI q,vI r.code,vI r.n,vS r.text]⟩) (by kernel_rfl))).mono (fun e w' ⟨y,h1,h2⟩=>⟨y,h1,trivial,h2⟩))
 rintro q3 _
 refine Mz ?_
 refine cL ?_
 refine Ms k 4 (⟨(S1.getD k default).ag,(S1.getD k default).id,(S1.getD k default).aC,(S1.getD k default).last,⟨q3.1,q3.2,(S1.getD k default).ab.xs.take j++[(⟨q,⟨r.code,r.n,r.text⟩⟩:aK)]++(S1.getD k default).ab.xs.drop j⟩⟩:aa) ?_ (by omega)
 intro L5 IW MB
 have Gr:L5.getD k default=(⟨(S1.getD k default).ag,(S1.getD k default).id,(S1.getD k default).aC,(S1.getD k default).last,⟨q3.1,q3.2,(S1.getD k default).ab.xs.take j++[(⟨q,⟨r.code,r.n,r.text⟩⟩:aK)]++(S1.getD k default).ab.xs.drop j⟩⟩:aa):=by rw[IW];exact bQ (by omega)
 have BZ:L5=List.set S1 k (⟨(S1.getD k default).ag,(S1.getD k default).id,(S1.getD k default).aC,(S1.getD k default).last,⟨q3.1,q3.2,(S1.getD k default).ab.xs.take j++[(⟨q,⟨r.code,r.n,r.text⟩⟩:aK)]++(S1.getD k default).ab.xs.drop j⟩⟩:aa):=by rw[IW]
 refine Mi ?_ (NG 62 k Gr i0)
 have Ax: ∀z,z∈(S1.getD k default).ab.xs.take j++[(⟨q,⟨r.code,r.n,r.text⟩⟩:aK)]++(S1.getD k default).ab.xs.drop j→z.aE.text.size≤9223372036854775807:=fun z hz=>by simp only[List.mem_append,List.mem_singleton]at hz;rcases hz with (hz|hz)|hz;exact bn _ (aB (L:=S1) (i:=k) (by omega)) z (List.mem_of_mem_take hz);subst hz;exact hr;exact bn _ (aB (L:=S1) (i:=k) (by omega)) z (List.mem_of_mem_drop hz)
 refine Mp ?_ (v:=vb (a9 (⟨(S1.getD k default).ag,(S1.getD k default).id,(S1.getD k default).aC,(S1.getD k default).last,(S1.getD k default).ab.xs.take j++[(⟨q,⟨r.code,r.n,r.text⟩⟩:aK)]++(S1.getD k default).ab.xs.drop j⟩:az))) call91 (fun bs w hS=>nz (⟨(S1.getD k default).ag,(S1.getD k default).id,(S1.getD k default).aC,(S1.getD k default).last,⟨q3.1,q3.2,(S1.getD k default).ab.xs.take j++[(⟨q,⟨r.code,r.n,r.text⟩⟩:aK)]++(S1.getD k default).ab.xs.drop j⟩⟩:aa) w (Rr (B:=bH) (hS.res _ i1) (fun _ _=>trivial) Ax) ⟨nK.2.2.1,nK.2.2.2.1⟩)
 have Ra:=FE (d:=(S1.getD k default).abs) nK.2.2.2.2 ⟨nK.2.2.1,nK.2.2.2.1⟩ r (by show aQ _ _<0;exact IX) hj
 have Ds:a9 (⟨(S1.getD k default).ag,(S1.getD k default).id,(S1.getD k default).aC,(S1.getD k default).last,(S1.getD k default).ab.xs.take j++[(⟨q,⟨r.code,r.n,r.text⟩⟩:aK)]++(S1.getD k default).ab.xs.drop j⟩:az)=a9 (mK (S1.getD k default).abs q r):=Ra.1
 rw[Ds]
 refine fL (a9 (mK (S1.getD k default).abs q r)) (fun h4=>?_) fun h4=>?_
 rotate_left
 ·refine Mt [vn,vi 2] fun bs w hS=>?_
  rw[←a5]
  have hm:fy (S1.map aa.abs) n t q r=([],2):=by
    unfold fy ef
    simp only[hJ,Int.toNat_natCast,lL,List.length_map]
    repeat (first|rw[if_pos (by first|assumption|omega)]|rw[if_neg (by first|assumption|omega|(intro h0;first|exact absurd h0 (by assumption)|(simp_all;done)))])
    all_goals rfl
  refine⟨Sl.nil,?_,?_,hS.aO (Sl.ao _ _)⟩
  ·rw[hm]<;>rfl
  ·rw[hm]<;>rfl
 refine Mt [.slice A1 S1.length c1,vi 0] fun bs w hS=>?_
 rw[←a5]
 have gf:=dG BZ
 have MY:((⟨(S1.getD k default).ag,(S1.getD k default).id,(S1.getD k default).aC,(S1.getD k default).last,⟨q3.1,q3.2,(S1.getD k default).ab.xs.take j++[(⟨q,⟨r.code,r.n,r.text⟩⟩:aK)]++(S1.getD k default).ab.xs.drop j⟩⟩:aa)).abs=mK (S1.getD k default).abs q r:=by exact congrArg (fun l=>(⟨(S1.getD k default).ag,(S1.getD k default).id,(S1.getD k default).aC,(S1.getD k default).last,l⟩:az)) (Ra.2 (by assumption))
 rw[MY]at gf
 have hm:fy (S1.map aa.abs) n t q r=((S1.map aa.abs).set k (mK (S1.getD k default).abs q r),0):=by
   unfold fy ef
   simp only[hJ,Int.toNat_natCast,lL,List.length_map]
   repeat (first|rw[if_pos (by first|assumption|omega)]|rw[if_neg (by first|assumption|omega|(intro h0;first|exact absurd h0 (by assumption)|(simp_all;done)))])
   all_goals rfl
 refine⟨⟨A1,c1,L5⟩,?_,?_,hS.aO (y:=(⟨A1,c1,L5⟩:Sl aa)) (bV i0 hS.res (fun x hx=>?_))⟩
 ·have gB:S1.length=L5.length:=by rw[BZ,List.length_set]
  rw[hm]
  exact congrArg (fun q=>Ending.returned (.tuple #[.slice A1 q c1,vi 0])) gB
 ·exact Eq.trans gf (congrArg Prod.fst hm).symm
 ·rw[BZ]at hx
  rcases ia hx with hx|hx
  ·subst hx;exact a4 i1 (hS.res _ i1) Ax
  ·exact cY i2 hS.res (fun z hz=>bn z (List.mem_of_mem_eraseIdx hz)) hx
theorem iq (s:Sl aa)(n t q:Int)(r:cQ)(w:World)(hs:s.rd B w)(ht:ln t)(hq:ln q)(hr:r.text.size≤9223372036854775807):Calls prog 42 #[s.val,vi n,vi t,vi q,r.val] w fun e w'=> ∃y:Sl aa,e=.returned (.tuple #[y.val,vi (fy (s.xs.map aa.abs) n t q r).2])∧y.xs.map aa.abs=(fy (s.xs.map aa.abs) n t q r).1∧bJ w w' y:=by
 have cV:=Sl.rd.ok hs
 have iV:=Sl.ok.nc cV
 have iW:s.n=s.xs.length:=rfl
 have tA:(s.xs.map aa.abs).length=s.n:=by simp
 refine M0 ?_ func42
 refine Mp ?_ call92 (fun bs w hS=>eV s n w (Sl.rd.kp hs hS.kp))
 refine cr (bC (s.xs.map aa.abs) n=0) (fun h1=>?_) fun h1=>?_
 rotate_left
 ·have hm:fy (s.xs.map aa.abs) n t q r=([],bC (s.xs.map aa.abs) n):=by
    grind[fy,ef]
  exact eE hm Sl.nil rfl fun bs w hS=>hS.aO (Sl.ao _ _)
 obtain⟨EY,wm,mg,gI⟩:=dm h1
 have Es:s.xs.length≤4:=by simpa using mg
 refine Mf ?_ call19 (fun bs w hS=>fB s w (Sl.rd.kp hs hS.kp) (fC (by assumption)))
 rintro y1 a5
 refine dH ?_
 obtain⟨A1,c1,S1⟩:=y1
 have a5:S1.map aa.abs=s.xs.map aa.abs:=a5
 refine fO (R':=[bI (cj 141) S1,ay 118 A1 c1 (S1:List aa)]) (List.Perm.refl _) ?_
 have bn:=eW (y:=(⟨A1,c1,S1⟩:Sl aa)) (hs) a5
 have oA:S1.length=s.xs.length:=by simpa using congrArg List.length a5
 refine bk (F:= ∀i,i<S1.length→aJ.ok (S1.getD i default)) (fun bs w hS i hi=>aJ.bL (B:=bH) (w:=w) (fY (hS.res _ i0) bn (aB hi))) fun gj=>?_
 refine bk (F:=dY A1 c1 (S1:List aa)) (fun bs w hS=>br (hS.res _ i1)) fun cI=>?_
 have cn:=cI.2
 have Gz:(S1.map aa.abs).length=S1.length:=by simp
 have kj:bC (S1.map aa.abs) n=0:=by rw[a5];assumption
 refine Mp ?_ call98 (fun bs w hS=>eg (⟨A1,c1,S1⟩:Sl aa) t w (gu (hS.res _ i0) (hS.res _ i1) bn))
 have Ii:aQ (fun x:aa=>decide (x.ag=t)) S1=aQ (fun x:az=>decide (x.ag=t)) (S1.map aa.abs):=fm aa.abs (fun x:az=>decide (x.ag=t)) S1
 rw[Ii]
 have qb:=du (fun x:az=>decide (x.ag=t)) (S1.map aa.abs)
 generalize hJ:aQ (fun x:az=>decide (x.ag=t)) (S1.map aa.abs)=J at qb⊢
 rw[List.length_map]at qb
 refine Md (J<0) (fun h2=>?_) fun h2=>?_
 ·have At: ¬0≤J:=by omega
  rw[←a5]
  have hm:fy (S1.map aa.abs) n t q r=([],11):=by
    grind[fy,ef]
  exact eE hm Sl.nil rfl fun bs w hS=>hS.aO (Sl.ao _ _)
 have At:0≤J:=by omega
 have nK:=ob kj (k:=J.toNat) (by omega)
 have KI:(S1.getD J.toNat default).ab.xs.length≤4:=jF nK.2.2.2.2
 have Hf:(S1.getD J.toNat default).ab.n=(S1.getD J.toNat default).ab.xs.length:=rfl
 refine bU (α:=aK) 141 ?_
 refine Ml (σ:=Nat×Bool×Option Addr×Nat×List aK) (fun⟨k,b,A,c,L⟩=>jJ (fun k:aK=>decide (q<k.seq)) (⟨q,r⟩:aK) (S1.getD J.toNat default).ab.xs k b L∧ ∀j,j<k→ ¬((S1.getD J.toNat default).ab.xs.getD j default).seq=q) (fun⟨k,b,A,c,L⟩=>(S1.getD J.toNat default).ab.xs.length - k) (fun⟨k,b,A,c,L⟩=>[ay 141 A c (L:List aK),bI (cj 141) S1,ay 118 A1 c1 (S1:List aa)]) [17,16,15,14,13,9,3] (fun⟨k,b,A,c,L⟩=>[(17,vI (k:Int)),(16,vB b),(15,.v (.slice A L.length c))]) (fun _=>[]) ?_ (⟨0,false,none,0,[]⟩) ⟨(show jJ (fun k:aK=>decide (q<k.seq)) (⟨q,r⟩:aK) (S1.getD J.toNat default).ab.xs 0 false [] from jJ.start _ _ _),fun j hj=>absurd hj (Nat.not_lt_zero _)⟩
 rintro⟨k,b,A,c,L⟩ ⟨hI,hX⟩ _ bu
 have MC:=hI.len
 have MD:=hI.le
 refine Mi ?_ (pc (fG 35 J J.toNat S1.length i2) (lg 37 J.toNat 4 1 i2))
 refine Md ((k:Int)<(((S1.getD J.toNat default).ab.n:Nat):Int)) (fun h3=>?_) fun h3=>?_
 ·refine Mi ?_ (pc (fG 44 J J.toNat S1.length i2) (pc (lg 46 J.toNat 4 1 i2) (pA 48 49 (k:Int) k (s:=(S1.getD J.toNat default).ab) (fun w hk hr=>(fY (hr _ i1) bn (aB (i:=J.toNat) (by omega)))))))
  refine Md (((S1.getD J.toNat default).ab.at k).seq=q) (fun h4=>?_) fun h4=>?_
  ·refine Mt [vn,vi 7] fun bs w hS=>?_
   clear bu
   rw[←a5]
   have TL:0≤ld (S1.getD J.toNat default).ab.xs q:=by have h9:=hC (fun k:aK=>decide (k.seq=q)) (S1.getD J.toNat default).ab.xs;rw[List.any_eq_true.2 ⟨_,aB (L:=(S1.getD J.toNat default).ab.xs) (i:=k) (by have h8:(S1.getD J.toNat default).ab.n=(S1.getD J.toNat default).ab.xs.length:=rfl;omega),decide_eq_true (by assumption)⟩]at h9;exact of_decide_eq_true h9
   have hm:fy (S1.map aa.abs) n t q r=([],7):=by
     unfold fy ef
     simp only[hJ,lL,List.length_map]
     repeat (first|rw[if_pos (by first|assumption|omega)]|rw[if_neg (by first|assumption|omega|(intro h0;first|exact absurd h0 (by assumption)|(simp_all;done)))])
     all_goals rfl
   refine⟨Sl.nil,?_,?_,hS.aO (Sl.ao _ _)⟩
   ·rw[hm]<;>rfl
   ·rw[hm]<;>rfl
  refine HP b true [(16,false)] (fun h5=>?_) fun h5=>?_
  ·refine M1 ?_
   refine gX (α:=aK) 40 ([(⟨((S1.getD J.toNat default).ab.at k).seq,⟨((S1.getD J.toNat default).ab.at k).aE.code,((S1.getD J.toNat default).ab.at k).aE.n,((S1.getD J.toNat default).ab.at k).aE.text⟩⟩:aK)]) ?_
   intro A3 c3
   refine Mi ?_ (pR ((k:Int)+1))
   exact bu ⟨k+1,true,A3,c3,L++[(⟨((S1.getD J.toNat default).ab.at k).seq,⟨((S1.getD J.toNat default).ab.at k).aE.code,((S1.getD J.toNat default).ab.at k).aE.n,((S1.getD J.toNat default).ab.at k).aE.text⟩⟩:aK)]⟩ ⟨(by first|exact hI.more (by assumption) (by omega)|exact hI.EU (by assumption) (by omega) (decide_eq_true (by assumption))|exact hI.skip (by assumption) (by omega) (decide_eq_false (by assumption))),fun j hj=>by rcases Nat.lt_succ_iff_lt_or_eq.1 hj with h|h;exact hX j h;subst h;assumption⟩ (by show (S1.getD J.toNat default).ab.xs.length - (k+1)<(S1.getD J.toNat default).ab.xs.length - k;omega)
  refine Md (q<((S1.getD J.toNat default).ab.at k).seq) (fun h6=>?_) fun h6=>?_
  rotate_left
  ·refine M1 ?_
   refine gX (α:=aK) 40 ([(⟨((S1.getD J.toNat default).ab.at k).seq,⟨((S1.getD J.toNat default).ab.at k).aE.code,((S1.getD J.toNat default).ab.at k).aE.n,((S1.getD J.toNat default).ab.at k).aE.text⟩⟩:aK)]) ?_
   intro A6 c6
   refine Mi ?_ (pR ((k:Int)+1))
   exact bu ⟨k+1,false,A6,c6,L++[(⟨((S1.getD J.toNat default).ab.at k).seq,⟨((S1.getD J.toNat default).ab.at k).aE.code,((S1.getD J.toNat default).ab.at k).aE.n,((S1.getD J.toNat default).ab.at k).aE.text⟩⟩:aK)]⟩ ⟨(by first|exact hI.more (by assumption) (by omega)|exact hI.EU (by assumption) (by omega) (decide_eq_true (by assumption))|exact hI.skip (by assumption) (by omega) (decide_eq_false (by assumption))),fun j hj=>by rcases Nat.lt_succ_iff_lt_or_eq.1 hj with h|h;exact hX j h;subst h;assumption⟩ (by show (S1.getD J.toNat default).ab.xs.length - (k+1)<(S1.getD J.toNat default).ab.xs.length - k;omega)
  refine M1 ?_
  refine gX (α:=aK) 40 ([(⟨q,⟨r.code,r.n,r.text⟩⟩:aK)]) ?_
  intro A4 c4
  refine M1 ?_
  refine gX (α:=aK) 40 ([(⟨((S1.getD J.toNat default).ab.at k).seq,⟨((S1.getD J.toNat default).ab.at k).aE.code,((S1.getD J.toNat default).ab.at k).aE.n,((S1.getD J.toNat default).ab.at k).aE.text⟩⟩:aK)]) ?_
  intro A5 c5
  refine Mi ?_ (pR ((k:Int)+1))
  exact bu ⟨k+1,true,A5,c5,L++[(⟨q,⟨r.code,r.n,r.text⟩⟩:aK)]++[(⟨((S1.getD J.toNat default).ab.at k).seq,⟨((S1.getD J.toNat default).ab.at k).aE.code,((S1.getD J.toNat default).ab.at k).aE.n,((S1.getD J.toNat default).ab.at k).aE.text⟩⟩:aK)]⟩ ⟨(by first|exact hI.more (by assumption) (by omega)|exact hI.EU (by assumption) (by omega) (decide_eq_true (by assumption))|exact hI.skip (by assumption) (by omega) (decide_eq_false (by assumption))),fun j hj=>by rcases Nat.lt_succ_iff_lt_or_eq.1 hj with h|h;exact hX j h;subst h;assumption⟩ (by show (S1.getD J.toNat default).ab.xs.length - (k+1)<(S1.getD J.toNat default).ab.xs.length - k;omega)
 refine fL b (fun h7=>?_) fun h7=>?_
 ·refine Mi ?_ (fG 83 J J.toNat S1.length i2)
  refine cL ?_
  refine Ms J.toNat 4 (⟨(S1.getD J.toNat default).ag,(S1.getD J.toNat default).id,(S1.getD J.toNat default).aC,(S1.getD J.toNat default).last,⟨A,c,L⟩⟩:aa) ?_ (by omega)
  intro L7 Rb SI
  have Pg:L7.getD J.toNat default=(⟨(S1.getD J.toNat default).ag,(S1.getD J.toNat default).id,(S1.getD J.toNat default).aC,(S1.getD J.toNat default).last,⟨A,c,L⟩⟩:aa):=by rw[Rb];exact bQ (by omega)
  have J8:L7=List.set S1 J.toNat (⟨(S1.getD J.toNat default).ag,(S1.getD J.toNat default).id,(S1.getD J.toNat default).aC,(S1.getD J.toNat default).last,⟨A,c,L⟩⟩:aa):=by rw[Rb]
  refine Mi ?_ (pc (fG 87 J J.toNat S1.length i0) (NG 88 J.toNat Pg i0))
  have sm:L=dW (fun k:aK=>decide (q<k.seq)) ⟨q,r⟩ (S1.getD J.toNat default).ab.xs:=(hI.HJ (by assumption) (by omega))
  have Ax: ∀z,z∈L→z.aE.text.size≤9223372036854775807:=fun z hz=>by rcases ko (sm▸hz) with hz|hz;subst hz;exact hr;exact bn _ (aB (L:=S1) (i:=J.toNat) (by omega)) z hz
  refine Mp ?_ (v:=vb (a9 (⟨(S1.getD J.toNat default).ag,(S1.getD J.toNat default).id,(S1.getD J.toNat default).aC,(S1.getD J.toNat default).last,L⟩:az))) call108 (fun bs w hS=>lR (⟨(S1.getD J.toNat default).ag,(S1.getD J.toNat default).id,(S1.getD J.toNat default).aC,(S1.getD J.toNat default).last,⟨A,c,L⟩⟩:aa) w (Rr (B:=bH) (hS.res _ i1) (fun _ _=>trivial) Ax) ⟨nK.2.2.1,nK.2.2.2.1⟩)
  have Ds:a9 (⟨(S1.getD J.toNat default).ag,(S1.getD J.toNat default).id,(S1.getD J.toNat default).aC,(S1.getD J.toNat default).last,L⟩:az)=a9 (mK (S1.getD J.toNat default).abs q r):=by rw[sm];rfl
  rw[Ds]
  refine fL (a9 (mK (S1.getD J.toNat default).abs q r)) (fun h8=>?_) fun h8=>?_
  rotate_left
  ·refine Mt [vn,vi 2] fun bs w hS=>?_
   clear bu
   rw[←a5]
   have IX: ¬0≤ld (S1.getD J.toNat default).ab.xs q:=by unfold ld;rw[en (L:=(S1.getD J.toNat default).ab.xs) (p:=fun k:aK=>decide (k.seq=q)) fun j hj=>decide_eq_false (hX j (by omega))];omega
   have hm:fy (S1.map aa.abs) n t q r=([],2):=by
     unfold fy ef
     simp only[hJ,lL,List.length_map]
     repeat (first|rw[if_pos (by first|assumption|omega)]|rw[if_neg (by first|assumption|omega|(intro h0;first|exact absurd h0 (by assumption)|(simp_all;done)))])
     all_goals rfl
   refine⟨Sl.nil,?_,?_,hS.aO (Sl.ao _ _)⟩
   ·rw[hm]<;>rfl
   ·rw[hm]<;>rfl
  refine Mt [.slice A1 S1.length c1,vi 0] fun bs w hS=>?_
  clear bu
  rw[←a5]
  have IX: ¬0≤ld (S1.getD J.toNat default).ab.xs q:=by unfold ld;rw[en (L:=(S1.getD J.toNat default).ab.xs) (p:=fun k:aK=>decide (k.seq=q)) fun j hj=>decide_eq_false (hX j (by omega))];omega
  have gf:=dG J8
  have MY:((⟨(S1.getD J.toNat default).ag,(S1.getD J.toNat default).id,(S1.getD J.toNat default).aC,(S1.getD J.toNat default).last,⟨A,c,L⟩⟩:aa)).abs=mK (S1.getD J.toNat default).abs q r:=by exact congrArg (fun l=>(⟨(S1.getD J.toNat default).ag,(S1.getD J.toNat default).id,(S1.getD J.toNat default).aC,(S1.getD J.toNat default).last,l⟩:az)) sm
  rw[MY]at gf
  have hm:fy (S1.map aa.abs) n t q r=((S1.map aa.abs).set J.toNat (mK (S1.getD J.toNat default).abs q r),0):=by
    unfold fy ef
    simp only[hJ,lL,List.length_map]
    repeat (first|rw[if_pos (by first|assumption|omega)]|rw[if_neg (by first|assumption|omega|(intro h0;first|exact absurd h0 (by assumption)|(simp_all;done)))])
    all_goals rfl
  refine⟨⟨A1,c1,L7⟩,?_,?_,hS.aO (y:=(⟨A1,c1,L7⟩:Sl aa)) (bV i0 hS.res (fun x hx=>?_))⟩
  ·have gB:S1.length=L7.length:=by rw[J8,List.length_set]
   rw[hm]
   exact congrArg (fun q=>Ending.returned (.tuple #[.slice A1 q c1,vi 0])) gB
  ·exact Eq.trans gf (congrArg Prod.fst hm).symm
  ·rw[J8]at hx
   rcases mem_set hx with hx|hx
   ·subst hx;exact a4 i1 (hS.res _ i1) Ax
   ·exact cY i2 hS.res bn hx
 refine M1 ?_
 refine gX (α:=aK) 40 ([(⟨q,⟨r.code,r.n,r.text⟩⟩:aK)]) ?_
 intro A8 c8
 refine Mi ?_ (fG 83 J J.toNat S1.length i2)
 refine cL ?_
 refine Ms J.toNat 4 (⟨(S1.getD J.toNat default).ag,(S1.getD J.toNat default).id,(S1.getD J.toNat default).aC,(S1.getD J.toNat default).last,⟨A8,c8,L++[(⟨q,⟨r.code,r.n,r.text⟩⟩:aK)]⟩⟩:aa) ?_ (by omega)
 intro L9 KL SJ
 have Ph:L9.getD J.toNat default=(⟨(S1.getD J.toNat default).ag,(S1.getD J.toNat default).id,(S1.getD J.toNat default).aC,(S1.getD J.toNat default).last,⟨A8,c8,L++[(⟨q,⟨r.code,r.n,r.text⟩⟩:aK)]⟩⟩:aa):=by rw[KL];exact bQ (by omega)
 have J9:L9=List.set S1 J.toNat (⟨(S1.getD J.toNat default).ag,(S1.getD J.toNat default).id,(S1.getD J.toNat default).aC,(S1.getD J.toNat default).last,⟨A8,c8,L++[(⟨q,⟨r.code,r.n,r.text⟩⟩:aK)]⟩⟩:aa):=by rw[KL]
 refine Mi ?_ (pc (fG 87 J J.toNat S1.length i0) (NG 88 J.toNat Ph i0))
 have sm:L++[(⟨q,⟨r.code,r.n,r.text⟩⟩:aK)]=dW (fun k:aK=>decide (q<k.seq)) ⟨q,r⟩ (S1.getD J.toNat default).ab.xs:=(hI.HK (by assumption) (by omega))
 have Ax: ∀z,z∈L++[(⟨q,⟨r.code,r.n,r.text⟩⟩:aK)]→z.aE.text.size≤9223372036854775807:=fun z hz=>by rcases ko (sm▸hz) with hz|hz;subst hz;exact hr;exact bn _ (aB (L:=S1) (i:=J.toNat) (by omega)) z hz
 refine Mp ?_ (v:=vb (a9 (⟨(S1.getD J.toNat default).ag,(S1.getD J.toNat default).id,(S1.getD J.toNat default).aC,(S1.getD J.toNat default).last,L++[(⟨q,⟨r.code,r.n,r.text⟩⟩:aK)]⟩:az))) call108 (fun bs w hS=>lR (⟨(S1.getD J.toNat default).ag,(S1.getD J.toNat default).id,(S1.getD J.toNat default).aC,(S1.getD J.toNat default).last,⟨A8,c8,L++[(⟨q,⟨r.code,r.n,r.text⟩⟩:aK)]⟩⟩:aa) w (Rr (B:=bH) (hS.res _ i1) (fun _ _=>trivial) Ax) ⟨nK.2.2.1,nK.2.2.2.1⟩)
 have Ds:a9 (⟨(S1.getD J.toNat default).ag,(S1.getD J.toNat default).id,(S1.getD J.toNat default).aC,(S1.getD J.toNat default).last,L++[(⟨q,⟨r.code,r.n,r.text⟩⟩:aK)]⟩:az)=a9 (mK (S1.getD J.toNat default).abs q r):=by rw[sm];rfl
 rw[Ds]
 refine fL (a9 (mK (S1.getD J.toNat default).abs q r)) (fun h9=>?_) fun h9=>?_
 rotate_left
 ·refine Mt [vn,vi 2] fun bs w hS=>?_
  clear bu
  rw[←a5]
  have IX: ¬0≤ld (S1.getD J.toNat default).ab.xs q:=by unfold ld;rw[en (L:=(S1.getD J.toNat default).ab.xs) (p:=fun k:aK=>decide (k.seq=q)) fun j hj=>decide_eq_false (hX j (by omega))];omega
  have hm:fy (S1.map aa.abs) n t q r=([],2):=by
    unfold fy ef
    simp only[hJ,lL,List.length_map]
    repeat (first|rw[if_pos (by first|assumption|omega)]|rw[if_neg (by first|assumption|omega|(intro h0;first|exact absurd h0 (by assumption)|(simp_all;done)))])
    all_goals rfl
  refine⟨Sl.nil,?_,?_,hS.aO (Sl.ao _ _)⟩
  ·rw[hm]<;>rfl
  ·rw[hm]<;>rfl
 refine Mt [.slice A1 S1.length c1,vi 0] fun bs w hS=>?_
 clear bu
 rw[←a5]
 have IX: ¬0≤ld (S1.getD J.toNat default).ab.xs q:=by unfold ld;rw[en (L:=(S1.getD J.toNat default).ab.xs) (p:=fun k:aK=>decide (k.seq=q)) fun j hj=>decide_eq_false (hX j (by omega))];omega
 have gf:=dG J9
 have MY:((⟨(S1.getD J.toNat default).ag,(S1.getD J.toNat default).id,(S1.getD J.toNat default).aC,(S1.getD J.toNat default).last,⟨A8,c8,L++[(⟨q,⟨r.code,r.n,r.text⟩⟩:aK)]⟩⟩:aa)).abs=mK (S1.getD J.toNat default).abs q r:=by exact congrArg (fun l=>(⟨(S1.getD J.toNat default).ag,(S1.getD J.toNat default).id,(S1.getD J.toNat default).aC,(S1.getD J.toNat default).last,l⟩:az)) sm
 rw[MY]at gf
 have hm:fy (S1.map aa.abs) n t q r=((S1.map aa.abs).set J.toNat (mK (S1.getD J.toNat default).abs q r),0):=by
   unfold fy ef
   simp only[hJ,lL,List.length_map]
   repeat (first|rw[if_pos (by first|assumption|omega)]|rw[if_neg (by first|assumption|omega|(intro h0;first|exact absurd h0 (by assumption)|(simp_all;done)))])
   all_goals rfl
 refine⟨⟨A1,c1,L9⟩,?_,?_,hS.aO (y:=(⟨A1,c1,L9⟩:Sl aa)) (bV i0 hS.res (fun x hx=>?_))⟩
 ·have gB:S1.length=L9.length:=by rw[J9,List.length_set]
  rw[hm]
  exact congrArg (fun q=>Ending.returned (.tuple #[.slice A1 q c1,vi 0])) gB
 ·exact Eq.trans gf (congrArg Prod.fst hm).symm
 ·rw[J9]at hx
  rcases mem_set hx with hx|hx
  ·subst hx;exact a4 i1 (hS.res _ i1) Ax
  ·exact cY i2 hS.res bn hx
theorem ri (x:ae)(t:ByteArray)(w:World):Calls prog 190 #[x.val,vs t] w fun e w'=>e=.returned (vi (bK x.name t))∧Kp [] w w':=by
 refine M0 ?_ func190
 refine Mp ?_ call147 (fun bs w hS=>kU x.name t w)
 exact Mt [vi (bK x.name t)] fun bs w hS=>⟨rfl,hS.kp⟩
theorem sZ (s:Sl ae)(t:ByteArray)(w:World)(hs:s.rd B w)(hn:s.n≤1048576):Calls prog 145 #[s.val,vs t,.func (.func 190) #[] #[]] w fun e w'=>e=.returned (.tuple #[vi (eQ (fun x:ae=>bK x.name t) s.xs:Nat),vb (dk (fun x:ae=>bK x.name t) s.xs)])∧Kp [] w w':=by
 have cV:=Sl.rd.ok hs
 have iV:=Sl.ok.nc cV
 have iW:s.n=s.xs.length:=rfl
 refine Mj ?_ func145 (WS.start w)
 refine Ml (σ:=Nat×Nat×Nat) (fun⟨i,j,f⟩=>i≤j∧j≤s.n∧j - i≤f∧eQ (fun x:ae=>bK x.name t) s.xs=lY (fun j=>decide (bK (s.at j).name t<0)) f i j) (fun⟨i,j,f⟩=>f) (fun _=>[]) [10,9,8,0,1,2] (fun⟨i,j,f⟩=>[(10,vI (j:Int)),(9,vI (i:Int))]) (fun _=>[]) ?_ (⟨0,s.n,s.n⟩) ⟨Nat.zero_le _,Nat.le_refl _,Nat.le_refl _,rfl⟩
 rintro⟨i,j,f⟩ ⟨h1,h2,h3,hI⟩ _ bu
 have hdiv:((i:Int)+(j:Int)) / 2=(((i+j) / 2:Nat):Int):=by omega
 refine Md ((i:Int)<(j:Int)) (fun h1=>?_) fun h1=>?_
 rotate_left
 ·refine Md ((i:Int)<(s.n:Int)) (fun h3=>?_) fun h3=>?_
  rotate_left
  ·refine Mt [vi (i:Int),vb false] fun bs w hS=>?_
   have jf:i=j:=by omega
   subst jf
   have hr:eQ (fun x:ae=>bK x.name t) s.xs=i:=by rw[hI];exact iQ _ _ _ _ (Nat.le_refl _)
   refine⟨?_,hS.kp⟩
   have ny:dk (fun x:ae=>bK x.name t) s.xs=false:=by
     unfold dk;rw[hr]
     rw[decide_eq_false (show ¬i<s.xs.length by omega)];rfl
   rw[hr,ny]
   rfl
  refine Mi ?_ (pA 43 44 (i:Int) i (db hs))
  refine Mp ?_ call190 (fun bs w hS=>ri (s.at i) t w)
  refine Mt [vi (i:Int),vb (decide (bK (s.at i).name t=0))] fun bs w hS=>?_
  have jf:i=j:=by omega
  subst jf
  have hr:eQ (fun x:ae=>bK x.name t) s.xs=i:=by rw[hI];exact iQ _ _ _ _ (Nat.le_refl _)
  refine⟨?_,hS.kp⟩
  have ny:dk (fun x:ae=>bK x.name t) s.xs=(decide (bK (s.at i).name t=0)):=by
    unfold dk;rw[hr]
    rw[decide_eq_true (show i<s.xs.length by omega)];rfl
  rw[hr,ny]
  rfl
 refine Mi ?_ (pc (pR ((i:Int)+(j:Int))) (pc (pG [(21,.val (.int .u64 ((i:Int)+(j:Int))))] (oc ((jD Tryz.underlying3 Tryz.underlying203 (by omega) (by omega)): ∀w,(convert 3 203 (vi ((i:Int)+(j:Int))):Sem Value).run prog w=.ok (.int .u64 ((i:Int)+(j:Int))) w) on)) (pc (pG [(22,.val (.int .u64 (((i:Int)+(j:Int)) / 2)))] (oc (qn: ∀w,(do eqGuard .shr 203 (.tmp 21) (.const (.int .u64 1)) (.int .u64 ((i:Int)+(j:Int))) (.int .u64 1);binOp .shr 203 (.int .u64 ((i:Int)+(j:Int))) (.int .u64 1):Sem Value).run prog w=.ok (.int .u64 (((i:Int)+(j:Int)) / 2)) w) on)) (pc (pG [(23,.val (vi (((i:Int)+(j:Int)) / 2)))] (oc ((jE Tryz.underlying203 Tryz.underlying3 (by omega) (by omega)): ∀w,(convert 203 3 (.int .u64 (((i:Int)+(j:Int)) / 2)):Sem Value).run prog w=.ok (vi (((i:Int)+(j:Int)) / 2)) w) on)) (pA 27 28 (((i:Int)+(j:Int)) / 2) (((i:Int)+(j:Int)) / 2).toNat (db hs))))))
 refine Mp ?_ call190 (fun bs w hS=>ri (s.at (((i:Int)+(j:Int)) / 2).toNat) t w)
 refine Md (bK (s.at (((i:Int)+(j:Int)) / 2).toNat).name t<0) (fun h2=>?_) fun h2=>?_
 rotate_left
 ·have yn:f=(f - 1)+1:=by omega
  rw[yn]at hI
  have sg:=hI.trans (mH (by omega) (decide_eq_false (by assumption)))
  exact bu ⟨i,(i+j) / 2,f - 1⟩ ⟨by omega,by omega,by omega,sg⟩ (by show f - 1<f;omega)
 refine Mi ?_ (pR ((((i:Int)+(j:Int)) / 2)+1))
 have yn:f=(f - 1)+1:=by omega
 rw[yn]at hI
 have sg:=hI.trans (qt (by omega) (decide_eq_true (by assumption)))
 exact bu ⟨(i+j) / 2+1,j,f - 1⟩ ⟨by omega,by omega,by omega,sg⟩ (by show f - 1<f;omega)
theorem xB (s:Sl ae)(t:ByteArray)(who:Int)(w:World)(hs:s.rd B w)(ht:t.size≤9223372036854775807):Calls prog 101 #[s.val,vs t,vi who] w fun e w'=>e=.returned (vi (dw (s.xs.map ae.abs) t who))∧Kp [] w w':=by
 have cV:=Sl.rd.ok hs
 have iV:=Sl.ok.nc cV
 have iW:s.n=s.xs.length:=rfl
 refine M0 ?_ func101
 refine Mp ?_ call93 (fun bs w hS=>jQ s w (Sl.rd.kp hs hS.kp))
 refine Md (bB (s.xs.map ae.abs)=0) (fun h1=>?_) fun h1=>?_
 rotate_left
 ·refine My false false ?_ (df h1)
  refine b8 (bB (s.xs.map ae.abs)) ?_
  have hm:dw (s.xs.map ae.abs) t who=bB (s.xs.map ae.abs):=by
    unfold dw
    repeat (first|rw[if_pos (by first|assumption|omega)]|rw[if_neg (by first|assumption|omega|(simp_all;done))])
    try rfl
    try omega
  rw[hm]<;>rfl
 refine Mp ?_ call107 (fun bs w hS=>kL _ w (by first|assumption|omega|(simp only[aL];omega)))
 refine fL (ee t) (fun h2=>?_) fun h2=>?_
 rotate_left
 ·refine Mq 19 false ?_ rfl
  refine b8 4 ?_
  have hm:dw (s.xs.map ae.abs) t who=4:=by
    unfold dw
    repeat (first|rw[if_pos (by first|assumption|omega)]|rw[if_neg (by first|assumption|omega|(simp_all;done))])
    try rfl
    try omega
  rw[hm]<;>rfl
 refine My true false ?_ (dt h1)
 refine Mp ?_ call51 (fun bs w hS=>b6 who 1 9 w)
 refine fL (gk who 1 9) (fun h4=>?_) fun h4=>?_
 rotate_left
 ·simp only[iT,iF]at h4
  refine b8 2 ?_
  have hm:dw (s.xs.map ae.abs) t who=2:=by
    unfold dw
    repeat (first|rw[if_pos (by first|assumption|omega)]|rw[if_neg (by first|assumption|omega|(simp_all;done))])
    try rfl
    try omega
  rw[hm]<;>rfl
 simp only[iT,iF]at h4
 refine b8 (bB (s.xs.map ae.abs)) ?_
 have hm:dw (s.xs.map ae.abs) t who=bB (s.xs.map ae.abs):=by
   unfold dw
   repeat (first|rw[if_pos (by first|assumption|omega)]|rw[if_neg (by first|assumption|omega|(simp_all;done))])
   try rfl
   try omega
 rw[hm]<;>rfl
theorem nk (s:Sl ae)(t:ByteArray)(who:Int)(w:World)(hs:s.rd B w)(ht:t.size≤9223372036854775807):Calls prog 148 #[s.val,vs t,vi who] w fun e w'=>(¬dw (s.xs.map ae.abs) t who=0∧e=.returned (.tuple #[vn,vi 0,vb false,vi (dw (s.xs.map ae.abs) t who)])∧Kp [] w w')∨(dw (s.xs.map ae.abs) t who=0∧ ∃y:Sl ae,e=.returned (.tuple #[y.val,vi ((eQ (fun x:ae=>bK x.name t) s.xs:Nat):Int),vb (dk (fun x:ae=>bK x.name t) s.xs),vi 0])∧y.xs.map ae.abs=s.xs.map ae.abs∧Kp [] w w'∧gC w w' (ub 115 3 y)):=by
 have cV:=Sl.rd.ok hs
 have iV:=Sl.ok.nc cV
 have iW:s.n=s.xs.length:=rfl
 refine M0 ?_ func148
 refine Mp ?_ call64 (fun bs w hS=>ng s w (Sl.rd.kp hs hS.kp))
 refine cr (bB (s.xs.map ae.abs)=0) (fun h1=>?_) fun h1=>?_
 rotate_left
 ·refine Mt [vn,vi 0,vb false,vi (bB (s.xs.map ae.abs))] fun bs w hS=>?_
  have hm:dw (s.xs.map ae.abs) t who=bB (s.xs.map ae.abs):=by
    unfold dw
    repeat (first|rw[if_pos (by first|assumption|omega)]|rw[if_neg (by first|assumption|omega|(simp_all;done))])
    try rfl
    try omega
  refine .inl ⟨?_,?_,hS.kp⟩
  ·rw[hm];first|assumption|omega
  ·rw[hm]<;>rfl
 have mg:=(fS h1).1
 have Es:s.xs.length≤5:=by simpa using mg
 refine Mp ?_ call129 (fun bs w hS=>mQ _ w (by first|assumption|omega|(simp only[aL];omega)))
 refine fL (ee t) (fun h2=>?_) fun h2=>?_
 rotate_left
 ·refine Mt [vn,vi 0,vb false,vi 4] fun bs w hS=>?_
  have hm:dw (s.xs.map ae.abs) t who=4:=by
    unfold dw
    repeat (first|rw[if_pos (by first|assumption|omega)]|rw[if_neg (by first|assumption|omega|(simp_all;done))])
    try rfl
    try omega
  refine .inl ⟨?_,?_,hS.kp⟩
  ·rw[hm];first|assumption|omega
  ·rw[hm]<;>rfl
 refine Mp ?_ call130 (fun bs w hS=>mf who w)
 refine fL (gk who 1 9) (fun h3=>?_) fun h3=>?_
 rotate_left
 ·simp only[iT,iF]at h3
  refine Mt [vn,vi 0,vb false,vi 2] fun bs w hS=>?_
  have hm:dw (s.xs.map ae.abs) t who=2:=by
    unfold dw
    repeat (first|rw[if_pos (by first|assumption|omega)]|rw[if_neg (by first|assumption|omega|(simp_all;done))])
    try rfl
    try omega
  refine .inl ⟨?_,?_,hS.kp⟩
  ·rw[hm];first|assumption|omega
  ·rw[hm]<;>rfl
 simp only[iT,iF]at h3
 refine Mp ?_ call145 (fun bs w hS=>sZ s t w (Sl.rd.kp hs hS.kp) (show s.xs.length≤1048576 by omega))
 refine Mf ?_ call68 (fun bs w hS=>si s w (Sl.rd.kp hs hS.kp) (js (by assumption)))
 rintro y1 a5
 refine Mt [y1.val,vi ((eQ (fun x:ae=>bK x.name t) s.xs:Nat):Int),vb (dk (fun x:ae=>bK x.name t) s.xs),vi 0] fun bs w hS=>?_
 have hm:dw (s.xs.map ae.abs) t who=0:=by
   unfold dw
   repeat (first|rw[if_pos (by first|assumption|omega)]|rw[if_neg (by first|assumption|omega|(simp_all;done))])
   try rfl
   try omega
 exact .inr ⟨hm,y1,rfl,a5,hS.kp,hS.rF⟩
theorem yy (s:Sl ae)(x:ae)(w:World)(hs:s.rd B w)(hb:s.n≤1048575):Calls prog 102 #[s.val,x.val] w fun e w'=> ∃y:Sl ae,e=.returned y.val∧y.xs=dW (fun z:ae=>Op.bytesLess x.name.toList z.name.toList) x s.xs∧Kp [] w w'∧gC w w' (ay 115 y.A y.c y.xs):=by
 have cV:=Sl.rd.ok hs
 have iV:=Sl.ok.nc cV
 have iW:s.n=s.xs.length:=rfl
 refine M0 ?_ func102
 refine bU (α:=ae) 115 ?_
 refine Ml (σ:=Nat×Bool×Option Addr×Nat×List ae) (fun⟨k,b,A,c,L⟩=>jJ (fun z:ae=>Op.bytesLess x.name.toList z.name.toList) x s.xs k b L) (fun⟨k,b,A,c,L⟩=>s.xs.length - k) (fun⟨k,b,A,c,L⟩=>[ay 115 A c (L:List ae)]) [7,6,5,3,0] (fun⟨k,b,A,c,L⟩=>[(7,vI (k:Int)),(6,vB b),(5,.v (.slice A L.length c))]) (fun _=>[]) ?_ (⟨0,false,none,0,[]⟩) (show jJ (fun z:ae=>Op.bytesLess x.name.toList z.name.toList) x s.xs 0 false [] from jJ.start _ _ _)
 rintro⟨k,b,A,c,L⟩ hI _ bu
 have MC:=hI.len
 have MD:=hI.le
 refine Md ((k:Int)<(s.n:Int)) (fun h1=>?_) fun h1=>?_
 rotate_left
 ·refine fL b (fun h4=>?_) fun h4=>?_
  ·exact Mt [.slice A L.length c] fun bs w hS=>⟨⟨A,c,L⟩,rfl,(hI.HJ (by assumption) (by omega)),hS.kp,hS.rF⟩
  refine M1 ?_
  refine gX (α:=ae) 56 ([(⟨x.name,x.ar,x.aA,x.line⟩:ae)]) ?_
  intro A5 c5
  exact Mt [.slice A5 (L++[(⟨x.name,x.ar,x.aA,x.line⟩:ae)]).length c5] fun bs w hS=>⟨⟨A5,c5,L++[(⟨x.name,x.ar,x.aA,x.line⟩:ae)]⟩,rfl,(hI.HK (by assumption) (by omega)),hS.kp,hS.rF⟩
 refine fP 12 ?_ ai
 refine HP b true [(6,false)] (fun h2=>?_) fun h2=>?_
 ·refine Mz ?_
  refine Mi ?_ (pA 33 34 (k:Int) k (db hs))
  refine M1 ?_
  refine gX (α:=ae) 56 ([(⟨(s.at k).name,(s.at k).ar,(s.at k).aA,(s.at k).line⟩:ae)]) ?_
  intro A1 c1
  refine Mi ?_ (pR ((k:Int)+1))
  exact bu ⟨k+1,true,A1,c1,L++[(⟨(s.at k).name,(s.at k).ar,(s.at k).aA,(s.at k).line⟩:ae)]⟩ (by first|exact hI.more (by assumption) (by omega)|exact hI.EU (by assumption) (by omega) (by assumption)|exact hI.skip (by assumption) (by omega) (by assumption)) (by show s.xs.length - (k+1)<s.xs.length - k;omega)
 refine bY ?_ (pc (pI 19 (k:Int) k (db hs)) (pF 21 k 0 1 (db hs)))
 refine Mz ?_
 refine fL (Op.bytesLess ((s.at k).name).toList (x.name).toList||decide ((s.at k).name=x.name)) (fun h3=>?_) fun h3=>?_
 ·rw[bytes_total]at h3
  simp only[Bool.not_eq_true',Bool.not_eq_false',Bool.not_eq_true,Bool.not_eq_false]at h3
  refine Mi ?_ (pA 33 34 (k:Int) k (db hs))
  refine M1 ?_
  refine gX (α:=ae) 56 ([(⟨(s.at k).name,(s.at k).ar,(s.at k).aA,(s.at k).line⟩:ae)]) ?_
  intro A2 c2
  refine Mi ?_ (pR ((k:Int)+1))
  exact bu ⟨k+1,false,A2,c2,L++[(⟨(s.at k).name,(s.at k).ar,(s.at k).aA,(s.at k).line⟩:ae)]⟩ (by first|exact hI.more (by assumption) (by omega)|exact hI.EU (by assumption) (by omega) (by assumption)|exact hI.skip (by assumption) (by omega) (by assumption)) (by show s.xs.length - (k+1)<s.xs.length - k;omega)
 rw[bytes_total]at h3
 simp only[Bool.not_eq_true',Bool.not_eq_false',Bool.not_eq_true,Bool.not_eq_false]at h3
 refine M1 ?_
 refine gX (α:=ae) 56 ([(⟨x.name,x.ar,x.aA,x.line⟩:ae)]) ?_
 intro A3 c3
 refine Mi ?_ (pA 33 34 (k:Int) k (db hs))
 refine M1 ?_
 refine gX (α:=ae) 56 ([(⟨(s.at k).name,(s.at k).ar,(s.at k).aA,(s.at k).line⟩:ae)]) ?_
 intro A4 c4
 refine Mi ?_ (pR ((k:Int)+1))
 exact bu ⟨k+1,true,A4,c4,L++[(⟨x.name,x.ar,x.aA,x.line⟩:ae)]++[(⟨(s.at k).name,(s.at k).ar,(s.at k).aA,(s.at k).line⟩:ae)]⟩ (by first|exact hI.more (by assumption) (by omega)|exact hI.EU (by assumption) (by omega) (by assumption)|exact hI.skip (by assumption) (by omega) (by assumption)) (by show s.xs.length - (k+1)<s.xs.length - k;omega)
theorem xC (s:Sl ae)(t:ByteArray)(who:Int)(wait:Bool)(w:World)(hs:s.rd B w)(ht:t.size≤9223372036854775807):Calls prog 84 #[.slice s.A s.n s.c,vs t,vi who,.bool wait] w fun e w'=> ∃y:Sl ae,e=.returned (.tuple #[.slice y.A y.n y.c,((bZ (s.xs.map ae.abs) t who wait).2.1).val,vi (bZ (s.xs.map ae.abs) t who wait).2.2])∧y.xs.map ae.abs=(bZ (s.xs.map ae.abs) t who wait).1∧bJ w w' y:=by
 have cV:=Sl.rd.ok hs
 have iV:=Sl.ok.nc cV
 have iW:s.n=s.xs.length:=rfl
 refine M0 ?_ func84
 by_cases h1:dw (s.xs.map ae.abs) t who=0
 rotate_left
 ·refine Mp ?_ call148 (fun bs w hS=>(nk s t who w (Sl.rd.kp hs hS.kp) (by first|assumption|omega|(simp only[aL];omega))).mono (fun e w' h=>(h.resolve_right (fun h9=>h1 h9.1)).2))
  refine My false true ?_ (df h1)
  refine Mt [vn,vz 0,vi (dw (s.xs.map ae.abs) t who)] fun bs w hS=>?_
  have hm:bZ (s.xs.map ae.abs) t who wait=([],gl,dw (s.xs.map ae.abs) t who):=by
    grind[bZ]
  refine⟨Sl.nil,?_,?_,hS.aO (Sl.ao _ _)⟩
  ·rw[hm]<;>rfl
  ·rw[hm]<;>rfl
 refine Mf ?_ call148 (fun bs w hS=>(nk s t who w (Sl.rd.kp hs hS.kp) (by first|assumption|omega|(simp only[aL];omega))).mono (fun e w' h=>(h.resolve_left (fun h9=>h9.1 h1)).2))
 rintro y1 a5
 refine dH ?_
 obtain⟨A1,c1,S1⟩:=y1
 have a5:S1.map ae.abs=s.xs.map ae.abs:=a5
 refine fO (R':=[bI (bM 3) S1,ay 115 A1 c1 (S1:List ae)]) (List.Perm.refl _) ?_
 have bn:=gF (y:=(⟨A1,c1,S1⟩:Sl ae)) hs a5
 have oA:S1.length=s.xs.length:=by simpa using congrArg List.length a5
 refine bk (F:= ∀i,i<S1.length→aJ.ok (S1.getD i default)) (fun bs w hS i hi=>aJ.bL (B:=bH) (w:=w) (gx (hS.res _ i0) bn (aB hi))) fun gj=>?_
 refine bk (F:=dY A1 c1 (S1:List ae)) (fun bs w hS=>br (hS.res _ i1)) fun cI=>?_
 have cn:=cI.2
 have pW:=oO h1
 have kj:bB (S1.map ae.abs)=0:=by rw[a5];exact pW.1
 have NJ:=pW.2.2.1
 have NK:=pW.2.2.2
 have Gs:S1.length≤5:=by have h9:=(fS kj).1;simpa using h9
 have Ka:eQ (fun x:ae=>bK x.name t) s.xs=eQ (fun x:ae=>bK x.name t) S1:=xX (L:=s.xs) (L2:=S1) (f:=ae.abs) (c:=fun x:aY=>bK x.name t) rfl a5.symm
 have Kb:dk (fun x:ae=>bK x.name t) s.xs=dk (fun x:ae=>bK x.name t) S1:=zt (L:=s.xs) (L2:=S1) (f:=ae.abs) (c:=fun x:aY=>bK x.name t) rfl a5.symm
 rw[Ka,Kb]
 have oB:=n6 (L:=S1) kj t
 have qb:=du (fun x:aY=>decide (x.name=t)) (S1.map ae.abs)
 rw[List.length_map]at qb
 generalize hJ:aQ (fun x:aY=>decide (x.name=t)) (S1.map ae.abs)=J at oB qb
 have wY:=n5 (fun x:ae=>bK x.name t) S1
 generalize hk:eQ (fun x:ae=>bK x.name t) S1=k at oB wY⊢
 generalize hf:dk (fun x:ae=>bK x.name t) S1=fb at oB⊢
 refine Mq 24 false ?_ rfl
 refine HP fb true [(12,false)] (fun h2=>?_) fun h2=>?_
 rotate_left
 ·have At:=of_decide_eq_false (oB.1.symm.trans h2)
  refine Md ((S1.length:Int)=5) (fun g7=>?_) fun g7=>?_
  ·refine Mt [.slice A1 S1.length c1,vz 8,vi 0] fun bs w hS=>?_
   have gR:dw (S1.map ae.abs) t who=0:=by rw[a5];assumption
   rw[←a5]
   have lQ:(S1.getD k default).abs.ar=(S1.getD k default).ar:=rfl
   have kN:(S1.getD k default).abs.aA=(S1.getD k default).aA:=rfl
   have nh:(S1.getD k default).abs.line=(S1.getD k default).line.xs:=rfl
   have pY:(S1.getD k default).abs.name=(S1.getD k default).name:=rfl
   have hm:bZ (S1.map ae.abs) t who wait=(S1.map ae.abs,⟨8,0,emp⟩,0):=by
     grind[bZ,iA]
   refine⟨⟨A1,c1,S1⟩,?_,?_,hS.aO (y:=(⟨A1,c1,S1⟩:Sl ae)) (bT i1 hS.res (fun x hx=>?_))⟩
   ·rw[hm]<;>rfl
   ·exact (congrArg Prod.fst hm).symm
   ·exact⟨bn x hx,cO i0 hS.res hx⟩
  refine M1 ?_
  refine cd ?_
  refine nF ?_ call149 (fun bs w hS=>(Ew A1 c1 S1 k _ (⟨t,who,1,Sl.nil⟩:ae) (bs.getD 1 0) 115 w (hS.res _ i0) hS.lH.2.2 rfl (by omega) (by omega) (hS.loc 1 ⟨115,[vS t,vI who,vI 1,.v vn]⟩ (by kernel_rfl) (by simp)) (hS.tm (i:=1) (b:=⟨115,[vS t,vI who,vI 1,.v vn]⟩) (by kernel_rfl))).mono (fun e w' ⟨y,h1,h2⟩=>⟨y,h1,trivial,h2⟩))
  rintro q7 _
  refine Mt [.slice q7.1 (S1.take k++[(⟨t,who,1,Sl.nil⟩:ae)]++S1.drop k).length q7.2,.agg #[vi 0,vi 1,ve],vi 0] fun bs w hS=>?_
  have gR:dw (S1.map ae.abs) t who=0:=by rw[a5];assumption
  rw[←a5]
  have lQ:(S1.getD k default).abs.ar=(S1.getD k default).ar:=rfl
  have kN:(S1.getD k default).abs.aA=(S1.getD k default).aA:=rfl
  have nh:(S1.getD k default).abs.line=(S1.getD k default).line.xs:=rfl
  have pY:(S1.getD k default).abs.name=(S1.getD k default).name:=rfl
  have Dg:S1.take k++[(⟨t,who,1,Sl.nil⟩:ae)]++S1.drop k=dW (fun x:ae=>Op.bytesLess t.toList x.name.toList) (⟨t,who,1,Sl.nil⟩:ae) S1:=xV ((FF kj (by rw[hJ];omega)).trans hk)
  have gf:=zr Dg
  have hm:bZ (S1.map ae.abs) t who wait=(dW (fun x:aY=>Op.bytesLess t.toList x.name.toList) ⟨t,who,1,[]⟩ (S1.map ae.abs),⟨0,1,emp⟩,0):=by
    grind[bZ,iA]
  refine⟨⟨q7.1,q7.2,S1.take k++[(⟨t,who,1,Sl.nil⟩:ae)]++S1.drop k⟩,?_,?_,hS.aO (y:=(⟨q7.1,q7.2,S1.take k++[(⟨t,who,1,Sl.nil⟩:ae)]++S1.drop k⟩:Sl ae)) (bT i0 hS.res (fun x hx=>?_))⟩
  ·rw[hm]<;>rfl
  ·exact Eq.trans gf (congrArg Prod.fst hm).symm
  ·rw[Dg]at hx
   rcases ko hx with hx|hx
   ·subst hx;exact⟨ht,Sl.ao _ _⟩
   ·exact⟨bn x hx,cO i1 hS.res hx⟩
 have GA:=oB.2 h2
 subst GA
 have nK:=mM kj (k:=k) (by omega)
 obtain⟨Gt,Gu,Ap,Aq,Ar,Gv⟩:=nK
 have Hf:(S1.getD k default).line.n=(S1.getD k default).line.xs.length:=rfl
 refine Mi ?_ (pc (fG 52 (k:Int) k S1.length i1) (lg 57 k 1 1 i1))
 refine Md ((S1.getD k default).ar=who) (fun h3=>?_) fun h3=>?_
 ·refine cZ 9 [] [0] [bI (bM 3) S1,ay 115 A1 c1 (S1:List ae)] ai ?_
  refine bY ?_ (lg 64 k 2 1 i1)
  refine Mz ?_
  refine Mt [.slice A1 S1.length c1,.agg #[vi 0,vi (S1.getD k default).aA,ve],vi 0] fun bs w hS=>?_
  have gR:dw (S1.map ae.abs) t who=0:=by rw[a5];assumption
  rw[←a5]
  have lQ:(S1.getD k default).abs.ar=(S1.getD k default).ar:=rfl
  have kN:(S1.getD k default).abs.aA=(S1.getD k default).aA:=rfl
  have nh:(S1.getD k default).abs.line=(S1.getD k default).line.xs:=rfl
  have pY:(S1.getD k default).abs.name=(S1.getD k default).name:=rfl
  have dX:eU (S1.getD k default).abs who wait=((S1.getD k default).abs,⟨0,(S1.getD k default).aA,emp⟩):=by
    grind[eU]
  have hm:bZ (S1.map ae.abs) t who wait=(S1.map ae.abs,⟨0,(S1.getD k default).aA,emp⟩,0):=by
    unfold bZ iA
    simp only[hJ,Int.toNat_natCast,fo,List.length_map]
    rw[dX]
    repeat (first|rw[if_pos (by first|assumption|omega)]|rw[if_neg (by first|assumption|omega|(intro h0;first|exact absurd h0 (by assumption)|(simp_all;done)))])
    all_goals (show ((S1.map ae.abs).set k (S1.getD k default).abs,_,_)=_;rw[←fo,fW (by rw[List.length_map];omega)])
  refine⟨⟨A1,c1,S1⟩,?_,?_,hS.aO (y:=(⟨A1,c1,S1⟩:Sl ae)) (bT i1 hS.res (fun x hx=>?_))⟩
  ·rw[hm]<;>rfl
  ·exact (congrArg Prod.fst hm).symm
  ·exact⟨bn x hx,cO i0 hS.res hx⟩
 refine Mi ?_ (lg 70 k 1 1 i1)
 refine Md ((S1.getD k default).ar=0) (fun h4=>?_) fun h4=>?_
 ·refine Mi ?_ (lg 76 k 2 1 i1)
  refine Md ((S1.getD k default).aA=1073741824) (fun h5=>?_) fun h5=>?_
  ·refine Mt [.slice A1 S1.length c1,vz 8,vi 0] fun bs w hS=>?_
   have gR:dw (S1.map ae.abs) t who=0:=by rw[a5];assumption
   rw[←a5]
   have lQ:(S1.getD k default).abs.ar=(S1.getD k default).ar:=rfl
   have kN:(S1.getD k default).abs.aA=(S1.getD k default).aA:=rfl
   have nh:(S1.getD k default).abs.line=(S1.getD k default).line.xs:=rfl
   have pY:(S1.getD k default).abs.name=(S1.getD k default).name:=rfl
   have dX:eU (S1.getD k default).abs who wait=((S1.getD k default).abs,⟨8,0,emp⟩):=by
     grind[eU]
   have hm:bZ (S1.map ae.abs) t who wait=(S1.map ae.abs,⟨8,0,emp⟩,0):=by
     unfold bZ iA
     simp only[hJ,Int.toNat_natCast,fo,List.length_map]
     rw[dX]
     repeat (first|rw[if_pos (by first|assumption|omega)]|rw[if_neg (by first|assumption|omega|(intro h0;first|exact absurd h0 (by assumption)|(simp_all;done)))])
     all_goals (show ((S1.map ae.abs).set k (S1.getD k default).abs,_,_)=_;rw[←fo,fW (by rw[List.length_map];omega)])
   refine⟨⟨A1,c1,S1⟩,?_,?_,hS.aO (y:=(⟨A1,c1,S1⟩:Sl ae)) (bT i1 hS.res (fun x hx=>?_))⟩
   ·rw[hm]<;>rfl
   ·exact (congrArg Prod.fst hm).symm
   ·exact⟨bn x hx,cO i0 hS.res hx⟩
  refine Mi ?_ (lg 85 k 1 1 i1)
  refine My true false ?_ (dt h4)
  refine Mi ?_ (pc (lg 93 k 2 1 i1) (pR ((S1.getD k default).aA+1)))
  refine cd ?_
  refine Ms k 1 (⟨(S1.getD k default).name,who,(S1.getD k default).aA,(S1.getD k default).line⟩:ae) ?_ (by omega)
  intro L3 sX B0
  have ki:L3.getD k default=(⟨(S1.getD k default).name,who,(S1.getD k default).aA,(S1.getD k default).line⟩:ae):=by rw[sX];exact bQ (by omega)
  have iX:L3=List.set S1 k (⟨(S1.getD k default).name,who,(S1.getD k default).aA,(S1.getD k default).line⟩:ae):=by rw[sX]
  refine Ms k 2 (⟨(S1.getD k default).name,who,(S1.getD k default).aA+1,(S1.getD k default).line⟩:ae) ?_ (by omega) (hg:=ki)
  intro L4 qa Am
  have j2:L4.getD k default=(⟨(S1.getD k default).name,who,(S1.getD k default).aA+1,(S1.getD k default).line⟩:ae):=by rw[qa];exact bQ (by omega)
  have lV:L4=List.set S1 k (⟨(S1.getD k default).name,who,(S1.getD k default).aA+1,(S1.getD k default).line⟩:ae):=by rw[qa,iX,List.set_set]
  refine cZ 9 [] [0] [ay 115 A1 c1 (L4:List ae),bI (bM 3) S1] ai ?_
  refine bY ?_ (l4 103 k 2 1 j2 i0)
  refine Mz ?_
  refine Mt [.slice A1 S1.length c1,.agg #[vi 0,vi ((S1.getD k default).aA+1),ve],vi 0] fun bs w hS=>?_
  have gR:dw (S1.map ae.abs) t who=0:=by rw[a5];assumption
  rw[←a5]
  have lQ:(S1.getD k default).abs.ar=(S1.getD k default).ar:=rfl
  have kN:(S1.getD k default).abs.aA=(S1.getD k default).aA:=rfl
  have nh:(S1.getD k default).abs.line=(S1.getD k default).line.xs:=rfl
  have pY:(S1.getD k default).abs.name=(S1.getD k default).name:=rfl
  have gf:=kF lV
  have dX:eU (S1.getD k default).abs who wait=(((⟨(S1.getD k default).name,who,(S1.getD k default).aA+1,(S1.getD k default).line⟩:ae)).abs,⟨0,(S1.getD k default).aA+1,emp⟩):=by
    unfold eU
    simp only[lQ,kN,nh,pY]
    repeat (first|rw[if_pos (by first|assumption|omega|exact .inl (by assumption)|exact .inr (by assumption))]|rw[if_neg (by first|assumption|omega|(rintro (h8|h8)<;>simp_all;done))])
    all_goals rfl
  have hm:bZ (S1.map ae.abs) t who wait=((S1.map ae.abs).set k ((⟨(S1.getD k default).name,who,(S1.getD k default).aA+1,(S1.getD k default).line⟩:ae)).abs,⟨0,(S1.getD k default).aA+1,emp⟩,0):=by
    unfold bZ iA
    simp only[hJ,Int.toNat_natCast,fo,List.length_map]
    rw[dX]
    repeat (first|rw[if_pos (by first|assumption|omega)]|rw[if_neg (by first|assumption|omega|(intro h0;first|exact absurd h0 (by assumption)|(simp_all;done)))])
    all_goals rfl
  refine⟨⟨A1,c1,L4⟩,?_,?_,hS.aO (y:=(⟨A1,c1,L4⟩:Sl ae)) (bT i0 hS.res (fun x hx=>?_))⟩
  ·have gB:S1.length=L4.length:=by rw[lV,List.length_set]
   rw[hm]
   exact congrArg (fun q=>Ending.returned (.tuple #[.slice A1 q c1,.agg #[vi 0,vi ((S1.getD k default).aA+1),ve],vi 0])) gB
  ·exact Eq.trans gf (congrArg Prod.fst hm).symm
  ·rw[lV]at hx
   rcases mem_set hx with hx|hx
   ·subst hx;exact⟨bn (S1.getD k default) (aB (L:=S1) (i:=k) (by omega)),cO (x:=(S1.getD k default)) i1 hS.res (aB (L:=S1) (i:=k) (by omega))⟩
   ·exact⟨bn x hx,cO i1 hS.res hx⟩
 refine Mi ?_ (lg 85 k 1 1 i1)
 refine My false false ?_ (df h4)
 refine fL wait (fun h8=>?_) fun h8=>?_
 rotate_left
 ·refine cZ 9 [] [0] [bI (bM 3) S1,ay 115 A1 c1 (S1:List ae)] ai ?_
  refine bY ?_ (lg 120 k 1 1 i1)
  refine Mz ?_
  refine Mt [.slice A1 S1.length c1,.agg #[vi 10,vi (S1.getD k default).ar,ve],vi 0] fun bs w hS=>?_
  have gR:dw (S1.map ae.abs) t who=0:=by rw[a5];assumption
  rw[←a5]
  have lQ:(S1.getD k default).abs.ar=(S1.getD k default).ar:=rfl
  have kN:(S1.getD k default).abs.aA=(S1.getD k default).aA:=rfl
  have nh:(S1.getD k default).abs.line=(S1.getD k default).line.xs:=rfl
  have pY:(S1.getD k default).abs.name=(S1.getD k default).name:=rfl
  have dX:eU (S1.getD k default).abs who wait=((S1.getD k default).abs,⟨10,(S1.getD k default).ar,emp⟩):=by
    grind[eU]
  have hm:bZ (S1.map ae.abs) t who wait=(S1.map ae.abs,⟨10,(S1.getD k default).ar,emp⟩,0):=by
    unfold bZ iA
    simp only[hJ,Int.toNat_natCast,fo,List.length_map]
    rw[dX]
    repeat (first|rw[if_pos (by first|assumption|omega)]|rw[if_neg (by first|assumption|omega|(intro h0;first|exact absurd h0 (by assumption)|(simp_all;done)))])
    all_goals (show ((S1.map ae.abs).set k (S1.getD k default).abs,_,_)=_;rw[←fo,fW (by rw[List.length_map];omega)])
  refine⟨⟨A1,c1,S1⟩,?_,?_,hS.aO (y:=(⟨A1,c1,S1⟩:Sl ae)) (bT i1 hS.res (fun x hx=>?_))⟩
  ·rw[hm]<;>rfl
  ·exact (congrArg Prod.fst hm).symm
  ·exact⟨bn x hx,cO i0 hS.res hx⟩
 refine Mi ?_ (lg 112 k 3 1 i1)
 refine Mp ?_ call150 (fun bs w hS=>Ai (S1.getD k default).line (S1.getD k default).line.n who w (gx (hS.res _ i0) bn (aB (i:=k) (by omega))).2 (by omega))
 have Ik:(((S1.getD k default).line.xs.take (S1.getD k default).line.n).any fun z=>decide (z=who))=um (S1.getD k default).abs who:=by rw[dE (Nat.le_refl _)];rfl
 rw[Ik]
 refine Mb (um (S1.getD k default).abs who) (fun h9=>?_) fun h9=>?_
 ·refine cZ 9 [] [0] [bI (bM 3) S1,ay 115 A1 c1 (S1:List ae)] ai ?_
  refine bY ?_ (lg 120 k 1 1 i1)
  refine Mz ?_
  refine Mt [.slice A1 S1.length c1,.agg #[vi 10,vi (S1.getD k default).ar,ve],vi 0] fun bs w hS=>?_
  have gR:dw (S1.map ae.abs) t who=0:=by rw[a5];assumption
  rw[←a5]
  have lQ:(S1.getD k default).abs.ar=(S1.getD k default).ar:=rfl
  have kN:(S1.getD k default).abs.aA=(S1.getD k default).aA:=rfl
  have nh:(S1.getD k default).abs.line=(S1.getD k default).line.xs:=rfl
  have pY:(S1.getD k default).abs.name=(S1.getD k default).name:=rfl
  have dX:eU (S1.getD k default).abs who wait=((S1.getD k default).abs,⟨10,(S1.getD k default).ar,emp⟩):=by
    grind[eU]
  have hm:bZ (S1.map ae.abs) t who wait=(S1.map ae.abs,⟨10,(S1.getD k default).ar,emp⟩,0):=by
    unfold bZ iA
    simp only[hJ,Int.toNat_natCast,fo,List.length_map]
    rw[dX]
    repeat (first|rw[if_pos (by first|assumption|omega)]|rw[if_neg (by first|assumption|omega|(intro h0;first|exact absurd h0 (by assumption)|(simp_all;done)))])
    all_goals (show ((S1.map ae.abs).set k (S1.getD k default).abs,_,_)=_;rw[←fo,fW (by rw[List.length_map];omega)])
  refine⟨⟨A1,c1,S1⟩,?_,?_,hS.aO (y:=(⟨A1,c1,S1⟩:Sl ae)) (bT i1 hS.res (fun x hx=>?_))⟩
  ·rw[hm]<;>rfl
  ·exact (congrArg Prod.fst hm).symm
  ·exact⟨bn x hx,cO i0 hS.res hx⟩
 refine Mi ?_ (lg 126 k 3 1 i1)
 refine Md ((((S1.getD k default).line.n:Nat):Int)=3) (fun ir=>?_) fun ir=>?_
 ·refine Mt [.slice A1 S1.length c1,vz 8,vi 0] fun bs w hS=>?_
  have gR:dw (S1.map ae.abs) t who=0:=by rw[a5];assumption
  rw[←a5]
  have lQ:(S1.getD k default).abs.ar=(S1.getD k default).ar:=rfl
  have kN:(S1.getD k default).abs.aA=(S1.getD k default).aA:=rfl
  have nh:(S1.getD k default).abs.line=(S1.getD k default).line.xs:=rfl
  have pY:(S1.getD k default).abs.name=(S1.getD k default).name:=rfl
  have dX:eU (S1.getD k default).abs who wait=((S1.getD k default).abs,⟨8,0,emp⟩):=by
    grind[eU]
  have hm:bZ (S1.map ae.abs) t who wait=(S1.map ae.abs,⟨8,0,emp⟩,0):=by
    unfold bZ iA
    simp only[hJ,Int.toNat_natCast,fo,List.length_map]
    rw[dX]
    repeat (first|rw[if_pos (by first|assumption|omega)]|rw[if_neg (by first|assumption|omega|(intro h0;first|exact absurd h0 (by assumption)|(simp_all;done)))])
    all_goals (show ((S1.map ae.abs).set k (S1.getD k default).abs,_,_)=_;rw[←fo,fW (by rw[List.length_map];omega)])
  refine⟨⟨A1,c1,S1⟩,?_,?_,hS.aO (y:=(⟨A1,c1,S1⟩:Sl ae)) (bT i1 hS.res (fun x hx=>?_))⟩
  ·rw[hm]<;>rfl
  ·exact (congrArg Prod.fst hm).symm
  ·exact⟨bn x hx,cO i0 hS.res hx⟩
 refine m5 (ay 3 (S1.getD k default).line.A (S1.getD k default).line.c ((S1.getD k default).line.xs:List Int)) (bI (bM 3) (List.eraseIdx S1 k)) (ky (bM 3) (i:=k) (by omega)) (fun w h=>lG (bM 3) (i:=k) (by omega) w h) ?_
 refine Mi ?_ (lg 135 k 3 1 i2)
 refine M1 ?_
 refine gX (α:=Int) 8 ([who]) ?_
 intro A5 c5
 refine cL ?_
 refine Ms k 3 (⟨(S1.getD k default).name,(S1.getD k default).ar,(S1.getD k default).aA,⟨A5,c5,(S1.getD k default).line.xs++[who]⟩⟩:ae) ?_ (by omega)
 intro L6 rA Al
 have ni:L6.getD k default=(⟨(S1.getD k default).name,(S1.getD k default).ar,(S1.getD k default).aA,⟨A5,c5,(S1.getD k default).line.xs++[who]⟩⟩:ae):=by rw[rA];exact bQ (by omega)
 have fM:L6=List.set S1 k (⟨(S1.getD k default).name,(S1.getD k default).ar,(S1.getD k default).aA,⟨A5,c5,(S1.getD k default).line.xs++[who]⟩⟩:ae):=by rw[rA]
 refine cZ 9 [] [0] [ay 115 A1 c1 (L6:List ae),ay 3 A5 c5 ((S1.getD k default).line.xs++[who]:List Int),bI (bM 3) (List.eraseIdx S1 k)] ai ?_
 refine bY ?_ (l4 145 k 1 1 ni i0)
 refine Mz ?_
 refine Mt [.slice A1 S1.length c1,.agg #[vi 10,vi (S1.getD k default).ar,ve],vi 0] fun bs w hS=>?_
 have gR:dw (S1.map ae.abs) t who=0:=by rw[a5];assumption
 rw[←a5]
 have lQ:(S1.getD k default).abs.ar=(S1.getD k default).ar:=rfl
 have kN:(S1.getD k default).abs.aA=(S1.getD k default).aA:=rfl
 have nh:(S1.getD k default).abs.line=(S1.getD k default).line.xs:=rfl
 have pY:(S1.getD k default).abs.name=(S1.getD k default).name:=rfl
 have gf:=kF fM
 have dX:eU (S1.getD k default).abs who wait=(((⟨(S1.getD k default).name,(S1.getD k default).ar,(S1.getD k default).aA,⟨A5,c5,(S1.getD k default).line.xs++[who]⟩⟩:ae)).abs,⟨10,(S1.getD k default).ar,emp⟩):=by
   unfold eU
   simp only[lQ,kN,nh,pY]
   repeat (first|rw[if_pos (by first|assumption|omega|exact .inl (by assumption)|exact .inr (by assumption))]|rw[if_neg (by first|assumption|omega|(rintro (h8|h8)<;>simp_all;done))])
   all_goals rfl
 have hm:bZ (S1.map ae.abs) t who wait=((S1.map ae.abs).set k ((⟨(S1.getD k default).name,(S1.getD k default).ar,(S1.getD k default).aA,⟨A5,c5,(S1.getD k default).line.xs++[who]⟩⟩:ae)).abs,⟨10,(S1.getD k default).ar,emp⟩,0):=by
   unfold bZ iA
   simp only[hJ,Int.toNat_natCast,fo,List.length_map]
   rw[dX]
   repeat (first|rw[if_pos (by first|assumption|omega)]|rw[if_neg (by first|assumption|omega|(intro h0;first|exact absurd h0 (by assumption)|(simp_all;done)))])
   all_goals rfl
 refine⟨⟨A1,c1,L6⟩,?_,?_,hS.aO (y:=(⟨A1,c1,L6⟩:Sl ae)) (bT i0 hS.res (fun x hx=>?_))⟩
 ·have gB:S1.length=L6.length:=by rw[fM,List.length_set]
  rw[hm]
  exact congrArg (fun q=>Ending.returned (.tuple #[.slice A1 q c1,.agg #[vi 10,vi (S1.getD k default).ar,ve],vi 0])) gB
 ·exact Eq.trans gf (congrArg Prod.fst hm).symm
 ·rw[fM]at hx
  rcases ia hx with hx|hx
  ·subst hx;exact⟨bn (S1.getD k default) (aB (L:=S1) (i:=k) (by omega)),a4 i1 (hS.res _ i1) (fun _ _=>trivial)⟩
  ·exact⟨bn x (List.mem_of_mem_eraseIdx hx),cO i2 hS.res hx⟩
theorem sO (s:Sl ae)(t:ByteArray)(who:Int)(wait:Bool)(w:World)(hs:s.rd B w)(ht:t.size≤9223372036854775807):Calls prog 38 #[s.val,vs t,vi who,.bool wait] w fun e w'=> ∃y:Sl ae,e=.returned (.tuple #[y.val,((bZ (s.xs.map ae.abs) t who wait).2.1).val,vi (bZ (s.xs.map ae.abs) t who wait).2.2])∧y.xs.map ae.abs=(bZ (s.xs.map ae.abs) t who wait).1∧bJ w w' y:=by
 have cV:=Sl.rd.ok hs
 have iV:=Sl.ok.nc cV
 have iW:s.n=s.xs.length:=rfl
 refine M0 ?_ func38
 refine Mp ?_ call101 (fun bs w hS=>xB s t who w (Sl.rd.kp hs hS.kp) (by first|assumption|omega|(simp only[aL];omega)))
 refine cr (dw (s.xs.map ae.abs) t who=0) (fun h1=>?_) fun h1=>?_
 rotate_left
 ·refine Mt [vn,vz 0,vi (dw (s.xs.map ae.abs) t who)] fun bs w hS=>?_
  have hm:bZ (s.xs.map ae.abs) t who wait=([],gl,dw (s.xs.map ae.abs) t who):=by
    grind[bZ]
  refine⟨Sl.nil,?_,?_,hS.aO (Sl.ao _ _)⟩
  ·rw[hm]<;>rfl
  ·rw[hm]<;>rfl
 refine Mf ?_ call18 (fun bs w hS=>ku s w (Sl.rd.kp hs hS.kp) (js (oO (by assumption)).1))
 rintro y1 a5
 refine dH ?_
 obtain⟨A1,c1,S1⟩:=y1
 have a5:S1.map ae.abs=s.xs.map ae.abs:=a5
 refine fO (R':=[bI (bM 3) S1,ay 115 A1 c1 (S1:List ae)]) (List.Perm.refl _) ?_
 have bn:=gF (y:=(⟨A1,c1,S1⟩:Sl ae)) (hs) a5
 have oA:S1.length=s.xs.length:=by simpa using congrArg List.length a5
 refine bk (F:= ∀i,i<S1.length→aJ.ok (S1.getD i default)) (fun bs w hS i hi=>aJ.bL (B:=bH) (w:=w) (gx (hS.res _ i0) bn (aB hi))) fun gj=>?_
 refine bk (F:=dY A1 c1 (S1:List ae)) (fun bs w hS=>br (hS.res _ i1)) fun cI=>?_
 have cn:=cI.2
 have pW:=oO h1
 have kj:bB (S1.map ae.abs)=0:=by rw[a5];exact pW.1
 have NJ:=pW.2.2.1
 have NK:=pW.2.2.2
 have Gs:S1.length≤5:=by have h9:=(fS kj).1;simpa using h9
 refine Mp ?_ call100 (fun bs w hS=>jk (⟨A1,c1,S1⟩:Sl ae) t w (rK (hS.res _ i0) (hS.res _ i1) bn))
 have Ii:aQ (fun x:ae=>decide (x.name=t)) S1=aQ (fun x:aY=>decide (x.name=t)) (S1.map ae.abs):=fm ae.abs (fun x:aY=>decide (x.name=t)) S1
 rw[Ii]
 have qb:=du (fun x:aY=>decide (x.name=t)) (S1.map ae.abs)
 generalize hJ:aQ (fun x:aY=>decide (x.name=t)) (S1.map ae.abs)=J at qb⊢
 rw[List.length_map]at qb
 refine Md (J<0) (fun h2=>?_) fun h2=>?_
 ·have At: ¬0≤J:=by omega
  refine Md ((5:Int)≤(S1.length:Int)) (fun h3=>?_) fun h3=>?_
  ·refine Mt [.slice A1 S1.length c1,vz 8,vi 0] fun bs w hS=>?_
   have gR:dw (S1.map ae.abs) t who=0:=by rw[a5];assumption
   rw[←a5]
   have lQ:(S1.getD J.toNat default).abs.ar=(S1.getD J.toNat default).ar:=rfl
   have kN:(S1.getD J.toNat default).abs.aA=(S1.getD J.toNat default).aA:=rfl
   have nh:(S1.getD J.toNat default).abs.line=(S1.getD J.toNat default).line.xs:=rfl
   have pY:(S1.getD J.toNat default).abs.name=(S1.getD J.toNat default).name:=rfl
   have hm:bZ (S1.map ae.abs) t who wait=(S1.map ae.abs,⟨8,0,emp⟩,0):=by
     grind[bZ,iA]
   refine⟨⟨A1,c1,S1⟩,?_,?_,hS.aO (y:=(⟨A1,c1,S1⟩:Sl ae)) (bT i1 hS.res (fun x hx=>?_))⟩
   ·rw[hm]<;>rfl
   ·exact (congrArg Prod.fst hm).symm
   ·exact⟨bn x hx,cO i0 hS.res hx⟩
  refine Mf ?_ call102 (fun bs w hS=>yy (⟨A1,c1,S1⟩:Sl ae) (⟨t,who,1,Sl.nil⟩:ae) w (rK (hS.res _ i0) (hS.res _ i1) bn) (by show S1.length≤_;omega))
  rintro y3 mw
  obtain⟨A3,c3,rfl⟩:=Sl.wN mw
  refine eu (ay 115 A3 c3 (dW (fun z:ae=>Op.bytesLess t.toList z.name.toList) (⟨t,who,1,Sl.nil⟩:ae) S1:List ae)) (List.Sublist.refl _) (fun w h=>h) ?_
  refine Mt [.slice A3 (dW (fun z:ae=>Op.bytesLess t.toList z.name.toList) (⟨t,who,1,Sl.nil⟩:ae) S1).length c3,.agg #[vi 0,vi 1,ve],vi 0] fun bs w hS=>?_
  have gR:dw (S1.map ae.abs) t who=0:=by rw[a5];assumption
  rw[←a5]
  have lQ:(S1.getD J.toNat default).abs.ar=(S1.getD J.toNat default).ar:=rfl
  have kN:(S1.getD J.toNat default).abs.aA=(S1.getD J.toNat default).aA:=rfl
  have nh:(S1.getD J.toNat default).abs.line=(S1.getD J.toNat default).line.xs:=rfl
  have pY:(S1.getD J.toNat default).abs.name=(S1.getD J.toNat default).name:=rfl
  have Dg:dW (fun z:ae=>Op.bytesLess t.toList z.name.toList) (⟨t,who,1,Sl.nil⟩:ae) S1=dW (fun x:ae=>Op.bytesLess t.toList x.name.toList) (⟨t,who,1,Sl.nil⟩:ae) S1:=rfl
  have gf:=zr Dg
  have hm:bZ (S1.map ae.abs) t who wait=(dW (fun x:aY=>Op.bytesLess t.toList x.name.toList) ⟨t,who,1,[]⟩ (S1.map ae.abs),⟨0,1,emp⟩,0):=by
    grind[bZ,iA]
  refine⟨⟨A3,c3,dW (fun z:ae=>Op.bytesLess t.toList z.name.toList) (⟨t,who,1,Sl.nil⟩:ae) S1⟩,?_,?_,hS.aO (y:=(⟨A3,c3,dW (fun z:ae=>Op.bytesLess t.toList z.name.toList) (⟨t,who,1,Sl.nil⟩:ae) S1⟩:Sl ae)) (bT i0 hS.res (fun x hx=>?_))⟩
  ·rw[hm]<;>rfl
  ·exact Eq.trans gf (congrArg Prod.fst hm).symm
  ·rw[Dg]at hx
   rcases ko hx with hx|hx
   ·subst hx;exact⟨ht,Sl.ao _ _⟩
   ·exact⟨bn x hx,cO i1 hS.res hx⟩
 have At:0≤J:=by omega
 have nK:=mM kj (k:=J.toNat) (by omega)
 obtain⟨Gt,Gu,Ap,Aq,Ar,Gv⟩:=nK
 have Hf:(S1.getD J.toNat default).line.n=(S1.getD J.toNat default).line.xs.length:=rfl
 refine Mi ?_ (pc (fG 43 J J.toNat S1.length i1) (lg 45 J.toNat 1 1 i1))
 refine Md ((S1.getD J.toNat default).ar=0) (fun h4=>?_) fun h4=>?_
 ·refine Mi ?_ (pc (fG 49 J J.toNat S1.length i1) (lg 51 J.toNat 2 1 i1))
  refine Md ((1073741824:Int)≤(S1.getD J.toNat default).aA) (fun h5=>?_) fun h5=>?_
  ·refine Mt [.slice A1 S1.length c1,vz 8,vi 0] fun bs w hS=>?_
   have gR:dw (S1.map ae.abs) t who=0:=by rw[a5];assumption
   rw[←a5]
   have lQ:(S1.getD J.toNat default).abs.ar=(S1.getD J.toNat default).ar:=rfl
   have kN:(S1.getD J.toNat default).abs.aA=(S1.getD J.toNat default).aA:=rfl
   have nh:(S1.getD J.toNat default).abs.line=(S1.getD J.toNat default).line.xs:=rfl
   have pY:(S1.getD J.toNat default).abs.name=(S1.getD J.toNat default).name:=rfl
   have dX:eU (S1.getD J.toNat default).abs who wait=((S1.getD J.toNat default).abs,⟨8,0,emp⟩):=by
     grind[eU]
   have hm:bZ (S1.map ae.abs) t who wait=(S1.map ae.abs,⟨8,0,emp⟩,0):=by
     unfold bZ iA
     simp only[hJ,fo,List.length_map]
     rw[dX]
     repeat (first|rw[if_pos (by first|assumption|omega)]|rw[if_neg (by first|assumption|omega|(intro h0;first|exact absurd h0 (by assumption)|(simp_all;done)))])
     all_goals (show ((S1.map ae.abs).set J.toNat (S1.getD J.toNat default).abs,_,_)=_;rw[←fo,fW (by rw[List.length_map];omega)])
   refine⟨⟨A1,c1,S1⟩,?_,?_,hS.aO (y:=(⟨A1,c1,S1⟩:Sl ae)) (bT i1 hS.res (fun x hx=>?_))⟩
   ·rw[hm]<;>rfl
   ·exact (congrArg Prod.fst hm).symm
   ·exact⟨bn x hx,cO i0 hS.res hx⟩
  refine Mi ?_ (fG 58 J J.toNat S1.length i1)
  refine cd ?_
  refine Ms J.toNat 1 (⟨(S1.getD J.toNat default).name,who,(S1.getD J.toNat default).aA,(S1.getD J.toNat default).line⟩:ae) ?_ (by omega)
  intro L5 IW MB
  have Gr:L5.getD J.toNat default=(⟨(S1.getD J.toNat default).name,who,(S1.getD J.toNat default).aA,(S1.getD J.toNat default).line⟩:ae):=by rw[IW];exact bQ (by omega)
  have BZ:L5=List.set S1 J.toNat (⟨(S1.getD J.toNat default).name,who,(S1.getD J.toNat default).aA,(S1.getD J.toNat default).line⟩:ae):=by rw[IW]
  refine Mi ?_ (pc (fG 62 J J.toNat S1.length i0) (pc (l4 64 J.toNat 2 1 Gr i0) (pc (pR ((S1.getD J.toNat default).aA+1)) (fG 66 J J.toNat S1.length i0))))
  refine Ms J.toNat 2 (⟨(S1.getD J.toNat default).name,who,(S1.getD J.toNat default).aA+1,(S1.getD J.toNat default).line⟩:ae) ?_ (by omega) (hg:=Gr)
  intro L6 rA Al
  have ni:L6.getD J.toNat default=(⟨(S1.getD J.toNat default).name,who,(S1.getD J.toNat default).aA+1,(S1.getD J.toNat default).line⟩:ae):=by rw[rA];exact bQ (by omega)
  have fM:L6=List.set S1 J.toNat (⟨(S1.getD J.toNat default).name,who,(S1.getD J.toNat default).aA+1,(S1.getD J.toNat default).line⟩:ae):=by rw[rA,BZ,List.set_set]
  refine Mi ?_ (pc (fG 70 J J.toNat S1.length i0) (l4 72 J.toNat 1 1 ni i0))
  refine Md (who=who) (fun h6=>?_) fun h6=>?_
  rotate_left
  ·exact absurd rfl h6
  refine cZ 10 [] [0] [ay 115 A1 c1 (L6:List ae),bI (bM 3) S1] ai ?_
  refine bY ?_ (pc (fG 78 J J.toNat S1.length i0) (l4 80 J.toNat 2 1 ni i0))
  refine Mz ?_
  refine Mt [.slice A1 S1.length c1,.agg #[vi 0,vi ((S1.getD J.toNat default).aA+1),ve],vi 0] fun bs w hS=>?_
  have gR:dw (S1.map ae.abs) t who=0:=by rw[a5];assumption
  rw[←a5]
  have lQ:(S1.getD J.toNat default).abs.ar=(S1.getD J.toNat default).ar:=rfl
  have kN:(S1.getD J.toNat default).abs.aA=(S1.getD J.toNat default).aA:=rfl
  have nh:(S1.getD J.toNat default).abs.line=(S1.getD J.toNat default).line.xs:=rfl
  have pY:(S1.getD J.toNat default).abs.name=(S1.getD J.toNat default).name:=rfl
  have gf:=kF fM
  have dX:eU (S1.getD J.toNat default).abs who wait=(((⟨(S1.getD J.toNat default).name,who,(S1.getD J.toNat default).aA+1,(S1.getD J.toNat default).line⟩:ae)).abs,⟨0,(S1.getD J.toNat default).aA+1,emp⟩):=by
    unfold eU
    simp only[lQ,kN,nh,pY]
    repeat (first|rw[if_pos (by first|assumption|omega|exact .inl (by assumption)|exact .inr (by assumption))]|rw[if_neg (by first|assumption|omega|(rintro (h8|h8)<;>simp_all;done))])
    all_goals rfl
  have hm:bZ (S1.map ae.abs) t who wait=((S1.map ae.abs).set J.toNat ((⟨(S1.getD J.toNat default).name,who,(S1.getD J.toNat default).aA+1,(S1.getD J.toNat default).line⟩:ae)).abs,⟨0,(S1.getD J.toNat default).aA+1,emp⟩,0):=by
    unfold bZ iA
    simp only[hJ,fo,List.length_map]
    rw[dX]
    repeat (first|rw[if_pos (by first|assumption|omega)]|rw[if_neg (by first|assumption|omega|(intro h0;first|exact absurd h0 (by assumption)|(simp_all;done)))])
    all_goals rfl
  refine⟨⟨A1,c1,L6⟩,?_,?_,hS.aO (y:=(⟨A1,c1,L6⟩:Sl ae)) (bT i0 hS.res (fun x hx=>?_))⟩
  ·have gB:S1.length=L6.length:=by rw[fM,List.length_set]
   rw[hm]
   exact congrArg (fun q=>Ending.returned (.tuple #[.slice A1 q c1,.agg #[vi 0,vi ((S1.getD J.toNat default).aA+1),ve],vi 0])) gB
  ·exact Eq.trans gf (congrArg Prod.fst hm).symm
  ·rw[fM]at hx
   rcases mem_set hx with hx|hx
   ·subst hx;exact⟨bn (S1.getD J.toNat default) (aB (L:=S1) (i:=J.toNat) (by omega)),cO (x:=(S1.getD J.toNat default)) i1 hS.res (aB (L:=S1) (i:=J.toNat) (by omega))⟩
   ·exact⟨bn x hx,cO i1 hS.res hx⟩
 refine Mi ?_ (pc (fG 70 J J.toNat S1.length i1) (lg 72 J.toNat 1 1 i1))
 refine Md ((S1.getD J.toNat default).ar=who) (fun h7=>?_) fun h7=>?_
 ·refine cZ 10 [] [0] [bI (bM 3) S1,ay 115 A1 c1 (S1:List ae)] ai ?_
  refine bY ?_ (pc (fG 78 J J.toNat S1.length i1) (lg 80 J.toNat 2 1 i1))
  refine Mz ?_
  refine Mt [.slice A1 S1.length c1,.agg #[vi 0,vi (S1.getD J.toNat default).aA,ve],vi 0] fun bs w hS=>?_
  have gR:dw (S1.map ae.abs) t who=0:=by rw[a5];assumption
  rw[←a5]
  have lQ:(S1.getD J.toNat default).abs.ar=(S1.getD J.toNat default).ar:=rfl
  have kN:(S1.getD J.toNat default).abs.aA=(S1.getD J.toNat default).aA:=rfl
  have nh:(S1.getD J.toNat default).abs.line=(S1.getD J.toNat default).line.xs:=rfl
  have pY:(S1.getD J.toNat default).abs.name=(S1.getD J.toNat default).name:=rfl
  have dX:eU (S1.getD J.toNat default).abs who wait=((S1.getD J.toNat default).abs,⟨0,(S1.getD J.toNat default).aA,emp⟩):=by
    grind[eU]
  have hm:bZ (S1.map ae.abs) t who wait=(S1.map ae.abs,⟨0,(S1.getD J.toNat default).aA,emp⟩,0):=by
    unfold bZ iA
    simp only[hJ,fo,List.length_map]
    rw[dX]
    repeat (first|rw[if_pos (by first|assumption|omega)]|rw[if_neg (by first|assumption|omega|(intro h0;first|exact absurd h0 (by assumption)|(simp_all;done)))])
    all_goals (show ((S1.map ae.abs).set J.toNat (S1.getD J.toNat default).abs,_,_)=_;rw[←fo,fW (by rw[List.length_map];omega)])
  refine⟨⟨A1,c1,S1⟩,?_,?_,hS.aO (y:=(⟨A1,c1,S1⟩:Sl ae)) (bT i1 hS.res (fun x hx=>?_))⟩
  ·rw[hm]<;>rfl
  ·exact (congrArg Prod.fst hm).symm
  ·exact⟨bn x hx,cO i0 hS.res hx⟩
 refine Mi ?_ (pc (fG 84 J J.toNat S1.length i1) (lg 86 J.toNat 1 1 i1))
 refine Mb wait (fun h8=>?_) fun h8=>?_
 rotate_left
 ·refine cZ 5 [] [0] [bI (bM 3) S1,ay 115 A1 c1 (S1:List ae)] ai ?_
  refine Mz ?_
  refine Mt [.slice A1 S1.length c1,.agg #[vi 10,vi (S1.getD J.toNat default).ar,ve],vi 0] fun bs w hS=>?_
  have gR:dw (S1.map ae.abs) t who=0:=by rw[a5];assumption
  rw[←a5]
  have lQ:(S1.getD J.toNat default).abs.ar=(S1.getD J.toNat default).ar:=rfl
  have kN:(S1.getD J.toNat default).abs.aA=(S1.getD J.toNat default).aA:=rfl
  have nh:(S1.getD J.toNat default).abs.line=(S1.getD J.toNat default).line.xs:=rfl
  have pY:(S1.getD J.toNat default).abs.name=(S1.getD J.toNat default).name:=rfl
  have dX:eU (S1.getD J.toNat default).abs who wait=((S1.getD J.toNat default).abs,⟨10,(S1.getD J.toNat default).ar,emp⟩):=by
    grind[eU]
  have hm:bZ (S1.map ae.abs) t who wait=(S1.map ae.abs,⟨10,(S1.getD J.toNat default).ar,emp⟩,0):=by
    unfold bZ iA
    simp only[hJ,fo,List.length_map]
    rw[dX]
    repeat (first|rw[if_pos (by first|assumption|omega)]|rw[if_neg (by first|assumption|omega|(intro h0;first|exact absurd h0 (by assumption)|(simp_all;done)))])
    all_goals (show ((S1.map ae.abs).set J.toNat (S1.getD J.toNat default).abs,_,_)=_;rw[←fo,fW (by rw[List.length_map];omega)])
  refine⟨⟨A1,c1,S1⟩,?_,?_,hS.aO (y:=(⟨A1,c1,S1⟩:Sl ae)) (bT i1 hS.res (fun x hx=>?_))⟩
  ·rw[hm]<;>rfl
  ·exact (congrArg Prod.fst hm).symm
  ·exact⟨bn x hx,cO i0 hS.res hx⟩
 refine Mi ?_ (pc (fG 92 J J.toNat S1.length i1) (lg 94 J.toNat 3 1 i1))
 refine Mp ?_ call103 (fun bs w hS=>tz (S1.getD J.toNat default).line (S1.getD J.toNat default).line.n who w (gx (hS.res _ i0) bn (aB (i:=J.toNat) (by omega))).2 (by omega))
 have Ik:(((S1.getD J.toNat default).line.xs.take (S1.getD J.toNat default).line.n).any fun z=>decide (z=who))=um (S1.getD J.toNat default).abs who:=by rw[dE (Nat.le_refl _)];rfl
 rw[Ik]
 refine fL (um (S1.getD J.toNat default).abs who) (fun h9=>?_) fun h9=>?_
 ·refine cZ 5 [] [0] [bI (bM 3) S1,ay 115 A1 c1 (S1:List ae)] ai ?_
  refine Mz ?_
  refine Mt [.slice A1 S1.length c1,.agg #[vi 10,vi (S1.getD J.toNat default).ar,ve],vi 0] fun bs w hS=>?_
  have gR:dw (S1.map ae.abs) t who=0:=by rw[a5];assumption
  rw[←a5]
  have lQ:(S1.getD J.toNat default).abs.ar=(S1.getD J.toNat default).ar:=rfl
  have kN:(S1.getD J.toNat default).abs.aA=(S1.getD J.toNat default).aA:=rfl
  have nh:(S1.getD J.toNat default).abs.line=(S1.getD J.toNat default).line.xs:=rfl
  have pY:(S1.getD J.toNat default).abs.name=(S1.getD J.toNat default).name:=rfl
  have dX:eU (S1.getD J.toNat default).abs who wait=((S1.getD J.toNat default).abs,⟨10,(S1.getD J.toNat default).ar,emp⟩):=by
    grind[eU]
  have hm:bZ (S1.map ae.abs) t who wait=(S1.map ae.abs,⟨10,(S1.getD J.toNat default).ar,emp⟩,0):=by
    unfold bZ iA
    simp only[hJ,fo,List.length_map]
    rw[dX]
    repeat (first|rw[if_pos (by first|assumption|omega)]|rw[if_neg (by first|assumption|omega|(intro h0;first|exact absurd h0 (by assumption)|(simp_all;done)))])
    all_goals (show ((S1.map ae.abs).set J.toNat (S1.getD J.toNat default).abs,_,_)=_;rw[←fo,fW (by rw[List.length_map];omega)])
  refine⟨⟨A1,c1,S1⟩,?_,?_,hS.aO (y:=(⟨A1,c1,S1⟩:Sl ae)) (bT i1 hS.res (fun x hx=>?_))⟩
  ·rw[hm]<;>rfl
  ·exact (congrArg Prod.fst hm).symm
  ·exact⟨bn x hx,cO i0 hS.res hx⟩
 refine Mi ?_ (pc (fG 101 J J.toNat S1.length i1) (lg 103 J.toNat 3 1 i1))
 refine Md ((3:Int)≤(((S1.getD J.toNat default).line.n:Nat):Int)) (fun ir=>?_) fun ir=>?_
 ·refine Mt [.slice A1 S1.length c1,vz 8,vi 0] fun bs w hS=>?_
  have gR:dw (S1.map ae.abs) t who=0:=by rw[a5];assumption
  rw[←a5]
  have lQ:(S1.getD J.toNat default).abs.ar=(S1.getD J.toNat default).ar:=rfl
  have kN:(S1.getD J.toNat default).abs.aA=(S1.getD J.toNat default).aA:=rfl
  have nh:(S1.getD J.toNat default).abs.line=(S1.getD J.toNat default).line.xs:=rfl
  have pY:(S1.getD J.toNat default).abs.name=(S1.getD J.toNat default).name:=rfl
  have dX:eU (S1.getD J.toNat default).abs who wait=((S1.getD J.toNat default).abs,⟨8,0,emp⟩):=by
    grind[eU]
  have hm:bZ (S1.map ae.abs) t who wait=(S1.map ae.abs,⟨8,0,emp⟩,0):=by
    unfold bZ iA
    simp only[hJ,fo,List.length_map]
    rw[dX]
    repeat (first|rw[if_pos (by first|assumption|omega)]|rw[if_neg (by first|assumption|omega|(intro h0;first|exact absurd h0 (by assumption)|(simp_all;done)))])
    all_goals (show ((S1.map ae.abs).set J.toNat (S1.getD J.toNat default).abs,_,_)=_;rw[←fo,fW (by rw[List.length_map];omega)])
  refine⟨⟨A1,c1,S1⟩,?_,?_,hS.aO (y:=(⟨A1,c1,S1⟩:Sl ae)) (bT i1 hS.res (fun x hx=>?_))⟩
  ·rw[hm]<;>rfl
  ·exact (congrArg Prod.fst hm).symm
  ·exact⟨bn x hx,cO i0 hS.res hx⟩
 refine m5 (ay 3 (S1.getD J.toNat default).line.A (S1.getD J.toNat default).line.c ((S1.getD J.toNat default).line.xs:List Int)) (bI (bM 3) (List.eraseIdx S1 J.toNat)) (ky (bM 3) (i:=J.toNat) (by omega)) (fun w h=>lG (bM 3) (i:=J.toNat) (by omega) w h) ?_
 refine Mi ?_ (pc (fG 112 J J.toNat S1.length i2) (lg 114 J.toNat 3 1 i2))
 refine M1 ?_
 refine gX (α:=Int) 8 ([who]) ?_
 intro A7 c7
 refine Mi ?_ (fG 118 J J.toNat S1.length i2)
 refine cL ?_
 refine Ms J.toNat 3 (⟨(S1.getD J.toNat default).name,(S1.getD J.toNat default).ar,(S1.getD J.toNat default).aA,⟨A7,c7,(S1.getD J.toNat default).line.xs++[who]⟩⟩:ae) ?_ (by omega)
 intro L8 Hg MF
 have Ih:L8.getD J.toNat default=(⟨(S1.getD J.toNat default).name,(S1.getD J.toNat default).ar,(S1.getD J.toNat default).aA,⟨A7,c7,(S1.getD J.toNat default).line.xs++[who]⟩⟩:ae):=by rw[Hg];exact bQ (by omega)
 have nj:L8=List.set S1 J.toNat (⟨(S1.getD J.toNat default).name,(S1.getD J.toNat default).ar,(S1.getD J.toNat default).aA,⟨A7,c7,(S1.getD J.toNat default).line.xs++[who]⟩⟩:ae):=by rw[Hg]
 refine cZ 5 [] [0] [ay 115 A1 c1 (L8:List ae),ay 3 A7 c7 ((S1.getD J.toNat default).line.xs++[who]:List Int),bI (bM 3) (List.eraseIdx S1 J.toNat)] ai ?_
 refine Mz ?_
 refine Mt [.slice A1 S1.length c1,.agg #[vi 10,vi (S1.getD J.toNat default).ar,ve],vi 0] fun bs w hS=>?_
 have gR:dw (S1.map ae.abs) t who=0:=by rw[a5];assumption
 rw[←a5]
 have lQ:(S1.getD J.toNat default).abs.ar=(S1.getD J.toNat default).ar:=rfl
 have kN:(S1.getD J.toNat default).abs.aA=(S1.getD J.toNat default).aA:=rfl
 have nh:(S1.getD J.toNat default).abs.line=(S1.getD J.toNat default).line.xs:=rfl
 have pY:(S1.getD J.toNat default).abs.name=(S1.getD J.toNat default).name:=rfl
 have gf:=kF nj
 have dX:eU (S1.getD J.toNat default).abs who wait=(((⟨(S1.getD J.toNat default).name,(S1.getD J.toNat default).ar,(S1.getD J.toNat default).aA,⟨A7,c7,(S1.getD J.toNat default).line.xs++[who]⟩⟩:ae)).abs,⟨10,(S1.getD J.toNat default).ar,emp⟩):=by
   unfold eU
   simp only[lQ,kN,nh,pY]
   repeat (first|rw[if_pos (by first|assumption|omega|exact .inl (by assumption)|exact .inr (by assumption))]|rw[if_neg (by first|assumption|omega|(rintro (h8|h8)<;>simp_all;done))])
   all_goals rfl
 have hm:bZ (S1.map ae.abs) t who wait=((S1.map ae.abs).set J.toNat ((⟨(S1.getD J.toNat default).name,(S1.getD J.toNat default).ar,(S1.getD J.toNat default).aA,⟨A7,c7,(S1.getD J.toNat default).line.xs++[who]⟩⟩:ae)).abs,⟨10,(S1.getD J.toNat default).ar,emp⟩,0):=by
   unfold bZ iA
   simp only[hJ,fo,List.length_map]
   rw[dX]
   repeat (first|rw[if_pos (by first|assumption|omega)]|rw[if_neg (by first|assumption|omega|(intro h0;first|exact absurd h0 (by assumption)|(simp_all;done)))])
   all_goals rfl
 refine⟨⟨A1,c1,L8⟩,?_,?_,hS.aO (y:=(⟨A1,c1,L8⟩:Sl ae)) (bT i0 hS.res (fun x hx=>?_))⟩
 ·have gB:S1.length=L8.length:=by rw[nj,List.length_set]
  rw[hm]
  exact congrArg (fun q=>Ending.returned (.tuple #[.slice A1 q c1,.agg #[vi 10,vi (S1.getD J.toNat default).ar,ve],vi 0])) gB
 ·exact Eq.trans gf (congrArg Prod.fst hm).symm
 ·rw[nj]at hx
  rcases ia hx with hx|hx
  ·subst hx;exact⟨bn (S1.getD J.toNat default) (aB (L:=S1) (i:=J.toNat) (by omega)),a4 i1 (hS.res _ i1) (fun _ _=>trivial)⟩
  ·exact⟨bn x (List.mem_of_mem_eraseIdx hx),cO i2 hS.res hx⟩
theorem Ey (s:Sl ae)(t:ByteArray)(who:Int)(w:World)(hs:s.rd B w)(ht:t.size≤9223372036854775807):Calls prog 85 #[.slice s.A s.n s.c,vs t,vi who] w fun e w'=> ∃y:Sl ae,e=.returned (.tuple #[.slice y.A y.n y.c,((dL (s.xs.map ae.abs) t who).2.1).val,vi (dL (s.xs.map ae.abs) t who).2.2])∧y.xs.map ae.abs=(dL (s.xs.map ae.abs) t who).1∧bJ w w' y:=by
 have cV:=Sl.rd.ok hs
 have iV:=Sl.ok.nc cV
 have iW:s.n=s.xs.length:=rfl
 refine M0 ?_ func85
 by_cases h1:dw (s.xs.map ae.abs) t who=0
 rotate_left
 ·refine Mp ?_ call148 (fun bs w hS=>(nk s t who w (Sl.rd.kp hs hS.kp) (by first|assumption|omega|(simp only[aL];omega))).mono (fun e w' h=>(h.resolve_right (fun h9=>h1 h9.1)).2))
  refine My false true ?_ (df h1)
  refine Mt [vn,vz 0,vi (dw (s.xs.map ae.abs) t who)] fun bs w hS=>?_
  have hm:dL (s.xs.map ae.abs) t who=([],gl,dw (s.xs.map ae.abs) t who):=by
    grind[dL]
  refine⟨Sl.nil,?_,?_,hS.aO (Sl.ao _ _)⟩
  ·rw[hm]<;>rfl
  ·rw[hm]<;>rfl
 refine Mf ?_ call148 (fun bs w hS=>(nk s t who w (Sl.rd.kp hs hS.kp) (by first|assumption|omega|(simp only[aL];omega))).mono (fun e w' h=>(h.resolve_left (fun h9=>h9.1 h1)).2))
 rintro y1 a5
 refine dH ?_
 obtain⟨A1,c1,S1⟩:=y1
 have a5:S1.map ae.abs=s.xs.map ae.abs:=a5
 refine fO (R':=[bI (bM 3) S1,ay 115 A1 c1 (S1:List ae)]) (List.Perm.refl _) ?_
 have bn:=gF (y:=(⟨A1,c1,S1⟩:Sl ae)) hs a5
 have oA:S1.length=s.xs.length:=by simpa using congrArg List.length a5
 refine bk (F:= ∀i,i<S1.length→aJ.ok (S1.getD i default)) (fun bs w hS i hi=>aJ.bL (B:=bH) (w:=w) (gx (hS.res _ i0) bn (aB hi))) fun gj=>?_
 refine bk (F:=dY A1 c1 (S1:List ae)) (fun bs w hS=>br (hS.res _ i1)) fun cI=>?_
 have cn:=cI.2
 have pW:=oO h1
 have kj:bB (S1.map ae.abs)=0:=by rw[a5];exact pW.1
 have NJ:=pW.2.2.1
 have NK:=pW.2.2.2
 have Gs:S1.length≤5:=by have h9:=(fS kj).1;simpa using h9
 have Ka:eQ (fun x:ae=>bK x.name t) s.xs=eQ (fun x:ae=>bK x.name t) S1:=xX (L:=s.xs) (L2:=S1) (f:=ae.abs) (c:=fun x:aY=>bK x.name t) rfl a5.symm
 have Kb:dk (fun x:ae=>bK x.name t) s.xs=dk (fun x:ae=>bK x.name t) S1:=zt (L:=s.xs) (L2:=S1) (f:=ae.abs) (c:=fun x:aY=>bK x.name t) rfl a5.symm
 rw[Ka,Kb]
 have oB:=n6 (L:=S1) kj t
 have qb:=du (fun x:aY=>decide (x.name=t)) (S1.map ae.abs)
 rw[List.length_map]at qb
 generalize hJ:aQ (fun x:aY=>decide (x.name=t)) (S1.map ae.abs)=J at oB qb
 have wY:=n5 (fun x:ae=>bK x.name t) S1
 generalize hk:eQ (fun x:ae=>bK x.name t) S1=k at oB wY⊢
 generalize hf:dk (fun x:ae=>bK x.name t) S1=fb at oB⊢
 refine Mq 24 false ?_ rfl
 refine fL fb (fun h2=>?_) fun h2=>?_
 rotate_left
 ·have At:=of_decide_eq_false (oB.1.symm.trans h2)
  refine Mt [.slice A1 S1.length c1,vz 6,vi 0] fun bs w hS=>?_
  have gR:dw (S1.map ae.abs) t who=0:=by rw[a5];assumption
  rw[←a5]
  have lQ:(S1.getD k default).abs.ar=(S1.getD k default).ar:=rfl
  have kN:(S1.getD k default).abs.aA=(S1.getD k default).aA:=rfl
  have nh:(S1.getD k default).abs.line=(S1.getD k default).line.xs:=rfl
  have pY:(S1.getD k default).abs.name=(S1.getD k default).name:=rfl
  have hm:dL (S1.map ae.abs) t who=(S1.map ae.abs,⟨6,0,emp⟩,0):=by
    grind[dL,iA]
  refine⟨⟨A1,c1,S1⟩,?_,?_,hS.aO (y:=(⟨A1,c1,S1⟩:Sl ae)) (bT i1 hS.res (fun x hx=>?_))⟩
  ·rw[hm]<;>rfl
  ·exact (congrArg Prod.fst hm).symm
  ·exact⟨bn x hx,cO i0 hS.res hx⟩
 have GA:=oB.2 h2
 subst GA
 have nK:=mM kj (k:=k) (by omega)
 obtain⟨Gt,Gu,Ap,Aq,Ar,Gv⟩:=nK
 have Hf:(S1.getD k default).line.n=(S1.getD k default).line.xs.length:=rfl
 refine Mi ?_ (pc (fG 33 (k:Int) k S1.length i1) (lg 37 k 3 1 i1))
 refine Mp ?_ call138 (fun bs w hS=>u5 (S1.getD k default).line (S1.getD k default).line.n who w (gx (hS.res _ i0) bn (aB (i:=k) (by omega))).2 (by omega))
 have nA:aQ (fun z=>decide (z=who)) ((S1.getD k default).line.xs.take (S1.getD k default).line.n)=aQ (fun z=>decide (z=who)) (S1.getD k default).line.xs:=by rw[dE (Nat.le_refl _)]
 rw[nA]
 have JV:=du (fun z=>decide (z=who)) (S1.getD k default).line.xs
 generalize hI:aQ (fun z=>decide (z=who)) (S1.getD k default).line.xs=I at JV⊢
 refine Mi ?_ (lg 50 k 1 1 i1)
 refine Md ((S1.getD k default).ar=who) (fun h3=>?_) fun h3=>?_
 ·refine cd ?_
  refine nF ?_ call140 (fun bs w hS=>sj (B:=(· ∈(bM 3 (S1.getD k default)).fp)) A1 c1 S1 k w (hS.res _ i0) hS.lH.2.2 (by omega) ⟨bn _ (aB (L:=S1) (by omega)),Rr (hS.res _ i1 (S1.getD k default) (aB (L:=S1) (by omega))) (fun b hb=>hb) (fun _ _=>trivial)⟩ (fun b hb=>hS.Jf (r2:=bI (bM 3) S1) i0 b (List.mem_flatMap.2 ⟨(S1.getD k default),aB (L:=S1) (by omega),hb⟩)) ⟨by omega,by omega⟩)
  rintro _ _
  obtain⟨L4,qa⟩: ∃M:List ae,M=S1.set k (eJ (S1.getD k default)):=⟨_,rfl⟩
  rw[←qa]
  have Am:L4.length=S1.length:=by rw[qa,List.length_set]
  have j2:L4.getD k default=eJ (S1.getD k default):=by rw[qa];exact bQ (by omega)
  refine cZ 9 [] [0] [ay 115 A1 c1 (L4:List ae),bI (bM 3) S1] ai ?_
  refine bY ?_ (l4 73 k 1 1 j2 i0)
  refine Mz ?_
  refine Mt [.slice A1 S1.length c1,.agg #[vi 0,vi (eJ (S1.getD k default)).ar,ve],vi 0] fun bs w hS=>?_
  have gR:dw (S1.map ae.abs) t who=0:=by rw[a5];assumption
  rw[←a5]
  have lQ:(S1.getD k default).abs.ar=(S1.getD k default).ar:=rfl
  have kN:(S1.getD k default).abs.aA=(S1.getD k default).aA:=rfl
  have nh:(S1.getD k default).abs.line=(S1.getD k default).line.xs:=rfl
  have pY:(S1.getD k default).abs.name=(S1.getD k default).name:=rfl
  have gf:=kF qa
  have NV:=rM (S1.getD k default)
  rw[NV]at gf
  have dX:j4 (S1.getD k default).abs who=((gN (S1.getD k default).abs),⟨0,(eJ (S1.getD k default)).ar,emp⟩):=by
    unfold j4
    simp only[lQ,kN,nh,pY]
    repeat (first|rw[if_pos (by first|assumption|omega)]|rw[if_neg (by first|assumption|omega|(rw[Ik];simp;done)|(intro h0;simp_all;done))])
    all_goals first|rfl|exact congrArg (fun h:Int=>(gN (S1.getD k default).abs,(⟨0,h,emp⟩:cQ))) (congrArg aY.ar NV).symm
  have hm:dL (S1.map ae.abs) t who=((S1.map ae.abs).set k (gN (S1.getD k default).abs),⟨0,(eJ (S1.getD k default)).ar,emp⟩,0):=by
    unfold dL iA
    simp only[hJ,Int.toNat_natCast,fo,List.length_map]
    rw[dX]
    repeat (first|rw[if_pos (by first|assumption|omega)]|rw[if_neg (by first|assumption|omega|(intro h0;first|exact absurd h0 (by assumption)|(simp_all;done)))])
    all_goals rfl
  refine⟨⟨A1,c1,L4⟩,?_,?_,hS.aO (y:=(⟨A1,c1,L4⟩:Sl ae)) (bT i0 hS.res (fun x hx=>?_))⟩
  ·have gB:S1.length=L4.length:=by rw[qa,List.length_set]
   rw[hm]
   exact congrArg (fun q=>Ending.returned (.tuple #[.slice A1 q c1,.agg #[vi 0,vi (eJ (S1.getD k default)).ar,ve],vi 0])) gB
  ·exact Eq.trans gf (congrArg Prod.fst hm).symm
  ·rw[qa]at hx
   rcases mem_set hx with hx|hx
   ·subst hx;have hP:=FG i1 hS.res (x:=(S1.getD k default)) (aB (L:=S1) (i:=k) (by omega));exact⟨by rw[hP.1];exact bn (S1.getD k default) (aB (L:=S1) (i:=k) (by omega)),hP.2⟩
   ·exact⟨bn x hx,cO i1 hS.res hx⟩
 refine Md ((0:Int)≤I) (fun h4=>?_) fun h4=>?_
 rotate_left
 ·refine cZ 9 [] [0] [bI (bM 3) S1,ay 115 A1 c1 (S1:List ae)] ai ?_
  refine bY ?_ (lg 44 k 1 1 i1)
  refine Mz ?_
  refine Mt [.slice A1 S1.length c1,.agg #[vi 10,vi (S1.getD k default).ar,ve],vi 0] fun bs w hS=>?_
  have gR:dw (S1.map ae.abs) t who=0:=by rw[a5];assumption
  rw[←a5]
  have lQ:(S1.getD k default).abs.ar=(S1.getD k default).ar:=rfl
  have kN:(S1.getD k default).abs.aA=(S1.getD k default).aA:=rfl
  have nh:(S1.getD k default).abs.line=(S1.getD k default).line.xs:=rfl
  have pY:(S1.getD k default).abs.name=(S1.getD k default).name:=rfl
  have Ik:um (S1.getD k default).abs who=false:=by rw[CS];show decide (0≤aQ _ (S1.getD k default).line.xs)=_;rw[hI];exact decide_eq_false h4
  have dX:j4 (S1.getD k default).abs who=((S1.getD k default).abs,⟨10,(S1.getD k default).ar,emp⟩):=by
    grind[j4]
  have hm:dL (S1.map ae.abs) t who=(S1.map ae.abs,⟨10,(S1.getD k default).ar,emp⟩,0):=by
    unfold dL iA
    simp only[hJ,Int.toNat_natCast,fo,List.length_map]
    rw[dX]
    repeat (first|rw[if_pos (by first|assumption|omega)]|rw[if_neg (by first|assumption|omega|(intro h0;first|exact absurd h0 (by assumption)|(simp_all;done)))])
    all_goals (show ((S1.map ae.abs).set k (S1.getD k default).abs,_,_)=_;rw[←fo,fW (by rw[List.length_map];omega)])
  refine⟨⟨A1,c1,S1⟩,?_,?_,hS.aO (y:=(⟨A1,c1,S1⟩:Sl ae)) (bT i1 hS.res (fun x hx=>?_))⟩
  ·rw[hm]<;>rfl
  ·exact (congrArg Prod.fst hm).symm
  ·exact⟨bn x hx,cO i0 hS.res hx⟩
 refine m5 (ay 3 (S1.getD k default).line.A (S1.getD k default).line.c ((S1.getD k default).line.xs:List Int)) (bI (bM 3) (List.eraseIdx S1 k)) (ky (bM 3) (i:=k) (by omega)) (fun w h=>lG (bM 3) (i:=k) (by omega) w h) ?_
 refine Mi ?_ (pc (lg 62 k 3 1 i2) (pR (I+1)))
 refine nF ?_ (σ:=Unit) (v:=fun _=>.slice (S1.getD k default).line.A ((S1.getD k default).line.xs.take I.toNat++(S1.getD k default).line.xs.drop (I.toNat+1)).length (S1.getD k default).line.c) (F:=fun _=>True) (r:=fun _=>ay 3 (S1.getD k default).line.A (S1.getD k default).line.c ((S1.getD k default).line.xs.take I.toNat++(S1.getD k default).line.xs.drop (I.toNat+1):List Int)) (vs:=fun bs=>[.slice (S1.getD k default).line.A (S1.getD k default).line.n (S1.getD k default).line.c,vi I,vi (I+1)]) call139 (fun bs w hS=>(An (S1.getD k default).line.A (S1.getD k default).line.c (S1.getD k default).line.xs I.toNat (I.toNat+1) _ _ w (hS.res _ i0) hS.lH.2.2 (by omega) (by omega) (by first|omega|(simp only[Sl.n] at*;omega)) (by first|omega|(simp only[Sl.n] at*;omega))).mono (fun e w' ⟨h1,h2⟩=>⟨(),h1,trivial,h2⟩))
 rintro _ _
 refine cL ?_
 refine Ms k 3 (⟨(S1.getD k default).name,(S1.getD k default).ar,(S1.getD k default).aA,⟨(S1.getD k default).line.A,(S1.getD k default).line.c,(S1.getD k default).line.xs.take I.toNat++(S1.getD k default).line.xs.drop (I.toNat+1)⟩⟩:ae) ?_ (by omega)
 intro L6 rA Al
 have ni:L6.getD k default=(⟨(S1.getD k default).name,(S1.getD k default).ar,(S1.getD k default).aA,⟨(S1.getD k default).line.A,(S1.getD k default).line.c,(S1.getD k default).line.xs.take I.toNat++(S1.getD k default).line.xs.drop (I.toNat+1)⟩⟩:ae):=by rw[rA];exact bQ (by omega)
 have fM:L6=List.set S1 k (⟨(S1.getD k default).name,(S1.getD k default).ar,(S1.getD k default).aA,⟨(S1.getD k default).line.A,(S1.getD k default).line.c,(S1.getD k default).line.xs.take I.toNat++(S1.getD k default).line.xs.drop (I.toNat+1)⟩⟩:ae):=by rw[rA]
 refine cZ 9 [] [0] [ay 115 A1 c1 (L6:List ae),ay 3 (S1.getD k default).line.A (S1.getD k default).line.c ((S1.getD k default).line.xs.take I.toNat++(S1.getD k default).line.xs.drop (I.toNat+1):List Int),bI (bM 3) (List.eraseIdx S1 k)] ai ?_
 refine bY ?_ (l4 73 k 1 1 ni i0)
 refine Mz ?_
 refine Mt [.slice A1 S1.length c1,.agg #[vi 0,vi (S1.getD k default).ar,ve],vi 0] fun bs w hS=>?_
 have gR:dw (S1.map ae.abs) t who=0:=by rw[a5];assumption
 rw[←a5]
 have lQ:(S1.getD k default).abs.ar=(S1.getD k default).ar:=rfl
 have kN:(S1.getD k default).abs.aA=(S1.getD k default).aA:=rfl
 have nh:(S1.getD k default).abs.line=(S1.getD k default).line.xs:=rfl
 have pY:(S1.getD k default).abs.name=(S1.getD k default).name:=rfl
 have gf:=kF fM
 have Ik:um (S1.getD k default).abs who=true:=by rw[CS];show decide (0≤aQ _ (S1.getD k default).line.xs)=_;rw[hI];exact decide_eq_true h4
 have Ig:(S1.getD k default).line.xs.take I.toNat++(S1.getD k default).line.xs.drop (I.toNat+1)=gi (S1.getD k default).line.xs who:=rT (d:=(S1.getD k default).abs) Ap (i:=I.toNat) (by show aQ _ (S1.getD k default).line.xs=_;rw[hI];omega) rfl
 rw[show ((⟨(S1.getD k default).name,(S1.getD k default).ar,(S1.getD k default).aA,⟨(S1.getD k default).line.A,(S1.getD k default).line.c,(S1.getD k default).line.xs.take I.toNat++(S1.getD k default).line.xs.drop (I.toNat+1)⟩⟩:ae)).abs=(⟨(S1.getD k default).name,(S1.getD k default).ar,(S1.getD k default).aA,gi (S1.getD k default).line.xs who⟩:aY) from congrArg (fun l=>(⟨(S1.getD k default).name,(S1.getD k default).ar,(S1.getD k default).aA,l⟩:aY)) Ig]at gf
 have dX:j4 (S1.getD k default).abs who=(⟨(S1.getD k default).name,(S1.getD k default).ar,(S1.getD k default).aA,gi (S1.getD k default).line.xs who⟩,⟨0,(S1.getD k default).ar,emp⟩):=by
   grind[j4]
 have hm:dL (S1.map ae.abs) t who=((S1.map ae.abs).set k ⟨(S1.getD k default).name,(S1.getD k default).ar,(S1.getD k default).aA,gi (S1.getD k default).line.xs who⟩,⟨0,(S1.getD k default).ar,emp⟩,0):=by
   unfold dL iA
   simp only[hJ,Int.toNat_natCast,fo,List.length_map]
   rw[dX]
   repeat (first|rw[if_pos (by first|assumption|omega)]|rw[if_neg (by first|assumption|omega|(intro h0;first|exact absurd h0 (by assumption)|(simp_all;done)))])
   all_goals rfl
 refine⟨⟨A1,c1,L6⟩,?_,?_,hS.aO (y:=(⟨A1,c1,L6⟩:Sl ae)) (bT i0 hS.res (fun x hx=>?_))⟩
 ·have gB:S1.length=L6.length:=by rw[fM,List.length_set]
  rw[hm]
  exact congrArg (fun q=>Ending.returned (.tuple #[.slice A1 q c1,.agg #[vi 0,vi (S1.getD k default).ar,ve],vi 0])) gB
 ·exact Eq.trans gf (congrArg Prod.fst hm).symm
 ·rw[fM]at hx
  rcases ia hx with hx|hx
  ·subst hx;exact⟨bn (S1.getD k default) (aB (L:=S1) (i:=k) (by omega)),a4 i1 (hS.res _ i1) (fun _ _=>trivial)⟩
  ·exact⟨bn x (List.mem_of_mem_eraseIdx hx),cO i2 hS.res hx⟩
theorem Ay (s:Sl ae)(t:ByteArray)(who:Int)(w:World)(hs:s.rd B w)(ht:t.size≤9223372036854775807):Calls prog 39 #[s.val,vs t,vi who] w fun e w'=> ∃y:Sl ae,e=.returned (.tuple #[y.val,((dL (s.xs.map ae.abs) t who).2.1).val,vi (dL (s.xs.map ae.abs) t who).2.2])∧y.xs.map ae.abs=(dL (s.xs.map ae.abs) t who).1∧bJ w w' y:=by
 have cV:=Sl.rd.ok hs
 have iV:=Sl.ok.nc cV
 have iW:s.n=s.xs.length:=rfl
 refine M0 ?_ func39
 refine Mp ?_ call101 (fun bs w hS=>xB s t who w (Sl.rd.kp hs hS.kp) (by first|assumption|omega|(simp only[aL];omega)))
 refine cr (dw (s.xs.map ae.abs) t who=0) (fun h1=>?_) fun h1=>?_
 rotate_left
 ·refine Mt [vn,vz 0,vi (dw (s.xs.map ae.abs) t who)] fun bs w hS=>?_
  have hm:dL (s.xs.map ae.abs) t who=([],gl,dw (s.xs.map ae.abs) t who):=by
    grind[dL]
  refine⟨Sl.nil,?_,?_,hS.aO (Sl.ao _ _)⟩
  ·rw[hm]<;>rfl
  ·rw[hm]<;>rfl
 refine Mf ?_ call18 (fun bs w hS=>ku s w (Sl.rd.kp hs hS.kp) (js (oO (by assumption)).1))
 rintro y1 a5
 refine dH ?_
 obtain⟨A1,c1,S1⟩:=y1
 have a5:S1.map ae.abs=s.xs.map ae.abs:=a5
 refine fO (R':=[bI (bM 3) S1,ay 115 A1 c1 (S1:List ae)]) (List.Perm.refl _) ?_
 have bn:=gF (y:=(⟨A1,c1,S1⟩:Sl ae)) (hs) a5
 have oA:S1.length=s.xs.length:=by simpa using congrArg List.length a5
 refine bk (F:= ∀i,i<S1.length→aJ.ok (S1.getD i default)) (fun bs w hS i hi=>aJ.bL (B:=bH) (w:=w) (gx (hS.res _ i0) bn (aB hi))) fun gj=>?_
 refine bk (F:=dY A1 c1 (S1:List ae)) (fun bs w hS=>br (hS.res _ i1)) fun cI=>?_
 have cn:=cI.2
 have pW:=oO h1
 have kj:bB (S1.map ae.abs)=0:=by rw[a5];exact pW.1
 have NJ:=pW.2.2.1
 have NK:=pW.2.2.2
 have Gs:S1.length≤5:=by have h9:=(fS kj).1;simpa using h9
 refine Mp ?_ call100 (fun bs w hS=>jk (⟨A1,c1,S1⟩:Sl ae) t w (rK (hS.res _ i0) (hS.res _ i1) bn))
 have Ii:aQ (fun x:ae=>decide (x.name=t)) S1=aQ (fun x:aY=>decide (x.name=t)) (S1.map ae.abs):=fm ae.abs (fun x:aY=>decide (x.name=t)) S1
 rw[Ii]
 have qb:=du (fun x:aY=>decide (x.name=t)) (S1.map ae.abs)
 generalize hJ:aQ (fun x:aY=>decide (x.name=t)) (S1.map ae.abs)=J at qb⊢
 rw[List.length_map]at qb
 refine Md (J<0) (fun h2=>?_) fun h2=>?_
 ·have At: ¬0≤J:=by omega
  refine Mt [.slice A1 S1.length c1,vz 6,vi 0] fun bs w hS=>?_
  have gR:dw (S1.map ae.abs) t who=0:=by rw[a5];assumption
  rw[←a5]
  have lQ:(S1.getD J.toNat default).abs.ar=(S1.getD J.toNat default).ar:=rfl
  have kN:(S1.getD J.toNat default).abs.aA=(S1.getD J.toNat default).aA:=rfl
  have nh:(S1.getD J.toNat default).abs.line=(S1.getD J.toNat default).line.xs:=rfl
  have pY:(S1.getD J.toNat default).abs.name=(S1.getD J.toNat default).name:=rfl
  have hm:dL (S1.map ae.abs) t who=(S1.map ae.abs,⟨6,0,emp⟩,0):=by
    grind[dL,iA]
  refine⟨⟨A1,c1,S1⟩,?_,?_,hS.aO (y:=(⟨A1,c1,S1⟩:Sl ae)) (bT i1 hS.res (fun x hx=>?_))⟩
  ·rw[hm]<;>rfl
  ·exact (congrArg Prod.fst hm).symm
  ·exact⟨bn x hx,cO i0 hS.res hx⟩
 have At:0≤J:=by omega
 have nK:=mM kj (k:=J.toNat) (by omega)
 obtain⟨Gt,Gu,Ap,Aq,Ar,Gv⟩:=nK
 have Hf:(S1.getD J.toNat default).line.n=(S1.getD J.toNat default).line.xs.length:=rfl
 refine Mi ?_ (pc (fG 31 J J.toNat S1.length i1) (lg 33 J.toNat 1 1 i1))
 refine Md ((S1.getD J.toNat default).ar=who) (fun h3=>?_) fun h3=>?_
 ·refine Mi ?_ (pc (fG 40 J J.toNat S1.length i1) (C2 41 J.toNat i1))
  refine Mu ?_ call104 (fun bs w hS=>vj (S1.getD J.toNat default) w (gx (hS.res _ i0) bn (aB (i:=J.toNat) (by omega))) ⟨by omega,by omega⟩ (by omega))
  rintro sM y3 mw sk
  refine Mi ?_ (fG 43 J J.toNat S1.length i2)
  refine cL ?_
  refine Ms J.toNat 0 (⟨y3.name,y3.ar,y3.aA,y3.line⟩:ae) ?_ (by omega)
  intro L4 qa Am
  have j2:L4.getD J.toNat default=(⟨y3.name,y3.ar,y3.aA,y3.line⟩:ae):=by rw[qa];exact bQ (by omega)
  have lV:L4=List.set S1 J.toNat (⟨y3.name,y3.ar,y3.aA,y3.line⟩:ae):=by rw[qa]
  refine cZ 10 [] [0] [ay 115 A1 c1 (L4:List ae),bF sM y3,bI (bM 3) S1] ai ?_
  refine bY ?_ (pc (fG 72 J J.toNat S1.length i0) (l4 74 J.toNat 1 1 j2 i0))
  refine Mz ?_
  refine Mt [.slice A1 S1.length c1,.agg #[vi 0,vi y3.ar,ve],vi 0] fun bs w hS=>?_
  have gR:dw (S1.map ae.abs) t who=0:=by rw[a5];assumption
  rw[←a5]
  have lQ:(S1.getD J.toNat default).abs.ar=(S1.getD J.toNat default).ar:=rfl
  have kN:(S1.getD J.toNat default).abs.aA=(S1.getD J.toNat default).aA:=rfl
  have nh:(S1.getD J.toNat default).abs.line=(S1.getD J.toNat default).line.xs:=rfl
  have pY:(S1.getD J.toNat default).abs.name=(S1.getD J.toNat default).name:=rfl
  have gf:=kF lV
  rw[show ((⟨y3.name,y3.ar,y3.aA,y3.line⟩:ae)).abs=gN (S1.getD J.toNat default).abs from mw]at gf
  have NV:=mw
  have dX:j4 (S1.getD J.toNat default).abs who=((gN (S1.getD J.toNat default).abs),⟨0,y3.ar,emp⟩):=by
    unfold j4
    simp only[lQ,kN,nh,pY]
    repeat (first|rw[if_pos (by first|assumption|omega)]|rw[if_neg (by first|assumption|omega|(rw[Ik];simp;done)|(intro h0;simp_all;done))])
    all_goals first|rfl|exact congrArg (fun h:Int=>(gN (S1.getD J.toNat default).abs,(⟨0,h,emp⟩:cQ))) (congrArg aY.ar NV).symm
  have hm:dL (S1.map ae.abs) t who=((S1.map ae.abs).set J.toNat (gN (S1.getD J.toNat default).abs),⟨0,y3.ar,emp⟩,0):=by
    unfold dL iA
    simp only[hJ,fo,List.length_map]
    rw[dX]
    repeat (first|rw[if_pos (by first|assumption|omega)]|rw[if_neg (by first|assumption|omega|(intro h0;first|exact absurd h0 (by assumption)|(simp_all;done)))])
    all_goals rfl
  refine⟨⟨A1,c1,L4⟩,?_,?_,hS.aO (y:=(⟨A1,c1,L4⟩:Sl ae)) (bT i0 hS.res (fun x hx=>?_))⟩
  ·have gB:S1.length=L4.length:=by rw[lV,List.length_set]
   rw[hm]
   exact congrArg (fun q=>Ending.returned (.tuple #[.slice A1 q c1,.agg #[vi 0,vi y3.ar,ve],vi 0])) gB
  ·exact Eq.trans gf (congrArg Prod.fst hm).symm
  ·rw[lV]at hx
   rcases mem_set hx with hx|hx
   ·subst hx;exact aU (y:=y3) i1 (hS.res _ i1)
   ·exact⟨bn x hx,cO i2 hS.res hx⟩
 refine Mi ?_ (pc (fG 46 J J.toNat S1.length i1) (lg 48 J.toNat 3 1 i1))
 refine Mp ?_ call103 (fun bs w hS=>tz (S1.getD J.toNat default).line (S1.getD J.toNat default).line.n who w (gx (hS.res _ i0) bn (aB (i:=J.toNat) (by omega))).2 (by omega))
 have Ik:(((S1.getD J.toNat default).line.xs.take (S1.getD J.toNat default).line.n).any fun z=>decide (z=who))=um (S1.getD J.toNat default).abs who:=by rw[dE (Nat.le_refl _)];rfl
 rw[Ik]
 refine Mb (um (S1.getD J.toNat default).abs who) (fun h4=>?_) fun h4=>?_
 rotate_left
 ·refine cZ 10 [] [0] [bI (bM 3) S1,ay 115 A1 c1 (S1:List ae)] ai ?_
  refine bY ?_ (pc (fG 65 J J.toNat S1.length i1) (lg 67 J.toNat 1 1 i1))
  refine Mz ?_
  refine Mt [.slice A1 S1.length c1,.agg #[vi 10,vi (S1.getD J.toNat default).ar,ve],vi 0] fun bs w hS=>?_
  have gR:dw (S1.map ae.abs) t who=0:=by rw[a5];assumption
  rw[←a5]
  have lQ:(S1.getD J.toNat default).abs.ar=(S1.getD J.toNat default).ar:=rfl
  have kN:(S1.getD J.toNat default).abs.aA=(S1.getD J.toNat default).aA:=rfl
  have nh:(S1.getD J.toNat default).abs.line=(S1.getD J.toNat default).line.xs:=rfl
  have pY:(S1.getD J.toNat default).abs.name=(S1.getD J.toNat default).name:=rfl
  have dX:j4 (S1.getD J.toNat default).abs who=((S1.getD J.toNat default).abs,⟨10,(S1.getD J.toNat default).ar,emp⟩):=by
    grind[j4]
  have hm:dL (S1.map ae.abs) t who=(S1.map ae.abs,⟨10,(S1.getD J.toNat default).ar,emp⟩,0):=by
    unfold dL iA
    simp only[hJ,fo,List.length_map]
    rw[dX]
    repeat (first|rw[if_pos (by first|assumption|omega)]|rw[if_neg (by first|assumption|omega|(intro h0;first|exact absurd h0 (by assumption)|(simp_all;done)))])
    all_goals (show ((S1.map ae.abs).set J.toNat (S1.getD J.toNat default).abs,_,_)=_;rw[←fo,fW (by rw[List.length_map];omega)])
  refine⟨⟨A1,c1,S1⟩,?_,?_,hS.aO (y:=(⟨A1,c1,S1⟩:Sl ae)) (bT i1 hS.res (fun x hx=>?_))⟩
  ·rw[hm]<;>rfl
  ·exact (congrArg Prod.fst hm).symm
  ·exact⟨bn x hx,cO i0 hS.res hx⟩
 refine Mi ?_ (pc (fG 55 J J.toNat S1.length i1) (lg 57 J.toNat 3 1 i1))
 refine Mu ?_ call105 (fun bs w hS=>sL (S1.getD J.toNat default).line who w (gx (hS.res _ i0) bn (aB (i:=J.toNat) (by omega))).2 (by omega))
 rintro rf y5 tB pe
 refine Mi ?_ (fG 60 J J.toNat S1.length i2)
 refine cL ?_
 refine Ms J.toNat 3 (⟨(S1.getD J.toNat default).name,(S1.getD J.toNat default).ar,(S1.getD J.toNat default).aA,y5⟩:ae) ?_ (by omega)
 intro L6 rA Al
 have ni:L6.getD J.toNat default=(⟨(S1.getD J.toNat default).name,(S1.getD J.toNat default).ar,(S1.getD J.toNat default).aA,y5⟩:ae):=by rw[rA];exact bQ (by omega)
 have fM:L6=List.set S1 J.toNat (⟨(S1.getD J.toNat default).name,(S1.getD J.toNat default).ar,(S1.getD J.toNat default).aA,y5⟩:ae):=by rw[rA]
 refine cZ 10 [] [0] [ay 115 A1 c1 (L6:List ae),bF rf y5,bI (bM 3) S1] ai ?_
 refine bY ?_ (pc (fG 72 J J.toNat S1.length i0) (l4 74 J.toNat 1 1 ni i0))
 refine Mz ?_
 refine Mt [.slice A1 S1.length c1,.agg #[vi 0,vi (S1.getD J.toNat default).ar,ve],vi 0] fun bs w hS=>?_
 have gR:dw (S1.map ae.abs) t who=0:=by rw[a5];assumption
 rw[←a5]
 have lQ:(S1.getD J.toNat default).abs.ar=(S1.getD J.toNat default).ar:=rfl
 have kN:(S1.getD J.toNat default).abs.aA=(S1.getD J.toNat default).aA:=rfl
 have nh:(S1.getD J.toNat default).abs.line=(S1.getD J.toNat default).line.xs:=rfl
 have pY:(S1.getD J.toNat default).abs.name=(S1.getD J.toNat default).name:=rfl
 have gf:=kF fM
 rw[show ((⟨(S1.getD J.toNat default).name,(S1.getD J.toNat default).ar,(S1.getD J.toNat default).aA,y5⟩:ae)).abs=⟨(S1.getD J.toNat default).name,(S1.getD J.toNat default).ar,(S1.getD J.toNat default).aA,gi (S1.getD J.toNat default).line.xs who⟩ from congrArg (fun l=>(⟨(S1.getD J.toNat default).name,(S1.getD J.toNat default).ar,(S1.getD J.toNat default).aA,l⟩:aY)) tB]at gf
 have dX:j4 (S1.getD J.toNat default).abs who=(⟨(S1.getD J.toNat default).name,(S1.getD J.toNat default).ar,(S1.getD J.toNat default).aA,gi (S1.getD J.toNat default).line.xs who⟩,⟨0,(S1.getD J.toNat default).ar,emp⟩):=by
   grind[j4]
 have hm:dL (S1.map ae.abs) t who=((S1.map ae.abs).set J.toNat ⟨(S1.getD J.toNat default).name,(S1.getD J.toNat default).ar,(S1.getD J.toNat default).aA,gi (S1.getD J.toNat default).line.xs who⟩,⟨0,(S1.getD J.toNat default).ar,emp⟩,0):=by
   unfold dL iA
   simp only[hJ,fo,List.length_map]
   rw[dX]
   repeat (first|rw[if_pos (by first|assumption|omega)]|rw[if_neg (by first|assumption|omega|(intro h0;first|exact absurd h0 (by assumption)|(simp_all;done)))])
   all_goals rfl
 refine⟨⟨A1,c1,L6⟩,?_,?_,hS.aO (y:=(⟨A1,c1,L6⟩:Sl ae)) (bT i0 hS.res (fun x hx=>?_))⟩
 ·have gB:S1.length=L6.length:=by rw[fM,List.length_set]
  rw[hm]
  exact congrArg (fun q=>Ending.returned (.tuple #[.slice A1 q c1,.agg #[vi 0,vi (S1.getD J.toNat default).ar,ve],vi 0])) gB
 ·exact Eq.trans gf (congrArg Prod.fst hm).symm
 ·rw[fM]at hx
  rcases mem_set hx with hx|hx
  ·subst hx;exact⟨bn (S1.getD J.toNat default) (aB (L:=S1) (i:=J.toNat) (by omega)),aU (y:=y5) i1 (hS.res _ i1)⟩
  ·exact⟨bn x hx,cO i2 hS.res hx⟩
theorem o8 (x:dr)(w:World)(hx:aJ.sub B w x)(hb:x.entries.n≤1048576):Calls prog 112 #[x.val] w fun e w'=> ∃y:Sl ByteArray,e=.returned (.agg #[vi x.base,y.val])∧y.xs=x.entries.xs∧Kp [] w w'∧gC w w' (ay 9 y.A y.c y.xs):=by
 have cC:=aJ.bL hx
 have mq:=Sl.ok.nc cC
 have mr:x.entries.n=x.entries.xs.length:=rfl
 have yr:cD x.abs=x.base+(x.entries.n:Int):=rfl
 have q1:x.abs.base=x.base:=rfl
 have q2:x.abs.entries=x.entries.xs:=rfl
 have fg: ∀q,x.entries.xs.getD q default=x.entries.at q:=fun _=>rfl
 refine M0 ?_ func112
 refine cZ 6 [] [] [] ai ?_
 refine Mf ?_ call157 (fun bs w hS=>sY x.entries w (aJ.kp hx hS.kp) hb)
 rintro y1 a5
 exact Mt [.agg #[vi x.base,y1.val]] fun bs w hS=>⟨y1,rfl,a5,hS.kp,hS.rF⟩
theorem GI (x:dr)(w:World)(hx:aJ.sub B w x)(lj:aJ.small x):Calls prog 112 #[x.val] w fun e w'=> ∃y:dr,e=.returned (y.val)∧y.abs=x.abs∧bJ w w' y:=
  (o8 x w hx lj.1).mono fun e w' ⟨y,h1,h2,h3,h4⟩=>⟨⟨x.base,y⟩,h1,by simp[dr.abs,h2],h3,h4.sub fun hp=>Rr hp (fun b hb=>hb) fun z hz=>Sl.rd.mem (s:=x.entries) hx z (h2▸hz)⟩
theorem rj (x:dr)(w:World)(hx:aJ.sub B w x)(hb:x.entries.n≤1048576):Calls prog 46 #[x.val] w fun e w'=> ∃y:Sl ByteArray,e=.returned (.agg #[vi x.base,y.val])∧y.xs=x.entries.xs∧Kp [] w w'∧gC w w' (ay 9 y.A y.c y.xs):=by
 have cC:=aJ.bL hx
 have mq:=Sl.ok.nc cC
 have mr:x.entries.n=x.entries.xs.length:=rfl
 have yr:cD x.abs=x.base+(x.entries.n:Int):=rfl
 have q1:x.abs.base=x.base:=rfl
 have q2:x.abs.entries=x.entries.xs:=rfl
 have fg: ∀q,x.entries.xs.getD q default=x.entries.at q:=fun _=>rfl
 refine M0 ?_ func46
 refine cZ 6 [] [] [] ai ?_
 refine bU (α:=ByteArray) 9 ?_
 refine Ma ?_ (α:=ByteArray) (L2:=x.entries.xs) 16 (fun bs w hS=>Sl.rd.src (s:=x.entries) (aJ.kp hx hS.kp))
 intro A1 c1
 exact Mt [.agg #[vi x.base,.slice A1 ([]++x.entries.xs).length c1]] fun bs w hS=>⟨⟨A1,c1,[]++x.entries.xs⟩,rfl,by simp,hS.kp,hS.rF⟩
theorem Az (x:dr)(w:World)(hx:aJ.sub B w x)(lj:aJ.small x):Calls prog 46 #[x.val] w fun e w'=> ∃y:dr,e=.returned (y.val)∧y.abs=x.abs∧bJ w w' y:=
  (rj x w hx lj.1).mono fun e w' ⟨y,h1,h2,h3,h4⟩=>⟨⟨x.base,y⟩,h1,by simp[dr.abs,h2],h3,h4.sub fun hp=>Rr hp (fun b hb=>hb) fun z hz=>Sl.rd.mem (s:=x.entries) hx z (h2▸hz)⟩
theorem Il {B B':Nat→Prop}(x:dr)(n:Int)(m:Sl ByteArray)(w:World)(hx:aJ.sub B w x)(hm:m.rd B' w):Calls prog 227 #[x.val,vi n,m.val] w fun e w'=> ∃y:dr,e=.returned (.tuple #[y.val,vi (de x.abs n m.xs).2])∧y.abs=(de x.abs n m.xs).1∧bJ w w' y:=by
 have cC:=aJ.bL hx
 have mq:=Sl.ok.nc cC
 have mr:x.entries.n=x.entries.xs.length:=rfl
 have yr:cD x.abs=x.base+(x.entries.n:Int):=rfl
 have q1:x.abs.base=x.base:=rfl
 have q2:x.abs.entries=x.entries.xs:=rfl
 have fg: ∀q,x.entries.xs.getD q default=x.entries.at q:=fun _=>rfl
 have IY:=Sl.rd.ok hm
 have xD:=Sl.ok.nc IY
 have HT:m.n=m.xs.length:=rfl
 refine M0 ?_ func227
 refine Mp ?_ call110 (fun bs w hS=>o6 x w (aJ.kp hx hS.kp))
 refine cr (cT x.abs=0) (fun h1=>?_) fun h1=>?_
 rotate_left
 ·have hm:de x.abs n m.xs=(iI,cT x.abs):=by grind[de]
  exact eE hm ⟨0,Sl.nil⟩ rfl fun bs w hS=>hS.aO (y:=(⟨0,Sl.nil⟩:dr)) (Sl.ao _ _)
 obtain⟨gU,gT,jB,nH⟩:=eb h1
 rw[q1]at gU gT
 rw[q2]at jB
 have GJ: ∀z,z∈x.entries.xs→z.size≤9223372036854775807:=fun z hz=>Sl.rd.mem (s:=x.entries) hx z hz
 refine Md (n<0) (fun h2=>?_) fun h2=>?_
 ·have hm:de x.abs n m.xs=(iI,2):=by
    unfold de;rw[if_neg (by simpa using (by assumption:cT _=0)),yr,q1,q2]
    first|rw[if_pos (by omega)]|rw[if_neg (by omega),if_pos (by omega)]|rw[if_neg (by omega),if_neg (by omega),if_pos (by omega)]|(rw[if_neg (by omega),if_neg (by omega),if_neg (by omega),if_neg (by simp),if_pos (by show 400<E.length;omega)])
    all_goals first|rfl|(exfalso;omega)
  exact eE hm ⟨0,Sl.nil⟩ rfl fun bs w hS=>hS.aO (y:=(⟨0,Sl.nil⟩:dr)) (Sl.ao _ _)
 refine Md ((1073741824:Int)<n) (fun h3=>?_) fun h3=>?_
 ·have hm:de x.abs n m.xs=(iI,2):=by
    unfold de;rw[if_neg (by simpa using (by assumption:cT _=0)),yr,q1,q2]
    first|rw[if_pos (by omega)]|rw[if_neg (by omega),if_pos (by omega)]|rw[if_neg (by omega),if_neg (by omega),if_pos (by omega)]|(rw[if_neg (by omega),if_neg (by omega),if_neg (by omega),if_neg (by simp),if_pos (by show 400<E.length;omega)])
    all_goals first|rfl|(exfalso;omega)
  exact eE hm ⟨0,Sl.nil⟩ rfl fun bs w hS=>hS.aO (y:=(⟨0,Sl.nil⟩:dr)) (Sl.ao _ _)
 refine Md ((400:Int)<(m.n:Int)) (fun h4=>?_) fun h4=>?_
 ·have hm:de x.abs n m.xs=(iI,1):=by
    unfold de;rw[if_neg (by simpa using (by assumption:cT _=0)),yr,q1,q2]
    first|rw[if_pos (by omega)]|rw[if_neg (by omega),if_pos (by omega)]|rw[if_neg (by omega),if_neg (by omega),if_pos (by omega)]|(rw[if_neg (by omega),if_neg (by omega),if_neg (by omega),if_neg (by simp),if_pos (by show 400<E.length;omega)])
    all_goals first|rfl|(exfalso;omega)
  exact eE hm ⟨0,Sl.nil⟩ rfl fun bs w hS=>hS.aO (y:=(⟨0,Sl.nil⟩:dr)) (Sl.ao _ _)
 refine Mp ?_ call49 (fun bs w hS=>gQ x w (aJ.kp hx hS.kp) (by first|exact⟨by omega,by omega,by omega⟩|omega))
 refine Md (x.base+(x.entries.n:Int)<n) (fun h5=>?_) fun h5=>?_
 ·have hm:de x.abs n m.xs=(iI,13):=by
    unfold de;rw[if_neg (by simpa using (by assumption:cT _=0)),yr,q1,q2]
    first|rw[if_pos (by omega)]|rw[if_neg (by omega),if_pos (by omega)]|rw[if_neg (by omega),if_neg (by omega),if_pos (by omega)]|(rw[if_neg (by omega),if_neg (by omega),if_neg (by omega),if_neg (by simp),if_pos (by show 400<E.length;omega)])
    all_goals first|rfl|(exfalso;omega)
  exact eE hm ⟨0,Sl.nil⟩ rfl fun bs w hS=>hS.aO (y:=(⟨0,Sl.nil⟩:dr)) (Sl.ao _ _)
 refine Md (n<x.base) (fun h6=>?_) fun h6=>?_
 rotate_left
 ·refine Mf ?_ call112 (fun bs w hS=>o8 x w (aJ.kp hx hS.kp) (by omega))
  rintro y9 vq
  obtain⟨A9,c9,rfl⟩:=Sl.wN vq
  refine eu (ay 9 A9 c9 (x.entries.xs:List ByteArray)) (List.Sublist.refl _) (fun w h=>h) ?_
  refine bk (F:=dY A9 c9 (x.entries.xs:List ByteArray)) (fun bs w hS=>br (hS.res _ i0)) fun MZ=>?_
  have NW:=MZ.2
  obtain⟨r,hr,SK⟩: ∃r:Sl ByteArray,r=m∧True:=⟨m,rfl,trivial⟩
  have M4:r.xs=m.xs.drop (x.base - n).toNat:=by rw[hr,show (x.base - n).toNat=0 by omega];rfl
  have Kc:Sl.rd bH w r:=by rw[hr];exact hm.wide (fun _ _=>trivial)
  have IZ:r.n=m.n:=by rw[hr]
  have Kd:=Sl.rd.ok Kc
  have vX:=Sl.ok.nc Kd
  have M5:r.n=r.xs.length:=rfl
  refine Mk 58 ?_ (show (vI (m.n:Int))=vI (r.n:Int) by rw[IZ])
  refine Mk 57 ?_ (show (.v (.slice m.A m.n m.c))=.v (.slice r.A r.n r.c) by rw[IZ,hr];first|done|rfl)
  refine Ml (σ:=Nat×Option Addr×Nat×List ByteArray) (fun⟨i,A,c,E⟩=>i≤r.n∧eT x.entries.xs (n - x.base).toNat (m.xs.drop (x.base - n).toNat)=eT E ((n - x.base).toNat+i) (r.xs.drop i)∧(n - x.base).toNat+i≤E.length∧E.length≤400+i∧ ∀z,z∈E→z.size≤9223372036854775807) (fun⟨i,A,c,E⟩=>r.n - i) (fun⟨i,A,c,E⟩=>[ay 9 A c (E:List ByteArray)]) [57,58,59,10,6,3,1] (fun⟨i,A,c,E⟩=>[(59,vI (i:Int))]) (fun⟨i,A,c,E⟩=>[(2,[vI x.base,.v (.slice A E.length c)])]) ?_ (⟨0,A9,c9,x.entries.xs⟩) ⟨Nat.zero_le _,by rw[M4];rfl,by omega,by omega,GJ⟩
  rintro⟨i,A,c,E⟩ ⟨hi,hP,hE,Pj,tC⟩ _ o5
  refine bk (F:=dY A c (E:List ByteArray)) (fun bs w hS=>br (hS.res _ i0)) fun gb=>?_
  have Pl:=gb.2
  refine Md ((i:Int)<(r.n:Int)) (fun Ek=>?_) fun Ek=>?_
  rotate_left
  ·refine Md ((400:Int)<(E.length:Int)) (fun LZ=>?_) fun LZ=>?_
   rotate_left
   ·have Dh:eT x.entries.xs (n - x.base).toNat (m.xs.drop (x.base - n).toNat)=(E,0):=by rw[hP];exact jt (by omega)
    have hm:de x.abs n m.xs=(⟨x.base,E⟩,0):=by grind[de]
    exact eE hm ⟨x.base,⟨A,c,E⟩⟩ rfl fun bs w hS=>hS.aO (y:=(⟨x.base,⟨A,c,E⟩⟩:dr)) (a4 i0 (hS.res _ i0) tC)
   have Dh:eT x.entries.xs (n - x.base).toNat (m.xs.drop (x.base - n).toNat)=(E,0):=by rw[hP];exact jt (by omega)
   have hm:de x.abs n m.xs=(iI,8):=by
     unfold de;rw[if_neg (by simpa using (by assumption:cT _=0)),yr,q1,q2]
     first|rw[if_pos (by omega)]|rw[if_neg (by omega),if_pos (by omega)]|rw[if_neg (by omega),if_neg (by omega),if_pos (by omega)]|(rw[if_neg (by omega),if_neg (by omega),if_neg (by omega),Dh,if_neg (by simp),if_pos (by show 400<E.length;omega)])
     all_goals first|rfl|(exfalso;omega)
   exact eE hm ⟨0,Sl.nil⟩ rfl fun bs w hS=>hS.aO (y:=(⟨0,Sl.nil⟩:dr)) (Sl.ao _ _)
  refine Mi ?_ (pA 62 63 (i:Int) i (db Kc))
  refine Mp ?_ call21 (fun bs w hS=>ig (r.at i) w (Sl.ok.at (s:=r) (i:=i) Kd (by omega)))
  refine cr ((aq (r.at i)).2=0) (fun ym=>?_) fun ym=>?_
  rotate_left
  ·have Dh:eT x.entries.xs (n - x.base).toNat (m.xs.drop (x.base - n).toNat)=([],(aq (r.at i)).2):=by rw[hP];exact rP (by omega) ym
   have hm:de x.abs n m.xs=(iI,(aq (r.at i)).2):=by grind[de]
   exact eE hm ⟨0,Sl.nil⟩ rfl fun bs w hS=>hS.aO (y:=(⟨0,Sl.nil⟩:dr)) (Sl.ao _ _)
  refine Mi ?_ (pc (pR (n+(i:Int))) (pR ((n+(i:Int)) - x.base)))
  refine Md ((n+(i:Int)) - x.base<(E.length:Int)) (fun EW=>?_) fun EW=>?_
  rotate_left
  ·by_cases KH:(E.length:Int)<(n+(i:Int)) - x.base
   ·refine uI ?_ (if_pos KH)
    refine Mi ?_ (pG [(100,.sl 0 E.length)] (oc (rfl:0=0) (oc (rfl:(E.length:Int)=(E.length:Int)) (oc ((by omega):E.length≤c) on))))
    refine M1 ?_
    refine eu (ay 9 A c ((E).take E.length:List ByteArray)) (List.Sublist.refl _) (fun w h=>jo h E.length (by omega)) ?_
    refine gX (α:=ByteArray) 16 ([(r.at i)]) ?_ (n:=E.length) (hn:=by rw[List.length_take];omega)
    intro Pm Po
    refine Mi ?_ (pR ((i:Int)+1))
    exact o5 ⟨i+1,Pm,Po,((E).take E.length)++[(r.at i)]⟩ ⟨by omega,by rw[hP,Pn (by omega) ym,fa (k:=(n - x.base).toNat+i) (by rintro⟨GK,ra⟩;omega),show (n - x.base).toNat+i+1=(n - x.base).toNat+(i+1) by omega];(rw[show (n - x.base).toNat+i=E.length by omega]<;>rfl),by simp only[List.length_append,List.length_take,List.length_cons,List.length_nil];omega,by simp only[List.length_append,List.length_take,List.length_cons,List.length_nil];omega,fun z hz=>by simp only[List.nil_append,List.mem_append,List.mem_singleton]at hz;rcases hz with hz|hz;exact tC z (List.mem_of_mem_take hz);subst hz;exact dv ym⟩ (by show r.n - (i+1)<r.n - i;omega)
   refine uI ?_ (if_neg KH)
   refine Mi ?_ (pG [(100,.sl 0 ((n+(i:Int)) - x.base).toNat)] (oc (rfl:0=0) (oc ((by omega):(n+(i:Int)) - x.base=((((n+(i:Int)) - x.base).toNat:Nat):Int)) (oc ((by omega):((n+(i:Int)) - x.base).toNat≤c) on))))
   refine M1 ?_
   refine eu (ay 9 A c ((E).take ((n+(i:Int)) - x.base).toNat:List ByteArray)) (List.Sublist.refl _) (fun w h=>jo h ((n+(i:Int)) - x.base).toNat (by omega)) ?_
   refine gX (α:=ByteArray) 16 ([(r.at i)]) ?_ (n:=((n+(i:Int)) - x.base).toNat) (hn:=by rw[List.length_take];omega)
   intro SL SM
   refine Mi ?_ (pR ((i:Int)+1))
   exact o5 ⟨i+1,SL,SM,((E).take ((n+(i:Int)) - x.base).toNat)++[(r.at i)]⟩ ⟨by omega,by rw[hP,Pn (by omega) ym,fa (k:=(n - x.base).toNat+i) (by rintro⟨GK,ra⟩;omega),show (n - x.base).toNat+i+1=(n - x.base).toNat+(i+1) by omega];(rw[show (n - x.base).toNat+i=((n+(i:Int)) - x.base).toNat by omega]<;>rfl),by simp only[List.length_append,List.length_take,List.length_cons,List.length_nil];omega,by simp only[List.length_append,List.length_take,List.length_cons,List.length_nil];omega,fun z hz=>by simp only[List.nil_append,List.mem_append,List.mem_singleton]at hz;rcases hz with hz|hz;exact tC z (List.mem_of_mem_take hz);subst hz;exact dv ym⟩ (by show r.n - (i+1)<r.n - i;omega)
  refine Mi ?_ (pc (fG 88 ((n+(i:Int)) - x.base) ((n+(i:Int)) - x.base).toNat E.length i0) (C2 89 ((n+(i:Int)) - x.base).toNat i0))
  refine Md ((E.getD ((n+(i:Int)) - x.base).toNat default)=(r.at i)) (fun Dd=>?_) fun Dd=>?_
  ·refine Mi ?_ (pR ((i:Int)+1))
   exact o5 ⟨i+1,A,c,E⟩ ⟨by omega,by rw[hP,Pn (by omega) ym,n9 (k:=(n - x.base).toNat+i) (by omega) (by rw[show (n - x.base).toNat+i=((n+(i:Int)) - x.base).toNat by omega];exact Dd),show (n - x.base).toNat+i+1=(n - x.base).toNat+(i+1) by omega],by omega,by omega,tC⟩ (by show r.n - (i+1)<r.n - i;omega)
  by_cases Hd:(E.length:Int)<(n+(i:Int)) - x.base
  ·refine uI ?_ (if_pos Hd)
   refine Mi ?_ (pG [(100,.sl 0 E.length)] (oc (rfl:0=0) (oc (rfl:(E.length:Int)=(E.length:Int)) (oc ((by omega):E.length≤c) on))))
   refine M1 ?_
   refine eu (ay 9 A c ((E).take E.length:List ByteArray)) (List.Sublist.refl _) (fun w h=>jo h E.length (by omega)) ?_
   refine gX (α:=ByteArray) 16 ([(r.at i)]) ?_ (n:=E.length) (hn:=by rw[List.length_take];omega)
   intro EZ E0
   refine Mi ?_ (pR ((i:Int)+1))
   exact o5 ⟨i+1,EZ,E0,((E).take E.length)++[(r.at i)]⟩ ⟨by omega,by rw[hP,Pn (by omega) ym,fa (k:=(n - x.base).toNat+i) (by rintro⟨GK,ra⟩;first|omega|(rw[show (n - x.base).toNat+i=((n+(i:Int)) - x.base).toNat by omega]at ra;exact Dd ra)),show (n - x.base).toNat+i+1=(n - x.base).toNat+(i+1) by omega];(rw[show (n - x.base).toNat+i=E.length by omega]<;>rfl),by simp only[List.length_append,List.length_take,List.length_cons,List.length_nil];omega,by simp only[List.length_append,List.length_take,List.length_cons,List.length_nil];omega,fun z hz=>by simp only[List.nil_append,List.mem_append,List.mem_singleton]at hz;rcases hz with hz|hz;exact tC z (List.mem_of_mem_take hz);subst hz;exact dv ym⟩ (by show r.n - (i+1)<r.n - i;omega)
  refine uI ?_ (if_neg Hd)
  refine Mi ?_ (pG [(100,.sl 0 ((n+(i:Int)) - x.base).toNat)] (oc (rfl:0=0) (oc ((by omega):(n+(i:Int)) - x.base=((((n+(i:Int)) - x.base).toNat:Nat):Int)) (oc ((by omega):((n+(i:Int)) - x.base).toNat≤c) on))))
  refine M1 ?_
  refine eu (ay 9 A c ((E).take ((n+(i:Int)) - x.base).toNat:List ByteArray)) (List.Sublist.refl _) (fun w h=>jo h ((n+(i:Int)) - x.base).toNat (by omega)) ?_
  refine gX (α:=ByteArray) 16 ([(r.at i)]) ?_ (n:=((n+(i:Int)) - x.base).toNat) (hn:=by rw[List.length_take];omega)
  intro SN SO
  refine Mi ?_ (pR ((i:Int)+1))
  exact o5 ⟨i+1,SN,SO,((E).take ((n+(i:Int)) - x.base).toNat)++[(r.at i)]⟩ ⟨by omega,by rw[hP,Pn (by omega) ym,fa (k:=(n - x.base).toNat+i) (by rintro⟨GK,ra⟩;first|omega|(rw[show (n - x.base).toNat+i=((n+(i:Int)) - x.base).toNat by omega]at ra;exact Dd ra)),show (n - x.base).toNat+i+1=(n - x.base).toNat+(i+1) by omega];(rw[show (n - x.base).toNat+i=((n+(i:Int)) - x.base).toNat by omega]<;>rfl),by simp only[List.length_append,List.length_take,List.length_cons,List.length_nil];omega,by simp only[List.length_append,List.length_take,List.length_cons,List.length_nil];omega,fun z hz=>by simp only[List.nil_append,List.mem_append,List.mem_singleton]at hz;rcases hz with hz|hz;exact tC z (List.mem_of_mem_take hz);subst hz;exact dv ym⟩ (by show r.n - (i+1)<r.n - i;omega)
 refine Mi ?_ (pR (x.base - n))
 by_cases h7:(m.n:Int)<x.base - n
 ·refine uI ?_ (if_pos h7)
  refine Mi ?_ (pc (pG [(51,.sl m.n m.n)] (oc (rfl:(m.n:Int)=(m.n:Int)) (oc (rfl:m.n=m.n) (oc ((by omega):m.n≤m.n) on)))) (pR (n+(m.n:Int))))
  refine Mf ?_ call112 (fun bs w hS=>o8 x w (aJ.kp hx hS.kp) (by omega))
  rintro y1 a5
  obtain⟨A1,c1,rfl⟩:=Sl.wN a5
  refine eu (ay 9 A1 c1 (x.entries.xs:List ByteArray)) (List.Sublist.refl _) (fun w h=>h) ?_
  refine bk (F:=dY A1 c1 (x.entries.xs:List ByteArray)) (fun bs w hS=>br (hS.res _ i0)) fun cI=>?_
  have cn:=cI.2
  obtain⟨r,hr⟩: ∃r:Sl ByteArray,r=⟨gA m.A m.c m.n 1,m.c - m.n,m.xs.drop m.n⟩:=⟨_,rfl⟩
  have M4:r.xs=m.xs.drop (x.base - n).toNat:=by rw[hr]<;>exact zo (by first|omega|(split at* <;>omega))
  have Kc:Sl.rd bH w r:=by rw[hr];exact (hm.wide (fun _ _=>trivial)).drop _ (by first|omega|(split<;>omega))
  have IZ:r.n=m.n - m.n:=by rw[hr];exact List.length_drop ..
  have Kd:=Sl.rd.ok Kc
  have vX:=Sl.ok.nc Kd
  have M5:r.n=r.xs.length:=rfl
  refine Mk 58 ?_ (show (vI ((m.n - m.n:Nat):Int))=vI (r.n:Int) by rw[IZ])
  refine Mk 57 ?_ (show (.v (.slice (if m.c=m.n then m.A else m.A.map (·.add (m.n*1))) (m.n - m.n) (m.c - m.n)))=.v (.slice r.A r.n r.c) by rw[IZ,hr];first|done|rfl)
  refine Ml (σ:=Nat×Option Addr×Nat×List ByteArray) (fun⟨i,A,c,E⟩=>i≤r.n∧eT x.entries.xs (n - x.base).toNat (m.xs.drop (x.base - n).toNat)=eT E ((n - x.base).toNat+i) (r.xs.drop i)∧(n - x.base).toNat+i≤E.length∧E.length≤400+i∧ ∀z,z∈E→z.size≤9223372036854775807) (fun⟨i,A,c,E⟩=>r.n - i) (fun⟨i,A,c,E⟩=>[ay 9 A c (E:List ByteArray)]) [57,58,59,10,1,6,3] (fun⟨i,A,c,E⟩=>[(59,vI (i:Int))]) (fun⟨i,A,c,E⟩=>[(2,[vI x.base,.v (.slice A E.length c)])]) ?_ (⟨0,A1,c1,x.entries.xs⟩) ⟨Nat.zero_le _,by rw[M4];rfl,by omega,by omega,GJ⟩
  rintro⟨i,A,c,E⟩ ⟨hi,hP,hE,Pj,tC⟩ _ bu
  refine bk (F:=dY A c (E:List ByteArray)) (fun bs w hS=>br (hS.res _ i0)) fun gb=>?_
  have Pl:=gb.2
  refine Md ((i:Int)<(r.n:Int)) (fun h8=>?_) fun h8=>?_
  ·exfalso;omega
  refine Md ((400:Int)<(E.length:Int)) (fun h9=>?_) fun h9=>?_
  rotate_left
  ·have Dh:eT x.entries.xs (n - x.base).toNat (m.xs.drop (x.base - n).toNat)=(E,0):=by rw[hP];exact jt (by omega)
   have hm:de x.abs n m.xs=(⟨x.base,E⟩,0):=by grind[de]
   exact eE hm ⟨x.base,⟨A,c,E⟩⟩ rfl fun bs w hS=>hS.aO (y:=(⟨x.base,⟨A,c,E⟩⟩:dr)) (a4 i0 (hS.res _ i0) tC)
  have Dh:eT x.entries.xs (n - x.base).toNat (m.xs.drop (x.base - n).toNat)=(E,0):=by rw[hP];exact jt (by omega)
  have hm:de x.abs n m.xs=(iI,8):=by
    unfold de;rw[if_neg (by simpa using (by assumption:cT _=0)),yr,q1,q2]
    first|rw[if_pos (by omega)]|rw[if_neg (by omega),if_pos (by omega)]|rw[if_neg (by omega),if_neg (by omega),if_pos (by omega)]|(rw[if_neg (by omega),if_neg (by omega),if_neg (by omega),Dh,if_neg (by simp),if_pos (by show 400<E.length;omega)])
    all_goals first|rfl|(exfalso;omega)
  exact eE hm ⟨0,Sl.nil⟩ rfl fun bs w hS=>hS.aO (y:=(⟨0,Sl.nil⟩:dr)) (Sl.ao _ _)
 refine uI ?_ (if_neg h7)
 refine Mi ?_ (pc (pG [(51,.sl (x.base - n).toNat m.n)] (oc ((by omega):x.base - n=(((x.base - n).toNat:Nat):Int)) (oc (rfl:m.n=m.n) (oc ((by omega):(x.base - n).toNat≤m.n) on)))) (pR (n+(x.base - n))))
 refine Mf ?_ call112 (fun bs w hS=>o8 x w (aJ.kp hx hS.kp) (by omega))
 rintro y3 mw
 obtain⟨A3,c3,rfl⟩:=Sl.wN mw
 refine eu (ay 9 A3 c3 (x.entries.xs:List ByteArray)) (List.Sublist.refl _) (fun w h=>h) ?_
 refine bk (F:=dY A3 c3 (x.entries.xs:List ByteArray)) (fun bs w hS=>br (hS.res _ i0)) fun M6=>?_
 have NX:=M6.2
 obtain⟨r,hr⟩: ∃r:Sl ByteArray,r=⟨gA m.A m.c (x.base - n).toNat 1,m.c - (x.base - n).toNat,m.xs.drop (x.base - n).toNat⟩:=⟨_,rfl⟩
 have M4:r.xs=m.xs.drop (x.base - n).toNat:=by rw[hr]<;>exact zo (by first|omega|(split at* <;>omega))
 have Kc:Sl.rd bH w r:=by rw[hr];exact (hm.wide (fun _ _=>trivial)).drop _ (by first|omega|(split<;>omega))
 have IZ:r.n=m.n - (x.base - n).toNat:=by rw[hr];exact List.length_drop ..
 have Kd:=Sl.rd.ok Kc
 have vX:=Sl.ok.nc Kd
 have M5:r.n=r.xs.length:=rfl
 refine Mk 58 ?_ (show (vI ((m.n - (x.base - n).toNat:Nat):Int))=vI (r.n:Int) by rw[IZ])
 refine Mk 57 ?_ (show (.v (.slice (if m.c=(x.base - n).toNat then m.A else m.A.map (·.add ((x.base - n).toNat*1))) (m.n - (x.base - n).toNat) (m.c - (x.base - n).toNat)))=.v (.slice r.A r.n r.c) by rw[IZ,hr];first|done|rfl)
 refine Ml (σ:=Nat×Option Addr×Nat×List ByteArray) (fun⟨i,A,c,E⟩=>i≤r.n∧eT x.entries.xs (n - x.base).toNat (m.xs.drop (x.base - n).toNat)=eT E ((n - x.base).toNat+i) (r.xs.drop i)∧(n - x.base).toNat+i≤E.length∧E.length≤400+i∧ ∀z,z∈E→z.size≤9223372036854775807) (fun⟨i,A,c,E⟩=>r.n - i) (fun⟨i,A,c,E⟩=>[ay 9 A c (E:List ByteArray)]) [57,58,59,10,1,6,3] (fun⟨i,A,c,E⟩=>[(59,vI (i:Int))]) (fun⟨i,A,c,E⟩=>[(2,[vI x.base,.v (.slice A E.length c)])]) ?_ (⟨0,A3,c3,x.entries.xs⟩) ⟨Nat.zero_le _,by rw[M4];rfl,by omega,by omega,GJ⟩
 rintro⟨i,A,c,E⟩ ⟨hi,hP,hE,Pj,tC⟩ _ j8
 refine bk (F:=dY A c (E:List ByteArray)) (fun bs w hS=>br (hS.res _ i0)) fun gb=>?_
 have Pl:=gb.2
 refine Md ((i:Int)<(r.n:Int)) (fun ir=>?_) fun ir=>?_
 rotate_left
 ·refine Md ((400:Int)<(E.length:Int)) (fun yJ=>?_) fun yJ=>?_
  rotate_left
  ·have Dh:eT x.entries.xs (n - x.base).toNat (m.xs.drop (x.base - n).toNat)=(E,0):=by rw[hP];exact jt (by omega)
   have hm:de x.abs n m.xs=(⟨x.base,E⟩,0):=by grind[de]
   exact eE hm ⟨x.base,⟨A,c,E⟩⟩ rfl fun bs w hS=>hS.aO (y:=(⟨x.base,⟨A,c,E⟩⟩:dr)) (a4 i0 (hS.res _ i0) tC)
  have Dh:eT x.entries.xs (n - x.base).toNat (m.xs.drop (x.base - n).toNat)=(E,0):=by rw[hP];exact jt (by omega)
  have hm:de x.abs n m.xs=(iI,8):=by
    unfold de;rw[if_neg (by simpa using (by assumption:cT _=0)),yr,q1,q2]
    first|rw[if_pos (by omega)]|rw[if_neg (by omega),if_pos (by omega)]|rw[if_neg (by omega),if_neg (by omega),if_pos (by omega)]|(rw[if_neg (by omega),if_neg (by omega),if_neg (by omega),Dh,if_neg (by simp),if_pos (by show 400<E.length;omega)])
    all_goals first|rfl|(exfalso;omega)
  exact eE hm ⟨0,Sl.nil⟩ rfl fun bs w hS=>hS.aO (y:=(⟨0,Sl.nil⟩:dr)) (Sl.ao _ _)
 refine Mi ?_ (pA 62 63 (i:Int) i (db Kc))
 refine Mp ?_ call21 (fun bs w hS=>ig (r.at i) w (Sl.ok.at (s:=r) (i:=i) Kd (by omega)))
 refine cr ((aq (r.at i)).2=0) (fun g7=>?_) fun g7=>?_
 rotate_left
 ·have Dh:eT x.entries.xs (n - x.base).toNat (m.xs.drop (x.base - n).toNat)=([],(aq (r.at i)).2):=by rw[hP];exact rP (by omega) g7
  have hm:de x.abs n m.xs=(iI,(aq (r.at i)).2):=by grind[de]
  exact eE hm ⟨0,Sl.nil⟩ rfl fun bs w hS=>hS.aO (y:=(⟨0,Sl.nil⟩:dr)) (Sl.ao _ _)
 refine Mi ?_ (pc (pR ((n+(x.base - n))+(i:Int))) (pR (((n+(x.base - n))+(i:Int)) - x.base)))
 refine Md (((n+(x.base - n))+(i:Int)) - x.base<(E.length:Int)) (fun jW=>?_) fun jW=>?_
 rotate_left
 ·by_cases pq:(E.length:Int)<((n+(x.base - n))+(i:Int)) - x.base
  ·refine uI ?_ (if_pos pq)
   refine Mi ?_ (pG [(100,.sl 0 E.length)] (oc (rfl:0=0) (oc (rfl:(E.length:Int)=(E.length:Int)) (oc ((by omega):E.length≤c) on))))
   refine M1 ?_
   refine eu (ay 9 A c ((E).take E.length:List ByteArray)) (List.Sublist.refl _) (fun w h=>jo h E.length (by omega)) ?_
   refine gX (α:=ByteArray) 16 ([(r.at i)]) ?_ (n:=E.length) (hn:=by rw[List.length_take];omega)
   intro A7 c7
   refine Mi ?_ (pR ((i:Int)+1))
   exact j8 ⟨i+1,A7,c7,((E).take E.length)++[(r.at i)]⟩ ⟨by omega,by rw[hP,Pn (by omega) g7,fa (k:=(n - x.base).toNat+i) (by rintro⟨GK,ra⟩;omega),show (n - x.base).toNat+i+1=(n - x.base).toNat+(i+1) by omega];(rw[show (n - x.base).toNat+i=E.length by omega]<;>rfl),by simp only[List.length_append,List.length_take,List.length_cons,List.length_nil];omega,by simp only[List.length_append,List.length_take,List.length_cons,List.length_nil];omega,fun z hz=>by simp only[List.nil_append,List.mem_append,List.mem_singleton]at hz;rcases hz with hz|hz;exact tC z (List.mem_of_mem_take hz);subst hz;exact dv g7⟩ (by show r.n - (i+1)<r.n - i;omega)
  refine uI ?_ (if_neg pq)
  refine Mi ?_ (pG [(100,.sl 0 (((n+(x.base - n))+(i:Int)) - x.base).toNat)] (oc (rfl:0=0) (oc ((by omega):((n+(x.base - n))+(i:Int)) - x.base=(((((n+(x.base - n))+(i:Int)) - x.base).toNat:Nat):Int)) (oc ((by omega):(((n+(x.base - n))+(i:Int)) - x.base).toNat≤c) on))))
  refine M1 ?_
  refine eu (ay 9 A c ((E).take (((n+(x.base - n))+(i:Int)) - x.base).toNat:List ByteArray)) (List.Sublist.refl _) (fun w h=>jo h (((n+(x.base - n))+(i:Int)) - x.base).toNat (by omega)) ?_
  refine gX (α:=ByteArray) 16 ([(r.at i)]) ?_ (n:=(((n+(x.base - n))+(i:Int)) - x.base).toNat) (hn:=by rw[List.length_take];omega)
  intro A8 c8
  refine Mi ?_ (pR ((i:Int)+1))
  exact j8 ⟨i+1,A8,c8,((E).take (((n+(x.base - n))+(i:Int)) - x.base).toNat)++[(r.at i)]⟩ ⟨by omega,by rw[hP,Pn (by omega) g7,fa (k:=(n - x.base).toNat+i) (by rintro⟨GK,ra⟩;omega),show (n - x.base).toNat+i+1=(n - x.base).toNat+(i+1) by omega];(rw[show (n - x.base).toNat+i=(((n+(x.base - n))+(i:Int)) - x.base).toNat by omega]<;>rfl),by simp only[List.length_append,List.length_take,List.length_cons,List.length_nil];omega,by simp only[List.length_append,List.length_take,List.length_cons,List.length_nil];omega,fun z hz=>by simp only[List.nil_append,List.mem_append,List.mem_singleton]at hz;rcases hz with hz|hz;exact tC z (List.mem_of_mem_take hz);subst hz;exact dv g7⟩ (by show r.n - (i+1)<r.n - i;omega)
 refine Mi ?_ (pc (fG 88 (((n+(x.base - n))+(i:Int)) - x.base) (((n+(x.base - n))+(i:Int)) - x.base).toNat E.length i0) (C2 89 (((n+(x.base - n))+(i:Int)) - x.base).toNat i0))
 refine Md ((E.getD (((n+(x.base - n))+(i:Int)) - x.base).toNat default)=(r.at i)) (fun k7=>?_) fun k7=>?_
 ·refine Mi ?_ (pR ((i:Int)+1))
  exact j8 ⟨i+1,A,c,E⟩ ⟨by omega,by rw[hP,Pn (by omega) g7,n9 (k:=(n - x.base).toNat+i) (by omega) (by rw[show (n - x.base).toNat+i=(((n+(x.base - n))+(i:Int)) - x.base).toNat by omega];exact k7),show (n - x.base).toNat+i+1=(n - x.base).toNat+(i+1) by omega],by omega,by omega,tC⟩ (by show r.n - (i+1)<r.n - i;omega)
 by_cases mn:(E.length:Int)<((n+(x.base - n))+(i:Int)) - x.base
 ·refine uI ?_ (if_pos mn)
  refine Mi ?_ (pG [(100,.sl 0 E.length)] (oc (rfl:0=0) (oc (rfl:(E.length:Int)=(E.length:Int)) (oc ((by omega):E.length≤c) on))))
  refine M1 ?_
  refine eu (ay 9 A c ((E).take E.length:List ByteArray)) (List.Sublist.refl _) (fun w h=>jo h E.length (by omega)) ?_
  refine gX (α:=ByteArray) 16 ([(r.at i)]) ?_ (n:=E.length) (hn:=by rw[List.length_take];omega)
  intro A5 c5
  refine Mi ?_ (pR ((i:Int)+1))
  exact j8 ⟨i+1,A5,c5,((E).take E.length)++[(r.at i)]⟩ ⟨by omega,by rw[hP,Pn (by omega) g7,fa (k:=(n - x.base).toNat+i) (by rintro⟨GK,ra⟩;first|omega|(rw[show (n - x.base).toNat+i=(((n+(x.base - n))+(i:Int)) - x.base).toNat by omega]at ra;exact k7 ra)),show (n - x.base).toNat+i+1=(n - x.base).toNat+(i+1) by omega];(rw[show (n - x.base).toNat+i=E.length by omega]<;>rfl),by simp only[List.length_append,List.length_take,List.length_cons,List.length_nil];omega,by simp only[List.length_append,List.length_take,List.length_cons,List.length_nil];omega,fun z hz=>by simp only[List.nil_append,List.mem_append,List.mem_singleton]at hz;rcases hz with hz|hz;exact tC z (List.mem_of_mem_take hz);subst hz;exact dv g7⟩ (by show r.n - (i+1)<r.n - i;omega)
 refine uI ?_ (if_neg mn)
 refine Mi ?_ (pG [(100,.sl 0 (((n+(x.base - n))+(i:Int)) - x.base).toNat)] (oc (rfl:0=0) (oc ((by omega):((n+(x.base - n))+(i:Int)) - x.base=(((((n+(x.base - n))+(i:Int)) - x.base).toNat:Nat):Int)) (oc ((by omega):(((n+(x.base - n))+(i:Int)) - x.base).toNat≤c) on))))
 refine M1 ?_
 refine eu (ay 9 A c ((E).take (((n+(x.base - n))+(i:Int)) - x.base).toNat:List ByteArray)) (List.Sublist.refl _) (fun w h=>jo h (((n+(x.base - n))+(i:Int)) - x.base).toNat (by omega)) ?_
 refine gX (α:=ByteArray) 16 ([(r.at i)]) ?_ (n:=(((n+(x.base - n))+(i:Int)) - x.base).toNat) (hn:=by rw[List.length_take];omega)
 intro A6 c6
 refine Mi ?_ (pR ((i:Int)+1))
 exact j8 ⟨i+1,A6,c6,((E).take (((n+(x.base - n))+(i:Int)) - x.base).toNat)++[(r.at i)]⟩ ⟨by omega,by rw[hP,Pn (by omega) g7,fa (k:=(n - x.base).toNat+i) (by rintro⟨GK,ra⟩;first|omega|(rw[show (n - x.base).toNat+i=(((n+(x.base - n))+(i:Int)) - x.base).toNat by omega]at ra;exact k7 ra)),show (n - x.base).toNat+i+1=(n - x.base).toNat+(i+1) by omega];(rw[show (n - x.base).toNat+i=(((n+(x.base - n))+(i:Int)) - x.base).toNat by omega]<;>rfl),by simp only[List.length_append,List.length_take,List.length_cons,List.length_nil];omega,by simp only[List.length_append,List.length_take,List.length_cons,List.length_nil];omega,fun z hz=>by simp only[List.nil_append,List.mem_append,List.mem_singleton]at hz;rcases hz with hz|hz;exact tC z (List.mem_of_mem_take hz);subst hz;exact dv g7⟩ (by show r.n - (i+1)<r.n - i;omega)
theorem Ez {B B':Nat→Prop}(x:dr)(n:Int)(m:Sl ByteArray)(w:World)(hx:aJ.sub B w x)(hm:m.rd B' w):Calls prog 211 #[x.val,vi n,m.val] w fun e w'=> ∃y:dr,e=.returned (.tuple #[y.val,vi (de x.abs n m.xs).2])∧y.abs=(de x.abs n m.xs).1∧bJ w w' y:=by
 have cC:=aJ.bL hx
 have mq:=Sl.ok.nc cC
 have mr:x.entries.n=x.entries.xs.length:=rfl
 have yr:cD x.abs=x.base+(x.entries.n:Int):=rfl
 have q1:x.abs.base=x.base:=rfl
 have q2:x.abs.entries=x.entries.xs:=rfl
 have fg: ∀q,x.entries.xs.getD q default=x.entries.at q:=fun _=>rfl
 have IY:=Sl.rd.ok hm
 have xD:=Sl.ok.nc IY
 have HT:m.n=m.xs.length:=rfl
 refine M0 ?_ func211
 refine Mp ?_ call113 (fun bs w hS=>lh x w (aJ.kp hx hS.kp))
 refine Md (cT x.abs=0) (fun h1=>?_) fun h1=>?_
 rotate_left
 ·refine My false false ?_ (df h1)
  refine My false false ?_ (df h1)
  refine My false true ?_ (df h1)
  have hm:de x.abs n m.xs=(iI,cT x.abs):=by grind[de]
  exact eE hm ⟨0,Sl.nil⟩ rfl fun bs w hS=>hS.aO (y:=(⟨0,Sl.nil⟩:dr)) (Sl.ao _ _)
 obtain⟨gU,gT,jB,nH⟩:=eb h1
 rw[q1]at gU gT
 rw[q2]at jB
 have GJ: ∀z,z∈x.entries.xs→z.size≤9223372036854775807:=fun z hz=>Sl.rd.mem (s:=x.entries) hx z hz
 refine Mp ?_ call51 (fun bs w hS=>b6 n 0 1073741824 w)
 refine fL (gk n 0 1073741824) (fun h2=>?_) fun h2=>?_
 rotate_left
 ·simp only[iT,iF]at h2
  refine Mq 25 false ?_ rfl
  refine Mq 32 false ?_ rfl
  refine Mq 39 true ?_ rfl
  have hm:de x.abs n m.xs=(iI,2):=by
    unfold de;rw[if_neg (by simpa using (by assumption:cT _=0)),yr,q1,q2]
    first|rw[if_pos (by omega)]|rw[if_neg (by omega),if_pos (by omega)]|rw[if_neg (by omega),if_neg (by omega),if_pos (by omega)]|(rw[if_neg (by omega),if_neg (by omega),if_neg (by omega),if_neg (by simp),if_pos (by show 400<E.length;omega)])
    all_goals first|rfl|(exfalso;omega)
  exact eE hm ⟨0,Sl.nil⟩ rfl fun bs w hS=>hS.aO (y:=(⟨0,Sl.nil⟩:dr)) (Sl.ao _ _)
 simp only[iT,iF]at h2
 refine My true false ?_ (dt h1)
 refine Md ((400:Int)<(m.n:Int)) (fun h4=>?_) fun h4=>?_
 ·refine Mq 32 false ?_ rfl
  refine Mq 39 true ?_ rfl
  have hm:de x.abs n m.xs=(iI,1):=by
    unfold de;rw[if_neg (by simpa using (by assumption:cT _=0)),yr,q1,q2]
    first|rw[if_pos (by omega)]|rw[if_neg (by omega),if_pos (by omega)]|rw[if_neg (by omega),if_neg (by omega),if_pos (by omega)]|(rw[if_neg (by omega),if_neg (by omega),if_neg (by omega),if_neg (by simp),if_pos (by show 400<E.length;omega)])
    all_goals first|rfl|(exfalso;omega)
  exact eE hm ⟨0,Sl.nil⟩ rfl fun bs w hS=>hS.aO (y:=(⟨0,Sl.nil⟩:dr)) (Sl.ao _ _)
 refine My true false ?_ (dt h1)
 refine Mp ?_ call52 (fun bs w hS=>dD x w (aJ.kp hx hS.kp) (by first|exact⟨by omega,by omega,by omega⟩|omega))
 refine Md (x.base+(x.entries.n:Int)<n) (fun h6=>?_) fun h6=>?_
 ·refine Mq 39 true ?_ rfl
  have hm:de x.abs n m.xs=(iI,13):=by
    unfold de;rw[if_neg (by simpa using (by assumption:cT _=0)),yr,q1,q2]
    first|rw[if_pos (by omega)]|rw[if_neg (by omega),if_pos (by omega)]|rw[if_neg (by omega),if_neg (by omega),if_pos (by omega)]|(rw[if_neg (by omega),if_neg (by omega),if_neg (by omega),if_neg (by simp),if_pos (by show 400<E.length;omega)])
    all_goals first|rfl|(exfalso;omega)
  exact eE hm ⟨0,Sl.nil⟩ rfl fun bs w hS=>hS.aO (y:=(⟨0,Sl.nil⟩:dr)) (Sl.ao _ _)
 refine My true true ?_ (dt h1)
 refine Mf ?_ call46 (fun bs w hS=>rj x w (aJ.kp hx hS.kp) (by omega))
 rintro y1 a5
 obtain⟨A1,c1,rfl⟩:=Sl.wN a5
 refine eu (ay 9 A1 c1 (x.entries.xs:List ByteArray)) (List.Sublist.refl _) (fun w h=>h) ?_
 refine bk (F:=dY A1 c1 (x.entries.xs:List ByteArray)) (fun bs w hS=>br (hS.res _ i0)) fun cI=>?_
 have cn:=cI.2
 refine Ml (σ:=Nat×Option Addr×Nat×List ByteArray) (fun⟨i,A,c,E⟩=>i≤m.n∧eT x.entries.xs (n - x.base).toNat (m.xs.drop (x.base - n).toNat)=eT E ((n - x.base).toNat+(i - (x.base - n).toNat)) (m.xs.drop (max i (x.base - n).toNat))∧(n - x.base).toNat+(i - (x.base - n).toNat)≤E.length∧E.length≤400+i∧ ∀z,z∈E→z.size≤9223372036854775807) (fun⟨i,A,c,E⟩=>m.n - i) (fun⟨i,A,c,E⟩=>[ay 9 A c (E:List ByteArray)]) [10,9,6,3,1,2] (fun⟨i,A,c,E⟩=>[(10,vI (i:Int))]) (fun⟨i,A,c,E⟩=>[(2,[vI x.base,.v (.slice A E.length c)])]) ?_ (⟨0,A1,c1,x.entries.xs⟩) ⟨Nat.zero_le _,by rw[Nat.zero_max];simp,by omega,by omega,GJ⟩
 rintro⟨i,A,c,E⟩ ⟨hi,hP,hE,Pj,tC⟩ _ bu
 refine bk (F:=dY A c (E:List ByteArray)) (fun bs w hS=>br (hS.res _ i0)) fun gb=>?_
 have Pl:=gb.2
 refine Md ((i:Int)<(m.n:Int)) (fun h8=>?_) fun h8=>?_
 rotate_left
 ·refine Md ((400:Int)<(E.length:Int)) (fun k7=>?_) fun k7=>?_
  rotate_left
  ·have Dh:eT x.entries.xs (n - x.base).toNat (m.xs.drop (x.base - n).toNat)=(E,0):=by rw[hP];exact jt (by omega)
   have hm:de x.abs n m.xs=(⟨x.base,E⟩,0):=by grind[de]
   exact eE hm ⟨x.base,⟨A,c,E⟩⟩ rfl fun bs w hS=>hS.aO (y:=(⟨x.base,⟨A,c,E⟩⟩:dr)) (a4 i0 (hS.res _ i0) tC)
  have Dh:eT x.entries.xs (n - x.base).toNat (m.xs.drop (x.base - n).toNat)=(E,0):=by rw[hP];exact jt (by omega)
  have hm:de x.abs n m.xs=(iI,8):=by
    unfold de;rw[if_neg (by simpa using (by assumption:cT _=0)),yr,q1,q2]
    first|rw[if_pos (by omega)]|rw[if_neg (by omega),if_pos (by omega)]|rw[if_neg (by omega),if_neg (by omega),if_pos (by omega)]|(rw[if_neg (by omega),if_neg (by omega),if_neg (by omega),Dh,if_neg (by simp),if_pos (by show 400<E.length;omega)])
    all_goals first|rfl|(exfalso;omega)
  exact eE hm ⟨0,Sl.nil⟩ rfl fun bs w hS=>hS.aO (y:=(⟨0,Sl.nil⟩:dr)) (Sl.ao _ _)
 refine Mi ?_ (pc (pR (n+(i:Int))) (pR ((n+(i:Int))+1)))
 refine Md ((n+(i:Int))+1≤x.base) (fun h9=>?_) fun h9=>?_
 ·refine Mi ?_ (pR ((i:Int)+1))
  exact bu ⟨i+1,A,c,E⟩ ⟨by omega,by rw[hP,show i+1 - (x.base - n).toNat=i - (x.base - n).toNat by omega,show max (i+1) (x.base - n).toNat=max i (x.base - n).toNat by omega],by omega,by omega,tC⟩ (by show m.n - (i+1)<m.n - i;omega)
 refine Mi ?_ (pA 61 62 (i:Int) i (db hm))
 refine Mp ?_ call31 (fun bs w hS=>ks (m.at i) w (Sl.ok.at (s:=m) (i:=i) IY (by omega)))
 refine cr ((aq (m.at i)).2=0) (fun ir=>?_) fun ir=>?_
 rotate_left
 ·have Dh:eT x.entries.xs (n - x.base).toNat (m.xs.drop (x.base - n).toNat)=([],(aq (m.at i)).2):=by rw[hP];rw[Nat.max_eq_left (by omega)];exact rP (by omega) ir
  have hm:de x.abs n m.xs=(iI,(aq (m.at i)).2):=by grind[de]
  exact eE hm ⟨0,Sl.nil⟩ rfl fun bs w hS=>hS.aO (y:=(⟨0,Sl.nil⟩:dr)) (Sl.ao _ _)
 refine fP 20 ?_ ai
 refine Mp ?_ call52 (fun bs w hS=>dD (⟨x.base,⟨A,c,E⟩⟩:dr) w (Rr (hS.res _ i0) (fun _ _=>trivial) tC:Sl.rd bH w _) ⟨by omega,by omega,by show (E).length≤1048576;omega⟩)
 refine Md ((n+(i:Int))+1≤x.base+((E).length:Int)) (fun g7=>?_) fun g7=>?_
 rotate_left
 ·refine Mz ?_
  refine fP 14 ?_ ai
  refine bY ?_ (pc (pR (((n+(i:Int))+1) - x.base)) (pc (pR ((((n+(i:Int))+1) - x.base) - 1)) (pc (pG [(97,.sl 0 ((((n+(i:Int))+1) - x.base) - 1).toNat)] (oc (rfl:0=0) (oc ((by omega):(((n+(i:Int))+1) - x.base) - 1=((((((n+(i:Int))+1) - x.base) - 1).toNat:Nat):Int)) (oc ((by omega):((((n+(i:Int))+1) - x.base) - 1).toNat≤c) on)))) (pA 101 102 (i:Int) i (db hm)))))
  refine tu ?_ ?_
  ·refine bU (α:=ByteArray) 9 ?_
   refine Ma ?_ (α:=ByteArray) (L2:=(E).take ((((n+(i:Int))+1) - x.base) - 1).toNat) 16 (fun bs w hS=>fx.tY (mE (hS.res _ i1)) (by omega)) (hn2:=(by rw[List.length_take];exact Nat.min_eq_left (by omega)))
   intro A7 c7
   refine eu (ay 9 A7 c7 ((E).take ((((n+(i:Int))+1) - x.base) - 1).toNat:List ByteArray)) (List.Sublist.refl _) (fun w h=>h) ?_
   refine M1 ?_ (hR:=(.cons _ (List.Sublist.refl _)))
   refine Mz ?_
   refine gX (α:=ByteArray) 16 ([(m.at i)]) ?_
   intro A8 c8
   refine Mi ?_ (pR ((i:Int)+1))
   refine CY (R':=[ay 9 A8 c8 ((E).take ((((n+(i:Int))+1) - x.base) - 1).toNat++[(m.at i)]:List ByteArray)]) (.cons_cons _ (.cons _ .slnil)) ?_
   exact bu ⟨i+1,A8,c8,(E).take ((((n+(i:Int))+1) - x.base) - 1).toNat++[(m.at i)]⟩ ⟨by omega,by rw[Nat.max_eq_left (show (x.base - n).toNat≤i+1 by omega),hP,Nat.max_eq_left (show (x.base - n).toNat≤i by omega),Pn (by omega) ir,fa (k:=(n - x.base).toNat+(i - (x.base - n).toNat)) (by rintro⟨GK,ra⟩;omega),show (n - x.base).toNat+(i - (x.base - n).toNat)+1=(n - x.base).toNat+(i+1 - (x.base - n).toNat) by omega];(rw[show (n - x.base).toNat+(i - (x.base - n).toNat)=((((n+(i:Int))+1) - x.base) - 1).toNat by omega]<;>rfl),by simp only[List.length_append,List.length_take,List.length_cons,List.length_nil];omega,by simp only[List.length_append,List.length_take,List.length_cons,List.length_nil];omega,fun z hz=>by simp only[List.nil_append,List.mem_append,List.mem_singleton]at hz;rcases hz with hz|hz;exact tC z (List.mem_of_mem_take hz);subst hz;exact dv ir⟩ (by show m.n - (i+1)<m.n - i;omega)
  refine M1 ?_
  refine bU (α:=ByteArray) 9 ?_
  refine Ma ?_ (α:=ByteArray) (L2:=(E).take ((((n+(i:Int))+1) - x.base) - 1).toNat) 16 (fun bs w hS=>fx.tY (mE (hS.res _ i1)) (by omega)) (hn2:=(by rw[List.length_take];exact Nat.min_eq_left (by omega)))
  intro A9 c9
  refine eu (ay 9 A9 c9 ((E).take ((((n+(i:Int))+1) - x.base) - 1).toNat:List ByteArray)) (List.Sublist.refl _) (fun w h=>h) ?_
  refine Mz ?_
  refine gX (α:=ByteArray) 16 ([(m.at i)]) ?_
  intro NY NZ
  refine Mi ?_ (pR ((i:Int)+1))
  refine CY (R':=[ay 9 NY NZ ((E).take ((((n+(i:Int))+1) - x.base) - 1).toNat++[(m.at i)]:List ByteArray)]) (.cons_cons _ (.cons _ .slnil)) ?_
  exact bu ⟨i+1,NY,NZ,(E).take ((((n+(i:Int))+1) - x.base) - 1).toNat++[(m.at i)]⟩ ⟨by omega,by rw[Nat.max_eq_left (show (x.base - n).toNat≤i+1 by omega),hP,Nat.max_eq_left (show (x.base - n).toNat≤i by omega),Pn (by omega) ir,fa (k:=(n - x.base).toNat+(i - (x.base - n).toNat)) (by rintro⟨GK,ra⟩;omega),show (n - x.base).toNat+(i - (x.base - n).toNat)+1=(n - x.base).toNat+(i+1 - (x.base - n).toNat) by omega];(rw[show (n - x.base).toNat+(i - (x.base - n).toNat)=((((n+(i:Int))+1) - x.base) - 1).toNat by omega]<;>rfl),by simp only[List.length_append,List.length_take,List.length_cons,List.length_nil];omega,by simp only[List.length_append,List.length_take,List.length_cons,List.length_nil];omega,fun z hz=>by simp only[List.nil_append,List.mem_append,List.mem_singleton]at hz;rcases hz with hz|hz;exact tC z (List.mem_of_mem_take hz);subst hz;exact dv ir⟩ (by show m.n - (i+1)<m.n - i;omega)
 refine bY ?_ (pc (pR (((n+(i:Int))+1) - x.base)) (pc (pR ((((n+(i:Int))+1) - x.base) - 1)) (pc (fG 82 ((((n+(i:Int))+1) - x.base) - 1) ((((n+(i:Int))+1) - x.base) - 1).toNat E.length i0) (pc (C2 83 ((((n+(i:Int))+1) - x.base) - 1).toNat i0) (pA 86 87 (i:Int) i (db hm))))))
 refine Mz ?_
 refine Md ((E.getD ((((n+(i:Int))+1) - x.base) - 1).toNat default)=(m.at i)) (fun jW=>?_) fun jW=>?_
 ·refine Mi ?_ (pR ((i:Int)+1))
  exact bu ⟨i+1,A,c,E⟩ ⟨by omega,by rw[Nat.max_eq_left (show (x.base - n).toNat≤i+1 by omega),hP,Nat.max_eq_left (show (x.base - n).toNat≤i by omega),Pn (by omega) ir,n9 (k:=(n - x.base).toNat+(i - (x.base - n).toNat)) (by omega) (by rw[show (n - x.base).toNat+(i - (x.base - n).toNat)=((((n+(i:Int))+1) - x.base) - 1).toNat by omega];exact jW),show (n - x.base).toNat+(i - (x.base - n).toNat)+1=(n - x.base).toNat+(i+1 - (x.base - n).toNat) by omega],by omega,by omega,tC⟩ (by show m.n - (i+1)<m.n - i;omega)
 refine fP 14 ?_ ai
 refine bY ?_ (pc (pR (((n+(i:Int))+1) - x.base)) (pc (pR ((((n+(i:Int))+1) - x.base) - 1)) (pc (pG [(97,.sl 0 ((((n+(i:Int))+1) - x.base) - 1).toNat)] (oc (rfl:0=0) (oc ((by omega):(((n+(i:Int))+1) - x.base) - 1=((((((n+(i:Int))+1) - x.base) - 1).toNat:Nat):Int)) (oc ((by omega):((((n+(i:Int))+1) - x.base) - 1).toNat≤c) on)))) (pA 101 102 (i:Int) i (db hm)))))
 refine tu ?_ ?_
 ·refine bU (α:=ByteArray) 9 ?_
  refine Ma ?_ (α:=ByteArray) (L2:=(E).take ((((n+(i:Int))+1) - x.base) - 1).toNat) 16 (fun bs w hS=>fx.tY (mE (hS.res _ i1)) (by omega)) (hn2:=(by rw[List.length_take];exact Nat.min_eq_left (by omega)))
  intro A3 c3
  refine eu (ay 9 A3 c3 ((E).take ((((n+(i:Int))+1) - x.base) - 1).toNat:List ByteArray)) (List.Sublist.refl _) (fun w h=>h) ?_
  refine M1 ?_ (hR:=(.cons _ (List.Sublist.refl _)))
  refine Mz ?_
  refine gX (α:=ByteArray) 16 ([(m.at i)]) ?_
  intro A4 c4
  refine Mi ?_ (pR ((i:Int)+1))
  refine CY (R':=[ay 9 A4 c4 ((E).take ((((n+(i:Int))+1) - x.base) - 1).toNat++[(m.at i)]:List ByteArray)]) (.cons_cons _ (.cons _ .slnil)) ?_
  exact bu ⟨i+1,A4,c4,(E).take ((((n+(i:Int))+1) - x.base) - 1).toNat++[(m.at i)]⟩ ⟨by omega,by rw[Nat.max_eq_left (show (x.base - n).toNat≤i+1 by omega),hP,Nat.max_eq_left (show (x.base - n).toNat≤i by omega),Pn (by omega) ir,fa (k:=(n - x.base).toNat+(i - (x.base - n).toNat)) (by rintro⟨GK,ra⟩;first|omega|(rw[show (n - x.base).toNat+(i - (x.base - n).toNat)=((((n+(i:Int))+1) - x.base) - 1).toNat by omega]at ra;exact jW ra)),show (n - x.base).toNat+(i - (x.base - n).toNat)+1=(n - x.base).toNat+(i+1 - (x.base - n).toNat) by omega];(rw[show (n - x.base).toNat+(i - (x.base - n).toNat)=((((n+(i:Int))+1) - x.base) - 1).toNat by omega]<;>rfl),by simp only[List.length_append,List.length_take,List.length_cons,List.length_nil];omega,by simp only[List.length_append,List.length_take,List.length_cons,List.length_nil];omega,fun z hz=>by simp only[List.nil_append,List.mem_append,List.mem_singleton]at hz;rcases hz with hz|hz;exact tC z (List.mem_of_mem_take hz);subst hz;exact dv ir⟩ (by show m.n - (i+1)<m.n - i;omega)
 refine M1 ?_
 refine bU (α:=ByteArray) 9 ?_
 refine Ma ?_ (α:=ByteArray) (L2:=(E).take ((((n+(i:Int))+1) - x.base) - 1).toNat) 16 (fun bs w hS=>fx.tY (mE (hS.res _ i1)) (by omega)) (hn2:=(by rw[List.length_take];exact Nat.min_eq_left (by omega)))
 intro A5 c5
 refine eu (ay 9 A5 c5 ((E).take ((((n+(i:Int))+1) - x.base) - 1).toNat:List ByteArray)) (List.Sublist.refl _) (fun w h=>h) ?_
 refine Mz ?_
 refine gX (α:=ByteArray) 16 ([(m.at i)]) ?_
 intro A6 c6
 refine Mi ?_ (pR ((i:Int)+1))
 refine CY (R':=[ay 9 A6 c6 ((E).take ((((n+(i:Int))+1) - x.base) - 1).toNat++[(m.at i)]:List ByteArray)]) (.cons_cons _ (.cons _ .slnil)) ?_
 exact bu ⟨i+1,A6,c6,(E).take ((((n+(i:Int))+1) - x.base) - 1).toNat++[(m.at i)]⟩ ⟨by omega,by rw[Nat.max_eq_left (show (x.base - n).toNat≤i+1 by omega),hP,Nat.max_eq_left (show (x.base - n).toNat≤i by omega),Pn (by omega) ir,fa (k:=(n - x.base).toNat+(i - (x.base - n).toNat)) (by rintro⟨GK,ra⟩;first|omega|(rw[show (n - x.base).toNat+(i - (x.base - n).toNat)=((((n+(i:Int))+1) - x.base) - 1).toNat by omega]at ra;exact jW ra)),show (n - x.base).toNat+(i - (x.base - n).toNat)+1=(n - x.base).toNat+(i+1 - (x.base - n).toNat) by omega];(rw[show (n - x.base).toNat+(i - (x.base - n).toNat)=((((n+(i:Int))+1) - x.base) - 1).toNat by omega]<;>rfl),by simp only[List.length_append,List.length_take,List.length_cons,List.length_nil];omega,by simp only[List.length_append,List.length_take,List.length_cons,List.length_nil];omega,fun z hz=>by simp only[List.nil_append,List.mem_append,List.mem_singleton]at hz;rcases hz with hz|hz;exact tC z (List.mem_of_mem_take hz);subst hz;exact dv ir⟩ (by show m.n - (i+1)<m.n - i;omega)
theorem dJ (q:RQ)(b:Nat)(w:World)(hb:(bh b 238 [vs q.1,vi q.2]).p w)(hz:q.1.size≤9223372036854775807):Calls prog 222 #[.pointer (some (⟨b,0,none⟩:Addr))] w fun e w'=> ∃_:Unit,e=.returned (vi (ah q).1)∧True∧Kp [b] w w'∧(bh b 238 [vs (ah q).2.1,vi (ah q).2.2]).p w':=by
 have SP:=eH q.1
 refine Mj ?_ func222 (WS.eG w _ hb (by simp[bh]) (gm hb))
 refine Mi ?_ (nI 9 1 1 i0)
 refine cr (q.2=0) (fun h1=>?_) fun h1=>?_
 rotate_left
 ·refine Mt [vi 0] fun bs w hS=>?_
  have hm:ah q=(0,q):=by grind[ah]
  rw[hm]
  exact⟨(),rfl,trivial,hS.kp,hS.res _ i0⟩
 refine Mi ?_ (nI 15 0 1 i0)
 refine Mp ?_ call132 (fun bs w hS=>ez _ w hz)
 refine ry 0 [vs (bf q.1).2.1,vi q.2] ?_
 refine ry 1 [vs (bf q.1).2.1,vi (bf q.1).2.2] ?_
 refine Mt [vi (bf q.1).1] fun bs w hS=>?_
 have hm:ah q=((bf q.1).1,((bf q.1).2.1,(bf q.1).2.2)):=by grind[ah]
 rw[hm]
 exact⟨(),rfl,trivial,hS.kp,hS.res _ i0⟩
theorem nn (q:RQ)(b:Nat)(w:World)(hb:(bh b 238 [vs q.1,vi q.2]).p w)(hz:q.1.size≤9223372036854775807):Calls prog 225 #[.pointer (some (⟨b,0,none⟩:Addr))] w fun e w'=> ∃_:Unit,e=.returned (vs (bw q).1)∧True∧Kp [b] w w'∧(bh b 238 [vs (bw q).2.1,vi (bw q).2.2]).p w':=by
 refine Mj ?_ func225 (WS.eG w _ hb (by simp[bh]) (gm hb))
 refine Mi ?_ (nI 9 1 1 i0)
 refine cr (q.2=0) (fun h1=>?_) fun h1=>?_
 rotate_left
 ·refine Mt [ve] fun bs w hS=>?_
  have hm:bw q=(emp,q):=by grind[bw]
  rw[hm]
  exact⟨(),rfl,trivial,hS.kp,hS.res _ i0⟩
 refine Mi ?_ (nI 15 0 1 i0)
 refine Mp ?_ call133 (fun bs w hS=>lP _ w hz)
 refine ry 0 [vs (dK q.1).2.1,vi q.2] ?_
 refine ry 1 [vs (dK q.1).2.1,vi (dK q.1).2.2] ?_
 refine Mt [vs (dK q.1).1] fun bs w hS=>?_
 have hm:bw q=((dK q.1).1,((dK q.1).2.1,(dK q.1).2.2)):=by grind[bw]
 rw[hm]
 exact⟨(),rfl,trivial,hS.kp,hS.res _ i0⟩
theorem lX (q:RQ)(m:Int)(b:Nat)(w:World)(hb:(bh b 238 [vs q.1,vi q.2]).p w)(hz:q.1.size≤9223372036854775807):Calls prog 223 #[.pointer (some (⟨b,0,none⟩:Addr)),vi m] w fun e w'=> ∃_:Unit,e=.returned (vi (al m q).1)∧True∧Kp [b] w w'∧(bh b 238 [vs (al m q).2.1,vi (al m q).2.2]).p w':=by
 refine Mj ?_ func223 (WS.eG w _ hb (by simp[bh]) (gm hb))
 refine yI ?_ call222 (fun bs w hS=>dJ q b w (hS.res _ i0) hz)
 rintro y _
 refine Mi ?_ (nI 11 1 1 i0)
 refine Md ((ah q).2.2=0) (fun h1=>?_) fun h1=>?_
 rotate_left
 ·refine Mi ?_ (nI 24 1 1 i0)
  refine My false true ?_ (df h1)
  refine Mt [vi 0] fun bs w hS=>?_
  have hm:al m q=(0,(ah q).2):=by grind[al]
  rw[hm]
  exact⟨(),rfl,trivial,hS.kp,hS.res _ i0⟩
 refine Md (m<(ah q).1) (fun h2=>?_) fun h2=>?_
 rotate_left
 ·refine Mi ?_ (nI 24 1 1 i0)
  refine My true true ?_ (dt h1)
  refine Mt [vi (ah q).1] fun bs w hS=>?_
  have hm:al m q=ah q:=by grind[al]
  rw[hm]
  exact⟨(),rfl,trivial,hS.kp,hS.res _ i0⟩
 refine ry 1 [vs (ah q).2.1,vi 1] ?_
 refine Mi ?_ (nI 24 1 1 i0)
 refine Mq 25 true ?_ rfl
 refine Mt [vi 0] fun bs w hS=>?_
 have hm:al m q=(0,((ah q).2.1,1)):=by grind[al]
 rw[hm]
 exact⟨(),rfl,trivial,hS.kp,hS.res _ i0⟩
theorem iD (q:RQ)(b:Nat)(w:World)(hb:(bh b 210 [vs q.1,vi q.2]).p w)(hz:q.1.size≤9223372036854775807):Calls prog 159 #[.pointer (some (⟨b,0,none⟩:Addr))] w fun e w'=> ∃_:Unit,e=.returned (vi (ah q).1)∧True∧Kp [b] w w'∧(bh b 210 [vs (ah q).2.1,vi (ah q).2.2]).p w':=by
 have SP:=eH q.1
 refine Mj ?_ func159 (WS.eG w _ hb (by simp[bh]) (gm hb))
 refine Mi ?_ (nI 9 1 1 i0)
 refine cr (q.2=0) (fun h1=>?_) fun h1=>?_
 rotate_left
 ·refine Mt [vi 0] fun bs w hS=>?_
  have hm:ah q=(0,q):=by grind[ah]
  rw[hm]
  exact⟨(),rfl,trivial,hS.kp,hS.res _ i0⟩
 refine Mi ?_ (nI 15 0 1 i0)
 refine Mp ?_ call95 (fun bs w hS=>gL _ w hz)
 refine ry 0 [vs (bf q.1).2.1,vi q.2] ?_
 refine ry 1 [vs (bf q.1).2.1,vi (bf q.1).2.2] ?_
 refine Mt [vi (bf q.1).1] fun bs w hS=>?_
 have hm:ah q=((bf q.1).1,((bf q.1).2.1,(bf q.1).2.2)):=by grind[ah]
 rw[hm]
 exact⟨(),rfl,trivial,hS.kp,hS.res _ i0⟩
theorem tD (q:RQ)(b:Nat)(w:World)(hb:(bh b 210 [vs q.1,vi q.2]).p w)(hz:q.1.size≤9223372036854775807):Calls prog 161 #[.pointer (some (⟨b,0,none⟩:Addr))] w fun e w'=> ∃_:Unit,e=.returned (vs (bw q).1)∧True∧Kp [b] w w'∧(bh b 210 [vs (bw q).2.1,vi (bw q).2.2]).p w':=by
 refine Mj ?_ func161 (WS.eG w _ hb (by simp[bh]) (gm hb))
 refine Mi ?_ (nI 9 1 1 i0)
 refine cr (q.2=0) (fun h1=>?_) fun h1=>?_
 rotate_left
 ·refine Mt [ve] fun bs w hS=>?_
  have hm:bw q=(emp,q):=by grind[bw]
  rw[hm]
  exact⟨(),rfl,trivial,hS.kp,hS.res _ i0⟩
 refine Mi ?_ (nI 15 0 1 i0)
 refine Mp ?_ call96 (fun bs w hS=>pU _ w hz)
 refine ry 0 [vs (dK q.1).2.1,vi q.2] ?_
 refine ry 1 [vs (dK q.1).2.1,vi (dK q.1).2.2] ?_
 refine Mt [vs (dK q.1).1] fun bs w hS=>?_
 have hm:bw q=((dK q.1).1,((dK q.1).2.1,(dK q.1).2.2)):=by grind[bw]
 rw[hm]
 exact⟨(),rfl,trivial,hS.kp,hS.res _ i0⟩
theorem oD (q:RQ)(m:Int)(b:Nat)(w:World)(hb:(bh b 210 [vs q.1,vi q.2]).p w)(hz:q.1.size≤9223372036854775807):Calls prog 160 #[.pointer (some (⟨b,0,none⟩:Addr)),vi m] w fun e w'=> ∃_:Unit,e=.returned (vi (al m q).1)∧True∧Kp [b] w w'∧(bh b 210 [vs (al m q).2.1,vi (al m q).2.2]).p w':=by
 refine Mj ?_ func160 (WS.eG w _ hb (by simp[bh]) (gm hb))
 refine yI ?_ call159 (fun bs w hS=>iD q b w (hS.res _ i0) hz)
 rintro y _
 refine Mi ?_ (nI 11 1 1 i0)
 refine Md ((ah q).2.2=0) (fun h1=>?_) fun h1=>?_
 rotate_left
 ·refine Mi ?_ (nI 24 1 1 i0)
  refine My false true ?_ (df h1)
  refine Mt [vi 0] fun bs w hS=>?_
  have hm:al m q=(0,(ah q).2):=by grind[al]
  rw[hm]
  exact⟨(),rfl,trivial,hS.kp,hS.res _ i0⟩
 refine Md (m<(ah q).1) (fun h2=>?_) fun h2=>?_
 rotate_left
 ·refine Mi ?_ (nI 24 1 1 i0)
  refine My true true ?_ (dt h1)
  refine Mt [vi (ah q).1] fun bs w hS=>?_
  have hm:al m q=ah q:=by grind[al]
  rw[hm]
  exact⟨(),rfl,trivial,hS.kp,hS.res _ i0⟩
 refine ry 1 [vs (ah q).2.1,vi 1] ?_
 refine Mi ?_ (nI 24 1 1 i0)
 refine Mq 25 true ?_ rfl
 refine Mt [vi 0] fun bs w hS=>?_
 have hm:al m q=(0,((ah q).2.1,1)):=by grind[al]
 rw[hm]
 exact⟨(),rfl,trivial,hS.kp,hS.res _ i0⟩
theorem EA (q:RQ)(b:Nat)(w:World)(hb:(bh b 238 [vs q.1,vi q.2]).p w)(hz:q.1.size≤9223372036854775807):Calls prog 224 #[.pointer (some (⟨b,0,none⟩:Addr))] w fun e w'=> ∃y:ae,e=.returned y.val∧(y.abs=(bG q).1∧y.name.size≤9223372036854775807)∧jb (bh b 238 [vs q.1,vi q.2]) w w' (bh b 238 [vs (bG q).2.1,vi (bG q).2.2]) (bM 3 y):=by
 refine Mj ?_ func224 (WS.eG w _ hb (by simp[bh]) (gm hb))
 refine yI ?_ call225 (fun bs w hS=>nn q b w (hS.res _ i0) hz)
 rintro y _
 refine yI ?_ call222 (fun bs w hS=>dJ (bw q).2 b w (hS.res _ i0) (cW q _ hz).1)
 rintro y _
 refine yI ?_ call222 (fun bs w hS=>dJ (ah (bw q).2).2 b w (hS.res _ i0) (aP (bw q).2 _ (cW q _ hz).1))
 rintro y _
 refine yI ?_ call223 (fun bs w hS=>lX (ah (ah (bw q).2).2).2 3 b w (hS.res _ i0) (aP (ah (bw q).2).2 _ (aP (bw q).2 _ (cW q _ hz).1)))
 rintro y _
 have SQ:=kq 3 (by decide) (ah (ah (bw q).2).2).2
 refine bU (α:=Int) 3 ?_
 refine Ml (σ:=Nat×Option Addr×Nat) (fun⟨i0,iG,iH⟩=>i0≤(al 3 (ah (ah (bw q).2).2).2).1.toNat) (fun⟨i0,iG,iH⟩=>(al 3 (ah (ah (bw q).2).2).2).1.toNat - i0) (fun⟨i0,iG,iH⟩=>[ay 3 iG iH ((ax ah i0 (al 3 (ah (ah (bw q).2).2).2).2).1:List Int),bh b 238 [vs (ax ah i0 (al 3 (ah (ah (bw q).2).2).2).2).2.1,vi (ax ah i0 (al 3 (ah (ah (bw q).2).2).2).2).2.2]]) [13,12,3,2,0] (fun⟨i0,iG,iH⟩=>[(13,vI (i0:Int))]) (fun⟨i0,iG,iH⟩=>[(1,[vS (bw q).1,vI (ah (bw q).2).1,vI (ah (ah (bw q).2).2).1,.v (.slice iG ((ax ah i0 (al 3 (ah (ah (bw q).2).2).2).2).1).length iH)])]) ?_ (⟨0,none,0⟩) (Nat.zero_le _)
 rintro⟨i0,iG,iH⟩ Pp _ bu
 have Pq:(ax ah i0 (al 3 (ah (ah (bw q).2).2).2).2).1.length=i0:=by exact er _ _ _
 refine Md ((i0:Int)<(al 3 (ah (ah (bw q).2).2).2).1) (fun h1=>?_) fun h1=>?_
 rotate_left
 ·have vr:i0=(al 3 (ah (ah (bw q).2).2).2).1.toNat:=by omega
  subst vr
  refine Mt [.agg #[vs (bw q).1,vi (ah (bw q).2).1,vi (ah (ah (bw q).2).2).1,.slice iG ((ax ah (al 3 (ah (ah (bw q).2).2).2).1.toNat (al 3 (ah (ah (bw q).2).2).2).2).1).length iH]] fun bs w hS=>?_
  have j1:=hS.f1
  exact⟨(⟨(bw q).1,(ah (bw q).2).1,(ah (ah (bw q).2).2).1,⟨iG,iH,(ax ah (al 3 (ah (ah (bw q).2).2).2).1.toNat (al 3 (ah (ah (bw q).2).2).2).2).1⟩⟩:ae),rfl,⟨rfl,(cW q _ hz).2⟩,(j1.jc (fun _ h=>h)).as (tZ _ _) (n0 _)⟩
 refine cZ 5 [] [] [ay 3 iG iH ((ax ah i0 (al 3 (ah (ah (bw q).2).2).2).2).1:List Int)] ai ?_ (hR:=(.cons_cons _ (.cons _ .slnil)))
 refine cd ?_
 refine nF ?_ (v:=fun _=>vi (ah (ax ah i0 (al 3 (ah (ah (bw q).2).2).2).2).2).1) call222 (fun bs w hS=>(dJ (ax ah i0 (al 3 (ah (ah (bw q).2).2).2).2).2 b w (hS.res _ (.head _)) (bp (B:=9223372036854775807) (fun q h=>aP q _ h) i0 (al 3 (ah (ah (bw q).2).2).2).2 (bt 3 (ah (ah (bw q).2).2).2 _ (aP (ah (bw q).2).2 _ (aP (bw q).2 _ (cW q _ hz).1))))).mono (fun e w' ⟨y,h1,h2,h3,h4⟩=>⟨y,h1,h2,h3,h4,(by simp[bh]),fun x hx=>.inl hx⟩))
 rintro y _
 refine M1 ?_ (hR:=(.cons _ (List.Sublist.refl _)))
 refine Mz ?_
 refine cd ?_
 refine gX (α:=Int) 8 ([(ah (ax ah i0 (al 3 (ah (ah (bw q).2).2).2).2).2).1]) ?_
 intro A7 c7
 refine Mi ?_ (pR ((i0:Int)+1))
 refine cd (cd ?_)
 exact bu ⟨i0+1,A7,c7⟩ (by show i0+1≤(al 3 (ah (ah (bw q).2).2).2).1.toNat;omega) (by show (al 3 (ah (ah (bw q).2).2).2).1.toNat - (i0+1)<(al 3 (ah (ah (bw q).2).2).2).1.toNat - i0;omega)
theorem yz (q:RQ)(b:Nat)(w:World)(hb:(bh b 238 [vs q.1,vi q.2]).p w)(hz:q.1.size≤9223372036854775807):Calls prog 226 #[.pointer (some (⟨b,0,none⟩:Addr))] w fun e w'=> ∃y:aa,e=.returned y.val∧(y.abs=(aX q).1∧ ∀k,k∈y.ab.xs→k.aE.text.size≤9223372036854775807)∧jb (bh b 238 [vs q.1,vi q.2]) w w' (bh b 238 [vs (aX q).2.1,vi (aX q).2.2]) (cj 141 y):=by
 refine Mj ?_ func226 (WS.eG w _ hb (by simp[bh]) (gm hb))
 refine yI ?_ call222 (fun bs w hS=>dJ q b w (hS.res _ i0) hz)
 rintro y _
 refine yI ?_ call222 (fun bs w hS=>dJ (ah q).2 b w (hS.res _ i0) (aP q _ hz))
 rintro y _
 refine yI ?_ call222 (fun bs w hS=>dJ (ah (ah q).2).2 b w (hS.res _ i0) (aP (ah q).2 _ (aP q _ hz)))
 rintro y _
 refine yI ?_ call222 (fun bs w hS=>dJ (ah (ah (ah q).2).2).2 b w (hS.res _ i0) (aP (ah (ah q).2).2 _ (aP (ah q).2 _ (aP q _ hz))))
 rintro y _
 refine yI ?_ call223 (fun bs w hS=>lX (ah (ah (ah (ah q).2).2).2).2 4 b w (hS.res _ i0) (aP (ah (ah (ah q).2).2).2 _ (aP (ah (ah q).2).2 _ (aP (ah q).2 _ (aP q _ hz)))))
 rintro y _
 have SR:=kq 4 (by decide) (ah (ah (ah (ah q).2).2).2).2
 refine bU (α:=aK) 141 ?_
 refine Ml (σ:=Nat×Option Addr×Nat) (fun⟨i0,iG,iH⟩=>i0≤(al 4 (ah (ah (ah (ah q).2).2).2).2).1.toNat∧ ∀x,x∈(ax cb i0 (al 4 (ah (ah (ah (ah q).2).2).2).2).2).1→x.aE.text.size≤9223372036854775807) (fun⟨i0,iG,iH⟩=>(al 4 (ah (ah (ah (ah q).2).2).2).2).1.toNat - i0) (fun⟨i0,iG,iH⟩=>[ay 141 iG iH ((ax cb i0 (al 4 (ah (ah (ah (ah q).2).2).2).2).2).1:List aK),bh b 238 [vs (ax cb i0 (al 4 (ah (ah (ah (ah q).2).2).2).2).2).2.1,vi (ax cb i0 (al 4 (ah (ah (ah (ah q).2).2).2).2).2).2.2]]) [15,14,3,2,0] (fun⟨i0,iG,iH⟩=>[(15,vI (i0:Int))]) (fun⟨i0,iG,iH⟩=>[(1,[vI (ah q).1,vI (ah (ah q).2).1,vI (ah (ah (ah q).2).2).1,vI (ah (ah (ah (ah q).2).2).2).1,.v (.slice iG ((ax cb i0 (al 4 (ah (ah (ah (ah q).2).2).2).2).2).1).length iH)])]) ?_ (⟨0,none,0⟩) ⟨(Nat.zero_le _),(fun x hx=>by cases hx)⟩
 rintro⟨i0,iG,iH⟩ ⟨Pp,Hh⟩ _ bu
 have Pq:(ax cb i0 (al 4 (ah (ah (ah (ah q).2).2).2).2).2).1.length=i0:=by exact er _ _ _
 refine Md ((i0:Int)<(al 4 (ah (ah (ah (ah q).2).2).2).2).1) (fun h1=>?_) fun h1=>?_
 rotate_left
 ·have vr:i0=(al 4 (ah (ah (ah (ah q).2).2).2).2).1.toNat:=by omega
  subst vr
  refine Mt [.agg #[vi (ah q).1,vi (ah (ah q).2).1,vi (ah (ah (ah q).2).2).1,vi (ah (ah (ah (ah q).2).2).2).1,.slice iG ((ax cb (al 4 (ah (ah (ah (ah q).2).2).2).2).1.toNat (al 4 (ah (ah (ah (ah q).2).2).2).2).2).1).length iH]] fun bs w hS=>?_
  have j1:=hS.f1
  exact⟨(⟨(ah q).1,(ah (ah q).2).1,(ah (ah (ah q).2).2).1,(ah (ah (ah (ah q).2).2).2).1,⟨iG,iH,(ax cb (al 4 (ah (ah (ah (ah q).2).2).2).2).1.toNat (al 4 (ah (ah (ah (ah q).2).2).2).2).2).1⟩⟩:aa),rfl,⟨rfl,Hh⟩,(j1.jc (fun _ h=>h)).as (tZ _ _) (n0 _)⟩
 refine cZ 13 [] [] [ay 141 iG iH ((ax cb i0 (al 4 (ah (ah (ah (ah q).2).2).2).2).2).1:List aK)] ai ?_ (hR:=(.cons_cons _ (.cons _ .slnil)))
 refine cd ?_
 refine nF ?_ (v:=fun _=>vi (ah (ax cb i0 (al 4 (ah (ah (ah (ah q).2).2).2).2).2).2).1) call222 (fun bs w hS=>(dJ (ax cb i0 (al 4 (ah (ah (ah (ah q).2).2).2).2).2).2 b w (hS.res _ (.head _)) (bp (B:=9223372036854775807) (fun q h=>hZ q _ h) i0 (al 4 (ah (ah (ah (ah q).2).2).2).2).2 (bt 4 (ah (ah (ah (ah q).2).2).2).2 _ (aP (ah (ah (ah q).2).2).2 _ (aP (ah (ah q).2).2 _ (aP (ah q).2 _ (aP q _ hz))))))).mono (fun e w' ⟨y,h1,h2,h3,h4⟩=>⟨y,h1,h2,h3,h4,(by simp[bh]),fun x hx=>.inl hx⟩))
 rintro y _
 refine nF ?_ (v:=fun _=>vi (ah (ah (ax cb i0 (al 4 (ah (ah (ah (ah q).2).2).2).2).2).2).2).1) call222 (fun bs w hS=>(dJ (ah (ax cb i0 (al 4 (ah (ah (ah (ah q).2).2).2).2).2).2).2 b w (hS.res _ (.head _)) (aP (ax cb i0 (al 4 (ah (ah (ah (ah q).2).2).2).2).2).2 _ (bp (B:=9223372036854775807) (fun q h=>hZ q _ h) i0 (al 4 (ah (ah (ah (ah q).2).2).2).2).2 (bt 4 (ah (ah (ah (ah q).2).2).2).2 _ (aP (ah (ah (ah q).2).2).2 _ (aP (ah (ah q).2).2 _ (aP (ah q).2 _ (aP q _ hz)))))))).mono (fun e w' ⟨y,h1,h2,h3,h4⟩=>⟨y,h1,h2,h3,h4,(by simp[bh]),fun x hx=>.inl hx⟩))
 rintro y _
 refine nF ?_ (v:=fun _=>vi (ah (ah (ah (ax cb i0 (al 4 (ah (ah (ah (ah q).2).2).2).2).2).2).2).2).1) call222 (fun bs w hS=>(dJ (ah (ah (ax cb i0 (al 4 (ah (ah (ah (ah q).2).2).2).2).2).2).2).2 b w (hS.res _ (.head _)) (aP (ah (ax cb i0 (al 4 (ah (ah (ah (ah q).2).2).2).2).2).2).2 _ (aP (ax cb i0 (al 4 (ah (ah (ah (ah q).2).2).2).2).2).2 _ (bp (B:=9223372036854775807) (fun q h=>hZ q _ h) i0 (al 4 (ah (ah (ah (ah q).2).2).2).2).2 (bt 4 (ah (ah (ah (ah q).2).2).2).2 _ (aP (ah (ah (ah q).2).2).2 _ (aP (ah (ah q).2).2 _ (aP (ah q).2 _ (aP q _ hz))))))))).mono (fun e w' ⟨y,h1,h2,h3,h4⟩=>⟨y,h1,h2,h3,h4,(by simp[bh]),fun x hx=>.inl hx⟩))
 rintro y _
 refine nF ?_ (v:=fun _=>vs (bw (ah (ah (ah (ax cb i0 (al 4 (ah (ah (ah (ah q).2).2).2).2).2).2).2).2).2).1) call225 (fun bs w hS=>(nn (ah (ah (ah (ax cb i0 (al 4 (ah (ah (ah (ah q).2).2).2).2).2).2).2).2).2 b w (hS.res _ (.head _)) (aP (ah (ah (ax cb i0 (al 4 (ah (ah (ah (ah q).2).2).2).2).2).2).2).2 _ (aP (ah (ax cb i0 (al 4 (ah (ah (ah (ah q).2).2).2).2).2).2).2 _ (aP (ax cb i0 (al 4 (ah (ah (ah (ah q).2).2).2).2).2).2 _ (bp (B:=9223372036854775807) (fun q h=>hZ q _ h) i0 (al 4 (ah (ah (ah (ah q).2).2).2).2).2 (bt 4 (ah (ah (ah (ah q).2).2).2).2 _ (aP (ah (ah (ah q).2).2).2 _ (aP (ah (ah q).2).2 _ (aP (ah q).2 _ (aP q _ hz)))))))))).mono (fun e w' ⟨y,h1,h2,h3,h4⟩=>⟨y,h1,h2,h3,h4,(by simp[bh]),fun x hx=>.inl hx⟩))
 rintro y _
 refine M1 ?_ (hR:=(.cons _ (List.Sublist.refl _)))
 refine Mz ?_
 refine cd ?_
 refine gX (α:=aK) 40 ([(⟨(ah (ax cb i0 (al 4 (ah (ah (ah (ah q).2).2).2).2).2).2).1,⟨(ah (ah (ax cb i0 (al 4 (ah (ah (ah (ah q).2).2).2).2).2).2).2).1,(ah (ah (ah (ax cb i0 (al 4 (ah (ah (ah (ah q).2).2).2).2).2).2).2).2).1,(bw (ah (ah (ah (ax cb i0 (al 4 (ah (ah (ah (ah q).2).2).2).2).2).2).2).2).2).1⟩⟩:aK)]) ?_
 intro EZ E0
 refine Mi ?_ (pR ((i0:Int)+1))
 refine cd (cd ?_)
 exact bu ⟨i0+1,EZ,E0⟩ ⟨(by show i0+1≤(al 4 (ah (ah (ah (ah q).2).2).2).2).1.toNat;omega),(fun x hx=>by rcases List.mem_append.1 hx with hx|hx;exact Hh x hx;rw[List.mem_singleton]at hx;subst hx;exact (cW (ah (ah (ah (ax cb i0 (al 4 (ah (ah (ah (ah q).2).2).2).2).2).2).2).2).2 _ (aP (ah (ah (ax cb i0 (al 4 (ah (ah (ah (ah q).2).2).2).2).2).2).2).2 _ (aP (ah (ax cb i0 (al 4 (ah (ah (ah (ah q).2).2).2).2).2).2).2 _ (aP (ax cb i0 (al 4 (ah (ah (ah (ah q).2).2).2).2).2).2 _ (bp (B:=9223372036854775807) (fun q h=>hZ q _ h) i0 (al 4 (ah (ah (ah (ah q).2).2).2).2).2 (bt 4 (ah (ah (ah (ah q).2).2).2).2 _ (aP (ah (ah (ah q).2).2).2 _ (aP (ah (ah q).2).2 _ (aP (ah q).2 _ (aP q _ hz)))))))))).2)⟩ (by show (al 4 (ah (ah (ah (ah q).2).2).2).2).1.toNat - (i0+1)<(al 4 (ah (ah (ah (ah q).2).2).2).2).1.toNat - i0;omega)
theorem B9 (q:RQ)(b:Nat)(w:World)(hb:(bh b 238 [vs q.1,vi q.2]).p w)(hz:q.1.size≤9223372036854775807):Calls prog 199 #[.pointer (some (⟨b,0,none⟩:Addr))] w fun e w'=> ∃y:List Nat×aN,e=.returned y.2.val∧(y.2.abs=(ep q).1∧(∀x,x∈y.2.aj.xs→x.name.size≤9223372036854775807)∧(∀x,x∈y.2.an.xs→x.name.size≤9223372036854775807∧x.value.size≤9223372036854775807)∧ ∀x,x∈y.2.af.xs→ ∀k,k∈x.ab.xs→k.aE.text.size≤9223372036854775807)∧jb (bh b 238 [vs q.1,vi q.2]) w w' (bh b 238 [vs (ep q).2.1,vi (ep q).2.2]) (bF y.1 y.2):=by
 refine Mj ?_ func199 (WS.eG w _ hb (by simp[bh]) (gm hb))
 refine yI ?_ call222 (fun bs w hS=>dJ q b w (hS.res _ i0) hz)
 rintro y _
 refine yI ?_ call223 (fun bs w hS=>lX (ah q).2 5 b w (hS.res _ i0) (aP q _ hz))
 rintro y _
 have Pr:=kq 5 (by decide) (ah q).2
 refine bU (α:=ae) 115 ?_
 refine gK (bI (bM 3) []) rfl (fun w x hx=>by cases hx) ?_
 refine Ml (σ:=Nat×Option Addr×Nat×List ae) (fun⟨i0,iG,iH,M0⟩=>i0≤(al 5 (ah q).2).1.toNat∧M0.map ae.abs=(ax bG i0 (al 5 (ah q).2).2).1∧ ∀x,x∈M0→x.name.size≤9223372036854775807) (fun⟨i0,iG,iH,M0⟩=>(al 5 (ah q).2).1.toNat - i0) (fun⟨i0,iG,iH,M0⟩=>[bI (bM 3) M0,ay 115 iG iH (M0:List ae),bh b 238 [vs (ax bG i0 (al 5 (ah q).2).2).2.1,vi (ax bG i0 (al 5 (ah q).2).2).2.2]]) [9,8,3,2,0] (fun⟨i0,iG,iH,M0⟩=>[(9,vI (i0:Int))]) (fun⟨i0,iG,iH,M0⟩=>[(1,[vI (ah q).1,.v (.slice iG M0.length iH),.v vn,.v vn])]) ?_ (⟨0,none,0,[]⟩) ⟨(Nat.zero_le _),rfl,(fun x hx=>by cases hx)⟩
 rintro⟨i0,iG,iH,M0⟩ ⟨Pp,I0,Hh⟩ _ bu
 have Pq:M0.length=i0:=by have h9:=congrArg List.length I0;rw[List.length_map,er]at h9;exact h9
 refine Md ((i0:Int)<(al 5 (ah q).2).1) (fun h1=>?_) fun h1=>?_
 ·refine cZ 5 [] [] [bI (bM 3) M0,ay 115 iG iH (M0:List ae)] ai ?_ (hR:=(.cons_cons _ (.cons_cons _ (.cons _ .slnil))))
  refine cL ?_
  refine Qz ?_ call224 (fun bs w hS=>EA (ax bG i0 (al 5 (ah q).2).2).2 b w (hS.res _ (.head _)) (bp (B:=9223372036854775807) (fun q h=>jK q _ h) i0 (al 5 (ah q).2).2 (bt 5 (ah q).2 _ (aP q _ hz)))) (hR:=fun _=>(.cons _ (.cons _ (List.Sublist.refl _))))
  rintro y4 GL
  refine M1 ?_ (hR:=(.cons _ (.cons _ (List.Sublist.refl _))))
  refine Mz ?_
  refine jZ ?_
  refine gX (α:=ae) 56 ([(⟨y4.name,y4.ar,y4.aA,y4.line⟩:ae)]) ?_
  intro A5 c5
  refine Mi ?_ (pR ((i0:Int)+1))
  refine jZ ?_
  refine cL ?_
  refine fc (bI (bM 3) (M0++[(⟨y4.name,y4.ar,y4.aA,y4.line⟩:ae)])) (gD (bM 3) M0 (⟨y4.name,y4.ar,y4.aA,y4.line⟩:ae)) (fun w=>g9 (bM 3) M0 (⟨y4.name,y4.ar,y4.aA,y4.line⟩:ae) w) ?_
  refine cL (cL (cL ?_))
  exact bu ⟨i0+1,A5,c5,M0++[(⟨y4.name,y4.ar,y4.aA,y4.line⟩:ae)]⟩ ⟨(by show i0+1≤(al 5 (ah q).2).1.toNat;omega),(by rw[List.map_append,I0];exact congrArg (fun z=>(ax bG i0 (al 5 (ah q).2).2).1++[z]) (show ae.abs (⟨y4.name,y4.ar,y4.aA,y4.line⟩:ae)=(bG (ax bG i0 (al 5 (ah q).2).2).2).1 from GL.1)),(fun x hx=>by rcases List.mem_append.1 hx with hx|hx;exact Hh x hx;rw[List.mem_singleton]at hx;subst hx;exact GL.2)⟩ (by show (al 5 (ah q).2).1.toNat - (i0+1)<(al 5 (ah q).2).1.toNat - i0;omega)
 have vr:i0=(al 5 (ah q).2).1.toNat:=by omega
 subst vr
 have pZ:=(bp (B:=9223372036854775807) (fun q h=>jK q _ h) (al 5 (ah q).2).1.toNat (al 5 (ah q).2).2 (bt 5 (ah q).2 _ (aP q _ hz)))
 try dsimp only
 generalize KM:(ax bG (al 5 (ah q).2).1.toNat (al 5 (ah q).2).2)=Q0 at*
 refine cL ?_
 refine yI ?_ call223 (fun bs w hS=>lX Q0.2 5 b w (hS.res _ i0) pZ)
 rintro y _
 have SU:=kq 5 (by decide) Q0.2
 refine bU (α:=aG) 128 ?_
 refine Ml (σ:=Nat×Option Addr×Nat) (fun⟨i1,qc,qd⟩=>i1≤(al 5 Q0.2).1.toNat∧ ∀x,x∈(ax dz i1 (al 5 Q0.2).2).1→x.name.size≤9223372036854775807∧x.value.size≤9223372036854775807) (fun⟨i1,qc,qd⟩=>(al 5 Q0.2).1.toNat - i1) (fun⟨i1,qc,qd⟩=>[ay 128 qc qd ((ax dz i1 (al 5 Q0.2).2).1:List aG),bh b 238 [vs (ax dz i1 (al 5 Q0.2).2).2.1,vi (ax dz i1 (al 5 Q0.2).2).2.2],bI (bM 3) M0,ay 115 iG iH (M0:List ae)]) [21,20,3,2,0] (fun⟨i1,qc,qd⟩=>[(21,vI (i1:Int))]) (fun⟨i1,qc,qd⟩=>[(1,[vI (ah q).1,.v (.slice iG M0.length iH),.v (.slice qc ((ax dz i1 (al 5 Q0.2).2).1).length qd),.v vn])]) ?_ (⟨0,none,0⟩) ⟨(Nat.zero_le _),(fun x hx=>by cases hx)⟩
 rintro⟨i1,qc,qd⟩ ⟨SW,Ps⟩ _ j8
 have SX:(ax dz i1 (al 5 Q0.2).2).1.length=i1:=by exact er _ _ _
 refine Md ((i1:Int)<(al 5 Q0.2).1) (fun h2=>?_) fun h2=>?_
 ·refine cZ 10 [] [] [ay 128 qc qd ((ax dz i1 (al 5 Q0.2).2).1:List aG),bI (bM 3) M0,ay 115 iG iH (M0:List ae)] ai ?_ (hR:=(.cons_cons _ (.cons _ (List.Sublist.refl _))))
  refine cd ?_
  refine yI ?_ call225 (fun bs w hS=>nn (ax dz i1 (al 5 Q0.2).2).2 b w (hS.res _ i0) (bp (B:=9223372036854775807) (fun q h=>gO q _ h) i1 (al 5 Q0.2).2 (bt 5 Q0.2 _ pZ)))
  rintro y _
  refine yI ?_ call225 (fun bs w hS=>nn (bw (ax dz i1 (al 5 Q0.2).2).2).2 b w (hS.res _ i0) (cW (ax dz i1 (al 5 Q0.2).2).2 _ (bp (B:=9223372036854775807) (fun q h=>gO q _ h) i1 (al 5 Q0.2).2 (bt 5 Q0.2 _ pZ))).1)
  rintro y _
  refine yI ?_ call222 (fun bs w hS=>dJ (bw (bw (ax dz i1 (al 5 Q0.2).2).2).2).2 b w (hS.res _ i0) (cW (bw (ax dz i1 (al 5 Q0.2).2).2).2 _ (cW (ax dz i1 (al 5 Q0.2).2).2 _ (bp (B:=9223372036854775807) (fun q h=>gO q _ h) i1 (al 5 Q0.2).2 (bt 5 Q0.2 _ pZ))).1).1)
  rintro y _
  refine M1 ?_ (hR:=(.cons _ (List.Sublist.refl _)))
  refine Mz ?_
  refine cd ?_
  refine gX (α:=aG) 40 ([(⟨(bw (ax dz i1 (al 5 Q0.2).2).2).1,(bw (bw (ax dz i1 (al 5 Q0.2).2).2).2).1,(ah (bw (bw (ax dz i1 (al 5 Q0.2).2).2).2).2).1⟩:aG)]) ?_
  intro EZ E0
  refine Mi ?_ (pR ((i1:Int)+1))
  refine jZ (jZ (jZ (jZ ?_)))
  exact j8 ⟨i1+1,EZ,E0⟩ ⟨(by show i1+1≤(al 5 Q0.2).1.toNat;omega),(fun x hx=>by rcases List.mem_append.1 hx with hx|hx;exact Ps x hx;rw[List.mem_singleton]at hx;subst hx;exact⟨(cW (ax dz i1 (al 5 Q0.2).2).2 _ (bp (B:=9223372036854775807) (fun q h=>gO q _ h) i1 (al 5 Q0.2).2 (bt 5 Q0.2 _ pZ))).2,(cW (bw (ax dz i1 (al 5 Q0.2).2).2).2 _ (cW (ax dz i1 (al 5 Q0.2).2).2 _ (bp (B:=9223372036854775807) (fun q h=>gO q _ h) i1 (al 5 Q0.2).2 (bt 5 Q0.2 _ pZ))).1).2⟩)⟩ (by show (al 5 Q0.2).1.toNat - (i1+1)<(al 5 Q0.2).1.toNat - i1;omega)
 have GM:i1=(al 5 Q0.2).1.toNat:=by omega
 subst GM
 have Ke:=(bp (B:=9223372036854775807) (fun q h=>gO q _ h) (al 5 Q0.2).1.toNat (al 5 Q0.2).2 (bt 5 Q0.2 _ pZ))
 try dsimp only
 generalize SY:(ax dz (al 5 Q0.2).1.toNat (al 5 Q0.2).2)=Q1 at*
 refine cd ?_
 refine yI ?_ call223 (fun bs w hS=>lX Q1.2 4 b w (hS.res _ i0) Ke)
 rintro y _
 have M7:=kq 4 (by decide) Q1.2
 refine bU (α:=aa) 118 ?_
 refine gK (bI (cj 141) []) rfl (fun w x hx=>by cases hx) ?_
 refine Ml (σ:=Nat×Option Addr×Nat×List aa) (fun⟨i2,nL,nM,M2⟩=>i2≤(al 4 Q1.2).1.toNat∧M2.map aa.abs=(ax aX i2 (al 4 Q1.2).2).1∧ ∀x,x∈M2→ ∀k,k∈x.ab.xs→k.aE.text.size≤9223372036854775807) (fun⟨i2,nL,nM,M2⟩=>(al 4 Q1.2).1.toNat - i2) (fun⟨i2,nL,nM,M2⟩=>[bI (cj 141) M2,ay 118 nL nM (M2:List aa),bh b 238 [vs (ax aX i2 (al 4 Q1.2).2).2.1,vi (ax aX i2 (al 4 Q1.2).2).2.2],ay 128 qc qd (Q1.1:List aG),bI (bM 3) M0,ay 115 iG iH (M0:List ae)]) [38,37,3,2,0] (fun⟨i2,nL,nM,M2⟩=>[(38,vI (i2:Int))]) (fun⟨i2,nL,nM,M2⟩=>[(1,[vI (ah q).1,.v (.slice iG M0.length iH),.v (.slice qc (Q1.1).length qd),.v (.slice nL M2.length nM)])]) ?_ (⟨0,none,0,[]⟩) ⟨(Nat.zero_le _),rfl,(fun x hx=>by cases hx)⟩
 rintro⟨i2,nL,nM,M2⟩ ⟨SZ,Pt,Kf⟩ _ o5
 have S0:M2.length=i2:=by have h9:=congrArg List.length Pt;rw[List.length_map,er]at h9;exact h9
 refine Md ((i2:Int)<(al 4 Q1.2).1) (fun h3=>?_) fun h3=>?_
 rotate_left
 ·have GN:i2=(al 4 Q1.2).1.toNat:=by omega
  subst GN
  have sn:=(bp (B:=9223372036854775807) (fun q h=>gw q _ h) (al 4 Q1.2).1.toNat (al 4 Q1.2).2 (bt 4 Q1.2 _ Ke))
  try dsimp only
  generalize KN:(ax aX (al 4 Q1.2).1.toNat (al 4 Q1.2).2)=Q2 at*
  refine Mt [.agg #[vi (ah q).1,.slice iG M0.length iH,.slice qc (Q1.1).length qd,.slice nL M2.length nM]] fun bs w hS=>?_
  have hR:=mN KM SY KN
  rw[hR]
  have j1:=hS.f5.f5.f5.f4.f4.f5
  refine⟨((cN [bI (cj 141) M2,ay 118 nL nM (M2:List aa),ay 128 qc qd (Q1.1:List aG),bI (bM 3) M0,ay 115 iG iH (M0:List ae)]).fp,(⟨(ah q).1,⟨iG,iH,M0⟩,⟨qc,qd,Q1.1⟩,⟨nL,nM,M2⟩⟩:aN)),rfl,⟨?_,Hh,Ps,Kf⟩,(j1.jc (fun _ h=>h)).as (fun hp=>?_) rfl⟩
  ·show aN.abs (⟨(ah q).1,⟨iG,iH,M0⟩,⟨qc,qd,Q1.1⟩,⟨nL,nM,M2⟩⟩:aN)=_;simp only[aN.abs,I0,Pt]
  ·exact⟨rL i4 i3 hp (fun x hx=>hx) Hh,a4 i2 (hp _ i2) Ps,jG i1 i0 hp (fun x hx=>hx) Kf⟩
 refine cZ 5 [] [] [bI (cj 141) M2,ay 118 nL nM (M2:List aa),ay 128 qc qd (Q1.1:List aG),bI (bM 3) M0,ay 115 iG iH (M0:List ae)] ai ?_ (hR:=(.cons_cons _ (.cons_cons _ (.cons _ (List.Sublist.refl _)))))
 refine cL ?_
 refine Qz ?_ call226 (fun bs w hS=>yz (ax aX i2 (al 4 Q1.2).2).2 b w (hS.res _ i0) (bp (B:=9223372036854775807) (fun q h=>gw q _ h) i2 (al 4 Q1.2).2 (bt 4 Q1.2 _ Ke))) (hR:=fun _=>(.cons _ (.cons _ (List.Sublist.refl _))))
 rintro mU EB
 refine M1 ?_ (hR:=(.cons _ (.cons _ (List.Sublist.refl _))))
 refine Mz ?_
 refine jZ ?_
 refine gX (α:=aa) 56 ([(⟨mU.ag,mU.id,mU.aC,mU.last,mU.ab⟩:aa)]) ?_
 intro S2 S3
 refine Mi ?_ (pR ((i2:Int)+1))
 refine jZ ?_
 refine cL ?_
 refine fc (bI (cj 141) (M2++[(⟨mU.ag,mU.id,mU.aC,mU.last,mU.ab⟩:aa)])) (gD (cj 141) M2 (⟨mU.ag,mU.id,mU.aC,mU.last,mU.ab⟩:aa)) (fun w=>g9 (cj 141) M2 (⟨mU.ag,mU.id,mU.aC,mU.last,mU.ab⟩:aa) w) ?_
 refine dx (dx (dx (dx (dx (dx ?_)))))
 exact o5 ⟨i2+1,S2,S3,M2++[(⟨mU.ag,mU.id,mU.aC,mU.last,mU.ab⟩:aa)]⟩ ⟨(by show i2+1≤(al 4 Q1.2).1.toNat;omega),(by rw[List.map_append,Pt];exact congrArg (fun z=>(ax aX i2 (al 4 Q1.2).2).1++[z]) (show aa.abs (⟨mU.ag,mU.id,mU.aC,mU.last,mU.ab⟩:aa)=(aX (ax aX i2 (al 4 Q1.2).2).2).1 from EB.1)),(fun x hx=>by rcases List.mem_append.1 hx with hx|hx;exact Kf x hx;rw[List.mem_singleton]at hx;subst hx;exact EB.2)⟩ (by show (al 4 Q1.2).1.toNat - (i2+1)<(al 4 Q1.2).1.toNat - i2;omega)
theorem sP (s:ByteArray)(w:World)(hs:s.size≤9223372036854775807):Calls prog 156 #[vs s] w fun e w'=> ∃y:aN,e=.returned (.tuple #[y.val,vi (bb s).2])∧y.abs=(bb s).1∧bJ w w' y:=by
 refine M0 ?_ func156
 refine Md ((5000:Int)<(s.size:Int)) (fun h1=>?_) fun h1=>?_
 ·exact eE (uu (by assumption)) ⟨0,Sl.nil,Sl.nil,Sl.nil⟩ rfl fun bs w hS=>hS.aO (y:=(⟨0,Sl.nil,Sl.nil,Sl.nil⟩:aN)) ⟨Sl.ao _ _,Sl.ao _ _,Sl.ao _ _⟩
 refine Md ((s.size:Int)<4) (fun h2=>?_) fun h2=>?_
 ·exact eE (qx (by assumption) (by assumption)) ⟨0,Sl.nil,Sl.nil,Sl.nil⟩ rfl fun bs w hS=>hS.aO (y:=(⟨0,Sl.nil,Sl.nil,Sl.nil⟩:aN)) ⟨Sl.ao _ _,Sl.ao _ _,Sl.ao _ _⟩
 have GO:(s.extract 0 ((s.size:Int) - 4).toNat).size≤9223372036854775807:=by rw[ByteArray.size_extract];omega
 refine Mi ?_ (pR ((s.size:Int) - 4))
 refine cZ 8 [] [] [] ai ?_
 refine bY ?_ (pc (pG [(21,.sl 0 ((s.size:Int) - 4).toNat)] (oc (rfl:0=0) (oc ((by omega):(s.size:Int) - 4=((((s.size:Int) - 4).toNat:Nat):Int)) (oc ((by omega):((s.size:Int) - 4).toNat≤s.size) on)))) (pG [(25,.sl ((s.size:Int) - 4).toNat s.size)] (oc ((by omega):(s.size:Int) - 4=((((s.size:Int) - 4).toNat:Nat):Int)) (oc (rfl:s.size=s.size) (oc ((by omega):((s.size:Int) - 4).toNat≤s.size) on)))))
 refine Mp ?_ call198 (fun bs w hS=>vl _ w (by first|assumption|omega|(simp only[aL];omega)))
 refine cr ((gE (s.extract 0 ((s.size:Int) - 4).toNat))=(s.extract ((s.size:Int) - 4).toNat s.size)) (fun h3=>?_) fun h3=>?_
 rotate_left
 ·exact eE (sD h1 h2 h3) ⟨0,Sl.nil,Sl.nil,Sl.nil⟩ rfl fun bs w hS=>hS.aO (y:=(⟨0,Sl.nil,Sl.nil,Sl.nil⟩:aN)) ⟨Sl.ao _ _,Sl.ao _ _,Sl.ao _ _⟩
 refine Mi ?_ (pG [(30,.sl 0 ((s.size:Int) - 4).toNat)] (oc (rfl:0=0) (oc ((by omega):(s.size:Int) - 4=((((s.size:Int) - 4).toNat:Nat):Int)) (oc ((by omega):((s.size:Int) - 4).toNat≤s.size) on))))
 refine Mon 1 ?_ call199 (fun bs w hS hb=>B9 (cU s) (bs.getD 1 0) w hb GO)
 rintro y1 a5
 refine bk (F:=aJ.ok y1.2) (fun bs w hS=>aJ.bL (hS.res _ i0)) fun ft=>?_
 refine Md ((ep (cU s)).2.2=0) (fun h4=>?_) fun h4=>?_
 rotate_left
 ·refine My false true ?_ (df h4)
  refine cZ 7 [] [0] [bF y1.1 y1.2] ai ?_
  refine Mz ?_
  exact eE (uv (q:=(cU s)) rfl rfl h1 h2 h3 h4) ⟨0,Sl.nil,Sl.nil,Sl.nil⟩ rfl fun bs w hS=>hS.aO (y:=(⟨0,Sl.nil,Sl.nil,Sl.nil⟩:aN)) ⟨Sl.ao _ _,Sl.ao _ _,Sl.ao _ _⟩
 refine cr ((ep (cU s)).2.1=emp) (fun h5=>?_) fun h5=>?_
 rotate_left
 ·refine Mq 54 true ?_ rfl
  refine cZ 7 [] [0] [bF y1.1 y1.2] ai ?_
  refine Mz ?_
  exact eE (sE (q:=(cU s)) rfl rfl h1 h2 h3 h4 h5) ⟨0,Sl.nil,Sl.nil,Sl.nil⟩ rfl fun bs w hS=>hS.aO (y:=(⟨0,Sl.nil,Sl.nil,Sl.nil⟩:aN)) ⟨Sl.ao _ _,Sl.ao _ _,Sl.ao _ _⟩
 refine My true true ?_ (dt h4)
 refine Mp ?_ call20 (fun bs w hS=>kt y1.2 w (hS.res _ i0))
 refine cr (bA y1.2.abs=0) (fun h7=>?_) fun h7=>?_
 rotate_left
 ·have hy:y1.2.abs=(ep (cU s)).1:=a5.1
  exact eE (qy (y:=y1.2.abs) (q:=(cU s)) rfl rfl h1 h2 h3 h4 h5 hy h7) ⟨0,Sl.nil,Sl.nil,Sl.nil⟩ rfl fun bs w hS=>hS.aO (y:=(⟨0,Sl.nil,Sl.nil,Sl.nil⟩:aN)) ⟨Sl.ao _ _,Sl.ao _ _,Sl.ao _ _⟩
 have hy:y1.2.abs=(ep (cU s)).1:=a5.1
 exact eE (wO (y:=y1.2.abs) (q:=(cU s)) rfl rfl h1 h2 h3 h4 h5 hy h7) y1.2 rfl fun bs w hS=>hS.aO (y:=y1.2) (aU i0 (hS.res _ i0))
set_option maxHeartbeats 1600000 in
theorem p6 (s:ByteArray)(w:World)(hs:s.size≤9223372036854775807):Calls prog 114 #[vs s] w fun e w'=> ∃y:aN,e=.returned (.tuple #[y.val,vi (bb s).2])∧y.abs=(bb s).1∧bJ w w' y:=by
 refine M0 ?_ func114
 refine Md ((5000:Int)<(s.size:Int)) (fun h1=>?_) fun h1=>?_
 ·exact eE (uu (by assumption)) ⟨0,Sl.nil,Sl.nil,Sl.nil⟩ rfl fun bs w hS=>hS.aO (y:=(⟨0,Sl.nil,Sl.nil,Sl.nil⟩:aN)) ⟨Sl.ao _ _,Sl.ao _ _,Sl.ao _ _⟩
 refine Md ((s.size:Int)<4) (fun h2=>?_) fun h2=>?_
 ·exact eE (qx (by assumption) (by assumption)) ⟨0,Sl.nil,Sl.nil,Sl.nil⟩ rfl fun bs w hS=>hS.aO (y:=(⟨0,Sl.nil,Sl.nil,Sl.nil⟩:aN)) ⟨Sl.ao _ _,Sl.ao _ _,Sl.ao _ _⟩
 have GO:(s.extract 0 ((s.size:Int) - 4).toNat).size≤9223372036854775807:=by rw[ByteArray.size_extract];omega
 refine cZ 12 [] [] [] ai ?_
 refine bY ?_ (pc (pR ((s.size:Int) - 4)) (pc (pG [(30,.sl 0 ((s.size:Int) - 4).toNat)] (oc (rfl:0=0) (oc ((by omega):(s.size:Int) - 4=((((s.size:Int) - 4).toNat:Nat):Int)) (oc ((by omega):((s.size:Int) - 4).toNat≤s.size) on)))) (pc (pR ((s.size:Int) - 4)) (pG [(36,.sl ((s.size:Int) - 4).toNat s.size)] (oc ((by omega):(s.size:Int) - 4=((((s.size:Int) - 4).toNat:Nat):Int)) (oc (rfl:s.size=s.size) (oc ((by omega):((s.size:Int) - 4).toNat≤s.size) on)))))))
 refine Mp ?_ call158 (fun bs w hS=>vm _ w (by first|assumption|omega|(simp only[aL];omega)))
 refine cr ((gE (s.extract 0 ((s.size:Int) - 4).toNat))=(s.extract ((s.size:Int) - 4).toNat s.size)) (fun h3=>?_) fun h3=>?_
 rotate_left
 ·exact eE (sD h1 h2 h3) ⟨0,Sl.nil,Sl.nil,Sl.nil⟩ rfl fun bs w hS=>hS.aO (y:=(⟨0,Sl.nil,Sl.nil,Sl.nil⟩:aN)) ⟨Sl.ao _ _,Sl.ao _ _,Sl.ao _ _⟩
 refine Mi ?_ (pc (pR ((s.size:Int) - 4)) (pG [(43,.sl 0 ((s.size:Int) - 4).toNat)] (oc (rfl:0=0) (oc ((by omega):(s.size:Int) - 4=((((s.size:Int) - 4).toNat:Nat):Int)) (oc ((by omega):((s.size:Int) - 4).toNat≤s.size) on)))))
 refine Mo 1 ?_ call159 (fun bs w hS hb=>iD (cU s) (bs.getD 1 0) w hb GO)
 rintro y _
 refine Mo 1 ?_ call160 (fun bs w hS hb=>oD (ah (cU s)).2 5 (bs.getD 1 0) w hb (aP (cU s) _ GO))
 rintro y _
 have Pr:=kq 5 (by decide) (ah (cU s)).2
 refine bU (α:=ae) 115 ?_
 refine gK (bI (bM 3) []) rfl (fun w x hx=>by cases hx) ?_
 refine Ml (σ:=Nat×Option Addr×Nat×List ae) (fun⟨i0,iG,iH,M0⟩=>i0≤(al 5 (ah (cU s)).2).1.toNat∧M0.map ae.abs=(ax bG i0 (al 5 (ah (cU s)).2).2).1∧ ∀x,x∈M0→x.name.size≤9223372036854775807) (fun⟨i0,iG,iH,M0⟩=>(al 5 (ah (cU s)).2).1.toNat - i0) (fun⟨i0,iG,iH,M0⟩=>[bI (bM 3) M0,ay 115 iG iH (M0:List ae)]) [7,6,5,4,2] (fun⟨i0,iG,iH,M0⟩=>[(7,vI (i0:Int))]) (fun⟨i0,iG,iH,M0⟩=>[(1,[vS (ax bG i0 (al 5 (ah (cU s)).2).2).2.1,vI (ax bG i0 (al 5 (ah (cU s)).2).2).2.2]),(2,[vI (ah (cU s)).1,.v (.slice iG M0.length iH),.v vn,.v vn])]) ?_ (⟨0,none,0,[]⟩) ⟨(Nat.zero_le _),rfl,(fun x hx=>by cases hx)⟩
 rintro⟨i0,iG,iH,M0⟩ ⟨Pp,I0,Hh⟩ _ bu
 have Pq:M0.length=i0:=by have h9:=congrArg List.length I0;rw[List.length_map,er]at h9;exact h9
 refine Md ((i0:Int)<(al 5 (ah (cU s)).2).1) (fun h4=>?_) fun h4=>?_
 ·refine Mo 1 ?_ call161 (fun bs w hS hb=>tD (ax bG i0 (al 5 (ah (cU s)).2).2).2 (bs.getD 1 0) w hb (bp (B:=9223372036854775807) (fun q h=>jK q _ h) i0 (al 5 (ah (cU s)).2).2 (bt 5 (ah (cU s)).2 _ (aP (cU s) _ GO))))
  rintro y _
  refine Mo 1 ?_ call159 (fun bs w hS hb=>iD (bw (ax bG i0 (al 5 (ah (cU s)).2).2).2).2 (bs.getD 1 0) w hb (cW (ax bG i0 (al 5 (ah (cU s)).2).2).2 _ (bp (B:=9223372036854775807) (fun q h=>jK q _ h) i0 (al 5 (ah (cU s)).2).2 (bt 5 (ah (cU s)).2 _ (aP (cU s) _ GO)))).1)
  rintro y _
  refine Mo 1 ?_ call159 (fun bs w hS hb=>iD (ah (bw (ax bG i0 (al 5 (ah (cU s)).2).2).2).2).2 (bs.getD 1 0) w hb (aP (bw (ax bG i0 (al 5 (ah (cU s)).2).2).2).2 _ (cW (ax bG i0 (al 5 (ah (cU s)).2).2).2 _ (bp (B:=9223372036854775807) (fun q h=>jK q _ h) i0 (al 5 (ah (cU s)).2).2 (bt 5 (ah (cU s)).2 _ (aP (cU s) _ GO)))).1))
  rintro y _
  refine Mo 1 ?_ call160 (fun bs w hS hb=>oD (ah (ah (bw (ax bG i0 (al 5 (ah (cU s)).2).2).2).2).2).2 3 (bs.getD 1 0) w hb (aP (ah (bw (ax bG i0 (al 5 (ah (cU s)).2).2).2).2).2 _ (aP (bw (ax bG i0 (al 5 (ah (cU s)).2).2).2).2 _ (cW (ax bG i0 (al 5 (ah (cU s)).2).2).2 _ (bp (B:=9223372036854775807) (fun q h=>jK q _ h) i0 (al 5 (ah (cU s)).2).2 (bt 5 (ah (cU s)).2 _ (aP (cU s) _ GO)))).1)))
  rintro y _
  have S4:=kq 3 (by decide) (ah (ah (bw (ax bG i0 (al 5 (ah (cU s)).2).2).2).2).2).2
  refine bU (α:=Int) 3 ?_
  refine Ml (σ:=Nat×Option Addr×Nat) (fun⟨i1,qc,qd⟩=>i1≤(al 3 (ah (ah (bw (ax bG i0 (al 5 (ah (cU s)).2).2).2).2).2).2).1.toNat) (fun⟨i1,qc,qd⟩=>(al 3 (ah (ah (bw (ax bG i0 (al 5 (ah (cU s)).2).2).2).2).2).2).1.toNat - i1) (fun⟨i1,qc,qd⟩=>[ay 3 qc qd ((ax ah i1 (al 3 (ah (ah (bw (ax bG i0 (al 5 (ah (cU s)).2).2).2).2).2).2).2).1:List Int),bI (bM 3) M0,ay 115 iG iH (M0:List ae)]) [10,9,8,7,6,5,4,2] (fun⟨i1,qc,qd⟩=>[(10,vI (i1:Int))]) (fun⟨i1,qc,qd⟩=>[(1,[vS (ax ah i1 (al 3 (ah (ah (bw (ax bG i0 (al 5 (ah (cU s)).2).2).2).2).2).2).2).2.1,vI (ax ah i1 (al 3 (ah (ah (bw (ax bG i0 (al 5 (ah (cU s)).2).2).2).2).2).2).2).2.2]),(3,[vS (bw (ax bG i0 (al 5 (ah (cU s)).2).2).2).1,vI (ah (bw (ax bG i0 (al 5 (ah (cU s)).2).2).2).2).1,vI (ah (ah (bw (ax bG i0 (al 5 (ah (cU s)).2).2).2).2).2).1,.v (.slice qc ((ax ah i1 (al 3 (ah (ah (bw (ax bG i0 (al 5 (ah (cU s)).2).2).2).2).2).2).2).1).length qd)])]) ?_ (⟨0,none,0⟩) (Nat.zero_le _)
  rintro⟨i1,qc,qd⟩ SW _ j8
  have SX:(ax ah i1 (al 3 (ah (ah (bw (ax bG i0 (al 5 (ah (cU s)).2).2).2).2).2).2).2).1.length=i1:=by exact er _ _ _
  refine Md ((i1:Int)<(al 3 (ah (ah (bw (ax bG i0 (al 5 (ah (cU s)).2).2).2).2).2).2).1) (fun h5=>?_) fun h5=>?_
  ·refine cZ 5 [] [1] [ay 3 qc qd ((ax ah i1 (al 3 (ah (ah (bw (ax bG i0 (al 5 (ah (cU s)).2).2).2).2).2).2).2).1:List Int),bI (bM 3) M0,ay 115 iG iH (M0:List ae)] ai ?_
   refine Mo 1 ?_ call159 (fun bs w hS hb=>iD (ax ah i1 (al 3 (ah (ah (bw (ax bG i0 (al 5 (ah (cU s)).2).2).2).2).2).2).2).2 (bs.getD 1 0) w hb (bp (B:=9223372036854775807) (fun q h=>aP q _ h) i1 (al 3 (ah (ah (bw (ax bG i0 (al 5 (ah (cU s)).2).2).2).2).2).2).2 (bt 3 (ah (ah (bw (ax bG i0 (al 5 (ah (cU s)).2).2).2).2).2).2 _ (aP (ah (bw (ax bG i0 (al 5 (ah (cU s)).2).2).2).2).2 _ (aP (bw (ax bG i0 (al 5 (ah (cU s)).2).2).2).2 _ (cW (ax bG i0 (al 5 (ah (cU s)).2).2).2 _ (bp (B:=9223372036854775807) (fun q h=>jK q _ h) i0 (al 5 (ah (cU s)).2).2 (bt 5 (ah (cU s)).2 _ (aP (cU s) _ GO)))).1)))))
   rintro y _
   refine M1 ?_
   refine Mz ?_
   refine gX (α:=Int) 8 ([(ah (ax ah i1 (al 3 (ah (ah (bw (ax bG i0 (al 5 (ah (cU s)).2).2).2).2).2).2).2).2).1]) ?_
   intro NY NZ
   refine Mi ?_ (pR ((i1:Int)+1))
   refine cL (cL (cL ?_))
   exact j8 ⟨i1+1,NY,NZ⟩ (by show i1+1≤(al 3 (ah (ah (bw (ax bG i0 (al 5 (ah (cU s)).2).2).2).2).2).2).1.toNat;omega) (by show (al 3 (ah (ah (bw (ax bG i0 (al 5 (ah (cU s)).2).2).2).2).2).2).1.toNat - (i1+1)<(al 3 (ah (ah (bw (ax bG i0 (al 5 (ah (cU s)).2).2).2).2).2).2).1.toNat - i1;omega)
  have GM:i1=(al 3 (ah (ah (bw (ax bG i0 (al 5 (ah (cU s)).2).2).2).2).2).2).1.toNat:=by omega
  subst GM
  refine M1 ?_
  refine cL ?_
  refine gX (α:=ae) 56 ([(⟨(bw (ax bG i0 (al 5 (ah (cU s)).2).2).2).1,(ah (bw (ax bG i0 (al 5 (ah (cU s)).2).2).2).2).1,(ah (ah (bw (ax bG i0 (al 5 (ah (cU s)).2).2).2).2).2).1,⟨qc,qd,(ax ah (al 3 (ah (ah (bw (ax bG i0 (al 5 (ah (cU s)).2).2).2).2).2).2).1.toNat (al 3 (ah (ah (bw (ax bG i0 (al 5 (ah (cU s)).2).2).2).2).2).2).2).1⟩⟩:ae)]) ?_
  intro EZ E0
  refine Mi ?_ (pR ((i0:Int)+1))
  refine cL ?_
  refine cL ?_
  refine fc (bI (bM 3) (M0++[(⟨(bw (ax bG i0 (al 5 (ah (cU s)).2).2).2).1,(ah (bw (ax bG i0 (al 5 (ah (cU s)).2).2).2).2).1,(ah (ah (bw (ax bG i0 (al 5 (ah (cU s)).2).2).2).2).2).1,⟨qc,qd,(ax ah (al 3 (ah (ah (bw (ax bG i0 (al 5 (ah (cU s)).2).2).2).2).2).2).1.toNat (al 3 (ah (ah (bw (ax bG i0 (al 5 (ah (cU s)).2).2).2).2).2).2).2).1⟩⟩:ae)])) (gD (bM 3) M0 (⟨(bw (ax bG i0 (al 5 (ah (cU s)).2).2).2).1,(ah (bw (ax bG i0 (al 5 (ah (cU s)).2).2).2).2).1,(ah (ah (bw (ax bG i0 (al 5 (ah (cU s)).2).2).2).2).2).1,⟨qc,qd,(ax ah (al 3 (ah (ah (bw (ax bG i0 (al 5 (ah (cU s)).2).2).2).2).2).2).1.toNat (al 3 (ah (ah (bw (ax bG i0 (al 5 (ah (cU s)).2).2).2).2).2).2).2).1⟩⟩:ae)) (fun w=>g9 (bM 3) M0 (⟨(bw (ax bG i0 (al 5 (ah (cU s)).2).2).2).1,(ah (bw (ax bG i0 (al 5 (ah (cU s)).2).2).2).2).1,(ah (ah (bw (ax bG i0 (al 5 (ah (cU s)).2).2).2).2).2).1,⟨qc,qd,(ax ah (al 3 (ah (ah (bw (ax bG i0 (al 5 (ah (cU s)).2).2).2).2).2).2).1.toNat (al 3 (ah (ah (bw (ax bG i0 (al 5 (ah (cU s)).2).2).2).2).2).2).2).1⟩⟩:ae) w) ?_
  refine cd (cd ?_)
  exact bu ⟨i0+1,EZ,E0,M0++[(⟨(bw (ax bG i0 (al 5 (ah (cU s)).2).2).2).1,(ah (bw (ax bG i0 (al 5 (ah (cU s)).2).2).2).2).1,(ah (ah (bw (ax bG i0 (al 5 (ah (cU s)).2).2).2).2).2).1,⟨qc,qd,(ax ah (al 3 (ah (ah (bw (ax bG i0 (al 5 (ah (cU s)).2).2).2).2).2).2).1.toNat (al 3 (ah (ah (bw (ax bG i0 (al 5 (ah (cU s)).2).2).2).2).2).2).2).1⟩⟩:ae)]⟩ ⟨(by show i0+1≤(al 5 (ah (cU s)).2).1.toNat;omega),(by rw[List.map_append,I0];exact congrArg (fun z=>(ax bG i0 (al 5 (ah (cU s)).2).2).1++[z]) (show ae.abs (⟨(bw (ax bG i0 (al 5 (ah (cU s)).2).2).2).1,(ah (bw (ax bG i0 (al 5 (ah (cU s)).2).2).2).2).1,(ah (ah (bw (ax bG i0 (al 5 (ah (cU s)).2).2).2).2).2).1,⟨qc,qd,(ax ah (al 3 (ah (ah (bw (ax bG i0 (al 5 (ah (cU s)).2).2).2).2).2).2).1.toNat (al 3 (ah (ah (bw (ax bG i0 (al 5 (ah (cU s)).2).2).2).2).2).2).2).1⟩⟩:ae)=(bG (ax bG i0 (al 5 (ah (cU s)).2).2).2).1 from rfl)),(fun x hx=>by rcases List.mem_append.1 hx with hx|hx;exact Hh x hx;rw[List.mem_singleton]at hx;subst hx;exact (cW (ax bG i0 (al 5 (ah (cU s)).2).2).2 _ (bp (B:=9223372036854775807) (fun q h=>jK q _ h) i0 (al 5 (ah (cU s)).2).2 (bt 5 (ah (cU s)).2 _ (aP (cU s) _ GO)))).2)⟩ (by show (al 5 (ah (cU s)).2).1.toNat - (i0+1)<(al 5 (ah (cU s)).2).1.toNat - i0;omega)
 have vr:i0=(al 5 (ah (cU s)).2).1.toNat:=by omega
 subst vr
 have pZ:=(bp (B:=9223372036854775807) (fun q h=>jK q _ h) (al 5 (ah (cU s)).2).1.toNat (al 5 (ah (cU s)).2).2 (bt 5 (ah (cU s)).2 _ (aP (cU s) _ GO)))
 try dsimp only
 generalize KM:(ax bG (al 5 (ah (cU s)).2).1.toNat (al 5 (ah (cU s)).2).2)=Q0 at*
 refine Mo 1 ?_ call160 (fun bs w hS hb=>oD Q0.2 5 (bs.getD 1 0) w hb pZ)
 rintro y _
 have M7:=kq 5 (by decide) Q0.2
 refine bU (α:=aG) 128 ?_
 refine Ml (σ:=Nat×Option Addr×Nat) (fun⟨i2,nL,nM⟩=>i2≤(al 5 Q0.2).1.toNat∧ ∀x,x∈(ax dz i2 (al 5 Q0.2).2).1→x.name.size≤9223372036854775807∧x.value.size≤9223372036854775807) (fun⟨i2,nL,nM⟩=>(al 5 Q0.2).1.toNat - i2) (fun⟨i2,nL,nM⟩=>[ay 128 nL nM ((ax dz i2 (al 5 Q0.2).2).1:List aG),bI (bM 3) M0,ay 115 iG iH (M0:List ae)]) [11,6,5,4,2] (fun⟨i2,nL,nM⟩=>[(11,vI (i2:Int))]) (fun⟨i2,nL,nM⟩=>[(1,[vS (ax dz i2 (al 5 Q0.2).2).2.1,vI (ax dz i2 (al 5 Q0.2).2).2.2]),(2,[vI (ah (cU s)).1,.v (.slice iG M0.length iH),.v (.slice nL ((ax dz i2 (al 5 Q0.2).2).1).length nM),.v vn])]) ?_ (⟨0,none,0⟩) ⟨(Nat.zero_le _),(fun x hx=>by cases hx)⟩
 rintro⟨i2,nL,nM⟩ ⟨SZ,Kf⟩ _ o5
 have S0:(ax dz i2 (al 5 Q0.2).2).1.length=i2:=by exact er _ _ _
 refine Md ((i2:Int)<(al 5 Q0.2).1) (fun h6=>?_) fun h6=>?_
 ·refine Mo 1 ?_ call161 (fun bs w hS hb=>tD (ax dz i2 (al 5 Q0.2).2).2 (bs.getD 1 0) w hb (bp (B:=9223372036854775807) (fun q h=>gO q _ h) i2 (al 5 Q0.2).2 (bt 5 Q0.2 _ pZ)))
  rintro y _
  refine Mo 1 ?_ call161 (fun bs w hS hb=>tD (bw (ax dz i2 (al 5 Q0.2).2).2).2 (bs.getD 1 0) w hb (cW (ax dz i2 (al 5 Q0.2).2).2 _ (bp (B:=9223372036854775807) (fun q h=>gO q _ h) i2 (al 5 Q0.2).2 (bt 5 Q0.2 _ pZ))).1)
  rintro y _
  refine Mo 1 ?_ call159 (fun bs w hS hb=>iD (bw (bw (ax dz i2 (al 5 Q0.2).2).2).2).2 (bs.getD 1 0) w hb (cW (bw (ax dz i2 (al 5 Q0.2).2).2).2 _ (cW (ax dz i2 (al 5 Q0.2).2).2 _ (bp (B:=9223372036854775807) (fun q h=>gO q _ h) i2 (al 5 Q0.2).2 (bt 5 Q0.2 _ pZ))).1).1)
  rintro y _
  refine M1 ?_
  refine gX (α:=aG) 40 ([(⟨(bw (ax dz i2 (al 5 Q0.2).2).2).1,(bw (bw (ax dz i2 (al 5 Q0.2).2).2).2).1,(ah (bw (bw (ax dz i2 (al 5 Q0.2).2).2).2).2).1⟩:aG)]) ?_
  intro S5 S6
  refine Mi ?_ (pR ((i2:Int)+1))
  refine cL (cL (cL ?_))
  exact o5 ⟨i2+1,S5,S6⟩ ⟨(by show i2+1≤(al 5 Q0.2).1.toNat;omega),(fun x hx=>by rcases List.mem_append.1 hx with hx|hx;exact Kf x hx;rw[List.mem_singleton]at hx;subst hx;exact⟨(cW (ax dz i2 (al 5 Q0.2).2).2 _ (bp (B:=9223372036854775807) (fun q h=>gO q _ h) i2 (al 5 Q0.2).2 (bt 5 Q0.2 _ pZ))).2,(cW (bw (ax dz i2 (al 5 Q0.2).2).2).2 _ (cW (ax dz i2 (al 5 Q0.2).2).2 _ (bp (B:=9223372036854775807) (fun q h=>gO q _ h) i2 (al 5 Q0.2).2 (bt 5 Q0.2 _ pZ))).1).2⟩)⟩ (by show (al 5 Q0.2).1.toNat - (i2+1)<(al 5 Q0.2).1.toNat - i2;omega)
 have GN:i2=(al 5 Q0.2).1.toNat:=by omega
 subst GN
 have sn:=(bp (B:=9223372036854775807) (fun q h=>gO q _ h) (al 5 Q0.2).1.toNat (al 5 Q0.2).2 (bt 5 Q0.2 _ pZ))
 try dsimp only
 generalize KN:(ax dz (al 5 Q0.2).1.toNat (al 5 Q0.2).2)=Q2 at*
 refine Mo 1 ?_ call160 (fun bs w hS hb=>oD Q2.2 4 (bs.getD 1 0) w hb sn)
 rintro y _
 have Rc:=kq 4 (by decide) Q2.2
 refine bU (α:=aa) 118 ?_
 refine gK (bI (cj 141) []) rfl (fun w x hx=>by cases hx) ?_
 refine Ml (σ:=Nat×Option Addr×Nat×List aa) (fun⟨i3,v7,v8,M3⟩=>i3≤(al 4 Q2.2).1.toNat∧M3.map aa.abs=(ax aX i3 (al 4 Q2.2).2).1∧ ∀x,x∈M3→ ∀k,k∈x.ab.xs→k.aE.text.size≤9223372036854775807) (fun⟨i3,v7,v8,M3⟩=>(al 4 Q2.2).1.toNat - i3) (fun⟨i3,v7,v8,M3⟩=>[bI (cj 141) M3,ay 118 v7 v8 (M3:List aa),ay 128 nL nM (Q2.1:List aG),bI (bM 3) M0,ay 115 iG iH (M0:List ae)]) [13,6,5,4,2] (fun⟨i3,v7,v8,M3⟩=>[(13,vI (i3:Int))]) (fun⟨i3,v7,v8,M3⟩=>[(1,[vS (ax aX i3 (al 4 Q2.2).2).2.1,vI (ax aX i3 (al 4 Q2.2).2).2.2]),(2,[vI (ah (cU s)).1,.v (.slice iG M0.length iH),.v (.slice nL (Q2.1).length nM),.v (.slice v7 M3.length v8)])]) ?_ (⟨0,none,0,[]⟩) ⟨(Nat.zero_le _),rfl,(fun x hx=>by cases hx)⟩
 rintro⟨i3,v7,v8,M3⟩ ⟨TM,N0,Pu⟩ _ sJ
 have TN:M3.length=i3:=by have h9:=congrArg List.length N0;rw[List.length_map,er]at h9;exact h9
 refine Md ((i3:Int)<(al 4 Q2.2).1) (fun h7=>?_) fun h7=>?_
 rotate_left
 ·have M8:i3=(al 4 Q2.2).1.toNat:=by omega
  subst M8
  have S7:=(bp (B:=9223372036854775807) (fun q h=>gw q _ h) (al 4 Q2.2).1.toNat (al 4 Q2.2).2 (bt 4 Q2.2 _ sn))
  try dsimp only
  generalize N1:(ax aX (al 4 Q2.2).1.toNat (al 4 Q2.2).2)=Q3 at*
  refine Md (Q3.2.2=0) (fun h9=>?_) fun h9=>?_
  rotate_left
  ·refine My false false ?_ (df h9)
   refine My false true ?_ (df h9)
   refine cZ 7 [] [0] [bI (cj 141) M3,ay 118 v7 v8 (M3:List aa),ay 128 nL nM (Q2.1:List aG),bI (bM 3) M0,ay 115 iG iH (M0:List ae)] ai ?_
   refine Mz ?_
   have hR:=mN KM KN N1
   exact eE (uv (q:=(cU s)) rfl hR h1 h2 h3 h9) ⟨0,Sl.nil,Sl.nil,Sl.nil⟩ rfl fun bs w hS=>hS.aO (y:=(⟨0,Sl.nil,Sl.nil,Sl.nil⟩:aN)) ⟨Sl.ao _ _,Sl.ao _ _,Sl.ao _ _⟩
  refine cr (Q3.2.1=emp) (fun ir=>?_) fun ir=>?_
  rotate_left
  ·refine Mq 184 false ?_ rfl
   refine Mq 194 true ?_ rfl
   refine cZ 7 [] [0] [bI (cj 141) M3,ay 118 v7 v8 (M3:List aa),ay 128 nL nM (Q2.1:List aG),bI (bM 3) M0,ay 115 iG iH (M0:List ae)] ai ?_
   refine Mz ?_
   have hR:=mN KM KN N1
   exact eE (sE (q:=(cU s)) rfl hR h1 h2 h3 h9 ir) ⟨0,Sl.nil,Sl.nil,Sl.nil⟩ rfl fun bs w hS=>hS.aO (y:=(⟨0,Sl.nil,Sl.nil,Sl.nil⟩:aN)) ⟨Sl.ao _ _,Sl.ao _ _,Sl.ao _ _⟩
  refine My true false ?_ (dt h9)
  refine Mp ?_ call30 (fun bs w hS=>jR (⟨(ah (cU s)).1,⟨iG,iH,M0⟩,⟨nL,nM,Q2.1⟩,⟨v7,v8,M3⟩⟩:aN) w ⟨rL i4 i3 hS.res (fun x hx=>hx) Hh,a4 i2 (hS.res _ i2) Kf,jG i1 i0 hS.res (fun x hx=>hx) Pu⟩)
  refine cr (bA (aN.abs (⟨(ah (cU s)).1,⟨iG,iH,M0⟩,⟨nL,nM,Q2.1⟩,⟨v7,v8,M3⟩⟩:aN))=0) (fun jW=>?_) fun jW=>?_
  rotate_left
  ·refine cZ 7 [] [0] [bI (cj 141) M3,ay 118 v7 v8 (M3:List aa),ay 128 nL nM (Q2.1:List aG),bI (bM 3) M0,ay 115 iG iH (M0:List ae)] ai ?_
   refine Mz ?_
   have hR:=mN KM KN N1
   have hy:(aN.abs (⟨(ah (cU s)).1,⟨iG,iH,M0⟩,⟨nL,nM,Q2.1⟩,⟨v7,v8,M3⟩⟩:aN))=(⟨(ah (cU s)).1,Q0.1,Q2.1,Q3.1⟩:aZ):=by show aN.abs (⟨(ah (cU s)).1,⟨iG,iH,M0⟩,⟨nL,nM,Q2.1⟩,⟨v7,v8,M3⟩⟩:aN)=_;simp only[aN.abs,I0,N0]
   exact eE (qy (y:=(aN.abs (⟨(ah (cU s)).1,⟨iG,iH,M0⟩,⟨nL,nM,Q2.1⟩,⟨v7,v8,M3⟩⟩:aN))) (q:=(cU s)) rfl hR h1 h2 h3 h9 ir hy jW) ⟨0,Sl.nil,Sl.nil,Sl.nil⟩ rfl fun bs w hS=>hS.aO (y:=(⟨0,Sl.nil,Sl.nil,Sl.nil⟩:aN)) ⟨Sl.ao _ _,Sl.ao _ _,Sl.ao _ _⟩
  have hR:=mN KM KN N1
  have hy:(aN.abs (⟨(ah (cU s)).1,⟨iG,iH,M0⟩,⟨nL,nM,Q2.1⟩,⟨v7,v8,M3⟩⟩:aN))=(⟨(ah (cU s)).1,Q0.1,Q2.1,Q3.1⟩:aZ):=by show aN.abs (⟨(ah (cU s)).1,⟨iG,iH,M0⟩,⟨nL,nM,Q2.1⟩,⟨v7,v8,M3⟩⟩:aN)=_;simp only[aN.abs,I0,N0]
  exact eE (wO (y:=(aN.abs (⟨(ah (cU s)).1,⟨iG,iH,M0⟩,⟨nL,nM,Q2.1⟩,⟨v7,v8,M3⟩⟩:aN))) (q:=(cU s)) rfl hR h1 h2 h3 h9 ir hy jW) (⟨(ah (cU s)).1,⟨iG,iH,M0⟩,⟨nL,nM,Q2.1⟩,⟨v7,v8,M3⟩⟩:aN) rfl fun bs w hS=>hS.aO (y:=(⟨(ah (cU s)).1,⟨iG,iH,M0⟩,⟨nL,nM,Q2.1⟩,⟨v7,v8,M3⟩⟩:aN)) ⟨rL i4 i3 hS.res (fun x hx=>hx) Hh,a4 i2 (hS.res _ i2) Kf,jG i1 i0 hS.res (fun x hx=>hx) Pu⟩
 refine Mo 1 ?_ call159 (fun bs w hS hb=>iD (ax aX i3 (al 4 Q2.2).2).2 (bs.getD 1 0) w hb (bp (B:=9223372036854775807) (fun q h=>gw q _ h) i3 (al 4 Q2.2).2 (bt 4 Q2.2 _ sn)))
 rintro y _
 refine Mo 1 ?_ call159 (fun bs w hS hb=>iD (ah (ax aX i3 (al 4 Q2.2).2).2).2 (bs.getD 1 0) w hb (aP (ax aX i3 (al 4 Q2.2).2).2 _ (bp (B:=9223372036854775807) (fun q h=>gw q _ h) i3 (al 4 Q2.2).2 (bt 4 Q2.2 _ sn))))
 rintro y _
 refine Mo 1 ?_ call159 (fun bs w hS hb=>iD (ah (ah (ax aX i3 (al 4 Q2.2).2).2).2).2 (bs.getD 1 0) w hb (aP (ah (ax aX i3 (al 4 Q2.2).2).2).2 _ (aP (ax aX i3 (al 4 Q2.2).2).2 _ (bp (B:=9223372036854775807) (fun q h=>gw q _ h) i3 (al 4 Q2.2).2 (bt 4 Q2.2 _ sn)))))
 rintro y _
 refine Mo 1 ?_ call159 (fun bs w hS hb=>iD (ah (ah (ah (ax aX i3 (al 4 Q2.2).2).2).2).2).2 (bs.getD 1 0) w hb (aP (ah (ah (ax aX i3 (al 4 Q2.2).2).2).2).2 _ (aP (ah (ax aX i3 (al 4 Q2.2).2).2).2 _ (aP (ax aX i3 (al 4 Q2.2).2).2 _ (bp (B:=9223372036854775807) (fun q h=>gw q _ h) i3 (al 4 Q2.2).2 (bt 4 Q2.2 _ sn))))))
 rintro y _
 refine Mo 1 ?_ call160 (fun bs w hS hb=>oD (ah (ah (ah (ah (ax aX i3 (al 4 Q2.2).2).2).2).2).2).2 4 (bs.getD 1 0) w hb (aP (ah (ah (ah (ax aX i3 (al 4 Q2.2).2).2).2).2).2 _ (aP (ah (ah (ax aX i3 (al 4 Q2.2).2).2).2).2 _ (aP (ah (ax aX i3 (al 4 Q2.2).2).2).2 _ (aP (ax aX i3 (al 4 Q2.2).2).2 _ (bp (B:=9223372036854775807) (fun q h=>gw q _ h) i3 (al 4 Q2.2).2 (bt 4 Q2.2 _ sn)))))))
 rintro y _
 have Rd:=kq 4 (by decide) (ah (ah (ah (ah (ax aX i3 (al 4 Q2.2).2).2).2).2).2).2
 refine bU (α:=aK) 141 ?_
 refine Ml (σ:=Nat×Option Addr×Nat) (fun⟨i4,EC,ED⟩=>i4≤(al 4 (ah (ah (ah (ah (ax aX i3 (al 4 Q2.2).2).2).2).2).2).2).1.toNat∧ ∀x,x∈(ax cb i4 (al 4 (ah (ah (ah (ah (ax aX i3 (al 4 Q2.2).2).2).2).2).2).2).2).1→x.aE.text.size≤9223372036854775807) (fun⟨i4,EC,ED⟩=>(al 4 (ah (ah (ah (ah (ax aX i3 (al 4 Q2.2).2).2).2).2).2).2).1.toNat - i4) (fun⟨i4,EC,ED⟩=>[ay 141 EC ED ((ax cb i4 (al 4 (ah (ah (ah (ah (ax aX i3 (al 4 Q2.2).2).2).2).2).2).2).2).1:List aK),bI (cj 141) M3,ay 118 v7 v8 (M3:List aa),ay 128 nL nM (Q2.1:List aG),bI (bM 3) M0,ay 115 iG iH (M0:List ae)]) [16,15,14,13,6,5,4,2] (fun⟨i4,EC,ED⟩=>[(16,vI (i4:Int))]) (fun⟨i4,EC,ED⟩=>[(1,[vS (ax cb i4 (al 4 (ah (ah (ah (ah (ax aX i3 (al 4 Q2.2).2).2).2).2).2).2).2).2.1,vI (ax cb i4 (al 4 (ah (ah (ah (ah (ax aX i3 (al 4 Q2.2).2).2).2).2).2).2).2).2.2]),(3,[vI (ah (ax aX i3 (al 4 Q2.2).2).2).1,vI (ah (ah (ax aX i3 (al 4 Q2.2).2).2).2).1,vI (ah (ah (ah (ax aX i3 (al 4 Q2.2).2).2).2).2).1,vI (ah (ah (ah (ah (ax aX i3 (al 4 Q2.2).2).2).2).2).2).1,.v (.slice EC ((ax cb i4 (al 4 (ah (ah (ah (ah (ax aX i3 (al 4 Q2.2).2).2).2).2).2).2).2).1).length ED)])]) ?_ (⟨0,none,0⟩) ⟨(Nat.zero_le _),(fun x hx=>by cases hx)⟩
 rintro⟨i4,EC,ED⟩ ⟨TO,Re⟩ _ Hc
 have TP:(ax cb i4 (al 4 (ah (ah (ah (ah (ax aX i3 (al 4 Q2.2).2).2).2).2).2).2).2).1.length=i4:=by exact er _ _ _
 refine Md ((i4:Int)<(al 4 (ah (ah (ah (ah (ax aX i3 (al 4 Q2.2).2).2).2).2).2).2).1) (fun h8=>?_) fun h8=>?_
 rotate_left
 ·have M9:i4=(al 4 (ah (ah (ah (ah (ax aX i3 (al 4 Q2.2).2).2).2).2).2).2).1.toNat:=by omega
  subst M9
  refine M1 ?_
  refine cL ?_
  refine gX (α:=aa) 56 ([(⟨(ah (ax aX i3 (al 4 Q2.2).2).2).1,(ah (ah (ax aX i3 (al 4 Q2.2).2).2).2).1,(ah (ah (ah (ax aX i3 (al 4 Q2.2).2).2).2).2).1,(ah (ah (ah (ah (ax aX i3 (al 4 Q2.2).2).2).2).2).2).1,⟨EC,ED,(ax cb (al 4 (ah (ah (ah (ah (ax aX i3 (al 4 Q2.2).2).2).2).2).2).2).1.toNat (al 4 (ah (ah (ah (ah (ax aX i3 (al 4 Q2.2).2).2).2).2).2).2).2).1⟩⟩:aa)]) ?_
  intro S8 S9
  refine Mi ?_ (pR ((i3:Int)+1))
  refine cL ?_
  refine cL ?_
  refine fc (bI (cj 141) (M3++[(⟨(ah (ax aX i3 (al 4 Q2.2).2).2).1,(ah (ah (ax aX i3 (al 4 Q2.2).2).2).2).1,(ah (ah (ah (ax aX i3 (al 4 Q2.2).2).2).2).2).1,(ah (ah (ah (ah (ax aX i3 (al 4 Q2.2).2).2).2).2).2).1,⟨EC,ED,(ax cb (al 4 (ah (ah (ah (ah (ax aX i3 (al 4 Q2.2).2).2).2).2).2).2).1.toNat (al 4 (ah (ah (ah (ah (ax aX i3 (al 4 Q2.2).2).2).2).2).2).2).2).1⟩⟩:aa)])) (gD (cj 141) M3 (⟨(ah (ax aX i3 (al 4 Q2.2).2).2).1,(ah (ah (ax aX i3 (al 4 Q2.2).2).2).2).1,(ah (ah (ah (ax aX i3 (al 4 Q2.2).2).2).2).2).1,(ah (ah (ah (ah (ax aX i3 (al 4 Q2.2).2).2).2).2).2).1,⟨EC,ED,(ax cb (al 4 (ah (ah (ah (ah (ax aX i3 (al 4 Q2.2).2).2).2).2).2).2).1.toNat (al 4 (ah (ah (ah (ah (ax aX i3 (al 4 Q2.2).2).2).2).2).2).2).2).1⟩⟩:aa)) (fun w=>g9 (cj 141) M3 (⟨(ah (ax aX i3 (al 4 Q2.2).2).2).1,(ah (ah (ax aX i3 (al 4 Q2.2).2).2).2).1,(ah (ah (ah (ax aX i3 (al 4 Q2.2).2).2).2).2).1,(ah (ah (ah (ah (ax aX i3 (al 4 Q2.2).2).2).2).2).2).1,⟨EC,ED,(ax cb (al 4 (ah (ah (ah (ah (ax aX i3 (al 4 Q2.2).2).2).2).2).2).2).1.toNat (al 4 (ah (ah (ah (ah (ax aX i3 (al 4 Q2.2).2).2).2).2).2).2).2).1⟩⟩:aa) w) ?_
  refine x4 (x4 (x4 (x4 (x4 ?_))))
  exact sJ ⟨i3+1,S8,S9,M3++[(⟨(ah (ax aX i3 (al 4 Q2.2).2).2).1,(ah (ah (ax aX i3 (al 4 Q2.2).2).2).2).1,(ah (ah (ah (ax aX i3 (al 4 Q2.2).2).2).2).2).1,(ah (ah (ah (ah (ax aX i3 (al 4 Q2.2).2).2).2).2).2).1,⟨EC,ED,(ax cb (al 4 (ah (ah (ah (ah (ax aX i3 (al 4 Q2.2).2).2).2).2).2).2).1.toNat (al 4 (ah (ah (ah (ah (ax aX i3 (al 4 Q2.2).2).2).2).2).2).2).2).1⟩⟩:aa)]⟩ ⟨(by show i3+1≤(al 4 Q2.2).1.toNat;omega),(by rw[List.map_append,N0];exact congrArg (fun z=>(ax aX i3 (al 4 Q2.2).2).1++[z]) (show aa.abs (⟨(ah (ax aX i3 (al 4 Q2.2).2).2).1,(ah (ah (ax aX i3 (al 4 Q2.2).2).2).2).1,(ah (ah (ah (ax aX i3 (al 4 Q2.2).2).2).2).2).1,(ah (ah (ah (ah (ax aX i3 (al 4 Q2.2).2).2).2).2).2).1,⟨EC,ED,(ax cb (al 4 (ah (ah (ah (ah (ax aX i3 (al 4 Q2.2).2).2).2).2).2).2).1.toNat (al 4 (ah (ah (ah (ah (ax aX i3 (al 4 Q2.2).2).2).2).2).2).2).2).1⟩⟩:aa)=(aX (ax aX i3 (al 4 Q2.2).2).2).1 from rfl)),(fun x hx=>by rcases List.mem_append.1 hx with hx|hx;exact Pu x hx;rw[List.mem_singleton]at hx;subst hx;exact Re)⟩ (by show (al 4 Q2.2).1.toNat - (i3+1)<(al 4 Q2.2).1.toNat - i3;omega)
 refine Mo 1 ?_ call159 (fun bs w hS hb=>iD (ax cb i4 (al 4 (ah (ah (ah (ah (ax aX i3 (al 4 Q2.2).2).2).2).2).2).2).2).2 (bs.getD 1 0) w hb (bp (B:=9223372036854775807) (fun q h=>hZ q _ h) i4 (al 4 (ah (ah (ah (ah (ax aX i3 (al 4 Q2.2).2).2).2).2).2).2).2 (bt 4 (ah (ah (ah (ah (ax aX i3 (al 4 Q2.2).2).2).2).2).2).2 _ (aP (ah (ah (ah (ax aX i3 (al 4 Q2.2).2).2).2).2).2 _ (aP (ah (ah (ax aX i3 (al 4 Q2.2).2).2).2).2 _ (aP (ah (ax aX i3 (al 4 Q2.2).2).2).2 _ (aP (ax aX i3 (al 4 Q2.2).2).2 _ (bp (B:=9223372036854775807) (fun q h=>gw q _ h) i3 (al 4 Q2.2).2 (bt 4 Q2.2 _ sn)))))))))
 rintro y _
 refine Mo 1 ?_ call159 (fun bs w hS hb=>iD (ah (ax cb i4 (al 4 (ah (ah (ah (ah (ax aX i3 (al 4 Q2.2).2).2).2).2).2).2).2).2).2 (bs.getD 1 0) w hb (aP (ax cb i4 (al 4 (ah (ah (ah (ah (ax aX i3 (al 4 Q2.2).2).2).2).2).2).2).2).2 _ (bp (B:=9223372036854775807) (fun q h=>hZ q _ h) i4 (al 4 (ah (ah (ah (ah (ax aX i3 (al 4 Q2.2).2).2).2).2).2).2).2 (bt 4 (ah (ah (ah (ah (ax aX i3 (al 4 Q2.2).2).2).2).2).2).2 _ (aP (ah (ah (ah (ax aX i3 (al 4 Q2.2).2).2).2).2).2 _ (aP (ah (ah (ax aX i3 (al 4 Q2.2).2).2).2).2 _ (aP (ah (ax aX i3 (al 4 Q2.2).2).2).2 _ (aP (ax aX i3 (al 4 Q2.2).2).2 _ (bp (B:=9223372036854775807) (fun q h=>gw q _ h) i3 (al 4 Q2.2).2 (bt 4 Q2.2 _ sn))))))))))
 rintro y _
 refine Mo 1 ?_ call159 (fun bs w hS hb=>iD (ah (ah (ax cb i4 (al 4 (ah (ah (ah (ah (ax aX i3 (al 4 Q2.2).2).2).2).2).2).2).2).2).2).2 (bs.getD 1 0) w hb (aP (ah (ax cb i4 (al 4 (ah (ah (ah (ah (ax aX i3 (al 4 Q2.2).2).2).2).2).2).2).2).2).2 _ (aP (ax cb i4 (al 4 (ah (ah (ah (ah (ax aX i3 (al 4 Q2.2).2).2).2).2).2).2).2).2 _ (bp (B:=9223372036854775807) (fun q h=>hZ q _ h) i4 (al 4 (ah (ah (ah (ah (ax aX i3 (al 4 Q2.2).2).2).2).2).2).2).2 (bt 4 (ah (ah (ah (ah (ax aX i3 (al 4 Q2.2).2).2).2).2).2).2 _ (aP (ah (ah (ah (ax aX i3 (al 4 Q2.2).2).2).2).2).2 _ (aP (ah (ah (ax aX i3 (al 4 Q2.2).2).2).2).2 _ (aP (ah (ax aX i3 (al 4 Q2.2).2).2).2 _ (aP (ax aX i3 (al 4 Q2.2).2).2 _ (bp (B:=9223372036854775807) (fun q h=>gw q _ h) i3 (al 4 Q2.2).2 (bt 4 Q2.2 _ sn)))))))))))
 rintro y _
 refine Mo 1 ?_ call161 (fun bs w hS hb=>tD (ah (ah (ah (ax cb i4 (al 4 (ah (ah (ah (ah (ax aX i3 (al 4 Q2.2).2).2).2).2).2).2).2).2).2).2).2 (bs.getD 1 0) w hb (aP (ah (ah (ax cb i4 (al 4 (ah (ah (ah (ah (ax aX i3 (al 4 Q2.2).2).2).2).2).2).2).2).2).2).2 _ (aP (ah (ax cb i4 (al 4 (ah (ah (ah (ah (ax aX i3 (al 4 Q2.2).2).2).2).2).2).2).2).2).2 _ (aP (ax cb i4 (al 4 (ah (ah (ah (ah (ax aX i3 (al 4 Q2.2).2).2).2).2).2).2).2).2 _ (bp (B:=9223372036854775807) (fun q h=>hZ q _ h) i4 (al 4 (ah (ah (ah (ah (ax aX i3 (al 4 Q2.2).2).2).2).2).2).2).2 (bt 4 (ah (ah (ah (ah (ax aX i3 (al 4 Q2.2).2).2).2).2).2).2 _ (aP (ah (ah (ah (ax aX i3 (al 4 Q2.2).2).2).2).2).2 _ (aP (ah (ah (ax aX i3 (al 4 Q2.2).2).2).2).2 _ (aP (ah (ax aX i3 (al 4 Q2.2).2).2).2 _ (aP (ax aX i3 (al 4 Q2.2).2).2 _ (bp (B:=9223372036854775807) (fun q h=>gw q _ h) i3 (al 4 Q2.2).2 (bt 4 Q2.2 _ sn))))))))))))
 rintro y _
 refine M1 ?_
 refine gX (α:=aK) 40 ([(⟨(ah (ax cb i4 (al 4 (ah (ah (ah (ah (ax aX i3 (al 4 Q2.2).2).2).2).2).2).2).2).2).1,⟨(ah (ah (ax cb i4 (al 4 (ah (ah (ah (ah (ax aX i3 (al 4 Q2.2).2).2).2).2).2).2).2).2).2).1,(ah (ah (ah (ax cb i4 (al 4 (ah (ah (ah (ah (ax aX i3 (al 4 Q2.2).2).2).2).2).2).2).2).2).2).2).1,(bw (ah (ah (ah (ax cb i4 (al 4 (ah (ah (ah (ah (ax aX i3 (al 4 Q2.2).2).2).2).2).2).2).2).2).2).2).2).1⟩⟩:aK)]) ?_
 intro Ta Tb
 refine Mi ?_ (pR ((i4:Int)+1))
 refine dx (dx (dx (dx (dx (dx ?_)))))
 exact Hc ⟨i4+1,Ta,Tb⟩ ⟨(by show i4+1≤(al 4 (ah (ah (ah (ah (ax aX i3 (al 4 Q2.2).2).2).2).2).2).2).1.toNat;omega),(fun x hx=>by rcases List.mem_append.1 hx with hx|hx;exact Re x hx;rw[List.mem_singleton]at hx;subst hx;exact (cW (ah (ah (ah (ax cb i4 (al 4 (ah (ah (ah (ah (ax aX i3 (al 4 Q2.2).2).2).2).2).2).2).2).2).2).2).2 _ (aP (ah (ah (ax cb i4 (al 4 (ah (ah (ah (ah (ax aX i3 (al 4 Q2.2).2).2).2).2).2).2).2).2).2).2 _ (aP (ah (ax cb i4 (al 4 (ah (ah (ah (ah (ax aX i3 (al 4 Q2.2).2).2).2).2).2).2).2).2).2 _ (aP (ax cb i4 (al 4 (ah (ah (ah (ah (ax aX i3 (al 4 Q2.2).2).2).2).2).2).2).2).2 _ (bp (B:=9223372036854775807) (fun q h=>hZ q _ h) i4 (al 4 (ah (ah (ah (ah (ax aX i3 (al 4 Q2.2).2).2).2).2).2).2).2 (bt 4 (ah (ah (ah (ah (ax aX i3 (al 4 Q2.2).2).2).2).2).2).2 _ (aP (ah (ah (ah (ax aX i3 (al 4 Q2.2).2).2).2).2).2 _ (aP (ah (ah (ax aX i3 (al 4 Q2.2).2).2).2).2 _ (aP (ah (ax aX i3 (al 4 Q2.2).2).2).2 _ (aP (ax aX i3 (al 4 Q2.2).2).2 _ (bp (B:=9223372036854775807) (fun q h=>gw q _ h) i3 (al 4 Q2.2).2 (bt 4 Q2.2 _ sn)))))))))))).2)⟩ (by show (al 4 (ah (ah (ah (ah (ax aX i3 (al 4 Q2.2).2).2).2).2).2).2).1.toNat - (i4+1)<(al 4 (ah (ah (ah (ah (ax aX i3 (al 4 Q2.2).2).2).2).2).2).2).1.toNat - i4;omega)
theorem Ca {B B':Nat→Prop}(a b:aN)(w:World)(ha:aJ.sub B w a)(hb:aJ.sub B' w b)(he:a.abs=b.abs):Calls prog 9 #[a.val,b.val] w fun e w'=>e=.returned (vb true)∧Kp [] w w':=by
 have p9:=aJ.bL ha
 have EX:=aJ.bL hb
 refine M0 ?_ func9
 refine Md (a.index=b.index) (fun h1=>?_) fun h1=>?_
 rotate_left
 ·exact absurd (congrArg (fun q=>q.index) he) h1
 refine Mp ?_ call43 (fun bs w hS=>BX _ _ w (aJ.kp ha hS.kp).1 (aJ.kp hb hS.kp).1 (congrArg aZ.aj he))
 refine Mq 17 true ?_ rfl
 refine Mp ?_ call44 (fun bs w hS=>B8 a.an b.an w (aJ.kp ha hS.kp).2.1 (aJ.kp hb hS.kp).2.1 (congrArg aZ.an he))
 refine Mq 24 true ?_ rfl
 refine Mp ?_ call45 (fun bs w hS=>vW _ _ w (aJ.kp ha hS.kp).2.2 (aJ.kp hb hS.kp).2.2 (congrArg aZ.af he))
 exact Mt [vb true] fun bs w hS=>⟨rfl,hS.kp⟩
theorem vt (x:aw)(w:World)(hx:aJ.sub B w x):Calls prog 111 #[x.val] w fun e w'=> ∃y:aN,e=.returned (.tuple #[y.val,vi (dC x.abs).2])∧y.abs=(dC x.abs).1∧bJ w w' y:=by
 have qL:x.abs.log=x.log.abs:=rfl
 have qS:x.abs.state=x.state.abs:=rfl
 have qN:x.abs.snap=x.snap:=rfl
 have qB:x.abs.log.base=x.log.base:=rfl
 have qI:x.abs.state.index=x.state.index:=rfl
 have qM:cD x.abs.log=x.log.base+(x.log.entries.n:Int):=rfl
 have cC:=aJ.bL hx
 have oE:=cC.2.1
 have mq:=Sl.ok.nc oE
 have mr:x.log.entries.n=x.log.entries.xs.length:=rfl
 refine M0 ?_ func111
 refine Md (x.log.base=0) (fun h1=>?_) fun h1=>?_
 ·refine cr (x.snap=emp) (fun h2=>?_) fun h2=>?_
  ·exact eE (uw (r:=x.abs) h1 h2) (⟨0,Sl.nil,Sl.nil,Sl.nil⟩:aN) rfl fun bs w hS=>hS.aO (y:=(⟨0,Sl.nil,Sl.nil,Sl.nil⟩:aN)) ⟨Sl.ao _ _,Sl.ao _ _,Sl.ao _ _⟩
  exact eE (ux (r:=x.abs) h1 h2) (⟨0,Sl.nil,Sl.nil,Sl.nil⟩:aN) rfl fun bs w hS=>hS.aO (y:=(⟨0,Sl.nil,Sl.nil,Sl.nil⟩:aN)) ⟨Sl.ao _ _,Sl.ao _ _,Sl.ao _ _⟩
 refine Mu ?_ call156 (fun bs w hS=>sP x.snap w cC.1)
 rintro gZ y1 a5 ft
 refine cr ((bb x.snap).2=0) (fun h3=>?_) fun h3=>?_
 rotate_left
 ·exact eE (wP (r:=x.abs) h1 h3) (⟨0,Sl.nil,Sl.nil,Sl.nil⟩:aN) rfl fun bs w hS=>hS.aO (y:=(⟨0,Sl.nil,Sl.nil,Sl.nil⟩:aN)) ⟨Sl.ao _ _,Sl.ao _ _,Sl.ao _ _⟩
 refine cr (y1.index=x.log.base) (fun h4=>?_) fun h4=>?_
 rotate_left
 ·exact eE (wQ (r:=x.abs) (i:=y1.index) h1 (show y1.index=(bb x.abs.snap).1.index from congrArg aZ.index a5) h4) (⟨0,Sl.nil,Sl.nil,Sl.nil⟩:aN) rfl fun bs w hS=>hS.aO (y:=(⟨0,Sl.nil,Sl.nil,Sl.nil⟩:aN)) ⟨Sl.ao _ _,Sl.ao _ _,Sl.ao _ _⟩
 exact eE (zu (r:=x.abs) (i:=y1.index) h1 h3 (show y1.index=(bb x.abs.snap).1.index from congrArg aZ.index a5) h4) y1 (a5) fun bs w hS=>hS.aO (aU i0 (hS.res _ i0))
theorem iY (x:aw)(w:World)(hx:aJ.sub B w x):Calls prog 47 #[x.val] w fun e w'=>e=.returned (vi (a6 x.abs))∧Kp [] w w':=by
 have qL:x.abs.log=x.log.abs:=rfl
 have qS:x.abs.state=x.state.abs:=rfl
 have qN:x.abs.snap=x.snap:=rfl
 have qB:x.abs.log.base=x.log.base:=rfl
 have qI:x.abs.state.index=x.state.index:=rfl
 have qM:cD x.abs.log=x.log.base+(x.log.entries.n:Int):=rfl
 have cC:=aJ.bL hx
 have oE:=cC.2.1
 have mq:=Sl.ok.nc oE
 have mr:x.log.entries.n=x.log.entries.xs.length:=rfl
 refine M0 ?_ func47
 refine Mp ?_ call110 (fun bs w hS=>o6 x.log w (aJ.kp hx hS.kp).2.1)
 refine cr (cT x.log.abs=0) (fun h1=>?_) fun h1=>?_
 rotate_left
 ·exact b8 (cT x.log.abs) (zw (r:=x.abs) h1)
 obtain⟨gU,gT,jB,nH⟩:=eb h1
 have u9:x.log.abs.base=x.log.base:=rfl
 have nJ:x.log.abs.entries=x.log.entries.xs:=rfl
 rw[u9]at gU gT
 rw[nJ]at jB
 refine Mp ?_ call20 (fun bs w hS=>kt x.state w ⟨(aJ.kp hx hS.kp).2.2.1,(aJ.kp hx hS.kp).2.2.2.1,(aJ.kp hx hS.kp).2.2.2.2⟩)
 refine cr (bA x.state.abs=0) (fun h2=>?_) fun h2=>?_
 rotate_left
 ·exact b8 (bA x.state.abs) (uy (r:=x.abs) h1 h2)
 refine cZ 16 [] [] [] ai ?_
 refine Md (x.state.index<x.log.base) (fun h3=>?_) fun h3=>?_
 ·exact b8 9 (uz (r:=x.abs) h1 h2 (by rw[qI,qB,qM];omega))
 refine Mp ?_ call49 (fun bs w hS=>gQ x.log w (aJ.kp hx hS.kp).2.1 (by first|exact⟨by omega,by omega,by omega⟩|omega))
 refine Md (x.log.base+(x.log.entries.n:Int)<x.state.index) (fun h4=>?_) fun h4=>?_
 ·exact b8 9 (uz (r:=x.abs) h1 h2 (by rw[qI,qB,qM];omega))
 refine Mu ?_ call111 (fun bs w hS=>vt x w (aJ.kp hx hS.kp))
 rintro gZ y1 a5 ft
 exact b8 ((dC x.abs).2) (lA (r:=x.abs) h1 h2 (by rw[qI,qB,qM];omega))
theorem gz (x:aw)(w:World)(hx:aJ.sub B w x):Calls prog 50 #[x.val] w fun e w'=>e=.returned (vi (a6 x.abs))∧Kp [] w w':=by
 have qL:x.abs.log=x.log.abs:=rfl
 have qS:x.abs.state=x.state.abs:=rfl
 have qN:x.abs.snap=x.snap:=rfl
 have qB:x.abs.log.base=x.log.base:=rfl
 have qI:x.abs.state.index=x.state.index:=rfl
 have qM:cD x.abs.log=x.log.base+(x.log.entries.n:Int):=rfl
 have cC:=aJ.bL hx
 have oE:=cC.2.1
 have mq:=Sl.ok.nc oE
 have mr:x.log.entries.n=x.log.entries.xs.length:=rfl
 refine M0 ?_ func50
 refine Mp ?_ call113 (fun bs w hS=>lh x.log w (aJ.kp hx hS.kp).2.1)
 refine Md (cT x.log.abs=0) (fun h1=>?_) fun h1=>?_
 rotate_left
 ·refine My false true ?_ (df h1)
  exact b8 (cT x.log.abs) (zw (r:=x.abs) h1)
 obtain⟨gU,gT,jB,nH⟩:=eb h1
 have u9:x.log.abs.base=x.log.base:=rfl
 have nJ:x.log.abs.entries=x.log.entries.xs:=rfl
 rw[u9]at gU gT
 rw[nJ]at jB
 refine Mp ?_ call30 (fun bs w hS=>jR x.state w ⟨(aJ.kp hx hS.kp).2.2.1,(aJ.kp hx hS.kp).2.2.2.1,(aJ.kp hx hS.kp).2.2.2.2⟩)
 refine cr (bA x.state.abs=0) (fun h2=>?_) fun h2=>?_
 rotate_left
 ·exact b8 (bA x.state.abs) (uy (r:=x.abs) h1 h2)
 refine cZ 11 [] [] [] ai ?_
 refine Mp ?_ call52 (fun bs w hS=>dD x.log w (aJ.kp hx hS.kp).2.1 (by first|exact⟨by omega,by omega,by omega⟩|omega))
 refine Mp ?_ call51 (fun bs w hS=>b6 x.state.index x.log.base (x.log.base+(x.log.entries.n:Int)) w)
 refine fL (gk x.state.index x.log.base (x.log.base+(x.log.entries.n:Int))) (fun h3=>?_) fun h3=>?_
 rotate_left
 ·simp only[iT,iF]at h3
  exact b8 9 (uz (r:=x.abs) h1 h2 (by (try simp only[iT,iF]at h3);rw[qI,qB,qM];omega))
 simp only[iT,iF]at h3
 refine Md (x.log.base=0) (fun h4=>?_) fun h4=>?_
 ·refine cr (x.snap=emp) (fun h5=>?_) fun h5=>?_
  rotate_left
  ·refine b8 9 ?_
   have hm:=lA (r:=x.abs) h1 h2 (by (try simp only[iT,iF]at h3);rw[qI,qB,qM];omega)
   have hk:=ux (r:=x.abs) h4 h5
   rw[hm,hk]
  have OK:x.snap.size=0:=by rw[h5];rfl
  refine b8 0 ?_
  have hm:=lA (r:=x.abs) h1 h2 (by (try simp only[iT,iF]at h3);rw[qI,qB,qM];omega)
  have hk:=uw (r:=x.abs) h4 h5
  rw[hm,hk]
 refine Mu ?_ call114 (fun bs w hS=>p6 x.snap w cC.1)
 rintro gZ y1 a5 ft
 refine cr ((bb x.snap).2=0) (fun h6=>?_) fun h6=>?_
 rotate_left
 ·refine b8 9 ?_
  have hm:=lA (r:=x.abs) h1 h2 (by (try simp only[iT,iF]at h3);rw[qI,qB,qM];omega)
  have hk:=wP (r:=x.abs) h4 h6
  rw[hm,hk]
 refine cr (y1.index=x.log.base) (fun h7=>?_) fun h7=>?_
 rotate_left
 ·refine b8 9 ?_
  have hm:=lA (r:=x.abs) h1 h2 (by (try simp only[iT,iF]at h3);rw[qI,qB,qM];omega)
  have hk:=wQ (r:=x.abs) (i:=y1.index) h4 (show y1.index=(bb x.abs.snap).1.index from congrArg aZ.index a5) h7
  rw[hm,hk]
 refine b8 0 ?_
 have hm:=lA (r:=x.abs) h1 h2 (by (try simp only[iT,iF]at h3);rw[qI,qB,qM];omega)
 have hk:=zu (r:=x.abs) (i:=y1.index) h4 h6 (show y1.index=(bb x.abs.snap).1.index from congrArg aZ.index a5) h7
 rw[hm,hk]
theorem pv (x:aN)(w:World)(hx:aJ.sub B w x)(lj:aJ.small x):Calls prog 6 #[x.val] w fun e w'=> ∃y:aN,e=.returned (y.val)∧y.abs=x.abs∧bJ w w' y:=by
 have cC:=aJ.bL hx
 have Nu:x.an.xs.length≤1048576:=lj.2.1.1
 refine M0 ?_ func6
 refine cZ 12 [] [] [] ai ?_
 refine Mu ?_ call18 (fun bs w hS=>vh x.aj w (aJ.kp hx hS.kp).1 lj.1)
 rintro gZ y1 a5 ft
 refine bU (α:=aG) 128 ?_
 refine Ma ?_ (α:=aG) (L2:=x.an.xs) 40 (fun bs w hS=>Sl.rd.src (s:=x.an) (aJ.kp hx hS.kp).2.1)
 intro A2 c2
 refine Mu ?_ call19 (fun bs w hS=>rb x.af w (aJ.kp hx hS.kp).2.2 lj.2.2)
 rintro sM y3 mw sk
 refine Mt [.agg #[vi x.index,y1.val,.slice A2 ([]++x.an.xs).length c2,y3.val]] fun bs w hS=>?_
 have vK:aN.abs (⟨x.index,y1,⟨A2,c2,[]++x.an.xs⟩,y3⟩:aN)=aN.abs x:=by simp[aN.abs, *]
 exact⟨(⟨x.index,y1,⟨A2,c2,[]++x.an.xs⟩,y3⟩:aN),rfl,vK,hS.aO (y:=(⟨x.index,y1,⟨A2,c2,[]++x.an.xs⟩,y3⟩:aN)) ⟨(aU i2 (hS.res _ i2)),(a4 i1 (hS.res _ i1) (fun z hz=>Sl.rd.mem (s:=x.an) (aJ.kp hx hS.kp).2.1 z (by simpa using hz))),(aU i0 (hS.res _ i0))⟩⟩
theorem rk (x:aN)(w:World)(hx:aJ.sub B w x)(lj:aJ.small x):Calls prog 22 #[x.val] w fun e w'=> ∃y:aN,e=.returned (y.val)∧y.abs=x.abs∧bJ w w' y:=by
 have cC:=aJ.bL hx
 refine M0 ?_ func22
 refine cZ 12 [] [] [] ai ?_
 refine Mu ?_ call68 (fun bs w hS=>BW x.aj w (aJ.kp hx hS.kp).1 lj.1)
 rintro gZ y1 a5 ft
 refine Mf ?_ call69 (fun bs w hS=>vp x.an w (aJ.kp hx hS.kp).2.1 lj.2.1.1)
 rintro y2 jw
 refine Mu ?_ call70 (fun bs w hS=>vV x.af w (aJ.kp hx hS.kp).2.2 lj.2.2)
 rintro EE y4 GL v9
 refine Mt [.agg #[vi x.index,y1.val,y2.val,y4.val]] fun bs w hS=>?_
 have vK:aN.abs (⟨x.index,y1,y2,y4⟩:aN)=aN.abs x:=by simp[aN.abs, *]
 exact⟨(⟨x.index,y1,y2,y4⟩:aN),rfl,vK,hS.aO (y:=(⟨x.index,y1,y2,y4⟩:aN)) ⟨(aU i2 (hS.res _ i2)),(a4 i1 (hS.res _ i1) (fun z hz=>Sl.rd.mem (aJ.kp hx hS.kp).2.1 z (jw▸hz))),(aU i0 (hS.res _ i0))⟩⟩
theorem gS (x:aw)(w:World)(hx:aJ.sub B w x)(lj:aJ.small x):Calls prog 10 #[x.val] w fun e w'=> ∃y:aw,e=.returned (y.val)∧y.abs=x.abs∧bJ w w' y:=by
 have cC:=aJ.bL hx
 refine M0 ?_ func10
 refine cZ 9 [] [] [] ai ?_
 refine Mu ?_ call46 (fun bs w hS=>Az x.log w (aJ.kp hx hS.kp).2.1 lj.1)
 rintro gZ y1 a5 ft
 refine Mu ?_ call6 (fun bs w hS=>pv x.state w ⟨(aJ.kp hx hS.kp).2.2.1,(aJ.kp hx hS.kp).2.2.2.1,(aJ.kp hx hS.kp).2.2.2.2⟩ ⟨lj.2.1,lj.2.2.1,lj.2.2.2⟩)
 rintro gn y2 jw jT
 refine Mt [.agg #[vi y1.base,y1.entries.val,vs x.snap,vi y2.index,y2.aj.val,y2.an.val,y2.af.val]] fun bs w hS=>?_
 have vK:aw.abs (⟨⟨y1.base,y1.entries⟩,x.snap,⟨y2.index,y2.aj,y2.an,y2.af⟩⟩:aw)=aw.abs x:=by simp[aw.abs, *]
 exact⟨(⟨⟨y1.base,y1.entries⟩,x.snap,⟨y2.index,y2.aj,y2.an,y2.af⟩⟩:aw),rfl,vK,hS.aO (y:=(⟨⟨y1.base,y1.entries⟩,x.snap,⟨y2.index,y2.aj,y2.an,y2.af⟩⟩:aw)) ⟨cC.1,(aU (y:=y1) i1 (hS.res _ i1)),(aU (y:=y2) i0 (hS.res _ i0)).1,(aU (y:=y2) i0 (hS.res _ i0)).2.1,(aU (y:=y2) i0 (hS.res _ i0)).2.2⟩⟩
theorem jV (x:aw)(w:World)(hx:aJ.sub B w x)(lj:aJ.small x):Calls prog 48 #[x.val] w fun e w'=> ∃y:aw,e=.returned (y.val)∧y.abs=x.abs∧bJ w w' y:=by
 have cC:=aJ.bL hx
 refine M0 ?_ func48
 refine cZ 9 [] [] [] ai ?_
 refine Mu ?_ call112 (fun bs w hS=>GI x.log w (aJ.kp hx hS.kp).2.1 lj.1)
 rintro gZ y1 a5 ft
 refine Mu ?_ call22 (fun bs w hS=>rk x.state w ⟨(aJ.kp hx hS.kp).2.2.1,(aJ.kp hx hS.kp).2.2.2.1,(aJ.kp hx hS.kp).2.2.2.2⟩ ⟨lj.2.1,lj.2.2.1,lj.2.2.2⟩)
 rintro gn y2 jw jT
 refine Mt [.agg #[vi y1.base,y1.entries.val,vs x.snap,vi y2.index,y2.aj.val,y2.an.val,y2.af.val]] fun bs w hS=>?_
 have vK:aw.abs (⟨⟨y1.base,y1.entries⟩,x.snap,⟨y2.index,y2.aj,y2.an,y2.af⟩⟩:aw)=aw.abs x:=by simp[aw.abs, *]
 exact⟨(⟨⟨y1.base,y1.entries⟩,x.snap,⟨y2.index,y2.aj,y2.an,y2.af⟩⟩:aw),rfl,vK,hS.aO (y:=(⟨⟨y1.base,y1.entries⟩,x.snap,⟨y2.index,y2.aj,y2.an,y2.af⟩⟩:aw)) ⟨cC.1,(aU (y:=y1) i1 (hS.res _ i1)),(aU (y:=y2) i0 (hS.res _ i0)).1,(aU (y:=y2) i0 (hS.res _ i0)).2.1,(aU (y:=y2) i0 (hS.res _ i0)).2.2⟩⟩
theorem yA {B B':Nat→Prop}(a b:aw)(w:World)(ha:aJ.sub B w a)(hb:aJ.sub B' w b)(he:a.abs=b.abs):Calls prog 13 #[a.val,b.val] w fun e w'=>e=.returned (vb true)∧Kp [] w w':=by
 have p9:=aJ.bL ha
 have EX:=aJ.bL hb
 refine M0 ?_ func13
 refine Md (a.snap=b.snap) (fun h1=>?_) fun h1=>?_
 rotate_left
 ·exact absurd (congrArg (fun q=>q.snap) he) h1
 refine Mp ?_ call53 (fun bs w hS=>GC a.log b.log w (aJ.kp ha hS.kp).2.1 (aJ.kp hb hS.kp).2.1 (congrArg aT.log he))
 refine Mq 17 true ?_ rfl
 refine Mp ?_ call9 (fun bs w hS=>Ca a.state b.state w ⟨(aJ.kp ha hS.kp).2.2.1,(aJ.kp ha hS.kp).2.2.2.1,(aJ.kp ha hS.kp).2.2.2.2⟩ ⟨(aJ.kp hb hS.kp).2.2.1,(aJ.kp hb hS.kp).2.2.2.1,(aJ.kp hb hS.kp).2.2.2.2⟩ (congrArg aT.state he))
 exact Mt [vb true] fun bs w hS=>⟨rfl,hS.kp⟩
theorem s7 (x:aw)(w:World)(hx:aJ.sub B w x):Calls prog 171 #[.agg #[.int .i64 x.log.base,.slice x.log.entries.A x.log.entries.n x.log.entries.c,.string x.snap,.int .i64 x.state.index,.slice x.state.aj.A x.state.aj.n x.state.aj.c,.slice x.state.an.A x.state.an.n x.state.an.c,.slice x.state.af.A x.state.af.n x.state.af.c]] w fun e w'=> ∃y:aw,e=.returned (.tuple #[.agg #[.int .i64 y.log.base,.slice y.log.entries.A y.log.entries.n y.log.entries.c,.string y.snap,.int .i64 y.state.index,.slice y.state.aj.A y.state.aj.n y.state.aj.c,.slice y.state.an.A y.state.an.n y.state.an.c,.slice y.state.af.A y.state.af.n y.state.af.c],.int .i64 (cK x.abs).2])∧y.abs=(cK x.abs).1∧bJ w w' y:=by
 have qL:x.abs.log=x.log.abs:=rfl
 have qS:x.abs.state=x.state.abs:=rfl
 have qN:x.abs.snap=x.snap:=rfl
 have qB:x.abs.log.base=x.log.base:=rfl
 have qI:x.abs.state.index=x.state.index:=rfl
 have qM:cD x.abs.log=x.log.base+(x.log.entries.n:Int):=rfl
 have cC:=aJ.bL hx
 have oE:=cC.2.1
 have mq:=Sl.ok.nc oE
 have mr:x.log.entries.n=x.log.entries.xs.length:=rfl
 refine M0 ?_ func171
 refine Mp ?_ call47 (fun bs w hS=>iY x w (aJ.kp hx hS.kp))
 refine cr (a6 x.abs=0) (fun h1=>?_) fun h1=>?_
 rotate_left
 ·have hm:cK x.abs=(dA,a6 x.abs):=by grind[cK]
  exact eE hm (⟨⟨0,Sl.nil⟩,emp,0,Sl.nil,Sl.nil,Sl.nil⟩:aw) rfl fun bs w hS=>hS.aO (y:=(⟨⟨0,Sl.nil⟩,emp,0,Sl.nil,Sl.nil,Sl.nil⟩:aw)) ⟨(by show emp.size≤_;rw[aL];omega),Sl.ao _ _,Sl.ao _ _,Sl.ao _ _,Sl.ao _ _⟩
 refine Mu ?_ call48 (fun bs w hS=>jV x w (aJ.kp hx hS.kp) (ji (by assumption)))
 rintro gZ y1 a5 ft
 refine Mu ?_ call111 (fun bs w hS=>vt y1 w (hS.res _ i0))
 rintro gn y2 jw jT
 refine Mt [.agg #[vi y1.log.base,y1.log.entries.val,vs y1.snap,vi y2.index,y2.aj.val,y2.an.val,y2.af.val],vi 0] fun bs w hS=>?_
 have hm:cK x.abs=(⟨x.log.abs,x.snap,(dC x.abs).1⟩,0):=by grind[cK]
 have hl:y1.log.abs=x.log.abs:=congrArg aT.log a5
 have hs:y1.snap=x.snap:=congrArg aT.snap a5
 have ha:(y2).abs=(dC x.abs).1:=by show y2.abs=_;rw[jw,a5]
 have np:=(show aJ.sub (· ∈(cN [bF gn y2,bF gZ y1]).fp) w y1 from aU (y:=y1) i1 (hS.res _ i1))
 have sI:=(show aJ.sub (· ∈(cN [bF gn y2,bF gZ y1]).fp) w y2 from aU (y:=y2) i0 (hS.res _ i0))
 refine⟨(⟨y1.log,y1.snap,y2⟩:aw),?_,?_,hS.aO (y:=(⟨y1.log,y1.snap,y2⟩:aw)) ⟨np.1,np.2.1,sI⟩⟩
 ·rw[hm];rfl
 ·rw[hm];show (⟨y1.log.abs,y1.snap,(y2).abs⟩:aT)=_;rw[hl,hs,ha]
theorem s8 (x:aw)(w:World)(hx:aJ.sub B w x)(lj:aJ.small x):Calls prog 127 #[x.val] w fun e w'=> ∃y:aw,e=.returned (.tuple #[y.val,vi (cK x.abs).2])∧y.abs=(cK x.abs).1∧bJ w w' y:=by
 have qL:x.abs.log=x.log.abs:=rfl
 have qS:x.abs.state=x.state.abs:=rfl
 have qN:x.abs.snap=x.snap:=rfl
 have qB:x.abs.log.base=x.log.base:=rfl
 have qI:x.abs.state.index=x.state.index:=rfl
 have qM:cD x.abs.log=x.log.base+(x.log.entries.n:Int):=rfl
 have cC:=aJ.bL hx
 have oE:=cC.2.1
 have mq:=Sl.ok.nc oE
 have mr:x.log.entries.n=x.log.entries.xs.length:=rfl
 refine M0 ?_ func127
 refine Mp ?_ call50 (fun bs w hS=>gz x w (aJ.kp hx hS.kp))
 refine cr (a6 x.abs=0) (fun h1=>?_) fun h1=>?_
 rotate_left
 ·have hm:cK x.abs=(dA,a6 x.abs):=by grind[cK]
  exact eE hm (⟨⟨0,Sl.nil⟩,emp,0,Sl.nil,Sl.nil,Sl.nil⟩:aw) rfl fun bs w hS=>hS.aO (y:=(⟨⟨0,Sl.nil⟩,emp,0,Sl.nil,Sl.nil,Sl.nil⟩:aw)) ⟨(by show emp.size≤_;rw[aL];omega),Sl.ao _ _,Sl.ao _ _,Sl.ao _ _,Sl.ao _ _⟩
 refine Mu ?_ call10 (fun bs w hS=>gS x w (aJ.kp hx hS.kp) lj)
 rintro gZ y1 a5 ft
 refine Md ((0:Int)<x.log.base) (fun h2=>?_) fun h2=>?_
 rotate_left
 ·refine Mt [.agg #[vi y1.log.base,y1.log.entries.val,vs y1.snap,vi 0,vn,vn,vn],vi 0] fun bs w hS=>?_
  have hm:cK x.abs=(⟨x.log.abs,x.snap,(dC x.abs).1⟩,0):=by grind[cK]
  have hl:y1.log.abs=x.log.abs:=congrArg aT.log a5
  have hs:y1.snap=x.snap:=congrArg aT.snap a5
  have hp:=cq h1
  have QH:=(eb hp.1).1
  have hk:(dC x.abs).1=cR:=by
    unfold dC
    rw[if_pos (by rw[qB]at QH⊢;omega)]
    split<;>rfl
  have ha:((⟨0,Sl.nil,Sl.nil,Sl.nil⟩:aN)).abs=(dC x.abs).1:=by rw[hk];rfl
  have np:=(show aJ.sub (· ∈(cN [bF gZ y1]).fp) w y1 from aU (y:=y1) i0 (hS.res _ i0))
  skip
  refine⟨(⟨y1.log,y1.snap,(⟨0,Sl.nil,Sl.nil,Sl.nil⟩:aN)⟩:aw),?_,?_,hS.aO (y:=(⟨y1.log,y1.snap,(⟨0,Sl.nil,Sl.nil,Sl.nil⟩:aN)⟩:aw)) ⟨np.1,np.2.1,⟨Sl.ao _ _,Sl.ao _ _,Sl.ao _ _⟩⟩⟩
  ·rw[hm];rfl
  ·rw[hm];show (⟨y1.log.abs,y1.snap,((⟨0,Sl.nil,Sl.nil,Sl.nil⟩:aN)).abs⟩:aT)=_;rw[hl,hs,ha]
 refine Mu ?_ call114 (fun bs w hS=>p6 x.snap w cC.1)
 rintro gn y2 jw jT
 refine Mt [.agg #[vi y1.log.base,y1.log.entries.val,vs y1.snap,vi y2.index,y2.aj.val,y2.an.val,y2.af.val],vi 0] fun bs w hS=>?_
 have hm:cK x.abs=(⟨x.log.abs,x.snap,(dC x.abs).1⟩,0):=by grind[cK]
 have hl:y1.log.abs=x.log.abs:=congrArg aT.log a5
 have hs:y1.snap=x.snap:=congrArg aT.snap a5
 have hp:=cq h1
 have hk:(dC x.abs).1=(bb x.snap).1:=by
   have h9:=hp.2.2.2.2
   unfold dC at h9⊢
   rw[if_neg (by rw[qB];omega)]at h9⊢
   split at h9
   ·rename_i h8;rw[if_pos h8];rfl
   ·cases h9
 have ha:(y2).abs=(dC x.abs).1:=by show y2.abs=_;rw[hk];exact jw
 have np:=(show aJ.sub (· ∈(cN [bF gn y2,bF gZ y1]).fp) w y1 from aU (y:=y1) i1 (hS.res _ i1))
 have sI:=(show aJ.sub (· ∈(cN [bF gn y2,bF gZ y1]).fp) w y2 from aU (y:=y2) i0 (hS.res _ i0))
 refine⟨(⟨y1.log,y1.snap,y2⟩:aw),?_,?_,hS.aO (y:=(⟨y1.log,y1.snap,y2⟩:aw)) ⟨np.1,np.2.1,sI⟩⟩
 ·rw[hm];rfl
 ·rw[hm];show (⟨y1.log.abs,y1.snap,(y2).abs⟩:aT)=_;rw[hl,hs,ha]
theorem rl (s:Sl (Fl aa))(p:Fl aa→Bool)(kf:Nat)(dc:Array Value)(w:World)(hs:s.rd B w)(cH: ∀args w,(callFunc kf args).run prog w=.ok (.enter kf args) w)
    (hf: ∀(w':World) (x:(Fl aa)),x∈s.xs→Kp [] w w'→Calls prog kf (#[x.v.val]++dc) w' fun e sW=>e=.returned (vb (p x))∧Kp [] w' sW):Calls prog 137 #[.slice s.A s.n s.c,.func (.func kf) #[] dc] w fun e w'=>e=.returned (vi (aQ p s.xs))∧Kp [] w w':=by
 have cV:=Sl.rd.ok hs
 have iV:=Sl.ok.nc cV
 have iW:s.n=s.xs.length:=rfl
 refine M0 ?_ func137
 refine Ml (σ:=Nat) (fun i=>i≤s.n∧ ∀j,j<i→p (s.at j)=false) (fun i=>s.n - i) (fun _=>[]) [8,7,0,1] (fun i=>[(8,vI (i:Int))]) (fun _=>[]) ?_ 0 ⟨Nat.zero_le _,fun j hj=>absurd hj (Nat.not_lt_zero _)⟩
 rintro i ⟨hi,hI⟩ _ bu
 refine Md ((i:Int)<(s.n:Int)) (fun h1=>?_) fun h1=>?_
 rotate_left
 ·exact b8 (-1) (by rw[gp fun j hj=>hI j (by omega)])
 refine Mi ?_ (pA 14 15 (i:Int) i (db hs))
 refine Mv ?_ cH (fun bs w hS=>hf w (s.at i) (List.mem_of_getElem? (Sl.eA (show i<s.n by omega))) hS.kp)
 refine Mb (p (s.at i)) (fun h2=>?_) fun h2=>?_
 ·exact b8 (i:Int) (by rw[fR (i:=i) (by omega) (by assumption) hI])
 refine Mi ?_ (pR ((i:Int)+1))
 exact bu (i+1) ⟨by omega,fun j hj=>by rcases Nat.lt_succ_iff_lt_or_eq.1 hj with h|h;exact hI j h;subst h;assumption⟩ (by omega)
theorem AA (s:Sl aa)(p:aa→Bool)(kf:Nat)(dc:Array Value)(w:World)(hs:s.rd B w)(cH: ∀args w,(callFunc kf args).run prog w=.ok (.enter kf args) w)
    (hf: ∀(w':World) (x:aa),x∈s.xs→Kp [] w w'→Calls prog kf (#[x.val]++dc) w' fun e sW=>e=.returned (vb (p x))∧Kp [] w' sW):Calls prog 137 #[s.val,.func (.func kf) #[] dc] w fun e w'=>e=.returned (vi (aQ p s.xs))∧Kp [] w w':=by
  have h:=rl (⟨s.A,s.c,vG s.xs⟩:Sl (Fl aa)) (fun x=>p x.v) kf dc w hs.fl cH (fun w' x hx hk=>hf w' x.v (by obtain⟨y,hy,rfl⟩:=List.mem_map.1 hx;exact hy) hk)
  simp only[tl,Sl.n,List.length_map]at h
  exact h
theorem yB (A:Option Addr)(c:Nat)(L:List (Fl aa))(p:Fl aa→Bool)(kf:Nat)(dc:Array Value)(w:World)(gb:(ay 118 A c L).p w)(dX: ∀b,b∈(ay 118 A c L).fp→b<w.heap.size)(hn:L.length≤1048576)(cH: ∀args w,(callFunc kf args).run prog w=.ok (.enter kf args) w)
    (hf: ∀(w':World) (x:(Fl aa)),x∈L→Kp (ay 118 A c L).fp w w'→Calls prog kf (#[x.v.val]++dc) w' fun e sW=>e=.returned (vb (p x))∧Kp [] w' sW):
    Calls prog 71 #[.slice A L.length c,.func (.func kf) #[] dc] w fun e w'=>e=.returned (.slice A (L.filter fun x=>!p x).length c)∧dh (ay 118 A c L) w w' (ay 118 A c (L.filter fun x=>!p x)):=by
 have mu:=br gb
 have nc:=mu.2
 refine Mj ?_ func71 (WS.eG w _ gb (by cases A<;>simp [ay,fI]) dX)
 refine Mp ?_ call137 (fun bs w hS=>rl (⟨A,c,L⟩:Sl (Fl aa)) p kf dc w (Rr (B:=bH) (hS.res _ i0) (fun _ _=>trivial) (fun _ _=>trivial)) cH (fun w' x hx hk=>hf w' x hx (hS.kp.step hk (fun i hi=>by cases hi))))
 refine Md (aQ p L=(-1)) (fun h1=>?_) fun h1=>?_
 ·refine Mt [.slice A L.length c] fun bs w hS=>?_
  have vU:L.filter (fun x=>!p x)=L:=rJ (by assumption)
  rw[vU]
  exact⟨rfl,hS.aW⟩
 obtain⟨i0,wm,E4,yS,MG⟩:=wF (p:=p) h1
 refine Mi ?_ (pR ((aQ p L)+1))
 refine Mk 6 ?_ (show (vI ((aQ p L)+1))=vI (((i0:Int))+1) by rw[MG])
 refine Mk 5 ?_ (show (vI (aQ p L))=vI ((i0:Int)) by rw[MG])
 refine Ml (σ:=Nat×Nat×List (Fl aa)) (fun⟨i,j,M⟩=>i<j∧j≤L.length∧M.length=L.length∧M.take i=(L.take j).filter (fun x=>!p x)∧M.drop j=L.drop j) (fun⟨i,j,M⟩=>L.length - j) (fun⟨i,j,M⟩=>[ay 118 A c (M:List (Fl aa))]) [6,5,0,1] (fun⟨i,j,M⟩=>[(6,vI (j:Int)),(5,vI (i:Int))]) (fun _=>[]) ?_ (⟨i0,i0+1,L⟩) ⟨by omega,by omega,rfl,uf wm E4 yS,rfl⟩
 rintro⟨i,j,M⟩ ⟨h1,h2,hM,hT,hD⟩ _ bu
 refine Md ((j:Int)<(L.length:Int)) (fun h2=>?_) fun h2=>?_
 rotate_left
 ·refine Mi ?_ (pG [(38,.sl i L.length)] (oc (rfl:(i:Int)=(i:Int)) (oc (rfl:L.length=L.length) (oc ((by omega):i≤L.length) on))))
  refine KC i (L.length - i) ?_ (by omega) (by omega)
  refine Mi ?_ (pG [(41,.sl 0 i)] (oc (rfl:0=0) (oc (rfl:(i:Int)=(i:Int)) (oc ((by omega):i≤c) on))))
  refine Mt [.slice A i c] fun bs w hS=>?_
  have vU:M.take i=L.filter (fun x=>!p x):=by rw[hT,show j=L.length by omega,List.take_length]
  have IQ:(L.filter (fun x=>!p x)).length=i:=by rw[←vU,List.length_take];omega
  have j1:=hS
  rw[vU]at j1
  refine⟨?_,j1.aW⟩
  rw[IQ]
  rfl
 refine Mi ?_ (pc (fG 24 (j:Int) j L.length (.head _)) (C2 25 j (.head _)))
 refine Mv ?_ cH (fun bs w hS=>hf w (M.getD j default) (by rw[ly hD (by omega)];exact aB (by omega)) hS.kp)
 refine fL (p (M.getD j default)) (fun h3=>?_) fun h3=>?_
 ·refine Mi ?_ (pR ((j:Int)+1))
  have Fu:M.getD j default=L.getD j default:=ly hD (by omega)
  exact bu ⟨i,j+1,M⟩ ⟨by omega,by omega,hM,wG (by omega) hT (Fu▸by assumption),rI hD⟩ (by show L.length - (j+1)<L.length - j;omega)
 refine Mi ?_ (fG 33 (i:Int) i L.length (.head _))
 refine LK i (M.getD j default) ?_ (by omega)
 intro L2 rZ QV
 refine Mi ?_ (pc (pR ((i:Int)+1)) (pR ((j:Int)+1)))
 have Fu:M.getD j default=L.getD j default:=ly hD (by omega)
 exact bu ⟨i+1,j+1,L2⟩ ⟨by omega,by omega,by omega,by rw[rZ];exact wH h1 (by omega) hM hT (Fu▸by assumption) Fu,by rw[rZ];exact wI h1 hD⟩ (by show L.length - (j+1)<L.length - j;omega)
theorem AB (A:Option Addr)(c:Nat)(L:List aa)(p:aa→Bool)(kf:Nat)(dc:Array Value)(w:World)(gb:(ay 118 A c L).p w)(dX: ∀b,b∈(ay 118 A c L).fp→b<w.heap.size)(hn:L.length≤1048576)(cH: ∀args w,(callFunc kf args).run prog w=.ok (.enter kf args) w)
    (hf: ∀(w':World) (x:aa),x∈L→Kp (ay 118 A c L).fp w w'→Calls prog kf (#[x.val]++dc) w' fun e sW=>e=.returned (vb (p x))∧Kp [] w' sW):
    Calls prog 71 #[.slice A L.length c,.func (.func kf) #[] dc] w fun e w'=>e=.returned (.slice A (L.filter fun x=>!p x).length c)∧dh (ay 118 A c L) w w' (ay 118 A c (L.filter fun x=>!p x)):=by
  have h:=yB A c (vG L) (fun x=>p x.v) kf dc w (by rw[l7];exact gb) (by rw[l7];exact dX) (by simpa using hn) cH (fun w' x hx hk=>hf w' x.v (by obtain⟨y,hy,rfl⟩:=List.mem_map.1 hx;exact hy) (by rwa [l7]at hk))
  have e1:(vG L).filter (fun x=>!(p x.v))=vG (L.filter fun x=>!p x):=tW (fun x=>!p x) L
  simp only[e1,l7,List.length_map]at h
  exact h
theorem pg (x:aa)(n:Int)(b:Nat)(w:World)(hb:(bh b 3 [vi n]).p w)(h0:0≤n∧n≤1073741824)(h1:1≤x.last∧x.last≤n):Calls prog 72 #[x.val,.pointer (some (⟨b,0,none⟩:Addr))] w fun e w'=>e=.returned (vb (jH n x.abs))∧Kp [] w w':=by
 refine M0 ?_ func72
 refine Mi ?_ (pc (pX 4 [vi n] (fun w hk hr=>(yY (oI hb hk) 1 rfl))) (pc (pR (n+1)) (pR ((n+1) - x.last))))
 exact Mt [vb (decide ((40:Int)<(n+1) - x.last))] fun bs w hS=>⟨rfl,hS.kp⟩
end Go.Proofs.YtbjakddkfgjkaaaGreat.W
