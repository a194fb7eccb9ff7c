/-
  The functions that the law ClusterRuns reaches, walked: each returns what its model says.
  Conditions: those that each theorem states.
-/
import Derived.Test.YtbjakddkfgjkaaaGreatWClusterRunsc
set_option linter.unusedVariables false
set_option linter.unusedSimpArgs false
set_option maxRecDepth 100000
set_option maxHeartbeats 2000000
namespace Go.Proofs.YtbjakddkfgjkaaaGreat.W
open Go.Proofs.YtbjakddkfgjkaaaGreat.Fw Go.RowKit Tryz
variable {B : Nat → Prop}
attribute [local irreducible] JM nx
theorem yC (A:Option Addr)(c:Nat)(L:List (Fl aa))(p:Fl aa→Bool)(kf:Nat)(dc:Array Value)(w:World)(gb:(ay 118 A c L).p w)(dX: ∀b,b∈(ay 118 A c L).fp→b<w.heap.size)(hn:L.length≤1048576)(cH: ∀args w,(callFunc kf args).run prog w=.ok (.enter kf args) w)
    (hf: ∀(w':World) (x:(Fl aa)),x∈L→Kp (ay 118 A c L).fp w w'→Calls prog kf (#[x.v.val]++dc) w' fun e sX=>e=.returned (vb (p x))∧Kp [] w' sX):
    Calls prog 71 #[.slice A L.length c,.func (.func kf) #[] dc] w fun e w'=>e=.returned (.slice A (L.filter fun x=>!p x).length c)∧dh (ay 118 A c L) w w' (ay 118 A c (L.filter fun x=>!p x)):=by
 have mv:=br gb
 have nc:=mv.2
 refine Mj ?_ func71 (WS.eG w _ gb (by cases A<;>simp [ay,fI]) dX)
 refine Mp ?_ call137 (fun bs w hS=>rm (⟨A,c,L⟩:Sl (Fl aa)) p kf dc w (Rr (B:=bH) (hS.res _ i0) (fun _ _=>trivial) (fun _ _=>trivial)) cH (fun w' x hx hk=>hf w' x hx (hS.kp.step hk (fun i hi=>by cases hi))))
 refine Md (aQ p L=(-1)) (fun h1=>?_) fun h1=>?_
 ·refine Mt [.slice A L.length c] fun bs w hS=>?_
  have vV:L.filter (fun x=>!p x)=L:=rK (by assumption)
  rw[vV]
  exact⟨rfl,hS.aW⟩
 obtain⟨i0,wo,E2,yT,MF⟩:=wG (p:=p) h1
 refine Mi ?_ (pR ((aQ p L)+1))
 refine Mk 6 ?_ (show (vI ((aQ p L)+1))=vI (((i0:Int))+1) by rw[MF])
 refine Mk 5 ?_ (show (vI (aQ p L))=vI ((i0:Int)) by rw[MF])
 refine Ml (σ:=Nat×Nat×List (Fl aa)) (fun⟨i,j,M⟩=>i<j∧j≤L.length∧M.length=L.length∧M.take i=(L.take j).filter (fun x=>!p x)∧M.drop j=L.drop j) (fun⟨i,j,M⟩=>L.length - j) (fun⟨i,j,M⟩=>[ay 118 A c (M:List (Fl aa))]) [6,5,0,1] (fun⟨i,j,M⟩=>[(6,vI (j:Int)),(5,vI (i:Int))]) (fun _=>[]) ?_ (⟨i0,i0+1,L⟩) ⟨by omega,by omega,rfl,ug wo E2 yT,rfl⟩
 rintro⟨i,j,M⟩ ⟨h1,h2,hM,hT,hD⟩ _ bu
 refine Md ((j:Int)<(L.length:Int)) (fun h2=>?_) fun h2=>?_
 rotate_left
 ·refine Mi ?_ (pG [(38,.sl i L.length)] (oc (rfl:(i:Int)=(i:Int)) (oc (rfl:L.length=L.length) (oc ((by omega):i≤L.length) on))))
  refine KA i (L.length - i) ?_ (by omega) (by omega)
  refine Mi ?_ (pG [(41,.sl 0 i)] (oc (rfl:0=0) (oc (rfl:(i:Int)=(i:Int)) (oc ((by omega):i≤c) on))))
  refine Mt [.slice A i c] fun bs w hS=>?_
  have vV:M.take i=L.filter (fun x=>!p x):=by rw[hT,show j=L.length by omega,List.take_length]
  have IN:(L.filter (fun x=>!p x)).length=i:=by rw[←vV,List.length_take];omega
  have j1:=hS
  rw[vV]at j1
  refine⟨?_,j1.aW⟩
  rw[IN]
  rfl
 refine Mi ?_ (pc (fG 24 (j:Int) j L.length (.head _)) (C1 25 j (.head _)))
 refine Mv ?_ cH (fun bs w hS=>hf w (M.getD j default) (by rw[ly hD (by omega)];exact aB (by omega)) hS.kp)
 refine fL (p (M.getD j default)) (fun h3=>?_) fun h3=>?_
 ·refine Mi ?_ (pR ((j:Int)+1))
  have Fs:M.getD j default=L.getD j default:=ly hD (by omega)
  exact bu ⟨i,j+1,M⟩ ⟨by omega,by omega,hM,wH (by omega) hT (Fs▸by assumption),rJ hD⟩ (by show L.length - (j+1)<L.length - j;omega)
 refine Mi ?_ (fG 33 (i:Int) i L.length (.head _))
 refine LI i (M.getD j default) ?_ (by omega)
 intro L2 r8 QU
 refine Mi ?_ (pc (pR ((i:Int)+1)) (pR ((j:Int)+1)))
 have Fs:M.getD j default=L.getD j default:=ly hD (by omega)
 exact bu ⟨i+1,j+1,L2⟩ ⟨by omega,by omega,by omega,by rw[r8];exact wI h1 (by omega) hM hT (Fs▸by assumption) Fs,by rw[r8];exact wJ h1 hD⟩ (by show L.length - (j+1)<L.length - j;omega)
theorem AD (A:Option Addr)(c:Nat)(L:List aa)(p:aa→Bool)(kf:Nat)(dc:Array Value)(w:World)(gb:(ay 118 A c L).p w)(dX: ∀b,b∈(ay 118 A c L).fp→b<w.heap.size)(hn:L.length≤1048576)(cH: ∀args w,(callFunc kf args).run prog w=.ok (.enter kf args) w)
    (hf: ∀(w':World) (x:aa),x∈L→Kp (ay 118 A c L).fp w w'→Calls prog kf (#[x.val]++dc) w' fun e sX=>e=.returned (vb (p x))∧Kp [] w' sX):
    Calls prog 71 #[.slice A L.length c,.func (.func kf) #[] dc] w fun e w'=>e=.returned (.slice A (L.filter fun x=>!p x).length c)∧dh (ay 118 A c L) w w' (ay 118 A c (L.filter fun x=>!p x)):=by
  have h:=yC A c (vH L) (fun x=>p x.v) kf dc w (by rw[l8];exact gb) (by rw[l8];exact dX) (by simpa using hn) cH (fun w' x hx hk=>hf w' x.v (by obtain⟨y,hy,rfl⟩:=List.mem_map.1 hx;exact hy) (by rwa [l8]at hk))
  have e1:(vH L).filter (fun x=>!(p x.v))=vH (L.filter fun x=>!p x):=tX (fun x=>!p x) L
  simp only[e1,l8,List.length_map]at h
  exact h
theorem ph (x:aa)(n:Int)(b:Nat)(w:World)(hb:(bh b 3 [vi n]).p w)(h0:0≤n∧n≤1073741824)(h1:1≤x.last∧x.last≤n):Calls prog 72 #[x.val,.pointer (some (⟨b,0,none⟩:Addr))] w fun e w'=>e=.returned (vb (jH n x.abs))∧Kp [] w w':=by
 refine M0 ?_ func72
 refine Mi ?_ (pc (pX 4 [vi n] (fun w hk hr=>(yZ (oJ hb hk) 1 rfl))) (pc (pR (n+1)) (pR ((n+1) - x.last))))
 exact Mt [vb (decide ((40:Int)<(n+1) - x.last))] fun bs w hS=>⟨rfl,hS.kp⟩
theorem wb (s:Sl aa)(n:Int)(w:World)(hs:s.rd B w):Calls prog 23 #[s.val,vi n] w fun e w'=> ∃y:Sl aa,e=.returned (.tuple #[y.val,vi (lJ (s.xs.map aa.abs) n).2])∧y.xs.map aa.abs=(lJ (s.xs.map aa.abs) n).1∧bJ w w' y:=by
 have cV:=Sl.rd.ok hs
 have iV:=Sl.ok.nc cV
 have iW:s.n=s.xs.length:=rfl
 have tB:(s.xs.map aa.abs).length=s.n:=by simp
 refine M0 ?_ func23
 refine Mp ?_ call63 (fun bs w hS=>gV s n w (Sl.rd.kp hs hS.kp))
 refine cr (bC (s.xs.map aa.abs) n=0) (fun h1=>?_) fun h1=>?_
 rotate_left
 ·refine Mt [vn,vi (bC (s.xs.map aa.abs) n)] fun bs w hS=>?_
  refine⟨Sl.nil,?_,?_,hS.aO (Sl.ao _ _)⟩
  ·rw[oN (by assumption)];rfl
  ·rw[oN (by assumption)];rfl
 obtain⟨EW,wo,mh,gI⟩:=dm h1
 have JN:0≤n∧n≤1073741824:=⟨EW,wo⟩
 have Ke: ∀x,x∈s.xs.map aa.abs→1≤x.last∧x.last≤n:=fun x hx=>by obtain⟨j,hj,rfl⟩:=List.getElem_of_mem hx;have:=kA (gI j hj);rw[List.getD_eq_getElem?_getD,List.getElem?_eq_getElem hj]at this;simp only[Option.getD_some]at this;omega
 refine Mf ?_ call70 (fun bs w hS=>iC s w (Sl.rd.kp hs hS.kp) (fC (by assumption)))
 rintro y1 a5
 refine dH ?_
 have bn:=eW (hs) a5
 refine bk (F:= ∀i,i<y1.n→aJ.ok (y1.at i)) (fun bs w hS i hi=>aJ.bL (Sl.rd.sub (gu (A:=y1.A) (c:=y1.c) (L:=y1.xs) (hS.res _ i0) (hS.res _ i1) bn) hi)) fun gj=>?_
 refine bk (F:=dY y1.A y1.c (y1.xs:List aa)) (fun bs w hS=>br (hS.res _ i1)) fun cI=>?_
 have cn:=cI.2
 have OS:=sB a5
 have mu:y1.n=y1.xs.length:=rfl
 have GN: ∀x,x∈y1.xs→1≤x.last∧x.last≤n:=fun x hx=>Ke x.abs (a5▸List.mem_map.2 ⟨x,hx,rfl⟩)
 have ft:Sl.ok y1:=⟨cn.1,by unfold maxLen;exact cn.2,fun i hi=>⟨cI.1 i hi,gj i hi⟩⟩
 refine cb ?_
 refine LD ?_ call71 (fun bs w hS=>AD y1.A y1.c y1.xs (fun x:aa=>jH n x.abs) 72 #[.pointer (some (kv bs 0 0))] w (hS.res _ i0) hS.lH.2.2 (by show y1.n≤_;omega) call72 (fun w' x hx hk=>ph x n (bs.getD 0 0) w' (show (bh _ _ _).p w' from hS.Fj (i:=0) (b:=⟨3,[vI n]⟩) hk (by kernel_rfl) (by simp)) JN (GN x hx)))
 rintro _ _
 refine Mt [.slice y1.A (y1.xs.filter fun x:aa=>!jH n x.abs).length y1.c,vi 0] fun bs w hS=>?_
 have hm:=zj (l:=s.xs.map aa.abs) (index:=n) (by assumption)
 rw[hm]
 refine⟨⟨y1.A,y1.c,y1.xs.filter fun x:aa=>!jH n x.abs⟩,rfl,?_,hS.aO (y:=(⟨y1.A,y1.c,y1.xs.filter fun x:aa=>!jH n x.abs⟩:Sl aa)) (jG (L0:=y1.xs) i0 i1 hS.res (fun x hx=>(List.mem_filter.1 hx).1) bn)⟩
 show (List.filter _ _).map _=_
 rw[uh,a5]
theorem AE (s:Sl aa)(n:Int)(w:World)(hs:s.rd B w):Calls prog 32 #[s.val,vi n] w fun e w'=> ∃y:Sl aa,e=.returned (.tuple #[y.val,vi (lJ (s.xs.map aa.abs) n).2])∧y.xs.map aa.abs=(lJ (s.xs.map aa.abs) n).1∧bJ w w' y:=by
 have cV:=Sl.rd.ok hs
 have iV:=Sl.ok.nc cV
 have iW:s.n=s.xs.length:=rfl
 have tB:(s.xs.map aa.abs).length=s.n:=by simp
 refine M0 ?_ func32
 refine Mp ?_ call92 (fun bs w hS=>eV s n w (Sl.rd.kp hs hS.kp))
 refine cr (bC (s.xs.map aa.abs) n=0) (fun h1=>?_) fun h1=>?_
 rotate_left
 ·refine Mt [vn,vi (bC (s.xs.map aa.abs) n)] fun bs w hS=>?_
  refine⟨Sl.nil,?_,?_,hS.aO (Sl.ao _ _)⟩
  ·rw[oN (by assumption)];rfl
  ·rw[oN (by assumption)];rfl
 obtain⟨EW,wo,mh,gI⟩:=dm h1
 have Ke: ∀x,x∈s.xs.map aa.abs→1≤x.last∧x.last≤n:=fun x hx=>by obtain⟨j,hj,rfl⟩:=List.getElem_of_mem hx;have:=kA (gI j hj);rw[List.getD_eq_getElem?_getD,List.getElem?_eq_getElem hj]at this;simp only[Option.getD_some]at this;omega
 refine Mf ?_ call19 (fun bs w hS=>fB s w (Sl.rd.kp hs hS.kp) (fC (by assumption)))
 rintro y1 a5
 refine dH ?_
 have bn:=eW (hs) a5
 refine bk (F:= ∀i,i<y1.n→aJ.ok (y1.at i)) (fun bs w hS i hi=>aJ.bL (Sl.rd.sub (gu (A:=y1.A) (c:=y1.c) (L:=y1.xs) (hS.res _ i0) (hS.res _ i1) bn) hi)) fun gj=>?_
 refine bk (F:=dY y1.A y1.c (y1.xs:List aa)) (fun bs w hS=>br (hS.res _ i1)) fun cI=>?_
 have cn:=cI.2
 have OS:=sB a5
 have mu:y1.n=y1.xs.length:=rfl
 have GN: ∀x,x∈y1.xs→1≤x.last∧x.last≤n:=fun x hx=>Ke x.abs (a5▸List.mem_map.2 ⟨x,hx,rfl⟩)
 have ft:Sl.ok y1:=⟨cn.1,by unfold maxLen;exact cn.2,fun i hi=>⟨cI.1 i hi,gj i hi⟩⟩
 refine bU (α:=aa) 118 ?_
 refine Ml (σ:=Nat×Option Addr×Nat×List aa) (fun⟨i,A,c,L⟩=>i≤y1.n∧L=(y1.xs.take i).filter (fun x=>!jH n x.abs)) (fun⟨i,A,c,L⟩=>y1.n - i) (fun⟨i,A,c,L⟩=>[ay 118 A c (L:List aa),bI (cj 141) y1.xs,ay 118 y1.A y1.c (y1.xs:List aa)]) [9,8,7,1] (fun⟨i,A,c,L⟩=>[(9,vI (i:Int)),(7,.v (.slice A L.length c))]) (fun _=>[]) ?_ (⟨0,none,0,[]⟩) ⟨Nat.zero_le _,rfl⟩
 rintro⟨i,A,c,L⟩ ⟨hi,hI⟩ _ bu
 have Mn:L.length≤i:=by rw[hI];exact Nat.le_trans (List.length_filter_le _ _) (by rw[List.length_take];omega)
 refine Md ((i:Int)<(y1.n:Int)) (fun h2=>?_) fun h2=>?_
 rotate_left
 ·refine Mt [.slice A L.length c,vi 0] fun bs w hS=>?_
  have hm:=zj (l:=s.xs.map aa.abs) (index:=n) (by assumption)
  rw[hm]
  have Re:L=y1.xs.filter fun x=>!jH n x.abs:=by rw[hI,dE (by omega)]
  refine⟨⟨A,c,L⟩,rfl,?_,hS.aO (y:=(⟨A,c,L⟩:Sl aa)) (jG (L0:=y1.xs) i0 i1 hS.res (fun x hx=>by rw[Re]at hx;exact (List.mem_filter.1 hx).1) bn)⟩
  show L.map _=_
  rw[Re,uh,a5]
 have yu:=GN (y1.xs.getD i default) (aB (by omega))
 refine Mi ?_ (pc (fG 26 (i:Int) i y1.n i2) (pc (lg 28 i 3 1 i2) (pR ((y1.xs.getD i default).last+40))))
 refine Md (n<(y1.xs.getD i default).last+40) (fun h3=>?_) fun h3=>?_
 rotate_left
 ·refine Mi ?_ (pR ((i:Int)+1))
  exact bu ⟨i+1,A,c,L⟩ ⟨by omega,by first|exact zm hI (by omega) (decide_eq_false (show ¬(40<n+1 - (y1.xs.getD i default).last) by omega))|exact wK hI (by omega) (decide_eq_true (show 40<n+1 - (y1.xs.getD i default).last by omega))⟩ (by show y1.n - (i+1)<y1.n - i;omega)
 refine Mi ?_ (pc (fG 35 (i:Int) i y1.n i2) (C1 36 i i2))
 refine M1 ?_
 refine gX (α:=aa) 56 ([(⟨(y1.xs.getD i default).ag,(y1.xs.getD i default).id,(y1.xs.getD i default).aC,(y1.xs.getD i default).last,(y1.xs.getD i default).ab⟩:aa)]) ?_
 intro A3 c3
 refine Mi ?_ (pR ((i:Int)+1))
 exact bu ⟨i+1,A3,c3,L++[(⟨(y1.xs.getD i default).ag,(y1.xs.getD i default).id,(y1.xs.getD i default).aC,(y1.xs.getD i default).last,(y1.xs.getD i default).ab⟩:aa)]⟩ ⟨by omega,by first|exact zm hI (by omega) (decide_eq_false (show ¬(40<n+1 - (y1.xs.getD i default).last) by omega))|exact wK hI (by omega) (decide_eq_true (show 40<n+1 - (y1.xs.getD i default).last by omega))⟩ (by show y1.n - (i+1)<y1.n - i;omega)
theorem GO (s:Sl aG)(t:ByteArray)(w:World)(hs:s.rd B w):Calls prog 86 #[.slice s.A s.n s.c,.string t] w fun e w'=>e=.returned (.tuple #[.agg #[.int .i64 (l4 s.xs t).1.code,.int .i64 (l4 s.xs t).1.n,.string (l4 s.xs t).1.text],.int .i64 (l4 s.xs t).2])∧Kp [] w w':=by
 have cV:=Sl.rd.ok hs
 have iV:=Sl.ok.nc cV
 have iW:s.n=s.xs.length:=rfl
 refine M0 ?_ func86
 refine Mp ?_ call65 (fun bs w hS=>pW s w (Sl.rd.kp hs hS.kp))
 refine cr (cy s.xs=0) (fun h1=>?_) (fun h1=>?_)
 rotate_left
 ·refine Mt [.agg #[.int .i64 0,.int .i64 0,.string emp],.int .i64 (cy s.xs)] fun bs w hS=>?_
  refine⟨?_,hS.kp⟩
  simp only[bO,den,List.map_cons,List.map_nil]
  rw[CM (by assumption)]
 have mh:=(iz h1).1
 refine Mp ?_ call151 (fun bs w hS=>xB s t w (Sl.rd.kp hs hS.kp) (by omega))
 refine fL (dk (fun x:aG=>bK x.name t) s.xs) (fun h2=>?_) fun h2=>?_
 rotate_left
 ·refine Mt [vz 6,vi 0] fun bs w hS=>?_
  refine⟨?_,hS.kp⟩
  simp only[bO,den,List.map_cons,List.map_nil]
  have hb:=(qv (l:=s.xs) (by assumption) t).1
  rw[h2]at hb
  rw[zk (by assumption) (by have:=of_decide_eq_false hb.symm;omega)]
 have dX:=xU h2
 refine cZ 13 [] [0] [] ai ?_
 refine bY ?_ (pc (pI 26 ((eQ (fun x:aG=>bK x.name t) s.xs:Nat):Int) (((eQ (fun x:aG=>bK x.name t) s.xs:Nat):Int)).toNat (db hs)) (pc (pF 28 (((eQ (fun x:aG=>bK x.name t) s.xs:Nat):Int)).toNat 2 1 (db hs)) (pc (pI 31 ((eQ (fun x:aG=>bK x.name t) s.xs:Nat):Int) (((eQ (fun x:aG=>bK x.name t) s.xs:Nat):Int)).toNat (db hs)) (pF 33 (((eQ (fun x:aG=>bK x.name t) s.xs:Nat):Int)).toNat 1 1 (db hs)))))
 refine Mt [.agg #[vi 0,vi (s.at (((eQ (fun x:aG=>bK x.name t) s.xs:Nat):Int)).toNat).version,vs (s.at (((eQ (fun x:aG=>bK x.name t) s.xs:Nat):Int)).toNat).value],vi 0] fun bs w hS=>?_
 refine⟨?_,hS.kp⟩
 simp only[bO,den,List.map_cons,List.map_nil]
 have hb:=(qv (l:=s.xs) (by assumption) t).1
 rw[h2]at hb
 have hc:=(qv (l:=s.xs) (by assumption) t).2 (by assumption)
 have hd:=of_decide_eq_true hb.symm
 rw[zl (by assumption) (by omega), ←hc,Int.toNat_natCast]
 rfl
theorem EE (s:Sl aG)(t:ByteArray)(w:World)(hs:s.rd B w):Calls prog 40 #[.slice s.A s.n s.c,.string t] w fun e w'=>e=.returned (.tuple #[.agg #[.int .i64 (l4 s.xs t).1.code,.int .i64 (l4 s.xs t).1.n,.string (l4 s.xs t).1.text],.int .i64 (l4 s.xs t).2])∧Kp [] w w':=by
 have cV:=Sl.rd.ok hs
 have iV:=Sl.ok.nc cV
 have iW:s.n=s.xs.length:=rfl
 have xy:=du (fun x:aG=>decide (x.name=t)) s.xs
 refine M0 ?_ func40
 refine Mp ?_ call94 (fun bs w hS=>lS s w (Sl.rd.kp hs hS.kp))
 refine cr (cy s.xs=0) (fun h1=>?_) (fun h1=>?_)
 rotate_left
 ·refine Mt [.agg #[.int .i64 0,.int .i64 0,.string emp],.int .i64 (cy s.xs)] fun bs w hS=>?_
  refine⟨?_,hS.kp⟩
  simp only[bO,den,List.map_cons,List.map_nil]
  rw[CM (by assumption)]
 have mh:=(iz h1).1
 refine Mp ?_ call106 (fun bs w hS=>lW s t w (Sl.rd.kp hs hS.kp))
 refine Md (aQ (fun x:aG=>decide (x.name=t)) s.xs<0) (fun h2=>?_) fun h2=>?_
 ·refine Mt [vz 6,vi 0] fun bs w hS=>?_
  refine⟨?_,hS.kp⟩
  simp only[bO,den,List.map_cons,List.map_nil]
  rw[zk (by assumption) (by assumption)]
 refine cZ 13 [] [0] [] ai ?_
 refine bY ?_ (pc (pI 22 (aQ (fun x:aG=>decide (x.name=t)) s.xs) (aQ (fun x:aG=>decide (x.name=t)) s.xs).toNat (db hs)) (pc (pF 24 (aQ (fun x:aG=>decide (x.name=t)) s.xs).toNat 2 1 (db hs)) (pc (pI 27 (aQ (fun x:aG=>decide (x.name=t)) s.xs) (aQ (fun x:aG=>decide (x.name=t)) s.xs).toNat (db hs)) (pF 29 (aQ (fun x:aG=>decide (x.name=t)) s.xs).toNat 1 1 (db hs)))))
 refine Mt [.agg #[vi 0,vi (s.at (aQ (fun x:aG=>decide (x.name=t)) s.xs).toNat).version,vs (s.at (aQ (fun x:aG=>decide (x.name=t)) s.xs).toNat).value],vi 0] fun bs w hS=>?_
 refine⟨?_,hS.kp⟩
 simp only[bO,den,List.map_cons,List.map_nil]
 rw[zl (by assumption) (by assumption)]
 rfl
theorem AF (s:Sl aa)(p:aa→Bool)(kf:Nat)(dc:Array Value)(w:World)(hs:s.rd B w)(cH: ∀args w,(callFunc kf args).run prog w=.ok (.enter kf args) w)
    (hf: ∀(w':World) (x:aa),x∈s.xs→Kp [] w w'→Calls prog kf (#[x.val]++dc) w' fun e sX=>e=.returned (vb (p x))∧Kp [] w' sX):Calls prog 73 #[s.val,.func (.func kf) #[] dc] w fun e w'=>e=.returned (vb (decide ((0:Int)≤aQ p s.xs)))∧Kp [] w w':=by
 have cV:=Sl.rd.ok hs
 have iV:=Sl.ok.nc cV
 have iW:s.n=s.xs.length:=rfl
 refine M0 ?_ func73
 refine Mp ?_ call137 (fun bs w hS=>AB s p kf dc w (Sl.rd.kp hs hS.kp) cH (fun w' x hx hk=>hf w' x hx (hS.kp.step hk (fun i hi=>by cases hi))))
 exact Mt [vb (decide ((0:Int)≤aQ p s.xs))] fun bs w hS=>⟨rfl,hS.kp⟩
theorem p8 (x:aa)(p:aa)(b:Nat)(w:World)(hb:(bh b 118 [vi p.ag,vi p.id,vi p.aC,vi p.last,p.ab.val]).p w):Calls prog 74 #[x.val,.pointer (some (⟨b,0,none⟩:Addr))] w fun e w'=>e=.returned (vb (decide (x.ag=p.ag)))∧Kp [] w w':=by
 refine M0 ?_ func74
 refine Mi ?_ (pX 7 [vi p.ag] (fun w hk hr=>(qp (oJ hb hk) 0 1 rfl)))
 exact Mt [vb (decide (x.ag=p.ag))] fun bs w hS=>⟨rfl,hS.kp⟩
theorem rp {B B':Nat→Prop}(z:aN)(s:Sl aa)(b:Nat)(w:World)(hb:(bh b 26 [vi z.index,z.aj.val,z.an.val,z.af.val]).p w)(hz: ∀w',Kp [b] w w'→aJ.sub B w' z)(hs: ∀w',Kp [b] w w'→s.rd B' w'):Calls prog 24 #[.pointer (some (⟨b,0,none⟩:Addr)),s.val] w fun e w'=> ∃y:Option (List Nat×Sl ae),e=.returned (.tuple #[])∧(lk z.aj y).xs.map ae.abs=rS (z.aj.xs.map ae.abs) (s.xs.map aa.abs) (z.af.xs.map aa.abs)∧jb (bh b 26 [vi z.index,z.aj.val,z.an.val,z.af.val]) w w' (bh b 26 [vi z.index,.slice (lk z.aj y).A (lk z.aj y).n (lk z.aj y).c,z.an.val,z.af.val]) (mO y):=by
 have cV:=Sl.rd.ok (hs w (Kp.refl _ _))
 have iV:=Sl.ok.nc cV
 have iW:s.n=s.xs.length:=rfl
 have Tb:=aJ.bL (hz w (Kp.refl _ _))
 refine Mj ?_ func24 (WS.eG w _ hb (by simp[bh]) (gm hb))
 refine gK (mO (none:Option (List Nat×Sl ae))) rfl (fun w=>trivial) ?_
 refine Ml (σ:=Nat×Option (List Nat×Sl ae)) (fun⟨i,o⟩=>i≤s.n∧(lk z.aj o).xs.map ae.abs=rS (z.aj.xs.map ae.abs) ((s.xs.map aa.abs).take i) (z.af.xs.map aa.abs)) (fun⟨i,o⟩=>s.n - i) (fun⟨i,o⟩=>[mO o,bh b 26 [vi z.index,.slice (lk z.aj o).A (lk z.aj o).n (lk z.aj o).c,z.an.val,z.af.val]]) [8,7,6,0] (fun⟨i,o⟩=>[(8,vI (i:Int))]) (fun _=>[]) ?_ (⟨0,none⟩) ⟨Nat.zero_le _,rfl⟩
 rintro⟨i,o⟩ ⟨hi,hI⟩ _ bu
 refine Md ((i:Int)<(s.n:Int)) (fun h1=>?_) fun h1=>?_
 rotate_left
 ·refine Mt [] fun bs w hS=>?_
  have j1:=hS.f1
  have Pu:(s.xs.map aa.abs).take i=s.xs.map aa.abs:=List.take_of_length_le (by rw[List.length_map];omega)
  rw[Pu]at hI
  exact⟨o,rfl,hI,(j1.jc (fun _ h=>h)).as (ua _ _) (n0 _)⟩
 refine Mi ?_ (pc (pA 10 11 (i:Int) i (s:=s) (fun w hk hr=>(hs _ hk))) (nI 15 3 1 i1))
 refine Mp ?_ call73 (fun bs w hS=>AF z.af (fun x:aa=>decide (x.ag=(s.at i).ag)) 74 #[.pointer (some (kv bs 0 0))] w (hz _ hS.kp).2.2 call74 (fun w' z' TQ hk=>p8 z' (s.at i) (bs.getD 0 0) w' (show (bh _ _ _).p w' from (hS.pure hk).loc 0 ⟨118,(s.at i).cs⟩ (by kernel_rfl) (by simp))))
 refine cr ((0:Int)≤aQ (fun x:aa=>decide (x.ag=(s.at i).ag)) z.af.xs) (fun h2=>?_) fun h2=>?_
 ·refine Mi ?_ (pR ((i:Int)+1))
  have Kf:ef (z.af.xs.map aa.abs) (s.at i).abs.ag=aQ (fun x:aa=>decide (x.ag=(s.at i).ag)) z.af.xs:=(fm aa.abs (fun x:az=>decide (x.ag=(s.at i).ag)) z.af.xs).symm
  have Kg:(lk z.aj (o)).xs.map ae.abs=if ef (z.af.xs.map aa.abs) (s.at i).abs.ag<0 then (j3 ((lk z.aj o).xs.map ae.abs) (s.at i).abs.ag).1 else (lk z.aj o).xs.map ae.abs:=by rw[Kf,if_neg (by omega)]
  refine cb (cb ?_)
  exact bu ⟨i+1,o⟩ ⟨by omega,qD (by rw[List.length_map];omega) (lb i) hI Kg⟩ (by show s.n - (i+1)<s.n - i;omega)
 refine cZ 14 [13] [] [mO o,bh b 26 [vi z.index,.slice (lk z.aj o).A (lk z.aj o).n (lk z.aj o).c,z.an.val,z.af.val]] ai ?_
 refine bY ?_ (nI 24 1 1 i1)
 refine Mu ?_ call75 (fun bs w hS=>Eo (lk z.aj o) (s.at i).ag w (qC (hz _ hS.kp).1 (hS.res _ i0)))
 rintro gZ y1 a5 ft
 refine cL ?_
 refine FX [mO o] 1 [vi z.index,y1.val,z.an.val,z.af.val] ?_ (hR:=(.cons _ (.cons _ (List.Sublist.refl _))))
 refine Mz ?_
 refine Mi ?_ (pR ((i:Int)+1))
 have Kf:ef (z.af.xs.map aa.abs) (s.at i).abs.ag=aQ (fun x:aa=>decide (x.ag=(s.at i).ag)) z.af.xs:=(fm aa.abs (fun x:az=>decide (x.ag=(s.at i).ag)) z.af.xs).symm
 refine cL ?_
 refine eu CD (List.nil_sublist _) (fun _ _=>trivial) ?_
 refine cL ?_
 refine fc (mO (some (gZ,y1))) (by show List.Perm gZ (gZ++[]);rw[List.append_nil]) (fun w h1 h2=>h1) ?_
 have Kg:(lk z.aj (some (gZ,y1))).xs.map ae.abs=if ef (z.af.xs.map aa.abs) (s.at i).abs.ag<0 then (j3 ((lk z.aj o).xs.map ae.abs) (s.at i).abs.ag).1 else (lk z.aj o).xs.map ae.abs:=by rw[Kf,if_pos (by omega)];exact a5
 refine cb (cb ?_)
 exact bu ⟨i+1,some (gZ,y1)⟩ ⟨by omega,qD (by rw[List.length_map];omega) (lb i) hI Kg⟩ (by show s.n - (i+1)<s.n - i;omega)
theorem Ca {B B':Nat→Prop}(z:aN)(who:Int)(o:vJ)(b:Nat)(w:World)(hb:(bh b 26 [vi z.index,z.aj.val,z.an.val,z.af.val]).p w)(hz: ∀w',Kp [b] w w'→aJ.sub B w' z)(ho:aJ.sub B' w o):Calls prog 28 #[.pointer (some (⟨b,0,none⟩:Addr)),vi who,o.val] w fun e w'=> ∃y:Option (List Nat×Sl ae)×Option (List Nat×Sl aG),e=.returned ((lK (z.aj.xs.map ae.abs) z.an.xs who o).2.2).val∧((lk z.aj y.1).xs.map ae.abs=(lK (z.aj.xs.map ae.abs) z.an.xs who o).1∧(lk z.an y.2).xs=(lK (z.aj.xs.map ae.abs) z.an.xs who o).2.1)∧jb (bh b 26 [vi z.index,z.aj.val,z.an.val,z.af.val]) w w' (bh b 26 [vi z.index,.slice (lk z.aj y.1).A (lk z.aj y.1).n (lk z.aj y.1).c,.slice (lk z.an y.2).A (lk z.an y.2).n (lk z.an y.2).c,z.af.val]) (cN [mO y.1,mO y.2]):=by
 have Tb:=aJ.bL (hz w (Kp.refl _ _))
 refine Mj ?_ func28 (WS.eG w _ hb (by simp[bh]) (gm hb))
 refine fP 14 ?_ ai
 refine bY ?_ (nI 15 1 1 i0)
 refine Mp ?_ call83 (fun bs w hS=>Gm z.aj o.a w (hz _ hS.kp).1)
 refine Mz ?_
 refine Md (o.kind=1) (fun h1=>?_) fun h1=>?_
 ·refine cZ 20 [18] [2] [bh b 26 [vi z.index,z.aj.val,z.an.val,z.af.val]] ai ?_
  refine bY ?_ (nI 52 1 1 i0)
  refine Mu ?_ call84 (fun bs w hS=>xD z.aj o.a who (decide (o.kind=2)) w (hz _ hS.kp).1 ho.1)
  rintro gZ y1 a5 ft
  refine cb ?_
  refine FX [] 1 [vi z.index,y1.val,z.an.val,z.af.val] ?_
  refine Mt [((bZ (z.aj.xs.map ae.abs) o.a who (decide (o.kind=2))).2.1).val] fun bs w hS=>?_
  have j1:=hS.f1.f1
  have hm:lK (z.aj.xs.map ae.abs) z.an.xs who o=((bZ (z.aj.xs.map ae.abs) o.a who (decide (o.kind=2))).1,z.an.xs,(bZ (z.aj.xs.map ae.abs) o.a who (decide (o.kind=2))).2.1):=by grind[lK]
  refine⟨(some (gZ,y1),none),?_,⟨?_,?_⟩,(j1.jc (fun _ h=>h)).as (fun h r hr=>?_) (by simp[cN,mO,CD])⟩
  ·rw[hm]<;>rfl
  ·rw[hm]<;>exact a5
  ·rw[hm]<;>rfl
  ·simp only[List.mem_cons,List.not_mem_nil,or_false]at hr
   rcases hr with rfl|rfl
   ·exact h _ i0
   ·trivial
 refine Md (o.kind=2) (fun h2=>?_) fun h2=>?_
 ·refine cZ 20 [18] [2] [bh b 26 [vi z.index,z.aj.val,z.an.val,z.af.val]] ai ?_
  refine bY ?_ (nI 52 1 1 i0)
  refine Mu ?_ call84 (fun bs w hS=>xD z.aj o.a who (decide (o.kind=2)) w (hz _ hS.kp).1 ho.1)
  rintro gn y2 jw jT
  refine cb ?_
  refine FX [] 1 [vi z.index,y2.val,z.an.val,z.af.val] ?_
  refine Mt [((bZ (z.aj.xs.map ae.abs) o.a who (decide (o.kind=2))).2.1).val] fun bs w hS=>?_
  have j1:=hS.f1.f1
  have hm:lK (z.aj.xs.map ae.abs) z.an.xs who o=((bZ (z.aj.xs.map ae.abs) o.a who (decide (o.kind=2))).1,z.an.xs,(bZ (z.aj.xs.map ae.abs) o.a who (decide (o.kind=2))).2.1):=by grind[lK]
  refine⟨(some (gn,y2),none),?_,⟨?_,?_⟩,(j1.jc (fun _ h=>h)).as (fun h r hr=>?_) (by simp[cN,mO,CD])⟩
  ·rw[hm]<;>rfl
  ·rw[hm]<;>exact jw
  ·rw[hm]<;>rfl
  ·simp only[List.mem_cons,List.not_mem_nil,or_false]at hr
   rcases hr with rfl|rfl
   ·exact h _ i0
   ·trivial
 refine Md (o.kind=3) (fun h3=>?_) fun h3=>?_
 ·refine cZ 17 [15] [2] [bh b 26 [vi z.index,z.aj.val,z.an.val,z.af.val]] ai ?_
  refine bY ?_ (nI 74 1 1 i0)
  refine Mu ?_ call85 (fun bs w hS=>Ex z.aj o.a who w (hz _ hS.kp).1 ho.1)
  rintro sN y3 my sm
  refine cb ?_
  refine FX [] 1 [vi z.index,y3.val,z.an.val,z.af.val] ?_
  refine Mt [((dL (z.aj.xs.map ae.abs) o.a who).2.1).val] fun bs w hS=>?_
  have j1:=hS.f1.f1
  have hm:lK (z.aj.xs.map ae.abs) z.an.xs who o=((dL (z.aj.xs.map ae.abs) o.a who).1,z.an.xs,(dL (z.aj.xs.map ae.abs) o.a who).2.1):=by grind[lK]
  refine⟨(some (sN,y3),none),?_,⟨?_,?_⟩,(j1.jc (fun _ h=>h)).as (fun h r hr=>?_) (by simp[cN,mO,CD])⟩
  ·rw[hm]<;>rfl
  ·rw[hm]<;>exact my
  ·rw[hm]<;>rfl
  ·simp only[List.mem_cons,List.not_mem_nil,or_false]at hr
   rcases hr with rfl|rfl
   ·exact h _ i0
   ·trivial
 refine Md (o.kind=4) (fun h4=>?_) fun h4=>?_
 ·refine Mt [.agg #[vi 0,vi (fN (z.aj.xs.map ae.abs) o.a).1,ve]] fun bs w hS=>?_
  have j1:=hS.perm (R':=[bh b 26 [vi z.index,z.aj.val,z.an.val,z.af.val]]) (List.Perm.refl _)
  have hm:lK (z.aj.xs.map ae.abs) z.an.xs who o=(z.aj.xs.map ae.abs,z.an.xs,⟨0,(fN (z.aj.xs.map ae.abs) o.a).1,emp⟩):=by grind[lK]
  refine⟨(none,none),?_,⟨?_,?_⟩,(j1.jc (fun _ h=>h)).as (fun h r hr=>?_) (by simp[cN,mO,CD])⟩
  ·rw[hm]<;>rfl
  ·rw[hm]<;>rfl
  ·rw[hm]<;>rfl
  ·simp only[List.mem_cons,List.not_mem_nil,or_false]at hr
   rcases hr with rfl|rfl
   ·trivial
   ·trivial
 refine Md (o.kind=6) (fun h5=>?_) fun h5=>?_
 ·refine cZ 11 [] [2] [bh b 26 [vi z.index,z.aj.val,z.an.val,z.af.val]] ai ?_
  refine bY ?_ (nI 98 2 1 i0)
  refine Mp ?_ call86 (fun bs w hS=>GO z.an o.a w (hz _ hS.kp).2.1)
  refine Mz ?_
  refine Mt [(l4 z.an.xs o.a).1.val] fun bs w hS=>?_
  have j1:=hS.perm (R':=[bh b 26 [vi z.index,z.aj.val,z.an.val,z.af.val]]) (List.Perm.refl _)
  have hm:lK (z.aj.xs.map ae.abs) z.an.xs who o=(z.aj.xs.map ae.abs,z.an.xs,(l4 z.an.xs o.a).1):=by grind[lK]
  refine⟨(none,none),?_,⟨?_,?_⟩,(j1.jc (fun _ h=>h)).as (fun h r hr=>?_) (by simp[cN,mO,CD])⟩
  ·rw[hm]<;>rfl
  ·rw[hm]<;>rfl
  ·rw[hm]<;>rfl
  ·simp only[List.mem_cons,List.not_mem_nil,or_false]at hr
   rcases hr with rfl|rfl
   ·trivial
   ·trivial
 refine cr ((fN (z.aj.xs.map ae.abs) o.a).1=who) (fun h6=>?_) fun h6=>?_
 rotate_left
 ·refine Mt [.agg #[vi 10,vi (fN (z.aj.xs.map ae.abs) o.a).1,ve]] fun bs w hS=>?_
  have j1:=hS.perm (R':=[bh b 26 [vi z.index,z.aj.val,z.an.val,z.af.val]]) (List.Perm.refl _)
  have hm:lK (z.aj.xs.map ae.abs) z.an.xs who o=(z.aj.xs.map ae.abs,z.an.xs,⟨10,(fN (z.aj.xs.map ae.abs) o.a).1,emp⟩):=by grind[lK]
  refine⟨(none,none),?_,⟨?_,?_⟩,(j1.jc (fun _ h=>h)).as (fun h r hr=>?_) (by simp[cN,mO,CD])⟩
  ·rw[hm]<;>rfl
  ·rw[hm]<;>rfl
  ·rw[hm]<;>rfl
  ·simp only[List.mem_cons,List.not_mem_nil,or_false]at hr
   rcases hr with rfl|rfl
   ·trivial
   ·trivial
 refine cr ((fN (z.aj.xs.map ae.abs) o.a).2.1=o.n) (fun h7=>?_) fun h7=>?_
 rotate_left
 ·refine Mt [.agg #[vi 10,vi (fN (z.aj.xs.map ae.abs) o.a).1,ve]] fun bs w hS=>?_
  have j1:=hS.perm (R':=[bh b 26 [vi z.index,z.aj.val,z.an.val,z.af.val]]) (List.Perm.refl _)
  have hm:lK (z.aj.xs.map ae.abs) z.an.xs who o=(z.aj.xs.map ae.abs,z.an.xs,⟨10,(fN (z.aj.xs.map ae.abs) o.a).1,emp⟩):=by grind[lK]
  refine⟨(none,none),?_,⟨?_,?_⟩,(j1.jc (fun _ h=>h)).as (fun h r hr=>?_) (by simp[cN,mO,CD])⟩
  ·rw[hm]<;>rfl
  ·rw[hm]<;>rfl
  ·rw[hm]<;>rfl
  ·simp only[List.mem_cons,List.not_mem_nil,or_false]at hr
   rcases hr with rfl|rfl
   ·trivial
   ·trivial
 refine cZ 18 [16] [2] [bh b 26 [vi z.index,z.aj.val,z.an.val,z.af.val]] ai ?_
 refine bY ?_ (nI 27 2 1 i0)
 refine Mu ?_ call87 (fun bs w hS=>GF z.an o.a o.b w (hz _ hS.kp).2.1 ho.1 ho.2)
 rintro ED y4 GJ wa
 refine cb ?_
 refine FX [] 2 [vi z.index,z.aj.val,y4.val,z.af.val] ?_
 refine Mt [((cA z.an.xs o.a o.b).2.1).val] fun bs w hS=>?_
 have j1:=hS.f1.f1
 have hm:lK (z.aj.xs.map ae.abs) z.an.xs who o=(z.aj.xs.map ae.abs,(cA z.an.xs o.a o.b).1,(cA z.an.xs o.a o.b).2.1):=by grind[lK]
 refine⟨(none,some (ED,y4)),?_,⟨?_,?_⟩,(j1.jc (fun _ h=>h)).as (fun h r hr=>?_) (by simp[cN,mO,CD])⟩
 ·rw[hm]<;>rfl
 ·rw[hm]<;>rfl
 ·rw[hm]<;>exact GJ
 ·simp only[List.mem_cons,List.not_mem_nil,or_false]at hr
  rcases hr with rfl|rfl
  ·trivial
  ·exact h _ i0
theorem wc (x:aN)(t:ByteArray)(w:World)(hx:aJ.sub B w x)(ht:t.size≤9223372036854775807):Calls prog 7 #[x.val,vs t] w fun e w'=> ∃y:aN,e=.returned (.tuple #[y.val,((bS x.abs t).2.1).val,vi (bS x.abs t).2.2])∧y.abs=(bS x.abs t).1∧bJ w w' y:=by
 have cC:=aJ.bL hx
 refine M0 ?_ func7
 refine Mp ?_ call20 (fun bs w hS=>kt x w (aJ.kp hx hS.kp))
 refine cr (bA x.abs=0) (fun h1=>?_) fun h1=>?_
 rotate_left
 ·refine Mt [vA,vz 0,vi (bA x.abs)] fun bs w hS=>?_
  have hm:=w5 (t:=t) h1
  refine⟨(⟨0,Sl.nil,Sl.nil,Sl.nil⟩:aN),?_,?_,hS.aO (y:=(⟨0,Sl.nil,Sl.nil,Sl.nil⟩:aN)) ⟨Sl.ao _ _,Sl.ao _ _,Sl.ao _ _⟩⟩
  ·rw[hm]<;>rfl
  ·rw[hm]<;>rfl
 have M9:=w8 h1
 have Pv:0≤x.index:=M9.1
 have Pw:x.index≤1073741824:=M9.2
 refine Md (x.index=1073741824) (fun h2=>?_) fun h2=>?_
 ·refine Mt [vA,vz 0,vi 2] fun bs w hS=>?_
  have hm:=w6 (t:=t) h1 (by show _≤x.index;omega)
  refine⟨(⟨0,Sl.nil,Sl.nil,Sl.nil⟩:aN),?_,?_,hS.aO (y:=(⟨0,Sl.nil,Sl.nil,Sl.nil⟩:aN)) ⟨Sl.ao _ _,Sl.ao _ _,Sl.ao _ _⟩⟩
  ·rw[hm]<;>rfl
  ·rw[hm]<;>rfl
 refine Mp ?_ call21 (fun bs w hS=>ig t w ht)
 refine cr ((aq t).2=0) (fun h3=>?_) fun h3=>?_
 rotate_left
 ·refine Mt [vA,vz 0,vi (aq t).2] fun bs w hS=>?_
  have hm:=w7 h1 (by show ¬_≤x.index;omega) h3
  refine⟨(⟨0,Sl.nil,Sl.nil,Sl.nil⟩:aN),?_,?_,hS.aO (y:=(⟨0,Sl.nil,Sl.nil,Sl.nil⟩:aN)) ⟨Sl.ao _ _,Sl.ao _ _,Sl.ao _ _⟩⟩
  ·rw[hm]<;>rfl
  ·rw[hm]<;>rfl
 obtain⟨Px,Py,Pz,PA,AG,GP⟩:=FH (m0 h3).1
 refine Mu ?_ call22 (fun bs w hS=>rl x w (aJ.kp hx hS.kp) (od (by assumption)))
 rintro gZ y1 a5 ft
 refine Mu ?_ call23 (fun bs w hS=>wb y1.af y1.index w (hS.res _ i0).2.2)
 rintro gn y2 jw jT
 refine Mon 0 ?_ call24 (fun bs w hS hb=>rp (B:=bH) (B':=bH) ((⟨y1.index,y1.aj,y1.an,y2⟩:aN)) y1.af (bs.getD 0 0) w hb (fun w' hk=>⟨(Sl.rd.wide ((hS.rZ 0 hk) _ i1).1 fun _ _=>trivial),(Sl.rd.wide ((hS.rZ 0 hk) _ i1).2.1 fun _ _=>trivial),(Sl.rd.wide ((hS.rZ 0 hk) _ i0) fun _ _=>trivial)⟩) (fun w' hk=>(Sl.rd.wide ((hS.rZ 0 hk) _ i1).2.2 fun _ _=>trivial)))
 rintro y3 my
 refine Md ((aq t).1.kind=1) (fun h4=>?_) fun h4=>?_
 ·have nA:y1.index=x.index:=congrArg aZ.index a5
  refine Mu ?_ call25 (fun bs w hS=>yw y2 y1.index (aq t).1.ag w (hS.res _ i1) (by unfold ln;omega))
  rintro rh y5 tC pf
  refine Mi ?_ (pR (y1.index+1))
  refine cZ 5 [] [1,2] [bF rh y5,mO y3,bF gn y2,bF gZ y1] ai ?_
  refine Mz ?_
  refine Mt [.agg #[vi (y1.index+1),.slice (lk y1.aj y3).A (lk y1.aj y3).n (lk y1.aj y3).c,y1.an.val,y5.val],((dg (y2.xs.map aa.abs) y1.index (aq t).1.ag).2.1).val,vi 0] fun bs w hS=>?_
  have e3:cx y1.abs=y2.xs.map aa.abs:=jw.symm
  have e4:cG y1.abs=(lk y1.aj y3).xs.map ae.abs:=by unfold cG;rw[e3];exact my.symm
  have hs:cX x.abs (aq t).1=_:=(congrArg (fun q=>cX q (aq t).1) a5).symm.trans (w4 e3 e4 h4)
  have hm:=fE h1 (by show ¬_≤x.index;omega) h3 hs
  refine⟨(⟨y1.index+1,(lk y1.aj y3),y1.an,y5⟩:aN),?_,?_,hS.aO (y:=(⟨y1.index+1,(lk y1.aj y3),y1.an,y5⟩:aN)) ⟨(iJ (aU (y:=y1) i3 (hS.res _ i3)).1 i1 hS.res),(aU (y:=y1) i3 (hS.res _ i3)).2.1,(aU (y:=y5) i0 (hS.res _ i0))⟩⟩
  ·rw[hm]<;>rfl
  ·rw[hm]
   show (⟨_,(lk y1.aj y3).xs.map ae.abs,y1.an.xs,y5.xs.map aa.abs⟩:aZ)=_
   rw[tC]<;>rfl
 have nA:y1.index=x.index:=congrArg aZ.index a5
 refine Md ((aq t).1.kind=3) (fun h5=>?_) fun h5=>?_
 ·refine Mu ?_ call26 (fun bs w hS=>vZ y2 y1.index (aq t).1.ag w (hS.res _ i1) (by unfold ln;omega))
  rintro Kh y6 GQ sq
  refine Mon 0 ?_ call24 (fun bs w hS hb=>rp (B:=bH) (B':=bH) ((⟨y1.index,(lk y1.aj y3),y1.an,y6⟩:aN)) y2 (bs.getD 0 0) w hb (fun w' hk=>⟨(Sl.rd.wide (qC ((hS.rZ 0 hk) _ i3).1 ((hS.rZ 0 hk) _ i1)) fun _ _=>trivial),(Sl.rd.wide ((hS.rZ 0 hk) _ i3).2.1 fun _ _=>trivial),(Sl.rd.wide ((hS.rZ 0 hk) _ i0) fun _ _=>trivial)⟩) (fun w' hk=>(Sl.rd.wide ((hS.rZ 0 hk) _ i2) fun _ _=>trivial)))
  rintro y7 Cc
  refine Mi ?_ (pR (y1.index+1))
  refine cZ 5 [] [1,2] [mO y7,bF Kh y6,mO y3,bF gn y2,bF gZ y1] ai ?_
  refine Mz ?_
  refine Mt [.agg #[vi (y1.index+1),.slice (lk (lk y1.aj y3) y7).A (lk (lk y1.aj y3) y7).n (lk (lk y1.aj y3) y7).c,y1.an.val,y6.val],((dB (y2.xs.map aa.abs) y1.index (aq t).1.ag).2.1).val,vi 0] fun bs w hS=>?_
  have e3:cx y1.abs=y2.xs.map aa.abs:=jw.symm
  have e4:cG y1.abs=(lk y1.aj y3).xs.map ae.abs:=by unfold cG;rw[e3];exact my.symm
  have hs:cX x.abs (aq t).1=_:=(congrArg (fun q=>cX q (aq t).1) a5).symm.trans (uF e3 e4 h4 h5)
  have hm:=fE h1 (by show ¬_≤x.index;omega) h3 hs
  refine⟨(⟨y1.index+1,(lk (lk y1.aj y3) y7),y1.an,y6⟩:aN),?_,?_,hS.aO (y:=(⟨y1.index+1,(lk (lk y1.aj y3) y7),y1.an,y6⟩:aN)) ⟨(iJ (iJ (aU (y:=y1) i4 (hS.res _ i4)).1 i2 hS.res) i0 hS.res),(aU (y:=y1) i4 (hS.res _ i4)).2.1,(aU (y:=y6) i1 (hS.res _ i1))⟩⟩
  ·rw[hm]<;>rfl
  ·rw[hm]
   show (⟨_,(lk (lk y1.aj y3) y7).xs.map ae.abs,y1.an.xs,y6.xs.map aa.abs⟩:aZ)=_
   rw[Cc,GQ]<;>rfl
 refine Mu ?_ call27 (fun bs w hS=>v5 y2 y1.index (aq t).1 w (hS.res _ i1) (by unfold ln;omega) ⟨AG,GP⟩)
 rintro ta y9 vr tc
 refine Mb (dn (y2.xs.map aa.abs) y1.index (aq t).1).2.2.1 (fun h6=>?_) fun h6=>?_
 rotate_left
 ·refine Mi ?_ (pR (y1.index+1))
  refine cZ 5 [] [1,2] [bF ta y9,mO y3,bF gn y2,bF gZ y1] ai ?_
  refine Mz ?_
  refine Mt [.agg #[vi (y1.index+1),.slice (lk y1.aj y3).A (lk y1.aj y3).n (lk y1.aj y3).c,y1.an.val,y9.val],((dn (y2.xs.map aa.abs) y1.index (aq t).1).2.1).val,vi 0] fun bs w hS=>?_
  have e3:cx y1.abs=y2.xs.map aa.abs:=jw.symm
  have e4:cG y1.abs=(lk y1.aj y3).xs.map ae.abs:=by unfold cG;rw[e3];exact my.symm
  have hs:cX x.abs (aq t).1=_:=(congrArg (fun q=>cX q (aq t).1) a5).symm.trans (zH e3 e4 h4 h5 h6)
  have hm:=fE h1 (by show ¬_≤x.index;omega) h3 hs
  refine⟨(⟨y1.index+1,(lk y1.aj y3),y1.an,y9⟩:aN),?_,?_,hS.aO (y:=(⟨y1.index+1,(lk y1.aj y3),y1.an,y9⟩:aN)) ⟨(iJ (aU (y:=y1) i3 (hS.res _ i3)).1 i1 hS.res),(aU (y:=y1) i3 (hS.res _ i3)).2.1,(aU (y:=y9) i0 (hS.res _ i0))⟩⟩
  ·rw[hm]<;>rfl
  ·rw[hm]
   show (⟨_,(lk y1.aj y3).xs.map ae.abs,y1.an.xs,y9.xs.map aa.abs⟩:aZ)=_
   rw[vr]<;>rfl
 refine Mon 0 ?_ call28 (fun bs w hS hb=>Ca (B:=bH) (B':=bH) ((⟨y1.index,(lk y1.aj y3),y1.an,y9⟩:aN)) (aq t).1.ag (aq t).1.op (bs.getD 0 0) w hb (fun w' hk=>⟨(Sl.rd.wide (qC ((hS.rZ 0 hk) _ i3).1 ((hS.rZ 0 hk) _ i1)) fun _ _=>trivial),(Sl.rd.wide ((hS.rZ 0 hk) _ i3).2.1 fun _ _=>trivial),(Sl.rd.wide ((hS.rZ 0 hk) _ i0) fun _ _=>trivial)⟩) ⟨AG,GP⟩)
 rintro qf EF
 refine dH ?_
 have Rf:=zI (L:=(lk y1.aj y3).xs.map ae.abs) (P:=y1.an.xs) (fun p hp=>fZ (P:=fun p:aG=>p.value.size≤9223372036854775807) (fun j hj=>((ft.2.1).2.2 j hj).2.2) p hp) (aq t).1.ag (aq t).1.op
 refine Mi ?_ (pR (y1.index+1))
 refine Mu ?_ call29 (fun bs w hS=>yy y9 (y1.index+1) (aq t).1.ag (aq t).1.seq (lK ((lk y1.aj y3).xs.map ae.abs) y1.an.xs (aq t).1.ag (aq t).1.op).2.2 w (hS.res _ i2) (by unfold ln;omega) (by unfold ln;omega) (by first|assumption|omega|(simp only[aL];omega)))
 rintro Ce td Cf vv
 refine Mi ?_ (pR (y1.index+1))
 refine cZ 5 [] [1,2] [bF Ce td,mO qf.1,mO qf.2,bF ta y9,mO y3,bF gn y2,bF gZ y1] ai ?_
 refine Mz ?_
 refine Mt [.agg #[vi (y1.index+1),.slice (lk (lk y1.aj y3) qf.1).A (lk (lk y1.aj y3) qf.1).n (lk (lk y1.aj y3) qf.1).c,.slice (lk y1.an qf.2).A (lk y1.an qf.2).n (lk y1.an qf.2).c,td.val],((lK ((lk y1.aj y3).xs.map ae.abs) y1.an.xs (aq t).1.ag (aq t).1.op).2.2).val,vi 0] fun bs w hS=>?_
 have e3:cx y1.abs=y2.xs.map aa.abs:=jw.symm
 have e4:cG y1.abs=(lk y1.aj y3).xs.map ae.abs:=by unfold cG;rw[e3];exact my.symm
 have hs:cX x.abs (aq t).1=_:=(congrArg (fun q=>cX q (aq t).1) a5).symm.trans (lf e3 e4 h4 h5 h6)
 have hm:=fE h1 (by show ¬_≤x.index;omega) h3 hs
 refine⟨(⟨y1.index+1,(lk (lk y1.aj y3) qf.1),(lk y1.an qf.2),td⟩:aN),?_,?_,hS.aO (y:=(⟨y1.index+1,(lk (lk y1.aj y3) qf.1),(lk y1.an qf.2),td⟩:aN)) ⟨(iJ (iJ (aU (y:=y1) i6 (hS.res _ i6)).1 i4 hS.res) i1 hS.res),(iJ (aU (y:=y1) i6 (hS.res _ i6)).2.1 i2 hS.res),(aU (y:=td) i0 (hS.res _ i0))⟩⟩
 ·rw[hm]<;>rfl
 ·rw[hm]
  show (⟨_,(lk (lk y1.aj y3) qf.1).xs.map ae.abs,(lk y1.an qf.2).xs,td.xs.map aa.abs⟩:aZ)=_
  rw[EF.1,EF.2,Cf,vr]<;>rfl
theorem rq {B1 B2 B3:Nat→Prop}(s:Sl ae)(a b:Sl aa)(w:World)(hs:s.rd B1 w)(ha:a.rd B2 w)(hb:b.rd B3 w):Calls prog 33 #[s.val,a.val,b.val] w fun e w'=> ∃y:Option (List Nat×Sl ae),e=.returned (lk s y).val∧(lk s y).xs.map ae.abs=rS (s.xs.map ae.abs) (a.xs.map aa.abs) (b.xs.map aa.abs)∧Kp [] w w'∧gC w w' (mO y):=by
 have qa:=Sl.rd.ok ha
 have JP:=Sl.ok.nc qa
 have TR:a.n=a.xs.length:=rfl
 have EV:=Sl.rd.ok hb
 have TS:=Sl.ok.nc EV
 have cV:=Sl.rd.ok hs
 have iV:=Sl.ok.nc cV
 refine M0 ?_ func33
 refine gK (mO (none:Option (List Nat×Sl ae))) rfl (fun w=>trivial) ?_
 refine Ml (σ:=Nat×Option (List Nat×Sl ae)) (fun⟨i,o⟩=>i≤a.n∧(lk s o).xs.map ae.abs=rS (s.xs.map ae.abs) ((a.xs.map aa.abs).take i) (b.xs.map aa.abs)) (fun⟨i,o⟩=>a.n - i) (fun⟨i,o⟩=>[mO o]) [7,0,1,2] (fun⟨i,o⟩=>[(7,vI (i:Int)),(0,.v (.slice (lk s o).A (lk s o).n (lk s o).c))]) (fun _=>[]) ?_ (⟨0,none⟩) ⟨Nat.zero_le _,rfl⟩
 rintro⟨i,o⟩ ⟨hi,hI⟩ _ bu
 refine Md ((i:Int)<(a.n:Int)) (fun h1=>?_) fun h1=>?_
 rotate_left
 ·refine Mt [.slice (lk s o).A (lk s o).n (lk s o).c] fun bs w hS=>?_
  have Pu:(a.xs.map aa.abs).take i=a.xs.map aa.abs:=List.take_of_length_le (by rw[List.length_map];omega)
  rw[Pu]at hI
  exact⟨o,rfl,hI,hS.kp,hS.rG⟩
 refine Mi ?_ (pc (pI 17 (i:Int) i (db ha)) (pF 19 i 0 1 (db ha)))
 refine Mp ?_ call98 (fun bs w hS=>eg b (a.at i).ag w (Sl.rd.kp hb hS.kp))
 refine Md (aQ (fun x:aa=>decide (x.ag=(a.at i).ag)) b.xs<0) (fun h2=>?_) fun h2=>?_
 rotate_left
 ·refine Mi ?_ (pR ((i:Int)+1))
  have Kf:ef (b.xs.map aa.abs) (a.at i).abs.ag=aQ (fun x:aa=>decide (x.ag=(a.at i).ag)) b.xs:=(fm aa.abs (fun x:az=>decide (x.ag=(a.at i).ag)) b.xs).symm
  have Kg:(lk s (o)).xs.map ae.abs=if ef (b.xs.map aa.abs) (a.at i).abs.ag<0 then (j3 ((lk s o).xs.map ae.abs) (a.at i).abs.ag).1 else (lk s o).xs.map ae.abs:=by rw[Kf,if_neg h2]
  exact bu ⟨i+1,o⟩ ⟨by omega,qD (by rw[List.length_map];omega) (lb i) hI Kg⟩ (by show a.n - (i+1)<a.n - i;omega)
 refine Mi ?_ (pc (pI 26 (i:Int) i (db ha)) (pF 28 i 0 1 (db ha)))
 refine Mu ?_ call99 (fun bs w hS=>B4 (lk s o) (a.at i).ag w (qC (Sl.rd.kp hs hS.kp) (hS.res _ i0)))
 rintro gZ y1 a5 ft
 refine Mi ?_ (pR ((i:Int)+1))
 have Kf:ef (b.xs.map aa.abs) (a.at i).abs.ag=aQ (fun x:aa=>decide (x.ag=(a.at i).ag)) b.xs:=(fm aa.abs (fun x:az=>decide (x.ag=(a.at i).ag)) b.xs).symm
 refine cb ?_
 refine eu CD (List.nil_sublist _) (fun _ _=>trivial) ?_
 refine cb ?_
 refine fc (mO (some (gZ,y1))) (by show List.Perm gZ (gZ++[]);rw[List.append_nil]) (fun w h1 h2=>h1) ?_
 have Kg:(lk s (some (gZ,y1))).xs.map ae.abs=if ef (b.xs.map aa.abs) (a.at i).abs.ag<0 then (j3 ((lk s o).xs.map ae.abs) (a.at i).abs.ag).1 else (lk s o).xs.map ae.abs:=by rw[Kf,if_pos h2];exact a5
 exact bu ⟨i+1,some (gZ,y1)⟩ ⟨by omega,qD (by rw[List.length_map];omega) (lb i) hI Kg⟩ (by show a.n - (i+1)<a.n - i;omega)
theorem we (x:aN)(t:ByteArray)(w:World)(hx:aJ.sub B w x)(ht:t.size≤9223372036854775807):Calls prog 8 #[x.val,vs t] w fun e w'=> ∃y:aN,e=.returned (.tuple #[y.val,((bS x.abs t).2.1).val,vi (bS x.abs t).2.2])∧y.abs=(bS x.abs t).1∧bJ w w' y:=by
 have cC:=aJ.bL hx
 refine M0 ?_ func8
 refine Mp ?_ call30 (fun bs w hS=>jR x w (aJ.kp hx hS.kp))
 refine Md (bA x.abs=0) (fun h1=>?_) fun h1=>?_
 rotate_left
 ·refine My false true ?_ (df h1)
  refine Mt [vA,vz 0,vi (bA x.abs)] fun bs w hS=>?_
  have hm:=w5 (t:=t) h1
  refine⟨(⟨0,Sl.nil,Sl.nil,Sl.nil⟩:aN),?_,?_,hS.aO (y:=(⟨0,Sl.nil,Sl.nil,Sl.nil⟩:aN)) ⟨Sl.ao _ _,Sl.ao _ _,Sl.ao _ _⟩⟩
  ·rw[hm]<;>rfl
  ·rw[hm]<;>rfl
 have M9:=w8 h1
 have Pv:0≤x.index:=M9.1
 have Pw:x.index≤1073741824:=M9.2
 refine Md ((1073741824:Int)≤x.index) (fun h2=>?_) fun h2=>?_
 ·refine Mq 34 true ?_ rfl
  refine Mt [vA,vz 0,vi 2] fun bs w hS=>?_
  have hm:=w6 (t:=t) h1 (by show _≤x.index;omega)
  refine⟨(⟨0,Sl.nil,Sl.nil,Sl.nil⟩:aN),?_,?_,hS.aO (y:=(⟨0,Sl.nil,Sl.nil,Sl.nil⟩:aN)) ⟨Sl.ao _ _,Sl.ao _ _,Sl.ao _ _⟩⟩
  ·rw[hm]<;>rfl
  ·rw[hm]<;>rfl
 refine My true true ?_ (dt h1)
 refine Mp ?_ call31 (fun bs w hS=>ks t w ht)
 refine cr ((aq t).2=0) (fun h4=>?_) fun h4=>?_
 rotate_left
 ·refine Mt [vA,vz 0,vi (aq t).2] fun bs w hS=>?_
  have hm:=w7 h1 (by show ¬_≤x.index;omega) h4
  refine⟨(⟨0,Sl.nil,Sl.nil,Sl.nil⟩:aN),?_,?_,hS.aO (y:=(⟨0,Sl.nil,Sl.nil,Sl.nil⟩:aN)) ⟨Sl.ao _ _,Sl.ao _ _,Sl.ao _ _⟩⟩
  ·rw[hm]<;>rfl
  ·rw[hm]<;>rfl
 obtain⟨Px,Py,Pz,PA,AG,GP⟩:=FH (m0 h4).1
 refine Mu ?_ call6 (fun bs w hS=>px x w (aJ.kp hx hS.kp) (od (by assumption)))
 rintro gZ y1 a5 ft
 refine Mu ?_ call32 (fun bs w hS=>AE y1.af x.index w (hS.res _ i0).2.2)
 rintro gn y2 jw jT
 refine Mf ?_ call33 (fun bs w hS=>rq y1.aj y1.af y2 w (hS.res _ i1).1 (hS.res _ i1).2.2 (hS.res _ i0))
 rintro y3 my
 refine Md ((aq t).1.kind=1) (fun h5=>?_) fun h5=>?_
 ·have nA:y1.index=x.index:=congrArg aZ.index a5
  refine Mu ?_ call34 (fun bs w hS=>yx y2 x.index (aq t).1.ag w (hS.res _ i1) (by unfold ln;omega))
  rintro rh y5 tC pf
  refine Mi ?_ (pR (x.index+1))
  refine cZ 5 [] [1,2] [bF rh y5,mO y3,bF gn y2,bF gZ y1] ai ?_
  refine Mz ?_
  refine Mt [.agg #[vi (x.index+1),.slice (lk y1.aj y3).A (lk y1.aj y3).n (lk y1.aj y3).c,y1.an.val,y5.val],((dg (y2.xs.map aa.abs) x.index (aq t).1.ag).2.1).val,vi 0] fun bs w hS=>?_
  have e3:cx y1.abs=y2.xs.map aa.abs:=by unfold cx;rw[show y1.abs.index=x.index from nA];exact jw.symm
  have e4:cG y1.abs=(lk y1.aj y3).xs.map ae.abs:=by unfold cG;rw[e3];exact my.symm
  have hs:cX x.abs (aq t).1=_:=(congrArg (fun q=>cX q (aq t).1) a5).symm.trans (w4 e3 e4 h5)
  rw[show y1.abs.index=x.index from nA]at hs
  have hm:=fE h1 (by show ¬_≤x.index;omega) h4 hs
  refine⟨(⟨x.index+1,(lk y1.aj y3),y1.an,y5⟩:aN),?_,?_,hS.aO (y:=(⟨x.index+1,(lk y1.aj y3),y1.an,y5⟩:aN)) ⟨(iJ (aU (y:=y1) i3 (hS.res _ i3)).1 i1 hS.res),(aU (y:=y1) i3 (hS.res _ i3)).2.1,(aU (y:=y5) i0 (hS.res _ i0))⟩⟩
  ·rw[hm]<;>rfl
  ·rw[hm]
   show (⟨_,(lk y1.aj y3).xs.map ae.abs,y1.an.xs,y5.xs.map aa.abs⟩:aZ)=_
   rw[tC]<;>rfl
 have nA:y1.index=x.index:=congrArg aZ.index a5
 refine Md ((aq t).1.kind=3) (fun h6=>?_) fun h6=>?_
 ·refine Mu ?_ call35 (fun bs w hS=>BX y2 x.index (aq t).1.ag w (hS.res _ i1) (by unfold ln;omega))
  rintro Kh y6 GQ sq
  refine Mf ?_ call33 (fun bs w hS=>rq (lk y1.aj y3) y2 y6 w (qC (hS.res _ i3).1 (hS.res _ i1)) (hS.res _ i2) (hS.res _ i0))
  rintro y7 Cc
  refine Mi ?_ (pR (x.index+1))
  refine cZ 5 [] [1,2] [mO y7,bF Kh y6,mO y3,bF gn y2,bF gZ y1] ai ?_
  refine Mz ?_
  refine Mt [.agg #[vi (x.index+1),.slice (lk (lk y1.aj y3) y7).A (lk (lk y1.aj y3) y7).n (lk (lk y1.aj y3) y7).c,y1.an.val,y6.val],((dB (y2.xs.map aa.abs) x.index (aq t).1.ag).2.1).val,vi 0] fun bs w hS=>?_
  have e3:cx y1.abs=y2.xs.map aa.abs:=by unfold cx;rw[show y1.abs.index=x.index from nA];exact jw.symm
  have e4:cG y1.abs=(lk y1.aj y3).xs.map ae.abs:=by unfold cG;rw[e3];exact my.symm
  have hs:cX x.abs (aq t).1=_:=(congrArg (fun q=>cX q (aq t).1) a5).symm.trans (uF e3 e4 h5 h6)
  rw[show y1.abs.index=x.index from nA]at hs
  have hm:=fE h1 (by show ¬_≤x.index;omega) h4 hs
  refine⟨(⟨x.index+1,(lk (lk y1.aj y3) y7),y1.an,y6⟩:aN),?_,?_,hS.aO (y:=(⟨x.index+1,(lk (lk y1.aj y3) y7),y1.an,y6⟩:aN)) ⟨(iJ (iJ (aU (y:=y1) i4 (hS.res _ i4)).1 i2 hS.res) i0 hS.res),(aU (y:=y1) i4 (hS.res _ i4)).2.1,(aU (y:=y6) i1 (hS.res _ i1))⟩⟩
  ·rw[hm]<;>rfl
  ·rw[hm]
   show (⟨_,(lk (lk y1.aj y3) y7).xs.map ae.abs,y1.an.xs,y6.xs.map aa.abs⟩:aZ)=_
   rw[Cc,GQ]<;>rfl
 refine Mu ?_ call36 (fun bs w hS=>Aw y2 x.index (aq t).1 w (hS.res _ i1) (by unfold ln;omega) ⟨AG,GP⟩)
 rintro ta y9 vr tc
 refine Mb (dn (y2.xs.map aa.abs) x.index (aq t).1).2.2.1 (fun h7=>?_) fun h7=>?_
 rotate_left
 ·refine Mi ?_ (pR (x.index+1))
  refine cZ 5 [] [1,2] [bF ta y9,mO y3,bF gn y2,bF gZ y1] ai ?_
  refine Mz ?_
  refine Mt [.agg #[vi (x.index+1),.slice (lk y1.aj y3).A (lk y1.aj y3).n (lk y1.aj y3).c,y1.an.val,y9.val],((dn (y2.xs.map aa.abs) x.index (aq t).1).2.1).val,vi 0] fun bs w hS=>?_
  have e3:cx y1.abs=y2.xs.map aa.abs:=by unfold cx;rw[show y1.abs.index=x.index from nA];exact jw.symm
  have e4:cG y1.abs=(lk y1.aj y3).xs.map ae.abs:=by unfold cG;rw[e3];exact my.symm
  have hs:cX x.abs (aq t).1=_:=(congrArg (fun q=>cX q (aq t).1) a5).symm.trans (zH e3 e4 h5 h6 (by rw[show y1.abs.index=x.index from nA];exact h7))
  rw[show y1.abs.index=x.index from nA]at hs
  have hm:=fE h1 (by show ¬_≤x.index;omega) h4 hs
  refine⟨(⟨x.index+1,(lk y1.aj y3),y1.an,y9⟩:aN),?_,?_,hS.aO (y:=(⟨x.index+1,(lk y1.aj y3),y1.an,y9⟩:aN)) ⟨(iJ (aU (y:=y1) i3 (hS.res _ i3)).1 i1 hS.res),(aU (y:=y1) i3 (hS.res _ i3)).2.1,(aU (y:=y9) i0 (hS.res _ i0))⟩⟩
  ·rw[hm]<;>rfl
  ·rw[hm]
   show (⟨_,(lk y1.aj y3).xs.map ae.abs,y1.an.xs,y9.xs.map aa.abs⟩:aZ)=_
   rw[vr]<;>rfl
 refine Mp ?_ call37 (fun bs w hS=>yp (lk y1.aj y3) (aq t).1.op.a w (qC (hS.res _ i3).1 (hS.res _ i1)))
 refine Md ((aq t).1.op.kind=1) (fun h8=>?_) fun h8=>?_
 ·refine Mu ?_ call38 (fun bs w hS=>sP (lk y1.aj y3) (aq t).1.op.a (aq t).1.ag false w (qC (hS.res _ i3).1 (hS.res _ i1)) AG)
  rintro Ki qf EF AH
  refine Mi ?_ (pR (x.index+1))
  refine Mu ?_ call42 (fun bs w hS=>iq y9 (x.index+1) (aq t).1.ag (aq t).1.seq (bZ ((lk y1.aj y3).xs.map ae.abs) (aq t).1.op.a (aq t).1.ag false).2.1 w (hS.res _ i1) (by unfold ln;omega) (by unfold ln;omega) (by rw[pL];exact Nat.zero_le _))
  rintro Ch EG Cm AI
  refine Mi ?_ (pR (x.index+1))
  refine cZ 5 [] [1,2] [bF Ch EG,bF Ki qf,bF ta y9,mO y3,bF gn y2,bF gZ y1] ai ?_
  refine Mz ?_
  refine Mt [.agg #[vi (x.index+1),qf.val,y1.an.val,EG.val],((bZ ((lk y1.aj y3).xs.map ae.abs) (aq t).1.op.a (aq t).1.ag false).2.1).val,vi 0] fun bs w hS=>?_
  have e3:cx y1.abs=y2.xs.map aa.abs:=by unfold cx;rw[show y1.abs.index=x.index from nA];exact jw.symm
  have e4:cG y1.abs=(lk y1.aj y3).xs.map ae.abs:=by unfold cG;rw[e3];exact my.symm
  have hs:cX x.abs (aq t).1=_:=(congrArg (fun q=>cX q (aq t).1) a5).symm.trans (lf e3 e4 h5 h6 (by rw[show y1.abs.index=x.index from nA];exact h7))
  rw[show y1.abs.index=x.index from nA]at hs
  have Cn:lK ((lk y1.aj y3).xs.map ae.abs) y1.an.xs (aq t).1.ag (aq t).1.op=((bZ ((lk y1.aj y3).xs.map ae.abs) (aq t).1.op.a (aq t).1.ag false).1,y1.an.xs,(bZ ((lk y1.aj y3).xs.map ae.abs) (aq t).1.op.a (aq t).1.ag false).2.1):=by unfold lK;rw[if_pos (.inl h8),show decide ((aq t).1.op.kind=2)=false from decide_eq_false (by omega)]
  rw[show y1.abs.an=y1.an.xs from rfl,Cn]at hs
  have hm:=fE h1 (by show ¬_≤x.index;omega) h4 hs
  refine⟨(⟨x.index+1,qf,y1.an,EG⟩:aN),?_,?_,hS.aO (y:=(⟨x.index+1,qf,y1.an,EG⟩:aN)) ⟨(aU (y:=qf) i1 (hS.res _ i1)),(aU (y:=y1) i5 (hS.res _ i5)).2.1,(aU (y:=EG) i0 (hS.res _ i0))⟩⟩
  ·rw[hm]<;>rfl
  ·rw[hm]
   show (⟨_,qf.xs.map ae.abs,y1.an.xs,EG.xs.map aa.abs⟩:aZ)=_
   rw[EF,Cm,vr]<;>rfl
 refine Md ((aq t).1.op.kind=2) (fun h9=>?_) fun h9=>?_
 ·refine Mu ?_ call38 (fun bs w hS=>sP (lk y1.aj y3) (aq t).1.op.a (aq t).1.ag true w (qC (hS.res _ i3).1 (hS.res _ i1)) AG)
  rintro Ce td Cf vv
  refine Mi ?_ (pR (x.index+1))
  refine Mu ?_ call42 (fun bs w hS=>iq y9 (x.index+1) (aq t).1.ag (aq t).1.seq (bZ ((lk y1.aj y3).xs.map ae.abs) (aq t).1.op.a (aq t).1.ag true).2.1 w (hS.res _ i1) (by unfold ln;omega) (by unfold ln;omega) (by rw[pL];exact Nat.zero_le _))
  rintro GR Hg GS Dh
  refine Mi ?_ (pR (x.index+1))
  refine cZ 5 [] [1,2] [bF GR Hg,bF Ce td,bF ta y9,mO y3,bF gn y2,bF gZ y1] ai ?_
  refine Mz ?_
  refine Mt [.agg #[vi (x.index+1),td.val,y1.an.val,Hg.val],((bZ ((lk y1.aj y3).xs.map ae.abs) (aq t).1.op.a (aq t).1.ag true).2.1).val,vi 0] fun bs w hS=>?_
  have e3:cx y1.abs=y2.xs.map aa.abs:=by unfold cx;rw[show y1.abs.index=x.index from nA];exact jw.symm
  have e4:cG y1.abs=(lk y1.aj y3).xs.map ae.abs:=by unfold cG;rw[e3];exact my.symm
  have hs:cX x.abs (aq t).1=_:=(congrArg (fun q=>cX q (aq t).1) a5).symm.trans (lf e3 e4 h5 h6 (by rw[show y1.abs.index=x.index from nA];exact h7))
  rw[show y1.abs.index=x.index from nA]at hs
  have Cn:lK ((lk y1.aj y3).xs.map ae.abs) y1.an.xs (aq t).1.ag (aq t).1.op=((bZ ((lk y1.aj y3).xs.map ae.abs) (aq t).1.op.a (aq t).1.ag true).1,y1.an.xs,(bZ ((lk y1.aj y3).xs.map ae.abs) (aq t).1.op.a (aq t).1.ag true).2.1):=by grind[lK]
  rw[show y1.abs.an=y1.an.xs from rfl,Cn]at hs
  have hm:=fE h1 (by show ¬_≤x.index;omega) h4 hs
  refine⟨(⟨x.index+1,td,y1.an,Hg⟩:aN),?_,?_,hS.aO (y:=(⟨x.index+1,td,y1.an,Hg⟩:aN)) ⟨(aU (y:=td) i1 (hS.res _ i1)),(aU (y:=y1) i5 (hS.res _ i5)).2.1,(aU (y:=Hg) i0 (hS.res _ i0))⟩⟩
  ·rw[hm]<;>rfl
  ·rw[hm]
   show (⟨_,td.xs.map ae.abs,y1.an.xs,Hg.xs.map aa.abs⟩:aZ)=_
   rw[Cf,GS,vr]<;>rfl
 refine Md ((aq t).1.op.kind=3) (fun ir=>?_) fun ir=>?_
 ·refine Mu ?_ call39 (fun bs w hS=>Az (lk y1.aj y3) (aq t).1.op.a (aq t).1.ag w (qC (hS.res _ i3).1 (hS.res _ i1)) AG)
  rintro Kj mU EA Na
  refine Mi ?_ (pR (x.index+1))
  refine Mu ?_ call42 (fun bs w hS=>iq y9 (x.index+1) (aq t).1.ag (aq t).1.seq (dL ((lk y1.aj y3).xs.map ae.abs) (aq t).1.op.a (aq t).1.ag).2.1 w (hS.res _ i1) (by unfold ln;omega) (by unfold ln;omega) (by rw[uG];exact Nat.zero_le _))
  rintro PB KM PC Rg
  refine Mi ?_ (pR (x.index+1))
  refine cZ 5 [] [1,2] [bF PB KM,bF Kj mU,bF ta y9,mO y3,bF gn y2,bF gZ y1] ai ?_
  refine Mz ?_
  refine Mt [.agg #[vi (x.index+1),mU.val,y1.an.val,KM.val],((dL ((lk y1.aj y3).xs.map ae.abs) (aq t).1.op.a (aq t).1.ag).2.1).val,vi 0] fun bs w hS=>?_
  have e3:cx y1.abs=y2.xs.map aa.abs:=by unfold cx;rw[show y1.abs.index=x.index from nA];exact jw.symm
  have e4:cG y1.abs=(lk y1.aj y3).xs.map ae.abs:=by unfold cG;rw[e3];exact my.symm
  have hs:cX x.abs (aq t).1=_:=(congrArg (fun q=>cX q (aq t).1) a5).symm.trans (lf e3 e4 h5 h6 (by rw[show y1.abs.index=x.index from nA];exact h7))
  rw[show y1.abs.index=x.index from nA]at hs
  have Cn:lK ((lk y1.aj y3).xs.map ae.abs) y1.an.xs (aq t).1.ag (aq t).1.op=((dL ((lk y1.aj y3).xs.map ae.abs) (aq t).1.op.a (aq t).1.ag).1,y1.an.xs,(dL ((lk y1.aj y3).xs.map ae.abs) (aq t).1.op.a (aq t).1.ag).2.1):=by grind[lK]
  rw[show y1.abs.an=y1.an.xs from rfl,Cn]at hs
  have hm:=fE h1 (by show ¬_≤x.index;omega) h4 hs
  refine⟨(⟨x.index+1,mU,y1.an,KM⟩:aN),?_,?_,hS.aO (y:=(⟨x.index+1,mU,y1.an,KM⟩:aN)) ⟨(aU (y:=mU) i1 (hS.res _ i1)),(aU (y:=y1) i5 (hS.res _ i5)).2.1,(aU (y:=KM) i0 (hS.res _ i0))⟩⟩
  ·rw[hm]<;>rfl
  ·rw[hm]
   show (⟨_,mU.xs.map ae.abs,y1.an.xs,KM.xs.map aa.abs⟩:aZ)=_
   rw[EA,PC,vr]<;>rfl
 refine Md ((aq t).1.op.kind=4) (fun g7=>?_) fun g7=>?_
 ·refine Mi ?_ (pR (x.index+1))
  refine Mu ?_ call42 (fun bs w hS=>iq y9 (x.index+1) (aq t).1.ag (aq t).1.seq (⟨0,(fN ((lk y1.aj y3).xs.map ae.abs) (aq t).1.op.a).1,emp⟩:cQ) w (hS.res _ i0) (by unfold ln;omega) (by unfold ln;omega) (by first|assumption|omega|(simp only[aL];omega)))
  rintro PD KN PE Rh
  refine Mi ?_ (pR (x.index+1))
  refine cZ 5 [] [1,2] [bF PD KN,bF ta y9,mO y3,bF gn y2,bF gZ y1] ai ?_
  refine Mz ?_
  refine Mt [.agg #[vi (x.index+1),.slice (lk y1.aj y3).A (lk y1.aj y3).n (lk y1.aj y3).c,y1.an.val,KN.val],.agg #[vi 0,vi (fN ((lk y1.aj y3).xs.map ae.abs) (aq t).1.op.a).1,ve],vi 0] fun bs w hS=>?_
  have e3:cx y1.abs=y2.xs.map aa.abs:=by unfold cx;rw[show y1.abs.index=x.index from nA];exact jw.symm
  have e4:cG y1.abs=(lk y1.aj y3).xs.map ae.abs:=by unfold cG;rw[e3];exact my.symm
  have hs:cX x.abs (aq t).1=_:=(congrArg (fun q=>cX q (aq t).1) a5).symm.trans (lf e3 e4 h5 h6 (by rw[show y1.abs.index=x.index from nA];exact h7))
  rw[show y1.abs.index=x.index from nA]at hs
  have Cn:lK ((lk y1.aj y3).xs.map ae.abs) y1.an.xs (aq t).1.ag (aq t).1.op=((lk y1.aj y3).xs.map ae.abs,y1.an.xs,⟨0,(fN ((lk y1.aj y3).xs.map ae.abs) (aq t).1.op.a).1,emp⟩):=by grind[lK]
  rw[show y1.abs.an=y1.an.xs from rfl,Cn]at hs
  have hm:=fE h1 (by show ¬_≤x.index;omega) h4 hs
  refine⟨(⟨x.index+1,(lk y1.aj y3),y1.an,KN⟩:aN),?_,?_,hS.aO (y:=(⟨x.index+1,(lk y1.aj y3),y1.an,KN⟩:aN)) ⟨(iJ (aU (y:=y1) i4 (hS.res _ i4)).1 i2 hS.res),(aU (y:=y1) i4 (hS.res _ i4)).2.1,(aU (y:=KN) i0 (hS.res _ i0))⟩⟩
  ·rw[hm]<;>rfl
  ·rw[hm]
   show (⟨_,(lk y1.aj y3).xs.map ae.abs,y1.an.xs,KN.xs.map aa.abs⟩:aZ)=_
   rw[PE,vr]<;>rfl
 refine Md ((aq t).1.op.kind=6) (fun jW=>?_) fun jW=>?_
 ·refine Mp ?_ call40 (fun bs w hS=>EE y1.an (aq t).1.op.a w (hS.res _ i3).2.1)
  refine Mi ?_ (pR (x.index+1))
  refine Mu ?_ call42 (fun bs w hS=>iq y9 (x.index+1) (aq t).1.ag (aq t).1.seq (l4 y1.an.xs (aq t).1.op.a).1 w (hS.res _ i0) (by unfold ln;omega) (by unfold ln;omega) (w9 (fun p hp=>fZ (P:=fun p:aG=>p.value.size≤9223372036854775807) (fun j hj=>((ft.2.1).2.2 j hj).2.2) p hp) _))
  rintro PF KO PG Ri
  refine Mi ?_ (pR (x.index+1))
  refine cZ 5 [] [1,2] [bF PF KO,bF ta y9,mO y3,bF gn y2,bF gZ y1] ai ?_
  refine Mz ?_
  refine Mt [.agg #[vi (x.index+1),.slice (lk y1.aj y3).A (lk y1.aj y3).n (lk y1.aj y3).c,y1.an.val,KO.val],(l4 y1.an.xs (aq t).1.op.a).1.val,vi 0] fun bs w hS=>?_
  have e3:cx y1.abs=y2.xs.map aa.abs:=by unfold cx;rw[show y1.abs.index=x.index from nA];exact jw.symm
  have e4:cG y1.abs=(lk y1.aj y3).xs.map ae.abs:=by unfold cG;rw[e3];exact my.symm
  have hs:cX x.abs (aq t).1=_:=(congrArg (fun q=>cX q (aq t).1) a5).symm.trans (lf e3 e4 h5 h6 (by rw[show y1.abs.index=x.index from nA];exact h7))
  rw[show y1.abs.index=x.index from nA]at hs
  have Cn:lK ((lk y1.aj y3).xs.map ae.abs) y1.an.xs (aq t).1.ag (aq t).1.op=((lk y1.aj y3).xs.map ae.abs,y1.an.xs,(l4 y1.an.xs (aq t).1.op.a).1):=by grind[lK]
  rw[show y1.abs.an=y1.an.xs from rfl,Cn]at hs
  have hm:=fE h1 (by show ¬_≤x.index;omega) h4 hs
  refine⟨(⟨x.index+1,(lk y1.aj y3),y1.an,KO⟩:aN),?_,?_,hS.aO (y:=(⟨x.index+1,(lk y1.aj y3),y1.an,KO⟩:aN)) ⟨(iJ (aU (y:=y1) i4 (hS.res _ i4)).1 i2 hS.res),(aU (y:=y1) i4 (hS.res _ i4)).2.1,(aU (y:=KO) i0 (hS.res _ i0))⟩⟩
  ·rw[hm]<;>rfl
  ·rw[hm]
   show (⟨_,(lk y1.aj y3).xs.map ae.abs,y1.an.xs,KO.xs.map aa.abs⟩:aZ)=_
   rw[PG,vr]<;>rfl
 refine Md ((fN ((lk y1.aj y3).xs.map ae.abs) (aq t).1.op.a).1=(aq t).1.ag) (fun k7=>?_) fun k7=>?_
 rotate_left
 ·refine Mi ?_ (pR (x.index+1))
  refine Mu ?_ call42 (fun bs w hS=>iq y9 (x.index+1) (aq t).1.ag (aq t).1.seq (⟨10,(fN ((lk y1.aj y3).xs.map ae.abs) (aq t).1.op.a).1,emp⟩:cQ) w (hS.res _ i0) (by unfold ln;omega) (by unfold ln;omega) (by first|assumption|omega|(simp only[aL];omega)))
  rintro PH KP PI Rj
  refine Mi ?_ (pR (x.index+1))
  refine cZ 5 [] [1,2] [bF PH KP,bF ta y9,mO y3,bF gn y2,bF gZ y1] ai ?_
  refine Mz ?_
  refine Mt [.agg #[vi (x.index+1),.slice (lk y1.aj y3).A (lk y1.aj y3).n (lk y1.aj y3).c,y1.an.val,KP.val],.agg #[vi 10,vi (fN ((lk y1.aj y3).xs.map ae.abs) (aq t).1.op.a).1,ve],vi 0] fun bs w hS=>?_
  have e3:cx y1.abs=y2.xs.map aa.abs:=by unfold cx;rw[show y1.abs.index=x.index from nA];exact jw.symm
  have e4:cG y1.abs=(lk y1.aj y3).xs.map ae.abs:=by unfold cG;rw[e3];exact my.symm
  have hs:cX x.abs (aq t).1=_:=(congrArg (fun q=>cX q (aq t).1) a5).symm.trans (lf e3 e4 h5 h6 (by rw[show y1.abs.index=x.index from nA];exact h7))
  rw[show y1.abs.index=x.index from nA]at hs
  have Cn:lK ((lk y1.aj y3).xs.map ae.abs) y1.an.xs (aq t).1.ag (aq t).1.op=((lk y1.aj y3).xs.map ae.abs,y1.an.xs,⟨10,(fN ((lk y1.aj y3).xs.map ae.abs) (aq t).1.op.a).1,emp⟩):=by grind[lK]
  rw[show y1.abs.an=y1.an.xs from rfl,Cn]at hs
  have hm:=fE h1 (by show ¬_≤x.index;omega) h4 hs
  refine⟨(⟨x.index+1,(lk y1.aj y3),y1.an,KP⟩:aN),?_,?_,hS.aO (y:=(⟨x.index+1,(lk y1.aj y3),y1.an,KP⟩:aN)) ⟨(iJ (aU (y:=y1) i4 (hS.res _ i4)).1 i2 hS.res),(aU (y:=y1) i4 (hS.res _ i4)).2.1,(aU (y:=KP) i0 (hS.res _ i0))⟩⟩
  ·rw[hm]<;>rfl
  ·rw[hm]
   show (⟨_,(lk y1.aj y3).xs.map ae.abs,y1.an.xs,KP.xs.map aa.abs⟩:aZ)=_
   rw[PI,vr]<;>rfl
 refine Md ((fN ((lk y1.aj y3).xs.map ae.abs) (aq t).1.op.a).2.1=(aq t).1.op.n) (fun mo=>?_) fun mo=>?_
 rotate_left
 ·refine Mi ?_ (pR (x.index+1))
  refine Mu ?_ call42 (fun bs w hS=>iq y9 (x.index+1) (aq t).1.ag (aq t).1.seq (⟨10,(fN ((lk y1.aj y3).xs.map ae.abs) (aq t).1.op.a).1,emp⟩:cQ) w (hS.res _ i0) (by unfold ln;omega) (by unfold ln;omega) (by first|assumption|omega|(simp only[aL];omega)))
  rintro PJ KQ PK Rk
  refine Mi ?_ (pR (x.index+1))
  refine cZ 5 [] [1,2] [bF PJ KQ,bF ta y9,mO y3,bF gn y2,bF gZ y1] ai ?_
  refine Mz ?_
  refine Mt [.agg #[vi (x.index+1),.slice (lk y1.aj y3).A (lk y1.aj y3).n (lk y1.aj y3).c,y1.an.val,KQ.val],.agg #[vi 10,vi (fN ((lk y1.aj y3).xs.map ae.abs) (aq t).1.op.a).1,ve],vi 0] fun bs w hS=>?_
  have e3:cx y1.abs=y2.xs.map aa.abs:=by unfold cx;rw[show y1.abs.index=x.index from nA];exact jw.symm
  have e4:cG y1.abs=(lk y1.aj y3).xs.map ae.abs:=by unfold cG;rw[e3];exact my.symm
  have hs:cX x.abs (aq t).1=_:=(congrArg (fun q=>cX q (aq t).1) a5).symm.trans (lf e3 e4 h5 h6 (by rw[show y1.abs.index=x.index from nA];exact h7))
  rw[show y1.abs.index=x.index from nA]at hs
  have Cn:lK ((lk y1.aj y3).xs.map ae.abs) y1.an.xs (aq t).1.ag (aq t).1.op=((lk y1.aj y3).xs.map ae.abs,y1.an.xs,⟨10,(fN ((lk y1.aj y3).xs.map ae.abs) (aq t).1.op.a).1,emp⟩):=by grind[lK]
  rw[show y1.abs.an=y1.an.xs from rfl,Cn]at hs
  have hm:=fE h1 (by show ¬_≤x.index;omega) h4 hs
  refine⟨(⟨x.index+1,(lk y1.aj y3),y1.an,KQ⟩:aN),?_,?_,hS.aO (y:=(⟨x.index+1,(lk y1.aj y3),y1.an,KQ⟩:aN)) ⟨(iJ (aU (y:=y1) i4 (hS.res _ i4)).1 i2 hS.res),(aU (y:=y1) i4 (hS.res _ i4)).2.1,(aU (y:=KQ) i0 (hS.res _ i0))⟩⟩
  ·rw[hm]<;>rfl
  ·rw[hm]
   show (⟨_,(lk y1.aj y3).xs.map ae.abs,y1.an.xs,KQ.xs.map aa.abs⟩:aZ)=_
   rw[PK,vr]<;>rfl
 refine Mu ?_ call41 (fun bs w hS=>Ew y1.an (aq t).1.op.a (aq t).1.op.b w (hS.res _ i3).2.1 AG GP)
 rintro PL KR PM Rl
 refine Mi ?_ (pR (x.index+1))
 refine Mu ?_ call42 (fun bs w hS=>iq y9 (x.index+1) (aq t).1.ag (aq t).1.seq (cA y1.an.xs (aq t).1.op.a (aq t).1.op.b).2.1 w (hS.res _ i1) (by unfold ln;omega) (by unfold ln;omega) (by rw[uH];exact Nat.zero_le _))
 rintro PN KS PO Rm
 refine Mi ?_ (pR (x.index+1))
 refine cZ 5 [] [1,2] [bF PN KS,bF PL KR,bF ta y9,mO y3,bF gn y2,bF gZ y1] ai ?_
 refine Mz ?_
 refine Mt [.agg #[vi (x.index+1),.slice (lk y1.aj y3).A (lk y1.aj y3).n (lk y1.aj y3).c,KR.val,KS.val],((cA y1.an.xs (aq t).1.op.a (aq t).1.op.b).2.1).val,vi 0] fun bs w hS=>?_
 have e3:cx y1.abs=y2.xs.map aa.abs:=by unfold cx;rw[show y1.abs.index=x.index from nA];exact jw.symm
 have e4:cG y1.abs=(lk y1.aj y3).xs.map ae.abs:=by unfold cG;rw[e3];exact my.symm
 have hs:cX x.abs (aq t).1=_:=(congrArg (fun q=>cX q (aq t).1) a5).symm.trans (lf e3 e4 h5 h6 (by rw[show y1.abs.index=x.index from nA];exact h7))
 rw[show y1.abs.index=x.index from nA]at hs
 have Cn:lK ((lk y1.aj y3).xs.map ae.abs) y1.an.xs (aq t).1.ag (aq t).1.op=((lk y1.aj y3).xs.map ae.abs,(cA y1.an.xs (aq t).1.op.a (aq t).1.op.b).1,(cA y1.an.xs (aq t).1.op.a (aq t).1.op.b).2.1):=by grind[lK]
 rw[show y1.abs.an=y1.an.xs from rfl,Cn]at hs
 have hm:=fE h1 (by show ¬_≤x.index;omega) h4 hs
 refine⟨(⟨x.index+1,(lk y1.aj y3),KR,KS⟩:aN),?_,?_,hS.aO (y:=(⟨x.index+1,(lk y1.aj y3),KR,KS⟩:aN)) ⟨(iJ (aU (y:=y1) i5 (hS.res _ i5)).1 i3 hS.res),(aU (y:=KR) i1 (hS.res _ i1)),(aU (y:=KS) i0 (hS.res _ i0))⟩⟩
 ·rw[hm]<;>rfl
 ·rw[hm]
  show (⟨_,(lk y1.aj y3).xs.map ae.abs,KR.xs,KS.xs.map aa.abs⟩:aZ)=_
  rw[PM,PO,vr]<;>rfl
theorem mw (x:aw)(u:Int)(w:World)(hx:aJ.sub B w x):Calls prog 11 #[x.val,vi u] w fun e w'=> ∃y:jO,e=.returned (.tuple #[y.cM.val,y.out.val,vi (cB x.abs u).2.2])∧y.abs=(⟨(cB x.abs u).1,(cB x.abs u).2.1⟩:vM)∧bJ w w' y:=by
 have qL:x.abs.log=x.log.abs:=rfl
 have qS:x.abs.state=x.state.abs:=rfl
 have qN:x.abs.snap=x.snap:=rfl
 have qB:x.abs.log.base=x.log.base:=rfl
 have qI:x.abs.state.index=x.state.index:=rfl
 have qM:cD x.abs.log=x.log.base+(x.log.entries.n:Int):=rfl
 have cC:=aJ.bL hx
 have oE:=cC.2.1
 have mr:=Sl.ok.nc oE
 have mu:x.log.entries.n=x.log.entries.xs.length:=rfl
 refine M0 ?_ func11
 refine Mp ?_ call47 (fun bs w hS=>iY x w (aJ.kp hx hS.kp))
 refine cr (a6 x.abs=0) (fun h1=>?_) fun h1=>?_
 rotate_left
 ·refine Mt [vP,vn,vi (a6 x.abs)] fun bs w hS=>?_
  have hm:=zS (u:=u) h1
  refine⟨(⟨(⟨⟨0,Sl.nil⟩,emp,0,Sl.nil,Sl.nil,Sl.nil⟩:aw),Sl.nil⟩:jO),?_,?_,hS.aO (y:=(⟨(⟨⟨0,Sl.nil⟩,emp,0,Sl.nil,Sl.nil,Sl.nil⟩:aw),Sl.nil⟩:jO)) ⟨(by show emp.size≤_;rw[aL];omega),Sl.ao _ _,Sl.ao _ _,Sl.ao _ _,Sl.ao _ _,Sl.ao _ _⟩⟩
  ·rw[hm]<;>rfl
  ·rw[hm]<;>rfl
 obtain⟨np,sJ,vx,vy,HE⟩:=cq h1
 obtain⟨gU,gT,jB,nH⟩:=eb np
 have nJ:x.abs.log.entries=x.log.entries.xs:=rfl
 rw[qB]at gU gT vx
 rw[qI]at vx vy
 rw[qM]at vy
 rw[nJ]at jB
 refine Md (u<0) (fun h2=>?_) fun h2=>?_
 ·refine Mt [vP,vn,vi 2] fun bs w hS=>?_
  have hm:=uM (u:=u) h1 (by omega)
  refine⟨(⟨(⟨⟨0,Sl.nil⟩,emp,0,Sl.nil,Sl.nil,Sl.nil⟩:aw),Sl.nil⟩:jO),?_,?_,hS.aO (y:=(⟨(⟨⟨0,Sl.nil⟩,emp,0,Sl.nil,Sl.nil,Sl.nil⟩:aw),Sl.nil⟩:jO)) ⟨(by show emp.size≤_;rw[aL];omega),Sl.ao _ _,Sl.ao _ _,Sl.ao _ _,Sl.ao _ _,Sl.ao _ _⟩⟩
  ·rw[hm]<;>rfl
  ·rw[hm]<;>rfl
 refine Md ((1073741824:Int)<u) (fun h3=>?_) fun h3=>?_
 ·refine Mt [vP,vn,vi 2] fun bs w hS=>?_
  have hm:=uM (u:=u) h1 (by omega)
  refine⟨(⟨(⟨⟨0,Sl.nil⟩,emp,0,Sl.nil,Sl.nil,Sl.nil⟩:aw),Sl.nil⟩:jO),?_,?_,hS.aO (y:=(⟨(⟨⟨0,Sl.nil⟩,emp,0,Sl.nil,Sl.nil,Sl.nil⟩:aw),Sl.nil⟩:jO)) ⟨(by show emp.size≤_;rw[aL];omega),Sl.ao _ _,Sl.ao _ _,Sl.ao _ _,Sl.ao _ _,Sl.ao _ _⟩⟩
  ·rw[hm]<;>rfl
  ·rw[hm]<;>rfl
 refine Mu ?_ call48 (fun bs w hS=>jV x w (aJ.kp hx hS.kp) (ji (by assumption)))
 rintro gZ y1 a5 ft
 have e1:y1.log.base=x.log.base:=congrArg (fun r:aT=>r.log.base) a5
 have e2:y1.state.index=x.state.index:=congrArg (fun r:aT=>r.state.index) a5
 have e3:y1.log.entries.xs=x.log.entries.xs:=congrArg (fun r:aT=>r.log.entries) a5
 have e4:y1.log.entries.n=x.log.entries.n:=congrArg List.length e3
 obtain⟨N,hN⟩: ∃N,((if u<(y1.log.base+(y1.log.entries.n:Int)) then u else (y1.log.base+(y1.log.entries.n:Int))) - y1.state.index).toNat=N:=⟨_,rfl⟩
 obtain⟨k0,EZ⟩: ∃k,(y1.state.index - y1.log.base).toNat=k:=⟨_,rfl⟩
 refine gK (F0 (none:Option (List Nat×aN))) rfl (fun w=>trivial) ?_
 refine bU (α:=bg) 93 ?_
 refine Ml (σ:=Nat×Option Addr×Nat×List bg×Option (List Nat×aN)) (fun⟨k,A0,c0,L0,o⟩=>k≤N∧BE y1.log.entries.xs N k0 y1.state.abs k (eD y1.state o).abs L0∧aJ.ok (eD y1.state o)) (fun⟨k,A0,c0,L0,o⟩=>N - k) (fun⟨k,A0,c0,L0,o⟩=>[ay 93 A0 c0 (L0:List bg),F0 o,bF gZ y1]) [8,4,2,1] (fun⟨k,A0,c0,L0,o⟩=>[(8,.v (.slice A0 L0.length c0))]) (fun⟨k,A0,c0,L0,o⟩=>[(0,[vI y1.log.base,.v y1.log.entries.val,vS y1.snap,vI (eD y1.state o).index,.v (.slice (eD y1.state o).aj.A (eD y1.state o).aj.n (eD y1.state o).aj.c),.v (.slice (eD y1.state o).an.A (eD y1.state o).an.n (eD y1.state o).an.c),.v (.slice (eD y1.state o).af.A (eD y1.state o).af.n (eD y1.state o).af.c)])]) ?_ (⟨0,none,0,[],none⟩) ⟨Nat.zero_le _,F3 _ _ _ _,(show aJ.ok y1.state from ft.2.2)⟩
 rintro⟨k,A0,c0,L0,o⟩ ⟨hk,hI,hokz⟩ _ bu
 have sh:(eD y1.state o).index=y1.state.index+(k:Int):=hI.2.1
 have JZ:=hI.2.2.1
 refine fP 9 ?_ ai
 refine Mp ?_ call49 (fun bs w hS=>gQ y1.log w (hS.res _ i2).2.1 (by first|exact⟨by omega,by omega,by omega⟩|omega))
 refine Mz ?_
 refine Md ((eD y1.state o).index<(if y1.log.base+(y1.log.entries.n:Int)<u then y1.log.base+(y1.log.entries.n:Int) else u)) (fun h4=>?_) fun h4=>?_
 rotate_left
 ·refine Mt [.agg #[vi y1.log.base,y1.log.entries.val,vs y1.snap,vi (eD y1.state o).index,.slice (eD y1.state o).aj.A (eD y1.state o).aj.n (eD y1.state o).aj.c,.slice (eD y1.state o).an.A (eD y1.state o).an.n (eD y1.state o).an.c,.slice (eD y1.state o).af.A (eD y1.state o).af.n (eD y1.state o).af.c],.slice A0 L0.length c0,vi 0] fun bs w hS=>?_
  have u5:a6 y1.abs=0:=by rw[a5];exact h1
  have hm:=yb (r:=y1.abs) (u:=u) u5 (by omega) rfl rfl hN EZ (uL hI (by omega))
  rw[a5]at hm
  have np:=(show aJ.sub (· ∈(cN [ay 93 A0 c0 (L0:List bg),F0 o,bF gZ y1]).fp) w y1 from aU (y:=y1) i2 (hS.res _ i2))
  have sJ:=ya (z:=y1.state) np.2.2 i1 hS.res
  refine⟨(⟨⟨y1.log,y1.snap,(eD y1.state o)⟩,⟨A0,c0,L0⟩⟩:jO),?_,?_,hS.aO (y:=(⟨⟨y1.log,y1.snap,(eD y1.state o)⟩,⟨A0,c0,L0⟩⟩:jO)) ⟨np.1,np.2.1,sJ.1,sJ.2.1,sJ.2.2,(a4 i0 (hS.res _ i0) (fun z hz=>hI.2.2.2 z hz))⟩⟩
  ·rw[hm];rfl
  ·rw[hm];show (⟨⟨y1.log.abs,y1.snap,(eD y1.state o).abs⟩,_⟩:vM)=_;rw[←a5];rfl
 refine Mi ?_ (pc (pR ((eD y1.state o).index - y1.log.base)) (pA 49 50 ((eD y1.state o).index - y1.log.base) ((eD y1.state o).index - y1.log.base).toNat (s:=y1.log.entries) (fun w hk hr=>(hr _ i2).2.1)))
 refine Mu ?_ call7 (fun bs w hS=>wc (eD y1.state o) (y1.log.entries.at ((eD y1.state o).index - y1.log.base).toNat) w (F1 (hS.res _ i2).2.2 (hS.res _ i1)) (Sl.ok.at (s:=y1.log.entries) (i:=((eD y1.state o).index - y1.log.base).toNat) ft.2.1 (by omega)))
 rintro gn y2 jw jT
 refine cr ((bS (eD y1.state o).abs (y1.log.entries.at ((eD y1.state o).index - y1.log.base).toNat)).2.2=0) (fun h5=>?_) fun h5=>?_
 rotate_left
 ·refine Mt [vP,vn,vi (bS (eD y1.state o).abs (y1.log.entries.at ((eD y1.state o).index - y1.log.base).toNat)).2.2] fun bs w hS=>?_
  have u5:a6 y1.abs=0:=by rw[a5];exact h1
  have hj:k0+k=((eD y1.state o).index - y1.log.base).toNat:=by omega
  have hm:=zU (r:=y1.abs) (u:=u) u5 (by omega) rfl rfl hN EZ (zR hI (by omega) (show y1.log.entries.xs.getD (k0+k) default=y1.log.entries.at ((eD y1.state o).index - y1.log.base).toNat by rw[hj];rfl) h5) h5
  rw[a5]at hm
  refine⟨(⟨(⟨⟨0,Sl.nil⟩,emp,0,Sl.nil,Sl.nil,Sl.nil⟩:aw),Sl.nil⟩:jO),?_,?_,hS.aO (y:=(⟨(⟨⟨0,Sl.nil⟩,emp,0,Sl.nil,Sl.nil,Sl.nil⟩:aw),Sl.nil⟩:jO)) ⟨(by show emp.size≤_;rw[aL];omega),Sl.ao _ _,Sl.ao _ _,Sl.ao _ _,Sl.ao _ _,Sl.ao _ _⟩⟩
  ·rw[hm]<;>rfl
  ·rw[hm]<;>rfl
 refine Mp ?_ call21 (fun bs w hS=>ig (y1.log.entries.at ((eD y1.state o).index - y1.log.base).toNat) w (Sl.ok.at (s:=y1.log.entries) (i:=((eD y1.state o).index - y1.log.base).toNat) ft.2.1 (by omega)))
 refine M1 ?_
 refine cb ?_
 refine gX (α:=bg) 48 ([(⟨(aq (y1.log.entries.at ((eD y1.state o).index - y1.log.base).toNat)).1.ag,(aq (y1.log.entries.at ((eD y1.state o).index - y1.log.base).toNat)).1.seq,⟨((bS (eD y1.state o).abs (y1.log.entries.at ((eD y1.state o).index - y1.log.base).toNat)).2.1).code,((bS (eD y1.state o).abs (y1.log.entries.at ((eD y1.state o).index - y1.log.base).toNat)).2.1).n,((bS (eD y1.state o).abs (y1.log.entries.at ((eD y1.state o).index - y1.log.base).toNat)).2.1).text⟩⟩:bg)]) ?_
 intro A3 c3
 refine cL ?_
 refine eu CD (List.nil_sublist _) (fun _ _=>trivial) ?_
 refine cL ?_
 refine fc (F0 (some (gn,y2))) (by show List.Perm gn (gn++[]);rw[List.append_nil]) (fun w h1 h2=>h1) ?_
 refine cL (cb (cL ?_))
 have hj:k0+k=((eD y1.state o).index - y1.log.base).toNat:=by omega
 have KT:=xi hI (by omega) (show y1.log.entries.xs.getD (k0+k) default=y1.log.entries.at ((eD y1.state o).index - y1.log.base).toNat by rw[hj];rfl) h5 (zO hokz) jw
 have tc:=jT
 exact bu ⟨k+1,A3,c3,L0++[(⟨(aq (y1.log.entries.at ((eD y1.state o).index - y1.log.base).toNat)).1.ag,(aq (y1.log.entries.at ((eD y1.state o).index - y1.log.base).toNat)).1.seq,⟨((bS (eD y1.state o).abs (y1.log.entries.at ((eD y1.state o).index - y1.log.base).toNat)).2.1).code,((bS (eD y1.state o).abs (y1.log.entries.at ((eD y1.state o).index - y1.log.base).toNat)).2.1).n,((bS (eD y1.state o).abs (y1.log.entries.at ((eD y1.state o).index - y1.log.base).toNat)).2.1).text⟩⟩:bg)],some (gn,y2)⟩ ⟨by omega,KT,tc⟩ (by show N - (k+1)<N - k;omega)
theorem EH (x:aw)(u:Int)(w:World)(hx:aJ.sub B w x):Calls prog 12 #[x.val,vi u] w fun e w'=> ∃y:jO,e=.returned (.tuple #[y.cM.val,y.out.val,vi (cB x.abs u).2.2])∧y.abs=(⟨(cB x.abs u).1,(cB x.abs u).2.1⟩:vM)∧bJ w w' y:=by
 have qL:x.abs.log=x.log.abs:=rfl
 have qS:x.abs.state=x.state.abs:=rfl
 have qN:x.abs.snap=x.snap:=rfl
 have qB:x.abs.log.base=x.log.base:=rfl
 have qI:x.abs.state.index=x.state.index:=rfl
 have qM:cD x.abs.log=x.log.base+(x.log.entries.n:Int):=rfl
 have cC:=aJ.bL hx
 have oE:=cC.2.1
 have mr:=Sl.ok.nc oE
 have mu:x.log.entries.n=x.log.entries.xs.length:=rfl
 refine M0 ?_ func12
 refine Mp ?_ call50 (fun bs w hS=>gz x w (aJ.kp hx hS.kp))
 refine Md (a6 x.abs=0) (fun h1=>?_) fun h1=>?_
 rotate_left
 ·refine My false true ?_ (df h1)
  refine Mt [vP,vn,vi (a6 x.abs)] fun bs w hS=>?_
  have hm:=zS (u:=u) h1
  refine⟨(⟨(⟨⟨0,Sl.nil⟩,emp,0,Sl.nil,Sl.nil,Sl.nil⟩:aw),Sl.nil⟩:jO),?_,?_,hS.aO (y:=(⟨(⟨⟨0,Sl.nil⟩,emp,0,Sl.nil,Sl.nil,Sl.nil⟩:aw),Sl.nil⟩:jO)) ⟨(by show emp.size≤_;rw[aL];omega),Sl.ao _ _,Sl.ao _ _,Sl.ao _ _,Sl.ao _ _,Sl.ao _ _⟩⟩
  ·rw[hm]<;>rfl
  ·rw[hm]<;>rfl
 obtain⟨np,sJ,vx,vy,HE⟩:=cq h1
 obtain⟨gU,gT,jB,nH⟩:=eb np
 have nJ:x.abs.log.entries=x.log.entries.xs:=rfl
 rw[qB]at gU gT vx
 rw[qI]at vx vy
 rw[qM]at vy
 rw[nJ]at jB
 refine Mp ?_ call51 (fun bs w hS=>b6 u 0 1073741824 w)
 refine fL (gk u 0 1073741824) (fun h2=>?_) fun h2=>?_
 rotate_left
 ·simp only[iT,iF]at h2
  refine Mq 27 true ?_ rfl
  refine Mt [vP,vn,vi 2] fun bs w hS=>?_
  have hm:=uM (u:=u) h1 (by (try simp only[gk,Bool.and_eq_false_iff,decide_eq_false_iff_not]at h2);omega)
  refine⟨(⟨(⟨⟨0,Sl.nil⟩,emp,0,Sl.nil,Sl.nil,Sl.nil⟩:aw),Sl.nil⟩:jO),?_,?_,hS.aO (y:=(⟨(⟨⟨0,Sl.nil⟩,emp,0,Sl.nil,Sl.nil,Sl.nil⟩:aw),Sl.nil⟩:jO)) ⟨(by show emp.size≤_;rw[aL];omega),Sl.ao _ _,Sl.ao _ _,Sl.ao _ _,Sl.ao _ _,Sl.ao _ _⟩⟩
  ·rw[hm]<;>rfl
  ·rw[hm]<;>rfl
 simp only[iT,iF]at h2
 refine My true true ?_ (dt h1)
 refine Mu ?_ call10 (fun bs w hS=>gS x w (aJ.kp hx hS.kp) (ji (by assumption)))
 rintro gZ y1 a5 ft
 refine Mi ?_ (pR (x.state.index+1))
 have e1:y1.log.base=x.log.base:=congrArg (fun r:aT=>r.log.base) a5
 have e2:y1.state.index=x.state.index:=congrArg (fun r:aT=>r.state.index) a5
 have e3:y1.log.entries.xs=x.log.entries.xs:=congrArg (fun r:aT=>r.log.entries) a5
 have e4:y1.log.entries.n=x.log.entries.n:=congrArg List.length e3
 obtain⟨N,hN⟩: ∃N,((if u<(y1.log.base+(y1.log.entries.n:Int)) then u else (y1.log.base+(y1.log.entries.n:Int))) - y1.state.index).toNat=N:=⟨_,rfl⟩
 obtain⟨k0,EZ⟩: ∃k,(y1.state.index - y1.log.base).toNat=k:=⟨_,rfl⟩
 refine gK (F0 (none:Option (List Nat×aN))) rfl (fun w=>trivial) ?_
 refine bU (α:=bg) 93 ?_
 refine Ml (σ:=Nat×Option Addr×Nat×List bg×Option (List Nat×aN)) (fun⟨k,A0,c0,L0,o⟩=>k≤N∧BE y1.log.entries.xs N k0 y1.state.abs k (eD y1.state o).abs L0∧aJ.ok (eD y1.state o)) (fun⟨k,A0,c0,L0,o⟩=>N - k) (fun⟨k,A0,c0,L0,o⟩=>[ay 93 A0 c0 (L0:List bg),F0 o,bF gZ y1]) [10,9,8,4,2,1] (fun⟨k,A0,c0,L0,o⟩=>[(10,vI (x.state.index+1+(k:Int))),(9,.v (.slice A0 L0.length c0))]) (fun⟨k,A0,c0,L0,o⟩=>[(2,[vI y1.log.base,.v y1.log.entries.val,vS y1.snap,vI (eD y1.state o).index,.v (.slice (eD y1.state o).aj.A (eD y1.state o).aj.n (eD y1.state o).aj.c),.v (.slice (eD y1.state o).an.A (eD y1.state o).an.n (eD y1.state o).an.c),.v (.slice (eD y1.state o).af.A (eD y1.state o).af.n (eD y1.state o).af.c)])]) ?_ (⟨0,none,0,[],none⟩) ⟨Nat.zero_le _,F3 _ _ _ _,(show aJ.ok y1.state from ft.2.2)⟩ (hp:=(by try simp only[Int.add_zero,Int.natCast_zero];kernel_rfl))
 rintro⟨k,A0,c0,L0,o⟩ ⟨hk,hI,hokz⟩ _ bu
 have sh:(eD y1.state o).index=y1.state.index+(k:Int):=hI.2.1
 have JZ:=hI.2.2.1
 refine Md (x.state.index+1+(k:Int)≤u) (fun h4=>?_) fun h4=>?_
 rotate_left
 ·refine Mt [.agg #[vi y1.log.base,y1.log.entries.val,vs y1.snap,vi (eD y1.state o).index,.slice (eD y1.state o).aj.A (eD y1.state o).aj.n (eD y1.state o).aj.c,.slice (eD y1.state o).an.A (eD y1.state o).an.n (eD y1.state o).an.c,.slice (eD y1.state o).af.A (eD y1.state o).af.n (eD y1.state o).af.c],.slice A0 L0.length c0,vi 0] fun bs w hS=>?_
  have u5:a6 y1.abs=0:=by rw[a5];exact h1
  have hm:=yb (r:=y1.abs) (u:=u) u5 (by (try simp only[gk,Bool.and_eq_true,decide_eq_true_eq]at h2);omega) rfl rfl hN EZ (uL hI (by omega))
  rw[a5]at hm
  have np:=(show aJ.sub (· ∈(cN [ay 93 A0 c0 (L0:List bg),F0 o,bF gZ y1]).fp) w y1 from aU (y:=y1) i2 (hS.res _ i2))
  have sJ:=ya (z:=y1.state) np.2.2 i1 hS.res
  refine⟨(⟨⟨y1.log,y1.snap,(eD y1.state o)⟩,⟨A0,c0,L0⟩⟩:jO),?_,?_,hS.aO (y:=(⟨⟨y1.log,y1.snap,(eD y1.state o)⟩,⟨A0,c0,L0⟩⟩:jO)) ⟨np.1,np.2.1,sJ.1,sJ.2.1,sJ.2.2,(a4 i0 (hS.res _ i0) (fun z hz=>hI.2.2.2 z hz))⟩⟩
  ·rw[hm];rfl
  ·rw[hm];show (⟨⟨y1.log.abs,y1.snap,(eD y1.state o).abs⟩,_⟩:vM)=_;rw[←a5];rfl
 refine Mp ?_ call52 (fun bs w hS=>dD x.log w (aJ.kp hx hS.kp).2.1 (by first|exact⟨by omega,by omega,by omega⟩|omega))
 refine Md (x.state.index+1+(k:Int)≤x.log.base+(x.log.entries.n:Int)) (fun h5=>?_) fun h5=>?_
 rotate_left
 ·refine Mt [.agg #[vi y1.log.base,y1.log.entries.val,vs y1.snap,vi (eD y1.state o).index,.slice (eD y1.state o).aj.A (eD y1.state o).aj.n (eD y1.state o).aj.c,.slice (eD y1.state o).an.A (eD y1.state o).an.n (eD y1.state o).an.c,.slice (eD y1.state o).af.A (eD y1.state o).af.n (eD y1.state o).af.c],.slice A0 L0.length c0,vi 0] fun bs w hS=>?_
  have u5:a6 y1.abs=0:=by rw[a5];exact h1
  have hm:=yb (r:=y1.abs) (u:=u) u5 (by (try simp only[gk,Bool.and_eq_true,decide_eq_true_eq]at h2);omega) rfl rfl hN EZ (uL hI (by omega))
  rw[a5]at hm
  have np:=(show aJ.sub (· ∈(cN [ay 93 A0 c0 (L0:List bg),F0 o,bF gZ y1]).fp) w y1 from aU (y:=y1) i2 (hS.res _ i2))
  have sJ:=ya (z:=y1.state) np.2.2 i1 hS.res
  refine⟨(⟨⟨y1.log,y1.snap,(eD y1.state o)⟩,⟨A0,c0,L0⟩⟩:jO),?_,?_,hS.aO (y:=(⟨⟨y1.log,y1.snap,(eD y1.state o)⟩,⟨A0,c0,L0⟩⟩:jO)) ⟨np.1,np.2.1,sJ.1,sJ.2.1,sJ.2.2,(a4 i0 (hS.res _ i0) (fun z hz=>hI.2.2.2 z hz))⟩⟩
  ·rw[hm];rfl
  ·rw[hm];show (⟨⟨y1.log.abs,y1.snap,(eD y1.state o).abs⟩,_⟩:vM)=_;rw[←a5];rfl
 refine Mi ?_ (pc (pR ((x.state.index+1+(k:Int)) - x.log.base)) (pc (pR (((x.state.index+1+(k:Int)) - x.log.base) - 1)) (pA 57 58 (((x.state.index+1+(k:Int)) - x.log.base) - 1) (((x.state.index+1+(k:Int)) - x.log.base) - 1).toNat (s:=x.log.entries) (fun w hk hr=>(aJ.kp hx hk).2.1))))
 refine Mu ?_ call8 (fun bs w hS=>we (eD y1.state o) (x.log.entries.at (((x.state.index+1+(k:Int)) - x.log.base) - 1).toNat) w (F1 (hS.res _ i2).2.2 (hS.res _ i1)) (Sl.ok.at (s:=x.log.entries) (i:=(((x.state.index+1+(k:Int)) - x.log.base) - 1).toNat) cC.2.1 (by omega)))
 rintro gn y2 jw jT
 refine cr ((bS (eD y1.state o).abs (x.log.entries.at (((x.state.index+1+(k:Int)) - x.log.base) - 1).toNat)).2.2=0) (fun h6=>?_) fun h6=>?_
 rotate_left
 ·refine Mt [vP,vn,vi (bS (eD y1.state o).abs (x.log.entries.at (((x.state.index+1+(k:Int)) - x.log.base) - 1).toNat)).2.2] fun bs w hS=>?_
  have u5:a6 y1.abs=0:=by rw[a5];exact h1
  have hj:k0+k=(x.state.index+1+(k:Int) - x.log.base - 1).toNat:=by omega
  have hm:=zU (r:=y1.abs) (u:=u) u5 (by (try simp only[gk,Bool.and_eq_true,decide_eq_true_eq]at h2);omega) rfl rfl hN EZ (zR hI (by omega) (show y1.log.entries.xs.getD (k0+k) default=x.log.entries.at (x.state.index+1+(k:Int) - x.log.base - 1).toNat by rw[hj,e3];rfl) h6) h6
  rw[a5]at hm
  refine⟨(⟨(⟨⟨0,Sl.nil⟩,emp,0,Sl.nil,Sl.nil,Sl.nil⟩:aw),Sl.nil⟩:jO),?_,?_,hS.aO (y:=(⟨(⟨⟨0,Sl.nil⟩,emp,0,Sl.nil,Sl.nil,Sl.nil⟩:aw),Sl.nil⟩:jO)) ⟨(by show emp.size≤_;rw[aL];omega),Sl.ao _ _,Sl.ao _ _,Sl.ao _ _,Sl.ao _ _,Sl.ao _ _⟩⟩
  ·rw[hm]<;>rfl
  ·rw[hm]<;>rfl
 refine Mp ?_ call31 (fun bs w hS=>ks (x.log.entries.at (((x.state.index+1+(k:Int)) - x.log.base) - 1).toNat) w (Sl.ok.at (s:=x.log.entries) (i:=(((x.state.index+1+(k:Int)) - x.log.base) - 1).toNat) cC.2.1 (by omega)))
 refine M1 ?_
 refine cb ?_
 refine gX (α:=bg) 48 ([(⟨(aq (x.log.entries.at (((x.state.index+1+(k:Int)) - x.log.base) - 1).toNat)).1.ag,(aq (x.log.entries.at (((x.state.index+1+(k:Int)) - x.log.base) - 1).toNat)).1.seq,⟨((bS (eD y1.state o).abs (x.log.entries.at (((x.state.index+1+(k:Int)) - x.log.base) - 1).toNat)).2.1).code,((bS (eD y1.state o).abs (x.log.entries.at (((x.state.index+1+(k:Int)) - x.log.base) - 1).toNat)).2.1).n,((bS (eD y1.state o).abs (x.log.entries.at (((x.state.index+1+(k:Int)) - x.log.base) - 1).toNat)).2.1).text⟩⟩:bg)]) ?_
 intro A3 c3
 refine Mi ?_ (pR ((x.state.index+1+(k:Int))+1))
 refine cL ?_
 refine eu CD (List.nil_sublist _) (fun _ _=>trivial) ?_
 refine cL ?_
 refine fc (F0 (some (gn,y2))) (by show List.Perm gn (gn++[]);rw[List.append_nil]) (fun w h1 h2=>h1) ?_
 refine cL (cb (cL ?_))
 have hj:k0+k=(x.state.index+1+(k:Int) - x.log.base - 1).toNat:=by omega
 have KT:=xi hI (by omega) (show y1.log.entries.xs.getD (k0+k) default=x.log.entries.at (x.state.index+1+(k:Int) - x.log.base - 1).toNat by rw[hj];rw[e3];rfl) h6 (zO hokz) jw
 have tc:=jT
 exact bu ⟨k+1,A3,c3,L0++[(⟨(aq (x.log.entries.at (((x.state.index+1+(k:Int)) - x.log.base) - 1).toNat)).1.ag,(aq (x.log.entries.at (((x.state.index+1+(k:Int)) - x.log.base) - 1).toNat)).1.seq,⟨((bS (eD y1.state o).abs (x.log.entries.at (((x.state.index+1+(k:Int)) - x.log.base) - 1).toNat)).2.1).code,((bS (eD y1.state o).abs (x.log.entries.at (((x.state.index+1+(k:Int)) - x.log.base) - 1).toNat)).2.1).n,((bS (eD y1.state o).abs (x.log.entries.at (((x.state.index+1+(k:Int)) - x.log.base) - 1).toNat)).2.1).text⟩⟩:bg)],some (gn,y2)⟩ ⟨by omega,KT,tc⟩ (by show N - (k+1)<N - k;omega) (hp:=(by (try dsimp only);rw[show x.state.index+1+((k+1:Nat):Int)=x.state.index+1+(k:Int)+1 by omega];kernel_rfl))
theorem Co {B B':Nat→Prop}(a b:Sl bg)(w:World)(ha:a.rd B w)(hb:b.rd B' w)(he:a.xs=b.xs):Calls prog 14 #[a.val,b.val] w fun e w'=>e=.returned (vb true)∧Kp [] w w':=by
 have qa:=Sl.rd.ok ha
 have EV:=Sl.rd.ok hb
 have hn:=sT he
 have JP:=Sl.ok.nc qa
 refine M0 ?_ func14
 refine cr ((a.n:Int)=(b.n:Int)) (fun h1=>?_) fun h1=>?_
 rotate_left
 ·exfalso;first|omega|exact h1 (jm he i)
 refine Ml (σ:=Nat) (fun i=>True) (fun i=>a.n - i) (fun _=>[]) [5,0,1] (fun i=>[(5,vI (i:Int))]) (fun _=>[]) ?_ 0 trivial
 rintro i _ _ bu
 have fg:=jm he i
 refine Md ((i:Int)<(a.n:Int)) (fun h2=>?_) fun h2=>?_
 rotate_left
 ·exact Mt [vb true] fun bs w hS=>⟨rfl,hS.kp⟩
 refine cZ 9 [] [] [] ai ?_
 refine bY ?_ (pc (pA 19 20 (i:Int) i (db ha)) (pc (pA 23 24 (i:Int) i (db hb)) (pG [(25,.val (vb (!((decide ((a.at i).ag=(b.at i).ag)) && ((decide ((a.at i).seq=(b.at i).seq)) && (((decide ((a.at i).aE.code=(b.at i).aE.code)) && ((decide ((a.at i).aE.n=(b.at i).aE.n)) && ((decide ((a.at i).aE.text=(b.at i).aE.text)) && true))) && true))))))] (oc ((qn (by kernel_rfl) (by kernel_rfl)): ∀w,(do eqGuard .neq 93 (.tmp 20) (.tmp 24) (a.at i).val (b.at i).val;binOp .neq 93 (a.at i).val (b.at i).val:Sem Value).run prog w=.ok (vb (!((decide ((a.at i).ag=(b.at i).ag)) && ((decide ((a.at i).seq=(b.at i).seq)) && (((decide ((a.at i).aE.code=(b.at i).aE.code)) && ((decide ((a.at i).aE.n=(b.at i).aE.n)) && ((decide ((a.at i).aE.text=(b.at i).aE.text)) && true))) && true))))) w) on))))
 refine fL ((decide ((a.at i).ag=(b.at i).ag)) && ((decide ((a.at i).seq=(b.at i).seq)) && (((decide ((a.at i).aE.code=(b.at i).aE.code)) && ((decide ((a.at i).aE.n=(b.at i).aE.n)) && ((decide ((a.at i).aE.text=(b.at i).aE.text)) && true))) && true))) (fun h3=>?_) fun h3=>?_
 rotate_left
 ·exfalso;simp[jm he i]at h3
 refine Mi ?_ (pR ((i:Int)+1))
 exact bu (i+1) trivial (by omega)
theorem te (x:aw)(s:ByteArray)(w:World)(hx:aJ.sub B w x)(hs:s.size≤9223372036854775807):Calls prog 204 #[x.val,vs s] w fun e w'=> ∃y:aw,e=.returned (.tuple #[y.val,vi (cv x.abs s).2])∧y.abs=(cv x.abs s).1∧bJ w w' y:=by
 have qL:x.abs.log=x.log.abs:=rfl
 have qS:x.abs.state=x.state.abs:=rfl
 have qN:x.abs.snap=x.snap:=rfl
 have qB:x.abs.log.base=x.log.base:=rfl
 have qI:x.abs.state.index=x.state.index:=rfl
 have qM:cD x.abs.log=x.log.base+(x.log.entries.n:Int):=rfl
 have cC:=aJ.bL hx
 have oE:=cC.2.1
 have mr:=Sl.ok.nc oE
 have mu:x.log.entries.n=x.log.entries.xs.length:=rfl
 refine M0 ?_ func204
 refine Mp ?_ call47 (fun bs w hS=>iY x w (aJ.kp hx hS.kp))
 refine cr (a6 x.abs=0) (fun h1=>?_) fun h1=>?_
 rotate_left
 ·exact eE (wS (s:=s) h1) (⟨⟨0,Sl.nil⟩,emp,0,Sl.nil,Sl.nil,Sl.nil⟩:aw) rfl fun bs w hS=>hS.aO (y:=(⟨⟨0,Sl.nil⟩,emp,0,Sl.nil,Sl.nil,Sl.nil⟩:aw)) ⟨(by show emp.size≤_;rw[aL];omega),Sl.ao _ _,Sl.ao _ _,Sl.ao _ _,Sl.ao _ _⟩
 obtain⟨np,sJ,vx,vy,HE⟩:=cq h1
 obtain⟨gU,gT,jB,nH⟩:=eb np
 have nJ:x.abs.log.entries=x.log.entries.xs:=rfl
 rw[qB]at gU gT vx
 rw[qI]at vx vy
 rw[qM]at vy
 rw[nJ]at jB
 refine Mu ?_ call156 (fun bs w hS=>sQ s w hs)
 rintro gZ y1 a5 ft
 refine cr ((bb s).2=0) (fun h2=>?_) fun h2=>?_
 rotate_left
 ·exact eE (wT h1 h2) (⟨⟨0,Sl.nil⟩,emp,0,Sl.nil,Sl.nil,Sl.nil⟩:aw) rfl fun bs w hS=>hS.aO (y:=(⟨⟨0,Sl.nil⟩,emp,0,Sl.nil,Sl.nil,Sl.nil⟩:aw)) ⟨(by show emp.size≤_;rw[aL];omega),Sl.ao _ _,Sl.ao _ _,Sl.ao _ _,Sl.ao _ _⟩
 refine Md (y1.index≤x.state.index) (fun h3=>?_) fun h3=>?_
 ·exact eE (wU (s:=s) h1 h2 (show y1.index=(bb s).1.index from congrArg aZ.index a5) h3) (⟨⟨0,Sl.nil⟩,emp,0,Sl.nil,Sl.nil,Sl.nil⟩:aw) rfl fun bs w hS=>hS.aO (y:=(⟨⟨0,Sl.nil⟩,emp,0,Sl.nil,Sl.nil,Sl.nil⟩:aw)) ⟨(by show emp.size≤_;rw[aL];omega),Sl.ao _ _,Sl.ao _ _,Sl.ao _ _,Sl.ao _ _⟩
 refine Md ((1073741424:Int)<y1.index) (fun h4=>?_) fun h4=>?_
 ·exact eE (wV (s:=s) h1 h2 (show y1.index=(bb s).1.index from congrArg aZ.index a5) h3 h4) (⟨⟨0,Sl.nil⟩,emp,0,Sl.nil,Sl.nil,Sl.nil⟩:aw) rfl fun bs w hS=>hS.aO (y:=(⟨⟨0,Sl.nil⟩,emp,0,Sl.nil,Sl.nil,Sl.nil⟩:aw)) ⟨(by show emp.size≤_;rw[aL];omega),Sl.ao _ _,Sl.ao _ _,Sl.ao _ _,Sl.ao _ _⟩
 refine fP 6 ?_ ai
 refine Mp ?_ call49 (fun bs w hS=>gQ x.log w (aJ.kp hx hS.kp).2.1 (by first|exact⟨by omega,by omega,by omega⟩|omega))
 refine Mz ?_
 refine Md (y1.index≤x.log.base+(x.log.entries.n:Int)) (fun h5=>?_) fun h5=>?_
 rotate_left
 ·refine Mt [.agg #[vi y1.index,vn,vs s,vi y1.index,y1.aj.val,y1.an.val,y1.af.val],vi 0] fun bs w hS=>?_
  have hm:=uC (s:=s) h1 h2 (show y1.index=(bb s).1.index from congrArg aZ.index a5) h3 h4
  refine⟨(⟨⟨y1.index,Sl.nil⟩,s,y1⟩:aw),?_,?_,hS.aO (y:=(⟨⟨y1.index,Sl.nil⟩,s,y1⟩:aw)) ⟨hs,Sl.ao _ _,(show aJ.sub (· ∈(cN [bF gZ y1]).fp) w y1 from aU (y:=y1) i0 (hS.res _ i0))⟩⟩
  ·rw[hm];rfl
  ·rw[hm]
   show (⟨⟨y1.index,[]⟩,s,y1.abs⟩:aT)=_
   rw[List.drop_eq_nil_of_le (show x.abs.log.entries.length≤_ by rw[nJ,qB];omega)]
   rw[a5]
 refine Mu ?_ call206 (fun bs w hS=>De x.log y1.index w (aJ.kp hx hS.kp).2.1)
 rintro gn y2 jw jT
 refine Mt [.agg #[vi y2.base,y2.entries.val,vs s,vi y1.index,y1.aj.val,y1.an.val,y1.af.val],vi 0] fun bs w hS=>?_
 have hm:=uC (s:=s) h1 h2 (show y1.index=(bb s).1.index from congrArg aZ.index a5) h3 h4
 have hc:y2.abs=(⟨y1.index,x.log.entries.xs.drop (y1.index - x.log.base).toNat⟩:iy):=by rw[jw,HK (x:=x.log.abs) np (by show x.log.base≤_;omega) (by show _≤x.log.base+(x.log.entries.n:Int);omega) h4];rfl
 refine⟨(⟨y2,s,y1⟩:aw),?_,?_,hS.aO (y:=(⟨y2,s,y1⟩:aw)) ⟨hs,(show aJ.sub (· ∈(cN [bF gn y2,bF gZ y1]).fp) w y2 from aU (y:=y2) i0 (hS.res _ i0)),(show aJ.sub (· ∈(cN [bF gn y2,bF gZ y1]).fp) w y1 from aU (y:=y1) i1 (hS.res _ i1))⟩⟩
 ·rw[hm];rfl
 ·rw[hm]
  show (⟨y2.abs,s,y1.abs⟩:aT)=_
  rw[hc,a5]
  rfl
theorem tf (x:aw)(s:ByteArray)(w:World)(hx:aJ.sub B w x)(hs:s.size≤9223372036854775807):Calls prog 181 #[x.val,vs s] w fun e w'=> ∃y:aw,e=.returned (.tuple #[y.val,vi (cv x.abs s).2])∧y.abs=(cv x.abs s).1∧bJ w w' y:=by
 have qL:x.abs.log=x.log.abs:=rfl
 have qS:x.abs.state=x.state.abs:=rfl
 have qN:x.abs.snap=x.snap:=rfl
 have qB:x.abs.log.base=x.log.base:=rfl
 have qI:x.abs.state.index=x.state.index:=rfl
 have qM:cD x.abs.log=x.log.base+(x.log.entries.n:Int):=rfl
 have cC:=aJ.bL hx
 have oE:=cC.2.1
 have mr:=Sl.ok.nc oE
 have mu:x.log.entries.n=x.log.entries.xs.length:=rfl
 refine M0 ?_ func181
 refine Mp ?_ call50 (fun bs w hS=>gz x w (aJ.kp hx hS.kp))
 refine cr (a6 x.abs=0) (fun h1=>?_) fun h1=>?_
 rotate_left
 ·exact eE (wS (s:=s) h1) (⟨⟨0,Sl.nil⟩,emp,0,Sl.nil,Sl.nil,Sl.nil⟩:aw) rfl fun bs w hS=>hS.aO (y:=(⟨⟨0,Sl.nil⟩,emp,0,Sl.nil,Sl.nil,Sl.nil⟩:aw)) ⟨(by show emp.size≤_;rw[aL];omega),Sl.ao _ _,Sl.ao _ _,Sl.ao _ _,Sl.ao _ _⟩
 obtain⟨np,sJ,vx,vy,HE⟩:=cq h1
 obtain⟨gU,gT,jB,nH⟩:=eb np
 have nJ:x.abs.log.entries=x.log.entries.xs:=rfl
 rw[qB]at gU gT vx
 rw[qI]at vx vy
 rw[qM]at vy
 rw[nJ]at jB
 refine Mu ?_ call114 (fun bs w hS=>p7 s w hs)
 rintro gZ y1 a5 ft
 refine cr ((bb s).2=0) (fun h2=>?_) fun h2=>?_
 rotate_left
 ·exact eE (wT h1 h2) (⟨⟨0,Sl.nil⟩,emp,0,Sl.nil,Sl.nil,Sl.nil⟩:aw) rfl fun bs w hS=>hS.aO (y:=(⟨⟨0,Sl.nil⟩,emp,0,Sl.nil,Sl.nil,Sl.nil⟩:aw)) ⟨(by show emp.size≤_;rw[aL];omega),Sl.ao _ _,Sl.ao _ _,Sl.ao _ _,Sl.ao _ _⟩
 refine Md (y1.index≤x.state.index) (fun h3=>?_) fun h3=>?_
 ·exact eE (wU (s:=s) h1 h2 (show y1.index=(bb s).1.index from congrArg aZ.index a5) h3) (⟨⟨0,Sl.nil⟩,emp,0,Sl.nil,Sl.nil,Sl.nil⟩:aw) rfl fun bs w hS=>hS.aO (y:=(⟨⟨0,Sl.nil⟩,emp,0,Sl.nil,Sl.nil,Sl.nil⟩:aw)) ⟨(by show emp.size≤_;rw[aL];omega),Sl.ao _ _,Sl.ao _ _,Sl.ao _ _,Sl.ao _ _⟩
 refine Md ((1073741424:Int)<y1.index) (fun h4=>?_) fun h4=>?_
 ·exact eE (wV (s:=s) h1 h2 (show y1.index=(bb s).1.index from congrArg aZ.index a5) h3 h4) (⟨⟨0,Sl.nil⟩,emp,0,Sl.nil,Sl.nil,Sl.nil⟩:aw) rfl fun bs w hS=>hS.aO (y:=(⟨⟨0,Sl.nil⟩,emp,0,Sl.nil,Sl.nil,Sl.nil⟩:aw)) ⟨(by show emp.size≤_;rw[aL];omega),Sl.ao _ _,Sl.ao _ _,Sl.ao _ _,Sl.ao _ _⟩
 refine Mi ?_ (pR (y1.index+1))
 refine bU (α:=ByteArray) 9 ?_
 refine Ml (σ:=Nat×Option Addr×Nat×List ByteArray) (fun⟨k,A0,c0,L0⟩=>L0=(x.log.entries.xs.drop (y1.index - x.log.base).toNat).take k∧L0.length=k) (fun⟨k,A0,c0,L0⟩=>x.log.entries.n+1 - k) (fun⟨k,A0,c0,L0⟩=>[ay 9 A0 c0 (L0:List ByteArray),bF gZ y1]) [10,9,4,2] (fun⟨k,A0,c0,L0⟩=>[(10,vI (y1.index+1+(k:Int)))]) (fun⟨k,A0,c0,L0⟩=>[(3,[vI y1.index,.v (.slice A0 L0.length c0),vS s,vI y1.index,.v y1.aj.val,.v y1.an.val,.v y1.af.val])]) ?_ (⟨0,none,0,[]⟩) ⟨by simp,rfl⟩ (hp:=(by try simp only[Int.add_zero,Int.natCast_zero];kernel_rfl))
 rintro⟨k,A0,c0,L0⟩ ⟨GU,hlen⟩ _ bu
 refine Mp ?_ call52 (fun bs w hS=>dD x.log w (aJ.kp hx hS.kp).2.1 (by first|exact⟨by omega,by omega,by omega⟩|omega))
 refine Md (y1.index+1+(k:Int)≤x.log.base+(x.log.entries.n:Int)) (fun h5=>?_) fun h5=>?_
 rotate_left
 ·refine Mt [.agg #[vi y1.index,.slice A0 L0.length c0,vs s,vi y1.index,y1.aj.val,y1.an.val,y1.af.val],vi 0] fun bs w hS=>?_
  have hm:=uC (s:=s) h1 h2 (show y1.index=(bb s).1.index from congrArg aZ.index a5) h3 h4
  have IE:L0=x.log.entries.xs.drop (y1.index - x.log.base).toNat:=by rw[GU];exact List.take_of_length_le (by rw[List.length_drop];omega)
  refine⟨(⟨⟨y1.index,⟨A0,c0,L0⟩⟩,s,y1⟩:aw),?_,?_,hS.aO (y:=(⟨⟨y1.index,⟨A0,c0,L0⟩⟩,s,y1⟩:aw)) ⟨hs,(a4 i0 (hS.res _ i0) (fun z hz=>Sl.rd.mem (s:=x.log.entries) hx.2.1 z (List.mem_of_mem_drop (IE▸hz)))),(show aJ.sub (· ∈(cN [ay 9 A0 c0 (L0:List ByteArray),bF gZ y1]).fp) w y1 from aU (y:=y1) i1 (hS.res _ i1))⟩⟩
  ·rw[hm];rfl
  ·rw[hm]
   show (⟨⟨y1.index,L0⟩,s,y1.abs⟩:aT)=_
   rw[IE,a5]
   rfl
 refine fP 15 ?_ ai
 refine bY ?_ (pc (pR ((y1.index+1+(k:Int)) - x.log.base)) (pc (pR (((y1.index+1+(k:Int)) - x.log.base) - 1)) (pA 65 66 (((y1.index+1+(k:Int)) - x.log.base) - 1) (((y1.index+1+(k:Int)) - x.log.base) - 1).toNat (s:=x.log.entries) (fun w hk hr=>(aJ.kp hx hk).2.1))))
 refine M1 ?_
 refine Mz ?_
 refine gX (α:=ByteArray) 16 ([(x.log.entries.at (((y1.index+1+(k:Int)) - x.log.base) - 1).toNat)]) ?_
 intro A2 c2
 refine Mi ?_ (pR ((y1.index+1+(k:Int))+1))
 exact bu ⟨k+1,A2,c2,L0++[(x.log.entries.at (((y1.index+1+(k:Int)) - x.log.base) - 1).toNat)]⟩ ⟨by rw[GU];exact rP (by omega) (by omega),by simp[hlen]⟩ (by show x.log.entries.n+1 - (k+1)<x.log.entries.n+1 - k;omega) (hp:=(by (try dsimp only);rw[show y1.index+1+((k+1:Nat):Int)=y1.index+1+(k:Int)+1 by omega];kernel_rfl))
theorem tg (x:aw)(w:World)(hx:aJ.sub B w x):Calls prog 170 #[x.val] w fun e w'=> ∃y:aw,e=.returned (.tuple #[y.val,vi (b8 x.abs).2])∧y.abs=(b8 x.abs).1∧bJ w w' y:=by
 have qL:x.abs.log=x.log.abs:=rfl
 have qS:x.abs.state=x.state.abs:=rfl
 have qN:x.abs.snap=x.snap:=rfl
 have qB:x.abs.log.base=x.log.base:=rfl
 have qI:x.abs.state.index=x.state.index:=rfl
 have qM:cD x.abs.log=x.log.base+(x.log.entries.n:Int):=rfl
 have cC:=aJ.bL hx
 have oE:=cC.2.1
 have mr:=Sl.ok.nc oE
 have mu:x.log.entries.n=x.log.entries.xs.length:=rfl
 refine M0 ?_ func170
 refine Mp ?_ call47 (fun bs w hS=>iY x w (aJ.kp hx hS.kp))
 refine cr (a6 x.abs=0) (fun h1=>?_) fun h1=>?_
 rotate_left
 ·exact eE ((show b8 x.abs=(dA,a6 x.abs) by unfold b8;rw[if_pos h1])) (⟨⟨0,Sl.nil⟩,emp,0,Sl.nil,Sl.nil,Sl.nil⟩:aw) rfl fun bs w hS=>hS.aO (y:=(⟨⟨0,Sl.nil⟩,emp,0,Sl.nil,Sl.nil,Sl.nil⟩:aw)) ⟨(by show emp.size≤_;rw[aL];omega),Sl.ao _ _,Sl.ao _ _,Sl.ao _ _,Sl.ao _ _⟩
 obtain⟨np,sJ,vx,vy,HE⟩:=cq h1
 obtain⟨gU,gT,jB,nH⟩:=eb np
 have nJ:x.abs.log.entries=x.log.entries.xs:=rfl
 rw[qB]at gU gT vx
 rw[qI]at vx vy
 rw[qM]at vy
 rw[nJ]at jB
 refine Md (x.state.index=x.log.base) (fun h2=>?_) fun h2=>?_
 ·exact eE ((show b8 x.abs=(dA,12) by unfold b8;rw[if_neg (fun q=>q h1),if_pos (show x.abs.state.index=x.abs.log.base from h2)])) (⟨⟨0,Sl.nil⟩,emp,0,Sl.nil,Sl.nil,Sl.nil⟩:aw) rfl fun bs w hS=>hS.aO (y:=(⟨⟨0,Sl.nil⟩,emp,0,Sl.nil,Sl.nil,Sl.nil⟩:aw)) ⟨(by show emp.size≤_;rw[aL];omega),Sl.ao _ _,Sl.ao _ _,Sl.ao _ _,Sl.ao _ _⟩
 refine Mu ?_ call206 (fun bs w hS=>De x.log x.state.index w (aJ.kp hx hS.kp).2.1)
 rintro gZ y1 a5 ft
 refine cr ((gW x.log.abs x.state.index).2=0) (fun h3=>?_) fun h3=>?_
 rotate_left
 ·exact eE ((show b8 x.abs=(dA,(gW x.log.abs x.state.index).2) by unfold b8;rw[if_neg (fun q=>q h1),if_neg (show ¬x.abs.state.index=x.abs.log.base from h2),if_pos (show ¬(gW x.abs.log x.abs.state.index).2=0 from h3)];rfl)) (⟨⟨0,Sl.nil⟩,emp,0,Sl.nil,Sl.nil,Sl.nil⟩:aw) rfl fun bs w hS=>hS.aO (y:=(⟨⟨0,Sl.nil⟩,emp,0,Sl.nil,Sl.nil,Sl.nil⟩:aw)) ⟨(by show emp.size≤_;rw[aL];omega),Sl.ao _ _,Sl.ao _ _,Sl.ao _ _,Sl.ao _ _⟩
 refine Mp ?_ call207 (fun bs w hS=>Ax x.state w ⟨(aJ.kp hx hS.kp).2.2.1,(aJ.kp hx hS.kp).2.2.2.1,(aJ.kp hx hS.kp).2.2.2.2⟩)
 refine cr ((gH x.state.abs).2=0) (fun h4=>?_) fun h4=>?_
 rotate_left
 ·exact absurd (FF (s:=x.state.abs) sJ) h4
 refine Mu ?_ call48 (fun bs w hS=>jV x w (aJ.kp hx hS.kp) (ji (by assumption)))
 rintro gn y2 jw jT
 refine Mt [.agg #[vi y1.base,y1.entries.val,vs (gH x.state.abs).1,vi y2.state.index,y2.state.aj.val,y2.state.an.val,y2.state.af.val],vi 0] fun bs w hS=>?_
 have hm:b8 x.abs=(⟨(gW x.log.abs x.state.index).1,(gH x.state.abs).1,x.state.abs⟩,0):=by grind[b8]
 have Ih:y2.state.abs=x.state.abs:=congrArg aT.state jw
 have hp:=(show aJ.sub (· ∈(cN [bF gn y2,bF gZ y1]).fp) w y2 from aU (y:=y2) i0 (hS.res _ i0))
 refine⟨(⟨y1,(gH x.state.abs).1,y2.state⟩:aw),?_,?_,hS.aO (y:=(⟨y1,(gH x.state.abs).1,y2.state⟩:aw)) ⟨uB _,(show aJ.sub (· ∈(cN [bF gn y2,bF gZ y1]).fp) w y1 from aU (y:=y1) i1 (hS.res _ i1)),hp.2.2⟩⟩
 ·rw[hm];rfl
 ·rw[hm];show (⟨y1.abs,_,y2.state.abs⟩:aT)=_;rw[a5,Ih]
theorem ti (x:aw)(w:World)(hx:aJ.sub B w x):Calls prog 126 #[x.val] w fun e w'=> ∃y:aw,e=.returned (.tuple #[y.val,vi (b8 x.abs).2])∧y.abs=(b8 x.abs).1∧bJ w w' y:=by
 have qL:x.abs.log=x.log.abs:=rfl
 have qS:x.abs.state=x.state.abs:=rfl
 have qN:x.abs.snap=x.snap:=rfl
 have qB:x.abs.log.base=x.log.base:=rfl
 have qI:x.abs.state.index=x.state.index:=rfl
 have qM:cD x.abs.log=x.log.base+(x.log.entries.n:Int):=rfl
 have cC:=aJ.bL hx
 have oE:=cC.2.1
 have mr:=Sl.ok.nc oE
 have mu:x.log.entries.n=x.log.entries.xs.length:=rfl
 refine M0 ?_ func126
 refine Mp ?_ call50 (fun bs w hS=>gz x w (aJ.kp hx hS.kp))
 refine Md (a6 x.abs=0) (fun h1=>?_) fun h1=>?_
 rotate_left
 ·refine My false true ?_ (df h1)
  exact eE ((show b8 x.abs=(dA,a6 x.abs) by unfold b8;rw[if_pos h1])) (⟨⟨0,Sl.nil⟩,emp,0,Sl.nil,Sl.nil,Sl.nil⟩:aw) rfl fun bs w hS=>hS.aO (y:=(⟨⟨0,Sl.nil⟩,emp,0,Sl.nil,Sl.nil,Sl.nil⟩:aw)) ⟨(by show emp.size≤_;rw[aL];omega),Sl.ao _ _,Sl.ao _ _,Sl.ao _ _,Sl.ao _ _⟩
 obtain⟨np,sJ,vx,vy,HE⟩:=cq h1
 obtain⟨gU,gT,jB,nH⟩:=eb np
 have nJ:x.abs.log.entries=x.log.entries.xs:=rfl
 rw[qB]at gU gT vx
 rw[qI]at vx vy
 rw[qM]at vy
 rw[nJ]at jB
 refine Md (x.state.index=x.log.base) (fun h2=>?_) fun h2=>?_
 ·refine Mq 22 true ?_ rfl
  exact eE ((show b8 x.abs=(dA,12) by unfold b8;rw[if_neg (fun q=>q h1),if_pos (show x.abs.state.index=x.abs.log.base from h2)])) (⟨⟨0,Sl.nil⟩,emp,0,Sl.nil,Sl.nil,Sl.nil⟩:aw) rfl fun bs w hS=>hS.aO (y:=(⟨⟨0,Sl.nil⟩,emp,0,Sl.nil,Sl.nil,Sl.nil⟩:aw)) ⟨(by show emp.size≤_;rw[aL];omega),Sl.ao _ _,Sl.ao _ _,Sl.ao _ _,Sl.ao _ _⟩
 refine My true true ?_ (dt h1)
 refine Mu ?_ call184 (fun bs w hS=>Es x.log x.state.index w (aJ.kp hx hS.kp).2.1)
 rintro gZ y1 a5 ft
 refine cr ((gW x.log.abs x.state.index).2=0) (fun h4=>?_) fun h4=>?_
 rotate_left
 ·exact eE ((show b8 x.abs=(dA,(gW x.log.abs x.state.index).2) by unfold b8;rw[if_neg (fun q=>q h1),if_neg (show ¬x.abs.state.index=x.abs.log.base from h2),if_pos (show ¬(gW x.abs.log x.abs.state.index).2=0 from h4)];rfl)) (⟨⟨0,Sl.nil⟩,emp,0,Sl.nil,Sl.nil,Sl.nil⟩:aw) rfl fun bs w hS=>hS.aO (y:=(⟨⟨0,Sl.nil⟩,emp,0,Sl.nil,Sl.nil,Sl.nil⟩:aw)) ⟨(by show emp.size≤_;rw[aL];omega),Sl.ao _ _,Sl.ao _ _,Sl.ao _ _,Sl.ao _ _⟩
 refine Mu ?_ call10 (fun bs w hS=>gS x w (aJ.kp hx hS.kp) (ji (by assumption)))
 rintro gn y2 jw jT
 refine Mp ?_ call185 (fun bs w hS=>v7 x.state w ⟨(aJ.kp hx hS.kp).2.2.1,(aJ.kp hx hS.kp).2.2.2.1,(aJ.kp hx hS.kp).2.2.2.2⟩)
 refine Mt [.agg #[vi y1.base,y1.entries.val,vs (gH x.state.abs).1,vi y2.state.index,y2.state.aj.val,y2.state.an.val,y2.state.af.val],vi 0] fun bs w hS=>?_
 have hm:b8 x.abs=(⟨(gW x.log.abs x.state.index).1,(gH x.state.abs).1,x.state.abs⟩,0):=by grind[b8]
 have Ih:y2.state.abs=x.state.abs:=congrArg aT.state jw
 have hp:=(show aJ.sub (· ∈(cN [bF gn y2,bF gZ y1]).fp) w y2 from aU (y:=y2) i0 (hS.res _ i0))
 refine⟨(⟨y1,(gH x.state.abs).1,y2.state⟩:aw),?_,?_,hS.aO (y:=(⟨y1,(gH x.state.abs).1,y2.state⟩:aw)) ⟨uB _,(show aJ.sub (· ∈(cN [bF gn y2,bF gZ y1]).fp) w y1 from aU (y:=y1) i1 (hS.res _ i1)),hp.2.2⟩⟩
 ·rw[hm];rfl
 ·rw[hm];show (⟨y1.abs,_,y2.state.abs⟩:aT)=_;rw[a5,Ih]
theorem fw {B B':Nat→Prop}(x:aw)(n:Int)(m:Sl ByteArray)(w:World)(hx:aJ.sub B w x)(hm:m.rd B' w):Calls prog 200 #[x.val,vi n,m.val] w fun e w'=> ∃y:aw,e=.returned (.tuple #[y.val,vi (cS x.abs n m.xs).2])∧y.abs=(cS x.abs n m.xs).1∧bJ w w' y:=by
 have qL:x.abs.log=x.log.abs:=rfl
 have qS:x.abs.state=x.state.abs:=rfl
 have qN:x.abs.snap=x.snap:=rfl
 have qB:x.abs.log.base=x.log.base:=rfl
 have qI:x.abs.state.index=x.state.index:=rfl
 have qM:cD x.abs.log=x.log.base+(x.log.entries.n:Int):=rfl
 have cC:=aJ.bL hx
 have oE:=cC.2.1
 have mr:=Sl.ok.nc oE
 have mu:x.log.entries.n=x.log.entries.xs.length:=rfl
 have IW:=Sl.rd.ok hm
 have xE:=Sl.ok.nc IW
 have HR:m.n=m.xs.length:=rfl
 refine M0 ?_ func200
 refine Mp ?_ call47 (fun bs w hS=>iY x w (aJ.kp hx hS.kp))
 refine cr (a6 x.abs=0) (fun h1=>?_) fun h1=>?_
 rotate_left
 ·exact eE (wX (n:=n) (m:=m.xs) h1) (⟨⟨0,Sl.nil⟩,emp,0,Sl.nil,Sl.nil,Sl.nil⟩:aw) rfl fun bs w hS=>hS.aO (y:=(⟨⟨0,Sl.nil⟩,emp,0,Sl.nil,Sl.nil,Sl.nil⟩:aw)) ⟨(by show emp.size≤_;rw[aL];omega),Sl.ao _ _,Sl.ao _ _,Sl.ao _ _,Sl.ao _ _⟩
 obtain⟨np,sJ,vx,vy,HE⟩:=cq h1
 obtain⟨gU,gT,jB,nH⟩:=eb np
 have nJ:x.abs.log.entries=x.log.entries.xs:=rfl
 rw[qB]at gU gT vx
 rw[qI]at vx vy
 rw[qM]at vy
 rw[nJ]at jB
 refine Mu ?_ call227 (fun bs w hS=>Ij x.log n m w (aJ.kp hx hS.kp).2.1 (Sl.rd.kp hm hS.kp))
 rintro gZ y1 a5 ft
 refine cr ((de x.log.abs n m.xs).2=0) (fun h2=>?_) fun h2=>?_
 rotate_left
 ·exact eE (wY (r:=x.abs) (n:=n) (m:=m.xs) h1 h2) (⟨⟨0,Sl.nil⟩,emp,0,Sl.nil,Sl.nil,Sl.nil⟩:aw) rfl fun bs w hS=>hS.aO (y:=(⟨⟨0,Sl.nil⟩,emp,0,Sl.nil,Sl.nil,Sl.nil⟩:aw)) ⟨(by show emp.size≤_;rw[aL];omega),Sl.ao _ _,Sl.ao _ _,Sl.ao _ _,Sl.ao _ _⟩
 obtain⟨lQ,kN⟩:=CS h2 np
 have Tc:y1.base=x.log.base:=(congrArg iy.base a5).trans lQ
 have Td:y1.entries.xs.length≤400:=by rw[←(congrArg iy.entries a5)]at kN;exact kN
 have PR:y1.entries.n=y1.entries.xs.length:=rfl
 have Te:=Sl.ok.nc (show y1.entries.ok from ft)
 refine Mi ?_ (pR (x.log.base+1))
 refine Ml (σ:=Nat) (fun j=>j≤(x.state.index - x.log.base).toNat∧bE (jM y1.entries.xs x.log.entries.xs) j=true) (fun j=>(x.state.index - x.log.base).toNat - j) (fun j=>[bF gZ y1]) [11,9,6,3] (fun j=>[(11,vI (x.log.base+1+(j:Int)))]) (fun _=>[]) ?_ 0 ⟨Nat.zero_le _,rfl⟩ (hp:=(by try simp only[Int.add_zero,Int.natCast_zero];kernel_rfl))
 rintro j ⟨Kv,hI⟩ _ bu
 refine Md (x.log.base+1+(j:Int)≤x.state.index) (fun h3=>?_) fun h3=>?_
 rotate_left
 ·refine Mu ?_ call48 (fun bs w hS=>jV x w (aJ.kp hx hS.kp) (ji (by assumption)))
  rintro gn y2 jw jT
  refine Mt [.agg #[vi y1.base,y1.entries.val,vs y2.snap,vi y2.state.index,y2.state.aj.val,y2.state.an.val,y2.state.af.val],vi 0] fun bs w hS=>?_
  have PS:j=(x.abs.state.index - x.abs.log.base).toNat:=by rw[qI,qB];omega
  have hm:=zB (r:=x.abs) (n:=n) (m:=m.xs) h1 h2 (congrArg iy.entries a5) (by rw[←PS];exact hI)
  have Ih:y2.state.abs=x.state.abs:=congrArg aT.state jw
  have hn2:y2.snap=x.snap:=congrArg aT.snap jw
  have hp:=(show aJ.sub (· ∈(cN [bF gn y2,bF gZ y1]).fp) w y2 from aU (y:=y2) i0 (hS.res _ i0))
  refine⟨(⟨y1,y2.snap,y2.state⟩:aw),?_,?_,hS.aO (y:=(⟨y1,y2.snap,y2.state⟩:aw)) ⟨hp.1,(show aJ.sub (· ∈(cN [bF gn y2,bF gZ y1]).fp) w y1 from aU (y:=y1) i1 (hS.res _ i1)),hp.2.2⟩⟩
  ·rw[hm];rfl
  ·rw[hm];show (⟨y1.abs,y2.snap,y2.state.abs⟩:aT)=_;rw[a5,hn2,Ih];rfl
 refine fP 27 ?_ ai
 refine Mp ?_ call49 (fun bs w hS=>gQ y1 w (hS.res _ i0) (by first|exact⟨by omega,by omega,by omega⟩|omega))
 refine Md (y1.base+(y1.entries.n:Int)<x.log.base+1+(j:Int)) (fun h4=>?_) fun h4=>?_
 ·refine Mz ?_
  have hj:j<(x.abs.state.index - x.abs.log.base).toNat:=by rw[qI,qB];omega
  have ha:=wW (a:=y1.entries) (b:=x.log.entries) (j:=j) (by omega)
  exact eE (oQ (r:=x.abs) (n:=n) (m:=m.xs) h1 h2 (congrArg iy.entries a5) hj ha) (⟨⟨0,Sl.nil⟩,emp,0,Sl.nil,Sl.nil,Sl.nil⟩:aw) rfl fun bs w hS=>hS.aO (y:=(⟨⟨0,Sl.nil⟩,emp,0,Sl.nil,Sl.nil,Sl.nil⟩:aw)) ⟨(by show emp.size≤_;rw[aL];omega),Sl.ao _ _,Sl.ao _ _,Sl.ao _ _,Sl.ao _ _⟩
 refine bY ?_ (pc (pR ((x.log.base+1+(j:Int)) - y1.base)) (pc (pR (((x.log.base+1+(j:Int)) - y1.base) - 1)) (pc (pA 53 54 (((x.log.base+1+(j:Int)) - y1.base) - 1) (((x.log.base+1+(j:Int)) - y1.base) - 1).toNat (s:=y1.entries) (fun w hk hr=>(hr _ i0))) (pc (pR ((x.log.base+1+(j:Int)) - x.log.base)) (pc (pR (((x.log.base+1+(j:Int)) - x.log.base) - 1)) (pA 64 65 (((x.log.base+1+(j:Int)) - x.log.base) - 1) (((x.log.base+1+(j:Int)) - x.log.base) - 1).toNat (s:=x.log.entries) (fun w hk hr=>(aJ.kp hx hk).2.1)))))))
 refine Mz ?_
 refine cr ((y1.entries.at (((x.log.base+1+(j:Int)) - y1.base) - 1).toNat)=(x.log.entries.at (((x.log.base+1+(j:Int)) - x.log.base) - 1).toNat)) (fun h5=>?_) fun h5=>?_
 ·refine Mi ?_ (pR ((x.log.base+1+(j:Int))+1))
  have ha:=zz (a:=y1.entries) (b:=x.log.entries) (j:=j) (by omega) (by omega) (by show j<y1.entries.xs.length;omega) h5
  exact bu (j+1) ⟨by omega,lI hI ha⟩ (by show (x.state.index - x.log.base).toNat - (j+1)<(x.state.index - x.log.base).toNat - j;omega) (hp:=(by (try dsimp only);rw[show x.log.base+1+((j+1:Nat):Int)=x.log.base+1+(j:Int)+1 by omega];kernel_rfl))
 have hj:j<(x.abs.state.index - x.abs.log.base).toNat:=by rw[qI,qB];omega
 have ha:=zA (a:=y1.entries) (b:=x.log.entries) (j:=j) (by omega) (by omega) h5
 exact eE (oQ (r:=x.abs) (n:=n) (m:=m.xs) h1 h2 (congrArg iy.entries a5) hj ha) (⟨⟨0,Sl.nil⟩,emp,0,Sl.nil,Sl.nil,Sl.nil⟩:aw) rfl fun bs w hS=>hS.aO (y:=(⟨⟨0,Sl.nil⟩,emp,0,Sl.nil,Sl.nil,Sl.nil⟩:aw)) ⟨(by show emp.size≤_;rw[aL];omega),Sl.ao _ _,Sl.ao _ _,Sl.ao _ _,Sl.ao _ _⟩
theorem gh {B B':Nat→Prop}(x:aw)(n:Int)(m:Sl ByteArray)(w:World)(hx:aJ.sub B w x)(hm:m.rd B' w):Calls prog 177 #[x.val,vi n,m.val] w fun e w'=> ∃y:aw,e=.returned (.tuple #[y.val,vi (cS x.abs n m.xs).2])∧y.abs=(cS x.abs n m.xs).1∧bJ w w' y:=by
 have qL:x.abs.log=x.log.abs:=rfl
 have qS:x.abs.state=x.state.abs:=rfl
 have qN:x.abs.snap=x.snap:=rfl
 have qB:x.abs.log.base=x.log.base:=rfl
 have qI:x.abs.state.index=x.state.index:=rfl
 have qM:cD x.abs.log=x.log.base+(x.log.entries.n:Int):=rfl
 have cC:=aJ.bL hx
 have oE:=cC.2.1
 have mr:=Sl.ok.nc oE
 have mu:x.log.entries.n=x.log.entries.xs.length:=rfl
 have IW:=Sl.rd.ok hm
 have xE:=Sl.ok.nc IW
 have HR:m.n=m.xs.length:=rfl
 refine M0 ?_ func177
 refine Mp ?_ call50 (fun bs w hS=>gz x w (aJ.kp hx hS.kp))
 refine cr (a6 x.abs=0) (fun h1=>?_) fun h1=>?_
 rotate_left
 ·exact eE (wX (n:=n) (m:=m.xs) h1) (⟨⟨0,Sl.nil⟩,emp,0,Sl.nil,Sl.nil,Sl.nil⟩:aw) rfl fun bs w hS=>hS.aO (y:=(⟨⟨0,Sl.nil⟩,emp,0,Sl.nil,Sl.nil,Sl.nil⟩:aw)) ⟨(by show emp.size≤_;rw[aL];omega),Sl.ao _ _,Sl.ao _ _,Sl.ao _ _,Sl.ao _ _⟩
 obtain⟨np,sJ,vx,vy,HE⟩:=cq h1
 obtain⟨gU,gT,jB,nH⟩:=eb np
 have nJ:x.abs.log.entries=x.log.entries.xs:=rfl
 rw[qB]at gU gT vx
 rw[qI]at vx vy
 rw[qM]at vy
 rw[nJ]at jB
 refine Mu ?_ call211 (fun bs w hS=>Ey x.log n m w (aJ.kp hx hS.kp).2.1 (Sl.rd.kp hm hS.kp))
 rintro gZ y1 a5 ft
 refine cr ((de x.log.abs n m.xs).2=0) (fun h2=>?_) fun h2=>?_
 rotate_left
 ·exact eE (wY (r:=x.abs) (n:=n) (m:=m.xs) h1 h2) (⟨⟨0,Sl.nil⟩,emp,0,Sl.nil,Sl.nil,Sl.nil⟩:aw) rfl fun bs w hS=>hS.aO (y:=(⟨⟨0,Sl.nil⟩,emp,0,Sl.nil,Sl.nil,Sl.nil⟩:aw)) ⟨(by show emp.size≤_;rw[aL];omega),Sl.ao _ _,Sl.ao _ _,Sl.ao _ _,Sl.ao _ _⟩
 obtain⟨lQ,kN⟩:=CS h2 np
 have Tc:y1.base=x.log.base:=(congrArg iy.base a5).trans lQ
 have Td:y1.entries.xs.length≤400:=by rw[←(congrArg iy.entries a5)]at kN;exact kN
 have PR:y1.entries.n=y1.entries.xs.length:=rfl
 have Te:=Sl.ok.nc (show y1.entries.ok from ft)
 refine Ml (σ:=Nat) (fun j=>j≤(x.state.index - x.log.base).toNat∧bE (jM y1.entries.xs x.log.entries.xs) j=true) (fun j=>(x.state.index - x.log.base).toNat - j) (fun j=>[bF gZ y1]) [11,9,6,3] (fun j=>[(11,vI (j:Int))]) (fun _=>[]) ?_ 0 ⟨Nat.zero_le _,rfl⟩
 rintro j ⟨Kv,hI⟩ _ bu
 refine Mi ?_ (pR (x.state.index - x.log.base))
 refine Md ((j:Int)<x.state.index - x.log.base) (fun h3=>?_) fun h3=>?_
 rotate_left
 ·refine Mu ?_ call10 (fun bs w hS=>gS x w (aJ.kp hx hS.kp) (ji (by assumption)))
  rintro gn y2 jw jT
  refine Mt [.agg #[vi y1.base,y1.entries.val,vs y2.snap,vi y2.state.index,y2.state.aj.val,y2.state.an.val,y2.state.af.val],vi 0] fun bs w hS=>?_
  have PS:j=(x.abs.state.index - x.abs.log.base).toNat:=by rw[qI,qB];omega
  have hm:=zB (r:=x.abs) (n:=n) (m:=m.xs) h1 h2 (congrArg iy.entries a5) (by rw[←PS];exact hI)
  have Ih:y2.state.abs=x.state.abs:=congrArg aT.state jw
  have hn2:y2.snap=x.snap:=congrArg aT.snap jw
  have hp:=(show aJ.sub (· ∈(cN [bF gn y2,bF gZ y1]).fp) w y2 from aU (y:=y2) i0 (hS.res _ i0))
  refine⟨(⟨y1,y2.snap,y2.state⟩:aw),?_,?_,hS.aO (y:=(⟨y1,y2.snap,y2.state⟩:aw)) ⟨hp.1,(show aJ.sub (· ∈(cN [bF gn y2,bF gZ y1]).fp) w y1 from aU (y:=y1) i1 (hS.res _ i1)),hp.2.2⟩⟩
  ·rw[hm];rfl
  ·rw[hm];show (⟨y1.abs,y2.snap,y2.state.abs⟩:aT)=_;rw[a5,hn2,Ih];rfl
 refine fP 19 ?_ ai
 refine Md ((y1.entries.n:Int)≤(j:Int)) (fun h4=>?_) fun h4=>?_
 ·refine Mz ?_
  have hj:j<(x.abs.state.index - x.abs.log.base).toNat:=by rw[qI,qB];omega
  have ha:=wW (a:=y1.entries) (b:=x.log.entries) (j:=j) (by omega)
  exact eE (oQ (r:=x.abs) (n:=n) (m:=m.xs) h1 h2 (congrArg iy.entries a5) hj ha) (⟨⟨0,Sl.nil⟩,emp,0,Sl.nil,Sl.nil,Sl.nil⟩:aw) rfl fun bs w hS=>hS.aO (y:=(⟨⟨0,Sl.nil⟩,emp,0,Sl.nil,Sl.nil,Sl.nil⟩:aw)) ⟨(by show emp.size≤_;rw[aL];omega),Sl.ao _ _,Sl.ao _ _,Sl.ao _ _,Sl.ao _ _⟩
 refine bY ?_ (pc (pA 51 52 (j:Int) j (s:=y1.entries) (fun w hk hr=>(hr _ i0))) (pA 57 58 (j:Int) j (s:=x.log.entries) (fun w hk hr=>(aJ.kp hx hk).2.1)))
 refine Mz ?_
 refine cr ((y1.entries.at j)=(x.log.entries.at j)) (fun h5=>?_) fun h5=>?_
 ·refine Mi ?_ (pR ((j:Int)+1))
  have ha:=zz (a:=y1.entries) (b:=x.log.entries) (j:=j) (by omega) (by omega) (by show j<y1.entries.xs.length;omega) h5
  exact bu (j+1) ⟨by omega,lI hI ha⟩ (by show (x.state.index - x.log.base).toNat - (j+1)<(x.state.index - x.log.base).toNat - j;omega)
 have hj:j<(x.abs.state.index - x.abs.log.base).toNat:=by rw[qI,qB];omega
 have ha:=zA (a:=y1.entries) (b:=x.log.entries) (j:=j) (by omega) (by omega) h5
 exact eE (oQ (r:=x.abs) (n:=n) (m:=m.xs) h1 h2 (congrArg iy.entries a5) hj ha) (⟨⟨0,Sl.nil⟩,emp,0,Sl.nil,Sl.nil,Sl.nil⟩:aw) rfl fun bs w hS=>hS.aO (y:=(⟨⟨0,Sl.nil⟩,emp,0,Sl.nil,Sl.nil,Sl.nil⟩:aw)) ⟨(by show emp.size≤_;rw[aL];omega),Sl.ao _ _,Sl.ao _ _,Sl.ao _ _,Sl.ao _ _⟩
theorem Cp (x:dr)(n m:Int)(w:World)(hx:aJ.sub B w x):Calls prog 205 #[x.val,vi n,vi m] w fun e w'=> ∃y:Sl ByteArray,e=.returned (.tuple #[y.val,vi (cm x.abs n m).2])∧y.xs=(cm x.abs n m).1∧bJ w w' y:=by
 have cC:=aJ.bL hx
 have mr:=Sl.ok.nc cC
 have mu:x.entries.n=x.entries.xs.length:=rfl
 have yu:cD x.abs=x.base+(x.entries.n:Int):=rfl
 have q1:x.abs.base=x.base:=rfl
 have q2:x.abs.entries=x.entries.xs:=rfl
 have fg: ∀q,x.entries.xs.getD q default=x.entries.at q:=fun _=>rfl
 refine M0 ?_ func205
 refine Mp ?_ call110 (fun bs w hS=>o7 x w (aJ.kp hx hS.kp))
 refine cr (cT x.abs=0) (fun h1=>?_) fun h1=>?_
 rotate_left
 ·have hm:cm x.abs n m=([],cT x.abs):=by grind[cm]
  exact eE hm Sl.nil rfl fun bs w hS=>hS.aO (Sl.ao _ _)
 obtain⟨gU,gT,jB,nH⟩:=eb h1
 rw[q1]at gU gT
 rw[q2]at jB
 refine Md (n<x.base) (fun h2=>?_) fun h2=>?_
 ·have hm:cm x.abs n m=([],2):=by grind[cm]
  exact eE hm Sl.nil rfl fun bs w hS=>hS.aO (Sl.ao _ _)
 refine Md (m<0) (fun h3=>?_) fun h3=>?_
 ·have hm:cm x.abs n m=([],2):=by grind[cm]
  exact eE hm Sl.nil rfl fun bs w hS=>hS.aO (Sl.ao _ _)
 refine Mp ?_ call49 (fun bs w hS=>gQ x w (aJ.kp hx hS.kp) (by first|exact⟨by omega,by omega,by omega⟩|omega))
 refine Md (x.base+(x.entries.n:Int)≤n) (fun h4=>?_) fun h4=>?_
 ·refine Mt [vn,vi 0] fun bs w hS=>?_
  have hm:cm x.abs n m=([],0):=by unfold cm;rw[if_neg (by simpa using (by assumption:cT _=0)),q1];first|rw[if_pos (by omega)]|(rw[if_neg (by omega),q2,List.drop_eq_nil_of_le (by omega),List.take_nil])
  refine⟨Sl.nil,?_,?_,hS.aO (Sl.ao _ _)⟩
  ·rw[hm];rfl
  ·rw[hm];rfl
 refine Mi ?_ (pc (pR (n - x.base)) (pG [(33,.sl (n - x.base).toNat x.entries.n)] (oc ((by omega):n - x.base=(((n - x.base).toNat:Nat):Int)) (oc (rfl:x.entries.n=x.entries.n) (oc ((by omega):(n - x.base).toNat≤x.entries.n) on)))))
 refine uJ ?_ (a:=m) (b:=((x.entries.n - (n - x.base).toNat:Nat):Int)) rfl
 refine Mi ?_ (pG [(39,.sl 0 (if m.toNat<x.entries.n - (n - x.base).toNat then m.toNat else x.entries.n - (n - x.base).toNat))] (oc (rfl:0=0) (oc ((by split<;>split<;>omega):(if ((x.entries.n - (n - x.base).toNat:Nat):Int)<m then ((x.entries.n - (n - x.base).toNat:Nat):Int) else m)=(((if m.toNat<x.entries.n - (n - x.base).toNat then m.toNat else x.entries.n - (n - x.base).toNat):Nat):Int)) (oc ((by split<;>omega):(if m.toNat<x.entries.n - (n - x.base).toNat then m.toNat else x.entries.n - (n - x.base).toNat)≤x.entries.c - (n - x.base).toNat) on))))
 refine Mf ?_ (vs:=fun bs=>[.slice (if x.entries.c=(n - x.base).toNat then x.entries.A else x.entries.A.map (·.add ((n - x.base).toNat*1))) (if m.toNat<x.entries.n - (n - x.base).toNat then m.toNat else x.entries.n - (n - x.base).toNat) (x.entries.c - (n - x.base).toNat)]) call157 (fun bs w hS=>kl _ _ _ ((x.entries.xs.drop (n - x.base).toNat).take (if m.toNat<x.entries.n - (n - x.base).toNat then m.toNat else x.entries.n - (n - x.base).toNat)) w (by rw[List.length_take,(show (x.entries.xs.drop (n - x.base).toNat).length=x.entries.n - (n - x.base).toNat from List.length_drop ..)];first|omega|(split<;>omega)) (fx.tZ (Sl.rd.oK (s:=x.entries) (aJ.kp hx hS.kp) (by omega)) (by split<;>omega)) (by split<;>omega))
 rintro y1 a5
 refine Mt [y1.val,vi 0] fun bs w hS=>?_
 have hm:cm x.abs n m=((x.entries.xs.drop (n - x.base).toNat).take m.toNat,0):=by grind[cm]
 have IZ:y1.xs=(x.entries.xs.drop (n - x.base).toNat).take m.toNat:=by rw[a5];exact Fv (by rw[List.length_drop];first|done|omega)
 have lY: ∀z,z∈y1.xs→z.size≤9223372036854775807:=fun z hz=>Sl.rd.mem (s:=x.entries) hx z (List.mem_of_mem_drop (List.mem_of_mem_take (IZ▸hz)))
 refine⟨⟨y1.A,y1.c,y1.xs⟩,?_,?_,hS.aO (y:=(⟨y1.A,y1.c,y1.xs⟩:Sl ByteArray)) (a4 i0 (hS.res _ i0) lY)⟩
 ·rw[hm];rfl
 ·rw[hm];exact IZ
theorem yD (x:dr)(n m:Int)(w:World)(hx:aJ.sub B w x)(hn: -4611686018427387904≤n∧n≤4611686018427387904):Calls prog 182 #[x.val,vi n,vi m] w fun e w'=> ∃y:Sl ByteArray,e=.returned (.tuple #[y.val,vi (cm x.abs n m).2])∧y.xs=(cm x.abs n m).1∧bJ w w' y:=by
 have cC:=aJ.bL hx
 have mr:=Sl.ok.nc cC
 have mu:x.entries.n=x.entries.xs.length:=rfl
 have yu:cD x.abs=x.base+(x.entries.n:Int):=rfl
 have q1:x.abs.base=x.base:=rfl
 have q2:x.abs.entries=x.entries.xs:=rfl
 have fg: ∀q,x.entries.xs.getD q default=x.entries.at q:=fun _=>rfl
 obtain⟨JN,hn2⟩:=hn
 refine M0 ?_ func182
 refine Mp ?_ call113 (fun bs w hS=>lh x w (aJ.kp hx hS.kp))
 refine Md (cT x.abs=0) (fun h1=>?_) fun h1=>?_
 rotate_left
 ·refine Mi ?_ (pR (n+1))
  refine bU (α:=ByteArray) 9 ?_
  refine Ml (σ:=Nat×Option Addr×Nat×List ByteArray) (fun⟨k,A,c,L⟩=>L=(x.entries.xs.drop (n - x.base).toNat).take k∧L.length=k∧(0<k→cT x.abs=0∧ ¬(n<x.base∨m<0)∧(k:Int)≤m)) (fun⟨k,A,c,L⟩=>x.entries.n+1 - k) (fun⟨k,A,c,L⟩=>[ay 9 A c (L:List ByteArray)]) [10,9,8,3,2] (fun⟨k,A,c,L⟩=>[(10,vI (n+1+(k:Int))),(9,.v (.slice A L.length c))]) (fun _=>[]) ?_ (⟨0,none,0,[]⟩) ⟨by simp,rfl,fun h=>absurd h (by omega)⟩ (hp:=(by try simp only[Int.add_zero,Int.natCast_zero];kernel_rfl))
  rintro⟨k,A,c,L⟩ ⟨hL,hlen,hk⟩ _ sK
  refine My false false ?_ (df h1)
  have EZ:k=0:=by
    rcases Nat.eq_zero_or_pos k with h|h
    ·exact h
    ·have h9:=hk h;exact absurd h9.1 h1
  have GU:L=[]:=by rw[hL,EZ];rfl
  have hm:cm x.abs n m=([],cT x.abs):=by grind[cm]
  exact eE hm ⟨A,c,L⟩ (GU) fun bs w hS=>hS.aO (y:=(⟨A,c,L⟩:Sl ByteArray)) (a4 i0 (hS.res _ i0) (fun z hz=>by rw[GU]at hz;cases hz))
 obtain⟨gU,gT,jB,nH⟩:=eb h1
 rw[q1]at gU gT
 rw[q2]at jB
 refine Md (n<x.base) (fun h2=>?_) fun h2=>?_
 ·refine Mi ?_ (pR (n+1))
  refine bU (α:=ByteArray) 9 ?_
  refine Ml (σ:=Nat×Option Addr×Nat×List ByteArray) (fun⟨k,A,c,L⟩=>L=(x.entries.xs.drop (n - x.base).toNat).take k∧L.length=k∧(0<k→cT x.abs=0∧ ¬(n<x.base∨m<0)∧(k:Int)≤m)) (fun⟨k,A,c,L⟩=>x.entries.n+1 - k) (fun⟨k,A,c,L⟩=>[ay 9 A c (L:List ByteArray)]) [10,9,8,3,2] (fun⟨k,A,c,L⟩=>[(10,vI (n+1+(k:Int))),(9,.v (.slice A L.length c))]) (fun _=>[]) ?_ (⟨0,none,0,[]⟩) ⟨by simp,rfl,fun h=>absurd h (by omega)⟩ (hp:=(by try simp only[Int.add_zero,Int.natCast_zero];kernel_rfl))
  rintro⟨k,A,c,L⟩ ⟨hL,hlen,hk⟩ _ bu
  refine Mq 29 false ?_ rfl
  have EZ:k=0:=by
    rcases Nat.eq_zero_or_pos k with h|h
    ·exact h
    ·have h9:=hk h;omega
  have GU:L=[]:=by rw[hL,EZ];rfl
  have hm:cm x.abs n m=([],2):=by grind[cm]
  exact eE hm ⟨A,c,L⟩ (GU) fun bs w hS=>hS.aO (y:=(⟨A,c,L⟩:Sl ByteArray)) (a4 i0 (hS.res _ i0) (fun z hz=>by rw[GU]at hz;cases hz))
 refine Md (m<0) (fun h3=>?_) fun h3=>?_
 ·refine Mi ?_ (pR (n+1))
  refine bU (α:=ByteArray) 9 ?_
  refine Ml (σ:=Nat×Option Addr×Nat×List ByteArray) (fun⟨k,A,c,L⟩=>L=(x.entries.xs.drop (n - x.base).toNat).take k∧L.length=k∧(0<k→cT x.abs=0∧ ¬(n<x.base∨m<0)∧(k:Int)≤m)) (fun⟨k,A,c,L⟩=>x.entries.n+1 - k) (fun⟨k,A,c,L⟩=>[ay 9 A c (L:List ByteArray)]) [10,9,8,3,2] (fun⟨k,A,c,L⟩=>[(10,vI (n+1+(k:Int))),(9,.v (.slice A L.length c))]) (fun _=>[]) ?_ (⟨0,none,0,[]⟩) ⟨by simp,rfl,fun h=>absurd h (by omega)⟩ (hp:=(by try simp only[Int.add_zero,Int.natCast_zero];kernel_rfl))
  rintro⟨k,A,c,L⟩ ⟨hL,hlen,hk⟩ _ j8
  refine Mq 29 false ?_ rfl
  have EZ:k=0:=by
    rcases Nat.eq_zero_or_pos k with h|h
    ·exact h
    ·have h9:=hk h;omega
  have GU:L=[]:=by rw[hL,EZ];rfl
  have hm:cm x.abs n m=([],2):=by grind[cm]
  exact eE hm ⟨A,c,L⟩ (GU) fun bs w hS=>hS.aO (y:=(⟨A,c,L⟩:Sl ByteArray)) (a4 i0 (hS.res _ i0) (fun z hz=>by rw[GU]at hz;cases hz))
 refine Mi ?_ (pR (n+1))
 refine bU (α:=ByteArray) 9 ?_
 refine Ml (σ:=Nat×Option Addr×Nat×List ByteArray) (fun⟨k,A,c,L⟩=>L=(x.entries.xs.drop (n - x.base).toNat).take k∧L.length=k∧(0<k→cT x.abs=0∧ ¬(n<x.base∨m<0)∧(k:Int)≤m)) (fun⟨k,A,c,L⟩=>x.entries.n+1 - k) (fun⟨k,A,c,L⟩=>[ay 9 A c (L:List ByteArray)]) [10,9,8,3,2] (fun⟨k,A,c,L⟩=>[(10,vI (n+1+(k:Int))),(9,.v (.slice A L.length c))]) (fun _=>[]) ?_ (⟨0,none,0,[]⟩) ⟨by simp,rfl,fun h=>absurd h (by omega)⟩ (hp:=(by try simp only[Int.add_zero,Int.natCast_zero];kernel_rfl))
 rintro⟨k,A,c,L⟩ ⟨hL,hlen,hk⟩ _ o6
 refine My true false ?_ (dt h1)
 refine Mp ?_ call52 (fun bs w hS=>dD x w (aJ.kp hx hS.kp) (by first|exact⟨by omega,by omega,by omega⟩|omega))
 refine Md (n+1+(k:Int)≤x.base+(x.entries.n:Int)) (fun h5=>?_) fun h5=>?_
 rotate_left
 ·refine Mt [.slice A L.length c,vi (cT x.abs)] fun bs w hS=>?_
  have Tf:(k:Int)≤m:=by
    rcases Nat.eq_zero_or_pos k with h|h
    ·omega
    ·exact (hk h).2.2
  have hm:cm x.abs n m=((x.entries.xs.drop (n - x.base).toNat).take m.toNat,0):=by grind[cm]
  have IZ:L=(x.entries.xs.drop (n - x.base).toNat).take m.toNat:=by rw[hL];first|(rw[show k=m.toNat by omega];done)|(rw[List.take_of_length_le (by rw[List.length_drop];omega),List.take_of_length_le (by rw[List.length_drop];omega)])
  have lY: ∀z,z∈L→z.size≤9223372036854775807:=fun z hz=>Sl.rd.mem (s:=x.entries) hx z (List.mem_of_mem_drop (List.mem_of_mem_take (IZ▸hz)))
  refine⟨⟨A,c,L⟩,?_,?_,hS.aO (y:=(⟨A,c,L⟩:Sl ByteArray)) (a4 i0 (hS.res _ i0) lY)⟩
  ·rw[hm];simp only[bO,den,List.map_cons,List.map_nil,h1];rfl
  ·rw[hm];exact IZ
 refine Md ((L.length:Int)<m) (fun h6=>?_) fun h6=>?_
 ·refine Mi ?_ (pc (pR ((n+1+(k:Int)) - x.base)) (pc (pR (((n+1+(k:Int)) - x.base) - 1)) (pA 51 52 (((n+1+(k:Int)) - x.base) - 1) (((n+1+(k:Int)) - x.base) - 1).toNat (s:=x.entries) (fun w hk hr=>(aJ.kp hx hk)))))
  refine M1 ?_
  refine gX (α:=ByteArray) 16 ([(x.entries.at (((n+1+(k:Int)) - x.base) - 1).toNat)]) ?_
  intro A1 c1
  refine Mi ?_ (pR ((n+1+(k:Int))+1))
  exact o6 ⟨k+1,A1,c1,L++[(x.entries.at (((n+1+(k:Int)) - x.base) - 1).toNat)]⟩ ⟨by rw[hL];exact rP (by omega) (by omega),by simp[hlen],fun _=>⟨by assumption,by omega,by omega⟩⟩ (by show x.entries.n+1 - (k+1)<x.entries.n+1 - k;omega) (hp:=(by (try dsimp only);rw[show n+1+((k+1:Nat):Int)=n+1+(k:Int)+1 by omega];kernel_rfl))
 refine Mt [.slice A L.length c,vi (cT x.abs)] fun bs w hS=>?_
 have Tf:(k:Int)≤m:=by
   rcases Nat.eq_zero_or_pos k with h|h
   ·omega
   ·exact (hk h).2.2
 have hm:cm x.abs n m=((x.entries.xs.drop (n - x.base).toNat).take m.toNat,0):=by grind[cm]
 have IZ:L=(x.entries.xs.drop (n - x.base).toNat).take m.toNat:=by rw[hL];first|(rw[show k=m.toNat by omega];done)|(rw[List.take_of_length_le (by rw[List.length_drop];omega),List.take_of_length_le (by rw[List.length_drop];omega)])
 have lY: ∀z,z∈L→z.size≤9223372036854775807:=fun z hz=>Sl.rd.mem (s:=x.entries) hx z (List.mem_of_mem_drop (List.mem_of_mem_take (IZ▸hz)))
 refine⟨⟨A,c,L⟩,?_,?_,hS.aO (y:=(⟨A,c,L⟩:Sl ByteArray)) (a4 i0 (hS.res _ i0) lY)⟩
 ·rw[hm];simp only[bO,den,List.map_cons,List.map_nil,h1];rfl
 ·rw[hm];exact IZ
theorem mT (b:Nat)(f:List Nat)(t:aS)(k:Int)(w:World)(hO:Ow (bm tK b f t) w)(hk:aM t.abs)(h0:0≤k)(h2:k≤2):Calls prog 168 #[.pointer (some (⟨b,0,none⟩:Addr)),vi k] w fun e w'=>e=.returned (vi (t.abs.fH k))∧Kp [] w w':=by
 have fU:=ct hO.1
 obtain⟨q1,q2,q3,q4,q5,q6⟩:=cu hk
 have vY:=Sl.ok.nc fU.1
 have AS:=Sl.ok.nc fU.2.2.2
 have xE:=Sl.ok.nc fU.2.2.1
 have AJ:=Sl.ok.nc fU.2.1
 obtain⟨r1,r2,r3,r4,r5,r6⟩:=ew hk (i:=k.toNat) (by omega)
 obtain⟨s1,s2,s3,s4,s5,s6⟩:=ew hk (i:=t.lead.toNat) (by omega)
 refine M0 ?_ func168
 refine Mi ?_ (pc (pT 15 0 1 (fun w hk hr=>(hO.kp hk))) (pc (pI 17 k (k).toNat (s:=t.r) (fun w hk hr=>(a7 (hO.kp hk)))) (pF 19 (k).toNat 0 2 (s:=t.r) (fun w hk hr=>(a7 (hO.kp hk))))))
 refine cZ 12 [] [] [] ai ?_
 refine bY ?_ (pc (pT 23 0 1 (fun w hk hr=>(hO.kp hk))) (pc (pT 27 4 1 (fun w hk hr=>(hO.kp hk))) (pc (pI 28 t.lead (t.lead).toNat (s:=t.r) (fun w hk hr=>(a7 (hO.kp hk)))) (pF 30 (t.lead).toNat 0 2 (s:=t.r) (fun w hk hr=>(a7 (hO.kp hk)))))))
 refine Ml (σ:=Nat) (fun j=>BJ t k.toNat j) (fun j=>(t.r.at k.toNat).log.entries.n - j) (fun _=>[]) [36,35,34,7,6,0] (fun j=>[(36,vI (j:Int)),(7,vI ((t.r.at k.toNat).log.base+(j:Int)))]) (fun _=>[]) ?_ 0 (Gb t _) (hp:=(by try simp only[Int.add_zero,Int.natCast_zero];kernel_rfl))
 rintro j hI _ bu
 have hj:=hI.1
 refine Md ((j:Int)<(((t.r.at (k).toNat).log.entries.n:Nat):Int)) (fun h1=>?_) fun h1=>?_
 rotate_left
 ·exact cd ((t.r.at k.toNat).log.base+(j:Int)) (by rw[z7 (t:=t) (k:=k) (i:=k.toNat) (by omega) hI (by omega)])
 refine Mi ?_ (pc (pA 38 39 (j:Int) j (s:=(t.r.at (k).toNat).log.entries) (fun w hk hr=>(Sl.rd.sub (s:=t.r) (i:=(k).toNat) (a7 (hO.kp hk)) (by omega)).2.1)) (pT 44 3 1 (fun w hk hr=>(hO.kp hk))))
 refine Md ((t.r.at k.toNat).log.base+(j:Int)<(t.a8.n:Int)) (fun h2=>?_) fun h2=>?_
 ·refine Mi ?_ (pc (pT 50 3 1 (fun w hk hr=>(hO.kp hk))) (pA 52 53 ((t.r.at k.toNat).log.base+(j:Int)) ((t.r.at k.toNat).log.base+(j:Int)).toNat (s:=t.a8) (fun w hk hr=>(BH (hO.kp hk)))))
  refine cr (((t.r.at (k).toNat).log.entries.at j)=(t.a8.at ((t.r.at k.toNat).log.base+(j:Int)).toNat)) (fun h3=>?_) fun h3=>?_
  rotate_left
  ·exact cd ((t.r.at k.toNat).log.base+(j:Int)) (by rw[ot (t:=t) (k:=k) (i:=k.toNat) (by omega) hI (qT (sa (t:=t) (z:=(t.r.at k.toNat).log.base+(j:Int)) (i:=((t.r.at k.toNat).log.base+(j:Int)).toNat) (by omega) (by omega)) (fun q=>h3 (Option.some.inj q).symm))])
  refine Mi ?_ (pc (pR (((t.r.at k.toNat).log.base+(j:Int))+1)) (pR ((j:Int)+1)))
  exact bu (j+1) (sc hI (by omega) ((sa (t:=t) (z:=(t.r.at k.toNat).log.base+(j:Int)) (i:=((t.r.at k.toNat).log.base+(j:Int)).toNat) (by omega) (by omega)).trans (congrArg some h3.symm))) (by show (t.r.at k.toNat).log.entries.n - (j+1)<(t.r.at k.toNat).log.entries.n - j;omega) (hp:=(by (try dsimp only);rw[show (t.r.at k.toNat).log.base+((j+1:Nat):Int)=(t.r.at k.toNat).log.base+(j:Int)+1 by omega];kernel_rfl))
 refine Mi ?_ (pR (((t.r.at k.toNat).log.base+(j:Int)) - (t.r.at (t.lead).toNat).log.base))
 refine Md (((t.r.at k.toNat).log.base+(j:Int)) - (t.r.at (t.lead).toNat).log.base<(((t.r.at (t.lead).toNat).log.entries.n:Nat):Int)) (fun h4=>?_) fun h4=>?_
 rotate_left
 ·refine cr (((t.r.at (k).toNat).log.entries.at j)=emp) (fun h6=>?_) fun h6=>?_
  ·exact absurd h6 (Jv hk (by omega) (by omega))
  exact cd ((t.r.at k.toNat).log.base+(j:Int)) (by rw[ot (t:=t) (k:=k) (i:=k.toNat) (by omega) hI (qT (pQ hk (d:=t.lead.toNat) (by omega) (z:=(t.r.at k.toNat).log.base+(j:Int)) (by omega) (by omega)) (fun q=>by cases q))])
 refine Mi ?_ (pA 66 67 (((t.r.at k.toNat).log.base+(j:Int)) - (t.r.at (t.lead).toNat).log.base) (((t.r.at k.toNat).log.base+(j:Int)) - (t.r.at (t.lead).toNat).log.base).toNat (s:=(t.r.at (t.lead).toNat).log.entries) (fun w hk hr=>(Sl.rd.sub (s:=t.r) (i:=(t.lead).toNat) (a7 (hO.kp hk)) (by omega)).2.1))
 refine cr (((t.r.at (k).toNat).log.entries.at j)=((t.r.at (t.lead).toNat).log.entries.at (((t.r.at k.toNat).log.base+(j:Int)) - (t.r.at (t.lead).toNat).log.base).toNat)) (fun h5=>?_) fun h5=>?_
 rotate_left
 ·exact cd ((t.r.at k.toNat).log.base+(j:Int)) (by rw[ot (t:=t) (k:=k) (i:=k.toNat) (by omega) hI (qT (sb hk (d:=t.lead.toNat) (by omega) (i:=(((t.r.at k.toNat).log.base+(j:Int)) - (t.r.at t.lead.toNat).log.base).toNat) (z:=(t.r.at k.toNat).log.base+(j:Int)) (by omega) (by omega) (by omega)) (fun q=>h5 (Option.some.inj q).symm))])
 refine Mi ?_ (pc (pR (((t.r.at k.toNat).log.base+(j:Int))+1)) (pR ((j:Int)+1)))
 exact bu (j+1) (sc hI (by omega) ((sb hk (d:=t.lead.toNat) (by omega) (i:=(((t.r.at k.toNat).log.base+(j:Int)) - (t.r.at t.lead.toNat).log.base).toNat) (z:=(t.r.at k.toNat).log.base+(j:Int)) (by omega) (by omega) (by omega)).trans (congrArg some h5.symm))) (by show (t.r.at k.toNat).log.entries.n - (j+1)<(t.r.at k.toNat).log.entries.n - j;omega) (hp:=(by (try dsimp only);rw[show (t.r.at k.toNat).log.base+((j+1:Nat):Int)=(t.r.at k.toNat).log.base+(j:Int)+1 by omega];kernel_rfl))
theorem AK (b:Nat)(f:List Nat)(t:aS)(i z:Int)(w:World)(hO:Ow (bm tJ b f t) w)(hk:aM t.abs)(hz:i=z+1)(h0:0≤z)(h2:z≤1073742000):Calls prog 183 #[.pointer (some (⟨b,0,none⟩:Addr)),vi i] w fun e w'=>e=.returned (.tuple #[vs ((t.abs.right z).getD emp),vb (t.abs.right z).isSome])∧Kp [] w w':=by
 have fU:=ct hO.1
 obtain⟨q1,q2,q3,q4,q5,q6⟩:=cu hk
 have vY:=Sl.ok.nc fU.1
 have AS:=Sl.ok.nc fU.2.2.2
 have xE:=Sl.ok.nc fU.2.2.1
 have AJ:=Sl.ok.nc fU.2.1
 obtain⟨s1,s2,s3,s4,s5,s6⟩:=ew hk (i:=t.lead.toNat) (by omega)
 refine M0 ?_ func183
 refine Mi ?_ (pT 11 3 1 (fun w hk hr=>(hO.kp hk)))
 refine Md (i≤(t.a8.n:Int)) (fun h1=>?_) fun h1=>?_
 ·refine Mi ?_ (pc (pT 17 3 1 (fun w hk hr=>(hO.kp hk))) (pc (pR (i - 1)) (pA 20 21 (i - 1) (i - 1).toNat (s:=t.a8) (fun w hk hr=>(BH (hO.kp hk))))))
  refine Mt [vs (t.a8.at (i - 1).toNat),vb true] fun bs w hS=>?_
  refine⟨?_,hS.kp⟩
  rw[(sa (t:=t) (z:=z) (i:=(i - 1).toNat) (by omega) (by omega))]
  rfl
 refine cZ 12 [] [] [] ai ?_
 refine bY ?_ (pc (pT 25 0 1 (fun w hk hr=>(hO.kp hk))) (pc (pT 29 4 1 (fun w hk hr=>(hO.kp hk))) (pc (pI 30 t.lead (t.lead).toNat (s:=t.r) (fun w hk hr=>(a7 (hO.kp hk)))) (pF 32 (t.lead).toNat 0 2 (s:=t.r) (fun w hk hr=>(a7 (hO.kp hk)))))))
 refine Md ((t.r.at (t.lead).toNat).log.base<i) (fun h2=>?_) fun h2=>?_
 rotate_left
 ·refine Mt [ve,vb false] fun bs w hS=>?_
  refine⟨?_,hS.kp⟩
  rw[(pQ hk (d:=t.lead.toNat) (by omega) (z:=z) (by omega) (by omega))]
  rfl
 refine Mp ?_ call52 (fun bs w hS=>dD (t.r.at (t.lead).toNat).log w (Sl.rd.sub (s:=t.r) (i:=(t.lead).toNat) (a7 (hO.kp hS.kp)) (by omega)).2.1 (by first|exact⟨by omega,by omega,by omega⟩|omega))
 refine Md (i≤(t.r.at (t.lead).toNat).log.base+((t.r.at (t.lead).toNat).log.entries.n:Int)) (fun h3=>?_) fun h3=>?_
 rotate_left
 ·refine Mt [ve,vb false] fun bs w hS=>?_
  refine⟨?_,hS.kp⟩
  rw[(pQ hk (d:=t.lead.toNat) (by omega) (z:=z) (by omega) (by omega))]
  rfl
 refine Mi ?_ (pc (pR (i - (t.r.at (t.lead).toNat).log.base)) (pc (pR ((i - (t.r.at (t.lead).toNat).log.base) - 1)) (pA 50 51 ((i - (t.r.at (t.lead).toNat).log.base) - 1) ((i - (t.r.at (t.lead).toNat).log.base) - 1).toNat (s:=(t.r.at (t.lead).toNat).log.entries) (fun w hk hr=>(Sl.rd.sub (s:=t.r) (i:=(t.lead).toNat) (a7 (hO.kp hk)) (by omega)).2.1))))
 refine Mt [vs ((t.r.at (t.lead).toNat).log.entries.at ((i - (t.r.at (t.lead).toNat).log.base) - 1).toNat),vb true] fun bs w hS=>?_
 refine⟨?_,hS.kp⟩
 rw[(sb hk (d:=t.lead.toNat) (by omega) (i:=(i - (t.r.at t.lead.toNat).log.base - 1).toNat) (z:=z) (by omega) (by omega) (by omega))]
 rfl
theorem rr (b:Nat)(f:List Nat)(t:aS)(k:Int)(w:World)(hO:Ow (bm tJ b f t) w)(hk:aM t.abs)(h0:0≤k)(h2:k≤2):Calls prog 124 #[.pointer (some (⟨b,0,none⟩:Addr)),vi k] w fun e w'=>e=.returned (vi (t.abs.fH k))∧Kp [] w w':=by
 have fU:=ct hO.1
 obtain⟨q1,q2,q3,q4,q5,q6⟩:=cu hk
 have vY:=Sl.ok.nc fU.1
 have AS:=Sl.ok.nc fU.2.2.2
 have xE:=Sl.ok.nc fU.2.2.1
 have AJ:=Sl.ok.nc fU.2.1
 obtain⟨r1,r2,r3,r4,r5,r6⟩:=ew hk (i:=k.toNat) (by omega)
 refine M0 ?_ func124
 refine Mi ?_ (pc (pT 12 0 1 (fun w hk hr=>(hO.kp hk))) (pc (pI 14 k (k).toNat (s:=t.r) (fun w hk hr=>(a7 (hO.kp hk)))) (pc (pF 16 (k).toNat 0 2 (s:=t.r) (fun w hk hr=>(a7 (hO.kp hk)))) (pR ((t.r.at (k).toNat).log.base+1)))))
 refine Ml (σ:=Nat) (fun j=>BJ t k.toNat j) (fun j=>(t.r.at k.toNat).log.entries.n - j) (fun _=>[]) [6,5,0] (fun j=>[(6,vI ((t.r.at k.toNat).log.base+1+(j:Int)))]) (fun _=>[]) ?_ 0 (Gb t _) (hp:=(by try simp only[Int.add_zero,Int.natCast_zero];kernel_rfl))
 rintro j hI _ bu
 have hj:=hI.1
 refine Mp ?_ call52 (fun bs w hS=>dD (t.r.at (k).toNat).log w (Sl.rd.sub (s:=t.r) (i:=(k).toNat) (a7 (hO.kp hS.kp)) (by omega)).2.1 (by first|exact⟨by omega,by omega,by omega⟩|omega))
 refine Md ((t.r.at k.toNat).log.base+1+(j:Int)≤(t.r.at (k).toNat).log.base+((t.r.at (k).toNat).log.entries.n:Int)) (fun h1=>?_) fun h1=>?_
 rotate_left
 ·refine Mp ?_ call52 (fun bs w hS=>dD (t.r.at (k).toNat).log w (Sl.rd.sub (s:=t.r) (i:=(k).toNat) (a7 (hO.kp hS.kp)) (by omega)).2.1 (by first|exact⟨by omega,by omega,by omega⟩|omega))
  exact cd ((t.r.at (k).toNat).log.base+((t.r.at (k).toNat).log.entries.n:Int)) (by rw[z7 (t:=t) (k:=k) (i:=k.toNat) (by omega) hI (by omega),show (t.r.at k.toNat).log.base+(j:Int)=(t.r.at k.toNat).log.base+((t.r.at k.toNat).log.entries.n:Int) by omega])
 refine Mp ?_ call183 (fun bs w hS=>AK b f t ((t.r.at k.toNat).log.base+1+(j:Int)) ((t.r.at k.toNat).log.base+(j:Int)) w (hO.mono hS.kp) hk (by omega) (by omega) (by omega))
 refine fL (t.abs.right ((t.r.at k.toNat).log.base+(j:Int))).isSome (fun h2=>?_) fun h2=>?_
 rotate_left
 ·refine Mi ?_ (pR (((t.r.at k.toNat).log.base+1+(j:Int)) - 1))
  refine Mt [vi (((t.r.at k.toNat).log.base+1+(j:Int)) - 1)] fun bs w hS=>?_
  have ql:((t.r.at k.toNat).log.base+1+(j:Int) - (t.r.at k.toNat).log.base - 1).toNat=j:=by omega
  refine⟨?_,hS.kp⟩
  rw[ot (t:=t) (k:=k) (i:=k.toNat) (by omega) hI (qT (H2 h2) (fun q=>by cases q)),show (t.r.at k.toNat).log.base+1+(j:Int) - 1=(t.r.at k.toNat).log.base+(j:Int) by omega]
  rfl
 refine Mi ?_ (pc (pR (((t.r.at k.toNat).log.base+1+(j:Int)) - (t.r.at (k).toNat).log.base)) (pc (pR ((((t.r.at k.toNat).log.base+1+(j:Int)) - (t.r.at (k).toNat).log.base) - 1)) (pA 43 44 ((((t.r.at k.toNat).log.base+1+(j:Int)) - (t.r.at (k).toNat).log.base) - 1) ((((t.r.at k.toNat).log.base+1+(j:Int)) - (t.r.at (k).toNat).log.base) - 1).toNat (s:=(t.r.at (k).toNat).log.entries) (fun w hk hr=>(Sl.rd.sub (s:=t.r) (i:=(k).toNat) (a7 (hO.kp hk)) (by omega)).2.1))))
 refine cr (((t.abs.right ((t.r.at k.toNat).log.base+(j:Int))).getD emp)=((t.r.at (k).toNat).log.entries.at ((((t.r.at k.toNat).log.base+1+(j:Int)) - (t.r.at (k).toNat).log.base) - 1).toNat)) (fun h3=>?_) fun h3=>?_
 ·refine Mi ?_ (pR (((t.r.at k.toNat).log.base+1+(j:Int))+1))
  have ql:((t.r.at k.toNat).log.base+1+(j:Int) - (t.r.at k.toNat).log.base - 1).toNat=j:=by omega
  have he:=C6 h2 h3
  rw[ql]at he
  exact bu (j+1) (sc hI (by omega) he) (by show (t.r.at k.toNat).log.entries.n - (j+1)<(t.r.at k.toNat).log.entries.n - j;omega) (hp:=(by (try dsimp only);rw[show (t.r.at k.toNat).log.base+1+((j+1:Nat):Int)=(t.r.at k.toNat).log.base+1+(j:Int)+1 by omega];kernel_rfl))
 refine Mi ?_ (pR (((t.r.at k.toNat).log.base+1+(j:Int)) - 1))
 refine Mt [vi (((t.r.at k.toNat).log.base+1+(j:Int)) - 1)] fun bs w hS=>?_
 have ql:((t.r.at k.toNat).log.base+1+(j:Int) - (t.r.at k.toNat).log.base - 1).toNat=j:=by omega
 refine⟨?_,hS.kp⟩
 rw[ot (t:=t) (k:=k) (i:=k.toNat) (by omega) hI (qT (C6 h2 rfl) (fun q=>h3 (by rw[ql];exact Option.some.inj q))),show (t.r.at k.toNat).log.base+1+(j:Int) - 1=(t.r.at k.toNat).log.base+(j:Int) by omega]
 rfl
theorem sr (b:Nat)(f:List Nat)(t:aS)(w:World)(hO:Ow (bm tK b f t) w)(hk:aM t.abs):Calls prog 169 #[.pointer (some (⟨b,0,none⟩:Addr))] w fun e w'=> ∃y:List Nat×aS,e=.returned (.tuple #[])∧y.2.abs=t.abs.fe∧dh (bm tK b f t) w w' (bm tK b y.1 y.2):=by
 have fU:=ct hO.1
 obtain⟨q1,q2,q3,q4,q5,q6⟩:=cu hk
 have vY:=Sl.ok.nc fU.1
 have AS:=Sl.ok.nc fU.2.2.2
 have xE:=Sl.ok.nc fU.2.2.1
 have AJ:=Sl.ok.nc fU.2.1
 obtain⟨s1,s2,s3,s4,s5,s6⟩:=ew hk (i:=t.lead.toNat) (by omega)
 refine Mj ?_ func169 hO.start
 refine Mi ?_ (pT 8 0 1 (fun w hk hr=>(hr _ i0)))
 refine Ml (σ:=Nat) (fun i=>i≤3) (fun i=>3 - i) (fun i=>[bm tK b f t]) [10,9,2,0] (fun i=>[(10,vI (i:Int)),(2,vI (iK t.abs i))]) (fun _=>[]) ?_ 0 (Nat.zero_le _)
 rintro i hi _ bu
 refine Md ((i:Int)<(t.r.n:Int)) (fun h1=>?_) fun h1=>?_
 ·refine Mi ?_ (pT 17 4 1 (fun w hk hr=>(hr _ i0)))
  refine cr ((i:Int)=t.lead) (fun h2=>?_) fun h2=>?_
  ·refine Mi ?_ (pR ((i:Int)+1))
   exact bu (i+1) (by omega) (by show 3 - (i+1)<3 - i;omega) (hp:=(by (try dsimp only);rw[BK h2];kernel_rfl))
  refine Mp ?_ call168 (fun bs w hS=>mT b f t (i:Int) w (hS.ow i0) hk (by omega) (by omega))
  have j0:=lO hk (k:=(i:Int)) (by omega) (by omega)
  refine OE ?_ (a:=iK t.abs i) (b:=t.abs.fH (i:Int)) rfl
  refine Mi ?_ (pR ((i:Int)+1))
  exact bu (i+1) (by omega) (by show 3 - (i+1)<3 - i;omega) (hp:=(by (try dsimp only);rw[D9 h2];kernel_rfl))
 refine fP 12 ?_ ai
 refine bY ?_ (pc (pT 28 0 1 (fun w hk hr=>(hr _ i0))) (pc (pT 32 4 1 (fun w hk hr=>(hr _ i0))) (pc (pI 33 t.lead (t.lead).toNat (s:=t.r) (fun w hk hr=>(a7 (hr _ i0)))) (pF 35 (t.lead).toNat 0 2 (s:=t.r) (fun w hk hr=>(a7 (hr _ i0)))))))
 refine Mz ?_
 have yT:i=3:=by omega
 subst yT
 have hU:=BL hk
 refine lN ?_
 refine Ml (σ:=Nat×Option Addr×Nat×List ByteArray) (fun⟨m,A,c,L⟩=>z8 t (iK t.abs 3) m L) (fun⟨m,A,c,L⟩=>((iK t.abs 3) - (m:Int) - (t.a8.n:Int)).toNat) (fun⟨m,A,c,L⟩=>[bh b 98 [t.r.val,t.c.val,t.au.val,.slice A L.length c,vi t.lead],ay 39 t.r.A t.r.c (t.r.xs:List aw),ay 101 t.c.A t.c.c (t.c.xs:List av),ay 93 t.au.A t.au.c (t.au.xs:List bg),ay 9 A c (L:List ByteArray),eN f t.r.xs t.c.xs t.au.xs t.a8.xs]) [4,2,0] (fun _=>[]) (fun _=>[]) ?_ (⟨0,t.a8.A,t.a8.c,t.a8.xs⟩) (H0 t _)
 rintro⟨m,A,c,L⟩ hI _ j8
 have hL:=hI.2.1
 refine Mi ?_ (nI 39 3 1 i0)
 refine Md ((L.length:Int)<iK t.abs 3) (fun h3=>?_) fun h3=>?_
 rotate_left
 ·have vL:(⟨t.r,t.c,t.au,⟨A,c,L⟩,t.lead⟩:aS).abs=t.abs.fe:=(Ea hk hI (by omega)).trans (z9 hk)
  refine iU (K:=tK) (⟨t.r,t.c,t.au,⟨A,c,L⟩,t.lead⟩:aS) (Eb vL hk.fe rfl rfl rfl) ?_
  refine Mt [] fun bs w hS=>?_
  refine⟨(f,(⟨t.r,t.c,t.au,⟨A,c,L⟩,t.lead⟩:aS)),?_,?_,hS.aW⟩
  ·rfl
  ·exact vL
 refine cZ 21 [] [] [bh b 98 [t.r.val,t.c.val,t.au.val,.slice A L.length c,vi t.lead],ay 39 t.r.A t.r.c (t.r.xs:List aw),ay 101 t.c.A t.c.c (t.c.xs:List av),ay 93 t.au.A t.au.c (t.au.xs:List bg),eN f t.r.xs t.c.xs t.au.xs t.a8.xs] ai ?_ (hR:=(.cons_cons _ (.cons_cons _ (.cons_cons _ (.cons_cons _ (.cons _ (List.Sublist.refl _)))))))
 refine bY ?_ (pc (nI 47 3 1 i0) (pc (nI 53 3 1 i0) (pc (pR ((L.length:Int) - (t.r.at (t.lead).toNat).log.base)) (pA 58 59 ((L.length:Int) - (t.r.at (t.lead).toNat).log.base) ((L.length:Int) - (t.r.at (t.lead).toNat).log.base).toNat (s:=(t.r.at (t.lead).toNat).log.entries) (fun w hk hr=>(Sl.rd.sub (s:=t.r) (i:=(t.lead).toNat) (HZ (hr _ i1) (hr _ i4)) (by omega)).2.1))))) (hR:=(.cons_cons _ (.cons_cons _ (.cons_cons _ (.cons_cons _ (.cons _ (List.Sublist.refl _)))))))
 refine M1 ?_ (hR:=(.cons_cons _ (.cons_cons _ (.cons_cons _ (.cons_cons _ (.cons _ (List.Sublist.refl _)))))))
 refine x5 ?_
 refine gX (α:=ByteArray) 16 ([((t.r.at (t.lead).toNat).log.entries.at ((L.length:Int) - (t.r.at (t.lead).toNat).log.base).toNat)]) ?_
 intro A2 c2
 refine Mz ?_
 refine cb ?_
 refine rz 3 [t.r.val,t.c.val,t.au.val,.slice A2 (L++[((t.r.at (t.lead).toNat).log.entries.at ((L.length:Int) - (t.r.at (t.lead).toNat).log.base).toNat)]).length c2,vi t.lead] ?_
 refine dx ?_
 refine cL ?_
 refine dx ?_
 refine dx ?_
 refine dx ?_
 refine dx ?_
 exact j8 ⟨m+1,A2,c2,L++[((t.r.at (t.lead).toNat).log.entries.at ((L.length:Int) - (t.r.at (t.lead).toNat).log.base).toNat)]⟩ (BM hI (by omega) (by omega) (by omega) (by omega)) (by show ((iK t.abs 3) - ((m+1:Nat):Int) - (t.a8.n:Int)).toNat<((iK t.abs 3) - (m:Int) - (t.a8.n:Int)).toNat;omega)
theorem ss (b:Nat)(f:List Nat)(t:aS)(w:World)(hO:Ow (bm tJ b f t) w)(hk:aM t.abs):Calls prog 125 #[.pointer (some (⟨b,0,none⟩:Addr))] w fun e w'=> ∃y:List Nat×aS,e=.returned (.tuple #[])∧y.2.abs=t.abs.fe∧dh (bm tJ b f t) w w' (bm tJ b y.1 y.2):=by
 have fU:=ct hO.1
 obtain⟨q1,q2,q3,q4,q5,q6⟩:=cu hk
 have vY:=Sl.ok.nc fU.1
 have AS:=Sl.ok.nc fU.2.2.2
 have xE:=Sl.ok.nc fU.2.2.1
 have AJ:=Sl.ok.nc fU.2.1
 refine Mj ?_ func125 hO.start
 refine Ml (σ:=Nat×aS) (fun⟨i,T⟩=>i≤3∧T.abs=ET t.abs i) (fun⟨i,T⟩=>3 - i) (fun⟨i,T⟩=>[bm tJ b f T]) [2,0] (fun⟨i,T⟩=>[(2,vI (i:Int))]) (fun _=>[]) ?_ (⟨0,t⟩) ⟨Nat.zero_le _,rfl⟩
 rintro⟨i,T⟩ ⟨hi,vL⟩ _ bu
 have yL:aM T.abs:=by rw[vL];exact hk.ET i
 refine bk (F:=iE T) (fun bs w hS=>ct (hS.res _ i0)) fun ru=>?_
 obtain⟨Rn,Ro,Rp,Rq,Ru,Rv⟩:=cu yL
 have Nb:=Sl.ok.nc ru.1
 have Nc:=Sl.ok.nc ru.2.2.2
 have Nd:=Sl.ok.nc ru.2.2.1
 have Nf:=Sl.ok.nc ru.2.1
 refine Md ((i:Int)<3) (fun h1=>?_) fun h1=>?_
 rotate_left
 ·refine Mt [] fun bs w hS=>?_
  have yT:i=3:=by omega
  subst yT
  refine⟨(f,T),?_,?_,hS.aW⟩
  ·rfl
  ·exact vL
 refine Mi ?_ (pT 15 4 1 (fun w hk hr=>(hr _ i0)))
 refine Md ((i:Int)=T.lead) (fun h2=>?_) fun h2=>?_
 ·refine Mi ?_ (pR ((i:Int)+1))
  exact bu ⟨i+1,T⟩ ⟨by omega,Gc (D:=t.abs) vL h2⟩ (by show 3 - (i+1)<3 - i;omega)
 refine Mp ?_ call124 (fun bs w hS=>rr b f T (i:Int) w (hS.ow i0) yL (by omega) (by omega))
 have j0:=lO yL (k:=(i:Int)) (by omega) (by omega)
 refine Mi ?_ (pc (pT 23 3 1 (fun w hk hr=>(hr _ i0))) (pR ((T.a8.n:Int)+1)))
 refine Ml (σ:=Nat×aS) (fun⟨m,T2⟩=>IQ T i m T2) (fun⟨m,T2⟩=>(T.abs.fH (i:Int) - (m:Int) - (T.a8.n:Int)).toNat) (fun⟨m,T2⟩=>[bm tJ b f T2]) [4,3,2,0] (fun⟨m,T2⟩=>[(4,vI ((T.a8.n:Int)+1+(m:Int)))]) (fun _=>[]) ?_ (⟨0,T⟩) (LS T i) (hp:=(by try simp only[Int.add_zero,Int.natCast_zero];kernel_rfl))
 rintro⟨m,T2⟩ hI _ j8
 have Ng:aM T2.abs:=Gd yL hI
 refine bk (F:=iE T2) (fun bs w hS=>ct (hS.res _ i0)) fun Di=>?_
 obtain⟨TT,TU,TV,TW,TX,TY⟩:=cu Ng
 have Tg:T2.a8.n=T2.a8.xs.length:=rfl
 have Th:T2.au.n=T2.au.xs.length:=rfl
 have Ti:=Sl.ok.nc Di.1
 have Tj:=Sl.ok.nc Di.2.2.2
 have Tk:=Sl.ok.nc Di.2.2.1
 have Tl:=Sl.ok.nc Di.2.1
 refine Md ((T.a8.n:Int)+1+(m:Int)≤T.abs.fH (i:Int)) (fun h3=>?_) fun h3=>?_
 rotate_left
 ·refine Mi ?_ (pR ((i:Int)+1))
  exact bu ⟨i+1,T2⟩ ⟨by omega,H3 vL h2 hI (by omega)⟩ (by show 3 - (i+1)<3 - i;omega)
 refine Mp ?_ call183 (fun bs w hS=>AK b f T2 ((T.a8.n:Int)+1+(m:Int)) ((T.a8.n:Int)+(m:Int)) w (hS.ow i0) Ng (by omega) (by omega) (by omega))
 refine Mi ?_ (pT 41 3 1 (fun w hk hr=>(hr _ i0)))
 refine M1 ?_
 refine lN ?_
 refine x5 ?_
 refine gX (α:=ByteArray) 16 ([(T2.abs.right ((T.a8.n:Int)+(m:Int))).getD emp]) ?_
 intro A2 c2
 refine cb ?_
 refine rz 3 [T2.r.val,T2.c.val,T2.au.val,.slice A2 (T2.a8.xs++[(T2.abs.right ((T.a8.n:Int)+(m:Int))).getD emp]).length c2,vi T2.lead] ?_
 have KT:IQ T i (m+1) (⟨T2.r,T2.c,T2.au,⟨A2,c2,T2.a8.xs++[(T2.abs.right ((T.a8.n:Int)+(m:Int))).getD emp]⟩,T2.lead⟩:aS):=Gf yL (by omega) hI (by omega) (by omega)
 refine dx ?_
 refine cL ?_
 refine dx ?_
 refine dx ?_
 refine dx ?_
 refine dx ?_
 refine iU (K:=tJ) (⟨T2.r,T2.c,T2.au,⟨A2,c2,T2.a8.xs++[(T2.abs.right ((T.a8.n:Int)+(m:Int))).getD emp]⟩,T2.lead⟩:aS) (ic rfl (Gd yL KT) rfl rfl) ?_
 refine Mi ?_ (pR (((T.a8.n:Int)+1+(m:Int))+1))
 exact j8 ⟨m+1,(⟨T2.r,T2.c,T2.au,⟨A2,c2,T2.a8.xs++[(T2.abs.right ((T.a8.n:Int)+(m:Int))).getD emp]⟩,T2.lead⟩:aS)⟩ KT (by show (T.abs.fH (i:Int) - ((m+1:Nat):Int) - (T.a8.n:Int)).toNat<(T.abs.fH (i:Int) - (m:Int) - (T.a8.n:Int)).toNat;omega) (hp:=(by (try dsimp only);rw[show (T.a8.n:Int)+1+((m+1:Nat):Int)=(T.a8.n:Int)+1+(m:Int)+1 by omega];kernel_rfl))
theorem Dj (b:Nat)(t:aS)(l:Sl bg)(w:World)(hO:Ow (sI tK b t) w)(hm:t.au.n≤60)(hl: ∀w',Kp (sI tK b t).fp w w'→l.rd bH w'):Calls prog 172 #[.pointer (some (⟨b,0,none⟩:Addr)),l.val] w fun e w'=> ∃y:Sl bg,e=.returned (.tuple #[])∧y.xs=l.xs.foldl aH.fF t.au.xs∧dh (sI tK b t) w w' (sI tK b (t.z4 y)):=by
 have Ia:=Sl.ok.nc (Sl.rd.ok (hl w (Kp.refl _ w)))
 refine Mj ?_ func172 hO.start
 refine dH ?_
 refine Ml (σ:=Nat×Option Addr×Nat×List bg) (fun⟨k,A,c,L⟩=>k≤l.n∧L=(l.xs.take k).foldl aH.fF t.au.xs) (fun⟨k,A,c,L⟩=>l.n - k) (fun⟨k,A,c,L⟩=>[bh b 98 [t.r.val,t.c.val,.slice A L.length c,t.a8.val,vi t.lead],ay 93 A c (L:List bg)]) [8,7,6,0] (fun⟨k,A,c,L⟩=>[(8,vI (k:Int))]) (fun _=>[]) ?_ (⟨0,t.au.A,t.au.c,t.au.xs⟩) ⟨Nat.zero_le _,rfl⟩
 rintro⟨k,A,c,L⟩ hI _ bu
 have wZ:=hI.1
 have hL:L.length≤60:=by rw[hI.2];exact yi _ hm
 refine Md ((k:Int)<(l.n:Int)) (fun h1=>?_) fun h1=>?_
 rotate_left
 ·refine BN (K:=tK) (t.z4 ⟨A,c,L⟩) ?_
  refine Mt [] fun bs w hS=>?_
  have r8:L=l.xs.foldl aH.fF t.au.xs:=by rw[hI.2,List.take_of_length_le (show l.n≤k by omega)]
  exact⟨⟨A,c,L⟩,rfl,r8,hS.aW⟩
 refine Mi ?_ (pc (pA 10 11 (k:Int) k (s:=l) (fun w hk hr=>(hl _ hk))) (nI 15 2 1 i0))
 refine Md ((L.length:Int)<60) (fun h2=>?_) fun h2=>?_
 rotate_left
 ·refine Mi ?_ (pR ((k:Int)+1))
  exact bu ⟨k+1,A,c,L⟩ ⟨by omega,Aa (by omega) hI.2 (by omega)⟩ (by show l.n - (k+1)<l.n - k;omega)
 refine cZ 10 [] [] [bh b 98 [t.r.val,t.c.val,.slice A L.length c,t.a8.val,vi t.lead]] ai ?_ (hR:=(.cons_cons _ (.cons _ .slnil)))
 refine bY ?_ (nI 22 2 1 i0) (hR:=(.cons_cons _ (.cons _ .slnil)))
 refine M1 ?_ (hR:=(.cons_cons _ (.cons _ .slnil)))
 refine cb ?_
 refine gX (α:=bg) 48 ([l.at k]) ?_
 intro A1 c1
 refine Mz ?_
 refine cb ?_
 refine rz 2 [t.r.val,t.c.val,.slice A1 (L++[l.at k]).length c1,t.a8.val,vi t.lead] ?_
 refine Mi ?_ (pR ((k:Int)+1))
 exact bu ⟨k+1,A1,c1,L++[l.at k]⟩ ⟨by omega,C9 (by omega) hI.2 (by omega)⟩ (by show l.n - (k+1)<l.n - k;omega)
theorem xF (b:Nat)(f:List Nat)(t:aS)(s:ByteArray)(x:Int)(w:World)(hO:Ow (bm tK b f t) w)(hk:aM t.abs)(hs:s.size≤9223372036854775807):Calls prog 162 #[.pointer (some (⟨b,0,none⟩:Addr)),vs s,vi x] w fun e w'=> ∃y:List Nat×aS,e=.returned (vi (t.abs.added (s,x)).2)∧y.2.abs=(t.abs.added (s,x)).1∧dh (bm tK b f t) w w' (bm tK b y.1 y.2):=by
 have fU:=ct hO.1
 obtain⟨q1,q2,q3,q4,q5,q6⟩:=cu hk
 have vY:=Sl.ok.nc fU.1
 have AS:=Sl.ok.nc fU.2.2.2
 have xE:=Sl.ok.nc fU.2.2.1
 have AJ:=Sl.ok.nc fU.2.1
 obtain⟨s1,s2,s3,s4,s5,s6⟩:=ew hk (i:=t.lead.toNat) (by omega)
 refine Mj ?_ func162 hO.start
 refine cr (x=0) (fun h1=>?_) fun h1=>?_
 rotate_left
 ·exact jN (Ac (t:=t) (s:=s) h1) (f,t) rfl fun bs w hS=>hS.aW
 refine fP 11 ?_ ai
 refine bY ?_ (pc (pT 15 0 1 (fun w hk hr=>(hr _ i0))) (pc (pT 19 4 1 (fun w hk hr=>(hr _ i0))) (pA 20 21 t.lead (t.lead).toNat (s:=t.r) (fun w hk hr=>(a7 (hr _ i0))))))
 refine Mz ?_
 refine HO (σ:=Sl ByteArray×List Nat×aw) (fun⟨y1,gn,y2⟩=>y1.xs=[s]∧Sl.ok y1∧y2.abs=(cS (t.r.at (t.lead).toNat).abs ((t.r.at (t.lead).toNat).log.base+((t.r.at (t.lead).toNat).log.entries.n:Int)) y1.xs).1∧aJ.ok y2) (fun⟨y1,gn,y2⟩=>[bF gn y2,ay 9 y1.A y1.c (y1.xs:List ByteArray),bm tK b f t]) [0,2,8] (fun⟨y1,gn,y2⟩=>[(2,vI (cS (t.r.at (t.lead).toNat).abs ((t.r.at (t.lead).toNat).log.base+((t.r.at (t.lead).toNat).log.entries.n:Int)) y1.xs).2),(8,.p 1 0)]) (fun _=>[]) (fun⟨y1,gn,y2⟩=>[⟨39,y2.cs⟩]) 1 (fun _ bu=>?_) ?_
 ·refine fP 13 ?_ ai
  refine tw ?_ ?_
  ·refine Mp ?_ call49 (fun bs w hS=>gQ (t.r.at (t.lead).toNat).log w (Sl.rd.sub (s:=t.r) (i:=(t.lead).toNat) (a7 (hS.res _ i0)) (by omega)).2.1 (by first|exact⟨by omega,by omega,by omega⟩|omega))
   refine tw ?_ ?_
   ·have lT: ∀z,z∈([s]:List ByteArray)→ ∀w,aJ.sub bH w z:=(fun z hz _=>by rw[List.mem_singleton.1 hz];exact hs)
    refine DS (α:=ByteArray) (e:=9) [s] ?_ lT
    intro y1 pM ft
    refine tw ?_ ?_ (hR:=(.cons _ (List.Sublist.refl _)))
    ·refine Mu ?_ call200 (fun bs w hS=>fw (t.r.at (t.lead).toNat) ((t.r.at (t.lead).toNat).log.base+((t.r.at (t.lead).toNat).log.entries.n:Int)) y1 w (Sl.rd.sub (s:=t.r) (i:=(t.lead).toNat) (a7 (hS.res _ i1)) (by omega)) (Rr (B:=bH) (hS.res _ i0) (fun _ _=>trivial) (fun z hz=>lT z (pM▸hz) _))) (hR:=fun _ _=>(.cons _ (.cons _ (List.Sublist.refl _))))
     rintro gn y2 jw jT
     refine Mz ?_
     exact bu ⟨y1,gn,y2⟩ ⟨pM,ft,jw,jT⟩
    refine Mu ?_ call200 (fun bs w hS=>fw (t.r.at (t.lead).toNat) ((t.r.at (t.lead).toNat).log.base+((t.r.at (t.lead).toNat).log.entries.n:Int)) y1 w (Sl.rd.sub (s:=t.r) (i:=(t.lead).toNat) (a7 (hS.res _ i1)) (by omega)) (Rr (B:=bH) (hS.res _ i0) (fun _ _=>trivial) (fun z hz=>lT z (pM▸hz) _))) (hR:=fun _ _=>(.cons _ (.cons _ (List.Sublist.refl _))))
    rintro sN y3 my sm
    refine Mz ?_
    exact bu ⟨y1,sN,y3⟩ ⟨pM,ft,my,sm⟩
   have AL: ∀z,z∈([s]:List ByteArray)→ ∀w,aJ.sub bH w z:=(fun z hz _=>by rw[List.mem_singleton.1 hz];exact hs)
   refine DS (α:=ByteArray) (e:=9) [s] ?_ AL
   intro y4 Nh wa
   refine Mu ?_ call200 (fun bs w hS=>fw (t.r.at (t.lead).toNat) ((t.r.at (t.lead).toNat).log.base+((t.r.at (t.lead).toNat).log.entries.n:Int)) y4 w (Sl.rd.sub (s:=t.r) (i:=(t.lead).toNat) (a7 (hS.res _ i1)) (by omega)) (Rr (B:=bH) (hS.res _ i0) (fun _ _=>trivial) (fun z hz=>AL z (Nh▸hz) _))) (hR:=fun _ _=>(.cons _ (.cons _ (List.Sublist.refl _))))
   rintro rh y5 tC pf
   refine Mz ?_
   exact bu ⟨y4,rh,y5⟩ ⟨Nh,wa,tC,pf⟩
  refine tw ?_ ?_
  ·have rv: ∀z,z∈([s]:List ByteArray)→ ∀w,aJ.sub bH w z:=(fun z hz _=>by rw[List.mem_singleton.1 hz];exact hs)
   refine DS (α:=ByteArray) (e:=9) [s] ?_ rv
   intro y6 EI sq
   refine tw ?_ ?_ (hR:=(.cons _ (List.Sublist.refl _)))
   ·refine Mp ?_ call49 (fun bs w hS=>gQ (t.r.at (t.lead).toNat).log w (Sl.rd.sub (s:=t.r) (i:=(t.lead).toNat) (a7 (hS.res _ i1)) (by omega)).2.1 (by first|exact⟨by omega,by omega,by omega⟩|omega)) (hR:=(.cons _ (List.Sublist.refl _)))
    refine tw ?_ ?_ (hR:=(.cons _ (List.Sublist.refl _)))
    ·refine Mu ?_ call200 (fun bs w hS=>fw (t.r.at (t.lead).toNat) ((t.r.at (t.lead).toNat).log.base+((t.r.at (t.lead).toNat).log.entries.n:Int)) y6 w (Sl.rd.sub (s:=t.r) (i:=(t.lead).toNat) (a7 (hS.res _ i1)) (by omega)) (Rr (B:=bH) (hS.res _ i0) (fun _ _=>trivial) (fun z hz=>rv z (EI▸hz) _))) (hR:=fun _ _=>(.cons _ (.cons _ (List.Sublist.refl _))))
     rintro Ik y7 Cc EJ
     refine Mz ?_
     exact bu ⟨y6,Ik,y7⟩ ⟨EI,sq,Cc,EJ⟩
    refine Mu ?_ call200 (fun bs w hS=>fw (t.r.at (t.lead).toNat) ((t.r.at (t.lead).toNat).log.base+((t.r.at (t.lead).toNat).log.entries.n:Int)) y6 w (Sl.rd.sub (s:=t.r) (i:=(t.lead).toNat) (a7 (hS.res _ i1)) (by omega)) (Rr (B:=bH) (hS.res _ i0) (fun _ _=>trivial) (fun z hz=>rv z (EI▸hz) _))) (hR:=fun _ _=>(.cons _ (.cons _ (List.Sublist.refl _))))
    rintro PT y8 PU Kk
    refine Mz ?_
    exact bu ⟨y6,PT,y8⟩ ⟨EI,sq,PU,Kk⟩
   refine Mp ?_ call49 (fun bs w hS=>gQ (t.r.at (t.lead).toNat).log w (Sl.rd.sub (s:=t.r) (i:=(t.lead).toNat) (a7 (hS.res _ i1)) (by omega)).2.1 (by first|exact⟨by omega,by omega,by omega⟩|omega)) (hR:=(.cons _ (List.Sublist.refl _)))
   refine Mu ?_ call200 (fun bs w hS=>fw (t.r.at (t.lead).toNat) ((t.r.at (t.lead).toNat).log.base+((t.r.at (t.lead).toNat).log.entries.n:Int)) y6 w (Sl.rd.sub (s:=t.r) (i:=(t.lead).toNat) (a7 (hS.res _ i1)) (by omega)) (Rr (B:=bH) (hS.res _ i0) (fun _ _=>trivial) (fun z hz=>rv z (EI▸hz) _))) (hR:=fun _ _=>(.cons _ (.cons _ (List.Sublist.refl _))))
   rintro ta y9 vr tc
   refine Mz ?_
   exact bu ⟨y6,ta,y9⟩ ⟨EI,sq,vr,tc⟩
  refine tw ?_ ?_
  ·refine Mp ?_ call49 (fun bs w hS=>gQ (t.r.at (t.lead).toNat).log w (Sl.rd.sub (s:=t.r) (i:=(t.lead).toNat) (a7 (hS.res _ i0)) (by omega)).2.1 (by first|exact⟨by omega,by omega,by omega⟩|omega))
   have vD: ∀z,z∈([s]:List ByteArray)→ ∀w,aJ.sub bH w z:=(fun z hz _=>by rw[List.mem_singleton.1 hz];exact hs)
   refine DS (α:=ByteArray) (e:=9) [s] ?_ vD
   intro qf GV AH
   refine Mu ?_ call200 (fun bs w hS=>fw (t.r.at (t.lead).toNat) ((t.r.at (t.lead).toNat).log.base+((t.r.at (t.lead).toNat).log.entries.n:Int)) qf w (Sl.rd.sub (s:=t.r) (i:=(t.lead).toNat) (a7 (hS.res _ i1)) (by omega)) (Rr (B:=bH) (hS.res _ i0) (fun _ _=>trivial) (fun z hz=>vD z (GV▸hz) _))) (hR:=fun _ _=>(.cons _ (.cons _ (List.Sublist.refl _))))
   rintro Ch EG Cm AI
   refine Mz ?_
   exact bu ⟨qf,Ch,EG⟩ ⟨GV,AH,Cm,AI⟩
  have vE: ∀z,z∈([s]:List ByteArray)→ ∀w,aJ.sub bH w z:=(fun z hz _=>by rw[List.mem_singleton.1 hz];exact hs)
  refine DS (α:=ByteArray) (e:=9) [s] ?_ vE
  intro td GW vv
  refine Mp ?_ call49 (fun bs w hS=>gQ (t.r.at (t.lead).toNat).log w (Sl.rd.sub (s:=t.r) (i:=(t.lead).toNat) (a7 (hS.res _ i1)) (by omega)).2.1 (by first|exact⟨by omega,by omega,by omega⟩|omega)) (hR:=(.cons _ (List.Sublist.refl _)))
  refine Mu ?_ call200 (fun bs w hS=>fw (t.r.at (t.lead).toNat) ((t.r.at (t.lead).toNat).log.base+((t.r.at (t.lead).toNat).log.entries.n:Int)) td w (Sl.rd.sub (s:=t.r) (i:=(t.lead).toNat) (a7 (hS.res _ i1)) (by omega)) (Rr (B:=bH) (hS.res _ i0) (fun _ _=>trivial) (fun z hz=>vE z (GW▸hz) _))) (hR:=fun _ _=>(.cons _ (.cons _ (List.Sublist.refl _))))
  rintro GR Hg GS Dh
  refine Mz ?_
  exact bu ⟨td,GR,Hg⟩ ⟨GW,vv,GS,Dh⟩
 rintro⟨y1,gn,y2⟩ ⟨pM,ft,jw,jT⟩
 have lT: ∀z,z∈([s]:List ByteArray)→ ∀w,aJ.sub bH w z:=(fun z hz _=>by rw[List.mem_singleton.1 hz];exact hs)
 refine Md ((cS (t.r.at (t.lead).toNat).abs ((t.r.at (t.lead).toNat).log.base+((t.r.at (t.lead).toNat).log.entries.n:Int)) y1.xs).2=0) (fun h2=>?_) fun h2=>?_
 rotate_left
 ·exact jN (qV hk (d:=t.lead.toNat) (by omega) rfl s h1 pM) (f,t) ((if_neg h2).symm) fun bs w hS=>hS.f2.aW
 refine fP 10 ?_ ai
 refine bY ?_ (pc (pT 37 0 1 (fun w hk hr=>(hr _ i2))) (pc (pT 41 4 1 (fun w hk hr=>(hr _ i2))) (pI 43 t.lead (t.lead).toNat (s:=t.r) (fun w hk hr=>(a7 (hr _ i2))))))
 refine Mz ?_
 refine cL ?_
 refine cb ?_
 refine G9 (t.lead).toNat ?_
 refine Mt [vi (cS (t.r.at (t.lead).toNat).abs ((t.r.at (t.lead).toNat).log.base+((t.r.at (t.lead).toNat).log.entries.n:Int)) y1.xs).2] fun bs w hS=>?_
 have hm:=qV hk (d:=t.lead.toNat) (by omega) rfl s h1 pM
 refine⟨((f++gn),(t.jP (t.lead).toNat y2)),?_,?_,hS.aW⟩
 ·rw[hm];rfl
 ·exact (gP t (k:=t.lead) (by omega) y2).trans (by rw[hm,jw];exact (if_pos h2).symm)
theorem AM (b:Nat)(f:List Nat)(t:aS)(s:ByteArray)(x:Int)(w:World)(hO:Ow (bm tJ b f t) w)(hk:aM t.abs)(hs:s.size≤9223372036854775807):Calls prog 119 #[.pointer (some (⟨b,0,none⟩:Addr)),vs s,vi x] w fun e w'=> ∃y:List Nat×aS,e=.returned (vi (t.abs.added (s,x)).2)∧y.2.abs=(t.abs.added (s,x)).1∧dh (bm tJ b f t) w w' (bm tJ b y.1 y.2):=by
 have fU:=ct hO.1
 obtain⟨q1,q2,q3,q4,q5,q6⟩:=cu hk
 have vY:=Sl.ok.nc fU.1
 have AS:=Sl.ok.nc fU.2.2.2
 have xE:=Sl.ok.nc fU.2.2.1
 have AJ:=Sl.ok.nc fU.2.1
 obtain⟨s1,s2,s3,s4,s5,s6⟩:=ew hk (i:=t.lead.toNat) (by omega)
 refine Mj ?_ func119 hO.start
 refine cr (x=0) (fun h1=>?_) fun h1=>?_
 rotate_left
 ·exact jN (Ac (t:=t) (s:=s) h1) (f,t) rfl fun bs w hS=>hS.aW
 refine HO (σ:=Sl ByteArray×List Nat×aw) (fun⟨y1,gn,y2⟩=>y1.xs=[s]∧Sl.ok y1∧y2.abs=(cS (t.r.at (t.lead).toNat).abs ((t.r.at (t.lead).toNat).log.base+((t.r.at (t.lead).toNat).log.entries.n:Int)) y1.xs).1∧aJ.ok y2) (fun⟨y1,gn,y2⟩=>[bF gn y2,ay 9 y1.A y1.c (y1.xs:List ByteArray),bm tJ b f t]) [0,7,8] (fun⟨y1,gn,y2⟩=>[(7,.p 0 0),(8,vI (cS (t.r.at (t.lead).toNat).abs ((t.r.at (t.lead).toNat).log.base+((t.r.at (t.lead).toNat).log.entries.n:Int)) y1.xs).2)]) (fun _=>[]) (fun⟨y1,gn,y2⟩=>[⟨39,y2.cs⟩]) 1 (fun _ bu=>?_) ?_
 ·refine fP 31 ?_ ai
  refine bY ?_ (pc (pT 16 0 1 (fun w hk hr=>(hr _ i0))) (pc (pT 20 4 1 (fun w hk hr=>(hr _ i0))) (pc (pA 21 22 t.lead (t.lead).toNat (s:=t.r) (fun w hk hr=>(a7 (hr _ i0)))) (pc (pT 26 0 1 (fun w hk hr=>(hr _ i0))) (pc (pT 30 4 1 (fun w hk hr=>(hr _ i0))) (pc (pI 31 t.lead (t.lead).toNat (s:=t.r) (fun w hk hr=>(a7 (hr _ i0)))) (pF 33 (t.lead).toNat 0 2 (s:=t.r) (fun w hk hr=>(a7 (hr _ i0))))))))))
  refine tw ?_ ?_
  ·refine Mp ?_ call52 (fun bs w hS=>dD (t.r.at (t.lead).toNat).log w (Sl.rd.sub (s:=t.r) (i:=(t.lead).toNat) (a7 (hS.res _ i0)) (by omega)).2.1 (by first|exact⟨by omega,by omega,by omega⟩|omega))
   refine tw ?_ ?_
   ·have lT: ∀z,z∈([s]:List ByteArray)→ ∀w,aJ.sub bH w z:=(fun z hz _=>by rw[List.mem_singleton.1 hz];exact hs)
    refine DS (α:=ByteArray) (e:=9) [s] ?_ lT
    intro y1 pM ft
    refine tw ?_ ?_ (hR:=(.cons _ (List.Sublist.refl _)))
    ·refine Mu ?_ call177 (fun bs w hS=>gh (t.r.at (t.lead).toNat) ((t.r.at (t.lead).toNat).log.base+((t.r.at (t.lead).toNat).log.entries.n:Int)) y1 w (Sl.rd.sub (s:=t.r) (i:=(t.lead).toNat) (a7 (hS.res _ i1)) (by omega)) (Rr (B:=bH) (hS.res _ i0) (fun _ _=>trivial) (fun z hz=>lT z (pM▸hz) _))) (hR:=fun _ _=>(.cons _ (.cons _ (List.Sublist.refl _))))
     rintro gn y2 jw jT
     refine Mz ?_
     exact bu ⟨y1,gn,y2⟩ ⟨pM,ft,jw,jT⟩
    refine Mu ?_ call177 (fun bs w hS=>gh (t.r.at (t.lead).toNat) ((t.r.at (t.lead).toNat).log.base+((t.r.at (t.lead).toNat).log.entries.n:Int)) y1 w (Sl.rd.sub (s:=t.r) (i:=(t.lead).toNat) (a7 (hS.res _ i1)) (by omega)) (Rr (B:=bH) (hS.res _ i0) (fun _ _=>trivial) (fun z hz=>lT z (pM▸hz) _))) (hR:=fun _ _=>(.cons _ (.cons _ (List.Sublist.refl _))))
    rintro sN y3 my sm
    refine Mz ?_
    exact bu ⟨y1,sN,y3⟩ ⟨pM,ft,my,sm⟩
   have AL: ∀z,z∈([s]:List ByteArray)→ ∀w,aJ.sub bH w z:=(fun z hz _=>by rw[List.mem_singleton.1 hz];exact hs)
   refine DS (α:=ByteArray) (e:=9) [s] ?_ AL
   intro y4 Nh wa
   refine Mu ?_ call177 (fun bs w hS=>gh (t.r.at (t.lead).toNat) ((t.r.at (t.lead).toNat).log.base+((t.r.at (t.lead).toNat).log.entries.n:Int)) y4 w (Sl.rd.sub (s:=t.r) (i:=(t.lead).toNat) (a7 (hS.res _ i1)) (by omega)) (Rr (B:=bH) (hS.res _ i0) (fun _ _=>trivial) (fun z hz=>AL z (Nh▸hz) _))) (hR:=fun _ _=>(.cons _ (.cons _ (List.Sublist.refl _))))
   rintro rh y5 tC pf
   refine Mz ?_
   exact bu ⟨y4,rh,y5⟩ ⟨Nh,wa,tC,pf⟩
  refine tw ?_ ?_
  ·have rv: ∀z,z∈([s]:List ByteArray)→ ∀w,aJ.sub bH w z:=(fun z hz _=>by rw[List.mem_singleton.1 hz];exact hs)
   refine DS (α:=ByteArray) (e:=9) [s] ?_ rv
   intro y6 EI sq
   refine tw ?_ ?_ (hR:=(.cons _ (List.Sublist.refl _)))
   ·refine Mp ?_ call52 (fun bs w hS=>dD (t.r.at (t.lead).toNat).log w (Sl.rd.sub (s:=t.r) (i:=(t.lead).toNat) (a7 (hS.res _ i1)) (by omega)).2.1 (by first|exact⟨by omega,by omega,by omega⟩|omega)) (hR:=(.cons _ (List.Sublist.refl _)))
    refine tw ?_ ?_ (hR:=(.cons _ (List.Sublist.refl _)))
    ·refine Mu ?_ call177 (fun bs w hS=>gh (t.r.at (t.lead).toNat) ((t.r.at (t.lead).toNat).log.base+((t.r.at (t.lead).toNat).log.entries.n:Int)) y6 w (Sl.rd.sub (s:=t.r) (i:=(t.lead).toNat) (a7 (hS.res _ i1)) (by omega)) (Rr (B:=bH) (hS.res _ i0) (fun _ _=>trivial) (fun z hz=>rv z (EI▸hz) _))) (hR:=fun _ _=>(.cons _ (.cons _ (List.Sublist.refl _))))
     rintro Ik y7 Cc EJ
     refine Mz ?_
     exact bu ⟨y6,Ik,y7⟩ ⟨EI,sq,Cc,EJ⟩
    refine Mu ?_ call177 (fun bs w hS=>gh (t.r.at (t.lead).toNat) ((t.r.at (t.lead).toNat).log.base+((t.r.at (t.lead).toNat).log.entries.n:Int)) y6 w (Sl.rd.sub (s:=t.r) (i:=(t.lead).toNat) (a7 (hS.res _ i1)) (by omega)) (Rr (B:=bH) (hS.res _ i0) (fun _ _=>trivial) (fun z hz=>rv z (EI▸hz) _))) (hR:=fun _ _=>(.cons _ (.cons _ (List.Sublist.refl _))))
    rintro PT y8 PU Kk
    refine Mz ?_
    exact bu ⟨y6,PT,y8⟩ ⟨EI,sq,PU,Kk⟩
   refine Mp ?_ call52 (fun bs w hS=>dD (t.r.at (t.lead).toNat).log w (Sl.rd.sub (s:=t.r) (i:=(t.lead).toNat) (a7 (hS.res _ i1)) (by omega)).2.1 (by first|exact⟨by omega,by omega,by omega⟩|omega)) (hR:=(.cons _ (List.Sublist.refl _)))
   refine Mu ?_ call177 (fun bs w hS=>gh (t.r.at (t.lead).toNat) ((t.r.at (t.lead).toNat).log.base+((t.r.at (t.lead).toNat).log.entries.n:Int)) y6 w (Sl.rd.sub (s:=t.r) (i:=(t.lead).toNat) (a7 (hS.res _ i1)) (by omega)) (Rr (B:=bH) (hS.res _ i0) (fun _ _=>trivial) (fun z hz=>rv z (EI▸hz) _))) (hR:=fun _ _=>(.cons _ (.cons _ (List.Sublist.refl _))))
   rintro ta y9 vr tc
   refine Mz ?_
   exact bu ⟨y6,ta,y9⟩ ⟨EI,sq,vr,tc⟩
  refine tw ?_ ?_
  ·refine Mp ?_ call52 (fun bs w hS=>dD (t.r.at (t.lead).toNat).log w (Sl.rd.sub (s:=t.r) (i:=(t.lead).toNat) (a7 (hS.res _ i0)) (by omega)).2.1 (by first|exact⟨by omega,by omega,by omega⟩|omega))
   have vD: ∀z,z∈([s]:List ByteArray)→ ∀w,aJ.sub bH w z:=(fun z hz _=>by rw[List.mem_singleton.1 hz];exact hs)
   refine DS (α:=ByteArray) (e:=9) [s] ?_ vD
   intro qf GV AH
   refine Mu ?_ call177 (fun bs w hS=>gh (t.r.at (t.lead).toNat) ((t.r.at (t.lead).toNat).log.base+((t.r.at (t.lead).toNat).log.entries.n:Int)) qf w (Sl.rd.sub (s:=t.r) (i:=(t.lead).toNat) (a7 (hS.res _ i1)) (by omega)) (Rr (B:=bH) (hS.res _ i0) (fun _ _=>trivial) (fun z hz=>vD z (GV▸hz) _))) (hR:=fun _ _=>(.cons _ (.cons _ (List.Sublist.refl _))))
   rintro Ch EG Cm AI
   refine Mz ?_
   exact bu ⟨qf,Ch,EG⟩ ⟨GV,AH,Cm,AI⟩
  have vE: ∀z,z∈([s]:List ByteArray)→ ∀w,aJ.sub bH w z:=(fun z hz _=>by rw[List.mem_singleton.1 hz];exact hs)
  refine DS (α:=ByteArray) (e:=9) [s] ?_ vE
  intro td GW vv
  refine Mp ?_ call52 (fun bs w hS=>dD (t.r.at (t.lead).toNat).log w (Sl.rd.sub (s:=t.r) (i:=(t.lead).toNat) (a7 (hS.res _ i1)) (by omega)).2.1 (by first|exact⟨by omega,by omega,by omega⟩|omega)) (hR:=(.cons _ (List.Sublist.refl _)))
  refine Mu ?_ call177 (fun bs w hS=>gh (t.r.at (t.lead).toNat) ((t.r.at (t.lead).toNat).log.base+((t.r.at (t.lead).toNat).log.entries.n:Int)) td w (Sl.rd.sub (s:=t.r) (i:=(t.lead).toNat) (a7 (hS.res _ i1)) (by omega)) (Rr (B:=bH) (hS.res _ i0) (fun _ _=>trivial) (fun z hz=>vE z (GW▸hz) _))) (hR:=fun _ _=>(.cons _ (.cons _ (List.Sublist.refl _))))
  rintro GR Hg GS Dh
  refine Mz ?_
  exact bu ⟨td,GR,Hg⟩ ⟨GW,vv,GS,Dh⟩
 rintro⟨y1,gn,y2⟩ ⟨pM,ft,jw,jT⟩
 have lT: ∀z,z∈([s]:List ByteArray)→ ∀w,aJ.sub bH w z:=(fun z hz _=>by rw[List.mem_singleton.1 hz];exact hs)
 refine Md ((cS (t.r.at (t.lead).toNat).abs ((t.r.at (t.lead).toNat).log.base+((t.r.at (t.lead).toNat).log.entries.n:Int)) y1.xs).2=0) (fun h2=>?_) fun h2=>?_
 rotate_left
 ·exact jN (qV hk (d:=t.lead.toNat) (by omega) rfl s h1 pM) (f,t) ((if_neg h2).symm) fun bs w hS=>hS.f2.aW
 refine fP 10 ?_ ai
 refine bY ?_ (pc (pT 45 0 1 (fun w hk hr=>(hr _ i2))) (pc (pT 49 4 1 (fun w hk hr=>(hr _ i2))) (pI 51 t.lead (t.lead).toNat (s:=t.r) (fun w hk hr=>(a7 (hr _ i2))))))
 refine Mz ?_
 refine cL ?_
 refine cb ?_
 refine G9 (t.lead).toNat ?_
 refine Mt [vi (cS (t.r.at (t.lead).toNat).abs ((t.r.at (t.lead).toNat).log.base+((t.r.at (t.lead).toNat).log.entries.n:Int)) y1.xs).2] fun bs w hS=>?_
 have hm:=qV hk (d:=t.lead.toNat) (by omega) rfl s h1 pM
 refine⟨((f++gn),(t.jP (t.lead).toNat y2)),?_,?_,hS.aW⟩
 ·rw[hm];rfl
 ·exact (gP t (k:=t.lead) (by omega) y2).trans (by rw[hm,jw];exact (if_pos h2).symm)
theorem Ni (b:Nat)(f:List Nat)(t:aS)(a:eP)(w:World)(hO:Ow (bm tK b f t) w)(hk:aM t.abs)(ha:aJ.sub bH w a):Calls prog 115 #[.pointer (some (⟨b,0,none⟩:Addr)),a.val] w fun e w'=> ∃y:List Nat×aS,e=.returned (vi (t.abs.kI a).2)∧y.2.abs=(t.abs.kI a).1∧dh (bm tK b f t) w w' (bm tK b y.1 y.2):=by
 have fU:=ct hO.1
 obtain⟨q1,q2,q3,q4,q5,q6⟩:=cu hk
 have vY:=Sl.ok.nc fU.1
 have AS:=Sl.ok.nc fU.2.2.2
 have xE:=Sl.ok.nc fU.2.2.1
 have AJ:=Sl.ok.nc fU.2.1
 have qa:=aJ.bL ha
 refine Mj ?_ func115 hO.start
 refine fP 13 ?_ ai
 refine Md (a.c<0) (fun h1=>?_) fun h1=>?_
 ·refine Mz ?_
  exact jN (sd (t:=t) (a:=a) (by omega)) (f,t) rfl fun bs w hS=>hS.aW
 refine bY ?_ (pT 17 1 1 (fun w hk hr=>(hr _ i0)))
 refine Mz ?_
 refine Md ((t.c.n:Int)≤a.c) (fun h2=>?_) fun h2=>?_
 ·exact jN (sd (t:=t) (a:=a) (by omega)) (f,t) rfl fun bs w hS=>hS.aW
 refine fP 9 ?_ ai
 refine bY ?_ (pc (pT 24 1 1 (fun w hk hr=>(hr _ i0))) (pA 27 28 a.c (a.c).toNat (s:=t.c) (fun w hk hr=>(ff (hr _ i0)))))
 refine Mz ?_
 refine Md (a.kind=1) (fun h3=>?_) fun h3=>?_
 ·refine Mp ?_ call163 (fun bs w hS=>u9 (t.c.at (a.c).toNat) w (Sl.rd.sub (s:=t.c) (i:=(a.c).toNat) (ff (hS.res _ i0)) (by omega)))
  refine nF ?_ call162 (fun bs w hS=>xF b f t (gv (t.c.at (a.c).toNat).abs).1 (gv (t.c.at (a.c).toNat).abs).2 w (hS.ow i0) hk (by first|exact me _|exact o0 _ _))
  rintro tF ry
  have yI:aM tF.2.abs:=by rw[ry];exact aM.added hk _
  refine bk (F:=iE tF.2) (fun bs w hS=>ct (hS.res _ i0)) fun Il=>?_
  have hm:=kK (t:=t) (a:=a) (i:=a.c.toNat) (by omega) (by omega)
  rw[if_pos h3]at hm
  exact jN hm (tF.1,tF.2) (ry) fun bs w hS=>hS.aW
 refine Md (a.kind=3) (fun h4=>?_) fun h4=>?_
 ·refine Mp ?_ call164 (fun bs w hS=>si (t.c.at (a.c).toNat) a.k w (Sl.rd.sub (s:=t.c) (i:=(a.c).toNat) (ff (hS.res _ i0)) (by omega)))
  refine nF ?_ call162 (fun bs w hS=>xF b f t (kB (t.c.at (a.c).toNat).abs a.k).1 (kB (t.c.at (a.c).toNat).abs a.k).2 w (hS.ow i0) hk (by first|exact me _|exact o0 _ _))
  rintro tj p9
  have Bp:aM tj.2.abs:=by rw[p9];exact aM.added hk _
  refine bk (F:=iE tj.2) (fun bs w hS=>ct (hS.res _ i0)) fun Kl=>?_
  have hm:=kK (t:=t) (a:=a) (i:=a.c.toNat) (by omega) (by omega)
  rw[if_neg h3,if_pos h4]at hm
  exact jN hm (tj.1,tj.2) (p9) fun bs w hS=>hS.aW
 refine Mu ?_ call165 (fun bs w hS=>vf (t.c.at (a.c).toNat) a.op w (Sl.rd.sub (s:=t.c) (i:=(a.c).toNat) (ff (hS.res _ i0)) (by omega)) ⟨ha.1,ha.2⟩)
 rintro rh y5 tC pf
 refine Md ((mStart (t.c.at (a.c).toNat).abs a.op).2=0) (fun h5=>?_) fun h5=>?_
 rotate_left
 ·have hm:=kK (t:=t) (a:=a) (i:=a.c.toNat) (by omega) (by omega)
  rw[if_neg h3,if_neg h4]at hm
  exact jN hm (f,t) ((if_neg h5).symm) fun bs w hS=>hS.f1.aW
 refine fP 8 ?_ ai
 refine bY ?_ (pc (pT 61 1 1 (fun w hk hr=>(hr _ i1))) (pI 65 a.c (a.c).toNat (s:=t.c) (fun w hk hr=>(ff (hr _ i1)))))
 refine Mz ?_
 refine NH (a.c).toNat ?_
 refine Mt [vi (mStart (t.c.at (a.c).toNat).abs a.op).2] fun bs w hS=>?_
 have hm:=kK (t:=t) (a:=a) (i:=a.c.toNat) (by omega) (by omega)
 rw[if_neg h3,if_neg h4]at hm
 refine⟨((f++rh),(t.sW (a.c).toNat y5)),?_,?_,hS.aW⟩
 ·rw[hm];rfl
 ·exact (qR t (k:=a.c) (by omega) y5).trans (by rw[hm,tC];exact (if_pos h5).symm)
theorem Nj (b:Nat)(f:List Nat)(t:aS)(a:eP)(w:World)(hO:Ow (bm tJ b f t) w)(hk:aM t.abs)(ha:aJ.sub bH w a):Calls prog 57 #[.pointer (some (⟨b,0,none⟩:Addr)),a.val] w fun e w'=> ∃y:List Nat×aS,e=.returned (vi (t.abs.kI a).2)∧y.2.abs=(t.abs.kI a).1∧dh (bm tJ b f t) w w' (bm tJ b y.1 y.2):=by
 have fU:=ct hO.1
 obtain⟨q1,q2,q3,q4,q5,q6⟩:=cu hk
 have vY:=Sl.ok.nc fU.1
 have AS:=Sl.ok.nc fU.2.2.2
 have xE:=Sl.ok.nc fU.2.2.1
 have AJ:=Sl.ok.nc fU.2.1
 have qa:=aJ.bL ha
 refine Mj ?_ func57 hO.start
 refine fP 10 ?_ ai
 refine bY ?_ (pc (pT 12 1 1 (fun w hk hr=>(hr _ i0))) (pR ((t.c.n:Int) - 1)))
 refine Mp ?_ call51 (fun bs w hS=>b6 a.c 0 ((t.c.n:Int) - 1) w)
 refine Mz ?_
 refine fL (gk a.c 0 ((t.c.n:Int) - 1)) (fun h1=>?_) fun h1=>?_
 rotate_left
 ·have Km:=uU h1
  exact jN (sd (t:=t) (a:=a) (by omega)) (f,t) rfl fun bs w hS=>hS.aW
 obtain⟨Km,PV⟩:=uT h1
 refine Md (a.kind=1) (fun h2=>?_) fun h2=>?_
 ·refine fP 12 ?_ ai
  refine bY ?_ (pc (pT 25 1 1 (fun w hk hr=>(hr _ i0))) (pA 28 29 a.c (a.c).toNat (s:=t.c) (fun w hk hr=>(ff (hr _ i0)))))
  refine Mp ?_ call120 (fun bs w hS=>Ak (t.c.at (a.c).toNat) w (Sl.rd.sub (s:=t.c) (i:=(a.c).toNat) (ff (hS.res _ i0)) (by omega)))
  refine Mz ?_
  refine nF ?_ call119 (fun bs w hS=>AM b f t (gv (t.c.at (a.c).toNat).abs).1 (gv (t.c.at (a.c).toNat).abs).2 w (hS.ow i0) hk (by first|exact me _|exact o0 _ _))
  rintro tF ry
  have yI:aM tF.2.abs:=by rw[ry];exact aM.added hk _
  refine bk (F:=iE tF.2) (fun bs w hS=>ct (hS.res _ i0)) fun Il=>?_
  have hm:=kK (t:=t) (a:=a) (i:=a.c.toNat) (by omega) (by omega)
  rw[if_pos h2]at hm
  exact jN hm (tF.1,tF.2) (ry) fun bs w hS=>hS.aW
 refine Md (a.kind=3) (fun h3=>?_) fun h3=>?_
 ·refine fP 14 ?_ ai
  refine bY ?_ (pc (pT 40 1 1 (fun w hk hr=>(hr _ i0))) (pA 43 44 a.c (a.c).toNat (s:=t.c) (fun w hk hr=>(ff (hr _ i0)))))
  refine Mp ?_ call121 (fun bs w hS=>vR (t.c.at (a.c).toNat) a.k w (Sl.rd.sub (s:=t.c) (i:=(a.c).toNat) (ff (hS.res _ i0)) (by omega)))
  refine Mz ?_
  refine nF ?_ call119 (fun bs w hS=>AM b f t (kB (t.c.at (a.c).toNat).abs a.k).1 (kB (t.c.at (a.c).toNat).abs a.k).2 w (hS.ow i0) hk (by first|exact me _|exact o0 _ _))
  rintro tj p9
  have Bp:aM tj.2.abs:=by rw[p9];exact aM.added hk _
  refine bk (F:=iE tj.2) (fun bs w hS=>ct (hS.res _ i0)) fun Kl=>?_
  have hm:=kK (t:=t) (a:=a) (i:=a.c.toNat) (by omega) (by omega)
  rw[if_neg h2,if_pos h3]at hm
  exact jN hm (tj.1,tj.2) (p9) fun bs w hS=>hS.aW
 refine HO (σ:=List Nat×av) (fun⟨rh,y5⟩=>y5.abs=(mStart (t.c.at (a.c).toNat).abs a.op).1∧aJ.ok y5) (fun⟨rh,y5⟩=>[bF rh y5,bm tJ b f t]) [0,3,5,6] (fun⟨rh,y5⟩=>[(5,.p 1 0),(6,vI (mStart (t.c.at (a.c).toNat).abs a.op).2)]) (fun _=>[]) (fun⟨rh,y5⟩=>[⟨101,y5.cs⟩]) 1 (fun _ bu=>?_) ?_
 ·refine fP 17 ?_ ai
  refine bY ?_ (pc (pT 55 1 1 (fun w hk hr=>(hr _ i0))) (pA 58 59 a.c (a.c).toNat (s:=t.c) (fun w hk hr=>(ff (hr _ i0)))))
  refine tw ?_ ?_
  ·refine Mu ?_ call122 (fun bs w hS=>pt (t.c.at (a.c).toNat) a.op w (Sl.rd.sub (s:=t.c) (i:=(a.c).toNat) (ff (hS.res _ i0)) (by omega)) ⟨ha.1,ha.2⟩)
   rintro rh y5 tC pf
   refine Mz ?_
   exact bu ⟨rh,y5⟩ ⟨tC,pf⟩
  refine Mu ?_ call122 (fun bs w hS=>pt (t.c.at (a.c).toNat) a.op w (Sl.rd.sub (s:=t.c) (i:=(a.c).toNat) (ff (hS.res _ i0)) (by omega)) ⟨ha.1,ha.2⟩)
  rintro Kh y6 GQ sq
  refine Mz ?_
  exact bu ⟨Kh,y6⟩ ⟨GQ,sq⟩
 rintro⟨rh,y5⟩ ⟨tC,pf⟩
 refine Md ((mStart (t.c.at (a.c).toNat).abs a.op).2=0) (fun h4=>?_) fun h4=>?_
 rotate_left
 ·have hm:=kK (t:=t) (a:=a) (i:=a.c.toNat) (by omega) (by omega)
  rw[if_neg h2,if_neg h3]at hm
  exact jN hm (f,t) ((if_neg h4).symm) fun bs w hS=>hS.f1.aW
 refine fP 8 ?_ ai
 refine bY ?_ (pc (pT 70 1 1 (fun w hk hr=>(hr _ i1))) (pI 74 a.c (a.c).toNat (s:=t.c) (fun w hk hr=>(ff (hr _ i1)))))
 refine Mz ?_
 refine NH (a.c).toNat ?_
 refine Mt [vi (mStart (t.c.at (a.c).toNat).abs a.op).2] fun bs w hS=>?_
 have hm:=kK (t:=t) (a:=a) (i:=a.c.toNat) (by omega) (by omega)
 rw[if_neg h2,if_neg h3]at hm
 refine⟨((f++rh),(t.sW (a.c).toNat y5)),?_,?_,hS.aW⟩
 ·rw[hm];rfl
 ·exact (qR t (k:=a.c) (by omega) y5).trans (by rw[hm,tC];exact (if_pos h4).symm)
theorem Im (b:Nat)(f:List Nat)(t:aS)(r many:Int)(w:World)(hO:Ow (bm tK b f t) w)(hk:aM t.abs)(Kn:0≤r)(ny:r≤2):Calls prog 166 #[.pointer (some (⟨b,0,none⟩:Addr)),vi r,vi many] w fun e w'=> ∃y:List Nat×aS,e=.returned (vi (t.abs.pb r many).2)∧y.2.abs=(t.abs.pb r many).1∧dh (bm tK b f t) w w' (bm tK b y.1 y.2):=by
 have fU:=ct hO.1
 obtain⟨q1,q2,q3,q4,q5,q6⟩:=cu hk
 have vY:=Sl.ok.nc fU.1
 have AS:=Sl.ok.nc fU.2.2.2
 have xE:=Sl.ok.nc fU.2.2.1
 have AJ:=Sl.ok.nc fU.2.1
 obtain⟨s1,s2,s3,s4,s5,s6⟩:=ew hk (i:=t.lead.toNat) (by omega)
 obtain⟨r1,r2,r3,r4,r5,r6⟩:=ew hk (i:=r.toNat) (by omega)
 refine Mj ?_ func166 hO.start
 refine Mi ?_ (pT 17 4 1 (fun w hk hr=>(hr _ i0)))
 refine Md (r=t.lead) (fun h1=>?_) fun h1=>?_
 ·exact jN (qX (t:=t) (r:=r) (many:=many) (by omega)) (f,t) rfl fun bs w hS=>hS.aW
 refine Md (many<0) (fun h2=>?_) fun h2=>?_
 ·exact jN (qX (t:=t) (r:=r) (many:=many) (by omega)) (f,t) rfl fun bs w hS=>hS.aW
 refine fP 11 ?_ ai
 refine bY ?_ (pc (pT 26 0 1 (fun w hk hr=>(hr _ i0))) (pc (pT 30 4 1 (fun w hk hr=>(hr _ i0))) (pA 31 32 t.lead (t.lead).toNat (s:=t.r) (fun w hk hr=>(a7 (hr _ i0))))))
 refine Mz ?_
 refine Mp ?_ call168 (fun bs w hS=>mT b f t r w (hS.ow i0) hk (by omega) (by omega))
 have j0:=lO hk (k:=r) (by omega) (by omega)
 refine Md (t.abs.fH r<(t.r.at (t.lead).toNat).log.base) (fun h3=>?_) fun h3=>?_
 ·refine cZ 15 [] [1] [bm tK b f t] ai ?_
  refine bY ?_ (pc (pT 45 0 1 (fun w hk hr=>(hr _ i0))) (pA 47 48 r (r).toNat (s:=t.r) (fun w hk hr=>(a7 (hr _ i0)))))
  refine Mu ?_ call204 (fun bs w hS=>te (t.r.at (r).toNat) (t.r.at (t.lead).toNat).snap w (Sl.rd.sub (s:=t.r) (i:=(r).toNat) (a7 (hS.res _ i0)) (by omega)) (Sl.ok.at (s:=t.r) (i:=(t.lead).toNat) (fU.1) (by omega)).1)
  rintro gn y2 jw jT
  refine Mz ?_
  refine Md ((cv (t.r.at (r).toNat).abs (t.r.at (t.lead).toNat).snap).2=0) (fun h4=>?_) fun h4=>?_
  rotate_left
  ·have ht:=oX hk (many:=many) (i:=r.toNat) (d:=t.lead.toNat) (by omega) (by omega) h3
   exact jN (kr (t:=t) (r:=r) (many:=many) (by omega) ht) (f,t) ((if_neg h4).symm) fun bs w hS=>hS.f1.aW
  refine fP 7 ?_ ai
  refine bY ?_ (pc (pT 83 0 1 (fun w hk hr=>(hr _ i1))) (pI 86 r (r).toNat (s:=t.r) (fun w hk hr=>(a7 (hr _ i1)))))
  refine Mz ?_
  have ht:=oX hk (many:=many) (i:=r.toNat) (d:=t.lead.toNat) (by omega) (by omega) h3
  have GX:(t.jP (r).toNat y2).abs=t.abs.set r (t.abs.told r many).1:=(gP t (k:=r) (by omega) y2).trans (by rw[ht,jw])
  have GY:(t.abs.told r many).2=0:=by rw[ht];exact h4
  refine G9 (r).toNat ?_
  have Bp:aM (t.jP (r).toNat y2).abs:=by rw[GX];exact hk.set (hk.told Kn ny GY)
  refine nF ?_ call169 (fun bs w hS=>sr b (f++gn) (t.jP (r).toNat y2) w (hS.ow i0) Bp)
  rintro Io GZ
  have N2:aM Io.2.abs:=by rw[GZ];exact aM.fe Bp
  refine bk (F:=iE Io.2) (fun bs w hS=>ct (hS.res _ i0)) fun PW=>?_
  refine Mt [vi (cv (t.r.at (r).toNat).abs (t.r.at (t.lead).toNat).snap).2] fun bs w hS=>?_
  have hm:=kr (t:=t) (r:=r) (many:=many) (by omega) ht
  refine⟨(Io.1,Io.2),?_,?_,hS.aW⟩
  ·rw[hm];rfl
  ·rw[hm, ←ht];exact (GZ.trans (congrArg aH.fe GX)).trans (if_pos GY).symm
 refine Mu ?_ call205 (fun bs w hS=>Cp (t.r.at (t.lead).toNat).log (t.abs.fH r) many w (Sl.rd.sub (s:=t.r) (i:=(t.lead).toNat) (a7 (hS.res _ i0)) (by omega)).2.1)
 rintro Kh y6 GQ sq
 refine cr ((cm (t.r.at (t.lead).toNat).log.abs (t.abs.fH r) many).2=0) (fun h5=>?_) fun h5=>?_
 rotate_left
 ·have ht:=Af hk (i:=r.toNat) (d:=t.lead.toNat) (by omega) (by omega) h3 h5
  exact jN (kr (t:=t) (r:=r) (many:=many) (by omega) ht) (f,t) ((if_neg h5).symm) fun bs w hS=>hS.f1.aW
 refine Mi ?_ (pc (pT 69 0 1 (fun w hk hr=>(hr _ i1))) (pA 71 72 r (r).toNat (s:=t.r) (fun w hk hr=>(a7 (hr _ i1)))))
 refine Mu ?_ call200 (fun bs w hS=>fw (t.r.at (r).toNat) (t.abs.fH r) y6 w (Sl.rd.sub (s:=t.r) (i:=(r).toNat) (a7 (hS.res _ i1)) (by omega)) (hS.res _ i0))
 rintro Ik y7 Cc EJ
 refine Md ((cS (t.r.at (r).toNat).abs (t.abs.fH r) y6.xs).2=0) (fun h6=>?_) fun h6=>?_
 rotate_left
 ·have ht:=oY hk (i:=r.toNat) (d:=t.lead.toNat) (by omega) (by omega) h3 h5 GQ
  exact jN (kr (t:=t) (r:=r) (many:=many) (by omega) ht) (f,t) ((if_neg h6).symm) fun bs w hS=>hS.f2.aW
 refine fP 7 ?_ ai
 refine bY ?_ (pc (pT 83 0 1 (fun w hk hr=>(hr _ i2))) (pI 86 r (r).toNat (s:=t.r) (fun w hk hr=>(a7 (hr _ i2)))))
 refine Mz ?_
 refine cL ?_
 refine cb ?_
 have ht:=oY hk (i:=r.toNat) (d:=t.lead.toNat) (by omega) (by omega) h3 h5 GQ
 have GX:(t.jP (r).toNat y7).abs=t.abs.set r (t.abs.told r many).1:=(gP t (k:=r) (by omega) y7).trans (by rw[ht,Cc])
 have GY:(t.abs.told r many).2=0:=by rw[ht];exact h6
 refine G9 (r).toNat ?_
 have Nk:aM (t.jP (r).toNat y7).abs:=by rw[GX];exact hk.set (hk.told Kn ny GY)
 refine nF ?_ call169 (fun bs w hS=>sr b (f++Ik) (t.jP (r).toNat y7) w (hS.ow i0) Nk)
 rintro Ip iZ
 have Tm:aM Ip.2.abs:=by rw[iZ];exact aM.fe Nk
 refine bk (F:=iE Ip.2) (fun bs w hS=>ct (hS.res _ i0)) fun PX=>?_
 refine Mt [vi (cS (t.r.at (r).toNat).abs (t.abs.fH r) y6.xs).2] fun bs w hS=>?_
 have hm:=kr (t:=t) (r:=r) (many:=many) (by omega) ht
 refine⟨(Ip.1,Ip.2),?_,?_,hS.aW⟩
 ·rw[hm];rfl
 ·rw[hm, ←ht];exact (iZ.trans (congrArg aH.fe GX)).trans (if_pos GY).symm
theorem Iq (b:Nat)(f:List Nat)(t:aS)(r many:Int)(w:World)(hO:Ow (bm tJ b f t) w)(hk:aM t.abs)(Kn:0≤r)(ny:r≤2):Calls prog 123 #[.pointer (some (⟨b,0,none⟩:Addr)),vi r,vi many] w fun e w'=> ∃y:List Nat×aS,e=.returned (vi (t.abs.pb r many).2)∧y.2.abs=(t.abs.pb r many).1∧dh (bm tJ b f t) w w' (bm tJ b y.1 y.2):=by
 have fU:=ct hO.1
 obtain⟨q1,q2,q3,q4,q5,q6⟩:=cu hk
 have vY:=Sl.ok.nc fU.1
 have AS:=Sl.ok.nc fU.2.2.2
 have xE:=Sl.ok.nc fU.2.2.1
 have AJ:=Sl.ok.nc fU.2.1
 obtain⟨s1,s2,s3,s4,s5,s6⟩:=ew hk (i:=t.lead.toNat) (by omega)
 obtain⟨r1,r2,r3,r4,r5,r6⟩:=ew hk (i:=r.toNat) (by omega)
 refine Mj ?_ func123 hO.start
 refine Mi ?_ (pT 17 4 1 (fun w hk hr=>(hr _ i0)))
 refine Md (r=t.lead) (fun h1=>?_) fun h1=>?_
 ·exact jN (qX (t:=t) (r:=r) (many:=many) (by omega)) (f,t) rfl fun bs w hS=>hS.aW
 refine Md (many<0) (fun h2=>?_) fun h2=>?_
 ·exact jN (qX (t:=t) (r:=r) (many:=many) (by omega)) (f,t) rfl fun bs w hS=>hS.aW
 refine fP 11 ?_ ai
 refine bY ?_ (pc (pT 26 0 1 (fun w hk hr=>(hr _ i0))) (pc (pT 30 4 1 (fun w hk hr=>(hr _ i0))) (pA 31 32 t.lead (t.lead).toNat (s:=t.r) (fun w hk hr=>(a7 (hr _ i0))))))
 refine Mz ?_
 refine Mp ?_ call124 (fun bs w hS=>rr b f t r w (hS.ow i0) hk (by omega) (by omega))
 have j0:=lO hk (k:=r) (by omega) (by omega)
 refine Md (t.abs.fH r<(t.r.at (t.lead).toNat).log.base) (fun h3=>?_) fun h3=>?_
 ·refine cZ 15 [] [1] [bm tJ b f t] ai ?_
  refine bY ?_ (pc (pT 46 0 1 (fun w hk hr=>(hr _ i0))) (pA 48 49 r (r).toNat (s:=t.r) (fun w hk hr=>(a7 (hr _ i0)))))
  refine Mu ?_ call181 (fun bs w hS=>tf (t.r.at (r).toNat) (t.r.at (t.lead).toNat).snap w (Sl.rd.sub (s:=t.r) (i:=(r).toNat) (a7 (hS.res _ i0)) (by omega)) (Sl.ok.at (s:=t.r) (i:=(t.lead).toNat) (fU.1) (by omega)).1)
  rintro gn y2 jw jT
  refine Mz ?_
  refine Md ((cv (t.r.at (r).toNat).abs (t.r.at (t.lead).toNat).snap).2=0) (fun h4=>?_) fun h4=>?_
  rotate_left
  ·have ht:=oX hk (many:=many) (i:=r.toNat) (d:=t.lead.toNat) (by omega) (by omega) h3
   exact jN (kr (t:=t) (r:=r) (many:=many) (by omega) ht) (f,t) ((if_neg h4).symm) fun bs w hS=>hS.f1.aW
  refine fP 7 ?_ ai
  refine bY ?_ (pc (pT 84 0 1 (fun w hk hr=>(hr _ i1))) (pI 87 r (r).toNat (s:=t.r) (fun w hk hr=>(a7 (hr _ i1)))))
  refine Mz ?_
  have ht:=oX hk (many:=many) (i:=r.toNat) (d:=t.lead.toNat) (by omega) (by omega) h3
  have GX:(t.jP (r).toNat y2).abs=t.abs.set r (t.abs.told r many).1:=(gP t (k:=r) (by omega) y2).trans (by rw[ht,jw])
  have GY:(t.abs.told r many).2=0:=by rw[ht];exact h4
  refine G9 (r).toNat ?_
  have Bp:aM (t.jP (r).toNat y2).abs:=by rw[GX];exact hk.set (hk.told Kn ny GY)
  refine nF ?_ call125 (fun bs w hS=>ss b (f++gn) (t.jP (r).toNat y2) w (hS.ow i0) Bp)
  rintro Io GZ
  have N2:aM Io.2.abs:=by rw[GZ];exact aM.fe Bp
  refine bk (F:=iE Io.2) (fun bs w hS=>ct (hS.res _ i0)) fun PW=>?_
  refine Mt [vi (cv (t.r.at (r).toNat).abs (t.r.at (t.lead).toNat).snap).2] fun bs w hS=>?_
  have hm:=kr (t:=t) (r:=r) (many:=many) (by omega) ht
  refine⟨(Io.1,Io.2),?_,?_,hS.aW⟩
  ·rw[hm];rfl
  ·rw[hm, ←ht];exact (GZ.trans (congrArg aH.fe GX)).trans (if_pos GY).symm
 refine Mu ?_ call182 (fun bs w hS=>yD (t.r.at (t.lead).toNat).log (t.abs.fH r) many w (Sl.rd.sub (s:=t.r) (i:=(t.lead).toNat) (a7 (hS.res _ i0)) (by omega)).2.1 ⟨by omega,by omega⟩)
 rintro Kh y6 GQ sq
 refine cr ((cm (t.r.at (t.lead).toNat).log.abs (t.abs.fH r) many).2=0) (fun h5=>?_) fun h5=>?_
 rotate_left
 ·have ht:=Af hk (i:=r.toNat) (d:=t.lead.toNat) (by omega) (by omega) h3 h5
  exact jN (kr (t:=t) (r:=r) (many:=many) (by omega) ht) (f,t) ((if_neg h5).symm) fun bs w hS=>hS.f1.aW
 refine Mi ?_ (pc (pT 70 0 1 (fun w hk hr=>(hr _ i1))) (pA 72 73 r (r).toNat (s:=t.r) (fun w hk hr=>(a7 (hr _ i1)))))
 refine Mu ?_ call177 (fun bs w hS=>gh (t.r.at (r).toNat) (t.abs.fH r) y6 w (Sl.rd.sub (s:=t.r) (i:=(r).toNat) (a7 (hS.res _ i1)) (by omega)) (hS.res _ i0))
 rintro Ik y7 Cc EJ
 refine Md ((cS (t.r.at (r).toNat).abs (t.abs.fH r) y6.xs).2=0) (fun h6=>?_) fun h6=>?_
 rotate_left
 ·have ht:=oY hk (i:=r.toNat) (d:=t.lead.toNat) (by omega) (by omega) h3 h5 GQ
  exact jN (kr (t:=t) (r:=r) (many:=many) (by omega) ht) (f,t) ((if_neg h6).symm) fun bs w hS=>hS.f2.aW
 refine fP 7 ?_ ai
 refine bY ?_ (pc (pT 84 0 1 (fun w hk hr=>(hr _ i2))) (pI 87 r (r).toNat (s:=t.r) (fun w hk hr=>(a7 (hr _ i2)))))
 refine Mz ?_
 refine cL ?_
 refine cb ?_
 have ht:=oY hk (i:=r.toNat) (d:=t.lead.toNat) (by omega) (by omega) h3 h5 GQ
 have GX:(t.jP (r).toNat y7).abs=t.abs.set r (t.abs.told r many).1:=(gP t (k:=r) (by omega) y7).trans (by rw[ht,Cc])
 have GY:(t.abs.told r many).2=0:=by rw[ht];exact h6
 refine G9 (r).toNat ?_
 have Nk:aM (t.jP (r).toNat y7).abs:=by rw[GX];exact hk.set (hk.told Kn ny GY)
 refine nF ?_ call125 (fun bs w hS=>ss b (f++Ik) (t.jP (r).toNat y7) w (hS.ow i0) Nk)
 rintro Ip iZ
 have Tm:aM Ip.2.abs:=by rw[iZ];exact aM.fe Nk
 refine bk (F:=iE Ip.2) (fun bs w hS=>ct (hS.res _ i0)) fun PX=>?_
 refine Mt [vi (cS (t.r.at (r).toNat).abs (t.abs.fH r) y6.xs).2] fun bs w hS=>?_
 have hm:=kr (t:=t) (r:=r) (many:=many) (by omega) ht
 refine⟨(Ip.1,Ip.2),?_,?_,hS.aW⟩
 ·rw[hm];rfl
 ·rw[hm, ←ht];exact (iZ.trans (congrArg aH.fe GX)).trans (if_pos GY).symm
theorem G0 (b:Nat)(f:List Nat)(t:aS)(r many:Int)(w:World)(hO:Ow (bm tK b f t) w)(hk:aM t.abs)(Kn:0≤r)(ny:r≤2):Calls prog 167 #[.pointer (some (⟨b,0,none⟩:Addr)),vi r,vi many] w fun e w'=> ∃y:List Nat×aS,e=.returned (vi (t.abs.apply r many).2)∧y.2.abs=(t.abs.apply r many).1∧dh (bm tK b f t) w w' (bm tK b y.1 y.2):=by
 have fU:=ct hO.1
 obtain⟨q1,q2,q3,q4,q5,q6⟩:=cu hk
 have vY:=Sl.ok.nc fU.1
 have AS:=Sl.ok.nc fU.2.2.2
 have xE:=Sl.ok.nc fU.2.2.1
 have AJ:=Sl.ok.nc fU.2.1
 obtain⟨s1,s2,s3,s4,s5,s6⟩:=ew hk (i:=t.lead.toNat) (by omega)
 obtain⟨r1,r2,r3,r4,r5,r6⟩:=ew hk (i:=r.toNat) (by omega)
 refine Mj ?_ func167 hO.start
 refine Md (many<0) (fun h1=>?_) fun h1=>?_
 ·exact jN (uW (t:=t) (r:=r) (many:=many) (by omega)) (f,t) rfl fun bs w hS=>hS.aW
 refine Mi ?_ (pc (pT 16 0 1 (fun w hk hr=>(hr _ i0))) (pc (pI 18 r (r).toNat (s:=t.r) (fun w hk hr=>(a7 (hr _ i0)))) (pF 21 (r).toNat 3 1 (s:=t.r) (fun w hk hr=>(a7 (hr _ i0))))))
 refine HO (σ:=List Nat×jO) (fun⟨gn,y2⟩=>y2.abs=(⟨(cB (t.r.at (r).toNat).abs (if t.abs.fH r<(if (t.a8.n:Int)<(t.r.at (r).toNat).state.index+(if 400<many then 400 else many) then (t.a8.n:Int) else (t.r.at (r).toNat).state.index+(if 400<many then 400 else many)) then t.abs.fH r else (if (t.a8.n:Int)<(t.r.at (r).toNat).state.index+(if 400<many then 400 else many) then (t.a8.n:Int) else (t.r.at (r).toNat).state.index+(if 400<many then 400 else many)))).1,(cB (t.r.at (r).toNat).abs (if t.abs.fH r<(if (t.a8.n:Int)<(t.r.at (r).toNat).state.index+(if 400<many then 400 else many) then (t.a8.n:Int) else (t.r.at (r).toNat).state.index+(if 400<many then 400 else many)) then t.abs.fH r else (if (t.a8.n:Int)<(t.r.at (r).toNat).state.index+(if 400<many then 400 else many) then (t.a8.n:Int) else (t.r.at (r).toNat).state.index+(if 400<many then 400 else many)))).2.1⟩:vM)∧aJ.ok y2) (fun⟨gn,y2⟩=>[bF gn y2,bm tK b f t]) [0,1,8,9,10] (fun⟨gn,y2⟩=>[(8,.p 0 0),(9,.v y2.out.val),(10,vI (cB (t.r.at (r).toNat).abs (if t.abs.fH r<(if (t.a8.n:Int)<(t.r.at (r).toNat).state.index+(if 400<many then 400 else many) then (t.a8.n:Int) else (t.r.at (r).toNat).state.index+(if 400<many then 400 else many)) then t.abs.fH r else (if (t.a8.n:Int)<(t.r.at (r).toNat).state.index+(if 400<many then 400 else many) then (t.a8.n:Int) else (t.r.at (r).toNat).state.index+(if 400<many then 400 else many)))).2.2)]) (fun _=>[]) (fun⟨gn,y2⟩=>[⟨39,y2.cM.cs⟩]) 1 (fun _ bu=>?_) ?_
 ·refine fP 29 ?_ ai
  refine bY ?_ (pc (pT 26 0 1 (fun w hk hr=>(hr _ i0))) (pc (pA 28 29 r (r).toNat (s:=t.r) (fun w hk hr=>(a7 (hr _ i0)))) (pc (pR ((t.r.at (r).toNat).state.index+(if 400<many then 400 else many))) (pT 37 3 1 (fun w hk hr=>(hr _ i0))))))
  refine tw ?_ ?_
  ·refine Mp ?_ call168 (fun bs w hS=>mT b f t r w (hS.ow i0) hk (by omega) (by omega))
   have j0:=lO hk (k:=r) (by omega) (by omega)
   refine tw ?_ ?_
   ·refine Mu ?_ call11 (fun bs w hS=>mw (t.r.at (r).toNat) (if t.abs.fH r<(if (t.a8.n:Int)<(t.r.at (r).toNat).state.index+(if 400<many then 400 else many) then (t.a8.n:Int) else (t.r.at (r).toNat).state.index+(if 400<many then 400 else many)) then t.abs.fH r else (if (t.a8.n:Int)<(t.r.at (r).toNat).state.index+(if 400<many then 400 else many) then (t.a8.n:Int) else (t.r.at (r).toNat).state.index+(if 400<many then 400 else many))) w (Sl.rd.sub (s:=t.r) (i:=(r).toNat) (a7 (hS.res _ i0)) (by omega)))
    rintro gn y2 jw jT
    refine Mz ?_
    exact bu ⟨gn,y2⟩ ⟨jw,jT⟩
   refine Mu ?_ call11 (fun bs w hS=>mw (t.r.at (r).toNat) (if t.abs.fH r<(if (t.a8.n:Int)<(t.r.at (r).toNat).state.index+(if 400<many then 400 else many) then (t.a8.n:Int) else (t.r.at (r).toNat).state.index+(if 400<many then 400 else many)) then t.abs.fH r else (if (t.a8.n:Int)<(t.r.at (r).toNat).state.index+(if 400<many then 400 else many) then (t.a8.n:Int) else (t.r.at (r).toNat).state.index+(if 400<many then 400 else many))) w (Sl.rd.sub (s:=t.r) (i:=(r).toNat) (a7 (hS.res _ i0)) (by omega)))
   rintro sN y3 my sm
   refine Mz ?_
   exact bu ⟨sN,y3⟩ ⟨my,sm⟩
  refine Mp ?_ call168 (fun bs w hS=>mT b f t r w (hS.ow i0) hk (by omega) (by omega))
  have rA:=lO hk (k:=r) (by omega) (by omega)
  refine Mu ?_ call11 (fun bs w hS=>mw (t.r.at (r).toNat) (if t.abs.fH r<(if (t.a8.n:Int)<(t.r.at (r).toNat).state.index+(if 400<many then 400 else many) then (t.a8.n:Int) else (t.r.at (r).toNat).state.index+(if 400<many then 400 else many)) then t.abs.fH r else (if (t.a8.n:Int)<(t.r.at (r).toNat).state.index+(if 400<many then 400 else many) then (t.a8.n:Int) else (t.r.at (r).toNat).state.index+(if 400<many then 400 else many))) w (Sl.rd.sub (s:=t.r) (i:=(r).toNat) (a7 (hS.res _ i0)) (by omega)))
  rintro rh y5 tC pf
  refine Mz ?_
  exact bu ⟨rh,y5⟩ ⟨tC,pf⟩
 rintro⟨gn,y2⟩ ⟨jw,jT⟩
 have j0:=lO hk (k:=r) (by omega) (by omega)
 refine cr ((cB (t.r.at (r).toNat).abs (if t.abs.fH r<(if (t.a8.n:Int)<(t.r.at (r).toNat).state.index+(if 400<many then 400 else many) then (t.a8.n:Int) else (t.r.at (r).toNat).state.index+(if 400<many then 400 else many)) then t.abs.fH r else (if (t.a8.n:Int)<(t.r.at (r).toNat).state.index+(if 400<many then 400 else many) then (t.a8.n:Int) else (t.r.at (r).toNat).state.index+(if 400<many then 400 else many)))).2.2=0) (fun h2=>?_) fun h2=>?_
 rotate_left
 ·have hu:=oW (t:=t) (i:=r.toNat) (r:=r) (many:=many) (u:=(if t.abs.fH r<(if (t.a8.n:Int)<(t.r.at (r).toNat).state.index+(if 400<many then 400 else many) then (t.a8.n:Int) else (t.r.at (r).toNat).state.index+(if 400<many then 400 else many)) then t.abs.fH r else (if (t.a8.n:Int)<(t.r.at (r).toNat).state.index+(if 400<many then 400 else many) then (t.a8.n:Int) else (t.r.at (r).toNat).state.index+(if 400<many then 400 else many)))) (by omega) (by (repeat' split)<;>omega)
  exact jN (uX (t:=t) (i:=r.toNat) (r:=r) (many:=many) (by omega) (by omega) hu h2) (f,t) rfl fun bs w hS=>hS.f1.aW
 refine fP 7 ?_ ai
 refine bY ?_ (pc (pT 53 0 1 (fun w hk hr=>(hr _ i1))) (pI 56 r (r).toNat (s:=t.r) (fun w hk hr=>(a7 (hr _ i1)))))
 refine Mz ?_
 refine LQ (r).toNat ?_ (fun w h=>⟨h.1,h.2.1,h.2.2.1,h.2.2.2.1,h.2.2.2.2.1⟩)
 refine Mi ?_ (pT 61 4 1 (fun w hk hr=>(hr _ i0).1))
 refine Md (r=t.lead) (fun h3=>?_) fun h3=>?_
 rotate_left
 ·refine C8 ?_
  refine Mt [vi 0] fun bs w hS=>?_
  have hu:=oW (t:=t) (i:=r.toNat) (r:=r) (many:=many) (u:=(if t.abs.fH r<(if (t.a8.n:Int)<(t.r.at (r).toNat).state.index+(if 400<many then 400 else many) then (t.a8.n:Int) else (t.r.at (r).toNat).state.index+(if 400<many then 400 else many)) then t.abs.fH r else (if (t.a8.n:Int)<(t.r.at (r).toNat).state.index+(if 400<many then 400 else many) then (t.a8.n:Int) else (t.r.at (r).toNat).state.index+(if 400<many then 400 else many)))) (by omega) (by (repeat' split)<;>omega)
  have hm:=oZ (t:=t) (i:=r.toNat) (r:=r) (many:=many) (by omega) (by omega) hu h2 jw
  refine⟨((f++gn),(t.jP (r).toNat y2.cM)),?_,?_,hS.aW⟩
  ·rw[hm];rfl
  ·rw[hm,if_neg h3];exact gP t (k:=r) (by omega) y2.cM
 refine C7 ?_
 refine jZ ?_
 refine cb ?_
 refine BN (K:=tK) (t.jP (r).toNat y2.cM) ?_
 refine nF ?_ call172 (fun bs w hS=>Dj b (t.jP (r).toNat y2.cM) y2.out w (hS.ow i0) (show t.au.n≤60 by omega) (fun w' K3=>Sl.rd.wide (((hS.LR K3) _ i3).2 QF).2.2.2.2.2 (fun _ _=>trivial)))
 rintro E0 Cc
 refine dH ?_
 have hu:=oW (t:=t) (i:=r.toNat) (r:=r) (many:=many) (u:=(if t.abs.fH r<(if (t.a8.n:Int)<(t.r.at (r).toNat).state.index+(if 400<many then 400 else many) then (t.a8.n:Int) else (t.r.at (r).toNat).state.index+(if 400<many then 400 else many)) then t.abs.fH r else (if (t.a8.n:Int)<(t.r.at (r).toNat).state.index+(if 400<many then 400 else many) then (t.a8.n:Int) else (t.r.at (r).toNat).state.index+(if 400<many then 400 else many)))) (by omega) (by (repeat' split)<;>omega)
 have hm:=oZ (t:=t) (i:=r.toNat) (r:=r) (many:=many) (by omega) (by omega) hu h2 jw
 have iZ:(⟨⟨t.r.A,t.r.c,(t.r.xs.set (r).toNat y2.cM)⟩,t.c,⟨E0.A,E0.c,E0.xs⟩,t.a8,t.lead⟩:aS).abs=(t.abs.apply r many).1:=by rw[hm,if_pos h3];exact pU t (k:=r) (by omega) y2.cM ⟨E0.A,E0.c,E0.xs⟩ Cc
 refine dx ?_
 refine dx ?_
 refine jZ ?_
 refine dx ?_
 refine dx ?_
 refine dx ?_
 refine oV (K:=tK) (⟨⟨t.r.A,t.r.c,(t.r.xs.set (r).toNat y2.cM)⟩,t.c,⟨E0.A,E0.c,E0.xs⟩,t.a8,t.lead⟩:aS) (ic iZ (hk.apply Kn ny) rfl rfl) ?_
 refine C8 ?_
 refine Mt [vi 0] fun bs w hS=>?_
 refine⟨((f++gn),(⟨⟨t.r.A,t.r.c,(t.r.xs.set (r).toNat y2.cM)⟩,t.c,⟨E0.A,E0.c,E0.xs⟩,t.a8,t.lead⟩:aS)),?_,?_,hS.aW⟩
 ·rw[hm];rfl
 ·exact iZ
theorem Nl (b:Nat)(f:List Nat)(t:aS)(a:eP)(w:World)(hO:Ow (bm tK b f t) w)(hk:aM t.abs)(ha:aJ.sub bH w a):Calls prog 116 #[.pointer (some (⟨b,0,none⟩:Addr)),.agg #[vi a.kind,vi a.c,vi a.r,vi a.k,vi a.op.kind,vs a.op.a,vs a.op.b,vi a.op.n]] w fun e w'=> ∃y:List Nat×aS,e=.returned (vi (t.abs.kJ a).2)∧y.2.abs=(t.abs.kJ a).1∧dh (bm tK b f t) w w' (bm tK b y.1 y.2):=by
 have fU:=ct hO.1
 obtain⟨q1,q2,q3,q4,q5,q6⟩:=cu hk
 have vY:=Sl.ok.nc fU.1
 have AS:=Sl.ok.nc fU.2.2.2
 have xE:=Sl.ok.nc fU.2.2.1
 have AJ:=Sl.ok.nc fU.2.1
 have qa:=aJ.bL ha
 refine Mj ?_ func116 hO.start
 refine Md (a.r<0) (fun h1=>?_) fun h1=>?_
 ·exact jN (se (t:=t) (a:=a) (by omega)) (f,t) rfl fun bs w hS=>hS.aW
 refine Md ((3:Int)≤a.r) (fun h2=>?_) fun h2=>?_
 ·exact jN (se (t:=t) (a:=a) (by omega)) (f,t) rfl fun bs w hS=>hS.aW
 refine Md (a.kind=4) (fun h3=>?_) fun h3=>?_
 ·refine nF ?_ call166 (fun bs w hS=>Im b f t a.r a.k w (hS.ow i0) hk (by omega) (by omega))
  rintro tF ry
  have yI:aM tF.2.abs:=by rw[ry];exact aM.pb hk (by omega) (by omega)
  refine bk (F:=iE tF.2) (fun bs w hS=>ct (hS.res _ i0)) fun Il=>?_
  have hm:=dV (t:=t) (a:=a) (i:=a.r.toNat) (by omega) (by omega)
  rw[if_pos h3]at hm
  exact jN hm (tF.1,tF.2) (ry) fun bs w hS=>hS.aW
 refine Md (a.kind=5) (fun h4=>?_) fun h4=>?_
 ·refine nF ?_ call167 (fun bs w hS=>G0 b f t a.r a.k w (hS.ow i0) hk (by omega) (by omega))
  rintro tj p9
  have Bp:aM tj.2.abs:=by rw[p9];exact aM.apply hk (by omega) (by omega)
  refine bk (F:=iE tj.2) (fun bs w hS=>ct (hS.res _ i0)) fun Kl=>?_
  have hm:=dV (t:=t) (a:=a) (i:=a.r.toNat) (by omega) (by omega)
  rw[if_neg h3]at hm
  rw[if_pos h4]at hm
  exact jN hm (tj.1,tj.2) (p9) fun bs w hS=>hS.aW
 refine Md (a.kind=8) (fun h5=>?_) fun h5=>?_
 ·refine fP 10 ?_ ai
  refine bY ?_ (pT 54 3 1 (fun w hk hr=>(hr _ i0)))
  refine Mp ?_ call168 (fun bs w hS=>mT b f t a.r w (hS.ow i0) hk (by omega) (by omega))
  have lD:=lO hk (k:=a.r) (by omega) (by omega)
  refine Mz ?_
  refine Md (t.abs.fH a.r<(t.a8.n:Int)) (fun h6=>?_) fun h6=>?_
  ·have hm:=dV (t:=t) (a:=a) (i:=a.r.toNat) (by omega) (by omega)
   rw[if_neg h3]at hm
   rw[if_neg h4]at hm
   rw[if_pos h5]at hm
   rw[if_pos h6]at hm
   exact jN hm (f,t) rfl fun bs w hS=>hS.aW
  refine lN ?_
  refine rz 4 [t.r.val,t.c.val,t.au.val,t.a8.val,vi a.r] ?_
  have KG:aM (⟨t.r,t.c,t.au,t.a8,a.r⟩:aS).abs:=hk.lead (k:=a.r) (by omega) (by omega)
  refine iU (K:=tK) (⟨t.r,t.c,t.au,t.a8,a.r⟩:aS) (fun _ h=>h) ?_
  refine nF ?_ call169 (fun bs w hS=>sr b f (⟨t.r,t.c,t.au,t.a8,a.r⟩:aS) w (hS.ow i0) KG)
  rintro Ko Ir
  have Hd:aM Ko.2.abs:=by rw[Ir];exact aM.fe KG
  refine bk (F:=iE Ko.2) (fun bs w hS=>ct (hS.res _ i0)) fun Tn=>?_
  have hm:=dV (t:=t) (a:=a) (i:=a.r.toNat) (by omega) (by omega)
  rw[if_neg h3]at hm
  rw[if_neg h4]at hm
  rw[if_pos h5]at hm
  rw[if_neg h6]at hm
  exact jN hm (Ko.1,Ko.2) (Ir) fun bs w hS=>hS.aW
 refine Md (a.kind=6) (fun h7=>?_) fun h7=>?_
 ·refine cZ 14 [] [1] [bm tK b f t] ai ?_
  refine bY ?_ (pc (pT 70 0 1 (fun w hk hr=>(hr _ i0))) (pA 73 74 a.r (a.r).toNat (s:=t.r) (fun w hk hr=>(a7 (hr _ i0)))))
  refine Mu ?_ call170 (fun bs w hS=>tg (t.r.at (a.r).toNat) w (Sl.rd.sub (s:=t.r) (i:=(a.r).toNat) (a7 (hS.res _ i0)) (by omega)))
  rintro ta y9 vr tc
  refine Mz ?_
  refine Md ((b8 (t.r.at (a.r).toNat).abs).2=0) (fun h8=>?_) fun h8=>?_
  rotate_left
  ·have hm:=dV (t:=t) (a:=a) (i:=a.r.toNat) (by omega) (by omega)
   rw[if_neg h3]at hm
   rw[if_neg h4]at hm
   rw[if_neg h5]at hm
   rw[if_pos h7]at hm
   rw[ov]at hm
   exact jN hm (f,t) ((if_neg h8).symm) fun bs w hS=>hS.f1.aW
  refine fP 8 ?_ ai
  refine bY ?_ (pc (pT 83 0 1 (fun w hk hr=>(hr _ i1))) (pI 87 a.r (a.r).toNat (s:=t.r) (fun w hk hr=>(a7 (hr _ i1)))))
  refine Mz ?_
  refine G9 (a.r).toNat ?_
  have hm:=dV (t:=t) (a:=a) (i:=a.r.toNat) (by omega) (by omega)
  rw[if_neg h3]at hm
  rw[if_neg h4]at hm
  rw[if_neg h5]at hm
  rw[if_pos h7]at hm
  rw[ov]at hm
  exact jN hm ((f++ta),(t.jP (a.r).toNat y9)) (((gP t (k:=a.r) (by omega) y9).trans (by rw[vr])).trans (if_pos h8).symm) fun bs w hS=>hS.aW
 refine cZ 14 [] [1] [bm tK b f t] ai ?_
 refine bY ?_ (pc (pT 21 0 1 (fun w hk hr=>(hr _ i0))) (pA 24 25 a.r (a.r).toNat (s:=t.r) (fun w hk hr=>(a7 (hr _ i0)))))
 refine Mu ?_ call171 (fun bs w hS=>s8 (t.r.at (a.r).toNat) w (Sl.rd.sub (s:=t.r) (i:=(a.r).toNat) (a7 (hS.res _ i0)) (by omega)))
 rintro Ch EG Cm AI
 refine Mz ?_
 refine Md ((cK (t.r.at (a.r).toNat).abs).2=0) (fun h9=>?_) fun h9=>?_
 rotate_left
 ·have hm:=dV (t:=t) (a:=a) (i:=a.r.toNat) (by omega) (by omega)
  rw[if_neg h3]at hm
  rw[if_neg h4]at hm
  rw[if_neg h5]at hm
  rw[if_neg h7]at hm
  rw[ov]at hm
  exact jN hm (f,t) ((if_neg h9).symm) fun bs w hS=>hS.f1.aW
 refine fP 8 ?_ ai
 refine bY ?_ (pc (pT 83 0 1 (fun w hk hr=>(hr _ i1))) (pI 87 a.r (a.r).toNat (s:=t.r) (fun w hk hr=>(a7 (hr _ i1)))))
 refine Mz ?_
 refine G9 (a.r).toNat ?_
 have hm:=dV (t:=t) (a:=a) (i:=a.r.toNat) (by omega) (by omega)
 rw[if_neg h3]at hm
 rw[if_neg h4]at hm
 rw[if_neg h5]at hm
 rw[if_neg h7]at hm
 rw[ov]at hm
 exact jN hm ((f++Ch),(t.jP (a.r).toNat EG)) (((gP t (k:=a.r) (by omega) EG).trans (by rw[Cm])).trans (if_pos h9).symm) fun bs w hS=>hS.aW
theorem Nm (b:Nat)(f:List Nat)(t:aS)(a:eP)(w:World)(hO:Ow (bm tJ b f t) w)(hk:aM t.abs)(ha:aJ.sub bH w a):Calls prog 58 #[.pointer (some (⟨b,0,none⟩:Addr)),a.val] w fun e w'=> ∃y:List Nat×aS,e=.returned (vi (t.abs.kJ a).2)∧y.2.abs=(t.abs.kJ a).1∧dh (bm tJ b f t) w w' (bm tJ b y.1 y.2):=by
 have fU:=ct hO.1
 obtain⟨q1,q2,q3,q4,q5,q6⟩:=cu hk
 have vY:=Sl.ok.nc fU.1
 have AS:=Sl.ok.nc fU.2.2.2
 have xE:=Sl.ok.nc fU.2.2.1
 have AJ:=Sl.ok.nc fU.2.1
 have qa:=aJ.bL ha
 refine Mj ?_ func58 hO.start
 refine Mp ?_ call51 (fun bs w hS=>b6 a.r 0 2 w)
 refine fL (gk a.r 0 2) (fun h1=>?_) fun h1=>?_
 rotate_left
 ·have Km:=uU h1
  exact jN (se (t:=t) (a:=a) (by omega)) (f,t) rfl fun bs w hS=>hS.aW
 obtain⟨Km,PV⟩:=uT h1
 have lj:=pS hk (i:=a.r.toNat) (by omega)
 obtain⟨r1,r2,r3,r4,r5,r6⟩:=ew hk (i:=a.r.toNat) (by omega)
 refine Md (a.kind=4) (fun h2=>?_) fun h2=>?_
 ·refine nF ?_ call123 (fun bs w hS=>Iq b f t a.r a.k w (hS.ow i0) hk (by omega) (by omega))
  rintro tF ry
  have yI:aM tF.2.abs:=by rw[ry];exact aM.pb hk (by omega) (by omega)
  refine bk (F:=iE tF.2) (fun bs w hS=>ct (hS.res _ i0)) fun Il=>?_
  have hm:=dV (t:=t) (a:=a) (i:=a.r.toNat) (by omega) (by omega)
  rw[if_pos h2]at hm
  exact jN hm (tF.1,tF.2) (ry) fun bs w hS=>hS.aW
 refine Md (a.kind=8) (fun h3=>?_) fun h3=>?_
 ·refine fP 10 ?_ ai
  refine bY ?_ (pT 33 3 1 (fun w hk hr=>(hr _ i0)))
  refine Mp ?_ call124 (fun bs w hS=>rr b f t a.r w (hS.ow i0) hk (by omega) (by omega))
  have iv:=lO hk (k:=a.r) (by omega) (by omega)
  refine Mz ?_
  refine Md (t.abs.fH a.r<(t.a8.n:Int)) (fun h4=>?_) fun h4=>?_
  ·have hm:=dV (t:=t) (a:=a) (i:=a.r.toNat) (by omega) (by omega)
   rw[if_neg h2]at hm
   rw[if_neg (by omega)]at hm
   rw[if_pos h3]at hm
   rw[if_pos h4]at hm
   exact jN hm (f,t) rfl fun bs w hS=>hS.aW
  refine lN ?_
  refine rz 4 [t.r.val,t.c.val,t.au.val,t.a8.val,vi a.r] ?_
  have N2:aM (⟨t.r,t.c,t.au,t.a8,a.r⟩:aS).abs:=hk.lead (k:=a.r) (by omega) (by omega)
  refine iU (K:=tJ) (⟨t.r,t.c,t.au,t.a8,a.r⟩:aS) (fun _ h=>h) ?_
  refine nF ?_ call125 (fun bs w hS=>ss b f (⟨t.r,t.c,t.au,t.a8,a.r⟩:aS) w (hS.ow i0) N2)
  rintro E1 Cq
  have nK:aM E1.2.abs:=by rw[Cq];exact aM.fe N2
  refine bk (F:=iE E1.2) (fun bs w hS=>ct (hS.res _ i0)) fun PY=>?_
  have hm:=dV (t:=t) (a:=a) (i:=a.r.toNat) (by omega) (by omega)
  rw[if_neg h2]at hm
  rw[if_neg (by omega)]at hm
  rw[if_pos h3]at hm
  rw[if_neg h4]at hm
  exact jN hm (E1.1,E1.2) (Cq) fun bs w hS=>hS.aW
 refine Md (a.kind=5) (fun h5=>?_) fun h5=>?_
 rotate_left
 ·refine Md (a.kind=6) (fun mo=>?_) fun mo=>?_
  ·refine cZ 14 [] [1] [bm tJ b f t] ai ?_
   refine bY ?_ (pc (pT 132 0 1 (fun w hk hr=>(hr _ i0))) (pA 135 136 a.r (a.r).toNat (s:=t.r) (fun w hk hr=>(a7 (hr _ i0)))))
   refine Mu ?_ call126 (fun bs w hS=>ti (t.r.at (a.r).toNat) w (Sl.rd.sub (s:=t.r) (i:=(a.r).toNat) (a7 (hS.res _ i0)) (by omega)))
   rintro Ce td Cf vv
   refine Mz ?_
   refine cr ((b8 (t.r.at (a.r).toNat).abs).2=0) (fun pr=>?_) fun pr=>?_
   rotate_left
   ·have hm:=dV (t:=t) (a:=a) (i:=a.r.toNat) (by omega) (by omega)
    rw[if_neg h2]at hm
    rw[if_neg h5]at hm
    rw[if_neg h3]at hm
    rw[if_pos mo]at hm
    rw[ov]at hm
    exact jN hm (f,t) ((if_neg pr).symm) fun bs w hS=>hS.f1.aW
   refine fP 8 ?_ ai
   refine bY ?_ (pc (pT 146 0 1 (fun w hk hr=>(hr _ i1))) (pI 150 a.r (a.r).toNat (s:=t.r) (fun w hk hr=>(a7 (hr _ i1)))))
   refine Mz ?_
   refine G9 (a.r).toNat ?_
   refine LB 1 fun _ Ha=>?_
   refine fP 13 ?_ ai
   refine Mq 155 false ?_ rfl
   refine Mz ?_
   refine Mt [vi 0] fun bs w hS=>?_
   have hm:=dV (t:=t) (a:=a) (i:=a.r.toNat) (by omega) (by omega)
   rw[if_neg h2]at hm
   rw[if_neg h5]at hm
   rw[if_neg h3]at hm
   rw[if_pos mo]at hm
   rw[ov]at hm
   refine⟨((f++Ce),(t.jP (a.r).toNat td)),?_,?_,hS.aW⟩
   ·rw[hm];exact congrArg (fun z=>Ending.returned (vi z)) pr.symm
   ·rw[hm];exact ((gP t (k:=a.r) (by omega) td).trans (by rw[Cf])).trans (if_pos pr).symm
  refine cZ 14 [] [1] [bm tJ b f t] ai ?_
  refine bY ?_ (pc (pT 50 0 1 (fun w hk hr=>(hr _ i0))) (pA 53 54 a.r (a.r).toNat (s:=t.r) (fun w hk hr=>(a7 (hr _ i0)))))
  refine Mu ?_ call127 (fun bs w hS=>s9 (t.r.at (a.r).toNat) w (Sl.rd.sub (s:=t.r) (i:=(a.r).toNat) (a7 (hS.res _ i0)) (by omega)) lj)
  rintro Kj mU EA Na
  refine Mz ?_
  refine cr ((cK (t.r.at (a.r).toNat).abs).2=0) (fun yK=>?_) fun yK=>?_
  rotate_left
  ·have hm:=dV (t:=t) (a:=a) (i:=a.r.toNat) (by omega) (by omega)
   rw[if_neg h2]at hm
   rw[if_neg h5]at hm
   rw[if_neg h3]at hm
   rw[if_neg mo]at hm
   rw[ov]at hm
   exact jN hm (f,t) ((if_neg yK).symm) fun bs w hS=>hS.f1.aW
  refine fP 8 ?_ ai
  refine bY ?_ (pc (pT 146 0 1 (fun w hk hr=>(hr _ i1))) (pI 150 a.r (a.r).toNat (s:=t.r) (fun w hk hr=>(a7 (hr _ i1)))))
  refine Mz ?_
  refine G9 (a.r).toNat ?_
  refine LB 1 fun _ OL=>?_
  refine fP 13 ?_ ai
  refine Mq 155 false ?_ rfl
  refine Mz ?_
  refine Mt [vi 0] fun bs w hS=>?_
  have hm:=dV (t:=t) (a:=a) (i:=a.r.toNat) (by omega) (by omega)
  rw[if_neg h2]at hm
  rw[if_neg h5]at hm
  rw[if_neg h3]at hm
  rw[if_neg mo]at hm
  rw[ov]at hm
  refine⟨((f++Kj),(t.jP (a.r).toNat mU)),?_,?_,hS.aW⟩
  ·rw[hm];exact congrArg (fun z=>Ending.returned (vi z)) yK.symm
  ·rw[hm];exact ((gP t (k:=a.r) (by omega) mU).trans (by rw[EA])).trans (if_pos yK).symm
 refine Md (a.k<0) (fun h6=>?_) fun h6=>?_
 ·have hm:=dV (t:=t) (a:=a) (i:=a.r.toNat) (by omega) (by omega)
  rw[if_neg h2]at hm
  rw[if_pos h5]at hm
  rw[uW (t:=t) (r:=a.r) (many:=a.k) (by omega)]at hm
  exact jN hm (f,t) rfl fun bs w hS=>hS.aW
 refine fP 12 ?_ ai
 refine bY ?_ (pc (pT 66 0 1 (fun w hk hr=>(hr _ i0))) (pc (pI 69 a.r (a.r).toNat (s:=t.r) (fun w hk hr=>(a7 (hr _ i0)))) (pc (pF 72 (a.r).toNat 3 1 (s:=t.r) (fun w hk hr=>(a7 (hr _ i0)))) (pR ((t.r.at (a.r).toNat).state.index+400)))))
 refine Mz ?_
 refine HO (σ:=Int) (fun u1=>u1=(t.r.at a.r.toNat).state.index+min a.k 400) (fun u1=>[bm tJ b f t]) [0,3,5,8] (fun u1=>[(8,vI u1)]) (fun _=>[]) (fun _=>[]) 0 (fun _ bu=>?_) ?_
 ·refine Md (a.k<400) (fun h7=>?_) fun h7=>?_
  rotate_left
  ·exact bu ((t.r.at (a.r).toNat).state.index+400) (by omega)
  refine fP 14 ?_ ai
  refine bY ?_ (pc (pT 80 0 1 (fun w hk hr=>(hr _ i0))) (pc (pI 83 a.r (a.r).toNat (s:=t.r) (fun w hk hr=>(a7 (hr _ i0)))) (pc (pF 86 (a.r).toNat 3 1 (s:=t.r) (fun w hk hr=>(a7 (hr _ i0)))) (pR ((t.r.at (a.r).toNat).state.index+a.k)))))
  refine Mz ?_
  exact bu ((t.r.at (a.r).toNat).state.index+a.k) (by omega)
 rintro u1 KE
 refine Mi ?_ (pT 94 3 1 (fun w hk hr=>(hr _ i0)))
 refine HO (σ:=Int) (fun u2=>u2=min ((t.r.at a.r.toNat).state.index+min a.k 400) (t.a8.n:Int)) (fun u2=>[bm tJ b f t]) [0,3,5,8] (fun u2=>[(8,vI u2)]) (fun _=>[]) (fun _=>[]) 0 (fun _ j8=>?_) ?_
 ·refine Md ((t.a8.n:Int)<u1) (fun h8=>?_) fun h8=>?_
  rotate_left
  ·exact j8 u1 (by omega)
  refine Mi ?_ (pT 100 3 1 (fun w hk hr=>(hr _ i0)))
  exact j8 (t.a8.n:Int) (by omega)
 rintro u2 NM
 refine Mp ?_ call124 (fun bs w hS=>rr b f t a.r w (hS.ow i0) hk (by omega) (by omega))
 have TZ:=lO hk (k:=a.r) (by omega) (by omega)
 refine HO (σ:=Int) (fun u3=>u3=min ((t.r.at a.r.toNat).state.index+min a.k 400) (min (t.a8.n:Int) (t.abs.fH a.r))) (fun u3=>[bm tJ b f t]) [0,3,5,8] (fun u3=>[(8,vI u3)]) (fun _=>[]) (fun _=>[]) 0 (fun _ o6=>?_) ?_
 ·refine Md (t.abs.fH a.r<u2) (fun h9=>?_) fun h9=>?_
  rotate_left
  ·exact o6 u2 (by omega)
  refine Mp ?_ call124 (fun bs w hS=>rr b f t a.r w (hS.ow i0) hk (by omega) (by omega))
  have T0:=lO hk (k:=a.r) (by omega) (by omega)
  exact o6 (t.abs.fH a.r) (by omega)
 rintro u3 NN
 refine cZ 17 [] [1] [bm tJ b f t] ai ?_
 refine bY ?_ (pc (pT 116 0 1 (fun w hk hr=>(hr _ i0))) (pA 119 120 a.r (a.r).toNat (s:=t.r) (fun w hk hr=>(a7 (hr _ i0)))))
 refine Mu ?_ call12 (fun bs w hS=>EH (t.r.at (a.r).toNat) u3 w (Sl.rd.sub (s:=t.r) (i:=(a.r).toNat) (a7 (hS.res _ i0)) (by omega)))
 rintro ta y9 vr tc
 refine Mz ?_
 refine cr ((cB (t.r.at (a.r).toNat).abs u3).2.2=0) (fun ir=>?_) fun ir=>?_
 rotate_left
 ·have hm:=dV (t:=t) (a:=a) (i:=a.r.toNat) (by omega) (by omega)
  rw[if_neg h2]at hm
  rw[if_pos h5]at hm
  have hu:=oW (t:=t) (i:=a.r.toNat) (r:=a.r) (many:=a.k) (u:=u3) (by omega) (by (repeat' split)<;>omega)
  rw[uX (t:=t) (i:=a.r.toNat) (r:=a.r) (many:=a.k) (by omega) (by omega) hu ir]at hm
  exact jN hm (f,t) rfl fun bs w hS=>hS.f1.aW
 refine fP 8 ?_ ai
 refine bY ?_ (pc (pT 146 0 1 (fun w hk hr=>(hr _ i1))) (pI 150 a.r (a.r).toNat (s:=t.r) (fun w hk hr=>(a7 (hr _ i1)))))
 refine Mz ?_
 refine LQ (a.r).toNat ?_ (fun w h=>⟨h.1,h.2.1,h.2.2.1,h.2.2.2.1,h.2.2.2.2.1⟩)
 refine C7 ?_
 refine Ml (σ:=Nat×Option Addr×Nat×List bg) (fun⟨k,A,c,L⟩=>k≤y9.out.n∧L=(y9.out.xs.take k).foldl aH.fF t.au.xs∧(0<k→a.r=t.lead)) (fun⟨k,A,c,L⟩=>y9.out.n - k) (fun⟨k,A,c,L⟩=>[bh b 110 [.slice t.r.A (t.r.xs.set (a.r).toNat y9.cM).length t.r.c,t.c.val,.slice A L.length c,t.a8.val,vi t.lead],ay 39 t.r.A t.r.c ((t.r.xs.set (a.r).toNat y9.cM):List aw),ay 101 t.c.A t.c.c (t.c.xs:List av),ay 93 A c (L:List bg),ay 9 t.a8.A t.a8.c (t.a8.xs:List ByteArray),m8 (f++ta) (t.r.xs.set (a.r).toNat y9.cM) t.c.xs t.au.xs t.a8.xs (bF ta y9)]) [9,7,0,3] (fun⟨k,A,c,L⟩=>[(9,vI (k:Int))]) (fun _=>[]) ?_ (⟨0,t.au.A,t.au.c,t.au.xs⟩) ⟨Nat.zero_le _,rfl,fun h=>absurd h (by omega)⟩
 rintro⟨k,A,c,L⟩ ⟨wZ,hL,hkr⟩ _ sK
 have Mn:L.length≤60:=by rw[hL];exact yi _ (show t.au.n≤60 by omega)
 have T1:=Sl.ok.nc tc.2.2.2.2.2
 refine fP 13 ?_ ai
 refine Md ((k:Int)<(y9.out.n:Int)) (fun g7=>?_) fun g7=>?_
 rotate_left
 ·refine Mz ?_
  have hu:=oW (t:=t) (i:=a.r.toNat) (r:=a.r) (many:=a.k) (u:=u3) (by omega) (by (repeat' split)<;>omega)
  have Kq:=oZ (t:=t) (i:=a.r.toNat) (r:=a.r) (many:=a.k) (by omega) (by omega) hu ir vr
  have KJ:L=if a.r=t.lead then y9.out.xs.foldl aH.fF t.au.xs else t.au.xs:=Ee (by omega) hL hkr
  have iZ:(⟨⟨t.r.A,t.r.c,(t.r.xs.set a.r.toNat y9.cM)⟩,t.c,⟨A,c,L⟩,t.a8,t.lead⟩:aS).abs=(t.abs.apply a.r a.k).1:=by rw[Kq];exact pU t (k:=a.r) (by omega) y9.cM ⟨A,c,L⟩ KJ
  refine oV (K:=tJ) (⟨⟨t.r.A,t.r.c,(t.r.xs.set a.r.toNat y9.cM)⟩,t.c,⟨A,c,L⟩,t.a8,t.lead⟩:aS) (ic iZ (hk.apply (by omega) (by omega)) rfl rfl) ?_
  refine C8 ?_
  refine Mt [vi 0] fun bs w hS=>?_
  have hm:=dV (t:=t) (a:=a) (i:=a.r.toNat) (by omega) (by omega)
  rw[if_neg h2]at hm
  rw[if_pos h5]at hm
  rw[Kq]at hm
  refine⟨((f++ta),(⟨⟨t.r.A,t.r.c,(t.r.xs.set a.r.toNat y9.cM)⟩,t.c,⟨A,c,L⟩,t.a8,t.lead⟩:aS)),?_,?_,hS.aW⟩
  ·rw[hm];rfl
  ·rw[hm, ←Kq];exact iZ
 refine bY ?_ (nI 161 4 1 i0)
 refine Mz ?_
 refine Md (a.r=t.lead) (fun jW=>?_) fun jW=>?_
 rotate_left
 ·have hu:=oW (t:=t) (i:=a.r.toNat) (r:=a.r) (many:=a.k) (u:=u3) (by omega) (by (repeat' split)<;>omega)
  have Kq:=oZ (t:=t) (i:=a.r.toNat) (r:=a.r) (many:=a.k) (by omega) (by omega) hu ir vr
  have KJ:L=if a.r=t.lead then y9.out.xs.foldl aH.fF t.au.xs else t.au.xs:=Ef hL hkr jW
  have iZ:(⟨⟨t.r.A,t.r.c,(t.r.xs.set a.r.toNat y9.cM)⟩,t.c,⟨A,c,L⟩,t.a8,t.lead⟩:aS).abs=(t.abs.apply a.r a.k).1:=by rw[Kq];exact pU t (k:=a.r) (by omega) y9.cM ⟨A,c,L⟩ KJ
  refine oV (K:=tJ) (⟨⟨t.r.A,t.r.c,(t.r.xs.set a.r.toNat y9.cM)⟩,t.c,⟨A,c,L⟩,t.a8,t.lead⟩:aS) (ic iZ (hk.apply (by omega) (by omega)) rfl rfl) ?_
  refine C8 ?_
  refine Mt [vi 0] fun bs w hS=>?_
  have hm:=dV (t:=t) (a:=a) (i:=a.r.toNat) (by omega) (by omega)
  rw[if_neg h2]at hm
  rw[if_pos h5]at hm
  rw[Kq]at hm
  refine⟨((f++ta),(⟨⟨t.r.A,t.r.c,(t.r.xs.set a.r.toNat y9.cM)⟩,t.c,⟨A,c,L⟩,t.a8,t.lead⟩:aS)),?_,?_,hS.aW⟩
  ·rw[hm];rfl
  ·rw[hm, ←Kq];exact iZ
 refine Mi ?_ (nI 169 2 1 i0)
 refine Md ((L.length:Int)<60) (fun k7=>?_) fun k7=>?_
 rotate_left
 ·refine Mi ?_ (pR ((k:Int)+1))
  exact sK ⟨k+1,A,c,L⟩ ⟨by omega,Aa (by omega) hL (by omega),fun _=>by assumption⟩ (by show y9.out.n - (k+1)<y9.out.n - k;omega)
 refine cZ 13 [] [] [bh b 110 [.slice t.r.A (t.r.xs.set (a.r).toNat y9.cM).length t.r.c,t.c.val,.slice A L.length c,t.a8.val,vi t.lead],ay 39 t.r.A t.r.c ((t.r.xs.set (a.r).toNat y9.cM):List aw),ay 101 t.c.A t.c.c (t.c.xs:List av),ay 9 t.a8.A t.a8.c (t.a8.xs:List ByteArray),m8 (f++ta) (t.r.xs.set (a.r).toNat y9.cM) t.c.xs t.au.xs t.a8.xs (bF ta y9)] ai ?_ (hR:=(.cons_cons _ (.cons_cons _ (.cons_cons _ (.cons _ (List.Sublist.refl _))))))
 refine bY ?_ (pc (nI 176 2 1 i0) (pA 179 180 (k:Int) k (s:=y9.out) (fun w hk hr=>((hr _ i4).2 QF).2.2.2.2.2))) (hR:=(.cons_cons _ (.cons_cons _ (.cons_cons _ (.cons _ (List.Sublist.refl _))))))
 refine M1 ?_ (hR:=(.cons_cons _ (.cons_cons _ (.cons_cons _ (.cons _ (List.Sublist.refl _))))))
 refine jZ ?_
 refine gX (α:=bg) 48 ([y9.out.at k]) ?_
 intro EX EY
 refine Mz ?_
 refine cb ?_
 refine rz 2 [.slice t.r.A (t.r.xs.set (a.r).toNat y9.cM).length t.r.c,t.c.val,.slice EX (L++[y9.out.at k]).length EY,t.a8.val,vi t.lead] ?_
 refine Mi ?_ (pR ((k:Int)+1))
 refine dx ?_
 refine dx ?_
 refine jZ ?_
 refine dx ?_
 refine dx ?_
 refine dx ?_
 exact sK ⟨k+1,EX,EY,L++[y9.out.at k]⟩ ⟨by omega,C9 (by omega) hL (by omega),fun _=>by assumption⟩ (by show y9.out.n - (k+1)<y9.out.n - k;omega)
theorem kM (x:av)(m:bg)(b:Nat)(w:World)(hb:(bh b 93 [vi m.ag,vi m.seq,vi m.aE.code,vi m.aE.n,vs m.aE.text]).p w):Calls prog 175 #[x.val,.pointer (some (⟨b,0,none⟩:Addr))] w fun e w'=>e=.returned (vb (decide (x.id=m.ag)))∧Kp [] w w':=by
 refine M0 ?_ func175
 refine Mi ?_ (pX 7 [vi m.ag] (fun w hk hr=>(qp (oJ hb hk) 0 1 rfl)))
 exact Mt [vb (decide (x.id=m.ag))] fun bs w hS=>⟨rfl,hS.kp⟩
theorem wg (s:Sl (Fl av))(p:Fl av→Bool)(kf:Nat)(dc:Array Value)(w:World)(hs:s.rd B w)(cH: ∀args w,(callFunc kf args).run prog w=.ok (.enter kf args) w)
    (hf: ∀(w':World) (x:(Fl av)),x∈s.xs→Kp [] w w'→Calls prog kf (#[x.v.val]++dc) w' fun e sX=>e=.returned (vb (p x))∧Kp [] w' sX):Calls prog 174 #[.slice s.A s.n s.c,.func (.func kf) #[] dc] w fun e w'=>e=.returned (vi (aQ p s.xs))∧Kp [] w w':=by
 have cV:=Sl.rd.ok hs
 have iV:=Sl.ok.nc cV
 have iW:s.n=s.xs.length:=rfl
 refine M0 ?_ func174
 refine Ml (σ:=Nat) (fun i=>i≤s.n∧ ∀j,j<i→p (s.at j)=false) (fun i=>s.n - i) (fun _=>[]) [8,7,0,1] (fun i=>[(8,vI (i:Int))]) (fun _=>[]) ?_ 0 ⟨Nat.zero_le _,fun j hj=>absurd hj (Nat.not_lt_zero _)⟩
 rintro i ⟨hi,hI⟩ _ bu
 refine Md ((i:Int)<(s.n:Int)) (fun h1=>?_) (fun h1=>?_)
 rotate_left
 ·refine Mt [.int .i64 (-1)] fun bs w hS=>?_
  refine⟨?_,hS.kp⟩
  rw[gp fun j hj=>hI j (by omega)]
  rfl
 refine Mi ?_ (pA 14 15 (i:Int) i (db hs))
 refine Mv ?_ cH (fun bs w hS=>hf w (s.at i) (List.mem_of_getElem? (Sl.eA (show i<s.n by omega))) hS.kp)
 refine Mb (p (s.at i)) (fun h2=>?_) (fun h2=>?_)
 ·refine Mt [.int .i64 (i:Int)] fun bs w hS=>?_
  refine⟨?_,hS.kp⟩
  rw[fR (i:=i) (by omega) (by assumption) hI]
  rfl
 refine Mi ?_ (pR ((i:Int)+1))
 exact bu (i+1) ⟨by omega,fun j hj=>by rcases Nat.lt_succ_iff_lt_or_eq.1 hj with h|h;exact hI j h;subst h;assumption⟩ (by omega)
theorem yE (s:Sl av)(p:av→Bool)(kf:Nat)(dc:Array Value)(w:World)(hs:s.rd B w)(cH: ∀args w,(callFunc kf args).run prog w=.ok (.enter kf args) w)
    (hf: ∀(w':World) (x:av),x∈s.xs→Kp [] w w'→Calls prog kf (#[x.val]++dc) w' fun e sX=>e=.returned (vb (p x))∧Kp [] w' sX):Calls prog 174 #[s.val,.func (.func kf) #[] dc] w fun e w'=>e=.returned (vi (aQ p s.xs))∧Kp [] w w':=by
  have h:=wg (⟨s.A,s.c,vH s.xs⟩:Sl (Fl av)) (fun x=>p x.v) kf dc w hs.fl cH (fun w' x hx hk=>hf w' x.v (by obtain⟨y,hy,rfl⟩:=List.mem_map.1 hx;exact hy) hk)
  simp only[tm,Sl.n,List.length_map]at h
  exact h
theorem EK (A:Option Addr)(c:Nat)(L:List bg)(i j:Nat)(ii jj:Int)(w:World)(gb:(ay 93 A c L).p w)(dX: ∀b,b∈(ay 93 A c L).fp→b<w.heap.size)(ei:ii=(i:Int))(ej:jj=(j:Int))(jf:i≤j)(hj:j≤L.length):
    Calls prog 173 #[.slice A L.length c,vi ii,vi jj] w fun e w'=>e=.returned (.slice A (L.take i++L.drop j).length c)∧dh (ay 93 A c L) w w' (ay 93 A c (L.take i++L.drop j)):=by
 subst ei ej
 have mv:=br gb
 have nc:=mv.2
 refine Mj ?_ func173 (WS.eG w _ gb (by cases A<;>simp [ay,fI]) dX)
 refine NF (e:=93) (A:=A) (n:=L.length) (il:=(i:Int)) (ih:=(j:Int)) (im:=(L.length:Int)) (c:=c) i j L.length ?_ rfl rfl rfl (by omega) (by omega) (by omega)
 refine Md ((i:Int)=(j:Int)) (fun h1=>?_) fun h1=>?_
 ·refine Mt [.slice A L.length c] fun bs w hS=>?_
  have BT:i=j:=by omega
  subst BT
  rw[List.take_append_drop]
  exact⟨rfl,hS.aW⟩
 refine fP 6 ?_ ai
 refine bY ?_ (pc (pG [(22,.sl 0 i)] (oc (rfl:0=0) (oc (rfl:(i:Int)=(i:Int)) (oc ((by omega):i≤c) on)))) (pG [(25,.sl j L.length)] (oc (rfl:(j:Int)=(j:Int)) (oc (rfl:L.length=L.length) (oc ((by omega):j≤L.length) on)))))
 refine Mz ?_
 refine NA 48 i j ?_ jf hj
 refine Mi ?_ (pG [(31,.sl (i+(L.length - j)) L.length)] (oc (rfl:((i+(L.length - j):Nat):Int)=(((i+(L.length - j)):Nat):Int)) (oc (rfl:(L.length:Int)=(L.length:Int)) (oc ((by omega):(i+(L.length - j))≤L.length) (oc ((by omega):L.length≤c) on)))))
 refine KA (i+(L.length - j)) (L.length - (i+(L.length - j))) ?_ (by simp only[List.length_append,List.length_take,List.length_drop];omega) (by omega)
 refine Mt [.slice A (i+(L.length - j)) c] fun bs w hS=>?_
 have hlen:(L.take i++L.drop j).length=i+(L.length - j):=by simp only[List.length_append,List.length_take,List.length_drop];omega
 have j1:=hS
 rw[←hlen,List.take_length]at j1
 refine⟨?_,j1.aW⟩
 rw[hlen]
 rfl
theorem Is (b:Nat)(f:List Nat)(t:aS)(a:eP)(w:World)(hO:Ow (bm tK b f t) w)(hk:aM t.abs)(ha:aJ.sub bH w a):Calls prog 117 #[.pointer (some (⟨b,0,none⟩:Addr)),a.val] w fun e w'=> ∃y:List Nat×aS,e=.returned (vi (t.abs.dU a).2)∧y.2.abs=(t.abs.dU a).1∧dh (bm tK b f t) w w' (bm tK b y.1 y.2):=by
 have fU:=ct hO.1
 obtain⟨q1,q2,q3,q4,q5,q6⟩:=cu hk
 have vY:=Sl.ok.nc fU.1
 have AS:=Sl.ok.nc fU.2.2.2
 have xE:=Sl.ok.nc fU.2.2.1
 have AJ:=Sl.ok.nc fU.2.1
 have qa:=aJ.bL ha
 have To:t.au.n=t.au.xs.length:=rfl
 refine Mj ?_ func117 hO.start
 refine fP 13 ?_ ai
 refine Md (a.k<0) (fun h1=>?_) fun h1=>?_
 ·refine Mz ?_
  exact jN (ou (t:=t) (a:=a) (by omega)) (f,t) rfl fun bs w hS=>hS.aW
 refine bY ?_ (pT 18 2 1 (fun w hk hr=>(hr _ i0)))
 refine Mz ?_
 refine Md ((t.au.n:Int)≤a.k) (fun h2=>?_) fun h2=>?_
 ·exact jN (ou (t:=t) (a:=a) (by omega)) (f,t) rfl fun bs w hS=>hS.aW
 refine fP 9 ?_ ai
 refine bY ?_ (pc (pT 25 2 1 (fun w hk hr=>(hr _ i0))) (pA 28 29 a.k (a.k).toNat (s:=t.au) (fun w hk hr=>(uS (hr _ i0)))))
 refine Mz ?_
 refine Md (a.kind=11) (fun h3=>?_) fun h3=>?_
 ·refine Mi ?_ (pT 36 2 1 (fun w hk hr=>(hr _ i0)))
  refine Md ((t.au.n:Int)=60) (fun h4=>?_) fun h4=>?_
  ·have hm:=m9 (t:=t) (a:=a) (i:=(a.k).toNat) (by omega) (by omega)
   rw[if_pos h3,if_pos (by omega)]at hm
   exact jN hm (f,t) rfl fun bs w hS=>hS.aW
  refine M1 ?_
  refine lN ?_
  refine jZ ?_
  refine cb ?_
  refine BN (K:=tK) t ?_
  refine nF ?_ (σ:=Sl bg) (v:=fun AN=>.tuple #[]) (F:=fun AN=>AN.xs=[t.au.at (a.k).toNat].foldl aH.fF t.au.xs) (r:=fun AN=>sI tK b (t.z4 AN)) (vs:=fun bs=>[.pointer (some (⟨b,0,none⟩:Addr)),.slice (some (kv bs 2 0)) 1 1]) call172 (fun bs w hS=>Dj b t (⟨some (kv bs 2 0),1,[t.au.at (a.k).toNat]⟩:Sl bg) w (hS.ow i0) (show t.au.n≤60 by omega) (fun w' K3=>Jx (t.au.at (a.k).toNat) (hS.Fj (i:=2) (b:=⟨93,(t.au.at (a.k).toNat).cs⟩) K3 (by kernel_rfl) (by simp)) (show (t.au.at (a.k).toNat).aE.text.size≤9223372036854775807 from hk.mt _ (aB (show (a.k).toNat<t.au.n by omega)))))
  rintro AN a5
  refine dH ?_
  have hm:=qW (t:=t) (a:=a) (i:=(a.k).toNat) (by omega) (by omega) h3 (by omega) ⟨AN.A,AN.c,AN.xs⟩ (a5.trans (Gj _ (show t.au.n<60 by omega)))
  have iZ:(⟨t.r,t.c,⟨AN.A,AN.c,AN.xs⟩,t.a8,t.lead⟩:aS).abs=(t.abs.dU a).1:=by rw[hm]
  refine dx ?_
  refine dx ?_
  refine jZ ?_
  refine dx ?_
  refine dx ?_
  refine dx ?_
  refine iU (K:=tK) (⟨t.r,t.c,⟨AN.A,AN.c,AN.xs⟩,t.a8,t.lead⟩:aS) (ic iZ (hk.dU a) rfl rfl) ?_
  refine Mt [vi 0] fun bs w hS=>?_
  refine⟨(f,(⟨t.r,t.c,⟨AN.A,AN.c,AN.xs⟩,t.a8,t.lead⟩:aS)),?_,?_,hS.aW⟩
  ·rw[hm];rfl
  ·rw[hm]
 refine lN ?_
 refine cZ 13 [] [] [bh b 98 [t.r.val,t.c.val,t.au.val,t.a8.val,vi t.lead],ay 39 t.r.A t.r.c (t.r.xs:List aw),ay 101 t.c.A t.c.c (t.c.xs:List av),ay 9 t.a8.A t.a8.c (t.a8.xs:List ByteArray),eN f t.r.xs t.c.xs t.au.xs t.a8.xs] ai ?_ (hR:=(.cons_cons _ (.cons_cons _ (.cons_cons _ (.cons _ (List.Sublist.refl _))))))
 refine bY ?_ (pc (nI 47 2 1 i0) (pR (a.k+1))) (hR:=(.cons_cons _ (.cons_cons _ (.cons_cons _ (.cons _ (List.Sublist.refl _))))))
 refine jZ ?_
 refine nF ?_ (σ:=Unit) (v:=fun _=>.slice t.au.A (t.au.xs.take (a.k).toNat++t.au.xs.drop ((a.k).toNat+1)).length t.au.c) (F:=fun _=>True) (r:=fun _=>ay 93 t.au.A t.au.c (t.au.xs.take (a.k).toNat++t.au.xs.drop ((a.k).toNat+1):List bg)) (vs:=fun bs=>[t.au.val,vi a.k,vi (a.k+1)]) call173 (fun bs w hS=>(EK t.au.A t.au.c t.au.xs (a.k).toNat ((a.k).toNat+1) _ _ w (hS.res _ i0) hS.lH.2.2 (by omega) (by omega) (by first|omega|(simp only[Sl.n] at*;omega)) (by first|omega|(simp only[Sl.n] at*;omega))).mono (fun e w' ⟨h1,h2⟩=>⟨(),h1,trivial,h2⟩))
 rintro _ _
 refine Mz ?_
 refine cb ?_
 refine rz 2 [t.r.val,t.c.val,.slice t.au.A (t.au.xs.take (a.k).toNat++t.au.xs.drop ((a.k).toNat+1)).length t.au.c,t.a8.val,vi t.lead] ?_
 have iZ:(⟨t.r,t.c,⟨t.au.A,t.au.c,t.au.xs.take (a.k).toNat++t.au.xs.drop ((a.k).toNat+1)⟩,t.a8,t.lead⟩:aS).abs=t.abs.left a.k:=Ae t (i:=(a.k).toNat) (by omega) (by omega) _ _
 have B0:aM (⟨t.r,t.c,⟨t.au.A,t.au.c,t.au.xs.take (a.k).toNat++t.au.xs.drop ((a.k).toNat+1)⟩,t.a8,t.lead⟩:aS).abs:=by rw[iZ];exact hk.left _
 refine dx ?_
 refine dx ?_
 refine jZ ?_
 refine dx ?_
 refine dx ?_
 refine dx ?_
 refine iU (K:=tK) (⟨t.r,t.c,⟨t.au.A,t.au.c,t.au.xs.take (a.k).toNat++t.au.xs.drop ((a.k).toNat+1)⟩,t.a8,t.lead⟩:aS) (ic iZ (hk.left _) rfl rfl) ?_
 refine Md (a.kind=10) (fun h5=>?_) fun h5=>?_
 ·have hm:=ga (t:=t) (a:=a) (i:=(a.k).toNat) (by omega) (by omega) h3
  rw[if_pos h5]at hm
  exact jN hm (f,(⟨t.r,t.c,⟨t.au.A,t.au.c,t.au.xs.take (a.k).toNat++t.au.xs.drop ((a.k).toNat+1)⟩,t.a8,t.lead⟩:aS)) (iZ) fun bs w hS=>hS.aW
 refine Mi ?_ (pT 62 1 1 (fun w hk hr=>(hr _ i0)))
 refine Mp ?_ call174 (fun bs w hS=>yE t.c (fun z:av=>decide (z.id=(t.au.at (a.k).toNat).ag)) 175 #[.pointer (some (kv bs 1 0))] w (ff (t:=(⟨t.r,t.c,⟨t.au.A,t.au.c,t.au.xs.take (a.k).toNat++t.au.xs.drop ((a.k).toNat+1)⟩,t.a8,t.lead⟩:aS)) (hS.res _ i0)) call175 (fun w' z hz hk=>kM z (t.au.at (a.k).toNat) (bs.getD 1 0) w' (show (bh _ _ _).p w' from (hS.pure hk).loc 1 ⟨93,(t.au.at (a.k).toNat).cs⟩ (by kernel_rfl) (by simp))))
 have T3:=du (fun z:av=>decide (z.id=(t.au.at (a.k).toNat).ag)) t.c.xs
 have T4:t.c.n=t.c.xs.length:=rfl
 refine Md (aQ (fun z:av=>decide (z.id=(t.au.at (a.k).toNat).ag)) t.c.xs<0) (fun h6=>?_) fun h6=>?_
 ·have hm:=ga (t:=t) (a:=a) (i:=(a.k).toNat) (by omega) (by omega) h3
  rw[if_neg h5]at hm
  have hw:(t.abs.left a.k).who (t.au.at (a.k).toNat)<0:=by rw[sf t.c (t.abs.left a.k) rfl (t.au.at (a.k).toNat)];omega
  rw[Ag _ _ hw]at hm
  exact jN hm (f,(⟨t.r,t.c,⟨t.au.A,t.au.c,t.au.xs.take (a.k).toNat++t.au.xs.drop ((a.k).toNat+1)⟩,t.a8,t.lead⟩:aS)) (iZ) fun bs w hS=>hS.aW
 refine HO (σ:=List Nat×av) (fun⟨sN,y3⟩=>y3.abs=(bX (t.c.at (aQ (fun z:av=>decide (z.id=(t.au.at (a.k).toNat).ag)) t.c.xs).toNat).abs (t.au.at (a.k).toNat)).1∧aJ.ok y3) (fun⟨sN,y3⟩=>[bF sN y3,bm tK b f (⟨t.r,t.c,⟨t.au.A,t.au.c,t.au.xs.take (a.k).toNat++t.au.xs.drop ((a.k).toNat+1)⟩,t.a8,t.lead⟩:aS)]) [0,6,7,8] (fun⟨sN,y3⟩=>[(7,.p 2 0),(8,vI (bX (t.c.at (aQ (fun z:av=>decide (z.id=(t.au.at (a.k).toNat).ag)) t.c.xs).toNat).abs (t.au.at (a.k).toNat)).2)]) (fun _=>[]) (fun⟨sN,y3⟩=>[⟨101,y3.cs⟩]) 1 (fun _ bu=>?_) ?_
 ·refine fP 15 ?_ ai
  refine bY ?_ (pc (pT 71 1 1 (fun w hk hr=>(hr _ i0))) (pA 73 74 (aQ (fun z:av=>decide (z.id=(t.au.at (a.k).toNat).ag)) t.c.xs) (aQ (fun z:av=>decide (z.id=(t.au.at (a.k).toNat).ag)) t.c.xs).toNat (s:=t.c) (fun w hk hr=>(ff (t:=(⟨t.r,t.c,⟨t.au.A,t.au.c,t.au.xs.take (a.k).toNat++t.au.xs.drop ((a.k).toNat+1)⟩,t.a8,t.lead⟩:aS)) (hr _ i0)))))
  refine tw ?_ ?_
  ·refine Mu ?_ call176 (fun bs w hS=>pv (t.c.at (aQ (fun z:av=>decide (z.id=(t.au.at (a.k).toNat).ag)) t.c.xs).toNat) (t.au.at (a.k).toNat) w (Sl.rd.sub (s:=t.c) (i:=(aQ (fun z:av=>decide (z.id=(t.au.at (a.k).toNat).ag)) t.c.xs).toNat) (ff (t:=(⟨t.r,t.c,⟨t.au.A,t.au.c,t.au.xs.take (a.k).toNat++t.au.xs.drop ((a.k).toNat+1)⟩,t.a8,t.lead⟩:aS)) (hS.res _ i0)) (by omega)) (show (t.au.at (a.k).toNat).aE.text.size≤9223372036854775807 from (Sl.ok.at (s:=t.au) (i:=(a.k).toNat) (fU.2.2.1) (by omega))))
   rintro sN y3 my sm
   refine Mz ?_
   exact bu ⟨sN,y3⟩ ⟨my,sm⟩
  refine Mu ?_ call176 (fun bs w hS=>pv (t.c.at (aQ (fun z:av=>decide (z.id=(t.au.at (a.k).toNat).ag)) t.c.xs).toNat) (t.au.at (a.k).toNat) w (Sl.rd.sub (s:=t.c) (i:=(aQ (fun z:av=>decide (z.id=(t.au.at (a.k).toNat).ag)) t.c.xs).toNat) (ff (t:=(⟨t.r,t.c,⟨t.au.A,t.au.c,t.au.xs.take (a.k).toNat++t.au.xs.drop ((a.k).toNat+1)⟩,t.a8,t.lead⟩:aS)) (hS.res _ i0)) (by omega)) (show (t.au.at (a.k).toNat).aE.text.size≤9223372036854775807 from (Sl.ok.at (s:=t.au) (i:=(a.k).toNat) (fU.2.2.1) (by omega))))
  rintro ED y4 GJ wa
  refine Mz ?_
  exact bu ⟨ED,y4⟩ ⟨GJ,wa⟩
 rintro⟨sN,y3⟩ ⟨my,sm⟩
 refine Md ((bX (t.c.at (aQ (fun z:av=>decide (z.id=(t.au.at (a.k).toNat).ag)) t.c.xs).toNat).abs (t.au.at (a.k).toNat)).2=0) (fun h7=>?_) fun h7=>?_
 rotate_left
 ·have hm:=ga (t:=t) (a:=a) (i:=(a.k).toNat) (by omega) (by omega) h3
  rw[if_neg h5]at hm
  have hw:(⟨t.r,t.c,⟨t.au.A,t.au.c,t.au.xs.take (a.k).toNat++t.au.xs.drop ((a.k).toNat+1)⟩,t.a8,t.lead⟩:aS).abs.who (t.au.at (a.k).toNat)=(((aQ (fun z:av=>decide (z.id=(t.au.at (a.k).toNat).ag)) t.c.xs).toNat:Nat):Int):=(sf t.c _ rfl (t.au.at (a.k).toNat)).trans (by omega)
  rw[←iZ,qY (⟨t.r,t.c,⟨t.au.A,t.au.c,t.au.xs.take (a.k).toNat++t.au.xs.drop ((a.k).toNat+1)⟩,t.a8,t.lead⟩:aS) _ hw]at hm
  exact jN hm (f,(⟨t.r,t.c,⟨t.au.A,t.au.c,t.au.xs.take (a.k).toNat++t.au.xs.drop ((a.k).toNat+1)⟩,t.a8,t.lead⟩:aS)) ((if_neg h7).symm) fun bs w hS=>hS.f1.aW
 refine fP 7 ?_ ai
 refine bY ?_ (pc (pT 84 1 1 (fun w hk hr=>(hr _ i1))) (pI 87 (aQ (fun z:av=>decide (z.id=(t.au.at (a.k).toNat).ag)) t.c.xs) (aQ (fun z:av=>decide (z.id=(t.au.at (a.k).toNat).ag)) t.c.xs).toNat (s:=t.c) (fun w hk hr=>(ff (t:=(⟨t.r,t.c,⟨t.au.A,t.au.c,t.au.xs.take (a.k).toNat++t.au.xs.drop ((a.k).toNat+1)⟩,t.a8,t.lead⟩:aS)) (hr _ i1)))))
 refine Mz ?_
 refine NH (aQ (fun z:av=>decide (z.id=(t.au.at (a.k).toNat).ag)) t.c.xs).toNat ?_ (hi:=(show (aQ (fun z:av=>decide (z.id=(t.au.at (a.k).toNat).ag)) t.c.xs).toNat<t.c.n by omega))
 refine Mt [vi (bX (t.c.at (aQ (fun z:av=>decide (z.id=(t.au.at (a.k).toNat).ag)) t.c.xs).toNat).abs (t.au.at (a.k).toNat)).2] fun bs w hS=>?_
 have hm:=ga (t:=t) (a:=a) (i:=(a.k).toNat) (by omega) (by omega) h3
 rw[if_neg h5]at hm
 have hw:(⟨t.r,t.c,⟨t.au.A,t.au.c,t.au.xs.take (a.k).toNat++t.au.xs.drop ((a.k).toNat+1)⟩,t.a8,t.lead⟩:aS).abs.who (t.au.at (a.k).toNat)=(((aQ (fun z:av=>decide (z.id=(t.au.at (a.k).toNat).ag)) t.c.xs).toNat:Nat):Int):=(sf t.c _ rfl (t.au.at (a.k).toNat)).trans (by omega)
 rw[←iZ,qY (⟨t.r,t.c,⟨t.au.A,t.au.c,t.au.xs.take (a.k).toNat++t.au.xs.drop ((a.k).toNat+1)⟩,t.a8,t.lead⟩:aS) _ hw]at hm
 refine⟨((f++sN),((⟨t.r,t.c,⟨t.au.A,t.au.c,t.au.xs.take (a.k).toNat++t.au.xs.drop ((a.k).toNat+1)⟩,t.a8,t.lead⟩:aS).sW (aQ (fun z:av=>decide (z.id=(t.au.at (a.k).toNat).ag)) t.c.xs).toNat y3)),?_,?_,hS.aW⟩
 ·rw[hm];rfl
 ·exact (qR (⟨t.r,t.c,⟨t.au.A,t.au.c,t.au.xs.take (a.k).toNat++t.au.xs.drop ((a.k).toNat+1)⟩,t.a8,t.lead⟩:aS) (i:=(aQ (fun z:av=>decide (z.id=(t.au.at (a.k).toNat).ag)) t.c.xs).toNat) rfl y3).trans (by rw[hm,my];exact (if_pos h7).symm)
theorem It (b:Nat)(f:List Nat)(t:aS)(a:eP)(w:World)(hO:Ow (bm tJ b f t) w)(hk:aM t.abs)(ha:aJ.sub bH w a):Calls prog 59 #[.pointer (some (⟨b,0,none⟩:Addr)),a.val] w fun e w'=> ∃y:List Nat×aS,e=.returned (vi (t.abs.dU a).2)∧y.2.abs=(t.abs.dU a).1∧dh (bm tJ b f t) w w' (bm tJ b y.1 y.2):=by
 have fU:=ct hO.1
 obtain⟨q1,q2,q3,q4,q5,q6⟩:=cu hk
 have vY:=Sl.ok.nc fU.1
 have AS:=Sl.ok.nc fU.2.2.2
 have xE:=Sl.ok.nc fU.2.2.1
 have AJ:=Sl.ok.nc fU.2.1
 have qa:=aJ.bL ha
 have To:t.au.n=t.au.xs.length:=rfl
 refine Mj ?_ func59 hO.start
 refine fP 10 ?_ ai
 refine bY ?_ (pc (pT 15 2 1 (fun w hk hr=>(hr _ i0))) (pR ((t.au.n:Int) - 1)))
 refine Mp ?_ call51 (fun bs w hS=>b6 a.k 0 ((t.au.n:Int) - 1) w)
 refine Mz ?_
 refine fL (gk a.k 0 ((t.au.n:Int) - 1)) (fun h1=>?_) fun h1=>?_
 rotate_left
 ·have Km:=uU h1
  exact jN (ou (t:=t) (a:=a) (by omega)) (f,t) rfl fun bs w hS=>hS.aW
 obtain⟨Km,PV⟩:=uT h1
 refine fP 9 ?_ ai
 refine bY ?_ (pc (pT 23 2 1 (fun w hk hr=>(hr _ i0))) (pA 26 27 a.k (a.k).toNat (s:=t.au) (fun w hk hr=>(uS (hr _ i0)))))
 refine Mz ?_
 refine Md (a.kind=11) (fun h2=>?_) fun h2=>?_
 ·refine Mi ?_ (pT 34 2 1 (fun w hk hr=>(hr _ i0)))
  refine Md ((60:Int)≤(t.au.n:Int)) (fun h3=>?_) fun h3=>?_
  ·have hm:=m9 (t:=t) (a:=a) (i:=(a.k).toNat) (by omega) (by omega)
   rw[if_pos h2,if_pos (by omega)]at hm
   exact jN hm (f,t) rfl fun bs w hS=>hS.aW
  refine lN ?_
  refine cZ 10 [] [] [bh b 110 [t.r.val,t.c.val,t.au.val,t.a8.val,vi t.lead],ay 39 t.r.A t.r.c (t.r.xs:List aw),ay 101 t.c.A t.c.c (t.c.xs:List av),ay 9 t.a8.A t.a8.c (t.a8.xs:List ByteArray),eN f t.r.xs t.c.xs t.au.xs t.a8.xs] ai ?_ (hR:=(.cons_cons _ (.cons_cons _ (.cons_cons _ (.cons _ (List.Sublist.refl _))))))
  refine bY ?_ (nI 41 2 1 i0) (hR:=(.cons_cons _ (.cons_cons _ (.cons_cons _ (.cons _ (List.Sublist.refl _))))))
  refine M1 ?_ (hR:=(.cons_cons _ (.cons_cons _ (.cons_cons _ (.cons _ (List.Sublist.refl _))))))
  refine jZ ?_
  refine gX (α:=bg) 48 ([t.au.at (a.k).toNat]) ?_
  intro A1 c1
  refine Mz ?_
  refine cb ?_
  refine rz 2 [t.r.val,t.c.val,.slice A1 (t.au.xs++[t.au.at (a.k).toNat]).length c1,t.a8.val,vi t.lead] ?_
  have hm:=qW (t:=t) (a:=a) (i:=(a.k).toNat) (by omega) (by omega) h2 (by omega) ⟨A1,c1,t.au.xs++[t.au.at (a.k).toNat]⟩ (rfl)
  have iZ:(⟨t.r,t.c,⟨A1,c1,t.au.xs++[t.au.at (a.k).toNat]⟩,t.a8,t.lead⟩:aS).abs=(t.abs.dU a).1:=by rw[hm]
  refine dx ?_
  refine dx ?_
  refine jZ ?_
  refine dx ?_
  refine dx ?_
  refine dx ?_
  refine iU (K:=tJ) (⟨t.r,t.c,⟨A1,c1,t.au.xs++[t.au.at (a.k).toNat]⟩,t.a8,t.lead⟩:aS) (ic iZ (hk.dU a) rfl rfl) ?_
  refine Mt [vi 0] fun bs w hS=>?_
  refine⟨(f,(⟨t.r,t.c,⟨A1,c1,t.au.xs++[t.au.at (a.k).toNat]⟩,t.a8,t.lead⟩:aS)),?_,?_,hS.aW⟩
  ·rw[hm];rfl
  ·rw[hm]
 refine fP 7 ?_ ai
 refine bY ?_ (pc (pT 50 2 1 (fun w hk hr=>(hr _ i0))) (pG [(53,.sl 0 (a.k).toNat)] (oc (rfl:0=0) (oc ((by omega):a.k=(((a.k).toNat:Nat):Int)) (oc ((by omega):(a.k).toNat≤t.au.c) on)))))
 refine Mz ?_
 refine bU (α:=bg) 93 ?_
 refine Ma ?_ (α:=bg) (L2:=t.au.xs.take (a.k).toNat) 48 (fun bs w hS=>Sl.rd.HA (s:=t.au) (uS (hS.res _ i1)) (by omega)) (hn2:=(by rw[List.length_take];exact Nat.min_eq_left (show (a.k).toNat≤t.au.n by omega)))
 intro A2 c2
 refine eu (ay 93 A2 c2 (t.au.xs.take (a.k).toNat:List bg)) (List.Sublist.refl _) (fun w h=>h) ?_
 refine cZ 13 [] [] [bm tJ b f t] ai ?_ (hR:=(.cons _ (List.Sublist.refl _)))
 refine bY ?_ (pc (pT 60 2 1 (fun w hk hr=>(hr _ i0))) (pc (pR (a.k+1)) (pG [(64,.sl (a.k+1).toNat t.au.n)] (oc ((by omega):a.k+1=(((a.k+1).toNat:Nat):Int)) (oc (rfl:t.au.n=t.au.n) (oc ((by omega):(a.k+1).toNat≤t.au.n) on)))))) (hR:=(.cons _ (List.Sublist.refl _)))
 refine Ma ?_ (α:=bg) (L2:=t.au.xs.drop (a.k+1).toNat) 48 (fun bs w hS=>Sl.rd.oK (s:=t.au) (uS (hS.res _ i1)) (by omega)) (hn2:=(List.length_drop ..))
 intro A3 c3
 refine Mz ?_
 refine cb ?_
 refine lN ?_
 refine rz 2 [t.r.val,t.c.val,.slice A3 (t.au.xs.take (a.k).toNat++t.au.xs.drop (a.k+1).toNat).length c3,t.a8.val,vi t.lead] ?_
 have iZ:(⟨t.r,t.c,⟨A3,c3,t.au.xs.take (a.k).toNat++t.au.xs.drop (a.k+1).toNat⟩,t.a8,t.lead⟩:aS).abs=t.abs.left a.k:=Ae t (i:=(a.k).toNat) (by omega) (by omega) _ _
 have B0:aM (⟨t.r,t.c,⟨A3,c3,t.au.xs.take (a.k).toNat++t.au.xs.drop (a.k+1).toNat⟩,t.a8,t.lead⟩:aS).abs:=by rw[iZ];exact hk.left _
 refine dx ?_
 refine dx ?_
 refine Bu ?_
 refine dx ?_
 refine dx ?_
 refine dx ?_
 refine iU (K:=tJ) (⟨t.r,t.c,⟨A3,c3,t.au.xs.take (a.k).toNat++t.au.xs.drop (a.k+1).toNat⟩,t.a8,t.lead⟩:aS) (ic iZ (hk.left _) rfl rfl) ?_
 refine Md (a.kind=10) (fun h4=>?_) fun h4=>?_
 ·have hm:=ga (t:=t) (a:=a) (i:=(a.k).toNat) (by omega) (by omega) h2
  rw[if_pos h4]at hm
  exact jN hm (f,(⟨t.r,t.c,⟨A3,c3,t.au.xs.take (a.k).toNat++t.au.xs.drop (a.k+1).toNat⟩,t.a8,t.lead⟩:aS)) (iZ) fun bs w hS=>hS.aW
 refine Ml (σ:=Nat) (fun i=> ∀j,j<i→ ¬(t.c.at j).id=(t.au.at (a.k).toNat).ag) (fun i=>t.c.n - i) (fun i=>[bm tJ b f (⟨t.r,t.c,⟨A3,c3,t.au.xs.take (a.k).toNat++t.au.xs.drop (a.k+1).toNat⟩,t.a8,t.lead⟩:aS),ay 93 t.au.A t.au.c (t.au.xs:List bg)]) [7,5,0] (fun i=>[(7,vI (i:Int))]) (fun _=>[]) ?_ 0 (fun j hj=>absurd hj (Nat.not_lt_zero j))
 rintro i hI _ bu
 refine Mi ?_ (pT 75 1 1 (fun w hk hr=>(hr _ i0)))
 refine Md ((i:Int)<(t.c.n:Int)) (fun h5=>?_) fun h5=>?_
 rotate_left
 ·have hm:=ga (t:=t) (a:=a) (i:=(a.k).toNat) (by omega) (by omega) h2
  rw[if_neg h4]at hm
  have hw:(t.abs.left a.k).who (t.au.at (a.k).toNat)<0:=by rw[sf t.c (t.abs.left a.k) rfl (t.au.at (a.k).toNat),gp (s:=t.c) fun j hj=>decide_eq_false (hI j (by omega))];decide
  rw[Ag _ _ hw]at hm
  exact jN hm (f,(⟨t.r,t.c,⟨A3,c3,t.au.xs.take (a.k).toNat++t.au.xs.drop (a.k+1).toNat⟩,t.a8,t.lead⟩:aS)) (iZ) fun bs w hS=>hS.aW
 refine fP 11 ?_ ai
 refine bY ?_ (pc (pT 83 1 1 (fun w hk hr=>(hr _ i0))) (pc (pI 85 (i:Int) i (s:=t.c) (fun w hk hr=>(ff (t:=(⟨t.r,t.c,⟨A3,c3,t.au.xs.take (a.k).toNat++t.au.xs.drop (a.k+1).toNat⟩,t.a8,t.lead⟩:aS)) (hr _ i0)))) (pF 87 i 0 1 (s:=t.c) (fun w hk hr=>(ff (t:=(⟨t.r,t.c,⟨A3,c3,t.au.xs.take (a.k).toNat++t.au.xs.drop (a.k+1).toNat⟩,t.a8,t.lead⟩:aS)) (hr _ i0))))))
 refine Mz ?_
 refine Md ((t.c.at i).id=(t.au.at (a.k).toNat).ag) (fun h6=>?_) fun h6=>?_
 rotate_left
 ·refine Mi ?_ (pR ((i:Int)+1))
  exact bu (i+1) (fun j hj=>(Nat.lt_succ_iff_lt_or_eq.1 hj).elim (hI j) fun q=>q▸(by assumption)) (by show t.c.n - (i+1)<t.c.n - i;omega)
 refine HO (σ:=List Nat×av) (fun⟨ED,y4⟩=>y4.abs=(bX (t.c.at i).abs (t.au.at (a.k).toNat)).1∧aJ.ok y4) (fun⟨ED,y4⟩=>[bF ED y4,bm tJ b f (⟨t.r,t.c,⟨A3,c3,t.au.xs.take (a.k).toNat++t.au.xs.drop (a.k+1).toNat⟩,t.a8,t.lead⟩:aS),ay 93 t.au.A t.au.c (t.au.xs:List bg)]) [0,7,8,9] (fun⟨ED,y4⟩=>[(8,.p 2 0),(9,vI (bX (t.c.at i).abs (t.au.at (a.k).toNat)).2)]) (fun _=>[]) (fun⟨ED,y4⟩=>[⟨101,y4.cs⟩]) 1 (fun _ j8=>?_) ?_
 ·refine fP 15 ?_ ai
  refine bY ?_ (pc (pT 95 1 1 (fun w hk hr=>(hr _ i0))) (pA 97 98 (i:Int) i (s:=t.c) (fun w hk hr=>(ff (t:=(⟨t.r,t.c,⟨A3,c3,t.au.xs.take (a.k).toNat++t.au.xs.drop (a.k+1).toNat⟩,t.a8,t.lead⟩:aS)) (hr _ i0)))))
  refine tw ?_ ?_
  ·refine Mu ?_ call128 (fun bs w hS=>vh (t.c.at i) (t.au.at (a.k).toNat) w (Sl.rd.sub (s:=t.c) (i:=i) (ff (t:=(⟨t.r,t.c,⟨A3,c3,t.au.xs.take (a.k).toNat++t.au.xs.drop (a.k+1).toNat⟩,t.a8,t.lead⟩:aS)) (hS.res _ i0)) (by omega)) (show (t.au.at (a.k).toNat).aE.text.size≤9223372036854775807 from (Sl.ok.at (s:=t.au) (i:=(a.k).toNat) (fU.2.2.1) (by omega))))
   rintro ED y4 GJ wa
   refine Mz ?_
   exact j8 ⟨ED,y4⟩ ⟨GJ,wa⟩
  refine Mu ?_ call128 (fun bs w hS=>vh (t.c.at i) (t.au.at (a.k).toNat) w (Sl.rd.sub (s:=t.c) (i:=i) (ff (t:=(⟨t.r,t.c,⟨A3,c3,t.au.xs.take (a.k).toNat++t.au.xs.drop (a.k+1).toNat⟩,t.a8,t.lead⟩:aS)) (hS.res _ i0)) (by omega)) (show (t.au.at (a.k).toNat).aE.text.size≤9223372036854775807 from (Sl.ok.at (s:=t.au) (i:=(a.k).toNat) (fU.2.2.1) (by omega))))
  rintro rh y5 tC pf
  refine Mz ?_
  exact j8 ⟨rh,y5⟩ ⟨tC,pf⟩
 rintro⟨ED,y4⟩ ⟨GJ,wa⟩
 refine Md ((bX (t.c.at i).abs (t.au.at (a.k).toNat)).2=0) (fun h7=>?_) fun h7=>?_
 rotate_left
 ·have hm:=ga (t:=t) (a:=a) (i:=(a.k).toNat) (by omega) (by omega) h2
  rw[if_neg h4]at hm
  have hw:(⟨t.r,t.c,⟨A3,c3,t.au.xs.take (a.k).toNat++t.au.xs.drop (a.k+1).toNat⟩,t.a8,t.lead⟩:aS).abs.who (t.au.at (a.k).toNat)=(i:Int):=(sf t.c _ rfl (t.au.at (a.k).toNat)).trans (fR (s:=t.c) (i:=i) (by omega) (decide_eq_true h6) fun j hj=>decide_eq_false (hI j hj))
  rw[←iZ,qY (⟨t.r,t.c,⟨A3,c3,t.au.xs.take (a.k).toNat++t.au.xs.drop (a.k+1).toNat⟩,t.a8,t.lead⟩:aS) _ hw]at hm
  exact jN hm (f,(⟨t.r,t.c,⟨A3,c3,t.au.xs.take (a.k).toNat++t.au.xs.drop (a.k+1).toNat⟩,t.a8,t.lead⟩:aS)) ((if_neg h7).symm) fun bs w hS=>hS.f1.aW
 refine fP 7 ?_ ai
 refine bY ?_ (pc (pT 108 1 1 (fun w hk hr=>(hr _ i1))) (pI 111 (i:Int) i (s:=t.c) (fun w hk hr=>(ff (t:=(⟨t.r,t.c,⟨A3,c3,t.au.xs.take (a.k).toNat++t.au.xs.drop (a.k+1).toNat⟩,t.a8,t.lead⟩:aS)) (hr _ i1)))))
 refine Mz ?_
 refine NH i ?_ (hi:=(show i<t.c.n by omega))
 refine Mt [vi (bX (t.c.at i).abs (t.au.at (a.k).toNat)).2] fun bs w hS=>?_
 have hm:=ga (t:=t) (a:=a) (i:=(a.k).toNat) (by omega) (by omega) h2
 rw[if_neg h4]at hm
 have hw:(⟨t.r,t.c,⟨A3,c3,t.au.xs.take (a.k).toNat++t.au.xs.drop (a.k+1).toNat⟩,t.a8,t.lead⟩:aS).abs.who (t.au.at (a.k).toNat)=(i:Int):=(sf t.c _ rfl (t.au.at (a.k).toNat)).trans (fR (s:=t.c) (i:=i) (by omega) (decide_eq_true h6) fun j hj=>decide_eq_false (hI j hj))
 rw[←iZ,qY (⟨t.r,t.c,⟨A3,c3,t.au.xs.take (a.k).toNat++t.au.xs.drop (a.k+1).toNat⟩,t.a8,t.lead⟩:aS) _ hw]at hm
 refine⟨((f++ED),((⟨t.r,t.c,⟨A3,c3,t.au.xs.take (a.k).toNat++t.au.xs.drop (a.k+1).toNat⟩,t.a8,t.lead⟩:aS).sW i y4)),?_,?_,hS.aW⟩
 ·rw[hm];rfl
 ·exact (qR (⟨t.r,t.c,⟨A3,c3,t.au.xs.take (a.k).toNat++t.au.xs.drop (a.k+1).toNat⟩,t.a8,t.lead⟩:aS) (i:=i) rfl y4).trans (by rw[hm,GJ];exact (if_pos h7).symm)
end Go.Proofs.YtbjakddkfgjkaaaGreat.W
