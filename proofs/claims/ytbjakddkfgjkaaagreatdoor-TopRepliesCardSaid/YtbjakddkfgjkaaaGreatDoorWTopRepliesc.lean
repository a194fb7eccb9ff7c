/-
  The functions that the law TopReplies reaches, walked: each returns what its model says.
  Conditions: those that each theorem states.
-/
import Derived.Test.YtbjakddkfgjkaaaGreatDoorWTopRepliesb
set_option linter.unusedVariables false
set_option linter.unusedSimpArgs false
set_option maxRecDepth 100000
set_option maxHeartbeats 2000000
namespace Go.Proofs.YtbjakddkfgjkaaaGreatDoor.W
open Go.Proofs.YtbjakddkfgjkaaaGreatDoor.Fw Go.RowKit
attribute [local irreducible] JM nx
theorem idxF_Customer {B : Nat → Prop} (s : Sl (Fl CCustomer)) (p : Fl CCustomer → Bool) (kf : Nat) (caps : Array Value) (w : World) (hs : s.rd B w) (hcall : ∀ args w, (callFunc kf args).run Tryz.prog w = .ok (.enter kf args) w)
    (hf : ∀ (w' : World) (x : (Fl CCustomer)), x ∈ s.xs → Kp [] w w' → Calls Tryz.prog kf (#[x.v.val] ++ caps) w' fun e w'' => e = .returned (vb (p x)) ∧ Kp [] w' w'') : Calls Tryz.prog 113 #[.slice s.A s.n s.c, .func (.func kf) #[] caps] w fun e w' => e = .returned (vi (mIdx p s.xs)) ∧ Kp [] w w' := by
 have oks := Sl.rd.ok hs
 have ncs := Sl.ok.nc oks
 have hns : s.n = s.xs.length := rfl
 refine M0 ?_ Tryz.func113
 refine Ml (σ := Nat) (fun i => i ≤ s.n ∧ ∀ j, j < i → p (s.at j) = false) (fun i => s.n - i) (fun _ => []) [8, 7, 0, 1] (fun i => [(8, vI (i : Int))]) (fun _ => []) ?_ 0 ⟨Nat.zero_le _, fun j hj => absurd hj (Nat.not_lt_zero _)⟩
 rintro i ⟨hi, hI⟩ _ on1
 refine Md ((i : Int) < (s.n : Int)) (fun h1 => ?_) (fun h1 => ?_)
 rotate_left
 · refine Mt [.int .i64 (-1)] fun bs w hS => ?_
   refine ⟨?_, hS.kp⟩
   rw [mIdx_none fun j hj => hI j (by omega)]
   rfl
 refine Mi ?_ (pA 14 15 (i : Int) i (rdk hs))
 refine Mv ?_ hcall (fun bs w hS => hf w (s.at i) (List.mem_of_getElem? (Sl.at_some (show i < s.n by omega))) hS.kp)
 refine Mb (p (s.at i)) (fun h2 => ?_) (fun h2 => ?_)
 · refine Mt [.int .i64 (i : Int)] fun bs w hS => ?_
   refine ⟨?_, hS.kp⟩
   rw [mIdx_here (i := i) (by omega) (by assumption) hI]
   rfl
 refine Mi ?_ (pR ((i : Int) + 1))
 exact on1 (i + 1) ⟨by omega, fun j hj => by rcases Nat.lt_succ_iff_lt_or_eq.1 hj with h | h; exact hI j h; subst h; assumption⟩ (by omega)
theorem idx_Customer {B : Nat → Prop} (s : Sl CCustomer) (p : CCustomer → Bool) (kf : Nat) (caps : Array Value) (w : World) (hs : s.rd B w) (hcall : ∀ args w, (callFunc kf args).run Tryz.prog w = .ok (.enter kf args) w)
    (hf : ∀ (w' : World) (x : CCustomer), x ∈ s.xs → Kp [] w w' → Calls Tryz.prog kf (#[x.val] ++ caps) w' fun e w'' => e = .returned (vb (p x)) ∧ Kp [] w' w'') : Calls Tryz.prog 113 #[s.val, .func (.func kf) #[] caps] w fun e w' => e = .returned (vi (mIdx p s.xs)) ∧ Kp [] w w' := by
  have h := idxF_Customer (⟨s.A, s.c, fls s.xs⟩ : Sl (Fl CCustomer)) (fun x => p x.v) kf caps w hs.fl hcall (fun w' x hx hk => hf w' x.v (by obtain ⟨y, hy, rfl⟩ := List.mem_map.1 hx; exact hy) hk)
  simp only [mIdx_fl, Sl.n, List.length_map] at h
  exact h
theorem delR_Mail (A : Option Addr) (c : Nat) (L : List DMail) (i j : Nat) (ii jj : Int) (w : World) (hrow : (rowA 65 A c L).p w) (hlt : ∀ b, b ∈ (rowA 65 A c L).fp → b < w.heap.size) (ei : ii = (i : Int)) (ej : jj = (j : Int)) (hij : i ≤ j) (hj : j ≤ L.length) :
    Calls Tryz.prog 112 #[.slice A L.length c, vi ii, vi jj] w fun e w' => e = .returned (.slice A (L.take i ++ L.drop j).length c) ∧ Turned (rowA 65 A c L) w w' (rowA 65 A c (L.take i ++ L.drop j)) := by
 subst ei ej
 have hrok := rowA_rok hrow
 have nc := hrok.2
 refine Mj ?_ Tryz.func112 (WS.start1 w _ hrow (by cases A <;> simp [rowA, rowR]) hlt)
 refine Ms3 (e := 65) (A := A) (n := L.length) (il := (i : Int)) (ih := (j : Int)) (im := (L.length : Int)) (c := c) i j L.length ?_ rfl rfl rfl (by omega) (by omega) (by omega)
 refine Md ((i : Int) = (j : Int)) (fun h1 => ?_) fun h1 => ?_
 · refine Mt [.slice A L.length c] fun bs w hS => ?_
   have hij2 : i = j := by omega
   subst hij2
   rw [List.take_append_drop]
   exact ⟨rfl, hS.turned⟩
 refine Mdr 6 ?_ Tryz_mixed
 refine Mih ?_ (pc (pG [(22, .sl 0 i)] (oc (rfl : 0 = 0) (oc (rfl : (i : Int) = (i : Int)) (oc ((by omega) : i ≤ c) on)))) (pG [(25, .sl j L.length)] (oc (rfl : (j : Int) = (j : Int)) (oc (rfl : L.length = L.length) (oc ((by omega) : j ≤ L.length) on)))))
 refine Mz ?_
 refine Mad 48 i j ?_ hij hj
 refine Mi ?_ (pG [(31, .sl (i + (L.length - j)) L.length)] (oc (rfl : ((i + (L.length - j) : Nat) : Int) = (((i + (L.length - j)) : Nat) : Int)) (oc (rfl : (L.length : Int) = (L.length : Int)) (oc ((by omega) : (i + (L.length - j)) ≤ L.length) (oc ((by omega) : L.length ≤ c) on)))))
 refine Mcl (i + (L.length - j)) (L.length - (i + (L.length - j))) ?_ (by simp only [List.length_append, List.length_take, List.length_drop]; omega) (by omega)
 refine Mt [.slice A (i + (L.length - j)) c] fun bs w hS => ?_
 have hlen : (L.take i ++ L.drop j).length = i + (L.length - j) := by simp only [List.length_append, List.length_take, List.length_drop]; omega
 have hS2 := hS
 rw [← hlen, List.take_length] at hS2
 refine ⟨?_, hS2.turned⟩
 rw [hlen]
 rfl
theorem cl_mail (b : Nat) (f : List Nat) (t : CTown) (a : DAct) (w : World) (hO : Ow (townR tK b f t) w) (hk : townOk t.abs) (ha : Rds.sub anyB w a) : Calls Tryz.prog 75 #[.pointer (some (⟨b, 0, none⟩ : Addr)), a.val] w fun e w' => ∃ y : List Nat × CTown, e = .returned (vi (t.abs.mailOne a).2) ∧ y.2.abs = (t.abs.mailOne a).1 ∧ Turned (townR tK b f t) w w' (townR tK b y.1 y.2) := by
 have hkt := town_ok hO.1
 obtain ⟨q1, q2, q3, q4, q5, q6⟩ := town_facts hk
 have ncr := Sl.ok.nc hkt.1
 have nck := Sl.ok.nc hkt.2.2.2
 have ncm := Sl.ok.nc hkt.2.2.1
 have ncc := Sl.ok.nc hkt.2.1
 have oka := Rds.okof ha
 have hxm : t.mails.n = t.mails.xs.length := rfl
 refine Mj ?_ Tryz.func75 hO.start
 refine Mdr 13 ?_ Tryz_mixed
 refine Md (a.k < 0) (fun h1 => ?_) fun h1 => ?_
 · refine Mz ?_
   exact Me1 (mailOne_out (t := t) (a := a) (by omega)) (f, t) rfl fun bs w hS => hS.turned
 refine Mih ?_ (pT 18 2 1 (fun w hk hr => (hr _ i0)))
 refine Mz ?_
 refine Md ((t.mails.n : Int) ≤ a.k) (fun h2 => ?_) fun h2 => ?_
 · exact Me1 (mailOne_out (t := t) (a := a) (by omega)) (f, t) rfl fun bs w hS => hS.turned
 refine Mdr 9 ?_ Tryz_mixed
 refine Mih ?_ (pc (pT 25 2 1 (fun w hk hr => (hr _ i0))) (pA 28 29 a.k (a.k).toNat (s := t.mails) (fun w hk hr => (town_m (hr _ i0)))))
 refine Mz ?_
 refine Md (a.kind = 11) (fun h3 => ?_) fun h3 => ?_
 · refine Mi ?_ (pT 36 2 1 (fun w hk hr => (hr _ i0)))
   refine Md ((t.mails.n : Int) = 60) (fun h4 => ?_) fun h4 => ?_
   · have hm := mailOne_in (t := t) (a := a) (i := (a.k).toNat) (by omega) (by omega)
     rw [if_pos h3, if_pos (by omega)] at hm
     exact Me1 hm (f, t) rfl fun bs w hS => hS.turned
   refine M1 ?_
   refine m_town ?_
   refine m_f3 ?_
   refine m_f1 ?_
   refine m_post (K := tK) t ?_
   refine Mtu ?_ (σ := Sl DMail) (v := fun ym1 => .tuple #[]) (F := fun ym1 => ym1.xs = [t.mails.at (a.k).toNat].foldl DTown.post1 t.mails.xs) (r := fun ym1 => postR tK b (t.setm ym1)) (vs := fun bs => [.pointer (some (⟨b, 0, none⟩ : Addr)), .slice (some (adr bs 2 0)) 1 1]) Tryz.call111 (fun bs w hS => cl_post b t (⟨some (adr bs 2 0), 1, [t.mails.at (a.k).toNat]⟩ : Sl DMail) w (hS.ow i0) (show t.mails.n ≤ 60 by omega) (fun w' hkp => rd_one (t.mails.at (a.k).toNat) (hS.blkIn (i := 2) (b := ⟨65, (t.mails.at (a.k).toNat).cs⟩) hkp (by kernel_rfl) (by simp)) (show (t.mails.at (a.k).toNat).reply.text.size ≤ 9223372036854775807 from hk.mt _ (mem_of_getD (show (a.k).toNat < t.mails.n by omega)))))
   rintro ym1 hF1
   refine m_split2 ?_
   have hm := mailOne_copy (t := t) (a := a) (i := (a.k).toNat) (by omega) (by omega) h3 (by omega) ⟨ym1.A, ym1.c, ym1.xs⟩ (hF1.trans (post_one _ (show t.mails.n < 60 by omega)))
   have hab9 : (⟨t.r, t.c, ⟨ym1.A, ym1.c, ym1.xs⟩, t.com, t.lead⟩ : CTown).abs = (t.abs.mailOne a).1 := by rw [hm]
   refine m_f5 ?_
   refine m_f5 ?_
   refine m_f3 ?_
   refine m_f5 ?_
   refine m_f5 ?_
   refine m_f5 ?_
   refine m_towned (K := tK) (⟨t.r, t.c, ⟨ym1.A, ym1.c, ym1.xs⟩, t.com, t.lead⟩ : CTown) (town_small hab9 (hk.mailOne a) rfl rfl) ?_
   refine Mt [vi 0] fun bs w hS => ?_
   refine ⟨(f, (⟨t.r, t.c, ⟨ym1.A, ym1.c, ym1.xs⟩, t.com, t.lead⟩ : CTown)), ?_, ?_, hS.turned⟩
   · rw [hm]; rfl
   · rw [hm]
 refine m_town ?_
 refine Mda 13 [] [] [blkR b 108 [t.r.val, t.c.val, t.mails.val, t.com.val, vi t.lead], rowA 40 t.r.A t.r.c (t.r.xs : List CReplica), rowA 111 t.c.A t.c.c (t.c.xs : List CCustomer), rowA 9 t.com.A t.com.c (t.com.xs : List ByteArray), townS f t.r.xs t.c.xs t.mails.xs t.com.xs] Tryz_mixed ?_ (hR := (.cons_cons _ (.cons_cons _ (.cons_cons _ (.cons _ (List.Sublist.refl _))))))
 refine Mih ?_ (pc (pBk 47 2 1 i0) (pR (a.k + 1))) (hR := (.cons_cons _ (.cons_cons _ (.cons_cons _ (.cons _ (List.Sublist.refl _))))))
 refine m_f3 ?_
 refine Mtu ?_ (σ := Unit) (v := fun _ => .slice t.mails.A (t.mails.xs.take (a.k).toNat ++ t.mails.xs.drop ((a.k).toNat + 1)).length t.mails.c) (F := fun _ => True) (r := fun _ => rowA 65 t.mails.A t.mails.c (t.mails.xs.take (a.k).toNat ++ t.mails.xs.drop ((a.k).toNat + 1) : List DMail)) (vs := fun bs => [t.mails.val, vi a.k, vi (a.k + 1)]) Tryz.call112 (fun bs w hS => (delR_Mail t.mails.A t.mails.c t.mails.xs (a.k).toNat ((a.k).toNat + 1) _ _ w (hS.res _ i0) hS.head1.2.2 (by omega) (by omega) (by first | omega | (simp only [Sl.n] at *; omega)) (by first | omega | (simp only [Sl.n] at *; omega))).mono (fun e w' ⟨h1, h2⟩ => ⟨(), h1, trivial, h2⟩))
 rintro _ _
 refine Mz ?_
 refine m_f1 ?_
 refine Msb 2 [t.r.val, t.c.val, .slice t.mails.A (t.mails.xs.take (a.k).toNat ++ t.mails.xs.drop ((a.k).toNat + 1)).length t.mails.c, t.com.val, vi t.lead] ?_
 have hab9 : (⟨t.r, t.c, ⟨t.mails.A, t.mails.c, t.mails.xs.take (a.k).toNat ++ t.mails.xs.drop ((a.k).toNat + 1)⟩, t.com, t.lead⟩ : CTown).abs = t.abs.left a.k := left_abs t (i := (a.k).toNat) (by omega) (by omega) _ _
 have hkL : townOk (⟨t.r, t.c, ⟨t.mails.A, t.mails.c, t.mails.xs.take (a.k).toNat ++ t.mails.xs.drop ((a.k).toNat + 1)⟩, t.com, t.lead⟩ : CTown).abs := by rw [hab9]; exact hk.left _
 refine m_f5 ?_
 refine m_f5 ?_
 refine m_f3 ?_
 refine m_f5 ?_
 refine m_f5 ?_
 refine m_f5 ?_
 refine m_towned (K := tK) (⟨t.r, t.c, ⟨t.mails.A, t.mails.c, t.mails.xs.take (a.k).toNat ++ t.mails.xs.drop ((a.k).toNat + 1)⟩, t.com, t.lead⟩ : CTown) (town_small hab9 (hk.left _) rfl rfl) ?_
 refine Md (a.kind = 10) (fun h5 => ?_) fun h5 => ?_
 · have hm := mailOne_left (t := t) (a := a) (i := (a.k).toNat) (by omega) (by omega) h3
   rw [if_pos h5] at hm
   exact Me1 hm (f, (⟨t.r, t.c, ⟨t.mails.A, t.mails.c, t.mails.xs.take (a.k).toNat ++ t.mails.xs.drop ((a.k).toNat + 1)⟩, t.com, t.lead⟩ : CTown)) (hab9) fun bs w hS => hS.turned
 refine Mi ?_ (pT 62 1 1 (fun w hk hr => (hr _ i0)))
 refine Mp ?_ Tryz.call113 (fun bs w hS => idx_Customer t.c (fun z : CCustomer => decide (z.id = (t.mails.at (a.k).toNat).client)) 114 #[.pointer (some (adr bs 1 0))] w (town_c (t := (⟨t.r, t.c, ⟨t.mails.A, t.mails.c, t.mails.xs.take (a.k).toNat ++ t.mails.xs.drop ((a.k).toNat + 1)⟩, t.com, t.lead⟩ : CTown)) (hS.res _ i0)) Tryz.call114 (fun w' z hz hk => clo___cluster_cluster__mail_1 z (t.mails.at (a.k).toNat) (bs.getD 1 0) w' (show (blkR _ _ _).p w' from (hS.pure hk).loc 1 ⟨65, (t.mails.at (a.k).toNat).cs⟩ (by kernel_rfl) (by simp))))
 have hmb := mIdx_bd (fun z : CCustomer => decide (z.id = (t.mails.at (a.k).toNat).client)) t.c.xs
 have hxc : t.c.n = t.c.xs.length := rfl
 refine Md (mIdx (fun z : CCustomer => decide (z.id = (t.mails.at (a.k).toNat).client)) t.c.xs < 0) (fun h6 => ?_) fun h6 => ?_
 · have hm := mailOne_left (t := t) (a := a) (i := (a.k).toNat) (by omega) (by omega) h3
   rw [if_neg h5] at hm
   have hw : (t.abs.left a.k).who (t.mails.at (a.k).toNat) < 0 := by rw [who_is t.c (t.abs.left a.k) rfl (t.mails.at (a.k).toNat)]; omega
   rw [heard_no _ _ hw] at hm
   exact Me1 hm (f, (⟨t.r, t.c, ⟨t.mails.A, t.mails.c, t.mails.xs.take (a.k).toNat ++ t.mails.xs.drop ((a.k).toNat + 1)⟩, t.com, t.lead⟩ : CTown)) (hab9) fun bs w hS => hS.turned
 refine Mjo (σ := List Nat × CCustomer) (fun ⟨fp3, y3⟩ => y3.abs = (mHear (t.c.at (mIdx (fun z : CCustomer => decide (z.id = (t.mails.at (a.k).toNat).client)) t.c.xs).toNat).abs (t.mails.at (a.k).toNat)).1 ∧ Rds.ok y3) (fun ⟨fp3, y3⟩ => [subR fp3 y3, townR tK b f (⟨t.r, t.c, ⟨t.mails.A, t.mails.c, t.mails.xs.take (a.k).toNat ++ t.mails.xs.drop ((a.k).toNat + 1)⟩, t.com, t.lead⟩ : CTown)]) [0, 6, 7, 8] (fun ⟨fp3, y3⟩ => [(7, .p 2 0), (8, vI (mHear (t.c.at (mIdx (fun z : CCustomer => decide (z.id = (t.mails.at (a.k).toNat).client)) t.c.xs).toNat).abs (t.mails.at (a.k).toNat)).2)]) (fun _ => []) (fun ⟨fp3, y3⟩ => [⟨111, y3.cs⟩]) 1 (fun _ on1 => ?_) ?_
 · refine Mdr 15 ?_ Tryz_mixed
   refine Mih ?_ (pc (pT 71 1 1 (fun w hk hr => (hr _ i0))) (pA 73 74 (mIdx (fun z : CCustomer => decide (z.id = (t.mails.at (a.k).toNat).client)) t.c.xs) (mIdx (fun z : CCustomer => decide (z.id = (t.mails.at (a.k).toNat).client)) t.c.xs).toNat (s := t.c) (fun w hk hr => (town_c (t := (⟨t.r, t.c, ⟨t.mails.A, t.mails.c, t.mails.xs.take (a.k).toNat ++ t.mails.xs.drop ((a.k).toNat + 1)⟩, t.com, t.lead⟩ : CTown)) (hr _ i0)))))
   refine Mbr ?_ ?_
   · refine Mu ?_ Tryz.call115 (fun bs w hS => customer_Hear (t.c.at (mIdx (fun z : CCustomer => decide (z.id = (t.mails.at (a.k).toNat).client)) t.c.xs).toNat) (t.mails.at (a.k).toNat) w (Sl.rd.sub (s := t.c) (i := (mIdx (fun z : CCustomer => decide (z.id = (t.mails.at (a.k).toNat).client)) t.c.xs).toNat) (town_c (t := (⟨t.r, t.c, ⟨t.mails.A, t.mails.c, t.mails.xs.take (a.k).toNat ++ t.mails.xs.drop ((a.k).toNat + 1)⟩, t.com, t.lead⟩ : CTown)) (hS.res _ i0)) (by omega)) (show (t.mails.at (a.k).toNat).reply.text.size ≤ 9223372036854775807 from (Sl.ok.at (s := t.mails) (i := (a.k).toNat) (hkt.2.2.1) (by omega))))
     rintro fp3 y3 hF3 hok3
     refine Mz ?_
     exact on1 ⟨fp3, y3⟩ ⟨hF3, hok3⟩
   refine Mu ?_ Tryz.call115 (fun bs w hS => customer_Hear (t.c.at (mIdx (fun z : CCustomer => decide (z.id = (t.mails.at (a.k).toNat).client)) t.c.xs).toNat) (t.mails.at (a.k).toNat) w (Sl.rd.sub (s := t.c) (i := (mIdx (fun z : CCustomer => decide (z.id = (t.mails.at (a.k).toNat).client)) t.c.xs).toNat) (town_c (t := (⟨t.r, t.c, ⟨t.mails.A, t.mails.c, t.mails.xs.take (a.k).toNat ++ t.mails.xs.drop ((a.k).toNat + 1)⟩, t.com, t.lead⟩ : CTown)) (hS.res _ i0)) (by omega)) (show (t.mails.at (a.k).toNat).reply.text.size ≤ 9223372036854775807 from (Sl.ok.at (s := t.mails) (i := (a.k).toNat) (hkt.2.2.1) (by omega))))
   rintro fp4 y4 hF4 hok4
   refine Mz ?_
   exact on1 ⟨fp4, y4⟩ ⟨hF4, hok4⟩
 rintro ⟨fp3, y3⟩ ⟨hF3, hok3⟩
 refine Md ((mHear (t.c.at (mIdx (fun z : CCustomer => decide (z.id = (t.mails.at (a.k).toNat).client)) t.c.xs).toNat).abs (t.mails.at (a.k).toNat)).2 = 0) (fun h7 => ?_) fun h7 => ?_
 rotate_left
 · have hm := mailOne_left (t := t) (a := a) (i := (a.k).toNat) (by omega) (by omega) h3
   rw [if_neg h5] at hm
   have hw : (⟨t.r, t.c, ⟨t.mails.A, t.mails.c, t.mails.xs.take (a.k).toNat ++ t.mails.xs.drop ((a.k).toNat + 1)⟩, t.com, t.lead⟩ : CTown).abs.who (t.mails.at (a.k).toNat) = (((mIdx (fun z : CCustomer => decide (z.id = (t.mails.at (a.k).toNat).client)) t.c.xs).toNat : Nat) : Int) := (who_is t.c _ rfl (t.mails.at (a.k).toNat)).trans (by omega)
   rw [← hab9, heard_go (⟨t.r, t.c, ⟨t.mails.A, t.mails.c, t.mails.xs.take (a.k).toNat ++ t.mails.xs.drop ((a.k).toNat + 1)⟩, t.com, t.lead⟩ : CTown) _ hw] at hm
   exact Me1 hm (f, (⟨t.r, t.c, ⟨t.mails.A, t.mails.c, t.mails.xs.take (a.k).toNat ++ t.mails.xs.drop ((a.k).toNat + 1)⟩, t.com, t.lead⟩ : CTown)) ((if_neg h7).symm) fun bs w hS => hS.f1.turned
 refine Mdr 7 ?_ Tryz_mixed
 refine Mih ?_ (pc (pT 84 1 1 (fun w hk hr => (hr _ i1))) (pI 87 (mIdx (fun z : CCustomer => decide (z.id = (t.mails.at (a.k).toNat).client)) t.c.xs) (mIdx (fun z : CCustomer => decide (z.id = (t.mails.at (a.k).toNat).client)) t.c.xs).toNat (s := t.c) (fun w hk hr => (town_c (t := (⟨t.r, t.c, ⟨t.mails.A, t.mails.c, t.mails.xs.take (a.k).toNat ++ t.mails.xs.drop ((a.k).toNat + 1)⟩, t.com, t.lead⟩ : CTown)) (hr _ i1)))))
 refine Mz ?_
 refine Mtc (mIdx (fun z : CCustomer => decide (z.id = (t.mails.at (a.k).toNat).client)) t.c.xs).toNat ?_ (hi := (show (mIdx (fun z : CCustomer => decide (z.id = (t.mails.at (a.k).toNat).client)) t.c.xs).toNat < t.c.n by omega))
 refine Mt [vi (mHear (t.c.at (mIdx (fun z : CCustomer => decide (z.id = (t.mails.at (a.k).toNat).client)) t.c.xs).toNat).abs (t.mails.at (a.k).toNat)).2] fun bs w hS => ?_
 have hm := mailOne_left (t := t) (a := a) (i := (a.k).toNat) (by omega) (by omega) h3
 rw [if_neg h5] at hm
 have hw : (⟨t.r, t.c, ⟨t.mails.A, t.mails.c, t.mails.xs.take (a.k).toNat ++ t.mails.xs.drop ((a.k).toNat + 1)⟩, t.com, t.lead⟩ : CTown).abs.who (t.mails.at (a.k).toNat) = (((mIdx (fun z : CCustomer => decide (z.id = (t.mails.at (a.k).toNat).client)) t.c.xs).toNat : Nat) : Int) := (who_is t.c _ rfl (t.mails.at (a.k).toNat)).trans (by omega)
 rw [← hab9, heard_go (⟨t.r, t.c, ⟨t.mails.A, t.mails.c, t.mails.xs.take (a.k).toNat ++ t.mails.xs.drop ((a.k).toNat + 1)⟩, t.com, t.lead⟩ : CTown) _ hw] at hm
 refine ⟨((f ++ fp3), ((⟨t.r, t.c, ⟨t.mails.A, t.mails.c, t.mails.xs.take (a.k).toNat ++ t.mails.xs.drop ((a.k).toNat + 1)⟩, t.com, t.lead⟩ : CTown).setc (mIdx (fun z : CCustomer => decide (z.id = (t.mails.at (a.k).toNat).client)) t.c.xs).toNat y3)), ?_, ?_, hS.turned⟩
 · rw [hm]; rfl
 · exact (setc_abs (⟨t.r, t.c, ⟨t.mails.A, t.mails.c, t.mails.xs.take (a.k).toNat ++ t.mails.xs.drop ((a.k).toNat + 1)⟩, t.com, t.lead⟩ : CTown) (i := (mIdx (fun z : CCustomer => decide (z.id = (t.mails.at (a.k).toNat).client)) t.c.xs).toNat) rfl y3).trans (by rw [hm, hF3]; exact (if_pos h7).symm)
theorem cl_act (b : Nat) (f : List Nat) (t : CTown) (a : DAct) (w : World) (hO : Ow (townR tK b f t) w) (hk : townOk t.abs) (ha : Rds.sub anyB w a) : Calls Tryz.prog 39 #[.pointer (some (⟨b, 0, none⟩ : Addr)), a.val] w fun e w' => ∃ y : List Nat × CTown, e = .returned (vi (t.abs.act a).2) ∧ y.2.abs = (t.abs.act a).1 ∧ Turned (townR tK b f t) w w' (townR tK b y.1 y.2) := by
 have hkt := town_ok hO.1
 obtain ⟨q1, q2, q3, q4, q5, q6⟩ := town_facts hk
 have ncr := Sl.ok.nc hkt.1
 have nck := Sl.ok.nc hkt.2.2.2
 have ncm := Sl.ok.nc hkt.2.2.1
 have ncc := Sl.ok.nc hkt.2.1
 have oka := Rds.okof ha
 refine Mj ?_ Tryz.func39 hO.start
 refine Md (a.kind < 1) (fun h1 => ?_) fun h1 => ?_
 · exact Me1 (act_kind (D := t.abs) (a := a) (by omega)) (f, t) rfl fun bs w hS => hS.turned
 refine Md ((11 : Int) < a.kind) (fun h2 => ?_) fun h2 => ?_
 · exact Me1 (act_kind (D := t.abs) (a := a) (by omega)) (f, t) rfl fun bs w hS => hS.turned
 refine Md (a.kind ≤ 3) (fun h3 => ?_) fun h3 => ?_
 · refine Mtu ?_ Tryz.call73 (fun bs w hS => cl_by b f t a w (hS.ow i0) hk ha)
   rintro yt1 hab1
   have hk1 : townOk yt1.2.abs := by rw [hab1]; exact townOk.byOne hk _
   refine m_know (F := townK yt1.2) (fun bs w hS => town_ok (hS.res _ i0)) fun hkt1 => ?_
   exact Me1 (act_by (D := t.abs) (a := a) (by omega) (by omega)) (yt1.1, yt1.2) (hab1) fun bs w hS => hS.turned
 refine Md (a.kind ≤ 8) (fun h4 => ?_) fun h4 => ?_
 · refine Mtu ?_ Tryz.call74 (fun bs w hS => cl_at b f t a w (hS.ow i0) hk ha)
   rintro yt3 hab3
   have hk3 : townOk yt3.2.abs := by rw [hab3]; exact townOk.atOne hk _
   refine m_know (F := townK yt3.2) (fun bs w hS => town_ok (hS.res _ i0)) fun hkt3 => ?_
   exact Me1 (act_at (D := t.abs) (a := a) (by omega) (by omega)) (yt3.1, yt3.2) (hab3) fun bs w hS => hS.turned
 refine Mtu ?_ Tryz.call75 (fun bs w hS => cl_mail b f t a w (hS.ow i0) hk ha)
 rintro yt5 hab5
 have hk5 : townOk yt5.2.abs := by rw [hab5]; exact townOk.mailOne hk _
 refine m_know (F := townK yt5.2) (fun bs w hS => town_ok (hS.res _ i0)) fun hkt5 => ?_
 exact Me1 (act_mail (D := t.abs) (a := a) (by omega) (by omega)) (yt5.1, yt5.2) (hab5) fun bs w hS => hS.turned
theorem customer_New (n : Int) (w : World) : Calls Tryz.prog 38 #[vi n] w fun e w' => e = .returned (.tuple #[.agg #[vi (mNew n).1.id, vi (mNew n).1.session, vi (mNew n).1.next, vn], vi (mNew n).2]) ∧ Kp [] w w' := by
 refine M0 ?_ Tryz.func38
 refine Md (n < 1) (fun h1 => ?_) fun h1 => ?_
 · refine Mt [.agg #[vi 0, vi 0, vi 0, vn], vi 2] fun bs w hS => ?_
   refine ⟨?_, hS.kp⟩
   simp only [retOf, den, List.map_cons, List.map_nil, mNew]
   first | rw [if_pos (by (try simp only [iT, iF] at *); omega)] | rw [if_neg (by (try simp only [iT, iF] at *); omega)]
   try rfl
 refine Md ((9 : Int) < n) (fun h2 => ?_) fun h2 => ?_
 · refine Mt [.agg #[vi 0, vi 0, vi 0, vn], vi 2] fun bs w hS => ?_
   refine ⟨?_, hS.kp⟩
   simp only [retOf, den, List.map_cons, List.map_nil, mNew]
   first | rw [if_pos (by (try simp only [iT, iF] at *); omega)] | rw [if_neg (by (try simp only [iT, iF] at *); omega)]
   try rfl
 refine Mt [.agg #[vi n, vi 0, vi 1, vn], vi 0] fun bs w hS => ?_
 refine ⟨?_, hS.kp⟩
 simp only [retOf, den, List.map_cons, List.map_nil, mNew]
 first | rw [if_pos (by (try simp only [iT, iF] at *); omega)] | rw [if_neg (by (try simp only [iT, iF] at *); omega)]
 try rfl
theorem cl_Run {B : Nat → Prop} (n : Int) (l : Sl DAct) (w : World) (hl : l.rd B w) : Calls Tryz.prog 15 #[vi n, l.val] w fun e w' => ∃ y : COut, e = .returned (.tuple #[y.val, vi (mRunT n l.xs).2.2]) ∧ y.abs = mOut n l.xs ∧ FreshS w w' y := by
 have okl := Sl.rd.ok hl
 have ncl := Sl.ok.nc okl
 refine M0 ?_ Tryz.func15
 refine Md (n < 1) (fun h1 => ?_) fun h1 => ?_
 · refine Mt [.agg #[vn, vn, vn, vn, vi 0, vn], vi 2] fun bs w hS => ?_
   have hm := out_range (n := n) (by omega) l.xs
   refine ⟨(⟨Sl.nil, Sl.nil, Sl.nil, Sl.nil, 0, Sl.nil⟩ : COut), ?_, ?_, hS.outS (y := (⟨Sl.nil, Sl.nil, Sl.nil, Sl.nil, 0, Sl.nil⟩ : COut)) ⟨Sl.rd_nil _ _, Sl.rd_nil _ _, Sl.rd_nil _ _, Sl.rd_nil _ _, Sl.rd_nil _ _⟩⟩
   · rw [hm]; rfl
   · unfold mOut; rw [hm]; rfl
 refine Md ((9 : Int) < n) (fun h2 => ?_) fun h2 => ?_
 · refine Mt [.agg #[vn, vn, vn, vn, vi 0, vn], vi 2] fun bs w hS => ?_
   have hm := out_range (n := n) (by omega) l.xs
   refine ⟨(⟨Sl.nil, Sl.nil, Sl.nil, Sl.nil, 0, Sl.nil⟩ : COut), ?_, ?_, hS.outS (y := (⟨Sl.nil, Sl.nil, Sl.nil, Sl.nil, 0, Sl.nil⟩ : COut)) ⟨Sl.rd_nil _ _, Sl.rd_nil _ _, Sl.rd_nil _ _, Sl.rd_nil _ _, Sl.rd_nil _ _⟩⟩
   · rw [hm]; rfl
   · unfold mOut; rw [hm]; rfl
 refine Md ((400 : Int) < (l.n : Int)) (fun h3 => ?_) fun h3 => ?_
 · refine Mt [.agg #[vn, vn, vn, vn, vi 0, vn], vi 1] fun bs w hS => ?_
   have hm := out_long (n := n) (by omega) (show 400 < l.n by omega)
   refine ⟨(⟨Sl.nil, Sl.nil, Sl.nil, Sl.nil, 0, Sl.nil⟩ : COut), ?_, ?_, hS.outS (y := (⟨Sl.nil, Sl.nil, Sl.nil, Sl.nil, 0, Sl.nil⟩ : COut)) ⟨Sl.rd_nil _ _, Sl.rd_nil _ _, Sl.rd_nil _ _, Sl.rd_nil _ _, Sl.rd_nil _ _⟩⟩
   · rw [hm]; rfl
   · unfold mOut; rw [hm]; rfl
 refine Mmk (α := CReplica) (T := 23) 40 3 [zRp, zRp, zRp] ?_
 intro A1r
 refine m_rowA (α := CCustomer) 111 ?_
 refine Ml (σ := Nat × Option Addr × Nat × List CCustomer) (fun ⟨k, A, c, L⟩ => (k : Int) ≤ n ∧ L = custs k) (fun ⟨k, A, c, L⟩ => n.toNat - k) (fun ⟨k, A, c, L⟩ => [rowA 111 A c (L : List CCustomer), rowA 40 A1r 3 ([zRp, zRp, zRp] : List CReplica)]) [32, 31, 6, 4, 1] (fun ⟨k, A, c, L⟩ => [(32, vI (k : Int))]) (fun ⟨k, A, c, L⟩ => [(1, [.v (.slice A1r 3 3), .v (.slice A L.length c), .v vn, .v vn, vI 0])]) ?_ (⟨0, none, 0, []⟩) ⟨by omega, rfl⟩
 rintro ⟨k, A, c, L⟩ ⟨hkn, hL⟩ _ on1
 have hLk : L.length = k := by rw [hL]; exact custs_len k
 refine Md ((k : Int) < n) (fun h4 => ?_) fun h4 => ?_
 · refine Mi ?_ (pR ((k : Int) + 1))
   refine Mp ?_ Tryz.call38 (fun bs w hS => customer_New ((k : Int) + 1) w)
   refine Mda 10 [] [] [rowA 40 A1r 3 ([zRp, zRp, zRp] : List CReplica)] Tryz_mixed ?_ (hR := (.cons _ (List.Sublist.refl _)))
   refine M1 ?_ (hR := (.cons _ (List.Sublist.refl _)))
   refine Mal (α := CCustomer) 48 ([(⟨(mNew ((k : Int) + 1)).1.id, (mNew ((k : Int) + 1)).1.session, (mNew ((k : Int) + 1)).1.next, Sl.nil⟩ : CCustomer)]) ?_
   intro A2 c2
   refine Mz ?_
   refine Mi ?_ (pR ((k : Int) + 1))
   exact on1 ⟨k + 1, A2, c2, L ++ [(⟨(mNew ((k : Int) + 1)).1.id, (mNew ((k : Int) + 1)).1.session, (mNew ((k : Int) + 1)).1.next, Sl.nil⟩ : CCustomer)]⟩ ⟨by omega, by rw [hL, new_ok (by omega) (by omega)]; exact custs_next k⟩ (by show n.toNat - (k + 1) < n.toNat - k; omega)
 refine m_f1 ?_
 have hT0 : (⟨⟨A1r, 3, [zRp, zRp, zRp]⟩, ⟨A, c, L⟩, Sl.nil, Sl.nil, 0⟩ : CTown).abs = DTown.start n := by rw [hL]; exact start_abs (by omega)
 refine m_townQ (K := tK) zReps_sub (fun x hx => custs_sub x (hL ▸ hx)) ?_
 refine m_rowA (α := Int) 50 ?_
 refine m_f1 ?_
 refine Ml (σ := Nat × List Nat × CTown × Option Addr × Nat × List Int) (fun ⟨k, f, T, A3, c3, L3⟩ => scrT (DTown.start n) l k T L3) (fun ⟨k, f, T, A3, c3, L3⟩ => l.n - k) (fun ⟨k, f, T, A3, c3, L3⟩ => [townQ tK f T, rowA 50 A3 c3 (L3 : List Int)]) [55, 54, 53, 10, 6, 4] (fun ⟨k, f, T, A3, c3, L3⟩ => [(55, vI (k : Int))]) (fun ⟨k, f, T, A3, c3, L3⟩ => [(1, [.v T.r.val, .v T.c.val, .v T.mails.val, .v T.com.val, vI T.lead]), (2, [.v vn, .v vn, .v vn, .v vn, vI 0, .v (.slice A3 L3.length c3)])]) ?_ (⟨0, [], (⟨⟨A1r, 3, [zRp, zRp, zRp]⟩, ⟨A, c, L⟩, Sl.nil, Sl.nil, 0⟩ : CTown), none, 0, []⟩) (scrT_0 (by omega) l hT0)
 rintro ⟨k, f, T, A3, c3, L3⟩ hI _ on2
 have hkT := hI.2.2.2.1
 have hL3 := hI.2.2.2.2
 have hkl1 := hI.1
 refine m_know (F := townK T) (fun bs w hS => townQ_ok (hS.res _ i0)) fun hktT => ?_
 obtain ⟨q1T, q2T, q3T, q4T, q5T, q6T⟩ := town_facts hkT
 have ncrT := Sl.ok.nc hktT.1
 have nckT := Sl.ok.nc hktT.2.2.2
 have ncmT := Sl.ok.nc hktT.2.2.1
 have nccT := Sl.ok.nc hktT.2.1
 refine Md ((k : Int) < (l.n : Int)) (fun h5 => ?_) fun h5 => ?_
 · refine Mi ?_ (pA 57 58 (k : Int) k (rdk hl))
   refine Mda 6 [] [1] [] Tryz_mixed ?_
   refine Mtb (K := tK) (g := fun y => y) 1 ?_ Tryz.call39 (fun bs w hO => cl_act (bs.getD 1 0) f T (l.at k) w hO hkT (Sl.ok.at (s := l) (i := k) okl (by omega)))
   rintro yt3 hab3
   refine M1 ?_
   refine m_f1 ?_
   refine Mal (α := Int) 8 ([(T.abs.act (l.at k)).2]) ?_
   intro A4 c4
   refine Mi ?_ (pR ((k : Int) + 1))
   refine m_f1 ?_
   exact on2 ⟨k + 1, yt3.1, yt3.2, A4, c4, L3 ++ [(T.abs.act (l.at k)).2]⟩ (scrT_go hI (by omega) (rfl) hab3) (by show l.n - (k + 1) < l.n - k; omega)
 have hkl : l.n ≤ k := by omega
 refine m_els0 CReplica ?_
 refine m_rowA (α := CReplica) 40 ?_
 refine Ml (σ := Nat × Option Addr × Nat × List CReplica × List Nat) (fun ⟨k1, A1, c1, L1, g1⟩ => k1 ≤ T.r.n ∧ L1.map CReplica.abs = (T.r.xs.take k1).map CReplica.abs) (fun ⟨k1, A1, c1, L1, g1⟩ => T.r.n - k1) (fun ⟨k1, A1, c1, L1, g1⟩ => [rowA 40 A1 c1 (L1 : List CReplica), elsR g1 L1, townQ tK f T, rowA 50 A3 c3 (L3 : List Int)]) [73, 72, 71, 10, 6, 4] (fun ⟨k1, A1, c1, L1, g1⟩ => [(73, vI (k1 : Int))]) (fun ⟨k1, A1, c1, L1, g1⟩ => [(2, [.v (.slice A1 L1.length c1), .v vn, .v vn, .v vn, vI 0, .v (.slice A3 L3.length c3)])]) ?_ (⟨0, none, 0, [], []⟩) ⟨Nat.zero_le _, rfl⟩
 rintro ⟨k1, A1, c1, L1, g1⟩ ⟨hkn1, hL1⟩ _ on3
 have hLn1 : L1.length ≤ T.r.n := by have h9 := congrArg List.length hL1; simp only [List.length_map, List.length_take] at h9; omega
 refine Md ((k1 : Int) < (T.r.n : Int)) (fun h6 => ?_) fun h6 => ?_
 · refine Mi ?_ (pA 75 76 (k1 : Int) k1 (s := T.r) (fun w hk hr => (townQ_r (hr _ i2))))
   refine Mdr 5 ?_ Tryz_mixed
   refine Mu ?_ Tryz.call40 (fun bs w hS => replica_Copy (T.r.at k1) w (Sl.rd.sub (s := T.r) (i := k1) (townQ_r (hS.res _ i2)) (by omega)) (rep_smallR hkT (by omega)))
   rintro fp5 y5 hF5 hok5
   refine M1 ?_ (hR := (.cons _ (List.Sublist.refl _)))
   refine Mz ?_
   refine m_f1 ?_
   refine Mal (α := CReplica) 128 ([y5]) ?_
   intro A6 c6
   refine Mi ?_ (pR ((k1 : Int) + 1))
   refine m_f1 ?_
   refine m_f2 ?_
   refine m_els ?_
   refine m_f1 ?_
   exact on3 ⟨k1 + 1, A6, c6, L1 ++ [y5], g1 ++ fp5⟩ ⟨by omega, copied_next hL1 (by omega) hF5⟩ (by show T.r.n - (k1 + 1) < T.r.n - k1; omega)
 have hk1 : T.r.n ≤ k1 := by omega
 refine m_els0 CCustomer ?_
 refine m_rowA (α := CCustomer) 111 ?_
 refine Ml (σ := Nat × Option Addr × Nat × List CCustomer × List Nat) (fun ⟨k2, A2, c2, L2, g2⟩ => k2 ≤ T.c.n ∧ L2.map CCustomer.abs = (T.c.xs.take k2).map CCustomer.abs) (fun ⟨k2, A2, c2, L2, g2⟩ => T.c.n - k2) (fun ⟨k2, A2, c2, L2, g2⟩ => [rowA 111 A2 c2 (L2 : List CCustomer), elsR g2 L2, rowA 40 A1 c1 (L1 : List CReplica), elsR g1 L1, townQ tK f T, rowA 50 A3 c3 (L3 : List Int)]) [90, 89, 88, 10, 6, 4] (fun ⟨k2, A2, c2, L2, g2⟩ => [(90, vI (k2 : Int))]) (fun ⟨k2, A2, c2, L2, g2⟩ => [(2, [.v (.slice A1 L1.length c1), .v (.slice A2 L2.length c2), .v vn, .v vn, vI 0, .v (.slice A3 L3.length c3)])]) ?_ (⟨0, none, 0, [], []⟩) ⟨Nat.zero_le _, rfl⟩
 rintro ⟨k2, A2, c2, L2, g2⟩ ⟨hkn2, hL2⟩ _ on4
 have hLn2 : L2.length ≤ T.c.n := by have h9 := congrArg List.length hL2; simp only [List.length_map, List.length_take] at h9; omega
 refine Md ((k2 : Int) < (T.c.n : Int)) (fun h7 => ?_) fun h7 => ?_
 · refine Mi ?_ (pA 92 93 (k2 : Int) k2 (s := T.c) (fun w hk hr => (townQ_c (hr _ i4))))
   refine Mdr 5 ?_ Tryz_mixed
   refine Mu ?_ Tryz.call41 (fun bs w hS => customer_Copy (T.c.at k2) w (Sl.rd.sub (s := T.c) (i := k2) (townQ_c (hS.res _ i4)) (by omega)) (cust_small hkT (by omega)))
   rintro fp7 y7 hF7 hok7
   refine M1 ?_ (hR := (.cons _ (List.Sublist.refl _)))
   refine Mz ?_
   refine m_f1 ?_
   refine Mal (α := CCustomer) 48 ([y7]) ?_
   intro A8 c8
   refine Mi ?_ (pR ((k2 : Int) + 1))
   refine m_f1 ?_
   refine m_f2 ?_
   refine m_els ?_
   refine m_f1 ?_
   exact on4 ⟨k2 + 1, A8, c8, L2 ++ [y7], g2 ++ fp7⟩ ⟨by omega, copied_next hL2 (by omega) hF7⟩ (by show T.c.n - (k2 + 1) < T.c.n - k2; omega)
 refine Mda 17 [] [2] [rowA 111 A2 c2 (L2 : List CCustomer), elsR g2 L2, rowA 40 A1 c1 (L1 : List CReplica), elsR g1 L1, townQ tK f T, rowA 50 A3 c3 (L3 : List Int)] Tryz_mixed ?_
 refine Mz ?_
 refine Mt [.agg #[.slice A1 L1.length c1, .slice A2 L2.length c2, T.mails.val, T.com.val, vi T.lead, .slice A3 L3.length c3], vi 0] fun bs w hS => ?_
 have hm := out_go (n := n) (by omega) (by omega) hI hkl
 have e1 := copied_end hL1 hk1
 have e2 := copied_end hL2 (show T.c.n ≤ k2 by omega)
 refine ⟨(⟨⟨A1, c1, L1⟩, ⟨A2, c2, L2⟩, T.mails, T.com, T.lead, ⟨A3, c3, L3⟩⟩ : COut), ?_, ?_, hS.outS (y := (⟨⟨A1, c1, L1⟩, ⟨A2, c2, L2⟩, T.mails, T.com, T.lead, ⟨A3, c3, L3⟩⟩ : COut)) ⟨outE i2 (hS.res _ i2) i3 (hS.res _ i3), outE i0 (hS.res _ i0) i1 (hS.res _ i1), (outQ i4 (hS.res _ i4)).1, (outQ i4 (hS.res _ i4)).2, allR_row i5 (hS.res _ i5) (fun _ _ => trivial)⟩⟩
 · rw [hm]; rfl
 · unfold mOut; rw [hm]; show (⟨L1.map CReplica.abs, L2.map CCustomer.abs, _, _, _, _⟩ : DOut) = _; rw [e1, e2]; rfl
theorem keep_picked (n m : Int) (w : World) (hn : inR n) (hm : 0 < m) : Calls Tryz.prog 43 #[vi n, vi m] w fun e w' => e = .returned (vi (mPick n m)) ∧ Kp [] w w' := by
 unfold inR at hn
 refine M0 ?_ Tryz.func43
 refine Md (n < 0) (fun h1 => ?_) fun h1 => ?_
 rotate_left
 · refine Mi ?_ (pc (pP (0 ≤ n)) (pP ((0 : Int) < m)))
   exact Me0 (n % m) (by rw [pick_pos h1])
 refine Mi ?_ (pR (n + 1))
 refine Mneg ?_ (a := (n + 1))
 refine Mi ?_ (pc (pP (0 ≤ -(n + 1))) (pP ((0 : Int) < m)))
 exact Me0 ((-(n + 1)) % m) (by rw [pick_neg h1])
theorem keep_name (n : Int) (w : World) (hn : inR n) : Calls Tryz.prog 78 #[vi n] w fun e w' => e = .returned (vs (mNm n)) ∧ Kp [] w w' := by
 refine M0 ?_ Tryz.func78
 have hsub1 : ∀ z, z ∈ ([cstr [97], cstr [98], cstr [107, 101, 121]] : List ByteArray) → ∀ w, Rds.sub anyB w z := (fun z hz _ => by have h9 := nmL_in z hz; show z.size ≤ _; omega)
 refine Mli (α := ByteArray) (e := 9) [cstr [97], cstr [98], cstr [107, 101, 121]] ?_ hsub1
 intro y1 hx1 hok1
 have hn1 : y1.n = 3 := by show y1.xs.length = _; rw [hx1]; rfl
 refine Mp ?_ Tryz.call43 (fun bs w hS => keep_picked n 3 w (by assumption) (by omega))
 have hp2 := pick_bd n (m := 3) (by omega)
 refine Mi ?_ (pA 6 7 (mPick n 3) (mPick n 3).toNat (s := y1) (fun w hk hr => (Rr (B := anyB) (hr _ i0) (fun _ _ => trivial) (fun z hz => hsub1 z (hx1 ▸ hz) _))))
 refine Mt [vs (y1.at (mPick n 3).toNat)] fun bs w hS => ?_
 refine ⟨?_, hS.kp⟩
 exact congrArg (fun z => Ending.returned (vs z)) (show (y1.at (mPick n 3).toNat) = mNm n by unfold mNm nmL Sl.at; rw [hx1])
theorem conv_small (n : Int) (w : World) (h0 : 0 ≤ n) (h9 : n < 100) : Calls Tryz.prog 153 #[vi n] w fun e w' => e = .returned (vs (mItoa n)) ∧ Kp [] w w' := by
 have hz1 := digTx_size
 have hz2 := smlTx_size
 refine M0 ?_ Tryz.func153
 refine Md (n < 10) (fun h1 => ?_) fun h1 => ?_
 · refine Mi ?_ (pc (pR (n + 1)) (pG [(8, .sl (n).toNat (n + 1).toNat)] (oc ((by omega) : n = (((n).toNat : Nat) : Int)) (oc ((by omega) : n + 1 = (((n + 1).toNat : Nat) : Int)) (oc ((by omega) : (n).toNat ≤ (n + 1).toNat) (oc ((by omega) : (n + 1).toNat ≤ digTx.size) on))))))
   refine Mt [vs (digTx.extract (n).toNat (n + 1).toNat)] fun bs w hS => ?_
   refine ⟨?_, hS.kp⟩
   unfold mItoa
   rw [if_pos h1]
   rfl
 refine Mi ?_ (pc (pR (n * 2)) (pc (pR (n * 2)) (pc (pR ((n * 2) + 2)) (pG [(14, .sl (n * 2).toNat ((n * 2) + 2).toNat)] (oc ((by omega) : n * 2 = (((n * 2).toNat : Nat) : Int)) (oc ((by omega) : (n * 2) + 2 = ((((n * 2) + 2).toNat : Nat) : Int)) (oc ((by omega) : (n * 2).toNat ≤ ((n * 2) + 2).toNat) (oc ((by omega) : ((n * 2) + 2).toNat ≤ smlTx.size) on))))))))
 refine Mt [vs (smlTx.extract (n * 2).toNat ((n * 2) + 2).toNat)] fun bs w hS => ?_
 refine ⟨?_, hS.kp⟩
 unfold mItoa
 rw [if_neg h1]
 rfl
theorem conv_fmtint (n : Int) (w : World) (h0 : 0 ≤ n) (h9 : n < 100) : Calls Tryz.prog 143 #[vi n, vi 10] w fun e w' => e = .returned (vs (mItoa n)) ∧ Kp [] w w' := by
 refine M0 ?_ Tryz.func143
 refine Mq 11 true ?_ rfl
 refine Md ((0 : Int) ≤ n) (fun h1 => ?_) fun h1 => ?_
 rotate_left
 · exfalso; omega
 refine Md (n < 100) (fun h2 => ?_) fun h2 => ?_
 rotate_left
 · exfalso; omega
 refine Mp ?_ Tryz.call153 (fun bs w hS => conv_small n w (by omega) (by omega))
 exact Mt [vs (mItoa n)] fun bs w hS => ⟨rfl, hS.kp⟩
theorem conv_itoa1 (n : Int) (w : World) (h0 : 0 ≤ n) (h9 : n < 100) : Calls Tryz.prog 117 #[vi n] w fun e w' => e = .returned (vs (mItoa n)) ∧ Kp [] w w' := by
 refine M0 ?_ Tryz.func117
 refine Mp ?_ Tryz.call143 (fun bs w hS => conv_fmtint n w (by omega) (by omega))
 exact Mt [vs (mItoa n)] fun bs w hS => ⟨rfl, hS.kp⟩
theorem conv_itoa (n : Int) (w : World) (h0 : 0 ≤ n) (h9 : n < 100) : Calls Tryz.prog 79 #[vi n] w fun e w' => e = .returned (vs (mItoa n)) ∧ Kp [] w w' := by
 refine M0 ?_ Tryz.func79
 refine Mp ?_ Tryz.call117 (fun bs w hS => conv_itoa1 n w (by omega) (by omega))
 exact Mt [vs (mItoa n)] fun bs w hS => ⟨rfl, hS.kp⟩
theorem keep_Op (r : DRaw) (w : World) (hr : Rds.ok r) : Calls Tryz.prog 44 #[.agg #[.int .i64 r.kind, .int .i64 r.a, .int .i64 r.b, .int .i64 r.c]] w fun e w' => e = .returned (.agg #[.int .i64 (mOpR r).kind, .string (mOpR r).a, .string (mOpR r).b, .int .i64 (mOpR r).n]) ∧ Kp [] w w' := by
 obtain ⟨hr1, hr2, hr3, hr4⟩ := hr
 refine M0 ?_ Tryz.func44
 refine Mjo (σ := Sl Int) (fun y1 => y1.xs = [1, 2, 2, 3, 3, 4, 5, 5, 6] ∧ Sl.ok y1) (fun y1 => [rowA 3 y1.A y1.c (y1.xs : List Int)]) [1, 2, 3] (fun y1 => [(3, .p 2 0)]) (fun _ => []) (fun y1 => [⟨47, [vI (y1.at (mPick r.kind 9).toNat), vS (mNm r.a), vS emp, vI 0]⟩]) 1 (fun _ on1 => ?_) ?_
 · refine Mda 11 [1005] [] [] Tryz_mixed ?_
   refine Mbr ?_ ?_
   · have hsub1 : ∀ z, z ∈ ([1, 2, 2, 3, 3, 4, 5, 5, 6] : List Int) → ∀ w, Rds.sub anyB w z := (fun _ _ _ => trivial)
     refine Mli (α := Int) (e := 3) [1, 2, 2, 3, 3, 4, 5, 5, 6] ?_ hsub1
     intro y1 hx1 hok1
     have hn1 : y1.n = 9 := by show y1.xs.length = _; rw [hx1]; rfl
     refine Mbr ?_ ?_
     · refine Mp ?_ Tryz.call43 (fun bs w hS => keep_picked r.kind 9 w (by assumption) (by omega))
       have hp2 := pick_bd r.kind (m := 9) (by omega)
       refine Mih ?_ (pIq 8 (mPick r.kind 9) (mPick r.kind 9).toNat hok1)
       refine Mbr ?_ ?_
       · refine Mlo (s := y1) (T := 3) (mPick r.kind 9).toNat (.int .i64 (y1.at (mPick r.kind 9).toNat)) (fun w hr => (Rr (B := anyB) (hr _ (.head _)) (fun _ _ => trivial) (fun z hz => hsub1 z (hx1 ▸ hz) _))) ?_
         refine Mbr ?_ ?_
         · refine Mp ?_ Tryz.call78 (fun bs w hS => keep_name r.a w (by assumption))
           exact on1 y1 ⟨hx1, hok1⟩
         refine Mp ?_ Tryz.call78 (fun bs w hS => keep_name r.a w (by assumption))
         exact on1 y1 ⟨hx1, hok1⟩
       refine Mbr ?_ ?_
       · refine Mp ?_ Tryz.call78 (fun bs w hS => keep_name r.a w (by assumption))
         refine Mbr ?_ ?_
         · refine Mlo (s := y1) (T := 3) (mPick r.kind 9).toNat (.int .i64 (y1.at (mPick r.kind 9).toNat)) (fun w hr => (Rr (B := anyB) (hr _ (.head _)) (fun _ _ => trivial) (fun z hz => hsub1 z (hx1 ▸ hz) _))) ?_
           exact on1 y1 ⟨hx1, hok1⟩
         refine Mlo (s := y1) (T := 3) (mPick r.kind 9).toNat (.int .i64 (y1.at (mPick r.kind 9).toNat)) (fun w hr => (Rr (B := anyB) (hr _ (.head _)) (fun _ _ => trivial) (fun z hz => hsub1 z (hx1 ▸ hz) _))) ?_
         exact on1 y1 ⟨hx1, hok1⟩
       refine Mbr ?_ ?_
       · refine Mlo (s := y1) (T := 3) (mPick r.kind 9).toNat (.int .i64 (y1.at (mPick r.kind 9).toNat)) (fun w hr => (Rr (B := anyB) (hr _ (.head _)) (fun _ _ => trivial) (fun z hz => hsub1 z (hx1 ▸ hz) _))) ?_
         refine Mp ?_ Tryz.call78 (fun bs w hS => keep_name r.a w (by assumption))
         exact on1 y1 ⟨hx1, hok1⟩
       refine Mp ?_ Tryz.call78 (fun bs w hS => keep_name r.a w (by assumption))
       refine Mlo (s := y1) (T := 3) (mPick r.kind 9).toNat (.int .i64 (y1.at (mPick r.kind 9).toNat)) (fun w hr => (Rr (B := anyB) (hr _ (.head _)) (fun _ _ => trivial) (fun z hz => hsub1 z (hx1 ▸ hz) _))) ?_
       exact on1 y1 ⟨hx1, hok1⟩
     refine Mp ?_ Tryz.call43 (fun bs w hS => keep_picked r.kind 9 w (by assumption) (by omega))
     have hp3 := pick_bd r.kind (m := 9) (by omega)
     refine Mih ?_ (pIq 8 (mPick r.kind 9) (mPick r.kind 9).toNat hok1)
     refine Mbr ?_ ?_
     · refine Mlo (s := y1) (T := 3) (mPick r.kind 9).toNat (.int .i64 (y1.at (mPick r.kind 9).toNat)) (fun w hr => (Rr (B := anyB) (hr _ (.head _)) (fun _ _ => trivial) (fun z hz => hsub1 z (hx1 ▸ hz) _))) ?_
       refine Mp ?_ Tryz.call78 (fun bs w hS => keep_name r.a w (by assumption))
       exact on1 y1 ⟨hx1, hok1⟩
     refine Mp ?_ Tryz.call78 (fun bs w hS => keep_name r.a w (by assumption))
     refine Mlo (s := y1) (T := 3) (mPick r.kind 9).toNat (.int .i64 (y1.at (mPick r.kind 9).toNat)) (fun w hr => (Rr (B := anyB) (hr _ (.head _)) (fun _ _ => trivial) (fun z hz => hsub1 z (hx1 ▸ hz) _))) ?_
     exact on1 y1 ⟨hx1, hok1⟩
   refine Mbr ?_ ?_
   · refine Mp ?_ Tryz.call43 (fun bs w hS => keep_picked r.kind 9 w (by assumption) (by omega))
     have hp4 := pick_bd r.kind (m := 9) (by omega)
     refine Mbr ?_ ?_
     · have hsub5 : ∀ z, z ∈ ([1, 2, 2, 3, 3, 4, 5, 5, 6] : List Int) → ∀ w, Rds.sub anyB w z := (fun _ _ _ => trivial)
       refine Mli (α := Int) (e := 3) [1, 2, 2, 3, 3, 4, 5, 5, 6] ?_ hsub5
       intro y5 hx5 hok5
       have hn5 : y5.n = 9 := by show y5.xs.length = _; rw [hx5]; rfl
       refine Mih ?_ (pIq 8 (mPick r.kind 9) (mPick r.kind 9).toNat hok5)
       refine Mbr ?_ ?_
       · refine Mlo (s := y5) (T := 3) (mPick r.kind 9).toNat (.int .i64 (y5.at (mPick r.kind 9).toNat)) (fun w hr => (Rr (B := anyB) (hr _ (.head _)) (fun _ _ => trivial) (fun z hz => hsub5 z (hx5 ▸ hz) _))) ?_
         refine Mbr ?_ ?_
         · refine Mp ?_ Tryz.call78 (fun bs w hS => keep_name r.a w (by assumption))
           exact on1 y5 ⟨hx5, hok5⟩
         refine Mp ?_ Tryz.call78 (fun bs w hS => keep_name r.a w (by assumption))
         exact on1 y5 ⟨hx5, hok5⟩
       refine Mbr ?_ ?_
       · refine Mp ?_ Tryz.call78 (fun bs w hS => keep_name r.a w (by assumption))
         refine Mbr ?_ ?_
         · refine Mlo (s := y5) (T := 3) (mPick r.kind 9).toNat (.int .i64 (y5.at (mPick r.kind 9).toNat)) (fun w hr => (Rr (B := anyB) (hr _ (.head _)) (fun _ _ => trivial) (fun z hz => hsub5 z (hx5 ▸ hz) _))) ?_
           exact on1 y5 ⟨hx5, hok5⟩
         refine Mlo (s := y5) (T := 3) (mPick r.kind 9).toNat (.int .i64 (y5.at (mPick r.kind 9).toNat)) (fun w hr => (Rr (B := anyB) (hr _ (.head _)) (fun _ _ => trivial) (fun z hz => hsub5 z (hx5 ▸ hz) _))) ?_
         exact on1 y5 ⟨hx5, hok5⟩
       refine Mbr ?_ ?_
       · refine Mlo (s := y5) (T := 3) (mPick r.kind 9).toNat (.int .i64 (y5.at (mPick r.kind 9).toNat)) (fun w hr => (Rr (B := anyB) (hr _ (.head _)) (fun _ _ => trivial) (fun z hz => hsub5 z (hx5 ▸ hz) _))) ?_
         refine Mp ?_ Tryz.call78 (fun bs w hS => keep_name r.a w (by assumption))
         exact on1 y5 ⟨hx5, hok5⟩
       refine Mp ?_ Tryz.call78 (fun bs w hS => keep_name r.a w (by assumption))
       refine Mlo (s := y5) (T := 3) (mPick r.kind 9).toNat (.int .i64 (y5.at (mPick r.kind 9).toNat)) (fun w hr => (Rr (B := anyB) (hr _ (.head _)) (fun _ _ => trivial) (fun z hz => hsub5 z (hx5 ▸ hz) _))) ?_
       exact on1 y5 ⟨hx5, hok5⟩
     refine Mbr ?_ ?_
     · refine Mp ?_ Tryz.call78 (fun bs w hS => keep_name r.a w (by assumption))
       refine Mbr ?_ ?_
       · have hsub6 : ∀ z, z ∈ ([1, 2, 2, 3, 3, 4, 5, 5, 6] : List Int) → ∀ w, Rds.sub anyB w z := (fun _ _ _ => trivial)
         refine Mli (α := Int) (e := 3) [1, 2, 2, 3, 3, 4, 5, 5, 6] ?_ hsub6
         intro y6 hx6 hok6
         have hn6 : y6.n = 9 := by show y6.xs.length = _; rw [hx6]; rfl
         refine Mih ?_ (pIq 8 (mPick r.kind 9) (mPick r.kind 9).toNat hok6)
         refine Mbr ?_ ?_
         · refine Mlo (s := y6) (T := 3) (mPick r.kind 9).toNat (.int .i64 (y6.at (mPick r.kind 9).toNat)) (fun w hr => (Rr (B := anyB) (hr _ (.head _)) (fun _ _ => trivial) (fun z hz => hsub6 z (hx6 ▸ hz) _))) ?_
           exact on1 y6 ⟨hx6, hok6⟩
         refine Mlo (s := y6) (T := 3) (mPick r.kind 9).toNat (.int .i64 (y6.at (mPick r.kind 9).toNat)) (fun w hr => (Rr (B := anyB) (hr _ (.head _)) (fun _ _ => trivial) (fun z hz => hsub6 z (hx6 ▸ hz) _))) ?_
         exact on1 y6 ⟨hx6, hok6⟩
       have hsub7 : ∀ z, z ∈ ([1, 2, 2, 3, 3, 4, 5, 5, 6] : List Int) → ∀ w, Rds.sub anyB w z := (fun _ _ _ => trivial)
       refine Mli (α := Int) (e := 3) [1, 2, 2, 3, 3, 4, 5, 5, 6] ?_ hsub7
       intro y7 hx7 hok7
       have hn7 : y7.n = 9 := by show y7.xs.length = _; rw [hx7]; rfl
       refine Mih ?_ (pIq 8 (mPick r.kind 9) (mPick r.kind 9).toNat hok7)
       refine Mlo (s := y7) (T := 3) (mPick r.kind 9).toNat (.int .i64 (y7.at (mPick r.kind 9).toNat)) (fun w hr => (Rr (B := anyB) (hr _ (.head _)) (fun _ _ => trivial) (fun z hz => hsub7 z (hx7 ▸ hz) _))) ?_
       exact on1 y7 ⟨hx7, hok7⟩
     refine Mbr ?_ ?_
     · have hsub8 : ∀ z, z ∈ ([1, 2, 2, 3, 3, 4, 5, 5, 6] : List Int) → ∀ w, Rds.sub anyB w z := (fun _ _ _ => trivial)
       refine Mli (α := Int) (e := 3) [1, 2, 2, 3, 3, 4, 5, 5, 6] ?_ hsub8
       intro y8 hx8 hok8
       have hn8 : y8.n = 9 := by show y8.xs.length = _; rw [hx8]; rfl
       refine Mih ?_ (pIq 8 (mPick r.kind 9) (mPick r.kind 9).toNat hok8)
       refine Mbr ?_ ?_
       · refine Mlo (s := y8) (T := 3) (mPick r.kind 9).toNat (.int .i64 (y8.at (mPick r.kind 9).toNat)) (fun w hr => (Rr (B := anyB) (hr _ (.head _)) (fun _ _ => trivial) (fun z hz => hsub8 z (hx8 ▸ hz) _))) ?_
         refine Mp ?_ Tryz.call78 (fun bs w hS => keep_name r.a w (by assumption))
         exact on1 y8 ⟨hx8, hok8⟩
       refine Mp ?_ Tryz.call78 (fun bs w hS => keep_name r.a w (by assumption))
       refine Mlo (s := y8) (T := 3) (mPick r.kind 9).toNat (.int .i64 (y8.at (mPick r.kind 9).toNat)) (fun w hr => (Rr (B := anyB) (hr _ (.head _)) (fun _ _ => trivial) (fun z hz => hsub8 z (hx8 ▸ hz) _))) ?_
       exact on1 y8 ⟨hx8, hok8⟩
     refine Mp ?_ Tryz.call78 (fun bs w hS => keep_name r.a w (by assumption))
     have hsub9 : ∀ z, z ∈ ([1, 2, 2, 3, 3, 4, 5, 5, 6] : List Int) → ∀ w, Rds.sub anyB w z := (fun _ _ _ => trivial)
     refine Mli (α := Int) (e := 3) [1, 2, 2, 3, 3, 4, 5, 5, 6] ?_ hsub9
     intro y9 hx9 hok9
     have hn9 : y9.n = 9 := by show y9.xs.length = _; rw [hx9]; rfl
     refine Mih ?_ (pIq 8 (mPick r.kind 9) (mPick r.kind 9).toNat hok9)
     refine Mlo (s := y9) (T := 3) (mPick r.kind 9).toNat (.int .i64 (y9.at (mPick r.kind 9).toNat)) (fun w hr => (Rr (B := anyB) (hr _ (.head _)) (fun _ _ => trivial) (fun z hz => hsub9 z (hx9 ▸ hz) _))) ?_
     exact on1 y9 ⟨hx9, hok9⟩
   refine Mbr ?_ ?_
   · have hsub10 : ∀ z, z ∈ ([1, 2, 2, 3, 3, 4, 5, 5, 6] : List Int) → ∀ w, Rds.sub anyB w z := (fun _ _ _ => trivial)
     refine Mli (α := Int) (e := 3) [1, 2, 2, 3, 3, 4, 5, 5, 6] ?_ hsub10
     intro y10 hx10 hok10
     have hn10 : y10.n = 9 := by show y10.xs.length = _; rw [hx10]; rfl
     refine Mp ?_ Tryz.call43 (fun bs w hS => keep_picked r.kind 9 w (by assumption) (by omega))
     have hp11 := pick_bd r.kind (m := 9) (by omega)
     refine Mih ?_ (pIq 8 (mPick r.kind 9) (mPick r.kind 9).toNat hok10)
     refine Mbr ?_ ?_
     · refine Mlo (s := y10) (T := 3) (mPick r.kind 9).toNat (.int .i64 (y10.at (mPick r.kind 9).toNat)) (fun w hr => (Rr (B := anyB) (hr _ (.head _)) (fun _ _ => trivial) (fun z hz => hsub10 z (hx10 ▸ hz) _))) ?_
       refine Mp ?_ Tryz.call78 (fun bs w hS => keep_name r.a w (by assumption))
       exact on1 y10 ⟨hx10, hok10⟩
     refine Mp ?_ Tryz.call78 (fun bs w hS => keep_name r.a w (by assumption))
     refine Mlo (s := y10) (T := 3) (mPick r.kind 9).toNat (.int .i64 (y10.at (mPick r.kind 9).toNat)) (fun w hr => (Rr (B := anyB) (hr _ (.head _)) (fun _ _ => trivial) (fun z hz => hsub10 z (hx10 ▸ hz) _))) ?_
     exact on1 y10 ⟨hx10, hok10⟩
   refine Mp ?_ Tryz.call43 (fun bs w hS => keep_picked r.kind 9 w (by assumption) (by omega))
   have hp12 := pick_bd r.kind (m := 9) (by omega)
   refine Mbr ?_ ?_
   · have hsub13 : ∀ z, z ∈ ([1, 2, 2, 3, 3, 4, 5, 5, 6] : List Int) → ∀ w, Rds.sub anyB w z := (fun _ _ _ => trivial)
     refine Mli (α := Int) (e := 3) [1, 2, 2, 3, 3, 4, 5, 5, 6] ?_ hsub13
     intro y13 hx13 hok13
     have hn13 : y13.n = 9 := by show y13.xs.length = _; rw [hx13]; rfl
     refine Mih ?_ (pIq 8 (mPick r.kind 9) (mPick r.kind 9).toNat hok13)
     refine Mbr ?_ ?_
     · refine Mlo (s := y13) (T := 3) (mPick r.kind 9).toNat (.int .i64 (y13.at (mPick r.kind 9).toNat)) (fun w hr => (Rr (B := anyB) (hr _ (.head _)) (fun _ _ => trivial) (fun z hz => hsub13 z (hx13 ▸ hz) _))) ?_
       refine Mp ?_ Tryz.call78 (fun bs w hS => keep_name r.a w (by assumption))
       exact on1 y13 ⟨hx13, hok13⟩
     refine Mp ?_ Tryz.call78 (fun bs w hS => keep_name r.a w (by assumption))
     refine Mlo (s := y13) (T := 3) (mPick r.kind 9).toNat (.int .i64 (y13.at (mPick r.kind 9).toNat)) (fun w hr => (Rr (B := anyB) (hr _ (.head _)) (fun _ _ => trivial) (fun z hz => hsub13 z (hx13 ▸ hz) _))) ?_
     exact on1 y13 ⟨hx13, hok13⟩
   refine Mp ?_ Tryz.call78 (fun bs w hS => keep_name r.a w (by assumption))
   have hsub14 : ∀ z, z ∈ ([1, 2, 2, 3, 3, 4, 5, 5, 6] : List Int) → ∀ w, Rds.sub anyB w z := (fun _ _ _ => trivial)
   refine Mli (α := Int) (e := 3) [1, 2, 2, 3, 3, 4, 5, 5, 6] ?_ hsub14
   intro y14 hx14 hok14
   have hn14 : y14.n = 9 := by show y14.xs.length = _; rw [hx14]; rfl
   refine Mih ?_ (pIq 8 (mPick r.kind 9) (mPick r.kind 9).toNat hok14)
   refine Mlo (s := y14) (T := 3) (mPick r.kind 9).toNat (.int .i64 (y14.at (mPick r.kind 9).toNat)) (fun w hr => (Rr (B := anyB) (hr _ (.head _)) (fun _ _ => trivial) (fun z hz => hsub14 z (hx14 ▸ hz) _))) ?_
   exact on1 y14 ⟨hx14, hok14⟩
 rintro y1 ⟨hx1, hok1⟩
 have hsub1 : ∀ z, z ∈ ([1, 2, 2, 3, 3, 4, 5, 5, 6] : List Int) → ∀ w, Rds.sub anyB w z := (fun _ _ _ => trivial)
 have hn1 : y1.n = 9 := by show y1.xs.length = _; rw [hx1]; rfl
 have hp2 := pick_bd r.kind (m := 9) (by omega)
 refine Md ((y1.at (mPick r.kind 9).toNat) = 5) (fun h1 => ?_) (fun h1 => ?_)
 rotate_left
 · refine Mt [.agg #[.int .i64 (y1.at (mPick r.kind 9).toNat), .string (mNm r.a), .string emp, .int .i64 0]] fun bs w hS => ?_
   have hk : y1.at (mPick r.kind 9).toNat = opK r.kind := by unfold opK opL Sl.at; rw [hx1]
   refine ⟨?_, hS.kp⟩
   rw [opR_not (hk ▸ h1), ← hk]
   rfl
 refine Mda 12 [] [2] [rowA 3 y1.A y1.c (y1.xs : List Int)] Tryz_mixed ?_
 refine Mp ?_ Tryz.call43 (fun bs w hS => keep_picked r.b 90 w (by assumption) (by omega))
 have hp15 := pick_bd r.b (m := 90) (by omega)
 refine Mp ?_ Tryz.call79 (fun bs w hS => conv_itoa (mPick r.b 90) w (by omega) (by omega))
 refine Mih ?_ (pP ((cstr [118]).size + (mItoa (mPick r.b 90)).size ≤ 9223372036854775807) (by have h9 := mItoa_size (mPick r.b 90); have h8 : (cstr [118]).size = 1 := cstr_size _; omega))
 refine Mp ?_ Tryz.call43 (fun bs w hS => keep_picked r.c 4 w (by assumption) (by omega))
 have hp16 := pick_bd r.c (m := 4) (by omega)
 refine Mih ?_ (pR ((1 : Int) + (mPick r.c 4)))
 refine Mz ?_
 refine Mt [.agg #[.int .i64 (y1.at (mPick r.kind 9).toNat), .string (mNm r.a), .string ((cstr [118]) ++ (mItoa (mPick r.b 90))), .int .i64 ((1 : Int) + (mPick r.c 4))]] fun bs w hS => ?_
 have hk : y1.at (mPick r.kind 9).toNat = opK r.kind := by unfold opK opL Sl.at; rw [hx1]
 refine ⟨?_, hS.kp⟩
 rw [opR_set (hk ▸ h1), ← hk]
 rfl
theorem keep_Begin (n : Int) (w : World) (h0 : 0 ≤ n) (h9 : n ≤ 9) : Calls Tryz.prog 17 #[vi n] w fun e w' => ∃ y : Sl DAct, e = .returned y.val ∧ y.xs.length = 2 * n.toNat + 2 ∧ FreshS w w' y := by
 refine M0 ?_ Tryz.func17
 refine m_rowA (α := DAct) 71 ?_
 refine Ml (σ := Nat × Option Addr × Nat × List DAct) (fun ⟨i, A, c, L⟩ => (i : Int) ≤ n ∧ L.length = i ∧ ∀ z, z ∈ L → actOk z) (fun ⟨i, A, c, L⟩ => n.toNat - i) (fun ⟨i, A, c, L⟩ => [rowA 71 A c (L : List DAct)]) [6, 5, 3, 0] (fun ⟨i, A, c, L⟩ => [(6, vI (i : Int)), (3, .v (.slice A L.length c))]) (fun _ => []) ?_ (⟨0, none, 0, []⟩) ⟨h0, rfl, acts_nil⟩
 rintro ⟨i, A, c, L⟩ ⟨hi, hL, hI⟩ _ on1
 refine Md ((i : Int) < n) (fun h1 => ?_) fun h1 => ?_
 · refine M1 ?_
   refine Mal (α := DAct) 80 ([(⟨1, (i : Int), 0, 0, ⟨0, emp, emp, 0⟩⟩ : DAct)]) ?_
   intro A1 c1
   refine Mi ?_ (pR ((i : Int) + 1))
   exact on1 ⟨i + 1, A1, c1, L ++ [(⟨1, (i : Int), 0, 0, ⟨0, emp, emp, 0⟩⟩ : DAct)]⟩ ⟨by omega, by simp only [List.length_append, List.length_cons, List.length_nil]; omega, (acts_app hI (acts_one (by first | exact act_plain _ _ _ _ | exact act_op _ _ _ _ _)))⟩ (by show n.toNat - (i + 1) < n.toNat - i; omega)
 refine M1 ?_
 refine Mal (α := DAct) 80 ([(⟨4, 0, 1, 20, ⟨0, emp, emp, 0⟩⟩ : DAct), (⟨5, 0, 0, 20, ⟨0, emp, emp, 0⟩⟩ : DAct)]) ?_
 intro A2 c2
 refine Ml (σ := Nat × Option Addr × Nat × List DAct) (fun ⟨j, A2, c2, L2⟩ => (j : Int) ≤ n ∧ L2.length = n.toNat + 2 + j ∧ ∀ z, z ∈ L2 → actOk z) (fun ⟨j, A2, c2, L2⟩ => n.toNat - j) (fun ⟨j, A2, c2, L2⟩ => [rowA 71 A2 c2 (L2 : List DAct)]) [21, 20, 3] (fun ⟨j, A2, c2, L2⟩ => [(21, vI (j : Int)), (3, .v (.slice A2 L2.length c2))]) (fun _ => []) ?_ (⟨0, A2, c2, L ++ [(⟨4, 0, 1, 20, ⟨0, emp, emp, 0⟩⟩ : DAct), (⟨5, 0, 0, 20, ⟨0, emp, emp, 0⟩⟩ : DAct)]⟩) ⟨h0, by simp only [List.length_append, List.length_cons, List.length_nil]; omega, acts_app hI (acts_two (act_plain _ _ _ _) (act_plain _ _ _ _))⟩
 rintro ⟨j, A2, c2, L2⟩ ⟨hj, hL2, hI2⟩ _ on2
 refine Md ((j : Int) < n) (fun h2 => ?_) fun h2 => ?_
 rotate_left
 · exact Mt [.slice A2 L2.length c2] fun bs w hS => ⟨⟨A2, c2, L2⟩, rfl, by show L2.length = _; omega, hS.outS (y := (⟨A2, c2, L2⟩ : Sl DAct)) (allR_row i0 (hS.res _ i0) (fun z hz => hI2 z hz))⟩
 refine M1 ?_
 refine Mal (α := DAct) 80 ([(⟨9, 0, 0, 0, ⟨0, emp, emp, 0⟩⟩ : DAct)]) ?_
 intro A3 c3
 refine Mi ?_ (pR ((j : Int) + 1))
 exact on2 ⟨j + 1, A3, c3, L2 ++ [(⟨9, 0, 0, 0, ⟨0, emp, emp, 0⟩⟩ : DAct)]⟩ ⟨by omega, by simp only [List.length_append, List.length_cons, List.length_nil]; omega, (acts_app hI2 (acts_one (by first | exact act_plain _ _ _ _ | exact act_op _ _ _ _ _)))⟩ (by show n.toNat - (j + 1) < n.toNat - j; omega)
theorem keep_Acts {B : Nat → Prop} (l : Sl DRaw) (most n : Int) (w : World) (hl : l.rd B w) (h0 : 0 ≤ most) (h9 : most ≤ 1000) (hn : 0 < n) : Calls Tryz.prog 18 #[l.val, vi most, vi n] w fun e w' => ∃ y : Sl DAct, e = .returned y.val ∧ (y.xs.length : Int) ≤ most ∧ FreshS w w' y := by
 have okl := Sl.rd.ok hl
 have ncl := Sl.ok.nc okl
 refine M0 ?_ Tryz.func18
 refine m_rowA (α := DAct) 71 ?_
 refine Ml (σ := Nat × Option Addr × Nat × List DAct) (fun ⟨i, A, c, L⟩ => (i : Int) ≤ most ∧ L.length = i ∧ ∀ z, z ∈ L → actOk z) (fun ⟨i, A, c, L⟩ => l.n - i) (fun ⟨i, A, c, L⟩ => [rowA 71 A c (L : List DAct)]) [8, 7, 0, 1, 2] (fun ⟨i, A, c, L⟩ => [(8, vI (i : Int)), (7, .v (.slice A L.length c))]) (fun _ => []) ?_ (⟨0, none, 0, []⟩) ⟨h0, rfl, acts_nil⟩
 rintro ⟨i, A, c, L⟩ ⟨hi, hL, hI⟩ _ on1
 obtain ⟨hr1, hr2, hr3, hr4⟩ := raw_in okl i
 refine Md ((i : Int) < (l.n : Int)) (fun h1 => ?_) fun h1 => ?_
 rotate_left
 · exact Mt [.slice A L.length c] fun bs w hS => ⟨⟨A, c, L⟩, rfl, by show (L.length : Int) ≤ _; omega, hS.outS (y := (⟨A, c, L⟩ : Sl DAct)) (allR_row i0 (hS.res _ i0) (fun z hz => hI z hz))⟩
 refine Md ((i : Int) < most) (fun h2 => ?_) fun h2 => ?_
 rotate_left
 · exact Mt [.slice A L.length c] fun bs w hS => ⟨⟨A, c, L⟩, rfl, by show (L.length : Int) ≤ _; omega, hS.outS (y := (⟨A, c, L⟩ : Sl DAct)) (allR_row i0 (hS.res _ i0) (fun z hz => hI z hz))⟩
 refine Mi ?_ (pA 25 26 (i : Int) i (rdk hl))
 refine Mjo (σ := Unit) (fun _ => True) (fun _ => [rowA 71 A c (L : List DAct)]) [0, 1, 2, 7, 8, 9, 10] (fun _ => [(10, .p 1 0)]) (fun _ => []) (fun _ => [⟨71, [vI 0, vI (mPick (l.at i).a n), vI (mPick (l.at i).b 3), vI (mPick (l.at i).c 3), vI 0, vS emp, vS emp, vI 0]⟩]) 1 (fun _ on2 => ?_) ?_
 · refine Mdr 12 ?_ Tryz_mixed
   refine Mbr ?_ ?_
   · refine Mp ?_ Tryz.call43 (fun bs w hS => keep_picked (l.at i).a n w (by assumption) (by omega))
     have hp1 := pick_bd (l.at i).a (m := n) (by omega)
     refine Mbr ?_ ?_
     · refine Mp ?_ Tryz.call43 (fun bs w hS => keep_picked (l.at i).b 3 w (by assumption) (by omega))
       have hp2 := pick_bd (l.at i).b (m := 3) (by omega)
       refine Mbr ?_ ?_
       · refine Mp ?_ Tryz.call43 (fun bs w hS => keep_picked (l.at i).c 3 w (by assumption) (by omega))
         have hp3 := pick_bd (l.at i).c (m := 3) (by omega)
         refine Mz ?_
         exact on2 () trivial
       refine Mp ?_ Tryz.call43 (fun bs w hS => keep_picked (l.at i).c 3 w (by assumption) (by omega))
       have hp4 := pick_bd (l.at i).c (m := 3) (by omega)
       refine Mz ?_
       exact on2 () trivial
     refine Mp ?_ Tryz.call43 (fun bs w hS => keep_picked (l.at i).b 3 w (by assumption) (by omega))
     have hp5 := pick_bd (l.at i).b (m := 3) (by omega)
     refine Mp ?_ Tryz.call43 (fun bs w hS => keep_picked (l.at i).c 3 w (by assumption) (by omega))
     have hp6 := pick_bd (l.at i).c (m := 3) (by omega)
     refine Mz ?_
     exact on2 () trivial
   refine Mp ?_ Tryz.call43 (fun bs w hS => keep_picked (l.at i).a n w (by assumption) (by omega))
   have hp7 := pick_bd (l.at i).a (m := n) (by omega)
   refine Mp ?_ Tryz.call43 (fun bs w hS => keep_picked (l.at i).b 3 w (by assumption) (by omega))
   have hp8 := pick_bd (l.at i).b (m := 3) (by omega)
   refine Mp ?_ Tryz.call43 (fun bs w hS => keep_picked (l.at i).c 3 w (by assumption) (by omega))
   have hp9 := pick_bd (l.at i).c (m := 3) (by omega)
   refine Mz ?_
   exact on2 () trivial
 rintro _ _
 have hp1 := pick_bd (l.at i).a (m := n) (by omega)
 have hp2 := pick_bd (l.at i).b (m := 3) (by omega)
 have hp3 := pick_bd (l.at i).c (m := 3) (by omega)
 refine Mp ?_ Tryz.call43 (fun bs w hS => keep_picked (l.at i).kind 42 w (by assumption) (by omega))
 have hp10 := pick_bd (l.at i).kind (m := 42) (by omega)
 refine Md (mPick (l.at i).kind 42 < 8) (fun h3 => ?_) fun h3 => ?_
 · refine Mdr 15 ?_ Tryz_mixed
   refine Mih ?_ (pc (pG [(49, .val (vi ((l.at i).kind.tdiv 42)))] (oc ((quo_any (by assumption) (by omega)) : ∀ w, (do eqGuard .quo 3 (.tmp 48) (.const (vi 42)) (vi (l.at i).kind) (vi 42); binOp .quo 3 (vi (l.at i).kind) (vi 42) : Sem Value).run Tryz.prog w = .ok (vi ((l.at i).kind.tdiv 42)) w) on)) (pG [(56, .val (vi ((l.at i).c.tdiv 7)))] (oc ((quo_any (by assumption) (by omega)) : ∀ w, (do eqGuard .quo 3 (.tmp 55) (.const (vi 7)) (vi (l.at i).c) (vi 7); binOp .quo 3 (vi (l.at i).c) (vi 7) : Sem Value).run Tryz.prog w = .ok (vi ((l.at i).c.tdiv 7)) w) on)))
   refine Mp ?_ Tryz.call44 (fun bs w hS => keep_Op (⟨(l.at i).kind.tdiv 42, (l.at i).b, (l.at i).c, (l.at i).c.tdiv 7⟩ : DRaw) w ⟨tdiv_inR hr1 (by omega), hr3, hr4, tdiv_inR hr4 (by omega)⟩)
   refine Mz ?_
   refine M1 ?_
   refine Mal (α := DAct) 80 ([(⟨2, mPick (l.at i).a n, 0, 0, ⟨(mOpR (⟨(l.at i).kind.tdiv 42, (l.at i).b, (l.at i).c, (l.at i).c.tdiv 7⟩ : DRaw)).kind, (mOpR (⟨(l.at i).kind.tdiv 42, (l.at i).b, (l.at i).c, (l.at i).c.tdiv 7⟩ : DRaw)).a, (mOpR (⟨(l.at i).kind.tdiv 42, (l.at i).b, (l.at i).c, (l.at i).c.tdiv 7⟩ : DRaw)).b, (mOpR (⟨(l.at i).kind.tdiv 42, (l.at i).b, (l.at i).c, (l.at i).c.tdiv 7⟩ : DRaw)).n⟩⟩ : DAct)]) ?_
   intro A11 c11
   refine Mi ?_ (pR ((i : Int) + 1))
   exact on1 ⟨i + 1, A11, c11, L ++ [(⟨2, mPick (l.at i).a n, 0, 0, ⟨(mOpR (⟨(l.at i).kind.tdiv 42, (l.at i).b, (l.at i).c, (l.at i).c.tdiv 7⟩ : DRaw)).kind, (mOpR (⟨(l.at i).kind.tdiv 42, (l.at i).b, (l.at i).c, (l.at i).c.tdiv 7⟩ : DRaw)).a, (mOpR (⟨(l.at i).kind.tdiv 42, (l.at i).b, (l.at i).c, (l.at i).c.tdiv 7⟩ : DRaw)).b, (mOpR (⟨(l.at i).kind.tdiv 42, (l.at i).b, (l.at i).c, (l.at i).c.tdiv 7⟩ : DRaw)).n⟩⟩ : DAct)]⟩ ⟨by omega, by simp only [List.length_append, List.length_cons, List.length_nil]; omega, (acts_app hI (acts_one (by first | exact act_plain _ _ _ _ | exact act_op _ _ _ _ _)))⟩ (by show l.n - (i + 1) < l.n - i; omega)
 refine Md (mPick (l.at i).kind 42 < 16) (fun h4 => ?_) fun h4 => ?_
 · refine M1 ?_
   refine Mal (α := DAct) 80 ([(⟨3, mPick (l.at i).a n, mPick (l.at i).b 3, mPick (l.at i).c 3, ⟨0, emp, emp, 0⟩⟩ : DAct)]) ?_
   intro A12 c12
   refine Mi ?_ (pR ((i : Int) + 1))
   exact on1 ⟨i + 1, A12, c12, L ++ [(⟨3, mPick (l.at i).a n, mPick (l.at i).b 3, mPick (l.at i).c 3, ⟨0, emp, emp, 0⟩⟩ : DAct)]⟩ ⟨by omega, by simp only [List.length_append, List.length_cons, List.length_nil]; omega, (acts_app hI (acts_one (by first | exact act_plain _ _ _ _ | exact act_op _ _ _ _ _)))⟩ (by show l.n - (i + 1) < l.n - i; omega)
 refine Md (mPick (l.at i).kind 42 < 22) (fun h5 => ?_) fun h5 => ?_
 · refine Mdr 7 ?_ Tryz_mixed
   refine Mp ?_ Tryz.call43 (fun bs w hS => keep_picked (l.at i).c 6 w (by assumption) (by omega))
   have hp13 := pick_bd (l.at i).c (m := 6) (by omega)
   refine Mih ?_ (pR ((1 : Int) + (mPick (l.at i).c 6)))
   refine Mz ?_
   refine M1 ?_
   refine Mal (α := DAct) 80 ([(⟨4, 0, mPick (l.at i).b 3, (1 : Int) + (mPick (l.at i).c 6), ⟨0, emp, emp, 0⟩⟩ : DAct)]) ?_
   intro A14 c14
   refine Mi ?_ (pR ((i : Int) + 1))
   exact on1 ⟨i + 1, A14, c14, L ++ [(⟨4, 0, mPick (l.at i).b 3, (1 : Int) + (mPick (l.at i).c 6), ⟨0, emp, emp, 0⟩⟩ : DAct)]⟩ ⟨by omega, by simp only [List.length_append, List.length_cons, List.length_nil]; omega, (acts_app hI (acts_one (by first | exact act_plain _ _ _ _ | exact act_op _ _ _ _ _)))⟩ (by show l.n - (i + 1) < l.n - i; omega)
 refine Md (mPick (l.at i).kind 42 < 29) (fun h6 => ?_) fun h6 => ?_
 · refine Mdr 11 ?_ Tryz_mixed
   refine Mp ?_ Tryz.call43 (fun bs w hS => keep_picked (l.at i).c 2 w (by assumption) (by omega))
   have hp15 := pick_bd (l.at i).c (m := 2) (by omega)
   refine Mih ?_ (pR ((mPick (l.at i).b 3) * (mPick (l.at i).c 2)) (mul_small (by omega) (by omega) (by omega) (by omega)))
   refine Mp ?_ Tryz.call43 (fun bs w hS => keep_picked (l.at i).c 6 w (by assumption) (by omega))
   have hp16 := pick_bd (l.at i).c (m := 6) (by omega)
   refine Mih ?_ (pR ((1 : Int) + (mPick (l.at i).c 6)))
   refine Mz ?_
   refine M1 ?_
   refine Mal (α := DAct) 80 ([(⟨5, 0, (mPick (l.at i).b 3) * (mPick (l.at i).c 2), (1 : Int) + (mPick (l.at i).c 6), ⟨0, emp, emp, 0⟩⟩ : DAct)]) ?_
   intro A17 c17
   refine Mi ?_ (pR ((i : Int) + 1))
   exact on1 ⟨i + 1, A17, c17, L ++ [(⟨5, 0, (mPick (l.at i).b 3) * (mPick (l.at i).c 2), (1 : Int) + (mPick (l.at i).c 6), ⟨0, emp, emp, 0⟩⟩ : DAct)]⟩ ⟨by omega, by simp only [List.length_append, List.length_cons, List.length_nil]; omega, (acts_app hI (acts_one (by first | exact act_plain _ _ _ _ | exact act_op _ _ _ _ _)))⟩ (by show l.n - (i + 1) < l.n - i; omega)
 refine Md (mPick (l.at i).kind 42 = 29) (fun h7 => ?_) fun h7 => ?_
 · refine M1 ?_
   refine Mal (α := DAct) 80 ([(⟨6, mPick (l.at i).a n, mPick (l.at i).b 3, mPick (l.at i).c 3, ⟨0, emp, emp, 0⟩⟩ : DAct)]) ?_
   intro A18 c18
   refine Mi ?_ (pR ((i : Int) + 1))
   exact on1 ⟨i + 1, A18, c18, L ++ [(⟨6, mPick (l.at i).a n, mPick (l.at i).b 3, mPick (l.at i).c 3, ⟨0, emp, emp, 0⟩⟩ : DAct)]⟩ ⟨by omega, by simp only [List.length_append, List.length_cons, List.length_nil]; omega, (acts_app hI (acts_one (by first | exact act_plain _ _ _ _ | exact act_op _ _ _ _ _)))⟩ (by show l.n - (i + 1) < l.n - i; omega)
 refine Md (mPick (l.at i).kind 42 = 30) (fun h8 => ?_) fun h8 => ?_
 · refine M1 ?_
   refine Mal (α := DAct) 80 ([(⟨7, mPick (l.at i).a n, mPick (l.at i).b 3, mPick (l.at i).c 3, ⟨0, emp, emp, 0⟩⟩ : DAct)]) ?_
   intro A19 c19
   refine Mi ?_ (pR ((i : Int) + 1))
   exact on1 ⟨i + 1, A19, c19, L ++ [(⟨7, mPick (l.at i).a n, mPick (l.at i).b 3, mPick (l.at i).c 3, ⟨0, emp, emp, 0⟩⟩ : DAct)]⟩ ⟨by omega, by simp only [List.length_append, List.length_cons, List.length_nil]; omega, (acts_app hI (acts_one (by first | exact act_plain _ _ _ _ | exact act_op _ _ _ _ _)))⟩ (by show l.n - (i + 1) < l.n - i; omega)
 refine Md (mPick (l.at i).kind 42 = 31) (fun h9 => ?_) fun h9 => ?_
 · refine M1 ?_
   refine Mal (α := DAct) 80 ([(⟨8, mPick (l.at i).a n, mPick (l.at i).b 3, mPick (l.at i).c 3, ⟨0, emp, emp, 0⟩⟩ : DAct)]) ?_
   intro A20 c20
   refine Mi ?_ (pR ((i : Int) + 1))
   exact on1 ⟨i + 1, A20, c20, L ++ [(⟨8, mPick (l.at i).a n, mPick (l.at i).b 3, mPick (l.at i).c 3, ⟨0, emp, emp, 0⟩⟩ : DAct)]⟩ ⟨by omega, by simp only [List.length_append, List.length_cons, List.length_nil]; omega, (acts_app hI (acts_one (by first | exact act_plain _ _ _ _ | exact act_op _ _ _ _ _)))⟩ (by show l.n - (i + 1) < l.n - i; omega)
 refine Md (mPick (l.at i).kind 42 = 32) (fun h10 => ?_) fun h10 => ?_
 · refine M1 ?_
   refine Mal (α := DAct) 80 ([(⟨1, mPick (l.at i).a n, mPick (l.at i).b 3, mPick (l.at i).c 3, ⟨0, emp, emp, 0⟩⟩ : DAct)]) ?_
   intro A21 c21
   refine Mi ?_ (pR ((i : Int) + 1))
   exact on1 ⟨i + 1, A21, c21, L ++ [(⟨1, mPick (l.at i).a n, mPick (l.at i).b 3, mPick (l.at i).c 3, ⟨0, emp, emp, 0⟩⟩ : DAct)]⟩ ⟨by omega, by simp only [List.length_append, List.length_cons, List.length_nil]; omega, (acts_app hI (acts_one (by first | exact act_plain _ _ _ _ | exact act_op _ _ _ _ _)))⟩ (by show l.n - (i + 1) < l.n - i; omega)
 refine Md (mPick (l.at i).kind 42 = 33) (fun h11 => ?_) fun h11 => ?_
 · refine M1 ?_
   refine Mal (α := DAct) 80 ([(⟨10, mPick (l.at i).a n, mPick (l.at i).b 3, mPick (l.at i).c 3, ⟨0, emp, emp, 0⟩⟩ : DAct)]) ?_
   intro A22 c22
   refine Mi ?_ (pR ((i : Int) + 1))
   exact on1 ⟨i + 1, A22, c22, L ++ [(⟨10, mPick (l.at i).a n, mPick (l.at i).b 3, mPick (l.at i).c 3, ⟨0, emp, emp, 0⟩⟩ : DAct)]⟩ ⟨by omega, by simp only [List.length_append, List.length_cons, List.length_nil]; omega, (acts_app hI (acts_one (by first | exact act_plain _ _ _ _ | exact act_op _ _ _ _ _)))⟩ (by show l.n - (i + 1) < l.n - i; omega)
 refine Md (mPick (l.at i).kind 42 = 34) (fun h12 => ?_) fun h12 => ?_
 rotate_left
 · refine M1 ?_
   refine Mal (α := DAct) 80 ([(⟨9, mPick (l.at i).a n, mPick (l.at i).b 3, mPick (l.at i).c 3, ⟨0, emp, emp, 0⟩⟩ : DAct)]) ?_
   intro A24 c24
   refine Mi ?_ (pR ((i : Int) + 1))
   exact on1 ⟨i + 1, A24, c24, L ++ [(⟨9, mPick (l.at i).a n, mPick (l.at i).b 3, mPick (l.at i).c 3, ⟨0, emp, emp, 0⟩⟩ : DAct)]⟩ ⟨by omega, by simp only [List.length_append, List.length_cons, List.length_nil]; omega, (acts_app hI (acts_one (by first | exact act_plain _ _ _ _ | exact act_op _ _ _ _ _)))⟩ (by show l.n - (i + 1) < l.n - i; omega)
 refine M1 ?_
 refine Mal (α := DAct) 80 ([(⟨11, mPick (l.at i).a n, mPick (l.at i).b 3, mPick (l.at i).c 3, ⟨0, emp, emp, 0⟩⟩ : DAct)]) ?_
 intro A23 c23
 refine Mi ?_ (pR ((i : Int) + 1))
 exact on1 ⟨i + 1, A23, c23, L ++ [(⟨11, mPick (l.at i).a n, mPick (l.at i).b 3, mPick (l.at i).c 3, ⟨0, emp, emp, 0⟩⟩ : DAct)]⟩ ⟨by omega, by simp only [List.length_append, List.length_cons, List.length_nil]; omega, (acts_app hI (acts_one (by first | exact act_plain _ _ _ _ | exact act_op _ _ _ _ _)))⟩ (by show l.n - (i + 1) < l.n - i; omega)
theorem grow_acts (n : Int) (w : World) (h0 : 0 < n) (h9 : n ≤ 1000) : Calls Tryz.prog 42 #[vn, vi n] w fun e w' => ∃ y : Option Addr × Nat, e = .returned (.slice y.1 0 y.2) ∧ Kp [] w w' ∧ Fresh w w' (rowA 71 y.1 y.2 ([] : List DAct)) := by
 refine M0 ?_ Tryz.func42
 refine Md (n < 0) (fun h1 => ?_) fun h1 => ?_
 · exfalso; omega
 refine Mi ?_ (pc (pR (0)) (pR (n - 0)))
 refine Md ((0 : Int) < n - 0) (fun h2 => ?_) fun h2 => ?_
 rotate_left
 · exfalso; omega
 refine Mi ?_ (pG [(20, .sl 0 0)] (oc (rfl : 0 = 0) (oc (rfl : (0 : Int) = ((0 : Nat) : Int)) (oc ((by omega) : 0 ≤ 0) on))))
 refine m_rowA (α := DAct) 71 ?_
 refine Mapz (α := DAct) 69 3 80 0 n.toNat ?_ (n - 0) (by omega) (by omega) (Nat.le_refl _) (by omega) (by omega) (by omega)
 intro g2 c2 zs hc2 hc2m hlen0
 refine m_weak (rowA 71 (some ⟨g2, 0, none⟩) c2 ([] : List DAct)) (List.Sublist.refl _) (fun w h => raw_row0 h) ?_
 refine Mi ?_ (pG [(25, .sl 0 0)] (oc (rfl : 0 = 0) (oc (rfl : (0 : Int) = ((0 : Nat) : Int)) (oc ((by omega) : 0 ≤ c2) on))))
 exact Mt [.slice (some (⟨g2, 0, none⟩ : Addr)) 0 c2] fun bs w hS => ⟨(some ⟨g2, 0, none⟩, c2), rfl, hS.kp, hS.out1⟩
theorem concat_acts {B : Nat → Prop} (s : Sl (Sl DAct)) (w : World) (hs : s.rd B w) (h0 : 0 < (catAll s).length) (h9 : (catAll s).length ≤ 1000) : Calls Tryz.prog 16 #[s.val] w fun e w' => ∃ y : Sl DAct, e = .returned y.val ∧ y.xs = catAll s ∧ FreshS w w' y := by
 have oks := Sl.rd.ok hs
 have ncs := Sl.ok.nc oks
 refine M0 ?_ Tryz.func16
 refine Ml (σ := Nat) (fun i => i ≤ s.n) (fun i => s.n - i) (fun _ => []) [11, 10, 9, 3, 0] (fun i => [(11, vI (i : Int)), (3, vI ((catTo s i : Nat) : Int))]) (fun _ => []) ?_ 0 (Nat.zero_le _)
 rintro i hi _ on1
 have hq1 := cat_le s i
 refine Md ((i : Int) < (s.n : Int)) (fun h1 => ?_) fun h1 => ?_
 · have hq2 := cat_next (s := s) (i := i) (by omega)
   have hq3 := cat_le s (i + 1)
   have hq4 := Sl.ok.nc (Sl.ok.at (s := s) (i := i) oks (by omega))
   have hqni : (s.at i).n = (s.at i).xs.length := rfl
   refine Mi ?_ (pc (pA 13 14 (i : Int) i (rdk hs)) (pR (((catTo s i : Nat) : Int) + (((s.at i).n : Nat) : Int))))
   refine Md (((catTo s i : Nat) : Int) + (((s.at i).n : Nat) : Int) < 0) (fun h2 => ?_) fun h2 => ?_
   · exfalso; omega
   refine Mi ?_ (pR ((i : Int) + 1))
   exact on1 (i + 1) (by omega) (by omega) (hp := (by (try dsimp only); rw [show ((catTo s (i + 1) : Nat) : Int) = ((catTo s i : Nat) : Int) + (((s.at i).n : Nat) : Int) by omega]; kernel_rfl))
 have hendi : catTo s i = (catAll s).length := congrArg List.length (cat_all (by omega))
 refine Mf ?_ Tryz.call42 (fun bs w hS => (grow_acts ((catTo s i : Nat) : Int) w (by omega) (by omega)).mono (fun e w' ⟨y, h1, h2, h3⟩ => ⟨y, h1, trivial, h2, h3⟩))
 rintro yg1 _
 refine Ml (σ := Nat × Option Addr × Nat × List DAct) (fun ⟨k, A, c, L⟩ => k ≤ s.n ∧ L = (s.xs.take k).flatMap Sl.xs) (fun ⟨k, A, c, L⟩ => s.n - k) (fun ⟨k, A, c, L⟩ => [rowA 71 A c (L : List DAct)]) [27, 26, 25, 6] (fun ⟨k, A, c, L⟩ => [(27, vI (k : Int)), (6, .v (.slice A L.length c))]) (fun _ => []) ?_ (⟨0, yg1.1, yg1.2, []⟩) ⟨Nat.zero_le _, rfl⟩
 rintro ⟨k, A, c, L⟩ ⟨hk1, hL⟩ _ on2
 have hq5 := cat_le s k
 have hLn : L.length = catTo s k := by rw [hL]; rfl
 refine Md ((k : Int) < (s.n : Int)) (fun h3 => ?_) fun h3 => ?_
 rotate_left
 · have hendk : catTo s k = (catAll s).length := congrArg List.length (cat_all (by omega))
   refine Mt [.slice A L.length c] fun bs w hS => ?_
   have hLa : L = catAll s := by rw [hL]; exact cat_all (by omega)
   have hIa : ∀ z, z ∈ L → actOk z := by rw [hLa]; exact cat_ok oks
   exact ⟨⟨A, c, L⟩, rfl, hLa, hS.outS (y := (⟨A, c, L⟩ : Sl DAct)) (allR_row i0 (hS.res _ i0) (fun z hz => hIa z hz))⟩
 have hq6 := cat_next (s := s) (i := k) (by omega)
 have hq7 := cat_le s (k + 1)
 have hq8 := Sl.ok.nc (Sl.ok.at (s := s) (i := k) oks (by omega))
 have hqnk : (s.at k).n = (s.at k).xs.length := rfl
 refine Mi ?_ (pA 29 30 (k : Int) k (rdk hs))
 refine Ma ?_ (α := DAct) (L2 := (s.at k).xs) 80 (fun bs w hS => Sl.rd.src (s := s.at k) (Sl.rd.sub (s := s) (i := k) (Sl.rd.kp hs hS.kp) (by omega)))
 intro A3 c3
 refine Mi ?_ (pR ((k : Int) + 1))
 exact on2 ⟨k + 1, A3, c3, L ++ (s.at k).xs⟩ ⟨by omega, by rw [hL]; exact (cat_take (by omega)).symm⟩ (by show s.n - (k + 1) < s.n - k; omega)
theorem top_ran {B B' : Nat → Prop} (l : Sl DRaw) (most : Int) (more : Sl DAct) (w : World) (hl : l.rd B w) (hm : more.rd B' w) (h0 : 0 ≤ most) (h9 : most ≤ 200) (hmn : more.xs.length ≤ 100) : Calls Tryz.prog 7 #[l.val, vi most, more.val] w fun e w' => ∃ y : COut, e = .returned (.tuple #[y.val, vb true]) ∧ (∃ A : List DAct, (A.length : Int) ≤ 8 + most ∧ y.abs = mOut 3 (A ++ more.xs)) ∧ FreshS w w' y := by
 have okl := Sl.rd.ok hl
 have ncl := Sl.ok.nc okl
 refine M0 ?_ Tryz.func7
 refine Mu ?_ Tryz.call17 (fun bs w hS => keep_Begin 3 w (by omega) (by omega))
 rintro fp1 y1 hF1 hok1
 refine Mu ?_ Tryz.call18 (fun bs w hS => keep_Acts l most 3 w (Sl.rd.kp hl hS.kp) (by omega) (by omega) (by omega))
 rintro fp2 y2 hF2 hok2
 refine Mlr (α := Sl DAct) (e := 69) [y1, y2, more] ?_
 intro A3
 have hcl := cat3_len A3 ([y1, y2, more] : List (Sl DAct)).length y1 y2 more
 refine Mu ?_ Tryz.call16 (fun bs w hS => concat_acts (⟨A3, ([y1, y2, more] : List (Sl DAct)).length, [y1, y2, more]⟩ : Sl (Sl DAct)) w (Rr (B := anyB) (hS.res _ i0) (fun _ _ => trivial) (in3 (P := fun z : Sl DAct => Rds.sub anyB w z) (Sl.rd.wide (hS.res _ i2) (fun _ _ => trivial)) (Sl.rd.wide (hS.res _ i1) (fun _ _ => trivial)) (Sl.rd.wide (Sl.rd.kp hm hS.kp) (fun _ _ => trivial)))) (by omega) (by omega))
 rintro fp4 y4 hF4 hok4
 have hcat := hF4.trans (cat3_is A3 ([y1, y2, more] : List (Sl DAct)).length y1 y2 more)
 refine Mu ?_ Tryz.call15 (fun bs w hS => cl_Run 3 y4 w (hS.res _ i0))
 rintro fp5 y5 hF5 hok5
 have hlen : y4.xs.length ≤ 400 := by rw [hcat, List.length_append, List.length_append]; omega
 have hro := (ran_out hlen).1
 have hr3 := ran_three hlen hF5
 refine Mda 11 [] [0] [subR fp5 y5, subR fp4 y4, rowA 69 A3 ([y1, y2, more] : List (Sl DAct)).length ([y1, y2, more] : List (Sl DAct)), subR fp2 y2, subR fp1 y1] Tryz_mixed ?_
 refine Md ((mRunT 3 y4.xs).2.2 = 0) (fun h1 => ?_) fun h1 => ?_
 rotate_left
 · exact absurd hro h1
 refine Mz ?_
 refine Mt [y5.val, vb (decide ((y5.r.n : Int) = 3))] fun bs w hS => ?_
 refine ⟨y5, by rw [decide_eq_true (show (y5.r.n : Int) = 3 by omega)]; rfl, ⟨y1.xs ++ y2.xs, by rw [List.length_append]; omega, by rw [← hcat]; exact hF5⟩, hS.outS (y := y5) (Rds.wide (fun b hb => mem_allR i0 hb) (hS.res _ i0))⟩
theorem law_TopReplies {B : Nat → Prop} (l : Sl DRaw) (w : World) (hl : l.rd B w) : Calls Tryz.prog 5 #[.slice l.A l.n l.c] w fun e w' => e = .returned (.bool true) ∧ Kp [] w w' := by
 have okl := Sl.rd.ok hl
 have ncl := Sl.ok.nc okl
 refine M0 ?_ Tryz.func5
 refine Mu ?_ (vs := fun bs => [.slice l.A l.n l.c, .int .i64 150, .slice none 0 0]) Tryz.call7 (fun bs w hS => top_ran l 150 (Sl.nil : Sl DAct) w (Sl.rd.kp hl hS.kp) (Sl.rd_nil anyB w) (by omega) (by omega) (Nat.zero_le _))
 rintro fp1 y1 hF1 hok1
 obtain ⟨Ac, hAl, hout⟩ := hF1
 have hlen : (Ac ++ (Sl.nil : Sl DAct).xs).length ≤ 400 := by rw [List.length_append]; show Ac.length + 0 ≤ 400; omega
 obtain ⟨hml, hon⟩ := told_is hlen hout
 have ncm := Sl.ok.nc hok1.2.2.1
 refine Mmm (κ' := Int × Int) (β' := DReply) (T := 63) kv2 vvR ?_
 intro bm2
 refine Ml (σ := Nat × List ((Int × Int) × DReply)) (fun ⟨k, L⟩ => RepI y1.mails.xs k L) (fun ⟨k, L⟩ => y1.mails.n - k) (fun ⟨k, L⟩ => [mapR bm2 kv2 vvR L, subR fp1 y1]) [20, 19, 18, 5, 4] (fun ⟨k, L⟩ => [(20, vI (k : Int))]) (fun _ => []) ?_ (⟨0, []⟩) (repI_0 _)
 rintro ⟨k, L⟩ hI _ on1
 have hI1 := hI.le
 have hln : y1.mails.n = y1.mails.xs.length := rfl
 refine Md ((k : Int) < (y1.mails.n : Int)) (fun h1 => ?_) (fun h1 => ?_)
 rotate_left
 · exact Mt [.bool true] fun bs w hS => ⟨rfl, hS.kp⟩
 refine Mi ?_ (pA 22 23 (k : Int) k (s := y1.mails) (fun w hk hr => (And.left (And.right (And.right (hr _ (.tail _ (.head _))))))))
 refine Md ((y1.mails.at k).seq = 0) (fun h2 => ?_) (fun h2 => ?_)
 · refine Mi ?_ (pR ((k : Int) + 1))
   have hI9 := repI_next hI (by omega)
   exact on1 ⟨k + 1, L⟩ hI9 (by show y1.mails.n - (k + 1) < y1.mails.n - k; omega)
 refine Md ((y1.mails.at k).reply.code = 12) (fun h3 => ?_) (fun h3 => ?_)
 · refine Mi ?_ (pR ((k : Int) + 1))
   have hI9 := repI_next hI (by omega)
   exact on1 ⟨k + 1, L⟩ hI9 (by show y1.mails.n - (k + 1) < y1.mails.n - k; omega)
 refine Md ((y1.mails.at k).reply.code = 11) (fun h4 => ?_) (fun h4 => ?_)
 · refine Mi ?_ (pR ((k : Int) + 1))
   have hI9 := repI_next hI (by omega)
   exact on1 ⟨k + 1, L⟩ hI9 (by show y1.mails.n - (k + 1) < y1.mails.n - k; omega)
 refine Mlo2 mtReplies ((y1.mails.at k).client, (y1.mails.at k).seq) (.head _) ?_
 refine Mb (mlk L ((y1.mails.at k).client, (y1.mails.at k).seq)).isSome (fun h5 => ?_) (fun h5 => ?_)
 rotate_left
 · refine Mmu mtReplies ((y1.mails.at k).client, (y1.mails.at k).seq) (y1.mails.at k).reply ?_
   refine Mi ?_ (pR ((k : Int) + 1))
   have hI9 := repI_put hI (by omega) (m := (y1.mails.at k)) rfl h2 h3 h4
   exact on1 ⟨k + 1, mput L ((y1.mails.at k).client, (y1.mails.at k).seq) (y1.mails.at k).reply⟩ hI9 (by show y1.mails.n - (k + 1) < y1.mails.n - k; omega)
 refine Mi ?_ (pG [(55, .val (.bool (!((decide (((mlk L ((y1.mails.at k).client, (y1.mails.at k).seq)).getD ⟨0, 0, emp⟩).code = (y1.mails.at k).reply.code)) && ((decide (((mlk L ((y1.mails.at k).client, (y1.mails.at k).seq)).getD ⟨0, 0, emp⟩).n = (y1.mails.at k).reply.n)) && ((decide (((mlk L ((y1.mails.at k).client, (y1.mails.at k).seq)).getD ⟨0, 0, emp⟩).text = (y1.mails.at k).reply.text)) && true))))))] (oc ((neq_agg (by kernel_rfl) (by kernel_rfl)) : ∀ w, (do eqGuard .neq 56 (.tmp 52) (.tmp 54) (.agg #[.int .i64 ((mlk L ((y1.mails.at k).client, (y1.mails.at k).seq)).getD ⟨0, 0, emp⟩).code, .int .i64 ((mlk L ((y1.mails.at k).client, (y1.mails.at k).seq)).getD ⟨0, 0, emp⟩).n, .string ((mlk L ((y1.mails.at k).client, (y1.mails.at k).seq)).getD ⟨0, 0, emp⟩).text]) (.agg #[.int .i64 (y1.mails.at k).reply.code, .int .i64 (y1.mails.at k).reply.n, .string (y1.mails.at k).reply.text]); binOp .neq 56 (.agg #[.int .i64 ((mlk L ((y1.mails.at k).client, (y1.mails.at k).seq)).getD ⟨0, 0, emp⟩).code, .int .i64 ((mlk L ((y1.mails.at k).client, (y1.mails.at k).seq)).getD ⟨0, 0, emp⟩).n, .string ((mlk L ((y1.mails.at k).client, (y1.mails.at k).seq)).getD ⟨0, 0, emp⟩).text]) (.agg #[.int .i64 (y1.mails.at k).reply.code, .int .i64 (y1.mails.at k).reply.n, .string (y1.mails.at k).reply.text]) : Sem Value).run Tryz.prog w = .ok (.bool (!((decide (((mlk L ((y1.mails.at k).client, (y1.mails.at k).seq)).getD ⟨0, 0, emp⟩).code = (y1.mails.at k).reply.code)) && ((decide (((mlk L ((y1.mails.at k).client, (y1.mails.at k).seq)).getD ⟨0, 0, emp⟩).n = (y1.mails.at k).reply.n)) && ((decide (((mlk L ((y1.mails.at k).client, (y1.mails.at k).seq)).getD ⟨0, 0, emp⟩).text = (y1.mails.at k).reply.text)) && true))))) w) on))
 refine Mbn ((decide (((mlk L ((y1.mails.at k).client, (y1.mails.at k).seq)).getD ⟨0, 0, emp⟩).code = (y1.mails.at k).reply.code)) && ((decide (((mlk L ((y1.mails.at k).client, (y1.mails.at k).seq)).getD ⟨0, 0, emp⟩).n = (y1.mails.at k).reply.n)) && ((decide (((mlk L ((y1.mails.at k).client, (y1.mails.at k).seq)).getD ⟨0, 0, emp⟩).text = (y1.mails.at k).reply.text)) && true))) (fun h6 => ?_) (fun h6 => ?_)
 rotate_left
 · exact absurd (show false = true from h6.symm.trans (by rw [rep_not hI hon (by omega) (m := (y1.mails.at k)) rfl h2 h3 h4 (z := ⟨0, 0, emp⟩) h5]; simp)) (by simp)
 refine Mmu mtReplies ((y1.mails.at k).client, (y1.mails.at k).seq) (y1.mails.at k).reply ?_
 refine Mi ?_ (pR ((k : Int) + 1))
 have hI9 := repI_put hI (by omega) (m := (y1.mails.at k)) rfl h2 h3 h4
 exact on1 ⟨k + 1, mput L ((y1.mails.at k).client, (y1.mails.at k).seq) (y1.mails.at k).reply⟩ hI9 (by show y1.mails.n - (k + 1) < y1.mails.n - k; omega)
end Go.Proofs.YtbjakddkfgjkaaaGreatDoor.W
