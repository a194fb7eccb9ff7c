/-
  Replicas and clients under a script: as they lie, and what holds of them at all times.
  Conditions: none beyond those that each theorem states.
-/
import Derived.Laws.OwnMore
import Derived.MapKept
import Derived.Test.YtbjakddkfgjkaaaGreatDoorFe
set_option linter.unusedVariables false
set_option linter.unusedSimpArgs false
namespace Go.Proofs.YtbjakddkfgjkaaaGreatDoor.Fw
open Go.RowKit
structure CTown where
  r : Sl CReplica
  c : Sl CCustomer
  mails : Sl DMail
  com : Sl ByteArray
  lead : Int
  deriving Inhabited
def CTown.abs (t : CTown) : DTown := ⟨t.r.xs.map CReplica.abs, t.c.xs.map CCustomer.abs, t.mails.xs, t.com.xs, t.lead⟩
abbrev CTown.vals (t : CTown) : List Value := [.slice t.r.A t.r.n t.r.c, .slice t.c.A t.c.n t.c.c, .slice t.mails.A t.mails.n t.mails.c, .slice t.com.A t.com.n t.com.c, .int .i64 t.lead]
structure TK where
  r : Nat
  c : Nat
  m : Nat
  k : Nat
  ty : Nat
def townS (f : List Nat) (r : List CReplica) (c : List CCustomer) (m : List DMail) (k : List ByteArray) : Res :=
  ⟨f, fun w => (∀ x, x ∈ r → Rds.sub (· ∈ f) w x) ∧ (∀ x, x ∈ c → Rds.sub (· ∈ f) w x) ∧ (∀ x, x ∈ m → Rds.sub (· ∈ f) w x) ∧ ∀ x, x ∈ k → Rds.sub (· ∈ f) w x,
   fun h p => ⟨fun x hx => Rds.stay (fun b hb _ => h b hb) (p.1 x hx), fun x hx => Rds.stay (fun b hb _ => h b hb) (p.2.1 x hx), fun x hx => Rds.stay (fun b hb _ => h b hb) (p.2.2.1 x hx), fun x hx => Rds.stay (fun b hb _ => h b hb) (p.2.2.2 x hx)⟩⟩
def townL (K : TK) (b : Nat) (f : List Nat) (t : CTown) : List Res :=
  [blkR b K.ty t.vals, rowA K.r t.r.A t.r.c t.r.xs, rowA K.c t.c.A t.c.c t.c.xs, rowA K.m t.mails.A t.mails.c t.mails.xs, rowA K.k t.com.A t.com.c t.com.xs, townS f t.r.xs t.c.xs t.mails.xs t.com.xs]
def townR (K : TK) (b : Nat) (f : List Nat) (t : CTown) : Res := allR (townL K b f t)
section
variable {K : TK} {b : Nat} {f : List Nat} {t : CTown} {w : World}
theorem town_b (h : (townR K b f t).p w) : (blkR b K.ty t.vals).p w := h _ (.head _)
theorem town_s (h : (townR K b f t).p w) : (townS f t.r.xs t.c.xs t.mails.xs t.com.xs).p w := h _ (.tail _ (.tail _ (.tail _ (.tail _ (.tail _ (.head _))))))
theorem town_r (h : (townR K b f t).p w) : Sl.rd anyB w t.r := Rr (B := anyB) (h _ (.tail _ (.head _))) (fun _ _ => trivial) fun z hz => Rds.wide (fun _ _ => trivial) ((town_s h).1 z hz)
theorem town_c (h : (townR K b f t).p w) : Sl.rd anyB w t.c := Rr (B := anyB) (h _ (.tail _ (.tail _ (.head _)))) (fun _ _ => trivial) fun z hz => Rds.wide (fun _ _ => trivial) ((town_s h).2.1 z hz)
theorem town_m (h : (townR K b f t).p w) : Sl.rd anyB w t.mails := Rr (B := anyB) (h _ (.tail _ (.tail _ (.tail _ (.head _))))) (fun _ _ => trivial) fun z hz => Rds.wide (fun _ _ => trivial) ((town_s h).2.2.1 z hz)
theorem town_k (h : (townR K b f t).p w) : Sl.rd anyB w t.com := Rr (B := anyB) (h _ (.tail _ (.tail _ (.tail _ (.tail _ (.head _)))))) (fun _ _ => trivial) fun z hz => Rds.wide (fun _ _ => trivial) ((town_s h).2.2.2 z hz)
end
theorem town_r2 {e : Nat} {f : List Nat} {s : Sl CReplica} {c : List CCustomer} {m : List DMail} {k : List ByteArray} {w : World} (h1 : (rowA e s.A s.c s.xs).p w) (h2 : (townS f s.xs c m k).p w) : Sl.rd anyB w s := Rr (B := anyB) h1 (fun _ _ => trivial) fun z hz => Rds.wide (fun _ _ => trivial) (h2.1 z hz)
def Ow (r : Res) (w : World) : Prop := r.p w ∧ r.fp.Nodup ∧ ∀ b, b ∈ r.fp → b < w.heap.size
theorem Ow.kp {r : Res} {w w' : World} (h : Ow r w) (hk : Kp [] w w') : r.p w' := r.st (fun b hb => hk.block b (h.2.2 b hb) (by simp)) h.1
theorem Ow.mono {r : Res} {w w' : World} (h : Ow r w) (hk : Kp [] w w') : Ow r w' := ⟨h.kp hk, h.2.1, fun b hb => Nat.lt_of_lt_of_le (h.2.2 b hb) hk.size⟩
theorem nodup_of_flat : ∀ {R : List Res} {r : Res}, r ∈ R → (R.flatMap Res.fp).Nodup → r.fp.Nodup
  | [], _, hr, _ => by cases hr
  | a :: R, r, hr, hn => by
    rw [List.flatMap_cons] at hn
    have h1 := List.nodup_append.1 hn
    rcases List.mem_cons.1 hr with rfl | hr
    · exact h1.1
    · exact nodup_of_flat hr h1.2.1
theorem WS.ow {ms : List Nat} {w0 w : World} {bs : List Nat} {loc : List Blk} {R : List Res} {r : Res} (hS : WS ms w0 bs loc R w) (hr : r ∈ R) : Ow r w :=
  ⟨hS.res _ hr, nodup_of_flat hr (List.nodup_append.1 hS.nd).2.1, fun b hb => (hS.lo b (List.mem_append_right _ (List.mem_flatMap.2 ⟨r, hr, hb⟩))).2⟩
theorem Ow.start {r : Res} {w : World} (h : Ow r w) : WS r.fp w [] [] [r] w := WS.start1 w r h.1 h.2.1 h.2.2
def townK (t : CTown) : Prop := t.r.ok ∧ t.c.ok ∧ t.mails.ok ∧ t.com.ok
theorem town_ok {K : TK} {b : Nat} {f : List Nat} {t : CTown} {w : World} (h : (townR K b f t).p w) : townK t := ⟨(town_r h).ok, (town_c h).ok, (town_m h).ok, (town_k h).ok⟩
def CTown.setr (t : CTown) (i : Nat) (y : CReplica) : CTown := { t with r := ⟨t.r.A, t.r.c, t.r.xs.set i y⟩ }
def CTown.setc (t : CTown) (i : Nat) (y : CCustomer) : CTown := { t with c := ⟨t.c.A, t.c.c, t.c.xs.set i y⟩ }
theorem setr_abs (t : CTown) {i : Nat} {k : Int} (hk : k = (i : Int)) (y : CReplica) : (t.setr i y).abs = t.abs.set k y.abs := by
  subst hk
  simp [CTown.abs, CTown.setr, DTown.set, List.map_set]
theorem setc_abs (t : CTown) {i : Nat} {k : Int} (hk : k = (i : Int)) (y : CCustomer) : (t.setc i y).abs = { t.abs with c := t.abs.c.set k.toNat y.abs } := by
  subst hk
  simp [CTown.abs, CTown.setc, List.map_set]
theorem rep_abs (t : CTown) {i : Nat} {k : Int} (hk : k = (i : Int)) : t.abs.rep k = (t.r.at i).abs := by
  subst hk
  show (t.r.xs.map CReplica.abs).getD _ default = _
  rw [Int.toNat_natCast, List.getD_eq_getElem?_getD, List.getElem?_map]
  unfold Sl.at
  rw [List.getD_eq_getElem?_getD]
  cases t.r.xs[i]? <;> rfl
theorem cust_abs (t : CTown) {i : Nat} {k : Int} (hk : k = (i : Int)) : t.abs.cust k = (t.c.at i).abs := by
  subst hk
  show (t.c.xs.map CCustomer.abs).getD _ default = _
  rw [Int.toNat_natCast, List.getD_eq_getElem?_getD, List.getElem?_map]
  unfold Sl.at
  rw [List.getD_eq_getElem?_getD]
  cases t.c.xs[i]? <;> rfl
theorem town_n (t : CTown) : t.abs.r.length = t.r.n ∧ t.abs.c.length = t.c.n ∧ t.abs.mails.length = t.mails.n ∧ t.abs.com.length = t.com.n := ⟨List.length_map .., List.length_map .., rfl, rfl⟩
section
variable {C : Cx} {Q : Exit → Act → World → Prop} {R0 R : List Res} {m : Mch} {K : TK} {b : Nat} {f : List Nat} {t : CTown}
theorem m_town (h : JM C Q R0 (blkR b K.ty t.vals :: rowA K.r t.r.A t.r.c t.r.xs :: rowA K.c t.c.A t.c.c t.c.xs :: rowA K.m t.mails.A t.mails.c t.mails.xs :: rowA K.k t.com.A t.com.c t.com.xs :: townS f t.r.xs t.c.xs t.mails.xs t.com.xs :: R) m) : JM C Q R0 (townR K b f t :: R) m :=
  m_res _ (fun bs w hS => ⟨hS.kp, hS.len, hS.loc, fun r hr => by
    have h0 := hS.res _ (.head _)
    simp only [List.mem_cons] at hr
    rcases hr with rfl | rfl | rfl | rfl | rfl | rfl | hr
    · exact h0 _ (.head _)
    · exact h0 _ (.tail _ (.head _))
    · exact h0 _ (.tail _ (.tail _ (.head _)))
    · exact h0 _ (.tail _ (.tail _ (.tail _ (.head _))))
    · exact h0 _ (.tail _ (.tail _ (.tail _ (.tail _ (.head _)))))
    · exact h0 _ (.tail _ (.tail _ (.tail _ (.tail _ (.tail _ (.head _))))))
    · exact hS.res _ (.tail _ hr),
    by have h1 := hS.nd; simpa [townR, townL, allR] using h1, by have h1 := hS.lo; simpa [townR, townL, allR] using h1⟩) h
theorem WS.town {ms : List Nat} {w0 w : World} {bs : List Nat} {loc : List Blk} {vs : List Value} {r : List CReplica} {c : List CCustomer} {ml : List DMail} {k : List ByteArray} (t' : CTown) (hS : WS ms w0 bs loc (blkR b K.ty vs :: rowA K.r t'.r.A t'.r.c t'.r.xs :: rowA K.c t'.c.A t'.c.c t'.c.xs :: rowA K.m t'.mails.A t'.mails.c t'.mails.xs :: rowA K.k t'.com.A t'.com.c t'.com.xs :: townS f r c ml k :: R) w)
    (hp : (townS f r c ml k).p w → (townS f t'.r.xs t'.c.xs t'.mails.xs t'.com.xs).p w) (hv : vs = t'.vals) : WS ms w0 bs loc (townR K b f t' :: R) w := by
  subst hv
  exact ⟨hS.kp, hS.len, hS.loc, fun q hq => by
    rw [List.mem_cons] at hq
    rcases hq with rfl | hq
    · intro q hq
      simp only [townL, List.mem_cons, List.mem_nil_iff, or_false] at hq
      rcases hq with rfl | rfl | rfl | rfl | rfl | rfl
      · exact hS.res _ (.head _)
      · exact hS.res _ (.tail _ (.head _))
      · exact hS.res _ (.tail _ (.tail _ (.head _)))
      · exact hS.res _ (.tail _ (.tail _ (.tail _ (.head _))))
      · exact hS.res _ (.tail _ (.tail _ (.tail _ (.tail _ (.head _)))))
      · exact hp (hS.res _ (.tail _ (.tail _ (.tail _ (.tail _ (.tail _ (.head _)))))))
    · exact hS.res _ (.tail _ (.tail _ (.tail _ (.tail _ (.tail _ (.tail _ hq)))))),
    by have h1 := hS.nd; simpa [townR, townL, allR, townS] using h1, by have h1 := hS.lo; simpa [townR, townL, allR, townS] using h1⟩
theorem m_towned {vs : List Value} {r : List CReplica} {c : List CCustomer} {ml : List DMail} {k : List ByteArray} (t' : CTown) (hp : ∀ w, (townS f r c ml k).p w → (townS f t'.r.xs t'.c.xs t'.mails.xs t'.com.xs).p w) (h : JM C Q R0 (townR K b f t' :: R) m) (hv : vs = t'.vals := by rfl) :
    JM C Q R0 (blkR b K.ty vs :: rowA K.r t'.r.A t'.r.c t'.r.xs :: rowA K.c t'.c.A t'.c.c t'.c.xs :: rowA K.m t'.mails.A t'.mails.c t'.mails.xs :: rowA K.k t'.com.A t'.com.c t'.com.xs :: townS f r c ml k :: R) m :=
  m_res _ (fun bs w hS => WS.town t' hS (hp w) hv) h
theorem pT (s off n : Nat) (h : ∀ w, Kp C.m C.w0 w → (∀ r, r ∈ R → r.p w) → (townR K b f t).p w) : Pk C R [(s, .ext ((t.vals.drop off).take n))] [] [((⟨b, 0, none⟩ : Addr).add off, (t.vals.drop off).take n)] :=
  ⟨fun _ _ _ => trivial, fun w hk hr => ⟨(blkR_at (town_b (h w hk hr))).part off n, trivial⟩⟩
theorem Mtr {fp : List Nat} {y : CReplica} (i : Nat) (J : JM C Q [] (townR K b (f ++ fp) (t.setr i y) :: R) (nx C (adv0 m (.v undef)))) (hi : i < t.r.n := by omega) (hv : stoAd C m = some (t.r.ad.add (i * Lay.size CReplica)) := by kernel_rfl) (hcell : stoVs C m = Lay.cells y := by kernel_rfl) (hL : locB m m.s.loc = locS m := by kernel_rfl) : JM C Q [] (subR fp y :: townR K b f t :: R) m := by
  refine m_f1 (m_town (m_f6 (m_f2 (Mse i y ?_ hi (by intros; exact List.nil_sublist _) hv hcell hL))))
  intro L2 hL2 _
  subst hL2
  refine m_f1 (m_f6 (m_join (townS (f ++ fp) (t.r.xs.set i y) t.c.xs t.mails.xs t.com.xs) (List.Perm.refl _) (fun w h1 h2 => ?_) (m_f5 (m_f5 (m_f5 (m_f4 (m_f5 (m_towned (t.setr i y) (fun _ h => h) J ?_))))))))
  · have w1 : ∀ {α : Type} [Rds α] {x : α}, Rds.sub (· ∈ f) w x → Rds.sub (· ∈ f ++ fp) w x := fun h => Rds.wide (fun b hb => List.mem_append_left _ hb) h
    refine ⟨fun x hx => ?_, fun x hx => w1 (h1.2.1 x hx), fun x hx => w1 (h1.2.2.1 x hx), fun x hx => w1 (h1.2.2.2 x hx)⟩
    rcases mem_set hx with rfl | hx
    · exact Rds.wide (fun b hb => List.mem_append_right _ hb) h2
    · exact w1 (h1.1 x hx)
  · simp [CTown.setr, Sl.n]
theorem Mtc {fp : List Nat} {y : CCustomer} (i : Nat) (J : JM C Q [] (townR K b (f ++ fp) (t.setc i y) :: R) (nx C (adv0 m (.v undef)))) (hi : i < t.c.n := by omega) (hv : stoAd C m = some (t.c.ad.add (i * Lay.size CCustomer)) := by kernel_rfl) (hcell : stoVs C m = Lay.cells y := by kernel_rfl) (hL : locB m m.s.loc = locS m := by kernel_rfl) : JM C Q [] (subR fp y :: townR K b f t :: R) m := by
  refine m_f1 (m_town (m_f6 (m_f3 (Mse i y ?_ hi (by intros; exact List.nil_sublist _) hv hcell hL))))
  intro L2 hL2 _
  subst hL2
  refine m_f1 (m_f6 (m_join (townS (f ++ fp) t.r.xs (t.c.xs.set i y) t.mails.xs t.com.xs) (List.Perm.refl _) (fun w h1 h2 => ?_) (m_f5 (m_f5 (m_f3 (m_f5 (m_f5 (m_towned (t.setc i y) (fun _ h => h) J ?_))))))))
  · have w1 : ∀ {α : Type} [Rds α] {x : α}, Rds.sub (· ∈ f) w x → Rds.sub (· ∈ f ++ fp) w x := fun h => Rds.wide (fun b hb => List.mem_append_left _ hb) h
    refine ⟨fun x hx => w1 (h1.1 x hx), fun x hx => ?_, fun x hx => w1 (h1.2.2.1 x hx), fun x hx => w1 (h1.2.2.2 x hx)⟩
    rcases mem_set hx with rfl | hx
    · exact Rds.wide (fun b hb => List.mem_append_right _ hb) h2
    · exact w1 (h1.2.1 x hx)
  · simp [CTown.setc, Sl.n]
end
theorem WS.turnB {ms : List Nat} {w0 w w' : World} {bs : List Nat} {loc : List Blk} {R : List Res} {r0 r : Res} (h : WS ms w0 bs loc (r0 :: R) w) (i : Nat) {ty : Nat} {cs cs' : List SV} (hb : loc[i]? = some ⟨ty, cs⟩) (k : Kp (bs.getD i 0 :: r0.fp) w w')
    (hw : w'.heap[bs.getD i 0]? = some (.cells (cs'.map (den bs)).toArray ty (0, 0))) (hr : r.p w') (hn : (bs.getD i 0 :: r.fp).Nodup) (hlo : ∀ b, b ∈ r.fp → b ∈ r0.fp ∨ (w.heap.size ≤ b ∧ b < w'.heap.size)) : WS ms w0 bs (loc.set i ⟨ty, cs'⟩) (r :: R) w' := by
  have hd := h.drop1
  have hl := h.len
  have hi : i < loc.length := (List.getElem?_eq_some_iff.1 hb).1
  have hib : i < bs.length := by omega
  have hg : bs.getD i 0 = bs[i] := by simp [hib]
  have hmi := h.mem_bs hb
  have h1 := h.nd
  rw [List.flatMap_cons] at h1
  have h2 := List.nodup_append.1 h1
  have h3 := List.nodup_append.1 h2.2.1
  have hmr : ∀ b, b ∈ r0.fp → b ∈ bs ++ (r0 :: R).flatMap Res.fp := fun b hb => by
    rw [List.flatMap_cons]; exact List.mem_append_right _ (List.mem_append_left _ hb)
  have hsame : ∀ x, x < w.heap.size → x ≠ bs.getD i 0 → x ∉ r0.fp → w'.heap[x]? = w.heap[x]? := fun x hx hx2 hx3 => k.block x hx (by rw [List.mem_cons]; rintro (h | h); exact hx2 h; exact hx3 h)
  have hd' : WS ms w0 bs (loc.set i ⟨ty, cs'⟩) R w' := by
    refine ⟨h.kp.step k fun x hx => ?_, by simp [hl], fun j c hc hne => ?_, fun q hq => ?_, hd.nd, fun b hb => ⟨(hd.lo b hb).1, Nat.lt_of_lt_of_le (hd.lo b hb).2 k.size⟩⟩
    · rcases List.mem_cons.1 hx with rfl | hx
      · exact (h.lo _ (List.mem_append_left _ hmi)).1.symm
      · exact (h.lo _ (hmr x hx)).1.symm
    · by_cases hij : i = j
      · subst hij
        rw [List.getElem?_set_self hi] at hc
        injection hc with hc
        subst hc
        exact hw
      · rw [List.getElem?_set_ne hij] at hc
        have hj : j < loc.length := (List.getElem?_eq_some_iff.1 hc).1
        have hjb : j < bs.length := by omega
        have hgj : bs.getD j 0 = bs[j] := by simp [hjb]
        rw [hsame _ (hd.lo _ (List.mem_append_left _ (h.mem_bs hc))).2 (by
          rw [hg, hgj]
          intro he
          exact hij ((List.getElem?_inj hib h2.1).1 (by rw [List.getElem?_eq_getElem hib, List.getElem?_eq_getElem hjb, he]))) fun hm => h2.2.2 _ (h.mem_bs hc) _ (List.mem_append_left _ hm) rfl]
        exact hd.loc j c hc hne
    · refine q.st (fun x hx => ?_) (hd.res q hq)
      have hx' : x ∈ R.flatMap Res.fp := List.mem_flatMap.2 ⟨q, hq, hx⟩
      refine hsame x (hd.lo x (List.mem_append_right _ hx')).2 ?_ fun hm => h3.2.2 _ hm _ hx' rfl
      rintro rfl
      exact h2.2.2 _ hmi _ (List.mem_append_right _ hx') rfl
  refine hd'.new r hr (List.nodup_cons.1 hn).2 fun b hb' => ?_
  rcases hlo b hb' with hm | ⟨h4, h5⟩
  · refine ⟨(h.lo b (hmr b hm)).1, Nat.lt_of_lt_of_le (h.lt (hmr b hm)) k.size, fun hq => ?_⟩
    rcases List.mem_append.1 hq with hq | hq
    · exact h2.2.2 b hq b (List.mem_append_left _ hm) rfl
    · exact h3.2.2 b hm b hq rfl
  · refine ⟨.inl (Nat.le_trans h.kp.size h4), h5, fun hm => ?_⟩
    have := hd.lt hm
    omega
def townQ (K : TK) (f : List Nat) (t : CTown) : Res := allR [rowA K.r t.r.A t.r.c t.r.xs, rowA K.c t.c.A t.c.c t.c.xs, rowA K.m t.mails.A t.mails.c t.mails.xs, rowA K.k t.com.A t.com.c t.com.xs, townS f t.r.xs t.c.xs t.mails.xs t.com.xs]
theorem townR_p {K : TK} {b : Nat} {f : List Nat} {t : CTown} {w : World} : (townR K b f t).p w ↔ (blkR b K.ty t.vals).p w ∧ (townQ K f t).p w := by
  constructor
  · exact fun h => ⟨h _ (.head _), fun q hq => h q (.tail _ hq)⟩
  · rintro ⟨h1, h2⟩ q hq
    rcases List.mem_cons.1 hq with rfl | hq
    · exact h1
    · exact h2 q hq
theorem townR_fp (K : TK) (b : Nat) (f : List Nat) (t : CTown) : (townR K b f t).fp = b :: (townQ K f t).fp := rfl
section
variable {C : Cx} {Q : Exit → Act → World → Prop} {R0 R : List Res} {m : Mch}
theorem Mtb {σ : Type} {fid : Nat} {vs : List Nat → List Value} {v : σ → Value} {F : σ → Prop} {K : TK} {f : List Nat} {t : CTown} {g : σ → List Nat × CTown} (i : Nat) (J : ∀ y, F y → JM C Q R0 (townQ K (g y).1 (g y).2 :: R) (nx C (advB m (.v (v y)) i K.ty (g y).2.vals))) (hcall : ∀ args w, (callFunc fid args).run C.P w = .ok (.enter fid args) w) (hc : ∀ bs w, Ow (townR K (bs.getD i 0) f t) w → Calls C.P fid (vs bs).toArray w fun e w' => ∃ y, e = .returned (v y) ∧ F y ∧ Turned (townR K (bs.getD i 0) f t) w w' (townR K (bs.getD i 0) (g y).1 (g y).2)) (hR : R0 = [] := by rfl) (hv : ∀ bs, vw C.n (vCall bs) m = some (fid, vs bs) := by intro bs; kernel_rfl) (hb : m.s.loc[i]? = some ⟨K.ty, t.vals.map .v⟩ := by kernel_rfl) (hL : ∀ y, locB m (setB m i K.ty (g y).2.vals) = locS m := by intro y; kernel_rfl) : JM C Q R0 (townQ K f t :: R) m := by
  subst hR
  refine m_call (σ := { y : σ // F y }) (fun y => .v (v y.1)) (fun y => setB m i K.ty (g y.1).2.vals) (fun y => townQ K (g y.1).1 (g y.1).2 :: R) hcall (fun bs w hS => ?_) (fun y => J y.1 y.2) (fun y => hL y.1) (fun _ => List.nil_sublist _) hv
  have hB := blk_in hS hb (by rfl)
  have hh := hS.head1
  have hmi := hS.mem_bs hb
  have hO : Ow (townR K (bs.getD i 0) f t) w := by
    refine ⟨townR_p.2 ⟨hB, hh.1⟩, ?_, fun b hb => ?_⟩
    · rw [townR_fp]
      refine List.nodup_cons.2 ⟨fun hm => ?_, hh.2.1⟩
      exact (List.nodup_append.1 hS.nd).2.2 _ hmi _ (by rw [List.flatMap_cons]; exact List.mem_append_left _ hm) rfl
    · rw [townR_fp] at hb
      rcases List.mem_cons.1 hb with rfl | hb
      · exact (hS.lo _ (List.mem_append_left _ hmi)).2
      · exact hh.2.2 b hb
  refine (hc bs w hO).mono fun _ w' ⟨y, h1, h2, h3, h4, h5, h6⟩ => ⟨⟨y, h2⟩, h1, ?_⟩
  refine hS.turnB i hb h3 (blk_out (townR_p.1 h4).1 bs) (townR_p.1 h4).2 h5 fun b hb => ?_
  rcases h6 b (List.mem_cons_of_mem _ hb) with h7 | h7
  · rcases List.mem_cons.1 h7 with rfl | h7
    · exact absurd hb (List.nodup_cons.1 h5).1
    · exact .inl h7
  · exact .inr h7
end
section
variable {t : CTown}
theorem town_facts (h : townOk t.abs) : t.r.n = 3 ∧ 0 ≤ t.lead ∧ t.lead ≤ 2 ∧ t.com.n ≤ 1073741824 ∧ t.mails.n ≤ 60 ∧ t.c.n ≤ 9 := by
  obtain ⟨e1, e2, _, _⟩ := town_n t
  exact ⟨e1 ▸ h.r3, h.l0, h.l2, h.cl, h.ml, e2 ▸ h.cc⟩
theorem rep_facts (h : townOk t.abs) {i : Nat} (hi : i < 3) : 0 ≤ (t.r.at i).log.base ∧ (t.r.at i).log.base ≤ 1073741424 ∧ (t.r.at i).log.entries.n ≤ 400 ∧ (t.r.at i).log.base ≤ (t.com.n : Int) ∧ 0 ≤ (t.r.at i).state.index ∧ (t.r.at i).state.index ≤ (t.com.n : Int) := by
  obtain ⟨h1, h2, h3, h4, _⟩ := h.rep (k := (i : Int)) (by omega) (by omega)
  rw [rep_abs t rfl] at h1 h2 h3 h4
  exact ⟨h1.1, h1.2.1, h1.2.2.1, h2, h3, h4⟩
theorem rep_small (h : townOk t.abs) {i : Nat} (hi : i < 3) : lens (t.r.at i).state.abs := by
  obtain ⟨_, _, _, _, h5, _⟩ := h.rep (k := (i : Int)) (by omega) (by omega)
  rw [rep_abs t rfl] at h5
  exact h5
theorem top_at (h : townOk t.abs) {d : Nat} (hd : t.lead = (d : Int)) : t.abs.top = (t.r.at d).log.abs := by
  show (t.abs.rep t.lead).log = _
  rw [rep_abs t hd]
  rfl
theorem right_com {i : Nat} {z : Int} (hz : z = (i : Int)) (hi : i < t.com.n) : t.abs.right z = some (t.com.at i) := by
  subst hz
  unfold DTown.right
  rw [if_pos (show (i : Int) < (t.abs.com.length : Int) from Int.ofNat_lt.2 hi), Int.toNat_natCast]
  rfl
theorem right_top (h : townOk t.abs) {d i : Nat} (hd : t.lead = (d : Int)) {z : Int} (hz : (t.com.n : Int) ≤ z) (h1 : z = (t.r.at d).log.base + (i : Int)) (h2 : i < (t.r.at d).log.entries.n) : t.abs.right z = some ((t.r.at d).log.entries.at i) := by
  unfold DTown.right
  rw [top_at h hd, if_neg (show ¬ z < (t.abs.com.length : Int) by show ¬ z < (t.com.n : Int); omega), if_pos ⟨by show (t.r.at d).log.base ≤ z; omega, by show z < (t.r.at d).log.base + ((t.r.at d).log.entries.n : Int); omega⟩, show (z - (t.r.at d).log.abs.base).toNat = i by show (z - (t.r.at d).log.base).toNat = i; omega]
  rfl
theorem right_none (h : townOk t.abs) {d : Nat} (hd : t.lead = (d : Int)) {z : Int} (hz : (t.com.n : Int) ≤ z) (h2 : z < (t.r.at d).log.base ∨ (t.r.at d).log.base + ((t.r.at d).log.entries.n : Int) ≤ z) : t.abs.right z = none := by
  unfold DTown.right
  rw [top_at h hd, if_neg (show ¬ z < (t.abs.com.length : Int) by show ¬ z < (t.com.n : Int); omega), if_neg]
  rintro ⟨h3, h4⟩
  have h3' : (t.r.at d).log.base ≤ z := h3
  have h4' : z < (t.r.at d).log.base + ((t.r.at d).log.entries.n : Int) := h4
  omega
def agrI (t : CTown) (i : Nat) (j : Nat) : Prop := j ≤ (t.r.at i).log.entries.n ∧ allTo (t.abs.okAt (t.r.at i).log.abs) j = true
theorem agrI_0 (t : CTown) (i : Nat) : agrI t i 0 := ⟨Nat.zero_le _, rfl⟩
theorem agrI_all {i j : Nat} {k : Int} (hk : k = (i : Int)) (h : agrI t i j) (hj : (t.r.at i).log.entries.n ≤ j) : t.abs.agr k = (t.r.at i).log.base + (j : Int) := by
  unfold DTown.agr
  rw [rep_abs t hk]
  show (t.r.at i).log.base + ((firstNot (t.abs.okAt (t.r.at i).log.abs) (t.r.at i).log.entries.n : Nat) : Int) = _
  rw [firstNot_is (j := j) h.2 h.1 (.inl (Nat.le_antisymm h.1 hj))]
theorem agrI_bad {i j : Nat} {k : Int} (hk : k = (i : Int)) (h : agrI t i j) (hb : t.abs.okAt (t.r.at i).log.abs j = false) : t.abs.agr k = (t.r.at i).log.base + (j : Int) := by
  unfold DTown.agr
  rw [rep_abs t hk]
  show (t.r.at i).log.base + ((firstNot (t.abs.okAt (t.r.at i).log.abs) (t.r.at i).log.entries.n : Nat) : Int) = _
  rw [firstNot_is (j := j) h.2 h.1 (.inr hb)]
theorem agrI_next {i j : Nat} (h : agrI t i j) (hj : j < (t.r.at i).log.entries.n) (hb : t.abs.right ((t.r.at i).log.base + (j : Int)) = some ((t.r.at i).log.entries.at j)) : agrI t i (j + 1) :=
  ⟨hj, by simp only [allTo, h.2, Bool.true_and]; exact decide_eq_true hb⟩
theorem okAt_no {i j : Nat} {o : Option ByteArray} (hb : t.abs.right ((t.r.at i).log.base + (j : Int)) = o) (hn : ¬ o = some ((t.r.at i).log.entries.at j)) : t.abs.okAt (t.r.at i).log.abs j = false :=
  decide_eq_false fun h => hn (hb.symm.trans h)
theorem agr_bd (h : townOk t.abs) {k : Int} (h0 : 0 ≤ k) (h2 : k ≤ 2) : 0 ≤ t.abs.agr k ∧ t.abs.agr k ≤ 1073741824 := by
  obtain ⟨h1, _⟩ := h.rep h0 h2
  have h3 := firstNot_le (t.abs.okAt (t.abs.rep k).log) (t.abs.rep k).log.entries.length
  obtain ⟨h4, h5, h6, _⟩ := h1
  unfold DTown.agr
  omega
def mostTo (t : DTown) : Nat → Int
  | 0 => 0
  | n + 1 => t.most (n : Int) (mostTo t n)
theorem mostTo_in {t : DTown} {n : Nat} (h : ¬ (n : Int) = t.lead) : mostTo t (n + 1) = if t.agr (n : Int) > mostTo t n then t.agr (n : Int) else mostTo t n := by
  show t.most _ _ = _
  unfold DTown.most
  rw [if_neg h]
theorem mostTo_out {t : DTown} {n : Nat} (h : (n : Int) = t.lead) : mostTo t (n + 1) = mostTo t n := by
  show t.most _ _ = _
  unfold DTown.most
  rw [if_pos h]
theorem mostTo_top (h : townOk t.abs) : mostTo t.abs 3 ≤ (t.r.at t.lead.toNat).log.base + ((t.r.at t.lead.toNat).log.entries.n : Int) ∨ mostTo t.abs 3 ≤ (t.com.n : Int) := by
  have h1 := most_top h
  rw [top_at h (d := t.lead.toNat) (Int.toNat_of_nonneg h.l0).symm] at h1
  exact h1
def growI (t : CTown) (U : Int) (m : Nat) (L : List ByteArray) : Prop :=
  L = t.com.xs ++ ((t.r.at t.lead.toNat).log.entries.xs.drop ((t.com.n : Int) - (t.r.at t.lead.toNat).log.base).toNat).take m ∧ L.length = t.com.n + m ∧ (m = 0 ∨ ((t.com.n + m : Nat) : Int) ≤ U)
theorem growI_0 (t : CTown) (U : Int) : growI t U 0 t.com.xs := ⟨by simp, rfl, .inl rfl⟩
theorem growI_next {U : Int} {m j : Nat} {L : List ByteArray} (h : growI t U m L) (hl : ((L.length : Nat) : Int) < U) (hb : (t.r.at t.lead.toNat).log.base ≤ (t.com.n : Int)) (hj : (j : Int) = (L.length : Int) - (t.r.at t.lead.toNat).log.base) (hn : j < (t.r.at t.lead.toNat).log.entries.n) : growI t U (m + 1) (L ++ [(t.r.at t.lead.toNat).log.entries.at j]) := by
  obtain ⟨h1, h2, h3⟩ := h
  refine ⟨?_, by rw [List.length_append, h2]; rfl, .inr (by omega)⟩
  have e : j = ((t.com.n : Int) - (t.r.at t.lead.toNat).log.base).toNat + m := by omega
  rw [← take_next (E := (t.r.at t.lead.toNat).log.entries) (by omega) e, ← List.append_assoc, ← h1]
theorem growI_end {U : Int} {m c : Nat} {A : Option Addr} {L : List ByteArray} (hk : townOk t.abs) (h : growI t U m L) (hl : ¬ ((L.length : Nat) : Int) < U) : (⟨t.r, t.c, t.mails, ⟨A, c, L⟩, t.lead⟩ : CTown).abs = t.abs.grow U := by
  obtain ⟨h1, h2, h3⟩ := h
  unfold DTown.grow
  rw [top_at hk (d := t.lead.toNat) (Int.toNat_of_nonneg hk.l0).symm]
  show (⟨_, _, _, L, _⟩ : DTown) = ⟨_, _, _, t.com.xs ++ ((t.r.at t.lead.toNat).log.entries.xs.drop ((t.com.n : Int) - (t.r.at t.lead.toNat).log.base).toNat).take (U - (t.com.n : Int)).toNat, _⟩
  rw [show (U - (t.com.n : Int)).toNat = m by omega, ← h1]
  rfl
theorem grow_commit (h : townOk t.abs) : t.abs.grow (mostTo t.abs 3) = t.abs.commit := (commit_most h).symm
theorem com_small {f : List Nat} {t' : CTown} {d : DTown} (h : t'.abs = d) (hd : townOk d) {r : List CReplica} {c : List CCustomer} {m : List DMail} {k : List ByteArray} (e1 : t'.r.xs = r) (e2 : t'.c.xs = c) (e3 : t'.mails.xs = m) : ∀ w, (townS f r c m k).p w → (townS f t'.r.xs t'.c.xs t'.mails.xs t'.com.xs).p w := fun w hp => by
  subst e1 e2 e3
  refine ⟨hp.1, hp.2.1, hp.2.2.1, fun x hx => ?_⟩
  have h1 := hd.cs x (by rw [← h]; exact hx)
  show x.size ≤ 9223372036854775807
  omega
theorem ent_ne (h : townOk t.abs) {i j : Nat} (hi : i < 3) (hj : j < (t.r.at i).log.entries.n) : ¬ (t.r.at i).log.entries.at j = emp := by
  obtain ⟨h1, _⟩ := h.rep (k := (i : Int)) (by omega) (by omega)
  rw [rep_abs t rfl] at h1
  exact (h1.2.2.2 _ (mem_of_getD (L := (t.r.at i).log.entries.xs) (i := j) hj)).2
end
end Go.Proofs.YtbjakddkfgjkaaaGreatDoor.Fw
namespace Go.Proofs.YtbjakddkfgjkaaaGreatDoor.Fw
open Go.RowKit
theorem town_f {K : TK} {b : Nat} {f : List Nat} {t : CTown} {x : Nat} (h : x ∈ f) : x ∈ (townR K b f t).fp := by
  show x ∈ (townL K b f t).flatMap Res.fp
  exact List.mem_flatMap.2 ⟨townS f t.r.xs t.c.xs t.mails.xs t.com.xs, (.tail _ (.tail _ (.tail _ (.tail _ (.tail _ (.head _)))))), h⟩
def townX (K : TK) (b : Nat) (f : List Nat) (t : CTown) (q : Res) : Res :=
  ⟨(townR K b f t).fp, fun w => (townR K b f t).p w ∧ ((∀ x, x ∈ q.fp → x ∈ f) → q.p w), fun h p => ⟨(townR K b f t).st h p.1, fun hs => q.st (fun x hx => h x (town_f (hs x hx))) (p.2 hs)⟩⟩
def townSX (f : List Nat) (r : List CReplica) (c : List CCustomer) (m : List DMail) (k : List ByteArray) (q : Res) : Res :=
  ⟨f, fun w => (townS f r c m k).p w ∧ ((∀ x, x ∈ q.fp → x ∈ f) → q.p w), fun h p => ⟨(townS f r c m k).st h p.1, fun hs => q.st (fun x hx => h x (hs x hx)) (p.2 hs)⟩⟩
theorem Ow.x {K : TK} {b : Nat} {f : List Nat} {t : CTown} {q : Res} {w : World} (h : Ow (townX K b f t q) w) : Ow (townR K b f t) w := ⟨h.1.1, h.2.1, h.2.2⟩
theorem inX {f : List Nat} {q : Res} : ∀ x, x ∈ q.fp → x ∈ f ++ q.fp := fun _ h => List.mem_append_right _ h
section
variable {C : Cx} {Q : Exit → Act → World → Prop} {R0 R : List Res} {m : Mch} {K : TK} {b : Nat} {f : List Nat} {t : CTown} {q : Res}
theorem m_townX (h : JM C Q R0 (blkR b K.ty t.vals :: rowA K.r t.r.A t.r.c t.r.xs :: rowA K.c t.c.A t.c.c t.c.xs :: rowA K.m t.mails.A t.mails.c t.mails.xs :: rowA K.k t.com.A t.com.c t.com.xs :: townSX f t.r.xs t.c.xs t.mails.xs t.com.xs q :: R) m) : JM C Q R0 (townX K b f t q :: R) m :=
  m_res _ (fun bs w hS => ⟨hS.kp, hS.len, hS.loc, fun r hr => by
    have h0 := hS.res _ (.head _)
    simp only [List.mem_cons] at hr
    rcases hr with rfl | rfl | rfl | rfl | rfl | rfl | hr
    · exact h0.1 _ (.head _)
    · exact h0.1 _ (.tail _ (.head _))
    · exact h0.1 _ (.tail _ (.tail _ (.head _)))
    · exact h0.1 _ (.tail _ (.tail _ (.tail _ (.head _))))
    · exact h0.1 _ (.tail _ (.tail _ (.tail _ (.tail _ (.head _)))))
    · exact ⟨h0.1 _ (.tail _ (.tail _ (.tail _ (.tail _ (.tail _ (.head _)))))), h0.2⟩
    · exact hS.res _ (.tail _ hr),
    by have h1 := hS.nd; simpa [townX, townSX, townS, townR, townL, allR] using h1, by have h1 := hS.lo; simpa [townX, townSX, townS, townR, townL, allR] using h1⟩) h
theorem m_townedX {vs : List Value} {r : List CReplica} {c : List CCustomer} {ml : List DMail} {k : List ByteArray} (t' : CTown) (hp : ∀ w, (townS f r c ml k).p w → (townS f t'.r.xs t'.c.xs t'.mails.xs t'.com.xs).p w) (h : JM C Q R0 (townX K b f t' q :: R) m) (hv : vs = t'.vals := by rfl) :
    JM C Q R0 (blkR b K.ty vs :: rowA K.r t'.r.A t'.r.c t'.r.xs :: rowA K.c t'.c.A t'.c.c t'.c.xs :: rowA K.m t'.mails.A t'.mails.c t'.mails.xs :: rowA K.k t'.com.A t'.com.c t'.com.xs :: townSX f r c ml k q :: R) m :=
  m_res _ (fun bs w hS => by
    subst hv
    exact ⟨hS.kp, hS.len, hS.loc, fun z hz => by
      rw [List.mem_cons] at hz
      rcases hz with rfl | hz
      · have h6 := hS.res _ (.tail _ (.tail _ (.tail _ (.tail _ (.tail _ (.head _))))))
        refine ⟨?_, h6.2⟩
        intro z hz
        simp only [townL, List.mem_cons, List.mem_nil_iff, or_false] at hz
        rcases hz with rfl | rfl | rfl | rfl | rfl | rfl
        · exact hS.res _ (.head _)
        · exact hS.res _ (.tail _ (.head _))
        · exact hS.res _ (.tail _ (.tail _ (.head _)))
        · exact hS.res _ (.tail _ (.tail _ (.tail _ (.head _))))
        · exact hS.res _ (.tail _ (.tail _ (.tail _ (.tail _ (.head _)))))
        · exact hp _ h6.1
      · exact hS.res _ (.tail _ (.tail _ (.tail _ (.tail _ (.tail _ (.tail _ hz)))))),
      by have h1 := hS.nd; simpa [townX, townSX, townS, townR, townL, allR] using h1, by have h1 := hS.lo; simpa [townX, townSX, townS, townR, townL, allR] using h1⟩) h
theorem m_unX (h : JM C Q R0 (townR K b f t :: R) m) : JM C Q R0 (townX K b f t q :: R) m := m_weak (townR K b f t) (List.Sublist.refl _) (fun _ p => p.1) h
theorem MtrX {y : CReplica} (i : Nat) (J : JM C Q [] (townX K b (f ++ q.fp) (t.setr i y) q :: R) (nx C (adv0 m (.v undef)))) (hq : ∀ w, q.p w → Rds.sub (· ∈ q.fp) w y) (hi : i < t.r.n := by omega) (hv : stoAd C m = some (t.r.ad.add (i * Lay.size CReplica)) := by kernel_rfl) (hcell : stoVs C m = Lay.cells y := by kernel_rfl) (hL : locB m m.s.loc = locS m := by kernel_rfl) : JM C Q [] (q :: townR K b f t :: R) m := by
  refine m_f1 (m_town (m_f6 (m_f2 (Mse i y ?_ hi (by intros; exact List.nil_sublist _) hv hcell hL))))
  intro L2 hL2 _
  subst hL2
  refine m_f1 (m_f6 (m_join (townSX (f ++ q.fp) (t.r.xs.set i y) t.c.xs t.mails.xs t.com.xs q) (List.Perm.refl _) (fun w h1 h2 => ⟨?_, fun _ => h2⟩) (m_f5 (m_f5 (m_f5 (m_f4 (m_f5 (m_townedX (t.setr i y) (fun _ h => h) J ?_))))))))
  · have w1 : ∀ {α : Type} [Rds α] {x : α}, Rds.sub (· ∈ f) w x → Rds.sub (· ∈ f ++ q.fp) w x := fun h => Rds.wide (fun b hb => List.mem_append_left _ hb) h
    refine ⟨fun x hx => ?_, fun x hx => w1 (h1.2.1 x hx), fun x hx => w1 (h1.2.2.1 x hx), fun x hx => w1 (h1.2.2.2 x hx)⟩
    rcases mem_set hx with rfl | hx
    · exact Rds.wide (fun b hb => List.mem_append_right _ hb) (hq w h2)
    · exact w1 (h1.1 x hx)
  · simp [CTown.setr, Sl.n]
def postR (K : TK) (b : Nat) (t : CTown) : Res := allR [blkR b K.ty t.vals, rowA K.m t.mails.A t.mails.c t.mails.xs]
def CTown.setm (t : CTown) (s : Sl DMail) : CTown := { t with mails := s }
theorem m_post {vs : List Value} (t : CTown) (h : JM C Q R0 (postR K b t :: R) m) (hv : vs = t.vals := by rfl) : JM C Q R0 (blkR b K.ty vs :: rowA K.m t.mails.A t.mails.c t.mails.xs :: R) m := by
  subst hv
  exact m_join (postR K b t) (by simp [postR, allR]) (fun w h1 h2 z hz => by
    simp only [List.mem_cons, List.mem_nil_iff, or_false] at hz
    rcases hz with rfl | rfl
    · exact h1
    · exact h2) h
end
theorem rd_one {α : Type} [Lay α] {w : World} {b ty : Nat} (x : α) (h : w.heap[b]? = some (.cells (Lay.cells x).toArray ty (0, 0))) (hx : Rds.sub anyB w x) : Sl.rd anyB w (⟨some ⟨b, 0, none⟩, 1, [x]⟩ : Sl α) := by
  refine ⟨Nat.le_refl _, (show (1 : Nat) ≤ maxLen by unfold maxLen; omega), fun i z hz => ?_⟩
  cases i with
  | zero =>
    simp only [List.getElem?_cons_zero, Option.some.injEq] at hz
    subst hz
    refine ⟨⟨⟨b, 0, none⟩, rfl, trivial, ?_⟩, hx⟩
    rw [Nat.zero_mul]
    have h2 : (blkR b ty (Lay.cells x)).p w := h
    exact (blkR_at h2).part 0 0 |> fun _ => by
      have := blkR_at h2
      simpa [Addr.add] using this
  | succ i => simp at hz
theorem town_small {f : List Nat} {t' : CTown} {d : DTown} (h : t'.abs = d) (hd : townOk d) {r : List CReplica} {c : List CCustomer} {m : List DMail} {k : List ByteArray} (e1 : t'.r.xs = r) (e2 : t'.c.xs = c) : ∀ w, (townS f r c m k).p w → (townS f t'.r.xs t'.c.xs t'.mails.xs t'.com.xs).p w := fun w hp => by
  subst e1 e2
  refine ⟨hp.1, hp.2.1, fun x hx => ?_, fun x hx => ?_⟩
  · have h1 := hd.mt x (by rw [← h]; exact hx)
    exact h1
  · have h1 := hd.cs x (by rw [← h]; exact hx)
    show x.size ≤ 9223372036854775807
    omega
theorem small_lens {s : CState} (h : lens s.abs) : Rds.small s := by
  obtain ⟨h1, h2, h3, h4, h5⟩ := h
  have e1 : s.abs.locks.length = s.locks.xs.length := List.length_map ..
  have e4 : s.abs.sessions.length = s.sessions.xs.length := List.length_map ..
  have h3' : s.pairs.xs.length ≤ 99 := h3
  refine ⟨⟨by show s.locks.xs.length ≤ _; omega, fun i hi => ⟨?_, fun _ _ => trivial⟩⟩, ⟨by show s.pairs.xs.length ≤ _; omega, fun _ _ => trivial⟩, ⟨by show s.sessions.xs.length ≤ _; omega, fun i hi => ⟨?_, fun _ _ => trivial⟩⟩⟩
  · have h9 : (s.locks.at i).line.xs.length ≤ 99 := h2 (s.locks.at i).abs (List.mem_map.2 ⟨_, mem_of_getD hi, rfl⟩)
    show (s.locks.at i).line.xs.length ≤ _
    omega
  · have h9 : (s.sessions.at i).replies.xs.length ≤ 99 := h5 (s.sessions.at i).abs (List.mem_map.2 ⟨_, mem_of_getD hi, rfl⟩)
    show (s.sessions.at i).replies.xs.length ≤ _
    omega
theorem rep_smallR {t : CTown} (h : townOk t.abs) {i : Nat} (hi : i < 3) : Rds.small (t.r.at i) := by
  have h1 := rep_small h hi
  have h2 := (rep_facts h hi).2.2.1
  exact ⟨⟨by show (t.r.at i).log.entries.n ≤ _; omega, fun _ _ => trivial⟩, small_lens h1⟩
theorem WS.resAt {m : List Nat} {w0 : World} {bs : List Nat} {loc : List Blk} {r : Res} {R : List Res} {w w' : World} (h : WS m w0 bs loc (r :: R) w) (hk : Kp r.fp w w') : ∀ r2, r2 ∈ R → r2.p w' := fun _ h2 => h.resIn hk h2
theorem townOk.left {t : DTown} (h : townOk t) (k : Int) : townOk (t.left k) := h.setm (by have := h.ml; simp only [List.length_append, List.length_take, List.length_drop]; omega) fun m hm => (List.mem_append.1 hm).elim (fun q => h.mt m (List.mem_of_mem_take q)) fun q => h.mt m (List.mem_of_mem_drop q)
section
variable {D : DTown} {T : CTown}
end
theorem post_take {l : Sl DMail} {k : Nat} (hk : k < l.n) (M : List DMail) : (l.xs.take (k + 1)).foldl DTown.post1 M = DTown.post1 ((l.xs.take k).foldl DTown.post1 M) (l.at k) := by
  have h : l.xs.take (k + 1) = l.xs.take k ++ [l.at k] := by
    rw [List.take_add_one, List.getElem?_eq_getElem hk]
    unfold Sl.at
    rw [List.getD_eq_getElem?_getD, List.getElem?_eq_getElem hk]
    rfl
  rw [h, List.foldl_append]
  rfl
theorem post_in {M L : List DMail} {l : Sl DMail} {k : Nat} (hk : k < l.n) (h : L = (l.xs.take k).foldl DTown.post1 M) (hl : L.length < 60) : L ++ [l.at k] = (l.xs.take (k + 1)).foldl DTown.post1 M := by
  rw [post_take hk, ← h]
  unfold DTown.post1
  rw [if_pos hl]
theorem post_out {M L : List DMail} {l : Sl DMail} {k : Nat} (hk : k < l.n) (h : L = (l.xs.take k).foldl DTown.post1 M) (hl : ¬ L.length < 60) : L = (l.xs.take (k + 1)).foldl DTown.post1 M := by
  rw [post_take hk, ← h]
  unfold DTown.post1
  rw [if_neg hl]
theorem post_le : ∀ (l : List DMail) {M : List DMail}, M.length ≤ 60 → (l.foldl DTown.post1 M).length ≤ 60
  | [], _, h => h
  | x :: l, M, h => by
    rw [List.foldl_cons]
    refine post_le l ?_
    unfold DTown.post1
    split
    · rw [List.length_append, List.length_singleton]; omega
    · exact h
theorem inB_t {a l h : Int} (q : inB a l h = true) : l ≤ a ∧ a ≤ h := by simpa [inB] using q
theorem setr_mails (t : CTown) {i : Nat} {k : Int} (hk : k = (i : Int)) (y : CReplica) (s : Sl DMail) {M : List DMail} (hM : s.xs = M) : (⟨⟨t.r.A, t.r.c, t.r.xs.set i y⟩, t.c, s, t.com, t.lead⟩ : CTown).abs = { t.abs.set k y.abs with mails := M } := by
  subst hM
  exact congrArg (fun D : DTown => { D with mails := s.xs }) (setr_abs t hk y)
section
variable {t : CTown}
theorem orset {A B : DTown} {v : Int} : (if v = 0 then (A, (0 : Int)) else (B, v)) = (if v = 0 then A else B, v) := by
  split
  · rename_i h; rw [h]
  · rfl
theorem added_go (hk : townOk t.abs) {d : Nat} (hd : t.lead = (d : Int)) {n : Int} (hn : n = (t.r.at d).log.base + ((t.r.at d).log.entries.n : Int)) (s : ByteArray) {e : Int} (he : e = 0) {L : List ByteArray} (hL : L = [s]) : t.abs.added (s, e) =
    (if (mRHear (t.r.at d).abs n L).2 = 0 then t.abs.set t.lead (mRHear (t.r.at d).abs n L).1 else t.abs, (mRHear (t.r.at d).abs n L).2) := by
  subst he hL
  unfold DTown.added
  rw [if_neg (by simp), show t.abs.rep t.abs.lead = (t.r.at d).abs from rep_abs t hd, top_at hk hd, show mLast (t.r.at d).log.abs = n from hn.symm, orset]
  rfl
theorem added_no {s : ByteArray} {e : Int} (h : ¬ e = 0) : t.abs.added (s, e) = (t.abs, e) := by
  unfold DTown.added
  rw [if_pos h]
theorem told_go (hk : townOk t.abs) {i d : Nat} {r many : Int} (hr : r = (i : Int)) (hd : t.lead = (d : Int)) : t.abs.told r many =
    if t.abs.agr r < (t.r.at d).log.base then mRInstall (t.r.at i).abs (t.r.at d).snap else if ¬ (mBehind (t.r.at d).log.abs (t.abs.agr r) many).2 = 0 then (zRepl, (mBehind (t.r.at d).log.abs (t.abs.agr r) many).2) else mRHear (t.r.at i).abs (t.abs.agr r) (mBehind (t.r.at d).log.abs (t.abs.agr r) many).1 := by
  unfold DTown.told
  rw [show t.abs.rep t.abs.lead = (t.r.at d).abs from rep_abs t hd, top_at hk hd, rep_abs t hr]
  rfl
theorem ran_go {i : Nat} {r many u : Int} (hr : r = (i : Int)) (hu : t.abs.upto r many = u) : t.abs.ran r many = mRApply (t.r.at i).abs u := by
  unfold DTown.ran
  rw [rep_abs t hr, hu]
theorem upto_is {i : Nat} {r many u : Int} (hr : r = (i : Int)) (hu : u = min ((t.r.at i).state.index + min many 400) (min (t.com.n : Int) (t.abs.agr r))) : t.abs.upto r many = u := by
  rw [hu]
  unfold DTown.upto
  rw [rep_abs t hr]
  rfl
theorem byOne_out {a : DAct} (h : a.c < 0 ∨ (t.c.n : Int) ≤ a.c) : t.abs.byOne a = (t.abs, 6) := by
  unfold DTown.byOne
  rw [if_pos (by rw [(town_n t).2.1]; exact h)]
theorem byOne_in {a : DAct} {i : Nat} (ha : a.c = (i : Int)) (hi : i < t.c.n) : t.abs.byOne a =
    if a.kind = 1 then t.abs.added (mHello (t.c.at i).abs) else if a.kind = 3 then t.abs.added (mReq (t.c.at i).abs a.k) else
    (if (mStart (t.c.at i).abs a.op).2 = 0 then { t.abs with c := t.abs.c.set a.c.toNat (mStart (t.c.at i).abs a.op).1 } else t.abs, (mStart (t.c.at i).abs a.op).2) := by
  unfold DTown.byOne
  rw [if_neg (by rw [(town_n t).2.1]; omega), cust_abs t ha, orset]
theorem atOne_out {a : DAct} (h : a.r < 0 ∨ 2 < a.r) : t.abs.atOne a = (t.abs, 6) := by
  unfold DTown.atOne
  rw [if_pos h]
theorem atOne_in {a : DAct} {i : Nat} (ha : a.r = (i : Int)) (hi : i ≤ 2) : t.abs.atOne a =
    if a.kind = 4 then t.abs.ship a.r a.k else if a.kind = 5 then t.abs.apply a.r a.k else
    if a.kind = 8 then (if t.abs.agr a.r < (t.com.n : Int) then (t.abs, 9) else (DTown.commit { t.abs with lead := a.r }, 0)) else
    if a.kind = 6 then t.abs.put a.r (mRCompact (t.r.at i).abs) else t.abs.put a.r (mRRestart (t.r.at i).abs) := by
  unfold DTown.atOne
  rw [if_neg (by omega), rep_abs t ha]
  rfl
theorem act_kind {D : DTown} {a : DAct} (h : a.kind < 1 ∨ 11 < a.kind) : D.act a = (D, 3) := by unfold DTown.act; rw [if_pos h]
theorem act_by {D : DTown} {a : DAct} (h : ¬ a.kind < 1) (h2 : a.kind ≤ 3) : D.act a = D.byOne a := by unfold DTown.act; rw [if_neg (by omega), if_pos h2]
theorem act_at {D : DTown} {a : DAct} (h : ¬ a.kind ≤ 3) (h2 : a.kind ≤ 8) : D.act a = D.atOne a := by unfold DTown.act; rw [if_neg (by omega), if_neg h, if_pos h2]
theorem act_mail {D : DTown} {a : DAct} (h : ¬ a.kind ≤ 8) (h2 : a.kind ≤ 11) : D.act a = D.mailOne a := by unfold DTown.act; rw [if_neg (by omega), if_neg (by omega), if_neg h]
theorem post_one {M : List DMail} (m : DMail) (h : M.length < 60) : [m].foldl DTown.post1 M = M ++ [m] := by
  show DTown.post1 M m = _
  unfold DTown.post1
  rw [if_pos h]
theorem left_abs (t : CTown) {i j : Nat} {k : Int} (hk : k = (i : Int)) (hj : j = i + 1) (A : Option Addr) (c : Nat) : (⟨t.r, t.c, ⟨A, c, t.mails.xs.take i ++ t.mails.xs.drop j⟩, t.com, t.lead⟩ : CTown).abs = t.abs.left k := by
  subst hk hj
  rfl
theorem mailOne_out {a : DAct} (h : a.k < 0 ∨ (t.mails.n : Int) ≤ a.k) : t.abs.mailOne a = (t.abs, 6) := by
  unfold DTown.mailOne
  rw [if_pos (show a.k < 0 ∨ (t.abs.mails.length : Int) ≤ a.k from h)]
theorem mailOne_in {a : DAct} {i : Nat} (ha : a.k = (i : Int)) (hi : i < t.mails.n) : t.abs.mailOne a =
    if a.kind = 11 then (if t.mails.n = 60 then (t.abs, 8) else ({ t.abs with mails := t.mails.xs ++ [t.mails.at i] }, 0)) else
    if a.kind = 10 then (t.abs.left a.k, 0) else (t.abs.left a.k).heard (t.mails.at i) := by
  unfold DTown.mailOne
  rw [if_neg (by show ¬ (a.k < 0 ∨ (t.mails.n : Int) ≤ a.k); omega), show t.abs.mail a.k = t.mails.at i by unfold DTown.mail; rw [ha]; rfl]
  rfl
theorem mailOne_copy {a : DAct} {i : Nat} (ha : a.k = (i : Int)) (hi : i < t.mails.n) (hk : a.kind = 11) (h : t.mails.n < 60) (s : Sl DMail) (hs : s.xs = t.mails.xs ++ [t.mails.at i]) : t.abs.mailOne a = ((⟨t.r, t.c, s, t.com, t.lead⟩ : CTown).abs, 0) := by
  rw [mailOne_in ha hi, if_pos hk, if_neg (by omega)]
  rw [← hs]
  rfl
theorem mailOne_left {a : DAct} {i : Nat} (ha : a.k = (i : Int)) (hi : i < t.mails.n) (hk : ¬ a.kind = 11) : t.abs.mailOne a = if a.kind = 10 then (t.abs.left a.k, 0) else (t.abs.left a.k).heard (t.mails.at i) := by
  rw [mailOne_in ha hi, if_neg hk]
theorem who_is (c : Sl CCustomer) (D : DTown) (hD : D.c = c.xs.map CCustomer.abs) (m : DMail) : D.who m = mIdx (fun z : CCustomer => decide (z.id = m.client)) c.xs := by
  unfold DTown.who
  rw [hD, ← mIdx_map]
  rfl
theorem put_go {r : Int} {x : DReplica × Int} : t.abs.put r x = (if x.2 = 0 then t.abs.set r x.1 else t.abs, x.2) := orset
theorem ship_out {r many : Int} (h : r = t.lead ∨ many < 0) : t.abs.ship r many = (t.abs, 2) := by
  unfold DTown.ship
  rw [if_pos (show r = t.abs.lead ∨ many < 0 from h)]
theorem ship_in {r many : Int} (h : ¬ (r = t.lead ∨ many < 0)) {x : DReplica × Int} (hx : t.abs.told r many = x) : t.abs.ship r many = (if x.2 = 0 then (t.abs.set r x.1).commit else t.abs, x.2) := by
  unfold DTown.ship
  rw [if_neg (show ¬ (r = t.abs.lead ∨ many < 0) from h), hx, orset]
theorem told_inst (hk : townOk t.abs) {i d : Nat} {r many : Int} (hr : r = (i : Int)) (hd : t.lead = (d : Int)) (h : t.abs.agr r < (t.r.at d).log.base) : t.abs.told r many = mRInstall (t.r.at i).abs (t.r.at d).snap := by
  rw [told_go hk hr hd, if_pos h]
theorem told_bad (hk : townOk t.abs) {i d : Nat} {r many : Int} (hr : r = (i : Int)) (hd : t.lead = (d : Int)) (h : ¬ t.abs.agr r < (t.r.at d).log.base) (h2 : ¬ (mBehind (t.r.at d).log.abs (t.abs.agr r) many).2 = 0) : t.abs.told r many = (zRepl, (mBehind (t.r.at d).log.abs (t.abs.agr r) many).2) := by
  rw [told_go hk hr hd, if_neg h, if_pos h2]
theorem told_hear (hk : townOk t.abs) {i d : Nat} {r many : Int} (hr : r = (i : Int)) (hd : t.lead = (d : Int)) (h : ¬ t.abs.agr r < (t.r.at d).log.base) (h2 : (mBehind (t.r.at d).log.abs (t.abs.agr r) many).2 = 0) {L : List ByteArray} (hL : L = (mBehind (t.r.at d).log.abs (t.abs.agr r) many).1) : t.abs.told r many = mRHear (t.r.at i).abs (t.abs.agr r) L := by
  rw [told_go hk hr hd, if_neg h, if_neg (fun q => q h2), hL]
theorem tapply_neg {r many : Int} (h : many < 0) : t.abs.apply r many = (t.abs, 2) := by
  unfold DTown.apply
  rw [if_pos h]
theorem tapply_bad {i : Nat} {r many u : Int} (h : ¬ many < 0) (hr : r = (i : Int)) (hu : t.abs.upto r many = u) (h2 : ¬ (mRApply (t.r.at i).abs u).2.2 = 0) : t.abs.apply r many = (t.abs, (mRApply (t.r.at i).abs u).2.2) := by
  unfold DTown.apply
  rw [if_neg h, ran_go hr hu, if_pos h2]
theorem tapply_go {i : Nat} {r many u : Int} (h : ¬ many < 0) (hr : r = (i : Int)) (hu : t.abs.upto r many = u) (h2 : (mRApply (t.r.at i).abs u).2.2 = 0) {y : CRan} (hy : y.abs = (⟨(mRApply (t.r.at i).abs u).1, (mRApply (t.r.at i).abs u).2.1⟩ : DRan)) :
    t.abs.apply r many = ({ t.abs.set r y.repl.abs with mails := if r = t.lead then y.out.xs.foldl DTown.post1 t.mails.xs else t.mails.xs }, 0) := by
  have e1 : y.repl.abs = (mRApply (t.r.at i).abs u).1 := congrArg DRan.repl hy
  have e2 : y.out.xs = (mRApply (t.r.at i).abs u).2.1 := congrArg DRan.out hy
  unfold DTown.apply
  rw [if_neg h, ran_go hr hu, if_neg (fun q => q h2), e1, e2]
  rfl
theorem heard_no (D : DTown) (m : DMail) (h : D.who m < 0) : D.heard m = (D, 6) := by
  unfold DTown.heard
  rw [if_pos h]
theorem heard_go (T : CTown) (m : DMail) {i : Nat} (h : T.abs.who m = (i : Int)) : T.abs.heard m = (if (mHear (T.c.at i).abs m).2 = 0 then { T.abs with c := T.abs.c.set i (mHear (T.c.at i).abs m).1 } else T.abs, (mHear (T.c.at i).abs m).2) := by
  unfold DTown.heard
  rw [if_neg (by omega), h, cust_abs T (i := i) rfl, orset]
  rfl
theorem mEnc_size (c : DCommand) : (mEnc c).1.size ≤ 100000 := by
  unfold mEnc
  split
  · show (if c.kind = 2 then _ else _ : ByteArray).size ≤ _
    split
    · have h1 := encT_size (encN (bstr [c.kind % 256, c.client % 256]) [c.session, c.seq, c.acked, c.op.kind, c.op.n]) [c.op.a, c.op.b]
      have h2 := encN_size (bstr [c.kind % 256, c.client % 256]) [c.session, c.seq, c.acked, c.op.kind, c.op.n]
      rw [bstr_size] at h2
      simp only [List.length_cons, List.length_nil] at h1 h2 ⊢
      omega
    · rw [bstr_size]; simp
  · show emp.size ≤ _
    rw [emp_size]; omega
theorem mHello_size (x : DCustomer) : (mHello x).1.size ≤ 9223372036854775807 := by
  unfold mHello
  split
  · exact Nat.le_trans (mEnc_size _) (by decide)
  · show emp.size ≤ _
    rw [emp_size]; omega
theorem mReq_size (x : DCustomer) (k : Int) : (mReq x k).1.size ≤ 9223372036854775807 := by
  unfold mReq
  split
  · split
    · exact Nat.le_trans (mEnc_size _) (by decide)
    · show emp.size ≤ _
      rw [emp_size]; omega
  · show emp.size ≤ _
    rw [emp_size]; omega
end
end Go.Proofs.YtbjakddkfgjkaaaGreatDoor.Fw
namespace Go.Proofs.YtbjakddkfgjkaaaGreatDoor.Fw
open Go.RowKit
structure DOut where
  r : List DReplica
  c : List DCustomer
  mails : List DMail
  com : List ByteArray
  lead : Int
  codes : List Int
  deriving Inhabited
structure COut where
  r : Sl CReplica
  c : Sl CCustomer
  mails : Sl DMail
  com : Sl ByteArray
  lead : Int
  codes : Sl Int
  deriving Inhabited
def COut.abs (x : COut) : DOut := { r := x.r.xs.map CReplica.abs, c := x.c.xs.map CCustomer.abs, mails := x.mails.xs, com := x.com.xs, lead := x.lead, codes := x.codes.xs }
instance : Lay COut where
  sub B w x := x.r.rd B w ∧ x.c.rd B w ∧ x.mails.rd B w ∧ x.com.rd B w ∧ x.codes.rd B w
  stay := fun {B w w' x} hs ⟨h0, h1, h2, h3, h4⟩ => ⟨Sl.rd.stay h0 hs, Sl.rd.stay h1 hs, Sl.rd.stay h2 hs, Sl.rd.stay h3 hs, Sl.rd.stay h4 hs⟩
  wide := fun {B B' w x} hs ⟨h0, h1, h2, h3, h4⟩ => ⟨Sl.rd.wide h0 hs, Sl.rd.wide h1 hs, Sl.rd.wide h2 hs, Sl.rd.wide h3 hs, Sl.rd.wide h4 hs⟩
  ok x := x.r.ok ∧ x.c.ok ∧ x.mails.ok ∧ x.com.ok ∧ x.codes.ok
  small x := Rds.small x.r ∧ Rds.small x.c ∧ Rds.small x.mails ∧ Rds.small x.com ∧ Rds.small x.codes
  okof := fun {B w x} ⟨h0, h1, h2, h3, h4⟩ => ⟨Sl.rd.ok h0, Sl.rd.ok h1, Sl.rd.ok h2, Sl.rd.ok h3, Sl.rd.ok h4⟩
  size := 6
  pos := by decide
  cells x := [.slice x.r.A x.r.n x.r.c, .slice x.c.A x.c.n x.c.c, .slice x.mails.A x.mails.n x.mails.c, .slice x.com.A x.com.n x.com.c, .int .i64 x.lead, .slice x.codes.A x.codes.n x.codes.c]
  len _ := rfl
  one _ := rfl
abbrev COut.val (x : COut) : Value := .agg #[.slice x.r.A x.r.n x.r.c, .slice x.c.A x.c.n x.c.c, .slice x.mails.A x.mails.n x.mails.c, .slice x.com.A x.com.n x.com.c, .int .i64 x.lead, .slice x.codes.A x.codes.n x.codes.c]
def vMk (o : Oper) (s : SS) : Option (Nat × Int × Int) :=
  match o.op with
  | .makeSlice T l c => match ev s l, ev s c with
    | some (.v (.int .i64 a)), some (.v (.int .i64 b)) => some (T, a, b)
    | _, _ => none
  | _ => none
def mkV (P : Program) (T e n : Nat) : Option (Nat × List Value) :=
  match P.underlying T, P.info? e with
  | some (.slice e'), some i => match i.zero with
    | some z => bif Nat.beq e' e && (Nat.ble (i.bytes * n) 65536 && Nat.ble n 65536) then some (i.size, (madeCells z.cells (n * i.size)).toList) else none
    | none => none
  | _, _ => none
section
variable {C : Cx} {Q : Exit → Act → World → Prop} {R0 R : List Res} {m : Mch}
theorem Mmk {α : Type} [Lay α] {T : Nat} (e n : Nat) (L : List α) (J : ∀ A, JM C Q R0 (rowA e A n L :: R) (nx C (adv0 m (.v (.slice A n n))))) (hn : L.length = n := by rfl) (hz : mkV C.P T e n = some (Lay.size α, L.flatMap Lay.cells) := by kernel_rfl) (hv : vw C.n vMk m = some (T, (n : Int), (n : Int)) := by kernel_rfl) (hR : ∀ r : Res, R0.Sublist (r :: R) := by intros; first | exact List.nil_sublist _ | exact List.Sublist.cons _ (List.Sublist.refl _) | exact List.Sublist.refl _) (hL : locB m m.s.loc = locS m := by kernel_rfl) : JM C Q R0 R m := by
  refine m_eff (σ := Option Addr) vMk _ hv (fun A => .v (.slice A n n)) (fun _ => m.s.loc) (fun A => rowA e A n L :: R) (fun op h => ?_) (fun _ => hL) (fun _ => hR _) fun A => J A
  unfold vMk at h
  split at h
  · rename_i T' l c hop
    split at h
    · rename_i a b h1 h2
      simp only [Option.some.injEq, Prod.mk.injEq] at h
      obtain ⟨rfl, rfl, rfl⟩ := h
      unfold mkV at hz
      split at hz
      · rename_i e' i ht hi
        split at hz
        · rename_i z hzz
          cases hb : Nat.beq e' e && (Nat.ble (i.bytes * n) 65536 && Nat.ble n 65536) with
          | false => rw [hb] at hz; cases hz
          | true =>
            rw [hb] at hz
            simp only [cond_true, Option.some.injEq, Prod.mk.injEq] at hz
            simp only [Bool.and_eq_true] at hb
            obtain ⟨hb1, hb2, hb3⟩ := hb
            obtain rfl := Nat.eq_of_beq_eq_true hb1
            have hb2 := Nat.le_of_ble_eq_true hb2
            have hb3 := Nat.le_of_ble_eq_true hb3
            refine Does.as hop ?_
            rintro bs a w ⟨hfr, hn', hS⟩ K Q' hK
            unfold Oper.wp
            obtain ⟨w', hrun, r1, r2⟩ := run_make_full (P := C.P) w 0 T' e' i z i.size ht hi hzz rfl .i64 .i64 n (by omega) (by unfold maxLen; omega) (Nat.zero_le _)
            have e1 : a.eval l = .int .i64 (n : Int) := ev_sound hfr h1
            have e2 : a.eval c = .int .i64 (n : Int) := ev_sound hfr h2
            rw [hz.2, hz.1] at r1
            have hx : (execOp a.eval ⟨op.dst, .makeSlice T' l c, op.type, op.pos, op.after, op.guard⟩).run C.P w = .ok (.value (.slice (some ⟨w.heap.size, 0, none⟩) n n)) w' := by
              simp [execOp, e1, e2, hrun]
            rw [hx]
            have hsz : w.heap.size < w'.heap.size := by
              obtain ⟨_, h9⟩ := r1
              rcases h9 with ⟨h9, _⟩ | ⟨g, cap, cur, hv9, _, hh, _⟩
              · cases h9
              · simp only [Value.slice.injEq, Option.some.injEq, Addr.mk.injEq] at hv9
                rw [hv9.1.1]
                exact (Array.getElem?_eq_some_iff.1 hh).1
            refine hK (some ⟨w.heap.size, 0, none⟩) _ (hS.fresh (kp_of_grown r2 [] (fun k h => by cases h)) _ ?_ ?_ ?_)
            · show w'.ownsRow 0 e' (Lay.size α) (.slice (some ⟨w.heap.size, 0, none⟩) L.length n) L.length (L.flatMap Lay.cells)
              rw [hn]
              exact r1
            · simp [rowA, rowR]
            · intro b hb
              simp only [rowA, rowR, List.mem_singleton] at hb
              subst hb
              exact ⟨Nat.le_refl _, hsz⟩
        · cases hz
      · cases hz
    · cases h
  · cases h
def elsR {α : Type} [Rds α] (f : List Nat) (L : List α) : Res := ⟨f, fun w => ∀ x, x ∈ L → Rds.sub (· ∈ f) w x, fun h p x hx => Rds.stay (fun b hb _ => h b hb) (p x hx)⟩
theorem m_els0 (α : Type) [Rds α] (h : JM C Q R0 (elsR [] ([] : List α) :: R) m) : JM C Q R0 R m := m_nores _ rfl (fun _ x hx => absurd hx List.not_mem_nil) h
theorem m_els {α : Type} [Rds α] {f fp : List Nat} {L : List α} {y : α} (h : JM C Q R0 (elsR (f ++ fp) (L ++ [y]) :: R) m) : JM C Q R0 (elsR f L :: subR fp y :: R) m :=
  m_join (elsR (f ++ fp) (L ++ [y])) (List.Perm.refl _) (fun w h1 h2 x hx => by
    rcases List.mem_append.1 hx with hx | hx
    · exact Rds.wide (fun b hb => List.mem_append_left _ hb) (h1 x hx)
    · rw [List.mem_singleton.1 hx]; exact Rds.wide (fun b hb => List.mem_append_right _ hb) h2) h
variable {K : TK} {f : List Nat} {t : CTown}
theorem townQ_s {w : World} (h : (townQ K f t).p w) : (townS f t.r.xs t.c.xs t.mails.xs t.com.xs).p w := h _ (.tail _ (.tail _ (.tail _ (.tail _ (.head _)))))
theorem townQ_r {w : World} (h : (townQ K f t).p w) : Sl.rd anyB w t.r := Rr (B := anyB) (h _ (.head _)) (fun _ _ => trivial) fun z hz => Rds.wide (fun _ _ => trivial) ((townQ_s h).1 z hz)
theorem townQ_c {w : World} (h : (townQ K f t).p w) : Sl.rd anyB w t.c := Rr (B := anyB) (h _ (.tail _ (.head _))) (fun _ _ => trivial) fun z hz => Rds.wide (fun _ _ => trivial) ((townQ_s h).2.1 z hz)
theorem townQ_m {w : World} (h : (townQ K f t).p w) : Sl.rd anyB w t.mails := Rr (B := anyB) (h _ (.tail _ (.tail _ (.head _)))) (fun _ _ => trivial) fun z hz => Rds.wide (fun _ _ => trivial) ((townQ_s h).2.2.1 z hz)
theorem townQ_k {w : World} (h : (townQ K f t).p w) : Sl.rd anyB w t.com := Rr (B := anyB) (h _ (.tail _ (.tail _ (.tail _ (.head _))))) (fun _ _ => trivial) fun z hz => Rds.wide (fun _ _ => trivial) ((townQ_s h).2.2.2 z hz)
theorem townQ_ok {w : World} (h : (townQ K f t).p w) : townK t := ⟨(townQ_r h).ok, (townQ_c h).ok, (townQ_m h).ok, (townQ_k h).ok⟩
theorem m_townQ {A B : Option Addr} {c d : Nat} {L : List CReplica} {M : List CCustomer} (hr : ∀ x, x ∈ L → ∀ w, Rds.sub (fun b => b ∈ ([] : List Nat)) w x) (hc : ∀ x, x ∈ M → ∀ w, Rds.sub (fun b => b ∈ ([] : List Nat)) w x) (h : JM C Q R0 (townQ K [] ⟨⟨A, c, L⟩, ⟨B, d, M⟩, Sl.nil, Sl.nil, 0⟩ :: R) m) : JM C Q R0 (rowA K.r A c L :: rowA K.c B d M :: R) m :=
  m_join (townQ K [] ⟨⟨A, c, L⟩, ⟨B, d, M⟩, Sl.nil, Sl.nil, 0⟩) (by simp [townQ, allR, townS, rowA, rowR, Sl.nil]) (fun w h1 h2 q hq => by
    simp only [List.mem_cons, List.mem_nil_iff, or_false] at hq
    rcases hq with rfl | rfl | rfl | rfl | rfl
    · exact h1
    · exact h2
    · exact rowR_nil K.m (Lay.size DMail) w
    · exact rowR_nil K.k (Lay.size ByteArray) w
    · exact ⟨fun x hx => hr x hx w, fun x hx => hc x hx w, fun x hx => absurd hx List.not_mem_nil, fun x hx => absurd hx List.not_mem_nil⟩) h
theorem outQ {R : List Res} {w : World} (h : townQ K f t ∈ R) (hp : (townQ K f t).p w) : Sl.rd (· ∈ (allR R).fp) w t.mails ∧ Sl.rd (· ∈ (allR R).fp) w t.com := by
  have e : ∀ q, q ∈ [rowA K.r t.r.A t.r.c t.r.xs, rowA K.c t.c.A t.c.c t.c.xs, rowA K.m t.mails.A t.mails.c t.mails.xs, rowA K.k t.com.A t.com.c t.com.xs, townS f t.r.xs t.c.xs t.mails.xs t.com.xs] → ∀ b, b ∈ q.fp → b ∈ (allR R).fp := fun q hq b hb => mem_allR h (List.mem_flatMap.2 ⟨q, hq, hb⟩)
  refine ⟨Rr (hp _ (.tail _ (.tail _ (.head _)))) (e _ (.tail _ (.tail _ (.head _)))) fun z hz => ?_, Rr (hp _ (.tail _ (.tail _ (.tail _ (.head _))))) (e _ (.tail _ (.tail _ (.tail _ (.head _))))) fun z hz => ?_⟩
  · exact Rds.wide (e _ (.tail _ (.tail _ (.tail _ (.tail _ (.head _)))))) ((townQ_s hp).2.2.1 z hz)
  · exact Rds.wide (e _ (.tail _ (.tail _ (.tail _ (.tail _ (.head _)))))) ((townQ_s hp).2.2.2 z hz)
theorem outE {α : Type} [Lay α] {R : List Res} {w : World} {e : Nat} {A : Option Addr} {c : Nat} {g : List Nat} {L : List α} (h : rowA e A c L ∈ R) (hp : (rowA e A c L).p w) (h2 : elsR g L ∈ R) (hp2 : (elsR g L).p w) : Sl.rd (· ∈ (allR R).fp) w (⟨A, c, L⟩ : Sl α) :=
  Rr hp (fun b hb => mem_allR h hb) fun z hz => Rds.wide (fun b hb => mem_allR h2 hb) (hp2 z hz)
end
section
variable {C : Cx} {R0 R : List Res} {m : Mch}
theorem Me0 {fn : Func} {M : Int} (k : Int) (hm : M = k) (h : retV C.P fn m = some [vI k] := by kernel_rfl) (h0 : C.m = [] := by rfl) : JM C (bodyPost C.P fn fun e w' => e = .returned (.int .i64 M) ∧ Kp [] C.w0 w') R0 R m := by
  subst hm
  exact Mtp (.int .i64 M) rfl h h0
theorem Meb {fn : Func} {M : Bool} (k : Bool) (hm : M = k) (h : retV C.P fn m = some [vB k] := by kernel_rfl) (h0 : C.m = [] := by rfl) : JM C (bodyPost C.P fn fun e w' => e = .returned (.bool M) ∧ Kp [] C.w0 w') R0 R m := by
  subst hm
  exact Mtp (.bool M) rfl h h0
end
theorem acts_snoc : ∀ (l : List DAct) (D : DTown) (a : DAct), D.acts (l ++ [a]) = (((D.acts l).1.act a).1, (D.acts l).2 ++ [((D.acts l).1.act a).2])
  | [], D, a => rfl
  | x :: l, D, a => by
    show (((D.act x).1.acts (l ++ [a])).1, (D.act x).2 :: ((D.act x).1.acts (l ++ [a])).2) = _
    rw [acts_snoc l]
    rfl
def scrT (D : DTown) (l : Sl DAct) (k : Nat) (T : CTown) (L : List Int) : Prop := k ≤ l.n ∧ T.abs = (D.acts (l.xs.take k)).1 ∧ L = (D.acts (l.xs.take k)).2 ∧ townOk T.abs ∧ L.length = k
theorem scrT_go {D : DTown} {l : Sl DAct} {k : Nat} {T T2 : CTown} {L : List Int} {X : DTown × Int} (h : scrT D l k T L) (hk : k < l.n) (hX : T.abs.act (l.at k) = X) (h2 : T2.abs = X.1) : scrT D l (k + 1) T2 (L ++ [X.2]) := by
  subst hX
  obtain ⟨_, h3, h4, h5, h6⟩ := h
  have e := acts_snoc (l.xs.take k) D (l.at k)
  rw [take_snoc hk, ← h3, ← h4] at e
  exact ⟨hk, by rw [h2, e], by rw [e], by rw [h2]; exact h5.act _, by rw [List.length_append, h6]; rfl⟩
theorem copied_next {α β : Type} [Inhabited α] {f : α → β} {s : Sl α} {L : List α} {k : Nat} {y : α} (h : L.map f = (s.xs.take k).map f) (hk : k < s.n) (hy : f y = f (s.at k)) : (L ++ [y]).map f = (s.xs.take (k + 1)).map f := by
  rw [List.map_append, h, ← take_snoc hk, List.map_append]
  show _ ++ [f y] = _ ++ [f (s.at k)]
  rw [hy]
theorem copied_end {α β : Type} {f : α → β} {s : Sl α} {L : List α} {k : Nat} (h : L.map f = (s.xs.take k).map f) (hk : s.n ≤ k) : L.map f = s.xs.map f := by rw [h, List.take_of_length_le hk]
theorem cust_small {t : CTown} (h : townOk t.abs) {i : Nat} (hi : i < t.c.n) : (t.c.at i).waits.n ≤ 1048576 := by
  have h1 : (t.c.at i).abs.waits.length ≤ 9 := h.cw _ (List.mem_map.2 ⟨_, mem_of_getD hi, rfl⟩)
  have h2 : (t.c.at i).waits.n ≤ 9 := h1
  omega
theorem scrT_0 {n : Int} (hn : n ≤ 9) (l : Sl DAct) {T : CTown} (h : T.abs = DTown.start n) : scrT (DTown.start n) l 0 T [] := ⟨Nat.zero_le _, h, rfl, by rw [h]; exact town_start hn, rfl⟩
def mOut (n : Int) (l : List DAct) : DOut := ⟨(mRunT n l).1.r, (mRunT n l).1.c, (mRunT n l).1.mails, (mRunT n l).1.com, (mRunT n l).1.lead, (mRunT n l).2.1⟩
theorem out_range {n : Int} (h : n < 1 ∨ 9 < n) (l : List DAct) : mRunT n l = (⟨[], [], [], [], 0⟩, [], 2) := by unfold mRunT; rw [if_pos h]
theorem out_long {n : Int} (h : ¬ (n < 1 ∨ 9 < n)) {l : List DAct} (h2 : 400 < l.length) : mRunT n l = (⟨[], [], [], [], 0⟩, [], 1) := by unfold mRunT; rw [if_neg h, if_pos h2]
theorem out_go {n : Int} (h : ¬ (n < 1 ∨ 9 < n)) {l : Sl DAct} (h2 : l.n ≤ 400) {k : Nat} {T : CTown} {L : List Int} (hI : scrT (DTown.start n) l k T L) (hk : l.n ≤ k) : mRunT n l.xs = (T.abs, L, 0) := by
  unfold mRunT
  rw [if_neg h, if_neg (by show ¬ 400 < l.n; omega), hI.2.1, hI.2.2.1, List.take_of_length_le hk]
def custs (k : Nat) : List CCustomer := (List.range k).map fun i : Nat => ⟨(i : Int) + 1, 0, 1, Sl.nil⟩
theorem custs_next (k : Nat) : custs k ++ [⟨(k : Int) + 1, 0, 1, Sl.nil⟩] = custs (k + 1) := by unfold custs; rw [List.range_succ, List.map_append]; rfl
theorem new_ok {n : Int} (h1 : 1 ≤ n) (h2 : n ≤ 9) : mNew n = (⟨n, 0, 1, Sl.nil⟩, 0) := by unfold mNew; first | rw [if_pos ⟨h1, h2⟩] | (rw [if_neg (by omega)]) | (simp [inB, h1, h2])
theorem custs_len (k : Nat) : (custs k).length = k := by unfold custs; rw [List.length_map, List.length_range]
theorem custs_sub {k : Nat} : ∀ x, x ∈ custs k → ∀ w, Rds.sub (fun b => b ∈ ([] : List Nat)) w x := fun x hx w => by
  unfold custs at hx
  obtain ⟨i, _, rfl⟩ := List.mem_map.1 hx
  exact Sl.rd_nil _ _
def zRp : CReplica := ⟨⟨0, Sl.nil⟩, emp, 0, Sl.nil, Sl.nil, Sl.nil⟩
theorem zRp_sub (w : World) : Rds.sub (fun b => b ∈ ([] : List Nat)) w zRp := ⟨by show emp.size ≤ _; rw [emp_size]; omega, Sl.rd_nil _ _, Sl.rd_nil _ _, Sl.rd_nil _ _, Sl.rd_nil _ _⟩
def startT (A B : Option Addr) (d k : Nat) : CTown := ⟨⟨A, 3, [zRp, zRp, zRp]⟩, ⟨B, d, custs k⟩, Sl.nil, Sl.nil, 0⟩
theorem start_abs {A B : Option Addr} {d k : Nat} {n : Int} (hn : n.toNat = k) : (startT A B d k).abs = DTown.start n := by
  subst hn
  show (⟨_, (custs n.toNat).map CCustomer.abs, _, _, _⟩ : DTown) = _
  unfold custs DTown.start
  rw [List.map_map]
  rfl
theorem zReps_sub : ∀ x, x ∈ [zRp, zRp, zRp] → ∀ w, Rds.sub (fun b => b ∈ ([] : List Nat)) w x := fun x hx w => by
  simp only [List.mem_cons, List.not_mem_nil, or_false, or_self] at hx
  subst hx
  exact zRp_sub w
end Go.Proofs.YtbjakddkfgjkaaaGreatDoor.Fw
namespace Go.Proofs.YtbjakddkfgjkaaaGreatDoor.Fw
open Go.RowKit
theorem rNum_w {n : Int} (h0 : 0 ≤ n) (h1 : n ≤ 1099511627776) (r : ByteArray) : rNum ((mNumber n).1 ++ r, 0) = (n, (r, 0)) := by
  unfold rNum; rw [if_pos rfl, read_number h0 h1]
theorem rTxt_w {s : ByteArray} (h : s.size ≤ 5000) (r : ByteArray) : rTxt (mTextB s ++ r, 0) = (s, (r, 0)) := by
  have e : mTextB s ++ r = (mNumber (s.size : Int)).1 ++ (s ++ r) := by
    unfold mTextB mText
    rw [if_neg (by omega), ByteArray.append_assoc]
  have hr := read_number (n := (s.size : Int)) (by omega) (by omega) (s ++ r)
  unfold rTxt
  rw [if_pos rfl, e]
  have : mTell ((mNumber (s.size : Int)).1 ++ (s ++ r)) = (s, r, 0) := by
    unfold mTell
    rw [hr]
    rw [if_neg (by simp), if_neg (by show ¬ (5000 : Int) < (s.size : Int); omega), if_neg (by show ¬ (((s ++ r).size : Nat) : Int) < (s.size : Int); rw [ByteArray.size_append]; omega)]
    show ((s ++ r).extract 0 (s.size : Int).toNat, (s ++ r).extract (s.size : Int).toNat (s ++ r).size, (0 : Int)) = _
    rw [Int.toNat_natCast, ByteArray.extract_append_eq_left rfl, bext_rest]
  rw [this]
theorem rMany_w {n most : Int} (h0 : 0 ≤ n) (h1 : n ≤ most) (h2 : most ≤ 1099511627776) (r : ByteArray) : rMany most ((mNumber n).1 ++ r, 0) = (n, (r, 0)) := by
  unfold rMany; rw [rNum_w h0 (by omega), if_pos rfl, if_neg (by show ¬ most < n; omega)]
theorem rIter_first {α : Type} (f : RQ → α × RQ) : ∀ (n : Nat) (q : RQ), rIter f (n + 1) q = ((f q).1 :: (rIter f n (f q).2).1, (rIter f n (f q).2).2)
  | 0, q => rfl
  | n + 1, q => by
    rw [rIter, rIter_first f n q]
    rfl
def wAll {α : Type} (W : α → ByteArray) (l : List α) : ByteArray := l.foldr (fun x b => W x ++ b) emp
theorem rIter_w {α : Type} {f : RQ → α × RQ} {W : α → ByteArray} : ∀ {l : List α}, (∀ x, x ∈ l → ∀ r, f (W x ++ r, 0) = (x, (r, 0))) → ∀ r, rIter f l.length (wAll W l ++ r, 0) = (l, (r, 0))
  | [], _, r => by show ([], (emp ++ r, (0 : Int))) = _; rw [emp_append]
  | x :: l, h, r => by
    rw [List.length_cons, rIter_first]
    have e : wAll W (x :: l) ++ r = W x ++ (wAll W l ++ r) := by show (W x ++ wAll W l) ++ r = _; rw [ByteArray.append_assoc]
    rw [e, h x (List.mem_cons_self ..)]
    rw [rIter_w (l := l) (fun y hy => h y (List.mem_cons_of_mem _ hy)) r]
theorem foldl_w {α : Type} (W : α → ByteArray) : ∀ (l : List α) (b : ByteArray), l.foldl (fun b x => b ++ W x) b = b ++ wAll W l
  | [], b => by show b = b ++ emp; rw [append_emp]
  | x :: l, b => by
    rw [List.foldl_cons, foldl_w W l]
    show _ = b ++ (W x ++ wAll W l)
    rw [ByteArray.append_assoc]
abbrev wN (n : Int) : ByteArray := (mNumber n).1
theorem mNums_w (l : List Int) : mNums l = wAll wN l := by
  unfold mNums
  rw [foldl_w wN, emp_append]
def wLock (d : DLock) : ByteArray := mTextB d.name ++ (wN d.holder ++ (wN d.fence ++ (wN (d.line.length : Int) ++ wAll wN d.line)))
def wPair (d : DPair) : ByteArray := mTextB d.name ++ (mTextB d.value ++ wN d.version)
def wKept (d : DKept) : ByteArray := wN d.seq ++ (wN d.reply.code ++ (wN d.reply.n ++ mTextB d.reply.text))
def wSess (d : DSession) : ByteArray := wN d.client ++ (wN d.id ++ (wN d.acked ++ (wN d.last ++ (wN (d.replies.length : Int) ++ wAll wKept d.replies))))
theorem lockS_w (b : ByteArray) (d : DLock) : lockS b d = b ++ wLock d := by
  unfold lockS wLock
  simp only [mNums_w, wAll, List.foldr_cons, List.foldr_nil, append_emp, ByteArray.append_assoc]
theorem pairS_w (b : ByteArray) (d : DPair) : pairS b d = b ++ wPair d := by
  unfold pairS wPair
  simp only [mNums_w, wAll, List.foldr_cons, List.foldr_nil, append_emp, ByteArray.append_assoc]
theorem keptS_w (b : ByteArray) (d : DKept) : keptS b d = b ++ wKept d := by
  unfold keptS wKept
  simp only [mNums_w, wAll, List.foldr_cons, List.foldr_nil, append_emp, ByteArray.append_assoc]
theorem sessS_w (b : ByteArray) (d : DSession) : sessS b d = b ++ wSess d := by
  unfold sessS wSess
  rw [show keptS = fun b x => b ++ wKept x from funext fun b => funext fun x => keptS_w b x, foldl_w wKept]
  simp only [mNums_w, wAll, List.foldr_cons, List.foldr_nil, append_emp, ByteArray.append_assoc]
def nIn (n : Int) : Prop := 0 ≤ n ∧ n ≤ 1099511627776
theorem rLock_w {d : DLock} (h1 : d.name.size ≤ 5000) (h2 : nIn d.holder) (h3 : nIn d.fence) (h4 : d.line.length ≤ 3) (h5 : ∀ x, x ∈ d.line → nIn x) (r : ByteArray) : rLock (wLock d ++ r, 0) = (d, (r, 0)) := by
  have e : wLock d ++ r = mTextB d.name ++ (wN d.holder ++ (wN d.fence ++ (wN (d.line.length : Int) ++ (wAll wN d.line ++ r)))) := by
    unfold wLock; simp only [ByteArray.append_assoc]
  unfold rLock
  simp only [e, rTxt_w h1, rNum_w h2.1 h2.2, rNum_w h3.1 h3.2, rMany_w (n := (d.line.length : Int)) (most := 3) (by omega) (by omega) (by omega), Int.toNat_natCast]
  rw [rIter_w (f := rNum) (W := wN) (fun x hx r => rNum_w (h5 x hx).1 (h5 x hx).2 r)]
theorem rPair_w {d : DPair} (h1 : d.name.size ≤ 5000) (h2 : d.value.size ≤ 5000) (h3 : nIn d.version) (r : ByteArray) : rPair (wPair d ++ r, 0) = (d, (r, 0)) := by
  have e : wPair d ++ r = mTextB d.name ++ (mTextB d.value ++ (wN d.version ++ r)) := by
    unfold wPair; simp only [ByteArray.append_assoc]
  unfold rPair
  simp only [e, rTxt_w h1, rTxt_w h2, rNum_w h3.1 h3.2]
theorem rKept_w {d : DKept} (h1 : nIn d.seq) (h2 : nIn d.reply.code) (h3 : nIn d.reply.n) (h4 : d.reply.text.size ≤ 5000) (r : ByteArray) : rKept (wKept d ++ r, 0) = (d, (r, 0)) := by
  have e : wKept d ++ r = wN d.seq ++ (wN d.reply.code ++ (wN d.reply.n ++ (mTextB d.reply.text ++ r))) := by
    unfold wKept; simp only [ByteArray.append_assoc]
  unfold rKept
  simp only [e, rTxt_w h4, rNum_w h1.1 h1.2, rNum_w h2.1 h2.2, rNum_w h3.1 h3.2]
theorem rSess_w {d : DSession} (h1 : nIn d.client) (h2 : nIn d.id) (h3 : nIn d.acked) (h4 : nIn d.last) (h5 : d.replies.length ≤ 4) (h6 : ∀ x, x ∈ d.replies → nIn x.seq ∧ nIn x.reply.code ∧ nIn x.reply.n ∧ x.reply.text.size ≤ 5000) (r : ByteArray) : rSess (wSess d ++ r, 0) = (d, (r, 0)) := by
  have e : wSess d ++ r = wN d.client ++ (wN d.id ++ (wN d.acked ++ (wN d.last ++ (wN (d.replies.length : Int) ++ (wAll wKept d.replies ++ r))))) := by
    unfold wSess; simp only [ByteArray.append_assoc]
  unfold rSess
  simp only [e, rNum_w h1.1 h1.2, rNum_w h2.1 h2.2, rNum_w h3.1 h3.2, rNum_w h4.1 h4.2, rMany_w (n := (d.replies.length : Int)) (most := 4) (by omega) (by omega) (by omega), Int.toNat_natCast]
  rw [rIter_w (f := rKept) (W := wKept) (fun x hx r => rKept_w (h6 x hx).1 (h6 x hx).2.1 (h6 x hx).2.2.1 (h6 x hx).2.2.2 r)]
structure wOk (s : DState) : Prop where
  ix : nIn s.index
  l5 : s.locks.length ≤ 5
  p5 : s.pairs.length ≤ 5
  s4 : s.sessions.length ≤ 4
  lk : ∀ d, d ∈ s.locks → d.name.size ≤ 6 ∧ nIn d.holder ∧ nIn d.fence ∧ d.line.length ≤ 3 ∧ ∀ x, x ∈ d.line → nIn x
  pr : ∀ d, d ∈ s.pairs → d.name.size ≤ 6 ∧ d.value.size ≤ 12 ∧ nIn d.version
  ss : ∀ d, d ∈ s.sessions → nIn d.client ∧ nIn d.id ∧ nIn d.acked ∧ nIn d.last ∧ d.replies.length ≤ 4 ∧ ∀ x, x ∈ d.replies → nIn x.seq ∧ nIn x.reply.code ∧ nIn x.reply.n ∧ x.reply.text.size ≤ 12
theorem snapB_w (s : DState) : mSnapB s = wN s.index ++ (wN (s.locks.length : Int) ++ (wAll wLock s.locks ++ (wN (s.pairs.length : Int) ++ (wAll wPair s.pairs ++ (wN (s.sessions.length : Int) ++ wAll wSess s.sessions))))) := by
  unfold mSnapB
  rw [show lockS = fun b x => b ++ wLock x from funext fun b => funext fun x => lockS_w b x, show pairS = fun b x => b ++ wPair x from funext fun b => funext fun x => pairS_w b x, show sessS = fun b x => b ++ wSess x from funext fun b => funext fun x => sessS_w b x]
  rw [foldl_w wSess, foldl_w wPair, foldl_w wLock]
  simp only [mNums_w, wAll, List.foldr_cons, List.foldr_nil, append_emp, ByteArray.append_assoc]
theorem rState_w {s : DState} (h : wOk s) : rState (mSnapB s, 0) = (s, (emp, 0)) := by
  have e : mSnapB s = wN s.index ++ (wN (s.locks.length : Int) ++ (wAll wLock s.locks ++ (wN (s.pairs.length : Int) ++ (wAll wPair s.pairs ++ (wN (s.sessions.length : Int) ++ (wAll wSess s.sessions ++ emp)))))) := by rw [snapB_w, append_emp]
  have hl := h.l5; have hp := h.p5; have hs := h.s4
  have k1 : ∀ r, rIter rLock s.locks.length (wAll wLock s.locks ++ r, 0) = (s.locks, (r, 0)) := rIter_w fun x hx r => by
    obtain ⟨a, b, c, d, e⟩ := h.lk x hx; exact rLock_w (by omega) b c d e r
  have k2 : ∀ r, rIter rPair s.pairs.length (wAll wPair s.pairs ++ r, 0) = (s.pairs, (r, 0)) := rIter_w fun x hx r => by
    obtain ⟨a, b, c⟩ := h.pr x hx; exact rPair_w (by omega) (by omega) c r
  have k3 : ∀ r, rIter rSess s.sessions.length (wAll wSess s.sessions ++ r, 0) = (s.sessions, (r, 0)) := rIter_w fun x hx r => by
    obtain ⟨a, b, c, d, e, f⟩ := h.ss x hx
    exact rSess_w a b c d e (fun y hy => ⟨(f y hy).1, (f y hy).2.1, (f y hy).2.2.1, by have := (f y hy).2.2.2; omega⟩) r
  unfold rState
  simp only [e, rNum_w h.ix.1 h.ix.2, rMany_w (n := (s.locks.length : Int)) (most := 5) (by omega) (by omega) (by omega), rMany_w (n := (s.pairs.length : Int)) (most := 5) (by omega) (by omega) (by omega), rMany_w (n := (s.sessions.length : Int)) (most := 4) (by omega) (by omega) (by omega), Int.toNat_natCast, k1, k2, k3]
theorem wAll_size {α : Type} {W : α → ByteArray} {K : Nat} : ∀ {l : List α}, (∀ x, x ∈ l → (W x).size ≤ K) → (wAll W l).size ≤ K * l.length
  | [], _ => by show emp.size ≤ _; rw [emp_size]; omega
  | x :: l, h => by
    have h1 := h x (List.mem_cons_self ..)
    have h2 := wAll_size (l := l) fun y hy => h y (List.mem_cons_of_mem _ hy)
    show (W x ++ wAll W l).size ≤ _
    rw [ByteArray.size_append, List.length_cons, Nat.mul_succ]; omega
theorem wN_size (n : Int) : (wN n).size ≤ 6 := mNumber_size n
theorem mTextB_le (s : ByteArray) (h : s.size ≤ 5000) : (mTextB s).size ≤ 6 + s.size := by
  unfold mTextB mText
  rw [if_neg (by omega)]
  show ((mNumber _).1 ++ s).size ≤ _
  rw [ByteArray.size_append]; have := mNumber_size (s.size : Int); omega
theorem snap_size {s : DState} (h : wOk s) : (mSnapB s).size ≤ 4996 := by
  have kl : (wAll wLock s.locks).size ≤ 48 * s.locks.length := wAll_size fun d hd => by
    obtain ⟨a, b, c, e, f⟩ := h.lk d hd
    have h1 := mTextB_le d.name (by omega); have h2 := wN_size d.holder; have h3 := wN_size d.fence; have h4 := wN_size (d.line.length : Int)
    have h5 := wAll_size (W := wN) (K := 6) (l := d.line) fun x _ => wN_size x
    unfold wLock; simp only [ByteArray.size_append]; omega
  have kp : (wAll wPair s.pairs).size ≤ 40 * s.pairs.length := wAll_size fun d hd => by
    obtain ⟨a, b, c⟩ := h.pr d hd
    have h1 := mTextB_le d.name (by omega); have h2 := mTextB_le d.value (by omega); have h3 := wN_size d.version
    unfold wPair; simp only [ByteArray.size_append]; omega
  have ks : (wAll wSess s.sessions).size ≤ 180 * s.sessions.length := wAll_size fun d hd => by
    obtain ⟨a, b, c, e, f, g⟩ := h.ss d hd
    have h1 := wN_size d.client; have h2 := wN_size d.id; have h3 := wN_size d.acked; have h4 := wN_size d.last; have h5 := wN_size (d.replies.length : Int)
    have h6 := wAll_size (W := wKept) (K := 36) (l := d.replies) fun x hx => by
      have q1 := wN_size x.seq; have q2 := wN_size x.reply.code; have q3 := wN_size x.reply.n; have q4 := (g x hx).2.2.2; have q5 := mTextB_le x.reply.text (by omega)
      unfold wKept; simp only [ByteArray.size_append]; omega
    unfold wSess; simp only [ByteArray.size_append]; omega
  have hl := h.l5; have hp := h.p5; have hs := h.s4
  have h1 := wN_size s.index; have h2 := wN_size (s.locks.length : Int); have h3 := wN_size (s.pairs.length : Int); have h4 := wN_size (s.sessions.length : Int)
  rw [snapB_w]; simp only [ByteArray.size_append]; omega
theorem seal_size (b : ByteArray) : (mSeal b).size = 4 := by unfold mSeal; rw [bstr_size]; rfl
theorem snap_tail (b : ByteArray) : (b ++ mSeal b).extract ((b ++ mSeal b).size - 4) (b ++ mSeal b).size = mSeal b := by
  have h := bext_rest b (mSeal b)
  have h2 : (b ++ mSeal b).size - 4 = b.size := by rw [ByteArray.size_append, seal_size]; omega
  rw [h2]; exact h
theorem unsnap_snap {s : DState} (h : mState s = 0) (hw : wOk s) : mUnsnap (mSnap s).1 = (s, 0) := by
  have e : (mSnap s).1 = mSnapB s ++ mSeal (mSnapB s) := by unfold mSnap; rw [if_pos h]
  have hz : (mSnapB s ++ mSeal (mSnapB s)).size = (mSnapB s).size + 4 := by rw [ByteArray.size_append, seal_size]
  have hs := snap_size hw
  have hr := rState_w hw
  unfold mUnsnap
  rw [e, snap_cut, snap_tail, hr]
  rw [if_neg (by omega), if_neg (by omega), if_neg (by simp), if_neg (by simp), if_neg (by simp), if_neg (by simpa using h)]
theorem name_size {s : ByteArray} (h : mName s = true) : s.size ≤ 6 := by
  unfold mName at h
  simp only [Bool.and_eq_true, decide_eq_true_eq] at h
  have := h.2.1; omega
theorem wOk_of {s : DState} (h : mState s = 0) : wOk s := by
  obtain ⟨h1, h2, h3⟩ := mState_parts h
  obtain ⟨a1, a2, a3, a4⟩ := mSess_bd h1
  obtain ⟨b1, b2⟩ := mLocks_bd h2
  obtain ⟨c1, c2⟩ := mPairs_bd h3
  refine ⟨⟨a1, by omega⟩, b1, c1, a3, ?_, ?_, ?_⟩
  · refine mem_getD (P := fun d : DLock => d.name.size ≤ 6 ∧ nIn d.holder ∧ nIn d.fence ∧ d.line.length ≤ 3 ∧ ∀ x, x ∈ d.line → nIn x) fun j hj => ?_
    obtain ⟨q1, q2, q3, q4, q5, q6, _⟩ := lockF_bd (b2 j hj)
    unfold lineOk at q4
    simp only [Bool.and_eq_true, decide_eq_true_eq] at q4
    refine ⟨name_size q1, ⟨q2, by omega⟩, ⟨by omega, by omega⟩, q4.2.1, mem_getD (P := nIn) fun k hk => ?_⟩
    have q7 := allTo_good q4.1 k hk
    unfold posOk inB at q7
    simp only [Bool.and_eq_true, decide_eq_true_eq] at q7
    exact ⟨by omega, by omega⟩
  · refine mem_getD (P := fun d : DPair => d.name.size ≤ 6 ∧ d.value.size ≤ 12 ∧ nIn d.version) fun j hj => ?_
    obtain ⟨q1, q2, q3, q4, _⟩ := pairF_bd (c2 j hj)
    exact ⟨name_size q1, by omega, ⟨by omega, by omega⟩⟩
  · refine mem_getD (P := fun d : DSession => nIn d.client ∧ nIn d.id ∧ nIn d.acked ∧ nIn d.last ∧ d.replies.length ≤ 4 ∧ ∀ x, x ∈ d.replies → nIn x.seq ∧ nIn x.reply.code ∧ nIn x.reply.n ∧ x.reply.text.size ≤ 12) fun j hj => ?_
    have q := sessF_bd (a4 j hj)
    obtain ⟨q1, q2, q3, q4, q5, q6, q7, q8⟩ := q
    have hr : mReplies (s.sessions.getD j default) = true := by
      have := a4 j hj
      unfold sessF at this
      split at this
      · cases this
      split at this
      · cases this
      · rename_i hx; simpa using hx
    refine ⟨⟨by omega, by omega⟩, ⟨by omega, by omega⟩, ⟨by omega, by omega⟩, ⟨by omega, by omega⟩, ?_, ?_⟩
    · exact mReplies_len hr
    · refine mem_getD (P := fun x : DKept => nIn x.seq ∧ nIn x.reply.code ∧ nIn x.reply.n ∧ x.reply.text.size ≤ 12) fun k hk => ?_
      have q9 := allTo_good hr k hk
      unfold keptOk at q9
      have q9 := of_decide_eq_true q9
      exact ⟨⟨by omega, by omega⟩, ⟨by omega, by omega⟩, ⟨by omega, by omega⟩, by omega⟩
theorem unsnap_of {s : DState} (h : mState s = 0) : mUnsnap (mSnap s).1 = (s, 0) := unsnap_snap h (wOk_of h)
end Go.Proofs.YtbjakddkfgjkaaaGreatDoor.Fw
namespace Go.Proofs.YtbjakddkfgjkaaaGreatDoor.Fw
open Go.RowKit
def mAppd : DState → List ByteArray → DState × Bool
  | s, [] => (s, true)
  | s, x :: l => if (mApply s x).2.2 = 0 then mAppd (mApply s x).1 l else (zState, false)
theorem mAppd_cons (s : DState) (x : ByteArray) (l : List ByteArray) : mAppd s (x :: l) = if (mApply s x).2.2 = 0 then mAppd (mApply s x).1 l else (zState, false) := rfl
theorem mAppd_append : ∀ (a : List ByteArray) (s : DState) (b : List ByteArray), (mAppd s a).2 = true → mAppd s (a ++ b) = mAppd (mAppd s a).1 b
  | [], s, b, _ => rfl
  | x :: a, s, b, h => by
    rw [List.cons_append, mAppd_cons, mAppd_cons]
    rw [mAppd_cons] at h
    split
    · rename_i h1
      rw [if_pos h1] at h
      exact mAppd_append a _ b h
    · rename_i h1; rw [if_neg h1] at h; cases h
theorem mAppd_one {s : DState} {x : ByteArray} (h : (mApply s x).2.2 = 0) : mAppd s [x] = ((mApply s x).1, true) := by rw [mAppd_cons, if_pos h]; rfl
theorem runGo_appd (E : List ByteArray) : ∀ (N k : Nat) (s : DState) (out : List DMail), k + N ≤ E.length → (mRunGo E N k s out).2.2 = 0 → mAppd s ((E.drop k).take N) = ((mRunGo E N k s out).1, true)
  | 0, k, s, out, _, _ => by rw [List.take_zero]; rfl
  | N + 1, k, s, out, hk, h => by
    have e : (E.drop k).take (N + 1) = E.getD k default :: (E.drop (k + 1)).take N := by
      rw [List.drop_eq_getElem_cons (show k < E.length by omega), List.take_succ_cons, List.getD_eq_getElem?_getD, List.getElem?_eq_getElem (show k < E.length by omega)]
      rfl
    unfold mRunGo at h ⊢
    split at h
    · rename_i h1; exact absurd h h1
    · rename_i h1
      have h1 := Classical.not_not.1 h1
      rw [if_neg (by simpa using h1), e, mAppd_cons, if_pos h1]
      exact runGo_appd E N (k + 1) _ _ (by omega) h
structure repIs (com : List ByteArray) (x : DReplica) : Prop where
  lo : 0 ≤ x.state.index
  hi : x.state.index ≤ (com.length : Int)
  st : mAppd zState (com.take x.state.index.toNat) = (x.state, true)
  bh : x.log.base ≤ (com.length : Int)
  sn : 0 < x.log.base → ∃ S, mUnsnap x.snap = (S, 0) ∧ S.index = x.log.base ∧ mAppd zState (com.take x.log.base.toNat) = (S, true)
theorem take_more {α : Type} {l m : List α} {i : Int} (h : i ≤ (l.length : Int)) : (l ++ m).take i.toNat = l.take i.toNat := List.take_append_of_le_length (by omega)
theorem repIs.mono {com more : List ByteArray} {x : DReplica} (h : repIs com x) : repIs (com ++ more) x := by
  refine ⟨h.lo, ?_, ?_, ?_, fun hb => ?_⟩
  · have := h.hi; rw [List.length_append]; omega
  · rw [take_more h.hi]; exact h.st
  · have := h.bh; rw [List.length_append]; omega
  · rw [take_more h.bh]; exact h.sn hb
theorem repIs.zero (com : List ByteArray) : repIs com zRepl := ⟨by show (0 : Int) ≤ 0; omega, by show (0 : Int) ≤ _; omega, by show mAppd zState (com.take (0 : Int).toNat) = _; rfl, by show (0 : Int) ≤ _; omega, fun h => absurd h (by show ¬ (0 : Int) < 0; omega)⟩
theorem repIs.hear {com : List ByteArray} {x : DReplica} {b : Int} {m : List ByteArray} (h : repIs com x) (h2 : (mRHear x b m).2 = 0) : repIs com (mRHear x b m).1 := by
  unfold mRHear at h2 ⊢
  split at h2
  · rename_i h1; exact absurd h2 h1
  rename_i h1; rw [if_neg h1]
  split at h2
  · rename_i h3; exact absurd h2 h3
  rename_i h3; rw [if_neg h3]
  split at h2
  · cases h2
  rename_i h4; rw [if_neg h4]
  have hb := (mPut_parts (Classical.not_not.1 h3)).2.1
  exact ⟨h.lo, h.hi, h.st, by show (mPut x.log b m).1.base ≤ _; rw [hb]; exact h.bh, by show 0 < (mPut x.log b m).1.base → _; rw [hb]; exact h.sn⟩
theorem repIs.inst {com : List ByteArray} {x : DReplica} {s : ByteArray} (hs : ∃ S, mUnsnap s = (S, 0) ∧ 0 ≤ S.index ∧ S.index ≤ (com.length : Int) ∧ mAppd zState (com.take S.index.toNat) = (S, true)) (h2 : (mRInstall x s).2 = 0) : repIs com (mRInstall x s).1 := by
  obtain ⟨S, e, s0, s1, s2⟩ := hs
  unfold mRInstall at h2 ⊢
  rw [e] at h2 ⊢
  split at h2
  · rename_i h1; exact absurd h2 h1
  rename_i h1; rw [if_neg h1]
  rw [if_neg (by simp)] at h2 ⊢
  split at h2
  · cases h2
  rename_i h3; rw [if_neg h3]
  split at h2
  · cases h2
  rename_i h4; rw [if_neg h4]
  have hb : (if (S, (0 : Int)).1.index ≤ mLast x.log then (⟨(S, (0 : Int)).1.index, x.log.entries.drop ((S, (0 : Int)).1.index - x.log.base).toNat⟩ : DLog) else ⟨(S, (0 : Int)).1.index, []⟩).base = S.index := by split <;> rfl
  exact ⟨s0, s1, s2, by show DLog.base _ ≤ _; rw [hb]; exact s1, fun _ => ⟨S, e, by show S.index = DLog.base _; rw [hb], by show mAppd zState (com.take (DLog.base _).toNat) = _; rw [hb]; exact s2⟩⟩
theorem repIs.comp {com : List ByteArray} {x : DReplica} (h : repIs com x) (h2 : (mRCompact x).2 = 0) : repIs com (mRCompact x).1 := by
  unfold mRCompact at h2 ⊢
  split at h2
  · rename_i h1; exact absurd h2 h1
  rename_i h1; rw [if_neg h1]
  split at h2
  · cases h2
  rename_i h3; rw [if_neg h3]
  split at h2
  · rename_i h4; exact absurd h2 h4
  rename_i h4; rw [if_neg h4]
  have hv := (mReplica_parts (Classical.not_not.1 h1)).2.1
  have hb : (mCut x.log x.state.index).1.base = x.state.index := by
    have h4 := Classical.not_not.1 h4
    unfold mCut at h4 ⊢
    split at h4
    · rename_i q; exact absurd h4 q
    rename_i q; rw [if_neg q]
    split at h4
    · cases h4
    rename_i q; rw [if_neg q]
    split at h4
    · cases h4
    rename_i q; rw [if_neg q]
  exact ⟨h.lo, h.hi, h.st, by show DLog.base _ ≤ _; rw [hb]; exact h.hi, fun _ => ⟨x.state, unsnap_of hv, by show _ = DLog.base _; rw [hb], by show mAppd zState (com.take (DLog.base _).toNat) = _; rw [hb]; exact h.st⟩⟩
theorem repIs.rest {com : List ByteArray} {x : DReplica} (h : repIs com x) (h0 : 0 ≤ x.log.base) (h2 : (mRRestart x).2 = 0) : repIs com (mRRestart x).1 := by
  unfold mRRestart at h2 ⊢
  split at h2
  · rename_i h1; exact absurd h2 h1
  rename_i h1; rw [if_neg h1]
  have hk := (mReplica_parts (Classical.not_not.1 h1)).2.2.2.2
  have key : repIs com (⟨x.log, x.snap, (mKeptS x).1⟩ : DReplica) := by
    unfold mKeptS at hk ⊢
    by_cases hb : x.log.base = 0
    · rw [if_pos hb] at hk ⊢
      have e : (if x.snap = emp then ((zState : DState), (0 : Int)) else (zState, 9)).1 = zState := by split <;> rfl
      rw [e]
      exact ⟨by show (0 : Int) ≤ 0; omega, by show (0 : Int) ≤ _; omega, by show mAppd zState (com.take (0 : Int).toNat) = _; rfl, h.bh, h.sn⟩
    · rw [if_neg hb] at hk ⊢
      obtain ⟨S, e1, e2, e3⟩ := h.sn (by omega)
      rw [e1] at hk ⊢
      rw [if_pos ⟨rfl, e2⟩]
      exact ⟨by show 0 ≤ S.index; omega, by show S.index ≤ _; rw [e2]; exact h.bh, by show mAppd zState (com.take S.index.toNat) = _; rw [e2]; exact e3, h.bh, h.sn⟩
  exact key
theorem run_index (E : List ByteArray) : ∀ (N k : Nat) (s : DState) (out : List DMail), (mRunGo E N k s out).2.2 = 0 → (mRunGo E N k s out).1.index = s.index + (N : Int)
  | 0, k, s, out, _ => by show s.index = _; omega
  | N + 1, k, s, out, h2 => by
    rw [run_S] at h2 ⊢
    split
    · rename_i h3; rw [if_pos h3] at h2; exact absurd h2 h3
    rename_i h3; rw [if_neg h3] at h2
    rw [run_index E N (k + 1) _ _ h2, mApply_index (Classical.not_not.1 h3)]; omega
theorem repIs.appl {com : List ByteArray} {x : DReplica} {u : Int} (h : repIs com x) (hb : 0 ≤ x.log.base) (hu : u ≤ (com.length : Int)) (hl : u ≤ mLast x.log) (he : ∀ j : Nat, x.log.base + (j : Int) < u → com.getD (x.log.base + (j : Int)).toNat default = x.log.entries.getD j default) (h2 : (mRApply x u).2.2 = 0) : repIs com (mRApply x u).1 := by
  unfold mRApply at h2 ⊢
  split at h2
  · rename_i h1; exact absurd h2 h1
  rename_i h1; rw [if_neg h1]
  split at h2
  · cases h2
  rename_i h3; rw [if_neg h3]
  split at h2
  · rename_i h4; exact absurd h2 h4
  rename_i h4; rw [if_neg h4]
  have hp := mReplica_parts (Classical.not_not.1 h1)
  have h4 := Classical.not_not.1 h4
  have e : (if u < mLast x.log then u else mLast x.log) = u := by split <;> omega
  unfold rRun at h4 ⊢
  rw [e] at h4 ⊢
  have hlo := h.lo; have hhi := h.hi
  have hix := run_index _ _ _ _ _ h4
  by_cases hn : u ≤ x.state.index
  · have z : (u - x.state.index).toNat = 0 := by omega
    rw [z]
    exact ⟨h.lo, h.hi, h.st, h.bh, h.sn⟩
  · have hlen : (x.state.index - x.log.base).toNat + (u - x.state.index).toNat ≤ x.log.entries.length := by have := hp.2.2.1; unfold mLast at hl; omega
    have hr := runGo_appd x.log.entries _ _ x.state [] hlen h4
    have hseg : (x.log.entries.drop (x.state.index - x.log.base).toNat).take (u - x.state.index).toNat = (com.drop x.state.index.toNat).take (u - x.state.index).toNat := by
      apply List.ext_getElem?
      intro j
      by_cases hj : j < (u - x.state.index).toNat
      · rw [List.getElem?_take_of_lt hj, List.getElem?_take_of_lt hj, List.getElem?_drop, List.getElem?_drop]
        have hb2 := hp.2.2.1
        have q := he ((x.state.index - x.log.base).toNat + j) (by omega)
        rw [show (x.log.base + (((x.state.index - x.log.base).toNat + j : Nat) : Int)).toNat = x.state.index.toNat + j by omega] at q
        have l1 : x.state.index.toNat + j < com.length := by omega
        have l2 : (x.state.index - x.log.base).toNat + j < x.log.entries.length := by omega
        rw [List.getD_eq_getElem?_getD, List.getD_eq_getElem?_getD, List.getElem?_eq_getElem l1, List.getElem?_eq_getElem l2] at q
        rw [List.getElem?_eq_getElem l1, List.getElem?_eq_getElem l2]
        exact congrArg some q.symm
      · rw [List.getElem?_eq_none (by rw [List.length_take]; omega), List.getElem?_eq_none (by rw [List.length_take]; omega)]
    have hsp : com.take u.toNat = com.take x.state.index.toNat ++ (com.drop x.state.index.toNat).take (u - x.state.index).toNat := by
      rw [show u.toNat = x.state.index.toNat + (u - x.state.index).toNat by omega, List.take_add]
    have hiu : (mRunGo x.log.entries (u - x.state.index).toNat (x.state.index - x.log.base).toNat x.state []).1.index = u := by rw [hix]; omega
    refine ⟨by show 0 ≤ DState.index _; rw [hiu]; omega, by show DState.index _ ≤ _; rw [hiu]; exact hu, ?_, h.bh, h.sn⟩
    show mAppd zState (com.take (DState.index _).toNat) = (_, true)
    rw [hiu, hsp, mAppd_append _ _ _ (by rw [h.st]), h.st, ← hseg, hr]
structure townIs (t : DTown) : Prop where
  ok : townOk t
  is : ∀ x, x ∈ t.r → repIs t.com x
theorem townIs.rep {t : DTown} (h : townIs t) {k : Int} (h0 : 0 ≤ k) (h2 : k ≤ 2) : repIs t.com (t.rep k) := h.is _ (mem_of_getD (by have := h.ok.r3; omega))
theorem townIs.set {t : DTown} (h : townIs t) {k : Int} {x : DReplica} (ho : townOk (t.set k x)) (hx : repIs t.com x) : townIs (t.set k x) := ⟨ho, fun y hy => (List.mem_or_eq_of_mem_set hy).elim (h.is y) fun e => e ▸ hx⟩
theorem townIs.grow {t : DTown} (h : townIs t) (n : Int) : townIs (t.grow n) := ⟨h.ok.grow n, fun x hx => by rw [DTown.grow_com]; exact (h.is x hx).mono⟩
theorem townIs.grow1 {t : DTown} (h : townIs t) (k : Int) : townIs (t.grow1 k) := by
  unfold DTown.grow1
  split
  · exact h
  · exact h.grow _
theorem townIs.commit {t : DTown} (h : townIs t) : townIs t.commit := ((h.grow1 0).grow1 1).grow1 2
theorem townIs.added {t : DTown} (h : townIs t) (s : ByteArray × Int) : townIs (t.added s).1 := by
  have ho := h.ok.added s
  unfold DTown.added at ho ⊢
  split
  · exact h
  rename_i q; rw [if_neg q] at ho
  split
  · rename_i h1; rw [if_pos h1] at ho; exact h.set ho ((h.rep h.ok.l0 h.ok.l2).hear h1)
  · exact h
theorem townIs.same {t u : DTown} (h : townIs t) (ho : townOk u) (hr : u.r = t.r) (hc : u.com = t.com) : townIs u := ⟨ho, fun x hx => by rw [hc]; exact h.is x (hr ▸ hx)⟩
theorem townIs.byOne {t : DTown} (h : townIs t) (a : DAct) : townIs (t.byOne a).1 := by
  have ho := h.ok.byOne a
  unfold DTown.byOne at ho ⊢
  split
  · exact h
  rename_i q; rw [if_neg q] at ho
  split
  · exact h.added _
  rename_i q; rw [if_neg q] at ho
  split
  · exact h.added _
  rename_i q; rw [if_neg q] at ho
  split
  · rename_i h1; rw [if_pos h1] at ho; exact h.same ho rfl rfl
  · exact h
theorem townIs.put {t : DTown} (h : townIs t) {k : Int} {x : DReplica × Int} (ho : townOk (t.put k x).1) (hx : x.2 = 0 → repIs t.com x.1) : townIs (t.put k x).1 := by
  unfold DTown.put at ho ⊢
  split
  · rename_i h1; rw [if_pos h1] at ho; exact h.set ho (hx h1)
  · exact h
theorem townIs.mailOne {t : DTown} (h : townIs t) (a : DAct) : townIs (t.mailOne a).1 := by
  have ho := h.ok.mailOne a
  have e : (t.mailOne a).1.r = t.r ∧ (t.mailOne a).1.com = t.com := by
    unfold DTown.mailOne DTown.heard DTown.left
    repeat' split
    all_goals exact ⟨rfl, rfl⟩
  exact h.same ho e.1 e.2
theorem townIs.snap {t : DTown} (h : townIs t) {k : Int} (h0 : 0 ≤ k) (h2 : k ≤ 2) (hb : 0 < (t.rep k).log.base) : ∃ S, mUnsnap (t.rep k).snap = (S, 0) ∧ 0 ≤ S.index ∧ S.index ≤ (t.com.length : Int) ∧ mAppd zState (t.com.take S.index.toNat) = (S, true) := by
  obtain ⟨S, e1, e2, e3⟩ := (h.rep h0 h2).sn hb
  exact ⟨S, e1, by omega, by rw [e2]; exact (h.rep h0 h2).bh, by rw [e2]; exact e3⟩
theorem townIs.told {t : DTown} (h : townIs t) {k many : Int} (h0 : 0 ≤ k) (h2 : k ≤ 2) (h1 : (t.told k many).2 = 0) : repIs t.com (t.told k many).1 := by
  have hr := h.ok.rep h0 h2
  have ha : 0 ≤ t.agr k := by have := hr.1.1; unfold DTown.agr; omega
  unfold DTown.told at h1 ⊢
  split
  · rename_i q; rw [if_pos q] at h1
    exact repIs.inst (h.snap h.ok.l0 h.ok.l2 (by show 0 < t.top.base; omega)) h1
  rename_i q; rw [if_neg q] at h1
  split
  · exact repIs.zero _
  · rename_i q2; rw [if_neg q2] at h1; exact (h.rep h0 h2).hear h1
theorem townIs.ship {t : DTown} (h : townIs t) {k many : Int} (h0 : 0 ≤ k) (h2 : k ≤ 2) : townIs (t.ship k many).1 := by
  unfold DTown.ship
  split
  · exact h
  split
  · rename_i h1; exact (h.set (h.ok.set (h.ok.told h0 h2 h1)) (h.told h0 h2 h1)).commit
  · exact h
theorem agr_is {t : DTown} {k : Int} (hb : 0 ≤ (t.rep k).log.base) (j : Nat) (h1 : (t.rep k).log.base + (j : Int) < t.agr k) (h2 : (t.rep k).log.base + (j : Int) < (t.com.length : Int)) : t.com.getD ((t.rep k).log.base + (j : Int)).toNat default = (t.rep k).log.entries.getD j default := by
  have h3 := allTo_good (firstNot_all (t.okAt (t.rep k).log) (t.rep k).log.entries.length) j (by unfold DTown.agr at h1; omega)
  have h4 := of_decide_eq_true h3
  unfold DTown.right at h4
  rw [if_pos h2] at h4
  exact Option.some.inj h4
theorem townIs.apply {t : DTown} (h : townIs t) {k many : Int} (h0 : 0 ≤ k) (h2 : k ≤ 2) : townIs (t.apply k many).1 := by
  have ho := h.ok.apply (many := many) h0 h2
  unfold DTown.apply at ho ⊢
  split
  · exact h
  rename_i q; rw [if_neg q] at ho
  split
  · exact h
  rename_i h1; rw [if_neg h1] at ho
  have hr := h.ok.rep h0 h2
  have hl : t.upto k many ≤ mLast (t.rep k).log := by
    have := firstNot_le (t.okAt (t.rep k).log) (t.rep k).log.entries.length
    unfold DTown.upto DTown.agr mLast; omega
  have hx : repIs t.com (t.ran k many).1 := (h.rep h0 h2).appl hr.1.1 (by unfold DTown.upto; omega) hl (fun j hj => agr_is hr.1.1 j (by unfold DTown.upto at hj; omega) (by unfold DTown.upto at hj; omega)) (Classical.not_not.1 h1)
  exact ⟨ho, fun y hy => (List.mem_or_eq_of_mem_set hy).elim (h.is y) fun e => e ▸ hx⟩
theorem townIs.atOne {t : DTown} (h : townIs t) (a : DAct) : townIs (t.atOne a).1 := by
  have ho := h.ok.atOne a
  unfold DTown.atOne at ho ⊢
  split
  · exact h
  rename_i q; rw [if_neg q] at ho
  split
  · exact h.ship (by omega) (by omega)
  rename_i q1; rw [if_neg q1] at ho
  split
  · exact h.apply (by omega) (by omega)
  rename_i q2; rw [if_neg q2] at ho
  split
  · split
    · exact h
    · have hl : townIs { t with lead := a.r } := h.same (h.ok.lead (by omega) (by omega)) rfl rfl
      exact hl.commit
  rename_i q3; rw [if_neg q3] at ho
  split
  · rename_i q4; rw [if_pos q4] at ho; exact h.put ho (h.rep (by omega) (by omega)).comp
  · rename_i q4; rw [if_neg q4] at ho; exact h.put ho ((h.rep (by omega) (by omega)).rest (h.ok.rep (by omega) (by omega)).1.1)
theorem townIs.act {t : DTown} (h : townIs t) (a : DAct) : townIs (t.act a).1 := by
  unfold DTown.act
  split
  · exact h
  split
  · exact h.byOne a
  split
  · exact h.atOne a
  · exact h.mailOne a
theorem townIs.acts : ∀ (l : List DAct) {t : DTown}, townIs t → townIs (t.acts l).1
  | [], _, h => h
  | a :: l, _, h => townIs.acts l (h.act a)
theorem townIs.start {n : Int} (h : n ≤ 9) : townIs (DTown.start n) := ⟨town_start h, fun x hx => by
  have e : x = zRepl := by
    simp only [DTown.start, List.mem_cons, List.not_mem_nil, or_false, or_self] at hx
    exact hx
  rw [e]; exact repIs.zero _⟩
end Go.Proofs.YtbjakddkfgjkaaaGreatDoor.Fw
namespace Go.Proofs.YtbjakddkfgjkaaaGreatDoor.Fw
open Go.RowKit
theorem pw_of {α : Type} [Inhabited α] {R : α → α → Prop} (tr : ∀ a b c, R a b → R b c → R a c) {l : List α} (h : ∀ i, 0 < i → i < l.length → R (l.getD (i - 1) default) (l.getD i default)) : l.Pairwise R := by
  have step : ∀ d i, i + d + 1 < l.length → R (l.getD i default) (l.getD (i + d + 1) default) := by
    intro d
    induction d with
    | zero => intro i hi; have := h (i + 1) (by omega) hi; simpa using this
    | succ d ih => intro i hi; exact tr _ _ _ (ih i (by omega)) (by have := h (i + (d + 1) + 1) (by omega) hi; simpa [Nat.add_assoc] using this)
  rw [List.pairwise_iff_getElem]
  intro i j hi hj hij
  have h1 := step (j - i - 1) i (by omega)
  rw [show i + (j - i - 1) + 1 = j by omega, List.getD_eq_getElem?_getD, List.getD_eq_getElem?_getD, List.getElem?_eq_getElem hi, List.getElem?_eq_getElem hj] at h1
  exact h1
theorem pw_adj {α : Type} [Inhabited α] {R : α → α → Prop} {l : List α} (h : l.Pairwise R) : ∀ i, 0 < i → i < l.length → R (l.getD (i - 1) default) (l.getD i default) := fun i h0 hi => by
  rw [List.pairwise_iff_getElem] at h
  have h1 := h (i - 1) i (by omega) hi (by omega)
  rw [List.getD_eq_getElem?_getD, List.getD_eq_getElem?_getD, List.getElem?_eq_getElem hi, List.getElem?_eq_getElem (show i - 1 < l.length by omega)]
  exact h1
theorem firstF_of {f : Nat → Int} : ∀ {n i : Nat}, (∀ j, i ≤ j → j < i + n → f j = 0) → firstF f n i = 0
  | 0, _, _ => rfl
  | n + 1, i, h => by
    unfold firstF
    rw [if_pos (h i (Nat.le_refl _) (by omega))]
    exact firstF_of fun j h1 h2 => h j (by omega) (by omega)
theorem allTo_of {p : Nat → Bool} : ∀ {n : Nat}, (∀ j, j < n → p j = true) → allTo p n = true
  | 0, _ => rfl
  | n + 1, h => allTo_step (allTo_of fun j hj => h j (by omega)) (h n (by omega))
theorem all_getD {α : Type} [Inhabited α] {P : α → Prop} {l : List α} (h : ∀ x, x ∈ l → P x) {j : Nat} (hj : j < l.length) : P (l.getD j default) := h _ (mem_of_getD hj)
theorem pw_map {α β : Type} {R : β → β → Prop} {f : α → β} {l m : List α} (h : l.Pairwise fun a b => R (f a) (f b)) (e : m.map f = l.map f) : m.Pairwise fun a b => R (f a) (f b) := by
  rw [← List.pairwise_map (R := R)] at h ⊢
  rw [e]; exact h
theorem map_set_same {α β : Type} [Inhabited α] {f : α → β} {l : List α} {i : Nat} {x : α} (h : f x = f (l.getD i default)) : (l.set i x).map f = l.map f := by
  rw [List.map_set]
  by_cases hi : i < l.length
  · rw [h, List.getD_eq_getElem?_getD, List.getElem?_eq_getElem hi]
    apply List.ext_getElem?
    intro j
    rw [List.getElem?_set]
    split
    · rename_i q; subst q
      rw [if_pos (by rw [List.length_map]; exact hi), List.getElem?_map, List.getElem?_eq_getElem hi]; rfl
    · rfl
  · rw [List.set_eq_of_length_le (by rw [List.length_map]; omega)]
theorem ins_nil {α : Type} (p : α → Bool) (x : α) : mIns p x [] = [x] := rfl
theorem ins_cons {α : Type} (p : α → Bool) (x y : α) (l : List α) : mIns p x (y :: l) = if p y = true then x :: y :: l else y :: mIns p x l := by
  unfold mIns
  rw [List.findIdx_cons]
  cases h : p y with
  | true => simp
  | false => simp
theorem ins_in {α : Type} {p : α → Bool} {x y : α} : ∀ {l : List α}, y ∈ mIns p x l ↔ y = x ∨ y ∈ l
  | [] => by rw [ins_nil]; simp
  | z :: l => by
    rw [ins_cons]
    split
    · simp [List.mem_cons]
    · rw [List.mem_cons, ins_in (l := l), List.mem_cons]
      constructor
      · rintro (h | h | h)
        · exact .inr (.inl h)
        · exact .inl h
        · exact .inr (.inr h)
      · rintro (h | h | h)
        · exact .inr (.inl h)
        · exact .inl h
        · exact .inr (.inr h)
theorem ins_pw {α : Type} {R : α → α → Prop} {p : α → Bool} {x : α} (tr : ∀ a b c, R a b → R b c → R a c) : ∀ {l : List α}, l.Pairwise R → (∀ a, a ∈ l → p a = false → R a x) → (∀ a, a ∈ l → p a = true → R x a) → (mIns p x l).Pairwise R
  | [], _, _, _ => by rw [ins_nil]; exact List.pairwise_singleton _ _
  | y :: l, h, h1, h2 => by
    rw [ins_cons]
    have hp := List.pairwise_cons.1 h
    split
    · rename_i hy
      refine List.pairwise_cons.2 ⟨fun a ha => ?_, h⟩
      rcases List.mem_cons.1 ha with rfl | ha
      · exact h2 _ (List.mem_cons_self ..) hy
      · exact tr _ _ _ (h2 _ (List.mem_cons_self ..) hy) (hp.1 a ha)
    · rename_i hy
      refine List.pairwise_cons.2 ⟨fun a ha => ?_, ins_pw tr hp.2 (fun a ha => h1 a (List.mem_cons_of_mem _ ha)) fun a ha => h2 a (List.mem_cons_of_mem _ ha)⟩
      rcases ins_in.1 ha with rfl | ha
      · exact h1 _ (List.mem_cons_self ..) (by simpa using hy)
      · exact hp.1 a ha
theorem cutat_sub {α : Type} (l : List α) (k : Nat) : (l.take k ++ l.drop (k + 1)).Sublist l := by
  rw [← List.eraseIdx_eq_take_drop_succ]; exact List.eraseIdx_sublist l k
def repOk (r : DReply) : Prop := 0 ≤ r.code ∧ r.code ≤ 15 ∧ 0 ≤ r.n ∧ r.n ≤ 1073741824 ∧ (r.text.size : Int) ≤ 12
def kAll (a : Int) (l : List DKept) : Prop := (∀ k, k ∈ l → a < k.seq ∧ k.seq ≤ a + 4 ∧ repOk k.reply) ∧ l.Pairwise fun x y => x.seq < y.seq
theorem kept_iff {d : DSession} : mReplies d = true ↔ kAll d.acked d.replies := by
  constructor
  · intro h
    have h1 := allTo_good h
    refine ⟨mem_getD (P := fun k : DKept => d.acked < k.seq ∧ k.seq ≤ d.acked + 4 ∧ repOk k.reply) fun j hj => ?_, pw_of (R := fun x y : DKept => x.seq < y.seq) (fun _ _ _ h1 h2 => Int.lt_trans h1 h2) (kept_rise h)⟩
    have h2 := of_decide_eq_true (h1 j hj)
    exact ⟨h2.1, h2.2.1, h2.2.2.2.1, h2.2.2.2.2.1, h2.2.2.2.2.2.1, h2.2.2.2.2.2.2.1, h2.2.2.2.2.2.2.2⟩
  · intro ⟨h1, h2⟩
    refine allTo_of fun j hj => decide_eq_true ?_
    obtain ⟨q1, q2, q3, q4, q5, q6, q7⟩ := all_getD h1 hj
    exact ⟨q1, q2, fun h0 => pw_adj h2 j h0 hj, q3, q4, q5, q6, q7⟩
def sOne (index : Int) (x : DSession) : Prop := 1 ≤ x.client ∧ x.client ≤ 9 ∧ 0 ≤ x.acked ∧ x.acked ≤ 1048576 ∧ 1 ≤ x.id ∧ x.id ≤ x.last ∧ x.last ≤ index ∧ kAll x.acked x.replies
structure sAll (index : Int) (l : List DSession) : Prop where
  le : l.length ≤ 4
  all : ∀ x, x ∈ l → sOne index x
  pw : l.Pairwise fun x y => x.client < y.client
theorem sess_iff {l : List DSession} {index : Int} : mSess l index = 0 ↔ 0 ≤ index ∧ index ≤ 1073741824 ∧ sAll index l := by
  constructor
  · intro h
    obtain ⟨h1, h2, h3, h4⟩ := mSess_bd h
    refine ⟨h1, h2, h3, mem_getD (P := sOne index) fun j hj => ?_, pw_of (R := fun x y : DSession => x.client < y.client) (fun _ _ _ h1 h2 => Int.lt_trans h1 h2) (sess_rise h)⟩
    obtain ⟨q1, q2, q3, q4, q5, q6, q7, q8, _⟩ := sessF_bd (h4 j hj)
    exact ⟨q1, q2, q3, q4, q5, q6, q7, kept_iff.1 q8⟩
  · intro ⟨h1, h2, h3⟩
    have hle := h3.le
    unfold mSess
    rw [if_neg (by omega), if_neg (by omega)]
    refine firstF_of fun j _ hj => ?_
    have hj' : j < l.length := by omega
    obtain ⟨q1, q2, q3, q4, q5, q6, q7, q8⟩ := all_getD h3.all hj'
    have q9 : mReplies (l.getD j default) = true := kept_iff.2 q8
    have q10 := fun h0 => pw_adj h3.pw j h0 hj'
    unfold sessF
    rw [if_neg (by omega), if_neg (by rw [q9]; simp), if_neg (by omega)]
theorem sAll.nil {index : Int} : sAll index [] := ⟨Nat.zero_le _, fun _ h => absurd h List.not_mem_nil, .nil⟩
theorem sOne.up {index : Int} {x : DSession} (h : sOne index x) : sOne (index + 1) x := by
  obtain ⟨q1, q2, q3, q4, q5, q6, q7, q8⟩ := h
  exact ⟨q1, q2, q3, q4, q5, q6, by omega, q8⟩
theorem sAll.up {index : Int} {l : List DSession} (h : sAll index l) : sAll (index + 1) l := ⟨h.le, fun x hx => (h.all x hx).up, h.pw⟩
theorem sAll.sub {index : Int} {l m : List DSession} (h : sAll index l) (hs : m.Sublist l) : sAll index m := ⟨Nat.le_trans hs.length_le h.le, fun x hx => h.all x (hs.subset hx), h.pw.sublist hs⟩
theorem sAll.set {index : Int} {l : List DSession} {i : Nat} {x : DSession} (h : sAll index l) (hx : sOne index x) (hc : x.client = (l.getD i default).client) : sAll index (l.set i x) :=
  ⟨by rw [List.length_set]; exact h.le, fun y hy => (List.mem_or_eq_of_mem_set hy).elim (h.all y) fun e => e ▸ hx, pw_map (R := fun a b : Int => a < b) (f := DSession.client) h.pw (map_set_same hc)⟩
theorem sAll.at {index : Int} {l : List DSession} {i : Nat} (h : sAll index l) (hi : i < l.length) : sOne index (l.getD i default) := all_getD h.all hi
theorem sIdx_in {l : List DSession} {c : Int} (h : ¬ sIdx l c < 0) : (sIdx l c).toNat < l.length ∧ (l.getD (sIdx l c).toNat default).client = c := by
  have := mIdx_pos (p := fun x : DSession => decide (x.client = c)) (L := l) (by unfold sIdx at h; omega)
  exact ⟨this.1, of_decide_eq_true this.2⟩
theorem sIdx_no {l : List DSession} {c : Int} (h : sIdx l c < 0) : ∀ x, x ∈ l → ¬ x.client = c :=
  mem_getD (P := fun x : DSession => ¬ x.client = c) fun j hj => of_decide_eq_false (mIdx_neg (p := fun x : DSession => decide (x.client = c)) h j hj)
theorem fresh_all {s : DState} (h : mState s = 0) : sAll s.index (aFresh s) := by
  have h1 := (mState_parts h).1
  unfold aFresh mFresh
  rw [if_pos h1]
  exact (sess_iff.1 h1).2.2.sub List.filter_sublist
theorem join_all {index : Int} {l : List DSession} {c : Int} (h : sAll index l) : sAll (index + 1) (mJoin l index c).1 := by
  unfold mJoin
  split
  · exact .nil
  rename_i h0
  have hb := sess_iff.1 (Classical.not_not.1 h0)
  split
  · exact .nil
  rename_i h1
  split
  · rename_i h2
    obtain ⟨q1, q2⟩ := sIdx_in (l := l) (c := c) (by omega)
    obtain ⟨p1, p2, p3, p4, p5, p6, p7, p8⟩ := h.at q1
    exact h.up.set (i := (sIdx l c).toNat) (x := { l.getD (sIdx l c).toNat default with last := index + 1 }) ⟨p1, p2, p3, p4, p5, by show (l.getD (sIdx l c).toNat default).id ≤ index + 1; omega, by show index + 1 ≤ index + 1; omega, p8⟩ rfl
  rename_i h2
  split
  · exact h.up
  · rename_i h3
    have hn := sIdx_no (l := l) (c := c) (by omega)
    refine ⟨by show (mIns (fun x : DSession => decide (c < x.client)) _ l).length ≤ 4; rw [ins_len]; omega, fun x hx => ?_, ?_⟩
    · rcases ins_in.1 hx with rfl | hx
      · exact ⟨by show 1 ≤ c; omega, by show c ≤ 9; omega, by show (0 : Int) ≤ 0; omega, by show (0 : Int) ≤ _; omega, by show 1 ≤ index + 1; omega, by show index + 1 ≤ index + 1; omega, by show index + 1 ≤ index + 1; omega, fun _ h => absurd h List.not_mem_nil, .nil⟩
      · exact (h.all x hx).up
    · refine ins_pw (R := fun x y : DSession => x.client < y.client) (fun _ _ _ h1 h2 => Int.lt_trans h1 h2) h.pw (fun a ha hp => ?_) fun a ha hp => of_decide_eq_true hp
      have := of_decide_eq_false hp
      have := hn a ha
      show a.client < c
      omega
theorem leave_all {index : Int} {l : List DSession} {c : Int} (h : sAll index l) : sAll index (mLeave l index c).1 := by
  unfold mLeave
  split
  · exact .nil
  split
  · exact h
  · exact h.sub (cutat_sub _ _)
theorem kLeft_all {d : DSession} {c : DCommand} (h : kAll d.acked d.replies) : kAll (kAck d c) (kLeft d c) := by
  refine ⟨fun k hk => ?_, h.2.sublist List.filter_sublist⟩
  obtain ⟨h1, h2⟩ := List.mem_filter.1 hk
  obtain ⟨q1, q2, q3⟩ := h.1 k h1
  have h3 : ¬ k.seq ≤ kAck d c := by simpa using h2
  have h4 : d.acked ≤ kAck d c := by unfold kAck; split <;> omega
  exact ⟨by omega, by omega, q3⟩
theorem ready_all {index : Int} {l : List DSession} {c : DCommand} (h : sAll index l) : sAll (index + 1) (mReady l index c).1 := by
  unfold mReady
  split
  · exact .nil
  split
  · exact .nil
  rename_i h1
  split
  · exact h.up
  · rename_i h2
    obtain ⟨q1, q2⟩ := sIdx_in (l := l) (c := c.client) (fun q => h2 (.inl q))
    obtain ⟨p1, p2, p3, p4, p5, p6, p7, p8⟩ := h.at q1
    have hk : 0 ≤ kAck (l.getD (sIdx l c.client).toNat default) c ∧ kAck (l.getD (sIdx l c.client).toNat default) c ≤ 1048576 := by unfold kAck; split <;> omega
    exact h.up.set ⟨p1, p2, hk.1, hk.2, p5, by show (l.getD (sIdx l c.client).toNat default).id ≤ index + 1; omega, by show index + 1 ≤ index + 1; omega, kLeft_all p8⟩ rfl
theorem keep_all {index : Int} {l : List DSession} {c q : Int} {r : DReply} (h : sAll index l) : sAll index (mKeep l index c q r).1 := by
  unfold mKeep
  split
  · exact .nil
  split
  · exact .nil
  rename_i h1
  split
  · exact .nil
  split
  · exact .nil
  · rename_i h3
    obtain ⟨q1, q2⟩ := sIdx_in (l := l) (c := c) h1
    obtain ⟨p1, p2, p3, p4, p5, p6, p7, p8⟩ := h.at q1
    exact h.set ⟨p1, p2, p3, p4, p5, p6, p7, kept_iff.1 (show mReplies (kIns _ q r) = true by simpa using h3)⟩ rfl
def nLt (a b : ByteArray) : Prop := Op.bytesLess a.toList b.toList = true
theorem nLt.trans (a b c : ByteArray) (h : nLt a b) (h2 : nLt b c) : nLt a c := bl_trans _ _ _ h h2
theorem nLt_of {a t : ByteArray} (h : ¬ Op.bytesLess t.toList a.toList = true) (hn : ¬ a = t) : nLt a t := by
  have h1 := bytes_total a t
  have h2 : Op.bytesLess t.toList a.toList = false := by simpa using h
  rw [h2] at h1
  simp only [Bool.not_false, Bool.or_eq_true, decide_eq_true_eq] at h1
  exact h1.resolve_right hn
structure lnOk (d : DLock) : Prop where
  all : ∀ z, z ∈ d.line → 1 ≤ z ∧ z ≤ 9 ∧ ¬ z = d.holder
  nd : d.line.Nodup
  le : d.line.length ≤ 3
  nil : d.holder = 0 → d.line = []
theorem line_iff {d : DLock} : lineOk d = true ↔ lnOk d := by
  unfold lineOk
  simp only [Bool.and_eq_true, decide_eq_true_eq, Bool.or_eq_true, Bool.not_eq_true', decide_eq_false_iff_not]
  constructor
  · intro ⟨h1, h2, h3⟩
    have h4 := allTo_good h1
    have h5 : ∀ j, j < d.line.length → (1 ≤ d.line.getD j default ∧ d.line.getD j default ≤ 9 ∧ ¬ d.line.getD j default = d.holder) ∧ ∀ z, z ∈ d.line.take j → ¬ z = d.line.getD j default := fun j hj => by
      have h6 := h4 j hj
      simp only [posOk, Bool.and_eq_true, Bool.not_eq_true', decide_eq_false_iff_not, List.any_eq_false, decide_eq_true_eq] at h6
      exact ⟨⟨(inB_t h6.1).1, (inB_t h6.1).2, h6.2.1⟩, h6.2.2⟩
    refine ⟨mem_getD (P := fun z : Int => 1 ≤ z ∧ z ≤ 9 ∧ ¬ z = d.holder) fun j hj => (h5 j hj).1, ?_, h2, fun h0 => ?_⟩
    · show d.line.Pairwise (· ≠ ·)
      rw [List.pairwise_iff_getElem]
      intro i j hi hj hij
      have h6 := (h5 j hj).2 d.line[i] (List.mem_take_iff_getElem.2 ⟨i, by omega, rfl⟩)
      rwa [List.getD_eq_getElem?_getD, List.getElem?_eq_getElem hj] at h6
    · rcases h3 with h3 | h3
      · exact absurd h0 h3
      · exact List.eq_nil_of_length_eq_zero h3
  · intro ⟨h1, h2, h3, h4⟩
    refine ⟨allTo_of fun j hj => ?_, h3, ?_⟩
    · have h5 := all_getD h1 hj
      have h6 : ∀ z, z ∈ d.line.take j → ¬ z = d.line.getD j default := fun z hz => by
        obtain ⟨i, hi, rfl⟩ := List.mem_take_iff_getElem.1 hz
        have h7 := (List.pairwise_iff_getElem.1 h2) i j (by omega) hj (by omega)
        rw [List.getD_eq_getElem?_getD, List.getElem?_eq_getElem hj]
        exact h7
      simp only [posOk, Bool.and_eq_true, Bool.not_eq_true', decide_eq_false_iff_not, List.any_eq_false, decide_eq_true_eq]
      exact ⟨by simp only [inB, Bool.and_eq_true, decide_eq_true_eq]; exact ⟨h5.1, h5.2.1⟩, h5.2.2, h6⟩
    · by_cases h0 : d.holder = 0
      · right; rw [h4 h0]; rfl
      · exact .inl h0
structure lOne (d : DLock) : Prop where
  nm : mName d.name = true
  h0 : 0 ≤ d.holder
  h9 : d.holder ≤ 9
  ln : lnOk d
  f1 : 1 ≤ d.fence
  f2 : d.fence ≤ 1073741824
structure lAll (l : List DLock) : Prop where
  le : l.length ≤ 5
  all : ∀ x, x ∈ l → lOne x
  pw : l.Pairwise fun x y => nLt x.name y.name
theorem locks_iff {l : List DLock} : mLocks l = 0 ↔ lAll l := by
  constructor
  · intro h
    obtain ⟨h1, h2⟩ := mLocks_bd h
    refine ⟨h1, mem_getD (P := lOne) fun j hj => ?_, pw_of (R := fun x y : DLock => nLt x.name y.name) (fun _ _ _ => nLt.trans _ _ _) fun i h0 hi => (lockF_bd (h2 i hi)).2.2.2.2.2.2 h0⟩
    obtain ⟨q1, q2, q3, q4, q5, q6, _⟩ := lockF_bd (h2 j hj)
    exact ⟨q1, q2, q3, line_iff.1 q4, q5, q6⟩
  · intro h
    have hle := h.le
    unfold mLocks
    rw [if_neg (by omega)]
    refine firstF_of fun j _ hj => ?_
    have hj' : j < l.length := by omega
    obtain ⟨q1, q2, q3, q4, q5, q6⟩ := all_getD h.all hj'
    have q10 := fun h0 => pw_adj h.pw j h0 hj'
    have q11 := line_iff.2 q4
    unfold lockF
    rw [if_neg (by rintro (q | q | q | q); rw [q1] at q; cases q; omega; omega; rw [q11] at q; cases q), if_neg (by omega), if_neg (by intro ⟨q, q'⟩; have := q10 q; unfold nLt at this; rw [this] at q'; cases q')]
theorem lAll.nil : lAll [] := ⟨Nat.zero_le _, fun _ h => absurd h List.not_mem_nil, .nil⟩
theorem lAll.set {l : List DLock} {i : Nat} {x : DLock} (h : lAll l) (hx : lOne x) (hc : x.name = (l.getD i default).name) : lAll (l.set i x) :=
  ⟨by rw [List.length_set]; exact h.le, fun y hy => (List.mem_or_eq_of_mem_set hy).elim (h.all y) fun e => e ▸ hx, pw_map (R := nLt) (f := DLock.name) h.pw (map_set_same hc)⟩
theorem unl_all {d : DLock} (h : lnOk d) (who : Int) : lnOk ⟨d.name, d.holder, d.fence, unline d.line who⟩ :=
  ⟨fun z hz => h.all z (List.mem_filter.1 hz).1, h.nd.sublist List.filter_sublist, Nat.le_trans (List.length_filter_le _ _) h.le, fun h0 => by show unline d.line who = []; rw [h.nil h0]; rfl⟩
theorem unl_one {d : DLock} (h : lOne d) (who : Int) : lOne ⟨d.name, d.holder, d.fence, unline d.line who⟩ := ⟨h.nm, h.h0, h.h9, unl_all h.ln who, h.f1, h.f2⟩
theorem pass_one {d : DLock} (h : lOne d) : lOne (mPass d) := by
  unfold mPass
  split
  · rename_i h1
    obtain ⟨n, ho, fe, li⟩ := d
    cases li with
    | nil => exact absurd h1.1 (Nat.lt_irrefl _)
    | cons z li =>
      have h2 := h.ln.all z (List.mem_cons_self ..)
      have h3 := List.nodup_cons.1 h.ln.nd
      have hf : 1 ≤ fe := h.f1
      have h5 : fe < 1073741824 := h1.2
      refine ⟨h.nm, by show 0 ≤ z; omega, h2.2.1, ⟨fun y hy => ?_, h3.2, by have := h.ln.le; simp only [List.length_cons] at this; show li.length ≤ 3; omega, fun h0 => ?_⟩, by show 1 ≤ fe + 1; omega, by show fe + 1 ≤ _; omega⟩
      · have hy' : y ∈ li := hy
        have h4 := h.ln.all y (List.mem_cons_of_mem _ hy')
        have h6 : ∀ q : y = z, False := fun q => h3.1 (q ▸ hy')
        exact ⟨h4.1, h4.2.1, fun e => h6 e⟩
      · have h0' : z = 0 := h0
        omega
  · exact ⟨h.nm, by show (0 : Int) ≤ 0; omega, by show (0 : Int) ≤ 9; omega, ⟨fun _ h => absurd h List.not_mem_nil, .nil, Nat.zero_le _, fun _ => rfl⟩, h.f1, h.f2⟩
theorem pass_nm (d : DLock) : (mPass d).name = d.name := by unfold mPass; split <;> rfl
theorem goneF_nm (who : Int) (d : DLock) : (goneF who d).name = d.name := by
  unfold goneF
  split
  · exact pass_nm _
  · rfl
theorem gone_all {l : List DLock} {who : Int} (h : lAll l) : lAll (mGone l who).1 := by
  unfold mGone
  split
  · exact .nil
  split
  · exact .nil
  · refine ⟨by show (l.map _).length ≤ 5; rw [List.length_map]; exact h.le, fun x hx => ?_, ?_⟩
    · obtain ⟨y, hy, rfl⟩ := List.mem_map.1 hx
      unfold goneF
      split
      · exact pass_one (unl_one (h.all y hy) who)
      · exact unl_one (h.all y hy) who
    · exact pw_map (R := nLt) (f := DLock.name) h.pw (by show (l.map (goneF who)).map DLock.name = _; rw [List.map_map]; exact List.map_congr_left fun x _ => goneF_nm who x)
theorem rel_all {now : List DSession} : ∀ (was : List DSession) {l : List DLock}, lAll l → lAll (mRel l was now)
  | [], _, h => h
  | x :: r, l, h => by
    have h1 : lAll (relOne now l x) := by
      unfold relOne
      split
      · exact gone_all h
      · exact h
    exact rel_all r h1
theorem lHas_mem {d : DLock} {who : Int} : lHas d who = true ↔ who ∈ d.line := by
  unfold lHas
  rw [List.any_eq_true]
  exact ⟨fun ⟨z, hz, e⟩ => of_decide_eq_true e ▸ hz, fun h => ⟨who, h, decide_eq_true rfl⟩⟩
theorem ask_ok {l : List DLock} {t : ByteArray} {who : Int} (h : ¬ ¬ mAsk l t who = 0) : mLocks l = 0 ∧ mName t = true ∧ 1 ≤ who ∧ who ≤ 9 := by
  have h := Classical.not_not.1 h
  unfold mAsk at h
  split at h
  · rename_i q; exact absurd h q
  rename_i q
  split at h
  · cases h
  rename_i q2
  split at h
  · cases h
  exact ⟨Classical.not_not.1 q, by simpa using q2, by omega, by omega⟩
theorem lTake_one {d : DLock} {who : Int} {b : Bool} (h : lOne d) (h1 : 1 ≤ who) (h9 : who ≤ 9) : lOne (lTake d who b).1 ∧ (lTake d who b).1.name = d.name ∧ repOk (lTake d who b).2 := by
  have e0 : (emp.size : Int) ≤ 12 := by rw [emp_size]; decide
  have hh := h.h0; have hh9 := h.h9; have f1 := h.f1; have f2 := h.f2
  have R : ∀ c n : Int, 0 ≤ c → c ≤ 15 → 0 ≤ n → n ≤ 1073741824 → repOk ⟨c, n, emp⟩ := fun c n a1 a2 a3 a4 => ⟨a1, a2, a3, a4, e0⟩
  unfold lTake
  split
  · exact ⟨h, rfl, R _ _ (by omega) (by omega) (by omega) (by omega)⟩
  rename_i n1
  split
  · rename_i z
    split
    · exact ⟨h, rfl, R _ _ (by omega) (by omega) (by omega) (by omega)⟩
    · have hl := h.ln.nil z
      refine ⟨⟨h.nm, by show 0 ≤ who; omega, h9, ⟨fun y hy => ?_, ?_, ?_, fun _ => hl⟩, by show 1 ≤ d.fence + 1; omega, by show d.fence + 1 ≤ _; omega⟩, rfl, R _ _ (by omega) (by omega) (by omega) (by omega)⟩
      · have hy' : y ∈ d.line := hy
        rw [hl] at hy'; exact absurd hy' List.not_mem_nil
      · show d.line.Nodup; exact h.ln.nd
      · exact h.ln.le
  rename_i z
  split
  · exact ⟨h, rfl, R _ _ (by omega) (by omega) (by omega) (by omega)⟩
  rename_i w
  split
  · exact ⟨h, rfl, R _ _ (by omega) (by omega) (by omega) (by omega)⟩
  · have hm : ¬ who ∈ d.line := fun q => w (.inr (lHas_mem.2 q))
    refine ⟨⟨h.nm, hh, hh9, ⟨fun y hy => ?_, ?_, by simp only [List.length_append, List.length_singleton]; omega, fun q => absurd q z⟩, f1, f2⟩, rfl, R _ _ (by omega) (by omega) (by omega) (by omega)⟩
    · rcases List.mem_append.1 hy with hy | hy
      · exact h.ln.all y hy
      · rw [List.mem_singleton.1 hy]; exact ⟨h1, h9, fun q => n1 q.symm⟩
    · refine List.nodup_append.2 ⟨h.ln.nd, by simp, fun a ha b hb e => ?_⟩
      rw [List.mem_singleton.1 hb] at e
      exact hm (e ▸ ha)
theorem lFree_one {d : DLock} {who : Int} (h : lOne d) : lOne (lFree d who).1 ∧ (lFree d who).1.name = d.name ∧ repOk (lFree d who).2 := by
  have e0 : (emp.size : Int) ≤ 12 := by rw [emp_size]; decide
  have R : ∀ c n : Int, 0 ≤ c → c ≤ 15 → 0 ≤ n → n ≤ 9 → repOk ⟨c, n, emp⟩ := fun c n a1 a2 a3 a4 => ⟨a1, a2, a3, by show n ≤ _; omega, e0⟩
  unfold lFree
  split
  · have := pass_one h
    exact ⟨this, pass_nm d, R _ _ (by omega) (by omega) this.h0 this.h9⟩
  split
  · exact ⟨unl_one h who, rfl, R _ _ (by omega) (by omega) h.h0 h.h9⟩
  · exact ⟨h, rfl, R _ _ (by omega) (by omega) h.h0 h.h9⟩
theorem lIdx_in {l : List DLock} {t : ByteArray} (h : ¬ lIdx l t < 0) : (lIdx l t).toNat < l.length ∧ (l.getD (lIdx l t).toNat default).name = t := by
  have := mIdx_pos (p := fun x : DLock => decide (x.name = t)) (L := l) (by unfold lIdx at h; omega)
  exact ⟨this.1, of_decide_eq_true this.2⟩
theorem zRep_ok : repOk zRep := ⟨by decide, by decide, by decide, by decide, by show (emp.size : Int) ≤ 12; rw [emp_size]; decide⟩
theorem rep_lit {c n : Int} (h1 : 0 ≤ c) (h2 : c ≤ 15) (h3 : 0 ≤ n) (h4 : n ≤ 1073741824) : repOk ⟨c, n, emp⟩ := ⟨h1, h2, h3, h4, by show (emp.size : Int) ≤ 12; rw [emp_size]; decide⟩
theorem mTake_all {l : List DLock} {t : ByteArray} {who : Int} {b : Bool} (h : lAll l) : lAll (mTake l t who b).1 ∧ repOk (mTake l t who b).2.1 := by
  unfold mTake
  split
  · exact ⟨.nil, zRep_ok⟩
  rename_i ha
  obtain ⟨a1, a2, a3, a4⟩ := ask_ok ha
  split
  · rename_i hn
    split
    · exact ⟨h, rep_lit (by omega) (by omega) (by omega) (by omega)⟩
    · rename_i h5
      refine ⟨⟨by show (mIns (fun x : DLock => Op.bytesLess t.toList x.name.toList) _ l).length ≤ 5; rw [ins_len]; omega, fun x hx => ?_, ?_⟩, rep_lit (by omega) (by omega) (by omega) (by omega)⟩
      · rcases ins_in.1 hx with rfl | hx
        · exact ⟨a2, by show 0 ≤ who; omega, a4, ⟨fun _ h => absurd h List.not_mem_nil, .nil, Nat.zero_le _, fun _ => rfl⟩, by show (1 : Int) ≤ 1; omega, by show (1 : Int) ≤ _; omega⟩
        · exact h.all x hx
      · refine ins_pw (R := fun x y : DLock => nLt x.name y.name) (fun _ _ _ => nLt.trans _ _ _) h.pw (fun a ha hp => ?_) fun a ha hp => hp
        have h6 := mem_getD (P := fun x : DLock => ¬ x.name = t) (fun j hj => of_decide_eq_false (mIdx_neg (p := fun x : DLock => decide (x.name = t)) hn j hj)) a ha
        exact nLt_of (by rw [hp]; simp) h6
  · rename_i hn
    obtain ⟨q1, q2⟩ := lIdx_in hn
    obtain ⟨p1, p2, p3⟩ := lTake_one (b := b) (all_getD h.all q1) a3 a4
    exact ⟨h.set p1 p2, p3⟩
theorem mFree_all {l : List DLock} {t : ByteArray} {who : Int} (h : lAll l) : lAll (mFree l t who).1 ∧ repOk (mFree l t who).2.1 := by
  unfold mFree
  split
  · exact ⟨.nil, zRep_ok⟩
  rename_i ha
  split
  · exact ⟨h, rep_lit (by omega) (by omega) (by omega) (by omega)⟩
  · rename_i hn
    obtain ⟨q1, q2⟩ := lIdx_in hn
    obtain ⟨p1, p2, p3⟩ := lFree_one (who := who) (all_getD h.all q1)
    exact ⟨h.set p1 p2, p3⟩
structure pOne (d : DPair) : Prop where
  nm : mName d.name = true
  sz : (d.value.size : Int) ≤ 12
  v1 : 1 ≤ d.version
  v2 : d.version ≤ 1073741824
structure pAll (l : List DPair) : Prop where
  le : l.length ≤ 5
  all : ∀ x, x ∈ l → pOne x
  pw : l.Pairwise fun x y => nLt x.name y.name
theorem pairs_iff {l : List DPair} : mPairs l = 0 ↔ pAll l := by
  constructor
  · intro h
    obtain ⟨h1, h2⟩ := mPairs_bd h
    refine ⟨h1, mem_getD (P := pOne) fun j hj => ?_, pw_of (R := fun x y : DPair => nLt x.name y.name) (fun _ _ _ => nLt.trans _ _ _) fun i h0 hi => (pairF_bd (h2 i hi)).2.2.2.2 h0⟩
    obtain ⟨q1, q2, q3, q4, _⟩ := pairF_bd (h2 j hj)
    exact ⟨q1, q2, q3, q4⟩
  · intro h
    have hle := h.le
    unfold mPairs
    rw [if_neg (by omega)]
    refine firstF_of fun j _ hj => ?_
    have hj' : j < l.length := by omega
    obtain ⟨q1, q2, q3, q4⟩ := all_getD h.all hj'
    have q10 := fun h0 => pw_adj h.pw j h0 hj'
    unfold pairF
    rw [if_neg (by rw [q1]; simp), if_neg (by omega), if_neg (by omega), if_neg (by intro ⟨q, q'⟩; have := q10 q; unfold nLt at this; rw [this] at q'; cases q')]
theorem pset_all {l : List DPair} {t v : ByteArray} (h : pAll l) : pAll (mPSet l t v).1 ∧ repOk (mPSet l t v).2.1 := by
  unfold mPSet
  split
  · exact ⟨⟨Nat.zero_le _, fun _ h => absurd h List.not_mem_nil, .nil⟩, zRep_ok⟩
  split
  · exact ⟨⟨Nat.zero_le _, fun _ h => absurd h List.not_mem_nil, .nil⟩, zRep_ok⟩
  rename_i a1
  split
  · exact ⟨⟨Nat.zero_le _, fun _ h => absurd h List.not_mem_nil, .nil⟩, zRep_ok⟩
  rename_i a2
  split
  · rename_i hi
    obtain ⟨q1, q2⟩ := mIdx_pos (p := fun x : DPair => decide (x.name = t)) (L := l) (by unfold pIdx at hi; exact hi)
    have hx := all_getD h.all q1
    have v1 := hx.v1; have v2 := hx.v2
    split
    · exact ⟨h, rep_lit (by omega) (by omega) (by omega) (by omega)⟩
    · rename_i v3
      unfold pIdx at v3 ⊢
      refine ⟨⟨by show (List.set _ _ _).length ≤ 5; rw [List.length_set]; exact h.le, fun y hy => (List.mem_or_eq_of_mem_set hy).elim (h.all y) fun e => e ▸ ⟨hx.nm, ?_, ?_, ?_⟩, pw_map (R := nLt) (f := DPair.name) h.pw (map_set_same rfl)⟩, rep_lit (by omega) (by omega) (by omega) (by omega)⟩
      · show (v.size : Int) ≤ 12; omega
      · show 1 ≤ (l.getD _ default).version + 1; omega
      · show (l.getD _ default).version + 1 ≤ _; omega
  rename_i hn
  split
  · exact ⟨h, rep_lit (by omega) (by omega) (by omega) (by omega)⟩
  · rename_i h5
    refine ⟨⟨by show (mIns (fun x : DPair => Op.bytesLess t.toList x.name.toList) _ l).length ≤ 5; rw [ins_len]; omega, fun x hx => ?_, ?_⟩, rep_lit (by omega) (by omega) (by omega) (by omega)⟩
    · rcases ins_in.1 hx with rfl | hx
      · exact ⟨by simpa using a1, by show (v.size : Int) ≤ 12; omega, by show (1 : Int) ≤ 1; omega, by show (1 : Int) ≤ _; omega⟩
      · exact h.all x hx
    · refine ins_pw (R := fun x y : DPair => nLt x.name y.name) (fun _ _ _ => nLt.trans _ _ _) h.pw (fun a ha hp => ?_) fun a ha hp => hp
      have h6 := mem_getD (P := fun x : DPair => ¬ x.name = t) (fun j hj => of_decide_eq_false (mIdx_neg (p := fun x : DPair => decide (x.name = t)) (by unfold pIdx at hn; omega) j hj)) a ha
      exact nLt_of (by rw [hp]; simp) h6
theorem state_iff {s : DState} : mState s = 0 ↔ (0 ≤ s.index ∧ s.index ≤ 1073741824 ∧ sAll s.index s.sessions) ∧ lAll s.locks ∧ pAll s.pairs := by
  constructor
  · intro h
    obtain ⟨h1, h2, h3⟩ := mState_parts h
    exact ⟨sess_iff.1 h1, locks_iff.1 h2, pairs_iff.1 h3⟩
  · intro ⟨h1, h2, h3⟩
    unfold mState
    rw [if_pos (sess_iff.2 h1), if_pos (locks_iff.2 h2)]
    exact pairs_iff.2 h3
theorem do_all {l : List DLock} {p : List DPair} {who : Int} {o : DOp} (h : lAll l) (hp : pAll p) : lAll (mDo l p who o).1 ∧ pAll (mDo l p who o).2.1 ∧ repOk (mDo l p who o).2.2 := by
  have hw : 0 ≤ (mWho l o.a).1 ∧ (mWho l o.a).1 ≤ 9 := by
    unfold mWho
    split
    · split
      · rename_i q
        have hx := all_getD h.all (mIdx_pos q.1).1
        exact ⟨hx.h0, hx.h9⟩
      · exact ⟨Int.le_refl 0, by show (0 : Int) ≤ 9; omega⟩
    · exact ⟨Int.le_refl 0, by show (0 : Int) ≤ 9; omega⟩
  unfold mDo
  split
  · exact ⟨(mTake_all h).1, hp, (mTake_all h).2⟩
  split
  · exact ⟨(mFree_all h).1, hp, (mFree_all h).2⟩
  split
  · exact ⟨h, hp, rep_lit (by omega) (by omega) hw.1 (by omega)⟩
  split
  · refine ⟨h, hp, ?_⟩
    show repOk (mGot p o.a).1
    unfold mGot
    split
    · show repOk (if _ then _ else _)
      split
      · rename_i q
        have hx := all_getD hp.all (mIdx_pos q).1
        have v1 := hx.v1
        exact ⟨by show (0 : Int) ≤ 0; omega, by show (0 : Int) ≤ 15; omega, by show 0 ≤ DPair.version _; omega, hx.v2, hx.sz⟩
      · exact rep_lit (by omega) (by omega) (by omega) (by omega)
    · exact zRep_ok
  split
  · exact ⟨h, hp, rep_lit (by omega) (by omega) hw.1 (by omega)⟩
  · exact ⟨h, (pset_all hp).1, (pset_all hp).2⟩
theorem step_all {s : DState} {c : DCommand} (h : mState s = 0) (hi : s.index < 1073741824) : mState (mStep s c).1 = 0 := by
  obtain ⟨⟨h1, h2, h3⟩, h4, h5⟩ := state_iff.1 h
  have hf := fresh_all h
  have hl : lAll (aLocks s) := rel_all _ h4
  have key : ∀ (a : List DLock) (p : List DPair) (x : List DSession), lAll a → pAll p → sAll (s.index + 1) x → mState ⟨s.index + 1, a, p, x⟩ = 0 := fun a p x q1 q2 q3 => state_iff.2 ⟨⟨by show 0 ≤ s.index + 1; omega, by show s.index + 1 ≤ _; omega, q3⟩, q1, q2⟩
  unfold mStep
  split
  · exact key _ _ _ hl h5 (join_all hf)
  split
  · exact key _ _ _ (rel_all _ hl) h5 (leave_all hf).up
  split
  · obtain ⟨q1, q2, q3⟩ := do_all (who := c.client) (o := c.op) hl h5
    exact key _ _ _ q1 q2 (keep_all (ready_all hf))
  · exact key _ _ _ hl h5 (ready_all hf)
theorem apply_good {s : DState} {t : ByteArray} (h : (mApply s t).2.2 = 0) : mState (mApply s t).1 = 0 := by
  unfold mApply at h ⊢
  split at h
  · rename_i q; exact absurd h q
  rename_i q; rw [if_neg q]
  split at h
  · cases h
  rename_i q2; rw [if_neg q2]
  split at h
  · rename_i q3; exact absurd h q3
  rename_i q3; rw [if_neg q3]
  exact step_all (Classical.not_not.1 q) (by omega)
theorem mState_zero : mState zState = 0 := rfl
theorem appd_good : ∀ (l : List ByteArray) {s : DState}, mState s = 0 → (mAppd s l).2 = true → mState (mAppd s l).1 = 0
  | [], _, h, _ => h
  | x :: l, s, h, h2 => by
    rw [mAppd_cons] at h2 ⊢
    split
    · rename_i h3; rw [if_pos h3] at h2; exact appd_good l (apply_good h3) h2
    · rfl
end Go.Proofs.YtbjakddkfgjkaaaGreatDoor.Fw
namespace Go.Proofs.YtbjakddkfgjkaaaGreatDoor.Fw
open Go.RowKit
structure DRaw where
  kind : Int
  a : Int
  b : Int
  c : Int
  deriving Inhabited
instance : Lay DRaw where
  sub _ _ x := inR x.kind ∧ inR x.a ∧ inR x.b ∧ inR x.c
  stay := fun _ h => h
  wide := fun _ h => h
  ok x := inR x.kind ∧ inR x.a ∧ inR x.b ∧ inR x.c
  small _ := True
  okof := fun h => h
  size := 4
  pos := by decide
  cells x := [.int .i64 x.kind, .int .i64 x.a, .int .i64 x.b, .int .i64 x.c]
  len _ := rfl
  one _ := rfl
abbrev DRaw.val (x : DRaw) : Value := .agg #[.int .i64 x.kind, .int .i64 x.a, .int .i64 x.b, .int .i64 x.c]
instance : Lay (Sl DAct) where
  sub B w x := x.rd B w
  stay := fun hs h => Sl.rd.stay h hs
  wide := fun hs h => Sl.rd.wide h hs
  ok x := x.ok
  small x := Rds.small x
  okof := fun h => Sl.rd.ok h
  size := 1
  pos := by decide
  cells x := [.slice x.A x.n x.c]
  len _ := rfl
  one _ := rfl
def cstr (l : List Nat) : ByteArray := ⟨(l.map UInt8.ofNat).toArray⟩
theorem cstr_size (l : List Nat) : (cstr l).size = l.length := by
  show (l.map UInt8.ofNat).toArray.size = _
  simp
def vNeg (o : Oper) (s : SS) : Option Int :=
  match o.op with
  | .unOp .neg _ X => match ev s X with
    | some (.v (.int .i64 a)) => some a
    | _ => none
  | _ => none
section
variable {C : Cx} {Q : Exit → Act → World → Prop} {R0 R : List Res} {m : Mch}
theorem Mneg {a : Int} (J : JM C Q R0 R (nx C (adv0 m (vI (-a))))) (hr : inR (-a) := by unfold inR; omega) (hR : R0.Sublist R := by first | exact List.nil_sublist _ | exact List.Sublist.refl _) (hx : vw C.n vNeg m = some a := by kernel_rfl) (hL : locB m m.s.loc = locS m := by kernel_rfl) : JM C Q R0 R m := by
  refine m_eff (σ := Unit) vNeg _ hx (fun _ => vI (-a)) (fun _ => m.s.loc) (fun _ => R) (fun o h => ?_) (fun _ => hL) (fun _ => hR) (fun _ => J)
  unfold vNeg at h
  split at h
  · rename_i T X hop
    split at h
    · rename_i a' h1
      injection h with h
      subst h
      rintro bs a w ⟨hfr, hn, hS⟩ K Q' hK
      refine Oper.wp_value ?_ (hK () w hS)
      unfold execOp
      rw [hop]
      have e1 := ev_sound hfr h1
      simp only [den] at e1
      have e2 : IntKind.i64.wrap (-a') = -a' := wrap64_id (x := -a') ⟨hr.1, hr.2⟩
      simp [e1, den, Op.unary, Op.intArith, e2]
    · cases h
  · cases h
theorem pIq {α : Type} [Lay α] {s : Sl α} (t : Nat) (z : Int) (i : Nat) (ok : s.ok) (hi : i < s.n := by omega) (hz : z = (i : Int) := by first | rfl | omega) : Pk C R [(t, .idx s.ad i)] [s.A = some s.ad, z = (i : Int), i < s.n] [] :=
  ⟨fun _ _ _ => ⟨ok.own hi, hz, hi, trivial⟩, fun _ _ _ => trivial⟩
def vLd (o : Oper) (s : SS) : Option (TypeId × Addr) :=
  match o.op with
  | .load T X => match ev s X with
    | some (.v (.pointer (some a))) => some (T, a)
    | _ => none
  | _ => none
theorem Mlo {α : Type} [Lay α] {B : Nat → Prop} {s : Sl α} {T : TypeId} (i : Nat) (v : Value) (rd : ∀ w, (∀ r, r ∈ R → r.p w) → s.rd B w) (J : JM C Q R0 R (nx C (adv0 m (.v v)))) (hi : i < s.n := by omega) (hc : Lay.cells (s.at i) = [v] := by rfl) (hT : (C.P.underlying T).isNone = false := by kernel_rfl) (hA : isAggB C.P T = false := by kernel_rfl)
    (hR : R0.Sublist R := by first | exact List.nil_sublist _ | exact List.Sublist.refl _) (hx : vw C.n vLd m = some (T, s.ad.add (i * Lay.size α)) := by kernel_rfl) (hL : locB m m.s.loc = locS m := by kernel_rfl) : JM C Q R0 R m := by
  refine m_eff (σ := Unit) vLd _ hx (fun _ => .v v) (fun _ => m.s.loc) (fun _ => R) (fun o h => ?_) (fun _ => hL) (fun _ => hR) (fun _ => J)
  unfold vLd at h
  split at h
  · rename_i T' X hop
    split at h
    · rename_i a' h1
      simp only [Option.some.injEq, Prod.mk.injEq] at h
      obtain ⟨rfl, rfl⟩ := h
      rintro bs a w ⟨hfr, hn, hS⟩ K Q' hK
      refine Oper.wp_value (quiet_sound C.P o m.s (.ext [v]) (.v v) [] [(s.ad.add (i * Lay.size α), [v])] bs a w ?_ trivial hfr hS.loc ⟨by rw [← hc]; exact (rd w hS.res).get hi, trivial⟩) (hK () w hS)
      rw [hop]
      simp only [quietOp, hT, h1, hA]
      rfl
    · cases h
  · cases h
end
theorem tdiv_inR {n c : Int} (h : inR n) (hc : 1 < c) : inR (n.tdiv c) := by
  unfold inR at h ⊢
  rcases Int.le_total 0 n with h0 | h0
  · rw [Int.tdiv_eq_ediv_of_nonneg h0]
    have h1 : 0 ≤ n / c := Int.ediv_nonneg h0 (by omega)
    have h2 : n / c ≤ n := Int.ediv_le_self c h0
    omega
  · have h1 : n.tdiv c = -((-n) / c) := by rw [← Int.tdiv_eq_ediv_of_nonneg (show 0 ≤ -n by omega), Int.neg_tdiv, Int.neg_neg]
    have h2 : 0 ≤ (-n) / c := Int.ediv_nonneg (by omega) (by omega)
    have h3 : (-n) / c ≤ -n := Int.ediv_le_self c (by omega)
    omega
theorem quo_any {P : Program} {T : TypeId} {X Y : Operand} {n c : Int} (h : inR n) (hc : 1 < c) (w : World) : (do eqGuard .quo T X Y (.int .i64 n) (.int .i64 c); binOp .quo T (.int .i64 n) (.int .i64 c) : Sem Value).run P w = .ok (.int .i64 (n.tdiv c)) w := by
  have h0 : ¬ c = 0 := by omega
  simp [eqGuard, binOp, Op.intDiv, h0, wrap64_id (tdiv_inR h hc)]
def mPick (n m : Int) : Int := (if n < 0 then -(n + 1) else n) % m
theorem pick_bd (n : Int) {m : Int} (h : 0 < m) : 0 ≤ mPick n m ∧ mPick n m < m := ⟨Int.emod_nonneg _ (by omega), Int.emod_lt_of_pos _ h⟩
theorem pick_neg {n m : Int} (h : n < 0) : mPick n m = -(n + 1) % m := by unfold mPick; rw [if_pos h]
theorem pick_pos {n m : Int} (h : ¬ n < 0) : mPick n m = n % m := by unfold mPick; rw [if_neg h]
def nmL : List ByteArray := [cstr [97], cstr [98], cstr [107, 101, 121]]
def mNm (n : Int) : ByteArray := nmL.getD (mPick n 3).toNat default
theorem nmL_in : ∀ z, z ∈ nmL → z.size ≤ 3 := by
  intro z hz
  simp only [nmL, List.mem_cons, List.not_mem_nil, or_false] at hz
  rcases hz with rfl | rfl | rfl <;> rw [cstr_size] <;> decide
theorem mNm_size (n : Int) : (mNm n).size ≤ 3 := by
  unfold mNm
  have := pick_bd n (m := 3) (by omega)
  refine nmL_in _ (mem_of_getD ?_)
  show _ < 3
  omega
def digTx : ByteArray := cstr [48, 49, 50, 51, 52, 53, 54, 55, 56, 57, 97, 98, 99, 100, 101, 102, 103, 104, 105, 106, 107, 108, 109, 110, 111, 112, 113, 114, 115, 116, 117, 118, 119, 120, 121, 122]
def smlTx : ByteArray := cstr [48, 48, 48, 49, 48, 50, 48, 51, 48, 52, 48, 53, 48, 54, 48, 55, 48, 56, 48, 57, 49, 48, 49, 49, 49, 50, 49, 51, 49, 52, 49, 53, 49, 54, 49, 55, 49, 56, 49, 57, 50, 48, 50, 49, 50, 50, 50, 51, 50, 52, 50, 53, 50, 54, 50, 55, 50, 56, 50, 57, 51, 48, 51, 49, 51, 50, 51, 51, 51, 52, 51, 53, 51, 54, 51, 55, 51, 56, 51, 57, 52, 48, 52, 49, 52, 50, 52, 51, 52, 52, 52, 53, 52, 54, 52, 55, 52, 56, 52, 57, 53, 48, 53, 49, 53, 50, 53, 51, 53, 52, 53, 53, 53, 54, 53, 55, 53, 56, 53, 57, 54, 48, 54, 49, 54, 50, 54, 51, 54, 52, 54, 53, 54, 54, 54, 55, 54, 56, 54, 57, 55, 48, 55, 49, 55, 50, 55, 51, 55, 52, 55, 53, 55, 54, 55, 55, 55, 56, 55, 57, 56, 48, 56, 49, 56, 50, 56, 51, 56, 52, 56, 53, 56, 54, 56, 55, 56, 56, 56, 57, 57, 48, 57, 49, 57, 50, 57, 51, 57, 52, 57, 53, 57, 54, 57, 55, 57, 56, 57, 57]
def mItoa (n : Int) : ByteArray := if n < 10 then digTx.extract n.toNat (n + 1).toNat else smlTx.extract (n * 2).toNat (n * 2 + 2).toNat
theorem digTx_size : digTx.size = 36 := cstr_size _
theorem smlTx_size : smlTx.size = 200 := cstr_size _
theorem mItoa_size (n : Int) : (mItoa n).size ≤ 3 := by
  unfold mItoa
  have h1 := digTx_size
  have h2 := smlTx_size
  split <;> rw [ByteArray.size_extract] <;> omega
def opL : List Int := [1, 2, 2, 3, 3, 4, 5, 5, 6]
def opK (n : Int) : Int := opL.getD (mPick n 9).toNat default
def vStr : ByteArray := cstr [118]
def mOpR (r : DRaw) : DOp := if opK r.kind = 5 then ⟨opK r.kind, mNm r.a, vStr ++ mItoa (mPick r.b 90), 1 + mPick r.c 4⟩ else ⟨opK r.kind, mNm r.a, emp, 0⟩
theorem opR_set {r : DRaw} (h : opK r.kind = 5) : mOpR r = ⟨opK r.kind, mNm r.a, vStr ++ mItoa (mPick r.b 90), 1 + mPick r.c 4⟩ := by unfold mOpR; rw [if_pos h]
theorem opR_not {r : DRaw} (h : ¬ opK r.kind = 5) : mOpR r = ⟨opK r.kind, mNm r.a, emp, 0⟩ := by unfold mOpR; rw [if_neg h]
def actOk (z : DAct) : Prop := z.op.a.size ≤ 9223372036854775807 ∧ z.op.b.size ≤ 9223372036854775807
theorem opR_ok (r : DRaw) : (mOpR r).a.size ≤ 9223372036854775807 ∧ (mOpR r).b.size ≤ 9223372036854775807 := by
  have h1 := mNm_size r.a
  have h2 := mItoa_size (mPick r.b 90)
  unfold mOpR
  split
  · exact ⟨by show (mNm r.a).size ≤ _; omega, by show (vStr ++ mItoa _).size ≤ _; rw [ByteArray.size_append, show vStr.size = 1 from cstr_size _]; omega⟩
  · exact ⟨by show (mNm r.a).size ≤ _; omega, by show emp.size ≤ _; rw [emp_size]; omega⟩
theorem raw_in {l : Sl DRaw} (h : l.ok) (i : Nat) : inR (l.at i).kind ∧ inR (l.at i).a ∧ inR (l.at i).b ∧ inR (l.at i).c := by
  by_cases hi : i < l.n
  · exact h.at hi
  · have e : l.at i = default := by unfold Sl.at; rw [List.getD_eq_getElem?_getD, List.getElem?_eq_none (by unfold Sl.n at hi; omega)]; rfl
    have e2 : (default : DRaw) = ⟨0, 0, 0, 0⟩ := rfl
    rw [e, e2]
    have h0 : inR 0 := by unfold inR; omega
    exact ⟨h0, h0, h0, h0⟩
theorem mul_small {a b : Int} (h0 : 0 ≤ a) (h1 : a ≤ 1000) (h2 : 0 ≤ b) (h3 : b ≤ 1000) : inR (a * b) := by
  have h4 : 0 ≤ a * b := Int.mul_nonneg h0 h2
  have h5 : a * b ≤ 1000 * 1000 := Int.le_trans (Int.mul_le_mul_of_nonneg_right h1 h2) (Int.mul_le_mul_of_nonneg_left h3 (by omega))
  unfold inR
  omega
theorem act_plain (k c r q : Int) : actOk ⟨k, c, r, q, ⟨0, emp, emp, 0⟩⟩ := ⟨by show emp.size ≤ _; rw [emp_size]; omega, by show emp.size ≤ _; rw [emp_size]; omega⟩
theorem act_op (k c r q : Int) (x : DRaw) : actOk ⟨k, c, r, q, ⟨(mOpR x).kind, (mOpR x).a, (mOpR x).b, (mOpR x).n⟩⟩ := opR_ok x
theorem acts_nil : ∀ z, z ∈ ([] : List DAct) → actOk z := fun _ h => absurd h List.not_mem_nil
theorem acts_one {x : DAct} (h : actOk x) : ∀ z, z ∈ [x] → actOk z := fun z hz => by rw [List.mem_singleton.1 hz]; exact h
theorem acts_two {x y : DAct} (h : actOk x) (h2 : actOk y) : ∀ z, z ∈ [x, y] → actOk z := fun z hz => by
  rcases List.mem_cons.1 hz with rfl | hz
  · exact h
  · rw [List.mem_singleton.1 hz]; exact h2
theorem acts_app {L M : List DAct} (h : ∀ z, z ∈ L → actOk z) (h2 : ∀ z, z ∈ M → actOk z) : ∀ z, z ∈ L ++ M → actOk z := fun z hz => (List.mem_append.1 hz).elim (h z) (h2 z)
def catTo (s : Sl (Sl DAct)) (i : Nat) : Nat := ((s.xs.take i).flatMap Sl.xs).length
def catAll (s : Sl (Sl DAct)) : List DAct := s.xs.flatMap Sl.xs
theorem cat_take {s : Sl (Sl DAct)} {i : Nat} (h : i < s.n) : (s.xs.take (i + 1)).flatMap Sl.xs = (s.xs.take i).flatMap Sl.xs ++ (s.at i).xs := by
  rw [← take_snoc h, List.flatMap_append, List.flatMap_singleton]
theorem cat_next {s : Sl (Sl DAct)} {i : Nat} (h : i < s.n) : catTo s (i + 1) = catTo s i + (s.at i).n := by
  unfold catTo; rw [cat_take h, List.length_append]
theorem cat_le (s : Sl (Sl DAct)) (i : Nat) : catTo s i ≤ (catAll s).length := by
  have h : catAll s = (s.xs.take i).flatMap Sl.xs ++ (s.xs.drop i).flatMap Sl.xs := by rw [← List.flatMap_append, List.take_append_drop]; rfl
  rw [h, List.length_append]
  exact Nat.le_add_right _ _
theorem cat_all {s : Sl (Sl DAct)} {i : Nat} (h : s.n ≤ i) : (s.xs.take i).flatMap Sl.xs = catAll s := by rw [List.take_of_length_le h]; rfl
theorem cat_ok {s : Sl (Sl DAct)} (h : s.ok) : ∀ z, z ∈ catAll s → actOk z := fun z hz => by
  obtain ⟨x, hx, hz⟩ := List.mem_flatMap.1 hz
  obtain ⟨i, hi, rfl⟩ := List.getElem_of_mem hx
  have h1 : Sl.ok (s.at i) := h.at (i := i) hi
  have e : s.at i = s.xs[i] := by unfold Sl.at; rw [List.getD_eq_getElem?_getD, List.getElem?_eq_getElem hi]; rfl
  rw [e] at h1
  obtain ⟨j, hj, rfl⟩ := List.getElem_of_mem hz
  have h2 := h1.at (i := j) hj
  have e2 : (s.xs[i]).at j = (s.xs[i]).xs[j] := by unfold Sl.at; rw [List.getD_eq_getElem?_getD, List.getElem?_eq_getElem hj]; rfl
  rw [e2] at h2
  exact h2
theorem raw_row0 {α : Type} [Lay α] {e g c : Nat} {cur : List Value} {w : World} (h : (rawR e (Lay.size α) g c cur).p w) : (rowA e (some ⟨g, 0, none⟩) c ([] : List α)).p w := raw_rowA h [] (by simp) (Nat.zero_le _)
theorem Sl.rd.front {α : Type} [Lay α] {B : Nat → Prop} {w : World} {s : Sl α} (h : s.rd B w) (k : Nat) : Sl.rd B w (⟨s.A, s.c, s.xs.take k⟩ : Sl α) := by
  refine ⟨Nat.le_trans (by show (s.xs.take k).length ≤ s.xs.length; rw [List.length_take]; omega) h.1, h.2.1, fun i x hx => ?_⟩
  have hx' : s.xs[i]? = some x := by
    rw [List.getElem?_take] at hx
    split at hx
    · exact hx
    · cases hx
  exact h.2.2 i x hx'
theorem ran_out {l : List DAct} (h : l.length ≤ 400) : (mRunT 3 l).2.2 = 0 ∧ (mRunT 3 l).1 = ((DTown.start 3).acts l).1 := by
  unfold mRunT
  rw [if_neg (by omega), if_neg (by omega)]
  exact ⟨rfl, rfl⟩
theorem ran_is {l : List DAct} (h : l.length ≤ 400) : townIs (mRunT 3 l).1 := by
  rw [(ran_out h).2]
  exact townIs.acts l (townIs.start (by omega))
theorem ran_three {y : COut} {l : List DAct} (h : l.length ≤ 400) (hy : y.abs = mOut 3 l) : y.r.n = 3 := by
  have h1 : y.r.xs.map CReplica.abs = (mRunT 3 l).1.r := congrArg DOut.r hy
  have h2 := congrArg List.length h1
  rw [List.length_map, (ran_is h).ok.r3] at h2
  exact h2
theorem cat3_is (A : Option Addr) (c : Nat) (a b d : Sl DAct) : catAll ⟨A, c, [a, b, d]⟩ = a.xs ++ b.xs ++ d.xs := by
  show a.xs ++ (b.xs ++ (d.xs ++ [])) = _
  rw [List.append_nil, List.append_assoc]
theorem cat3_len (A : Option Addr) (c : Nat) (a b d : Sl DAct) : (catAll ⟨A, c, [a, b, d]⟩).length = a.xs.length + b.xs.length + d.xs.length := by rw [cat3_is, List.length_append, List.length_append]
theorem in3 {α : Type} {P : α → Prop} {a b d : α} (h1 : P a) (h2 : P b) (h3 : P d) : ∀ z, z ∈ [a, b, d] → P z := fun z hz => by
  simp only [List.mem_cons, List.not_mem_nil, or_false] at hz
  rcases hz with rfl | rfl | rfl
  · exact h1
  · exact h2
  · exact h3
end Go.Proofs.YtbjakddkfgjkaaaGreatDoor.Fw
namespace Go.Proofs.YtbjakddkfgjkaaaGreatDoor.Fw
open Go.RowKit
theorem mLog_of {l : DLog} (h0 : 0 ≤ l.base) (h1 : l.base ≤ 1073741424) (h2 : l.entries.length ≤ 400) (h3 : ∀ e, e ∈ l.entries → (mDecode e).2 = 0) : mLog l = 0 := by
  unfold mLog
  rw [if_neg (by omega), if_neg (by omega)]
  exact firstF_of fun j _ hj => h3 _ (mem_of_getD (by omega))
theorem putOne_len {E : List ByteArray} {k : Nat} (hk : k ≤ E.length) (s : ByteArray) : k + 1 ≤ (putOne E k s).length ∧ (putOne E k s).length ≤ max E.length (k + 1) := by
  unfold putOne
  split
  · omega
  · simp only [List.length_append, List.length_take, List.length_singleton]; omega
theorem getD_app {α : Type} [Inhabited α] {E M : List α} {j : Nat} (h : j < E.length) : (E ++ M).getD j default = E.getD j default := by
  rw [List.getD_eq_getElem?_getD, List.getD_eq_getElem?_getD, List.getElem?_append_left h]
theorem getD_take {α : Type} [Inhabited α] {E : List α} {k j : Nat} (h : j < k) : (E.take k).getD j default = E.getD j default := by
  rw [List.getD_eq_getElem?_getD, List.getD_eq_getElem?_getD, List.getElem?_take_of_lt h]
theorem putOne_lo {E : List ByteArray} {k : Nat} (hk : k ≤ E.length) (s : ByteArray) {j : Nat} (hj : j < k) : (putOne E k s).getD j default = E.getD j default := by
  unfold putOne
  split
  · rfl
  · rw [getD_app (by rw [List.length_take]; omega), getD_take hj]
theorem putOne_at {E : List ByteArray} {k : Nat} (hk : k ≤ E.length) (s : ByteArray) : (putOne E k s).getD k default = s := by
  unfold putOne
  split
  · rename_i h; exact h.2
  · rw [List.getD_eq_getElem?_getD, List.getElem?_append_right (by rw [List.length_take]; omega), List.length_take, Nat.min_eq_left hk, Nat.sub_self]; rfl
theorem putGo_is : ∀ (m : List ByteArray) (E : List ByteArray) (k : Nat), k ≤ E.length → (putGo E k m).2 = 0 →
    k + m.length ≤ max (putGo E k m).1.length E.length ∧ k + m.length ≤ (putGo E k m).1.length ∧ (putGo E k m).1.length ≤ max E.length (k + m.length) ∧ (∀ j, j < k → (putGo E k m).1.getD j default = E.getD j default) ∧ ∀ j, j < m.length → (putGo E k m).1.getD (k + j) default = m.getD j default
  | [], E, k, hk, _ => by
    refine ⟨?_, ?_, ?_, fun _ _ => rfl, fun j hj => absurd hj (Nat.not_lt_zero _)⟩
    · show k + 0 ≤ max E.length E.length; omega
    · show k + 0 ≤ E.length; omega
    · show E.length ≤ _; omega
  | s :: r, E, k, hk, h => by
    have h0 : (mDecode s).2 = 0 := by
      unfold putGo at h
      split at h
      · rename_i q; exact absurd h q
      · rename_i q; exact Classical.not_not.1 q
    have e : putGo E k (s :: r) = putGo (putOne E k s) (k + 1) r := by simp only [putGo, h0, not_true_eq_false, if_false]
    rw [e] at h ⊢
    obtain ⟨l1, l2⟩ := putOne_len hk s
    obtain ⟨_, q1, q2, q3, q4⟩ := putGo_is r (putOne E k s) (k + 1) l1 h
    refine ⟨?_, ?_, ?_, fun j hj => ?_, fun j hj => ?_⟩
    · simp only [List.length_cons]; omega
    · simp only [List.length_cons]; omega
    · simp only [List.length_cons]; omega
    · rw [q3 j (by omega), putOne_lo hk s hj]
    · cases j with
      | zero =>
        show (putGo (putOne E k s) (k + 1) r).1.getD k default = s
        rw [q3 k (by omega), putOne_at hk s]
      | succ j =>
        have h2 := q4 j (by simp only [List.length_cons] at hj; omega)
        rw [show k + (j + 1) = k + 1 + j by omega, h2]; rfl
theorem mPut_is {l : DLog} {b : Int} {m : List ByteArray} (h : (mPut l b m).2 = 0) : mLog l = 0 ∧ 0 ≤ b ∧ b ≤ mLast l ∧ mPut l b m = (⟨l.base, (putGo l.entries (b - l.base).toNat (m.drop (l.base - b).toNat)).1⟩, 0) ∧ (putGo l.entries (b - l.base).toNat (m.drop (l.base - b).toNat)).2 = 0 := by
  unfold mPut at h ⊢
  split at h
  · rename_i q; exact absurd h q
  rename_i q1
  split at h
  · cases h
  rename_i q2
  split at h
  · cases h
  rename_i q3
  split at h
  · cases h
  rename_i q4
  split at h
  · rename_i q; exact absurd h q
  rename_i q5
  split at h
  · cases h
  rename_i q6
  rw [if_neg q1, if_neg q2, if_neg q3, if_neg q4, if_neg q5, if_neg q6]
  exact ⟨Classical.not_not.1 q1, by omega, by omega, rfl, Classical.not_not.1 q5⟩
theorem repl_ok {r : DReplica} (h1 : mLog r.log = 0) (h2 : mState r.state = 0) (h3 : r.log.base ≤ r.state.index) (h4 : r.state.index ≤ mLast r.log) (h5 : (mKeptS r).2 = 0) : mReplica r = 0 := by
  unfold mReplica
  rw [if_neg (fun q => q h1), if_neg (fun q => q h2), if_neg (by omega)]
  exact h5
structure repGo (n : Int) (com : List ByteArray) (x : DReplica) : Prop where
  vr : mReplica x = 0
  ag : ∀ j : Nat, x.log.base + (j : Int) < x.state.index → com.getD (x.log.base + (j : Int)).toNat default = x.log.entries.getD j default
  ln : mLast x.log ≤ n
structure topOk (com : List ByteArray) (l : DLog) : Prop where
  le : (com.length : Int) ≤ mLast l
  ag : ∀ j : Nat, l.base + (j : Int) < (com.length : Int) → com.getD (l.base + (j : Int)).toNat default = l.entries.getD j default
theorem getD_more {com more : List ByteArray} {i : Int} (h0 : 0 ≤ i) (h : i < (com.length : Int)) : (com ++ more).getD i.toNat default = com.getD i.toNat default := getD_app (by omega)
theorem repGo.mono {n : Int} {com more : List ByteArray} {x : DReplica} (h : repGo n com x) (hi : x.state.index ≤ (com.length : Int)) : repGo n (com ++ more) x := by
  have hb := (mLog_bd (mReplica_parts h.vr).1).1
  exact ⟨h.vr, fun j hj => by rw [getD_more (by omega) (by omega)]; exact h.ag j hj, h.ln⟩
theorem repGo.up {n m : Int} {com : List ByteArray} {x : DReplica} (h : repGo n com x) (hm : n ≤ m) : repGo m com x := ⟨h.vr, h.ag, Int.le_trans h.ln hm⟩
theorem repGo.zero {n : Int} (h : 0 ≤ n) (com : List ByteArray) : repGo n com zRepl := ⟨rfl, fun j hj => by
  have : (0 : Int) + (j : Int) < 0 := hj
  omega, h⟩
theorem hear_is {x : DReplica} {b : Int} {m : List ByteArray} (h : (mRHear x b m).2 = 0) : mReplica x = 0 ∧ (mPut x.log b m).2 = 0 ∧ mRHear x b m = (⟨(mPut x.log b m).1, x.snap, x.state⟩, 0) ∧ ∀ j, j < (x.state.index - x.log.base).toNat → j < (mPut x.log b m).1.entries.length ∧ (mPut x.log b m).1.entries.getD j default = x.log.entries.getD j default := by
  unfold mRHear at h ⊢
  split at h
  · rename_i q; exact absurd h q
  rename_i q1
  split at h
  · rename_i q; exact absurd h q
  rename_i q2
  split at h
  · cases h
  rename_i q3
  rw [if_neg q1, if_neg q2, if_neg q3]
  refine ⟨Classical.not_not.1 q1, Classical.not_not.1 q2, rfl, fun j hj => ?_⟩
  have h4 : allTo (agreeTo (mPut x.log b m).1.entries x.log.entries) (x.state.index - x.log.base).toNat = true := by simpa using q3
  have h5 := allTo_good h4 j hj
  unfold agreeTo at h5
  simp only [Bool.and_eq_true, decide_eq_true_eq] at h5
  exact h5
theorem kept_same {r s : DReplica} (h1 : s.log.base = r.log.base) (h2 : s.snap = r.snap) : mKeptS s = mKeptS r := by unfold mKeptS; rw [h1, h2]
theorem repGo.hear {n : Int} {com : List ByteArray} {x : DReplica} {b : Int} {m : List ByteArray} (h : repGo n com x) (hm : b + (m.length : Int) ≤ n) (hb : x.log.base ≤ b) (h2 : (mRHear x b m).2 = 0) : repGo n com (mRHear x b m).1 := by
  obtain ⟨a1, a2, a3, a4⟩ := hear_is h2
  obtain ⟨p1, p2, p3, p4, p5⟩ := mPut_is a2
  obtain ⟨v1, v2, v3, v4, v5⟩ := mReplica_parts a1
  obtain ⟨t1, t2, t3, t4⟩ := mPut_parts a2
  have hl := mLog_bd t1
  have hln := h.ln
  rw [show (x.log.base - b).toNat = 0 by omega, List.drop_zero] at p4 p5
  obtain ⟨_, g1, g2, g3, g4⟩ := putGo_is m x.log.entries (b - x.log.base).toNat (by unfold mLast at p3; omega) p5
  have hbase : (mPut x.log b m).1.base = x.log.base := t2
  have hlen : ((mPut x.log b m).1.entries.length : Int) ≤ n - x.log.base := by rw [p4]; show (((putGo _ _ _).1.length : Nat) : Int) ≤ _; unfold mLast at hln; omega
  have hidx : x.state.index ≤ mLast (mPut x.log b m).1 := by
    unfold mLast
    rw [hbase]
    by_cases hz : x.state.index = x.log.base
    · omega
    · have := (a4 ((x.state.index - x.log.base).toNat - 1) (by omega)).1
      omega
  rw [a3]
  refine ⟨repl_ok (mLog_of (by show 0 ≤ (mPut x.log b m).1.base; rw [hbase]; exact hl.1) (by show (mPut x.log b m).1.base ≤ _; rw [hbase]; exact hl.2.1) t3 t4) v2 (by show (mPut x.log b m).1.base ≤ _; rw [hbase]; exact v3) hidx ((congrArg Prod.snd (kept_same (r := x) (s := ⟨(mPut x.log b m).1, x.snap, x.state⟩) hbase rfl)).trans v5), fun j hj => ?_, ?_⟩
  · have hj' : x.log.base + (j : Int) < x.state.index := by have : (mPut x.log b m).1.base + (j : Int) < x.state.index := hj; rw [hbase] at this; exact this
    show com.getD ((mPut x.log b m).1.base + (j : Int)).toNat default = (mPut x.log b m).1.entries.getD j default
    rw [hbase, (a4 j (by omega)).2]
    exact h.ag j hj'
  · show mLast (mPut x.log b m).1 ≤ n
    unfold mLast
    rw [hbase]; omega
theorem repGo.inst {n : Int} {com : List ByteArray} {x : DReplica} {s : ByteArray} (h : repGo n com x) (hn : (mUnsnap s).1.index ≤ n) (h2 : (mRInstall x s).2 = 0) : repGo n com (mRInstall x s).1 := by
  unfold mRInstall at h2 ⊢
  split at h2
  · rename_i q; exact absurd h2 q
  rename_i q1; rw [if_neg q1]
  split at h2
  · rename_i q; exact absurd h2 q
  rename_i q2; rw [if_neg q2]
  split at h2
  · cases h2
  rename_i q3; rw [if_neg q3]
  split at h2
  · cases h2
  rename_i q4; rw [if_neg q4]
  obtain ⟨v1, v2, v3, v4, v5⟩ := mReplica_parts (Classical.not_not.1 q1)
  have hl := mLog_bd v1
  have hu := Classical.not_not.1 q2
  have hs := (unsnap_parts hu).2
  have hi := state_bds v2
  have hln := h.ln
  generalize hL : (if (mUnsnap s).1.index ≤ mLast x.log then (⟨(mUnsnap s).1.index, x.log.entries.drop ((mUnsnap s).1.index - x.log.base).toNat⟩ : DLog) else ⟨(mUnsnap s).1.index, []⟩) = L
  have hb : L.base = (mUnsnap s).1.index := by rw [← hL]; split <;> rfl
  have hLl : mLog L = 0 := by
    rw [← hL]
    split
    · exact mLog_of (by show 0 ≤ (mUnsnap s).1.index; omega) (by show (mUnsnap s).1.index ≤ _; omega) (by show (x.log.entries.drop _).length ≤ 400; rw [List.length_drop]; have := hl.2.2.1; omega) fun e he => log_dec v1 e (List.mem_of_mem_drop he)
    · exact mLog_of (by show 0 ≤ (mUnsnap s).1.index; omega) (by show (mUnsnap s).1.index ≤ _; omega) (Nat.zero_le _) fun e he => absurd he List.not_mem_nil
  have hLn : mLast L ≤ n := by
    rw [← hL]
    split
    · unfold mLast at *
      show (mUnsnap s).1.index + ((x.log.entries.drop _).length : Int) ≤ n
      rw [List.length_drop]; omega
    · show (mUnsnap s).1.index + ((0 : Nat) : Int) ≤ n; omega
  refine ⟨repl_ok hLl hs (by show L.base ≤ (mUnsnap s).1.index; omega) (by show (mUnsnap s).1.index ≤ mLast L; unfold mLast; omega) ?_, fun j hj => ?_, hLn⟩
  · unfold mKeptS
    rw [if_neg (by show ¬ L.base = 0; omega), if_pos ⟨hu, hb.symm⟩]
  · have : L.base + (j : Int) < (mUnsnap s).1.index := hj
    omega
theorem repGo.comp {n : Int} {com : List ByteArray} {x : DReplica} (h : repGo n com x) (h2 : (mRCompact x).2 = 0) : repGo n com (mRCompact x).1 ∧ (topOk com x.log → topOk com (mRCompact x).1.log) := by
  unfold mRCompact at h2 ⊢
  split at h2
  · rename_i q; exact absurd h2 q
  rename_i q1; rw [if_neg q1]
  split at h2
  · cases h2
  rename_i q2; rw [if_neg q2]
  split at h2
  · rename_i q; exact absurd h2 q
  rename_i q3; rw [if_neg q3]
  obtain ⟨v1, v2, v3, v4, v5⟩ := mReplica_parts (Classical.not_not.1 q1)
  have hl := mLog_bd v1
  have hln := h.ln
  have hc : mCut x.log x.state.index = (⟨x.state.index, x.log.entries.drop (x.state.index - x.log.base).toNat⟩, 0) ∧ x.state.index ≤ 1073741424 := by
    have h3 := Classical.not_not.1 q3
    unfold mCut at h3 ⊢
    rw [if_neg (fun q => q v1), if_neg (by omega)] at h3 ⊢
    split at h3
    · cases h3
    · rename_i q; rw [if_neg q]; exact ⟨rfl, by omega⟩
  rw [hc.1]
  have hlast : mLast ⟨x.state.index, x.log.entries.drop (x.state.index - x.log.base).toNat⟩ = mLast x.log := by
    unfold mLast at *
    show x.state.index + ((x.log.entries.drop _).length : Int) = _
    rw [List.length_drop]; omega
  refine ⟨⟨repl_ok (mLog_of (by show 0 ≤ x.state.index; omega) hc.2 (by show (x.log.entries.drop _).length ≤ 400; rw [List.length_drop]; have := hl.2.2.1; omega) fun e he => log_dec v1 e (List.mem_of_mem_drop he)) v2 (Int.le_refl _) (by show x.state.index ≤ mLast _; rw [hlast]; exact v4) ?_, fun j hj => ?_, by show mLast _ ≤ n; rw [hlast]; exact hln⟩, fun ht => ⟨by rw [hlast]; exact ht.le, fun j hj => ?_⟩⟩
  · unfold mKeptS
    show (if x.state.index = 0 then _ else if (mUnsnap (mSnap x.state).1).2 = 0 ∧ (mUnsnap (mSnap x.state).1).1.index = x.state.index then ((mUnsnap (mSnap x.state).1).1, (0 : Int)) else (zState, 9)).2 = 0
    rw [unsnap_of v2, if_neg (by omega), if_pos ⟨rfl, rfl⟩]
  · have : x.state.index + (j : Int) < x.state.index := hj
    omega
  · have hj' : x.state.index + (j : Int) < (com.length : Int) := hj
    have h5 := ht.ag ((x.state.index - x.log.base).toNat + j) (by omega)
    show com.getD (x.state.index + (j : Int)).toNat default = (x.log.entries.drop (x.state.index - x.log.base).toNat).getD j default
    rw [show x.log.base + (((x.state.index - x.log.base).toNat + j : Nat) : Int) = x.state.index + (j : Int) by omega] at h5
    rw [h5, List.getD_eq_getElem?_getD, List.getD_eq_getElem?_getD, List.getElem?_drop]
theorem repGo.rest {n : Int} {com : List ByteArray} {x : DReplica} (h : repGo n com x) (h2 : (mRRestart x).2 = 0) : repGo n com (mRRestart x).1 ∧ (mRRestart x).1.log = x.log := by
  unfold mRRestart at h2 ⊢
  split at h2
  · rename_i q; exact absurd h2 q
  rename_i q1; rw [if_neg q1]
  obtain ⟨v1, v2, v3, v4, v5⟩ := mReplica_parts (Classical.not_not.1 q1)
  have hl := mLog_bd v1
  have hk : mState (mKeptS x).1 = 0 ∧ (mKeptS x).1.index = x.log.base := by
    unfold mKeptS at v5 ⊢
    split at v5
    · rename_i q; rw [if_pos q]
      split <;> exact ⟨rfl, q.symm⟩
    · rename_i q; rw [if_neg q]
      split at v5
      · rename_i q'; rw [if_pos q']; exact ⟨(unsnap_parts q'.1).2, q'.2⟩
      · cases v5
  refine ⟨⟨repl_ok v1 hk.1 (by show x.log.base ≤ (mKeptS x).1.index; omega) (by show (mKeptS x).1.index ≤ mLast x.log; unfold mLast; omega) v5, fun j hj => ?_, h.ln⟩, rfl⟩
  have : x.log.base + (j : Int) < (mKeptS x).1.index := hj
  omega
theorem repGo.appl {n u : Int} {com : List ByteArray} {x : DReplica} (h : repGo n com x) (hu : u ≤ mLast x.log) (he : ∀ j : Nat, x.log.base + (j : Int) < u → com.getD (x.log.base + (j : Int)).toNat default = x.log.entries.getD j default) (hs : repIs com (mRApply x u).1) (h2 : (mRApply x u).2.2 = 0) : repGo n com (mRApply x u).1 ∧ (mRApply x u).1.log = x.log ∧ (mRApply x u).1.state.index = (if u < x.state.index then x.state.index else u) := by
  have hg := appd_good _ mState_zero (show (mAppd zState (com.take (mRApply x u).1.state.index.toNat)).2 = true by rw [hs.st])
  rw [hs.st] at hg
  unfold mRApply at h2 hs hg ⊢
  split at h2
  · rename_i q; exact absurd h2 q
  rename_i q1; rw [if_neg q1] at hs hg ⊢
  split at h2
  · cases h2
  rename_i q2; rw [if_neg q2] at hs hg ⊢
  split at h2
  · rename_i q; exact absurd h2 q
  rename_i q3; rw [if_neg q3] at hs hg ⊢
  obtain ⟨v1, v2, v3, v4, v5⟩ := mReplica_parts (Classical.not_not.1 q1)
  have q4 := Classical.not_not.1 q3
  have hix : (rRun x u).1.index = if u < x.state.index then x.state.index else u := by
    unfold rRun at q4 ⊢
    rw [run_index _ _ _ _ _ q4]
    split <;> split <;> omega
  refine ⟨⟨repl_ok v1 hg (by show x.log.base ≤ (rRun x u).1.index; rw [hix]; split <;> omega) (by show (rRun x u).1.index ≤ mLast x.log; rw [hix]; split <;> omega) v5, fun j hj => ?_, h.ln⟩, rfl, hix⟩
  have hj' : x.log.base + (j : Int) < (rRun x u).1.index := hj
  rw [hix] at hj'
  by_cases hlt : x.log.base + (j : Int) < x.state.index
  · exact h.ag j hlt
  · exact he j (by split at hj' <;> omega)
end Go.Proofs.YtbjakddkfgjkaaaGreatDoor.Fw
namespace Go.Proofs.YtbjakddkfgjkaaaGreatDoor.Fw
open Go.RowKit
structure townGo (n : Int) (t : DTown) : Prop where
  is : townIs t
  go : ∀ x, x ∈ t.r → repGo n t.com x
  tp : topOk t.com t.top
  cd : ∀ e, e ∈ t.com → (mDecode e).2 = 0
theorem townGo.rep {n : Int} {t : DTown} (h : townGo n t) {k : Int} (h0 : 0 ≤ k) (h2 : k ≤ 2) : repGo n t.com (t.rep k) := h.go _ (mem_of_getD (by have := h.is.ok.r3; omega))
theorem townGo.ld {n : Int} {t : DTown} (h : townGo n t) : repGo n t.com (t.rep t.lead) := h.rep h.is.ok.l0 h.is.ok.l2
theorem townGo.vt {n : Int} {t : DTown} (h : townGo n t) : mLog t.top = 0 := (mReplica_parts h.ld.vr).1
theorem townGo.up {n m : Int} {t : DTown} (h : townGo n t) (hm : n ≤ m) : townGo m t := ⟨h.is, fun x hx => (h.go x hx).up hm, h.tp, h.cd⟩
theorem rep_set {t : DTown} {k j : Int} {x : DReplica} (h3 : t.r.length = 3) (hk0 : 0 ≤ k) (hk2 : k ≤ 2) (hj : 0 ≤ j) : (t.set k x).rep j = if j = k then x else t.rep j := by
  unfold DTown.set DTown.rep
  show (t.r.set k.toNat x).getD j.toNat default = _
  split
  · rename_i q; subst q
    rw [List.getD_eq_getElem?_getD, List.getElem?_set_self (by omega)]; rfl
  · rw [getD_set_ne (by omega)]
theorem townGo.set {n : Int} {t : DTown} (h : townGo n t) {k : Int} {x : DReplica} (h0 : 0 ≤ k) (h2 : k ≤ 2) (hi : townIs (t.set k x)) (hx : repGo n t.com x) (hl : k = t.lead → topOk t.com x.log) : townGo n (t.set k x) := by
  refine ⟨hi, fun y hy => (List.mem_or_eq_of_mem_set hy).elim (h.go y) fun e => e ▸ hx, ?_, h.cd⟩
  show topOk t.com ((t.set k x).rep t.lead).log
  rw [rep_set h.is.ok.r3 h0 h2 h.is.ok.l0]
  split
  · rename_i q; exact hl q.symm
  · exact h.tp
theorem townGo.same {n : Int} {t u : DTown} (h : townGo n t) (hi : townIs u) (hr : u.r = t.r) (hc : u.com = t.com) (hl : u.lead = t.lead) : townGo n u := by
  refine ⟨hi, fun x hx => by rw [hc]; exact h.go x (hr ▸ hx), ?_, by rw [hc]; exact h.cd⟩
  have e : u.top = t.top := by unfold DTown.top DTown.rep; rw [hr, hl]
  rw [e, hc]; exact h.tp
theorem townGo.grow {n : Int} {t : DTown} (h : townGo n t) (u : Int) : townGo n (t.grow u) := by
  have hb := h.is.ok.top.2
  have hv := mLog_bd h.vt
  refine ⟨h.is.grow u, fun x hx => ?_, ?_, fun e he => ?_⟩
  · rw [DTown.grow_com]
    exact (h.go x hx).mono (h.is.is x hx).hi
  · refine ⟨?_, fun j hj => ?_⟩
    · rcases DTown.grow_len (t := t) u hb with q | q
      · rw [q]; exact h.tp.le
      · exact q.1
    · have hj' : t.top.base + (j : Int) < ((t.grow u).com.length : Int) := hj
      show (t.grow u).com.getD (t.top.base + (j : Int)).toNat default = t.top.entries.getD j default
      by_cases hc : t.top.base + (j : Int) < (t.com.length : Int)
      · rw [DTown.grow_com, getD_more (by omega) hc]; exact h.tp.ag j hc
      · rw [DTown.grow_com] at hj' ⊢
        rw [List.length_append, List.length_take, List.length_drop] at hj'
        rw [List.getD_eq_getElem?_getD, List.getD_eq_getElem?_getD, List.getElem?_append_right (by omega), List.getElem?_take_of_lt (by omega), List.getElem?_drop, show ((t.com.length : Int) - t.top.base).toNat + ((t.top.base + (j : Int)).toNat - t.com.length) = j by omega]
  · rw [DTown.grow_com] at he
    rcases List.mem_append.1 he with he | he
    · exact h.cd e he
    · exact log_dec h.vt e (List.mem_of_mem_drop (List.mem_of_mem_take he))
theorem townGo.grow1 {n : Int} {t : DTown} (h : townGo n t) (k : Int) : townGo n (t.grow1 k) := by
  unfold DTown.grow1
  split
  · exact h
  · exact h.grow _
theorem townGo.commit {n : Int} {t : DTown} (h : townGo n t) : townGo n t.commit := ((h.grow1 0).grow1 1).grow1 2
theorem townGo.added {n : Int} {t : DTown} (h : townGo n t) (s : ByteArray × Int) : townGo (n + 1) (t.added s).1 := by
  have hi := h.is.added s
  unfold DTown.added at hi ⊢
  split
  · exact h.up (by omega)
  rename_i q; rw [if_neg q] at hi
  split
  · rename_i h1; rw [if_pos h1] at hi
    have hl := mLog_bd h.vt
    have hln := h.ld.ln
    have hb : (t.rep t.lead).log.base ≤ mLast t.top := by show t.top.base ≤ _; unfold mLast; omega
    have hg := (h.ld.up (show n ≤ n + 1 by omega)).hear (b := mLast t.top) (m := [s.1]) (by show mLast (t.rep t.lead).log + ((1 : Nat) : Int) ≤ n + 1; omega) hb h1
    refine (h.up (show n ≤ n + 1 by omega)).set h.is.ok.l0 h.is.ok.l2 hi hg fun _ => ?_
    obtain ⟨a1, a2, a3, a4⟩ := hear_is h1
    obtain ⟨p1, p2, p3, p4, p5⟩ := mPut_is a2
    rw [show ((t.rep t.lead).log.base - mLast t.top).toNat = 0 by omega, List.drop_zero] at p4 p5
    obtain ⟨_, g1, g2, g3, g4⟩ := putGo_is [s.1] (t.rep t.lead).log.entries (mLast t.top - (t.rep t.lead).log.base).toNat (by unfold mLast DTown.top; omega) p5
    rw [a3, p4]
    have hle := h.tp.le
    refine ⟨?_, fun j hj => ?_⟩
    · show (t.com.length : Int) ≤ t.top.base + (((putGo _ _ _).1.length : Nat) : Int)
      have : (mLast t.top - (t.rep t.lead).log.base).toNat = t.top.entries.length := by unfold mLast DTown.top; omega
      unfold mLast at hle
      omega
    · have hj' : t.top.base + (j : Int) < (t.com.length : Int) := hj
      show t.com.getD (t.top.base + (j : Int)).toNat default = (putGo _ _ _).1.getD j default
      rw [g3 j (by show j < (mLast t.top - t.top.base).toNat; omega)]
      exact h.tp.ag j hj'
  · exact h.up (by omega)
theorem townGo.byOne {n : Int} {t : DTown} (h : townGo n t) (a : DAct) : townGo (n + 1) (t.byOne a).1 := by
  have hi := h.is.byOne a
  unfold DTown.byOne at hi ⊢
  split
  · exact h.up (by omega)
  rename_i q; rw [if_neg q] at hi
  split
  · exact h.added _
  rename_i q; rw [if_neg q] at hi
  split
  · exact h.added _
  rename_i q; rw [if_neg q] at hi
  split
  · rename_i h1; rw [if_pos h1] at hi; exact (h.up (by omega)).same hi rfl rfl rfl
  · exact h.up (by omega)
theorem townGo.agr_lo {n : Int} {t : DTown} (h : townGo n t) {k : Int} (h0 : 0 ≤ k) (h2 : k ≤ 2) : (t.rep k).state.index ≤ t.agr k ∧ (t.rep k).log.base ≤ t.agr k ∧ t.agr k ≤ mLast (t.rep k).log := by
  have hg := h.rep h0 h2
  obtain ⟨v1, v2, v3, v4, v5⟩ := mReplica_parts hg.vr
  have hb := (mLog_bd v1).1
  have hi := (h.is.rep h0 h2).hi
  have hfl := firstNot_le (t.okAt (t.rep k).log) (t.rep k).log.entries.length
  refine ⟨?_, by unfold DTown.agr; omega, by unfold DTown.agr mLast; omega⟩
  unfold DTown.agr
  apply Classical.byContradiction
  intro hn
  have hbad := firstNot_bad (t.okAt (t.rep k).log) (t.rep k).log.entries.length (by unfold mLast at v4; omega)
  have key : ∀ J : Nat, (t.rep k).log.base + (J : Int) < (t.rep k).state.index → t.okAt (t.rep k).log J = true := fun J hJ => by
    unfold DTown.okAt
    refine decide_eq_true ?_
    unfold DTown.right
    rw [if_pos (by omega), hg.ag _ hJ]
  have hok := key (firstNot (t.okAt (t.rep k).log) (t.rep k).log.entries.length) (by omega)
  rw [hok] at hbad
  cases hbad
theorem townGo.told {n : Int} {t : DTown} (h : townGo n t) {k many : Int} (h0 : 0 ≤ k) (h2 : k ≤ 2) (h1 : (t.told k many).2 = 0) : repGo n t.com (t.told k many).1 := by
  obtain ⟨a1, a2, a3⟩ := h.agr_lo h0 h2
  have hln := h.ld.ln
  have hlk := (h.rep h0 h2).ln
  unfold DTown.told at h1 ⊢
  split
  · rename_i q; rw [if_pos q] at h1
    have hb := (mLog_bd h.vt).1
    have hbk := (mLog_bd (mReplica_parts (h.rep h0 h2).vr).1).1
    obtain ⟨S, e1, e2, e3⟩ := h.is.snap (k := t.lead) h.is.ok.l0 h.is.ok.l2 (by show 0 < t.top.base; omega)
    refine (h.rep h0 h2).inst ?_ h1
    rw [e1]
    have := h.tp.le
    show S.index ≤ n
    have h9 : mLast t.top ≤ n := hln
    omega
  rename_i q; rw [if_neg q] at h1
  split
  · rename_i q2; rw [if_pos q2] at h1; exact absurd h1 q2
  · rename_i q2; rw [if_neg q2] at h1
    refine (h.rep h0 h2).hear ?_ a2 h1
    unfold mBehind at q2 ⊢
    rw [if_neg (fun z => z h.vt)] at q2 ⊢
    split
    · show t.agr k + ((0 : Nat) : Int) ≤ n; omega
    · show t.agr k + (((t.top.entries.drop (t.agr k - t.top.base).toNat).take many.toNat).length : Int) ≤ n
      rw [List.length_take, List.length_drop]
      have h9 : mLast t.top ≤ n := hln
      unfold mLast at h9 hlk a3
      omega
theorem townGo.ship {n : Int} {t : DTown} (h : townGo n t) {k many : Int} (h0 : 0 ≤ k) (h2 : k ≤ 2) : townGo n (t.ship k many).1 := by
  have hi := h.is
  unfold DTown.ship
  split
  · exact h
  rename_i q
  split
  · rename_i h1
    exact (h.set h0 h2 (hi.set (hi.ok.set (hi.ok.told h0 h2 h1)) (hi.told h0 h2 h1)) (h.told h0 h2 h1) fun e => absurd (.inl e) q).commit
  · exact h
theorem townGo.applied {n : Int} {t : DTown} (h : townGo n t) {k many : Int} (h0 : 0 ≤ k) (h2 : k ≤ 2) (h1 : (t.ran k many).2.2 = 0) : repGo n t.com (t.ran k many).1 ∧ (t.ran k many).1.log = (t.rep k).log ∧ (t.ran k many).1.state.index = (if t.upto k many < (t.rep k).state.index then (t.rep k).state.index else t.upto k many) := by
  obtain ⟨a1, a2, a3⟩ := h.agr_lo h0 h2
  have hr := h.is.ok.rep h0 h2
  have hx : repIs t.com (t.ran k many).1 := (h.is.rep h0 h2).appl hr.1.1 (by unfold DTown.upto; omega) (by unfold DTown.upto; omega) (fun j hj => agr_is hr.1.1 j (by unfold DTown.upto at hj; omega) (by unfold DTown.upto at hj; omega)) h1
  exact (h.rep h0 h2).appl (by unfold DTown.upto; omega) (fun j hj => agr_is hr.1.1 j (by unfold DTown.upto at hj; omega) (by unfold DTown.upto at hj; omega)) hx h1
theorem townGo.apply {n : Int} {t : DTown} (h : townGo n t) {k many : Int} (h0 : 0 ≤ k) (h2 : k ≤ 2) : townGo n (t.apply k many).1 := by
  have hi := h.is.apply (many := many) h0 h2
  unfold DTown.apply at hi ⊢
  split
  · exact h
  rename_i q; rw [if_neg q] at hi
  split
  · exact h
  rename_i h1; rw [if_neg h1] at hi
  obtain ⟨g1, g2, g3⟩ := h.applied h0 h2 (Classical.not_not.1 h1)
  have hs : townIs (t.set k (t.ran k many).1) := hi.same ⟨hi.ok.r3, hi.ok.l0, hi.ok.l2, hi.ok.rs, hi.ok.cl, hi.ok.cs, h.is.ok.ml, h.is.ok.mt, hi.ok.cc, hi.ok.cw⟩ rfl rfl
  have hg := h.set h0 h2 hs g1 fun e => by rw [g2, e]; exact h.tp
  exact hg.same hi rfl rfl rfl
theorem townGo.put {n : Int} {t : DTown} (h : townGo n t) {k : Int} {x : DReplica × Int} (h0 : 0 ≤ k) (h2 : k ≤ 2) (hi : townIs (t.put k x).1) (hx : x.2 = 0 → repGo n t.com x.1 ∧ (topOk t.com (t.rep k).log → topOk t.com x.1.log)) : townGo n (t.put k x).1 := by
  unfold DTown.put at hi ⊢
  split
  · rename_i h1; rw [if_pos h1] at hi
    exact h.set h0 h2 hi (hx h1).1 fun e => (hx h1).2 (by rw [e]; exact h.tp)
  · exact h
theorem townGo.leads {n : Int} {t : DTown} (h : townGo n t) {k : Int} (h0 : 0 ≤ k) (h2 : k ≤ 2) (hc : ¬ t.agr k < (t.com.length : Int)) : townGo n { t with lead := k } := by
  have hl : townIs { t with lead := k } := h.is.same (h.is.ok.lead h0 h2) rfl rfl
  have ha := h.agr_lo h0 h2
  have hb := (mLog_bd (mReplica_parts (h.rep h0 h2).vr).1).1
  exact ⟨hl, h.go, ⟨by show (t.com.length : Int) ≤ mLast (t.rep k).log; omega, fun j hj => agr_is hb j (by have : (t.rep k).log.base + (j : Int) < (t.com.length : Int) := hj; omega) hj⟩, h.cd⟩
theorem townGo.atOne {n : Int} {t : DTown} (h : townGo n t) (a : DAct) : townGo n (t.atOne a).1 := by
  have hi := h.is.atOne a
  unfold DTown.atOne at hi ⊢
  split
  · exact h
  rename_i q; rw [if_neg q] at hi
  split
  · exact h.ship (by omega) (by omega)
  rename_i q1; rw [if_neg q1] at hi
  split
  · exact h.apply (by omega) (by omega)
  rename_i q2; rw [if_neg q2] at hi
  split
  · split
    · exact h
    · rename_i hc; exact (h.leads (by omega) (by omega) hc).commit
  rename_i q3; rw [if_neg q3] at hi
  split
  · rename_i q4; rw [if_pos q4] at hi; exact h.put (by omega) (by omega) hi (h.rep (by omega) (by omega)).comp
  · rename_i q4; rw [if_neg q4] at hi
    exact h.put (by omega) (by omega) hi fun e => ⟨((h.rep (by omega) (by omega)).rest e).1, fun ht => by rw [((h.rep (by omega) (by omega)).rest e).2]; exact ht⟩
theorem townGo.mailOne {n : Int} {t : DTown} (h : townGo n t) (a : DAct) : townGo n (t.mailOne a).1 := by
  have e : (t.mailOne a).1.r = t.r ∧ (t.mailOne a).1.com = t.com ∧ (t.mailOne a).1.lead = t.lead := by
    unfold DTown.mailOne DTown.heard DTown.left
    repeat' split
    all_goals exact ⟨rfl, rfl, rfl⟩
  exact h.same (h.is.mailOne a) e.1 e.2.1 e.2.2
theorem townGo.act {n : Int} {t : DTown} (h : townGo n t) (a : DAct) : townGo (n + 1) (t.act a).1 := by
  unfold DTown.act
  split
  · exact h.up (by omega)
  split
  · exact h.byOne a
  split
  · exact (h.atOne a).up (by omega)
  · exact (h.mailOne a).up (by omega)
theorem townGo.acts : ∀ (l : List DAct) {n : Int} {t : DTown}, townGo n t → townGo (n + (l.length : Int)) (t.acts l).1
  | [], _, _, h => h.up (by omega)
  | a :: l, _, _, h => (townGo.acts l (h.act a)).up (by simp only [List.length_cons]; omega)
theorem townGo.start {n : Int} (h : n ≤ 9) : townGo 0 (DTown.start n) := by
  refine ⟨townIs.start h, fun x hx => ?_, ⟨by show ((0 : Nat) : Int) ≤ 0; omega, fun j hj => ?_⟩, fun _ h => absurd h List.not_mem_nil⟩
  · have e : x = zRepl := by
      simp only [DTown.start, List.mem_cons, List.not_mem_nil, or_false, or_self] at hx
      exact hx
    rw [e]; exact repGo.zero (by omega) _
  · have : (0 : Int) + (j : Int) < ((0 : Nat) : Int) := hj
    omega
end Go.Proofs.YtbjakddkfgjkaaaGreatDoor.Fw
namespace Go.Proofs.YtbjakddkfgjkaaaGreatDoor.Fw
open Go.RowKit
theorem townGo.right_top {n : Int} {t : DTown} (h : townGo n t) {i : Nat} (hi : i < t.top.entries.length) : t.right (t.top.base + (i : Int)) = some (t.top.entries.getD i default) := by
  unfold DTown.right
  split
  · rename_i q; rw [h.tp.ag i q]
  · rw [if_pos (by unfold mLast; omega), show (t.top.base + (i : Int) - t.top.base).toNat = i by omega]
def half (t : DTown) (k : Int) : Prop := k = t.lead ∨ ¬ t.agr k < t.top.base
def full (t : DTown) (k : Int) : Prop := t.agr k = mLast t.top
structure shipped (n : Int) (t u : DTown) (k : Int) : Prop where
  go : townGo n u
  tp : u.top = t.top
  ld : u.lead = t.lead
  hf : half u k
  fl : half t k → full u k
  ot : ∀ j, 0 ≤ j → j ≤ 2 → ¬ j = k → u.agr j = t.agr j
  cm : ¬ k = t.lead → half t k → (u.com.length : Int) = mLast t.top
  cl : t.com.length ≤ u.com.length
end Go.Proofs.YtbjakddkfgjkaaaGreatDoor.Fw
namespace Go.Proofs.YtbjakddkfgjkaaaGreatDoor.Fw
open Go.RowKit
structure applied (n : Int) (t u : DTown) (k : Int) : Prop where
  go : townGo n u
  tp : u.top = t.top
  ld : u.lead = t.lead
  cm : u.com = t.com
  ag : ∀ j, 0 ≤ j → j ≤ 2 → u.agr j = t.agr j
  ix : (u.rep k).state.index = mLast t.top
  ot : ∀ j, 0 ≤ j → j ≤ 2 → ¬ j = k → u.rep j = t.rep j
end Go.Proofs.YtbjakddkfgjkaaaGreatDoor.Fw
namespace Go.Proofs.YtbjakddkfgjkaaaGreatDoor.Fw
open Go.RowKit
section
variable {κ β : Type} [DecidableEq κ]
def mlk : List (κ × β) → κ → Option β
  | [], _ => none
  | (a, x) :: r, k => if k = a then some x else mlk r k
def mput : List (κ × β) → κ → β → List (κ × β)
  | [], k, v => [(k, v)]
  | (a, x) :: r, k, v => if k = a then (k, v) :: r else (a, x) :: mput r k v
theorem mlk_put (L : List (κ × β)) (k j : κ) (v : β) : mlk (mput L k v) j = if j = k then some v else mlk L j := by
  induction L with
  | nil => rfl
  | cons p r ih =>
    obtain ⟨a, x⟩ := p
    unfold mput
    split
    · rename_i h
      unfold mlk
      split
      · rfl
      · rename_i q; rw [if_neg (by rw [← h]; exact q)]
    · rename_i h
      unfold mlk
      split
      · rename_i q; rw [if_neg (by rw [q]; exact fun z => h z.symm)]
      · exact ih
structure MT (P : Program) (T K E : TypeId) (kv : κ → Value) (vv : β → Value) (z : β) : Prop where
  hu : P.underlying T = some (.map K E)
  hs : ∃ fs, P.underlying K = some (.struct fs)
  hk : ∀ (em : Bool) (w : World) (k : κ), (Instr.checkKey em 10000 K (kv k)).run P w = .ok () w
  he : ∀ (w : World) (a b : κ), (Op.equal K (kv a) (kv b)).run P w = .ok (decide (a = b)) w
  hz : ∀ w : World, (zeroValue E).run P w = .ok (vv z) w
  hb : ∀ k : κ, Instr.sameBits 10000 (kv k) (kv k) = true
def mapR (b : Nat) (kv : κ → Value) (vv : β → Value) (L : List (κ × β)) : Res where
  fp := [b]
  p := fun w => ∃ es clk, w.heap[b]? = some (.map es clk) ∧ es.toList.map (fun e => (e.key, e.val)) = L.map fun p => (kv p.1, vv p.2)
  st := by
    intro w w' h ⟨es, c, h1, h2⟩
    exact ⟨es, c, by rw [h b (by simp)]; exact h1, h2⟩
variable {P : Program} {T K E : TypeId} {kv : κ → Value} {vv : β → Value} {z : β}
theorem find_is (M : MT P T K E kv vv z) (w : World) (k : κ) : ∀ (es : List MapEntry) (L : List (κ × β)) (i : Nat), es.map (fun e => (e.key, e.val)) = L.map (fun p => (kv p.1, vv p.2)) →
    (mlk L k = none ∧ (Instr.findAsking K (kv k) es i).run P w = .ok none w ∧ ∀ v, mput L k v = L ++ [(k, v)]) ∨
    ∃ j x e, mlk L k = some x ∧ (Instr.findAsking K (kv k) es i).run P w = .ok (some (i + j, vv x)) w ∧ es[j]? = some e ∧ e.key = kv k ∧ ∀ v, (es.modify j fun e => { e with key := kv k, val := vv v }).map (fun e => (e.key, e.val)) = (mput L k v).map (fun p => (kv p.1, vv p.2))
  | [], [], i, _ => .inl ⟨rfl, rfl, fun _ => rfl⟩
  | [], _ :: _, _, h => by simp at h
  | _ :: _, [], _, h => by simp at h
  | e :: es, (a, x) :: L, i, h => by
    simp only [List.map_cons, List.cons.injEq, Prod.mk.injEq] at h
    obtain ⟨⟨h1, h2⟩, h3⟩ := h
    have hq := M.he w k a
    by_cases hka : k = a
    · right
      rw [decide_eq_true hka] at hq
      refine ⟨0, x, e, by unfold mlk; rw [if_pos hka], ?_, rfl, by rw [h1, hka], fun v => ?_⟩
      · simp only [Instr.findAsking, Sem.run_bind, h1, hq, Result.andThen_ok, if_true, Sem.run_pure, h2, Nat.add_zero]
      · unfold mput
        rw [if_pos hka]
        simp [List.modify_zero_cons, h3]
    · rw [decide_eq_false hka] at hq
      rcases find_is M w k es L (i + 1) h3 with ⟨q1, q2, q3⟩ | ⟨j, x', e', q1, q2, q3, q4, q5⟩
      · left
        refine ⟨by unfold mlk; rw [if_neg hka]; exact q1, ?_, fun v => by unfold mput; rw [if_neg hka, q3]; rfl⟩
        simp only [Instr.findAsking, Sem.run_bind, h1, hq, Result.andThen_ok, Bool.false_eq_true, if_false]
        exact q2
      · right
        refine ⟨j + 1, x', e', by unfold mlk; rw [if_neg hka]; exact q1, ?_, q3, q4, fun v => ?_⟩
        · simp only [Instr.findAsking, Sem.run_bind, h1, hq, Result.andThen_ok, Bool.false_eq_true, if_false]
          rw [q2, show i + 1 + j = i + (j + 1) by omega]
        · unfold mput
          rw [if_neg hka]
          simp [List.modify_succ_cons, q5 v, h1, h2]
theorem key_is (M : MT P T K E kv vv z) (w : World) (k : κ) {es : List MapEntry} {L : List (κ × β)} (h : es.map (fun e => (e.key, e.val)) = L.map (fun p => (kv p.1, vv p.2))) : (Instr.findKey K (kv k) es).run P w = (Instr.findAsking K (kv k) es 0).run P w := by
  obtain ⟨fs, hs⟩ := M.hs
  unfold Instr.findKey
  simp only [Sem.run_bind, run_underlying hs, Result.andThen_ok]
  cases es with
  | nil => rfl
  | cons e es => rfl
theorem map_look (M : MT P T K E kv vv z) {w : World} {b : Nat} {L : List (κ × β)} (h : (mapR b kv vv L).p w) (k : κ) (ok : Bool) :
    (Instr.lookup T (.map (some b)) (kv k) ok).run P w = .ok (if ok then .tuple #[vv ((mlk L k).getD z), .bool (mlk L k).isSome] else vv ((mlk L k).getD z)) w := by
  obtain ⟨es, c, hb, hL⟩ := h
  have h1 := key_is M w k hL
  rcases find_is M w k es.toList L 0 hL with ⟨q1, q2, _⟩ | ⟨j, x, e, q1, q2, _, _, _⟩
  · rw [q2] at h1
    simp [Instr.lookup, run_underlying M.hu, MapKept.run_getObj_map hb, M.hk, h1, M.hz, Result.andThen, q1]
  · rw [q2] at h1
    simp [Instr.lookup, run_underlying M.hu, MapKept.run_getObj_map hb, M.hk, h1, Result.andThen, q1]
theorem kp_set {w : World} {r : Nat} {o : Obj} : Kp [r] w { w with heap := w.heap.setIfInBounds r o } := by
  refine ⟨rfl, rfl, rfl, by simp, fun k hk hm => ?_⟩
  have : ¬ r = k := fun e => hm (by simp [e])
  simp [this]
theorem map_put (M : MT P T K E kv vv z) {w : World} {b : Nat} {L : List (κ × β)} (h : (mapR b kv vv L).p w) (k : κ) (v : β) :
    ∃ w', (Instr.mapUpdate T (.map (some b)) (kv k) (vv v)).run P w = .ok () w' ∧ Kp [b] w w' ∧ (mapR b kv vv (mput L k v)).p w' := by
  obtain ⟨es, c, hb, hL⟩ := h
  have h1 := key_is M w k hL
  rcases find_is M w k es.toList L 0 hL with ⟨q1, q2, q3⟩ | ⟨j, x, e, q1, q2, q3, q4, q5⟩
  · rw [q2] at h1
    refine ⟨_, ?_, kp_set (o := .map (es.push { key := kv k, val := vv v, born := c }) (c + 1)), es.push { key := kv k, val := vv v, born := c }, c + 1, (MapKept.heap_set hb).1, ?_⟩
    · simp [Instr.mapUpdate, run_underlying M.hu, MapKept.run_getObj_map hb, M.hk, h1, Result.andThen, MapKept.run_setObj_map _ hb]
    · rw [q3, Array.toList_push, List.map_append, hL]; simp
  · rw [q2] at h1
    have e1 : es[j]? = some e := by rw [← Array.getElem?_toList]; exact q3
    refine ⟨_, ?_, kp_set (o := .map (es.modify j fun e => { e with key := kv k, val := vv v }) c), es.modify j fun e => { e with key := kv k, val := vv v }, c, (MapKept.heap_set hb).1, ?_⟩
    · simp [Instr.mapUpdate, run_underlying M.hu, MapKept.run_getObj_map hb, M.hk, h1, Result.andThen, MapKept.run_setObj_map _ hb, Instr.keyThatStays, e1, q4, M.hb]
    · rw [Array.toList_modify]; exact q5 v
def vMkm (o : Oper) (_ : SS) : Option TypeId :=
  match o.op with
  | .makeMap T none => some T
  | _ => none
def vLk (o : Oper) (s : SS) : Option (TypeId × Nat × Value × Bool) :=
  match o.op with
  | .lookup T X I ok => match ev s X, ev s I with
    | some (.v (.map (some b))), some (.v k) => some (T, b, k, ok)
    | _, _ => none
  | _ => none
def vMu (o : Oper) (s : SS) : Option (TypeId × Nat × Value × Value) :=
  match o.op with
  | .mapUpdate T X I Y => match ev s X, ev s I, ev s Y with
    | some (.v (.map (some b))), some (.v k), some (.v v) => some (T, b, k, v)
    | _, _, _ => none
  | _ => none
variable {C : Cx} {Q : Exit → Act → World → Prop} {R0 R : List Res} {m : Mch}
theorem Mmm {κ' β' : Type} (kv : κ' → Value) (vv : β' → Value) {T : TypeId} (J : ∀ b, JM C Q R0 (mapR b kv vv ([] : List (κ' × β')) :: R) (nx C (adv0 m (.v (.map (some b)))))) (hR : ∀ r : Res, R0.Sublist (r :: R) := by intros; first | exact List.nil_sublist _ | exact List.Sublist.cons _ (List.Sublist.refl _)) (hx : vw C.n vMkm m = some T := by kernel_rfl) (hL : locB m m.s.loc = locS m := by kernel_rfl) : JM C Q R0 R m := by
  refine m_eff (σ := Nat) vMkm _ hx (fun b => .v (.map (some b))) (fun _ => m.s.loc) (fun b => mapR b kv vv ([] : List (κ' × β')) :: R) (fun o h => ?_) (fun _ => hL) (fun _ => hR _) fun b => J b
  unfold vMkm at h
  split at h
  · rename_i T' hop
    rintro bs a w ⟨hfr, hn, hS⟩ Kt Q' hK
    have hrun : (execOp a.eval o).run C.P w = .ok (.value (.map (some w.heap.size))) (w.alloc (.map #[] 0)) := by
      have h9 := run_makeMap (P := C.P) T' w
      simp [execOp, hop, h9]
    refine Oper.wp_value hrun (hK w.heap.size _ (hS.fresh (Kp.alloc w _) _ ?_ (by simp [mapR]) ?_))
    · exact ⟨#[], 0, (MapKept.heap_alloc w _).1, rfl⟩
    · intro b hb
      simp only [mapR, List.mem_singleton] at hb
      subst hb
      exact ⟨Nat.le_refl _, by show _ < (w.heap.push _).size; simp⟩
  · cases h
theorem Mlo2 (M : MT C.P T K E kv vv z) {b : Nat} {L : List (κ × β)} (k : κ) (mem : mapR b kv vv L ∈ R) (J : JM C Q R0 R (nx C (adv0 m (.v (.tuple #[vv ((mlk L k).getD z), .bool (mlk L k).isSome]))))) (hR : R0.Sublist R := by first | exact List.nil_sublist _ | exact List.Sublist.refl _) (hx : vw C.n vLk m = some (T, b, kv k, true) := by kernel_rfl) (hL : locB m m.s.loc = locS m := by kernel_rfl) : JM C Q R0 R m := by
  refine m_eff (σ := Unit) vLk _ hx (fun _ => .v (.tuple #[vv ((mlk L k).getD z), .bool (mlk L k).isSome])) (fun _ => m.s.loc) (fun _ => R) (fun o h => ?_) (fun _ => hL) (fun _ => hR) fun _ => J
  unfold vLk at h
  split at h
  · rename_i T' X I ok hop
    split at h
    · rename_i b' k' h1 h2
      simp only [Option.some.injEq, Prod.mk.injEq] at h
      obtain ⟨rfl, rfl, rfl, rfl⟩ := h
      rintro bs a w ⟨hfr, hn, hS⟩ Kt Q' hK
      have e1 : a.eval X = .map (some b') := ev_sound hfr h1
      have e2 : a.eval I = kv k := ev_sound hfr h2
      refine Oper.wp_value ?_ (hK () w hS)
      have h9 := map_look M (hS.res _ mem) k true
      simp only [Bool.false_eq_true, if_true, if_false] at h9
      simp [execOp, hop, e1, e2, h9, den]
    · cases h
  · cases h
theorem Mmu (M : MT C.P T K E kv vv z) {b : Nat} {L : List (κ × β)} (k : κ) (v : β) (J : JM C Q R0 (mapR b kv vv (mput L k v) :: R) (nx C (adv0 m (.v undef)))) (hR : R0.Sublist (mapR b kv vv (mput L k v) :: R) := by first | exact List.nil_sublist _ | exact List.Sublist.cons _ (List.Sublist.refl _)) (hx : vw C.n vMu m = some (T, b, kv k, vv v) := by kernel_rfl) (hL : locB m m.s.loc = locS m := by kernel_rfl) : JM C Q R0 (mapR b kv vv L :: R) m := by
  refine m_eff (σ := Unit) vMu _ hx (fun _ => .v undef) (fun _ => m.s.loc) (fun _ => mapR b kv vv (mput L k v) :: R) (fun o h => ?_) (fun _ => hL) (fun _ => hR) fun _ => J
  unfold vMu at h
  split at h
  · rename_i T' X I Y hop
    split at h
    · rename_i b' k' v' h1 h2 h3
      simp only [Option.some.injEq, Prod.mk.injEq] at h
      obtain ⟨rfl, rfl, rfl, rfl⟩ := h
      rintro bs a w ⟨hfr, hn, hS⟩ Kt Q' hK
      have e1 : a.eval X = .map (some b') := ev_sound hfr h1
      have e2 : a.eval I = kv k := ev_sound hfr h2
      have e3 : a.eval Y = vv v := ev_sound hfr h3
      obtain ⟨w', r1, r2, r3⟩ := map_put M (hS.res _ (.head _)) k v
      unfold Oper.wp
      have hrun : (execOp a.eval o).run C.P w = .ok .skip w' := by
        simp [execOp, hop, e1, e2, e3, r1]
      rw [hrun]
      exact hK () w' (hS.turn r2 _ r3 (by simp [mapR]) fun x hx => .inl hx)
    · cases h
  · cases h
end
end Go.Proofs.YtbjakddkfgjkaaaGreatDoor.Fw
namespace Go.Proofs.YtbjakddkfgjkaaaGreatDoor.Fw
open Go.RowKit
def sDone (c i q : Int) (l : List DSession) : Prop := ∀ x, x ∈ l → x.client = c → x.id = i → q ≤ x.acked ∨ ∃ r, r ∈ x.replies ∧ r.seq = q
def isDone (k : Int × Int × Int) (s : DState) : Prop := k.2.1 ≤ s.index ∧ sDone k.1 k.2.1 k.2.2 s.sessions
theorem sDone.nil {c i q : Int} : sDone c i q [] := fun _ h => absurd h List.not_mem_nil
theorem sDone.sub {c i q : Int} {l m : List DSession} (h : sDone c i q l) (hs : m.Sublist l) : sDone c i q m := fun x hx => h x (hs.subset hx)
theorem sDone.fresh {k : Int × Int × Int} {s : DState} (h : sDone k.1 k.2.1 k.2.2 s.sessions) : sDone k.1 k.2.1 k.2.2 (aFresh s) := by
  unfold aFresh mFresh
  split
  · exact h.sub List.filter_sublist
  · exact .nil
theorem sDone.set {c i q : Int} {l : List DSession} (h : sDone c i q l) (n : Nat) {x : DSession} (hx : x.client = c → x.id = i → q ≤ x.acked ∨ ∃ r, r ∈ x.replies ∧ r.seq = q) : sDone c i q (l.set n x) := fun y hy => by
  rcases List.mem_or_eq_of_mem_set hy with hy | rfl
  · exact h y hy
  · exact hx
theorem sDone.join {c i q index client : Int} {l : List DSession} (h : sDone c i q l) (hi : i ≤ index) : sDone c i q (mJoin l index client).1 := by
  unfold mJoin
  split
  · exact .nil
  split
  · exact .nil
  split
  · rename_i hj
    obtain ⟨q1, _⟩ := sIdx_in (l := l) (c := client) (by omega)
    exact h.set _ fun hc hid => h (l.getD (sIdx l client).toNat default) (mem_of_getD q1) hc hid
  split
  · exact h
  · intro x hx hc hid
    rcases ins_in.1 hx with rfl | hx
    · have : index + 1 = i := hid
      omega
    · exact h x hx hc hid
theorem sDone.leave {c i q index client : Int} {l : List DSession} (h : sDone c i q l) : sDone c i q (mLeave l index client).1 := by
  unfold mLeave
  split
  · exact .nil
  split
  · exact h
  · exact h.sub (cutat_sub _ _)
theorem ack_ge (d : DSession) (cm : DCommand) : d.acked ≤ kAck d cm := by unfold kAck; split <;> omega
theorem left_in {d : DSession} {cm : DCommand} {r : DKept} (hr : r ∈ d.replies) (h : ¬ r.seq ≤ kAck d cm) : r ∈ kLeft d cm := List.mem_filter.2 ⟨hr, by simpa using h⟩
theorem sDone.ready {c i q index : Int} {cm : DCommand} {l : List DSession} (h : sDone c i q l) : sDone c i q (mReady l index cm).1 := by
  unfold mReady
  split
  · exact .nil
  split
  · exact .nil
  split
  · exact h
  · rename_i h2
    obtain ⟨q1, q2⟩ := sIdx_in (l := l) (c := cm.client) (fun z => h2 (.inl z))
    refine h.set _ fun hc hid => ?_
    have h3 := h _ (mem_of_getD q1) hc hid
    have h4 := ack_ge (l.getD (sIdx l cm.client).toNat default) cm
    rcases h3 with h3 | ⟨r, hr, hq⟩
    · exact .inl (Int.le_trans h3 h4)
    · by_cases hk : r.seq ≤ kAck (l.getD (sIdx l cm.client).toNat default) cm
      · left; show q ≤ kAck _ cm; omega
      · exact .inr ⟨r, left_in hr hk, hq⟩
theorem sDone.keep {c i q index client sq : Int} {rp : DReply} {l : List DSession} (h : sDone c i q l) : sDone c i q (mKeep l index client sq rp).1 := by
  unfold mKeep
  split
  · exact .nil
  split
  · exact .nil
  rename_i h1
  split
  · exact .nil
  split
  · exact .nil
  · obtain ⟨q1, q2⟩ := sIdx_in (l := l) (c := client) h1
    refine h.set _ fun hc hid => ?_
    rcases h _ (mem_of_getD q1) hc hid with h3 | ⟨r, hr, hq⟩
    · exact .inl h3
    · exact .inr ⟨r, ins_in.2 (.inr hr), hq⟩
theorem client_one {l : List DSession} (h : l.Pairwise fun x y => x.client < y.client) {x y : DSession} (hx : x ∈ l) (hy : y ∈ l) (e : x.client = y.client) : x = y := by
  obtain ⟨i, hi, rfl⟩ := List.getElem_of_mem hx
  obtain ⟨j, hj, rfl⟩ := List.getElem_of_mem hy
  rw [List.pairwise_iff_getElem] at h
  rcases Nat.lt_trichotomy i j with q | q | q
  · have := h i j hi hj q; omega
  · subst q; rfl
  · have := h j i hj hi q; omega
theorem ready_todo {l : List DSession} {index : Int} {cm : DCommand} (h : (mReady l index cm).2.2.1 = true) : ∃ d, d ∈ l ∧ d.client = cm.client ∧ d.id = cm.session ∧ ¬ cm.seq ≤ kAck d cm ∧ kIdx (kLeft d cm) cm.seq < 0 := by
  unfold mReady at h
  split at h
  · cases h
  split at h
  · cases h
  split at h
  · cases h
  · rename_i h2
    obtain ⟨q1, q2⟩ := sIdx_in (l := l) (c := cm.client) (fun z => h2 (.inl z))
    refine ⟨_, mem_of_getD q1, q2, Classical.not_not.1 fun z => h2 (.inr z), ?_⟩
    have h3 : (kAns (l.getD (sIdx l cm.client).toNat default) cm).2 = true := h
    unfold kAns at h3
    split at h3
    · cases h3
    rename_i n1
    split at h3
    · cases h3
    rename_i n2
    exact ⟨n1, by omega⟩
theorem kIdx_no {l : List DKept} {q : Int} (h : kIdx l q < 0) : ∀ r, r ∈ l → ¬ r.seq = q :=
  mem_getD (P := fun r : DKept => ¬ r.seq = q) fun j hj => of_decide_eq_false (mIdx_neg (p := fun k : DKept => decide (k.seq = q)) h j hj)
structure OnceI (l : List ByteArray) (k : Nat) (s : DState) (L : List ((Int × Int × Int) × Bool)) : Prop where
  le : k ≤ l.length
  ms : mState s = 0
  ix : s.index = (k : Int)
  dn : ∀ j, (mlk L j).getD false = true → isDone j s
end Go.Proofs.YtbjakddkfgjkaaaGreatDoor.Fw
namespace Go.Proofs.YtbjakddkfgjkaaaGreatDoor.Fw
open Go.RowKit
def kv3 (k : Int × Int × Int) : Value := .agg #[.int .i64 k.1, .int .i64 k.2.1, .int .i64 k.2.2]
def kv2 (k : Int × Int) : Value := .agg #[.int .i64 k.1, .int .i64 k.2]
def vvB (b : Bool) : Value := .bool b
def vvR (r : DReply) : Value := .agg #[.int .i64 r.code, .int .i64 r.n, .string r.text]
theorem bits3 (k : Int × Int × Int) : Instr.sameBits 10000 (kv3 k) (kv3 k) = true := by
  simp [kv3, Instr.sameBits]
theorem bits2 (k : Int × Int) : Instr.sameBits 10000 (kv2 k) (kv2 k) = true := by
  simp [kv2, Instr.sameBits]
theorem eq3 {P : Program} {K : TypeId} (h : ∀ a b c a' b' c' : Int, eqV P 8 K (.agg #[.int .i64 a, .int .i64 b, .int .i64 c]) (.agg #[.int .i64 a', .int .i64 b', .int .i64 c']) = some (decide (a = a') && (decide (b = b') && (decide (c = c') && true)))) (w : World) (x y : Int × Int × Int) : (Op.equal K (kv3 x) (kv3 y)).run P w = .ok (decide (x = y)) w := by
  have h1 := eqV_sound P w 8 9992 K _ _ _ (h x.1 x.2.1 x.2.2 y.1 y.2.1 y.2.2)
  have e : (decide (x.1 = y.1) && (decide (x.2.1 = y.2.1) && (decide (x.2.2 = y.2.2) && true))) = decide (x = y) := by
    obtain ⟨a, b, c⟩ := x
    obtain ⟨a', b', c'⟩ := y
    simp [Prod.mk.injEq, Bool.decide_and]
  rw [e] at h1
  exact h1
theorem eq2 {P : Program} {K : TypeId} (h : ∀ a b a' b' : Int, eqV P 8 K (.agg #[.int .i64 a, .int .i64 b]) (.agg #[.int .i64 a', .int .i64 b']) = some (decide (a = a') && (decide (b = b') && true))) (w : World) (x y : Int × Int) : (Op.equal K (kv2 x) (kv2 y)).run P w = .ok (decide (x = y)) w := by
  have h1 := eqV_sound P w 8 9992 K _ _ _ (h x.1 x.2 y.1 y.2)
  have e : (decide (x.1 = y.1) && (decide (x.2 = y.2) && true)) = decide (x = y) := by
    obtain ⟨a, b⟩ := x
    obtain ⟨a', b'⟩ := y
    simp [Prod.mk.injEq, Bool.decide_and]
  rw [e] at h1
  exact h1
end Go.Proofs.YtbjakddkfgjkaaaGreatDoor.Fw
namespace Go.Proofs.YtbjakddkfgjkaaaGreatDoor.Fw
open Go.RowKit
def sHas (c i q : Int) (rp : DReply) (l : List DSession) : Prop := ∀ x, x ∈ l → x.client = c → x.id = i → q ≤ x.acked ∨ ∃ r, r ∈ x.replies ∧ r.seq = q ∧ r.reply = rp
def isHas (k : Int × Int × Int) (rp : DReply) (s : DState) : Prop := k.2.1 ≤ s.index ∧ sHas k.1 k.2.1 k.2.2 rp s.sessions
theorem sHas.nil {c i q : Int} {rp : DReply} : sHas c i q rp [] := fun _ h => absurd h List.not_mem_nil
theorem sHas.sub {c i q : Int} {rp : DReply} {l m : List DSession} (h : sHas c i q rp l) (hs : m.Sublist l) : sHas c i q rp m := fun x hx => h x (hs.subset hx)
theorem sHas.fresh {k : Int × Int × Int} {rp : DReply} {s : DState} (h : sHas k.1 k.2.1 k.2.2 rp s.sessions) : sHas k.1 k.2.1 k.2.2 rp (aFresh s) := by
  unfold aFresh mFresh
  split
  · exact h.sub List.filter_sublist
  · exact .nil
theorem sHas.set {c i q : Int} {rp : DReply} {l : List DSession} (h : sHas c i q rp l) (n : Nat) {x : DSession} (hx : x.client = c → x.id = i → q ≤ x.acked ∨ ∃ r, r ∈ x.replies ∧ r.seq = q ∧ r.reply = rp) : sHas c i q rp (l.set n x) := fun y hy => by
  rcases List.mem_or_eq_of_mem_set hy with hy | rfl
  · exact h y hy
  · exact hx
theorem sHas.join {c i q index client : Int} {rp : DReply} {l : List DSession} (h : sHas c i q rp l) (hi : i ≤ index) : sHas c i q rp (mJoin l index client).1 := by
  unfold mJoin
  split
  · exact .nil
  split
  · exact .nil
  split
  · rename_i hj
    obtain ⟨q1, _⟩ := sIdx_in (l := l) (c := client) (by omega)
    exact h.set _ fun hc hid => h (l.getD (sIdx l client).toNat default) (mem_of_getD q1) hc hid
  split
  · exact h
  · intro x hx hc hid
    rcases ins_in.1 hx with rfl | hx
    · have : index + 1 = i := hid
      omega
    · exact h x hx hc hid
theorem sHas.leave {c i q index client : Int} {rp : DReply} {l : List DSession} (h : sHas c i q rp l) : sHas c i q rp (mLeave l index client).1 := by
  unfold mLeave
  split
  · exact .nil
  split
  · exact h
  · exact h.sub (cutat_sub _ _)
theorem sHas.ready {c i q index : Int} {rp : DReply} {cm : DCommand} {l : List DSession} (h : sHas c i q rp l) : sHas c i q rp (mReady l index cm).1 := by
  unfold mReady
  split
  · exact .nil
  split
  · exact .nil
  split
  · exact h
  · rename_i h2
    obtain ⟨q1, q2⟩ := sIdx_in (l := l) (c := cm.client) (fun z => h2 (.inl z))
    refine h.set _ fun hc hid => ?_
    have h3 := h _ (mem_of_getD q1) hc hid
    have h4 := ack_ge (l.getD (sIdx l cm.client).toNat default) cm
    rcases h3 with h3 | ⟨r, hr, hq⟩
    · exact .inl (Int.le_trans h3 h4)
    · by_cases hk : r.seq ≤ kAck (l.getD (sIdx l cm.client).toNat default) cm
      · left; show q ≤ kAck _ cm; omega
      · exact .inr ⟨r, left_in hr hk, hq⟩
theorem sHas.keep {c i q index client sq : Int} {rp : DReply} {rq : DReply} {l : List DSession} (h : sHas c i q rp l) : sHas c i q rp (mKeep l index client sq rq).1 := by
  unfold mKeep
  split
  · exact .nil
  split
  · exact .nil
  rename_i h1
  split
  · exact .nil
  split
  · exact .nil
  · obtain ⟨q1, q2⟩ := sIdx_in (l := l) (c := client) h1
    refine h.set _ fun hc hid => ?_
    rcases h _ (mem_of_getD q1) hc hid with h3 | ⟨r, hr, hq⟩
    · exact .inl h3
    · exact .inr ⟨r, ins_in.2 (.inr hr), hq⟩
theorem has_step {k : Int × Int × Int} {rp : DReply} {s : DState} {cm : DCommand} (h : isHas k rp s) : isHas k rp (mStep s cm).1 := by
  obtain ⟨h1, h2⟩ := h
  have hf := sHas.fresh h2
  unfold mStep
  split
  · exact ⟨by show k.2.1 ≤ s.index + 1; omega, hf.join h1⟩
  split
  · exact ⟨by show k.2.1 ≤ s.index + 1; omega, hf.leave⟩
  split
  · exact ⟨by show k.2.1 ≤ s.index + 1; omega, (hf.ready (index := s.index) (cm := cm)).keep⟩
  · exact ⟨by show k.2.1 ≤ s.index + 1; omega, hf.ready (index := s.index) (cm := cm)⟩
theorem ack_of (d : DSession) (c : DCommand) : c.acked ≤ kAck d c := by unfold kAck; split <;> omega
theorem kept_one {l : List DKept} (h : l.Pairwise fun x y => x.seq < y.seq) {x y : DKept} (hx : x ∈ l) (hy : y ∈ l) (e : x.seq = y.seq) : x = y := by
  obtain ⟨i, hi, rfl⟩ := List.getElem_of_mem hx
  obtain ⟨j, hj, rfl⟩ := List.getElem_of_mem hy
  rw [List.pairwise_iff_getElem] at h
  rcases Nat.lt_trichotomy i j with q | q | q
  · have := h i j hi hj q; omega
  · subst q; rfl
  · have := h j i hj hi q; omega
theorem told_kept {s : DState} {cm : DCommand} (hs : mState s = 0) (hi : s.index < 1073741824) (hc : mCmd cm = 0) (h2 : cm.kind = 2) (hq : cm.seq ≤ cm.acked + 4) (n1 : ¬ (aReady s cm).2.2.1 = true) (n11 : ¬ (aReady s cm).2.1.code = 11) (n12 : ¬ (aReady s cm).2.1.code = 12) :
    ∃ d n, d ∈ aFresh s ∧ d.client = cm.client ∧ d.id = cm.session ∧ ¬ cm.seq ≤ kAck d cm ∧ n < (aFresh s).length ∧ (aReady s cm).1 = (aFresh s).set n (kSess d s.index cm) ∧ ∃ r, r ∈ kLeft d cm ∧ r.seq = cm.seq ∧ r.reply = (aReady s cm).2.1 := by
  have hf := fresh_all hs
  have hb := state_bds hs
  have hm : mSess (aFresh s) s.index = 0 := sess_iff.2 ⟨hb.1, hb.2, hf⟩
  have hr : ¬ (1073741824 ≤ s.index ∨ cm.seq < 1 ∨ 1048576 < cm.seq ∨ cm.acked < 0 ∨ cm.seq ≤ cm.acked) := by
    unfold mCmd at hc
    split at hc
    · cases hc
    split at hc
    · cases hc
    split at hc
    · cases hc
    · omega
  unfold aReady mReady at n1 n11 n12 ⊢
  rw [if_neg (fun z => z hm), if_neg hr] at n1 n11 n12 ⊢
  split at n11
  · exact absurd rfl n11
  rename_i q; rw [if_neg q] at n1 n12 ⊢
  obtain ⟨q1, q2⟩ := sIdx_in (l := aFresh s) (c := cm.client) (fun z => q (.inl z))
  have q3 : ((aFresh s).getD (sIdx (aFresh s) cm.client).toNat default).id = cm.session := Classical.not_not.1 fun z => q (.inr z)
  refine ⟨_, (sIdx (aFresh s) cm.client).toNat, mem_of_getD q1, q2, q3, ?_⟩
  generalize hd : (aFresh s).getD (sIdx (aFresh s) cm.client).toNat default = d at *
  have n1' : ¬ (kAns d cm).2 = true := n1
  have n12' : ¬ (kAns d cm).1.code = 12 := n12
  have ha := ack_of d cm
  have key : ¬ cm.seq ≤ kAck d cm ∧ ∃ r, r ∈ kLeft d cm ∧ r.seq = cm.seq ∧ r.reply = (kAns d cm).1 := by
    unfold kAns at n1' n12' ⊢
    split at n12'
    · exact absurd rfl n12'
    rename_i a1; rw [if_neg a1] at n1' ⊢
    refine ⟨a1, ?_⟩
    split at n12'
    · rename_i a2; rw [if_pos a2] at n1' ⊢
      obtain ⟨p1, p2⟩ := mIdx_pos (p := fun k : DKept => decide (k.seq = cm.seq)) a2
      exact ⟨_, mem_of_getD p1, of_decide_eq_true p2, rfl⟩
    rename_i a2; rw [if_neg a2] at n1' ⊢
    split at n1'
    · omega
    · exact absurd rfl n1'
  exact ⟨key.1, q1, rfl, key.2⟩
theorem has_after {s : DState} {cm : DCommand} (hs : mState s = 0) (hi : s.index < 1073741824) (hc : mCmd cm = 0) (h2 : cm.kind = 2) (hq : cm.seq ≤ cm.acked + 4) (n11 : ¬ (mStep s cm).2.code = 11) (n12 : ¬ (mStep s cm).2.code = 12) : isHas (cm.client, cm.session, cm.seq) (mStep s cm).2 (mStep s cm).1 := by
  have hfa := fresh_all hs
  have hr : sAll (s.index + 1) (aReady s cm).1 := ready_all hfa
  unfold mStep at n11 n12 ⊢
  rw [if_neg (by omega), if_neg (by omega)] at n11 n12 ⊢
  by_cases h3 : (aReady s cm).2.2.1 = true
  · rw [if_pos h3]
    obtain ⟨d, hd, e1, e2, n1, n2⟩ := ready_todo h3
    obtain ⟨p1, p2, p3, p4, p5, p6, p7, p8⟩ := hfa.all d hd
    refine ⟨by show cm.session ≤ s.index + 1; omega, ?_⟩
    show sHas cm.client cm.session cm.seq (aDo s cm).2.2 (mKeep (aReady s cm).1 (s.index + 1) cm.client cm.seq (aDo s cm).2.2).1
    have hka := keep_all (c := cm.client) (q := cm.seq) (r := (aDo s cm).2.2) hr
    generalize (aReady s cm).1 = l at *
    generalize (aDo s cm).2.2 = rp at *
    unfold mKeep at hka ⊢
    split
    · exact .nil
    rename_i a1; rw [if_neg a1] at hka
    split
    · exact .nil
    rename_i a2; rw [if_neg a2] at hka
    split
    · exact .nil
    rename_i a3; rw [if_neg a3] at hka
    split
    · exact .nil
    rename_i a4; rw [if_neg a4] at hka
    obtain ⟨q1, q2⟩ := sIdx_in (l := l) (c := cm.client) a2
    intro x hx hc hid
    have hy : kIns (l.getD (sIdx l cm.client).toNat default) cm.seq rp ∈ l.set (sIdx l cm.client).toNat (kIns (l.getD (sIdx l cm.client).toNat default) cm.seq rp) := List.mem_set (by omega) _
    have e := client_one hka.pw hx hy (hc.trans q2.symm)
    rw [e]
    exact .inr ⟨⟨cm.seq, rp⟩, ins_in.2 (.inl rfl), rfl, rfl⟩
  · rw [if_neg h3] at n11 n12 ⊢
    obtain ⟨d, n, hd, e1, e2, e3, e4, e5, r, hr1, hr2, hr3⟩ := told_kept hs hi hc h2 hq h3 n11 n12
    obtain ⟨p1, p2, p3, p4, p5, p6, p7, p8⟩ := hfa.all d hd
    refine ⟨by show cm.session ≤ s.index + 1; omega, ?_⟩
    show sHas cm.client cm.session cm.seq (aReady s cm).2.1 (aReady s cm).1
    have hpw := hr.pw
    rw [e5] at hpw ⊢
    intro x hx hc hid
    have hy : kSess d s.index cm ∈ (aFresh s).set n (kSess d s.index cm) := List.mem_set e4 _
    have e := client_one hpw hx hy (hc.trans e1.symm)
    rw [e]
    exact .inr ⟨r, hr1, hr2, hr3⟩
theorem has_now {s : DState} {cm : DCommand} {rp : DReply} (hs : mState s = 0) (hi : s.index < 1073741824) (hc : mCmd cm = 0) (h2 : cm.kind = 2) (hq : cm.seq ≤ cm.acked + 4) (h : isHas (cm.client, cm.session, cm.seq) rp s) (n11 : ¬ (mStep s cm).2.code = 11) (n12 : ¬ (mStep s cm).2.code = 12) : (mStep s cm).2 = rp := by
  have hfa := fresh_all hs
  unfold mStep at n11 n12 ⊢
  rw [if_neg (by omega), if_neg (by omega)] at n11 n12 ⊢
  by_cases h3 : (aReady s cm).2.2.1 = true
  · exfalso
    obtain ⟨d, hd, e1, e2, n1, n2⟩ := ready_todo h3
    have h5 := ack_ge d cm
    rcases (sHas.fresh (k := (cm.client, cm.session, cm.seq)) h.2) d hd e1 e2 with h4 | ⟨r, hr, hq1, _⟩
    · have h6 : cm.seq ≤ d.acked := h4
      omega
    · have h6 : r.seq = cm.seq := hq1
      exact kIdx_no n2 r (left_in hr (by omega)) h6
  · rw [if_neg h3] at n11 n12 ⊢
    obtain ⟨d, n, hd, e1, e2, e3, e4, e5, r, hr1, hr2, hr3⟩ := told_kept hs hi hc h2 hq h3 n11 n12
    obtain ⟨p1, p2, p3, p4, p5, p6, p7, p8⟩ := hfa.all d hd
    have h4 := (sHas.fresh (k := (cm.client, cm.session, cm.seq)) h.2) d hd e1 e2
    rcases h4 with h4 | ⟨r', hr', hq', hp'⟩
    · have := ack_ge d cm
      have h5 : cm.seq ≤ d.acked := h4
      omega
    · have e : r' = r := kept_one p8.2 hr' (List.mem_filter.1 hr1).1 (Eq.trans hq' hr2.symm)
      show (aReady s cm).2.1 = rp
      rw [← hr3, ← hp', e]
end Go.Proofs.YtbjakddkfgjkaaaGreatDoor.Fw
namespace Go.Proofs.YtbjakddkfgjkaaaGreatDoor.Fw
open Go.RowKit
theorem putOne_mem {E : List ByteArray} {k : Nat} {s e : ByteArray} (h : e ∈ putOne E k s) : e ∈ E ∨ e = s := by
  unfold putOne at h
  split at h
  · exact .inl h
  · rcases List.mem_append.1 h with h | h
    · exact .inl (List.mem_of_mem_take h)
    · exact .inr (List.mem_singleton.1 h)
theorem putGo_mem : ∀ (m E : List ByteArray) (k : Nat) {e : ByteArray}, e ∈ (putGo E k m).1 → e ∈ E ∨ e ∈ m
  | [], _, _, _, h => .inl h
  | s :: r, E, k, e, h => by
    unfold putGo at h
    split at h
    · exact absurd h List.not_mem_nil
    · rcases putGo_mem r _ _ h with h | h
      · rcases putOne_mem h with h | h
        · exact .inl h
        · exact .inr (by rw [h]; exact List.mem_cons_self ..)
      · exact .inr (List.mem_cons_of_mem _ h)
theorem put_mem {x : DLog} {b : Int} {m : List ByteArray} {e : ByteArray} (h : e ∈ (mPut x b m).1.entries) : e ∈ x.entries ∨ e ∈ m := by
  unfold mPut at h
  repeat' split at h
  all_goals first
    | exact absurd h List.not_mem_nil
    | exact (putGo_mem _ _ _ h).elim .inl fun q => .inr (List.mem_of_mem_drop q)
theorem hear_mem {x : DReplica} {b : Int} {m : List ByteArray} {e : ByteArray} (h : e ∈ (mRHear x b m).1.log.entries) : e ∈ x.log.entries ∨ e ∈ m := by
  unfold mRHear at h
  repeat' split at h
  all_goals first
    | exact absurd h List.not_mem_nil
    | exact put_mem h
theorem inst_mem {x : DReplica} {s e : ByteArray} (h : e ∈ (mRInstall x s).1.log.entries) : e ∈ x.log.entries := by
  unfold mRInstall at h
  split at h
  · exact absurd h List.not_mem_nil
  split at h
  · exact absurd h List.not_mem_nil
  split at h
  · exact absurd h List.not_mem_nil
  split at h
  · exact absurd h List.not_mem_nil
  have h' : e ∈ (if (mUnsnap s).1.index ≤ mLast x.log then (⟨(mUnsnap s).1.index, x.log.entries.drop ((mUnsnap s).1.index - x.log.base).toNat⟩ : DLog) else ⟨(mUnsnap s).1.index, []⟩).entries := h
  split at h'
  · exact List.mem_of_mem_drop h'
  · exact absurd h' List.not_mem_nil
theorem comp_mem {x : DReplica} {e : ByteArray} (h : e ∈ (mRCompact x).1.log.entries) : e ∈ x.log.entries := by
  unfold mRCompact at h
  split at h
  · exact absurd h List.not_mem_nil
  split at h
  · exact absurd h List.not_mem_nil
  split at h
  · exact absurd h List.not_mem_nil
  have h' : e ∈ (mCut x.log x.state.index).1.entries := h
  unfold mCut at h'
  repeat' split at h'
  all_goals first
    | exact absurd h' List.not_mem_nil
    | exact List.mem_of_mem_drop h'
theorem rest_mem {x : DReplica} {e : ByteArray} (h : e ∈ (mRRestart x).1.log.entries) : e ∈ x.log.entries := by
  unfold mRRestart at h
  split at h
  · exact absurd h List.not_mem_nil
  · exact h
theorem appl_mem {x : DReplica} {u : Int} {e : ByteArray} (h : e ∈ (mRApply x u).1.log.entries) : e ∈ x.log.entries := by
  unfold mRApply at h
  repeat' split at h
  all_goals first
    | exact absurd h List.not_mem_nil
    | exact h
theorem behind_mem {x : DLog} {i m : Int} {e : ByteArray} (h : e ∈ (mBehind x i m).1) : e ∈ x.entries := by
  unfold mBehind at h
  repeat' split at h
  all_goals first
    | exact absurd h List.not_mem_nil
    | exact List.mem_of_mem_drop (List.mem_of_mem_take h)
structure entP (P : ByteArray → Prop) (t : DTown) : Prop where
  cm : ∀ e, e ∈ t.com → P e
  rp : ∀ x, x ∈ t.r → ∀ e, e ∈ x.log.entries → P e
theorem entP.rep {P : ByteArray → Prop} {t : DTown} (h : entP P t) {k : Int} {e : ByteArray} (he : e ∈ (t.rep k).log.entries) : P e := by
  by_cases hk : k.toNat < t.r.length
  · exact h.rp _ (mem_of_getD hk) e he
  · unfold DTown.rep at he
    rw [List.getD_eq_getElem?_getD, List.getElem?_eq_none (by omega)] at he
    exact absurd he List.not_mem_nil
theorem entP.set {P : ByteArray → Prop} {t : DTown} (h : entP P t) {k : Int} {x : DReplica} (hx : ∀ e, e ∈ x.log.entries → P e) : entP P (t.set k x) := ⟨h.cm, fun y hy => (List.mem_or_eq_of_mem_set hy).elim (h.rp y) fun e => e ▸ hx⟩
theorem entP.grow {P : ByteArray → Prop} {t : DTown} (h : entP P t) (n : Int) : entP P (t.grow n) := ⟨fun e he => by
  rw [DTown.grow_com] at he
  rcases List.mem_append.1 he with he | he
  · exact h.cm e he
  · exact h.rep (k := t.lead) (List.mem_of_mem_drop (List.mem_of_mem_take he)), h.rp⟩
theorem entP.grow1 {P : ByteArray → Prop} {t : DTown} (h : entP P t) (k : Int) : entP P (t.grow1 k) := by
  unfold DTown.grow1
  split
  · exact h
  · exact h.grow _
theorem entP.commit {P : ByteArray → Prop} {t : DTown} (h : entP P t) : entP P t.commit := ((h.grow1 0).grow1 1).grow1 2
theorem entP.added {P : ByteArray → Prop} {t : DTown} (h : entP P t) {s : ByteArray × Int} (hs : s.2 = 0 → P s.1) : entP P (t.added s).1 := by
  unfold DTown.added
  split
  · exact h
  rename_i q
  split
  · refine h.set fun e he => ?_
    rcases hear_mem he with he | he
    · exact h.rep he
    · rw [List.mem_singleton.1 he]; exact hs (Classical.not_not.1 q)
  · exact h
theorem entP.told {P : ByteArray → Prop} {t : DTown} (h : entP P t) {k many : Int} : ∀ e, e ∈ (t.told k many).1.log.entries → P e := fun e he => by
  unfold DTown.told at he
  split at he
  · exact h.rep (inst_mem he)
  split at he
  · exact absurd he List.not_mem_nil
  · rcases hear_mem he with he | he
    · exact h.rep he
    · exact h.rep (k := t.lead) (behind_mem he)
theorem entP.put {P : ByteArray → Prop} {t : DTown} (h : entP P t) {k : Int} {x : DReplica × Int} (hx : ∀ e, e ∈ x.1.log.entries → P e) : entP P (t.put k x).1 := by
  unfold DTown.put
  split
  · exact h.set hx
  · exact h
theorem entP.atOne {P : ByteArray → Prop} {t : DTown} (h : entP P t) (a : DAct) : entP P (t.atOne a).1 := by
  unfold DTown.atOne
  split
  · exact h
  split
  · unfold DTown.ship
    split
    · exact h
    split
    · exact (h.set h.told).commit
    · exact h
  split
  · unfold DTown.apply
    split
    · exact h
    split
    · exact h
    · have h2 := h.set (k := a.r) (x := (t.ran a.r a.k).1) fun e he => h.rep (appl_mem he)
      exact ⟨h2.cm, h2.rp⟩
  split
  · split
    · exact h
    · exact (show entP P { t with lead := a.r } from ⟨h.cm, h.rp⟩).commit
  split
  · exact h.put fun e he => h.rep (comp_mem he)
  · exact h.put fun e he => h.rep (rest_mem he)
theorem grow1_c (t : DTown) (k : Int) : (t.grow1 k).c = t.c ∧ (t.grow1 k).mails = t.mails := by
  unfold DTown.grow1
  split <;> exact ⟨rfl, rfl⟩
theorem commit_c (t : DTown) : t.commit.c = t.c ∧ t.commit.mails = t.mails := by
  unfold DTown.commit
  have h1 := grow1_c t 0
  have h2 := grow1_c (t.grow1 0) 1
  have h3 := grow1_c ((t.grow1 0).grow1 1) 2
  exact ⟨h3.1.trans (h2.1.trans h1.1), h3.2.trans (h2.2.trans h1.2)⟩
theorem ship_c (t : DTown) (k many : Int) : (t.ship k many).1.c = t.c ∧ (t.ship k many).1.mails = t.mails := by
  unfold DTown.ship
  split
  · exact ⟨rfl, rfl⟩
  split
  · exact commit_c _
  · exact ⟨rfl, rfl⟩
theorem put_c (t : DTown) (k : Int) (x : DReplica × Int) : (t.put k x).1.c = t.c ∧ (t.put k x).1.mails = t.mails ∧ (t.put k x).1.com = t.com := by
  unfold DTown.put
  split <;> exact ⟨rfl, rfl, rfl⟩
theorem atOne_c (t : DTown) (a : DAct) : (t.atOne a).1.c = t.c := by
  unfold DTown.atOne
  split
  · rfl
  split
  · exact (ship_c t _ _).1
  split
  · unfold DTown.apply
    split
    · rfl
    split <;> rfl
  split
  · split
    · rfl
    · exact (commit_c _).1
  split
  · exact (put_c t _ _).1
  · exact (put_c t _ _).1
theorem added_c (t : DTown) (s : ByteArray × Int) : (t.added s).1.c = t.c := by
  unfold DTown.added DTown.set
  repeat' split
  all_goals rfl
end Go.Proofs.YtbjakddkfgjkaaaGreatDoor.Fw
namespace Go.Proofs.YtbjakddkfgjkaaaGreatDoor.Fw
open Go.RowKit
theorem tell_w {s : ByteArray} (h : s.size ≤ 5000) (r : ByteArray) : mTell (mTextB s ++ r) = (s, r, 0) := by
  have e : mTextB s ++ r = (mNumber (s.size : Int)).1 ++ (s ++ r) := by
    unfold mTextB mText
    rw [if_neg (by omega), ByteArray.append_assoc]
  have hr := read_number (n := (s.size : Int)) (by omega) (by omega) (s ++ r)
  rw [e]
  unfold mTell
  rw [hr]
  rw [if_neg (by simp), if_neg (by show ¬ (5000 : Int) < (s.size : Int); omega), if_neg (by show ¬ (((s ++ r).size : Nat) : Int) < (s.size : Int); rw [ByteArray.size_append]; omega)]
  show ((s ++ r).extract 0 (s.size : Int).toNat, (s ++ r).extract (s.size : Int).toNat (s ++ r).size, (0 : Int)) = _
  rw [Int.toNat_natCast, ByteArray.extract_append_eq_left rfl, bext_rest]
theorem encN_w (l : List Int) (b : ByteArray) : encN b l = b ++ wAll wN l := foldl_w wN l b
theorem encT_w (l : List ByteArray) (b : ByteArray) : encT b l = b ++ wAll mTextB l := foldl_w mTextB l b
theorem two_get (a b : Int) (rest : ByteArray) : (bstr [a, b] ++ rest).data.getD 0 0 = UInt8.ofNat a.toNat ∧ (bstr [a, b] ++ rest).data.getD 1 0 = UInt8.ofNat b.toNat := by
  have h1 := bstr_get emp rest a [b]
  have h2 := bstr_get (bstr [a]) rest b []
  rw [emp_append] at h1
  rw [bstr_append, bstr_size] at h2
  exact ⟨h1, h2⟩
theorem cmd_go {c : DCommand} (h : mCmd c = 0) (h2 : c.kind = 2) : 1 ≤ c.client ∧ c.client ≤ 9 ∧ 1 ≤ c.session ∧ c.session ≤ 1073741824 ∧ 1 ≤ c.seq ∧ c.seq ≤ 1048576 ∧ 0 ≤ c.acked ∧ c.acked < c.seq ∧ mOp c.op = 0 := by
  unfold mCmd at h
  split at h
  · cases h
  split at h
  · cases h
  split at h
  · cases h
  · exact ⟨by omega, by omega, by omega, by omega, by omega, by omega, by omega, by omega, h⟩
theorem op_go {o : DOp} (h : mOp o = 0) : 1 ≤ o.kind ∧ o.kind ≤ 6 ∧ o.a.size ≤ 6 ∧ o.b.size ≤ 12 ∧ 0 ≤ o.n ∧ o.n ≤ 1073741824 := by
  unfold mOp at h
  split at h
  · cases h
  split at h
  · cases h
  rename_i h2
  split at h
  · cases h
  split at h
  · cases h
  have hn : mName o.a = true := by
    cases hm : mName o.a with
    | true => rfl
    | false => exact absurd (.inl hm) h2
  unfold mName at hn
  simp only [Bool.and_eq_true, decide_eq_true_eq] at hn
  exact ⟨by omega, by omega, by omega, by omega, by omega, by omega⟩
theorem dec_enc {c : DCommand} (h : mCmd c = 0) (h2 : c.kind = 2) : mDecode (mEnc c).1 = (c, 0) := by
  obtain ⟨b1, b2, b3, b4, b5, b6, b7, b8, b9⟩ := cmd_go h h2
  obtain ⟨o1, o2, o3, o4, o5, o6⟩ := op_go b9
  have e : (mEnc c).1 = bstr [c.kind % 256, c.client % 256] ++ (wN c.session ++ (wN c.seq ++ (wN c.acked ++ (wN c.op.kind ++ (wN c.op.n ++ (mTextB c.op.a ++ (mTextB c.op.b ++ emp))))))) := by
    unfold mEnc
    rw [if_pos h, if_pos h2]
    show encT (encN _ _) _ = _
    rw [encT_w, encN_w]
    simp only [wAll, List.foldr_cons, List.foldr_nil, append_emp, ByteArray.append_assoc]
  have hs : (mEnc c).1.size ≤ 5000 := by
    have n1 : (wN c.session).size ≤ 6 := mNumber_size c.session
    have n2 : (wN c.seq).size ≤ 6 := mNumber_size c.seq
    have n3 : (wN c.acked).size ≤ 6 := mNumber_size c.acked
    have n4 : (wN c.op.kind).size ≤ 6 := mNumber_size c.op.kind
    have n5 : (wN c.op.n).size ≤ 6 := mNumber_size c.op.n
    have t1 : (mTextB c.op.a).size ≤ 6 + 6 := by
      unfold mTextB mText
      rw [if_neg (by omega), ByteArray.size_append]
      have := mNumber_size (c.op.a.size : Int)
      omega
    have t2 : (mTextB c.op.b).size ≤ 6 + 12 := by
      unfold mTextB mText
      rw [if_neg (by omega), ByteArray.size_append]
      have := mNumber_size (c.op.b.size : Int)
      omega
    rw [e]
    simp only [ByteArray.size_append, bstr_size, List.length_cons, List.length_nil]
    have : emp.size = 0 := rfl
    omega
  rw [e] at hs ⊢
  generalize hR : (wN c.session ++ (wN c.seq ++ (wN c.acked ++ (wN c.op.kind ++ (wN c.op.n ++ (mTextB c.op.a ++ (mTextB c.op.b ++ emp))))))) = R at *
  obtain ⟨g1, g2⟩ := two_get (c.kind % 256) (c.client % 256) R
  have hk : (cmd0 (bstr [c.kind % 256, c.client % 256] ++ R)) = ⟨2, c.client, 0, 0, 0, zOp⟩ := by
    unfold cmd0
    rw [g1, g2, h2]
    have : ((UInt8.ofNat (c.client % 256).toNat).toNat : Int) = c.client := by
      rw [UInt8.toNat_ofNat']
      omega
    rw [this]
    rfl
  have hx : (bstr [c.kind % 256, c.client % 256] ++ R).extract 2 (bstr [c.kind % 256, c.client % 256] ++ R).size = R := by
    have := bext_rest (bstr [c.kind % 256, c.client % 256]) R
    rw [bstr_size] at this
    exact this
  have hb : mBody ⟨2, c.client, 0, 0, 0, zOp⟩ R = (c, emp, 0) := by
    unfold mBody
    rw [← hR]
    simp only [read_number (show 0 ≤ c.session by omega) (show c.session ≤ 1099511627776 by omega), read_number (show 0 ≤ c.seq by omega) (show c.seq ≤ 1099511627776 by omega), read_number (show 0 ≤ c.acked by omega) (show c.acked ≤ 1099511627776 by omega), read_number (show 0 ≤ c.op.kind by omega) (show c.op.kind ≤ 1099511627776 by omega), read_number (show 0 ≤ c.op.n by omega) (show c.op.n ≤ 1099511627776 by omega), tell_w (show c.op.a.size ≤ 5000 by omega), tell_w (show c.op.b.size ≤ 5000 by omega), not_true_eq_false, if_false]
    rw [← h2]
  unfold mDecode
  rw [if_neg (by omega), if_neg (by rw [ByteArray.size_append, bstr_size]; simp), hk, if_pos rfl, hx, hb]
  unfold mFin
  rw [if_neg (by simp), if_neg (by simp), if_neg (by simpa using h)]
theorem dec_kind {s : ByteArray} (h : (mDecode s).1.kind = 2) : (cmd0 s).kind = 2 := by
  have key : ∀ b : DCommand × ByteArray × Int, (mFin b).1.kind = 2 → b.1.kind = 2 := by
    intro b hb
    unfold mFin at hb
    split at hb
    · cases hb
    split at hb
    · cases hb
    split at hb
    · cases hb
    · exact hb
  unfold mDecode at h
  split at h
  · cases h
  split at h
  · cases h
  split at h
  · assumption
  · exact key _ h
theorem hello_not (x : DCustomer) (h : (mHello x).2 = 0) : ¬ (mDecode (mHello x).1).1.kind = 2 := by
  intro h1
  have h2 := dec_kind h1
  unfold mHello at h h2
  split at h
  · rename_i q; rw [if_pos q] at h2
    unfold mEnc at h h2
    split at h
    · rename_i q2; rw [if_pos q2] at h2
      have hk : (cmd0 (bstr [1 % 256, x.id % 256])).kind = 2 := by
        rw [if_neg (by show ¬ (1 : Int) = 2; omega)] at h2
        exact h2
      have g := (two_get (1 % 256) (x.id % 256) emp).1
      rw [append_emp] at g
      unfold cmd0 at hk
      rw [g] at hk
      exact absurd (show (((UInt8.ofNat (1 % 256 : Int).toNat).toNat : Nat) : Int) = 2 from hk) (by decide)
    · rename_i q2; exact absurd h q2
  · rename_i q; exact absurd h q
end Go.Proofs.YtbjakddkfgjkaaaGreatDoor.Fw
namespace Go.Proofs.YtbjakddkfgjkaaaGreatDoor.Fw
open Go.RowKit
def goodE (F : Int → Int → Int) (cs : List DCustomer) (e : ByteArray) : Prop :=
  (mDecode e).1.kind = 2 → F (mDecode e).1.client (mDecode e).1.seq = (mDecode e).1.session ∧ (mDecode e).1.seq ≤ (mDecode e).1.acked + 4 ∧ ∀ i, i < cs.length → (i : Int) + 1 = (mDecode e).1.client → (mDecode e).1.seq < (cs.getD i default).next
structure EntI (F : Int → Int → Int) (t : DTown) : Prop where
  id : ∀ i, i < t.c.length → (t.c.getD i default).id = (i : Int) + 1
  wt : ∀ i, i < t.c.length → ∀ w, w ∈ (t.c.getD i default).waits → F ((i : Int) + 1) w.seq = (t.c.getD i default).session ∧ w.seq < (t.c.getD i default).next
  en : entP (goodE F t.c) t
theorem entP.imp {P Q : ByteArray → Prop} {t : DTown} (h : entP P t) (hi : ∀ e, P e → Q e) : entP Q t := ⟨fun e he => hi e (h.cm e he), fun x hx e he => hi e (h.rp x hx e he)⟩
theorem entP.same {P : ByteArray → Prop} {t u : DTown} (h : entP P t) (hr : u.r = t.r) (hc : u.com = t.com) : entP P u := ⟨by rw [hc]; exact h.cm, by rw [hr]; exact h.rp⟩
theorem goodE.mono {F G : Int → Int → Int} {cs ds : List DCustomer} (hl : ds.length = cs.length) (hn : ∀ i, i < cs.length → (cs.getD i default).next ≤ (ds.getD i default).next) (hF : ∀ c q, ¬ G c q = F c q → ∃ i, i < cs.length ∧ (i : Int) + 1 = c ∧ (cs.getD i default).next ≤ q) {e : ByteArray} (h : goodE F cs e) : goodE G ds e := fun hk => by
  obtain ⟨h1, h2, h3⟩ := h hk
  refine ⟨?_, h2, fun i hi hc => ?_⟩
  · by_cases hg : G (mDecode e).1.client (mDecode e).1.seq = F (mDecode e).1.client (mDecode e).1.seq
    · rw [hg]; exact h1
    · obtain ⟨i, hi, hc, hq⟩ := hF _ _ hg
      have := h3 i hi hc
      omega
  · have := h3 i (by omega) hc
    have := hn i (by omega)
    omega
theorem getD_set_at {α : Type} [Inhabited α] {L : List α} {i : Nat} (hi : i < L.length) (x : α) : (L.set i x).getD i default = x := by
  rw [List.getD_eq_getElem?_getD, List.getElem?_set_self hi]; rfl
theorem EntI.setc {F G : Int → Int → Int} {t : DTown} (h : EntI F t) {k : Nat} (hk : k < t.c.length) {y : DCustomer} (h1 : y.id = (t.c.getD k default).id) (h2 : (t.c.getD k default).next ≤ y.next) (hF : ∀ c q, ¬ G c q = F c q → c = (k : Int) + 1 ∧ (t.c.getD k default).next ≤ q)
    (hw : ∀ w, w ∈ y.waits → G ((k : Int) + 1) w.seq = y.session ∧ w.seq < y.next) : EntI G { t with c := t.c.set k y } := by
  refine ⟨fun i hi => ?_, fun i hi w hw' => ?_, ?_⟩
  · show ((t.c.set k y).getD i default).id = _
    have hi' : i < t.c.length := by have : i < (t.c.set k y).length := hi; rw [List.length_set] at this; exact this
    by_cases e : k = i
    · subst e; rw [getD_set_at hk, h1]; exact h.id k hk
    · rw [getD_set_ne e]; exact h.id i hi'
  · have hi' : i < t.c.length := by have : i < (t.c.set k y).length := hi; rw [List.length_set] at this; exact this
    have hw2 : w ∈ ((t.c.set k y).getD i default).waits := hw'
    show G _ _ = ((t.c.set k y).getD i default).session ∧ _ < ((t.c.set k y).getD i default).next
    by_cases e : k = i
    · subst e
      rw [getD_set_at hk] at hw2 ⊢
      exact hw w hw2
    · rw [getD_set_ne e] at hw2 ⊢
      obtain ⟨q1, q2⟩ := h.wt i hi' w hw2
      refine ⟨?_, q2⟩
      by_cases hg : G ((i : Int) + 1) w.seq = F ((i : Int) + 1) w.seq
      · rw [hg]; exact q1
      · have := (hF _ _ hg).1
        omega
  · refine (h.en.imp fun e he => ?_).same rfl rfl
    refine he.mono (by show (t.c.set k y).length = _; rw [List.length_set]) (fun i hi => ?_) fun c q hg => ⟨k, hk, (hF c q hg).1.symm, (hF c q hg).2⟩
    show _ ≤ ((t.c.set k y).getD i default).next
    by_cases e : k = i
    · subst e; rw [getD_set_at hk]; exact h2
    · rw [getD_set_ne e]; exact Int.le_refl _
theorem EntI.added {F : Int → Int → Int} {t : DTown} (h : EntI F t) {s : ByteArray × Int} (hs : s.2 = 0 → goodE F t.c s.1) : EntI F (t.added s).1 := by
  have e := added_c t s
  refine ⟨by rw [e]; exact h.id, by rw [e]; exact h.wt, by rw [e]; exact h.en.added hs⟩
theorem EntI.req {F : Int → Int → Int} {t : DTown} (h : EntI F t) {j k : Int} (h0 : 0 ≤ j) (h1 : j < (t.c.length : Int)) (h2 : (mReq (t.cust j) k).2 = 0) : goodE F t.c (mReq (t.cust j) k).1 := by
  have hj : j.toNat < t.c.length := by omega
  have hid : (t.cust j).id = j + 1 := by
    have := h.id j.toNat hj
    unfold DTown.cust
    rw [this]; omega
  unfold mReq at h2 ⊢
  split at h2
  case isFalse q => exact absurd h2 q
  rename_i q; rw [if_pos q]
  split at h2
  case isFalse => cases h2
  rename_i q2; rw [if_pos q2]
  have hm : mCmd ⟨2, (t.cust j).id, (t.cust j).session, ((t.cust j).waits.getD k.toNat default).seq, mAck (t.cust j), ((t.cust j).waits.getD k.toNat default).op⟩ = 0 := by
    unfold mEnc at h2
    split at h2
    · assumption
    · exact h2
  have hd := dec_enc hm rfl
  intro _
  rw [hd]
  have hw := mem_of_getD (L := (t.cust j).waits) (i := k.toNat) (by omega)
  obtain ⟨w1, w2⟩ := h.wt j.toNat hj _ hw
  have e1 : ((j.toNat : Nat) : Int) + 1 = j + 1 := by omega
  have hc := custF_bd ((mCust_bd q).2.2.2.2.2.2.2.2 k.toNat (by omega))
  refine ⟨?_, ?_, fun i hi hc2 => ?_⟩
  · show F (t.cust j).id _ = (t.cust j).session
    rw [hid, ← e1]; exact w1
  · show _ ≤ mAck (t.cust j) + 4
    unfold mAck
    rw [if_pos (by omega)]
    show ((t.cust j).waits.getD k.toNat default).seq ≤ _
    omega
  · have e2 : i = j.toNat := by
      have : (i : Int) + 1 = (t.cust j).id := hc2
      omega
    subst e2
    exact w2
theorem EntI.byOne {F : Int → Int → Int} {t : DTown} (h : EntI F t) (a : DAct) : ∃ G, EntI G (t.byOne a).1 := by
  unfold DTown.byOne
  split
  · exact ⟨F, h⟩
  split
  · exact ⟨F, h.added fun hs hk => absurd hk (hello_not _ hs)⟩
  split
  · exact ⟨F, h.added fun hs => h.req (by omega) (by omega) hs⟩
  split
  · rename_i q1 _ _ q2
    have hk : a.c.toNat < t.c.length := by omega
    unfold mStart at q2 ⊢
    split at q2
    · rename_i q; exact absurd q2 q
    rename_i p1; rw [if_neg p1]
    split at q2
    · cases q2
    rename_i p2; rw [if_neg p2]
    split at q2
    · rename_i q; exact absurd q2 q
    rename_i p3; rw [if_neg p3]
    split at q2
    · cases q2
    rename_i p4; rw [if_neg p4]
    refine ⟨fun c q => if c = ((a.c.toNat : Nat) : Int) + 1 ∧ q = (t.cust a.c).next then (t.cust a.c).session else F c q, h.setc hk rfl (by show (t.cust a.c).next ≤ (t.cust a.c).next + 1; omega) (fun c q hg => ?_) fun w hw => ?_⟩
    · by_cases e : c = ((a.c.toNat : Nat) : Int) + 1 ∧ q = (t.cust a.c).next
      · exact ⟨e.1, by show (t.cust a.c).next ≤ q; omega⟩
      · exact absurd (if_neg e) hg
    · have hw' : w ∈ (t.cust a.c).waits ++ [⟨(t.cust a.c).next, a.op⟩] := hw
      show (if _ then _ else _) = (t.cust a.c).session ∧ w.seq < (t.cust a.c).next + 1
      rcases List.mem_append.1 hw' with hw' | hw'
      · obtain ⟨w1, w2⟩ := h.wt a.c.toNat hk w hw'
        have w2' : w.seq < (t.cust a.c).next := w2
        rw [if_neg (by omega)]
        exact ⟨w1, by omega⟩
      · rw [List.mem_singleton.1 hw']
        rw [if_pos ⟨rfl, rfl⟩]
        exact ⟨rfl, by show (t.cust a.c).next < _; omega⟩
  · exact ⟨F, h⟩
theorem EntI.same {F : Int → Int → Int} {t u : DTown} (h : EntI F t) (hr : u.r = t.r) (hc : u.c = t.c) (hm : u.com = t.com) : EntI F u := ⟨by rw [hc]; exact h.id, by rw [hc]; exact h.wt, by rw [hc]; exact h.en.same hr hm⟩
theorem EntI.heard {F : Int → Int → Int} {t : DTown} (h : EntI F t) (m : DMail) : EntI F (t.heard m).1 := by
  unfold DTown.heard
  split
  · exact h
  rename_i q
  obtain ⟨hk, _⟩ := mIdx_pos (p := fun x : DCustomer => decide (x.id = m.client)) (L := t.c) (by unfold DTown.who at q; omega)
  split
  case isFalse => exact h
  rename_i q2
  have hk' : (t.who m).toNat < t.c.length := hk
  have hwt := h.wt _ hk'
  have key : (mHear (t.cust (t.who m)) m).1.id = (t.cust (t.who m)).id ∧ (t.cust (t.who m)).next ≤ (mHear (t.cust (t.who m)) m).1.next ∧ ∀ w, w ∈ (mHear (t.cust (t.who m)) m).1.waits → F ((((t.who m).toNat : Nat) : Int) + 1) w.seq = (mHear (t.cust (t.who m)) m).1.session ∧ w.seq < (mHear (t.cust (t.who m)) m).1.next := by
    have hwt' : ∀ w, w ∈ (t.cust (t.who m)).waits → F ((((t.who m).toNat : Nat) : Int) + 1) w.seq = (t.cust (t.who m)).session ∧ w.seq < (t.cust (t.who m)).next := hwt
    generalize t.cust (t.who m) = x at q2 hwt' ⊢
    unfold mHear at q2 ⊢
    split at q2
    · rename_i p; exact absurd q2 p
    rename_i p1; rw [if_neg p1]
    split at q2
    · cases q2
    rename_i p2; rw [if_neg p2]
    have hb := mCust_bd (Classical.not_not.1 p1)
    split at q2
    · rename_i p3; rw [if_pos p3]
      split at q2
      · cases q2
      rename_i p4; rw [if_neg p4]
      split at q2
      · rename_i p5; rw [if_pos p5]
        split at q2
        · cases q2
        rename_i p6; rw [if_neg p6]
        refine ⟨rfl, Int.le_refl _, fun w hw => ?_⟩
        have h0 : x.waits.length = 0 := hb.2.2.2.2.2.2.2.1 (by omega)
        have hw' : w ∈ x.waits := hw
        rw [List.length_eq_zero_iff.1 h0] at hw'
        exact absurd hw' List.not_mem_nil
      · rename_i p5; rw [if_neg p5]
        exact ⟨rfl, Int.le_refl _, hwt'⟩
    · rename_i p3; rw [if_neg p3]
      split at q2
      · cases q2
      rename_i p4; rw [if_neg p4]
      split at q2
      · rename_i p5; rw [if_pos p5]
        exact ⟨rfl, Int.le_refl _, fun w hw => absurd hw List.not_mem_nil⟩
      · rename_i p5; rw [if_neg p5]
        exact ⟨rfl, Int.le_refl _, fun w hw => hwt' w (List.mem_filter.1 hw).1⟩
  exact h.setc hk' key.1 key.2.1 (fun c q hg => absurd rfl hg) key.2.2
theorem EntI.mailOne {F : Int → Int → Int} {t : DTown} (h : EntI F t) (a : DAct) : EntI F (t.mailOne a).1 := by
  have hl : EntI F (t.left a.k) := h.same rfl rfl rfl
  unfold DTown.mailOne
  split
  · exact h
  split
  · split
    · exact h
    · exact h.same rfl rfl rfl
  split
  · exact hl
  · exact hl.heard _
theorem EntI.act {F : Int → Int → Int} {t : DTown} (h : EntI F t) (a : DAct) : ∃ G, EntI G (t.act a).1 := by
  unfold DTown.act
  split
  · exact ⟨F, h⟩
  split
  · exact h.byOne a
  split
  · have e := atOne_c t a
    exact ⟨F, by rw [e]; exact h.id, by rw [e]; exact h.wt, by rw [e]; exact h.en.atOne a⟩
  · exact ⟨F, h.mailOne a⟩
theorem EntI.acts : ∀ (l : List DAct) {F : Int → Int → Int} {t : DTown}, EntI F t → ∃ G, EntI G (t.acts l).1
  | [], F, _, h => ⟨F, h⟩
  | a :: l, _, _, h => by
    obtain ⟨G, h2⟩ := h.act a
    exact EntI.acts l h2
theorem EntI.start (n : Int) : EntI (fun _ _ => 0) (DTown.start n) := by
  have hg : ∀ i, i < (DTown.start n).c.length → (DTown.start n).c.getD i default = ⟨(i : Int) + 1, 0, 1, []⟩ := fun i hi => by
    have hi' : i < n.toNat := by simpa [DTown.start] using hi
    simp [DTown.start, hi']
  refine ⟨fun i hi => by rw [hg i hi], fun i hi w hw => ?_, fun e he => absurd he List.not_mem_nil, fun x hx e he => ?_⟩
  · rw [hg i hi] at hw; exact absurd hw List.not_mem_nil
  · have e' : x = zRepl := by
      simp only [DTown.start, List.mem_cons, List.not_mem_nil, or_false, or_self] at hx
      exact hx
    rw [e'] at he
    exact absurd he List.not_mem_nil
end Go.Proofs.YtbjakddkfgjkaaaGreatDoor.Fw
namespace Go.Proofs.YtbjakddkfgjkaaaGreatDoor.Fw
open Go.RowKit
def mailAt (com : List ByteArray) (i : Nat) : DMail := ⟨(mDecode (com.getD i default)).1.client, (mDecode (com.getD i default)).1.seq, (mApply (mAppd zState (com.take i)).1 (com.getD i default)).2.1⟩
def mailIn (com : List ByteArray) (m : DMail) : Prop := ∃ i, i < com.length ∧ m = mailAt com i
theorem mailIn.mono {com : List ByteArray} {m : DMail} (h : mailIn com m) (more : List ByteArray) : mailIn (com ++ more) m := by
  obtain ⟨i, hi, e⟩ := h
  refine ⟨i, by rw [List.length_append]; omega, ?_⟩
  rw [e]
  unfold mailAt
  rw [List.take_append_of_le_length (by omega), getD_app hi]
theorem run_mails (E : List ByteArray) : ∀ (N k : Nat) (s : DState) (out : List DMail), k + N ≤ E.length → (mRunGo E N k s out).2.2 = 0 → ∀ m, m ∈ (mRunGo E N k s out).2.1 → m ∈ out ∨ ∃ j, j < N ∧ m = ⟨(mDecode (E.getD (k + j) default)).1.client, (mDecode (E.getD (k + j) default)).1.seq, (mApply (mAppd s ((E.drop k).take j)).1 (E.getD (k + j) default)).2.1⟩
  | 0, _, _, _, _, _, _, hm => .inl hm
  | N + 1, k, s, out, hk, h, m, hm => by
    rw [run_S] at h hm
    split at h
    · rename_i q; exact absurd h q
    rename_i q; rw [if_neg q] at hm
    rcases run_mails E N (k + 1) _ _ (by omega) h m hm with hm | ⟨j, hj, e⟩
    · rcases List.mem_append.1 hm with hm | hm
      · exact .inl hm
      · exact .inr ⟨0, by omega, by rw [List.mem_singleton.1 hm]; rfl⟩
    · refine .inr ⟨j + 1, by omega, ?_⟩
      have e2 : (E.drop k).take (j + 1) = E.getD k default :: (E.drop (k + 1)).take j := by
        rw [List.drop_eq_getElem_cons (show k < E.length by omega), List.take_succ_cons, List.getD_eq_getElem?_getD, List.getElem?_eq_getElem (show k < E.length by omega)]
        rfl
      rw [e, e2, mAppd_cons, if_pos (Classical.not_not.1 q), show k + 1 + j = k + (j + 1) by omega]
theorem appl_mails {com : List ByteArray} {x : DReplica} {u : Int} (h : repIs com x) (hb : 0 ≤ x.log.base) (hu : u ≤ (com.length : Int)) (hl : u ≤ mLast x.log) (he : ∀ j : Nat, x.log.base + (j : Int) < u → com.getD (x.log.base + (j : Int)).toNat default = x.log.entries.getD j default) (h2 : (mRApply x u).2.2 = 0) : ∀ m, m ∈ (mRApply x u).2.1 → mailIn com m := by
  intro m hm
  unfold mRApply at h2 hm
  split at h2
  · rename_i h1; exact absurd h2 h1
  rename_i h1; rw [if_neg h1] at hm
  split at h2
  · cases h2
  rename_i h3; rw [if_neg h3] at hm
  split at h2
  · rename_i h4; exact absurd h2 h4
  rename_i h4; rw [if_neg h4] at hm
  have hp := mReplica_parts (Classical.not_not.1 h1)
  have h4 := Classical.not_not.1 h4
  have e : (if u < mLast x.log then u else mLast x.log) = u := by split <;> omega
  have hm : m ∈ (rRun x u).2.1 := hm
  unfold rRun at h4 hm
  rw [e] at h4 hm
  have hlo := h.lo; have hhi := h.hi
  by_cases hn : u ≤ x.state.index
  · have z : (u - x.state.index).toNat = 0 := by omega
    rw [z] at hm
    exact absurd hm List.not_mem_nil
  · have hlen : (x.state.index - x.log.base).toNat + (u - x.state.index).toNat ≤ x.log.entries.length := by have := hp.2.2.1; unfold mLast at hl; omega
    have hb2 := hp.2.2.1
    rcases run_mails x.log.entries _ _ x.state [] hlen h4 m hm with hm | ⟨j, hj, e1⟩
    · exact absurd hm List.not_mem_nil
    have hq : ∀ n : Nat, n < (u - x.state.index).toNat → com.getD (x.state.index.toNat + n) default = x.log.entries.getD ((x.state.index - x.log.base).toNat + n) default := fun n hn' => by
      have q := he ((x.state.index - x.log.base).toNat + n) (by omega)
      rw [show (x.log.base + (((x.state.index - x.log.base).toNat + n : Nat) : Int)).toNat = x.state.index.toNat + n by omega] at q
      exact q
    have hseg : (x.log.entries.drop (x.state.index - x.log.base).toNat).take j = (com.drop x.state.index.toNat).take j := by
      apply List.ext_getElem?
      intro n
      by_cases hn' : n < j
      · rw [List.getElem?_take_of_lt hn', List.getElem?_take_of_lt hn', List.getElem?_drop, List.getElem?_drop]
        have q := hq n (by omega)
        have l1 : x.state.index.toNat + n < com.length := by omega
        have l2 : (x.state.index - x.log.base).toNat + n < x.log.entries.length := by omega
        rw [List.getD_eq_getElem?_getD, List.getD_eq_getElem?_getD, List.getElem?_eq_getElem l1, List.getElem?_eq_getElem l2] at q
        rw [List.getElem?_eq_getElem l1, List.getElem?_eq_getElem l2]
        exact congrArg some q.symm
      · rw [List.getElem?_eq_none (by rw [List.length_take]; omega), List.getElem?_eq_none (by rw [List.length_take]; omega)]
    refine ⟨x.state.index.toNat + j, by omega, ?_⟩
    rw [e1]
    unfold mailAt
    rw [hq j hj, hseg, List.take_add, mAppd_append _ _ _ (by rw [h.st]), h.st]
theorem post_mem : ∀ (l : List DMail) {L : List DMail} {m : DMail}, m ∈ l.foldl DTown.post1 L → m ∈ L ∨ m ∈ l
  | [], _, _, h => .inl h
  | x :: l, L, m, h => by
    rw [List.foldl_cons] at h
    rcases post_mem l h with h | h
    · unfold DTown.post1 at h
      split at h
      · rcases List.mem_append.1 h with h | h
        · exact .inl h
        · exact .inr (by rw [List.mem_singleton.1 h]; exact List.mem_cons_self ..)
      · exact .inl h
    · exact .inr (List.mem_cons_of_mem _ h)
def mailI (t : DTown) : Prop := ∀ m, m ∈ t.mails → mailIn t.com m
theorem mailI.sub {t u : DTown} (h : mailI t) (hm : ∀ m, m ∈ u.mails → m ∈ t.mails) (hc : u.com = t.com) : mailI u := fun m q => by rw [hc]; exact h m (hm m q)
theorem mailI.grow1 {t : DTown} (h : mailI t) (k : Int) : mailI (t.grow1 k) := by
  unfold DTown.grow1
  split
  · exact h
  · intro m hm
    rw [DTown.grow_com]
    exact (h m hm).mono _
theorem mailI.commit {t : DTown} (h : mailI t) : mailI t.commit := ((h.grow1 0).grow1 1).grow1 2
theorem mailI.added {t : DTown} (h : mailI t) (s : ByteArray × Int) : mailI (t.added s).1 := by
  unfold DTown.added DTown.set
  repeat' split
  all_goals exact h
theorem mailI.byOne {t : DTown} (h : mailI t) (a : DAct) : mailI (t.byOne a).1 := by
  unfold DTown.byOne
  split
  · exact h
  split
  · exact h.added _
  split
  · exact h.added _
  split <;> exact h
theorem mailI.apply {t : DTown} (h : mailI t) (hi : townIs t) {k many : Int} (h0 : 0 ≤ k) (h2 : k ≤ 2) : mailI (t.apply k many).1 := by
  unfold DTown.apply
  split
  · exact h
  split
  · exact h
  rename_i h1
  have hr := hi.ok.rep h0 h2
  have hl : t.upto k many ≤ mLast (t.rep k).log := by
    have := firstNot_le (t.okAt (t.rep k).log) (t.rep k).log.entries.length
    unfold DTown.upto DTown.agr mLast; omega
  have hx : ∀ m, m ∈ (t.ran k many).2.1 → mailIn t.com m := appl_mails (hi.rep h0 h2) hr.1.1 (by unfold DTown.upto; omega) hl (fun j hj => agr_is hr.1.1 j (by unfold DTown.upto at hj; omega) (by unfold DTown.upto at hj; omega)) (Classical.not_not.1 h1)
  intro m hm
  have hm' : m ∈ (if k = t.lead then (t.ran k many).2.1.foldl DTown.post1 t.mails else t.mails) := hm
  show mailIn t.com m
  split at hm'
  · exact (post_mem _ hm').elim (h m) (hx m)
  · exact h m hm'
theorem mailI.atOne {t : DTown} (h : mailI t) (hi : townIs t) (a : DAct) : mailI (t.atOne a).1 := by
  unfold DTown.atOne
  split
  · exact h
  split
  · unfold DTown.ship
    split
    · exact h
    split
    · exact (show mailI (t.set a.r (t.told a.r a.k).1) from h).commit
    · exact h
  split
  · exact h.apply hi (by omega) (by omega)
  split
  · split
    · exact h
    · exact (show mailI { t with lead := a.r } from h).commit
  split
  · exact h.sub (fun m hm => by rw [(put_c t _ _).2.1] at hm; exact hm) (put_c t _ _).2.2
  · exact h.sub (fun m hm => by rw [(put_c t _ _).2.1] at hm; exact hm) (put_c t _ _).2.2
theorem mailI.mailOne {t : DTown} (h : mailI t) (a : DAct) : mailI (t.mailOne a).1 := by
  have hl : mailI (t.left a.k) := h.sub (fun m hm => (List.mem_append.1 hm).elim List.mem_of_mem_take List.mem_of_mem_drop) rfl
  unfold DTown.mailOne
  split
  · exact h
  rename_i h1
  split
  · split
    · exact h
    · refine h.sub (fun m hm => ?_) rfl
      rcases List.mem_append.1 hm with hm | hm
      · exact hm
      · rw [List.mem_singleton.1 hm]; exact mem_of_getD (by omega)
  split
  · exact hl
  · unfold DTown.heard
    split
    · exact hl
    split <;> exact hl
theorem mailI.act {t : DTown} (h : mailI t) (hi : townIs t) (a : DAct) : mailI (t.act a).1 := by
  unfold DTown.act
  split
  · exact h
  split
  · exact h.byOne a
  split
  · exact h.atOne hi a
  · exact h.mailOne a
theorem mailI.acts : ∀ (l : List DAct) {t : DTown}, mailI t → townIs t → mailI (t.acts l).1
  | [], _, h, _ => h
  | a :: l, _, h, hi => mailI.acts l (h.act hi a) (hi.act a)
def stAt (com : List ByteArray) (n : Nat) : DState := (mAppd zState (com.take n)).1
structure comOk (com : List ByteArray) : Prop where
  le : com.length ≤ 400
  cd : ∀ e, e ∈ com → (mDecode e).2 = 0
theorem apply_at {s : DState} {t : ByteArray} (hs : mState s = 0) (hi : s.index < 1073741824) (hd : (mDecode t).2 = 0) : mApply s t = ((mStep s (mDecode t).1).1, (mStep s (mDecode t).1).2, 0) := by
  unfold mApply
  rw [if_neg (fun z => z hs), if_neg (by omega), if_neg (fun z => z hd)]
theorem st_at {com : List ByteArray} (h : comOk com) : ∀ n, n ≤ com.length → mState (stAt com n) = 0 ∧ (stAt com n).index = (n : Int) ∧ (mAppd zState (com.take n)).2 = true
  | 0, _ => ⟨mState_zero, rfl, rfl⟩
  | n + 1, hn => by
    obtain ⟨h1, h2, h3⟩ := st_at h n (by omega)
    have hle := h.le
    have ha := apply_at (t := com[n]) h1 (by omega) (h.cd _ (List.getElem_mem _))
    have hc : (mApply (stAt com n) com[n]).2.2 = 0 := by rw [ha]
    have e : mAppd zState (com.take (n + 1)) = ((mApply (stAt com n) com[n]).1, true) := by
      rw [List.take_succ_eq_append_getElem (by omega), mAppd_append _ _ _ h3]
      exact mAppd_one hc
    unfold stAt at *
    rw [e]
    refine ⟨apply_good hc, ?_, rfl⟩
    show (mApply _ com[n]).1.index = _
    rw [mApply_index hc, h2]; omega
theorem st_next {com : List ByteArray} (h : comOk com) {n : Nat} (hn : n < com.length) : stAt com (n + 1) = (mStep (stAt com n) (mDecode (com.getD n default)).1).1 := by
  obtain ⟨h1, h2, h3⟩ := st_at h n (by omega)
  have hle := h.le
  have hg : com.getD n default = com[n] := by rw [List.getD_eq_getElem?_getD, List.getElem?_eq_getElem hn]; rfl
  have ha := apply_at (t := com[n]) h1 (by omega) (h.cd _ (List.getElem_mem _))
  have hc : (mApply (stAt com n) com[n]).2.2 = 0 := by rw [ha]
  have e : mAppd zState (com.take (n + 1)) = ((mApply (stAt com n) com[n]).1, true) := by
    rw [List.take_succ_eq_append_getElem hn, mAppd_append _ _ _ h3]
    exact mAppd_one hc
  rw [hg, show stAt com (n + 1) = (mAppd zState (com.take (n + 1))).1 from rfl, e, ha]
theorem st_has {com : List ByteArray} (h : comOk com) {key : Int × Int × Int} {rp : DReply} {i : Nat} (hi : isHas key rp (stAt com i)) : ∀ d, i + d ≤ com.length → isHas key rp (stAt com (i + d))
  | 0, _ => hi
  | d + 1, hd => by
    rw [show i + (d + 1) = (i + d) + 1 from rfl, st_next h (by omega)]
    exact has_step (st_has h hi d (by omega))
structure mTold (m : DMail) : Prop where
  n0 : ¬ m.seq = 0
  n12 : ¬ m.reply.code = 12
  n11 : ¬ m.reply.code = 11
theorem two_told {com : List ByteArray} {F : Int → Int → Int} {cs : List DCustomer} (h : comOk com) (hg : ∀ e, e ∈ com → goodE F cs e) {i j : Nat} (hij : i < j) (hj : j < com.length) (t1 : mTold (mailAt com i)) (t2 : mTold (mailAt com j)) (e1 : (mailAt com i).client = (mailAt com j).client) (e2 : (mailAt com i).seq = (mailAt com j).seq) : (mailAt com i).reply = (mailAt com j).reply := by
  have part : ∀ n, n < com.length → mTold (mailAt com n) → mState (stAt com n) = 0 ∧ (stAt com n).index < 1073741824 ∧ mCmd (mDecode (com.getD n default)).1 = 0 ∧ (mDecode (com.getD n default)).1.kind = 2 ∧ (mDecode (com.getD n default)).1.seq ≤ (mDecode (com.getD n default)).1.acked + 4 ∧ F (mDecode (com.getD n default)).1.client (mDecode (com.getD n default)).1.seq = (mDecode (com.getD n default)).1.session ∧ (mailAt com n).reply = (mStep (stAt com n) (mDecode (com.getD n default)).1).2 := fun n hn t => by
    obtain ⟨a1, a2, a3⟩ := st_at h n (by omega)
    have hle := h.le
    have hm := mem_of_getD hn
    have hd := h.cd _ hm
    have hc := (mDecode_ok hd).1
    have hk : (mDecode (com.getD n default)).1.kind = 2 := by
      apply Classical.byContradiction
      intro hk
      unfold mCmd at hc
      split at hc
      · cases hc
      split at hc
      · cases hc
      split at hc
      · rename_i q; exact t.n0 q.2.1
      · cases hc
    obtain ⟨g1, g2, _⟩ := hg _ hm hk
    refine ⟨a1, by omega, hc, hk, g2, g1, ?_⟩
    show (mApply (stAt com n) (com.getD n default)).2.1 = _
    rw [apply_at a1 (by omega) hd]
  obtain ⟨a1, a2, a3, a4, a5, a6, a7⟩ := part i (by omega) t1
  obtain ⟨b1, b2, b3, b4, b5, b6, b7⟩ := part j hj t2
  have c1 := t1.n11
  have c2 := t1.n12
  have c3 := t2.n11
  have c4 := t2.n12
  rw [a7] at c1 c2
  rw [b7] at c3 c4
  have e1' : (mDecode (com.getD i default)).1.client = (mDecode (com.getD j default)).1.client := e1
  have e2' : (mDecode (com.getD i default)).1.seq = (mDecode (com.getD j default)).1.seq := e2
  have e3 : (mDecode (com.getD i default)).1.session = (mDecode (com.getD j default)).1.session := by rw [← a6, ← b6, e1', e2']
  have hA := has_after a1 a2 a3 a4 a5 c1 c2
  rw [← st_next h (by omega)] at hA
  have hB := st_has h hA (j - (i + 1)) (by omega)
  rw [show i + 1 + (j - (i + 1)) = j by omega, e1', e2', e3] at hB
  rw [a7, b7]
  exact (has_now b1 b2 b3 b4 b5 hB c3 c4).symm
theorem mails_one {l : List DAct} (h : l.length ≤ 400) {m n : DMail} (hm : m ∈ ((DTown.start 3).acts l).1.mails) (hn : n ∈ ((DTown.start 3).acts l).1.mails) (t1 : mTold m) (t2 : mTold n) (e1 : m.client = n.client) (e2 : m.seq = n.seq) : m.reply = n.reply := by
  have hg := townGo.acts l (townGo.start (n := 3) (by omega))
  have hle := hg.tp.le
  have hln := hg.ld.ln
  have hln' : mLast ((DTown.start 3).acts l).1.top ≤ 0 + (l.length : Int) := hln
  obtain ⟨G, hE⟩ := EntI.acts l (EntI.start 3)
  have hM : mailI ((DTown.start 3).acts l).1 := mailI.acts l (fun _ q => absurd q List.not_mem_nil) (townIs.start (by omega))
  have hc : comOk ((DTown.start 3).acts l).1.com := ⟨by omega, hg.cd⟩
  obtain ⟨i, hi, rfl⟩ := hM m hm
  obtain ⟨j, hj, rfl⟩ := hM n hn
  rcases Nat.lt_trichotomy i j with q | q | q
  · exact two_told hc hE.en.cm q hj t1 t2 e1 e2
  · rw [q]
  · exact (two_told hc hE.en.cm q hi t2 t1 e1.symm e2.symm).symm
structure RepI (M : List DMail) (k : Nat) (L : List ((Int × Int) × DReply)) : Prop where
  le : k ≤ M.length
  is : ∀ j r, mlk L j = some r → ∃ m, m ∈ M ∧ mTold m ∧ (m.client, m.seq) = j ∧ m.reply = r
theorem repI_0 (M : List DMail) : RepI M 0 [] := ⟨Nat.zero_le _, fun _ _ h => by cases h⟩
theorem repI_next {M : List DMail} {k : Nat} {L : List ((Int × Int) × DReply)} (h : RepI M k L) (hk : k < M.length) : RepI M (k + 1) L := ⟨hk, h.is⟩
theorem repI_put {M : List DMail} {k : Nat} {L : List ((Int × Int) × DReply)} (h : RepI M k L) (hk : k < M.length) {m : DMail} (hm : m = M.getD k default) (n0 : ¬ m.seq = 0) (n12 : ¬ m.reply.code = 12) (n11 : ¬ m.reply.code = 11) : RepI M (k + 1) (mput L (m.client, m.seq) m.reply) := by
  refine ⟨hk, fun j r hj => ?_⟩
  rw [mlk_put] at hj
  split at hj
  · rename_i e
    refine ⟨m, by rw [hm]; exact mem_of_getD hk, ⟨n0, n12, n11⟩, e.symm, ?_⟩
    exact Option.some.inj hj
  · exact h.is j r hj
def oneTold (M : List DMail) : Prop := ∀ m n, m ∈ M → n ∈ M → mTold m → mTold n → m.client = n.client → m.seq = n.seq → m.reply = n.reply
theorem rep_not {M : List DMail} {k : Nat} {L : List ((Int × Int) × DReply)} (h : RepI M k L) (ho : oneTold M) (hk : k < M.length) {m : DMail} (hm : m = M.getD k default) (n0 : ¬ m.seq = 0) (n12 : ¬ m.reply.code = 12) (n11 : ¬ m.reply.code = 11) {z : DReply} (hs : (mlk L (m.client, m.seq)).isSome = true) : (mlk L (m.client, m.seq)).getD z = m.reply := by
  obtain ⟨r, hr⟩ := Option.isSome_iff_exists.1 hs
  obtain ⟨n, hn, tn, e, hq⟩ := h.is _ _ hr
  rw [hr]
  show r = _
  rw [← hq]
  have e1 : n.client = m.client := congrArg Prod.fst e
  have e2 : n.seq = m.seq := congrArg Prod.snd e
  exact ho n m hn (by rw [hm]; exact mem_of_getD hk) tn ⟨n0, n12, n11⟩ e1 e2
theorem told_is {y : COut} {l : List DAct} (h : l.length ≤ 400) (hy : y.abs = mOut 3 l) : y.mails.xs.length ≤ 60 ∧ oneTold y.mails.xs := by
  have h2 : y.mails.xs = (mRunT 3 l).1.mails := congrArg DOut.mails hy
  rw [(ran_out h).2] at h2
  rw [h2]
  exact ⟨(townIs.acts l (townIs.start (n := 3) (by omega))).ok.ml, fun m n hm hn t1 t2 e1 e2 => mails_one h hm hn t1 t2 e1 e2⟩
end Go.Proofs.YtbjakddkfgjkaaaGreatDoor.Fw
