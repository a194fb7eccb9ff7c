/-
  The functions that the law SessionKeeps reaches, walked: each returns what its model says.
  Conditions: those that each theorem states.
-/
import Derived.Test.YtakdjdfkdbofoabFe
import Derived.Test.YtakdjdfkdbofoabChecked
set_option linter.unusedVariables false
set_option linter.unusedSimpArgs false
set_option maxRecDepth 100000
set_option maxHeartbeats 2000000
namespace Go.Proofs.Ytakdjdfkdbofoab.W
open Go.Proofs.Ytakdjdfkdbofoab.Fw Go.RowKit
attribute [local irreducible] JM nx

theorem Try_mixed : Try.prog.follows .mixedOrders = true := by kernel_rfl
theorem laid : laidOutB Try.prog = true := by kernel_rfl

theorem ref_In (n lo hi : Int) (w : World) : Calls Try.prog 56 #[vi n, vi lo, vi hi] w fun e w' => e = .returned (vb (inB n lo hi)) ∧ Kp [] w w' := by
 refine M0 ?_ Try.func56
 refine Md (lo ≤ n) (fun h1 => ?_) fun h1 => ?_
 rotate_left
 · exact Mt [vb false] fun bs w hS => ⟨by simp [retOf, den, inB, h1], hS.kp⟩
 exact Mt [vb (decide (n ≤ hi))] fun bs w hS => ⟨by simp [retOf, den, inB, h1], hS.kp⟩

theorem session_replies {B : Nat → Prop} (x : CSession) (w : World) (hx : Rds.sub B w x) (hb : 0 ≤ x.acked ∧ x.acked ≤ 1048576) : Calls Try.prog 61 #[x.val] w fun e w' => e = .returned (vb (mReplies x.abs)) ∧ Kp [] w w' := by
 have okx := Rds.okof hx
 have ncx := Sl.ok.nc okx
 have hns : x.replies.n = x.replies.xs.length := rfl
 have hat : ∀ q, x.abs.replies.getD q default = x.replies.at q := fun _ => rfl
 have hac : x.abs.acked = x.acked := rfl
 have hln : x.abs.replies.length = x.replies.n := rfl
 refine M0 ?_ Try.func61
 refine Ml (σ := Nat) (fun i => i ≤ x.replies.n ∧ allTo (keptOk x.abs) i = true) (fun i => x.replies.n - i) (fun _ => []) [9, 8, 7, 1] (fun i => [(9, vI (i : Int))]) (fun _ => []) ?_ 0 ⟨Nat.zero_le _, rfl⟩
 rintro i ⟨hi, hI⟩ _ on1
 refine Md ((i : Int) < (x.replies.n : Int)) (fun h1 => ?_) fun h1 => ?_
 rotate_left
 · have hm : mReplies x.abs = true := by show allTo _ x.abs.replies.length = true; rw [hln, show x.replies.n = i by omega]; exact hI
   exact Meb true hm
 refine Mi ?_ (pA 12 13 (i : Int) i (s := x.replies) (fun w hk hr => (Rds.kp hx hk)))
 refine Mda 29 [] [] [] Try_mixed ?_
 refine Md ((x.replies.at i).seq ≤ x.acked) (fun h2 => ?_) fun h2 => ?_
 · have hm : mReplies x.abs = false := allTo_bad (j := i) (decide_eq_false (fun hk => by simp only [hat, hac] at hk; omega)) (show i < x.abs.replies.length by rw [hln]; omega)
   exact Meb false hm
 refine Mih ?_ (pR (x.acked + 4))
 refine Md (x.acked + 4 < (x.replies.at i).seq) (fun h3 => ?_) fun h3 => ?_
 · have hm : mReplies x.abs = false := allTo_bad (j := i) (decide_eq_false (fun hk => by simp only [hat, hac] at hk; omega)) (show i < x.abs.replies.length by rw [hln]; omega)
   exact Meb false hm
 refine Md ((0 : Int) < (i : Int)) (fun h4 => ?_) fun h4 => ?_
 rotate_left
 · refine Md ((x.replies.at i).reply.code < 0) (fun h11 => ?_) fun h11 => ?_
   · have hm : mReplies x.abs = false := allTo_bad (j := i) (decide_eq_false (fun hk => by simp only [hat, hac] at hk; omega)) (show i < x.abs.replies.length by rw [hln]; omega)
     exact Meb false hm
   refine Md ((15 : Int) < (x.replies.at i).reply.code) (fun h12 => ?_) fun h12 => ?_
   · have hm : mReplies x.abs = false := allTo_bad (j := i) (decide_eq_false (fun hk => by simp only [hat, hac] at hk; omega)) (show i < x.abs.replies.length by rw [hln]; omega)
     exact Meb false hm
   refine Md ((x.replies.at i).reply.n < 0) (fun h13 => ?_) fun h13 => ?_
   · have hm : mReplies x.abs = false := allTo_bad (j := i) (decide_eq_false (fun hk => by simp only [hat, hac] at hk; omega)) (show i < x.abs.replies.length by rw [hln]; omega)
     exact Meb false hm
   refine Md ((1073741824 : Int) < (x.replies.at i).reply.n) (fun h14 => ?_) fun h14 => ?_
   · have hm : mReplies x.abs = false := allTo_bad (j := i) (decide_eq_false (fun hk => by simp only [hat, hac] at hk; omega)) (show i < x.abs.replies.length by rw [hln]; omega)
     exact Meb false hm
   refine Md ((12 : Int) < ((x.replies.at i).reply.text.size : Int)) (fun h15 => ?_) fun h15 => ?_
   rotate_left
   · refine Mi ?_ (pR ((i : Int) + 1))
     exact on1 (i + 1) ⟨by omega, allTo_step hI (decide_eq_true (by simp only [hat, hac]; exact ⟨by omega, by omega, by omega, by omega, by omega, by omega, by omega, by omega⟩))⟩ (by omega)
   have hm : mReplies x.abs = false := allTo_bad (j := i) (decide_eq_false (fun hk => by simp only [hat, hac] at hk; omega)) (show i < x.abs.replies.length by rw [hln]; omega)
   exact Meb false hm
 refine Mih ?_ (pc (pR ((i : Int) - 1)) (pc (pI 35 ((i : Int) - 1) (i - 1) (s := x.replies) (fun w hk hr => (Rds.kp hx hk))) (pF 37 (i - 1) 0 1 (s := x.replies) (fun w hk hr => (Rds.kp hx hk)))))
 refine Md ((x.replies.at i).seq ≤ (x.replies.at (i - 1)).seq) (fun h5 => ?_) fun h5 => ?_
 · have hm : mReplies x.abs = false := allTo_bad (j := i) (decide_eq_false (fun hk => by simp only [hat, hac] at hk; omega)) (show i < x.abs.replies.length by rw [hln]; omega)
   exact Meb false hm
 refine Md ((x.replies.at i).reply.code < 0) (fun h6 => ?_) fun h6 => ?_
 · have hm : mReplies x.abs = false := allTo_bad (j := i) (decide_eq_false (fun hk => by simp only [hat, hac] at hk; omega)) (show i < x.abs.replies.length by rw [hln]; omega)
   exact Meb false hm
 refine Md ((15 : Int) < (x.replies.at i).reply.code) (fun h7 => ?_) fun h7 => ?_
 · have hm : mReplies x.abs = false := allTo_bad (j := i) (decide_eq_false (fun hk => by simp only [hat, hac] at hk; omega)) (show i < x.abs.replies.length by rw [hln]; omega)
   exact Meb false hm
 refine Md ((x.replies.at i).reply.n < 0) (fun h8 => ?_) fun h8 => ?_
 · have hm : mReplies x.abs = false := allTo_bad (j := i) (decide_eq_false (fun hk => by simp only [hat, hac] at hk; omega)) (show i < x.abs.replies.length by rw [hln]; omega)
   exact Meb false hm
 refine Md ((1073741824 : Int) < (x.replies.at i).reply.n) (fun h9 => ?_) fun h9 => ?_
 · have hm : mReplies x.abs = false := allTo_bad (j := i) (decide_eq_false (fun hk => by simp only [hat, hac] at hk; omega)) (show i < x.abs.replies.length by rw [hln]; omega)
   exact Meb false hm
 refine Md ((12 : Int) < ((x.replies.at i).reply.text.size : Int)) (fun h10 => ?_) fun h10 => ?_
 rotate_left
 · refine Mi ?_ (pR ((i : Int) + 1))
   exact on1 (i + 1) ⟨by omega, allTo_step hI (decide_eq_true (by simp only [hat, hac]; exact ⟨by omega, by omega, by omega, by omega, by omega, by omega, by omega, by omega⟩))⟩ (by omega)
 have hm : mReplies x.abs = false := allTo_bad (j := i) (decide_eq_false (fun hk => by simp only [hat, hac] at hk; omega)) (show i < x.abs.replies.length by rw [hln]; omega)
 exact Meb false hm

theorem ref_repliesMay {B : Nat → Prop} (x : CSession) (w : World) (hx : Rds.sub B w x) (hb : 0 ≤ x.acked ∧ x.acked ≤ 1048576) : Calls Try.prog 62 #[x.val] w fun e w' => e = .returned (vb (mReplies x.abs)) ∧ Kp [] w w' := by
 have okx := Rds.okof hx
 have ncx := Sl.ok.nc okx
 have hns : x.replies.n = x.replies.xs.length := rfl
 have hat : ∀ q, x.abs.replies.getD q default = x.replies.at q := fun _ => rfl
 have hac : x.abs.acked = x.acked := rfl
 have hln : x.abs.replies.length = x.replies.n := rfl
 refine M0 ?_ Try.func62
 refine Ml (σ := Nat × Int) (fun ⟨i, la⟩ => i ≤ x.replies.n ∧ allTo (keptOk x.abs) i = true ∧ x.acked ≤ la ∧ la ≤ x.acked + 4 ∧ (i = 0 → la = x.acked) ∧ (0 < i → la = (x.replies.at (i - 1)).seq)) (fun ⟨i, la⟩ => x.replies.n - i) (fun _ => []) [4, 3, 1] (fun ⟨i, la⟩ => [(4, vI (i : Int)), (3, vI la)]) (fun _ => []) ?_ (⟨0, x.acked⟩) ⟨Nat.zero_le _, rfl, by omega, by omega, fun _ => rfl, fun h => absurd h (by omega)⟩
 rintro ⟨i, la⟩ ⟨hi, hI, hl1, hl2, hl3, hl4⟩ _ on1
 have hz : i = 0 ∧ la = x.acked ∨ 0 < i ∧ la = (x.replies.at (i - 1)).seq := by rcases Nat.eq_zero_or_pos i with h | h; exact .inl ⟨h, hl3 h⟩; exact .inr ⟨h, hl4 h⟩
 refine Md ((i : Int) < (x.replies.n : Int)) (fun h1 => ?_) fun h1 => ?_
 rotate_left
 · have hm : mReplies x.abs = true := by show allTo _ x.abs.replies.length = true; rw [hln, show x.replies.n = i by omega]; exact hI
   exact Meb true hm
 refine Mi ?_ (pc (pA 18 19 (i : Int) i (s := x.replies) (fun w hk hr => (Rds.kp hx hk))) (pc (pR (la + 1)) (pR (x.acked + 4))))
 refine Mp ?_ Try.call56 (fun bs w hS => ref_In (x.replies.at i).seq (la + 1) (x.acked + 4) w)
 refine Mbn (inB (x.replies.at i).seq (la + 1) (x.acked + 4)) (fun h2 => ?_) fun h2 => ?_
 rotate_left
 · simp only [iT, iF] at h2
   have hm : mReplies x.abs = false := allTo_bad (j := i) (decide_eq_false (fun hk => by simp only [hat, hac] at hk; omega)) (show i < x.abs.replies.length by rw [hln]; omega)
   exact Meb false hm
 simp only [iT, iF] at h2
 refine Mp ?_ Try.call56 (fun bs w hS => ref_In (x.replies.at i).reply.code 0 15 w)
 refine Mbn (inB (x.replies.at i).reply.code 0 15) (fun h3 => ?_) fun h3 => ?_
 rotate_left
 · simp only [iT, iF] at h3
   have hm : mReplies x.abs = false := allTo_bad (j := i) (decide_eq_false (fun hk => by simp only [hat, hac] at hk; omega)) (show i < x.abs.replies.length by rw [hln]; omega)
   exact Meb false hm
 simp only [iT, iF] at h3
 refine Mp ?_ Try.call56 (fun bs w hS => ref_In (x.replies.at i).reply.n 0 1073741824 w)
 refine Mbn (inB (x.replies.at i).reply.n 0 1073741824) (fun h4 => ?_) fun h4 => ?_
 rotate_left
 · simp only [iT, iF] at h4
   have hm : mReplies x.abs = false := allTo_bad (j := i) (decide_eq_false (fun hk => by simp only [hat, hac] at hk; omega)) (show i < x.abs.replies.length by rw [hln]; omega)
   exact Meb false hm
 simp only [iT, iF] at h4
 refine Md ((12 : Int) < ((x.replies.at i).reply.text.size : Int)) (fun h5 => ?_) fun h5 => ?_
 · have hm : mReplies x.abs = false := allTo_bad (j := i) (decide_eq_false (fun hk => by simp only [hat, hac] at hk; omega)) (show i < x.abs.replies.length by rw [hln]; omega)
   exact Meb false hm
 refine Mi ?_ (pR ((i : Int) + 1))
 exact on1 ⟨i + 1, (x.replies.at i).seq⟩ ⟨by omega, allTo_step hI (decide_eq_true (by simp only [hat, hac]; exact ⟨by omega, by omega, by omega, by omega, by omega, by omega, by omega, by omega⟩)), by omega, by omega, fun h => absurd h (by omega), fun _ => rfl⟩ (by show x.replies.n - (i + 1) < x.replies.n - i; omega)

theorem session_Check {B : Nat → Prop} (s : Sl CSession) (n : Int) (w : World) (hs : s.rd B w) : Calls Try.prog 51 #[s.val, vi n] w fun e w' => e = .returned (vi (mSess (s.xs.map CSession.abs) n)) ∧ Kp [] w w' := by
 have oks := Sl.rd.ok hs
 have ncs := Sl.ok.nc oks
 have hns : s.n = s.xs.length := rfl
 have hat : ∀ q, (s.xs.map CSession.abs).getD q default = (s.at q).abs := fun q => sabs_at q
 have hq0 : ∀ q, (s.at q).abs.client = (s.at q).client := fun _ => rfl
 have hq1 : ∀ q, (s.at q).abs.id = (s.at q).id := fun _ => rfl
 have hq2 : ∀ q, (s.at q).abs.acked = (s.at q).acked := fun _ => rfl
 have hq3 : ∀ q, (s.at q).abs.last = (s.at q).last := fun _ => rfl
 have hml : (s.xs.map CSession.abs).length = s.n := by simp
 refine M0 ?_ Try.func51
 refine Md (n < 0) (fun h1 => ?_) fun h1 => ?_
 · have hm : mSess (s.xs.map CSession.abs) n = 2 := by
     unfold mSess; rw [hml]
     first | rw [if_pos (by omega)] | rw [if_neg (by omega), if_pos (by omega)]
   exact Me0 2 hm
 refine Md ((1073741824 : Int) < n) (fun h2 => ?_) fun h2 => ?_
 · have hm : mSess (s.xs.map CSession.abs) n = 2 := by
     unfold mSess; rw [hml]
     first | rw [if_pos (by omega)] | rw [if_neg (by omega), if_pos (by omega)]
   exact Me0 2 hm
 refine Md ((4 : Int) < (s.n : Int)) (fun h3 => ?_) fun h3 => ?_
 · have hm : mSess (s.xs.map CSession.abs) n = 1 := by
     unfold mSess; rw [hml]
     first | rw [if_pos (by omega)] | rw [if_neg (by omega), if_pos (by omega)]
   exact Me0 1 hm
 refine Ml (σ := Nat) (fun i => i ≤ s.n ∧ mSess (s.xs.map CSession.abs) n = firstF (sessF (s.xs.map CSession.abs) n) (s.n - i) i) (fun i => s.n - i) (fun _ => []) [18, 17, 16, 0, 1] (fun i => [(18, vI (i : Int))]) (fun _ => []) ?_ 0 ⟨Nat.zero_le _, by unfold mSess; rw [hml, if_neg (by omega), if_neg (by omega)]⟩
 rintro i ⟨hi, hI⟩ _ on1
 refine Md ((i : Int) < (s.n : Int)) (fun h4 => ?_) fun h4 => ?_
 rotate_left
 · exact Me0 0 (by rw [hI, firstF_end (by omega)])
 refine Mi ?_ (pA 21 22 (i : Int) i (rdk hs))
 refine Md ((s.at i).client < 1) (fun h5 => ?_) fun h5 => ?_
 · refine Me0 2 ?_
   have hf : sessF (s.xs.map CSession.abs) n i = 2 := by
     grind [sessF]
   rw [hI, firstF_here (by omega) hf (by omega)]
 refine Md ((9 : Int) < (s.at i).client) (fun h6 => ?_) fun h6 => ?_
 · refine Me0 2 ?_
   have hf : sessF (s.xs.map CSession.abs) n i = 2 := by
     grind [sessF]
   rw [hI, firstF_here (by omega) hf (by omega)]
 refine Md ((s.at i).acked < 0) (fun h7 => ?_) fun h7 => ?_
 · refine Me0 2 ?_
   have hf : sessF (s.xs.map CSession.abs) n i = 2 := by
     grind [sessF]
   rw [hI, firstF_here (by omega) hf (by omega)]
 refine Md ((1048576 : Int) < (s.at i).acked) (fun h8 => ?_) fun h8 => ?_
 · refine Me0 2 ?_
   have hf : sessF (s.xs.map CSession.abs) n i = 2 := by
     grind [sessF]
   rw [hI, firstF_here (by omega) hf (by omega)]
 refine Md ((s.at i).id < 1) (fun h9 => ?_) fun h9 => ?_
 · refine Me0 2 ?_
   have hf : sessF (s.xs.map CSession.abs) n i = 2 := by
     grind [sessF]
   rw [hI, firstF_here (by omega) hf (by omega)]
 refine Md ((s.at i).last < (s.at i).id) (fun h10 => ?_) fun h10 => ?_
 · refine Me0 2 ?_
   have hf : sessF (s.xs.map CSession.abs) n i = 2 := by
     grind [sessF]
   rw [hI, firstF_here (by omega) hf (by omega)]
 refine Md (n < (s.at i).last) (fun h11 => ?_) fun h11 => ?_
 · refine Me0 2 ?_
   have hf : sessF (s.xs.map CSession.abs) n i = 2 := by
     grind [sessF]
   rw [hI, firstF_here (by omega) hf (by omega)]
 refine Mp ?_ Try.call61 (fun bs w hS => session_replies (s.at i) w (Sl.rd.sub (s := s) (i := i) (Sl.rd.kp hs hS.kp) (by omega)) (by first | exact ⟨by omega, by omega⟩ | (simp only [] at *; exact ⟨by omega, by omega⟩)))
 refine Mbn (mReplies (s.at i).abs) (fun h12 => ?_) fun h12 => ?_
 rotate_left
 · refine Me0 4 ?_
   have hf : sessF (s.xs.map CSession.abs) n i = 4 := by
     grind [sessF]
   rw [hI, firstF_here (by omega) hf (by omega)]
 refine Mda 13 [] [] [] Try_mixed ?_
 refine Md ((0 : Int) < (i : Int)) (fun h13 => ?_) fun h13 => ?_
 rotate_left
 · refine Mi ?_ (pR ((i : Int) + 1))
   have hf0 : sessF (s.xs.map CSession.abs) n i = 0 := by
     grind [sessF]
   exact on1 (i + 1) ⟨by omega, by rw [hI]; exact firstF_step (by omega) hf0⟩ (by omega)
 refine Mih ?_ (pc (pR ((i : Int) - 1)) (pc (pI 68 ((i : Int) - 1) (i - 1) (rdk hs)) (pF 70 (i - 1) 0 1 (rdk hs))))
 refine Md ((s.at i).client ≤ (s.at (i - 1)).client) (fun h14 => ?_) fun h14 => ?_
 rotate_left
 · refine Mi ?_ (pR ((i : Int) + 1))
   have hf0 : sessF (s.xs.map CSession.abs) n i = 0 := by
     grind [sessF]
   exact on1 (i + 1) ⟨by omega, by rw [hI]; exact firstF_step (by omega) hf0⟩ (by omega)
 refine Me0 14 ?_
 have hf : sessF (s.xs.map CSession.abs) n i = 14 := by
   grind [sessF]
 rw [hI, firstF_here (by omega) hf (by omega)]

theorem ref_SessionsFault {B : Nat → Prop} (s : Sl CSession) (n : Int) (w : World) (hs : s.rd B w) : Calls Try.prog 55 #[s.val, vi n] w fun e w' => e = .returned (vi (mSess (s.xs.map CSession.abs) n)) ∧ Kp [] w w' := by
 have oks := Sl.rd.ok hs
 have ncs := Sl.ok.nc oks
 have hns : s.n = s.xs.length := rfl
 have hat : ∀ q, (s.xs.map CSession.abs).getD q default = (s.at q).abs := fun q => sabs_at q
 have hq0 : ∀ q, (s.at q).abs.client = (s.at q).client := fun _ => rfl
 have hq1 : ∀ q, (s.at q).abs.id = (s.at q).id := fun _ => rfl
 have hq2 : ∀ q, (s.at q).abs.acked = (s.at q).acked := fun _ => rfl
 have hq3 : ∀ q, (s.at q).abs.last = (s.at q).last := fun _ => rfl
 have hml : (s.xs.map CSession.abs).length = s.n := by simp
 refine M0 ?_ Try.func55
 refine Mp ?_ Try.call56 (fun bs w hS => ref_In n 0 1073741824 w)
 refine Mbn (inB n 0 1073741824) (fun h1 => ?_) fun h1 => ?_
 rotate_left
 · simp only [iT, iF] at h1
   have hm : mSess (s.xs.map CSession.abs) n = 2 := by
     unfold mSess; rw [hml]
     first | rw [if_pos (by omega)] | rw [if_neg (by omega), if_pos (by omega)]
   exact Me0 2 hm
 simp only [iT, iF] at h1
 refine Md ((4 : Int) < (s.n : Int)) (fun h2 => ?_) fun h2 => ?_
 · have hm : mSess (s.xs.map CSession.abs) n = 1 := by
     unfold mSess; rw [hml]
     first | rw [if_pos (by omega)] | rw [if_neg (by omega), if_pos (by omega)]
   exact Me0 1 hm
 refine Ml (σ := Nat) (fun i => i ≤ s.n ∧ mSess (s.xs.map CSession.abs) n = firstF (sessF (s.xs.map CSession.abs) n) (s.n - i) i) (fun i => s.n - i) (fun _ => []) [5, 0, 1] (fun i => [(5, vI (i : Int))]) (fun _ => []) ?_ 0 ⟨Nat.zero_le _, by unfold mSess; rw [hml, if_neg (by omega), if_neg (by omega)]⟩
 rintro i ⟨hi, hI⟩ _ on1
 refine Md ((i : Int) < (s.n : Int)) (fun h3 => ?_) fun h3 => ?_
 rotate_left
 · exact Me0 0 (by rw [hI, firstF_end (by omega)])
 refine Mi ?_ (pA 21 22 (i : Int) i (rdk hs))
 refine Mp ?_ Try.call56 (fun bs w hS => ref_In (s.at i).client 1 9 w)
 refine Mbn (inB (s.at i).client 1 9) (fun h4 => ?_) fun h4 => ?_
 rotate_left
 · simp only [iT, iF] at h4
   refine Me0 2 ?_
   have hf : sessF (s.xs.map CSession.abs) n i = 2 := by
     grind [sessF]
   rw [hI, firstF_here (by omega) hf (by omega)]
 simp only [iT, iF] at h4
 refine Mp ?_ Try.call56 (fun bs w hS => ref_In (s.at i).acked 0 1048576 w)
 refine Mbn (inB (s.at i).acked 0 1048576) (fun h5 => ?_) fun h5 => ?_
 rotate_left
 · simp only [iT, iF] at h5
   refine Me0 2 ?_
   have hf : sessF (s.xs.map CSession.abs) n i = 2 := by
     grind [sessF]
   rw [hI, firstF_here (by omega) hf (by omega)]
 simp only [iT, iF] at h5
 refine Mp ?_ Try.call56 (fun bs w hS => ref_In (s.at i).id 1 n w)
 refine Mbn (inB (s.at i).id 1 n) (fun h6 => ?_) fun h6 => ?_
 rotate_left
 · simp only [iT, iF] at h6
   refine Me0 2 ?_
   have hf : sessF (s.xs.map CSession.abs) n i = 2 := by
     grind [sessF]
   rw [hI, firstF_here (by omega) hf (by omega)]
 simp only [iT, iF] at h6
 refine Mp ?_ Try.call56 (fun bs w hS => ref_In (s.at i).last (s.at i).id n w)
 refine Mbn (inB (s.at i).last (s.at i).id n) (fun h7 => ?_) fun h7 => ?_
 rotate_left
 · simp only [iT, iF] at h7
   refine Me0 2 ?_
   have hf : sessF (s.xs.map CSession.abs) n i = 2 := by
     grind [sessF]
   rw [hI, firstF_here (by omega) hf (by omega)]
 simp only [iT, iF] at h7
 refine Mp ?_ Try.call62 (fun bs w hS => ref_repliesMay (s.at i) w (Sl.rd.sub (s := s) (i := i) (Sl.rd.kp hs hS.kp) (by omega)) (by first | exact ⟨by omega, by omega⟩ | (simp only [] at *; exact ⟨by omega, by omega⟩)))
 refine Mbn (mReplies (s.at i).abs) (fun h8 => ?_) fun h8 => ?_
 rotate_left
 · refine Me0 4 ?_
   have hf : sessF (s.xs.map CSession.abs) n i = 4 := by
     grind [sessF]
   rw [hI, firstF_here (by omega) hf (by omega)]
 refine Mda 13 [] [] [] Try_mixed ?_
 refine Md ((0 : Int) < (i : Int)) (fun h9 => ?_) fun h9 => ?_
 rotate_left
 · refine Mi ?_ (pR ((i : Int) + 1))
   have hf0 : sessF (s.xs.map CSession.abs) n i = 0 := by
     grind [sessF]
   exact on1 (i + 1) ⟨by omega, by rw [hI]; exact firstF_step (by omega) hf0⟩ (by omega)
 refine Mih ?_ (pc (pR ((i : Int) - 1)) (pc (pI 60 ((i : Int) - 1) (i - 1) (rdk hs)) (pF 62 (i - 1) 0 1 (rdk hs))))
 refine Md ((s.at i).client ≤ (s.at (i - 1)).client) (fun h10 => ?_) fun h10 => ?_
 rotate_left
 · refine Mi ?_ (pR ((i : Int) + 1))
   have hf0 : sessF (s.xs.map CSession.abs) n i = 0 := by
     grind [sessF]
   exact on1 (i + 1) ⟨by omega, by rw [hI]; exact firstF_step (by omega) hf0⟩ (by omega)
 refine Me0 14 ?_
 have hf : sessF (s.xs.map CSession.abs) n i = 14 := by
   grind [sessF]
 rw [hI, firstF_here (by omega) hf (by omega)]

theorem insR_Kept (A : Option Addr) (c : Nat) (L : List DKept) (i : Nat) (ii : Int) (x : DKept) (vb tv : Nat) (w : World) (hrow : (rowA 86 A c L).p w) (hlt : ∀ b, b ∈ (rowA 86 A c L).fp → b < w.heap.size) (ei : ii = (i : Int)) (hi : i ≤ L.length) (hn : L.length ≤ 1048575) (hv : (blkR vb tv (Lay.cells x)).p w) (hvn : vb ∉ (rowA 86 A c L).fp) :
    Calls Try.prog 60 #[.slice A L.length c, vi ii, .slice (some (⟨vb, 0, none⟩ : Addr)) 1 1] w fun e w' => ∃ y : Option Addr × Nat, e = .returned (.slice y.1 (L.take i ++ [x] ++ L.drop i).length y.2) ∧ Turned (rowA 86 A c L) w w' (rowA 86 y.1 y.2 (L.take i ++ [x] ++ L.drop i)) := by
 subst ei
 have hrok := rowA_rok hrow
 have nc := hrok.2
 have hvk : ∀ w', Kp (rowA 86 A c L).fp w w' → (blkR vb tv (Lay.cells x)).p w' := fun w' hk => blkR_kpn hv hk hvn
 have hvs : ∀ w', Kp (rowA 86 A c L).fp w w' → SrcAt w' (some (⟨vb, 0, none⟩ : Addr)) 1 ([x].flatMap Lay.cells) := fun w' hk => blkR_src1 (hvk w' hk)
 refine Mj ?_ Try.func60 (WS.start1 w _ hrow (by cases A <;> simp [rowA, rowR]) hlt)
 refine Mi ?_ (pG [(12, .sl i L.length)] (oc (rfl : (i : Int) = (i : Int)) (oc (rfl : L.length = L.length) (oc ((by omega) : i ≤ L.length) on))))
 refine Mq 16 false ?_ rfl
 refine Md ((i : Int) = (L.length : Int)) (fun h1 => ?_) fun h1 => ?_
 · refine Ma ?_ (α := DKept) (L2 := [x]) 40 (fun bs w hS => hvs w hS.kp) (h63 := by show L.length + 1 ≤ _; omega) (hb := by show (L.length + 1) * _ ≤ _; omega)
   intro A1 c1
   refine Mt [.slice A1 (L ++ [x]).length c1] fun bs w hS => ?_
   have hid : i = L.length := by omega
   subst hid
   rw [List.take_length, List.drop_length, List.append_nil]
   exact ⟨(A1, c1), rfl, hS.turned⟩
 refine Mi ?_ (pR ((L.length : Int) + 1))
 refine Md ((c : Int) < (L.length : Int) + 1) (fun h2 => ?_) fun h2 => ?_
 · refine Mi ?_ (pc (pG [(34, .sl 0 i)] (oc (rfl : 0 = 0) (oc (rfl : (i : Int) = (i : Int)) (oc ((by omega) : i ≤ c) on)))) (pc (pR ((L.length : Int) + 1)) (pR (((L.length : Int) + 1) - (i : Int)))))
   refine Mapz (α := DKept) 79 3 40 i (L.length + 1 - i) ?_ (((L.length : Int) + 1) - (i : Int)) (by omega) (by omega) hi (by omega) (by omega) (by omega)
   intro g2 c2 zs hc2 hc2m hlen0
   refine Mi ?_ (pG [(43, .sl i (i + (L.length + 1 - i)))] (oc (rfl : (i : Int) = (i : Int)) (oc (rfl : i + (L.length + 1 - i) = i + (L.length + 1 - i)) (oc ((by omega) : i ≤ i + (L.length + 1 - i)) on))))
   refine Mcp (A1 := (if c2 = i then (some (⟨g2, 0, none⟩ : Addr)) else (some (⟨g2, 0, none⟩ : Addr)).map (·.add (i * 4)))) (A2 := (some (⟨vb, 0, none⟩ : Addr))) (n1 := (i + (L.length + 1 - i)) - i) (k := 1) (q := 1) (vs := [x].flatMap Lay.cells) 40 (i * Lay.size DKept) ?_ (by rw [if_neg (by omega)]; show some (Addr.add _ (i * 4)) = _; rw [addr_at]; rfl) (by simp only [Nat.min_def]; split <;> omega) (fun bs w hS => hvs w hS.kp) (by rw [one_len, Nat.one_mul]) (flat_one _) (by rw [one_len]; rw [hlen0]; have h9 := ins_fit (L := L) hi (by omega : L.length + 1 ≤ c2); omega)
   refine Mdr 8 ?_ Try_mixed
   refine Mih ?_ (pc (pR ((i : Int) + 1)) (pc (pG [(50, .sl (i + 1) (i + (L.length + 1 - i)))] (oc ((by omega) : (i : Int) + 1 = (((i + 1) : Nat) : Int)) (oc (rfl : i + (L.length + 1 - i) = i + (L.length + 1 - i)) (oc ((by omega) : (i + 1) ≤ i + (L.length + 1 - i)) on)))) (pG [(53, .sl i L.length)] (oc (rfl : (i : Int) = (i : Int)) (oc (rfl : L.length = L.length) (oc ((by omega) : i ≤ L.length) on))))))
   refine Mz ?_
   refine Mcp (A1 := (if c2 = (i + 1) then (some (⟨g2, 0, none⟩ : Addr)) else (some (⟨g2, 0, none⟩ : Addr)).map (·.add ((i + 1) * 4)))) (A2 := (if c = i then A else A.map (·.add (i * 4)))) (n1 := (i + (L.length + 1 - i)) - (i + 1)) (k := L.length - i) (q := (L.length - i)) (vs := (L.drop i).flatMap Lay.cells) 40 (i * Lay.size DKept + Lay.size DKept) ?_ (by rw [if_neg (by omega)]; show some (Addr.add _ ((i + 1) * 4)) = _; rw [addr_at, Nat.succ_mul]; rfl) (by simp only [Nat.min_def]; split <;> omega) (fun bs w hS => rowA_srcDrop (hS.res _ i1) hi) (drop_len L i) (flat_one _) (by rw [setAt_len (by rw [one_len, hlen0]; have h9 := ins_fit (L := L) hi (by omega : L.length + 1 ≤ c2); omega), hlen0]; exact ins_fit hi (by omega))
   refine Mt [.slice (some (⟨g2, 0, none⟩ : Addr)) (i + (L.length + 1 - i)) c2] fun bs w hS => ?_
   have hlen : (L.take i ++ [x] ++ L.drop i).length = L.length + 1 := by simp only [List.length_append, List.length_take, List.length_drop, List.length_cons, List.length_nil]; omega
   have hS2 := hS.weak (rowA 86 (some (⟨g2, 0, none⟩ : Addr)) c2 (L.take i ++ [x] ++ L.drop i)) (List.Sublist.refl _) (fun h => ins_row1 hi (by omega) hlen0 h)
   refine ⟨(some ⟨g2, 0, none⟩, c2), ?_, hS2.turned⟩
   exact congrArg (fun q => Ending.returned (Value.slice (some (⟨g2, 0, none⟩ : Addr)) q c2)) (show i + (L.length + 1 - i) = (L.take i ++ [x] ++ L.drop i).length by rw [hlen]; omega)
 refine m_raw (α := DKept) (by omega) ?_
 intro g zs hA hLc hlen0
 have hvg : vb ≠ g := fun e0 => hvn (by rw [hA]; simp [rowA, rowR, e0])
 refine Mi ?_ (pc (pR ((L.length : Int) + 1)) (pc (pG [(60, .sl 0 (L.length + 1))] (oc (rfl : 0 = 0) (oc ((by omega) : (L.length : Int) + 1 = (((L.length + 1) : Nat) : Int)) (oc ((by omega) : (L.length + 1) ≤ c) on)))) (pc (pR ((i : Int) + 1)) (pG [(66, .sl (i + 1) (L.length + 1))] (oc ((by omega) : (i : Int) + 1 = (((i + 1) : Nat) : Int)) (oc (rfl : (L.length + 1) = (L.length + 1)) (oc ((by omega) : (i + 1) ≤ (L.length + 1)) on)))))))
 refine Mx ?_ (vs := fun _ => [.slice (some (⟨vb, 0, none⟩ : Addr)) 1 1, .slice (if c = (i + 1) then A else A.map (·.add ((i + 1) * 4))) ((L.length + 1) - (i + 1)) (c - (i + 1))]) (v := .bool false) (fun bs w hS => by show (callFunc 108 #[.slice (some (⟨vb, 0, none⟩ : Addr)) 1 1, .slice (if c = (i + 1) then A else A.map (·.add ((i + 1) * 4))) ((L.length + 1) - (i + 1)) (c - (i + 1))]).run Try.prog w = _; rw [(show (if c = (i + 1) then A else A.map (·.add ((i + 1) * 4))) = some ⟨g, i * Lay.size DKept + Lay.size DKept, none⟩ from (by rw [if_neg (by omega), hA]; show some (Addr.add _ ((i + 1) * 4)) = _; rw [addr_at, Nat.succ_mul]; rfl)), run_callFunc_extern Try.func108 (by kernel_rfl) (by kernel_rfl) (by kernel_rfl) (e := Extern.SlicesOverlaps.overlaps #[79, 79] #[4]) (by kernel_rfl)]; show ((Extern.SlicesOverlaps.overlaps #[79, 79] #[4] #[.slice (some (⟨vb, 0, none⟩ : Addr)) 1 1, .slice (some _) _ _]).run _ w).andThen _ = _; rw [Go.Lib.run_overlaps_apart w 79 4 86 Try.underlying79 _ (fun w => sizeOf_run _ _ w (by kernel_rfl)) ⟨vb, 0, none⟩ ⟨g, i * Lay.size DKept + Lay.size DKept, none⟩ 1 1 _ _ hvg _ _ _ _ (blkR_shape (hvk w hS.kp)) (rawR_shape (hS.res _ i0)) (by rw [hlen0]; exact Nat.mul_ne_zero (by omega) (Nat.ne_of_gt Lay.pos)) (blkR_thaw (hvk w hS.kp) 0) (blkR_thaw (hvk w hS.kp) _)]; rfl)
 refine Mq 68 true ?_ rfl
 refine Mdr 8 ?_ Try_mixed
 refine Mih ?_ (pc (pR ((i : Int) + 1)) (pc (pG [(73, .sl (i + 1) (L.length + 1))] (oc ((by omega) : (i : Int) + 1 = (((i + 1) : Nat) : Int)) (oc (rfl : (L.length + 1) = (L.length + 1)) (oc ((by omega) : (i + 1) ≤ (L.length + 1)) on)))) (pG [(76, .sl i (L.length + 1))] (oc (rfl : (i : Int) = (i : Int)) (oc (rfl : (L.length + 1) = (L.length + 1)) (oc ((by omega) : i ≤ (L.length + 1)) on))))))
 refine Mz ?_
 refine Mcp (A1 := (if c = (i + 1) then A else A.map (·.add ((i + 1) * 4)))) (A2 := (if c = i then A else A.map (·.add (i * 4)))) (n1 := (L.length + 1) - (i + 1)) (k := (L.length + 1) - i) (q := (L.length - i)) (vs := (L.drop i).flatMap Lay.cells) 40 (i * Lay.size DKept + Lay.size DKept) ?_ (by rw [if_neg (by omega), hA]; show some (Addr.add _ ((i + 1) * 4)) = _; rw [addr_at, Nat.succ_mul]; rfl) (by simp only [Nat.min_def]; split <;> omega) (fun bs w hS => by rw [show (if c = i then A else A.map (·.add (i * 4))) = some ⟨g, i * Lay.size DKept, none⟩ from (by rw [if_neg (by omega), hA]; show some (Addr.add _ (i * 4)) = _; rw [addr_at]; rfl)]; exact raw_srcDrop hi (hS.res _ i0)) (drop_len L i) (flat_one _) (by rw [hlen0]; exact ins_fit hi (by omega))
 refine Mi ?_ (pG [(80, .sl i (L.length + 1))] (oc (rfl : (i : Int) = (i : Int)) (oc (rfl : (L.length + 1) = (L.length + 1)) (oc ((by omega) : i ≤ (L.length + 1)) on))))
 refine Mcp (A1 := (if c = i then A else A.map (·.add (i * 4)))) (A2 := (some (⟨vb, 0, none⟩ : Addr))) (n1 := (L.length + 1) - i) (k := 1) (q := 1) (vs := [x].flatMap Lay.cells) 40 (i * Lay.size DKept) ?_ (by rw [if_neg (by omega), hA]; show some (Addr.add _ (i * 4)) = _; rw [addr_at]; rfl) (by simp only [Nat.min_def]; split <;> omega) (fun bs w hS => hvs w hS.kp) (by rw [one_len, Nat.one_mul]) (flat_one _) (by rw [one_len]; rw [setAt_len (by rw [hlen0]; exact ins_fit hi (by omega)), hlen0]; have h9 := ins_fit (L := L) hi (by omega : L.length + 1 ≤ c); omega)
 refine Mt [.slice A (L.length + 1) c] fun bs w hS => ?_
 have hlen : (L.take i ++ [x] ++ L.drop i).length = L.length + 1 := by simp only [List.length_append, List.length_take, List.length_drop, List.length_cons, List.length_nil]; omega
 have hS2 := hS.weak (rowA 86 (some ⟨g, 0, none⟩) c (L.take i ++ [x] ++ L.drop i)) (List.Sublist.refl _) (fun h => ins_row2 hi (by omega) hlen0 h)
 refine ⟨(some ⟨g, 0, none⟩, c), ?_, hS2.turned⟩
 subst hA
 exact congrArg (fun q => Ending.returned (Value.slice (some (⟨g, 0, none⟩ : Addr)) q c)) (show L.length + 1 = (L.take i ++ [x] ++ L.drop i).length by rw [hlen])

theorem clone_Kept {B : Nat → Prop} (s : Sl DKept) (w : World) (hs : s.rd B w) (hb : s.n * 40 ≤ 140737488355328) : Calls Try.prog 103 #[s.val] w fun e w' => ∃ y : Sl DKept, e = .returned y.val ∧ y.xs = s.xs ∧ Kp [] w w' ∧ Fresh w w' (rowA 86 y.A y.c y.xs) := by
 have oks := Sl.rd.ok hs
 have ncs := Sl.ok.nc oks
 have hns : s.n = s.xs.length := rfl
 refine M0 ?_ Try.func103
 refine Mi ?_ (pG [(4, .val (.bool s.A.isNone))] (oc ((eq_nil Try.underlying79) : ∀ w, (do eqGuard .eql 79 (.tmp 3) (.const vn) s.val vn; binOp .eql 79 s.val vn : Sem Value).run Try.prog w = .ok (.bool s.A.isNone) w) on))
 refine Mb s.A.isNone (fun h1 => ?_) fun h1 => ?_
 · refine Mt [vn] fun bs w hS => ?_
   have hnil : s.xs = [] := Sl.ok.empty oks (by cases h : s.A <;> simp_all)
   exact ⟨Sl.nil, rfl, hnil.symm, hS.kp, rowA_nil 86 w⟩
 refine Mlz ?_ (α := DKept) (e := 86)
 intro A1
 refine Ma ?_ (α := DKept) (L2 := s.xs) 40 (fun bs w hS => Sl.rd.src (s := s) (Sl.rd.kp hs hS.kp))
 intro A2 c2
 exact Mt [.slice A2 ([] ++ s.xs).length c2] fun bs w hS => ⟨⟨A2, c2, [] ++ s.xs⟩, rfl, by simp, hS.kp, hS.out1⟩

theorem session_Copy {B : Nat → Prop} (s : Sl CSession) (w : World) (hs : s.rd B w) (hsm : Rds.small s) : Calls Try.prog 52 #[s.val] w fun e w' => ∃ y : Sl CSession, e = .returned y.val ∧ y.xs.map CSession.abs = s.xs.map CSession.abs ∧ Kp [] w w' ∧ Fresh w w' (sessR 81 86 y) := by
 have oks := Sl.rd.ok hs
 have ncs := Sl.ok.nc oks
 refine M0 ?_ Try.func52
 refine m_rowA (α := CSession) 81 ?_
 refine m_nores (ownL (keptR 86) []) rfl (fun w x hx => by cases hx) ?_
 refine Ml (σ := Nat × Option Addr × Nat × List CSession) (fun ⟨i, A, c, L⟩ => i ≤ s.n ∧ L.length = i ∧ L.map CSession.abs = (s.xs.take i).map CSession.abs) (fun ⟨i, A, c, L⟩ => s.n - i) (fun ⟨i, A, c, L⟩ => [ownL (keptR 86) L, rowA 81 A c (L : List CSession)]) [8, 7, 6, 3] (fun ⟨i, A, c, L⟩ => [(8, vI (i : Int)), (3, .v (.slice A L.length c))]) (fun _ => []) ?_ (⟨0, none, 0, []⟩) ⟨Nat.zero_le _, rfl, by simp⟩
 rintro ⟨i, A, c, L⟩ ⟨hi, hL, hI⟩ _ on1
 have hsn : s.n * 56 ≤ 140737488355328 := hsm.1
 refine Md ((i : Int) < (s.n : Int)) (fun h1 => ?_) fun h1 => ?_
 rotate_left
 · refine Mt [.slice A L.length c] fun bs w hS => ?_
   have hn : L.length = s.n := by omega
   exact ⟨⟨A, c, L⟩, rfl, by rw [hI, take_all (by omega)], hS.kp, hS.out⟩
 refine Mi ?_ (pA 10 11 (i : Int) i (rdk hs))
 refine Mf ?_ Try.call103 (fun bs w hS => clone_Kept (s.at i).replies w (Sl.rd.sub (s := s) (i := i) (Sl.rd.kp hs hS.kp) (by omega)) (hsm.2 i (by omega)).1)
 rintro y1 hF1
 refine M1 ?_
 refine m_f2 ?_
 refine Mal (α := CSession) 56 ([(⟨(s.at i).client, (s.at i).id, (s.at i).acked, (s.at i).last, y1⟩ : CSession)]) ?_
 intro A3 c3
 refine Mi ?_ (pR ((i : Int) + 1))
 refine m_perm (R' := [rowA 86 y1.A y1.c (y1.xs : List DKept), ownL (keptR 86) L, rowA 81 A3 c3 (L ++ [(⟨(s.at i).client, (s.at i).id, (s.at i).acked, (s.at i).last, y1⟩ : CSession)] : List CSession)]) (by exact perm3 0 _ _ _) ?_
 refine m_join (ownL (keptR 86) (L ++ [(⟨(s.at i).client, (s.at i).id, (s.at i).acked, (s.at i).last, y1⟩ : CSession)])) (ownL_app_fp (keptR 86) L (⟨(s.at i).client, (s.at i).id, (s.at i).acked, (s.at i).last, y1⟩ : CSession)) (fun w => ownL_app_p (keptR 86) L (⟨(s.at i).client, (s.at i).id, (s.at i).acked, (s.at i).last, y1⟩ : CSession) w) ?_
 exact on1 ⟨i + 1, A3, c3, L ++ [(⟨(s.at i).client, (s.at i).id, (s.at i).acked, (s.at i).last, y1⟩ : CSession)]⟩ ⟨by omega, by rw [List.length_append]; simp [hL], map_take_snoc (by omega) hI (by first | simp [CSession.abs, hF1] | simp [CSession.abs])⟩ (by show s.n - (i + 1) < s.n - i; omega)
theorem session_CopyS {B : Nat → Prop} (s : Sl CSession) (w : World) (hs : s.rd B w) (hsm : Rds.small s) : Calls Try.prog 52 #[s.val] w fun e w' => ∃ y : Sl CSession, e = .returned y.val ∧ y.xs.map CSession.abs = s.xs.map CSession.abs ∧ FreshS w w' y :=
  (session_Copy s w hs hsm).mono fun e w' ⟨y, h1, h2, h3, h4⟩ => ⟨y, h1, h2, h3, h4.sub fun hp => sessR_rd hp (sess_texts hs h2)⟩

theorem ref_SessionsCopy {B : Nat → Prop} (s : Sl CSession) (w : World) (hs : s.rd B w) (hsm : Rds.small s) : Calls Try.prog 50 #[s.val] w fun e w' => ∃ y : Sl CSession, e = .returned y.val ∧ y.xs.map CSession.abs = s.xs.map CSession.abs ∧ Kp [] w w' ∧ Fresh w w' (sessR 81 86 y) := by
 have oks := Sl.rd.ok hs
 have ncs := Sl.ok.nc oks
 refine M0 ?_ Try.func50
 refine m_rowA (α := CSession) 81 ?_
 refine m_nores (ownL (keptR 86) []) rfl (fun w x hx => by cases hx) ?_
 refine Ml (σ := Nat × Option Addr × Nat × List CSession) (fun ⟨i, A, c, L⟩ => i ≤ s.n ∧ L.length = i ∧ L.map CSession.abs = (s.xs.take i).map CSession.abs) (fun ⟨i, A, c, L⟩ => s.n - i) (fun ⟨i, A, c, L⟩ => [ownL (keptR 86) L, rowA 81 A c (L : List CSession)]) [4, 3, 0] (fun ⟨i, A, c, L⟩ => [(4, vI (i : Int)), (3, .v (.slice A L.length c))]) (fun _ => []) ?_ (⟨0, none, 0, []⟩) ⟨Nat.zero_le _, rfl, by simp⟩
 rintro ⟨i, A, c, L⟩ ⟨hi, hL, hI⟩ _ on1
 have hsn : s.n * 56 ≤ 140737488355328 := hsm.1
 refine Md ((i : Int) < (s.n : Int)) (fun h1 => ?_) fun h1 => ?_
 rotate_left
 · refine Mt [.slice A L.length c] fun bs w hS => ?_
   have hn : L.length = s.n := by omega
   exact ⟨⟨A, c, L⟩, rfl, by rw [hI, take_all (by omega)], hS.kp, hS.out⟩
 refine Mi ?_ (pA 14 15 (i : Int) i (rdk hs))
 refine m_rowA (α := DKept) 86 ?_
 refine Ma ?_ (α := DKept) (L2 := (s.at i).replies.xs) 40 (fun bs w hS => Sl.rd.src (s := (s.at i).replies) (Sl.rd.sub (s := s) (i := i) (Sl.rd.kp hs hS.kp) (by omega))) (h63 := (by first | omega | (simp only [List.length_nil, List.length_cons, List.length_append]; omega) | (have hq : _ * (40 : Nat) ≤ 140737488355328 := (hsm.2 i (by omega)).1; simp only [Sl.n, List.length_nil] at hq ⊢; omega))) (hb := (by first | omega | (simp only [List.length_nil, List.length_cons, List.length_append]; omega) | (have hq : _ * (40 : Nat) ≤ 140737488355328 := (hsm.2 i (by omega)).1; simp only [Sl.n, List.length_nil] at hq ⊢; omega)))
 intro A1 c1
 refine M1 ?_
 refine m_f2 ?_
 refine Mal (α := CSession) 56 ([(⟨(s.at i).client, (s.at i).id, (s.at i).acked, (s.at i).last, ⟨A1, c1, [] ++ (s.at i).replies.xs⟩⟩ : CSession)]) ?_
 intro A2 c2
 refine Mi ?_ (pR ((i : Int) + 1))
 refine m_perm (R' := [rowA 86 A1 c1 ([] ++ (s.at i).replies.xs : List DKept), ownL (keptR 86) L, rowA 81 A2 c2 (L ++ [(⟨(s.at i).client, (s.at i).id, (s.at i).acked, (s.at i).last, ⟨A1, c1, [] ++ (s.at i).replies.xs⟩⟩ : CSession)] : List CSession)]) (by exact perm3 0 _ _ _) ?_
 refine m_join (ownL (keptR 86) (L ++ [(⟨(s.at i).client, (s.at i).id, (s.at i).acked, (s.at i).last, ⟨A1, c1, [] ++ (s.at i).replies.xs⟩⟩ : CSession)])) (ownL_app_fp (keptR 86) L (⟨(s.at i).client, (s.at i).id, (s.at i).acked, (s.at i).last, ⟨A1, c1, [] ++ (s.at i).replies.xs⟩⟩ : CSession)) (fun w => ownL_app_p (keptR 86) L (⟨(s.at i).client, (s.at i).id, (s.at i).acked, (s.at i).last, ⟨A1, c1, [] ++ (s.at i).replies.xs⟩⟩ : CSession) w) ?_
 exact on1 ⟨i + 1, A2, c2, L ++ [(⟨(s.at i).client, (s.at i).id, (s.at i).acked, (s.at i).last, ⟨A1, c1, [] ++ (s.at i).replies.xs⟩⟩ : CSession)]⟩ ⟨by omega, by rw [List.length_append]; simp [hL], map_take_snoc (by omega) hI (by first | simp [CSession.abs, hF1] | simp [CSession.abs])⟩ (by show s.n - (i + 1) < s.n - i; omega)
theorem ref_SessionsCopyS {B : Nat → Prop} (s : Sl CSession) (w : World) (hs : s.rd B w) (hsm : Rds.small s) : Calls Try.prog 50 #[s.val] w fun e w' => ∃ y : Sl CSession, e = .returned y.val ∧ y.xs.map CSession.abs = s.xs.map CSession.abs ∧ FreshS w w' y :=
  (ref_SessionsCopy s w hs hsm).mono fun e w' ⟨y, h1, h2, h3, h4⟩ => ⟨y, h1, h2, h3, h4.sub fun hp => sessR_rd hp (sess_texts hs h2)⟩

theorem same_sessions {B B' : Nat → Prop} (a b : Sl CSession) (w : World) (ha : a.rd B w) (hb : b.rd B' w) (he : a.xs.map CSession.abs = b.xs.map CSession.abs) : Calls Try.prog 19 #[a.val, b.val] w fun e w' => e = .returned (vb true) ∧ Kp [] w w' := by
 have oka := Sl.rd.ok ha
 have okb := Sl.rd.ok hb
 have hn := map_n he
 have nca := Sl.ok.nc oka
 refine M0 ?_ Try.func19
 refine Mdn ((a.n : Int) = (b.n : Int)) (fun h1 => ?_) fun h1 => ?_
 rotate_left
 · exfalso; first | omega | (rw [hbt] at h1; simp at h1)
 refine Ml (σ := Nat) (fun i => True) (fun i => a.n - i) (fun _ => []) [5, 0, 1] (fun i => [(5, vI (i : Int))]) (fun _ => []) ?_ 0 trivial
 rintro i _ _ on1
 have hat := map_at (f := CSession.abs) (g := CSession.abs) rfl he i
 have q0 : (a.at i).client = (b.at i).client := congrArg DSession.client hat
 have q1 : (a.at i).id = (b.at i).id := congrArg DSession.id hat
 have q2 : (a.at i).acked = (b.at i).acked := congrArg DSession.acked hat
 have q3 : (a.at i).last = (b.at i).last := congrArg DSession.last hat
 have q4 : (a.at i).replies.xs = (b.at i).replies.xs := congrArg DSession.replies hat
 have q5 := xs_n q4
 refine Md ((i : Int) < (a.n : Int)) (fun h2 => ?_) fun h2 => ?_
 rotate_left
 · exact Mt [vb true] fun bs w hS => ⟨rfl, hS.kp⟩
 refine Mi ?_ (pc (pA 22 23 (i : Int) i (rdk ha)) (pA 26 27 (i : Int) i (rdk hb)))
 refine Mdn ((a.at i).client = (b.at i).client) (fun h3 => ?_) fun h3 => ?_
 rotate_left
 · exfalso; first | omega | (rw [hbt] at h3; simp at h3)
 refine Mdn ((a.at i).id = (b.at i).id) (fun h4 => ?_) fun h4 => ?_
 rotate_left
 · exfalso; first | omega | (rw [hbt] at h4; simp at h4)
 refine Mdn ((a.at i).acked = (b.at i).acked) (fun h5 => ?_) fun h5 => ?_
 rotate_left
 · exfalso; first | omega | (rw [hbt] at h5; simp at h5)
 refine Mdn ((a.at i).last = (b.at i).last) (fun h6 => ?_) fun h6 => ?_
 rotate_left
 · exfalso; first | omega | (rw [hbt] at h6; simp at h6)
 refine Mdn ((((a.at i).replies.n : Nat) : Int) = (((b.at i).replies.n : Nat) : Int)) (fun h7 => ?_) fun h7 => ?_
 rotate_left
 · exfalso; first | omega | (rw [hbt] at h7; simp at h7)
 refine Ml (σ := Nat) (fun j => True) (fun j => (a.at i).replies.n - j) (fun _ => []) [8, 7, 6, 5, 0, 1] (fun j => [(8, vI (j : Int))]) (fun _ => []) ?_ 0 trivial
 rintro j _ _ on2
 have hbt := xs_at q4 j
 have ncr := Sl.ok.nc (Sl.ok.at oka (show i < a.n by omega))
 refine Md ((j : Int) < (((a.at i).replies.n : Nat) : Int)) (fun h8 => ?_) fun h8 => ?_
 rotate_left
 · refine Mi ?_ (pR ((i : Int) + 1))
   exact on1 (i + 1) trivial (by omega)
 refine Mda 11 [] [] [] Try_mixed ?_
 refine Mih ?_ (pc (pA 73 74 (j : Int) j (s := (a.at i).replies) (fun w hk hr => (Sl.rd.sub (s := a) (i := i) (Sl.rd.kp ha hk) (by omega)))) (pc (pA 78 79 (j : Int) j (s := (b.at i).replies) (fun w hk hr => (Sl.rd.sub (s := b) (i := i) (Sl.rd.kp hb hk) (by omega)))) (pG [(80, .val (vb (!((decide (((a.at i).replies.at j).seq = ((b.at i).replies.at j).seq)) && (((decide (((a.at i).replies.at j).reply.code = ((b.at i).replies.at j).reply.code)) && ((decide (((a.at i).replies.at j).reply.n = ((b.at i).replies.at j).reply.n)) && ((decide (((a.at i).replies.at j).reply.text = ((b.at i).replies.at j).reply.text)) && true))) && true)))))] (oc ((neq_agg (by kernel_rfl) (by kernel_rfl)) : ∀ w, (do eqGuard .neq 86 (.tmp 74) (.tmp 79) ((a.at i).replies.at j).val ((b.at i).replies.at j).val; binOp .neq 86 ((a.at i).replies.at j).val ((b.at i).replies.at j).val : Sem Value).run Try.prog w = .ok (vb (!((decide (((a.at i).replies.at j).seq = ((b.at i).replies.at j).seq)) && (((decide (((a.at i).replies.at j).reply.code = ((b.at i).replies.at j).reply.code)) && ((decide (((a.at i).replies.at j).reply.n = ((b.at i).replies.at j).reply.n)) && ((decide (((a.at i).replies.at j).reply.text = ((b.at i).replies.at j).reply.text)) && true))) && true)))) w) on))))
 refine Mbn ((decide (((a.at i).replies.at j).seq = ((b.at i).replies.at j).seq)) && (((decide (((a.at i).replies.at j).reply.code = ((b.at i).replies.at j).reply.code)) && ((decide (((a.at i).replies.at j).reply.n = ((b.at i).replies.at j).reply.n)) && ((decide (((a.at i).replies.at j).reply.text = ((b.at i).replies.at j).reply.text)) && true))) && true)) (fun h9 => ?_) fun h9 => ?_
 rotate_left
 · exfalso; first | omega | (rw [hbt] at h9; simp at h9)
 refine Mi ?_ (pR ((j : Int) + 1))
 exact on2 (j + 1) trivial (by omega)

theorem law_kept {B : Nat → Prop} (s : Sl CSession) (w : World) (hs : s.rd B w) (hsm : Rds.small s) : Calls Try.prog 16 #[s.val] w fun e w' => ∃ y : Sl CSession, e = .returned y.val ∧ y.xs.map CSession.abs = s.xs.map CSession.abs ∧ FreshS w w' y := by
 have oks := Sl.rd.ok hs
 have ncs := Sl.ok.nc oks
 have hns : s.n = s.xs.length := rfl
 refine M0 ?_ Try.func16
 refine Mu ?_ Try.call50 (fun bs w hS => ref_SessionsCopyS s w (Sl.rd.kp hs hS.kp) hsm)
 rintro fp1 y1 hF1 hok1
 exact Mt [y1.val] fun bs w hS => ⟨y1, rfl, hF1, hS.outS (allR_sub i0 (hS.res _ i0))⟩

theorem session_find_1 (x : CSession) (t : Int) (w : World) : Calls Try.prog 105 #[x.val, vi t] w fun e w' => e = .returned (vi (IntKind.i64.wrap (x.client - t))) ∧ Kp [] w w' := by
 refine M0 ?_ Try.func105
 refine Mi ?_ (pG [(8, .val (vi (IntKind.i64.wrap (x.client - t))))] (oc (sub_wrap : ∀ w, (do eqGuard .sub 3 (.tmp 6) (.tmp 7) (vi x.client) (vi t); binOp .sub 3 (vi x.client) (vi t) : Sem Value).run Try.prog w = .ok (vi (IntKind.i64.wrap (x.client - t))) w) on))
 exact Mt [vi (IntKind.i64.wrap (x.client - t))] fun bs w hS => ⟨rfl, hS.kp⟩

theorem bs_session_find_1 {B : Nat → Prop} (s : Sl CSession) (t : Int) (w : World) (hs : s.rd B w) (hn : s.n ≤ 1048576) : Calls Try.prog 104 #[s.val, vi t, .func (.func 105) #[] #[]] w fun e w' => e = .returned (.tuple #[vi (mBS (fun x : CSession => IntKind.i64.wrap (x.client - t)) s.xs : Nat), vb (mBSf (fun x : CSession => IntKind.i64.wrap (x.client - t)) s.xs)]) ∧ Kp [] w w' := by
 have oks := Sl.rd.ok hs
 have ncs := Sl.ok.nc oks
 have hns : s.n = s.xs.length := rfl
 refine Mj ?_ Try.func104 (WS.start w)
 refine Ml (σ := Nat × Nat × Nat) (fun ⟨i, j, f⟩ => i ≤ j ∧ j ≤ s.n ∧ j - i ≤ f ∧ mBS (fun x : CSession => IntKind.i64.wrap (x.client - t)) s.xs = bsGo (fun j => decide (IntKind.i64.wrap ((s.at j).client - t) < 0)) f i j) (fun ⟨i, j, f⟩ => f) (fun _ => []) [10, 9, 8, 0, 1, 2] (fun ⟨i, j, f⟩ => [(10, vI (j : Int)), (9, vI (i : Int))]) (fun _ => []) ?_ (⟨0, s.n, s.n⟩) ⟨Nat.zero_le _, Nat.le_refl _, Nat.le_refl _, rfl⟩
 rintro ⟨i, j, f⟩ ⟨h1, h2, h3, hI⟩ _ on1
 have hdiv : ((i : Int) + (j : Int)) / 2 = (((i + j) / 2 : Nat) : Int) := by omega
 refine Md ((i : Int) < (j : Int)) (fun h1 => ?_) fun h1 => ?_
 rotate_left
 · refine Md ((i : Int) < (s.n : Int)) (fun h3 => ?_) fun h3 => ?_
   rotate_left
   · refine Mt [vi (i : Int), vb false] fun bs w hS => ?_
     have hij : i = j := by omega
     subst hij
     have hr : mBS (fun x : CSession => IntKind.i64.wrap (x.client - t)) s.xs = i := by rw [hI]; exact bsGo_end _ _ _ _ (Nat.le_refl _)
     refine ⟨?_, hS.kp⟩
     have hr2 : mBSf (fun x : CSession => IntKind.i64.wrap (x.client - t)) s.xs = false := by
       unfold mBSf; rw [hr]
       rw [decide_eq_false (show ¬ i < s.xs.length by omega)]; rfl
     rw [hr, hr2]
     rfl
   refine Mi ?_ (pA 43 44 (i : Int) i (rdk hs))
   refine Mp ?_ Try.call105 (fun bs w hS => session_find_1 (s.at i) t w)
   refine Mt [vi (i : Int), vb (decide (IntKind.i64.wrap ((s.at i).client - t) = 0))] fun bs w hS => ?_
   have hij : i = j := by omega
   subst hij
   have hr : mBS (fun x : CSession => IntKind.i64.wrap (x.client - t)) s.xs = i := by rw [hI]; exact bsGo_end _ _ _ _ (Nat.le_refl _)
   refine ⟨?_, hS.kp⟩
   have hr2 : mBSf (fun x : CSession => IntKind.i64.wrap (x.client - t)) s.xs = (decide (IntKind.i64.wrap ((s.at i).client - t) = 0)) := by
     unfold mBSf; rw [hr]
     rw [decide_eq_true (show i < s.xs.length by omega)]; rfl
   rw [hr, hr2]
   rfl
 refine Mi ?_ (pc (pR ((i : Int) + (j : Int))) (pc (pG [(21, .val (.int .u64 ((i : Int) + (j : Int))))] (oc ((conv_i64_u64 Try.underlying3 Try.underlying138 (by omega) (by omega)) : ∀ w, (convert 3 138 (vi ((i : Int) + (j : Int))) : Sem Value).run Try.prog w = .ok (.int .u64 ((i : Int) + (j : Int))) w) on)) (pc (pG [(22, .val (.int .u64 (((i : Int) + (j : Int)) / 2)))] (oc (shr_u64 : ∀ w, (do eqGuard .shr 138 (.tmp 21) (.const (.int .u64 1)) (.int .u64 ((i : Int) + (j : Int))) (.int .u64 1); binOp .shr 138 (.int .u64 ((i : Int) + (j : Int))) (.int .u64 1) : Sem Value).run Try.prog w = .ok (.int .u64 (((i : Int) + (j : Int)) / 2)) w) on)) (pc (pG [(23, .val (vi (((i : Int) + (j : Int)) / 2)))] (oc ((conv_u64_i64 Try.underlying138 Try.underlying3 (by omega) (by omega)) : ∀ w, (convert 138 3 (.int .u64 (((i : Int) + (j : Int)) / 2)) : Sem Value).run Try.prog w = .ok (vi (((i : Int) + (j : Int)) / 2)) w) on)) (pA 27 28 (((i : Int) + (j : Int)) / 2) (((i : Int) + (j : Int)) / 2).toNat (rdk hs))))))
 refine Mp ?_ Try.call105 (fun bs w hS => session_find_1 (s.at (((i : Int) + (j : Int)) / 2).toNat) t w)
 refine Md (IntKind.i64.wrap ((s.at (((i : Int) + (j : Int)) / 2).toNat).client - t) < 0) (fun h2 => ?_) fun h2 => ?_
 rotate_left
 · have hf1 : f = (f - 1) + 1 := by omega
   rw [hf1] at hI
   have hI2 := hI.trans (bsGo_down (by omega) (decide_eq_false (by assumption)))
   exact on1 ⟨i, (i + j) / 2, f - 1⟩ ⟨by omega, by omega, by omega, hI2⟩ (by show f - 1 < f; omega)
 refine Mi ?_ (pR ((((i : Int) + (j : Int)) / 2) + 1))
 have hf1 : f = (f - 1) + 1 := by omega
 rw [hf1] at hI
 have hI2 := hI.trans (bsGo_up (by omega) (decide_eq_true (by assumption)))
 exact on1 ⟨(i + j) / 2 + 1, j, f - 1⟩ ⟨by omega, by omega, by omega, hI2⟩ (by show f - 1 < f; omega)

theorem session_find {B : Nat → Prop} (s : Sl CSession) (t : Int) (w : World) (hs : s.rd B w) (hn : s.n ≤ 1048576) : Calls Try.prog 53 #[s.val, vi t] w fun e w' => e = .returned (.tuple #[vi (mBS (fun x : CSession => IntKind.i64.wrap (x.client - t)) s.xs : Nat), vb (mBSf (fun x : CSession => IntKind.i64.wrap (x.client - t)) s.xs)]) ∧ Kp [] w w' := by
 have oks := Sl.rd.ok hs
 have ncs := Sl.ok.nc oks
 have hns : s.n = s.xs.length := rfl
 refine M0 ?_ Try.func53
 refine Mp ?_ Try.call104 (fun bs w hS => bs_session_find_1 s t w (Sl.rd.kp hs hS.kp) (by omega))
 exact Mt [vi ((mBS (fun x : CSession => IntKind.i64.wrap (x.client - t)) s.xs : Nat) : Int), vb (mBSf (fun x : CSession => IntKind.i64.wrap (x.client - t)) s.xs)] fun bs w hS => ⟨rfl, hS.kp⟩

theorem tackroomref_sessionAt {B : Nat → Prop} (s : Sl CSession) (t : Int) (w : World) (hs : s.rd B w) : Calls Try.prog 57 #[s.val, vi t] w fun e w' => e = .returned (vi (mIdx (fun x : CSession => decide (x.client = t)) s.xs)) ∧ Kp [] w w' := by
 have oks := Sl.rd.ok hs
 have ncs := Sl.ok.nc oks
 have hns : s.n = s.xs.length := rfl
 refine M0 ?_ Try.func57
 refine Ml (σ := Nat) (fun i => i ≤ s.n ∧ ∀ j, j < i → decide ((s.at j).client = t) = false) (fun i => s.n - i) (fun _ => []) [5, 0, 1] (fun i => [(5, vI (i : Int))]) (fun _ => []) ?_ 0 ⟨Nat.zero_le _, fun j hj => absurd hj (Nat.not_lt_zero _)⟩
 rintro i ⟨hi, hI⟩ _ on1
 refine Md ((i : Int) < (s.n : Int)) (fun h1 => ?_) fun h1 => ?_
 rotate_left
 · exact Me0 (-1) (by rw [mIdx_none (p := (fun x : CSession => decide (x.client = t))) fun j hj => hI j (by omega)])
 refine Mi ?_ (pc (pI 14 (i : Int) i (rdk hs)) (pF 16 i 0 1 (rdk hs)))
 refine Md ((s.at i).client = t) (fun h2 => ?_) fun h2 => ?_
 · exact Me0 (i : Int) (by rw [mIdx_here (p := (fun x : CSession => decide (x.client = t))) (i := i) (by omega) (decide_eq_true (by assumption)) hI])
 refine Mi ?_ (pR ((i : Int) + 1))
 exact on1 (i + 1) ⟨by omega, fun j hj => by rcases Nat.lt_succ_iff_lt_or_eq.1 hj with h | h; exact hI j h; subst h; exact decide_eq_false (by assumption)⟩ (by omega)

theorem session_Keep_1 (x : DKept) (t : Int) (w : World) : Calls Try.prog 59 #[x.val, vi t] w fun e w' => e = .returned (vi (IntKind.i64.wrap (x.seq - t))) ∧ Kp [] w w' := by
 refine M0 ?_ Try.func59
 refine Mi ?_ (pG [(8, .val (vi (IntKind.i64.wrap (x.seq - t))))] (oc (sub_wrap : ∀ w, (do eqGuard .sub 3 (.tmp 6) (.tmp 7) (vi x.seq) (vi t); binOp .sub 3 (vi x.seq) (vi t) : Sem Value).run Try.prog w = .ok (vi (IntKind.i64.wrap (x.seq - t))) w) on))
 exact Mt [vi (IntKind.i64.wrap (x.seq - t))] fun bs w hS => ⟨rfl, hS.kp⟩

theorem bs_session_Keep_1 {B : Nat → Prop} (s : Sl DKept) (t : Int) (w : World) (hs : s.rd B w) (hn : s.n ≤ 1048576) : Calls Try.prog 58 #[s.val, vi t, .func (.func 59) #[] #[]] w fun e w' => e = .returned (.tuple #[vi (mBS (fun x : DKept => IntKind.i64.wrap (x.seq - t)) s.xs : Nat), vb (mBSf (fun x : DKept => IntKind.i64.wrap (x.seq - t)) s.xs)]) ∧ Kp [] w w' := by
 have oks := Sl.rd.ok hs
 have ncs := Sl.ok.nc oks
 have hns : s.n = s.xs.length := rfl
 refine Mj ?_ Try.func58 (WS.start w)
 refine Ml (σ := Nat × Nat × Nat) (fun ⟨i, j, f⟩ => i ≤ j ∧ j ≤ s.n ∧ j - i ≤ f ∧ mBS (fun x : DKept => IntKind.i64.wrap (x.seq - t)) s.xs = bsGo (fun j => decide (IntKind.i64.wrap ((s.at j).seq - t) < 0)) f i j) (fun ⟨i, j, f⟩ => f) (fun _ => []) [10, 9, 8, 0, 1, 2] (fun ⟨i, j, f⟩ => [(10, vI (j : Int)), (9, vI (i : Int))]) (fun _ => []) ?_ (⟨0, s.n, s.n⟩) ⟨Nat.zero_le _, Nat.le_refl _, Nat.le_refl _, rfl⟩
 rintro ⟨i, j, f⟩ ⟨h1, h2, h3, hI⟩ _ on1
 have hdiv : ((i : Int) + (j : Int)) / 2 = (((i + j) / 2 : Nat) : Int) := by omega
 refine Md ((i : Int) < (j : Int)) (fun h1 => ?_) fun h1 => ?_
 rotate_left
 · refine Md ((i : Int) < (s.n : Int)) (fun h3 => ?_) fun h3 => ?_
   rotate_left
   · refine Mt [vi (i : Int), vb false] fun bs w hS => ?_
     have hij : i = j := by omega
     subst hij
     have hr : mBS (fun x : DKept => IntKind.i64.wrap (x.seq - t)) s.xs = i := by rw [hI]; exact bsGo_end _ _ _ _ (Nat.le_refl _)
     refine ⟨?_, hS.kp⟩
     have hr2 : mBSf (fun x : DKept => IntKind.i64.wrap (x.seq - t)) s.xs = false := by
       unfold mBSf; rw [hr]
       rw [decide_eq_false (show ¬ i < s.xs.length by omega)]; rfl
     rw [hr, hr2]
     rfl
   refine Mi ?_ (pA 43 44 (i : Int) i (rdk hs))
   refine Mp ?_ Try.call59 (fun bs w hS => session_Keep_1 (s.at i) t w)
   refine Mt [vi (i : Int), vb (decide (IntKind.i64.wrap ((s.at i).seq - t) = 0))] fun bs w hS => ?_
   have hij : i = j := by omega
   subst hij
   have hr : mBS (fun x : DKept => IntKind.i64.wrap (x.seq - t)) s.xs = i := by rw [hI]; exact bsGo_end _ _ _ _ (Nat.le_refl _)
   refine ⟨?_, hS.kp⟩
   have hr2 : mBSf (fun x : DKept => IntKind.i64.wrap (x.seq - t)) s.xs = (decide (IntKind.i64.wrap ((s.at i).seq - t) = 0)) := by
     unfold mBSf; rw [hr]
     rw [decide_eq_true (show i < s.xs.length by omega)]; rfl
   rw [hr, hr2]
   rfl
 refine Mi ?_ (pc (pR ((i : Int) + (j : Int))) (pc (pG [(21, .val (.int .u64 ((i : Int) + (j : Int))))] (oc ((conv_i64_u64 Try.underlying3 Try.underlying138 (by omega) (by omega)) : ∀ w, (convert 3 138 (vi ((i : Int) + (j : Int))) : Sem Value).run Try.prog w = .ok (.int .u64 ((i : Int) + (j : Int))) w) on)) (pc (pG [(22, .val (.int .u64 (((i : Int) + (j : Int)) / 2)))] (oc (shr_u64 : ∀ w, (do eqGuard .shr 138 (.tmp 21) (.const (.int .u64 1)) (.int .u64 ((i : Int) + (j : Int))) (.int .u64 1); binOp .shr 138 (.int .u64 ((i : Int) + (j : Int))) (.int .u64 1) : Sem Value).run Try.prog w = .ok (.int .u64 (((i : Int) + (j : Int)) / 2)) w) on)) (pc (pG [(23, .val (vi (((i : Int) + (j : Int)) / 2)))] (oc ((conv_u64_i64 Try.underlying138 Try.underlying3 (by omega) (by omega)) : ∀ w, (convert 138 3 (.int .u64 (((i : Int) + (j : Int)) / 2)) : Sem Value).run Try.prog w = .ok (vi (((i : Int) + (j : Int)) / 2)) w) on)) (pA 27 28 (((i : Int) + (j : Int)) / 2) (((i : Int) + (j : Int)) / 2).toNat (rdk hs))))))
 refine Mp ?_ Try.call59 (fun bs w hS => session_Keep_1 (s.at (((i : Int) + (j : Int)) / 2).toNat) t w)
 refine Md (IntKind.i64.wrap ((s.at (((i : Int) + (j : Int)) / 2).toNat).seq - t) < 0) (fun h2 => ?_) fun h2 => ?_
 rotate_left
 · have hf1 : f = (f - 1) + 1 := by omega
   rw [hf1] at hI
   have hI2 := hI.trans (bsGo_down (by omega) (decide_eq_false (by assumption)))
   exact on1 ⟨i, (i + j) / 2, f - 1⟩ ⟨by omega, by omega, by omega, hI2⟩ (by show f - 1 < f; omega)
 refine Mi ?_ (pR ((((i : Int) + (j : Int)) / 2) + 1))
 have hf1 : f = (f - 1) + 1 := by omega
 rw [hf1] at hI
 have hI2 := hI.trans (bsGo_up (by omega) (decide_eq_true (by assumption)))
 exact on1 ⟨(i + j) / 2 + 1, j, f - 1⟩ ⟨by omega, by omega, by omega, hI2⟩ (by show f - 1 < f; omega)

theorem session_Keep {B : Nat → Prop} (s : Sl CSession) (n t q : Int) (r : DReply) (w : World) (hs : s.rd B w) (ht : inR t) (hq : inR q) (hr : r.text.size ≤ 9223372036854775807) : Calls Try.prog 20 #[s.val, vi n, vi t, vi q, r.val] w fun e w' => ∃ y : Sl CSession, e = .returned (.tuple #[y.val, vi (mKeep (s.xs.map CSession.abs) n t q r).2]) ∧ y.xs.map CSession.abs = (mKeep (s.xs.map CSession.abs) n t q r).1 ∧ FreshS w w' y := by
 have oks := Sl.rd.ok hs
 have ncs := Sl.ok.nc oks
 have hns : s.n = s.xs.length := rfl
 have hml : (s.xs.map CSession.abs).length = s.n := by simp
 refine M0 ?_ Try.func20
 refine Mp ?_ Try.call51 (fun bs w hS => session_Check s n w (Sl.rd.kp hs hS.kp))
 refine Mdn (mSess (s.xs.map CSession.abs) n = 0) (fun h1 => ?_) fun h1 => ?_
 rotate_left
 · have hm : mKeep (s.xs.map CSession.abs) n t q r = ([], mSess (s.xs.map CSession.abs) n) := by
     grind [mKeep, sIdx]
   exact Me2 hm Sl.nil rfl fun bs w hS => hS.outS (Sl.rd_nil _ _)
 obtain ⟨hi0, hi1, hln, hall⟩ := mSess_bd h1
 have hln2 : s.xs.length ≤ 4 := by simpa using hln
 refine Mf ?_ Try.call52 (fun bs w hS => session_Copy s w (Sl.rd.kp hs hS.kp) (small_sess (by assumption)))
 rintro y1 hF1
 refine m_split2 ?_
 obtain ⟨A1, c1, S1⟩ := y1
 have hF1 : S1.map CSession.abs = s.xs.map CSession.abs := hF1
 refine m_perm (R' := [ownL (keptR 86) S1, rowA 81 A1 c1 (S1 : List CSession)]) (List.Perm.refl _) ?_
 have hnm1 := sess_texts (y := (⟨A1, c1, S1⟩ : Sl CSession)) (hs) hF1
 have hlen1 : S1.length = s.xs.length := by simpa using congrArg List.length hF1
 refine m_know (F := ∀ i, i < S1.length → Rds.ok (S1.getD i default)) (fun bs w hS i hi => Rds.okof (B := anyB) (w := w) (own_elt (hS.res _ i0) hnm1 (mem_of_getD hi))) fun okown1 => ?_
 refine m_know (F := RowOk A1 c1 (S1 : List CSession)) (fun bs w hS => rowA_rok (hS.res _ i1)) fun hrow1 => ?_
 have nchrow1 := hrow1.2
 have hml1 : (S1.map CSession.abs).length = S1.length := by simp
 have hm1 : mSess (S1.map CSession.abs) n = 0 := by rw [hF1]; assumption
 refine Mp ?_ Try.call53 (fun bs w hS => session_find (⟨A1, c1, S1⟩ : Sl CSession) t w (own_sess (hS.res _ i0) (hS.res _ i1) hnm1) (show S1.length ≤ 1048576 by omega))
 have hbs := bsf_sess (L := S1) (index := n) (t := t) (by rw [hF1]; assumption) ht
 have hJb := mIdx_bd (fun x : DSession => decide (x.client = t)) (S1.map CSession.abs)
 generalize hJ : mIdx (fun x : DSession => decide (x.client = t)) (S1.map CSession.abs) = J at hbs hJb
 have hkl := mBS_le (fun x : CSession => IntKind.i64.wrap (x.client - t)) S1
 generalize hk : mBS (fun x : CSession => IntKind.i64.wrap (x.client - t)) S1 = k at hbs hkl ⊢
 generalize hf : mBSf (fun x : CSession => IntKind.i64.wrap (x.client - t)) S1 = fb at hbs ⊢
 refine Mbn fb (fun h2 => ?_) fun h2 => ?_
 rotate_left
 · have h0J := of_decide_eq_false (hbs.1.symm.trans h2)
   rw [← hF1]
   have hm : mKeep (S1.map CSession.abs) n t q r = ([], 11) := by
     grind [mKeep, sIdx]
   exact Me2 hm Sl.nil rfl fun bs w hS => hS.outS (Sl.rd_nil _ _)
 have hkJ := hbs.2 h2
 subst hkJ
 have hk5 := sess_all hm1 (k := k) (by omega)
 have hk6 : (S1.getD k default).replies.xs.length ≤ 4 := mReplies_len hk5.2.2.2.2
 have hk7 : (S1.getD k default).replies.n = (S1.getD k default).replies.xs.length := rfl
 refine Mi ?_ (pc (pIo 36 (k : Int) k S1.length i1) (pFo 41 k 4 1 i1))
 refine Mp ?_ Try.call58 (fun bs w hS => bs_session_Keep_1 (S1.getD k default).replies q w (own_elt (hS.res _ i0) hnm1 (mem_of_getD (i := k) (by omega))) (by show (Sl.xs _).length ≤ 1048576; omega))
 have hbk : mBSf (fun x : DKept => IntKind.i64.wrap (x.seq - q)) (S1.getD k default).replies.xs = decide (0 ≤ kIdx (S1.getD k default).replies.xs q) := bsf_kept (d := (S1.getD k default).abs) hk5.2.2.2.2 ⟨hk5.2.2.1, hk5.2.2.2.1⟩ hq
 rw [hbk]
 have hjl := mBS_le (fun x : DKept => IntKind.i64.wrap (x.seq - q)) (S1.getD k default).replies.xs
 generalize hj : mBS (fun x : DKept => IntKind.i64.wrap (x.seq - q)) (S1.getD k default).replies.xs = j at hjl ⊢
 refine Md (0 ≤ kIdx (S1.getD k default).replies.xs q) (fun h3 => ?_) fun h3 => ?_
 · refine Mt [vn, vi 7] fun bs w hS => ?_
   rw [← hF1]
   have hm : mKeep (S1.map CSession.abs) n t q r = ([], 7) := by
     unfold mKeep sIdx
     simp only [hJ, Int.toNat_natCast, sgetD, List.length_map]
     repeat (first | rw [if_pos (by first | assumption | omega)] | rw [if_neg (by first | assumption | omega | (intro h0; first | exact absurd h0 (by assumption) | (simp_all; done)))])
     all_goals rfl
   refine ⟨Sl.nil, ?_, ?_, hS.outS (Sl.rd_nil _ _)⟩
   · rw [hm] <;> rfl
   · rw [hm] <;> rfl
 have hkn : kIdx (S1.getD k default).replies.xs q < 0 := by omega
 refine m_part2 (rowA 86 (S1.getD k default).replies.A (S1.getD k default).replies.c ((S1.getD k default).replies.xs : List DKept)) (ownL (keptR 86) (List.eraseIdx S1 k)) (ownL_get_fp (keptR 86) (i := k) (by omega)) (fun w h => ownL_get_p (keptR 86) (i := k) (by omega) w h) ?_
 refine Mda 13 [] [] [ownL (keptR 86) (List.eraseIdx S1 k), rowA 81 A1 c1 (S1 : List CSession)] Try_mixed ?_ (hR := (.cons _ (List.Sublist.refl _)))
 refine Mih ?_ (pFo 51 k 4 1 i1) (hR := (.cons _ (List.Sublist.refl _)))
 refine M1 ?_ (hR := (.cons _ (List.Sublist.refl _)))
 refine Mtu ?_ Try.call60 (fun bs w hS => (insR_Kept (S1.getD k default).replies.A (S1.getD k default).replies.c (S1.getD k default).replies.xs j _ (⟨q, ⟨r.code, r.n, r.text⟩⟩ : DKept) (bs.getD 1 0) 86 w (hS.res _ i0) hS.head1.2.2 rfl (by omega) (by omega) (hS.loc 1 ⟨86, [vI q, vI r.code, vI r.n, vS r.text]⟩ (by kernel_rfl) (by simp)) (hS.ne_head (i := 1) (b := ⟨86, [vI q, vI r.code, vI r.n, vS r.text]⟩) (by kernel_rfl))).mono (fun e w' ⟨y, h1, h2⟩ => ⟨y, h1, trivial, h2⟩))
 rintro q3 _
 refine Mz ?_
 refine m_f2 ?_
 refine Ms k 4 (⟨(S1.getD k default).client, (S1.getD k default).id, (S1.getD k default).acked, (S1.getD k default).last, ⟨q3.1, q3.2, (S1.getD k default).replies.xs.take j ++ [(⟨q, ⟨r.code, r.n, r.text⟩⟩ : DKept)] ++ (S1.getD k default).replies.xs.drop j⟩⟩ : CSession) ?_ (by omega)
 intro L5 hL5 hlL5
 have hgL5 : L5.getD k default = (⟨(S1.getD k default).client, (S1.getD k default).id, (S1.getD k default).acked, (S1.getD k default).last, ⟨q3.1, q3.2, (S1.getD k default).replies.xs.take j ++ [(⟨q, ⟨r.code, r.n, r.text⟩⟩ : DKept)] ++ (S1.getD k default).replies.xs.drop j⟩⟩ : CSession) := by rw [hL5]; exact getD_set (by omega)
 have hbL5 : L5 = List.set S1 k (⟨(S1.getD k default).client, (S1.getD k default).id, (S1.getD k default).acked, (S1.getD k default).last, ⟨q3.1, q3.2, (S1.getD k default).replies.xs.take j ++ [(⟨q, ⟨r.code, r.n, r.text⟩⟩ : DKept)] ++ (S1.getD k default).replies.xs.drop j⟩⟩ : CSession) := by rw [hL5]
 refine Mi ?_ (pEk 62 k hgL5 i0)
 have hszk : ∀ z, z ∈ (S1.getD k default).replies.xs.take j ++ [(⟨q, ⟨r.code, r.n, r.text⟩⟩ : DKept)] ++ (S1.getD k default).replies.xs.drop j → z.reply.text.size ≤ 9223372036854775807 := fun z hz => by simp only [List.mem_append, List.mem_singleton] at hz; rcases hz with (hz | hz) | hz; exact hnm1 _ (mem_of_getD (L := S1) (i := k) (by omega)) z (List.mem_of_mem_take hz); subst hz; exact hr; exact hnm1 _ (mem_of_getD (L := S1) (i := k) (by omega)) z (List.mem_of_mem_drop hz)
 refine Mp ?_ (v := vb (mReplies (⟨(S1.getD k default).client, (S1.getD k default).id, (S1.getD k default).acked, (S1.getD k default).last, (S1.getD k default).replies.xs.take j ++ [(⟨q, ⟨r.code, r.n, r.text⟩⟩ : DKept)] ++ (S1.getD k default).replies.xs.drop j⟩ : DSession))) Try.call61 (fun bs w hS => session_replies (⟨(S1.getD k default).client, (S1.getD k default).id, (S1.getD k default).acked, (S1.getD k default).last, ⟨q3.1, q3.2, (S1.getD k default).replies.xs.take j ++ [(⟨q, ⟨r.code, r.n, r.text⟩⟩ : DKept)] ++ (S1.getD k default).replies.xs.drop j⟩⟩ : CSession) w (Rr (B := anyB) (hS.res _ i1) (fun _ _ => trivial) hszk) ⟨hk5.2.2.1, hk5.2.2.2.1⟩)
 have hmk := kept_ins (d := (S1.getD k default).abs) hk5.2.2.2.2 ⟨hk5.2.2.1, hk5.2.2.2.1⟩ r (by show mIdx _ _ < 0; exact hkn) hj
 have hmr : mReplies (⟨(S1.getD k default).client, (S1.getD k default).id, (S1.getD k default).acked, (S1.getD k default).last, (S1.getD k default).replies.xs.take j ++ [(⟨q, ⟨r.code, r.n, r.text⟩⟩ : DKept)] ++ (S1.getD k default).replies.xs.drop j⟩ : DSession) = mReplies (kIns (S1.getD k default).abs q r) := hmk.1
 rw [hmr]
 refine Mbn (mReplies (kIns (S1.getD k default).abs q r)) (fun h4 => ?_) fun h4 => ?_
 rotate_left
 · refine Mt [vn, vi 2] fun bs w hS => ?_
   rw [← hF1]
   have hm : mKeep (S1.map CSession.abs) n t q r = ([], 2) := by
     unfold mKeep sIdx
     simp only [hJ, Int.toNat_natCast, sgetD, List.length_map]
     repeat (first | rw [if_pos (by first | assumption | omega)] | rw [if_neg (by first | assumption | omega | (intro h0; first | exact absurd h0 (by assumption) | (simp_all; done)))])
     all_goals rfl
   refine ⟨Sl.nil, ?_, ?_, hS.outS (Sl.rd_nil _ _)⟩
   · rw [hm] <;> rfl
   · rw [hm] <;> rfl
 refine Mt [.slice A1 S1.length c1, vi 0] fun bs w hS => ?_
 rw [← hF1]
 have hvx := setS_map hbL5
 have hxe : ((⟨(S1.getD k default).client, (S1.getD k default).id, (S1.getD k default).acked, (S1.getD k default).last, ⟨q3.1, q3.2, (S1.getD k default).replies.xs.take j ++ [(⟨q, ⟨r.code, r.n, r.text⟩⟩ : DKept)] ++ (S1.getD k default).replies.xs.drop j⟩⟩ : CSession)).abs = kIns (S1.getD k default).abs q r := by exact congrArg (fun l => (⟨(S1.getD k default).client, (S1.getD k default).id, (S1.getD k default).acked, (S1.getD k default).last, l⟩ : DSession)) (hmk.2 (by assumption))
 rw [hxe] at hvx
 have hm : mKeep (S1.map CSession.abs) n t q r = ((S1.map CSession.abs).set k (kIns (S1.getD k default).abs q r), 0) := by
   unfold mKeep sIdx
   simp only [hJ, Int.toNat_natCast, sgetD, List.length_map]
   repeat (first | rw [if_pos (by first | assumption | omega)] | rw [if_neg (by first | assumption | omega | (intro h0; first | exact absurd h0 (by assumption) | (simp_all; done)))])
   all_goals rfl
 refine ⟨⟨A1, c1, L5⟩, ?_, ?_, hS.outS (y := (⟨A1, c1, L5⟩ : Sl CSession)) (out_sessG i0 hS.res (fun x hx => ?_))⟩
 · have hll : S1.length = L5.length := by rw [hbL5, List.length_set]
   rw [hm]
   exact congrArg (fun q => Ending.returned (.tuple #[.slice A1 q c1, vi 0])) hll
 · exact Eq.trans hvx (congrArg Prod.fst hm).symm
 · rw [hbL5] at hx
   rcases mem_set_ne hx with hx | hx
   · subst hx; exact allR_row i1 (hS.res _ i1) hszk
   · exact own_in i2 hS.res (fun z hz => hnm1 z (List.mem_of_mem_eraseIdx hz)) hx

theorem ref_KeptOf {B : Nat → Prop} (s : Sl CSession) (n t q : Int) (r : DReply) (w : World) (hs : s.rd B w) (ht : inR t) (hq : inR q) (hr : r.text.size ≤ 9223372036854775807) : Calls Try.prog 21 #[s.val, vi n, vi t, vi q, r.val] w fun e w' => ∃ y : Sl CSession, e = .returned (.tuple #[y.val, vi (mKeep (s.xs.map CSession.abs) n t q r).2]) ∧ y.xs.map CSession.abs = (mKeep (s.xs.map CSession.abs) n t q r).1 ∧ FreshS w w' y := by
 have oks := Sl.rd.ok hs
 have ncs := Sl.ok.nc oks
 have hns : s.n = s.xs.length := rfl
 have hml : (s.xs.map CSession.abs).length = s.n := by simp
 refine M0 ?_ Try.func21
 refine Mp ?_ Try.call55 (fun bs w hS => ref_SessionsFault s n w (Sl.rd.kp hs hS.kp))
 refine Mdn (mSess (s.xs.map CSession.abs) n = 0) (fun h1 => ?_) fun h1 => ?_
 rotate_left
 · have hm : mKeep (s.xs.map CSession.abs) n t q r = ([], mSess (s.xs.map CSession.abs) n) := by
     grind [mKeep, sIdx]
   exact Me2 hm Sl.nil rfl fun bs w hS => hS.outS (Sl.rd_nil _ _)
 obtain ⟨hi0, hi1, hln, hall⟩ := mSess_bd h1
 have hln2 : s.xs.length ≤ 4 := by simpa using hln
 refine Mf ?_ Try.call50 (fun bs w hS => ref_SessionsCopy s w (Sl.rd.kp hs hS.kp) (small_sess (by assumption)))
 rintro y1 hF1
 refine m_split2 ?_
 obtain ⟨A1, c1, S1⟩ := y1
 have hF1 : S1.map CSession.abs = s.xs.map CSession.abs := hF1
 refine m_perm (R' := [ownL (keptR 86) S1, rowA 81 A1 c1 (S1 : List CSession)]) (List.Perm.refl _) ?_
 have hnm1 := sess_texts (y := (⟨A1, c1, S1⟩ : Sl CSession)) (hs) hF1
 have hlen1 : S1.length = s.xs.length := by simpa using congrArg List.length hF1
 refine m_know (F := ∀ i, i < S1.length → Rds.ok (S1.getD i default)) (fun bs w hS i hi => Rds.okof (B := anyB) (w := w) (own_elt (hS.res _ i0) hnm1 (mem_of_getD hi))) fun okown1 => ?_
 refine m_know (F := RowOk A1 c1 (S1 : List CSession)) (fun bs w hS => rowA_rok (hS.res _ i1)) fun hrow1 => ?_
 have nchrow1 := hrow1.2
 have hml1 : (S1.map CSession.abs).length = S1.length := by simp
 have hm1 : mSess (S1.map CSession.abs) n = 0 := by rw [hF1]; assumption
 refine Mp ?_ Try.call57 (fun bs w hS => tackroomref_sessionAt (⟨A1, c1, S1⟩ : Sl CSession) t w (own_sess (hS.res _ i0) (hS.res _ i1) hnm1))
 have hJe : mIdx (fun x : CSession => decide (x.client = t)) S1 = mIdx (fun x : DSession => decide (x.client = t)) (S1.map CSession.abs) := mIdx_map CSession.abs (fun x : DSession => decide (x.client = t)) S1
 rw [hJe]
 have hJb := mIdx_bd (fun x : DSession => decide (x.client = t)) (S1.map CSession.abs)
 generalize hJ : mIdx (fun x : DSession => decide (x.client = t)) (S1.map CSession.abs) = J at hJb ⊢
 rw [List.length_map] at hJb
 refine Md (J < 0) (fun h2 => ?_) fun h2 => ?_
 · have h0J : ¬ 0 ≤ J := by omega
   rw [← hF1]
   have hm : mKeep (S1.map CSession.abs) n t q r = ([], 11) := by
     grind [mKeep, sIdx]
   exact Me2 hm Sl.nil rfl fun bs w hS => hS.outS (Sl.rd_nil _ _)
 have h0J : 0 ≤ J := by omega
 have hk5 := sess_all hm1 (k := J.toNat) (by omega)
 have hk6 : (S1.getD J.toNat default).replies.xs.length ≤ 4 := mReplies_len hk5.2.2.2.2
 have hk7 : (S1.getD J.toNat default).replies.n = (S1.getD J.toNat default).replies.xs.length := rfl
 refine m_rowA (α := DKept) 86 ?_
 refine Ml (σ := Nat × Bool × Option Addr × Nat × List DKept) (fun ⟨k, b, A, c, L⟩ => InsI (fun k : DKept => decide (q < k.seq)) (⟨q, r⟩ : DKept) (S1.getD J.toNat default).replies.xs k b L ∧ ∀ j, j < k → ¬ ((S1.getD J.toNat default).replies.xs.getD j default).seq = q) (fun ⟨k, b, A, c, L⟩ => (S1.getD J.toNat default).replies.xs.length - k) (fun ⟨k, b, A, c, L⟩ => [rowA 86 A c (L : List DKept), ownL (keptR 86) S1, rowA 81 A1 c1 (S1 : List CSession)]) [17, 16, 15, 14, 13, 9, 3] (fun ⟨k, b, A, c, L⟩ => [(17, vI (k : Int)), (16, vB b), (15, .v (.slice A L.length c))]) (fun _ => []) ?_ (⟨0, false, none, 0, []⟩) ⟨(show InsI (fun k : DKept => decide (q < k.seq)) (⟨q, r⟩ : DKept) (S1.getD J.toNat default).replies.xs 0 false [] from InsI.start _ _ _), fun j hj => absurd hj (Nat.not_lt_zero _)⟩
 rintro ⟨k, b, A, c, L⟩ ⟨hI, hX⟩ _ on1
 have hIl := hI.len
 have hIk := hI.le
 refine Mi ?_ (pc (pIo 35 J J.toNat S1.length i2) (pFo 37 J.toNat 4 1 i2))
 refine Md ((k : Int) < (((S1.getD J.toNat default).replies.n : Nat) : Int)) (fun h3 => ?_) fun h3 => ?_
 · refine Mi ?_ (pc (pIo 44 J J.toNat S1.length i2) (pc (pFo 46 J.toNat 4 1 i2) (pA 48 49 (k : Int) k (s := (S1.getD J.toNat default).replies) (fun w hk hr => (own_elt (hr _ i1) hnm1 (mem_of_getD (i := J.toNat) (by omega)))))))
   refine Md (((S1.getD J.toNat default).replies.at k).seq = q) (fun h4 => ?_) fun h4 => ?_
   · refine Mt [vn, vi 7] fun bs w hS => ?_
     clear on1
     rw [← hF1]
     have hx7 : 0 ≤ kIdx (S1.getD J.toNat default).replies.xs q := by have h9 := mIdx_nonneg (fun k : DKept => decide (k.seq = q)) (S1.getD J.toNat default).replies.xs; rw [List.any_eq_true.2 ⟨_, mem_of_getD (L := (S1.getD J.toNat default).replies.xs) (i := k) (by have h8 : (S1.getD J.toNat default).replies.n = (S1.getD J.toNat default).replies.xs.length := rfl; omega), decide_eq_true (by assumption)⟩] at h9; exact of_decide_eq_true h9
     have hm : mKeep (S1.map CSession.abs) n t q r = ([], 7) := by
       unfold mKeep sIdx
       simp only [hJ, sgetD, List.length_map]
       repeat (first | rw [if_pos (by first | assumption | omega)] | rw [if_neg (by first | assumption | omega | (intro h0; first | exact absurd h0 (by assumption) | (simp_all; done)))])
       all_goals rfl
     refine ⟨Sl.nil, ?_, ?_, hS.outS (Sl.rd_nil _ _)⟩
     · rw [hm] <;> rfl
     · rw [hm] <;> rfl
   refine Mbx b true [(16, false)] (fun h5 => ?_) fun h5 => ?_
   · refine M1 ?_
     refine Mal (α := DKept) 40 ([(⟨((S1.getD J.toNat default).replies.at k).seq, ⟨((S1.getD J.toNat default).replies.at k).reply.code, ((S1.getD J.toNat default).replies.at k).reply.n, ((S1.getD J.toNat default).replies.at k).reply.text⟩⟩ : DKept)]) ?_
     intro A3 c3
     refine Mi ?_ (pR ((k : Int) + 1))
     exact on1 ⟨k + 1, true, A3, c3, L ++ [(⟨((S1.getD J.toNat default).replies.at k).seq, ⟨((S1.getD J.toNat default).replies.at k).reply.code, ((S1.getD J.toNat default).replies.at k).reply.n, ((S1.getD J.toNat default).replies.at k).reply.text⟩⟩ : DKept)]⟩ ⟨(by first | exact hI.more (by assumption) (by omega) | exact hI.hit (by assumption) (by omega) (decide_eq_true (by assumption)) | exact hI.skip (by assumption) (by omega) (decide_eq_false (by assumption))), fun j hj => by rcases Nat.lt_succ_iff_lt_or_eq.1 hj with h | h; exact hX j h; subst h; assumption⟩ (by show (S1.getD J.toNat default).replies.xs.length - (k + 1) < (S1.getD J.toNat default).replies.xs.length - k; omega)
   refine Md (q < ((S1.getD J.toNat default).replies.at k).seq) (fun h6 => ?_) fun h6 => ?_
   rotate_left
   · refine M1 ?_
     refine Mal (α := DKept) 40 ([(⟨((S1.getD J.toNat default).replies.at k).seq, ⟨((S1.getD J.toNat default).replies.at k).reply.code, ((S1.getD J.toNat default).replies.at k).reply.n, ((S1.getD J.toNat default).replies.at k).reply.text⟩⟩ : DKept)]) ?_
     intro A6 c6
     refine Mi ?_ (pR ((k : Int) + 1))
     exact on1 ⟨k + 1, false, A6, c6, L ++ [(⟨((S1.getD J.toNat default).replies.at k).seq, ⟨((S1.getD J.toNat default).replies.at k).reply.code, ((S1.getD J.toNat default).replies.at k).reply.n, ((S1.getD J.toNat default).replies.at k).reply.text⟩⟩ : DKept)]⟩ ⟨(by first | exact hI.more (by assumption) (by omega) | exact hI.hit (by assumption) (by omega) (decide_eq_true (by assumption)) | exact hI.skip (by assumption) (by omega) (decide_eq_false (by assumption))), fun j hj => by rcases Nat.lt_succ_iff_lt_or_eq.1 hj with h | h; exact hX j h; subst h; assumption⟩ (by show (S1.getD J.toNat default).replies.xs.length - (k + 1) < (S1.getD J.toNat default).replies.xs.length - k; omega)
   refine M1 ?_
   refine Mal (α := DKept) 40 ([(⟨q, ⟨r.code, r.n, r.text⟩⟩ : DKept)]) ?_
   intro A4 c4
   refine M1 ?_
   refine Mal (α := DKept) 40 ([(⟨((S1.getD J.toNat default).replies.at k).seq, ⟨((S1.getD J.toNat default).replies.at k).reply.code, ((S1.getD J.toNat default).replies.at k).reply.n, ((S1.getD J.toNat default).replies.at k).reply.text⟩⟩ : DKept)]) ?_
   intro A5 c5
   refine Mi ?_ (pR ((k : Int) + 1))
   exact on1 ⟨k + 1, true, A5, c5, L ++ [(⟨q, ⟨r.code, r.n, r.text⟩⟩ : DKept)] ++ [(⟨((S1.getD J.toNat default).replies.at k).seq, ⟨((S1.getD J.toNat default).replies.at k).reply.code, ((S1.getD J.toNat default).replies.at k).reply.n, ((S1.getD J.toNat default).replies.at k).reply.text⟩⟩ : DKept)]⟩ ⟨(by first | exact hI.more (by assumption) (by omega) | exact hI.hit (by assumption) (by omega) (decide_eq_true (by assumption)) | exact hI.skip (by assumption) (by omega) (decide_eq_false (by assumption))), fun j hj => by rcases Nat.lt_succ_iff_lt_or_eq.1 hj with h | h; exact hX j h; subst h; assumption⟩ (by show (S1.getD J.toNat default).replies.xs.length - (k + 1) < (S1.getD J.toNat default).replies.xs.length - k; omega)
 refine Mbn b (fun h7 => ?_) fun h7 => ?_
 · refine Mi ?_ (pIo 83 J J.toNat S1.length i2)
   refine m_f2 ?_
   refine Ms J.toNat 4 (⟨(S1.getD J.toNat default).client, (S1.getD J.toNat default).id, (S1.getD J.toNat default).acked, (S1.getD J.toNat default).last, ⟨A, c, L⟩⟩ : CSession) ?_ (by omega)
   intro L7 hL7 hlL7
   have hgL7 : L7.getD J.toNat default = (⟨(S1.getD J.toNat default).client, (S1.getD J.toNat default).id, (S1.getD J.toNat default).acked, (S1.getD J.toNat default).last, ⟨A, c, L⟩⟩ : CSession) := by rw [hL7]; exact getD_set (by omega)
   have hbL7 : L7 = List.set S1 J.toNat (⟨(S1.getD J.toNat default).client, (S1.getD J.toNat default).id, (S1.getD J.toNat default).acked, (S1.getD J.toNat default).last, ⟨A, c, L⟩⟩ : CSession) := by rw [hL7]
   refine Mi ?_ (pc (pIo 87 J J.toNat S1.length i0) (pEk 88 J.toNat hgL7 i0))
   have hvk : L = mIns (fun k : DKept => decide (q < k.seq)) ⟨q, r⟩ (S1.getD J.toNat default).replies.xs := (hI.fin1 (by assumption) (by omega))
   have hszk : ∀ z, z ∈ L → z.reply.text.size ≤ 9223372036854775807 := fun z hz => by rcases ins_mem (hvk ▸ hz) with hz | hz; subst hz; exact hr; exact hnm1 _ (mem_of_getD (L := S1) (i := J.toNat) (by omega)) z hz
   refine Mp ?_ (v := vb (mReplies (⟨(S1.getD J.toNat default).client, (S1.getD J.toNat default).id, (S1.getD J.toNat default).acked, (S1.getD J.toNat default).last, L⟩ : DSession))) Try.call62 (fun bs w hS => ref_repliesMay (⟨(S1.getD J.toNat default).client, (S1.getD J.toNat default).id, (S1.getD J.toNat default).acked, (S1.getD J.toNat default).last, ⟨A, c, L⟩⟩ : CSession) w (Rr (B := anyB) (hS.res _ i1) (fun _ _ => trivial) hszk) ⟨hk5.2.2.1, hk5.2.2.2.1⟩)
   have hmr : mReplies (⟨(S1.getD J.toNat default).client, (S1.getD J.toNat default).id, (S1.getD J.toNat default).acked, (S1.getD J.toNat default).last, L⟩ : DSession) = mReplies (kIns (S1.getD J.toNat default).abs q r) := by rw [hvk]; rfl
   rw [hmr]
   refine Mbn (mReplies (kIns (S1.getD J.toNat default).abs q r)) (fun h8 => ?_) fun h8 => ?_
   rotate_left
   · refine Mt [vn, vi 2] fun bs w hS => ?_
     clear on1
     rw [← hF1]
     have hkn : ¬ 0 ≤ kIdx (S1.getD J.toNat default).replies.xs q := by unfold kIdx; rw [mIdxL_none (L := (S1.getD J.toNat default).replies.xs) (p := fun k : DKept => decide (k.seq = q)) fun j hj => decide_eq_false (hX j (by omega))]; omega
     have hm : mKeep (S1.map CSession.abs) n t q r = ([], 2) := by
       unfold mKeep sIdx
       simp only [hJ, sgetD, List.length_map]
       repeat (first | rw [if_pos (by first | assumption | omega)] | rw [if_neg (by first | assumption | omega | (intro h0; first | exact absurd h0 (by assumption) | (simp_all; done)))])
       all_goals rfl
     refine ⟨Sl.nil, ?_, ?_, hS.outS (Sl.rd_nil _ _)⟩
     · rw [hm] <;> rfl
     · rw [hm] <;> rfl
   refine Mt [.slice A1 S1.length c1, vi 0] fun bs w hS => ?_
   clear on1
   rw [← hF1]
   have hkn : ¬ 0 ≤ kIdx (S1.getD J.toNat default).replies.xs q := by unfold kIdx; rw [mIdxL_none (L := (S1.getD J.toNat default).replies.xs) (p := fun k : DKept => decide (k.seq = q)) fun j hj => decide_eq_false (hX j (by omega))]; omega
   have hvx := setS_map hbL7
   have hxe : ((⟨(S1.getD J.toNat default).client, (S1.getD J.toNat default).id, (S1.getD J.toNat default).acked, (S1.getD J.toNat default).last, ⟨A, c, L⟩⟩ : CSession)).abs = kIns (S1.getD J.toNat default).abs q r := by exact congrArg (fun l => (⟨(S1.getD J.toNat default).client, (S1.getD J.toNat default).id, (S1.getD J.toNat default).acked, (S1.getD J.toNat default).last, l⟩ : DSession)) hvk
   rw [hxe] at hvx
   have hm : mKeep (S1.map CSession.abs) n t q r = ((S1.map CSession.abs).set J.toNat (kIns (S1.getD J.toNat default).abs q r), 0) := by
     unfold mKeep sIdx
     simp only [hJ, sgetD, List.length_map]
     repeat (first | rw [if_pos (by first | assumption | omega)] | rw [if_neg (by first | assumption | omega | (intro h0; first | exact absurd h0 (by assumption) | (simp_all; done)))])
     all_goals rfl
   refine ⟨⟨A1, c1, L7⟩, ?_, ?_, hS.outS (y := (⟨A1, c1, L7⟩ : Sl CSession)) (out_sessG i0 hS.res (fun x hx => ?_))⟩
   · have hll : S1.length = L7.length := by rw [hbL7, List.length_set]
     rw [hm]
     exact congrArg (fun q => Ending.returned (.tuple #[.slice A1 q c1, vi 0])) hll
   · exact Eq.trans hvx (congrArg Prod.fst hm).symm
   · rw [hbL7] at hx
     rcases mem_set hx with hx | hx
     · subst hx; exact allR_row i1 (hS.res _ i1) hszk
     · exact own_in i2 hS.res hnm1 hx
 refine M1 ?_
 refine Mal (α := DKept) 40 ([(⟨q, ⟨r.code, r.n, r.text⟩⟩ : DKept)]) ?_
 intro A8 c8
 refine Mi ?_ (pIo 83 J J.toNat S1.length i2)
 refine m_f2 ?_
 refine Ms J.toNat 4 (⟨(S1.getD J.toNat default).client, (S1.getD J.toNat default).id, (S1.getD J.toNat default).acked, (S1.getD J.toNat default).last, ⟨A8, c8, L ++ [(⟨q, ⟨r.code, r.n, r.text⟩⟩ : DKept)]⟩⟩ : CSession) ?_ (by omega)
 intro L9 hL9 hlL9
 have hgL9 : L9.getD J.toNat default = (⟨(S1.getD J.toNat default).client, (S1.getD J.toNat default).id, (S1.getD J.toNat default).acked, (S1.getD J.toNat default).last, ⟨A8, c8, L ++ [(⟨q, ⟨r.code, r.n, r.text⟩⟩ : DKept)]⟩⟩ : CSession) := by rw [hL9]; exact getD_set (by omega)
 have hbL9 : L9 = List.set S1 J.toNat (⟨(S1.getD J.toNat default).client, (S1.getD J.toNat default).id, (S1.getD J.toNat default).acked, (S1.getD J.toNat default).last, ⟨A8, c8, L ++ [(⟨q, ⟨r.code, r.n, r.text⟩⟩ : DKept)]⟩⟩ : CSession) := by rw [hL9]
 refine Mi ?_ (pc (pIo 87 J J.toNat S1.length i0) (pEk 88 J.toNat hgL9 i0))
 have hvk : L ++ [(⟨q, ⟨r.code, r.n, r.text⟩⟩ : DKept)] = mIns (fun k : DKept => decide (q < k.seq)) ⟨q, r⟩ (S1.getD J.toNat default).replies.xs := (hI.fin0 (by assumption) (by omega))
 have hszk : ∀ z, z ∈ L ++ [(⟨q, ⟨r.code, r.n, r.text⟩⟩ : DKept)] → z.reply.text.size ≤ 9223372036854775807 := fun z hz => by rcases ins_mem (hvk ▸ hz) with hz | hz; subst hz; exact hr; exact hnm1 _ (mem_of_getD (L := S1) (i := J.toNat) (by omega)) z hz
 refine Mp ?_ (v := vb (mReplies (⟨(S1.getD J.toNat default).client, (S1.getD J.toNat default).id, (S1.getD J.toNat default).acked, (S1.getD J.toNat default).last, L ++ [(⟨q, ⟨r.code, r.n, r.text⟩⟩ : DKept)]⟩ : DSession))) Try.call62 (fun bs w hS => ref_repliesMay (⟨(S1.getD J.toNat default).client, (S1.getD J.toNat default).id, (S1.getD J.toNat default).acked, (S1.getD J.toNat default).last, ⟨A8, c8, L ++ [(⟨q, ⟨r.code, r.n, r.text⟩⟩ : DKept)]⟩⟩ : CSession) w (Rr (B := anyB) (hS.res _ i1) (fun _ _ => trivial) hszk) ⟨hk5.2.2.1, hk5.2.2.2.1⟩)
 have hmr : mReplies (⟨(S1.getD J.toNat default).client, (S1.getD J.toNat default).id, (S1.getD J.toNat default).acked, (S1.getD J.toNat default).last, L ++ [(⟨q, ⟨r.code, r.n, r.text⟩⟩ : DKept)]⟩ : DSession) = mReplies (kIns (S1.getD J.toNat default).abs q r) := by rw [hvk]; rfl
 rw [hmr]
 refine Mbn (mReplies (kIns (S1.getD J.toNat default).abs q r)) (fun h9 => ?_) fun h9 => ?_
 rotate_left
 · refine Mt [vn, vi 2] fun bs w hS => ?_
   clear on1
   rw [← hF1]
   have hkn : ¬ 0 ≤ kIdx (S1.getD J.toNat default).replies.xs q := by unfold kIdx; rw [mIdxL_none (L := (S1.getD J.toNat default).replies.xs) (p := fun k : DKept => decide (k.seq = q)) fun j hj => decide_eq_false (hX j (by omega))]; omega
   have hm : mKeep (S1.map CSession.abs) n t q r = ([], 2) := by
     unfold mKeep sIdx
     simp only [hJ, sgetD, List.length_map]
     repeat (first | rw [if_pos (by first | assumption | omega)] | rw [if_neg (by first | assumption | omega | (intro h0; first | exact absurd h0 (by assumption) | (simp_all; done)))])
     all_goals rfl
   refine ⟨Sl.nil, ?_, ?_, hS.outS (Sl.rd_nil _ _)⟩
   · rw [hm] <;> rfl
   · rw [hm] <;> rfl
 refine Mt [.slice A1 S1.length c1, vi 0] fun bs w hS => ?_
 clear on1
 rw [← hF1]
 have hkn : ¬ 0 ≤ kIdx (S1.getD J.toNat default).replies.xs q := by unfold kIdx; rw [mIdxL_none (L := (S1.getD J.toNat default).replies.xs) (p := fun k : DKept => decide (k.seq = q)) fun j hj => decide_eq_false (hX j (by omega))]; omega
 have hvx := setS_map hbL9
 have hxe : ((⟨(S1.getD J.toNat default).client, (S1.getD J.toNat default).id, (S1.getD J.toNat default).acked, (S1.getD J.toNat default).last, ⟨A8, c8, L ++ [(⟨q, ⟨r.code, r.n, r.text⟩⟩ : DKept)]⟩⟩ : CSession)).abs = kIns (S1.getD J.toNat default).abs q r := by exact congrArg (fun l => (⟨(S1.getD J.toNat default).client, (S1.getD J.toNat default).id, (S1.getD J.toNat default).acked, (S1.getD J.toNat default).last, l⟩ : DSession)) hvk
 rw [hxe] at hvx
 have hm : mKeep (S1.map CSession.abs) n t q r = ((S1.map CSession.abs).set J.toNat (kIns (S1.getD J.toNat default).abs q r), 0) := by
   unfold mKeep sIdx
   simp only [hJ, sgetD, List.length_map]
   repeat (first | rw [if_pos (by first | assumption | omega)] | rw [if_neg (by first | assumption | omega | (intro h0; first | exact absurd h0 (by assumption) | (simp_all; done)))])
   all_goals rfl
 refine ⟨⟨A1, c1, L9⟩, ?_, ?_, hS.outS (y := (⟨A1, c1, L9⟩ : Sl CSession)) (out_sessG i0 hS.res (fun x hx => ?_))⟩
 · have hll : S1.length = L9.length := by rw [hbL9, List.length_set]
   rw [hm]
   exact congrArg (fun q => Ending.returned (.tuple #[.slice A1 q c1, vi 0])) hll
 · exact Eq.trans hvx (congrArg Prod.fst hm).symm
 · rw [hbL9] at hx
   rcases mem_set hx with hx | hx
   · subst hx; exact allR_row i1 (hS.res _ i1) hszk
   · exact own_in i2 hS.res hnm1 hx

theorem law_SessionKeeps {B : Nat → Prop} (s : Sl CSession) (n t q : Int) (r : DReply) (w : World) (hs : s.rd B w) (hr : r.text.size ≤ 9223372036854775807) (hsm : Rds.small s) (ht : inR t) (hq : inR q) : Calls Try.prog 5 #[s.val, vi n, vi t, vi q, r.val] w fun e w' => e = .returned (vb true) ∧ Kp [] w w' := by
 have oks := Sl.rd.ok hs
 have ncs := Sl.ok.nc oks
 have hns : s.n = s.xs.length := rfl
 refine M0 ?_ Try.func5
 refine Mu ?_ Try.call16 (fun bs w hS => law_kept s w (Sl.rd.kp hs hS.kp) hsm)
 rintro fp1 y1 hF1 hok1
 refine Mu ?_ Try.call20 (fun bs w hS => session_Keep y1 n t q r w (hS.res _ i0) ht hq (by first | assumption | omega | (simp only [emp_size]; omega)))
 rintro fp2 y2 hF2 hok2
 refine Mu ?_ Try.call21 (fun bs w hS => ref_KeptOf s n t q r w (Sl.rd.kp hs hS.kp) ht hq (by first | assumption | omega | (simp only [emp_size]; omega)))
 rintro fp3 y3 hF3 hok3
 refine Md ((mKeep (y1.xs.map CSession.abs) n t q r).2 = (mKeep (s.xs.map CSession.abs) n t q r).2) (fun h1 => ?_) fun h1 => ?_
 rotate_left
 · exfalso; first | (simp at h1; done) | (rw [hF1] at h1; simp at h1; done)
 refine Mp ?_ Try.call19 (fun bs w hS => same_sessions _ _ w (hS.res _ i1) (hS.res _ i0) (by rw [hF2, hF3, hF1]))
 refine Mq 44 true ?_ rfl
 refine Mp ?_ Try.call19 (fun bs w hS => same_sessions _ _ w (hS.res _ i2) (Sl.rd.kp hs hS.kp) hF1)
 exact Meb true (by simp [retOf, den])

end Go.Proofs.Ytakdjdfkdbofoab.W
