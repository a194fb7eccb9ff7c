/-
  The functions that the law SessionFresh reaches, walked: each returns what its model says.
  Conditions: those that each theorem states.
-/
import Derived.Test.YtakdjdfkdbofoaaFe
import Derived.Test.YtakdjdfkdbofoaaChecked
set_option linter.unusedVariables false
set_option linter.unusedSimpArgs false
set_option maxRecDepth 100000
set_option maxHeartbeats 2000000
namespace Go.Proofs.Ytakdjdfkdbofoaa.W
open Go.Proofs.Ytakdjdfkdbofoaa.Fw Go.RowKit
attribute [local irreducible] JM nx

theorem Try_mixed : Try.prog.follows .mixedOrders = true := by kernel_rfl
theorem laid : laidOutB Try.prog = true := by kernel_rfl

theorem ref_In (n lo hi : Int) (w : World) : Calls Try.prog 64 #[vi n, vi lo, vi hi] w fun e w' => e = .returned (vb (inB n lo hi)) ∧ Kp [] w w' := by
 refine M0 ?_ Try.func64
 refine Md (lo ≤ n) (fun h1 => ?_) fun h1 => ?_
 rotate_left
 · exact Mt [vb false] fun bs w hS => ⟨by simp [retOf, den, inB, h1], hS.kp⟩
 exact Mt [vb (decide (n ≤ hi))] fun bs w hS => ⟨by simp [retOf, den, inB, h1], hS.kp⟩

theorem session_replies {B : Nat → Prop} (x : CSession) (w : World) (hx : Rds.sub B w x) (hb : 0 ≤ x.acked ∧ x.acked ≤ 1048576) : Calls Try.prog 80 #[x.val] w fun e w' => e = .returned (vb (mReplies x.abs)) ∧ Kp [] w w' := by
 have okx := Rds.okof hx
 have ncx := Sl.ok.nc okx
 have hns : x.replies.n = x.replies.xs.length := rfl
 have hat : ∀ q, x.abs.replies.getD q default = x.replies.at q := fun _ => rfl
 have hac : x.abs.acked = x.acked := rfl
 have hln : x.abs.replies.length = x.replies.n := rfl
 refine M0 ?_ Try.func80
 refine Ml (σ := Nat) (fun i => i ≤ x.replies.n ∧ allTo (keptOk x.abs) i = true) (fun i => x.replies.n - i) (fun _ => []) [9, 8, 7, 1] (fun i => [(9, vI (i : Int))]) (fun _ => []) ?_ 0 ⟨Nat.zero_le _, rfl⟩
 rintro i ⟨hi, hI⟩ _ on1
 refine Md ((i : Int) < (x.replies.n : Int)) (fun h1 => ?_) fun h1 => ?_
 rotate_left
 · have hm : mReplies x.abs = true := by show allTo _ x.abs.replies.length = true; rw [hln, show x.replies.n = i by omega]; exact hI
   exact Meb true hm
 refine Mi ?_ (pA 12 13 (i : Int) i (s := x.replies) (fun w hk hr => (Rds.kp hx hk)))
 refine Mda 29 [] [] [] Try_mixed ?_
 refine Md ((x.replies.at i).seq ≤ x.acked) (fun h2 => ?_) fun h2 => ?_
 · have hm : mReplies x.abs = false := allTo_bad (j := i) (decide_eq_false (fun hk => by simp only [hat, hac] at hk; omega)) (show i < x.abs.replies.length by rw [hln]; omega)
   exact Meb false hm
 refine Mih ?_ (pR (x.acked + 4))
 refine Md (x.acked + 4 < (x.replies.at i).seq) (fun h3 => ?_) fun h3 => ?_
 · have hm : mReplies x.abs = false := allTo_bad (j := i) (decide_eq_false (fun hk => by simp only [hat, hac] at hk; omega)) (show i < x.abs.replies.length by rw [hln]; omega)
   exact Meb false hm
 refine Md ((0 : Int) < (i : Int)) (fun h4 => ?_) fun h4 => ?_
 rotate_left
 · refine Md ((x.replies.at i).reply.code < 0) (fun h11 => ?_) fun h11 => ?_
   · have hm : mReplies x.abs = false := allTo_bad (j := i) (decide_eq_false (fun hk => by simp only [hat, hac] at hk; omega)) (show i < x.abs.replies.length by rw [hln]; omega)
     exact Meb false hm
   refine Md ((15 : Int) < (x.replies.at i).reply.code) (fun h12 => ?_) fun h12 => ?_
   · have hm : mReplies x.abs = false := allTo_bad (j := i) (decide_eq_false (fun hk => by simp only [hat, hac] at hk; omega)) (show i < x.abs.replies.length by rw [hln]; omega)
     exact Meb false hm
   refine Md ((x.replies.at i).reply.n < 0) (fun h13 => ?_) fun h13 => ?_
   · have hm : mReplies x.abs = false := allTo_bad (j := i) (decide_eq_false (fun hk => by simp only [hat, hac] at hk; omega)) (show i < x.abs.replies.length by rw [hln]; omega)
     exact Meb false hm
   refine Md ((1073741824 : Int) < (x.replies.at i).reply.n) (fun h14 => ?_) fun h14 => ?_
   · have hm : mReplies x.abs = false := allTo_bad (j := i) (decide_eq_false (fun hk => by simp only [hat, hac] at hk; omega)) (show i < x.abs.replies.length by rw [hln]; omega)
     exact Meb false hm
   refine Md ((12 : Int) < ((x.replies.at i).reply.text.size : Int)) (fun h15 => ?_) fun h15 => ?_
   rotate_left
   · refine Mi ?_ (pR ((i : Int) + 1))
     exact on1 (i + 1) ⟨by omega, allTo_step hI (decide_eq_true (by simp only [hat, hac]; exact ⟨by omega, by omega, by omega, by omega, by omega, by omega, by omega, by omega⟩))⟩ (by omega)
   have hm : mReplies x.abs = false := allTo_bad (j := i) (decide_eq_false (fun hk => by simp only [hat, hac] at hk; omega)) (show i < x.abs.replies.length by rw [hln]; omega)
   exact Meb false hm
 refine Mih ?_ (pc (pR ((i : Int) - 1)) (pc (pI 35 ((i : Int) - 1) (i - 1) (s := x.replies) (fun w hk hr => (Rds.kp hx hk))) (pF 37 (i - 1) 0 1 (s := x.replies) (fun w hk hr => (Rds.kp hx hk)))))
 refine Md ((x.replies.at i).seq ≤ (x.replies.at (i - 1)).seq) (fun h5 => ?_) fun h5 => ?_
 · have hm : mReplies x.abs = false := allTo_bad (j := i) (decide_eq_false (fun hk => by simp only [hat, hac] at hk; omega)) (show i < x.abs.replies.length by rw [hln]; omega)
   exact Meb false hm
 refine Md ((x.replies.at i).reply.code < 0) (fun h6 => ?_) fun h6 => ?_
 · have hm : mReplies x.abs = false := allTo_bad (j := i) (decide_eq_false (fun hk => by simp only [hat, hac] at hk; omega)) (show i < x.abs.replies.length by rw [hln]; omega)
   exact Meb false hm
 refine Md ((15 : Int) < (x.replies.at i).reply.code) (fun h7 => ?_) fun h7 => ?_
 · have hm : mReplies x.abs = false := allTo_bad (j := i) (decide_eq_false (fun hk => by simp only [hat, hac] at hk; omega)) (show i < x.abs.replies.length by rw [hln]; omega)
   exact Meb false hm
 refine Md ((x.replies.at i).reply.n < 0) (fun h8 => ?_) fun h8 => ?_
 · have hm : mReplies x.abs = false := allTo_bad (j := i) (decide_eq_false (fun hk => by simp only [hat, hac] at hk; omega)) (show i < x.abs.replies.length by rw [hln]; omega)
   exact Meb false hm
 refine Md ((1073741824 : Int) < (x.replies.at i).reply.n) (fun h9 => ?_) fun h9 => ?_
 · have hm : mReplies x.abs = false := allTo_bad (j := i) (decide_eq_false (fun hk => by simp only [hat, hac] at hk; omega)) (show i < x.abs.replies.length by rw [hln]; omega)
   exact Meb false hm
 refine Md ((12 : Int) < ((x.replies.at i).reply.text.size : Int)) (fun h10 => ?_) fun h10 => ?_
 rotate_left
 · refine Mi ?_ (pR ((i : Int) + 1))
   exact on1 (i + 1) ⟨by omega, allTo_step hI (decide_eq_true (by simp only [hat, hac]; exact ⟨by omega, by omega, by omega, by omega, by omega, by omega, by omega, by omega⟩))⟩ (by omega)
 have hm : mReplies x.abs = false := allTo_bad (j := i) (decide_eq_false (fun hk => by simp only [hat, hac] at hk; omega)) (show i < x.abs.replies.length by rw [hln]; omega)
 exact Meb false hm

theorem ref_repliesMay {B : Nat → Prop} (x : CSession) (w : World) (hx : Rds.sub B w x) (hb : 0 ≤ x.acked ∧ x.acked ≤ 1048576) : Calls Try.prog 82 #[x.val] w fun e w' => e = .returned (vb (mReplies x.abs)) ∧ Kp [] w w' := by
 have okx := Rds.okof hx
 have ncx := Sl.ok.nc okx
 have hns : x.replies.n = x.replies.xs.length := rfl
 have hat : ∀ q, x.abs.replies.getD q default = x.replies.at q := fun _ => rfl
 have hac : x.abs.acked = x.acked := rfl
 have hln : x.abs.replies.length = x.replies.n := rfl
 refine M0 ?_ Try.func82
 refine Ml (σ := Nat × Int) (fun ⟨i, la⟩ => i ≤ x.replies.n ∧ allTo (keptOk x.abs) i = true ∧ x.acked ≤ la ∧ la ≤ x.acked + 4 ∧ (i = 0 → la = x.acked) ∧ (0 < i → la = (x.replies.at (i - 1)).seq)) (fun ⟨i, la⟩ => x.replies.n - i) (fun _ => []) [4, 3, 1] (fun ⟨i, la⟩ => [(4, vI (i : Int)), (3, vI la)]) (fun _ => []) ?_ (⟨0, x.acked⟩) ⟨Nat.zero_le _, rfl, by omega, by omega, fun _ => rfl, fun h => absurd h (by omega)⟩
 rintro ⟨i, la⟩ ⟨hi, hI, hl1, hl2, hl3, hl4⟩ _ on1
 have hz : i = 0 ∧ la = x.acked ∨ 0 < i ∧ la = (x.replies.at (i - 1)).seq := by rcases Nat.eq_zero_or_pos i with h | h; exact .inl ⟨h, hl3 h⟩; exact .inr ⟨h, hl4 h⟩
 refine Md ((i : Int) < (x.replies.n : Int)) (fun h1 => ?_) fun h1 => ?_
 rotate_left
 · have hm : mReplies x.abs = true := by show allTo _ x.abs.replies.length = true; rw [hln, show x.replies.n = i by omega]; exact hI
   exact Meb true hm
 refine Mi ?_ (pc (pA 18 19 (i : Int) i (s := x.replies) (fun w hk hr => (Rds.kp hx hk))) (pc (pR (la + 1)) (pR (x.acked + 4))))
 refine Mp ?_ Try.call64 (fun bs w hS => ref_In (x.replies.at i).seq (la + 1) (x.acked + 4) w)
 refine Mbn (inB (x.replies.at i).seq (la + 1) (x.acked + 4)) (fun h2 => ?_) fun h2 => ?_
 rotate_left
 · simp only [iT, iF] at h2
   have hm : mReplies x.abs = false := allTo_bad (j := i) (decide_eq_false (fun hk => by simp only [hat, hac] at hk; omega)) (show i < x.abs.replies.length by rw [hln]; omega)
   exact Meb false hm
 simp only [iT, iF] at h2
 refine Mp ?_ Try.call64 (fun bs w hS => ref_In (x.replies.at i).reply.code 0 15 w)
 refine Mbn (inB (x.replies.at i).reply.code 0 15) (fun h3 => ?_) fun h3 => ?_
 rotate_left
 · simp only [iT, iF] at h3
   have hm : mReplies x.abs = false := allTo_bad (j := i) (decide_eq_false (fun hk => by simp only [hat, hac] at hk; omega)) (show i < x.abs.replies.length by rw [hln]; omega)
   exact Meb false hm
 simp only [iT, iF] at h3
 refine Mp ?_ Try.call64 (fun bs w hS => ref_In (x.replies.at i).reply.n 0 1073741824 w)
 refine Mbn (inB (x.replies.at i).reply.n 0 1073741824) (fun h4 => ?_) fun h4 => ?_
 rotate_left
 · simp only [iT, iF] at h4
   have hm : mReplies x.abs = false := allTo_bad (j := i) (decide_eq_false (fun hk => by simp only [hat, hac] at hk; omega)) (show i < x.abs.replies.length by rw [hln]; omega)
   exact Meb false hm
 simp only [iT, iF] at h4
 refine Md ((12 : Int) < ((x.replies.at i).reply.text.size : Int)) (fun h5 => ?_) fun h5 => ?_
 · have hm : mReplies x.abs = false := allTo_bad (j := i) (decide_eq_false (fun hk => by simp only [hat, hac] at hk; omega)) (show i < x.abs.replies.length by rw [hln]; omega)
   exact Meb false hm
 refine Mi ?_ (pR ((i : Int) + 1))
 exact on1 ⟨i + 1, (x.replies.at i).seq⟩ ⟨by omega, allTo_step hI (decide_eq_true (by simp only [hat, hac]; exact ⟨by omega, by omega, by omega, by omega, by omega, by omega, by omega, by omega⟩)), by omega, by omega, fun h => absurd h (by omega), fun _ => rfl⟩ (by show x.replies.n - (i + 1) < x.replies.n - i; omega)

theorem session_Check {B : Nat → Prop} (s : Sl CSession) (n : Int) (w : World) (hs : s.rd B w) : Calls Try.prog 51 #[s.val, vi n] w fun e w' => e = .returned (vi (mSess (s.xs.map CSession.abs) n)) ∧ Kp [] w w' := by
 have oks := Sl.rd.ok hs
 have ncs := Sl.ok.nc oks
 have hns : s.n = s.xs.length := rfl
 have hat : ∀ q, (s.xs.map CSession.abs).getD q default = (s.at q).abs := fun q => sabs_at q
 have hq0 : ∀ q, (s.at q).abs.client = (s.at q).client := fun _ => rfl
 have hq1 : ∀ q, (s.at q).abs.id = (s.at q).id := fun _ => rfl
 have hq2 : ∀ q, (s.at q).abs.acked = (s.at q).acked := fun _ => rfl
 have hq3 : ∀ q, (s.at q).abs.last = (s.at q).last := fun _ => rfl
 have hml : (s.xs.map CSession.abs).length = s.n := by simp
 refine M0 ?_ Try.func51
 refine Md (n < 0) (fun h1 => ?_) fun h1 => ?_
 · have hm : mSess (s.xs.map CSession.abs) n = 2 := by
     unfold mSess; rw [hml]
     first | rw [if_pos (by omega)] | rw [if_neg (by omega), if_pos (by omega)]
   exact Me0 2 hm
 refine Md ((1073741824 : Int) < n) (fun h2 => ?_) fun h2 => ?_
 · have hm : mSess (s.xs.map CSession.abs) n = 2 := by
     unfold mSess; rw [hml]
     first | rw [if_pos (by omega)] | rw [if_neg (by omega), if_pos (by omega)]
   exact Me0 2 hm
 refine Md ((4 : Int) < (s.n : Int)) (fun h3 => ?_) fun h3 => ?_
 · have hm : mSess (s.xs.map CSession.abs) n = 1 := by
     unfold mSess; rw [hml]
     first | rw [if_pos (by omega)] | rw [if_neg (by omega), if_pos (by omega)]
   exact Me0 1 hm
 refine Ml (σ := Nat) (fun i => i ≤ s.n ∧ mSess (s.xs.map CSession.abs) n = firstF (sessF (s.xs.map CSession.abs) n) (s.n - i) i) (fun i => s.n - i) (fun _ => []) [18, 17, 16, 0, 1] (fun i => [(18, vI (i : Int))]) (fun _ => []) ?_ 0 ⟨Nat.zero_le _, by unfold mSess; rw [hml, if_neg (by omega), if_neg (by omega)]⟩
 rintro i ⟨hi, hI⟩ _ on1
 refine Md ((i : Int) < (s.n : Int)) (fun h4 => ?_) fun h4 => ?_
 rotate_left
 · exact Me0 0 (by rw [hI, firstF_end (by omega)])
 refine Mi ?_ (pA 21 22 (i : Int) i (rdk hs))
 refine Md ((s.at i).client < 1) (fun h5 => ?_) fun h5 => ?_
 · refine Me0 2 ?_
   have hf : sessF (s.xs.map CSession.abs) n i = 2 := by
     grind [sessF]
   rw [hI, firstF_here (by omega) hf (by omega)]
 refine Md ((9 : Int) < (s.at i).client) (fun h6 => ?_) fun h6 => ?_
 · refine Me0 2 ?_
   have hf : sessF (s.xs.map CSession.abs) n i = 2 := by
     grind [sessF]
   rw [hI, firstF_here (by omega) hf (by omega)]
 refine Md ((s.at i).acked < 0) (fun h7 => ?_) fun h7 => ?_
 · refine Me0 2 ?_
   have hf : sessF (s.xs.map CSession.abs) n i = 2 := by
     grind [sessF]
   rw [hI, firstF_here (by omega) hf (by omega)]
 refine Md ((1048576 : Int) < (s.at i).acked) (fun h8 => ?_) fun h8 => ?_
 · refine Me0 2 ?_
   have hf : sessF (s.xs.map CSession.abs) n i = 2 := by
     grind [sessF]
   rw [hI, firstF_here (by omega) hf (by omega)]
 refine Md ((s.at i).id < 1) (fun h9 => ?_) fun h9 => ?_
 · refine Me0 2 ?_
   have hf : sessF (s.xs.map CSession.abs) n i = 2 := by
     grind [sessF]
   rw [hI, firstF_here (by omega) hf (by omega)]
 refine Md ((s.at i).last < (s.at i).id) (fun h10 => ?_) fun h10 => ?_
 · refine Me0 2 ?_
   have hf : sessF (s.xs.map CSession.abs) n i = 2 := by
     grind [sessF]
   rw [hI, firstF_here (by omega) hf (by omega)]
 refine Md (n < (s.at i).last) (fun h11 => ?_) fun h11 => ?_
 · refine Me0 2 ?_
   have hf : sessF (s.xs.map CSession.abs) n i = 2 := by
     grind [sessF]
   rw [hI, firstF_here (by omega) hf (by omega)]
 refine Mp ?_ Try.call80 (fun bs w hS => session_replies (s.at i) w (Sl.rd.sub (s := s) (i := i) (Sl.rd.kp hs hS.kp) (by omega)) (by first | exact ⟨by omega, by omega⟩ | (simp only [] at *; exact ⟨by omega, by omega⟩)))
 refine Mbn (mReplies (s.at i).abs) (fun h12 => ?_) fun h12 => ?_
 rotate_left
 · refine Me0 4 ?_
   have hf : sessF (s.xs.map CSession.abs) n i = 4 := by
     grind [sessF]
   rw [hI, firstF_here (by omega) hf (by omega)]
 refine Mda 13 [] [] [] Try_mixed ?_
 refine Md ((0 : Int) < (i : Int)) (fun h13 => ?_) fun h13 => ?_
 rotate_left
 · refine Mi ?_ (pR ((i : Int) + 1))
   have hf0 : sessF (s.xs.map CSession.abs) n i = 0 := by
     grind [sessF]
   exact on1 (i + 1) ⟨by omega, by rw [hI]; exact firstF_step (by omega) hf0⟩ (by omega)
 refine Mih ?_ (pc (pR ((i : Int) - 1)) (pc (pI 68 ((i : Int) - 1) (i - 1) (rdk hs)) (pF 70 (i - 1) 0 1 (rdk hs))))
 refine Md ((s.at i).client ≤ (s.at (i - 1)).client) (fun h14 => ?_) fun h14 => ?_
 rotate_left
 · refine Mi ?_ (pR ((i : Int) + 1))
   have hf0 : sessF (s.xs.map CSession.abs) n i = 0 := by
     grind [sessF]
   exact on1 (i + 1) ⟨by omega, by rw [hI]; exact firstF_step (by omega) hf0⟩ (by omega)
 refine Me0 14 ?_
 have hf : sessF (s.xs.map CSession.abs) n i = 14 := by
   grind [sessF]
 rw [hI, firstF_here (by omega) hf (by omega)]

theorem ref_SessionsFault {B : Nat → Prop} (s : Sl CSession) (n : Int) (w : World) (hs : s.rd B w) : Calls Try.prog 54 #[s.val, vi n] w fun e w' => e = .returned (vi (mSess (s.xs.map CSession.abs) n)) ∧ Kp [] w w' := by
 have oks := Sl.rd.ok hs
 have ncs := Sl.ok.nc oks
 have hns : s.n = s.xs.length := rfl
 have hat : ∀ q, (s.xs.map CSession.abs).getD q default = (s.at q).abs := fun q => sabs_at q
 have hq0 : ∀ q, (s.at q).abs.client = (s.at q).client := fun _ => rfl
 have hq1 : ∀ q, (s.at q).abs.id = (s.at q).id := fun _ => rfl
 have hq2 : ∀ q, (s.at q).abs.acked = (s.at q).acked := fun _ => rfl
 have hq3 : ∀ q, (s.at q).abs.last = (s.at q).last := fun _ => rfl
 have hml : (s.xs.map CSession.abs).length = s.n := by simp
 refine M0 ?_ Try.func54
 refine Mp ?_ Try.call64 (fun bs w hS => ref_In n 0 1073741824 w)
 refine Mbn (inB n 0 1073741824) (fun h1 => ?_) fun h1 => ?_
 rotate_left
 · simp only [iT, iF] at h1
   have hm : mSess (s.xs.map CSession.abs) n = 2 := by
     unfold mSess; rw [hml]
     first | rw [if_pos (by omega)] | rw [if_neg (by omega), if_pos (by omega)]
   exact Me0 2 hm
 simp only [iT, iF] at h1
 refine Md ((4 : Int) < (s.n : Int)) (fun h2 => ?_) fun h2 => ?_
 · have hm : mSess (s.xs.map CSession.abs) n = 1 := by
     unfold mSess; rw [hml]
     first | rw [if_pos (by omega)] | rw [if_neg (by omega), if_pos (by omega)]
   exact Me0 1 hm
 refine Ml (σ := Nat) (fun i => i ≤ s.n ∧ mSess (s.xs.map CSession.abs) n = firstF (sessF (s.xs.map CSession.abs) n) (s.n - i) i) (fun i => s.n - i) (fun _ => []) [5, 0, 1] (fun i => [(5, vI (i : Int))]) (fun _ => []) ?_ 0 ⟨Nat.zero_le _, by unfold mSess; rw [hml, if_neg (by omega), if_neg (by omega)]⟩
 rintro i ⟨hi, hI⟩ _ on1
 refine Md ((i : Int) < (s.n : Int)) (fun h3 => ?_) fun h3 => ?_
 rotate_left
 · exact Me0 0 (by rw [hI, firstF_end (by omega)])
 refine Mi ?_ (pA 21 22 (i : Int) i (rdk hs))
 refine Mp ?_ Try.call64 (fun bs w hS => ref_In (s.at i).client 1 9 w)
 refine Mbn (inB (s.at i).client 1 9) (fun h4 => ?_) fun h4 => ?_
 rotate_left
 · simp only [iT, iF] at h4
   refine Me0 2 ?_
   have hf : sessF (s.xs.map CSession.abs) n i = 2 := by
     grind [sessF]
   rw [hI, firstF_here (by omega) hf (by omega)]
 simp only [iT, iF] at h4
 refine Mp ?_ Try.call64 (fun bs w hS => ref_In (s.at i).acked 0 1048576 w)
 refine Mbn (inB (s.at i).acked 0 1048576) (fun h5 => ?_) fun h5 => ?_
 rotate_left
 · simp only [iT, iF] at h5
   refine Me0 2 ?_
   have hf : sessF (s.xs.map CSession.abs) n i = 2 := by
     grind [sessF]
   rw [hI, firstF_here (by omega) hf (by omega)]
 simp only [iT, iF] at h5
 refine Mp ?_ Try.call64 (fun bs w hS => ref_In (s.at i).id 1 n w)
 refine Mbn (inB (s.at i).id 1 n) (fun h6 => ?_) fun h6 => ?_
 rotate_left
 · simp only [iT, iF] at h6
   refine Me0 2 ?_
   have hf : sessF (s.xs.map CSession.abs) n i = 2 := by
     grind [sessF]
   rw [hI, firstF_here (by omega) hf (by omega)]
 simp only [iT, iF] at h6
 refine Mp ?_ Try.call64 (fun bs w hS => ref_In (s.at i).last (s.at i).id n w)
 refine Mbn (inB (s.at i).last (s.at i).id n) (fun h7 => ?_) fun h7 => ?_
 rotate_left
 · simp only [iT, iF] at h7
   refine Me0 2 ?_
   have hf : sessF (s.xs.map CSession.abs) n i = 2 := by
     grind [sessF]
   rw [hI, firstF_here (by omega) hf (by omega)]
 simp only [iT, iF] at h7
 refine Mp ?_ Try.call82 (fun bs w hS => ref_repliesMay (s.at i) w (Sl.rd.sub (s := s) (i := i) (Sl.rd.kp hs hS.kp) (by omega)) (by first | exact ⟨by omega, by omega⟩ | (simp only [] at *; exact ⟨by omega, by omega⟩)))
 refine Mbn (mReplies (s.at i).abs) (fun h8 => ?_) fun h8 => ?_
 rotate_left
 · refine Me0 4 ?_
   have hf : sessF (s.xs.map CSession.abs) n i = 4 := by
     grind [sessF]
   rw [hI, firstF_here (by omega) hf (by omega)]
 refine Mda 13 [] [] [] Try_mixed ?_
 refine Md ((0 : Int) < (i : Int)) (fun h9 => ?_) fun h9 => ?_
 rotate_left
 · refine Mi ?_ (pR ((i : Int) + 1))
   have hf0 : sessF (s.xs.map CSession.abs) n i = 0 := by
     grind [sessF]
   exact on1 (i + 1) ⟨by omega, by rw [hI]; exact firstF_step (by omega) hf0⟩ (by omega)
 refine Mih ?_ (pc (pR ((i : Int) - 1)) (pc (pI 60 ((i : Int) - 1) (i - 1) (rdk hs)) (pF 62 (i - 1) 0 1 (rdk hs))))
 refine Md ((s.at i).client ≤ (s.at (i - 1)).client) (fun h10 => ?_) fun h10 => ?_
 rotate_left
 · refine Mi ?_ (pR ((i : Int) + 1))
   have hf0 : sessF (s.xs.map CSession.abs) n i = 0 := by
     grind [sessF]
   exact on1 (i + 1) ⟨by omega, by rw [hI]; exact firstF_step (by omega) hf0⟩ (by omega)
 refine Me0 14 ?_
 have hf : sessF (s.xs.map CSession.abs) n i = 14 := by
   grind [sessF]
 rw [hI, firstF_here (by omega) hf (by omega)]

theorem clone_Kept {B : Nat → Prop} (s : Sl DKept) (w : World) (hs : s.rd B w) (hb : s.n * 40 ≤ 140737488355328) : Calls Try.prog 47 #[s.val] w fun e w' => ∃ y : Sl DKept, e = .returned y.val ∧ y.xs = s.xs ∧ Kp [] w w' ∧ Fresh w w' (rowA 94 y.A y.c y.xs) := by
 have oks := Sl.rd.ok hs
 have ncs := Sl.ok.nc oks
 have hns : s.n = s.xs.length := rfl
 refine M0 ?_ Try.func47
 refine Mi ?_ (pG [(4, .val (.bool s.A.isNone))] (oc ((eq_nil Try.underlying89) : ∀ w, (do eqGuard .eql 89 (.tmp 3) (.const vn) s.val vn; binOp .eql 89 s.val vn : Sem Value).run Try.prog w = .ok (.bool s.A.isNone) w) on))
 refine Mb s.A.isNone (fun h1 => ?_) fun h1 => ?_
 · refine Mt [vn] fun bs w hS => ?_
   have hnil : s.xs = [] := Sl.ok.empty oks (by cases h : s.A <;> simp_all)
   exact ⟨Sl.nil, rfl, hnil.symm, hS.kp, rowA_nil 94 w⟩
 refine Mlz ?_ (α := DKept) (e := 94)
 intro A1
 refine Ma ?_ (α := DKept) (L2 := s.xs) 40 (fun bs w hS => Sl.rd.src (s := s) (Sl.rd.kp hs hS.kp))
 intro A2 c2
 exact Mt [.slice A2 ([] ++ s.xs).length c2] fun bs w hS => ⟨⟨A2, c2, [] ++ s.xs⟩, rfl, by simp, hS.kp, hS.out1⟩

theorem session_Copy {B : Nat → Prop} (s : Sl CSession) (w : World) (hs : s.rd B w) (hsm : Rds.small s) : Calls Try.prog 21 #[s.val] w fun e w' => ∃ y : Sl CSession, e = .returned y.val ∧ y.xs.map CSession.abs = s.xs.map CSession.abs ∧ Kp [] w w' ∧ Fresh w w' (sessR 91 94 y) := by
 have oks := Sl.rd.ok hs
 have ncs := Sl.ok.nc oks
 refine M0 ?_ Try.func21
 refine m_rowA (α := CSession) 91 ?_
 refine m_nores (ownL (keptR 94) []) rfl (fun w x hx => by cases hx) ?_
 refine Ml (σ := Nat × Option Addr × Nat × List CSession) (fun ⟨i, A, c, L⟩ => i ≤ s.n ∧ L.length = i ∧ L.map CSession.abs = (s.xs.take i).map CSession.abs) (fun ⟨i, A, c, L⟩ => s.n - i) (fun ⟨i, A, c, L⟩ => [ownL (keptR 94) L, rowA 91 A c (L : List CSession)]) [8, 7, 6, 3] (fun ⟨i, A, c, L⟩ => [(8, vI (i : Int)), (3, .v (.slice A L.length c))]) (fun _ => []) ?_ (⟨0, none, 0, []⟩) ⟨Nat.zero_le _, rfl, by simp⟩
 rintro ⟨i, A, c, L⟩ ⟨hi, hL, hI⟩ _ on1
 have hsn : s.n * 56 ≤ 140737488355328 := hsm.1
 refine Md ((i : Int) < (s.n : Int)) (fun h1 => ?_) fun h1 => ?_
 rotate_left
 · refine Mt [.slice A L.length c] fun bs w hS => ?_
   have hn : L.length = s.n := by omega
   exact ⟨⟨A, c, L⟩, rfl, by rw [hI, take_all (by omega)], hS.kp, hS.out⟩
 refine Mi ?_ (pA 10 11 (i : Int) i (rdk hs))
 refine Mf ?_ Try.call47 (fun bs w hS => clone_Kept (s.at i).replies w (Sl.rd.sub (s := s) (i := i) (Sl.rd.kp hs hS.kp) (by omega)) (hsm.2 i (by omega)).1)
 rintro y1 hF1
 refine M1 ?_
 refine m_f2 ?_
 refine Mal (α := CSession) 56 ([(⟨(s.at i).client, (s.at i).id, (s.at i).acked, (s.at i).last, y1⟩ : CSession)]) ?_
 intro A3 c3
 refine Mi ?_ (pR ((i : Int) + 1))
 refine m_perm (R' := [rowA 94 y1.A y1.c (y1.xs : List DKept), ownL (keptR 94) L, rowA 91 A3 c3 (L ++ [(⟨(s.at i).client, (s.at i).id, (s.at i).acked, (s.at i).last, y1⟩ : CSession)] : List CSession)]) (by exact perm3 0 _ _ _) ?_
 refine m_join (ownL (keptR 94) (L ++ [(⟨(s.at i).client, (s.at i).id, (s.at i).acked, (s.at i).last, y1⟩ : CSession)])) (ownL_app_fp (keptR 94) L (⟨(s.at i).client, (s.at i).id, (s.at i).acked, (s.at i).last, y1⟩ : CSession)) (fun w => ownL_app_p (keptR 94) L (⟨(s.at i).client, (s.at i).id, (s.at i).acked, (s.at i).last, y1⟩ : CSession) w) ?_
 exact on1 ⟨i + 1, A3, c3, L ++ [(⟨(s.at i).client, (s.at i).id, (s.at i).acked, (s.at i).last, y1⟩ : CSession)]⟩ ⟨by omega, by rw [List.length_append]; simp [hL], map_take_snoc (by omega) hI (by first | simp [CSession.abs, hF1] | simp [CSession.abs])⟩ (by show s.n - (i + 1) < s.n - i; omega)
theorem session_CopyS {B : Nat → Prop} (s : Sl CSession) (w : World) (hs : s.rd B w) (hsm : Rds.small s) : Calls Try.prog 21 #[s.val] w fun e w' => ∃ y : Sl CSession, e = .returned y.val ∧ y.xs.map CSession.abs = s.xs.map CSession.abs ∧ FreshS w w' y :=
  (session_Copy s w hs hsm).mono fun e w' ⟨y, h1, h2, h3, h4⟩ => ⟨y, h1, h2, h3, h4.sub fun hp => sessR_rd hp (sess_texts hs h2)⟩

theorem ref_SessionsCopy {B : Nat → Prop} (s : Sl CSession) (w : World) (hs : s.rd B w) (hsm : Rds.small s) : Calls Try.prog 50 #[s.val] w fun e w' => ∃ y : Sl CSession, e = .returned y.val ∧ y.xs.map CSession.abs = s.xs.map CSession.abs ∧ Kp [] w w' ∧ Fresh w w' (sessR 91 94 y) := by
 have oks := Sl.rd.ok hs
 have ncs := Sl.ok.nc oks
 refine M0 ?_ Try.func50
 refine m_rowA (α := CSession) 91 ?_
 refine m_nores (ownL (keptR 94) []) rfl (fun w x hx => by cases hx) ?_
 refine Ml (σ := Nat × Option Addr × Nat × List CSession) (fun ⟨i, A, c, L⟩ => i ≤ s.n ∧ L.length = i ∧ L.map CSession.abs = (s.xs.take i).map CSession.abs) (fun ⟨i, A, c, L⟩ => s.n - i) (fun ⟨i, A, c, L⟩ => [ownL (keptR 94) L, rowA 91 A c (L : List CSession)]) [4, 3, 0] (fun ⟨i, A, c, L⟩ => [(4, vI (i : Int)), (3, .v (.slice A L.length c))]) (fun _ => []) ?_ (⟨0, none, 0, []⟩) ⟨Nat.zero_le _, rfl, by simp⟩
 rintro ⟨i, A, c, L⟩ ⟨hi, hL, hI⟩ _ on1
 have hsn : s.n * 56 ≤ 140737488355328 := hsm.1
 refine Md ((i : Int) < (s.n : Int)) (fun h1 => ?_) fun h1 => ?_
 rotate_left
 · refine Mt [.slice A L.length c] fun bs w hS => ?_
   have hn : L.length = s.n := by omega
   exact ⟨⟨A, c, L⟩, rfl, by rw [hI, take_all (by omega)], hS.kp, hS.out⟩
 refine Mi ?_ (pA 14 15 (i : Int) i (rdk hs))
 refine m_rowA (α := DKept) 94 ?_
 refine Ma ?_ (α := DKept) (L2 := (s.at i).replies.xs) 40 (fun bs w hS => Sl.rd.src (s := (s.at i).replies) (Sl.rd.sub (s := s) (i := i) (Sl.rd.kp hs hS.kp) (by omega))) (h63 := (by first | omega | (simp only [List.length_nil, List.length_cons, List.length_append]; omega) | (have hq : _ * (40 : Nat) ≤ 140737488355328 := (hsm.2 i (by omega)).1; simp only [Sl.n, List.length_nil] at hq ⊢; omega))) (hb := (by first | omega | (simp only [List.length_nil, List.length_cons, List.length_append]; omega) | (have hq : _ * (40 : Nat) ≤ 140737488355328 := (hsm.2 i (by omega)).1; simp only [Sl.n, List.length_nil] at hq ⊢; omega)))
 intro A1 c1
 refine M1 ?_
 refine m_f2 ?_
 refine Mal (α := CSession) 56 ([(⟨(s.at i).client, (s.at i).id, (s.at i).acked, (s.at i).last, ⟨A1, c1, [] ++ (s.at i).replies.xs⟩⟩ : CSession)]) ?_
 intro A2 c2
 refine Mi ?_ (pR ((i : Int) + 1))
 refine m_perm (R' := [rowA 94 A1 c1 ([] ++ (s.at i).replies.xs : List DKept), ownL (keptR 94) L, rowA 91 A2 c2 (L ++ [(⟨(s.at i).client, (s.at i).id, (s.at i).acked, (s.at i).last, ⟨A1, c1, [] ++ (s.at i).replies.xs⟩⟩ : CSession)] : List CSession)]) (by exact perm3 0 _ _ _) ?_
 refine m_join (ownL (keptR 94) (L ++ [(⟨(s.at i).client, (s.at i).id, (s.at i).acked, (s.at i).last, ⟨A1, c1, [] ++ (s.at i).replies.xs⟩⟩ : CSession)])) (ownL_app_fp (keptR 94) L (⟨(s.at i).client, (s.at i).id, (s.at i).acked, (s.at i).last, ⟨A1, c1, [] ++ (s.at i).replies.xs⟩⟩ : CSession)) (fun w => ownL_app_p (keptR 94) L (⟨(s.at i).client, (s.at i).id, (s.at i).acked, (s.at i).last, ⟨A1, c1, [] ++ (s.at i).replies.xs⟩⟩ : CSession) w) ?_
 exact on1 ⟨i + 1, A2, c2, L ++ [(⟨(s.at i).client, (s.at i).id, (s.at i).acked, (s.at i).last, ⟨A1, c1, [] ++ (s.at i).replies.xs⟩⟩ : CSession)]⟩ ⟨by omega, by rw [List.length_append]; simp [hL], map_take_snoc (by omega) hI (by first | simp [CSession.abs, hF1] | simp [CSession.abs])⟩ (by show s.n - (i + 1) < s.n - i; omega)
theorem ref_SessionsCopyS {B : Nat → Prop} (s : Sl CSession) (w : World) (hs : s.rd B w) (hsm : Rds.small s) : Calls Try.prog 50 #[s.val] w fun e w' => ∃ y : Sl CSession, e = .returned y.val ∧ y.xs.map CSession.abs = s.xs.map CSession.abs ∧ FreshS w w' y :=
  (ref_SessionsCopy s w hs hsm).mono fun e w' ⟨y, h1, h2, h3, h4⟩ => ⟨y, h1, h2, h3, h4.sub fun hp => sessR_rd hp (sess_texts hs h2)⟩

theorem same_sessions {B B' : Nat → Prop} (a b : Sl CSession) (w : World) (ha : a.rd B w) (hb : b.rd B' w) (he : a.xs.map CSession.abs = b.xs.map CSession.abs) : Calls Try.prog 22 #[a.val, b.val] w fun e w' => e = .returned (vb true) ∧ Kp [] w w' := by
 have oka := Sl.rd.ok ha
 have okb := Sl.rd.ok hb
 have hn := map_n he
 have nca := Sl.ok.nc oka
 refine M0 ?_ Try.func22
 refine Mdn ((a.n : Int) = (b.n : Int)) (fun h1 => ?_) fun h1 => ?_
 rotate_left
 · exfalso; first | omega | (rw [hbt] at h1; simp at h1)
 refine Ml (σ := Nat) (fun i => True) (fun i => a.n - i) (fun _ => []) [5, 0, 1] (fun i => [(5, vI (i : Int))]) (fun _ => []) ?_ 0 trivial
 rintro i _ _ on1
 have hat := map_at (f := CSession.abs) (g := CSession.abs) rfl he i
 have q0 : (a.at i).client = (b.at i).client := congrArg DSession.client hat
 have q1 : (a.at i).id = (b.at i).id := congrArg DSession.id hat
 have q2 : (a.at i).acked = (b.at i).acked := congrArg DSession.acked hat
 have q3 : (a.at i).last = (b.at i).last := congrArg DSession.last hat
 have q4 : (a.at i).replies.xs = (b.at i).replies.xs := congrArg DSession.replies hat
 have q5 := xs_n q4
 refine Md ((i : Int) < (a.n : Int)) (fun h2 => ?_) fun h2 => ?_
 rotate_left
 · exact Mt [vb true] fun bs w hS => ⟨rfl, hS.kp⟩
 refine Mi ?_ (pc (pA 22 23 (i : Int) i (rdk ha)) (pA 26 27 (i : Int) i (rdk hb)))
 refine Mdn ((a.at i).client = (b.at i).client) (fun h3 => ?_) fun h3 => ?_
 rotate_left
 · exfalso; first | omega | (rw [hbt] at h3; simp at h3)
 refine Mdn ((a.at i).id = (b.at i).id) (fun h4 => ?_) fun h4 => ?_
 rotate_left
 · exfalso; first | omega | (rw [hbt] at h4; simp at h4)
 refine Mdn ((a.at i).acked = (b.at i).acked) (fun h5 => ?_) fun h5 => ?_
 rotate_left
 · exfalso; first | omega | (rw [hbt] at h5; simp at h5)
 refine Mdn ((a.at i).last = (b.at i).last) (fun h6 => ?_) fun h6 => ?_
 rotate_left
 · exfalso; first | omega | (rw [hbt] at h6; simp at h6)
 refine Mdn ((((a.at i).replies.n : Nat) : Int) = (((b.at i).replies.n : Nat) : Int)) (fun h7 => ?_) fun h7 => ?_
 rotate_left
 · exfalso; first | omega | (rw [hbt] at h7; simp at h7)
 refine Ml (σ := Nat) (fun j => True) (fun j => (a.at i).replies.n - j) (fun _ => []) [8, 7, 6, 5, 0, 1] (fun j => [(8, vI (j : Int))]) (fun _ => []) ?_ 0 trivial
 rintro j _ _ on2
 have hbt := xs_at q4 j
 have ncr := Sl.ok.nc (Sl.ok.at oka (show i < a.n by omega))
 refine Md ((j : Int) < (((a.at i).replies.n : Nat) : Int)) (fun h8 => ?_) fun h8 => ?_
 rotate_left
 · refine Mi ?_ (pR ((i : Int) + 1))
   exact on1 (i + 1) trivial (by omega)
 refine Mda 11 [] [] [] Try_mixed ?_
 refine Mih ?_ (pc (pA 73 74 (j : Int) j (s := (a.at i).replies) (fun w hk hr => (Sl.rd.sub (s := a) (i := i) (Sl.rd.kp ha hk) (by omega)))) (pc (pA 78 79 (j : Int) j (s := (b.at i).replies) (fun w hk hr => (Sl.rd.sub (s := b) (i := i) (Sl.rd.kp hb hk) (by omega)))) (pG [(80, .val (vb (!((decide (((a.at i).replies.at j).seq = ((b.at i).replies.at j).seq)) && (((decide (((a.at i).replies.at j).reply.code = ((b.at i).replies.at j).reply.code)) && ((decide (((a.at i).replies.at j).reply.n = ((b.at i).replies.at j).reply.n)) && ((decide (((a.at i).replies.at j).reply.text = ((b.at i).replies.at j).reply.text)) && true))) && true)))))] (oc ((neq_agg (by kernel_rfl) (by kernel_rfl)) : ∀ w, (do eqGuard .neq 94 (.tmp 74) (.tmp 79) ((a.at i).replies.at j).val ((b.at i).replies.at j).val; binOp .neq 94 ((a.at i).replies.at j).val ((b.at i).replies.at j).val : Sem Value).run Try.prog w = .ok (vb (!((decide (((a.at i).replies.at j).seq = ((b.at i).replies.at j).seq)) && (((decide (((a.at i).replies.at j).reply.code = ((b.at i).replies.at j).reply.code)) && ((decide (((a.at i).replies.at j).reply.n = ((b.at i).replies.at j).reply.n)) && ((decide (((a.at i).replies.at j).reply.text = ((b.at i).replies.at j).reply.text)) && true))) && true)))) w) on))))
 refine Mbn ((decide (((a.at i).replies.at j).seq = ((b.at i).replies.at j).seq)) && (((decide (((a.at i).replies.at j).reply.code = ((b.at i).replies.at j).reply.code)) && ((decide (((a.at i).replies.at j).reply.n = ((b.at i).replies.at j).reply.n)) && ((decide (((a.at i).replies.at j).reply.text = ((b.at i).replies.at j).reply.text)) && true))) && true)) (fun h9 => ?_) fun h9 => ?_
 rotate_left
 · exfalso; first | omega | (rw [hbt] at h9; simp at h9)
 refine Mi ?_ (pR ((j : Int) + 1))
 exact on2 (j + 1) trivial (by omega)

theorem law_kept {B : Nat → Prop} (s : Sl CSession) (w : World) (hs : s.rd B w) (hsm : Rds.small s) : Calls Try.prog 27 #[s.val] w fun e w' => ∃ y : Sl CSession, e = .returned y.val ∧ y.xs.map CSession.abs = s.xs.map CSession.abs ∧ FreshS w w' y := by
 have oks := Sl.rd.ok hs
 have ncs := Sl.ok.nc oks
 have hns : s.n = s.xs.length := rfl
 refine M0 ?_ Try.func27
 refine Mu ?_ Try.call50 (fun bs w hS => ref_SessionsCopyS s w (Sl.rd.kp hs hS.kp) hsm)
 rintro fp1 y1 hF1 hok1
 exact Mt [y1.val] fun bs w hS => ⟨y1, rfl, hF1, hS.outS (allR_sub i0 (hS.res _ i0))⟩

theorem idxF_Session {B : Nat → Prop} (s : Sl (Fl CSession)) (p : Fl CSession → Bool) (kf : Nat) (caps : Array Value) (w : World) (hs : s.rd B w) (hcall : ∀ args w, (callFunc kf args).run Try.prog w = .ok (.enter kf args) w)
    (hf : ∀ (w' : World) (x : (Fl CSession)), x ∈ s.xs → Kp [] w w' → Calls Try.prog kf (#[x.v.val] ++ caps) w' fun e w'' => e = .returned (vb (p x)) ∧ Kp [] w' w'') : Calls Try.prog 81 #[.slice s.A s.n s.c, .func (.func kf) #[] caps] w fun e w' => e = .returned (vi (mIdx p s.xs)) ∧ Kp [] w w' := by
 have oks := Sl.rd.ok hs
 have ncs := Sl.ok.nc oks
 have hns : s.n = s.xs.length := rfl
 refine M0 ?_ Try.func81
 refine Ml (σ := Nat) (fun i => i ≤ s.n ∧ ∀ j, j < i → p (s.at j) = false) (fun i => s.n - i) (fun _ => []) [8, 7, 0, 1] (fun i => [(8, vI (i : Int))]) (fun _ => []) ?_ 0 ⟨Nat.zero_le _, fun j hj => absurd hj (Nat.not_lt_zero _)⟩
 rintro i ⟨hi, hI⟩ _ on1
 refine Md ((i : Int) < (s.n : Int)) (fun h1 => ?_) (fun h1 => ?_)
 rotate_left
 · refine Mt [.int .i64 (-1)] fun bs w hS => ?_
   refine ⟨?_, hS.kp⟩
   rw [mIdx_none fun j hj => hI j (by omega)]
   rfl
 refine Mi ?_ (pA 14 15 (i : Int) i (rdk hs))
 refine Mv ?_ hcall (fun bs w hS => hf w (s.at i) (List.mem_of_getElem? (Sl.at_some (show i < s.n by omega))) hS.kp)
 refine Mb (p (s.at i)) (fun h2 => ?_) (fun h2 => ?_)
 · refine Mt [.int .i64 (i : Int)] fun bs w hS => ?_
   refine ⟨?_, hS.kp⟩
   rw [mIdx_here (i := i) (by omega) (by assumption) hI]
   rfl
 refine Mi ?_ (pR ((i : Int) + 1))
 exact on1 (i + 1) ⟨by omega, fun j hj => by rcases Nat.lt_succ_iff_lt_or_eq.1 hj with h | h; exact hI j h; subst h; assumption⟩ (by omega)
theorem idx_Session {B : Nat → Prop} (s : Sl CSession) (p : CSession → Bool) (kf : Nat) (caps : Array Value) (w : World) (hs : s.rd B w) (hcall : ∀ args w, (callFunc kf args).run Try.prog w = .ok (.enter kf args) w)
    (hf : ∀ (w' : World) (x : CSession), x ∈ s.xs → Kp [] w w' → Calls Try.prog kf (#[x.val] ++ caps) w' fun e w'' => e = .returned (vb (p x)) ∧ Kp [] w' w'') : Calls Try.prog 81 #[s.val, .func (.func kf) #[] caps] w fun e w' => e = .returned (vi (mIdx p s.xs)) ∧ Kp [] w w' := by
  have h := idxF_Session (⟨s.A, s.c, fls s.xs⟩ : Sl (Fl CSession)) (fun x => p x.v) kf caps w hs.fl hcall (fun w' x hx hk => hf w' x.v (by obtain ⟨y, hy, rfl⟩ := List.mem_map.1 hx; exact hy) hk)
  simp only [mIdx_fl, Sl.n, List.length_map] at h
  exact h

theorem delF_Session (A : Option Addr) (c : Nat) (L : List (Fl CSession)) (p : Fl CSession → Bool) (kf : Nat) (caps : Array Value) (w : World) (hrow : (rowA 91 A c L).p w) (hlt : ∀ b, b ∈ (rowA 91 A c L).fp → b < w.heap.size) (hn : L.length ≤ 1048576) (hcall : ∀ args w, (callFunc kf args).run Try.prog w = .ok (.enter kf args) w)
    (hf : ∀ (w' : World) (x : (Fl CSession)), x ∈ L → Kp (rowA 91 A c L).fp w w' → Calls Try.prog kf (#[x.v.val] ++ caps) w' fun e w'' => e = .returned (vb (p x)) ∧ Kp [] w' w'') :
    Calls Try.prog 52 #[.slice A L.length c, .func (.func kf) #[] caps] w fun e w' => e = .returned (.slice A (L.filter fun x => !p x).length c) ∧ Turned (rowA 91 A c L) w w' (rowA 91 A c (L.filter fun x => !p x)) := by
 have hrok := rowA_rok hrow
 have nc := hrok.2
 refine Mj ?_ Try.func52 (WS.start1 w _ hrow (by cases A <;> simp [rowA, rowR]) hlt)
 refine Mp ?_ Try.call81 (fun bs w hS => idxF_Session (⟨A, c, L⟩ : Sl (Fl CSession)) p kf caps w (Rr (B := anyB) (hS.res _ i0) (fun _ _ => trivial) (fun _ _ => trivial)) hcall (fun w' x hx hk => hf w' x hx (hS.kp.step hk (fun i hi => by cases hi))))
 refine Md (mIdx p L = (-1)) (fun h1 => ?_) fun h1 => ?_
 · refine Mt [.slice A L.length c] fun bs w hS => ?_
   have hid : L.filter (fun x => !p x) = L := delF_none (by assumption)
   rw [hid]
   exact ⟨rfl, hS.turned⟩
 obtain ⟨i0, hi1, hi2, hi3, hi4⟩ := delF_some (p := p) h1
 refine Mi ?_ (pR ((mIdx p L) + 1))
 refine Mk 6 ?_ (show (vI ((mIdx p L) + 1)) = vI (((i0 : Int)) + 1) by rw [hi4])
 refine Mk 5 ?_ (show (vI (mIdx p L)) = vI ((i0 : Int)) by rw [hi4])
 refine Ml (σ := Nat × Nat × List (Fl CSession)) (fun ⟨i, j, M⟩ => i < j ∧ j ≤ L.length ∧ M.length = L.length ∧ M.take i = (L.take j).filter (fun x => !p x) ∧ M.drop j = L.drop j) (fun ⟨i, j, M⟩ => L.length - j) (fun ⟨i, j, M⟩ => [rowA 91 A c (M : List (Fl CSession))]) [6, 5, 0, 1] (fun ⟨i, j, M⟩ => [(6, vI (j : Int)), (5, vI (i : Int))]) (fun _ => []) ?_ (⟨i0, i0 + 1, L⟩) ⟨by omega, by omega, rfl, delF_start hi1 hi2 hi3, rfl⟩
 rintro ⟨i, j, M⟩ ⟨h1, h2, hM, hT, hD⟩ _ on1
 refine Md ((j : Int) < (L.length : Int)) (fun h2 => ?_) fun h2 => ?_
 rotate_left
 · refine Mi ?_ (pG [(38, .sl i L.length)] (oc (rfl : (i : Int) = (i : Int)) (oc (rfl : L.length = L.length) (oc ((by omega) : i ≤ L.length) on))))
   refine Mcl i (L.length - i) ?_ (by omega) (by omega)
   refine Mi ?_ (pG [(41, .sl 0 i)] (oc (rfl : 0 = 0) (oc (rfl : (i : Int) = (i : Int)) (oc ((by omega) : i ≤ c) on))))
   refine Mt [.slice A i c] fun bs w hS => ?_
   have hid : M.take i = L.filter (fun x => !p x) := by rw [hT, show j = L.length by omega, List.take_length]
   have hil : (L.filter (fun x => !p x)).length = i := by rw [← hid, List.length_take]; omega
   have hS2 := hS
   rw [hid] at hS2
   refine ⟨?_, hS2.turned⟩
   rw [hil]
   rfl
 refine Mi ?_ (pc (pIo 24 (j : Int) j L.length (.head _)) (pEo 25 j (.head _)))
 refine Mv ?_ hcall (fun bs w hS => hf w (M.getD j default) (by rw [getD_drop hD (by omega)]; exact mem_of_getD (by omega)) hS.kp)
 refine Mbn (p (M.getD j default)) (fun h3 => ?_) fun h3 => ?_
 · refine Mi ?_ (pR ((j : Int) + 1))
   have hjL : M.getD j default = L.getD j default := getD_drop hD (by omega)
   exact on1 ⟨i, j + 1, M⟩ ⟨by omega, by omega, hM, delF_skip (by omega) hT (hjL ▸ by assumption), drop_next hD⟩ (by show L.length - (j + 1) < L.length - j; omega)
 refine Mi ?_ (pIo 33 (i : Int) i L.length (.head _))
 refine Mse i (M.getD j default) ?_ (by omega)
 intro L2 hL2 hl2
 refine Mi ?_ (pc (pR ((i : Int) + 1)) (pR ((j : Int) + 1)))
 have hjL : M.getD j default = L.getD j default := getD_drop hD (by omega)
 exact on1 ⟨i + 1, j + 1, L2⟩ ⟨by omega, by omega, by omega, by rw [hL2]; exact delF_keep h1 (by omega) hM hT (hjL ▸ by assumption) hjL, by rw [hL2]; exact delF_drop h1 hD⟩ (by show L.length - (j + 1) < L.length - j; omega)
theorem del_Session (A : Option Addr) (c : Nat) (L : List CSession) (p : CSession → Bool) (kf : Nat) (caps : Array Value) (w : World) (hrow : (rowA 91 A c L).p w) (hlt : ∀ b, b ∈ (rowA 91 A c L).fp → b < w.heap.size) (hn : L.length ≤ 1048576) (hcall : ∀ args w, (callFunc kf args).run Try.prog w = .ok (.enter kf args) w)
    (hf : ∀ (w' : World) (x : CSession), x ∈ L → Kp (rowA 91 A c L).fp w w' → Calls Try.prog kf (#[x.val] ++ caps) w' fun e w'' => e = .returned (vb (p x)) ∧ Kp [] w' w'') :
    Calls Try.prog 52 #[.slice A L.length c, .func (.func kf) #[] caps] w fun e w' => e = .returned (.slice A (L.filter fun x => !p x).length c) ∧ Turned (rowA 91 A c L) w w' (rowA 91 A c (L.filter fun x => !p x)) := by
  have h := delF_Session A c (fls L) (fun x => p x.v) kf caps w (by rw [rowA_fl]; exact hrow) (by rw [rowA_fl]; exact hlt) (by simpa using hn) hcall (fun w' x hx hk => hf w' x.v (by obtain ⟨y, hy, rfl⟩ := List.mem_map.1 hx; exact hy) (by rwa [rowA_fl] at hk))
  have e1 : (fls L).filter (fun x => !(p x.v)) = fls (L.filter fun x => !p x) := fls_filter (fun x => !p x) L
  simp only [e1, rowA_fl, List.length_map] at h
  exact h

theorem clo_session_Fresh_1 (x : CSession) (n : Int) (b : Nat) (w : World) (hb : (blkR b 3 [vi n]).p w) (h0 : 0 ≤ n ∧ n ≤ 1073741824) (h1 : 1 ≤ x.last ∧ x.last ≤ n) : Calls Try.prog 53 #[x.val, .pointer (some (⟨b, 0, none⟩ : Addr))] w fun e w' => e = .returned (vb (stale n x.abs)) ∧ Kp [] w w' := by
 refine M0 ?_ Try.func53
 refine Mi ?_ (pc (pX 4 [vi n] (fun w hk hr => (blkR_pre (blkR_kp hb hk) 1 rfl))) (pc (pR (n + 1)) (pR ((n + 1) - x.last))))
 exact Mt [vb (decide ((40 : Int) < (n + 1) - x.last))] fun bs w hS => ⟨rfl, hS.kp⟩

theorem session_Fresh {B : Nat → Prop} (s : Sl CSession) (n : Int) (w : World) (hs : s.rd B w) : Calls Try.prog 28 #[s.val, vi n] w fun e w' => ∃ y : Sl CSession, e = .returned (.tuple #[y.val, vi (mFresh (s.xs.map CSession.abs) n).2]) ∧ y.xs.map CSession.abs = (mFresh (s.xs.map CSession.abs) n).1 ∧ FreshS w w' y := by
 have oks := Sl.rd.ok hs
 have ncs := Sl.ok.nc oks
 have hns : s.n = s.xs.length := rfl
 have hml : (s.xs.map CSession.abs).length = s.n := by simp
 refine M0 ?_ Try.func28
 refine Mp ?_ Try.call51 (fun bs w hS => session_Check s n w (Sl.rd.kp hs hS.kp))
 refine Mdn (mSess (s.xs.map CSession.abs) n = 0) (fun h1 => ?_) fun h1 => ?_
 rotate_left
 · refine Mt [vn, vi (mSess (s.xs.map CSession.abs) n)] fun bs w hS => ?_
   refine ⟨Sl.nil, ?_, ?_, hS.outS (Sl.rd_nil _ _)⟩
   · rw [fresh_bad (by assumption)]; rfl
   · rw [fresh_bad (by assumption)]; rfl
 obtain ⟨hi0, hi1, hln, hall⟩ := mSess_bd h1
 have hn1 : 0 ≤ n ∧ n ≤ 1073741824 := ⟨hi0, hi1⟩
 have hbds : ∀ x, x ∈ s.xs.map CSession.abs → 1 ≤ x.last ∧ x.last ≤ n := fun x hx => by obtain ⟨j, hj, rfl⟩ := List.getElem_of_mem hx; have := sessF_bd (hall j hj); rw [List.getD_eq_getElem?_getD, List.getElem?_eq_getElem hj] at this; simp only [Option.getD_some] at this; omega
 refine Mf ?_ Try.call21 (fun bs w hS => session_Copy s w (Sl.rd.kp hs hS.kp) (small_sess (by assumption)))
 rintro y1 hF1
 refine m_split2 ?_
 have hnm1 := sess_texts (hs) hF1
 refine m_know (F := ∀ i, i < y1.n → Rds.ok (y1.at i)) (fun bs w hS i hi => Rds.okof (Sl.rd.sub (own_sess (A := y1.A) (c := y1.c) (L := y1.xs) (hS.res _ i0) (hS.res _ i1) hnm1) hi)) fun okown1 => ?_
 refine m_know (F := RowOk y1.A y1.c (y1.xs : List CSession)) (fun bs w hS => rowA_rok (hS.res _ i1)) fun hrow1 => ?_
 have nchrow1 := hrow1.2
 have hnn := map_n hF1
 have hnx : y1.n = y1.xs.length := rfl
 have hlast : ∀ x, x ∈ y1.xs → 1 ≤ x.last ∧ x.last ≤ n := fun x hx => hbds x.abs (hF1 ▸ List.mem_map.2 ⟨x, hx, rfl⟩)
 have hok1 : Sl.ok y1 := ⟨nchrow1.1, by unfold maxLen; exact nchrow1.2, fun i hi => ⟨hrow1.1 i hi, okown1 i hi⟩⟩
 refine m_f1 ?_
 refine Mtu0 ?_ Try.call52 (fun bs w hS => del_Session y1.A y1.c y1.xs (fun x : CSession => stale n x.abs) 53 #[.pointer (some (adr bs 0 0))] w (hS.res _ i0) hS.head1.2.2 (by show y1.n ≤ _; omega) Try.call53 (fun w' x hx hk => clo_session_Fresh_1 x n (bs.getD 0 0) w' (show (blkR _ _ _).p w' from hS.blkIn (i := 0) (b := ⟨3, [vI n]⟩) hk (by kernel_rfl) (by simp)) hn1 (hlast x hx)))
 rintro _ _
 refine Mt [.slice y1.A (y1.xs.filter fun x : CSession => !stale n x.abs).length y1.c, vi 0] fun bs w hS => ?_
 have hm := fresh_ok (l := s.xs.map CSession.abs) (index := n) (by assumption)
 rw [hm]
 refine ⟨⟨y1.A, y1.c, y1.xs.filter fun x : CSession => !stale n x.abs⟩, rfl, ?_, hS.outS (y := (⟨y1.A, y1.c, y1.xs.filter fun x : CSession => !stale n x.abs⟩ : Sl CSession)) (out_sess (L0 := y1.xs) i0 i1 hS.res (fun x hx => (List.mem_filter.1 hx).1) hnm1)⟩
 show (List.filter _ _).map _ = _
 rw [filter_abs, hF1]

theorem ref_FreshOf {B : Nat → Prop} (s : Sl CSession) (n : Int) (w : World) (hs : s.rd B w) : Calls Try.prog 29 #[s.val, vi n] w fun e w' => ∃ y : Sl CSession, e = .returned (.tuple #[y.val, vi (mFresh (s.xs.map CSession.abs) n).2]) ∧ y.xs.map CSession.abs = (mFresh (s.xs.map CSession.abs) n).1 ∧ FreshS w w' y := by
 have oks := Sl.rd.ok hs
 have ncs := Sl.ok.nc oks
 have hns : s.n = s.xs.length := rfl
 have hml : (s.xs.map CSession.abs).length = s.n := by simp
 refine M0 ?_ Try.func29
 refine Mp ?_ Try.call54 (fun bs w hS => ref_SessionsFault s n w (Sl.rd.kp hs hS.kp))
 refine Mdn (mSess (s.xs.map CSession.abs) n = 0) (fun h1 => ?_) fun h1 => ?_
 rotate_left
 · refine Mt [vn, vi (mSess (s.xs.map CSession.abs) n)] fun bs w hS => ?_
   refine ⟨Sl.nil, ?_, ?_, hS.outS (Sl.rd_nil _ _)⟩
   · rw [fresh_bad (by assumption)]; rfl
   · rw [fresh_bad (by assumption)]; rfl
 obtain ⟨hi0, hi1, hln, hall⟩ := mSess_bd h1
 have hbds : ∀ x, x ∈ s.xs.map CSession.abs → 1 ≤ x.last ∧ x.last ≤ n := fun x hx => by obtain ⟨j, hj, rfl⟩ := List.getElem_of_mem hx; have := sessF_bd (hall j hj); rw [List.getD_eq_getElem?_getD, List.getElem?_eq_getElem hj] at this; simp only [Option.getD_some] at this; omega
 refine Mf ?_ Try.call50 (fun bs w hS => ref_SessionsCopy s w (Sl.rd.kp hs hS.kp) (small_sess (by assumption)))
 rintro y1 hF1
 refine m_split2 ?_
 have hnm1 := sess_texts (hs) hF1
 refine m_know (F := ∀ i, i < y1.n → Rds.ok (y1.at i)) (fun bs w hS i hi => Rds.okof (Sl.rd.sub (own_sess (A := y1.A) (c := y1.c) (L := y1.xs) (hS.res _ i0) (hS.res _ i1) hnm1) hi)) fun okown1 => ?_
 refine m_know (F := RowOk y1.A y1.c (y1.xs : List CSession)) (fun bs w hS => rowA_rok (hS.res _ i1)) fun hrow1 => ?_
 have nchrow1 := hrow1.2
 have hnn := map_n hF1
 have hnx : y1.n = y1.xs.length := rfl
 have hlast : ∀ x, x ∈ y1.xs → 1 ≤ x.last ∧ x.last ≤ n := fun x hx => hbds x.abs (hF1 ▸ List.mem_map.2 ⟨x, hx, rfl⟩)
 have hok1 : Sl.ok y1 := ⟨nchrow1.1, by unfold maxLen; exact nchrow1.2, fun i hi => ⟨hrow1.1 i hi, okown1 i hi⟩⟩
 refine m_rowA (α := CSession) 91 ?_
 refine Ml (σ := Nat × Option Addr × Nat × List CSession) (fun ⟨i, A, c, L⟩ => i ≤ y1.n ∧ L = (y1.xs.take i).filter (fun x => !stale n x.abs)) (fun ⟨i, A, c, L⟩ => y1.n - i) (fun ⟨i, A, c, L⟩ => [rowA 91 A c (L : List CSession), ownL (keptR 94) y1.xs, rowA 91 y1.A y1.c (y1.xs : List CSession)]) [9, 8, 7, 1] (fun ⟨i, A, c, L⟩ => [(9, vI (i : Int)), (7, .v (.slice A L.length c))]) (fun _ => []) ?_ (⟨0, none, 0, []⟩) ⟨Nat.zero_le _, rfl⟩
 rintro ⟨i, A, c, L⟩ ⟨hi, hI⟩ _ on1
 have hLn : L.length ≤ i := by rw [hI]; exact Nat.le_trans (List.length_filter_le _ _) (by rw [List.length_take]; omega)
 refine Md ((i : Int) < (y1.n : Int)) (fun h2 => ?_) fun h2 => ?_
 rotate_left
 · refine Mt [.slice A L.length c, vi 0] fun bs w hS => ?_
   have hm := fresh_ok (l := s.xs.map CSession.abs) (index := n) (by assumption)
   rw [hm]
   have hLe : L = y1.xs.filter fun x => !stale n x.abs := by rw [hI, take_all (by omega)]
   refine ⟨⟨A, c, L⟩, rfl, ?_, hS.outS (y := (⟨A, c, L⟩ : Sl CSession)) (out_sess (L0 := y1.xs) i0 i1 hS.res (fun x hx => by rw [hLe] at hx; exact (List.mem_filter.1 hx).1) hnm1)⟩
   show L.map _ = _
   rw [hLe, filter_abs, hF1]
 have hla := hlast (y1.xs.getD i default) (mem_of_getD (by omega))
 refine Mi ?_ (pc (pIo 26 (i : Int) i y1.n i2) (pc (pFo 28 i 3 1 i2) (pR ((y1.xs.getD i default).last + 40))))
 refine Md (n < (y1.xs.getD i default).last + 40) (fun h3 => ?_) fun h3 => ?_
 rotate_left
 · refine Mi ?_ (pR ((i : Int) + 1))
   exact on1 ⟨i + 1, A, c, L⟩ ⟨by omega, by first | exact fresh_in hI (by omega) (decide_eq_false (show ¬ (40 < n + 1 - (y1.xs.getD i default).last) by omega)) | exact fresh_out hI (by omega) (decide_eq_true (show 40 < n + 1 - (y1.xs.getD i default).last by omega))⟩ (by show y1.n - (i + 1) < y1.n - i; omega)
 refine Mi ?_ (pc (pIo 35 (i : Int) i y1.n i2) (pEo 36 i i2))
 refine M1 ?_
 refine Mal (α := CSession) 56 ([(⟨(y1.xs.getD i default).client, (y1.xs.getD i default).id, (y1.xs.getD i default).acked, (y1.xs.getD i default).last, (y1.xs.getD i default).replies⟩ : CSession)]) ?_
 intro A3 c3
 refine Mi ?_ (pR ((i : Int) + 1))
 exact on1 ⟨i + 1, A3, c3, L ++ [(⟨(y1.xs.getD i default).client, (y1.xs.getD i default).id, (y1.xs.getD i default).acked, (y1.xs.getD i default).last, (y1.xs.getD i default).replies⟩ : CSession)]⟩ ⟨by omega, by first | exact fresh_in hI (by omega) (decide_eq_false (show ¬ (40 < n + 1 - (y1.xs.getD i default).last) by omega)) | exact fresh_out hI (by omega) (decide_eq_true (show 40 < n + 1 - (y1.xs.getD i default).last by omega))⟩ (by show y1.n - (i + 1) < y1.n - i; omega)

theorem law_SessionFresh {B : Nat → Prop} (s : Sl CSession) (n : Int) (w : World) (hs : s.rd B w) (hsm : Rds.small s) : Calls Try.prog 9 #[s.val, vi n] w fun e w' => e = .returned (vb true) ∧ Kp [] w w' := by
 have oks := Sl.rd.ok hs
 have ncs := Sl.ok.nc oks
 have hns : s.n = s.xs.length := rfl
 refine M0 ?_ Try.func9
 refine Mu ?_ Try.call27 (fun bs w hS => law_kept s w (Sl.rd.kp hs hS.kp) hsm)
 rintro fp1 y1 hF1 hok1
 refine Mu ?_ Try.call28 (fun bs w hS => session_Fresh y1 n w (hS.res _ i0))
 rintro fp2 y2 hF2 hok2
 refine Mu ?_ Try.call29 (fun bs w hS => ref_FreshOf s n w (Sl.rd.kp hs hS.kp))
 rintro fp3 y3 hF3 hok3
 refine Md ((mFresh (y1.xs.map CSession.abs) n).2 = (mFresh (s.xs.map CSession.abs) n).2) (fun h1 => ?_) fun h1 => ?_
 rotate_left
 · exfalso; first | (simp at h1; done) | (rw [hF1] at h1; simp at h1; done)
 refine Mp ?_ Try.call22 (fun bs w hS => same_sessions _ _ w (hS.res _ i1) (hS.res _ i0) (by rw [hF2, hF3, hF1]))
 refine Mq 32 true ?_ rfl
 refine Mp ?_ Try.call22 (fun bs w hS => same_sessions _ _ w (hS.res _ i2) (Sl.rd.kp hs hS.kp) hF1)
 exact Meb true (by simp [retOf, den])

end Go.Proofs.Ytakdjdfkdbofoaa.W
