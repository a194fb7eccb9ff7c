/-
  The functions that the law SessionLeaves reaches, walked: each returns what its model says.
  Conditions: those that each theorem states.
-/
import Derived.Test.YtakdjdfkdbofoaaFe
import Derived.Test.YtakdjdfkdbofoaaChecked
set_option linter.unusedVariables false
set_option linter.unusedSimpArgs false
set_option maxRecDepth 100000
set_option maxHeartbeats 2000000
namespace Go.Proofs.Ytakdjdfkdbofoaa.W
open Go.Proofs.Ytakdjdfkdbofoaa.Fw Go.RowKit
attribute [local irreducible] JM nx

theorem Try_mixed : Try.prog.follows .mixedOrders = true := by kernel_rfl
theorem laid : laidOutB Try.prog = true := by kernel_rfl

theorem ref_In (n lo hi : Int) (w : World) : Calls Try.prog 64 #[vi n, vi lo, vi hi] w fun e w' => e = .returned (vb (inB n lo hi)) ∧ Kp [] w w' := by
 refine M0 ?_ Try.func64
 refine Md (lo ≤ n) (fun h1 => ?_) fun h1 => ?_
 rotate_left
 · exact Mt [vb false] fun bs w hS => ⟨by simp [retOf, den, inB, h1], hS.kp⟩
 exact Mt [vb (decide (n ≤ hi))] fun bs w hS => ⟨by simp [retOf, den, inB, h1], hS.kp⟩

theorem session_replies {B : Nat → Prop} (x : CSession) (w : World) (hx : Rds.sub B w x) (hb : 0 ≤ x.acked ∧ x.acked ≤ 1048576) : Calls Try.prog 80 #[x.val] w fun e w' => e = .returned (vb (mReplies x.abs)) ∧ Kp [] w w' := by
 have okx := Rds.okof hx
 have ncx := Sl.ok.nc okx
 have hns : x.replies.n = x.replies.xs.length := rfl
 have hat : ∀ q, x.abs.replies.getD q default = x.replies.at q := fun _ => rfl
 have hac : x.abs.acked = x.acked := rfl
 have hln : x.abs.replies.length = x.replies.n := rfl
 refine M0 ?_ Try.func80
 refine Ml (σ := Nat) (fun i => i ≤ x.replies.n ∧ allTo (keptOk x.abs) i = true) (fun i => x.replies.n - i) (fun _ => []) [9, 8, 7, 1] (fun i => [(9, vI (i : Int))]) (fun _ => []) ?_ 0 ⟨Nat.zero_le _, rfl⟩
 rintro i ⟨hi, hI⟩ _ on1
 refine Md ((i : Int) < (x.replies.n : Int)) (fun h1 => ?_) fun h1 => ?_
 rotate_left
 · have hm : mReplies x.abs = true := by show allTo _ x.abs.replies.length = true; rw [hln, show x.replies.n = i by omega]; exact hI
   exact Meb true hm
 refine Mi ?_ (pA 12 13 (i : Int) i (s := x.replies) (fun w hk hr => (Rds.kp hx hk)))
 refine Mda 29 [] [] [] Try_mixed ?_
 refine Md ((x.replies.at i).seq ≤ x.acked) (fun h2 => ?_) fun h2 => ?_
 · have hm : mReplies x.abs = false := allTo_bad (j := i) (decide_eq_false (fun hk => by simp only [hat, hac] at hk; omega)) (show i < x.abs.replies.length by rw [hln]; omega)
   exact Meb false hm
 refine Mih ?_ (pR (x.acked + 4))
 refine Md (x.acked + 4 < (x.replies.at i).seq) (fun h3 => ?_) fun h3 => ?_
 · have hm : mReplies x.abs = false := allTo_bad (j := i) (decide_eq_false (fun hk => by simp only [hat, hac] at hk; omega)) (show i < x.abs.replies.length by rw [hln]; omega)
   exact Meb false hm
 refine Md ((0 : Int) < (i : Int)) (fun h4 => ?_) fun h4 => ?_
 rotate_left
 · refine Md ((x.replies.at i).reply.code < 0) (fun h11 => ?_) fun h11 => ?_
   · have hm : mReplies x.abs = false := allTo_bad (j := i) (decide_eq_false (fun hk => by simp only [hat, hac] at hk; omega)) (show i < x.abs.replies.length by rw [hln]; omega)
     exact Meb false hm
   refine Md ((15 : Int) < (x.replies.at i).reply.code) (fun h12 => ?_) fun h12 => ?_
   · have hm : mReplies x.abs = false := allTo_bad (j := i) (decide_eq_false (fun hk => by simp only [hat, hac] at hk; omega)) (show i < x.abs.replies.length by rw [hln]; omega)
     exact Meb false hm
   refine Md ((x.replies.at i).reply.n < 0) (fun h13 => ?_) fun h13 => ?_
   · have hm : mReplies x.abs = false := allTo_bad (j := i) (decide_eq_false (fun hk => by simp only [hat, hac] at hk; omega)) (show i < x.abs.replies.length by rw [hln]; omega)
     exact Meb false hm
   refine Md ((1073741824 : Int) < (x.replies.at i).reply.n) (fun h14 => ?_) fun h14 => ?_
   · have hm : mReplies x.abs = false := allTo_bad (j := i) (decide_eq_false (fun hk => by simp only [hat, hac] at hk; omega)) (show i < x.abs.replies.length by rw [hln]; omega)
     exact Meb false hm
   refine Md ((12 : Int) < ((x.replies.at i).reply.text.size : Int)) (fun h15 => ?_) fun h15 => ?_
   rotate_left
   · refine Mi ?_ (pR ((i : Int) + 1))
     exact on1 (i + 1) ⟨by omega, allTo_step hI (decide_eq_true (by simp only [hat, hac]; exact ⟨by omega, by omega, by omega, by omega, by omega, by omega, by omega, by omega⟩))⟩ (by omega)
   have hm : mReplies x.abs = false := allTo_bad (j := i) (decide_eq_false (fun hk => by simp only [hat, hac] at hk; omega)) (show i < x.abs.replies.length by rw [hln]; omega)
   exact Meb false hm
 refine Mih ?_ (pc (pR ((i : Int) - 1)) (pc (pI 35 ((i : Int) - 1) (i - 1) (s := x.replies) (fun w hk hr => (Rds.kp hx hk))) (pF 37 (i - 1) 0 1 (s := x.replies) (fun w hk hr => (Rds.kp hx hk)))))
 refine Md ((x.replies.at i).seq ≤ (x.replies.at (i - 1)).seq) (fun h5 => ?_) fun h5 => ?_
 · have hm : mReplies x.abs = false := allTo_bad (j := i) (decide_eq_false (fun hk => by simp only [hat, hac] at hk; omega)) (show i < x.abs.replies.length by rw [hln]; omega)
   exact Meb false hm
 refine Md ((x.replies.at i).reply.code < 0) (fun h6 => ?_) fun h6 => ?_
 · have hm : mReplies x.abs = false := allTo_bad (j := i) (decide_eq_false (fun hk => by simp only [hat, hac] at hk; omega)) (show i < x.abs.replies.length by rw [hln]; omega)
   exact Meb false hm
 refine Md ((15 : Int) < (x.replies.at i).reply.code) (fun h7 => ?_) fun h7 => ?_
 · have hm : mReplies x.abs = false := allTo_bad (j := i) (decide_eq_false (fun hk => by simp only [hat, hac] at hk; omega)) (show i < x.abs.replies.length by rw [hln]; omega)
   exact Meb false hm
 refine Md ((x.replies.at i).reply.n < 0) (fun h8 => ?_) fun h8 => ?_
 · have hm : mReplies x.abs = false := allTo_bad (j := i) (decide_eq_false (fun hk => by simp only [hat, hac] at hk; omega)) (show i < x.abs.replies.length by rw [hln]; omega)
   exact Meb false hm
 refine Md ((1073741824 : Int) < (x.replies.at i).reply.n) (fun h9 => ?_) fun h9 => ?_
 · have hm : mReplies x.abs = false := allTo_bad (j := i) (decide_eq_false (fun hk => by simp only [hat, hac] at hk; omega)) (show i < x.abs.replies.length by rw [hln]; omega)
   exact Meb false hm
 refine Md ((12 : Int) < ((x.replies.at i).reply.text.size : Int)) (fun h10 => ?_) fun h10 => ?_
 rotate_left
 · refine Mi ?_ (pR ((i : Int) + 1))
   exact on1 (i + 1) ⟨by omega, allTo_step hI (decide_eq_true (by simp only [hat, hac]; exact ⟨by omega, by omega, by omega, by omega, by omega, by omega, by omega, by omega⟩))⟩ (by omega)
 have hm : mReplies x.abs = false := allTo_bad (j := i) (decide_eq_false (fun hk => by simp only [hat, hac] at hk; omega)) (show i < x.abs.replies.length by rw [hln]; omega)
 exact Meb false hm

theorem ref_repliesMay {B : Nat → Prop} (x : CSession) (w : World) (hx : Rds.sub B w x) (hb : 0 ≤ x.acked ∧ x.acked ≤ 1048576) : Calls Try.prog 82 #[x.val] w fun e w' => e = .returned (vb (mReplies x.abs)) ∧ Kp [] w w' := by
 have okx := Rds.okof hx
 have ncx := Sl.ok.nc okx
 have hns : x.replies.n = x.replies.xs.length := rfl
 have hat : ∀ q, x.abs.replies.getD q default = x.replies.at q := fun _ => rfl
 have hac : x.abs.acked = x.acked := rfl
 have hln : x.abs.replies.length = x.replies.n := rfl
 refine M0 ?_ Try.func82
 refine Ml (σ := Nat × Int) (fun ⟨i, la⟩ => i ≤ x.replies.n ∧ allTo (keptOk x.abs) i = true ∧ x.acked ≤ la ∧ la ≤ x.acked + 4 ∧ (i = 0 → la = x.acked) ∧ (0 < i → la = (x.replies.at (i - 1)).seq)) (fun ⟨i, la⟩ => x.replies.n - i) (fun _ => []) [4, 3, 1] (fun ⟨i, la⟩ => [(4, vI (i : Int)), (3, vI la)]) (fun _ => []) ?_ (⟨0, x.acked⟩) ⟨Nat.zero_le _, rfl, by omega, by omega, fun _ => rfl, fun h => absurd h (by omega)⟩
 rintro ⟨i, la⟩ ⟨hi, hI, hl1, hl2, hl3, hl4⟩ _ on1
 have hz : i = 0 ∧ la = x.acked ∨ 0 < i ∧ la = (x.replies.at (i - 1)).seq := by rcases Nat.eq_zero_or_pos i with h | h; exact .inl ⟨h, hl3 h⟩; exact .inr ⟨h, hl4 h⟩
 refine Md ((i : Int) < (x.replies.n : Int)) (fun h1 => ?_) fun h1 => ?_
 rotate_left
 · have hm : mReplies x.abs = true := by show allTo _ x.abs.replies.length = true; rw [hln, show x.replies.n = i by omega]; exact hI
   exact Meb true hm
 refine Mi ?_ (pc (pA 18 19 (i : Int) i (s := x.replies) (fun w hk hr => (Rds.kp hx hk))) (pc (pR (la + 1)) (pR (x.acked + 4))))
 refine Mp ?_ Try.call64 (fun bs w hS => ref_In (x.replies.at i).seq (la + 1) (x.acked + 4) w)
 refine Mbn (inB (x.replies.at i).seq (la + 1) (x.acked + 4)) (fun h2 => ?_) fun h2 => ?_
 rotate_left
 · simp only [iT, iF] at h2
   have hm : mReplies x.abs = false := allTo_bad (j := i) (decide_eq_false (fun hk => by simp only [hat, hac] at hk; omega)) (show i < x.abs.replies.length by rw [hln]; omega)
   exact Meb false hm
 simp only [iT, iF] at h2
 refine Mp ?_ Try.call64 (fun bs w hS => ref_In (x.replies.at i).reply.code 0 15 w)
 refine Mbn (inB (x.replies.at i).reply.code 0 15) (fun h3 => ?_) fun h3 => ?_
 rotate_left
 · simp only [iT, iF] at h3
   have hm : mReplies x.abs = false := allTo_bad (j := i) (decide_eq_false (fun hk => by simp only [hat, hac] at hk; omega)) (show i < x.abs.replies.length by rw [hln]; omega)
   exact Meb false hm
 simp only [iT, iF] at h3
 refine Mp ?_ Try.call64 (fun bs w hS => ref_In (x.replies.at i).reply.n 0 1073741824 w)
 refine Mbn (inB (x.replies.at i).reply.n 0 1073741824) (fun h4 => ?_) fun h4 => ?_
 rotate_left
 · simp only [iT, iF] at h4
   have hm : mReplies x.abs = false := allTo_bad (j := i) (decide_eq_false (fun hk => by simp only [hat, hac] at hk; omega)) (show i < x.abs.replies.length by rw [hln]; omega)
   exact Meb false hm
 simp only [iT, iF] at h4
 refine Md ((12 : Int) < ((x.replies.at i).reply.text.size : Int)) (fun h5 => ?_) fun h5 => ?_
 · have hm : mReplies x.abs = false := allTo_bad (j := i) (decide_eq_false (fun hk => by simp only [hat, hac] at hk; omega)) (show i < x.abs.replies.length by rw [hln]; omega)
   exact Meb false hm
 refine Mi ?_ (pR ((i : Int) + 1))
 exact on1 ⟨i + 1, (x.replies.at i).seq⟩ ⟨by omega, allTo_step hI (decide_eq_true (by simp only [hat, hac]; exact ⟨by omega, by omega, by omega, by omega, by omega, by omega, by omega, by omega⟩)), by omega, by omega, fun h => absurd h (by omega), fun _ => rfl⟩ (by show x.replies.n - (i + 1) < x.replies.n - i; omega)

theorem session_Check {B : Nat → Prop} (s : Sl CSession) (n : Int) (w : World) (hs : s.rd B w) : Calls Try.prog 51 #[s.val, vi n] w fun e w' => e = .returned (vi (mSess (s.xs.map CSession.abs) n)) ∧ Kp [] w w' := by
 have oks := Sl.rd.ok hs
 have ncs := Sl.ok.nc oks
 have hns : s.n = s.xs.length := rfl
 have hat : ∀ q, (s.xs.map CSession.abs).getD q default = (s.at q).abs := fun q => sabs_at q
 have hq0 : ∀ q, (s.at q).abs.client = (s.at q).client := fun _ => rfl
 have hq1 : ∀ q, (s.at q).abs.id = (s.at q).id := fun _ => rfl
 have hq2 : ∀ q, (s.at q).abs.acked = (s.at q).acked := fun _ => rfl
 have hq3 : ∀ q, (s.at q).abs.last = (s.at q).last := fun _ => rfl
 have hml : (s.xs.map CSession.abs).length = s.n := by simp
 refine M0 ?_ Try.func51
 refine Md (n < 0) (fun h1 => ?_) fun h1 => ?_
 · have hm : mSess (s.xs.map CSession.abs) n = 2 := by
     unfold mSess; rw [hml]
     first | rw [if_pos (by omega)] | rw [if_neg (by omega), if_pos (by omega)]
   exact Me0 2 hm
 refine Md ((1073741824 : Int) < n) (fun h2 => ?_) fun h2 => ?_
 · have hm : mSess (s.xs.map CSession.abs) n = 2 := by
     unfold mSess; rw [hml]
     first | rw [if_pos (by omega)] | rw [if_neg (by omega), if_pos (by omega)]
   exact Me0 2 hm
 refine Md ((4 : Int) < (s.n : Int)) (fun h3 => ?_) fun h3 => ?_
 · have hm : mSess (s.xs.map CSession.abs) n = 1 := by
     unfold mSess; rw [hml]
     first | rw [if_pos (by omega)] | rw [if_neg (by omega), if_pos (by omega)]
   exact Me0 1 hm
 refine Ml (σ := Nat) (fun i => i ≤ s.n ∧ mSess (s.xs.map CSession.abs) n = firstF (sessF (s.xs.map CSession.abs) n) (s.n - i) i) (fun i => s.n - i) (fun _ => []) [18, 17, 16, 0, 1] (fun i => [(18, vI (i : Int))]) (fun _ => []) ?_ 0 ⟨Nat.zero_le _, by unfold mSess; rw [hml, if_neg (by omega), if_neg (by omega)]⟩
 rintro i ⟨hi, hI⟩ _ on1
 refine Md ((i : Int) < (s.n : Int)) (fun h4 => ?_) fun h4 => ?_
 rotate_left
 · exact Me0 0 (by rw [hI, firstF_end (by omega)])
 refine Mi ?_ (pA 21 22 (i : Int) i (rdk hs))
 refine Md ((s.at i).client < 1) (fun h5 => ?_) fun h5 => ?_
 · refine Me0 2 ?_
   have hf : sessF (s.xs.map CSession.abs) n i = 2 := by
     grind [sessF]
   rw [hI, firstF_here (by omega) hf (by omega)]
 refine Md ((9 : Int) < (s.at i).client) (fun h6 => ?_) fun h6 => ?_
 · refine Me0 2 ?_
   have hf : sessF (s.xs.map CSession.abs) n i = 2 := by
     grind [sessF]
   rw [hI, firstF_here (by omega) hf (by omega)]
 refine Md ((s.at i).acked < 0) (fun h7 => ?_) fun h7 => ?_
 · refine Me0 2 ?_
   have hf : sessF (s.xs.map CSession.abs) n i = 2 := by
     grind [sessF]
   rw [hI, firstF_here (by omega) hf (by omega)]
 refine Md ((1048576 : Int) < (s.at i).acked) (fun h8 => ?_) fun h8 => ?_
 · refine Me0 2 ?_
   have hf : sessF (s.xs.map CSession.abs) n i = 2 := by
     grind [sessF]
   rw [hI, firstF_here (by omega) hf (by omega)]
 refine Md ((s.at i).id < 1) (fun h9 => ?_) fun h9 => ?_
 · refine Me0 2 ?_
   have hf : sessF (s.xs.map CSession.abs) n i = 2 := by
     grind [sessF]
   rw [hI, firstF_here (by omega) hf (by omega)]
 refine Md ((s.at i).last < (s.at i).id) (fun h10 => ?_) fun h10 => ?_
 · refine Me0 2 ?_
   have hf : sessF (s.xs.map CSession.abs) n i = 2 := by
     grind [sessF]
   rw [hI, firstF_here (by omega) hf (by omega)]
 refine Md (n < (s.at i).last) (fun h11 => ?_) fun h11 => ?_
 · refine Me0 2 ?_
   have hf : sessF (s.xs.map CSession.abs) n i = 2 := by
     grind [sessF]
   rw [hI, firstF_here (by omega) hf (by omega)]
 refine Mp ?_ Try.call80 (fun bs w hS => session_replies (s.at i) w (Sl.rd.sub (s := s) (i := i) (Sl.rd.kp hs hS.kp) (by omega)) (by first | exact ⟨by omega, by omega⟩ | (simp only [] at *; exact ⟨by omega, by omega⟩)))
 refine Mbn (mReplies (s.at i).abs) (fun h12 => ?_) fun h12 => ?_
 rotate_left
 · refine Me0 4 ?_
   have hf : sessF (s.xs.map CSession.abs) n i = 4 := by
     grind [sessF]
   rw [hI, firstF_here (by omega) hf (by omega)]
 refine Mda 13 [] [] [] Try_mixed ?_
 refine Md ((0 : Int) < (i : Int)) (fun h13 => ?_) fun h13 => ?_
 rotate_left
 · refine Mi ?_ (pR ((i : Int) + 1))
   have hf0 : sessF (s.xs.map CSession.abs) n i = 0 := by
     grind [sessF]
   exact on1 (i + 1) ⟨by omega, by rw [hI]; exact firstF_step (by omega) hf0⟩ (by omega)
 refine Mih ?_ (pc (pR ((i : Int) - 1)) (pc (pI 68 ((i : Int) - 1) (i - 1) (rdk hs)) (pF 70 (i - 1) 0 1 (rdk hs))))
 refine Md ((s.at i).client ≤ (s.at (i - 1)).client) (fun h14 => ?_) fun h14 => ?_
 rotate_left
 · refine Mi ?_ (pR ((i : Int) + 1))
   have hf0 : sessF (s.xs.map CSession.abs) n i = 0 := by
     grind [sessF]
   exact on1 (i + 1) ⟨by omega, by rw [hI]; exact firstF_step (by omega) hf0⟩ (by omega)
 refine Me0 14 ?_
 have hf : sessF (s.xs.map CSession.abs) n i = 14 := by
   grind [sessF]
 rw [hI, firstF_here (by omega) hf (by omega)]

theorem ref_SessionsFault {B : Nat → Prop} (s : Sl CSession) (n : Int) (w : World) (hs : s.rd B w) : Calls Try.prog 54 #[s.val, vi n] w fun e w' => e = .returned (vi (mSess (s.xs.map CSession.abs) n)) ∧ Kp [] w w' := by
 have oks := Sl.rd.ok hs
 have ncs := Sl.ok.nc oks
 have hns : s.n = s.xs.length := rfl
 have hat : ∀ q, (s.xs.map CSession.abs).getD q default = (s.at q).abs := fun q => sabs_at q
 have hq0 : ∀ q, (s.at q).abs.client = (s.at q).client := fun _ => rfl
 have hq1 : ∀ q, (s.at q).abs.id = (s.at q).id := fun _ => rfl
 have hq2 : ∀ q, (s.at q).abs.acked = (s.at q).acked := fun _ => rfl
 have hq3 : ∀ q, (s.at q).abs.last = (s.at q).last := fun _ => rfl
 have hml : (s.xs.map CSession.abs).length = s.n := by simp
 refine M0 ?_ Try.func54
 refine Mp ?_ Try.call64 (fun bs w hS => ref_In n 0 1073741824 w)
 refine Mbn (inB n 0 1073741824) (fun h1 => ?_) fun h1 => ?_
 rotate_left
 · simp only [iT, iF] at h1
   have hm : mSess (s.xs.map CSession.abs) n = 2 := by
     unfold mSess; rw [hml]
     first | rw [if_pos (by omega)] | rw [if_neg (by omega), if_pos (by omega)]
   exact Me0 2 hm
 simp only [iT, iF] at h1
 refine Md ((4 : Int) < (s.n : Int)) (fun h2 => ?_) fun h2 => ?_
 · have hm : mSess (s.xs.map CSession.abs) n = 1 := by
     unfold mSess; rw [hml]
     first | rw [if_pos (by omega)] | rw [if_neg (by omega), if_pos (by omega)]
   exact Me0 1 hm
 refine Ml (σ := Nat) (fun i => i ≤ s.n ∧ mSess (s.xs.map CSession.abs) n = firstF (sessF (s.xs.map CSession.abs) n) (s.n - i) i) (fun i => s.n - i) (fun _ => []) [5, 0, 1] (fun i => [(5, vI (i : Int))]) (fun _ => []) ?_ 0 ⟨Nat.zero_le _, by unfold mSess; rw [hml, if_neg (by omega), if_neg (by omega)]⟩
 rintro i ⟨hi, hI⟩ _ on1
 refine Md ((i : Int) < (s.n : Int)) (fun h3 => ?_) fun h3 => ?_
 rotate_left
 · exact Me0 0 (by rw [hI, firstF_end (by omega)])
 refine Mi ?_ (pA 21 22 (i : Int) i (rdk hs))
 refine Mp ?_ Try.call64 (fun bs w hS => ref_In (s.at i).client 1 9 w)
 refine Mbn (inB (s.at i).client 1 9) (fun h4 => ?_) fun h4 => ?_
 rotate_left
 · simp only [iT, iF] at h4
   refine Me0 2 ?_
   have hf : sessF (s.xs.map CSession.abs) n i = 2 := by
     grind [sessF]
   rw [hI, firstF_here (by omega) hf (by omega)]
 simp only [iT, iF] at h4
 refine Mp ?_ Try.call64 (fun bs w hS => ref_In (s.at i).acked 0 1048576 w)
 refine Mbn (inB (s.at i).acked 0 1048576) (fun h5 => ?_) fun h5 => ?_
 rotate_left
 · simp only [iT, iF] at h5
   refine Me0 2 ?_
   have hf : sessF (s.xs.map CSession.abs) n i = 2 := by
     grind [sessF]
   rw [hI, firstF_here (by omega) hf (by omega)]
 simp only [iT, iF] at h5
 refine Mp ?_ Try.call64 (fun bs w hS => ref_In (s.at i).id 1 n w)
 refine Mbn (inB (s.at i).id 1 n) (fun h6 => ?_) fun h6 => ?_
 rotate_left
 · simp only [iT, iF] at h6
   refine Me0 2 ?_
   have hf : sessF (s.xs.map CSession.abs) n i = 2 := by
     grind [sessF]
   rw [hI, firstF_here (by omega) hf (by omega)]
 simp only [iT, iF] at h6
 refine Mp ?_ Try.call64 (fun bs w hS => ref_In (s.at i).last (s.at i).id n w)
 refine Mbn (inB (s.at i).last (s.at i).id n) (fun h7 => ?_) fun h7 => ?_
 rotate_left
 · simp only [iT, iF] at h7
   refine Me0 2 ?_
   have hf : sessF (s.xs.map CSession.abs) n i = 2 := by
     grind [sessF]
   rw [hI, firstF_here (by omega) hf (by omega)]
 simp only [iT, iF] at h7
 refine Mp ?_ Try.call82 (fun bs w hS => ref_repliesMay (s.at i) w (Sl.rd.sub (s := s) (i := i) (Sl.rd.kp hs hS.kp) (by omega)) (by first | exact ⟨by omega, by omega⟩ | (simp only [] at *; exact ⟨by omega, by omega⟩)))
 refine Mbn (mReplies (s.at i).abs) (fun h8 => ?_) fun h8 => ?_
 rotate_left
 · refine Me0 4 ?_
   have hf : sessF (s.xs.map CSession.abs) n i = 4 := by
     grind [sessF]
   rw [hI, firstF_here (by omega) hf (by omega)]
 refine Mda 13 [] [] [] Try_mixed ?_
 refine Md ((0 : Int) < (i : Int)) (fun h9 => ?_) fun h9 => ?_
 rotate_left
 · refine Mi ?_ (pR ((i : Int) + 1))
   have hf0 : sessF (s.xs.map CSession.abs) n i = 0 := by
     grind [sessF]
   exact on1 (i + 1) ⟨by omega, by rw [hI]; exact firstF_step (by omega) hf0⟩ (by omega)
 refine Mih ?_ (pc (pR ((i : Int) - 1)) (pc (pI 60 ((i : Int) - 1) (i - 1) (rdk hs)) (pF 62 (i - 1) 0 1 (rdk hs))))
 refine Md ((s.at i).client ≤ (s.at (i - 1)).client) (fun h10 => ?_) fun h10 => ?_
 rotate_left
 · refine Mi ?_ (pR ((i : Int) + 1))
   have hf0 : sessF (s.xs.map CSession.abs) n i = 0 := by
     grind [sessF]
   exact on1 (i + 1) ⟨by omega, by rw [hI]; exact firstF_step (by omega) hf0⟩ (by omega)
 refine Me0 14 ?_
 have hf : sessF (s.xs.map CSession.abs) n i = 14 := by
   grind [sessF]
 rw [hI, firstF_here (by omega) hf (by omega)]

theorem clone_Kept {B : Nat → Prop} (s : Sl DKept) (w : World) (hs : s.rd B w) (hb : s.n * 40 ≤ 140737488355328) : Calls Try.prog 47 #[s.val] w fun e w' => ∃ y : Sl DKept, e = .returned y.val ∧ y.xs = s.xs ∧ Kp [] w w' ∧ Fresh w w' (rowA 94 y.A y.c y.xs) := by
 have oks := Sl.rd.ok hs
 have ncs := Sl.ok.nc oks
 have hns : s.n = s.xs.length := rfl
 refine M0 ?_ Try.func47
 refine Mi ?_ (pG [(4, .val (.bool s.A.isNone))] (oc ((eq_nil Try.underlying89) : ∀ w, (do eqGuard .eql 89 (.tmp 3) (.const vn) s.val vn; binOp .eql 89 s.val vn : Sem Value).run Try.prog w = .ok (.bool s.A.isNone) w) on))
 refine Mb s.A.isNone (fun h1 => ?_) fun h1 => ?_
 · refine Mt [vn] fun bs w hS => ?_
   have hnil : s.xs = [] := Sl.ok.empty oks (by cases h : s.A <;> simp_all)
   exact ⟨Sl.nil, rfl, hnil.symm, hS.kp, rowA_nil 94 w⟩
 refine Mlz ?_ (α := DKept) (e := 94)
 intro A1
 refine Ma ?_ (α := DKept) (L2 := s.xs) 40 (fun bs w hS => Sl.rd.src (s := s) (Sl.rd.kp hs hS.kp))
 intro A2 c2
 exact Mt [.slice A2 ([] ++ s.xs).length c2] fun bs w hS => ⟨⟨A2, c2, [] ++ s.xs⟩, rfl, by simp, hS.kp, hS.out1⟩

theorem session_Copy {B : Nat → Prop} (s : Sl CSession) (w : World) (hs : s.rd B w) (hsm : Rds.small s) : Calls Try.prog 21 #[s.val] w fun e w' => ∃ y : Sl CSession, e = .returned y.val ∧ y.xs.map CSession.abs = s.xs.map CSession.abs ∧ Kp [] w w' ∧ Fresh w w' (sessR 91 94 y) := by
 have oks := Sl.rd.ok hs
 have ncs := Sl.ok.nc oks
 refine M0 ?_ Try.func21
 refine m_rowA (α := CSession) 91 ?_
 refine m_nores (ownL (keptR 94) []) rfl (fun w x hx => by cases hx) ?_
 refine Ml (σ := Nat × Option Addr × Nat × List CSession) (fun ⟨i, A, c, L⟩ => i ≤ s.n ∧ L.length = i ∧ L.map CSession.abs = (s.xs.take i).map CSession.abs) (fun ⟨i, A, c, L⟩ => s.n - i) (fun ⟨i, A, c, L⟩ => [ownL (keptR 94) L, rowA 91 A c (L : List CSession)]) [8, 7, 6, 3] (fun ⟨i, A, c, L⟩ => [(8, vI (i : Int)), (3, .v (.slice A L.length c))]) (fun _ => []) ?_ (⟨0, none, 0, []⟩) ⟨Nat.zero_le _, rfl, by simp⟩
 rintro ⟨i, A, c, L⟩ ⟨hi, hL, hI⟩ _ on1
 have hsn : s.n * 56 ≤ 140737488355328 := hsm.1
 refine Md ((i : Int) < (s.n : Int)) (fun h1 => ?_) fun h1 => ?_
 rotate_left
 · refine Mt [.slice A L.length c] fun bs w hS => ?_
   have hn : L.length = s.n := by omega
   exact ⟨⟨A, c, L⟩, rfl, by rw [hI, take_all (by omega)], hS.kp, hS.out⟩
 refine Mi ?_ (pA 10 11 (i : Int) i (rdk hs))
 refine Mf ?_ Try.call47 (fun bs w hS => clone_Kept (s.at i).replies w (Sl.rd.sub (s := s) (i := i) (Sl.rd.kp hs hS.kp) (by omega)) (hsm.2 i (by omega)).1)
 rintro y1 hF1
 refine M1 ?_
 refine m_f2 ?_
 refine Mal (α := CSession) 56 ([(⟨(s.at i).client, (s.at i).id, (s.at i).acked, (s.at i).last, y1⟩ : CSession)]) ?_
 intro A3 c3
 refine Mi ?_ (pR ((i : Int) + 1))
 refine m_perm (R' := [rowA 94 y1.A y1.c (y1.xs : List DKept), ownL (keptR 94) L, rowA 91 A3 c3 (L ++ [(⟨(s.at i).client, (s.at i).id, (s.at i).acked, (s.at i).last, y1⟩ : CSession)] : List CSession)]) (by exact perm3 0 _ _ _) ?_
 refine m_join (ownL (keptR 94) (L ++ [(⟨(s.at i).client, (s.at i).id, (s.at i).acked, (s.at i).last, y1⟩ : CSession)])) (ownL_app_fp (keptR 94) L (⟨(s.at i).client, (s.at i).id, (s.at i).acked, (s.at i).last, y1⟩ : CSession)) (fun w => ownL_app_p (keptR 94) L (⟨(s.at i).client, (s.at i).id, (s.at i).acked, (s.at i).last, y1⟩ : CSession) w) ?_
 exact on1 ⟨i + 1, A3, c3, L ++ [(⟨(s.at i).client, (s.at i).id, (s.at i).acked, (s.at i).last, y1⟩ : CSession)]⟩ ⟨by omega, by rw [List.length_append]; simp [hL], map_take_snoc (by omega) hI (by first | simp [CSession.abs, hF1] | simp [CSession.abs])⟩ (by show s.n - (i + 1) < s.n - i; omega)
theorem session_CopyS {B : Nat → Prop} (s : Sl CSession) (w : World) (hs : s.rd B w) (hsm : Rds.small s) : Calls Try.prog 21 #[s.val] w fun e w' => ∃ y : Sl CSession, e = .returned y.val ∧ y.xs.map CSession.abs = s.xs.map CSession.abs ∧ FreshS w w' y :=
  (session_Copy s w hs hsm).mono fun e w' ⟨y, h1, h2, h3, h4⟩ => ⟨y, h1, h2, h3, h4.sub fun hp => sessR_rd hp (sess_texts hs h2)⟩

theorem ref_SessionsCopy {B : Nat → Prop} (s : Sl CSession) (w : World) (hs : s.rd B w) (hsm : Rds.small s) : Calls Try.prog 50 #[s.val] w fun e w' => ∃ y : Sl CSession, e = .returned y.val ∧ y.xs.map CSession.abs = s.xs.map CSession.abs ∧ Kp [] w w' ∧ Fresh w w' (sessR 91 94 y) := by
 have oks := Sl.rd.ok hs
 have ncs := Sl.ok.nc oks
 refine M0 ?_ Try.func50
 refine m_rowA (α := CSession) 91 ?_
 refine m_nores (ownL (keptR 94) []) rfl (fun w x hx => by cases hx) ?_
 refine Ml (σ := Nat × Option Addr × Nat × List CSession) (fun ⟨i, A, c, L⟩ => i ≤ s.n ∧ L.length = i ∧ L.map CSession.abs = (s.xs.take i).map CSession.abs) (fun ⟨i, A, c, L⟩ => s.n - i) (fun ⟨i, A, c, L⟩ => [ownL (keptR 94) L, rowA 91 A c (L : List CSession)]) [4, 3, 0] (fun ⟨i, A, c, L⟩ => [(4, vI (i : Int)), (3, .v (.slice A L.length c))]) (fun _ => []) ?_ (⟨0, none, 0, []⟩) ⟨Nat.zero_le _, rfl, by simp⟩
 rintro ⟨i, A, c, L⟩ ⟨hi, hL, hI⟩ _ on1
 have hsn : s.n * 56 ≤ 140737488355328 := hsm.1
 refine Md ((i : Int) < (s.n : Int)) (fun h1 => ?_) fun h1 => ?_
 rotate_left
 · refine Mt [.slice A L.length c] fun bs w hS => ?_
   have hn : L.length = s.n := by omega
   exact ⟨⟨A, c, L⟩, rfl, by rw [hI, take_all (by omega)], hS.kp, hS.out⟩
 refine Mi ?_ (pA 14 15 (i : Int) i (rdk hs))
 refine m_rowA (α := DKept) 94 ?_
 refine Ma ?_ (α := DKept) (L2 := (s.at i).replies.xs) 40 (fun bs w hS => Sl.rd.src (s := (s.at i).replies) (Sl.rd.sub (s := s) (i := i) (Sl.rd.kp hs hS.kp) (by omega))) (h63 := (by first | omega | (simp only [List.length_nil, List.length_cons, List.length_append]; omega) | (have hq : _ * (40 : Nat) ≤ 140737488355328 := (hsm.2 i (by omega)).1; simp only [Sl.n, List.length_nil] at hq ⊢; omega))) (hb := (by first | omega | (simp only [List.length_nil, List.length_cons, List.length_append]; omega) | (have hq : _ * (40 : Nat) ≤ 140737488355328 := (hsm.2 i (by omega)).1; simp only [Sl.n, List.length_nil] at hq ⊢; omega)))
 intro A1 c1
 refine M1 ?_
 refine m_f2 ?_
 refine Mal (α := CSession) 56 ([(⟨(s.at i).client, (s.at i).id, (s.at i).acked, (s.at i).last, ⟨A1, c1, [] ++ (s.at i).replies.xs⟩⟩ : CSession)]) ?_
 intro A2 c2
 refine Mi ?_ (pR ((i : Int) + 1))
 refine m_perm (R' := [rowA 94 A1 c1 ([] ++ (s.at i).replies.xs : List DKept), ownL (keptR 94) L, rowA 91 A2 c2 (L ++ [(⟨(s.at i).client, (s.at i).id, (s.at i).acked, (s.at i).last, ⟨A1, c1, [] ++ (s.at i).replies.xs⟩⟩ : CSession)] : List CSession)]) (by exact perm3 0 _ _ _) ?_
 refine m_join (ownL (keptR 94) (L ++ [(⟨(s.at i).client, (s.at i).id, (s.at i).acked, (s.at i).last, ⟨A1, c1, [] ++ (s.at i).replies.xs⟩⟩ : CSession)])) (ownL_app_fp (keptR 94) L (⟨(s.at i).client, (s.at i).id, (s.at i).acked, (s.at i).last, ⟨A1, c1, [] ++ (s.at i).replies.xs⟩⟩ : CSession)) (fun w => ownL_app_p (keptR 94) L (⟨(s.at i).client, (s.at i).id, (s.at i).acked, (s.at i).last, ⟨A1, c1, [] ++ (s.at i).replies.xs⟩⟩ : CSession) w) ?_
 exact on1 ⟨i + 1, A2, c2, L ++ [(⟨(s.at i).client, (s.at i).id, (s.at i).acked, (s.at i).last, ⟨A1, c1, [] ++ (s.at i).replies.xs⟩⟩ : CSession)]⟩ ⟨by omega, by rw [List.length_append]; simp [hL], map_take_snoc (by omega) hI (by first | simp [CSession.abs, hF1] | simp [CSession.abs])⟩ (by show s.n - (i + 1) < s.n - i; omega)
theorem ref_SessionsCopyS {B : Nat → Prop} (s : Sl CSession) (w : World) (hs : s.rd B w) (hsm : Rds.small s) : Calls Try.prog 50 #[s.val] w fun e w' => ∃ y : Sl CSession, e = .returned y.val ∧ y.xs.map CSession.abs = s.xs.map CSession.abs ∧ FreshS w w' y :=
  (ref_SessionsCopy s w hs hsm).mono fun e w' ⟨y, h1, h2, h3, h4⟩ => ⟨y, h1, h2, h3, h4.sub fun hp => sessR_rd hp (sess_texts hs h2)⟩

theorem same_sessions {B B' : Nat → Prop} (a b : Sl CSession) (w : World) (ha : a.rd B w) (hb : b.rd B' w) (he : a.xs.map CSession.abs = b.xs.map CSession.abs) : Calls Try.prog 22 #[a.val, b.val] w fun e w' => e = .returned (vb true) ∧ Kp [] w w' := by
 have oka := Sl.rd.ok ha
 have okb := Sl.rd.ok hb
 have hn := map_n he
 have nca := Sl.ok.nc oka
 refine M0 ?_ Try.func22
 refine Mdn ((a.n : Int) = (b.n : Int)) (fun h1 => ?_) fun h1 => ?_
 rotate_left
 · exfalso; first | omega | (rw [hbt] at h1; simp at h1)
 refine Ml (σ := Nat) (fun i => True) (fun i => a.n - i) (fun _ => []) [5, 0, 1] (fun i => [(5, vI (i : Int))]) (fun _ => []) ?_ 0 trivial
 rintro i _ _ on1
 have hat := map_at (f := CSession.abs) (g := CSession.abs) rfl he i
 have q0 : (a.at i).client = (b.at i).client := congrArg DSession.client hat
 have q1 : (a.at i).id = (b.at i).id := congrArg DSession.id hat
 have q2 : (a.at i).acked = (b.at i).acked := congrArg DSession.acked hat
 have q3 : (a.at i).last = (b.at i).last := congrArg DSession.last hat
 have q4 : (a.at i).replies.xs = (b.at i).replies.xs := congrArg DSession.replies hat
 have q5 := xs_n q4
 refine Md ((i : Int) < (a.n : Int)) (fun h2 => ?_) fun h2 => ?_
 rotate_left
 · exact Mt [vb true] fun bs w hS => ⟨rfl, hS.kp⟩
 refine Mi ?_ (pc (pA 22 23 (i : Int) i (rdk ha)) (pA 26 27 (i : Int) i (rdk hb)))
 refine Mdn ((a.at i).client = (b.at i).client) (fun h3 => ?_) fun h3 => ?_
 rotate_left
 · exfalso; first | omega | (rw [hbt] at h3; simp at h3)
 refine Mdn ((a.at i).id = (b.at i).id) (fun h4 => ?_) fun h4 => ?_
 rotate_left
 · exfalso; first | omega | (rw [hbt] at h4; simp at h4)
 refine Mdn ((a.at i).acked = (b.at i).acked) (fun h5 => ?_) fun h5 => ?_
 rotate_left
 · exfalso; first | omega | (rw [hbt] at h5; simp at h5)
 refine Mdn ((a.at i).last = (b.at i).last) (fun h6 => ?_) fun h6 => ?_
 rotate_left
 · exfalso; first | omega | (rw [hbt] at h6; simp at h6)
 refine Mdn ((((a.at i).replies.n : Nat) : Int) = (((b.at i).replies.n : Nat) : Int)) (fun h7 => ?_) fun h7 => ?_
 rotate_left
 · exfalso; first | omega | (rw [hbt] at h7; simp at h7)
 refine Ml (σ := Nat) (fun j => True) (fun j => (a.at i).replies.n - j) (fun _ => []) [8, 7, 6, 5, 0, 1] (fun j => [(8, vI (j : Int))]) (fun _ => []) ?_ 0 trivial
 rintro j _ _ on2
 have hbt := xs_at q4 j
 have ncr := Sl.ok.nc (Sl.ok.at oka (show i < a.n by omega))
 refine Md ((j : Int) < (((a.at i).replies.n : Nat) : Int)) (fun h8 => ?_) fun h8 => ?_
 rotate_left
 · refine Mi ?_ (pR ((i : Int) + 1))
   exact on1 (i + 1) trivial (by omega)
 refine Mda 11 [] [] [] Try_mixed ?_
 refine Mih ?_ (pc (pA 73 74 (j : Int) j (s := (a.at i).replies) (fun w hk hr => (Sl.rd.sub (s := a) (i := i) (Sl.rd.kp ha hk) (by omega)))) (pc (pA 78 79 (j : Int) j (s := (b.at i).replies) (fun w hk hr => (Sl.rd.sub (s := b) (i := i) (Sl.rd.kp hb hk) (by omega)))) (pG [(80, .val (vb (!((decide (((a.at i).replies.at j).seq = ((b.at i).replies.at j).seq)) && (((decide (((a.at i).replies.at j).reply.code = ((b.at i).replies.at j).reply.code)) && ((decide (((a.at i).replies.at j).reply.n = ((b.at i).replies.at j).reply.n)) && ((decide (((a.at i).replies.at j).reply.text = ((b.at i).replies.at j).reply.text)) && true))) && true)))))] (oc ((neq_agg (by kernel_rfl) (by kernel_rfl)) : ∀ w, (do eqGuard .neq 94 (.tmp 74) (.tmp 79) ((a.at i).replies.at j).val ((b.at i).replies.at j).val; binOp .neq 94 ((a.at i).replies.at j).val ((b.at i).replies.at j).val : Sem Value).run Try.prog w = .ok (vb (!((decide (((a.at i).replies.at j).seq = ((b.at i).replies.at j).seq)) && (((decide (((a.at i).replies.at j).reply.code = ((b.at i).replies.at j).reply.code)) && ((decide (((a.at i).replies.at j).reply.n = ((b.at i).replies.at j).reply.n)) && ((decide (((a.at i).replies.at j).reply.text = ((b.at i).replies.at j).reply.text)) && true))) && true)))) w) on))))
 refine Mbn ((decide (((a.at i).replies.at j).seq = ((b.at i).replies.at j).seq)) && (((decide (((a.at i).replies.at j).reply.code = ((b.at i).replies.at j).reply.code)) && ((decide (((a.at i).replies.at j).reply.n = ((b.at i).replies.at j).reply.n)) && ((decide (((a.at i).replies.at j).reply.text = ((b.at i).replies.at j).reply.text)) && true))) && true)) (fun h9 => ?_) fun h9 => ?_
 rotate_left
 · exfalso; first | omega | (rw [hbt] at h9; simp at h9)
 refine Mi ?_ (pR ((j : Int) + 1))
 exact on2 (j + 1) trivial (by omega)

theorem law_kept {B : Nat → Prop} (s : Sl CSession) (w : World) (hs : s.rd B w) (hsm : Rds.small s) : Calls Try.prog 27 #[s.val] w fun e w' => ∃ y : Sl CSession, e = .returned y.val ∧ y.xs.map CSession.abs = s.xs.map CSession.abs ∧ FreshS w w' y := by
 have oks := Sl.rd.ok hs
 have ncs := Sl.ok.nc oks
 have hns : s.n = s.xs.length := rfl
 refine M0 ?_ Try.func27
 refine Mu ?_ Try.call50 (fun bs w hS => ref_SessionsCopyS s w (Sl.rd.kp hs hS.kp) hsm)
 rintro fp1 y1 hF1 hok1
 exact Mt [y1.val] fun bs w hS => ⟨y1, rfl, hF1, hS.outS (allR_sub i0 (hS.res _ i0))⟩

theorem session_find_1 (x : CSession) (t : Int) (w : World) : Calls Try.prog 86 #[x.val, vi t] w fun e w' => e = .returned (vi (IntKind.i64.wrap (x.client - t))) ∧ Kp [] w w' := by
 refine M0 ?_ Try.func86
 refine Mi ?_ (pG [(8, .val (vi (IntKind.i64.wrap (x.client - t))))] (oc (sub_wrap : ∀ w, (do eqGuard .sub 3 (.tmp 6) (.tmp 7) (vi x.client) (vi t); binOp .sub 3 (vi x.client) (vi t) : Sem Value).run Try.prog w = .ok (vi (IntKind.i64.wrap (x.client - t))) w) on))
 exact Mt [vi (IntKind.i64.wrap (x.client - t))] fun bs w hS => ⟨rfl, hS.kp⟩

theorem bs_session_find_1 {B : Nat → Prop} (s : Sl CSession) (t : Int) (w : World) (hs : s.rd B w) (hn : s.n ≤ 1048576) : Calls Try.prog 85 #[s.val, vi t, .func (.func 86) #[] #[]] w fun e w' => e = .returned (.tuple #[vi (mBS (fun x : CSession => IntKind.i64.wrap (x.client - t)) s.xs : Nat), vb (mBSf (fun x : CSession => IntKind.i64.wrap (x.client - t)) s.xs)]) ∧ Kp [] w w' := by
 have oks := Sl.rd.ok hs
 have ncs := Sl.ok.nc oks
 have hns : s.n = s.xs.length := rfl
 refine Mj ?_ Try.func85 (WS.start w)
 refine Ml (σ := Nat × Nat × Nat) (fun ⟨i, j, f⟩ => i ≤ j ∧ j ≤ s.n ∧ j - i ≤ f ∧ mBS (fun x : CSession => IntKind.i64.wrap (x.client - t)) s.xs = bsGo (fun j => decide (IntKind.i64.wrap ((s.at j).client - t) < 0)) f i j) (fun ⟨i, j, f⟩ => f) (fun _ => []) [10, 9, 8, 0, 1, 2] (fun ⟨i, j, f⟩ => [(10, vI (j : Int)), (9, vI (i : Int))]) (fun _ => []) ?_ (⟨0, s.n, s.n⟩) ⟨Nat.zero_le _, Nat.le_refl _, Nat.le_refl _, rfl⟩
 rintro ⟨i, j, f⟩ ⟨h1, h2, h3, hI⟩ _ on1
 have hdiv : ((i : Int) + (j : Int)) / 2 = (((i + j) / 2 : Nat) : Int) := by omega
 refine Md ((i : Int) < (j : Int)) (fun h1 => ?_) fun h1 => ?_
 rotate_left
 · refine Md ((i : Int) < (s.n : Int)) (fun h3 => ?_) fun h3 => ?_
   rotate_left
   · refine Mt [vi (i : Int), vb false] fun bs w hS => ?_
     have hij : i = j := by omega
     subst hij
     have hr : mBS (fun x : CSession => IntKind.i64.wrap (x.client - t)) s.xs = i := by rw [hI]; exact bsGo_end _ _ _ _ (Nat.le_refl _)
     refine ⟨?_, hS.kp⟩
     have hr2 : mBSf (fun x : CSession => IntKind.i64.wrap (x.client - t)) s.xs = false := by
       unfold mBSf; rw [hr]
       rw [decide_eq_false (show ¬ i < s.xs.length by omega)]; rfl
     rw [hr, hr2]
     rfl
   refine Mi ?_ (pA 43 44 (i : Int) i (rdk hs))
   refine Mp ?_ Try.call86 (fun bs w hS => session_find_1 (s.at i) t w)
   refine Mt [vi (i : Int), vb (decide (IntKind.i64.wrap ((s.at i).client - t) = 0))] fun bs w hS => ?_
   have hij : i = j := by omega
   subst hij
   have hr : mBS (fun x : CSession => IntKind.i64.wrap (x.client - t)) s.xs = i := by rw [hI]; exact bsGo_end _ _ _ _ (Nat.le_refl _)
   refine ⟨?_, hS.kp⟩
   have hr2 : mBSf (fun x : CSession => IntKind.i64.wrap (x.client - t)) s.xs = (decide (IntKind.i64.wrap ((s.at i).client - t) = 0)) := by
     unfold mBSf; rw [hr]
     rw [decide_eq_true (show i < s.xs.length by omega)]; rfl
   rw [hr, hr2]
   rfl
 refine Mi ?_ (pc (pR ((i : Int) + (j : Int))) (pc (pG [(21, .val (.int .u64 ((i : Int) + (j : Int))))] (oc ((conv_i64_u64 Try.underlying3 Try.underlying134 (by omega) (by omega)) : ∀ w, (convert 3 134 (vi ((i : Int) + (j : Int))) : Sem Value).run Try.prog w = .ok (.int .u64 ((i : Int) + (j : Int))) w) on)) (pc (pG [(22, .val (.int .u64 (((i : Int) + (j : Int)) / 2)))] (oc (shr_u64 : ∀ w, (do eqGuard .shr 134 (.tmp 21) (.const (.int .u64 1)) (.int .u64 ((i : Int) + (j : Int))) (.int .u64 1); binOp .shr 134 (.int .u64 ((i : Int) + (j : Int))) (.int .u64 1) : Sem Value).run Try.prog w = .ok (.int .u64 (((i : Int) + (j : Int)) / 2)) w) on)) (pc (pG [(23, .val (vi (((i : Int) + (j : Int)) / 2)))] (oc ((conv_u64_i64 Try.underlying134 Try.underlying3 (by omega) (by omega)) : ∀ w, (convert 134 3 (.int .u64 (((i : Int) + (j : Int)) / 2)) : Sem Value).run Try.prog w = .ok (vi (((i : Int) + (j : Int)) / 2)) w) on)) (pA 27 28 (((i : Int) + (j : Int)) / 2) (((i : Int) + (j : Int)) / 2).toNat (rdk hs))))))
 refine Mp ?_ Try.call86 (fun bs w hS => session_find_1 (s.at (((i : Int) + (j : Int)) / 2).toNat) t w)
 refine Md (IntKind.i64.wrap ((s.at (((i : Int) + (j : Int)) / 2).toNat).client - t) < 0) (fun h2 => ?_) fun h2 => ?_
 rotate_left
 · have hf1 : f = (f - 1) + 1 := by omega
   rw [hf1] at hI
   have hI2 := hI.trans (bsGo_down (by omega) (decide_eq_false (by assumption)))
   exact on1 ⟨i, (i + j) / 2, f - 1⟩ ⟨by omega, by omega, by omega, hI2⟩ (by show f - 1 < f; omega)
 refine Mi ?_ (pR ((((i : Int) + (j : Int)) / 2) + 1))
 have hf1 : f = (f - 1) + 1 := by omega
 rw [hf1] at hI
 have hI2 := hI.trans (bsGo_up (by omega) (decide_eq_true (by assumption)))
 exact on1 ⟨(i + j) / 2 + 1, j, f - 1⟩ ⟨by omega, by omega, by omega, hI2⟩ (by show f - 1 < f; omega)

theorem session_find {B : Nat → Prop} (s : Sl CSession) (t : Int) (w : World) (hs : s.rd B w) (hn : s.n ≤ 1048576) : Calls Try.prog 65 #[s.val, vi t] w fun e w' => e = .returned (.tuple #[vi (mBS (fun x : CSession => IntKind.i64.wrap (x.client - t)) s.xs : Nat), vb (mBSf (fun x : CSession => IntKind.i64.wrap (x.client - t)) s.xs)]) ∧ Kp [] w w' := by
 have oks := Sl.rd.ok hs
 have ncs := Sl.ok.nc oks
 have hns : s.n = s.xs.length := rfl
 refine M0 ?_ Try.func65
 refine Mp ?_ Try.call85 (fun bs w hS => bs_session_find_1 s t w (Sl.rd.kp hs hS.kp) (by omega))
 exact Mt [vi ((mBS (fun x : CSession => IntKind.i64.wrap (x.client - t)) s.xs : Nat) : Int), vb (mBSf (fun x : CSession => IntKind.i64.wrap (x.client - t)) s.xs)] fun bs w hS => ⟨rfl, hS.kp⟩

theorem tackroomref_sessionAt {B : Nat → Prop} (s : Sl CSession) (t : Int) (w : World) (hs : s.rd B w) : Calls Try.prog 67 #[s.val, vi t] w fun e w' => e = .returned (vi (mIdx (fun x : CSession => decide (x.client = t)) s.xs)) ∧ Kp [] w w' := by
 have oks := Sl.rd.ok hs
 have ncs := Sl.ok.nc oks
 have hns : s.n = s.xs.length := rfl
 refine M0 ?_ Try.func67
 refine Ml (σ := Nat) (fun i => i ≤ s.n ∧ ∀ j, j < i → decide ((s.at j).client = t) = false) (fun i => s.n - i) (fun _ => []) [5, 0, 1] (fun i => [(5, vI (i : Int))]) (fun _ => []) ?_ 0 ⟨Nat.zero_le _, fun j hj => absurd hj (Nat.not_lt_zero _)⟩
 rintro i ⟨hi, hI⟩ _ on1
 refine Md ((i : Int) < (s.n : Int)) (fun h1 => ?_) fun h1 => ?_
 rotate_left
 · exact Me0 (-1) (by rw [mIdx_none (p := (fun x : CSession => decide (x.client = t))) fun j hj => hI j (by omega)])
 refine Mi ?_ (pc (pI 14 (i : Int) i (rdk hs)) (pF 16 i 0 1 (rdk hs)))
 refine Md ((s.at i).client = t) (fun h2 => ?_) fun h2 => ?_
 · exact Me0 (i : Int) (by rw [mIdx_here (p := (fun x : CSession => decide (x.client = t))) (i := i) (by omega) (decide_eq_true (by assumption)) hI])
 refine Mi ?_ (pR ((i : Int) + 1))
 exact on1 (i + 1) ⟨by omega, fun j hj => by rcases Nat.lt_succ_iff_lt_or_eq.1 hj with h | h; exact hI j h; subst h; exact decide_eq_false (by assumption)⟩ (by omega)

theorem delR_Session (A : Option Addr) (c : Nat) (L : List CSession) (i j : Nat) (ii jj : Int) (w : World) (hrow : (rowA 91 A c L).p w) (hlt : ∀ b, b ∈ (rowA 91 A c L).fp → b < w.heap.size) (ei : ii = (i : Int)) (ej : jj = (j : Int)) (hij : i ≤ j) (hj : j ≤ L.length) :
    Calls Try.prog 66 #[.slice A L.length c, vi ii, vi jj] w fun e w' => e = .returned (.slice A (L.take i ++ L.drop j).length c) ∧ Turned (rowA 91 A c L) w w' (rowA 91 A c (L.take i ++ L.drop j)) := by
 subst ei ej
 have hrok := rowA_rok hrow
 have nc := hrok.2
 refine Mj ?_ Try.func66 (WS.start1 w _ hrow (by cases A <;> simp [rowA, rowR]) hlt)
 refine Ms3 (e := 91) (A := A) (n := L.length) (il := (i : Int)) (ih := (j : Int)) (im := (L.length : Int)) (c := c) i j L.length ?_ rfl rfl rfl (by omega) (by omega) (by omega)
 refine Md ((i : Int) = (j : Int)) (fun h1 => ?_) fun h1 => ?_
 · refine Mt [.slice A L.length c] fun bs w hS => ?_
   have hij2 : i = j := by omega
   subst hij2
   rw [List.take_append_drop]
   exact ⟨rfl, hS.turned⟩
 refine Mdr 6 ?_ Try_mixed
 refine Mih ?_ (pc (pG [(22, .sl 0 i)] (oc (rfl : 0 = 0) (oc (rfl : (i : Int) = (i : Int)) (oc ((by omega) : i ≤ c) on)))) (pG [(25, .sl j L.length)] (oc (rfl : (j : Int) = (j : Int)) (oc (rfl : L.length = L.length) (oc ((by omega) : j ≤ L.length) on)))))
 refine Mz ?_
 refine Mad 56 i j ?_ hij hj
 refine Mi ?_ (pG [(31, .sl (i + (L.length - j)) L.length)] (oc (rfl : ((i + (L.length - j) : Nat) : Int) = (((i + (L.length - j)) : Nat) : Int)) (oc (rfl : (L.length : Int) = (L.length : Int)) (oc ((by omega) : (i + (L.length - j)) ≤ L.length) (oc ((by omega) : L.length ≤ c) on)))))
 refine Mcl (i + (L.length - j)) (L.length - (i + (L.length - j))) ?_ (by simp only [List.length_append, List.length_take, List.length_drop]; omega) (by omega)
 refine Mt [.slice A (i + (L.length - j)) c] fun bs w hS => ?_
 have hlen : (L.take i ++ L.drop j).length = i + (L.length - j) := by simp only [List.length_append, List.length_take, List.length_drop]; omega
 have hS2 := hS
 rw [← hlen, List.take_length] at hS2
 refine ⟨?_, hS2.turned⟩
 rw [hlen]
 rfl

theorem session_Leave {B : Nat → Prop} (s : Sl CSession) (n t : Int) (w : World) (hs : s.rd B w) (ht : inR t) : Calls Try.prog 35 #[s.val, vi n, vi t] w fun e w' => ∃ y : Sl CSession, e = .returned (.tuple #[y.val, ((mLeave (s.xs.map CSession.abs) n t).2.1).val, vi (mLeave (s.xs.map CSession.abs) n t).2.2]) ∧ y.xs.map CSession.abs = (mLeave (s.xs.map CSession.abs) n t).1 ∧ FreshS w w' y := by
 have oks := Sl.rd.ok hs
 have ncs := Sl.ok.nc oks
 have hns : s.n = s.xs.length := rfl
 have hml : (s.xs.map CSession.abs).length = s.n := by simp
 refine M0 ?_ Try.func35
 refine Mp ?_ Try.call51 (fun bs w hS => session_Check s n w (Sl.rd.kp hs hS.kp))
 refine Mdn (mSess (s.xs.map CSession.abs) n = 0) (fun h1 => ?_) fun h1 => ?_
 rotate_left
 · refine Mt [vn, vz 0, vi (mSess (s.xs.map CSession.abs) n)] fun bs w hS => ?_
   have hm : mLeave (s.xs.map CSession.abs) n t = ([], zRep, mSess (s.xs.map CSession.abs) n) := by grind [mLeave]
   refine ⟨Sl.nil, ?_, ?_, hS.outS (Sl.rd_nil _ _)⟩
   · rw [hm]; rfl
   · rw [hm]; rfl
 obtain ⟨hi0, hi1, hln, hall⟩ := mSess_bd h1
 refine Mf ?_ Try.call21 (fun bs w hS => session_Copy s w (Sl.rd.kp hs hS.kp) (small_sess (by assumption)))
 rintro y1 hF1
 refine m_split2 ?_
 have hnm1 := sess_texts (hs) hF1
 refine m_know (F := ∀ i, i < y1.n → Rds.ok (y1.at i)) (fun bs w hS i hi => Rds.okof (Sl.rd.sub (own_sess (A := y1.A) (c := y1.c) (L := y1.xs) (hS.res _ i0) (hS.res _ i1) hnm1) hi)) fun okown1 => ?_
 refine m_know (F := RowOk y1.A y1.c (y1.xs : List CSession)) (fun bs w hS => rowA_rok (hS.res _ i1)) fun hrow1 => ?_
 have nchrow1 := hrow1.2
 have hnn := map_n hF1
 have hnx : y1.n = y1.xs.length := rfl
 have hok1 : Sl.ok y1 := ⟨nchrow1.1, by unfold maxLen; exact nchrow1.2, fun i hi => ⟨hrow1.1 i hi, okown1 i hi⟩⟩
 refine Mp ?_ Try.call65 (fun bs w hS => session_find y1 t w (own_sess (A := y1.A) (c := y1.c) (L := y1.xs) (hS.res _ i0) (hS.res _ i1) hnm1) (by omega))
 refine Mbn (mBSf (fun x : CSession => IntKind.i64.wrap (x.client - t)) y1.xs) (fun h2 => ?_) fun h2 => ?_
 rotate_left
 · refine Mt [y1.val, vz 11, vi 0] fun bs w hS => ?_
   have hmi : mIdx (fun x : DSession => decide (x.client = t)) (y1.xs.map CSession.abs) = mIdx (fun x : DSession => decide (x.client = t)) (s.xs.map CSession.abs) := by rw [hF1]
   have hb := bsf_sess (L := y1.xs) (index := n) (t := t) (by rw [hF1]; assumption) ht
   have hb1 := hb.1
   rw [h2, hmi] at hb1
   have hb3 := of_decide_eq_false hb1.symm
   have hm : mLeave (s.xs.map CSession.abs) n t = (s.xs.map CSession.abs, ⟨11, 0, emp⟩, 0) := by grind [mLeave]
   refine ⟨y1, ?_, ?_, hS.outS (y := y1) (out_sess (L0 := y1.xs) i1 i0 hS.res (fun x hx => hx) hnm1)⟩
   · rw [hm]; rfl
   · rw [hm]; exact hF1
 have hlt := mBSf_lt h2
 refine Mi ?_ (pR (((mBS (fun x : CSession => IntKind.i64.wrap (x.client - t)) y1.xs : Nat) : Int) + 1))
 refine m_f1 ?_
 refine Mtu ?_ (σ := Unit) (v := fun _ => .slice y1.A (y1.xs.take (((mBS (fun x : CSession => IntKind.i64.wrap (x.client - t)) y1.xs : Nat) : Int)).toNat ++ y1.xs.drop ((((mBS (fun x : CSession => IntKind.i64.wrap (x.client - t)) y1.xs : Nat) : Int)).toNat + 1)).length y1.c) (F := fun _ => True) (r := fun _ => rowA 91 y1.A y1.c (y1.xs.take (((mBS (fun x : CSession => IntKind.i64.wrap (x.client - t)) y1.xs : Nat) : Int)).toNat ++ y1.xs.drop ((((mBS (fun x : CSession => IntKind.i64.wrap (x.client - t)) y1.xs : Nat) : Int)).toNat + 1) : List CSession)) (vs := fun bs => [y1.val, vi ((mBS (fun x : CSession => IntKind.i64.wrap (x.client - t)) y1.xs : Nat) : Int), vi (((mBS (fun x : CSession => IntKind.i64.wrap (x.client - t)) y1.xs : Nat) : Int) + 1)]) Try.call66 (fun bs w hS => (delR_Session y1.A y1.c y1.xs (((mBS (fun x : CSession => IntKind.i64.wrap (x.client - t)) y1.xs : Nat) : Int)).toNat ((((mBS (fun x : CSession => IntKind.i64.wrap (x.client - t)) y1.xs : Nat) : Int)).toNat + 1) _ _ w (hS.res _ i0) hS.head1.2.2 (by omega) (by omega) (by omega) (by omega)).mono (fun e w' ⟨h1, h2⟩ => ⟨(), h1, trivial, h2⟩))
 rintro _ _
 refine Mt [.slice y1.A (y1.xs.take (((mBS (fun x : CSession => IntKind.i64.wrap (x.client - t)) y1.xs : Nat) : Int)).toNat ++ y1.xs.drop ((((mBS (fun x : CSession => IntKind.i64.wrap (x.client - t)) y1.xs : Nat) : Int)).toNat + 1)).length y1.c, vz 0, vi 0] fun bs w hS => ?_
 have hmi : mIdx (fun x : DSession => decide (x.client = t)) (y1.xs.map CSession.abs) = mIdx (fun x : DSession => decide (x.client = t)) (s.xs.map CSession.abs) := by rw [hF1]
 have hb := bsf_sess (L := y1.xs) (index := n) (t := t) (by rw [hF1]; assumption) ht
 have hb1 := hb.1
 rw [h2, hmi] at hb1
 have hb3 := of_decide_eq_true hb1.symm
 have hb2 := hb.2 h2
 rw [hmi] at hb2
 have hm : mLeave (s.xs.map CSession.abs) n t = ((s.xs.map CSession.abs).take (mIdx (fun x : DSession => decide (x.client = t)) (s.xs.map CSession.abs)).toNat ++ (s.xs.map CSession.abs).drop ((mIdx (fun x : DSession => decide (x.client = t)) (s.xs.map CSession.abs)).toNat + 1), zRep, 0) := by grind [mLeave]
 refine ⟨⟨y1.A, y1.c, y1.xs.take (((mBS (fun x : CSession => IntKind.i64.wrap (x.client - t)) y1.xs : Nat) : Int)).toNat ++ y1.xs.drop ((((mBS (fun x : CSession => IntKind.i64.wrap (x.client - t)) y1.xs : Nat) : Int)).toNat + 1)⟩, ?_, ?_, hS.outS (y := (⟨y1.A, y1.c, y1.xs.take (((mBS (fun x : CSession => IntKind.i64.wrap (x.client - t)) y1.xs : Nat) : Int)).toNat ++ y1.xs.drop ((((mBS (fun x : CSession => IntKind.i64.wrap (x.client - t)) y1.xs : Nat) : Int)).toNat + 1)⟩ : Sl CSession)) (out_sess (L0 := y1.xs) i0 i1 hS.res (fun x hx => ?_) hnm1)⟩
 · rw [hm]; rfl
 · rw [hm, ← hb2, Int.toNat_natCast, ← hF1]; simp [List.map_append, List.map_take, List.map_drop]
 · simp only [List.nil_append, List.mem_append] at hx; rcases hx with hx | hx
   · exact List.mem_of_mem_take hx
   · exact List.mem_of_mem_drop hx

theorem ref_LeftOf {B : Nat → Prop} (s : Sl CSession) (n t : Int) (w : World) (hs : s.rd B w) (ht : inR t) : Calls Try.prog 36 #[s.val, vi n, vi t] w fun e w' => ∃ y : Sl CSession, e = .returned (.tuple #[y.val, ((mLeave (s.xs.map CSession.abs) n t).2.1).val, vi (mLeave (s.xs.map CSession.abs) n t).2.2]) ∧ y.xs.map CSession.abs = (mLeave (s.xs.map CSession.abs) n t).1 ∧ FreshS w w' y := by
 have oks := Sl.rd.ok hs
 have ncs := Sl.ok.nc oks
 have hns : s.n = s.xs.length := rfl
 have hml : (s.xs.map CSession.abs).length = s.n := by simp
 refine M0 ?_ Try.func36
 refine Mp ?_ Try.call54 (fun bs w hS => ref_SessionsFault s n w (Sl.rd.kp hs hS.kp))
 refine Mdn (mSess (s.xs.map CSession.abs) n = 0) (fun h1 => ?_) fun h1 => ?_
 rotate_left
 · refine Mt [vn, vz 0, vi (mSess (s.xs.map CSession.abs) n)] fun bs w hS => ?_
   have hm : mLeave (s.xs.map CSession.abs) n t = ([], zRep, mSess (s.xs.map CSession.abs) n) := by grind [mLeave]
   refine ⟨Sl.nil, ?_, ?_, hS.outS (Sl.rd_nil _ _)⟩
   · rw [hm]; rfl
   · rw [hm]; rfl
 obtain ⟨hi0, hi1, hln, hall⟩ := mSess_bd h1
 refine Mf ?_ Try.call50 (fun bs w hS => ref_SessionsCopy s w (Sl.rd.kp hs hS.kp) (small_sess (by assumption)))
 rintro y1 hF1
 refine m_split2 ?_
 have hnm1 := sess_texts (hs) hF1
 refine m_know (F := ∀ i, i < y1.n → Rds.ok (y1.at i)) (fun bs w hS i hi => Rds.okof (Sl.rd.sub (own_sess (A := y1.A) (c := y1.c) (L := y1.xs) (hS.res _ i0) (hS.res _ i1) hnm1) hi)) fun okown1 => ?_
 refine m_know (F := RowOk y1.A y1.c (y1.xs : List CSession)) (fun bs w hS => rowA_rok (hS.res _ i1)) fun hrow1 => ?_
 have nchrow1 := hrow1.2
 have hnn := map_n hF1
 have hnx : y1.n = y1.xs.length := rfl
 have hbdi := mIdx_bd (fun x : CSession => decide (x.client = t)) y1.xs
 have hok1 : Sl.ok y1 := ⟨nchrow1.1, by unfold maxLen; exact nchrow1.2, fun i hi => ⟨hrow1.1 i hi, okown1 i hi⟩⟩
 refine Mp ?_ Try.call67 (fun bs w hS => tackroomref_sessionAt y1 t w (own_sess (A := y1.A) (c := y1.c) (L := y1.xs) (hS.res _ i0) (hS.res _ i1) hnm1))
 refine Md (mIdx (fun x : CSession => decide (x.client = t)) y1.xs < 0) (fun h2 => ?_) fun h2 => ?_
 · refine Mt [y1.val, vz 11, vi 0] fun bs w hS => ?_
   have hmi : mIdx (fun x : DSession => decide (x.client = t)) (y1.xs.map CSession.abs) = mIdx (fun x : DSession => decide (x.client = t)) (s.xs.map CSession.abs) := by rw [hF1]
   have hie : mIdx (fun x : CSession => decide (x.client = t)) y1.xs = mIdx (fun x : DSession => decide (x.client = t)) (s.xs.map CSession.abs) := (mIdx_map CSession.abs (fun x : DSession => decide (x.client = t)) y1.xs).trans hmi
   have hm : mLeave (s.xs.map CSession.abs) n t = (s.xs.map CSession.abs, ⟨11, 0, emp⟩, 0) := by grind [mLeave]
   refine ⟨y1, ?_, ?_, hS.outS (y := y1) (out_sess (L0 := y1.xs) i1 i0 hS.res (fun x hx => hx) hnm1)⟩
   · rw [hm]; rfl
   · rw [hm]; exact hF1
 refine Mi ?_ (pG [(31, .sl 0 (mIdx (fun x : CSession => decide (x.client = t)) y1.xs).toNat)] (oc (rfl : 0 = 0) (oc ((by omega) : mIdx (fun x : CSession => decide (x.client = t)) y1.xs = (((mIdx (fun x : CSession => decide (x.client = t)) y1.xs).toNat : Nat) : Int)) (oc ((by omega) : (mIdx (fun x : CSession => decide (x.client = t)) y1.xs).toNat ≤ y1.c) on))))
 refine m_rowA (α := CSession) 91 ?_
 refine Ma ?_ (α := CSession) (L2 := (y1.xs).take (mIdx (fun x : CSession => decide (x.client = t)) y1.xs).toNat) 56 (fun bs w hS => SrcAt.takeL (rowA_src (hS.res _ i2)) (by omega)) (hn2 := (by rw [List.length_take]; exact Nat.min_eq_left (by omega)))
 intro A3 c3
 refine Mi ?_ (pc (pR ((mIdx (fun x : CSession => decide (x.client = t)) y1.xs) + 1)) (pG [(37, .sl ((mIdx (fun x : CSession => decide (x.client = t)) y1.xs) + 1).toNat y1.n)] (oc ((by omega) : (mIdx (fun x : CSession => decide (x.client = t)) y1.xs) + 1 = ((((mIdx (fun x : CSession => decide (x.client = t)) y1.xs) + 1).toNat : Nat) : Int)) (oc (rfl : y1.n = y1.n) (oc ((by omega) : ((mIdx (fun x : CSession => decide (x.client = t)) y1.xs) + 1).toNat ≤ y1.n) on)))))
 refine Ma ?_ (α := CSession) (L2 := y1.xs.drop ((mIdx (fun x : CSession => decide (x.client = t)) y1.xs) + 1).toNat) 56 (fun bs w hS => Sl.rd.srcDrop (s := y1) (own_sess (A := y1.A) (c := y1.c) (L := y1.xs) (hS.res _ i1) (hS.res _ i2) hnm1) (by omega)) (hn2 := (List.length_drop ..))
 intro A4 c4
 refine Mt [.slice A4 ([] ++ (y1.xs).take (mIdx (fun x : CSession => decide (x.client = t)) y1.xs).toNat ++ y1.xs.drop ((mIdx (fun x : CSession => decide (x.client = t)) y1.xs) + 1).toNat).length c4, vz 0, vi 0] fun bs w hS => ?_
 have hmi : mIdx (fun x : DSession => decide (x.client = t)) (y1.xs.map CSession.abs) = mIdx (fun x : DSession => decide (x.client = t)) (s.xs.map CSession.abs) := by rw [hF1]
 have hie : mIdx (fun x : CSession => decide (x.client = t)) y1.xs = mIdx (fun x : DSession => decide (x.client = t)) (s.xs.map CSession.abs) := (mIdx_map CSession.abs (fun x : DSession => decide (x.client = t)) y1.xs).trans hmi
 have hm : mLeave (s.xs.map CSession.abs) n t = ((s.xs.map CSession.abs).take (mIdx (fun x : DSession => decide (x.client = t)) (s.xs.map CSession.abs)).toNat ++ (s.xs.map CSession.abs).drop ((mIdx (fun x : DSession => decide (x.client = t)) (s.xs.map CSession.abs)).toNat + 1), zRep, 0) := by grind [mLeave]
 refine ⟨⟨A4, c4, [] ++ (y1.xs).take (mIdx (fun x : CSession => decide (x.client = t)) y1.xs).toNat ++ y1.xs.drop ((mIdx (fun x : CSession => decide (x.client = t)) y1.xs) + 1).toNat⟩, ?_, ?_, hS.outS (y := (⟨A4, c4, [] ++ (y1.xs).take (mIdx (fun x : CSession => decide (x.client = t)) y1.xs).toNat ++ y1.xs.drop ((mIdx (fun x : CSession => decide (x.client = t)) y1.xs) + 1).toNat⟩ : Sl CSession)) (out_sess (L0 := y1.xs) i0 i1 hS.res (fun x hx => ?_) hnm1)⟩
 · rw [hm]; rfl
 · have hto : (mIdx (fun x : CSession => decide (x.client = t)) y1.xs + 1).toNat = (mIdx (fun x : CSession => decide (x.client = t)) y1.xs).toNat + 1 := by omega
   rw [hm, ← hie, ← hF1]; simp [List.map_append, List.map_take, List.map_drop, hto]
 · simp only [List.nil_append, List.mem_append] at hx; rcases hx with hx | hx
   · exact List.mem_of_mem_take hx
   · exact List.mem_of_mem_drop hx

theorem law_SessionLeaves {B : Nat → Prop} (s : Sl CSession) (n t : Int) (w : World) (hs : s.rd B w) (hsm : Rds.small s) (ht : inR t) : Calls Try.prog 12 #[s.val, vi n, vi t] w fun e w' => e = .returned (vb true) ∧ Kp [] w w' := by
 have oks := Sl.rd.ok hs
 have ncs := Sl.ok.nc oks
 have hns : s.n = s.xs.length := rfl
 refine M0 ?_ Try.func12
 refine Mu ?_ Try.call27 (fun bs w hS => law_kept s w (Sl.rd.kp hs hS.kp) hsm)
 rintro fp1 y1 hF1 hok1
 refine Mu ?_ Try.call35 (fun bs w hS => session_Leave y1 n t w (hS.res _ i0) ht)
 rintro fp2 y2 hF2 hok2
 refine Mu ?_ Try.call36 (fun bs w hS => ref_LeftOf s n t w (Sl.rd.kp hs hS.kp) ht)
 rintro fp3 y3 hF3 hok3
 refine Mi ?_ (pG [(34, .val (vb ((decide (((mLeave (y1.xs.map CSession.abs) n t).2.1).code = ((mLeave (s.xs.map CSession.abs) n t).2.1).code)) && ((decide (((mLeave (y1.xs.map CSession.abs) n t).2.1).n = ((mLeave (s.xs.map CSession.abs) n t).2.1).n)) && ((decide (((mLeave (y1.xs.map CSession.abs) n t).2.1).text = ((mLeave (s.xs.map CSession.abs) n t).2.1).text)) && true)))))] (oc ((eq_agg (by kernel_rfl) (by kernel_rfl)) : ∀ w, (do eqGuard .eql 63 (.tmp 32) (.tmp 33) ((mLeave (y1.xs.map CSession.abs) n t).2.1).val ((mLeave (s.xs.map CSession.abs) n t).2.1).val; binOp .eql 63 ((mLeave (y1.xs.map CSession.abs) n t).2.1).val ((mLeave (s.xs.map CSession.abs) n t).2.1).val : Sem Value).run Try.prog w = .ok (vb ((decide (((mLeave (y1.xs.map CSession.abs) n t).2.1).code = ((mLeave (s.xs.map CSession.abs) n t).2.1).code)) && ((decide (((mLeave (y1.xs.map CSession.abs) n t).2.1).n = ((mLeave (s.xs.map CSession.abs) n t).2.1).n)) && ((decide (((mLeave (y1.xs.map CSession.abs) n t).2.1).text = ((mLeave (s.xs.map CSession.abs) n t).2.1).text)) && true)))) w) on))
 refine Mb ((decide (((mLeave (y1.xs.map CSession.abs) n t).2.1).code = ((mLeave (s.xs.map CSession.abs) n t).2.1).code)) && ((decide (((mLeave (y1.xs.map CSession.abs) n t).2.1).n = ((mLeave (s.xs.map CSession.abs) n t).2.1).n)) && ((decide (((mLeave (y1.xs.map CSession.abs) n t).2.1).text = ((mLeave (s.xs.map CSession.abs) n t).2.1).text)) && true))) (fun h1 => ?_) fun h1 => ?_
 rotate_left
 · exfalso; first | (simp at h1; done) | (rw [hF1] at h1; simp at h1; done)
 refine Md ((mLeave (y1.xs.map CSession.abs) n t).2.2 = (mLeave (s.xs.map CSession.abs) n t).2.2) (fun h2 => ?_) fun h2 => ?_
 rotate_left
 · exfalso; first | (simp at h2; done) | (rw [hF1] at h2; simp at h2; done)
 refine Mp ?_ Try.call22 (fun bs w hS => same_sessions _ _ w (hS.res _ i1) (hS.res _ i0) (by rw [hF2, hF3, hF1]))
 refine Mq 45 true ?_ rfl
 refine Mp ?_ Try.call22 (fun bs w hS => same_sessions _ _ w (hS.res _ i2) (Sl.rd.kp hs hS.kp) hF1)
 exact Meb true (by simp [retOf, den])

end Go.Proofs.Ytakdjdfkdbofoaa.W
