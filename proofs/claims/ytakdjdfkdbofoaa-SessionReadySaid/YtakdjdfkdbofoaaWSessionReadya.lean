/-
  The functions that the law SessionReady reaches, walked: each returns what its model says.
  Conditions: those that each theorem states.
-/
import Derived.Test.YtakdjdfkdbofoaaFe
import Derived.Test.YtakdjdfkdbofoaaChecked
set_option linter.unusedVariables false
set_option linter.unusedSimpArgs false
set_option maxRecDepth 100000
set_option maxHeartbeats 2000000
namespace Go.Proofs.Ytakdjdfkdbofoaa.W
open Go.Proofs.Ytakdjdfkdbofoaa.Fw Go.RowKit
attribute [local irreducible] JM nx

theorem Try_mixed : Try.prog.follows .mixedOrders = true := by kernel_rfl
theorem laid : laidOutB Try.prog = true := by kernel_rfl

theorem ref_In (n lo hi : Int) (w : World) : Calls Try.prog 64 #[vi n, vi lo, vi hi] w fun e w' => e = .returned (vb (inB n lo hi)) ∧ Kp [] w w' := by
 refine M0 ?_ Try.func64
 refine Md (lo ≤ n) (fun h1 => ?_) fun h1 => ?_
 rotate_left
 · exact Mt [vb false] fun bs w hS => ⟨by simp [retOf, den, inB, h1], hS.kp⟩
 exact Mt [vb (decide (n ≤ hi))] fun bs w hS => ⟨by simp [retOf, den, inB, h1], hS.kp⟩

theorem session_replies {B : Nat → Prop} (x : CSession) (w : World) (hx : Rds.sub B w x) (hb : 0 ≤ x.acked ∧ x.acked ≤ 1048576) : Calls Try.prog 80 #[x.val] w fun e w' => e = .returned (vb (mReplies x.abs)) ∧ Kp [] w w' := by
 have okx := Rds.okof hx
 have ncx := Sl.ok.nc okx
 have hns : x.replies.n = x.replies.xs.length := rfl
 have hat : ∀ q, x.abs.replies.getD q default = x.replies.at q := fun _ => rfl
 have hac : x.abs.acked = x.acked := rfl
 have hln : x.abs.replies.length = x.replies.n := rfl
 refine M0 ?_ Try.func80
 refine Ml (σ := Nat) (fun i => i ≤ x.replies.n ∧ allTo (keptOk x.abs) i = true) (fun i => x.replies.n - i) (fun _ => []) [9, 8, 7, 1] (fun i => [(9, vI (i : Int))]) (fun _ => []) ?_ 0 ⟨Nat.zero_le _, rfl⟩
 rintro i ⟨hi, hI⟩ _ on1
 refine Md ((i : Int) < (x.replies.n : Int)) (fun h1 => ?_) fun h1 => ?_
 rotate_left
 · have hm : mReplies x.abs = true := by show allTo _ x.abs.replies.length = true; rw [hln, show x.replies.n = i by omega]; exact hI
   exact Meb true hm
 refine Mi ?_ (pA 12 13 (i : Int) i (s := x.replies) (fun w hk hr => (Rds.kp hx hk)))
 refine Mda 29 [] [] [] Try_mixed ?_
 refine Md ((x.replies.at i).seq ≤ x.acked) (fun h2 => ?_) fun h2 => ?_
 · have hm : mReplies x.abs = false := allTo_bad (j := i) (decide_eq_false (fun hk => by simp only [hat, hac] at hk; omega)) (show i < x.abs.replies.length by rw [hln]; omega)
   exact Meb false hm
 refine Mih ?_ (pR (x.acked + 4))
 refine Md (x.acked + 4 < (x.replies.at i).seq) (fun h3 => ?_) fun h3 => ?_
 · have hm : mReplies x.abs = false := allTo_bad (j := i) (decide_eq_false (fun hk => by simp only [hat, hac] at hk; omega)) (show i < x.abs.replies.length by rw [hln]; omega)
   exact Meb false hm
 refine Md ((0 : Int) < (i : Int)) (fun h4 => ?_) fun h4 => ?_
 rotate_left
 · refine Md ((x.replies.at i).reply.code < 0) (fun h11 => ?_) fun h11 => ?_
   · have hm : mReplies x.abs = false := allTo_bad (j := i) (decide_eq_false (fun hk => by simp only [hat, hac] at hk; omega)) (show i < x.abs.replies.length by rw [hln]; omega)
     exact Meb false hm
   refine Md ((15 : Int) < (x.replies.at i).reply.code) (fun h12 => ?_) fun h12 => ?_
   · have hm : mReplies x.abs = false := allTo_bad (j := i) (decide_eq_false (fun hk => by simp only [hat, hac] at hk; omega)) (show i < x.abs.replies.length by rw [hln]; omega)
     exact Meb false hm
   refine Md ((x.replies.at i).reply.n < 0) (fun h13 => ?_) fun h13 => ?_
   · have hm : mReplies x.abs = false := allTo_bad (j := i) (decide_eq_false (fun hk => by simp only [hat, hac] at hk; omega)) (show i < x.abs.replies.length by rw [hln]; omega)
     exact Meb false hm
   refine Md ((1073741824 : Int) < (x.replies.at i).reply.n) (fun h14 => ?_) fun h14 => ?_
   · have hm : mReplies x.abs = false := allTo_bad (j := i) (decide_eq_false (fun hk => by simp only [hat, hac] at hk; omega)) (show i < x.abs.replies.length by rw [hln]; omega)
     exact Meb false hm
   refine Md ((12 : Int) < ((x.replies.at i).reply.text.size : Int)) (fun h15 => ?_) fun h15 => ?_
   rotate_left
   · refine Mi ?_ (pR ((i : Int) + 1))
     exact on1 (i + 1) ⟨by omega, allTo_step hI (decide_eq_true (by simp only [hat, hac]; exact ⟨by omega, by omega, by omega, by omega, by omega, by omega, by omega, by omega⟩))⟩ (by omega)
   have hm : mReplies x.abs = false := allTo_bad (j := i) (decide_eq_false (fun hk => by simp only [hat, hac] at hk; omega)) (show i < x.abs.replies.length by rw [hln]; omega)
   exact Meb false hm
 refine Mih ?_ (pc (pR ((i : Int) - 1)) (pc (pI 35 ((i : Int) - 1) (i - 1) (s := x.replies) (fun w hk hr => (Rds.kp hx hk))) (pF 37 (i - 1) 0 1 (s := x.replies) (fun w hk hr => (Rds.kp hx hk)))))
 refine Md ((x.replies.at i).seq ≤ (x.replies.at (i - 1)).seq) (fun h5 => ?_) fun h5 => ?_
 · have hm : mReplies x.abs = false := allTo_bad (j := i) (decide_eq_false (fun hk => by simp only [hat, hac] at hk; omega)) (show i < x.abs.replies.length by rw [hln]; omega)
   exact Meb false hm
 refine Md ((x.replies.at i).reply.code < 0) (fun h6 => ?_) fun h6 => ?_
 · have hm : mReplies x.abs = false := allTo_bad (j := i) (decide_eq_false (fun hk => by simp only [hat, hac] at hk; omega)) (show i < x.abs.replies.length by rw [hln]; omega)
   exact Meb false hm
 refine Md ((15 : Int) < (x.replies.at i).reply.code) (fun h7 => ?_) fun h7 => ?_
 · have hm : mReplies x.abs = false := allTo_bad (j := i) (decide_eq_false (fun hk => by simp only [hat, hac] at hk; omega)) (show i < x.abs.replies.length by rw [hln]; omega)
   exact Meb false hm
 refine Md ((x.replies.at i).reply.n < 0) (fun h8 => ?_) fun h8 => ?_
 · have hm : mReplies x.abs = false := allTo_bad (j := i) (decide_eq_false (fun hk => by simp only [hat, hac] at hk; omega)) (show i < x.abs.replies.length by rw [hln]; omega)
   exact Meb false hm
 refine Md ((1073741824 : Int) < (x.replies.at i).reply.n) (fun h9 => ?_) fun h9 => ?_
 · have hm : mReplies x.abs = false := allTo_bad (j := i) (decide_eq_false (fun hk => by simp only [hat, hac] at hk; omega)) (show i < x.abs.replies.length by rw [hln]; omega)
   exact Meb false hm
 refine Md ((12 : Int) < ((x.replies.at i).reply.text.size : Int)) (fun h10 => ?_) fun h10 => ?_
 rotate_left
 · refine Mi ?_ (pR ((i : Int) + 1))
   exact on1 (i + 1) ⟨by omega, allTo_step hI (decide_eq_true (by simp only [hat, hac]; exact ⟨by omega, by omega, by omega, by omega, by omega, by omega, by omega, by omega⟩))⟩ (by omega)
 have hm : mReplies x.abs = false := allTo_bad (j := i) (decide_eq_false (fun hk => by simp only [hat, hac] at hk; omega)) (show i < x.abs.replies.length by rw [hln]; omega)
 exact Meb false hm

theorem ref_repliesMay {B : Nat → Prop} (x : CSession) (w : World) (hx : Rds.sub B w x) (hb : 0 ≤ x.acked ∧ x.acked ≤ 1048576) : Calls Try.prog 82 #[x.val] w fun e w' => e = .returned (vb (mReplies x.abs)) ∧ Kp [] w w' := by
 have okx := Rds.okof hx
 have ncx := Sl.ok.nc okx
 have hns : x.replies.n = x.replies.xs.length := rfl
 have hat : ∀ q, x.abs.replies.getD q default = x.replies.at q := fun _ => rfl
 have hac : x.abs.acked = x.acked := rfl
 have hln : x.abs.replies.length = x.replies.n := rfl
 refine M0 ?_ Try.func82
 refine Ml (σ := Nat × Int) (fun ⟨i, la⟩ => i ≤ x.replies.n ∧ allTo (keptOk x.abs) i = true ∧ x.acked ≤ la ∧ la ≤ x.acked + 4 ∧ (i = 0 → la = x.acked) ∧ (0 < i → la = (x.replies.at (i - 1)).seq)) (fun ⟨i, la⟩ => x.replies.n - i) (fun _ => []) [4, 3, 1] (fun ⟨i, la⟩ => [(4, vI (i : Int)), (3, vI la)]) (fun _ => []) ?_ (⟨0, x.acked⟩) ⟨Nat.zero_le _, rfl, by omega, by omega, fun _ => rfl, fun h => absurd h (by omega)⟩
 rintro ⟨i, la⟩ ⟨hi, hI, hl1, hl2, hl3, hl4⟩ _ on1
 have hz : i = 0 ∧ la = x.acked ∨ 0 < i ∧ la = (x.replies.at (i - 1)).seq := by rcases Nat.eq_zero_or_pos i with h | h; exact .inl ⟨h, hl3 h⟩; exact .inr ⟨h, hl4 h⟩
 refine Md ((i : Int) < (x.replies.n : Int)) (fun h1 => ?_) fun h1 => ?_
 rotate_left
 · have hm : mReplies x.abs = true := by show allTo _ x.abs.replies.length = true; rw [hln, show x.replies.n = i by omega]; exact hI
   exact Meb true hm
 refine Mi ?_ (pc (pA 18 19 (i : Int) i (s := x.replies) (fun w hk hr => (Rds.kp hx hk))) (pc (pR (la + 1)) (pR (x.acked + 4))))
 refine Mp ?_ Try.call64 (fun bs w hS => ref_In (x.replies.at i).seq (la + 1) (x.acked + 4) w)
 refine Mbn (inB (x.replies.at i).seq (la + 1) (x.acked + 4)) (fun h2 => ?_) fun h2 => ?_
 rotate_left
 · simp only [iT, iF] at h2
   have hm : mReplies x.abs = false := allTo_bad (j := i) (decide_eq_false (fun hk => by simp only [hat, hac] at hk; omega)) (show i < x.abs.replies.length by rw [hln]; omega)
   exact Meb false hm
 simp only [iT, iF] at h2
 refine Mp ?_ Try.call64 (fun bs w hS => ref_In (x.replies.at i).reply.code 0 15 w)
 refine Mbn (inB (x.replies.at i).reply.code 0 15) (fun h3 => ?_) fun h3 => ?_
 rotate_left
 · simp only [iT, iF] at h3
   have hm : mReplies x.abs = false := allTo_bad (j := i) (decide_eq_false (fun hk => by simp only [hat, hac] at hk; omega)) (show i < x.abs.replies.length by rw [hln]; omega)
   exact Meb false hm
 simp only [iT, iF] at h3
 refine Mp ?_ Try.call64 (fun bs w hS => ref_In (x.replies.at i).reply.n 0 1073741824 w)
 refine Mbn (inB (x.replies.at i).reply.n 0 1073741824) (fun h4 => ?_) fun h4 => ?_
 rotate_left
 · simp only [iT, iF] at h4
   have hm : mReplies x.abs = false := allTo_bad (j := i) (decide_eq_false (fun hk => by simp only [hat, hac] at hk; omega)) (show i < x.abs.replies.length by rw [hln]; omega)
   exact Meb false hm
 simp only [iT, iF] at h4
 refine Md ((12 : Int) < ((x.replies.at i).reply.text.size : Int)) (fun h5 => ?_) fun h5 => ?_
 · have hm : mReplies x.abs = false := allTo_bad (j := i) (decide_eq_false (fun hk => by simp only [hat, hac] at hk; omega)) (show i < x.abs.replies.length by rw [hln]; omega)
   exact Meb false hm
 refine Mi ?_ (pR ((i : Int) + 1))
 exact on1 ⟨i + 1, (x.replies.at i).seq⟩ ⟨by omega, allTo_step hI (decide_eq_true (by simp only [hat, hac]; exact ⟨by omega, by omega, by omega, by omega, by omega, by omega, by omega, by omega⟩)), by omega, by omega, fun h => absurd h (by omega), fun _ => rfl⟩ (by show x.replies.n - (i + 1) < x.replies.n - i; omega)

theorem session_Check {B : Nat → Prop} (s : Sl CSession) (n : Int) (w : World) (hs : s.rd B w) : Calls Try.prog 51 #[s.val, vi n] w fun e w' => e = .returned (vi (mSess (s.xs.map CSession.abs) n)) ∧ Kp [] w w' := by
 have oks := Sl.rd.ok hs
 have ncs := Sl.ok.nc oks
 have hns : s.n = s.xs.length := rfl
 have hat : ∀ q, (s.xs.map CSession.abs).getD q default = (s.at q).abs := fun q => sabs_at q
 have hq0 : ∀ q, (s.at q).abs.client = (s.at q).client := fun _ => rfl
 have hq1 : ∀ q, (s.at q).abs.id = (s.at q).id := fun _ => rfl
 have hq2 : ∀ q, (s.at q).abs.acked = (s.at q).acked := fun _ => rfl
 have hq3 : ∀ q, (s.at q).abs.last = (s.at q).last := fun _ => rfl
 have hml : (s.xs.map CSession.abs).length = s.n := by simp
 refine M0 ?_ Try.func51
 refine Md (n < 0) (fun h1 => ?_) fun h1 => ?_
 · have hm : mSess (s.xs.map CSession.abs) n = 2 := by
     unfold mSess; rw [hml]
     first | rw [if_pos (by omega)] | rw [if_neg (by omega), if_pos (by omega)]
   exact Me0 2 hm
 refine Md ((1073741824 : Int) < n) (fun h2 => ?_) fun h2 => ?_
 · have hm : mSess (s.xs.map CSession.abs) n = 2 := by
     unfold mSess; rw [hml]
     first | rw [if_pos (by omega)] | rw [if_neg (by omega), if_pos (by omega)]
   exact Me0 2 hm
 refine Md ((4 : Int) < (s.n : Int)) (fun h3 => ?_) fun h3 => ?_
 · have hm : mSess (s.xs.map CSession.abs) n = 1 := by
     unfold mSess; rw [hml]
     first | rw [if_pos (by omega)] | rw [if_neg (by omega), if_pos (by omega)]
   exact Me0 1 hm
 refine Ml (σ := Nat) (fun i => i ≤ s.n ∧ mSess (s.xs.map CSession.abs) n = firstF (sessF (s.xs.map CSession.abs) n) (s.n - i) i) (fun i => s.n - i) (fun _ => []) [18, 17, 16, 0, 1] (fun i => [(18, vI (i : Int))]) (fun _ => []) ?_ 0 ⟨Nat.zero_le _, by unfold mSess; rw [hml, if_neg (by omega), if_neg (by omega)]⟩
 rintro i ⟨hi, hI⟩ _ on1
 refine Md ((i : Int) < (s.n : Int)) (fun h4 => ?_) fun h4 => ?_
 rotate_left
 · exact Me0 0 (by rw [hI, firstF_end (by omega)])
 refine Mi ?_ (pA 21 22 (i : Int) i (rdk hs))
 refine Md ((s.at i).client < 1) (fun h5 => ?_) fun h5 => ?_
 · refine Me0 2 ?_
   have hf : sessF (s.xs.map CSession.abs) n i = 2 := by
     grind [sessF]
   rw [hI, firstF_here (by omega) hf (by omega)]
 refine Md ((9 : Int) < (s.at i).client) (fun h6 => ?_) fun h6 => ?_
 · refine Me0 2 ?_
   have hf : sessF (s.xs.map CSession.abs) n i = 2 := by
     grind [sessF]
   rw [hI, firstF_here (by omega) hf (by omega)]
 refine Md ((s.at i).acked < 0) (fun h7 => ?_) fun h7 => ?_
 · refine Me0 2 ?_
   have hf : sessF (s.xs.map CSession.abs) n i = 2 := by
     grind [sessF]
   rw [hI, firstF_here (by omega) hf (by omega)]
 refine Md ((1048576 : Int) < (s.at i).acked) (fun h8 => ?_) fun h8 => ?_
 · refine Me0 2 ?_
   have hf : sessF (s.xs.map CSession.abs) n i = 2 := by
     grind [sessF]
   rw [hI, firstF_here (by omega) hf (by omega)]
 refine Md ((s.at i).id < 1) (fun h9 => ?_) fun h9 => ?_
 · refine Me0 2 ?_
   have hf : sessF (s.xs.map CSession.abs) n i = 2 := by
     grind [sessF]
   rw [hI, firstF_here (by omega) hf (by omega)]
 refine Md ((s.at i).last < (s.at i).id) (fun h10 => ?_) fun h10 => ?_
 · refine Me0 2 ?_
   have hf : sessF (s.xs.map CSession.abs) n i = 2 := by
     grind [sessF]
   rw [hI, firstF_here (by omega) hf (by omega)]
 refine Md (n < (s.at i).last) (fun h11 => ?_) fun h11 => ?_
 · refine Me0 2 ?_
   have hf : sessF (s.xs.map CSession.abs) n i = 2 := by
     grind [sessF]
   rw [hI, firstF_here (by omega) hf (by omega)]
 refine Mp ?_ Try.call80 (fun bs w hS => session_replies (s.at i) w (Sl.rd.sub (s := s) (i := i) (Sl.rd.kp hs hS.kp) (by omega)) (by first | exact ⟨by omega, by omega⟩ | (simp only [] at *; exact ⟨by omega, by omega⟩)))
 refine Mbn (mReplies (s.at i).abs) (fun h12 => ?_) fun h12 => ?_
 rotate_left
 · refine Me0 4 ?_
   have hf : sessF (s.xs.map CSession.abs) n i = 4 := by
     grind [sessF]
   rw [hI, firstF_here (by omega) hf (by omega)]
 refine Mda 13 [] [] [] Try_mixed ?_
 refine Md ((0 : Int) < (i : Int)) (fun h13 => ?_) fun h13 => ?_
 rotate_left
 · refine Mi ?_ (pR ((i : Int) + 1))
   have hf0 : sessF (s.xs.map CSession.abs) n i = 0 := by
     grind [sessF]
   exact on1 (i + 1) ⟨by omega, by rw [hI]; exact firstF_step (by omega) hf0⟩ (by omega)
 refine Mih ?_ (pc (pR ((i : Int) - 1)) (pc (pI 68 ((i : Int) - 1) (i - 1) (rdk hs)) (pF 70 (i - 1) 0 1 (rdk hs))))
 refine Md ((s.at i).client ≤ (s.at (i - 1)).client) (fun h14 => ?_) fun h14 => ?_
 rotate_left
 · refine Mi ?_ (pR ((i : Int) + 1))
   have hf0 : sessF (s.xs.map CSession.abs) n i = 0 := by
     grind [sessF]
   exact on1 (i + 1) ⟨by omega, by rw [hI]; exact firstF_step (by omega) hf0⟩ (by omega)
 refine Me0 14 ?_
 have hf : sessF (s.xs.map CSession.abs) n i = 14 := by
   grind [sessF]
 rw [hI, firstF_here (by omega) hf (by omega)]

theorem ref_SessionsFault {B : Nat → Prop} (s : Sl CSession) (n : Int) (w : World) (hs : s.rd B w) : Calls Try.prog 54 #[s.val, vi n] w fun e w' => e = .returned (vi (mSess (s.xs.map CSession.abs) n)) ∧ Kp [] w w' := by
 have oks := Sl.rd.ok hs
 have ncs := Sl.ok.nc oks
 have hns : s.n = s.xs.length := rfl
 have hat : ∀ q, (s.xs.map CSession.abs).getD q default = (s.at q).abs := fun q => sabs_at q
 have hq0 : ∀ q, (s.at q).abs.client = (s.at q).client := fun _ => rfl
 have hq1 : ∀ q, (s.at q).abs.id = (s.at q).id := fun _ => rfl
 have hq2 : ∀ q, (s.at q).abs.acked = (s.at q).acked := fun _ => rfl
 have hq3 : ∀ q, (s.at q).abs.last = (s.at q).last := fun _ => rfl
 have hml : (s.xs.map CSession.abs).length = s.n := by simp
 refine M0 ?_ Try.func54
 refine Mp ?_ Try.call64 (fun bs w hS => ref_In n 0 1073741824 w)
 refine Mbn (inB n 0 1073741824) (fun h1 => ?_) fun h1 => ?_
 rotate_left
 · simp only [iT, iF] at h1
   have hm : mSess (s.xs.map CSession.abs) n = 2 := by
     unfold mSess; rw [hml]
     first | rw [if_pos (by omega)] | rw [if_neg (by omega), if_pos (by omega)]
   exact Me0 2 hm
 simp only [iT, iF] at h1
 refine Md ((4 : Int) < (s.n : Int)) (fun h2 => ?_) fun h2 => ?_
 · have hm : mSess (s.xs.map CSession.abs) n = 1 := by
     unfold mSess; rw [hml]
     first | rw [if_pos (by omega)] | rw [if_neg (by omega), if_pos (by omega)]
   exact Me0 1 hm
 refine Ml (σ := Nat) (fun i => i ≤ s.n ∧ mSess (s.xs.map CSession.abs) n = firstF (sessF (s.xs.map CSession.abs) n) (s.n - i) i) (fun i => s.n - i) (fun _ => []) [5, 0, 1] (fun i => [(5, vI (i : Int))]) (fun _ => []) ?_ 0 ⟨Nat.zero_le _, by unfold mSess; rw [hml, if_neg (by omega), if_neg (by omega)]⟩
 rintro i ⟨hi, hI⟩ _ on1
 refine Md ((i : Int) < (s.n : Int)) (fun h3 => ?_) fun h3 => ?_
 rotate_left
 · exact Me0 0 (by rw [hI, firstF_end (by omega)])
 refine Mi ?_ (pA 21 22 (i : Int) i (rdk hs))
 refine Mp ?_ Try.call64 (fun bs w hS => ref_In (s.at i).client 1 9 w)
 refine Mbn (inB (s.at i).client 1 9) (fun h4 => ?_) fun h4 => ?_
 rotate_left
 · simp only [iT, iF] at h4
   refine Me0 2 ?_
   have hf : sessF (s.xs.map CSession.abs) n i = 2 := by
     grind [sessF]
   rw [hI, firstF_here (by omega) hf (by omega)]
 simp only [iT, iF] at h4
 refine Mp ?_ Try.call64 (fun bs w hS => ref_In (s.at i).acked 0 1048576 w)
 refine Mbn (inB (s.at i).acked 0 1048576) (fun h5 => ?_) fun h5 => ?_
 rotate_left
 · simp only [iT, iF] at h5
   refine Me0 2 ?_
   have hf : sessF (s.xs.map CSession.abs) n i = 2 := by
     grind [sessF]
   rw [hI, firstF_here (by omega) hf (by omega)]
 simp only [iT, iF] at h5
 refine Mp ?_ Try.call64 (fun bs w hS => ref_In (s.at i).id 1 n w)
 refine Mbn (inB (s.at i).id 1 n) (fun h6 => ?_) fun h6 => ?_
 rotate_left
 · simp only [iT, iF] at h6
   refine Me0 2 ?_
   have hf : sessF (s.xs.map CSession.abs) n i = 2 := by
     grind [sessF]
   rw [hI, firstF_here (by omega) hf (by omega)]
 simp only [iT, iF] at h6
 refine Mp ?_ Try.call64 (fun bs w hS => ref_In (s.at i).last (s.at i).id n w)
 refine Mbn (inB (s.at i).last (s.at i).id n) (fun h7 => ?_) fun h7 => ?_
 rotate_left
 · simp only [iT, iF] at h7
   refine Me0 2 ?_
   have hf : sessF (s.xs.map CSession.abs) n i = 2 := by
     grind [sessF]
   rw [hI, firstF_here (by omega) hf (by omega)]
 simp only [iT, iF] at h7
 refine Mp ?_ Try.call82 (fun bs w hS => ref_repliesMay (s.at i) w (Sl.rd.sub (s := s) (i := i) (Sl.rd.kp hs hS.kp) (by omega)) (by first | exact ⟨by omega, by omega⟩ | (simp only [] at *; exact ⟨by omega, by omega⟩)))
 refine Mbn (mReplies (s.at i).abs) (fun h8 => ?_) fun h8 => ?_
 rotate_left
 · refine Me0 4 ?_
   have hf : sessF (s.xs.map CSession.abs) n i = 4 := by
     grind [sessF]
   rw [hI, firstF_here (by omega) hf (by omega)]
 refine Mda 13 [] [] [] Try_mixed ?_
 refine Md ((0 : Int) < (i : Int)) (fun h9 => ?_) fun h9 => ?_
 rotate_left
 · refine Mi ?_ (pR ((i : Int) + 1))
   have hf0 : sessF (s.xs.map CSession.abs) n i = 0 := by
     grind [sessF]
   exact on1 (i + 1) ⟨by omega, by rw [hI]; exact firstF_step (by omega) hf0⟩ (by omega)
 refine Mih ?_ (pc (pR ((i : Int) - 1)) (pc (pI 60 ((i : Int) - 1) (i - 1) (rdk hs)) (pF 62 (i - 1) 0 1 (rdk hs))))
 refine Md ((s.at i).client ≤ (s.at (i - 1)).client) (fun h10 => ?_) fun h10 => ?_
 rotate_left
 · refine Mi ?_ (pR ((i : Int) + 1))
   have hf0 : sessF (s.xs.map CSession.abs) n i = 0 := by
     grind [sessF]
   exact on1 (i + 1) ⟨by omega, by rw [hI]; exact firstF_step (by omega) hf0⟩ (by omega)
 refine Me0 14 ?_
 have hf : sessF (s.xs.map CSession.abs) n i = 14 := by
   grind [sessF]
 rw [hI, firstF_here (by omega) hf (by omega)]

theorem clone_Kept {B : Nat → Prop} (s : Sl DKept) (w : World) (hs : s.rd B w) (hb : s.n * 40 ≤ 140737488355328) : Calls Try.prog 47 #[s.val] w fun e w' => ∃ y : Sl DKept, e = .returned y.val ∧ y.xs = s.xs ∧ Kp [] w w' ∧ Fresh w w' (rowA 94 y.A y.c y.xs) := by
 have oks := Sl.rd.ok hs
 have ncs := Sl.ok.nc oks
 have hns : s.n = s.xs.length := rfl
 refine M0 ?_ Try.func47
 refine Mi ?_ (pG [(4, .val (.bool s.A.isNone))] (oc ((eq_nil Try.underlying89) : ∀ w, (do eqGuard .eql 89 (.tmp 3) (.const vn) s.val vn; binOp .eql 89 s.val vn : Sem Value).run Try.prog w = .ok (.bool s.A.isNone) w) on))
 refine Mb s.A.isNone (fun h1 => ?_) fun h1 => ?_
 · refine Mt [vn] fun bs w hS => ?_
   have hnil : s.xs = [] := Sl.ok.empty oks (by cases h : s.A <;> simp_all)
   exact ⟨Sl.nil, rfl, hnil.symm, hS.kp, rowA_nil 94 w⟩
 refine Mlz ?_ (α := DKept) (e := 94)
 intro A1
 refine Ma ?_ (α := DKept) (L2 := s.xs) 40 (fun bs w hS => Sl.rd.src (s := s) (Sl.rd.kp hs hS.kp))
 intro A2 c2
 exact Mt [.slice A2 ([] ++ s.xs).length c2] fun bs w hS => ⟨⟨A2, c2, [] ++ s.xs⟩, rfl, by simp, hS.kp, hS.out1⟩

theorem session_Copy {B : Nat → Prop} (s : Sl CSession) (w : World) (hs : s.rd B w) (hsm : Rds.small s) : Calls Try.prog 21 #[s.val] w fun e w' => ∃ y : Sl CSession, e = .returned y.val ∧ y.xs.map CSession.abs = s.xs.map CSession.abs ∧ Kp [] w w' ∧ Fresh w w' (sessR 91 94 y) := by
 have oks := Sl.rd.ok hs
 have ncs := Sl.ok.nc oks
 refine M0 ?_ Try.func21
 refine m_rowA (α := CSession) 91 ?_
 refine m_nores (ownL (keptR 94) []) rfl (fun w x hx => by cases hx) ?_
 refine Ml (σ := Nat × Option Addr × Nat × List CSession) (fun ⟨i, A, c, L⟩ => i ≤ s.n ∧ L.length = i ∧ L.map CSession.abs = (s.xs.take i).map CSession.abs) (fun ⟨i, A, c, L⟩ => s.n - i) (fun ⟨i, A, c, L⟩ => [ownL (keptR 94) L, rowA 91 A c (L : List CSession)]) [8, 7, 6, 3] (fun ⟨i, A, c, L⟩ => [(8, vI (i : Int)), (3, .v (.slice A L.length c))]) (fun _ => []) ?_ (⟨0, none, 0, []⟩) ⟨Nat.zero_le _, rfl, by simp⟩
 rintro ⟨i, A, c, L⟩ ⟨hi, hL, hI⟩ _ on1
 have hsn : s.n * 56 ≤ 140737488355328 := hsm.1
 refine Md ((i : Int) < (s.n : Int)) (fun h1 => ?_) fun h1 => ?_
 rotate_left
 · refine Mt [.slice A L.length c] fun bs w hS => ?_
   have hn : L.length = s.n := by omega
   exact ⟨⟨A, c, L⟩, rfl, by rw [hI, take_all (by omega)], hS.kp, hS.out⟩
 refine Mi ?_ (pA 10 11 (i : Int) i (rdk hs))
 refine Mf ?_ Try.call47 (fun bs w hS => clone_Kept (s.at i).replies w (Sl.rd.sub (s := s) (i := i) (Sl.rd.kp hs hS.kp) (by omega)) (hsm.2 i (by omega)).1)
 rintro y1 hF1
 refine M1 ?_
 refine m_f2 ?_
 refine Mal (α := CSession) 56 ([(⟨(s.at i).client, (s.at i).id, (s.at i).acked, (s.at i).last, y1⟩ : CSession)]) ?_
 intro A3 c3
 refine Mi ?_ (pR ((i : Int) + 1))
 refine m_perm (R' := [rowA 94 y1.A y1.c (y1.xs : List DKept), ownL (keptR 94) L, rowA 91 A3 c3 (L ++ [(⟨(s.at i).client, (s.at i).id, (s.at i).acked, (s.at i).last, y1⟩ : CSession)] : List CSession)]) (by exact perm3 0 _ _ _) ?_
 refine m_join (ownL (keptR 94) (L ++ [(⟨(s.at i).client, (s.at i).id, (s.at i).acked, (s.at i).last, y1⟩ : CSession)])) (ownL_app_fp (keptR 94) L (⟨(s.at i).client, (s.at i).id, (s.at i).acked, (s.at i).last, y1⟩ : CSession)) (fun w => ownL_app_p (keptR 94) L (⟨(s.at i).client, (s.at i).id, (s.at i).acked, (s.at i).last, y1⟩ : CSession) w) ?_
 exact on1 ⟨i + 1, A3, c3, L ++ [(⟨(s.at i).client, (s.at i).id, (s.at i).acked, (s.at i).last, y1⟩ : CSession)]⟩ ⟨by omega, by rw [List.length_append]; simp [hL], map_take_snoc (by omega) hI (by first | simp [CSession.abs, hF1] | simp [CSession.abs])⟩ (by show s.n - (i + 1) < s.n - i; omega)
theorem session_CopyS {B : Nat → Prop} (s : Sl CSession) (w : World) (hs : s.rd B w) (hsm : Rds.small s) : Calls Try.prog 21 #[s.val] w fun e w' => ∃ y : Sl CSession, e = .returned y.val ∧ y.xs.map CSession.abs = s.xs.map CSession.abs ∧ FreshS w w' y :=
  (session_Copy s w hs hsm).mono fun e w' ⟨y, h1, h2, h3, h4⟩ => ⟨y, h1, h2, h3, h4.sub fun hp => sessR_rd hp (sess_texts hs h2)⟩

theorem ref_SessionsCopy {B : Nat → Prop} (s : Sl CSession) (w : World) (hs : s.rd B w) (hsm : Rds.small s) : Calls Try.prog 50 #[s.val] w fun e w' => ∃ y : Sl CSession, e = .returned y.val ∧ y.xs.map CSession.abs = s.xs.map CSession.abs ∧ Kp [] w w' ∧ Fresh w w' (sessR 91 94 y) := by
 have oks := Sl.rd.ok hs
 have ncs := Sl.ok.nc oks
 refine M0 ?_ Try.func50
 refine m_rowA (α := CSession) 91 ?_
 refine m_nores (ownL (keptR 94) []) rfl (fun w x hx => by cases hx) ?_
 refine Ml (σ := Nat × Option Addr × Nat × List CSession) (fun ⟨i, A, c, L⟩ => i ≤ s.n ∧ L.length = i ∧ L.map CSession.abs = (s.xs.take i).map CSession.abs) (fun ⟨i, A, c, L⟩ => s.n - i) (fun ⟨i, A, c, L⟩ => [ownL (keptR 94) L, rowA 91 A c (L : List CSession)]) [4, 3, 0] (fun ⟨i, A, c, L⟩ => [(4, vI (i : Int)), (3, .v (.slice A L.length c))]) (fun _ => []) ?_ (⟨0, none, 0, []⟩) ⟨Nat.zero_le _, rfl, by simp⟩
 rintro ⟨i, A, c, L⟩ ⟨hi, hL, hI⟩ _ on1
 have hsn : s.n * 56 ≤ 140737488355328 := hsm.1
 refine Md ((i : Int) < (s.n : Int)) (fun h1 => ?_) fun h1 => ?_
 rotate_left
 · refine Mt [.slice A L.length c] fun bs w hS => ?_
   have hn : L.length = s.n := by omega
   exact ⟨⟨A, c, L⟩, rfl, by rw [hI, take_all (by omega)], hS.kp, hS.out⟩
 refine Mi ?_ (pA 14 15 (i : Int) i (rdk hs))
 refine m_rowA (α := DKept) 94 ?_
 refine Ma ?_ (α := DKept) (L2 := (s.at i).replies.xs) 40 (fun bs w hS => Sl.rd.src (s := (s.at i).replies) (Sl.rd.sub (s := s) (i := i) (Sl.rd.kp hs hS.kp) (by omega))) (h63 := (by first | omega | (simp only [List.length_nil, List.length_cons, List.length_append]; omega) | (have hq : _ * (40 : Nat) ≤ 140737488355328 := (hsm.2 i (by omega)).1; simp only [Sl.n, List.length_nil] at hq ⊢; omega))) (hb := (by first | omega | (simp only [List.length_nil, List.length_cons, List.length_append]; omega) | (have hq : _ * (40 : Nat) ≤ 140737488355328 := (hsm.2 i (by omega)).1; simp only [Sl.n, List.length_nil] at hq ⊢; omega)))
 intro A1 c1
 refine M1 ?_
 refine m_f2 ?_
 refine Mal (α := CSession) 56 ([(⟨(s.at i).client, (s.at i).id, (s.at i).acked, (s.at i).last, ⟨A1, c1, [] ++ (s.at i).replies.xs⟩⟩ : CSession)]) ?_
 intro A2 c2
 refine Mi ?_ (pR ((i : Int) + 1))
 refine m_perm (R' := [rowA 94 A1 c1 ([] ++ (s.at i).replies.xs : List DKept), ownL (keptR 94) L, rowA 91 A2 c2 (L ++ [(⟨(s.at i).client, (s.at i).id, (s.at i).acked, (s.at i).last, ⟨A1, c1, [] ++ (s.at i).replies.xs⟩⟩ : CSession)] : List CSession)]) (by exact perm3 0 _ _ _) ?_
 refine m_join (ownL (keptR 94) (L ++ [(⟨(s.at i).client, (s.at i).id, (s.at i).acked, (s.at i).last, ⟨A1, c1, [] ++ (s.at i).replies.xs⟩⟩ : CSession)])) (ownL_app_fp (keptR 94) L (⟨(s.at i).client, (s.at i).id, (s.at i).acked, (s.at i).last, ⟨A1, c1, [] ++ (s.at i).replies.xs⟩⟩ : CSession)) (fun w => ownL_app_p (keptR 94) L (⟨(s.at i).client, (s.at i).id, (s.at i).acked, (s.at i).last, ⟨A1, c1, [] ++ (s.at i).replies.xs⟩⟩ : CSession) w) ?_
 exact on1 ⟨i + 1, A2, c2, L ++ [(⟨(s.at i).client, (s.at i).id, (s.at i).acked, (s.at i).last, ⟨A1, c1, [] ++ (s.at i).replies.xs⟩⟩ : CSession)]⟩ ⟨by omega, by rw [List.length_append]; simp [hL], map_take_snoc (by omega) hI (by first | simp [CSession.abs, hF1] | simp [CSession.abs])⟩ (by show s.n - (i + 1) < s.n - i; omega)
theorem ref_SessionsCopyS {B : Nat → Prop} (s : Sl CSession) (w : World) (hs : s.rd B w) (hsm : Rds.small s) : Calls Try.prog 50 #[s.val] w fun e w' => ∃ y : Sl CSession, e = .returned y.val ∧ y.xs.map CSession.abs = s.xs.map CSession.abs ∧ FreshS w w' y :=
  (ref_SessionsCopy s w hs hsm).mono fun e w' ⟨y, h1, h2, h3, h4⟩ => ⟨y, h1, h2, h3, h4.sub fun hp => sessR_rd hp (sess_texts hs h2)⟩

theorem same_sessions {B B' : Nat → Prop} (a b : Sl CSession) (w : World) (ha : a.rd B w) (hb : b.rd B' w) (he : a.xs.map CSession.abs = b.xs.map CSession.abs) : Calls Try.prog 22 #[a.val, b.val] w fun e w' => e = .returned (vb true) ∧ Kp [] w w' := by
 have oka := Sl.rd.ok ha
 have okb := Sl.rd.ok hb
 have hn := map_n he
 have nca := Sl.ok.nc oka
 refine M0 ?_ Try.func22
 refine Mdn ((a.n : Int) = (b.n : Int)) (fun h1 => ?_) fun h1 => ?_
 rotate_left
 · exfalso; first | omega | (rw [hbt] at h1; simp at h1)
 refine Ml (σ := Nat) (fun i => True) (fun i => a.n - i) (fun _ => []) [5, 0, 1] (fun i => [(5, vI (i : Int))]) (fun _ => []) ?_ 0 trivial
 rintro i _ _ on1
 have hat := map_at (f := CSession.abs) (g := CSession.abs) rfl he i
 have q0 : (a.at i).client = (b.at i).client := congrArg DSession.client hat
 have q1 : (a.at i).id = (b.at i).id := congrArg DSession.id hat
 have q2 : (a.at i).acked = (b.at i).acked := congrArg DSession.acked hat
 have q3 : (a.at i).last = (b.at i).last := congrArg DSession.last hat
 have q4 : (a.at i).replies.xs = (b.at i).replies.xs := congrArg DSession.replies hat
 have q5 := xs_n q4
 refine Md ((i : Int) < (a.n : Int)) (fun h2 => ?_) fun h2 => ?_
 rotate_left
 · exact Mt [vb true] fun bs w hS => ⟨rfl, hS.kp⟩
 refine Mi ?_ (pc (pA 22 23 (i : Int) i (rdk ha)) (pA 26 27 (i : Int) i (rdk hb)))
 refine Mdn ((a.at i).client = (b.at i).client) (fun h3 => ?_) fun h3 => ?_
 rotate_left
 · exfalso; first | omega | (rw [hbt] at h3; simp at h3)
 refine Mdn ((a.at i).id = (b.at i).id) (fun h4 => ?_) fun h4 => ?_
 rotate_left
 · exfalso; first | omega | (rw [hbt] at h4; simp at h4)
 refine Mdn ((a.at i).acked = (b.at i).acked) (fun h5 => ?_) fun h5 => ?_
 rotate_left
 · exfalso; first | omega | (rw [hbt] at h5; simp at h5)
 refine Mdn ((a.at i).last = (b.at i).last) (fun h6 => ?_) fun h6 => ?_
 rotate_left
 · exfalso; first | omega | (rw [hbt] at h6; simp at h6)
 refine Mdn ((((a.at i).replies.n : Nat) : Int) = (((b.at i).replies.n : Nat) : Int)) (fun h7 => ?_) fun h7 => ?_
 rotate_left
 · exfalso; first | omega | (rw [hbt] at h7; simp at h7)
 refine Ml (σ := Nat) (fun j => True) (fun j => (a.at i).replies.n - j) (fun _ => []) [8, 7, 6, 5, 0, 1] (fun j => [(8, vI (j : Int))]) (fun _ => []) ?_ 0 trivial
 rintro j _ _ on2
 have hbt := xs_at q4 j
 have ncr := Sl.ok.nc (Sl.ok.at oka (show i < a.n by omega))
 refine Md ((j : Int) < (((a.at i).replies.n : Nat) : Int)) (fun h8 => ?_) fun h8 => ?_
 rotate_left
 · refine Mi ?_ (pR ((i : Int) + 1))
   exact on1 (i + 1) trivial (by omega)
 refine Mda 11 [] [] [] Try_mixed ?_
 refine Mih ?_ (pc (pA 73 74 (j : Int) j (s := (a.at i).replies) (fun w hk hr => (Sl.rd.sub (s := a) (i := i) (Sl.rd.kp ha hk) (by omega)))) (pc (pA 78 79 (j : Int) j (s := (b.at i).replies) (fun w hk hr => (Sl.rd.sub (s := b) (i := i) (Sl.rd.kp hb hk) (by omega)))) (pG [(80, .val (vb (!((decide (((a.at i).replies.at j).seq = ((b.at i).replies.at j).seq)) && (((decide (((a.at i).replies.at j).reply.code = ((b.at i).replies.at j).reply.code)) && ((decide (((a.at i).replies.at j).reply.n = ((b.at i).replies.at j).reply.n)) && ((decide (((a.at i).replies.at j).reply.text = ((b.at i).replies.at j).reply.text)) && true))) && true)))))] (oc ((neq_agg (by kernel_rfl) (by kernel_rfl)) : ∀ w, (do eqGuard .neq 94 (.tmp 74) (.tmp 79) ((a.at i).replies.at j).val ((b.at i).replies.at j).val; binOp .neq 94 ((a.at i).replies.at j).val ((b.at i).replies.at j).val : Sem Value).run Try.prog w = .ok (vb (!((decide (((a.at i).replies.at j).seq = ((b.at i).replies.at j).seq)) && (((decide (((a.at i).replies.at j).reply.code = ((b.at i).replies.at j).reply.code)) && ((decide (((a.at i).replies.at j).reply.n = ((b.at i).replies.at j).reply.n)) && ((decide (((a.at i).replies.at j).reply.text = ((b.at i).replies.at j).reply.text)) && true))) && true)))) w) on))))
 refine Mbn ((decide (((a.at i).replies.at j).seq = ((b.at i).replies.at j).seq)) && (((decide (((a.at i).replies.at j).reply.code = ((b.at i).replies.at j).reply.code)) && ((decide (((a.at i).replies.at j).reply.n = ((b.at i).replies.at j).reply.n)) && ((decide (((a.at i).replies.at j).reply.text = ((b.at i).replies.at j).reply.text)) && true))) && true)) (fun h9 => ?_) fun h9 => ?_
 rotate_left
 · exfalso; first | omega | (rw [hbt] at h9; simp at h9)
 refine Mi ?_ (pR ((j : Int) + 1))
 exact on2 (j + 1) trivial (by omega)

theorem law_kept {B : Nat → Prop} (s : Sl CSession) (w : World) (hs : s.rd B w) (hsm : Rds.small s) : Calls Try.prog 27 #[s.val] w fun e w' => ∃ y : Sl CSession, e = .returned y.val ∧ y.xs.map CSession.abs = s.xs.map CSession.abs ∧ FreshS w w' y := by
 have oks := Sl.rd.ok hs
 have ncs := Sl.ok.nc oks
 have hns : s.n = s.xs.length := rfl
 refine M0 ?_ Try.func27
 refine Mu ?_ Try.call50 (fun bs w hS => ref_SessionsCopyS s w (Sl.rd.kp hs hS.kp) hsm)
 rintro fp1 y1 hF1 hok1
 exact Mt [y1.val] fun bs w hS => ⟨y1, rfl, hF1, hS.outS (allR_sub i0 (hS.res _ i0))⟩

theorem session_find_1 (x : CSession) (t : Int) (w : World) : Calls Try.prog 86 #[x.val, vi t] w fun e w' => e = .returned (vi (IntKind.i64.wrap (x.client - t))) ∧ Kp [] w w' := by
 refine M0 ?_ Try.func86
 refine Mi ?_ (pG [(8, .val (vi (IntKind.i64.wrap (x.client - t))))] (oc (sub_wrap : ∀ w, (do eqGuard .sub 3 (.tmp 6) (.tmp 7) (vi x.client) (vi t); binOp .sub 3 (vi x.client) (vi t) : Sem Value).run Try.prog w = .ok (vi (IntKind.i64.wrap (x.client - t))) w) on))
 exact Mt [vi (IntKind.i64.wrap (x.client - t))] fun bs w hS => ⟨rfl, hS.kp⟩

theorem bs_session_find_1 {B : Nat → Prop} (s : Sl CSession) (t : Int) (w : World) (hs : s.rd B w) (hn : s.n ≤ 1048576) : Calls Try.prog 85 #[s.val, vi t, .func (.func 86) #[] #[]] w fun e w' => e = .returned (.tuple #[vi (mBS (fun x : CSession => IntKind.i64.wrap (x.client - t)) s.xs : Nat), vb (mBSf (fun x : CSession => IntKind.i64.wrap (x.client - t)) s.xs)]) ∧ Kp [] w w' := by
 have oks := Sl.rd.ok hs
 have ncs := Sl.ok.nc oks
 have hns : s.n = s.xs.length := rfl
 refine Mj ?_ Try.func85 (WS.start w)
 refine Ml (σ := Nat × Nat × Nat) (fun ⟨i, j, f⟩ => i ≤ j ∧ j ≤ s.n ∧ j - i ≤ f ∧ mBS (fun x : CSession => IntKind.i64.wrap (x.client - t)) s.xs = bsGo (fun j => decide (IntKind.i64.wrap ((s.at j).client - t) < 0)) f i j) (fun ⟨i, j, f⟩ => f) (fun _ => []) [10, 9, 8, 0, 1, 2] (fun ⟨i, j, f⟩ => [(10, vI (j : Int)), (9, vI (i : Int))]) (fun _ => []) ?_ (⟨0, s.n, s.n⟩) ⟨Nat.zero_le _, Nat.le_refl _, Nat.le_refl _, rfl⟩
 rintro ⟨i, j, f⟩ ⟨h1, h2, h3, hI⟩ _ on1
 have hdiv : ((i : Int) + (j : Int)) / 2 = (((i + j) / 2 : Nat) : Int) := by omega
 refine Md ((i : Int) < (j : Int)) (fun h1 => ?_) fun h1 => ?_
 rotate_left
 · refine Md ((i : Int) < (s.n : Int)) (fun h3 => ?_) fun h3 => ?_
   rotate_left
   · refine Mt [vi (i : Int), vb false] fun bs w hS => ?_
     have hij : i = j := by omega
     subst hij
     have hr : mBS (fun x : CSession => IntKind.i64.wrap (x.client - t)) s.xs = i := by rw [hI]; exact bsGo_end _ _ _ _ (Nat.le_refl _)
     refine ⟨?_, hS.kp⟩
     have hr2 : mBSf (fun x : CSession => IntKind.i64.wrap (x.client - t)) s.xs = false := by
       unfold mBSf; rw [hr]
       rw [decide_eq_false (show ¬ i < s.xs.length by omega)]; rfl
     rw [hr, hr2]
     rfl
   refine Mi ?_ (pA 43 44 (i : Int) i (rdk hs))
   refine Mp ?_ Try.call86 (fun bs w hS => session_find_1 (s.at i) t w)
   refine Mt [vi (i : Int), vb (decide (IntKind.i64.wrap ((s.at i).client - t) = 0))] fun bs w hS => ?_
   have hij : i = j := by omega
   subst hij
   have hr : mBS (fun x : CSession => IntKind.i64.wrap (x.client - t)) s.xs = i := by rw [hI]; exact bsGo_end _ _ _ _ (Nat.le_refl _)
   refine ⟨?_, hS.kp⟩
   have hr2 : mBSf (fun x : CSession => IntKind.i64.wrap (x.client - t)) s.xs = (decide (IntKind.i64.wrap ((s.at i).client - t) = 0)) := by
     unfold mBSf; rw [hr]
     rw [decide_eq_true (show i < s.xs.length by omega)]; rfl
   rw [hr, hr2]
   rfl
 refine Mi ?_ (pc (pR ((i : Int) + (j : Int))) (pc (pG [(21, .val (.int .u64 ((i : Int) + (j : Int))))] (oc ((conv_i64_u64 Try.underlying3 Try.underlying134 (by omega) (by omega)) : ∀ w, (convert 3 134 (vi ((i : Int) + (j : Int))) : Sem Value).run Try.prog w = .ok (.int .u64 ((i : Int) + (j : Int))) w) on)) (pc (pG [(22, .val (.int .u64 (((i : Int) + (j : Int)) / 2)))] (oc (shr_u64 : ∀ w, (do eqGuard .shr 134 (.tmp 21) (.const (.int .u64 1)) (.int .u64 ((i : Int) + (j : Int))) (.int .u64 1); binOp .shr 134 (.int .u64 ((i : Int) + (j : Int))) (.int .u64 1) : Sem Value).run Try.prog w = .ok (.int .u64 (((i : Int) + (j : Int)) / 2)) w) on)) (pc (pG [(23, .val (vi (((i : Int) + (j : Int)) / 2)))] (oc ((conv_u64_i64 Try.underlying134 Try.underlying3 (by omega) (by omega)) : ∀ w, (convert 134 3 (.int .u64 (((i : Int) + (j : Int)) / 2)) : Sem Value).run Try.prog w = .ok (vi (((i : Int) + (j : Int)) / 2)) w) on)) (pA 27 28 (((i : Int) + (j : Int)) / 2) (((i : Int) + (j : Int)) / 2).toNat (rdk hs))))))
 refine Mp ?_ Try.call86 (fun bs w hS => session_find_1 (s.at (((i : Int) + (j : Int)) / 2).toNat) t w)
 refine Md (IntKind.i64.wrap ((s.at (((i : Int) + (j : Int)) / 2).toNat).client - t) < 0) (fun h2 => ?_) fun h2 => ?_
 rotate_left
 · have hf1 : f = (f - 1) + 1 := by omega
   rw [hf1] at hI
   have hI2 := hI.trans (bsGo_down (by omega) (decide_eq_false (by assumption)))
   exact on1 ⟨i, (i + j) / 2, f - 1⟩ ⟨by omega, by omega, by omega, hI2⟩ (by show f - 1 < f; omega)
 refine Mi ?_ (pR ((((i : Int) + (j : Int)) / 2) + 1))
 have hf1 : f = (f - 1) + 1 := by omega
 rw [hf1] at hI
 have hI2 := hI.trans (bsGo_up (by omega) (decide_eq_true (by assumption)))
 exact on1 ⟨(i + j) / 2 + 1, j, f - 1⟩ ⟨by omega, by omega, by omega, hI2⟩ (by show f - 1 < f; omega)

theorem session_find {B : Nat → Prop} (s : Sl CSession) (t : Int) (w : World) (hs : s.rd B w) (hn : s.n ≤ 1048576) : Calls Try.prog 65 #[s.val, vi t] w fun e w' => e = .returned (.tuple #[vi (mBS (fun x : CSession => IntKind.i64.wrap (x.client - t)) s.xs : Nat), vb (mBSf (fun x : CSession => IntKind.i64.wrap (x.client - t)) s.xs)]) ∧ Kp [] w w' := by
 have oks := Sl.rd.ok hs
 have ncs := Sl.ok.nc oks
 have hns : s.n = s.xs.length := rfl
 refine M0 ?_ Try.func65
 refine Mp ?_ Try.call85 (fun bs w hS => bs_session_find_1 s t w (Sl.rd.kp hs hS.kp) (by omega))
 exact Mt [vi ((mBS (fun x : CSession => IntKind.i64.wrap (x.client - t)) s.xs : Nat) : Int), vb (mBSf (fun x : CSession => IntKind.i64.wrap (x.client - t)) s.xs)] fun bs w hS => ⟨rfl, hS.kp⟩

theorem tackroomref_sessionAt {B : Nat → Prop} (s : Sl CSession) (t : Int) (w : World) (hs : s.rd B w) : Calls Try.prog 67 #[s.val, vi t] w fun e w' => e = .returned (vi (mIdx (fun x : CSession => decide (x.client = t)) s.xs)) ∧ Kp [] w w' := by
 have oks := Sl.rd.ok hs
 have ncs := Sl.ok.nc oks
 have hns : s.n = s.xs.length := rfl
 refine M0 ?_ Try.func67
 refine Ml (σ := Nat) (fun i => i ≤ s.n ∧ ∀ j, j < i → decide ((s.at j).client = t) = false) (fun i => s.n - i) (fun _ => []) [5, 0, 1] (fun i => [(5, vI (i : Int))]) (fun _ => []) ?_ 0 ⟨Nat.zero_le _, fun j hj => absurd hj (Nat.not_lt_zero _)⟩
 rintro i ⟨hi, hI⟩ _ on1
 refine Md ((i : Int) < (s.n : Int)) (fun h1 => ?_) fun h1 => ?_
 rotate_left
 · exact Me0 (-1) (by rw [mIdx_none (p := (fun x : CSession => decide (x.client = t))) fun j hj => hI j (by omega)])
 refine Mi ?_ (pc (pI 14 (i : Int) i (rdk hs)) (pF 16 i 0 1 (rdk hs)))
 refine Md ((s.at i).client = t) (fun h2 => ?_) fun h2 => ?_
 · exact Me0 (i : Int) (by rw [mIdx_here (p := (fun x : CSession => decide (x.client = t))) (i := i) (by omega) (decide_eq_true (by assumption)) hI])
 refine Mi ?_ (pR ((i : Int) + 1))
 exact on1 (i + 1) ⟨by omega, fun j hj => by rcases Nat.lt_succ_iff_lt_or_eq.1 hj with h | h; exact hI j h; subst h; exact decide_eq_false (by assumption)⟩ (by omega)

theorem idxF_Kept {B : Nat → Prop} (s : Sl (Fl DKept)) (p : Fl DKept → Bool) (kf : Nat) (caps : Array Value) (w : World) (hs : s.rd B w) (hcall : ∀ args w, (callFunc kf args).run Try.prog w = .ok (.enter kf args) w)
    (hf : ∀ (w' : World) (x : (Fl DKept)), x ∈ s.xs → Kp [] w w' → Calls Try.prog kf (#[x.v.val] ++ caps) w' fun e w'' => e = .returned (vb (p x)) ∧ Kp [] w' w'') : Calls Try.prog 78 #[.slice s.A s.n s.c, .func (.func kf) #[] caps] w fun e w' => e = .returned (vi (mIdx p s.xs)) ∧ Kp [] w w' := by
 have oks := Sl.rd.ok hs
 have ncs := Sl.ok.nc oks
 have hns : s.n = s.xs.length := rfl
 refine M0 ?_ Try.func78
 refine Ml (σ := Nat) (fun i => i ≤ s.n ∧ ∀ j, j < i → p (s.at j) = false) (fun i => s.n - i) (fun _ => []) [8, 7, 0, 1] (fun i => [(8, vI (i : Int))]) (fun _ => []) ?_ 0 ⟨Nat.zero_le _, fun j hj => absurd hj (Nat.not_lt_zero _)⟩
 rintro i ⟨hi, hI⟩ _ on1
 refine Md ((i : Int) < (s.n : Int)) (fun h1 => ?_) (fun h1 => ?_)
 rotate_left
 · refine Mt [.int .i64 (-1)] fun bs w hS => ?_
   refine ⟨?_, hS.kp⟩
   rw [mIdx_none fun j hj => hI j (by omega)]
   rfl
 refine Mi ?_ (pA 14 15 (i : Int) i (rdk hs))
 refine Mv ?_ hcall (fun bs w hS => hf w (s.at i) (List.mem_of_getElem? (Sl.at_some (show i < s.n by omega))) hS.kp)
 refine Mb (p (s.at i)) (fun h2 => ?_) (fun h2 => ?_)
 · refine Mt [.int .i64 (i : Int)] fun bs w hS => ?_
   refine ⟨?_, hS.kp⟩
   rw [mIdx_here (i := i) (by omega) (by assumption) hI]
   rfl
 refine Mi ?_ (pR ((i : Int) + 1))
 exact on1 (i + 1) ⟨by omega, fun j hj => by rcases Nat.lt_succ_iff_lt_or_eq.1 hj with h | h; exact hI j h; subst h; assumption⟩ (by omega)
theorem idx_Kept {B : Nat → Prop} (s : Sl DKept) (p : DKept → Bool) (kf : Nat) (caps : Array Value) (w : World) (hs : s.rd B w) (hcall : ∀ args w, (callFunc kf args).run Try.prog w = .ok (.enter kf args) w)
    (hf : ∀ (w' : World) (x : DKept), x ∈ s.xs → Kp [] w w' → Calls Try.prog kf (#[x.val] ++ caps) w' fun e w'' => e = .returned (vb (p x)) ∧ Kp [] w' w'') : Calls Try.prog 78 #[s.val, .func (.func kf) #[] caps] w fun e w' => e = .returned (vi (mIdx p s.xs)) ∧ Kp [] w w' := by
  have h := idxF_Kept (⟨s.A, s.c, fls s.xs⟩ : Sl (Fl DKept)) (fun x => p x.v) kf caps w hs.fl hcall (fun w' x hx hk => hf w' x.v (by obtain ⟨y, hy, rfl⟩ := List.mem_map.1 hx; exact hy) hk)
  simp only [mIdx_fl, Sl.n, List.length_map] at h
  exact h

theorem delF_Kept (A : Option Addr) (c : Nat) (L : List (Fl DKept)) (p : Fl DKept → Bool) (kf : Nat) (caps : Array Value) (w : World) (hrow : (rowA 94 A c L).p w) (hlt : ∀ b, b ∈ (rowA 94 A c L).fp → b < w.heap.size) (hn : L.length ≤ 1048576) (hcall : ∀ args w, (callFunc kf args).run Try.prog w = .ok (.enter kf args) w)
    (hf : ∀ (w' : World) (x : (Fl DKept)), x ∈ L → Kp (rowA 94 A c L).fp w w' → Calls Try.prog kf (#[x.v.val] ++ caps) w' fun e w'' => e = .returned (vb (p x)) ∧ Kp [] w' w'') :
    Calls Try.prog 76 #[.slice A L.length c, .func (.func kf) #[] caps] w fun e w' => e = .returned (.slice A (L.filter fun x => !p x).length c) ∧ Turned (rowA 94 A c L) w w' (rowA 94 A c (L.filter fun x => !p x)) := by
 have hrok := rowA_rok hrow
 have nc := hrok.2
 refine Mj ?_ Try.func76 (WS.start1 w _ hrow (by cases A <;> simp [rowA, rowR]) hlt)
 refine Mp ?_ Try.call78 (fun bs w hS => idxF_Kept (⟨A, c, L⟩ : Sl (Fl DKept)) p kf caps w (Rr (B := anyB) (hS.res _ i0) (fun _ _ => trivial) (fun _ _ => trivial)) hcall (fun w' x hx hk => hf w' x hx (hS.kp.step hk (fun i hi => by cases hi))))
 refine Md (mIdx p L = (-1)) (fun h1 => ?_) fun h1 => ?_
 · refine Mt [.slice A L.length c] fun bs w hS => ?_
   have hid : L.filter (fun x => !p x) = L := delF_none (by assumption)
   rw [hid]
   exact ⟨rfl, hS.turned⟩
 obtain ⟨i0, hi1, hi2, hi3, hi4⟩ := delF_some (p := p) h1
 refine Mi ?_ (pR ((mIdx p L) + 1))
 refine Mk 6 ?_ (show (vI ((mIdx p L) + 1)) = vI (((i0 : Int)) + 1) by rw [hi4])
 refine Mk 5 ?_ (show (vI (mIdx p L)) = vI ((i0 : Int)) by rw [hi4])
 refine Ml (σ := Nat × Nat × List (Fl DKept)) (fun ⟨i, j, M⟩ => i < j ∧ j ≤ L.length ∧ M.length = L.length ∧ M.take i = (L.take j).filter (fun x => !p x) ∧ M.drop j = L.drop j) (fun ⟨i, j, M⟩ => L.length - j) (fun ⟨i, j, M⟩ => [rowA 94 A c (M : List (Fl DKept))]) [6, 5, 0, 1] (fun ⟨i, j, M⟩ => [(6, vI (j : Int)), (5, vI (i : Int))]) (fun _ => []) ?_ (⟨i0, i0 + 1, L⟩) ⟨by omega, by omega, rfl, delF_start hi1 hi2 hi3, rfl⟩
 rintro ⟨i, j, M⟩ ⟨h1, h2, hM, hT, hD⟩ _ on1
 refine Md ((j : Int) < (L.length : Int)) (fun h2 => ?_) fun h2 => ?_
 rotate_left
 · refine Mi ?_ (pG [(38, .sl i L.length)] (oc (rfl : (i : Int) = (i : Int)) (oc (rfl : L.length = L.length) (oc ((by omega) : i ≤ L.length) on))))
   refine Mcl i (L.length - i) ?_ (by omega) (by omega)
   refine Mi ?_ (pG [(41, .sl 0 i)] (oc (rfl : 0 = 0) (oc (rfl : (i : Int) = (i : Int)) (oc ((by omega) : i ≤ c) on))))
   refine Mt [.slice A i c] fun bs w hS => ?_
   have hid : M.take i = L.filter (fun x => !p x) := by rw [hT, show j = L.length by omega, List.take_length]
   have hil : (L.filter (fun x => !p x)).length = i := by rw [← hid, List.length_take]; omega
   have hS2 := hS
   rw [hid] at hS2
   refine ⟨?_, hS2.turned⟩
   rw [hil]
   rfl
 refine Mi ?_ (pc (pIo 24 (j : Int) j L.length (.head _)) (pEo 25 j (.head _)))
 refine Mv ?_ hcall (fun bs w hS => hf w (M.getD j default) (by rw [getD_drop hD (by omega)]; exact mem_of_getD (by omega)) hS.kp)
 refine Mbn (p (M.getD j default)) (fun h3 => ?_) fun h3 => ?_
 · refine Mi ?_ (pR ((j : Int) + 1))
   have hjL : M.getD j default = L.getD j default := getD_drop hD (by omega)
   exact on1 ⟨i, j + 1, M⟩ ⟨by omega, by omega, hM, delF_skip (by omega) hT (hjL ▸ by assumption), drop_next hD⟩ (by show L.length - (j + 1) < L.length - j; omega)
 refine Mi ?_ (pIo 33 (i : Int) i L.length (.head _))
 refine Mse i (M.getD j default) ?_ (by omega)
 intro L2 hL2 hl2
 refine Mi ?_ (pc (pR ((i : Int) + 1)) (pR ((j : Int) + 1)))
 have hjL : M.getD j default = L.getD j default := getD_drop hD (by omega)
 exact on1 ⟨i + 1, j + 1, L2⟩ ⟨by omega, by omega, by omega, by rw [hL2]; exact delF_keep h1 (by omega) hM hT (hjL ▸ by assumption) hjL, by rw [hL2]; exact delF_drop h1 hD⟩ (by show L.length - (j + 1) < L.length - j; omega)
theorem del_Kept (A : Option Addr) (c : Nat) (L : List DKept) (p : DKept → Bool) (kf : Nat) (caps : Array Value) (w : World) (hrow : (rowA 94 A c L).p w) (hlt : ∀ b, b ∈ (rowA 94 A c L).fp → b < w.heap.size) (hn : L.length ≤ 1048576) (hcall : ∀ args w, (callFunc kf args).run Try.prog w = .ok (.enter kf args) w)
    (hf : ∀ (w' : World) (x : DKept), x ∈ L → Kp (rowA 94 A c L).fp w w' → Calls Try.prog kf (#[x.val] ++ caps) w' fun e w'' => e = .returned (vb (p x)) ∧ Kp [] w' w'') :
    Calls Try.prog 76 #[.slice A L.length c, .func (.func kf) #[] caps] w fun e w' => e = .returned (.slice A (L.filter fun x => !p x).length c) ∧ Turned (rowA 94 A c L) w w' (rowA 94 A c (L.filter fun x => !p x)) := by
  have h := delF_Kept A c (fls L) (fun x => p x.v) kf caps w (by rw [rowA_fl]; exact hrow) (by rw [rowA_fl]; exact hlt) (by simpa using hn) hcall (fun w' x hx hk => hf w' x.v (by obtain ⟨y, hy, rfl⟩ := List.mem_map.1 hx; exact hy) (by rwa [rowA_fl] at hk))
  have e1 : (fls L).filter (fun x => !(p x.v)) = fls (L.filter fun x => !p x) := fls_filter (fun x => !p x) L
  simp only [e1, rowA_fl, List.length_map] at h
  exact h

theorem clo_session_Ready_2 (x : DKept) (c : DCommand) (b : Nat) (w : World) (hb : (blkR b 75 [vi c.kind, vi c.client, vi c.session, vi c.seq, vi c.acked, vi c.op.kind, vs c.op.a, vs c.op.b, vi c.op.n]).p w) : Calls Try.prog 79 #[x.val, .pointer (some (⟨b, 0, none⟩ : Addr))] w fun e w' => e = .returned (vb (decide (x.seq = c.seq))) ∧ Kp [] w w' := by
 refine M0 ?_ Try.func79
 refine Mi ?_ (pX 7 [vi c.seq] (fun w hk hr => (blkR_fld (blkR_kp hb hk) 3 1 rfl)))
 exact Mt [vb (decide (x.seq = c.seq))] fun bs w hS => ⟨rfl, hS.kp⟩

theorem clo_session_Ready_1 (x : DKept) (a : Addr) (q : Int) (b : Nat) (w : World) (hb : (blkR b 121 [.pointer (some a)]).p w) (ha : CellsAt w (a.add 2) [vi q]) : Calls Try.prog 77 #[x.val, .pointer (some (⟨b, 0, none⟩ : Addr))] w fun e w' => e = .returned (vb (decide (x.seq ≤ q))) ∧ Kp [] w w' := by
 refine M0 ?_ Try.func77
 refine Mda 8 [] [] [] Try_mixed ?_
 refine Mih ?_ (pc (pX 6 [.pointer (some a)] (fun w hk hr => (blkR_pre (blkR_kp hb hk) 1 rfl))) (pX 9 [vi q] (fun w hk hr => (CellsAt.kp ha hk))))
 exact Mt [vb (decide (x.seq ≤ q))] fun bs w hS => ⟨rfl, hS.kp⟩

theorem session_Ready {B : Nat → Prop} (s : Sl CSession) (n : Int) (c : DCommand) (w : World) (hs : s.rd B w) (ht : inR c.client) (hc : Rds.sub B w c) : Calls Try.prog 40 #[s.val, vi n, c.val] w fun e w' => ∃ y : Sl CSession, e = .returned (.tuple #[y.val, ((mReady (s.xs.map CSession.abs) n c).2.1).val, vb (mReady (s.xs.map CSession.abs) n c).2.2.1, vi (mReady (s.xs.map CSession.abs) n c).2.2.2]) ∧ y.xs.map CSession.abs = (mReady (s.xs.map CSession.abs) n c).1 ∧ FreshS w w' y := by
 have oks := Sl.rd.ok hs
 have ncs := Sl.ok.nc oks
 have hns : s.n = s.xs.length := rfl
 have hml : (s.xs.map CSession.abs).length = s.n := by simp
 refine M0 ?_ Try.func40
 refine Mp ?_ Try.call51 (fun bs w hS => session_Check s n w (Sl.rd.kp hs hS.kp))
 refine Mdn (mSess (s.xs.map CSession.abs) n = 0) (fun h1 => ?_) fun h1 => ?_
 rotate_left
 · refine Mt [vn, vz 0, vb false, vi (mSess (s.xs.map CSession.abs) n)] fun bs w hS => ?_
   have hm := ready_bad (c := c) h1
   refine ⟨Sl.nil, ?_, ?_, hS.outS (Sl.rd_nil _ _)⟩
   · rw [hm] <;> rfl
   · rw [hm] <;> rfl
 obtain ⟨hi0, hi1, hln, hall⟩ := mSess_bd h1
 have hln2 : s.xs.length ≤ 4 := by simpa using hln
 refine Md (n = 1073741824) (fun h2 => ?_) fun h2 => ?_
 · refine Mt [vn, vz 0, vb false, vi 2] fun bs w hS => ?_
   have hm := ready_inv (c := c) h1 (by unfold rInv; omega)
   refine ⟨Sl.nil, ?_, ?_, hS.outS (Sl.rd_nil _ _)⟩
   · rw [hm] <;> rfl
   · rw [hm] <;> rfl
 refine Md (c.seq < 1) (fun h3 => ?_) fun h3 => ?_
 · refine Mt [vn, vz 0, vb false, vi 2] fun bs w hS => ?_
   have hm := ready_inv (c := c) h1 (by unfold rInv; omega)
   refine ⟨Sl.nil, ?_, ?_, hS.outS (Sl.rd_nil _ _)⟩
   · rw [hm] <;> rfl
   · rw [hm] <;> rfl
 refine Md ((1048576 : Int) < c.seq) (fun h4 => ?_) fun h4 => ?_
 · refine Mt [vn, vz 0, vb false, vi 2] fun bs w hS => ?_
   have hm := ready_inv (c := c) h1 (by unfold rInv; omega)
   refine ⟨Sl.nil, ?_, ?_, hS.outS (Sl.rd_nil _ _)⟩
   · rw [hm] <;> rfl
   · rw [hm] <;> rfl
 refine Md (c.acked < 0) (fun h5 => ?_) fun h5 => ?_
 · refine Mt [vn, vz 0, vb false, vi 2] fun bs w hS => ?_
   have hm := ready_inv (c := c) h1 (by unfold rInv; omega)
   refine ⟨Sl.nil, ?_, ?_, hS.outS (Sl.rd_nil _ _)⟩
   · rw [hm] <;> rfl
   · rw [hm] <;> rfl
 refine Md (c.seq ≤ c.acked) (fun h6 => ?_) fun h6 => ?_
 · refine Mt [vn, vz 0, vb false, vi 2] fun bs w hS => ?_
   have hm := ready_inv (c := c) h1 (by unfold rInv; omega)
   refine ⟨Sl.nil, ?_, ?_, hS.outS (Sl.rd_nil _ _)⟩
   · rw [hm] <;> rfl
   · rw [hm] <;> rfl
 refine Mf ?_ Try.call21 (fun bs w hS => session_Copy s w (Sl.rd.kp hs hS.kp) (small_sess (by assumption)))
 rintro y1 hF1
 refine m_split2 ?_
 obtain ⟨A1, c1, S1⟩ := y1
 have hF1 : S1.map CSession.abs = s.xs.map CSession.abs := hF1
 refine m_perm (R' := [ownL (keptR 94) S1, rowA 91 A1 c1 (S1 : List CSession)]) (List.Perm.refl _) ?_
 have hnm1 := sess_texts (y := (⟨A1, c1, S1⟩ : Sl CSession)) (hs) hF1
 have hlen1 : S1.length = s.xs.length := by simpa using congrArg List.length hF1
 refine m_know (F := ∀ i, i < S1.length → Rds.ok (S1.getD i default)) (fun bs w hS i hi => Rds.okof (B := anyB) (w := w) (own_elt (hS.res _ i0) hnm1 (mem_of_getD hi))) fun okown1 => ?_
 refine m_know (F := RowOk A1 c1 (S1 : List CSession)) (fun bs w hS => rowA_rok (hS.res _ i1)) fun hrow1 => ?_
 have nchrow1 := hrow1.2
 have hml1 : (S1.map CSession.abs).length = S1.length := by simp
 have hm1 : mSess (S1.map CSession.abs) n = 0 := by rw [hF1]; assumption
 refine Mp ?_ Try.call65 (fun bs w hS => session_find (⟨A1, c1, S1⟩ : Sl CSession) c.client w (own_sess (hS.res _ i0) (hS.res _ i1) hnm1) (show S1.length ≤ 1048576 by omega))
 have hbs := bsf_sess (L := S1) (index := n) (t := c.client) (by rw [hF1]; assumption) ht
 have hJb := mIdx_bd (fun x : DSession => decide (x.client = c.client)) (S1.map CSession.abs)
 generalize hJ : mIdx (fun x : DSession => decide (x.client = c.client)) (S1.map CSession.abs) = J at hbs hJb
 have hkl := mBS_le (fun x : CSession => IntKind.i64.wrap (x.client - c.client)) S1
 generalize hk : mBS (fun x : CSession => IntKind.i64.wrap (x.client - c.client)) S1 = k at hbs hkl ⊢
 generalize hf : mBSf (fun x : CSession => IntKind.i64.wrap (x.client - c.client)) S1 = fb at hbs ⊢
 refine Mdr 12 ?_ Try_mixed
 refine Mbn fb (fun h7 => ?_) fun h7 => ?_
 rotate_left
 · have h0J := of_decide_eq_false (hbs.1.symm.trans h7)
   refine Mz ?_
   refine Mt [.slice A1 S1.length c1, vz 11, vb false, vi 0] fun bs w hS => ?_
   have hv : ¬ rInv n c := by unfold rInv; omega
   rw [← hF1]
   have hm := ready_none (l := S1.map CSession.abs) (c := c) hm1 hv (by show mIdx _ _ < 0; rw [hJ]; omega)
   refine ⟨⟨A1, c1, S1⟩, ?_, ?_, hS.outS (y := (⟨A1, c1, S1⟩ : Sl CSession)) (out_sessG i1 hS.res (fun x hx => ?_))⟩
   · rw [hm] <;> rfl
   · exact (congrArg Prod.fst hm).symm
   · exact own_in i0 hS.res hnm1 hx
 have hkJ := hbs.2 h7
 subst hkJ
 have hk5 := sess_all hm1 (k := k) (by omega)
 have hk6 : (S1.getD k default).replies.xs.length ≤ 4 := mReplies_len hk5.2.2.2.2
 have hk7 : (S1.getD k default).replies.n = (S1.getD k default).replies.xs.length := rfl
 refine Mih ?_ (pc (pIo 61 (k : Int) k S1.length i1) (pFo 63 k 1 1 i1))
 refine Mz ?_
 refine Mdn ((S1.getD k default).id = c.session) (fun h8 => ?_) fun h8 => ?_
 rotate_left
 · refine Mt [.slice A1 S1.length c1, vz 11, vb false, vi 0] fun bs w hS => ?_
   have hv : ¬ rInv n c := by unfold rInv; omega
   rw [← hF1]
   have hm := ready_other (c := c) hm1 hv (K := k) (by show (mIdx _ _).toNat = _; rw [hJ]; rfl) h8
   refine ⟨⟨A1, c1, S1⟩, ?_, ?_, hS.outS (y := (⟨A1, c1, S1⟩ : Sl CSession)) (out_sessG i1 hS.res (fun x hx => ?_))⟩
   · rw [hm] <;> rfl
   · exact (congrArg Prod.fst hm).symm
   · exact own_in i0 hS.res hnm1 hx
 refine Mi ?_ (pc (pIo 72 (k : Int) k S1.length i1) (pR (n + 1)))
 refine m_f1 ?_
 refine Ms k 3 (⟨(S1.getD k default).client, (S1.getD k default).id, (S1.getD k default).acked, n + 1, (S1.getD k default).replies⟩ : CSession) ?_ (by omega)
 intro L3 hL3 hlL3
 have hgL3 : L3.getD k default = (⟨(S1.getD k default).client, (S1.getD k default).id, (S1.getD k default).acked, n + 1, (S1.getD k default).replies⟩ : CSession) := by rw [hL3]; exact getD_set (by omega)
 have hbL3 : L3 = List.set S1 k (⟨(S1.getD k default).client, (S1.getD k default).id, (S1.getD k default).acked, n + 1, (S1.getD k default).replies⟩ : CSession) := by rw [hL3]
 refine Mdr 7 ?_ Try_mixed
 refine Mih ?_ (pFk 83 k 2 1 hgL3 i0)
 refine Mz ?_
 refine Md ((S1.getD k default).acked < c.acked) (fun h9 => ?_) fun h9 => ?_
 rotate_left
 · have hak : kAck (S1.getD k default).abs c = (S1.getD k default).acked := ack_same (d := (S1.getD k default).abs) h9
   have hll : kLeft (S1.getD k default).abs c = (S1.getD k default).replies.xs := left_same (d := (S1.getD k default).abs) hak hk5.2.2.2.2
   refine Mdr 7 ?_ Try_mixed
   refine Mih ?_ (pFk 104 k 2 1 hgL3 i0)
   refine Mz ?_
   refine Md (c.seq ≤ (S1.getD k default).acked) (fun h13 => ?_) fun h13 => ?_
   · refine Mt [.slice A1 S1.length c1, vz 12, vb false, vi 0] fun bs w hS => ?_
     have hv : ¬ rInv n c := by unfold rInv; omega
     rw [← hF1]
     have ha := ans_old hak h13
     have hm := ready_one (c := c) hm1 hv (K := k) (by show ¬ mIdx _ _ < 0; rw [hJ]; omega) (by show (mIdx _ _).toNat = _; rw [hJ]; rfl) h8 (kSess_of hak hll) ha
     have hvx := setS_map hbL3
     refine ⟨⟨A1, c1, L3⟩, ?_, ?_, hS.outS (y := (⟨A1, c1, L3⟩ : Sl CSession)) (out_sessG i0 hS.res (fun x hx => ?_))⟩
     · have hll2 : S1.length = L3.length := by rw [hbL3, List.length_set]
       rw [hm]
       exact congrArg (fun q => Ending.returned (.tuple #[.slice A1 q c1, vz 12, vb false, vi 0])) hll2
     · exact Eq.trans hvx (congrArg Prod.fst hm).symm
     · rw [hbL3] at hx
       rcases mem_set hx with hx | hx
       · subst hx; exact own_in (x := (S1.getD k default)) i1 hS.res hnm1 (mem_of_getD (L := S1) (i := k) (by omega))
       · exact own_in i1 hS.res hnm1 hx
   refine Mi ?_ (pFk 111 k 4 1 hgL3 i0)
   refine Mp ?_ Try.call78 (fun bs w hS => idx_Kept (S1.getD k default).replies (fun z : DKept => decide (z.seq = c.seq)) 79 #[.pointer (some (adr bs 0 0))] w (own_elt (hS.res _ i1) hnm1 (mem_of_getD (i := k) (by omega))) Try.call79 (fun w' z hz hk => clo_session_Ready_2 z c (bs.getD 0 0) w' (show (blkR _ _ _).p w' from (hS.pure hk).loc 0 ⟨75, c.cs⟩ (by kernel_rfl) (by simp))))
   have hIb := mIdx_bd (fun z : DKept => decide (z.seq = c.seq)) (S1.getD k default).replies.xs
   generalize hIx : mIdx (fun z : DKept => decide (z.seq = c.seq)) (S1.getD k default).replies.xs = I at hIb ⊢
   refine Md ((0 : Int) ≤ I) (fun h14 => ?_) fun h14 => ?_
   · refine Mda 13 [] [1] [rowA 91 A1 c1 (L3 : List CSession), ownL (keptR 94) S1] Try_mixed ?_
     refine Mih ?_ (pc (pFk 120 k 4 1 hgL3 i0) (pc (pI 122 I I.toNat (s := (S1.getD k default).replies) (fun w hk hr => (own_elt (hr _ i1) hnm1 (mem_of_getD (i := k) (by omega))))) (pF 124 I.toNat 1 3 (s := (S1.getD k default).replies) (fun w hk hr => (own_elt (hr _ i1) hnm1 (mem_of_getD (i := k) (by omega)))))))
     refine Mz ?_
     refine Mt [.slice A1 S1.length c1, ((S1.getD k default).replies.at I.toNat).reply.val, vb false, vi 0] fun bs w hS => ?_
     have hv : ¬ rInv n c := by unfold rInv; omega
     rw [← hF1]
     have ha := ans_kept hak hll (idx_at hIx) h13 h14
     have hm := ready_one (c := c) hm1 hv (K := k) (by show ¬ mIdx _ _ < 0; rw [hJ]; omega) (by show (mIdx _ _).toNat = _; rw [hJ]; rfl) h8 (kSess_of hak hll) ha
     have hvx := setS_map hbL3
     refine ⟨⟨A1, c1, L3⟩, ?_, ?_, hS.outS (y := (⟨A1, c1, L3⟩ : Sl CSession)) (out_sessG i0 hS.res (fun x hx => ?_))⟩
     · have hll2 : S1.length = L3.length := by rw [hbL3, List.length_set]
       rw [hm]
       exact congrArg (fun q => Ending.returned (.tuple #[.slice A1 q c1, ((S1.getD k default).replies.at I.toNat).reply.val, vb false, vi 0])) hll2
     · exact Eq.trans hvx (congrArg Prod.fst hm).symm
     · rw [hbL3] at hx
       rcases mem_set hx with hx | hx
       · subst hx; exact own_in (x := (S1.getD k default)) i1 hS.res hnm1 (mem_of_getD (L := S1) (i := k) (by omega))
       · exact own_in i1 hS.res hnm1 hx
   refine Mdr 8 ?_ Try_mixed
   refine Mih ?_ (pc (pFk 130 k 2 1 hgL3 i0) (pR ((S1.getD k default).acked + 4)))
   refine Mz ?_
   refine Md ((S1.getD k default).acked + 4 < c.seq) (fun h15 => ?_) fun h15 => ?_
   rotate_left
   · refine Mt [.slice A1 S1.length c1, vz 0, vb true, vi 0] fun bs w hS => ?_
     have hv : ¬ rInv n c := by unfold rInv; omega
     rw [← hF1]
     have ha := ans_new hak hll (idx_at hIx) h13 h14 h15
     have hm := ready_one (c := c) hm1 hv (K := k) (by show ¬ mIdx _ _ < 0; rw [hJ]; omega) (by show (mIdx _ _).toNat = _; rw [hJ]; rfl) h8 (kSess_of hak hll) ha
     have hvx := setS_map hbL3
     refine ⟨⟨A1, c1, L3⟩, ?_, ?_, hS.outS (y := (⟨A1, c1, L3⟩ : Sl CSession)) (out_sessG i0 hS.res (fun x hx => ?_))⟩
     · have hll2 : S1.length = L3.length := by rw [hbL3, List.length_set]
       rw [hm]
       exact congrArg (fun q => Ending.returned (.tuple #[.slice A1 q c1, vz 0, vb true, vi 0])) hll2
     · exact Eq.trans hvx (congrArg Prod.fst hm).symm
     · rw [hbL3] at hx
       rcases mem_set hx with hx | hx
       · subst hx; exact own_in (x := (S1.getD k default)) i1 hS.res hnm1 (mem_of_getD (L := S1) (i := k) (by omega))
       · exact own_in i1 hS.res hnm1 hx
   refine Mt [.slice A1 S1.length c1, vz 2, vb false, vi 0] fun bs w hS => ?_
   have hv : ¬ rInv n c := by unfold rInv; omega
   rw [← hF1]
   have ha := ans_far hak hll (idx_at hIx) h13 h14 h15
   have hm := ready_one (c := c) hm1 hv (K := k) (by show ¬ mIdx _ _ < 0; rw [hJ]; omega) (by show (mIdx _ _).toNat = _; rw [hJ]; rfl) h8 (kSess_of hak hll) ha
   have hvx := setS_map hbL3
   refine ⟨⟨A1, c1, L3⟩, ?_, ?_, hS.outS (y := (⟨A1, c1, L3⟩ : Sl CSession)) (out_sessG i0 hS.res (fun x hx => ?_))⟩
   · have hll2 : S1.length = L3.length := by rw [hbL3, List.length_set]
     rw [hm]
     exact congrArg (fun q => Ending.returned (.tuple #[.slice A1 q c1, vz 2, vb false, vi 0])) hll2
   · exact Eq.trans hvx (congrArg Prod.fst hm).symm
   · rw [hbL3] at hx
     rcases mem_set hx with hx | hx
     · subst hx; exact own_in (x := (S1.getD k default)) i1 hS.res hnm1 (mem_of_getD (L := S1) (i := k) (by omega))
     · exact own_in i1 hS.res hnm1 hx
 have hak := ack_up (d := (S1.getD k default).abs) (c := c) h9
 have hll := left_more hak
 have hfl := List.length_filter_le (fun z : DKept => !decide (z.seq ≤ c.acked)) (S1.getD k default).replies.xs
 refine Ms k 2 (⟨(S1.getD k default).client, (S1.getD k default).id, c.acked, n + 1, (S1.getD k default).replies⟩ : CSession) ?_ (by omega) (hg := hgL3)
 intro L4 hL4 hlL4
 have hgL4 : L4.getD k default = (⟨(S1.getD k default).client, (S1.getD k default).id, c.acked, n + 1, (S1.getD k default).replies⟩ : CSession) := by rw [hL4]; exact getD_set (by omega)
 have hbL4 : L4 = List.set S1 k (⟨(S1.getD k default).client, (S1.getD k default).id, c.acked, n + 1, (S1.getD k default).replies⟩ : CSession) := by rw [hL4, hbL3, List.set_set]
 refine m_f1 ?_
 refine m_part2 (rowA 94 (S1.getD k default).replies.A (S1.getD k default).replies.c ((S1.getD k default).replies.xs : List DKept)) (ownL (keptR 94) (List.eraseIdx S1 k)) (ownL_get_fp (keptR 94) (i := k) (by omega)) (fun w h => ownL_get_p (keptR 94) (i := k) (by omega) w h) ?_
 refine m_know (F := RowOk (S1.getD k default).replies.A (S1.getD k default).replies.c ((S1.getD k default).replies.xs : List DKept)) (fun bs w hS => rowA_rok (hS.res _ i0)) fun hrowK => ?_
 have nchrowK := hrowK.2
 refine Mda 9 [] [] [ownL (keptR 94) (List.eraseIdx S1 k), rowA 91 A1 c1 (L4 : List CSession)] Try_mixed ?_ (hR := (.cons _ (List.Sublist.refl _)))
 refine Mih ?_ (pFk 94 k 4 1 hgL4 i1) (hR := (.cons _ (List.Sublist.refl _)))
 refine Mtu0 ?_ Try.call76 (fun bs w hS => del_Kept (S1.getD k default).replies.A (S1.getD k default).replies.c (S1.getD k default).replies.xs (fun z : DKept => decide (z.seq ≤ c.acked)) 77 #[.pointer (some (adr bs 2 0))] w (hS.res _ i0) hS.head1.2.2 (by omega) Try.call77 (fun w' x hx hk => clo_session_Ready_1 x ((oad A1).add (k * 5)) c.acked (bs.getD 2 0) w' (show (blkR _ _ _).p w' from hS.blkIn (i := 2) (b := ⟨121, [.v (.pointer (some ((oad A1).add (k * 5))))]⟩) hk (by kernel_rfl) (by simp)) (rowA_fld (i := k) (hS.resIn hk i1) (by omega) 2 1 (by rw [hgL4]; rfl))))
 rintro _ _
 refine Mz ?_
 refine m_f2 ?_
 refine Ms k 4 (⟨(S1.getD k default).client, (S1.getD k default).id, c.acked, n + 1, ⟨(S1.getD k default).replies.A, (S1.getD k default).replies.c, (S1.getD k default).replies.xs.filter fun z : DKept => !decide (z.seq ≤ c.acked)⟩⟩ : CSession) ?_ (by omega) (hg := hgL4)
 intro L6 hL6 hlL6
 have hgL6 : L6.getD k default = (⟨(S1.getD k default).client, (S1.getD k default).id, c.acked, n + 1, ⟨(S1.getD k default).replies.A, (S1.getD k default).replies.c, (S1.getD k default).replies.xs.filter fun z : DKept => !decide (z.seq ≤ c.acked)⟩⟩ : CSession) := by rw [hL6]; exact getD_set (by omega)
 have hbL6 : L6 = List.set S1 k (⟨(S1.getD k default).client, (S1.getD k default).id, c.acked, n + 1, ⟨(S1.getD k default).replies.A, (S1.getD k default).replies.c, (S1.getD k default).replies.xs.filter fun z : DKept => !decide (z.seq ≤ c.acked)⟩⟩ : CSession) := by rw [hL6, hbL4, List.set_set]
 refine Mdr 7 ?_ Try_mixed
 refine Mih ?_ (pFk 104 k 2 1 hgL6 i0)
 refine Mz ?_
 refine My false false ?_ (df h6)
 refine Mi ?_ (pFk 111 k 4 1 hgL6 i0)
 refine Mp ?_ Try.call78 (fun bs w hS => idx_Kept (⟨(S1.getD k default).replies.A, (S1.getD k default).replies.c, (S1.getD k default).replies.xs.filter fun z : DKept => !decide (z.seq ≤ c.acked)⟩ : Sl DKept) (fun z : DKept => decide (z.seq = c.seq)) 79 #[.pointer (some (adr bs 0 0))] w (Rr (B := anyB) (hS.res _ i1) (fun _ _ => trivial) (fun z hz => hnm1 _ (mem_of_getD (L := S1) (i := k) (by omega)) z (List.mem_filter.1 hz).1)) Try.call79 (fun w' z hz hk => clo_session_Ready_2 z c (bs.getD 0 0) w' (show (blkR _ _ _).p w' from (hS.pure hk).loc 0 ⟨75, c.cs⟩ (by kernel_rfl) (by simp))))
 have hIb := mIdx_bd (fun z : DKept => decide (z.seq = c.seq)) ((S1.getD k default).replies.xs.filter fun z : DKept => !decide (z.seq ≤ c.acked))
 generalize hIx : mIdx (fun z : DKept => decide (z.seq = c.seq)) ((S1.getD k default).replies.xs.filter fun z : DKept => !decide (z.seq ≤ c.acked)) = I at hIb ⊢
 refine Md ((0 : Int) ≤ I) (fun h11 => ?_) fun h11 => ?_
 · refine Mda 13 [] [1] [rowA 91 A1 c1 (L6 : List CSession), rowA 94 (S1.getD k default).replies.A (S1.getD k default).replies.c ((S1.getD k default).replies.xs.filter fun z : DKept => !decide (z.seq ≤ c.acked) : List DKept), ownL (keptR 94) (List.eraseIdx S1 k)] Try_mixed ?_
   refine Mih ?_ (pc (pFk 120 k 4 1 hgL6 i0) (pc (pIo 122 I I.toNat ((S1.getD k default).replies.xs.filter fun z : DKept => !decide (z.seq ≤ c.acked)).length i1) (pFo 124 I.toNat 1 3 i1)))
   refine Mz ?_
   refine Mt [.slice A1 S1.length c1, (((S1.getD k default).replies.xs.filter fun z : DKept => !decide (z.seq ≤ c.acked)).getD I.toNat default).reply.val, vb false, vi 0] fun bs w hS => ?_
   have hv : ¬ rInv n c := by unfold rInv; omega
   rw [← hF1]
   have ha := ans_kept hak hll (idx_at hIx) h6 h11
   have hm := ready_one (c := c) hm1 hv (K := k) (by show ¬ mIdx _ _ < 0; rw [hJ]; omega) (by show (mIdx _ _).toNat = _; rw [hJ]; rfl) h8 (kSess_of hak hll) ha
   have hvx := setS_map hbL6
   refine ⟨⟨A1, c1, L6⟩, ?_, ?_, hS.outS (y := (⟨A1, c1, L6⟩ : Sl CSession)) (out_sessG i0 hS.res (fun x hx => ?_))⟩
   · have hll2 : S1.length = L6.length := by rw [hbL6, List.length_set]
     rw [hm]
     exact congrArg (fun q => Ending.returned (.tuple #[.slice A1 q c1, (((S1.getD k default).replies.xs.filter fun z : DKept => !decide (z.seq ≤ c.acked)).getD I.toNat default).reply.val, vb false, vi 0])) hll2
   · exact Eq.trans hvx (congrArg Prod.fst hm).symm
   · rw [hbL6] at hx
     rcases mem_set_ne hx with hx | hx
     · subst hx; exact allR_row i1 (hS.res _ i1) (fun z hz => hnm1 _ (mem_of_getD (L := S1) (i := k) (by omega)) z (List.mem_filter.1 hz).1)
     · exact own_in i2 hS.res (fun z hz => hnm1 z (List.mem_of_mem_eraseIdx hz)) hx
 refine Mdr 8 ?_ Try_mixed
 refine Mih ?_ (pc (pFk 130 k 2 1 hgL6 i0) (pR (c.acked + 4)))
 refine Mz ?_
 refine Md (c.acked + 4 < c.seq) (fun h12 => ?_) fun h12 => ?_
 rotate_left
 · refine Mt [.slice A1 S1.length c1, vz 0, vb true, vi 0] fun bs w hS => ?_
   have hv : ¬ rInv n c := by unfold rInv; omega
   rw [← hF1]
   have ha := ans_new hak hll (idx_at hIx) h6 h11 h12
   have hm := ready_one (c := c) hm1 hv (K := k) (by show ¬ mIdx _ _ < 0; rw [hJ]; omega) (by show (mIdx _ _).toNat = _; rw [hJ]; rfl) h8 (kSess_of hak hll) ha
   have hvx := setS_map hbL6
   refine ⟨⟨A1, c1, L6⟩, ?_, ?_, hS.outS (y := (⟨A1, c1, L6⟩ : Sl CSession)) (out_sessG i0 hS.res (fun x hx => ?_))⟩
   · have hll2 : S1.length = L6.length := by rw [hbL6, List.length_set]
     rw [hm]
     exact congrArg (fun q => Ending.returned (.tuple #[.slice A1 q c1, vz 0, vb true, vi 0])) hll2
   · exact Eq.trans hvx (congrArg Prod.fst hm).symm
   · rw [hbL6] at hx
     rcases mem_set_ne hx with hx | hx
     · subst hx; exact allR_row i1 (hS.res _ i1) (fun z hz => hnm1 _ (mem_of_getD (L := S1) (i := k) (by omega)) z (List.mem_filter.1 hz).1)
     · exact own_in i2 hS.res (fun z hz => hnm1 z (List.mem_of_mem_eraseIdx hz)) hx
 refine Mt [.slice A1 S1.length c1, vz 2, vb false, vi 0] fun bs w hS => ?_
 have hv : ¬ rInv n c := by unfold rInv; omega
 rw [← hF1]
 have ha := ans_far hak hll (idx_at hIx) h6 h11 h12
 have hm := ready_one (c := c) hm1 hv (K := k) (by show ¬ mIdx _ _ < 0; rw [hJ]; omega) (by show (mIdx _ _).toNat = _; rw [hJ]; rfl) h8 (kSess_of hak hll) ha
 have hvx := setS_map hbL6
 refine ⟨⟨A1, c1, L6⟩, ?_, ?_, hS.outS (y := (⟨A1, c1, L6⟩ : Sl CSession)) (out_sessG i0 hS.res (fun x hx => ?_))⟩
 · have hll2 : S1.length = L6.length := by rw [hbL6, List.length_set]
   rw [hm]
   exact congrArg (fun q => Ending.returned (.tuple #[.slice A1 q c1, vz 2, vb false, vi 0])) hll2
 · exact Eq.trans hvx (congrArg Prod.fst hm).symm
 · rw [hbL6] at hx
   rcases mem_set_ne hx with hx | hx
   · subst hx; exact allR_row i1 (hS.res _ i1) (fun z hz => hnm1 _ (mem_of_getD (L := S1) (i := k) (by omega)) z (List.mem_filter.1 hz).1)
   · exact own_in i2 hS.res (fun z hz => hnm1 z (List.mem_of_mem_eraseIdx hz)) hx

theorem ref_ReadyOf {B : Nat → Prop} (s : Sl CSession) (n : Int) (c : DCommand) (w : World) (hs : s.rd B w) (ht : inR c.client) (hc : Rds.sub B w c) : Calls Try.prog 41 #[s.val, vi n, c.val] w fun e w' => ∃ y : Sl CSession, e = .returned (.tuple #[y.val, ((mReady (s.xs.map CSession.abs) n c).2.1).val, vb (mReady (s.xs.map CSession.abs) n c).2.2.1, vi (mReady (s.xs.map CSession.abs) n c).2.2.2]) ∧ y.xs.map CSession.abs = (mReady (s.xs.map CSession.abs) n c).1 ∧ FreshS w w' y := by
 have oks := Sl.rd.ok hs
 have ncs := Sl.ok.nc oks
 have hns : s.n = s.xs.length := rfl
 have hml : (s.xs.map CSession.abs).length = s.n := by simp
 refine M0 ?_ Try.func41
 refine Mp ?_ Try.call54 (fun bs w hS => ref_SessionsFault s n w (Sl.rd.kp hs hS.kp))
 refine Md (mSess (s.xs.map CSession.abs) n = 0) (fun h1 => ?_) fun h1 => ?_
 rotate_left
 · refine My false true ?_ (df h1)
   refine Mt [vn, vz 0, vb false, vi (mSess (s.xs.map CSession.abs) n)] fun bs w hS => ?_
   have hm := ready_bad (c := c) h1
   refine ⟨Sl.nil, ?_, ?_, hS.outS (Sl.rd_nil _ _)⟩
   · rw [hm] <;> rfl
   · rw [hm] <;> rfl
 obtain ⟨hi0, hi1, hln, hall⟩ := mSess_bd h1
 have hln2 : s.xs.length ≤ 4 := by simpa using hln
 refine Md ((1073741824 : Int) ≤ n) (fun h2 => ?_) fun h2 => ?_
 · refine Mq 41 true ?_ rfl
   refine Mt [vn, vz 0, vb false, vi 2] fun bs w hS => ?_
   have hm := ready_inv (c := c) h1 (by unfold rInv; simp only [iT, iF] at *; omega)
   refine ⟨Sl.nil, ?_, ?_, hS.outS (Sl.rd_nil _ _)⟩
   · rw [hm] <;> rfl
   · rw [hm] <;> rfl
 refine Mp ?_ Try.call64 (fun bs w hS => ref_In c.seq 1 1048576 w)
 refine Mbn (inB c.seq 1 1048576) (fun h3 => ?_) fun h3 => ?_
 rotate_left
 · simp only [iT, iF] at h3
   refine Mq 41 true ?_ rfl
   refine Mt [vn, vz 0, vb false, vi 2] fun bs w hS => ?_
   have hm := ready_inv (c := c) h1 (by unfold rInv; simp only [iT, iF] at *; omega)
   refine ⟨Sl.nil, ?_, ?_, hS.outS (Sl.rd_nil _ _)⟩
   · rw [hm] <;> rfl
   · rw [hm] <;> rfl
 simp only [iT, iF] at h3
 refine Mi ?_ (pR (c.seq - 1))
 refine Mp ?_ Try.call64 (fun bs w hS => ref_In c.acked 0 (c.seq - 1) w)
 refine Mbn (inB c.acked 0 (c.seq - 1)) (fun h4 => ?_) fun h4 => ?_
 rotate_left
 · simp only [iT, iF] at h4
   refine Mq 41 true ?_ rfl
   refine Mt [vn, vz 0, vb false, vi 2] fun bs w hS => ?_
   have hm := ready_inv (c := c) h1 (by unfold rInv; simp only [iT, iF] at *; omega)
   refine ⟨Sl.nil, ?_, ?_, hS.outS (Sl.rd_nil _ _)⟩
   · rw [hm] <;> rfl
   · rw [hm] <;> rfl
 simp only [iT, iF] at h4
 refine My true true ?_ (dt h1)
 refine Mf ?_ Try.call50 (fun bs w hS => ref_SessionsCopy s w (Sl.rd.kp hs hS.kp) (small_sess (by assumption)))
 rintro y1 hF1
 refine m_split2 ?_
 obtain ⟨A1, c1, S1⟩ := y1
 have hF1 : S1.map CSession.abs = s.xs.map CSession.abs := hF1
 refine m_perm (R' := [ownL (keptR 94) S1, rowA 91 A1 c1 (S1 : List CSession)]) (List.Perm.refl _) ?_
 have hnm1 := sess_texts (y := (⟨A1, c1, S1⟩ : Sl CSession)) (hs) hF1
 have hlen1 : S1.length = s.xs.length := by simpa using congrArg List.length hF1
 refine m_know (F := ∀ i, i < S1.length → Rds.ok (S1.getD i default)) (fun bs w hS i hi => Rds.okof (B := anyB) (w := w) (own_elt (hS.res _ i0) hnm1 (mem_of_getD hi))) fun okown1 => ?_
 refine m_know (F := RowOk A1 c1 (S1 : List CSession)) (fun bs w hS => rowA_rok (hS.res _ i1)) fun hrow1 => ?_
 have nchrow1 := hrow1.2
 have hml1 : (S1.map CSession.abs).length = S1.length := by simp
 have hm1 : mSess (S1.map CSession.abs) n = 0 := by rw [hF1]; assumption
 refine Mp ?_ Try.call67 (fun bs w hS => tackroomref_sessionAt (⟨A1, c1, S1⟩ : Sl CSession) c.client w (own_sess (hS.res _ i0) (hS.res _ i1) hnm1))
 have hJe : mIdx (fun x : CSession => decide (x.client = c.client)) S1 = mIdx (fun x : DSession => decide (x.client = c.client)) (S1.map CSession.abs) := mIdx_map CSession.abs (fun x : DSession => decide (x.client = c.client)) S1
 rw [hJe]
 have hJb := mIdx_bd (fun x : DSession => decide (x.client = c.client)) (S1.map CSession.abs)
 generalize hJ : mIdx (fun x : DSession => decide (x.client = c.client)) (S1.map CSession.abs) = J at hJb ⊢
 rw [List.length_map] at hJb
 refine Mdr 12 ?_ Try_mixed
 refine Md (J < 0) (fun h6 => ?_) fun h6 => ?_
 · have h0J : ¬ 0 ≤ J := by omega
   refine Mz ?_
   refine Mt [.slice A1 S1.length c1, vz 11, vb false, vi 0] fun bs w hS => ?_
   have hv : ¬ rInv n c := by grind [rInv]
   rw [← hF1]
   have hm := ready_none (l := S1.map CSession.abs) (c := c) hm1 hv (by show mIdx _ _ < 0; rw [hJ]; omega)
   refine ⟨⟨A1, c1, S1⟩, ?_, ?_, hS.outS (y := (⟨A1, c1, S1⟩ : Sl CSession)) (out_sessG i1 hS.res (fun x hx => ?_))⟩
   · rw [hm] <;> rfl
   · exact (congrArg Prod.fst hm).symm
   · exact own_in i0 hS.res hnm1 hx
 have h0J : 0 ≤ J := by omega
 have hk5 := sess_all hm1 (k := J.toNat) (by omega)
 have hk6 : (S1.getD J.toNat default).replies.xs.length ≤ 4 := mReplies_len hk5.2.2.2.2
 have hk7 : (S1.getD J.toNat default).replies.n = (S1.getD J.toNat default).replies.xs.length := rfl
 refine Mih ?_ (pc (pIo 55 J J.toNat S1.length i1) (pFo 57 J.toNat 1 1 i1))
 refine Mz ?_
 refine Mdn ((S1.getD J.toNat default).id = c.session) (fun h7 => ?_) fun h7 => ?_
 rotate_left
 · refine Mt [.slice A1 S1.length c1, vz 11, vb false, vi 0] fun bs w hS => ?_
   have hv : ¬ rInv n c := by grind [rInv]
   rw [← hF1]
   have hm := ready_other (c := c) hm1 hv (K := J.toNat) (by show (mIdx _ _).toNat = _; rw [hJ]) h7
   refine ⟨⟨A1, c1, S1⟩, ?_, ?_, hS.outS (y := (⟨A1, c1, S1⟩ : Sl CSession)) (out_sessG i1 hS.res (fun x hx => ?_))⟩
   · rw [hm] <;> rfl
   · exact (congrArg Prod.fst hm).symm
   · exact own_in i0 hS.res hnm1 hx
 refine Mi ?_ (pc (pR (n + 1)) (pIo 68 J J.toNat S1.length i1))
 refine m_f1 ?_
 refine Ms J.toNat 3 (⟨(S1.getD J.toNat default).client, (S1.getD J.toNat default).id, (S1.getD J.toNat default).acked, n + 1, (S1.getD J.toNat default).replies⟩ : CSession) ?_ (by omega)
 intro L3 hL3 hlL3
 have hgL3 : L3.getD J.toNat default = (⟨(S1.getD J.toNat default).client, (S1.getD J.toNat default).id, (S1.getD J.toNat default).acked, n + 1, (S1.getD J.toNat default).replies⟩ : CSession) := by rw [hL3]; exact getD_set (by omega)
 have hbL3 : L3 = List.set S1 J.toNat (⟨(S1.getD J.toNat default).client, (S1.getD J.toNat default).id, (S1.getD J.toNat default).acked, n + 1, (S1.getD J.toNat default).replies⟩ : CSession) := by rw [hL3]
 refine Mdr 8 ?_ Try_mixed
 refine Mih ?_ (pc (pIo 74 J J.toNat S1.length i0) (pFk 76 J.toNat 2 1 hgL3 i0))
 refine Mz ?_
 refine Md ((S1.getD J.toNat default).acked < c.acked) (fun h8 => ?_) fun h8 => ?_
 rotate_left
 · have hak : kAck (S1.getD J.toNat default).abs c = (S1.getD J.toNat default).acked := ack_same (d := (S1.getD J.toNat default).abs) h8
   refine m_rowA (α := DKept) 94 ?_
   refine Ml (σ := Nat × Option Addr × Nat × List DKept) (fun ⟨i, A, c9, L⟩ => i ≤ (S1.getD J.toNat default).replies.n ∧ L = ((S1.getD J.toNat default).replies.xs.take i).filter (fun z : DKept => !decide (z.seq ≤ (S1.getD J.toNat default).acked))) (fun ⟨i, A, c9, L⟩ => (S1.getD J.toNat default).replies.n - i) (fun ⟨i, A, c9, L⟩ => [rowA 94 A c9 (L : List DKept), rowA 91 A1 c1 (L3 : List CSession), ownL (keptR 94) S1]) [14, 13, 12, 11, 7, 5] (fun ⟨i, A, c9, L⟩ => [(14, vI (i : Int)), (13, .v (.slice A L.length c9))]) (fun _ => []) ?_ (⟨0, none, 0, []⟩) ⟨Nat.zero_le _, rfl⟩
   rintro ⟨i, A, c9, L⟩ ⟨hi, hI⟩ _ on3
   have hLn : L.length ≤ i := by rw [hI]; exact Nat.le_trans (List.length_filter_le _ _) (by rw [List.length_take]; omega)
   refine Mi ?_ (pc (pIo 87 J J.toNat S1.length i1) (pFk 89 J.toNat 4 1 hgL3 i1))
   refine Md ((i : Int) < (((S1.getD J.toNat default).replies.n : Nat) : Int)) (fun h15 => ?_) fun h15 => ?_
   · refine Mdr 15 ?_ Try_mixed
     refine Mih ?_ (pc (pIo 96 J J.toNat S1.length i1) (pc (pFk 98 J.toNat 4 1 hgL3 i1) (pc (pI 100 (i : Int) i (s := (S1.getD J.toNat default).replies) (fun w hk hr => (own_elt (hr _ i2) hnm1 (mem_of_getD (i := J.toNat) (by omega))))) (pc (pF 102 i 0 1 (s := (S1.getD J.toNat default).replies) (fun w hk hr => (own_elt (hr _ i2) hnm1 (mem_of_getD (i := J.toNat) (by omega))))) (pc (pIo 105 J J.toNat S1.length i1) (pFk 107 J.toNat 2 1 hgL3 i1))))))
     refine Mz ?_
     refine Md ((S1.getD J.toNat default).acked < ((S1.getD J.toNat default).replies.at i).seq) (fun h16 => ?_) fun h16 => ?_
     rotate_left
     · refine Mi ?_ (pR ((i : Int) + 1))
       exact on3 ⟨i + 1, A, c9, L⟩ ⟨by omega, by first | exact filtS_in (s := (S1.getD J.toNat default).replies) (p := (fun z : DKept => decide (z.seq ≤ (S1.getD J.toNat default).acked))) hI (by omega) (decide_eq_false (by omega)) | exact filtS_out (s := (S1.getD J.toNat default).replies) (p := (fun z : DKept => decide (z.seq ≤ (S1.getD J.toNat default).acked))) hI (by omega) (decide_eq_true (by omega))⟩ (by show (S1.getD J.toNat default).replies.n - (i + 1) < (S1.getD J.toNat default).replies.n - i; omega)
     refine Mi ?_ (pc (pIo 112 J J.toNat S1.length i1) (pc (pFk 114 J.toNat 4 1 hgL3 i1) (pA 116 117 (i : Int) i (s := (S1.getD J.toNat default).replies) (fun w hk hr => (own_elt (hr _ i2) hnm1 (mem_of_getD (i := J.toNat) (by omega)))))))
     refine M1 ?_
     refine Mal (α := DKept) 40 ([(⟨((S1.getD J.toNat default).replies.at i).seq, ⟨((S1.getD J.toNat default).replies.at i).reply.code, ((S1.getD J.toNat default).replies.at i).reply.n, ((S1.getD J.toNat default).replies.at i).reply.text⟩⟩ : DKept)]) ?_
     intro A7 c7
     refine Mi ?_ (pR ((i : Int) + 1))
     exact on3 ⟨i + 1, A7, c7, L ++ [(⟨((S1.getD J.toNat default).replies.at i).seq, ⟨((S1.getD J.toNat default).replies.at i).reply.code, ((S1.getD J.toNat default).replies.at i).reply.n, ((S1.getD J.toNat default).replies.at i).reply.text⟩⟩ : DKept)]⟩ ⟨by omega, by first | exact filtS_in (s := (S1.getD J.toNat default).replies) (p := (fun z : DKept => decide (z.seq ≤ (S1.getD J.toNat default).acked))) hI (by omega) (decide_eq_false (by omega)) | exact filtS_out (s := (S1.getD J.toNat default).replies) (p := (fun z : DKept => decide (z.seq ≤ (S1.getD J.toNat default).acked))) hI (by omega) (decide_eq_true (by omega))⟩ (by show (S1.getD J.toNat default).replies.n - (i + 1) < (S1.getD J.toNat default).replies.n - i; omega)
   have hLX : L = (S1.getD J.toNat default).replies.xs.filter (fun z : DKept => !decide (z.seq ≤ (S1.getD J.toNat default).acked)) := by rw [hI, take_all (by omega)]
   have hll : kLeft (S1.getD J.toNat default).abs c = L := (left_more hak).trans hLX.symm
   refine m_know (F := RowOk A c9 (L : List DKept)) (fun bs w hS => rowA_rok (hS.res _ i0)) fun hrowK => ?_
   have nchrowK := hrowK.2
   refine Mi ?_ (pIo 123 J J.toNat S1.length i1)
   refine m_f1 ?_
   refine Ms J.toNat 4 (⟨(S1.getD J.toNat default).client, (S1.getD J.toNat default).id, (S1.getD J.toNat default).acked, n + 1, ⟨A, c9, L⟩⟩ : CSession) ?_ (by omega) (hg := hgL3)
   intro L8 hL8 hlL8
   have hgL8 : L8.getD J.toNat default = (⟨(S1.getD J.toNat default).client, (S1.getD J.toNat default).id, (S1.getD J.toNat default).acked, n + 1, ⟨A, c9, L⟩⟩ : CSession) := by rw [hL8]; exact getD_set (by omega)
   have hbL8 : L8 = List.set S1 J.toNat (⟨(S1.getD J.toNat default).client, (S1.getD J.toNat default).id, (S1.getD J.toNat default).acked, n + 1, ⟨A, c9, L⟩⟩ : CSession) := by rw [hL8, hbL3, List.set_set]
   refine Mdr 8 ?_ Try_mixed
   refine Mih ?_ (pc (pIo 129 J J.toNat S1.length i0) (pFk 131 J.toNat 2 1 hgL8 i0))
   refine Mz ?_
   refine Md (c.seq ≤ (S1.getD J.toNat default).acked) (fun h17 => ?_) fun h17 => ?_
   · refine Mt [.slice A1 S1.length c1, vz 12, vb false, vi 0] fun bs w hS => ?_
     clear on3
     have hv : ¬ rInv n c := by grind [rInv]
     rw [← hF1]
     have ha := ans_old hak h17
     have hm := ready_one (c := c) hm1 hv (K := J.toNat) (by show ¬ mIdx _ _ < 0; rw [hJ]; omega) (by show (mIdx _ _).toNat = _; rw [hJ]) h7 (kSess_of hak hll) ha
     have hvx := setS_map hbL8
     refine ⟨⟨A1, c1, L8⟩, ?_, ?_, hS.outS (y := (⟨A1, c1, L8⟩ : Sl CSession)) (out_sessG i0 hS.res (fun x hx => ?_))⟩
     · have hll2 : S1.length = L8.length := by rw [hbL8, List.length_set]
       rw [hm]
       exact congrArg (fun q => Ending.returned (.tuple #[.slice A1 q c1, vz 12, vb false, vi 0])) hll2
     · exact Eq.trans hvx (congrArg Prod.fst hm).symm
     · rw [hbL8] at hx
       rcases mem_set hx with hx | hx
       · subst hx; exact allR_row i1 (hS.res _ i1) (fun z hz => hnm1 _ (mem_of_getD (L := S1) (i := J.toNat) (by omega)) z (by rw [hLX] at hz; exact (List.mem_filter.1 hz).1))
       · exact own_in i2 hS.res hnm1 hx
   refine Ml (σ := Nat) (fun j => j ≤ L.length ∧ ∀ i0, i0 < j → ¬ (L.getD i0 default).seq = c.seq) (fun j => L.length - j) (fun j => [rowA 91 A1 c1 (L8 : List CSession), rowA 94 A c9 (L : List DKept), ownL (keptR 94) S1]) [15, 13, 12, 11, 7, 5] (fun j => [(15, vI (j : Int))]) (fun _ => []) ?_ 0 ⟨Nat.zero_le _, fun i0 h0 => absurd h0 (Nat.not_lt_zero _)⟩
   rintro j ⟨hj0, hX⟩ _ on4
   refine Md ((j : Int) < (L.length : Int)) (fun h18 => ?_) fun h18 => ?_
   · refine Mdr 8 ?_ Try_mixed
     refine Mih ?_ (pc (pIo 143 (j : Int) j L.length i1) (pFo 145 j 0 1 i1))
     refine Mz ?_
     refine Md ((L.getD j default).seq = c.seq) (fun h19 => ?_) fun h19 => ?_
     rotate_left
     · refine Mi ?_ (pR ((j : Int) + 1))
       exact on4 (j + 1) ⟨by omega, fun i0 h0 => by rcases Nat.lt_succ_iff_lt_or_eq.1 h0 with h | h; exact hX i0 h; subst h; assumption⟩ (by show L.length - (j + 1) < L.length - j; omega)
     refine Mda 10 [] [1] [rowA 91 A1 c1 (L8 : List CSession), rowA 94 A c9 (L : List DKept), ownL (keptR 94) S1] Try_mixed ?_
     refine Mih ?_ (pc (pIo 152 (j : Int) j L.length i1) (pFo 154 j 1 3 i1))
     refine Mz ?_
     refine Mt [.slice A1 S1.length c1, (L.getD j default).reply.val, vb false, vi 0] fun bs w hS => ?_
     clear on3 on4
     have hv : ¬ rInv n c := by grind [rInv]
     rw [← hF1]
     have ha := ans_kept hak hll (idx_at (mIdxL_here (L := L) (p := fun z : DKept => decide (z.seq = c.seq)) (i := j) (by omega) (decide_eq_true h19) (fun i0 h0 => decide_eq_false (hX i0 h0)))) h17 (by omega)
     have hm := ready_one (c := c) hm1 hv (K := J.toNat) (by show ¬ mIdx _ _ < 0; rw [hJ]; omega) (by show (mIdx _ _).toNat = _; rw [hJ]) h7 (kSess_of hak hll) ha
     have hvx := setS_map hbL8
     refine ⟨⟨A1, c1, L8⟩, ?_, ?_, hS.outS (y := (⟨A1, c1, L8⟩ : Sl CSession)) (out_sessG i0 hS.res (fun x hx => ?_))⟩
     · have hll2 : S1.length = L8.length := by rw [hbL8, List.length_set]
       rw [hm]
       exact congrArg (fun q => Ending.returned (.tuple #[.slice A1 q c1, (L.getD j default).reply.val, vb false, vi 0])) hll2
     · exact Eq.trans hvx (congrArg Prod.fst hm).symm
     · rw [hbL8] at hx
       rcases mem_set hx with hx | hx
       · subst hx; exact allR_row i1 (hS.res _ i1) (fun z hz => hnm1 _ (mem_of_getD (L := S1) (i := J.toNat) (by omega)) z (by rw [hLX] at hz; exact (List.mem_filter.1 hz).1))
       · exact own_in i2 hS.res hnm1 hx
   refine Mdr 9 ?_ Try_mixed
   refine Mih ?_ (pc (pIo 159 J J.toNat S1.length i0) (pc (pFk 161 J.toNat 2 1 hgL8 i0) (pR ((S1.getD J.toNat default).acked + 4))))
   refine Mz ?_
   refine Md ((S1.getD J.toNat default).acked + 4 < c.seq) (fun h20 => ?_) fun h20 => ?_
   rotate_left
   · refine Mt [.slice A1 S1.length c1, vz 0, vb true, vi 0] fun bs w hS => ?_
     clear on3 on4
     have hv : ¬ rInv n c := by grind [rInv]
     rw [← hF1]
     have ha := ans_new hak hll (idx_at (mIdxL_none (L := L) (p := fun z : DKept => decide (z.seq = c.seq)) fun i0 h0 => decide_eq_false (hX i0 (by omega)))) h17 (by omega) h20
     have hm := ready_one (c := c) hm1 hv (K := J.toNat) (by show ¬ mIdx _ _ < 0; rw [hJ]; omega) (by show (mIdx _ _).toNat = _; rw [hJ]) h7 (kSess_of hak hll) ha
     have hvx := setS_map hbL8
     refine ⟨⟨A1, c1, L8⟩, ?_, ?_, hS.outS (y := (⟨A1, c1, L8⟩ : Sl CSession)) (out_sessG i0 hS.res (fun x hx => ?_))⟩
     · have hll2 : S1.length = L8.length := by rw [hbL8, List.length_set]
       rw [hm]
       exact congrArg (fun q => Ending.returned (.tuple #[.slice A1 q c1, vz 0, vb true, vi 0])) hll2
     · exact Eq.trans hvx (congrArg Prod.fst hm).symm
     · rw [hbL8] at hx
       rcases mem_set hx with hx | hx
       · subst hx; exact allR_row i1 (hS.res _ i1) (fun z hz => hnm1 _ (mem_of_getD (L := S1) (i := J.toNat) (by omega)) z (by rw [hLX] at hz; exact (List.mem_filter.1 hz).1))
       · exact own_in i2 hS.res hnm1 hx
   refine Mt [.slice A1 S1.length c1, vz 2, vb false, vi 0] fun bs w hS => ?_
   clear on3 on4
   have hv : ¬ rInv n c := by grind [rInv]
   rw [← hF1]
   have ha := ans_far hak hll (idx_at (mIdxL_none (L := L) (p := fun z : DKept => decide (z.seq = c.seq)) fun i0 h0 => decide_eq_false (hX i0 (by omega)))) h17 (by omega) h20
   have hm := ready_one (c := c) hm1 hv (K := J.toNat) (by show ¬ mIdx _ _ < 0; rw [hJ]; omega) (by show (mIdx _ _).toNat = _; rw [hJ]) h7 (kSess_of hak hll) ha
   have hvx := setS_map hbL8
   refine ⟨⟨A1, c1, L8⟩, ?_, ?_, hS.outS (y := (⟨A1, c1, L8⟩ : Sl CSession)) (out_sessG i0 hS.res (fun x hx => ?_))⟩
   · have hll2 : S1.length = L8.length := by rw [hbL8, List.length_set]
     rw [hm]
     exact congrArg (fun q => Ending.returned (.tuple #[.slice A1 q c1, vz 2, vb false, vi 0])) hll2
   · exact Eq.trans hvx (congrArg Prod.fst hm).symm
   · rw [hbL8] at hx
     rcases mem_set hx with hx | hx
     · subst hx; exact allR_row i1 (hS.res _ i1) (fun z hz => hnm1 _ (mem_of_getD (L := S1) (i := J.toNat) (by omega)) z (by rw [hLX] at hz; exact (List.mem_filter.1 hz).1))
     · exact own_in i2 hS.res hnm1 hx
 have hak := ack_up (d := (S1.getD J.toNat default).abs) (c := c) h8
 have hak2 := hak
 refine Mi ?_ (pIo 82 J J.toNat S1.length i0)
 refine Ms J.toNat 2 (⟨(S1.getD J.toNat default).client, (S1.getD J.toNat default).id, c.acked, n + 1, (S1.getD J.toNat default).replies⟩ : CSession) ?_ (by omega) (hg := hgL3)
 intro L4 hL4 hlL4
 have hgL4 : L4.getD J.toNat default = (⟨(S1.getD J.toNat default).client, (S1.getD J.toNat default).id, c.acked, n + 1, (S1.getD J.toNat default).replies⟩ : CSession) := by rw [hL4]; exact getD_set (by omega)
 have hbL4 : L4 = List.set S1 J.toNat (⟨(S1.getD J.toNat default).client, (S1.getD J.toNat default).id, c.acked, n + 1, (S1.getD J.toNat default).replies⟩ : CSession) := by rw [hL4, hbL3, List.set_set]
 refine m_rowA (α := DKept) 94 ?_
 refine Ml (σ := Nat × Option Addr × Nat × List DKept) (fun ⟨i, A, c9, L⟩ => i ≤ (S1.getD J.toNat default).replies.n ∧ L = ((S1.getD J.toNat default).replies.xs.take i).filter (fun z : DKept => !decide (z.seq ≤ c.acked))) (fun ⟨i, A, c9, L⟩ => (S1.getD J.toNat default).replies.n - i) (fun ⟨i, A, c9, L⟩ => [rowA 94 A c9 (L : List DKept), rowA 91 A1 c1 (L4 : List CSession), ownL (keptR 94) S1]) [14, 13, 12, 11, 7, 5] (fun ⟨i, A, c9, L⟩ => [(14, vI (i : Int)), (13, .v (.slice A L.length c9))]) (fun _ => []) ?_ (⟨0, none, 0, []⟩) ⟨Nat.zero_le _, rfl⟩
 rintro ⟨i, A, c9, L⟩ ⟨hi, hI⟩ _ on1
 have hLn : L.length ≤ i := by rw [hI]; exact Nat.le_trans (List.length_filter_le _ _) (by rw [List.length_take]; omega)
 refine Mi ?_ (pc (pIo 87 J J.toNat S1.length i1) (pFk 89 J.toNat 4 1 hgL4 i1))
 refine Md ((i : Int) < (((S1.getD J.toNat default).replies.n : Nat) : Int)) (fun h9 => ?_) fun h9 => ?_
 · refine Mdr 15 ?_ Try_mixed
   refine Mih ?_ (pc (pIo 96 J J.toNat S1.length i1) (pc (pFk 98 J.toNat 4 1 hgL4 i1) (pc (pI 100 (i : Int) i (s := (S1.getD J.toNat default).replies) (fun w hk hr => (own_elt (hr _ i2) hnm1 (mem_of_getD (i := J.toNat) (by omega))))) (pc (pF 102 i 0 1 (s := (S1.getD J.toNat default).replies) (fun w hk hr => (own_elt (hr _ i2) hnm1 (mem_of_getD (i := J.toNat) (by omega))))) (pc (pIo 105 J J.toNat S1.length i1) (pFk 107 J.toNat 2 1 hgL4 i1))))))
   refine Mz ?_
   refine Md (c.acked < ((S1.getD J.toNat default).replies.at i).seq) (fun h10 => ?_) fun h10 => ?_
   rotate_left
   · refine Mi ?_ (pR ((i : Int) + 1))
     exact on1 ⟨i + 1, A, c9, L⟩ ⟨by omega, by first | exact filtS_in (s := (S1.getD J.toNat default).replies) (p := (fun z : DKept => decide (z.seq ≤ c.acked))) hI (by omega) (decide_eq_false (by omega)) | exact filtS_out (s := (S1.getD J.toNat default).replies) (p := (fun z : DKept => decide (z.seq ≤ c.acked))) hI (by omega) (decide_eq_true (by omega))⟩ (by show (S1.getD J.toNat default).replies.n - (i + 1) < (S1.getD J.toNat default).replies.n - i; omega)
   refine Mi ?_ (pc (pIo 112 J J.toNat S1.length i1) (pc (pFk 114 J.toNat 4 1 hgL4 i1) (pA 116 117 (i : Int) i (s := (S1.getD J.toNat default).replies) (fun w hk hr => (own_elt (hr _ i2) hnm1 (mem_of_getD (i := J.toNat) (by omega)))))))
   refine M1 ?_
   refine Mal (α := DKept) 40 ([(⟨((S1.getD J.toNat default).replies.at i).seq, ⟨((S1.getD J.toNat default).replies.at i).reply.code, ((S1.getD J.toNat default).replies.at i).reply.n, ((S1.getD J.toNat default).replies.at i).reply.text⟩⟩ : DKept)]) ?_
   intro A5 c5
   refine Mi ?_ (pR ((i : Int) + 1))
   exact on1 ⟨i + 1, A5, c5, L ++ [(⟨((S1.getD J.toNat default).replies.at i).seq, ⟨((S1.getD J.toNat default).replies.at i).reply.code, ((S1.getD J.toNat default).replies.at i).reply.n, ((S1.getD J.toNat default).replies.at i).reply.text⟩⟩ : DKept)]⟩ ⟨by omega, by first | exact filtS_in (s := (S1.getD J.toNat default).replies) (p := (fun z : DKept => decide (z.seq ≤ c.acked))) hI (by omega) (decide_eq_false (by omega)) | exact filtS_out (s := (S1.getD J.toNat default).replies) (p := (fun z : DKept => decide (z.seq ≤ c.acked))) hI (by omega) (decide_eq_true (by omega))⟩ (by show (S1.getD J.toNat default).replies.n - (i + 1) < (S1.getD J.toNat default).replies.n - i; omega)
 have hLX : L = (S1.getD J.toNat default).replies.xs.filter (fun z : DKept => !decide (z.seq ≤ c.acked)) := by rw [hI, take_all (by omega)]
 have hll : kLeft (S1.getD J.toNat default).abs c = L := (left_more hak).trans hLX.symm
 refine m_know (F := RowOk A c9 (L : List DKept)) (fun bs w hS => rowA_rok (hS.res _ i0)) fun hrowK => ?_
 have nchrowK := hrowK.2
 refine Mi ?_ (pIo 123 J J.toNat S1.length i1)
 refine m_f1 ?_
 refine Ms J.toNat 4 (⟨(S1.getD J.toNat default).client, (S1.getD J.toNat default).id, c.acked, n + 1, ⟨A, c9, L⟩⟩ : CSession) ?_ (by omega) (hg := hgL4)
 intro L6 hL6 hlL6
 have hgL6 : L6.getD J.toNat default = (⟨(S1.getD J.toNat default).client, (S1.getD J.toNat default).id, c.acked, n + 1, ⟨A, c9, L⟩⟩ : CSession) := by rw [hL6]; exact getD_set (by omega)
 have hbL6 : L6 = List.set S1 J.toNat (⟨(S1.getD J.toNat default).client, (S1.getD J.toNat default).id, c.acked, n + 1, ⟨A, c9, L⟩⟩ : CSession) := by rw [hL6, hbL4, List.set_set]
 refine Mdr 8 ?_ Try_mixed
 refine Mih ?_ (pc (pIo 129 J J.toNat S1.length i0) (pFk 131 J.toNat 2 1 hgL6 i0))
 refine Mz ?_
 refine Md (c.seq ≤ c.acked) (fun h11 => ?_) fun h11 => ?_
 · refine Mt [.slice A1 S1.length c1, vz 12, vb false, vi 0] fun bs w hS => ?_
   clear on1
   have hv : ¬ rInv n c := by grind [rInv]
   rw [← hF1]
   have ha := ans_old hak h11
   have hm := ready_one (c := c) hm1 hv (K := J.toNat) (by show ¬ mIdx _ _ < 0; rw [hJ]; omega) (by show (mIdx _ _).toNat = _; rw [hJ]) h7 (kSess_of hak hll) ha
   have hvx := setS_map hbL6
   refine ⟨⟨A1, c1, L6⟩, ?_, ?_, hS.outS (y := (⟨A1, c1, L6⟩ : Sl CSession)) (out_sessG i0 hS.res (fun x hx => ?_))⟩
   · have hll2 : S1.length = L6.length := by rw [hbL6, List.length_set]
     rw [hm]
     exact congrArg (fun q => Ending.returned (.tuple #[.slice A1 q c1, vz 12, vb false, vi 0])) hll2
   · exact Eq.trans hvx (congrArg Prod.fst hm).symm
   · rw [hbL6] at hx
     rcases mem_set hx with hx | hx
     · subst hx; exact allR_row i1 (hS.res _ i1) (fun z hz => hnm1 _ (mem_of_getD (L := S1) (i := J.toNat) (by omega)) z (by rw [hLX] at hz; exact (List.mem_filter.1 hz).1))
     · exact own_in i2 hS.res hnm1 hx
 refine Ml (σ := Nat) (fun j => j ≤ L.length ∧ ∀ i0, i0 < j → ¬ (L.getD i0 default).seq = c.seq) (fun j => L.length - j) (fun j => [rowA 91 A1 c1 (L6 : List CSession), rowA 94 A c9 (L : List DKept), ownL (keptR 94) S1]) [15, 13, 12, 11, 7, 5] (fun j => [(15, vI (j : Int))]) (fun _ => []) ?_ 0 ⟨Nat.zero_le _, fun i0 h0 => absurd h0 (Nat.not_lt_zero _)⟩
 rintro j ⟨hj0, hX⟩ _ on2
 refine Md ((j : Int) < (L.length : Int)) (fun h12 => ?_) fun h12 => ?_
 · refine Mdr 8 ?_ Try_mixed
   refine Mih ?_ (pc (pIo 143 (j : Int) j L.length i1) (pFo 145 j 0 1 i1))
   refine Mz ?_
   refine Md ((L.getD j default).seq = c.seq) (fun h13 => ?_) fun h13 => ?_
   rotate_left
   · refine Mi ?_ (pR ((j : Int) + 1))
     exact on2 (j + 1) ⟨by omega, fun i0 h0 => by rcases Nat.lt_succ_iff_lt_or_eq.1 h0 with h | h; exact hX i0 h; subst h; assumption⟩ (by show L.length - (j + 1) < L.length - j; omega)
   refine Mda 10 [] [1] [rowA 91 A1 c1 (L6 : List CSession), rowA 94 A c9 (L : List DKept), ownL (keptR 94) S1] Try_mixed ?_
   refine Mih ?_ (pc (pIo 152 (j : Int) j L.length i1) (pFo 154 j 1 3 i1))
   refine Mz ?_
   refine Mt [.slice A1 S1.length c1, (L.getD j default).reply.val, vb false, vi 0] fun bs w hS => ?_
   clear on1 on2
   have hv : ¬ rInv n c := by grind [rInv]
   rw [← hF1]
   have ha := ans_kept hak hll (idx_at (mIdxL_here (L := L) (p := fun z : DKept => decide (z.seq = c.seq)) (i := j) (by omega) (decide_eq_true h13) (fun i0 h0 => decide_eq_false (hX i0 h0)))) h11 (by omega)
   have hm := ready_one (c := c) hm1 hv (K := J.toNat) (by show ¬ mIdx _ _ < 0; rw [hJ]; omega) (by show (mIdx _ _).toNat = _; rw [hJ]) h7 (kSess_of hak hll) ha
   have hvx := setS_map hbL6
   refine ⟨⟨A1, c1, L6⟩, ?_, ?_, hS.outS (y := (⟨A1, c1, L6⟩ : Sl CSession)) (out_sessG i0 hS.res (fun x hx => ?_))⟩
   · have hll2 : S1.length = L6.length := by rw [hbL6, List.length_set]
     rw [hm]
     exact congrArg (fun q => Ending.returned (.tuple #[.slice A1 q c1, (L.getD j default).reply.val, vb false, vi 0])) hll2
   · exact Eq.trans hvx (congrArg Prod.fst hm).symm
   · rw [hbL6] at hx
     rcases mem_set hx with hx | hx
     · subst hx; exact allR_row i1 (hS.res _ i1) (fun z hz => hnm1 _ (mem_of_getD (L := S1) (i := J.toNat) (by omega)) z (by rw [hLX] at hz; exact (List.mem_filter.1 hz).1))
     · exact own_in i2 hS.res hnm1 hx
 refine Mdr 9 ?_ Try_mixed
 refine Mih ?_ (pc (pIo 159 J J.toNat S1.length i0) (pc (pFk 161 J.toNat 2 1 hgL6 i0) (pR (c.acked + 4))))
 refine Mz ?_
 refine Md (c.acked + 4 < c.seq) (fun h14 => ?_) fun h14 => ?_
 rotate_left
 · refine Mt [.slice A1 S1.length c1, vz 0, vb true, vi 0] fun bs w hS => ?_
   clear on1 on2
   have hv : ¬ rInv n c := by grind [rInv]
   rw [← hF1]
   have ha := ans_new hak hll (idx_at (mIdxL_none (L := L) (p := fun z : DKept => decide (z.seq = c.seq)) fun i0 h0 => decide_eq_false (hX i0 (by omega)))) h11 (by omega) h14
   have hm := ready_one (c := c) hm1 hv (K := J.toNat) (by show ¬ mIdx _ _ < 0; rw [hJ]; omega) (by show (mIdx _ _).toNat = _; rw [hJ]) h7 (kSess_of hak hll) ha
   have hvx := setS_map hbL6
   refine ⟨⟨A1, c1, L6⟩, ?_, ?_, hS.outS (y := (⟨A1, c1, L6⟩ : Sl CSession)) (out_sessG i0 hS.res (fun x hx => ?_))⟩
   · have hll2 : S1.length = L6.length := by rw [hbL6, List.length_set]
     rw [hm]
     exact congrArg (fun q => Ending.returned (.tuple #[.slice A1 q c1, vz 0, vb true, vi 0])) hll2
   · exact Eq.trans hvx (congrArg Prod.fst hm).symm
   · rw [hbL6] at hx
     rcases mem_set hx with hx | hx
     · subst hx; exact allR_row i1 (hS.res _ i1) (fun z hz => hnm1 _ (mem_of_getD (L := S1) (i := J.toNat) (by omega)) z (by rw [hLX] at hz; exact (List.mem_filter.1 hz).1))
     · exact own_in i2 hS.res hnm1 hx
 refine Mt [.slice A1 S1.length c1, vz 2, vb false, vi 0] fun bs w hS => ?_
 clear on1 on2
 have hv : ¬ rInv n c := by grind [rInv]
 rw [← hF1]
 have ha := ans_far hak hll (idx_at (mIdxL_none (L := L) (p := fun z : DKept => decide (z.seq = c.seq)) fun i0 h0 => decide_eq_false (hX i0 (by omega)))) h11 (by omega) h14
 have hm := ready_one (c := c) hm1 hv (K := J.toNat) (by show ¬ mIdx _ _ < 0; rw [hJ]; omega) (by show (mIdx _ _).toNat = _; rw [hJ]) h7 (kSess_of hak hll) ha
 have hvx := setS_map hbL6
 refine ⟨⟨A1, c1, L6⟩, ?_, ?_, hS.outS (y := (⟨A1, c1, L6⟩ : Sl CSession)) (out_sessG i0 hS.res (fun x hx => ?_))⟩
 · have hll2 : S1.length = L6.length := by rw [hbL6, List.length_set]
   rw [hm]
   exact congrArg (fun q => Ending.returned (.tuple #[.slice A1 q c1, vz 2, vb false, vi 0])) hll2
 · exact Eq.trans hvx (congrArg Prod.fst hm).symm
 · rw [hbL6] at hx
   rcases mem_set hx with hx | hx
   · subst hx; exact allR_row i1 (hS.res _ i1) (fun z hz => hnm1 _ (mem_of_getD (L := S1) (i := J.toNat) (by omega)) z (by rw [hLX] at hz; exact (List.mem_filter.1 hz).1))
   · exact own_in i2 hS.res hnm1 hx

theorem law_SessionReady {B : Nat → Prop} (s : Sl CSession) (n : Int) (c : DCommand) (w : World) (hs : s.rd B w) (hc : Rds.sub B w c) (hsm : Rds.small s) (ht : inR c.client) : Calls Try.prog 14 #[s.val, vi n, c.val] w fun e w' => e = .returned (vb true) ∧ Kp [] w w' := by
 have oks := Sl.rd.ok hs
 have ncs := Sl.ok.nc oks
 have hns : s.n = s.xs.length := rfl
 refine M0 ?_ Try.func14
 refine Mu ?_ Try.call27 (fun bs w hS => law_kept s w (Sl.rd.kp hs hS.kp) hsm)
 rintro fp1 y1 hF1 hok1
 refine Mu ?_ Try.call40 (fun bs w hS => session_Ready y1 n c w (hS.res _ i0) ht hc)
 rintro fp2 y2 hF2 hok2
 refine Mu ?_ Try.call41 (fun bs w hS => ref_ReadyOf s n c w (Sl.rd.kp hs hS.kp) ht hc)
 rintro fp3 y3 hF3 hok3
 refine Mi ?_ (pG [(38, .val (vb ((decide (((mReady (y1.xs.map CSession.abs) n c).2.1).code = ((mReady (s.xs.map CSession.abs) n c).2.1).code)) && ((decide (((mReady (y1.xs.map CSession.abs) n c).2.1).n = ((mReady (s.xs.map CSession.abs) n c).2.1).n)) && ((decide (((mReady (y1.xs.map CSession.abs) n c).2.1).text = ((mReady (s.xs.map CSession.abs) n c).2.1).text)) && true)))))] (oc ((eq_agg (by kernel_rfl) (by kernel_rfl)) : ∀ w, (do eqGuard .eql 63 (.tmp 36) (.tmp 37) ((mReady (y1.xs.map CSession.abs) n c).2.1).val ((mReady (s.xs.map CSession.abs) n c).2.1).val; binOp .eql 63 ((mReady (y1.xs.map CSession.abs) n c).2.1).val ((mReady (s.xs.map CSession.abs) n c).2.1).val : Sem Value).run Try.prog w = .ok (vb ((decide (((mReady (y1.xs.map CSession.abs) n c).2.1).code = ((mReady (s.xs.map CSession.abs) n c).2.1).code)) && ((decide (((mReady (y1.xs.map CSession.abs) n c).2.1).n = ((mReady (s.xs.map CSession.abs) n c).2.1).n)) && ((decide (((mReady (y1.xs.map CSession.abs) n c).2.1).text = ((mReady (s.xs.map CSession.abs) n c).2.1).text)) && true)))) w) on))
 refine Mb ((decide (((mReady (y1.xs.map CSession.abs) n c).2.1).code = ((mReady (s.xs.map CSession.abs) n c).2.1).code)) && ((decide (((mReady (y1.xs.map CSession.abs) n c).2.1).n = ((mReady (s.xs.map CSession.abs) n c).2.1).n)) && ((decide (((mReady (y1.xs.map CSession.abs) n c).2.1).text = ((mReady (s.xs.map CSession.abs) n c).2.1).text)) && true))) (fun h1 => ?_) fun h1 => ?_
 rotate_left
 · exfalso; first | (simp at h1; done) | (rw [hF1] at h1; simp at h1; done)
 refine Mi ?_ (pG [(42, .val (vb ((mReady (y1.xs.map CSession.abs) n c).2.2.1 == (mReady (s.xs.map CSession.abs) n c).2.2.1)))] (oc ((eq_bool Try.underlying4) : ∀ w, (do eqGuard .eql 4 (.tmp 40) (.tmp 41) (vb (mReady (y1.xs.map CSession.abs) n c).2.2.1) (vb (mReady (s.xs.map CSession.abs) n c).2.2.1); binOp .eql 4 (vb (mReady (y1.xs.map CSession.abs) n c).2.2.1) (vb (mReady (s.xs.map CSession.abs) n c).2.2.1) : Sem Value).run Try.prog w = .ok (vb ((mReady (y1.xs.map CSession.abs) n c).2.2.1 == (mReady (s.xs.map CSession.abs) n c).2.2.1)) w) on))
 refine Mb ((mReady (y1.xs.map CSession.abs) n c).2.2.1 == (mReady (s.xs.map CSession.abs) n c).2.2.1) (fun h2 => ?_) fun h2 => ?_
 rotate_left
 · exfalso; first | (simp at h2; done) | (rw [hF1] at h2; simp at h2; done)
 refine Md ((mReady (y1.xs.map CSession.abs) n c).2.2.2 = (mReady (s.xs.map CSession.abs) n c).2.2.2) (fun h3 => ?_) fun h3 => ?_
 rotate_left
 · exfalso; first | (simp at h3; done) | (rw [hF1] at h3; simp at h3; done)
 refine Mp ?_ Try.call22 (fun bs w hS => same_sessions _ _ w (hS.res _ i1) (hS.res _ i0) (by rw [hF2, hF3, hF1]))
 refine Mq 54 true ?_ rfl
 refine Mp ?_ Try.call22 (fun bs w hS => same_sessions _ _ w (hS.res _ i2) (Sl.rd.kp hs hS.kp) hF1)
 exact Meb true (by simp [retOf, den])

end Go.Proofs.Ytakdjdfkdbofoaa.W
