/-
  The functions that the law SessionReady reaches, walked: each returns what its model says.
  Conditions: those that each theorem states.
-/
import Derived.Test.YtececkgjacccmacMc
import Derived.Test.YtececkgjacccmacChecked
set_option linter.unusedVariables false
set_option linter.unusedSimpArgs false
set_option maxRecDepth 100000
namespace Go.Proofs.Ytececkgjacccmac.W
open Go.Proofs.Ytececkgjacccmac.Fw Go.RowKit

theorem Try_mixed : Try.prog.follows .mixedOrders = true := by kernel_rfl
theorem laid : laidOutB Try.prog = true := by kernel_rfl

theorem ref_In (n lo hi : Int) (w : World) : Calls Try.prog 68 #[.int .i64 n, .int .i64 lo, .int .i64 hi] w fun e w' => e = .returned (.bool (inB n lo hi)) ∧ Kp [] w w' := by
 refine calls_J0 15 Try.func68 rfl rfl [.int .i64 n, .int .i64 lo, .int .i64 hi] rfl ?_
 refine Cs (Cg (Jq 1 [0, 1, 2] 0 ⟨[(0, vI n), (1, vI lo), (2, vI hi)], []⟩ (Ln (Qn (Cs (Cg (Jq 4 [10, 0, 2] 0 ⟨[(10, vB (decide (lo ≤ n))), (0, vI n), (2, vI hi)], []⟩ ?_)))))))
 cases h1 : decide (lo ≤ n) with
 | true =>
  have h1 := of_decide_eq_true h1
  refine Jq 5 [6] 0 ⟨[(6, vB (decide (n ≤ hi)))], []⟩ (Ln (Qn (Cr (Rt (.inl rfl) [vB (decide (n ≤ hi))] rfl (fun bs w hS => ?_)))))
  exact ⟨by simp [retOf, den, inB, h1], hS.kp⟩
 | false =>
  have h1 := of_decide_eq_false h1
  refine Jq 5 [6] 0 ⟨[(6, vB false)], []⟩ (Ln (Qn (Cr (Rt (.inl rfl) [vB false] rfl (fun bs w hS => ?_)))))
  exact ⟨by simp [retOf, den, inB, h1], hS.kp⟩

theorem session_replies {B : Nat → Prop} (x : CSession) (w : World) (hx : Rds.sub B w x) (hb : 0 ≤ x.acked ∧ x.acked ≤ 1048576) : Calls Try.prog 98 #[.agg #[.int .i64 x.client, .int .i64 x.id, .int .i64 x.acked, .int .i64 x.last, .slice x.replies.A x.replies.n x.replies.c]] w fun e w' => e = .returned (.bool (mReplies x.abs)) ∧ Kp [] w w' := by
 have okx := Rds.okof hx
 have ncx := Sl.ok.nc okx
 have hns : x.replies.n = x.replies.xs.length := rfl
 have hat : ∀ q, x.abs.replies.getD q default = x.replies.at q := fun _ => rfl
 have hac : x.abs.acked = x.acked := rfl
 have hln : x.abs.replies.length = x.replies.n := rfl
 refine calls_J0 70 Try.func98 rfl rfl [.agg #[.int .i64 x.client, .int .i64 x.id, .int .i64 x.acked, .int .i64 x.last, .slice x.replies.A x.replies.n x.replies.c]] rfl ?_
 refine Cs (Cg (Jq 2 [1] 1 ⟨[(1, .p 0 0)], [⟨98, x.cs⟩]⟩ (Ln (Qn (Cs (Cs (Cg (Jq 4 [9, 8, 7, 1] 1 ⟨[(9, vI 0), (8, vI (x.replies.n : Int)), (7, .v x.replies.val), (1, .p 0 0)], [⟨98, x.cs⟩]⟩ (Ln (Qn (Cb (Cl (σ := Nat) (fun i => i ≤ x.replies.n ∧ allTo (keptOk x.abs) i = true) (fun i => x.replies.n - i) (fun i => []) (fun i => ⟨[(9, vI (i : Int)), (8, vI (x.replies.n : Int)), (7, .v x.replies.val), (1, .p 0 0)], [⟨98, x.cs⟩]⟩) 0 ⟨Nat.zero_le _, rfl⟩ (Ss [9, 8, 7, 1] 1 (by kernel_rfl) rfl) ?_))))))))))))
 rintro i ⟨hi, hI⟩
 refine Cs (Cg (Jq 1 [10, 9, 8, 7, 1] 1 ⟨[(10, vB (decide ((i : Int) < (x.replies.n : Int)))), (9, vI (i : Int)), (8, vI (x.replies.n : Int)), (7, .v x.replies.val), (1, .p 0 0)], [⟨98, x.cs⟩]⟩ (Ln (Qn (Cs ?_)))))
 cases h1 : decide ((i : Int) < (x.replies.n : Int)) with
 | true =>
  have h1 := of_decide_eq_true h1
  refine Ci true rfl (Ck (Qn (Cs (Cb (Cs (Cg (Jr 6 [(1, .idx x.replies.ad i), (2, .ext [.int .i64 (x.replies.at i).seq, .int .i64 (x.replies.at i).reply.code, .int .i64 (x.replies.at i).reply.n, .string (x.replies.at i).reply.text])] [3, 4, 9, 8, 7, 1] 2 ⟨[(3, vI (i : Int)), (4, .p 1 0), (9, vI (i : Int)), (8, vI (x.replies.n : Int)), (7, .v x.replies.val), (1, .p 0 0)], [⟨98, x.cs⟩, ⟨101, (x.replies.at i).cs⟩]⟩ [x.replies.A = some x.replies.ad, (i : Int) = (i : Int), i < x.replies.n] [(x.replies.ad.add (i * 4), [.int .i64 (x.replies.at i).seq, .int .i64 (x.replies.at i).reply.code, .int .i64 (x.replies.at i).reply.n, .string (x.replies.at i).reply.text])] (by kernel_rfl) (oc (Sl.ok.own (s := x.replies) (i := i) okx (by omega)) (oc rfl (oc (by omega) on))) (fun w hk hr => ⟨(Sl.rd.all (s := x.replies) (i := i) (Rds.kp hx hk) (by omega) rfl), trivial⟩) (Ln (Qn (Cs (Cs (Cd 29 [] (.p 0 (.q 1 (.p 2 (.q 3 (.p 4 (.p 5 (.p 6 (.q 7 (.p 8 (.q 9 (.p 10 (.p 11 (.p 12 (.p 13 (.p 14 (.p 15 (.p 16 (.p 17 (.q 18 (.p 19 (.p 20 (.p 21 (.p 22 (.q 23 (.p 24 (.q 25 (.p 26 (.p 27 (.p 28 .nil))))))))))))))))))))))))))))) [] [] Try_mixed (by kernel_rfl) (pq_then (pq_then (pq_block (pq_then (pq_then (pq_block (pq_then pq_body))))))) .slnil (Hq [] [(0, true), (1, false), (2, true), (3, false), (4, true), (5, true)] [(19, vB (decide ((x.replies.at i).seq ≤ x.acked))), (18, vB (decide ((x.replies.at i).seq ≤ x.acked))), (17, vI x.acked), (16, .p 0 2), (15, vI (x.replies.at i).seq), (14, .p 1 0), (3, vI (i : Int)), (4, .p 1 0), (9, vI (i : Int)), (8, vI (x.replies.n : Int)), (7, .v x.replies.val), (1, .p 0 0)] [] [] rfl (by kernel_rfl) on wn ?_)))))))))))))
  cases h2 : decide ((x.replies.at i).seq ≤ x.acked) with
  | true =>
   have h2 := of_decide_eq_true h2
   refine Hq [] [(6, true), (7, false), (8, true), (9, false), (10, true), (11, true), (12, true), (13, true), (14, true), (15, true), (16, true), (17, true), (18, false), (19, true), (20, true), (21, true), (22, true), (23, false), (24, true), (25, false), (26, true), (27, true), (28, true)] [(42, vB true), (41, .v (undef)), (40, .v (undef)), (39, .v (undef)), (38, .v (undef)), (37, .v (undef)), (36, .v (undef)), (35, .v (undef)), (34, .v (undef)), (33, .v (undef)), (32, .v (undef)), (31, .v (undef)), (30, .v (undef)), (29, .v (undef)), (28, .v (undef)), (27, vB true), (26, vB true), (25, .v (undef)), (24, .v (undef)), (23, .v (undef)), (22, .v (undef)), (21, .v (undef)), (20, .v (undef)), (19, vB true), (18, vB true), (17, vI x.acked), (16, .p 0 2), (15, vI (x.replies.at i).seq), (14, .p 1 0), (3, vI (i : Int)), (4, .p 1 0), (9, vI (i : Int)), (8, vI (x.replies.n : Int)), (7, .v x.replies.val), (1, .p 0 0)] [] [] rfl (by kernel_rfl) on wn ?_
   refine Hn (Ln (Qn (Ci true rfl (Cs (Cg (Jq 1 [2] 0 ⟨[(2, vB false)], []⟩ (Ln (Qn (Cr (Qr (Qb (Qr (Qr (Qb (Qr (Rt (.inl rfl) [vB false] rfl (fun bs w hS => (⟨?_, hS.kp⟩))))))))))))))))))
   have hm : mReplies x.abs = false := allTo_bad (j := i) (decide_eq_false (fun hk => by simp only [hat, hac] at hk; omega)) (show i < x.abs.replies.length by rw [hln]; omega)
   rw [hm]
   rfl
  | false =>
   have h2 := of_decide_eq_false h2
   refine Hq [] [(6, true), (7, false), (8, true), (9, false), (10, true), (11, true), (12, true), (13, true)] [(27, vB (decide (x.acked + 4 < (x.replies.at i).seq))), (26, vB (decide (x.acked + 4 < (x.replies.at i).seq))), (25, vB (decide (x.acked + 4 < (x.replies.at i).seq))), (24, vI (x.acked + 4)), (23, vI x.acked), (22, .p 0 2), (21, vI (x.replies.at i).seq), (20, .p 1 0), (19, vB false), (18, vB false), (17, vI x.acked), (16, .p 0 2), (15, vI (x.replies.at i).seq), (14, .p 1 0), (3, vI (i : Int)), (4, .p 1 0), (9, vI (i : Int)), (8, vI (x.replies.n : Int)), (7, .v x.replies.val), (1, .p 0 0)] [inR (x.acked + 4)] [] rfl (by kernel_rfl) (oc (by unfold inR; omega) on) wn ?_
   cases h3 : decide (x.acked + 4 < (x.replies.at i).seq) with
   | true =>
    have h3 := of_decide_eq_true h3
    refine Hq [] [(14, true), (15, true), (16, true), (17, true), (18, false), (19, true), (20, true), (21, true), (22, true), (23, false), (24, true), (25, false), (26, true), (27, true), (28, true)] [(42, vB true), (41, .v (undef)), (40, .v (undef)), (39, .v (undef)), (38, .v (undef)), (37, .v (undef)), (36, .v (undef)), (35, .v (undef)), (34, .v (undef)), (33, .v (undef)), (32, .v (undef)), (31, .v (undef)), (30, .v (undef)), (29, .v (undef)), (28, .v (undef)), (27, vB true), (26, vB true), (25, vB true), (24, vI (x.acked + 4)), (23, vI x.acked), (22, .p 0 2), (21, vI (x.replies.at i).seq), (20, .p 1 0), (19, vB false), (18, vB false), (17, vI x.acked), (16, .p 0 2), (15, vI (x.replies.at i).seq), (14, .p 1 0), (3, vI (i : Int)), (4, .p 1 0), (9, vI (i : Int)), (8, vI (x.replies.n : Int)), (7, .v x.replies.val), (1, .p 0 0)] [] [] rfl (by kernel_rfl) on wn ?_
    refine Hn (Ln (Qn (Ci true rfl (Cs (Cg (Jq 1 [2] 0 ⟨[(2, vB false)], []⟩ (Ln (Qn (Cr (Qr (Qb (Qr (Qr (Qb (Qr (Rt (.inl rfl) [vB false] rfl (fun bs w hS => (⟨?_, hS.kp⟩))))))))))))))))))
    have hm : mReplies x.abs = false := allTo_bad (j := i) (decide_eq_false (fun hk => by simp only [hat, hac] at hk; omega)) (show i < x.abs.replies.length by rw [hln]; omega)
    rw [hm]
    rfl
   | false =>
    have h3 := of_decide_eq_false h3
    refine Hq [] [(14, true), (15, true), (16, true)] [(30, vB (decide ((0 : Int) < (i : Int)))), (29, vB (decide ((0 : Int) < (i : Int)))), (28, vI (i : Int)), (27, vB false), (26, vB false), (25, vB false), (24, vI (x.acked + 4)), (23, vI x.acked), (22, .p 0 2), (21, vI (x.replies.at i).seq), (20, .p 1 0), (19, vB false), (18, vB false), (17, vI x.acked), (16, .p 0 2), (15, vI (x.replies.at i).seq), (14, .p 1 0), (3, vI (i : Int)), (4, .p 1 0), (9, vI (i : Int)), (8, vI (x.replies.n : Int)), (7, .v x.replies.val), (1, .p 0 0)] [] [] rfl (by kernel_rfl) on wn ?_
    cases h4 : decide ((0 : Int) < (i : Int)) with
    | true =>
     have h4 := of_decide_eq_true h4
     refine Hq [(21, .idx x.replies.ad (i - 1)), (23, .ext [.int .i64 (x.replies.at (i - 1)).seq])] [(17, true), (18, false), (19, true), (20, true), (21, true), (22, true), (23, false), (24, true), (25, false), (26, true), (27, true), (28, true)] [(42, vB (decide ((x.replies.at i).seq ≤ (x.replies.at (i - 1)).seq))), (41, vB (decide ((x.replies.at i).seq ≤ (x.replies.at (i - 1)).seq))), (40, vB (decide ((x.replies.at i).seq ≤ (x.replies.at (i - 1)).seq))), (39, vI (x.replies.at i).seq), (38, .p 1 0), (37, vI (x.replies.at (i - 1)).seq), (36, .v (.pointer (some ((x.replies.ad.add ((i - 1) * 4)).add 0)))), (35, .v (.pointer (some (x.replies.ad.add ((i - 1) * 4))))), (34, vI ((i : Int) - 1)), (33, vI (i : Int)), (32, .v x.replies.val), (31, .p 0 4), (30, vB true), (29, vB true), (28, vI (i : Int)), (27, vB false), (26, vB false), (25, vB false), (24, vI (x.acked + 4)), (23, vI x.acked), (22, .p 0 2), (21, vI (x.replies.at i).seq), (20, .p 1 0), (19, vB false), (18, vB false), (17, vI x.acked), (16, .p 0 2), (15, vI (x.replies.at i).seq), (14, .p 1 0), (3, vI (i : Int)), (4, .p 1 0), (9, vI (i : Int)), (8, vI (x.replies.n : Int)), (7, .v x.replies.val), (1, .p 0 0)] [inR ((i : Int) - 1), x.replies.A = some x.replies.ad, (i : Int) - 1 = (((i - 1) : Nat) : Int), (i - 1) < x.replies.n] [((x.replies.ad.add ((i - 1) * 4)).add 0, [.int .i64 (x.replies.at (i - 1)).seq])] rfl (by kernel_rfl) (oc (by unfold inR; omega) (oc (Sl.ok.own (s := x.replies) (i := (i - 1)) okx (by omega)) (oc (by omega) (oc (by omega) on)))) (fun w hk hr => ⟨(Sl.rd.fld (s := x.replies) (i := (i - 1)) (Rds.kp hx hk) (by omega) 0 1 rfl), trivial⟩) ?_
     refine Hn (Ln (Qn ?_))
     cases h5 : decide ((x.replies.at i).seq ≤ (x.replies.at (i - 1)).seq) with
     | true =>
      have h5 := of_decide_eq_true h5
      refine Ci true rfl (Cs (Cg (Jq 1 [2] 0 ⟨[(2, vB false)], []⟩ (Ln (Qn (Cr (Qr (Qb (Qr (Qr (Qb (Qr (Rt (.inl rfl) [vB false] rfl (fun bs w hS => (⟨?_, hS.kp⟩)))))))))))))))
      have hm : mReplies x.abs = false := allTo_bad (j := i) (decide_eq_false (fun hk => by simp only [hat, hac] at hk; omega)) (show i < x.abs.replies.length by rw [hln]; omega)
      rw [hm]
      rfl
     | false =>
      have h5 := of_decide_eq_false h5
      refine Ci false rfl (Ck (Qn (Cs (Cg (Jq 4 [5, 9, 8, 7, 1] 3 ⟨[(5, .p 2 0), (9, vI (i : Int)), (8, vI (x.replies.n : Int)), (7, .v x.replies.val), (1, .p 0 0)], [⟨98, x.cs⟩, ⟨101, (x.replies.at i).cs⟩, ⟨40, (x.replies.at i).reply.cs⟩]⟩ (Ln (Qn (Cs (Cg (Jq 4 [48, 5, 9, 8, 7, 1] 3 ⟨[(48, vB (decide ((x.replies.at i).reply.code < 0))), (5, .p 2 0), (9, vI (i : Int)), (8, vI (x.replies.n : Int)), (7, .v x.replies.val), (1, .p 0 0)], [⟨98, x.cs⟩, ⟨101, (x.replies.at i).cs⟩, ⟨40, (x.replies.at i).reply.cs⟩]⟩ ?_))))))))))
      cases h6 : decide ((x.replies.at i).reply.code < 0) with
      | true =>
       have h6 := of_decide_eq_true h6
       refine Jq 20 [68, 9, 8, 7, 1] 1 ⟨[(68, vB true), (9, vI (i : Int)), (8, vI (x.replies.n : Int)), (7, .v x.replies.val), (1, .p 0 0)], [⟨98, x.cs⟩]⟩ (Ln (Qn (Ci true rfl (Cs (Cg (Jq 1 [2] 0 ⟨[(2, vB false)], []⟩ (Ln (Qn (Cr (Qb (Qr (Qr (Qb (Qr (Rt (.inl rfl) [vB false] rfl (fun bs w hS => (⟨?_, hS.kp⟩)))))))))))))))))
       have hm : mReplies x.abs = false := allTo_bad (j := i) (decide_eq_false (fun hk => by simp only [hat, hac] at hk; omega)) (show i < x.abs.replies.length by rw [hln]; omega)
       rw [hm]
       rfl
      | false =>
       have h6 := of_decide_eq_false h6
       refine Jq 5 [53, 5, 9, 8, 7, 1] 3 ⟨[(53, vB (decide ((15 : Int) < (x.replies.at i).reply.code))), (5, .p 2 0), (9, vI (i : Int)), (8, vI (x.replies.n : Int)), (7, .v x.replies.val), (1, .p 0 0)], [⟨98, x.cs⟩, ⟨101, (x.replies.at i).cs⟩, ⟨40, (x.replies.at i).reply.cs⟩]⟩ ?_
       cases h7 : decide ((15 : Int) < (x.replies.at i).reply.code) with
       | true =>
        have h7 := of_decide_eq_true h7
        refine Jq 15 [68, 9, 8, 7, 1] 1 ⟨[(68, vB true), (9, vI (i : Int)), (8, vI (x.replies.n : Int)), (7, .v x.replies.val), (1, .p 0 0)], [⟨98, x.cs⟩]⟩ (Ln (Qn (Ci true rfl (Cs (Cg (Jq 1 [2] 0 ⟨[(2, vB false)], []⟩ (Ln (Qn (Cr (Qb (Qr (Qr (Qb (Qr (Rt (.inl rfl) [vB false] rfl (fun bs w hS => (⟨?_, hS.kp⟩)))))))))))))))))
        have hm : mReplies x.abs = false := allTo_bad (j := i) (decide_eq_false (fun hk => by simp only [hat, hac] at hk; omega)) (show i < x.abs.replies.length by rw [hln]; omega)
        rw [hm]
        rfl
       | false =>
        have h7 := of_decide_eq_false h7
        refine Jq 5 [58, 5, 9, 8, 7, 1] 3 ⟨[(58, vB (decide ((x.replies.at i).reply.n < 0))), (5, .p 2 0), (9, vI (i : Int)), (8, vI (x.replies.n : Int)), (7, .v x.replies.val), (1, .p 0 0)], [⟨98, x.cs⟩, ⟨101, (x.replies.at i).cs⟩, ⟨40, (x.replies.at i).reply.cs⟩]⟩ ?_
        cases h8 : decide ((x.replies.at i).reply.n < 0) with
        | true =>
         have h8 := of_decide_eq_true h8
         refine Jq 10 [68, 9, 8, 7, 1] 1 ⟨[(68, vB true), (9, vI (i : Int)), (8, vI (x.replies.n : Int)), (7, .v x.replies.val), (1, .p 0 0)], [⟨98, x.cs⟩]⟩ (Ln (Qn (Ci true rfl (Cs (Cg (Jq 1 [2] 0 ⟨[(2, vB false)], []⟩ (Ln (Qn (Cr (Qb (Qr (Qr (Qb (Qr (Rt (.inl rfl) [vB false] rfl (fun bs w hS => (⟨?_, hS.kp⟩)))))))))))))))))
         have hm : mReplies x.abs = false := allTo_bad (j := i) (decide_eq_false (fun hk => by simp only [hat, hac] at hk; omega)) (show i < x.abs.replies.length by rw [hln]; omega)
         rw [hm]
         rfl
        | false =>
         have h8 := of_decide_eq_false h8
         refine Jq 5 [63, 5, 9, 8, 7, 1] 3 ⟨[(63, vB (decide ((1073741824 : Int) < (x.replies.at i).reply.n))), (5, .p 2 0), (9, vI (i : Int)), (8, vI (x.replies.n : Int)), (7, .v x.replies.val), (1, .p 0 0)], [⟨98, x.cs⟩, ⟨101, (x.replies.at i).cs⟩, ⟨40, (x.replies.at i).reply.cs⟩]⟩ ?_
         cases h9 : decide ((1073741824 : Int) < (x.replies.at i).reply.n) with
         | true =>
          have h9 := of_decide_eq_true h9
          refine Jq 5 [68, 9, 8, 7, 1] 1 ⟨[(68, vB true), (9, vI (i : Int)), (8, vI (x.replies.n : Int)), (7, .v x.replies.val), (1, .p 0 0)], [⟨98, x.cs⟩]⟩ (Ln (Qn (Ci true rfl (Cs (Cg (Jq 1 [2] 0 ⟨[(2, vB false)], []⟩ (Ln (Qn (Cr (Qb (Qr (Qr (Qb (Qr (Rt (.inl rfl) [vB false] rfl (fun bs w hS => (⟨?_, hS.kp⟩)))))))))))))))))
          have hm : mReplies x.abs = false := allTo_bad (j := i) (decide_eq_false (fun hk => by simp only [hat, hac] at hk; omega)) (show i < x.abs.replies.length by rw [hln]; omega)
          rw [hm]
          rfl
         | false =>
          have h9 := of_decide_eq_false h9
          refine Jq 5 [68, 9, 8, 7, 1] 1 ⟨[(68, vB (decide ((12 : Int) < ((x.replies.at i).reply.text.size : Int)))), (9, vI (i : Int)), (8, vI (x.replies.n : Int)), (7, .v x.replies.val), (1, .p 0 0)], [⟨98, x.cs⟩]⟩ (Ln (Qn ?_))
          cases h10 : decide ((12 : Int) < ((x.replies.at i).reply.text.size : Int)) with
          | true =>
           have h10 := of_decide_eq_true h10
           refine Ci true rfl (Cs (Cg (Jq 1 [2] 0 ⟨[(2, vB false)], []⟩ (Ln (Qn (Cr (Qb (Qr (Qr (Qb (Qr (Rt (.inl rfl) [vB false] rfl (fun bs w hS => (⟨?_, hS.kp⟩))))))))))))))
           have hm : mReplies x.abs = false := allTo_bad (j := i) (decide_eq_false (fun hk => by simp only [hat, hac] at hk; omega)) (show i < x.abs.replies.length by rw [hln]; omega)
           rw [hm]
           rfl
          | false =>
           have h10 := of_decide_eq_false h10
           refine Ci false rfl (Ck (q_block_normal (Qn (Cg (Jr 2 [] [9, 8, 7, 1] 1 ⟨[(9, vI ((i : Int) + 1)), (8, vI (x.replies.n : Int)), (7, .v x.replies.val), (1, .p 0 0)], [⟨98, x.cs⟩]⟩ [inR ((i : Int) + 1)] [] (by kernel_rfl) (oc (by unfold inR; omega) on) wn (Ln (Ql (x := (i : Nat)) ((i + 1) : Nat) ⟨by omega, allTo_step hI (decide_eq_true (by simp only [hat, hac]; exact ⟨by omega, by omega, by omega, by omega, by omega, by omega, by omega, by omega⟩))⟩ (by omega) (Ss [9, 8, 7, 1] 1 (by kernel_rfl) rfl))))))))
    | false =>
     have h4 := of_decide_eq_false h4
     refine Hq [] [(17, true), (18, false), (19, true), (20, true), (21, true), (22, true), (23, false), (24, true), (25, false), (26, true), (27, true), (28, true)] [(42, vB false), (41, vB false), (40, .v (undef)), (39, .v (undef)), (38, .v (undef)), (37, .v (undef)), (36, .v (undef)), (35, .v (undef)), (34, .v (undef)), (33, .v (undef)), (32, .v (undef)), (31, .v (undef)), (30, vB false), (29, vB false), (28, vI (i : Int)), (27, vB false), (26, vB false), (25, vB false), (24, vI (x.acked + 4)), (23, vI x.acked), (22, .p 0 2), (21, vI (x.replies.at i).seq), (20, .p 1 0), (19, vB false), (18, vB false), (17, vI x.acked), (16, .p 0 2), (15, vI (x.replies.at i).seq), (14, .p 1 0), (3, vI (i : Int)), (4, .p 1 0), (9, vI (i : Int)), (8, vI (x.replies.n : Int)), (7, .v x.replies.val), (1, .p 0 0)] [] [] rfl (by kernel_rfl) on wn ?_
     refine Hn (Ln (Qn (Ci false rfl (Ck (Qn (Cs (Cg (Jq 4 [5, 9, 8, 7, 1] 3 ⟨[(5, .p 2 0), (9, vI (i : Int)), (8, vI (x.replies.n : Int)), (7, .v x.replies.val), (1, .p 0 0)], [⟨98, x.cs⟩, ⟨101, (x.replies.at i).cs⟩, ⟨40, (x.replies.at i).reply.cs⟩]⟩ (Ln (Qn (Cs (Cg (Jq 4 [48, 5, 9, 8, 7, 1] 3 ⟨[(48, vB (decide ((x.replies.at i).reply.code < 0))), (5, .p 2 0), (9, vI (i : Int)), (8, vI (x.replies.n : Int)), (7, .v x.replies.val), (1, .p 0 0)], [⟨98, x.cs⟩, ⟨101, (x.replies.at i).cs⟩, ⟨40, (x.replies.at i).reply.cs⟩]⟩ ?_)))))))))))))
     cases h11 : decide ((x.replies.at i).reply.code < 0) with
     | true =>
      have h11 := of_decide_eq_true h11
      refine Jq 20 [68, 9, 8, 7, 1] 1 ⟨[(68, vB true), (9, vI (i : Int)), (8, vI (x.replies.n : Int)), (7, .v x.replies.val), (1, .p 0 0)], [⟨98, x.cs⟩]⟩ (Ln (Qn (Ci true rfl (Cs (Cg (Jq 1 [2] 0 ⟨[(2, vB false)], []⟩ (Ln (Qn (Cr (Qb (Qr (Qr (Qb (Qr (Rt (.inl rfl) [vB false] rfl (fun bs w hS => (⟨?_, hS.kp⟩)))))))))))))))))
      have hm : mReplies x.abs = false := allTo_bad (j := i) (decide_eq_false (fun hk => by simp only [hat, hac] at hk; omega)) (show i < x.abs.replies.length by rw [hln]; omega)
      rw [hm]
      rfl
     | false =>
      have h11 := of_decide_eq_false h11
      refine Jq 5 [53, 5, 9, 8, 7, 1] 3 ⟨[(53, vB (decide ((15 : Int) < (x.replies.at i).reply.code))), (5, .p 2 0), (9, vI (i : Int)), (8, vI (x.replies.n : Int)), (7, .v x.replies.val), (1, .p 0 0)], [⟨98, x.cs⟩, ⟨101, (x.replies.at i).cs⟩, ⟨40, (x.replies.at i).reply.cs⟩]⟩ ?_
      cases h12 : decide ((15 : Int) < (x.replies.at i).reply.code) with
      | true =>
       have h12 := of_decide_eq_true h12
       refine Jq 15 [68, 9, 8, 7, 1] 1 ⟨[(68, vB true), (9, vI (i : Int)), (8, vI (x.replies.n : Int)), (7, .v x.replies.val), (1, .p 0 0)], [⟨98, x.cs⟩]⟩ (Ln (Qn (Ci true rfl (Cs (Cg (Jq 1 [2] 0 ⟨[(2, vB false)], []⟩ (Ln (Qn (Cr (Qb (Qr (Qr (Qb (Qr (Rt (.inl rfl) [vB false] rfl (fun bs w hS => (⟨?_, hS.kp⟩)))))))))))))))))
       have hm : mReplies x.abs = false := allTo_bad (j := i) (decide_eq_false (fun hk => by simp only [hat, hac] at hk; omega)) (show i < x.abs.replies.length by rw [hln]; omega)
       rw [hm]
       rfl
      | false =>
       have h12 := of_decide_eq_false h12
       refine Jq 5 [58, 5, 9, 8, 7, 1] 3 ⟨[(58, vB (decide ((x.replies.at i).reply.n < 0))), (5, .p 2 0), (9, vI (i : Int)), (8, vI (x.replies.n : Int)), (7, .v x.replies.val), (1, .p 0 0)], [⟨98, x.cs⟩, ⟨101, (x.replies.at i).cs⟩, ⟨40, (x.replies.at i).reply.cs⟩]⟩ ?_
       cases h13 : decide ((x.replies.at i).reply.n < 0) with
       | true =>
        have h13 := of_decide_eq_true h13
        refine Jq 10 [68, 9, 8, 7, 1] 1 ⟨[(68, vB true), (9, vI (i : Int)), (8, vI (x.replies.n : Int)), (7, .v x.replies.val), (1, .p 0 0)], [⟨98, x.cs⟩]⟩ (Ln (Qn (Ci true rfl (Cs (Cg (Jq 1 [2] 0 ⟨[(2, vB false)], []⟩ (Ln (Qn (Cr (Qb (Qr (Qr (Qb (Qr (Rt (.inl rfl) [vB false] rfl (fun bs w hS => (⟨?_, hS.kp⟩)))))))))))))))))
        have hm : mReplies x.abs = false := allTo_bad (j := i) (decide_eq_false (fun hk => by simp only [hat, hac] at hk; omega)) (show i < x.abs.replies.length by rw [hln]; omega)
        rw [hm]
        rfl
       | false =>
        have h13 := of_decide_eq_false h13
        refine Jq 5 [63, 5, 9, 8, 7, 1] 3 ⟨[(63, vB (decide ((1073741824 : Int) < (x.replies.at i).reply.n))), (5, .p 2 0), (9, vI (i : Int)), (8, vI (x.replies.n : Int)), (7, .v x.replies.val), (1, .p 0 0)], [⟨98, x.cs⟩, ⟨101, (x.replies.at i).cs⟩, ⟨40, (x.replies.at i).reply.cs⟩]⟩ ?_
        cases h14 : decide ((1073741824 : Int) < (x.replies.at i).reply.n) with
        | true =>
         have h14 := of_decide_eq_true h14
         refine Jq 5 [68, 9, 8, 7, 1] 1 ⟨[(68, vB true), (9, vI (i : Int)), (8, vI (x.replies.n : Int)), (7, .v x.replies.val), (1, .p 0 0)], [⟨98, x.cs⟩]⟩ (Ln (Qn (Ci true rfl (Cs (Cg (Jq 1 [2] 0 ⟨[(2, vB false)], []⟩ (Ln (Qn (Cr (Qb (Qr (Qr (Qb (Qr (Rt (.inl rfl) [vB false] rfl (fun bs w hS => (⟨?_, hS.kp⟩)))))))))))))))))
         have hm : mReplies x.abs = false := allTo_bad (j := i) (decide_eq_false (fun hk => by simp only [hat, hac] at hk; omega)) (show i < x.abs.replies.length by rw [hln]; omega)
         rw [hm]
         rfl
        | false =>
         have h14 := of_decide_eq_false h14
         refine Jq 5 [68, 9, 8, 7, 1] 1 ⟨[(68, vB (decide ((12 : Int) < ((x.replies.at i).reply.text.size : Int)))), (9, vI (i : Int)), (8, vI (x.replies.n : Int)), (7, .v x.replies.val), (1, .p 0 0)], [⟨98, x.cs⟩]⟩ (Ln (Qn ?_))
         cases h15 : decide ((12 : Int) < ((x.replies.at i).reply.text.size : Int)) with
         | true =>
          have h15 := of_decide_eq_true h15
          refine Ci true rfl (Cs (Cg (Jq 1 [2] 0 ⟨[(2, vB false)], []⟩ (Ln (Qn (Cr (Qb (Qr (Qr (Qb (Qr (Rt (.inl rfl) [vB false] rfl (fun bs w hS => (⟨?_, hS.kp⟩))))))))))))))
          have hm : mReplies x.abs = false := allTo_bad (j := i) (decide_eq_false (fun hk => by simp only [hat, hac] at hk; omega)) (show i < x.abs.replies.length by rw [hln]; omega)
          rw [hm]
          rfl
         | false =>
          have h15 := of_decide_eq_false h15
          refine Ci false rfl (Ck (q_block_normal (Qn (Cg (Jr 2 [] [9, 8, 7, 1] 1 ⟨[(9, vI ((i : Int) + 1)), (8, vI (x.replies.n : Int)), (7, .v x.replies.val), (1, .p 0 0)], [⟨98, x.cs⟩]⟩ [inR ((i : Int) + 1)] [] (by kernel_rfl) (oc (by unfold inR; omega) on) wn (Ln (Ql (x := (i : Nat)) ((i + 1) : Nat) ⟨by omega, allTo_step hI (decide_eq_true (by simp only [hat, hac]; exact ⟨by omega, by omega, by omega, by omega, by omega, by omega, by omega, by omega⟩))⟩ (by omega) (Ss [9, 8, 7, 1] 1 (by kernel_rfl) rfl))))))))
 | false =>
  have h1 := of_decide_eq_false h1
  refine Ci false rfl (c_exit (Qe (Qe (Qh (Qn (Cs (Cg (Jq 1 [2] 0 ⟨[(2, vB true)], []⟩ (Ln (Qn (Cr (Rt (.inl rfl) [vB true] rfl (fun bs w hS => (⟨?_, hS.kp⟩))))))))))))))
  have hm : mReplies x.abs = true := by show allTo _ x.abs.replies.length = true; rw [hln, show x.replies.n = i by omega]; exact hI
  rw [hm]
  rfl

theorem ref_repliesMay {B : Nat → Prop} (x : CSession) (w : World) (hx : Rds.sub B w x) (hb : 0 ≤ x.acked ∧ x.acked ≤ 1048576) : Calls Try.prog 102 #[.agg #[.int .i64 x.client, .int .i64 x.id, .int .i64 x.acked, .int .i64 x.last, .slice x.replies.A x.replies.n x.replies.c]] w fun e w' => e = .returned (.bool (mReplies x.abs)) ∧ Kp [] w w' := by
 have okx := Rds.okof hx
 have ncx := Sl.ok.nc okx
 have hns : x.replies.n = x.replies.xs.length := rfl
 have hat : ∀ q, x.abs.replies.getD q default = x.replies.at q := fun _ => rfl
 have hac : x.abs.acked = x.acked := rfl
 have hln : x.abs.replies.length = x.replies.n := rfl
 refine calls_J0 52 Try.func102 rfl rfl [.agg #[.int .i64 x.client, .int .i64 x.id, .int .i64 x.acked, .int .i64 x.last, .slice x.replies.A x.replies.n x.replies.c]] rfl ?_
 refine Cs (Cg (Jq 2 [1] 1 ⟨[(1, .p 0 0)], [⟨98, x.cs⟩]⟩ (Ln (Qn (Cs (Cg (Jq 3 [3, 1] 1 ⟨[(3, vI x.acked), (1, .p 0 0)], [⟨98, x.cs⟩]⟩ (Ln (Qn (Cs (Cs (Cg (Jq 1 [4, 3, 1] 1 ⟨[(4, vI 0), (3, vI x.acked), (1, .p 0 0)], [⟨98, x.cs⟩]⟩ (Ln (Qn (Cb (Cl (σ := Nat × Int) (fun ⟨i, la⟩ => i ≤ x.replies.n ∧ allTo (keptOk x.abs) i = true ∧ x.acked ≤ la ∧ la ≤ x.acked + 4 ∧ (i = 0 → la = x.acked) ∧ (0 < i → la = (x.replies.at (i - 1)).seq)) (fun ⟨i, la⟩ => x.replies.n - i) (fun ⟨i, la⟩ => []) (fun ⟨i, la⟩ => ⟨[(4, vI (i : Int)), (3, vI la), (1, .p 0 0)], [⟨98, x.cs⟩]⟩) ⟨0, x.acked⟩ ⟨Nat.zero_le _, rfl, by omega, by omega, fun _ => rfl, fun h => absurd h (by omega)⟩ (Ss [4, 3, 1] 1 (by kernel_rfl) rfl) ?_)))))))))))))))))
 rintro ⟨i, la⟩ ⟨hi, hI, hl1, hl2, hl3, hl4⟩
 have hz : i = 0 ∧ la = x.acked ∨ 0 < i ∧ la = (x.replies.at (i - 1)).seq := by rcases Nat.eq_zero_or_pos i with h | h; exact .inl ⟨h, hl3 h⟩; exact .inr ⟨h, hl4 h⟩
 refine Cs (Cs (Cg (Jq 5 [12, 4, 3, 1] 1 ⟨[(12, vB (decide ((i : Int) < (x.replies.n : Int)))), (4, vI (i : Int)), (3, vI la), (1, .p 0 0)], [⟨98, x.cs⟩]⟩ (Ln (Qn ?_)))))
 cases h1 : decide ((i : Int) < (x.replies.n : Int)) with
 | true =>
  have h1 := of_decide_eq_true h1
  refine Ci true rfl (Ck (Qn (Cs (Cb (Cs (Cg (Jr 7 [(3, .idx x.replies.ad i), (4, .ext [.int .i64 (x.replies.at i).seq, .int .i64 (x.replies.at i).reply.code, .int .i64 (x.replies.at i).reply.n, .string (x.replies.at i).reply.text])] [5, 4, 3, 1] 2 ⟨[(5, .p 1 0), (4, vI (i : Int)), (3, vI la), (1, .p 0 0)], [⟨98, x.cs⟩, ⟨101, (x.replies.at i).cs⟩]⟩ [x.replies.A = some x.replies.ad, (i : Int) = (i : Int), i < x.replies.n] [(x.replies.ad.add (i * 4), [.int .i64 (x.replies.at i).seq, .int .i64 (x.replies.at i).reply.code, .int .i64 (x.replies.at i).reply.n, .string (x.replies.at i).reply.text])] (by kernel_rfl) (oc (Sl.ok.own (s := x.replies) (i := i) okx (by omega)) (oc rfl (oc (by omega) on))) (fun w hk hr => ⟨(Sl.rd.all (s := x.replies) (i := i) (Rds.kp hx hk) (by omega) rfl), trivial⟩) (Ln (Qn (Cs (Cs (Cg (Jr 7 [] [26, 23, 21, 5, 4, 1] 2 ⟨[(26, vI (x.acked + 4)), (23, vI (la + 1)), (21, vI (x.replies.at i).seq), (5, .p 1 0), (4, vI (i : Int)), (1, .p 0 0)], [⟨98, x.cs⟩, ⟨101, (x.replies.at i).cs⟩]⟩ [inR (la + 1), inR (x.acked + 4)] [] (by kernel_rfl) (oc (by unfold inR; omega) (oc (by unfold inR; omega) on)) wn (Lp 68 [] [vI (x.replies.at i).seq, vI (la + 1), vI (x.acked + 4)] (.bool (inB (x.replies.at i).seq (la + 1) (x.acked + 4))) Try.call68 rfl rfl rfl rfl (fun bs w hS => ref_In _ _ _ w) (Jq 2 [29, 5, 4, 1] 2 ⟨[(29, vB (!(inB (x.replies.at i).seq (la + 1) (x.acked + 4)))), (5, .p 1 0), (4, vI (i : Int)), (1, .p 0 0)], [⟨98, x.cs⟩, ⟨101, (x.replies.at i).cs⟩]⟩ ?_)))))))))))))))
  cases h2 : inB (x.replies.at i).seq (la + 1) (x.acked + 4) with
  | true =>
   simp only [inB, Bool.and_eq_true, Bool.and_eq_false_iff, decide_eq_true_eq, decide_eq_false_iff_not] at h2
   refine Jq 3 [32, 29, 5, 4, 1] 2 ⟨[(32, vI (x.replies.at i).reply.code), (29, vB false), (5, .p 1 0), (4, vI (i : Int)), (1, .p 0 0)], [⟨98, x.cs⟩, ⟨101, (x.replies.at i).cs⟩]⟩ (Lp 68 [] [vI (x.replies.at i).reply.code, vI 0, vI 15] (.bool (inB (x.replies.at i).reply.code 0 15)) Try.call68 rfl rfl rfl rfl (fun bs w hS => ref_In _ _ _ w) (Jq 3 [36, 5, 4, 1] 2 ⟨[(36, vB (!(inB (x.replies.at i).reply.code 0 15))), (5, .p 1 0), (4, vI (i : Int)), (1, .p 0 0)], [⟨98, x.cs⟩, ⟨101, (x.replies.at i).cs⟩]⟩ ?_))
   cases h3 : inB (x.replies.at i).reply.code 0 15 with
   | true =>
    simp only [inB, Bool.and_eq_true, Bool.and_eq_false_iff, decide_eq_true_eq, decide_eq_false_iff_not] at h3
    refine Jq 3 [39, 36, 5, 4, 1] 2 ⟨[(39, vI (x.replies.at i).reply.n), (36, vB false), (5, .p 1 0), (4, vI (i : Int)), (1, .p 0 0)], [⟨98, x.cs⟩, ⟨101, (x.replies.at i).cs⟩]⟩ (Lp 68 [] [vI (x.replies.at i).reply.n, vI 0, vI 1073741824] (.bool (inB (x.replies.at i).reply.n 0 1073741824)) Try.call68 rfl rfl rfl rfl (fun bs w hS => ref_In _ _ _ w) (Jq 3 [43, 5, 4, 1] 2 ⟨[(43, vB (!(inB (x.replies.at i).reply.n 0 1073741824))), (5, .p 1 0), (4, vI (i : Int)), (1, .p 0 0)], [⟨98, x.cs⟩, ⟨101, (x.replies.at i).cs⟩]⟩ ?_))
    cases h4 : inB (x.replies.at i).reply.n 0 1073741824 with
    | true =>
     simp only [inB, Bool.and_eq_true, Bool.and_eq_false_iff, decide_eq_true_eq, decide_eq_false_iff_not] at h4
     refine Jq 6 [49, 5, 4, 1] 2 ⟨[(49, vB (decide ((12 : Int) < ((x.replies.at i).reply.text.size : Int)))), (5, .p 1 0), (4, vI (i : Int)), (1, .p 0 0)], [⟨98, x.cs⟩, ⟨101, (x.replies.at i).cs⟩]⟩ (Ln (Qn ?_))
     cases h5 : decide ((12 : Int) < ((x.replies.at i).reply.text.size : Int)) with
     | true =>
      have h5 := of_decide_eq_true h5
      refine Ci true rfl (Cs (Cg (Jq 1 [2] 0 ⟨[(2, vB false)], []⟩ (Ln (Qn (Cr (Qr (Qb (Qr (Qr (Qb (Qr (Rt (.inl rfl) [vB false] rfl (fun bs w hS => (⟨?_, hS.kp⟩)))))))))))))))
      have hm : mReplies x.abs = false := allTo_bad (j := i) (decide_eq_false (fun hk => by simp only [hat, hac] at hk; omega)) (show i < x.abs.replies.length by rw [hln]; omega)
      rw [hm]
      rfl
     | false =>
      have h5 := of_decide_eq_false h5
      refine Ci false rfl (Ck (Qn (Cg (Jq 3 [3, 4, 1] 1 ⟨[(3, vI (x.replies.at i).seq), (4, vI (i : Int)), (1, .p 0 0)], [⟨98, x.cs⟩]⟩ (Ln (q_block_normal (Qn (Cg (Jr 3 [] [4, 3, 1] 1 ⟨[(4, vI ((i : Int) + 1)), (3, vI (x.replies.at i).seq), (1, .p 0 0)], [⟨98, x.cs⟩]⟩ [inR ((i : Int) + 1)] [] (by kernel_rfl) (oc (by unfold inR; omega) on) wn (Ln (Ql (x := (⟨i, la⟩ : Nat × Int)) (⟨i + 1, (x.replies.at i).seq⟩ : Nat × Int) ⟨by omega, allTo_step hI (decide_eq_true (by simp only [hat, hac]; exact ⟨by omega, by omega, by omega, by omega, by omega, by omega, by omega, by omega⟩)), by omega, by omega, fun h => absurd h (by omega), fun _ => rfl⟩ (by show x.replies.n - (i + 1) < x.replies.n - i; omega) (Ss [4, 3, 1] 1 (by kernel_rfl) rfl))))))))))))
    | false =>
     simp only [inB, Bool.and_eq_true, Bool.and_eq_false_iff, decide_eq_true_eq, decide_eq_false_iff_not] at h4
     refine Jq 6 [49, 5, 4, 1] 2 ⟨[(49, vB true), (5, .p 1 0), (4, vI (i : Int)), (1, .p 0 0)], [⟨98, x.cs⟩, ⟨101, (x.replies.at i).cs⟩]⟩ (Ln (Qn (Ci true rfl (Cs (Cg (Jq 1 [2] 0 ⟨[(2, vB false)], []⟩ (Ln (Qn (Cr (Qr (Qb (Qr (Qr (Qb (Qr (Rt (.inl rfl) [vB false] rfl (fun bs w hS => (⟨?_, hS.kp⟩))))))))))))))))))
     have hm : mReplies x.abs = false := allTo_bad (j := i) (decide_eq_false (fun hk => by simp only [hat, hac] at hk; omega)) (show i < x.abs.replies.length by rw [hln]; omega)
     rw [hm]
     rfl
   | false =>
    simp only [inB, Bool.and_eq_true, Bool.and_eq_false_iff, decide_eq_true_eq, decide_eq_false_iff_not] at h3
    refine Jq 13 [49, 5, 4, 1] 2 ⟨[(49, vB true), (5, .p 1 0), (4, vI (i : Int)), (1, .p 0 0)], [⟨98, x.cs⟩, ⟨101, (x.replies.at i).cs⟩]⟩ (Ln (Qn (Ci true rfl (Cs (Cg (Jq 1 [2] 0 ⟨[(2, vB false)], []⟩ (Ln (Qn (Cr (Qr (Qb (Qr (Qr (Qb (Qr (Rt (.inl rfl) [vB false] rfl (fun bs w hS => (⟨?_, hS.kp⟩))))))))))))))))))
    have hm : mReplies x.abs = false := allTo_bad (j := i) (decide_eq_false (fun hk => by simp only [hat, hac] at hk; omega)) (show i < x.abs.replies.length by rw [hln]; omega)
    rw [hm]
    rfl
  | false =>
   simp only [inB, Bool.and_eq_true, Bool.and_eq_false_iff, decide_eq_true_eq, decide_eq_false_iff_not] at h2
   refine Jq 20 [49, 5, 4, 1] 2 ⟨[(49, vB true), (5, .p 1 0), (4, vI (i : Int)), (1, .p 0 0)], [⟨98, x.cs⟩, ⟨101, (x.replies.at i).cs⟩]⟩ (Ln (Qn (Ci true rfl (Cs (Cg (Jq 1 [2] 0 ⟨[(2, vB false)], []⟩ (Ln (Qn (Cr (Qr (Qb (Qr (Qr (Qb (Qr (Rt (.inl rfl) [vB false] rfl (fun bs w hS => (⟨?_, hS.kp⟩))))))))))))))))))
   have hm : mReplies x.abs = false := allTo_bad (j := i) (decide_eq_false (fun hk => by simp only [hat, hac] at hk; omega)) (show i < x.abs.replies.length by rw [hln]; omega)
   rw [hm]
   rfl
 | false =>
  have h1 := of_decide_eq_false h1
  refine Ci false rfl (c_exit (Qe (Qe (Qh (Qn (Cs (Cg (Jq 1 [2] 0 ⟨[(2, vB true)], []⟩ (Ln (Qn (Cr (Rt (.inl rfl) [vB true] rfl (fun bs w hS => (⟨?_, hS.kp⟩))))))))))))))
  have hm : mReplies x.abs = true := by show allTo _ x.abs.replies.length = true; rw [hln, show x.replies.n = i by omega]; exact hI
  rw [hm]
  rfl

theorem session_Check {B : Nat → Prop} (s : Sl CSession) (n : Int) (w : World) (hs : s.rd B w) : Calls Try.prog 59 #[.slice s.A s.n s.c, .int .i64 n] w fun e w' => e = .returned (.int .i64 (mSess (s.xs.map CSession.abs) n)) ∧ Kp [] w w' := by
 have oks := Sl.rd.ok hs
 have ncs := Sl.ok.nc oks
 have hns : s.n = s.xs.length := rfl
 have hat : ∀ q, (s.xs.map CSession.abs).getD q default = (s.at q).abs := fun q => sabs_at q
 have hq0 : ∀ q, (s.at q).abs.client = (s.at q).client := fun _ => rfl
 have hq1 : ∀ q, (s.at q).abs.id = (s.at q).id := fun _ => rfl
 have hq2 : ∀ q, (s.at q).abs.acked = (s.at q).acked := fun _ => rfl
 have hq3 : ∀ q, (s.at q).abs.last = (s.at q).last := fun _ => rfl
 have hml : (s.xs.map CSession.abs).length = s.n := by simp
 refine calls_J0 76 Try.func59 rfl rfl [.slice s.A s.n s.c, .int .i64 n] rfl ?_
 refine Cs (Cg (Jq 1 [0, 1] 0 ⟨[(0, .v s.val), (1, vI n)], []⟩ (Ln (Qn (Cs (Cs (Cg (Jq 3 [9, 0, 1] 0 ⟨[(9, vB (decide (n < 0))), (0, .v s.val), (1, vI n)], []⟩ ?_))))))))
 cases h1 : decide (n < 0) with
 | true =>
  have h1 := of_decide_eq_true h1
  refine Jq 3 [12, 0, 1] 0 ⟨[(12, vB true), (0, .v s.val), (1, vI n)], []⟩ (Ln (Qn (Ci true rfl (Cs (Cg (Jq 1 [4] 0 ⟨[(4, vI 2)], []⟩ (Ln (Qn (Cr (Qr (Rt (.inl rfl) [vI 2] rfl (fun bs w hS => (⟨?_, hS.kp⟩)))))))))))))
  simp only [retOf, den, List.map_cons, List.map_nil]
  have hm : mSess (s.xs.map CSession.abs) n = 2 := by
   unfold mSess; rw [hml]
   first | rw [if_pos (by omega)] | rw [if_neg (by omega), if_pos (by omega)]
  rw [hm]
 | false =>
  have h1 := of_decide_eq_false h1
  refine Jq 3 [12, 0, 1] 0 ⟨[(12, vB (decide ((1073741824 : Int) < n))), (0, .v s.val), (1, vI n)], []⟩ (Ln (Qn ?_))
  cases h2 : decide ((1073741824 : Int) < n) with
  | true =>
   have h2 := of_decide_eq_true h2
   refine Ci true rfl (Cs (Cg (Jq 1 [4] 0 ⟨[(4, vI 2)], []⟩ (Ln (Qn (Cr (Qr (Rt (.inl rfl) [vI 2] rfl (fun bs w hS => (⟨?_, hS.kp⟩))))))))))
   simp only [retOf, den, List.map_cons, List.map_nil]
   have hm : mSess (s.xs.map CSession.abs) n = 2 := by
    unfold mSess; rw [hml]
    first | rw [if_pos (by omega)] | rw [if_neg (by omega), if_pos (by omega)]
   rw [hm]
  | false =>
   have h2 := of_decide_eq_false h2
   refine Ci false rfl (Ck (Qn (Cs (Cs (Cg (Jq 3 [15, 0, 1] 0 ⟨[(15, vB (decide ((4 : Int) < (s.n : Int)))), (0, .v s.val), (1, vI n)], []⟩ (Ln (Qn ?_))))))))
   cases h3 : decide ((4 : Int) < (s.n : Int)) with
   | true =>
    have h3 := of_decide_eq_true h3
    refine Ci true rfl (Cs (Cg (Jq 1 [4] 0 ⟨[(4, vI 1)], []⟩ (Ln (Qn (Cr (Qr (Rt (.inl rfl) [vI 1] rfl (fun bs w hS => (⟨?_, hS.kp⟩))))))))))
    simp only [retOf, den, List.map_cons, List.map_nil]
    have hm : mSess (s.xs.map CSession.abs) n = 1 := by
     unfold mSess; rw [hml]
     first | rw [if_pos (by omega)] | rw [if_neg (by omega), if_pos (by omega)]
    rw [hm]
   | false =>
    have h3 := of_decide_eq_false h3
    refine Ci false rfl (Ck (Qn (Cs (Cs (Cg (Jq 3 [18, 17, 16, 0, 1] 0 ⟨[(18, vI 0), (17, vI (s.n : Int)), (16, .v s.val), (0, .v s.val), (1, vI n)], []⟩ (Ln (Qn (Cb (Cl (σ := Nat) (fun i => i ≤ s.n ∧ mSess (s.xs.map CSession.abs) n = firstF (sessF (s.xs.map CSession.abs) n) (s.n - i) i) (fun i => s.n - i) (fun i => []) (fun i => ⟨[(18, vI (i : Int)), (17, vI (s.n : Int)), (16, .v s.val), (0, .v s.val), (1, vI n)], []⟩) 0 ⟨Nat.zero_le _, by unfold mSess; rw [hml, if_neg (by omega), if_neg (by omega)]⟩ (Ss [18, 17, 16, 0, 1] 0 (by kernel_rfl) rfl) ?_))))))))))
    rintro i ⟨hi, hI⟩
    refine Cs (Cg (Jq 1 [19, 18, 17, 16, 0, 1] 0 ⟨[(19, vB (decide ((i : Int) < (s.n : Int)))), (18, vI (i : Int)), (17, vI (s.n : Int)), (16, .v s.val), (0, .v s.val), (1, vI n)], []⟩ (Ln (Qn (Cs ?_)))))
    cases h4 : decide ((i : Int) < (s.n : Int)) with
    | true =>
     have h4 := of_decide_eq_true h4
     refine Ci true rfl (Ck (Qn (Cs (Cb (Cs (Cg (Jr 6 [(1, .idx s.ad i), (2, .ext [.int .i64 (s.at i).client, .int .i64 (s.at i).id, .int .i64 (s.at i).acked, .int .i64 (s.at i).last, .slice (s.at i).replies.A (s.at i).replies.n (s.at i).replies.c])] [5, 6, 18, 17, 16, 0, 1] 1 ⟨[(5, vI (i : Int)), (6, .p 0 0), (18, vI (i : Int)), (17, vI (s.n : Int)), (16, .v s.val), (0, .v s.val), (1, vI n)], [⟨98, (s.at i).cs⟩]⟩ [s.A = some s.ad, (i : Int) = (i : Int), i < s.n] [(s.ad.add (i * 5), [.int .i64 (s.at i).client, .int .i64 (s.at i).id, .int .i64 (s.at i).acked, .int .i64 (s.at i).last, .slice (s.at i).replies.A (s.at i).replies.n (s.at i).replies.c])] (by kernel_rfl) (oc (Sl.ok.own (s := s) (i := i) oks (by omega)) (oc rfl (oc (by omega) on))) (fun w hk hr => ⟨(Sl.rd.all (s := s) (i := i) (Sl.rd.kp hs hk) (by omega) rfl), trivial⟩) (Ln (Qn (Cs (Cs (Cg (Jq 4 [26, 5, 6, 18, 17, 16, 0, 1] 1 ⟨[(26, vB (decide ((s.at i).client < 1))), (5, vI (i : Int)), (6, .p 0 0), (18, vI (i : Int)), (17, vI (s.n : Int)), (16, .v s.val), (0, .v s.val), (1, vI n)], [⟨98, (s.at i).cs⟩]⟩ ?_)))))))))))))
     cases h5 : decide ((s.at i).client < 1) with
     | true =>
      have h5 := of_decide_eq_true h5
      refine Jq 32 [58, 5, 6, 18, 17, 16, 0, 1] 1 ⟨[(58, vB true), (5, vI (i : Int)), (6, .p 0 0), (18, vI (i : Int)), (17, vI (s.n : Int)), (16, .v s.val), (0, .v s.val), (1, vI n)], [⟨98, (s.at i).cs⟩]⟩ (Ln (Qn (Ci true rfl (Cs (Cg (Jq 1 [4] 0 ⟨[(4, vI 2)], []⟩ (Ln (Qn (Cr (Qr (Qb (Qr (Qr (Qb (Qr (Rt (.inl rfl) [vI 2] rfl (fun bs w hS => (⟨?_, hS.kp⟩))))))))))))))))))
      simp only [retOf, den, List.map_cons, List.map_nil]
      have hf : sessF (s.xs.map CSession.abs) n i = 2 := by
       unfold sessF
       simp only [hat, hq0, hq1, hq2, hq3]
       try simp only [h1, h2, h3, h4, h5, emp_size, ne_eq, not_true_eq_false, not_false_eq_true, true_or, or_true, false_or, or_false, and_true, true_and, and_false, false_and, and_self, or_self, if_true, if_false, Bool.true_eq_false, Bool.false_eq_true, reduceIte, Classical.not_not, Bool.and_eq_true, decide_eq_true_eq]
       repeat (first | rw [if_pos (by omega)] | rw [if_neg (by omega)])
       all_goals first | rfl | (exfalso; omega)
      rw [hI, firstF_here (by omega) hf (by omega)]
     | false =>
      have h5 := of_decide_eq_false h5
      refine Jq 5 [31, 5, 6, 18, 17, 16, 0, 1] 1 ⟨[(31, vB (decide ((9 : Int) < (s.at i).client))), (5, vI (i : Int)), (6, .p 0 0), (18, vI (i : Int)), (17, vI (s.n : Int)), (16, .v s.val), (0, .v s.val), (1, vI n)], [⟨98, (s.at i).cs⟩]⟩ ?_
      cases h6 : decide ((9 : Int) < (s.at i).client) with
      | true =>
       have h6 := of_decide_eq_true h6
       refine Jq 27 [58, 5, 6, 18, 17, 16, 0, 1] 1 ⟨[(58, vB true), (5, vI (i : Int)), (6, .p 0 0), (18, vI (i : Int)), (17, vI (s.n : Int)), (16, .v s.val), (0, .v s.val), (1, vI n)], [⟨98, (s.at i).cs⟩]⟩ (Ln (Qn (Ci true rfl (Cs (Cg (Jq 1 [4] 0 ⟨[(4, vI 2)], []⟩ (Ln (Qn (Cr (Qr (Qb (Qr (Qr (Qb (Qr (Rt (.inl rfl) [vI 2] rfl (fun bs w hS => (⟨?_, hS.kp⟩))))))))))))))))))
       simp only [retOf, den, List.map_cons, List.map_nil]
       have hf : sessF (s.xs.map CSession.abs) n i = 2 := by
        unfold sessF
        simp only [hat, hq0, hq1, hq2, hq3]
        try simp only [h1, h2, h3, h4, h5, h6, emp_size, ne_eq, not_true_eq_false, not_false_eq_true, true_or, or_true, false_or, or_false, and_true, true_and, and_false, false_and, and_self, or_self, if_true, if_false, Bool.true_eq_false, Bool.false_eq_true, reduceIte, Classical.not_not, Bool.and_eq_true, decide_eq_true_eq]
        repeat (first | rw [if_pos (by omega)] | rw [if_neg (by omega)])
        all_goals first | rfl | (exfalso; omega)
       rw [hI, firstF_here (by omega) hf (by omega)]
      | false =>
       have h6 := of_decide_eq_false h6
       refine Jq 5 [36, 5, 6, 18, 17, 16, 0, 1] 1 ⟨[(36, vB (decide ((s.at i).acked < 0))), (5, vI (i : Int)), (6, .p 0 0), (18, vI (i : Int)), (17, vI (s.n : Int)), (16, .v s.val), (0, .v s.val), (1, vI n)], [⟨98, (s.at i).cs⟩]⟩ ?_
       cases h7 : decide ((s.at i).acked < 0) with
       | true =>
        have h7 := of_decide_eq_true h7
        refine Jq 22 [58, 5, 6, 18, 17, 16, 0, 1] 1 ⟨[(58, vB true), (5, vI (i : Int)), (6, .p 0 0), (18, vI (i : Int)), (17, vI (s.n : Int)), (16, .v s.val), (0, .v s.val), (1, vI n)], [⟨98, (s.at i).cs⟩]⟩ (Ln (Qn (Ci true rfl (Cs (Cg (Jq 1 [4] 0 ⟨[(4, vI 2)], []⟩ (Ln (Qn (Cr (Qr (Qb (Qr (Qr (Qb (Qr (Rt (.inl rfl) [vI 2] rfl (fun bs w hS => (⟨?_, hS.kp⟩))))))))))))))))))
        simp only [retOf, den, List.map_cons, List.map_nil]
        have hf : sessF (s.xs.map CSession.abs) n i = 2 := by
         unfold sessF
         simp only [hat, hq0, hq1, hq2, hq3]
         try simp only [h1, h2, h3, h4, h5, h6, h7, emp_size, ne_eq, not_true_eq_false, not_false_eq_true, true_or, or_true, false_or, or_false, and_true, true_and, and_false, false_and, and_self, or_self, if_true, if_false, Bool.true_eq_false, Bool.false_eq_true, reduceIte, Classical.not_not, Bool.and_eq_true, decide_eq_true_eq]
         repeat (first | rw [if_pos (by omega)] | rw [if_neg (by omega)])
         all_goals first | rfl | (exfalso; omega)
        rw [hI, firstF_here (by omega) hf (by omega)]
       | false =>
        have h7 := of_decide_eq_false h7
        refine Jq 5 [41, 5, 6, 18, 17, 16, 0, 1] 1 ⟨[(41, vB (decide ((1048576 : Int) < (s.at i).acked))), (5, vI (i : Int)), (6, .p 0 0), (18, vI (i : Int)), (17, vI (s.n : Int)), (16, .v s.val), (0, .v s.val), (1, vI n)], [⟨98, (s.at i).cs⟩]⟩ ?_
        cases h8 : decide ((1048576 : Int) < (s.at i).acked) with
        | true =>
         have h8 := of_decide_eq_true h8
         refine Jq 17 [58, 5, 6, 18, 17, 16, 0, 1] 1 ⟨[(58, vB true), (5, vI (i : Int)), (6, .p 0 0), (18, vI (i : Int)), (17, vI (s.n : Int)), (16, .v s.val), (0, .v s.val), (1, vI n)], [⟨98, (s.at i).cs⟩]⟩ (Ln (Qn (Ci true rfl (Cs (Cg (Jq 1 [4] 0 ⟨[(4, vI 2)], []⟩ (Ln (Qn (Cr (Qr (Qb (Qr (Qr (Qb (Qr (Rt (.inl rfl) [vI 2] rfl (fun bs w hS => (⟨?_, hS.kp⟩))))))))))))))))))
         simp only [retOf, den, List.map_cons, List.map_nil]
         have hf : sessF (s.xs.map CSession.abs) n i = 2 := by
          unfold sessF
          simp only [hat, hq0, hq1, hq2, hq3]
          try simp only [h1, h2, h3, h4, h5, h6, h7, h8, emp_size, ne_eq, not_true_eq_false, not_false_eq_true, true_or, or_true, false_or, or_false, and_true, true_and, and_false, false_and, and_self, or_self, if_true, if_false, Bool.true_eq_false, Bool.false_eq_true, reduceIte, Classical.not_not, Bool.and_eq_true, decide_eq_true_eq]
          repeat (first | rw [if_pos (by omega)] | rw [if_neg (by omega)])
          all_goals first | rfl | (exfalso; omega)
         rw [hI, firstF_here (by omega) hf (by omega)]
        | false =>
         have h8 := of_decide_eq_false h8
         refine Jq 5 [46, 5, 6, 18, 17, 16, 0, 1] 1 ⟨[(46, vB (decide ((s.at i).id < 1))), (5, vI (i : Int)), (6, .p 0 0), (18, vI (i : Int)), (17, vI (s.n : Int)), (16, .v s.val), (0, .v s.val), (1, vI n)], [⟨98, (s.at i).cs⟩]⟩ ?_
         cases h9 : decide ((s.at i).id < 1) with
         | true =>
          have h9 := of_decide_eq_true h9
          refine Jq 12 [58, 5, 6, 18, 17, 16, 0, 1] 1 ⟨[(58, vB true), (5, vI (i : Int)), (6, .p 0 0), (18, vI (i : Int)), (17, vI (s.n : Int)), (16, .v s.val), (0, .v s.val), (1, vI n)], [⟨98, (s.at i).cs⟩]⟩ (Ln (Qn (Ci true rfl (Cs (Cg (Jq 1 [4] 0 ⟨[(4, vI 2)], []⟩ (Ln (Qn (Cr (Qr (Qb (Qr (Qr (Qb (Qr (Rt (.inl rfl) [vI 2] rfl (fun bs w hS => (⟨?_, hS.kp⟩))))))))))))))))))
          simp only [retOf, den, List.map_cons, List.map_nil]
          have hf : sessF (s.xs.map CSession.abs) n i = 2 := by
           unfold sessF
           simp only [hat, hq0, hq1, hq2, hq3]
           try simp only [h1, h2, h3, h4, h5, h6, h7, h8, h9, emp_size, ne_eq, not_true_eq_false, not_false_eq_true, true_or, or_true, false_or, or_false, and_true, true_and, and_false, false_and, and_self, or_self, if_true, if_false, Bool.true_eq_false, Bool.false_eq_true, reduceIte, Classical.not_not, Bool.and_eq_true, decide_eq_true_eq]
           repeat (first | rw [if_pos (by omega)] | rw [if_neg (by omega)])
           all_goals first | rfl | (exfalso; omega)
          rw [hI, firstF_here (by omega) hf (by omega)]
         | false =>
          have h9 := of_decide_eq_false h9
          refine Jq 7 [53, 5, 6, 18, 17, 16, 0, 1] 1 ⟨[(53, vB (decide ((s.at i).last < (s.at i).id))), (5, vI (i : Int)), (6, .p 0 0), (18, vI (i : Int)), (17, vI (s.n : Int)), (16, .v s.val), (0, .v s.val), (1, vI n)], [⟨98, (s.at i).cs⟩]⟩ ?_
          cases h10 : decide ((s.at i).last < (s.at i).id) with
          | true =>
           have h10 := of_decide_eq_true h10
           refine Jq 5 [58, 5, 6, 18, 17, 16, 0, 1] 1 ⟨[(58, vB true), (5, vI (i : Int)), (6, .p 0 0), (18, vI (i : Int)), (17, vI (s.n : Int)), (16, .v s.val), (0, .v s.val), (1, vI n)], [⟨98, (s.at i).cs⟩]⟩ (Ln (Qn (Ci true rfl (Cs (Cg (Jq 1 [4] 0 ⟨[(4, vI 2)], []⟩ (Ln (Qn (Cr (Qr (Qb (Qr (Qr (Qb (Qr (Rt (.inl rfl) [vI 2] rfl (fun bs w hS => (⟨?_, hS.kp⟩))))))))))))))))))
           simp only [retOf, den, List.map_cons, List.map_nil]
           have hf : sessF (s.xs.map CSession.abs) n i = 2 := by
            unfold sessF
            simp only [hat, hq0, hq1, hq2, hq3]
            try simp only [h1, h2, h3, h4, h5, h6, h7, h8, h9, h10, emp_size, ne_eq, not_true_eq_false, not_false_eq_true, true_or, or_true, false_or, or_false, and_true, true_and, and_false, false_and, and_self, or_self, if_true, if_false, Bool.true_eq_false, Bool.false_eq_true, reduceIte, Classical.not_not, Bool.and_eq_true, decide_eq_true_eq]
            repeat (first | rw [if_pos (by omega)] | rw [if_neg (by omega)])
            all_goals first | rfl | (exfalso; omega)
           rw [hI, firstF_here (by omega) hf (by omega)]
          | false =>
           have h10 := of_decide_eq_false h10
           refine Jq 5 [58, 5, 6, 18, 17, 16, 0, 1] 1 ⟨[(58, vB (decide (n < (s.at i).last))), (5, vI (i : Int)), (6, .p 0 0), (18, vI (i : Int)), (17, vI (s.n : Int)), (16, .v s.val), (0, .v s.val), (1, vI n)], [⟨98, (s.at i).cs⟩]⟩ (Ln (Qn ?_))
           cases h11 : decide (n < (s.at i).last) with
           | true =>
            have h11 := of_decide_eq_true h11
            refine Ci true rfl (Cs (Cg (Jq 1 [4] 0 ⟨[(4, vI 2)], []⟩ (Ln (Qn (Cr (Qr (Qb (Qr (Qr (Qb (Qr (Rt (.inl rfl) [vI 2] rfl (fun bs w hS => (⟨?_, hS.kp⟩)))))))))))))))
            simp only [retOf, den, List.map_cons, List.map_nil]
            have hf : sessF (s.xs.map CSession.abs) n i = 2 := by
             unfold sessF
             simp only [hat, hq0, hq1, hq2, hq3]
             try simp only [h1, h2, h3, h4, h5, h6, h7, h8, h9, h10, h11, emp_size, ne_eq, not_true_eq_false, not_false_eq_true, true_or, or_true, false_or, or_false, and_true, true_and, and_false, false_and, and_self, or_self, if_true, if_false, Bool.true_eq_false, Bool.false_eq_true, reduceIte, Classical.not_not, Bool.and_eq_true, decide_eq_true_eq]
             repeat (first | rw [if_pos (by omega)] | rw [if_neg (by omega)])
             all_goals first | rfl | (exfalso; omega)
            rw [hI, firstF_here (by omega) hf (by omega)]
           | false =>
            have h11 := of_decide_eq_false h11
            refine Ci false rfl (Ck (Qn (Cs (Cs (Cg (Jq 1 [59, 5, 6, 18, 17, 16, 0, 1] 1 ⟨[(59, .v (s.at i).val), (5, vI (i : Int)), (6, .p 0 0), (18, vI (i : Int)), (17, vI (s.n : Int)), (16, .v s.val), (0, .v s.val), (1, vI n)], [⟨98, (s.at i).cs⟩]⟩ (Lp 98 [] [.v (s.at i).val] (.bool (mReplies (s.at i).abs)) Try.call98 rfl rfl rfl rfl (fun bs w hS => session_replies (s.at i) w (Sl.rd.sub (s := s) (i := i) (Sl.rd.kp hs hS.kp) (by omega)) (by first | exact ⟨by omega, by omega⟩ | (simp only [] at *; exact ⟨by omega, by omega⟩))) (Jq 1 [61, 5, 6, 18, 17, 16, 0, 1] 1 ⟨[(61, vB (!(mReplies (s.at i).abs))), (5, vI (i : Int)), (6, .p 0 0), (18, vI (i : Int)), (17, vI (s.n : Int)), (16, .v s.val), (0, .v s.val), (1, vI n)], [⟨98, (s.at i).cs⟩]⟩ (Ln (Qn ?_))))))))))
            cases h12 : mReplies (s.at i).abs with
            | true =>
             refine Ci false rfl (Ck (Qn (Cs (Cd 13 [] (.p 0 (.p 1 (.p 2 (.p 3 (.p 4 (.p 5 (.p 6 (.p 7 (.q 8 (.p 9 (.q 10 (.p 11 (.p 12 .nil))))))))))))) [] [] Try_mixed (by kernel_rfl) (pq_then (pq_block (pq_then (pq_then (pq_block (pq_then pq_body)))))) .slnil (Hq [] [(0, true), (1, true), (2, true)] [(64, vB (decide ((0 : Int) < (i : Int)))), (63, vB (decide ((0 : Int) < (i : Int)))), (62, vI (i : Int)), (61, vB false), (5, vI (i : Int)), (6, .p 0 0), (18, vI (i : Int)), (17, vI (s.n : Int)), (16, .v s.val), (0, .v s.val), (1, vI n)] [] [] rfl (by kernel_rfl) on wn ?_)))))
             cases h13 : decide ((0 : Int) < (i : Int)) with
             | true =>
              have h13 := of_decide_eq_true h13
              refine Hq [(6, .idx s.ad (i - 1)), (8, .ext [.int .i64 (s.at (i - 1)).client])] [(3, true), (4, true), (5, true), (6, true), (7, true), (8, false), (9, true), (10, false), (11, true), (12, true)] [(74, vB (decide ((s.at i).client ≤ (s.at (i - 1)).client))), (73, vB (decide ((s.at i).client ≤ (s.at (i - 1)).client))), (72, vI (s.at i).client), (71, .p 0 0), (70, vI (s.at (i - 1)).client), (69, .v (.pointer (some ((s.ad.add ((i - 1) * 5)).add 0)))), (68, .v (.pointer (some (s.ad.add ((i - 1) * 5))))), (67, vI ((i : Int) - 1)), (66, vI (i : Int)), (65, .v s.val), (64, vB true), (63, vB true), (62, vI (i : Int)), (61, vB false), (5, vI (i : Int)), (6, .p 0 0), (18, vI (i : Int)), (17, vI (s.n : Int)), (16, .v s.val), (0, .v s.val), (1, vI n)] [inR ((i : Int) - 1), s.A = some s.ad, (i : Int) - 1 = (((i - 1) : Nat) : Int), (i - 1) < s.n] [((s.ad.add ((i - 1) * 5)).add 0, [.int .i64 (s.at (i - 1)).client])] rfl (by kernel_rfl) (oc (by unfold inR; omega) (oc (Sl.ok.own (s := s) (i := (i - 1)) oks (by omega)) (oc (by omega) (oc (by omega) on)))) (fun w hk hr => ⟨(Sl.rd.fld (s := s) (i := (i - 1)) (Sl.rd.kp hs hk) (by omega) 0 1 rfl), trivial⟩) ?_
              refine Hn (Ln (Qn ?_))
              cases h14 : decide ((s.at i).client ≤ (s.at (i - 1)).client) with
              | true =>
               have h14 := of_decide_eq_true h14
               refine Ci true rfl (Cs (Cg (Jq 1 [4] 0 ⟨[(4, vI 14)], []⟩ (Ln (Qn (Cr (Qb (Qr (Qr (Qb (Qr (Rt (.inl rfl) [vI 14] rfl (fun bs w hS => (⟨?_, hS.kp⟩))))))))))))))
               simp only [retOf, den, List.map_cons, List.map_nil]
               have hf : sessF (s.xs.map CSession.abs) n i = 14 := by
                unfold sessF
                simp only [hat, hq0, hq1, hq2, hq3]
                try simp only [h1, h2, h3, h4, h5, h6, h7, h8, h9, h10, h11, h12, h13, h14, emp_size, ne_eq, not_true_eq_false, not_false_eq_true, true_or, or_true, false_or, or_false, and_true, true_and, and_false, false_and, and_self, or_self, if_true, if_false, Bool.true_eq_false, Bool.false_eq_true, reduceIte, Classical.not_not, Bool.and_eq_true, decide_eq_true_eq]
                repeat (first | rw [if_pos (by omega)] | rw [if_neg (by omega)])
                all_goals first | rfl | (exfalso; omega)
               rw [hI, firstF_here (by omega) hf (by omega)]
              | false =>
               have h14 := of_decide_eq_false h14
               refine Ci false rfl (Ck (q_block_normal (Qn (Cg (Jr 2 [] [18, 17, 16, 0, 1] 0 ⟨[(18, vI ((i : Int) + 1)), (17, vI (s.n : Int)), (16, .v s.val), (0, .v s.val), (1, vI n)], []⟩ [inR ((i : Int) + 1)] [] (by kernel_rfl) (oc (by unfold inR; omega) on) wn ?_)))))
               have hf0 : sessF (s.xs.map CSession.abs) n i = 0 := by
                unfold sessF
                simp only [hat, hq0, hq1, hq2, hq3]
                try simp only [h1, h2, h3, h4, h5, h6, h7, h8, h9, h10, h11, h12, h13, h14, emp_size, ne_eq, not_true_eq_false, not_false_eq_true, true_or, or_true, false_or, or_false, and_true, true_and, and_false, false_and, and_self, or_self, if_true, if_false, Bool.true_eq_false, Bool.false_eq_true, reduceIte, Classical.not_not, Bool.and_eq_true, decide_eq_true_eq]
                repeat (first | rw [if_pos (by omega)] | rw [if_neg (by omega)])
                all_goals first | rfl | (exfalso; omega)
               refine Ln (Ql (x := (i : Nat)) ((i + 1) : Nat) ⟨by omega, by rw [hI]; exact firstF_step (by omega) hf0⟩ (by omega) (Ss [18, 17, 16, 0, 1] 0 (by kernel_rfl) rfl))
             | false =>
              have h13 := of_decide_eq_false h13
              refine Hq [] [(3, true), (4, true), (5, true), (6, true), (7, true), (8, false), (9, true), (10, false), (11, true), (12, true)] [(74, vB false), (73, .v (undef)), (72, .v (undef)), (71, .v (undef)), (70, .v (undef)), (69, .v (undef)), (68, .v (undef)), (67, .v (undef)), (66, .v (undef)), (65, .v (undef)), (64, vB false), (63, vB false), (62, vI (i : Int)), (61, vB false), (5, vI (i : Int)), (6, .p 0 0), (18, vI (i : Int)), (17, vI (s.n : Int)), (16, .v s.val), (0, .v s.val), (1, vI n)] [] [] rfl (by kernel_rfl) on wn ?_
              refine Hn (Ln (Qn (Ci false rfl (Ck (q_block_normal (Qn (Cg (Jr 2 [] [18, 17, 16, 0, 1] 0 ⟨[(18, vI ((i : Int) + 1)), (17, vI (s.n : Int)), (16, .v s.val), (0, .v s.val), (1, vI n)], []⟩ [inR ((i : Int) + 1)] [] (by kernel_rfl) (oc (by unfold inR; omega) on) wn ?_))))))))
              have hf0 : sessF (s.xs.map CSession.abs) n i = 0 := by
               unfold sessF
               simp only [hat, hq0, hq1, hq2, hq3]
               try simp only [h1, h2, h3, h4, h5, h6, h7, h8, h9, h10, h11, h12, h13, emp_size, ne_eq, not_true_eq_false, not_false_eq_true, true_or, or_true, false_or, or_false, and_true, true_and, and_false, false_and, and_self, or_self, if_true, if_false, Bool.true_eq_false, Bool.false_eq_true, reduceIte, Classical.not_not, Bool.and_eq_true, decide_eq_true_eq]
               repeat (first | rw [if_pos (by omega)] | rw [if_neg (by omega)])
               all_goals first | rfl | (exfalso; omega)
              refine Ln (Ql (x := (i : Nat)) ((i + 1) : Nat) ⟨by omega, by rw [hI]; exact firstF_step (by omega) hf0⟩ (by omega) (Ss [18, 17, 16, 0, 1] 0 (by kernel_rfl) rfl))
            | false =>
             refine Ci true rfl (Cs (Cg (Jq 1 [4] 0 ⟨[(4, vI 4)], []⟩ (Ln (Qn (Cr (Qr (Qb (Qr (Qr (Qb (Qr (Rt (.inl rfl) [vI 4] rfl (fun bs w hS => (⟨?_, hS.kp⟩)))))))))))))))
             simp only [retOf, den, List.map_cons, List.map_nil]
             have hf : sessF (s.xs.map CSession.abs) n i = 4 := by
              unfold sessF
              simp only [hat, hq0, hq1, hq2, hq3]
              try simp only [h1, h2, h3, h4, h5, h6, h7, h8, h9, h10, h11, h12, emp_size, ne_eq, not_true_eq_false, not_false_eq_true, true_or, or_true, false_or, or_false, and_true, true_and, and_false, false_and, and_self, or_self, if_true, if_false, Bool.true_eq_false, Bool.false_eq_true, reduceIte, Classical.not_not, Bool.and_eq_true, decide_eq_true_eq]
              repeat (first | rw [if_pos (by omega)] | rw [if_neg (by omega)])
              all_goals first | rfl | (exfalso; omega)
             rw [hI, firstF_here (by omega) hf (by omega)]
    | false =>
     have h4 := of_decide_eq_false h4
     refine Ci false rfl (c_exit (Qe (Qe (Qh (Qn (Cs (Cg (Jq 1 [4] 0 ⟨[(4, vI 0)], []⟩ (Ln (Qn (Cr (Rt (.inl rfl) [vI 0] rfl (fun bs w hS => (⟨?_, hS.kp⟩))))))))))))))
     simp only [retOf, den, List.map_cons, List.map_nil]
     rw [hI, firstF_end (by omega)]

theorem ref_SessionsFault {B : Nat → Prop} (s : Sl CSession) (n : Int) (w : World) (hs : s.rd B w) : Calls Try.prog 63 #[.slice s.A s.n s.c, .int .i64 n] w fun e w' => e = .returned (.int .i64 (mSess (s.xs.map CSession.abs) n)) ∧ Kp [] w w' := by
 have oks := Sl.rd.ok hs
 have ncs := Sl.ok.nc oks
 have hns : s.n = s.xs.length := rfl
 have hat : ∀ q, (s.xs.map CSession.abs).getD q default = (s.at q).abs := fun q => sabs_at q
 have hq0 : ∀ q, (s.at q).abs.client = (s.at q).client := fun _ => rfl
 have hq1 : ∀ q, (s.at q).abs.id = (s.at q).id := fun _ => rfl
 have hq2 : ∀ q, (s.at q).abs.acked = (s.at q).acked := fun _ => rfl
 have hq3 : ∀ q, (s.at q).abs.last = (s.at q).last := fun _ => rfl
 have hml : (s.xs.map CSession.abs).length = s.n := by simp
 refine calls_J0 65 Try.func63 rfl rfl [.slice s.A s.n s.c, .int .i64 n] rfl ?_
 refine Cs (Cg (Jq 1 [0, 1] 0 ⟨[(0, .v s.val), (1, vI n)], []⟩ (Ln (Qn (Cs (Cs (Cg (Jq 1 [7, 0, 1] 0 ⟨[(7, vI n), (0, .v s.val), (1, vI n)], []⟩ (Lp 68 [] [vI n, vI 0, vI 1073741824] (.bool (inB n 0 1073741824)) Try.call68 rfl rfl rfl rfl (fun bs w hS => ref_In _ _ _ w) (Jq 1 [9, 0, 1] 0 ⟨[(9, vB (!(inB n 0 1073741824))), (0, .v s.val), (1, vI n)], []⟩ (Ln (Qn ?_))))))))))))
 cases h1 : inB n 0 1073741824 with
 | true =>
  simp only [inB, Bool.and_eq_true, Bool.and_eq_false_iff, decide_eq_true_eq, decide_eq_false_iff_not] at h1
  refine Ci false rfl (Ck (Qn (Cs (Cs (Cg (Jq 3 [12, 0, 1] 0 ⟨[(12, vB (decide ((4 : Int) < (s.n : Int)))), (0, .v s.val), (1, vI n)], []⟩ (Ln (Qn ?_))))))))
  cases h2 : decide ((4 : Int) < (s.n : Int)) with
  | true =>
   have h2 := of_decide_eq_true h2
   refine Ci true rfl (Cs (Cg (Jq 1 [4] 0 ⟨[(4, vI 1)], []⟩ (Ln (Qn (Cr (Qr (Rt (.inl rfl) [vI 1] rfl (fun bs w hS => (⟨?_, hS.kp⟩))))))))))
   simp only [retOf, den, List.map_cons, List.map_nil]
   have hm : mSess (s.xs.map CSession.abs) n = 1 := by
    unfold mSess; rw [hml]
    first | rw [if_pos (by omega)] | rw [if_neg (by omega), if_pos (by omega)]
   rw [hm]
  | false =>
   have h2 := of_decide_eq_false h2
   refine Ci false rfl (Ck (Qn (Cs (Cs (Cg (Jq 1 [5, 0, 1] 0 ⟨[(5, vI 0), (0, .v s.val), (1, vI n)], []⟩ (Ln (Qn (Cb (Cl (σ := Nat) (fun i => i ≤ s.n ∧ mSess (s.xs.map CSession.abs) n = firstF (sessF (s.xs.map CSession.abs) n) (s.n - i) i) (fun i => s.n - i) (fun i => []) (fun i => ⟨[(5, vI (i : Int)), (0, .v s.val), (1, vI n)], []⟩) 0 ⟨Nat.zero_le _, by unfold mSess; rw [hml, if_neg (by omega), if_neg (by omega)]⟩ (Ss [5, 0, 1] 0 (by kernel_rfl) rfl) ?_))))))))))
   rintro i ⟨hi, hI⟩
   refine Cs (Cs (Cg (Jq 4 [16, 5, 0, 1] 0 ⟨[(16, vB (decide ((i : Int) < (s.n : Int)))), (5, vI (i : Int)), (0, .v s.val), (1, vI n)], []⟩ (Ln (Qn ?_)))))
   cases h3 : decide ((i : Int) < (s.n : Int)) with
   | true =>
    have h3 := of_decide_eq_true h3
    refine Ci true rfl (Ck (Qn (Cs (Cb (Cs (Cg (Jr 6 [(2, .idx s.ad i), (3, .ext [.int .i64 (s.at i).client, .int .i64 (s.at i).id, .int .i64 (s.at i).acked, .int .i64 (s.at i).last, .slice (s.at i).replies.A (s.at i).replies.n (s.at i).replies.c])] [6, 5, 0, 1] 1 ⟨[(6, .p 0 0), (5, vI (i : Int)), (0, .v s.val), (1, vI n)], [⟨98, (s.at i).cs⟩]⟩ [s.A = some s.ad, (i : Int) = (i : Int), i < s.n] [(s.ad.add (i * 5), [.int .i64 (s.at i).client, .int .i64 (s.at i).id, .int .i64 (s.at i).acked, .int .i64 (s.at i).last, .slice (s.at i).replies.A (s.at i).replies.n (s.at i).replies.c])] (by kernel_rfl) (oc (Sl.ok.own (s := s) (i := i) oks (by omega)) (oc rfl (oc (by omega) on))) (fun w hk hr => ⟨(Sl.rd.all (s := s) (i := i) (Sl.rd.kp hs hk) (by omega) rfl), trivial⟩) (Ln (Qn (Cs (Cs (Cg (Jq 2 [24, 6, 5, 0, 1] 1 ⟨[(24, vI (s.at i).client), (6, .p 0 0), (5, vI (i : Int)), (0, .v s.val), (1, vI n)], [⟨98, (s.at i).cs⟩]⟩ (Lp 68 [] [vI (s.at i).client, vI 1, vI 9] (.bool (inB (s.at i).client 1 9)) Try.call68 rfl rfl rfl rfl (fun bs w hS => ref_In _ _ _ w) (Jq 2 [27, 6, 5, 0, 1] 1 ⟨[(27, vB (!(inB (s.at i).client 1 9))), (6, .p 0 0), (5, vI (i : Int)), (0, .v s.val), (1, vI n)], [⟨98, (s.at i).cs⟩]⟩ ?_)))))))))))))))
    cases h4 : inB (s.at i).client 1 9 with
    | true =>
     simp only [inB, Bool.and_eq_true, Bool.and_eq_false_iff, decide_eq_true_eq, decide_eq_false_iff_not] at h4
     refine Jq 2 [29, 27, 6, 5, 0, 1] 1 ⟨[(29, vI (s.at i).acked), (27, vB false), (6, .p 0 0), (5, vI (i : Int)), (0, .v s.val), (1, vI n)], [⟨98, (s.at i).cs⟩]⟩ (Lp 68 [] [vI (s.at i).acked, vI 0, vI 1048576] (.bool (inB (s.at i).acked 0 1048576)) Try.call68 rfl rfl rfl rfl (fun bs w hS => ref_In _ _ _ w) (Jq 3 [33, 6, 5, 0, 1] 1 ⟨[(33, vB (!(inB (s.at i).acked 0 1048576))), (6, .p 0 0), (5, vI (i : Int)), (0, .v s.val), (1, vI n)], [⟨98, (s.at i).cs⟩]⟩ ?_))
     cases h5 : inB (s.at i).acked 0 1048576 with
     | true =>
      simp only [inB, Bool.and_eq_true, Bool.and_eq_false_iff, decide_eq_true_eq, decide_eq_false_iff_not] at h5
      refine Jq 3 [36, 35, 33, 6, 5, 0, 1] 1 ⟨[(36, vI n), (35, vI (s.at i).id), (33, vB false), (6, .p 0 0), (5, vI (i : Int)), (0, .v s.val), (1, vI n)], [⟨98, (s.at i).cs⟩]⟩ (Lp 68 [] [vI (s.at i).id, vI 1, vI n] (.bool (inB (s.at i).id 1 n)) Try.call68 rfl rfl rfl rfl (fun bs w hS => ref_In _ _ _ w) (Jq 3 [40, 6, 5, 0, 1] 1 ⟨[(40, vB (!(inB (s.at i).id 1 n))), (6, .p 0 0), (5, vI (i : Int)), (0, .v s.val), (1, vI n)], [⟨98, (s.at i).cs⟩]⟩ ?_))
      cases h6 : inB (s.at i).id 1 n with
      | true =>
       simp only [inB, Bool.and_eq_true, Bool.and_eq_false_iff, decide_eq_true_eq, decide_eq_false_iff_not] at h6
       refine Jq 5 [45, 44, 42, 40, 6, 5, 0, 1] 1 ⟨[(45, vI n), (44, vI (s.at i).id), (42, vI (s.at i).last), (40, vB false), (6, .p 0 0), (5, vI (i : Int)), (0, .v s.val), (1, vI n)], [⟨98, (s.at i).cs⟩]⟩ (Lp 68 [] [vI (s.at i).last, vI (s.at i).id, vI n] (.bool (inB (s.at i).last (s.at i).id n)) Try.call68 rfl rfl rfl rfl (fun bs w hS => ref_In _ _ _ w) (Jq 2 [48, 6, 5, 0, 1] 1 ⟨[(48, vB (!(inB (s.at i).last (s.at i).id n))), (6, .p 0 0), (5, vI (i : Int)), (0, .v s.val), (1, vI n)], [⟨98, (s.at i).cs⟩]⟩ (Ln (Qn ?_))))
       cases h7 : inB (s.at i).last (s.at i).id n with
       | true =>
        simp only [inB, Bool.and_eq_true, Bool.and_eq_false_iff, decide_eq_true_eq, decide_eq_false_iff_not] at h7
        refine Ci false rfl (Ck (Qn (Cs (Cs (Cg (Jq 1 [49, 6, 5, 0, 1] 1 ⟨[(49, .v (s.at i).val), (6, .p 0 0), (5, vI (i : Int)), (0, .v s.val), (1, vI n)], [⟨98, (s.at i).cs⟩]⟩ (Lp 102 [] [.v (s.at i).val] (.bool (mReplies (s.at i).abs)) Try.call102 rfl rfl rfl rfl (fun bs w hS => ref_repliesMay (s.at i) w (Sl.rd.sub (s := s) (i := i) (Sl.rd.kp hs hS.kp) (by omega)) (by first | exact ⟨by omega, by omega⟩ | (simp only [] at *; exact ⟨by omega, by omega⟩))) (Jq 1 [51, 6, 5, 0, 1] 1 ⟨[(51, vB (!(mReplies (s.at i).abs))), (6, .p 0 0), (5, vI (i : Int)), (0, .v s.val), (1, vI n)], [⟨98, (s.at i).cs⟩]⟩ (Ln (Qn ?_))))))))))
        cases h8 : mReplies (s.at i).abs with
        | true =>
         refine Ci false rfl (Ck (Qn (Cs (Cd 13 [] (.p 0 (.p 1 (.p 2 (.p 3 (.q 4 (.p 5 (.p 6 (.p 7 (.p 8 (.p 9 (.q 10 (.p 11 (.p 12 .nil))))))))))))) [] [] Try_mixed (by kernel_rfl) (pq_then (pq_block (pq_then (pq_then (pq_block (pq_then pq_body)))))) .slnil (Hq [] [(0, true), (1, true), (2, true)] [(54, vB (decide ((0 : Int) < (i : Int)))), (53, vB (decide ((0 : Int) < (i : Int)))), (52, vI (i : Int)), (51, vB false), (6, .p 0 0), (5, vI (i : Int)), (0, .v s.val), (1, vI n)] [] [] rfl (by kernel_rfl) on wn ?_)))))
         cases h9 : decide ((0 : Int) < (i : Int)) with
         | true =>
          have h9 := of_decide_eq_true h9
          refine Hq [(8, .idx s.ad (i - 1)), (10, .ext [.int .i64 (s.at (i - 1)).client])] [(3, true), (4, false), (5, true), (6, true), (7, true), (8, true), (9, true), (10, false), (11, true), (12, true)] [(64, vB (decide ((s.at i).client ≤ (s.at (i - 1)).client))), (63, vB (decide ((s.at i).client ≤ (s.at (i - 1)).client))), (62, vI (s.at (i - 1)).client), (61, .v (.pointer (some ((s.ad.add ((i - 1) * 5)).add 0)))), (60, .v (.pointer (some (s.ad.add ((i - 1) * 5))))), (59, vI ((i : Int) - 1)), (58, vI (i : Int)), (57, .v s.val), (56, vI (s.at i).client), (55, .p 0 0), (54, vB true), (53, vB true), (52, vI (i : Int)), (51, vB false), (6, .p 0 0), (5, vI (i : Int)), (0, .v s.val), (1, vI n)] [inR ((i : Int) - 1), s.A = some s.ad, (i : Int) - 1 = (((i - 1) : Nat) : Int), (i - 1) < s.n] [((s.ad.add ((i - 1) * 5)).add 0, [.int .i64 (s.at (i - 1)).client])] rfl (by kernel_rfl) (oc (by unfold inR; omega) (oc (Sl.ok.own (s := s) (i := (i - 1)) oks (by omega)) (oc (by omega) (oc (by omega) on)))) (fun w hk hr => ⟨(Sl.rd.fld (s := s) (i := (i - 1)) (Sl.rd.kp hs hk) (by omega) 0 1 rfl), trivial⟩) ?_
          refine Hn (Ln (Qn ?_))
          cases h10 : decide ((s.at i).client ≤ (s.at (i - 1)).client) with
          | true =>
           have h10 := of_decide_eq_true h10
           refine Ci true rfl (Cs (Cg (Jq 1 [4] 0 ⟨[(4, vI 14)], []⟩ (Ln (Qn (Cr (Qb (Qr (Qr (Qb (Qr (Rt (.inl rfl) [vI 14] rfl (fun bs w hS => (⟨?_, hS.kp⟩))))))))))))))
           simp only [retOf, den, List.map_cons, List.map_nil]
           have hf : sessF (s.xs.map CSession.abs) n i = 14 := by
            unfold sessF
            simp only [hat, hq0, hq1, hq2, hq3]
            try simp only [h1, h2, h3, h4, h5, h6, h7, h8, h9, h10, emp_size, ne_eq, not_true_eq_false, not_false_eq_true, true_or, or_true, false_or, or_false, and_true, true_and, and_false, false_and, and_self, or_self, if_true, if_false, Bool.true_eq_false, Bool.false_eq_true, reduceIte, Classical.not_not, Bool.and_eq_true, decide_eq_true_eq]
            repeat (first | rw [if_pos (by omega)] | rw [if_neg (by omega)])
            all_goals first | rfl | (exfalso; omega)
           rw [hI, firstF_here (by omega) hf (by omega)]
          | false =>
           have h10 := of_decide_eq_false h10
           refine Ci false rfl (Ck (q_block_normal (Qn (Cg (Jr 3 [] [5, 0, 1] 0 ⟨[(5, vI ((i : Int) + 1)), (0, .v s.val), (1, vI n)], []⟩ [inR ((i : Int) + 1)] [] (by kernel_rfl) (oc (by unfold inR; omega) on) wn ?_)))))
           have hf0 : sessF (s.xs.map CSession.abs) n i = 0 := by
            unfold sessF
            simp only [hat, hq0, hq1, hq2, hq3]
            try simp only [h1, h2, h3, h4, h5, h6, h7, h8, h9, h10, emp_size, ne_eq, not_true_eq_false, not_false_eq_true, true_or, or_true, false_or, or_false, and_true, true_and, and_false, false_and, and_self, or_self, if_true, if_false, Bool.true_eq_false, Bool.false_eq_true, reduceIte, Classical.not_not, Bool.and_eq_true, decide_eq_true_eq]
            repeat (first | rw [if_pos (by omega)] | rw [if_neg (by omega)])
            all_goals first | rfl | (exfalso; omega)
           refine Ln (Ql (x := (i : Nat)) ((i + 1) : Nat) ⟨by omega, by rw [hI]; exact firstF_step (by omega) hf0⟩ (by omega) (Ss [5, 0, 1] 0 (by kernel_rfl) rfl))
         | false =>
          have h9 := of_decide_eq_false h9
          refine Hq [] [(3, true), (4, false), (5, true), (6, true), (7, true), (8, true), (9, true), (10, false), (11, true), (12, true)] [(64, vB false), (63, .v (undef)), (62, .v (undef)), (61, .v (undef)), (60, .v (undef)), (59, .v (undef)), (58, .v (undef)), (57, .v (undef)), (56, .v (undef)), (55, .v (undef)), (54, vB false), (53, vB false), (52, vI (i : Int)), (51, vB false), (6, .p 0 0), (5, vI (i : Int)), (0, .v s.val), (1, vI n)] [] [] rfl (by kernel_rfl) on wn ?_
          refine Hn (Ln (Qn (Ci false rfl (Ck (q_block_normal (Qn (Cg (Jr 3 [] [5, 0, 1] 0 ⟨[(5, vI ((i : Int) + 1)), (0, .v s.val), (1, vI n)], []⟩ [inR ((i : Int) + 1)] [] (by kernel_rfl) (oc (by unfold inR; omega) on) wn ?_))))))))
          have hf0 : sessF (s.xs.map CSession.abs) n i = 0 := by
           unfold sessF
           simp only [hat, hq0, hq1, hq2, hq3]
           try simp only [h1, h2, h3, h4, h5, h6, h7, h8, h9, emp_size, ne_eq, not_true_eq_false, not_false_eq_true, true_or, or_true, false_or, or_false, and_true, true_and, and_false, false_and, and_self, or_self, if_true, if_false, Bool.true_eq_false, Bool.false_eq_true, reduceIte, Classical.not_not, Bool.and_eq_true, decide_eq_true_eq]
           repeat (first | rw [if_pos (by omega)] | rw [if_neg (by omega)])
           all_goals first | rfl | (exfalso; omega)
          refine Ln (Ql (x := (i : Nat)) ((i + 1) : Nat) ⟨by omega, by rw [hI]; exact firstF_step (by omega) hf0⟩ (by omega) (Ss [5, 0, 1] 0 (by kernel_rfl) rfl))
        | false =>
         refine Ci true rfl (Cs (Cg (Jq 1 [4] 0 ⟨[(4, vI 4)], []⟩ (Ln (Qn (Cr (Qr (Qb (Qr (Qr (Qb (Qr (Rt (.inl rfl) [vI 4] rfl (fun bs w hS => (⟨?_, hS.kp⟩)))))))))))))))
         simp only [retOf, den, List.map_cons, List.map_nil]
         have hf : sessF (s.xs.map CSession.abs) n i = 4 := by
          unfold sessF
          simp only [hat, hq0, hq1, hq2, hq3]
          try simp only [h1, h2, h3, h4, h5, h6, h7, h8, emp_size, ne_eq, not_true_eq_false, not_false_eq_true, true_or, or_true, false_or, or_false, and_true, true_and, and_false, false_and, and_self, or_self, if_true, if_false, Bool.true_eq_false, Bool.false_eq_true, reduceIte, Classical.not_not, Bool.and_eq_true, decide_eq_true_eq]
          repeat (first | rw [if_pos (by omega)] | rw [if_neg (by omega)])
          all_goals first | rfl | (exfalso; omega)
         rw [hI, firstF_here (by omega) hf (by omega)]
       | false =>
        simp only [inB, Bool.and_eq_true, Bool.and_eq_false_iff, decide_eq_true_eq, decide_eq_false_iff_not] at h7
        refine Ci true rfl (Cs (Cg (Jq 1 [4] 0 ⟨[(4, vI 2)], []⟩ (Ln (Qn (Cr (Qr (Qb (Qr (Qr (Qb (Qr (Rt (.inl rfl) [vI 2] rfl (fun bs w hS => (⟨?_, hS.kp⟩)))))))))))))))
        simp only [retOf, den, List.map_cons, List.map_nil]
        have hf : sessF (s.xs.map CSession.abs) n i = 2 := by
         unfold sessF
         simp only [hat, hq0, hq1, hq2, hq3]
         try simp only [h1, h2, h3, h4, h5, h6, h7, emp_size, ne_eq, not_true_eq_false, not_false_eq_true, true_or, or_true, false_or, or_false, and_true, true_and, and_false, false_and, and_self, or_self, if_true, if_false, Bool.true_eq_false, Bool.false_eq_true, reduceIte, Classical.not_not, Bool.and_eq_true, decide_eq_true_eq]
         repeat (first | rw [if_pos (by omega)] | rw [if_neg (by omega)])
         all_goals first | rfl | (exfalso; omega)
        rw [hI, firstF_here (by omega) hf (by omega)]
      | false =>
       simp only [inB, Bool.and_eq_true, Bool.and_eq_false_iff, decide_eq_true_eq, decide_eq_false_iff_not] at h6
       refine Jq 8 [48, 6, 5, 0, 1] 1 ⟨[(48, vB true), (6, .p 0 0), (5, vI (i : Int)), (0, .v s.val), (1, vI n)], [⟨98, (s.at i).cs⟩]⟩ (Ln (Qn (Ci true rfl (Cs (Cg (Jq 1 [4] 0 ⟨[(4, vI 2)], []⟩ (Ln (Qn (Cr (Qr (Qb (Qr (Qr (Qb (Qr (Rt (.inl rfl) [vI 2] rfl (fun bs w hS => (⟨?_, hS.kp⟩))))))))))))))))))
       simp only [retOf, den, List.map_cons, List.map_nil]
       have hf : sessF (s.xs.map CSession.abs) n i = 2 := by
        unfold sessF
        simp only [hat, hq0, hq1, hq2, hq3]
        try simp only [h1, h2, h3, h4, h5, h6, emp_size, ne_eq, not_true_eq_false, not_false_eq_true, true_or, or_true, false_or, or_false, and_true, true_and, and_false, false_and, and_self, or_self, if_true, if_false, Bool.true_eq_false, Bool.false_eq_true, reduceIte, Classical.not_not, Bool.and_eq_true, decide_eq_true_eq]
        repeat (first | rw [if_pos (by omega)] | rw [if_neg (by omega)])
        all_goals first | rfl | (exfalso; omega)
       rw [hI, firstF_here (by omega) hf (by omega)]
     | false =>
      simp only [inB, Bool.and_eq_true, Bool.and_eq_false_iff, decide_eq_true_eq, decide_eq_false_iff_not] at h5
      refine Jq 15 [48, 6, 5, 0, 1] 1 ⟨[(48, vB true), (6, .p 0 0), (5, vI (i : Int)), (0, .v s.val), (1, vI n)], [⟨98, (s.at i).cs⟩]⟩ (Ln (Qn (Ci true rfl (Cs (Cg (Jq 1 [4] 0 ⟨[(4, vI 2)], []⟩ (Ln (Qn (Cr (Qr (Qb (Qr (Qr (Qb (Qr (Rt (.inl rfl) [vI 2] rfl (fun bs w hS => (⟨?_, hS.kp⟩))))))))))))))))))
      simp only [retOf, den, List.map_cons, List.map_nil]
      have hf : sessF (s.xs.map CSession.abs) n i = 2 := by
       unfold sessF
       simp only [hat, hq0, hq1, hq2, hq3]
       try simp only [h1, h2, h3, h4, h5, emp_size, ne_eq, not_true_eq_false, not_false_eq_true, true_or, or_true, false_or, or_false, and_true, true_and, and_false, false_and, and_self, or_self, if_true, if_false, Bool.true_eq_false, Bool.false_eq_true, reduceIte, Classical.not_not, Bool.and_eq_true, decide_eq_true_eq]
       repeat (first | rw [if_pos (by omega)] | rw [if_neg (by omega)])
       all_goals first | rfl | (exfalso; omega)
      rw [hI, firstF_here (by omega) hf (by omega)]
    | false =>
     simp only [inB, Bool.and_eq_true, Bool.and_eq_false_iff, decide_eq_true_eq, decide_eq_false_iff_not] at h4
     refine Jq 21 [48, 6, 5, 0, 1] 1 ⟨[(48, vB true), (6, .p 0 0), (5, vI (i : Int)), (0, .v s.val), (1, vI n)], [⟨98, (s.at i).cs⟩]⟩ (Ln (Qn (Ci true rfl (Cs (Cg (Jq 1 [4] 0 ⟨[(4, vI 2)], []⟩ (Ln (Qn (Cr (Qr (Qb (Qr (Qr (Qb (Qr (Rt (.inl rfl) [vI 2] rfl (fun bs w hS => (⟨?_, hS.kp⟩))))))))))))))))))
     simp only [retOf, den, List.map_cons, List.map_nil]
     have hf : sessF (s.xs.map CSession.abs) n i = 2 := by
      unfold sessF
      simp only [hat, hq0, hq1, hq2, hq3]
      try simp only [h1, h2, h3, h4, emp_size, ne_eq, not_true_eq_false, not_false_eq_true, true_or, or_true, false_or, or_false, and_true, true_and, and_false, false_and, and_self, or_self, if_true, if_false, Bool.true_eq_false, Bool.false_eq_true, reduceIte, Classical.not_not, Bool.and_eq_true, decide_eq_true_eq]
      repeat (first | rw [if_pos (by omega)] | rw [if_neg (by omega)])
      all_goals first | rfl | (exfalso; omega)
     rw [hI, firstF_here (by omega) hf (by omega)]
   | false =>
    have h3 := of_decide_eq_false h3
    refine Ci false rfl (c_exit (Qe (Qe (Qh (Qn (Cs (Cg (Jq 1 [4] 0 ⟨[(4, vI 0)], []⟩ (Ln (Qn (Cr (Rt (.inl rfl) [vI 0] rfl (fun bs w hS => (⟨?_, hS.kp⟩))))))))))))))
    simp only [retOf, den, List.map_cons, List.map_nil]
    rw [hI, firstF_end (by omega)]
 | false =>
  simp only [inB, Bool.and_eq_true, Bool.and_eq_false_iff, decide_eq_true_eq, decide_eq_false_iff_not] at h1
  refine Ci true rfl (Cs (Cg (Jq 1 [4] 0 ⟨[(4, vI 2)], []⟩ (Ln (Qn (Cr (Qr (Rt (.inl rfl) [vI 2] rfl (fun bs w hS => (⟨?_, hS.kp⟩))))))))))
  simp only [retOf, den, List.map_cons, List.map_nil]
  have hm : mSess (s.xs.map CSession.abs) n = 2 := by
   unfold mSess; rw [hml]
   first | rw [if_pos (by omega)] | rw [if_neg (by omega), if_pos (by omega)]
  rw [hm]

theorem clone_Kept {B : Nat → Prop} (s : Sl DKept) (w : World) (hs : s.rd B w) (hb : s.n ≤ 1048576) : Calls Try.prog 99 #[.slice s.A s.n s.c] w fun e w' => ∃ y : Sl DKept, e = .returned y.val ∧ y.xs = s.xs ∧ Kp [] w w' ∧ Fresh w w' (rowA 101 y.A y.c y.xs) := by
 have oks := Sl.rd.ok hs
 have ncs := Sl.ok.nc oks
 have hns : s.n = s.xs.length := rfl
 refine calls_J0 8 Try.func99 rfl rfl [.slice s.A s.n s.c] rfl ?_
 refine Cs (Cg (Jq 1 [0] 0 ⟨[(0, .v s.val)], []⟩ (Ln (Qn (Cs (Cs (Cg (Jr 2 [(1, .val (.bool s.A.isNone))] [4, 0] 0 ⟨[(4, vB s.A.isNone), (0, .v s.val)], []⟩ [∀ w, (do eqGuard .eql 96 (.tmp 3) (.const (.slice none 0 0)) (.slice s.A s.n s.c) (.slice none 0 0); binOp .eql 96 (.slice s.A s.n s.c) (.slice none 0 0) : Sem Value).run Try.prog w = .ok (.bool s.A.isNone) w] [] (by kernel_rfl) (oc (eq_nil Try.underlying96) on) wn (Ln (Qn ?_))))))))))
 cases h1 : s.A.isNone with
 | true =>
  refine Ci true rfl (Cs (Cg (Jq 1 [2] 0 ⟨[(2, .v (.slice none 0 0))], []⟩ (Ln (Qn (Cr (Qr (Rt (.inl rfl) [.v (.slice none 0 0)] rfl (fun bs w hS => ?_)))))))))
  have hnil : s.xs = [] := Sl.ok.empty oks (by cases h : s.A <;> simp_all)
  exact ⟨Sl.nil, rfl, hnil.symm, hS.kp, rowA_nil 101 w⟩
 | false =>
  refine Ci false rfl (Ck (Qn (Cs (Cg (l_row0A (α := DKept) 101 Try.underlying96 (by kernel_rfl) (by kernel_rfl) (by kernel_rfl) rfl ?_)))))
  intro A1
  refine Jq 1 [6, 5] 0 ⟨[(6, .v s.val), (5, .v (.slice A1 ([] : List DKept).length 0))], []⟩ (La (α := DKept) 101 40 A1 0 ([]) (.v (.slice s.A s.n s.c)) (s.xs) Try.underlying96 (by kernel_rfl) rfl rfl rfl (fun bs w hS => ⟨_, _, rfl, Sl.rd.src (s := s) (Sl.rd.kp hs hS.kp)⟩) (by simp only [List.length_nil]; omega) (by simp only [List.length_nil]; omega) ?_)
  intro A2 c2
  refine Jq 1 [2] 0 ⟨[(2, .v (.slice A2 ([] ++ s.xs).length c2))], []⟩ (Ln (Qn (Cr (Rt (.inl rfl) [.v (.slice A2 ([] ++ s.xs).length c2)] rfl (fun bs w hS => ?_)))))
  exact ⟨⟨A2, c2, [] ++ s.xs⟩, rfl, by simp, hS.kp, hS.out1⟩

theorem session_Copy {B : Nat → Prop} (s : Sl CSession) (w : World) (hs : s.rd B w) (hsm : Rds.small s) : Calls Try.prog 60 #[.slice s.A s.n s.c] w fun e w' => ∃ y : Sl CSession, e = .returned y.val ∧ y.xs.map CSession.abs = s.xs.map CSession.abs ∧ Kp [] w w' ∧ Fresh w w' (sessR 98 101 y) := by
 have oks := Sl.rd.ok hs
 have ncs := Sl.ok.nc oks
 refine calls_J0 22 Try.func60 rfl rfl [.slice s.A s.n s.c] rfl ?_
 refine Cs (Cg (Jq 1 [0] 0 ⟨[(0, .v s.val)], []⟩ (Ln (Qn (Cs (Cg (Jq 1 [3, 0] 0 ⟨[(3, .v (.slice none 0 0)), (0, .v s.val)], []⟩ (Ln (Qn (Cs (Cs (Cg (Jq 3 [8, 7, 6, 3] 0 ⟨[(8, vI 0), (7, vI (s.n : Int)), (6, .v s.val), (3, .v (.slice none 0 0))], []⟩ (Ln (Qn (Cb (Ca (α := CSession) 98 (c_nores (ownL (keptR 101) []) rfl (fun w x hx => by cases hx) (Cl (σ := Nat × Option Addr × Nat × List CSession) (fun ⟨i, A, c, L⟩ => i ≤ s.n ∧ L.length = i ∧ L.map CSession.abs = (s.xs.take i).map CSession.abs) (fun ⟨i, A, c, L⟩ => s.n - i) (fun ⟨i, A, c, L⟩ => [ownL (keptR 101) L, rowA 98 A c (L : List CSession)]) (fun ⟨i, A, c, L⟩ => ⟨[(8, vI (i : Int)), (7, vI (s.n : Int)), (6, .v s.val), (3, .v (.slice A L.length c))], []⟩) ⟨0, none, 0, []⟩ ⟨Nat.zero_le _, rfl, by simp⟩ (Ss [8, 7, 6, 3] 0 (by kernel_rfl) rfl) ?_)))))))))))))))))))
 rintro ⟨i, A, c, L⟩ ⟨hi, hL, hI⟩
 have hsn := hsm.1
 refine Cs (Cg (Jq 1 [9, 8, 7, 6, 3] 0 ⟨[(9, vB (decide ((i : Int) < (s.n : Int)))), (8, vI (i : Int)), (7, vI (s.n : Int)), (6, .v s.val), (3, .v (.slice A L.length c))], []⟩ (Ln (Qn (Cs ?_)))))
 cases h1 : decide ((i : Int) < (s.n : Int)) with
 | true =>
  have h1 := of_decide_eq_true h1
  refine Ci true rfl (Ck (Qn (Cs (Cb (Cs (Cg (Jr 4 [(0, .idx s.ad i), (1, .ext [.int .i64 (s.at i).client, .int .i64 (s.at i).id, .int .i64 (s.at i).acked, .int .i64 (s.at i).last, .slice (s.at i).replies.A (s.at i).replies.n (s.at i).replies.c])] [5, 8, 7, 6, 3] 1 ⟨[(5, .p 0 0), (8, vI (i : Int)), (7, vI (s.n : Int)), (6, .v s.val), (3, .v (.slice A L.length c))], [⟨98, (s.at i).cs⟩]⟩ [s.A = some s.ad, (i : Int) = (i : Int), i < s.n] [(s.ad.add (i * 5), [.int .i64 (s.at i).client, .int .i64 (s.at i).id, .int .i64 (s.at i).acked, .int .i64 (s.at i).last, .slice (s.at i).replies.A (s.at i).replies.n (s.at i).replies.c])] (by kernel_rfl) (oc (Sl.ok.own (s := s) (i := i) oks (by omega)) (oc rfl (oc (by omega) on))) (fun w hk hr => ⟨(Sl.rd.all (s := s) (i := i) (Sl.rd.kp hs hk) (by omega) rfl), trivial⟩) (Ln (Qn (Cs (Cg (Jq 2 [13, 5, 8, 7, 6, 3] 1 ⟨[(13, .v (s.at i).replies.val), (5, .p 0 0), (8, vI (i : Int)), (7, vI (s.n : Int)), (6, .v s.val), (3, .v (.slice A L.length c))], [⟨98, (s.at i).cs⟩]⟩ (l_freshF (σ := Sl DKept) 99 [] [.v (s.at i).replies.val] (fun y1 => .slice y1.A y1.n y1.c) (fun y1 => y1.xs = (s.at i).replies.xs) (fun y1 => rowA 101 y1.A y1.c (y1.xs : List DKept)) Try.call99 rfl rfl rfl rfl (fun bs w hS => clone_Kept (s.at i).replies w (Sl.rd.sub (s := s) (i := i) (Sl.rd.kp hs hS.kp) (by omega)) (hsm.2 i (by omega)).1) ?_)))))))))))))
  rintro y1 hF1
  refine Jq 2 [5, 8, 7, 6, 3] 1 ⟨[(5, .p 0 0), (8, vI (i : Int)), (7, vI (s.n : Int)), (6, .v s.val), (3, .v (.slice A L.length c))], [⟨98, [vI (s.at i).client, vI (s.at i).id, vI (s.at i).acked, vI (s.at i).last, .v y1.val]⟩]⟩ (Ln (Qn (Cg (Jq 3 [18, 16, 8, 7, 6] 2 ⟨[(18, .s 1 0 1 1), (16, .v (.slice A L.length c)), (8, vI (i : Int)), (7, vI (s.n : Int)), (6, .v s.val)], [⟨98, [vI (s.at i).client, vI (s.at i).id, vI (s.at i).acked, vI (s.at i).last, .v y1.val]⟩, ⟨98, [vI (s.at i).client, vI (s.at i).id, vI (s.at i).acked, vI (s.at i).last, .v y1.val]⟩]⟩ (Lm (R' := [rowA 98 A c (L : List CSession), rowA 101 y1.A y1.c (y1.xs : List DKept), ownL (keptR 101) L]) (Pf 2 rfl) (La (α := CSession) 98 56 A c (L) (.s 1 0 1 1) ([(⟨(s.at i).client, (s.at i).id, (s.at i).acked, (s.at i).last, y1⟩ : CSession)]) Try.underlying37 (by kernel_rfl) rfl rfl rfl (fun bs w hS => by obtain ⟨q1, q2, q3, q4⟩ := src_loc (i := 1) (off := 0) (k := 1) (c := 1) (q := 5) (vs := [.int .i64 (s.at i).client, .int .i64 (s.at i).id, .int .i64 (s.at i).acked, .int .i64 (s.at i).last, .slice y1.A y1.n y1.c]) hS rfl rfl; exact ⟨some q1, q2, q3, q4⟩) (by first | omega | (simp only [List.length_nil, List.length_cons, List.length_append]; omega) | (have hq := (hsm.2 i (by omega)).1; simp only [Sl.n, List.length_nil] at hq ⊢; omega)) (by first | omega | (simp only [List.length_nil, List.length_cons, List.length_append]; omega) | (have hq := (hsm.2 i (by omega)).1; simp only [Sl.n, List.length_nil] at hq ⊢; omega)) ?_))))))
  intro A3 c3
  refine Jq 1 [3, 8, 7, 6] 0 ⟨[(3, .v (.slice A3 (L ++ [(⟨(s.at i).client, (s.at i).id, (s.at i).acked, (s.at i).last, y1⟩ : CSession)]).length c3)), (8, vI (i : Int)), (7, vI (s.n : Int)), (6, .v s.val)], []⟩ (Ln (q_block_normal (Qn (Cg (Jr 2 [] [8, 3, 7, 6] 0 ⟨[(8, vI ((i : Int) + 1)), (3, .v (.slice A3 (L ++ [(⟨(s.at i).client, (s.at i).id, (s.at i).acked, (s.at i).last, y1⟩ : CSession)]).length c3)), (7, vI (s.n : Int)), (6, .v s.val)], []⟩ [inR ((i : Int) + 1)] [] (by kernel_rfl) (oc (by unfold inR; omega) on) wn (Lm (R' := [rowA 101 y1.A y1.c (y1.xs : List DKept), ownL (keptR 101) L, rowA 98 A3 c3 (L ++ [(⟨(s.at i).client, (s.at i).id, (s.at i).acked, (s.at i).last, y1⟩ : CSession)] : List CSession)]) (by exact perm3 0 _ _ _) (Lj (ownL (keptR 101) (L ++ [(⟨(s.at i).client, (s.at i).id, (s.at i).acked, (s.at i).last, y1⟩ : CSession)])) (ownL_app_fp (keptR 101) L (⟨(s.at i).client, (s.at i).id, (s.at i).acked, (s.at i).last, y1⟩ : CSession)) (fun w => ownL_app_p (keptR 101) L (⟨(s.at i).client, (s.at i).id, (s.at i).acked, (s.at i).last, y1⟩ : CSession) w) (Ln (Ql (x := (⟨i, A, c, L⟩ : Nat × Option Addr × Nat × List CSession)) (⟨i + 1, A3, c3, L ++ [(⟨(s.at i).client, (s.at i).id, (s.at i).acked, (s.at i).last, y1⟩ : CSession)]⟩ : Nat × Option Addr × Nat × List CSession) ⟨by omega, by rw [List.length_append]; simp [hL], map_take_snoc (by omega) hI (by first | simp [CSession.abs, hF1] | simp [CSession.abs])⟩ (by show s.n - (i + 1) < s.n - i; omega) (Ss [8, 7, 6, 3] 0 (by kernel_rfl) rfl))))))))))
 | false =>
  have h1 := of_decide_eq_false h1
  refine Ci false rfl (c_exit (Qe (Qe (Qh (Qn (Cs (Cg (Jq 2 [2] 0 ⟨[(2, .v (.slice A L.length c))], []⟩ (Ln (Qn (Cr (Rt (.inl rfl) [.v (.slice A L.length c)] rfl (fun bs w hS => ?_)))))))))))))
  have hn : L.length = s.n := by omega
  exact ⟨⟨A, c, L⟩, rfl, by rw [hI, take_all (by omega)], hS.kp, hS.out⟩
theorem session_CopyS {B : Nat → Prop} (s : Sl CSession) (w : World) (hs : s.rd B w) (hsm : Rds.small s) : Calls Try.prog 60 #[.slice s.A s.n s.c] w fun e w' => ∃ y : Sl CSession, e = .returned y.val ∧ y.xs.map CSession.abs = s.xs.map CSession.abs ∧ FreshS w w' y :=
 (session_Copy s w hs hsm).mono fun e w' ⟨y, h1, h2, h3, h4⟩ => ⟨y, h1, h2, h3, h4.sub fun hp => sessR_rd hp (sess_texts hs h2)⟩

theorem ref_SessionsCopy {B : Nat → Prop} (s : Sl CSession) (w : World) (hs : s.rd B w) (hsm : Rds.small s) : Calls Try.prog 58 #[.slice s.A s.n s.c] w fun e w' => ∃ y : Sl CSession, e = .returned y.val ∧ y.xs.map CSession.abs = s.xs.map CSession.abs ∧ Kp [] w w' ∧ Fresh w w' (sessR 98 101 y) := by
 have oks := Sl.rd.ok hs
 have ncs := Sl.ok.nc oks
 refine calls_J0 25 Try.func58 rfl rfl [.slice s.A s.n s.c] rfl ?_
 refine Cs (Cg (Jq 1 [0] 0 ⟨[(0, .v s.val)], []⟩ (Ln (Qn (Cs (Cg (Jq 1 [3, 0] 0 ⟨[(3, .v (.slice none 0 0)), (0, .v s.val)], []⟩ (Ln (Qn (Cs (Cs (Cg (Jq 1 [4, 3, 0] 0 ⟨[(4, vI 0), (3, .v (.slice none 0 0)), (0, .v s.val)], []⟩ (Ln (Qn (Cb (Ca (α := CSession) 98 (c_nores (ownL (keptR 101) []) rfl (fun w x hx => by cases hx) (Cl (σ := Nat × Option Addr × Nat × List CSession) (fun ⟨i, A, c, L⟩ => i ≤ s.n ∧ L.length = i ∧ L.map CSession.abs = (s.xs.take i).map CSession.abs) (fun ⟨i, A, c, L⟩ => s.n - i) (fun ⟨i, A, c, L⟩ => [ownL (keptR 101) L, rowA 98 A c (L : List CSession)]) (fun ⟨i, A, c, L⟩ => ⟨[(4, vI (i : Int)), (3, .v (.slice A L.length c)), (0, .v s.val)], []⟩) ⟨0, none, 0, []⟩ ⟨Nat.zero_le _, rfl, by simp⟩ (Ss [4, 3, 0] 0 (by kernel_rfl) rfl) ?_)))))))))))))))))))
 rintro ⟨i, A, c, L⟩ ⟨hi, hL, hI⟩
 have hsn := hsm.1
 refine Cs (Cs (Cg (Jq 4 [9, 4, 3, 0] 0 ⟨[(9, vB (decide ((i : Int) < (s.n : Int)))), (4, vI (i : Int)), (3, .v (.slice A L.length c)), (0, .v s.val)], []⟩ (Ln (Qn ?_)))))
 cases h1 : decide ((i : Int) < (s.n : Int)) with
 | true =>
  have h1 := of_decide_eq_true h1
  refine Ci true rfl (Ck (Qn (Cs (Cb (Cs (Cg (Jr 6 [(2, .idx s.ad i), (3, .ext [.int .i64 (s.at i).client, .int .i64 (s.at i).id, .int .i64 (s.at i).acked, .int .i64 (s.at i).last, .slice (s.at i).replies.A (s.at i).replies.n (s.at i).replies.c])] [5, 4, 3, 0] 1 ⟨[(5, .p 0 0), (4, vI (i : Int)), (3, .v (.slice A L.length c)), (0, .v s.val)], [⟨98, (s.at i).cs⟩]⟩ [s.A = some s.ad, (i : Int) = (i : Int), i < s.n] [(s.ad.add (i * 5), [.int .i64 (s.at i).client, .int .i64 (s.at i).id, .int .i64 (s.at i).acked, .int .i64 (s.at i).last, .slice (s.at i).replies.A (s.at i).replies.n (s.at i).replies.c])] (by kernel_rfl) (oc (Sl.ok.own (s := s) (i := i) oks (by omega)) (oc rfl (oc (by omega) on))) (fun w hk hr => ⟨(Sl.rd.all (s := s) (i := i) (Sl.rd.kp hs hk) (by omega) rfl), trivial⟩) (Ln (Qn (Cs (Cg (Jq 2 [17, 5, 4, 3, 0] 1 ⟨[(17, .v (s.at i).replies.val), (5, .p 0 0), (4, vI (i : Int)), (3, .v (.slice A L.length c)), (0, .v s.val)], [⟨98, (s.at i).cs⟩]⟩ (l_rowA (α := DKept) 101 (La (α := DKept) 101 40 none 0 ([]) (.v (s.at i).replies.val) ((s.at i).replies.xs) Try.underlying96 (by kernel_rfl) rfl rfl rfl (fun bs w hS => ⟨_, _, rfl, Sl.rd.src (s := (s.at i).replies) (Sl.rd.sub (s := s) (i := i) (Sl.rd.kp hs hS.kp) (by omega))⟩) (by first | omega | (simp only [List.length_nil, List.length_cons, List.length_append]; omega) | (have hq := (hsm.2 i (by omega)).1; simp only [Sl.n, List.length_nil] at hq ⊢; omega)) (by first | omega | (simp only [List.length_nil, List.length_cons, List.length_append]; omega) | (have hq := (hsm.2 i (by omega)).1; simp only [Sl.n, List.length_nil] at hq ⊢; omega)) ?_))))))))))))))
  intro A1 c1
  refine Jq 2 [5, 4, 3, 0] 1 ⟨[(5, .p 0 0), (4, vI (i : Int)), (3, .v (.slice A L.length c)), (0, .v s.val)], [⟨98, [vI (s.at i).client, vI (s.at i).id, vI (s.at i).acked, vI (s.at i).last, .v (.slice A1 ([] ++ (s.at i).replies.xs).length c1)]⟩]⟩ (Ln (Qn (Cg (Jq 3 [22, 20, 4, 0] 2 ⟨[(22, .s 1 0 1 1), (20, .v (.slice A L.length c)), (4, vI (i : Int)), (0, .v s.val)], [⟨98, [vI (s.at i).client, vI (s.at i).id, vI (s.at i).acked, vI (s.at i).last, .v (.slice A1 ([] ++ (s.at i).replies.xs).length c1)]⟩, ⟨98, [vI (s.at i).client, vI (s.at i).id, vI (s.at i).acked, vI (s.at i).last, .v (.slice A1 ([] ++ (s.at i).replies.xs).length c1)]⟩]⟩ (Lm (R' := [rowA 98 A c (L : List CSession), rowA 101 A1 c1 ([] ++ (s.at i).replies.xs : List DKept), ownL (keptR 101) L]) (Pf 2 rfl) (La (α := CSession) 98 56 A c (L) (.s 1 0 1 1) ([(⟨(s.at i).client, (s.at i).id, (s.at i).acked, (s.at i).last, ⟨A1, c1, [] ++ (s.at i).replies.xs⟩⟩ : CSession)]) Try.underlying37 (by kernel_rfl) rfl rfl rfl (fun bs w hS => by obtain ⟨q1, q2, q3, q4⟩ := src_loc (i := 1) (off := 0) (k := 1) (c := 1) (q := 5) (vs := [.int .i64 (s.at i).client, .int .i64 (s.at i).id, .int .i64 (s.at i).acked, .int .i64 (s.at i).last, .slice A1 ([] ++ (s.at i).replies.xs).length c1]) hS rfl rfl; exact ⟨some q1, q2, q3, q4⟩) (by first | omega | (simp only [List.length_nil, List.length_cons, List.length_append]; omega) | (have hq := (hsm.2 i (by omega)).1; simp only [Sl.n, List.length_nil] at hq ⊢; omega)) (by first | omega | (simp only [List.length_nil, List.length_cons, List.length_append]; omega) | (have hq := (hsm.2 i (by omega)).1; simp only [Sl.n, List.length_nil] at hq ⊢; omega)) ?_))))))
  intro A2 c2
  refine Jq 1 [3, 4, 0] 0 ⟨[(3, .v (.slice A2 (L ++ [(⟨(s.at i).client, (s.at i).id, (s.at i).acked, (s.at i).last, ⟨A1, c1, [] ++ (s.at i).replies.xs⟩⟩ : CSession)]).length c2)), (4, vI (i : Int)), (0, .v s.val)], []⟩ (Ln (q_block_normal (Qn (Cg (Jr 3 [] [4, 3, 0] 0 ⟨[(4, vI ((i : Int) + 1)), (3, .v (.slice A2 (L ++ [(⟨(s.at i).client, (s.at i).id, (s.at i).acked, (s.at i).last, ⟨A1, c1, [] ++ (s.at i).replies.xs⟩⟩ : CSession)]).length c2)), (0, .v s.val)], []⟩ [inR ((i : Int) + 1)] [] (by kernel_rfl) (oc (by unfold inR; omega) on) wn (Lm (R' := [rowA 101 A1 c1 ([] ++ (s.at i).replies.xs : List DKept), ownL (keptR 101) L, rowA 98 A2 c2 (L ++ [(⟨(s.at i).client, (s.at i).id, (s.at i).acked, (s.at i).last, ⟨A1, c1, [] ++ (s.at i).replies.xs⟩⟩ : CSession)] : List CSession)]) (by exact perm3 0 _ _ _) (Lj (ownL (keptR 101) (L ++ [(⟨(s.at i).client, (s.at i).id, (s.at i).acked, (s.at i).last, ⟨A1, c1, [] ++ (s.at i).replies.xs⟩⟩ : CSession)])) (ownL_app_fp (keptR 101) L (⟨(s.at i).client, (s.at i).id, (s.at i).acked, (s.at i).last, ⟨A1, c1, [] ++ (s.at i).replies.xs⟩⟩ : CSession)) (fun w => ownL_app_p (keptR 101) L (⟨(s.at i).client, (s.at i).id, (s.at i).acked, (s.at i).last, ⟨A1, c1, [] ++ (s.at i).replies.xs⟩⟩ : CSession) w) (Ln (Ql (x := (⟨i, A, c, L⟩ : Nat × Option Addr × Nat × List CSession)) (⟨i + 1, A2, c2, L ++ [(⟨(s.at i).client, (s.at i).id, (s.at i).acked, (s.at i).last, ⟨A1, c1, [] ++ (s.at i).replies.xs⟩⟩ : CSession)]⟩ : Nat × Option Addr × Nat × List CSession) ⟨by omega, by rw [List.length_append]; simp [hL], map_take_snoc (by omega) hI (by first | simp [CSession.abs, hF1] | simp [CSession.abs])⟩ (by show s.n - (i + 1) < s.n - i; omega) (Ss [4, 3, 0] 0 (by kernel_rfl) rfl))))))))))
 | false =>
  have h1 := of_decide_eq_false h1
  refine Ci false rfl (c_exit (Qe (Qe (Qh (Qn (Cs (Cg (Jq 2 [2] 0 ⟨[(2, .v (.slice A L.length c))], []⟩ (Ln (Qn (Cr (Rt (.inl rfl) [.v (.slice A L.length c)] rfl (fun bs w hS => ?_)))))))))))))
  have hn : L.length = s.n := by omega
  exact ⟨⟨A, c, L⟩, rfl, by rw [hI, take_all (by omega)], hS.kp, hS.out⟩
theorem ref_SessionsCopyS {B : Nat → Prop} (s : Sl CSession) (w : World) (hs : s.rd B w) (hsm : Rds.small s) : Calls Try.prog 58 #[.slice s.A s.n s.c] w fun e w' => ∃ y : Sl CSession, e = .returned y.val ∧ y.xs.map CSession.abs = s.xs.map CSession.abs ∧ FreshS w w' y :=
 (ref_SessionsCopy s w hs hsm).mono fun e w' ⟨y, h1, h2, h3, h4⟩ => ⟨y, h1, h2, h3, h4.sub fun hp => sessR_rd hp (sess_texts hs h2)⟩

theorem same_sessions {B B' : Nat → Prop} (a b : Sl CSession) (w : World) (ha : a.rd B w) (hb : b.rd B' w) (he : a.xs.map CSession.abs = b.xs.map CSession.abs) : Calls Try.prog 24 #[.slice a.A a.n a.c, .slice b.A b.n b.c] w fun e w' => e = .returned (.bool true) ∧ Kp [] w w' := by
 have oka := Sl.rd.ok ha
 have okb := Sl.rd.ok hb
 have hn := map_n he
 have nca := Sl.ok.nc oka
 refine calls_J0 81 Try.func24 rfl rfl [.slice a.A a.n a.c, .slice b.A b.n b.c] rfl ?_
 refine Cs (Cg (Jq 1 [0, 1] 0 ⟨[(0, .v a.val), (1, .v b.val)], []⟩ (Ln (Qn (Cs (Cs (Cg (Jq 5 [13, 0, 1] 0 ⟨[(13, vB (!(decide ((a.n : Int) = (b.n : Int))))), (0, .v a.val), (1, .v b.val)], []⟩ (Ln (Qn ?_))))))))))
 cases h1 : decide ((a.n : Int) = (b.n : Int)) with
 | true =>
  have h1 := of_decide_eq_true h1
  refine Ci false rfl (Ck (Qn (Cs (Cs (Cg (Jq 1 [5, 0, 1] 0 ⟨[(5, vI 0), (0, .v a.val), (1, .v b.val)], []⟩ (Ln (Qn (Cb (Cl (σ := Nat) (fun i => True) (fun i => a.n - i) (fun i => []) (fun i => ⟨[(5, vI (i : Int)), (0, .v a.val), (1, .v b.val)], []⟩) 0 trivial (Ss [5, 0, 1] 0 (by kernel_rfl) rfl) ?_))))))))))
  rintro i _
  have hat := map_at (f := CSession.abs) (g := CSession.abs) rfl he i
  have q0 : (a.at i).client = (b.at i).client := congrArg DSession.client hat
  have q1 : (a.at i).id = (b.at i).id := congrArg DSession.id hat
  have q2 : (a.at i).acked = (b.at i).acked := congrArg DSession.acked hat
  have q3 : (a.at i).last = (b.at i).last := congrArg DSession.last hat
  have q4 : (a.at i).replies.xs = (b.at i).replies.xs := congrArg DSession.replies hat
  have q5 := xs_n q4
  refine Cs (Cs (Cg (Jq 4 [17, 5, 0, 1] 0 ⟨[(17, vB (decide ((i : Int) < (a.n : Int)))), (5, vI (i : Int)), (0, .v a.val), (1, .v b.val)], []⟩ (Ln (Qn ?_)))))
  cases h2 : decide ((i : Int) < (a.n : Int)) with
  | true =>
   have h2 := of_decide_eq_true h2
   refine Ci true rfl (Ck (Qn (Cs (Cb (Cs (Cg (Jr 6 [(2, .idx a.ad i), (3, .ext [.int .i64 (a.at i).client, .int .i64 (a.at i).id, .int .i64 (a.at i).acked, .int .i64 (a.at i).last, .slice (a.at i).replies.A (a.at i).replies.n (a.at i).replies.c])] [6, 5, 0, 1] 1 ⟨[(6, .p 0 0), (5, vI (i : Int)), (0, .v a.val), (1, .v b.val)], [⟨98, (a.at i).cs⟩]⟩ [a.A = some a.ad, (i : Int) = (i : Int), i < a.n] [(a.ad.add (i * 5), [.int .i64 (a.at i).client, .int .i64 (a.at i).id, .int .i64 (a.at i).acked, .int .i64 (a.at i).last, .slice (a.at i).replies.A (a.at i).replies.n (a.at i).replies.c])] (by kernel_rfl) (oc (Sl.ok.own (s := a) (i := i) oka (by omega)) (oc rfl (oc (by omega) on))) (fun w hk hr => ⟨(Sl.rd.all (s := a) (i := i) (Sl.rd.kp ha hk) (by omega) rfl), trivial⟩) (Ln (Qn (Cs (Cg (Jr 6 [(2, .idx b.ad i), (3, .ext [.int .i64 (b.at i).client, .int .i64 (b.at i).id, .int .i64 (b.at i).acked, .int .i64 (b.at i).last, .slice (b.at i).replies.A (b.at i).replies.n (b.at i).replies.c])] [7, 6, 5, 0, 1] 2 ⟨[(7, .p 1 0), (6, .p 0 0), (5, vI (i : Int)), (0, .v a.val), (1, .v b.val)], [⟨98, (a.at i).cs⟩, ⟨98, (b.at i).cs⟩]⟩ [b.A = some b.ad, (i : Int) = (i : Int), i < b.n] [(b.ad.add (i * 5), [.int .i64 (b.at i).client, .int .i64 (b.at i).id, .int .i64 (b.at i).acked, .int .i64 (b.at i).last, .slice (b.at i).replies.A (b.at i).replies.n (b.at i).replies.c])] (by kernel_rfl) (oc (Sl.ok.own (s := b) (i := i) okb (by omega)) (oc rfl (oc (by omega) on))) (fun w hk hr => ⟨(Sl.rd.all (s := b) (i := i) (Sl.rd.kp hb hk) (by omega) rfl), trivial⟩) (Ln (Qn (Cs (Cs (Cg (Jq 6 [33, 7, 6, 5, 0, 1] 2 ⟨[(33, vB (!(decide ((a.at i).client = (b.at i).client)))), (7, .p 1 0), (6, .p 0 0), (5, vI (i : Int)), (0, .v a.val), (1, .v b.val)], [⟨98, (a.at i).cs⟩, ⟨98, (b.at i).cs⟩]⟩ ?_))))))))))))))))))
   cases h3 : decide ((a.at i).client = (b.at i).client) with
   | true =>
    have h3 := of_decide_eq_true h3
    refine Jq 7 [40, 7, 6, 5, 0, 1] 2 ⟨[(40, vB (!(decide ((a.at i).id = (b.at i).id)))), (7, .p 1 0), (6, .p 0 0), (5, vI (i : Int)), (0, .v a.val), (1, .v b.val)], [⟨98, (a.at i).cs⟩, ⟨98, (b.at i).cs⟩]⟩ ?_
    cases h4 : decide ((a.at i).id = (b.at i).id) with
    | true =>
     have h4 := of_decide_eq_true h4
     refine Jq 7 [47, 7, 6, 5, 0, 1] 2 ⟨[(47, vB (!(decide ((a.at i).acked = (b.at i).acked)))), (7, .p 1 0), (6, .p 0 0), (5, vI (i : Int)), (0, .v a.val), (1, .v b.val)], [⟨98, (a.at i).cs⟩, ⟨98, (b.at i).cs⟩]⟩ ?_
     cases h5 : decide ((a.at i).acked = (b.at i).acked) with
     | true =>
      have h5 := of_decide_eq_true h5
      refine Jq 7 [54, 7, 6, 5, 0, 1] 2 ⟨[(54, vB (!(decide ((a.at i).last = (b.at i).last)))), (7, .p 1 0), (6, .p 0 0), (5, vI (i : Int)), (0, .v a.val), (1, .v b.val)], [⟨98, (a.at i).cs⟩, ⟨98, (b.at i).cs⟩]⟩ ?_
      cases h6 : decide ((a.at i).last = (b.at i).last) with
      | true =>
       have h6 := of_decide_eq_true h6
       refine Jq 8 [62, 7, 6, 5, 0, 1] 2 ⟨[(62, vB (!(decide ((((a.at i).replies.n : Nat) : Int) = (((b.at i).replies.n : Nat) : Int))))), (7, .p 1 0), (6, .p 0 0), (5, vI (i : Int)), (0, .v a.val), (1, .v b.val)], [⟨98, (a.at i).cs⟩, ⟨98, (b.at i).cs⟩]⟩ (Ln (Qn ?_))
       cases h7 : decide ((((a.at i).replies.n : Nat) : Int) = (((b.at i).replies.n : Nat) : Int)) with
       | true =>
        have h7 := of_decide_eq_true h7
        refine Ci false rfl (Ck (Qn (Cs (Cg (Jq 1 [8, 7, 6, 5, 0, 1] 2 ⟨[(8, vI 0), (7, .p 1 0), (6, .p 0 0), (5, vI (i : Int)), (0, .v a.val), (1, .v b.val)], [⟨98, (a.at i).cs⟩, ⟨98, (b.at i).cs⟩]⟩ (Ln (Qn (Cb (Cl (σ := Nat) (fun j => True) (fun j => (a.at i).replies.n - j) (fun j => []) (fun j => ⟨[(8, vI (j : Int)), (7, .p 1 0), (6, .p 0 0), (5, vI (i : Int)), (0, .v a.val), (1, .v b.val)], [⟨98, (a.at i).cs⟩, ⟨98, (b.at i).cs⟩]⟩) 0 trivial (Ss [8, 7, 6, 5, 0, 1] 2 (by kernel_rfl) rfl) ?_)))))))))
        rintro j _
        have hbt := xs_at q4 j
        have ncr := Sl.ok.nc (Sl.ok.at oka (show i < a.n by omega))
        refine Cs (Cs (Cg (Jq 5 [67, 8, 7, 6, 5, 0, 1] 2 ⟨[(67, vB (decide ((j : Int) < (((a.at i).replies.n : Nat) : Int)))), (8, vI (j : Int)), (7, .p 1 0), (6, .p 0 0), (5, vI (i : Int)), (0, .v a.val), (1, .v b.val)], [⟨98, (a.at i).cs⟩, ⟨98, (b.at i).cs⟩]⟩ (Ln (Qn ?_)))))
        cases h8 : decide ((j : Int) < (((a.at i).replies.n : Nat) : Int)) with
        | true =>
         have h8 := of_decide_eq_true h8
         refine Ci true rfl (Ck (Qn (Cs (Cb (Cs (Cd 11 [] (.p 0 (.q 1 (.p 2 (.p 3 (.q 4 (.p 5 (.q 6 (.p 7 (.p 8 (.q 9 (.p 10 .nil))))))))))) [] [] Try_mixed (by kernel_rfl) (pq_then (pq_block (pq_then (pq_then (pq_block (pq_block (pq_then (pq_then (pq_block (pq_then pq_body)))))))))) .slnil (Hq [(3, .idx (a.at i).replies.ad j), (4, .ext [.int .i64 ((a.at i).replies.at j).seq, .int .i64 ((a.at i).replies.at j).reply.code, .int .i64 ((a.at i).replies.at j).reply.n, .string ((a.at i).replies.at j).reply.text]), (8, .idx (b.at i).replies.ad j), (9, .ext [.int .i64 ((b.at i).replies.at j).seq, .int .i64 ((b.at i).replies.at j).reply.code, .int .i64 ((b.at i).replies.at j).reply.n, .string ((b.at i).replies.at j).reply.text]), (10, .val (.bool (!((decide (((a.at i).replies.at j).seq = ((b.at i).replies.at j).seq)) && (((decide (((a.at i).replies.at j).reply.code = ((b.at i).replies.at j).reply.code)) && ((decide (((a.at i).replies.at j).reply.n = ((b.at i).replies.at j).reply.n)) && ((decide (((a.at i).replies.at j).reply.text = ((b.at i).replies.at j).reply.text)) && true))) && true)))))] [(0, true), (1, false), (2, true), (3, true), (4, false), (5, true), (6, false), (7, true), (8, true), (9, false), (10, true)] [(80, vB (!((decide (((a.at i).replies.at j).seq = ((b.at i).replies.at j).seq)) && (((decide (((a.at i).replies.at j).reply.code = ((b.at i).replies.at j).reply.code)) && ((decide (((a.at i).replies.at j).reply.n = ((b.at i).replies.at j).reply.n)) && ((decide (((a.at i).replies.at j).reply.text = ((b.at i).replies.at j).reply.text)) && true))) && true)))), (79, .v ((b.at i).replies.at j).val), (78, .v (.pointer (some ((b.at i).replies.ad.add (j * 4))))), (77, vI (j : Int)), (76, .v (b.at i).replies.val), (75, .p 1 4), (74, .v ((a.at i).replies.at j).val), (73, .v (.pointer (some ((a.at i).replies.ad.add (j * 4))))), (72, vI (j : Int)), (71, .v (a.at i).replies.val), (70, .p 0 4), (67, vB true), (8, vI (j : Int)), (7, .p 1 0), (6, .p 0 0), (5, vI (i : Int)), (0, .v a.val), (1, .v b.val)] [(a.at i).replies.A = some (a.at i).replies.ad, (j : Int) = (j : Int), j < (a.at i).replies.n, (b.at i).replies.A = some (b.at i).replies.ad, (j : Int) = (j : Int), j < (b.at i).replies.n, ∀ w, (do eqGuard .neq 101 (.tmp 74) (.tmp 79) ((a.at i).replies.at j).val ((b.at i).replies.at j).val; binOp .neq 101 ((a.at i).replies.at j).val ((b.at i).replies.at j).val : Sem Value).run Try.prog w = .ok (.bool (!((decide (((a.at i).replies.at j).seq = ((b.at i).replies.at j).seq)) && (((decide (((a.at i).replies.at j).reply.code = ((b.at i).replies.at j).reply.code)) && ((decide (((a.at i).replies.at j).reply.n = ((b.at i).replies.at j).reply.n)) && ((decide (((a.at i).replies.at j).reply.text = ((b.at i).replies.at j).reply.text)) && true))) && true)))) w] [((a.at i).replies.ad.add (j * 4), [.int .i64 ((a.at i).replies.at j).seq, .int .i64 ((a.at i).replies.at j).reply.code, .int .i64 ((a.at i).replies.at j).reply.n, .string ((a.at i).replies.at j).reply.text]), ((b.at i).replies.ad.add (j * 4), [.int .i64 ((b.at i).replies.at j).seq, .int .i64 ((b.at i).replies.at j).reply.code, .int .i64 ((b.at i).replies.at j).reply.n, .string ((b.at i).replies.at j).reply.text])] rfl (by kernel_rfl) (oc (Sl.ok.own (s := (a.at i).replies) (i := j) (Sl.ok.at (s := a) (i := i) oka (by omega)) (by omega)) (oc rfl (oc (by omega) (oc (Sl.ok.own (s := (b.at i).replies) (i := j) (Sl.ok.at (s := b) (i := i) okb (by omega)) (by omega)) (oc rfl (oc (by omega) (oc (neq_agg (by kernel_rfl) (by kernel_rfl)) on))))))) (fun w hk hr => ⟨(Sl.rd.all (s := (a.at i).replies) (i := j) (Sl.rd.sub (s := a) (i := i) (Sl.rd.kp ha hk) (by omega)) (by omega) rfl), ⟨(Sl.rd.all (s := (b.at i).replies) (i := j) (Sl.rd.sub (s := b) (i := i) (Sl.rd.kp hb hk) (by omega)) (by omega) rfl), trivial⟩⟩) ?_)))))))
         refine Hn (Ln (Qn ?_))
         cases h9 : (decide (((a.at i).replies.at j).seq = ((b.at i).replies.at j).seq)) && (((decide (((a.at i).replies.at j).reply.code = ((b.at i).replies.at j).reply.code)) && ((decide (((a.at i).replies.at j).reply.n = ((b.at i).replies.at j).reply.n)) && ((decide (((a.at i).replies.at j).reply.text = ((b.at i).replies.at j).reply.text)) && true))) && true) with
         | true =>
          refine Ci false rfl (Ck (q_block_normal (Qn (Cg (Jr 3 [] [8, 7, 6, 5, 0, 1] 2 ⟨[(8, vI ((j : Int) + 1)), (7, .p 1 0), (6, .p 0 0), (5, vI (i : Int)), (0, .v a.val), (1, .v b.val)], [⟨98, (a.at i).cs⟩, ⟨98, (b.at i).cs⟩]⟩ [inR ((j : Int) + 1)] [] (by kernel_rfl) (oc (by unfold inR; omega) on) wn (Ln (Ql (x := (j : Nat)) ((j + 1) : Nat) trivial (by omega) (Ss [8, 7, 6, 5, 0, 1] 2 (by kernel_rfl) rfl))))))))
         | false =>
          exfalso; first | omega | (rw [hbt] at h9; simp at h9)
        | false =>
         have h8 := of_decide_eq_false h8
         refine Ci false rfl (c_exit (Qe (Qe (Qh (q_block_normal (Qn (Cg (Jr 3 [] [5, 0, 1] 0 ⟨[(5, vI ((i : Int) + 1)), (0, .v a.val), (1, .v b.val)], []⟩ [inR ((i : Int) + 1)] [] (by kernel_rfl) (oc (by unfold inR; omega) on) wn (Ln (Ql (x := (i : Nat)) ((i + 1) : Nat) trivial (by omega) (Ss [5, 0, 1] 0 (by kernel_rfl) rfl)))))))))))
       | false =>
        have h7 := of_decide_eq_false h7
        exfalso; first | omega | (rw [hbt] at h7; simp at h7)
      | false =>
       have h6 := of_decide_eq_false h6
       exfalso; first | omega | (rw [hbt] at h6; simp at h6)
     | false =>
      have h5 := of_decide_eq_false h5
      exfalso; first | omega | (rw [hbt] at h5; simp at h5)
    | false =>
     have h4 := of_decide_eq_false h4
     exfalso; first | omega | (rw [hbt] at h4; simp at h4)
   | false =>
    have h3 := of_decide_eq_false h3
    exfalso; first | omega | (rw [hbt] at h3; simp at h3)
  | false =>
   have h2 := of_decide_eq_false h2
   refine Ci false rfl (c_exit (Qe (Qe (Qh (Qn (Cs (Cg (Jq 1 [4] 0 ⟨[(4, vB true)], []⟩ (Ln (Qn (Cr (Rt (.inl rfl) [vB true] rfl (fun bs w hS => ?_)))))))))))))
   exact ⟨rfl, hS.kp⟩
 | false =>
  have h1 := of_decide_eq_false h1
  exfalso; first | omega | (rw [hbt] at h1; simp at h1)

theorem law_kept {B : Nat → Prop} (s : Sl CSession) (w : World) (hs : s.rd B w) (hsm : Rds.small s) : Calls Try.prog 21 #[.slice s.A s.n s.c] w fun e w' => ∃ y : Sl CSession, e = .returned y.val ∧ y.xs.map CSession.abs = s.xs.map CSession.abs ∧ FreshS w w' y := by
 have oks := Sl.rd.ok hs
 have ncs := Sl.ok.nc oks
 have hns : s.n = s.xs.length := rfl
 refine calls_J0 5 Try.func21 rfl rfl [.slice s.A s.n s.c] rfl ?_
 refine Cs (Cg (Jq 1 [0] 0 ⟨[(0, .v s.val)], []⟩ (Ln (Qn (Cs (Cg (Jq 1 [3] 0 ⟨[(3, .v s.val)], []⟩ (Lu (σ := Sl CSession) 58 [] [.v s.val] (fun y1 => .slice y1.A y1.n y1.c) (fun y1 => y1.xs.map CSession.abs = s.xs.map CSession.abs) Try.call58 rfl rfl rfl rfl (fun bs w hS => ref_SessionsCopyS s w (Sl.rd.kp hs hS.kp) hsm) ?_))))))))
 rintro fp1 y1 hF1 hok1
 refine Jq 1 [2] 0 ⟨[(2, .v y1.val)], []⟩ (Ln (Qn (Cr (Rt (.inl rfl) [.v (.slice y1.A y1.n y1.c)] rfl (fun bs w hS => ?_)))))
 exact ⟨y1, rfl, hF1, hS.outS (allR_sub (.head _) (hS.res _ (.head _)))⟩

theorem session_find_1 (x : CSession) (t : Int) (w : World) : Calls Try.prog 101 #[.agg #[.int .i64 x.client, .int .i64 x.id, .int .i64 x.acked, .int .i64 x.last, .slice x.replies.A x.replies.n x.replies.c], .int .i64 t] w fun e w' => e = .returned (.int .i64 (IntKind.i64.wrap (x.client - t))) ∧ Kp [] w w' := by
 refine calls_J0 9 Try.func101 rfl rfl [.agg #[.int .i64 x.client, .int .i64 x.id, .int .i64 x.acked, .int .i64 x.last, .slice x.replies.A x.replies.n x.replies.c], .int .i64 t] rfl ?_
 refine Cs (Cg (Jq 2 [2, 1] 1 ⟨[(2, .p 0 0), (1, vI t)], [⟨98, x.cs⟩]⟩ (Ln (Qn (Cs (Cg (Jr 5 [(3, .val (.int .i64 (IntKind.i64.wrap (x.client - t))))] [4] 0 ⟨[(4, vI (IntKind.i64.wrap (x.client - t)))], []⟩ [∀ w, (do eqGuard .sub 3 (.tmp 6) (.tmp 7) (.int .i64 x.client) (.int .i64 t); binOp .sub 3 (.int .i64 x.client) (.int .i64 t) : Sem Value).run Try.prog w = .ok (.int .i64 (IntKind.i64.wrap (x.client - t))) w] [] (by kernel_rfl) (oc sub_wrap on) wn (Ln (Qn (Cr (Rt (.inl rfl) [vI (IntKind.i64.wrap (x.client - t))] rfl (fun bs w hS => ?_))))))))))))
 exact ⟨rfl, hS.kp⟩

theorem bs_session_find_1 {B : Nat → Prop} (s : Sl CSession) (t : Int) (w : World) (hs : s.rd B w) (hn : s.n ≤ 1048576) : Calls Try.prog 100 #[.slice s.A s.n s.c, .int .i64 t, .func (.func 101) #[] #[]] w fun e w' => e = .returned (.tuple #[.int .i64 (mBS (fun x : CSession => IntKind.i64.wrap (x.client - t)) s.xs : Nat), .bool (mBSf (fun x : CSession => IntKind.i64.wrap (x.client - t)) s.xs)]) ∧ Kp [] w w' := by
 have oks := Sl.rd.ok hs
 have ncs := Sl.ok.nc oks
 have hns : s.n = s.xs.length := rfl
 refine Cj 49 [] Try.func100 rfl rfl [] [] [] [.v s.val, vI t, .fn 101 []] [.slice s.A s.n s.c, .int .i64 t, .func (.func 101) #[] #[]] rfl rfl (WS.start w) ?_
 refine Cs (Cg (Jq 2 [0, 1, 2] 0 ⟨[(0, .v s.val), (1, vI t), (2, .fn 101 [])], []⟩ (Ln (Qn (Cs (Cg (Jq 3 [8, 0, 1, 2] 0 ⟨[(8, vI (s.n : Int)), (0, .v s.val), (1, vI t), (2, .fn 101 [])], []⟩ (Ln (Qn (Cs (Cg (Jq 3 [10, 9, 8, 0, 1, 2] 0 ⟨[(10, vI (s.n : Int)), (9, vI 0), (8, vI (s.n : Int)), (0, .v s.val), (1, vI t), (2, .fn 101 [])], []⟩ (Ln (Qn (Cs (Cb (Cl (σ := Nat × Nat × Nat) (fun ⟨i, j, f⟩ => i ≤ j ∧ j ≤ s.n ∧ j - i ≤ f ∧ mBS (fun x : CSession => IntKind.i64.wrap (x.client - t)) s.xs = bsGo (fun j => decide (IntKind.i64.wrap ((s.at j).client - t) < 0)) f i j) (fun ⟨i, j, f⟩ => f) (fun ⟨i, j, f⟩ => []) (fun ⟨i, j, f⟩ => ⟨[(10, vI (j : Int)), (9, vI (i : Int)), (8, vI (s.n : Int)), (0, .v s.val), (1, vI t), (2, .fn 101 [])], []⟩) ⟨0, s.n, s.n⟩ ⟨Nat.zero_le _, Nat.le_refl _, Nat.le_refl _, rfl⟩ (Ss [10, 9, 8, 0, 1, 2] 0 (by kernel_rfl) rfl) ?_)))))))))))))))))
 rintro ⟨i, j, f⟩ ⟨h1, h2, h3, hI⟩
 have hdiv : ((i : Int) + (j : Int)) / 2 = (((i + j) / 2 : Nat) : Int) := by omega
 refine Cs (Cs (Cg (Jq 3 [17, 10, 9, 8, 0, 1, 2] 0 ⟨[(17, vB (decide ((i : Int) < (j : Int)))), (10, vI (j : Int)), (9, vI (i : Int)), (8, vI (s.n : Int)), (0, .v s.val), (1, vI t), (2, .fn 101 [])], []⟩ (Ln (Qn ?_)))))
 cases h1 : decide ((i : Int) < (j : Int)) with
 | true =>
  have h1 := of_decide_eq_true h1
  refine Ci true rfl (Ck (Qn (Cb (Cs (Cg (Jr 7 [(3, .val (.int .u64 ((i : Int) + (j : Int)))), (4, .val (.int .u64 (((i : Int) + (j : Int)) / 2))), (5, .val (.int .i64 (((i : Int) + (j : Int)) / 2)))] [11, 10, 9, 8, 0, 1, 2] 0 ⟨[(11, vI (((i : Int) + (j : Int)) / 2)), (10, vI (j : Int)), (9, vI (i : Int)), (8, vI (s.n : Int)), (0, .v s.val), (1, vI t), (2, .fn 101 [])], []⟩ [inR ((i : Int) + (j : Int)), ∀ w, (convert 3 131 (.int .i64 ((i : Int) + (j : Int))) : Sem Value).run Try.prog w = .ok (.int .u64 ((i : Int) + (j : Int))) w, ∀ w, (do eqGuard .shr 131 (.tmp 21) (.const (.int .u64 1)) (.int .u64 ((i : Int) + (j : Int))) (.int .u64 1); binOp .shr 131 (.int .u64 ((i : Int) + (j : Int))) (.int .u64 1) : Sem Value).run Try.prog w = .ok (.int .u64 (((i : Int) + (j : Int)) / 2)) w, ∀ w, (convert 131 3 (.int .u64 (((i : Int) + (j : Int)) / 2)) : Sem Value).run Try.prog w = .ok (.int .i64 (((i : Int) + (j : Int)) / 2)) w] [] (by kernel_rfl) (oc (by unfold inR; omega) (oc (conv_i64_u64 Try.underlying3 Try.underlying131 (by omega) (by omega)) (oc shr_u64 (oc (conv_u64_i64 Try.underlying131 Try.underlying3 (by omega) (by omega)) on)))) wn (Ln (Qn (Cs (Cg (Jr 6 [(3, .idx s.ad (((i : Int) + (j : Int)) / 2).toNat), (4, .ext [.int .i64 (s.at (((i : Int) + (j : Int)) / 2).toNat).client, .int .i64 (s.at (((i : Int) + (j : Int)) / 2).toNat).id, .int .i64 (s.at (((i : Int) + (j : Int)) / 2).toNat).acked, .int .i64 (s.at (((i : Int) + (j : Int)) / 2).toNat).last, .slice (s.at (((i : Int) + (j : Int)) / 2).toNat).replies.A (s.at (((i : Int) + (j : Int)) / 2).toNat).replies.n (s.at (((i : Int) + (j : Int)) / 2).toNat).replies.c])] [29, 28, 24, 11, 10, 9, 8, 0, 1, 2] 0 ⟨[(29, vI t), (28, .v (.agg #[.int .i64 (s.at (((i : Int) + (j : Int)) / 2).toNat).client, .int .i64 (s.at (((i : Int) + (j : Int)) / 2).toNat).id, .int .i64 (s.at (((i : Int) + (j : Int)) / 2).toNat).acked, .int .i64 (s.at (((i : Int) + (j : Int)) / 2).toNat).last, .slice (s.at (((i : Int) + (j : Int)) / 2).toNat).replies.A (s.at (((i : Int) + (j : Int)) / 2).toNat).replies.n (s.at (((i : Int) + (j : Int)) / 2).toNat).replies.c])), (24, .fn 101 []), (11, vI (((i : Int) + (j : Int)) / 2)), (10, vI (j : Int)), (9, vI (i : Int)), (8, vI (s.n : Int)), (0, .v s.val), (1, vI t), (2, .fn 101 [])], []⟩ [s.A = some s.ad, ((i : Int) + (j : Int)) / 2 = (((((i : Int) + (j : Int)) / 2).toNat : Nat) : Int), (((i : Int) + (j : Int)) / 2).toNat < s.n] [(s.ad.add ((((i : Int) + (j : Int)) / 2).toNat * 5), [.int .i64 (s.at (((i : Int) + (j : Int)) / 2).toNat).client, .int .i64 (s.at (((i : Int) + (j : Int)) / 2).toNat).id, .int .i64 (s.at (((i : Int) + (j : Int)) / 2).toNat).acked, .int .i64 (s.at (((i : Int) + (j : Int)) / 2).toNat).last, .slice (s.at (((i : Int) + (j : Int)) / 2).toNat).replies.A (s.at (((i : Int) + (j : Int)) / 2).toNat).replies.n (s.at (((i : Int) + (j : Int)) / 2).toNat).replies.c])] (by kernel_rfl) (oc (Sl.ok.own (s := s) (i := (((i : Int) + (j : Int)) / 2).toNat) oks (by omega)) (oc (by omega) (oc (by omega) on))) (fun w hk hr => ⟨(Sl.rd.all (s := s) (i := (((i : Int) + (j : Int)) / 2).toNat) (Sl.rd.kp hs hk) (by omega) rfl), trivial⟩) ?_)))))))))))
  refine Lp 101 [] [.v (.agg #[.int .i64 (s.at (((i : Int) + (j : Int)) / 2).toNat).client, .int .i64 (s.at (((i : Int) + (j : Int)) / 2).toNat).id, .int .i64 (s.at (((i : Int) + (j : Int)) / 2).toNat).acked, .int .i64 (s.at (((i : Int) + (j : Int)) / 2).toNat).last, .slice (s.at (((i : Int) + (j : Int)) / 2).toNat).replies.A (s.at (((i : Int) + (j : Int)) / 2).toNat).replies.n (s.at (((i : Int) + (j : Int)) / 2).toNat).replies.c]), vI t] (.int .i64 (IntKind.i64.wrap ((s.at (((i : Int) + (j : Int)) / 2).toNat).client - t))) Try.call101 rfl rfl rfl rfl (fun bs w hS => session_find_1 (s.at (((i : Int) + (j : Int)) / 2).toNat) t w) ?_
  refine Jq 1 [31, 11, 10, 9, 8, 0, 1, 2] 0 ⟨[(31, vB (decide (IntKind.i64.wrap ((s.at (((i : Int) + (j : Int)) / 2).toNat).client - t) < 0))), (11, vI (((i : Int) + (j : Int)) / 2)), (10, vI (j : Int)), (9, vI (i : Int)), (8, vI (s.n : Int)), (0, .v s.val), (1, vI t), (2, .fn 101 [])], []⟩ (Ln (Qn ?_))
  cases h2 : decide (IntKind.i64.wrap ((s.at (((i : Int) + (j : Int)) / 2).toNat).client - t) < 0) with
  | true =>
   have h2 := of_decide_eq_true h2
   refine Ci true rfl (Cg (Jr 3 [] [9, 10, 8, 0, 1, 2] 0 ⟨[(9, vI ((((i : Int) + (j : Int)) / 2) + 1)), (10, vI (j : Int)), (8, vI (s.n : Int)), (0, .v s.val), (1, vI t), (2, .fn 101 [])], []⟩ [inR ((((i : Int) + (j : Int)) / 2) + 1)] [] (by kernel_rfl) (oc (by unfold inR; omega) on) wn ?_))
   have hf1 : f = (f - 1) + 1 := by omega
   rw [hf1] at hI
   have hI2 := hI.trans (bsGo_up (by omega) (decide_eq_true (by assumption)))
   refine Ln (q_block_normal (Ql (x := (⟨i, j, f⟩ : Nat × Nat × Nat)) (⟨(i + j) / 2 + 1, j, f - 1⟩ : Nat × Nat × Nat) ⟨by omega, by omega, by omega, hI2⟩ (by show f - 1 < f; omega) (Ss [10, 9, 8, 0, 1, 2] 0 (by kernel_rfl) rfl)))
  | false =>
   have h2 := of_decide_eq_false h2
   refine Ci false rfl (Cg (Jq 2 [10, 9, 8, 0, 1, 2] 0 ⟨[(10, vI (((i : Int) + (j : Int)) / 2)), (9, vI (i : Int)), (8, vI (s.n : Int)), (0, .v s.val), (1, vI t), (2, .fn 101 [])], []⟩ ?_))
   have hf1 : f = (f - 1) + 1 := by omega
   rw [hf1] at hI
   have hI2 := hI.trans (bsGo_down (by omega) (decide_eq_false (by assumption)))
   refine Ln (q_block_normal (Ql (x := (⟨i, j, f⟩ : Nat × Nat × Nat)) (⟨i, (i + j) / 2, f - 1⟩ : Nat × Nat × Nat) ⟨by omega, by omega, by omega, hI2⟩ (by show f - 1 < f; omega) (Ss [10, 9, 8, 0, 1, 2] 0 (by kernel_rfl) rfl)))
 | false =>
  have h1 := of_decide_eq_false h1
  refine Ci false rfl (c_exit (Qe (Qe (Qh (Qn (Cs (Cg (Jq 5 [39, 35, 9, 0, 1, 2] 0 ⟨[(39, vB (decide ((i : Int) < (s.n : Int)))), (35, vI (i : Int)), (9, vI (i : Int)), (0, .v s.val), (1, vI t), (2, .fn 101 [])], []⟩ ?_))))))))
  cases h3 : decide ((i : Int) < (s.n : Int)) with
  | true =>
   have h3 := of_decide_eq_true h3
   refine Jr 6 [(3, .idx s.ad i), (4, .ext [.int .i64 (s.at i).client, .int .i64 (s.at i).id, .int .i64 (s.at i).acked, .int .i64 (s.at i).last, .slice (s.at i).replies.A (s.at i).replies.n (s.at i).replies.c])] [45, 44, 40, 39, 35] 0 ⟨[(45, vI t), (44, .v (s.at i).val), (40, .fn 101 []), (39, vB true), (35, vI (i : Int))], []⟩ [s.A = some s.ad, (i : Int) = (i : Int), i < s.n] [(s.ad.add (i * 5), [.int .i64 (s.at i).client, .int .i64 (s.at i).id, .int .i64 (s.at i).acked, .int .i64 (s.at i).last, .slice (s.at i).replies.A (s.at i).replies.n (s.at i).replies.c])] (by kernel_rfl) (oc (Sl.ok.own (s := s) (i := i) oks (by omega)) (oc rfl (oc (by omega) on))) (fun w hk hr => ⟨(Sl.rd.all (s := s) (i := i) (Sl.rd.kp hs hk) (by omega) rfl), trivial⟩) ?_
   refine Lp 101 [] [.v (s.at i).val, vI t] (.int .i64 (IntKind.i64.wrap ((s.at i).client - t))) Try.call101 rfl rfl rfl rfl (fun bs w hS => session_find_1 (s.at i) t w) ?_
   refine Jq 4 [7, 6] 0 ⟨[(7, vB (decide (IntKind.i64.wrap ((s.at i).client - t) = 0))), (6, vI (i : Int))], []⟩ (Ln (Qn (Cr (Rt (.inl rfl) [vI (i : Int), vB (decide (IntKind.i64.wrap ((s.at i).client - t) = 0))] rfl (fun bs w hS => ?_)))))
   have hij : i = j := by omega
   subst hij
   have hr : mBS (fun x : CSession => IntKind.i64.wrap (x.client - t)) s.xs = i := by rw [hI]; exact bsGo_end _ _ _ _ (Nat.le_refl _)
   refine ⟨?_, hS.kp⟩
   have hr2 : mBSf (fun x : CSession => IntKind.i64.wrap (x.client - t)) s.xs = (decide (IntKind.i64.wrap ((s.at i).client - t) = 0)) := by
    unfold mBSf; rw [hr]
    rw [decide_eq_true (show i < s.xs.length by omega)]; rfl
   rw [hr, hr2]
   rfl
  | false =>
   have h3 := of_decide_eq_false h3
   refine Jq 11 [7, 6] 0 ⟨[(7, vB false), (6, vI (i : Int))], []⟩ (Ln (Qn (Cr (Rt (.inl rfl) [vI (i : Int), vB false] rfl (fun bs w hS => ?_)))))
   have hij : i = j := by omega
   subst hij
   have hr : mBS (fun x : CSession => IntKind.i64.wrap (x.client - t)) s.xs = i := by rw [hI]; exact bsGo_end _ _ _ _ (Nat.le_refl _)
   refine ⟨?_, hS.kp⟩
   have hr2 : mBSf (fun x : CSession => IntKind.i64.wrap (x.client - t)) s.xs = false := by
    unfold mBSf; rw [hr]
    rw [decide_eq_false (show ¬ i < s.xs.length by omega)]; rfl
   rw [hr, hr2]
   rfl

theorem session_find {B : Nat → Prop} (s : Sl CSession) (t : Int) (w : World) (hs : s.rd B w) (hn : s.n ≤ 1048576) : Calls Try.prog 61 #[.slice s.A s.n s.c, .int .i64 t] w fun e w' => e = .returned (.tuple #[.int .i64 (mBS (fun x : CSession => IntKind.i64.wrap (x.client - t)) s.xs : Nat), .bool (mBSf (fun x : CSession => IntKind.i64.wrap (x.client - t)) s.xs)]) ∧ Kp [] w w' := by
 have oks := Sl.rd.ok hs
 have ncs := Sl.ok.nc oks
 have hns : s.n = s.xs.length := rfl
 refine calls_J0 11 Try.func61 rfl rfl [.slice s.A s.n s.c, .int .i64 t] rfl ?_
 refine Cs (Cg (Jq 2 [0, 1] 0 ⟨[(0, .v s.val), (1, vI t)], []⟩ (Ln (Qn (Cs (Cg (Jq 2 [7, 6] 0 ⟨[(7, vI t), (6, .v s.val)], []⟩ (Lp 100 [] [.v s.val, vI t, .fn 101 []] (.tuple #[.int .i64 ((mBS (fun x : CSession => IntKind.i64.wrap (x.client - t)) s.xs : Nat) : Int), .bool (mBSf (fun x : CSession => IntKind.i64.wrap (x.client - t)) s.xs)]) Try.call100 rfl rfl rfl rfl (fun bs w hS => bs_session_find_1 s t w (Sl.rd.kp hs hS.kp) (by omega)) (Jq 4 [5, 4] 0 ⟨[(5, vB (mBSf (fun x : CSession => IntKind.i64.wrap (x.client - t)) s.xs)), (4, vI ((mBS (fun x : CSession => IntKind.i64.wrap (x.client - t)) s.xs : Nat) : Int))], []⟩ (Ln (Qn (Cr (Rt (.inl rfl) [vI ((mBS (fun x : CSession => IntKind.i64.wrap (x.client - t)) s.xs : Nat) : Int), vB (mBSf (fun x : CSession => IntKind.i64.wrap (x.client - t)) s.xs)] rfl (fun bs w hS => ?_))))))))))))))
 exact ⟨rfl, hS.kp⟩

theorem tackroomref_sessionAt {B : Nat → Prop} (s : Sl CSession) (t : Int) (w : World) (hs : s.rd B w) : Calls Try.prog 64 #[.slice s.A s.n s.c, .int .i64 t] w fun e w' => e = .returned (.int .i64 (mIdx (fun x : CSession => decide (x.client = t)) s.xs)) ∧ Kp [] w w' := by
 have oks := Sl.rd.ok hs
 have ncs := Sl.ok.nc oks
 have hns : s.n = s.xs.length := rfl
 refine calls_J0 20 Try.func64 rfl rfl [.slice s.A s.n s.c, .int .i64 t] rfl ?_
 refine Cs (Cg (Jq 1 [0, 1] 0 ⟨[(0, .v s.val), (1, vI t)], []⟩ (Ln (Qn (Cs (Cs (Cg (Jq 1 [5, 0, 1] 0 ⟨[(5, vI 0), (0, .v s.val), (1, vI t)], []⟩ (Ln (Qn (Cb (Cl (σ := Nat) (fun i => i ≤ s.n ∧ ∀ j, j < i → decide ((s.at j).client = t) = false) (fun i => s.n - i) (fun i => []) (fun i => ⟨[(5, vI (i : Int)), (0, .v s.val), (1, vI t)], []⟩) 0 ⟨Nat.zero_le _, fun j hj => absurd hj (Nat.not_lt_zero _)⟩ (Ss [5, 0, 1] 0 (by kernel_rfl) rfl) ?_))))))))))))
 rintro i ⟨hi, hI⟩
 refine Cs (Cs (Cg (Jq 4 [9, 5, 0, 1] 0 ⟨[(9, vB (decide ((i : Int) < (s.n : Int)))), (5, vI (i : Int)), (0, .v s.val), (1, vI t)], []⟩ (Ln (Qn ?_)))))
 cases h1 : decide ((i : Int) < (s.n : Int)) with
 | true =>
  have h1 := of_decide_eq_true h1
  refine Ci true rfl (Ck (Qn (Cs (Cb (Cs (Cg (Jr 7 [(2, .idx s.ad i), (4, .ext [.int .i64 (s.at i).client])] [18, 5, 0, 1] 0 ⟨[(18, vB (decide ((s.at i).client = t))), (5, vI (i : Int)), (0, .v s.val), (1, vI t)], []⟩ [s.A = some s.ad, (i : Int) = (i : Int), i < s.n] [((s.ad.add (i * 5)).add 0, [.int .i64 (s.at i).client])] (by kernel_rfl) (oc (Sl.ok.own (s := s) (i := i) oks (by omega)) (oc rfl (oc (by omega) on))) (fun w hk hr => ⟨(Sl.rd.fld (s := s) (i := i) (Sl.rd.kp hs hk) (by omega) 0 1 rfl), trivial⟩) (Ln (Qn ?_)))))))))
  cases h2 : decide ((s.at i).client = t) with
  | true =>
   have h2 := of_decide_eq_true h2
   refine Ci true rfl (Cs (Cg (Jq 2 [4] 0 ⟨[(4, vI (i : Int))], []⟩ (Ln (Qn (Cr (Qb (Qr (Qr (Qb (Qr (Rt (.inl rfl) [vI (i : Int)] rfl (fun bs w hS => (⟨?_, hS.kp⟩))))))))))))))
   rw [mIdx_here (p := (fun x : CSession => decide (x.client = t))) (i := i) (by omega) (decide_eq_true (by assumption)) hI]
   rfl
  | false =>
   have h2 := of_decide_eq_false h2
   refine Ci false rfl (Ck (q_block_normal (Qn (Cg (Jr 3 [] [5, 0, 1] 0 ⟨[(5, vI ((i : Int) + 1)), (0, .v s.val), (1, vI t)], []⟩ [inR ((i : Int) + 1)] [] (by kernel_rfl) (oc (by unfold inR; omega) on) wn (Ln (Ql (x := (i : Nat)) ((i + 1) : Nat) ⟨by omega, fun j hj => by rcases Nat.lt_succ_iff_lt_or_eq.1 hj with h | h; exact hI j h; subst h; exact decide_eq_false (by assumption)⟩ (by omega) (Ss [5, 0, 1] 0 (by kernel_rfl) rfl))))))))
 | false =>
  have h1 := of_decide_eq_false h1
  refine Ci false rfl (c_exit (Qe (Qe (Qh (Qn (Cs (Cg (Jq 1 [4] 0 ⟨[(4, vI (-1))], []⟩ (Ln (Qn (Cr (Rt (.inl rfl) [vI (-1)] rfl (fun bs w hS => (⟨?_, hS.kp⟩))))))))))))))
  rw [mIdx_none (p := (fun x : CSession => decide (x.client = t))) fun j hj => hI j (by omega)]
  rfl

theorem idxF_Kept {B : Nat → Prop} (s : Sl (Fl DKept)) (p : Fl DKept → Bool) (kf : Nat) (caps : Array Value) (w : World) (hs : s.rd B w) (hcall : ∀ args w, (callFunc kf args).run Try.prog w = .ok (.enter kf args) w)
  (hf : ∀ (w' : World) (x : (Fl DKept)), x ∈ s.xs → Kp [] w w' → Calls Try.prog kf (#[.agg #[.int .i64 x.v.seq, .int .i64 x.v.reply.code, .int .i64 x.v.reply.n, .string x.v.reply.text]] ++ caps) w' fun e w'' => e = .returned (.bool (p x)) ∧ Kp [] w' w'') : Calls Try.prog 88 #[.slice s.A s.n s.c, .func (.func kf) #[] caps] w fun e w' => e = .returned (.int .i64 (mIdx p s.xs)) ∧ Kp [] w w' := by
 have oks := Sl.rd.ok hs
 have ncs := Sl.ok.nc oks
 have hns : s.n = s.xs.length := rfl
 refine calls_J0 19 Try.func88 rfl rfl [.slice s.A s.n s.c, .func (.func kf) #[] caps] rfl ?_
 refine Cs (Cg (Jq 1 [0, 1] 0 ⟨[(0, .v s.val), (1, .v (.func (.func kf) #[] caps))], []⟩ (Ln (Qn (Cs (Cs (Cg (Jq 3 [8, 7, 0, 1] 0 ⟨[(8, vI 0), (7, vI (s.n : Int)), (0, .v s.val), (1, .v (.func (.func kf) #[] caps))], []⟩ (Ln (Qn (Cb (Cl (σ := Nat) (fun i => i ≤ s.n ∧ ∀ j, j < i → p (s.at j) = false) (fun i => s.n - i) (fun i => []) (fun i => ⟨[(8, vI (i : Int)), (7, vI (s.n : Int)), (0, .v s.val), (1, .v (.func (.func kf) #[] caps))], []⟩) 0 ⟨Nat.zero_le _, fun j hj => absurd hj (Nat.not_lt_zero _)⟩ (Ss [8, 7, 0, 1] 0 (by kernel_rfl) rfl) ?_))))))))))))
 rintro i ⟨hi, hI⟩
 refine Cs (Cg (Jq 1 [9, 8, 7, 0, 1] 0 ⟨[(9, vB (decide ((i : Int) < (s.n : Int)))), (8, vI (i : Int)), (7, vI (s.n : Int)), (0, .v s.val), (1, .v (.func (.func kf) #[] caps))], []⟩ (Ln (Qn (Cs ?_)))))
 cases h1 : decide ((i : Int) < (s.n : Int)) with
 | true =>
  have h1 := of_decide_eq_true h1
  refine Ci true rfl (Ck (Qn (Cs (Cb (Cs (Cg (Jq 2 [5, 8, 7, 0, 1] 0 ⟨[(5, vI (i : Int)), (8, vI (i : Int)), (7, vI (s.n : Int)), (0, .v s.val), (1, .v (.func (.func kf) #[] caps))], []⟩ (Ln (Qn (Cs (Cg (Jr 5 [(3, .idx s.ad i), (4, .ext [.int .i64 (s.at i).v.seq, .int .i64 (s.at i).v.reply.code, .int .i64 (s.at i).v.reply.n, .string (s.at i).v.reply.text])] [15, 11, 5, 8, 7, 0, 1] 0 ⟨[(15, .v (s.at i).v.val), (11, .v (.func (.func kf) #[] caps)), (5, vI (i : Int)), (8, vI (i : Int)), (7, vI (s.n : Int)), (0, .v s.val), (1, .v (.func (.func kf) #[] caps))], []⟩ [s.A = some s.ad, (i : Int) = (i : Int), i < s.n] [(s.ad.add (i * 4), [.int .i64 (s.at i).v.seq, .int .i64 (s.at i).v.reply.code, .int .i64 (s.at i).v.reply.n, .string (s.at i).v.reply.text])] (by kernel_rfl) (oc (Sl.ok.own (s := s) (i := i) oks (by omega)) (oc rfl (oc (by omega) on))) (fun w hk hr => ⟨(Sl.rd.all (s := s) (i := i) (Sl.rd.kp hs hk) (by omega) rfl), trivial⟩) (l_pureV kf caps [.v (s.at i).v.val] (.bool (p (s.at i))) hcall rfl rfl rfl rfl (fun bs w hS => hf w (s.at i) (List.mem_of_getElem? (Sl.at_some (show i < s.n by omega))) hS.kp) (Ln (Qn ?_)))))))))))))))
  cases h2 : p (s.at i) with
  | true =>
   refine Ci true rfl (Cs (Cg (Jq 2 [4] 0 ⟨[(4, vI (i : Int))], []⟩ (Ln (Qn (Cr (Qb (Qr (Qr (Qb (Qr (Rt (.inl rfl) [vI (i : Int)] rfl (fun bs w hS => (⟨?_, hS.kp⟩))))))))))))))
   rw [mIdx_here (i := i) (by omega) (by assumption) hI]
   rfl
  | false =>
   refine Ci false rfl (Ck (q_block_normal (Qn (Cg (Jr 2 [] [8, 7, 0, 1] 0 ⟨[(8, vI ((i : Int) + 1)), (7, vI (s.n : Int)), (0, .v s.val), (1, .v (.func (.func kf) #[] caps))], []⟩ [inR ((i : Int) + 1)] [] (by kernel_rfl) (oc (by unfold inR; omega) on) wn (Ln (Ql (x := (i : Nat)) ((i + 1) : Nat) ⟨by omega, fun j hj => by rcases Nat.lt_succ_iff_lt_or_eq.1 hj with h | h; exact hI j h; subst h; assumption⟩ (by omega) (Ss [8, 7, 0, 1] 0 (by kernel_rfl) rfl))))))))
 | false =>
  have h1 := of_decide_eq_false h1
  refine Ci false rfl (c_exit (Qe (Qe (Qh (Qn (Cs (Cg (Jq 1 [4] 0 ⟨[(4, vI (-1))], []⟩ (Ln (Qn (Cr (Rt (.inl rfl) [vI (-1)] rfl (fun bs w hS => (⟨?_, hS.kp⟩))))))))))))))
  rw [mIdx_none fun j hj => hI j (by omega)]
  rfl
theorem idx_Kept {B : Nat → Prop} (s : Sl DKept) (p : DKept → Bool) (kf : Nat) (caps : Array Value) (w : World) (hs : s.rd B w) (hcall : ∀ args w, (callFunc kf args).run Try.prog w = .ok (.enter kf args) w)
  (hf : ∀ (w' : World) (x : DKept), x ∈ s.xs → Kp [] w w' → Calls Try.prog kf (#[.agg #[.int .i64 x.seq, .int .i64 x.reply.code, .int .i64 x.reply.n, .string x.reply.text]] ++ caps) w' fun e w'' => e = .returned (.bool (p x)) ∧ Kp [] w' w'') : Calls Try.prog 88 #[.slice s.A s.n s.c, .func (.func kf) #[] caps] w fun e w' => e = .returned (.int .i64 (mIdx p s.xs)) ∧ Kp [] w w' := by
 have h := idxF_Kept (⟨s.A, s.c, fls s.xs⟩ : Sl (Fl DKept)) (fun x => p x.v) kf caps w hs.fl hcall (fun w' x hx hk => hf w' x.v (by obtain ⟨y, hy, rfl⟩ := List.mem_map.1 hx; exact hy) hk)
 simp only [mIdx_fl, Sl.n, List.length_map] at h
 exact h

theorem delF_Kept (A : Option Addr) (c : Nat) (L : List (Fl DKept)) (p : Fl DKept → Bool) (kf : Nat) (caps : Array Value) (w : World) (hrow : (rowA 101 A c L).p w) (hlt : ∀ b, b ∈ (rowA 101 A c L).fp → b < w.heap.size) (hn : L.length ≤ 1048576) (hcall : ∀ args w, (callFunc kf args).run Try.prog w = .ok (.enter kf args) w)
  (hf : ∀ (w' : World) (x : (Fl DKept)), x ∈ L → Kp (rowA 101 A c L).fp w w' → Calls Try.prog kf (#[.agg #[.int .i64 x.v.seq, .int .i64 x.v.reply.code, .int .i64 x.v.reply.n, .string x.v.reply.text]] ++ caps) w' fun e w'' => e = .returned (.bool (p x)) ∧ Kp [] w' w'') :
  Calls Try.prog 86 #[.slice A L.length c, .func (.func kf) #[] caps] w fun e w' => e = .returned (.slice A (L.filter fun x => !p x).length c) ∧ Turned (rowA 101 A c L) w w' (rowA 101 A c (L.filter fun x => !p x)) := by
 have hrok := rowA_rok hrow
 have nc := hrok.2
 refine Cj 42 (rowA 101 A c L).fp Try.func86 rfl rfl [] [] [rowA 101 A c L] [.v (.slice A L.length c), .v (.func (.func kf) #[] caps)] [.slice A L.length c, .func (.func kf) #[] caps] rfl rfl (WS.start1 w _ hrow (by cases A <;> simp [rowA, rowR]) hlt) ?_
 refine Cs (Cg (Jq 1 [0, 1] 0 ⟨[(0, .v (.slice A L.length c)), (1, .v (.func (.func kf) #[] caps))], []⟩ (Ln (Qn (Cs (Cg (Jq 2 [9, 8, 0, 1] 0 ⟨[(9, .v (.func (.func kf) #[] caps)), (8, .v (.slice A L.length c)), (0, .v (.slice A L.length c)), (1, .v (.func (.func kf) #[] caps))], []⟩ (Lp 88 [] [.v (.slice A L.length c), .v (.func (.func kf) #[] caps)] (.int .i64 (mIdx p L)) Try.call88 rfl rfl rfl rfl (fun bs w hS => idxF_Kept (⟨A, c, L⟩ : Sl (Fl DKept)) p kf caps w (Rr (B := anyB) (hS.res _ (.head _)) (fun _ _ => trivial) (fun _ _ => trivial)) hcall (fun w' x hx hk => hf w' x hx (hS.kp.step hk (fun i hi => by cases hi)))) (Jq 1 [5, 0, 1] 0 ⟨[(5, vI (mIdx p L)), (0, .v (.slice A L.length c)), (1, .v (.func (.func kf) #[] caps))], []⟩ (Ln (Qn (Cs (Cs (Cg (Jq 2 [12, 5, 0, 1] 0 ⟨[(12, vB (decide (mIdx p L = (-1)))), (5, vI (mIdx p L)), (0, .v (.slice A L.length c)), (1, .v (.func (.func kf) #[] caps))], []⟩ (Ln (Qn ?_)))))))))))))))))
 cases h1 : decide (mIdx p L = (-1)) with
 | true =>
  have h1 := of_decide_eq_true h1
  refine Ci true rfl (Cs (Cg (Jq 2 [4] 0 ⟨[(4, .v (.slice A L.length c))], []⟩ (Ln (Qn (Cr (Qr (Rt (.inl rfl) [.v (.slice A L.length c)] rfl (fun bs w hS => ?_)))))))))
  have hid : L.filter (fun x => !p x) = L := delF_none (by assumption)
  rw [hid]
  exact ⟨rfl, hS.turned⟩
 | false =>
  have h1 := of_decide_eq_false h1
  obtain ⟨i0, hi1, hi2, hi3, hi4⟩ := delF_some (p := p) h1
  refine Ci false rfl (Ck (Qn (Cs (Cs (Cg (Jr 3 [] [6, 5, 0, 1] 0 ⟨[(6, vI ((mIdx p L) + 1)), (5, vI (mIdx p L)), (0, .v (.slice A L.length c)), (1, .v (.func (.func kf) #[] caps))], []⟩ [inR ((mIdx p L) + 1)] [] (by kernel_rfl) (oc (by unfold inR; omega) on) wn (Ln (Qn (Cb (Cl (σ := Nat × Nat × List (Fl DKept)) (fun ⟨i, j, M⟩ => i < j ∧ j ≤ L.length ∧ M.length = L.length ∧ M.take i = (L.take j).filter (fun x => !p x) ∧ M.drop j = L.drop j) (fun ⟨i, j, M⟩ => L.length - j) (fun ⟨i, j, M⟩ => [rowA 101 A c (M : List (Fl DKept))]) (fun ⟨i, j, M⟩ => ⟨[(6, vI (j : Int)), (5, vI (i : Int)), (0, .v (.slice A L.length c)), (1, .v (.func (.func kf) #[] caps))], []⟩) ⟨i0, i0 + 1, L⟩ ⟨by omega, by omega, rfl, delF_start hi1 hi2 hi3, rfl⟩ (Ss [6, 5, 0, 1] 0 (by rw [hi4]; kernel_rfl) rfl) ?_))))))))))
  rintro ⟨i, j, M⟩ ⟨h1, h2, hM, hT, hD⟩
  refine Cs (Cs (Cg (Jq 4 [19, 6, 5, 0, 1] 0 ⟨[(19, vB (decide ((j : Int) < (L.length : Int)))), (6, vI (j : Int)), (5, vI (i : Int)), (0, .v (.slice A L.length c)), (1, .v (.func (.func kf) #[] caps))], []⟩ (Ln (Qn ?_)))))
  cases h2 : decide ((j : Int) < (L.length : Int)) with
  | true =>
   have h2 := of_decide_eq_true h2
   refine Ci true rfl (Ck (Qn (Cs (Cb (Cs (Cg (Jr 6 [(2, .idx (oad A) j), (3, .ext [.int .i64 (M.getD j default).v.seq, .int .i64 (M.getD j default).v.reply.code, .int .i64 (M.getD j default).v.reply.n, .string (M.getD j default).v.reply.text])] [7, 6, 5, 0, 1] 1 ⟨[(7, .p 0 0), (6, vI (j : Int)), (5, vI (i : Int)), (0, .v (.slice A L.length c)), (1, .v (.func (.func kf) #[] caps))], [⟨101, (M.getD j default).v.cs⟩]⟩ [A = some (oad A), (j : Int) = (j : Int), j < L.length] [((oad A).add (j * 4), [.int .i64 (M.getD j default).v.seq, .int .i64 (M.getD j default).v.reply.code, .int .i64 (M.getD j default).v.reply.n, .string (M.getD j default).v.reply.text])] (by kernel_rfl) (oc (hrok.1 j (by omega)) (oc rfl (oc (by omega) on))) (fun w hk hr => ⟨(rowA_all (i := j) (hr _ (.head _)) (by omega) rfl), trivial⟩) (Ln (Qn (Cs (Cg (Jq 2 [27, 26, 7, 6, 5, 0, 1] 1 ⟨[(27, .v (M.getD j default).v.val), (26, .v (.func (.func kf) #[] caps)), (7, .p 0 0), (6, vI (j : Int)), (5, vI (i : Int)), (0, .v (.slice A L.length c)), (1, .v (.func (.func kf) #[] caps))], [⟨101, (M.getD j default).v.cs⟩]⟩ (l_pureV kf caps [.v (M.getD j default).v.val] (.bool (p (M.getD j default))) hcall rfl rfl rfl rfl (fun bs w hS => hf w (M.getD j default) (by rw [getD_drop hD (by omega)]; exact mem_of_getD (by omega)) hS.kp) (Jq 1 [29, 7, 6, 5, 0, 1] 1 ⟨[(29, vB (!(p (M.getD j default)))), (7, .p 0 0), (6, vI (j : Int)), (5, vI (i : Int)), (0, .v (.slice A L.length c)), (1, .v (.func (.func kf) #[] caps))], [⟨101, (M.getD j default).v.cs⟩]⟩ (Ln (Qn ?_))))))))))))))))
   cases h3 : p (M.getD j default) with
   | true =>
    refine Ci false rfl (Ck (q_block_normal (Qn (Cg (Jr 3 [] [6, 5, 0, 1] 0 ⟨[(6, vI ((j : Int) + 1)), (5, vI (i : Int)), (0, .v (.slice A L.length c)), (1, .v (.func (.func kf) #[] caps))], []⟩ [inR ((j : Int) + 1)] [] (by kernel_rfl) (oc (by unfold inR; omega) on) wn ?_)))))
    have hjL : M.getD j default = L.getD j default := getD_drop hD (by omega)
    refine Ln (Ql (x := (⟨i, j, M⟩ : Nat × Nat × List (Fl DKept))) (⟨i, j + 1, M⟩ : Nat × Nat × List (Fl DKept)) ⟨by omega, by omega, hM, delF_skip (by omega) hT (hjL ▸ by assumption), drop_next hD⟩ (by show L.length - (j + 1) < L.length - j; omega) (Ss [6, 5, 0, 1] 0 (by kernel_rfl) rfl))
   | false =>
    refine Ci true rfl (Cs (Cg (Jr 4 [(3, .idx (oad A) i)] [33, 32, 6, 5, 0, 1] 0 ⟨[(33, .v (.pointer (some ((oad A).add (i * 4))))), (32, .v (M.getD j default).v.val), (6, vI (j : Int)), (5, vI (i : Int)), (0, .v (.slice A L.length c)), (1, .v (.func (.func kf) #[] caps))], []⟩ [A = some (oad A), (i : Int) = (i : Int), i < L.length] [] (by kernel_rfl) (oc (hrok.1 i (by omega)) (oc rfl (oc (by omega) on))) wn (l_storeA (α := Fl DKept) 101 A c M i 0 ((oad A).add (i * 4)) (.v (M.getD j default).v.val) (M.getD j default).v.cs [.int .i64 (M.getD j default).v.seq, .int .i64 (M.getD j default).v.reply.code, .int .i64 (M.getD j default).v.reply.n, .string (M.getD j default).v.reply.text] (M.getD j default) (add_zero _).symm rfl rfl rfl (by kernel_rfl) (by kernel_rfl) (by kernel_rfl) rfl (by omega) (by kernel_rfl) (by unfold setAt; simp [Lay.cells]) rfl rfl ?_))))
    intro L2 hL2 hl2
    refine Ln (Qn (Cg (Jr 3 [] [5, 6, 0, 1] 0 ⟨[(5, vI ((i : Int) + 1)), (6, vI (j : Int)), (0, .v (.slice A L.length c)), (1, .v (.func (.func kf) #[] caps))], []⟩ [inR ((i : Int) + 1)] [] (by kernel_rfl) (oc (by unfold inR; omega) on) wn (Ln (q_block_normal (Qn (Cg (Jr 3 [] [6, 5, 0, 1] 0 ⟨[(6, vI ((j : Int) + 1)), (5, vI ((i : Int) + 1)), (0, .v (.slice A L.length c)), (1, .v (.func (.func kf) #[] caps))], []⟩ [inR ((j : Int) + 1)] [] (by kernel_rfl) (oc (by unfold inR; omega) on) wn ?_))))))))
    have hjL : M.getD j default = L.getD j default := getD_drop hD (by omega)
    refine Ln (Ql (x := (⟨i, j, M⟩ : Nat × Nat × List (Fl DKept))) (⟨i + 1, j + 1, L2⟩ : Nat × Nat × List (Fl DKept)) ⟨by omega, by omega, by omega, by rw [hL2]; exact delF_keep h1 (by omega) hM hT (hjL ▸ by assumption) hjL, by rw [hL2]; exact delF_drop h1 hD⟩ (by show L.length - (j + 1) < L.length - j; omega) (Ss [6, 5, 0, 1] 0 (by kernel_rfl) rfl))
  | false =>
   have h2 := of_decide_eq_false h2
   refine Ci false rfl (c_exit (Qe (Qe (Qh (Qn (Cs (Cg (Jr 3 [(2, .sl i L.length)] [38, 5, 0] 0 ⟨[(38, .v (.slice (if c = i then A else A.map (·.add (i * 4))) (L.length - i) (c - i))), (5, vI (i : Int)), (0, .v (.slice A L.length c))], []⟩ [(i : Int) = (i : Int), L.length = L.length, i ≤ L.length] [] (by kernel_rfl) (oc rfl (oc rfl (oc (by omega) on))) wn (l_clear (α := Fl DKept) 101 A c M i (L.length - i) (.v (.slice (if c = i then A else A.map (·.add (i * 4))) (L.length - i) (c - i))) Try.underlying96 (by kernel_rfl) rfl rfl rfl rfl (by omega) (by omega) (Ln (Qn (Cs (Cg (Jr 4 [(2, .sl 0 i)] [4] 0 ⟨[(4, .v (.slice A i c))], []⟩ [0 = 0, (i : Int) = (i : Int), i ≤ c] [] (by kernel_rfl) (oc rfl (oc rfl (oc (by omega) on))) wn (Ln (Qn (Cr (Rt (.inl rfl) [.v (.slice A i c)] rfl (fun bs w hS => ?_)))))))))))))))))))
   have hid : M.take i = L.filter (fun x => !p x) := by rw [hT, show j = L.length by omega, List.take_length]
   have hil : (L.filter (fun x => !p x)).length = i := by rw [← hid, List.length_take]; omega
   have hS2 := hS
   rw [hid] at hS2
   refine ⟨?_, hS2.turned⟩
   rw [hil]
   rfl
theorem del_Kept (A : Option Addr) (c : Nat) (L : List DKept) (p : DKept → Bool) (kf : Nat) (caps : Array Value) (w : World) (hrow : (rowA 101 A c L).p w) (hlt : ∀ b, b ∈ (rowA 101 A c L).fp → b < w.heap.size) (hn : L.length ≤ 1048576) (hcall : ∀ args w, (callFunc kf args).run Try.prog w = .ok (.enter kf args) w)
  (hf : ∀ (w' : World) (x : DKept), x ∈ L → Kp (rowA 101 A c L).fp w w' → Calls Try.prog kf (#[.agg #[.int .i64 x.seq, .int .i64 x.reply.code, .int .i64 x.reply.n, .string x.reply.text]] ++ caps) w' fun e w'' => e = .returned (.bool (p x)) ∧ Kp [] w' w'') :
  Calls Try.prog 86 #[.slice A L.length c, .func (.func kf) #[] caps] w fun e w' => e = .returned (.slice A (L.filter fun x => !p x).length c) ∧ Turned (rowA 101 A c L) w w' (rowA 101 A c (L.filter fun x => !p x)) := by
 have h := delF_Kept A c (fls L) (fun x => p x.v) kf caps w (by rw [rowA_fl]; exact hrow) (by rw [rowA_fl]; exact hlt) (by simpa using hn) hcall (fun w' x hx hk => hf w' x.v (by obtain ⟨y, hy, rfl⟩ := List.mem_map.1 hx; exact hy) (by rwa [rowA_fl] at hk))
 have e1 : (fls L).filter (fun x => !(p x.v)) = fls (L.filter fun x => !p x) := fls_filter (fun x => !p x) L
 simp only [e1, rowA_fl, List.length_map] at h
 exact h

theorem clo_session_Ready_2 (x : DKept) (c : DCommand) (b : Nat) (w : World) (hb : (blkR b 63 [.int .i64 c.kind, .int .i64 c.client, .int .i64 c.session, .int .i64 c.seq, .int .i64 c.acked, .int .i64 c.op.kind, .string c.op.a, .string c.op.b, .int .i64 c.op.n]).p w) : Calls Try.prog 89 #[.agg #[.int .i64 x.seq, .int .i64 x.reply.code, .int .i64 x.reply.n, .string x.reply.text], .pointer (some (⟨b, 0, none⟩ : Addr))] w fun e w' => e = .returned (.bool (decide (x.seq = c.seq))) ∧ Kp [] w w' := by
 refine calls_J0 9 Try.func89 rfl rfl [.agg #[.int .i64 x.seq, .int .i64 x.reply.code, .int .i64 x.reply.n, .string x.reply.text], .pointer (some (⟨b, 0, none⟩ : Addr))] rfl ?_
 refine Cs (Cg (Jq 2 [2, 1] 1 ⟨[(2, .p 0 0), (1, .v (.pointer (some (⟨b, 0, none⟩ : Addr))))], [⟨101, x.cs⟩]⟩ (Ln (Qn (Cs (Cg (Jr 6 [(3, .ext [.int .i64 c.seq])] [3] 0 ⟨[(3, vB (decide (x.seq = c.seq)))], []⟩ [] [((⟨b, 0, none⟩ : Addr).add 3, [.int .i64 c.seq])] (by kernel_rfl) on (fun w hk hr => ⟨(blkR_fld (blkR_kp hb hk) 3 1 rfl), trivial⟩) (Ln (Qn (Cr (Rt (.inl rfl) [vB (decide (x.seq = c.seq))] rfl (fun bs w hS => ?_))))))))))))
 exact ⟨rfl, hS.kp⟩

theorem clo_session_Ready_1 (x : DKept) (a : Addr) (q : Int) (b : Nat) (w : World) (hb : (blkR b 124 [.pointer (some a)]).p w) (ha : CellsAt w (a.add 2) [.int .i64 q]) : Calls Try.prog 87 #[.agg #[.int .i64 x.seq, .int .i64 x.reply.code, .int .i64 x.reply.n, .string x.reply.text], .pointer (some (⟨b, 0, none⟩ : Addr))] w fun e w' => e = .returned (.bool (decide (x.seq ≤ q))) ∧ Kp [] w w' := by
 refine calls_J0 11 Try.func87 rfl rfl [.agg #[.int .i64 x.seq, .int .i64 x.reply.code, .int .i64 x.reply.n, .string x.reply.text], .pointer (some (⟨b, 0, none⟩ : Addr))] rfl ?_
 refine Cs (Cg (Jq 2 [2, 1] 1 ⟨[(2, .p 0 0), (1, .v (.pointer (some (⟨b, 0, none⟩ : Addr))))], [⟨101, x.cs⟩]⟩ (Ln (Qn (Cs (Cd 8 [] (.p 0 (.q 1 (.q 2 (.p 3 (.p 4 (.q 5 (.p 6 (.p 7 .nil)))))))) [] [] Try_mixed (by kernel_rfl) (pq_then pq_body) .slnil (Hq [(2, .ext [.pointer (some a)]), (5, .ext [.int .i64 q])] [(0, true), (1, false), (2, false), (3, true), (4, true), (5, false), (6, true), (7, true)] [(3, vB (decide (x.seq ≤ q))), (10, vB (decide (x.seq ≤ q))), (9, vI q), (8, .v (.pointer (some (a.add 2)))), (7, .v (.pointer (some a))), (6, .v (.pointer (some a))), (5, vI x.seq), (4, .p 0 0), (2, .p 0 0), (1, .v (.pointer (some (⟨b, 0, none⟩ : Addr))))] [] [((⟨b, 0, none⟩ : Addr), [.pointer (some a)]), (a.add 2, [.int .i64 q])] rfl (by kernel_rfl) on (fun w hk hr => ⟨(blkR_pre (blkR_kp hb hk) 1 rfl), ⟨(CellsAt.kp ha hk), trivial⟩⟩) (Hn (Ln (Qn (Cr (Rt (.inl rfl) [vB (decide (x.seq ≤ q))] rfl (fun bs w hS => ?_)))))))))))))
 exact ⟨rfl, hS.kp⟩

theorem session_Ready {B : Nat → Prop} (s : Sl CSession) (n : Int) (c : DCommand) (w : World) (hs : s.rd B w) (ht : inR c.client) (hc : Rds.sub B w c) : Calls Try.prog 39 #[.slice s.A s.n s.c, .int .i64 n, .agg #[.int .i64 c.kind, .int .i64 c.client, .int .i64 c.session, .int .i64 c.seq, .int .i64 c.acked, .int .i64 c.op.kind, .string c.op.a, .string c.op.b, .int .i64 c.op.n]] w fun e w' => ∃ y : Sl CSession, e = .returned (.tuple #[.slice y.A y.n y.c, .agg #[.int .i64 ((mReady (s.xs.map CSession.abs) n c).2.1).code, .int .i64 ((mReady (s.xs.map CSession.abs) n c).2.1).n, .string ((mReady (s.xs.map CSession.abs) n c).2.1).text], .bool (mReady (s.xs.map CSession.abs) n c).2.2.1, .int .i64 (mReady (s.xs.map CSession.abs) n c).2.2.2]) ∧ y.xs.map CSession.abs = (mReady (s.xs.map CSession.abs) n c).1 ∧ FreshS w w' y := by
  have oks := Sl.rd.ok hs
  have ncs := Sl.ok.nc oks
  have hns : s.n = s.xs.length := rfl
  have hml : (s.xs.map CSession.abs).length = s.n := by simp
  refine calls_J0 137 Try.func39 rfl rfl [.slice s.A s.n s.c, .int .i64 n, .agg #[.int .i64 c.kind, .int .i64 c.client, .int .i64 c.session, .int .i64 c.seq, .int .i64 c.acked, .int .i64 c.op.kind, .string c.op.a, .string c.op.b, .int .i64 c.op.n]] rfl ?_
  refine Cs (Cg (Jq 5 [7, 5, 0, 1] 2 ⟨[(7, .p 1 0), (5, .p 0 0), (0, .v s.val), (1, vI n)], [⟨63, c.cs⟩, ⟨40, [vI 0, vI 0, vS emp]⟩]⟩ (Ln (Qn (Cs (Cs (Cg (Jq 2 [16, 15, 7, 5, 0, 1] 2 ⟨[(16, vI n), (15, .v s.val), (7, .p 1 0), (5, .p 0 0), (0, .v s.val), (1, vI n)], [⟨63, c.cs⟩, ⟨40, [vI 0, vI 0, vS emp]⟩]⟩ (Lp 59 [] [.v s.val, vI n] (.int .i64 (mSess (s.xs.map CSession.abs) n)) Try.call59 rfl rfl rfl rfl (fun bs w hS => session_Check s n w (Sl.rd.kp hs hS.kp)) (Jq 1 [10, 7, 5, 0, 1] 2 ⟨[(10, vI (mSess (s.xs.map CSession.abs) n)), (7, .p 1 0), (5, .p 0 0), (0, .v s.val), (1, vI n)], [⟨63, c.cs⟩, ⟨40, [vI 0, vI 0, vS emp]⟩]⟩ (Ln (Qn (Cs (Cg (Jq 2 [19, 10, 7, 5, 0, 1] 2 ⟨[(19, vB (!(decide (mSess (s.xs.map CSession.abs) n = 0)))), (10, vI (mSess (s.xs.map CSession.abs) n)), (7, .p 1 0), (5, .p 0 0), (0, .v s.val), (1, vI n)], [⟨63, c.cs⟩, ⟨40, [vI 0, vI 0, vS emp]⟩]⟩ (Ln (Qn ?_)))))))))))))))))
  cases h1 : decide (mSess (s.xs.map CSession.abs) n = 0) with
  | true =>
    have h1 := of_decide_eq_true h1
    obtain ⟨hi0, hi1, hln, hall⟩ := mSess_bd h1
    have hln2 : s.xs.length ≤ 4 := by simpa using hln
    refine Ci false rfl (Ck (Qn (Cs (Cs (Cg (Jq 3 [24, 7, 5, 0, 1] 2 ⟨[(24, vB (decide (n = 1073741824))), (7, .p 1 0), (5, .p 0 0), (0, .v s.val), (1, vI n)], [⟨63, c.cs⟩, ⟨40, [vI 0, vI 0, vS emp]⟩]⟩ ?_))))))
    cases h2 : decide (n = 1073741824) with
    | true =>
      have h2 := of_decide_eq_true h2
      refine Jq 21 [45, 7, 5, 0, 1] 2 ⟨[(45, vB true), (7, .p 1 0), (5, .p 0 0), (0, .v s.val), (1, vI n)], [⟨63, c.cs⟩, ⟨40, [vI 0, vI 0, vS emp]⟩]⟩ (Ln (Qn (Ci true rfl (Cs (Cg (Jq 5 [9, 8, 6, 7] 2 ⟨[(9, vI 2), (8, vB false), (6, .v (.slice none 0 0)), (7, .p 1 0)], [⟨63, c.cs⟩, ⟨40, [vI 0, vI 0, vS emp]⟩]⟩ (Ln (Qn (Cr (Qr (Rt (.inl rfl) [.v (.slice none 0 0), .v (.agg #[.int .i64 0, .int .i64 0, .string emp]), vB false, vI 2] rfl (fun bs w hS => ?_))))))))))))
      have hm := ready_inv (c := c) h1 (by unfold rInv; omega)
      refine ⟨Sl.nil, ?_, ?_, hS.outS (Sl.rd_nil _ _)⟩
      · rw [hm] <;> rfl
      · rw [hm] <;> rfl
    | false =>
      have h2 := of_decide_eq_false h2
      refine Jq 5 [29, 7, 5, 0, 1] 2 ⟨[(29, vB (decide (c.seq < 1))), (7, .p 1 0), (5, .p 0 0), (0, .v s.val), (1, vI n)], [⟨63, c.cs⟩, ⟨40, [vI 0, vI 0, vS emp]⟩]⟩ ?_
      cases h3 : decide (c.seq < 1) with
      | true =>
        have h3 := of_decide_eq_true h3
        refine Jq 16 [45, 7, 5, 0, 1] 2 ⟨[(45, vB true), (7, .p 1 0), (5, .p 0 0), (0, .v s.val), (1, vI n)], [⟨63, c.cs⟩, ⟨40, [vI 0, vI 0, vS emp]⟩]⟩ (Ln (Qn (Ci true rfl (Cs (Cg (Jq 5 [9, 8, 6, 7] 2 ⟨[(9, vI 2), (8, vB false), (6, .v (.slice none 0 0)), (7, .p 1 0)], [⟨63, c.cs⟩, ⟨40, [vI 0, vI 0, vS emp]⟩]⟩ (Ln (Qn (Cr (Qr (Rt (.inl rfl) [.v (.slice none 0 0), .v (.agg #[.int .i64 0, .int .i64 0, .string emp]), vB false, vI 2] rfl (fun bs w hS => ?_))))))))))))
        have hm := ready_inv (c := c) h1 (by unfold rInv; omega)
        refine ⟨Sl.nil, ?_, ?_, hS.outS (Sl.rd_nil _ _)⟩
        · rw [hm] <;> rfl
        · rw [hm] <;> rfl
      | false =>
        have h3 := of_decide_eq_false h3
        refine Jq 5 [34, 7, 5, 0, 1] 2 ⟨[(34, vB (decide ((1048576 : Int) < c.seq))), (7, .p 1 0), (5, .p 0 0), (0, .v s.val), (1, vI n)], [⟨63, c.cs⟩, ⟨40, [vI 0, vI 0, vS emp]⟩]⟩ ?_
        cases h4 : decide ((1048576 : Int) < c.seq) with
        | true =>
          have h4 := of_decide_eq_true h4
          refine Jq 11 [45, 7, 5, 0, 1] 2 ⟨[(45, vB true), (7, .p 1 0), (5, .p 0 0), (0, .v s.val), (1, vI n)], [⟨63, c.cs⟩, ⟨40, [vI 0, vI 0, vS emp]⟩]⟩ (Ln (Qn (Ci true rfl (Cs (Cg (Jq 5 [9, 8, 6, 7] 2 ⟨[(9, vI 2), (8, vB false), (6, .v (.slice none 0 0)), (7, .p 1 0)], [⟨63, c.cs⟩, ⟨40, [vI 0, vI 0, vS emp]⟩]⟩ (Ln (Qn (Cr (Qr (Rt (.inl rfl) [.v (.slice none 0 0), .v (.agg #[.int .i64 0, .int .i64 0, .string emp]), vB false, vI 2] rfl (fun bs w hS => ?_))))))))))))
          have hm := ready_inv (c := c) h1 (by unfold rInv; omega)
          refine ⟨Sl.nil, ?_, ?_, hS.outS (Sl.rd_nil _ _)⟩
          · rw [hm] <;> rfl
          · rw [hm] <;> rfl
        | false =>
          have h4 := of_decide_eq_false h4
          refine Jq 5 [39, 7, 5, 0, 1] 2 ⟨[(39, vB (decide (c.acked < 0))), (7, .p 1 0), (5, .p 0 0), (0, .v s.val), (1, vI n)], [⟨63, c.cs⟩, ⟨40, [vI 0, vI 0, vS emp]⟩]⟩ ?_
          cases h5 : decide (c.acked < 0) with
          | true =>
            have h5 := of_decide_eq_true h5
            refine Jq 6 [45, 7, 5, 0, 1] 2 ⟨[(45, vB true), (7, .p 1 0), (5, .p 0 0), (0, .v s.val), (1, vI n)], [⟨63, c.cs⟩, ⟨40, [vI 0, vI 0, vS emp]⟩]⟩ (Ln (Qn (Ci true rfl (Cs (Cg (Jq 5 [9, 8, 6, 7] 2 ⟨[(9, vI 2), (8, vB false), (6, .v (.slice none 0 0)), (7, .p 1 0)], [⟨63, c.cs⟩, ⟨40, [vI 0, vI 0, vS emp]⟩]⟩ (Ln (Qn (Cr (Qr (Rt (.inl rfl) [.v (.slice none 0 0), .v (.agg #[.int .i64 0, .int .i64 0, .string emp]), vB false, vI 2] rfl (fun bs w hS => ?_))))))))))))
            have hm := ready_inv (c := c) h1 (by unfold rInv; omega)
            refine ⟨Sl.nil, ?_, ?_, hS.outS (Sl.rd_nil _ _)⟩
            · rw [hm] <;> rfl
            · rw [hm] <;> rfl
          | false =>
            have h5 := of_decide_eq_false h5
            refine Jq 6 [45, 7, 5, 0, 1] 2 ⟨[(45, vB (decide (c.seq ≤ c.acked))), (7, .p 1 0), (5, .p 0 0), (0, .v s.val), (1, vI n)], [⟨63, c.cs⟩, ⟨40, [vI 0, vI 0, vS emp]⟩]⟩ (Ln (Qn ?_))
            cases h6 : decide (c.seq ≤ c.acked) with
            | true =>
              have h6 := of_decide_eq_true h6
              refine Ci true rfl (Cs (Cg (Jq 5 [9, 8, 6, 7] 2 ⟨[(9, vI 2), (8, vB false), (6, .v (.slice none 0 0)), (7, .p 1 0)], [⟨63, c.cs⟩, ⟨40, [vI 0, vI 0, vS emp]⟩]⟩ (Ln (Qn (Cr (Qr (Rt (.inl rfl) [.v (.slice none 0 0), .v (.agg #[.int .i64 0, .int .i64 0, .string emp]), vB false, vI 2] rfl (fun bs w hS => ?_)))))))))
              have hm := ready_inv (c := c) h1 (by unfold rInv; omega)
              refine ⟨Sl.nil, ?_, ?_, hS.outS (Sl.rd_nil _ _)⟩
              · rw [hm] <;> rfl
              · rw [hm] <;> rfl
            | false =>
              have h6 := of_decide_eq_false h6
              refine Ci false rfl (Ck (Qn (Cs (Cg (Jq 1 [47, 7, 5, 1] 2 ⟨[(47, .v s.val), (7, .p 1 0), (5, .p 0 0), (1, vI n)], [⟨63, c.cs⟩, ⟨40, [vI 0, vI 0, vS emp]⟩]⟩ (l_freshF (σ := Sl CSession) 60 [] [.v s.val] (fun y1 => .slice y1.A y1.n y1.c) (fun y1 => y1.xs.map CSession.abs = s.xs.map CSession.abs) (fun y1 => sessR 98 101 y1) Try.call60 rfl rfl rfl rfl (fun bs w hS => session_Copy s w (Sl.rd.kp hs hS.kp) (small_sess (by assumption))) ?_))))))
              rintro y1 hF1
              refine l_split2 ?_
              obtain ⟨A1, c1, S1⟩ := y1
              have hF1 : S1.map CSession.abs = s.xs.map CSession.abs := hF1
              refine Lm (R' := [ownL (keptR 101) S1, rowA 98 A1 c1 (S1 : List CSession)]) (List.Perm.refl _) ?_
              have hnm1 := sess_texts (y := (⟨A1, c1, S1⟩ : Sl CSession)) (hs) hF1
              have hlen1 : S1.length = s.xs.length := by simpa using congrArg List.length hF1
              refine l_know (F := ∀ i, i < S1.length → Rds.ok (S1.getD i default)) (fun bs w hS i hi => Rds.okof (B := anyB) (w := w) (own_elt (hS.res _ (.head _)) hnm1 (mem_of_getD hi))) fun okown1 => ?_
              refine l_know (F := RowOk A1 c1 (S1 : List CSession)) (fun bs w hS => rowA_rok (hS.res _ (.tail _ (.head _)))) fun hrow1 => ?_
              have nchrow1 := hrow1.2
              have hml1 : (S1.map CSession.abs).length = S1.length := by simp
              have hm1 : mSess (S1.map CSession.abs) n = 0 := by rw [hF1]; assumption
              refine Jq 1 [0, 7, 5, 1] 2 ⟨[(0, .v (.slice A1 S1.length c1)), (7, .p 1 0), (5, .p 0 0), (1, vI n)], [⟨63, c.cs⟩, ⟨40, [vI 0, vI 0, vS emp]⟩]⟩ (Ln (Qn (Cs (Cg (Jq 3 [52, 50, 0, 7, 5, 1] 2 ⟨[(52, vI c.client), (50, .v (.slice A1 S1.length c1)), (0, .v (.slice A1 S1.length c1)), (7, .p 1 0), (5, .p 0 0), (1, vI n)], [⟨63, c.cs⟩, ⟨40, [vI 0, vI 0, vS emp]⟩]⟩ (Lp 61 [] [.v (.slice A1 S1.length c1), vI c.client] (.tuple #[.int .i64 ((mBS (fun x : CSession => IntKind.i64.wrap (x.client - c.client)) S1 : Nat) : Int), .bool (mBSf (fun x : CSession => IntKind.i64.wrap (x.client - c.client)) S1)]) Try.call61 rfl rfl rfl rfl (fun bs w hS => session_find (⟨A1, c1, S1⟩ : Sl CSession) c.client w (own_sess (hS.res _ (.head _)) (hS.res _ (.tail _ (.head _))) hnm1) (show S1.length ≤ 1048576 by omega)) ?_))))))
              have hbs := bsf_sess (L := S1) (index := n) (t := c.client) (by rw [hF1]; assumption) ht
              have hJb := mIdx_bd (fun x : DSession => decide (x.client = c.client)) (S1.map CSession.abs)
              generalize hJ : mIdx (fun x : DSession => decide (x.client = c.client)) (S1.map CSession.abs) = J at hbs hJb
              have hkl := mBS_le (fun x : CSession => IntKind.i64.wrap (x.client - c.client)) S1
              generalize hk : mBS (fun x : CSession => IntKind.i64.wrap (x.client - c.client)) S1 = k at hbs hkl ⊢
              generalize hf : mBSf (fun x : CSession => IntKind.i64.wrap (x.client - c.client)) S1 = fb at hbs ⊢
              refine Jq 5 [12, 11, 0, 7, 5, 1] 2 ⟨[(12, vB fb), (11, vI (k : Int)), (0, .v (.slice A1 S1.length c1)), (7, .p 1 0), (5, .p 0 0), (1, vI n)], [⟨63, c.cs⟩, ⟨40, [vI 0, vI 0, vS emp]⟩]⟩ (Ln (Qn (Cs (Cs (Cd 12 [] (.p 0 (.p 1 (.p 2 (.p 3 (.p 4 (.p 5 (.p 6 (.q 7 (.p 8 (.q 9 (.p 10 (.p 11 .nil)))))))))))) [] [ownL (keptR 101) S1, rowA 98 A1 c1 (S1 : List CSession)] Try_mixed (by kernel_rfl) (pq_then (pq_then pq_body)) (List.Sublist.refl _) (Hq [] [(0, true), (1, true), (2, true)] [(58, vB (!fb)), (57, vB (!fb)), (56, vB fb), (12, vB fb), (11, vI (k : Int)), (0, .v (.slice A1 S1.length c1)), (7, .p 1 0), (5, .p 0 0), (1, vI n)] [] [] rfl (by kernel_rfl) on wn ?_))))))
              cases h7 : fb with
              | true =>
                have hkJ := hbs.2 h7
                subst hkJ
                have hk5 := sess_all hm1 (k := k) (by omega)
                have hk6 : (S1.getD k default).replies.xs.length ≤ 4 := mReplies_len hk5.2.2.2.2
                have hk7 : (S1.getD k default).replies.n = (S1.getD k default).replies.xs.length := rfl
                refine Hq [(5, .idx (oad A1) k), (7, .ext [.int .i64 (S1.getD k default).id])] [(3, true), (4, true), (5, true), (6, true), (7, false), (8, true), (9, false), (10, true), (11, true)] [(67, vB (!(decide ((S1.getD k default).id = c.session)))), (66, vB (!(decide ((S1.getD k default).id = c.session)))), (65, vI c.session), (64, .p 0 2), (63, vI (S1.getD k default).id), (62, .v (.pointer (some (((oad A1).add (k * 5)).add 1)))), (61, .v (.pointer (some ((oad A1).add (k * 5))))), (60, vI (k : Int)), (59, .v (.slice A1 S1.length c1)), (58, vB false), (57, vB false), (56, vB true), (12, vB true), (11, vI (k : Int)), (0, .v (.slice A1 S1.length c1)), (7, .p 1 0), (5, .p 0 0), (1, vI n)] [A1 = some (oad A1), (k : Int) = (k : Int), k < S1.length] [(((oad A1).add (k * 5)).add 1, [.int .i64 (S1.getD k default).id])] rfl (by kernel_rfl) (oc (hrow1.1 k (by omega)) (oc rfl (oc (by omega) on))) (fun w hk hr => ⟨(rowA_fld (i := k) (hr _ (.tail _ (.head _))) (by omega) 1 1 rfl), trivial⟩) ?_
                refine Hn (Ln (Qn ?_))
                cases h8 : decide ((S1.getD k default).id = c.session) with
                | true =>
                  have h8 := of_decide_eq_true h8
                  refine Ci false rfl (Ck (Qn (Cs (Cg (Jr 5 [(2, .idx (oad A1) k)] [13, 0, 7, 5, 1] 3 ⟨[(13, .p 2 0), (0, .v (.slice A1 S1.length c1)), (7, .p 1 0), (5, .p 0 0), (1, vI n)], [⟨63, c.cs⟩, ⟨40, [vI 0, vI 0, vS emp]⟩, ⟨124, [.v (.pointer (some ((oad A1).add (k * 5))))]⟩]⟩ [A1 = some (oad A1), (k : Int) = (k : Int), k < S1.length] [] (by kernel_rfl) (oc (hrow1.1 k (by omega)) (oc rfl (oc (by omega) on))) wn (Ln (Qn (Cs (Cg (Jr 5 [] [77, 75, 13, 0, 7, 5] 3 ⟨[(77, .v (.pointer (some (((oad A1).add (k * 5)).add 3)))), (75, vI (n + 1)), (13, .p 2 0), (0, .v (.slice A1 S1.length c1)), (7, .p 1 0), (5, .p 0 0)], [⟨63, c.cs⟩, ⟨40, [vI 0, vI 0, vS emp]⟩, ⟨124, [.v (.pointer (some ((oad A1).add (k * 5))))]⟩]⟩ [inR (n + 1)] [] (by kernel_rfl) (oc (by unfold inR; omega) on) wn (Lm (R' := [rowA 98 A1 c1 (S1 : List CSession), ownL (keptR 101) S1]) (Pf 1 rfl) (l_storeA (α := CSession) 98 A1 c1 S1 k 3 (((oad A1).add (k * 5)).add 3) (vI (n + 1)) [vI (n + 1)] [.int .i64 (n + 1)] (⟨(S1.getD k default).client, (S1.getD k default).id, (S1.getD k default).acked, n + 1, (S1.getD k default).replies⟩ : CSession) rfl rfl rfl rfl rfl (by kernel_rfl) (by kernel_rfl) rfl (by omega) (by kernel_rfl) rfl rfl rfl ?_))))))))))))
                  intro L3 hL3 hlL3
                  have hgL3 : L3.getD k default = (⟨(S1.getD k default).client, (S1.getD k default).id, (S1.getD k default).acked, n + 1, (S1.getD k default).replies⟩ : CSession) := by rw [hL3]; exact getD_set (by omega)
                  have hbL3 : L3 = List.set S1 k (⟨(S1.getD k default).client, (S1.getD k default).id, (S1.getD k default).acked, n + 1, (S1.getD k default).replies⟩ : CSession) := by rw [hL3]
                  refine Ln (Qn (Cs (Cs (Cd 7 [] (.p 0 (.q 1 (.q 2 (.p 3 (.p 4 (.q 5 (.p 6 .nil))))))) [] [rowA 98 A1 c1 (L3 : List CSession), ownL (keptR 101) S1] Try_mixed (by kernel_rfl) (pq_then (pq_then pq_body)) (List.Sublist.refl _) (Hq [(5, .ext [.int .i64 (S1.getD k default).acked])] [(0, true), (1, false), (2, false), (3, true), (4, true), (5, false), (6, true)] [(84, vB (decide ((S1.getD k default).acked < c.acked))), (83, vI (S1.getD k default).acked), (82, .v (.pointer (some (((oad A1).add (k * 5)).add 2)))), (81, .v (.pointer (some ((oad A1).add (k * 5))))), (80, .v (.pointer (some ((oad A1).add (k * 5))))), (79, vI c.acked), (78, .p 0 4), (77, .v (.pointer (some (((oad A1).add (k * 5)).add 3)))), (75, vI (n + 1)), (13, .p 2 0), (0, .v (.slice A1 S1.length c1)), (7, .p 1 0), (5, .p 0 0)] [] [(((oad A1).add (k * 5)).add 2, [.int .i64 (S1.getD k default).acked])] rfl (by kernel_rfl) on (fun w hk hr => ⟨(rowA_fld (i := k) (hr _ (.head _)) (by omega) 2 1 (by rw [hgL3]; rfl)), trivial⟩) (Hn (Ln (Qn ?_))))))))
                  cases h9 : decide ((S1.getD k default).acked < c.acked) with
                  | true =>
                    have h9 := of_decide_eq_true h9
                    have hak := ack_up (d := (S1.getD k default).abs) (c := c) h9
                    have hll := left_more hak
                    have hfl := List.length_filter_le (fun z : DKept => !decide (z.seq ≤ c.acked)) (S1.getD k default).replies.xs
                    refine Ci true rfl (Cs (Cg (Jq 5 [89, 87, 13, 0, 7, 5] 3 ⟨[(89, .v (.pointer (some (((oad A1).add (k * 5)).add 2)))), (87, vI c.acked), (13, .p 2 0), (0, .v (.slice A1 S1.length c1)), (7, .p 1 0), (5, .p 0 0)], [⟨63, c.cs⟩, ⟨40, [vI 0, vI 0, vS emp]⟩, ⟨124, [.v (.pointer (some ((oad A1).add (k * 5))))]⟩]⟩ (l_storeA (α := CSession) 98 A1 c1 L3 k 2 (((oad A1).add (k * 5)).add 2) (vI c.acked) [vI c.acked] [.int .i64 c.acked] (⟨(S1.getD k default).client, (S1.getD k default).id, c.acked, n + 1, (S1.getD k default).replies⟩ : CSession) rfl rfl rfl rfl rfl (by kernel_rfl) (by kernel_rfl) rfl (by omega) (by kernel_rfl) (by rw [hgL3]; rfl) rfl rfl ?_))))
                    intro L4 hL4 hlL4
                    have hgL4 : L4.getD k default = (⟨(S1.getD k default).client, (S1.getD k default).id, c.acked, n + 1, (S1.getD k default).replies⟩ : CSession) := by rw [hL4]; exact getD_set (by omega)
                    have hbL4 : L4 = List.set S1 k (⟨(S1.getD k default).client, (S1.getD k default).id, c.acked, n + 1, (S1.getD k default).replies⟩ : CSession) := by rw [hL4, hbL3, List.set_set]
                    refine Ln (Qn (c_perm (R' := [ownL (keptR 101) S1, rowA 98 A1 c1 (L4 : List CSession)]) (Pf 1 rfl) (c_part2 (rowA 101 (S1.getD k default).replies.A (S1.getD k default).replies.c ((S1.getD k default).replies.xs : List DKept)) (ownL (keptR 101) (List.eraseIdx S1 k)) (ownL_get_fp (keptR 101) (i := k) (by omega)) (fun w h => ownL_get_p (keptR 101) (i := k) (by omega) w h) (c_know (F := RowOk (S1.getD k default).replies.A (S1.getD k default).replies.c ((S1.getD k default).replies.xs : List DKept)) (fun bs w hS => rowA_rok (hS.res _ (.head _))) fun hrowK => ?_))))
                    have nchrowK := hrowK.2
                    refine Cd 9 [] (.q 0 (.q 1 (.p 2 (.p 3 (.q 4 (.p 5 (.b 6 (.p 7 (.p 8 .nil)) .z))))))) [] [ownL (keptR 101) (List.eraseIdx S1 k), rowA 98 A1 c1 (L4 : List CSession)] Try_mixed (by kernel_rfl) (pq_then pq_body) (.cons _ (List.Sublist.refl _)) ?_
                    refine Hq [(4, .ext [.slice (S1.getD k default).replies.A (S1.getD k default).replies.n (S1.getD k default).replies.c])] [(0, false), (1, false), (2, true), (3, true), (4, false), (5, true)] [(95, .fn 87 [(2, 0)]), (94, .v (S1.getD k default).replies.val), (93, .v (.pointer (some (((oad A1).add (k * 5)).add 4)))), (92, .v (.pointer (some ((oad A1).add (k * 5))))), (91, .v (.pointer (some ((oad A1).add (k * 5))))), (90, .v (.pointer (some ((oad A1).add (k * 5))))), (89, .v (.pointer (some (((oad A1).add (k * 5)).add 2)))), (87, vI c.acked), (13, .p 2 0), (0, .v (.slice A1 S1.length c1)), (7, .p 1 0), (5, .p 0 0)] [] [(((oad A1).add (k * 5)).add 4, [.slice (S1.getD k default).replies.A (S1.getD k default).replies.n (S1.getD k default).replies.c])] rfl (by kernel_rfl) on (fun w hk hr => ⟨(rowA_fld (i := k) (hr _ (.tail _ (.head _))) (by omega) 4 1 (by rw [hgL4]; rfl)), trivial⟩) ?_
                    refine Ht (σ := Unit) 86 [] [.v (.slice (S1.getD k default).replies.A (S1.getD k default).replies.n (S1.getD k default).replies.c), .fn 87 [(2, 0)]] (fun _ => .slice (S1.getD k default).replies.A ((S1.getD k default).replies.xs.filter fun z : DKept => !decide (z.seq ≤ c.acked)).length (S1.getD k default).replies.c) (fun _ => True) (fun _ => rowA 101 (S1.getD k default).replies.A (S1.getD k default).replies.c ((S1.getD k default).replies.xs.filter fun z : DKept => !decide (z.seq ≤ c.acked) : List DKept)) rfl Try.call86 rfl rfl rfl rfl (fun bs w hS => (del_Kept (S1.getD k default).replies.A (S1.getD k default).replies.c (S1.getD k default).replies.xs (fun z : DKept => decide (z.seq ≤ c.acked)) 87 #[.pointer (some (adr bs 2 0))] w (hS.res _ (.head _)) hS.head1.2.2 (by omega) Try.call87 (fun w' x hx hk => clo_session_Ready_1 x ((oad A1).add (k * 5)) c.acked (bs.getD 2 0) w' (show (blkR _ _ _).p w' from hS.blkIn (i := 2) (b := ⟨124, [.v (.pointer (some ((oad A1).add (k * 5))))]⟩) hk rfl (by simp)) (rowA_fld (i := k) (hS.resIn hk (.tail _ (.head _))) (by omega) 2 1 (by rw [hgL4]; rfl)))).mono (fun e w' ⟨h1, h2⟩ => ⟨(), h1, trivial, h2⟩)) (fun bs0 bs y w hp hl hS => hS.down hp hl rfl (le_same (le_same (le_same le_nil))) (.cons _ (List.Sublist.refl _))) ?_
                    rintro _ _
                    refine Hq [] [(7, true), (8, true)] [(98, .v (.pointer (some (((oad A1).add (k * 5)).add 4)))), (97, .v (.pointer (some ((oad A1).add (k * 5))))), (96, .v (.slice (S1.getD k default).replies.A ((S1.getD k default).replies.xs.filter fun z : DKept => !decide (z.seq ≤ c.acked)).length (S1.getD k default).replies.c)), (95, .fn 87 [(2, 0)]), (94, .v (S1.getD k default).replies.val), (93, .v (.pointer (some (((oad A1).add (k * 5)).add 4)))), (92, .v (.pointer (some ((oad A1).add (k * 5))))), (91, .v (.pointer (some ((oad A1).add (k * 5))))), (90, .v (.pointer (some ((oad A1).add (k * 5))))), (89, .v (.pointer (some (((oad A1).add (k * 5)).add 2)))), (87, vI c.acked), (13, .p 2 0), (0, .v (.slice A1 S1.length c1)), (7, .p 1 0), (5, .p 0 0)] [] [] rfl (by kernel_rfl) on wn ?_
                    refine Hn (Lm (R' := [rowA 98 A1 c1 (L4 : List CSession), rowA 101 (S1.getD k default).replies.A (S1.getD k default).replies.c ((S1.getD k default).replies.xs.filter fun z : DKept => !decide (z.seq ≤ c.acked) : List DKept), ownL (keptR 101) (List.eraseIdx S1 k)]) (Pf 2 rfl) (l_storeA (α := CSession) 98 A1 c1 L4 k 4 (((oad A1).add (k * 5)).add 4) (.v (.slice (S1.getD k default).replies.A ((S1.getD k default).replies.xs.filter fun z : DKept => !decide (z.seq ≤ c.acked)).length (S1.getD k default).replies.c)) [.v (.slice (S1.getD k default).replies.A ((S1.getD k default).replies.xs.filter fun z : DKept => !decide (z.seq ≤ c.acked)).length (S1.getD k default).replies.c)] [.slice (S1.getD k default).replies.A ((S1.getD k default).replies.xs.filter fun z : DKept => !decide (z.seq ≤ c.acked)).length (S1.getD k default).replies.c] (⟨(S1.getD k default).client, (S1.getD k default).id, c.acked, n + 1, ⟨(S1.getD k default).replies.A, (S1.getD k default).replies.c, (S1.getD k default).replies.xs.filter fun z : DKept => !decide (z.seq ≤ c.acked)⟩⟩ : CSession) rfl rfl rfl rfl rfl (by kernel_rfl) (by kernel_rfl) rfl (by omega) (by kernel_rfl) (by rw [hgL4]; rfl) rfl rfl ?_))
                    intro L6 hL6 hlL6
                    have hgL6 : L6.getD k default = (⟨(S1.getD k default).client, (S1.getD k default).id, c.acked, n + 1, ⟨(S1.getD k default).replies.A, (S1.getD k default).replies.c, (S1.getD k default).replies.xs.filter fun z : DKept => !decide (z.seq ≤ c.acked)⟩⟩ : CSession) := by rw [hL6]; exact getD_set (by omega)
                    have hbL6 : L6 = List.set S1 k (⟨(S1.getD k default).client, (S1.getD k default).id, c.acked, n + 1, ⟨(S1.getD k default).replies.A, (S1.getD k default).replies.c, (S1.getD k default).replies.xs.filter fun z : DKept => !decide (z.seq ≤ c.acked)⟩⟩ : CSession) := by rw [hL6, hbL4, List.set_set]
                    refine Ln (Qn (Cs (Cs (Cd 7 [] (.p 0 (.q 1 (.q 2 (.p 3 (.p 4 (.q 5 (.p 6 .nil))))))) [] [rowA 98 A1 c1 (L6 : List CSession), rowA 101 (S1.getD k default).replies.A (S1.getD k default).replies.c ((S1.getD k default).replies.xs.filter fun z : DKept => !decide (z.seq ≤ c.acked) : List DKept), ownL (keptR 101) (List.eraseIdx S1 k)] Try_mixed (by kernel_rfl) (pq_then (pq_then pq_body)) (List.Sublist.refl _) (Hq [(5, .ext [.int .i64 c.acked])] [(0, true), (1, false), (2, false), (3, true), (4, true), (5, false), (6, true)] [(105, vB (decide (c.seq ≤ c.acked))), (104, vI c.acked), (103, .v (.pointer (some (((oad A1).add (k * 5)).add 2)))), (102, .v (.pointer (some ((oad A1).add (k * 5))))), (101, .v (.pointer (some ((oad A1).add (k * 5))))), (100, vI c.seq), (99, .p 0 3), (98, .v (.pointer (some (((oad A1).add (k * 5)).add 4)))), (97, .v (.pointer (some ((oad A1).add (k * 5))))), (96, .v (.slice (S1.getD k default).replies.A ((S1.getD k default).replies.xs.filter fun z : DKept => !decide (z.seq ≤ c.acked)).length (S1.getD k default).replies.c)), (95, .fn 87 [(2, 0)]), (94, .v (S1.getD k default).replies.val), (93, .v (.pointer (some (((oad A1).add (k * 5)).add 4)))), (92, .v (.pointer (some ((oad A1).add (k * 5))))), (91, .v (.pointer (some ((oad A1).add (k * 5))))), (90, .v (.pointer (some ((oad A1).add (k * 5))))), (89, .v (.pointer (some (((oad A1).add (k * 5)).add 2)))), (87, vI c.acked), (13, .p 2 0), (0, .v (.slice A1 S1.length c1)), (7, .p 1 0), (5, .p 0 0)] [] [(((oad A1).add (k * 5)).add 2, [.int .i64 c.acked])] rfl (by kernel_rfl) on (fun w hk hr => ⟨(rowA_fld (i := k) (hr _ (.head _)) (by omega) 2 1 (by rw [hgL6]; rfl)), trivial⟩) (Hn (Ln (Qn ?_))))))))
                    cases h10 : decide (c.seq ≤ c.acked) with
                    | true =>
                      have h10 := of_decide_eq_true h10
                      exact absurd h10 h6
                    | false =>
                      have h10 := of_decide_eq_false h10
                      refine Ci false rfl (Ck (Qn (Cs (Cs (Cg (Jr 5 [(3, .ext [.slice (S1.getD k default).replies.A ((S1.getD k default).replies.xs.filter fun z : DKept => !decide (z.seq ≤ c.acked)).length (S1.getD k default).replies.c])] [112, 111, 13, 0, 7, 5] 3 ⟨[(112, .fn 89 [(0, 0)]), (111, .v (.slice (S1.getD k default).replies.A ((S1.getD k default).replies.xs.filter fun z : DKept => !decide (z.seq ≤ c.acked)).length (S1.getD k default).replies.c)), (13, .p 2 0), (0, .v (.slice A1 S1.length c1)), (7, .p 1 0), (5, .p 0 0)], [⟨63, c.cs⟩, ⟨40, [vI 0, vI 0, vS emp]⟩, ⟨124, [.v (.pointer (some ((oad A1).add (k * 5))))]⟩]⟩ [] [(((oad A1).add (k * 5)).add 4, [.slice (S1.getD k default).replies.A ((S1.getD k default).replies.xs.filter fun z : DKept => !decide (z.seq ≤ c.acked)).length (S1.getD k default).replies.c])] (by kernel_rfl) on (fun w hk hr => ⟨(rowA_fld (i := k) (hr _ (.head _)) (by omega) 4 1 (by rw [hgL6]; rfl)), trivial⟩) (Lp 88 [] [.v (.slice (S1.getD k default).replies.A ((S1.getD k default).replies.xs.filter fun z : DKept => !decide (z.seq ≤ c.acked)).length (S1.getD k default).replies.c), .fn 89 [(0, 0)]] (.int .i64 (mIdx (fun z : DKept => decide (z.seq = c.seq)) ((S1.getD k default).replies.xs.filter fun z : DKept => !decide (z.seq ≤ c.acked)))) Try.call88 rfl rfl rfl rfl (fun bs w hS => idx_Kept (⟨(S1.getD k default).replies.A, (S1.getD k default).replies.c, (S1.getD k default).replies.xs.filter fun z : DKept => !decide (z.seq ≤ c.acked)⟩ : Sl DKept) (fun z : DKept => decide (z.seq = c.seq)) 89 #[.pointer (some (adr bs 0 0))] w (Rr (B := anyB) (hS.res _ (.tail _ (.head _))) (fun _ _ => trivial) (fun z hz => hnm1 _ (mem_of_getD (L := S1) (i := k) (by omega)) z (List.mem_filter.1 hz).1)) Try.call89 (fun w' z hz hk => clo_session_Ready_2 z c (bs.getD 0 0) w' (show (blkR _ _ _).p w' from (hS.pure hk).loc 0 ⟨63, [vI c.kind, vI c.client, vI c.session, vI c.seq, vI c.acked, vI c.op.kind, vS c.op.a, vS c.op.b, vI c.op.n]⟩ rfl (by simp)))) ?_)))))))
                      have hIb := mIdx_bd (fun z : DKept => decide (z.seq = c.seq)) ((S1.getD k default).replies.xs.filter fun z : DKept => !decide (z.seq ≤ c.acked))
                      generalize hIx : mIdx (fun z : DKept => decide (z.seq = c.seq)) ((S1.getD k default).replies.xs.filter fun z : DKept => !decide (z.seq ≤ c.acked)) = I at hIb ⊢
                      refine Jq 1 [14, 13, 0, 7, 5] 3 ⟨[(14, vI I), (13, .p 2 0), (0, .v (.slice A1 S1.length c1)), (7, .p 1 0), (5, .p 0 0)], [⟨63, c.cs⟩, ⟨40, [vI 0, vI 0, vS emp]⟩, ⟨124, [.v (.pointer (some ((oad A1).add (k * 5))))]⟩]⟩ (Ln (Qn (Cs (Cg (Jq 2 [115, 14, 13, 0, 7, 5] 3 ⟨[(115, vB (decide ((0 : Int) ≤ I))), (14, vI I), (13, .p 2 0), (0, .v (.slice A1 S1.length c1)), (7, .p 1 0), (5, .p 0 0)], [⟨63, c.cs⟩, ⟨40, [vI 0, vI 0, vS emp]⟩, ⟨124, [.v (.pointer (some ((oad A1).add (k * 5))))]⟩]⟩ (Ln (Qn ?_)))))))
                      cases h11 : decide ((0 : Int) ≤ I) with
                      | true =>
                        have h11 := of_decide_eq_true h11
                        refine Ci true rfl (Cs (Cd 13 [] (.p 0 (.q 1 (.p 2 (.p 3 (.q 4 (.p 5 (.p 6 (.p 7 (.q 8 (.p 9 (.b 10 (.p 11 (.p 12 .nil)) .z))))))))))) [1] [rowA 98 A1 c1 (L6 : List CSession), rowA 101 (S1.getD k default).replies.A (S1.getD k default).replies.c ((S1.getD k default).replies.xs.filter fun z : DKept => !decide (z.seq ≤ c.acked) : List DKept), ownL (keptR 101) (List.eraseIdx S1 k)] Try_mixed (by kernel_rfl) (pq_then (pq_then pq_body)) (List.Sublist.refl _) (Hq [(4, .ext [.slice (S1.getD k default).replies.A ((S1.getD k default).replies.xs.filter fun z : DKept => !decide (z.seq ≤ c.acked)).length (S1.getD k default).replies.c]), (6, .idx (oad (S1.getD k default).replies.A) I.toNat), (8, .ext [.int .i64 (((S1.getD k default).replies.xs.filter fun z : DKept => !decide (z.seq ≤ c.acked)).getD I.toNat default).reply.code, .int .i64 (((S1.getD k default).replies.xs.filter fun z : DKept => !decide (z.seq ≤ c.acked)).getD I.toNat default).reply.n, .string (((S1.getD k default).replies.xs.filter fun z : DKept => !decide (z.seq ≤ c.acked)).getD I.toNat default).reply.text])] [(0, true), (1, false), (2, true), (3, true), (4, false), (5, true), (6, true), (7, true), (8, false), (9, true)] [(6, .v (.slice A1 S1.length c1)), (124, .v (((S1.getD k default).replies.xs.filter fun z : DKept => !decide (z.seq ≤ c.acked)).getD I.toNat default).reply.val), (123, .v (.pointer (some (((oad (S1.getD k default).replies.A).add (I.toNat * 4)).add 1)))), (122, .v (.pointer (some ((oad (S1.getD k default).replies.A).add (I.toNat * 4))))), (121, vI I), (120, .v (.slice (S1.getD k default).replies.A ((S1.getD k default).replies.xs.filter fun z : DKept => !decide (z.seq ≤ c.acked)).length (S1.getD k default).replies.c)), (119, .v (.pointer (some (((oad A1).add (k * 5)).add 4)))), (118, .v (.pointer (some ((oad A1).add (k * 5))))), (117, .v (.pointer (some ((oad A1).add (k * 5))))), (116, .v (.slice A1 S1.length c1)), (115, vB true), (14, vI I), (13, .p 2 0), (0, .v (.slice A1 S1.length c1)), (7, .p 1 0), (5, .p 0 0)] [(S1.getD k default).replies.A = some (oad (S1.getD k default).replies.A), I = (I.toNat : Int), I.toNat < ((S1.getD k default).replies.xs.filter fun z : DKept => !decide (z.seq ≤ c.acked)).length] [(((oad A1).add (k * 5)).add 4, [.slice (S1.getD k default).replies.A ((S1.getD k default).replies.xs.filter fun z : DKept => !decide (z.seq ≤ c.acked)).length (S1.getD k default).replies.c]), (((oad (S1.getD k default).replies.A).add (I.toNat * 4)).add 1, [.int .i64 (((S1.getD k default).replies.xs.filter fun z : DKept => !decide (z.seq ≤ c.acked)).getD I.toNat default).reply.code, .int .i64 (((S1.getD k default).replies.xs.filter fun z : DKept => !decide (z.seq ≤ c.acked)).getD I.toNat default).reply.n, .string (((S1.getD k default).replies.xs.filter fun z : DKept => !decide (z.seq ≤ c.acked)).getD I.toNat default).reply.text])] rfl (by kernel_rfl) (oc (hrowK.1 I.toNat (by omega)) (oc (by omega) (oc (by omega) on))) (fun w hk hr => ⟨(rowA_fld (i := k) (hr _ (.head _)) (by omega) 4 1 (by rw [hgL6]; rfl)), ⟨(rowA_fld (i := I.toNat) (hr _ (.tail _ (.head _))) (by omega) 1 3 rfl), trivial⟩⟩) ?_)))
                        refine Hl ⟨[(6, .v (.slice A1 S1.length c1)), (124, .v (((S1.getD k default).replies.xs.filter fun z : DKept => !decide (z.seq ≤ c.acked)).getD I.toNat default).reply.val), (123, .v (.pointer (some (((oad (S1.getD k default).replies.A).add (I.toNat * 4)).add 1)))), (122, .v (.pointer (some ((oad (S1.getD k default).replies.A).add (I.toNat * 4))))), (121, vI I), (120, .v (.slice (S1.getD k default).replies.A ((S1.getD k default).replies.xs.filter fun z : DKept => !decide (z.seq ≤ c.acked)).length (S1.getD k default).replies.c)), (119, .v (.pointer (some (((oad A1).add (k * 5)).add 4)))), (118, .v (.pointer (some ((oad A1).add (k * 5))))), (117, .v (.pointer (some ((oad A1).add (k * 5))))), (116, .v (.slice A1 S1.length c1)), (115, vB true), (14, vI I), (13, .p 2 0), (0, .v (.slice A1 S1.length c1)), (7, .p 1 0), (5, .p 0 0)], [⟨63, c.cs⟩, ⟨40, (((S1.getD k default).replies.xs.filter fun z : DKept => !decide (z.seq ≤ c.acked)).getD I.toNat default).reply.cs⟩, ⟨124, [.v (.pointer (some ((oad A1).add (k * 5))))]⟩]⟩ (by kernel_rfl) (fun bs0 bs w hp hl hS => hS.down hp hl rfl (le_same (le_mask (le_same le_nil))) (List.Sublist.refl _)) ?_
                        refine Hq [] [(11, true), (12, true)] [(9, vI 0), (8, vB false), (6, .v (.slice A1 S1.length c1)), (124, .v (((S1.getD k default).replies.xs.filter fun z : DKept => !decide (z.seq ≤ c.acked)).getD I.toNat default).reply.val), (123, .v (.pointer (some (((oad (S1.getD k default).replies.A).add (I.toNat * 4)).add 1)))), (122, .v (.pointer (some ((oad (S1.getD k default).replies.A).add (I.toNat * 4))))), (121, vI I), (120, .v (.slice (S1.getD k default).replies.A ((S1.getD k default).replies.xs.filter fun z : DKept => !decide (z.seq ≤ c.acked)).length (S1.getD k default).replies.c)), (119, .v (.pointer (some (((oad A1).add (k * 5)).add 4)))), (118, .v (.pointer (some ((oad A1).add (k * 5))))), (117, .v (.pointer (some ((oad A1).add (k * 5))))), (116, .v (.slice A1 S1.length c1)), (115, vB true), (14, vI I), (13, .p 2 0), (0, .v (.slice A1 S1.length c1)), (7, .p 1 0), (5, .p 0 0)] [] [] rfl (by kernel_rfl) on wn ?_
                        refine Hn (Ln (Qn (Cr (Qr (Rt (.inl rfl) [.v (.slice A1 S1.length c1), .v (.agg #[.int .i64 (((S1.getD k default).replies.xs.filter fun z : DKept => !decide (z.seq ≤ c.acked)).getD I.toNat default).reply.code, .int .i64 (((S1.getD k default).replies.xs.filter fun z : DKept => !decide (z.seq ≤ c.acked)).getD I.toNat default).reply.n, .string (((S1.getD k default).replies.xs.filter fun z : DKept => !decide (z.seq ≤ c.acked)).getD I.toNat default).reply.text]), vB false, vI 0] rfl (fun bs w hS => ?_))))))
                        have hv : ¬ rInv n c := by unfold rInv; omega
                        rw [← hF1]
                        have ha := ans_kept hak hll (idx_at hIx) h10 h11
                        have hm := ready_one (c := c) hm1 hv (K := k) (by show ¬ mIdx _ _ < 0; rw [hJ]; omega) (by show (mIdx _ _).toNat = _; rw [hJ]; rfl) h8 (kSess_of hak hll) ha
                        have hvx := setS_map hbL6
                        refine ⟨⟨A1, c1, L6⟩, ?_, ?_, hS.outS (y := (⟨A1, c1, L6⟩ : Sl CSession)) (out_sessG (.head _) hS.res (fun x hx => ?_))⟩
                        · have hll2 : S1.length = L6.length := by rw [hbL6, List.length_set]
                          rw [hm]
                          exact congrArg (fun q => Ending.returned (.tuple #[.slice A1 q c1, .agg #[.int .i64 (((S1.getD k default).replies.xs.filter fun z : DKept => !decide (z.seq ≤ c.acked)).getD I.toNat default).reply.code, .int .i64 (((S1.getD k default).replies.xs.filter fun z : DKept => !decide (z.seq ≤ c.acked)).getD I.toNat default).reply.n, .string (((S1.getD k default).replies.xs.filter fun z : DKept => !decide (z.seq ≤ c.acked)).getD I.toNat default).reply.text], .bool false, .int .i64 0])) hll2
                        · exact Eq.trans hvx (congrArg Prod.fst hm).symm
                        · rw [hbL6] at hx
                          rcases mem_set_ne hx with hx | hx
                          · subst hx; exact allR_row (.tail _ (.head _)) (hS.res _ (.tail _ (.head _))) (fun z hz => hnm1 _ (mem_of_getD (L := S1) (i := k) (by omega)) z (List.mem_filter.1 hz).1)
                          · exact own_in (.tail _ (.tail _ (.head _))) hS.res (fun z hz => hnm1 z (List.mem_of_mem_eraseIdx hz)) hx
                      | false =>
                        have h11 := of_decide_eq_false h11
                        refine Ci false rfl (Ck (Qn (Cs (Cs (Cd 8 [] (.p 0 (.q 1 (.q 2 (.p 3 (.p 4 (.q 5 (.p 6 (.p 7 .nil)))))))) [] [rowA 98 A1 c1 (L6 : List CSession), rowA 101 (S1.getD k default).replies.A (S1.getD k default).replies.c ((S1.getD k default).replies.xs.filter fun z : DKept => !decide (z.seq ≤ c.acked) : List DKept), ownL (keptR 101) (List.eraseIdx S1 k)] Try_mixed (by kernel_rfl) (pq_then (pq_then pq_body)) (List.Sublist.refl _) (Hq [(5, .ext [.int .i64 c.acked])] [(0, true), (1, false), (2, false), (3, true), (4, true), (5, false), (6, true), (7, true)] [(132, vB (decide (c.acked + 4 < c.seq))), (131, vI (c.acked + 4)), (130, vI c.acked), (129, .v (.pointer (some (((oad A1).add (k * 5)).add 2)))), (128, .v (.pointer (some ((oad A1).add (k * 5))))), (127, .v (.pointer (some ((oad A1).add (k * 5))))), (126, vI c.seq), (125, .p 0 3), (115, vB false), (14, vI I), (13, .p 2 0), (0, .v (.slice A1 S1.length c1)), (7, .p 1 0), (5, .p 0 0)] [inR (c.acked + 4)] [(((oad A1).add (k * 5)).add 2, [.int .i64 c.acked])] rfl (by kernel_rfl) (oc (by unfold inR; omega) on) (fun w hk hr => ⟨(rowA_fld (i := k) (hr _ (.head _)) (by omega) 2 1 (by rw [hgL6]; rfl)), trivial⟩) (Hn (Ln (Qn ?_)))))))))
                        cases h12 : decide (c.acked + 4 < c.seq) with
                        | true =>
                          have h12 := of_decide_eq_true h12
                          refine Ci true rfl (Cs (Cg (Jq 6 [9, 8, 6, 7] 2 ⟨[(9, vI 0), (8, vB false), (6, .v (.slice A1 S1.length c1)), (7, .p 1 0)], [⟨63, c.cs⟩, ⟨40, [vI 2, vI 0, vS emp]⟩]⟩ (Ln (Qn (Cr (Qr (Rt (.inl rfl) [.v (.slice A1 S1.length c1), .v (.agg #[.int .i64 2, .int .i64 0, .string emp]), vB false, vI 0] rfl (fun bs w hS => ?_)))))))))
                          have hv : ¬ rInv n c := by unfold rInv; omega
                          rw [← hF1]
                          have ha := ans_far hak hll (idx_at hIx) h10 h11 h12
                          have hm := ready_one (c := c) hm1 hv (K := k) (by show ¬ mIdx _ _ < 0; rw [hJ]; omega) (by show (mIdx _ _).toNat = _; rw [hJ]; rfl) h8 (kSess_of hak hll) ha
                          have hvx := setS_map hbL6
                          refine ⟨⟨A1, c1, L6⟩, ?_, ?_, hS.outS (y := (⟨A1, c1, L6⟩ : Sl CSession)) (out_sessG (.head _) hS.res (fun x hx => ?_))⟩
                          · have hll2 : S1.length = L6.length := by rw [hbL6, List.length_set]
                            rw [hm]
                            exact congrArg (fun q => Ending.returned (.tuple #[.slice A1 q c1, .agg #[.int .i64 2, .int .i64 0, .string emp], .bool false, .int .i64 0])) hll2
                          · exact Eq.trans hvx (congrArg Prod.fst hm).symm
                          · rw [hbL6] at hx
                            rcases mem_set_ne hx with hx | hx
                            · subst hx; exact allR_row (.tail _ (.head _)) (hS.res _ (.tail _ (.head _))) (fun z hz => hnm1 _ (mem_of_getD (L := S1) (i := k) (by omega)) z (List.mem_filter.1 hz).1)
                            · exact own_in (.tail _ (.tail _ (.head _))) hS.res (fun z hz => hnm1 z (List.mem_of_mem_eraseIdx hz)) hx
                        | false =>
                          have h12 := of_decide_eq_false h12
                          refine Ci false rfl (Ck (Qn (Cs (Cg (Jq 6 [9, 8, 6, 7] 2 ⟨[(9, vI 0), (8, vB true), (6, .v (.slice A1 S1.length c1)), (7, .p 1 0)], [⟨63, c.cs⟩, ⟨40, [vI 0, vI 0, vS emp]⟩]⟩ (Ln (Qn (Cr (Rt (.inl rfl) [.v (.slice A1 S1.length c1), .v (.agg #[.int .i64 0, .int .i64 0, .string emp]), vB true, vI 0] rfl (fun bs w hS => ?_))))))))))
                          have hv : ¬ rInv n c := by unfold rInv; omega
                          rw [← hF1]
                          have ha := ans_new hak hll (idx_at hIx) h10 h11 h12
                          have hm := ready_one (c := c) hm1 hv (K := k) (by show ¬ mIdx _ _ < 0; rw [hJ]; omega) (by show (mIdx _ _).toNat = _; rw [hJ]; rfl) h8 (kSess_of hak hll) ha
                          have hvx := setS_map hbL6
                          refine ⟨⟨A1, c1, L6⟩, ?_, ?_, hS.outS (y := (⟨A1, c1, L6⟩ : Sl CSession)) (out_sessG (.head _) hS.res (fun x hx => ?_))⟩
                          · have hll2 : S1.length = L6.length := by rw [hbL6, List.length_set]
                            rw [hm]
                            exact congrArg (fun q => Ending.returned (.tuple #[.slice A1 q c1, .agg #[.int .i64 0, .int .i64 0, .string emp], .bool true, .int .i64 0])) hll2
                          · exact Eq.trans hvx (congrArg Prod.fst hm).symm
                          · rw [hbL6] at hx
                            rcases mem_set_ne hx with hx | hx
                            · subst hx; exact allR_row (.tail _ (.head _)) (hS.res _ (.tail _ (.head _))) (fun z hz => hnm1 _ (mem_of_getD (L := S1) (i := k) (by omega)) z (List.mem_filter.1 hz).1)
                            · exact own_in (.tail _ (.tail _ (.head _))) hS.res (fun z hz => hnm1 z (List.mem_of_mem_eraseIdx hz)) hx
                  | false =>
                    have h9 := of_decide_eq_false h9
                    have hak : kAck (S1.getD k default).abs c = (S1.getD k default).acked := ack_same (d := (S1.getD k default).abs) h9
                    have hll : kLeft (S1.getD k default).abs c = (S1.getD k default).replies.xs := left_same (d := (S1.getD k default).abs) hak hk5.2.2.2.2
                    refine Ci false rfl (Ck (Qn (Cs (Cs (Cd 7 [] (.p 0 (.q 1 (.q 2 (.p 3 (.p 4 (.q 5 (.p 6 .nil))))))) [] [rowA 98 A1 c1 (L3 : List CSession), ownL (keptR 101) S1] Try_mixed (by kernel_rfl) (pq_then (pq_then pq_body)) (List.Sublist.refl _) (Hq [(5, .ext [.int .i64 (S1.getD k default).acked])] [(0, true), (1, false), (2, false), (3, true), (4, true), (5, false), (6, true)] [(105, vB (decide (c.seq ≤ (S1.getD k default).acked))), (104, vI (S1.getD k default).acked), (103, .v (.pointer (some (((oad A1).add (k * 5)).add 2)))), (102, .v (.pointer (some ((oad A1).add (k * 5))))), (101, .v (.pointer (some ((oad A1).add (k * 5))))), (100, vI c.seq), (99, .p 0 3), (84, vB false), (83, vI (S1.getD k default).acked), (82, .v (.pointer (some (((oad A1).add (k * 5)).add 2)))), (81, .v (.pointer (some ((oad A1).add (k * 5))))), (80, .v (.pointer (some ((oad A1).add (k * 5))))), (79, vI c.acked), (78, .p 0 4), (77, .v (.pointer (some (((oad A1).add (k * 5)).add 3)))), (75, vI (n + 1)), (13, .p 2 0), (0, .v (.slice A1 S1.length c1)), (7, .p 1 0), (5, .p 0 0)] [] [(((oad A1).add (k * 5)).add 2, [.int .i64 (S1.getD k default).acked])] rfl (by kernel_rfl) on (fun w hk hr => ⟨(rowA_fld (i := k) (hr _ (.head _)) (by omega) 2 1 (by rw [hgL3]; rfl)), trivial⟩) (Hn (Ln (Qn ?_)))))))))
                    cases h13 : decide (c.seq ≤ (S1.getD k default).acked) with
                    | true =>
                      have h13 := of_decide_eq_true h13
                      refine Ci true rfl (Cs (Cg (Jq 6 [9, 8, 6, 7] 2 ⟨[(9, vI 0), (8, vB false), (6, .v (.slice A1 S1.length c1)), (7, .p 1 0)], [⟨63, c.cs⟩, ⟨40, [vI 12, vI 0, vS emp]⟩]⟩ (Ln (Qn (Cr (Qr (Rt (.inl rfl) [.v (.slice A1 S1.length c1), .v (.agg #[.int .i64 12, .int .i64 0, .string emp]), vB false, vI 0] rfl (fun bs w hS => ?_)))))))))
                      have hv : ¬ rInv n c := by unfold rInv; omega
                      rw [← hF1]
                      have ha := ans_old hak h13
                      have hm := ready_one (c := c) hm1 hv (K := k) (by show ¬ mIdx _ _ < 0; rw [hJ]; omega) (by show (mIdx _ _).toNat = _; rw [hJ]; rfl) h8 (kSess_of hak hll) ha
                      have hvx := setS_map hbL3
                      refine ⟨⟨A1, c1, L3⟩, ?_, ?_, hS.outS (y := (⟨A1, c1, L3⟩ : Sl CSession)) (out_sessG (.head _) hS.res (fun x hx => ?_))⟩
                      · have hll2 : S1.length = L3.length := by rw [hbL3, List.length_set]
                        rw [hm]
                        exact congrArg (fun q => Ending.returned (.tuple #[.slice A1 q c1, .agg #[.int .i64 12, .int .i64 0, .string emp], .bool false, .int .i64 0])) hll2
                      · exact Eq.trans hvx (congrArg Prod.fst hm).symm
                      · rw [hbL3] at hx
                        rcases mem_set hx with hx | hx
                        · subst hx; exact own_in (x := (S1.getD k default)) (.tail _ (.head _)) hS.res hnm1 (mem_of_getD (L := S1) (i := k) (by omega))
                        · exact own_in (.tail _ (.head _)) hS.res hnm1 hx
                    | false =>
                      have h13 := of_decide_eq_false h13
                      refine Ci false rfl (Ck (Qn (Cs (Cs (Cg (Jr 5 [(3, .ext [.slice (S1.getD k default).replies.A (S1.getD k default).replies.n (S1.getD k default).replies.c])] [112, 111, 13, 0, 7, 5] 3 ⟨[(112, .fn 89 [(0, 0)]), (111, .v (S1.getD k default).replies.val), (13, .p 2 0), (0, .v (.slice A1 S1.length c1)), (7, .p 1 0), (5, .p 0 0)], [⟨63, c.cs⟩, ⟨40, [vI 0, vI 0, vS emp]⟩, ⟨124, [.v (.pointer (some ((oad A1).add (k * 5))))]⟩]⟩ [] [(((oad A1).add (k * 5)).add 4, [.slice (S1.getD k default).replies.A (S1.getD k default).replies.n (S1.getD k default).replies.c])] (by kernel_rfl) on (fun w hk hr => ⟨(rowA_fld (i := k) (hr _ (.head _)) (by omega) 4 1 (by rw [hgL3]; rfl)), trivial⟩) (Lp 88 [] [.v (.slice (S1.getD k default).replies.A (S1.getD k default).replies.n (S1.getD k default).replies.c), .fn 89 [(0, 0)]] (.int .i64 (mIdx (fun z : DKept => decide (z.seq = c.seq)) (S1.getD k default).replies.xs)) Try.call88 rfl rfl rfl rfl (fun bs w hS => idx_Kept (S1.getD k default).replies (fun z : DKept => decide (z.seq = c.seq)) 89 #[.pointer (some (adr bs 0 0))] w (own_elt (hS.res _ (.tail _ (.head _))) hnm1 (mem_of_getD (i := k) (by omega))) Try.call89 (fun w' z hz hk => clo_session_Ready_2 z c (bs.getD 0 0) w' (show (blkR _ _ _).p w' from (hS.pure hk).loc 0 ⟨63, [vI c.kind, vI c.client, vI c.session, vI c.seq, vI c.acked, vI c.op.kind, vS c.op.a, vS c.op.b, vI c.op.n]⟩ rfl (by simp)))) ?_)))))))
                      have hIb := mIdx_bd (fun z : DKept => decide (z.seq = c.seq)) (S1.getD k default).replies.xs
                      generalize hIx : mIdx (fun z : DKept => decide (z.seq = c.seq)) (S1.getD k default).replies.xs = I at hIb ⊢
                      refine Jq 1 [14, 13, 0, 7, 5] 3 ⟨[(14, vI I), (13, .p 2 0), (0, .v (.slice A1 S1.length c1)), (7, .p 1 0), (5, .p 0 0)], [⟨63, c.cs⟩, ⟨40, [vI 0, vI 0, vS emp]⟩, ⟨124, [.v (.pointer (some ((oad A1).add (k * 5))))]⟩]⟩ (Ln (Qn (Cs (Cg (Jq 2 [115, 14, 13, 0, 7, 5] 3 ⟨[(115, vB (decide ((0 : Int) ≤ I))), (14, vI I), (13, .p 2 0), (0, .v (.slice A1 S1.length c1)), (7, .p 1 0), (5, .p 0 0)], [⟨63, c.cs⟩, ⟨40, [vI 0, vI 0, vS emp]⟩, ⟨124, [.v (.pointer (some ((oad A1).add (k * 5))))]⟩]⟩ (Ln (Qn ?_)))))))
                      cases h14 : decide ((0 : Int) ≤ I) with
                      | true =>
                        have h14 := of_decide_eq_true h14
                        refine Ci true rfl (Cs (Cd 13 [] (.p 0 (.q 1 (.p 2 (.p 3 (.q 4 (.p 5 (.p 6 (.p 7 (.q 8 (.p 9 (.b 10 (.p 11 (.p 12 .nil)) .z))))))))))) [1] [rowA 98 A1 c1 (L3 : List CSession), ownL (keptR 101) S1] Try_mixed (by kernel_rfl) (pq_then (pq_then pq_body)) (List.Sublist.refl _) (Hq [(4, .ext [.slice (S1.getD k default).replies.A (S1.getD k default).replies.n (S1.getD k default).replies.c]), (6, .idx (S1.getD k default).replies.ad I.toNat), (8, .ext [.int .i64 ((S1.getD k default).replies.at I.toNat).reply.code, .int .i64 ((S1.getD k default).replies.at I.toNat).reply.n, .string ((S1.getD k default).replies.at I.toNat).reply.text])] [(0, true), (1, false), (2, true), (3, true), (4, false), (5, true), (6, true), (7, true), (8, false), (9, true)] [(6, .v (.slice A1 S1.length c1)), (124, .v ((S1.getD k default).replies.at I.toNat).reply.val), (123, .v (.pointer (some (((S1.getD k default).replies.ad.add (I.toNat * 4)).add 1)))), (122, .v (.pointer (some ((S1.getD k default).replies.ad.add (I.toNat * 4))))), (121, vI I), (120, .v (S1.getD k default).replies.val), (119, .v (.pointer (some (((oad A1).add (k * 5)).add 4)))), (118, .v (.pointer (some ((oad A1).add (k * 5))))), (117, .v (.pointer (some ((oad A1).add (k * 5))))), (116, .v (.slice A1 S1.length c1)), (115, vB true), (14, vI I), (13, .p 2 0), (0, .v (.slice A1 S1.length c1)), (7, .p 1 0), (5, .p 0 0)] [(S1.getD k default).replies.A = some (S1.getD k default).replies.ad, I = (I.toNat : Int), I.toNat < (S1.getD k default).replies.n] [(((oad A1).add (k * 5)).add 4, [.slice (S1.getD k default).replies.A (S1.getD k default).replies.n (S1.getD k default).replies.c]), (((S1.getD k default).replies.ad.add (I.toNat * 4)).add 1, [.int .i64 ((S1.getD k default).replies.at I.toNat).reply.code, .int .i64 ((S1.getD k default).replies.at I.toNat).reply.n, .string ((S1.getD k default).replies.at I.toNat).reply.text])] rfl (by kernel_rfl) (oc (Sl.ok.own (s := (S1.getD k default).replies) (i := I.toNat) (okown1 k (by omega)) (by omega)) (oc (by omega) (oc (by omega) on))) (fun w hk hr => ⟨(rowA_fld (i := k) (hr _ (.head _)) (by omega) 4 1 (by rw [hgL3]; rfl)), ⟨(Sl.rd.fld (s := (S1.getD k default).replies) (i := I.toNat) (own_elt (hr _ (.tail _ (.head _))) hnm1 (mem_of_getD (i := k) (by omega))) (by omega) 1 3 rfl), trivial⟩⟩) (Hl ⟨[(6, .v (.slice A1 S1.length c1)), (124, .v ((S1.getD k default).replies.at I.toNat).reply.val), (123, .v (.pointer (some (((S1.getD k default).replies.ad.add (I.toNat * 4)).add 1)))), (122, .v (.pointer (some ((S1.getD k default).replies.ad.add (I.toNat * 4))))), (121, vI I), (120, .v (S1.getD k default).replies.val), (119, .v (.pointer (some (((oad A1).add (k * 5)).add 4)))), (118, .v (.pointer (some ((oad A1).add (k * 5))))), (117, .v (.pointer (some ((oad A1).add (k * 5))))), (116, .v (.slice A1 S1.length c1)), (115, vB true), (14, vI I), (13, .p 2 0), (0, .v (.slice A1 S1.length c1)), (7, .p 1 0), (5, .p 0 0)], [⟨63, c.cs⟩, ⟨40, ((S1.getD k default).replies.at I.toNat).reply.cs⟩, ⟨124, [.v (.pointer (some ((oad A1).add (k * 5))))]⟩]⟩ (by kernel_rfl) (fun bs0 bs w hp hl hS => hS.down hp hl rfl (le_same (le_mask (le_same le_nil))) (List.Sublist.refl _)) ?_))))
                        refine Hq [] [(11, true), (12, true)] [(9, vI 0), (8, vB false), (6, .v (.slice A1 S1.length c1)), (124, .v ((S1.getD k default).replies.at I.toNat).reply.val), (123, .v (.pointer (some (((S1.getD k default).replies.ad.add (I.toNat * 4)).add 1)))), (122, .v (.pointer (some ((S1.getD k default).replies.ad.add (I.toNat * 4))))), (121, vI I), (120, .v (S1.getD k default).replies.val), (119, .v (.pointer (some (((oad A1).add (k * 5)).add 4)))), (118, .v (.pointer (some ((oad A1).add (k * 5))))), (117, .v (.pointer (some ((oad A1).add (k * 5))))), (116, .v (.slice A1 S1.length c1)), (115, vB true), (14, vI I), (13, .p 2 0), (0, .v (.slice A1 S1.length c1)), (7, .p 1 0), (5, .p 0 0)] [] [] rfl (by kernel_rfl) on wn ?_
                        refine Hn (Ln (Qn (Cr (Qr (Rt (.inl rfl) [.v (.slice A1 S1.length c1), .v (.agg #[.int .i64 ((S1.getD k default).replies.at I.toNat).reply.code, .int .i64 ((S1.getD k default).replies.at I.toNat).reply.n, .string ((S1.getD k default).replies.at I.toNat).reply.text]), vB false, vI 0] rfl (fun bs w hS => ?_))))))
                        have hv : ¬ rInv n c := by unfold rInv; omega
                        rw [← hF1]
                        have ha := ans_kept hak hll (idx_at hIx) h13 h14
                        have hm := ready_one (c := c) hm1 hv (K := k) (by show ¬ mIdx _ _ < 0; rw [hJ]; omega) (by show (mIdx _ _).toNat = _; rw [hJ]; rfl) h8 (kSess_of hak hll) ha
                        have hvx := setS_map hbL3
                        refine ⟨⟨A1, c1, L3⟩, ?_, ?_, hS.outS (y := (⟨A1, c1, L3⟩ : Sl CSession)) (out_sessG (.head _) hS.res (fun x hx => ?_))⟩
                        · have hll2 : S1.length = L3.length := by rw [hbL3, List.length_set]
                          rw [hm]
                          exact congrArg (fun q => Ending.returned (.tuple #[.slice A1 q c1, .agg #[.int .i64 ((S1.getD k default).replies.at I.toNat).reply.code, .int .i64 ((S1.getD k default).replies.at I.toNat).reply.n, .string ((S1.getD k default).replies.at I.toNat).reply.text], .bool false, .int .i64 0])) hll2
                        · exact Eq.trans hvx (congrArg Prod.fst hm).symm
                        · rw [hbL3] at hx
                          rcases mem_set hx with hx | hx
                          · subst hx; exact own_in (x := (S1.getD k default)) (.tail _ (.head _)) hS.res hnm1 (mem_of_getD (L := S1) (i := k) (by omega))
                          · exact own_in (.tail _ (.head _)) hS.res hnm1 hx
                      | false =>
                        have h14 := of_decide_eq_false h14
                        refine Ci false rfl (Ck (Qn (Cs (Cs (Cd 8 [] (.p 0 (.q 1 (.q 2 (.p 3 (.p 4 (.q 5 (.p 6 (.p 7 .nil)))))))) [] [rowA 98 A1 c1 (L3 : List CSession), ownL (keptR 101) S1] Try_mixed (by kernel_rfl) (pq_then (pq_then pq_body)) (List.Sublist.refl _) (Hq [(5, .ext [.int .i64 (S1.getD k default).acked])] [(0, true), (1, false), (2, false), (3, true), (4, true), (5, false), (6, true), (7, true)] [(132, vB (decide ((S1.getD k default).acked + 4 < c.seq))), (131, vI ((S1.getD k default).acked + 4)), (130, vI (S1.getD k default).acked), (129, .v (.pointer (some (((oad A1).add (k * 5)).add 2)))), (128, .v (.pointer (some ((oad A1).add (k * 5))))), (127, .v (.pointer (some ((oad A1).add (k * 5))))), (126, vI c.seq), (125, .p 0 3), (115, vB false), (14, vI I), (13, .p 2 0), (0, .v (.slice A1 S1.length c1)), (7, .p 1 0), (5, .p 0 0)] [inR ((S1.getD k default).acked + 4)] [(((oad A1).add (k * 5)).add 2, [.int .i64 (S1.getD k default).acked])] rfl (by kernel_rfl) (oc (by unfold inR; omega) on) (fun w hk hr => ⟨(rowA_fld (i := k) (hr _ (.head _)) (by omega) 2 1 (by rw [hgL3]; rfl)), trivial⟩) (Hn (Ln (Qn ?_)))))))))
                        cases h15 : decide ((S1.getD k default).acked + 4 < c.seq) with
                        | true =>
                          have h15 := of_decide_eq_true h15
                          refine Ci true rfl (Cs (Cg (Jq 6 [9, 8, 6, 7] 2 ⟨[(9, vI 0), (8, vB false), (6, .v (.slice A1 S1.length c1)), (7, .p 1 0)], [⟨63, c.cs⟩, ⟨40, [vI 2, vI 0, vS emp]⟩]⟩ (Ln (Qn (Cr (Qr (Rt (.inl rfl) [.v (.slice A1 S1.length c1), .v (.agg #[.int .i64 2, .int .i64 0, .string emp]), vB false, vI 0] rfl (fun bs w hS => ?_)))))))))
                          have hv : ¬ rInv n c := by unfold rInv; omega
                          rw [← hF1]
                          have ha := ans_far hak hll (idx_at hIx) h13 h14 h15
                          have hm := ready_one (c := c) hm1 hv (K := k) (by show ¬ mIdx _ _ < 0; rw [hJ]; omega) (by show (mIdx _ _).toNat = _; rw [hJ]; rfl) h8 (kSess_of hak hll) ha
                          have hvx := setS_map hbL3
                          refine ⟨⟨A1, c1, L3⟩, ?_, ?_, hS.outS (y := (⟨A1, c1, L3⟩ : Sl CSession)) (out_sessG (.head _) hS.res (fun x hx => ?_))⟩
                          · have hll2 : S1.length = L3.length := by rw [hbL3, List.length_set]
                            rw [hm]
                            exact congrArg (fun q => Ending.returned (.tuple #[.slice A1 q c1, .agg #[.int .i64 2, .int .i64 0, .string emp], .bool false, .int .i64 0])) hll2
                          · exact Eq.trans hvx (congrArg Prod.fst hm).symm
                          · rw [hbL3] at hx
                            rcases mem_set hx with hx | hx
                            · subst hx; exact own_in (x := (S1.getD k default)) (.tail _ (.head _)) hS.res hnm1 (mem_of_getD (L := S1) (i := k) (by omega))
                            · exact own_in (.tail _ (.head _)) hS.res hnm1 hx
                        | false =>
                          have h15 := of_decide_eq_false h15
                          refine Ci false rfl (Ck (Qn (Cs (Cg (Jq 6 [9, 8, 6, 7] 2 ⟨[(9, vI 0), (8, vB true), (6, .v (.slice A1 S1.length c1)), (7, .p 1 0)], [⟨63, c.cs⟩, ⟨40, [vI 0, vI 0, vS emp]⟩]⟩ (Ln (Qn (Cr (Rt (.inl rfl) [.v (.slice A1 S1.length c1), .v (.agg #[.int .i64 0, .int .i64 0, .string emp]), vB true, vI 0] rfl (fun bs w hS => ?_))))))))))
                          have hv : ¬ rInv n c := by unfold rInv; omega
                          rw [← hF1]
                          have ha := ans_new hak hll (idx_at hIx) h13 h14 h15
                          have hm := ready_one (c := c) hm1 hv (K := k) (by show ¬ mIdx _ _ < 0; rw [hJ]; omega) (by show (mIdx _ _).toNat = _; rw [hJ]; rfl) h8 (kSess_of hak hll) ha
                          have hvx := setS_map hbL3
                          refine ⟨⟨A1, c1, L3⟩, ?_, ?_, hS.outS (y := (⟨A1, c1, L3⟩ : Sl CSession)) (out_sessG (.head _) hS.res (fun x hx => ?_))⟩
                          · have hll2 : S1.length = L3.length := by rw [hbL3, List.length_set]
                            rw [hm]
                            exact congrArg (fun q => Ending.returned (.tuple #[.slice A1 q c1, .agg #[.int .i64 0, .int .i64 0, .string emp], .bool true, .int .i64 0])) hll2
                          · exact Eq.trans hvx (congrArg Prod.fst hm).symm
                          · rw [hbL3] at hx
                            rcases mem_set hx with hx | hx
                            · subst hx; exact own_in (x := (S1.getD k default)) (.tail _ (.head _)) hS.res hnm1 (mem_of_getD (L := S1) (i := k) (by omega))
                            · exact own_in (.tail _ (.head _)) hS.res hnm1 hx
                | false =>
                  have h8 := of_decide_eq_false h8
                  refine Ci true rfl (Cs (Cg (Jq 6 [9, 8, 6, 7] 2 ⟨[(9, vI 0), (8, vB false), (6, .v (.slice A1 S1.length c1)), (7, .p 1 0)], [⟨63, c.cs⟩, ⟨40, [vI 11, vI 0, vS emp]⟩]⟩ (Ln (Qn (Cr (Qr (Rt (.inl rfl) [.v (.slice A1 S1.length c1), .v (.agg #[.int .i64 11, .int .i64 0, .string emp]), vB false, vI 0] rfl (fun bs w hS => ?_)))))))))
                  have hv : ¬ rInv n c := by unfold rInv; omega
                  rw [← hF1]
                  have hm := ready_other (c := c) hm1 hv (K := k) (by show (mIdx _ _).toNat = _; rw [hJ]; rfl) h8
                  refine ⟨⟨A1, c1, S1⟩, ?_, ?_, hS.outS (y := (⟨A1, c1, S1⟩ : Sl CSession)) (out_sessG (.tail _ (.head _)) hS.res (fun x hx => ?_))⟩
                  · rw [hm] <;> rfl
                  · exact (congrArg Prod.fst hm).symm
                  · exact own_in (.head _) hS.res hnm1 hx
              | false =>
                have h0J := of_decide_eq_false (hbs.1.symm.trans h7)
                refine Hq [] [(3, true), (4, true), (5, true), (6, true), (7, false), (8, true), (9, false), (10, true), (11, true)] [(67, vB true), (66, .v (undef)), (65, .v (undef)), (64, .v (undef)), (63, .v (undef)), (62, .v (undef)), (61, .v (undef)), (60, .v (undef)), (59, .v (undef)), (58, vB true), (57, vB true), (56, vB false), (12, vB false), (11, vI (k : Int)), (0, .v (.slice A1 S1.length c1)), (7, .p 1 0), (5, .p 0 0), (1, vI n)] [] [] rfl (by kernel_rfl) on wn ?_
                refine Hn (Ln (Qn (Ci true rfl (Cs (Cg (Jq 6 [9, 8, 6, 7] 2 ⟨[(9, vI 0), (8, vB false), (6, .v (.slice A1 S1.length c1)), (7, .p 1 0)], [⟨63, c.cs⟩, ⟨40, [vI 11, vI 0, vS emp]⟩]⟩ (Ln (Qn (Cr (Qr (Rt (.inl rfl) [.v (.slice A1 S1.length c1), .v (.agg #[.int .i64 11, .int .i64 0, .string emp]), vB false, vI 0] rfl (fun bs w hS => ?_))))))))))))
                have hv : ¬ rInv n c := by unfold rInv; omega
                rw [← hF1]
                have hm := ready_none (l := S1.map CSession.abs) (c := c) hm1 hv (by show mIdx _ _ < 0; rw [hJ]; omega)
                refine ⟨⟨A1, c1, S1⟩, ?_, ?_, hS.outS (y := (⟨A1, c1, S1⟩ : Sl CSession)) (out_sessG (.tail _ (.head _)) hS.res (fun x hx => ?_))⟩
                · rw [hm] <;> rfl
                · exact (congrArg Prod.fst hm).symm
                · exact own_in (.head _) hS.res hnm1 hx
  | false =>
    have h1 := of_decide_eq_false h1
    refine Ci true rfl (Cs (Cg (Jq 6 [9, 8, 6, 7] 2 ⟨[(9, vI (mSess (s.xs.map CSession.abs) n)), (8, vB false), (6, .v (.slice none 0 0)), (7, .p 1 0)], [⟨63, c.cs⟩, ⟨40, [vI 0, vI 0, vS emp]⟩]⟩ (Ln (Qn (Cr (Qr (Rt (.inl rfl) [.v (.slice none 0 0), .v (.agg #[.int .i64 0, .int .i64 0, .string emp]), vB false, vI (mSess (s.xs.map CSession.abs) n)] rfl (fun bs w hS => ?_)))))))))
    have hm := ready_bad (c := c) h1
    refine ⟨Sl.nil, ?_, ?_, hS.outS (Sl.rd_nil _ _)⟩
    · rw [hm] <;> rfl
    · rw [hm] <;> rfl

end Go.Proofs.Ytececkgjacccmac.W
