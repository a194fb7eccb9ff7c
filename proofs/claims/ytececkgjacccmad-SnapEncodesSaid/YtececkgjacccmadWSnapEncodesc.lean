/-
  The functions that the law SnapEncodes reaches, walked: each returns what its model says.
  Conditions: those that each theorem states.
-/
import Derived.Test.YtececkgjacccmadWSnapEncodesb
set_option linter.unusedVariables false
set_option linter.unusedSimpArgs false
set_option maxRecDepth 100000
namespace Go.Proofs.Ytececkgjacccmad.W
open Go.Proofs.Ytececkgjacccmad.Fw Go.RowKit

theorem snap_Encode {B : Nat → Prop} (s : CState) (w : World) (hs : Rds.sub B w s) : Calls Try.prog 28 #[.agg #[.int .i64 s.index, .slice s.locks.A s.locks.n s.locks.c, .slice s.pairs.A s.pairs.n s.pairs.c, .slice s.sessions.A s.sessions.n s.sessions.c]] w fun e w' => e = .returned (.tuple #[.string (mSnap s.abs).1, .int .i64 (mSnap s.abs).2]) ∧ Kp [] w w' := by
  have he0 : emp.size = 0 := rfl
  have okx := Rds.okof hs
  have oks := okx.1
  have okp := okx.2.1
  have oke := okx.2.2
  have ncs := Sl.ok.nc oks
  have ncp := Sl.ok.nc okp
  have nce := Sl.ok.nc oke
  have hns : s.locks.n = s.locks.xs.length := rfl
  have hnp : s.pairs.n = s.pairs.xs.length := rfl
  have hne : s.sessions.n = s.sessions.xs.length := rfl
  have hll : s.abs.locks.length = s.locks.n := List.length_map _
  have hlp : s.abs.pairs.length = s.pairs.n := rfl
  have hle : s.abs.sessions.length = s.sessions.n := List.length_map _
  have hal : ∀ q, s.abs.locks.getD q default = (s.locks.at q).abs := fun q => abs_at q
  have hap : ∀ q, s.abs.pairs.getD q default = s.pairs.at q := fun _ => rfl
  have hae : ∀ q, s.abs.sessions.getD q default = (s.sessions.at q).abs := fun q => sabs_at q
  refine calls_J0 144 Try.func28 rfl rfl [.agg #[.int .i64 s.index, .slice s.locks.A s.locks.n s.locks.c, .slice s.pairs.A s.pairs.n s.pairs.c, .slice s.sessions.A s.sessions.n s.sessions.c]] rfl ?_
  refine c_seq ?_
  refine c_region ?_
  refine JL_run 3 [] [1] 1 ⟨[(1, .p 0 0)], [⟨48, [vI s.index, .v (.slice s.locks.A s.locks.n s.locks.c), .v (.slice s.pairs.A s.pairs.n s.pairs.c), .v (.slice s.sessions.A s.sessions.n s.sessions.c)]⟩]⟩ [] [] (by kernel_rfl) on wn ?_
  refine l_nil (q_then_normal ?_)
  refine c_seq ?_
  refine c_seq ?_
  refine c_region ?_
  refine JL_run 1 [] [14, 1] 1 ⟨[(14, .v (.agg #[.int .i64 s.index, .slice s.locks.A s.locks.n s.locks.c, .slice s.pairs.A s.pairs.n s.pairs.c, .slice s.sessions.A s.sessions.n s.sessions.c])), (1, .p 0 0)], [⟨48, [vI s.index, .v (.slice s.locks.A s.locks.n s.locks.c), .v (.slice s.pairs.A s.pairs.n s.pairs.c), .v (.slice s.sessions.A s.sessions.n s.sessions.c)]⟩]⟩ [] [] (by kernel_rfl) on wn ?_
  refine l_pure 69 [] [.v (.agg #[.int .i64 s.index, .slice s.locks.A s.locks.n s.locks.c, .slice s.pairs.A s.pairs.n s.pairs.c, .slice s.sessions.A s.sessions.n s.sessions.c])] (.int .i64 (mState s.abs)) Try.call69 rfl rfl rfl rfl (fun bs w hS => machine_Check s w (Rds.kp hs hS.kp)) ?_
  refine JL_run 1 [] [4, 1] 1 ⟨[(4, vI (mState s.abs)), (1, .p 0 0)], [⟨48, [vI s.index, .v (.slice s.locks.A s.locks.n s.locks.c), .v (.slice s.pairs.A s.pairs.n s.pairs.c), .v (.slice s.sessions.A s.sessions.n s.sessions.c)]⟩]⟩ [] [] (by kernel_rfl) on wn ?_
  refine l_nil (q_then_normal ?_)
  refine c_seq ?_
  refine c_region ?_
  refine JL_run 2 [] [17, 4, 1] 1 ⟨[(17, vB (!(decide (mState s.abs = 0)))), (4, vI (mState s.abs)), (1, .p 0 0)], [⟨48, [vI s.index, .v (.slice s.locks.A s.locks.n s.locks.c), .v (.slice s.pairs.A s.pairs.n s.pairs.c), .v (.slice s.sessions.A s.sessions.n s.sessions.c)]⟩]⟩ [] [] (by kernel_rfl) on wn ?_
  refine l_nil (q_then_normal ?_)
  cases h1 : decide (mState s.abs = 0) with
  | true =>
    have h1 := of_decide_eq_true h1
    have hbd := mState_bd (x := s.abs) (by assumption)
    have hb1 := hbd.1
    have hb2 := hbd.2.1
    have hb3 := hbd.2.2.1
    have hb4 : ∀ q, (s.locks.at q).line.n ≤ 3 := fun q => by
      by_cases hq : q < s.locks.n
      · have := hbd.2.2.2.1 q (by rw [hll]; exact hq); rw [hal] at this; exact this
      · rw [at_out hq]; show 0 ≤ 3; omega
    have hb5 : ∀ q, (s.sessions.at q).replies.n ≤ 4 := fun q => by
      by_cases hq : q < s.sessions.n
      · have := hbd.2.2.2.2 q (by rw [hle]; exact hq); rw [hae] at this; exact this
      · rw [at_out hq]; show 0 ≤ 4; omega
    refine c_if false rfl ?_
    refine c_skip ?_
    refine q_then_normal ?_
    refine c_seq ?_
    refine c_region ?_
    refine JL_run 3 [] [5, 1] 2 ⟨[(5, .p 1 0), (1, .p 0 0)], [⟨48, [vI s.index, .v (.slice s.locks.A s.locks.n s.locks.c), .v (.slice s.pairs.A s.pairs.n s.pairs.c), .v (.slice s.sessions.A s.sessions.n s.sessions.c)]⟩, ⟨106, [vS emp]⟩]⟩ [] [] (by kernel_rfl) on wn ?_
    refine l_nil (q_then_normal ?_)
    refine c_seq ?_
    refine c_region ?_
    refine JL_run 7 [] [27, 21, 5, 1] 3 ⟨[(27, .s 2 0 2 2), (21, .p 1 0), (5, .p 1 0), (1, .p 0 0)], [⟨48, [vI s.index, .v (.slice s.locks.A s.locks.n s.locks.c), .v (.slice s.pairs.A s.pairs.n s.pairs.c), .v (.slice s.sessions.A s.sessions.n s.sessions.c)]⟩, ⟨106, [vS emp]⟩, ⟨3, [vI s.index, vI ((s.locks.n : Nat) : Int)]⟩]⟩ [] [] (by kernel_rfl) on wn ?_
    have hzn1 := mNums_size [(s.index : Int), (((s.locks.n : Nat) : Int) : Int)]
    simp only [List.length_cons, List.length_nil] at hzn1
    refine l_blkF (σ := Unit) 70 [] [.p 1 0, .s 2 0 2 2] 1 ⟨106, [vS emp]⟩ (fun _ => .tuple #[]) (fun _ => [vS (emp ++ mNums [(s.index : Int), (((s.locks.n : Nat) : Int) : Int)])]) (fun _ => True) rfl (by simp) Try.call70 rfl rfl rfl rfl (fun bs w hS hb => (snap_numbers emp (⟨some ⟨bs.getD 2 0, 0, none⟩, 2, [(s.index : Int), (((s.locks.n : Nat) : Int) : Int)]⟩ : Sl Int) (bs.getD 1 0) w hb (rd_local [(s.index : Int), (((s.locks.n : Nat) : Int) : Int)] (hS.loc 2 _ rfl (by simp)) (by simp)) (by show 2 ≤ 1048576; omega) (by first | omega | (simp only [ByteArray.size_append]; omega))).mono (fun e w' ⟨y, h1, h2, h3, h4⟩ => ⟨y, h1, h2, h3, h4⟩)) ?_
    rintro y _
    refine l_nil (q_then_normal ?_)
    refine c_seq ?_
    refine c_seq ?_
    refine c_region ?_
    refine JL_run 4 [] [32, 31, 30, 5, 1] 2 ⟨[(32, vI 0), (31, vI ((s.locks.n : Nat) : Int)), (30, .v (.slice s.locks.A s.locks.n s.locks.c)), (5, .p 1 0), (1, .p 0 0)], [⟨48, [vI s.index, .v (.slice s.locks.A s.locks.n s.locks.c), .v (.slice s.pairs.A s.pairs.n s.pairs.c), .v (.slice s.sessions.A s.sessions.n s.sessions.c)]⟩, ⟨106, [vS (emp ++ mNums [(s.index : Int), (((s.locks.n : Nat) : Int) : Int)])]⟩]⟩ [] [] (by kernel_rfl) on wn ?_
    refine l_nil (q_then_normal ?_)
    refine c_block ?_
    have hz00 : (emp ++ mNums [(s.index : Int), (((s.locks.n : Nat) : Int) : Int)]).size ≤ 40 := by first | omega | (simp only [ByteArray.size_append]; omega)
    generalize hu0 : emp ++ mNums [(s.index : Int), (((s.locks.n : Nat) : Int) : Int)] = z0 at hz00 ⊢
    refine c_loop (σ := Nat × ByteArray) (fun ⟨i0, u0⟩ => i0 ≤ s.locks.n ∧ u0 = (s.abs.locks.take i0).foldl lockS z0 ∧ u0.size ≤ 40 + i0 * 5100) (fun ⟨i0, u0⟩ => s.locks.n - i0) (fun ⟨i0, u0⟩ => []) (fun ⟨i0, u0⟩ => ⟨[(32, vI ((i0 : Nat) : Int)), (31, vI ((s.locks.n : Nat) : Int)), (30, .v (.slice s.locks.A s.locks.n s.locks.c)), (5, .p 1 0), (1, .p 0 0)], [⟨48, [vI s.index, .v (.slice s.locks.A s.locks.n s.locks.c), .v (.slice s.pairs.A s.pairs.n s.pairs.c), .v (.slice s.sessions.A s.sessions.n s.sessions.c)]⟩, ⟨106, [vS u0]⟩]⟩) ⟨0, z0⟩ ⟨Nat.zero_le _, rfl, by show z0.size ≤ 40 + 0 * 5100; omega⟩ (s_start [32, 31, 30, 5, 1] 2 (by kernel_rfl) rfl) ?_
    rintro ⟨i0, u0⟩ ⟨hi0, hI0, hz_0⟩
    have hb4i := hb4 i0
    have hb4x : (s.locks.at i0).line.xs.length ≤ 3 := hb4 i0
    refine c_seq ?_
    refine c_region ?_
    refine JL_run 1 [] [33, 32, 31, 30, 5, 1] 2 ⟨[(33, vB (decide (((i0 : Nat) : Int) < ((s.locks.n : Nat) : Int)))), (32, vI ((i0 : Nat) : Int)), (31, vI ((s.locks.n : Nat) : Int)), (30, .v (.slice s.locks.A s.locks.n s.locks.c)), (5, .p 1 0), (1, .p 0 0)], [⟨48, [vI s.index, .v (.slice s.locks.A s.locks.n s.locks.c), .v (.slice s.pairs.A s.pairs.n s.pairs.c), .v (.slice s.sessions.A s.sessions.n s.sessions.c)]⟩, ⟨106, [vS u0]⟩]⟩ [] [] (by kernel_rfl) on wn ?_
    refine l_nil (q_then_normal ?_)
    refine c_seq ?_
    cases h2 : decide (((i0 : Nat) : Int) < ((s.locks.n : Nat) : Int)) with
    | true =>
      have h2 := of_decide_eq_true h2
      refine c_if true rfl ?_
      refine c_skip ?_
      refine q_then_normal ?_
      refine c_seq ?_
      refine c_block ?_
      refine c_seq ?_
      refine c_region ?_
      refine JL_run 4 [(0, .idx s.locks.ad i0), (1, .ext [.string (s.locks.at i0).name, .int .i64 (s.locks.at i0).holder, .int .i64 (s.locks.at i0).fence, .slice (s.locks.at i0).line.A (s.locks.at i0).line.n (s.locks.at i0).line.c])] [7, 32, 31, 30, 5, 1] 3 ⟨[(7, .p 2 0), (32, vI ((i0 : Nat) : Int)), (31, vI ((s.locks.n : Nat) : Int)), (30, .v (.slice s.locks.A s.locks.n s.locks.c)), (5, .p 1 0), (1, .p 0 0)], [⟨48, [vI s.index, .v (.slice s.locks.A s.locks.n s.locks.c), .v (.slice s.pairs.A s.pairs.n s.pairs.c), .v (.slice s.sessions.A s.sessions.n s.sessions.c)]⟩, ⟨106, [vS u0]⟩, ⟨80, [vS (s.locks.at i0).name, vI (s.locks.at i0).holder, vI (s.locks.at i0).fence, .v (.slice (s.locks.at i0).line.A (s.locks.at i0).line.n (s.locks.at i0).line.c)]⟩]⟩ [s.locks.A = some s.locks.ad, ((i0 : Nat) : Int) = ((i0 : Nat) : Int), i0 < s.locks.n] [(s.locks.ad.add (i0 * 4), [.string (s.locks.at i0).name, .int .i64 (s.locks.at i0).holder, .int .i64 (s.locks.at i0).fence, .slice (s.locks.at i0).line.A (s.locks.at i0).line.n (s.locks.at i0).line.c])] (by kernel_rfl) (oc (Sl.ok.own (s := s.locks) (i := i0) (And.left okx) (by omega)) (oc rfl (oc (by omega) on))) (fun w hk hr => ⟨(Sl.rd.all (s := s.locks) (i := i0) (And.left (Rds.kp hs hk)) (by omega) rfl), trivial⟩) ?_
      refine l_nil (q_then_normal ?_)
      refine c_seq ?_
      refine c_region ?_
      refine JL_run 3 [] [38, 36, 7, 32, 31, 30, 5, 1] 3 ⟨[(38, vS (s.locks.at i0).name), (36, .p 1 0), (7, .p 2 0), (32, vI ((i0 : Nat) : Int)), (31, vI ((s.locks.n : Nat) : Int)), (30, .v (.slice s.locks.A s.locks.n s.locks.c)), (5, .p 1 0), (1, .p 0 0)], [⟨48, [vI s.index, .v (.slice s.locks.A s.locks.n s.locks.c), .v (.slice s.pairs.A s.pairs.n s.pairs.c), .v (.slice s.sessions.A s.sessions.n s.sessions.c)]⟩, ⟨106, [vS u0]⟩, ⟨80, [vS (s.locks.at i0).name, vI (s.locks.at i0).holder, vI (s.locks.at i0).fence, .v (.slice (s.locks.at i0).line.A (s.locks.at i0).line.n (s.locks.at i0).line.c)]⟩]⟩ [] [] (by kernel_rfl) on wn ?_
      have hzt3 := mTextB_size (s.locks.at i0).name
      refine l_blkF (σ := Unit) 71 [] [.p 1 0, vS (s.locks.at i0).name] 1 ⟨106, [vS u0]⟩ (fun _ => .tuple #[]) (fun _ => [vS (u0 ++ mTextB (s.locks.at i0).name)]) (fun _ => True) rfl (by simp) Try.call71 rfl rfl rfl rfl (fun bs w hS hb => (snap_text u0 (s.locks.at i0).name (bs.getD 1 0) w hb (And.left (Sl.ok.at (s := s.locks) (i := i0) (And.left okx) (by omega))) (by first | omega | (simp only [ByteArray.size_append]; omega))).mono (fun e w' ⟨y, h1, h2, h3, h4⟩ => ⟨y, h1, h2, h3, h4⟩)) ?_
      rintro y _
      refine l_nil (q_then_normal ?_)
      refine c_seq ?_
      refine c_region ?_
      refine JL_run 9 [] [48, 40, 7, 32, 31, 30, 5, 1] 4 ⟨[(48, .s 3 0 3 3), (40, .p 1 0), (7, .p 2 0), (32, vI ((i0 : Nat) : Int)), (31, vI ((s.locks.n : Nat) : Int)), (30, .v (.slice s.locks.A s.locks.n s.locks.c)), (5, .p 1 0), (1, .p 0 0)], [⟨48, [vI s.index, .v (.slice s.locks.A s.locks.n s.locks.c), .v (.slice s.pairs.A s.pairs.n s.pairs.c), .v (.slice s.sessions.A s.sessions.n s.sessions.c)]⟩, ⟨106, [vS (u0 ++ mTextB (s.locks.at i0).name)]⟩, ⟨80, [vS (s.locks.at i0).name, vI (s.locks.at i0).holder, vI (s.locks.at i0).fence, .v (.slice (s.locks.at i0).line.A (s.locks.at i0).line.n (s.locks.at i0).line.c)]⟩, ⟨3, [vI (s.locks.at i0).holder, vI (s.locks.at i0).fence, vI (((s.locks.at i0).line.n : Nat) : Int)]⟩]⟩ [] [] (by kernel_rfl) on wn ?_
      have hzn5 := mNums_size [((s.locks.at i0).holder : Int), ((s.locks.at i0).fence : Int), ((((s.locks.at i0).line.n : Nat) : Int) : Int)]
      simp only [List.length_cons, List.length_nil] at hzn5
      refine l_blkF (σ := Unit) 70 [] [.p 1 0, .s 3 0 3 3] 1 ⟨106, [vS (u0 ++ mTextB (s.locks.at i0).name)]⟩ (fun _ => .tuple #[]) (fun _ => [vS (u0 ++ mTextB (s.locks.at i0).name ++ mNums [((s.locks.at i0).holder : Int), ((s.locks.at i0).fence : Int), ((((s.locks.at i0).line.n : Nat) : Int) : Int)])]) (fun _ => True) rfl (by simp) Try.call70 rfl rfl rfl rfl (fun bs w hS hb => (snap_numbers (u0 ++ mTextB (s.locks.at i0).name) (⟨some ⟨bs.getD 3 0, 0, none⟩, 3, [((s.locks.at i0).holder : Int), ((s.locks.at i0).fence : Int), ((((s.locks.at i0).line.n : Nat) : Int) : Int)]⟩ : Sl Int) (bs.getD 1 0) w hb (rd_local [((s.locks.at i0).holder : Int), ((s.locks.at i0).fence : Int), ((((s.locks.at i0).line.n : Nat) : Int) : Int)] (hS.loc 3 _ rfl (by simp)) (by simp)) (by show 3 ≤ 1048576; omega) (by first | omega | (simp only [ByteArray.size_append]; omega))).mono (fun e w' ⟨y, h1, h2, h3, h4⟩ => ⟨y, h1, h2, h3, h4⟩)) ?_
      rintro y _
      refine l_nil (q_then_normal ?_)
      refine c_region ?_
      refine JL_run 3 [] [52, 50, 32, 31, 30, 5, 1] 2 ⟨[(52, .v (.slice (s.locks.at i0).line.A (s.locks.at i0).line.n (s.locks.at i0).line.c)), (50, .p 1 0), (32, vI ((i0 : Nat) : Int)), (31, vI ((s.locks.n : Nat) : Int)), (30, .v (.slice s.locks.A s.locks.n s.locks.c)), (5, .p 1 0), (1, .p 0 0)], [⟨48, [vI s.index, .v (.slice s.locks.A s.locks.n s.locks.c), .v (.slice s.pairs.A s.pairs.n s.pairs.c), .v (.slice s.sessions.A s.sessions.n s.sessions.c)]⟩, ⟨106, [vS (u0 ++ mTextB (s.locks.at i0).name ++ mNums [((s.locks.at i0).holder : Int), ((s.locks.at i0).fence : Int), ((((s.locks.at i0).line.n : Nat) : Int) : Int)])]⟩]⟩ [] [] (by kernel_rfl) on wn ?_
      have hzn7 := mNums_size (s.locks.at i0).line.xs
      refine l_blkF (σ := Unit) 70 [] [.p 1 0, .v (.slice (s.locks.at i0).line.A (s.locks.at i0).line.n (s.locks.at i0).line.c)] 1 ⟨106, [vS (u0 ++ mTextB (s.locks.at i0).name ++ mNums [((s.locks.at i0).holder : Int), ((s.locks.at i0).fence : Int), ((((s.locks.at i0).line.n : Nat) : Int) : Int)])]⟩ (fun _ => .tuple #[]) (fun _ => [vS (u0 ++ mTextB (s.locks.at i0).name ++ mNums [((s.locks.at i0).holder : Int), ((s.locks.at i0).fence : Int), ((((s.locks.at i0).line.n : Nat) : Int) : Int)] ++ mNums (s.locks.at i0).line.xs)]) (fun _ => True) rfl (by simp) Try.call70 rfl rfl rfl rfl (fun bs w hS hb => (snap_numbers (u0 ++ mTextB (s.locks.at i0).name ++ mNums [((s.locks.at i0).holder : Int), ((s.locks.at i0).fence : Int), ((((s.locks.at i0).line.n : Nat) : Int) : Int)]) (s.locks.at i0).line (bs.getD 1 0) w hb (And.right (Sl.rd.sub (s := s.locks) (i := i0) (And.left (Rds.kp hs hS.kp)) (by omega))) (by omega) (by first | omega | (simp only [ByteArray.size_append]; omega))).mono (fun e w' ⟨y, h1, h2, h3, h4⟩ => ⟨y, h1, h2, h3, h4⟩)) ?_
      rintro y _
      refine l_nil (q_block_normal (q_then_normal ?_))
      refine c_region ?_
      refine JL_run 2 [] [32, 31, 30, 5, 1] 2 ⟨[(32, vI (((i0 : Nat) : Int) + 1)), (31, vI ((s.locks.n : Nat) : Int)), (30, .v (.slice s.locks.A s.locks.n s.locks.c)), (5, .p 1 0), (1, .p 0 0)], [⟨48, [vI s.index, .v (.slice s.locks.A s.locks.n s.locks.c), .v (.slice s.pairs.A s.pairs.n s.pairs.c), .v (.slice s.sessions.A s.sessions.n s.sessions.c)]⟩, ⟨106, [vS (u0 ++ mTextB (s.locks.at i0).name ++ mNums [((s.locks.at i0).holder : Int), ((s.locks.at i0).fence : Int), ((((s.locks.at i0).line.n : Nat) : Int) : Int)] ++ mNums (s.locks.at i0).line.xs)]⟩]⟩ [inR (((i0 : Nat) : Int) + 1)] [] (by kernel_rfl) (oc (by unfold inR; omega) on) wn ?_
      have hst0 : u0 ++ mTextB (s.locks.at i0).name ++ mNums [((s.locks.at i0).holder : Int), ((s.locks.at i0).fence : Int), ((((s.locks.at i0).line.n : Nat) : Int) : Int)] ++ mNums (s.locks.at i0).line.xs = lockS u0 (s.abs.locks.getD i0 default) := by
        rw [hal]; rfl
      have hzz0 : (u0 ++ mTextB (s.locks.at i0).name ++ mNums [((s.locks.at i0).holder : Int), ((s.locks.at i0).fence : Int), ((((s.locks.at i0).line.n : Nat) : Int) : Int)] ++ mNums (s.locks.at i0).line.xs).size ≤ 40 + (i0 + 1) * 5100 := by simp only [ByteArray.size_append]; omega
      refine l_nil (q_loop (x := (⟨i0, u0⟩ : Nat × ByteArray)) (⟨i0 + 1, u0 ++ mTextB (s.locks.at i0).name ++ mNums [((s.locks.at i0).holder : Int), ((s.locks.at i0).fence : Int), ((((s.locks.at i0).line.n : Nat) : Int) : Int)] ++ mNums (s.locks.at i0).line.xs⟩ : Nat × ByteArray) ⟨by show i0 + 1 ≤ s.locks.n; omega, by show _ = (s.abs.locks.take (i0 + 1)).foldl lockS z0; rw [hst0, hI0]; exact (foldl_take (i := i0) _ _ s.abs.locks (by omega)).symm, hzz0⟩ (by show s.locks.n - (i0 + 1) < s.locks.n - i0; omega) (s_start [32, 31, 30, 5, 1] 2 (by kernel_rfl) rfl))
    | false =>
      have h2 := of_decide_eq_false h2
      refine c_if false rfl ?_
      refine c_exit ?_
      refine q_then_exit (q_then_exit (q_block_hit (q_then_normal ?_)))
      refine c_seq ?_
      refine c_region ?_
      refine JL_run 5 [] [59, 55, 5, 1] 3 ⟨[(59, .s 2 0 1 1), (55, .p 1 0), (5, .p 1 0), (1, .p 0 0)], [⟨48, [vI s.index, .v (.slice s.locks.A s.locks.n s.locks.c), .v (.slice s.pairs.A s.pairs.n s.pairs.c), .v (.slice s.sessions.A s.sessions.n s.sessions.c)]⟩, ⟨106, [vS u0]⟩, ⟨3, [vI ((s.pairs.n : Nat) : Int)]⟩]⟩ [] [] (by kernel_rfl) on wn ?_
      have hzn9 := mNums_size [(((s.pairs.n : Nat) : Int) : Int)]
      simp only [List.length_cons, List.length_nil] at hzn9
      refine l_blkF (σ := Unit) 70 [] [.p 1 0, .s 2 0 1 1] 1 ⟨106, [vS u0]⟩ (fun _ => .tuple #[]) (fun _ => [vS (u0 ++ mNums [(((s.pairs.n : Nat) : Int) : Int)])]) (fun _ => True) rfl (by simp) Try.call70 rfl rfl rfl rfl (fun bs w hS hb => (snap_numbers u0 (⟨some ⟨bs.getD 2 0, 0, none⟩, 1, [(((s.pairs.n : Nat) : Int) : Int)]⟩ : Sl Int) (bs.getD 1 0) w hb (rd_local [(((s.pairs.n : Nat) : Int) : Int)] (hS.loc 2 _ rfl (by simp)) (by simp)) (by show 1 ≤ 1048576; omega) (by first | omega | (simp only [ByteArray.size_append]; omega))).mono (fun e w' ⟨y, h1, h2, h3, h4⟩ => ⟨y, h1, h2, h3, h4⟩)) ?_
      rintro y _
      refine l_nil (q_then_normal ?_)
      refine c_seq ?_
      refine c_seq ?_
      refine c_region ?_
      refine JL_run 4 [] [64, 63, 62, 5, 1] 2 ⟨[(64, vI 0), (63, vI ((s.pairs.n : Nat) : Int)), (62, .v (.slice s.pairs.A s.pairs.n s.pairs.c)), (5, .p 1 0), (1, .p 0 0)], [⟨48, [vI s.index, .v (.slice s.locks.A s.locks.n s.locks.c), .v (.slice s.pairs.A s.pairs.n s.pairs.c), .v (.slice s.sessions.A s.sessions.n s.sessions.c)]⟩, ⟨106, [vS (u0 ++ mNums [(((s.pairs.n : Nat) : Int) : Int)])]⟩]⟩ [] [] (by kernel_rfl) on wn ?_
      refine l_nil (q_then_normal ?_)
      refine c_block ?_
      have hz01 : (u0 ++ mNums [(((s.pairs.n : Nat) : Int) : Int)]).size ≤ 30000 := by first | omega | (simp only [ByteArray.size_append]; omega)
      generalize hu1 : u0 ++ mNums [(((s.pairs.n : Nat) : Int) : Int)] = z1 at hz01 ⊢
      refine c_loop (σ := Nat × ByteArray) (fun ⟨i1, u1⟩ => i1 ≤ s.pairs.n ∧ u1 = (s.pairs.xs.take i1).foldl pairS z1 ∧ u1.size ≤ 30000 + i1 * 10100) (fun ⟨i1, u1⟩ => s.pairs.n - i1) (fun ⟨i1, u1⟩ => []) (fun ⟨i1, u1⟩ => ⟨[(64, vI ((i1 : Nat) : Int)), (63, vI ((s.pairs.n : Nat) : Int)), (62, .v (.slice s.pairs.A s.pairs.n s.pairs.c)), (5, .p 1 0), (1, .p 0 0)], [⟨48, [vI s.index, .v (.slice s.locks.A s.locks.n s.locks.c), .v (.slice s.pairs.A s.pairs.n s.pairs.c), .v (.slice s.sessions.A s.sessions.n s.sessions.c)]⟩, ⟨106, [vS u1]⟩]⟩) ⟨0, z1⟩ ⟨Nat.zero_le _, rfl, by show z1.size ≤ 30000 + 0 * 10100; omega⟩ (s_start [64, 63, 62, 5, 1] 2 (by kernel_rfl) rfl) ?_
      rintro ⟨i1, u1⟩ ⟨hi1, hI1, hz_1⟩
      refine c_seq ?_
      refine c_region ?_
      refine JL_run 1 [] [65, 64, 63, 62, 5, 1] 2 ⟨[(65, vB (decide (((i1 : Nat) : Int) < ((s.pairs.n : Nat) : Int)))), (64, vI ((i1 : Nat) : Int)), (63, vI ((s.pairs.n : Nat) : Int)), (62, .v (.slice s.pairs.A s.pairs.n s.pairs.c)), (5, .p 1 0), (1, .p 0 0)], [⟨48, [vI s.index, .v (.slice s.locks.A s.locks.n s.locks.c), .v (.slice s.pairs.A s.pairs.n s.pairs.c), .v (.slice s.sessions.A s.sessions.n s.sessions.c)]⟩, ⟨106, [vS u1]⟩]⟩ [] [] (by kernel_rfl) on wn ?_
      refine l_nil (q_then_normal ?_)
      refine c_seq ?_
      cases h3 : decide (((i1 : Nat) : Int) < ((s.pairs.n : Nat) : Int)) with
      | true =>
        have h3 := of_decide_eq_true h3
        refine c_if true rfl ?_
        refine c_skip ?_
        refine q_then_normal ?_
        refine c_seq ?_
        refine c_block ?_
        refine c_seq ?_
        refine c_region ?_
        refine JL_run 4 [(0, .idx s.pairs.ad i1), (1, .ext [.string (s.pairs.at i1).name, .string (s.pairs.at i1).value, .int .i64 (s.pairs.at i1).version])] [9, 64, 63, 62, 5, 1] 3 ⟨[(9, .p 2 0), (64, vI ((i1 : Nat) : Int)), (63, vI ((s.pairs.n : Nat) : Int)), (62, .v (.slice s.pairs.A s.pairs.n s.pairs.c)), (5, .p 1 0), (1, .p 0 0)], [⟨48, [vI s.index, .v (.slice s.locks.A s.locks.n s.locks.c), .v (.slice s.pairs.A s.pairs.n s.pairs.c), .v (.slice s.sessions.A s.sessions.n s.sessions.c)]⟩, ⟨106, [vS u1]⟩, ⟨110, [vS (s.pairs.at i1).name, vS (s.pairs.at i1).value, vI (s.pairs.at i1).version]⟩]⟩ [s.pairs.A = some s.pairs.ad, ((i1 : Nat) : Int) = ((i1 : Nat) : Int), i1 < s.pairs.n] [(s.pairs.ad.add (i1 * 3), [.string (s.pairs.at i1).name, .string (s.pairs.at i1).value, .int .i64 (s.pairs.at i1).version])] (by kernel_rfl) (oc (Sl.ok.own (s := s.pairs) (i := i1) (And.left (And.right okx)) (by omega)) (oc rfl (oc (by omega) on))) (fun w hk hr => ⟨(Sl.rd.all (s := s.pairs) (i := i1) (And.left (And.right (Rds.kp hs hk))) (by omega) rfl), trivial⟩) ?_
        refine l_nil (q_then_normal ?_)
        refine c_seq ?_
        refine c_region ?_
        refine JL_run 3 [] [70, 68, 9, 64, 63, 62, 5, 1] 3 ⟨[(70, vS (s.pairs.at i1).name), (68, .p 1 0), (9, .p 2 0), (64, vI ((i1 : Nat) : Int)), (63, vI ((s.pairs.n : Nat) : Int)), (62, .v (.slice s.pairs.A s.pairs.n s.pairs.c)), (5, .p 1 0), (1, .p 0 0)], [⟨48, [vI s.index, .v (.slice s.locks.A s.locks.n s.locks.c), .v (.slice s.pairs.A s.pairs.n s.pairs.c), .v (.slice s.sessions.A s.sessions.n s.sessions.c)]⟩, ⟨106, [vS u1]⟩, ⟨110, [vS (s.pairs.at i1).name, vS (s.pairs.at i1).value, vI (s.pairs.at i1).version]⟩]⟩ [] [] (by kernel_rfl) on wn ?_
        have hzt11 := mTextB_size (s.pairs.at i1).name
        refine l_blkF (σ := Unit) 71 [] [.p 1 0, vS (s.pairs.at i1).name] 1 ⟨106, [vS u1]⟩ (fun _ => .tuple #[]) (fun _ => [vS (u1 ++ mTextB (s.pairs.at i1).name)]) (fun _ => True) rfl (by simp) Try.call71 rfl rfl rfl rfl (fun bs w hS hb => (snap_text u1 (s.pairs.at i1).name (bs.getD 1 0) w hb (And.left (Sl.ok.at (s := s.pairs) (i := i1) (And.left (And.right okx)) (by omega))) (by first | omega | (simp only [ByteArray.size_append]; omega))).mono (fun e w' ⟨y, h1, h2, h3, h4⟩ => ⟨y, h1, h2, h3, h4⟩)) ?_
        rintro y _
        refine l_nil (q_then_normal ?_)
        refine c_seq ?_
        refine c_region ?_
        refine JL_run 3 [] [74, 72, 9, 64, 63, 62, 5, 1] 3 ⟨[(74, vS (s.pairs.at i1).value), (72, .p 1 0), (9, .p 2 0), (64, vI ((i1 : Nat) : Int)), (63, vI ((s.pairs.n : Nat) : Int)), (62, .v (.slice s.pairs.A s.pairs.n s.pairs.c)), (5, .p 1 0), (1, .p 0 0)], [⟨48, [vI s.index, .v (.slice s.locks.A s.locks.n s.locks.c), .v (.slice s.pairs.A s.pairs.n s.pairs.c), .v (.slice s.sessions.A s.sessions.n s.sessions.c)]⟩, ⟨106, [vS (u1 ++ mTextB (s.pairs.at i1).name)]⟩, ⟨110, [vS (s.pairs.at i1).name, vS (s.pairs.at i1).value, vI (s.pairs.at i1).version]⟩]⟩ [] [] (by kernel_rfl) on wn ?_
        have hzt13 := mTextB_size (s.pairs.at i1).value
        refine l_blkF (σ := Unit) 71 [] [.p 1 0, vS (s.pairs.at i1).value] 1 ⟨106, [vS (u1 ++ mTextB (s.pairs.at i1).name)]⟩ (fun _ => .tuple #[]) (fun _ => [vS (u1 ++ mTextB (s.pairs.at i1).name ++ mTextB (s.pairs.at i1).value)]) (fun _ => True) rfl (by simp) Try.call71 rfl rfl rfl rfl (fun bs w hS hb => (snap_text (u1 ++ mTextB (s.pairs.at i1).name) (s.pairs.at i1).value (bs.getD 1 0) w hb (And.right (Sl.ok.at (s := s.pairs) (i := i1) (And.left (And.right okx)) (by omega))) (by first | omega | (simp only [ByteArray.size_append]; omega))).mono (fun e w' ⟨y, h1, h2, h3, h4⟩ => ⟨y, h1, h2, h3, h4⟩)) ?_
        rintro y _
        refine l_nil (q_then_normal ?_)
        refine c_region ?_
        refine JL_run 4 [] [79, 76, 64, 63, 62, 5, 1] 4 ⟨[(79, .s 3 0 1 1), (76, .p 1 0), (64, vI ((i1 : Nat) : Int)), (63, vI ((s.pairs.n : Nat) : Int)), (62, .v (.slice s.pairs.A s.pairs.n s.pairs.c)), (5, .p 1 0), (1, .p 0 0)], [⟨48, [vI s.index, .v (.slice s.locks.A s.locks.n s.locks.c), .v (.slice s.pairs.A s.pairs.n s.pairs.c), .v (.slice s.sessions.A s.sessions.n s.sessions.c)]⟩, ⟨106, [vS (u1 ++ mTextB (s.pairs.at i1).name ++ mTextB (s.pairs.at i1).value)]⟩, ⟨110, [vS (s.pairs.at i1).name, vS (s.pairs.at i1).value, vI (s.pairs.at i1).version]⟩, ⟨3, [vI (s.pairs.at i1).version]⟩]⟩ [] [] (by kernel_rfl) on wn ?_
        have hzn15 := mNums_size [((s.pairs.at i1).version : Int)]
        simp only [List.length_cons, List.length_nil] at hzn15
        refine l_blkF (σ := Unit) 70 [] [.p 1 0, .s 3 0 1 1] 1 ⟨106, [vS (u1 ++ mTextB (s.pairs.at i1).name ++ mTextB (s.pairs.at i1).value)]⟩ (fun _ => .tuple #[]) (fun _ => [vS (u1 ++ mTextB (s.pairs.at i1).name ++ mTextB (s.pairs.at i1).value ++ mNums [((s.pairs.at i1).version : Int)])]) (fun _ => True) rfl (by simp) Try.call70 rfl rfl rfl rfl (fun bs w hS hb => (snap_numbers (u1 ++ mTextB (s.pairs.at i1).name ++ mTextB (s.pairs.at i1).value) (⟨some ⟨bs.getD 3 0, 0, none⟩, 1, [((s.pairs.at i1).version : Int)]⟩ : Sl Int) (bs.getD 1 0) w hb (rd_local [((s.pairs.at i1).version : Int)] (hS.loc 3 _ rfl (by simp)) (by simp)) (by show 1 ≤ 1048576; omega) (by first | omega | (simp only [ByteArray.size_append]; omega))).mono (fun e w' ⟨y, h1, h2, h3, h4⟩ => ⟨y, h1, h2, h3, h4⟩)) ?_
        rintro y _
        refine l_nil (q_block_normal (q_then_normal ?_))
        refine c_region ?_
        refine JL_run 2 [] [64, 63, 62, 5, 1] 2 ⟨[(64, vI (((i1 : Nat) : Int) + 1)), (63, vI ((s.pairs.n : Nat) : Int)), (62, .v (.slice s.pairs.A s.pairs.n s.pairs.c)), (5, .p 1 0), (1, .p 0 0)], [⟨48, [vI s.index, .v (.slice s.locks.A s.locks.n s.locks.c), .v (.slice s.pairs.A s.pairs.n s.pairs.c), .v (.slice s.sessions.A s.sessions.n s.sessions.c)]⟩, ⟨106, [vS (u1 ++ mTextB (s.pairs.at i1).name ++ mTextB (s.pairs.at i1).value ++ mNums [((s.pairs.at i1).version : Int)])]⟩]⟩ [inR (((i1 : Nat) : Int) + 1)] [] (by kernel_rfl) (oc (by unfold inR; omega) on) wn ?_
        have hst1 : u1 ++ mTextB (s.pairs.at i1).name ++ mTextB (s.pairs.at i1).value ++ mNums [((s.pairs.at i1).version : Int)] = pairS u1 (s.pairs.xs.getD i1 default) := by
          rfl
        have hzz1 : (u1 ++ mTextB (s.pairs.at i1).name ++ mTextB (s.pairs.at i1).value ++ mNums [((s.pairs.at i1).version : Int)]).size ≤ 30000 + (i1 + 1) * 10100 := by simp only [ByteArray.size_append]; omega
        refine l_nil (q_loop (x := (⟨i1, u1⟩ : Nat × ByteArray)) (⟨i1 + 1, u1 ++ mTextB (s.pairs.at i1).name ++ mTextB (s.pairs.at i1).value ++ mNums [((s.pairs.at i1).version : Int)]⟩ : Nat × ByteArray) ⟨by show i1 + 1 ≤ s.pairs.n; omega, by show _ = (s.pairs.xs.take (i1 + 1)).foldl pairS z1; rw [hst1, hI1]; exact (foldl_take (i := i1) _ _ s.pairs.xs (by omega)).symm, hzz1⟩ (by show s.pairs.n - (i1 + 1) < s.pairs.n - i1; omega) (s_start [64, 63, 62, 5, 1] 2 (by kernel_rfl) rfl))
      | false =>
        have h3 := of_decide_eq_false h3
        refine c_if false rfl ?_
        refine c_exit ?_
        refine q_then_exit (q_then_exit (q_block_hit (q_then_normal ?_)))
        refine c_seq ?_
        refine c_region ?_
        refine JL_run 5 [] [86, 82, 5, 1] 3 ⟨[(86, .s 2 0 1 1), (82, .p 1 0), (5, .p 1 0), (1, .p 0 0)], [⟨48, [vI s.index, .v (.slice s.locks.A s.locks.n s.locks.c), .v (.slice s.pairs.A s.pairs.n s.pairs.c), .v (.slice s.sessions.A s.sessions.n s.sessions.c)]⟩, ⟨106, [vS u1]⟩, ⟨3, [vI ((s.sessions.n : Nat) : Int)]⟩]⟩ [] [] (by kernel_rfl) on wn ?_
        have hzn17 := mNums_size [(((s.sessions.n : Nat) : Int) : Int)]
        simp only [List.length_cons, List.length_nil] at hzn17
        refine l_blkF (σ := Unit) 70 [] [.p 1 0, .s 2 0 1 1] 1 ⟨106, [vS u1]⟩ (fun _ => .tuple #[]) (fun _ => [vS (u1 ++ mNums [(((s.sessions.n : Nat) : Int) : Int)])]) (fun _ => True) rfl (by simp) Try.call70 rfl rfl rfl rfl (fun bs w hS hb => (snap_numbers u1 (⟨some ⟨bs.getD 2 0, 0, none⟩, 1, [(((s.sessions.n : Nat) : Int) : Int)]⟩ : Sl Int) (bs.getD 1 0) w hb (rd_local [(((s.sessions.n : Nat) : Int) : Int)] (hS.loc 2 _ rfl (by simp)) (by simp)) (by show 1 ≤ 1048576; omega) (by first | omega | (simp only [ByteArray.size_append]; omega))).mono (fun e w' ⟨y, h1, h2, h3, h4⟩ => ⟨y, h1, h2, h3, h4⟩)) ?_
        rintro y _
        refine l_nil (q_then_normal ?_)
        refine c_seq ?_
        refine c_seq ?_
        refine c_region ?_
        refine JL_run 4 [] [91, 90, 89, 5] 2 ⟨[(91, vI 0), (90, vI ((s.sessions.n : Nat) : Int)), (89, .v (.slice s.sessions.A s.sessions.n s.sessions.c)), (5, .p 1 0)], [⟨48, [vI s.index, .v (.slice s.locks.A s.locks.n s.locks.c), .v (.slice s.pairs.A s.pairs.n s.pairs.c), .v (.slice s.sessions.A s.sessions.n s.sessions.c)]⟩, ⟨106, [vS (u1 ++ mNums [(((s.sessions.n : Nat) : Int) : Int)])]⟩]⟩ [] [] (by kernel_rfl) on wn ?_
        refine l_nil (q_then_normal ?_)
        refine c_block ?_
        have hz02 : (u1 ++ mNums [(((s.sessions.n : Nat) : Int) : Int)]).size ≤ 100000 := by first | omega | (simp only [ByteArray.size_append]; omega)
        generalize hu2 : u1 ++ mNums [(((s.sessions.n : Nat) : Int) : Int)] = z2 at hz02 ⊢
        refine c_loop (σ := Nat × ByteArray) (fun ⟨i2, u2⟩ => i2 ≤ s.sessions.n ∧ u2 = (s.abs.sessions.take i2).foldl sessS z2 ∧ u2.size ≤ 100000 + i2 * 30000) (fun ⟨i2, u2⟩ => s.sessions.n - i2) (fun ⟨i2, u2⟩ => []) (fun ⟨i2, u2⟩ => ⟨[(91, vI ((i2 : Nat) : Int)), (90, vI ((s.sessions.n : Nat) : Int)), (89, .v (.slice s.sessions.A s.sessions.n s.sessions.c)), (5, .p 1 0)], [⟨48, [vI s.index, .v (.slice s.locks.A s.locks.n s.locks.c), .v (.slice s.pairs.A s.pairs.n s.pairs.c), .v (.slice s.sessions.A s.sessions.n s.sessions.c)]⟩, ⟨106, [vS u2]⟩]⟩) ⟨0, z2⟩ ⟨Nat.zero_le _, rfl, by show z2.size ≤ 100000 + 0 * 30000; omega⟩ (s_start [91, 90, 89, 5] 2 (by kernel_rfl) rfl) ?_
        rintro ⟨i2, u2⟩ ⟨hi2, hI2, hz_2⟩
        have hb5i := hb5 i2
        have hnr : (s.sessions.at i2).replies.n = (s.sessions.at i2).replies.xs.length := rfl
        refine c_seq ?_
        refine c_region ?_
        refine JL_run 1 [] [92, 91, 90, 89, 5] 2 ⟨[(92, vB (decide (((i2 : Nat) : Int) < ((s.sessions.n : Nat) : Int)))), (91, vI ((i2 : Nat) : Int)), (90, vI ((s.sessions.n : Nat) : Int)), (89, .v (.slice s.sessions.A s.sessions.n s.sessions.c)), (5, .p 1 0)], [⟨48, [vI s.index, .v (.slice s.locks.A s.locks.n s.locks.c), .v (.slice s.pairs.A s.pairs.n s.pairs.c), .v (.slice s.sessions.A s.sessions.n s.sessions.c)]⟩, ⟨106, [vS u2]⟩]⟩ [] [] (by kernel_rfl) on wn ?_
        refine l_nil (q_then_normal ?_)
        refine c_seq ?_
        cases h4 : decide (((i2 : Nat) : Int) < ((s.sessions.n : Nat) : Int)) with
        | true =>
          have h4 := of_decide_eq_true h4
          refine c_if true rfl ?_
          refine c_skip ?_
          refine q_then_normal ?_
          refine c_seq ?_
          refine c_block ?_
          refine c_seq ?_
          refine c_region ?_
          refine JL_run 4 [(0, .idx s.sessions.ad i2), (1, .ext [.int .i64 (s.sessions.at i2).client, .int .i64 (s.sessions.at i2).id, .int .i64 (s.sessions.at i2).acked, .int .i64 (s.sessions.at i2).last, .slice (s.sessions.at i2).replies.A (s.sessions.at i2).replies.n (s.sessions.at i2).replies.c])] [11, 91, 90, 89, 5] 3 ⟨[(11, .p 2 0), (91, vI ((i2 : Nat) : Int)), (90, vI ((s.sessions.n : Nat) : Int)), (89, .v (.slice s.sessions.A s.sessions.n s.sessions.c)), (5, .p 1 0)], [⟨48, [vI s.index, .v (.slice s.locks.A s.locks.n s.locks.c), .v (.slice s.pairs.A s.pairs.n s.pairs.c), .v (.slice s.sessions.A s.sessions.n s.sessions.c)]⟩, ⟨106, [vS u2]⟩, ⟨113, [vI (s.sessions.at i2).client, vI (s.sessions.at i2).id, vI (s.sessions.at i2).acked, vI (s.sessions.at i2).last, .v (.slice (s.sessions.at i2).replies.A (s.sessions.at i2).replies.n (s.sessions.at i2).replies.c)]⟩]⟩ [s.sessions.A = some s.sessions.ad, ((i2 : Nat) : Int) = ((i2 : Nat) : Int), i2 < s.sessions.n] [(s.sessions.ad.add (i2 * 5), [.int .i64 (s.sessions.at i2).client, .int .i64 (s.sessions.at i2).id, .int .i64 (s.sessions.at i2).acked, .int .i64 (s.sessions.at i2).last, .slice (s.sessions.at i2).replies.A (s.sessions.at i2).replies.n (s.sessions.at i2).replies.c])] (by kernel_rfl) (oc (Sl.ok.own (s := s.sessions) (i := i2) (And.right (And.right okx)) (by omega)) (oc rfl (oc (by omega) on))) (fun w hk hr => ⟨(Sl.rd.all (s := s.sessions) (i := i2) (And.right (And.right (Rds.kp hs hk))) (by omega) rfl), trivial⟩) ?_
          refine l_nil (q_then_normal ?_)
          refine c_seq ?_
          refine c_region ?_
          refine JL_run 13 [] [107, 95, 11, 91, 90, 89, 5] 4 ⟨[(107, .s 3 0 5 5), (95, .p 1 0), (11, .p 2 0), (91, vI ((i2 : Nat) : Int)), (90, vI ((s.sessions.n : Nat) : Int)), (89, .v (.slice s.sessions.A s.sessions.n s.sessions.c)), (5, .p 1 0)], [⟨48, [vI s.index, .v (.slice s.locks.A s.locks.n s.locks.c), .v (.slice s.pairs.A s.pairs.n s.pairs.c), .v (.slice s.sessions.A s.sessions.n s.sessions.c)]⟩, ⟨106, [vS u2]⟩, ⟨113, [vI (s.sessions.at i2).client, vI (s.sessions.at i2).id, vI (s.sessions.at i2).acked, vI (s.sessions.at i2).last, .v (.slice (s.sessions.at i2).replies.A (s.sessions.at i2).replies.n (s.sessions.at i2).replies.c)]⟩, ⟨3, [vI (s.sessions.at i2).client, vI (s.sessions.at i2).id, vI (s.sessions.at i2).acked, vI (s.sessions.at i2).last, vI (((s.sessions.at i2).replies.n : Nat) : Int)]⟩]⟩ [] [] (by kernel_rfl) on wn ?_
          have hzn19 := mNums_size [((s.sessions.at i2).client : Int), ((s.sessions.at i2).id : Int), ((s.sessions.at i2).acked : Int), ((s.sessions.at i2).last : Int), ((((s.sessions.at i2).replies.n : Nat) : Int) : Int)]
          simp only [List.length_cons, List.length_nil] at hzn19
          refine l_blkF (σ := Unit) 70 [] [.p 1 0, .s 3 0 5 5] 1 ⟨106, [vS u2]⟩ (fun _ => .tuple #[]) (fun _ => [vS (u2 ++ mNums [((s.sessions.at i2).client : Int), ((s.sessions.at i2).id : Int), ((s.sessions.at i2).acked : Int), ((s.sessions.at i2).last : Int), ((((s.sessions.at i2).replies.n : Nat) : Int) : Int)])]) (fun _ => True) rfl (by simp) Try.call70 rfl rfl rfl rfl (fun bs w hS hb => (snap_numbers u2 (⟨some ⟨bs.getD 3 0, 0, none⟩, 5, [((s.sessions.at i2).client : Int), ((s.sessions.at i2).id : Int), ((s.sessions.at i2).acked : Int), ((s.sessions.at i2).last : Int), ((((s.sessions.at i2).replies.n : Nat) : Int) : Int)]⟩ : Sl Int) (bs.getD 1 0) w hb (rd_local [((s.sessions.at i2).client : Int), ((s.sessions.at i2).id : Int), ((s.sessions.at i2).acked : Int), ((s.sessions.at i2).last : Int), ((((s.sessions.at i2).replies.n : Nat) : Int) : Int)] (hS.loc 3 _ rfl (by simp)) (by simp)) (by show 5 ≤ 1048576; omega) (by first | omega | (simp only [ByteArray.size_append]; omega))).mono (fun e w' ⟨y, h1, h2, h3, h4⟩ => ⟨y, h1, h2, h3, h4⟩)) ?_
          rintro y _
          refine l_nil (q_then_normal ?_)
          refine c_seq ?_
          refine c_region ?_
          refine JL_run 4 [] [112, 111, 110, 91, 90, 89, 5] 2 ⟨[(112, vI 0), (111, vI (((s.sessions.at i2).replies.n : Nat) : Int)), (110, .v (.slice (s.sessions.at i2).replies.A (s.sessions.at i2).replies.n (s.sessions.at i2).replies.c)), (91, vI ((i2 : Nat) : Int)), (90, vI ((s.sessions.n : Nat) : Int)), (89, .v (.slice s.sessions.A s.sessions.n s.sessions.c)), (5, .p 1 0)], [⟨48, [vI s.index, .v (.slice s.locks.A s.locks.n s.locks.c), .v (.slice s.pairs.A s.pairs.n s.pairs.c), .v (.slice s.sessions.A s.sessions.n s.sessions.c)]⟩, ⟨106, [vS (u2 ++ mNums [((s.sessions.at i2).client : Int), ((s.sessions.at i2).id : Int), ((s.sessions.at i2).acked : Int), ((s.sessions.at i2).last : Int), ((((s.sessions.at i2).replies.n : Nat) : Int) : Int)])]⟩]⟩ [] [] (by kernel_rfl) on wn ?_
          refine l_nil (q_then_normal ?_)
          refine c_block ?_
          have hz03 : (u2 ++ mNums [((s.sessions.at i2).client : Int), ((s.sessions.at i2).id : Int), ((s.sessions.at i2).acked : Int), ((s.sessions.at i2).last : Int), ((((s.sessions.at i2).replies.n : Nat) : Int) : Int)]).size ≤ 100030 + i2 * 30000 := by first | omega | (simp only [ByteArray.size_append]; omega)
          generalize hu3 : u2 ++ mNums [((s.sessions.at i2).client : Int), ((s.sessions.at i2).id : Int), ((s.sessions.at i2).acked : Int), ((s.sessions.at i2).last : Int), ((((s.sessions.at i2).replies.n : Nat) : Int) : Int)] = z3 at hz03 ⊢
          refine c_loop (σ := Nat × ByteArray) (fun ⟨i3, u3⟩ => i3 ≤ (s.sessions.at i2).replies.n ∧ u3 = ((s.sessions.at i2).replies.xs.take i3).foldl keptS z3 ∧ u3.size ≤ 100030 + i2 * 30000 + i3 * 5100) (fun ⟨i3, u3⟩ => (s.sessions.at i2).replies.n - i3) (fun ⟨i3, u3⟩ => []) (fun ⟨i3, u3⟩ => ⟨[(112, vI ((i3 : Nat) : Int)), (111, vI (((s.sessions.at i2).replies.n : Nat) : Int)), (110, .v (.slice (s.sessions.at i2).replies.A (s.sessions.at i2).replies.n (s.sessions.at i2).replies.c)), (91, vI ((i2 : Nat) : Int)), (90, vI ((s.sessions.n : Nat) : Int)), (89, .v (.slice s.sessions.A s.sessions.n s.sessions.c)), (5, .p 1 0)], [⟨48, [vI s.index, .v (.slice s.locks.A s.locks.n s.locks.c), .v (.slice s.pairs.A s.pairs.n s.pairs.c), .v (.slice s.sessions.A s.sessions.n s.sessions.c)]⟩, ⟨106, [vS u3]⟩]⟩) ⟨0, z3⟩ ⟨Nat.zero_le _, rfl, by show z3.size ≤ 100030 + i2 * 30000 + 0 * 5100; omega⟩ (s_start [112, 111, 110, 91, 90, 89, 5] 2 (by kernel_rfl) rfl) ?_
          rintro ⟨i3, u3⟩ ⟨hi3, hI3, hz_3⟩
          refine c_seq ?_
          refine c_region ?_
          refine JL_run 1 [] [113, 112, 111, 110, 91, 90, 89, 5] 2 ⟨[(113, vB (decide (((i3 : Nat) : Int) < (((s.sessions.at i2).replies.n : Nat) : Int)))), (112, vI ((i3 : Nat) : Int)), (111, vI (((s.sessions.at i2).replies.n : Nat) : Int)), (110, .v (.slice (s.sessions.at i2).replies.A (s.sessions.at i2).replies.n (s.sessions.at i2).replies.c)), (91, vI ((i2 : Nat) : Int)), (90, vI ((s.sessions.n : Nat) : Int)), (89, .v (.slice s.sessions.A s.sessions.n s.sessions.c)), (5, .p 1 0)], [⟨48, [vI s.index, .v (.slice s.locks.A s.locks.n s.locks.c), .v (.slice s.pairs.A s.pairs.n s.pairs.c), .v (.slice s.sessions.A s.sessions.n s.sessions.c)]⟩, ⟨106, [vS u3]⟩]⟩ [] [] (by kernel_rfl) on wn ?_
          refine l_nil (q_then_normal ?_)
          refine c_seq ?_
          cases h5 : decide (((i3 : Nat) : Int) < (((s.sessions.at i2).replies.n : Nat) : Int)) with
          | true =>
            have h5 := of_decide_eq_true h5
            refine c_if true rfl ?_
            refine c_skip ?_
            refine q_then_normal ?_
            refine c_seq ?_
            refine c_block ?_
            refine c_seq ?_
            refine c_region ?_
            refine JL_run 4 [(0, .idx (s.sessions.at i2).replies.ad i3), (1, .ext [.int .i64 ((s.sessions.at i2).replies.at i3).seq, .int .i64 ((s.sessions.at i2).replies.at i3).reply.code, .int .i64 ((s.sessions.at i2).replies.at i3).reply.n, .string ((s.sessions.at i2).replies.at i3).reply.text])] [13, 112, 111, 110, 91, 90, 89, 5] 3 ⟨[(13, .p 2 0), (112, vI ((i3 : Nat) : Int)), (111, vI (((s.sessions.at i2).replies.n : Nat) : Int)), (110, .v (.slice (s.sessions.at i2).replies.A (s.sessions.at i2).replies.n (s.sessions.at i2).replies.c)), (91, vI ((i2 : Nat) : Int)), (90, vI ((s.sessions.n : Nat) : Int)), (89, .v (.slice s.sessions.A s.sessions.n s.sessions.c)), (5, .p 1 0)], [⟨48, [vI s.index, .v (.slice s.locks.A s.locks.n s.locks.c), .v (.slice s.pairs.A s.pairs.n s.pairs.c), .v (.slice s.sessions.A s.sessions.n s.sessions.c)]⟩, ⟨106, [vS u3]⟩, ⟨115, [vI ((s.sessions.at i2).replies.at i3).seq, vI ((s.sessions.at i2).replies.at i3).reply.code, vI ((s.sessions.at i2).replies.at i3).reply.n, vS ((s.sessions.at i2).replies.at i3).reply.text]⟩]⟩ [(s.sessions.at i2).replies.A = some (s.sessions.at i2).replies.ad, ((i3 : Nat) : Int) = ((i3 : Nat) : Int), i3 < (s.sessions.at i2).replies.n] [((s.sessions.at i2).replies.ad.add (i3 * 4), [.int .i64 ((s.sessions.at i2).replies.at i3).seq, .int .i64 ((s.sessions.at i2).replies.at i3).reply.code, .int .i64 ((s.sessions.at i2).replies.at i3).reply.n, .string ((s.sessions.at i2).replies.at i3).reply.text])] (by kernel_rfl) (oc (Sl.ok.own (s := (s.sessions.at i2).replies) (i := i3) (Sl.ok.at (s := s.sessions) (i := i2) (And.right (And.right okx)) (by omega)) (by omega)) (oc rfl (oc (by omega) on))) (fun w hk hr => ⟨(Sl.rd.all (s := (s.sessions.at i2).replies) (i := i3) (Sl.rd.sub (s := s.sessions) (i := i2) (And.right (And.right (Rds.kp hs hk))) (by omega)) (by omega) rfl), trivial⟩) ?_
            refine l_nil (q_then_normal ?_)
            refine c_seq ?_
            refine c_region ?_
            refine JL_run 10 [] [125, 116, 13, 112, 111, 110, 91, 90, 89, 5] 4 ⟨[(125, .s 3 0 3 3), (116, .p 1 0), (13, .p 2 0), (112, vI ((i3 : Nat) : Int)), (111, vI (((s.sessions.at i2).replies.n : Nat) : Int)), (110, .v (.slice (s.sessions.at i2).replies.A (s.sessions.at i2).replies.n (s.sessions.at i2).replies.c)), (91, vI ((i2 : Nat) : Int)), (90, vI ((s.sessions.n : Nat) : Int)), (89, .v (.slice s.sessions.A s.sessions.n s.sessions.c)), (5, .p 1 0)], [⟨48, [vI s.index, .v (.slice s.locks.A s.locks.n s.locks.c), .v (.slice s.pairs.A s.pairs.n s.pairs.c), .v (.slice s.sessions.A s.sessions.n s.sessions.c)]⟩, ⟨106, [vS u3]⟩, ⟨115, [vI ((s.sessions.at i2).replies.at i3).seq, vI ((s.sessions.at i2).replies.at i3).reply.code, vI ((s.sessions.at i2).replies.at i3).reply.n, vS ((s.sessions.at i2).replies.at i3).reply.text]⟩, ⟨3, [vI ((s.sessions.at i2).replies.at i3).seq, vI ((s.sessions.at i2).replies.at i3).reply.code, vI ((s.sessions.at i2).replies.at i3).reply.n]⟩]⟩ [] [] (by kernel_rfl) on wn ?_
            have hzn21 := mNums_size [(((s.sessions.at i2).replies.at i3).seq : Int), (((s.sessions.at i2).replies.at i3).reply.code : Int), (((s.sessions.at i2).replies.at i3).reply.n : Int)]
            simp only [List.length_cons, List.length_nil] at hzn21
            refine l_blkF (σ := Unit) 70 [] [.p 1 0, .s 3 0 3 3] 1 ⟨106, [vS u3]⟩ (fun _ => .tuple #[]) (fun _ => [vS (u3 ++ mNums [(((s.sessions.at i2).replies.at i3).seq : Int), (((s.sessions.at i2).replies.at i3).reply.code : Int), (((s.sessions.at i2).replies.at i3).reply.n : Int)])]) (fun _ => True) rfl (by simp) Try.call70 rfl rfl rfl rfl (fun bs w hS hb => (snap_numbers u3 (⟨some ⟨bs.getD 3 0, 0, none⟩, 3, [(((s.sessions.at i2).replies.at i3).seq : Int), (((s.sessions.at i2).replies.at i3).reply.code : Int), (((s.sessions.at i2).replies.at i3).reply.n : Int)]⟩ : Sl Int) (bs.getD 1 0) w hb (rd_local [(((s.sessions.at i2).replies.at i3).seq : Int), (((s.sessions.at i2).replies.at i3).reply.code : Int), (((s.sessions.at i2).replies.at i3).reply.n : Int)] (hS.loc 3 _ rfl (by simp)) (by simp)) (by show 3 ≤ 1048576; omega) (by first | omega | (simp only [ByteArray.size_append]; omega))).mono (fun e w' ⟨y, h1, h2, h3, h4⟩ => ⟨y, h1, h2, h3, h4⟩)) ?_
            rintro y _
            refine l_nil (q_then_normal ?_)
            refine c_region ?_
            refine JL_run 4 [] [130, 127, 112, 111, 110, 91, 90, 89, 5] 2 ⟨[(130, vS ((s.sessions.at i2).replies.at i3).reply.text), (127, .p 1 0), (112, vI ((i3 : Nat) : Int)), (111, vI (((s.sessions.at i2).replies.n : Nat) : Int)), (110, .v (.slice (s.sessions.at i2).replies.A (s.sessions.at i2).replies.n (s.sessions.at i2).replies.c)), (91, vI ((i2 : Nat) : Int)), (90, vI ((s.sessions.n : Nat) : Int)), (89, .v (.slice s.sessions.A s.sessions.n s.sessions.c)), (5, .p 1 0)], [⟨48, [vI s.index, .v (.slice s.locks.A s.locks.n s.locks.c), .v (.slice s.pairs.A s.pairs.n s.pairs.c), .v (.slice s.sessions.A s.sessions.n s.sessions.c)]⟩, ⟨106, [vS (u3 ++ mNums [(((s.sessions.at i2).replies.at i3).seq : Int), (((s.sessions.at i2).replies.at i3).reply.code : Int), (((s.sessions.at i2).replies.at i3).reply.n : Int)])]⟩]⟩ [] [] (by kernel_rfl) on wn ?_
            have hzt23 := mTextB_size ((s.sessions.at i2).replies.at i3).reply.text
            refine l_blkF (σ := Unit) 71 [] [.p 1 0, vS ((s.sessions.at i2).replies.at i3).reply.text] 1 ⟨106, [vS (u3 ++ mNums [(((s.sessions.at i2).replies.at i3).seq : Int), (((s.sessions.at i2).replies.at i3).reply.code : Int), (((s.sessions.at i2).replies.at i3).reply.n : Int)])]⟩ (fun _ => .tuple #[]) (fun _ => [vS (u3 ++ mNums [(((s.sessions.at i2).replies.at i3).seq : Int), (((s.sessions.at i2).replies.at i3).reply.code : Int), (((s.sessions.at i2).replies.at i3).reply.n : Int)] ++ mTextB ((s.sessions.at i2).replies.at i3).reply.text)]) (fun _ => True) rfl (by simp) Try.call71 rfl rfl rfl rfl (fun bs w hS hb => (snap_text (u3 ++ mNums [(((s.sessions.at i2).replies.at i3).seq : Int), (((s.sessions.at i2).replies.at i3).reply.code : Int), (((s.sessions.at i2).replies.at i3).reply.n : Int)]) ((s.sessions.at i2).replies.at i3).reply.text (bs.getD 1 0) w hb (Sl.ok.at (s := (s.sessions.at i2).replies) (i := i3) (Sl.ok.at (s := s.sessions) (i := i2) (And.right (And.right okx)) (by omega)) (by omega)) (by first | omega | (simp only [ByteArray.size_append]; omega))).mono (fun e w' ⟨y, h1, h2, h3, h4⟩ => ⟨y, h1, h2, h3, h4⟩)) ?_
            rintro y _
            refine l_nil (q_block_normal (q_then_normal ?_))
            refine c_region ?_
            refine JL_run 2 [] [112, 111, 110, 91, 90, 89, 5] 2 ⟨[(112, vI (((i3 : Nat) : Int) + 1)), (111, vI (((s.sessions.at i2).replies.n : Nat) : Int)), (110, .v (.slice (s.sessions.at i2).replies.A (s.sessions.at i2).replies.n (s.sessions.at i2).replies.c)), (91, vI ((i2 : Nat) : Int)), (90, vI ((s.sessions.n : Nat) : Int)), (89, .v (.slice s.sessions.A s.sessions.n s.sessions.c)), (5, .p 1 0)], [⟨48, [vI s.index, .v (.slice s.locks.A s.locks.n s.locks.c), .v (.slice s.pairs.A s.pairs.n s.pairs.c), .v (.slice s.sessions.A s.sessions.n s.sessions.c)]⟩, ⟨106, [vS (u3 ++ mNums [(((s.sessions.at i2).replies.at i3).seq : Int), (((s.sessions.at i2).replies.at i3).reply.code : Int), (((s.sessions.at i2).replies.at i3).reply.n : Int)] ++ mTextB ((s.sessions.at i2).replies.at i3).reply.text)]⟩]⟩ [inR (((i3 : Nat) : Int) + 1)] [] (by kernel_rfl) (oc (by unfold inR; omega) on) wn ?_
            have hst3 : u3 ++ mNums [(((s.sessions.at i2).replies.at i3).seq : Int), (((s.sessions.at i2).replies.at i3).reply.code : Int), (((s.sessions.at i2).replies.at i3).reply.n : Int)] ++ mTextB ((s.sessions.at i2).replies.at i3).reply.text = keptS u3 ((s.sessions.at i2).replies.xs.getD i3 default) := by
              rfl
            have hzz3 : (u3 ++ mNums [(((s.sessions.at i2).replies.at i3).seq : Int), (((s.sessions.at i2).replies.at i3).reply.code : Int), (((s.sessions.at i2).replies.at i3).reply.n : Int)] ++ mTextB ((s.sessions.at i2).replies.at i3).reply.text).size ≤ 100030 + i2 * 30000 + (i3 + 1) * 5100 := by simp only [ByteArray.size_append]; omega
            refine l_nil (q_loop (x := (⟨i3, u3⟩ : Nat × ByteArray)) (⟨i3 + 1, u3 ++ mNums [(((s.sessions.at i2).replies.at i3).seq : Int), (((s.sessions.at i2).replies.at i3).reply.code : Int), (((s.sessions.at i2).replies.at i3).reply.n : Int)] ++ mTextB ((s.sessions.at i2).replies.at i3).reply.text⟩ : Nat × ByteArray) ⟨by show i3 + 1 ≤ (s.sessions.at i2).replies.n; omega, by show _ = ((s.sessions.at i2).replies.xs.take (i3 + 1)).foldl keptS z3; rw [hst3, hI3]; exact (foldl_take (i := i3) _ _ (s.sessions.at i2).replies.xs (by omega)).symm, hzz3⟩ (by show (s.sessions.at i2).replies.n - (i3 + 1) < (s.sessions.at i2).replies.n - i3; omega) (s_start [112, 111, 110, 91, 90, 89, 5] 2 (by kernel_rfl) rfl))
          | false =>
            have h5 := of_decide_eq_false h5
            refine c_if false rfl ?_
            refine c_exit ?_
            refine q_then_exit (q_then_exit (q_block_hit (q_block_normal (q_then_normal ?_))))
            refine c_region ?_
            refine JL_run 2 [] [91, 90, 89, 5] 2 ⟨[(91, vI (((i2 : Nat) : Int) + 1)), (90, vI ((s.sessions.n : Nat) : Int)), (89, .v (.slice s.sessions.A s.sessions.n s.sessions.c)), (5, .p 1 0)], [⟨48, [vI s.index, .v (.slice s.locks.A s.locks.n s.locks.c), .v (.slice s.pairs.A s.pairs.n s.pairs.c), .v (.slice s.sessions.A s.sessions.n s.sessions.c)]⟩, ⟨106, [vS u3]⟩]⟩ [inR (((i2 : Nat) : Int) + 1)] [] (by kernel_rfl) (oc (by unfold inR; omega) on) wn ?_
            have hst2 : u3 = sessS u2 (s.abs.sessions.getD i2 default) := by
              rw [hae, hI3, List.take_of_length_le (by omega), ← hu3]
              rfl
            have hzz2 : (u3).size ≤ 100000 + (i2 + 1) * 30000 := by omega
            refine l_nil (q_loop (x := (⟨i2, u2⟩ : Nat × ByteArray)) (⟨i2 + 1, u3⟩ : Nat × ByteArray) ⟨by show i2 + 1 ≤ s.sessions.n; omega, by show _ = (s.abs.sessions.take (i2 + 1)).foldl sessS z2; rw [hst2, hI2]; exact (foldl_take (i := i2) _ _ s.abs.sessions (by omega)).symm, hzz2⟩ (by show s.sessions.n - (i2 + 1) < s.sessions.n - i2; omega) (s_start [91, 90, 89, 5] 2 (by kernel_rfl) rfl))
        | false =>
          have h4 := of_decide_eq_false h4
          refine c_if false rfl ?_
          refine c_exit ?_
          refine q_then_exit (q_then_exit (q_block_hit (q_then_normal ?_)))
          refine c_seq ?_
          refine c_draw 12 [] (.p 0 (.p 1 (.p 2 (.q 3 (.p 4 (.p 5 (.p 6 (.q 7 (.b 8 (.p 9 (.p 10 (.p 11 .nil))) .z))))))))) [] [] Try_mixed (by kernel_rfl) (pq_then pq_body) .slnil ?_
          refine h_quiet [] [(0, true), (1, true), (2, true), (3, false), (4, true), (5, true), (6, true), (7, false)] [(141, vS u2), (140, .p 1 0), (139, .p 1 0), (138, .p 1 0), (137, vS u2), (136, .p 1 0), (135, .p 1 0), (134, .p 1 0), (92, vB false), (91, vI ((i2 : Nat) : Int)), (90, vI ((s.sessions.n : Nat) : Int)), (89, .v (.slice s.sessions.A s.sessions.n s.sessions.c)), (5, .p 1 0)] [] [] rfl (by kernel_rfl) on wn ?_
          have hzs25 : (mSeal u2).size = 4 := bstr_size _
          refine h_pure 72 [] [vS u2] (.string (mSeal u2)) rfl Try.call72 rfl rfl rfl rfl (fun bs w hS => codec_Seal _ w (by first | assumption | omega | (simp only [emp_size]; omega))) (fun bs0 bs w hp hl hS => hS.down hp hl rfl (le_same (le_same le_nil)) .slnil) ?_
          refine h_quiet [] [(9, true), (10, true), (11, true)] [(3, vI 0), (2, vS (u2 ++ (mSeal u2))), (143, vS (u2 ++ (mSeal u2))), (142, vS (mSeal u2)), (141, vS u2), (140, .p 1 0), (139, .p 1 0), (138, .p 1 0), (137, vS u2), (136, .p 1 0), (135, .p 1 0), (134, .p 1 0), (92, vB false), (91, vI ((i2 : Nat) : Int)), (90, vI ((s.sessions.n : Nat) : Int)), (89, .v (.slice s.sessions.A s.sessions.n s.sessions.c)), (5, .p 1 0)] [u2.size + (mSeal u2).size ≤ 9223372036854775807] [] rfl (by kernel_rfl) (oc (by first | omega | (simp only [ByteArray.size_append]; omega)) on) wn ?_
          refine h_nil ?_
          refine l_nil (q_then_normal ?_)
          refine c_ret ?_
          refine q_ret (.inl rfl) [vS (u2 ++ (mSeal u2)), vI 0] rfl (fun bs w hS => ?_)
          refine ⟨?_, hS.kp⟩
          have hb : u2 = mSnapB s.abs := by
            unfold mSnapB
            rw [hI2, List.take_of_length_le (by omega), ← hu2, hI1, List.take_of_length_le (by omega), ← hu1, hI0, List.take_of_length_le (by omega), ← hu0]
            simp only [emp_append]
            rw [hll, hlp, hle]
            rfl
          unfold mSnap
          rw [if_pos (by assumption), ← hb]
          rfl
  | false =>
    have h1 := of_decide_eq_false h1
    refine c_if true rfl ?_
    refine c_seq ?_
    refine c_region ?_
    refine JL_run 3 [] [3, 2] 0 ⟨[(3, vI (mState s.abs)), (2, vS emp)], []⟩ [] [] (by kernel_rfl) on wn ?_
    refine l_nil (q_then_normal ?_)
    refine c_ret ?_
    refine q_then_ret (q_ret (.inl rfl) [vS emp, vI (mState s.abs)] rfl (fun bs w hS => ?_))
    refine ⟨?_, hS.kp⟩
    unfold mSnap
    rw [if_neg (by assumption)]
    rfl

theorem law_SnapEncodes {B : Nat → Prop} (s : CState) (w : World) (hs : Rds.sub B w s) : Calls Try.prog 7 #[.agg #[.int .i64 s.index, .slice s.locks.A s.locks.n s.locks.c, .slice s.pairs.A s.pairs.n s.pairs.c, .slice s.sessions.A s.sessions.n s.sessions.c]] w fun e w' => e = .returned (.bool true) ∧ Kp [] w w' := by
  have okx := Rds.okof hs
  refine calls_J0 25 Try.func7 rfl rfl [.agg #[.int .i64 s.index, .slice s.locks.A s.locks.n s.locks.c, .slice s.pairs.A s.pairs.n s.pairs.c, .slice s.sessions.A s.sessions.n s.sessions.c]] rfl ?_
  refine c_seq ?_
  refine c_region ?_
  refine JL_run 2 [] [1] 1 ⟨[(1, .p 0 0)], [⟨48, [vI s.index, .v (.slice s.locks.A s.locks.n s.locks.c), .v (.slice s.pairs.A s.pairs.n s.pairs.c), .v (.slice s.sessions.A s.sessions.n s.sessions.c)]⟩]⟩ [] [] (by kernel_rfl) on wn ?_
  refine l_nil (q_then_normal ?_)
  refine c_seq ?_
  refine c_region ?_
  refine JL_run 1 [] [8, 1] 1 ⟨[(8, .v (.agg #[.int .i64 s.index, .slice s.locks.A s.locks.n s.locks.c, .slice s.pairs.A s.pairs.n s.pairs.c, .slice s.sessions.A s.sessions.n s.sessions.c])), (1, .p 0 0)], [⟨48, [vI s.index, .v (.slice s.locks.A s.locks.n s.locks.c), .v (.slice s.pairs.A s.pairs.n s.pairs.c), .v (.slice s.sessions.A s.sessions.n s.sessions.c)]⟩]⟩ [] [] (by kernel_rfl) on wn ?_
  refine l_pure 28 [] [.v (.agg #[.int .i64 s.index, .slice s.locks.A s.locks.n s.locks.c, .slice s.pairs.A s.pairs.n s.pairs.c, .slice s.sessions.A s.sessions.n s.sessions.c])] (.tuple #[.string ((mSnap s.abs).1), .int .i64 ((mSnap s.abs).2)]) Try.call28 rfl rfl rfl rfl (fun bs w hS => snap_Encode s w (Rds.kp hs hS.kp)) ?_
  refine JL_run 5 [] [4, 3, 1] 1 ⟨[(4, vI ((mSnap s.abs).2)), (3, vS ((mSnap s.abs).1)), (1, .p 0 0)], [⟨48, [vI s.index, .v (.slice s.locks.A s.locks.n s.locks.c), .v (.slice s.pairs.A s.pairs.n s.pairs.c), .v (.slice s.sessions.A s.sessions.n s.sessions.c)]⟩]⟩ [] [] (by kernel_rfl) on wn ?_
  refine l_nil (q_then_normal ?_)
  refine c_seq ?_
  refine c_region ?_
  refine JL_run 1 [] [13, 4, 3] 0 ⟨[(13, .v (.agg #[.int .i64 s.index, .slice s.locks.A s.locks.n s.locks.c, .slice s.pairs.A s.pairs.n s.pairs.c, .slice s.sessions.A s.sessions.n s.sessions.c])), (4, vI ((mSnap s.abs).2)), (3, vS ((mSnap s.abs).1))], []⟩ [] [] (by kernel_rfl) on wn ?_
  refine l_pure 29 [] [.v (.agg #[.int .i64 s.index, .slice s.locks.A s.locks.n s.locks.c, .slice s.pairs.A s.pairs.n s.pairs.c, .slice s.sessions.A s.sessions.n s.sessions.c])] (.tuple #[.string ((mSnap s.abs).1), .int .i64 ((mSnap s.abs).2)]) Try.call29 rfl rfl rfl rfl (fun bs w hS => ref_SnapBytes s w (Rds.kp hs hS.kp)) ?_
  refine JL_run 5 [] [6, 5, 4, 3] 0 ⟨[(6, vI ((mSnap s.abs).2)), (5, vS ((mSnap s.abs).1)), (4, vI ((mSnap s.abs).2)), (3, vS ((mSnap s.abs).1))], []⟩ [] [] (by kernel_rfl) on wn ?_
  refine l_nil (q_then_normal ?_)
  refine c_seq ?_
  refine c_region ?_
  refine JL_run 4 [] [20, 6, 4] 0 ⟨[(20, vB (decide (((mSnap s.abs).1) = ((mSnap s.abs).1)))), (6, vI ((mSnap s.abs).2)), (4, vI ((mSnap s.abs).2))], []⟩ [] [] (by kernel_rfl) on wn ?_
  cases h1 : decide (((mSnap s.abs).1) = ((mSnap s.abs).1)) with
  | true =>
    have h1 := of_decide_eq_true h1
    refine JL_run 5 [] [2] 0 ⟨[(2, vB (decide ((mSnap s.abs).2 = (mSnap s.abs).2)))], []⟩ [] [] (by kernel_rfl) on wn ?_
    refine l_nil (q_then_normal ?_)
    refine c_ret ?_
    refine q_ret (.inl rfl) [vB (decide ((mSnap s.abs).2 = (mSnap s.abs).2))] rfl (fun bs w hS => ?_)
    refine ⟨?_, hS.kp⟩
    simp [retOf, den]
  | false =>
    have h1 := of_decide_eq_false h1
    exact absurd rfl h1

end Go.Proofs.Ytececkgjacccmad.W
