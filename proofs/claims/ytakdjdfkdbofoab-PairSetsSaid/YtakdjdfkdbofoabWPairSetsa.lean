/-
  The functions that the law PairSets reaches, walked: each returns what its model says.
  Conditions: those that each theorem states.
-/
import Derived.Test.YtakdjdfkdbofoabFe
import Derived.Test.YtakdjdfkdbofoabChecked
set_option linter.unusedVariables false
set_option linter.unusedSimpArgs false
set_option maxRecDepth 100000
set_option maxHeartbeats 2000000
namespace Go.Proofs.Ytakdjdfkdbofoab.W
open Go.Proofs.Ytakdjdfkdbofoab.Fw Go.RowKit
attribute [local irreducible] JM nx

theorem Try_mixed : Try.prog.follows .mixedOrders = true := by kernel_rfl
theorem laid : laidOutB Try.prog = true := by kernel_rfl

theorem ref_In (n lo hi : Int) (w : World) : Calls Try.prog 56 #[vi n, vi lo, vi hi] w fun e w' => e = .returned (vb (inB n lo hi)) ∧ Kp [] w w' := by
 refine M0 ?_ Try.func56
 refine Md (lo ≤ n) (fun h1 => ?_) fun h1 => ?_
 rotate_left
 · exact Mt [vb false] fun bs w hS => ⟨by simp [retOf, den, inB, h1], hS.kp⟩
 exact Mt [vb (decide (n ≤ hi))] fun bs w hS => ⟨by simp [retOf, den, inB, h1], hS.kp⟩

theorem lock_Name1 (c : UInt8) (w : World) : Calls Try.prog 97 #[.int .u8 (c.toNat : Int)] w fun e w' => e = .returned (vb (nameBad c)) ∧ Kp [] w w' := by
 refine M0 ?_ Try.func97
 refine Md ((c.toNat : Int) < 97) (fun h1 => ?_) fun h1 => ?_
 · exact Mt [vb true] fun bs w hS => ⟨by simp [retOf, den, nameBad, h1], hS.kp⟩
 exact Mt [vb (decide ((122 : Int) < (c.toNat : Int)))] fun bs w hS => ⟨by simp [retOf, den, nameBad, h1], hS.kp⟩

theorem idx_bytes {B : Nat → Prop} (s : Sl UInt8) (w : World) (hs : s.rd B w) : Calls Try.prog 137 #[s.val, .func (.func 97) #[] #[]] w fun e w' => e = .returned (vi (mIdx nameBad s.xs)) ∧ Kp [] w w' := by
 have oks := Sl.rd.ok hs
 have ncs := Sl.ok.nc oks
 have hns : s.n = s.xs.length := rfl
 refine Mj ?_ Try.func137 (WS.start w)
 refine Ml (σ := Nat) (fun i => i ≤ s.n ∧ ∀ j, j < i → nameBad (s.at j) = false) (fun i => s.n - i) (fun _ => []) [8, 7, 0, 1] (fun i => [(8, vI (i : Int))]) (fun _ => []) ?_ 0 ⟨Nat.zero_le _, fun j hj => absurd hj (Nat.not_lt_zero _)⟩
 rintro i ⟨hi, hI⟩ _ on1
 refine Md ((i : Int) < (s.n : Int)) (fun h1 => ?_) fun h1 => ?_
 rotate_left
 · exact Me0 (-1) (by rw [mIdx_none fun j hj => hI j (by omega)])
 refine Mi ?_ (pA 14 15 (i : Int) i (rdk hs))
 refine Mp ?_ Try.call97 (fun bs w hS => lock_Name1 (s.at i) w)
 refine Mb (nameBad (s.at i)) (fun h2 => ?_) fun h2 => ?_
 · exact Me0 (i : Int) (by rw [mIdx_here (by omega) (by assumption) hI])
 refine Mi ?_ (pR ((i : Int) + 1))
 exact on1 (i + 1) ⟨by omega, fun j hj => by rcases Nat.lt_succ_iff_lt_or_eq.1 hj with h | h; exact hI j h; subst h; assumption⟩ (by omega)

theorem has_bytes {B : Nat → Prop} (s : Sl UInt8) (w : World) (hs : s.rd B w) : Calls Try.prog 96 #[s.val, .func (.func 97) #[] #[]] w fun e w' => e = .returned (vb (s.xs.any nameBad)) ∧ Kp [] w w' := by
 have oks := Sl.rd.ok hs
 have ncs := Sl.ok.nc oks
 have hns : s.n = s.xs.length := rfl
 refine Mj ?_ Try.func96 (WS.start w)
 refine Mp ?_ Try.call137 (fun bs w hS => idx_bytes _ w (Sl.rd.kp hs hS.kp))
 exact Meb (decide ((0 : Int) ≤ mIdx nameBad s.xs)) (by simp only [retOf, den, List.map_cons, List.map_nil, mIdx_nonneg])

theorem lock_Name (s : ByteArray) (w : World) (hs : s.size ≤ 9223372036854775807) : Calls Try.prog 43 #[vs s] w fun e w' => e = .returned (vb (mName s)) ∧ Kp [] w w' := by
 refine M0 ?_ Try.func43
 refine Mdn (s = emp) (fun h1 => ?_) fun h1 => ?_
 · exact Meb false (by simp [retOf, den, mName, *])
 refine Md ((s.size : Int) ≤ 6) (fun h2 => ?_) fun h2 => ?_
 rotate_left
 · exact Meb false (by simp [retOf, den, mName, *])
 refine Msy ?_ (e := 5) (by unfold maxLen; omega)
 rintro fp1 y1 hF1 hok1
 refine Mp ?_ Try.call96 (fun bs w hS => has_bytes _ w (hS.res _ i0))
 exact Meb (!(y1.xs.any nameBad)) (by simp [retOf, den, mName, *])

theorem ref_NameMay (s : ByteArray) (w : World) (hs : s.size ≤ 9223372036854775807) : Calls Try.prog 48 #[vs s] w fun e w' => e = .returned (vb (mName s)) ∧ Kp [] w w' := by
 refine M0 ?_ Try.func48
 refine Ml (σ := Nat) (fun i => i ≤ s.size ∧ ∀ j, j < i → nameBad (s.data.getD j 0) = false) (fun i => s.size - i) (fun _ => []) [3, 0] (fun i => [(3, vI (i : Int))]) (fun _ => []) ?_ 0 ⟨Nat.zero_le _, fun j hj => absurd hj (Nat.not_lt_zero _)⟩
 rintro i ⟨hi, hI⟩ _ on1
 have hu := (s.data.getD i 0).toNat_lt
 refine Md ((i : Int) < (s.size : Int)) (fun h1 => ?_) fun h1 => ?_
 rotate_left
 · refine Mp ?_ Try.call56 (fun bs w hS => ref_In (s.size : Int) 1 6 w)
   exact Meb (inB (s.size : Int) 1 6) (by simp only [retOf, den, List.map_cons, List.map_nil, mName_good fun j hj => hI j (by omega)])
 refine Mi ?_ (pc (pG [(12, .sidx i)] (oc (rfl : (i : Int) = (i : Int)) (oc ((by omega) : i < s.size) on))) (pc (pP (0 ≤ ((s.data.getD i 0).toNat : Int))) (pP (((s.data.getD i 0).toNat : Int) ≤ 255))))
 refine Mp ?_ Try.call56 (fun bs w hS => ref_In ((s.data.getD i 0).toNat : Int) 97 122 w)
 refine Mbn (inB ((s.data.getD i 0).toNat : Int) 97 122) (fun h2 => ?_) fun h2 => ?_
 rotate_left
 · refine Mt [vb false] fun bs w hS => ?_
   clear on1
   refine ⟨?_, hS.kp⟩
   rw [mName_bad (i := i) (by omega) (by simp only [inB, nameBad, Bool.and_eq_false_iff, Bool.or_eq_true, decide_eq_true_eq, decide_eq_false_iff_not] at *; omega)]
   rfl
 refine Mi ?_ (pR ((i : Int) + 1))
 exact on1 (i + 1) ⟨by omega, fun j hj => by rcases Nat.lt_succ_iff_lt_or_eq.1 hj with h | h; exact hI j h; subst h; simp only [inB, nameBad, Bool.and_eq_true, Bool.or_eq_false_iff, decide_eq_true_eq, decide_eq_false_iff_not] at *; omega⟩ (by omega)

theorem pair_Check {B : Nat → Prop} (s : Sl DPair) (w : World) (hs : s.rd B w) : Calls Try.prog 42 #[s.val] w fun e w' => e = .returned (vi (mPairs s.xs)) ∧ Kp [] w w' := by
 have oks := Sl.rd.ok hs
 have ncs := Sl.ok.nc oks
 have hns : s.n = s.xs.length := rfl
 refine M0 ?_ Try.func42
 refine Md ((5 : Int) < (s.n : Int)) (fun h1 => ?_) fun h1 => ?_
 · have hm : mPairs s.xs = 1 := by
     unfold mPairs; rw [if_pos (by omega)]
   exact Me0 1 hm
 refine Ml (σ := Nat) (fun i => i ≤ s.n ∧ mPairs s.xs = firstF (pairF s.xs) (s.n - i) i) (fun i => s.n - i) (fun _ => []) [10, 9, 8, 0] (fun i => [(10, vI (i : Int))]) (fun _ => []) ?_ 0 ⟨Nat.zero_le _, by unfold mPairs; rw [if_neg (by omega)]⟩
 rintro i ⟨hi, hI⟩ _ on1
 have hlt := hi
 refine Md ((i : Int) < (s.n : Int)) (fun h2 => ?_) fun h2 => ?_
 rotate_left
 · exact Me0 0 (by rw [hI, firstF_end (by omega)])
 refine Mi ?_ (pA 13 14 (i : Int) i (rdk hs))
 refine Mp ?_ Try.call43 (fun bs w hS => lock_Name _ w (Sl.ok.at (s := s) (i := i) oks (by omega)).1)
 refine Mbn (mName (s.at i).name) (fun h3 => ?_) fun h3 => ?_
 rotate_left
 · refine Me0 4 ?_
   have hf : pairF s.xs i = 4 := by
     have hat : ∀ q, s.xs.getD q default = s.at q := fun _ => rfl
     grind [pairF]
   rw [hI, firstF_here (by omega) hf (by omega)]
 refine Md ((12 : Int) < ((s.at i).value.size : Int)) (fun h4 => ?_) fun h4 => ?_
 · refine Me0 1 ?_
   have hf : pairF s.xs i = 1 := by
     have hat : ∀ q, s.xs.getD q default = s.at q := fun _ => rfl
     grind [pairF]
   rw [hI, firstF_here (by omega) hf (by omega)]
 refine Md ((s.at i).version < 1) (fun h5 => ?_) fun h5 => ?_
 · refine Me0 2 ?_
   have hf : pairF s.xs i = 2 := by
     have hat : ∀ q, s.xs.getD q default = s.at q := fun _ => rfl
     grind [pairF]
   rw [hI, firstF_here (by omega) hf (by omega)]
 refine Md ((1073741824 : Int) < (s.at i).version) (fun h6 => ?_) fun h6 => ?_
 · refine Me0 2 ?_
   have hf : pairF s.xs i = 2 := by
     have hat : ∀ q, s.xs.getD q default = s.at q := fun _ => rfl
     grind [pairF]
   rw [hI, firstF_here (by omega) hf (by omega)]
 refine Mda 13 [] [] [] Try_mixed ?_
 refine Md ((0 : Int) < (i : Int)) (fun h7 => ?_) fun h7 => ?_
 rotate_left
 · refine Mi ?_ (pR ((i : Int) + 1))
   have hf0 : pairF s.xs i = 0 := by
     have hat : ∀ q, s.xs.getD q default = s.at q := fun _ => rfl
     grind [pairF]
   exact on1 (i + 1) ⟨by omega, by rw [hI]; exact firstF_step (by omega) hf0⟩ (by omega)
 refine Mih ?_ (pc (pR ((i : Int) - 1)) (pc (pI 37 ((i : Int) - 1) (i - 1) (rdk hs)) (pF 39 (i - 1) 0 1 (rdk hs))))
 refine Mbn (Op.bytesLess ((s.at (i - 1)).name).toList ((s.at i).name).toList) (fun h8 => ?_) fun h8 => ?_
 · refine Mi ?_ (pR ((i : Int) + 1))
   have hf0 : pairF s.xs i = 0 := by
     have hat : ∀ q, s.xs.getD q default = s.at q := fun _ => rfl
     grind [pairF]
   exact on1 (i + 1) ⟨by omega, by rw [hI]; exact firstF_step (by omega) hf0⟩ (by omega)
 refine Me0 14 ?_
 have hf : pairF s.xs i = 14 := by
   have hat : ∀ q, s.xs.getD q default = s.at q := fun _ => rfl
   grind [pairF]
 rw [hI, firstF_here (by omega) hf (by omega)]

theorem ref_PairsFault {B : Nat → Prop} (s : Sl DPair) (w : World) (hs : s.rd B w) : Calls Try.prog 47 #[s.val] w fun e w' => e = .returned (vi (mPairs s.xs)) ∧ Kp [] w w' := by
 have oks := Sl.rd.ok hs
 have ncs := Sl.ok.nc oks
 have hns : s.n = s.xs.length := rfl
 refine M0 ?_ Try.func47
 refine Md ((5 : Int) < (s.n : Int)) (fun h1 => ?_) fun h1 => ?_
 · have hm : mPairs s.xs = 1 := by
     unfold mPairs; rw [if_pos (by omega)]
   exact Me0 1 hm
 refine Ml (σ := Nat) (fun i => i ≤ s.n ∧ mPairs s.xs = firstF (pairF s.xs) (s.n - i) i) (fun i => s.n - i) (fun _ => []) [3, 0] (fun i => [(3, vI (i : Int))]) (fun _ => []) ?_ 0 ⟨Nat.zero_le _, by unfold mPairs; rw [if_neg (by omega)]⟩
 rintro i ⟨hi, hI⟩ _ on1
 have hlt := hi
 refine Md ((i : Int) < (s.n : Int)) (fun h2 => ?_) fun h2 => ?_
 rotate_left
 · exact Me0 0 (by rw [hI, firstF_end (by omega)])
 refine Mi ?_ (pc (pI 15 (i : Int) i (rdk hs)) (pF 17 i 0 1 (rdk hs)))
 refine Mp ?_ Try.call48 (fun bs w hS => ref_NameMay _ w (Sl.ok.at (s := s) (i := i) oks (by omega)).1)
 refine Mbn (mName (s.at i).name) (fun h3 => ?_) fun h3 => ?_
 rotate_left
 · refine Me0 4 ?_
   have hf : pairF s.xs i = 4 := by
     have hat : ∀ q, s.xs.getD q default = s.at q := fun _ => rfl
     grind [pairF]
   rw [hI, firstF_here (by omega) hf (by omega)]
 refine Mi ?_ (pc (pI 22 (i : Int) i (rdk hs)) (pF 24 i 1 1 (rdk hs)))
 refine Md ((12 : Int) < ((s.at i).value.size : Int)) (fun h4 => ?_) fun h4 => ?_
 · refine Me0 1 ?_
   have hf : pairF s.xs i = 1 := by
     have hat : ∀ q, s.xs.getD q default = s.at q := fun _ => rfl
     grind [pairF]
   rw [hI, firstF_here (by omega) hf (by omega)]
 refine Mi ?_ (pc (pI 29 (i : Int) i (rdk hs)) (pF 31 i 2 1 (rdk hs)))
 refine Mp ?_ Try.call56 (fun bs w hS => ref_In (s.at i).version 1 1073741824 w)
 refine Mbn (inB (s.at i).version 1 1073741824) (fun h5 => ?_) fun h5 => ?_
 rotate_left
 · simp only [iT, iF] at h5
   refine Me0 2 ?_
   have hf : pairF s.xs i = 2 := by
     have hat : ∀ q, s.xs.getD q default = s.at q := fun _ => rfl
     grind [pairF]
   rw [hI, firstF_here (by omega) hf (by omega)]
 simp only [iT, iF] at h5
 refine Mda 16 [] [] [] Try_mixed ?_
 refine Md ((0 : Int) < (i : Int)) (fun h6 => ?_) fun h6 => ?_
 rotate_left
 · refine Mi ?_ (pR ((i : Int) + 1))
   have hf0 : pairF s.xs i = 0 := by
     have hat : ∀ q, s.xs.getD q default = s.at q := fun _ => rfl
     grind [pairF]
   exact on1 (i + 1) ⟨by omega, by rw [hI]; exact firstF_step (by omega) hf0⟩ (by omega)
 refine Mih ?_ (pc (pI 39 (i : Int) i (rdk hs)) (pc (pF 41 i 0 1 (rdk hs)) (pc (pR ((i : Int) - 1)) (pc (pI 45 ((i : Int) - 1) (i - 1) (rdk hs)) (pF 47 (i - 1) 0 1 (rdk hs))))))
 refine Mb (Op.bytesLess ((s.at i).name).toList ((s.at (i - 1)).name).toList || decide ((s.at i).name = (s.at (i - 1)).name)) (fun h7 => ?_) fun h7 => ?_
 rotate_left
 · rw [bytes_total] at h7
   simp only [Bool.not_eq_true', Bool.not_eq_false', Bool.not_eq_true, Bool.not_eq_false] at h7
   refine Mi ?_ (pR ((i : Int) + 1))
   have hf0 : pairF s.xs i = 0 := by
     have hat : ∀ q, s.xs.getD q default = s.at q := fun _ => rfl
     grind [pairF]
   exact on1 (i + 1) ⟨by omega, by rw [hI]; exact firstF_step (by omega) hf0⟩ (by omega)
 rw [bytes_total] at h7
 simp only [Bool.not_eq_true', Bool.not_eq_false', Bool.not_eq_true, Bool.not_eq_false] at h7
 refine Me0 14 ?_
 have hf : pairF s.xs i = 14 := by
   have hat : ∀ q, s.xs.getD q default = s.at q := fun _ => rfl
   grind [pairF]
 rw [hI, firstF_here (by omega) hf (by omega)]

theorem insR_Pair (A : Option Addr) (c : Nat) (L : List DPair) (i : Nat) (ii : Int) (x : DPair) (vb tv : Nat) (w : World) (hrow : (rowA 72 A c L).p w) (hlt : ∀ b, b ∈ (rowA 72 A c L).fp → b < w.heap.size) (ei : ii = (i : Int)) (hi : i ≤ L.length) (hn : L.length ≤ 1048575) (hv : (blkR vb tv (Lay.cells x)).p w) (hvn : vb ∉ (rowA 72 A c L).fp) :
    Calls Try.prog 46 #[.slice A L.length c, vi ii, .slice (some (⟨vb, 0, none⟩ : Addr)) 1 1] w fun e w' => ∃ y : Option Addr × Nat, e = .returned (.slice y.1 (L.take i ++ [x] ++ L.drop i).length y.2) ∧ Turned (rowA 72 A c L) w w' (rowA 72 y.1 y.2 (L.take i ++ [x] ++ L.drop i)) := by
 subst ei
 have hrok := rowA_rok hrow
 have nc := hrok.2
 have hvk : ∀ w', Kp (rowA 72 A c L).fp w w' → (blkR vb tv (Lay.cells x)).p w' := fun w' hk => blkR_kpn hv hk hvn
 have hvs : ∀ w', Kp (rowA 72 A c L).fp w w' → SrcAt w' (some (⟨vb, 0, none⟩ : Addr)) 1 ([x].flatMap Lay.cells) := fun w' hk => blkR_src1 (hvk w' hk)
 refine Mj ?_ Try.func46 (WS.start1 w _ hrow (by cases A <;> simp [rowA, rowR]) hlt)
 refine Mi ?_ (pG [(12, .sl i L.length)] (oc (rfl : (i : Int) = (i : Int)) (oc (rfl : L.length = L.length) (oc ((by omega) : i ≤ L.length) on))))
 refine Mq 16 false ?_ rfl
 refine Md ((i : Int) = (L.length : Int)) (fun h1 => ?_) fun h1 => ?_
 · refine Ma ?_ (α := DPair) (L2 := [x]) 40 (fun bs w hS => hvs w hS.kp) (h63 := by show L.length + 1 ≤ _; omega) (hb := by show (L.length + 1) * _ ≤ _; omega)
   intro A1 c1
   refine Mt [.slice A1 (L ++ [x]).length c1] fun bs w hS => ?_
   have hid : i = L.length := by omega
   subst hid
   rw [List.take_length, List.drop_length, List.append_nil]
   exact ⟨(A1, c1), rfl, hS.turned⟩
 refine Mi ?_ (pR ((L.length : Int) + 1))
 refine Md ((c : Int) < (L.length : Int) + 1) (fun h2 => ?_) fun h2 => ?_
 · refine Mi ?_ (pc (pG [(34, .sl 0 i)] (oc (rfl : 0 = 0) (oc (rfl : (i : Int) = (i : Int)) (oc ((by omega) : i ≤ c) on)))) (pc (pR ((L.length : Int) + 1)) (pR (((L.length : Int) + 1) - (i : Int)))))
   refine Mapz (α := DPair) 22 3 40 i (L.length + 1 - i) ?_ (((L.length : Int) + 1) - (i : Int)) (by omega) (by omega) hi (by omega) (by omega) (by omega)
   intro g2 c2 zs hc2 hc2m hlen0
   refine Mi ?_ (pG [(43, .sl i (i + (L.length + 1 - i)))] (oc (rfl : (i : Int) = (i : Int)) (oc (rfl : i + (L.length + 1 - i) = i + (L.length + 1 - i)) (oc ((by omega) : i ≤ i + (L.length + 1 - i)) on))))
   refine Mcp (A1 := (if c2 = i then (some (⟨g2, 0, none⟩ : Addr)) else (some (⟨g2, 0, none⟩ : Addr)).map (·.add (i * 3)))) (A2 := (some (⟨vb, 0, none⟩ : Addr))) (n1 := (i + (L.length + 1 - i)) - i) (k := 1) (q := 1) (vs := [x].flatMap Lay.cells) 40 (i * Lay.size DPair) ?_ (by rw [if_neg (by omega)]; show some (Addr.add _ (i * 3)) = _; rw [addr_at]; rfl) (by simp only [Nat.min_def]; split <;> omega) (fun bs w hS => hvs w hS.kp) (by rw [one_len, Nat.one_mul]) (flat_one _) (by rw [one_len]; rw [hlen0]; have h9 := ins_fit (L := L) hi (by omega : L.length + 1 ≤ c2); omega)
   refine Mdr 8 ?_ Try_mixed
   refine Mih ?_ (pc (pR ((i : Int) + 1)) (pc (pG [(50, .sl (i + 1) (i + (L.length + 1 - i)))] (oc ((by omega) : (i : Int) + 1 = (((i + 1) : Nat) : Int)) (oc (rfl : i + (L.length + 1 - i) = i + (L.length + 1 - i)) (oc ((by omega) : (i + 1) ≤ i + (L.length + 1 - i)) on)))) (pG [(53, .sl i L.length)] (oc (rfl : (i : Int) = (i : Int)) (oc (rfl : L.length = L.length) (oc ((by omega) : i ≤ L.length) on))))))
   refine Mz ?_
   refine Mcp (A1 := (if c2 = (i + 1) then (some (⟨g2, 0, none⟩ : Addr)) else (some (⟨g2, 0, none⟩ : Addr)).map (·.add ((i + 1) * 3)))) (A2 := (if c = i then A else A.map (·.add (i * 3)))) (n1 := (i + (L.length + 1 - i)) - (i + 1)) (k := L.length - i) (q := (L.length - i)) (vs := (L.drop i).flatMap Lay.cells) 40 (i * Lay.size DPair + Lay.size DPair) ?_ (by rw [if_neg (by omega)]; show some (Addr.add _ ((i + 1) * 3)) = _; rw [addr_at, Nat.succ_mul]; rfl) (by simp only [Nat.min_def]; split <;> omega) (fun bs w hS => rowA_srcDrop (hS.res _ i1) hi) (drop_len L i) (flat_one _) (by rw [setAt_len (by rw [one_len, hlen0]; have h9 := ins_fit (L := L) hi (by omega : L.length + 1 ≤ c2); omega), hlen0]; exact ins_fit hi (by omega))
   refine Mt [.slice (some (⟨g2, 0, none⟩ : Addr)) (i + (L.length + 1 - i)) c2] fun bs w hS => ?_
   have hlen : (L.take i ++ [x] ++ L.drop i).length = L.length + 1 := by simp only [List.length_append, List.length_take, List.length_drop, List.length_cons, List.length_nil]; omega
   have hS2 := hS.weak (rowA 72 (some (⟨g2, 0, none⟩ : Addr)) c2 (L.take i ++ [x] ++ L.drop i)) (List.Sublist.refl _) (fun h => ins_row1 hi (by omega) hlen0 h)
   refine ⟨(some ⟨g2, 0, none⟩, c2), ?_, hS2.turned⟩
   exact congrArg (fun q => Ending.returned (Value.slice (some (⟨g2, 0, none⟩ : Addr)) q c2)) (show i + (L.length + 1 - i) = (L.take i ++ [x] ++ L.drop i).length by rw [hlen]; omega)
 refine m_raw (α := DPair) (by omega) ?_
 intro g zs hA hLc hlen0
 have hvg : vb ≠ g := fun e0 => hvn (by rw [hA]; simp [rowA, rowR, e0])
 refine Mi ?_ (pc (pR ((L.length : Int) + 1)) (pc (pG [(60, .sl 0 (L.length + 1))] (oc (rfl : 0 = 0) (oc ((by omega) : (L.length : Int) + 1 = (((L.length + 1) : Nat) : Int)) (oc ((by omega) : (L.length + 1) ≤ c) on)))) (pc (pR ((i : Int) + 1)) (pG [(66, .sl (i + 1) (L.length + 1))] (oc ((by omega) : (i : Int) + 1 = (((i + 1) : Nat) : Int)) (oc (rfl : (L.length + 1) = (L.length + 1)) (oc ((by omega) : (i + 1) ≤ (L.length + 1)) on)))))))
 refine Mx ?_ (vs := fun _ => [.slice (some (⟨vb, 0, none⟩ : Addr)) 1 1, .slice (if c = (i + 1) then A else A.map (·.add ((i + 1) * 3))) ((L.length + 1) - (i + 1)) (c - (i + 1))]) (v := .bool false) (fun bs w hS => by show (callFunc 101 #[.slice (some (⟨vb, 0, none⟩ : Addr)) 1 1, .slice (if c = (i + 1) then A else A.map (·.add ((i + 1) * 3))) ((L.length + 1) - (i + 1)) (c - (i + 1))]).run Try.prog w = _; rw [(show (if c = (i + 1) then A else A.map (·.add ((i + 1) * 3))) = some ⟨g, i * Lay.size DPair + Lay.size DPair, none⟩ from (by rw [if_neg (by omega), hA]; show some (Addr.add _ ((i + 1) * 3)) = _; rw [addr_at, Nat.succ_mul]; rfl)), run_callFunc_extern Try.func101 (by kernel_rfl) (by kernel_rfl) (by kernel_rfl) (e := Extern.SlicesOverlaps.overlaps #[22, 22] #[4]) (by kernel_rfl)]; show ((Extern.SlicesOverlaps.overlaps #[22, 22] #[4] #[.slice (some (⟨vb, 0, none⟩ : Addr)) 1 1, .slice (some _) _ _]).run _ w).andThen _ = _; rw [Go.Lib.run_overlaps_apart w 22 4 72 Try.underlying22 _ (fun w => sizeOf_run _ _ w (by kernel_rfl)) ⟨vb, 0, none⟩ ⟨g, i * Lay.size DPair + Lay.size DPair, none⟩ 1 1 _ _ hvg _ _ _ _ (blkR_shape (hvk w hS.kp)) (rawR_shape (hS.res _ i0)) (by rw [hlen0]; exact Nat.mul_ne_zero (by omega) (Nat.ne_of_gt Lay.pos)) (blkR_thaw (hvk w hS.kp) 0) (blkR_thaw (hvk w hS.kp) _)]; rfl)
 refine Mq 68 true ?_ rfl
 refine Mdr 8 ?_ Try_mixed
 refine Mih ?_ (pc (pR ((i : Int) + 1)) (pc (pG [(73, .sl (i + 1) (L.length + 1))] (oc ((by omega) : (i : Int) + 1 = (((i + 1) : Nat) : Int)) (oc (rfl : (L.length + 1) = (L.length + 1)) (oc ((by omega) : (i + 1) ≤ (L.length + 1)) on)))) (pG [(76, .sl i (L.length + 1))] (oc (rfl : (i : Int) = (i : Int)) (oc (rfl : (L.length + 1) = (L.length + 1)) (oc ((by omega) : i ≤ (L.length + 1)) on))))))
 refine Mz ?_
 refine Mcp (A1 := (if c = (i + 1) then A else A.map (·.add ((i + 1) * 3)))) (A2 := (if c = i then A else A.map (·.add (i * 3)))) (n1 := (L.length + 1) - (i + 1)) (k := (L.length + 1) - i) (q := (L.length - i)) (vs := (L.drop i).flatMap Lay.cells) 40 (i * Lay.size DPair + Lay.size DPair) ?_ (by rw [if_neg (by omega), hA]; show some (Addr.add _ ((i + 1) * 3)) = _; rw [addr_at, Nat.succ_mul]; rfl) (by simp only [Nat.min_def]; split <;> omega) (fun bs w hS => by rw [show (if c = i then A else A.map (·.add (i * 3))) = some ⟨g, i * Lay.size DPair, none⟩ from (by rw [if_neg (by omega), hA]; show some (Addr.add _ (i * 3)) = _; rw [addr_at]; rfl)]; exact raw_srcDrop hi (hS.res _ i0)) (drop_len L i) (flat_one _) (by rw [hlen0]; exact ins_fit hi (by omega))
 refine Mi ?_ (pG [(80, .sl i (L.length + 1))] (oc (rfl : (i : Int) = (i : Int)) (oc (rfl : (L.length + 1) = (L.length + 1)) (oc ((by omega) : i ≤ (L.length + 1)) on))))
 refine Mcp (A1 := (if c = i then A else A.map (·.add (i * 3)))) (A2 := (some (⟨vb, 0, none⟩ : Addr))) (n1 := (L.length + 1) - i) (k := 1) (q := 1) (vs := [x].flatMap Lay.cells) 40 (i * Lay.size DPair) ?_ (by rw [if_neg (by omega), hA]; show some (Addr.add _ (i * 3)) = _; rw [addr_at]; rfl) (by simp only [Nat.min_def]; split <;> omega) (fun bs w hS => hvs w hS.kp) (by rw [one_len, Nat.one_mul]) (flat_one _) (by rw [one_len]; rw [setAt_len (by rw [hlen0]; exact ins_fit hi (by omega)), hlen0]; have h9 := ins_fit (L := L) hi (by omega : L.length + 1 ≤ c); omega)
 refine Mt [.slice A (L.length + 1) c] fun bs w hS => ?_
 have hlen : (L.take i ++ [x] ++ L.drop i).length = L.length + 1 := by simp only [List.length_append, List.length_take, List.length_drop, List.length_cons, List.length_nil]; omega
 have hS2 := hS.weak (rowA 72 (some ⟨g, 0, none⟩) c (L.take i ++ [x] ++ L.drop i)) (List.Sublist.refl _) (fun h => ins_row2 hi (by omega) hlen0 h)
 refine ⟨(some ⟨g, 0, none⟩, c), ?_, hS2.turned⟩
 subst hA
 exact congrArg (fun q => Ending.returned (Value.slice (some (⟨g, 0, none⟩ : Addr)) q c)) (show L.length + 1 = (L.take i ++ [x] ++ L.drop i).length by rw [hlen])

theorem bytealg_CompareString (a b : ByteArray) (w : World) : Calls Try.prog 138 #[vs a, vs b] w fun e w' => e = .returned (vi (cmpS a b)) ∧ Kp [] w w' := by
 refine M0 ?_ Try.func138
 refine Mx ?_ (vs := fun bs => [vs a, vs b]) (v := vi (cmpS a b)) (fun bs w hS => by rw [run_callFunc_extern Try.func158 (by kernel_rfl) (by kernel_rfl) (by kernel_rfl) (e := Extern.BytealgCompare.compare) (by kernel_rfl)]; show ((Extern.BytealgCompare.compare #[vs a, vs b]).run _ w).andThen _ = _; rw [Lib.run_compareString]; rfl)
 exact Mt [vi (cmpS a b)] fun bs w hS => ⟨rfl, hS.kp⟩

theorem strings_Compare (a b : ByteArray) (w : World) : Calls Try.prog 100 #[vs a, vs b] w fun e w' => e = .returned (vi (cmpS a b)) ∧ Kp [] w w' := by
 refine M0 ?_ Try.func100
 refine Mp ?_ Try.call138 (fun bs w hS => bytealg_CompareString a b w)
 exact Mt [vi (cmpS a b)] fun bs w hS => ⟨rfl, hS.kp⟩

theorem pair_find_1 (x : DPair) (t : ByteArray) (w : World) : Calls Try.prog 99 #[x.val, vs t] w fun e w' => e = .returned (vi (cmpS x.name t)) ∧ Kp [] w w' := by
 refine M0 ?_ Try.func99
 refine Mp ?_ Try.call100 (fun bs w hS => strings_Compare x.name t w)
 exact Mt [vi (cmpS x.name t)] fun bs w hS => ⟨rfl, hS.kp⟩

theorem bs_pair_find_1 {B : Nat → Prop} (s : Sl DPair) (t : ByteArray) (w : World) (hs : s.rd B w) (hn : s.n ≤ 1048576) : Calls Try.prog 98 #[s.val, vs t, .func (.func 99) #[] #[]] w fun e w' => e = .returned (.tuple #[vi (mBS (fun x : DPair => cmpS x.name t) s.xs : Nat), vb (mBSf (fun x : DPair => cmpS x.name t) s.xs)]) ∧ Kp [] w w' := by
 have oks := Sl.rd.ok hs
 have ncs := Sl.ok.nc oks
 have hns : s.n = s.xs.length := rfl
 refine Mj ?_ Try.func98 (WS.start w)
 refine Ml (σ := Nat × Nat × Nat) (fun ⟨i, j, f⟩ => i ≤ j ∧ j ≤ s.n ∧ j - i ≤ f ∧ mBS (fun x : DPair => cmpS x.name t) s.xs = bsGo (fun j => decide (cmpS (s.at j).name t < 0)) f i j) (fun ⟨i, j, f⟩ => f) (fun _ => []) [10, 9, 8, 0, 1, 2] (fun ⟨i, j, f⟩ => [(10, vI (j : Int)), (9, vI (i : Int))]) (fun _ => []) ?_ (⟨0, s.n, s.n⟩) ⟨Nat.zero_le _, Nat.le_refl _, Nat.le_refl _, rfl⟩
 rintro ⟨i, j, f⟩ ⟨h1, h2, h3, hI⟩ _ on1
 have hdiv : ((i : Int) + (j : Int)) / 2 = (((i + j) / 2 : Nat) : Int) := by omega
 refine Md ((i : Int) < (j : Int)) (fun h1 => ?_) fun h1 => ?_
 rotate_left
 · refine Md ((i : Int) < (s.n : Int)) (fun h3 => ?_) fun h3 => ?_
   rotate_left
   · refine Mt [vi (i : Int), vb false] fun bs w hS => ?_
     have hij : i = j := by omega
     subst hij
     have hr : mBS (fun x : DPair => cmpS x.name t) s.xs = i := by rw [hI]; exact bsGo_end _ _ _ _ (Nat.le_refl _)
     refine ⟨?_, hS.kp⟩
     have hr2 : mBSf (fun x : DPair => cmpS x.name t) s.xs = false := by
       unfold mBSf; rw [hr]
       rw [decide_eq_false (show ¬ i < s.xs.length by omega)]; rfl
     rw [hr, hr2]
     rfl
   refine Mi ?_ (pA 43 44 (i : Int) i (rdk hs))
   refine Mp ?_ Try.call99 (fun bs w hS => pair_find_1 (s.at i) t w)
   refine Mt [vi (i : Int), vb (decide (cmpS (s.at i).name t = 0))] fun bs w hS => ?_
   have hij : i = j := by omega
   subst hij
   have hr : mBS (fun x : DPair => cmpS x.name t) s.xs = i := by rw [hI]; exact bsGo_end _ _ _ _ (Nat.le_refl _)
   refine ⟨?_, hS.kp⟩
   have hr2 : mBSf (fun x : DPair => cmpS x.name t) s.xs = (decide (cmpS (s.at i).name t = 0)) := by
     unfold mBSf; rw [hr]
     rw [decide_eq_true (show i < s.xs.length by omega)]; rfl
   rw [hr, hr2]
   rfl
 refine Mi ?_ (pc (pR ((i : Int) + (j : Int))) (pc (pG [(21, .val (.int .u64 ((i : Int) + (j : Int))))] (oc ((conv_i64_u64 Try.underlying3 Try.underlying138 (by omega) (by omega)) : ∀ w, (convert 3 138 (vi ((i : Int) + (j : Int))) : Sem Value).run Try.prog w = .ok (.int .u64 ((i : Int) + (j : Int))) w) on)) (pc (pG [(22, .val (.int .u64 (((i : Int) + (j : Int)) / 2)))] (oc (shr_u64 : ∀ w, (do eqGuard .shr 138 (.tmp 21) (.const (.int .u64 1)) (.int .u64 ((i : Int) + (j : Int))) (.int .u64 1); binOp .shr 138 (.int .u64 ((i : Int) + (j : Int))) (.int .u64 1) : Sem Value).run Try.prog w = .ok (.int .u64 (((i : Int) + (j : Int)) / 2)) w) on)) (pc (pG [(23, .val (vi (((i : Int) + (j : Int)) / 2)))] (oc ((conv_u64_i64 Try.underlying138 Try.underlying3 (by omega) (by omega)) : ∀ w, (convert 138 3 (.int .u64 (((i : Int) + (j : Int)) / 2)) : Sem Value).run Try.prog w = .ok (vi (((i : Int) + (j : Int)) / 2)) w) on)) (pA 27 28 (((i : Int) + (j : Int)) / 2) (((i : Int) + (j : Int)) / 2).toNat (rdk hs))))))
 refine Mp ?_ Try.call99 (fun bs w hS => pair_find_1 (s.at (((i : Int) + (j : Int)) / 2).toNat) t w)
 refine Md (cmpS (s.at (((i : Int) + (j : Int)) / 2).toNat).name t < 0) (fun h2 => ?_) fun h2 => ?_
 rotate_left
 · have hf1 : f = (f - 1) + 1 := by omega
   rw [hf1] at hI
   have hI2 := hI.trans (bsGo_down (by omega) (decide_eq_false (by assumption)))
   exact on1 ⟨i, (i + j) / 2, f - 1⟩ ⟨by omega, by omega, by omega, hI2⟩ (by show f - 1 < f; omega)
 refine Mi ?_ (pR ((((i : Int) + (j : Int)) / 2) + 1))
 have hf1 : f = (f - 1) + 1 := by omega
 rw [hf1] at hI
 have hI2 := hI.trans (bsGo_up (by omega) (decide_eq_true (by assumption)))
 exact on1 ⟨(i + j) / 2 + 1, j, f - 1⟩ ⟨by omega, by omega, by omega, hI2⟩ (by show f - 1 < f; omega)

theorem pair_find {B : Nat → Prop} (s : Sl DPair) (t : ByteArray) (w : World) (hs : s.rd B w) (hn : s.n ≤ 1048576) : Calls Try.prog 45 #[s.val, vs t] w fun e w' => e = .returned (.tuple #[vi (mBS (fun x : DPair => cmpS x.name t) s.xs : Nat), vb (mBSf (fun x : DPair => cmpS x.name t) s.xs)]) ∧ Kp [] w w' := by
 have oks := Sl.rd.ok hs
 have ncs := Sl.ok.nc oks
 have hns : s.n = s.xs.length := rfl
 refine M0 ?_ Try.func45
 refine Mp ?_ Try.call98 (fun bs w hS => bs_pair_find_1 s t w (Sl.rd.kp hs hS.kp) (by omega))
 exact Mt [vi ((mBS (fun x : DPair => cmpS x.name t) s.xs : Nat) : Int), vb (mBSf (fun x : DPair => cmpS x.name t) s.xs)] fun bs w hS => ⟨rfl, hS.kp⟩

theorem tackroomref_pairAt {B : Nat → Prop} (s : Sl DPair) (t : ByteArray) (w : World) (hs : s.rd B w) : Calls Try.prog 49 #[s.val, vs t] w fun e w' => e = .returned (vi (mIdx (fun x : DPair => decide (x.name = t)) s.xs)) ∧ Kp [] w w' := by
 have oks := Sl.rd.ok hs
 have ncs := Sl.ok.nc oks
 have hns : s.n = s.xs.length := rfl
 refine M0 ?_ Try.func49
 refine Ml (σ := Nat) (fun i => i ≤ s.n ∧ ∀ j, j < i → decide ((s.at j).name = t) = false) (fun i => s.n - i) (fun _ => []) [5, 0, 1] (fun i => [(5, vI (i : Int))]) (fun _ => []) ?_ 0 ⟨Nat.zero_le _, fun j hj => absurd hj (Nat.not_lt_zero _)⟩
 rintro i ⟨hi, hI⟩ _ on1
 refine Md ((i : Int) < (s.n : Int)) (fun h1 => ?_) fun h1 => ?_
 rotate_left
 · exact Me0 (-1) (by rw [mIdx_none (p := (fun x : DPair => decide (x.name = t))) fun j hj => hI j (by omega)])
 refine Mi ?_ (pc (pI 14 (i : Int) i (rdk hs)) (pF 16 i 0 1 (rdk hs)))
 refine Md ((s.at i).name = t) (fun h2 => ?_) fun h2 => ?_
 · exact Me0 (i : Int) (by rw [mIdx_here (p := (fun x : DPair => decide (x.name = t))) (i := i) (by omega) (decide_eq_true (by assumption)) hI])
 refine Mi ?_ (pR ((i : Int) + 1))
 exact on1 (i + 1) ⟨by omega, fun j hj => by rcases Nat.lt_succ_iff_lt_or_eq.1 hj with h | h; exact hI j h; subst h; exact decide_eq_false (by assumption)⟩ (by omega)

theorem clone_Pair {B : Nat → Prop} (s : Sl DPair) (w : World) (hs : s.rd B w) (hb : s.n * 40 ≤ 140737488355328) : Calls Try.prog 44 #[s.val] w fun e w' => ∃ y : Sl DPair, e = .returned y.val ∧ y.xs = s.xs ∧ Kp [] w w' ∧ Fresh w w' (rowA 72 y.A y.c y.xs) := by
 have oks := Sl.rd.ok hs
 have ncs := Sl.ok.nc oks
 have hns : s.n = s.xs.length := rfl
 refine M0 ?_ Try.func44
 refine Mi ?_ (pG [(4, .val (.bool s.A.isNone))] (oc ((eq_nil Try.underlying22) : ∀ w, (do eqGuard .eql 22 (.tmp 3) (.const vn) s.val vn; binOp .eql 22 s.val vn : Sem Value).run Try.prog w = .ok (.bool s.A.isNone) w) on))
 refine Mb s.A.isNone (fun h1 => ?_) fun h1 => ?_
 · refine Mt [vn] fun bs w hS => ?_
   have hnil : s.xs = [] := Sl.ok.empty oks (by cases h : s.A <;> simp_all)
   exact ⟨Sl.nil, rfl, hnil.symm, hS.kp, rowA_nil 72 w⟩
 refine Mlz ?_ (α := DPair) (e := 72)
 intro A1
 refine Ma ?_ (α := DPair) (L2 := s.xs) 40 (fun bs w hS => Sl.rd.src (s := s) (Sl.rd.kp hs hS.kp))
 intro A2 c2
 exact Mt [.slice A2 ([] ++ s.xs).length c2] fun bs w hS => ⟨⟨A2, c2, [] ++ s.xs⟩, rfl, by simp, hS.kp, hS.out1⟩

theorem same_pairs {B B' : Nat → Prop} (a b : Sl DPair) (w : World) (ha : a.rd B w) (hb : b.rd B' w) (he : a.xs = b.xs) : Calls Try.prog 15 #[a.val, b.val] w fun e w' => e = .returned (vb true) ∧ Kp [] w w' := by
 have oka := Sl.rd.ok ha
 have okb := Sl.rd.ok hb
 have hn := xs_n he
 have nca := Sl.ok.nc oka
 refine M0 ?_ Try.func15
 refine Mdn ((a.n : Int) = (b.n : Int)) (fun h1 => ?_) fun h1 => ?_
 rotate_left
 · exfalso; first | omega | exact h1 (xs_at he i)
 refine Ml (σ := Nat) (fun i => True) (fun i => a.n - i) (fun _ => []) [5, 0, 1] (fun i => [(5, vI (i : Int))]) (fun _ => []) ?_ 0 trivial
 rintro i _ _ on1
 have hat := xs_at he i
 refine Md ((i : Int) < (a.n : Int)) (fun h2 => ?_) fun h2 => ?_
 rotate_left
 · exact Mt [vb true] fun bs w hS => ⟨rfl, hS.kp⟩
 refine Mda 9 [] [] [] Try_mixed ?_
 refine Mih ?_ (pc (pA 19 20 (i : Int) i (rdk ha)) (pc (pA 23 24 (i : Int) i (rdk hb)) (pG [(25, .val (vb (!((decide ((a.at i).name = (b.at i).name)) && ((decide ((a.at i).value = (b.at i).value)) && ((decide ((a.at i).version = (b.at i).version)) && true))))))] (oc ((neq_agg (by kernel_rfl) (by kernel_rfl)) : ∀ w, (do eqGuard .neq 72 (.tmp 20) (.tmp 24) (a.at i).val (b.at i).val; binOp .neq 72 (a.at i).val (b.at i).val : Sem Value).run Try.prog w = .ok (vb (!((decide ((a.at i).name = (b.at i).name)) && ((decide ((a.at i).value = (b.at i).value)) && ((decide ((a.at i).version = (b.at i).version)) && true))))) w) on))))
 refine Mbn ((decide ((a.at i).name = (b.at i).name)) && ((decide ((a.at i).value = (b.at i).value)) && ((decide ((a.at i).version = (b.at i).version)) && true))) (fun h3 => ?_) fun h3 => ?_
 rotate_left
 · exfalso; simp [xs_at he i] at h3
 refine Mi ?_ (pR ((i : Int) + 1))
 exact on1 (i + 1) trivial (by omega)

theorem pair_Set {B : Nat → Prop} (s : Sl DPair) (t v : ByteArray) (w : World) (hs : s.rd B w) (ht : t.size ≤ 9223372036854775807) (hv : v.size ≤ 9223372036854775807) : Calls Try.prog 13 #[s.val, vs t, vs v] w fun e w' => ∃ y : Sl DPair, e = .returned (.tuple #[y.val, ((mPSet s.xs t v).2.1).val, vi (mPSet s.xs t v).2.2]) ∧ y.xs = (mPSet s.xs t v).1 ∧ FreshS w w' y := by
 have oks := Sl.rd.ok hs
 have ncs := Sl.ok.nc oks
 have hns : s.n = s.xs.length := rfl
 refine M0 ?_ Try.func13
 refine Mp ?_ Try.call42 (fun bs w hS => pair_Check s w (Sl.rd.kp hs hS.kp))
 refine Mdn (mPairs s.xs = 0) (fun h1 => ?_) fun h1 => ?_
 rotate_left
 · refine Mt [vn, vz 0, vi (mPairs s.xs)] fun bs w hS => ?_
   have hm : mPSet s.xs t v = ([], zRep, mPairs s.xs) := by
     grind [mPSet, pIdx]
   refine ⟨Sl.nil, ?_, ?_, hS.outS (Sl.rd_nil _ _)⟩
   · rw [hm] <;> rfl
   · rw [hm] <;> rfl
 have hln := (mPairs_bd h1).1
 refine Mp ?_ (vs := fun bs => [vs t]) Try.call43 (fun bs w hS => lock_Name _ w (by first | assumption | omega | (simp only [emp_size]; omega)))
 refine Mbn (mName t) (fun h2 => ?_) fun h2 => ?_
 rotate_left
 · refine Mt [vn, vz 0, vi 4] fun bs w hS => ?_
   have hm : mPSet s.xs t v = ([], zRep, 4) := by
     grind [mPSet, pIdx]
   refine ⟨Sl.nil, ?_, ?_, hS.outS (Sl.rd_nil _ _)⟩
   · rw [hm] <;> rfl
   · rw [hm] <;> rfl
 refine Md ((12 : Int) < (v.size : Int)) (fun h3 => ?_) fun h3 => ?_
 · refine Mt [vn, vz 0, vi 1] fun bs w hS => ?_
   have hm : mPSet s.xs t v = ([], zRep, 1) := by
     grind [mPSet, pIdx]
   refine ⟨Sl.nil, ?_, ?_, hS.outS (Sl.rd_nil _ _)⟩
   · rw [hm] <;> rfl
   · rw [hm] <;> rfl
 refine Mf ?_ Try.call44 (fun bs w hS => clone_Pair s w (Sl.rd.kp hs hS.kp) (by omega))
 rintro y1 hF1
 obtain ⟨A1, c1, rfl⟩ := Sl.of_xs hF1
 refine m_weak (rowA 72 A1 c1 (s.xs : List DPair)) (List.Sublist.refl _) (fun w h => h) ?_
 refine m_know (F := RowOk A1 c1 (s.xs : List DPair)) (fun bs w hS => rowA_rok (hS.res _ i0)) fun hrow1 => ?_
 have nchrow1 := hrow1.2
 refine Mp ?_ (v := .tuple #[vi ((mBS (fun x : DPair => cmpS x.name t) s.xs : Nat) : Int), vb (mBSf (fun x : DPair => cmpS x.name t) s.xs)]) Try.call45 (fun bs w hS => pair_find (⟨A1, c1, s.xs⟩ : Sl DPair) t w (Rr (B := anyB) (hS.res _ i0) (fun _ _ => trivial) (fun z hz => Sl.rd.mem (s := s) hs z hz)) (show s.xs.length ≤ 1048576 by omega))
 have hbs := bsf_pair (l := s.xs) (by assumption) t
 have hJb := mIdx_bd (fun x : DPair => decide (x.name = t)) s.xs
 generalize hJ : mIdx (fun x : DPair => decide (x.name = t)) s.xs = J at hbs hJb
 have hkl := mBS_le (fun x : DPair => cmpS x.name t) s.xs
 generalize hk : mBS (fun x : DPair => cmpS x.name t) s.xs = k at hbs hkl ⊢
 generalize hf : mBSf (fun x : DPair => cmpS x.name t) s.xs = fb at hbs ⊢
 refine Mbx fb true [(11, false)] (fun h4 => ?_) fun h4 => ?_
 rotate_left
 · have h0J := of_decide_eq_false (hbs.1.symm.trans h4)
   refine Md ((s.xs.length : Int) = 5) (fun h6 => ?_) fun h6 => ?_
   · refine Mt [.slice A1 s.xs.length c1, vz 8, vi 0] fun bs w hS => ?_
     have hm : mPSet s.xs t v = (s.xs, ⟨8, 0, emp⟩, 0) := by
       grind [mPSet, pIdx]
     refine ⟨⟨A1, c1, s.xs⟩, ?_, ?_, hS.outS (y := (⟨A1, c1, s.xs⟩ : Sl DPair)) (allR_row i0 (hS.res _ i0) (fun z hz => Sl.rd.mem (s := s) hs z hz))⟩
     · rw [hm] <;> rfl
     · exact Eq.trans rfl (congrArg Prod.fst hm).symm
   refine M1 ?_
   refine Mtu ?_ (v := fun q5 => .slice q5.1 (s.xs.take k ++ [(⟨t, v, 1⟩ : DPair)] ++ s.xs.drop k).length q5.2) (vs := fun bs => [.slice A1 s.xs.length c1, vi (k : Int), .slice (some (adr bs 1 0)) 1 1]) Try.call46 (fun bs w hS => (insR_Pair A1 c1 s.xs k _ (⟨t, v, 1⟩ : DPair) (bs.getD 1 0) 72 w (hS.res _ i0) hS.head1.2.2 rfl (by first | omega | (simp only [Sl.n] at *; omega)) (by first | omega | (simp only [Sl.n] at *; omega)) (hS.loc 1 ⟨72, [vS t, vS v, vI 1]⟩ (by kernel_rfl) (by simp)) (hS.ne_head (i := 1) (b := ⟨72, [vS t, vS v, vI 1]⟩) (by kernel_rfl))).mono (fun e w' ⟨y, h1, h2⟩ => ⟨y, h1, trivial, h2⟩))
   rintro q5 _
   refine Mt [.slice q5.1 (s.xs.take k ++ [(⟨t, v, 1⟩ : DPair)] ++ s.xs.drop k).length q5.2, .agg #[vi 0, vi 1, ve], vi 0] fun bs w hS => ?_
   have hvx : s.xs.take k ++ [(⟨t, v, 1⟩ : DPair)] ++ s.xs.drop k = mIns (fun x : DPair => Op.bytesLess t.toList x.name.toList) ⟨t, v, 1⟩ s.xs := ins_at ((ins_names DPair.name (pairs_srt (by assumption) t) (by rw [hJ]; omega)).trans hk)
   have hm : mPSet s.xs t v = (mIns (fun x : DPair => Op.bytesLess t.toList x.name.toList) ⟨t, v, 1⟩ s.xs, ⟨0, 1, emp⟩, 0) := by
     grind [mPSet, pIdx]
   refine ⟨⟨q5.1, q5.2, s.xs.take k ++ [(⟨t, v, 1⟩ : DPair)] ++ s.xs.drop k⟩, ?_, ?_, hS.outS (y := (⟨q5.1, q5.2, s.xs.take k ++ [(⟨t, v, 1⟩ : DPair)] ++ s.xs.drop k⟩ : Sl DPair)) (allR_row i0 (hS.res _ i0) (fun z hz => ?_))⟩
   · rw [hm] <;> rfl
   · exact Eq.trans hvx (congrArg Prod.fst hm).symm
   · rw [hvx] at hz
     rcases ins_mem hz with hz | hz
     · subst hz; exact ⟨ht, hv⟩
     · exact Sl.rd.mem (s := s) hs z hz
 have hkJ := hbs.2 h4
 subst hkJ
 have hpv := pairF_bd ((mPairs_bd (l := s.xs) (by assumption)).2 k (by omega))
 have hpv1 := hpv.2.2.1
 have hpv2 := hpv.2.2.2.1
 refine Mi ?_ (pc (pIo 46 (k : Int) k s.xs.length i0) (pFo 48 k 2 1 i0))
 refine Md ((s.xs.getD k default).version = 1073741824) (fun h5 => ?_) fun h5 => ?_
 · refine Mt [.slice A1 s.xs.length c1, vz 8, vi 0] fun bs w hS => ?_
   have hm : mPSet s.xs t v = (s.xs, ⟨8, 0, emp⟩, 0) := by
     grind [mPSet, pIdx]
   refine ⟨⟨A1, c1, s.xs⟩, ?_, ?_, hS.outS (y := (⟨A1, c1, s.xs⟩ : Sl DPair)) (allR_row i0 (hS.res _ i0) (fun z hz => Sl.rd.mem (s := s) hs z hz))⟩
   · rw [hm] <;> rfl
   · exact Eq.trans rfl (congrArg Prod.fst hm).symm
 refine Mi ?_ (pIo 67 (k : Int) k s.xs.length i0)
 refine Ms k 1 (⟨(s.xs.getD k default).name, v, (s.xs.getD k default).version⟩ : DPair) ?_ (by omega)
 intro L3 hL3 hlL3
 have hgL3 : L3.getD k default = (⟨(s.xs.getD k default).name, v, (s.xs.getD k default).version⟩ : DPair) := by rw [hL3]; exact getD_set (by omega)
 have hbL3 : L3 = List.set s.xs k (⟨(s.xs.getD k default).name, v, (s.xs.getD k default).version⟩ : DPair) := by rw [hL3]
 refine Mi ?_ (pc (pIo 71 (k : Int) k s.xs.length i0) (pc (pFk 73 k 2 1 hgL3 i0) (pc (pR ((s.xs.getD k default).version + 1)) (pIo 75 (k : Int) k s.xs.length i0))))
 refine Ms k 2 (⟨(s.xs.getD k default).name, v, (s.xs.getD k default).version + 1⟩ : DPair) ?_ (by omega) (hg := hgL3)
 intro L4 hL4 hlL4
 have hgL4 : L4.getD k default = (⟨(s.xs.getD k default).name, v, (s.xs.getD k default).version + 1⟩ : DPair) := by rw [hL4]; exact getD_set (by omega)
 have hbL4 : L4 = List.set s.xs k (⟨(s.xs.getD k default).name, v, (s.xs.getD k default).version + 1⟩ : DPair) := by rw [hL4, hbL3, List.set_set]
 refine Mda 10 [] [0] [rowA 72 A1 c1 (L4 : List DPair)] Try_mixed ?_
 refine Mih ?_ (pc (pIo 80 (k : Int) k s.xs.length i0) (pFk 82 k 2 1 hgL4 i0))
 refine Mz ?_
 refine Mt [.slice A1 s.xs.length c1, .agg #[vi 0, vi ((s.xs.getD k default).version + 1), ve], vi 0] fun bs w hS => ?_
 have hvx : L4 = s.xs.set k ⟨(s.xs.getD k default).name, v, (s.xs.getD k default).version + 1⟩ := hbL4
 have hm : mPSet s.xs t v = (s.xs.set k ⟨(s.xs.getD k default).name, v, (s.xs.getD k default).version + 1⟩, ⟨0, (s.xs.getD k default).version + 1, emp⟩, 0) := by
   grind [mPSet, pIdx]
 refine ⟨⟨A1, c1, L4⟩, ?_, ?_, hS.outS (y := (⟨A1, c1, L4⟩ : Sl DPair)) (allR_row i0 (hS.res _ i0) (fun z hz => ?_))⟩
 · have hll : L4.length = s.xs.length := by rw [hvx, List.length_set]
   rw [hm]
   exact congrArg (fun q => Ending.returned (.tuple #[.slice A1 q c1, .agg #[vi 0, vi ((s.xs.getD k default).version + 1), ve], vi 0])) hll.symm
 · exact Eq.trans hvx (congrArg Prod.fst hm).symm
 · rw [hvx] at hz
   rcases mem_set hz with hz | hz
   · subst hz; exact ⟨(Sl.rd.mem (s := s) hs _ (mem_of_getD (i := k) (by omega))).1, hv⟩
   · exact Sl.rd.mem (s := s) hs z hz

theorem ref_SetOf {B : Nat → Prop} (s : Sl DPair) (t v : ByteArray) (w : World) (hs : s.rd B w) (ht : t.size ≤ 9223372036854775807) (hv : v.size ≤ 9223372036854775807) : Calls Try.prog 14 #[s.val, vs t, vs v] w fun e w' => ∃ y : Sl DPair, e = .returned (.tuple #[y.val, ((mPSet s.xs t v).2.1).val, vi (mPSet s.xs t v).2.2]) ∧ y.xs = (mPSet s.xs t v).1 ∧ FreshS w w' y := by
 have oks := Sl.rd.ok hs
 have ncs := Sl.ok.nc oks
 have hns : s.n = s.xs.length := rfl
 refine M0 ?_ Try.func14
 refine Mp ?_ Try.call47 (fun bs w hS => ref_PairsFault s w (Sl.rd.kp hs hS.kp))
 refine Md (mPairs s.xs = 0) (fun h1 => ?_) fun h1 => ?_
 rotate_left
 · refine My false false ?_ (df h1)
   refine My false true ?_ (df h1)
   refine Mt [vn, vz 0, vi (mPairs s.xs)] fun bs w hS => ?_
   have hm : mPSet s.xs t v = ([], zRep, mPairs s.xs) := by
     grind [mPSet, pIdx]
   refine ⟨Sl.nil, ?_, ?_, hS.outS (Sl.rd_nil _ _)⟩
   · rw [hm] <;> rfl
   · rw [hm] <;> rfl
 have hln := (mPairs_bd h1).1
 refine Mp ?_ (vs := fun bs => [vs t]) Try.call48 (fun bs w hS => ref_NameMay _ w (by first | assumption | omega | (simp only [emp_size]; omega)))
 refine Mbn (mName t) (fun h2 => ?_) fun h2 => ?_
 rotate_left
 · refine Mq 26 false ?_ rfl
   refine Mq 32 true ?_ rfl
   refine Mt [vn, vz 0, vi 4] fun bs w hS => ?_
   have hm : mPSet s.xs t v = ([], zRep, 4) := by
     grind [mPSet, pIdx]
   refine ⟨Sl.nil, ?_, ?_, hS.outS (Sl.rd_nil _ _)⟩
   · rw [hm] <;> rfl
   · rw [hm] <;> rfl
 refine My true false ?_ (dt h1)
 refine Md ((12 : Int) < (v.size : Int)) (fun h4 => ?_) fun h4 => ?_
 · refine Mq 32 true ?_ rfl
   refine Mt [vn, vz 0, vi 1] fun bs w hS => ?_
   have hm : mPSet s.xs t v = ([], zRep, 1) := by
     grind [mPSet, pIdx]
   refine ⟨Sl.nil, ?_, ?_, hS.outS (Sl.rd_nil _ _)⟩
   · rw [hm] <;> rfl
   · rw [hm] <;> rfl
 refine My true true ?_ (dt h1)
 refine m_rowA (α := DPair) 72 ?_
 refine Ma ?_ (α := DPair) (L2 := s.xs) 40 (fun bs w hS => Sl.rd.src (s := s) (Sl.rd.kp hs hS.kp))
 intro A1 c1
 refine m_weak (rowA 72 A1 c1 (s.xs : List DPair)) (List.Sublist.refl _) (fun w h => h) ?_
 refine m_know (F := RowOk A1 c1 (s.xs : List DPair)) (fun bs w hS => rowA_rok (hS.res _ i0)) fun hrow1 => ?_
 have nchrow1 := hrow1.2
 refine Mp ?_ (v := vi (mIdx (fun x : DPair => decide (x.name = t)) s.xs)) Try.call49 (fun bs w hS => tackroomref_pairAt (⟨A1, c1, s.xs⟩ : Sl DPair) t w (Rr (B := anyB) (hS.res _ i0) (fun _ _ => trivial) (fun z hz => Sl.rd.mem (s := s) hs z hz)))
 have hJb := mIdx_bd (fun x : DPair => decide (x.name = t)) s.xs
 generalize hJ : mIdx (fun x : DPair => decide (x.name = t)) s.xs = J at hJb ⊢
 refine Md ((0 : Int) ≤ J) (fun h6 => ?_) fun h6 => ?_
 · have h0J : 0 ≤ J := by omega
   have hpv := pairF_bd ((mPairs_bd (l := s.xs) (by assumption)).2 J.toNat (by omega))
   have hpv1 := hpv.2.2.1
   have hpv2 := hpv.2.2.2.1
   refine Mi ?_ (pc (pIo 44 J J.toNat (s.xs).length i0) (pFo 46 J.toNat 2 1 i0))
   refine Md ((1073741824 : Int) ≤ (s.xs.getD J.toNat default).version) (fun h7 => ?_) fun h7 => ?_
   · refine Mt [.slice A1 (s.xs).length c1, vz 8, vi 0] fun bs w hS => ?_
     have hm : mPSet s.xs t v = (s.xs, ⟨8, 0, emp⟩, 0) := by
       grind [mPSet, pIdx]
     refine ⟨⟨A1, c1, s.xs⟩, ?_, ?_, hS.outS (y := (⟨A1, c1, s.xs⟩ : Sl DPair)) (allR_row i0 (hS.res _ i0) (fun z hz => Sl.rd.mem (s := s) hs z hz))⟩
     · rw [hm] <;> rfl
     · exact Eq.trans rfl (congrArg Prod.fst hm).symm
   refine Mi ?_ (pIo 53 J J.toNat (s.xs).length i0)
   refine Ms J.toNat 1 (⟨(s.xs.getD J.toNat default).name, v, (s.xs.getD J.toNat default).version⟩ : DPair) ?_ (by omega)
   intro L2 hL2 hlL2
   have hgL2 : L2.getD J.toNat default = (⟨(s.xs.getD J.toNat default).name, v, (s.xs.getD J.toNat default).version⟩ : DPair) := by rw [hL2]; exact getD_set (by omega)
   have hbL2 : L2 = List.set s.xs J.toNat (⟨(s.xs.getD J.toNat default).name, v, (s.xs.getD J.toNat default).version⟩ : DPair) := by rw [hL2]
   refine Mi ?_ (pc (pIo 57 J J.toNat (s.xs).length i0) (pc (pFk 59 J.toNat 2 1 hgL2 i0) (pc (pR ((s.xs.getD J.toNat default).version + 1)) (pIo 61 J J.toNat (s.xs).length i0))))
   refine Ms J.toNat 2 (⟨(s.xs.getD J.toNat default).name, v, (s.xs.getD J.toNat default).version + 1⟩ : DPair) ?_ (by omega) (hg := hgL2)
   intro L3 hL3 hlL3
   have hgL3 : L3.getD J.toNat default = (⟨(s.xs.getD J.toNat default).name, v, (s.xs.getD J.toNat default).version + 1⟩ : DPair) := by rw [hL3]; exact getD_set (by omega)
   have hbL3 : L3 = List.set s.xs J.toNat (⟨(s.xs.getD J.toNat default).name, v, (s.xs.getD J.toNat default).version + 1⟩ : DPair) := by rw [hL3, hbL2, List.set_set]
   refine Mda 10 [] [0] [rowA 72 A1 c1 (L3 : List DPair)] Try_mixed ?_
   refine Mih ?_ (pc (pIo 66 J J.toNat (s.xs).length i0) (pFk 68 J.toNat 2 1 hgL3 i0))
   refine Mz ?_
   refine Mt [.slice A1 (s.xs).length c1, .agg #[vi 0, vi ((s.xs.getD J.toNat default).version + 1), ve], vi 0] fun bs w hS => ?_
   have hvx : L3 = s.xs.set J.toNat ⟨(s.xs.getD J.toNat default).name, v, (s.xs.getD J.toNat default).version + 1⟩ := hbL3
   have hm : mPSet s.xs t v = (s.xs.set J.toNat ⟨(s.xs.getD J.toNat default).name, v, (s.xs.getD J.toNat default).version + 1⟩, ⟨0, (s.xs.getD J.toNat default).version + 1, emp⟩, 0) := by
     grind [mPSet, pIdx]
   refine ⟨⟨A1, c1, L3⟩, ?_, ?_, hS.outS (y := (⟨A1, c1, L3⟩ : Sl DPair)) (allR_row i0 (hS.res _ i0) (fun z hz => ?_))⟩
   · have hll : L3.length = s.xs.length := by rw [hvx, List.length_set]
     rw [hm]
     exact congrArg (fun q => Ending.returned (.tuple #[.slice A1 q c1, .agg #[vi 0, vi ((s.xs.getD J.toNat default).version + 1), ve], vi 0])) hll.symm
   · exact Eq.trans hvx (congrArg Prod.fst hm).symm
   · rw [hvx] at hz
     rcases mem_set hz with hz | hz
     · subst hz; exact ⟨(Sl.rd.mem (s := s) hs _ (mem_of_getD (i := J.toNat) (by omega))).1, hv⟩
     · exact Sl.rd.mem (s := s) hs z hz
 have h0J : ¬ 0 ≤ J := by omega
 refine Md ((5 : Int) ≤ (((s.xs).length : Nat) : Int)) (fun h8 => ?_) fun h8 => ?_
 · refine Mt [.slice A1 (s.xs).length c1, vz 8, vi 0] fun bs w hS => ?_
   have hm : mPSet s.xs t v = (s.xs, ⟨8, 0, emp⟩, 0) := by
     grind [mPSet, pIdx]
   refine ⟨⟨A1, c1, s.xs⟩, ?_, ?_, hS.outS (y := (⟨A1, c1, s.xs⟩ : Sl DPair)) (allR_row i0 (hS.res _ i0) (fun z hz => Sl.rd.mem (s := s) hs z hz))⟩
   · rw [hm] <;> rfl
   · exact Eq.trans rfl (congrArg Prod.fst hm).symm
 refine m_rowA (α := DPair) 72 ?_
 refine Ml (σ := Nat × Bool × Option Addr × Nat × List DPair) (fun ⟨k, b, A, c, L⟩ => InsI (fun x : DPair => Op.bytesLess t.toList x.name.toList) (⟨t, v, 1⟩ : DPair) s.xs k b L) (fun ⟨k, b, A, c, L⟩ => s.xs.length - k) (fun ⟨k, b, A, c, L⟩ => [rowA 72 A c (L : List DPair), rowA 72 A1 c1 (s.xs : List DPair)]) [14, 13, 12, 10, 7, 1, 2] (fun ⟨k, b, A, c, L⟩ => [(14, vI (k : Int)), (13, vB b), (12, .v (.slice A L.length c))]) (fun _ => []) ?_ (⟨0, false, none, 0, []⟩) (show InsI (fun x : DPair => Op.bytesLess t.toList x.name.toList) (⟨t, v, 1⟩ : DPair) s.xs 0 false [] from InsI.start _ _ _)
 rintro ⟨k, b, A, c, L⟩ hI _ on1
 have hIl := hI.len
 have hIk := hI.le
 refine Md ((k : Int) < (((s.xs).length : Nat) : Int)) (fun h9 => ?_) fun h9 => ?_
 rotate_left
 · refine Mbn b (fun h12 => ?_) fun h12 => ?_
   · refine Mt [.slice A L.length c, .agg #[vi 0, vi 1, ve], vi 0] fun bs w hS => ?_
     clear on1
     have hvx : L = mIns (fun x : DPair => Op.bytesLess t.toList x.name.toList) ⟨t, v, 1⟩ s.xs := (hI.fin1 (by assumption) (by omega))
     have hm : mPSet s.xs t v = (mIns (fun x : DPair => Op.bytesLess t.toList x.name.toList) ⟨t, v, 1⟩ s.xs, ⟨0, 1, emp⟩, 0) := by
       grind [mPSet, pIdx]
     refine ⟨⟨A, c, L⟩, ?_, ?_, hS.outS (y := (⟨A, c, L⟩ : Sl DPair)) (allR_row i0 (hS.res _ i0) (fun z hz => ?_))⟩
     · rw [hm] <;> rfl
     · exact Eq.trans hvx (congrArg Prod.fst hm).symm
     · rw [hvx] at hz
       rcases ins_mem hz with hz | hz
       · subst hz; exact ⟨ht, hv⟩
       · exact Sl.rd.mem (s := s) hs z hz
   refine M1 ?_
   refine Mal (α := DPair) 40 ([(⟨t, v, 1⟩ : DPair)]) ?_
   intro A8 c8
   refine m_know (F := RowOk A8 c8 (L ++ [(⟨t, v, 1⟩ : DPair)] : List DPair)) (fun bs w hS => rowA_rok (hS.res _ i0)) fun hrow8 => ?_
   have nchrow8 := hrow8.2
   refine Mt [.slice A8 (L ++ [(⟨t, v, 1⟩ : DPair)]).length c8, .agg #[vi 0, vi 1, ve], vi 0] fun bs w hS => ?_
   clear on1
   have hvx : L ++ [(⟨t, v, 1⟩ : DPair)] = mIns (fun x : DPair => Op.bytesLess t.toList x.name.toList) ⟨t, v, 1⟩ s.xs := (hI.fin0 (by assumption) (by omega))
   have hm : mPSet s.xs t v = (mIns (fun x : DPair => Op.bytesLess t.toList x.name.toList) ⟨t, v, 1⟩ s.xs, ⟨0, 1, emp⟩, 0) := by
     grind [mPSet, pIdx]
   refine ⟨⟨A8, c8, L ++ [(⟨t, v, 1⟩ : DPair)]⟩, ?_, ?_, hS.outS (y := (⟨A8, c8, L ++ [(⟨t, v, 1⟩ : DPair)]⟩ : Sl DPair)) (allR_row i0 (hS.res _ i0) (fun z hz => ?_))⟩
   · rw [hm] <;> rfl
   · exact Eq.trans hvx (congrArg Prod.fst hm).symm
   · rw [hvx] at hz
     rcases ins_mem hz with hz | hz
     · subst hz; exact ⟨ht, hv⟩
     · exact Sl.rd.mem (s := s) hs z hz
 refine Mbx b true [(13, false)] (fun h10 => ?_) fun h10 => ?_
 · refine Mi ?_ (pc (pIo 101 (k : Int) k (s.xs).length i1) (pEo 102 k i1))
   refine M1 ?_
   refine Mal (α := DPair) 40 ([(⟨(s.xs.getD k default).name, (s.xs.getD k default).value, (s.xs.getD k default).version⟩ : DPair)]) ?_
   intro A4 c4
   refine m_know (F := RowOk A4 c4 (L ++ [(⟨(s.xs.getD k default).name, (s.xs.getD k default).value, (s.xs.getD k default).version⟩ : DPair)] : List DPair)) (fun bs w hS => rowA_rok (hS.res _ i0)) fun hrow4 => ?_
   have nchrow4 := hrow4.2
   refine Mi ?_ (pR ((k : Int) + 1))
   exact on1 ⟨k + 1, true, A4, c4, L ++ [(⟨(s.xs.getD k default).name, (s.xs.getD k default).value, (s.xs.getD k default).version⟩ : DPair)]⟩ (by first | exact hI.more (by assumption) (by omega) | exact hI.hit (by assumption) (by omega) (by assumption) | exact hI.skip (by assumption) (by omega) (by assumption)) (by show s.xs.length - (k + 1) < s.xs.length - k; omega)
 refine Mi ?_ (pc (pIo 86 (k : Int) k (s.xs).length i1) (pFo 88 k 0 1 i1))
 refine Mbn (Op.bytesLess ((s.xs.getD k default).name).toList (t).toList || decide ((s.xs.getD k default).name = t)) (fun h11 => ?_) fun h11 => ?_
 · rw [bytes_total] at h11
   simp only [Bool.not_eq_true', Bool.not_eq_false', Bool.not_eq_true, Bool.not_eq_false] at h11
   refine Mi ?_ (pc (pIo 101 (k : Int) k (s.xs).length i1) (pEo 102 k i1))
   refine M1 ?_
   refine Mal (α := DPair) 40 ([(⟨(s.xs.getD k default).name, (s.xs.getD k default).value, (s.xs.getD k default).version⟩ : DPair)]) ?_
   intro A5 c5
   refine m_know (F := RowOk A5 c5 (L ++ [(⟨(s.xs.getD k default).name, (s.xs.getD k default).value, (s.xs.getD k default).version⟩ : DPair)] : List DPair)) (fun bs w hS => rowA_rok (hS.res _ i0)) fun hrow5 => ?_
   have nchrow5 := hrow5.2
   refine Mi ?_ (pR ((k : Int) + 1))
   exact on1 ⟨k + 1, false, A5, c5, L ++ [(⟨(s.xs.getD k default).name, (s.xs.getD k default).value, (s.xs.getD k default).version⟩ : DPair)]⟩ (by first | exact hI.more (by assumption) (by omega) | exact hI.hit (by assumption) (by omega) (by assumption) | exact hI.skip (by assumption) (by omega) (by assumption)) (by show s.xs.length - (k + 1) < s.xs.length - k; omega)
 rw [bytes_total] at h11
 simp only [Bool.not_eq_true', Bool.not_eq_false', Bool.not_eq_true, Bool.not_eq_false] at h11
 refine M1 ?_
 refine Mal (α := DPair) 40 ([(⟨t, v, 1⟩ : DPair)]) ?_
 intro A6 c6
 refine m_know (F := RowOk A6 c6 (L ++ [(⟨t, v, 1⟩ : DPair)] : List DPair)) (fun bs w hS => rowA_rok (hS.res _ i0)) fun hrow6 => ?_
 have nchrow6 := hrow6.2
 refine Mi ?_ (pc (pIo 101 (k : Int) k (s.xs).length i1) (pEo 102 k i1))
 refine M1 ?_
 refine Mal (α := DPair) 40 ([(⟨(s.xs.getD k default).name, (s.xs.getD k default).value, (s.xs.getD k default).version⟩ : DPair)]) ?_
 intro A7 c7
 refine m_know (F := RowOk A7 c7 (L ++ [(⟨t, v, 1⟩ : DPair)] ++ [(⟨(s.xs.getD k default).name, (s.xs.getD k default).value, (s.xs.getD k default).version⟩ : DPair)] : List DPair)) (fun bs w hS => rowA_rok (hS.res _ i0)) fun hrow7 => ?_
 have nchrow7 := hrow7.2
 refine Mi ?_ (pR ((k : Int) + 1))
 exact on1 ⟨k + 1, true, A7, c7, L ++ [(⟨t, v, 1⟩ : DPair)] ++ [(⟨(s.xs.getD k default).name, (s.xs.getD k default).value, (s.xs.getD k default).version⟩ : DPair)]⟩ (by first | exact hI.more (by assumption) (by omega) | exact hI.hit (by assumption) (by omega) (by assumption) | exact hI.skip (by assumption) (by omega) (by assumption)) (by show s.xs.length - (k + 1) < s.xs.length - k; omega)

theorem law_PairSets {B : Nat → Prop} (s : Sl DPair) (t v : ByteArray) (w : World) (hs : s.rd B w) (ht : t.size ≤ 9223372036854775807) (hv : v.size ≤ 9223372036854775807) (hsm : Rds.small s) : Calls Try.prog 3 #[s.val, vs t, vs v] w fun e w' => e = .returned (vb true) ∧ Kp [] w w' := by
 have oks := Sl.rd.ok hs
 have ncs := Sl.ok.nc oks
 have hns : s.n = s.xs.length := rfl
 have hsm1 : s.xs.length * 40 ≤ 140737488355328 := hsm.1
 refine M0 ?_ Try.func3
 refine m_rowA (α := DPair) 72 ?_
 refine Ma ?_ (α := DPair) (L2 := s.xs) 40 (fun bs w hS => Sl.rd.src (s := s) (Sl.rd.kp hs hS.kp))
 intro A1 c1
 refine m_weak (rowA 72 A1 c1 (s.xs : List DPair)) (List.Sublist.refl _) (fun w h => h) ?_
 refine Mu ?_ Try.call13 (fun bs w hS => pair_Set (⟨A1, c1, s.xs⟩ : Sl DPair) t v w (Rr (B := anyB) (hS.res _ i0) (fun _ _ => trivial) (fun z hz => Sl.rd.mem (s := s) hs z hz)) (by first | assumption | omega | (simp only [emp_size]; omega)) (by first | assumption | omega | (simp only [emp_size]; omega)))
 rintro fp2 y2 hF2 hok2
 refine Mu ?_ Try.call14 (fun bs w hS => ref_SetOf s t v w (Sl.rd.kp hs hS.kp) (by first | assumption | omega | (simp only [emp_size]; omega)) (by first | assumption | omega | (simp only [emp_size]; omega)))
 rintro fp3 y3 hF3 hok3
 refine Mi ?_ (pG [(34, .val (vb ((decide (((mPSet s.xs t v).2.1).code = ((mPSet s.xs t v).2.1).code)) && ((decide (((mPSet s.xs t v).2.1).n = ((mPSet s.xs t v).2.1).n)) && ((decide (((mPSet s.xs t v).2.1).text = ((mPSet s.xs t v).2.1).text)) && true)))))] (oc ((eq_agg (by kernel_rfl) (by kernel_rfl)) : ∀ w, (do eqGuard .eql 25 (.tmp 32) (.tmp 33) ((mPSet s.xs t v).2.1).val ((mPSet s.xs t v).2.1).val; binOp .eql 25 ((mPSet s.xs t v).2.1).val ((mPSet s.xs t v).2.1).val : Sem Value).run Try.prog w = .ok (vb ((decide (((mPSet s.xs t v).2.1).code = ((mPSet s.xs t v).2.1).code)) && ((decide (((mPSet s.xs t v).2.1).n = ((mPSet s.xs t v).2.1).n)) && ((decide (((mPSet s.xs t v).2.1).text = ((mPSet s.xs t v).2.1).text)) && true)))) w) on))
 refine Mb ((decide (((mPSet s.xs t v).2.1).code = ((mPSet s.xs t v).2.1).code)) && ((decide (((mPSet s.xs t v).2.1).n = ((mPSet s.xs t v).2.1).n)) && ((decide (((mPSet s.xs t v).2.1).text = ((mPSet s.xs t v).2.1).text)) && true))) (fun h1 => ?_) fun h1 => ?_
 rotate_left
 · exfalso; first | (simp at h1; done) | (rw [hF1] at h1; simp at h1; done)
 refine Md ((mPSet s.xs t v).2.2 = (mPSet s.xs t v).2.2) (fun h2 => ?_) fun h2 => ?_
 rotate_left
 · exact absurd rfl h2
 refine Mp ?_ Try.call15 (fun bs w hS => same_pairs y2 y3 w (hS.res _ i1) (hS.res _ i0) (by first | rfl | rw [hF2, hF3]))
 refine Mq 45 true ?_ rfl
 refine Mp ?_ Try.call15 (fun bs w hS => same_pairs (⟨A1, c1, s.xs⟩ : Sl DPair) s w (Rr (B := anyB) (hS.res _ i2) (fun _ _ => trivial) (fun z hz => Sl.rd.mem (s := s) hs z hz)) (Sl.rd.kp hs hS.kp) (by first | rfl | rw [hF2, hF3]))
 exact Meb true (by simp [retOf, den])

end Go.Proofs.Ytakdjdfkdbofoab.W
