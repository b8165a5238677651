/-
  The law FnBudget returns true. No conditions of its own.
-/
import Derived.Test.YtfnhchcgieeedaaGreatGO
import Derived.Test.YtfnhchcgieeedaaGreatBG2
import Derived.Test.YtfnhchcgieeedaaGreatBG3
import Derived.Test.YtfnhchcgieeedaaGreatBS13
import Derived.Test.YtfnhchcgieeedaaGreatZz2
import Derived.Test.YtfnhchcgieeedaaGreatZz1
namespace Go.Proofs.YtfnhchcgieeedaaGreat
set_option linter.unusedSimpArgs false
set_option linter.unusedVariables false
set_option linter.unusedSimpArgs false
set_option linter.unusedVariables false
set_option linter.defProp false
set_option maxRecDepth 20000
open Go.RowKit

set_option maxHeartbeats 16000000 in
theorem FnBudget_k (b : List UInt8) (rb : b.length ≤ maxLen ∧ ∀ y ∈ b, (fun _ => True) y) : FnOK Tryz.prog 3 ⟨1, [(0, some (.ro (b.map bytK)))], [.c (.sl 0 1 0 b.length)], .c (.v (.bool true)), [], 1⟩ := by
  have q := rb.1
  simp only [maxLen] at q
  rcases Nat.lt_or_ge 1048576 b.length with h | h
  · have h0 := h
    refine fnOK_of true mixed Tryz.func3 rfl (by rfl) (by rfl) ?_
    have hres := congrArg Array.toList Tryz.results3
    simp only [Tryz.ntmps3, BGB, seval]
    (have gx := And.intro (@List.length_map.{0,0}) (And.intro @List.getElem_map.{0,0} @bytK.eq_1); refine go ?_; (repeat' first | exact Ef.mk | apply Lf.mk | refine fun (K : KT) hK hE hT => ?_ | refine fun (KS : KE) hKS => ?_ | refine fun (D : KD) hD => ?_ | refine fun (hg : (_ : Prop)) => ?_ | fail); all_goals (first | (refine Wr.mk ?_; (try clear gx); repeat first | clear hK hE hT K | clear hR hE hT K) | assumption | skip))
    (refine post_a hres (.inl rfl) ?_; simp only [RSB, ENB, seval, tiAll, true_and]; simp only [MAB, seval]; refine ⟨rfl, rfl, ?_, ?_, ?_⟩ <;> (first | rfl | (simp [WKB, Nat.add_comm, true_and]; done) | (simp only [WKB, seval])))
  · have kg := makeGraph_k b h
    have hg := bgG_ok b
    have kj := makeJob_k b (bgG b).N h (by omega)
    have hj := bgJ_ok b
    have kn := makeNum_k b 9 h (by decide)
    have rn := bwV_rng b (mnC b) (n := 9) (by decide)
    change FnOK _ _ ⟨_, _, _, .agg [.v (.int .i64 (bgJ b).Prog), .v (.int .i64 (bgJ b).Src)], _, _⟩ at kj
    obtain ⟨g, hge⟩ : ∃ g, g = bgG b := ⟨_, rfl⟩
    obtain ⟨j, hje⟩ : ∃ j, j = bgJ b := ⟨_, rfl⟩
    obtain ⟨m, hme⟩ : ∃ m, m = mnV b 9 := ⟨_, rfl⟩
    have rn : 0 ≤ m ∧ m < 9 := by rw [hme]; exact rn
    rw [← hge] at kg hg kj hj
    rw [← hje] at kj hj
    rw [← hme] at kn
    clear hge hje hme
    have hgl := (graphOk_out hg.1).1.2.2
    have kr := implRunNew_k g j (by omega)
    rw [hg.1, hj] at kr
    have hro := runNew_ok hg.1 hj
    have hri := runNew_it (g := g) (j := j)
    have hrs := runOk_small hro
    obtain ⟨r, hre⟩ : ∃ r, r = runNew g j := ⟨_, rfl⟩
    rw [← hre] at kr hro hri hrs
    have f1 : fmOk g 1 1 = true := by unfold fmOk cutOk; rw [hg.1]; rfl
    have f2 : fmOk g (1 + m) 3 = true := by
      unfold fmOk cutOk
      rw [hg.1, decide_eq_true (show 1 ≤ 1 + m ∧ 1 + m ≤ 400 by omega)]
      rfl
    have kf1 := implFarmOf_k g 1 1 (by omega) (by decide)
    have kf2 := implFarmOf_k g (1 + m) 3 (by omega) (by decide)
    rw [f1] at kf1
    rw [f2] at kf2
    have hm := cut_mono (farm_yes f2).2.1
    have e1 : (farmR g 1 1).Ends = cutL g 1 := by rw [(farm_yes f1).1]; rfl
    have e2 : (farmR g (1 + m) 3).Ends = cutL g (1 + m) := by rw [(farm_yes f2).1]; rfl
    rw [← e1, ← e2] at hm
    obtain ⟨a1, a2, a3, a4, a5⟩ := fo_both f1 hro
    obtain ⟨b1, b2, b3, b4, b5⟩ := fo_both f2 hro
    have L1 := farm_L a1.1
    have L2 := farm_L b1.1
    obtain ⟨A, hA⟩ : ∃ A, A = farmR g 1 1 := ⟨_, rfl⟩
    obtain ⟨B, hB⟩ : ∃ B, B = farmR g (1 + m) 3 := ⟨_, rfl⟩
    rw [← hA] at kf1 hm a1 a2 a3 a4 a5 L1
    rw [← hB] at kf2 hm b1 b2 b3 b4 b5 L2
    have ko1 := implFRunOf_k A r L1 (by omega)
    have ko2 := implFRunOf_k B r L2 (by omega)
    rw [pB_t a1] at ko1
    rw [pB_t b1] at ko2
    obtain ⟨x, hx⟩ : ∃ x, x = foR A r := ⟨_, rfl⟩
    obtain ⟨y, hy⟩ : ∃ y, y = foR B r := ⟨_, rfl⟩
    rw [← hx] at ko1 a2 a3 a4 a5
    rw [← hy] at ko2 b2 b3 b4 b5
    obtain ⟨c1, c2, _, _⟩ := fa_ra a2 4 (by omega)
    obtain ⟨d1, d2, _, _⟩ := fa_ra b2 4 (by omega)
    rw [a4, a3] at c2
    rw [b4, b3] at d2
    have Lx := sm_L (frin_sm (fr_in a2))
    have Ly := sm_L (frin_sm (fr_in b2))
    have kx := implFAll_k x 4 Lx (by decide)
    have ky := implFAll_k y 4 Ly (by decide)
    rw [fa_yes a2] at kx
    rw [fa_yes b2] at ky
    change FnOK _ _ ⟨_, _, _, .agg [.v (.int .i64 (faTo x 4).Job.Prog), .v (.int .i64 (faTo x 4).Job.Src), .v (.int .i64 (faTo x 4).Iter), .v (.bool (faTo x 4).Done), .sl 4 1 0 ((faTo x 4).Vals).length, .v (.int .i64 (faTo x 4).Next.N), .sl 5 1 0 ((faTo x 4).Next.Bits).length, .v (.int .i64 (faTo x 4).Farm.N), .sl 6 1 0 ((faTo x 4).Farm.Ends).length, .sl 7 3 0 ((faTo x 4).Farm.Shards).length], [(4, some (.row 3 (((faTo x 4).Vals).map intK))), (5, some (.row 5 (((faTo x 4).Next.Bits).map bytK))), (6, some (.row 3 (((faTo x 4).Farm.Ends).map intK))), (7, some (.nst 97 (((faTo x 4).Farm.Shards).map (ShardD.k 101)) none))], _⟩ at kx
    change FnOK _ _ ⟨_, _, _, .agg [.v (.int .i64 (faTo y 4).Job.Prog), .v (.int .i64 (faTo y 4).Job.Src), .v (.int .i64 (faTo y 4).Iter), .v (.bool (faTo y 4).Done), .sl 4 1 0 ((faTo y 4).Vals).length, .v (.int .i64 (faTo y 4).Next.N), .sl 5 1 0 ((faTo y 4).Next.Bits).length, .v (.int .i64 (faTo y 4).Farm.N), .sl 6 1 0 ((faTo y 4).Farm.Ends).length, .sl 7 3 0 ((faTo y 4).Farm.Shards).length], [(4, some (.row 3 (((faTo y 4).Vals).map intK))), (5, some (.row 5 (((faTo y 4).Next.Bits).map bytK))), (6, some (.row 3 (((faTo y 4).Farm.Ends).map intK))), (7, some (.nst 97 (((faTo y 4).Farm.Shards).map (ShardD.k 101)) none))], _⟩ at ky
    have Mx := sm_L (faTo_sm a2 4)
    have My := sm_L (faTo_sm b2 4)
    have kbx := implBack_k (faTo x 4) Mx
    have kby := implBack_k (faTo y 4) My
    rw [bk_yes c1, c2] at kbx
    rw [bk_yes d1, d2] at kby
    have ka := implRunAll_k g r 4 (by omega) (by omega) (by decide)
    rw [show raR g r 4 = raTo g r 4 from ra_of hro 4] at ka
    have hra := runOk_small (ra_ok hro 4 (by omega)).1
    have ke := sameRun_k (raTo g r 4) (by omega)
    obtain ⟨X, hX⟩ : ∃ X, X = faTo x 4 := ⟨_, rfl⟩
    obtain ⟨Y, hY⟩ : ∃ Y, Y = faTo y 4 := ⟨_, rfl⟩
    obtain ⟨R, hR⟩ : ∃ R, R = raTo g r 4 := ⟨_, rfl⟩
    rw [← hX] at kx kbx Mx
    rw [← hY] at ky kby My
    rw [← hR] at kbx kby ka ke hra
    clear c1 c2 d1 d2 a1 a2 a3 a4 a5 b1 b2 b3 b4 b5 hX hY hR hx hy hA hB hre f1 f2 e1 e2
    refine fnOK_of true mixed Tryz.func3 rfl (by rfl) (by rfl) ?_
    have hres := congrArg Array.toList Tryz.results3
    simp only [Tryz.ntmps3, BGB, seval]
    (have gx := And.intro (@List.length_map.{0,0}) (And.intro (@List.getElem_map.{0,0}) (And.intro @bytK.eq_1 @List.length_map.{0,0})); have q1 := kg; have q2 := kj; have q3 := kn; have q4 := kr; have q5 := kf1; have q6 := kf2; have q7 := ko1; have q8 := ko2; have q9 := kx; have q10 := ky; have q11 := kbx; have q12 := kby; have q13 := ka; have q14 := ke; refine go ?_; (repeat' first | exact Ef.mk | apply Lf.mk | refine fun (K : KT) hK hE hT => ?_ | refine fun (KS : KE) hKS => ?_ | refine fun (D : KD) hD => ?_ | refine fun (hg : (_ : Prop)) => ?_ | fail); all_goals (first | (refine Wr.mk ?_; (try clear gx q1 q2 q3 q4 q5 q6 q7 q8 q9 q10 q11 q12 q13 q14); repeat first | clear hK hE hT K | clear hR hE hT K) | assumption | skip))
    all_goals (refine post_a hres (.inl rfl) ?_; simp only [RSB, ENB, seval, tiAll, true_and]; simp only [MAB, seval]; refine ⟨rfl, rfl, ?_, ?_, ?_⟩ <;> (first | rfl | (simp [WKB, Nat.add_comm, true_and]; done) | (simp only [WKB, seval])))

end Go.Proofs.YtfnhchcgieeedaaGreat

