/-
  Contracts: a run in a farm, drawn. No conditions of its own.
-/
import Derived.Test.YtfdhdkljpeohlaaGreatGO
import Derived.Test.YtfdhdkljpeohlaaGreatMFW
import Derived.Test.YtfdhdkljpeohlaaGreatFW6
import Derived.Test.YtfdhdkljpeohlaaGreatFR1
import Derived.Test.YtfdhdkljpeohlaaGreatMD
import Derived.Test.YtfdhdkljpeohlaaGreatMCT
import Derived.Test.YtfdhdkljpeohlaaGreatMRA
namespace Go.Proofs.YtfdhdkljpeohlaaGreat
set_option linter.unusedSimpArgs false
set_option linter.unusedVariables false
set_option linter.unusedSimpArgs false
set_option linter.unusedVariables false
set_option linter.defProp false
set_option maxRecDepth 20000
open Go.RowKit
attribute [local irreducible] lexD

def wfC (b : List UInt8) (c : Cu) : Cu := bwC b (mrC b c) 4
def wfB (b : List UInt8) (c : Cu) : Int := 1 + bwV b (wfC b c) 6
def wfS (b : List UInt8) (c : Cu) : Int := 1 + bwV b (bwC b (wfC b c) 6) 5
def wfA (b : List UInt8) (c : Cu) : FarmD := farmR (mrG b c) (wfB b c) (wfS b c)
noncomputable def wfF (b : List UInt8) (c : Cu) : FRunD := foR (wfA b c) (mrR b c)
theorem wfA_ok (b : List UInt8) (c : Cu) : fmOk (mrG b c) (wfB b c) (wfS b c) = true ∧ fgR (wfA b c) = mrG b c ∧ FarmOk (wfA b c) ∧ edSum (wfA b c).Shards = (mrG b c).Edges.length := by
  have r0 := bwV_rng b (wfC b c) (n := 6) (by decide)
  have r1 := bwV_rng b (bwC b (wfC b c) 6) (n := 5) (by decide)
  have h : fmOk (mrG b c) (wfB b c) (wfS b c) = true := by
    unfold fmOk cutOk
    rw [(mrG_ok b c).1, decide_eq_true (show 1 ≤ wfB b c ∧ wfB b c ≤ 400 by unfold wfB; omega), decide_eq_true (show 1 ≤ wfS b c by unfold wfS; omega)]
    rfl
  exact ⟨h, fgM_eq h⟩
theorem fw_sk {f : FarmD} {vals : List Int} (h : FwOk f vals) : fgR (fwR f vals) = fgR f := by
  obtain ⟨q1, q2, _, q4, _⟩ := fw_farm h
  have hs : (f.Shards.map (shW vals)).map skS = f.Shards.map skS := by
    rw [List.map_map]
    exact List.map_congr_left fun s _ => shW_sk vals s
  have e := (fw_yes h).1
  rw [fg_eq q1, fg_eq h.1, q2, q4, edgesL_sk _ (allE (fwR f vals).Shards), edgesL_sk _ (allE f.Shards)]
  rw [e]
  dsimp only
  rw [sk_allE hs]
/-- The drawn run is valid, and over the drawn graph. -/
theorem wfF_ok (b : List UInt8) (c : Cu) : FoOk (wfA b c) (mrR b c) ∧ FrOk (wfF b c) ∧ frunR (wfF b c) = mrR b c ∧ fgR (wfF b c).Farm = mrG b c ∧ (wfF b c).Iter ≤ 4 := by
  obtain ⟨_, h2, h3, h4⟩ := wfA_ok b c
  have hb := mr_ok b c
  have hin := (runOk_in hb.1).1
  have ho : FoOk (wfA b c) (mrR b c) := ⟨h3, by rw [h2]; exact hb.1⟩
  have hw : FwOk (wfA b c) (mrR b c).EVals := ⟨h3, by rw [h4]; exact hin.el, hin.eo⟩
  obtain ⟨q1, q2, q3, q4, q5⟩ := fw_farm hw
  have e : wfF b c = ⟨(mrR b c).Job, (mrR b c).Iter, (mrR b c).Done, (mrR b c).Vals, (mrR b c).Next, fwR (wfA b c) (mrR b c).EVals⟩ := fo_yes ho
  have e1 : frunR (wfF b c) = mrR b c := by
    rw [e]
    unfold frunR
    dsimp only
    rw [q5]
  have e2 : fgR (wfF b c).Farm = mrG b c := by
    rw [e]
    dsimp only
    rw [fw_sk hw, h2]
  refine ⟨ho, ⟨by rw [e]; exact q1, by rw [e2, e1]; exact hb.1⟩, e1, e2, by rw [e]; exact hb.2.2⟩

set_option maxHeartbeats 8000000 in
theorem l13Draw_k (b : List UInt8) (c : Cu) (hb : b.length ≤ 1048576) (hc : c.i ≤ 1048576) : FnOK Tryz.prog 22 ⟨2, [(0, some (.ro (b.map bytK))), (1, some (.box 87 [.sl 0 1 0 b.length, .v (.int .i64 (c.i : Int)), .v (.int .i64 c.h)]))], [.c (.ptr 1 0 0)],
    .agg [.v (.int .i64 (wfF b c).Job.Prog), .v (.int .i64 (wfF b c).Job.Src), .v (.int .i64 (wfF b c).Iter), .v (.bool (wfF b c).Done), .sl 2 1 0 ((wfF b c).Vals).length, .v (.int .i64 (wfF b c).Next.N), .sl 3 1 0 ((wfF b c).Next.Bits).length, .v (.int .i64 (wfF b c).Farm.N), .sl 4 1 0 ((wfF b c).Farm.Ends).length, .sl 5 3 0 ((wfF b c).Farm.Shards).length], [(1, some (.box 87 [.sl 0 1 0 b.length, .v (.int .i64 ((bwC b (bwC b (wfC b c) 6) 5).i : Int)), .v (.int .i64 (bwC b (bwC b (wfC b c) 6) 5).h)])), (2, some (.row 3 (((wfF b c).Vals).map intK))), (3, some (.row 5 (((wfF b c).Next.Bits).map bytK))), (4, some (.row 3 (((wfF b c).Farm.Ends).map intK))), (5, some (.nst 109 (((wfF b c).Farm.Shards).map (ShardD.k 112)) none))], 6⟩ := by
  have k1 := l11Draw_k b c hb hc
  have h1 : (wfC b c).i ≤ 1048576 := bwC_le hb (jobC_le hb (gdC_le hb hc) _) _
  have k2 := l01Below_k b (wfC b c) 6 hb h1 (by decide)
  have k3 := l01Below_k b (bwC b (wfC b c) 6) 5 hb (bwC_le hb h1 _) (by decide)
  have r2 := bwV_rng b (wfC b c) (n := 6) (by decide)
  have r3 := bwV_rng b (bwC b (wfC b c) 6) (n := 5) (by decide)
  obtain ⟨a1, a2, a3, a4⟩ := wfA_ok b c
  have hgl := (graphOk_out (mrG_ok b c).1).1.2.2
  have k4 := specFarmOf_k (mrG b c) (wfB b c) (wfS b c) (by omega) (by unfold wfS; omega)
  rw [a1] at k4
  have fl := farm_L a3
  have hrs := runOk_small (mr_ok b c).1
  have k5 := specFRunOf_k (wfA b c) (mrR b c) fl (by omega)
  have hfo := (wfF_ok b c).1
  rw [pB_t hfo] at k5
  change FnOK _ _ ⟨_, _, [.agg [.v (.int .i64 (mrG b c).N), .sl 0 3 0 ((mrG b c).Edges).length], .c (.v (.int .i64 (1 + bwV b (wfC b c) 6))), .c (.v (.int .i64 (1 + bwV b (bwC b (wfC b c) 6) 5)))], .tup [.inr [.v (.int .i64 (wfA b c).N), .sl 1 1 0 ((wfA b c).Ends).length, .sl 2 3 0 ((wfA b c).Shards).length], .inl (.v (.bool true))], [(1, some (.row 3 (((wfA b c).Ends).map intK))), (2, some (.nst 109 (((wfA b c).Shards).map (ShardD.k 112)) none))], _⟩ at k4
  have e1 : bwC b (mrC b c) 4 = wfC b c := rfl
  rw [e1] at k1
  change FnOK _ _ ⟨_, _, _, .tup [.inr [.v (.int .i64 (wfF b c).Job.Prog), .v (.int .i64 (wfF b c).Job.Src), .v (.int .i64 (wfF b c).Iter), .v (.bool (wfF b c).Done), .sl 5 1 0 ((wfF b c).Vals).length, .v (.int .i64 (wfF b c).Next.N), .sl 6 1 0 ((wfF b c).Next.Bits).length, .v (.int .i64 (wfF b c).Farm.N), .sl 7 1 0 ((wfF b c).Farm.Ends).length, .sl 8 3 0 ((wfF b c).Farm.Shards).length], .inl (.v (.bool true))], [(5, some (.row 3 (((wfF b c).Vals).map intK))), (6, some (.row 5 (((wfF b c).Next.Bits).map bytK))), (7, some (.row 3 (((wfF b c).Farm.Ends).map intK))), (8, some (.nst 109 (((wfF b c).Farm.Shards).map (ShardD.k 112)) none))], _⟩ at k5
  obtain ⟨f0, f1, f2⟩ := fl
  obtain ⟨s0, s1, s2⟩ := hrs
  generalize wfF b c = F at *
  generalize wfA b c = A at *
  generalize mrR b c = r at *
  generalize mrG b c = g at *
  refine fnOK_of true mixed Tryz.func22 rfl (by rfl) (by rfl) ?_
  have hres := congrArg Array.toList Tryz.results22
  simp only [Tryz.ntmps22, BGB, seval]
  (have gx := @List.length_map.{0,0}; have q1 := k1; have q2 := k2; have q3 := k3; have q4 := k4; have q5 := k5; refine go ?_; (repeat' first | exact Ef.mk | apply Lf.mk | refine fun (K : KT) hK hE hT => ?_ | refine fun (KS : KE) hKS => ?_ | refine fun (D : KD) hD => ?_ | refine fun (hg : (_ : Prop)) => ?_ | fail); all_goals (first | (refine Wr.mk ?_; (try clear gx q1 q2 q3 q4 q5); repeat first | clear hK hE hT K | clear hR hE hT K) | assumption | skip))
  all_goals (refine post_a hres (.inl rfl) ?_; simp only [RSB, ENB, seval, tiAll, true_and]; simp only [MAB, seval]; refine ⟨rfl, rfl, ?_, ?_, ?_⟩ <;> (first | rfl | (simp [WKB, Nat.add_comm, true_and]; done) | (simp only [WKB, seval])))

set_option maxHeartbeats 2000000 in
theorem makeFRun_k (b : List UInt8) (hb : b.length ≤ 1048576) : FnOK Tryz.prog 5 ⟨1, [(0, some (.ro (b.map bytK)))], [.c (.sl 0 1 0 b.length)], .agg [.v (.int .i64 (wfF b (newC b)).Job.Prog), .v (.int .i64 (wfF b (newC b)).Job.Src), .v (.int .i64 (wfF b (newC b)).Iter), .v (.bool (wfF b (newC b)).Done), .sl 1 1 0 ((wfF b (newC b)).Vals).length, .v (.int .i64 (wfF b (newC b)).Next.N), .sl 2 1 0 ((wfF b (newC b)).Next.Bits).length, .v (.int .i64 (wfF b (newC b)).Farm.N), .sl 3 1 0 ((wfF b (newC b)).Farm.Ends).length, .sl 4 3 0 ((wfF b (newC b)).Farm.Shards).length], [(1, some (.row 3 (((wfF b (newC b)).Vals).map intK))), (2, some (.row 5 (((wfF b (newC b)).Next.Bits).map bytK))), (3, some (.row 3 (((wfF b (newC b)).Farm.Ends).map intK))), (4, some (.nst 109 (((wfF b (newC b)).Farm.Shards).map (ShardD.k 112)) none))], 5⟩ := by
  have k0 := l01New_k b hb
  have k1 := l13Draw_k b (newC b) hb (newC_le b)
  generalize wfF b (newC b) = F at *
  refine fnOK_of true mixed Tryz.func5 rfl (by rfl) (by rfl) ?_
  have hres := congrArg Array.toList Tryz.results5
  simp only [Tryz.ntmps5, BGB, seval]
  (have gx := true_and True; have q1 := k0; have q2 := k1; refine go ?_; (repeat' first | exact Ef.mk | apply Lf.mk | refine fun (K : KT) hK hE hT => ?_ | refine fun (KS : KE) hKS => ?_ | refine fun (D : KD) hD => ?_ | refine fun (hg : (_ : Prop)) => ?_ | fail); all_goals (first | (refine Wr.mk ?_; (try clear gx q1 q2); repeat first | clear hK hE hT K | clear hR hE hT K) | assumption | skip))
  all_goals (refine post_a hres (.inl rfl) ?_; simp only [RSB, ENB, seval, tiAll, true_and]; simp only [MAB, seval]; refine ⟨rfl, rfl, ?_, ?_, ?_⟩ <;> (first | rfl | (simp [WKB, Nat.add_comm, true_and]; done) | (simp only [WKB, seval])))

end Go.Proofs.YtfdhdkljpeohlaaGreat

