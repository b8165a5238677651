/-
  An update of a vertex of a part, asked first: plain; copies by both. No conditions of its own.
-/
import Derived.Test.YtcbnfkbnbdbfoaaGreatGO
import Derived.Test.YtcbnfkbnbdbfoaaGreatSX3
import Derived.Test.YtcbnfkbnbdbfoaaGreatMRA
namespace Go.Proofs.YtcbnfkbnbdbfoaaGreat
set_option linter.unusedSimpArgs false
set_option linter.unusedVariables false
set_option linter.unusedSimpArgs false
set_option linter.unusedVariables false
set_option linter.defProp false
set_option maxRecDepth 20000
open Go.RowKit
attribute [local irreducible] lexD

def locE (x : LocD) : Prop := (0 ≤ x.Edge.Val ∧ x.Edge.Val ≤ 1099511627776) ∧ 0 ≤ x.Edge.W ∧ x.Edge.W ≤ 1000
instance (x : LocD) : Decidable (locE x) := inferInstanceAs (Decidable (_ ∧ _))
def locsOk (l : List LocD) (k : Nat) : Prop := ∀ i (h : i < l.length), i < k → locE l[i]
theorem fg_n {f : FarmD} (h : FarmOk f) : (fgR f).N = f.N := by
  unfold fgR; rw [pB_t h]; rfl
/-- What a valid run in a farm tells. -/
structure FrIn (f : FRunD) : Prop where
  fo : FarmOk f.Farm
  jp : 1 ≤ f.Job.Prog ∧ f.Job.Prog ≤ 4
  vl : (f.Vals.length : Int) = f.Farm.N
  vo : f.Vals.all valOk = true
  so : setOk f.Farm.N f.Next.Bits = true
  sn : f.Next.N = f.Farm.N
  it : 0 ≤ f.Iter ∧ f.Iter ≤ 1000
theorem fr_in {f : FRunD} (h : FrOk f) : FrIn f := by
  obtain ⟨h1, h2⟩ := h
  obtain ⟨hin, hit, _⟩ := runOk_in h2
  have e := fg_n h1
  have a := hin.vl
  have b := hin.so
  have c := hin.sn
  rw [e] at a b c
  exact ⟨h1, jobOk_out hin.jo, a, hin.vo, b, c, hit⟩
theorem ix_of {f : FRunD} {l : List LocD} (h : FrIn f) (hl : l.length ≤ 400) (ho : locsOk l l.length) : RunIx (gOf f.Farm.N l) (rOf f l) := by
  have hn := (gf_ok h.fo).n
  refine ⟨⟨hn.1, hn.2, by simp [gOf]; exact hl⟩, fun e he => ?_, h.jp, h.vl, by simp [rOf, evOf, gOf], h.vo, ?_⟩
  · obtain ⟨x, hx, rfl⟩ := List.mem_map.1 he
    obtain ⟨i, hi, rfl⟩ := List.getElem_of_mem hx
    exact (ho i hi hi).2
  · rw [List.all_eq_true]
    intro z hz
    obtain ⟨x, hx, rfl⟩ := List.mem_map.1 hz
    obtain ⟨i, hi, rfl⟩ := List.getElem_of_mem hx
    exact valOk_in (ho i hi hi).1
set_option maxHeartbeats 8000000 in
theorem copyFRun_k (x : FRunD) (h : (x.Vals).length ≤ 1048576 ∧ (x.Next.Bits).length ≤ 1048576 ∧ (x.Farm.Ends).length ≤ 1048576 ∧ (x.Farm.Shards).length ≤ 1048576 ∧ (∀ s ∈ x.Farm.Shards, s.Edges.length ≤ 1048576)) : FnOK Tryz.prog 61 ⟨4, [(0, some (.ro ((x.Vals).map intK))), (1, some (.ro ((x.Next.Bits).map bytK))), (2, some (.ro ((x.Farm.Ends).map intK))), (3, some (.ro ((x.Farm.Shards).map (ShardD.k 96))))], [.agg [.v (.int .i64 x.Job.Prog), .v (.int .i64 x.Job.Src), .v (.int .i64 x.Iter), .v (.bool x.Done), .sl 0 1 0 (x.Vals).length, .v (.int .i64 x.Next.N), .sl 1 1 0 (x.Next.Bits).length, .v (.int .i64 x.Farm.N), .sl 2 1 0 (x.Farm.Ends).length, .sl 3 3 0 (x.Farm.Shards).length]], .agg [.v (.int .i64 x.Job.Prog), .v (.int .i64 x.Job.Src), .v (.int .i64 x.Iter), .v (.bool x.Done), .sl 4 1 0 (x.Vals).length, .v (.int .i64 x.Next.N), .sl 5 1 0 (x.Next.Bits).length, .v (.int .i64 x.Farm.N), .sl 6 1 0 (x.Farm.Ends).length, .sl 7 3 0 (x.Farm.Shards).length], [(4, some (.row 3 ((x.Vals).map intK))), (5, some (.row 5 ((x.Next.Bits).map bytK))), (6, some (.row 3 ((x.Farm.Ends).map intK))), (7, some (.nst 179 ((x.Farm.Shards).map (ShardD.k 96)) none))], 8⟩ := by
  obtain ⟨h0, h1, h2, h3, h4⟩ := h
  have c1 := copyInts_k x.Vals h0
  have c2 := copySet_k x.Next h1
  have c3 := copyFarm_k x.Farm ⟨h2, h3, h4⟩
  refine fnOK_of true mixed Tryz.func61 rfl (by rfl) (by rfl) ?_
  have hres := congrArg Array.toList Tryz.results61
  simp only [Tryz.ntmps61, BGB, seval]
  (have gx := @List.length_map.{0,0}; have q1 := c1; have q2 := c2; have q3 := c3; refine go ?_; (repeat' (first | exact Ef.mk | refine Lf.mk ?_ ?_ | refine fun (K : KT) hK hE hT => ?_ | refine fun (KS : Eff → Prop) hKS => ?_ | refine fun (D : List Keys → Prop) hD => ?_ | refine fun (hg : (_ : Prop)) => ?_ | fail)); all_goals (first | (refine Wr.mk ?_; (try clear gx); (try clear q1 q2 q3); repeat (first | (clear hK hE hT; clear K) | (clear hR hE hT; clear K))) | assumption | skip))
  (refine post_a hres (.inl rfl) ?_; simp only [RSB, ENB, seval, tiAll, true_and]; simp only [MAB, seval]; refine ⟨rfl, rfl, ?_, ?_, ?_⟩ <;> (first | rfl | (simp [WKB, Nat.add_comm, true_and]; done) | (simp only [WKB, seval])))

set_option maxHeartbeats 8000000 in
theorem l13Copy_k (x : FRunD) (h : (x.Vals).length ≤ 1048576 ∧ (x.Next.Bits).length ≤ 1048576 ∧ (x.Farm.Ends).length ≤ 1048576 ∧ (x.Farm.Shards).length ≤ 1048576 ∧ (∀ s ∈ x.Farm.Shards, s.Edges.length ≤ 1048576)) : FnOK Tryz.prog 51 ⟨4, [(0, some (.ro ((x.Vals).map intK))), (1, some (.ro ((x.Next.Bits).map bytK))), (2, some (.ro ((x.Farm.Ends).map intK))), (3, some (.ro ((x.Farm.Shards).map (ShardD.k 96))))], [.agg [.v (.int .i64 x.Job.Prog), .v (.int .i64 x.Job.Src), .v (.int .i64 x.Iter), .v (.bool x.Done), .sl 0 1 0 (x.Vals).length, .v (.int .i64 x.Next.N), .sl 1 1 0 (x.Next.Bits).length, .v (.int .i64 x.Farm.N), .sl 2 1 0 (x.Farm.Ends).length, .sl 3 3 0 (x.Farm.Shards).length]], .agg [.v (.int .i64 x.Job.Prog), .v (.int .i64 x.Job.Src), .v (.int .i64 x.Iter), .v (.bool x.Done), .sl 4 1 0 (x.Vals).length, .v (.int .i64 x.Next.N), .sl 5 1 0 (x.Next.Bits).length, .v (.int .i64 x.Farm.N), .sl 6 1 0 (x.Farm.Ends).length, .sl 7 3 0 (x.Farm.Shards).length], [(4, some (.row 3 ((x.Vals).map intK))), (5, some (.row 5 ((x.Next.Bits).map bytK))), (6, some (.row 3 ((x.Farm.Ends).map intK))), (7, some (.nst 179 ((x.Farm.Shards).map (ShardD.k 96)) none))], 8⟩ := by
  obtain ⟨h0, h1, h2, h3, h4⟩ := h
  have t1 : (x.Vals.map intK).take x.Vals.length = x.Vals.map intK := List.take_of_length_le (by simp)
  have c2 := l09Copy_k x.Next h1
  have c3 := l12Copy_k x.Farm ⟨h2, h3, h4⟩
  refine fnOK_of true mixed Tryz.func51 rfl (by rfl) (by rfl) ?_
  have hres := congrArg Array.toList Tryz.results51
  simp only [Tryz.ntmps51, BGB, seval]
  (have gx := And.intro @List.length_map.{0,0} @t1; have q1 := c2; have q2 := c3; refine go ?_; (repeat' (first | exact Ef.mk | refine Lf.mk ?_ ?_ | refine fun (K : KT) hK hE hT => ?_ | refine fun (KS : Eff → Prop) hKS => ?_ | refine fun (D : List Keys → Prop) hD => ?_ | refine fun (hg : (_ : Prop)) => ?_ | fail)); all_goals (first | (refine Wr.mk ?_; (try clear gx); (try clear q1 q2); repeat (first | (clear hK hE hT; clear K) | (clear hR hE hT; clear K))) | assumption | skip))
  (refine post_a hres (.inl rfl) ?_; simp only [RSB, ENB, seval, tiAll, true_and]; simp only [MAB, seval]; refine ⟨rfl, rfl, ?_, ?_, ?_⟩ <;> (first | rfl | (simp [WKB, Nat.add_comm, true_and]; done) | (simp only [WKB, seval])))

end Go.Proofs.YtcbnfkbnbdbfoaaGreat

