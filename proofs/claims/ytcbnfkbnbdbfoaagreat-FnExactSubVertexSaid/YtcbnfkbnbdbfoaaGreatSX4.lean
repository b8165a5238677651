/-
  An update of a vertex of a part, asked first: plain; copies by both. No conditions of its own.
-/
import Derived.Test.YtcbnfkbnbdbfoaaGreatGO
import Derived.Test.YtcbnfkbnbdbfoaaGreatSX3
import Derived.Test.YtcbnfkbnbdbfoaaGreatMRA
namespace Go.Proofs.YtcbnfkbnbdbfoaaGreat
set_option linter.unusedSimpArgs false
set_option linter.unusedVariables false
set_option linter.unusedSimpArgs false
set_option linter.unusedVariables false
set_option linter.defProp false
set_option maxRecDepth 20000
open Go.RowKit
attribute [local irreducible] lexD

def locE (x : LocD) : Prop := (0 ≤ x.Edge.Val ∧ x.Edge.Val ≤ 1099511627776) ∧ 0 ≤ x.Edge.W ∧ x.Edge.W ≤ 1000
instance (x : LocD) : Decidable (locE x) := inferInstanceAs (Decidable (_ ∧ _))
def locsOk (l : List LocD) (k : Nat) : Prop := ∀ i (h : i < l.length), i < k → locE l[i]
theorem locsOk_zero (l : List LocD) : locsOk l 0 := fun i h hi => absurd hi (by omega)
theorem locsOk_succ {l : List LocD} {k : Nat} (h : locsOk l k) (hk : k < l.length) (hv : locE l[k]) : locsOk l (k + 1) := fun i hi hik => by
  by_cases e : i = k
  · subst e; exact hv
  · exact h i hi (by omega)
/-- What is asked ahead of the places. -/
def svP (f : FRunD) (s : SubD) (w : SetD) (v : Int) : Prop := FrOk f ∧ (s.Lo ≤ v ∧ v < s.Hi ∧ 0 ≤ v ∧ v < f.Farm.N) ∧ (setOk w.N w.Bits = true ∧ w.N = f.Farm.N) ∧ s.Locs.length ≤ 400
def svOk (f : FRunD) (s : SubD) (w : SetD) (v : Int) : Prop := svP f s w v ∧ locsOk s.Locs s.Locs.length
def svG (f : FRunD) (s : SubD) : GraphD := gOf f.Farm.N s.Locs
def svE (f : FRunD) (s : SubD) (w : SetD) (v : Int) : VxD := vxEnd (svG f s) (rOf f s.Locs) w.Bits v.toNat
noncomputable def svF (f : FRunD) (s : SubD) (w : SetD) (v : Int) : FRunD := if pB (svOk f s w v) then ⟨f.Job, f.Iter, f.Done, f.Vals.set v.toNat (vxVal (svG f s) (rOf f s.Locs) v.toNat), ⟨f.Next.N, (svE f s w v).nx⟩, f.Farm⟩ else ⟨⟨0, 0⟩, 0, false, [], ⟨0, []⟩, ⟨0, [], []⟩⟩
noncomputable def svS (f : FRunD) (s : SubD) (w : SetD) (v : Int) : SubD := if pB (svOk f s w v) then ⟨s.P, s.Lo, s.Hi, setEv s.Locs (svE f s w v).ev, s.Reads⟩ else ⟨0, 0, 0, [], 0⟩
noncomputable def svW (f : FRunD) (s : SubD) (w : SetD) (v : Int) : SetD := if pB (svOk f s w v) then ⟨f.Farm.N, (svE f s w v).nw⟩ else ⟨0, []⟩
theorem sv_no {f : FRunD} {s : SubD} {w : SetD} {v : Int} (h : ¬ svOk f s w v) : svF f s w v = ⟨⟨0, 0⟩, 0, false, [], ⟨0, []⟩, ⟨0, [], []⟩⟩ ∧ svS f s w v = ⟨0, 0, 0, [], 0⟩ ∧ svW f s w v = ⟨0, []⟩ := by
  unfold svF svS svW; rw [pB_f h]; exact ⟨rfl, rfl, rfl⟩
theorem sv_yes {f : FRunD} {s : SubD} {w : SetD} {k : Nat} (h : svOk f s w k) : svF f s w k = ⟨f.Job, f.Iter, f.Done, f.Vals.set k (vxVal (svG f s) (rOf f s.Locs) k), ⟨f.Next.N, (vxEnd (svG f s) (rOf f s.Locs) w.Bits k).nx⟩, f.Farm⟩ ∧ svS f s w k = ⟨s.P, s.Lo, s.Hi, setEv s.Locs (vxEnd (svG f s) (rOf f s.Locs) w.Bits k).ev, s.Reads⟩ ∧ svW f s w k = ⟨f.Farm.N, (vxEnd (svG f s) (rOf f s.Locs) w.Bits k).nw⟩ := by
  unfold svF svS svW; rw [pB_t h]; exact ⟨rfl, rfl, rfl⟩

theorem fg_n {f : FarmD} (h : FarmOk f) : (fgR f).N = f.N := by
  unfold fgR; rw [pB_t h]; rfl
/-- What a valid run in a farm tells. -/
structure FrIn (f : FRunD) : Prop where
  fo : FarmOk f.Farm
  jp : 1 ≤ f.Job.Prog ∧ f.Job.Prog ≤ 4
  vl : (f.Vals.length : Int) = f.Farm.N
  vo : f.Vals.all valOk = true
  so : setOk f.Farm.N f.Next.Bits = true
  sn : f.Next.N = f.Farm.N
  it : 0 ≤ f.Iter ∧ f.Iter ≤ 1000
theorem fr_in {f : FRunD} (h : FrOk f) : FrIn f := by
  obtain ⟨h1, h2⟩ := h
  obtain ⟨hin, hit, _⟩ := runOk_in h2
  have e := fg_n h1
  have a := hin.vl
  have b := hin.so
  have c := hin.sn
  rw [e] at a b c
  exact ⟨h1, jobOk_out hin.jo, a, hin.vo, b, c, hit⟩
theorem ix_of {f : FRunD} {l : List LocD} (h : FrIn f) (hl : l.length ≤ 400) (ho : locsOk l l.length) : RunIx (gOf f.Farm.N l) (rOf f l) := by
  have hn := (gf_ok h.fo).n
  refine ⟨⟨hn.1, hn.2, by simp [gOf]; exact hl⟩, fun e he => ?_, h.jp, h.vl, by simp [rOf, evOf, gOf], h.vo, ?_⟩
  · obtain ⟨x, hx, rfl⟩ := List.mem_map.1 he
    obtain ⟨i, hi, rfl⟩ := List.getElem_of_mem hx
    exact (ho i hi hi).2
  · rw [List.all_eq_true]
    intro z hz
    obtain ⟨x, hx, rfl⟩ := List.mem_map.1 hz
    obtain ⟨i, hi, rfl⟩ := List.getElem_of_mem hx
    exact valOk_in (ho i hi hi).1
theorem sv_lens {f : FRunD} {l : List LocD} {w : List UInt8} {v : Nat} (h : FrIn f) (hl : l.length ≤ 400) (ho : locsOk l l.length) (hw : setOk f.Farm.N w = true) (hv : (v : Int) < f.Farm.N) :
    (vxEnd (gOf f.Farm.N l) (rOf f l) w v).ev.length = l.length ∧ (vxEnd (gOf f.Farm.N l) (rOf f l) w v).nx.length = f.Next.Bits.length ∧ (vxEnd (gOf f.Farm.N l) (rOf f l) w v).nw.length = w.length := by
  have := ix_lens (g := gOf f.Farm.N l) (r := rOf f l) (nw := w) (v := v) (ix_of h hl ho) h.so hw hv (viewsI (gOf f.Farm.N l) v).length
  refine ⟨this.1.trans ?_, this.2.1, this.2.2⟩
  simp [rOf, evOf]


set_option maxHeartbeats 4000000 in
theorem copySub_k (x : SubD) (h : (x.Locs).length ≤ 1048576) : FnOK Tryz.prog 62 ⟨1, [(0, some (.ro ((x.Locs).map LocD.k)))], [.agg [.v (.int .i64 x.P), .v (.int .i64 x.Lo), .v (.int .i64 x.Hi), .sl 0 7 0 (x.Locs).length, .v (.int .i64 x.Reads)]], .agg [.v (.int .i64 x.P), .v (.int .i64 x.Lo), .v (.int .i64 x.Hi), .sl 1 7 0 (x.Locs).length, .v (.int .i64 x.Reads)], [(1, some (.row 98 ((x.Locs).map LocD.k)))], 2⟩ := by
  have t1 : (x.Locs.map LocD.k).take x.Locs.length = x.Locs.map LocD.k := List.take_of_length_le (by simp)
  refine fnOK_of true mixed Tryz.func62 rfl (by rfl) (by rfl) ?_
  have hres := congrArg Array.toList Tryz.results62
  simp only [Tryz.ntmps62, BGB, seval]
  (have gx := And.intro @List.length_map.{0,0} @t1; refine go ?_; (repeat' (first | exact Ef.mk | refine Lf.mk ?_ ?_ | refine fun (K : KT) hK hE hT => ?_ | refine fun (KS : Eff → Prop) hKS => ?_ | refine fun (D : List Keys → Prop) hD => ?_ | refine fun (hg : (_ : Prop)) => ?_ | fail)); all_goals (first | (refine Wr.mk ?_; (try clear gx); repeat (first | (clear hK hE hT; clear K) | (clear hR hE hT; clear K))) | assumption | skip))
  (refine post_a hres (.inl rfl) ?_; simp only [RSB, ENB, seval, tiAll, true_and]; simp only [MAB, seval]; refine ⟨rfl, rfl, ?_, ?_, ?_⟩ <;> (first | rfl | (simp [WKB, Nat.add_comm, true_and]; done) | (simp only [WKB, seval])))

set_option maxHeartbeats 4000000 in
theorem l13Sub_k (x : SubD) (h : (x.Locs).length ≤ 1048576) : FnOK Tryz.prog 52 ⟨1, [(0, some (.ro ((x.Locs).map LocD.k)))], [.agg [.v (.int .i64 x.P), .v (.int .i64 x.Lo), .v (.int .i64 x.Hi), .sl 0 7 0 (x.Locs).length, .v (.int .i64 x.Reads)]], .agg [.v (.int .i64 x.P), .v (.int .i64 x.Lo), .v (.int .i64 x.Hi), .sl 1 7 0 (x.Locs).length, .v (.int .i64 x.Reads)], [(1, some (.row 98 ((x.Locs).map LocD.k)))], 2⟩ := by
  have t1 : (x.Locs.map LocD.k).take x.Locs.length = x.Locs.map LocD.k := List.take_of_length_le (by simp)
  refine fnOK_of true mixed Tryz.func52 rfl (by rfl) (by rfl) ?_
  have hres := congrArg Array.toList Tryz.results52
  simp only [Tryz.ntmps52, BGB, seval]
  (have gx := And.intro @List.length_map.{0,0} @t1; refine go ?_; (repeat' (first | exact Ef.mk | refine Lf.mk ?_ ?_ | refine fun (K : KT) hK hE hT => ?_ | refine fun (KS : Eff → Prop) hKS => ?_ | refine fun (D : List Keys → Prop) hD => ?_ | refine fun (hg : (_ : Prop)) => ?_ | fail)); all_goals (first | (refine Wr.mk ?_; (try clear gx); repeat (first | (clear hK hE hT; clear K) | (clear hR hE hT; clear K))) | assumption | skip))
  (refine post_a hres (.inl rfl) ?_; simp only [RSB, ENB, seval, tiAll, true_and]; simp only [MAB, seval]; refine ⟨rfl, rfl, ?_, ?_, ?_⟩ <;> (first | rfl | (simp [WKB, Nat.add_comm, true_and]; done) | (simp only [WKB, seval])))

set_option maxHeartbeats 8000000 in
theorem copyFRun_k (x : FRunD) (h : (x.Vals).length ≤ 1048576 ∧ (x.Next.Bits).length ≤ 1048576 ∧ (x.Farm.Ends).length ≤ 1048576 ∧ (x.Farm.Shards).length ≤ 1048576 ∧ (∀ s ∈ x.Farm.Shards, s.Edges.length ≤ 1048576)) : FnOK Tryz.prog 61 ⟨4, [(0, some (.ro ((x.Vals).map intK))), (1, some (.ro ((x.Next.Bits).map bytK))), (2, some (.ro ((x.Farm.Ends).map intK))), (3, some (.ro ((x.Farm.Shards).map (ShardD.k 96))))], [.agg [.v (.int .i64 x.Job.Prog), .v (.int .i64 x.Job.Src), .v (.int .i64 x.Iter), .v (.bool x.Done), .sl 0 1 0 (x.Vals).length, .v (.int .i64 x.Next.N), .sl 1 1 0 (x.Next.Bits).length, .v (.int .i64 x.Farm.N), .sl 2 1 0 (x.Farm.Ends).length, .sl 3 3 0 (x.Farm.Shards).length]], .agg [.v (.int .i64 x.Job.Prog), .v (.int .i64 x.Job.Src), .v (.int .i64 x.Iter), .v (.bool x.Done), .sl 4 1 0 (x.Vals).length, .v (.int .i64 x.Next.N), .sl 5 1 0 (x.Next.Bits).length, .v (.int .i64 x.Farm.N), .sl 6 1 0 (x.Farm.Ends).length, .sl 7 3 0 (x.Farm.Shards).length], [(4, some (.row 3 ((x.Vals).map intK))), (5, some (.row 5 ((x.Next.Bits).map bytK))), (6, some (.row 3 ((x.Farm.Ends).map intK))), (7, some (.nst 179 ((x.Farm.Shards).map (ShardD.k 96)) none))], 8⟩ := by
  obtain ⟨h0, h1, h2, h3, h4⟩ := h
  have c1 := copyInts_k x.Vals h0
  have c2 := copySet_k x.Next h1
  have c3 := copyFarm_k x.Farm ⟨h2, h3, h4⟩
  refine fnOK_of true mixed Tryz.func61 rfl (by rfl) (by rfl) ?_
  have hres := congrArg Array.toList Tryz.results61
  simp only [Tryz.ntmps61, BGB, seval]
  (have gx := @List.length_map.{0,0}; have q1 := c1; have q2 := c2; have q3 := c3; refine go ?_; (repeat' (first | exact Ef.mk | refine Lf.mk ?_ ?_ | refine fun (K : KT) hK hE hT => ?_ | refine fun (KS : Eff → Prop) hKS => ?_ | refine fun (D : List Keys → Prop) hD => ?_ | refine fun (hg : (_ : Prop)) => ?_ | fail)); all_goals (first | (refine Wr.mk ?_; (try clear gx); (try clear q1 q2 q3); repeat (first | (clear hK hE hT; clear K) | (clear hR hE hT; clear K))) | assumption | skip))
  (refine post_a hres (.inl rfl) ?_; simp only [RSB, ENB, seval, tiAll, true_and]; simp only [MAB, seval]; refine ⟨rfl, rfl, ?_, ?_, ?_⟩ <;> (first | rfl | (simp [WKB, Nat.add_comm, true_and]; done) | (simp only [WKB, seval])))

set_option maxHeartbeats 8000000 in
theorem l13Copy_k (x : FRunD) (h : (x.Vals).length ≤ 1048576 ∧ (x.Next.Bits).length ≤ 1048576 ∧ (x.Farm.Ends).length ≤ 1048576 ∧ (x.Farm.Shards).length ≤ 1048576 ∧ (∀ s ∈ x.Farm.Shards, s.Edges.length ≤ 1048576)) : FnOK Tryz.prog 51 ⟨4, [(0, some (.ro ((x.Vals).map intK))), (1, some (.ro ((x.Next.Bits).map bytK))), (2, some (.ro ((x.Farm.Ends).map intK))), (3, some (.ro ((x.Farm.Shards).map (ShardD.k 96))))], [.agg [.v (.int .i64 x.Job.Prog), .v (.int .i64 x.Job.Src), .v (.int .i64 x.Iter), .v (.bool x.Done), .sl 0 1 0 (x.Vals).length, .v (.int .i64 x.Next.N), .sl 1 1 0 (x.Next.Bits).length, .v (.int .i64 x.Farm.N), .sl 2 1 0 (x.Farm.Ends).length, .sl 3 3 0 (x.Farm.Shards).length]], .agg [.v (.int .i64 x.Job.Prog), .v (.int .i64 x.Job.Src), .v (.int .i64 x.Iter), .v (.bool x.Done), .sl 4 1 0 (x.Vals).length, .v (.int .i64 x.Next.N), .sl 5 1 0 (x.Next.Bits).length, .v (.int .i64 x.Farm.N), .sl 6 1 0 (x.Farm.Ends).length, .sl 7 3 0 (x.Farm.Shards).length], [(4, some (.row 3 ((x.Vals).map intK))), (5, some (.row 5 ((x.Next.Bits).map bytK))), (6, some (.row 3 ((x.Farm.Ends).map intK))), (7, some (.nst 179 ((x.Farm.Shards).map (ShardD.k 96)) none))], 8⟩ := by
  obtain ⟨h0, h1, h2, h3, h4⟩ := h
  have t1 : (x.Vals.map intK).take x.Vals.length = x.Vals.map intK := List.take_of_length_le (by simp)
  have c2 := l09Copy_k x.Next h1
  have c3 := l12Copy_k x.Farm ⟨h2, h3, h4⟩
  refine fnOK_of true mixed Tryz.func51 rfl (by rfl) (by rfl) ?_
  have hres := congrArg Array.toList Tryz.results51
  simp only [Tryz.ntmps51, BGB, seval]
  (have gx := And.intro @List.length_map.{0,0} @t1; have q1 := c2; have q2 := c3; refine go ?_; (repeat' (first | exact Ef.mk | refine Lf.mk ?_ ?_ | refine fun (K : KT) hK hE hT => ?_ | refine fun (KS : Eff → Prop) hKS => ?_ | refine fun (D : List Keys → Prop) hD => ?_ | refine fun (hg : (_ : Prop)) => ?_ | fail)); all_goals (first | (refine Wr.mk ?_; (try clear gx); (try clear q1 q2); repeat (first | (clear hK hE hT; clear K) | (clear hR hE hT; clear K))) | assumption | skip))
  (refine post_a hres (.inl rfl) ?_; simp only [RSB, ENB, seval, tiAll, true_and]; simp only [MAB, seval]; refine ⟨rfl, rfl, ?_, ?_, ?_⟩ <;> (first | rfl | (simp [WKB, Nat.add_comm, true_and]; done) | (simp only [WKB, seval])))

end Go.Proofs.YtcbnfkbnbdbfoaaGreat
