/-
  The engine, texts Q1 Q2 in one. No conditions of its own.
-/
import Derived.Test.YtfnhchcgieeedaaGreatGO
import Derived.Test.YtfnhchcgieeedaaGreatMNB
import Derived.Test.YtfnhchcgieeedaaGreatMKA
import Derived.Test.YtfnhchcgieeedaaGreatMNC
namespace Go.Proofs.YtfnhchcgieeedaaGreat
set_option linter.unusedSimpArgs false
set_option linter.unusedVariables false
set_option linter.unusedSimpArgs false
set_option linter.unusedVariables false
set_option linter.defProp false
set_option maxRecDepth 20000
open Go.RowKit
attribute [local irreducible] lexD

def withV (vals : List Int) (e : SEdgeD) : SEdgeD := { e with Val := vals.getD e.Index.toNat 0 }
def shW (vals : List Int) (s : ShardD) : ShardD := ⟨s.Lo, s.Hi, s.Edges.map (withV vals)⟩
theorem shW_len (vals : List Int) (s : ShardD) : (shW vals s).Edges.length = s.Edges.length := List.length_map ..
theorem shW_lo (vals : List Int) (s : ShardD) : (shW vals s).Lo = s.Lo := rfl
theorem shW_hi (vals : List Int) (s : ShardD) : (shW vals s).Hi = s.Hi := rfl
/-- All edges of a shard find their values. -/
structure WvOk (s : ShardD) (vals : List Int) : Prop where
  o : ShOk s
  i : ∀ e : SEdgeD, e ∈ s.Edges → 0 ≤ e.Index ∧ e.Index < vals.length
  v : ∀ v ∈ vals, 0 ≤ v ∧ v ≤ 281474976710655
def wvG (s : ShardD) (vals : List Int) (i : Nat) : List DC := ((s.Edges[i]?).map fun e : SEdgeD => SEdgeD.k (withV vals e)).getD []
theorem wvG_at {s : ShardD} {vals : List Int} {i : Nat} (h : i < s.Edges.length) : wvG s vals i = SEdgeD.k (withV vals s.Edges[i]) := by
  unfold wvG; rw [List.getElem?_eq_getElem h]; rfl
theorem wvG_all (s : ShardD) (vals : List Int) : (List.range s.Edges.length).map (wvG s vals) = (shW vals s).Edges.map SEdgeD.k := by
  apply List.ext_getElem
  · simp [shW]
  · intro i h1 h2
    rw [List.getElem_map, List.getElem_range, wvG_at (by simpa using h1)]
    simp [shW]
theorem withV_at {vals : List Int} {y : SEdgeD} {z : Nat} (hz : y.Index = (z : Int)) (h : z < vals.length) : withV vals y = { y with Val := vals[z] } := by
  unfold withV
  rw [hz, Int.toNat_natCast, List.getD_eq_getElem?_getD, List.getElem?_eq_getElem h]; rfl

set_option maxHeartbeats 4000000 in
theorem copyShard_k (s : ShardD) (h : s.Edges.length ≤ 1048576) : FnOK Tryz.prog 66 ⟨1, [(0, some (.ro (s.Edges.map SEdgeD.k)))], [.agg [.v (.int .i64 s.Lo), .v (.int .i64 s.Hi), .sl 0 5 0 s.Edges.length]],
    .agg [.v (.int .i64 s.Lo), .v (.int .i64 s.Hi), .sl 1 5 0 s.Edges.length], [(1, some (.row 101 (s.Edges.map SEdgeD.k)))], 2⟩ := by
  have t1 : (s.Edges.map SEdgeD.k).take s.Edges.length = s.Edges.map SEdgeD.k := List.take_of_length_le (by simp)
  refine fnOK_of true mixed Tryz.func66 rfl (by rfl) (by rfl) ?_
  have hres := congrArg Array.toList Tryz.results66
  simp only [Tryz.ntmps66, BGB, seval]
  (have gx := And.intro @List.length_map.{0,0} @t1; refine go ?_; (repeat' first | exact Ef.mk | apply Lf.mk | refine fun (K : KT) hK hE hT => ?_ | refine fun (KS : KE) hKS => ?_ | refine fun (D : KD) hD => ?_ | refine fun (hg : (_ : Prop)) => ?_ | fail); all_goals (first | (refine Wr.mk ?_; (try clear gx); repeat first | clear hK hE hT K | clear hR hE hT K) | assumption | skip))
  (refine post_a hres (.inl rfl) ?_; simp only [RSB, ENB, seval, tiAll, true_and]; simp only [MAB, seval]; refine ⟨rfl, rfl, ?_, ?_, ?_⟩ <;> (first | rfl | (simp [WKB, Nat.add_comm, true_and]; done) | (simp only [WKB, seval])))

set_option maxHeartbeats 8000000 in
theorem implWithVals_k (s : ShardD) (vals : List Int) (h : WvOk s vals) (hv : vals.length ≤ 1048576) : FnOK Tryz.prog 54 ⟨2, [(0, some (.ro (s.Edges.map SEdgeD.k))), (1, some (.ro (vals.map intK)))], [.agg [.v (.int .i64 s.Lo), .v (.int .i64 s.Hi), .sl 0 5 0 s.Edges.length], .c (.sl 1 1 0 vals.length)],
    .tup [.inr [.v (.int .i64 s.Lo), .v (.int .i64 s.Hi), .sl 2 5 0 s.Edges.length], .inl (.v (.bool true))], [(2, some (.row 101 ((shW vals s).Edges.map SEdgeD.k)))], 3⟩ := by
  have hl := h.o.1.2.2.2
  have co := implShardOk_k s (by omega)
  rw [pB_t h.o] at co
  have cc := copyShard_k s (by omega)
  refine fnOK_of true mixed Tryz.func54 rfl (by rfl) (by rfl) ?_
  have hres := congrArg Array.toList Tryz.results54
  simp only [Tryz.ntmps54, BGB, seval]
  (have gx := @List.length_map.{0,0}; have q1 := co; have q2 := cc; refine go ?_; (repeat' first | exact Ef.mk | apply Lf.mk | refine fun (K : KT) hK hE hT => ?_ | refine fun (KS : KE) hKS => ?_ | refine fun (D : KD) hD => ?_ | refine fun (hg : (_ : Prop)) => ?_ | fail); all_goals (first | (refine Wr.mk ?_; (try clear gx q1 q2); repeat first | clear hK hE hT K | clear hR hE hT K) | assumption | skip))
  refine loop_v (X := {k : Nat // k ≤ s.Edges.length}) [] (fun x => [(18, .c (.v (.int .i64 ((x.1 : Nat) : Int))))]) (fun x => [(0, some (.ro (s.Edges.map SEdgeD.k))), (1, some (.ro (vals.map intK))), (2, some (.box 97 [.v (.int .i64 s.Lo), .v (.int .i64 s.Hi), .sl 0 5 0 s.Edges.length])), (3, some (.box 97 [.v (.int .i64 0), .v (.int .i64 0), .nil])), (4, some (.row 101 (setTo (wvG s vals) SEdgeD.k s.Edges x.1))), (5, some (.box 97 [.v (.int .i64 s.Lo), .v (.int .i64 s.Hi), .sl 4 5 0 s.Edges.length]))]) 6 (fun x => s.Edges.length - x.1) ⟨0, by omega⟩ ?_
  simp only [KPB, seval]
  refine ⟨?_, ?_⟩
  · (refine wk_a ?_; simp only [MAB, seval]; refine ⟨rfl, rfl, (by decide), ?_, ?_⟩; all_goals (first | (simp only [WKB, seval, setTo_zero]; done) | (simp [WKB, seval, setTo_zero]; done) | simp only [WKB, seval]))
  · rintro ⟨k, hk⟩ K hR hE hT
    have sl := setTo_len (wvG s vals) SEdgeD.k s.Edges k hk
    rcases Nat.lt_or_ge k s.Edges.length with hlt | hge
    case inr =>
      obtain rfl : k = s.Edges.length := by omega
      (have gx := @sl; refine go ?_; (repeat' first | exact Ef.mk | apply Lf.mk | refine fun (K : KT) hK hE hT => ?_ | refine fun (KS : KE) hKS => ?_ | refine fun (D : KD) hD => ?_ | refine fun (hg : (_ : Prop)) => ?_ | fail); all_goals (first | (refine Wr.mk ?_; (try clear gx); repeat first | clear hK hE hT K | clear hR hE hT K) | assumption | skip))
      (refine post_a hres (.inl rfl) ?_; simp only [RSB, ENB, seval, tiAll, setTo_end, wvG_all]; simp only [MAB, seval]; refine ⟨rfl, rfl, ?_, ?_, ?_⟩ <;> (first | rfl | (simp [WKB, Nat.add_comm, setTo_end, wvG_all]; done) | (simp only [WKB, seval])))
    case inl =>
      have sg := setTo_get (wvG s vals) SEdgeD.k s.Edges k hlt (by omega)
      have e := setTo_set (wvG s vals) SEdgeD.k s.Edges k hlt
      rw [wvG_at hlt] at e
      have hi := h.i _ (List.getElem_mem hlt)
      obtain ⟨y, hy⟩ : ∃ y, y = s.Edges[k] := ⟨_, rfl⟩
      rw [← hy] at sg e hi
      obtain ⟨z, hz⟩ : ∃ z : Nat, y.Index = (z : Int) := ⟨y.Index.toNat, by omega⟩
      have hzl : z < vals.length := by omega
      have hvz := h.v _ (List.getElem_mem hzl)
      have cn := isNumber_k vals[z]
      rw [decide_eq_true hvz] at cn
      rw [withV_at hz hzl] at e
      simp only [SEdgeD.k, hz] at sg e
      (have gx := And.intro (@sl) (And.intro (@sg) (And.intro (@List.length_set.{0}) (And.intro (@List.length_map.{0,0}) (And.intro (@List.getElem_map.{0,0}) (And.intro (@intK.eq_1) (And.intro @List.getElem_set_self.{0} @List.set_set.{0})))))); have q1 := cn; refine go ?_; (repeat' first | exact Ef.mk | apply Lf.mk | refine fun (K : KT) hK hE hT => ?_ | refine fun (KS : KE) hKS => ?_ | refine fun (D : KD) hD => ?_ | refine fun (hg : (_ : Prop)) => ?_ | fail); all_goals (first | (refine Wr.mk ?_; (try clear gx q1); repeat first | clear hK hE hT K | clear hR hE hT K) | assumption | skip))
      (refine hR.out ⟨k + 1, by omega⟩ _ _ _ (by simp only; omega) ?_; (refine wk_a ?_; simp only [MAB, seval]; refine ⟨rfl, rfl, (by decide), ?_, ?_⟩; all_goals (first | (simp only [WKB, seval, e]; done) | (simp [WKB, seval, e]; done) | simp only [WKB, seval])))

/-- The farm and its values fit. -/
def FwOk (f : FarmD) (vals : List Int) : Prop := FarmOk f ∧ vals.length = edSum f.Shards ∧ vals.all valOk = true
noncomputable def fwB (f : FarmD) (vals : List Int) : Bool := pB (FwOk f vals)
noncomputable def fwR (f : FarmD) (vals : List Int) : FarmD := if pB (FwOk f vals) then ⟨f.N, f.Ends, f.Shards.map (shW vals)⟩ else ⟨0, [], []⟩
theorem fw_no {f : FarmD} {vals : List Int} (h : ¬ FwOk f vals) : fwR f vals = ⟨0, [], []⟩ ∧ fwB f vals = false := by
  unfold fwR fwB; rw [pB_f h]; exact ⟨rfl, rfl⟩
theorem fw_yes {f : FarmD} {vals : List Int} (h : FwOk f vals) : fwR f vals = ⟨f.N, f.Ends, f.Shards.map (shW vals)⟩ ∧ fwB f vals = true := by
  unfold fwR fwB; rw [pB_t h]; exact ⟨rfl, rfl⟩
theorem fw_wv {f : FarmD} {vals : List Int} (h : FwOk f vals) {p : Nat} (hp : p < f.Shards.length) : WvOk f.Shards[p] vals := by
  obtain ⟨h1, h2, h3⟩ := h
  have hj := h1.2.2.2
  refine ⟨(hj.2.2.1 p hp hp).1, fun e he => ?_, fun v hv => ?_⟩
  · obtain ⟨i, hi, rfl⟩ := List.getElem_of_mem he
    have := okL_at hj.2.2.2.2.2 hp hi
    omega
  · have := List.all_eq_true.1 h3 v hv
    unfold valOk at this
    rw [decide_eq_true_eq] at this
    omega
theorem edSum_shW (vals : List Int) : ∀ l : List ShardD, edSum (l.map (shW vals)) = edSum l
  | [] => rfl
  | s :: l => by
    simp only [List.map_cons, edSum, edSum_shW vals l]
    show (s.Edges.map (withV vals)).length + _ = _
    rw [List.length_map]

def fwG (T : Nat) (f : FarmD) (vals : List Int) (i : Nat) : List DC := ((f.Shards[i]?).map fun s => ShardD.k T (shW vals s)).getD []
theorem fwG_at {T : Nat} {f : FarmD} {vals : List Int} {i : Nat} (h : i < f.Shards.length) : fwG T f vals i = ShardD.k T (shW vals f.Shards[i]) := by
  unfold fwG; rw [List.getElem?_eq_getElem h]; rfl
theorem fwG_all (T : Nat) (f : FarmD) (vals : List Int) : (List.range f.Shards.length).map (fwG T f vals) = (f.Shards.map (shW vals)).map (ShardD.k T) := by
  apply List.ext_getElem
  · simp
  · intro i h1 h2
    rw [List.getElem_map, List.getElem_range, fwG_at (by simpa using h1)]
    simp

set_option maxHeartbeats 8000000 in
theorem copyFarm_k (f : FarmD) (h : (f.Ends).length ≤ 1048576 ∧ (f.Shards).length ≤ 1048576 ∧ (∀ s ∈ f.Shards, s.Edges.length ≤ 1048576)) : FnOK Tryz.prog 53 ⟨2, [(0, some (.ro ((f.Ends).map intK))), (1, some (.ro ((f.Shards).map (ShardD.k 101))))], [.agg [.v (.int .i64 f.N), .sl 0 1 0 (f.Ends).length, .sl 1 3 0 (f.Shards).length]], .agg [.v (.int .i64 f.N), .sl 2 1 0 (f.Ends).length, .sl 3 3 0 (f.Shards).length], [(2, some (.row 3 ((f.Ends).map intK))), (3, some (.nst 97 ((f.Shards).map (ShardD.k 101)) none))], 4⟩ := by
  obtain ⟨h0, h1, h2⟩ := h
  have c1 := copyInts_k f.Ends h0
  refine fnOK_of true mixed Tryz.func53 rfl (by rfl) (by rfl) ?_
  have hres := congrArg Array.toList Tryz.results53
  simp only [Tryz.ntmps53, BGB, seval]
  (have gx := @List.length_map.{0,0}; have q1 := c1; refine go ?_; (repeat' first | exact Ef.mk | apply Lf.mk | refine fun (K : KT) hK hE hT => ?_ | refine fun (KS : KE) hKS => ?_ | refine fun (D : KD) hD => ?_ | refine fun (hg : (_ : Prop)) => ?_ | fail); all_goals (first | (refine Wr.mk ?_; (try clear gx q1); repeat first | clear hK hE hT K | clear hR hE hT K) | assumption | skip))
  refine loop_v (X := {k : Nat // k ≤ f.Shards.length}) [] (fun x => [(15, .c (.v (.int .i64 ((x.1 : Nat) : Int))))]) (fun x => [(0, some (.ro ((f.Ends).map intK))), (1, some (.ro ((f.Shards).map (ShardD.k 101)))), (2, some (.box 39 [.v (.int .i64 f.N), .sl 0 1 0 (f.Ends).length, .sl 1 3 0 (f.Shards).length])), (3, some (.box 39 [.v (.int .i64 0), .nil, .nil])), (4, some (.row 3 (f.Ends.map intK))), (6, some (.nst 97 ((f.Shards.take x.1).map (ShardD.k 101)) none)), (5, some (.box 39 [.v (.int .i64 f.N), .sl 4 1 0 f.Ends.length, .sl 6 3 0 x.1]))]) 7 (fun x => f.Shards.length - x.1) ⟨0, by omega⟩ ?_
  simp only [KPB, seval]
  refine ⟨?_, ?_⟩
  · (refine wk_a ?_; simp only [MAB, seval]; refine ⟨rfl, rfl, (by decide), ?_, ?_⟩; all_goals (first | (simp only [WKB, seval, List.take_zero, List.map_nil]; done) | (simp [WKB, seval, List.take_zero, List.map_nil]; done) | simp only [WKB, seval]))
  · rintro ⟨k, hk⟩ K hR hE hT
    have tl : (f.Shards.take k).length = k := by rw [List.length_take]; omega
    rcases Nat.lt_or_ge k f.Shards.length with hlt | hge
    case inr =>
      obtain rfl : k = f.Shards.length := by omega
      (have gx := @List.length_map.{0,0}; refine go ?_; (repeat' first | exact Ef.mk | apply Lf.mk | refine fun (K : KT) hK hE hT => ?_ | refine fun (KS : KE) hKS => ?_ | refine fun (D : KD) hD => ?_ | refine fun (hg : (_ : Prop)) => ?_ | fail); all_goals (first | (refine Wr.mk ?_; (try clear gx); repeat first | clear hK hE hT K | clear hR hE hT K) | assumption | skip))
      (refine post_a hres (.inl rfl) ?_; simp only [RSB, ENB, seval, tiAll, List.take_length]; simp only [MAB, seval]; refine ⟨rfl, rfl, ?_, ?_, ?_⟩ <;> (first | rfl | (simp [WKB, Nat.add_comm, List.take_length]; done) | (simp only [WKB, seval])))
    case inl =>
      have cc := copyShard_k f.Shards[k] (h2 _ (List.getElem_mem hlt))
      have e : (f.Shards.take k).map (ShardD.k 101) ++ [ShardD.k 101 f.Shards[k]] = (f.Shards.take (k + 1)).map (ShardD.k 101) := by rw [List.take_succ_eq_append_getElem hlt, List.map_append]; rfl
      simp only [ShardD.k] at e
      (have gx := And.intro (@List.length_map.{0,0}) (And.intro (@List.getElem_map.{0,0}) (And.intro @ShardD.k.eq_1 @tl)); have q1 := cc; refine go ?_; (repeat' first | exact Ef.mk | apply Lf.mk | refine fun (K : KT) hK hE hT => ?_ | refine fun (KS : KE) hKS => ?_ | refine fun (D : KD) hD => ?_ | refine fun (hg : (_ : Prop)) => ?_ | fail); all_goals (first | (refine Wr.mk ?_; (try clear gx q1); repeat first | clear hK hE hT K | clear hR hE hT K) | assumption | skip))
      (refine hR.out ⟨k + 1, by omega⟩ _ _ _ (by simp only; omega) ?_; (refine wk_a ?_; simp only [MAB, seval]; refine ⟨rfl, rfl, (by decide), ?_, ?_⟩; all_goals (first | (simp only [WKB, seval, e, ShardD.k]; done) | (simp [WKB, seval, e, ShardD.k]; done) | simp only [WKB, seval])))

set_option maxHeartbeats 8000000 in
theorem implFarmWith_k (f : FarmD) (vals : List Int) (h : (f.Ends).length ≤ 1048576 ∧ (f.Shards).length ≤ 1048576 ∧ (∀ s ∈ f.Shards, s.Edges.length ≤ 1048576)) (hv : vals.length ≤ 1048576) (hm : edSum f.Shards ≤ 1099511627776) : FnOK Tryz.prog 29 ⟨3, [(0, some (.ro ((f.Ends).map intK))), (1, some (.ro ((f.Shards).map (ShardD.k 101)))), (2, some (.ro (vals.map intK)))], [.agg [.v (.int .i64 f.N), .sl 0 1 0 (f.Ends).length, .sl 1 3 0 (f.Shards).length], .c (.sl 2 1 0 vals.length)],
    .tup [.inr [.v (.int .i64 (fwR f vals).N), .sl 3 1 0 ((fwR f vals).Ends).length, .sl 4 3 0 ((fwR f vals).Shards).length], .inl (.v (.bool (fwB f vals)))], [(3, some (.row 3 (((fwR f vals).Ends).map intK))), (4, some (.nst 97 (((fwR f vals).Shards).map (ShardD.k 101)) none))], 5⟩ := by
  have co := implFarmOk_k f h
  have ce := edges_k f h hm
  have ca := areValues_k vals (by omega)
  have cc := copyFarm_k f h
  obtain ⟨h0, h1, h2⟩ := h
  by_cases hw : FwOk f vals
  case neg =>
    obtain ⟨e1, e2⟩ := fw_no hw
    rw [e1, e2]
    by_cases hf : FarmOk f
    case neg =>
      rw [pB_f hf] at co
      refine fnOK_of true mixed Tryz.func29 rfl (by rfl) (by rfl) ?_
      have hres := congrArg Array.toList Tryz.results29
      simp only [Tryz.ntmps29, BGB, seval]
      (have gx := @List.length_map.{0,0}; have q1 := co; refine go ?_; (repeat' first | exact Ef.mk | apply Lf.mk | refine fun (K : KT) hK hE hT => ?_ | refine fun (KS : KE) hKS => ?_ | refine fun (D : KD) hD => ?_ | refine fun (hg : (_ : Prop)) => ?_ | fail); all_goals (first | (refine Wr.mk ?_; (try clear gx q1); repeat first | clear hK hE hT K | clear hR hE hT K) | assumption | skip))
      all_goals (refine post_a hres (.inl rfl) ?_; simp only [RSB, ENB, seval, tiAll, true_and]; simp only [MAB, seval]; refine ⟨rfl, rfl, ?_, ?_, ?_⟩ <;> (first | rfl | (simp [WKB, Nat.add_comm, true_and]; done) | (simp only [WKB, seval])))
    case pos =>
      rw [pB_t hf] at co
      have hx : vals.length = edSum f.Shards → vals.all valOk = false := fun a => by
        rw [Bool.eq_false_iff]; exact fun b => hw ⟨hf, a, b⟩
      rcases Nat.decEq vals.length (edSum f.Shards) with hn | hn
      · skip
        refine fnOK_of true mixed Tryz.func29 rfl (by rfl) (by rfl) ?_
        have hres := congrArg Array.toList Tryz.results29
        simp only [Tryz.ntmps29, BGB, seval]
        (have gx := @List.length_map.{0,0}; have q1 := co; have q2 := ce; have q3 := ca; refine go ?_; (repeat' first | exact Ef.mk | apply Lf.mk | refine fun (K : KT) hK hE hT => ?_ | refine fun (KS : KE) hKS => ?_ | refine fun (D : KD) hD => ?_ | refine fun (hg : (_ : Prop)) => ?_ | fail); all_goals (first | (refine Wr.mk ?_; (try clear gx q1 q2 q3); repeat first | clear hK hE hT K | clear hR hE hT K) | assumption | skip))
        all_goals (refine post_a hres (.inl rfl) ?_; simp only [RSB, ENB, seval, tiAll, true_and]; simp only [MAB, seval]; refine ⟨rfl, rfl, ?_, ?_, ?_⟩ <;> (first | rfl | (simp [WKB, Nat.add_comm, true_and]; done) | (simp only [WKB, seval])))
      · rw [hx hn] at ca
        refine fnOK_of true mixed Tryz.func29 rfl (by rfl) (by rfl) ?_
        have hres := congrArg Array.toList Tryz.results29
        simp only [Tryz.ntmps29, BGB, seval]
        (have gx := @List.length_map.{0,0}; have q1 := co; have q2 := ce; have q3 := ca; refine go ?_; (repeat' first | exact Ef.mk | apply Lf.mk | refine fun (K : KT) hK hE hT => ?_ | refine fun (KS : KE) hKS => ?_ | refine fun (D : KD) hD => ?_ | refine fun (hg : (_ : Prop)) => ?_ | fail); all_goals (first | (refine Wr.mk ?_; (try clear gx q1 q2 q3); repeat first | clear hK hE hT K | clear hR hE hT K) | assumption | skip))
        all_goals (refine post_a hres (.inl rfl) ?_; simp only [RSB, ENB, seval, tiAll, true_and]; simp only [MAB, seval]; refine ⟨rfl, rfl, ?_, ?_, ?_⟩ <;> (first | rfl | (simp [WKB, Nat.add_comm, true_and]; done) | (simp only [WKB, seval])))
  case pos =>
    obtain ⟨e1, e2⟩ := fw_yes hw
    rw [e1, e2]
    rw [pB_t hw.1] at co
    rw [hw.2.2] at ca
    have hn := hw.2.1
    refine fnOK_of true mixed Tryz.func29 rfl (by rfl) (by rfl) ?_
    have hres := congrArg Array.toList Tryz.results29
    simp only [Tryz.ntmps29, BGB, seval]
    (have gx := @List.length_map.{0,0}; have q1 := co; have q2 := ce; have q3 := ca; have q4 := cc; refine go ?_; (repeat' first | exact Ef.mk | apply Lf.mk | refine fun (K : KT) hK hE hT => ?_ | refine fun (KS : KE) hKS => ?_ | refine fun (D : KD) hD => ?_ | refine fun (hg : (_ : Prop)) => ?_ | fail); all_goals (first | (refine Wr.mk ?_; (try clear gx q1 q2 q3 q4); repeat first | clear hK hE hT K | clear hR hE hT K) | assumption | skip))
    refine loop_v (X := {k : Nat // k ≤ f.Shards.length}) [] (fun x => [(29, .c (.v (.int .i64 ((x.1 : Nat) : Int))))]) (fun x => [(0, some (.ro ((f.Ends).map intK))), (1, some (.ro ((f.Shards).map (ShardD.k 101)))), (2, some (.ro (vals.map intK))), (3, some (.box 39 [.v (.int .i64 f.N), .sl 0 1 0 (f.Ends).length, .sl 1 3 0 (f.Shards).length])), (4, some (.box 39 [.v (.int .i64 0), .nil, .nil])), (5, some (.row 3 (f.Ends.map intK))), (6, some (.nst 97 (setTo (fwG 101 f vals) (ShardD.k 101) f.Shards x.1) none)), (7, some (.box 39 [.v (.int .i64 f.N), .sl 5 1 0 (f.Ends).length, .sl 6 3 0 (f.Shards).length]))]) 8 (fun x => f.Shards.length - x.1) ⟨0, by omega⟩ ?_
    simp only [KPB, seval]
    refine ⟨?_, ?_⟩
    · (refine wk_a ?_; simp only [MAB, seval]; refine ⟨rfl, rfl, (by decide), ?_, ?_⟩; all_goals (first | (simp only [WKB, seval, setTo_zero]; done) | (simp [WKB, seval, setTo_zero]; done) | simp only [WKB, seval]))
    · rintro ⟨k, hk⟩ K hR hE hT
      have sl := setTo_len (fwG 101 f vals) (ShardD.k 101) f.Shards k hk
      rcases Nat.lt_or_ge k f.Shards.length with hlt | hge
      case inr =>
        obtain rfl : k = f.Shards.length := by omega
        (have gx := @sl; refine go ?_; (repeat' first | exact Ef.mk | apply Lf.mk | refine fun (K : KT) hK hE hT => ?_ | refine fun (KS : KE) hKS => ?_ | refine fun (D : KD) hD => ?_ | refine fun (hg : (_ : Prop)) => ?_ | fail); all_goals (first | (refine Wr.mk ?_; (try clear gx); repeat first | clear hK hE hT K | clear hR hE hT K) | assumption | skip))
        (refine post_a hres (.inl rfl) ?_; simp only [RSB, ENB, seval, tiAll, setTo_end, fwG_all, List.length_map]; simp only [MAB, seval]; refine ⟨rfl, rfl, ?_, ?_, ?_⟩ <;> (first | rfl | (simp [WKB, Nat.add_comm, setTo_end, fwG_all, List.length_map]; done) | (simp only [WKB, seval])))
      case inl =>
        have sg := setTo_get (fwG 101 f vals) (ShardD.k 101) f.Shards k hlt (by omega)
        have e := setTo_set (fwG 101 f vals) (ShardD.k 101) f.Shards k hlt
        rw [fwG_at hlt] at e
        have cw := implWithVals_k f.Shards[k] vals (fw_wv hw hlt) hv
        simp only [ShardD.k, shW_lo, shW_hi] at sg e
        (have gx := And.intro (@sl) (And.intro (@sg) (And.intro (@List.length_set.{0}) (And.intro (@List.length_map.{0,0}) (And.intro (@List.getElem_map.{0,0}) (And.intro (@ShardD.k.eq_1) (And.intro (@shW_len) (And.intro @List.getElem_set_self.{0} @List.set_set.{0}))))))); have q1 := cw; refine go ?_; (repeat' first | exact Ef.mk | apply Lf.mk | refine fun (K : KT) hK hE hT => ?_ | refine fun (KS : KE) hKS => ?_ | refine fun (D : KD) hD => ?_ | refine fun (hg : (_ : Prop)) => ?_ | fail); all_goals (first | (refine Wr.mk ?_; (try clear gx q1); repeat first | clear hK hE hT K | clear hR hE hT K) | assumption | skip))
        (refine hR.out ⟨k + 1, by omega⟩ _ _ _ (by simp only; omega) ?_; (refine wk_a ?_; simp only [MAB, seval]; refine ⟨rfl, rfl, (by decide), ?_, ?_⟩; all_goals (first | (simp only [WKB, seval, e, ShardD.k]; done) | (simp [WKB, seval, e, ShardD.k]; done) | simp only [WKB, seval])))

end Go.Proofs.YtfnhchcgieeedaaGreat

namespace Go.Proofs.YtfnhchcgieeedaaGreat
set_option linter.unusedSimpArgs false
set_option linter.unusedVariables false
set_option linter.defProp false
set_option maxRecDepth 20000
open Go.RowKit
attribute [local irreducible] lexD

end Go.Proofs.YtfnhchcgieeedaaGreat

