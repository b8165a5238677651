/-
  Texts MLD LD2 LD4 in one. No conditions of its own.
-/
import Derived.Test.YtfnhchcgieeedaaGreatGO
import Derived.Test.YtfnhchcgieeedaaGreatMNA
import Derived.Test.YtfnhchcgieeedaaGreatZz2
import Derived.Test.YtfnhchcgieeedaaGreatMNB
import Derived.Test.YtfnhchcgieeedaaGreatMSA
import Derived.Test.YtfnhchcgieeedaaGreatZz1
namespace Go.Proofs.YtfnhchcgieeedaaGreat
set_option linter.unusedSimpArgs false
set_option linter.unusedVariables false
set_option linter.unusedSimpArgs false
set_option linter.unusedVariables false
set_option linter.defProp false
set_option maxRecDepth 20000
open Go.RowKit
attribute [local irreducible] lexD

/-- How many of the first k edges begin before x. -/
def ltN (es : List SEdgeD) (x : Int) (k : Nat) : Nat := (es.take k).countP fun e => decide (e.From < x)
theorem ltN_zero (es : List SEdgeD) (x : Int) : ltN es x 0 = 0 := rfl
theorem ltN_le (es : List SEdgeD) (x : Int) (k : Nat) : ltN es x k ≤ k := by
  unfold ltN
  have := List.countP_le_length (p := fun e : SEdgeD => decide (e.From < x)) (l := es.take k)
  rw [List.length_take] at this
  omega
theorem ltN_succ {es : List SEdgeD} {x : Int} {k : Nat} (h : k < es.length) : ltN es x (k + 1) = ltN es x k + if es[k].From < x then 1 else 0 := by
  unfold ltN
  rw [List.take_add_one, List.getElem?_eq_getElem h, Option.toList_some, List.countP_append, List.countP_singleton]
  simp
theorem ltN_t {es : List SEdgeD} {x : Int} {k : Nat} (h : k < es.length) (hx : es[k].From < x) : ((ltN es x (k + 1) : Nat) : Int) = (ltN es x k : Int) + 1 := by rw [ltN_succ h, if_pos hx]; rfl
theorem ltN_f {es : List SEdgeD} {x : Int} {k : Nat} (h : k < es.length) (hx : ¬ es[k].From < x) : ltN es x (k + 1) = ltN es x k := by rw [ltN_succ h, if_neg hx]; rfl

set_option maxHeartbeats 8000000 in
theorem implWindow_k (s : ShardD) (h : (s.Edges).length ≤ 1048576) (lo hi : Int) : FnOK Tryz.prog 68 ⟨1, [(0, some (.ro ((s.Edges).map SEdgeD.k)))], [.agg [.v (.int .i64 s.Lo), .v (.int .i64 s.Hi), .sl 0 5 0 (s.Edges).length], .c (.v (.int .i64 lo)), .c (.v (.int .i64 hi))], .tup [.inl (.v (.int .i64 (ltN s.Edges lo s.Edges.length : Int))), .inl (.v (.int .i64 (ltN s.Edges hi s.Edges.length : Int)))], [], 1⟩ := by
  refine fnOK_of true mixed Tryz.func68 rfl (by rfl) (by rfl) ?_
  have hres := congrArg Array.toList Tryz.results68
  simp only [Tryz.ntmps68, BGB, seval]
  (have gx := @List.length_map.{0,0}; refine go ?_; (repeat' first | exact Ef.mk | apply Lf.mk | refine fun (K : KT) hK hE hT => ?_ | refine fun (KS : KE) hKS => ?_ | refine fun (D : KD) hD => ?_ | refine fun (hg : (_ : Prop)) => ?_ | fail); all_goals (first | (refine Wr.mk ?_; (try clear gx); repeat first | clear hK hE hT K | clear hR hE hT K) | assumption | skip))
  refine loop_v (X := {k : Nat // k ≤ s.Edges.length}) [] (fun x => [(8, .c (.v (.int .i64 (ltN s.Edges lo x.1 : Int)))), (9, .c (.v (.int .i64 (ltN s.Edges hi x.1 : Int)))), (15, .c (.v (.int .i64 ((x.1 : Nat) : Int))))]) (fun x => [(0, some (.ro ((s.Edges).map SEdgeD.k))), (1, some (.box 97 [.v (.int .i64 s.Lo), .v (.int .i64 s.Hi), .sl 0 5 0 (s.Edges).length]))]) 2 (fun x => s.Edges.length - x.1) ⟨0, by omega⟩ ?_
  simp only [KPB, seval]
  refine ⟨?_, ?_⟩
  · (refine wk_a ?_; simp only [MAB, seval]; refine ⟨rfl, rfl, (by decide), ?_, ?_⟩; all_goals (first | (simp only [WKB, seval, ltN_zero]; done) | (simp [WKB, seval, ltN_zero]; done) | simp only [WKB, seval]))
  · rintro ⟨k, hk⟩ K hR hE hT
    have l1 := ltN_le s.Edges lo k
    have l2 := ltN_le s.Edges hi k
    rcases Nat.lt_or_ge k s.Edges.length with hlt | hge
    case inr =>
      obtain rfl : k = s.Edges.length := by omega
      (have gx := @List.length_map.{0,0}; refine go ?_; (repeat' first | exact Ef.mk | apply Lf.mk | refine fun (K : KT) hK hE hT => ?_ | refine fun (KS : KE) hKS => ?_ | refine fun (D : KD) hD => ?_ | refine fun (hg : (_ : Prop)) => ?_ | fail); all_goals (first | (refine Wr.mk ?_; (try clear gx); repeat first | clear hK hE hT K | clear hR hE hT K) | assumption | skip))
      (refine post_a hres (.inl rfl) ?_; simp only [RSB, ENB, seval, tiAll, true_and]; simp only [MAB, seval]; refine ⟨rfl, rfl, ?_, ?_, ?_⟩ <;> (first | rfl | (simp [WKB, Nat.add_comm, true_and]; done) | (simp only [WKB, seval])))
    case inl =>
      obtain ⟨y, hy⟩ : ∃ y, y = s.Edges[k] := ⟨_, rfl⟩
      by_cases h1 : y.From < lo
      · have e1 := ltN_t hlt (x := lo) (by rw [← hy]; exact h1)
        by_cases h2 : y.From < hi
        · have e2 := ltN_t hlt (x := hi) (by rw [← hy]; exact h2)
          (have gx := And.intro (@List.length_map.{0,0}) (And.intro (@List.getElem_map.{0,0}) (And.intro (hy).symm @SEdgeD.k.eq_1)); refine go ?_; (repeat' first | exact Ef.mk | apply Lf.mk | refine fun (K : KT) hK hE hT => ?_ | refine fun (KS : KE) hKS => ?_ | refine fun (D : KD) hD => ?_ | refine fun (hg : (_ : Prop)) => ?_ | fail); all_goals (first | (refine Wr.mk ?_; (try clear gx); repeat first | clear hK hE hT K | clear hR hE hT K) | assumption | skip))
          (refine hR.out ⟨k + 1, by omega⟩ _ _ _ (by simp only; omega) ?_; (refine wk_a ?_; simp only [MAB, seval]; refine ⟨rfl, rfl, (by decide), ?_, ?_⟩; all_goals (first | (simp only [WKB, seval, e1, e2]; done) | (simp [WKB, seval, e1, e2]; done) | simp only [WKB, seval])))
        · have e2 := ltN_f hlt (x := hi) (by rw [← hy]; exact h2)
          (have gx := And.intro (@List.length_map.{0,0}) (And.intro (@List.getElem_map.{0,0}) (And.intro (hy).symm @SEdgeD.k.eq_1)); refine go ?_; (repeat' first | exact Ef.mk | apply Lf.mk | refine fun (K : KT) hK hE hT => ?_ | refine fun (KS : KE) hKS => ?_ | refine fun (D : KD) hD => ?_ | refine fun (hg : (_ : Prop)) => ?_ | fail); all_goals (first | (refine Wr.mk ?_; (try clear gx); repeat first | clear hK hE hT K | clear hR hE hT K) | assumption | skip))
          (refine hR.out ⟨k + 1, by omega⟩ _ _ _ (by simp only; omega) ?_; (refine wk_a ?_; simp only [MAB, seval]; refine ⟨rfl, rfl, (by decide), ?_, ?_⟩; all_goals (first | (simp only [WKB, seval, e1, e2]; done) | (simp [WKB, seval, e1, e2]; done) | simp only [WKB, seval])))
      · have e1 := ltN_f hlt (x := lo) (by rw [← hy]; exact h1)
        by_cases h2 : y.From < hi
        · have e2 := ltN_t hlt (x := hi) (by rw [← hy]; exact h2)
          (have gx := And.intro (@List.length_map.{0,0}) (And.intro (@List.getElem_map.{0,0}) (And.intro (hy).symm @SEdgeD.k.eq_1)); refine go ?_; (repeat' first | exact Ef.mk | apply Lf.mk | refine fun (K : KT) hK hE hT => ?_ | refine fun (KS : KE) hKS => ?_ | refine fun (D : KD) hD => ?_ | refine fun (hg : (_ : Prop)) => ?_ | fail); all_goals (first | (refine Wr.mk ?_; (try clear gx); repeat first | clear hK hE hT K | clear hR hE hT K) | assumption | skip))
          (refine hR.out ⟨k + 1, by omega⟩ _ _ _ (by simp only; omega) ?_; (refine wk_a ?_; simp only [MAB, seval]; refine ⟨rfl, rfl, (by decide), ?_, ?_⟩; all_goals (first | (simp only [WKB, seval, e1, e2]; done) | (simp [WKB, seval, e1, e2]; done) | simp only [WKB, seval])))
        · have e2 := ltN_f hlt (x := hi) (by rw [← hy]; exact h2)
          (have gx := And.intro (@List.length_map.{0,0}) (And.intro (@List.getElem_map.{0,0}) (And.intro (hy).symm @SEdgeD.k.eq_1)); refine go ?_; (repeat' first | exact Ef.mk | apply Lf.mk | refine fun (K : KT) hK hE hT => ?_ | refine fun (KS : KE) hKS => ?_ | refine fun (D : KD) hD => ?_ | refine fun (hg : (_ : Prop)) => ?_ | fail); all_goals (first | (refine Wr.mk ?_; (try clear gx); repeat first | clear hK hE hT K | clear hR hE hT K) | assumption | skip))
          (refine hR.out ⟨k + 1, by omega⟩ _ _ _ (by simp only; omega) ?_; (refine wk_a ?_; simp only [MAB, seval]; refine ⟨rfl, rfl, (by decide), ?_, ?_⟩; all_goals (first | (simp only [WKB, seval, e1, e2]; done) | (simp [WKB, seval, e1, e2]; done) | simp only [WKB, seval])))

end Go.Proofs.YtfnhchcgieeedaaGreat

namespace Go.Proofs.YtfnhchcgieeedaaGreat
set_option linter.unusedSimpArgs false
set_option linter.unusedVariables false
set_option linter.defProp false

/-- Where a place is put in. -/
def insAt (l : List LocD) (x : LocD) : Nat := (l.takeWhile fun y => decide (y.Edge.Index < x.Edge.Index)).length
def insL (l : List LocD) (x : LocD) : List LocD := l.take (insAt l x) ++ x :: l.drop (insAt l x)

theorem insL_perm (l : List LocD) (x : LocD) : (insL l x).Perm (x :: l) := by
  unfold insL
  refine List.perm_middle.trans ?_
  rw [List.take_append_drop]

theorem insL_cons (y : LocD) (l : List LocD) (x : LocD) : insL (y :: l) x = if y.Edge.Index < x.Edge.Index then y :: insL l x else x :: y :: l := by
  unfold insL insAt
  rw [List.takeWhile_cons]
  by_cases h : y.Edge.Index < x.Edge.Index
  · rw [if_pos (by simpa using h), if_pos h]; rfl
  · rw [if_neg (by simpa using h), if_neg h]; rfl

theorem insL_sorted : ∀ (l : List LocD) (x : LocD), l.Pairwise (fun a b => a.Edge.Index ≤ b.Edge.Index) → (insL l x).Pairwise (fun a b => a.Edge.Index ≤ b.Edge.Index)
  | [], x, _ => by simp [insL, insAt]
  | y :: l, x, h => by
    rw [insL_cons]
    obtain ⟨h1, h2⟩ := List.pairwise_cons.1 h
    split
    · rename_i hlt
      refine List.pairwise_cons.2 ⟨fun z hz => ?_, insL_sorted l x h2⟩
      rcases List.mem_cons.1 ((insL_perm l x).subset hz) with rfl | hz
      · omega
      · exact h1 z hz
    · rename_i hge
      refine List.pairwise_cons.2 ⟨fun z hz => ?_, h⟩
      rcases List.mem_cons.1 hz with rfl | hz
      · omega
      · have := h1 z hz; omega

/-- The places put in one behind the other. -/
def insAll (l : List LocD) (xs : List LocD) : List LocD := xs.foldl insL l
theorem insAll_perm : ∀ (xs l : List LocD), (insAll l xs).Perm (xs ++ l)
  | [], l => .refl _
  | x :: xs, l => by
    refine (insAll_perm xs (insL l x)).trans ?_
    refine ((insL_perm l x).append_left xs).trans ?_
    exact List.perm_middle
theorem insAll_sorted : ∀ (xs l : List LocD), l.Pairwise (fun a b => a.Edge.Index ≤ b.Edge.Index) → (insAll l xs).Pairwise (fun a b => a.Edge.Index ≤ b.Edge.Index)
  | [], _, h => h
  | x :: xs, l, h => insAll_sorted xs (insL l x) (insL_sorted l x h)

end Go.Proofs.YtfnhchcgieeedaaGreat

namespace Go.Proofs.YtfnhchcgieeedaaGreat
set_option linter.unusedSimpArgs false
set_option linter.unusedVariables false
set_option linter.defProp false
set_option maxRecDepth 20000
open Go.RowKit

/-- The window of shard k, seen from interval p. -/
def wiA (p k : Nat) (lo : Int) (s : ShardD) : Nat := if k = p then 0 else ltN s.Edges lo s.Edges.length
def wiB (p k : Nat) (hi : Int) (s : ShardD) : Nat := if k = p then s.Edges.length else ltN s.Edges hi s.Edges.length
/-- n places of shard k from place a on. -/
def plcAt (k : Nat) (s : ShardD) (a n : Nat) : List LocD := (List.range n).map fun i => ⟨(k : Int), ((a + i : Nat) : Int), s.Edges.getD (a + i) ⟨0, 0, 0, 0, 0⟩⟩
def locsTo (l : List ShardD) (p : Nat) (lo hi : Int) : Nat → List LocD
  | 0 => []
  | k + 1 => locsTo l p lo hi k ++ match l[k]? with
    | none => []
    | some s => plcAt k s (wiA p k lo s) (wiB p k hi s - wiA p k lo s)
def rdTo (l : List ShardD) (p : Nat) (lo hi : Int) : Nat → Nat
  | 0 => 1
  | k + 1 => rdTo l p lo hi k + match l[k]? with
    | none => 0
    | some s => if k ≠ p ∧ wiA p k lo s < wiB p k hi s then 1 else 0

theorem ltN_mono (es : List SEdgeD) {x y : Int} (h : x ≤ y) (k : Nat) : ltN es x k ≤ ltN es y k := by
  unfold ltN
  refine List.countP_mono_left fun e _ he => ?_
  simp only [decide_eq_true_eq] at he ⊢
  omega
theorem wi_le {p k : Nat} {lo hi : Int} {s : ShardD} (h : lo ≤ hi) : wiA p k lo s ≤ wiB p k hi s := by
  unfold wiA wiB
  split
  · omega
  · exact ltN_mono _ h _
theorem wiB_le {p k : Nat} {hi : Int} {s : ShardD} : wiB p k hi s ≤ s.Edges.length := by
  unfold wiB
  split
  · omega
  · exact ltN_le _ _ _
theorem wiA_t {p : Nat} {lo : Int} {s : ShardD} : wiA p p lo s = 0 := if_pos rfl
theorem wiB_t {p : Nat} {hi : Int} {s : ShardD} : wiB p p hi s = s.Edges.length := if_pos rfl
theorem wiA_f {p k : Nat} {lo : Int} {s : ShardD} (h : k ≠ p) : wiA p k lo s = ltN s.Edges lo s.Edges.length := if_neg h
theorem wiB_f {p k : Nat} {hi : Int} {s : ShardD} (h : k ≠ p) : wiB p k hi s = ltN s.Edges hi s.Edges.length := if_neg h

theorem plcAt_zero (k : Nat) (s : ShardD) (a : Nat) : plcAt k s a 0 = [] := rfl
theorem plcAt_len (k : Nat) (s : ShardD) (a n : Nat) : (plcAt k s a n).length = n := by simp [plcAt]
theorem plcAt_succ {k : Nat} {s : ShardD} {a i : Nat} (h : i < s.Edges.length) (ha : a ≤ i) : plcAt k s a (i + 1 - a) = plcAt k s a (i - a) ++ [⟨(k : Int), (i : Int), s.Edges[i]⟩] := by
  obtain ⟨n, rfl⟩ : ∃ n, i = a + n := ⟨i - a, by omega⟩
  rw [show a + n + 1 - a = n + 1 by omega, show a + n - a = n by omega]
  unfold plcAt
  rw [List.range_succ, List.map_append, List.map_singleton, List.getD_eq_getElem?_getD, List.getElem?_eq_getElem h]; rfl
theorem plcAt_edges {k : Nat} {s : ShardD} {a n : Nat} (h : a + n ≤ s.Edges.length) : (plcAt k s a n).map (·.Edge) = (s.Edges.drop a).take n := by
  apply List.ext_getElem
  · simp [plcAt]; omega
  · intro i h1 h2
    have h3 : a + i < s.Edges.length := by simp [plcAt] at h1; omega
    simp [plcAt, List.getElem?_eq_getElem h3]
theorem locsTo_zero (l : List ShardD) (p : Nat) (lo hi : Int) : locsTo l p lo hi 0 = [] := rfl
theorem rdTo_zero (l : List ShardD) (p : Nat) (lo hi : Int) : rdTo l p lo hi 0 = 1 := rfl
theorem locsTo_succ {l : List ShardD} {p : Nat} {lo hi : Int} {k : Nat} (h : k < l.length) : locsTo l p lo hi (k + 1) = locsTo l p lo hi k ++ plcAt k l[k] (wiA p k lo l[k]) (wiB p k hi l[k] - wiA p k lo l[k]) := by
  rw [locsTo, List.getElem?_eq_getElem h]
theorem rdTo_succ {l : List ShardD} {p : Nat} {lo hi : Int} {k : Nat} (h : k < l.length) : rdTo l p lo hi (k + 1) = rdTo l p lo hi k + if k ≠ p ∧ wiA p k lo l[k] < wiB p k hi l[k] then 1 else 0 := by
  rw [rdTo, List.getElem?_eq_getElem h]
theorem rdTo_le (l : List ShardD) (p : Nat) (lo hi : Int) : ∀ k, rdTo l p lo hi k ≤ k + 1
  | 0 => Nat.le_refl _
  | k + 1 => by
    have ih := rdTo_le l p lo hi k
    rw [rdTo]
    split
    · omega
    · split <;> omega
theorem locsTo_sub {l : List ShardD} {p : Nat} {lo hi : Int} (hlh : lo ≤ hi) : ∀ {k : Nat}, k ≤ l.length → ((locsTo l p lo hi k).map (·.Edge)).Sublist (allE (l.take k))
  | 0, _ => by simp [locsTo]
  | k + 1, h => by
    have ih := locsTo_sub (l := l) (p := p) hlh (k := k) (by omega)
    have hk : k < l.length := h
    rw [locsTo_succ hk, allE_snoc hk, List.map_append]
    refine ih.append ?_
    have h1 := wi_le (p := p) (k := k) (s := l[k]) hlh
    have h2 := wiB_le (p := p) (k := k) (hi := hi) (s := l[k])
    rw [plcAt_edges (by omega)]
    exact (List.take_sublist _ _).trans (List.drop_sublist _ _)
theorem locsTo_sub_all {l : List ShardD} {p : Nat} {lo hi : Int} (hlh : lo ≤ hi) {k : Nat} (h : k ≤ l.length) : ((locsTo l p lo hi k).map (·.Edge)).Sublist (allE l) := by
  refine (locsTo_sub hlh h).trans ?_
  unfold allE
  conv => rhs; rw [← List.take_append_drop k l, List.flatMap_append]
  exact List.sublist_append_left _ _
theorem locsTo_len {l : List ShardD} {p : Nat} {lo hi : Int} (hlh : lo ≤ hi) {k : Nat} (h : k ≤ l.length) : (locsTo l p lo hi k).length ≤ edSum l := by
  have := (locsTo_sub_all (p := p) hlh h).length_le
  rwa [List.length_map, allE_len] at this
theorem okL_nodup {n : Int} {m : Nat} {L : List SEdgeD} (h : okL n m L) : (L.map (·.Index)).Nodup := by
  unfold List.Nodup
  rw [List.pairwise_iff_getElem]
  intro i j hi hj hij
  rw [List.getElem_map, List.getElem_map]
  exact (h j (by simpa using hj)).2 i hij
theorem locsTo_nodup {l : List ShardD} {p : Nat} {lo hi : Int} {n : Int} {m : Nat} (hlh : lo ≤ hi) {k : Nat} (h : k ≤ l.length) (ho : okL n m (allE l)) : ((locsTo l p lo hi k).map (·.Edge.Index)).Nodup := by
  have h1 := ((locsTo_sub_all (p := p) hlh h).map (·.Index)).nodup (okL_nodup ho)
  rwa [List.map_map] at h1

/-- The part of interval p. -/
def subO (f : FarmD) (p : Nat) (lo hi : Int) : SubD := ⟨(p : Int), lo, hi, insAll [] (locsTo f.Shards p lo hi f.Shards.length), (rdTo f.Shards p lo hi f.Shards.length : Int)⟩
theorem farm_lh {f : FarmD} (h : FarmOk f) {p : Nat} (hp : p < f.Ends.length) : lastE f.Ends p ≤ f.Ends[p] := by
  have := h.1.2.2.1 p hp hp
  omega
theorem insAll_len (xs : List LocD) : (insAll [] xs).length = xs.length := by
  have := (insAll_perm xs []).length_eq
  rwa [List.append_nil] at this
theorem sub_locs {f : FarmD} (h : FarmOk f) (p : Nat) {lo hi : Int} (hlh : lo ≤ hi) : (subO f p lo hi).Locs.length ≤ 400 := by
  have h1 := locsTo_len (p := p) hlh (Nat.le_refl f.Shards.length)
  have h2 := h.2.2.2.2.2.2.2.1
  show (insAll [] _).length ≤ 400
  rw [insAll_len]; omega

end Go.Proofs.YtfnhchcgieeedaaGreat


namespace Go.Proofs.YtfnhchcgieeedaaGreat
set_option linter.unusedSimpArgs false
set_option linter.unusedVariables false
set_option linter.unusedSimpArgs false
set_option linter.unusedVariables false
set_option linter.defProp false
set_option maxRecDepth 20000
open Go.RowKit
attribute [local irreducible] lexD


set_option maxHeartbeats 16000000 in
theorem load_k (f : FarmD) (p : Nat) (lo hi : Int) (h : (f.Ends).length ≤ 1048576 ∧ (f.Shards).length ≤ 1048576 ∧ (∀ s ∈ f.Shards, s.Edges.length ≤ 1048576)) (hf : FarmOk f) (hp : p < f.Ends.length) (hlo : lastE f.Ends p = lo) (hhi : f.Ends[p] = hi) : FnOK Tryz.prog 58 ⟨2, [(0, some (.ro ((f.Ends).map intK))), (1, some (.ro ((f.Shards).map (ShardD.k 101))))], [.agg [.v (.int .i64 f.N), .sl 0 1 0 (f.Ends).length, .sl 1 3 0 (f.Shards).length], .c (.v (.int .i64 (p : Int)))], .agg [.v (.int .i64 (subO f p lo hi).P), .v (.int .i64 (subO f p lo hi).Lo), .v (.int .i64 (subO f p lo hi).Hi), .sl 2 7 0 ((subO f p lo hi).Locs).length, .v (.int .i64 (subO f p lo hi).Reads)], [(2, some (.row 133 (((subO f p lo hi).Locs).map LocD.k)))], 3⟩ := by
  have hlh := farm_lh hf hp
  rw [hlo, hhi] at hlh
  obtain ⟨h0, h1, h2⟩ := h
  have cs := implSpan_k f.Ends p h0 hp
  rw [hlo, hhi] at cs
  have hm := hf.2.2.2.2.2.2.2.1
  have hlen := fun k (hk : k ≤ f.Shards.length) => locsTo_len (p := p) hlh hk
  have hrd := rdTo_le f.Shards p lo hi
  have hS := insAll_perm (locsTo f.Shards p lo hi f.Shards.length) []
  rw [List.append_nil] at hS
  have hSs := insAll_sorted (locsTo f.Shards p lo hi f.Shards.length) [] .nil
  have hnd := locsTo_nodup (p := p) hlh (Nat.le_refl f.Shards.length) hf.2.2.2.2.2.2.2.2
  have hSl := insAll_len (locsTo f.Shards p lo hi f.Shards.length)
  have hsl : f.Shards.length ≤ 150 := (gf_ok hf).l
  have esub : subO f p lo hi = ⟨(p : Int), lo, hi, insAll [] (locsTo f.Shards p lo hi f.Shards.length), (rdTo f.Shards p lo hi f.Shards.length : Int)⟩ := rfl
  rw [esub]
  dsimp only
  clear esub
  refine fnOK_of true mixed Tryz.func58 rfl (by rfl) (by rfl) ?_
  have hres := congrArg Array.toList Tryz.results58
  simp only [Tryz.ntmps58, BGB, seval]
  (have gx := @List.length_map.{0,0}; have q1 := cs; refine go ?_; (repeat' first | exact Ef.mk | apply Lf.mk | refine fun (K : KT) hK hE hT => ?_ | refine fun (KS : KE) hKS => ?_ | refine fun (D : KD) hD => ?_ | refine fun (hg : (_ : Prop)) => ?_ | fail); all_goals (first | (refine Wr.mk ?_; (try clear gx q1); repeat first | clear hK hE hT K | clear hR hE hT K) | assumption | skip))
  refine loop_v (X := {k : Nat // k ≤ f.Shards.length}) [] (fun x => [(27, .c (.v (.int .i64 ((x.1 : Nat) : Int))))]) (fun x => [(0, some (.ro (f.Ends.map intK))), (1, some (.ro (f.Shards.map (ShardD.k 101)))), (2, some (.box 39 [.v (.int .i64 f.N), .sl 0 1 0 (f.Ends).length, .sl 1 3 0 (f.Shards).length])), (3, some (.box 116 [.v (.int .i64 0), .v (.int .i64 0), .v (.int .i64 0), .nil, .v (.int .i64 0)])), (4, some (.box 116 [.v (.int .i64 (p : Int)), .v (.int .i64 lo), .v (.int .i64 hi), .sl 5 7 0 (locsTo f.Shards p lo hi x.1).length, .v (.int .i64 (rdTo f.Shards p lo hi x.1 : Int))])), (5, some (.row 133 ((locsTo f.Shards p lo hi x.1).map LocD.k)))]) 6 (fun x => f.Shards.length - x.1) ⟨0, by omega⟩ ?_
  simp only [KPB, seval]
  refine ⟨?_, ?_⟩
  · (refine wk_a ?_; simp only [MAB, seval]; refine ⟨rfl, rfl, (by decide), ?_, ?_⟩; all_goals (first | (simp only [WKB, seval, locsTo_zero, rdTo_zero]; done) | (simp [WKB, seval, locsTo_zero, rdTo_zero]; done) | simp only [WKB, seval]))
  · rintro ⟨k, hk⟩ K hR hE hT
    have hLk := hlen k hk
    have hrk := hrd k
    rcases Nat.lt_or_ge k f.Shards.length with hlt | hge
    case inr =>
      obtain rfl : k = f.Shards.length := by omega
      repeat' ((fail_if_success with_reducible refine hand_k (id := 16) ?_); (first | (with_reducible first | refine seq_k fun K hK hE hT => ?_ | refine block_k fun K hK hE hT => ?_ | refine lex_nil ?_ | fail) | ((with_reducible refine region_k ?_); simp only [dstsOf, EVB, seval]) | ((with_reducible refine draw_k ?_ fun D hD => ?_); (focus (first | rfl | kernel_rfl)); simp only [dstsOf, EVB, seval]) | ((with_reducible first | refine lex_move ?_ | refine lex_assign ?_); simp only [EVB, seval]) | (with_reducible first | refine lex_cons fun KS hKS => ?_ | refine lexd_cons fun KS hKS => ?_ | refine skip_k ?_ | refine exit_k ?_ | refine ret_k ?_ | fail) | ((with_reducible refine call_go ?_); fail) | ((with_reducible refine step_go ?_); (fail_if_success with_reducible refine call_go ?_); simp only [ENB, seval, tiAll, List.length_map]) | ((with_reducible refine lexd_nil ?_ ?_); (focus (refine hD _ ?_; first | kernel_rfl | with_unfolding_all rfl)); clear hD; clear D) | ((with_reducible refine guard_go ?_); refine lex_gone rfl rfl ?_; simp only [EVB, seval]) | ((with_reducible refine guardd_go ?_); refine lexd_gone rfl rfl ?_; simp only [EVB, seval]) | ((first | ((with_reducible refine guard_go ?_); refine lex_guard rfl rfl (fun hg KS hKS => ?_) (fun hg => ?_)) | ((with_reducible refine guardd_go ?_); refine lexd_guard rfl rfl (fun hg KS hKS => ?_) (fun hg => ?_)) | ((with_reducible refine cond_go ?_); refine cond_k rfl (fun hg => ?_) (fun hg => ?_)) | (with_reducible refine And.intro (fun hg => ?_) (fun hg => ?_)) | fail) <;> first | ((with_reducible exfalso); exact absurd hg (by decide)) | ((try simp only [CNL] at hg) <;> first | ((with_reducible exfalso); omega) | ((with_reducible exfalso); first | exact tf (by assumption) hg | exact tf hg (by assumption)) | ((try with_reducible (have hT0 : True := hg; clear hT0 hg)); first | (with_reducible refine wpc_go ?_) | (try simp only [EVB, seval])))) | ((with_reducible refine hKS _ _ _ _ ?_); clear hKS; clear KS; simp only [EVB, seval]) | ((with_reducible refine And.intro ?_ ?_); focus (first | omega | exact u8_le _ | exact flat_intK _ | exact flat_bytK _ | (fail) | decide | (simp only [List.length_map]; done))) | ((with_reducible refine ex_p ?_ (fun hh => ?_)); focus (first | omega | (simp only [List.length_map]; omega))) | ((with_reducible refine hK _ _ _ ?_); clear hK hE hT; clear K) | ((with_reducible first | refine hE _ _ _ _ ?_ | refine hT _ _ _ ?_ | fail); (first | (clear hK hE hT; clear K) | (clear hR hE hT; clear K) | skip); try simp only [IFB, seval]) | ((with_reducible apply_assumption -symm -exfalso); try simp only [IFB, seval]) | fail))
      refine hand_k (hand_tail5 (ck := true) rfl rfl ?_)
      simp only [dstsOf, EVB, seval]
      repeat' ((fail_if_success with_reducible refine hand_k (id := 16) ?_); (first | (with_reducible first | refine seq_k fun K hK hE hT => ?_ | refine block_k fun K hK hE hT => ?_ | refine lex_nil ?_ | fail) | ((with_reducible refine region_k ?_); simp only [dstsOf, EVB, seval]) | ((with_reducible refine draw_k ?_ fun D hD => ?_); (focus (first | rfl | kernel_rfl)); simp only [dstsOf, EVB, seval]) | ((with_reducible first | refine lex_move ?_ | refine lex_assign ?_); simp only [EVB, seval]) | (with_reducible first | refine lex_cons fun KS hKS => ?_ | refine lexd_cons fun KS hKS => ?_ | refine skip_k ?_ | refine exit_k ?_ | refine ret_k ?_ | fail) | ((with_reducible refine call_go ?_); fail) | ((with_reducible refine step_go ?_); (fail_if_success with_reducible refine call_go ?_); simp only [ENB, seval, tiAll, List.length_map]) | ((with_reducible refine lexd_nil ?_ ?_); (focus (refine hD _ ?_; first | kernel_rfl | with_unfolding_all rfl)); clear hD; clear D) | ((with_reducible refine guard_go ?_); refine lex_gone rfl rfl ?_; simp only [EVB, seval]) | ((with_reducible refine guardd_go ?_); refine lexd_gone rfl rfl ?_; simp only [EVB, seval]) | ((first | ((with_reducible refine guard_go ?_); refine lex_guard rfl rfl (fun hg KS hKS => ?_) (fun hg => ?_)) | ((with_reducible refine guardd_go ?_); refine lexd_guard rfl rfl (fun hg KS hKS => ?_) (fun hg => ?_)) | ((with_reducible refine cond_go ?_); refine cond_k rfl (fun hg => ?_) (fun hg => ?_)) | (with_reducible refine And.intro (fun hg => ?_) (fun hg => ?_)) | fail) <;> first | ((with_reducible exfalso); exact absurd hg (by decide)) | ((try simp only [CNL] at hg) <;> first | ((with_reducible exfalso); omega) | ((with_reducible exfalso); first | exact tf (by assumption) hg | exact tf hg (by assumption)) | ((try with_reducible (have hT0 : True := hg; clear hT0 hg)); first | (with_reducible refine wpc_go ?_) | (try simp only [EVB, seval])))) | ((with_reducible refine hKS _ _ _ _ ?_); clear hKS; clear KS; simp only [EVB, seval]) | ((with_reducible refine And.intro ?_ ?_); focus (first | omega | exact u8_le _ | exact flat_intK _ | exact flat_bytK _ | (fail) | decide | (simp only [List.length_map]; done))) | ((with_reducible refine ex_p ?_ (fun hh => ?_)); focus (first | omega | (simp only [List.length_map]; omega))) | ((with_reducible refine hK _ _ _ ?_); clear hK hE hT; clear K) | ((with_reducible first | refine hE _ _ _ _ ?_ | refine hT _ _ _ ?_ | fail); (first | (clear hK hE hT; clear K) | (clear hR hE hT; clear K) | skip); try simp only [IFB, seval]) | ((with_reducible apply_assumption -symm -exfalso); try simp only [IFB, seval]) | fail))
      intro X a w Q' hn hs hK'
      refine locs_tail (L := locsTo f.Shards p lo hi f.Shards.length) (S := insAll [] (locsTo f.Shards p lo hi f.Shards.length)) (ds := 73) (db := 7) (gr := 5) (gb := 4) (by omega) hs rfl rfl rfl rfl rfl (by decide) (by decide) (by decide) (by simp) (by simp) hS hSs hnd ?_ hK'
      simp only [EVB, seval]
      (have gx := @List.length_map.{0,0}; refine go ?_; (repeat' first | exact Ef.mk | apply Lf.mk | refine fun (K : KT) hK hE hT => ?_ | refine fun (KS : KE) hKS => ?_ | refine fun (D : KD) hD => ?_ | refine fun (hg : (_ : Prop)) => ?_ | fail); all_goals (first | (refine Wr.mk ?_; (try clear gx); repeat first | clear hK hE hT K | clear hR hE hT K) | assumption | skip))
      (refine post_a hres (.inl rfl) ?_; simp only [RSB, ENB, seval, tiAll, hSl]; simp only [MAB, seval]; refine ⟨rfl, rfl, ?_, ?_, ?_⟩ <;> (first | rfl | (simp [WKB, Nat.add_comm, hSl]; done) | (simp only [WKB, seval])))
    case inl =>
      have hes := h2 _ (List.getElem_mem hlt)
      have hAB := wi_le (p := p) (k := k) (s := f.Shards[k]) hlh
      have hBl := wiB_le (p := p) (k := k) (hi := hi) (s := f.Shards[k])
      have hstep := locsTo_succ (p := p) (lo := lo) (hi := hi) hlt
      have hrs := rdTo_succ (p := p) (lo := lo) (hi := hi) hlt
      have cw := implWindow_k f.Shards[k] hes lo hi
      have hoe : (f.Shards[k]).Edges.length ≤ 400 := (gf_ok hf).s k hlt |>.1.2.2.2
      obtain ⟨A, hAd⟩ : ∃ A, A = wiA p k lo f.Shards[k] := ⟨_, rfl⟩
      obtain ⟨B, hBd⟩ : ∃ B, B = wiB p k hi f.Shards[k] := ⟨_, rfl⟩
      rw [← hAd, ← hBd] at hAB hstep hrs
      rw [← hBd] at hBl
      obtain ⟨L, hL⟩ : ∃ L, L = locsTo f.Shards p lo hi k := ⟨_, rfl⟩
      rw [← hL] at hLk hstep ⊢
      obtain ⟨R0, hR0d⟩ : ∃ R, R = rdTo f.Shards p lo hi k := ⟨_, rfl⟩
      rw [← hR0d] at hrk hrs ⊢
      by_cases hkp : k = p
      case pos =>
        subst hkp
        rw [wiA_t] at hAd
        rw [wiB_t] at hBd
        have hA : ((A : Nat) : Int) = 0 := by omega
        obtain ⟨R, hRq⟩ : ∃ R, R = R0 := ⟨_, rfl⟩
        have hRs : rdTo f.Shards k lo hi (k + 1) = R := by rw [hrs, if_neg (fun q => q.1 rfl)]; omega
        (have gx := And.intro (@List.length_map.{0,0}) (And.intro @List.getElem_map.{0,0} @ShardD.k.eq_1); have q1 := cw; refine go ?_; (repeat' first | exact Ef.mk | apply Lf.mk | refine fun (K : KT) hK hE hT => ?_ | refine fun (KS : KE) hKS => ?_ | refine fun (D : KD) hD => ?_ | refine fun (hg : (_ : Prop)) => ?_ | fail); all_goals (first | (refine Wr.mk ?_; (try clear gx q1); repeat first | clear hK hE hT K | clear hR hE hT K) | assumption | skip))
        refine loop_v (X := {i : Nat // A ≤ i ∧ i ≤ B}) [] (fun x => [(12, .c (.v (.int .i64 ((x.1 : Nat) : Int))))]) (fun x => [(0, some (.ro (f.Ends.map intK))), (1, some (.ro (f.Shards.map (ShardD.k 101)))), (2, some (.box 39 [.v (.int .i64 f.N), .sl 0 1 0 (f.Ends).length, .sl 1 3 0 (f.Shards).length])), (3, some (.box 116 [.v (.int .i64 0), .v (.int .i64 0), .v (.int .i64 0), .nil, .v (.int .i64 0)])), (4, some (.box 116 [.v (.int .i64 (k : Int)), .v (.int .i64 lo), .v (.int .i64 hi), .sl 5 7 0 (L ++ plcAt k f.Shards[k] A (x.1 - A)).length, .v (.int .i64 (R : Int))])), (5, some (.row 133 ((L ++ plcAt k f.Shards[k] A (x.1 - A)).map LocD.k))), (6, some (.ro (f.Shards[k].Edges.map SEdgeD.k))), (7, some (.box 97 [.v (.int .i64 f.Shards[k].Lo), .v (.int .i64 f.Shards[k].Hi), .sl 6 5 0 f.Shards[k].Edges.length]))]) 8 (fun x => B - x.1) ⟨A, Nat.le_refl _, hAB⟩ ?_
        simp only [KPB, seval]
        refine ⟨?_, ?_⟩
        · (refine wk_a ?_; simp only [MAB, seval]; refine ⟨rfl, rfl, (by decide), ?_, ?_⟩; all_goals (first | (simp only [WKB, seval, hA, hRq, Nat.sub_self, plcAt_zero, List.append_nil]; done) | (simp [WKB, seval, hA, hRq, Nat.sub_self, plcAt_zero, List.append_nil]; done) | simp only [WKB, seval]))
        · rintro ⟨i, hi1, hi2⟩ K hR2 hE hT
          obtain ⟨M, hM⟩ : ∃ M, M = L ++ plcAt k f.Shards[k] A (i - A) := ⟨_, rfl⟩
          have lM : M.length = L.length + (i - A) := by rw [hM, List.length_append, plcAt_len]
          simp only [← hM]
          rcases Nat.lt_or_ge i B with hib | hib
          case inr =>
            obtain rfl : i = B := by omega
            have e3 : M = locsTo f.Shards k lo hi (k + 1) := by rw [hM, hstep]
            subst e3
            (have gx := @List.length_map.{0,0}; refine go ?_; (repeat' first | exact Ef.mk | apply Lf.mk | refine fun (K : KT) hK hE hT => ?_ | refine fun (KS : KE) hKS => ?_ | refine fun (D : KD) hD => ?_ | refine fun (hg : (_ : Prop)) => ?_ | fail); all_goals (first | (refine Wr.mk ?_; (try clear gx); repeat first | clear hK hE hT K | clear hR hE hT K) | assumption | skip))
            (refine hR.out ⟨k + 1, by omega⟩ _ _ _ (by simp only; omega) ?_; (refine wk_a ?_; simp only [MAB, seval]; refine ⟨rfl, rfl, (by decide), ?_, ?_⟩; all_goals (first | (simp only [WKB, seval, hRs]; done) | (simp [WKB, seval, hRs]; done) | simp only [WKB, seval])))
          case inl =>
            have hiE : i < f.Shards[k].Edges.length := by omega
            have hMs : L ++ plcAt k f.Shards[k] A (i + 1 - A) = M ++ [⟨(k : Int), (i : Int), f.Shards[k].Edges[i]⟩] := by rw [plcAt_succ hiE hi1, ← List.append_assoc, ← hM]
            obtain ⟨y, hy⟩ : ∃ y, y = f.Shards[k].Edges[i] := ⟨_, rfl⟩
            rw [← hy] at hMs
            (have gx := And.intro (@List.length_map.{0,0}) (And.intro (@List.getElem_map.{0,0}) (And.intro (hy).symm @SEdgeD.k.eq_1)); refine go ?_; (repeat' first | exact Ef.mk | apply Lf.mk | refine fun (K : KT) hK hE hT => ?_ | refine fun (KS : KE) hKS => ?_ | refine fun (D : KD) hD => ?_ | refine fun (hg : (_ : Prop)) => ?_ | fail); all_goals (first | (refine Wr.mk ?_; (try clear gx); repeat first | clear hK hE hT K | clear hR hE hT K) | assumption | skip))
            all_goals (refine hR2.out ⟨i + 1, by omega, by omega⟩ _ _ _ (by simp only; omega) ?_; (refine wk_a ?_; simp only [MAB, seval]; refine ⟨rfl, rfl, (by decide), ?_, ?_⟩; all_goals (first | (simp only [WKB, seval, hMs, LocD.k, List.map_append, List.length_append, List.length_cons, List.length_nil]; done) | (simp [WKB, seval, hMs, LocD.k, List.map_append, List.length_append, List.length_cons, List.length_nil]; done) | simp only [WKB, seval])))
      case neg =>
        rw [wiA_f hkp] at hAd
        rw [wiB_f hkp] at hBd
        rw [← hAd, ← hBd] at cw
        by_cases hlt2 : A < B
        case pos =>
          obtain ⟨R, hRq⟩ : ∃ R, R = R0 + 1 := ⟨_, rfl⟩
          have hRs : rdTo f.Shards p lo hi (k + 1) = R := by rw [hrs, if_pos ⟨hkp, hlt2⟩, hRq]
          have hRi : ((R : Nat) : Int) = (R0 : Int) + 1 := by omega
          (have gx := And.intro (@List.length_map.{0,0}) (And.intro @List.getElem_map.{0,0} @ShardD.k.eq_1); have q1 := cw; refine go ?_; (repeat' first | exact Ef.mk | apply Lf.mk | refine fun (K : KT) hK hE hT => ?_ | refine fun (KS : KE) hKS => ?_ | refine fun (D : KD) hD => ?_ | refine fun (hg : (_ : Prop)) => ?_ | fail); all_goals (first | (refine Wr.mk ?_; (try clear gx q1); repeat first | clear hK hE hT K | clear hR hE hT K) | assumption | skip))
          refine loop_v (X := {i : Nat // A ≤ i ∧ i ≤ B}) [] (fun x => [(12, .c (.v (.int .i64 ((x.1 : Nat) : Int))))]) (fun x => [(0, some (.ro (f.Ends.map intK))), (1, some (.ro (f.Shards.map (ShardD.k 101)))), (2, some (.box 39 [.v (.int .i64 f.N), .sl 0 1 0 (f.Ends).length, .sl 1 3 0 (f.Shards).length])), (3, some (.box 116 [.v (.int .i64 0), .v (.int .i64 0), .v (.int .i64 0), .nil, .v (.int .i64 0)])), (4, some (.box 116 [.v (.int .i64 (p : Int)), .v (.int .i64 lo), .v (.int .i64 hi), .sl 5 7 0 (L ++ plcAt k f.Shards[k] A (x.1 - A)).length, .v (.int .i64 (R : Int))])), (5, some (.row 133 ((L ++ plcAt k f.Shards[k] A (x.1 - A)).map LocD.k))), (6, some (.ro (f.Shards[k].Edges.map SEdgeD.k))), (7, some (.box 97 [.v (.int .i64 f.Shards[k].Lo), .v (.int .i64 f.Shards[k].Hi), .sl 6 5 0 f.Shards[k].Edges.length]))]) 8 (fun x => B - x.1) ⟨A, Nat.le_refl _, hAB⟩ ?_
          simp only [KPB, seval]
          refine ⟨?_, ?_⟩
          · (refine wk_a ?_; simp only [MAB, seval]; refine ⟨rfl, rfl, (by decide), ?_, ?_⟩; all_goals (first | (simp only [WKB, seval, hRi, Nat.sub_self, plcAt_zero, List.append_nil]; done) | (simp [WKB, seval, hRi, Nat.sub_self, plcAt_zero, List.append_nil]; done) | simp only [WKB, seval]))
          · rintro ⟨i, hi1, hi2⟩ K hR2 hE hT
            obtain ⟨M, hM⟩ : ∃ M, M = L ++ plcAt k f.Shards[k] A (i - A) := ⟨_, rfl⟩
            have lM : M.length = L.length + (i - A) := by rw [hM, List.length_append, plcAt_len]
            simp only [← hM]
            rcases Nat.lt_or_ge i B with hib | hib
            case inr =>
              obtain rfl : i = B := by omega
              have e3 : M = locsTo f.Shards p lo hi (k + 1) := by rw [hM, hstep]
              subst e3
              (have gx := @List.length_map.{0,0}; refine go ?_; (repeat' first | exact Ef.mk | apply Lf.mk | refine fun (K : KT) hK hE hT => ?_ | refine fun (KS : KE) hKS => ?_ | refine fun (D : KD) hD => ?_ | refine fun (hg : (_ : Prop)) => ?_ | fail); all_goals (first | (refine Wr.mk ?_; (try clear gx); repeat first | clear hK hE hT K | clear hR hE hT K) | assumption | skip))
              (refine hR.out ⟨k + 1, by omega⟩ _ _ _ (by simp only; omega) ?_; (refine wk_a ?_; simp only [MAB, seval]; refine ⟨rfl, rfl, (by decide), ?_, ?_⟩; all_goals (first | (simp only [WKB, seval, hRs]; done) | (simp [WKB, seval, hRs]; done) | simp only [WKB, seval])))
            case inl =>
              have hiE : i < f.Shards[k].Edges.length := by omega
              have hMs : L ++ plcAt k f.Shards[k] A (i + 1 - A) = M ++ [⟨(k : Int), (i : Int), f.Shards[k].Edges[i]⟩] := by rw [plcAt_succ hiE hi1, ← List.append_assoc, ← hM]
              obtain ⟨y, hy⟩ : ∃ y, y = f.Shards[k].Edges[i] := ⟨_, rfl⟩
              rw [← hy] at hMs
              (have gx := And.intro (@List.length_map.{0,0}) (And.intro (@List.getElem_map.{0,0}) (And.intro (hy).symm @SEdgeD.k.eq_1)); refine go ?_; (repeat' first | exact Ef.mk | apply Lf.mk | refine fun (K : KT) hK hE hT => ?_ | refine fun (KS : KE) hKS => ?_ | refine fun (D : KD) hD => ?_ | refine fun (hg : (_ : Prop)) => ?_ | fail); all_goals (first | (refine Wr.mk ?_; (try clear gx); repeat first | clear hK hE hT K | clear hR hE hT K) | assumption | skip))
              all_goals (refine hR2.out ⟨i + 1, by omega, by omega⟩ _ _ _ (by simp only; omega) ?_; (refine wk_a ?_; simp only [MAB, seval]; refine ⟨rfl, rfl, (by decide), ?_, ?_⟩; all_goals (first | (simp only [WKB, seval, hMs, LocD.k, List.map_append, List.length_append, List.length_cons, List.length_nil]; done) | (simp [WKB, seval, hMs, LocD.k, List.map_append, List.length_append, List.length_cons, List.length_nil]; done) | simp only [WKB, seval])))
        case neg =>
          obtain ⟨R, hRq⟩ : ∃ R, R = R0 := ⟨_, rfl⟩
          have hRs : rdTo f.Shards p lo hi (k + 1) = R := by rw [hrs, if_neg (fun q => hlt2 q.2)]; omega
          (have gx := And.intro (@List.length_map.{0,0}) (And.intro @List.getElem_map.{0,0} @ShardD.k.eq_1); have q1 := cw; refine go ?_; (repeat' first | exact Ef.mk | apply Lf.mk | refine fun (K : KT) hK hE hT => ?_ | refine fun (KS : KE) hKS => ?_ | refine fun (D : KD) hD => ?_ | refine fun (hg : (_ : Prop)) => ?_ | fail); all_goals (first | (refine Wr.mk ?_; (try clear gx q1); repeat first | clear hK hE hT K | clear hR hE hT K) | assumption | skip))
          refine loop_v (X := {i : Nat // A ≤ i ∧ i ≤ B}) [] (fun x => [(12, .c (.v (.int .i64 ((x.1 : Nat) : Int))))]) (fun x => [(0, some (.ro (f.Ends.map intK))), (1, some (.ro (f.Shards.map (ShardD.k 101)))), (2, some (.box 39 [.v (.int .i64 f.N), .sl 0 1 0 (f.Ends).length, .sl 1 3 0 (f.Shards).length])), (3, some (.box 116 [.v (.int .i64 0), .v (.int .i64 0), .v (.int .i64 0), .nil, .v (.int .i64 0)])), (4, some (.box 116 [.v (.int .i64 (p : Int)), .v (.int .i64 lo), .v (.int .i64 hi), .sl 5 7 0 (L ++ plcAt k f.Shards[k] A (x.1 - A)).length, .v (.int .i64 (R : Int))])), (5, some (.row 133 ((L ++ plcAt k f.Shards[k] A (x.1 - A)).map LocD.k))), (6, some (.ro (f.Shards[k].Edges.map SEdgeD.k))), (7, some (.box 97 [.v (.int .i64 f.Shards[k].Lo), .v (.int .i64 f.Shards[k].Hi), .sl 6 5 0 f.Shards[k].Edges.length]))]) 8 (fun x => B - x.1) ⟨A, Nat.le_refl _, hAB⟩ ?_
          simp only [KPB, seval]
          refine ⟨?_, ?_⟩
          · (refine wk_a ?_; simp only [MAB, seval]; refine ⟨rfl, rfl, (by decide), ?_, ?_⟩; all_goals (first | (simp only [WKB, seval, hRq, Nat.sub_self, plcAt_zero, List.append_nil]; done) | (simp [WKB, seval, hRq, Nat.sub_self, plcAt_zero, List.append_nil]; done) | simp only [WKB, seval]))
          · rintro ⟨i, hi1, hi2⟩ K hR2 hE hT
            obtain ⟨M, hM⟩ : ∃ M, M = L ++ plcAt k f.Shards[k] A (i - A) := ⟨_, rfl⟩
            have lM : M.length = L.length + (i - A) := by rw [hM, List.length_append, plcAt_len]
            simp only [← hM]
            rcases Nat.lt_or_ge i B with hib | hib
            case inr =>
              obtain rfl : i = B := by omega
              have e3 : M = locsTo f.Shards p lo hi (k + 1) := by rw [hM, hstep]
              subst e3
              (have gx := @List.length_map.{0,0}; refine go ?_; (repeat' first | exact Ef.mk | apply Lf.mk | refine fun (K : KT) hK hE hT => ?_ | refine fun (KS : KE) hKS => ?_ | refine fun (D : KD) hD => ?_ | refine fun (hg : (_ : Prop)) => ?_ | fail); all_goals (first | (refine Wr.mk ?_; (try clear gx); repeat first | clear hK hE hT K | clear hR hE hT K) | assumption | skip))
              (refine hR.out ⟨k + 1, by omega⟩ _ _ _ (by simp only; omega) ?_; (refine wk_a ?_; simp only [MAB, seval]; refine ⟨rfl, rfl, (by decide), ?_, ?_⟩; all_goals (first | (simp only [WKB, seval, hRs]; done) | (simp [WKB, seval, hRs]; done) | simp only [WKB, seval])))
            case inl =>
              have hiE : i < f.Shards[k].Edges.length := by omega
              have hMs : L ++ plcAt k f.Shards[k] A (i + 1 - A) = M ++ [⟨(k : Int), (i : Int), f.Shards[k].Edges[i]⟩] := by rw [plcAt_succ hiE hi1, ← List.append_assoc, ← hM]
              obtain ⟨y, hy⟩ : ∃ y, y = f.Shards[k].Edges[i] := ⟨_, rfl⟩
              rw [← hy] at hMs
              (have gx := And.intro (@List.length_map.{0,0}) (And.intro (@List.getElem_map.{0,0}) (And.intro (hy).symm @SEdgeD.k.eq_1)); refine go ?_; (repeat' first | exact Ef.mk | apply Lf.mk | refine fun (K : KT) hK hE hT => ?_ | refine fun (KS : KE) hKS => ?_ | refine fun (D : KD) hD => ?_ | refine fun (hg : (_ : Prop)) => ?_ | fail); all_goals (first | (refine Wr.mk ?_; (try clear gx); repeat first | clear hK hE hT K | clear hR hE hT K) | assumption | skip))
              all_goals (refine hR2.out ⟨i + 1, by omega, by omega⟩ _ _ _ (by simp only; omega) ?_; (refine wk_a ?_; simp only [MAB, seval]; refine ⟨rfl, rfl, (by decide), ?_, ?_⟩; all_goals (first | (simp only [WKB, seval, hMs, LocD.k, List.map_append, List.length_append, List.length_cons, List.length_nil]; done) | (simp [WKB, seval, hMs, LocD.k, List.map_append, List.length_append, List.length_cons, List.length_nil]; done) | simp only [WKB, seval])))

end Go.Proofs.YtfnhchcgieeedaaGreat


namespace Go.Proofs.YtfnhchcgieeedaaGreat
set_option linter.unusedSimpArgs false
set_option linter.unusedVariables false
set_option linter.unusedSimpArgs false
set_option linter.unusedVariables false
set_option linter.defProp false
set_option maxRecDepth 20000
open Go.RowKit
attribute [local irreducible] lexD

end Go.Proofs.YtfnhchcgieeedaaGreat

