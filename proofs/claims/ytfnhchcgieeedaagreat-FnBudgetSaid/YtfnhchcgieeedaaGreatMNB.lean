/-
  The engine, texts N5 N6 N8 N10 N12 in one. No conditions of its own.
-/
import Derived.Test.YtfnhchcgieeedaaGreatGO
import Derived.Test.YtfnhchcgieeedaaGreatMNA
import Derived.Test.YtfnhchcgieeedaaGreatZz1
namespace Go.Proofs.YtfnhchcgieeedaaGreat
set_option linter.unusedSimpArgs false
set_option linter.unusedVariables false
set_option linter.unusedSimpArgs false
set_option linter.unusedVariables false
set_option linter.defProp false
open Go.RowKit

/-- All edges of shards. -/
def allE (l : List ShardD) : List SEdgeD := l.flatMap (·.Edges)
theorem allE_len : ∀ l : List ShardD, (allE l).length = edSum l
  | [] => rfl
  | s :: l => by
    have := allE_len l
    unfold allE at this ⊢
    rw [List.flatMap_cons, List.length_append, this]; rfl
theorem allE_snoc {l : List ShardD} {k : Nat} (h : k < l.length) : allE (l.take (k + 1)) = allE (l.take k) ++ l[k].Edges := by
  unfold allE
  rw [List.take_succ_eq_append_getElem h, List.flatMap_append]
  simp
/-- The Hi of the shard before. -/
def lastH (l : List ShardD) (k : Nat) : Int := lastE (l.map (·.Hi)) k
theorem lastH_zero (l : List ShardD) : lastH l 0 = 0 := rfl
theorem lastH_succ {l : List ShardD} {k : Nat} (h : k < l.length) : lastH l (k + 1) = l[k].Hi := by
  unfold lastH
  rw [lastE_succ (by simpa using h), List.getElem_map]
def jn1 (l : List ShardD) (k : Nat) : Prop := ∀ i (h : i < l.length), i < k → ShOk l[i] ∧ l[i].Lo = lastH l i
theorem jn1_zero (l : List ShardD) : jn1 l 0 := fun i h hi => absurd hi (by omega)
theorem jn1_succ {l : List ShardD} {k : Nat} (h : jn1 l k) (hk : k < l.length) (h1 : ShOk l[k]) (h2 : l[k].Lo = lastH l k) : jn1 l (k + 1) := fun i hi hik => by
  by_cases e : i = k
  · subst e; exact ⟨h1, h2⟩
  · exact h i hi (by omega)
theorem jn1_sum {l : List ShardD} : ∀ {k : Nat}, jn1 l k → k ≤ l.length → edSum (l.take k) ≤ 400 * k
  | 0, _, _ => by simp [edSum]
  | k + 1, h, hk => by
    have ih := jn1_sum (k := k) (fun i hi hik => h i hi (by omega)) (by omega)
    have h1 := (h k (by omega) (by omega)).1.1.2.2.2
    rw [edSum_snoc (by omega)]; omega

def okL (n : Int) (m : Nat) (L : List SEdgeD) : Prop := ∀ i (h : i < L.length), (0 ≤ L[i].Index ∧ L[i].From < n ∧ L[i].Index < m) ∧ ∀ j (hj : j < i), (L[j]'(by omega)).Index ≠ L[i].Index
theorem okL_nil (n : Int) (m : Nat) : okL n m [] := fun i h => absurd h (by simp)
theorem okL_pre {n : Int} {m : Nat} {A B : List SEdgeD} (h : okL n m (A ++ B)) : okL n m A := fun i hi => by
  have := h i (by simp; omega)
  rw [List.getElem_append_left hi] at this
  refine ⟨this.1, fun j hj => ?_⟩
  have h2 := this.2 j hj
  rw [List.getElem_append_left (by omega)] at h2
  exact h2
theorem okL_snoc {n : Int} {m : Nat} {L : List SEdgeD} {y : SEdgeD} : okL n m (L ++ [y]) ↔ okL n m L ∧ (0 ≤ y.Index ∧ y.From < n ∧ y.Index < m) ∧ ∀ z ∈ L, z.Index ≠ y.Index := by
  constructor
  · intro h
    have h2 := h L.length (by simp)
    have e : (L ++ [y])[L.length]'(by simp) = y := by simp
    rw [e] at h2
    refine ⟨okL_pre h, h2.1, fun z hz => ?_⟩
    obtain ⟨j, hj, rfl⟩ := List.mem_iff_getElem.1 hz
    have := h2.2 j hj
    rwa [List.getElem_append_left hj] at this
  · rintro ⟨h1, h2, h4⟩ i hi
    by_cases hil : i < L.length
    · rw [List.getElem_append_left hil]
      refine ⟨(h1 i hil).1, fun j hj => ?_⟩
      rw [List.getElem_append_left (by omega)]
      exact (h1 i hil).2 j hj
    · have : i = L.length := by simp at hi; omega
      subst this
      have e : (L ++ [y])[L.length]'(by simp) = y := by simp
      rw [e]
      refine ⟨h2, fun j hj => ?_⟩
      rw [List.getElem_append_left hj]
      exact h4 _ (List.getElem_mem _)
theorem okL_nn {n : Int} {m : Nat} {L : List SEdgeD} (h : okL n m L) {u : SEdgeD} (hu : u ∈ L) : 0 ≤ u.Index := by
  obtain ⟨j, hj, rfl⟩ := List.mem_iff_getElem.1 hu
  exact (h j hj).1.1

def JoinOk (n : Int) (l : List ShardD) : Prop := 0 ≤ n ∧ n ≤ 150 ∧ jn1 l l.length ∧ lastH l l.length = n ∧ edSum l ≤ 400 ∧ okL n (edSum l) (allE l)

theorem jx1 {n : Int} {l : List ShardD} (h : n < 0 ∨ 150 < n) : ¬ JoinOk n l := fun hj => by
  have h1 := hj.1; have h2 := hj.2.1; omega
theorem jx2 {n : Int} {l : List ShardD} (h : (lastH l l.length ≠ n ∨ 400 < edSum l) ∨ n < 0 ∨ 150 < n) : ¬ JoinOk n l := fun hj => by
  have h1 := hj.1; have h2 := hj.2.1; have h3 := hj.2.2.2.1; have h4 := hj.2.2.2.2.1; omega
theorem okL_hit {n : Int} {m : Nat} {L : List SEdgeD} {y u : SEdgeD} {z : Nat} (ho : okL n m L) (h1 : u ∈ L) (h2 : u.Index.toNat = z) (hz : y.Index = (z : Int)) : ¬ okL n m (L ++ [y]) := fun h => by
  have h3 := okL_nn ho h1
  exact (okL_snoc.1 h).2.2 u h1 (by omega)

def booK (b : Bool) : List DC := [.v (.bool b)]
def seenL (m : Nat) (L : List SEdgeD) : List Bool := L.foldl (fun a e => a.set e.Index.toNat true) (List.replicate m false)
def edgesL (m : Nat) (L : List SEdgeD) : List EdgeD := L.foldl (fun a e => a.set e.Index.toNat ⟨e.From, e.To, e.W⟩) (List.replicate m ⟨0, 0, 0⟩)
theorem seenL_snoc (m : Nat) (L : List SEdgeD) (y : SEdgeD) : seenL m (L ++ [y]) = (seenL m L).set y.Index.toNat true := by
  unfold seenL; rw [List.foldl_append]; rfl
theorem edgesL_snoc (m : Nat) (L : List SEdgeD) (y : SEdgeD) : edgesL m (L ++ [y]) = (edgesL m L).set y.Index.toNat ⟨y.From, y.To, y.W⟩ := by
  unfold edgesL; rw [List.foldl_append]; rfl
theorem seenL_len (m : Nat) (L : List SEdgeD) : (seenL m L).length = m := by
  unfold seenL
  have : ∀ (L : List SEdgeD) (a : List Bool), (L.foldl (fun a e => a.set e.Index.toNat true) a).length = a.length := by
    intro L
    induction L with
    | nil => intro a; rfl
    | cons e L ih => intro a; rw [List.foldl_cons, ih]; simp
  rw [this]; simp
theorem edgesL_len (m : Nat) (L : List SEdgeD) : (edgesL m L).length = m := by
  unfold edgesL
  have : ∀ (L : List SEdgeD) (a : List EdgeD), (L.foldl (fun a e => a.set e.Index.toNat ⟨e.From, e.To, e.W⟩) a).length = a.length := by
    intro L
    induction L with
    | nil => intro a; rfl
    | cons e L ih => intro a; rw [List.foldl_cons, ih]; simp
  rw [this]; simp
theorem seenL_get (m : Nat) (L : List SEdgeD) (x : Nat) (hx : x < (seenL m L).length) : (seenL m L)[x] = true ↔ ∃ z ∈ L, z.Index.toNat = x := by
  have key : ∀ (L : List SEdgeD) (a : List Bool) (hx : x < a.length), (L.foldl (fun a e => a.set e.Index.toNat true) a)[x]? = some true ↔ a[x] = true ∨ ∃ z ∈ L, z.Index.toNat = x := by
    intro L
    induction L with
    | nil => intro a hx; simp [hx]
    | cons e L ih =>
      intro a hx
      rw [List.foldl_cons, ih _ (by simpa using hx), List.getElem_set]
      by_cases he : e.Index.toNat = x
      · simp [he]
      · simp [he]
  have h2 := key L (List.replicate m false) (by rw [seenL_len] at hx; simpa using hx)
  have h3 : (seenL m L)[x]? = some (seenL m L)[x] := List.getElem?_eq_getElem hx
  unfold seenL at h3
  rw [h3] at h2
  unfold seenL
  simpa using h2
theorem seenL_set {m : Nat} {L : List SEdgeD} {y : SEdgeD} {x : Nat} (hx : y.Index = (x : Int)) : ((seenL m L).map booK).set x [.v (.bool true)] = (seenL m (L ++ [y])).map booK := by
  rw [seenL_snoc, hx, Int.toNat_natCast, List.map_set]; rfl
theorem edgesL_set {m : Nat} {L : List SEdgeD} {y : SEdgeD} {x : Nat} (hx : y.Index = (x : Int)) : ((edgesL m L).map EdgeD.k).set x [.v (.int .i64 y.From), .v (.int .i64 y.To), .v (.int .i64 y.W)] = (edgesL m (L ++ [y])).map EdgeD.k := by
  rw [edgesL_snoc, hx, Int.toNat_natCast, List.map_set]; rfl
theorem allE_pre {l : List ShardD} {p i : Nat} (hp : p < l.length) (hi : i < l[p].Edges.length) : ∃ B, allE l = ((allE (l.take p) ++ l[p].Edges.take i) ++ [l[p].Edges[i]]) ++ B := by
  refine ⟨l[p].Edges.drop (i + 1) ++ allE (l.drop (p + 1)), ?_⟩
  have e1 : l = l.take p ++ (l[p] :: l.drop (p + 1)) := by rw [List.getElem_cons_drop]; simp
  have e2 : l[p].Edges = l[p].Edges.take i ++ (l[p].Edges[i] :: l[p].Edges.drop (i + 1)) := by rw [List.getElem_cons_drop]; simp
  have e3 : allE l = allE (l.take p) ++ (l[p].Edges ++ allE (l.drop (p + 1))) := by
    conv => lhs; rw [e1]
    unfold allE
    rw [List.flatMap_append, List.flatMap_cons]
  have e4 : l[p].Edges ++ allE (l.drop (p + 1)) = l[p].Edges.take i ++ ([l[p].Edges[i]] ++ (l[p].Edges.drop (i + 1) ++ allE (l.drop (p + 1)))) := by
    conv => lhs; rw [e2]
    simp only [List.append_assoc, List.cons_append, List.nil_append]
  rw [e3, e4]
  simp only [List.append_assoc]
theorem join_bad {n : Int} {l : List ShardD} {p i : Nat} (hp : p < l.length) (hi : i < l[p].Edges.length) (h : ¬ okL n (edSum l) ((allE (l.take p) ++ l[p].Edges.take i) ++ [l[p].Edges[i]])) : ¬ JoinOk n l := fun hj => by
  obtain ⟨B, hB⟩ := allE_pre hp hi
  have := hj.2.2.2.2.2
  rw [hB] at this
  exact h (okL_pre this)

end Go.Proofs.YtfnhchcgieeedaaGreat

namespace Go.Proofs.YtfnhchcgieeedaaGreat
set_option linter.unusedSimpArgs false
set_option linter.unusedVariables false
set_option linter.defProp false
set_option maxRecDepth 20000
open Go.RowKit

set_option maxHeartbeats 16000000 in
theorem implJoinedY_k (n : Int) (l : List ShardD) (hl : l.length ≤ 1048576) (hs : ∀ s ∈ l, s.Edges.length ≤ 1048576) (hq : JoinOk n l) : FnOK Tryz.prog 48 ⟨1, [(0, some (.ro (l.map (ShardD.k 101))))], [.c (.v (.int .i64 n)), .c (.sl 0 3 0 l.length)], .tup [.inr [.v (.int .i64 n), .sl 1 3 0 (edSum l)], .inl (.v (.bool true))], [(1, some (.row 63 ((edgesL (edSum l) (allE l)).map EdgeD.k)))], 2⟩ := by
  refine fnOK_of true mixed Tryz.func48 rfl (by rfl) (by rfl) ?_
  have hres := congrArg Array.toList Tryz.results48
  simp only [Tryz.ntmps48, BGB, seval]
  (have gx := @List.length_map.{0,0}; refine go ?_; (repeat' first | exact Ef.mk | apply Lf.mk | refine fun (K : KT) hK hE hT => ?_ | refine fun (KS : KE) hKS => ?_ | refine fun (D : KD) hD => ?_ | refine fun (hg : (_ : Prop)) => ?_ | fail); all_goals (first | (refine Wr.mk ?_; (try clear gx); repeat first | clear hK hE hT K | clear hR hE hT K) | assumption | skip))
  all_goals first
    | (have hj : ¬ JoinOk n l := (jx1 (by omega)); first | exact absurd hq hj | (refine post_a hres (.inl rfl) ?_; simp only [RSB, ENB, seval, tiAll, true_and]; simp only [MAB, seval]; refine ⟨rfl, rfl, ?_, ?_, ?_⟩ <;> (first | rfl | (simp [WKB, Nat.add_comm, true_and]; done) | (simp only [WKB, seval]))) | fail)
    | skip
  all_goals (
  refine loop_v (X := {k : Nat // k ≤ l.length ∧ Rnd (jn1 l k)}) [] (fun x => [(25, .c (.v (.int .i64 ((x.1 : Nat) : Int)))), (6, .c (.v (.int .i64 (lastH l x.1)))), (7, .c (.v (.int .i64 ((edSum (l.take x.1) : Nat) : Int))))]) (fun x => [(0, some (.ro (l.map (ShardD.k 101)))), (1, some (.box 25 [.v (.int .i64 0), .nil]))]) 2 (fun x => l.length - x.1) ⟨0, by omega, ⟨jn1_zero l⟩⟩ ?_
  simp only [KPB, seval]
  refine ⟨?_, ?_⟩
  · (refine wk_a ?_; simp only [MAB, seval]; refine ⟨rfl, rfl, (by decide), ?_, ?_⟩; all_goals (first | (simp only [WKB, seval, lastH_zero, List.take_zero, edSum]; done) | (simp [WKB, seval, lastH_zero, List.take_zero, edSum]; done) | simp only [WKB, seval]))
  · rintro ⟨k, hk, hi⟩ K hR hE hT
    have hsum := jn1_sum hi.out hk
    rcases Nat.lt_or_ge k l.length with hlt | hge
    case inl =>
      have c := implShardOk_k l[k] (hs _ (List.getElem_mem hlt))
      by_cases hv : ShOk l[k]
      case neg =>
        rw [pB_f hv] at c
        (have gx := And.intro (@List.length_map.{0,0}) (And.intro @List.getElem_map.{0,0} @ShardD.k.eq_1); have q1 := c; refine go ?_; (repeat' first | exact Ef.mk | apply Lf.mk | refine fun (K : KT) hK hE hT => ?_ | refine fun (KS : KE) hKS => ?_ | refine fun (D : KD) hD => ?_ | refine fun (hg : (_ : Prop)) => ?_ | fail); all_goals (first | (refine Wr.mk ?_; (try clear gx q1); repeat first | clear hK hE hT K | clear hR hE hT K) | assumption | skip))
        all_goals (have hj : ¬ JoinOk n l := (fun h => hv (h.2.2.1 k hlt hlt).1); first | exact absurd hq hj | (refine post_a hres (.inl rfl) ?_; simp only [RSB, ENB, seval, tiAll, true_and]; simp only [MAB, seval]; refine ⟨rfl, rfl, ?_, ?_, ?_⟩ <;> (first | rfl | (simp [WKB, Nat.add_comm, true_and]; done) | (simp only [WKB, seval]))) | fail)
      case pos =>
        rw [pB_t hv] at c
        have hv4 := hv.1.2.2.2
        by_cases hlo : l[k].Lo = lastH l k
        case neg =>
          (have gx := And.intro (@List.length_map.{0,0}) (And.intro @List.getElem_map.{0,0} @ShardD.k.eq_1); have q1 := c; refine go ?_; (repeat' first | exact Ef.mk | apply Lf.mk | refine fun (K : KT) hK hE hT => ?_ | refine fun (KS : KE) hKS => ?_ | refine fun (D : KD) hD => ?_ | refine fun (hg : (_ : Prop)) => ?_ | fail); all_goals (first | (refine Wr.mk ?_; (try clear gx q1); repeat first | clear hK hE hT K | clear hR hE hT K) | assumption | skip))
          all_goals (have hj : ¬ JoinOk n l := (fun h => hlo (h.2.2.1 k hlt hlt).2); first | exact absurd hq hj | (refine post_a hres (.inl rfl) ?_; simp only [RSB, ENB, seval, tiAll, true_and]; simp only [MAB, seval]; refine ⟨rfl, rfl, ?_, ?_, ?_⟩ <;> (first | rfl | (simp [WKB, Nat.add_comm, true_and]; done) | (simp only [WKB, seval]))) | fail)
        case pos =>
          have e2 : ((edSum (l.take k) : Nat) : Int) + (l[k].Edges.length : Int) = ((edSum (l.take (k + 1)) : Nat) : Int) := by rw [edSum_snoc hlt]; omega
          (have gx := And.intro (@List.length_map.{0,0}) (And.intro @List.getElem_map.{0,0} @ShardD.k.eq_1); have q1 := c; refine go ?_; (repeat' first | exact Ef.mk | apply Lf.mk | refine fun (K : KT) hK hE hT => ?_ | refine fun (KS : KE) hKS => ?_ | refine fun (D : KD) hD => ?_ | refine fun (hg : (_ : Prop)) => ?_ | fail); all_goals (first | (refine Wr.mk ?_; (try clear gx q1); repeat first | clear hK hE hT K | clear hR hE hT K) | assumption | skip))
          (refine hR.out ⟨k + 1, by omega, ⟨jn1_succ hi.out hlt hv hlo⟩⟩ _ _ _ (by simp only; omega) ?_; (refine wk_a ?_; simp only [MAB, seval]; refine ⟨rfl, rfl, (by decide), ?_, ?_⟩; all_goals (first | (simp only [WKB, seval, lastH_succ hlt, e2]; done) | (simp [WKB, seval, lastH_succ hlt, e2]; done) | simp only [WKB, seval])))
    case inr =>
      obtain rfl : k = l.length := by omega
      rw [List.take_length] at *
      obtain ⟨m, hm⟩ : ∃ m, m = edSum l := ⟨_, rfl⟩
      rw [← hm]
      (have gx := @List.length_map.{0,0}; refine go ?_; (repeat' first | exact Ef.mk | apply Lf.mk | refine fun (K : KT) hK hE hT => ?_ | refine fun (KS : KE) hKS => ?_ | refine fun (D : KD) hD => ?_ | refine fun (hg : (_ : Prop)) => ?_ | fail); all_goals (first | (refine Wr.mk ?_; (try clear gx); repeat first | clear hK hE hT K | clear hR hE hT K) | assumption | skip))
      all_goals first
        | (have hj : ¬ JoinOk n l := (jx2 (by omega)); first | exact absurd hq hj | (refine post_a hres (.inl rfl) ?_; simp only [RSB, ENB, seval, tiAll, true_and]; simp only [MAB, seval]; refine ⟨rfl, rfl, ?_, ?_, ?_⟩ <;> (first | rfl | (simp [WKB, Nat.add_comm, true_and]; done) | (simp only [WKB, seval]))) | fail)
        | skip
      all_goals (
      refine loop_v (X := {p : Nat // p ≤ l.length ∧ Rnd (okL n m (allE (l.take p)))}) [] (fun x => [(63, .c (.v (.int .i64 ((x.1 : Nat) : Int))))]) (fun x => [(0, some (.ro (l.map (ShardD.k 101)))), (1, some (.box 25 [.v (.int .i64 0), .nil])), (2, some (.row 63 ((edgesL m (allE (l.take x.1))).map EdgeD.k))), (3, some (.box 25 [.v (.int .i64 n), .sl 2 3 0 m])), (4, some (.row 4 ((seenL m (allE (l.take x.1))).map booK)))]) 5 (fun x => l.length - x.1) ⟨0, by omega, ⟨okL_nil n m⟩⟩ ?_
      simp only [KPB, seval]
      refine ⟨?_, ?_⟩
      · (refine wk_a ?_; simp only [MAB, seval]; refine ⟨rfl, rfl, (by decide), ?_, ?_⟩; all_goals (first | (simp only [WKB, seval, List.take_zero, allE, List.flatMap_nil, edgesL, seenL, List.foldl_nil, List.map_replicate, EdgeD.k, booK]; done) | (simp [WKB, seval, List.take_zero, allE, List.flatMap_nil, edgesL, seenL, List.foldl_nil, List.map_replicate, EdgeD.k, booK]; done) | simp only [WKB, seval]))
      · rintro ⟨p, hp, ho⟩ K hR hE hT
        have le := edgesL_len m (allE (l.take p))
        have ls := seenL_len m (allE (l.take p))
        rcases Nat.lt_or_ge p l.length with hlt | hge
        case inr =>
          obtain rfl : p = l.length := by omega
          rw [List.take_length] at *
          have hj : JoinOk n l := ⟨by omega, by omega, hi.out, by omega, by omega, by rw [← hm]; exact ho.out⟩
          try exact absurd hj hq
          all_goals (have gx := @List.length_map.{0,0}; refine go ?_; (repeat' first | exact Ef.mk | apply Lf.mk | refine fun (K : KT) hK hE hT => ?_ | refine fun (KS : KE) hKS => ?_ | refine fun (D : KD) hD => ?_ | refine fun (hg : (_ : Prop)) => ?_ | fail); all_goals (first | (refine Wr.mk ?_; (try clear gx); repeat first | clear hK hE hT K | clear hR hE hT K) | assumption | skip))
          all_goals (refine post_a hres (.inl rfl) ?_; simp only [RSB, ENB, seval, tiAll, hm]; simp only [MAB, seval]; refine ⟨rfl, rfl, ?_, ?_, ?_⟩ <;> (first | rfl | (simp [WKB, Nat.add_comm, hm]; done) | (simp only [WKB, seval])))
        case inl =>
          have hok := (hi.out p hlt hlt).1
          have hok4 : l[p].Edges.length ≤ 400 := hok.1.2.2.2
          (have gx := And.intro (@List.length_map.{0,0}) (And.intro @List.getElem_map.{0,0} @ShardD.k.eq_1); refine go ?_; (repeat' first | exact Ef.mk | apply Lf.mk | refine fun (K : KT) hK hE hT => ?_ | refine fun (KS : KE) hKS => ?_ | refine fun (D : KD) hD => ?_ | refine fun (hg : (_ : Prop)) => ?_ | fail); all_goals (first | (refine Wr.mk ?_; (try clear gx); repeat first | clear hK hE hT K | clear hR hE hT K) | assumption | skip))
          refine loop_v (X := {i : Nat // i ≤ l[p].Edges.length ∧ Rnd (okL n m (allE (l.take p) ++ l[p].Edges.take i))}) [] (fun x => [(70, .c (.v (.int .i64 ((x.1 : Nat) : Int))))]) (fun x => [(0, some (.ro (l.map (ShardD.k 101)))), (1, some (.box 25 [.v (.int .i64 0), .nil])), (2, some (.row 63 ((edgesL m (allE (l.take p) ++ l[p].Edges.take x.1)).map EdgeD.k))), (3, some (.box 25 [.v (.int .i64 n), .sl 2 3 0 m])), (4, some (.row 4 ((seenL m (allE (l.take p) ++ l[p].Edges.take x.1)).map booK))), (5, some (.ro (l[p].Edges.map SEdgeD.k)))]) 7 (fun x => l[p].Edges.length - x.1) ⟨0, by omega, ⟨by rw [List.take_zero, List.append_nil]; exact ho.out⟩⟩ ?_
          simp only [KPB, seval]
          refine ⟨?_, ?_⟩
          · (refine wk_a ?_; simp only [MAB, seval]; refine ⟨rfl, rfl, (by decide), ?_, ?_⟩; all_goals (first | (simp only [WKB, seval, List.take_zero, List.append_nil]; done) | (simp [WKB, seval, List.take_zero, List.append_nil]; done) | simp only [WKB, seval]))
          · rintro ⟨i, hil, ho2⟩ K hR2 hE hT
            obtain ⟨L, hL⟩ : ∃ L, L = allE (l.take p) ++ l[p].Edges.take i := ⟨_, rfl⟩
            have le2 := edgesL_len m L
            have ls2 := seenL_len m L
            have ho2 := ho2.out
            simp only [← hL] at ho2 ⊢
            rcases Nat.lt_or_ge i l[p].Edges.length with hit | hig
            case inr =>
              obtain rfl : i = l[p].Edges.length := by omega
              have e3 : L = allE (l.take (p + 1)) := by rw [hL, List.take_length, allE_snoc hlt]
              subst e3
              (have gx := @List.length_map.{0,0}; refine go ?_; (repeat' first | exact Ef.mk | apply Lf.mk | refine fun (K : KT) hK hE hT => ?_ | refine fun (KS : KE) hKS => ?_ | refine fun (D : KD) hD => ?_ | refine fun (hg : (_ : Prop)) => ?_ | fail); all_goals (first | (refine Wr.mk ?_; (try clear gx); repeat first | clear hK hE hT K | clear hR hE hT K) | assumption | skip))
              (refine hR.out ⟨p + 1, by omega, ⟨ho2⟩⟩ _ _ _ (by simp only; omega) ?_; (refine wk_a ?_; simp only [MAB, seval]; refine ⟨rfl, rfl, (by decide), ?_, ?_⟩; all_goals (first | (simp only [WKB, seval, true_and]; done) | (simp [WKB, seval, true_and]; done) | simp only [WKB, seval])))
            case inl =>
              have hed := (hok.2 i hit hit).1
              have hbad : ¬ okL n m (L ++ [l[p].Edges[i]]) → ¬ JoinOk n l := fun h => join_bad hlt hit (by rw [← hL, ← hm]; exact h)
              have hLs : allE (l.take p) ++ l[p].Edges.take (i + 1) = L ++ [l[p].Edges[i]] := by rw [List.take_succ_eq_append_getElem hit, hL, List.append_assoc]
              obtain ⟨y, hy⟩ : ∃ y, y = l[p].Edges[i] := ⟨_, rfl⟩
              rw [← hy] at hed hbad hLs
              unfold edOk at hed
              obtain ⟨z, hz⟩ : ∃ z : Nat, y.Index = (z : Int) := ⟨y.Index.toNat, by omega⟩
              by_cases hr : y.From < n ∧ y.Index < m
              case neg =>
                rw [hz] at hr
                (have gx := And.intro (@List.length_map.{0,0}) (And.intro (@List.getElem_map.{0,0}) (And.intro ((hy).symm) (And.intro @SEdgeD.k.eq_1 @hz))); refine go ?_; (repeat' first | exact Ef.mk | apply Lf.mk | refine fun (K : KT) hK hE hT => ?_ | refine fun (KS : KE) hKS => ?_ | refine fun (D : KD) hD => ?_ | refine fun (hg : (_ : Prop)) => ?_ | fail); all_goals (first | (refine Wr.mk ?_; (try clear gx); repeat first | clear hK hE hT K | clear hR hE hT K) | assumption | skip))
                all_goals (have hj : ¬ JoinOk n l := (hbad fun h => hr (by rw [← hz]; exact (okL_snoc.1 h).2.1.2)); first | exact absurd hq hj | (refine post_a hres (.inl rfl) ?_; simp only [RSB, ENB, seval, tiAll, true_and]; simp only [MAB, seval]; refine ⟨rfl, rfl, ?_, ?_, ?_⟩ <;> (first | rfl | (simp [WKB, Nat.add_comm, true_and]; done) | (simp only [WKB, seval]))) | fail)
              case pos =>
                rw [hz] at hr
                have sg := seenL_get m L z (by rw [ls2]; omega)
                cases hb : (seenL m L)[z]'(by rw [ls2]; omega) with
                | true =>
                  obtain ⟨u, hu1, hu2⟩ := sg.1 hb
                  (have gx := And.intro (@List.length_map.{0,0}) (And.intro (@List.getElem_map.{0,0}) (And.intro ((hy).symm) (And.intro (@SEdgeD.k.eq_1) (And.intro (@hz) (And.intro (@booK.eq_1) (And.intro @hb @ls2)))))); refine go ?_; (repeat' first | exact Ef.mk | apply Lf.mk | refine fun (K : KT) hK hE hT => ?_ | refine fun (KS : KE) hKS => ?_ | refine fun (D : KD) hD => ?_ | refine fun (hg : (_ : Prop)) => ?_ | fail); all_goals (first | (refine Wr.mk ?_; (try clear gx); repeat first | clear hK hE hT K | clear hR hE hT K) | assumption | skip))
                  all_goals (have hj : ¬ JoinOk n l := (hbad (okL_hit ho2 hu1 hu2 hz)); first | exact absurd hq hj | (refine post_a hres (.inl rfl) ?_; simp only [RSB, ENB, seval, tiAll, true_and]; simp only [MAB, seval]; refine ⟨rfl, rfl, ?_, ?_, ?_⟩ <;> (first | rfl | (simp [WKB, Nat.add_comm, true_and]; done) | (simp only [WKB, seval]))) | fail)
                | false =>
                  (have gx := And.intro (@List.length_map.{0,0}) (And.intro (@List.getElem_map.{0,0}) (And.intro ((hy).symm) (And.intro (@SEdgeD.k.eq_1) (And.intro (@EdgeD.k.eq_1) (And.intro (@hz) (And.intro (@booK.eq_1) (And.intro (@hb) (And.intro @ls2 @le2)))))))); refine go ?_; (repeat' first | exact Ef.mk | apply Lf.mk | refine fun (K : KT) hK hE hT => ?_ | refine fun (KS : KE) hKS => ?_ | refine fun (D : KD) hD => ?_ | refine fun (hg : (_ : Prop)) => ?_ | fail); all_goals (first | (refine Wr.mk ?_; (try clear gx); repeat first | clear hK hE hT K | clear hR hE hT K) | assumption | skip))
                  refine hR2.out ⟨i + 1, by omega, ⟨?_⟩⟩ _ _ _ (by simp only; omega) ?_
                  · rw [hLs]
                    refine okL_snoc.2 ⟨ho2, ⟨by omega, hr.1, by rw [hz]; exact hr.2⟩, fun u hu hne => ?_⟩
                    have : (seenL m L)[z]'(by rw [ls2]; omega) = true := sg.2 ⟨u, hu, by rw [hne, hz]; rfl⟩
                    rw [hb] at this; cases this
                  · have e4 := seenL_set (m := m) (L := L) hz
                    have e5 := edgesL_set (m := m) (L := L) hz
                    (refine wk_a ?_; simp only [MAB, seval]; refine ⟨rfl, rfl, (by decide), ?_, ?_⟩; all_goals (first | (simp only [WKB, seval, hLs, e4, e5, EdgeD.k]; done) | (simp [WKB, seval, hLs, e4, e5, EdgeD.k]; done) | simp only [WKB, seval]))))

set_option maxHeartbeats 16000000 in
theorem implJoinedN_k (n : Int) (l : List ShardD) (hl : l.length ≤ 1048576) (hs : ∀ s ∈ l, s.Edges.length ≤ 1048576) (hq : ¬ JoinOk n l) : FnOK Tryz.prog 48 ⟨1, [(0, some (.ro (l.map (ShardD.k 101))))], [.c (.v (.int .i64 n)), .c (.sl 0 3 0 l.length)], .tup [.inr [.v (.int .i64 0), .nil], .inl (.v (.bool false))], [], 1⟩ := by
  refine fnOK_of true mixed Tryz.func48 rfl (by rfl) (by rfl) ?_
  have hres := congrArg Array.toList Tryz.results48
  simp only [Tryz.ntmps48, BGB, seval]
  (have gx := @List.length_map.{0,0}; refine go ?_; (repeat' first | exact Ef.mk | apply Lf.mk | refine fun (K : KT) hK hE hT => ?_ | refine fun (KS : KE) hKS => ?_ | refine fun (D : KD) hD => ?_ | refine fun (hg : (_ : Prop)) => ?_ | fail); all_goals (first | (refine Wr.mk ?_; (try clear gx); repeat first | clear hK hE hT K | clear hR hE hT K) | assumption | skip))
  all_goals first
    | (have hj : ¬ JoinOk n l := (jx1 (by omega)); first | exact absurd hq hj | (refine post_a hres (.inl rfl) ?_; simp only [RSB, ENB, seval, tiAll, true_and]; simp only [MAB, seval]; refine ⟨rfl, rfl, ?_, ?_, ?_⟩ <;> (first | rfl | (simp [WKB, Nat.add_comm, true_and]; done) | (simp only [WKB, seval]))) | fail)
    | skip
  all_goals (
  refine loop_v (X := {k : Nat // k ≤ l.length ∧ Rnd (jn1 l k)}) [] (fun x => [(25, .c (.v (.int .i64 ((x.1 : Nat) : Int)))), (6, .c (.v (.int .i64 (lastH l x.1)))), (7, .c (.v (.int .i64 ((edSum (l.take x.1) : Nat) : Int))))]) (fun x => [(0, some (.ro (l.map (ShardD.k 101)))), (1, some (.box 25 [.v (.int .i64 0), .nil]))]) 2 (fun x => l.length - x.1) ⟨0, by omega, ⟨jn1_zero l⟩⟩ ?_
  simp only [KPB, seval]
  refine ⟨?_, ?_⟩
  · (refine wk_a ?_; simp only [MAB, seval]; refine ⟨rfl, rfl, (by decide), ?_, ?_⟩; all_goals (first | (simp only [WKB, seval, lastH_zero, List.take_zero, edSum]; done) | (simp [WKB, seval, lastH_zero, List.take_zero, edSum]; done) | simp only [WKB, seval]))
  · rintro ⟨k, hk, hi⟩ K hR hE hT
    have hsum := jn1_sum hi.out hk
    rcases Nat.lt_or_ge k l.length with hlt | hge
    case inl =>
      have c := implShardOk_k l[k] (hs _ (List.getElem_mem hlt))
      by_cases hv : ShOk l[k]
      case neg =>
        rw [pB_f hv] at c
        (have gx := And.intro (@List.length_map.{0,0}) (And.intro @List.getElem_map.{0,0} @ShardD.k.eq_1); have q1 := c; refine go ?_; (repeat' first | exact Ef.mk | apply Lf.mk | refine fun (K : KT) hK hE hT => ?_ | refine fun (KS : KE) hKS => ?_ | refine fun (D : KD) hD => ?_ | refine fun (hg : (_ : Prop)) => ?_ | fail); all_goals (first | (refine Wr.mk ?_; (try clear gx q1); repeat first | clear hK hE hT K | clear hR hE hT K) | assumption | skip))
        all_goals (have hj : ¬ JoinOk n l := (fun h => hv (h.2.2.1 k hlt hlt).1); first | exact absurd hq hj | (refine post_a hres (.inl rfl) ?_; simp only [RSB, ENB, seval, tiAll, true_and]; simp only [MAB, seval]; refine ⟨rfl, rfl, ?_, ?_, ?_⟩ <;> (first | rfl | (simp [WKB, Nat.add_comm, true_and]; done) | (simp only [WKB, seval]))) | fail)
      case pos =>
        rw [pB_t hv] at c
        have hv4 := hv.1.2.2.2
        by_cases hlo : l[k].Lo = lastH l k
        case neg =>
          (have gx := And.intro (@List.length_map.{0,0}) (And.intro @List.getElem_map.{0,0} @ShardD.k.eq_1); have q1 := c; refine go ?_; (repeat' first | exact Ef.mk | apply Lf.mk | refine fun (K : KT) hK hE hT => ?_ | refine fun (KS : KE) hKS => ?_ | refine fun (D : KD) hD => ?_ | refine fun (hg : (_ : Prop)) => ?_ | fail); all_goals (first | (refine Wr.mk ?_; (try clear gx q1); repeat first | clear hK hE hT K | clear hR hE hT K) | assumption | skip))
          all_goals (have hj : ¬ JoinOk n l := (fun h => hlo (h.2.2.1 k hlt hlt).2); first | exact absurd hq hj | (refine post_a hres (.inl rfl) ?_; simp only [RSB, ENB, seval, tiAll, true_and]; simp only [MAB, seval]; refine ⟨rfl, rfl, ?_, ?_, ?_⟩ <;> (first | rfl | (simp [WKB, Nat.add_comm, true_and]; done) | (simp only [WKB, seval]))) | fail)
        case pos =>
          have e2 : ((edSum (l.take k) : Nat) : Int) + (l[k].Edges.length : Int) = ((edSum (l.take (k + 1)) : Nat) : Int) := by rw [edSum_snoc hlt]; omega
          (have gx := And.intro (@List.length_map.{0,0}) (And.intro @List.getElem_map.{0,0} @ShardD.k.eq_1); have q1 := c; refine go ?_; (repeat' first | exact Ef.mk | apply Lf.mk | refine fun (K : KT) hK hE hT => ?_ | refine fun (KS : KE) hKS => ?_ | refine fun (D : KD) hD => ?_ | refine fun (hg : (_ : Prop)) => ?_ | fail); all_goals (first | (refine Wr.mk ?_; (try clear gx q1); repeat first | clear hK hE hT K | clear hR hE hT K) | assumption | skip))
          (refine hR.out ⟨k + 1, by omega, ⟨jn1_succ hi.out hlt hv hlo⟩⟩ _ _ _ (by simp only; omega) ?_; (refine wk_a ?_; simp only [MAB, seval]; refine ⟨rfl, rfl, (by decide), ?_, ?_⟩; all_goals (first | (simp only [WKB, seval, lastH_succ hlt, e2]; done) | (simp [WKB, seval, lastH_succ hlt, e2]; done) | simp only [WKB, seval])))
    case inr =>
      obtain rfl : k = l.length := by omega
      rw [List.take_length] at *
      obtain ⟨m, hm⟩ : ∃ m, m = edSum l := ⟨_, rfl⟩
      rw [← hm]
      (have gx := @List.length_map.{0,0}; refine go ?_; (repeat' first | exact Ef.mk | apply Lf.mk | refine fun (K : KT) hK hE hT => ?_ | refine fun (KS : KE) hKS => ?_ | refine fun (D : KD) hD => ?_ | refine fun (hg : (_ : Prop)) => ?_ | fail); all_goals (first | (refine Wr.mk ?_; (try clear gx); repeat first | clear hK hE hT K | clear hR hE hT K) | assumption | skip))
      all_goals first
        | (have hj : ¬ JoinOk n l := (jx2 (by omega)); first | exact absurd hq hj | (refine post_a hres (.inl rfl) ?_; simp only [RSB, ENB, seval, tiAll, true_and]; simp only [MAB, seval]; refine ⟨rfl, rfl, ?_, ?_, ?_⟩ <;> (first | rfl | (simp [WKB, Nat.add_comm, true_and]; done) | (simp only [WKB, seval]))) | fail)
        | skip
      all_goals (
      refine loop_v (X := {p : Nat // p ≤ l.length ∧ Rnd (okL n m (allE (l.take p)))}) [] (fun x => [(63, .c (.v (.int .i64 ((x.1 : Nat) : Int))))]) (fun x => [(0, some (.ro (l.map (ShardD.k 101)))), (1, some (.box 25 [.v (.int .i64 0), .nil])), (2, some (.row 63 ((edgesL m (allE (l.take x.1))).map EdgeD.k))), (3, some (.box 25 [.v (.int .i64 n), .sl 2 3 0 m])), (4, some (.row 4 ((seenL m (allE (l.take x.1))).map booK)))]) 5 (fun x => l.length - x.1) ⟨0, by omega, ⟨okL_nil n m⟩⟩ ?_
      simp only [KPB, seval]
      refine ⟨?_, ?_⟩
      · (refine wk_a ?_; simp only [MAB, seval]; refine ⟨rfl, rfl, (by decide), ?_, ?_⟩; all_goals (first | (simp only [WKB, seval, List.take_zero, allE, List.flatMap_nil, edgesL, seenL, List.foldl_nil, List.map_replicate, EdgeD.k, booK]; done) | (simp [WKB, seval, List.take_zero, allE, List.flatMap_nil, edgesL, seenL, List.foldl_nil, List.map_replicate, EdgeD.k, booK]; done) | simp only [WKB, seval]))
      · rintro ⟨p, hp, ho⟩ K hR hE hT
        have le := edgesL_len m (allE (l.take p))
        have ls := seenL_len m (allE (l.take p))
        rcases Nat.lt_or_ge p l.length with hlt | hge
        case inr =>
          obtain rfl : p = l.length := by omega
          rw [List.take_length] at *
          have hj : JoinOk n l := ⟨by omega, by omega, hi.out, by omega, by omega, by rw [← hm]; exact ho.out⟩
          try exact absurd hj hq
          all_goals (have gx := @List.length_map.{0,0}; refine go ?_; (repeat' first | exact Ef.mk | apply Lf.mk | refine fun (K : KT) hK hE hT => ?_ | refine fun (KS : KE) hKS => ?_ | refine fun (D : KD) hD => ?_ | refine fun (hg : (_ : Prop)) => ?_ | fail); all_goals (first | (refine Wr.mk ?_; (try clear gx); repeat first | clear hK hE hT K | clear hR hE hT K) | assumption | skip))
          all_goals (refine post_a hres (.inl rfl) ?_; simp only [RSB, ENB, seval, tiAll, hm]; simp only [MAB, seval]; refine ⟨rfl, rfl, ?_, ?_, ?_⟩ <;> (first | rfl | (simp [WKB, Nat.add_comm, hm]; done) | (simp only [WKB, seval])))
        case inl =>
          have hok := (hi.out p hlt hlt).1
          have hok4 : l[p].Edges.length ≤ 400 := hok.1.2.2.2
          (have gx := And.intro (@List.length_map.{0,0}) (And.intro @List.getElem_map.{0,0} @ShardD.k.eq_1); refine go ?_; (repeat' first | exact Ef.mk | apply Lf.mk | refine fun (K : KT) hK hE hT => ?_ | refine fun (KS : KE) hKS => ?_ | refine fun (D : KD) hD => ?_ | refine fun (hg : (_ : Prop)) => ?_ | fail); all_goals (first | (refine Wr.mk ?_; (try clear gx); repeat first | clear hK hE hT K | clear hR hE hT K) | assumption | skip))
          refine loop_v (X := {i : Nat // i ≤ l[p].Edges.length ∧ Rnd (okL n m (allE (l.take p) ++ l[p].Edges.take i))}) [] (fun x => [(70, .c (.v (.int .i64 ((x.1 : Nat) : Int))))]) (fun x => [(0, some (.ro (l.map (ShardD.k 101)))), (1, some (.box 25 [.v (.int .i64 0), .nil])), (2, some (.row 63 ((edgesL m (allE (l.take p) ++ l[p].Edges.take x.1)).map EdgeD.k))), (3, some (.box 25 [.v (.int .i64 n), .sl 2 3 0 m])), (4, some (.row 4 ((seenL m (allE (l.take p) ++ l[p].Edges.take x.1)).map booK))), (5, some (.ro (l[p].Edges.map SEdgeD.k)))]) 7 (fun x => l[p].Edges.length - x.1) ⟨0, by omega, ⟨by rw [List.take_zero, List.append_nil]; exact ho.out⟩⟩ ?_
          simp only [KPB, seval]
          refine ⟨?_, ?_⟩
          · (refine wk_a ?_; simp only [MAB, seval]; refine ⟨rfl, rfl, (by decide), ?_, ?_⟩; all_goals (first | (simp only [WKB, seval, List.take_zero, List.append_nil]; done) | (simp [WKB, seval, List.take_zero, List.append_nil]; done) | simp only [WKB, seval]))
          · rintro ⟨i, hil, ho2⟩ K hR2 hE hT
            obtain ⟨L, hL⟩ : ∃ L, L = allE (l.take p) ++ l[p].Edges.take i := ⟨_, rfl⟩
            have le2 := edgesL_len m L
            have ls2 := seenL_len m L
            have ho2 := ho2.out
            simp only [← hL] at ho2 ⊢
            rcases Nat.lt_or_ge i l[p].Edges.length with hit | hig
            case inr =>
              obtain rfl : i = l[p].Edges.length := by omega
              have e3 : L = allE (l.take (p + 1)) := by rw [hL, List.take_length, allE_snoc hlt]
              subst e3
              (have gx := @List.length_map.{0,0}; refine go ?_; (repeat' first | exact Ef.mk | apply Lf.mk | refine fun (K : KT) hK hE hT => ?_ | refine fun (KS : KE) hKS => ?_ | refine fun (D : KD) hD => ?_ | refine fun (hg : (_ : Prop)) => ?_ | fail); all_goals (first | (refine Wr.mk ?_; (try clear gx); repeat first | clear hK hE hT K | clear hR hE hT K) | assumption | skip))
              (refine hR.out ⟨p + 1, by omega, ⟨ho2⟩⟩ _ _ _ (by simp only; omega) ?_; (refine wk_a ?_; simp only [MAB, seval]; refine ⟨rfl, rfl, (by decide), ?_, ?_⟩; all_goals (first | (simp only [WKB, seval, true_and]; done) | (simp [WKB, seval, true_and]; done) | simp only [WKB, seval])))
            case inl =>
              have hed := (hok.2 i hit hit).1
              have hbad : ¬ okL n m (L ++ [l[p].Edges[i]]) → ¬ JoinOk n l := fun h => join_bad hlt hit (by rw [← hL, ← hm]; exact h)
              have hLs : allE (l.take p) ++ l[p].Edges.take (i + 1) = L ++ [l[p].Edges[i]] := by rw [List.take_succ_eq_append_getElem hit, hL, List.append_assoc]
              obtain ⟨y, hy⟩ : ∃ y, y = l[p].Edges[i] := ⟨_, rfl⟩
              rw [← hy] at hed hbad hLs
              unfold edOk at hed
              obtain ⟨z, hz⟩ : ∃ z : Nat, y.Index = (z : Int) := ⟨y.Index.toNat, by omega⟩
              by_cases hr : y.From < n ∧ y.Index < m
              case neg =>
                rw [hz] at hr
                (have gx := And.intro (@List.length_map.{0,0}) (And.intro (@List.getElem_map.{0,0}) (And.intro ((hy).symm) (And.intro @SEdgeD.k.eq_1 @hz))); refine go ?_; (repeat' first | exact Ef.mk | apply Lf.mk | refine fun (K : KT) hK hE hT => ?_ | refine fun (KS : KE) hKS => ?_ | refine fun (D : KD) hD => ?_ | refine fun (hg : (_ : Prop)) => ?_ | fail); all_goals (first | (refine Wr.mk ?_; (try clear gx); repeat first | clear hK hE hT K | clear hR hE hT K) | assumption | skip))
                all_goals (have hj : ¬ JoinOk n l := (hbad fun h => hr (by rw [← hz]; exact (okL_snoc.1 h).2.1.2)); first | exact absurd hq hj | (refine post_a hres (.inl rfl) ?_; simp only [RSB, ENB, seval, tiAll, true_and]; simp only [MAB, seval]; refine ⟨rfl, rfl, ?_, ?_, ?_⟩ <;> (first | rfl | (simp [WKB, Nat.add_comm, true_and]; done) | (simp only [WKB, seval]))) | fail)
              case pos =>
                rw [hz] at hr
                have sg := seenL_get m L z (by rw [ls2]; omega)
                cases hb : (seenL m L)[z]'(by rw [ls2]; omega) with
                | true =>
                  obtain ⟨u, hu1, hu2⟩ := sg.1 hb
                  (have gx := And.intro (@List.length_map.{0,0}) (And.intro (@List.getElem_map.{0,0}) (And.intro ((hy).symm) (And.intro (@SEdgeD.k.eq_1) (And.intro (@hz) (And.intro (@booK.eq_1) (And.intro @hb @ls2)))))); refine go ?_; (repeat' first | exact Ef.mk | apply Lf.mk | refine fun (K : KT) hK hE hT => ?_ | refine fun (KS : KE) hKS => ?_ | refine fun (D : KD) hD => ?_ | refine fun (hg : (_ : Prop)) => ?_ | fail); all_goals (first | (refine Wr.mk ?_; (try clear gx); repeat first | clear hK hE hT K | clear hR hE hT K) | assumption | skip))
                  all_goals (have hj : ¬ JoinOk n l := (hbad (okL_hit ho2 hu1 hu2 hz)); first | exact absurd hq hj | (refine post_a hres (.inl rfl) ?_; simp only [RSB, ENB, seval, tiAll, true_and]; simp only [MAB, seval]; refine ⟨rfl, rfl, ?_, ?_, ?_⟩ <;> (first | rfl | (simp [WKB, Nat.add_comm, true_and]; done) | (simp only [WKB, seval]))) | fail)
                | false =>
                  (have gx := And.intro (@List.length_map.{0,0}) (And.intro (@List.getElem_map.{0,0}) (And.intro ((hy).symm) (And.intro (@SEdgeD.k.eq_1) (And.intro (@EdgeD.k.eq_1) (And.intro (@hz) (And.intro (@booK.eq_1) (And.intro (@hb) (And.intro @ls2 @le2)))))))); refine go ?_; (repeat' first | exact Ef.mk | apply Lf.mk | refine fun (K : KT) hK hE hT => ?_ | refine fun (KS : KE) hKS => ?_ | refine fun (D : KD) hD => ?_ | refine fun (hg : (_ : Prop)) => ?_ | fail); all_goals (first | (refine Wr.mk ?_; (try clear gx); repeat first | clear hK hE hT K | clear hR hE hT K) | assumption | skip))
                  refine hR2.out ⟨i + 1, by omega, ⟨?_⟩⟩ _ _ _ (by simp only; omega) ?_
                  · rw [hLs]
                    refine okL_snoc.2 ⟨ho2, ⟨by omega, hr.1, by rw [hz]; exact hr.2⟩, fun u hu hne => ?_⟩
                    have : (seenL m L)[z]'(by rw [ls2]; omega) = true := sg.2 ⟨u, hu, by rw [hne, hz]; rfl⟩
                    rw [hb] at this; cases this
                  · have e4 := seenL_set (m := m) (L := L) hz
                    have e5 := edgesL_set (m := m) (L := L) hz
                    (refine wk_a ?_; simp only [MAB, seval]; refine ⟨rfl, rfl, (by decide), ?_, ?_⟩; all_goals (first | (simp only [WKB, seval, hLs, e4, e5, EdgeD.k]; done) | (simp [WKB, seval, hLs, e4, e5, EdgeD.k]; done) | simp only [WKB, seval]))))

end Go.Proofs.YtfnhchcgieeedaaGreat

namespace Go.Proofs.YtfnhchcgieeedaaGreat
set_option linter.unusedSimpArgs false
set_option linter.unusedVariables false
set_option linter.defProp false
set_option maxRecDepth 20000
open Go.RowKit

def farTo (l : List SEdgeD) (k : Nat) : Prop := ∀ i (h : i < l.length), i < k → l[i].Val ≤ 1099511627776
theorem farTo_zero (l : List SEdgeD) : farTo l 0 := fun i h hi => absurd hi (by omega)
theorem farTo_succ {l : List SEdgeD} {k : Nat} (h : farTo l k) (hk : k < l.length) (hv : l[k].Val ≤ 1099511627776) : farTo l (k + 1) := fun i hi hik => by
  by_cases e : i = k
  · subst e; exact hv
  · exact h i hi (by omega)
theorem far_all {l : List SEdgeD} (h : farTo l l.length) : ∀ y ∈ l, y.Val ≤ 1099511627776 := fun y hy => by
  obtain ⟨i, hi, rfl⟩ := List.mem_iff_getElem.1 hy
  exact h i hi hi
def farmTo (f : FarmD) (k : Nat) : Prop := ∀ i (h : i < f.Shards.length), i < k → f.Shards[i].Lo = lastE f.Ends i ∧ (∀ h2 : i < f.Ends.length, f.Shards[i].Hi = f.Ends[i]) ∧ ∀ y ∈ f.Shards[i].Edges, y.Val ≤ 1099511627776
theorem farmTo_zero (f : FarmD) : farmTo f 0 := fun i h hi => absurd hi (by omega)
theorem farmTo_succ {f : FarmD} {k : Nat} (h : farmTo f k) (hk : k < f.Shards.length) (h1 : f.Shards[k].Lo = lastE f.Ends k) (h2 : ∀ h2 : k < f.Ends.length, f.Shards[k].Hi = f.Ends[k]) (h3 : ∀ y ∈ f.Shards[k].Edges, y.Val ≤ 1099511627776) : farmTo f (k + 1) := fun i hi hik => by
  by_cases e : i = k
  · subst e; exact ⟨h1, h2, h3⟩
  · exact h i hi (by omega)
def FarmOk (f : FarmD) : Prop := EndsOk f.N f.Ends ∧ f.Shards.length = f.Ends.length ∧ farmTo f f.Shards.length ∧ JoinOk f.N f.Shards

set_option maxHeartbeats 16000000 in
theorem implFarmOk_k (f : FarmD) (h : (f.Ends).length ≤ 1048576 ∧ (f.Shards).length ≤ 1048576 ∧ (∀ s ∈ f.Shards, s.Edges.length ≤ 1048576)) : FnOK Tryz.prog 26 ⟨2, [(0, some (.ro ((f.Ends).map intK))), (1, some (.ro ((f.Shards).map (ShardD.k 101))))], [.agg [.v (.int .i64 f.N), .sl 0 1 0 (f.Ends).length, .sl 1 3 0 (f.Shards).length]], .c (.v (.bool (pB (FarmOk f)))), [], 2⟩ := by
  obtain ⟨h0, h1, h2⟩ := h
  have ce := implEndsOk_k f.N f.Ends h0
  by_cases hd : EndsOk f.N f.Ends ∧ f.Shards.length = f.Ends.length
  case neg =>
    have e : pB (FarmOk f) = false := pB_f fun h => hd ⟨h.1, h.2.1⟩
    rw [e]
    by_cases he : EndsOk f.N f.Ends
    · have hn : f.Shards.length ≠ f.Ends.length := fun h => hd ⟨he, h⟩
      rw [pB_t he] at ce
      refine fnOK_of true mixed Tryz.func26 rfl (by rfl) (by rfl) ?_
      have hres := congrArg Array.toList Tryz.results26
      simp only [Tryz.ntmps26, BGB, seval]
      (have gx := @List.length_map.{0,0}; have q1 := ce; refine go ?_; (repeat' first | exact Ef.mk | apply Lf.mk | refine fun (K : KT) hK hE hT => ?_ | refine fun (KS : KE) hKS => ?_ | refine fun (D : KD) hD => ?_ | refine fun (hg : (_ : Prop)) => ?_ | fail); all_goals (first | (refine Wr.mk ?_; (try clear gx q1); repeat first | clear hK hE hT K | clear hR hE hT K) | assumption | skip))
      all_goals (refine post_a hres (.inl rfl) ?_; simp only [RSB, ENB, seval, tiAll, true_and]; simp only [MAB, seval]; refine ⟨rfl, rfl, ?_, ?_, ?_⟩ <;> (first | rfl | (simp [WKB, Nat.add_comm, true_and]; done) | (simp only [WKB, seval])))
    · rw [pB_f he] at ce
      refine fnOK_of true mixed Tryz.func26 rfl (by rfl) (by rfl) ?_
      have hres := congrArg Array.toList Tryz.results26
      simp only [Tryz.ntmps26, BGB, seval]
      (have gx := @List.length_map.{0,0}; have q1 := ce; refine go ?_; (repeat' first | exact Ef.mk | apply Lf.mk | refine fun (K : KT) hK hE hT => ?_ | refine fun (KS : KE) hKS => ?_ | refine fun (D : KD) hD => ?_ | refine fun (hg : (_ : Prop)) => ?_ | fail); all_goals (first | (refine Wr.mk ?_; (try clear gx q1); repeat first | clear hK hE hT K | clear hR hE hT K) | assumption | skip))
      all_goals (refine post_a hres (.inl rfl) ?_; simp only [RSB, ENB, seval, tiAll, true_and]; simp only [MAB, seval]; refine ⟨rfl, rfl, ?_, ?_, ?_⟩ <;> (first | rfl | (simp [WKB, Nat.add_comm, true_and]; done) | (simp only [WKB, seval])))
  case pos =>
    obtain ⟨he, hn⟩ := hd
    rw [pB_t he] at ce
    refine fnOK_of true mixed Tryz.func26 rfl (by rfl) (by rfl) ?_
    have hres := congrArg Array.toList Tryz.results26
    simp only [Tryz.ntmps26, BGB, seval]
    (have gx := @List.length_map.{0,0}; have q1 := ce; refine go ?_; (repeat' first | exact Ef.mk | apply Lf.mk | refine fun (K : KT) hK hE hT => ?_ | refine fun (KS : KE) hKS => ?_ | refine fun (D : KD) hD => ?_ | refine fun (hg : (_ : Prop)) => ?_ | fail); all_goals (first | (refine Wr.mk ?_; (try clear gx q1); repeat first | clear hK hE hT K | clear hR hE hT K) | assumption | skip))
    refine loop_v (X := {k : Nat // k ≤ f.Shards.length ∧ Rnd (farmTo f k)}) [] (fun x => [(29, .c (.v (.int .i64 ((x.1 : Nat) : Int))))]) (fun x => [(0, some (.ro ((f.Ends).map intK))), (1, some (.ro ((f.Shards).map (ShardD.k 101)))), (2, some (.box 39 [.v (.int .i64 f.N), .sl 0 1 0 (f.Ends).length, .sl 1 3 0 (f.Shards).length]))]) 3 (fun x => f.Shards.length - x.1) ⟨0, by omega, ⟨farmTo_zero f⟩⟩ ?_
    simp only [KPB, seval]
    refine ⟨?_, ?_⟩
    · (refine wk_a ?_; simp only [MAB, seval]; refine ⟨rfl, rfl, (by decide), ?_, ?_⟩; all_goals (first | (simp only [WKB, seval, true_and]; done) | (simp [WKB, seval, true_and]; done) | simp only [WKB, seval]))
    · rintro ⟨k, hk, hi⟩ K hR hE hT
      rcases Nat.lt_or_ge k f.Shards.length with hlt | hge
      case inr =>
        obtain rfl : k = f.Shards.length := by omega
        by_cases hj : JoinOk f.N f.Shards
        · have c := implJoinedY_k f.N f.Shards h1 h2 hj
          have e : pB (FarmOk f) = true := pB_t ⟨he, hn, hi.out, hj⟩
          (have gx := @List.length_map.{0,0}; have q1 := c; refine go ?_; (repeat' first | exact Ef.mk | apply Lf.mk | refine fun (K : KT) hK hE hT => ?_ | refine fun (KS : KE) hKS => ?_ | refine fun (D : KD) hD => ?_ | refine fun (hg : (_ : Prop)) => ?_ | fail); all_goals (first | (refine Wr.mk ?_; (try clear gx q1); repeat first | clear hK hE hT K | clear hR hE hT K) | assumption | skip))
          (refine post_a hres (.inl rfl) ?_; simp only [RSB, ENB, seval, tiAll, e]; simp only [MAB, seval]; refine ⟨rfl, rfl, ?_, ?_, ?_⟩ <;> (first | rfl | (simp [WKB, Nat.add_comm, e]; done) | (simp only [WKB, seval])))
        · have c := implJoinedN_k f.N f.Shards h1 h2 hj
          have e : pB (FarmOk f) = false := pB_f fun h => hj h.2.2.2
          (have gx := @List.length_map.{0,0}; have q1 := c; refine go ?_; (repeat' first | exact Ef.mk | apply Lf.mk | refine fun (K : KT) hK hE hT => ?_ | refine fun (KS : KE) hKS => ?_ | refine fun (D : KD) hD => ?_ | refine fun (hg : (_ : Prop)) => ?_ | fail); all_goals (first | (refine Wr.mk ?_; (try clear gx q1); repeat first | clear hK hE hT K | clear hR hE hT K) | assumption | skip))
          (refine post_a hres (.inl rfl) ?_; simp only [RSB, ENB, seval, tiAll, e]; simp only [MAB, seval]; refine ⟨rfl, rfl, ?_, ?_, ?_⟩ <;> (first | rfl | (simp [WKB, Nat.add_comm, e]; done) | (simp only [WKB, seval])))
      case inl =>
        have cs := implSpan_k f.Ends k h0 (by omega)
        by_cases hlh : f.Shards[k].Lo = lastE f.Ends k ∧ f.Shards[k].Hi = f.Ends[k]'(by omega)
        case neg =>
          have e : pB (FarmOk f) = false := pB_f fun h => hlh (by have := h.2.2.1 k hlt hlt; exact ⟨this.1, this.2.1 (by omega)⟩)
          (have gx := And.intro (@List.length_map.{0,0}) (And.intro @List.getElem_map.{0,0} @ShardD.k.eq_1); have q1 := cs; refine go ?_; (repeat' first | exact Ef.mk | apply Lf.mk | refine fun (K : KT) hK hE hT => ?_ | refine fun (KS : KE) hKS => ?_ | refine fun (D : KD) hD => ?_ | refine fun (hg : (_ : Prop)) => ?_ | fail); all_goals (first | (refine Wr.mk ?_; (try clear gx q1); repeat first | clear hK hE hT K | clear hR hE hT K) | assumption | skip))
          all_goals (refine post_a hres (.inl rfl) ?_; simp only [RSB, ENB, seval, tiAll, e]; simp only [MAB, seval]; refine ⟨rfl, rfl, ?_, ?_, ?_⟩ <;> (first | rfl | (simp [WKB, Nat.add_comm, e]; done) | (simp only [WKB, seval])))
        case pos =>
          have hlen := h2 _ (List.getElem_mem hlt)
          (have gx := And.intro (@List.length_map.{0,0}) (And.intro @List.getElem_map.{0,0} @ShardD.k.eq_1); have q1 := cs; refine go ?_; (repeat' first | exact Ef.mk | apply Lf.mk | refine fun (K : KT) hK hE hT => ?_ | refine fun (KS : KE) hKS => ?_ | refine fun (D : KD) hD => ?_ | refine fun (hg : (_ : Prop)) => ?_ | fail); all_goals (first | (refine Wr.mk ?_; (try clear gx q1); repeat first | clear hK hE hT K | clear hR hE hT K) | assumption | skip))
          refine loop_v (X := {i : Nat // i ≤ f.Shards[k].Edges.length ∧ Rnd (farTo f.Shards[k].Edges i)}) [] (fun x => [(54, .c (.v (.int .i64 ((x.1 : Nat) : Int))))]) (fun x => [(0, some (.ro ((f.Ends).map intK))), (1, some (.ro ((f.Shards).map (ShardD.k 101)))), (2, some (.box 39 [.v (.int .i64 f.N), .sl 0 1 0 (f.Ends).length, .sl 1 3 0 (f.Shards).length])), (3, some (.ro (f.Shards[k].Edges.map SEdgeD.k)))]) 5 (fun x => f.Shards[k].Edges.length - x.1) ⟨0, by omega, ⟨farTo_zero _⟩⟩ ?_
          simp only [KPB, seval]
          refine ⟨?_, ?_⟩
          · (refine wk_a ?_; simp only [MAB, seval]; refine ⟨rfl, rfl, (by decide), ?_, ?_⟩; all_goals (first | (simp only [WKB, seval, true_and]; done) | (simp [WKB, seval, true_and]; done) | simp only [WKB, seval]))
          · rintro ⟨i, hil, hv⟩ K hR2 hE hT
            rcases Nat.lt_or_ge i f.Shards[k].Edges.length with hit | hig
            case inr =>
              obtain rfl : i = f.Shards[k].Edges.length := by omega
              (have gx := @List.length_map.{0,0}; refine go ?_; (repeat' first | exact Ef.mk | apply Lf.mk | refine fun (K : KT) hK hE hT => ?_ | refine fun (KS : KE) hKS => ?_ | refine fun (D : KD) hD => ?_ | refine fun (hg : (_ : Prop)) => ?_ | fail); all_goals (first | (refine Wr.mk ?_; (try clear gx); repeat first | clear hK hE hT K | clear hR hE hT K) | assumption | skip))
              (refine hR.out ⟨k + 1, by omega, ⟨farmTo_succ hi.out hlt hlh.1 (fun _ => hlh.2) (far_all hv.out)⟩⟩ _ _ _ (by simp only; omega) ?_; (refine wk_a ?_; simp only [MAB, seval]; refine ⟨rfl, rfl, (by decide), ?_, ?_⟩; all_goals (first | (simp only [WKB, seval, true_and]; done) | (simp [WKB, seval, true_and]; done) | simp only [WKB, seval])))
            case inl =>
              obtain ⟨y, hy⟩ : ∃ y, y = f.Shards[k].Edges[i] := ⟨_, rfl⟩
              by_cases hf : y.Val ≤ 1099511627776
              · (have gx := And.intro (@List.length_map.{0,0}) (And.intro (@List.getElem_map.{0,0}) (And.intro (hy).symm @SEdgeD.k.eq_1)); refine go ?_; (repeat' first | exact Ef.mk | apply Lf.mk | refine fun (K : KT) hK hE hT => ?_ | refine fun (KS : KE) hKS => ?_ | refine fun (D : KD) hD => ?_ | refine fun (hg : (_ : Prop)) => ?_ | fail); all_goals (first | (refine Wr.mk ?_; (try clear gx); repeat first | clear hK hE hT K | clear hR hE hT K) | assumption | skip))
                refine hR2.out ⟨i + 1, by omega, ⟨farTo_succ hv.out hit (by rw [← hy]; exact hf)⟩⟩ _ _ _ (by simp only; omega) ?_
                (refine wk_a ?_; simp only [MAB, seval]; refine ⟨rfl, rfl, (by decide), ?_, ?_⟩; all_goals (first | (simp only [WKB, seval, true_and]; done) | (simp [WKB, seval, true_and]; done) | simp only [WKB, seval]))
              · have e : pB (FarmOk f) = false := pB_f fun h => hf (by rw [hy]; exact (h.2.2.1 k hlt hlt).2.2 _ (List.getElem_mem hit))
                (have gx := And.intro (@List.length_map.{0,0}) (And.intro (@List.getElem_map.{0,0}) (And.intro (hy).symm @SEdgeD.k.eq_1)); refine go ?_; (repeat' first | exact Ef.mk | apply Lf.mk | refine fun (K : KT) hK hE hT => ?_ | refine fun (KS : KE) hKS => ?_ | refine fun (D : KD) hD => ?_ | refine fun (hg : (_ : Prop)) => ?_ | fail); all_goals (first | (refine Wr.mk ?_; (try clear gx); repeat first | clear hK hE hT K | clear hR hE hT K) | assumption | skip))
                (refine post_a hres (.inl rfl) ?_; simp only [RSB, ENB, seval, tiAll, e]; simp only [MAB, seval]; refine ⟨rfl, rfl, ?_, ?_, ?_⟩ <;> (first | rfl | (simp [WKB, Nat.add_comm, e]; done) | (simp only [WKB, seval])))

end Go.Proofs.YtfnhchcgieeedaaGreat

namespace Go.Proofs.YtfnhchcgieeedaaGreat
set_option linter.unusedSimpArgs false
set_option linter.unusedVariables false
set_option linter.defProp false
set_option maxRecDepth 20000
open Go.RowKit

def valsL (m : Nat) (L : List SEdgeD) : List Int := L.foldl (fun a e => a.set e.Index.toNat e.Val) (List.replicate m 0)
theorem valsL_snoc (m : Nat) (L : List SEdgeD) (y : SEdgeD) : valsL m (L ++ [y]) = (valsL m L).set y.Index.toNat y.Val := by
  unfold valsL; rw [List.foldl_append]; rfl
theorem valsL_len (m : Nat) (L : List SEdgeD) : (valsL m L).length = m := by
  unfold valsL
  have : ∀ (L : List SEdgeD) (a : List Int), (L.foldl (fun a e => a.set e.Index.toNat e.Val) a).length = a.length := by
    intro L
    induction L with
    | nil => intro a; rfl
    | cons e L ih => intro a; rw [List.foldl_cons, ih]; simp
  rw [this]; simp
theorem valsL_set {m : Nat} {L : List SEdgeD} {y : SEdgeD} {x : Nat} (hx : y.Index = (x : Int)) : ((valsL m L).map intK).set x [.v (.int .i64 y.Val)] = (valsL m (L ++ [y])).map intK := by
  rw [valsL_snoc, hx, Int.toNat_natCast, List.map_set]; rfl
theorem okL_at {n : Int} {m : Nat} {l : List ShardD} (h : okL n m (allE l)) {p i : Nat} (hp : p < l.length) (hi : i < l[p].Edges.length) : 0 ≤ l[p].Edges[i].Index ∧ l[p].Edges[i].Index < m := by
  obtain ⟨B, hB⟩ := allE_pre hp hi
  rw [hB] at h
  have h2 := (okL_snoc.1 (okL_pre h)).2.1
  exact ⟨h2.1, h2.2.2⟩

set_option maxHeartbeats 8000000 in
theorem edges_k (f : FarmD) (h : (f.Ends).length ≤ 1048576 ∧ (f.Shards).length ≤ 1048576 ∧ (∀ s ∈ f.Shards, s.Edges.length ≤ 1048576)) (hm : edSum f.Shards ≤ 1099511627776) : FnOK Tryz.prog 52 ⟨2, [(0, some (.ro ((f.Ends).map intK))), (1, some (.ro ((f.Shards).map (ShardD.k 101))))], [.agg [.v (.int .i64 f.N), .sl 0 1 0 (f.Ends).length, .sl 1 3 0 (f.Shards).length]], .c (.v (.int .i64 ((edSum f.Shards : Nat) : Int))), [], 2⟩ := by
  obtain ⟨h0, h1, h2⟩ := h
  refine fnOK_of true mixed Tryz.func52 rfl (by rfl) (by rfl) ?_
  have hres := congrArg Array.toList Tryz.results52
  simp only [Tryz.ntmps52, BGB, seval]
  (have gx := @List.length_map.{0,0}; refine go ?_; (repeat' first | exact Ef.mk | apply Lf.mk | refine fun (K : KT) hK hE hT => ?_ | refine fun (KS : KE) hKS => ?_ | refine fun (D : KD) hD => ?_ | refine fun (hg : (_ : Prop)) => ?_ | fail); all_goals (first | (refine Wr.mk ?_; (try clear gx); repeat first | clear hK hE hT K | clear hR hE hT K) | assumption | skip))
  refine loop_v (X := {k : Nat // k ≤ f.Shards.length}) [] (fun x => [(9, .c (.v (.int .i64 ((x.1 : Nat) : Int)))), (3, .c (.v (.int .i64 ((edSum (f.Shards.take x.1) : Nat) : Int))))]) (fun x => [(0, some (.ro ((f.Ends).map intK))), (1, some (.ro ((f.Shards).map (ShardD.k 101)))), (2, some (.box 39 [.v (.int .i64 f.N), .sl 0 1 0 (f.Ends).length, .sl 1 3 0 (f.Shards).length]))]) 3 (fun x => f.Shards.length - x.1) ⟨0, by omega⟩ ?_
  simp only [KPB, seval]
  refine ⟨?_, ?_⟩
  · (refine wk_a ?_; simp only [MAB, seval]; refine ⟨rfl, rfl, (by decide), ?_, ?_⟩; all_goals (first | (simp only [WKB, seval, List.take_zero, edSum]; done) | (simp [WKB, seval, List.take_zero, edSum]; done) | simp only [WKB, seval]))
  · rintro ⟨k, hk⟩ K hR hE hT
    have hs := edSum_le f.Shards k
    rcases Nat.lt_or_ge k f.Shards.length with hlt | hge
    case inl =>
      have hlen := h2 _ (List.getElem_mem hlt)
      have e2 : ((edSum (f.Shards.take k) : Nat) : Int) + (f.Shards[k].Edges.length : Int) = ((edSum (f.Shards.take (k + 1)) : Nat) : Int) := by rw [edSum_snoc hlt]; omega
      (have gx := And.intro (@List.length_map.{0,0}) (And.intro @List.getElem_map.{0,0} @ShardD.k.eq_1); refine go ?_; (repeat' first | exact Ef.mk | apply Lf.mk | refine fun (K : KT) hK hE hT => ?_ | refine fun (KS : KE) hKS => ?_ | refine fun (D : KD) hD => ?_ | refine fun (hg : (_ : Prop)) => ?_ | fail); all_goals (first | (refine Wr.mk ?_; (try clear gx); repeat first | clear hK hE hT K | clear hR hE hT K) | assumption | skip))
      (refine hR.out ⟨k + 1, by omega⟩ _ _ _ (by simp only; omega) ?_; (refine wk_a ?_; simp only [MAB, seval]; refine ⟨rfl, rfl, (by decide), ?_, ?_⟩; all_goals (first | (simp only [WKB, seval, e2]; done) | (simp [WKB, seval, e2]; done) | simp only [WKB, seval])))
    case inr =>
      obtain rfl : k = f.Shards.length := by omega
      (have gx := @List.length_map.{0,0}; refine go ?_; (repeat' first | exact Ef.mk | apply Lf.mk | refine fun (K : KT) hK hE hT => ?_ | refine fun (KS : KE) hKS => ?_ | refine fun (D : KD) hD => ?_ | refine fun (hg : (_ : Prop)) => ?_ | fail); all_goals (first | (refine Wr.mk ?_; (try clear gx); repeat first | clear hK hE hT K | clear hR hE hT K) | assumption | skip))
      (refine post_a hres (.inl rfl) ?_; simp only [RSB, ENB, seval, tiAll, List.take_length]; simp only [MAB, seval]; refine ⟨rfl, rfl, ?_, ?_, ?_⟩ <;> (first | rfl | (simp [WKB, Nat.add_comm, List.take_length]; done) | (simp only [WKB, seval])))

set_option maxHeartbeats 16000000 in
theorem vals_k (f : FarmD) (h : (f.Ends).length ≤ 1048576 ∧ (f.Shards).length ≤ 1048576 ∧ (∀ s ∈ f.Shards, s.Edges.length ≤ 1048576)) (m : Nat) (hm : m = edSum f.Shards) (hm2 : m ≤ 1048576) (ho : okL f.N m (allE f.Shards)) : FnOK Tryz.prog 56 ⟨2, [(0, some (.ro ((f.Ends).map intK))), (1, some (.ro ((f.Shards).map (ShardD.k 101))))], [.agg [.v (.int .i64 f.N), .sl 0 1 0 (f.Ends).length, .sl 1 3 0 (f.Shards).length]], .c (.sl 2 1 0 m), [(2, some (.row 3 ((valsL m (allE f.Shards)).map intK)))], 3⟩ := by
  have c := edges_k f h (by omega)
  obtain ⟨h0, h1, h2⟩ := h
  rw [← hm] at c
  refine fnOK_of true mixed Tryz.func56 rfl (by rfl) (by rfl) ?_
  have hres := congrArg Array.toList Tryz.results56
  simp only [Tryz.ntmps56, BGB, seval]
  (have gx := @List.length_map.{0,0}; have q1 := c; refine go ?_; (repeat' first | exact Ef.mk | apply Lf.mk | refine fun (K : KT) hK hE hT => ?_ | refine fun (KS : KE) hKS => ?_ | refine fun (D : KD) hD => ?_ | refine fun (hg : (_ : Prop)) => ?_ | fail); all_goals (first | (refine Wr.mk ?_; (try clear gx q1); repeat first | clear hK hE hT K | clear hR hE hT K) | assumption | skip))
  refine loop_v (X := {p : Nat // p ≤ f.Shards.length}) [] (fun x => [(14, .c (.v (.int .i64 ((x.1 : Nat) : Int))))]) (fun x => [(0, some (.ro ((f.Ends).map intK))), (1, some (.ro ((f.Shards).map (ShardD.k 101)))), (2, some (.box 39 [.v (.int .i64 f.N), .sl 0 1 0 (f.Ends).length, .sl 1 3 0 (f.Shards).length])), (3, some (.row 3 ((valsL m (allE (f.Shards.take x.1))).map intK)))]) 4 (fun x => f.Shards.length - x.1) ⟨0, by omega⟩ ?_
  simp only [KPB, seval]
  refine ⟨?_, ?_⟩
  · (refine wk_a ?_; simp only [MAB, seval]; refine ⟨rfl, rfl, (by decide), ?_, ?_⟩; all_goals (first | (simp only [WKB, seval, List.take_zero, allE, List.flatMap_nil, valsL, List.foldl_nil, List.map_replicate, intK]; done) | (simp [WKB, seval, List.take_zero, allE, List.flatMap_nil, valsL, List.foldl_nil, List.map_replicate, intK]; done) | simp only [WKB, seval]))
  · rintro ⟨p, hp⟩ K hR hE hT
    have lv := valsL_len m (allE (f.Shards.take p))
    rcases Nat.lt_or_ge p f.Shards.length with hlt | hge
    case inr =>
      obtain rfl : p = f.Shards.length := by omega
      rw [List.take_length] at *
      (have gx := @List.length_map.{0,0}; refine go ?_; (repeat' first | exact Ef.mk | apply Lf.mk | refine fun (K : KT) hK hE hT => ?_ | refine fun (KS : KE) hKS => ?_ | refine fun (D : KD) hD => ?_ | refine fun (hg : (_ : Prop)) => ?_ | fail); all_goals (first | (refine Wr.mk ?_; (try clear gx); repeat first | clear hK hE hT K | clear hR hE hT K) | assumption | skip))
      (refine post_a hres (.inl rfl) ?_; simp only [RSB, ENB, seval, tiAll, true_and]; simp only [MAB, seval]; refine ⟨rfl, rfl, ?_, ?_, ?_⟩ <;> (first | rfl | (simp [WKB, Nat.add_comm, true_and]; done) | (simp only [WKB, seval])))
    case inl =>
      have hlen := h2 _ (List.getElem_mem hlt)
      (have gx := And.intro (@List.length_map.{0,0}) (And.intro @List.getElem_map.{0,0} @ShardD.k.eq_1); refine go ?_; (repeat' first | exact Ef.mk | apply Lf.mk | refine fun (K : KT) hK hE hT => ?_ | refine fun (KS : KE) hKS => ?_ | refine fun (D : KD) hD => ?_ | refine fun (hg : (_ : Prop)) => ?_ | fail); all_goals (first | (refine Wr.mk ?_; (try clear gx); repeat first | clear hK hE hT K | clear hR hE hT K) | assumption | skip))
      refine loop_v (X := {i : Nat // i ≤ f.Shards[p].Edges.length}) [] (fun x => [(21, .c (.v (.int .i64 ((x.1 : Nat) : Int))))]) (fun x => [(0, some (.ro ((f.Ends).map intK))), (1, some (.ro ((f.Shards).map (ShardD.k 101)))), (2, some (.box 39 [.v (.int .i64 f.N), .sl 0 1 0 (f.Ends).length, .sl 1 3 0 (f.Shards).length])), (3, some (.row 3 ((valsL m (allE (f.Shards.take p) ++ f.Shards[p].Edges.take x.1)).map intK))), (4, some (.ro (f.Shards[p].Edges.map SEdgeD.k)))]) 6 (fun x => f.Shards[p].Edges.length - x.1) ⟨0, by omega⟩ ?_
      simp only [KPB, seval]
      refine ⟨?_, ?_⟩
      · (refine wk_a ?_; simp only [MAB, seval]; refine ⟨rfl, rfl, (by decide), ?_, ?_⟩; all_goals (first | (simp only [WKB, seval, List.take_zero, List.append_nil]; done) | (simp [WKB, seval, List.take_zero, List.append_nil]; done) | simp only [WKB, seval]))
      · rintro ⟨i, hil⟩ K hR2 hE hT
        obtain ⟨L, hL⟩ : ∃ L, L = allE (f.Shards.take p) ++ f.Shards[p].Edges.take i := ⟨_, rfl⟩
        have lv2 := valsL_len m L
        simp only [← hL]
        rcases Nat.lt_or_ge i f.Shards[p].Edges.length with hit | hig
        case inr =>
          obtain rfl : i = f.Shards[p].Edges.length := by omega
          have e3 : L = allE (f.Shards.take (p + 1)) := by rw [hL, List.take_length, allE_snoc hlt]
          subst e3
          (have gx := @List.length_map.{0,0}; refine go ?_; (repeat' first | exact Ef.mk | apply Lf.mk | refine fun (K : KT) hK hE hT => ?_ | refine fun (KS : KE) hKS => ?_ | refine fun (D : KD) hD => ?_ | refine fun (hg : (_ : Prop)) => ?_ | fail); all_goals (first | (refine Wr.mk ?_; (try clear gx); repeat first | clear hK hE hT K | clear hR hE hT K) | assumption | skip))
          (refine hR.out ⟨p + 1, by omega⟩ _ _ _ (by simp only; omega) ?_; (refine wk_a ?_; simp only [MAB, seval]; refine ⟨rfl, rfl, (by decide), ?_, ?_⟩; all_goals (first | (simp only [WKB, seval, true_and]; done) | (simp [WKB, seval, true_and]; done) | simp only [WKB, seval])))
        case inl =>
          have hr := okL_at ho hlt hit
          have hLs : allE (f.Shards.take p) ++ f.Shards[p].Edges.take (i + 1) = L ++ [f.Shards[p].Edges[i]] := by rw [List.take_succ_eq_append_getElem hit, hL, List.append_assoc]
          obtain ⟨y, hy⟩ : ∃ y, y = f.Shards[p].Edges[i] := ⟨_, rfl⟩
          rw [← hy] at hr hLs
          obtain ⟨z, hz⟩ : ∃ z : Nat, y.Index = (z : Int) := ⟨y.Index.toNat, by omega⟩
          rw [hz] at hr
          have e4 := valsL_set (m := m) (L := L) hz
          (have gx := And.intro (@List.length_map.{0,0}) (And.intro (@List.getElem_map.{0,0}) (And.intro ((hy).symm) (And.intro (@SEdgeD.k.eq_1) (And.intro (@intK.eq_1) (And.intro @hz @lv2))))); refine go ?_; (repeat' first | exact Ef.mk | apply Lf.mk | refine fun (K : KT) hK hE hT => ?_ | refine fun (KS : KE) hKS => ?_ | refine fun (D : KD) hD => ?_ | refine fun (hg : (_ : Prop)) => ?_ | fail); all_goals (first | (refine Wr.mk ?_; (try clear gx); repeat first | clear hK hE hT K | clear hR hE hT K) | assumption | skip))
          refine hR2.out ⟨i + 1, by omega⟩ _ _ _ (by simp only; omega) ?_
          (refine wk_a ?_; simp only [MAB, seval]; refine ⟨rfl, rfl, (by decide), ?_, ?_⟩; all_goals (first | (simp only [WKB, seval, hLs, e4, intK]; done) | (simp [WKB, seval, hLs, e4, intK]; done) | simp only [WKB, seval]))

end Go.Proofs.YtfnhchcgieeedaaGreat

namespace Go.Proofs.YtfnhchcgieeedaaGreat
set_option linter.unusedSimpArgs false
set_option linter.unusedVariables false
set_option linter.defProp false
set_option maxRecDepth 20000
open Go.RowKit

theorem jn1_ge {l : List ShardD} : ∀ {k : Nat}, jn1 l k → k ≤ l.length → (k : Int) ≤ lastH l k
  | 0, _, _ => by rw [lastH_zero]; simp
  | k + 1, h, hk => by
    have ih := jn1_ge (k := k) (fun i hi hik => h i hi (by omega)) (by omega)
    obtain ⟨a, b⟩ := h k (by omega) (by omega)
    have c := a.1
    unfold shHead at c
    rw [lastH_succ (by omega)]
    omega
structure GfOk (f : FarmD) : Prop where
  n : 0 ≤ f.N ∧ f.N ≤ 150
  l : f.Shards.length ≤ 150
  e : f.Ends.length = f.Shards.length
  s : ∀ i (h : i < f.Shards.length), ShOk f.Shards[i]
  c : edSum f.Shards ≤ 400
theorem gf_ok {f : FarmD} (h : FarmOk f) : GfOk f := by
  obtain ⟨_, h2, _, h4⟩ := h
  obtain ⟨a, b, c, d, e, _⟩ := h4
  have := jn1_ge c (Nat.le_refl _)
  exact ⟨⟨a, b⟩, by omega, h2.symm, fun i hi => (c i hi hi).1, e⟩

end Go.Proofs.YtfnhchcgieeedaaGreat

