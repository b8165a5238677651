/-
  The engine, texts N5 N6 N8 N10 N12 in one. No conditions of its own.
-/
import Derived.Test.YtfnhchcgieeedaaGO
import Derived.Test.YtfnhchcgieeedaaMNA
import Derived.Test.YtfnhchcgieeedaaDF
namespace Go.Proofs.Ytfnhchcgieeedaa
set_option linter.unusedSimpArgs false
set_option linter.unusedVariables false
set_option linter.unusedSimpArgs false
set_option linter.unusedVariables false
set_option linter.defProp false
open Go.RowKit

/-- All edges of shards. -/
def allE (l : List ShardD) : List SEdgeD := l.flatMap (·.Edges)
theorem allE_len : ∀ l : List ShardD, (allE l).length = edSum l
  | [] => rfl
  | s :: l => by
    have := allE_len l
    unfold allE at this ⊢
    rw [List.flatMap_cons, List.length_append, this]; rfl
theorem allE_snoc {l : List ShardD} {k : Nat} (h : k < l.length) : allE (l.take (k + 1)) = allE (l.take k) ++ l[k].Edges := by
  unfold allE
  rw [List.take_succ_eq_append_getElem h, List.flatMap_append]
  simp
/-- The Hi of the shard before. -/
def lastH (l : List ShardD) (k : Nat) : Int := lastE (l.map (·.Hi)) k
theorem lastH_zero (l : List ShardD) : lastH l 0 = 0 := rfl
theorem lastH_succ {l : List ShardD} {k : Nat} (h : k < l.length) : lastH l (k + 1) = l[k].Hi := by
  unfold lastH
  rw [lastE_succ (by simpa using h), List.getElem_map]
def jn1 (l : List ShardD) (k : Nat) : Prop := ∀ i (h : i < l.length), i < k → ShOk l[i] ∧ l[i].Lo = lastH l i
theorem jn1_zero (l : List ShardD) : jn1 l 0 := fun i h hi => absurd hi (by omega)
theorem jn1_succ {l : List ShardD} {k : Nat} (h : jn1 l k) (hk : k < l.length) (h1 : ShOk l[k]) (h2 : l[k].Lo = lastH l k) : jn1 l (k + 1) := fun i hi hik => by
  by_cases e : i = k
  · subst e; exact ⟨h1, h2⟩
  · exact h i hi (by omega)
theorem jn1_sum {l : List ShardD} : ∀ {k : Nat}, jn1 l k → k ≤ l.length → edSum (l.take k) ≤ 400 * k
  | 0, _, _ => by simp [edSum]
  | k + 1, h, hk => by
    have ih := jn1_sum (k := k) (fun i hi hik => h i hi (by omega)) (by omega)
    have h1 := (h k (by omega) (by omega)).1.1.2.2.2
    rw [edSum_snoc (by omega)]; omega

def okL (n : Int) (m : Nat) (L : List SEdgeD) : Prop := ∀ i (h : i < L.length), (0 ≤ L[i].Index ∧ L[i].From < n ∧ L[i].Index < m) ∧ ∀ j (hj : j < i), (L[j]'(by omega)).Index ≠ L[i].Index
theorem okL_nil (n : Int) (m : Nat) : okL n m [] := fun i h => absurd h (by simp)
theorem okL_pre {n : Int} {m : Nat} {A B : List SEdgeD} (h : okL n m (A ++ B)) : okL n m A := fun i hi => by
  have := h i (by simp; omega)
  rw [List.getElem_append_left hi] at this
  refine ⟨this.1, fun j hj => ?_⟩
  have h2 := this.2 j hj
  rw [List.getElem_append_left (by omega)] at h2
  exact h2
theorem okL_snoc {n : Int} {m : Nat} {L : List SEdgeD} {y : SEdgeD} : okL n m (L ++ [y]) ↔ okL n m L ∧ (0 ≤ y.Index ∧ y.From < n ∧ y.Index < m) ∧ ∀ z ∈ L, z.Index ≠ y.Index := by
  constructor
  · intro h
    have h2 := h L.length (by simp)
    have e : (L ++ [y])[L.length]'(by simp) = y := by simp
    rw [e] at h2
    refine ⟨okL_pre h, h2.1, fun z hz => ?_⟩
    obtain ⟨j, hj, rfl⟩ := List.mem_iff_getElem.1 hz
    have := h2.2 j hj
    rwa [List.getElem_append_left hj] at this
  · rintro ⟨h1, h2, h4⟩ i hi
    by_cases hil : i < L.length
    · rw [List.getElem_append_left hil]
      refine ⟨(h1 i hil).1, fun j hj => ?_⟩
      rw [List.getElem_append_left (by omega)]
      exact (h1 i hil).2 j hj
    · have : i = L.length := by simp at hi; omega
      subst this
      have e : (L ++ [y])[L.length]'(by simp) = y := by simp
      rw [e]
      refine ⟨h2, fun j hj => ?_⟩
      rw [List.getElem_append_left hj]
      exact h4 _ (List.getElem_mem _)
theorem okL_nn {n : Int} {m : Nat} {L : List SEdgeD} (h : okL n m L) {u : SEdgeD} (hu : u ∈ L) : 0 ≤ u.Index := by
  obtain ⟨j, hj, rfl⟩ := List.mem_iff_getElem.1 hu
  exact (h j hj).1.1

def JoinOk (n : Int) (l : List ShardD) : Prop := 0 ≤ n ∧ n ≤ 150 ∧ jn1 l l.length ∧ lastH l l.length = n ∧ edSum l ≤ 400 ∧ okL n (edSum l) (allE l)

theorem jx1 {n : Int} {l : List ShardD} (h : n < 0 ∨ 150 < n) : ¬ JoinOk n l := fun hj => by
  have h1 := hj.1; have h2 := hj.2.1; omega
theorem jx2 {n : Int} {l : List ShardD} (h : (lastH l l.length ≠ n ∨ 400 < edSum l) ∨ n < 0 ∨ 150 < n) : ¬ JoinOk n l := fun hj => by
  have h1 := hj.1; have h2 := hj.2.1; have h3 := hj.2.2.2.1; have h4 := hj.2.2.2.2.1; omega
theorem okL_hit {n : Int} {m : Nat} {L : List SEdgeD} {y u : SEdgeD} {z : Nat} (ho : okL n m L) (h1 : u ∈ L) (h2 : u.Index.toNat = z) (hz : y.Index = (z : Int)) : ¬ okL n m (L ++ [y]) := fun h => by
  have h3 := okL_nn ho h1
  exact (okL_snoc.1 h).2.2 u h1 (by omega)

def booK (b : Bool) : List DC := [.v (.bool b)]
def seenL (m : Nat) (L : List SEdgeD) : List Bool := L.foldl (fun a e => a.set e.Index.toNat true) (List.replicate m false)
def edgesL (m : Nat) (L : List SEdgeD) : List EdgeD := L.foldl (fun a e => a.set e.Index.toNat ⟨e.From, e.To, e.W⟩) (List.replicate m ⟨0, 0, 0⟩)
theorem seenL_snoc (m : Nat) (L : List SEdgeD) (y : SEdgeD) : seenL m (L ++ [y]) = (seenL m L).set y.Index.toNat true := by
  unfold seenL; rw [List.foldl_append]; rfl
theorem edgesL_snoc (m : Nat) (L : List SEdgeD) (y : SEdgeD) : edgesL m (L ++ [y]) = (edgesL m L).set y.Index.toNat ⟨y.From, y.To, y.W⟩ := by
  unfold edgesL; rw [List.foldl_append]; rfl
theorem seenL_len (m : Nat) (L : List SEdgeD) : (seenL m L).length = m := by
  unfold seenL
  have : ∀ (L : List SEdgeD) (a : List Bool), (L.foldl (fun a e => a.set e.Index.toNat true) a).length = a.length := by
    intro L
    induction L with
    | nil => intro a; rfl
    | cons e L ih => intro a; rw [List.foldl_cons, ih]; simp
  rw [this]; simp
theorem edgesL_len (m : Nat) (L : List SEdgeD) : (edgesL m L).length = m := by
  unfold edgesL
  have : ∀ (L : List SEdgeD) (a : List EdgeD), (L.foldl (fun a e => a.set e.Index.toNat ⟨e.From, e.To, e.W⟩) a).length = a.length := by
    intro L
    induction L with
    | nil => intro a; rfl
    | cons e L ih => intro a; rw [List.foldl_cons, ih]; simp
  rw [this]; simp
theorem seenL_get (m : Nat) (L : List SEdgeD) (x : Nat) (hx : x < (seenL m L).length) : (seenL m L)[x] = true ↔ ∃ z ∈ L, z.Index.toNat = x := by
  have key : ∀ (L : List SEdgeD) (a : List Bool) (hx : x < a.length), (L.foldl (fun a e => a.set e.Index.toNat true) a)[x]? = some true ↔ a[x] = true ∨ ∃ z ∈ L, z.Index.toNat = x := by
    intro L
    induction L with
    | nil => intro a hx; simp [hx]
    | cons e L ih =>
      intro a hx
      rw [List.foldl_cons, ih _ (by simpa using hx), List.getElem_set]
      by_cases he : e.Index.toNat = x
      · simp [he]
      · simp [he]
  have h2 := key L (List.replicate m false) (by rw [seenL_len] at hx; simpa using hx)
  have h3 : (seenL m L)[x]? = some (seenL m L)[x] := List.getElem?_eq_getElem hx
  unfold seenL at h3
  rw [h3] at h2
  unfold seenL
  simpa using h2
theorem seenL_set {m : Nat} {L : List SEdgeD} {y : SEdgeD} {x : Nat} (hx : y.Index = (x : Int)) : ((seenL m L).map booK).set x [.v (.bool true)] = (seenL m (L ++ [y])).map booK := by
  rw [seenL_snoc, hx, Int.toNat_natCast, List.map_set]; rfl
theorem edgesL_set {m : Nat} {L : List SEdgeD} {y : SEdgeD} {x : Nat} (hx : y.Index = (x : Int)) : ((edgesL m L).map EdgeD.k).set x [.v (.int .i64 y.From), .v (.int .i64 y.To), .v (.int .i64 y.W)] = (edgesL m (L ++ [y])).map EdgeD.k := by
  rw [edgesL_snoc, hx, Int.toNat_natCast, List.map_set]; rfl
theorem allE_pre {l : List ShardD} {p i : Nat} (hp : p < l.length) (hi : i < l[p].Edges.length) : ∃ B, allE l = ((allE (l.take p) ++ l[p].Edges.take i) ++ [l[p].Edges[i]]) ++ B := by
  refine ⟨l[p].Edges.drop (i + 1) ++ allE (l.drop (p + 1)), ?_⟩
  have e1 : l = l.take p ++ (l[p] :: l.drop (p + 1)) := by rw [List.getElem_cons_drop]; simp
  have e2 : l[p].Edges = l[p].Edges.take i ++ (l[p].Edges[i] :: l[p].Edges.drop (i + 1)) := by rw [List.getElem_cons_drop]; simp
  have e3 : allE l = allE (l.take p) ++ (l[p].Edges ++ allE (l.drop (p + 1))) := by
    conv => lhs; rw [e1]
    unfold allE
    rw [List.flatMap_append, List.flatMap_cons]
  have e4 : l[p].Edges ++ allE (l.drop (p + 1)) = l[p].Edges.take i ++ ([l[p].Edges[i]] ++ (l[p].Edges.drop (i + 1) ++ allE (l.drop (p + 1)))) := by
    conv => lhs; rw [e2]
    simp only [List.append_assoc, List.cons_append, List.nil_append]
  rw [e3, e4]
  simp only [List.append_assoc]
theorem join_bad {n : Int} {l : List ShardD} {p i : Nat} (hp : p < l.length) (hi : i < l[p].Edges.length) (h : ¬ okL n (edSum l) ((allE (l.take p) ++ l[p].Edges.take i) ++ [l[p].Edges[i]])) : ¬ JoinOk n l := fun hj => by
  obtain ⟨B, hB⟩ := allE_pre hp hi
  have := hj.2.2.2.2.2
  rw [hB] at this
  exact h (okL_pre this)

end Go.Proofs.Ytfnhchcgieeedaa

namespace Go.Proofs.Ytfnhchcgieeedaa
set_option linter.unusedSimpArgs false
set_option linter.unusedVariables false
set_option linter.defProp false
set_option maxRecDepth 20000
open Go.RowKit

end Go.Proofs.Ytfnhchcgieeedaa

namespace Go.Proofs.Ytfnhchcgieeedaa
set_option linter.unusedSimpArgs false
set_option linter.unusedVariables false
set_option linter.defProp false
set_option maxRecDepth 20000
open Go.RowKit

def farTo (l : List SEdgeD) (k : Nat) : Prop := ∀ i (h : i < l.length), i < k → l[i].Val ≤ 1099511627776
theorem farTo_zero (l : List SEdgeD) : farTo l 0 := fun i h hi => absurd hi (by omega)
theorem farTo_succ {l : List SEdgeD} {k : Nat} (h : farTo l k) (hk : k < l.length) (hv : l[k].Val ≤ 1099511627776) : farTo l (k + 1) := fun i hi hik => by
  by_cases e : i = k
  · subst e; exact hv
  · exact h i hi (by omega)
theorem far_all {l : List SEdgeD} (h : farTo l l.length) : ∀ y ∈ l, y.Val ≤ 1099511627776 := fun y hy => by
  obtain ⟨i, hi, rfl⟩ := List.mem_iff_getElem.1 hy
  exact h i hi hi
def farmTo (f : FarmD) (k : Nat) : Prop := ∀ i (h : i < f.Shards.length), i < k → f.Shards[i].Lo = lastE f.Ends i ∧ (∀ h2 : i < f.Ends.length, f.Shards[i].Hi = f.Ends[i]) ∧ ∀ y ∈ f.Shards[i].Edges, y.Val ≤ 1099511627776
theorem farmTo_zero (f : FarmD) : farmTo f 0 := fun i h hi => absurd hi (by omega)
theorem farmTo_succ {f : FarmD} {k : Nat} (h : farmTo f k) (hk : k < f.Shards.length) (h1 : f.Shards[k].Lo = lastE f.Ends k) (h2 : ∀ h2 : k < f.Ends.length, f.Shards[k].Hi = f.Ends[k]) (h3 : ∀ y ∈ f.Shards[k].Edges, y.Val ≤ 1099511627776) : farmTo f (k + 1) := fun i hi hik => by
  by_cases e : i = k
  · subst e; exact ⟨h1, h2, h3⟩
  · exact h i hi (by omega)
def FarmOk (f : FarmD) : Prop := EndsOk f.N f.Ends ∧ f.Shards.length = f.Ends.length ∧ farmTo f f.Shards.length ∧ JoinOk f.N f.Shards

end Go.Proofs.Ytfnhchcgieeedaa

namespace Go.Proofs.Ytfnhchcgieeedaa
set_option linter.unusedSimpArgs false
set_option linter.unusedVariables false
set_option linter.defProp false
set_option maxRecDepth 20000
open Go.RowKit

def valsL (m : Nat) (L : List SEdgeD) : List Int := L.foldl (fun a e => a.set e.Index.toNat e.Val) (List.replicate m 0)
theorem valsL_snoc (m : Nat) (L : List SEdgeD) (y : SEdgeD) : valsL m (L ++ [y]) = (valsL m L).set y.Index.toNat y.Val := by
  unfold valsL; rw [List.foldl_append]; rfl
theorem valsL_len (m : Nat) (L : List SEdgeD) : (valsL m L).length = m := by
  unfold valsL
  have : ∀ (L : List SEdgeD) (a : List Int), (L.foldl (fun a e => a.set e.Index.toNat e.Val) a).length = a.length := by
    intro L
    induction L with
    | nil => intro a; rfl
    | cons e L ih => intro a; rw [List.foldl_cons, ih]; simp
  rw [this]; simp
theorem valsL_set {m : Nat} {L : List SEdgeD} {y : SEdgeD} {x : Nat} (hx : y.Index = (x : Int)) : ((valsL m L).map intK).set x [.v (.int .i64 y.Val)] = (valsL m (L ++ [y])).map intK := by
  rw [valsL_snoc, hx, Int.toNat_natCast, List.map_set]; rfl
theorem okL_at {n : Int} {m : Nat} {l : List ShardD} (h : okL n m (allE l)) {p i : Nat} (hp : p < l.length) (hi : i < l[p].Edges.length) : 0 ≤ l[p].Edges[i].Index ∧ l[p].Edges[i].Index < m := by
  obtain ⟨B, hB⟩ := allE_pre hp hi
  rw [hB] at h
  have h2 := (okL_snoc.1 (okL_pre h)).2.1
  exact ⟨h2.1, h2.2.2⟩

end Go.Proofs.Ytfnhchcgieeedaa

namespace Go.Proofs.Ytfnhchcgieeedaa
set_option linter.unusedSimpArgs false
set_option linter.unusedVariables false
set_option linter.defProp false
set_option maxRecDepth 20000
open Go.RowKit

theorem jn1_ge {l : List ShardD} : ∀ {k : Nat}, jn1 l k → k ≤ l.length → (k : Int) ≤ lastH l k
  | 0, _, _ => by rw [lastH_zero]; simp
  | k + 1, h, hk => by
    have ih := jn1_ge (k := k) (fun i hi hik => h i hi (by omega)) (by omega)
    obtain ⟨a, b⟩ := h k (by omega) (by omega)
    have c := a.1
    unfold shHead at c
    rw [lastH_succ (by omega)]
    omega
structure GfOk (f : FarmD) : Prop where
  n : 0 ≤ f.N ∧ f.N ≤ 150
  l : f.Shards.length ≤ 150
  e : f.Ends.length = f.Shards.length
  s : ∀ i (h : i < f.Shards.length), ShOk f.Shards[i]
  c : edSum f.Shards ≤ 400
theorem gf_ok {f : FarmD} (h : FarmOk f) : GfOk f := by
  obtain ⟨_, h2, _, h4⟩ := h
  obtain ⟨a, b, c, d, e, _⟩ := h4
  have := jn1_ge c (Nat.le_refl _)
  exact ⟨⟨a, b⟩, by omega, h2.symm, fun i hi => (c i hi hi).1, e⟩

end Go.Proofs.Ytfnhchcgieeedaa
