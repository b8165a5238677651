/-
  Values written to farms: plain; by the program. No conditions of its own.
-/
import Derived.Test.YtfkpmhnfpljakaaQ1
import Derived.Test.YtfkpmhnfpljakaaG2
import Derived.Laws.StructEq
namespace Go.Proofs.Ytfkpmhnfpljakaa
set_option linter.unusedSimpArgs false
set_option linter.unusedVariables false
set_option linter.unusedSimpArgs false
set_option linter.unusedVariables false
set_option linter.defProp false
set_option maxRecDepth 20000
open Go.RowKit
attribute [local irreducible] lexD

theorem eq_sedge : eqFive Try.prog 98 := by
  refine ⟨by kernel_rfl, fun a b c d e a' b' c' d' e' w => ?_⟩
  have u3 := Try.underlying3
  have hS : Try.prog.underlying 98 = some (.struct (Try.prog.fieldsOf 98)) := by kernel_rfl
  have hp : Try.prog.stoodInHeld 98 = false := by kernel_rfl
  rw [show (10000 : Nat) = 9999 + 1 from rfl, run_equalIn_agg w 9999 98 _ _ hS hp]
  simp only [Program.fieldsOf, Try.underlying98]
  go_simp
  by_cases h1 : a = a' <;> by_cases h2 : b = b' <;> by_cases h3 : c = c' <;> by_cases h4 : d = d' <;> by_cases h5 : e = e' <;> simp [h1, h2, h3, h4, h5]

/-- What of an edge does not change. -/
def skE (e : SEdgeD) : SEdgeD := { e with Val := 0 }
def skS (s : ShardD) : ShardD := ⟨s.Lo, s.Hi, s.Edges.map skE⟩
def ptS (x : LocD) (s : ShardD) : ShardD := ⟨s.Lo, s.Hi, s.Edges.set x.At.toNat x.Edge⟩
def ptL (l : List ShardD) (xs : List LocD) : List ShardD := xs.foldl (fun l x => l.modify x.Shard.toNat (ptS x)) l
/-- A place that can be written. -/
def ptOk (l : List ShardD) (x : LocD) : Prop := 0 ≤ x.Shard ∧ 0 ≤ x.At ∧ 0 ≤ x.Edge.Val ∧ x.Edge.Val ≤ 1099511627776 ∧ ∃ h : x.Shard.toNat < l.length, ∃ h2 : x.At.toNat < (l[x.Shard.toNat]).Edges.length, skE ((l[x.Shard.toNat]).Edges[x.At.toNat]) = skE x.Edge
theorem ptL_snoc (l : List ShardD) (xs : List LocD) (x : LocD) : ptL l (xs ++ [x]) = (ptL l xs).modify x.Shard.toNat (ptS x) := by
  unfold ptL; rw [List.foldl_append]; rfl
theorem ptOk_sk {l m : List ShardD} (h : l.map skS = m.map skS) {x : LocD} (hx : ptOk l x) : ptOk m x := by
  obtain ⟨h1, h2, h3, h4, h5, h6, h7⟩ := hx
  have hl : l.length = m.length := by have := congrArg List.length h; simpa using this
  have hs : skS (l[x.Shard.toNat]) = skS (m[x.Shard.toNat]'(by omega)) := by
    have := congrArg (fun l => l[x.Shard.toNat]?) h
    simp only [List.getElem?_map, List.getElem?_eq_getElem h5, List.getElem?_eq_getElem (show x.Shard.toNat < m.length by omega), Option.map_some, Option.some.injEq] at this
    exact this
  unfold skS at hs
  simp only [ShardD.mk.injEq] at hs
  have hel : (l[x.Shard.toNat]).Edges.length = (m[x.Shard.toNat]'(by omega)).Edges.length := by have := congrArg List.length hs.2.2; simpa using this
  refine ⟨h1, h2, h3, h4, by omega, by omega, ?_⟩
  have := congrArg (fun l => l[x.At.toNat]?) hs.2.2
  simp only [List.getElem?_map, List.getElem?_eq_getElem h6, List.getElem?_eq_getElem (show x.At.toNat < (m[x.Shard.toNat]'(by omega)).Edges.length by omega), Option.map_some, Option.some.injEq] at this
  rw [← this]; exact h7
theorem ptS_sk {l : List ShardD} {x : LocD} (hx : ptOk l x) : (l.modify x.Shard.toNat (ptS x)).map skS = l.map skS := by
  obtain ⟨_, _, _, _, h5, h6, h7⟩ := hx
  apply List.ext_getElem?
  intro j
  rw [List.getElem?_map, List.getElem?_map, List.getElem?_modify]
  by_cases hj : x.Shard.toNat = j
  · subst hj
    rw [List.getElem?_eq_getElem h5]
    show some (skS (if x.Shard.toNat = x.Shard.toNat then ptS x l[x.Shard.toNat] else l[x.Shard.toNat])) = some (skS l[x.Shard.toNat])
    rw [if_pos rfl]
    congr 1
    unfold ptS skS
    simp only [ShardD.mk.injEq, true_and]
    rw [List.map_set, ← h7]
    apply List.ext_getElem?
    intro i
    rw [List.getElem?_set]
    split
    · rename_i hi
      subst hi
      rw [if_pos (by simpa using h6), List.getElem?_map, List.getElem?_eq_getElem h6]; rfl
    · rfl
  · cases l[j]? with
    | none => rfl
    | some y => show some (skS (if x.Shard.toNat = j then ptS x y else y)) = some (skS y); rw [if_neg hj]
/-- All places up to k can be written. -/
def ptAll (l : List ShardD) (xs : List LocD) (k : Nat) : Prop := ∀ i (h : i < xs.length), i < k → ptOk l xs[i]
theorem ptAll_succ {l : List ShardD} {xs : List LocD} {k : Nat} (h : ptAll l xs k) (hk : k < xs.length) (hx : ptOk l xs[k]) : ptAll l xs (k + 1) := fun i hi hik => by
  by_cases e : i = k
  · subst e; exact hx
  · exact h i hi (by omega)
theorem ptL_sk {l : List ShardD} {xs : List LocD} : ∀ {k : Nat}, ptAll l xs k → k ≤ xs.length → (ptL l (xs.take k)).map skS = l.map skS
  | 0, _, _ => by simp [ptL]
  | k + 1, h, hk => by
    have ih := ptL_sk (k := k) (fun i hi hik => h i hi (by omega)) (by omega)
    rw [List.take_succ_eq_append_getElem (by omega), ptL_snoc, ptS_sk (ptOk_sk ih.symm (h k (by omega) (by omega)))]
    exact ih
theorem sk_len {l m : List ShardD} (h : l.map skS = m.map skS) : l.length = m.length := by have := congrArg List.length h; simpa using this
theorem sk_edges {l m : List ShardD} (h : l.map skS = m.map skS) {i : Nat} (hi : i < l.length) : skS l[i] = skS (m[i]'(by rw [← sk_len h]; exact hi)) := by
  have hl := sk_len h
  have := congrArg (fun l => l[i]?) h
  simp only [List.getElem?_map, List.getElem?_eq_getElem hi, List.getElem?_eq_getElem (show i < m.length by omega), Option.map_some, Option.some.injEq] at this
  exact this
theorem skS_len {s t : ShardD} (h : skS s = skS t) : s.Edges.length = t.Edges.length ∧ s.Lo = t.Lo ∧ s.Hi = t.Hi := by
  unfold skS at h
  simp only [ShardD.mk.injEq] at h
  refine ⟨?_, h.1, h.2.1⟩
  have := congrArg List.length h.2.2
  simpa using this

def PutOk (f : FarmD) (xs : List LocD) : Prop := FarmOk f ∧ ptAll f.Shards xs xs.length
noncomputable def puB (f : FarmD) (xs : List LocD) : Bool := pB (PutOk f xs)
noncomputable def puR (f : FarmD) (xs : List LocD) : FarmD := if pB (PutOk f xs) then ⟨f.N, f.Ends, ptL f.Shards xs⟩ else ⟨0, [], []⟩
theorem pu_no {f : FarmD} {xs : List LocD} (h : ¬ PutOk f xs) : puR f xs = ⟨0, [], []⟩ ∧ puB f xs = false := by
  unfold puR puB; rw [pB_f h]; exact ⟨rfl, rfl⟩
theorem pu_yes {f : FarmD} {xs : List LocD} (h : PutOk f xs) : puR f xs = ⟨f.N, f.Ends, ptL f.Shards xs⟩ ∧ puB f xs = true := by
  unfold puR puB; rw [pB_t h]; exact ⟨rfl, rfl⟩
theorem pt_no {f : FarmD} {xs : List LocD} {k : Nat} (hk : k < xs.length) (h : ¬ ptOk f.Shards xs[k]) : ¬ PutOk f xs := fun hp => h (hp.2 k hk hk)
theorem pt_set {T : Nat} {L : List ShardD} {y : LocD} {n a : Nat} (hn : y.Shard = (n : Int)) (ha : y.At = (a : Int)) (h : n < L.length) :
    (L.map (ShardD.k T)).set n [.v (.int .i64 (L[n]).Lo), .v (.int .i64 (L[n]).Hi), .sl T 5 (((L[n]).Edges.map SEdgeD.k).set a (SEdgeD.k y.Edge))] = (L.modify y.Shard.toNat (ptS y)).map (ShardD.k T) := by
  rw [hn, Int.toNat_natCast, modify_set' _ _ h, List.map_set]
  congr 1
  unfold ptS ShardD.k
  rw [ha, Int.toNat_natCast, List.map_set]

end Go.Proofs.Ytfkpmhnfpljakaa
