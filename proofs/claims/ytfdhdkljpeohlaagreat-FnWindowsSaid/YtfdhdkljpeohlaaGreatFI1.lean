/-
  Farms keep valid when values are put in; places of a part can be written. Plain, no conditions of its own.
-/
import Derived.Test.YtfdhdkljpeohlaaGreatMLD
import Derived.Test.YtfdhdkljpeohlaaGreatMQB
namespace Go.Proofs.YtfdhdkljpeohlaaGreat
set_option linter.unusedSimpArgs false
set_option linter.unusedVariables false
set_option linter.unusedSimpArgs false
set_option linter.unusedVariables false
set_option linter.defProp false
set_option maxRecDepth 20000
open Go.RowKit

theorem map_get {α β : Type} {f : α → β} {l m : List α} (h : l.map f = m.map f) {i : Nat} (hi : i < l.length) (hm : i < m.length) : f l[i] = f m[i] := by
  have := congrArg (fun l => l[i]?) h
  simp only [List.getElem?_map, List.getElem?_eq_getElem hi, List.getElem?_eq_getElem hm, Option.map_some, Option.some.injEq] at this
  exact this
theorem skE_out {e y : SEdgeD} (h : skE e = skE y) : e.From = y.From ∧ e.To = y.To ∧ e.W = y.W ∧ e.Index = y.Index := by
  unfold skE at h
  simp only [SEdgeD.mk.injEq] at h
  exact ⟨h.1, h.2.1, h.2.2.1, h.2.2.2.1⟩
theorem sk_sum : ∀ {l m : List ShardD}, l.map skS = m.map skS → edSum l = edSum m
  | [], [], _ => rfl
  | [], _ :: _, h => by simp at h
  | _ :: _, [], h => by simp at h
  | s :: l, t :: m, h => by
    simp only [List.map_cons, List.cons.injEq] at h
    show s.Edges.length + edSum l = t.Edges.length + edSum m
    rw [sk_sum h.2, (skS_len h.1).1]
theorem sk_allE : ∀ {l m : List ShardD}, l.map skS = m.map skS → (allE l).map skE = (allE m).map skE
  | [], [], _ => rfl
  | [], _ :: _, h => by simp at h
  | _ :: _, [], h => by simp at h
  | s :: l, t :: m, h => by
    simp only [List.map_cons, List.cons.injEq] at h
    have ih := sk_allE h.2
    have h1 := h.1
    unfold skS at h1
    simp only [ShardD.mk.injEq] at h1
    unfold allE at ih ⊢
    rw [List.flatMap_cons, List.flatMap_cons, List.map_append, List.map_append, ih, h1.2.2]
theorem sk_hi {l m : List ShardD} (h : l.map skS = m.map skS) (k : Nat) : lastH l k = lastH m k := by
  have e : l.map (·.Hi) = m.map (·.Hi) := by
    have := congrArg (List.map (·.Hi)) h
    simpa [List.map_map, Function.comp_def, skS] using this
  unfold lastH; rw [e]
def valsIn (l : List ShardD) : Prop := ∀ s ∈ l, ∀ e ∈ s.Edges, 0 ≤ e.Val ∧ e.Val ≤ 1099511627776
theorem sk_sh {s t : ShardD} (h : skS s = skS t) (ht : ShOk t) (hv : ∀ e ∈ s.Edges, 0 ≤ e.Val ∧ e.Val ≤ 1099511627776) : ShOk s := by
  obtain ⟨l1, l2, l3⟩ := skS_len h
  have he : s.Edges.map skE = t.Edges.map skE := by unfold skS at h; simp only [ShardD.mk.injEq] at h; exact h.2.2
  obtain ⟨h1, h2⟩ := ht
  refine ⟨?_, fun i hi _ => ?_⟩
  · unfold shHead at h1 ⊢; rw [l1, l2, l3]; exact h1
  · obtain ⟨q1, q2⟩ := h2 i (by omega) (by omega)
    obtain ⟨a1, a2, a3, a4⟩ := skE_out (map_get he hi (by omega))
    have hvi := hv _ (List.getElem_mem hi)
    constructor
    · unfold edOk at q1 ⊢
      rw [a1, a2, a3, a4, l2, l3]
      omega
    · intro h0
      have q3 : ordOk (t.Edges[i - 1]'(by omega)) (t.Edges[i]'(by omega)) := q2 h0
      obtain ⟨b1, b2, b3, b4⟩ := skE_out (map_get he (i := i - 1) (by omega) (by omega))
      unfold ordOk at q3 ⊢
      rw [b1, b4, a1, a4]
      exact q3
theorem okL_sk {n : Int} {m : Nat} {L M : List SEdgeD} (h : L.map skE = M.map skE) (ho : okL n m M) : okL n m L := by
  have hl : L.length = M.length := by have := congrArg List.length h; simpa using this
  intro i hi
  obtain ⟨q1, q2⟩ := ho i (by omega)
  obtain ⟨a1, a2, a3, a4⟩ := skE_out (map_get h hi (by omega))
  rw [a1, a4]
  refine ⟨q1, fun j hj => ?_⟩
  obtain ⟨b1, b2, b3, b4⟩ := skE_out (map_get h (i := j) (by omega) (by omega))
  rw [b4]; exact q2 j hj
theorem farm_sk {f : FarmD} {l : List ShardD} (h : FarmOk f) (hs : l.map skS = f.Shards.map skS) (hv : valsIn l) : FarmOk ⟨f.N, f.Ends, l⟩ := by
  obtain ⟨h1, h2, h3, h4⟩ := h
  have hl := sk_len hs
  obtain ⟨j1, j2, j3, j4, j5, j6⟩ := h4
  refine ⟨h1, by dsimp only; omega, fun i hi _ => ?_, j1, j2, fun i hi _ => ?_, ?_, ?_, ?_⟩
  · dsimp only at hi ⊢
    obtain ⟨a, b, c⟩ := h3 i (by omega) (by omega)
    obtain ⟨_, l2, l3⟩ := skS_len (sk_edges hs hi)
    exact ⟨by rw [l2]; exact a, fun h => by rw [l3]; exact b h, fun y hy => (hv _ (List.getElem_mem hi) y hy).2⟩
  · dsimp only at hi ⊢
    obtain ⟨a, b⟩ := j3 i (by omega) (by omega)
    obtain ⟨_, l2, l3⟩ := skS_len (sk_edges hs hi)
    exact ⟨sk_sh (sk_edges hs hi) a (hv _ (List.getElem_mem hi)), by rw [l2, sk_hi hs]; exact b⟩
  · dsimp only
    rw [hl, sk_hi hs]; exact j4
  · dsimp only
    rw [sk_sum hs]; exact j5
  · dsimp only
    rw [sk_sum hs]; exact okL_sk (sk_allE hs) j6
theorem farm_vals {f : FarmD} (h : FarmOk f) : valsIn f.Shards := fun s hs e he => by
  obtain ⟨i, hi, rfl⟩ := List.getElem_of_mem hs
  obtain ⟨k, hk, rfl⟩ := List.getElem_of_mem he
  have a := (h.2.2.1 i hi hi).2.2 _ (List.getElem_mem hk)
  have b := ((h.2.2.2.2.2.1 i hi hi).1.2 k hk hk).1
  unfold edOk at b
  omega
theorem ptL_vals : ∀ {xs : List LocD} {l : List ShardD}, valsIn l → (∀ x ∈ xs, 0 ≤ x.Edge.Val ∧ x.Edge.Val ≤ 1099511627776) → valsIn (ptL l xs)
  | [], l, h, _ => h
  | x :: xs, l, h, hx => by
    refine ptL_vals (xs := xs) (l := l.modify x.Shard.toNat (ptS x)) (fun s hs e he => ?_) fun y hy => hx y (.tail _ hy)
    obtain ⟨i, hi, rfl⟩ := List.getElem_of_mem hs
    rw [List.getElem_modify] at he
    have hil : i < l.length := by simpa using hi
    split at he
    · rcases List.mem_or_eq_of_mem_set he with he | rfl
      · exact h _ (List.getElem_mem hil) e he
      · exact hx x (.head _)
    · exact h _ (List.getElem_mem hil) e he
theorem put_ok {f : FarmD} {xs : List LocD} (h : PutOk f xs) : FarmOk ⟨f.N, f.Ends, ptL f.Shards xs⟩ ∧ (ptL f.Shards xs).map skS = f.Shards.map skS := by
  have hs := ptL_sk h.2 (Nat.le_refl _)
  rw [List.take_length] at hs
  exact ⟨farm_sk h.1 hs (ptL_vals (farm_vals h.1) fun x hx => by
    obtain ⟨i, hi, rfl⟩ := List.getElem_of_mem hx
    have := h.2 i hi hi
    exact ⟨this.2.2.1, this.2.2.2.1⟩), hs⟩

/-- A place of a shard. -/
theorem plcAt_mem {k : Nat} {s : ShardD} {a n : Nat} (h : a + n ≤ s.Edges.length) {x : LocD} (hx : x ∈ plcAt k s a n) : x.Shard = (k : Int) ∧ ∃ i, ∃ hi : i < s.Edges.length, x.At = (i : Int) ∧ x.Edge = s.Edges[i] := by
  unfold plcAt at hx
  obtain ⟨i, hi, rfl⟩ := List.mem_map.1 hx
  rw [List.mem_range] at hi
  have h2 : a + i < s.Edges.length := by omega
  refine ⟨rfl, a + i, h2, rfl, ?_⟩
  dsimp only
  rw [List.getD_eq_getElem?_getD, List.getElem?_eq_getElem h2]; rfl
theorem locsTo_mem {l : List ShardD} {p : Nat} {lo hi : Int} (hlh : lo ≤ hi) {x : LocD} : ∀ {k : Nat}, k ≤ l.length → x ∈ locsTo l p lo hi k → ∃ n, ∃ hn : n < l.length, x.Shard = (n : Int) ∧ ∃ i, ∃ hi : i < l[n].Edges.length, x.At = (i : Int) ∧ x.Edge = l[n].Edges[i]
  | 0, _, h => by simp [locsTo] at h
  | k + 1, hk, h => by
    have hkl : k < l.length := hk
    rw [locsTo_succ hkl, List.mem_append] at h
    rcases h with h | h
    · exact locsTo_mem (l := l) hlh (by omega) h
    · have h1 := wi_le (p := p) (k := k) (s := l[k]) hlh
      have h2 := wiB_le (p := p) (k := k) (hi := hi) (s := l[k])
      obtain ⟨q1, q2⟩ := plcAt_mem (by omega) h
      exact ⟨k, hkl, q1, q2⟩
theorem sub_mem {f : FarmD} {p : Nat} {lo hi : Int} (hlh : lo ≤ hi) {x : LocD} (h : x ∈ (subO f p lo hi).Locs) : ∃ n, ∃ hn : n < f.Shards.length, x.Shard = (n : Int) ∧ ∃ i, ∃ hi : i < f.Shards[n].Edges.length, x.At = (i : Int) ∧ x.Edge = f.Shards[n].Edges[i] := by
  have h1 := (insAll_perm (locsTo f.Shards p lo hi f.Shards.length) []).subset h
  rw [List.append_nil] at h1
  exact locsTo_mem (l := f.Shards) hlh (Nat.le_refl _) h1
theorem sub_edge {f : FarmD} (hf : FarmOk f) {p : Nat} {lo hi : Int} (hlh : lo ≤ hi) {x : LocD} (h : x ∈ (subO f p lo hi).Locs) : (0 ≤ x.Edge.W ∧ x.Edge.W ≤ 1000) ∧ (0 ≤ x.Edge.Val ∧ x.Edge.Val ≤ 1099511627776) ∧ (0 ≤ x.Edge.From ∧ x.Edge.From < f.N) ∧ 0 ≤ x.Edge.To ∧ x.Edge.To < 150 := by
  obtain ⟨n, hn, _, i, hi, _, e⟩ := sub_mem hlh h
  have b := ((hf.2.2.2.2.2.1 n hn hn).1.2 i hi hi).1
  have c := farm_vals hf _ (List.getElem_mem hn) _ (List.getElem_mem hi)
  have d := hf.2.2.2.2.2.2.2.2
  have hm : f.Shards[n].Edges[i] ∈ allE f.Shards := by
    unfold allE
    exact List.mem_flatMap.2 ⟨_, List.getElem_mem hn, List.getElem_mem hi⟩
  obtain ⟨j, hj, ej⟩ := List.getElem_of_mem hm
  have := (d j hj).1
  have hh := (hf.2.2.2.2.2.1 n hn hn).1.1
  unfold shHead at hh
  rw [ej] at this
  unfold edOk at b
  rw [e]
  omega
/-- Places of a part, with other values, can be written. -/
theorem sub_put {f : FarmD} (hf : FarmOk f) {p : Nat} {lo hi : Int} (hlh : lo ≤ hi) {xs : List LocD} (hxs : ∀ x ∈ xs, (0 ≤ x.Edge.Val ∧ x.Edge.Val ≤ 1099511627776) ∧ ∃ y ∈ (subO f p lo hi).Locs, x.Shard = y.Shard ∧ x.At = y.At ∧ skE x.Edge = skE y.Edge) : PutOk f xs := by
  refine ⟨hf, fun k hk _ => ?_⟩
  obtain ⟨⟨v1, v2⟩, y, hy, a, b, c⟩ := hxs _ (List.getElem_mem hk)
  obtain ⟨n, hn, e1, i, hi, e2, e3⟩ := sub_mem hlh hy
  have s1 : xs[k].Shard.toNat = n := by omega
  have s2 : xs[k].At.toNat = i := by omega
  refine ⟨by omega, by omega, v1, v2, by omega, ?_⟩
  simp only [s1, s2]
  exact ⟨hi, by rw [← e3, c]⟩

theorem farm_L {f : FarmD} (h : FarmOk f) : f.Ends.length ≤ 1048576 ∧ f.Shards.length ≤ 1048576 ∧ ∀ s ∈ f.Shards, s.Edges.length ≤ 1048576 := by
  have g := gf_ok h
  have gl := g.l
  have ge := g.e
  refine ⟨by omega, by omega, fun s hs => ?_⟩
  obtain ⟨i, hi, rfl⟩ := List.getElem_of_mem hs
  have := (g.s i hi).1.2.2.2
  omega

end Go.Proofs.YtfdhdkljpeohlaaGreat

