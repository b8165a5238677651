/-
  Values in farms are found again. Plain, no conditions of its own.
-/
import Derived.Test.YtcbnfkbnbdbfoaaFI1
import Derived.Test.YtcbnfkbnbdbfoaaN11
namespace Go.Proofs.Ytcbnfkbnbdbfoaa
set_option linter.unusedSimpArgs false
set_option linter.unusedVariables false
set_option linter.unusedSimpArgs false
set_option linter.unusedVariables false
set_option linter.defProp false
set_option maxRecDepth 20000
open Go.RowKit

theorem nodup_le {α : Type} [DecidableEq α] : ∀ {l m : List α}, l.Nodup → (∀ x ∈ l, x ∈ m) → l.length ≤ m.length
  | [], _, _, _ => Nat.zero_le _
  | a :: l, m, h, hs => by
    obtain ⟨h1, h2⟩ := List.nodup_cons.1 h
    have ha : a ∈ m := hs a (.head _)
    have := nodup_le (l := l) (m := m.erase a) h2 fun x hx => (List.mem_erase_of_ne (fun e => h1 (by rw [← e]; exact hx))).2 (hs x (.tail _ hx))
    rw [List.length_erase_of_mem ha] at this
    have := List.length_pos_of_mem ha
    simp only [List.length_cons]
    omega
/-- m different numbers below m are all of them. -/
theorem nodup_all {m : Nat} {l : List Nat} (h : l.Nodup) (hl : l.length = m) (hb : ∀ x ∈ l, x < m) : ∀ i, i < m → i ∈ l := fun i hi => by
  by_cases hm : i ∈ l
  · exact hm
  · have h2 : (i :: l).Nodup := List.nodup_cons.2 ⟨hm, h⟩
    have := nodup_le (m := List.range m) h2 fun x hx => by
      rw [List.mem_range]
      rcases List.mem_cons.1 hx with rfl | hx
      · exact hi
      · exact hb x hx
    simp at this
    omega
theorem okL_all {n : Int} {m : Nat} {L : List SEdgeD} (h : okL n m L) (hl : L.length = m) : ∀ i, i < m → ∃ e ∈ L, e.Index = (i : Int) := fun i hi => by
  have h1 : (L.map (·.Index.toNat)).Nodup := by
    unfold List.Nodup
    rw [List.pairwise_iff_getElem]
    intro a b ha hb hab
    rw [List.getElem_map, List.getElem_map]
    have hb' : b < L.length := by simpa using hb
    have ha' : a < L.length := by omega
    have q1 := (h b hb').2 a hab
    have q2 := (h b hb').1.1
    have q3 := (h a ha').1.1
    omega
  obtain ⟨e, he, hei⟩ := List.mem_map.1 (nodup_all h1 (by simpa using hl) (fun x hx => by
    obtain ⟨e, he, rfl⟩ := List.mem_map.1 hx
    obtain ⟨j, hj, rfl⟩ := List.getElem_of_mem he
    have := (h j hj).1
    omega) i hi)
  obtain ⟨j, hj, rfl⟩ := List.getElem_of_mem he
  have := (h j hj).1.1
  exact ⟨_, he, by omega⟩
/-- The value of an edge stands at its index. -/
theorem valsL_get {n : Int} {m : Nat} : ∀ (L : List SEdgeD), okL n m L → ∀ e ∈ L, (valsL m L)[e.Index.toNat]? = some e.Val := by
  have key : ∀ (k : Nat) (L : List SEdgeD), L.length = k → okL n m L → ∀ e ∈ L, (valsL m L)[e.Index.toNat]? = some e.Val := by
    intro k
    induction k with
    | zero => intro L hl _ e he; rw [List.eq_nil_of_length_eq_zero hl] at he; cases he
    | succ k ih =>
      intro L hl ho e he
      obtain ⟨M, y, rfl⟩ : ∃ M y, L = M ++ [y] := ⟨L.dropLast, L.getLast (by intro h; rw [h] at hl; cases hl), (List.dropLast_concat_getLast _).symm⟩
      obtain ⟨q1, q2, q3⟩ := okL_snoc.1 ho
      rw [valsL_snoc, List.getElem?_set]
      have hlv := valsL_len m M
      rcases List.mem_append.1 he with he | he
      · have h2 := q3 e he
        have h3 := okL_nn q1 he
        rw [if_neg (by omega)]
        exact ih M (by simp at hl; omega) q1 e he
      · rw [List.mem_singleton] at he
        subst he
        rw [if_pos rfl, if_pos (by omega)]
  exact fun L => key L.length L rfl
theorem fv_get {f : FarmD} (h : FarmOk f) : ∀ e ∈ allE f.Shards, (fvL f)[e.Index.toNat]? = some e.Val := by
  have e0 : fvL f = valsL (edSum f.Shards) (allE f.Shards) := by unfold fvL; rw [pB_t h, if_pos rfl]
  rw [e0]
  exact valsL_get _ h.2.2.2.2.2.2.2.2
theorem fv_len {f : FarmD} (h : FarmOk f) : (fvL f).length = edSum f.Shards := by
  have e0 : fvL f = valsL (edSum f.Shards) (allE f.Shards) := by unfold fvL; rw [pB_t h, if_pos rfl]
  rw [e0, valsL_len]
theorem farm_all {f : FarmD} (h : FarmOk f) : ∀ i, i < edSum f.Shards → ∃ e ∈ allE f.Shards, e.Index = (i : Int) := okL_all h.2.2.2.2.2.2.2.2 (allE_len _)
/-- Farms with the same edges, of which each value is known, have these values. -/
theorem fv_by {f : FarmD} (h : FarmOk f) {vs : List Int} (hl : vs.length = edSum f.Shards) (hv : ∀ e ∈ allE f.Shards, vs[e.Index.toNat]? = some e.Val) : fvL f = vs := by
  have hfl := fv_len h
  apply List.ext_getElem?
  intro i
  rcases Nat.lt_or_ge i (edSum f.Shards) with hi | hi
  · obtain ⟨e, he, hei⟩ := farm_all h i hi
    have e1 := fv_get h e he
    have e2 := hv e he
    have : e.Index.toNat = i := by omega
    rw [this] at e1 e2
    rw [e1, e2]
  · rw [List.getElem?_eq_none (by omega), List.getElem?_eq_none (by omega)]
theorem fv_rng {f : FarmD} (h : FarmOk f) : ∀ x ∈ fvL f, 0 ≤ x ∧ x ≤ 1099511627776 := fun x hx => by
  obtain ⟨i, hi, rfl⟩ := List.getElem_of_mem hx
  have hi2 := hi
  rw [fv_len h] at hi2
  obtain ⟨e, he, hei⟩ := farm_all h i hi2
  have e1 := fv_get h e he
  have : e.Index.toNat = i := by omega
  rw [this, List.getElem?_eq_getElem hi] at e1
  rw [Option.some.inj e1]
  unfold allE at he
  obtain ⟨s, hs, he⟩ := List.mem_flatMap.1 he
  exact farm_vals h s hs e he

/-! Farms that were given values. -/
theorem shW_sk (vals : List Int) (s : ShardD) : skS (shW vals s) = skS s := by
  unfold skS shW
  simp only [List.map_map]
  congr 1
theorem fw_farm {f : FarmD} {vals : List Int} (h : FwOk f vals) : FarmOk (fwR f vals) ∧ (fwR f vals).N = f.N ∧ (fwR f vals).Ends = f.Ends ∧ edSum (fwR f vals).Shards = edSum f.Shards ∧ fvL (fwR f vals) = vals := by
  obtain ⟨e, _⟩ := fw_yes h
  have hs : (f.Shards.map (shW vals)).map skS = f.Shards.map skS := by
    rw [List.map_map]
    exact List.map_congr_left fun s _ => shW_sk vals s
  have hidx : ∀ e ∈ allE f.Shards, 0 ≤ e.Index ∧ e.Index < vals.length := fun e he => by
    obtain ⟨j, hj, rfl⟩ := List.getElem_of_mem he
    have := (h.1.2.2.2.2.2.2.2.2 j hj).1
    rw [h.2.1]
    omega
  have hval : ∀ e ∈ allE f.Shards, vals[e.Index.toNat]? = some (withV vals e).Val ∧ 0 ≤ (withV vals e).Val ∧ (withV vals e).Val ≤ 1099511627776 := fun e he => by
    obtain ⟨a, b⟩ := hidx e he
    have hlt : e.Index.toNat < vals.length := by omega
    have e1 : (withV vals e).Val = vals[e.Index.toNat] := by
      unfold withV
      dsimp only
      rw [List.getD_eq_getElem?_getD, List.getElem?_eq_getElem hlt]; rfl
    rw [e1, List.getElem?_eq_getElem hlt]
    refine ⟨rfl, ?_⟩
    have := List.all_eq_true.1 h.2.2 _ (List.getElem_mem hlt)
    unfold valOk at this
    simpa using this
  have hvi : valsIn (f.Shards.map (shW vals)) := fun s hs e he => by
    obtain ⟨t, ht, rfl⟩ := List.mem_map.1 hs
    unfold shW at he
    obtain ⟨u, hu, rfl⟩ := List.mem_map.1 he
    exact (hval u (by unfold allE; exact List.mem_flatMap.2 ⟨t, ht, hu⟩)).2
  have hf := farm_sk h.1 hs hvi
  have hsum := sk_sum hs
  rw [e]
  refine ⟨hf, rfl, rfl, hsum, fv_by hf (by dsimp only; rw [hsum]; exact h.2.1) fun x hx => ?_⟩
  dsimp only at hx
  unfold allE at hx
  obtain ⟨s, hs, hx⟩ := List.mem_flatMap.1 hx
  obtain ⟨t, ht, rfl⟩ := List.mem_map.1 hs
  unfold shW at hx
  obtain ⟨u, hu, rfl⟩ := List.mem_map.1 hx
  have hu2 : u ∈ allE f.Shards := by unfold allE; exact List.mem_flatMap.2 ⟨t, ht, hu⟩
  exact (hval u hu2).1

/-! A part that is put back unchanged. -/
theorem ptL_same : ∀ {xs : List LocD} {l : List ShardD}, (∀ x ∈ xs, ∃ n, ∃ hn : n < l.length, x.Shard = (n : Int) ∧ ∃ i, ∃ hi : i < l[n].Edges.length, x.At = (i : Int) ∧ x.Edge = l[n].Edges[i]) → ptL l xs = l
  | [], l, _ => rfl
  | x :: xs, l, h => by
    obtain ⟨n, hn, e1, i, hi, e2, e3⟩ := h x (.head _)
    have e : l.modify x.Shard.toNat (ptS x) = l := by
      apply List.ext_getElem
      · simp
      · intro k h1 h2
        rw [List.getElem_modify]
        split
        · rename_i hk
          have hkn : n = k := by omega
          subst hkn
          have e4 : ptS x l[n] = l[n] := by
            unfold ptS
            rw [e2, Int.toNat_natCast, e3, List.set_getElem_self]
          exact e4
        · rfl
    show ptL (l.modify x.Shard.toNat (ptS x)) xs = l
    rw [e]
    exact ptL_same fun y hy => h y (.tail _ hy)
theorem sub_back {f : FarmD} (hf : FarmOk f) {p : Nat} {lo hi : Int} (hlh : lo ≤ hi) : PutOk f (subO f p lo hi).Locs ∧ puR f (subO f p lo hi).Locs = f := by
  have h1 : PutOk f (subO f p lo hi).Locs := sub_put hf hlh fun x hx => ⟨(sub_edge hf hlh hx).2.1, x, hx, rfl, rfl, rfl⟩
  refine ⟨h1, ?_⟩
  rw [(pu_yes h1).1, ptL_same fun x hx => sub_mem hlh hx]
theorem rdTo_bnd (l : List ShardD) (p : Nat) (lo hi : Int) : ∀ k, 1 ≤ rdTo l p lo hi k ∧ rdTo l p lo hi k ≤ k + (if p < k then 0 else 1)
  | 0 => ⟨Nat.le_refl _, by simp [rdTo]⟩
  | k + 1 => by
    obtain ⟨a, b⟩ := rdTo_bnd l p lo hi k
    rw [rdTo]
    refine ⟨by omega, ?_⟩
    by_cases hpk : p < k
    · rw [if_pos hpk] at b
      rw [if_pos (by omega)]
      split
      · omega
      · split <;> omega
    · rw [if_neg hpk] at b
      by_cases hp : p = k
      · rw [if_pos (by omega)]
        split
        · omega
        · rw [if_neg (by omega)]; omega
      · rw [if_neg (by omega)]
        split
        · omega
        · split <;> omega
theorem sub_asc {f : FarmD} (hf : FarmOk f) {p : Nat} {lo hi : Int} (hlh : lo ≤ hi) {i : Nat} (h : i + 1 < (subO f p lo hi).Locs.length) : ((subO f p lo hi).Locs[i]'(by omega)).Edge.Index < ((subO f p lo hi).Locs[i + 1]).Edge.Index := by
  have h1 : (subO f p lo hi).Locs.Pairwise (fun a b => a.Edge.Index ≤ b.Edge.Index) := insAll_sorted (locsTo f.Shards p lo hi f.Shards.length) [] .nil
  have h2 : ((subO f p lo hi).Locs.map (·.Edge.Index)).Nodup := by
    have := locsTo_nodup (p := p) hlh (Nat.le_refl f.Shards.length) hf.2.2.2.2.2.2.2.2
    have hp := (insAll_perm (locsTo f.Shards p lo hi f.Shards.length) []).map (·.Edge.Index)
    rw [List.append_nil] at hp
    exact hp.nodup_iff.2 this
  have q1 := List.pairwise_iff_getElem.1 h1 i (i + 1) (by omega) h (by omega)
  unfold List.Nodup at h2
  have q2 := List.pairwise_iff_getElem.1 h2 i (i + 1) (by simp; omega) (by simpa using h) (by omega)
  rw [List.getElem_map, List.getElem_map] at q2
  omega

end Go.Proofs.Ytcbnfkbnbdbfoaa
