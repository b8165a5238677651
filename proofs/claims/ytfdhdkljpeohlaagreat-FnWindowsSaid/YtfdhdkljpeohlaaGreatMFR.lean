/-
  The engine, texts FR0 FW0 in one. No conditions of its own.
-/
import Derived.Test.YtfdhdkljpeohlaaGreatFI1
import Derived.Test.YtfdhdkljpeohlaaGreatN11
namespace Go.Proofs.YtfdhdkljpeohlaaGreat
set_option linter.unusedSimpArgs false
set_option linter.unusedVariables false
set_option linter.unusedSimpArgs false
set_option linter.unusedVariables false
set_option linter.defProp false
set_option maxRecDepth 20000
open Go.RowKit

theorem nodup_le {α : Type} [DecidableEq α] : ∀ {l m : List α}, l.Nodup → (∀ x ∈ l, x ∈ m) → l.length ≤ m.length
  | [], _, _, _ => Nat.zero_le _
  | a :: l, m, h, hs => by
    obtain ⟨h1, h2⟩ := List.nodup_cons.1 h
    have ha : a ∈ m := hs a (.head _)
    have := nodup_le (l := l) (m := m.erase a) h2 fun x hx => (List.mem_erase_of_ne (fun e => h1 (by rw [← e]; exact hx))).2 (hs x (.tail _ hx))
    rw [List.length_erase_of_mem ha] at this
    have := List.length_pos_of_mem ha
    simp only [List.length_cons]
    omega
/-- m different numbers below m are all of them. -/
theorem nodup_all {m : Nat} {l : List Nat} (h : l.Nodup) (hl : l.length = m) (hb : ∀ x ∈ l, x < m) : ∀ i, i < m → i ∈ l := fun i hi => by
  by_cases hm : i ∈ l
  · exact hm
  · have h2 : (i :: l).Nodup := List.nodup_cons.2 ⟨hm, h⟩
    have := nodup_le (m := List.range m) h2 fun x hx => by
      rw [List.mem_range]
      rcases List.mem_cons.1 hx with rfl | hx
      · exact hi
      · exact hb x hx
    simp at this
    omega
theorem okL_all {n : Int} {m : Nat} {L : List SEdgeD} (h : okL n m L) (hl : L.length = m) : ∀ i, i < m → ∃ e ∈ L, e.Index = (i : Int) := fun i hi => by
  have h1 : (L.map (·.Index.toNat)).Nodup := by
    unfold List.Nodup
    rw [List.pairwise_iff_getElem]
    intro a b ha hb hab
    rw [List.getElem_map, List.getElem_map]
    have hb' : b < L.length := by simpa using hb
    have ha' : a < L.length := by omega
    have q1 := (h b hb').2 a hab
    have q2 := (h b hb').1.1
    have q3 := (h a ha').1.1
    omega
  obtain ⟨e, he, hei⟩ := List.mem_map.1 (nodup_all h1 (by simpa using hl) (fun x hx => by
    obtain ⟨e, he, rfl⟩ := List.mem_map.1 hx
    obtain ⟨j, hj, rfl⟩ := List.getElem_of_mem he
    have := (h j hj).1
    omega) i hi)
  obtain ⟨j, hj, rfl⟩ := List.getElem_of_mem he
  have := (h j hj).1.1
  exact ⟨_, he, by omega⟩
/-- The value of an edge stands at its index. -/
theorem valsL_get {n : Int} {m : Nat} : ∀ (L : List SEdgeD), okL n m L → ∀ e ∈ L, (valsL m L)[e.Index.toNat]? = some e.Val := by
  have key : ∀ (k : Nat) (L : List SEdgeD), L.length = k → okL n m L → ∀ e ∈ L, (valsL m L)[e.Index.toNat]? = some e.Val := by
    intro k
    induction k with
    | zero => intro L hl _ e he; rw [List.eq_nil_of_length_eq_zero hl] at he; cases he
    | succ k ih =>
      intro L hl ho e he
      obtain ⟨M, y, rfl⟩ : ∃ M y, L = M ++ [y] := ⟨L.dropLast, L.getLast (by intro h; rw [h] at hl; cases hl), (List.dropLast_concat_getLast _).symm⟩
      obtain ⟨q1, q2, q3⟩ := okL_snoc.1 ho
      rw [valsL_snoc, List.getElem?_set]
      have hlv := valsL_len m M
      rcases List.mem_append.1 he with he | he
      · have h2 := q3 e he
        have h3 := okL_nn q1 he
        rw [if_neg (by omega)]
        exact ih M (by simp at hl; omega) q1 e he
      · rw [List.mem_singleton] at he
        subst he
        rw [if_pos rfl, if_pos (by omega)]
  exact fun L => key L.length L rfl
theorem fv_get {f : FarmD} (h : FarmOk f) : ∀ e ∈ allE f.Shards, (fvL f)[e.Index.toNat]? = some e.Val := by
  have e0 : fvL f = valsL (edSum f.Shards) (allE f.Shards) := by unfold fvL; rw [pB_t h, if_pos rfl]
  rw [e0]
  exact valsL_get _ h.2.2.2.2.2.2.2.2
theorem fv_len {f : FarmD} (h : FarmOk f) : (fvL f).length = edSum f.Shards := by
  have e0 : fvL f = valsL (edSum f.Shards) (allE f.Shards) := by unfold fvL; rw [pB_t h, if_pos rfl]
  rw [e0, valsL_len]
theorem farm_all {f : FarmD} (h : FarmOk f) : ∀ i, i < edSum f.Shards → ∃ e ∈ allE f.Shards, e.Index = (i : Int) := okL_all h.2.2.2.2.2.2.2.2 (allE_len _)
/-- Farms with the same edges, of which each value is known, have these values. -/
theorem fv_by {f : FarmD} (h : FarmOk f) {vs : List Int} (hl : vs.length = edSum f.Shards) (hv : ∀ e ∈ allE f.Shards, vs[e.Index.toNat]? = some e.Val) : fvL f = vs := by
  have hfl := fv_len h
  apply List.ext_getElem?
  intro i
  rcases Nat.lt_or_ge i (edSum f.Shards) with hi | hi
  · obtain ⟨e, he, hei⟩ := farm_all h i hi
    have e1 := fv_get h e he
    have e2 := hv e he
    have : e.Index.toNat = i := by omega
    rw [this] at e1 e2
    rw [e1, e2]
  · rw [List.getElem?_eq_none (by omega), List.getElem?_eq_none (by omega)]
end Go.Proofs.YtfdhdkljpeohlaaGreat

namespace Go.Proofs.YtfdhdkljpeohlaaGreat
set_option linter.unusedSimpArgs false
set_option linter.unusedVariables false
set_option linter.defProp false
set_option maxRecDepth 20000
open Go.RowKit

theorem edgesL_get {n : Int} {m : Nat} : ∀ (L : List SEdgeD), okL n m L → ∀ e ∈ L, (edgesL m L)[e.Index.toNat]? = some ⟨e.From, e.To, e.W⟩ := by
  have key : ∀ (k : Nat) (L : List SEdgeD), L.length = k → okL n m L → ∀ e ∈ L, (edgesL m L)[e.Index.toNat]? = some ⟨e.From, e.To, e.W⟩ := by
    intro k
    induction k with
    | zero => intro L hl _ e he; rw [List.eq_nil_of_length_eq_zero hl] at he; cases he
    | succ k ih =>
      intro L hl ho e he
      obtain ⟨M, y, rfl⟩ : ∃ M y, L = M ++ [y] := ⟨L.dropLast, L.getLast (by intro h; rw [h] at hl; cases hl), (List.dropLast_concat_getLast _).symm⟩
      obtain ⟨q1, q2, q3⟩ := okL_snoc.1 ho
      rw [edgesL_snoc, List.getElem?_set]
      have hlv := edgesL_len m M
      rcases List.mem_append.1 he with he | he
      · have h2 := q3 e he
        have h3 := okL_nn q1 he
        rw [if_neg (by omega)]
        exact ih M (by simp at hl; omega) q1 e he
      · rw [List.mem_singleton] at he
        subst he
        rw [if_pos rfl, if_pos (by omega)]
  exact fun L => key L.length L rfl
theorem fg_eq {f : FarmD} (h : FarmOk f) : fgR f = ⟨f.N, edgesL (edSum f.Shards) (allE f.Shards)⟩ := by unfold fgR; rw [pB_t h, if_pos rfl]
theorem fgE_len {f : FarmD} (h : FarmOk f) : (fgR f).Edges.length = edSum f.Shards := by rw [fg_eq h]; exact edgesL_len _ _
theorem fg_get {f : FarmD} (h : FarmOk f) : ∀ e ∈ allE f.Shards, (fgR f).Edges[e.Index.toNat]? = some ⟨e.From, e.To, e.W⟩ := by
  rw [fg_eq h]
  exact edgesL_get _ h.2.2.2.2.2.2.2.2
theorem farm_idx {f : FarmD} (h : FarmOk f) {e : SEdgeD} (he : e ∈ allE f.Shards) : 0 ≤ e.Index ∧ e.Index.toNat < edSum f.Shards := by
  obtain ⟨j, hj, ej⟩ := List.getElem_of_mem he
  have := (h.2.2.2.2.2.2.2.2 j hj).1
  rw [ej] at this
  omega

end Go.Proofs.YtfdhdkljpeohlaaGreat

