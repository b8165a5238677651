/-
  Values in farms are found again. Plain, no conditions of its own.
-/
import Derived.Test.YtfdhdkljpeohlaaGreatMFR
namespace Go.Proofs.YtfdhdkljpeohlaaGreat
set_option linter.unusedSimpArgs false
set_option linter.unusedVariables false
set_option linter.unusedSimpArgs false
set_option linter.unusedVariables false
set_option linter.defProp false
set_option maxRecDepth 20000
open Go.RowKit

/-! Farms that were given values. -/
theorem shW_sk (vals : List Int) (s : ShardD) : skS (shW vals s) = skS s := by
  unfold skS shW
  simp only [List.map_map]
  congr 1
theorem fw_farm {f : FarmD} {vals : List Int} (h : FwOk f vals) : FarmOk (fwR f vals) ∧ (fwR f vals).N = f.N ∧ (fwR f vals).Ends = f.Ends ∧ edSum (fwR f vals).Shards = edSum f.Shards ∧ fvL (fwR f vals) = vals := by
  obtain ⟨e, _⟩ := fw_yes h
  have hs : (f.Shards.map (shW vals)).map skS = f.Shards.map skS := by
    rw [List.map_map]
    exact List.map_congr_left fun s _ => shW_sk vals s
  have hidx : ∀ e ∈ allE f.Shards, 0 ≤ e.Index ∧ e.Index < vals.length := fun e he => by
    obtain ⟨j, hj, rfl⟩ := List.getElem_of_mem he
    have := (h.1.2.2.2.2.2.2.2.2 j hj).1
    rw [h.2.1]
    omega
  have hval : ∀ e ∈ allE f.Shards, vals[e.Index.toNat]? = some (withV vals e).Val ∧ 0 ≤ (withV vals e).Val ∧ (withV vals e).Val ≤ 1099511627776 := fun e he => by
    obtain ⟨a, b⟩ := hidx e he
    have hlt : e.Index.toNat < vals.length := by omega
    have e1 : (withV vals e).Val = vals[e.Index.toNat] := by
      unfold withV
      dsimp only
      rw [List.getD_eq_getElem?_getD, List.getElem?_eq_getElem hlt]; rfl
    rw [e1, List.getElem?_eq_getElem hlt]
    refine ⟨rfl, ?_⟩
    have := List.all_eq_true.1 h.2.2 _ (List.getElem_mem hlt)
    unfold valOk at this
    simpa using this
  have hvi : valsIn (f.Shards.map (shW vals)) := fun s hs e he => by
    obtain ⟨t, ht, rfl⟩ := List.mem_map.1 hs
    unfold shW at he
    obtain ⟨u, hu, rfl⟩ := List.mem_map.1 he
    exact (hval u (by unfold allE; exact List.mem_flatMap.2 ⟨t, ht, hu⟩)).2
  have hf := farm_sk h.1 hs hvi
  have hsum := sk_sum hs
  rw [e]
  refine ⟨hf, rfl, rfl, hsum, fv_by hf (by dsimp only; rw [hsum]; exact h.2.1) fun x hx => ?_⟩
  dsimp only at hx
  unfold allE at hx
  obtain ⟨s, hs, hx⟩ := List.mem_flatMap.1 hx
  obtain ⟨t, ht, rfl⟩ := List.mem_map.1 hs
  unfold shW at hx
  obtain ⟨u, hu, rfl⟩ := List.mem_map.1 hx
  have hu2 : u ∈ allE f.Shards := by unfold allE; exact List.mem_flatMap.2 ⟨t, ht, hu⟩
  exact (hval u hu2).1

/-! A part that is put back unchanged. -/
end Go.Proofs.YtfdhdkljpeohlaaGreat

