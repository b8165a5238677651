/-
  A run in two farms of one graph goes as the run: plain. No conditions of its own.
-/
import Derived.Test.YtfnhchcgieeedaaGreatBG1
import Derived.Test.YtfnhchcgieeedaaGreatMFW
import Derived.Test.YtfnhchcgieeedaaGreatZz6
import Derived.Test.YtfnhchcgieeedaaGreatMRA
import Derived.Test.YtfnhchcgieeedaaGreatZz7
namespace Go.Proofs.YtfnhchcgieeedaaGreat
set_option linter.unusedSimpArgs false
set_option linter.unusedVariables false
set_option linter.unusedSimpArgs false
set_option linter.unusedVariables false
set_option linter.defProp false
open Go.RowKit

theorem fw_skB {f : FarmD} {vals : List Int} (h : FwOk f vals) : fgR (fwR f vals) = fgR f := by
  obtain ⟨q1, q2, _, q4, _⟩ := fw_farm h
  have hs : (f.Shards.map (shW vals)).map skS = f.Shards.map skS := by
    rw [List.map_map]
    exact List.map_congr_left fun s _ => shW_sk vals s
  have e := (fw_yes h).1
  rw [fg_eq q1, fg_eq h.1, q2, q4, edgesL_sk _ (allE (fwR f vals).Shards), edgesL_sk _ (allE f.Shards)]
  rw [e]
  dsimp only
  rw [sk_allE hs]

/-- A run put into a farm cut out of its graph. -/
theorem fo_both {g : GraphD} {r : RunD} {b z : Int} (h : fmOk g b z = true) (hr : runOk g r = true) : FoOk (farmR g b z) r ∧ FrOk (foR (farmR g b z) r) ∧ frunR (foR (farmR g b z) r) = r ∧ fgR (foR (farmR g b z) r).Farm = g ∧ (foR (farmR g b z) r).Iter = r.Iter := by
  obtain ⟨h2, h3, h4⟩ := fgM_eq h
  have hin := (runOk_in hr).1
  have ho : FoOk (farmR g b z) r := ⟨h3, by rw [h2]; exact hr⟩
  have hw : FwOk (farmR g b z) r.EVals := ⟨h3, by rw [h4]; exact hin.el, hin.eo⟩
  obtain ⟨q1, q2, q3, q4, q5⟩ := fw_farm hw
  have e : foR (farmR g b z) r = ⟨r.Job, r.Iter, r.Done, r.Vals, r.Next, fwR (farmR g b z) r.EVals⟩ := fo_yes ho
  have e1 : frunR (foR (farmR g b z) r) = r := by
    rw [e]
    unfold frunR
    dsimp only
    rw [q5]
  have e2 : fgR (foR (farmR g b z) r).Farm = g := by
    rw [e]
    dsimp only
    rw [fw_skB hw, h2]
  exact ⟨ho, ⟨by rw [e]; exact q1, by rw [e2, e1]; exact hr⟩, e1, e2, by rw [e]⟩

/-- Iterations in the farm are those of the run. -/
theorem fa_ra {f : FRunD} (h : FrOk f) : ∀ k : Nat, f.Iter + k ≤ 1000 → FrOk (faTo f k) ∧ frunR (faTo f k) = raTo (fgR f.Farm) (frunR f) k ∧ fgR (faTo f k).Farm = fgR f.Farm ∧ (faTo f k).Iter ≤ f.Iter + k
  | 0, _ => ⟨h, rfl, rfl, by simp [faTo]⟩
  | k + 1, hk => by
    obtain ⟨i1, i2, i3, i4⟩ := fa_ra h k (by omega)
    by_cases q : fiOk (faTo f k)
    · obtain ⟨w1, w2, w3, w4⟩ := wh_end q
      have e := faTo_yes q
      rw [i3, i2] at w1 w2
      refine ⟨by rw [e]; exact frOk_fi q, by rw [e, w2, raTo_yes w1], by rw [e, w4, i3], ?_⟩
      rw [e, (fi_yes q).1]
      show (faTo f k).Iter + 1 ≤ _
      omega
    · have e := faTo_no q
      have hd : (faTo f k).Done = true := by
        cases hd : (faTo f k).Done with
        | true => rfl
        | false => exact absurd ⟨i1, hd, by omega⟩ q
      have hr := riOk_eq i1.2 (show (faTo f k).Iter < 1000 by omega)
      have hz : riOk (fgR (faTo f k).Farm) (frunR (faTo f k)) = false := by
        rw [hr]
        show (!(faTo f k).Done) = false
        rw [hd]; rfl
      rw [i3, i2] at hz
      have e2 := raTo_no hz 1
      refine ⟨by rw [e]; exact i1, by rw [e, e2]; exact i2, by rw [e]; exact i3, by rw [e]; omega⟩

end Go.Proofs.YtfnhchcgieeedaaGreat

