/-
  Plain: runs that begin, and more iterations, are valid. No conditions of its own.
-/
import Derived.Test.YtfdhdkljpeohlaaGreatMWI
import Derived.Test.YtfdhdkljpeohlaaGreatMKB
namespace Go.Proofs.YtfdhdkljpeohlaaGreat
set_option linter.unusedSimpArgs false
set_option linter.unusedVariables false
set_option linter.unusedSimpArgs false
set_option linter.unusedVariables false
set_option linter.defProp false
open Go.RowKit

theorem getD_of {α : Type} {l : List α} {k : Nat} {x d : α} (h : l[k]? = some x) : l.getD k d = x := by simp [List.getD, h]
theorem empty_bit {l : List UInt8} (h : emptyL l = true) (v : Nat) : bitAt l v = false := by
  unfold bitAt
  rw [decide_eq_false_iff_not]
  have : (l.getD (v / 8) 0).toNat = 0 := by
    by_cases hv : v / 8 < l.length
    · have hd : l.getD (v / 8) 0 = l[v / 8] := getD_of (List.getElem?_eq_getElem hv)
      have := List.all_eq_true.1 h l[v / 8] (List.getElem_mem hv)
      simp only [zeroB, decide_eq_true_eq] at this
      rw [hd]; exact this
    · have hd : l.getD (v / 8) 0 = 0 := by simp [List.getD, List.getElem?_eq_none (by omega : l.length ≤ v / 8)]
      rw [hd]; rfl
  rw [this]
  simp

theorem full_empty {n : Nat} (hn : n ≤ 150) (h : 0 < n) : emptyL (fullTo n n) = false := by
  cases he : emptyL (fullTo n n) with
  | false => rfl
  | true =>
    have h1 := empty_bit he 0
    rw [fullTo_bit n n (Nat.le_refl _)] at h1
    simp at h1
    omega

theorem riOk_eq {g : GraphD} {r : RunD} (h : runOk g r = true) (hi : r.Iter < 1000) : riOk g r = !r.Done := by
  unfold riOk
  rw [h, decide_eq_true hi]
  simp

theorem ra_ok {g : GraphD} {r : RunD} (h : runOk g r = true) : ∀ k : Nat, r.Iter + k ≤ 1000 → runOk g (raTo g r k) = true ∧ r.Iter ≤ (raTo g r k).Iter ∧ (raTo g r k).Iter ≤ r.Iter + k ∧ ((raTo g r k).Done = false → (raTo g r k).Iter = r.Iter + k)
  | 0, _ => ⟨h, Int.le_refl _, by simp [raTo], fun _ => by simp [raTo]⟩
  | k + 1, hk => by
    obtain ⟨h1, h2, h3, h4⟩ := ra_ok h k (by omega)
    have e := riOk_eq h1 (by omega)
    cases ho : riOk g (raTo g r k) with
    | true =>
      obtain ⟨a1, a2⟩ := ri_ok ho
      rw [ho] at e
      have hd : (raTo g r k).Done = false := by simpa using e
      have := h4 hd
      rw [raTo_yes ho]
      exact ⟨a1, by omega, by omega, fun _ => by omega⟩
    | false =>
      rw [ho] at e
      have hd : (raTo g r k).Done = true := by simpa using e
      rw [raTo_no ho 1]
      exact ⟨h1, h2, by omega, fun hf => by rw [hd] at hf; cases hf⟩

theorem ra_of {g : GraphD} {r : RunD} (h : runOk g r = true) (m : Nat) : raR g r (m : Int) = raTo g r m := by
  unfold raR
  rw [if_pos h, show max (m : Int) 0 = (m : Int) by omega, Int.toNat_natCast]

/-! Runs that begin. -/

theorem firstVal_ok {j : JobD} (v : Int) : valOk (firstVal j v) = true := by
  refine valOk_in ?_
  unfold firstVal
  split
  · omega
  · split
    · omega
    · split
      · omega
      · split <;> omega
theorem firstEdge_ok {j : JobD} (f t d : Int) : valOk (firstEdge j f t d) = true := by
  refine valOk_in ?_
  unfold firstEdge
  split
  · omega
  · rename_i hn
    split
    · have h1 : (0 : Int) ≤ 1048576 / d := Int.ediv_nonneg (by omega) (by omega)
      have h2 : (1048576 : Int) / d ≤ 1048576 := Int.ediv_le_self _ (by omega)
      omega
    · split
      · omega
      · split <;> omega

theorem runNew_ok {g : GraphD} {j : JobD} (hg : graphOk g = true) (hj : jobOk g.N j = true) : runOk g (runNew g j) = true := by
  obtain ⟨⟨g1, g2, _⟩, _⟩ := graphOk_out hg
  have e : runNew g j = ⟨j, 0, g.N == 0, fvTo j g.N.toNat, feTo j g.Edges g.Edges.length, ⟨g.N, newL g.N true⟩⟩ := by unfold runNew; rw [hg, hj]; rfl
  rw [e]
  obtain ⟨n, l⟩ := g
  dsimp only at *
  obtain ⟨m, rfl⟩ := Int.eq_ofNat_of_zero_le g1
  rw [newL_in (by omega)]
  simp only [if_true, Int.toNat_natCast]
  refine RunIn.ok ⟨hg, hj, by simp [fvTo_len], feTo_len j l l.length (Nat.le_refl _), ?_, ?_, fullTo_ok m m (by omega) (Nat.le_refl _), rfl⟩ ⟨Int.le_refl _, by show (0 : Int) ≤ 1000; omega⟩ ?_
  · rw [List.all_eq_true]
    intro z hz
    simp only [fvTo, List.mem_map] at hz
    obtain ⟨v, _, rfl⟩ := hz
    exact firstVal_ok _
  · rw [List.all_eq_true]
    intro z hz
    simp only [feTo, List.mem_map] at hz
    obtain ⟨v, _, rfl⟩ := hz
    exact firstEdge_ok _ _ _
  · show ((m : Int) == 0) = emptyL (fullTo m m)
    by_cases hm : m = 0
    · subst hm; rfl
    · rw [full_empty (by omega) (by omega), beq_eq_false_iff_ne]; omega

theorem runNew_it {g : GraphD} {j : JobD} : (runNew g j).Iter = 0 := by
  unfold runNew
  split <;> rfl

theorem ran_ok {g : GraphD} {j : JobD} (hg : graphOk g = true) (hj : jobOk g.N j = true) (m : Nat) (hm : m ≤ 4) : runOk g (raR g (runNew g j) (m : Int)) = true ∧ 0 ≤ (raR g (runNew g j) (m : Int)).Iter ∧ (raR g (runNew g j) (m : Int)).Iter ≤ 4 := by
  have h1 := runNew_ok hg hj
  have h2 := runNew_it (g := g) (j := j)
  rw [ra_of h1]
  obtain ⟨a1, a2, a3, _⟩ := ra_ok h1 m (by omega)
  exact ⟨a1, by omega, by omega⟩

end Go.Proofs.YtfdhdkljpeohlaaGreat

