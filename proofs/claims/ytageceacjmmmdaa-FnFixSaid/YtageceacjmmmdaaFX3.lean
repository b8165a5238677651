/-
  Plain: runs that begin, and iterations, are valid. No conditions of its own.
-/
import Derived.Test.YtageceacjmmmdaaFX2
import Derived.Test.YtageceacjmmmdaaK6
namespace Go.Proofs.Ytageceacjmmmdaa
set_option linter.unusedSimpArgs false
set_option linter.unusedVariables false
set_option linter.unusedSimpArgs false
set_option linter.unusedVariables false
set_option linter.defProp false
open Go.RowKit

theorem ra_add (g : GraphD) (r : RunD) (a : Nat) : ∀ k, raTo g (raTo g r a) k = raTo g r (a + k)
  | 0 => rfl
  | k + 1 => by
    have ih := ra_add g r a k
    show (if riOk g (raTo g (raTo g r a) k) = true then riR g (raTo g (raTo g r a) k) else raTo g (raTo g r a) k) = (if riOk g (raTo g r (a + k)) = true then riR g (raTo g r (a + k)) else raTo g r (a + k))
    rw [ih]

theorem ri_ok {g : GraphD} {r : RunD} (h : riOk g r = true) : runOk g (riR g r) = true ∧ (riR g r).Iter = r.Iter + 1 := by
  obtain ⟨h1, _, h3⟩ := riOk_out h
  obtain ⟨hin, hi, _⟩ := runOk_in h1
  obtain ⟨⟨g1, _, _⟩, _⟩ := graphOk_out hin.go
  have hx := (itTo_in (it0_in hin) g.N.toNat (by omega)).1
  have e := itTo_iter g (it0 g r) g.N.toNat
  unfold riR
  rw [if_pos h]
  have e' : (itEnd g r).Iter = r.Iter := e
  refine ⟨RunIn.ok ⟨hx.go, hx.jo, hx.vl, hx.el, hx.vo, hx.eo, hx.so, hx.sn⟩ ?_ rfl, ?_⟩
  · show 0 ≤ (itEnd g r).Iter + 1 ∧ (itEnd g r).Iter + 1 ≤ 1000
    omega
  · show (itEnd g r).Iter + 1 = _
    omega

theorem riOk_eq {g : GraphD} {r : RunD} (h : runOk g r = true) (hi : r.Iter < 1000) : riOk g r = !r.Done := by
  unfold riOk
  rw [h, decide_eq_true hi]
  simp

theorem ra_ok {g : GraphD} {r : RunD} (h : runOk g r = true) : ∀ k : Nat, r.Iter + k ≤ 1000 → runOk g (raTo g r k) = true ∧ r.Iter ≤ (raTo g r k).Iter ∧ (raTo g r k).Iter ≤ r.Iter + k ∧ ((raTo g r k).Done = false → (raTo g r k).Iter = r.Iter + k)
  | 0, _ => ⟨h, Int.le_refl _, by simp [raTo], fun _ => by simp [raTo]⟩
  | k + 1, hk => by
    obtain ⟨h1, h2, h3, h4⟩ := ra_ok h k (by omega)
    have e := riOk_eq h1 (by omega)
    cases ho : riOk g (raTo g r k) with
    | true =>
      obtain ⟨a1, a2⟩ := ri_ok ho
      rw [ho] at e
      have hd : (raTo g r k).Done = false := by simpa using e
      have := h4 hd
      rw [raTo_yes ho]
      exact ⟨a1, by omega, by omega, fun _ => by omega⟩
    | false =>
      rw [ho] at e
      have hd : (raTo g r k).Done = true := by simpa using e
      rw [raTo_no ho 1]
      exact ⟨h1, h2, by omega, fun hf => by rw [hd] at hf; cases hf⟩

theorem ra_of {g : GraphD} {r : RunD} (h : runOk g r = true) (m : Nat) : raR g r (m : Int) = raTo g r m := by
  unfold raR
  rw [if_pos h, show max (m : Int) 0 = (m : Int) by omega, Int.toNat_natCast]

/-! Runs that begin. -/

theorem firstVal_ok {j : JobD} (v : Int) : valOk (firstVal j v) = true := by
  refine valOk_in ?_
  unfold firstVal
  split
  · omega
  · split
    · omega
    · split
      · omega
      · split <;> omega
theorem firstEdge_ok {j : JobD} (f t d : Int) : valOk (firstEdge j f t d) = true := by
  refine valOk_in ?_
  unfold firstEdge
  split
  · omega
  · rename_i hn
    split
    · have h1 : (0 : Int) ≤ 1048576 / d := Int.ediv_nonneg (by omega) (by omega)
      have h2 : (1048576 : Int) / d ≤ 1048576 := Int.ediv_le_self _ (by omega)
      omega
    · split
      · omega
      · split <;> omega

theorem runNew_ok {g : GraphD} {j : JobD} (hg : graphOk g = true) (hj : jobOk g.N j = true) : runOk g (runNew g j) = true := by
  obtain ⟨⟨g1, g2, _⟩, _⟩ := graphOk_out hg
  have e : runNew g j = ⟨j, 0, g.N == 0, fvTo j g.N.toNat, feTo j g.Edges g.Edges.length, ⟨g.N, newL g.N true⟩⟩ := by unfold runNew; rw [hg, hj]; rfl
  rw [e]
  obtain ⟨n, l⟩ := g
  dsimp only at *
  obtain ⟨m, rfl⟩ := Int.eq_ofNat_of_zero_le g1
  rw [newL_in (by omega)]
  simp only [if_true, Int.toNat_natCast]
  refine RunIn.ok ⟨hg, hj, by simp [fvTo_len], feTo_len j l l.length (Nat.le_refl _), ?_, ?_, fullTo_ok m m (by omega) (Nat.le_refl _), rfl⟩ ⟨Int.le_refl _, by show (0 : Int) ≤ 1000; omega⟩ ?_
  · rw [List.all_eq_true]
    intro z hz
    simp only [fvTo, List.mem_map] at hz
    obtain ⟨v, _, rfl⟩ := hz
    exact firstVal_ok _
  · rw [List.all_eq_true]
    intro z hz
    simp only [feTo, List.mem_map] at hz
    obtain ⟨v, _, rfl⟩ := hz
    exact firstEdge_ok _ _ _
  · show ((m : Int) == 0) = emptyL (fullTo m m)
    by_cases hm : m = 0
    · subst hm; rfl
    · rw [full_empty (by omega) (by omega), beq_eq_false_iff_ne]; omega

theorem runNew_it {g : GraphD} {j : JobD} : (runNew g j).Iter = 0 := by
  unfold runNew
  split <;> rfl

theorem runNew_fix {g : GraphD} {j : JobD} (hg : graphOk g = true) (hj : jobOk g.N j = true) : RunFix g (runNew g j) := by
  obtain ⟨⟨g1, g2, _⟩, _⟩ := graphOk_out hg
  have e : runNew g j = ⟨j, 0, g.N == 0, fvTo j g.N.toNat, feTo j g.Edges g.Edges.length, ⟨g.N, newL g.N true⟩⟩ := by unfold runNew; rw [hg, hj]; rfl
  rw [e]
  refine ⟨fun h4 => ⟨fun v => ?_, fun i => ?_⟩, fun w hw => .inl (full_bit ⟨g1, g2⟩ hw)⟩
  · dsimp only at h4 ⊢
    by_cases hv : v < (fvTo j g.N.toNat).length
    · have hd : (fvTo j g.N.toNat).getD v 0 = firstVal j (v : Int) := getD_of (by simp only [fvTo, List.length_map, List.length_range] at hv; simp [fvTo, hv])
      rw [hd]
      unfold firstVal
      split
      · omega
      · simp [h4]; omega
    · have hd : (fvTo j g.N.toNat).getD v 0 = 0 := by simp [List.getD, List.getElem?_eq_none (by omega : (fvTo j g.N.toNat).length ≤ v)]
      rw [hd]; omega
  · dsimp only at h4 ⊢
    by_cases hv : i < (feTo j g.Edges g.Edges.length).length
    · have hv' : i < g.Edges.length := by rw [feTo_len _ _ _ (Nat.le_refl _)] at hv; exact hv
      have hd : (feTo j g.Edges g.Edges.length).getD i 0 = edgeFe j g.Edges g.Edges[i] := getD_of (by simp [feTo, hv'])
      rw [hd]
      unfold edgeFe firstEdge
      split
      · omega
      · simp [h4]; omega
    · have hd : (feTo j g.Edges g.Edges.length).getD i 0 = 0 := by simp [List.getD, List.getElem?_eq_none (by omega : (feTo j g.Edges g.Edges.length).length ≤ i)]
      rw [hd]; omega

/-- A run that has begun and gone some iterations. -/
structure Begun (g : GraphD) (r : RunD) : Prop where
  ok : runOk g r = true
  it : 0 ≤ r.Iter ∧ r.Iter ≤ 4
  fx : RunFix g r

theorem begun_of {g : GraphD} {j : JobD} (hg : graphOk g = true) (hj : jobOk g.N j = true) (m : Nat) (hm : m ≤ 4) : Begun g (raR g (runNew g j) (m : Int)) := by
  have h1 := runNew_ok hg hj
  have h2 := runNew_it (g := g) (j := j)
  rw [ra_of h1]
  obtain ⟨a1, a2, a3, _⟩ := ra_ok h1 m (by omega)
  exact ⟨a1, by omega, rf_to (runNew_fix hg hj) m⟩

end Go.Proofs.Ytageceacjmmmdaa
