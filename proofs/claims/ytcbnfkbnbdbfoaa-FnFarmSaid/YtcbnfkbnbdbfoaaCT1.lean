/-
  Graphs cut into intervals: plain. No conditions of its own.
-/
import Derived.Test.YtcbnfkbnbdbfoaaMKB
import Derived.Test.YtcbnfkbnbdbfoaaMNA
namespace Go.Proofs.Ytcbnfkbnbdbfoaa
set_option linter.unusedSimpArgs false
set_option linter.unusedVariables false
set_option linter.unusedSimpArgs false
set_option linter.unusedVariables false
set_option linter.defProp false
set_option maxRecDepth 20000
open Go.RowKit

def swE (e : EdgeD) : EdgeD := ⟨e.To, e.From, e.W⟩
def revG (g : GraphD) : GraphD := ⟨g.N, g.Edges.map swE⟩
theorem revG_ok (g : GraphD) : graphOk (revG g) = graphOk g := by
  unfold graphOk revG
  simp only [List.length_map, List.all_map]
  congr 1
  refine congrArg (fun p => List.all g.Edges p) (funext fun e => ?_)
  show decide _ = decide _
  rw [decide_eq_decide]
  show 0 ≤ e.To ∧ e.To < g.N ∧ 0 ≤ e.From ∧ e.From < g.N ∧ 0 ≤ e.W ∧ e.W ≤ 1000 ↔ _
  omega
def inDegs (g : GraphD) : List Int := outDegs (revG g)
theorem inDegs_len {g : GraphD} (h : graphOk g = true) : (inDegs g).length = g.N.toNat := by
  unfold inDegs outDegs
  rw [if_pos (by rw [revG_ok]; exact h)]
  simp [revG]
theorem inDegs_rng (g : GraphD) (v : Nat) : 0 ≤ (inDegs g).getD v 0 ∧ (inDegs g).getD v 0 ≤ 400 := by
  unfold inDegs outDegs
  split
  · rename_i ho
    rw [revG_ok] at ho
    have h3 := (graphOk_in ho).2.2.1
    rw [List.getD_eq_getElem?_getD, List.getElem?_map]
    cases (List.range (revG g).N.toNat)[v]? with
    | none => simp
    | some z =>
      have := degN_le (revG g).Edges (revG g).Edges.length z
      have h4 : (revG g).Edges.length = g.Edges.length := by simp [revG]
      simp only [Option.map_some, Option.getD_some]
      omega
  · simp

def ctTo (d : List Int) (b : Int) : Nat → List Int × Int
  | 0 => ([], 0)
  | v + 1 => if 0 < v ∧ b < (ctTo d b v).2 + d.getD v 0 then ((ctTo d b v).1 ++ [(v : Int)], d.getD v 0) else ((ctTo d b v).1, (ctTo d b v).2 + d.getD v 0)
def cutOk (g : GraphD) (b : Int) : Bool := graphOk g && decide (1 ≤ b ∧ b ≤ 400)
def cutL (g : GraphD) (b : Int) : List Int := if cutOk g b then (ctTo (inDegs g) b g.N.toNat).1 ++ (if 0 < g.N then [g.N] else []) else []

theorem ctTo_hit {d : List Int} {b : Int} {v : Nat} (h : 0 < v) (hb : b < (ctTo d b v).2 + d.getD v 0) : ctTo d b (v + 1) = ((ctTo d b v).1 ++ [(v : Int)], d.getD v 0) := if_pos ⟨h, hb⟩
theorem ctTo_miss {d : List Int} {b : Int} {v : Nat} (h : ¬ (0 < v ∧ b < (ctTo d b v).2 + d.getD v 0)) : ctTo d b (v + 1) = ((ctTo d b v).1, (ctTo d b v).2 + d.getD v 0) := if_neg h
theorem ctTo_rng {d : List Int} {b : Int} (hd : ∀ v, 0 ≤ d.getD v 0 ∧ d.getD v 0 ≤ 400) : ∀ v, 0 ≤ (ctTo d b v).2 ∧ (ctTo d b v).2 ≤ 400 * v
  | 0 => by simp [ctTo]
  | v + 1 => by
    have ih := ctTo_rng (b := b) hd v
    have := hd v
    rw [ctTo]
    split
    · dsimp only; omega
    · dsimp only; omega

theorem incO_snoc {l : List Int} {x : Int} (h : incO l l.length) (hx : lastE l l.length < x) : incO (l ++ [x]) (l ++ [x]).length ∧ lastE (l ++ [x]) (l ++ [x]).length = x := by
  have pre : ∀ i, i ≤ l.length → lastE (l ++ [x]) i = lastE l i := fun i hi => by
    unfold lastE
    rw [← List.cons_append, List.getD_eq_getElem?_getD, List.getElem?_append_left (by simp; omega), ← List.getD_eq_getElem?_getD]
  have hl : (l ++ [x]).length = l.length + 1 := by simp
  constructor
  · intro i hi _
    rw [hl] at hi
    by_cases e : i = l.length
    · subst e
      rw [pre _ (Nat.le_refl _)]
      simpa using hx
    · rw [pre i (by omega), List.getElem_append_left (by omega)]
      exact h i (by omega) (by omega)
  · rw [hl, lastE_succ (by omega)]
    simp
theorem ctTo_inc {d : List Int} {b : Int} : ∀ v, incO (ctTo d b v).1 (ctTo d b v).1.length ∧ lastE (ctTo d b v).1 (ctTo d b v).1.length ≤ v - 1 + (if v = 0 then 1 else 0) ∧ (ctTo d b v).1.length ≤ v
  | 0 => ⟨by intro i hi; simp [ctTo] at hi, by simp [ctTo, lastE], by simp [ctTo]⟩
  | v + 1 => by
    obtain ⟨h1, h2, h3⟩ := ctTo_inc (d := d) (b := b) v
    rw [ctTo]
    split
    · rename_i h
      have hv : v ≠ 0 := by omega
      rw [if_neg hv] at h2
      obtain ⟨q1, q2⟩ := incO_snoc (x := (v : Int)) h1 (by omega)
      refine ⟨q1, ?_, ?_⟩
      · dsimp only
        rw [q2]; simp
      · simp; omega
    · refine ⟨h1, ?_, by dsimp only; omega⟩
      dsimp only
      split at h2
      · subst_vars; simp at h2 ⊢; omega
      · simp; omega
theorem cut_yes {g : GraphD} {b : Int} (h : cutOk g b = true) : cutL g b = (ctTo (inDegs g) b g.N.toNat).1 ++ (if 0 < g.N then [g.N] else []) := by unfold cutL; rw [if_pos h]
theorem cut_no {g : GraphD} {b : Int} (h : cutOk g b = false) : cutL g b = [] := by unfold cutL; rw [h]; rfl
theorem cutOk_out {g : GraphD} {b : Int} (h : cutOk g b = true) : graphOk g = true ∧ 1 ≤ b ∧ b ≤ 400 := by
  unfold cutOk at h
  simpa using h
theorem cut_len (g : GraphD) (b : Int) : (cutL g b).length ≤ 150 := by
  cases ho : cutOk g b with
  | false => rw [cut_no ho]; simp
  | true =>
    obtain ⟨h1, h2, h3⟩ := cutOk_out ho
    obtain ⟨g1, g2, g3, _⟩ := graphOk_in h1
    rw [cut_yes ho]
    obtain ⟨q1, q2, q3⟩ := ctTo_inc (d := inDegs g) (b := b) g.N.toNat
    rw [List.length_append]
    split
    · rename_i hn
      -- the first vertex opens no interval
      have : ∀ v, 0 < v → (ctTo (inDegs g) b v).1.length ≤ v - 1 := fun v => by
        induction v with
        | zero => intro h; omega
        | succ v ih =>
          intro _
          rw [ctTo]
          split
          · rename_i hh
            have := ih hh.1
            simp; omega
          · rcases Nat.eq_zero_or_pos v with rfl | hv
            · simp [ctTo]
            · have := ih hv
              dsimp only; omega
      have := this g.N.toNat (by omega)
      simp; omega
    · simp; omega
theorem cut_ends {g : GraphD} {b : Int} (h : cutOk g b = true) : EndsOk g.N (cutL g b) := by
  obtain ⟨h1, h2, h3⟩ := cutOk_out h
  obtain ⟨g1, g2, g3, _⟩ := graphOk_in h1
  rw [cut_yes h]
  obtain ⟨q1, q2, q3⟩ := ctTo_inc (d := inDegs g) (b := b) g.N.toNat
  by_cases hn : 0 < g.N
  · rw [if_pos hn]
    rw [if_neg (by omega)] at q2
    obtain ⟨a1, a2⟩ := incO_snoc (x := g.N) q1 (by omega)
    exact ⟨g1, g2, a1, a2⟩
  · rw [if_neg hn, List.append_nil]
    have e : g.N.toNat = 0 := by omega
    rw [e] at q1 ⊢
    refine ⟨g1, g2, q1, ?_⟩
    simp only [ctTo, lastE]
    simp; omega

/-! The interval of a vertex. -/
def ivN (l : List Int) (v : Int) (k : Nat) : Nat := (l.take k).countP fun e => decide (e ≤ v)
theorem ivN_zero (l : List Int) (v : Int) : ivN l v 0 = 0 := rfl
theorem ivN_le (l : List Int) (v : Int) (k : Nat) : ivN l v k ≤ k := by
  unfold ivN
  have := List.countP_le_length (p := fun e : Int => decide (e ≤ v)) (l := l.take k)
  rw [List.length_take] at this
  omega
theorem ivN_succ {l : List Int} {v : Int} {k : Nat} (h : k < l.length) : ivN l v (k + 1) = ivN l v k + if l[k] ≤ v then 1 else 0 := by
  unfold ivN
  rw [List.take_add_one, List.getElem?_eq_getElem h, Option.toList_some, List.countP_append, List.countP_singleton]
  simp
theorem ivN_t {l : List Int} {v : Int} {k : Nat} (h : k < l.length) (hx : l[k] ≤ v) : ((ivN l v (k + 1) : Nat) : Int) = (ivN l v k : Int) + 1 := by rw [ivN_succ h, if_pos hx]; rfl
theorem ivN_f {l : List Int} {v : Int} {k : Nat} (h : k < l.length) (hx : ¬ l[k] ≤ v) : ivN l v (k + 1) = ivN l v k := by rw [ivN_succ h, if_neg hx]; rfl
theorem lastE_mono {l : List Int} (h : incO l l.length) : ∀ {i j : Nat}, i ≤ j → j ≤ l.length → lastE l i ≤ lastE l j := by
  intro i j hij hj
  induction j with
  | zero => have : i = 0 := by omega
            subst this; exact Int.le_refl _
  | succ j ih =>
    rcases Nat.lt_or_ge i (j + 1) with h1 | h1
    · have := ih (by omega) (by omega)
      have h2 := h j (by omega) (by omega)
      rw [lastE_succ (by omega)]; omega
    · have : i = j + 1 := by omega
      subst this; exact Int.le_refl _
theorem ivN_at {l : List Int} {v : Int} (h : incO l l.length) (h0 : 0 ≤ v) : ∀ k, k ≤ l.length → ivN l v k ≤ k ∧ lastE l (ivN l v k) ≤ v ∧ (v < lastE l k → ∃ h : ivN l v k < l.length, v < l[ivN l v k]) ∧ (lastE l k ≤ v → ivN l v k = k)
  | 0, _ => ⟨Nat.le_refl _, by rw [ivN_zero, lastE_zero]; exact h0, fun h => by rw [lastE_zero] at h; omega, fun _ => rfl⟩
  | k + 1, hk => by
    obtain ⟨a, b, c, d⟩ := ivN_at h h0 k (by omega)
    have hinc := h k (by omega) (by omega)
    rw [lastE_succ (by omega)]
    by_cases hx : l[k] ≤ v
    · have e := d (by omega)
      have e1 : ivN l v (k + 1) = k + 1 := by rw [ivN_succ (by omega), if_pos hx, e]
      rw [e1, lastE_succ (by omega)]
      exact ⟨Nat.le_refl _, hx, fun hh => by omega, fun _ => rfl⟩
    · have e1 := ivN_f (by omega) hx
      rw [e1]
      refine ⟨by omega, b, fun _ => ?_, fun hh => absurd hh hx⟩
      rcases Int.lt_or_le v (lastE l k) with q | q
      · exact c q
      · have e := d q
        exact ⟨by omega, by simp only [e]; omega⟩
theorem iv_in {n : Int} {l : List Int} (h : EndsOk n l) {v : Int} (h0 : 0 ≤ v) (hv : v < n) : ∃ hk : ivN l v l.length < l.length, lastE l (ivN l v l.length) ≤ v ∧ v < l[ivN l v l.length] := by
  obtain ⟨_, b, c, _⟩ := ivN_at h.2.2.1 h0 l.length (Nat.le_refl _)
  rw [h.2.2.2] at c
  obtain ⟨hk, h2⟩ := c hv
  exact ⟨hk, b, h2⟩

end Go.Proofs.Ytcbnfkbnbdbfoaa
