/-
  Lists and values read: plain. No conditions of its own.
-/
import Derived.Test.YtcbnfkbnbdbfoaaR7
import Derived.Test.YtcbnfkbnbdbfoaaF6
import Derived.Test.YtcbnfkbnbdbfoaaF9
namespace Go.Proofs.Ytcbnfkbnbdbfoaa
set_option linter.unusedSimpArgs false
set_option linter.unusedVariables false
set_option linter.unusedSimpArgs false
set_option linter.unusedVariables false
set_option linter.defProp false
open Go.RowKit

def fixS (b : List UInt8) (s : RdS) : RdS := if s.p + 6 ≤ b.length then ⟨s.p + 6, s.ok⟩ else ⟨s.p, false⟩
def fixV (b : List UInt8) (s : RdS) : Int := if s.p + 6 ≤ b.length then ((gf b s.p 6 : Nat) : Int) else 0
/-- What the program's list reads: the numbers, and where it stands. -/
def lsGo (b : List UInt8) : Nat → List Int → RdS → List Int × RdS
  | 0, l, s => (l, s)
  | m + 1, l, s => if s.ok then lsGo b m (l ++ [fixV b s]) (fixS b s) else (l, s)
def lsN (b : List UInt8) (s : RdS) : Nat := (gvN b s.p).toNat
def lsI (b : List UInt8) (s : RdS) : RdS := if 400 < lsN b s then ⟨(numS b s).p, false⟩ else numS b s
def lsR (b : List UInt8) (s : RdS) : List Int × RdS := lsGo b (lsN b s) [] (lsI b s)

theorem lsGo_bad {b : List UInt8} {m : Nat} {l : List Int} {s : RdS} (h : s.ok = false) : lsGo b m l s = (l, s) := by
  cases m with
  | zero => rfl
  | succ m => unfold lsGo; rw [h]; rfl
theorem lsGo_step {b : List UInt8} {m : Nat} {l : List Int} {s : RdS} (h : s.ok = true) : lsGo b (m + 1) l s = lsGo b m (l ++ [fixV b s]) (fixS b s) := by
  rw [lsGo.eq_2, h]; rfl
theorem fixS_le {b : List UInt8} {s : RdS} (h : s.p ≤ b.length) : (fixS b s).p ≤ b.length := by
  unfold fixS; split
  · assumption
  · exact h
theorem lsI_le {b : List UInt8} {s : RdS} (h : s.p ≤ b.length) : (lsI b s).p ≤ b.length := by
  have := numS_le h
  unfold lsI; split <;> exact this
theorem lsGo_le {b : List UInt8} : ∀ {m : Nat} {l : List Int} {s : RdS}, s.p ≤ b.length → (lsGo b m l s).2.p ≤ b.length
  | 0, _, _, h => h
  | m + 1, l, s, h => by
    unfold lsGo
    split
    · exact lsGo_le (fixS_le h)
    · exact h
theorem lsR_le {b : List UInt8} {s : RdS} (h : s.p ≤ b.length) : (lsR b s).2.p ≤ b.length := lsGo_le (lsI_le h)
theorem lsI_n {b : List UInt8} {s : RdS} (h : (lsI b s).ok = true) : lsN b s ≤ 400 := by
  unfold lsI at h
  split at h
  · cases h
  · omega
theorem lsGo_len {b : List UInt8} : ∀ {m : Nat} {l : List Int} {s : RdS}, (s.ok = true → l.length + m ≤ 400) → l.length ≤ 400 → (lsGo b m l s).1.length ≤ 400
  | 0, _, _, _, h => h
  | m + 1, l, s, h1, h2 => by
    unfold lsGo
    split
    · rename_i hs
      have := h1 hs
      exact lsGo_len (fun _ => by simp; omega) (by simp; omega)
    · exact h2
theorem lsR_len (b : List UInt8) (s : RdS) : (lsR b s).1.length ≤ 400 := lsGo_len (fun h => by have := lsI_n h; simpa using this) (by simp)
theorem gvN_max (b : List UInt8) (p : Nat) : 0 ≤ gvN b p ∧ gvN b p ≤ 281474976710655 := by
  cases h : gvK b p with
  | true => obtain ⟨n, k, _, e, _, _, h2, _⟩ := gv_facts h; omega
  | false =>
    have : gvO b p = none := by unfold gvK at h; cases h2 : gvO b p <;> simp_all
    rw [(gv_none this).1]; omega
theorem lsN_eq (b : List UInt8) (s : RdS) : gvN b s.p = ((lsN b s : Nat) : Int) := by
  have := gvN_max b s.p
  unfold lsN; omega
theorem lsN_max (b : List UInt8) (s : RdS) : lsN b s ≤ 281474976710655 := by
  have := gvN_max b s.p
  unfold lsN; omega

/-- What a list at a place is. -/
def lrO (b : List UInt8) (p : Nat) : Option (List Int × Nat) :=
  match gvO b p with
  | some (n, k) => if n ≤ 400 ∧ p + k + 6 * n ≤ b.length then some ((List.range n).map fun i => ((gf b (p + k + 6 * i) 6 : Nat) : Int), p + k + 6 * n) else none
  | none => none
def lrL (b : List UInt8) (p : Nat) : List Int := ((lrO b p).map (·.1)).getD []
def lrP (b : List UInt8) (p : Nat) : Nat := ((lrO b p).map (·.2)).getD 0
def lrB (b : List UInt8) (p : Nat) : Bool := (lrO b p).isSome

theorem lsGo_yes {b : List UInt8} : ∀ {m : Nat} {l : List Int} {p : Nat}, p + 6 * m ≤ b.length → lsGo b m l ⟨p, true⟩ = (l ++ (List.range m).map fun i => ((gf b (p + 6 * i) 6 : Nat) : Int), ⟨p + 6 * m, true⟩)
  | 0, l, p, _ => by simp [lsGo]
  | m + 1, l, p, h => by
    have h6 : p + 6 ≤ b.length := by omega
    have e1 : fixV b ⟨p, true⟩ = ((gf b p 6 : Nat) : Int) := by unfold fixV; rw [if_pos h6]
    have e2 : fixS b ⟨p, true⟩ = ⟨p + 6, true⟩ := by unfold fixS; rw [if_pos h6]
    rw [lsGo_step rfl, e1, e2, lsGo_yes (by omega), List.range_succ_eq_map, List.map_cons, List.map_map, List.append_assoc]
    have e3 : p + 6 + 6 * m = p + 6 * (m + 1) := by omega
    have e4 : ((fun i => ((gf b (p + 6 * i) 6 : Nat) : Int)) ∘ Nat.succ) = fun i => ((gf b (p + 6 + 6 * i) 6 : Nat) : Int) := by
      funext i
      show ((gf b (p + 6 * (i + 1)) 6 : Nat) : Int) = _
      rw [show p + 6 * (i + 1) = p + 6 + 6 * i by omega]
    rw [e3, e4]
    rfl
theorem lsGo_no {b : List UInt8} : ∀ {m : Nat} {l : List Int} {p : Nat}, ¬ p + 6 * m ≤ b.length → p ≤ b.length → (lsGo b m l ⟨p, true⟩).2.ok = false
  | 0, l, p, h, h' => absurd h' (by simpa using h)
  | m + 1, l, p, h, h' => by
    rw [lsGo_step rfl]
    by_cases h6 : p + 6 ≤ b.length
    · have e2 : fixS b ⟨p, true⟩ = ⟨p + 6, true⟩ := by unfold fixS; rw [if_pos h6]
      rw [e2]
      exact lsGo_no (by omega) h6
    · have e2 : fixS b ⟨p, true⟩ = ⟨p, false⟩ := by unfold fixS; rw [if_neg h6]
      rw [e2, lsGo_bad rfl]
theorem ls_bad {b : List UInt8} {s : RdS} (h : s.ok = false) : (lsR b s).2.ok = false := by
  have e : (lsI b s).ok = false := by
    unfold lsI
    split
    · rfl
    · exact numS_bad h
  unfold lsR
  rw [lsGo_bad e]; exact e
theorem ls_yes {b : List UInt8} {p : Nat} {l : List Int} {q : Nat} (h : lrO b p = some (l, q)) : lsR b ⟨p, true⟩ = (l, ⟨q, true⟩) := by
  unfold lrO at h
  cases hg : gvO b p with
  | none => rw [hg] at h; cases h
  | some x =>
    obtain ⟨n, k⟩ := x
    rw [hg] at h
    simp only at h
    split at h
    · rename_i hc
      obtain ⟨g1, g2, g3⟩ := gv_some hg
      have e0 : lsN b ⟨p, true⟩ = n := by unfold lsN; simp only [g1]; omega
      have e1 : numS b ⟨p, true⟩ = ⟨p + k, true⟩ := by
        unfold numS; simp only [g3, g2, if_true]; congr 1
      have e2 : lsI b ⟨p, true⟩ = ⟨p + k, true⟩ := by unfold lsI; rw [e0, if_neg (by omega), e1]
      unfold lsR
      rw [e0, e2, lsGo_yes hc.2]
      simp only [Option.some.injEq, Prod.mk.injEq] at h
      rw [List.nil_append, h.1, h.2]
    · cases h
theorem ls_no {b : List UInt8} {p : Nat} (h : lrO b p = none) (hp : p ≤ b.length) : (lsR b ⟨p, true⟩).2.ok = false := by
  cases hg : gvO b p with
  | none =>
    have g3 := (gv_none hg).2.2
    have e1 : (lsI b ⟨p, true⟩).ok = false := by
      have : numS b ⟨p, true⟩ = ⟨p, false⟩ := by unfold numS; simp [g3]
      unfold lsI; rw [this]; split <;> rfl
    unfold lsR
    rw [lsGo_bad e1]; exact e1
  | some x =>
    obtain ⟨n, k⟩ := x
    obtain ⟨g1, g2, g3⟩ := gv_some hg
    unfold lrO at h
    rw [hg] at h
    simp only at h
    split at h
    · cases h
    · rename_i hc
      have e0 : lsN b ⟨p, true⟩ = n := by unfold lsN; simp only [g1]; omega
      have e1 : numS b ⟨p, true⟩ = ⟨p + k, true⟩ := by
        unfold numS; simp only [g3, g2, if_true]; congr 1
      have hk : p + k ≤ b.length := by
        have := numS_le (b := b) (s := ⟨p, true⟩) hp
        rwa [e1] at this
      unfold lsR
      by_cases hn : 400 < n
      · have e2 : lsI b ⟨p, true⟩ = ⟨p + k, false⟩ := by unfold lsI; rw [e0, if_pos hn, e1]
        rw [e2, lsGo_bad rfl]
      · have e2 : lsI b ⟨p, true⟩ = ⟨p + k, true⟩ := by unfold lsI; rw [e0, if_neg hn, e1]
        rw [e0, e2]
        exact lsGo_no (by omega) hk
theorem lr_some {b : List UInt8} {p : Nat} (h : lrB b p = true) : lrO b p = some (lrL b p, lrP b p) := by
  unfold lrB at h
  obtain ⟨⟨l, q⟩, hq⟩ := Option.isSome_iff_exists.1 h
  unfold lrL lrP; rw [hq]; rfl
theorem lr_none {b : List UInt8} {p : Nat} (h : lrB b p = false) : lrO b p = none ∧ lrL b p = [] ∧ lrP b p = 0 := by
  have : lrO b p = none := by unfold lrB at h; cases h2 : lrO b p <;> simp_all
  unfold lrL lrP; rw [this]; exact ⟨rfl, rfl, rfl⟩
theorem lrP_le {b : List UInt8} {p : Nat} : lrP b p ≤ b.length ∧ (lrL b p).length ≤ 400 := by
  cases h : lrB b p with
  | false => rw [(lr_none h).2.1, (lr_none h).2.2]; simp
  | true =>
    have h1 := lr_some h
    unfold lrO at h1
    cases hg : gvO b p with
    | none => rw [hg] at h1; cases h1
    | some x =>
      obtain ⟨n, k⟩ := x
      rw [hg] at h1
      simp only at h1
      split at h1
      · rename_i hc
        simp only [Option.some.injEq, Prod.mk.injEq] at h1
        rw [← h1.1, ← h1.2]
        simp; omega
      · cases h1

/-- The program's way through a file of values. -/
def vrS (D : List UInt8) (k : Bool) : Nat → RdS
  | 0 => ⟨0, k⟩
  | 1 => numS D ⟨0, k⟩
  | 2 => numS D (numS D ⟨0, k⟩)
  | 3 => numS D (numS D (numS D ⟨0, k⟩))
  | 4 => (lsR D (numS D (numS D (numS D ⟨0, k⟩)))).2
  | 5 => (lsR D (lsR D (numS D (numS D (numS D ⟨0, k⟩)))).2).2
  | _ => numS D (lsR D (lsR D (numS D (numS D (numS D ⟨0, k⟩)))).2).2
theorem vrS_le (D : List UInt8) (k : Bool) (i : Nat) : (vrS D k i).p ≤ D.length := by
  have h0 : (⟨0, k⟩ : RdS).p ≤ D.length := Nat.zero_le _
  have h1 := numS_le h0
  have h2 := numS_le h1
  have h3 := numS_le h2
  have h4 := lsR_le h3
  have h5 := lsR_le h4
  have h6 := numS_le h5
  unfold vrS
  split <;> assumption
def vrV (D : List UInt8) (k : Bool) : ValuesD := ⟨⟨gvN D (vrS D k 0).p, gvN D (vrS D k 1).p⟩, gvN D (vrS D k 2).p, (lsR D (vrS D k 3)).1, (lsR D (vrS D k 4)).1, ⟨gvN D (vrS D k 5).p, D.drop (vrS D k 6).p⟩⟩
def vrC (b : List UInt8) : Bool := (vrS (foD b 2) (foB b 2) 6).ok
/-- What is read out of a file of values. -/
def vrB (b : List UInt8) : Bool := vrC b && (vfB (vrV (foD b 2) (foB b 2)) && decide (vfR (vrV (foD b 2) (foB b 2)) = b))
def vrR (b : List UInt8) : ValuesD := if vrB b then vrV (foD b 2) (foB b 2) else ⟨⟨0, 0⟩, 0, [], [], ⟨0, []⟩⟩
theorem vr_no {b : List UInt8} (h : vrB b = false) : vrR b = ⟨⟨0, 0⟩, 0, [], [], ⟨0, []⟩⟩ := by unfold vrR; rw [h]; rfl
theorem vr_yes {b : List UInt8} (h : vrB b = true) : vrR b = vrV (foD b 2) (foB b 2) := by unfold vrR; rw [h]; rfl
theorem foD_len (b : List UInt8) (k : Int) : (foD b k).length ≤ 60000 := by
  unfold foD; split
  · exact frD_len b
  · simp

end Go.Proofs.Ytcbnfkbnbdbfoaa
