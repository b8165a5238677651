/-
  Farms read: plain. No conditions of its own.
-/
import Derived.Test.YtcbnfkbnbdbfoaaGR1
namespace Go.Proofs.Ytcbnfkbnbdbfoaa
set_option linter.unusedSimpArgs false
set_option linter.unusedVariables false
set_option linter.unusedSimpArgs false
set_option linter.unusedVariables false
set_option linter.defProp false
open Go.RowKit

noncomputable def fgGo (b : List UInt8) : Nat → List ShardD → RdS → List ShardD × RdS
  | 0, l, s => (l, s)
  | m + 1, l, s => if s.ok then fgGo b m (l ++ [siD b s]) (siS b s) else (l, s)
noncomputable def fgGoS (b : List UInt8) : Nat → List ShardD → RdS → List ShardD × RdS
  | 0, l, s => (l, s)
  | m + 1, l, s => if s.ok then fgGoS b m (l ++ [shD b s.p]) ⟨shP b s.p, shK b s.p⟩ else (l, s)
theorem fgGo_bad {b : List UInt8} {m : Nat} {l : List ShardD} {s : RdS} (h : s.ok = false) : fgGo b m l s = (l, s) := by
  cases m with
  | zero => rfl
  | succ m => unfold fgGo; rw [h]; rfl
theorem fgGo_step {b : List UInt8} {m : Nat} {l : List ShardD} {s : RdS} (h : s.ok = true) : fgGo b (m + 1) l s = fgGo b m (l ++ [siD b s]) (siS b s) := by
  rw [fgGo.eq_2, h]; rfl
theorem fgGoS_bad {b : List UInt8} {m : Nat} {l : List ShardD} {s : RdS} (h : s.ok = false) : fgGoS b m l s = (l, s) := by
  cases m with
  | zero => rfl
  | succ m => unfold fgGoS; rw [h]; rfl
theorem fgGoS_step {b : List UInt8} {m : Nat} {l : List ShardD} {s : RdS} (h : s.ok = true) : fgGoS b (m + 1) l s = fgGoS b m (l ++ [shD b s.p]) ⟨shP b s.p, shK b s.p⟩ := by
  rw [fgGoS.eq_2, h]; rfl

theorem fg_both {b : List UInt8} : ∀ (m : Nat) (l : List ShardD) (s : RdS), s.ok = true → s.p ≤ b.length →
    ((fgGo b m l s).2.ok = false ∧ (fgGoS b m l s).2.ok = false) ∨ (fgGoS b m l s = fgGo b m l s ∧ (fgGo b m l s).2.ok = true ∧ ∃ l', (fgGo b m l s).1 = l ++ l' ∧ l'.length = m ∧ AtB b s.p (fgGo b m l s).2.p (l'.flatMap shB))
  | 0, l, s, ho, hp => .inr ⟨rfl, ho, [], by simp [fgGo], rfl, AtB.nil hp⟩
  | m + 1, l, s, ho, hp => by
    rw [fgGo_step ho, fgGoS_step ho]
    obtain ⟨p, o⟩ := s
    dsimp only at ho hp
    subst ho
    dsimp only
    have hks : (siS b ⟨p, true⟩).ok = shK b p := rfl
    cases hk : shK b p with
    | false =>
      rw [hk] at hks
      rw [fgGo_bad hks, fgGoS_bad (by rfl)]
      exact .inl ⟨hks, rfl⟩
    | true =>
      obtain ⟨f1, f2⟩ := sh_yes hk
      rcases sh_law (b := b) hp with ⟨_, h⟩ | ⟨_, _, h⟩ | ⟨_, _, _, a1, a2, a3, a4⟩
      · rw [h] at hk; cases hk
      · rw [h] at hk; cases hk
      · have e : siS b ⟨p, true⟩ = ⟨shP b p, true⟩ := by
          rw [f2]
          rw [hk] at hks
          generalize siS b ⟨p, true⟩ = s at hks ⊢
          obtain ⟨q, o⟩ := s
          dsimp only at hks ⊢
          rw [hks]
        rw [e, ← f1]
        rw [← a1] at a4
        rcases fg_both m (l ++ [shD b p]) ⟨shP b p, true⟩ rfl (shP_le hp) with h | ⟨h1, h2, l', h3, h4, h5⟩
        · exact .inl h
        · exact .inr ⟨h1, h2, shD b p :: l', by rw [h3, List.append_assoc]; rfl, by rw [List.length_cons, h4], by rw [List.flatMap_cons]; exact a4.trans h5⟩

def hiE (l : List ShardD) : List Int := l.map (·.Hi)
/-- The farm in the data of a file: by the program, by the reference. -/
def giN (D : List UInt8) (s : RdS) : Nat := (gvN D (numS D s).p).toNat
noncomputable def giR (D : List UInt8) (s : RdS) : List ShardD × RdS := fgGo D (giN D s) [] (numS D (numS D s))
noncomputable def giF (D : List UInt8) (s : RdS) : FarmD := ⟨gvN D s.p, hiE (giR D s).1, (giR D s).1⟩
def gsN (D : List UInt8) (s : RdS) : Nat := (varN D (varS D s)).toNat
noncomputable def gsR (D : List UInt8) (s : RdS) : List ShardD × RdS := fgGoS D (gsN D s) [] (varS D (varS D s))
noncomputable def gsF (D : List UInt8) (s : RdS) : FarmD := ⟨varN D s, hiE (gsR D s).1, (gsR D s).1⟩

noncomputable def grP (b : List UInt8) : Prop := (giR (foD b 1) ⟨0, foB b 1⟩).2.ok = true ∧ (giR (foD b 1) ⟨0, foB b 1⟩).2.p = (foD b 1).length ∧ FarmOk (giF (foD b 1) ⟨0, foB b 1⟩)
noncomputable def grB (b : List UInt8) : Bool := pB (grP b)
noncomputable def grR (b : List UInt8) : FarmD := if grB b then giF (foD b 1) ⟨0, foB b 1⟩ else ⟨0, [], []⟩
theorem gr_no {b : List UInt8} (h : ¬ grP b) : grB b = false ∧ grR b = ⟨0, [], []⟩ := by
  have e : grB b = false := pB_f h
  unfold grR; rw [e]; exact ⟨rfl, rfl⟩
theorem gr_yes {b : List UInt8} (h : grP b) : grB b = true ∧ grR b = giF (foD b 1) ⟨0, foB b 1⟩ := by
  have e : grB b = true := pB_t h
  unfold grR; rw [e]; exact ⟨rfl, rfl⟩
theorem giR_bad {D : List UInt8} {s : RdS} (h : (numS D (numS D s)).ok = false) : (giR D s).2.ok = false := by
  unfold giR; rw [fgGo_bad h]; exact h
theorem gr_bad {b : List UInt8} (h : foB b 1 = false) : ¬ grP b := by
  intro hg
  obtain ⟨h1, _⟩ := hg
  rw [h, giR_bad (numS_bad (numS_bad rfl))] at h1
  cases h1

theorem fo_canon {b : List UInt8} (h : foB b 1 = true) : b = fbL 1 (foD b 1) := by
  have hd : foD b 1 = frD b := by unfold foD; rw [h]; rfl
  unfold foB at h
  rw [decide_eq_true_eq] at h
  obtain ⟨h1, h2, h3⟩ := h
  obtain ⟨a1, a2, a3, a4⟩ := fr_c0 h1
  obtain ⟨s1, s2, s3⟩ := fr_some h1
  have hl := (fr_law a1 a2 a3).2 a4
  have hk : fkN b = 1 := by rw [s1] at h3; omega
  have hb : 20 + fnN b = b.length := by rw [s2] at h2; omega
  rw [hk, hb, List.take_length] at hl
  rw [hd, s3]
  exact hl.symm

/-- What the reference finds is what the program finds. -/
theorem gs_law {b : List UInt8} (h : foB b 1 = true) :
    (¬ grP b ∧ ((gsR (foD b 1) ⟨0, true⟩).2.ok = false ∨ ((gsR (foD b 1) ⟨0, true⟩).2.ok = true ∧ (¬ FarmOk (gsF (foD b 1) ⟨0, true⟩) ∨ (FarmOk (gsF (foD b 1) ⟨0, true⟩) ∧ gfR (gsF (foD b 1) ⟨0, true⟩) ≠ b)))))
    ∨ (grP b ∧ (gsR (foD b 1) ⟨0, true⟩).2.ok = true ∧ FarmOk (gsF (foD b 1) ⟨0, true⟩) ∧ gfR (gsF (foD b 1) ⟨0, true⟩) = b ∧ gsF (foD b 1) ⟨0, true⟩ = giF (foD b 1) ⟨0, true⟩) := by
  have hcan := fo_canon h
  unfold grP
  rw [h]
  generalize foD b 1 = D at hcan ⊢
  subst hcan
  rcases nm_both (b := D) (s := ⟨0, true⟩) rfl with ⟨a1, a2⟩ | ⟨n1, q1, a1, a2, a3, a4, a5, a6, a7⟩
  · have e : (giR D ⟨0, true⟩).2.ok = false := giR_bad (numS_bad a1)
    refine .inl ⟨fun hg => (by rw [hg.1] at e; cases e), .inl ?_⟩
    unfold gsR; rw [fgGoS_bad (varS_bad a2)]; exact varS_bad a2
  rcases nm_both (b := D) (s := ⟨q1, true⟩) rfl with ⟨b1, b2⟩ | ⟨n2, q2, b1, b2, b3, b4, b5, b6, b7⟩
  · have e : (giR D ⟨0, true⟩).2.ok = false := giR_bad (by rw [a1]; exact b1)
    refine .inl ⟨fun hg => (by rw [hg.1] at e; cases e), .inl ?_⟩
    unfold gsR; rw [a2, fgGoS_bad b2]; exact b2
  have eN : giN D ⟨0, true⟩ = n2 := by unfold giN; rw [a1, b3]; rfl
  have eM : gsN D ⟨0, true⟩ = n2 := by unfold gsN; rw [a2, b4]; rfl
  have eR : giR D ⟨0, true⟩ = fgGo D n2 [] ⟨q2, true⟩ := by unfold giR; rw [eN, a1, b1]
  have eS : gsR D ⟨0, true⟩ = fgGoS D n2 [] ⟨q2, true⟩ := by unfold gsR; rw [eM, a2, b2]
  rcases fg_both (b := D) n2 [] ⟨q2, true⟩ rfl b7.2.1 with ⟨h1, h2⟩ | ⟨h1, h2, l', h3, h4, h5⟩
  · rw [← eR] at h1
    rw [← eS] at h2
    exact .inl ⟨fun hg => (by rw [hg.1] at h1; cases h1), .inl h2⟩
  · have e : gsR D ⟨0, true⟩ = giR D ⟨0, true⟩ := by rw [eS, eR, h1]
    rw [← eR] at h2 h3 h5
    rw [List.nil_append] at h3
    have eF : gsF D ⟨0, true⟩ = giF D ⟨0, true⟩ := by
      unfold gsF giF
      rw [e, a3, a4]
    have eG : giF D ⟨0, true⟩ = ⟨n1, hiE l', l'⟩ := by unfold giF; rw [a3, h3]
    rw [eF, e]
    by_cases ho : FarmOk (giF D ⟨0, true⟩)
    case neg => exact .inl ⟨fun hg => ho hg.2.2, .inr ⟨h2, .inl ho⟩⟩
    case pos =>
      have hA := (a7.trans b7).trans h5
      have hel : (hiE l').length = n2 := by unfold hiE; rw [List.length_map, h4]
      have eD : gfD (giF D ⟨0, true⟩) = D.take (giR D ⟨0, true⟩).2.p := by
        unfold gfD gfT
        rw [eG]
        dsimp only
        rw [List.take_length, hel, Int.toNat_natCast, ← hA.2.2]
        simp
      have g := gf_ok ho
      have gx := gfT_max g (Nat.le_refl _)
      change (gfD (giF D ⟨0, true⟩)).length ≤ _ at gx
      have eW : gfR (giF D ⟨0, true⟩) = fbL 1 (D.take (giR D ⟨0, true⟩).2.p) := by
        rw [(gf_yes ho).2, eD]
        rw [eD] at gx
        unfold fbR frO
        rw [decide_eq_true ⟨by omega, by omega, by omega⟩]
        rfl
      rw [eW]
      by_cases hq : (giR D ⟨0, true⟩).2.p = D.length
      · refine .inr ⟨⟨h2, hq, ho⟩, h2, ho, ?_, rfl⟩
        rw [hq, List.take_length]
      · refine .inl ⟨fun hg => hq hg.2.1, .inr ⟨h2, .inr ⟨ho, fun hw => ?_⟩⟩⟩
        have hl := congrArg List.length hw
        rw [fbL_len, fbL_len, List.length_take] at hl
        have := h5.2.1
        omega

end Go.Proofs.Ytcbnfkbnbdbfoaa
