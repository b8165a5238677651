/-
  Shards and farms read: plain. No conditions of its own.
-/
import Derived.Test.YtcbnfkbnbdbfoaaVR1
import Derived.Test.YtcbnfkbnbdbfoaaP3
namespace Go.Proofs.Ytcbnfkbnbdbfoaa
set_option linter.unusedSimpArgs false
set_option linter.unusedVariables false
set_option linter.unusedSimpArgs false
set_option linter.unusedVariables false
set_option linter.defProp false
open Go.RowKit

def uz (n : Int) : Int := if n % 2 = 0 then n / 2 else -(n / 2) - 1
theorem uz_zig {n : Nat} : zigN (uz (n : Int)) = n := by
  unfold uz
  split
  · rename_i h
    unfold zigN; rw [if_pos (by omega)]; omega
  · rename_i h
    unfold zigN; rw [if_neg (by omega)]; omega
theorem uz_bd {n : Int} (h : 0 ≤ n ∧ n ≤ 281474976710655) : -281474976710656 ≤ uz n ∧ uz n ≤ 281474976710656 := by
  unfold uz; split <;> omega
theorem uz_zero : uz 0 = 0 := rfl

/-- The bytes from p to q. -/
def AtB (b : List UInt8) (p q : Nat) (l : List UInt8) : Prop := p ≤ q ∧ q ≤ b.length ∧ (b.drop p).take (q - p) = l
theorem AtB.nil {b : List UInt8} {p : Nat} (h : p ≤ b.length) : AtB b p p [] := ⟨Nat.le_refl _, h, by simp⟩
theorem AtB.trans {b : List UInt8} {p q r : Nat} {l m : List UInt8} (h : AtB b p q l) (k : AtB b q r m) : AtB b p r (l ++ m) := by
  obtain ⟨h1, h2, h3⟩ := h
  obtain ⟨k1, k2, k3⟩ := k
  refine ⟨by omega, k2, ?_⟩
  rw [show r - p = (q - p) + (r - q) by omega, List.take_add, h3, List.drop_drop, show p + (q - p) = q by omega, k3]

theorem nm_both {b : List UInt8} {s : RdS} (ho : s.ok = true) : ((numS b s).ok = false ∧ (varS b s).ok = false) ∨ (∃ n q : Nat, numS b s = ⟨q, true⟩ ∧ varS b s = ⟨q, true⟩ ∧ gvN b s.p = n ∧ varN b s = n ∧ n ≤ 281474976710655 ∧ s.p + 1 ≤ q ∧ AtB b s.p q (varB n)) := by
  obtain ⟨p, o⟩ := s
  dsimp only at ho
  subst ho
  cases hk : gvK b p with
  | false =>
    refine .inl ⟨?_, ?_⟩
    · unfold numS; rw [hk]; rfl
    · unfold varS; rw [hk]; rfl
  | true =>
    obtain ⟨n, m, _, e1, e2, hle, hn, hv⟩ := gv_facts hk
    have e3 : numS b ⟨p, true⟩ = ⟨p + m, true⟩ := by unfold numS; rw [hk, e2]; rfl
    have e4 : varS b ⟨p, true⟩ = ⟨p + m, true⟩ := by unfold varS; rw [hk, e2]; rfl
    have e5 : varN b ⟨p, true⟩ = gvN b p := by unfold varN; rw [hk]; rfl
    have hm : 1 ≤ m := by
      rcases Nat.eq_zero_or_pos m with h0 | h0
      · subst h0
        exact absurd (by rw [hv]; simp) (varB_ne n)
      · exact h0
    exact .inr ⟨n, p + m, e3, e4, e1, by rw [e5]; exact e1, hn, by dsimp only; omega, by dsimp only; omega, hle, by rw [hv]; congr 1; dsimp only; omega⟩

/-- An edge behind another one, read: by the program, by the reference. -/
def egI (b : List UInt8) (z : SEdgeD) (s : RdS) : SEdgeD × RdS := (⟨z.From + gvN b s.p, z.To + uz (gvN b (numS b s).p), gvN b (numS b (numS b s)).p, z.Index + uz (gvN b (numS b (numS b (numS b s))).p), 0⟩, numS b (numS b (numS b (numS b s))))
def egS (b : List UInt8) (z : SEdgeD) (s : RdS) : SEdgeD × RdS := (⟨z.From + varN b s, z.To + uz (varN b (varS b s)), varN b (varS b (varS b s)), z.Index + uz (varN b (varS b (varS b (varS b s)))), 0⟩, varS b (varS b (varS b (varS b s))))

theorem eg_both {b : List UInt8} {z : SEdgeD} {s : RdS} (ho : s.ok = true) : ((egI b z s).2.ok = false ∧ (egS b z s).2.ok = false) ∨ (egS b z s = egI b z s ∧ (egI b z s).2.ok = true ∧ s.p + 4 ≤ (egI b z s).2.p ∧ AtB b s.p (egI b z s).2.p (sEB z (egI b z s).1)) := by
  unfold egI egS
  rcases nm_both (b := b) ho with ⟨a1, a2⟩ | ⟨n1, q1, a1, a2, a3, a4, a5, a6, a7⟩
  · exact .inl ⟨numS_bad (numS_bad (numS_bad a1)), varS_bad (varS_bad (varS_bad a2))⟩
  rw [a1, a2, a3, a4]
  rcases nm_both (b := b) (s := ⟨q1, true⟩) rfl with ⟨b1, b2⟩ | ⟨n2, q2, b1, b2, b3, b4, b5, b6, b7⟩
  · exact .inl ⟨numS_bad (numS_bad b1), varS_bad (varS_bad b2)⟩
  rw [b1, b2, b3, b4]
  rcases nm_both (b := b) (s := ⟨q2, true⟩) rfl with ⟨c1, c2⟩ | ⟨n3, q3, c1, c2, c3, c4, c5, c6, c7⟩
  · exact .inl ⟨numS_bad c1, varS_bad c2⟩
  rw [c1, c2, c3, c4]
  rcases nm_both (b := b) (s := ⟨q3, true⟩) rfl with ⟨d1, d2⟩ | ⟨n4, q4, d1, d2, d3, d4, d5, d6, d7⟩
  · exact .inl ⟨d1, d2⟩
  rw [d1, d2, d3, d4]
  dsimp only at *
  refine .inr ⟨rfl, rfl, by omega, ?_⟩
  have h := ((a7.trans b7).trans c7).trans d7
  unfold sEB
  dsimp only
  rw [show z.From + (n1 : Int) - z.From = n1 by omega, show z.To + uz (n2 : Int) - z.To = uz n2 by omega, show z.Index + uz (n4 : Int) - z.Index = uz n4 by omega, uz_zig, uz_zig, Int.toNat_natCast, Int.toNat_natCast]
  exact h
theorem egI_le {b : List UInt8} {z : SEdgeD} {s : RdS} (h : s.p ≤ b.length) : (egI b z s).2.p ≤ b.length := numS_le (numS_le (numS_le (numS_le h)))
theorem egS_le {b : List UInt8} {z : SEdgeD} {s : RdS} (h : s.p ≤ b.length) : (egS b z s).2.p ≤ b.length := varS_le (varS_le (varS_le (varS_le h)))

def shGo (b : List UInt8) : Nat → List SEdgeD → SEdgeD → RdS → List SEdgeD × RdS
  | 0, l, _, s => (l, s)
  | m + 1, l, z, s => if s.ok then shGo b m (l ++ [(egI b z s).1]) (egI b z s).1 (egI b z s).2 else (l, s)
def shGoS (b : List UInt8) : Nat → List SEdgeD → SEdgeD → RdS → List SEdgeD × RdS
  | 0, l, _, s => (l, s)
  | m + 1, l, z, s => if s.ok then shGoS b m (l ++ [(egS b z s).1]) (egS b z s).1 (egS b z s).2 else (l, s)
theorem shGo_bad {b : List UInt8} {m : Nat} {l : List SEdgeD} {z : SEdgeD} {s : RdS} (h : s.ok = false) : shGo b m l z s = (l, s) := by
  cases m with
  | zero => rfl
  | succ m => unfold shGo; rw [h]; rfl
theorem shGo_step {b : List UInt8} {m : Nat} {l : List SEdgeD} {z : SEdgeD} {s : RdS} (h : s.ok = true) : shGo b (m + 1) l z s = shGo b m (l ++ [(egI b z s).1]) (egI b z s).1 (egI b z s).2 := by
  rw [shGo.eq_2, h]; rfl
theorem shGoS_bad {b : List UInt8} {m : Nat} {l : List SEdgeD} {z : SEdgeD} {s : RdS} (h : s.ok = false) : shGoS b m l z s = (l, s) := by
  cases m with
  | zero => rfl
  | succ m => unfold shGoS; rw [h]; rfl
theorem shGoS_step {b : List UInt8} {m : Nat} {l : List SEdgeD} {z : SEdgeD} {s : RdS} (h : s.ok = true) : shGoS b (m + 1) l z s = shGoS b m (l ++ [(egS b z s).1]) (egS b z s).1 (egS b z s).2 := by
  rw [shGoS.eq_2, h]; rfl
theorem shGo_le {b : List UInt8} : ∀ {m : Nat} {l : List SEdgeD} {z : SEdgeD} {s : RdS}, s.p ≤ b.length → (shGo b m l z s).2.p ≤ b.length
  | 0, _, _, _, h => h
  | m + 1, l, z, s, h => by
    unfold shGo; split
    · exact shGo_le (egI_le h)
    · exact h

theorem shGo_both {b : List UInt8} : ∀ (m : Nat) (l : List SEdgeD) (z : SEdgeD) (s : RdS), s.ok = true → s.p ≤ b.length →
    ((shGo b m l z s).2.ok = false ∧ (shGoS b m l z s).2.ok = false) ∨ (shGoS b m l z s = shGo b m l z s ∧ (shGo b m l z s).2.ok = true ∧ ∃ l', (shGo b m l z s).1 = l ++ l' ∧ l'.length = m ∧ AtB b s.p (shGo b m l z s).2.p (edB z l'))
  | 0, l, z, s, ho, hp => .inr ⟨rfl, ho, [], by simp [shGo], rfl, AtB.nil hp⟩
  | m + 1, l, z, s, ho, hp => by
    rw [shGo_step ho, shGoS_step ho]
    rcases eg_both (b := b) (z := z) ho with ⟨a1, a2⟩ | ⟨a1, a2, a3, a4⟩
    · rw [shGo_bad a1, shGoS_bad a2]
      exact .inl ⟨a1, a2⟩
    · rw [a1]
      rcases shGo_both m (l ++ [(egI b z s).1]) (egI b z s).1 (egI b z s).2 a2 (egI_le hp) with h | ⟨h1, h2, l', h3, h4, h5⟩
      · exact .inl h
      · exact .inr ⟨h1, h2, (egI b z s).1 :: l', by rw [h3, List.append_assoc]; rfl, by rw [List.length_cons, h4], a4.trans h5⟩

/-- A shard read: by the program, by the reference. -/
def siN (b : List UInt8) (s : RdS) : Nat := (gvN b (numS b (numS b s)).p).toNat
def siT (b : List UInt8) (s : RdS) : RdS := if 400 < siN b s then ⟨(numS b (numS b (numS b s))).p, false⟩ else numS b (numS b (numS b s))
def siR (b : List UInt8) (s : RdS) : List SEdgeD × RdS := shGo b (siN b s) [] ⟨0, gvN b s.p, 0, 0, 0⟩ (siT b s)
def siD (b : List UInt8) (s : RdS) : ShardD := ⟨gvN b s.p, gvN b (numS b s).p, (siR b s).1⟩
noncomputable def siS (b : List UInt8) (s : RdS) : RdS := ⟨(siR b s).2.p, (siR b s).2.ok && pB (ShOk (siD b s))⟩
def ssN (b : List UInt8) (s : RdS) : Nat := (varN b (varS b (varS b s))).toNat
def ssR (b : List UInt8) (s : RdS) : List SEdgeD × RdS := shGoS b (ssN b s) [] ⟨0, varN b s, 0, 0, 0⟩ (varS b (varS b (varS b s)))
def ssD (b : List UInt8) (s : RdS) : ShardD := ⟨varN b s, varN b (varS b s), (ssR b s).1⟩

/-- What a shard at a place is. -/
noncomputable def shK (b : List UInt8) (p : Nat) : Bool := (siS b ⟨p, true⟩).ok
noncomputable def shD (b : List UInt8) (p : Nat) : ShardD := if shK b p then siD b ⟨p, true⟩ else ⟨0, 0, []⟩
noncomputable def shP (b : List UInt8) (p : Nat) : Nat := if shK b p then (siS b ⟨p, true⟩).p else 0
theorem sh_no {b : List UInt8} {p : Nat} (h : shK b p = false) : shD b p = ⟨0, 0, []⟩ ∧ shP b p = 0 := by
  unfold shD shP; rw [h]; exact ⟨rfl, rfl⟩
theorem sh_yes {b : List UInt8} {p : Nat} (h : shK b p = true) : shD b p = siD b ⟨p, true⟩ ∧ shP b p = (siS b ⟨p, true⟩).p := by
  unfold shD shP; rw [h]; exact ⟨rfl, rfl⟩
theorem siR_bad {b : List UInt8} {s : RdS} (h : (numS b (numS b (numS b s))).ok = false) : (siR b s).2.ok = false := by
  have e : (siT b s).ok = false := by
    unfold siT; split
    · rfl
    · exact h
  unfold siR; rw [shGo_bad e]; exact e
theorem siT_le {b : List UInt8} {s : RdS} (h : s.p ≤ b.length) : (siT b s).p ≤ b.length := by
  have := numS_le (numS_le (numS_le h))
  unfold siT; split <;> exact this
theorem siS_le {b : List UInt8} {s : RdS} (h : s.p ≤ b.length) : (siS b s).p ≤ b.length := shGo_le (siT_le h)
theorem siS_bad {b : List UInt8} {s : RdS} (h : s.ok = false) : (siS b s).ok = false := by
  unfold siS; rw [siR_bad (numS_bad (numS_bad (numS_bad h)))]; rfl
theorem shP_le {b : List UInt8} {p : Nat} (h : p ≤ b.length) : shP b p ≤ b.length := by
  unfold shP; split
  · exact siS_le h
  · omega

theorem sh_law {b : List UInt8} {p : Nat} (hp : p ≤ b.length) :
    ((ssR b ⟨p, true⟩).2.ok = false ∧ shK b p = false) ∨ ((ssR b ⟨p, true⟩).2.ok = true ∧ ¬ ShOk (ssD b ⟨p, true⟩) ∧ shK b p = false)
    ∨ ((ssR b ⟨p, true⟩).2.ok = true ∧ ShOk (ssD b ⟨p, true⟩) ∧ shK b p = true ∧ shD b p = ssD b ⟨p, true⟩ ∧ shP b p = (ssR b ⟨p, true⟩).2.p ∧ p + 3 ≤ shP b p ∧ AtB b p (shP b p) (shB (ssD b ⟨p, true⟩))) := by
  have hno : ∀ h : (siR b ⟨p, true⟩).2.ok = false, shK b p = false := fun h => by unfold shK siS; rw [h]; rfl
  rcases nm_both (b := b) (s := ⟨p, true⟩) rfl with ⟨a1, a2⟩ | ⟨n1, q1, a1, a2, a3, a4, a5, a6, a7⟩
  · exact .inl ⟨by unfold ssR; rw [shGoS_bad (varS_bad (varS_bad a2))]; exact varS_bad (varS_bad a2), hno (siR_bad (numS_bad (numS_bad a1)))⟩
  rcases nm_both (b := b) (s := ⟨q1, true⟩) rfl with ⟨b1, b2⟩ | ⟨n2, q2, b1, b2, b3, b4, b5, b6, b7⟩
  · exact .inl ⟨by unfold ssR; rw [a2, shGoS_bad (varS_bad b2)]; exact varS_bad b2, hno (siR_bad (by rw [a1]; exact numS_bad b1))⟩
  rcases nm_both (b := b) (s := ⟨q2, true⟩) rfl with ⟨c1, c2⟩ | ⟨n3, q3, c1, c2, c3, c4, c5, c6, c7⟩
  · exact .inl ⟨by unfold ssR; rw [a2, b2, shGoS_bad c2]; exact c2, hno (siR_bad (by rw [a1, b1]; exact c1))⟩
  have eN : siN b ⟨p, true⟩ = n3 := by unfold siN; rw [a1, b1, c3]; rfl
  have eM : ssN b ⟨p, true⟩ = n3 := by unfold ssN; rw [a2, b2, c4]; rfl
  have eS : ssR b ⟨p, true⟩ = shGoS b n3 [] ⟨0, n1, 0, 0, 0⟩ ⟨q3, true⟩ := by unfold ssR; rw [eM, a2, b2, c2, a4]
  have eD : ssD b ⟨p, true⟩ = ⟨n1, n2, (ssR b ⟨p, true⟩).1⟩ := by unfold ssD; rw [a4, a2, b4]
  have eE : siD b ⟨p, true⟩ = ⟨n1, n2, (siR b ⟨p, true⟩).1⟩ := by unfold siD; rw [a3, a1, b3]
  have hq3 : q3 ≤ b.length := c7.2.1
  have both := shGo_both (b := b) n3 [] ⟨0, n1, 0, 0, 0⟩ ⟨q3, true⟩ rfl hq3
  by_cases h4 : 400 < n3
  · have hb : shK b p = false := hno (by unfold siR siT; rw [eN, if_pos h4, shGo_bad rfl])
    cases hk : (ssR b ⟨p, true⟩).2.ok with
    | false => exact .inl ⟨rfl, hb⟩
    | true =>
      refine .inr (.inl ⟨rfl, fun ho => ?_, hb⟩)
      rcases both with ⟨_, h2⟩ | ⟨h1, _, l', h3, h4', _⟩
      · rw [eS] at hk; rw [hk] at h2; cases h2
      · have := ho.1
        unfold shHead at this
        rw [eD, eS, h1, h3] at this
        simp at this
        omega
  · have eR : siR b ⟨p, true⟩ = shGo b n3 [] ⟨0, n1, 0, 0, 0⟩ ⟨q3, true⟩ := by unfold siR siT; rw [eN, if_neg h4, a1, b1, c1, a3]
    rcases both with ⟨h1, h2⟩ | ⟨h1, h2, l', h3, h4', h5⟩
    · exact .inl ⟨by rw [eS]; exact h2, hno (by rw [eR]; exact h1)⟩
    · have e : ssR b ⟨p, true⟩ = siR b ⟨p, true⟩ := by rw [eS, eR, h1]
      have eDE : siD b ⟨p, true⟩ = ssD b ⟨p, true⟩ := by rw [eE, eD, e]
      have hk : (siR b ⟨p, true⟩).2.ok = true := by rw [eR]; exact h2
      by_cases ho : ShOk (ssD b ⟨p, true⟩)
      · have hK : shK b p = true := by unfold shK siS; rw [eDE, hk, pB_t ho]; rfl
        obtain ⟨f1, f2⟩ := sh_yes hK
        have f3 : (siS b ⟨p, true⟩).p = (siR b ⟨p, true⟩).2.p := rfl
        rw [f3] at f2
        rw [← eR] at h5
        have hA : AtB b p (siR b ⟨p, true⟩).2.p (shB (ssD b ⟨p, true⟩)) := by
          have := ((a7.trans b7).trans c7).trans h5
          unfold shB shH s0
          rw [eD, e]
          dsimp only
          rw [eR, h3]
          simp only [List.nil_append, Int.toNat_natCast, h4']
          rw [← eR]
          exact this
        refine .inr (.inr ⟨by rw [e]; exact hk, ho, hK, by rw [f1, eDE], by rw [f2, e], ?_, by rw [f2]; exact hA⟩)
        have := h5.1
        rw [f2]
        dsimp only at *
        omega
      · exact .inr (.inl ⟨by rw [e]; exact hk, ho, by unfold shK siS; rw [eDE, pB_f ho, Bool.and_false]⟩)

end Go.Proofs.Ytcbnfkbnbdbfoaa
