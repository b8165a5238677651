/-
  Contracts: readers; a commit's data. No conditions of its own.
-/
import Derived.Test.YtcbnfkbnbdbfoaaGO
import Derived.Test.YtcbnfkbnbdbfoaaR4
import Derived.Test.YtcbnfkbnbdbfoaaDF
namespace Go.Proofs.Ytcbnfkbnbdbfoaa
set_option linter.unusedSimpArgs false
set_option linter.unusedVariables false
set_option linter.unusedSimpArgs false
set_option linter.unusedVariables false
set_option linter.defProp false
open Go.RowKit

/-- A reader's state: where it stands, and whether all is well. -/
structure RdS where
  p : Nat
  ok : Bool

def numS (b : List UInt8) (s : RdS) : RdS := if gvK b s.p then ⟨(gvP b s.p).toNat, s.ok⟩ else ⟨s.p, false⟩
def varS (b : List UInt8) (s : RdS) : RdS := if gvK b s.p && s.ok then ⟨(gvP b s.p).toNat, true⟩ else ⟨s.p, false⟩
def varN (b : List UInt8) (s : RdS) : Int := if gvK b s.p && s.ok then gvN b s.p else 0

theorem gv_facts {b : List UInt8} {p : Nat} (h : gvK b p = true) : ∃ n k, gvO b p = some (n, k) ∧ gvN b p = n ∧ gvP b p = ((p + k : Nat) : Int) ∧ p + k ≤ b.length ∧ n ≤ 281474976710655 ∧ varB n = (b.drop p).take k := by
  have h0 := h
  unfold gvK at h
  obtain ⟨⟨n, k⟩, hq⟩ := Option.isSome_iff_exists.1 h
  obtain ⟨e1, e2, _⟩ := gv_some hq
  refine ⟨n, k, hq, e1, e2, ?_⟩
  unfold gvO at hq
  split at hq
  case isFalse => cases hq
  case isTrue hp =>
    unfold getD7 at hq
    split at hq
    · cases hq
    · rename_i j hj
      unfold endI at hj
      rw [List.find?_range_eq_some] at hj
      obtain ⟨h1, h2, h3⟩ := hj
      rw [decide_eq_true_eq] at h1
      obtain ⟨h4, h5⟩ := h1
      have h2' : j < 7 := by simpa using h2
      rw [List.length_drop] at h4
      have hl : p + j < b.length := by omega
      rw [drop_getD hl] at h5
      have hhi : hiTo b p j := fun i hi => by
        have := h3 i hi
        rw [Bool.not_eq_true', decide_eq_false_iff_not] at this
        rw [List.length_drop] at this
        omega
      split at hq
      · cases hq
      · rename_i hno
        simp only [Option.some.injEq, Prod.mk.injEq] at hq
        obtain ⟨rfl, rfl⟩ := hq
        have hc := (canon_iff hl hhi h5).2 (by
          rw [drop_getD hl] at hno
          by_cases hj0 : j = 0
          · exact .inl hj0
          · refine .inr fun h0 => hno (.inl ⟨?_, by omega⟩)
            rw [← u8_of h0]; rfl)
        exact ⟨by omega, by omega, hc⟩

theorem numS_le {b : List UInt8} {s : RdS} (h : s.p ≤ b.length) : (numS b s).p ≤ b.length := by
  unfold numS
  split
  · rename_i hk
    obtain ⟨n, k, _, _, e, hle, _⟩ := gv_facts hk
    rw [e]
    show ((s.p + k : Nat) : Int).toNat ≤ b.length
    omega
  · exact h
theorem varS_le {b : List UInt8} {s : RdS} (h : s.p ≤ b.length) : (varS b s).p ≤ b.length := by
  unfold varS
  split
  · rename_i hk
    rw [Bool.and_eq_true] at hk
    obtain ⟨n, k, _, _, e, hle, _⟩ := gv_facts hk.1
    rw [e]
    show ((s.p + k : Nat) : Int).toNat ≤ b.length
    omega
  · exact h

set_option maxHeartbeats 2000000 in
theorem num_k (b : List UInt8) (s : RdS) (hb : b.length ≤ 1048576) (hp : s.p ≤ b.length) : FnOK Try.prog 83 ⟨2, [(0, some (.ro (b.map bytK))), (1, some (.box 119 [.sl 0 1 0 b.length, .v (.int .i64 (s.p : Int)), .v (.bool s.ok)]))], [.c (.ptr 1 0 0)], .c (.v (.int .i64 (gvN b s.p))),
    [(1, some (.box 119 [.sl 0 1 0 b.length, .v (.int .i64 ((numS b s).p : Int)), .v (.bool (numS b s).ok)]))], 2⟩ := by
  have c := implGetVar_k b s.p (by omega) (by omega)
  cases hk : gvK b s.p with
  | false =>
    have e : numS b s = ⟨s.p, false⟩ := by unfold numS; rw [hk]; rfl
    have e0 : gvN b s.p = 0 := by
      have : gvO b s.p = none := by unfold gvK at hk; cases h : gvO b s.p <;> simp_all
      exact (gv_none this).1
    rw [hk] at c
    rw [e, e0]
    refine fnOK_of true mixed Try.func83 rfl (by rfl) (by rfl) ?_
    have hres := congrArg Array.toList Try.results83
    simp only [Try.ntmps83, BGB, seval]
    (have gx := And.intro (@List.length_map.{0,0}) (And.intro @List.getElem_map.{0,0} @bytK.eq_1); have q1 := c; refine go ?_; (repeat' (first | exact Ef.mk | refine Lf.mk ?_ ?_ | refine fun (K : KT) hK hE hT => ?_ | refine fun (KS : Eff → Prop) hKS => ?_ | refine fun (D : List Keys → Prop) hD => ?_ | refine fun (hg : (_ : Prop)) => ?_ | fail)); all_goals (first | (refine Wr.mk ?_; (try clear gx); (try clear q1); repeat (first | (clear hK hE hT; clear K) | (clear hR hE hT; clear K))) | assumption | skip))
    all_goals (refine post_a hres (.inl rfl) ?_; simp only [RSB, ENB, seval, tiAll, true_and]; simp only [MAB, seval]; refine ⟨rfl, rfl, ?_, ?_, ?_⟩ <;> (first | rfl | (simp [WKB, Nat.add_comm, true_and]; done) | (simp only [WKB, seval])))
  | true =>
    obtain ⟨n, k, _, e1, e2, hle, _⟩ := gv_facts hk
    have e : numS b s = ⟨s.p + k, s.ok⟩ := by unfold numS; rw [hk, e2]; rfl
    rw [hk, e1, e2] at c
    rw [e, e1]
    refine fnOK_of true mixed Try.func83 rfl (by rfl) (by rfl) ?_
    have hres := congrArg Array.toList Try.results83
    simp only [Try.ntmps83, BGB, seval]
    (have gx := And.intro (@List.length_map.{0,0}) (And.intro @List.getElem_map.{0,0} @bytK.eq_1); have q1 := c; refine go ?_; (repeat' (first | exact Ef.mk | refine Lf.mk ?_ ?_ | refine fun (K : KT) hK hE hT => ?_ | refine fun (KS : Eff → Prop) hKS => ?_ | refine fun (D : List Keys → Prop) hD => ?_ | refine fun (hg : (_ : Prop)) => ?_ | fail)); all_goals (first | (refine Wr.mk ?_; (try clear gx); (try clear q1); repeat (first | (clear hK hE hT; clear K) | (clear hR hE hT; clear K))) | assumption | skip))
    all_goals (refine post_a hres (.inl rfl) ?_; simp only [RSB, ENB, seval, tiAll, true_and]; simp only [MAB, seval]; refine ⟨rfl, rfl, ?_, ?_, ?_⟩ <;> (first | rfl | (simp [WKB, Nat.add_comm, true_and]; done) | (simp only [WKB, seval])))

set_option maxHeartbeats 2000000 in
theorem l08Var_k (b : List UInt8) (s : RdS) (hb : b.length ≤ 1048576) (hp : s.p ≤ b.length) : FnOK Try.prog 79 ⟨2, [(0, some (.ro (b.map bytK))), (1, some (.box 113 [.sl 0 1 0 b.length, .v (.int .i64 (s.p : Int)), .v (.bool (!s.ok))]))], [.c (.ptr 1 0 0)], .c (.v (.int .i64 (varN b s))),
    [(1, some (.box 113 [.sl 0 1 0 b.length, .v (.int .i64 ((varS b s).p : Int)), .v (.bool (!(varS b s).ok))]))], 2⟩ := by
  have c := specGetVar_k b s.p (by omega) (by omega)
  cases hk : gvK b s.p with
  | false =>
    have e : varS b s = ⟨s.p, false⟩ := by unfold varS; rw [hk]; rfl
    have e0 : varN b s = 0 := by unfold varN; rw [hk]; rfl
    rw [hk] at c
    rw [e, e0]
    refine fnOK_of true mixed Try.func79 rfl (by rfl) (by rfl) ?_
    have hres := congrArg Array.toList Try.results79
    simp only [Try.ntmps79, BGB, seval]
    (have gx := And.intro (@List.length_map.{0,0}) (And.intro @List.getElem_map.{0,0} @bytK.eq_1); have q1 := c; refine go ?_; (repeat' (first | exact Ef.mk | refine Lf.mk ?_ ?_ | refine fun (K : KT) hK hE hT => ?_ | refine fun (KS : Eff → Prop) hKS => ?_ | refine fun (D : List Keys → Prop) hD => ?_ | refine fun (hg : (_ : Prop)) => ?_ | fail)); all_goals (first | (refine Wr.mk ?_; (try clear gx); (try clear q1); repeat (first | (clear hK hE hT; clear K) | (clear hR hE hT; clear K))) | assumption | skip))
    all_goals (refine post_a hres (.inl rfl) ?_; simp only [RSB, ENB, seval, tiAll, true_and]; simp only [MAB, seval]; refine ⟨rfl, rfl, ?_, ?_, ?_⟩ <;> (first | rfl | (simp [WKB, Nat.add_comm, true_and]; done) | (simp only [WKB, seval])))
  | true =>
    obtain ⟨n, k, _, e1, e2, hle, _⟩ := gv_facts hk
    rw [hk, e1, e2] at c
    obtain ⟨sp, so⟩ := s
    dsimp only at hk e1 e2 hle c ⊢
    cases so with
    | true =>
      have e : varS b ⟨sp, true⟩ = ⟨sp + k, true⟩ := by unfold varS; rw [hk, e2]; rfl
      have e0 : varN b ⟨sp, true⟩ = n := by unfold varN; rw [hk, e1]; rfl
      rw [e, e0]
      refine fnOK_of true mixed Try.func79 rfl (by rfl) (by rfl) ?_
      have hres := congrArg Array.toList Try.results79
      simp only [Try.ntmps79, BGB, seval]
      (have gx := And.intro (@List.length_map.{0,0}) (And.intro (@List.getElem_map.{0,0}) (And.intro @bytK.eq_1 Bool.not_true)); have q1 := c; refine go ?_; (repeat' (first | exact Ef.mk | refine Lf.mk ?_ ?_ | refine fun (K : KT) hK hE hT => ?_ | refine fun (KS : Eff → Prop) hKS => ?_ | refine fun (D : List Keys → Prop) hD => ?_ | refine fun (hg : (_ : Prop)) => ?_ | fail)); all_goals (first | (refine Wr.mk ?_; (try clear gx); (try clear q1); repeat (first | (clear hK hE hT; clear K) | (clear hR hE hT; clear K))) | assumption | skip))
      all_goals (refine post_a hres (.inl rfl) ?_; simp only [RSB, ENB, seval, tiAll, true_and]; simp only [MAB, seval]; refine ⟨rfl, rfl, ?_, ?_, ?_⟩ <;> (first | rfl | (simp [WKB, Nat.add_comm, true_and]; done) | (simp only [WKB, seval])))
    | false =>
      have e : varS b ⟨sp, false⟩ = ⟨sp, false⟩ := by unfold varS; rw [hk]; rfl
      have e0 : varN b ⟨sp, false⟩ = 0 := by unfold varN; rw [hk]; rfl
      rw [e, e0]
      refine fnOK_of true mixed Try.func79 rfl (by rfl) (by rfl) ?_
      have hres := congrArg Array.toList Try.results79
      simp only [Try.ntmps79, BGB, seval]
      (have gx := And.intro (@List.length_map.{0,0}) (And.intro (@List.getElem_map.{0,0}) (And.intro @bytK.eq_1 Bool.not_false)); have q1 := c; refine go ?_; (repeat' (first | exact Ef.mk | refine Lf.mk ?_ ?_ | refine fun (K : KT) hK hE hT => ?_ | refine fun (KS : Eff → Prop) hKS => ?_ | refine fun (D : List Keys → Prop) hD => ?_ | refine fun (hg : (_ : Prop)) => ?_ | fail)); all_goals (first | (refine Wr.mk ?_; (try clear gx); (try clear q1); repeat (first | (clear hK hE hT; clear K) | (clear hR hE hT; clear K))) | assumption | skip))
      all_goals (refine post_a hres (.inl rfl) ?_; simp only [RSB, ENB, seval, tiAll, true_and]; simp only [MAB, seval]; refine ⟨rfl, rfl, ?_, ?_, ?_⟩ <;> (first | rfl | (simp [WKB, Nat.add_comm, true_and]; done) | (simp only [WKB, seval])))

def commitOk (c : CommitD) : Bool := decide (1 ≤ c.Epoch ∧ c.Epoch ≤ 1000000 ∧ 1 ≤ c.Graph ∧ c.Graph ≤ c.Epoch ∧ 0 ≤ c.GSum ∧ c.GSum ≤ 4294967295 ∧ 0 ≤ c.VSum ∧ c.VSum ≤ 4294967295 ∧ (c.Has = false → c.VSum = 0))

theorem commitOk_yes {e g s v : Int} {h : Bool} (h1 : 1 ≤ e ∧ e ≤ 1000000 ∧ 1 ≤ g ∧ g ≤ e ∧ 0 ≤ s ∧ s ≤ 4294967295 ∧ 0 ≤ v ∧ v ≤ 4294967295) (h2 : h = true ∨ v = 0) : commitOk ⟨e, g, s, h, v⟩ = true := by
  unfold commitOk
  rw [decide_eq_true_eq]
  refine ⟨h1.1, h1.2.1, h1.2.2.1, h1.2.2.2.1, h1.2.2.2.2.1, h1.2.2.2.2.2.1, h1.2.2.2.2.2.2.1, h1.2.2.2.2.2.2.2, fun hf => ?_⟩
  rcases h2 with h2 | h2
  · rw [h2] at hf; cases hf
  · exact h2
theorem commitOk_no {e g s v : Int} {h : Bool} (h1 : ¬ (1 ≤ e ∧ e ≤ 1000000 ∧ 1 ≤ g ∧ g ≤ e ∧ 0 ≤ s ∧ s ≤ 4294967295 ∧ 0 ≤ v ∧ v ≤ 4294967295) ∨ (h = false ∧ v ≠ 0)) : commitOk ⟨e, g, s, h, v⟩ = false := by
  unfold commitOk
  rw [decide_eq_false_iff_not]
  rintro ⟨a1, a2, a3, a4, a5, a6, a7, a8, a9⟩
  rcases h1 with h1 | ⟨h1, h2⟩
  · exact h1 ⟨a1, a2, a3, a4, a5, a6, a7, a8⟩
  · exact h2 (a9 h1)

end Go.Proofs.Ytcbnfkbnbdbfoaa
