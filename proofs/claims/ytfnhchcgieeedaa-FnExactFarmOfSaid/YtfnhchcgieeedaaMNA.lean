/-
  The engine, texts NM N2 N3 in one. No conditions of its own.
-/
import Derived.Test.YtfnhchcgieeedaaGO
import Derived.Test.YtfnhchcgieeedaaS1
import Derived.Test.YtfnhchcgieeedaaMH
namespace Go.Proofs.Ytfnhchcgieeedaa
set_option linter.unusedSimpArgs false
set_option linter.unusedVariables false
set_option linter.unusedSimpArgs false
set_option linter.unusedVariables false
set_option linter.defProp false
open Go.RowKit

end Go.Proofs.Ytfnhchcgieeedaa

namespace Go.Proofs.Ytfnhchcgieeedaa
set_option linter.unusedSimpArgs false
set_option linter.unusedVariables false
set_option linter.defProp false
open Go.RowKit

/-- A statement as a truth value. -/
noncomputable def pB (p : Prop) : Bool := @decide p (Classical.propDecidable p)
theorem pB_t {p : Prop} (h : p) : pB p = true := by unfold pB; exact @decide_eq_true p (Classical.propDecidable p) h
theorem pB_f {p : Prop} (h : ¬ p) : pB p = false := by unfold pB; exact @decide_eq_false p (Classical.propDecidable p) h
theorem pB_i {p : Prop} (h : pB p = true) : p := by
  by_cases hp : p
  · exact hp
  · rw [pB_f hp] at h; cases h
theorem pB_n {p : Prop} (h : pB p = false) : ¬ p := fun hp => by rw [pB_t hp] at h; cases h

/-- The end before interval k. -/
def lastE (l : List Int) (k : Nat) : Int := (0 :: l).getD k 0
theorem lastE_zero (l : List Int) : lastE l 0 = 0 := rfl
theorem lastE_succ {l : List Int} {k : Nat} (h : k < l.length) : lastE l (k + 1) = l[k] := by
  unfold lastE
  rw [List.getD_cons_succ, List.getD_eq_getElem?_getD, List.getElem?_eq_getElem h, Option.getD_some]
def incO (l : List Int) (k : Nat) : Prop := ∀ i (h : i < l.length), i < k → lastE l i < l[i]
theorem incO_zero (l : List Int) : incO l 0 := fun i h hi => absurd hi (by omega)
theorem incO_succ {l : List Int} {k : Nat} (h : incO l k) (hk : k < l.length) (hv : lastE l k < l[k]) : incO l (k + 1) := fun i hi hik => by
  by_cases e : i = k
  · subst e; exact hv
  · exact h i hi (by omega)
def EndsOk (n : Int) (l : List Int) : Prop := 0 ≤ n ∧ n ≤ 150 ∧ incO l l.length ∧ lastE l l.length = n


set_option maxHeartbeats 4000000 in
theorem implEndsOk_k (n : Int) (l : List Int) (hl : l.length ≤ 1048576) : FnOK Try.prog 96 ⟨1, [(0, some (.ro (l.map intK)))], [.c (.v (.int .i64 n)), .c (.sl 0 1 0 l.length)], .c (.v (.bool (pB (EndsOk n l)))), [], 1⟩ := by
  by_cases hn : 0 ≤ n ∧ n ≤ 150 ∨ l = []
  case neg =>
    have e : pB (EndsOk n l) = false := pB_f fun h => hn (.inl ⟨h.1, h.2.1⟩)
    have hlp : 0 < l.length := by
      rcases Nat.eq_zero_or_pos l.length with h | h
      · exact absurd (.inr (List.eq_nil_of_length_eq_zero h)) hn
      · exact h
    have hn2 : n < 0 ∨ 150 < n := by omega
    rw [e]
    refine fnOK_of true mixed Try.func96 rfl (by rfl) (by rfl) ?_
    have hres := congrArg Array.toList Try.results96
    simp only [Try.ntmps96, BGB, seval]
    (have gx := And.intro (@List.length_map.{0,0}) (And.intro @List.getElem_map.{0,0} @intK.eq_1); refine go ?_; (repeat' first | exact Ef.mk | apply Lf.mk | refine fun (K : KT) hK hE hT => ?_ | refine fun (KS : KE) hKS => ?_ | refine fun (D : KD) hD => ?_ | refine fun (hg : (_ : Prop)) => ?_ | fail); all_goals (first | (refine Wr.mk ?_; (try clear gx); repeat first | clear hK hE hT K | clear hR hE hT K) | assumption | skip))
    all_goals first
      | (refine post_a hres (.inl rfl) ?_; simp only [RSB, ENB, seval, tiAll, true_and]; simp only [MAB, seval]; refine ⟨rfl, rfl, ?_, ?_, ?_⟩ <;> (first | rfl | (simp [WKB, Nat.add_comm, true_and]; done) | (simp only [WKB, seval])))
      | skip
    all_goals (
    refine loop_v (X := {k : Nat // k ≤ l.length}) [] (fun x => [(16, .c (.v (.int .i64 ((x.1 : Nat) : Int)))), (5, .c (.v (.int .i64 (lastE l x.1))))]) (fun x => [(0, some (.ro (l.map intK)))]) 1 (fun x => l.length - x.1) ⟨0, by omega⟩ ?_
    simp only [KPB, seval]
    refine ⟨?_, ?_⟩
    · (refine wk_a ?_; simp only [MAB, seval]; refine ⟨rfl, rfl, (by decide), ?_, ?_⟩; all_goals (first | (simp only [WKB, seval, lastE_zero]; done) | (simp [WKB, seval, lastE_zero]; done) | simp only [WKB, seval]))
    · rintro ⟨k, hk⟩ K hR hE hT
      rcases Nat.lt_or_ge k l.length with hlt | hge
      case inr =>
        (have gx := @List.length_map.{0,0}; refine go ?_; (repeat' first | exact Ef.mk | apply Lf.mk | refine fun (K : KT) hK hE hT => ?_ | refine fun (KS : KE) hKS => ?_ | refine fun (D : KD) hD => ?_ | refine fun (hg : (_ : Prop)) => ?_ | fail); all_goals (first | (refine Wr.mk ?_; (try clear gx); repeat first | clear hK hE hT K | clear hR hE hT K) | assumption | skip))
        all_goals (refine post_a hres (.inl rfl) ?_; simp only [RSB, ENB, seval, tiAll, true_and]; simp only [MAB, seval]; refine ⟨rfl, rfl, ?_, ?_, ?_⟩ <;> (first | rfl | (simp [WKB, Nat.add_comm, true_and]; done) | (simp only [WKB, seval])))
      case inl =>
        (have gx := And.intro (@List.length_map.{0,0}) (And.intro @List.getElem_map.{0,0} @intK.eq_1); refine go ?_; (repeat' first | exact Ef.mk | apply Lf.mk | refine fun (K : KT) hK hE hT => ?_ | refine fun (KS : KE) hKS => ?_ | refine fun (D : KD) hD => ?_ | refine fun (hg : (_ : Prop)) => ?_ | fail); all_goals (first | (refine Wr.mk ?_; (try clear gx); repeat first | clear hK hE hT K | clear hR hE hT K) | assumption | skip))
        all_goals first
          | (refine post_a hres (.inl rfl) ?_; simp only [RSB, ENB, seval, tiAll, true_and]; simp only [MAB, seval]; refine ⟨rfl, rfl, ?_, ?_, ?_⟩ <;> (first | rfl | (simp [WKB, Nat.add_comm, true_and]; done) | (simp only [WKB, seval])))
          | (refine hR.out ⟨k + 1, by omega⟩ _ _ _ (by simp only; omega) ?_; (refine wk_a ?_; simp only [MAB, seval]; refine ⟨rfl, rfl, (by decide), ?_, ?_⟩; all_goals (first | (simp only [WKB, seval, lastE_succ hlt]; done) | (simp [WKB, seval, lastE_succ hlt]; done) | simp only [WKB, seval])))
          | fail)
  case pos =>
    refine fnOK_of true mixed Try.func96 rfl (by rfl) (by rfl) ?_
    have hres := congrArg Array.toList Try.results96
    simp only [Try.ntmps96, BGB, seval]
    (have gx := And.intro (@List.length_map.{0,0}) (And.intro @List.getElem_map.{0,0} @intK.eq_1); refine go ?_; (repeat' first | exact Ef.mk | apply Lf.mk | refine fun (K : KT) hK hE hT => ?_ | refine fun (KS : KE) hKS => ?_ | refine fun (D : KD) hD => ?_ | refine fun (hg : (_ : Prop)) => ?_ | fail); all_goals (first | (refine Wr.mk ?_; (try clear gx); repeat first | clear hK hE hT K | clear hR hE hT K) | assumption | skip))
    all_goals first
      | (have e : pB (EndsOk n l) = false := pB_f fun h => by have := h.1; have := h.2.1; omega
         (refine post_a hres (.inl rfl) ?_; simp only [RSB, ENB, seval, tiAll, e]; simp only [MAB, seval]; refine ⟨rfl, rfl, ?_, ?_, ?_⟩ <;> (first | rfl | (simp [WKB, Nat.add_comm, e]; done) | (simp only [WKB, seval]))))
      | skip
    all_goals (
    refine loop_v (X := {k : Nat // k ≤ l.length ∧ Rnd (incO l k)}) [] (fun x => [(16, .c (.v (.int .i64 ((x.1 : Nat) : Int)))), (5, .c (.v (.int .i64 (lastE l x.1))))]) (fun x => [(0, some (.ro (l.map intK)))]) 1 (fun x => l.length - x.1) ⟨0, by omega, ⟨incO_zero l⟩⟩ ?_
    simp only [KPB, seval]
    refine ⟨?_, ?_⟩
    · (refine wk_a ?_; simp only [MAB, seval]; refine ⟨rfl, rfl, (by decide), ?_, ?_⟩; all_goals (first | (simp only [WKB, seval, lastE_zero]; done) | (simp [WKB, seval, lastE_zero]; done) | simp only [WKB, seval]))
    · rintro ⟨k, hk, hi⟩ K hR hE hT
      rcases Nat.lt_or_ge k l.length with hlt | hge
      case inr =>
        obtain rfl : k = l.length := by omega
        have hi := hi.out
        obtain ⟨z, hz⟩ : ∃ z, z = lastE l l.length := ⟨_, rfl⟩
        have eb : ∀ b : Bool, (b = true ↔ (0 ≤ n ∧ n ≤ 150 ∧ z = n)) → b = pB (EndsOk n l) := fun b hb => by
          by_cases h : 0 ≤ n ∧ n ≤ 150 ∧ z = n
          · rw [hb.2 h, pB_t ⟨h.1, h.2.1, hi, by rw [← hz]; exact h.2.2⟩]
          · have : b = false := by cases b with | false => rfl | true => exact absurd (hb.1 rfl) h
            rw [this, pB_f fun e => h ⟨e.1, e.2.1, by rw [hz]; exact e.2.2.2⟩]
        simp only [← hz]
        (have gx := @List.length_map.{0,0}; refine go ?_; (repeat' first | exact Ef.mk | apply Lf.mk | refine fun (K : KT) hK hE hT => ?_ | refine fun (KS : KE) hKS => ?_ | refine fun (D : KD) hD => ?_ | refine fun (hg : (_ : Prop)) => ?_ | fail); all_goals (first | (refine Wr.mk ?_; (try clear gx); repeat first | clear hK hE hT K | clear hR hE hT K) | assumption | skip))
        all_goals (refine post_a hres (.inl rfl) ?_; simp only [RSB, ENB, seval, tiAll, true_and]; simp only [MAB, seval]; refine ⟨rfl, rfl, ?_, ?_, ?_⟩ <;> (first | rfl | (simp [WKB, Nat.add_comm, true_and]; done) | (simp only [WKB, seval])))
        all_goals (refine congrArg (fun b => SV.c (CV.v (Value.bool b))) (eb _ ?_); simp only [decide_eq_true_eq, beq_iff_eq, Bool.false_eq_true, false_iff, true_iff, not_and]; omega)
      case inl =>
        by_cases hv : lastE l k < l[k]
        case neg =>
          have e : pB (EndsOk n l) = false := pB_f fun h => hv (h.2.2.1 k hlt hlt)
          (have gx := And.intro (@List.length_map.{0,0}) (And.intro @List.getElem_map.{0,0} @intK.eq_1); refine go ?_; (repeat' first | exact Ef.mk | apply Lf.mk | refine fun (K : KT) hK hE hT => ?_ | refine fun (KS : KE) hKS => ?_ | refine fun (D : KD) hD => ?_ | refine fun (hg : (_ : Prop)) => ?_ | fail); all_goals (first | (refine Wr.mk ?_; (try clear gx); repeat first | clear hK hE hT K | clear hR hE hT K) | assumption | skip))
          (refine post_a hres (.inl rfl) ?_; simp only [RSB, ENB, seval, tiAll, e]; simp only [MAB, seval]; refine ⟨rfl, rfl, ?_, ?_, ?_⟩ <;> (first | rfl | (simp [WKB, Nat.add_comm, e]; done) | (simp only [WKB, seval])))
        case pos =>
          (have gx := And.intro (@List.length_map.{0,0}) (And.intro @List.getElem_map.{0,0} @intK.eq_1); refine go ?_; (repeat' first | exact Ef.mk | apply Lf.mk | refine fun (K : KT) hK hE hT => ?_ | refine fun (KS : KE) hKS => ?_ | refine fun (D : KD) hD => ?_ | refine fun (hg : (_ : Prop)) => ?_ | fail); all_goals (first | (refine Wr.mk ?_; (try clear gx); repeat first | clear hK hE hT K | clear hR hE hT K) | assumption | skip))
          (refine hR.out ⟨k + 1, by omega, ⟨incO_succ hi.out hlt hv⟩⟩ _ _ _ (by simp only; omega) ?_; (refine wk_a ?_; simp only [MAB, seval]; refine ⟨rfl, rfl, (by decide), ?_, ?_⟩; all_goals (first | (simp only [WKB, seval, lastE_succ hlt]; done) | (simp [WKB, seval, lastE_succ hlt]; done) | simp only [WKB, seval]))))

set_option maxHeartbeats 4000000 in
theorem specEndsOk_k (n : Int) (l : List Int) (hl : l.length ≤ 1048576) : FnOK Try.prog 90 ⟨1, [(0, some (.ro (l.map intK)))], [.c (.v (.int .i64 n)), .c (.sl 0 1 0 l.length)], .c (.v (.bool (pB (EndsOk n l)))), [], 1⟩ := by
  by_cases hn : 0 ≤ n ∧ n ≤ 150 ∨ l = []
  case neg =>
    have e : pB (EndsOk n l) = false := pB_f fun h => hn (.inl ⟨h.1, h.2.1⟩)
    have hlp : 0 < l.length := by
      rcases Nat.eq_zero_or_pos l.length with h | h
      · exact absurd (.inr (List.eq_nil_of_length_eq_zero h)) hn
      · exact h
    have hn2 : n < 0 ∨ 150 < n := by omega
    rw [e]
    refine fnOK_of true mixed Try.func90 rfl (by rfl) (by rfl) ?_
    have hres := congrArg Array.toList Try.results90
    simp only [Try.ntmps90, BGB, seval]
    (have gx := And.intro (@List.length_map.{0,0}) (And.intro @List.getElem_map.{0,0} @intK.eq_1); refine go ?_; (repeat' first | exact Ef.mk | apply Lf.mk | refine fun (K : KT) hK hE hT => ?_ | refine fun (KS : KE) hKS => ?_ | refine fun (D : KD) hD => ?_ | refine fun (hg : (_ : Prop)) => ?_ | fail); all_goals (first | (refine Wr.mk ?_; (try clear gx); repeat first | clear hK hE hT K | clear hR hE hT K) | assumption | skip))
    all_goals first
      | (refine post_a hres (.inl rfl) ?_; simp only [RSB, ENB, seval, tiAll, true_and]; simp only [MAB, seval]; refine ⟨rfl, rfl, ?_, ?_, ?_⟩ <;> (first | rfl | (simp [WKB, Nat.add_comm, true_and]; done) | (simp only [WKB, seval])))
      | skip
    all_goals (
    refine loop_v (X := {k : Nat // k ≤ l.length}) [] (fun x => [(10, .c (.v (.int .i64 ((x.1 : Nat) : Int)))), (5, .c (.v (.int .i64 (lastE l x.1))))]) (fun x => [(0, some (.ro (l.map intK)))]) 1 (fun x => l.length - x.1) ⟨0, by omega⟩ ?_
    simp only [KPB, seval]
    refine ⟨?_, ?_⟩
    · (refine wk_a ?_; simp only [MAB, seval]; refine ⟨rfl, rfl, (by decide), ?_, ?_⟩; all_goals (first | (simp only [WKB, seval, lastE_zero]; done) | (simp [WKB, seval, lastE_zero]; done) | simp only [WKB, seval]))
    · rintro ⟨k, hk⟩ K hR hE hT
      rcases Nat.lt_or_ge k l.length with hlt | hge
      case inr =>
        (have gx := @List.length_map.{0,0}; refine go ?_; (repeat' first | exact Ef.mk | apply Lf.mk | refine fun (K : KT) hK hE hT => ?_ | refine fun (KS : KE) hKS => ?_ | refine fun (D : KD) hD => ?_ | refine fun (hg : (_ : Prop)) => ?_ | fail); all_goals (first | (refine Wr.mk ?_; (try clear gx); repeat first | clear hK hE hT K | clear hR hE hT K) | assumption | skip))
        all_goals (refine post_a hres (.inl rfl) ?_; simp only [RSB, ENB, seval, tiAll, true_and]; simp only [MAB, seval]; refine ⟨rfl, rfl, ?_, ?_, ?_⟩ <;> (first | rfl | (simp [WKB, Nat.add_comm, true_and]; done) | (simp only [WKB, seval])))
      case inl =>
        (have gx := And.intro (@List.length_map.{0,0}) (And.intro @List.getElem_map.{0,0} @intK.eq_1); refine go ?_; (repeat' first | exact Ef.mk | apply Lf.mk | refine fun (K : KT) hK hE hT => ?_ | refine fun (KS : KE) hKS => ?_ | refine fun (D : KD) hD => ?_ | refine fun (hg : (_ : Prop)) => ?_ | fail); all_goals (first | (refine Wr.mk ?_; (try clear gx); repeat first | clear hK hE hT K | clear hR hE hT K) | assumption | skip))
        all_goals first
          | (refine post_a hres (.inl rfl) ?_; simp only [RSB, ENB, seval, tiAll, true_and]; simp only [MAB, seval]; refine ⟨rfl, rfl, ?_, ?_, ?_⟩ <;> (first | rfl | (simp [WKB, Nat.add_comm, true_and]; done) | (simp only [WKB, seval])))
          | (refine hR.out ⟨k + 1, by omega⟩ _ _ _ (by simp only; omega) ?_; (refine wk_a ?_; simp only [MAB, seval]; refine ⟨rfl, rfl, (by decide), ?_, ?_⟩; all_goals (first | (simp only [WKB, seval, lastE_succ hlt]; done) | (simp [WKB, seval, lastE_succ hlt]; done) | simp only [WKB, seval])))
          | fail)
  case pos =>
    refine fnOK_of true mixed Try.func90 rfl (by rfl) (by rfl) ?_
    have hres := congrArg Array.toList Try.results90
    simp only [Try.ntmps90, BGB, seval]
    (have gx := And.intro (@List.length_map.{0,0}) (And.intro @List.getElem_map.{0,0} @intK.eq_1); refine go ?_; (repeat' first | exact Ef.mk | apply Lf.mk | refine fun (K : KT) hK hE hT => ?_ | refine fun (KS : KE) hKS => ?_ | refine fun (D : KD) hD => ?_ | refine fun (hg : (_ : Prop)) => ?_ | fail); all_goals (first | (refine Wr.mk ?_; (try clear gx); repeat first | clear hK hE hT K | clear hR hE hT K) | assumption | skip))
    all_goals first
      | (have e : pB (EndsOk n l) = false := pB_f fun h => by have := h.1; have := h.2.1; omega
         (refine post_a hres (.inl rfl) ?_; simp only [RSB, ENB, seval, tiAll, e]; simp only [MAB, seval]; refine ⟨rfl, rfl, ?_, ?_, ?_⟩ <;> (first | rfl | (simp [WKB, Nat.add_comm, e]; done) | (simp only [WKB, seval]))))
      | skip
    all_goals (
    refine loop_v (X := {k : Nat // k ≤ l.length ∧ Rnd (incO l k)}) [] (fun x => [(10, .c (.v (.int .i64 ((x.1 : Nat) : Int)))), (5, .c (.v (.int .i64 (lastE l x.1))))]) (fun x => [(0, some (.ro (l.map intK)))]) 1 (fun x => l.length - x.1) ⟨0, by omega, ⟨incO_zero l⟩⟩ ?_
    simp only [KPB, seval]
    refine ⟨?_, ?_⟩
    · (refine wk_a ?_; simp only [MAB, seval]; refine ⟨rfl, rfl, (by decide), ?_, ?_⟩; all_goals (first | (simp only [WKB, seval, lastE_zero]; done) | (simp [WKB, seval, lastE_zero]; done) | simp only [WKB, seval]))
    · rintro ⟨k, hk, hi⟩ K hR hE hT
      rcases Nat.lt_or_ge k l.length with hlt | hge
      case inr =>
        obtain rfl : k = l.length := by omega
        have hi := hi.out
        obtain ⟨z, hz⟩ : ∃ z, z = lastE l l.length := ⟨_, rfl⟩
        have eb : ∀ b : Bool, (b = true ↔ (0 ≤ n ∧ n ≤ 150 ∧ z = n)) → b = pB (EndsOk n l) := fun b hb => by
          by_cases h : 0 ≤ n ∧ n ≤ 150 ∧ z = n
          · rw [hb.2 h, pB_t ⟨h.1, h.2.1, hi, by rw [← hz]; exact h.2.2⟩]
          · have : b = false := by cases b with | false => rfl | true => exact absurd (hb.1 rfl) h
            rw [this, pB_f fun e => h ⟨e.1, e.2.1, by rw [hz]; exact e.2.2.2⟩]
        simp only [← hz]
        (have gx := @List.length_map.{0,0}; refine go ?_; (repeat' first | exact Ef.mk | apply Lf.mk | refine fun (K : KT) hK hE hT => ?_ | refine fun (KS : KE) hKS => ?_ | refine fun (D : KD) hD => ?_ | refine fun (hg : (_ : Prop)) => ?_ | fail); all_goals (first | (refine Wr.mk ?_; (try clear gx); repeat first | clear hK hE hT K | clear hR hE hT K) | assumption | skip))
        all_goals (refine post_a hres (.inl rfl) ?_; simp only [RSB, ENB, seval, tiAll, true_and]; simp only [MAB, seval]; refine ⟨rfl, rfl, ?_, ?_, ?_⟩ <;> (first | rfl | (simp [WKB, Nat.add_comm, true_and]; done) | (simp only [WKB, seval])))
        all_goals (refine congrArg (fun b => SV.c (CV.v (Value.bool b))) (eb _ ?_); simp only [decide_eq_true_eq, beq_iff_eq, Bool.false_eq_true, false_iff, true_iff, not_and]; omega)
      case inl =>
        by_cases hv : lastE l k < l[k]
        case neg =>
          have e : pB (EndsOk n l) = false := pB_f fun h => hv (h.2.2.1 k hlt hlt)
          (have gx := And.intro (@List.length_map.{0,0}) (And.intro @List.getElem_map.{0,0} @intK.eq_1); refine go ?_; (repeat' first | exact Ef.mk | apply Lf.mk | refine fun (K : KT) hK hE hT => ?_ | refine fun (KS : KE) hKS => ?_ | refine fun (D : KD) hD => ?_ | refine fun (hg : (_ : Prop)) => ?_ | fail); all_goals (first | (refine Wr.mk ?_; (try clear gx); repeat first | clear hK hE hT K | clear hR hE hT K) | assumption | skip))
          (refine post_a hres (.inl rfl) ?_; simp only [RSB, ENB, seval, tiAll, e]; simp only [MAB, seval]; refine ⟨rfl, rfl, ?_, ?_, ?_⟩ <;> (first | rfl | (simp [WKB, Nat.add_comm, e]; done) | (simp only [WKB, seval])))
        case pos =>
          (have gx := And.intro (@List.length_map.{0,0}) (And.intro @List.getElem_map.{0,0} @intK.eq_1); refine go ?_; (repeat' first | exact Ef.mk | apply Lf.mk | refine fun (K : KT) hK hE hT => ?_ | refine fun (KS : KE) hKS => ?_ | refine fun (D : KD) hD => ?_ | refine fun (hg : (_ : Prop)) => ?_ | fail); all_goals (first | (refine Wr.mk ?_; (try clear gx); repeat first | clear hK hE hT K | clear hR hE hT K) | assumption | skip))
          (refine hR.out ⟨k + 1, by omega, ⟨incO_succ hi.out hlt hv⟩⟩ _ _ _ (by simp only; omega) ?_; (refine wk_a ?_; simp only [MAB, seval]; refine ⟨rfl, rfl, (by decide), ?_, ?_⟩; all_goals (first | (simp only [WKB, seval, lastE_succ hlt]; done) | (simp [WKB, seval, lastE_succ hlt]; done) | simp only [WKB, seval]))))


set_option maxHeartbeats 2000000 in
theorem implSpan_k (l : List Int) (k : Nat) (hl : l.length ≤ 1048576) (hk : k < l.length) : FnOK Try.prog 98 ⟨1, [(0, some (.ro (l.map intK)))], [.c (.sl 0 1 0 l.length), .c (.v (.int .i64 (k : Int)))], .tup [.inl (.v (.int .i64 (lastE l k))), .inl (.v (.int .i64 l[k]))], [], 1⟩ := by
  rcases Nat.eq_zero_or_pos k with rfl | hp
  · skip
    refine fnOK_of true mixed Try.func98 rfl (by rfl) (by rfl) ?_
    have hres := congrArg Array.toList Try.results98
    simp only [Try.ntmps98, BGB, seval]
    (have gx := And.intro (@List.length_map.{0,0}) (And.intro @List.getElem_map.{0,0} @intK.eq_1); refine go ?_; (repeat' first | exact Ef.mk | apply Lf.mk | refine fun (K : KT) hK hE hT => ?_ | refine fun (KS : KE) hKS => ?_ | refine fun (D : KD) hD => ?_ | refine fun (hg : (_ : Prop)) => ?_ | fail); all_goals (first | (refine Wr.mk ?_; (try clear gx); repeat first | clear hK hE hT K | clear hR hE hT K) | assumption | skip))
    (refine post_a hres (.inl rfl) ?_; simp only [RSB, ENB, seval, tiAll, lastE_zero]; simp only [MAB, seval]; refine ⟨rfl, rfl, ?_, ?_, ?_⟩ <;> (first | rfl | (simp [WKB, Nat.add_comm, lastE_zero]; done) | (simp only [WKB, seval])))
  · obtain ⟨j, rfl⟩ : ∃ j, k = j + 1 := ⟨k - 1, by omega⟩
    have e : ((j + 1 : Nat) : Int) - 1 = (j : Int) := by omega
    rw [lastE_succ (by omega)]
    refine fnOK_of true mixed Try.func98 rfl (by rfl) (by rfl) ?_
    have hres := congrArg Array.toList Try.results98
    simp only [Try.ntmps98, BGB, seval]
    (have gx := And.intro (@List.length_map.{0,0}) (And.intro (@List.getElem_map.{0,0}) (And.intro @intK.eq_1 @e)); refine go ?_; (repeat' first | exact Ef.mk | apply Lf.mk | refine fun (K : KT) hK hE hT => ?_ | refine fun (KS : KE) hKS => ?_ | refine fun (D : KD) hD => ?_ | refine fun (hg : (_ : Prop)) => ?_ | fail); all_goals (first | (refine Wr.mk ?_; (try clear gx); repeat first | clear hK hE hT K | clear hR hE hT K) | assumption | skip))
    (refine post_a hres (.inl rfl) ?_; simp only [RSB, ENB, seval, tiAll, e]; simp only [MAB, seval]; refine ⟨rfl, rfl, ?_, ?_, ?_⟩ <;> (first | rfl | (simp [WKB, Nat.add_comm, e]; done) | (simp only [WKB, seval])))

set_option maxHeartbeats 2000000 in
theorem specSpan_k (l : List Int) (k : Nat) (hl : l.length ≤ 1048576) (hk : k < l.length) : FnOK Try.prog 93 ⟨1, [(0, some (.ro (l.map intK)))], [.c (.sl 0 1 0 l.length), .c (.v (.int .i64 (k : Int)))], .tup [.inl (.v (.int .i64 (lastE l k))), .inl (.v (.int .i64 l[k]))], [], 1⟩ := by
  rcases Nat.eq_zero_or_pos k with rfl | hp
  · skip
    refine fnOK_of true mixed Try.func93 rfl (by rfl) (by rfl) ?_
    have hres := congrArg Array.toList Try.results93
    simp only [Try.ntmps93, BGB, seval]
    (have gx := And.intro (@List.length_map.{0,0}) (And.intro @List.getElem_map.{0,0} @intK.eq_1); refine go ?_; (repeat' first | exact Ef.mk | apply Lf.mk | refine fun (K : KT) hK hE hT => ?_ | refine fun (KS : KE) hKS => ?_ | refine fun (D : KD) hD => ?_ | refine fun (hg : (_ : Prop)) => ?_ | fail); all_goals (first | (refine Wr.mk ?_; (try clear gx); repeat first | clear hK hE hT K | clear hR hE hT K) | assumption | skip))
    (refine post_a hres (.inl rfl) ?_; simp only [RSB, ENB, seval, tiAll, lastE_zero]; simp only [MAB, seval]; refine ⟨rfl, rfl, ?_, ?_, ?_⟩ <;> (first | rfl | (simp [WKB, Nat.add_comm, lastE_zero]; done) | (simp only [WKB, seval])))
  · obtain ⟨j, rfl⟩ : ∃ j, k = j + 1 := ⟨k - 1, by omega⟩
    have e : ((j + 1 : Nat) : Int) - 1 = (j : Int) := by omega
    rw [lastE_succ (by omega)]
    refine fnOK_of true mixed Try.func93 rfl (by rfl) (by rfl) ?_
    have hres := congrArg Array.toList Try.results93
    simp only [Try.ntmps93, BGB, seval]
    (have gx := And.intro (@List.length_map.{0,0}) (And.intro (@List.getElem_map.{0,0}) (And.intro @intK.eq_1 @e)); refine go ?_; (repeat' first | exact Ef.mk | apply Lf.mk | refine fun (K : KT) hK hE hT => ?_ | refine fun (KS : KE) hKS => ?_ | refine fun (D : KD) hD => ?_ | refine fun (hg : (_ : Prop)) => ?_ | fail); all_goals (first | (refine Wr.mk ?_; (try clear gx); repeat first | clear hK hE hT K | clear hR hE hT K) | assumption | skip))
    (refine post_a hres (.inl rfl) ?_; simp only [RSB, ENB, seval, tiAll, e]; simp only [MAB, seval]; refine ⟨rfl, rfl, ?_, ?_, ?_⟩ <;> (first | rfl | (simp [WKB, Nat.add_comm, e]; done) | (simp only [WKB, seval])))

end Go.Proofs.Ytfnhchcgieeedaa

namespace Go.Proofs.Ytfnhchcgieeedaa
set_option linter.unusedSimpArgs false
set_option linter.unusedVariables false
set_option linter.defProp false
set_option maxRecDepth 20000
open Go.RowKit

def edOk (s : ShardD) (e : SEdgeD) : Prop := 0 ≤ e.From ∧ e.From < 150 ∧ s.Lo ≤ e.To ∧ e.To < s.Hi ∧ 0 ≤ e.W ∧ e.W ≤ 1000 ∧ 0 ≤ e.Index ∧ e.Index < 400 ∧ 0 ≤ e.Val ∧ e.Val ≤ 281474976710655
def ordOk (p e : SEdgeD) : Prop := p.From < e.From ∨ p.From = e.From ∧ p.Index < e.Index
def prevOk (l : List SEdgeD) (k : Nat) (h : k < l.length) : Prop := ∀ h0 : 0 < k, ordOk (l[k - 1]'(by omega)) l[k]
def shTo (s : ShardD) (k : Nat) : Prop := ∀ i (h : i < s.Edges.length), i < k → edOk s s.Edges[i] ∧ prevOk s.Edges i h
theorem shTo_zero (s : ShardD) : shTo s 0 := fun i h hi => absurd hi (by omega)
theorem shTo_succ {s : ShardD} {k : Nat} (h : shTo s k) (hk : k < s.Edges.length) (h1 : edOk s s.Edges[k]) (h2 : prevOk s.Edges k hk) : shTo s (k + 1) := fun i hi hik => by
  by_cases e : i = k
  · subst e; exact ⟨h1, h2⟩
  · exact h i hi (by omega)
def shHead (s : ShardD) : Prop := 0 ≤ s.Lo ∧ s.Lo < s.Hi ∧ s.Hi ≤ 150 ∧ s.Edges.length ≤ 400
def ShOk (s : ShardD) : Prop := shHead s ∧ shTo s s.Edges.length

end Go.Proofs.Ytfnhchcgieeedaa
