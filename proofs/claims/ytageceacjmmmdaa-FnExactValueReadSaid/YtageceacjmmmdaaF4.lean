/-
  Contracts: lists encoded. No conditions of its own.
-/
import Derived.Test.YtageceacjmmmdaaGO
import Derived.Test.YtageceacjmmmdaaNM
import Derived.Test.YtageceacjmmmdaaF2
namespace Go.Proofs.Ytageceacjmmmdaa
set_option linter.unusedSimpArgs false
set_option linter.unusedVariables false
set_option linter.unusedSimpArgs false
set_option linter.unusedVariables false
set_option linter.defProp false
open Go.RowKit

def lbO (l : List Int) : Bool := decide (l.length ≤ 400) && l.all pvO
/-- The first k numbers of a list behind its length. -/
def lbT (l : List Int) (k : Nat) : List UInt8 := varB l.length ++ (l.take k).flatMap fun n => fixB n.toNat
def lbL (l : List Int) : List UInt8 := lbT l l.length
def lbR (l : List Int) : List UInt8 := if lbO l then lbL l else []

theorem lbT_zero (l : List Int) : lbT l 0 = varB l.length := by simp [lbT]
theorem lbT_succ {l : List Int} {k : Nat} (h : k < l.length) : lbT l (k + 1) = lbT l k ++ fixB l[k].toNat := by
  unfold lbT
  rw [List.take_succ_eq_append_getElem h, List.flatMap_append, List.append_assoc]
  simp
theorem lbT_len {l : List Int} (hl : l.length ≤ 400) : ∀ k, (lbT l k).length ≤ 7 + 6 * k
  | 0 => by rw [lbT_zero]; have := varB_len7 (n := l.length) (by omega); omega
  | k + 1 => by
    have ih := lbT_len hl k
    rcases Nat.lt_or_ge k l.length with h | h
    · rw [lbT_succ h, List.length_append, fixB_len]; omega
    · unfold lbT at ih ⊢
      rw [List.take_of_length_le (by omega)] at ih ⊢
      omega

/-- The first numbers of a list are in range. -/
def prO (l : List Int) (k : Nat) : Prop := ∀ i (h : i < l.length), i < k → pvO l[i] = true
theorem prO_succ {l : List Int} {k : Nat} (h : prO l k) (hk : k < l.length) (hv : pvO l[k] = true) : prO l (k + 1) := fun i hi hik => by
  by_cases e : i = k
  · subst e; exact hv
  · exact h i hi (by omega)
theorem lbO_end {l : List Int} (hl : l.length ≤ 400) (h : prO l l.length) : lbO l = true := by
  unfold lbO
  rw [decide_eq_true hl, Bool.true_and, List.all_eq_true]
  intro x hx
  obtain ⟨i, hi, rfl⟩ := List.mem_iff_getElem.1 hx
  exact h i hi hi
theorem lbO_bad {l : List Int} {k : Nat} (hk : k < l.length) (hv : pvO l[k] = false) : lbO l = false := by
  unfold lbO
  cases h : l.all pvO with
  | false => rw [Bool.and_false]
  | true =>
    rw [List.all_eq_true] at h
    rw [h _ (List.getElem_mem hk)] at hv
    cases hv
theorem lbO_long {l : List Int} (h : ¬ l.length ≤ 400) : lbO l = false := by
  unfold lbO
  rw [decide_eq_false h]
  rfl

set_option maxHeartbeats 4000000 in
theorem implListBytes_k (l : List Int) (hl : l.length ≤ 1048576) : FnOK Try.prog 105 ⟨1, [(0, some (.ro (l.map intK)))], [.c (.sl 0 1 0 l.length)],
    .tup [.inl (.sl 1 1 0 (lbR l).length), .inl (.v (.bool (lbO l)))], [(1, some (.row 5 ((lbR l).map bytK)))], 2⟩ := by
  by_cases hlen : l.length ≤ 400
  case neg =>
    have e := lbO_long hlen
    have e2 : lbR l = [] := by unfold lbR; rw [e]; rfl
    rw [e, e2]
    refine fnOK_of true mixed Try.func105 rfl (by rfl) (by rfl) ?_
    have hres := congrArg Array.toList Try.results105
    simp only [Try.ntmps105, BGB, seval]
    (have gx := And.intro (@List.length_map.{0,0}) (And.intro (@List.getElem_map.{0,0}) (And.intro @bytK.eq_1 @List.length_map.{0,0})); refine go ?_; (repeat' (first | exact Ef.mk | refine Lf.mk ?_ ?_ | refine fun (K : KT) hK hE hT => ?_ | refine fun (KS : Eff → Prop) hKS => ?_ | refine fun (D : List Keys → Prop) hD => ?_ | refine fun (hg : (_ : Prop)) => ?_ | fail)); all_goals (first | (refine Wr.mk ?_; (try clear gx); repeat (first | (clear hK hE hT; clear K) | (clear hR hE hT; clear K))) | assumption | skip))
    all_goals (refine post_a hres (.inl rfl) ?_; simp only [RSB, ENB, seval, tiAll, true_and]; simp only [MAB, seval]; refine ⟨rfl, rfl, ?_, ?_, ?_⟩ <;> (first | rfl | (simp [WKB, Nat.add_comm, true_and]; done) | (simp only [WKB, seval])))
  case pos =>
    have c0 := putVar0_k l.length (by omega)
    refine fnOK_of true mixed Try.func105 rfl (by rfl) (by rfl) ?_
    have hres := congrArg Array.toList Try.results105
    simp only [Try.ntmps105, BGB, seval]
    (have gx := And.intro (@List.length_map.{0,0}) (And.intro (@List.getElem_map.{0,0}) (And.intro @bytK.eq_1 @List.length_map.{0,0})); have q1 := c0; refine go ?_; (repeat' (first | exact Ef.mk | refine Lf.mk ?_ ?_ | refine fun (K : KT) hK hE hT => ?_ | refine fun (KS : Eff → Prop) hKS => ?_ | refine fun (D : List Keys → Prop) hD => ?_ | refine fun (hg : (_ : Prop)) => ?_ | fail)); all_goals (first | (refine Wr.mk ?_; (try clear gx); (try clear q1); repeat (first | (clear hK hE hT; clear K) | (clear hR hE hT; clear K))) | assumption | skip))
    refine loop_v (X := {k : Nat // k ≤ l.length ∧ Rnd (prO l k)}) [12] (fun x => [(15, .c (.v (.int .i64 ((x.1 : Nat) : Int)))), (4, .c (.sl 1 1 0 (lbT l x.1).length))]) (fun x => [(0, some (.ro (l.map intK))), (1, some (.row 5 ((lbT l x.1).map bytK)))]) 2 (fun x => l.length - x.1) ⟨0, by omega, ⟨fun i h hi => absurd hi (by omega)⟩⟩ ?_
    simp only [KPB, seval]
    refine ⟨?_, ?_⟩
    · (refine wk_a ?_; simp only [MAB, seval]; refine ⟨rfl, rfl, (by decide), ?_, ?_⟩; all_goals (first | (simp only [WKB, seval, lbT_zero, Nat.reduceLT, Nat.zero_lt_succ]; done) | (simp [WKB, seval, lbT_zero]; done) | simp only [WKB, seval]))
    · rintro ⟨k, hk, hr⟩ K hR hE hT
      have hlb := lbT_len hlen k
      rcases Nat.lt_or_ge k l.length with hlt | hge
      case inr =>
        obtain rfl : k = l.length := by omega
        have e := lbO_end hlen hr.out
        have e2 : lbR l = lbT l l.length := by unfold lbR; rw [e]; rfl
        (have gx := And.intro (@List.length_map.{0,0}) (And.intro (@List.getElem_map.{0,0}) (And.intro @bytK.eq_1 @List.length_map.{0,0})); refine go ?_; (repeat' (first | exact Ef.mk | refine Lf.mk ?_ ?_ | refine fun (K : KT) hK hE hT => ?_ | refine fun (KS : Eff → Prop) hKS => ?_ | refine fun (D : List Keys → Prop) hD => ?_ | refine fun (hg : (_ : Prop)) => ?_ | fail)); all_goals (first | (refine Wr.mk ?_; (try clear gx); repeat (first | (clear hK hE hT; clear K) | (clear hR hE hT; clear K))) | assumption | skip))
        (refine post_a hres (.inl rfl) ?_; simp only [RSB, ENB, seval, tiAll, e, e2]; simp only [MAB, seval]; refine ⟨rfl, rfl, ?_, ?_, ?_⟩ <;> (first | rfl | (simp [WKB, Nat.add_comm, e, e2]; done) | (simp only [WKB, seval])))
      case inl =>
        cases hv : pvO l[k] with
        | false =>
          have hv' := hv
          unfold pvO at hv'
          rw [decide_eq_false_iff_not] at hv'
          have cn := isNumber_k l[k]
          rw [decide_eq_false hv'] at cn
          have e := lbO_bad hlt hv
          have e2 : lbR l = [] := by unfold lbR; rw [e]; rfl
          (have gx := And.intro (@List.length_map.{0,0}) (And.intro (@List.getElem_map.{0,0}) (And.intro (@bytK.eq_1) (And.intro (@List.length_map.{0,0}) (And.intro @List.getElem_map.{0,0} @intK.eq_1)))); have q1 := cn; refine go ?_; (repeat' (first | exact Ef.mk | refine Lf.mk ?_ ?_ | refine fun (K : KT) hK hE hT => ?_ | refine fun (KS : Eff → Prop) hKS => ?_ | refine fun (D : List Keys → Prop) hD => ?_ | refine fun (hg : (_ : Prop)) => ?_ | fail)); all_goals (first | (refine Wr.mk ?_; (try clear gx); (try clear q1); repeat (first | (clear hK hE hT; clear K) | (clear hR hE hT; clear K))) | assumption | skip))
          (refine post_a hres (.inl rfl) ?_; simp only [RSB, ENB, seval, tiAll, e, e2]; simp only [MAB, seval]; refine ⟨rfl, rfl, ?_, ?_, ?_⟩ <;> (first | rfl | (simp [WKB, Nat.add_comm, e, e2]; done) | (simp only [WKB, seval])))
        | true =>
          have hv' := hv
          unfold pvO at hv'
          rw [decide_eq_true_eq] at hv'
          have cn := isNumber_k l[k]
          rw [decide_eq_true hv'] at cn
          have e := lbT_succ hlt
          have cp := putFix_k (lbT l k) l[k].toNat (by omega) (by omega)
          rw [show ((l[k].toNat : Nat) : Int) = l[k] by omega] at cp
          rw [← e] at cp
          (have gx := And.intro (@List.length_map.{0,0}) (And.intro (@List.getElem_map.{0,0}) (And.intro (@bytK.eq_1) (And.intro (@List.length_map.{0,0}) (And.intro @List.getElem_map.{0,0} @intK.eq_1)))); have q1 := cn; have q2 := cp; refine go ?_; (repeat' (first | exact Ef.mk | refine Lf.mk ?_ ?_ | refine fun (K : KT) hK hE hT => ?_ | refine fun (KS : Eff → Prop) hKS => ?_ | refine fun (D : List Keys → Prop) hD => ?_ | refine fun (hg : (_ : Prop)) => ?_ | fail)); all_goals (first | (refine Wr.mk ?_; (try clear gx); (try clear q1 q2); repeat (first | (clear hK hE hT; clear K) | (clear hR hE hT; clear K))) | assumption | skip))
          (refine hR.out ⟨k + 1, by omega, ⟨prO_succ hr.out hlt hv⟩⟩ _ _ _ (by simp only; omega) ?_; (refine wk_a ?_; simp only [MAB, seval]; refine ⟨rfl, rfl, (by decide), ?_, ?_⟩; all_goals (first | (simp only [WKB, seval, true_and, Nat.reduceLT, Nat.zero_lt_succ]; done) | (simp [WKB, seval, true_and]; done) | simp only [WKB, seval])))

set_option maxHeartbeats 4000000 in
theorem specListBytes_k (l : List Int) (hl : l.length ≤ 1048576) : FnOK Try.prog 97 ⟨1, [(0, some (.ro (l.map intK)))], [.c (.sl 0 1 0 l.length)],
    .tup [.inl (.sl 1 1 0 (lbR l).length), .inl (.v (.bool (lbO l)))], [(1, some (.row 5 ((lbR l).map bytK)))], 2⟩ := by
  by_cases hlen : l.length ≤ 400
  case neg =>
    have e := lbO_long hlen
    have e2 : lbR l = [] := by unfold lbR; rw [e]; rfl
    rw [e, e2]
    refine fnOK_of true mixed Try.func97 rfl (by rfl) (by rfl) ?_
    have hres := congrArg Array.toList Try.results97
    simp only [Try.ntmps97, BGB, seval]
    (have gx := And.intro (@List.length_map.{0,0}) (And.intro (@List.getElem_map.{0,0}) (And.intro @bytK.eq_1 @List.length_map.{0,0})); refine go ?_; (repeat' (first | exact Ef.mk | refine Lf.mk ?_ ?_ | refine fun (K : KT) hK hE hT => ?_ | refine fun (KS : Eff → Prop) hKS => ?_ | refine fun (D : List Keys → Prop) hD => ?_ | refine fun (hg : (_ : Prop)) => ?_ | fail)); all_goals (first | (refine Wr.mk ?_; (try clear gx); repeat (first | (clear hK hE hT; clear K) | (clear hR hE hT; clear K))) | assumption | skip))
    all_goals (refine post_a hres (.inl rfl) ?_; simp only [RSB, ENB, seval, tiAll, true_and]; simp only [MAB, seval]; refine ⟨rfl, rfl, ?_, ?_, ?_⟩ <;> (first | rfl | (simp [WKB, Nat.add_comm, true_and]; done) | (simp only [WKB, seval])))
  case pos =>
    have c0 := specPutVar_k [] ((l.length : Nat) : Int) (by simp)
    rw [(pvL_yes (l := []) (m := l.length) (by omega)).1, (pvL_yes (l := []) (m := l.length) (by omega)).2, List.nil_append] at c0
    refine fnOK_of true mixed Try.func97 rfl (by rfl) (by rfl) ?_
    have hres := congrArg Array.toList Try.results97
    simp only [Try.ntmps97, BGB, seval]
    (have gx := And.intro (@List.length_map.{0,0}) (And.intro (@List.getElem_map.{0,0}) (And.intro @bytK.eq_1 @List.length_map.{0,0})); have q1 := c0; refine go ?_; (repeat' (first | exact Ef.mk | refine Lf.mk ?_ ?_ | refine fun (K : KT) hK hE hT => ?_ | refine fun (KS : Eff → Prop) hKS => ?_ | refine fun (D : List Keys → Prop) hD => ?_ | refine fun (hg : (_ : Prop)) => ?_ | fail)); all_goals (first | (refine Wr.mk ?_; (try clear gx); (try clear q1); repeat (first | (clear hK hE hT; clear K) | (clear hR hE hT; clear K))) | assumption | skip))
    refine loop_v (X := {k : Nat // k ≤ l.length ∧ Rnd (prO l k)}) [13, 16, 17] (fun x => [(21, .c (.v (.int .i64 ((x.1 : Nat) : Int)))), (4, .c (.sl 1 1 0 (lbT l x.1).length))]) (fun x => [(0, some (.ro (l.map intK))), (1, some (.row 5 ((lbT l x.1).map bytK)))]) 2 (fun x => l.length - x.1) ⟨0, by omega, ⟨fun i h hi => absurd hi (by omega)⟩⟩ ?_
    simp only [KPB, seval]
    refine ⟨?_, ?_⟩
    · (refine wk_a ?_; simp only [MAB, seval]; refine ⟨rfl, rfl, (by decide), ?_, ?_⟩; all_goals (first | (simp only [WKB, seval, lbT_zero, Nat.reduceLT, Nat.zero_lt_succ]; done) | (simp [WKB, seval, lbT_zero]; done) | simp only [WKB, seval]))
    · rintro ⟨k, hk, hr⟩ K hR hE hT
      have hlb := lbT_len hlen k
      rcases Nat.lt_or_ge k l.length with hlt | hge
      case inr =>
        obtain rfl : k = l.length := by omega
        have e := lbO_end hlen hr.out
        have e2 : lbR l = lbT l l.length := by unfold lbR; rw [e]; rfl
        (have gx := And.intro (@List.length_map.{0,0}) (And.intro (@List.getElem_map.{0,0}) (And.intro @bytK.eq_1 @List.length_map.{0,0})); refine go ?_; (repeat' (first | exact Ef.mk | refine Lf.mk ?_ ?_ | refine fun (K : KT) hK hE hT => ?_ | refine fun (KS : Eff → Prop) hKS => ?_ | refine fun (D : List Keys → Prop) hD => ?_ | refine fun (hg : (_ : Prop)) => ?_ | fail)); all_goals (first | (refine Wr.mk ?_; (try clear gx); repeat (first | (clear hK hE hT; clear K) | (clear hR hE hT; clear K))) | assumption | skip))
        (refine post_a hres (.inl rfl) ?_; simp only [RSB, ENB, seval, tiAll, e, e2]; simp only [MAB, seval]; refine ⟨rfl, rfl, ?_, ?_, ?_⟩ <;> (first | rfl | (simp [WKB, Nat.add_comm, e, e2]; done) | (simp only [WKB, seval])))
      case inl =>
        have cp := specPutFix_k (lbT l k) l[k] (by omega)
        cases hv : pvO l[k] with
        | false =>
          rw [hv] at cp
          have e := lbO_bad hlt hv
          have e2 : lbR l = [] := by unfold lbR; rw [e]; rfl
          (have gx := And.intro (@List.length_map.{0,0}) (And.intro (@List.getElem_map.{0,0}) (And.intro (@bytK.eq_1) (And.intro (@List.length_map.{0,0}) (And.intro @List.getElem_map.{0,0} @intK.eq_1)))); have q1 := cp; refine go ?_; (repeat' (first | exact Ef.mk | refine Lf.mk ?_ ?_ | refine fun (K : KT) hK hE hT => ?_ | refine fun (KS : Eff → Prop) hKS => ?_ | refine fun (D : List Keys → Prop) hD => ?_ | refine fun (hg : (_ : Prop)) => ?_ | fail)); all_goals (first | (refine Wr.mk ?_; (try clear gx); (try clear q1); repeat (first | (clear hK hE hT; clear K) | (clear hR hE hT; clear K))) | assumption | skip))
          (refine post_a hres (.inl rfl) ?_; simp only [RSB, ENB, seval, tiAll, e, e2]; simp only [MAB, seval]; refine ⟨rfl, rfl, ?_, ?_, ?_⟩ <;> (first | rfl | (simp [WKB, Nat.add_comm, e, e2]; done) | (simp only [WKB, seval])))
        | true =>
          have e0 : pfL (lbT l k) l[k] = lbT l k ++ fixB l[k].toNat := by unfold pfL; rw [hv]; rfl
          have e := lbT_succ hlt
          rw [hv, e0, ← e] at cp
          (have gx := And.intro (@List.length_map.{0,0}) (And.intro (@List.getElem_map.{0,0}) (And.intro (@bytK.eq_1) (And.intro (@List.length_map.{0,0}) (And.intro @List.getElem_map.{0,0} @intK.eq_1)))); have q1 := cp; refine go ?_; (repeat' (first | exact Ef.mk | refine Lf.mk ?_ ?_ | refine fun (K : KT) hK hE hT => ?_ | refine fun (KS : Eff → Prop) hKS => ?_ | refine fun (D : List Keys → Prop) hD => ?_ | refine fun (hg : (_ : Prop)) => ?_ | fail)); all_goals (first | (refine Wr.mk ?_; (try clear gx); (try clear q1); repeat (first | (clear hK hE hT; clear K) | (clear hR hE hT; clear K))) | assumption | skip))
          (refine hR.out ⟨k + 1, by omega, ⟨prO_succ hr.out hlt hv⟩⟩ _ _ _ (by simp only; omega) ?_; (refine wk_a ?_; simp only [MAB, seval]; refine ⟨rfl, rfl, (by decide), ?_, ?_⟩; all_goals (first | (simp only [WKB, seval, true_and, Nat.reduceLT, Nat.zero_lt_succ]; done) | (simp [WKB, seval, true_and]; done) | simp only [WKB, seval])))

end Go.Proofs.Ytageceacjmmmdaa
