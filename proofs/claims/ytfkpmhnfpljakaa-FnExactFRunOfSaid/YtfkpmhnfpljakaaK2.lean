/-
  Contracts: graphs, jobs, values, members of sets. No conditions of its own.
-/
import Derived.Test.YtfkpmhnfpljakaaGO
import Derived.Test.YtfkpmhnfpljakaaK1
import Derived.Test.YtfkpmhnfpljakaaH3d
import Derived.Test.YtfkpmhnfpljakaaFm
namespace Go.Proofs.Ytfkpmhnfpljakaa
set_option linter.unusedSimpArgs false
set_option linter.unusedVariables false
set_option linter.unusedSimpArgs false
set_option linter.unusedVariables false
set_option linter.defProp false
open Go.RowKit

section
variable {α : Type}
theorem all_no {p : α → Bool} {l : List α} {k : Nat} (h : k < l.length) (hp : p l[k] = false) : l.all p = false := by
  rw [Bool.eq_false_iff]
  intro h'
  rw [List.all_eq_true] at h'
  rw [h' _ (List.getElem_mem h)] at hp
  cases hp
theorem all_yes {p : α → Bool} {l : List α} {k : Nat} (hk : l.length ≤ k) (h : ∀ i (hi : i < l.length), i < k → p l[i] = true) : l.all p = true := by
  rw [List.all_eq_true]
  intro x hx
  obtain ⟨i, hi, rfl⟩ := List.getElem_of_mem hx
  exact h i hi (by omega)
theorem all_more {p : α → Bool} {l : List α} {k : Nat} (h : ∀ i (hi : i < l.length), i < k → p l[i] = true) (hk : k < l.length) (hp : p l[k] = true) : ∀ i (hi : i < l.length), i < k + 1 → p l[i] = true := by
  intro i hi hlt
  by_cases hik : i = k
  · subst hik; exact hp
  · exact h i hi (by omega)
end

def valOk (z : Int) : Bool := decide (0 ≤ z ∧ z ≤ 1099511627776)
def edgeOk (n : Int) (e : EdgeD) : Bool := decide (0 ≤ e.From ∧ e.From < n ∧ 0 ≤ e.To ∧ e.To < n ∧ 0 ≤ e.W ∧ e.W ≤ 1000)
def graphOk (g : GraphD) : Bool := decide (0 ≤ g.N ∧ g.N ≤ 150 ∧ g.Edges.length ≤ 400) && g.Edges.all (edgeOk g.N)
def jobOk (n : Int) (j : JobD) : Bool := decide (1 ≤ j.Prog ∧ j.Prog ≤ 4 ∧ (j.Prog = 3 → 0 ≤ j.Src ∧ j.Src < n) ∧ (j.Prog ≠ 3 → j.Src = 0))

theorem specIsVal (z : Int) : valOk z = decide (0 ≤ z ∧ z ≤ 1099511627776) := rfl

theorem implisValue_k (z : Int) : FnOK Try.prog 67 ⟨0, [], [.c (.v (.int .i64 z))], .c (.v (.bool (valOk z))), [], 0⟩ := by
  refine fnOK_of true mixed Try.func67 rfl (by rfl) (by rfl) ?_
  have hres := congrArg Array.toList Try.results67
  simp only [Try.ntmps67, BGB, seval]
  (have gx := true_and True; refine go ?_; (repeat' (first | exact Ef.mk | refine Lf.mk ?_ ?_ | refine fun (K : KT) hK hE hT => ?_ | refine fun (KS : Eff → Prop) hKS => ?_ | refine fun (D : List Keys → Prop) hD => ?_ | refine fun (hg : (_ : Prop)) => ?_ | fail)); all_goals (first | (refine Wr.mk ?_; (try clear gx); repeat (first | (clear hK hE hT; clear K) | (clear hR hE hT; clear K))) | assumption | skip))
  all_goals (have e : valOk z = decide (z ≤ 1099511627776 ∧ 0 ≤ z) := by simp only [valOk, and_comm]
             (refine post_a hres (.inl rfl) ?_; simp only [RSB, ENB, seval, tiAll, e, *]; simp only [MAB, seval]; refine ⟨rfl, rfl, ?_, ?_, ?_⟩ <;> (first | rfl | (simp [WKB, Nat.add_comm, e, *]; done) | (simp only [WKB, seval]))))

theorem implisProg_k (z : Int) : FnOK Try.prog 165 ⟨0, [], [.c (.v (.int .i64 z))], .c (.v (.bool (decide (1 ≤ z ∧ z ≤ 4)))), [], 0⟩ := by
  refine fnOK_of true mixed Try.func165 rfl (by rfl) (by rfl) ?_
  have hres := congrArg Array.toList Try.results165
  simp only [Try.ntmps165, BGB, seval]
  (have gx := true_and True; refine go ?_; (repeat' (first | exact Ef.mk | refine Lf.mk ?_ ?_ | refine fun (K : KT) hK hE hT => ?_ | refine fun (KS : Eff → Prop) hKS => ?_ | refine fun (D : List Keys → Prop) hD => ?_ | refine fun (hg : (_ : Prop)) => ?_ | fail)); all_goals (first | (refine Wr.mk ?_; (try clear gx); repeat (first | (clear hK hE hT; clear K) | (clear hR hE hT; clear K))) | assumption | skip))
  all_goals (refine post_a hres (.inl rfl) ?_; simp only [RSB, ENB, seval, tiAll, true_and]; simp only [MAB, seval]; refine ⟨rfl, rfl, ?_, ?_, ?_⟩ <;> (first | rfl | (simp [WKB, Nat.add_comm, true_and]; done) | (simp only [WKB, seval])))
  all_goals (refine congrArg (fun b => SV.c (CV.v (Value.bool b))) ?_; symm; first | (rw [decide_eq_false_iff_not]; omega) | (rw [decide_eq_true_eq]; omega) | (rw [decide_eq_decide]; omega) | (rw [Bool.eq_iff_iff]; simp only [decide_eq_true_eq, beq_iff_eq]; omega))

set_option maxHeartbeats 1000000 in
theorem l11Vals_k (l : List Int) (hl : l.length ≤ 9223372036854775807) : FnOK Try.prog 129 ⟨1, [(0, some (.ro (l.map intK)))], [.c (.sl 0 1 0 l.length)], .c (.v (.bool (l.all valOk))), [], 1⟩ := by
  refine fnOK_of true mixed Try.func129 rfl (by rfl) (by rfl) ?_
  have hres := congrArg Array.toList Try.results129
  simp only [Try.ntmps129, BGB, seval]
  (have gx := true_and True; refine go ?_; (repeat' (first | exact Ef.mk | refine Lf.mk ?_ ?_ | refine fun (K : KT) hK hE hT => ?_ | refine fun (KS : Eff → Prop) hKS => ?_ | refine fun (D : List Keys → Prop) hD => ?_ | refine fun (hg : (_ : Prop)) => ?_ | fail)); all_goals (first | (refine Wr.mk ?_; (try clear gx); repeat (first | (clear hK hE hT; clear K) | (clear hR hE hT; clear K))) | assumption | skip))
  refine loop_v (X := {k : Nat // k ≤ l.length ∧ Rnd (∀ i (hi : i < l.length), i < k → valOk l[i] = true)}) [] (fun x => [(7, .c (.v (.int .i64 ((x.1 : Nat) : Int))))]) (fun x => [(0, some (.ro (l.map intK)))]) 1 (fun x => l.length - x.1) ⟨0, by omega, ⟨fun i hi h => by omega⟩⟩ ?_
  simp only [KPB, seval]
  refine ⟨?_, ?_⟩
  · (refine wk_a ?_; simp only [MAB, seval]; refine ⟨rfl, rfl, (by decide), ?_, ?_⟩; all_goals (first | (simp only [WKB, seval, true_and, Nat.reduceLT, Nat.zero_lt_succ]; done) | (simp [WKB, seval, true_and]; done) | simp only [WKB, seval]))
  · rintro ⟨k, hk, hi⟩ K hR hE hT
    (have gx := And.intro (@List.length_map.{0,0}) (And.intro @List.getElem_map.{0,0} @intK.eq_1); refine go ?_; (repeat' (first | exact Ef.mk | refine Lf.mk ?_ ?_ | refine fun (K : KT) hK hE hT => ?_ | refine fun (KS : Eff → Prop) hKS => ?_ | refine fun (D : List Keys → Prop) hD => ?_ | refine fun (hg : (_ : Prop)) => ?_ | fail)); all_goals (first | (refine Wr.mk ?_; (try clear gx); repeat (first | (clear hK hE hT; clear K) | (clear hR hE hT; clear K))) | assumption | skip))
    all_goals first
      | (have e : valOk (l[k]'(by omega)) = false := by unfold valOk; rw [decide_eq_false_iff_not]; omega
         (refine post_a hres (.inl rfl) ?_; simp only [RSB, ENB, seval, tiAll, all_no (p := valOk) (by omega) e]; simp only [MAB, seval]; refine ⟨rfl, rfl, ?_, ?_, ?_⟩ <;> (first | rfl | (simp [WKB, Nat.add_comm, all_no (p := valOk) (by omega) e]; done) | (simp only [WKB, seval]))))
      | (have e : valOk (l[k]'(by omega)) = true := by unfold valOk; rw [decide_eq_true_eq]; omega
         (refine hR.out ⟨k + 1, by omega, ⟨all_more hi.out (by omega) e⟩⟩ _ _ _ (by simp only; omega) ?_; (refine wk_a ?_; simp only [MAB, seval]; refine ⟨rfl, rfl, (by decide), ?_, ?_⟩; all_goals (first | (simp only [WKB, seval, true_and, Nat.reduceLT, Nat.zero_lt_succ]; done) | (simp [WKB, seval, true_and]; done) | simp only [WKB, seval]))))
      | ((refine post_a hres (.inl rfl) ?_; simp only [RSB, ENB, seval, tiAll, all_yes (p := valOk) (k := k) (by omega) hi.out]; simp only [MAB, seval]; refine ⟨rfl, rfl, ?_, ?_, ?_⟩ <;> (first | rfl | (simp [WKB, Nat.add_comm, all_yes (p := valOk) (k := k) (by omega) hi.out]; done) | (simp only [WKB, seval]))))

set_option maxHeartbeats 1000000 in
theorem areValues_k (l : List Int) (hl : l.length ≤ 9223372036854775807) : FnOK Try.prog 110 ⟨1, [(0, some (.ro (l.map intK)))], [.c (.sl 0 1 0 l.length)], .c (.v (.bool (l.all valOk))), [], 1⟩ := by
  refine fnOK_of true mixed Try.func110 rfl (by rfl) (by rfl) ?_
  have hres := congrArg Array.toList Try.results110
  simp only [Try.ntmps110, BGB, seval]
  (have gx := true_and True; refine go ?_; (repeat' (first | exact Ef.mk | refine Lf.mk ?_ ?_ | refine fun (K : KT) hK hE hT => ?_ | refine fun (KS : Eff → Prop) hKS => ?_ | refine fun (D : List Keys → Prop) hD => ?_ | refine fun (hg : (_ : Prop)) => ?_ | fail)); all_goals (first | (refine Wr.mk ?_; (try clear gx); repeat (first | (clear hK hE hT; clear K) | (clear hR hE hT; clear K))) | assumption | skip))
  refine loop_v (X := {k : Nat // k ≤ l.length ∧ Rnd (∀ i (hi : i < l.length), i < k → valOk l[i] = true)}) [] (fun x => [(7, .c (.v (.int .i64 ((x.1 : Nat) : Int))))]) (fun x => [(0, some (.ro (l.map intK)))]) 1 (fun x => l.length - x.1) ⟨0, by omega, ⟨fun i hi h => by omega⟩⟩ ?_
  simp only [KPB, seval]
  refine ⟨?_, ?_⟩
  · (refine wk_a ?_; simp only [MAB, seval]; refine ⟨rfl, rfl, (by decide), ?_, ?_⟩; all_goals (first | (simp only [WKB, seval, true_and, Nat.reduceLT, Nat.zero_lt_succ]; done) | (simp [WKB, seval, true_and]; done) | simp only [WKB, seval]))
  · rintro ⟨k, hk, hi⟩ K hR hE hT
    (have gx := And.intro (@List.length_map.{0,0}) (And.intro @List.getElem_map.{0,0} @intK.eq_1); have q1 := fun hq1 => implisValue_k (l[k]'hq1); refine go ?_; (repeat' (first | exact Ef.mk | refine Lf.mk ?_ ?_ | refine fun (K : KT) hK hE hT => ?_ | refine fun (KS : Eff → Prop) hKS => ?_ | refine fun (D : List Keys → Prop) hD => ?_ | refine fun (hg : (_ : Prop)) => ?_ | fail)); all_goals (first | (refine Wr.mk ?_; (try clear gx); (try clear q1); repeat (first | (clear hK hE hT; clear K) | (clear hR hE hT; clear K))) | assumption | skip))
    · have e : valOk (l[k]'(by omega)) = false := by assumption
      (refine post_a hres (.inl rfl) ?_; simp only [RSB, ENB, seval, tiAll, all_no (p := valOk) (by omega) e]; simp only [MAB, seval]; refine ⟨rfl, rfl, ?_, ?_, ?_⟩ <;> (first | rfl | (simp [WKB, Nat.add_comm, all_no (p := valOk) (by omega) e]; done) | (simp only [WKB, seval])))
    · have e : valOk (l[k]'(by omega)) = true := by assumption
      (refine hR.out ⟨k + 1, by omega, ⟨all_more hi.out (by omega) e⟩⟩ _ _ _ (by simp only; omega) ?_; (refine wk_a ?_; simp only [MAB, seval]; refine ⟨rfl, rfl, (by decide), ?_, ?_⟩; all_goals (first | (simp only [WKB, seval, true_and, Nat.reduceLT, Nat.zero_lt_succ]; done) | (simp [WKB, seval, true_and]; done) | simp only [WKB, seval])))
    · (refine post_a hres (.inl rfl) ?_; simp only [RSB, ENB, seval, tiAll, all_yes (p := valOk) (k := k) (by omega) hi.out]; simp only [MAB, seval]; refine ⟨rfl, rfl, ?_, ?_, ?_⟩ <;> (first | rfl | (simp [WKB, Nat.add_comm, all_yes (p := valOk) (k := k) (by omega) hi.out]; done) | (simp only [WKB, seval])))


set_option maxHeartbeats 1000000 in
theorem specJobOk_k (n : Int) (j : JobD) : FnOK Try.prog 128 ⟨0, [], [.c (.v (.int .i64 n)), .agg [.v (.int .i64 j.Prog), .v (.int .i64 j.Src)]], .c (.v (.bool (jobOk n j))), [], 0⟩ := by
  obtain ⟨p, s⟩ := j
  refine fnOK_of true mixed Try.func128 rfl (by rfl) (by rfl) ?_
  have hres := congrArg Array.toList Try.results128
  simp only [Try.ntmps128, BGB, seval]
  (have gx := true_and True; refine go ?_; (repeat' (first | exact Ef.mk | refine Lf.mk ?_ ?_ | refine fun (K : KT) hK hE hT => ?_ | refine fun (KS : Eff → Prop) hKS => ?_ | refine fun (D : List Keys → Prop) hD => ?_ | refine fun (hg : (_ : Prop)) => ?_ | fail)); all_goals (first | (refine Wr.mk ?_; (try clear gx); repeat (first | (clear hK hE hT; clear K) | (clear hR hE hT; clear K))) | assumption | skip))
  all_goals (refine post_a hres (.inl rfl) ?_; simp only [RSB, ENB, seval, tiAll, true_and]; simp only [MAB, seval]; refine ⟨rfl, rfl, ?_, ?_, ?_⟩ <;> (first | rfl | (simp [WKB, Nat.add_comm, true_and]; done) | (simp only [WKB, seval])))
  all_goals (unfold jobOk; dsimp only)
  all_goals (refine congrArg (fun b => SV.c (CV.v (Value.bool b))) ?_; symm; first | (rw [decide_eq_false_iff_not]; omega) | (rw [decide_eq_true_eq]; omega) | (rw [decide_eq_decide]; omega) | (rw [Bool.eq_iff_iff]; simp only [decide_eq_true_eq, beq_iff_eq]; omega))

set_option maxHeartbeats 1000000 in
theorem implJobOk_k (n : Int) (j : JobD) : FnOK Try.prog 133 ⟨0, [], [.c (.v (.int .i64 n)), .agg [.v (.int .i64 j.Prog), .v (.int .i64 j.Src)]], .c (.v (.bool (jobOk n j))), [], 0⟩ := by
  obtain ⟨p, s⟩ := j
  refine fnOK_of true mixed Try.func133 rfl (by rfl) (by rfl) ?_
  have hres := congrArg Array.toList Try.results133
  simp only [Try.ntmps133, BGB, seval]
  (have gx := true_and True; have q1 := implisProg_k p; refine go ?_; (repeat' (first | exact Ef.mk | refine Lf.mk ?_ ?_ | refine fun (K : KT) hK hE hT => ?_ | refine fun (KS : Eff → Prop) hKS => ?_ | refine fun (D : List Keys → Prop) hD => ?_ | refine fun (hg : (_ : Prop)) => ?_ | fail)); all_goals (first | (refine Wr.mk ?_; (try clear gx); (try clear q1); repeat (first | (clear hK hE hT; clear K) | (clear hR hE hT; clear K))) | assumption | skip))
  all_goals (refine post_a hres (.inl rfl) ?_; simp only [RSB, ENB, seval, tiAll, true_and]; simp only [MAB, seval]; refine ⟨rfl, rfl, ?_, ?_, ?_⟩ <;> (first | rfl | (simp [WKB, Nat.add_comm, true_and]; done) | (simp only [WKB, seval])))
  all_goals (unfold jobOk; dsimp only)
  all_goals (refine congrArg (fun b => SV.c (CV.v (Value.bool b))) ?_; symm; first | (rw [decide_eq_false_iff_not]; omega) | (rw [decide_eq_true_eq]; omega) | (rw [decide_eq_decide]; omega) | (rw [Bool.eq_iff_iff]; simp only [decide_eq_true_eq, beq_iff_eq]; omega))


set_option maxHeartbeats 4000000 in
theorem specGraphOk_k (g : GraphD) (hl : g.Edges.length ≤ 9223372036854775807) : FnOK Try.prog 97 ⟨1, [(0, some (.ro ((g.Edges).map EdgeD.k)))], [.agg [.v (.int .i64 g.N), .sl 0 3 0 (g.Edges).length]], .c (.v (.bool (graphOk g))), [], 1⟩ := by
  obtain ⟨n, l⟩ := g
  dsimp only at hl
  refine fnOK_of true mixed Try.func97 rfl (by rfl) (by rfl) ?_
  have hres := congrArg Array.toList Try.results97
  simp only [Try.ntmps97, BGB, seval]
  (have gx := And.intro (@List.length_map.{0,0}) (And.intro @List.getElem_map.{0,0} @EdgeD.k.eq_1); refine go ?_; (repeat' (first | exact Ef.mk | refine Lf.mk ?_ ?_ | refine fun (K : KT) hK hE hT => ?_ | refine fun (KS : Eff → Prop) hKS => ?_ | refine fun (D : List Keys → Prop) hD => ?_ | refine fun (hg : (_ : Prop)) => ?_ | fail)); all_goals (first | (refine Wr.mk ?_; (try clear gx); repeat (first | (clear hK hE hT; clear K) | (clear hR hE hT; clear K))) | assumption | skip))
  all_goals first
    | (have e : graphOk ⟨n, l⟩ = false := by
         unfold graphOk; dsimp only; rw [decide_eq_false (by omega), Bool.false_and]
       (refine post_a hres (.inl rfl) ?_; simp only [RSB, ENB, seval, tiAll, e]; simp only [MAB, seval]; refine ⟨rfl, rfl, ?_, ?_, ?_⟩ <;> (first | rfl | (simp [WKB, Nat.add_comm, e]; done) | (simp only [WKB, seval]))))
    | skip
  refine loop_v (X := {k : Nat // k ≤ l.length ∧ Rnd (∀ i (hi : i < l.length), i < k → edgeOk n l[i] = true)}) [] (fun x => [(8, .c (.v (.int .i64 ((x.1 : Nat) : Int))))]) (fun x => [(0, some (.ro (l.map EdgeD.k))), (1, some (.box 89 [.v (.int .i64 n), .sl 0 3 0 l.length]))]) 2 (fun x => l.length - x.1) ⟨0, by omega, ⟨fun i hi h => by omega⟩⟩ ?_
  simp only [KPB, seval]
  refine ⟨?_, ?_⟩
  · (refine wk_a ?_; simp only [MAB, seval]; refine ⟨rfl, rfl, (by decide), ?_, ?_⟩; all_goals (first | (simp only [WKB, seval, true_and, Nat.reduceLT, Nat.zero_lt_succ]; done) | (simp [WKB, seval, true_and]; done) | simp only [WKB, seval]))
  · rintro ⟨k, hk, hi⟩ K hR hE hT
    (have gx := And.intro (@List.length_map.{0,0}) (And.intro @List.getElem_map.{0,0} @EdgeD.k.eq_1); refine go ?_; (repeat' (first | exact Ef.mk | refine Lf.mk ?_ ?_ | refine fun (K : KT) hK hE hT => ?_ | refine fun (KS : Eff → Prop) hKS => ?_ | refine fun (D : List Keys → Prop) hD => ?_ | refine fun (hg : (_ : Prop)) => ?_ | fail)); all_goals (first | (refine Wr.mk ?_; (try clear gx); repeat (first | (clear hK hE hT; clear K) | (clear hR hE hT; clear K))) | assumption | skip))
    all_goals first
      | (have e : edgeOk n (l[k]'(by omega)) = false := by unfold edgeOk; rw [decide_eq_false_iff_not]; omega
         have e2 : graphOk ⟨n, l⟩ = false := by unfold graphOk; dsimp only; rw [all_no (by omega) e, Bool.and_false]
         (refine post_a hres (.inl rfl) ?_; simp only [RSB, ENB, seval, tiAll, e2]; simp only [MAB, seval]; refine ⟨rfl, rfl, ?_, ?_, ?_⟩ <;> (first | rfl | (simp [WKB, Nat.add_comm, e2]; done) | (simp only [WKB, seval]))))
      | (have e : edgeOk n (l[k]'(by omega)) = true := by unfold edgeOk; rw [decide_eq_true_eq]; omega
         (refine hR.out ⟨k + 1, by omega, ⟨all_more hi.out (by omega) e⟩⟩ _ _ _ (by simp only; omega) ?_; (refine wk_a ?_; simp only [MAB, seval]; refine ⟨rfl, rfl, (by decide), ?_, ?_⟩; all_goals (first | (simp only [WKB, seval, true_and, Nat.reduceLT, Nat.zero_lt_succ]; done) | (simp [WKB, seval, true_and]; done) | simp only [WKB, seval]))))
      | (have e : l.all (edgeOk n) = true := all_yes (k := k) (by omega) hi.out
         have e2 : graphOk ⟨n, l⟩ = decide (0 ≤ n ∧ n ≤ 150 ∧ l.length ≤ 400) := by unfold graphOk; dsimp only; rw [e, Bool.and_true]
         (refine post_a hres (.inl rfl) ?_; simp only [RSB, ENB, seval, tiAll, e2]; simp only [MAB, seval]; refine ⟨rfl, rfl, ?_, ?_, ?_⟩ <;> (first | rfl | (simp [WKB, Nat.add_comm, e2]; done) | (simp only [WKB, seval])))
         all_goals (refine congrArg (fun b => SV.c (CV.v (Value.bool b))) ?_; symm; first | (rw [decide_eq_false_iff_not]; omega) | (rw [decide_eq_true_eq]; omega) | (rw [decide_eq_decide]; omega) | (rw [Bool.eq_iff_iff]; simp only [decide_eq_true_eq, beq_iff_eq]; omega)))

set_option maxHeartbeats 4000000 in
theorem implGraphOk_k (g : GraphD) (hl : g.Edges.length ≤ 9223372036854775807) : FnOK Try.prog 101 ⟨1, [(0, some (.ro ((g.Edges).map EdgeD.k)))], [.agg [.v (.int .i64 g.N), .sl 0 3 0 (g.Edges).length]], .c (.v (.bool (graphOk g))), [], 1⟩ := by
  obtain ⟨n, l⟩ := g
  dsimp only at hl
  refine fnOK_of true mixed Try.func101 rfl (by rfl) (by rfl) ?_
  have hres := congrArg Array.toList Try.results101
  simp only [Try.ntmps101, BGB, seval]
  (have gx := And.intro (@List.length_map.{0,0}) (And.intro @List.getElem_map.{0,0} @EdgeD.k.eq_1); refine go ?_; (repeat' (first | exact Ef.mk | refine Lf.mk ?_ ?_ | refine fun (K : KT) hK hE hT => ?_ | refine fun (KS : Eff → Prop) hKS => ?_ | refine fun (D : List Keys → Prop) hD => ?_ | refine fun (hg : (_ : Prop)) => ?_ | fail)); all_goals (first | (refine Wr.mk ?_; (try clear gx); repeat (first | (clear hK hE hT; clear K) | (clear hR hE hT; clear K))) | assumption | skip))
  all_goals first
    | (have e : graphOk ⟨n, l⟩ = false := by
         unfold graphOk; dsimp only; rw [decide_eq_false (by omega), Bool.false_and]
       (refine post_a hres (.inl rfl) ?_; simp only [RSB, ENB, seval, tiAll, e]; simp only [MAB, seval]; refine ⟨rfl, rfl, ?_, ?_, ?_⟩ <;> (first | rfl | (simp [WKB, Nat.add_comm, e]; done) | (simp only [WKB, seval]))))
    | skip
  refine loop_v (X := {k : Nat // k ≤ l.length ∧ Rnd (∀ i (hi : i < l.length), i < k → edgeOk n l[i] = true)}) [] (fun x => [(22, .c (.v (.int .i64 ((x.1 : Nat) : Int))))]) (fun x => [(0, some (.ro (l.map EdgeD.k))), (1, some (.box 89 [.v (.int .i64 n), .sl 0 3 0 l.length]))]) 2 (fun x => l.length - x.1) ⟨0, by omega, ⟨fun i hi h => by omega⟩⟩ ?_
  simp only [KPB, seval]
  refine ⟨?_, ?_⟩
  · (refine wk_a ?_; simp only [MAB, seval]; refine ⟨rfl, rfl, (by decide), ?_, ?_⟩; all_goals (first | (simp only [WKB, seval, true_and, Nat.reduceLT, Nat.zero_lt_succ]; done) | (simp [WKB, seval, true_and]; done) | simp only [WKB, seval]))
  · rintro ⟨k, hk, hi⟩ K hR hE hT
    (have gx := And.intro (@List.length_map.{0,0}) (And.intro @List.getElem_map.{0,0} @EdgeD.k.eq_1); refine go ?_; (repeat' (first | exact Ef.mk | refine Lf.mk ?_ ?_ | refine fun (K : KT) hK hE hT => ?_ | refine fun (KS : Eff → Prop) hKS => ?_ | refine fun (D : List Keys → Prop) hD => ?_ | refine fun (hg : (_ : Prop)) => ?_ | fail)); all_goals (first | (refine Wr.mk ?_; (try clear gx); repeat (first | (clear hK hE hT; clear K) | (clear hR hE hT; clear K))) | assumption | skip))
    all_goals first
      | (have e : edgeOk n (l[k]'(by omega)) = false := by unfold edgeOk; rw [decide_eq_false_iff_not]; omega
         have e2 : graphOk ⟨n, l⟩ = false := by unfold graphOk; dsimp only; rw [all_no (by omega) e, Bool.and_false]
         (refine post_a hres (.inl rfl) ?_; simp only [RSB, ENB, seval, tiAll, e2]; simp only [MAB, seval]; refine ⟨rfl, rfl, ?_, ?_, ?_⟩ <;> (first | rfl | (simp [WKB, Nat.add_comm, e2]; done) | (simp only [WKB, seval]))))
      | (have e : edgeOk n (l[k]'(by omega)) = true := by unfold edgeOk; rw [decide_eq_true_eq]; omega
         (refine hR.out ⟨k + 1, by omega, ⟨all_more hi.out (by omega) e⟩⟩ _ _ _ (by simp only; omega) ?_; (refine wk_a ?_; simp only [MAB, seval]; refine ⟨rfl, rfl, (by decide), ?_, ?_⟩; all_goals (first | (simp only [WKB, seval, true_and, Nat.reduceLT, Nat.zero_lt_succ]; done) | (simp [WKB, seval, true_and]; done) | simp only [WKB, seval]))))
      | (have e : l.all (edgeOk n) = true := all_yes (k := k) (by omega) hi.out
         have e2 : graphOk ⟨n, l⟩ = decide (0 ≤ n ∧ n ≤ 150 ∧ l.length ≤ 400) := by unfold graphOk; dsimp only; rw [e, Bool.and_true]
         (refine post_a hres (.inl rfl) ?_; simp only [RSB, ENB, seval, tiAll, e2]; simp only [MAB, seval]; refine ⟨rfl, rfl, ?_, ?_, ?_⟩ <;> (first | rfl | (simp [WKB, Nat.add_comm, e2]; done) | (simp only [WKB, seval])))
         all_goals (refine congrArg (fun b => SV.c (CV.v (Value.bool b))) ?_; symm; first | (rw [decide_eq_false_iff_not]; omega) | (rw [decide_eq_true_eq]; omega) | (rw [decide_eq_decide]; omega) | (rw [Bool.eq_iff_iff]; simp only [decide_eq_true_eq, beq_iff_eq]; omega)))

end Go.Proofs.Ytfkpmhnfpljakaa
