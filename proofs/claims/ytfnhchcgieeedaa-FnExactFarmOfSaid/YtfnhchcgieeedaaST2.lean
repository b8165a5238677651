/-
  The library's insertion sort, by any comparison. No conditions of its own.
-/
import Derived.Test.YtfnhchcgieeedaaGO
import Derived.Test.YtfnhchcgieeedaaST1
import Derived.Test.YtfnhchcgieeedaaGO
import Derived.Sort.Lot0
namespace Go.Proofs.Ytfnhchcgieeedaa
set_option linter.unusedSimpArgs false
set_option linter.unusedVariables false
set_option linter.unusedSimpArgs false
set_option linter.unusedVariables false
set_option linter.defProp false
set_option maxRecDepth 20000
open Go.RowKit

theorem tiLS : tiOf Try.prog 174 = some ⟨.struct [(0, 1, false), (1, 1, false)], 2, 16, [.v .nilFunc, .v .nilFunc], true⟩ := by kernel_rfl
theorem tiL1 : tiOf Try.prog 147 = some ⟨.other, 1, 8, [.v .nilFunc], false⟩ := by kernel_rfl
theorem tiL2 : tiOf Try.prog 168 = some ⟨.other, 1, 8, [.v .nilFunc], false⟩ := by kernel_rfl

section
variable {α : Type} [Inhabited α] {lt : α → α → Bool} {S : List Nat} {Φ : Array α → World → Prop} {LF SF : Value} {n : Nat}

structure InsX (lt : α → α → Bool) (d : Array α) (a b n : Nat) where
  i : Nat
  D : Array α
  h : a + 1 ≤ i ∧ i ≤ n + 1 ∧ D.size = n
  e : Rnd (Go.Sort.insOuter lt a b i D = Go.Sort.insertionSort lt d a b)
structure InnX (lt : α → α → Bool) (D : Array α) (a i n : Nat) where
  j : Nat
  E : Array α
  h : a ≤ j ∧ j ≤ i ∧ E.size = n
  e : Rnd (Go.Sort.insInner lt a j E = Go.Sort.insInner lt a i D)

theorem insInner_stop (lt : α → α → Bool) (a : Nat) (E : Array α) : Go.Sort.insInner lt a a E = E := by
  cases a with
  | zero => rfl
  | succ k => simp [Go.Sort.insInner]
theorem insInner_no {lt : α → α → Bool} {a k : Nat} {E : Array α} (h : lt E[k + 1]! E[k]! = false) : Go.Sort.insInner lt a (k + 1) E = E := by simp [Go.Sort.insInner, h]
theorem insInner_yes {lt : α → α → Bool} {a k : Nat} {E : Array α} (ha : a < k + 1) (h : lt E[k + 1]! E[k]! = true) : Go.Sort.insInner lt a (k + 1) E = Go.Sort.insInner lt a k (Go.Sort.swp E (k + 1) k) := by
  rw [Go.Sort.insInner, h]
  simp [ha]
theorem size_insInner (lt : α → α → Bool) (a : Nat) : ∀ (j : Nat) (E : Array α), (Go.Sort.insInner lt a j E).size = E.size
  | 0, E => rfl
  | k + 1, E => by
    unfold Go.Sort.insInner
    split
    · rw [size_insInner lt a k, Go.Sort.size_swp]
    · rfl

set_option maxHeartbeats 8000000 in
theorem insertion_k (hC : SrtC Try.prog lt S Φ LF SF n) (d : Array α) (hd : d.size = n) (a b : Nat) (hab : a ≤ b) (hb : b ≤ n) (hn : n ≤ 1099511627) :
    FnOK Try.prog 151 ⟨1, [(0, some (.gh S (Φ d)))], [.agg [.v LF, .v SF], .c (.v (.int .i64 (a : Int))), .c (.v (.int .i64 (b : Int)))], .tup [], [(0, some (.gh S (Φ (Go.Sort.insertionSort lt d a b))))], 1⟩ := by
  have o1 := hC.one1
  have o2 := hC.one2
  refine fnOK_of true mixed Try.func151 rfl (by rfl) (by rfl) ?_
  have hres := congrArg Array.toList Try.results151
  simp only [Try.ntmps151, BGB, seval]
  (have gx := And.intro (@tiLS) (And.intro (@tiL1) (And.intro (@tiL2) (And.intro @o1 @o2))); refine go ?_; (repeat' first | exact Ef.mk | apply Lf.mk | refine fun (K : KT) hK hE hT => ?_ | refine fun (KS : KE) hKS => ?_ | refine fun (D : KD) hD => ?_ | refine fun (hg : (_ : Prop)) => ?_ | fail); all_goals (first | (refine Wr.mk ?_; (try clear gx); repeat first | clear hK hE hT K | clear hR hE hT K) | assumption | skip))
  refine loop_v (X := InsX lt d a b n) [] (fun x => [(6, .c (.v (.int .i64 ((x.i : Nat) : Int))))]) (fun x => [(0, some (.gh S (Φ x.D))), (1, some (.box 174 [.v LF, .v SF]))]) 2 (fun x => n + 1 - x.i) ⟨a + 1, d, by omega, ⟨rfl⟩⟩ ?_
  simp only [KPB, seval]
  refine ⟨?_, ?_⟩
  · (refine wk_a ?_; simp only [MAB, seval]; refine ⟨rfl, rfl, (by decide), ?_, ?_⟩; all_goals (first | (simp only [WKB, seval, true_and]; done) | (simp [WKB, seval, true_and]; done) | simp only [WKB, seval]))
  · rintro ⟨i, D, ⟨h1, h2, h3⟩, e⟩ K hR hE hT
    rcases Nat.lt_or_ge i b with hlt | hge
    case inr =>
      have e1 : Go.Sort.insertionSort lt d a b = D := by rw [← e.out, Go.Sort.insOuter, if_neg (by omega)]
      (have gx := And.intro (@tiLS) (And.intro @tiL1 @tiL2); refine go ?_; (repeat' first | exact Ef.mk | apply Lf.mk | refine fun (K : KT) hK hE hT => ?_ | refine fun (KS : KE) hKS => ?_ | refine fun (D : KD) hD => ?_ | refine fun (hg : (_ : Prop)) => ?_ | fail); all_goals (first | (refine Wr.mk ?_; (try clear gx); repeat first | clear hK hE hT K | clear hR hE hT K) | assumption | skip))
      (refine post_a hres (by first | exact .inl rfl | exact .inr rfl) ?_; simp only [RSB, ENB, seval, tiAll, e1]; simp only [MAB, seval]; refine ⟨rfl, rfl, ?_, ?_, ?_⟩ <;> (first | rfl | (simp [WKB, Nat.add_comm, e1]; done) | (simp only [WKB, seval])))
    case inl =>
      have e1 : Go.Sort.insOuter lt a b (i + 1) (Go.Sort.insInner lt a i D) = Go.Sort.insertionSort lt d a b := by rw [← e.out]; exact (by rw [Go.Sort.insOuter.eq_1 lt a b i D, if_pos hlt] : Go.Sort.insOuter lt a b i D = _).symm
      (have gx := And.intro (@tiLS) (And.intro @tiL1 @tiL2); refine go ?_; (repeat' first | exact Ef.mk | apply Lf.mk | refine fun (K : KT) hK hE hT => ?_ | refine fun (KS : KE) hKS => ?_ | refine fun (D : KD) hD => ?_ | refine fun (hg : (_ : Prop)) => ?_ | fail); all_goals (first | (refine Wr.mk ?_; (try clear gx); repeat first | clear hK hE hT K | clear hR hE hT K) | assumption | skip))
      refine loop_v (X := InnX lt D a i n) [] (fun x => [(7, .c (.v (.int .i64 ((x.j : Nat) : Int))))]) (fun x => [(0, some (.gh S (Φ x.E))), (1, some (.box 174 [.v LF, .v SF]))]) 2 (fun x => x.j) ⟨i, D, by omega, ⟨rfl⟩⟩ ?_
      simp only [KPB, seval]
      refine ⟨?_, ?_⟩
      · (refine wk_a ?_; simp only [MAB, seval]; refine ⟨rfl, rfl, (by decide), ?_, ?_⟩; all_goals (first | (simp only [WKB, seval, true_and]; done) | (simp [WKB, seval, true_and]; done) | simp only [WKB, seval]))
      · rintro ⟨j, E, ⟨g1, g2, g3⟩, f⟩ K hR2 hE hT
        rcases Nat.lt_or_ge a j with hj | hj
        case inr =>
          obtain rfl : j = a := by omega
          have f1 : Go.Sort.insInner lt j i D = E := by rw [← f.out, insInner_stop]
          rw [f1] at e1
          (have gx := And.intro (@tiLS) (And.intro @tiL1 @tiL2); refine go ?_; (repeat' first | exact Ef.mk | apply Lf.mk | refine fun (K : KT) hK hE hT => ?_ | refine fun (KS : KE) hKS => ?_ | refine fun (D : KD) hD => ?_ | refine fun (hg : (_ : Prop)) => ?_ | fail); all_goals (first | (refine Wr.mk ?_; (try clear gx); repeat first | clear hK hE hT K | clear hR hE hT K) | assumption | skip))
          refine hR.out ⟨i + 1, E, by omega, ⟨e1⟩⟩ _ _ _ (by simp only; omega) ?_
          (refine wk_a ?_; simp only [MAB, seval]; refine ⟨rfl, rfl, (by decide), ?_, ?_⟩; all_goals (first | (simp only [WKB, seval, true_and]; done) | (simp [WKB, seval, true_and]; done) | simp only [WKB, seval]))
        case inl =>
          obtain ⟨k, rfl⟩ : ∃ k, j = k + 1 := ⟨j - 1, by omega⟩
          (have gx := And.intro (@tiLS) (And.intro @tiL1 @tiL2); refine go ?_; (repeat' first | exact Ef.mk | apply Lf.mk | refine fun (K : KT) hK hE hT => ?_ | refine fun (KS : KE) hKS => ?_ | refine fun (D : KD) hD => ?_ | refine fun (hg : (_ : Prop)) => ?_ | fail); all_goals (first | (refine Wr.mk ?_; (try clear gx); repeat first | clear hK hE hT K | clear hR hE hT K) | assumption | skip))
          refine less_k hC (d := E) (i := k + 1) (j := k) (f := 0) (by exact g3) (by omega) (by omega) ?_ ?_ rfl rfl rfl rfl (by decide) ?_
          · omega
          · omega
          refine hKS _ _ _ _ ?_
          clear hKS; clear KS; simp only [EVB, seval]
          cases hl : lt E[k + 1]! E[k]! with
          | false =>
            have f1 : Go.Sort.insInner lt a i D = E := by rw [← f.out, insInner_no hl]
            rw [f1] at e1
            (have gx := And.intro (@tiLS) (And.intro (@tiL1) (And.intro @tiL2 @hl)); refine go ?_; (repeat' first | exact Ef.mk | apply Lf.mk | refine fun (K : KT) hK hE hT => ?_ | refine fun (KS : KE) hKS => ?_ | refine fun (D : KD) hD => ?_ | refine fun (hg : (_ : Prop)) => ?_ | fail); all_goals (first | (refine Wr.mk ?_; (try clear gx); repeat first | clear hK hE hT K | clear hR hE hT K) | assumption | skip))
            refine hR.out ⟨i + 1, E, by omega, ⟨e1⟩⟩ _ _ _ (by simp only; omega) ?_
            (refine wk_a ?_; simp only [MAB, seval]; refine ⟨rfl, rfl, (by decide), ?_, ?_⟩; all_goals (first | (simp only [WKB, seval, true_and]; done) | (simp [WKB, seval, true_and]; done) | simp only [WKB, seval]))
          | true =>
            have f1 : Go.Sort.insInner lt a k (Go.Sort.swp E (k + 1) k) = Go.Sort.insInner lt a i D := by rw [← f.out, insInner_yes hj hl]
            (have gx := And.intro (@tiLS) (And.intro (@tiL1) (And.intro @tiL2 @hl)); refine go ?_; (repeat' first | exact Ef.mk | apply Lf.mk | refine fun (K : KT) hK hE hT => ?_ | refine fun (KS : KE) hKS => ?_ | refine fun (D : KD) hD => ?_ | refine fun (hg : (_ : Prop)) => ?_ | fail); all_goals (first | (refine Wr.mk ?_; (try clear gx); repeat first | clear hK hE hT K | clear hR hE hT K) | assumption | skip))
            refine swap_k hC (d := E) (i := k + 1) (j := k) (f := 0) (by exact g3) (by omega) (by omega) ?_ ?_ rfl rfl rfl rfl (by decide) ?_
            · omega
            · omega
            refine hKS _ _ _ _ ?_
            clear hKS; clear KS; simp only [EVB, seval]
            (have gx := And.intro (@tiLS) (And.intro @tiL1 @tiL2); refine go ?_; (repeat' first | exact Ef.mk | apply Lf.mk | refine fun (K : KT) hK hE hT => ?_ | refine fun (KS : KE) hKS => ?_ | refine fun (D : KD) hD => ?_ | refine fun (hg : (_ : Prop)) => ?_ | fail); all_goals (first | (refine Wr.mk ?_; (try clear gx); repeat first | clear hK hE hT K | clear hR hE hT K) | assumption | skip))
            refine hR2.out ⟨k, Go.Sort.swp E (k + 1) k, by rw [Go.Sort.size_swp]; omega, ⟨f1⟩⟩ _ _ _ (by simp only; omega) ?_
            (refine wk_a ?_; simp only [MAB, seval]; refine ⟨rfl, rfl, (by decide), ?_, ?_⟩; all_goals (first | (simp only [WKB, seval, true_and]; done) | (simp [WKB, seval, true_and]; done) | simp only [WKB, seval]))
end

end Go.Proofs.Ytfnhchcgieeedaa
