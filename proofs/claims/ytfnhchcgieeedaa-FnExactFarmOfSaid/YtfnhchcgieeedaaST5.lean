/-
  The library's partition of equals, by any comparison; a range turned about. No conditions of its own.
-/
import Derived.Test.YtfnhchcgieeedaaGO
import Derived.Test.YtfnhchcgieeedaaST4
namespace Go.Proofs.Ytfnhchcgieeedaa
set_option linter.unusedSimpArgs false
set_option linter.unusedVariables false
set_option linter.unusedSimpArgs false
set_option linter.unusedVariables false
set_option linter.defProp false
set_option maxRecDepth 20000
open Go.RowKit

section
variable {α : Type} [Inhabited α] {lt : α → α → Bool} {S : List Nat} {Φ : Array α → World → Prop} {LF SF : Value} {n : Nat}

theorem pe_stop {D : Array α} {a i j I J : Nat} (hI : Go.Sort.scanUp (fun x => !lt D[a]! x) D j i = I) (hJ : Go.Sort.scanDown (fun x => lt D[a]! x) D I j = J) (h : J < I) : Go.Sort.partEqLoop lt a i j D = (I, D) := by
  rw [Go.Sort.partEqLoop]
  simp only [hI, hJ]
  rw [if_pos h]
theorem pe_go {D : Array α} {a i j I J : Nat} (hI : Go.Sort.scanUp (fun x => !lt D[a]! x) D j i = I) (hJ : Go.Sort.scanDown (fun x => lt D[a]! x) D I j = J) (h : ¬ J < I) (hg : J - 1 + 1 - (I + 1) < j + 1 - i) : Go.Sort.partEqLoop lt a i j D = Go.Sort.partEqLoop lt a (I + 1) (J - 1) (Go.Sort.swp D I J) := by
  rw [Go.Sort.partEqLoop.eq_1 lt a i j D]
  simp only [hI, hJ]
  rw [if_neg h, dif_pos hg]

structure PeX (lt : α → α → Bool) (a n : Nat) (R : Nat × Array α) where
  i : Nat
  j : Nat
  D : Array α
  h : a + 1 ≤ i ∧ i ≤ j + 2 ∧ a ≤ j ∧ j < n ∧ D.size = n
  e : Rnd (Go.Sort.partEqLoop lt a i j D = R)

set_option maxHeartbeats 16000000 in
theorem partitionEqual_k (hC : SrtC Try.prog lt S Φ LF SF n) (d : Array α) (hd : d.size = n) (a b pivot : Nat) (hp1 : a ≤ pivot) (hp2 : pivot < b) (hb : b ≤ n) (hn : n ≤ 1099511627) :
    FnOK Try.prog 157 ⟨1, [(0, some (.gh S (Φ d)))], [.agg [.v LF, .v SF], .c (.v (.int .i64 (a : Int))), .c (.v (.int .i64 (b : Int))), .c (.v (.int .i64 (pivot : Int)))], .c (.v (.int .i64 (((Go.Sort.partitionEqual lt d a b pivot).1 : Nat) : Int))), [(0, some (.gh S (Φ (Go.Sort.partitionEqual lt d a b pivot).2)))], 1⟩ := by
  have o1 := hC.one1
  have o2 := hC.one2
  have hd1 : (Go.Sort.swp d a pivot).size = n := by rw [Go.Sort.size_swp]; exact hd
  have hR0 : Go.Sort.partEqLoop lt a (a + 1) (b - 1) (Go.Sort.swp d a pivot) = Go.Sort.partitionEqual lt d a b pivot := rfl
  obtain ⟨R, hR1⟩ : ∃ R, R = Go.Sort.partitionEqual lt d a b pivot := ⟨_, rfl⟩
  rw [← hR1] at hR0 ⊢
  obtain ⟨c, hc⟩ : ∃ c, c = b - 1 := ⟨_, rfl⟩
  have ec : (b : Int) - 1 = (c : Int) := by omega
  rw [← hc] at hR0
  refine fnOK_of true mixed Try.func157 rfl (by rfl) (by rfl) ?_
  have hres := congrArg Array.toList Try.results157
  simp only [Try.ntmps157, BGB, seval]
  (have gx := And.intro (@tiLS) (And.intro (@tiL1) (And.intro (@tiL2) (And.intro @o1 @o2))); refine go ?_; (repeat' first | exact Ef.mk | apply Lf.mk | refine fun (K : KT) hK hE hT => ?_ | refine fun (KS : KE) hKS => ?_ | refine fun (D : KD) hD => ?_ | refine fun (hg : (_ : Prop)) => ?_ | fail); all_goals (first | (refine Wr.mk ?_; (try clear gx); repeat first | clear hK hE hT K | clear hR hE hT K) | assumption | skip))
  refine swap_k hC (d := d) (i := a) (j := pivot) (f := 0) (by exact hd) (by omega) (by omega) ?_ ?_ rfl rfl rfl rfl (by decide) ?_
  · omega
  · omega
  refine hKS _ _ _ _ ?_
  clear hKS; clear KS; simp only [EVB, seval]
  (have gx := And.intro (@tiLS) (And.intro (@tiL1) (And.intro @tiL2 @ec)); refine go ?_; (repeat' first | exact Ef.mk | apply Lf.mk | refine fun (K : KT) hK hE hT => ?_ | refine fun (KS : KE) hKS => ?_ | refine fun (D : KD) hD => ?_ | refine fun (hg : (_ : Prop)) => ?_ | fail); all_goals (first | (refine Wr.mk ?_; (try clear gx); repeat first | clear hK hE hT K | clear hR hE hT K) | assumption | skip))
  refine loop_v (X := PeX lt a n R) [] (fun x => [(9, .c (.v (.int .i64 ((x.i : Nat) : Int)))), (10, .c (.v (.int .i64 ((x.j : Nat) : Int))))]) (fun x => [(0, some (.gh S (Φ x.D))), (1, some (.box 174 [.v LF, .v SF]))]) 2 (fun x => x.j + 2 - x.i) ⟨a + 1, c, _, ⟨by omega, by omega, by omega, by omega, hd1⟩, ⟨hR0⟩⟩ ?_
  simp only [KPB, seval]
  refine ⟨?_, ?_⟩
  · (refine wk_a ?_; simp only [MAB, seval]; refine ⟨rfl, rfl, (by decide), ?_, ?_⟩; all_goals (first | (simp only [WKB, seval, true_and]; done) | (simp [WKB, seval, true_and]; done) | simp only [WKB, seval]))
  · rintro ⟨i1, j1, E, ⟨g1, g2, g3, g4, g5⟩, eP⟩ K hR3 hE hT
    have hP3 := fun I J => @pe_stop α _ lt E a i1 j1 I J
    have hP4 := fun I J => @pe_go α _ lt E a i1 j1 I J
    rw [eP.out] at hP3 hP4
    (have gx := And.intro (@tiLS) (And.intro @tiL1 @tiL2); refine go ?_; (repeat' first | exact Ef.mk | apply Lf.mk | refine fun (K : KT) hK hE hT => ?_ | refine fun (KS : KE) hKS => ?_ | refine fun (D : KD) hD => ?_ | refine fun (hg : (_ : Prop)) => ?_ | fail); all_goals (first | (refine Wr.mk ?_; (try clear gx); repeat first | clear hK hE hT K | clear hR hE hT K) | assumption | skip))
    refine loop_v (X := UpX (fun x => !lt E[a]! x) E j1 i1) [] (fun x => [(9, .c (.v (.int .i64 ((x.k : Nat) : Int))))]) (fun x => [(0, some (.gh S (Φ E))), (1, some (.box 174 [.v LF, .v SF]))]) 2 (fun x => j1 + 2 - x.k) ⟨i1, by omega, ⟨rfl⟩⟩ ?_
    simp only [KPB, seval]
    refine ⟨?_, ?_⟩
    · (refine wk_a ?_; simp only [MAB, seval]; refine ⟨rfl, rfl, (by decide), ?_, ?_⟩; all_goals (first | (simp only [WKB, seval, true_and]; done) | (simp [WKB, seval, true_and]; done) | simp only [WKB, seval]))
    · rintro ⟨i, hi, ei⟩ K hR4 hE hT
      by_cases hij : i ≤ j1
      case neg =>
        have eI : Go.Sort.scanUp (fun x => !lt E[a]! x) E j1 i1 = i := by rw [← ei.out]; exact up_stop fun h => absurd h hij
        have eJ : Go.Sort.scanDown (fun x => lt E[a]! x) E i j1 = j1 := dn_stop fun h => absurd h hij
        have hq := hP3 i j1 eI eJ (by omega)
        (have gx := And.intro (@tiLS) (And.intro @tiL1 @tiL2); refine go ?_; (repeat' first | exact Ef.mk | apply Lf.mk | refine fun (K : KT) hK hE hT => ?_ | refine fun (KS : KE) hKS => ?_ | refine fun (D : KD) hD => ?_ | refine fun (hg : (_ : Prop)) => ?_ | fail); all_goals (first | (refine Wr.mk ?_; (try clear gx); repeat first | clear hK hE hT K | clear hR hE hT K) | assumption | skip))
        refine loop_v (X := {k : Nat // k = j1}) [] (fun x => [(10, .c (.v (.int .i64 ((x.1 : Nat) : Int))))]) (fun x => [(0, some (.gh S (Φ E))), (1, some (.box 174 [.v LF, .v SF]))]) 2 (fun x => 0) ⟨j1, rfl⟩ ?_
        simp only [KPB, seval]
        refine ⟨?_, ?_⟩
        · (refine wk_a ?_; simp only [MAB, seval]; refine ⟨rfl, rfl, (by decide), ?_, ?_⟩; all_goals (first | (simp only [WKB, seval, true_and]; done) | (simp [WKB, seval, true_and]; done) | simp only [WKB, seval]))
        · rintro ⟨k, hk⟩ K hR5 hE hT
          subst hk
          (have gx := And.intro (@tiLS) (And.intro @tiL1 @tiL2); refine go ?_; (repeat' first | exact Ef.mk | apply Lf.mk | refine fun (K : KT) hK hE hT => ?_ | refine fun (KS : KE) hKS => ?_ | refine fun (D : KD) hD => ?_ | refine fun (hg : (_ : Prop)) => ?_ | fail); all_goals (first | (refine Wr.mk ?_; (try clear gx); repeat first | clear hK hE hT K | clear hR hE hT K) | assumption | skip))
          (refine post_a hres (.inl rfl) ?_; simp only [RSB, ENB, seval, tiAll, hq]; simp only [MAB, seval]; refine ⟨rfl, rfl, ?_, ?_, ?_⟩ <;> (first | rfl | (simp [WKB, Nat.add_comm, hq]; done) | (simp only [WKB, seval])))
      case pos =>
        (have gx := And.intro (@tiLS) (And.intro @tiL1 @tiL2); refine go ?_; (repeat' first | exact Ef.mk | apply Lf.mk | refine fun (K : KT) hK hE hT => ?_ | refine fun (KS : KE) hKS => ?_ | refine fun (D : KD) hD => ?_ | refine fun (hg : (_ : Prop)) => ?_ | fail); all_goals (first | (refine Wr.mk ?_; (try clear gx); repeat first | clear hK hE hT K | clear hR hE hT K) | assumption | skip))
        refine less_k hC (d := E) (i := a) (j := i) (f := 0) (by exact g5) (by omega) (by omega) ?_ ?_ rfl rfl rfl rfl (by decide) ?_
        · omega
        · omega
        refine hKS _ _ _ _ ?_
        clear hKS; clear KS; simp only [EVB, seval]
        cases hl : lt E[a]! E[i]! with
        | false =>
          (have gx := And.intro (@tiLS) (And.intro (@tiL1) (And.intro @tiL2 @hl)); refine go ?_; (repeat' first | exact Ef.mk | apply Lf.mk | refine fun (K : KT) hK hE hT => ?_ | refine fun (KS : KE) hKS => ?_ | refine fun (D : KD) hD => ?_ | refine fun (hg : (_ : Prop)) => ?_ | fail); all_goals (first | (refine Wr.mk ?_; (try clear gx); repeat first | clear hK hE hT K | clear hR hE hT K) | assumption | skip))
          refine hR4.out ⟨i + 1, by omega, ⟨by rw [← ei.out]; exact (up_go hij (by rw [hl]; rfl)).symm⟩⟩ _ _ _ (by simp only; omega) ?_
          (refine wk_a ?_; simp only [MAB, seval]; refine ⟨rfl, rfl, (by decide), ?_, ?_⟩; all_goals (first | (simp only [WKB, seval, true_and]; done) | (simp [WKB, seval, true_and]; done) | simp only [WKB, seval]))
        | true =>
          have eI : Go.Sort.scanUp (fun x => !lt E[a]! x) E j1 i1 = i := by rw [← ei.out]; exact up_stop fun _ => by rw [hl]; rfl
          (have gx := And.intro (@tiLS) (And.intro (@tiL1) (And.intro @tiL2 @hl)); refine go ?_; (repeat' first | exact Ef.mk | apply Lf.mk | refine fun (K : KT) hK hE hT => ?_ | refine fun (KS : KE) hKS => ?_ | refine fun (D : KD) hD => ?_ | refine fun (hg : (_ : Prop)) => ?_ | fail); all_goals (first | (refine Wr.mk ?_; (try clear gx); repeat first | clear hK hE hT K | clear hR hE hT K) | assumption | skip))
          refine loop_v (X := DnX (fun x => lt E[a]! x) E i j1) [] (fun x => [(10, .c (.v (.int .i64 ((x.k : Nat) : Int))))]) (fun x => [(0, some (.gh S (Φ E))), (1, some (.box 174 [.v LF, .v SF]))]) 2 (fun x => x.k) ⟨j1, by omega, ⟨rfl⟩⟩ ?_
          simp only [KPB, seval]
          refine ⟨?_, ?_⟩
          · (refine wk_a ?_; simp only [MAB, seval]; refine ⟨rfl, rfl, (by decide), ?_, ?_⟩; all_goals (first | (simp only [WKB, seval, true_and]; done) | (simp [WKB, seval, true_and]; done) | simp only [WKB, seval]))
          · rintro ⟨j, hj, ej⟩ K hR5 hE hT
            by_cases hji : i ≤ j
            case neg =>
              have eJ : Go.Sort.scanDown (fun x => lt E[a]! x) E i j1 = j := by rw [← ej.out]; exact dn_stop fun h => absurd h hji
              have hq := hP3 i j eI eJ (by omega)
              (have gx := And.intro (@tiLS) (And.intro @tiL1 @tiL2); refine go ?_; (repeat' first | exact Ef.mk | apply Lf.mk | refine fun (K : KT) hK hE hT => ?_ | refine fun (KS : KE) hKS => ?_ | refine fun (D : KD) hD => ?_ | refine fun (hg : (_ : Prop)) => ?_ | fail); all_goals (first | (refine Wr.mk ?_; (try clear gx); repeat first | clear hK hE hT K | clear hR hE hT K) | assumption | skip))
              (refine post_a hres (.inl rfl) ?_; simp only [RSB, ENB, seval, tiAll, hq]; simp only [MAB, seval]; refine ⟨rfl, rfl, ?_, ?_, ?_⟩ <;> (first | rfl | (simp [WKB, Nat.add_comm, hq]; done) | (simp only [WKB, seval])))
            case pos =>
              (have gx := And.intro (@tiLS) (And.intro @tiL1 @tiL2); refine go ?_; (repeat' first | exact Ef.mk | apply Lf.mk | refine fun (K : KT) hK hE hT => ?_ | refine fun (KS : KE) hKS => ?_ | refine fun (D : KD) hD => ?_ | refine fun (hg : (_ : Prop)) => ?_ | fail); all_goals (first | (refine Wr.mk ?_; (try clear gx); repeat first | clear hK hE hT K | clear hR hE hT K) | assumption | skip))
              refine less_k hC (d := E) (i := a) (j := j) (f := 0) (by exact g5) (by omega) (by omega) ?_ ?_ rfl rfl rfl rfl (by decide) ?_
              · omega
              · omega
              refine hKS _ _ _ _ ?_
              clear hKS; clear KS; simp only [EVB, seval]
              cases hm : lt E[a]! E[j]! with
              | true =>
                obtain ⟨m, rfl⟩ : ∃ m, j = m + 1 := ⟨j - 1, by omega⟩
                have e5 : ((m + 1 : Nat) : Int) - 1 = (m : Int) := by omega
                (have gx := And.intro (@tiLS) (And.intro (@tiL1) (And.intro @tiL2 @hm)); refine go ?_; (repeat' first | exact Ef.mk | apply Lf.mk | refine fun (K : KT) hK hE hT => ?_ | refine fun (KS : KE) hKS => ?_ | refine fun (D : KD) hD => ?_ | refine fun (hg : (_ : Prop)) => ?_ | fail); all_goals (first | (refine Wr.mk ?_; (try clear gx); repeat first | clear hK hE hT K | clear hR hE hT K) | assumption | skip))
                refine hR5.out ⟨m, by omega, ⟨by rw [← ej.out]; exact (dn_go hji hm).symm⟩⟩ _ _ _ (by simp only; omega) ?_
                (refine wk_a ?_; simp only [MAB, seval]; refine ⟨rfl, rfl, (by decide), ?_, ?_⟩; all_goals (first | (simp only [WKB, seval, e5]; done) | (simp [WKB, seval, e5]; done) | simp only [WKB, seval]))
              | false =>
                have eJ : Go.Sort.scanDown (fun x => lt E[a]! x) E i j1 = j := by rw [← ej.out]; exact dn_stop fun _ => hm
                have hq := hP4 i j eI eJ (by omega) (by omega)
                have hd3 : (Go.Sort.swp E i j).size = n := by rw [Go.Sort.size_swp]; exact g5
                have e5 : (j : Int) - 1 = ((j - 1 : Nat) : Int) := by omega
                (have gx := And.intro (@tiLS) (And.intro (@tiL1) (And.intro @tiL2 @hm)); refine go ?_; (repeat' first | exact Ef.mk | apply Lf.mk | refine fun (K : KT) hK hE hT => ?_ | refine fun (KS : KE) hKS => ?_ | refine fun (D : KD) hD => ?_ | refine fun (hg : (_ : Prop)) => ?_ | fail); all_goals (first | (refine Wr.mk ?_; (try clear gx); repeat first | clear hK hE hT K | clear hR hE hT K) | assumption | skip))
                refine swap_k hC (d := E) (i := i) (j := j) (f := 0) (by exact g5) (by omega) (by omega) ?_ ?_ rfl rfl rfl rfl (by decide) ?_
                · omega
                · omega
                refine hKS _ _ _ _ ?_
                clear hKS; clear KS; simp only [EVB, seval]
                (have gx := And.intro (@tiLS) (And.intro @tiL1 @tiL2); refine go ?_; (repeat' first | exact Ef.mk | apply Lf.mk | refine fun (K : KT) hK hE hT => ?_ | refine fun (KS : KE) hKS => ?_ | refine fun (D : KD) hD => ?_ | refine fun (hg : (_ : Prop)) => ?_ | fail); all_goals (first | (refine Wr.mk ?_; (try clear gx); repeat first | clear hK hE hT K | clear hR hE hT K) | assumption | skip))
                refine hR3.out ⟨i + 1, j - 1, _, ⟨by omega, by omega, by omega, by omega, hd3⟩, ⟨hq.symm⟩⟩ _ _ _ (by simp only; omega) ?_
                (refine wk_a ?_; simp only [MAB, seval]; refine ⟨rfl, rfl, (by decide), ?_, ?_⟩; all_goals (first | (simp only [WKB, seval, e5]; done) | (simp [WKB, seval, e5]; done) | simp only [WKB, seval]))

structure RvX (i0 j0 n : Nat) (D0 : Array α) where
  i : Nat
  j : Int
  D : Array α
  h : (i ≤ n ∧ j < n ∧ -1 ≤ j) ∧ D.size = n
  e : Rnd (Go.Sort.reverseLoop i j.toNat D = Go.Sort.reverseLoop i0 j0 D0)

theorem rev_stop {i j : Nat} {d : Array α} (h : ¬ i < j) : Go.Sort.reverseLoop i j d = d := by rw [Go.Sort.reverseLoop, if_neg h]
theorem rev_go {i j : Nat} {d : Array α} (h : i < j) : Go.Sort.reverseLoop i j d = Go.Sort.reverseLoop (i + 1) (j - 1) (Go.Sort.swp d i j) := by rw [Go.Sort.reverseLoop.eq_1 i j d, if_pos h]

set_option maxHeartbeats 8000000 in
theorem reverseRange_k (hC : SrtC Try.prog lt S Φ LF SF n) (d : Array α) (hd : d.size = n) (a b : Nat) (hab : a < b) (hb : b ≤ n) (hn : n ≤ 1099511627) :
    FnOK Try.prog 155 ⟨1, [(0, some (.gh S (Φ d)))], [.agg [.v LF, .v SF], .c (.v (.int .i64 (a : Int))), .c (.v (.int .i64 (b : Int)))], .tup [], [(0, some (.gh S (Φ (Go.Sort.reverseRange d a b))))], 1⟩ := by
  have o1 := hC.one1
  have o2 := hC.one2
  have eR : Go.Sort.reverseRange d a b = Go.Sort.reverseLoop a (b - 1) d := rfl
  rw [eR]
  refine fnOK_of true mixed Try.func155 rfl (by rfl) (by rfl) ?_
  have hres := congrArg Array.toList Try.results155
  simp only [Try.ntmps155, BGB, seval]
  (have gx := And.intro (@tiLS) (And.intro (@tiL1) (And.intro (@tiL2) (And.intro @o1 @o2))); refine go ?_; (repeat' first | exact Ef.mk | apply Lf.mk | refine fun (K : KT) hK hE hT => ?_ | refine fun (KS : KE) hKS => ?_ | refine fun (D : KD) hD => ?_ | refine fun (hg : (_ : Prop)) => ?_ | fail); all_goals (first | (refine Wr.mk ?_; (try clear gx); repeat first | clear hK hE hT K | clear hR hE hT K) | assumption | skip))
  refine loop_v (X := RvX a (b - 1) n d) [] (fun x => [(6, .c (.v (.int .i64 ((x.i : Nat) : Int)))), (7, .c (.v (.int .i64 x.j)))]) (fun x => [(0, some (.gh S (Φ x.D))), (1, some (.box 174 [.v LF, .v SF]))]) 2 (fun x => (x.j + 1).toNat + n - x.i) ⟨a, (b : Int) - 1, d, by omega, ⟨by rw [show ((b : Int) - 1).toNat = b - 1 by omega]⟩⟩ ?_
  simp only [KPB, seval]
  refine ⟨?_, ?_⟩
  · (refine wk_a ?_; simp only [MAB, seval]; refine ⟨rfl, rfl, (by decide), ?_, ?_⟩; all_goals (first | (simp only [WKB, seval, true_and]; done) | (simp [WKB, seval, true_and]; done) | simp only [WKB, seval]))
  · rintro ⟨i, j, D, ⟨⟨h1, h2, h3⟩, h4⟩, e⟩ K hR hE hT
    by_cases hij : (i : Int) < j
    case neg =>
      have e1 : Go.Sort.reverseLoop a (b - 1) d = D := by rw [← e.out, rev_stop (by omega)]
      (have gx := And.intro (@tiLS) (And.intro @tiL1 @tiL2); refine go ?_; (repeat' first | exact Ef.mk | apply Lf.mk | refine fun (K : KT) hK hE hT => ?_ | refine fun (KS : KE) hKS => ?_ | refine fun (D : KD) hD => ?_ | refine fun (hg : (_ : Prop)) => ?_ | fail); all_goals (first | (refine Wr.mk ?_; (try clear gx); repeat first | clear hK hE hT K | clear hR hE hT K) | assumption | skip))
      (refine post_a hres (by first | exact .inl rfl | exact .inr rfl) ?_; simp only [RSB, ENB, seval, tiAll, e1]; simp only [MAB, seval]; refine ⟨rfl, rfl, ?_, ?_, ?_⟩ <;> (first | rfl | (simp [WKB, Nat.add_comm, e1]; done) | (simp only [WKB, seval])))
    case pos =>
      have ej : j = ((j.toNat : Nat) : Int) := by omega
      have e1 : Go.Sort.reverseLoop (i + 1) (j - 1).toNat (Go.Sort.swp D i j.toNat) = Go.Sort.reverseLoop a (b - 1) d := by rw [← e.out, rev_go (show i < j.toNat by omega), show (j - 1).toNat = j.toNat - 1 by omega]
      (have gx := And.intro (@tiLS) (And.intro @tiL1 @tiL2); refine go ?_; (repeat' first | exact Ef.mk | apply Lf.mk | refine fun (K : KT) hK hE hT => ?_ | refine fun (KS : KE) hKS => ?_ | refine fun (D : KD) hD => ?_ | refine fun (hg : (_ : Prop)) => ?_ | fail); all_goals (first | (refine Wr.mk ?_; (try clear gx); repeat first | clear hK hE hT K | clear hR hE hT K) | assumption | skip))
      refine swap_k hC (d := D) (i := i) (j := j.toNat) (f := 0) (by exact h4) (by omega) (by omega) ?_ ?_ rfl rfl rfl rfl (by decide) ?_
      · omega
      · omega
      refine hKS _ _ _ _ ?_
      clear hKS; clear KS; simp only [EVB, seval]
      (have gx := And.intro (@tiLS) (And.intro @tiL1 @tiL2); refine go ?_; (repeat' first | exact Ef.mk | apply Lf.mk | refine fun (K : KT) hK hE hT => ?_ | refine fun (KS : KE) hKS => ?_ | refine fun (D : KD) hD => ?_ | refine fun (hg : (_ : Prop)) => ?_ | fail); all_goals (first | (refine Wr.mk ?_; (try clear gx); repeat first | clear hK hE hT K | clear hR hE hT K) | assumption | skip))
      refine hR.out ⟨i + 1, j - 1, _, ⟨by omega, by rw [Go.Sort.size_swp]; exact h4⟩, ⟨e1⟩⟩ _ _ _ (by simp only; omega) ?_
      (refine wk_a ?_; simp only [MAB, seval]; refine ⟨rfl, rfl, (by decide), ?_, ?_⟩; all_goals (first | (simp only [WKB, seval, true_and]; done) | (simp [WKB, seval, true_and]; done) | simp only [WKB, seval]))
end

end Go.Proofs.Ytfnhchcgieeedaa
