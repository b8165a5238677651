/-
  The library's partitions, by any comparison. No conditions of its own.
-/
import Derived.Test.YtfnhchcgieeedaaGO
import Derived.Test.YtfnhchcgieeedaaST2
namespace Go.Proofs.Ytfnhchcgieeedaa
set_option linter.unusedSimpArgs false
set_option linter.unusedVariables false
set_option linter.unusedSimpArgs false
set_option linter.unusedVariables false
set_option linter.defProp false
set_option maxRecDepth 20000
open Go.RowKit

section
variable {α : Type} [Inhabited α] {lt : α → α → Bool} {S : List Nat} {Φ : Array α → World → Prop} {LF SF : Value} {n : Nat}

theorem up_stop {p : α → Bool} {d : Array α} {j i : Nat} (h : i ≤ j → p d[i]! = false) : Go.Sort.scanUp p d j i = i := by
  rw [Go.Sort.scanUp]
  by_cases h1 : i ≤ j
  · rw [h h1]; simp
  · simp [h1]
theorem up_go {p : α → Bool} {d : Array α} {j i : Nat} (h1 : i ≤ j) (h : p d[i]! = true) : Go.Sort.scanUp p d j i = Go.Sort.scanUp p d j (i + 1) := by
  rw [Go.Sort.scanUp.eq_1 p d j i, h]; simp [h1]
theorem dn_stop {p : α → Bool} {d : Array α} {j i : Nat} (h : i ≤ j → p d[j]! = false) : Go.Sort.scanDown p d i j = j := by
  cases j with
  | zero => rfl
  | succ m =>
    unfold Go.Sort.scanDown
    by_cases h1 : i ≤ m + 1
    · rw [h h1]; simp
    · simp [h1]
theorem dn_go {p : α → Bool} {d : Array α} {m i : Nat} (h1 : i ≤ m + 1) (h : p d[m + 1]! = true) : Go.Sort.scanDown p d i (m + 1) = Go.Sort.scanDown p d i m := by
  rw [Go.Sort.scanDown, h]; simp [h1]

theorem part_1 {d : Array α} {a b pivot I J : Nat} (hI : Go.Sort.scanUp (fun x => lt x (Go.Sort.swp d a pivot)[a]!) (Go.Sort.swp d a pivot) (b - 1) (a + 1) = I) (hJ : Go.Sort.scanDown (fun x => !lt x (Go.Sort.swp d a pivot)[a]!) (Go.Sort.swp d a pivot) I (b - 1) = J) (h : J < I) :
    Go.Sort.partition lt d a b pivot = (J, true, Go.Sort.swp (Go.Sort.swp d a pivot) J a) := by
  unfold Go.Sort.partition
  simp only [hI, hJ]
  rw [if_pos h]
theorem part_2 {d : Array α} {a b pivot I J : Nat} (hI : Go.Sort.scanUp (fun x => lt x (Go.Sort.swp d a pivot)[a]!) (Go.Sort.swp d a pivot) (b - 1) (a + 1) = I) (hJ : Go.Sort.scanDown (fun x => !lt x (Go.Sort.swp d a pivot)[a]!) (Go.Sort.swp d a pivot) I (b - 1) = J) (h : ¬ J < I) :
    Go.Sort.partition lt d a b pivot = ((Go.Sort.partLoop lt a (I + 1) (J - 1) (Go.Sort.swp (Go.Sort.swp d a pivot) I J)).1, false, Go.Sort.swp (Go.Sort.partLoop lt a (I + 1) (J - 1) (Go.Sort.swp (Go.Sort.swp d a pivot) I J)).2 (Go.Sort.partLoop lt a (I + 1) (J - 1) (Go.Sort.swp (Go.Sort.swp d a pivot) I J)).1 a) := by
  unfold Go.Sort.partition
  simp only [hI, hJ]
  rw [if_neg h]
theorem pl_stop {D : Array α} {a i j I J : Nat} (hI : Go.Sort.scanUp (fun x => lt x D[a]!) D j i = I) (hJ : Go.Sort.scanDown (fun x => !lt x D[a]!) D I j = J) (h : J < I) : Go.Sort.partLoop lt a i j D = (J, D) := by
  rw [Go.Sort.partLoop]
  simp only [hI, hJ]
  rw [if_pos h]
theorem pl_go {D : Array α} {a i j I J : Nat} (hI : Go.Sort.scanUp (fun x => lt x D[a]!) D j i = I) (hJ : Go.Sort.scanDown (fun x => !lt x D[a]!) D I j = J) (h : ¬ J < I) (hg : J - 1 + 1 - (I + 1) < j + 1 - i) : Go.Sort.partLoop lt a i j D = Go.Sort.partLoop lt a (I + 1) (J - 1) (Go.Sort.swp D I J) := by
  rw [Go.Sort.partLoop.eq_1 lt a i j D]
  simp only [hI, hJ]
  rw [if_neg h, dif_pos hg]

structure UpX (p : α → Bool) (D : Array α) (j i : Nat) where
  k : Nat
  h : i ≤ k ∧ (k ≤ j + 1 ∨ k = i)
  e : Rnd (Go.Sort.scanUp p D j k = Go.Sort.scanUp p D j i)
structure DnX (p : α → Bool) (D : Array α) (i j : Nat) where
  k : Nat
  h : k ≤ j ∧ i ≤ k + 1
  e : Rnd (Go.Sort.scanDown p D i k = Go.Sort.scanDown p D i j)
structure PlX (lt : α → α → Bool) (a i0 j0 n : Nat) (D0 : Array α) where
  i : Nat
  j : Nat
  D : Array α
  h : a + 1 ≤ i ∧ i ≤ j + 2 ∧ a ≤ j ∧ j < n ∧ D.size = n
  e : Rnd (Go.Sort.partLoop lt a i j D = Go.Sort.partLoop lt a i0 j0 D0)

set_option maxHeartbeats 16000000 in
theorem partition_k (hC : SrtC Try.prog lt S Φ LF SF n) (d : Array α) (hd : d.size = n) (a b pivot : Nat) (hp1 : a ≤ pivot) (hp2 : pivot < b) (hb : b ≤ n) (hn : n ≤ 1099511627) :
    FnOK Try.prog 158 ⟨1, [(0, some (.gh S (Φ d)))], [.agg [.v LF, .v SF], .c (.v (.int .i64 (a : Int))), .c (.v (.int .i64 (b : Int))), .c (.v (.int .i64 (pivot : Int)))], .tup [.inl (.v (.int .i64 (((Go.Sort.partition lt d a b pivot).1 : Nat) : Int))), .inl (.v (.bool (Go.Sort.partition lt d a b pivot).2.1))], [(0, some (.gh S (Φ (Go.Sort.partition lt d a b pivot).2.2)))], 1⟩ := by
  have o1 := hC.one1
  have o2 := hC.one2
  have hd1 : (Go.Sort.swp d a pivot).size = n := by rw [Go.Sort.size_swp]; exact hd
  have hP1 := fun I J => @part_1 α _ lt d a b pivot I J
  have hP2 := fun I J => @part_2 α _ lt d a b pivot I J
  obtain ⟨R, hR0⟩ : ∃ R, R = Go.Sort.partition lt d a b pivot := ⟨_, rfl⟩
  rw [← hR0] at hP1 hP2 ⊢
  obtain ⟨c, hc⟩ : ∃ c, c = b - 1 := ⟨_, rfl⟩
  have ec : (b : Int) - 1 = (c : Int) := by omega
  rw [← hc] at hP1 hP2
  refine fnOK_of true mixed Try.func158 rfl (by rfl) (by rfl) ?_
  have hres := congrArg Array.toList Try.results158
  simp only [Try.ntmps158, BGB, seval]
  (have gx := And.intro (@tiLS) (And.intro (@tiL1) (And.intro (@tiL2) (And.intro @o1 @o2))); refine go ?_; (repeat' first | exact Ef.mk | apply Lf.mk | refine fun (K : KT) hK hE hT => ?_ | refine fun (KS : KE) hKS => ?_ | refine fun (D : KD) hD => ?_ | refine fun (hg : (_ : Prop)) => ?_ | fail); all_goals (first | (refine Wr.mk ?_; (try clear gx); repeat first | clear hK hE hT K | clear hR hE hT K) | assumption | skip))
  refine swap_k hC (d := d) (i := a) (j := pivot) (f := 0) (by exact hd) (by omega) (by omega) ?_ ?_ rfl rfl rfl rfl (by decide) ?_
  · omega
  · omega
  refine hKS _ _ _ _ ?_
  clear hKS; clear KS; simp only [EVB, seval]
  obtain ⟨D, hD⟩ : ∃ D, D = Go.Sort.swp d a pivot := ⟨_, rfl⟩
  rw [← hD] at hd1 hP1 hP2 ⊢
  (have gx := And.intro (@tiLS) (And.intro (@tiL1) (And.intro @tiL2 @ec)); refine go ?_; (repeat' first | exact Ef.mk | apply Lf.mk | refine fun (K : KT) hK hE hT => ?_ | refine fun (KS : KE) hKS => ?_ | refine fun (D : KD) hD => ?_ | refine fun (hg : (_ : Prop)) => ?_ | fail); all_goals (first | (refine Wr.mk ?_; (try clear gx); repeat first | clear hK hE hT K | clear hR hE hT K) | assumption | skip))
  refine loop_v (X := UpX (fun x => lt x D[a]!) D c (a + 1)) [] (fun x => [(10, .c (.v (.int .i64 ((x.k : Nat) : Int))))]) (fun x => [(0, some (.gh S (Φ D))), (1, some (.box 174 [.v LF, .v SF]))]) 2 (fun x => c + 2 - x.k) ⟨a + 1, by omega, ⟨rfl⟩⟩ ?_
  simp only [KPB, seval]
  refine ⟨?_, ?_⟩
  · (refine wk_a ?_; simp only [MAB, seval]; refine ⟨rfl, rfl, (by decide), ?_, ?_⟩; all_goals (first | (simp only [WKB, seval, true_and]; done) | (simp [WKB, seval, true_and]; done) | simp only [WKB, seval]))
  · rintro ⟨i, hi, ei⟩ K hR hE hT
    by_cases hij : i ≤ c
    case neg =>
      have eI : Go.Sort.scanUp (fun x => lt x D[a]!) D c (a + 1) = i := by rw [← ei.out]; exact up_stop fun h => absurd h hij
      have eJ : Go.Sort.scanDown (fun x => !lt x D[a]!) D i c = c := dn_stop fun h => absurd h hij
      have hr := hP1 i c eI eJ (by omega)
      (have gx := And.intro (@tiLS) (And.intro @tiL1 @tiL2); refine go ?_; (repeat' first | exact Ef.mk | apply Lf.mk | refine fun (K : KT) hK hE hT => ?_ | refine fun (KS : KE) hKS => ?_ | refine fun (D : KD) hD => ?_ | refine fun (hg : (_ : Prop)) => ?_ | fail); all_goals (first | (refine Wr.mk ?_; (try clear gx); repeat first | clear hK hE hT K | clear hR hE hT K) | assumption | skip))
      refine loop_v (X := {k : Nat // k = c}) [] (fun x => [(11, .c (.v (.int .i64 ((x.1 : Nat) : Int))))]) (fun x => [(0, some (.gh S (Φ D))), (1, some (.box 174 [.v LF, .v SF]))]) 2 (fun x => 0) ⟨c, rfl⟩ ?_
      simp only [KPB, seval]
      refine ⟨?_, ?_⟩
      · (refine wk_a ?_; simp only [MAB, seval]; refine ⟨rfl, rfl, (by decide), ?_, ?_⟩; all_goals (first | (simp only [WKB, seval, true_and]; done) | (simp [WKB, seval, true_and]; done) | simp only [WKB, seval]))
      · rintro ⟨k, hk⟩ K hR2 hE hT
        subst hk
        (have gx := And.intro (@tiLS) (And.intro @tiL1 @tiL2); refine go ?_; (repeat' first | exact Ef.mk | apply Lf.mk | refine fun (K : KT) hK hE hT => ?_ | refine fun (KS : KE) hKS => ?_ | refine fun (D : KD) hD => ?_ | refine fun (hg : (_ : Prop)) => ?_ | fail); all_goals (first | (refine Wr.mk ?_; (try clear gx); repeat first | clear hK hE hT K | clear hR hE hT K) | assumption | skip))
        refine swap_k hC (d := D) (i := k) (j := a) (f := 0) (by exact hd1) (by omega) (by omega) ?_ ?_ rfl rfl rfl rfl (by decide) ?_
        · omega
        · omega
        refine hKS _ _ _ _ ?_
        clear hKS; clear KS; simp only [EVB, seval]
        (have gx := And.intro (@tiLS) (And.intro @tiL1 @tiL2); refine go ?_; (repeat' first | exact Ef.mk | apply Lf.mk | refine fun (K : KT) hK hE hT => ?_ | refine fun (KS : KE) hKS => ?_ | refine fun (D : KD) hD => ?_ | refine fun (hg : (_ : Prop)) => ?_ | fail); all_goals (first | (refine Wr.mk ?_; (try clear gx); repeat first | clear hK hE hT K | clear hR hE hT K) | assumption | skip))
        (refine post_a hres (.inl rfl) ?_; simp only [RSB, ENB, seval, tiAll, hr]; simp only [MAB, seval]; refine ⟨rfl, rfl, ?_, ?_, ?_⟩ <;> (first | rfl | (simp [WKB, Nat.add_comm, hr]; done) | (simp only [WKB, seval])))
    case pos =>
      (have gx := And.intro (@tiLS) (And.intro @tiL1 @tiL2); refine go ?_; (repeat' first | exact Ef.mk | apply Lf.mk | refine fun (K : KT) hK hE hT => ?_ | refine fun (KS : KE) hKS => ?_ | refine fun (D : KD) hD => ?_ | refine fun (hg : (_ : Prop)) => ?_ | fail); all_goals (first | (refine Wr.mk ?_; (try clear gx); repeat first | clear hK hE hT K | clear hR hE hT K) | assumption | skip))
      refine less_k hC (d := D) (i := i) (j := a) (f := 0) (by exact hd1) (by omega) (by omega) ?_ ?_ rfl rfl rfl rfl (by decide) ?_
      · omega
      · omega
      refine hKS _ _ _ _ ?_
      clear hKS; clear KS; simp only [EVB, seval]
      cases hl : lt D[i]! D[a]! with
      | true =>
        (have gx := And.intro (@tiLS) (And.intro (@tiL1) (And.intro @tiL2 @hl)); refine go ?_; (repeat' first | exact Ef.mk | apply Lf.mk | refine fun (K : KT) hK hE hT => ?_ | refine fun (KS : KE) hKS => ?_ | refine fun (D : KD) hD => ?_ | refine fun (hg : (_ : Prop)) => ?_ | fail); all_goals (first | (refine Wr.mk ?_; (try clear gx); repeat first | clear hK hE hT K | clear hR hE hT K) | assumption | skip))
        refine hR.out ⟨i + 1, by omega, ⟨by rw [← ei.out]; exact (up_go hij hl).symm⟩⟩ _ _ _ (by simp only; omega) ?_
        (refine wk_a ?_; simp only [MAB, seval]; refine ⟨rfl, rfl, (by decide), ?_, ?_⟩; all_goals (first | (simp only [WKB, seval, true_and]; done) | (simp [WKB, seval, true_and]; done) | simp only [WKB, seval]))
      | false =>
        have eI : Go.Sort.scanUp (fun x => lt x D[a]!) D c (a + 1) = i := by rw [← ei.out]; exact up_stop fun _ => hl
        (have gx := And.intro (@tiLS) (And.intro (@tiL1) (And.intro @tiL2 @hl)); refine go ?_; (repeat' first | exact Ef.mk | apply Lf.mk | refine fun (K : KT) hK hE hT => ?_ | refine fun (KS : KE) hKS => ?_ | refine fun (D : KD) hD => ?_ | refine fun (hg : (_ : Prop)) => ?_ | fail); all_goals (first | (refine Wr.mk ?_; (try clear gx); repeat first | clear hK hE hT K | clear hR hE hT K) | assumption | skip))
        refine loop_v (X := DnX (fun x => !lt x D[a]!) D i c) [] (fun x => [(11, .c (.v (.int .i64 ((x.k : Nat) : Int))))]) (fun x => [(0, some (.gh S (Φ D))), (1, some (.box 174 [.v LF, .v SF]))]) 2 (fun x => x.k) ⟨c, by omega, ⟨rfl⟩⟩ ?_
        simp only [KPB, seval]
        refine ⟨?_, ?_⟩
        · (refine wk_a ?_; simp only [MAB, seval]; refine ⟨rfl, rfl, (by decide), ?_, ?_⟩; all_goals (first | (simp only [WKB, seval, true_and]; done) | (simp [WKB, seval, true_and]; done) | simp only [WKB, seval]))
        · rintro ⟨j, hj, ej⟩ K hR2 hE hT
          by_cases hji : i ≤ j
          case neg =>
            have eJ : Go.Sort.scanDown (fun x => !lt x D[a]!) D i c = j := by rw [← ej.out]; exact dn_stop fun h => absurd h hji
            have hr := hP1 i j eI eJ (by omega)
            (have gx := And.intro (@tiLS) (And.intro @tiL1 @tiL2); refine go ?_; (repeat' first | exact Ef.mk | apply Lf.mk | refine fun (K : KT) hK hE hT => ?_ | refine fun (KS : KE) hKS => ?_ | refine fun (D : KD) hD => ?_ | refine fun (hg : (_ : Prop)) => ?_ | fail); all_goals (first | (refine Wr.mk ?_; (try clear gx); repeat first | clear hK hE hT K | clear hR hE hT K) | assumption | skip))
            refine swap_k hC (d := D) (i := j) (j := a) (f := 0) (by exact hd1) (by omega) (by omega) ?_ ?_ rfl rfl rfl rfl (by decide) ?_
            · omega
            · omega
            refine hKS _ _ _ _ ?_
            clear hKS; clear KS; simp only [EVB, seval]
            (have gx := And.intro (@tiLS) (And.intro @tiL1 @tiL2); refine go ?_; (repeat' first | exact Ef.mk | apply Lf.mk | refine fun (K : KT) hK hE hT => ?_ | refine fun (KS : KE) hKS => ?_ | refine fun (D : KD) hD => ?_ | refine fun (hg : (_ : Prop)) => ?_ | fail); all_goals (first | (refine Wr.mk ?_; (try clear gx); repeat first | clear hK hE hT K | clear hR hE hT K) | assumption | skip))
            (refine post_a hres (.inl rfl) ?_; simp only [RSB, ENB, seval, tiAll, hr]; simp only [MAB, seval]; refine ⟨rfl, rfl, ?_, ?_, ?_⟩ <;> (first | rfl | (simp [WKB, Nat.add_comm, hr]; done) | (simp only [WKB, seval])))
          case pos =>
            (have gx := And.intro (@tiLS) (And.intro @tiL1 @tiL2); refine go ?_; (repeat' first | exact Ef.mk | apply Lf.mk | refine fun (K : KT) hK hE hT => ?_ | refine fun (KS : KE) hKS => ?_ | refine fun (D : KD) hD => ?_ | refine fun (hg : (_ : Prop)) => ?_ | fail); all_goals (first | (refine Wr.mk ?_; (try clear gx); repeat first | clear hK hE hT K | clear hR hE hT K) | assumption | skip))
            refine less_k hC (d := D) (i := j) (j := a) (f := 0) (by exact hd1) (by omega) (by omega) ?_ ?_ rfl rfl rfl rfl (by decide) ?_
            · omega
            · omega
            refine hKS _ _ _ _ ?_
            clear hKS; clear KS; simp only [EVB, seval]
            cases hm : lt D[j]! D[a]! with
            | false =>
              obtain ⟨m, rfl⟩ : ∃ m, j = m + 1 := ⟨j - 1, by omega⟩
              have e5 : ((m + 1 : Nat) : Int) - 1 = (m : Int) := by omega
              (have gx := And.intro (@tiLS) (And.intro (@tiL1) (And.intro @tiL2 @hm)); refine go ?_; (repeat' first | exact Ef.mk | apply Lf.mk | refine fun (K : KT) hK hE hT => ?_ | refine fun (KS : KE) hKS => ?_ | refine fun (D : KD) hD => ?_ | refine fun (hg : (_ : Prop)) => ?_ | fail); all_goals (first | (refine Wr.mk ?_; (try clear gx); repeat first | clear hK hE hT K | clear hR hE hT K) | assumption | skip))
              refine hR2.out ⟨m, by omega, ⟨by rw [← ej.out]; exact (dn_go hji (by rw [hm]; rfl)).symm⟩⟩ _ _ _ (by simp only; omega) ?_
              (refine wk_a ?_; simp only [MAB, seval]; refine ⟨rfl, rfl, (by decide), ?_, ?_⟩; all_goals (first | (simp only [WKB, seval, e5]; done) | (simp [WKB, seval, e5]; done) | simp only [WKB, seval]))
            | true =>
              have eJ : Go.Sort.scanDown (fun x => !lt x D[a]!) D i c = j := by rw [← ej.out]; exact dn_stop fun _ => by rw [hm]; rfl
              have hr := hP2 i j eI eJ (by omega)
              have hd2 : (Go.Sort.swp D i j).size = n := by rw [Go.Sort.size_swp]; exact hd1
              have e5 : (j : Int) - 1 = ((j - 1 : Nat) : Int) := by omega
              clear hP1 hP2
              (have gx := And.intro (@tiLS) (And.intro (@tiL1) (And.intro @tiL2 @hm)); refine go ?_; (repeat' first | exact Ef.mk | apply Lf.mk | refine fun (K : KT) hK hE hT => ?_ | refine fun (KS : KE) hKS => ?_ | refine fun (D : KD) hD => ?_ | refine fun (hg : (_ : Prop)) => ?_ | fail); all_goals (first | (refine Wr.mk ?_; (try clear gx); repeat first | clear hK hE hT K | clear hR hE hT K) | assumption | skip))
              refine swap_k hC (d := D) (i := i) (j := j) (f := 0) (by exact hd1) (by omega) (by omega) ?_ ?_ rfl rfl rfl rfl (by decide) ?_
              · omega
              · omega
              refine hKS _ _ _ _ ?_
              clear hKS; clear KS; simp only [EVB, seval]
              (have gx := And.intro (@tiLS) (And.intro @tiL1 @tiL2); refine go ?_; (repeat' first | exact Ef.mk | apply Lf.mk | refine fun (K : KT) hK hE hT => ?_ | refine fun (KS : KE) hKS => ?_ | refine fun (D : KD) hD => ?_ | refine fun (hg : (_ : Prop)) => ?_ | fail); all_goals (first | (refine Wr.mk ?_; (try clear gx); repeat first | clear hK hE hT K | clear hR hE hT K) | assumption | skip))
              refine loop_v (X := PlX lt a (i + 1) (j - 1) n (Go.Sort.swp D i j)) [] (fun x => [(10, .c (.v (.int .i64 ((x.i : Nat) : Int)))), (11, .c (.v (.int .i64 ((x.j : Nat) : Int))))]) (fun x => [(0, some (.gh S (Φ x.D))), (1, some (.box 174 [.v LF, .v SF]))]) 2 (fun x => x.j + 2 - x.i) ⟨i + 1, j - 1, _, ⟨by omega, by omega, by omega, by omega, hd2⟩, ⟨rfl⟩⟩ ?_
              simp only [KPB, seval]
              refine ⟨?_, ?_⟩
              · (refine wk_a ?_; simp only [MAB, seval]; refine ⟨rfl, rfl, (by decide), ?_, ?_⟩; all_goals (first | (simp only [WKB, seval, e5]; done) | (simp [WKB, seval, e5]; done) | simp only [WKB, seval]))
              · rintro ⟨i1, j1, E, ⟨g1, g2, g3, g4, g5⟩, eP⟩ K hR3 hE hT
                have hP3 := fun I J => @pl_stop α _ lt E a i1 j1 I J
                have hP4 := fun I J => @pl_go α _ lt E a i1 j1 I J
                rw [eP.out] at hP3 hP4
                obtain ⟨Q, hQ⟩ : ∃ Q, Q = Go.Sort.partLoop lt a (i + 1) (j - 1) (Go.Sort.swp D i j) := ⟨_, rfl⟩
                rw [← hQ] at hP3 hP4 hr
                (have gx := And.intro (@tiLS) (And.intro @tiL1 @tiL2); refine go ?_; (repeat' first | exact Ef.mk | apply Lf.mk | refine fun (K : KT) hK hE hT => ?_ | refine fun (KS : KE) hKS => ?_ | refine fun (D : KD) hD => ?_ | refine fun (hg : (_ : Prop)) => ?_ | fail); all_goals (first | (refine Wr.mk ?_; (try clear gx); repeat first | clear hK hE hT K | clear hR hE hT K) | assumption | skip))
                refine loop_v (X := UpX (fun x => lt x E[a]!) E j1 i1) [] (fun x => [(10, .c (.v (.int .i64 ((x.k : Nat) : Int))))]) (fun x => [(0, some (.gh S (Φ E))), (1, some (.box 174 [.v LF, .v SF]))]) 2 (fun x => j1 + 2 - x.k) ⟨i1, by omega, ⟨rfl⟩⟩ ?_
                simp only [KPB, seval]
                refine ⟨?_, ?_⟩
                · (refine wk_a ?_; simp only [MAB, seval]; refine ⟨rfl, rfl, (by decide), ?_, ?_⟩; all_goals (first | (simp only [WKB, seval, true_and]; done) | (simp [WKB, seval, true_and]; done) | simp only [WKB, seval]))
                · rintro ⟨i, hi, ei⟩ K hR4 hE hT
                  by_cases hij : i ≤ j1
                  case neg =>
                    have eI : Go.Sort.scanUp (fun x => lt x E[a]!) E j1 i1 = i := by rw [← ei.out]; exact up_stop fun h => absurd h hij
                    have eJ : Go.Sort.scanDown (fun x => !lt x E[a]!) E i j1 = j1 := dn_stop fun h => absurd h hij
                    have hq := hP3 i j1 eI eJ (by omega)
                    rw [hq] at hr
                    (have gx := And.intro (@tiLS) (And.intro @tiL1 @tiL2); refine go ?_; (repeat' first | exact Ef.mk | apply Lf.mk | refine fun (K : KT) hK hE hT => ?_ | refine fun (KS : KE) hKS => ?_ | refine fun (D : KD) hD => ?_ | refine fun (hg : (_ : Prop)) => ?_ | fail); all_goals (first | (refine Wr.mk ?_; (try clear gx); repeat first | clear hK hE hT K | clear hR hE hT K) | assumption | skip))
                    refine loop_v (X := {k : Nat // k = j1}) [] (fun x => [(11, .c (.v (.int .i64 ((x.1 : Nat) : Int))))]) (fun x => [(0, some (.gh S (Φ E))), (1, some (.box 174 [.v LF, .v SF]))]) 2 (fun x => 0) ⟨j1, rfl⟩ ?_
                    simp only [KPB, seval]
                    refine ⟨?_, ?_⟩
                    · (refine wk_a ?_; simp only [MAB, seval]; refine ⟨rfl, rfl, (by decide), ?_, ?_⟩; all_goals (first | (simp only [WKB, seval, true_and]; done) | (simp [WKB, seval, true_and]; done) | simp only [WKB, seval]))
                    · rintro ⟨k, hk⟩ K hR5 hE hT
                      subst hk
                      (have gx := And.intro (@tiLS) (And.intro @tiL1 @tiL2); refine go ?_; (repeat' first | exact Ef.mk | apply Lf.mk | refine fun (K : KT) hK hE hT => ?_ | refine fun (KS : KE) hKS => ?_ | refine fun (D : KD) hD => ?_ | refine fun (hg : (_ : Prop)) => ?_ | fail); all_goals (first | (refine Wr.mk ?_; (try clear gx); repeat first | clear hK hE hT K | clear hR hE hT K) | assumption | skip))
                      refine swap_k hC (d := E) (i := k) (j := a) (f := 0) (by exact g5) (by omega) (by omega) ?_ ?_ rfl rfl rfl rfl (by decide) ?_
                      · omega
                      · omega
                      refine hKS _ _ _ _ ?_
                      clear hKS; clear KS; simp only [EVB, seval]
                      (have gx := And.intro (@tiLS) (And.intro @tiL1 @tiL2); refine go ?_; (repeat' first | exact Ef.mk | apply Lf.mk | refine fun (K : KT) hK hE hT => ?_ | refine fun (KS : KE) hKS => ?_ | refine fun (D : KD) hD => ?_ | refine fun (hg : (_ : Prop)) => ?_ | fail); all_goals (first | (refine Wr.mk ?_; (try clear gx); repeat first | clear hK hE hT K | clear hR hE hT K) | assumption | skip))
                      (refine post_a hres (.inl rfl) ?_; simp only [RSB, ENB, seval, tiAll, hr]; simp only [MAB, seval]; refine ⟨rfl, rfl, ?_, ?_, ?_⟩ <;> (first | rfl | (simp [WKB, Nat.add_comm, hr]; done) | (simp only [WKB, seval])))
                  case pos =>
                    (have gx := And.intro (@tiLS) (And.intro @tiL1 @tiL2); refine go ?_; (repeat' first | exact Ef.mk | apply Lf.mk | refine fun (K : KT) hK hE hT => ?_ | refine fun (KS : KE) hKS => ?_ | refine fun (D : KD) hD => ?_ | refine fun (hg : (_ : Prop)) => ?_ | fail); all_goals (first | (refine Wr.mk ?_; (try clear gx); repeat first | clear hK hE hT K | clear hR hE hT K) | assumption | skip))
                    refine less_k hC (d := E) (i := i) (j := a) (f := 0) (by exact g5) (by omega) (by omega) ?_ ?_ rfl rfl rfl rfl (by decide) ?_
                    · omega
                    · omega
                    refine hKS _ _ _ _ ?_
                    clear hKS; clear KS; simp only [EVB, seval]
                    cases hl : lt E[i]! E[a]! with
                    | true =>
                      (have gx := And.intro (@tiLS) (And.intro (@tiL1) (And.intro @tiL2 @hl)); refine go ?_; (repeat' first | exact Ef.mk | apply Lf.mk | refine fun (K : KT) hK hE hT => ?_ | refine fun (KS : KE) hKS => ?_ | refine fun (D : KD) hD => ?_ | refine fun (hg : (_ : Prop)) => ?_ | fail); all_goals (first | (refine Wr.mk ?_; (try clear gx); repeat first | clear hK hE hT K | clear hR hE hT K) | assumption | skip))
                      refine hR4.out ⟨i + 1, by omega, ⟨by rw [← ei.out]; exact (up_go hij hl).symm⟩⟩ _ _ _ (by simp only; omega) ?_
                      (refine wk_a ?_; simp only [MAB, seval]; refine ⟨rfl, rfl, (by decide), ?_, ?_⟩; all_goals (first | (simp only [WKB, seval, true_and]; done) | (simp [WKB, seval, true_and]; done) | simp only [WKB, seval]))
                    | false =>
                      have eI : Go.Sort.scanUp (fun x => lt x E[a]!) E j1 i1 = i := by rw [← ei.out]; exact up_stop fun _ => hl
                      (have gx := And.intro (@tiLS) (And.intro (@tiL1) (And.intro @tiL2 @hl)); refine go ?_; (repeat' first | exact Ef.mk | apply Lf.mk | refine fun (K : KT) hK hE hT => ?_ | refine fun (KS : KE) hKS => ?_ | refine fun (D : KD) hD => ?_ | refine fun (hg : (_ : Prop)) => ?_ | fail); all_goals (first | (refine Wr.mk ?_; (try clear gx); repeat first | clear hK hE hT K | clear hR hE hT K) | assumption | skip))
                      refine loop_v (X := DnX (fun x => !lt x E[a]!) E i j1) [] (fun x => [(11, .c (.v (.int .i64 ((x.k : Nat) : Int))))]) (fun x => [(0, some (.gh S (Φ E))), (1, some (.box 174 [.v LF, .v SF]))]) 2 (fun x => x.k) ⟨j1, by omega, ⟨rfl⟩⟩ ?_
                      simp only [KPB, seval]
                      refine ⟨?_, ?_⟩
                      · (refine wk_a ?_; simp only [MAB, seval]; refine ⟨rfl, rfl, (by decide), ?_, ?_⟩; all_goals (first | (simp only [WKB, seval, true_and]; done) | (simp [WKB, seval, true_and]; done) | simp only [WKB, seval]))
                      · rintro ⟨j, hj, ej⟩ K hR5 hE hT
                        by_cases hji : i ≤ j
                        case neg =>
                          have eJ : Go.Sort.scanDown (fun x => !lt x E[a]!) E i j1 = j := by rw [← ej.out]; exact dn_stop fun h => absurd h hji
                          have hq := hP3 i j eI eJ (by omega)
                          rw [hq] at hr
                          (have gx := And.intro (@tiLS) (And.intro @tiL1 @tiL2); refine go ?_; (repeat' first | exact Ef.mk | apply Lf.mk | refine fun (K : KT) hK hE hT => ?_ | refine fun (KS : KE) hKS => ?_ | refine fun (D : KD) hD => ?_ | refine fun (hg : (_ : Prop)) => ?_ | fail); all_goals (first | (refine Wr.mk ?_; (try clear gx); repeat first | clear hK hE hT K | clear hR hE hT K) | assumption | skip))
                          refine swap_k hC (d := E) (i := j) (j := a) (f := 0) (by exact g5) (by omega) (by omega) ?_ ?_ rfl rfl rfl rfl (by decide) ?_
                          · omega
                          · omega
                          refine hKS _ _ _ _ ?_
                          clear hKS; clear KS; simp only [EVB, seval]
                          (have gx := And.intro (@tiLS) (And.intro @tiL1 @tiL2); refine go ?_; (repeat' first | exact Ef.mk | apply Lf.mk | refine fun (K : KT) hK hE hT => ?_ | refine fun (KS : KE) hKS => ?_ | refine fun (D : KD) hD => ?_ | refine fun (hg : (_ : Prop)) => ?_ | fail); all_goals (first | (refine Wr.mk ?_; (try clear gx); repeat first | clear hK hE hT K | clear hR hE hT K) | assumption | skip))
                          (refine post_a hres (.inl rfl) ?_; simp only [RSB, ENB, seval, tiAll, hr]; simp only [MAB, seval]; refine ⟨rfl, rfl, ?_, ?_, ?_⟩ <;> (first | rfl | (simp [WKB, Nat.add_comm, hr]; done) | (simp only [WKB, seval])))
                        case pos =>
                          (have gx := And.intro (@tiLS) (And.intro @tiL1 @tiL2); refine go ?_; (repeat' first | exact Ef.mk | apply Lf.mk | refine fun (K : KT) hK hE hT => ?_ | refine fun (KS : KE) hKS => ?_ | refine fun (D : KD) hD => ?_ | refine fun (hg : (_ : Prop)) => ?_ | fail); all_goals (first | (refine Wr.mk ?_; (try clear gx); repeat first | clear hK hE hT K | clear hR hE hT K) | assumption | skip))
                          refine less_k hC (d := E) (i := j) (j := a) (f := 0) (by exact g5) (by omega) (by omega) ?_ ?_ rfl rfl rfl rfl (by decide) ?_
                          · omega
                          · omega
                          refine hKS _ _ _ _ ?_
                          clear hKS; clear KS; simp only [EVB, seval]
                          cases hm : lt E[j]! E[a]! with
                          | false =>
                            obtain ⟨m, rfl⟩ : ∃ m, j = m + 1 := ⟨j - 1, by omega⟩
                            have e5 : ((m + 1 : Nat) : Int) - 1 = (m : Int) := by omega
                            (have gx := And.intro (@tiLS) (And.intro (@tiL1) (And.intro @tiL2 @hm)); refine go ?_; (repeat' first | exact Ef.mk | apply Lf.mk | refine fun (K : KT) hK hE hT => ?_ | refine fun (KS : KE) hKS => ?_ | refine fun (D : KD) hD => ?_ | refine fun (hg : (_ : Prop)) => ?_ | fail); all_goals (first | (refine Wr.mk ?_; (try clear gx); repeat first | clear hK hE hT K | clear hR hE hT K) | assumption | skip))
                            refine hR5.out ⟨m, by omega, ⟨by rw [← ej.out]; exact (dn_go hji (by rw [hm]; rfl)).symm⟩⟩ _ _ _ (by simp only; omega) ?_
                            (refine wk_a ?_; simp only [MAB, seval]; refine ⟨rfl, rfl, (by decide), ?_, ?_⟩; all_goals (first | (simp only [WKB, seval, e5]; done) | (simp [WKB, seval, e5]; done) | simp only [WKB, seval]))
                          | true =>
                            have eJ : Go.Sort.scanDown (fun x => !lt x E[a]!) E i j1 = j := by rw [← ej.out]; exact dn_stop fun _ => by rw [hm]; rfl
                            have hq := hP4 i j eI eJ (by omega) (by omega)
                            have hd3 : (Go.Sort.swp E i j).size = n := by rw [Go.Sort.size_swp]; exact g5
                            have e5 : (j : Int) - 1 = ((j - 1 : Nat) : Int) := by omega
                            (have gx := And.intro (@tiLS) (And.intro (@tiL1) (And.intro @tiL2 @hm)); refine go ?_; (repeat' first | exact Ef.mk | apply Lf.mk | refine fun (K : KT) hK hE hT => ?_ | refine fun (KS : KE) hKS => ?_ | refine fun (D : KD) hD => ?_ | refine fun (hg : (_ : Prop)) => ?_ | fail); all_goals (first | (refine Wr.mk ?_; (try clear gx); repeat first | clear hK hE hT K | clear hR hE hT K) | assumption | skip))
                            refine swap_k hC (d := E) (i := i) (j := j) (f := 0) (by exact g5) (by omega) (by omega) ?_ ?_ rfl rfl rfl rfl (by decide) ?_
                            · omega
                            · omega
                            refine hKS _ _ _ _ ?_
                            clear hKS; clear KS; simp only [EVB, seval]
                            (have gx := And.intro (@tiLS) (And.intro @tiL1 @tiL2); refine go ?_; (repeat' first | exact Ef.mk | apply Lf.mk | refine fun (K : KT) hK hE hT => ?_ | refine fun (KS : KE) hKS => ?_ | refine fun (D : KD) hD => ?_ | refine fun (hg : (_ : Prop)) => ?_ | fail); all_goals (first | (refine Wr.mk ?_; (try clear gx); repeat first | clear hK hE hT K | clear hR hE hT K) | assumption | skip))
                            refine hR3.out ⟨i + 1, j - 1, _, ⟨by omega, by omega, by omega, by omega, hd3⟩, ⟨by rw [← hq]; exact hQ⟩⟩ _ _ _ (by simp only; omega) ?_
                            (refine wk_a ?_; simp only [MAB, seval]; refine ⟨rfl, rfl, (by decide), ?_, ?_⟩; all_goals (first | (simp only [WKB, seval, e5]; done) | (simp [WKB, seval, e5]; done) | simp only [WKB, seval]))
end

end Go.Proofs.Ytfnhchcgieeedaa
