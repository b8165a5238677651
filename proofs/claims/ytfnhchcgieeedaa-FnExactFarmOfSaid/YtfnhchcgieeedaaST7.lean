/-
  The library's partial insertion sort, by any comparison. No conditions of its own.
-/
import Derived.Test.YtfnhchcgieeedaaGO
import Derived.Test.YtfnhchcgieeedaaST2
namespace Go.Proofs.Ytfnhchcgieeedaa
set_option linter.unusedSimpArgs false
set_option linter.unusedVariables false
set_option linter.unusedSimpArgs false
set_option linter.unusedVariables false
set_option linter.defProp false
set_option maxRecDepth 20000
open Go.RowKit

section
variable {α : Type} [Inhabited α] {lt : α → α → Bool} {S : List Nat} {Φ : Array α → World → Prop} {LF SF : Value} {n : Nat}

theorem ss_go {d : Array α} {b i : Nat} (h1 : i < b) (h : lt d[i]! d[i - 1]! = false) : Go.Sort.scanSorted lt d b i = Go.Sort.scanSorted lt d b (i + 1) := by
  rw [Go.Sort.scanSorted.eq_1 lt d b i, h]; simp [h1]
theorem ss_stop {d : Array α} {b i : Nat} (h : i < b → lt d[i]! d[i - 1]! = true) : Go.Sort.scanSorted lt d b i = i := by
  rw [Go.Sort.scanSorted]
  by_cases h1 : i < b
  · rw [h h1]; simp
  · simp [h1]
theorem sd_no {d : Array α} {m : Nat} (h : lt d[m + 1]! d[m]! = false) : Go.Sort.shiftDown lt (m + 1) d = d := by simp [Go.Sort.shiftDown, h]
theorem sd_go {d : Array α} {m : Nat} (h : lt d[m + 1]! d[m]! = true) : Go.Sort.shiftDown lt (m + 1) d = Go.Sort.shiftDown lt m (Go.Sort.swp d (m + 1) m) := by
  rw [Go.Sort.shiftDown, h]; simp
theorem su_end {d : Array α} {b j : Nat} (h : ¬ j < b) : Go.Sort.shiftUp lt b j d = d := by rw [Go.Sort.shiftUp, if_neg h]
theorem su_no {d : Array α} {b j : Nat} (h : lt d[j]! d[j - 1]! = false) : Go.Sort.shiftUp lt b j d = d := by
  rw [Go.Sort.shiftUp]
  split
  · rw [h]; rfl
  · rfl
theorem su_go {d : Array α} {b j : Nat} (h1 : j < b) (h : lt d[j]! d[j - 1]! = true) : Go.Sort.shiftUp lt b j d = Go.Sort.shiftUp lt b (j + 1) (Go.Sort.swp d j (j - 1)) := by
  rw [Go.Sort.shiftUp.eq_1 lt b j d, if_pos h1, h]; rfl
theorem pi_zero (lt : α → α → Bool) (a b i : Nat) (d : Array α) : Go.Sort.partialIns lt a b 0 i d = (d, false) := rfl
theorem pi_t {d : Array α} {a b s i : Nat} (h : Go.Sort.scanSorted lt d b i = b) : Go.Sort.partialIns lt a b (s + 1) i d = (d, true) := by
  unfold Go.Sort.partialIns
  simp only [h, if_true]
theorem pi_f {d : Array α} {a b s i k : Nat} (h : Go.Sort.scanSorted lt d b i = k) (hk : k ≠ b) (h50 : b - a < 50) : Go.Sort.partialIns lt a b (s + 1) i d = (d, false) := by
  unfold Go.Sort.partialIns
  simp only [h]
  rw [if_neg hk, if_pos h50]
theorem pi_go {d : Array α} {a b s i k : Nat} (h : Go.Sort.scanSorted lt d b i = k) (hk : k ≠ b) (h50 : ¬ b - a < 50) :
    Go.Sort.partialIns lt a b (s + 1) i d = Go.Sort.partialIns lt a b s k (if b - k ≥ 2 then Go.Sort.shiftUp lt b (k + 1) (if k - a ≥ 2 then Go.Sort.shiftDown lt (k - 1) (Go.Sort.swp d k (k - 1)) else Go.Sort.swp d k (k - 1)) else (if k - a ≥ 2 then Go.Sort.shiftDown lt (k - 1) (Go.Sort.swp d k (k - 1)) else Go.Sort.swp d k (k - 1))) := by
  rw [Go.Sort.partialIns]
  simp only [h]
  rw [if_neg hk, if_neg h50]

structure PiX (lt : α → α → Bool) (a b n : Nat) (R : Array α × Bool) where
  c : Nat
  i : Nat
  D : Array α
  h : c ≤ 5 ∧ a + 1 ≤ i ∧ i ≤ b ∧ D.size = n
  e : Rnd (Go.Sort.partialIns lt a b (5 - c) i D = R)
structure SsX (lt : α → α → Bool) (D : Array α) (b i : Nat) where
  k : Nat
  h : i ≤ k ∧ k ≤ b
  e : Rnd (Go.Sort.scanSorted lt D b k = Go.Sort.scanSorted lt D b i)
structure SdX (lt : α → α → Bool) (D0 : Array α) (j0 n : Nat) where
  j : Nat
  E : Array α
  h : j ≤ j0 ∧ E.size = n
  e : Rnd (Go.Sort.shiftDown lt j E = Go.Sort.shiftDown lt j0 D0)
structure SuX (lt : α → α → Bool) (D0 : Array α) (b j0 n : Nat) where
  j : Nat
  E : Array α
  h : j0 ≤ j ∧ j ≤ b + 1 ∧ E.size = n
  e : Rnd (Go.Sort.shiftUp lt b j E = Go.Sort.shiftUp lt b j0 D0)

set_option maxHeartbeats 32000000 in
theorem partialIns_k (hC : SrtC Try.prog lt S Φ LF SF n) (d : Array α) (hd : d.size = n) (a b : Nat) (hab : a < b) (hb : b ≤ n) (hn : n ≤ 1099511627) :
    FnOK Try.prog 156 ⟨1, [(0, some (.gh S (Φ d)))], [.agg [.v LF, .v SF], .c (.v (.int .i64 (a : Int))), .c (.v (.int .i64 (b : Int)))], .c (.v (.bool (Go.Sort.partialInsertionSort lt d a b).2)), [(0, some (.gh S (Φ (Go.Sort.partialInsertionSort lt d a b).1)))], 1⟩ := by
  have o1 := hC.one1
  have o2 := hC.one2
  have hR1 : Go.Sort.partialIns lt a b 5 (a + 1) d = Go.Sort.partialInsertionSort lt d a b := rfl
  obtain ⟨R, hRR⟩ : ∃ R, R = Go.Sort.partialInsertionSort lt d a b := ⟨_, rfl⟩
  rw [← hRR] at hR1 ⊢
  refine fnOK_of true mixed Try.func156 rfl (by rfl) (by rfl) ?_
  have hres := congrArg Array.toList Try.results156
  simp only [Try.ntmps156, BGB, seval]
  (have gx := And.intro (@tiLS) (And.intro (@tiL1) (And.intro (@tiL2) (And.intro @o1 @o2))); refine go ?_; (repeat' first | exact Ef.mk | apply Lf.mk | refine fun (K : KT) hK hE hT => ?_ | refine fun (KS : KE) hKS => ?_ | refine fun (D : KD) hD => ?_ | refine fun (hg : (_ : Prop)) => ?_ | fail); all_goals (first | (refine Wr.mk ?_; (try clear gx); repeat first | clear hK hE hT K | clear hR hE hT K) | assumption | skip))
  refine loop_v (X := PiX lt a b n R) [] (fun x => [(8, .c (.v (.int .i64 ((x.c : Nat) : Int)))), (7, .c (.v (.int .i64 ((x.i : Nat) : Int))))]) (fun x => [(0, some (.gh S (Φ x.D))), (1, some (.box 174 [.v LF, .v SF]))]) 2 (fun x => 5 - x.c) ⟨0, a + 1, d, ⟨by omega, by omega, by omega, hd⟩, ⟨hR1⟩⟩ ?_
  simp only [KPB, seval]
  refine ⟨?_, ?_⟩
  · (refine wk_a ?_; simp only [MAB, seval]; refine ⟨rfl, rfl, (by decide), ?_, ?_⟩; all_goals (first | (simp only [WKB, seval, true_and]; done) | (simp [WKB, seval, true_and]; done) | simp only [WKB, seval]))
  · rintro ⟨c, i, D, ⟨g1, g2, g3, g4⟩, eP⟩ K hR0 hE hT
    rcases Nat.lt_or_ge c 5 with hc | hc
    case inr =>
      obtain rfl : c = 5 := by omega
      have e0 : R = (D, false) := eP.out.symm
      (have gx := And.intro (@tiLS) (And.intro @tiL1 @tiL2); refine go ?_; (repeat' first | exact Ef.mk | apply Lf.mk | refine fun (K : KT) hK hE hT => ?_ | refine fun (KS : KE) hKS => ?_ | refine fun (D : KD) hD => ?_ | refine fun (hg : (_ : Prop)) => ?_ | fail); all_goals (first | (refine Wr.mk ?_; (try clear gx); repeat first | clear hK hE hT K | clear hR hE hT K) | assumption | skip))
      (refine post_a hres (.inl rfl) ?_; simp only [RSB, ENB, seval, tiAll, e0]; simp only [MAB, seval]; refine ⟨rfl, rfl, ?_, ?_, ?_⟩ <;> (first | rfl | (simp [WKB, Nat.add_comm, e0]; done) | (simp only [WKB, seval])))
    case inl =>
      have ePc : Go.Sort.partialIns lt a b (5 - (c + 1) + 1) i D = R := by rw [show 5 - (c + 1) + 1 = 5 - c by omega]; exact eP.out
      (have gx := And.intro (@tiLS) (And.intro @tiL1 @tiL2); refine go ?_; (repeat' first | exact Ef.mk | apply Lf.mk | refine fun (K : KT) hK hE hT => ?_ | refine fun (KS : KE) hKS => ?_ | refine fun (D : KD) hD => ?_ | refine fun (hg : (_ : Prop)) => ?_ | fail); all_goals (first | (refine Wr.mk ?_; (try clear gx); repeat first | clear hK hE hT K | clear hR hE hT K) | assumption | skip))
      refine loop_v (X := SsX lt D b i) [] (fun x => [(7, .c (.v (.int .i64 ((x.k : Nat) : Int))))]) (fun x => [(0, some (.gh S (Φ D))), (1, some (.box 174 [.v LF, .v SF]))]) 2 (fun x => b + 1 - x.k) ⟨i, ⟨by omega, by omega⟩, ⟨rfl⟩⟩ ?_
      simp only [KPB, seval]
      refine ⟨?_, ?_⟩
      · (refine wk_a ?_; simp only [MAB, seval]; refine ⟨rfl, rfl, (by decide), ?_, ?_⟩; all_goals (first | (simp only [WKB, seval, true_and]; done) | (simp [WKB, seval, true_and]; done) | simp only [WKB, seval]))
      · rintro ⟨k, ⟨k1, k2⟩, eS⟩ K hR1 hE hT
        rcases Nat.lt_or_ge k b with hk | hk
        case inr =>
          obtain rfl : k = b := by omega
          have e0 : Go.Sort.scanSorted lt D k i = k := by rw [← eS.out]; exact ss_stop fun h => absurd h (by omega)
          rw [pi_t e0] at ePc
          (have gx := And.intro (@tiLS) (And.intro @tiL1 @tiL2); refine go ?_; (repeat' first | exact Ef.mk | apply Lf.mk | refine fun (K : KT) hK hE hT => ?_ | refine fun (KS : KE) hKS => ?_ | refine fun (D : KD) hD => ?_ | refine fun (hg : (_ : Prop)) => ?_ | fail); all_goals (first | (refine Wr.mk ?_; (try clear gx); repeat first | clear hK hE hT K | clear hR hE hT K) | assumption | skip))
          (refine post_a hres (.inl rfl) ?_; simp only [RSB, ENB, seval, tiAll, ← ePc]; simp only [MAB, seval]; refine ⟨rfl, rfl, ?_, ?_, ?_⟩ <;> (first | rfl | (simp [WKB, Nat.add_comm, ← ePc]; done) | (simp only [WKB, seval])))
        case inl =>
          (have gx := And.intro (@tiLS) (And.intro @tiL1 @tiL2); refine go ?_; (repeat' first | exact Ef.mk | apply Lf.mk | refine fun (K : KT) hK hE hT => ?_ | refine fun (KS : KE) hKS => ?_ | refine fun (D : KD) hD => ?_ | refine fun (hg : (_ : Prop)) => ?_ | fail); all_goals (first | (refine Wr.mk ?_; (try clear gx); repeat first | clear hK hE hT K | clear hR hE hT K) | assumption | skip))
          refine less_k hC (d := D) (i := k) (j := k - 1) (f := 0) (by exact g4) (by omega) (by omega) ?_ ?_ rfl rfl rfl rfl (by decide) ?_
          · omega
          · omega
          refine hKS _ _ _ _ ?_
          clear hKS; clear KS; simp only [EVB, seval]
          cases hl : lt D[k]! D[k - 1]! with
          | false =>
            (have gx := And.intro (@tiLS) (And.intro (@tiL1) (And.intro @tiL2 @hl)); refine go ?_; (repeat' first | exact Ef.mk | apply Lf.mk | refine fun (K : KT) hK hE hT => ?_ | refine fun (KS : KE) hKS => ?_ | refine fun (D : KD) hD => ?_ | refine fun (hg : (_ : Prop)) => ?_ | fail); all_goals (first | (refine Wr.mk ?_; (try clear gx); repeat first | clear hK hE hT K | clear hR hE hT K) | assumption | skip))
            refine hR1.out ⟨k + 1, ⟨by omega, by omega⟩, ⟨by rw [← eS.out]; exact (ss_go hk hl).symm⟩⟩ _ _ _ (by simp only; omega) ?_
            (refine wk_a ?_; simp only [MAB, seval]; refine ⟨rfl, rfl, (by decide), ?_, ?_⟩; all_goals (first | (simp only [WKB, seval, true_and]; done) | (simp [WKB, seval, true_and]; done) | simp only [WKB, seval]))
          | true =>
            have e0 : Go.Sort.scanSorted lt D b i = k := by rw [← eS.out]; exact ss_stop fun _ => hl
            by_cases h50 : b - a < 50
            case pos =>
              rw [pi_f e0 (by omega) h50] at ePc
              (have gx := And.intro (@tiLS) (And.intro (@tiL1) (And.intro @tiL2 @hl)); refine go ?_; (repeat' first | exact Ef.mk | apply Lf.mk | refine fun (K : KT) hK hE hT => ?_ | refine fun (KS : KE) hKS => ?_ | refine fun (D : KD) hD => ?_ | refine fun (hg : (_ : Prop)) => ?_ | fail); all_goals (first | (refine Wr.mk ?_; (try clear gx); repeat first | clear hK hE hT K | clear hR hE hT K) | assumption | skip))
              (refine post_a hres (.inl rfl) ?_; simp only [RSB, ENB, seval, tiAll, ← ePc]; simp only [MAB, seval]; refine ⟨rfl, rfl, ?_, ?_, ?_⟩ <;> (first | rfl | (simp [WKB, Nat.add_comm, ← ePc]; done) | (simp only [WKB, seval])))
            case neg =>
              rw [pi_go e0 (by omega) h50] at ePc
              have gs : (Go.Sort.swp D k (k - 1)).size = n := by rw [Go.Sort.size_swp]; exact g4
              obtain ⟨E, hE0⟩ : ∃ E, E = Go.Sort.swp D k (k - 1) := ⟨_, rfl⟩
              rw [← hE0] at ePc gs
              (have gx := And.intro (@tiLS) (And.intro (@tiL1) (And.intro @tiL2 @hl)); refine go ?_; (repeat' first | exact Ef.mk | apply Lf.mk | refine fun (K : KT) hK hE hT => ?_ | refine fun (KS : KE) hKS => ?_ | refine fun (D : KD) hD => ?_ | refine fun (hg : (_ : Prop)) => ?_ | fail); all_goals (first | (refine Wr.mk ?_; (try clear gx); repeat first | clear hK hE hT K | clear hR hE hT K) | assumption | skip))
              refine swap_k hC (d := D) (i := k) (j := k - 1) (f := 0) (by exact g4) (by omega) (by omega) ?_ ?_ rfl rfl rfl rfl (by decide) ?_
              · omega
              · omega
              refine hKS _ _ _ _ ?_
              clear hKS; clear KS; simp only [EVB, seval]
              rw [← hE0]
              by_cases h3 : k - a ≥ 2
              case neg =>
                simp only [if_neg h3] at ePc
                repeat' ((fail_if_success with_reducible refine hand_k (id := 18) ?_); (first | (with_reducible first | refine seq_k fun K hK hE hT => ?_ | refine block_k fun K hK hE hT => ?_ | refine lex_nil ?_ | fail) | ((with_reducible refine region_k ?_); simp only [dstsOf, EVB, seval]) | ((with_reducible refine draw_k ?_ fun D hD => ?_); (focus (first | rfl | kernel_rfl)); simp only [dstsOf, EVB, seval]) | ((with_reducible first | refine lex_move ?_ | refine lex_assign ?_); simp only [EVB, seval]) | (with_reducible first | refine lex_cons fun KS hKS => ?_ | refine lexd_cons fun KS hKS => ?_ | refine skip_k ?_ | refine exit_k ?_ | refine ret_k ?_ | fail) | ((with_reducible refine call_go ?_); fail) | ((with_reducible refine step_go ?_); (fail_if_success with_reducible refine call_go ?_); simp only [ENB, seval, tiAll, tiLS, tiL1, tiL2]) | ((with_reducible refine lexd_nil ?_ ?_); (focus (refine hD _ ?_; first | kernel_rfl | with_unfolding_all rfl)); clear hD; clear D) | ((with_reducible refine guard_go ?_); refine lex_gone rfl rfl ?_; simp only [EVB, seval]) | ((with_reducible refine guardd_go ?_); refine lexd_gone rfl rfl ?_; simp only [EVB, seval]) | ((first | ((with_reducible refine guard_go ?_); refine lex_guard rfl rfl (fun hg KS hKS => ?_) (fun hg => ?_)) | ((with_reducible refine guardd_go ?_); refine lexd_guard rfl rfl (fun hg KS hKS => ?_) (fun hg => ?_)) | ((with_reducible refine cond_go ?_); refine cond_k rfl (fun hg => ?_) (fun hg => ?_)) | (with_reducible refine And.intro (fun hg => ?_) (fun hg => ?_)) | fail) <;> first | ((with_reducible exfalso); exact absurd hg (by decide)) | ((try simp only [CNL] at hg) <;> first | ((with_reducible exfalso); omega) | ((with_reducible exfalso); first | exact tf (by assumption) hg | exact tf hg (by assumption)) | ((try with_reducible (have hT0 : True := hg; clear hT0 hg)); first | (with_reducible refine wpc_go ?_) | (try simp only [EVB, seval])))) | ((with_reducible refine hKS _ _ _ _ ?_); clear hKS; clear KS; simp only [EVB, seval]) | ((with_reducible refine And.intro ?_ ?_); focus (first | omega | exact u8_le _ | exact flat_intK _ | exact flat_bytK _ | (fail) | decide | (simp only [tiLS, tiL1, tiL2]; done))) | ((with_reducible refine ex_p ?_ (fun hh => ?_)); focus (first | omega | (simp only [tiLS, tiL1, tiL2]; omega))) | ((with_reducible refine hK _ _ _ ?_); clear hK hE hT; clear K) | ((with_reducible first | refine hE _ _ _ _ ?_ | refine hT _ _ _ ?_ | fail); (first | (clear hK hE hT; clear K) | (clear hR hE hT; clear K) | skip); try simp only [IFB, seval]) | ((with_reducible apply_assumption -symm -exfalso); try simp only [IFB, seval]) | fail))
                by_cases h4 : b - k ≥ 2
                · have eR4 := ePc
                  rw [if_pos h4] at eR4
                  (have gx := And.intro (@tiLS) (And.intro @tiL1 @tiL2); refine go ?_; (repeat' first | exact Ef.mk | apply Lf.mk | refine fun (K : KT) hK hE hT => ?_ | refine fun (KS : KE) hKS => ?_ | refine fun (D : KD) hD => ?_ | refine fun (hg : (_ : Prop)) => ?_ | fail); all_goals (first | (refine Wr.mk ?_; (try clear gx); repeat first | clear hK hE hT K | clear hR hE hT K) | assumption | skip))
                  refine loop_v (X := SuX lt E b (k + 1) n) [] (fun x => [(10, .c (.v (.int .i64 ((x.j : Nat) : Int))))]) (fun x => [(0, some (.gh S (Φ x.E))), (1, some (.box 174 [.v LF, .v SF]))]) 2 (fun x => b + 1 - x.j) ⟨k + 1, E, ⟨by omega, by omega, gs⟩, ⟨rfl⟩⟩ ?_
                  simp only [KPB, seval]
                  refine ⟨?_, ?_⟩
                  · (refine wk_a ?_; simp only [MAB, seval]; refine ⟨rfl, rfl, (by decide), ?_, ?_⟩; all_goals (first | (simp only [WKB, seval, true_and]; done) | (simp [WKB, seval, true_and]; done) | simp only [WKB, seval]))
                  · rintro ⟨j4, E4, ⟨f1, f2, f3⟩, e4⟩ K hR4 hE hT
                    by_cases hj4 : j4 < b
                    · (have gx := And.intro (@tiLS) (And.intro @tiL1 @tiL2); refine go ?_; (repeat' first | exact Ef.mk | apply Lf.mk | refine fun (K : KT) hK hE hT => ?_ | refine fun (KS : KE) hKS => ?_ | refine fun (D : KD) hD => ?_ | refine fun (hg : (_ : Prop)) => ?_ | fail); all_goals (first | (refine Wr.mk ?_; (try clear gx); repeat first | clear hK hE hT K | clear hR hE hT K) | assumption | skip))
                      refine less_k hC (d := E4) (i := j4) (j := j4 - 1) (f := 0) (by exact f3) (by omega) (by omega) ?_ ?_ rfl rfl rfl rfl (by decide) ?_
                      · omega
                      · omega
                      refine hKS _ _ _ _ ?_
                      clear hKS; clear KS; simp only [EVB, seval]
                      cases hl4 : lt E4[j4]! E4[j4 - 1]! with
                      | false =>
                        rw [← e4.out, su_no hl4] at eR4
                        (have gx := And.intro (@tiLS) (And.intro (@tiL1) (And.intro @tiL2 @hl4)); refine go ?_; (repeat' first | exact Ef.mk | apply Lf.mk | refine fun (K : KT) hK hE hT => ?_ | refine fun (KS : KE) hKS => ?_ | refine fun (D : KD) hD => ?_ | refine fun (hg : (_ : Prop)) => ?_ | fail); all_goals (first | (refine Wr.mk ?_; (try clear gx); repeat first | clear hK hE hT K | clear hR hE hT K) | assumption | skip))
                        refine hR0.out ⟨c + 1, k, E4, ⟨by omega, by omega, by omega, f3⟩, ⟨eR4⟩⟩ _ _ _ (by simp only; omega) ?_
                        (refine wk_a ?_; simp only [MAB, seval]; refine ⟨rfl, rfl, (by decide), ?_, ?_⟩; all_goals (first | (simp only [WKB, seval, true_and]; done) | (simp [WKB, seval, true_and]; done) | simp only [WKB, seval]))
                      | true =>
                        (have gx := And.intro (@tiLS) (And.intro (@tiL1) (And.intro @tiL2 @hl4)); refine go ?_; (repeat' first | exact Ef.mk | apply Lf.mk | refine fun (K : KT) hK hE hT => ?_ | refine fun (KS : KE) hKS => ?_ | refine fun (D : KD) hD => ?_ | refine fun (hg : (_ : Prop)) => ?_ | fail); all_goals (first | (refine Wr.mk ?_; (try clear gx); repeat first | clear hK hE hT K | clear hR hE hT K) | assumption | skip))
                        refine swap_k hC (d := E4) (i := j4) (j := j4 - 1) (f := 0) (by exact f3) (by omega) (by omega) ?_ ?_ rfl rfl rfl rfl (by decide) ?_
                        · omega
                        · omega
                        refine hKS _ _ _ _ ?_
                        clear hKS; clear KS; simp only [EVB, seval]
                        (have gx := And.intro (@tiLS) (And.intro @tiL1 @tiL2); refine go ?_; (repeat' first | exact Ef.mk | apply Lf.mk | refine fun (K : KT) hK hE hT => ?_ | refine fun (KS : KE) hKS => ?_ | refine fun (D : KD) hD => ?_ | refine fun (hg : (_ : Prop)) => ?_ | fail); all_goals (first | (refine Wr.mk ?_; (try clear gx); repeat first | clear hK hE hT K | clear hR hE hT K) | assumption | skip))
                        refine hR4.out ⟨j4 + 1, Go.Sort.swp E4 j4 (j4 - 1), ⟨by omega, by omega, by rw [Go.Sort.size_swp]; exact f3⟩, ⟨by rw [← e4.out]; exact (su_go hj4 hl4).symm⟩⟩ _ _ _ (by simp only; omega) ?_
                        (refine wk_a ?_; simp only [MAB, seval]; refine ⟨rfl, rfl, (by decide), ?_, ?_⟩; all_goals (first | (simp only [WKB, seval, true_and]; done) | (simp [WKB, seval, true_and]; done) | simp only [WKB, seval]))
                    · rw [← e4.out, su_end hj4] at eR4
                      (have gx := And.intro (@tiLS) (And.intro @tiL1 @tiL2); refine go ?_; (repeat' first | exact Ef.mk | apply Lf.mk | refine fun (K : KT) hK hE hT => ?_ | refine fun (KS : KE) hKS => ?_ | refine fun (D : KD) hD => ?_ | refine fun (hg : (_ : Prop)) => ?_ | fail); all_goals (first | (refine Wr.mk ?_; (try clear gx); repeat first | clear hK hE hT K | clear hR hE hT K) | assumption | skip))
                      refine hR0.out ⟨c + 1, k, E4, ⟨by omega, by omega, by omega, f3⟩, ⟨eR4⟩⟩ _ _ _ (by simp only; omega) ?_
                      (refine wk_a ?_; simp only [MAB, seval]; refine ⟨rfl, rfl, (by decide), ?_, ?_⟩; all_goals (first | (simp only [WKB, seval, true_and]; done) | (simp [WKB, seval, true_and]; done) | simp only [WKB, seval]))
                · first
                    | (exfalso; omega)
                    | (have eR4 := ePc
                       rw [if_neg h4] at eR4
                       (have gx := And.intro (@tiLS) (And.intro @tiL1 @tiL2); refine go ?_; (repeat' first | exact Ef.mk | apply Lf.mk | refine fun (K : KT) hK hE hT => ?_ | refine fun (KS : KE) hKS => ?_ | refine fun (D : KD) hD => ?_ | refine fun (hg : (_ : Prop)) => ?_ | fail); all_goals (first | (refine Wr.mk ?_; (try clear gx); repeat first | clear hK hE hT K | clear hR hE hT K) | assumption | skip))
                       refine hR0.out ⟨c + 1, k, E, ⟨by omega, by omega, by omega, gs⟩, ⟨eR4⟩⟩ _ _ _ (by simp only; omega) ?_
                       (refine wk_a ?_; simp only [MAB, seval]; refine ⟨rfl, rfl, (by decide), ?_, ?_⟩; all_goals (first | (simp only [WKB, seval, true_and]; done) | (simp [WKB, seval, true_and]; done) | simp only [WKB, seval])))
              case pos =>
                simp only [if_pos h3] at ePc
                have e5 : (k : Int) - 1 = ((k - 1 : Nat) : Int) := by omega
                (have gx := And.intro (@tiLS) (And.intro @tiL1 @tiL2); refine go ?_; (repeat' first | exact Ef.mk | apply Lf.mk | refine fun (K : KT) hK hE hT => ?_ | refine fun (KS : KE) hKS => ?_ | refine fun (D : KD) hD => ?_ | refine fun (hg : (_ : Prop)) => ?_ | fail); all_goals (first | (refine Wr.mk ?_; (try clear gx); repeat first | clear hK hE hT K | clear hR hE hT K) | assumption | skip))
                refine loop_v (X := SdX lt E (k - 1) n) [] (fun x => [(9, .c (.v (.int .i64 ((x.j : Nat) : Int))))]) (fun x => [(0, some (.gh S (Φ x.E))), (1, some (.box 174 [.v LF, .v SF]))]) 2 (fun x => x.j) ⟨k - 1, E, ⟨by omega, gs⟩, ⟨rfl⟩⟩ ?_
                simp only [KPB, seval]
                refine ⟨?_, ?_⟩
                · (refine wk_a ?_; simp only [MAB, seval]; refine ⟨rfl, rfl, (by decide), ?_, ?_⟩; all_goals (first | (simp only [WKB, seval, e5]; done) | (simp [WKB, seval, e5]; done) | simp only [WKB, seval]))
                · rintro ⟨j, Y, ⟨f1, f2⟩, eD⟩ K hR2 hE hT
                  cases j with
                  | zero =>
                    have e6 : Go.Sort.shiftDown lt (k - 1) E = Y := eD.out.symm
                    rw [e6] at ePc
                    repeat' ((fail_if_success with_reducible refine hand_k (id := 18) ?_); (first | (with_reducible first | refine seq_k fun K hK hE hT => ?_ | refine block_k fun K hK hE hT => ?_ | refine lex_nil ?_ | fail) | ((with_reducible refine region_k ?_); simp only [dstsOf, EVB, seval]) | ((with_reducible refine draw_k ?_ fun D hD => ?_); (focus (first | rfl | kernel_rfl)); simp only [dstsOf, EVB, seval]) | ((with_reducible first | refine lex_move ?_ | refine lex_assign ?_); simp only [EVB, seval]) | (with_reducible first | refine lex_cons fun KS hKS => ?_ | refine lexd_cons fun KS hKS => ?_ | refine skip_k ?_ | refine exit_k ?_ | refine ret_k ?_ | fail) | ((with_reducible refine call_go ?_); fail) | ((with_reducible refine step_go ?_); (fail_if_success with_reducible refine call_go ?_); simp only [ENB, seval, tiAll, tiLS, tiL1, tiL2]) | ((with_reducible refine lexd_nil ?_ ?_); (focus (refine hD _ ?_; first | kernel_rfl | with_unfolding_all rfl)); clear hD; clear D) | ((with_reducible refine guard_go ?_); refine lex_gone rfl rfl ?_; simp only [EVB, seval]) | ((with_reducible refine guardd_go ?_); refine lexd_gone rfl rfl ?_; simp only [EVB, seval]) | ((first | ((with_reducible refine guard_go ?_); refine lex_guard rfl rfl (fun hg KS hKS => ?_) (fun hg => ?_)) | ((with_reducible refine guardd_go ?_); refine lexd_guard rfl rfl (fun hg KS hKS => ?_) (fun hg => ?_)) | ((with_reducible refine cond_go ?_); refine cond_k rfl (fun hg => ?_) (fun hg => ?_)) | (with_reducible refine And.intro (fun hg => ?_) (fun hg => ?_)) | fail) <;> first | ((with_reducible exfalso); exact absurd hg (by decide)) | ((try simp only [CNL] at hg) <;> first | ((with_reducible exfalso); omega) | ((with_reducible exfalso); first | exact tf (by assumption) hg | exact tf hg (by assumption)) | ((try with_reducible (have hT0 : True := hg; clear hT0 hg)); first | (with_reducible refine wpc_go ?_) | (try simp only [EVB, seval])))) | ((with_reducible refine hKS _ _ _ _ ?_); clear hKS; clear KS; simp only [EVB, seval]) | ((with_reducible refine And.intro ?_ ?_); focus (first | omega | exact u8_le _ | exact flat_intK _ | exact flat_bytK _ | (fail) | decide | (simp only [tiLS, tiL1, tiL2]; done))) | ((with_reducible refine ex_p ?_ (fun hh => ?_)); focus (first | omega | (simp only [tiLS, tiL1, tiL2]; omega))) | ((with_reducible refine hK _ _ _ ?_); clear hK hE hT; clear K) | ((with_reducible first | refine hE _ _ _ _ ?_ | refine hT _ _ _ ?_ | fail); (first | (clear hK hE hT; clear K) | (clear hR hE hT; clear K) | skip); try simp only [IFB, seval]) | ((with_reducible apply_assumption -symm -exfalso); try simp only [IFB, seval]) | fail))
                    by_cases h4 : b - k ≥ 2
                    · have eR4 := ePc
                      rw [if_pos h4] at eR4
                      (have gx := And.intro (@tiLS) (And.intro @tiL1 @tiL2); refine go ?_; (repeat' first | exact Ef.mk | apply Lf.mk | refine fun (K : KT) hK hE hT => ?_ | refine fun (KS : KE) hKS => ?_ | refine fun (D : KD) hD => ?_ | refine fun (hg : (_ : Prop)) => ?_ | fail); all_goals (first | (refine Wr.mk ?_; (try clear gx); repeat first | clear hK hE hT K | clear hR hE hT K) | assumption | skip))
                      refine loop_v (X := SuX lt Y b (k + 1) n) [] (fun x => [(10, .c (.v (.int .i64 ((x.j : Nat) : Int))))]) (fun x => [(0, some (.gh S (Φ x.E))), (1, some (.box 174 [.v LF, .v SF]))]) 2 (fun x => b + 1 - x.j) ⟨k + 1, Y, ⟨by omega, by omega, f2⟩, ⟨rfl⟩⟩ ?_
                      simp only [KPB, seval]
                      refine ⟨?_, ?_⟩
                      · (refine wk_a ?_; simp only [MAB, seval]; refine ⟨rfl, rfl, (by decide), ?_, ?_⟩; all_goals (first | (simp only [WKB, seval, true_and]; done) | (simp [WKB, seval, true_and]; done) | simp only [WKB, seval]))
                      · rintro ⟨j4, E4, ⟨f1, f2, f3⟩, e4⟩ K hR4 hE hT
                        by_cases hj4 : j4 < b
                        · (have gx := And.intro (@tiLS) (And.intro @tiL1 @tiL2); refine go ?_; (repeat' first | exact Ef.mk | apply Lf.mk | refine fun (K : KT) hK hE hT => ?_ | refine fun (KS : KE) hKS => ?_ | refine fun (D : KD) hD => ?_ | refine fun (hg : (_ : Prop)) => ?_ | fail); all_goals (first | (refine Wr.mk ?_; (try clear gx); repeat first | clear hK hE hT K | clear hR hE hT K) | assumption | skip))
                          refine less_k hC (d := E4) (i := j4) (j := j4 - 1) (f := 0) (by exact f3) (by omega) (by omega) ?_ ?_ rfl rfl rfl rfl (by decide) ?_
                          · omega
                          · omega
                          refine hKS _ _ _ _ ?_
                          clear hKS; clear KS; simp only [EVB, seval]
                          cases hl4 : lt E4[j4]! E4[j4 - 1]! with
                          | false =>
                            rw [← e4.out, su_no hl4] at eR4
                            (have gx := And.intro (@tiLS) (And.intro (@tiL1) (And.intro @tiL2 @hl4)); refine go ?_; (repeat' first | exact Ef.mk | apply Lf.mk | refine fun (K : KT) hK hE hT => ?_ | refine fun (KS : KE) hKS => ?_ | refine fun (D : KD) hD => ?_ | refine fun (hg : (_ : Prop)) => ?_ | fail); all_goals (first | (refine Wr.mk ?_; (try clear gx); repeat first | clear hK hE hT K | clear hR hE hT K) | assumption | skip))
                            refine hR0.out ⟨c + 1, k, E4, ⟨by omega, by omega, by omega, f3⟩, ⟨eR4⟩⟩ _ _ _ (by simp only; omega) ?_
                            (refine wk_a ?_; simp only [MAB, seval]; refine ⟨rfl, rfl, (by decide), ?_, ?_⟩; all_goals (first | (simp only [WKB, seval, true_and]; done) | (simp [WKB, seval, true_and]; done) | simp only [WKB, seval]))
                          | true =>
                            (have gx := And.intro (@tiLS) (And.intro (@tiL1) (And.intro @tiL2 @hl4)); refine go ?_; (repeat' first | exact Ef.mk | apply Lf.mk | refine fun (K : KT) hK hE hT => ?_ | refine fun (KS : KE) hKS => ?_ | refine fun (D : KD) hD => ?_ | refine fun (hg : (_ : Prop)) => ?_ | fail); all_goals (first | (refine Wr.mk ?_; (try clear gx); repeat first | clear hK hE hT K | clear hR hE hT K) | assumption | skip))
                            refine swap_k hC (d := E4) (i := j4) (j := j4 - 1) (f := 0) (by exact f3) (by omega) (by omega) ?_ ?_ rfl rfl rfl rfl (by decide) ?_
                            · omega
                            · omega
                            refine hKS _ _ _ _ ?_
                            clear hKS; clear KS; simp only [EVB, seval]
                            (have gx := And.intro (@tiLS) (And.intro @tiL1 @tiL2); refine go ?_; (repeat' first | exact Ef.mk | apply Lf.mk | refine fun (K : KT) hK hE hT => ?_ | refine fun (KS : KE) hKS => ?_ | refine fun (D : KD) hD => ?_ | refine fun (hg : (_ : Prop)) => ?_ | fail); all_goals (first | (refine Wr.mk ?_; (try clear gx); repeat first | clear hK hE hT K | clear hR hE hT K) | assumption | skip))
                            refine hR4.out ⟨j4 + 1, Go.Sort.swp E4 j4 (j4 - 1), ⟨by omega, by omega, by rw [Go.Sort.size_swp]; exact f3⟩, ⟨by rw [← e4.out]; exact (su_go hj4 hl4).symm⟩⟩ _ _ _ (by simp only; omega) ?_
                            (refine wk_a ?_; simp only [MAB, seval]; refine ⟨rfl, rfl, (by decide), ?_, ?_⟩; all_goals (first | (simp only [WKB, seval, true_and]; done) | (simp [WKB, seval, true_and]; done) | simp only [WKB, seval]))
                        · rw [← e4.out, su_end hj4] at eR4
                          (have gx := And.intro (@tiLS) (And.intro @tiL1 @tiL2); refine go ?_; (repeat' first | exact Ef.mk | apply Lf.mk | refine fun (K : KT) hK hE hT => ?_ | refine fun (KS : KE) hKS => ?_ | refine fun (D : KD) hD => ?_ | refine fun (hg : (_ : Prop)) => ?_ | fail); all_goals (first | (refine Wr.mk ?_; (try clear gx); repeat first | clear hK hE hT K | clear hR hE hT K) | assumption | skip))
                          refine hR0.out ⟨c + 1, k, E4, ⟨by omega, by omega, by omega, f3⟩, ⟨eR4⟩⟩ _ _ _ (by simp only; omega) ?_
                          (refine wk_a ?_; simp only [MAB, seval]; refine ⟨rfl, rfl, (by decide), ?_, ?_⟩; all_goals (first | (simp only [WKB, seval, true_and]; done) | (simp [WKB, seval, true_and]; done) | simp only [WKB, seval]))
                    · first
                        | (exfalso; omega)
                        | (have eR4 := ePc
                           rw [if_neg h4] at eR4
                           (have gx := And.intro (@tiLS) (And.intro @tiL1 @tiL2); refine go ?_; (repeat' first | exact Ef.mk | apply Lf.mk | refine fun (K : KT) hK hE hT => ?_ | refine fun (KS : KE) hKS => ?_ | refine fun (D : KD) hD => ?_ | refine fun (hg : (_ : Prop)) => ?_ | fail); all_goals (first | (refine Wr.mk ?_; (try clear gx); repeat first | clear hK hE hT K | clear hR hE hT K) | assumption | skip))
                           refine hR0.out ⟨c + 1, k, Y, ⟨by omega, by omega, by omega, f2⟩, ⟨eR4⟩⟩ _ _ _ (by simp only; omega) ?_
                           (refine wk_a ?_; simp only [MAB, seval]; refine ⟨rfl, rfl, (by decide), ?_, ?_⟩; all_goals (first | (simp only [WKB, seval, true_and]; done) | (simp [WKB, seval, true_and]; done) | simp only [WKB, seval])))
                  | succ m =>
                    (have gx := And.intro (@tiLS) (And.intro @tiL1 @tiL2); refine go ?_; (repeat' first | exact Ef.mk | apply Lf.mk | refine fun (K : KT) hK hE hT => ?_ | refine fun (KS : KE) hKS => ?_ | refine fun (D : KD) hD => ?_ | refine fun (hg : (_ : Prop)) => ?_ | fail); all_goals (first | (refine Wr.mk ?_; (try clear gx); repeat first | clear hK hE hT K | clear hR hE hT K) | assumption | skip))
                    refine less_k hC (d := Y) (i := m + 1) (j := m) (f := 0) (by exact f2) (by omega) (by omega) ?_ ?_ rfl rfl rfl rfl (by decide) ?_
                    · omega
                    · omega
                    refine hKS _ _ _ _ ?_
                    clear hKS; clear KS; simp only [EVB, seval]
                    cases hm : lt Y[m + 1]! Y[m]! with
                    | false =>
                      have e6 : Go.Sort.shiftDown lt (k - 1) E = Y := by rw [← eD.out, sd_no hm]
                      rw [e6] at ePc
                      repeat' ((fail_if_success with_reducible refine hand_k (id := 18) ?_); (first | (with_reducible first | refine seq_k fun K hK hE hT => ?_ | refine block_k fun K hK hE hT => ?_ | refine lex_nil ?_ | fail) | ((with_reducible refine region_k ?_); simp only [dstsOf, EVB, seval]) | ((with_reducible refine draw_k ?_ fun D hD => ?_); (focus (first | rfl | kernel_rfl)); simp only [dstsOf, EVB, seval]) | ((with_reducible first | refine lex_move ?_ | refine lex_assign ?_); simp only [EVB, seval]) | (with_reducible first | refine lex_cons fun KS hKS => ?_ | refine lexd_cons fun KS hKS => ?_ | refine skip_k ?_ | refine exit_k ?_ | refine ret_k ?_ | fail) | ((with_reducible refine call_go ?_); fail) | ((with_reducible refine step_go ?_); (fail_if_success with_reducible refine call_go ?_); simp only [ENB, seval, tiAll, tiLS, tiL1, tiL2, hm]) | ((with_reducible refine lexd_nil ?_ ?_); (focus (refine hD _ ?_; first | kernel_rfl | with_unfolding_all rfl)); clear hD; clear D) | ((with_reducible refine guard_go ?_); refine lex_gone rfl rfl ?_; simp only [EVB, seval]) | ((with_reducible refine guardd_go ?_); refine lexd_gone rfl rfl ?_; simp only [EVB, seval]) | ((first | ((with_reducible refine guard_go ?_); refine lex_guard rfl rfl (fun hg KS hKS => ?_) (fun hg => ?_)) | ((with_reducible refine guardd_go ?_); refine lexd_guard rfl rfl (fun hg KS hKS => ?_) (fun hg => ?_)) | ((with_reducible refine cond_go ?_); refine cond_k rfl (fun hg => ?_) (fun hg => ?_)) | (with_reducible refine And.intro (fun hg => ?_) (fun hg => ?_)) | fail) <;> first | ((with_reducible exfalso); exact absurd hg (by decide)) | ((try simp only [CNL] at hg) <;> first | ((with_reducible exfalso); omega) | ((with_reducible exfalso); first | exact tf (by assumption) hg | exact tf hg (by assumption)) | ((try with_reducible (have hT0 : True := hg; clear hT0 hg)); first | (with_reducible refine wpc_go ?_) | (try simp only [EVB, seval])))) | ((with_reducible refine hKS _ _ _ _ ?_); clear hKS; clear KS; simp only [EVB, seval]) | ((with_reducible refine And.intro ?_ ?_); focus (first | omega | exact u8_le _ | exact flat_intK _ | exact flat_bytK _ | (fail) | decide | (simp only [tiLS, tiL1, tiL2, hm]; done))) | ((with_reducible refine ex_p ?_ (fun hh => ?_)); focus (first | omega | (simp only [tiLS, tiL1, tiL2, hm]; omega))) | ((with_reducible refine hK _ _ _ ?_); clear hK hE hT; clear K) | ((with_reducible first | refine hE _ _ _ _ ?_ | refine hT _ _ _ ?_ | fail); (first | (clear hK hE hT; clear K) | (clear hR hE hT; clear K) | skip); try simp only [IFB, seval]) | ((with_reducible apply_assumption -symm -exfalso); try simp only [IFB, seval]) | fail))
                      by_cases h4 : b - k ≥ 2
                      · have eR4 := ePc
                        rw [if_pos h4] at eR4
                        (have gx := And.intro (@tiLS) (And.intro @tiL1 @tiL2); refine go ?_; (repeat' first | exact Ef.mk | apply Lf.mk | refine fun (K : KT) hK hE hT => ?_ | refine fun (KS : KE) hKS => ?_ | refine fun (D : KD) hD => ?_ | refine fun (hg : (_ : Prop)) => ?_ | fail); all_goals (first | (refine Wr.mk ?_; (try clear gx); repeat first | clear hK hE hT K | clear hR hE hT K) | assumption | skip))
                        refine loop_v (X := SuX lt Y b (k + 1) n) [] (fun x => [(10, .c (.v (.int .i64 ((x.j : Nat) : Int))))]) (fun x => [(0, some (.gh S (Φ x.E))), (1, some (.box 174 [.v LF, .v SF]))]) 2 (fun x => b + 1 - x.j) ⟨k + 1, Y, ⟨by omega, by omega, f2⟩, ⟨rfl⟩⟩ ?_
                        simp only [KPB, seval]
                        refine ⟨?_, ?_⟩
                        · (refine wk_a ?_; simp only [MAB, seval]; refine ⟨rfl, rfl, (by decide), ?_, ?_⟩; all_goals (first | (simp only [WKB, seval, true_and]; done) | (simp [WKB, seval, true_and]; done) | simp only [WKB, seval]))
                        · rintro ⟨j4, E4, ⟨f1, f2, f3⟩, e4⟩ K hR4 hE hT
                          by_cases hj4 : j4 < b
                          · (have gx := And.intro (@tiLS) (And.intro @tiL1 @tiL2); refine go ?_; (repeat' first | exact Ef.mk | apply Lf.mk | refine fun (K : KT) hK hE hT => ?_ | refine fun (KS : KE) hKS => ?_ | refine fun (D : KD) hD => ?_ | refine fun (hg : (_ : Prop)) => ?_ | fail); all_goals (first | (refine Wr.mk ?_; (try clear gx); repeat first | clear hK hE hT K | clear hR hE hT K) | assumption | skip))
                            refine less_k hC (d := E4) (i := j4) (j := j4 - 1) (f := 0) (by exact f3) (by omega) (by omega) ?_ ?_ rfl rfl rfl rfl (by decide) ?_
                            · omega
                            · omega
                            refine hKS _ _ _ _ ?_
                            clear hKS; clear KS; simp only [EVB, seval]
                            cases hl4 : lt E4[j4]! E4[j4 - 1]! with
                            | false =>
                              rw [← e4.out, su_no hl4] at eR4
                              (have gx := And.intro (@tiLS) (And.intro (@tiL1) (And.intro @tiL2 @hl4)); refine go ?_; (repeat' first | exact Ef.mk | apply Lf.mk | refine fun (K : KT) hK hE hT => ?_ | refine fun (KS : KE) hKS => ?_ | refine fun (D : KD) hD => ?_ | refine fun (hg : (_ : Prop)) => ?_ | fail); all_goals (first | (refine Wr.mk ?_; (try clear gx); repeat first | clear hK hE hT K | clear hR hE hT K) | assumption | skip))
                              refine hR0.out ⟨c + 1, k, E4, ⟨by omega, by omega, by omega, f3⟩, ⟨eR4⟩⟩ _ _ _ (by simp only; omega) ?_
                              (refine wk_a ?_; simp only [MAB, seval]; refine ⟨rfl, rfl, (by decide), ?_, ?_⟩; all_goals (first | (simp only [WKB, seval, true_and]; done) | (simp [WKB, seval, true_and]; done) | simp only [WKB, seval]))
                            | true =>
                              (have gx := And.intro (@tiLS) (And.intro (@tiL1) (And.intro @tiL2 @hl4)); refine go ?_; (repeat' first | exact Ef.mk | apply Lf.mk | refine fun (K : KT) hK hE hT => ?_ | refine fun (KS : KE) hKS => ?_ | refine fun (D : KD) hD => ?_ | refine fun (hg : (_ : Prop)) => ?_ | fail); all_goals (first | (refine Wr.mk ?_; (try clear gx); repeat first | clear hK hE hT K | clear hR hE hT K) | assumption | skip))
                              refine swap_k hC (d := E4) (i := j4) (j := j4 - 1) (f := 0) (by exact f3) (by omega) (by omega) ?_ ?_ rfl rfl rfl rfl (by decide) ?_
                              · omega
                              · omega
                              refine hKS _ _ _ _ ?_
                              clear hKS; clear KS; simp only [EVB, seval]
                              (have gx := And.intro (@tiLS) (And.intro @tiL1 @tiL2); refine go ?_; (repeat' first | exact Ef.mk | apply Lf.mk | refine fun (K : KT) hK hE hT => ?_ | refine fun (KS : KE) hKS => ?_ | refine fun (D : KD) hD => ?_ | refine fun (hg : (_ : Prop)) => ?_ | fail); all_goals (first | (refine Wr.mk ?_; (try clear gx); repeat first | clear hK hE hT K | clear hR hE hT K) | assumption | skip))
                              refine hR4.out ⟨j4 + 1, Go.Sort.swp E4 j4 (j4 - 1), ⟨by omega, by omega, by rw [Go.Sort.size_swp]; exact f3⟩, ⟨by rw [← e4.out]; exact (su_go hj4 hl4).symm⟩⟩ _ _ _ (by simp only; omega) ?_
                              (refine wk_a ?_; simp only [MAB, seval]; refine ⟨rfl, rfl, (by decide), ?_, ?_⟩; all_goals (first | (simp only [WKB, seval, true_and]; done) | (simp [WKB, seval, true_and]; done) | simp only [WKB, seval]))
                          · rw [← e4.out, su_end hj4] at eR4
                            (have gx := And.intro (@tiLS) (And.intro @tiL1 @tiL2); refine go ?_; (repeat' first | exact Ef.mk | apply Lf.mk | refine fun (K : KT) hK hE hT => ?_ | refine fun (KS : KE) hKS => ?_ | refine fun (D : KD) hD => ?_ | refine fun (hg : (_ : Prop)) => ?_ | fail); all_goals (first | (refine Wr.mk ?_; (try clear gx); repeat first | clear hK hE hT K | clear hR hE hT K) | assumption | skip))
                            refine hR0.out ⟨c + 1, k, E4, ⟨by omega, by omega, by omega, f3⟩, ⟨eR4⟩⟩ _ _ _ (by simp only; omega) ?_
                            (refine wk_a ?_; simp only [MAB, seval]; refine ⟨rfl, rfl, (by decide), ?_, ?_⟩; all_goals (first | (simp only [WKB, seval, true_and]; done) | (simp [WKB, seval, true_and]; done) | simp only [WKB, seval]))
                      · first
                          | (exfalso; omega)
                          | (have eR4 := ePc
                             rw [if_neg h4] at eR4
                             (have gx := And.intro (@tiLS) (And.intro @tiL1 @tiL2); refine go ?_; (repeat' first | exact Ef.mk | apply Lf.mk | refine fun (K : KT) hK hE hT => ?_ | refine fun (KS : KE) hKS => ?_ | refine fun (D : KD) hD => ?_ | refine fun (hg : (_ : Prop)) => ?_ | fail); all_goals (first | (refine Wr.mk ?_; (try clear gx); repeat first | clear hK hE hT K | clear hR hE hT K) | assumption | skip))
                             refine hR0.out ⟨c + 1, k, Y, ⟨by omega, by omega, by omega, f2⟩, ⟨eR4⟩⟩ _ _ _ (by simp only; omega) ?_
                             (refine wk_a ?_; simp only [MAB, seval]; refine ⟨rfl, rfl, (by decide), ?_, ?_⟩; all_goals (first | (simp only [WKB, seval, true_and]; done) | (simp [WKB, seval, true_and]; done) | simp only [WKB, seval])))
                    | true =>
                      have e7 : ((m + 1 : Nat) : Int) - 1 = (m : Int) := by omega
                      (have gx := And.intro (@tiLS) (And.intro (@tiL1) (And.intro @tiL2 @hm)); refine go ?_; (repeat' first | exact Ef.mk | apply Lf.mk | refine fun (K : KT) hK hE hT => ?_ | refine fun (KS : KE) hKS => ?_ | refine fun (D : KD) hD => ?_ | refine fun (hg : (_ : Prop)) => ?_ | fail); all_goals (first | (refine Wr.mk ?_; (try clear gx); repeat first | clear hK hE hT K | clear hR hE hT K) | assumption | skip))
                      refine swap_k hC (d := Y) (i := m + 1) (j := m) (f := 0) (by exact f2) (by omega) (by omega) ?_ ?_ rfl rfl rfl rfl (by decide) ?_
                      · omega
                      · omega
                      refine hKS _ _ _ _ ?_
                      clear hKS; clear KS; simp only [EVB, seval]
                      (have gx := And.intro (@tiLS) (And.intro @tiL1 @tiL2); refine go ?_; (repeat' first | exact Ef.mk | apply Lf.mk | refine fun (K : KT) hK hE hT => ?_ | refine fun (KS : KE) hKS => ?_ | refine fun (D : KD) hD => ?_ | refine fun (hg : (_ : Prop)) => ?_ | fail); all_goals (first | (refine Wr.mk ?_; (try clear gx); repeat first | clear hK hE hT K | clear hR hE hT K) | assumption | skip))
                      refine hR2.out ⟨m, Go.Sort.swp Y (m + 1) m, ⟨by omega, by rw [Go.Sort.size_swp]; exact f2⟩, ⟨by rw [← eD.out]; exact (sd_go hm).symm⟩⟩ _ _ _ (by simp only; omega) ?_
                      (refine wk_a ?_; simp only [MAB, seval]; refine ⟨rfl, rfl, (by decide), ?_, ?_⟩; all_goals (first | (simp only [WKB, seval, e7]; done) | (simp [WKB, seval, e7]; done) | simp only [WKB, seval]))
end

end Go.Proofs.Ytfnhchcgieeedaa
