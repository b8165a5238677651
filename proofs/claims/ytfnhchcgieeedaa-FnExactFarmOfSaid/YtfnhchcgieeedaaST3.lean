/-
  The library's heap sort, by any comparison. No conditions of its own.
-/
import Derived.Test.YtfnhchcgieeedaaGO
import Derived.Test.YtfnhchcgieeedaaST2
namespace Go.Proofs.Ytfnhchcgieeedaa
set_option linter.unusedSimpArgs false
set_option linter.unusedVariables false
set_option linter.unusedSimpArgs false
set_option linter.unusedVariables false
set_option linter.defProp false
set_option maxRecDepth 20000
open Go.RowKit

section
variable {α : Type} [Inhabited α] {lt : α → α → Bool} {S : List Nat} {Φ : Array α → World → Prop} {LF SF : Value} {n : Nat}

theorem sift_end {hi first root : Nat} {d : Array α} (h : 2 * root + 1 ≥ hi) : Go.Sort.siftDown lt hi first root d = d := by rw [Go.Sort.siftDown, dif_pos h]
theorem sift_r {hi first root : Nat} {d : Array α} (h : ¬ 2 * root + 1 ≥ hi) (h1 : 2 * root + 2 < hi) (h2 : lt d[first + (2 * root + 1)]! d[first + (2 * root + 2)]! = true) :
    Go.Sort.siftDown lt hi first root d = if lt d[first + root]! d[first + (2 * root + 2)]! = false then d else Go.Sort.siftDown lt hi first (2 * root + 2) (Go.Sort.swp d (first + root) (first + (2 * root + 2))) := by
  have h2' : lt d[first + (2 * root + 1)]! d[first + (2 * root + 1) + 1]! = true := h2
  rw [Go.Sort.siftDown, dif_neg h, if_pos (by rw [h2']; simp; omega)]
  cases lt d[first + root]! d[first + (2 * root + 2)]! with
  | false => simp
  | true => simp [h1]
theorem sift_l {hi first root : Nat} {d : Array α} (h : ¬ 2 * root + 1 ≥ hi) (h1 : 2 * root + 2 < hi → lt d[first + (2 * root + 1)]! d[first + (2 * root + 2)]! = false) :
    Go.Sort.siftDown lt hi first root d = if lt d[first + root]! d[first + (2 * root + 1)]! = false then d else Go.Sort.siftDown lt hi first (2 * root + 1) (Go.Sort.swp d (first + root) (first + (2 * root + 1))) := by
  have h2 : ¬ ((decide (2 * root + 1 + 1 < hi) && lt d[first + (2 * root + 1)]! d[first + (2 * root + 1) + 1]!) = true) := fun e => by
    simp only [Bool.and_eq_true, decide_eq_true_eq] at e
    have h3 : lt d[first + (2 * root + 1)]! d[first + (2 * root + 1) + 1]! = false := h1 (by omega)
    rw [h3] at e; exact absurd e.2 (by decide)
  rw [Go.Sort.siftDown, dif_neg h, if_neg h2]
  cases lt d[first + root]! d[first + (2 * root + 1)]! <;> simp
theorem size_sift (lt : α → α → Bool) (hi first : Nat) : ∀ (m root : Nat) (d : Array α), hi - root ≤ m → (Go.Sort.siftDown lt hi first root d).size = d.size
  | 0, root, d, h => by rw [sift_end (by omega)]
  | m + 1, root, d, h => by
    by_cases h0 : 2 * root + 1 ≥ hi
    · rw [sift_end h0]
    · by_cases h1 : 2 * root + 2 < hi ∧ lt d[first + (2 * root + 1)]! d[first + (2 * root + 2)]! = true
      · rw [sift_r h0 h1.1 h1.2]
        split
        · rfl
        · rw [size_sift lt hi first m _ _ (by omega), Go.Sort.size_swp]
      · rw [sift_l h0 (fun h2 => by
          cases h3 : lt d[first + (2 * root + 1)]! d[first + (2 * root + 2)]! with
          | false => rfl
          | true => exact absurd ⟨h2, h3⟩ h1)]
        split
        · rfl
        · rw [size_sift lt hi first m _ _ (by omega), Go.Sort.size_swp]

structure SifX (lt : α → α → Bool) (d : Array α) (lo hi first n : Nat) where
  r : Nat
  D : Array α
  h : r ≤ n ∧ D.size = n
  e : Rnd (Go.Sort.siftDown lt hi first r D = Go.Sort.siftDown lt hi first lo d)

set_option maxHeartbeats 8000000 in
theorem siftDown_k (hC : SrtC Try.prog lt S Φ LF SF n) (d : Array α) (hd : d.size = n) (lo hi first : Nat) (hlo : lo ≤ n) (hhi : first + hi ≤ n) (hn : n ≤ 1099511627) :
    FnOK Try.prog 160 ⟨1, [(0, some (.gh S (Φ d)))], [.agg [.v LF, .v SF], .c (.v (.int .i64 (lo : Int))), .c (.v (.int .i64 (hi : Int))), .c (.v (.int .i64 (first : Int)))], .tup [], [(0, some (.gh S (Φ (Go.Sort.siftDown lt hi first lo d))))], 1⟩ := by
  have o1 := hC.one1
  have o2 := hC.one2
  refine fnOK_of true mixed Try.func160 rfl (by rfl) (by rfl) ?_
  have hres := congrArg Array.toList Try.results160
  simp only [Try.ntmps160, BGB, seval]
  (have gx := And.intro (@tiLS) (And.intro (@tiL1) (And.intro (@tiL2) (And.intro @o1 @o2))); refine go ?_; (repeat' first | exact Ef.mk | apply Lf.mk | refine fun (K : KT) hK hE hT => ?_ | refine fun (KS : KE) hKS => ?_ | refine fun (D : KD) hD => ?_ | refine fun (hg : (_ : Prop)) => ?_ | fail); all_goals (first | (refine Wr.mk ?_; (try clear gx); repeat first | clear hK hE hT K | clear hR hE hT K) | assumption | skip))
  refine loop_v (X := SifX lt d lo hi first n) [] (fun x => [(8, .c (.v (.int .i64 ((x.r : Nat) : Int))))]) (fun x => [(0, some (.gh S (Φ x.D))), (1, some (.box 174 [.v LF, .v SF]))]) 2 (fun x => hi - x.r) ⟨lo, d, by omega, ⟨rfl⟩⟩ ?_
  simp only [KPB, seval]
  refine ⟨?_, ?_⟩
  · (refine wk_a ?_; simp only [MAB, seval]; refine ⟨rfl, rfl, (by decide), ?_, ?_⟩; all_goals (first | (simp only [WKB, seval, true_and]; done) | (simp [WKB, seval, true_and]; done) | simp only [WKB, seval]))
  · rintro ⟨r, D, ⟨g1, g2⟩, e⟩ K hR hE hT
    by_cases h0 : 2 * r + 1 ≥ hi
    case pos =>
      have e1 : Go.Sort.siftDown lt hi first lo d = D := by rw [← e.out, sift_end h0]
      (have gx := And.intro (@tiLS) (And.intro @tiL1 @tiL2); refine go ?_; (repeat' first | exact Ef.mk | apply Lf.mk | refine fun (K : KT) hK hE hT => ?_ | refine fun (KS : KE) hKS => ?_ | refine fun (D : KD) hD => ?_ | refine fun (hg : (_ : Prop)) => ?_ | fail); all_goals (first | (refine Wr.mk ?_; (try clear gx); repeat first | clear hK hE hT K | clear hR hE hT K) | assumption | skip))
      (refine post_a hres (by first | exact .inl rfl | exact .inr rfl) ?_; simp only [RSB, ENB, seval, tiAll, e1]; simp only [MAB, seval]; refine ⟨rfl, rfl, ?_, ?_, ?_⟩ <;> (first | rfl | (simp [WKB, Nat.add_comm, e1]; done) | (simp only [WKB, seval])))
    case neg =>
      by_cases h1 : 2 * r + 2 < hi
      case pos =>
        (have gx := And.intro (@tiLS) (And.intro @tiL1 @tiL2); refine go ?_; (repeat' first | exact Ef.mk | apply Lf.mk | refine fun (K : KT) hK hE hT => ?_ | refine fun (KS : KE) hKS => ?_ | refine fun (D : KD) hD => ?_ | refine fun (hg : (_ : Prop)) => ?_ | fail); all_goals (first | (refine Wr.mk ?_; (try clear gx); repeat first | clear hK hE hT K | clear hR hE hT K) | assumption | skip))
        refine less_k hC (d := D) (i := first + (2 * r + 1)) (j := first + (2 * r + 2)) (f := 0) (by exact g2) (by omega) (by omega) ?_ ?_ rfl rfl rfl rfl (by decide) ?_
        · omega
        · omega
        refine hKS _ _ _ _ ?_
        clear hKS; clear KS; simp only [EVB, seval]
        cases hl : lt D[first + (2 * r + 1)]! D[first + (2 * r + 2)]! with
        | true =>
          have e1 := e.out
          rw [sift_r h0 h1 hl] at e1
          (have gx := And.intro (@tiLS) (And.intro (@tiL1) (And.intro @tiL2 @hl)); refine go ?_; (repeat' first | exact Ef.mk | apply Lf.mk | refine fun (K : KT) hK hE hT => ?_ | refine fun (KS : KE) hKS => ?_ | refine fun (D : KD) hD => ?_ | refine fun (hg : (_ : Prop)) => ?_ | fail); all_goals (first | (refine Wr.mk ?_; (try clear gx); repeat first | clear hK hE hT K | clear hR hE hT K) | assumption | skip))
          refine less_k hC (d := D) (i := first + r) (j := first + (2 * r + 2)) (f := 0) (by exact g2) (by omega) (by omega) ?_ ?_ rfl rfl rfl rfl (by decide) ?_
          · omega
          · omega
          refine hKS _ _ _ _ ?_
          clear hKS; clear KS; simp only [EVB, seval]
          cases hm : lt D[first + r]! D[first + (2 * r + 2)]! with
          | false =>
            rw [if_pos hm] at e1
            (have gx := And.intro (@tiLS) (And.intro (@tiL1) (And.intro @tiL2 @hm)); refine go ?_; (repeat' first | exact Ef.mk | apply Lf.mk | refine fun (K : KT) hK hE hT => ?_ | refine fun (KS : KE) hKS => ?_ | refine fun (D : KD) hD => ?_ | refine fun (hg : (_ : Prop)) => ?_ | fail); all_goals (first | (refine Wr.mk ?_; (try clear gx); repeat first | clear hK hE hT K | clear hR hE hT K) | assumption | skip))
            (refine post_a hres (by first | exact .inl rfl | exact .inr rfl) ?_; simp only [RSB, ENB, seval, tiAll, ← e1]; simp only [MAB, seval]; refine ⟨rfl, rfl, ?_, ?_, ?_⟩ <;> (first | rfl | (simp [WKB, Nat.add_comm, ← e1]; done) | (simp only [WKB, seval])))
          | true =>
            rw [if_neg (by rw [hm]; decide)] at e1
            (have gx := And.intro (@tiLS) (And.intro (@tiL1) (And.intro @tiL2 @hm)); refine go ?_; (repeat' first | exact Ef.mk | apply Lf.mk | refine fun (K : KT) hK hE hT => ?_ | refine fun (KS : KE) hKS => ?_ | refine fun (D : KD) hD => ?_ | refine fun (hg : (_ : Prop)) => ?_ | fail); all_goals (first | (refine Wr.mk ?_; (try clear gx); repeat first | clear hK hE hT K | clear hR hE hT K) | assumption | skip))
            refine swap_k hC (d := D) (i := first + r) (j := first + (2 * r + 2)) (f := 0) (by exact g2) (by omega) (by omega) ?_ ?_ rfl rfl rfl rfl (by decide) ?_
            · omega
            · omega
            refine hKS _ _ _ _ ?_
            clear hKS; clear KS; simp only [EVB, seval]
            (have gx := And.intro (@tiLS) (And.intro @tiL1 @tiL2); refine go ?_; (repeat' first | exact Ef.mk | apply Lf.mk | refine fun (K : KT) hK hE hT => ?_ | refine fun (KS : KE) hKS => ?_ | refine fun (D : KD) hD => ?_ | refine fun (hg : (_ : Prop)) => ?_ | fail); all_goals (first | (refine Wr.mk ?_; (try clear gx); repeat first | clear hK hE hT K | clear hR hE hT K) | assumption | skip))
            refine hR.out ⟨2 * r + 2, _, ⟨by omega, by rw [Go.Sort.size_swp]; exact g2⟩, ⟨e1⟩⟩ _ _ _ (by simp only; omega) ?_
            have e5 : (2 : Int) * (r : Int) + 1 + 1 = ((2 * r + 2 : Nat) : Int) := by omega
            (refine wk_a ?_; simp only [MAB, seval]; refine ⟨rfl, rfl, (by decide), ?_, ?_⟩; all_goals (first | (simp only [WKB, seval, e5]; done) | (simp [WKB, seval, e5]; done) | simp only [WKB, seval]))
        | false =>
          have e1 := e.out
          rw [sift_l h0 fun _ => hl] at e1
          (have gx := And.intro (@tiLS) (And.intro (@tiL1) (And.intro @tiL2 @hl)); refine go ?_; (repeat' first | exact Ef.mk | apply Lf.mk | refine fun (K : KT) hK hE hT => ?_ | refine fun (KS : KE) hKS => ?_ | refine fun (D : KD) hD => ?_ | refine fun (hg : (_ : Prop)) => ?_ | fail); all_goals (first | (refine Wr.mk ?_; (try clear gx); repeat first | clear hK hE hT K | clear hR hE hT K) | assumption | skip))
          refine less_k hC (d := D) (i := first + r) (j := first + (2 * r + 1)) (f := 0) (by exact g2) (by omega) (by omega) ?_ ?_ rfl rfl rfl rfl (by decide) ?_
          · omega
          · omega
          refine hKS _ _ _ _ ?_
          clear hKS; clear KS; simp only [EVB, seval]
          cases hm : lt D[first + r]! D[first + (2 * r + 1)]! with
          | false =>
            rw [if_pos hm] at e1
            (have gx := And.intro (@tiLS) (And.intro (@tiL1) (And.intro @tiL2 @hm)); refine go ?_; (repeat' first | exact Ef.mk | apply Lf.mk | refine fun (K : KT) hK hE hT => ?_ | refine fun (KS : KE) hKS => ?_ | refine fun (D : KD) hD => ?_ | refine fun (hg : (_ : Prop)) => ?_ | fail); all_goals (first | (refine Wr.mk ?_; (try clear gx); repeat first | clear hK hE hT K | clear hR hE hT K) | assumption | skip))
            (refine post_a hres (by first | exact .inl rfl | exact .inr rfl) ?_; simp only [RSB, ENB, seval, tiAll, ← e1]; simp only [MAB, seval]; refine ⟨rfl, rfl, ?_, ?_, ?_⟩ <;> (first | rfl | (simp [WKB, Nat.add_comm, ← e1]; done) | (simp only [WKB, seval])))
          | true =>
            rw [if_neg (by rw [hm]; decide)] at e1
            (have gx := And.intro (@tiLS) (And.intro (@tiL1) (And.intro @tiL2 @hm)); refine go ?_; (repeat' first | exact Ef.mk | apply Lf.mk | refine fun (K : KT) hK hE hT => ?_ | refine fun (KS : KE) hKS => ?_ | refine fun (D : KD) hD => ?_ | refine fun (hg : (_ : Prop)) => ?_ | fail); all_goals (first | (refine Wr.mk ?_; (try clear gx); repeat first | clear hK hE hT K | clear hR hE hT K) | assumption | skip))
            refine swap_k hC (d := D) (i := first + r) (j := first + (2 * r + 1)) (f := 0) (by exact g2) (by omega) (by omega) ?_ ?_ rfl rfl rfl rfl (by decide) ?_
            · omega
            · omega
            refine hKS _ _ _ _ ?_
            clear hKS; clear KS; simp only [EVB, seval]
            (have gx := And.intro (@tiLS) (And.intro @tiL1 @tiL2); refine go ?_; (repeat' first | exact Ef.mk | apply Lf.mk | refine fun (K : KT) hK hE hT => ?_ | refine fun (KS : KE) hKS => ?_ | refine fun (D : KD) hD => ?_ | refine fun (hg : (_ : Prop)) => ?_ | fail); all_goals (first | (refine Wr.mk ?_; (try clear gx); repeat first | clear hK hE hT K | clear hR hE hT K) | assumption | skip))
            refine hR.out ⟨2 * r + 1, _, ⟨by omega, by rw [Go.Sort.size_swp]; exact g2⟩, ⟨e1⟩⟩ _ _ _ (by simp only; omega) ?_
            have e5 : (2 : Int) * (r : Int) + 1 = ((2 * r + 1 : Nat) : Int) := by omega
            (refine wk_a ?_; simp only [MAB, seval]; refine ⟨rfl, rfl, (by decide), ?_, ?_⟩; all_goals (first | (simp only [WKB, seval, e5]; done) | (simp [WKB, seval, e5]; done) | simp only [WKB, seval]))
      case neg =>
        have e1 := e.out
        rw [sift_l h0 fun h => absurd h h1] at e1
        (have gx := And.intro (@tiLS) (And.intro @tiL1 @tiL2); refine go ?_; (repeat' first | exact Ef.mk | apply Lf.mk | refine fun (K : KT) hK hE hT => ?_ | refine fun (KS : KE) hKS => ?_ | refine fun (D : KD) hD => ?_ | refine fun (hg : (_ : Prop)) => ?_ | fail); all_goals (first | (refine Wr.mk ?_; (try clear gx); repeat first | clear hK hE hT K | clear hR hE hT K) | assumption | skip))
        refine less_k hC (d := D) (i := first + r) (j := first + (2 * r + 1)) (f := 0) (by exact g2) (by omega) (by omega) ?_ ?_ rfl rfl rfl rfl (by decide) ?_
        · omega
        · omega
        refine hKS _ _ _ _ ?_
        clear hKS; clear KS; simp only [EVB, seval]
        cases hm : lt D[first + r]! D[first + (2 * r + 1)]! with
        | false =>
          rw [if_pos hm] at e1
          (have gx := And.intro (@tiLS) (And.intro (@tiL1) (And.intro @tiL2 @hm)); refine go ?_; (repeat' first | exact Ef.mk | apply Lf.mk | refine fun (K : KT) hK hE hT => ?_ | refine fun (KS : KE) hKS => ?_ | refine fun (D : KD) hD => ?_ | refine fun (hg : (_ : Prop)) => ?_ | fail); all_goals (first | (refine Wr.mk ?_; (try clear gx); repeat first | clear hK hE hT K | clear hR hE hT K) | assumption | skip))
          (refine post_a hres (by first | exact .inl rfl | exact .inr rfl) ?_; simp only [RSB, ENB, seval, tiAll, ← e1]; simp only [MAB, seval]; refine ⟨rfl, rfl, ?_, ?_, ?_⟩ <;> (first | rfl | (simp [WKB, Nat.add_comm, ← e1]; done) | (simp only [WKB, seval])))
        | true =>
          rw [if_neg (by rw [hm]; decide)] at e1
          (have gx := And.intro (@tiLS) (And.intro (@tiL1) (And.intro @tiL2 @hm)); refine go ?_; (repeat' first | exact Ef.mk | apply Lf.mk | refine fun (K : KT) hK hE hT => ?_ | refine fun (KS : KE) hKS => ?_ | refine fun (D : KD) hD => ?_ | refine fun (hg : (_ : Prop)) => ?_ | fail); all_goals (first | (refine Wr.mk ?_; (try clear gx); repeat first | clear hK hE hT K | clear hR hE hT K) | assumption | skip))
          refine swap_k hC (d := D) (i := first + r) (j := first + (2 * r + 1)) (f := 0) (by exact g2) (by omega) (by omega) ?_ ?_ rfl rfl rfl rfl (by decide) ?_
          · omega
          · omega
          refine hKS _ _ _ _ ?_
          clear hKS; clear KS; simp only [EVB, seval]
          (have gx := And.intro (@tiLS) (And.intro @tiL1 @tiL2); refine go ?_; (repeat' first | exact Ef.mk | apply Lf.mk | refine fun (K : KT) hK hE hT => ?_ | refine fun (KS : KE) hKS => ?_ | refine fun (D : KD) hD => ?_ | refine fun (hg : (_ : Prop)) => ?_ | fail); all_goals (first | (refine Wr.mk ?_; (try clear gx); repeat first | clear hK hE hT K | clear hR hE hT K) | assumption | skip))
          refine hR.out ⟨2 * r + 1, _, ⟨by omega, by rw [Go.Sort.size_swp]; exact g2⟩, ⟨e1⟩⟩ _ _ _ (by simp only; omega) ?_
          have e5 : (2 : Int) * (r : Int) + 1 = ((2 * r + 1 : Nat) : Int) := by omega
          (refine wk_a ?_; simp only [MAB, seval]; refine ⟨rfl, rfl, (by decide), ?_, ?_⟩; all_goals (first | (simp only [WKB, seval, e5]; done) | (simp [WKB, seval, e5]; done) | simp only [WKB, seval]))

structure HbX (lt : α → α → Bool) (d : Array α) (hi first k0 n : Nat) where
  k : Nat
  D : Array α
  h : k ≤ k0 ∧ D.size = n
  e : Rnd (Go.Sort.heapBuild lt hi first k D = Go.Sort.heapBuild lt hi first k0 d)
structure HpX (lt : α → α → Bool) (d : Array α) (first hi n : Nat) where
  k : Nat
  D : Array α
  h : k ≤ hi ∧ D.size = n
  e : Rnd (Go.Sort.heapPop lt first k D = Go.Sort.heapPop lt first hi d)

set_option maxHeartbeats 8000000 in
theorem heapSort_k (hC : SrtC Try.prog lt S Φ LF SF n) (d : Array α) (hd : d.size = n) (a b : Nat) (hab : a < b) (hb : b ≤ n) (hn : n ≤ 1099511627) :
    FnOK Try.prog 152 ⟨1, [(0, some (.gh S (Φ d)))], [.agg [.v LF, .v SF], .c (.v (.int .i64 (a : Int))), .c (.v (.int .i64 (b : Int)))], .tup [], [(0, some (.gh S (Φ (Go.Sort.heapSort lt d a b))))], 1⟩ := by
  have o1 := hC.one1
  have o2 := hC.one2
  obtain ⟨hi, hhi⟩ : ∃ hi, hi = b - a := ⟨_, rfl⟩
  have ehi : (b : Int) - (a : Int) = (hi : Int) := by omega
  have eq : Go.Sort.heapSort lt d a b = Go.Sort.heapPop lt a hi (Go.Sort.heapBuild lt hi a ((hi - 1) / 2 + 1) d) := by rw [hhi]; rfl
  obtain ⟨q, hq⟩ : ∃ q, q = (hi - 1) / 2 := ⟨_, rfl⟩
  have hqn : 2 * q ≤ hi - 1 := by omega
  have ediv : ((hi : Int) - 1) / 2 = (q : Int) := by omega
  rw [← hq] at eq
  rw [eq]
  refine fnOK_of true mixed Try.func152 rfl (by rfl) (by rfl) ?_
  have hres := congrArg Array.toList Try.results152
  simp only [Try.ntmps152, BGB, seval]
  (have gx := And.intro (@tiLS) (And.intro (@tiL1) (And.intro (@tiL2) (And.intro (@o1) (And.intro (@o2) (And.intro @ehi @ediv))))); refine go ?_; (repeat' first | exact Ef.mk | apply Lf.mk | refine fun (K : KT) hK hE hT => ?_ | refine fun (KS : KE) hKS => ?_ | refine fun (D : KD) hD => ?_ | refine fun (hg : (_ : Prop)) => ?_ | fail); all_goals (first | (refine Wr.mk ?_; (try clear gx); repeat first | clear hK hE hT K | clear hR hE hT K) | assumption | skip))
  refine loop_v (X := HbX lt d hi a (q + 1) n) [] (fun x => [(9, .c (.v (.int .i64 (((x.k : Nat) : Int) - 1))))]) (fun x => [(0, some (.gh S (Φ x.D))), (1, some (.box 174 [.v LF, .v SF]))]) 2 (fun x => x.k) ⟨q + 1, d, by omega, ⟨rfl⟩⟩ ?_
  simp only [KPB, seval]
  refine ⟨?_, ?_⟩
  · have e9 : ((q + 1 : Nat) : Int) - 1 = (q : Int) := by omega
    (refine wk_a ?_; simp only [MAB, seval]; refine ⟨rfl, rfl, (by decide), ?_, ?_⟩; all_goals (first | (simp only [WKB, seval, e9]; done) | (simp [WKB, seval, e9]; done) | simp only [WKB, seval]))
  · rintro ⟨k, D, ⟨g1, g2⟩, e⟩ K hR hE hT
    cases k with
    | succ m =>
      have e9 : ((m + 1 : Nat) : Int) - 1 = (m : Int) := by omega
      have cs := siftDown_k hC D g2 m hi a (by omega) (by omega) hn
      have gz : (Go.Sort.siftDown lt hi a m D).size = n := by rw [size_sift lt hi a _ _ _ (Nat.le_refl _)]; exact g2
      have e1 : Go.Sort.heapBuild lt hi a m (Go.Sort.siftDown lt hi a m D) = Go.Sort.heapBuild lt hi a (q + 1) d := e.out
      simp only [e9]
      (have gx := And.intro (@tiLS) (And.intro @tiL1 @tiL2); refine go ?_; (repeat' first | exact Ef.mk | apply Lf.mk | refine fun (K : KT) hK hE hT => ?_ | refine fun (KS : KE) hKS => ?_ | refine fun (D : KD) hD => ?_ | refine fun (hg : (_ : Prop)) => ?_ | fail); all_goals (first | (refine Wr.mk ?_; (try clear gx); repeat first | clear hK hE hT K | clear hR hE hT K) | assumption | skip))
      refine call_k [.same 0] (cs) rfl rfl rfl (fits_of _ rfl (by simp [CXB]) (by simp [CXB]) rfl (by simp [CXB]) (by simp [CXB]) (by dsimp only; omega)) ?_
      simp only [EFB, seval]
      refine hKS _ _ _ _ ?_
      clear hKS; clear KS; simp only [EVB, seval]
      (have gx := And.intro (@tiLS) (And.intro @tiL1 @tiL2); refine go ?_; (repeat' first | exact Ef.mk | apply Lf.mk | refine fun (K : KT) hK hE hT => ?_ | refine fun (KS : KE) hKS => ?_ | refine fun (D : KD) hD => ?_ | refine fun (hg : (_ : Prop)) => ?_ | fail); all_goals (first | (refine Wr.mk ?_; (try clear gx); repeat first | clear hK hE hT K | clear hR hE hT K) | assumption | skip))
      refine hR.out ⟨m, _, ⟨by omega, gz⟩, ⟨e1⟩⟩ _ _ _ (by simp only; omega) ?_
      (refine wk_a ?_; simp only [MAB, seval]; refine ⟨rfl, rfl, (by decide), ?_, ?_⟩; all_goals (first | (simp only [WKB, seval, true_and]; done) | (simp [WKB, seval, true_and]; done) | simp only [WKB, seval]))
    | zero =>
      have e1 : Go.Sort.heapBuild lt hi a (q + 1) d = D := e.out.symm
      have e0 : Go.Sort.heapPop lt a hi (Go.Sort.heapBuild lt hi a (q + 1) d) = Go.Sort.heapPop lt a hi D := by rw [e1]
      (have gx := And.intro (@tiLS) (And.intro @tiL1 @tiL2); refine go ?_; (repeat' first | exact Ef.mk | apply Lf.mk | refine fun (K : KT) hK hE hT => ?_ | refine fun (KS : KE) hKS => ?_ | refine fun (D : KD) hD => ?_ | refine fun (hg : (_ : Prop)) => ?_ | fail); all_goals (first | (refine Wr.mk ?_; (try clear gx); repeat first | clear hK hE hT K | clear hR hE hT K) | assumption | skip))
      refine loop_v (X := HpX lt D a hi n) [] (fun x => [(10, .c (.v (.int .i64 (((x.k : Nat) : Int) - 1))))]) (fun x => [(0, some (.gh S (Φ x.D))), (1, some (.box 174 [.v LF, .v SF]))]) 2 (fun x => x.k) ⟨hi, D, by omega, ⟨rfl⟩⟩ ?_
      simp only [KPB, seval]
      refine ⟨?_, ?_⟩
      · (refine wk_a ?_; simp only [MAB, seval]; refine ⟨rfl, rfl, (by decide), ?_, ?_⟩; all_goals (first | (simp only [WKB, seval, true_and]; done) | (simp [WKB, seval, true_and]; done) | simp only [WKB, seval]))
      · rintro ⟨k, E, ⟨f1, f2⟩, f⟩ K hR2 hE hT
        cases k with
        | zero =>
          have e2 : Go.Sort.heapPop lt a hi D = E := f.out.symm
          (have gx := And.intro (@tiLS) (And.intro @tiL1 @tiL2); refine go ?_; (repeat' first | exact Ef.mk | apply Lf.mk | refine fun (K : KT) hK hE hT => ?_ | refine fun (KS : KE) hKS => ?_ | refine fun (D : KD) hD => ?_ | refine fun (hg : (_ : Prop)) => ?_ | fail); all_goals (first | (refine Wr.mk ?_; (try clear gx); repeat first | clear hK hE hT K | clear hR hE hT K) | assumption | skip))
          (refine post_a hres (by first | exact .inl rfl | exact .inr rfl) ?_; simp only [RSB, ENB, seval, tiAll, e0, e2]; simp only [MAB, seval]; refine ⟨rfl, rfl, ?_, ?_, ?_⟩ <;> (first | rfl | (simp [WKB, Nat.add_comm, e0, e2]; done) | (simp only [WKB, seval])))
        | succ m =>
          have e9 : ((m + 1 : Nat) : Int) - 1 = (m : Int) := by omega
          have gs : (Go.Sort.swp E a (a + m)).size = n := by rw [Go.Sort.size_swp]; exact f2
          have cs := siftDown_k hC (Go.Sort.swp E a (a + m)) gs 0 m a (by omega) (by omega) hn
          have gz : (Go.Sort.siftDown lt m a 0 (Go.Sort.swp E a (a + m))).size = n := by rw [size_sift lt m a _ _ _ (Nat.le_refl _)]; exact gs
          have e2 : Go.Sort.heapPop lt a m (Go.Sort.siftDown lt m a 0 (Go.Sort.swp E a (a + m))) = Go.Sort.heapPop lt a hi D := f.out
          simp only [e9]
          (have gx := And.intro (@tiLS) (And.intro @tiL1 @tiL2); refine go ?_; (repeat' first | exact Ef.mk | apply Lf.mk | refine fun (K : KT) hK hE hT => ?_ | refine fun (KS : KE) hKS => ?_ | refine fun (D : KD) hD => ?_ | refine fun (hg : (_ : Prop)) => ?_ | fail); all_goals (first | (refine Wr.mk ?_; (try clear gx); repeat first | clear hK hE hT K | clear hR hE hT K) | assumption | skip))
          refine swap_k hC (d := E) (i := a) (j := a + m) (f := 0) (by exact f2) (by omega) (by omega) ?_ ?_ rfl rfl rfl rfl (by decide) ?_
          · omega
          · omega
          refine hKS _ _ _ _ ?_
          clear hKS; clear KS; simp only [EVB, seval]
          (have gx := And.intro (@tiLS) (And.intro @tiL1 @tiL2); refine go ?_; (repeat' first | exact Ef.mk | apply Lf.mk | refine fun (K : KT) hK hE hT => ?_ | refine fun (KS : KE) hKS => ?_ | refine fun (D : KD) hD => ?_ | refine fun (hg : (_ : Prop)) => ?_ | fail); all_goals (first | (refine Wr.mk ?_; (try clear gx); repeat first | clear hK hE hT K | clear hR hE hT K) | assumption | skip))
          refine call_k [.same 0] (cs) rfl rfl rfl (fits_of _ rfl (by simp [CXB]) (by simp [CXB]) rfl (by simp [CXB]) (by simp [CXB]) (by dsimp only; omega)) ?_
          simp only [EFB, seval]
          refine hKS _ _ _ _ ?_
          clear hKS; clear KS; simp only [EVB, seval]
          (have gx := And.intro (@tiLS) (And.intro @tiL1 @tiL2); refine go ?_; (repeat' first | exact Ef.mk | apply Lf.mk | refine fun (K : KT) hK hE hT => ?_ | refine fun (KS : KE) hKS => ?_ | refine fun (D : KD) hD => ?_ | refine fun (hg : (_ : Prop)) => ?_ | fail); all_goals (first | (refine Wr.mk ?_; (try clear gx); repeat first | clear hK hE hT K | clear hR hE hT K) | assumption | skip))
          refine hR2.out ⟨m, _, ⟨by omega, gz⟩, ⟨e2⟩⟩ _ _ _ (by simp only; omega) ?_
          (refine wk_a ?_; simp only [MAB, seval]; refine ⟨rfl, rfl, (by decide), ?_, ?_⟩; all_goals (first | (simp only [WKB, seval, true_and]; done) | (simp [WKB, seval, true_and]; done) | simp only [WKB, seval]))
end

end Go.Proofs.Ytfnhchcgieeedaa
