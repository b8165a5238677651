/-
  The library's choice of a pivot, by any comparison. No conditions of its own.
-/
import Derived.Test.YtfnhchcgieeedaaGO
import Derived.Test.YtfnhchcgieeedaaST5
namespace Go.Proofs.Ytfnhchcgieeedaa
set_option linter.unusedSimpArgs false
set_option linter.unusedVariables false
set_option linter.unusedSimpArgs false
set_option linter.unusedVariables false
set_option linter.defProp false
set_option maxRecDepth 20000
open Go.RowKit

section
variable {α : Type} [Inhabited α] {lt : α → α → Bool} {S : List Nat} {Φ : Array α → World → Prop} {LF SF : Value} {n : Nat}

theorem o2_y {d : Array α} {a b s : Nat} (h : lt d[b]! d[a]! = true) : Go.Sort.order2 lt d a b s = (b, a, s + 1) := by unfold Go.Sort.order2; rw [if_pos h]
theorem o2_n {d : Array α} {a b s : Nat} (h : lt d[b]! d[a]! = false) : Go.Sort.order2 lt d a b s = (a, b, s) := by unfold Go.Sort.order2; rw [if_neg (by rw [h]; decide)]
theorem o2_lt (lt : α → α → Bool) (d : Array α) {a b s m : Nat} (ha : a < m) (hb : b < m) : (Go.Sort.order2 lt d a b s).1 < m ∧ (Go.Sort.order2 lt d a b s).2.1 < m ∧ (Go.Sort.order2 lt d a b s).2.2 ≤ s + 1 := by
  unfold Go.Sort.order2
  split <;> exact ⟨by assumption, by assumption, by simp⟩

set_option maxHeartbeats 4000000 in
theorem order2_k (hC : SrtC Try.prog lt S Φ LF SF n) (d : Array α) (hd : d.size = n) (a b s : Nat) (ha : a < n) (hb : b < n) (hs : s ≤ 1000) (hn : n ≤ 1099511627) :
    FnOK Try.prog 165 ⟨2, [(0, some (.gh S (Φ d))), (1, some (.box 3 [.v (.int .i64 ((s : Nat) : Int))]))], [.agg [.v LF, .v SF], .c (.v (.int .i64 (a : Int))), .c (.v (.int .i64 (b : Int))), .c (.ptr 1 0 0)], .tup [.inl (.v (.int .i64 (((Go.Sort.order2 lt d a b s).1 : Nat) : Int))), .inl (.v (.int .i64 (((Go.Sort.order2 lt d a b s).2.1 : Nat) : Int)))], [(0, some (.gh S (Φ d))), (1, some (.box 3 [.v (.int .i64 (((Go.Sort.order2 lt d a b s).2.2 : Nat) : Int))]))], 2⟩ := by
  have o1 := hC.one1
  have o2 := hC.one2
  cases hl : lt d[b]! d[a]! with
  | true =>
    rw [o2_y hl]
    dsimp only
    refine fnOK_of true mixed Try.func165 rfl (by rfl) (by rfl) ?_
    have hres := congrArg Array.toList Try.results165
    simp only [Try.ntmps165, BGB, seval]
    (have gx := And.intro (@tiLS) (And.intro (@tiL1) (And.intro (@tiL2) (And.intro @o1 @o2))); refine go ?_; (repeat' first | exact Ef.mk | apply Lf.mk | refine fun (K : KT) hK hE hT => ?_ | refine fun (KS : KE) hKS => ?_ | refine fun (D : KD) hD => ?_ | refine fun (hg : (_ : Prop)) => ?_ | fail); all_goals (first | (refine Wr.mk ?_; (try clear gx); repeat first | clear hK hE hT K | clear hR hE hT K) | assumption | skip))
    refine less_k hC (d := d) (i := b) (j := a) (f := 0) (by exact hd) (by omega) (by omega) ?_ ?_ rfl rfl rfl rfl (by decide) ?_
    · omega
    · omega
    refine hKS _ _ _ _ ?_
    clear hKS; clear KS; simp only [EVB, seval]
    (have gx := And.intro (@tiLS) (And.intro (@tiL1) (And.intro @tiL2 @hl)); refine go ?_; (repeat' first | exact Ef.mk | apply Lf.mk | refine fun (K : KT) hK hE hT => ?_ | refine fun (KS : KE) hKS => ?_ | refine fun (D : KD) hD => ?_ | refine fun (hg : (_ : Prop)) => ?_ | fail); all_goals (first | (refine Wr.mk ?_; (try clear gx); repeat first | clear hK hE hT K | clear hR hE hT K) | assumption | skip))
    (refine post_a hres (.inl rfl) ?_; simp only [RSB, ENB, seval, tiAll, true_and]; simp only [MAB, seval]; refine ⟨rfl, rfl, ?_, ?_, ?_⟩ <;> (first | rfl | (simp [WKB, Nat.add_comm, true_and]; done) | (simp only [WKB, seval])))
  | false =>
    rw [o2_n hl]
    dsimp only
    refine fnOK_of true mixed Try.func165 rfl (by rfl) (by rfl) ?_
    have hres := congrArg Array.toList Try.results165
    simp only [Try.ntmps165, BGB, seval]
    (have gx := And.intro (@tiLS) (And.intro (@tiL1) (And.intro (@tiL2) (And.intro @o1 @o2))); refine go ?_; (repeat' first | exact Ef.mk | apply Lf.mk | refine fun (K : KT) hK hE hT => ?_ | refine fun (KS : KE) hKS => ?_ | refine fun (D : KD) hD => ?_ | refine fun (hg : (_ : Prop)) => ?_ | fail); all_goals (first | (refine Wr.mk ?_; (try clear gx); repeat first | clear hK hE hT K | clear hR hE hT K) | assumption | skip))
    refine less_k hC (d := d) (i := b) (j := a) (f := 0) (by exact hd) (by omega) (by omega) ?_ ?_ rfl rfl rfl rfl (by decide) ?_
    · omega
    · omega
    refine hKS _ _ _ _ ?_
    clear hKS; clear KS; simp only [EVB, seval]
    (have gx := And.intro (@tiLS) (And.intro (@tiL1) (And.intro @tiL2 @hl)); refine go ?_; (repeat' first | exact Ef.mk | apply Lf.mk | refine fun (K : KT) hK hE hT => ?_ | refine fun (KS : KE) hKS => ?_ | refine fun (D : KD) hD => ?_ | refine fun (hg : (_ : Prop)) => ?_ | fail); all_goals (first | (refine Wr.mk ?_; (try clear gx); repeat first | clear hK hE hT K | clear hR hE hT K) | assumption | skip))
    (refine post_a hres (.inl rfl) ?_; simp only [RSB, ENB, seval, tiAll, true_and]; simp only [MAB, seval]; refine ⟨rfl, rfl, ?_, ?_, ?_⟩ <;> (first | rfl | (simp [WKB, Nat.add_comm, true_and]; done) | (simp only [WKB, seval])))

theorem med_eq (d : Array α) (a b c s : Nat) : Go.Sort.median lt d a b c s = ((Go.Sort.order2 lt d (Go.Sort.order2 lt d a b s).1 (Go.Sort.order2 lt d (Go.Sort.order2 lt d a b s).2.1 c (Go.Sort.order2 lt d a b s).2.2).1 (Go.Sort.order2 lt d (Go.Sort.order2 lt d a b s).2.1 c (Go.Sort.order2 lt d a b s).2.2).2.2).2.1,
    (Go.Sort.order2 lt d (Go.Sort.order2 lt d a b s).1 (Go.Sort.order2 lt d (Go.Sort.order2 lt d a b s).2.1 c (Go.Sort.order2 lt d a b s).2.2).1 (Go.Sort.order2 lt d (Go.Sort.order2 lt d a b s).2.1 c (Go.Sort.order2 lt d a b s).2.2).2.2).2.2) := rfl
theorem med_lt (lt : α → α → Bool) (d : Array α) {a b c s m : Nat} (ha : a < m) (hb : b < m) (hc : c < m) : (Go.Sort.median lt d a b c s).1 < m ∧ (Go.Sort.median lt d a b c s).2 ≤ s + 3 := by
  rw [med_eq]
  obtain ⟨x1, x2, x3⟩ := o2_lt lt d (s := s) ha hb
  obtain ⟨y1, y2, y3⟩ := o2_lt lt d (s := (Go.Sort.order2 lt d a b s).2.2) x2 hc
  obtain ⟨z1, z2, z3⟩ := o2_lt lt d (s := (Go.Sort.order2 lt d (Go.Sort.order2 lt d a b s).2.1 c (Go.Sort.order2 lt d a b s).2.2).2.2) x1 y1
  exact ⟨z2, by dsimp only; omega⟩

set_option maxHeartbeats 8000000 in
theorem median_k (hC : SrtC Try.prog lt S Φ LF SF n) (d : Array α) (hd : d.size = n) (a b c s : Nat) (ha : a < n) (hb : b < n) (hc : c < n) (hs : s ≤ 900) (hn : n ≤ 1099511627) :
    FnOK Try.prog 164 ⟨2, [(0, some (.gh S (Φ d))), (1, some (.box 3 [.v (.int .i64 ((s : Nat) : Int))]))], [.agg [.v LF, .v SF], .c (.v (.int .i64 (a : Int))), .c (.v (.int .i64 (b : Int))), .c (.v (.int .i64 (c : Int))), .c (.ptr 1 0 0)], .c (.v (.int .i64 (((Go.Sort.median lt d a b c s).1 : Nat) : Int))), [(0, some (.gh S (Φ d))), (1, some (.box 3 [.v (.int .i64 (((Go.Sort.median lt d a b c s).2 : Nat) : Int))]))], 2⟩ := by
  have o1 := hC.one1
  have o2 := hC.one2
  have k1 := order2_k hC d hd a b s ha hb (by omega) hn
  obtain ⟨x1, x2, x3⟩ := o2_lt lt d (s := s) ha hb
  have em := med_eq (lt := lt) d a b c s
  obtain ⟨r1, hr1⟩ : ∃ r, r = Go.Sort.order2 lt d a b s := ⟨_, rfl⟩
  rw [← hr1] at k1 x1 x2 x3 em
  have k2 := order2_k hC d hd r1.2.1 c r1.2.2 x2 hc (by omega) hn
  obtain ⟨y1, y2, y3⟩ := o2_lt lt d (s := r1.2.2) x2 hc
  obtain ⟨r2, hr2⟩ : ∃ r, r = Go.Sort.order2 lt d r1.2.1 c r1.2.2 := ⟨_, rfl⟩
  rw [← hr2] at k2 y1 y2 y3 em
  have k3 := order2_k hC d hd r1.1 r2.1 r2.2.2 x1 y1 (by omega) hn
  obtain ⟨r3, hr3⟩ : ∃ r, r = Go.Sort.order2 lt d r1.1 r2.1 r2.2.2 := ⟨_, rfl⟩
  rw [← hr3] at k3 em
  rw [em]
  dsimp only
  refine fnOK_of true mixed Try.func164 rfl (by rfl) (by rfl) ?_
  have hres := congrArg Array.toList Try.results164
  simp only [Try.ntmps164, BGB, seval]
  (have gx := And.intro (@tiLS) (And.intro (@tiL1) (And.intro (@tiL2) (And.intro @o1 @o2))); refine go ?_; (repeat' first | exact Ef.mk | apply Lf.mk | refine fun (K : KT) hK hE hT => ?_ | refine fun (KS : KE) hKS => ?_ | refine fun (D : KD) hD => ?_ | refine fun (hg : (_ : Prop)) => ?_ | fail); all_goals (first | (refine Wr.mk ?_; (try clear gx); repeat first | clear hK hE hT K | clear hR hE hT K) | assumption | skip))
  refine call_k [.same 0, .same 1] (k1) rfl rfl rfl (fits_of _ rfl (by simp [CXB]) (by simp [CXB]) rfl (by simp [CXB]) (by simp [CXB]) (by dsimp only; omega)) ?_
  simp only [EFB, seval]
  refine hKS _ _ _ _ ?_
  clear hKS; clear KS; simp only [EVB, seval]
  (have gx := And.intro (@tiLS) (And.intro @tiL1 @tiL2); refine go ?_; (repeat' first | exact Ef.mk | apply Lf.mk | refine fun (K : KT) hK hE hT => ?_ | refine fun (KS : KE) hKS => ?_ | refine fun (D : KD) hD => ?_ | refine fun (hg : (_ : Prop)) => ?_ | fail); all_goals (first | (refine Wr.mk ?_; (try clear gx); repeat first | clear hK hE hT K | clear hR hE hT K) | assumption | skip))
  refine call_k [.same 0, .same 1] (k2) rfl rfl rfl (fits_of _ rfl (by simp [CXB]) (by simp [CXB]) rfl (by simp [CXB]) (by simp [CXB]) (by dsimp only; omega)) ?_
  simp only [EFB, seval]
  refine hKS _ _ _ _ ?_
  clear hKS; clear KS; simp only [EVB, seval]
  (have gx := And.intro (@tiLS) (And.intro @tiL1 @tiL2); refine go ?_; (repeat' first | exact Ef.mk | apply Lf.mk | refine fun (K : KT) hK hE hT => ?_ | refine fun (KS : KE) hKS => ?_ | refine fun (D : KD) hD => ?_ | refine fun (hg : (_ : Prop)) => ?_ | fail); all_goals (first | (refine Wr.mk ?_; (try clear gx); repeat first | clear hK hE hT K | clear hR hE hT K) | assumption | skip))
  refine call_k [.same 0, .same 1] (k3) rfl rfl rfl (fits_of _ rfl (by simp [CXB]) (by simp [CXB]) rfl (by simp [CXB]) (by simp [CXB]) (by dsimp only; omega)) ?_
  simp only [EFB, seval]
  refine hKS _ _ _ _ ?_
  clear hKS; clear KS; simp only [EVB, seval]
  (have gx := And.intro (@tiLS) (And.intro @tiL1 @tiL2); refine go ?_; (repeat' first | exact Ef.mk | apply Lf.mk | refine fun (K : KT) hK hE hT => ?_ | refine fun (KS : KE) hKS => ?_ | refine fun (D : KD) hD => ?_ | refine fun (hg : (_ : Prop)) => ?_ | fail); all_goals (first | (refine Wr.mk ?_; (try clear gx); repeat first | clear hK hE hT K | clear hR hE hT K) | assumption | skip))
  (refine post_a hres (.inl rfl) ?_; simp only [RSB, ENB, seval, tiAll, true_and]; simp only [MAB, seval]; refine ⟨rfl, rfl, ?_, ?_, ?_⟩ <;> (first | rfl | (simp [WKB, Nat.add_comm, true_and]; done) | (simp only [WKB, seval])))

set_option maxHeartbeats 4000000 in
theorem medianAdj_k (hC : SrtC Try.prog lt S Φ LF SF n) (d : Array α) (hd : d.size = n) (a s : Nat) (ha : 1 ≤ a) (hb : a + 1 < n) (hs : s ≤ 900) (hn : n ≤ 1099511627) :
    FnOK Try.prog 163 ⟨2, [(0, some (.gh S (Φ d))), (1, some (.box 3 [.v (.int .i64 ((s : Nat) : Int))]))], [.agg [.v LF, .v SF], .c (.v (.int .i64 (a : Int))), .c (.ptr 1 0 0)], .c (.v (.int .i64 (((Go.Sort.medianAdjacent lt d a s).1 : Nat) : Int))), [(0, some (.gh S (Φ d))), (1, some (.box 3 [.v (.int .i64 (((Go.Sort.medianAdjacent lt d a s).2 : Nat) : Int))]))], 2⟩ := by
  have o1 := hC.one1
  have o2 := hC.one2
  have k1 := median_k hC d hd (a - 1) a (a + 1) s (by omega) (by omega) hb hs hn
  have e1 : (a : Int) - 1 = ((a - 1 : Nat) : Int) := by omega
  have e2 : (a : Int) + 1 = ((a + 1 : Nat) : Int) := by omega
  have em : Go.Sort.medianAdjacent lt d a s = Go.Sort.median lt d (a - 1) a (a + 1) s := rfl
  rw [em]
  obtain ⟨r, hr⟩ : ∃ r, r = Go.Sort.median lt d (a - 1) a (a + 1) s := ⟨_, rfl⟩
  rw [← hr] at k1 ⊢
  refine fnOK_of true mixed Try.func163 rfl (by rfl) (by rfl) ?_
  have hres := congrArg Array.toList Try.results163
  simp only [Try.ntmps163, BGB, seval]
  (have gx := And.intro (@tiLS) (And.intro (@tiL1) (And.intro (@tiL2) (And.intro (@o1) (And.intro (@o2) (And.intro @e1 @e2))))); refine go ?_; (repeat' first | exact Ef.mk | apply Lf.mk | refine fun (K : KT) hK hE hT => ?_ | refine fun (KS : KE) hKS => ?_ | refine fun (D : KD) hD => ?_ | refine fun (hg : (_ : Prop)) => ?_ | fail); all_goals (first | (refine Wr.mk ?_; (try clear gx); repeat first | clear hK hE hT K | clear hR hE hT K) | assumption | skip))
  refine call_k [.same 0, .same 1] (k1) rfl rfl rfl (fits_of _ rfl (by simp [CXB]) (by simp [CXB]) rfl (by simp [CXB]) (by simp [CXB]) (by dsimp only; omega)) ?_
  simp only [EFB, seval]
  refine hKS _ _ _ _ ?_
  clear hKS; clear KS; simp only [EVB, seval]
  (have gx := And.intro (@tiLS) (And.intro @tiL1 @tiL2); refine go ?_; (repeat' first | exact Ef.mk | apply Lf.mk | refine fun (K : KT) hK hE hT => ?_ | refine fun (KS : KE) hKS => ?_ | refine fun (D : KD) hD => ?_ | refine fun (hg : (_ : Prop)) => ?_ | fail); all_goals (first | (refine Wr.mk ?_; (try clear gx); repeat first | clear hK hE hT K | clear hR hE hT K) | assumption | skip))
  (refine post_a hres (.inl rfl) ?_; simp only [RSB, ENB, seval, tiAll, true_and]; simp only [MAB, seval]; refine ⟨rfl, rfl, ?_, ?_, ?_⟩ <;> (first | rfl | (simp [WKB, Nat.add_comm, true_and]; done) | (simp only [WKB, seval])))

def hz : Go.Sort.Hint → Int
  | .unknown => 0
  | .increasing => 1
  | .decreasing => 2
def hS (s : Nat) : Go.Sort.Hint := if s = 0 then .increasing else if s = 12 then .decreasing else .unknown
def cpR (lt : α → α → Bool) (d : Array α) (a l i j k : Nat) : Nat × Nat :=
  if l ≥ 8 then
    if l ≥ 50 then Go.Sort.median lt d (Go.Sort.medianAdjacent lt d i 0).1 (Go.Sort.medianAdjacent lt d j (Go.Sort.medianAdjacent lt d i 0).2).1 (Go.Sort.medianAdjacent lt d k (Go.Sort.medianAdjacent lt d j (Go.Sort.medianAdjacent lt d i 0).2).2).1 (Go.Sort.medianAdjacent lt d k (Go.Sort.medianAdjacent lt d j (Go.Sort.medianAdjacent lt d i 0).2).2).2
    else Go.Sort.median lt d i j k 0
  else (j, 0)
theorem cp_eq (lt : α → α → Bool) (d : Array α) (a b : Nat) : Go.Sort.choosePivot lt d a b = ((cpR lt d a (b - a) (a + (b - a) / 4 * 1) (a + (b - a) / 4 * 2) (a + (b - a) / 4 * 3)).1, hS (cpR lt d a (b - a) (a + (b - a) / 4 * 1) (a + (b - a) / 4 * 2) (a + (b - a) / 4 * 3)).2) := rfl

set_option maxHeartbeats 16000000 in
theorem choosePivot_k (hC : SrtC Try.prog lt S Φ LF SF n) (d : Array α) (hd : d.size = n) (a b : Nat) (hab : a < b) (hb : b ≤ n) (hn : n ≤ 1099511627) :
    FnOK Try.prog 154 ⟨1, [(0, some (.gh S (Φ d)))], [.agg [.v LF, .v SF], .c (.v (.int .i64 (a : Int))), .c (.v (.int .i64 (b : Int)))], .tup [.inl (.v (.int .i64 (((Go.Sort.choosePivot lt d a b).1 : Nat) : Int))), .inl (.v (.int .i64 (hz (Go.Sort.choosePivot lt d a b).2)))], [(0, some (.gh S (Φ d)))], 1⟩ := by
  have o1 := hC.one1
  have o2 := hC.one2
  rw [cp_eq]
  obtain ⟨l, hl⟩ : ∃ l, l = b - a := ⟨_, rfl⟩
  obtain ⟨q, hq⟩ : ∃ q, q = l / 4 := ⟨_, rfl⟩
  obtain ⟨i, hi⟩ : ∃ i, i = a + q * 1 := ⟨_, rfl⟩
  obtain ⟨j, hj⟩ : ∃ j, j = a + q * 2 := ⟨_, rfl⟩
  obtain ⟨k, hk⟩ : ∃ k, k = a + q * 3 := ⟨_, rfl⟩
  rw [← hl, ← hq, ← hi, ← hj, ← hk]
  have el : (b : Int) - (a : Int) = (l : Int) := by omega
  have eq : (l : Int) / 4 = (q : Int) := by omega
  have ei : (a : Int) + (q : Int) * 1 = (i : Int) := by omega
  have ei' : (a : Int) + (q : Int) = (i : Int) := by omega
  have ej : (a : Int) + (q : Int) * 2 = (j : Int) := by omega
  have ek : (a : Int) + (q : Int) * 3 = (k : Int) := by omega
  have fin : ∀ s : Nat, s ≤ 12 → (s = 0 ∧ hS s = .increasing) ∨ (s = 12 ∧ hS s = .decreasing) ∨ (s ≠ 0 ∧ s ≠ 12 ∧ hS s = .unknown) := fun s _ => by
    unfold hS
    by_cases h0 : s = 0
    · exact .inl ⟨h0, by rw [if_pos h0]⟩
    · by_cases h1 : s = 12
      · exact .inr (.inl ⟨h1, by rw [if_neg h0, if_pos h1]⟩)
      · exact .inr (.inr ⟨h0, h1, by rw [if_neg h0, if_neg h1]⟩)
  by_cases h8 : l ≥ 8
  case neg =>
    have er : cpR lt d a l i j k = (j, 0) := by unfold cpR; rw [if_neg h8]
    rw [er]
    have e0 : hS 0 = .increasing := rfl
    refine fnOK_of true mixed Try.func154 rfl (by rfl) (by rfl) ?_
    have hres := congrArg Array.toList Try.results154
    simp only [Try.ntmps154, BGB, seval]
    (have gx := And.intro (@tiLS) (And.intro (@tiL1) (And.intro (@tiL2) (And.intro (@o1) (And.intro (@o2) (And.intro (@el) (And.intro (@eq) (And.intro (@ei) (And.intro (@ei') (And.intro @ej @ek))))))))); refine go ?_; (repeat' first | exact Ef.mk | apply Lf.mk | refine fun (K : KT) hK hE hT => ?_ | refine fun (KS : KE) hKS => ?_ | refine fun (D : KD) hD => ?_ | refine fun (hg : (_ : Prop)) => ?_ | fail); all_goals (first | (refine Wr.mk ?_; (try clear gx); repeat first | clear hK hE hT K | clear hR hE hT K) | assumption | skip))
    (refine post_a hres (.inl rfl) ?_; simp only [RSB, ENB, seval, tiAll, e0, hz]; simp only [MAB, seval]; refine ⟨rfl, rfl, ?_, ?_, ?_⟩ <;> (first | rfl | (simp [WKB, Nat.add_comm, e0, hz]; done) | (simp only [WKB, seval])))
  case pos =>
    by_cases h50 : l ≥ 50
    case neg =>
      have er : cpR lt d a l i j k = Go.Sort.median lt d i j k 0 := by unfold cpR; rw [if_pos h8, if_neg h50]
      rw [er]
      have km := median_k hC d hd i j k 0 (by omega) (by omega) (by omega) (by omega) hn
      have hm := med_lt lt d (a := i) (b := j) (c := k) (s := 0) (m := n) (by omega) (by omega) (by omega)
      obtain ⟨r, hr⟩ : ∃ r, r = Go.Sort.median lt d i j k 0 := ⟨_, rfl⟩
      rw [← hr] at km hm ⊢
      obtain ⟨p, s⟩ := r
      dsimp only at km hm ⊢
      rcases fin s (by omega) with ⟨h, hh⟩ | ⟨h, hh⟩ | ⟨h, h', hh⟩
      case inr.inl => exfalso; omega
      all_goals
        rw [hh]
        refine fnOK_of true mixed Try.func154 rfl (by rfl) (by rfl) ?_
        have hres := congrArg Array.toList Try.results154
        simp only [Try.ntmps154, BGB, seval]
        (have gx := And.intro (@tiLS) (And.intro (@tiL1) (And.intro (@tiL2) (And.intro (@o1) (And.intro (@o2) (And.intro (@el) (And.intro (@eq) (And.intro (@ei) (And.intro (@ei') (And.intro @ej @ek))))))))); refine go ?_; (repeat' first | exact Ef.mk | apply Lf.mk | refine fun (K : KT) hK hE hT => ?_ | refine fun (KS : KE) hKS => ?_ | refine fun (D : KD) hD => ?_ | refine fun (hg : (_ : Prop)) => ?_ | fail); all_goals (first | (refine Wr.mk ?_; (try clear gx); repeat first | clear hK hE hT K | clear hR hE hT K) | assumption | skip))
        refine call_k [.same 0, .same 2] (km) rfl rfl rfl (fits_of _ rfl (by simp [CXB]) (by simp [CXB]) rfl (by simp [CXB]) (by simp [CXB]) (by dsimp only; omega)) ?_
        simp only [EFB, seval]
        refine hKS _ _ _ _ ?_
        clear hKS; clear KS; simp only [EVB, seval]
        (have gx := And.intro (@tiLS) (And.intro @tiL1 @tiL2); refine go ?_; (repeat' first | exact Ef.mk | apply Lf.mk | refine fun (K : KT) hK hE hT => ?_ | refine fun (KS : KE) hKS => ?_ | refine fun (D : KD) hD => ?_ | refine fun (hg : (_ : Prop)) => ?_ | fail); all_goals (first | (refine Wr.mk ?_; (try clear gx); repeat first | clear hK hE hT K | clear hR hE hT K) | assumption | skip))
        (refine post_a hres (.inl rfl) ?_; simp only [RSB, ENB, seval, tiAll, hz]; simp only [MAB, seval]; refine ⟨rfl, rfl, ?_, ?_, ?_⟩ <;> (first | rfl | (simp [WKB, Nat.add_comm, hz]; done) | (simp only [WKB, seval])))
    case pos =>
      have er : cpR lt d a l i j k = Go.Sort.median lt d (Go.Sort.medianAdjacent lt d i 0).1 (Go.Sort.medianAdjacent lt d j (Go.Sort.medianAdjacent lt d i 0).2).1 (Go.Sort.medianAdjacent lt d k (Go.Sort.medianAdjacent lt d j (Go.Sort.medianAdjacent lt d i 0).2).2).1 (Go.Sort.medianAdjacent lt d k (Go.Sort.medianAdjacent lt d j (Go.Sort.medianAdjacent lt d i 0).2).2).2 := by unfold cpR; rw [if_pos h8, if_pos h50]
      rw [er]
      have k1 := medianAdj_k hC d hd i 0 (by omega) (by omega) (by omega) hn
      have m1 := med_lt lt d (a := i - 1) (b := i) (c := i + 1) (s := 0) (m := n) (by omega) (by omega) (by omega)
      have e1 : Go.Sort.median lt d (i - 1) i (i + 1) 0 = Go.Sort.medianAdjacent lt d i 0 := rfl
      rw [e1] at m1
      obtain ⟨r1, hr1⟩ : ∃ r, r = Go.Sort.medianAdjacent lt d i 0 := ⟨_, rfl⟩
      rw [← hr1] at k1 m1 ⊢
      have k2 := medianAdj_k hC d hd j r1.2 (by omega) (by omega) (by omega) hn
      have m2 := med_lt lt d (a := j - 1) (b := j) (c := j + 1) (s := r1.2) (m := n) (by omega) (by omega) (by omega)
      have e2 : Go.Sort.median lt d (j - 1) j (j + 1) r1.2 = Go.Sort.medianAdjacent lt d j r1.2 := rfl
      rw [e2] at m2
      obtain ⟨r2, hr2⟩ : ∃ r, r = Go.Sort.medianAdjacent lt d j r1.2 := ⟨_, rfl⟩
      rw [← hr2] at k2 m2 ⊢
      have k3 := medianAdj_k hC d hd k r2.2 (by omega) (by omega) (by omega) hn
      have m3 := med_lt lt d (a := k - 1) (b := k) (c := k + 1) (s := r2.2) (m := n) (by omega) (by omega) (by omega)
      have e3 : Go.Sort.median lt d (k - 1) k (k + 1) r2.2 = Go.Sort.medianAdjacent lt d k r2.2 := rfl
      rw [e3] at m3
      obtain ⟨r3, hr3⟩ : ∃ r, r = Go.Sort.medianAdjacent lt d k r2.2 := ⟨_, rfl⟩
      rw [← hr3] at k3 m3 ⊢
      have km := median_k hC d hd r1.1 r2.1 r3.1 r3.2 (by omega) (by omega) (by omega) (by omega) hn
      have hm := med_lt lt d (a := r1.1) (b := r2.1) (c := r3.1) (s := r3.2) (m := n) (by omega) (by omega) (by omega)
      obtain ⟨r, hr⟩ : ∃ r, r = Go.Sort.median lt d r1.1 r2.1 r3.1 r3.2 := ⟨_, rfl⟩
      rw [← hr] at km hm ⊢
      obtain ⟨p, s⟩ := r
      dsimp only at km hm ⊢
      rcases fin s (by omega) with ⟨h, hh⟩ | ⟨h, hh⟩ | ⟨h, h', hh⟩
      all_goals
        rw [hh]
        refine fnOK_of true mixed Try.func154 rfl (by rfl) (by rfl) ?_
        have hres := congrArg Array.toList Try.results154
        simp only [Try.ntmps154, BGB, seval]
        (have gx := And.intro (@tiLS) (And.intro (@tiL1) (And.intro (@tiL2) (And.intro (@o1) (And.intro (@o2) (And.intro (@el) (And.intro (@eq) (And.intro (@ei) (And.intro (@ei') (And.intro @ej @ek))))))))); refine go ?_; (repeat' first | exact Ef.mk | apply Lf.mk | refine fun (K : KT) hK hE hT => ?_ | refine fun (KS : KE) hKS => ?_ | refine fun (D : KD) hD => ?_ | refine fun (hg : (_ : Prop)) => ?_ | fail); all_goals (first | (refine Wr.mk ?_; (try clear gx); repeat first | clear hK hE hT K | clear hR hE hT K) | assumption | skip))
        refine call_k [.same 0, .same 2] (k1) rfl rfl rfl (fits_of _ rfl (by simp [CXB]) (by simp [CXB]) rfl (by simp [CXB]) (by simp [CXB]) (by dsimp only; omega)) ?_
        simp only [EFB, seval]
        refine hKS _ _ _ _ ?_
        clear hKS; clear KS; simp only [EVB, seval]
        (have gx := And.intro (@tiLS) (And.intro @tiL1 @tiL2); refine go ?_; (repeat' first | exact Ef.mk | apply Lf.mk | refine fun (K : KT) hK hE hT => ?_ | refine fun (KS : KE) hKS => ?_ | refine fun (D : KD) hD => ?_ | refine fun (hg : (_ : Prop)) => ?_ | fail); all_goals (first | (refine Wr.mk ?_; (try clear gx); repeat first | clear hK hE hT K | clear hR hE hT K) | assumption | skip))
        refine call_k [.same 0, .same 2] (k2) rfl rfl rfl (fits_of _ rfl (by simp [CXB]) (by simp [CXB]) rfl (by simp [CXB]) (by simp [CXB]) (by dsimp only; omega)) ?_
        simp only [EFB, seval]
        refine hKS _ _ _ _ ?_
        clear hKS; clear KS; simp only [EVB, seval]
        (have gx := And.intro (@tiLS) (And.intro @tiL1 @tiL2); refine go ?_; (repeat' first | exact Ef.mk | apply Lf.mk | refine fun (K : KT) hK hE hT => ?_ | refine fun (KS : KE) hKS => ?_ | refine fun (D : KD) hD => ?_ | refine fun (hg : (_ : Prop)) => ?_ | fail); all_goals (first | (refine Wr.mk ?_; (try clear gx); repeat first | clear hK hE hT K | clear hR hE hT K) | assumption | skip))
        refine call_k [.same 0, .same 2] (k3) rfl rfl rfl (fits_of _ rfl (by simp [CXB]) (by simp [CXB]) rfl (by simp [CXB]) (by simp [CXB]) (by dsimp only; omega)) ?_
        simp only [EFB, seval]
        refine hKS _ _ _ _ ?_
        clear hKS; clear KS; simp only [EVB, seval]
        (have gx := And.intro (@tiLS) (And.intro @tiL1 @tiL2); refine go ?_; (repeat' first | exact Ef.mk | apply Lf.mk | refine fun (K : KT) hK hE hT => ?_ | refine fun (KS : KE) hKS => ?_ | refine fun (D : KD) hD => ?_ | refine fun (hg : (_ : Prop)) => ?_ | fail); all_goals (first | (refine Wr.mk ?_; (try clear gx); repeat first | clear hK hE hT K | clear hR hE hT K) | assumption | skip))
        refine call_k [.same 0, .same 2] (km) rfl rfl rfl (fits_of _ rfl (by simp [CXB]) (by simp [CXB]) rfl (by simp [CXB]) (by simp [CXB]) (by dsimp only; omega)) ?_
        simp only [EFB, seval]
        refine hKS _ _ _ _ ?_
        clear hKS; clear KS; simp only [EVB, seval]
        (have gx := And.intro (@tiLS) (And.intro @tiL1 @tiL2); refine go ?_; (repeat' first | exact Ef.mk | apply Lf.mk | refine fun (K : KT) hK hE hT => ?_ | refine fun (KS : KE) hKS => ?_ | refine fun (D : KD) hD => ?_ | refine fun (hg : (_ : Prop)) => ?_ | fail); all_goals (first | (refine Wr.mk ?_; (try clear gx); repeat first | clear hK hE hT K | clear hR hE hT K) | assumption | skip))
        (refine post_a hres (.inl rfl) ?_; simp only [RSB, ENB, seval, tiAll, hz]; simp only [MAB, seval]; refine ⟨rfl, rfl, ?_, ?_, ?_⟩ <;> (first | rfl | (simp [WKB, Nat.add_comm, hz]; done) | (simp only [WKB, seval])))
end

end Go.Proofs.Ytfnhchcgieeedaa
