/-
  The engine, texts U1 U2 U3 U4 U5 in one. No conditions of its own.
-/
import Derived.Test.YtfdhdkljpeohlaaGreatDoorGO
import Derived.Test.YtfdhdkljpeohlaaGreatDoorZz1
import Derived.Test.YtfdhdkljpeohlaaGreatDoorMKA
import Derived.Test.YtfdhdkljpeohlaaGreatDoorMC
namespace Go.Proofs.YtfdhdkljpeohlaaGreatDoor
set_option linter.unusedSimpArgs false
set_option linter.unusedVariables false
set_option linter.unusedSimpArgs false
set_option linter.unusedVariables false
set_option linter.defProp false
open Go.RowKit

def capI (a : Int) : Int := max 0 (min a 1099511627776)
def addCap (a b : Int) : Int := min (capI a + capI b) 1099511627776
theorem capI_rng (a : Int) : 0 ≤ capI a ∧ capI a ≤ 1099511627776 := by unfold capI; omega
theorem addCap_rng (a b : Int) : 0 ≤ addCap a b ∧ addCap a b ≤ 1099511627776 := by
  have := capI_rng a
  have := capI_rng b
  unfold addCap
  omega

section
variable {α β : Type}
/-- the first k elements, one after the other -/
def fk (f : β → α → β) (b : β) (l : List α) (k : Nat) : β := (l.take k).foldl f b
theorem fk_zero (f : β → α → β) (b : β) (l : List α) : fk f b l 0 = b := rfl
theorem fk_succ (f : β → α → β) (b : β) {l : List α} {k : Nat} (h : k < l.length) : fk f b l (k + 1) = f (fk f b l k) l[k] := by
  unfold fk
  rw [List.take_succ_eq_append_getElem h, List.foldl_append]
  rfl
theorem fk_rng {P : β → Prop} (f : β → α → β) (b : β) (l : List α) (h0 : P b) (h : ∀ b x, x ∈ l → P b → P (f b x)) : ∀ k, P (fk f b l k) := by
  intro k
  induction k with
  | zero => exact h0
  | succ k ih =>
    by_cases hk : k < l.length
    · rw [fk_succ f b hk]; exact h _ _ (List.getElem_mem hk) ih
    · have e : l.take (k + 1) = l.take k := by rw [List.take_of_length_le (by omega), List.take_of_length_le (by omega)]
      unfold fk at ih ⊢
      rw [e]; exact ih
theorem take_succ_map (f : α → β) {l : List α} {k : Nat} (h : k < l.length) : (l.take (k + 1)).map f = (l.take k).map f ++ [f l[k]] := by
  rw [List.take_succ_eq_append_getElem h, List.map_append]
  rfl
end

def viewOk (x : ViewD) : Bool := decide (0 ≤ x.Val ∧ x.Val ≤ 1099511627776 ∧ 0 ≤ x.W ∧ x.W ≤ 1000 ∧ (x.In = true ∨ x.Out = true))
def updOk (j : JobD) (v val : Int) (l : List ViewD) : Bool := decide (1 ≤ j.Prog ∧ j.Prog ≤ 4 ∧ 0 ≤ v ∧ v < 150 ∧ 0 ≤ val ∧ val ≤ 1099511627776 ∧ l.length ≤ 400) && l.all viewOk

def stS (s : Int) (x : ViewD) : Int := if x.In = true then addCap s x.Val else s
def stN (n : Int) (x : ViewD) : Int := if x.Out = true then n + 1 else n
def stC (a : Int) (x : ViewD) : Int := min a x.Val
def stP (a : Int) (x : ViewD) : Int := if x.In = true then min a (addCap x.Val x.W) else a
def rankV (l : List ViewD) : Int := min (157286 + 17 * fk stS 0 l l.length / 20) 1099511627776
def outsN (l : List ViewD) : Int := fk stN 0 l l.length
def toldOf (x : ViewD) : List Int := (if x.In = true then [x.Val / 1000] else []) ++ (if x.Out = true then [x.Val % 1000] else [])
def told (l : List ViewD) : List Int := l.flatMap toldOf
def stM (t : List Int) (p : Int × Int) (a : Int) : Int × Int := if p.2 < (t.count a : Int) ∨ (t.count a : Int) = p.2 ∧ a < p.1 then (a, (t.count a : Int)) else p
def mostOf (t : List Int) (val : Int) : Int := (fk (stM t) (val, 0) t t.length).1
def updVal (p val : Int) (l : List ViewD) : Int :=
  if p = 1 then rankV l else if p = 4 then mostOf (told l) val else if p = 2 then fk stC val l l.length else fk stP val l l.length
def labE (n : Int) (x : ViewD) : Int := min ((if x.Out = true then n else x.Val / 1000) * 1000 + (if x.In = true then n else x.Val % 1000)) 1099511627776
def edgeV (p n outs : Int) (x : ViewD) : Int :=
  if p = 1 then (if x.Out = true then n / outs else x.Val) else if p = 2 then min n x.Val else if p = 3 then (if x.Out = true then n else x.Val)
  else labE n x
def updE (p val : Int) (l : List ViewD) : List Int := l.map (edgeV p (updVal p val l) (outsN l))
def updN (j : JobD) (v val : Int) (l : List ViewD) : Int := if updOk j v val l then updVal j.Prog val l else 0
def updL (j : JobD) (v val : Int) (l : List ViewD) : List Int := if updOk j v val l then updE j.Prog val l else []

theorem viewOk_out {x : ViewD} (h : viewOk x = true) : 0 ≤ x.Val ∧ x.Val ≤ 1099511627776 ∧ 0 ≤ x.W ∧ x.W ≤ 1000 ∧ (x.In = true ∨ x.Out = true) := by
  unfold viewOk at h
  simpa using h
theorem sum_rng (l : List ViewD) (k : Nat) : 0 ≤ fk stS 0 l k ∧ fk stS 0 l k ≤ 1099511627776 := by
  refine fk_rng (P := fun s => 0 ≤ s ∧ s ≤ 1099511627776) stS 0 l (by omega) (fun b x _ hb => ?_) k
  unfold stS
  split
  · exact addCap_rng _ _
  · exact hb
theorem stN_or (n : Int) (x : ViewD) : stN n x = n ∨ stN n x = n + 1 := by
  unfold stN
  split <;> simp
theorem stN_in {n : Int} {x : ViewD} (h : x.Out = true) : stN n x = n + 1 := by unfold stN; rw [if_pos h]
theorem outs_rng (l : List ViewD) : ∀ k, 0 ≤ fk stN 0 l k ∧ fk stN 0 l k ≤ k := by
  intro k
  induction k with
  | zero => exact ⟨by simp [fk], by simp [fk]⟩
  | succ k ih =>
    by_cases hk : k < l.length
    · rw [fk_succ stN 0 hk]
      rcases stN_or (fk stN 0 l k) l[k] with h | h <;> rw [h] <;> constructor <;> (try push_cast) <;> omega
    · have e : l.take (k + 1) = l.take k := by rw [List.take_of_length_le (by omega), List.take_of_length_le (by omega)]
      unfold fk at ih ⊢
      rw [e]; push_cast; omega
theorem outs_mono (l : List ViewD) : ∀ k i, fk stN 0 l k ≤ fk stN 0 l (k + i) := by
  intro k i
  induction i with
  | zero => exact Int.le_refl _
  | succ i ih =>
    refine Int.le_trans ih ?_
    rw [← Nat.add_assoc]
    by_cases hk : k + i < l.length
    · rw [fk_succ stN 0 hk]
      rcases stN_or (fk stN 0 l (k + i)) l[k + i] with h | h <;> rw [h] <;> omega
    · have e : l.take (k + i + 1) = l.take (k + i) := by rw [List.take_of_length_le (by omega), List.take_of_length_le (by omega)]
      unfold fk
      rw [e]; exact Int.le_refl _
theorem outs_pos {l : List ViewD} {k : Nat} (h : k < l.length) (ho : l[k].Out = true) : 0 < outsN l := by
  have h1 := outs_mono l (k + 1) (l.length - (k + 1))
  have h2 := (outs_rng l k).1
  rw [show k + 1 + (l.length - (k + 1)) = l.length by omega, fk_succ stN 0 h] at h1
  rw [stN_in ho] at h1
  unfold outsN
  omega
theorem conn_rng {l : List ViewD} (hl : l.all viewOk = true) {val : Int} (hv : 0 ≤ val ∧ val ≤ 1099511627776) (k : Nat) : 0 ≤ fk stC val l k ∧ fk stC val l k ≤ 1099511627776 := by
  refine fk_rng (P := fun s => 0 ≤ s ∧ s ≤ 1099511627776) stC val l hv (fun b x hx hb => ?_) k
  have := viewOk_out (List.all_eq_true.1 hl x hx)
  unfold stC
  omega
theorem path_rng {l : List ViewD} {val : Int} (hv : 0 ≤ val ∧ val ≤ 1099511627776) (k : Nat) : 0 ≤ fk stP val l k ∧ fk stP val l k ≤ 1099511627776 := by
  refine fk_rng (P := fun s => 0 ≤ s ∧ s ≤ 1099511627776) stP val l hv (fun b x hx hb => ?_) k
  have := addCap_rng x.Val x.W
  unfold stP
  split <;> omega
theorem told_rng {l : List ViewD} (hl : l.all viewOk = true) : ∀ a ∈ told l, 0 ≤ a ∧ a ≤ 1099511627776 := by
  intro a ha
  unfold told at ha
  obtain ⟨x, hx, hax⟩ := List.mem_flatMap.1 ha
  have := viewOk_out (List.all_eq_true.1 hl x hx)
  unfold toldOf at hax
  rcases List.mem_append.1 hax with h | h <;> split at h <;> simp at h <;> omega
theorem toldOf_len (x : ViewD) : (toldOf x).length ≤ 2 := by
  unfold toldOf
  split <;> split <;> simp
theorem told_len (l : List ViewD) : (told l).length ≤ 2 * l.length := by
  induction l with
  | nil => simp [told]
  | cons x l ih =>
    have := toldOf_len x
    unfold told at ih ⊢
    rw [List.flatMap_cons, List.length_append, List.length_cons]
    omega
theorem told_take {l : List ViewD} {k : Nat} (h : k < l.length) : told (l.take (k + 1)) = told (l.take k) ++ toldOf l[k] := by
  unfold told
  rw [List.take_succ_eq_append_getElem h, List.flatMap_append]
  simp
theorem most_rng {t : List Int} (ht : ∀ a ∈ t, 0 ≤ a ∧ a ≤ 1099511627776) {val : Int} (hv : 0 ≤ val ∧ val ≤ 1099511627776) (k : Nat) :
    (0 ≤ (fk (stM t) (val, 0) t k).1 ∧ (fk (stM t) (val, 0) t k).1 ≤ 1099511627776) ∧ 0 ≤ (fk (stM t) (val, 0) t k).2 ∧ (fk (stM t) (val, 0) t k).2 ≤ t.length := by
  refine fk_rng (P := fun p : Int × Int => (0 ≤ p.1 ∧ p.1 ≤ 1099511627776) ∧ 0 ≤ p.2 ∧ p.2 ≤ t.length) (stM t) (val, 0) t ⟨hv, Int.le_refl _, by simp⟩ (fun b x hx hb => ?_) k
  have h1 := ht x hx
  have h2 := List.count_le_length (a := x) (l := t)
  unfold stM
  split
  · exact ⟨h1, by omega, by simp only; omega⟩
  · exact hb

theorem toldOf_tt {x : ViewD} (h1 : x.In = true) (h2 : x.Out = true) : toldOf x = [x.Val / 1000, x.Val % 1000] := by unfold toldOf; rw [if_pos h1, if_pos h2]; rfl
theorem toldOf_tf {x : ViewD} (h1 : x.In = true) (h2 : x.Out = false) : toldOf x = [x.Val / 1000] := by unfold toldOf; rw [if_pos h1, if_neg (by simp [h2])]; rfl
theorem toldOf_ft {x : ViewD} (h1 : x.In = false) (h2 : x.Out = true) : toldOf x = [x.Val % 1000] := by unfold toldOf; rw [if_neg (by simp [h1]), if_pos h2]; rfl
theorem toldOf_ff {x : ViewD} (h1 : x.In = false) (h2 : x.Out = false) : toldOf x = [] := by unfold toldOf; rw [if_neg (by simp [h1]), if_neg (by simp [h2])]; rfl
theorem told_take_len {l : List ViewD} (h : l.length ≤ 400) (k : Nat) : (told (l.take k)).length ≤ 800 := by
  have := told_len (l.take k)
  rw [List.length_take] at this
  omega
theorem told_zero (l : List ViewD) : told (l.take 0) = [] := rfl
theorem told_nil : told [] = [] := rfl
theorem sum_in {l : List ViewD} {k : Nat} (h : k < l.length) (hi : l[k].In = true) : fk stS 0 l (k + 1) = addCap (fk stS 0 l k) l[k].Val := by
  rw [fk_succ stS 0 h]; exact if_pos hi
theorem sum_out {l : List ViewD} {k : Nat} (h : k < l.length) (hi : l[k].In = false) : fk stS 0 l (k + 1) = fk stS 0 l k := by
  rw [fk_succ stS 0 h]; exact if_neg (by simp [hi])
theorem outs_in {l : List ViewD} {k : Nat} (h : k < l.length) (hi : l[k].Out = true) : fk stN 0 l (k + 1) = fk stN 0 l k + 1 := by
  rw [fk_succ stN 0 h, stN_in hi]
theorem outs_out {l : List ViewD} {k : Nat} (h : k < l.length) (hi : l[k].Out = false) : fk stN 0 l (k + 1) = fk stN 0 l k := by
  rw [fk_succ stN 0 h]; exact if_neg (by simp [hi])
theorem conn_step {l : List ViewD} {k : Nat} {val : Int} (h : k < l.length) : fk stC val l (k + 1) = min (fk stC val l k) l[k].Val := by
  rw [fk_succ stC val h]; rfl
theorem path_in {l : List ViewD} {k : Nat} {val : Int} (h : k < l.length) (hi : l[k].In = true) : fk stP val l (k + 1) = min (fk stP val l k) (addCap l[k].Val l[k].W) := by
  rw [fk_succ stP val h]; exact if_pos hi
theorem path_out {l : List ViewD} {k : Nat} {val : Int} (h : k < l.length) (hi : l[k].In = false) : fk stP val l (k + 1) = fk stP val l k := by
  rw [fk_succ stP val h]; exact if_neg (by simp [hi])
theorem count_eq {t : List Int} {i : Nat} {a : Int} (h : i < t.length) (e : a = t[i]) : (t.take (i + 1)).count a = (t.take i).count a + 1 := by
  rw [List.take_succ_eq_append_getElem h, List.count_append]; simp [e]
theorem count_ne {t : List Int} {i : Nat} {a : Int} (h : i < t.length) (e : ¬ a = t[i]) : (t.take (i + 1)).count a = (t.take i).count a := by
  rw [List.take_succ_eq_append_getElem h, List.count_append]
  have : ¬ t[i] = a := fun h => e h.symm
  simp [this]
theorem most_yes {t : List Int} {val : Int} {k : Nat} (h : k < t.length) (e : (fk (stM t) (val, 0) t k).2 < (t.count t[k] : Int) ∨ (t.count t[k] : Int) = (fk (stM t) (val, 0) t k).2 ∧ t[k] < (fk (stM t) (val, 0) t k).1) :
    fk (stM t) (val, 0) t (k + 1) = (t[k], (t.count t[k] : Int)) := by
  rw [fk_succ (stM t) (val, 0) h]; exact if_pos e
theorem most_no {t : List Int} {val : Int} {k : Nat} (h : k < t.length) (e : ¬ ((fk (stM t) (val, 0) t k).2 < (t.count t[k] : Int) ∨ (t.count t[k] : Int) = (fk (stM t) (val, 0) t k).2 ∧ t[k] < (fk (stM t) (val, 0) t k).1)) :
    fk (stM t) (val, 0) t (k + 1) = fk (stM t) (val, 0) t k := by
  rw [fk_succ (stM t) (val, 0) h]; exact if_neg e

/-- The label that is told most often, the least of them: what a walk over the labels in any order finds. -/
structure Most (t : List Int) (S : Int → Prop) (val : Int) (p : Int × Int) : Prop where
  none : (∀ a, ¬ S a) → p = (val, 0)
  some : (∃ a, S a) → S p.1 ∧ p.2 = (t.count p.1 : Int)
  max : ∀ a, S a → (t.count a : Int) ≤ p.2
  least : ∀ a, S a → (t.count a : Int) = p.2 → p.1 ≤ a

theorem Most.start (t : List Int) (val : Int) : Most t (fun _ => False) val (val, 0) := ⟨fun _ => rfl, fun ⟨_, h⟩ => h.elim, fun _ h => h.elim, fun _ h => h.elim⟩

theorem Most.step {t : List Int} {S : Int → Prop} {val : Int} {p : Int × Int} (h : Most t S val p) {a : Int} (ha : a ∈ t) (hS : ∀ b, S b → b ∈ t) : Most t (fun b => S b ∨ b = a) val (stM t p a) := by
  have hc : 0 < t.count a := List.count_pos_iff.2 ha
  unfold stM
  by_cases he : ∃ b, S b
  · obtain ⟨h1, h2⟩ := h.some he
    split
    · rename_i hn
      refine ⟨fun h => absurd (.inr rfl) (h a), fun _ => ⟨.inr rfl, rfl⟩, fun b hb => ?_, fun b hb hbe => ?_⟩
      · rcases hb with hb | rfl
        · have := h.max b hb; simp only; omega
        · exact Int.le_refl _
      · rcases hb with hb | rfl
        · have := h.max b hb
          simp only at hbe ⊢
          rcases hn with hn | ⟨hn, hlt⟩
          · omega
          · have := h.least b hb (by omega); omega
        · exact Int.le_refl _
    · rename_i hn
      refine ⟨fun h => absurd (.inr rfl) (h a), fun _ => ⟨.inl h1, h2⟩, fun b hb => ?_, fun b hb hbe => ?_⟩
      · rcases hb with hb | rfl
        · exact h.max b hb
        · omega
      · rcases hb with hb | rfl
        · exact h.least b hb hbe
        · omega
  · have hp := h.none (fun b hb => he ⟨b, hb⟩)
    subst hp
    rw [if_pos (.inl (by simp only; omega))]
    refine ⟨fun h => absurd (.inr rfl) (h a), fun _ => ⟨.inr rfl, rfl⟩, fun b hb => ?_, fun b hb hbe => ?_⟩
    · rcases hb with hb | rfl
      · exact absurd ⟨b, hb⟩ he
      · exact Int.le_refl _
    · rcases hb with hb | rfl
      · exact absurd ⟨b, hb⟩ he
      · exact Int.le_refl _

theorem Most.same {t : List Int} {S S' : Int → Prop} {val : Int} {p : Int × Int} (h : Most t S val p) (hS : ∀ a, S a ↔ S' a) : Most t S' val p :=
  ⟨fun h0 => h.none fun a ha => h0 a ((hS a).1 ha), fun ⟨a, ha⟩ => ⟨(hS _).1 (h.some ⟨a, (hS a).2 ha⟩).1, (h.some ⟨a, (hS a).2 ha⟩).2⟩, fun a ha => h.max a ((hS a).2 ha), fun a ha => h.least a ((hS a).2 ha)⟩

theorem Most.eq {t : List Int} {S : Int → Prop} {val : Int} {p q : Int × Int} (h : Most t S val p) (h' : Most t S val q) : p = q := by
  by_cases he : ∃ a, S a
  · obtain ⟨h1, h2⟩ := h.some he
    obtain ⟨h3, h4⟩ := h'.some he
    have h5 := h.max _ h3
    have h6 := h'.max _ h1
    have h7 := h.least _ h3 (by omega)
    have h8 := h'.least _ h1 (by omega)
    exact Prod.ext (by omega) (by omega)
  · rw [h.none fun a ha => he ⟨a, ha⟩, h'.none fun a ha => he ⟨a, ha⟩]

end Go.Proofs.YtfdhdkljpeohlaaGreatDoor

namespace Go.Proofs.YtfdhdkljpeohlaaGreatDoor
set_option linter.unusedSimpArgs false
set_option linter.unusedVariables false
set_option linter.defProp false
open Go.RowKit

theorem l10Cap_k (a : Int) : FnOK Tryz.prog 147 ⟨0, [], [.c (.v (.int .i64 a))], .c (.v (.int .i64 (capI a))), [], 0⟩ := by
  have c : FnOK Tryz.prog 148 ⟨0, [], [.c (.v (.int .i64 a)), .c (.v (.int .i64 1099511627776))], .c (.v (.int .i64 (capI a))), [], 0⟩ := by
    refine fnOK_of true mixed Tryz.func148 rfl (by rfl) (by rfl) ?_
    have hres := congrArg Array.toList Tryz.results148
    simp only [Tryz.ntmps148, BGB, seval]
    (have gx := true_and True; refine go ?_; (repeat' first | exact Ef.mk | apply Lf.mk | refine fun (K : KT) hK hE hT => ?_ | refine fun (KS : KE) hKS => ?_ | refine fun (D : KD) hD => ?_ | refine fun (hg : (_ : Prop)) => ?_ | fail); all_goals (first | (refine Wr.mk ?_; (try clear gx); repeat first | clear hK hE hT K | clear hR hE hT K) | assumption | skip))
    all_goals (refine post_a hres (.inl rfl) ?_; simp only [RSB, ENB, seval, tiAll, true_and]; simp only [MAB, seval]; refine ⟨rfl, rfl, ?_, ?_, ?_⟩ <;> (first | rfl | (simp [WKB, Nat.add_comm, true_and]; done) | (simp only [WKB, seval])))
    all_goals (refine congrArg (fun b => SV.c (CV.v (Value.int IntKind.i64 b))) ?_; unfold capI; omega)
  refine fnOK_of true mixed Tryz.func147 rfl (by rfl) (by rfl) ?_
  have hres := congrArg Array.toList Tryz.results147
  simp only [Tryz.ntmps147, BGB, seval]
  (have gx := true_and True; have q1 := c; refine go ?_; (repeat' first | exact Ef.mk | apply Lf.mk | refine fun (K : KT) hK hE hT => ?_ | refine fun (KS : KE) hKS => ?_ | refine fun (D : KD) hD => ?_ | refine fun (hg : (_ : Prop)) => ?_ | fail); all_goals (first | (refine Wr.mk ?_; (try clear gx q1); repeat first | clear hK hE hT K | clear hR hE hT K) | assumption | skip))
  (refine post_a hres (.inl rfl) ?_; simp only [RSB, ENB, seval, tiAll, true_and]; simp only [MAB, seval]; refine ⟨rfl, rfl, ?_, ?_, ?_⟩ <;> (first | rfl | (simp [WKB, Nat.add_comm, true_and]; done) | (simp only [WKB, seval])))

theorem capI_add (a b : Int) : capI (capI a + capI b) = addCap a b := by
  have h1 := capI_rng a
  have h2 := capI_rng b
  show max 0 (min (capI a + capI b) 1099511627776) = min (capI a + capI b) 1099511627776
  omega

theorem specAddCap_k (a b : Int) : FnOK Tryz.prog 146 ⟨0, [], [.c (.v (.int .i64 a)), .c (.v (.int .i64 b))], .c (.v (.int .i64 (addCap a b))), [], 0⟩ := by
  have h1 := capI_rng a
  have h2 := capI_rng b
  have c := l10Cap_k (capI a + capI b)
  rw [capI_add] at c
  refine fnOK_of true mixed Tryz.func146 rfl (by rfl) (by rfl) ?_
  have hres := congrArg Array.toList Tryz.results146
  simp only [Tryz.ntmps146, BGB, seval]
  (have gx := true_and True; have q1 := l10Cap_k a; have q2 := l10Cap_k b; have q3 := c; refine go ?_; (repeat' first | exact Ef.mk | apply Lf.mk | refine fun (K : KT) hK hE hT => ?_ | refine fun (KS : KE) hKS => ?_ | refine fun (D : KD) hD => ?_ | refine fun (hg : (_ : Prop)) => ?_ | fail); all_goals (first | (refine Wr.mk ?_; (try clear gx q1 q2 q3); repeat first | clear hK hE hT K | clear hR hE hT K) | assumption | skip))
  (refine post_a hres (.inl rfl) ?_; simp only [RSB, ENB, seval, tiAll, true_and]; simp only [MAB, seval]; refine ⟨rfl, rfl, ?_, ?_, ?_⟩ <;> (first | rfl | (simp [WKB, Nat.add_comm, true_and]; done) | (simp only [WKB, seval])))

theorem l10Min_k (a b : Int) : FnOK Tryz.prog 145 ⟨0, [], [.c (.v (.int .i64 a)), .c (.v (.int .i64 b))], .c (.v (.int .i64 (min a b))), [], 0⟩ := by
  refine fnOK_of true mixed Tryz.func145 rfl (by rfl) (by rfl) ?_
  have hres := congrArg Array.toList Tryz.results145
  simp only [Tryz.ntmps145, BGB, seval]
  (have gx := true_and True; refine go ?_; (repeat' first | exact Ef.mk | apply Lf.mk | refine fun (K : KT) hK hE hT => ?_ | refine fun (KS : KE) hKS => ?_ | refine fun (D : KD) hD => ?_ | refine fun (hg : (_ : Prop)) => ?_ | fail); all_goals (first | (refine Wr.mk ?_; (try clear gx); repeat first | clear hK hE hT K | clear hR hE hT K) | assumption | skip))
  all_goals (refine post_a hres (.inl rfl) ?_; simp only [RSB, ENB, seval, tiAll, true_and]; simp only [MAB, seval]; refine ⟨rfl, rfl, ?_, ?_, ?_⟩ <;> (first | rfl | (simp [WKB, Nat.add_comm, true_and]; done) | (simp only [WKB, seval])))
  all_goals (refine congrArg (fun b => SV.c (CV.v (Value.int IntKind.i64 b))) ?_; omega)

theorem l10Vertex_k (a : Int) : FnOK Tryz.prog 113 ⟨0, [], [.c (.v (.int .i64 a))], .c (.v (.bool (decide (0 ≤ a ∧ a < 150)))), [], 0⟩ := by
  refine fnOK_of true mixed Tryz.func113 rfl (by rfl) (by rfl) ?_
  have hres := congrArg Array.toList Tryz.results113
  simp only [Tryz.ntmps113, BGB, seval]
  (have gx := true_and True; refine go ?_; (repeat' first | exact Ef.mk | apply Lf.mk | refine fun (K : KT) hK hE hT => ?_ | refine fun (KS : KE) hKS => ?_ | refine fun (D : KD) hD => ?_ | refine fun (hg : (_ : Prop)) => ?_ | fail); all_goals (first | (refine Wr.mk ?_; (try clear gx); repeat first | clear hK hE hT K | clear hR hE hT K) | assumption | skip))
  all_goals (refine post_a hres (.inl rfl) ?_; simp only [RSB, ENB, seval, tiAll, true_and]; simp only [MAB, seval]; refine ⟨rfl, rfl, ?_, ?_, ?_⟩ <;> (first | rfl | (simp [WKB, Nat.add_comm, true_and]; done) | (simp only [WKB, seval])))
  all_goals (refine congrArg (fun b => SV.c (CV.v (Value.bool b))) ?_; symm; first | (rw [decide_eq_false_iff_not]; omega) | (rw [decide_eq_true_eq]; omega) | (rw [decide_eq_decide]; omega) | (rw [Bool.eq_iff_iff]; simp only [decide_eq_true_eq, beq_iff_eq]; omega))

theorem viewOk_no {x : ViewD} (h : x.Val < 0 ∨ 1099511627776 < x.Val ∨ x.W < 0 ∨ 1000 < x.W ∨ (x.In = false ∧ x.Out = false)) : viewOk x = false := by
  unfold viewOk
  rw [decide_eq_false_iff_not]
  rintro ⟨h1, h2, h3, h4, h5⟩
  rcases h with h | h | h | h | ⟨h, h'⟩
  · omega
  · omega
  · omega
  · omega
  · rw [h, h'] at h5; simp at h5

theorem viewOk_yes {x : ViewD} (h1 : 0 ≤ x.Val) (h2 : x.Val ≤ 1099511627776) (h3 : 0 ≤ x.W) (h4 : x.W ≤ 1000) (h5 : x.In = true ∨ x.Out = true) : viewOk x = true := by
  unfold viewOk
  rw [decide_eq_true_eq]
  exact ⟨h1, h2, h3, h4, h5⟩

def lviews (l : List ViewD) : Bool := l.all viewOk && decide (l.length ≤ 400)

set_option maxHeartbeats 1000000 in
theorem l10Views_k (l : List ViewD) (hl : l.length ≤ 9223372036854775807) : FnOK Tryz.prog 137 ⟨1, [(0, some (.ro (l.map ViewD.k)))], [.c (.sl 0 4 0 l.length)], .c (.v (.bool (lviews l))), [], 1⟩ := by
  refine fnOK_of true mixed Tryz.func137 rfl (by rfl) (by rfl) ?_
  have hres := congrArg Array.toList Tryz.results137
  simp only [Tryz.ntmps137, BGB, seval]
  (have gx := true_and True; refine go ?_; (repeat' first | exact Ef.mk | apply Lf.mk | refine fun (K : KT) hK hE hT => ?_ | refine fun (KS : KE) hKS => ?_ | refine fun (D : KD) hD => ?_ | refine fun (hg : (_ : Prop)) => ?_ | fail); all_goals (first | (refine Wr.mk ?_; (try clear gx); repeat first | clear hK hE hT K | clear hR hE hT K) | assumption | skip))
  refine loop_v (X := {k : Nat // k ≤ l.length ∧ Rnd (∀ i (hi : i < l.length), i < k → viewOk l[i] = true)}) [] (fun x => [(7, .c (.v (.int .i64 ((x.1 : Nat) : Int))))]) (fun x => [(0, some (.ro (l.map ViewD.k)))]) 1 (fun x => l.length - x.1) ⟨0, by omega, ⟨fun i hi h => by omega⟩⟩ ?_
  simp only [KPB, seval]
  refine ⟨?_, ?_⟩
  · (refine wk_a ?_; simp only [MAB, seval]; refine ⟨rfl, rfl, (by decide), ?_, ?_⟩; all_goals (first | (simp only [WKB, seval, true_and]; done) | (simp [WKB, seval, true_and]; done) | simp only [WKB, seval]))
  · rintro ⟨k, hk, hi⟩ K hR hE hT
    (have gx := And.intro (@List.length_map.{0,0}) (And.intro @List.getElem_map.{0,0} @ViewD.k.eq_1); refine go ?_; (repeat' first | exact Ef.mk | apply Lf.mk | refine fun (K : KT) hK hE hT => ?_ | refine fun (KS : KE) hKS => ?_ | refine fun (D : KD) hD => ?_ | refine fun (hg : (_ : Prop)) => ?_ | fail); all_goals (first | (refine Wr.mk ?_; (try clear gx); repeat first | clear hK hE hT K | clear hR hE hT K) | assumption | skip))
    all_goals first
      | (have e : viewOk (l[k]'(by omega)) = false := viewOk_no (by first | (refine .inr (.inr (.inr (.inr ⟨?_, ?_⟩))) <;> assumption) | omega)
         have e2 : lviews l = false := by unfold lviews; rw [all_no (by omega) e, Bool.false_and]
         (refine post_a hres (.inl rfl) ?_; simp only [RSB, ENB, seval, tiAll, e2]; simp only [MAB, seval]; refine ⟨rfl, rfl, ?_, ?_, ?_⟩ <;> (first | rfl | (simp [WKB, Nat.add_comm, e2]; done) | (simp only [WKB, seval]))))
      | (have e : viewOk (l[k]'(by omega)) = true := viewOk_yes (by omega) (by omega) (by omega) (by omega) (by first | exact .inl (by assumption) | exact .inr (by assumption))
         (refine hR.out ⟨k + 1, by omega, ⟨all_more hi.out (by omega) e⟩⟩ _ _ _ (by simp only; omega) ?_; (refine wk_a ?_; simp only [MAB, seval]; refine ⟨rfl, rfl, (by decide), ?_, ?_⟩; all_goals (first | (simp only [WKB, seval, true_and]; done) | (simp [WKB, seval, true_and]; done) | simp only [WKB, seval]))))
      | (have e : lviews l = decide (l.length ≤ 400) := by unfold lviews; rw [all_yes (p := viewOk) (k := k) (by omega) hi.out, Bool.true_and]
         (refine post_a hres (.inl rfl) ?_; simp only [RSB, ENB, seval, tiAll, e]; simp only [MAB, seval]; refine ⟨rfl, rfl, ?_, ?_, ?_⟩ <;> (first | rfl | (simp [WKB, Nat.add_comm, e]; done) | (simp only [WKB, seval])))
         all_goals (refine congrArg (fun b => SV.c (CV.v (Value.bool b))) ?_; symm; first | (rw [decide_eq_false_iff_not]; omega) | (rw [decide_eq_true_eq]; omega) | (rw [decide_eq_decide]; omega) | (rw [Bool.eq_iff_iff]; simp only [decide_eq_true_eq, beq_iff_eq]; omega)))

theorem rank_cap (l : List ViewD) : capI (157286 + 17 * fk stS 0 l l.length / 20) = rankV l := by
  have := sum_rng l l.length
  unfold rankV capI
  omega

set_option maxHeartbeats 1000000 in
theorem l10Rank_k (l : List ViewD) (hl : l.length ≤ 400) : FnOK Tryz.prog 142 ⟨1, [(0, some (.ro (l.map ViewD.k)))], [.c (.sl 0 4 0 l.length)], .c (.v (.int .i64 (rankV l))), [], 1⟩ := by
  refine fnOK_of true mixed Tryz.func142 rfl (by rfl) (by rfl) ?_
  have hres := congrArg Array.toList Tryz.results142
  simp only [Tryz.ntmps142, BGB, seval]
  (have gx := true_and True; refine go ?_; (repeat' first | exact Ef.mk | apply Lf.mk | refine fun (K : KT) hK hE hT => ?_ | refine fun (KS : KE) hKS => ?_ | refine fun (D : KD) hD => ?_ | refine fun (hg : (_ : Prop)) => ?_ | fail); all_goals (first | (refine Wr.mk ?_; (try clear gx); repeat first | clear hK hE hT K | clear hR hE hT K) | assumption | skip))
  refine loop_v (X := {k : Nat // k ≤ l.length}) [] (fun x => [(3, .c (.v (.int .i64 (fk stS 0 l x.1)))), (8, .c (.v (.int .i64 ((x.1 : Nat) : Int))))]) (fun x => [(0, some (.ro (l.map ViewD.k)))]) 1 (fun x => l.length - x.1) ⟨0, by omega⟩ ?_
  simp only [KPB, seval]
  refine ⟨?_, ?_⟩
  · (refine wk_a ?_; simp only [MAB, seval]; refine ⟨rfl, rfl, (by decide), ?_, ?_⟩; all_goals (first | (simp only [WKB, seval, fk_zero]; done) | (simp [WKB, seval, fk_zero]; done) | simp only [WKB, seval]))
  · rintro ⟨k, hk⟩ K hR hE hT
    have s1 := sum_rng l k
    (have gx := And.intro (@List.length_map.{0,0}) (And.intro @List.getElem_map.{0,0} @ViewD.k.eq_1); have q1 := fun hq1 => specAddCap_k (fk stS 0 l k) (l[k]'hq1).Val; have q2 := l10Cap_k (157286 + 17 * fk stS 0 l k / 20); refine go ?_; (repeat' first | exact Ef.mk | apply Lf.mk | refine fun (K : KT) hK hE hT => ?_ | refine fun (KS : KE) hKS => ?_ | refine fun (D : KD) hD => ?_ | refine fun (hg : (_ : Prop)) => ?_ | fail); all_goals (first | (refine Wr.mk ?_; (try clear gx q1 q2); repeat first | clear hK hE hT K | clear hR hE hT K) | assumption | skip))
    · have e := sum_in (show k < l.length by first | assumption | omega) (by assumption)
      (refine hR.out ⟨k + 1, by omega⟩ _ _ _ (by simp only; omega) ?_; (refine wk_a ?_; simp only [MAB, seval]; refine ⟨rfl, rfl, (by decide), ?_, ?_⟩; all_goals (first | (simp only [WKB, seval, e]; done) | (simp [WKB, seval, e]; done) | simp only [WKB, seval])))
    · have e := sum_out (show k < l.length by first | assumption | omega) (by assumption)
      (refine hR.out ⟨k + 1, by omega⟩ _ _ _ (by simp only; omega) ?_; (refine wk_a ?_; simp only [MAB, seval]; refine ⟨rfl, rfl, (by decide), ?_, ?_⟩; all_goals (first | (simp only [WKB, seval, e]; done) | (simp [WKB, seval, e]; done) | simp only [WKB, seval])))
    · obtain rfl : k = l.length := by omega
      (refine post_a hres (.inl rfl) ?_; simp only [RSB, ENB, seval, tiAll, rank_cap]; simp only [MAB, seval]; refine ⟨rfl, rfl, ?_, ?_, ?_⟩ <;> (first | rfl | (simp [WKB, Nat.add_comm, rank_cap]; done) | (simp only [WKB, seval])))

set_option maxHeartbeats 1000000 in
theorem l10Told_k (l : List ViewD) (hl : l.length ≤ 400) (ho : l.all viewOk = true) : FnOK Tryz.prog 144 ⟨1, [(0, some (.ro (l.map ViewD.k)))], [.c (.sl 0 4 0 l.length)], .c (.sl 1 1 0 (told l).length), [(1, some (.row 3 ((told l).map intK)))], 2⟩ := by
  refine fnOK_of true mixed Tryz.func144 rfl (by rfl) (by rfl) ?_
  have hres := congrArg Array.toList Tryz.results144
  simp only [Tryz.ntmps144, BGB, seval]
  (have gx := true_and True; refine go ?_; (repeat' first | exact Ef.mk | apply Lf.mk | refine fun (K : KT) hK hE hT => ?_ | refine fun (KS : KE) hKS => ?_ | refine fun (D : KD) hD => ?_ | refine fun (hg : (_ : Prop)) => ?_ | fail); all_goals (first | (refine Wr.mk ?_; (try clear gx); repeat first | clear hK hE hT K | clear hR hE hT K) | assumption | skip))
  refine loop_v (X := {k : Nat // k ≤ l.length}) [6] (fun x => [(3, .c (.sl 1 1 0 (told (l.take x.1)).length)), (9, .c (.v (.int .i64 ((x.1 : Nat) : Int))))]) (fun x => [(0, some (.ro (l.map ViewD.k))), (1, some (.row 3 ((told (l.take x.1)).map intK)))]) 2 (fun x => l.length - x.1) ⟨0, by omega⟩ ?_
  simp only [KPB, seval]
  refine ⟨?_, ?_⟩
  · (refine wk_a ?_; simp only [MAB, seval]; refine ⟨rfl, rfl, (by decide), ?_, ?_⟩; all_goals (first | (simp only [WKB, seval, told_zero, told_nil]; done) | (simp [WKB, seval, told_zero, told_nil]; done) | simp only [WKB, seval]))
  · rintro ⟨k, hk⟩ K hR hE hT
    have l1 := told_take_len hl k
    rcases Nat.lt_or_ge k l.length with hlt | hge
    · obtain ⟨v1, v2, _, _, _⟩ := viewOk_out (List.all_eq_true.1 ho l[k] (List.getElem_mem hlt))
      have e := told_take hlt
      (have gx := And.intro (@List.length_map.{0,0}) (And.intro (@List.getElem_map.{0,0}) (And.intro (@List.length_append.{0}) (And.intro @List.length_singleton.{0} @ViewD.k.eq_1))); refine go ?_; (repeat' first | exact Ef.mk | apply Lf.mk | refine fun (K : KT) hK hE hT => ?_ | refine fun (KS : KE) hKS => ?_ | refine fun (D : KD) hD => ?_ | refine fun (hg : (_ : Prop)) => ?_ | fail); all_goals (first | (refine Wr.mk ?_; (try clear gx); repeat first | clear hK hE hT K | clear hR hE hT K) | assumption | skip))
      · have e2 := toldOf_tt (x := l[k]) (by assumption) (by assumption)
        rw [e2] at e
        (refine hR.out ⟨k + 1, by omega⟩ _ _ _ (by simp only; omega) ?_; (refine wk_a ?_; simp only [MAB, seval]; refine ⟨rfl, rfl, (by decide), ?_, ?_⟩; all_goals (first | (simp only [WKB, seval, e, intK]; done) | (simp [WKB, seval, e, intK]; done) | simp only [WKB, seval])))
      · have e2 := toldOf_tf (x := l[k]) (by assumption) (by assumption)
        rw [e2] at e
        (refine hR.out ⟨k + 1, by omega⟩ _ _ _ (by simp only; omega) ?_; (refine wk_a ?_; simp only [MAB, seval]; refine ⟨rfl, rfl, (by decide), ?_, ?_⟩; all_goals (first | (simp only [WKB, seval, e, intK]; done) | (simp [WKB, seval, e, intK]; done) | simp only [WKB, seval])))
      · have e2 := toldOf_ft (x := l[k]) (by assumption) (by assumption)
        rw [e2] at e
        (refine hR.out ⟨k + 1, by omega⟩ _ _ _ (by simp only; omega) ?_; (refine wk_a ?_; simp only [MAB, seval]; refine ⟨rfl, rfl, (by decide), ?_, ?_⟩; all_goals (first | (simp only [WKB, seval, e, intK]; done) | (simp [WKB, seval, e, intK]; done) | simp only [WKB, seval])))
      · have e2 := toldOf_ff (x := l[k]) (by assumption) (by assumption)
        rw [e2, List.append_nil] at e
        (refine hR.out ⟨k + 1, by omega⟩ _ _ _ (by simp only; omega) ?_; (refine wk_a ?_; simp only [MAB, seval]; refine ⟨rfl, rfl, (by decide), ?_, ?_⟩; all_goals (first | (simp only [WKB, seval, e]; done) | (simp [WKB, seval, e]; done) | simp only [WKB, seval])))
    · obtain rfl : k = l.length := by omega
      (have gx := And.intro (@List.length_map.{0,0}) (And.intro @List.getElem_map.{0,0} @ViewD.k.eq_1); refine go ?_; (repeat' first | exact Ef.mk | apply Lf.mk | refine fun (K : KT) hK hE hT => ?_ | refine fun (KS : KE) hKS => ?_ | refine fun (D : KD) hD => ?_ | refine fun (hg : (_ : Prop)) => ?_ | fail); all_goals (first | (refine Wr.mk ?_; (try clear gx); repeat first | clear hK hE hT K | clear hR hE hT K) | assumption | skip))
      (refine post_a hres (.inl rfl) ?_; simp only [RSB, ENB, seval, tiAll, List.take_length]; simp only [MAB, seval]; refine ⟨rfl, rfl, ?_, ?_, ?_⟩ <;> (first | rfl | (simp [WKB, Nat.add_comm, List.take_length]; done) | (simp only [WKB, seval])))

set_option maxHeartbeats 2000000 in
theorem l10Most_k (t : List Int) (val : Int) (ht : ∀ a ∈ t, 0 ≤ a ∧ a ≤ 1099511627776) (hv : 0 ≤ val ∧ val ≤ 1099511627776) (hl : t.length ≤ 800) : FnOK Tryz.prog 143 ⟨1, [(0, some (.ro (t.map intK)))], [.c (.sl 0 1 0 t.length), .c (.v (.int .i64 val))], .c (.v (.int .i64 (mostOf t val))), [], 1⟩ := by
  refine fnOK_of true mixed Tryz.func143 rfl (by rfl) (by rfl) ?_
  have hres := congrArg Array.toList Tryz.results143
  simp only [Tryz.ntmps143, BGB, seval]
  (have gx := true_and True; refine go ?_; (repeat' first | exact Ef.mk | apply Lf.mk | refine fun (K : KT) hK hE hT => ?_ | refine fun (KS : KE) hKS => ?_ | refine fun (D : KD) hD => ?_ | refine fun (hg : (_ : Prop)) => ?_ | fail); all_goals (first | (refine Wr.mk ?_; (try clear gx); repeat first | clear hK hE hT K | clear hR hE hT K) | assumption | skip))
  refine loop_v (X := {k : Nat // k ≤ t.length}) [] (fun x => [(5, .c (.v (.int .i64 (fk (stM t) (val, 0) t x.1).1))), (6, .c (.v (.int .i64 (fk (stM t) (val, 0) t x.1).2))), (15, .c (.v (.int .i64 ((x.1 : Nat) : Int))))]) (fun x => [(0, some (.ro (t.map intK)))]) 1 (fun x => t.length - x.1) ⟨0, by omega⟩ ?_
  simp only [KPB, seval]
  refine ⟨?_, ?_⟩
  · (refine wk_a ?_; simp only [MAB, seval]; refine ⟨rfl, rfl, (by decide), ?_, ?_⟩; all_goals (first | (simp only [WKB, seval, fk_zero]; done) | (simp [WKB, seval, fk_zero]; done) | simp only [WKB, seval]))
  · rintro ⟨k, hk⟩ K hR hE hT
    obtain ⟨m1, m2⟩ := most_rng ht hv k
    rcases Nat.lt_or_ge k t.length with hlt | hge
    case inr =>
      obtain rfl : k = t.length := by omega
      (have gx := And.intro (@List.length_map.{0,0}) (And.intro @List.getElem_map.{0,0} @intK.eq_1); refine go ?_; (repeat' first | exact Ef.mk | apply Lf.mk | refine fun (K : KT) hK hE hT => ?_ | refine fun (KS : KE) hKS => ?_ | refine fun (D : KD) hD => ?_ | refine fun (hg : (_ : Prop)) => ?_ | fail); all_goals (first | (refine Wr.mk ?_; (try clear gx); repeat first | clear hK hE hT K | clear hR hE hT K) | assumption | skip))
      (refine post_a hres (.inl rfl) ?_; simp only [RSB, ENB, seval, tiAll, mostOf]; simp only [MAB, seval]; refine ⟨rfl, rfl, ?_, ?_, ?_⟩ <;> (first | rfl | (simp [WKB, Nat.add_comm, mostOf]; done) | (simp only [WKB, seval])))
    case inl =>
      (have gx := And.intro (@List.length_map.{0,0}) (And.intro @List.getElem_map.{0,0} @intK.eq_1); refine go ?_; (repeat' first | exact Ef.mk | apply Lf.mk | refine fun (K : KT) hK hE hT => ?_ | refine fun (KS : KE) hKS => ?_ | refine fun (D : KD) hD => ?_ | refine fun (hg : (_ : Prop)) => ?_ | fail); all_goals (first | (refine Wr.mk ?_; (try clear gx); repeat first | clear hK hE hT K | clear hR hE hT K) | assumption | skip))
      refine loop_v (X := {i : Nat // i ≤ t.length}) [] (fun x => [(9, .c (.v (.int .i64 (((t.take x.1).count t[k] : Nat) : Int)))), (21, .c (.v (.int .i64 ((x.1 : Nat) : Int))))]) (fun x => [(0, some (.ro (t.map intK)))]) 1 (fun x => t.length - x.1) ⟨0, by omega⟩ ?_
      simp only [KPB, seval]
      refine ⟨?_, ?_⟩
      · (refine wk_a ?_; simp only [MAB, seval]; refine ⟨rfl, rfl, (by decide), ?_, ?_⟩; all_goals (first | (simp only [WKB, seval, List.take_zero, List.count_nil]; done) | (simp [WKB, seval, List.take_zero, List.count_nil]; done) | simp only [WKB, seval]))
      · rintro ⟨i, hi⟩ K hR hE hT
        have c1 := List.count_le_length (a := t[k]) (l := t.take i)
        rw [List.length_take] at c1
        (have gx := And.intro (@List.length_map.{0,0}) (And.intro @List.getElem_map.{0,0} @intK.eq_1); refine go ?_; (repeat' first | exact Ef.mk | apply Lf.mk | refine fun (K : KT) hK hE hT => ?_ | refine fun (KS : KE) hKS => ?_ | refine fun (D : KD) hD => ?_ | refine fun (hg : (_ : Prop)) => ?_ | fail); all_goals (first | (refine Wr.mk ?_; (try clear gx); repeat first | clear hK hE hT K | clear hR hE hT K) | assumption | skip))
        all_goals first
          | (have e := count_eq (t := t) (i := i) (a := t[k]) (by omega) (by assumption)
             (refine hR.out ⟨i + 1, by omega⟩ _ _ _ (by simp only; omega) ?_; (refine wk_a ?_; simp only [MAB, seval]; refine ⟨rfl, rfl, (by decide), ?_, ?_⟩; all_goals (first | (simp only [WKB, seval, e]; done) | (simp [WKB, seval, e]; done) | simp only [WKB, seval]))))
          | (have e := count_ne (t := t) (i := i) (a := t[k]) (by omega) (by assumption)
             (refine hR.out ⟨i + 1, by omega⟩ _ _ _ (by simp only; omega) ?_; (refine wk_a ?_; simp only [MAB, seval]; refine ⟨rfl, rfl, (by decide), ?_, ?_⟩; all_goals (first | (simp only [WKB, seval, e]; done) | (simp [WKB, seval, e]; done) | simp only [WKB, seval]))))
          | (obtain rfl : i = t.length := by omega
             simp only [List.take_length] at *
             first
               | (have e := most_yes (val := val) hlt (by omega)
                  (refine hR.out ⟨k + 1, by omega⟩ _ _ _ (by simp only; omega) ?_; (refine wk_a ?_; simp only [MAB, seval]; refine ⟨rfl, rfl, (by decide), ?_, ?_⟩; all_goals (first | (simp only [WKB, seval, e]; done) | (simp [WKB, seval, e]; done) | simp only [WKB, seval]))))
               | (have e := most_no (val := val) hlt (by omega)
                  (refine hR.out ⟨k + 1, by omega⟩ _ _ _ (by simp only; omega) ?_; (refine wk_a ?_; simp only [MAB, seval]; refine ⟨rfl, rfl, (by decide), ?_, ?_⟩; all_goals (first | (simp only [WKB, seval, e]; done) | (simp [WKB, seval, e]; done) | simp only [WKB, seval])))))

end Go.Proofs.YtfdhdkljpeohlaaGreatDoor

namespace Go.Proofs.YtfdhdkljpeohlaaGreatDoor
set_option linter.unusedSimpArgs false
set_option linter.unusedVariables false
set_option linter.defProp false
open Go.RowKit


section
variable {P : Program} {d : Option Tmp} {t tt : TypeId} {x y z : Operand} {pos : String} {af : Array Edge} {gu : Option (Nat × Bool)} {ev : Operand → SV} {H : Heap} {nx : Nat} {K : Eff → Prop}
end

structure LabX (t : List Int) (val : Int) where
  left : Int → Bool
  cnt : Nat
  p : Int
  m : Int
  most : Rnd (Most t (fun a => a ∈ t ∧ left a = false) val (p, m))
  sub : Rnd (∀ a, left a = true → a ∈ t)

theorem labE_rng {n : Int} {x : ViewD} (hn : 0 ≤ n ∧ n ≤ 1099511627776) (hx : viewOk x = true) : 0 ≤ labE n x ∧ labE n x ≤ 1099511627776 := by
  have := viewOk_out hx
  unfold labE
  split <;> split <;> omega

theorem lab_tt {n : Int} {x : ViewD} (h1 : x.In = true) (h2 : x.Out = true) : labE n x = min (n * 1000 + n) 1099511627776 := by unfold labE; simp [h1, h2]
theorem lab_tf {n : Int} {x : ViewD} (h1 : x.In = true) (h2 : x.Out = false) : labE n x = min (x.Val / 1000 * 1000 + n) 1099511627776 := by unfold labE; simp [h1, h2]
theorem lab_ft {n : Int} {x : ViewD} (h1 : x.In = false) (h2 : x.Out = true) : labE n x = min (n * 1000 + x.Val % 1000) 1099511627776 := by unfold labE; simp [h1, h2]
theorem lab_ff {n : Int} {x : ViewD} (h1 : x.In = false) (h2 : x.Out = false) : labE n x = min (x.Val / 1000 * 1000 + x.Val % 1000) 1099511627776 := by unfold labE; simp [h1, h2]

end Go.Proofs.YtfdhdkljpeohlaaGreatDoor

namespace Go.Proofs.YtfdhdkljpeohlaaGreatDoor
set_option linter.unusedSimpArgs false
set_option linter.unusedVariables false
set_option linter.defProp false
open Go.RowKit

theorem updOk_yes {j : JobD} {v val : Int} {l : List ViewD} (h : 1 ≤ j.Prog ∧ j.Prog ≤ 4 ∧ 0 ≤ v ∧ v < 150 ∧ 0 ≤ val ∧ val ≤ 1099511627776 ∧ l.length ≤ 400) (h2 : l.all viewOk = true) : updOk j v val l = true := by
  unfold updOk
  rw [decide_eq_true h, h2, Bool.true_and]
theorem updOk_out {j : JobD} {v val : Int} {l : List ViewD} (h : updOk j v val l = true) : (1 ≤ j.Prog ∧ j.Prog ≤ 4 ∧ 0 ≤ v ∧ v < 150 ∧ 0 ≤ val ∧ val ≤ 1099511627776 ∧ l.length ≤ 400) ∧ l.all viewOk = true := by
  unfold updOk at h
  simpa only [Bool.and_eq_true, decide_eq_true_eq] using h

theorem edge1_out {n o : Int} {x : ViewD} (h : x.Out = true) : edgeV 1 n o x = n / o := by unfold edgeV; rw [if_pos rfl, if_pos h]
theorem edge1_in {n o : Int} {x : ViewD} (h : x.Out = false) : edgeV 1 n o x = x.Val := by unfold edgeV; rw [if_pos rfl, if_neg (by simp [h])]
theorem edge2 {n o : Int} {x : ViewD} : edgeV 2 n o x = min x.Val n := by unfold edgeV; rw [if_neg (by decide), if_pos rfl]; omega
theorem edge3_out {n o : Int} {x : ViewD} (h : x.Out = true) : edgeV 3 n o x = n := by unfold edgeV; rw [if_neg (by decide), if_neg (by decide), if_pos rfl, if_pos h]
theorem edge3_in {n o : Int} {x : ViewD} (h : x.Out = false) : edgeV 3 n o x = x.Val := by unfold edgeV; rw [if_neg (by decide), if_neg (by decide), if_pos rfl, if_neg (by simp [h])]
theorem edge4 {n o : Int} {x : ViewD} : edgeV 4 n o x = labE n x := by unfold edgeV; rw [if_neg (by decide), if_neg (by decide), if_neg (by decide)]

end Go.Proofs.YtfdhdkljpeohlaaGreatDoor

namespace Go.Proofs.YtfdhdkljpeohlaaGreatDoor
set_option linter.unusedSimpArgs false
set_option linter.unusedVariables false
set_option linter.defProp false
open Go.RowKit

set_option maxHeartbeats 4000000 in
theorem l10Value_k (j : JobD) (val : Int) (l : List ViewD) (hp : 1 ≤ j.Prog ∧ j.Prog ≤ 4) (hv : 0 ≤ val ∧ val ≤ 1099511627776) (hl : l.length ≤ 400) (hall : l.all viewOk = true) :
    FnOK Tryz.prog 138 ⟨1, [(0, some (.ro (l.map ViewD.k)))], [.agg [.v (.int .i64 j.Prog), .v (.int .i64 j.Src)], .c (.v (.int .i64 val)), .c (.sl 0 4 0 l.length)], .c (.v (.int .i64 (updVal j.Prog val l))), [], 1⟩ := by
  obtain ⟨p, s⟩ := j
  dsimp only at hp ⊢
  rcases (by omega : p = 1 ∨ p = 4 ∨ p = 2 ∨ p = 3) with rfl | rfl | rfl | rfl
  · have e3 : updVal 1 val l = rankV l := by unfold updVal; rw [if_pos rfl]
    rw [e3]
    refine fnOK_of true mixed Tryz.func138 rfl (by rfl) (by rfl) ?_
    have hres := congrArg Array.toList Tryz.results138
    simp only [Tryz.ntmps138, BGB, seval]
    (have gx := @List.length_map.{0,0}; have q1 := l10Rank_k l hl; refine go ?_; (repeat' first | exact Ef.mk | apply Lf.mk | refine fun (K : KT) hK hE hT => ?_ | refine fun (KS : KE) hKS => ?_ | refine fun (D : KD) hD => ?_ | refine fun (hg : (_ : Prop)) => ?_ | fail); all_goals (first | (refine Wr.mk ?_; (try clear gx q1); repeat first | clear hK hE hT K | clear hR hE hT K) | assumption | skip))
    all_goals (refine post_a hres (.inl rfl) ?_; simp only [RSB, ENB, seval, tiAll, true_and]; simp only [MAB, seval]; refine ⟨rfl, rfl, ?_, ?_, ?_⟩ <;> (first | rfl | (simp [WKB, Nat.add_comm, true_and]; done) | (simp only [WKB, seval])))
  · have e3 : updVal 4 val l = mostOf (told l) val := by unfold updVal; rw [if_neg (by decide), if_pos rfl]
    rw [e3]
    have tl : (told l).length ≤ 800 := by have := told_len l; omega
    refine fnOK_of true mixed Tryz.func138 rfl (by rfl) (by rfl) ?_
    have hres := congrArg Array.toList Tryz.results138
    simp only [Tryz.ntmps138, BGB, seval]
    (have gx := @List.length_map.{0,0}; have q1 := l10Told_k l hl hall; have q2 := l10Most_k (told l) val (told_rng hall) hv tl; refine go ?_; (repeat' first | exact Ef.mk | apply Lf.mk | refine fun (K : KT) hK hE hT => ?_ | refine fun (KS : KE) hKS => ?_ | refine fun (D : KD) hD => ?_ | refine fun (hg : (_ : Prop)) => ?_ | fail); all_goals (first | (refine Wr.mk ?_; (try clear gx q1 q2); repeat first | clear hK hE hT K | clear hR hE hT K) | assumption | skip))
    all_goals (refine post_a hres (.inl rfl) ?_; simp only [RSB, ENB, seval, tiAll, true_and]; simp only [MAB, seval]; refine ⟨rfl, rfl, ?_, ?_, ?_⟩ <;> (first | rfl | (simp [WKB, Nat.add_comm, true_and]; done) | (simp only [WKB, seval])))
  · have e3 : updVal 2 val l = fk stC val l l.length := by unfold updVal; rw [if_neg (by decide), if_neg (by decide), if_pos rfl]
    rw [e3]
    refine fnOK_of true mixed Tryz.func138 rfl (by rfl) (by rfl) ?_
    have hres := congrArg Array.toList Tryz.results138
    simp only [Tryz.ntmps138, BGB, seval]
    (have gx := @List.length_map.{0,0}; refine go ?_; (repeat' first | exact Ef.mk | apply Lf.mk | refine fun (K : KT) hK hE hT => ?_ | refine fun (KS : KE) hKS => ?_ | refine fun (D : KD) hD => ?_ | refine fun (hg : (_ : Prop)) => ?_ | fail); all_goals (first | (refine Wr.mk ?_; (try clear gx); repeat first | clear hK hE hT K | clear hR hE hT K) | assumption | skip))
    refine loop_v (X := {k : Nat // k ≤ l.length}) [] (fun x => [(1, .c (.v (.int .i64 (fk stC val l x.1)))), (23, .c (.v (.int .i64 ((x.1 : Nat) : Int))))]) (fun x => [(0, some (.ro (l.map ViewD.k))), (1, some (.box 44 [.v (.int .i64 2), .v (.int .i64 s)]))]) 2 (fun x => l.length - x.1) ⟨0, by omega⟩ ?_
    simp only [KPB, seval]
    refine ⟨?_, ?_⟩
    · (refine wk_a ?_; simp only [MAB, seval]; refine ⟨rfl, rfl, (by decide), ?_, ?_⟩; all_goals (first | (simp only [WKB, seval, fk_zero]; done) | (simp [WKB, seval, fk_zero]; done) | simp only [WKB, seval]))
    · rintro ⟨k, hk⟩ K hR hE hT
      (have gx := And.intro (@List.length_map.{0,0}) (And.intro @List.getElem_map.{0,0} @ViewD.k.eq_1); have q1 := fun hq1 => l10Min_k (fk stC val l k) (l[k]'hq1).Val; refine go ?_; (repeat' first | exact Ef.mk | apply Lf.mk | refine fun (K : KT) hK hE hT => ?_ | refine fun (KS : KE) hKS => ?_ | refine fun (D : KD) hD => ?_ | refine fun (hg : (_ : Prop)) => ?_ | fail); all_goals (first | (refine Wr.mk ?_; (try clear gx q1); repeat first | clear hK hE hT K | clear hR hE hT K) | assumption | skip))
      · have e := conn_step (val := val) (show k < l.length by first | assumption | omega)
        (refine hR.out ⟨k + 1, by omega⟩ _ _ _ (by simp only; omega) ?_; (refine wk_a ?_; simp only [MAB, seval]; refine ⟨rfl, rfl, (by decide), ?_, ?_⟩; all_goals (first | (simp only [WKB, seval, e]; done) | (simp [WKB, seval, e]; done) | simp only [WKB, seval])))
      · obtain rfl : k = l.length := by omega
        (refine post_a hres (.inl rfl) ?_; simp only [RSB, ENB, seval, tiAll, true_and]; simp only [MAB, seval]; refine ⟨rfl, rfl, ?_, ?_, ?_⟩ <;> (first | rfl | (simp [WKB, Nat.add_comm, true_and]; done) | (simp only [WKB, seval])))
  · have e3 : updVal 3 val l = fk stP val l l.length := by unfold updVal; rw [if_neg (by decide), if_neg (by decide), if_neg (by decide)]
    rw [e3]
    refine fnOK_of true mixed Tryz.func138 rfl (by rfl) (by rfl) ?_
    have hres := congrArg Array.toList Tryz.results138
    simp only [Tryz.ntmps138, BGB, seval]
    (have gx := @List.length_map.{0,0}; refine go ?_; (repeat' first | exact Ef.mk | apply Lf.mk | refine fun (K : KT) hK hE hT => ?_ | refine fun (KS : KE) hKS => ?_ | refine fun (D : KD) hD => ?_ | refine fun (hg : (_ : Prop)) => ?_ | fail); all_goals (first | (refine Wr.mk ?_; (try clear gx); repeat first | clear hK hE hT K | clear hR hE hT K) | assumption | skip))
    refine loop_v (X := {k : Nat // k ≤ l.length}) [] (fun x => [(1, .c (.v (.int .i64 (fk stP val l x.1)))), (23, .c (.v (.int .i64 ((x.1 : Nat) : Int))))]) (fun x => [(0, some (.ro (l.map ViewD.k))), (1, some (.box 44 [.v (.int .i64 3), .v (.int .i64 s)]))]) 2 (fun x => l.length - x.1) ⟨0, by omega⟩ ?_
    simp only [KPB, seval]
    refine ⟨?_, ?_⟩
    · (refine wk_a ?_; simp only [MAB, seval]; refine ⟨rfl, rfl, (by decide), ?_, ?_⟩; all_goals (first | (simp only [WKB, seval, fk_zero]; done) | (simp [WKB, seval, fk_zero]; done) | simp only [WKB, seval]))
    · rintro ⟨k, hk⟩ K hR hE hT
      (have gx := And.intro (@List.length_map.{0,0}) (And.intro @List.getElem_map.{0,0} @ViewD.k.eq_1); have q1 := fun hq1 hq2 => specAddCap_k (l[k]'hq1).Val (l[k]'hq2).W; have q2 := fun hq1 hq2 => l10Min_k (fk stP val l k) (addCap (l[k]'hq1).Val (l[k]'hq2).W); refine go ?_; (repeat' first | exact Ef.mk | apply Lf.mk | refine fun (K : KT) hK hE hT => ?_ | refine fun (KS : KE) hKS => ?_ | refine fun (D : KD) hD => ?_ | refine fun (hg : (_ : Prop)) => ?_ | fail); all_goals (first | (refine Wr.mk ?_; (try clear gx q1 q2); repeat first | clear hK hE hT K | clear hR hE hT K) | assumption | skip))
      · have e := path_in (val := val) (show k < l.length by first | assumption | omega) (by assumption)
        (refine hR.out ⟨k + 1, by omega⟩ _ _ _ (by simp only; omega) ?_; (refine wk_a ?_; simp only [MAB, seval]; refine ⟨rfl, rfl, (by decide), ?_, ?_⟩; all_goals (first | (simp only [WKB, seval, e]; done) | (simp [WKB, seval, e]; done) | simp only [WKB, seval])))
      · have e := path_out (val := val) (show k < l.length by first | assumption | omega) (by assumption)
        (refine hR.out ⟨k + 1, by omega⟩ _ _ _ (by simp only; omega) ?_; (refine wk_a ?_; simp only [MAB, seval]; refine ⟨rfl, rfl, (by decide), ?_, ?_⟩; all_goals (first | (simp only [WKB, seval, e]; done) | (simp [WKB, seval, e]; done) | simp only [WKB, seval])))
      · obtain rfl : k = l.length := by omega
        (refine post_a hres (.inl rfl) ?_; simp only [RSB, ENB, seval, tiAll, true_and]; simp only [MAB, seval]; refine ⟨rfl, rfl, ?_, ?_, ?_⟩ <;> (first | rfl | (simp [WKB, Nat.add_comm, true_and]; done) | (simp only [WKB, seval])))

theorem labE_tt {n : Int} {x : ViewD} (h1 : x.In = true) (h2 : x.Out = true) (h : 0 ≤ n) : capI (n * 1000 + n) = labE n x := by rw [lab_tt h1 h2]; unfold capI; omega
theorem labE_tf {n : Int} {x : ViewD} (h1 : x.In = true) (h2 : x.Out = false) (h : 0 ≤ n) (hx : 0 ≤ x.Val) : capI (x.Val / 1000 * 1000 + n) = labE n x := by rw [lab_tf h1 h2]; unfold capI; omega
theorem labE_ft {n : Int} {x : ViewD} (h1 : x.In = false) (h2 : x.Out = true) (h : 0 ≤ n) (hx : 0 ≤ x.Val) : capI (n * 1000 + x.Val % 1000) = labE n x := by rw [lab_ft h1 h2]; unfold capI; omega
theorem labE_ff {n : Int} {x : ViewD} (h1 : x.In = false) (h2 : x.Out = false) (hx : 0 ≤ x.Val) : capI (x.Val / 1000 * 1000 + x.Val % 1000) = labE n x := by rw [lab_ff h1 h2]; unfold capI; omega

set_option maxHeartbeats 4000000 in
theorem l10Edge_k (j : JobD) (n o : Int) (x : ViewD) (hp : 1 ≤ j.Prog ∧ j.Prog ≤ 4) (hn : 0 ≤ n ∧ n ≤ 1099511627776) (hx : 0 ≤ x.Val ∧ x.Val ≤ 1099511627776) (ho : x.Out = true → 0 < o) :
    FnOK Tryz.prog 139 ⟨0, [], [.agg [.v (.int .i64 j.Prog), .v (.int .i64 j.Src)], .c (.v (.int .i64 n)), .c (.v (.int .i64 o)), .agg [.v (.bool x.In), .v (.bool x.Out), .v (.int .i64 x.W), .v (.int .i64 x.Val)]], .c (.v (.int .i64 (edgeV j.Prog n o x))), [], 0⟩ := by
  obtain ⟨p, s⟩ := j
  dsimp only at hp ⊢
  obtain ⟨xi, xo, xw, xv⟩ := x
  dsimp only at hx ho ⊢
  rcases (by omega : p = 1 ∨ p = 4 ∨ p = 2 ∨ p = 3) with rfl | rfl | rfl | rfl
  · cases xo with
    | true =>
      have op := ho rfl
      rw [edge1_out rfl]
      refine fnOK_of true mixed Tryz.func139 rfl (by rfl) (by rfl) ?_
      have hres := congrArg Array.toList Tryz.results139
      simp only [Tryz.ntmps139, BGB, seval]
      (have gx := true_and True; refine go ?_; (repeat' first | exact Ef.mk | apply Lf.mk | refine fun (K : KT) hK hE hT => ?_ | refine fun (KS : KE) hKS => ?_ | refine fun (D : KD) hD => ?_ | refine fun (hg : (_ : Prop)) => ?_ | fail); all_goals (first | (refine Wr.mk ?_; (try clear gx); repeat first | clear hK hE hT K | clear hR hE hT K) | assumption | skip))
      all_goals (refine post_a hres (.inl rfl) ?_; simp only [RSB, ENB, seval, tiAll, true_and]; simp only [MAB, seval]; refine ⟨rfl, rfl, ?_, ?_, ?_⟩ <;> (first | rfl | (simp [WKB, Nat.add_comm, true_and]; done) | (simp only [WKB, seval])))
    | false =>
      rw [edge1_in rfl]
      refine fnOK_of true mixed Tryz.func139 rfl (by rfl) (by rfl) ?_
      have hres := congrArg Array.toList Tryz.results139
      simp only [Tryz.ntmps139, BGB, seval]
      (have gx := true_and True; refine go ?_; (repeat' first | exact Ef.mk | apply Lf.mk | refine fun (K : KT) hK hE hT => ?_ | refine fun (KS : KE) hKS => ?_ | refine fun (D : KD) hD => ?_ | refine fun (hg : (_ : Prop)) => ?_ | fail); all_goals (first | (refine Wr.mk ?_; (try clear gx); repeat first | clear hK hE hT K | clear hR hE hT K) | assumption | skip))
      all_goals (refine post_a hres (.inl rfl) ?_; simp only [RSB, ENB, seval, tiAll, true_and]; simp only [MAB, seval]; refine ⟨rfl, rfl, ?_, ?_, ?_⟩ <;> (first | rfl | (simp [WKB, Nat.add_comm, true_and]; done) | (simp only [WKB, seval])))
  · rw [edge4]
    clear ho
    cases xi with
    | true => cases xo with
      | true =>
        rw [← labE_tt rfl rfl hn.1]
        refine fnOK_of true mixed Tryz.func139 rfl (by rfl) (by rfl) ?_
        have hres := congrArg Array.toList Tryz.results139
        simp only [Tryz.ntmps139, BGB, seval]
        (have gx := true_and True; have q1 := l10Cap_k (n * 1000 + n); refine go ?_; (repeat' first | exact Ef.mk | apply Lf.mk | refine fun (K : KT) hK hE hT => ?_ | refine fun (KS : KE) hKS => ?_ | refine fun (D : KD) hD => ?_ | refine fun (hg : (_ : Prop)) => ?_ | fail); all_goals (first | (refine Wr.mk ?_; (try clear gx q1); repeat first | clear hK hE hT K | clear hR hE hT K) | assumption | skip))
        all_goals (refine post_a hres (.inl rfl) ?_; simp only [RSB, ENB, seval, tiAll, true_and]; simp only [MAB, seval]; refine ⟨rfl, rfl, ?_, ?_, ?_⟩ <;> (first | rfl | (simp [WKB, Nat.add_comm, true_and]; done) | (simp only [WKB, seval])))
      | false =>
        rw [← labE_tf rfl rfl hn.1 hx.1]
        refine fnOK_of true mixed Tryz.func139 rfl (by rfl) (by rfl) ?_
        have hres := congrArg Array.toList Tryz.results139
        simp only [Tryz.ntmps139, BGB, seval]
        (have gx := true_and True; have q1 := l10Cap_k (xv / 1000 * 1000 + n); refine go ?_; (repeat' first | exact Ef.mk | apply Lf.mk | refine fun (K : KT) hK hE hT => ?_ | refine fun (KS : KE) hKS => ?_ | refine fun (D : KD) hD => ?_ | refine fun (hg : (_ : Prop)) => ?_ | fail); all_goals (first | (refine Wr.mk ?_; (try clear gx q1); repeat first | clear hK hE hT K | clear hR hE hT K) | assumption | skip))
        all_goals (refine post_a hres (.inl rfl) ?_; simp only [RSB, ENB, seval, tiAll, true_and]; simp only [MAB, seval]; refine ⟨rfl, rfl, ?_, ?_, ?_⟩ <;> (first | rfl | (simp [WKB, Nat.add_comm, true_and]; done) | (simp only [WKB, seval])))
    | false => cases xo with
      | true =>
        rw [← labE_ft rfl rfl hn.1 hx.1]
        refine fnOK_of true mixed Tryz.func139 rfl (by rfl) (by rfl) ?_
        have hres := congrArg Array.toList Tryz.results139
        simp only [Tryz.ntmps139, BGB, seval]
        (have gx := true_and True; have q1 := l10Cap_k (n * 1000 + xv % 1000); refine go ?_; (repeat' first | exact Ef.mk | apply Lf.mk | refine fun (K : KT) hK hE hT => ?_ | refine fun (KS : KE) hKS => ?_ | refine fun (D : KD) hD => ?_ | refine fun (hg : (_ : Prop)) => ?_ | fail); all_goals (first | (refine Wr.mk ?_; (try clear gx q1); repeat first | clear hK hE hT K | clear hR hE hT K) | assumption | skip))
        all_goals (refine post_a hres (.inl rfl) ?_; simp only [RSB, ENB, seval, tiAll, true_and]; simp only [MAB, seval]; refine ⟨rfl, rfl, ?_, ?_, ?_⟩ <;> (first | rfl | (simp [WKB, Nat.add_comm, true_and]; done) | (simp only [WKB, seval])))
      | false =>
        rw [← labE_ff rfl rfl hx.1]
        refine fnOK_of true mixed Tryz.func139 rfl (by rfl) (by rfl) ?_
        have hres := congrArg Array.toList Tryz.results139
        simp only [Tryz.ntmps139, BGB, seval]
        (have gx := true_and True; have q1 := l10Cap_k (xv / 1000 * 1000 + xv % 1000); refine go ?_; (repeat' first | exact Ef.mk | apply Lf.mk | refine fun (K : KT) hK hE hT => ?_ | refine fun (KS : KE) hKS => ?_ | refine fun (D : KD) hD => ?_ | refine fun (hg : (_ : Prop)) => ?_ | fail); all_goals (first | (refine Wr.mk ?_; (try clear gx q1); repeat first | clear hK hE hT K | clear hR hE hT K) | assumption | skip))
        all_goals (refine post_a hres (.inl rfl) ?_; simp only [RSB, ENB, seval, tiAll, true_and]; simp only [MAB, seval]; refine ⟨rfl, rfl, ?_, ?_, ?_⟩ <;> (first | rfl | (simp [WKB, Nat.add_comm, true_and]; done) | (simp only [WKB, seval])))
  · rw [edge2]
    refine fnOK_of true mixed Tryz.func139 rfl (by rfl) (by rfl) ?_
    have hres := congrArg Array.toList Tryz.results139
    simp only [Tryz.ntmps139, BGB, seval]
    (have gx := true_and True; have q1 := l10Min_k n xv; refine go ?_; (repeat' first | exact Ef.mk | apply Lf.mk | refine fun (K : KT) hK hE hT => ?_ | refine fun (KS : KE) hKS => ?_ | refine fun (D : KD) hD => ?_ | refine fun (hg : (_ : Prop)) => ?_ | fail); all_goals (first | (refine Wr.mk ?_; (try clear gx q1); repeat first | clear hK hE hT K | clear hR hE hT K) | assumption | skip))
    all_goals (refine post_a hres (.inl rfl) ?_; simp only [RSB, ENB, seval, tiAll, Int.min_comm]; simp only [MAB, seval]; refine ⟨rfl, rfl, ?_, ?_, ?_⟩ <;> (first | rfl | (simp [WKB, Nat.add_comm, Int.min_comm]; done) | (simp only [WKB, seval])))
  · cases xo with
    | true =>
      rw [edge3_out rfl]
      refine fnOK_of true mixed Tryz.func139 rfl (by rfl) (by rfl) ?_
      have hres := congrArg Array.toList Tryz.results139
      simp only [Tryz.ntmps139, BGB, seval]
      (have gx := true_and True; refine go ?_; (repeat' first | exact Ef.mk | apply Lf.mk | refine fun (K : KT) hK hE hT => ?_ | refine fun (KS : KE) hKS => ?_ | refine fun (D : KD) hD => ?_ | refine fun (hg : (_ : Prop)) => ?_ | fail); all_goals (first | (refine Wr.mk ?_; (try clear gx); repeat first | clear hK hE hT K | clear hR hE hT K) | assumption | skip))
      all_goals (refine post_a hres (.inl rfl) ?_; simp only [RSB, ENB, seval, tiAll, true_and]; simp only [MAB, seval]; refine ⟨rfl, rfl, ?_, ?_, ?_⟩ <;> (first | rfl | (simp [WKB, Nat.add_comm, true_and]; done) | (simp only [WKB, seval])))
    | false =>
      rw [edge3_in rfl]
      refine fnOK_of true mixed Tryz.func139 rfl (by rfl) (by rfl) ?_
      have hres := congrArg Array.toList Tryz.results139
      simp only [Tryz.ntmps139, BGB, seval]
      (have gx := true_and True; refine go ?_; (repeat' first | exact Ef.mk | apply Lf.mk | refine fun (K : KT) hK hE hT => ?_ | refine fun (KS : KE) hKS => ?_ | refine fun (D : KD) hD => ?_ | refine fun (hg : (_ : Prop)) => ?_ | fail); all_goals (first | (refine Wr.mk ?_; (try clear gx); repeat first | clear hK hE hT K | clear hR hE hT K) | assumption | skip))
      all_goals (refine post_a hres (.inl rfl) ?_; simp only [RSB, ENB, seval, tiAll, true_and]; simp only [MAB, seval]; refine ⟨rfl, rfl, ?_, ?_, ?_⟩ <;> (first | rfl | (simp [WKB, Nat.add_comm, true_and]; done) | (simp only [WKB, seval])))

theorem updVal_rng {p val : Int} {l : List ViewD} (hv : 0 ≤ val ∧ val ≤ 1099511627776) (hall : l.all viewOk = true) : 0 ≤ updVal p val l ∧ updVal p val l ≤ 1099511627776 := by
  unfold updVal
  split
  · have := sum_rng l l.length
    unfold rankV
    omega
  · split
    · exact (most_rng (told_rng hall) hv _).1
    · split
      · exact conn_rng hall hv _
      · exact path_rng hv _

theorem lviews_out {l : List ViewD} (h : lviews l = true) : l.all viewOk = true ∧ l.length ≤ 400 := by
  unfold lviews at h
  simpa using h

set_option maxHeartbeats 4000000 in
theorem specUpdate_k (j : JobD) (v val : Int) (l : List ViewD) (hl : l.length ≤ 1048576) : FnOK Tryz.prog 128 ⟨1, [(0, some (.ro (l.map ViewD.k)))], [.agg [.v (.int .i64 j.Prog), .v (.int .i64 j.Src)], .c (.v (.int .i64 v)), .c (.v (.int .i64 val)), .c (.sl 0 4 0 l.length)],
    .tup [.inl (.v (.int .i64 (updN j v val l))), .inl (.sl 1 1 0 (updL j v val l).length)], [(1, some (.row 3 ((updL j v val l).map intK)))], 2⟩ := by
  have cw := l10Views_k l (by omega)
  cases ho : updOk j v val l with
  | false =>
    have e1 : updN j v val l = 0 := by unfold updN; rw [ho]; rfl
    have e2 : updL j v val l = [] := by unfold updL; rw [ho]; rfl
    rw [e1, e2]
    cases hw : lviews l with
    | false =>
      rw [hw] at cw
      refine fnOK_of true mixed Tryz.func128 rfl (by rfl) (by rfl) ?_
      have hres := congrArg Array.toList Tryz.results128
      simp only [Tryz.ntmps128, BGB, seval]
      (have gx := @List.length_map.{0,0}; have q1 := cw; have q2 := l10Vertex_k v; refine go ?_; (repeat' first | exact Ef.mk | apply Lf.mk | refine fun (K : KT) hK hE hT => ?_ | refine fun (KS : KE) hKS => ?_ | refine fun (D : KD) hD => ?_ | refine fun (hg : (_ : Prop)) => ?_ | fail); all_goals (first | (refine Wr.mk ?_; (try clear gx q1 q2); repeat first | clear hK hE hT K | clear hR hE hT K) | assumption | skip))
      all_goals (refine post_a hres (.inl rfl) ?_; simp only [RSB, ENB, seval, tiAll, true_and]; simp only [MAB, seval]; refine ⟨rfl, rfl, ?_, ?_, ?_⟩ <;> (first | rfl | (simp [WKB, Nat.add_comm, true_and]; done) | (simp only [WKB, seval])))
    | true =>
      rw [hw] at cw
      obtain ⟨w1, w2⟩ := lviews_out hw
      have hno : ¬ (1 ≤ j.Prog ∧ j.Prog ≤ 4 ∧ 0 ≤ v ∧ v < 150 ∧ 0 ≤ val ∧ val ≤ 1099511627776) := fun h => by
        rw [updOk_yes (by omega) w1] at ho
        cases ho
      refine fnOK_of true mixed Tryz.func128 rfl (by rfl) (by rfl) ?_
      have hres := congrArg Array.toList Tryz.results128
      simp only [Tryz.ntmps128, BGB, seval]
      (have gx := @List.length_map.{0,0}; have q1 := cw; have q2 := l10Vertex_k v; refine go ?_; (repeat' first | exact Ef.mk | apply Lf.mk | refine fun (K : KT) hK hE hT => ?_ | refine fun (KS : KE) hKS => ?_ | refine fun (D : KD) hD => ?_ | refine fun (hg : (_ : Prop)) => ?_ | fail); all_goals (first | (refine Wr.mk ?_; (try clear gx q1 q2); repeat first | clear hK hE hT K | clear hR hE hT K) | assumption | skip))
      all_goals (refine post_a hres (.inl rfl) ?_; simp only [RSB, ENB, seval, tiAll, true_and]; simp only [MAB, seval]; refine ⟨rfl, rfl, ?_, ?_, ?_⟩ <;> (first | rfl | (simp [WKB, Nat.add_comm, true_and]; done) | (simp only [WKB, seval])))
  | true =>
    obtain ⟨⟨p1, p2, p3, p4, v1, v2, hl4⟩, hall⟩ := updOk_out ho
    have hw : lviews l = true := by unfold lviews; rw [hall, decide_eq_true hl4]; rfl
    rw [hw] at cw
    have e1 : updN j v val l = updVal j.Prog val l := by unfold updN; rw [ho]; rfl
    have e2 : updL j v val l = l.map (edgeV j.Prog (updVal j.Prog val l) (outsN l)) := by unfold updL; rw [ho]; rfl
    rw [e1, e2]
    clear e1 e2 ho hw
    have un := updVal_rng (p := j.Prog) ⟨v1, v2⟩ hall
    have cv := l10Value_k j val l ⟨p1, p2⟩ ⟨v1, v2⟩ hl4 hall
    obtain ⟨n, hn⟩ : ∃ n, n = updVal j.Prog val l := ⟨_, rfl⟩
    rw [← hn] at un cv ⊢
    clear hn
    refine fnOK_of true mixed Tryz.func128 rfl (by rfl) (by rfl) ?_
    have hres := congrArg Array.toList Tryz.results128
    simp only [Tryz.ntmps128, BGB, seval]
    (have gx := @List.length_map.{0,0}; have q1 := cw; have q2 := l10Vertex_k v; refine go ?_; (repeat' first | exact Ef.mk | apply Lf.mk | refine fun (K : KT) hK hE hT => ?_ | refine fun (KS : KE) hKS => ?_ | refine fun (D : KD) hD => ?_ | refine fun (hg : (_ : Prop)) => ?_ | fail); all_goals (first | (refine Wr.mk ?_; (try clear gx q1 q2); repeat first | clear hK hE hT K | clear hR hE hT K) | assumption | skip))
    refine loop_v (X := {k : Nat // k ≤ l.length}) [] (fun x => [(10, .c (.v (.int .i64 (fk stN 0 l x.1)))), (45, .c (.v (.int .i64 ((x.1 : Nat) : Int))))]) (fun x => [(0, some (.ro (l.map ViewD.k))), (1, some (.box 44 [.v (.int .i64 j.Prog), .v (.int .i64 j.Src)]))]) 2 (fun x => l.length - x.1) ⟨0, by omega⟩ ?_
    simp only [KPB, seval]
    refine ⟨?_, ?_⟩
    · (refine wk_a ?_; simp only [MAB, seval]; refine ⟨rfl, rfl, (by decide), ?_, ?_⟩; all_goals (first | (simp only [WKB, seval, fk_zero]; done) | (simp [WKB, seval, fk_zero]; done) | simp only [WKB, seval]))
    · rintro ⟨k, hk⟩ K hR hE hT
      have s2 := outs_rng l k
      (have gx := And.intro (@List.length_map.{0,0}) (And.intro @List.getElem_map.{0,0} @ViewD.k.eq_1); have q1 := cv; refine go ?_; (repeat' first | exact Ef.mk | apply Lf.mk | refine fun (K : KT) hK hE hT => ?_ | refine fun (KS : KE) hKS => ?_ | refine fun (D : KD) hD => ?_ | refine fun (hg : (_ : Prop)) => ?_ | fail); all_goals (first | (refine Wr.mk ?_; (try clear gx q1); repeat first | clear hK hE hT K | clear hR hE hT K) | assumption | skip))
      · have e := outs_in (show k < l.length by first | assumption | omega) (by assumption)
        (refine hR.out ⟨k + 1, by omega⟩ _ _ _ (by simp only; omega) ?_; (refine wk_a ?_; simp only [MAB, seval]; refine ⟨rfl, rfl, (by decide), ?_, ?_⟩; all_goals (first | (simp only [WKB, seval, e]; done) | (simp [WKB, seval, e]; done) | simp only [WKB, seval])))
      · have e := outs_out (show k < l.length by first | assumption | omega) (by assumption)
        (refine hR.out ⟨k + 1, by omega⟩ _ _ _ (by simp only; omega) ?_; (refine wk_a ?_; simp only [MAB, seval]; refine ⟨rfl, rfl, (by decide), ?_, ?_⟩; all_goals (first | (simp only [WKB, seval, e]; done) | (simp [WKB, seval, e]; done) | simp only [WKB, seval])))
      · obtain rfl : k = l.length := by omega
        refine loop_v (X := {k : Nat // k ≤ l.length}) [58] (fun x => [(14, .c (.sl 2 1 0 ((l.take x.1).map (edgeV j.Prog n (outsN l))).length)), (61, .c (.v (.int .i64 ((x.1 : Nat) : Int))))]) (fun x => [(0, some (.ro (l.map ViewD.k))), (1, some (.box 44 [.v (.int .i64 j.Prog), .v (.int .i64 j.Src)])), (2, some (.row 3 (((l.take x.1).map (edgeV j.Prog n (outsN l))).map intK)))]) 3 (fun x => l.length - x.1) ⟨0, by omega⟩ ?_
        simp only [KPB, seval]
        refine ⟨?_, ?_⟩
        · (refine wk_a ?_; simp only [MAB, seval]; refine ⟨rfl, rfl, (by decide), ?_, ?_⟩; all_goals (first | (simp only [WKB, seval, List.take_zero, List.map_nil, List.length_nil]; done) | (simp [WKB, seval, List.take_zero, List.map_nil, List.length_nil]; done) | simp only [WKB, seval]))
        · rintro ⟨k, hk⟩ K hR hE hT
          have l1 : (l.take k).length ≤ 400 := by rw [List.length_take]; omega
          rcases Nat.lt_or_ge k l.length with hlt | hge
          · have e := take_succ_map (edgeV j.Prog n (outsN l)) hlt
            obtain ⟨x1, x2, _, _, _⟩ := viewOk_out (List.all_eq_true.1 hall l[k] (List.getElem_mem hlt))
            have ce := l10Edge_k j n (outsN l) l[k] ⟨p1, p2⟩ un ⟨x1, x2⟩ (outs_pos hlt)
            (have gx := And.intro (@List.length_map.{0,0}) (And.intro @List.getElem_map.{0,0} @ViewD.k.eq_1); have q1 := ce; refine go ?_; (repeat' first | exact Ef.mk | apply Lf.mk | refine fun (K : KT) hK hE hT => ?_ | refine fun (KS : KE) hKS => ?_ | refine fun (D : KD) hD => ?_ | refine fun (hg : (_ : Prop)) => ?_ | fail); all_goals (first | (refine Wr.mk ?_; (try clear gx q1); repeat first | clear hK hE hT K | clear hR hE hT K) | assumption | skip))
            (refine hR.out ⟨k + 1, by omega⟩ _ _ _ (by simp only; omega) ?_; (refine wk_a ?_; simp only [MAB, seval]; refine ⟨rfl, rfl, (by decide), ?_, ?_⟩; all_goals (first | (simp only [WKB, seval, e, intK]; done) | (simp [WKB, seval, e, intK]; done) | simp only [WKB, seval])))
          · obtain rfl : k = l.length := by omega
            (have gx := And.intro (@List.length_map.{0,0}) (And.intro @List.getElem_map.{0,0} @ViewD.k.eq_1); refine go ?_; (repeat' first | exact Ef.mk | apply Lf.mk | refine fun (K : KT) hK hE hT => ?_ | refine fun (KS : KE) hKS => ?_ | refine fun (D : KD) hD => ?_ | refine fun (hg : (_ : Prop)) => ?_ | fail); all_goals (first | (refine Wr.mk ?_; (try clear gx); repeat first | clear hK hE hT K | clear hR hE hT K) | assumption | skip))
            (refine post_a hres (.inl rfl) ?_; simp only [RSB, ENB, seval, tiAll, List.take_length]; simp only [MAB, seval]; refine ⟨rfl, rfl, ?_, ?_, ?_⟩ <;> (first | rfl | (simp [WKB, Nat.add_comm, List.take_length]; done) | (simp only [WKB, seval])))

end Go.Proofs.YtfdhdkljpeohlaaGreatDoor

