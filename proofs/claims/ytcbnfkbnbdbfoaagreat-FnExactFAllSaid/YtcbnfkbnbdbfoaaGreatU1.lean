/-
  What an update of a vertex computes: plain words and laws. No conditions of its own.
-/
import Derived.Test.YtcbnfkbnbdbfoaaGreatDF
namespace Go.Proofs.YtcbnfkbnbdbfoaaGreat
set_option linter.unusedSimpArgs false
set_option linter.unusedVariables false
set_option linter.unusedSimpArgs false
set_option linter.unusedVariables false
set_option linter.defProp false
open Go.RowKit

def capI (a : Int) : Int := max 0 (min a 1099511627776)
def addCap (a b : Int) : Int := min (capI a + capI b) 1099511627776
theorem capI_rng (a : Int) : 0 ≤ capI a ∧ capI a ≤ 1099511627776 := by unfold capI; omega
theorem addCap_rng (a b : Int) : 0 ≤ addCap a b ∧ addCap a b ≤ 1099511627776 := by
  have := capI_rng a
  have := capI_rng b
  unfold addCap
  omega

section
variable {α β : Type}
/-- the first k elements, one after the other -/
def fk (f : β → α → β) (b : β) (l : List α) (k : Nat) : β := (l.take k).foldl f b
theorem fk_zero (f : β → α → β) (b : β) (l : List α) : fk f b l 0 = b := rfl
theorem fk_succ (f : β → α → β) (b : β) {l : List α} {k : Nat} (h : k < l.length) : fk f b l (k + 1) = f (fk f b l k) l[k] := by
  unfold fk
  rw [List.take_succ_eq_append_getElem h, List.foldl_append]
  rfl
theorem fk_rng {P : β → Prop} (f : β → α → β) (b : β) (l : List α) (h0 : P b) (h : ∀ b x, x ∈ l → P b → P (f b x)) : ∀ k, P (fk f b l k) := by
  intro k
  induction k with
  | zero => exact h0
  | succ k ih =>
    by_cases hk : k < l.length
    · rw [fk_succ f b hk]; exact h _ _ (List.getElem_mem hk) ih
    · have e : l.take (k + 1) = l.take k := by rw [List.take_of_length_le (by omega), List.take_of_length_le (by omega)]
      unfold fk at ih ⊢
      rw [e]; exact ih
theorem take_succ_map (f : α → β) {l : List α} {k : Nat} (h : k < l.length) : (l.take (k + 1)).map f = (l.take k).map f ++ [f l[k]] := by
  rw [List.take_succ_eq_append_getElem h, List.map_append]
  rfl
end

def viewOk (x : ViewD) : Bool := decide (0 ≤ x.Val ∧ x.Val ≤ 1099511627776 ∧ 0 ≤ x.W ∧ x.W ≤ 1000 ∧ (x.In = true ∨ x.Out = true))
def updOk (j : JobD) (v val : Int) (l : List ViewD) : Bool := decide (1 ≤ j.Prog ∧ j.Prog ≤ 4 ∧ 0 ≤ v ∧ v < 150 ∧ 0 ≤ val ∧ val ≤ 1099511627776 ∧ l.length ≤ 400) && l.all viewOk

def stS (s : Int) (x : ViewD) : Int := if x.In = true then addCap s x.Val else s
def stN (n : Int) (x : ViewD) : Int := if x.Out = true then n + 1 else n
def stC (a : Int) (x : ViewD) : Int := min a x.Val
def stP (a : Int) (x : ViewD) : Int := if x.In = true then min a (addCap x.Val x.W) else a
def rankV (l : List ViewD) : Int := min (157286 + 17 * fk stS 0 l l.length / 20) 1099511627776
def outsN (l : List ViewD) : Int := fk stN 0 l l.length
def toldOf (x : ViewD) : List Int := (if x.In = true then [x.Val / 1000] else []) ++ (if x.Out = true then [x.Val % 1000] else [])
def told (l : List ViewD) : List Int := l.flatMap toldOf
def stM (t : List Int) (p : Int × Int) (a : Int) : Int × Int := if p.2 < (t.count a : Int) ∨ (t.count a : Int) = p.2 ∧ a < p.1 then (a, (t.count a : Int)) else p
def mostOf (t : List Int) (val : Int) : Int := (fk (stM t) (val, 0) t t.length).1
def updVal (p val : Int) (l : List ViewD) : Int :=
  if p = 1 then rankV l else if p = 4 then mostOf (told l) val else if p = 2 then fk stC val l l.length else fk stP val l l.length
def labE (n : Int) (x : ViewD) : Int := min ((if x.Out = true then n else x.Val / 1000) * 1000 + (if x.In = true then n else x.Val % 1000)) 1099511627776
def edgeV (p n outs : Int) (x : ViewD) : Int :=
  if p = 1 then (if x.Out = true then n / outs else x.Val) else if p = 2 then min n x.Val else if p = 3 then (if x.Out = true then n else x.Val)
  else labE n x
def updE (p val : Int) (l : List ViewD) : List Int := l.map (edgeV p (updVal p val l) (outsN l))
def updN (j : JobD) (v val : Int) (l : List ViewD) : Int := if updOk j v val l then updVal j.Prog val l else 0
def updL (j : JobD) (v val : Int) (l : List ViewD) : List Int := if updOk j v val l then updE j.Prog val l else []

theorem viewOk_out {x : ViewD} (h : viewOk x = true) : 0 ≤ x.Val ∧ x.Val ≤ 1099511627776 ∧ 0 ≤ x.W ∧ x.W ≤ 1000 ∧ (x.In = true ∨ x.Out = true) := by
  unfold viewOk at h
  simpa using h
theorem sum_rng (l : List ViewD) (k : Nat) : 0 ≤ fk stS 0 l k ∧ fk stS 0 l k ≤ 1099511627776 := by
  refine fk_rng (P := fun s => 0 ≤ s ∧ s ≤ 1099511627776) stS 0 l (by omega) (fun b x _ hb => ?_) k
  unfold stS
  split
  · exact addCap_rng _ _
  · exact hb
theorem stN_or (n : Int) (x : ViewD) : stN n x = n ∨ stN n x = n + 1 := by
  unfold stN
  split <;> simp
theorem stN_in {n : Int} {x : ViewD} (h : x.Out = true) : stN n x = n + 1 := by unfold stN; rw [if_pos h]
theorem outs_rng (l : List ViewD) : ∀ k, 0 ≤ fk stN 0 l k ∧ fk stN 0 l k ≤ k := by
  intro k
  induction k with
  | zero => exact ⟨by simp [fk], by simp [fk]⟩
  | succ k ih =>
    by_cases hk : k < l.length
    · rw [fk_succ stN 0 hk]
      rcases stN_or (fk stN 0 l k) l[k] with h | h <;> rw [h] <;> constructor <;> (try push_cast) <;> omega
    · have e : l.take (k + 1) = l.take k := by rw [List.take_of_length_le (by omega), List.take_of_length_le (by omega)]
      unfold fk at ih ⊢
      rw [e]; push_cast; omega
theorem outs_mono (l : List ViewD) : ∀ k i, fk stN 0 l k ≤ fk stN 0 l (k + i) := by
  intro k i
  induction i with
  | zero => exact Int.le_refl _
  | succ i ih =>
    refine Int.le_trans ih ?_
    rw [← Nat.add_assoc]
    by_cases hk : k + i < l.length
    · rw [fk_succ stN 0 hk]
      rcases stN_or (fk stN 0 l (k + i)) l[k + i] with h | h <;> rw [h] <;> omega
    · have e : l.take (k + i + 1) = l.take (k + i) := by rw [List.take_of_length_le (by omega), List.take_of_length_le (by omega)]
      unfold fk
      rw [e]; exact Int.le_refl _
theorem outs_pos {l : List ViewD} {k : Nat} (h : k < l.length) (ho : l[k].Out = true) : 0 < outsN l := by
  have h1 := outs_mono l (k + 1) (l.length - (k + 1))
  have h2 := (outs_rng l k).1
  rw [show k + 1 + (l.length - (k + 1)) = l.length by omega, fk_succ stN 0 h] at h1
  rw [stN_in ho] at h1
  unfold outsN
  omega
theorem conn_rng {l : List ViewD} (hl : l.all viewOk = true) {val : Int} (hv : 0 ≤ val ∧ val ≤ 1099511627776) (k : Nat) : 0 ≤ fk stC val l k ∧ fk stC val l k ≤ 1099511627776 := by
  refine fk_rng (P := fun s => 0 ≤ s ∧ s ≤ 1099511627776) stC val l hv (fun b x hx hb => ?_) k
  have := viewOk_out (List.all_eq_true.1 hl x hx)
  unfold stC
  omega
theorem path_rng {l : List ViewD} {val : Int} (hv : 0 ≤ val ∧ val ≤ 1099511627776) (k : Nat) : 0 ≤ fk stP val l k ∧ fk stP val l k ≤ 1099511627776 := by
  refine fk_rng (P := fun s => 0 ≤ s ∧ s ≤ 1099511627776) stP val l hv (fun b x hx hb => ?_) k
  have := addCap_rng x.Val x.W
  unfold stP
  split <;> omega
theorem told_rng {l : List ViewD} (hl : l.all viewOk = true) : ∀ a ∈ told l, 0 ≤ a ∧ a ≤ 1099511627776 := by
  intro a ha
  unfold told at ha
  obtain ⟨x, hx, hax⟩ := List.mem_flatMap.1 ha
  have := viewOk_out (List.all_eq_true.1 hl x hx)
  unfold toldOf at hax
  rcases List.mem_append.1 hax with h | h <;> split at h <;> simp at h <;> omega
theorem toldOf_len (x : ViewD) : (toldOf x).length ≤ 2 := by
  unfold toldOf
  split <;> split <;> simp
theorem told_len (l : List ViewD) : (told l).length ≤ 2 * l.length := by
  induction l with
  | nil => simp [told]
  | cons x l ih =>
    have := toldOf_len x
    unfold told at ih ⊢
    rw [List.flatMap_cons, List.length_append, List.length_cons]
    omega
theorem told_take {l : List ViewD} {k : Nat} (h : k < l.length) : told (l.take (k + 1)) = told (l.take k) ++ toldOf l[k] := by
  unfold told
  rw [List.take_succ_eq_append_getElem h, List.flatMap_append]
  simp
theorem most_rng {t : List Int} (ht : ∀ a ∈ t, 0 ≤ a ∧ a ≤ 1099511627776) {val : Int} (hv : 0 ≤ val ∧ val ≤ 1099511627776) (k : Nat) :
    (0 ≤ (fk (stM t) (val, 0) t k).1 ∧ (fk (stM t) (val, 0) t k).1 ≤ 1099511627776) ∧ 0 ≤ (fk (stM t) (val, 0) t k).2 ∧ (fk (stM t) (val, 0) t k).2 ≤ t.length := by
  refine fk_rng (P := fun p : Int × Int => (0 ≤ p.1 ∧ p.1 ≤ 1099511627776) ∧ 0 ≤ p.2 ∧ p.2 ≤ t.length) (stM t) (val, 0) t ⟨hv, Int.le_refl _, by simp⟩ (fun b x hx hb => ?_) k
  have h1 := ht x hx
  have h2 := List.count_le_length (a := x) (l := t)
  unfold stM
  split
  · exact ⟨h1, by omega, by simp only; omega⟩
  · exact hb

theorem toldOf_tt {x : ViewD} (h1 : x.In = true) (h2 : x.Out = true) : toldOf x = [x.Val / 1000, x.Val % 1000] := by unfold toldOf; rw [if_pos h1, if_pos h2]; rfl
theorem toldOf_tf {x : ViewD} (h1 : x.In = true) (h2 : x.Out = false) : toldOf x = [x.Val / 1000] := by unfold toldOf; rw [if_pos h1, if_neg (by simp [h2])]; rfl
theorem toldOf_ft {x : ViewD} (h1 : x.In = false) (h2 : x.Out = true) : toldOf x = [x.Val % 1000] := by unfold toldOf; rw [if_neg (by simp [h1]), if_pos h2]; rfl
theorem toldOf_ff {x : ViewD} (h1 : x.In = false) (h2 : x.Out = false) : toldOf x = [] := by unfold toldOf; rw [if_neg (by simp [h1]), if_neg (by simp [h2])]; rfl
theorem told_take_len {l : List ViewD} (h : l.length ≤ 400) (k : Nat) : (told (l.take k)).length ≤ 800 := by
  have := told_len (l.take k)
  rw [List.length_take] at this
  omega
theorem told_zero (l : List ViewD) : told (l.take 0) = [] := rfl
theorem told_nil : told [] = [] := rfl
theorem sum_in {l : List ViewD} {k : Nat} (h : k < l.length) (hi : l[k].In = true) : fk stS 0 l (k + 1) = addCap (fk stS 0 l k) l[k].Val := by
  rw [fk_succ stS 0 h]; exact if_pos hi
theorem sum_out {l : List ViewD} {k : Nat} (h : k < l.length) (hi : l[k].In = false) : fk stS 0 l (k + 1) = fk stS 0 l k := by
  rw [fk_succ stS 0 h]; exact if_neg (by simp [hi])
theorem outs_in {l : List ViewD} {k : Nat} (h : k < l.length) (hi : l[k].Out = true) : fk stN 0 l (k + 1) = fk stN 0 l k + 1 := by
  rw [fk_succ stN 0 h, stN_in hi]
theorem outs_out {l : List ViewD} {k : Nat} (h : k < l.length) (hi : l[k].Out = false) : fk stN 0 l (k + 1) = fk stN 0 l k := by
  rw [fk_succ stN 0 h]; exact if_neg (by simp [hi])
theorem conn_step {l : List ViewD} {k : Nat} {val : Int} (h : k < l.length) : fk stC val l (k + 1) = min (fk stC val l k) l[k].Val := by
  rw [fk_succ stC val h]; rfl
theorem path_in {l : List ViewD} {k : Nat} {val : Int} (h : k < l.length) (hi : l[k].In = true) : fk stP val l (k + 1) = min (fk stP val l k) (addCap l[k].Val l[k].W) := by
  rw [fk_succ stP val h]; exact if_pos hi
theorem path_out {l : List ViewD} {k : Nat} {val : Int} (h : k < l.length) (hi : l[k].In = false) : fk stP val l (k + 1) = fk stP val l k := by
  rw [fk_succ stP val h]; exact if_neg (by simp [hi])
theorem count_eq {t : List Int} {i : Nat} {a : Int} (h : i < t.length) (e : a = t[i]) : (t.take (i + 1)).count a = (t.take i).count a + 1 := by
  rw [List.take_succ_eq_append_getElem h, List.count_append]; simp [e]
theorem count_ne {t : List Int} {i : Nat} {a : Int} (h : i < t.length) (e : ¬ a = t[i]) : (t.take (i + 1)).count a = (t.take i).count a := by
  rw [List.take_succ_eq_append_getElem h, List.count_append]
  have : ¬ t[i] = a := fun h => e h.symm
  simp [this]
theorem most_yes {t : List Int} {val : Int} {k : Nat} (h : k < t.length) (e : (fk (stM t) (val, 0) t k).2 < (t.count t[k] : Int) ∨ (t.count t[k] : Int) = (fk (stM t) (val, 0) t k).2 ∧ t[k] < (fk (stM t) (val, 0) t k).1) :
    fk (stM t) (val, 0) t (k + 1) = (t[k], (t.count t[k] : Int)) := by
  rw [fk_succ (stM t) (val, 0) h]; exact if_pos e
theorem most_no {t : List Int} {val : Int} {k : Nat} (h : k < t.length) (e : ¬ ((fk (stM t) (val, 0) t k).2 < (t.count t[k] : Int) ∨ (t.count t[k] : Int) = (fk (stM t) (val, 0) t k).2 ∧ t[k] < (fk (stM t) (val, 0) t k).1)) :
    fk (stM t) (val, 0) t (k + 1) = fk (stM t) (val, 0) t k := by
  rw [fk_succ (stM t) (val, 0) h]; exact if_neg e

/-- The label that is told most often, the least of them: what a walk over the labels in any order finds. -/
structure Most (t : List Int) (S : Int → Prop) (val : Int) (p : Int × Int) : Prop where
  none : (∀ a, ¬ S a) → p = (val, 0)
  some : (∃ a, S a) → S p.1 ∧ p.2 = (t.count p.1 : Int)
  max : ∀ a, S a → (t.count a : Int) ≤ p.2
  least : ∀ a, S a → (t.count a : Int) = p.2 → p.1 ≤ a

theorem Most.start (t : List Int) (val : Int) : Most t (fun _ => False) val (val, 0) := ⟨fun _ => rfl, fun ⟨_, h⟩ => h.elim, fun _ h => h.elim, fun _ h => h.elim⟩

theorem Most.step {t : List Int} {S : Int → Prop} {val : Int} {p : Int × Int} (h : Most t S val p) {a : Int} (ha : a ∈ t) (hS : ∀ b, S b → b ∈ t) : Most t (fun b => S b ∨ b = a) val (stM t p a) := by
  have hc : 0 < t.count a := List.count_pos_iff.2 ha
  unfold stM
  by_cases he : ∃ b, S b
  · obtain ⟨h1, h2⟩ := h.some he
    split
    · rename_i hn
      refine ⟨fun h => absurd (.inr rfl) (h a), fun _ => ⟨.inr rfl, rfl⟩, fun b hb => ?_, fun b hb hbe => ?_⟩
      · rcases hb with hb | rfl
        · have := h.max b hb; simp only; omega
        · exact Int.le_refl _
      · rcases hb with hb | rfl
        · have := h.max b hb
          simp only at hbe ⊢
          rcases hn with hn | ⟨hn, hlt⟩
          · omega
          · have := h.least b hb (by omega); omega
        · exact Int.le_refl _
    · rename_i hn
      refine ⟨fun h => absurd (.inr rfl) (h a), fun _ => ⟨.inl h1, h2⟩, fun b hb => ?_, fun b hb hbe => ?_⟩
      · rcases hb with hb | rfl
        · exact h.max b hb
        · omega
      · rcases hb with hb | rfl
        · exact h.least b hb hbe
        · omega
  · have hp := h.none (fun b hb => he ⟨b, hb⟩)
    subst hp
    rw [if_pos (.inl (by simp only; omega))]
    refine ⟨fun h => absurd (.inr rfl) (h a), fun _ => ⟨.inr rfl, rfl⟩, fun b hb => ?_, fun b hb hbe => ?_⟩
    · rcases hb with hb | rfl
      · exact absurd ⟨b, hb⟩ he
      · exact Int.le_refl _
    · rcases hb with hb | rfl
      · exact absurd ⟨b, hb⟩ he
      · exact Int.le_refl _

theorem Most.same {t : List Int} {S S' : Int → Prop} {val : Int} {p : Int × Int} (h : Most t S val p) (hS : ∀ a, S a ↔ S' a) : Most t S' val p :=
  ⟨fun h0 => h.none fun a ha => h0 a ((hS a).1 ha), fun ⟨a, ha⟩ => ⟨(hS _).1 (h.some ⟨a, (hS a).2 ha⟩).1, (h.some ⟨a, (hS a).2 ha⟩).2⟩, fun a ha => h.max a ((hS a).2 ha), fun a ha => h.least a ((hS a).2 ha)⟩

theorem Most.eq {t : List Int} {S : Int → Prop} {val : Int} {p q : Int × Int} (h : Most t S val p) (h' : Most t S val q) : p = q := by
  by_cases he : ∃ a, S a
  · obtain ⟨h1, h2⟩ := h.some he
    obtain ⟨h3, h4⟩ := h'.some he
    have h5 := h.max _ h3
    have h6 := h'.max _ h1
    have h7 := h.least _ h3 (by omega)
    have h8 := h'.least _ h1 (by omega)
    exact Prod.ext (by omega) (by omega)
  · rw [h.none fun a ha => he ⟨a, ha⟩, h'.none fun a ha => he ⟨a, ha⟩]

theorem most_fk (t : List Int) (val : Int) : ∀ k, k ≤ t.length → Most t (fun b => b ∈ t.take k) val (fk (stM t) (val, 0) t k) := by
  intro k
  induction k with
  | zero => intro _; exact (Most.start t val).same fun a => by simp
  | succ k ih =>
    intro hk
    rw [fk_succ (stM t) (val, 0) (by omega)]
    refine ((ih (by omega)).step (List.getElem_mem (by omega)) fun b hb => List.mem_of_mem_take hb).same fun a => ?_
    rw [List.take_succ_eq_append_getElem (by omega), List.mem_append, List.mem_singleton]

theorem mostOf_of {t : List Int} {val : Int} {p : Int × Int} (h : Most t (fun b => b ∈ t) val p) : p.1 = mostOf t val := by
  unfold mostOf
  rw [h.eq ((most_fk t val t.length (Nat.le_refl _)).same fun a => by rw [List.take_length])]

end Go.Proofs.YtcbnfkbnbdbfoaaGreat
