/-
  The engine, texts U1 U2 U3 U4 U5 in one. No conditions of its own.
-/
import Derived.Test.YtfnhchcgieeedaaGreatGO
import Derived.Test.YtfnhchcgieeedaaGreatZz1
import Derived.Test.YtfnhchcgieeedaaGreatMKA
import Derived.Test.YtfnhchcgieeedaaGreatMC
namespace Go.Proofs.YtfnhchcgieeedaaGreat
set_option linter.unusedSimpArgs false
set_option linter.unusedVariables false
set_option linter.unusedSimpArgs false
set_option linter.unusedVariables false
set_option linter.defProp false
open Go.RowKit

def capI (a : Int) : Int := max 0 (min a 1099511627776)
def addCap (a b : Int) : Int := min (capI a + capI b) 1099511627776
theorem capI_rng (a : Int) : 0 ≤ capI a ∧ capI a ≤ 1099511627776 := by unfold capI; omega
theorem addCap_rng (a b : Int) : 0 ≤ addCap a b ∧ addCap a b ≤ 1099511627776 := by
  have := capI_rng a
  have := capI_rng b
  unfold addCap
  omega

section
variable {α β : Type}
/-- the first k elements, one after the other -/
def fk (f : β → α → β) (b : β) (l : List α) (k : Nat) : β := (l.take k).foldl f b
theorem fk_zero (f : β → α → β) (b : β) (l : List α) : fk f b l 0 = b := rfl
theorem fk_succ (f : β → α → β) (b : β) {l : List α} {k : Nat} (h : k < l.length) : fk f b l (k + 1) = f (fk f b l k) l[k] := by
  unfold fk
  rw [List.take_succ_eq_append_getElem h, List.foldl_append]
  rfl
theorem fk_rng {P : β → Prop} (f : β → α → β) (b : β) (l : List α) (h0 : P b) (h : ∀ b x, x ∈ l → P b → P (f b x)) : ∀ k, P (fk f b l k) := by
  intro k
  induction k with
  | zero => exact h0
  | succ k ih =>
    by_cases hk : k < l.length
    · rw [fk_succ f b hk]; exact h _ _ (List.getElem_mem hk) ih
    · have e : l.take (k + 1) = l.take k := by rw [List.take_of_length_le (by omega), List.take_of_length_le (by omega)]
      unfold fk at ih ⊢
      rw [e]; exact ih
theorem take_succ_map (f : α → β) {l : List α} {k : Nat} (h : k < l.length) : (l.take (k + 1)).map f = (l.take k).map f ++ [f l[k]] := by
  rw [List.take_succ_eq_append_getElem h, List.map_append]
  rfl
end

def viewOk (x : ViewD) : Bool := decide (0 ≤ x.Val ∧ x.Val ≤ 1099511627776 ∧ 0 ≤ x.W ∧ x.W ≤ 1000 ∧ (x.In = true ∨ x.Out = true))
def updOk (j : JobD) (v val : Int) (l : List ViewD) : Bool := decide (1 ≤ j.Prog ∧ j.Prog ≤ 4 ∧ 0 ≤ v ∧ v < 150 ∧ 0 ≤ val ∧ val ≤ 1099511627776 ∧ l.length ≤ 400) && l.all viewOk

def stS (s : Int) (x : ViewD) : Int := if x.In = true then addCap s x.Val else s
def stN (n : Int) (x : ViewD) : Int := if x.Out = true then n + 1 else n
def stC (a : Int) (x : ViewD) : Int := min a x.Val
def stP (a : Int) (x : ViewD) : Int := if x.In = true then min a (addCap x.Val x.W) else a
def rankV (l : List ViewD) : Int := min (157286 + 17 * fk stS 0 l l.length / 20) 1099511627776
def outsN (l : List ViewD) : Int := fk stN 0 l l.length
def toldOf (x : ViewD) : List Int := (if x.In = true then [x.Val / 1000] else []) ++ (if x.Out = true then [x.Val % 1000] else [])
def told (l : List ViewD) : List Int := l.flatMap toldOf
def stM (t : List Int) (p : Int × Int) (a : Int) : Int × Int := if p.2 < (t.count a : Int) ∨ (t.count a : Int) = p.2 ∧ a < p.1 then (a, (t.count a : Int)) else p
def mostOf (t : List Int) (val : Int) : Int := (fk (stM t) (val, 0) t t.length).1
def updVal (p val : Int) (l : List ViewD) : Int :=
  if p = 1 then rankV l else if p = 4 then mostOf (told l) val else if p = 2 then fk stC val l l.length else fk stP val l l.length
def labE (n : Int) (x : ViewD) : Int := min ((if x.Out = true then n else x.Val / 1000) * 1000 + (if x.In = true then n else x.Val % 1000)) 1099511627776
def edgeV (p n outs : Int) (x : ViewD) : Int :=
  if p = 1 then (if x.Out = true then n / outs else x.Val) else if p = 2 then min n x.Val else if p = 3 then (if x.Out = true then n else x.Val)
  else labE n x
def updE (p val : Int) (l : List ViewD) : List Int := l.map (edgeV p (updVal p val l) (outsN l))
def updN (j : JobD) (v val : Int) (l : List ViewD) : Int := if updOk j v val l then updVal j.Prog val l else 0
def updL (j : JobD) (v val : Int) (l : List ViewD) : List Int := if updOk j v val l then updE j.Prog val l else []

theorem viewOk_out {x : ViewD} (h : viewOk x = true) : 0 ≤ x.Val ∧ x.Val ≤ 1099511627776 ∧ 0 ≤ x.W ∧ x.W ≤ 1000 ∧ (x.In = true ∨ x.Out = true) := by
  unfold viewOk at h
  simpa using h
theorem sum_rng (l : List ViewD) (k : Nat) : 0 ≤ fk stS 0 l k ∧ fk stS 0 l k ≤ 1099511627776 := by
  refine fk_rng (P := fun s => 0 ≤ s ∧ s ≤ 1099511627776) stS 0 l (by omega) (fun b x _ hb => ?_) k
  unfold stS
  split
  · exact addCap_rng _ _
  · exact hb
theorem stN_or (n : Int) (x : ViewD) : stN n x = n ∨ stN n x = n + 1 := by
  unfold stN
  split <;> simp
theorem stN_in {n : Int} {x : ViewD} (h : x.Out = true) : stN n x = n + 1 := by unfold stN; rw [if_pos h]
theorem outs_rng (l : List ViewD) : ∀ k, 0 ≤ fk stN 0 l k ∧ fk stN 0 l k ≤ k := by
  intro k
  induction k with
  | zero => exact ⟨by simp [fk], by simp [fk]⟩
  | succ k ih =>
    by_cases hk : k < l.length
    · rw [fk_succ stN 0 hk]
      rcases stN_or (fk stN 0 l k) l[k] with h | h <;> rw [h] <;> constructor <;> (try push_cast) <;> omega
    · have e : l.take (k + 1) = l.take k := by rw [List.take_of_length_le (by omega), List.take_of_length_le (by omega)]
      unfold fk at ih ⊢
      rw [e]; push_cast; omega
theorem outs_mono (l : List ViewD) : ∀ k i, fk stN 0 l k ≤ fk stN 0 l (k + i) := by
  intro k i
  induction i with
  | zero => exact Int.le_refl _
  | succ i ih =>
    refine Int.le_trans ih ?_
    rw [← Nat.add_assoc]
    by_cases hk : k + i < l.length
    · rw [fk_succ stN 0 hk]
      rcases stN_or (fk stN 0 l (k + i)) l[k + i] with h | h <;> rw [h] <;> omega
    · have e : l.take (k + i + 1) = l.take (k + i) := by rw [List.take_of_length_le (by omega), List.take_of_length_le (by omega)]
      unfold fk
      rw [e]; exact Int.le_refl _
theorem outs_pos {l : List ViewD} {k : Nat} (h : k < l.length) (ho : l[k].Out = true) : 0 < outsN l := by
  have h1 := outs_mono l (k + 1) (l.length - (k + 1))
  have h2 := (outs_rng l k).1
  rw [show k + 1 + (l.length - (k + 1)) = l.length by omega, fk_succ stN 0 h] at h1
  rw [stN_in ho] at h1
  unfold outsN
  omega
theorem conn_rng {l : List ViewD} (hl : l.all viewOk = true) {val : Int} (hv : 0 ≤ val ∧ val ≤ 1099511627776) (k : Nat) : 0 ≤ fk stC val l k ∧ fk stC val l k ≤ 1099511627776 := by
  refine fk_rng (P := fun s => 0 ≤ s ∧ s ≤ 1099511627776) stC val l hv (fun b x hx hb => ?_) k
  have := viewOk_out (List.all_eq_true.1 hl x hx)
  unfold stC
  omega
theorem path_rng {l : List ViewD} {val : Int} (hv : 0 ≤ val ∧ val ≤ 1099511627776) (k : Nat) : 0 ≤ fk stP val l k ∧ fk stP val l k ≤ 1099511627776 := by
  refine fk_rng (P := fun s => 0 ≤ s ∧ s ≤ 1099511627776) stP val l hv (fun b x hx hb => ?_) k
  have := addCap_rng x.Val x.W
  unfold stP
  split <;> omega
theorem told_rng {l : List ViewD} (hl : l.all viewOk = true) : ∀ a ∈ told l, 0 ≤ a ∧ a ≤ 1099511627776 := by
  intro a ha
  unfold told at ha
  obtain ⟨x, hx, hax⟩ := List.mem_flatMap.1 ha
  have := viewOk_out (List.all_eq_true.1 hl x hx)
  unfold toldOf at hax
  rcases List.mem_append.1 hax with h | h <;> split at h <;> simp at h <;> omega
theorem toldOf_len (x : ViewD) : (toldOf x).length ≤ 2 := by
  unfold toldOf
  split <;> split <;> simp
theorem told_len (l : List ViewD) : (told l).length ≤ 2 * l.length := by
  induction l with
  | nil => simp [told]
  | cons x l ih =>
    have := toldOf_len x
    unfold told at ih ⊢
    rw [List.flatMap_cons, List.length_append, List.length_cons]
    omega
theorem told_take {l : List ViewD} {k : Nat} (h : k < l.length) : told (l.take (k + 1)) = told (l.take k) ++ toldOf l[k] := by
  unfold told
  rw [List.take_succ_eq_append_getElem h, List.flatMap_append]
  simp
theorem most_rng {t : List Int} (ht : ∀ a ∈ t, 0 ≤ a ∧ a ≤ 1099511627776) {val : Int} (hv : 0 ≤ val ∧ val ≤ 1099511627776) (k : Nat) :
    (0 ≤ (fk (stM t) (val, 0) t k).1 ∧ (fk (stM t) (val, 0) t k).1 ≤ 1099511627776) ∧ 0 ≤ (fk (stM t) (val, 0) t k).2 ∧ (fk (stM t) (val, 0) t k).2 ≤ t.length := by
  refine fk_rng (P := fun p : Int × Int => (0 ≤ p.1 ∧ p.1 ≤ 1099511627776) ∧ 0 ≤ p.2 ∧ p.2 ≤ t.length) (stM t) (val, 0) t ⟨hv, Int.le_refl _, by simp⟩ (fun b x hx hb => ?_) k
  have h1 := ht x hx
  have h2 := List.count_le_length (a := x) (l := t)
  unfold stM
  split
  · exact ⟨h1, by omega, by simp only; omega⟩
  · exact hb

theorem toldOf_tt {x : ViewD} (h1 : x.In = true) (h2 : x.Out = true) : toldOf x = [x.Val / 1000, x.Val % 1000] := by unfold toldOf; rw [if_pos h1, if_pos h2]; rfl
theorem toldOf_tf {x : ViewD} (h1 : x.In = true) (h2 : x.Out = false) : toldOf x = [x.Val / 1000] := by unfold toldOf; rw [if_pos h1, if_neg (by simp [h2])]; rfl
theorem toldOf_ft {x : ViewD} (h1 : x.In = false) (h2 : x.Out = true) : toldOf x = [x.Val % 1000] := by unfold toldOf; rw [if_neg (by simp [h1]), if_pos h2]; rfl
theorem toldOf_ff {x : ViewD} (h1 : x.In = false) (h2 : x.Out = false) : toldOf x = [] := by unfold toldOf; rw [if_neg (by simp [h1]), if_neg (by simp [h2])]; rfl
theorem told_take_len {l : List ViewD} (h : l.length ≤ 400) (k : Nat) : (told (l.take k)).length ≤ 800 := by
  have := told_len (l.take k)
  rw [List.length_take] at this
  omega
theorem told_zero (l : List ViewD) : told (l.take 0) = [] := rfl
theorem told_nil : told [] = [] := rfl
theorem sum_in {l : List ViewD} {k : Nat} (h : k < l.length) (hi : l[k].In = true) : fk stS 0 l (k + 1) = addCap (fk stS 0 l k) l[k].Val := by
  rw [fk_succ stS 0 h]; exact if_pos hi
theorem sum_out {l : List ViewD} {k : Nat} (h : k < l.length) (hi : l[k].In = false) : fk stS 0 l (k + 1) = fk stS 0 l k := by
  rw [fk_succ stS 0 h]; exact if_neg (by simp [hi])
theorem outs_in {l : List ViewD} {k : Nat} (h : k < l.length) (hi : l[k].Out = true) : fk stN 0 l (k + 1) = fk stN 0 l k + 1 := by
  rw [fk_succ stN 0 h, stN_in hi]
theorem outs_out {l : List ViewD} {k : Nat} (h : k < l.length) (hi : l[k].Out = false) : fk stN 0 l (k + 1) = fk stN 0 l k := by
  rw [fk_succ stN 0 h]; exact if_neg (by simp [hi])
theorem conn_step {l : List ViewD} {k : Nat} {val : Int} (h : k < l.length) : fk stC val l (k + 1) = min (fk stC val l k) l[k].Val := by
  rw [fk_succ stC val h]; rfl
theorem path_in {l : List ViewD} {k : Nat} {val : Int} (h : k < l.length) (hi : l[k].In = true) : fk stP val l (k + 1) = min (fk stP val l k) (addCap l[k].Val l[k].W) := by
  rw [fk_succ stP val h]; exact if_pos hi
theorem path_out {l : List ViewD} {k : Nat} {val : Int} (h : k < l.length) (hi : l[k].In = false) : fk stP val l (k + 1) = fk stP val l k := by
  rw [fk_succ stP val h]; exact if_neg (by simp [hi])
/-- The label that is told most often, the least of them: what a walk over the labels in any order finds. -/
structure Most (t : List Int) (S : Int → Prop) (val : Int) (p : Int × Int) : Prop where
  none : (∀ a, ¬ S a) → p = (val, 0)
  some : (∃ a, S a) → S p.1 ∧ p.2 = (t.count p.1 : Int)
  max : ∀ a, S a → (t.count a : Int) ≤ p.2
  least : ∀ a, S a → (t.count a : Int) = p.2 → p.1 ≤ a

theorem Most.start (t : List Int) (val : Int) : Most t (fun _ => False) val (val, 0) := ⟨fun _ => rfl, fun ⟨_, h⟩ => h.elim, fun _ h => h.elim, fun _ h => h.elim⟩

theorem Most.step {t : List Int} {S : Int → Prop} {val : Int} {p : Int × Int} (h : Most t S val p) {a : Int} (ha : a ∈ t) (hS : ∀ b, S b → b ∈ t) : Most t (fun b => S b ∨ b = a) val (stM t p a) := by
  have hc : 0 < t.count a := List.count_pos_iff.2 ha
  unfold stM
  by_cases he : ∃ b, S b
  · obtain ⟨h1, h2⟩ := h.some he
    split
    · rename_i hn
      refine ⟨fun h => absurd (.inr rfl) (h a), fun _ => ⟨.inr rfl, rfl⟩, fun b hb => ?_, fun b hb hbe => ?_⟩
      · rcases hb with hb | rfl
        · have := h.max b hb; simp only; omega
        · exact Int.le_refl _
      · rcases hb with hb | rfl
        · have := h.max b hb
          simp only at hbe ⊢
          rcases hn with hn | ⟨hn, hlt⟩
          · omega
          · have := h.least b hb (by omega); omega
        · exact Int.le_refl _
    · rename_i hn
      refine ⟨fun h => absurd (.inr rfl) (h a), fun _ => ⟨.inl h1, h2⟩, fun b hb => ?_, fun b hb hbe => ?_⟩
      · rcases hb with hb | rfl
        · exact h.max b hb
        · omega
      · rcases hb with hb | rfl
        · exact h.least b hb hbe
        · omega
  · have hp := h.none (fun b hb => he ⟨b, hb⟩)
    subst hp
    rw [if_pos (.inl (by simp only; omega))]
    refine ⟨fun h => absurd (.inr rfl) (h a), fun _ => ⟨.inr rfl, rfl⟩, fun b hb => ?_, fun b hb hbe => ?_⟩
    · rcases hb with hb | rfl
      · exact absurd ⟨b, hb⟩ he
      · exact Int.le_refl _
    · rcases hb with hb | rfl
      · exact absurd ⟨b, hb⟩ he
      · exact Int.le_refl _

theorem Most.same {t : List Int} {S S' : Int → Prop} {val : Int} {p : Int × Int} (h : Most t S val p) (hS : ∀ a, S a ↔ S' a) : Most t S' val p :=
  ⟨fun h0 => h.none fun a ha => h0 a ((hS a).1 ha), fun ⟨a, ha⟩ => ⟨(hS _).1 (h.some ⟨a, (hS a).2 ha⟩).1, (h.some ⟨a, (hS a).2 ha⟩).2⟩, fun a ha => h.max a ((hS a).2 ha), fun a ha => h.least a ((hS a).2 ha)⟩

theorem Most.eq {t : List Int} {S : Int → Prop} {val : Int} {p q : Int × Int} (h : Most t S val p) (h' : Most t S val q) : p = q := by
  by_cases he : ∃ a, S a
  · obtain ⟨h1, h2⟩ := h.some he
    obtain ⟨h3, h4⟩ := h'.some he
    have h5 := h.max _ h3
    have h6 := h'.max _ h1
    have h7 := h.least _ h3 (by omega)
    have h8 := h'.least _ h1 (by omega)
    exact Prod.ext (by omega) (by omega)
  · rw [h.none fun a ha => he ⟨a, ha⟩, h'.none fun a ha => he ⟨a, ha⟩]

theorem most_fk (t : List Int) (val : Int) : ∀ k, k ≤ t.length → Most t (fun b => b ∈ t.take k) val (fk (stM t) (val, 0) t k) := by
  intro k
  induction k with
  | zero => intro _; exact (Most.start t val).same fun a => by simp
  | succ k ih =>
    intro hk
    rw [fk_succ (stM t) (val, 0) (by omega)]
    refine ((ih (by omega)).step (List.getElem_mem (by omega)) fun b hb => List.mem_of_mem_take hb).same fun a => ?_
    rw [List.take_succ_eq_append_getElem (by omega), List.mem_append, List.mem_singleton]

theorem mostOf_of {t : List Int} {val : Int} {p : Int × Int} (h : Most t (fun b => b ∈ t) val p) : p.1 = mostOf t val := by
  unfold mostOf
  rw [h.eq ((most_fk t val t.length (Nat.le_refl _)).same fun a => by rw [List.take_length])]

end Go.Proofs.YtfnhchcgieeedaaGreat

namespace Go.Proofs.YtfnhchcgieeedaaGreat
set_option linter.unusedSimpArgs false
set_option linter.unusedVariables false
set_option linter.defProp false
open Go.RowKit


theorem implclamp_k (a b : Int) : FnOK Tryz.prog 115 ⟨0, [], [.c (.v (.int .i64 a)), .c (.v (.int .i64 b))], .c (.v (.int .i64 (max 0 (min a b)))), [], 0⟩ := by
  refine fnOK_of true mixed Tryz.func115 rfl (by rfl) (by rfl) ?_
  have hres := congrArg Array.toList Tryz.results115
  simp only [Tryz.ntmps115, BGB, seval]
  (have gx := true_and True; refine go ?_; (repeat' first | exact Ef.mk | apply Lf.mk | refine fun (K : KT) hK hE hT => ?_ | refine fun (KS : KE) hKS => ?_ | refine fun (D : KD) hD => ?_ | refine fun (hg : (_ : Prop)) => ?_ | fail); all_goals (first | (refine Wr.mk ?_; (try clear gx); repeat first | clear hK hE hT K | clear hR hE hT K) | assumption | skip))
  (refine post_a hres (.inl rfl) ?_; simp only [RSB, ENB, seval, tiAll, true_and]; simp only [MAB, seval]; refine ⟨rfl, rfl, ?_, ?_, ?_⟩ <;> (first | rfl | (simp [WKB, Nat.add_comm, true_and]; done) | (simp only [WKB, seval])))

theorem implcap_k (a : Int) : FnOK Tryz.prog 115 ⟨0, [], [.c (.v (.int .i64 a)), .c (.v (.int .i64 1099511627776))], .c (.v (.int .i64 (capI a))), [], 0⟩ := implclamp_k a _

theorem implAddCap_k (a b : Int) : FnOK Tryz.prog 109 ⟨0, [], [.c (.v (.int .i64 a)), .c (.v (.int .i64 b))], .c (.v (.int .i64 (addCap a b))), [], 0⟩ := by
  have h1 := capI_rng a
  have h2 := capI_rng b
  refine fnOK_of true mixed Tryz.func109 rfl (by rfl) (by rfl) ?_
  have hres := congrArg Array.toList Tryz.results109
  simp only [Tryz.ntmps109, BGB, seval]
  (have gx := true_and True; have q1 := implcap_k a; have q2 := implcap_k b; refine go ?_; (repeat' first | exact Ef.mk | apply Lf.mk | refine fun (K : KT) hK hE hT => ?_ | refine fun (KS : KE) hKS => ?_ | refine fun (D : KD) hD => ?_ | refine fun (hg : (_ : Prop)) => ?_ | fail); all_goals (first | (refine Wr.mk ?_; (try clear gx q1 q2); repeat first | clear hK hE hT K | clear hR hE hT K) | assumption | skip))
  (refine post_a hres (.inl rfl) ?_; simp only [RSB, ENB, seval, tiAll, addCap]; simp only [MAB, seval]; refine ⟨rfl, rfl, ?_, ?_, ?_⟩ <;> (first | rfl | (simp [WKB, Nat.add_comm, addCap]; done) | (simp only [WKB, seval])))

theorem isVertexU_k (a : Int) : FnOK Tryz.prog 40 ⟨0, [], [.c (.v (.int .i64 a))], .c (.v (.bool (decide (0 ≤ a ∧ a < 150)))), [], 0⟩ := by
  refine fnOK_of true mixed Tryz.func40 rfl (by rfl) (by rfl) ?_
  have hres := congrArg Array.toList Tryz.results40
  simp only [Tryz.ntmps40, BGB, seval]
  (have gx := true_and True; refine go ?_; (repeat' first | exact Ef.mk | apply Lf.mk | refine fun (K : KT) hK hE hT => ?_ | refine fun (KS : KE) hKS => ?_ | refine fun (D : KD) hD => ?_ | refine fun (hg : (_ : Prop)) => ?_ | fail); all_goals (first | (refine Wr.mk ?_; (try clear gx); repeat first | clear hK hE hT K | clear hR hE hT K) | assumption | skip))
  all_goals (refine post_a hres (.inl rfl) ?_; simp only [RSB, ENB, seval, tiAll, true_and]; simp only [MAB, seval]; refine ⟨rfl, rfl, ?_, ?_, ?_⟩ <;> (first | rfl | (simp [WKB, Nat.add_comm, true_and]; done) | (simp only [WKB, seval])))
  all_goals (refine congrArg (fun b => SV.c (CV.v (Value.bool b))) ?_; symm; first | (rw [decide_eq_false_iff_not]; omega) | (rw [decide_eq_true_eq]; omega) | (rw [decide_eq_decide]; omega) | (rw [Bool.eq_iff_iff]; simp only [decide_eq_true_eq, beq_iff_eq]; omega))

theorem viewOk_no {x : ViewD} (h : x.Val < 0 ∨ 1099511627776 < x.Val ∨ x.W < 0 ∨ 1000 < x.W ∨ (x.In = false ∧ x.Out = false)) : viewOk x = false := by
  unfold viewOk
  rw [decide_eq_false_iff_not]
  rintro ⟨h1, h2, h3, h4, h5⟩
  rcases h with h | h | h | h | ⟨h, h'⟩
  · omega
  · omega
  · omega
  · omega
  · rw [h, h'] at h5; simp at h5

theorem viewOk_yes {x : ViewD} (h1 : 0 ≤ x.Val) (h2 : x.Val ≤ 1099511627776) (h3 : 0 ≤ x.W) (h4 : x.W ≤ 1000) (h5 : x.In = true ∨ x.Out = true) : viewOk x = true := by
  unfold viewOk
  rw [decide_eq_true_eq]
  exact ⟨h1, h2, h3, h4, h5⟩

end Go.Proofs.YtfnhchcgieeedaaGreat

namespace Go.Proofs.YtfnhchcgieeedaaGreat
set_option linter.unusedSimpArgs false
set_option linter.unusedVariables false
set_option linter.defProp false
open Go.RowKit

theorem mtI : MT Tryz.prog 183 3 3 := ⟨by kernel_rfl, by kernel_rfl, by kernel_rfl, fun w => by kernel_rfl⟩


section
variable {P : Program} {d : Option Tmp} {t tt : TypeId} {x y z : Operand} {pos : String} {af : Array Edge} {gu : Option (Nat × Bool)} {ev : Operand → SV} {H : Heap} {nx : Nat} {K : Eff → Prop}
theorem look_go (h : oneK P ⟨d, .lookup t x y false, tt, pos, af, gu⟩ ev H nx K) : oneK P ⟨d, .lookup t x y false, tt, pos, af, gu⟩ ev H nx K := h
theorem upd_go (h : oneK P ⟨d, .mapUpdate t x y z, tt, pos, af, gu⟩ ev H nx K) : oneK P ⟨d, .mapUpdate t x y z, tt, pos, af, gu⟩ ev H nx K := h
theorem range_go (h : escK P ⟨d, .range t x, tt, pos, af, gu⟩ ev H nx K) : escK P ⟨d, .range t x, tt, pos, af, gu⟩ ev H nx K := h
end

structure LabX (t : List Int) (val : Int) where
  left : Int → Bool
  cnt : Nat
  p : Int
  m : Int
  most : Rnd (Most t (fun a => a ∈ t ∧ left a = false) val (p, m))
  sub : Rnd (∀ a, left a = true → a ∈ t)

theorem most_next {t : List Int} {val : Int} {left : Int → Bool} {p m z : Int} (h : Most t (fun a => a ∈ t ∧ left a = false) val (p, m)) (hs : ∀ a, left a = true → a ∈ t) (hz : left z = true) :
    Most t (fun a => a ∈ t ∧ (left a && !(a == z)) = false) val (stM t (p, m) z) := by
  refine (h.step (hs z hz) fun b hb => hb.1).same fun a => ?_
  by_cases e : a = z
  · subst e
    simp [hs a hz]
  · simp [e]

theorem labE_rng {n : Int} {x : ViewD} (hn : 0 ≤ n ∧ n ≤ 1099511627776) (hx : viewOk x = true) : 0 ≤ labE n x ∧ labE n x ≤ 1099511627776 := by
  have := viewOk_out hx
  unfold labE
  split <;> split <;> omega

theorem lab_tt {n : Int} {x : ViewD} (h1 : x.In = true) (h2 : x.Out = true) : labE n x = min (n * 1000 + n) 1099511627776 := by unfold labE; simp [h1, h2]
theorem lab_tf {n : Int} {x : ViewD} (h1 : x.In = true) (h2 : x.Out = false) : labE n x = min (x.Val / 1000 * 1000 + n) 1099511627776 := by unfold labE; simp [h1, h2]
theorem lab_ft {n : Int} {x : ViewD} (h1 : x.In = false) (h2 : x.Out = true) : labE n x = min (n * 1000 + x.Val % 1000) 1099511627776 := by unfold labE; simp [h1, h2]
theorem lab_ff {n : Int} {x : ViewD} (h1 : x.In = false) (h2 : x.Out = false) : labE n x = min (x.Val / 1000 * 1000 + x.Val % 1000) 1099511627776 := by unfold labE; simp [h1, h2]

set_option maxHeartbeats 8000000 in
theorem updateLabel_k (val : Int) (l : List ViewD) (hv : 0 ≤ val ∧ val ≤ 1099511627776) (hl : l.length ≤ 400) (ho : l.all viewOk = true) :
    FnOK Tryz.prog 87 ⟨1, [(0, some (.ro (l.map ViewD.k)))], [.c (.v (.int .i64 val)), .c (.sl 0 4 0 l.length)], .tup [.inl (.v (.int .i64 (mostOf (told l) val))), .inl (.sl 1 1 0 (l.map (labE (mostOf (told l) val))).length)],
      [(1, some (.row 3 ((l.map (labE (mostOf (told l) val))).map intK)))], 2⟩ := by
  refine fnOK_of true mixed Tryz.func87 rfl (by rfl) (by rfl) ?_
  have hres := congrArg Array.toList Tryz.results87
  simp only [Tryz.ntmps87, BGB, seval]
  (have gx := true_and True; refine go ?_; (repeat' first | exact Ef.mk | apply Lf.mk | refine fun (K : KT) hK hE hT => ?_ | refine fun (KS : KE) hKS => ?_ | refine fun (D : KD) hD => ?_ | refine fun (hg : (_ : Prop)) => ?_ | fail); all_goals (first | (refine Wr.mk ?_; (try clear gx); repeat first | clear hK hE hT K | clear hR hE hT K) | assumption | skip))
  refine makeMap_k (k := 3) (e := 3) fun b => ?_
  (have gx := true_and True; refine go ?_; (repeat' first | exact Ef.mk | apply Lf.mk | refine fun (K : KT) hK hE hT => ?_ | refine fun (KS : KE) hKS => ?_ | refine fun (D : KD) hD => ?_ | refine fun (hg : (_ : Prop)) => ?_ | fail); all_goals (first | (refine Wr.mk ?_; (try clear gx); repeat first | clear hK hE hT K | clear hR hE hT K) | assumption | skip))
  refine loop_v (X := {k : Nat // k ≤ l.length}) [] (fun x => [(20, .c (.v (.int .i64 ((x.1 : Nat) : Int))))]) (fun x => [(0, some (.ro (l.map ViewD.k))), (1, some (.gh [b] (mapW Tryz.prog 3 3 b (told (l.take x.1)))))]) 2 (fun x => l.length - x.1) ⟨0, by omega⟩ ?_
  simp only [KPB, seval]
  refine ⟨?_, ?_⟩
  · (refine wk_a ?_; simp only [MAB, seval]; refine ⟨rfl, rfl, (by decide), ?_, ?_⟩; all_goals (first | (simp only [WKB, seval, told_zero, told_nil]; done) | (simp [WKB, seval, told_zero, told_nil]; done) | simp only [WKB, seval]))
  · rintro ⟨k, hk⟩ K hR hE hT
    have l1 := told_take_len hl k
    rcases Nat.lt_or_ge k l.length with hlt | hge
    case inl =>
      obtain ⟨v1, v2, _, _, _⟩ := viewOk_out (List.all_eq_true.1 ho l[k] (List.getElem_mem hlt))
      have e := told_take hlt
      have c1 := List.count_le_length (a := l[k].Val / 1000) (l := told (l.take k))
      have c2 := List.count_le_length (a := l[k].Val % 1000) (l := told (l.take k))
      have c3 := List.count_le_length (a := l[k].Val % 1000) (l := told (l.take k) ++ [l[k].Val / 1000])
      rw [List.length_append, List.length_singleton] at c3
      repeat' (first | ((with_reducible refine look_go ?_); refine lookup_k mtI (f := 1) rfl rfl rfl (by omega) ?_) | ((with_reducible refine upd_go ?_); refine mapUpdate_k mtI (f := 1) rfl rfl rfl rfl (by decide) rfl (by omega) (by first | omega | (rw [List.length_append, List.length_singleton]; omega)) ?_) | (first | (with_reducible first | refine seq_k fun K hK hE hT => ?_ | refine block_k fun K hK hE hT => ?_ | refine lex_nil ?_ | fail) | ((with_reducible refine region_k ?_); simp only [dstsOf, EVB, seval]) | ((with_reducible refine draw_k ?_ fun D hD => ?_); (focus (first | rfl | kernel_rfl)); simp only [dstsOf, EVB, seval]) | ((with_reducible first | refine lex_move ?_ | refine lex_assign ?_); simp only [EVB, seval]) | (with_reducible first | refine lex_cons fun KS hKS => ?_ | refine lexd_cons fun KS hKS => ?_ | refine skip_k ?_ | refine exit_k ?_ | refine ret_k ?_ | fail) | ((with_reducible refine call_go ?_); fail) | ((with_reducible refine step_go ?_); (fail_if_success with_reducible refine call_go ?_); simp only [ENB, seval, tiAll, List.length_map, List.getElem_map, ViewD.k]) | ((with_reducible refine lexd_nil ?_ ?_); (focus (refine hD _ ?_; first | kernel_rfl | with_unfolding_all rfl)); clear hD; clear D) | ((with_reducible refine guard_go ?_); refine lex_gone rfl rfl ?_; simp only [EVB, seval]) | ((with_reducible refine guardd_go ?_); refine lexd_gone rfl rfl ?_; simp only [EVB, seval]) | ((first | ((with_reducible refine guard_go ?_); refine lex_guard rfl rfl (fun hg KS hKS => ?_) (fun hg => ?_)) | ((with_reducible refine guardd_go ?_); refine lexd_guard rfl rfl (fun hg KS hKS => ?_) (fun hg => ?_)) | ((with_reducible refine cond_go ?_); refine cond_k rfl (fun hg => ?_) (fun hg => ?_)) | (with_reducible refine And.intro (fun hg => ?_) (fun hg => ?_)) | fail) <;> first | ((with_reducible exfalso); exact absurd hg (by decide)) | ((try simp only [CNL] at hg) <;> first | ((with_reducible exfalso); omega) | ((with_reducible exfalso); first | exact tf (by assumption) hg | exact tf hg (by assumption)) | ((try with_reducible (have hT0 : True := hg; clear hT0 hg)); first | (with_reducible refine wpc_go ?_) | (try simp only [EVB, seval])))) | ((with_reducible refine hKS _ _ _ _ ?_); clear hKS; clear KS; simp only [EVB, seval]) | ((with_reducible refine And.intro ?_ ?_); focus (first | omega | exact u8_le _ | exact flat_intK _ | exact flat_bytK _ | (fail) | decide | (simp only [List.length_map, List.getElem_map, ViewD.k]; done))) | ((with_reducible refine ex_p ?_ (fun hh => ?_)); focus (first | omega | (simp only [List.length_map, List.getElem_map, ViewD.k]; omega))) | ((with_reducible refine hK _ _ _ ?_); clear hK hE hT; clear K) | ((with_reducible first | refine hE _ _ _ _ ?_ | refine hT _ _ _ ?_ | fail); (first | (clear hK hE hT; clear K) | (clear hR hE hT; clear K) | skip); try simp only [IFB, seval]) | ((with_reducible apply_assumption -symm -exfalso); try simp only [IFB, seval]) | fail))
      all_goals (first | rw [toldOf_tt (x := l[k]) (by assumption) (by assumption)] at e | rw [toldOf_tf (x := l[k]) (by assumption) (by assumption)] at e | rw [toldOf_ft (x := l[k]) (by assumption) (by assumption)] at e | rw [toldOf_ff (x := l[k]) (by assumption) (by assumption), List.append_nil] at e)
      all_goals (refine hR.out ⟨k + 1, by omega⟩ _ _ _ (by simp only; omega) ?_; (refine wk_a ?_; simp only [MAB, seval]; refine ⟨rfl, rfl, (by decide), ?_, ?_⟩; all_goals (first | (simp only [WKB, seval, e, List.append_assoc, List.cons_append, List.nil_append]; done) | (simp [WKB, seval, e, List.append_assoc, List.cons_append, List.nil_append]; done) | simp only [WKB, seval])))
    case inr =>
      obtain rfl : k = l.length := by omega
      clear l1 hge
      simp only [List.take_length]
      repeat' (first | ((with_reducible refine range_go ?_); refine range_k mtI (f := 1) rfl rfl (by decide) fun r cnt => ?_) | (first | (with_reducible first | refine seq_k fun K hK hE hT => ?_ | refine block_k fun K hK hE hT => ?_ | refine lex_nil ?_ | fail) | ((with_reducible refine region_k ?_); simp only [dstsOf, EVB, seval]) | ((with_reducible refine draw_k ?_ fun D hD => ?_); (focus (first | rfl | kernel_rfl)); simp only [dstsOf, EVB, seval]) | ((with_reducible first | refine lex_move ?_ | refine lex_assign ?_); simp only [EVB, seval]) | (with_reducible first | refine lex_cons fun KS hKS => ?_ | refine lexd_cons fun KS hKS => ?_ | refine skip_k ?_ | refine exit_k ?_ | refine ret_k ?_ | fail) | ((with_reducible refine call_go ?_); fail) | ((with_reducible refine step_go ?_); (fail_if_success with_reducible refine call_go ?_); simp only [ENB, seval, tiAll, List.length_map, List.getElem_map, ViewD.k]) | ((with_reducible refine lexd_nil ?_ ?_); (focus (refine hD _ ?_; first | kernel_rfl | with_unfolding_all rfl)); clear hD; clear D) | ((with_reducible refine guard_go ?_); refine lex_gone rfl rfl ?_; simp only [EVB, seval]) | ((with_reducible refine guardd_go ?_); refine lexd_gone rfl rfl ?_; simp only [EVB, seval]) | ((first | ((with_reducible refine guard_go ?_); refine lex_guard rfl rfl (fun hg KS hKS => ?_) (fun hg => ?_)) | ((with_reducible refine guardd_go ?_); refine lexd_guard rfl rfl (fun hg KS hKS => ?_) (fun hg => ?_)) | ((with_reducible refine cond_go ?_); refine cond_k rfl (fun hg => ?_) (fun hg => ?_)) | (with_reducible refine And.intro (fun hg => ?_) (fun hg => ?_)) | fail) <;> first | ((with_reducible exfalso); exact absurd hg (by decide)) | ((try simp only [CNL] at hg) <;> first | ((with_reducible exfalso); omega) | ((with_reducible exfalso); first | exact tf (by assumption) hg | exact tf hg (by assumption)) | ((try with_reducible (have hT0 : True := hg; clear hT0 hg)); first | (with_reducible refine wpc_go ?_) | (try simp only [EVB, seval])))) | ((with_reducible refine hKS _ _ _ _ ?_); clear hKS; clear KS; simp only [EVB, seval]) | ((with_reducible refine And.intro ?_ ?_); focus (first | omega | exact u8_le _ | exact flat_intK _ | exact flat_bytK _ | (fail) | decide | (simp only [List.length_map, List.getElem_map, ViewD.k]; done))) | ((with_reducible refine ex_p ?_ (fun hh => ?_)); focus (first | omega | (simp only [List.length_map, List.getElem_map, ViewD.k]; omega))) | ((with_reducible refine hK _ _ _ ?_); clear hK hE hT; clear K) | ((with_reducible first | refine hE _ _ _ _ ?_ | refine hT _ _ _ ?_ | fail); (first | (clear hK hE hT; clear K) | (clear hR hE hT; clear K) | skip); try simp only [IFB, seval]) | ((with_reducible apply_assumption -symm -exfalso); try simp only [IFB, seval]) | fail))
      refine loop_v (X := LabX (told l) val) [] (fun x => [(0, .c (.v (.int .i64 x.p))), (9, .c (.v (.int .i64 x.m)))]) (fun x => [(0, some (.ro (l.map ViewD.k))), (2, some (.gh [b, r] (rangeW Tryz.prog 3 3 b r (told l) x.left x.cnt)))]) 3 (fun x => x.cnt) ⟨fun a => decide (a ∈ told l), cnt, val, 0, ⟨(Most.start (told l) val).same fun a => by simp⟩, ⟨fun a ha => by simpa using ha⟩⟩ ?_
      simp only [KPB, seval]
      refine ⟨?_, ?_⟩
      · (refine wk_a ?_; simp only [MAB, seval]; refine ⟨rfl, rfl, (by decide), ?_, ?_⟩; all_goals (first | (simp only [WKB, seval, true_and]; done) | (simp [WKB, seval, true_and]; done) | simp only [WKB, seval]))
      · rintro ⟨left, cn, p, m, hm, hs⟩ K hR hE hT
        (have gx := And.intro (@List.length_map.{0,0}) (And.intro @List.getElem_map.{0,0} @ViewD.k.eq_1); refine go ?_; (repeat' first | exact Ef.mk | apply Lf.mk | refine fun (K : KT) hK hE hT => ?_ | refine fun (KS : KE) hKS => ?_ | refine fun (D : KD) hD => ?_ | refine fun (hg : (_ : Prop)) => ?_ | fail); all_goals (first | (refine Wr.mk ?_; (try clear gx); repeat first | clear hK hE hT K | clear hR hE hT K) | assumption | skip))
        refine next_k mtI (f := 2) rfl rfl (by decide) (fun h0 => ?_) (fun z c2 hz hlt hrz => ?_)
        · obtain rfl : p = mostOf (told l) val := mostOf_of (hm.out.same fun a => by simp [h0])
          have hM' : 0 ≤ mostOf (told l) val ∧ mostOf (told l) val ≤ 1099511627776 := (most_rng (told_rng ho) hv (told l).length).1
          (have gx := And.intro (@List.length_map.{0,0}) (And.intro @List.getElem_map.{0,0} @ViewD.k.eq_1); refine go ?_; (repeat' first | exact Ef.mk | apply Lf.mk | refine fun (K : KT) hK hE hT => ?_ | refine fun (KS : KE) hKS => ?_ | refine fun (D : KD) hD => ?_ | refine fun (hg : (_ : Prop)) => ?_ | fail); all_goals (first | (refine Wr.mk ?_; (try clear gx); repeat first | clear hK hE hT K | clear hR hE hT K) | assumption | skip))
          refine loop_v (X := {k : Nat // k ≤ l.length}) [] (fun x => [(12, .c (.sl 1 1 0 ((l.take x.1).map (labE (mostOf (told l) val))).length)), (65, .c (.v (.int .i64 ((x.1 : Nat) : Int))))]) (fun x => [(0, some (.ro (l.map ViewD.k))), (1, some (.row 3 (((l.take x.1).map (labE (mostOf (told l) val))).map intK)))]) 2 (fun x => l.length - x.1) ⟨0, by omega⟩ ?_
          simp only [KPB, seval]
          refine ⟨?_, ?_⟩
          · (refine wk_a ?_; simp only [MAB, seval]; refine ⟨rfl, rfl, (by decide), ?_, ?_⟩; all_goals (first | (simp only [WKB, seval, List.take_zero, List.map_nil, List.length_nil]; done) | (simp [WKB, seval, List.take_zero, List.map_nil, List.length_nil]; done) | simp only [WKB, seval]))
          · rintro ⟨k, hk⟩ K hR hE hT
            have l1 : (l.take k).length ≤ 400 := by rw [List.length_take]; omega
            rcases Nat.lt_or_ge k l.length with hlt | hge
            · have e := take_succ_map (labE (mostOf (told l) val)) hlt
              obtain ⟨v1, v2, _, _, _⟩ := viewOk_out (List.all_eq_true.1 ho l[k] (List.getElem_mem hlt))
              rcases Bool.eq_false_or_eq_true l[k].In with hin | hin <;> rcases Bool.eq_false_or_eq_true l[k].Out with hout | hout
              · rw [lab_tt hin hout] at e
                (have gx := And.intro (@List.length_map.{0,0}) (And.intro @List.getElem_map.{0,0} @ViewD.k.eq_1); refine go ?_; (repeat' first | exact Ef.mk | apply Lf.mk | refine fun (K : KT) hK hE hT => ?_ | refine fun (KS : KE) hKS => ?_ | refine fun (D : KD) hD => ?_ | refine fun (hg : (_ : Prop)) => ?_ | fail); all_goals (first | (refine Wr.mk ?_; (try clear gx); repeat first | clear hK hE hT K | clear hR hE hT K) | assumption | skip))
                (refine hR.out ⟨k + 1, by omega⟩ _ _ _ (by simp only; omega) ?_; (refine wk_a ?_; simp only [MAB, seval]; refine ⟨rfl, rfl, (by decide), ?_, ?_⟩; all_goals (first | (simp only [WKB, seval, e, intK]; done) | (simp [WKB, seval, e, intK]; done) | simp only [WKB, seval])))
              · rw [lab_tf hin hout] at e
                (have gx := And.intro (@List.length_map.{0,0}) (And.intro @List.getElem_map.{0,0} @ViewD.k.eq_1); refine go ?_; (repeat' first | exact Ef.mk | apply Lf.mk | refine fun (K : KT) hK hE hT => ?_ | refine fun (KS : KE) hKS => ?_ | refine fun (D : KD) hD => ?_ | refine fun (hg : (_ : Prop)) => ?_ | fail); all_goals (first | (refine Wr.mk ?_; (try clear gx); repeat first | clear hK hE hT K | clear hR hE hT K) | assumption | skip))
                (refine hR.out ⟨k + 1, by omega⟩ _ _ _ (by simp only; omega) ?_; (refine wk_a ?_; simp only [MAB, seval]; refine ⟨rfl, rfl, (by decide), ?_, ?_⟩; all_goals (first | (simp only [WKB, seval, e, intK]; done) | (simp [WKB, seval, e, intK]; done) | simp only [WKB, seval])))
              · rw [lab_ft hin hout] at e
                (have gx := And.intro (@List.length_map.{0,0}) (And.intro @List.getElem_map.{0,0} @ViewD.k.eq_1); refine go ?_; (repeat' first | exact Ef.mk | apply Lf.mk | refine fun (K : KT) hK hE hT => ?_ | refine fun (KS : KE) hKS => ?_ | refine fun (D : KD) hD => ?_ | refine fun (hg : (_ : Prop)) => ?_ | fail); all_goals (first | (refine Wr.mk ?_; (try clear gx); repeat first | clear hK hE hT K | clear hR hE hT K) | assumption | skip))
                (refine hR.out ⟨k + 1, by omega⟩ _ _ _ (by simp only; omega) ?_; (refine wk_a ?_; simp only [MAB, seval]; refine ⟨rfl, rfl, (by decide), ?_, ?_⟩; all_goals (first | (simp only [WKB, seval, e, intK]; done) | (simp [WKB, seval, e, intK]; done) | simp only [WKB, seval])))
              · rw [lab_ff hin hout] at e
                (have gx := And.intro (@List.length_map.{0,0}) (And.intro @List.getElem_map.{0,0} @ViewD.k.eq_1); refine go ?_; (repeat' first | exact Ef.mk | apply Lf.mk | refine fun (K : KT) hK hE hT => ?_ | refine fun (KS : KE) hKS => ?_ | refine fun (D : KD) hD => ?_ | refine fun (hg : (_ : Prop)) => ?_ | fail); all_goals (first | (refine Wr.mk ?_; (try clear gx); repeat first | clear hK hE hT K | clear hR hE hT K) | assumption | skip))
                (refine hR.out ⟨k + 1, by omega⟩ _ _ _ (by simp only; omega) ?_; (refine wk_a ?_; simp only [MAB, seval]; refine ⟨rfl, rfl, (by decide), ?_, ?_⟩; all_goals (first | (simp only [WKB, seval, e, intK]; done) | (simp [WKB, seval, e, intK]; done) | simp only [WKB, seval])))
            · obtain rfl : k = l.length := by omega
              (have gx := And.intro (@List.length_map.{0,0}) (And.intro @List.getElem_map.{0,0} @ViewD.k.eq_1); refine go ?_; (repeat' first | exact Ef.mk | apply Lf.mk | refine fun (K : KT) hK hE hT => ?_ | refine fun (KS : KE) hKS => ?_ | refine fun (D : KD) hD => ?_ | refine fun (hg : (_ : Prop)) => ?_ | fail); all_goals (first | (refine Wr.mk ?_; (try clear gx); repeat first | clear hK hE hT K | clear hR hE hT K) | assumption | skip))
              (refine post_a hres (.inl rfl) ?_; simp only [RSB, ENB, seval, tiAll, List.take_length]; simp only [MAB, seval]; refine ⟨rfl, rfl, ?_, ?_, ?_⟩ <;> (first | rfl | (simp [WKB, Nat.add_comm, List.take_length]; done) | (simp only [WKB, seval])))
        · (have gx := And.intro (@List.length_map.{0,0}) (And.intro @List.getElem_map.{0,0} @ViewD.k.eq_1); refine go ?_; (repeat' first | exact Ef.mk | apply Lf.mk | refine fun (K : KT) hK hE hT => ?_ | refine fun (KS : KE) hKS => ?_ | refine fun (D : KD) hD => ?_ | refine fun (hg : (_ : Prop)) => ?_ | fail); all_goals (first | (refine Wr.mk ?_; (try clear gx); repeat first | clear hK hE hT K | clear hR hE hT K) | assumption | skip))
          refine entry_k (f := 2) rfl rfl (by decide) ?_
          repeat' ((fail_if_success with_reducible refine hand_k (id := 99) ?_); (first | (with_reducible first | refine seq_k fun K hK hE hT => ?_ | refine block_k fun K hK hE hT => ?_ | refine lex_nil ?_ | fail) | ((with_reducible refine region_k ?_); simp only [dstsOf, EVB, seval]) | ((with_reducible refine draw_k ?_ fun D hD => ?_); (focus (first | rfl | kernel_rfl)); simp only [dstsOf, EVB, seval]) | ((with_reducible first | refine lex_move ?_ | refine lex_assign ?_); simp only [EVB, seval]) | (with_reducible first | refine lex_cons fun KS hKS => ?_ | refine lexd_cons fun KS hKS => ?_ | refine skip_k ?_ | refine exit_k ?_ | refine ret_k ?_ | fail) | ((with_reducible refine call_go ?_); fail) | ((with_reducible refine step_go ?_); (fail_if_success with_reducible refine call_go ?_); simp only [ENB, seval, tiAll, List.length_map, List.getElem_map, ViewD.k]) | ((with_reducible refine lexd_nil ?_ ?_); (focus (refine hD _ ?_; first | kernel_rfl | with_unfolding_all rfl)); clear hD; clear D) | ((with_reducible refine guard_go ?_); refine lex_gone rfl rfl ?_; simp only [EVB, seval]) | ((with_reducible refine guardd_go ?_); refine lexd_gone rfl rfl ?_; simp only [EVB, seval]) | ((first | ((with_reducible refine guard_go ?_); refine lex_guard rfl rfl (fun hg KS hKS => ?_) (fun hg => ?_)) | ((with_reducible refine guardd_go ?_); refine lexd_guard rfl rfl (fun hg KS hKS => ?_) (fun hg => ?_)) | ((with_reducible refine cond_go ?_); refine cond_k rfl (fun hg => ?_) (fun hg => ?_)) | (with_reducible refine And.intro (fun hg => ?_) (fun hg => ?_)) | fail) <;> first | ((with_reducible exfalso); exact absurd hg (by decide)) | ((try simp only [CNL] at hg) <;> first | ((with_reducible exfalso); omega) | ((with_reducible exfalso); first | exact tf (by assumption) hg | exact tf hg (by assumption)) | ((try with_reducible (have hT0 : True := hg; clear hT0 hg)); first | (with_reducible refine wpc_go ?_) | (try simp only [EVB, seval])))) | ((with_reducible refine hKS _ _ _ _ ?_); clear hKS; clear KS; simp only [EVB, seval]) | ((with_reducible refine And.intro ?_ ?_); focus (first | omega | exact u8_le _ | exact flat_intK _ | exact flat_bytK _ | (fail) | decide | (simp only [List.length_map, List.getElem_map, ViewD.k]; done))) | ((with_reducible refine ex_p ?_ (fun hh => ?_)); focus (first | omega | (simp only [List.length_map, List.getElem_map, ViewD.k]; omega))) | ((with_reducible refine hK _ _ _ ?_); clear hK hE hT; clear K) | ((with_reducible first | refine hE _ _ _ _ ?_ | refine hT _ _ _ ?_ | fail); (first | (clear hK hE hT; clear K) | (clear hR hE hT; clear K) | skip); try simp only [IFB, seval]) | ((with_reducible apply_assumption -symm -exfalso); try simp only [IFB, seval]) | fail))
          all_goals first
            | (have e : stM (told l) (p, m) z = (z, ((told l).count z : Int)) := if_pos (by simp only; omega)
               (refine hR.out ⟨fun a => left a && !(a == z), c2, z, ((told l).count z : Int), ⟨by rw [← e]; exact most_next hm.out hs.out hz⟩, ⟨fun a ha => hs.out a (by rw [Bool.and_eq_true] at ha; exact ha.1)⟩⟩ _ _ _ (by simp only; omega) ?_; (refine wk_a ?_; simp only [MAB, seval]; refine ⟨rfl, rfl, (by decide), ?_, ?_⟩; all_goals (first | (simp only [WKB, seval, true_and]; done) | (simp [WKB, seval, true_and]; done) | simp only [WKB, seval]))))
            | (have e : stM (told l) (p, m) z = (p, m) := if_neg (by simp only; omega)
               (refine hR.out ⟨fun a => left a && !(a == z), c2, p, m, ⟨by rw [← e]; exact most_next hm.out hs.out hz⟩, ⟨fun a ha => hs.out a (by rw [Bool.and_eq_true] at ha; exact ha.1)⟩⟩ _ _ _ (by simp only; omega) ?_; (refine wk_a ?_; simp only [MAB, seval]; refine ⟨rfl, rfl, (by decide), ?_, ?_⟩; all_goals (first | (simp only [WKB, seval, true_and]; done) | (simp [WKB, seval, true_and]; done) | simp only [WKB, seval]))))

end Go.Proofs.YtfnhchcgieeedaaGreat

namespace Go.Proofs.YtfnhchcgieeedaaGreat
set_option linter.unusedSimpArgs false
set_option linter.unusedVariables false
set_option linter.defProp false
open Go.RowKit

theorem updOk_no {j : JobD} {v val : Int} {l : List ViewD} (h : ¬ (1 ≤ j.Prog ∧ j.Prog ≤ 4 ∧ 0 ≤ v ∧ v < 150 ∧ 0 ≤ val ∧ val ≤ 1099511627776 ∧ l.length ≤ 400)) : updOk j v val l = false := by
  unfold updOk
  rw [decide_eq_false h, Bool.false_and]
theorem updOk_bad {j : JobD} {v val : Int} {l : List ViewD} (h : l.all viewOk = false) : updOk j v val l = false := by
  unfold updOk
  rw [h, Bool.and_false]
theorem updOk_yes {j : JobD} {v val : Int} {l : List ViewD} (h : 1 ≤ j.Prog ∧ j.Prog ≤ 4 ∧ 0 ≤ v ∧ v < 150 ∧ 0 ≤ val ∧ val ≤ 1099511627776 ∧ l.length ≤ 400) (h2 : l.all viewOk = true) : updOk j v val l = true := by
  unfold updOk
  rw [decide_eq_true h, h2, Bool.true_and]
theorem updOk_out {j : JobD} {v val : Int} {l : List ViewD} (h : updOk j v val l = true) : (1 ≤ j.Prog ∧ j.Prog ≤ 4 ∧ 0 ≤ v ∧ v < 150 ∧ 0 ≤ val ∧ val ≤ 1099511627776 ∧ l.length ≤ 400) ∧ l.all viewOk = true := by
  unfold updOk at h
  simpa only [Bool.and_eq_true, decide_eq_true_eq] using h

theorem isVal_k (z : Int) : FnOK Tryz.prog 65 ⟨0, [], [.c (.v (.int .i64 z))], .c (.v (.bool (decide (0 ≤ z ∧ z ≤ 1099511627776)))), [], 0⟩ := implisValue_k z

set_option maxHeartbeats 2000000 in
theorem updatable_k (j : JobD) (v val : Int) (l : List ViewD) (hl : l.length ≤ 9223372036854775807) : FnOK Tryz.prog 83 ⟨1, [(0, some (.ro (l.map ViewD.k)))], [.agg [.v (.int .i64 j.Prog), .v (.int .i64 j.Src)], .c (.v (.int .i64 v)), .c (.v (.int .i64 val)), .c (.sl 0 4 0 l.length)], .c (.v (.bool (updOk j v val l))), [], 1⟩ := by
  refine fnOK_of true mixed Tryz.func83 rfl (by rfl) (by rfl) ?_
  have hres := congrArg Array.toList Tryz.results83
  simp only [Tryz.ntmps83, BGB, seval]
  (have gx := And.intro (@List.length_map.{0,0}) (And.intro @List.getElem_map.{0,0} @ViewD.k.eq_1); have q1 := implisProg_k j.Prog; have q2 := isVertexU_k v; have q3 := isVal_k val; refine go ?_; (repeat' first | exact Ef.mk | apply Lf.mk | refine fun (K : KT) hK hE hT => ?_ | refine fun (KS : KE) hKS => ?_ | refine fun (D : KD) hD => ?_ | refine fun (hg : (_ : Prop)) => ?_ | fail); all_goals (first | (refine Wr.mk ?_; (try clear gx q1 q2 q3); repeat first | clear hK hE hT K | clear hR hE hT K) | assumption | skip))
  all_goals first
    | (have e : updOk j v val l = false := updOk_no (by omega)
       (refine post_a hres (.inl rfl) ?_; simp only [RSB, ENB, seval, tiAll, e]; simp only [MAB, seval]; refine ⟨rfl, rfl, ?_, ?_, ?_⟩ <;> (first | rfl | (simp [WKB, Nat.add_comm, e]; done) | (simp only [WKB, seval]))))
    | skip
  refine loop_v (X := {k : Nat // k ≤ l.length ∧ Rnd (∀ i (hi : i < l.length), i < k → viewOk l[i] = true)}) [] (fun x => [(32, .c (.v (.int .i64 ((x.1 : Nat) : Int))))]) (fun x => [(0, some (.ro (l.map ViewD.k))), (1, some (.box 28 [.v (.int .i64 j.Prog), .v (.int .i64 j.Src)]))]) 2 (fun x => l.length - x.1) ⟨0, by omega, ⟨fun i hi h => by omega⟩⟩ ?_
  simp only [KPB, seval]
  refine ⟨?_, ?_⟩
  · (refine wk_a ?_; simp only [MAB, seval]; refine ⟨rfl, rfl, (by decide), ?_, ?_⟩; all_goals (first | (simp only [WKB, seval, true_and]; done) | (simp [WKB, seval, true_and]; done) | simp only [WKB, seval]))
  · rintro ⟨k, hk, hi⟩ K hR hE hT
    (have gx := And.intro (@List.length_map.{0,0}) (And.intro @List.getElem_map.{0,0} @ViewD.k.eq_1); have q1 := fun hq1 => isVal_k (l[k]'hq1).Val; refine go ?_; (repeat' first | exact Ef.mk | apply Lf.mk | refine fun (K : KT) hK hE hT => ?_ | refine fun (KS : KE) hKS => ?_ | refine fun (D : KD) hD => ?_ | refine fun (hg : (_ : Prop)) => ?_ | fail); all_goals (first | (refine Wr.mk ?_; (try clear gx q1); repeat first | clear hK hE hT K | clear hR hE hT K) | assumption | skip))
    all_goals first
      | (have e : viewOk (l[k]'(by omega)) = false := viewOk_no (by first | (refine .inr (.inr (.inr (.inr ⟨?_, ?_⟩))) <;> assumption) | omega)
         have e2 : updOk j v val l = false := updOk_bad (all_no (by omega) e)
         (refine post_a hres (.inl rfl) ?_; simp only [RSB, ENB, seval, tiAll, e2]; simp only [MAB, seval]; refine ⟨rfl, rfl, ?_, ?_, ?_⟩ <;> (first | rfl | (simp [WKB, Nat.add_comm, e2]; done) | (simp only [WKB, seval]))))
      | (have e : viewOk (l[k]'(by omega)) = true := viewOk_yes (by omega) (by omega) (by omega) (by omega) (by first | exact .inl (by assumption) | exact .inr (by assumption))
         (refine hR.out ⟨k + 1, by omega, ⟨all_more hi.out (by omega) e⟩⟩ _ _ _ (by simp only; omega) ?_; (refine wk_a ?_; simp only [MAB, seval]; refine ⟨rfl, rfl, (by decide), ?_, ?_⟩; all_goals (first | (simp only [WKB, seval, true_and]; done) | (simp [WKB, seval, true_and]; done) | simp only [WKB, seval]))))
      | (have e : updOk j v val l = true := updOk_yes (by omega) (all_yes (p := viewOk) (k := k) (by omega) hi.out)
         (refine post_a hres (.inl rfl) ?_; simp only [RSB, ENB, seval, tiAll, e]; simp only [MAB, seval]; refine ⟨rfl, rfl, ?_, ?_, ?_⟩ <;> (first | rfl | (simp [WKB, Nat.add_comm, e]; done) | (simp only [WKB, seval]))))

theorem edge1_out {n o : Int} {x : ViewD} (h : x.Out = true) : edgeV 1 n o x = n / o := by unfold edgeV; rw [if_pos rfl, if_pos h]
theorem edge1_in {n o : Int} {x : ViewD} (h : x.Out = false) : edgeV 1 n o x = x.Val := by unfold edgeV; rw [if_pos rfl, if_neg (by simp [h])]
theorem edge2 {n o : Int} {x : ViewD} : edgeV 2 n o x = min x.Val n := by unfold edgeV; rw [if_neg (by decide), if_pos rfl]; omega
theorem edge3_out {n o : Int} {x : ViewD} (h : x.Out = true) : edgeV 3 n o x = n := by unfold edgeV; rw [if_neg (by decide), if_neg (by decide), if_pos rfl, if_pos h]
theorem edge3_in {n o : Int} {x : ViewD} (h : x.Out = false) : edgeV 3 n o x = x.Val := by unfold edgeV; rw [if_neg (by decide), if_neg (by decide), if_pos rfl, if_neg (by simp [h])]
theorem edge4 {n o : Int} {x : ViewD} : edgeV 4 n o x = labE n x := by unfold edgeV; rw [if_neg (by decide), if_neg (by decide), if_neg (by decide)]

set_option maxHeartbeats 2000000 in
theorem updateRank_k (l : List ViewD) (hl : l.length ≤ 400) : FnOK Tryz.prog 84 ⟨1, [(0, some (.ro (l.map ViewD.k)))], [.c (.sl 0 4 0 l.length)], .tup [.inl (.v (.int .i64 (rankV l))), .inl (.sl 1 1 0 (l.map (edgeV 1 (rankV l) (outsN l))).length)],
    [(1, some (.row 3 ((l.map (edgeV 1 (rankV l) (outsN l))).map intK)))], 2⟩ := by
  refine fnOK_of true mixed Tryz.func84 rfl (by rfl) (by rfl) ?_
  have hres := congrArg Array.toList Tryz.results84
  simp only [Tryz.ntmps84, BGB, seval]
  (have gx := true_and True; refine go ?_; (repeat' first | exact Ef.mk | apply Lf.mk | refine fun (K : KT) hK hE hT => ?_ | refine fun (KS : KE) hKS => ?_ | refine fun (D : KD) hD => ?_ | refine fun (hg : (_ : Prop)) => ?_ | fail); all_goals (first | (refine Wr.mk ?_; (try clear gx); repeat first | clear hK hE hT K | clear hR hE hT K) | assumption | skip))
  refine loop_v (X := {k : Nat // k ≤ l.length}) [] (fun x => [(4, .c (.v (.int .i64 (fk stS 0 l x.1)))), (5, .c (.v (.int .i64 (fk stN 0 l x.1)))), (14, .c (.v (.int .i64 ((x.1 : Nat) : Int))))]) (fun x => [(0, some (.ro (l.map ViewD.k)))]) 1 (fun x => l.length - x.1) ⟨0, by omega⟩ ?_
  simp only [KPB, seval]
  refine ⟨?_, ?_⟩
  · (refine wk_a ?_; simp only [MAB, seval]; refine ⟨rfl, rfl, (by decide), ?_, ?_⟩; all_goals (first | (simp only [WKB, seval, fk_zero]; done) | (simp [WKB, seval, fk_zero]; done) | simp only [WKB, seval]))
  · rintro ⟨k, hk⟩ K hR hE hT
    have s1 := sum_rng l k
    have s2 := outs_rng l k
    (have gx := And.intro (@List.length_map.{0,0}) (And.intro @List.getElem_map.{0,0} @ViewD.k.eq_1); have q1 := fun hq1 => implAddCap_k (fk stS 0 l k) (l[k]'hq1).Val; refine go ?_; (repeat' first | exact Ef.mk | apply Lf.mk | refine fun (K : KT) hK hE hT => ?_ | refine fun (KS : KE) hKS => ?_ | refine fun (D : KD) hD => ?_ | refine fun (hg : (_ : Prop)) => ?_ | fail); all_goals (first | (refine Wr.mk ?_; (try clear gx q1); repeat first | clear hK hE hT K | clear hR hE hT K) | assumption | skip))
    · have e := sum_in (show k < l.length by first | assumption | omega) (by assumption)
      have e' := outs_in (show k < l.length by first | assumption | omega) (by assumption)
      (refine hR.out ⟨k + 1, by omega⟩ _ _ _ (by simp only; omega) ?_; (refine wk_a ?_; simp only [MAB, seval]; refine ⟨rfl, rfl, (by decide), ?_, ?_⟩; all_goals (first | (simp only [WKB, seval, e, e']; done) | (simp [WKB, seval, e, e']; done) | simp only [WKB, seval])))
    · have e := sum_in (show k < l.length by first | assumption | omega) (by assumption)
      have e' := outs_out (show k < l.length by first | assumption | omega) (by assumption)
      (refine hR.out ⟨k + 1, by omega⟩ _ _ _ (by simp only; omega) ?_; (refine wk_a ?_; simp only [MAB, seval]; refine ⟨rfl, rfl, (by decide), ?_, ?_⟩; all_goals (first | (simp only [WKB, seval, e, e']; done) | (simp [WKB, seval, e, e']; done) | simp only [WKB, seval])))
    · have e := sum_out (show k < l.length by first | assumption | omega) (by assumption)
      have e' := outs_in (show k < l.length by first | assumption | omega) (by assumption)
      (refine hR.out ⟨k + 1, by omega⟩ _ _ _ (by simp only; omega) ?_; (refine wk_a ?_; simp only [MAB, seval]; refine ⟨rfl, rfl, (by decide), ?_, ?_⟩; all_goals (first | (simp only [WKB, seval, e, e']; done) | (simp [WKB, seval, e, e']; done) | simp only [WKB, seval])))
    · have e := sum_out (show k < l.length by first | assumption | omega) (by assumption)
      have e' := outs_out (show k < l.length by first | assumption | omega) (by assumption)
      (refine hR.out ⟨k + 1, by omega⟩ _ _ _ (by simp only; omega) ?_; (refine wk_a ?_; simp only [MAB, seval]; refine ⟨rfl, rfl, (by decide), ?_, ?_⟩; all_goals (first | (simp only [WKB, seval, e, e']; done) | (simp [WKB, seval, e, e']; done) | simp only [WKB, seval])))
    · obtain rfl : k = l.length := by omega
      refine loop_v (X := {k : Nat // k ≤ l.length}) [] (fun x => [(9, .c (.sl 1 1 0 ((l.take x.1).map (edgeV 1 (rankV l) (outsN l))).length)), (36, .c (.v (.int .i64 ((x.1 : Nat) : Int))))]) (fun x => [(0, some (.ro (l.map ViewD.k))), (1, some (.row 3 (((l.take x.1).map (edgeV 1 (rankV l) (outsN l))).map intK)))]) 2 (fun x => l.length - x.1) ⟨0, by omega⟩ ?_
      simp only [KPB, seval]
      refine ⟨?_, ?_⟩
      · (refine wk_a ?_; simp only [MAB, seval]; refine ⟨rfl, rfl, (by decide), ?_, ?_⟩; all_goals (first | (simp only [WKB, seval, List.take_zero, List.map_nil, List.length_nil]; done) | (simp [WKB, seval, List.take_zero, List.map_nil, List.length_nil]; done) | simp only [WKB, seval]))
      · rintro ⟨k, hk⟩ K hR hE hT
        have l1 : (l.take k).length ≤ 400 := by rw [List.length_take]; omega
        rcases Nat.lt_or_ge k l.length with hlt | hge
        · have e := take_succ_map (edgeV 1 (rankV l) (outsN l)) hlt
          rcases Bool.eq_false_or_eq_true l[k].Out with hout | hout
          · have op := outs_pos hlt hout
            unfold outsN at op
            rw [edge1_out hout] at e
            replace e : (l.take (k + 1)).map (edgeV 1 (rankV l) (outsN l)) = (l.take k).map (edgeV 1 (rankV l) (outsN l)) ++ [min (157286 + 17 * fk stS 0 l l.length / 20) 1099511627776 / fk stN 0 l l.length] := e
            (have gx := And.intro (@List.length_map.{0,0}) (And.intro @List.getElem_map.{0,0} @ViewD.k.eq_1); refine go ?_; (repeat' first | exact Ef.mk | apply Lf.mk | refine fun (K : KT) hK hE hT => ?_ | refine fun (KS : KE) hKS => ?_ | refine fun (D : KD) hD => ?_ | refine fun (hg : (_ : Prop)) => ?_ | fail); all_goals (first | (refine Wr.mk ?_; (try clear gx); repeat first | clear hK hE hT K | clear hR hE hT K) | assumption | skip))
            (refine hR.out ⟨k + 1, by omega⟩ _ _ _ (by simp only; omega) ?_; (refine wk_a ?_; simp only [MAB, seval]; refine ⟨rfl, rfl, (by decide), ?_, ?_⟩; all_goals (first | (simp only [WKB, seval, e, intK]; done) | (simp [WKB, seval, e, intK]; done) | simp only [WKB, seval])))
          · rw [edge1_in hout] at e
            (have gx := And.intro (@List.length_map.{0,0}) (And.intro @List.getElem_map.{0,0} @ViewD.k.eq_1); refine go ?_; (repeat' first | exact Ef.mk | apply Lf.mk | refine fun (K : KT) hK hE hT => ?_ | refine fun (KS : KE) hKS => ?_ | refine fun (D : KD) hD => ?_ | refine fun (hg : (_ : Prop)) => ?_ | fail); all_goals (first | (refine Wr.mk ?_; (try clear gx); repeat first | clear hK hE hT K | clear hR hE hT K) | assumption | skip))
            (refine hR.out ⟨k + 1, by omega⟩ _ _ _ (by simp only; omega) ?_; (refine wk_a ?_; simp only [MAB, seval]; refine ⟨rfl, rfl, (by decide), ?_, ?_⟩; all_goals (first | (simp only [WKB, seval, e, intK]; done) | (simp [WKB, seval, e, intK]; done) | simp only [WKB, seval])))
        · obtain rfl : k = l.length := by omega
          (have gx := And.intro (@List.length_map.{0,0}) (And.intro @List.getElem_map.{0,0} @ViewD.k.eq_1); refine go ?_; (repeat' first | exact Ef.mk | apply Lf.mk | refine fun (K : KT) hK hE hT => ?_ | refine fun (KS : KE) hKS => ?_ | refine fun (D : KD) hD => ?_ | refine fun (hg : (_ : Prop)) => ?_ | fail); all_goals (first | (refine Wr.mk ?_; (try clear gx); repeat first | clear hK hE hT K | clear hR hE hT K) | assumption | skip))
          (refine post_a hres (.inl rfl) ?_; simp only [RSB, ENB, seval, tiAll, List.take_length, rankV]; simp only [MAB, seval]; refine ⟨rfl, rfl, ?_, ?_, ?_⟩ <;> (first | rfl | (simp [WKB, Nat.add_comm, List.take_length, rankV]; done) | (simp only [WKB, seval])))

set_option maxHeartbeats 2000000 in
theorem updateConn_k (val o : Int) (l : List ViewD) (hl : l.length ≤ 400) : FnOK Tryz.prog 85 ⟨1, [(0, some (.ro (l.map ViewD.k)))], [.c (.v (.int .i64 val)), .c (.sl 0 4 0 l.length)], .tup [.inl (.v (.int .i64 (fk stC val l l.length))), .inl (.sl 1 1 0 (l.map (edgeV 2 (fk stC val l l.length) o)).length)],
    [(1, some (.row 3 ((l.map (edgeV 2 (fk stC val l l.length) o)).map intK)))], 2⟩ := by
  refine fnOK_of true mixed Tryz.func85 rfl (by rfl) (by rfl) ?_
  have hres := congrArg Array.toList Tryz.results85
  simp only [Tryz.ntmps85, BGB, seval]
  (have gx := true_and True; refine go ?_; (repeat' first | exact Ef.mk | apply Lf.mk | refine fun (K : KT) hK hE hT => ?_ | refine fun (KS : KE) hKS => ?_ | refine fun (D : KD) hD => ?_ | refine fun (hg : (_ : Prop)) => ?_ | fail); all_goals (first | (refine Wr.mk ?_; (try clear gx); repeat first | clear hK hE hT K | clear hR hE hT K) | assumption | skip))
  refine loop_v (X := {k : Nat // k ≤ l.length}) [] (fun x => [(0, .c (.v (.int .i64 (fk stC val l x.1)))), (13, .c (.v (.int .i64 ((x.1 : Nat) : Int))))]) (fun x => [(0, some (.ro (l.map ViewD.k)))]) 1 (fun x => l.length - x.1) ⟨0, by omega⟩ ?_
  simp only [KPB, seval]
  refine ⟨?_, ?_⟩
  · (refine wk_a ?_; simp only [MAB, seval]; refine ⟨rfl, rfl, (by decide), ?_, ?_⟩; all_goals (first | (simp only [WKB, seval, fk_zero]; done) | (simp [WKB, seval, fk_zero]; done) | simp only [WKB, seval]))
  · rintro ⟨k, hk⟩ K hR hE hT
    (have gx := And.intro (@List.length_map.{0,0}) (And.intro @List.getElem_map.{0,0} @ViewD.k.eq_1); refine go ?_; (repeat' first | exact Ef.mk | apply Lf.mk | refine fun (K : KT) hK hE hT => ?_ | refine fun (KS : KE) hKS => ?_ | refine fun (D : KD) hD => ?_ | refine fun (hg : (_ : Prop)) => ?_ | fail); all_goals (first | (refine Wr.mk ?_; (try clear gx); repeat first | clear hK hE hT K | clear hR hE hT K) | assumption | skip))
    · have e := conn_step (val := val) (show k < l.length by first | assumption | omega)
      (refine hR.out ⟨k + 1, by omega⟩ _ _ _ (by simp only; omega) ?_; (refine wk_a ?_; simp only [MAB, seval]; refine ⟨rfl, rfl, (by decide), ?_, ?_⟩; all_goals (first | (simp only [WKB, seval, e]; done) | (simp [WKB, seval, e]; done) | simp only [WKB, seval])))
    · obtain rfl : k = l.length := by omega
      refine loop_v (X := {k : Nat // k ≤ l.length}) [] (fun x => [(8, .c (.sl 1 1 0 ((l.take x.1).map (edgeV 2 (fk stC val l l.length) o)).length)), (24, .c (.v (.int .i64 ((x.1 : Nat) : Int))))]) (fun x => [(0, some (.ro (l.map ViewD.k))), (1, some (.row 3 (((l.take x.1).map (edgeV 2 (fk stC val l l.length) o)).map intK)))]) 2 (fun x => l.length - x.1) ⟨0, by omega⟩ ?_
      simp only [KPB, seval]
      refine ⟨?_, ?_⟩
      · (refine wk_a ?_; simp only [MAB, seval]; refine ⟨rfl, rfl, (by decide), ?_, ?_⟩; all_goals (first | (simp only [WKB, seval, List.take_zero, List.map_nil, List.length_nil]; done) | (simp [WKB, seval, List.take_zero, List.map_nil, List.length_nil]; done) | simp only [WKB, seval]))
      · rintro ⟨k, hk⟩ K hR hE hT
        have l1 : (l.take k).length ≤ 400 := by rw [List.length_take]; omega
        rcases Nat.lt_or_ge k l.length with hlt | hge
        · have e := take_succ_map (edgeV 2 (fk stC val l l.length) o) hlt
          rw [edge2] at e
          (have gx := And.intro (@List.length_map.{0,0}) (And.intro @List.getElem_map.{0,0} @ViewD.k.eq_1); refine go ?_; (repeat' first | exact Ef.mk | apply Lf.mk | refine fun (K : KT) hK hE hT => ?_ | refine fun (KS : KE) hKS => ?_ | refine fun (D : KD) hD => ?_ | refine fun (hg : (_ : Prop)) => ?_ | fail); all_goals (first | (refine Wr.mk ?_; (try clear gx); repeat first | clear hK hE hT K | clear hR hE hT K) | assumption | skip))
          (refine hR.out ⟨k + 1, by omega⟩ _ _ _ (by simp only; omega) ?_; (refine wk_a ?_; simp only [MAB, seval]; refine ⟨rfl, rfl, (by decide), ?_, ?_⟩; all_goals (first | (simp only [WKB, seval, e, intK]; done) | (simp [WKB, seval, e, intK]; done) | simp only [WKB, seval])))
        · obtain rfl : k = l.length := by omega
          (have gx := And.intro (@List.length_map.{0,0}) (And.intro @List.getElem_map.{0,0} @ViewD.k.eq_1); refine go ?_; (repeat' first | exact Ef.mk | apply Lf.mk | refine fun (K : KT) hK hE hT => ?_ | refine fun (KS : KE) hKS => ?_ | refine fun (D : KD) hD => ?_ | refine fun (hg : (_ : Prop)) => ?_ | fail); all_goals (first | (refine Wr.mk ?_; (try clear gx); repeat first | clear hK hE hT K | clear hR hE hT K) | assumption | skip))
          (refine post_a hres (.inl rfl) ?_; simp only [RSB, ENB, seval, tiAll, List.take_length]; simp only [MAB, seval]; refine ⟨rfl, rfl, ?_, ?_, ?_⟩ <;> (first | rfl | (simp [WKB, Nat.add_comm, List.take_length]; done) | (simp only [WKB, seval])))

set_option maxHeartbeats 2000000 in
theorem updatePath_k (val o : Int) (l : List ViewD) (hl : l.length ≤ 400) : FnOK Tryz.prog 86 ⟨1, [(0, some (.ro (l.map ViewD.k)))], [.c (.v (.int .i64 val)), .c (.sl 0 4 0 l.length)], .tup [.inl (.v (.int .i64 (fk stP val l l.length))), .inl (.sl 1 1 0 (l.map (edgeV 3 (fk stP val l l.length) o)).length)],
    [(1, some (.row 3 ((l.map (edgeV 3 (fk stP val l l.length) o)).map intK)))], 2⟩ := by
  refine fnOK_of true mixed Tryz.func86 rfl (by rfl) (by rfl) ?_
  have hres := congrArg Array.toList Tryz.results86
  simp only [Tryz.ntmps86, BGB, seval]
  (have gx := true_and True; refine go ?_; (repeat' first | exact Ef.mk | apply Lf.mk | refine fun (K : KT) hK hE hT => ?_ | refine fun (KS : KE) hKS => ?_ | refine fun (D : KD) hD => ?_ | refine fun (hg : (_ : Prop)) => ?_ | fail); all_goals (first | (refine Wr.mk ?_; (try clear gx); repeat first | clear hK hE hT K | clear hR hE hT K) | assumption | skip))
  refine loop_v (X := {k : Nat // k ≤ l.length}) [] (fun x => [(0, .c (.v (.int .i64 (fk stP val l x.1)))), (13, .c (.v (.int .i64 ((x.1 : Nat) : Int))))]) (fun x => [(0, some (.ro (l.map ViewD.k)))]) 1 (fun x => l.length - x.1) ⟨0, by omega⟩ ?_
  simp only [KPB, seval]
  refine ⟨?_, ?_⟩
  · (refine wk_a ?_; simp only [MAB, seval]; refine ⟨rfl, rfl, (by decide), ?_, ?_⟩; all_goals (first | (simp only [WKB, seval, fk_zero]; done) | (simp [WKB, seval, fk_zero]; done) | simp only [WKB, seval]))
  · rintro ⟨k, hk⟩ K hR hE hT
    (have gx := And.intro (@List.length_map.{0,0}) (And.intro @List.getElem_map.{0,0} @ViewD.k.eq_1); have q1 := fun hq1 hq2 => implAddCap_k (l[k]'hq1).Val (l[k]'hq2).W; refine go ?_; (repeat' first | exact Ef.mk | apply Lf.mk | refine fun (K : KT) hK hE hT => ?_ | refine fun (KS : KE) hKS => ?_ | refine fun (D : KD) hD => ?_ | refine fun (hg : (_ : Prop)) => ?_ | fail); all_goals (first | (refine Wr.mk ?_; (try clear gx q1); repeat first | clear hK hE hT K | clear hR hE hT K) | assumption | skip))
    · have e := path_in (val := val) (show k < l.length by first | assumption | omega) (by assumption)
      (refine hR.out ⟨k + 1, by omega⟩ _ _ _ (by simp only; omega) ?_; (refine wk_a ?_; simp only [MAB, seval]; refine ⟨rfl, rfl, (by decide), ?_, ?_⟩; all_goals (first | (simp only [WKB, seval, e]; done) | (simp [WKB, seval, e]; done) | simp only [WKB, seval])))
    · have e := path_out (val := val) (show k < l.length by first | assumption | omega) (by assumption)
      (refine hR.out ⟨k + 1, by omega⟩ _ _ _ (by simp only; omega) ?_; (refine wk_a ?_; simp only [MAB, seval]; refine ⟨rfl, rfl, (by decide), ?_, ?_⟩; all_goals (first | (simp only [WKB, seval, e]; done) | (simp [WKB, seval, e]; done) | simp only [WKB, seval])))
    · obtain rfl : k = l.length := by omega
      refine loop_v (X := {k : Nat // k ≤ l.length}) [] (fun x => [(8, .c (.sl 1 1 0 ((l.take x.1).map (edgeV 3 (fk stP val l l.length) o)).length)), (29, .c (.v (.int .i64 ((x.1 : Nat) : Int))))]) (fun x => [(0, some (.ro (l.map ViewD.k))), (1, some (.row 3 (((l.take x.1).map (edgeV 3 (fk stP val l l.length) o)).map intK)))]) 2 (fun x => l.length - x.1) ⟨0, by omega⟩ ?_
      simp only [KPB, seval]
      refine ⟨?_, ?_⟩
      · (refine wk_a ?_; simp only [MAB, seval]; refine ⟨rfl, rfl, (by decide), ?_, ?_⟩; all_goals (first | (simp only [WKB, seval, List.take_zero, List.map_nil, List.length_nil]; done) | (simp [WKB, seval, List.take_zero, List.map_nil, List.length_nil]; done) | simp only [WKB, seval]))
      · rintro ⟨k, hk⟩ K hR hE hT
        have l1 : (l.take k).length ≤ 400 := by rw [List.length_take]; omega
        rcases Nat.lt_or_ge k l.length with hlt | hge
        · have e := take_succ_map (edgeV 3 (fk stP val l l.length) o) hlt
          rcases Bool.eq_false_or_eq_true l[k].Out with hout | hout
          · rw [edge3_out hout] at e
            (have gx := And.intro (@List.length_map.{0,0}) (And.intro @List.getElem_map.{0,0} @ViewD.k.eq_1); refine go ?_; (repeat' first | exact Ef.mk | apply Lf.mk | refine fun (K : KT) hK hE hT => ?_ | refine fun (KS : KE) hKS => ?_ | refine fun (D : KD) hD => ?_ | refine fun (hg : (_ : Prop)) => ?_ | fail); all_goals (first | (refine Wr.mk ?_; (try clear gx); repeat first | clear hK hE hT K | clear hR hE hT K) | assumption | skip))
            (refine hR.out ⟨k + 1, by omega⟩ _ _ _ (by simp only; omega) ?_; (refine wk_a ?_; simp only [MAB, seval]; refine ⟨rfl, rfl, (by decide), ?_, ?_⟩; all_goals (first | (simp only [WKB, seval, e, intK]; done) | (simp [WKB, seval, e, intK]; done) | simp only [WKB, seval])))
          · rw [edge3_in hout] at e
            (have gx := And.intro (@List.length_map.{0,0}) (And.intro @List.getElem_map.{0,0} @ViewD.k.eq_1); refine go ?_; (repeat' first | exact Ef.mk | apply Lf.mk | refine fun (K : KT) hK hE hT => ?_ | refine fun (KS : KE) hKS => ?_ | refine fun (D : KD) hD => ?_ | refine fun (hg : (_ : Prop)) => ?_ | fail); all_goals (first | (refine Wr.mk ?_; (try clear gx); repeat first | clear hK hE hT K | clear hR hE hT K) | assumption | skip))
            (refine hR.out ⟨k + 1, by omega⟩ _ _ _ (by simp only; omega) ?_; (refine wk_a ?_; simp only [MAB, seval]; refine ⟨rfl, rfl, (by decide), ?_, ?_⟩; all_goals (first | (simp only [WKB, seval, e, intK]; done) | (simp [WKB, seval, e, intK]; done) | simp only [WKB, seval])))
        · obtain rfl : k = l.length := by omega
          (have gx := And.intro (@List.length_map.{0,0}) (And.intro @List.getElem_map.{0,0} @ViewD.k.eq_1); refine go ?_; (repeat' first | exact Ef.mk | apply Lf.mk | refine fun (K : KT) hK hE hT => ?_ | refine fun (KS : KE) hKS => ?_ | refine fun (D : KD) hD => ?_ | refine fun (hg : (_ : Prop)) => ?_ | fail); all_goals (first | (refine Wr.mk ?_; (try clear gx); repeat first | clear hK hE hT K | clear hR hE hT K) | assumption | skip))
          (refine post_a hres (.inl rfl) ?_; simp only [RSB, ENB, seval, tiAll, List.take_length]; simp only [MAB, seval]; refine ⟨rfl, rfl, ?_, ?_, ?_⟩ <;> (first | rfl | (simp [WKB, Nat.add_comm, List.take_length]; done) | (simp only [WKB, seval])))

theorem labMap (n o : Int) (l : List ViewD) : l.map (edgeV 4 n o) = l.map (labE n) := List.map_congr_left fun x _ => edge4

set_option maxHeartbeats 2000000 in
theorem implUpdate_k (j : JobD) (v val : Int) (l : List ViewD) (hl : l.length ≤ 1048576) : FnOK Tryz.prog 72 ⟨1, [(0, some (.ro (l.map ViewD.k)))], [.agg [.v (.int .i64 j.Prog), .v (.int .i64 j.Src)], .c (.v (.int .i64 v)), .c (.v (.int .i64 val)), .c (.sl 0 4 0 l.length)],
    .tup [.inl (.v (.int .i64 (updN j v val l))), .inl (.sl 1 1 0 (updL j v val l).length)], [(1, some (.row 3 ((updL j v val l).map intK)))], 2⟩ := by
  have cu := updatable_k j v val l (by omega)
  cases ho : updOk j v val l with
  | false =>
    rw [ho] at cu
    have e1 : updN j v val l = 0 := by unfold updN; rw [ho]; rfl
    have e2 : updL j v val l = [] := by unfold updL; rw [ho]; rfl
    rw [e1, e2]
    refine fnOK_of true mixed Tryz.func72 rfl (by rfl) (by rfl) ?_
    have hres := congrArg Array.toList Tryz.results72
    simp only [Tryz.ntmps72, BGB, seval]
    (have gx := @List.length_map.{0,0}; have q1 := cu; refine go ?_; (repeat' first | exact Ef.mk | apply Lf.mk | refine fun (K : KT) hK hE hT => ?_ | refine fun (KS : KE) hKS => ?_ | refine fun (D : KD) hD => ?_ | refine fun (hg : (_ : Prop)) => ?_ | fail); all_goals (first | (refine Wr.mk ?_; (try clear gx q1); repeat first | clear hK hE hT K | clear hR hE hT K) | assumption | skip))
    all_goals (refine post_a hres (.inl rfl) ?_; simp only [RSB, ENB, seval, tiAll, true_and]; simp only [MAB, seval]; refine ⟨rfl, rfl, ?_, ?_, ?_⟩ <;> (first | rfl | (simp [WKB, Nat.add_comm, true_and]; done) | (simp only [WKB, seval])))
  | true =>
    rw [ho] at cu
    obtain ⟨⟨p1, p2, _, _, v1, v2, hl4⟩, hall⟩ := updOk_out ho
    have e1 : updN j v val l = updVal j.Prog val l := by unfold updN; rw [ho]; rfl
    have e2 : updL j v val l = l.map (edgeV j.Prog (updVal j.Prog val l) (outsN l)) := by unfold updL; rw [ho]; rfl
    rw [e1, e2]
    obtain ⟨p, s⟩ := j
    dsimp only at p1 p2 cu ⊢
    clear e1 e2 ho
    rcases (by omega : p = 1 ∨ p = 2 ∨ p = 3 ∨ p = 4) with rfl | rfl | rfl | rfl
    · have e3 : updVal 1 val l = rankV l := by unfold updVal; rw [if_pos rfl]
      rw [e3]
      refine fnOK_of true mixed Tryz.func72 rfl (by rfl) (by rfl) ?_
      have hres := congrArg Array.toList Tryz.results72
      simp only [Tryz.ntmps72, BGB, seval]
      (have gx := @List.length_map.{0,0}; have q1 := cu; have q2 := updateRank_k l hl4; refine go ?_; (repeat' first | exact Ef.mk | apply Lf.mk | refine fun (K : KT) hK hE hT => ?_ | refine fun (KS : KE) hKS => ?_ | refine fun (D : KD) hD => ?_ | refine fun (hg : (_ : Prop)) => ?_ | fail); all_goals (first | (refine Wr.mk ?_; (try clear gx q1 q2); repeat first | clear hK hE hT K | clear hR hE hT K) | assumption | skip))
      all_goals (refine post_a hres (.inl rfl) ?_; simp only [RSB, ENB, seval, tiAll, true_and]; simp only [MAB, seval]; refine ⟨rfl, rfl, ?_, ?_, ?_⟩ <;> (first | rfl | (simp [WKB, Nat.add_comm, true_and]; done) | (simp only [WKB, seval])))
    · have e3 : updVal 2 val l = fk stC val l l.length := by unfold updVal; rw [if_neg (by decide), if_neg (by decide), if_pos rfl]
      rw [e3]
      refine fnOK_of true mixed Tryz.func72 rfl (by rfl) (by rfl) ?_
      have hres := congrArg Array.toList Tryz.results72
      simp only [Tryz.ntmps72, BGB, seval]
      (have gx := @List.length_map.{0,0}; have q1 := cu; have q2 := updateConn_k val (outsN l) l hl4; refine go ?_; (repeat' first | exact Ef.mk | apply Lf.mk | refine fun (K : KT) hK hE hT => ?_ | refine fun (KS : KE) hKS => ?_ | refine fun (D : KD) hD => ?_ | refine fun (hg : (_ : Prop)) => ?_ | fail); all_goals (first | (refine Wr.mk ?_; (try clear gx q1 q2); repeat first | clear hK hE hT K | clear hR hE hT K) | assumption | skip))
      all_goals (refine post_a hres (.inl rfl) ?_; simp only [RSB, ENB, seval, tiAll, true_and]; simp only [MAB, seval]; refine ⟨rfl, rfl, ?_, ?_, ?_⟩ <;> (first | rfl | (simp [WKB, Nat.add_comm, true_and]; done) | (simp only [WKB, seval])))
    · have e3 : updVal 3 val l = fk stP val l l.length := by unfold updVal; rw [if_neg (by decide), if_neg (by decide), if_neg (by decide)]
      rw [e3]
      refine fnOK_of true mixed Tryz.func72 rfl (by rfl) (by rfl) ?_
      have hres := congrArg Array.toList Tryz.results72
      simp only [Tryz.ntmps72, BGB, seval]
      (have gx := @List.length_map.{0,0}; have q1 := cu; have q2 := updatePath_k val (outsN l) l hl4; refine go ?_; (repeat' first | exact Ef.mk | apply Lf.mk | refine fun (K : KT) hK hE hT => ?_ | refine fun (KS : KE) hKS => ?_ | refine fun (D : KD) hD => ?_ | refine fun (hg : (_ : Prop)) => ?_ | fail); all_goals (first | (refine Wr.mk ?_; (try clear gx q1 q2); repeat first | clear hK hE hT K | clear hR hE hT K) | assumption | skip))
      all_goals (refine post_a hres (.inl rfl) ?_; simp only [RSB, ENB, seval, tiAll, true_and]; simp only [MAB, seval]; refine ⟨rfl, rfl, ?_, ?_, ?_⟩ <;> (first | rfl | (simp [WKB, Nat.add_comm, true_and]; done) | (simp only [WKB, seval])))
    · have e3 : updVal 4 val l = mostOf (told l) val := by unfold updVal; rw [if_neg (by decide), if_pos rfl]
      rw [e3, labMap]
      refine fnOK_of true mixed Tryz.func72 rfl (by rfl) (by rfl) ?_
      have hres := congrArg Array.toList Tryz.results72
      simp only [Tryz.ntmps72, BGB, seval]
      (have gx := @List.length_map.{0,0}; have q1 := cu; have q2 := updateLabel_k val l ⟨v1, v2⟩ hl4 hall; refine go ?_; (repeat' first | exact Ef.mk | apply Lf.mk | refine fun (K : KT) hK hE hT => ?_ | refine fun (KS : KE) hKS => ?_ | refine fun (D : KD) hD => ?_ | refine fun (hg : (_ : Prop)) => ?_ | fail); all_goals (first | (refine Wr.mk ?_; (try clear gx q1 q2); repeat first | clear hK hE hT K | clear hR hE hT K) | assumption | skip))
      all_goals (refine post_a hres (.inl rfl) ?_; simp only [RSB, ENB, seval, tiAll, true_and]; simp only [MAB, seval]; refine ⟨rfl, rfl, ?_, ?_, ?_⟩ <;> (first | rfl | (simp [WKB, Nat.add_comm, true_and]; done) | (simp only [WKB, seval])))

end Go.Proofs.YtfnhchcgieeedaaGreat

namespace Go.Proofs.YtfnhchcgieeedaaGreat
set_option linter.unusedSimpArgs false
set_option linter.unusedVariables false
set_option linter.defProp false
open Go.RowKit

theorem updVal_rng {p val : Int} {l : List ViewD} (hv : 0 ≤ val ∧ val ≤ 1099511627776) (hall : l.all viewOk = true) : 0 ≤ updVal p val l ∧ updVal p val l ≤ 1099511627776 := by
  unfold updVal
  split
  · have := sum_rng l l.length
    unfold rankV
    omega
  · split
    · exact (most_rng (told_rng hall) hv _).1
    · split
      · exact conn_rng hall hv _
      · exact path_rng hv _

end Go.Proofs.YtfnhchcgieeedaaGreat

