/-
  The engine, texts SetM Fm K1 K2 SetP K3 V2 K4 in one. No conditions of its own.
-/
import Derived.Test.YtfnhchcgieeedaaGO
import Derived.Test.YtfnhchcgieeedaaBase
import Derived.Test.YtfnhchcgieeedaaS1
import Derived.Test.YtfnhchcgieeedaaDF
namespace Go.Proofs.Ytfnhchcgieeedaa
set_option linter.unusedSimpArgs false
set_option linter.unusedVariables false
set_option linter.unusedSimpArgs false
set_option linter.unusedVariables false
set_option linter.defProp false
open Go.RowKit

/-- Is the bit v set? -/
def bitAt (l : List UInt8) (v : Nat) : Bool := decide ((l.getD (v / 8) 0).toNat / 2 ^ (v % 8) % 2 = 1)
def setOk (n : Int) (l : List UInt8) : Bool := decide (0 ≤ n ∧ n ≤ 150 ∧ l.length = (n.toNat + 7) / 8 ∧ ∀ v, v < 8 * l.length → n.toNat ≤ v → bitAt l v = false)

theorem pow_le (k : Nat) (h : k ≤ 7) : 2 ^ k ≤ 128 := Nat.le_trans (Nat.pow_le_pow_right (by omega) h) (by decide)

def bitW (v : Nat) : Int := ((2 ^ (v % 8) : Nat) : Int)
theorem bitW_le (v : Nat) : 1 ≤ bitW v ∧ bitW v ≤ 128 := by
  have h := pow_le (v % 8) (by omega)
  have h' : 0 < 2 ^ (v % 8) := Nat.two_pow_pos _
  unfold bitW
  exact ⟨by omega, by omega⟩

theorem bit_val (x : UInt8) (k : Nat) : (bits BinOp.and IntKind.u8 ((x.toNat : Int) / 2 ^ k) 1 == 1) = decide (x.toNat / 2 ^ k % 2 = 1) := by
  have hx := x.toNat_lt
  have h1 : x.toNat / 2 ^ k < 256 := Nat.lt_of_le_of_lt (Nat.div_le_self _ _) (by omega)
  have h2 : ((x.toNat : Int) / 2 ^ k) = ((x.toNat / 2 ^ k : Nat) : Int) := by push_cast; rfl
  have h3 := u8_and_nat (x.toNat / 2 ^ k) 1 h1 (by omega)
  rw [h2, show (1 : Int) = ((1 : Nat) : Int) from rfl, h3, Nat.and_one_is_mod, Bool.eq_iff_iff]
  simp
  omega

/-- The reference's test of a bit. -/
theorem bit_quo (l : List UInt8) (v : Nat) (hv : v / 8 < l.length) : (((l[v / 8].toNat : Int) / bitW v) % 2 == 1) = bitAt l v := by
  unfold bitAt bitW
  rw [Bool.eq_iff_iff]
  simp [List.getD, hv]
  have : ((l[v / 8].toNat : Int) / 2 ^ (v % 8)) = ((l[v / 8].toNat / 2 ^ (v % 8) : Nat) : Int) := by push_cast; rfl
  rw [this]
  omega

theorem bit_spec (l : List UInt8) (v : Nat) (hv : v / 8 < l.length) : ((wrap64 ((l[v / 8].toNat : Int) / bitW v)).tmod 2 == 1) = bitAt l v := by
  rw [← bit_quo l v hv]
  have hx := l[v / 8].toNat_lt
  obtain ⟨h1, h2⟩ := bitW_le v
  have h3 : 0 ≤ (l[v / 8].toNat : Int) / bitW v := Int.ediv_nonneg (by omega) (by omega)
  have h4 : (l[v / 8].toNat : Int) / bitW v ≤ (l[v / 8].toNat : Int) := Int.ediv_le_self _ (by omega)
  have h5 : wrap64 ((l[v / 8].toNat : Int) / bitW v) = (l[v / 8].toNat : Int) / bitW v := by unfold wrap64; omega
  rw [h5, Int.tmod_eq_emod_of_nonneg h3]

end Go.Proofs.Ytfnhchcgieeedaa

namespace Go.Proofs.Ytfnhchcgieeedaa
set_option linter.unusedSimpArgs false
set_option linter.unusedVariables false
set_option linter.defProp false
open Go.RowKit

section
variable {α : Type}
/-- what f gives for the first k numbers -/
def fm (f : Nat → Option α) (k : Nat) : List α := (List.range k).filterMap f
theorem fm_zero (f : Nat → Option α) : fm f 0 = [] := rfl
theorem fm_some {f : Nat → Option α} {k : Nat} {x : α} (h : f k = some x) : fm f (k + 1) = fm f k ++ [x] := by
  simp [fm, List.range_succ, List.filterMap_append, h]
theorem fm_none {f : Nat → Option α} {k : Nat} (h : f k = none) : fm f (k + 1) = fm f k := by
  simp [fm, List.range_succ, List.filterMap_append, h]
theorem fm_len (f : Nat → Option α) : ∀ k, (fm f k).length ≤ k
  | 0 => Nat.le_refl _
  | k + 1 => by
    have := fm_len f k
    cases h : f k with
    | none => rw [fm_none h]; omega
    | some x => rw [fm_some h]; simp; omega
end

end Go.Proofs.Ytfnhchcgieeedaa

namespace Go.Proofs.Ytfnhchcgieeedaa
set_option linter.unusedSimpArgs false
set_option linter.unusedVariables false
set_option linter.defProp false
open Go.RowKit

theorem bit_shr (l : List UInt8) (v : Nat) (hv : v / 8 < l.length) : (bits BinOp.and IntKind.u8 ((l[v / 8].toNat : Int).fdiv (2 ^ min ((v : Int) % 8).toNat IntKind.u8.bits)) 1 == 1) = bitAt l v := by
  have h1 : ((v : Int) % 8).toNat = v % 8 := by omega
  have h2 : min (v % 8) IntKind.u8.bits = v % 8 := Nat.min_eq_left (by have : IntKind.u8.bits = 8 := rfl; omega)
  rw [h1, h2, Int.fdiv_eq_ediv_of_nonneg _ (Int.pow_nonneg (by decide)), bit_val]
  simp [bitAt, hv]

theorem setOk_no (n : Int) (l : List UInt8) (h : ¬ (0 ≤ n ∧ n ≤ 150 ∧ l.length = (n.toNat + 7) / 8)) : setOk n l = false := by
  rw [Bool.eq_false_iff]
  intro h'
  unfold setOk at h'
  simp only [decide_eq_true_eq] at h'
  exact h ⟨h'.1, h'.2.1, h'.2.2.1⟩

theorem setOk_hit (m k : Nat) (l : List UInt8) (h1 : m ≤ k) (h2 : k < 8 * l.length) (hb : bitAt l k = true) : setOk (m : Int) l = false := by
  rw [Bool.eq_false_iff]
  intro h'
  unfold setOk at h'
  simp only [decide_eq_true_eq] at h'
  have := h'.2.2.2 k h2 (by simpa using h1)
  rw [this] at hb; cases hb

theorem setOk_end (m k : Nat) (l : List UInt8) (hm : m ≤ 150) (hl : l.length = (m + 7) / 8) (h2 : 8 * l.length ≤ k) (h : ∀ j, m ≤ j → j < k → bitAt l j = false) : setOk (m : Int) l = true := by
  unfold setOk
  simp only [decide_eq_true_eq]
  exact ⟨by omega, by omega, by simpa using hl, fun v hv hmv => h v (by simpa using hmv) (by omega)⟩

theorem setOk_len {n : Int} {l : List UInt8} (h : setOk n l = true) : 0 ≤ n ∧ n ≤ 150 ∧ l.length = (n.toNat + 7) / 8 ∧ l.length ≤ 19 := by
  unfold setOk at h
  simp only [decide_eq_true_eq] at h
  refine ⟨h.1, h.2.1, h.2.2.1, ?_⟩
  have := h.1
  have := h.2.1
  have := h.2.2.1
  omega

/-- Is the vertex a member? -/
def hasL (n : Int) (l : List UInt8) (v : Int) : Bool := setOk n l && decide (0 ≤ v ∧ v < n) && bitAt l v.toNat

end Go.Proofs.Ytfnhchcgieeedaa

namespace Go.Proofs.Ytfnhchcgieeedaa
set_option linter.unusedSimpArgs false
set_option linter.unusedVariables false
set_option linter.defProp false
open Go.RowKit

section
variable {α : Type}
theorem all_no {p : α → Bool} {l : List α} {k : Nat} (h : k < l.length) (hp : p l[k] = false) : l.all p = false := by
  rw [Bool.eq_false_iff]
  intro h'
  rw [List.all_eq_true] at h'
  rw [h' _ (List.getElem_mem h)] at hp
  cases hp
theorem all_yes {p : α → Bool} {l : List α} {k : Nat} (hk : l.length ≤ k) (h : ∀ i (hi : i < l.length), i < k → p l[i] = true) : l.all p = true := by
  rw [List.all_eq_true]
  intro x hx
  obtain ⟨i, hi, rfl⟩ := List.getElem_of_mem hx
  exact h i hi (by omega)
theorem all_more {p : α → Bool} {l : List α} {k : Nat} (h : ∀ i (hi : i < l.length), i < k → p l[i] = true) (hk : k < l.length) (hp : p l[k] = true) : ∀ i (hi : i < l.length), i < k + 1 → p l[i] = true := by
  intro i hi hlt
  by_cases hik : i = k
  · subst hik; exact hp
  · exact h i hi (by omega)
end

def valOk (z : Int) : Bool := decide (0 ≤ z ∧ z ≤ 1099511627776)
def edgeOk (n : Int) (e : EdgeD) : Bool := decide (0 ≤ e.From ∧ e.From < n ∧ 0 ≤ e.To ∧ e.To < n ∧ 0 ≤ e.W ∧ e.W ≤ 1000)
def graphOk (g : GraphD) : Bool := decide (0 ≤ g.N ∧ g.N ≤ 150 ∧ g.Edges.length ≤ 400) && g.Edges.all (edgeOk g.N)
def jobOk (n : Int) (j : JobD) : Bool := decide (1 ≤ j.Prog ∧ j.Prog ≤ 4 ∧ (j.Prog = 3 → 0 ≤ j.Src ∧ j.Src < n) ∧ (j.Prog ≠ 3 → j.Src = 0))

theorem specIsVal (z : Int) : valOk z = decide (0 ≤ z ∧ z ≤ 1099511627776) := rfl


set_option maxHeartbeats 4000000 in
theorem specGraphOk_k (g : GraphD) (hl : g.Edges.length ≤ 9223372036854775807) : FnOK Try.prog 39 ⟨1, [(0, some (.ro ((g.Edges).map EdgeD.k)))], [.agg [.v (.int .i64 g.N), .sl 0 3 0 (g.Edges).length]], .c (.v (.bool (graphOk g))), [], 1⟩ := by
  obtain ⟨n, l⟩ := g
  dsimp only at hl
  refine fnOK_of true mixed Try.func39 rfl (by rfl) (by rfl) ?_
  have hres := congrArg Array.toList Try.results39
  simp only [Try.ntmps39, BGB, seval]
  (have gx := And.intro (@List.length_map.{0,0}) (And.intro @List.getElem_map.{0,0} @EdgeD.k.eq_1); refine go ?_; (repeat' first | exact Ef.mk | apply Lf.mk | refine fun (K : KT) hK hE hT => ?_ | refine fun (KS : KE) hKS => ?_ | refine fun (D : KD) hD => ?_ | refine fun (hg : (_ : Prop)) => ?_ | fail); all_goals (first | (refine Wr.mk ?_; (try clear gx); repeat first | clear hK hE hT K | clear hR hE hT K) | assumption | skip))
  all_goals first
    | (have e : graphOk ⟨n, l⟩ = false := by
         unfold graphOk; dsimp only; rw [decide_eq_false (by omega), Bool.false_and]
       (refine post_a hres (.inl rfl) ?_; simp only [RSB, ENB, seval, tiAll, e]; simp only [MAB, seval]; refine ⟨rfl, rfl, ?_, ?_, ?_⟩ <;> (first | rfl | (simp [WKB, Nat.add_comm, e]; done) | (simp only [WKB, seval]))))
    | skip
  refine loop_v (X := {k : Nat // k ≤ l.length ∧ Rnd (∀ i (hi : i < l.length), i < k → edgeOk n l[i] = true)}) [] (fun x => [(8, .c (.v (.int .i64 ((x.1 : Nat) : Int))))]) (fun x => [(0, some (.ro (l.map EdgeD.k))), (1, some (.box 34 [.v (.int .i64 n), .sl 0 3 0 l.length]))]) 2 (fun x => l.length - x.1) ⟨0, by omega, ⟨fun i hi h => by omega⟩⟩ ?_
  simp only [KPB, seval]
  refine ⟨?_, ?_⟩
  · (refine wk_a ?_; simp only [MAB, seval]; refine ⟨rfl, rfl, (by decide), ?_, ?_⟩; all_goals (first | (simp only [WKB, seval, true_and]; done) | (simp [WKB, seval, true_and]; done) | simp only [WKB, seval]))
  · rintro ⟨k, hk, hi⟩ K hR hE hT
    (have gx := And.intro (@List.length_map.{0,0}) (And.intro @List.getElem_map.{0,0} @EdgeD.k.eq_1); refine go ?_; (repeat' first | exact Ef.mk | apply Lf.mk | refine fun (K : KT) hK hE hT => ?_ | refine fun (KS : KE) hKS => ?_ | refine fun (D : KD) hD => ?_ | refine fun (hg : (_ : Prop)) => ?_ | fail); all_goals (first | (refine Wr.mk ?_; (try clear gx); repeat first | clear hK hE hT K | clear hR hE hT K) | assumption | skip))
    all_goals first
      | (have e : edgeOk n (l[k]'(by omega)) = false := by unfold edgeOk; rw [decide_eq_false_iff_not]; omega
         have e2 : graphOk ⟨n, l⟩ = false := by unfold graphOk; dsimp only; rw [all_no (by omega) e, Bool.and_false]
         (refine post_a hres (.inl rfl) ?_; simp only [RSB, ENB, seval, tiAll, e2]; simp only [MAB, seval]; refine ⟨rfl, rfl, ?_, ?_, ?_⟩ <;> (first | rfl | (simp [WKB, Nat.add_comm, e2]; done) | (simp only [WKB, seval]))))
      | (have e : edgeOk n (l[k]'(by omega)) = true := by unfold edgeOk; rw [decide_eq_true_eq]; omega
         (refine hR.out ⟨k + 1, by omega, ⟨all_more hi.out (by omega) e⟩⟩ _ _ _ (by simp only; omega) ?_; (refine wk_a ?_; simp only [MAB, seval]; refine ⟨rfl, rfl, (by decide), ?_, ?_⟩; all_goals (first | (simp only [WKB, seval, true_and]; done) | (simp [WKB, seval, true_and]; done) | simp only [WKB, seval]))))
      | (have e : l.all (edgeOk n) = true := all_yes (k := k) (by omega) hi.out
         have e2 : graphOk ⟨n, l⟩ = decide (0 ≤ n ∧ n ≤ 150 ∧ l.length ≤ 400) := by unfold graphOk; dsimp only; rw [e, Bool.and_true]
         (refine post_a hres (.inl rfl) ?_; simp only [RSB, ENB, seval, tiAll, e2]; simp only [MAB, seval]; refine ⟨rfl, rfl, ?_, ?_, ?_⟩ <;> (first | rfl | (simp [WKB, Nat.add_comm, e2]; done) | (simp only [WKB, seval])))
         all_goals (refine congrArg (fun b => SV.c (CV.v (Value.bool b))) ?_; symm; first | (rw [decide_eq_false_iff_not]; omega) | (rw [decide_eq_true_eq]; omega) | (rw [decide_eq_decide]; omega) | (rw [Bool.eq_iff_iff]; simp only [decide_eq_true_eq, beq_iff_eq]; omega)))

set_option maxHeartbeats 4000000 in
theorem implGraphOk_k (g : GraphD) (hl : g.Edges.length ≤ 9223372036854775807) : FnOK Try.prog 43 ⟨1, [(0, some (.ro ((g.Edges).map EdgeD.k)))], [.agg [.v (.int .i64 g.N), .sl 0 3 0 (g.Edges).length]], .c (.v (.bool (graphOk g))), [], 1⟩ := by
  obtain ⟨n, l⟩ := g
  dsimp only at hl
  refine fnOK_of true mixed Try.func43 rfl (by rfl) (by rfl) ?_
  have hres := congrArg Array.toList Try.results43
  simp only [Try.ntmps43, BGB, seval]
  (have gx := And.intro (@List.length_map.{0,0}) (And.intro @List.getElem_map.{0,0} @EdgeD.k.eq_1); refine go ?_; (repeat' first | exact Ef.mk | apply Lf.mk | refine fun (K : KT) hK hE hT => ?_ | refine fun (KS : KE) hKS => ?_ | refine fun (D : KD) hD => ?_ | refine fun (hg : (_ : Prop)) => ?_ | fail); all_goals (first | (refine Wr.mk ?_; (try clear gx); repeat first | clear hK hE hT K | clear hR hE hT K) | assumption | skip))
  all_goals first
    | (have e : graphOk ⟨n, l⟩ = false := by
         unfold graphOk; dsimp only; rw [decide_eq_false (by omega), Bool.false_and]
       (refine post_a hres (.inl rfl) ?_; simp only [RSB, ENB, seval, tiAll, e]; simp only [MAB, seval]; refine ⟨rfl, rfl, ?_, ?_, ?_⟩ <;> (first | rfl | (simp [WKB, Nat.add_comm, e]; done) | (simp only [WKB, seval]))))
    | skip
  refine loop_v (X := {k : Nat // k ≤ l.length ∧ Rnd (∀ i (hi : i < l.length), i < k → edgeOk n l[i] = true)}) [] (fun x => [(22, .c (.v (.int .i64 ((x.1 : Nat) : Int))))]) (fun x => [(0, some (.ro (l.map EdgeD.k))), (1, some (.box 34 [.v (.int .i64 n), .sl 0 3 0 l.length]))]) 2 (fun x => l.length - x.1) ⟨0, by omega, ⟨fun i hi h => by omega⟩⟩ ?_
  simp only [KPB, seval]
  refine ⟨?_, ?_⟩
  · (refine wk_a ?_; simp only [MAB, seval]; refine ⟨rfl, rfl, (by decide), ?_, ?_⟩; all_goals (first | (simp only [WKB, seval, true_and]; done) | (simp [WKB, seval, true_and]; done) | simp only [WKB, seval]))
  · rintro ⟨k, hk, hi⟩ K hR hE hT
    (have gx := And.intro (@List.length_map.{0,0}) (And.intro @List.getElem_map.{0,0} @EdgeD.k.eq_1); refine go ?_; (repeat' first | exact Ef.mk | apply Lf.mk | refine fun (K : KT) hK hE hT => ?_ | refine fun (KS : KE) hKS => ?_ | refine fun (D : KD) hD => ?_ | refine fun (hg : (_ : Prop)) => ?_ | fail); all_goals (first | (refine Wr.mk ?_; (try clear gx); repeat first | clear hK hE hT K | clear hR hE hT K) | assumption | skip))
    all_goals first
      | (have e : edgeOk n (l[k]'(by omega)) = false := by unfold edgeOk; rw [decide_eq_false_iff_not]; omega
         have e2 : graphOk ⟨n, l⟩ = false := by unfold graphOk; dsimp only; rw [all_no (by omega) e, Bool.and_false]
         (refine post_a hres (.inl rfl) ?_; simp only [RSB, ENB, seval, tiAll, e2]; simp only [MAB, seval]; refine ⟨rfl, rfl, ?_, ?_, ?_⟩ <;> (first | rfl | (simp [WKB, Nat.add_comm, e2]; done) | (simp only [WKB, seval]))))
      | (have e : edgeOk n (l[k]'(by omega)) = true := by unfold edgeOk; rw [decide_eq_true_eq]; omega
         (refine hR.out ⟨k + 1, by omega, ⟨all_more hi.out (by omega) e⟩⟩ _ _ _ (by simp only; omega) ?_; (refine wk_a ?_; simp only [MAB, seval]; refine ⟨rfl, rfl, (by decide), ?_, ?_⟩; all_goals (first | (simp only [WKB, seval, true_and]; done) | (simp [WKB, seval, true_and]; done) | simp only [WKB, seval]))))
      | (have e : l.all (edgeOk n) = true := all_yes (k := k) (by omega) hi.out
         have e2 : graphOk ⟨n, l⟩ = decide (0 ≤ n ∧ n ≤ 150 ∧ l.length ≤ 400) := by unfold graphOk; dsimp only; rw [e, Bool.and_true]
         (refine post_a hres (.inl rfl) ?_; simp only [RSB, ENB, seval, tiAll, e2]; simp only [MAB, seval]; refine ⟨rfl, rfl, ?_, ?_, ?_⟩ <;> (first | rfl | (simp [WKB, Nat.add_comm, e2]; done) | (simp only [WKB, seval])))
         all_goals (refine congrArg (fun b => SV.c (CV.v (Value.bool b))) ?_; symm; first | (rw [decide_eq_false_iff_not]; omega) | (rw [decide_eq_true_eq]; omega) | (rw [decide_eq_decide]; omega) | (rw [Bool.eq_iff_iff]; simp only [decide_eq_true_eq, beq_iff_eq]; omega)))

end Go.Proofs.Ytfnhchcgieeedaa

namespace Go.Proofs.Ytfnhchcgieeedaa
set_option linter.unusedSimpArgs false
set_option linter.unusedVariables false
set_option linter.defProp false
open Go.RowKit

def setBit (l : List UInt8) (v : Nat) : List UInt8 := l.set (v / 8) (UInt8.ofNat ((l.getD (v / 8) 0).toNat ||| 2 ^ (v % 8)))

def clrBit (l : List UInt8) (v : Nat) : List UInt8 := l.set (v / 8) (UInt8.ofNat ((l.getD (v / 8) 0).toNat &&& (255 - 2 ^ (v % 8))))

theorem pow_int (k : Nat) (h : k < 8) : IntKind.u8.wrap (2 ^ k) = ((2 ^ k : Nat) : Int) := by
  have := pow_le k (by omega)
  have h2 : ((2 : Int) ^ k) = ((2 ^ k : Nat) : Int) := by push_cast; rfl
  rw [h2]
  generalize 2 ^ k = m at *
  exact IntWalk.u8_in _ (by omega)

theorem ofNat_toNat (m : Nat) (h : m < 256) : (UInt8.ofNat m).toNat = m := by
  simp; omega

theorem or_val (x : UInt8) (k : Nat) (h : k < 8) : bits BinOp.or IntKind.u8 (x.toNat : Int) (IntKind.u8.wrap (2 ^ k)) = ((UInt8.ofNat (x.toNat ||| 2 ^ k)).toNat : Int) := by
  have hx := x.toNat_lt
  have hp := pow_le k (by omega)
  have ho : x.toNat ||| 2 ^ k < 2 ^ 8 := Nat.or_lt_two_pow (by omega) (by omega)
  rw [pow_int k h, u8_or_nat _ _ (by omega) (by omega), ofNat_toNat _ ho]

theorem clr_val (x : UInt8) (k : Nat) (h : k < 8) : bits BinOp.andNot IntKind.u8 (x.toNat : Int) (IntKind.u8.wrap (2 ^ k)) = ((UInt8.ofNat (x.toNat &&& (255 - 2 ^ k))).toNat : Int) := by
  have hx := x.toNat_lt
  have hp := pow_le k (by omega)
  have ho : x.toNat &&& (255 - 2 ^ k) < 2 ^ 8 := Nat.and_lt_two_pow _ (Nat.lt_of_le_of_lt (Nat.sub_le _ _) (by omega))
  rw [pow_int k h, u8_andNot_nat _ _ (by omega) (by omega), ofNat_toNat _ ho]

def turnN (n : Int) (l : List UInt8) : Int := if setOk n l = true then n else 0

def withL (n : Int) (l : List UInt8) (v : Int) : List UInt8 := if setOk n l = true then (if 0 ≤ v ∧ v < n then setBit l v.toNat else l) else []

def woutL (n : Int) (l : List UInt8) (v : Int) : List UInt8 := if setOk n l = true then (if 0 ≤ v ∧ v < n then clrBit l v.toNat else l) else []

theorem bits_fin : ∀ x : Fin 256, ∀ k : Fin 8, (x.val / 2 ^ k.val % 2 = 1 → x.val ||| 2 ^ k.val = x.val ∧ x.val &&& (255 - 2 ^ k.val) = x.val - 2 ^ k.val ∧ 2 ^ k.val ≤ x.val) ∧
    (¬ x.val / 2 ^ k.val % 2 = 1 → x.val ||| 2 ^ k.val = x.val + 2 ^ k.val ∧ x.val &&& (255 - 2 ^ k.val) = x.val ∧ x.val + 2 ^ k.val < 256) := by
  decide +kernel

theorem bits_nat8 (x k : Nat) (hx : x < 256) (hk : k < 8) : (x / 2 ^ k % 2 = 1 → x ||| 2 ^ k = x ∧ x &&& (255 - 2 ^ k) = x - 2 ^ k ∧ 2 ^ k ≤ x) ∧
    (¬ x / 2 ^ k % 2 = 1 → x ||| 2 ^ k = x + 2 ^ k ∧ x &&& (255 - 2 ^ k) = x ∧ x + 2 ^ k < 256) := bits_fin ⟨x, hx⟩ ⟨k, hk⟩

theorem set_same (l : List UInt8) (i : Nat) (hi : i < l.length) (y : UInt8) (h : y = l[i]) : l.set i y = l := by
  subst h; exact List.set_getElem_self hi

theorem u8_back (x : UInt8) (m : Nat) (h : m = x.toNat) : UInt8.ofNat m = x := by
  subst h; simp

theorem setBit_same {l : List UInt8} {v : Nat} (hv : v / 8 < l.length) (h : bitAt l v = true) : setBit l v = l := by
  unfold bitAt at h
  simp [List.getD, hv] at h
  unfold setBit
  refine set_same _ _ hv _ ?_
  simp only [List.getD, List.getElem?_eq_getElem hv, Option.getD_some]
  exact u8_back _ _ (((bits_nat8 _ (v % 8) l[v / 8].toNat_lt (by omega)).1 h).1)

theorem clrBit_same {l : List UInt8} {v : Nat} (hv : v / 8 < l.length) (h : bitAt l v = false) : clrBit l v = l := by
  unfold bitAt at h
  simp [List.getD, hv] at h
  unfold clrBit
  refine set_same _ _ hv _ ?_
  simp only [List.getD, List.getElem?_eq_getElem hv, Option.getD_some]
  exact u8_back _ _ (((bits_nat8 _ (v % 8) l[v / 8].toNat_lt (by omega)).2 (by omega)).2.1)

def turnL (n : Int) (l : List UInt8) (v : Int) (b : Bool) : List UInt8 := if b = true then withL n l v else woutL n l v

theorem turnL_no {n : Int} {l : List UInt8} (v : Int) (b : Bool) (h : setOk n l = false) : turnL n l v b = [] ∧ turnN n l = 0 := by
  cases b <;> simp [turnL, withL, woutL, turnN, h]

theorem turnL_out {n : Int} {l : List UInt8} (v : Int) (b : Bool) (h : setOk n l = true) (hv : ¬ (0 ≤ v ∧ v < n)) : turnL n l v b = l ∧ turnN n l = n := by
  cases b <;> simp only [turnL, withL, woutL, turnN, h, if_true, if_neg hv, and_self, Bool.false_eq_true, if_false]

theorem turnL_same {n : Int} {l : List UInt8} (v : Nat) (b : Bool) (h : setOk n l = true) (hv : (v : Int) < n) (hk : v / 8 < l.length) (hb : bitAt l v = b) : turnL n l v b = l ∧ turnN n l = n := by
  cases b <;> simp [turnL, withL, woutL, turnN, h, hv]
  · exact clrBit_same hk hb
  · exact setBit_same hk hb

theorem i64_and_nat (a b : Nat) (ha : a < 4294967296) (hb : b < 4294967296) : bits .and .i64 (a : Int) (b : Int) = ((a &&& b : Nat) : Int) := by
  have hx : a &&& b < 2 ^ 32 := Nat.and_lt_two_pow _ (by omega)
  have h1 : (BitVec.ofInt 64 (a : Int)).toNat = a := by
    rw [BitVec.ofInt_natCast, BitVec.toNat_ofNat]; exact Nat.mod_eq_of_lt (by omega)
  have h2 : (BitVec.ofInt 64 (b : Int)).toNat = b := by
    rw [BitVec.ofInt_natCast, BitVec.toNat_ofNat]; exact Nat.mod_eq_of_lt (by omega)
  show IntKind.i64.wrap ((BitVec.ofInt 64 (a : Int) &&& BitVec.ofInt 64 (b : Int)).toNat : Int) = _
  rw [BitVec.toNat_and, h1, h2, IntKind.wrap_i64]
  omega

theorem and255 (x : Int) (h0 : 0 ≤ x) (h1 : x < 256) : bits .and .i64 x 255 = x := by
  obtain ⟨m, rfl⟩ := Int.eq_ofNat_of_zero_le h0
  have h := i64_and_nat m 255 (by omega) (by omega)
  have e : m &&& 255 = m := by
    rw [show (255 : Nat) = 2 ^ 8 - 1 from rfl, Nat.and_two_pow_sub_one_eq_mod]; omega
  rw [e] at h
  exact h

theorem bitAt_test (l : List UInt8) (v : Nat) : bitAt l v = (l.getD (v / 8) 0).toNat.testBit (v % 8) := by
  unfold bitAt; rw [Nat.testBit_eq_decide_div_mod_eq]

theorem bitAt_setBit (l : List UInt8) (k v : Nat) (hk : k / 8 < l.length) : bitAt (setBit l k) v = (decide (v = k) || bitAt l v) := by
  rw [bitAt_test, bitAt_test]
  unfold setBit
  have hx := (l.getD (k / 8) 0).toNat_lt
  have ho : (l.getD (k / 8) 0).toNat ||| 2 ^ (k % 8) < 2 ^ 8 := Nat.or_lt_two_pow hx (Nat.pow_lt_pow_right (by omega) (by omega))
  by_cases h8 : v / 8 = k / 8
  · have e : ((l.set (k / 8) (UInt8.ofNat ((l.getD (k / 8) 0).toNat ||| 2 ^ (k % 8)))).getD (v / 8) 0).toNat = (l.getD (k / 8) 0).toNat ||| 2 ^ (k % 8) := by
      rw [h8]
      simp only [List.getD, List.getElem?_set_self hk, Option.getD_some]
      exact ofNat_toNat _ ho
    rw [e, h8, Nat.testBit_or, Nat.testBit_two_pow]
    by_cases hm : k % 8 = v % 8
    · have : v = k := by omega
      simp [this]
    · have : v ≠ k := by intro e; subst e; exact hm rfl
      simp [hm, this]
  · have : v ≠ k := by intro e; subst e; exact h8 rfl
    have e : (l.set (k / 8) (UInt8.ofNat ((l.getD (k / 8) 0).toNat ||| 2 ^ (k % 8)))).getD (v / 8) 0 = l.getD (v / 8) 0 := by
      simp only [List.getD]
      rw [List.getElem?_set_ne (by omega)]
    rw [e]
    simp [this]

/-- The first k of n vertices. -/

def fullTo (n : Nat) : Nat → List UInt8
  | 0 => List.replicate ((n + 7) / 8) 0
  | k + 1 => setBit (fullTo n k) k

theorem fullTo_len (n : Nat) : ∀ k, (fullTo n k).length = (n + 7) / 8
  | 0 => by simp [fullTo]
  | k + 1 => by simp [fullTo, setBit, fullTo_len n k]

theorem fullTo_bit (n : Nat) : ∀ k, k ≤ n → ∀ v, bitAt (fullTo n k) v = decide (v < k)
  | 0, _, v => by
    unfold bitAt fullTo
    have : (List.replicate ((n + 7) / 8) (0 : UInt8)).getD (v / 8) 0 = 0 := by
      simp only [List.getD, List.getElem?_replicate]
      split <;> rfl
    rw [this]
    simp
  | k + 1, hk, v => by
    rw [fullTo, bitAt_setBit _ _ _ (by rw [fullTo_len]; omega), fullTo_bit n k (by omega), Bool.eq_iff_iff]
    simp
    omega

theorem fullTo_ok (n k : Nat) (hn : n ≤ 150) (hk : k ≤ n) : setOk (n : Int) (fullTo n k) = true := by
  unfold setOk
  simp only [decide_eq_true_eq]
  refine ⟨by omega, by omega, by rw [fullTo_len]; simp, fun v _ hv => ?_⟩
  rw [fullTo_bit n k hk]
  simp at hv ⊢
  omega

theorem withL_full (n k : Nat) (hn : n ≤ 150) (hk : k < n) : withL (n : Int) (fullTo n k) (k : Int) = fullTo n (k + 1) ∧ turnN (n : Int) (fullTo n k) = n := by
  have h := fullTo_ok n k hn (by omega)
  constructor
  · unfold withL; rw [if_pos h, if_pos ⟨by omega, by omega⟩]; rfl
  · unfold turnN; rw [if_pos h]

/-- SetNew's bits. -/

def newL (n : Int) (b : Bool) : List UInt8 := if 0 ≤ n ∧ n ≤ 150 then fullTo n.toNat (if b = true then n.toNat else 0) else []

def newN (n : Int) : Int := if 0 ≤ n ∧ n ≤ 150 then n else 0

def newOk (n : Int) : Bool := decide (0 ≤ n ∧ n ≤ 150)

theorem newL_len (n : Int) (b : Bool) : (newL n b).length ≤ 1048576 := by
  unfold newL
  split
  · rw [fullTo_len]; omega
  · simp

theorem newN_in {n : Nat} (h : n ≤ 150) : newN (n : Int) = n ∧ newOk (n : Int) = true := by
  constructor
  · unfold newN; rw [if_pos ⟨by omega, by omega⟩]
  · simp [newOk]; omega

theorem newL_in {n : Nat} (h : n ≤ 150) (b : Bool) : newL (n : Int) b = fullTo n (if b = true then n else 0) := by
  unfold newL; rw [if_pos ⟨by omega, by omega⟩]; rfl

theorem new_out {n : Int} (h : ¬ (0 ≤ n ∧ n ≤ 150)) (b : Bool) : newN n = 0 ∧ newL n b = [] ∧ newOk n = false := by
  refine ⟨?_, ?_, ?_⟩
  · unfold newN; rw [if_neg h]
  · unfold newL; rw [if_neg h]
  · unfold newOk; simpa using h

def orB (x y : UInt8) : UInt8 := UInt8.ofNat (x.toNat ||| y.toNat)

def eitherL (l m : List UInt8) : List UInt8 := List.zipWith orB l m

theorem u8_ext {x y : UInt8} (h : ∀ k, k < 8 → x.toNat.testBit k = y.toNat.testBit k) : x = y := by
  apply UInt8.toNat_inj.1
  apply Nat.eq_of_testBit_eq
  intro i
  by_cases hi : i < 8
  · exact h i hi
  · have hx : x.toNat < 2 ^ i := Nat.lt_of_lt_of_le x.toNat_lt (Nat.pow_le_pow_right (by omega) (by omega))
    have hy : y.toNat < 2 ^ i := Nat.lt_of_lt_of_le y.toNat_lt (Nat.pow_le_pow_right (by omega) (by omega))
    rw [Nat.testBit_lt_two_pow hx, Nat.testBit_lt_two_pow hy]

theorem bits_ext {l m : List UInt8} (hl : l.length = m.length) (h : ∀ v, v < 8 * l.length → bitAt l v = bitAt m v) : l = m := by
  apply list_ext hl
  intro i hi
  have hi' : i < m.length := by omega
  rw [List.getElem?_eq_getElem hi, List.getElem?_eq_getElem hi']
  congr 1
  apply u8_ext
  intro k hk
  have := h (8 * i + k) (by omega)
  rw [bitAt_test, bitAt_test, show (8 * i + k) / 8 = i from by omega, show (8 * i + k) % 8 = k from by omega] at this
  simpa [List.getD, hi, hi'] using this

theorem bitAt_ge {l : List UInt8} {v : Nat} (h : l.length ≤ v / 8) : bitAt l v = false := by
  unfold bitAt
  simp [List.getD, List.getElem?_eq_none h]

theorem bitAt_either {l m : List UInt8} (hl : l.length = m.length) (v : Nat) : bitAt (eitherL l m) v = (bitAt l v || bitAt m v) := by
  by_cases hv : v / 8 < l.length
  · have hv' : v / 8 < m.length := by omega
    have e : (eitherL l m).getD (v / 8) 0 = orB l[v / 8] m[v / 8] := by simp [eitherL, List.getD, List.getElem?_zipWith, hv, hv']
    have ho : l[v / 8].toNat ||| m[v / 8].toNat < 2 ^ 8 := Nat.or_lt_two_pow l[v / 8].toNat_lt m[v / 8].toNat_lt
    rw [bitAt_test, bitAt_test, bitAt_test, e]
    unfold orB
    rw [ofNat_toNat _ ho, Nat.testBit_or]
    simp [List.getD, hv, hv']
  · rw [bitAt_ge (l := l) (by omega), bitAt_ge (l := m) (by omega), bitAt_ge (by simp [eitherL]; omega)]
    rfl

/-- Vertex after vertex set. -/

def setAll (l : List UInt8) (vs : List Int) : List UInt8 := vs.foldl (fun l v => setBit l v.toNat) l

theorem setAll_len (l : List UInt8) (vs : List Int) : (setAll l vs).length = l.length := by
  unfold setAll
  induction vs generalizing l with
  | nil => rfl
  | cons v vs ih => rw [List.foldl_cons, ih]; simp [setBit]

theorem bitAt_setAll (l : List UInt8) (vs : List Int) (h : ∀ v ∈ vs, v.toNat / 8 < l.length) (u : Nat) : bitAt (setAll l vs) u = (bitAt l u || vs.any fun v => decide (v.toNat = u)) := by
  unfold setAll
  induction vs generalizing l with
  | nil => simp
  | cons v vs ih =>
    rw [List.foldl_cons, ih _ (fun x hx => by simpa [setBit] using h x (List.mem_cons_of_mem _ hx)), bitAt_setBit _ _ _ (h v List.mem_cons_self), List.any_cons]
    rw [Bool.eq_iff_iff]
    simp only [Bool.or_eq_true, decide_eq_true_eq]
    constructor
    · rintro ((h1 | h1) | h1)
      · exact .inr (.inl h1.symm)
      · exact .inl h1
      · exact .inr (.inr h1)
    · rintro (h1 | h1 | h1)
      · exact .inl (.inr h1)
      · exact .inl (.inl h1.symm)
      · exact .inr h1

theorem setBit_ok {n : Nat} {l : List UInt8} {v : Nat} (hl : setOk (n : Int) l = true) (hv : v < n) : setOk (n : Int) (setBit l v) = true := by
  have h3 := (setOk_len hl).2.2
  unfold setOk at hl ⊢
  simp only [decide_eq_true_eq] at hl ⊢
  refine ⟨hl.1, hl.2.1, by simpa [setBit] using hl.2.2.1, fun u hu hnu => ?_⟩
  have e : (setBit l v).length = l.length := by simp [setBit]
  rw [e] at hu
  simp at h3
  rw [bitAt_setBit _ _ _ (by omega), hl.2.2.2 u hu hnu]
  simp at hnu ⊢
  omega

theorem setAll_ok {n : Nat} (vs : List Int) : ∀ {l : List UInt8}, setOk (n : Int) l = true → (∀ v ∈ vs, ∃ u : Nat, v = u ∧ u < n) → setOk (n : Int) (setAll l vs) = true := by
  unfold setAll
  induction vs with
  | nil => intro l h _; exact h
  | cons v vs ih =>
    intro l h hv
    obtain ⟨u, rfl, hu⟩ := hv v List.mem_cons_self
    rw [List.foldl_cons]
    exact ih (setBit_ok h (by simpa using hu)) (fun x hx => hv x (List.mem_cons_of_mem _ hx))


end Go.Proofs.Ytfnhchcgieeedaa

namespace Go.Proofs.Ytfnhchcgieeedaa
set_option linter.unusedSimpArgs false
set_option linter.unusedVariables false
set_option linter.defProp false
open Go.RowKit

def memI (l : List UInt8) (v : Nat) : Option Int := if bitAt l v then some (v : Int) else none
def membersL (n : Int) (l : List UInt8) : List Int := if setOk n l then fm (memI l) n.toNat else []
theorem membersL_ok {n : Int} {l : List UInt8} (h : setOk n l = true) : membersL n l = fm (memI l) n.toNat := by unfold membersL; rw [h]; rfl
theorem membersL_no {n : Int} {l : List UInt8} (h : setOk n l = false) : membersL n l = [] := by unfold membersL; rw [h]; rfl
theorem membersL_len (n : Int) (l : List UInt8) : (membersL n l).length ≤ 150 := by
  cases h : setOk n l with
  | false => rw [membersL_no h]; simp
  | true =>
    rw [membersL_ok h]
    have := fm_len (memI l) n.toNat
    have := setOk_len h
    omega
theorem memI_hit {l : List UInt8} {v : Nat} (h : bitAt l v = true) : memI l v = some (v : Int) := by simp [memI, h]
theorem memI_miss {l : List UInt8} {v : Nat} (h : bitAt l v = false) : memI l v = none := by simp [memI, h]

theorem hasL_ok {m : Nat} {l : List UInt8} {k : Nat} (h : setOk (m : Int) l = true) (hk : k < m) : hasL (m : Int) l (k : Int) = bitAt l k := by
  unfold hasL
  rw [h]
  simp [hk]

def zeroB (x : UInt8) : Bool := decide (x.toNat = 0)
def emptyL (l : List UInt8) : Bool := l.all zeroB

theorem byte_zero {x : UInt8} (hb : ∀ k, k < 8 → x.toNat / 2 ^ k % 2 = 0) : x.toNat = 0 := by
  have : x = 0 := u8_ext fun k hk => by
    rw [Nat.testBit_eq_decide_div_mod_eq, hb k hk]
    simp
  rw [this]; rfl

theorem fm_nil {α : Type} {f : Nat → Option α} {n : Nat} : fm f n = [] ↔ ∀ i, i < n → f i = none := by
  induction n with
  | zero => simp [fm_zero]
  | succ n ih =>
    cases h : f n with
    | none =>
      rw [fm_none h, ih]
      constructor
      · intro h1 i hi
        by_cases hin : i = n
        · subst hin; exact h
        · exact h1 i (by omega)
      · exact fun h1 i hi => h1 i (by omega)
    | some x =>
      rw [fm_some h]
      constructor
      · intro h1; simp at h1
      · intro h1; have := h1 n (by omega); rw [h] at this; cases this

theorem empty_members {n : Int} {l : List UInt8} (ho : setOk n l = true) : emptyL l = decide ((membersL n l).length = 0) := by
  obtain ⟨h1, h2, h3, h4⟩ := setOk_len ho
  rw [membersL_ok ho, Bool.eq_iff_iff, decide_eq_true_eq, List.length_eq_zero_iff, fm_nil]
  unfold emptyL
  rw [List.all_eq_true]
  constructor
  · intro h i hi
    refine memI_miss ?_
    unfold bitAt
    rw [decide_eq_false_iff_not]
    have hil : i / 8 < l.length := by omega
    have := h l[i / 8] (List.getElem_mem hil)
    simp only [zeroB, decide_eq_true_eq] at this
    simp [List.getD, hil, this]
  · intro h x hx
    obtain ⟨i, hi, rfl⟩ := List.getElem_of_mem hx
    simp only [zeroB, decide_eq_true_eq]
    refine byte_zero fun k hk => ?_
    have hb : bitAt l (8 * i + k) = false := by
      by_cases hlt : 8 * i + k < n.toNat
      · have := h _ hlt
        unfold memI at this
        cases hb : bitAt l (8 * i + k) with
        | false => rfl
        | true => rw [hb] at this; simp at this
      · have ho' := ho
        unfold setOk at ho'
        simp only [decide_eq_true_eq] at ho'
        exact ho'.2.2.2 _ (by omega) (by omega)
    unfold bitAt at hb
    rw [decide_eq_false_iff_not] at hb
    have e1 : (8 * i + k) / 8 = i := by omega
    have e2 : (8 * i + k) % 8 = k := by omega
    rw [e1, e2] at hb
    simp [List.getD, hi] at hb
    omega

/-- Is the run valid? -/
def runOk (g : GraphD) (r : RunD) : Bool :=
  graphOk g && jobOk g.N r.Job && decide (0 ≤ r.Iter ∧ r.Iter ≤ 1000 ∧ (r.Vals.length : Int) = g.N ∧ r.EVals.length = g.Edges.length) && r.Vals.all valOk && r.EVals.all valOk &&
    setOk r.Next.N r.Next.Bits && (r.Next.N == g.N) && (r.Done == emptyL r.Next.Bits)

theorem members_zero {n : Int} {l : List UInt8} (ho : setOk n l = true) : (((membersL n l).length : Int) == 0) = emptyL l := by
  rw [empty_members ho, Bool.eq_iff_iff, beq_iff_eq, decide_eq_true_eq]
  omega

end Go.Proofs.Ytfnhchcgieeedaa

namespace Go.Proofs.Ytfnhchcgieeedaa
set_option linter.unusedSimpArgs false
set_option linter.unusedVariables false
set_option linter.defProp false
open Go.RowKit

theorem copyBytes_k (l : List UInt8) (h : l.length ≤ 1048576) : FnOK Try.prog 110 ⟨1, [(0, some (.ro (l.map bytK)))], [.c (.sl 0 1 0 l.length)], .c (.sl 1 1 0 l.length), [(1, some (.row 5 (l.map bytK)))], 2⟩ := by
  refine fnOK_of true mixed Try.func110 rfl (by rfl) (by rfl) ?_
  have hres := congrArg Array.toList Try.results110
  simp only [Try.ntmps110, BGB, seval]
  (have gx := And.intro @List.length_map.{0,0} @map_take; refine go ?_; (repeat' first | exact Ef.mk | apply Lf.mk | refine fun (K : KT) hK hE hT => ?_ | refine fun (KS : KE) hKS => ?_ | refine fun (D : KD) hD => ?_ | refine fun (hg : (_ : Prop)) => ?_ | fail); all_goals (first | (refine Wr.mk ?_; (try clear gx); repeat first | clear hK hE hT K | clear hR hE hT K) | assumption | skip))
  (refine post_a hres (.inl rfl) ?_; simp only [RSB, ENB, seval, tiAll, true_and]; simp only [MAB, seval]; refine ⟨rfl, rfl, ?_, ?_, ?_⟩ <;> (first | rfl | (simp [WKB, Nat.add_comm, true_and]; done) | (simp only [WKB, seval])))

end Go.Proofs.Ytfnhchcgieeedaa

namespace Go.Proofs.Ytfnhchcgieeedaa
set_option linter.unusedSimpArgs false
set_option linter.unusedVariables false
set_option linter.defProp false
open Go.RowKit

theorem shl_bitW (v : Nat) : (1 : Int) * 2 ^ (min ((v : Int) % 8).toNat IntKind.u8.bits) = bitW v := by
  have h1 : ((v : Int) % 8).toNat = v % 8 := by omega
  have h2 : min (v % 8) IntKind.u8.bits = v % 8 := Nat.min_eq_left (by have : IntKind.u8.bits = 8 := rfl; omega)
  rw [h1, h2]
  unfold bitW
  push_cast
  omega

theorem or_bitW (x : UInt8) (v : Nat) : bits BinOp.or IntKind.u8 (x.toNat : Int) (bitW v) = ((UInt8.ofNat (x.toNat ||| 2 ^ (v % 8))).toNat : Int) := by
  have := or_val x (v % 8) (by omega)
  rw [pow_int _ (by omega)] at this
  exact this

theorem andNot_bitW (x : UInt8) (v : Nat) : bits BinOp.andNot IntKind.u8 (x.toNat : Int) (bitW v) = ((UInt8.ofNat (x.toNat &&& (255 - 2 ^ (v % 8)))).toNat : Int) := by
  have := clr_val x (v % 8) (by omega)
  rw [pow_int _ (by omega)] at this
  exact this

theorem setBit_row (l : List UInt8) (v : Nat) (hv : v / 8 < l.length) : (l.map bytK).set (v / 8) [DC.v (.int .u8 ((UInt8.ofNat (l[v / 8].toNat ||| 2 ^ (v % 8))).toNat : Int))] = (setBit l v).map bytK := by
  unfold setBit
  rw [List.map_set]
  simp [bytK, List.getD, hv]

theorem clrBit_row (l : List UInt8) (v : Nat) (hv : v / 8 < l.length) : (l.map bytK).set (v / 8) [DC.v (.int .u8 ((UInt8.ofNat (l[v / 8].toNat &&& (255 - 2 ^ (v % 8)))).toNat : Int))] = (clrBit l v).map bytK := by
  unfold clrBit
  rw [List.map_set]
  simp [bytK, List.getD, hv]

theorem setBit_len (l : List UInt8) (v : Nat) : (setBit l v).length = l.length := by simp [setBit]
theorem clrBit_len (l : List UInt8) (v : Nat) : (clrBit l v).length = l.length := by simp [clrBit]

def addL (n : Int) (l : List UInt8) (v : Int) : List UInt8 := if 0 ≤ v ∧ v < n then setBit l v.toNat else l
theorem addL_len (n : Int) (l : List UInt8) (v : Int) : (addL n l v).length = l.length := by
  unfold addL; split
  · rw [setBit_len]
  · rfl
theorem addL_in {n : Int} {l : List UInt8} {v : Nat} (h : (v : Int) < n) : addL n l (v : Int) = setBit l v := by
  unfold addL; rw [if_pos ⟨by omega, h⟩]; simp
theorem addL_out {n : Int} {l : List UInt8} {v : Int} (h : ¬ (0 ≤ v ∧ v < n)) : addL n l v = l := by
  unfold addL; rw [if_neg h]
theorem withL_add {n : Int} {l : List UInt8} (v : Int) (h : setOk n l = true) : withL n l v = addL n l v ∧ turnN n l = n := by
  unfold withL turnN addL; rw [if_pos h, if_pos h]; exact ⟨rfl, rfl⟩

theorem turn_set (l : List UInt8) (k : Nat) (hk : k / 8 < l.length) (h : bitAt l k = false) : IntKind.u8.wrap (bits BinOp.and IntKind.i64 ((l[k / 8].toNat : Int) + bitW k) 255) = ((UInt8.ofNat (l[k / 8].toNat ||| 2 ^ (k % 8))).toNat : Int) := by
  have h1 := l[k / 8].toNat_lt
  have hb : ¬ l[k / 8].toNat / 2 ^ (k % 8) % 2 = 1 := by
    unfold bitAt at h
    rw [decide_eq_false_iff_not] at h
    simpa [List.getD, hk] using h
  obtain ⟨h2, _, h3⟩ := (bits_nat8 l[k / 8].toNat (k % 8) h1 (by omega)).2 hb
  have e : ((l[k / 8].toNat : Int) + bitW k) = ((l[k / 8].toNat + 2 ^ (k % 8) : Nat) : Int) := by unfold bitW; push_cast; rfl
  rw [e, and255 _ (by omega) (by omega), h2, ofNat_toNat _ h3]
  exact IntWalk.u8_in _ ⟨by omega, by omega⟩

theorem turn_clr (l : List UInt8) (k : Nat) (hk : k / 8 < l.length) (h : bitAt l k = true) : IntKind.u8.wrap (bits BinOp.and IntKind.i64 ((l[k / 8].toNat : Int) - bitW k) 255) = ((UInt8.ofNat (l[k / 8].toNat &&& (255 - 2 ^ (k % 8)))).toNat : Int) := by
  have h1 := l[k / 8].toNat_lt
  have hb : l[k / 8].toNat / 2 ^ (k % 8) % 2 = 1 := by
    unfold bitAt at h
    rw [decide_eq_true_eq] at h
    simpa [List.getD, hk] using h
  obtain ⟨_, h2, h3⟩ := (bits_nat8 l[k / 8].toNat (k % 8) h1 (by omega)).1 hb
  rw [h2]
  unfold bitW
  generalize 2 ^ (k % 8) = p at h3
  generalize l[k / 8].toNat = x at h1 h3
  have e : ((x : Int) - (p : Int)) = ((x - p : Nat) : Int) := by omega
  rw [e, and255 _ (by omega) (by omega), ofNat_toNat _ (by omega)]
  exact IntWalk.u8_in _ ⟨by omega, by omega⟩

theorem bitW_in (k : Nat) : 1 ≤ bitW k ∧ bitW k ≤ 128 := bitW_le k

theorem turnL_true (n : Int) (l : List UInt8) (v : Int) : turnL n l v true = withL n l v := by unfold turnL; rw [if_pos rfl]

/-! New sets. -/

theorem fullTo_map (n : Nat) : (fullTo n 0).map bytK = List.replicate ((n + 7) / 8) [DC.v (.int .u8 0)] := by
  simp [fullTo, bytK]

theorem newL_out {n : Int} (h : ¬ (0 ≤ n ∧ n ≤ 150)) (b : Bool) : newN n = 0 ∧ newL n b = [] ∧ newOk n = false := new_out h b

theorem fullTo_step (n k : Nat) (hn : n ≤ 150) (hk : k < n) : setBit (fullTo n k) k = fullTo n (k + 1) := by
  obtain ⟨h1, _⟩ := withL_full n k hn hk
  have ho := fullTo_ok n k hn (by omega)
  rw [(withL_add _ ho).1, addL_in (by omega)] at h1
  exact h1

end Go.Proofs.Ytfnhchcgieeedaa
