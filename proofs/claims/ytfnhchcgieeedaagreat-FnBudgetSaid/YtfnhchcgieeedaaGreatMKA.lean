/-
  The engine, texts SetM Fm K1 K2 SetP K3 V2 K4 in one. No conditions of its own.
-/
import Derived.Test.YtfnhchcgieeedaaGreatGO
import Derived.Test.YtfnhchcgieeedaaGreatBase
import Derived.Test.YtfnhchcgieeedaaGreatZz1
namespace Go.Proofs.YtfnhchcgieeedaaGreat
set_option linter.unusedSimpArgs false
set_option linter.unusedVariables false
set_option linter.unusedSimpArgs false
set_option linter.unusedVariables false
set_option linter.defProp false
open Go.RowKit

/-- Is the bit v set? -/
def bitAt (l : List UInt8) (v : Nat) : Bool := decide ((l.getD (v / 8) 0).toNat / 2 ^ (v % 8) % 2 = 1)
def setOk (n : Int) (l : List UInt8) : Bool := decide (0 ≤ n ∧ n ≤ 150 ∧ l.length = (n.toNat + 7) / 8 ∧ ∀ v, v < 8 * l.length → n.toNat ≤ v → bitAt l v = false)

theorem pow_le (k : Nat) (h : k ≤ 7) : 2 ^ k ≤ 128 := Nat.le_trans (Nat.pow_le_pow_right (by omega) h) (by decide)

def bitW (v : Nat) : Int := ((2 ^ (v % 8) : Nat) : Int)
theorem bitW_le (v : Nat) : 1 ≤ bitW v ∧ bitW v ≤ 128 := by
  have h := pow_le (v % 8) (by omega)
  have h' : 0 < 2 ^ (v % 8) := Nat.two_pow_pos _
  unfold bitW
  exact ⟨by omega, by omega⟩

theorem bit_val (x : UInt8) (k : Nat) : (bits BinOp.and IntKind.u8 ((x.toNat : Int) / 2 ^ k) 1 == 1) = decide (x.toNat / 2 ^ k % 2 = 1) := by
  have hx := x.toNat_lt
  have h1 : x.toNat / 2 ^ k < 256 := Nat.lt_of_le_of_lt (Nat.div_le_self _ _) (by omega)
  have h2 : ((x.toNat : Int) / 2 ^ k) = ((x.toNat / 2 ^ k : Nat) : Int) := by push_cast; rfl
  have h3 := u8_and_nat (x.toNat / 2 ^ k) 1 h1 (by omega)
  rw [h2, show (1 : Int) = ((1 : Nat) : Int) from rfl, h3, Nat.and_one_is_mod, Bool.eq_iff_iff]
  simp
  omega

end Go.Proofs.YtfnhchcgieeedaaGreat

namespace Go.Proofs.YtfnhchcgieeedaaGreat
set_option linter.unusedSimpArgs false
set_option linter.unusedVariables false
set_option linter.defProp false
open Go.RowKit

section
variable {α : Type}
/-- what f gives for the first k numbers -/
def fm (f : Nat → Option α) (k : Nat) : List α := (List.range k).filterMap f
theorem fm_zero (f : Nat → Option α) : fm f 0 = [] := rfl
theorem fm_some {f : Nat → Option α} {k : Nat} {x : α} (h : f k = some x) : fm f (k + 1) = fm f k ++ [x] := by
  simp [fm, List.range_succ, List.filterMap_append, h]
theorem fm_none {f : Nat → Option α} {k : Nat} (h : f k = none) : fm f (k + 1) = fm f k := by
  simp [fm, List.range_succ, List.filterMap_append, h]
theorem fm_len (f : Nat → Option α) : ∀ k, (fm f k).length ≤ k
  | 0 => Nat.le_refl _
  | k + 1 => by
    have := fm_len f k
    cases h : f k with
    | none => rw [fm_none h]; omega
    | some x => rw [fm_some h]; simp; omega
end

end Go.Proofs.YtfnhchcgieeedaaGreat

namespace Go.Proofs.YtfnhchcgieeedaaGreat
set_option linter.unusedSimpArgs false
set_option linter.unusedVariables false
set_option linter.defProp false
open Go.RowKit

theorem bit_shr (l : List UInt8) (v : Nat) (hv : v / 8 < l.length) : (bits BinOp.and IntKind.u8 ((l[v / 8].toNat : Int).fdiv (2 ^ min ((v : Int) % 8).toNat IntKind.u8.bits)) 1 == 1) = bitAt l v := by
  have h1 : ((v : Int) % 8).toNat = v % 8 := by omega
  have h2 : min (v % 8) IntKind.u8.bits = v % 8 := Nat.min_eq_left (by have : IntKind.u8.bits = 8 := rfl; omega)
  rw [h1, h2, Int.fdiv_eq_ediv_of_nonneg _ (Int.pow_nonneg (by decide)), bit_val]
  simp [bitAt, hv]

theorem implhas_k (n : Int) (l : List UInt8) (v : Nat) (hv : v / 8 < l.length) (hv' : v ≤ 1099511627776) :
    FnOK Tryz.prog 57 ⟨1, [(0, some (.ro (l.map bytK)))], [.agg [.v (.int .i64 n), .sl 0 1 0 l.length], .c (.v (.int .i64 (v : Int)))], .c (.v (.bool (bitAt l v))), [], 1⟩ := by
  have q2 : ((v : Int) / 8).toNat = v / 8 := by omega
  refine fnOK_of true mixed Tryz.func57 rfl (by rfl) (by rfl) ?_
  have hres := congrArg Array.toList Tryz.results57
  simp only [Tryz.ntmps57, BGB, seval]
  (have gx := And.intro (@List.length_map.{0,0}) (And.intro (@List.getElem_map.{0,0}) (And.intro @bytK.eq_1 @q2)); refine go ?_; (repeat' first | exact Ef.mk | apply Lf.mk | refine fun (K : KT) hK hE hT => ?_ | refine fun (KS : KE) hKS => ?_ | refine fun (D : KD) hD => ?_ | refine fun (hg : (_ : Prop)) => ?_ | fail); all_goals (first | (refine Wr.mk ?_; (try clear gx); repeat first | clear hK hE hT K | clear hR hE hT K) | assumption | skip))
  (refine post_a hres (.inl rfl) ?_; simp only [RSB, ENB, seval, tiAll, bit_shr l v hv]; simp only [MAB, seval]; refine ⟨rfl, rfl, ?_, ?_, ?_⟩ <;> (first | rfl | (simp [WKB, Nat.add_comm, bit_shr l v hv]; done) | (simp only [WKB, seval])))

theorem setOk_no (n : Int) (l : List UInt8) (h : ¬ (0 ≤ n ∧ n ≤ 150 ∧ l.length = (n.toNat + 7) / 8)) : setOk n l = false := by
  rw [Bool.eq_false_iff]
  intro h'
  unfold setOk at h'
  simp only [decide_eq_true_eq] at h'
  exact h ⟨h'.1, h'.2.1, h'.2.2.1⟩

theorem setOk_hit (m k : Nat) (l : List UInt8) (h1 : m ≤ k) (h2 : k < 8 * l.length) (hb : bitAt l k = true) : setOk (m : Int) l = false := by
  rw [Bool.eq_false_iff]
  intro h'
  unfold setOk at h'
  simp only [decide_eq_true_eq] at h'
  have := h'.2.2.2 k h2 (by simpa using h1)
  rw [this] at hb; cases hb

theorem setOk_end (m k : Nat) (l : List UInt8) (hm : m ≤ 150) (hl : l.length = (m + 7) / 8) (h2 : 8 * l.length ≤ k) (h : ∀ j, m ≤ j → j < k → bitAt l j = false) : setOk (m : Int) l = true := by
  unfold setOk
  simp only [decide_eq_true_eq]
  exact ⟨by omega, by omega, by simpa using hl, fun v hv hmv => h v (by simpa using hmv) (by omega)⟩

theorem setOk_len {n : Int} {l : List UInt8} (h : setOk n l = true) : 0 ≤ n ∧ n ≤ 150 ∧ l.length = (n.toNat + 7) / 8 ∧ l.length ≤ 19 := by
  unfold setOk at h
  simp only [decide_eq_true_eq] at h
  refine ⟨h.1, h.2.1, h.2.2.1, ?_⟩
  have := h.1
  have := h.2.1
  have := h.2.2.1
  omega


set_option maxHeartbeats 2000000 in
theorem implSetOk_k (n : Int) (l : List UInt8) (hl : l.length ≤ 1048576) :
    FnOK Tryz.prog 50 ⟨1, [(0, some (.ro (l.map bytK)))], [.agg [.v (.int .i64 n), .sl 0 1 0 l.length]], .c (.v (.bool (setOk n l))), [], 1⟩ := by
  refine fnOK_of true mixed Tryz.func50 rfl (by rfl) (by rfl) ?_
  have hres := congrArg Array.toList Tryz.results50
  simp only [Tryz.ntmps50, BGB, seval]
  (have gx := And.intro (@List.length_map.{0,0}) (And.intro @List.getElem_map.{0,0} @bytK.eq_1); refine go ?_; (repeat' first | exact Ef.mk | apply Lf.mk | refine fun (K : KT) hK hE hT => ?_ | refine fun (KS : KE) hKS => ?_ | refine fun (D : KD) hD => ?_ | refine fun (hg : (_ : Prop)) => ?_ | fail); all_goals (first | (refine Wr.mk ?_; (try clear gx); repeat first | clear hK hE hT K | clear hR hE hT K) | assumption | skip))
  · (refine post_a hres (.inl rfl) ?_; simp only [RSB, ENB, seval, tiAll, setOk_no n l (by omega)]; simp only [MAB, seval]; refine ⟨rfl, rfl, ?_, ?_, ?_⟩ <;> (first | rfl | (simp [WKB, Nat.add_comm, setOk_no n l (by omega)]; done) | (simp only [WKB, seval])))
  · obtain ⟨m, rfl⟩ := Int.eq_ofNat_of_zero_le (show 0 ≤ n by assumption)
    have hm : m ≤ 150 := by omega
    have hlm : l.length = (m + 7) / 8 := by omega
    refine loop_v (X := {k : Nat // (m ≤ k ∧ k ≤ 8 * l.length) ∧ Rnd (∀ j, m ≤ j → j < k → bitAt l j = false)}) [] (fun x => [(3, .c (.v (.int .i64 ((x.1 : Nat) : Int))))]) (fun x => [(0, some (.ro (l.map bytK))), (1, some (.box 32 [.v (.int .i64 (m : Int)), .sl 0 1 0 l.length]))]) 2 (fun x => 8 * l.length - x.1) ⟨m, ⟨Nat.le_refl _, by omega⟩, ⟨fun j h1 h2 => by omega⟩⟩ ?_
    simp only [KPB, seval]
    refine ⟨?_, ?_⟩
    · (refine wk_a ?_; simp only [MAB, seval]; refine ⟨rfl, rfl, (by decide), ?_, ?_⟩; all_goals (first | (simp only [WKB, seval, true_and]; done) | (simp [WKB, seval, true_and]; done) | simp only [WKB, seval]))
    · rintro ⟨k, ⟨hk1, hk2⟩, hk⟩ K hR hE hT
      skip
      (have gx := And.intro (@List.length_map.{0,0}) (And.intro @List.getElem_map.{0,0} @bytK.eq_1); have q1 := implhas_k (m : Int) l k; refine go ?_; (repeat' first | exact Ef.mk | apply Lf.mk | refine fun (K : KT) hK hE hT => ?_ | refine fun (KS : KE) hKS => ?_ | refine fun (D : KD) hD => ?_ | refine fun (hg : (_ : Prop)) => ?_ | fail); all_goals (first | (refine Wr.mk ?_; (try clear gx q1); repeat first | clear hK hE hT K | clear hR hE hT K) | assumption | skip))
      · have hb : bitAt l k = true := by assumption
        (refine post_a hres (.inl rfl) ?_; simp only [RSB, ENB, seval, tiAll, setOk_hit m k l hk1 (by omega) hb]; simp only [MAB, seval]; refine ⟨rfl, rfl, ?_, ?_, ?_⟩ <;> (first | rfl | (simp [WKB, Nat.add_comm, setOk_hit m k l hk1 (by omega) hb]; done) | (simp only [WKB, seval])))
      · have hb : bitAt l k = false := by assumption
        have hn : ∀ j, m ≤ j → j < k + 1 → bitAt l j = false := fun j h1 h2 => by
          by_cases hj : j = k
          · subst hj; exact hb
          · exact hk.out j h1 (by omega)
        (refine hR.out ⟨k + 1, ⟨by omega, by omega⟩, ⟨hn⟩⟩ _ _ _ (by simp only; omega) ?_; (refine wk_a ?_; simp only [MAB, seval]; refine ⟨rfl, rfl, (by decide), ?_, ?_⟩; all_goals (first | (simp only [WKB, seval, true_and]; done) | (simp [WKB, seval, true_and]; done) | simp only [WKB, seval])))
      · (refine post_a hres (.inl rfl) ?_; simp only [RSB, ENB, seval, tiAll, setOk_end m k l hm hlm (by omega) hk.out]; simp only [MAB, seval]; refine ⟨rfl, rfl, ?_, ?_, ?_⟩ <;> (first | rfl | (simp [WKB, Nat.add_comm, setOk_end m k l hm hlm (by omega) hk.out]; done) | (simp only [WKB, seval])))
  · (refine post_a hres (.inl rfl) ?_; simp only [RSB, ENB, seval, tiAll, setOk_no n l (by omega)]; simp only [MAB, seval]; refine ⟨rfl, rfl, ?_, ?_, ?_⟩ <;> (first | rfl | (simp [WKB, Nat.add_comm, setOk_no n l (by omega)]; done) | (simp only [WKB, seval])))
  · (refine post_a hres (.inl rfl) ?_; simp only [RSB, ENB, seval, tiAll, setOk_no n l (by omega)]; simp only [MAB, seval]; refine ⟨rfl, rfl, ?_, ?_, ?_⟩ <;> (first | rfl | (simp [WKB, Nat.add_comm, setOk_no n l (by omega)]; done) | (simp only [WKB, seval])))

end Go.Proofs.YtfnhchcgieeedaaGreat

namespace Go.Proofs.YtfnhchcgieeedaaGreat
set_option linter.unusedSimpArgs false
set_option linter.unusedVariables false
set_option linter.defProp false
open Go.RowKit

section
variable {α : Type}
theorem all_no {p : α → Bool} {l : List α} {k : Nat} (h : k < l.length) (hp : p l[k] = false) : l.all p = false := by
  rw [Bool.eq_false_iff]
  intro h'
  rw [List.all_eq_true] at h'
  rw [h' _ (List.getElem_mem h)] at hp
  cases hp
theorem all_yes {p : α → Bool} {l : List α} {k : Nat} (hk : l.length ≤ k) (h : ∀ i (hi : i < l.length), i < k → p l[i] = true) : l.all p = true := by
  rw [List.all_eq_true]
  intro x hx
  obtain ⟨i, hi, rfl⟩ := List.getElem_of_mem hx
  exact h i hi (by omega)
theorem all_more {p : α → Bool} {l : List α} {k : Nat} (h : ∀ i (hi : i < l.length), i < k → p l[i] = true) (hk : k < l.length) (hp : p l[k] = true) : ∀ i (hi : i < l.length), i < k + 1 → p l[i] = true := by
  intro i hi hlt
  by_cases hik : i = k
  · subst hik; exact hp
  · exact h i hi (by omega)
end

def valOk (z : Int) : Bool := decide (0 ≤ z ∧ z ≤ 1099511627776)
def edgeOk (n : Int) (e : EdgeD) : Bool := decide (0 ≤ e.From ∧ e.From < n ∧ 0 ≤ e.To ∧ e.To < n ∧ 0 ≤ e.W ∧ e.W ≤ 1000)
def graphOk (g : GraphD) : Bool := decide (0 ≤ g.N ∧ g.N ≤ 150 ∧ g.Edges.length ≤ 400) && g.Edges.all (edgeOk g.N)
def jobOk (n : Int) (j : JobD) : Bool := decide (1 ≤ j.Prog ∧ j.Prog ≤ 4 ∧ (j.Prog = 3 → 0 ≤ j.Src ∧ j.Src < n) ∧ (j.Prog ≠ 3 → j.Src = 0))

theorem implisValue_k (z : Int) : FnOK Tryz.prog 65 ⟨0, [], [.c (.v (.int .i64 z))], .c (.v (.bool (valOk z))), [], 0⟩ := by
  refine fnOK_of true mixed Tryz.func65 rfl (by rfl) (by rfl) ?_
  have hres := congrArg Array.toList Tryz.results65
  simp only [Tryz.ntmps65, BGB, seval]
  (have gx := true_and True; refine go ?_; (repeat' first | exact Ef.mk | apply Lf.mk | refine fun (K : KT) hK hE hT => ?_ | refine fun (KS : KE) hKS => ?_ | refine fun (D : KD) hD => ?_ | refine fun (hg : (_ : Prop)) => ?_ | fail); all_goals (first | (refine Wr.mk ?_; (try clear gx); repeat first | clear hK hE hT K | clear hR hE hT K) | assumption | skip))
  all_goals (have e : valOk z = decide (z ≤ 1099511627776 ∧ 0 ≤ z) := by simp only [valOk, and_comm]
             (refine post_a hres (.inl rfl) ?_; simp only [RSB, ENB, seval, tiAll, e, *]; simp only [MAB, seval]; refine ⟨rfl, rfl, ?_, ?_, ?_⟩ <;> (first | rfl | (simp [WKB, Nat.add_comm, e, *]; done) | (simp only [WKB, seval]))))

theorem implisProg_k (z : Int) : FnOK Tryz.prog 39 ⟨0, [], [.c (.v (.int .i64 z))], .c (.v (.bool (decide (1 ≤ z ∧ z ≤ 4)))), [], 0⟩ := by
  refine fnOK_of true mixed Tryz.func39 rfl (by rfl) (by rfl) ?_
  have hres := congrArg Array.toList Tryz.results39
  simp only [Tryz.ntmps39, BGB, seval]
  (have gx := true_and True; refine go ?_; (repeat' first | exact Ef.mk | apply Lf.mk | refine fun (K : KT) hK hE hT => ?_ | refine fun (KS : KE) hKS => ?_ | refine fun (D : KD) hD => ?_ | refine fun (hg : (_ : Prop)) => ?_ | fail); all_goals (first | (refine Wr.mk ?_; (try clear gx); repeat first | clear hK hE hT K | clear hR hE hT K) | assumption | skip))
  all_goals (refine post_a hres (.inl rfl) ?_; simp only [RSB, ENB, seval, tiAll, true_and]; simp only [MAB, seval]; refine ⟨rfl, rfl, ?_, ?_, ?_⟩ <;> (first | rfl | (simp [WKB, Nat.add_comm, true_and]; done) | (simp only [WKB, seval])))
  all_goals (refine congrArg (fun b => SV.c (CV.v (Value.bool b))) ?_; symm; first | (rw [decide_eq_false_iff_not]; omega) | (rw [decide_eq_true_eq]; omega) | (rw [decide_eq_decide]; omega) | (rw [Bool.eq_iff_iff]; simp only [decide_eq_true_eq, beq_iff_eq]; omega))

set_option maxHeartbeats 1000000 in
theorem areValues_k (l : List Int) (hl : l.length ≤ 9223372036854775807) : FnOK Tryz.prog 49 ⟨1, [(0, some (.ro (l.map intK)))], [.c (.sl 0 1 0 l.length)], .c (.v (.bool (l.all valOk))), [], 1⟩ := by
  refine fnOK_of true mixed Tryz.func49 rfl (by rfl) (by rfl) ?_
  have hres := congrArg Array.toList Tryz.results49
  simp only [Tryz.ntmps49, BGB, seval]
  (have gx := true_and True; refine go ?_; (repeat' first | exact Ef.mk | apply Lf.mk | refine fun (K : KT) hK hE hT => ?_ | refine fun (KS : KE) hKS => ?_ | refine fun (D : KD) hD => ?_ | refine fun (hg : (_ : Prop)) => ?_ | fail); all_goals (first | (refine Wr.mk ?_; (try clear gx); repeat first | clear hK hE hT K | clear hR hE hT K) | assumption | skip))
  refine loop_v (X := {k : Nat // k ≤ l.length ∧ Rnd (∀ i (hi : i < l.length), i < k → valOk l[i] = true)}) [] (fun x => [(7, .c (.v (.int .i64 ((x.1 : Nat) : Int))))]) (fun x => [(0, some (.ro (l.map intK)))]) 1 (fun x => l.length - x.1) ⟨0, by omega, ⟨fun i hi h => by omega⟩⟩ ?_
  simp only [KPB, seval]
  refine ⟨?_, ?_⟩
  · (refine wk_a ?_; simp only [MAB, seval]; refine ⟨rfl, rfl, (by decide), ?_, ?_⟩; all_goals (first | (simp only [WKB, seval, true_and]; done) | (simp [WKB, seval, true_and]; done) | simp only [WKB, seval]))
  · rintro ⟨k, hk, hi⟩ K hR hE hT
    (have gx := And.intro (@List.length_map.{0,0}) (And.intro @List.getElem_map.{0,0} @intK.eq_1); have q1 := fun hq1 => implisValue_k (l[k]'hq1); refine go ?_; (repeat' first | exact Ef.mk | apply Lf.mk | refine fun (K : KT) hK hE hT => ?_ | refine fun (KS : KE) hKS => ?_ | refine fun (D : KD) hD => ?_ | refine fun (hg : (_ : Prop)) => ?_ | fail); all_goals (first | (refine Wr.mk ?_; (try clear gx q1); repeat first | clear hK hE hT K | clear hR hE hT K) | assumption | skip))
    · have e : valOk (l[k]'(by omega)) = false := by assumption
      (refine post_a hres (.inl rfl) ?_; simp only [RSB, ENB, seval, tiAll, all_no (p := valOk) (by omega) e]; simp only [MAB, seval]; refine ⟨rfl, rfl, ?_, ?_, ?_⟩ <;> (first | rfl | (simp [WKB, Nat.add_comm, all_no (p := valOk) (by omega) e]; done) | (simp only [WKB, seval])))
    · have e : valOk (l[k]'(by omega)) = true := by assumption
      (refine hR.out ⟨k + 1, by omega, ⟨all_more hi.out (by omega) e⟩⟩ _ _ _ (by simp only; omega) ?_; (refine wk_a ?_; simp only [MAB, seval]; refine ⟨rfl, rfl, (by decide), ?_, ?_⟩; all_goals (first | (simp only [WKB, seval, true_and]; done) | (simp [WKB, seval, true_and]; done) | simp only [WKB, seval])))
    · (refine post_a hres (.inl rfl) ?_; simp only [RSB, ENB, seval, tiAll, all_yes (p := valOk) (k := k) (by omega) hi.out]; simp only [MAB, seval]; refine ⟨rfl, rfl, ?_, ?_, ?_⟩ <;> (first | rfl | (simp [WKB, Nat.add_comm, all_yes (p := valOk) (k := k) (by omega) hi.out]; done) | (simp only [WKB, seval])))

set_option maxHeartbeats 1000000 in
theorem implJobOk_k (n : Int) (j : JobD) : FnOK Tryz.prog 18 ⟨0, [], [.c (.v (.int .i64 n)), .agg [.v (.int .i64 j.Prog), .v (.int .i64 j.Src)]], .c (.v (.bool (jobOk n j))), [], 0⟩ := by
  obtain ⟨p, s⟩ := j
  refine fnOK_of true mixed Tryz.func18 rfl (by rfl) (by rfl) ?_
  have hres := congrArg Array.toList Tryz.results18
  simp only [Tryz.ntmps18, BGB, seval]
  (have gx := true_and True; have q1 := implisProg_k p; refine go ?_; (repeat' first | exact Ef.mk | apply Lf.mk | refine fun (K : KT) hK hE hT => ?_ | refine fun (KS : KE) hKS => ?_ | refine fun (D : KD) hD => ?_ | refine fun (hg : (_ : Prop)) => ?_ | fail); all_goals (first | (refine Wr.mk ?_; (try clear gx q1); repeat first | clear hK hE hT K | clear hR hE hT K) | assumption | skip))
  all_goals (refine post_a hres (.inl rfl) ?_; simp only [RSB, ENB, seval, tiAll, true_and]; simp only [MAB, seval]; refine ⟨rfl, rfl, ?_, ?_, ?_⟩ <;> (first | rfl | (simp [WKB, Nat.add_comm, true_and]; done) | (simp only [WKB, seval])))
  all_goals (unfold jobOk; dsimp only)
  all_goals (refine congrArg (fun b => SV.c (CV.v (Value.bool b))) ?_; symm; first | (rw [decide_eq_false_iff_not]; omega) | (rw [decide_eq_true_eq]; omega) | (rw [decide_eq_decide]; omega) | (rw [Bool.eq_iff_iff]; simp only [decide_eq_true_eq, beq_iff_eq]; omega))

set_option maxHeartbeats 4000000 in
theorem implGraphOk_k (g : GraphD) (hl : g.Edges.length ≤ 9223372036854775807) : FnOK Tryz.prog 17 ⟨1, [(0, some (.ro ((g.Edges).map EdgeD.k)))], [.agg [.v (.int .i64 g.N), .sl 0 3 0 (g.Edges).length]], .c (.v (.bool (graphOk g))), [], 1⟩ := by
  obtain ⟨n, l⟩ := g
  dsimp only at hl
  refine fnOK_of true mixed Tryz.func17 rfl (by rfl) (by rfl) ?_
  have hres := congrArg Array.toList Tryz.results17
  simp only [Tryz.ntmps17, BGB, seval]
  (have gx := And.intro (@List.length_map.{0,0}) (And.intro @List.getElem_map.{0,0} @EdgeD.k.eq_1); refine go ?_; (repeat' first | exact Ef.mk | apply Lf.mk | refine fun (K : KT) hK hE hT => ?_ | refine fun (KS : KE) hKS => ?_ | refine fun (D : KD) hD => ?_ | refine fun (hg : (_ : Prop)) => ?_ | fail); all_goals (first | (refine Wr.mk ?_; (try clear gx); repeat first | clear hK hE hT K | clear hR hE hT K) | assumption | skip))
  all_goals first
    | (have e : graphOk ⟨n, l⟩ = false := by
         unfold graphOk; dsimp only; rw [decide_eq_false (by omega), Bool.false_and]
       (refine post_a hres (.inl rfl) ?_; simp only [RSB, ENB, seval, tiAll, e]; simp only [MAB, seval]; refine ⟨rfl, rfl, ?_, ?_, ?_⟩ <;> (first | rfl | (simp [WKB, Nat.add_comm, e]; done) | (simp only [WKB, seval]))))
    | skip
  refine loop_v (X := {k : Nat // k ≤ l.length ∧ Rnd (∀ i (hi : i < l.length), i < k → edgeOk n l[i] = true)}) [] (fun x => [(22, .c (.v (.int .i64 ((x.1 : Nat) : Int))))]) (fun x => [(0, some (.ro (l.map EdgeD.k))), (1, some (.box 25 [.v (.int .i64 n), .sl 0 3 0 l.length]))]) 2 (fun x => l.length - x.1) ⟨0, by omega, ⟨fun i hi h => by omega⟩⟩ ?_
  simp only [KPB, seval]
  refine ⟨?_, ?_⟩
  · (refine wk_a ?_; simp only [MAB, seval]; refine ⟨rfl, rfl, (by decide), ?_, ?_⟩; all_goals (first | (simp only [WKB, seval, true_and]; done) | (simp [WKB, seval, true_and]; done) | simp only [WKB, seval]))
  · rintro ⟨k, hk, hi⟩ K hR hE hT
    (have gx := And.intro (@List.length_map.{0,0}) (And.intro @List.getElem_map.{0,0} @EdgeD.k.eq_1); refine go ?_; (repeat' first | exact Ef.mk | apply Lf.mk | refine fun (K : KT) hK hE hT => ?_ | refine fun (KS : KE) hKS => ?_ | refine fun (D : KD) hD => ?_ | refine fun (hg : (_ : Prop)) => ?_ | fail); all_goals (first | (refine Wr.mk ?_; (try clear gx); repeat first | clear hK hE hT K | clear hR hE hT K) | assumption | skip))
    all_goals first
      | (have e : edgeOk n (l[k]'(by omega)) = false := by unfold edgeOk; rw [decide_eq_false_iff_not]; omega
         have e2 : graphOk ⟨n, l⟩ = false := by unfold graphOk; dsimp only; rw [all_no (by omega) e, Bool.and_false]
         (refine post_a hres (.inl rfl) ?_; simp only [RSB, ENB, seval, tiAll, e2]; simp only [MAB, seval]; refine ⟨rfl, rfl, ?_, ?_, ?_⟩ <;> (first | rfl | (simp [WKB, Nat.add_comm, e2]; done) | (simp only [WKB, seval]))))
      | (have e : edgeOk n (l[k]'(by omega)) = true := by unfold edgeOk; rw [decide_eq_true_eq]; omega
         (refine hR.out ⟨k + 1, by omega, ⟨all_more hi.out (by omega) e⟩⟩ _ _ _ (by simp only; omega) ?_; (refine wk_a ?_; simp only [MAB, seval]; refine ⟨rfl, rfl, (by decide), ?_, ?_⟩; all_goals (first | (simp only [WKB, seval, true_and]; done) | (simp [WKB, seval, true_and]; done) | simp only [WKB, seval]))))
      | (have e : l.all (edgeOk n) = true := all_yes (k := k) (by omega) hi.out
         have e2 : graphOk ⟨n, l⟩ = decide (0 ≤ n ∧ n ≤ 150 ∧ l.length ≤ 400) := by unfold graphOk; dsimp only; rw [e, Bool.and_true]
         (refine post_a hres (.inl rfl) ?_; simp only [RSB, ENB, seval, tiAll, e2]; simp only [MAB, seval]; refine ⟨rfl, rfl, ?_, ?_, ?_⟩ <;> (first | rfl | (simp [WKB, Nat.add_comm, e2]; done) | (simp only [WKB, seval])))
         all_goals (refine congrArg (fun b => SV.c (CV.v (Value.bool b))) ?_; symm; first | (rw [decide_eq_false_iff_not]; omega) | (rw [decide_eq_true_eq]; omega) | (rw [decide_eq_decide]; omega) | (rw [Bool.eq_iff_iff]; simp only [decide_eq_true_eq, beq_iff_eq]; omega)))

end Go.Proofs.YtfnhchcgieeedaaGreat

namespace Go.Proofs.YtfnhchcgieeedaaGreat
set_option linter.unusedSimpArgs false
set_option linter.unusedVariables false
set_option linter.defProp false
open Go.RowKit

def setBit (l : List UInt8) (v : Nat) : List UInt8 := l.set (v / 8) (UInt8.ofNat ((l.getD (v / 8) 0).toNat ||| 2 ^ (v % 8)))

theorem pow_int (k : Nat) (h : k < 8) : IntKind.u8.wrap (2 ^ k) = ((2 ^ k : Nat) : Int) := by
  have := pow_le k (by omega)
  have h2 : ((2 : Int) ^ k) = ((2 ^ k : Nat) : Int) := by push_cast; rfl
  rw [h2]
  generalize 2 ^ k = m at *
  exact IntWalk.u8_in _ (by omega)

theorem ofNat_toNat (m : Nat) (h : m < 256) : (UInt8.ofNat m).toNat = m := by
  simp; omega

theorem or_val (x : UInt8) (k : Nat) (h : k < 8) : bits BinOp.or IntKind.u8 (x.toNat : Int) (IntKind.u8.wrap (2 ^ k)) = ((UInt8.ofNat (x.toNat ||| 2 ^ k)).toNat : Int) := by
  have hx := x.toNat_lt
  have hp := pow_le k (by omega)
  have ho : x.toNat ||| 2 ^ k < 2 ^ 8 := Nat.or_lt_two_pow (by omega) (by omega)
  rw [pow_int k h, u8_or_nat _ _ (by omega) (by omega), ofNat_toNat _ ho]

def turnN (n : Int) (l : List UInt8) : Int := if setOk n l = true then n else 0

def withL (n : Int) (l : List UInt8) (v : Int) : List UInt8 := if setOk n l = true then (if 0 ≤ v ∧ v < n then setBit l v.toNat else l) else []

theorem bitAt_test (l : List UInt8) (v : Nat) : bitAt l v = (l.getD (v / 8) 0).toNat.testBit (v % 8) := by
  unfold bitAt; rw [Nat.testBit_eq_decide_div_mod_eq]

theorem bitAt_setBit (l : List UInt8) (k v : Nat) (hk : k / 8 < l.length) : bitAt (setBit l k) v = (decide (v = k) || bitAt l v) := by
  rw [bitAt_test, bitAt_test]
  unfold setBit
  have hx := (l.getD (k / 8) 0).toNat_lt
  have ho : (l.getD (k / 8) 0).toNat ||| 2 ^ (k % 8) < 2 ^ 8 := Nat.or_lt_two_pow hx (Nat.pow_lt_pow_right (by omega) (by omega))
  by_cases h8 : v / 8 = k / 8
  · have e : ((l.set (k / 8) (UInt8.ofNat ((l.getD (k / 8) 0).toNat ||| 2 ^ (k % 8)))).getD (v / 8) 0).toNat = (l.getD (k / 8) 0).toNat ||| 2 ^ (k % 8) := by
      rw [h8]
      simp only [List.getD, List.getElem?_set_self hk, Option.getD_some]
      exact ofNat_toNat _ ho
    rw [e, h8, Nat.testBit_or, Nat.testBit_two_pow]
    by_cases hm : k % 8 = v % 8
    · have : v = k := by omega
      simp [this]
    · have : v ≠ k := by intro e; subst e; exact hm rfl
      simp [hm, this]
  · have : v ≠ k := by intro e; subst e; exact h8 rfl
    have e : (l.set (k / 8) (UInt8.ofNat ((l.getD (k / 8) 0).toNat ||| 2 ^ (k % 8)))).getD (v / 8) 0 = l.getD (v / 8) 0 := by
      simp only [List.getD]
      rw [List.getElem?_set_ne (by omega)]
    rw [e]
    simp [this]

/-- The first k of n vertices. -/

def fullTo (n : Nat) : Nat → List UInt8
  | 0 => List.replicate ((n + 7) / 8) 0
  | k + 1 => setBit (fullTo n k) k

theorem fullTo_len (n : Nat) : ∀ k, (fullTo n k).length = (n + 7) / 8
  | 0 => by simp [fullTo]
  | k + 1 => by simp [fullTo, setBit, fullTo_len n k]

theorem fullTo_bit (n : Nat) : ∀ k, k ≤ n → ∀ v, bitAt (fullTo n k) v = decide (v < k)
  | 0, _, v => by
    unfold bitAt fullTo
    have : (List.replicate ((n + 7) / 8) (0 : UInt8)).getD (v / 8) 0 = 0 := by
      simp only [List.getD, List.getElem?_replicate]
      split <;> rfl
    rw [this]
    simp
  | k + 1, hk, v => by
    rw [fullTo, bitAt_setBit _ _ _ (by rw [fullTo_len]; omega), fullTo_bit n k (by omega), Bool.eq_iff_iff]
    simp
    omega

theorem fullTo_ok (n k : Nat) (hn : n ≤ 150) (hk : k ≤ n) : setOk (n : Int) (fullTo n k) = true := by
  unfold setOk
  simp only [decide_eq_true_eq]
  refine ⟨by omega, by omega, by rw [fullTo_len]; simp, fun v _ hv => ?_⟩
  rw [fullTo_bit n k hk]
  simp at hv ⊢
  omega

theorem withL_full (n k : Nat) (hn : n ≤ 150) (hk : k < n) : withL (n : Int) (fullTo n k) (k : Int) = fullTo n (k + 1) ∧ turnN (n : Int) (fullTo n k) = n := by
  have h := fullTo_ok n k hn (by omega)
  constructor
  · unfold withL; rw [if_pos h, if_pos ⟨by omega, by omega⟩]; rfl
  · unfold turnN; rw [if_pos h]

/-- SetNew's bits. -/

def newL (n : Int) (b : Bool) : List UInt8 := if 0 ≤ n ∧ n ≤ 150 then fullTo n.toNat (if b = true then n.toNat else 0) else []

def newN (n : Int) : Int := if 0 ≤ n ∧ n ≤ 150 then n else 0

def newOk (n : Int) : Bool := decide (0 ≤ n ∧ n ≤ 150)

theorem newN_in {n : Nat} (h : n ≤ 150) : newN (n : Int) = n ∧ newOk (n : Int) = true := by
  constructor
  · unfold newN; rw [if_pos ⟨by omega, by omega⟩]
  · simp [newOk]; omega

theorem newL_in {n : Nat} (h : n ≤ 150) (b : Bool) : newL (n : Int) b = fullTo n (if b = true then n else 0) := by
  unfold newL; rw [if_pos ⟨by omega, by omega⟩]; rfl

theorem new_out {n : Int} (h : ¬ (0 ≤ n ∧ n ≤ 150)) (b : Bool) : newN n = 0 ∧ newL n b = [] ∧ newOk n = false := by
  refine ⟨?_, ?_, ?_⟩
  · unfold newN; rw [if_neg h]
  · unfold newL; rw [if_neg h]
  · unfold newOk; simpa using h

/-- Vertex after vertex set. -/

theorem setBit_ok {n : Nat} {l : List UInt8} {v : Nat} (hl : setOk (n : Int) l = true) (hv : v < n) : setOk (n : Int) (setBit l v) = true := by
  have h3 := (setOk_len hl).2.2
  unfold setOk at hl ⊢
  simp only [decide_eq_true_eq] at hl ⊢
  refine ⟨hl.1, hl.2.1, by simpa [setBit] using hl.2.2.1, fun u hu hnu => ?_⟩
  have e : (setBit l v).length = l.length := by simp [setBit]
  rw [e] at hu
  simp at h3
  rw [bitAt_setBit _ _ _ (by omega), hl.2.2.2 u hu hnu]
  simp at hnu ⊢
  omega

end Go.Proofs.YtfnhchcgieeedaaGreat

namespace Go.Proofs.YtfnhchcgieeedaaGreat
set_option linter.unusedSimpArgs false
set_option linter.unusedVariables false
set_option linter.defProp false
open Go.RowKit

def zeroB (x : UInt8) : Bool := decide (x.toNat = 0)
def emptyL (l : List UInt8) : Bool := l.all zeroB

set_option maxHeartbeats 1000000 in
theorem implisEmpty_k (n : Int) (l : List UInt8) (hl : l.length ≤ 1048576) : FnOK Tryz.prog 51 ⟨1, [(0, some (.ro (l.map bytK)))], [.agg [.v (.int .i64 n), .sl 0 1 0 l.length]], .c (.v (.bool (emptyL l))), [], 1⟩ := by
  refine fnOK_of true mixed Tryz.func51 rfl (by rfl) (by rfl) ?_
  have hres := congrArg Array.toList Tryz.results51
  simp only [Tryz.ntmps51, BGB, seval]
  (have gx := true_and True; refine go ?_; (repeat' first | exact Ef.mk | apply Lf.mk | refine fun (K : KT) hK hE hT => ?_ | refine fun (KS : KE) hKS => ?_ | refine fun (D : KD) hD => ?_ | refine fun (hg : (_ : Prop)) => ?_ | fail); all_goals (first | (refine Wr.mk ?_; (try clear gx); repeat first | clear hK hE hT K | clear hR hE hT K) | assumption | skip))
  refine loop_v (X := {k : Nat // k ≤ l.length ∧ Rnd (∀ i (hi : i < l.length), i < k → zeroB l[i] = true)}) [] (fun x => [(8, .c (.v (.int .i64 ((x.1 : Nat) : Int))))]) (fun x => [(0, some (.ro (l.map bytK))), (1, some (.box 32 [.v (.int .i64 n), .sl 0 1 0 l.length]))]) 2 (fun x => l.length - x.1) ⟨0, by omega, ⟨fun i hi h => by omega⟩⟩ ?_
  simp only [KPB, seval]
  refine ⟨?_, ?_⟩
  · (refine wk_a ?_; simp only [MAB, seval]; refine ⟨rfl, rfl, (by decide), ?_, ?_⟩; all_goals (first | (simp only [WKB, seval, true_and]; done) | (simp [WKB, seval, true_and]; done) | simp only [WKB, seval]))
  · rintro ⟨k, hk, hi⟩ K hR hE hT
    (have gx := And.intro (@List.length_map.{0,0}) (And.intro @List.getElem_map.{0,0} @bytK.eq_1); refine go ?_; (repeat' first | exact Ef.mk | apply Lf.mk | refine fun (K : KT) hK hE hT => ?_ | refine fun (KS : KE) hKS => ?_ | refine fun (D : KD) hD => ?_ | refine fun (hg : (_ : Prop)) => ?_ | fail); all_goals (first | (refine Wr.mk ?_; (try clear gx); repeat first | clear hK hE hT K | clear hR hE hT K) | assumption | skip))
    · have e : zeroB (l[k]'(by omega)) = false := by unfold zeroB; rw [decide_eq_false_iff_not]; omega
      (refine post_a hres (.inl rfl) ?_; simp only [RSB, ENB, seval, tiAll, emptyL, all_no (p := zeroB) (by omega) e]; simp only [MAB, seval]; refine ⟨rfl, rfl, ?_, ?_, ?_⟩ <;> (first | rfl | (simp [WKB, Nat.add_comm, emptyL, all_no (p := zeroB) (by omega) e]; done) | (simp only [WKB, seval])))
    · have e : zeroB (l[k]'(by omega)) = true := by unfold zeroB; rw [decide_eq_true_eq]; omega
      (refine hR.out ⟨k + 1, by omega, ⟨all_more hi.out (by omega) e⟩⟩ _ _ _ (by simp only; omega) ?_; (refine wk_a ?_; simp only [MAB, seval]; refine ⟨rfl, rfl, (by decide), ?_, ?_⟩; all_goals (first | (simp only [WKB, seval, true_and]; done) | (simp [WKB, seval, true_and]; done) | simp only [WKB, seval])))
    · (refine post_a hres (.inl rfl) ?_; simp only [RSB, ENB, seval, tiAll, emptyL, all_yes (p := zeroB) (k := k) (by omega) hi.out]; simp only [MAB, seval]; refine ⟨rfl, rfl, ?_, ?_, ?_⟩ <;> (first | rfl | (simp [WKB, Nat.add_comm, emptyL, all_yes (p := zeroB) (k := k) (by omega) hi.out]; done) | (simp only [WKB, seval])))

/-- Is the run valid? -/
def runOk (g : GraphD) (r : RunD) : Bool :=
  graphOk g && jobOk g.N r.Job && decide (0 ≤ r.Iter ∧ r.Iter ≤ 1000 ∧ (r.Vals.length : Int) = g.N ∧ r.EVals.length = g.Edges.length) && r.Vals.all valOk && r.EVals.all valOk &&
    setOk r.Next.N r.Next.Bits && (r.Next.N == g.N) && (r.Done == emptyL r.Next.Bits)


set_option maxHeartbeats 8000000 in
theorem implRunOk_k (g : GraphD) (r : RunD) (hg : g.Edges.length ≤ 1048576) (hr : (r.Vals).length ≤ 1048576 ∧ (r.EVals).length ≤ 1048576 ∧ (r.Next.Bits).length ≤ 1048576) : FnOK Tryz.prog 27 ⟨4, [(0, some (.ro ((g.Edges).map EdgeD.k))), (1, some (.ro ((r.Vals).map intK))), (2, some (.ro ((r.EVals).map intK))), (3, some (.ro ((r.Next.Bits).map bytK)))], [.agg [.v (.int .i64 g.N), .sl 0 3 0 (g.Edges).length], .agg [.v (.int .i64 r.Job.Prog), .v (.int .i64 r.Job.Src), .v (.int .i64 r.Iter), .v (.bool r.Done), .sl 1 1 0 (r.Vals).length, .sl 2 1 0 (r.EVals).length, .v (.int .i64 r.Next.N), .sl 3 1 0 (r.Next.Bits).length]], .c (.v (.bool (runOk g r))), [], 4⟩ := by
  obtain ⟨h0, h1, h2⟩ := hr
  have c1 := implGraphOk_k g (by omega)
  have c2 := implJobOk_k g.N r.Job
  have c3 := areValues_k r.Vals (by omega)
  have c4 := areValues_k r.EVals (by omega)
  have c5 := implSetOk_k r.Next.N r.Next.Bits h2
  obtain ⟨v1, e1⟩ : ∃ v, v = graphOk g := ⟨_, rfl⟩
  obtain ⟨v2, e2⟩ : ∃ v, v = jobOk g.N r.Job := ⟨_, rfl⟩
  obtain ⟨v3, e3⟩ : ∃ v, v = r.Vals.all valOk := ⟨_, rfl⟩
  obtain ⟨v4, e4⟩ : ∃ v, v = r.EVals.all valOk := ⟨_, rfl⟩
  obtain ⟨v5, e5⟩ : ∃ v, v = setOk r.Next.N r.Next.Bits := ⟨_, rfl⟩
  obtain ⟨v6, e6⟩ : ∃ v, v = emptyL r.Next.Bits := ⟨_, rfl⟩
  obtain ⟨v7, e70⟩ : ∃ v, v = decide (0 ≤ r.Iter ∧ r.Iter ≤ 1000 ∧ (r.Vals.length : Int) = g.N ∧ r.EVals.length = g.Edges.length) := ⟨_, rfl⟩
  unfold runOk
  rw [← e1] at c1
  rw [← e2] at c2
  rw [← e3] at c3
  rw [← e4] at c4
  rw [← e5] at c5
  rw [← e1, ← e2, ← e3, ← e4, ← e5, ← e6, ← e70]
  have c6 := implisEmpty_k r.Next.N r.Next.Bits h2
  rw [← e6] at c6
  refine fnOK_of true mixed Tryz.func27 rfl (by rfl) (by rfl) ?_
  have hres := congrArg Array.toList Tryz.results27
  simp only [Tryz.ntmps27, BGB, seval]
  (have gx := And.intro (@List.length_map.{0,0}) (And.intro (@List.getElem_map.{0,0}) (And.intro @bytK.eq_1 @List.length_map.{0,0})); have q1 := c1; have q2 := c2; have q3 := c3; have q4 := c4; have q5 := c5; have q6 := c6; refine go ?_; (repeat' first | exact Ef.mk | apply Lf.mk | refine fun (K : KT) hK hE hT => ?_ | refine fun (KS : KE) hKS => ?_ | refine fun (D : KD) hD => ?_ | refine fun (hg : (_ : Prop)) => ?_ | fail); all_goals (first | (refine Wr.mk ?_; (try clear gx q1 q2 q3 q4 q5 q6); repeat first | clear hK hE hT K | clear hR hE hT K) | assumption | skip))
  all_goals (refine post_a hres (.inl rfl) ?_; simp only [RSB, ENB, seval, tiAll, true_and]; simp only [MAB, seval]; refine ⟨rfl, rfl, ?_, ?_, ?_⟩ <;> (first | rfl | (simp [WKB, Nat.add_comm, true_and]; done) | (simp only [WKB, seval])))
  all_goals (refine congrArg (fun b => SV.c (CV.v (Value.bool b))) ?_; clear c1 c2 c3 c4 c5 c6 e1 e2 e3 e4 e5 e6 hres)
  all_goals try rw [e7 (by assumption)]
  all_goals try clear e7
  all_goals first
    | (simp only [Bool.true_and, Bool.and_true, Bool.false_and, Bool.and_false, *]; done)
    | (have e9 : v7 = true := by rw [e70, decide_eq_true_eq]; omega
       clear e70
       simp [*]; done)
    | (have e9 : v7 = false := by rw [e70, decide_eq_false_iff_not]; omega
       clear e70
       simp [*]; done)

end Go.Proofs.YtfnhchcgieeedaaGreat

namespace Go.Proofs.YtfnhchcgieeedaaGreat
set_option linter.unusedSimpArgs false
set_option linter.unusedVariables false
set_option linter.defProp false
open Go.RowKit

theorem copyInts_k (l : List Int) (h : l.length ≤ 1048576) : FnOK Tryz.prog 30 ⟨1, [(0, some (.ro (l.map intK)))], [.c (.sl 0 1 0 l.length)], .c (.sl 1 1 0 l.length), [(1, some (.row 3 (l.map intK)))], 2⟩ := by
  refine fnOK_of true mixed Tryz.func30 rfl (by rfl) (by rfl) ?_
  have hres := congrArg Array.toList Tryz.results30
  simp only [Tryz.ntmps30, BGB, seval]
  (have gx := And.intro @List.length_map.{0,0} @map_take; refine go ?_; (repeat' first | exact Ef.mk | apply Lf.mk | refine fun (K : KT) hK hE hT => ?_ | refine fun (KS : KE) hKS => ?_ | refine fun (D : KD) hD => ?_ | refine fun (hg : (_ : Prop)) => ?_ | fail); all_goals (first | (refine Wr.mk ?_; (try clear gx); repeat first | clear hK hE hT K | clear hR hE hT K) | assumption | skip))
  (refine post_a hres (.inl rfl) ?_; simp only [RSB, ENB, seval, tiAll, true_and]; simp only [MAB, seval]; refine ⟨rfl, rfl, ?_, ?_, ?_⟩ <;> (first | rfl | (simp [WKB, Nat.add_comm, true_and]; done) | (simp only [WKB, seval])))

theorem copyBytes_k (l : List UInt8) (h : l.length ≤ 1048576) : FnOK Tryz.prog 55 ⟨1, [(0, some (.ro (l.map bytK)))], [.c (.sl 0 1 0 l.length)], .c (.sl 1 1 0 l.length), [(1, some (.row 5 (l.map bytK)))], 2⟩ := by
  refine fnOK_of true mixed Tryz.func55 rfl (by rfl) (by rfl) ?_
  have hres := congrArg Array.toList Tryz.results55
  simp only [Tryz.ntmps55, BGB, seval]
  (have gx := And.intro @List.length_map.{0,0} @map_take; refine go ?_; (repeat' first | exact Ef.mk | apply Lf.mk | refine fun (K : KT) hK hE hT => ?_ | refine fun (KS : KE) hKS => ?_ | refine fun (D : KD) hD => ?_ | refine fun (hg : (_ : Prop)) => ?_ | fail); all_goals (first | (refine Wr.mk ?_; (try clear gx); repeat first | clear hK hE hT K | clear hR hE hT K) | assumption | skip))
  (refine post_a hres (.inl rfl) ?_; simp only [RSB, ENB, seval, tiAll, true_and]; simp only [MAB, seval]; refine ⟨rfl, rfl, ?_, ?_, ?_⟩ <;> (first | rfl | (simp [WKB, Nat.add_comm, true_and]; done) | (simp only [WKB, seval])))

theorem copySet_k (x : SetD) (h : (x.Bits).length ≤ 1048576) : FnOK Tryz.prog 31 ⟨1, [(0, some (.ro ((x.Bits).map bytK)))], [.agg [.v (.int .i64 x.N), .sl 0 1 0 (x.Bits).length]], .agg [.v (.int .i64 x.N), .sl 1 1 0 (x.Bits).length], [(1, some (.row 5 ((x.Bits).map bytK)))], 2⟩ := by
  refine fnOK_of true mixed Tryz.func31 rfl (by rfl) (by rfl) ?_
  have hres := congrArg Array.toList Tryz.results31
  simp only [Tryz.ntmps31, BGB, seval]
  (have gx := @List.length_map.{0,0}; have q1 := copyBytes_k x.Bits h; refine go ?_; (repeat' first | exact Ef.mk | apply Lf.mk | refine fun (K : KT) hK hE hT => ?_ | refine fun (KS : KE) hKS => ?_ | refine fun (D : KD) hD => ?_ | refine fun (hg : (_ : Prop)) => ?_ | fail); all_goals (first | (refine Wr.mk ?_; (try clear gx q1); repeat first | clear hK hE hT K | clear hR hE hT K) | assumption | skip))
  (refine post_a hres (.inl rfl) ?_; simp only [RSB, ENB, seval, tiAll, true_and]; simp only [MAB, seval]; refine ⟨rfl, rfl, ?_, ?_, ?_⟩ <;> (first | rfl | (simp [WKB, Nat.add_comm, true_and]; done) | (simp only [WKB, seval])))

end Go.Proofs.YtfnhchcgieeedaaGreat

namespace Go.Proofs.YtfnhchcgieeedaaGreat
set_option linter.unusedSimpArgs false
set_option linter.unusedVariables false
set_option linter.defProp false
open Go.RowKit

theorem shl_bitW (v : Nat) : (1 : Int) * 2 ^ (min ((v : Int) % 8).toNat IntKind.u8.bits) = bitW v := by
  have h1 : ((v : Int) % 8).toNat = v % 8 := by omega
  have h2 : min (v % 8) IntKind.u8.bits = v % 8 := Nat.min_eq_left (by have : IntKind.u8.bits = 8 := rfl; omega)
  rw [h1, h2]
  unfold bitW
  push_cast
  omega

theorem or_bitW (x : UInt8) (v : Nat) : bits BinOp.or IntKind.u8 (x.toNat : Int) (bitW v) = ((UInt8.ofNat (x.toNat ||| 2 ^ (v % 8))).toNat : Int) := by
  have := or_val x (v % 8) (by omega)
  rw [pow_int _ (by omega)] at this
  exact this

theorem setBit_row (l : List UInt8) (v : Nat) (hv : v / 8 < l.length) : (l.map bytK).set (v / 8) [DC.v (.int .u8 ((UInt8.ofNat (l[v / 8].toNat ||| 2 ^ (v % 8))).toNat : Int))] = (setBit l v).map bytK := by
  unfold setBit
  rw [List.map_set]
  simp [bytK, List.getD, hv]

def addL (n : Int) (l : List UInt8) (v : Int) : List UInt8 := if 0 ≤ v ∧ v < n then setBit l v.toNat else l
theorem addL_in {n : Int} {l : List UInt8} {v : Nat} (h : (v : Int) < n) : addL n l (v : Int) = setBit l v := by
  unfold addL; rw [if_pos ⟨by omega, h⟩]; simp
theorem addL_out {n : Int} {l : List UInt8} {v : Int} (h : ¬ (0 ≤ v ∧ v < n)) : addL n l v = l := by
  unfold addL; rw [if_neg h]
theorem withL_add {n : Int} {l : List UInt8} (v : Int) (h : setOk n l = true) : withL n l v = addL n l v ∧ turnN n l = n := by
  unfold withL turnN addL; rw [if_pos h, if_pos h]; exact ⟨rfl, rfl⟩

set_option maxHeartbeats 2000000 in
theorem add_k (n : Int) (l : List UInt8) (v : Int) (hl : n ≤ 8 * l.length) (hb : l.length ≤ 1048576) :
    FnOK Tryz.prog 88 ⟨2, [(0, some (.box 32 [.v (.int .i64 n), .sl 1 1 0 l.length])), (1, some (.row 5 (l.map bytK)))], [.c (.ptr 0 0 0), .c (.v (.int .i64 v))], .tup [],
      [(0, some (.box 32 [.v (.int .i64 n), .sl 1 1 0 l.length])), (1, some (.row 5 ((addL n l v).map bytK)))], 2⟩ := by
  by_cases hv : 0 ≤ v ∧ v < n
  · obtain ⟨k, rfl⟩ := Int.eq_ofNat_of_zero_le hv.1
    have hk : k / 8 < l.length := by omega
    have q2 : ((k : Int) / 8).toNat = k / 8 := by omega
    have q3 := setBit_row l k hk
    have q4 := or_bitW (l[k / 8]) k
    obtain ⟨hw1, hw2⟩ := bitW_le k
    have q5 := shl_bitW k
    rw [addL_in hv.2]
    refine fnOK_of true mixed Tryz.func88 rfl (by rfl) (by rfl) ?_
    have hres := congrArg Array.toList Tryz.results88
    simp only [Tryz.ntmps88, BGB, seval]
    (have gx := And.intro (@List.length_map.{0,0}) (And.intro (@List.getElem_map.{0,0}) (And.intro (@bytK.eq_1) (And.intro (@q2) (And.intro (@q5) (And.intro @q4 @q3))))); refine go ?_; (repeat' first | exact Ef.mk | apply Lf.mk | refine fun (K : KT) hK hE hT => ?_ | refine fun (KS : KE) hKS => ?_ | refine fun (D : KD) hD => ?_ | refine fun (hg : (_ : Prop)) => ?_ | fail); all_goals (first | (refine Wr.mk ?_; (try clear gx); repeat first | clear hK hE hT K | clear hR hE hT K) | assumption | skip))
    (refine post_a hres (by first | exact .inl rfl | exact .inr rfl) ?_; simp only [RSB, ENB, seval, tiAll, q3]; simp only [MAB, seval]; refine ⟨rfl, rfl, ?_, ?_, ?_⟩ <;> (first | rfl | (simp [WKB, Nat.add_comm, q3]; done) | (simp only [WKB, seval])))
  · rw [addL_out hv]
    refine fnOK_of true mixed Tryz.func88 rfl (by rfl) (by rfl) ?_
    have hres := congrArg Array.toList Tryz.results88
    simp only [Tryz.ntmps88, BGB, seval]
    (have gx := And.intro (@List.length_map.{0,0}) (And.intro @List.getElem_map.{0,0} @bytK.eq_1); refine go ?_; (repeat' first | exact Ef.mk | apply Lf.mk | refine fun (K : KT) hK hE hT => ?_ | refine fun (KS : KE) hKS => ?_ | refine fun (D : KD) hD => ?_ | refine fun (hg : (_ : Prop)) => ?_ | fail); all_goals (first | (refine Wr.mk ?_; (try clear gx); repeat first | clear hK hE hT K | clear hR hE hT K) | assumption | skip))
    all_goals (refine post_a hres (by first | exact .inl rfl | exact .inr rfl) ?_; simp only [RSB, ENB, seval, tiAll, true_and]; simp only [MAB, seval]; refine ⟨rfl, rfl, ?_, ?_, ?_⟩ <;> (first | rfl | (simp [WKB, Nat.add_comm, true_and]; done) | (simp only [WKB, seval])))

theorem bitW_in (k : Nat) : 1 ≤ bitW k ∧ bitW k ≤ 128 := bitW_le k

/-! New sets. -/

theorem fullTo_map (n : Nat) : (fullTo n 0).map bytK = List.replicate ((n + 7) / 8) [DC.v (.int .u8 0)] := by
  simp [fullTo, bytK]

set_option maxHeartbeats 2000000 in
theorem emptySet_k (n : Nat) (hn : n ≤ 150) : FnOK Tryz.prog 41 ⟨0, [], [.c (.v (.int .i64 (n : Int)))], .agg [.v (.int .i64 (n : Int)), .sl 0 1 0 ((n + 7) / 8)], [(0, some (.row 5 ((fullTo n 0).map bytK)))], 1⟩ := by
  have e : (((n : Int) + 7) / 8).toNat = (n + 7) / 8 := by omega
  refine fnOK_of true mixed Tryz.func41 rfl (by rfl) (by rfl) ?_
  have hres := congrArg Array.toList Tryz.results41
  simp only [Tryz.ntmps41, BGB, seval]
  (have gx := @e; refine go ?_; (repeat' first | exact Ef.mk | apply Lf.mk | refine fun (K : KT) hK hE hT => ?_ | refine fun (KS : KE) hKS => ?_ | refine fun (D : KD) hD => ?_ | refine fun (hg : (_ : Prop)) => ?_ | fail); all_goals (first | (refine Wr.mk ?_; (try clear gx); repeat first | clear hK hE hT K | clear hR hE hT K) | assumption | skip))
  (refine post_a hres (.inl rfl) ?_; simp only [RSB, ENB, seval, tiAll, fullTo_map]; simp only [MAB, seval]; refine ⟨rfl, rfl, ?_, ?_, ?_⟩ <;> (first | rfl | (simp [WKB, Nat.add_comm, fullTo_map]; done) | (simp only [WKB, seval])))

theorem newL_out {n : Int} (h : ¬ (0 ≤ n ∧ n ≤ 150)) (b : Bool) : newN n = 0 ∧ newL n b = [] ∧ newOk n = false := new_out h b

theorem fullTo_step (n k : Nat) (hn : n ≤ 150) (hk : k < n) : setBit (fullTo n k) k = fullTo n (k + 1) := by
  obtain ⟨h1, _⟩ := withL_full n k hn hk
  have ho := fullTo_ok n k hn (by omega)
  rw [(withL_add _ ho).1, addL_in (by omega)] at h1
  exact h1


set_option maxHeartbeats 4000000 in
theorem implSetNew_k (n : Int) (b : Bool) : FnOK Tryz.prog 22 ⟨0, [], [.c (.v (.int .i64 n)), .c (.v (.bool b))], .tup [.inr [.v (.int .i64 (newN n)), .sl 0 1 0 (newL n b).length], .inl (.v (.bool (newOk n)))], [(0, some (.row 5 ((newL n b).map bytK)))], 1⟩ := by
  by_cases hn : 0 ≤ n ∧ n ≤ 150
  · obtain ⟨m, rfl⟩ := Int.eq_ofNat_of_zero_le hn.1
    have hm : m ≤ 150 := by omega
    have e0 : (((m : Int) + 7) / 8).toNat = (m + 7) / 8 := by omega
    obtain ⟨e1, e2⟩ := newN_in hm
    rw [newL_in hm b, e1, e2]
    refine fnOK_of true mixed Tryz.func22 rfl (by rfl) (by rfl) ?_
    have hres := congrArg Array.toList Tryz.results22
    simp only [Tryz.ntmps22, BGB, seval]
    (have gx := @e0; have q1 := emptySet_k m hm; refine go ?_; (repeat' first | exact Ef.mk | apply Lf.mk | refine fun (K : KT) hK hE hT => ?_ | refine fun (KS : KE) hKS => ?_ | refine fun (D : KD) hD => ?_ | refine fun (hg : (_ : Prop)) => ?_ | fail); all_goals (first | (refine Wr.mk ?_; (try clear gx q1); repeat first | clear hK hE hT K | clear hR hE hT K) | assumption | skip))
    refine loop_v (X := {k : Nat // k ≤ m ∧ (b = false → k = 0)}) [] (fun x => [(7, .c (.v (.int .i64 ((x.1 : Nat) : Int))))]) (fun x => [(0, some (.box 32 [.v (.int .i64 0), .nil])), (1, some (.row 5 ((fullTo m x.1).map bytK))), (2, some (.box 32 [.v (.int .i64 (m : Int)), .sl 1 1 0 ((m + 7) / 8)]))]) 3 (fun x => m - x.1) ⟨0, by omega, fun _ => rfl⟩ ?_
    simp only [KPB, seval]
    refine ⟨?_, ?_⟩
    · (refine wk_a ?_; simp only [MAB, seval]; refine ⟨rfl, rfl, (by decide), ?_, ?_⟩; all_goals (first | (simp only [WKB, seval, fullTo_map]; done) | (simp [WKB, seval, fullTo_map]; done) | simp only [WKB, seval]))
    · rintro ⟨k, hk, hkb⟩ K hR hE hT
      have hlen := fullTo_len m k
      rcases Nat.lt_or_ge k m with hlt | hge
      case inr =>
        obtain rfl : k = m := by omega
        cases b with
        | false =>
          (have gx := true_and True; refine go ?_; (repeat' first | exact Ef.mk | apply Lf.mk | refine fun (K : KT) hK hE hT => ?_ | refine fun (KS : KE) hKS => ?_ | refine fun (D : KD) hD => ?_ | refine fun (hg : (_ : Prop)) => ?_ | fail); all_goals (first | (refine Wr.mk ?_; (try clear gx); repeat first | clear hK hE hT K | clear hR hE hT K) | assumption | skip))
          have := hkb rfl
          subst this
          (refine post_a hres (.inl rfl) ?_; simp only [RSB, ENB, seval, tiAll, hlen]; simp only [MAB, seval]; refine ⟨rfl, rfl, ?_, ?_, ?_⟩ <;> (first | rfl | (simp [WKB, Nat.add_comm, hlen]; done) | (simp only [WKB, seval])))
        | true =>
          (have gx := true_and True; refine go ?_; (repeat' first | exact Ef.mk | apply Lf.mk | refine fun (K : KT) hK hE hT => ?_ | refine fun (KS : KE) hKS => ?_ | refine fun (D : KD) hD => ?_ | refine fun (hg : (_ : Prop)) => ?_ | fail); all_goals (first | (refine Wr.mk ?_; (try clear gx); repeat first | clear hK hE hT K | clear hR hE hT K) | assumption | skip))
          (refine post_a hres (.inl rfl) ?_; simp only [RSB, ENB, seval, tiAll, hlen]; simp only [MAB, seval]; refine ⟨rfl, rfl, ?_, ?_, ?_⟩ <;> (first | rfl | (simp [WKB, Nat.add_comm, hlen]; done) | (simp only [WKB, seval])))
      case inl =>
        cases b with
        | false =>
          have := hkb rfl
          subst this
          (have gx := true_and True; refine go ?_; (repeat' first | exact Ef.mk | apply Lf.mk | refine fun (K : KT) hK hE hT => ?_ | refine fun (KS : KE) hKS => ?_ | refine fun (D : KD) hD => ?_ | refine fun (hg : (_ : Prop)) => ?_ | fail); all_goals (first | (refine Wr.mk ?_; (try clear gx); repeat first | clear hK hE hT K | clear hR hE hT K) | assumption | skip))
          (refine post_a hres (.inl rfl) ?_; simp only [RSB, ENB, seval, tiAll, hlen]; simp only [MAB, seval]; refine ⟨rfl, rfl, ?_, ?_, ?_⟩ <;> (first | rfl | (simp [WKB, Nat.add_comm, hlen]; done) | (simp only [WKB, seval])))
        | true =>
          have hk8 : k / 8 < (fullTo m k).length := by rw [hlen]; omega
          have q2 : ((k : Int) / 8).toNat = k / 8 := by omega
          have e := fullTo_step m k hm hlt
          have q3 := (setBit_row (fullTo m k) k hk8).trans (by rw [e])
          have q4 := or_bitW ((fullTo m k)[k / 8]) k
          obtain ⟨hw1, hw2⟩ := bitW_in k
          have q5 := shl_bitW k
          (have gx := And.intro (@List.length_map.{0,0}) (And.intro (@List.getElem_map.{0,0}) (And.intro (@bytK.eq_1) (And.intro (@hlen) (And.intro (@q2) (And.intro @q5 @q4))))); refine go ?_; (repeat' first | exact Ef.mk | apply Lf.mk | refine fun (K : KT) hK hE hT => ?_ | refine fun (KS : KE) hKS => ?_ | refine fun (D : KD) hD => ?_ | refine fun (hg : (_ : Prop)) => ?_ | fail); all_goals (first | (refine Wr.mk ?_; (try clear gx); repeat first | clear hK hE hT K | clear hR hE hT K) | assumption | skip))
          (refine hR.out ⟨k + 1, by omega, fun h => (by cases h)⟩ _ _ _ (by simp only; omega) ?_; (refine wk_a ?_; simp only [MAB, seval]; refine ⟨rfl, rfl, (by decide), ?_, ?_⟩; all_goals (first | (simp only [WKB, seval, q3, e]; done) | (simp [WKB, seval, q3, e]; done) | simp only [WKB, seval])))
  · obtain ⟨e1, e2, e3⟩ := newL_out hn b
    rw [e1, e2, e3]
    refine fnOK_of true mixed Tryz.func22 rfl (by rfl) (by rfl) ?_
    have hres := congrArg Array.toList Tryz.results22
    simp only [Tryz.ntmps22, BGB, seval]
    (have gx := true_and True; refine go ?_; (repeat' first | exact Ef.mk | apply Lf.mk | refine fun (K : KT) hK hE hT => ?_ | refine fun (KS : KE) hKS => ?_ | refine fun (D : KD) hD => ?_ | refine fun (hg : (_ : Prop)) => ?_ | fail); all_goals (first | (refine Wr.mk ?_; (try clear gx); repeat first | clear hK hE hT K | clear hR hE hT K) | assumption | skip))
    all_goals (refine post_a hres (.inl rfl) ?_; simp only [RSB, ENB, seval, tiAll, true_and]; simp only [MAB, seval]; refine ⟨rfl, rfl, ?_, ?_, ?_⟩ <;> (first | rfl | (simp [WKB, Nat.add_comm, true_and]; done) | (simp only [WKB, seval])))

end Go.Proofs.YtfnhchcgieeedaaGreat

