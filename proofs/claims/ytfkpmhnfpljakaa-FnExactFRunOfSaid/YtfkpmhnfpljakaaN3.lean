/-
  Shards: what is valid, plain and on both sides. No conditions of its own.
-/
import Derived.Test.YtfkpmhnfpljakaaGO
import Derived.Test.YtfkpmhnfpljakaaN2
namespace Go.Proofs.Ytfkpmhnfpljakaa
set_option linter.unusedSimpArgs false
set_option linter.unusedVariables false
set_option linter.unusedSimpArgs false
set_option linter.unusedVariables false
set_option linter.defProp false
set_option maxRecDepth 20000
open Go.RowKit

def edOk (s : ShardD) (e : SEdgeD) : Prop := 0 ≤ e.From ∧ e.From < 150 ∧ s.Lo ≤ e.To ∧ e.To < s.Hi ∧ 0 ≤ e.W ∧ e.W ≤ 1000 ∧ 0 ≤ e.Index ∧ e.Index < 400 ∧ 0 ≤ e.Val ∧ e.Val ≤ 281474976710655
def ordOk (p e : SEdgeD) : Prop := p.From < e.From ∨ p.From = e.From ∧ p.Index < e.Index
def prevOk (l : List SEdgeD) (k : Nat) (h : k < l.length) : Prop := ∀ h0 : 0 < k, ordOk (l[k - 1]'(by omega)) l[k]
def shTo (s : ShardD) (k : Nat) : Prop := ∀ i (h : i < s.Edges.length), i < k → edOk s s.Edges[i] ∧ prevOk s.Edges i h
theorem shTo_zero (s : ShardD) : shTo s 0 := fun i h hi => absurd hi (by omega)
theorem shTo_succ {s : ShardD} {k : Nat} (h : shTo s k) (hk : k < s.Edges.length) (h1 : edOk s s.Edges[k]) (h2 : prevOk s.Edges k hk) : shTo s (k + 1) := fun i hi hik => by
  by_cases e : i = k
  · subst e; exact ⟨h1, h2⟩
  · exact h i hi (by omega)
def shHead (s : ShardD) : Prop := 0 ≤ s.Lo ∧ s.Lo < s.Hi ∧ s.Hi ≤ 150 ∧ s.Edges.length ≤ 400
def ShOk (s : ShardD) : Prop := shHead s ∧ shTo s s.Edges.length

set_option maxHeartbeats 8000000 in
theorem implShardOk_k (s : ShardD) (h : (s.Edges).length ≤ 1048576) : FnOK Try.prog 156 ⟨1, [(0, some (.ro ((s.Edges).map SEdgeD.k)))], [.agg [.v (.int .i64 s.Lo), .v (.int .i64 s.Hi), .sl 0 5 0 (s.Edges).length]], .c (.v (.bool (pB (ShOk s)))), [], 1⟩ := by
  by_cases hh : shHead s
  case neg =>
    have e : pB (ShOk s) = false := pB_f fun h => hh h.1
    unfold shHead at hh
    rw [e]
    refine fnOK_of true mixed Try.func156 rfl (by rfl) (by rfl) ?_
    have hres := congrArg Array.toList Try.results156
    simp only [Try.ntmps156, BGB, seval]
    (have gx := @List.length_map.{0,0}; refine go ?_; (repeat' (first | exact Ef.mk | refine Lf.mk ?_ ?_ | refine fun (K : KT) hK hE hT => ?_ | refine fun (KS : Eff → Prop) hKS => ?_ | refine fun (D : List Keys → Prop) hD => ?_ | refine fun (hg : (_ : Prop)) => ?_ | fail)); all_goals (first | (refine Wr.mk ?_; (try clear gx); repeat (first | (clear hK hE hT; clear K) | (clear hR hE hT; clear K))) | assumption | skip))
    all_goals (refine post_a hres (.inl rfl) ?_; simp only [RSB, ENB, seval, tiAll, true_and]; simp only [MAB, seval]; refine ⟨rfl, rfl, ?_, ?_, ?_⟩ <;> (first | rfl | (simp [WKB, Nat.add_comm, true_and]; done) | (simp only [WKB, seval])))
  case pos =>
    have hh' := hh
    unfold shHead at hh'
    refine fnOK_of true mixed Try.func156 rfl (by rfl) (by rfl) ?_
    have hres := congrArg Array.toList Try.results156
    simp only [Try.ntmps156, BGB, seval]
    (have gx := @List.length_map.{0,0}; refine go ?_; (repeat' (first | exact Ef.mk | refine Lf.mk ?_ ?_ | refine fun (K : KT) hK hE hT => ?_ | refine fun (KS : Eff → Prop) hKS => ?_ | refine fun (D : List Keys → Prop) hD => ?_ | refine fun (hg : (_ : Prop)) => ?_ | fail)); all_goals (first | (refine Wr.mk ?_; (try clear gx); repeat (first | (clear hK hE hT; clear K) | (clear hR hE hT; clear K))) | assumption | skip))
    refine loop_v (X := {k : Nat // k ≤ s.Edges.length ∧ Rnd (shTo s k)}) [] (fun x => [(30, .c (.v (.int .i64 ((x.1 : Nat) : Int))))]) (fun x => [(0, some (.ro ((s.Edges).map SEdgeD.k))), (1, some (.box 107 [.v (.int .i64 s.Lo), .v (.int .i64 s.Hi), .sl 0 5 0 (s.Edges).length]))]) 2 (fun x => s.Edges.length - x.1) ⟨0, by omega, ⟨shTo_zero s⟩⟩ ?_
    simp only [KPB, seval]
    refine ⟨?_, ?_⟩
    · (refine wk_a ?_; simp only [MAB, seval]; refine ⟨rfl, rfl, (by decide), ?_, ?_⟩; all_goals (first | (simp only [WKB, seval, true_and, Nat.reduceLT, Nat.zero_lt_succ]; done) | (simp [WKB, seval, true_and]; done) | simp only [WKB, seval]))
    · rintro ⟨k, hk, hi⟩ K hR hE hT
      rcases Nat.lt_or_ge k s.Edges.length with hlt | hge
      case inr =>
        obtain rfl : k = s.Edges.length := by omega
        have e : pB (ShOk s) = true := pB_t ⟨hh, hi.out⟩
        (have gx := @List.length_map.{0,0}; refine go ?_; (repeat' (first | exact Ef.mk | refine Lf.mk ?_ ?_ | refine fun (K : KT) hK hE hT => ?_ | refine fun (KS : Eff → Prop) hKS => ?_ | refine fun (D : List Keys → Prop) hD => ?_ | refine fun (hg : (_ : Prop)) => ?_ | fail)); all_goals (first | (refine Wr.mk ?_; (try clear gx); repeat (first | (clear hK hE hT; clear K) | (clear hR hE hT; clear K))) | assumption | skip))
        (refine post_a hres (.inl rfl) ?_; simp only [RSB, ENB, seval, tiAll, e]; simp only [MAB, seval]; refine ⟨rfl, rfl, ?_, ?_, ?_⟩ <;> (first | rfl | (simp [WKB, Nat.add_comm, e]; done) | (simp only [WKB, seval])))
      case inl =>
        obtain ⟨y, hy⟩ : ∃ y, y = s.Edges[k] := ⟨_, rfl⟩
        have cn := isNumber_k y.Val
        by_cases he : edOk s y
        case neg =>
          have e : pB (ShOk s) = false := pB_f fun h => he (by rw [hy]; exact (h.2 k hlt hlt).1)
          by_cases hv : 0 ≤ y.Val ∧ y.Val ≤ 281474976710655
          · rw [decide_eq_true hv] at cn
            (have gx := And.intro (@List.length_map.{0,0}) (And.intro (@List.getElem_map.{0,0}) (And.intro (hy).symm @SEdgeD.k.eq_1)); have q1 := cn; refine go ?_; (repeat' (first | exact Ef.mk | refine Lf.mk ?_ ?_ | refine fun (K : KT) hK hE hT => ?_ | refine fun (KS : Eff → Prop) hKS => ?_ | refine fun (D : List Keys → Prop) hD => ?_ | refine fun (hg : (_ : Prop)) => ?_ | fail)); all_goals (first | (refine Wr.mk ?_; (try clear gx); (try clear q1); repeat (first | (clear hK hE hT; clear K) | (clear hR hE hT; clear K))) | assumption | skip))
            all_goals first
              | (exfalso; exact he (by unfold edOk; omega))
              | (refine post_a hres (.inl rfl) ?_; simp only [RSB, ENB, seval, tiAll, e]; simp only [MAB, seval]; refine ⟨rfl, rfl, ?_, ?_, ?_⟩ <;> (first | rfl | (simp [WKB, Nat.add_comm, e]; done) | (simp only [WKB, seval])))
          · rw [decide_eq_false hv] at cn
            (have gx := And.intro (@List.length_map.{0,0}) (And.intro (@List.getElem_map.{0,0}) (And.intro (hy).symm @SEdgeD.k.eq_1)); have q1 := cn; refine go ?_; (repeat' (first | exact Ef.mk | refine Lf.mk ?_ ?_ | refine fun (K : KT) hK hE hT => ?_ | refine fun (KS : Eff → Prop) hKS => ?_ | refine fun (D : List Keys → Prop) hD => ?_ | refine fun (hg : (_ : Prop)) => ?_ | fail)); all_goals (first | (refine Wr.mk ?_; (try clear gx); (try clear q1); repeat (first | (clear hK hE hT; clear K) | (clear hR hE hT; clear K))) | assumption | skip))
            all_goals (refine post_a hres (.inl rfl) ?_; simp only [RSB, ENB, seval, tiAll, e]; simp only [MAB, seval]; refine ⟨rfl, rfl, ?_, ?_, ?_⟩ <;> (first | rfl | (simp [WKB, Nat.add_comm, e]; done) | (simp only [WKB, seval])))
        case pos =>
          have he' := he
          unfold edOk at he'
          rw [decide_eq_true (by omega)] at cn
          rcases Nat.eq_zero_or_pos k with rfl | hp
          · have h2 : prevOk s.Edges 0 hlt := fun h0 => absurd h0 (by omega)
            (have gx := And.intro (@List.length_map.{0,0}) (And.intro (@List.getElem_map.{0,0}) (And.intro (hy).symm @SEdgeD.k.eq_1)); have q1 := cn; refine go ?_; (repeat' (first | exact Ef.mk | refine Lf.mk ?_ ?_ | refine fun (K : KT) hK hE hT => ?_ | refine fun (KS : Eff → Prop) hKS => ?_ | refine fun (D : List Keys → Prop) hD => ?_ | refine fun (hg : (_ : Prop)) => ?_ | fail)); all_goals (first | (refine Wr.mk ?_; (try clear gx); (try clear q1); repeat (first | (clear hK hE hT; clear K) | (clear hR hE hT; clear K))) | assumption | skip))
            (refine hR.out ⟨0 + 1, by omega, ⟨shTo_succ hi.out hlt (by rw [← hy]; exact he) h2⟩⟩ _ _ _ (by simp only; omega) ?_; (refine wk_a ?_; simp only [MAB, seval]; refine ⟨rfl, rfl, (by decide), ?_, ?_⟩; all_goals (first | (simp only [WKB, seval, true_and, Nat.reduceLT, Nat.zero_lt_succ]; done) | (simp [WKB, seval, true_and]; done) | simp only [WKB, seval])))
          · obtain ⟨j, rfl⟩ : ∃ j, k = j + 1 := ⟨k - 1, by omega⟩
            have ej : ((j + 1 : Nat) : Int) - 1 = (j : Int) := by omega
            obtain ⟨z, hz⟩ : ∃ z, z = s.Edges[j] := ⟨_, rfl⟩
            by_cases ho : ordOk z y
            · have h2 : prevOk s.Edges (j + 1) hlt := fun h0 => by rw [← hy]; show ordOk s.Edges[j] y; rw [← hz]; exact ho
              unfold ordOk at ho
              (have gx := And.intro (@List.length_map.{0,0}) (And.intro (@List.getElem_map.{0,0}) (And.intro ((hy).symm) (And.intro ((hz).symm) (And.intro @ej @SEdgeD.k.eq_1)))); have q1 := cn; refine go ?_; (repeat' (first | exact Ef.mk | refine Lf.mk ?_ ?_ | refine fun (K : KT) hK hE hT => ?_ | refine fun (KS : Eff → Prop) hKS => ?_ | refine fun (D : List Keys → Prop) hD => ?_ | refine fun (hg : (_ : Prop)) => ?_ | fail)); all_goals (first | (refine Wr.mk ?_; (try clear gx); (try clear q1); repeat (first | (clear hK hE hT; clear K) | (clear hR hE hT; clear K))) | assumption | skip))
              all_goals (refine hR.out ⟨j + 1 + 1, by omega, ⟨shTo_succ hi.out hlt (by rw [← hy]; exact he) h2⟩⟩ _ _ _ (by simp only; omega) ?_; (refine wk_a ?_; simp only [MAB, seval]; refine ⟨rfl, rfl, (by decide), ?_, ?_⟩; all_goals (first | (simp only [WKB, seval, true_and, Nat.reduceLT, Nat.zero_lt_succ]; done) | (simp [WKB, seval, true_and]; done) | simp only [WKB, seval])))
            · have e : pB (ShOk s) = false := pB_f fun h => ho (by rw [hy, hz]; exact (h.2 (j + 1) hlt hlt).2 (by omega))
              unfold ordOk at ho
              (have gx := And.intro (@List.length_map.{0,0}) (And.intro (@List.getElem_map.{0,0}) (And.intro ((hy).symm) (And.intro ((hz).symm) (And.intro @ej @SEdgeD.k.eq_1)))); have q1 := cn; refine go ?_; (repeat' (first | exact Ef.mk | refine Lf.mk ?_ ?_ | refine fun (K : KT) hK hE hT => ?_ | refine fun (KS : Eff → Prop) hKS => ?_ | refine fun (D : List Keys → Prop) hD => ?_ | refine fun (hg : (_ : Prop)) => ?_ | fail)); all_goals (first | (refine Wr.mk ?_; (try clear gx); (try clear q1); repeat (first | (clear hK hE hT; clear K) | (clear hR hE hT; clear K))) | assumption | skip))
              all_goals (refine post_a hres (.inl rfl) ?_; simp only [RSB, ENB, seval, tiAll, e]; simp only [MAB, seval]; refine ⟨rfl, rfl, ?_, ?_, ?_⟩ <;> (first | rfl | (simp [WKB, Nat.add_comm, e]; done) | (simp only [WKB, seval])))

end Go.Proofs.Ytfkpmhnfpljakaa
