/-
  The engine, texts N4 N7 N9 in one. No conditions of its own.
-/
import Derived.Test.YtfdhdkljpeohlaaGreatDoorGO
import Derived.Test.YtfdhdkljpeohlaaGreatDoorMNA
import Derived.Test.YtfdhdkljpeohlaaGreatDoorMNB
namespace Go.Proofs.YtfdhdkljpeohlaaGreatDoor
set_option linter.unusedSimpArgs false
set_option linter.unusedVariables false
set_option linter.unusedSimpArgs false
set_option linter.unusedVariables false
set_option linter.defProp false
set_option maxRecDepth 20000
open Go.RowKit
attribute [local irreducible] lexD

set_option maxHeartbeats 4000000 in
theorem l07Edge_k (s : ShardD) (n : Nat) (y : SEdgeD) (hn : n ≤ 1099511627776) : FnOK Tryz.prog 96 ⟨1, [(0, some (.ro (s.Edges.map SEdgeD.k)))], [.agg [.v (.int .i64 s.Lo), .v (.int .i64 s.Hi), .sl 0 5 0 (s.Edges).length], .agg y.s], .c (.v (.bool (pB (edOk s y)))), [], 1⟩ := by
  have cn := l01Num_k y.Val
  by_cases hv : 0 ≤ y.Val ∧ y.Val ≤ 281474976710655
  · rw [decide_eq_true hv] at cn
    by_cases he : edOk s y
    · rw [pB_t he]
      unfold edOk at he
      refine fnOK_of true mixed Tryz.func96 rfl (by rfl) (by rfl) ?_
      have hres := congrArg Array.toList Tryz.results96
      simp only [Tryz.ntmps96, BGB, seval]
      (have gx := @SEdgeD.s.eq_1; have q1 := cn; refine go ?_; (repeat' first | exact Ef.mk | apply Lf.mk | refine fun (K : KT) hK hE hT => ?_ | refine fun (KS : KE) hKS => ?_ | refine fun (D : KD) hD => ?_ | refine fun (hg : (_ : Prop)) => ?_ | fail); all_goals (first | (refine Wr.mk ?_; (try clear gx q1); repeat first | clear hK hE hT K | clear hR hE hT K) | assumption | skip))
      all_goals (refine post_a hres (.inl rfl) ?_; simp only [RSB, ENB, seval, tiAll, true_and]; simp only [MAB, seval]; refine ⟨rfl, rfl, ?_, ?_, ?_⟩ <;> (first | rfl | (simp [WKB, Nat.add_comm, true_and]; done) | (simp only [WKB, seval])))
    · rw [pB_f he]
      refine fnOK_of true mixed Tryz.func96 rfl (by rfl) (by rfl) ?_
      have hres := congrArg Array.toList Tryz.results96
      simp only [Tryz.ntmps96, BGB, seval]
      (have gx := @SEdgeD.s.eq_1; have q1 := cn; refine go ?_; (repeat' first | exact Ef.mk | apply Lf.mk | refine fun (K : KT) hK hE hT => ?_ | refine fun (KS : KE) hKS => ?_ | refine fun (D : KD) hD => ?_ | refine fun (hg : (_ : Prop)) => ?_ | fail); all_goals (first | (refine Wr.mk ?_; (try clear gx q1); repeat first | clear hK hE hT K | clear hR hE hT K) | assumption | skip))
      all_goals first
        | (exfalso; exact he (by unfold edOk; omega))
        | (refine post_a hres (.inl rfl) ?_; simp only [RSB, ENB, seval, tiAll, true_and]; simp only [MAB, seval]; refine ⟨rfl, rfl, ?_, ?_, ?_⟩ <;> (first | rfl | (simp [WKB, Nat.add_comm, true_and]; done) | (simp only [WKB, seval])))
  · have he : ¬ edOk s y := fun h => hv (by unfold edOk at h; omega)
    rw [decide_eq_false hv] at cn
    rw [pB_f he]
    refine fnOK_of true mixed Tryz.func96 rfl (by rfl) (by rfl) ?_
    have hres := congrArg Array.toList Tryz.results96
    simp only [Tryz.ntmps96, BGB, seval]
    (have gx := @SEdgeD.s.eq_1; have q1 := cn; refine go ?_; (repeat' first | exact Ef.mk | apply Lf.mk | refine fun (K : KT) hK hE hT => ?_ | refine fun (KS : KE) hKS => ?_ | refine fun (D : KD) hD => ?_ | refine fun (hg : (_ : Prop)) => ?_ | fail); all_goals (first | (refine Wr.mk ?_; (try clear gx q1); repeat first | clear hK hE hT K | clear hR hE hT K) | assumption | skip))
    all_goals (refine post_a hres (.inl rfl) ?_; simp only [RSB, ENB, seval, tiAll, true_and]; simp only [MAB, seval]; refine ⟨rfl, rfl, ?_, ?_, ?_⟩ <;> (first | rfl | (simp [WKB, Nat.add_comm, true_and]; done) | (simp only [WKB, seval])))

set_option maxHeartbeats 64000000 in
theorem specShardOk_k (s : ShardD) (h : (s.Edges).length ≤ 1048576) : FnOK Tryz.prog 74 ⟨1, [(0, some (.ro ((s.Edges).map SEdgeD.k)))], [.agg [.v (.int .i64 s.Lo), .v (.int .i64 s.Hi), .sl 0 5 0 (s.Edges).length]], .c (.v (.bool (pB (ShOk s)))), [], 1⟩ := by
  by_cases hh : shHead s
  case neg =>
    have e : pB (ShOk s) = false := pB_f fun h => hh h.1
    unfold shHead at hh
    rw [e]
    refine fnOK_of true mixed Tryz.func74 rfl (by rfl) (by rfl) ?_
    have hres := congrArg Array.toList Tryz.results74
    simp only [Tryz.ntmps74, BGB, seval]
    (have gx := @List.length_map.{0,0}; refine go ?_; (repeat' first | exact Ef.mk | apply Lf.mk | refine fun (K : KT) hK hE hT => ?_ | refine fun (KS : KE) hKS => ?_ | refine fun (D : KD) hD => ?_ | refine fun (hg : (_ : Prop)) => ?_ | fail); all_goals (first | (refine Wr.mk ?_; (try clear gx); repeat first | clear hK hE hT K | clear hR hE hT K) | assumption | skip))
    all_goals (refine post_a hres (.inl rfl) ?_; simp only [RSB, ENB, seval, tiAll, true_and]; simp only [MAB, seval]; refine ⟨rfl, rfl, ?_, ?_, ?_⟩ <;> (first | rfl | (simp [WKB, Nat.add_comm, true_and]; done) | (simp only [WKB, seval])))
  case pos =>
    have hh' := hh
    unfold shHead at hh'
    refine fnOK_of true mixed Tryz.func74 rfl (by rfl) (by rfl) ?_
    have hres := congrArg Array.toList Tryz.results74
    simp only [Tryz.ntmps74, BGB, seval]
    (have gx := @List.length_map.{0,0}; refine go ?_; (repeat' first | exact Ef.mk | apply Lf.mk | refine fun (K : KT) hK hE hT => ?_ | refine fun (KS : KE) hKS => ?_ | refine fun (D : KD) hD => ?_ | refine fun (hg : (_ : Prop)) => ?_ | fail); all_goals (first | (refine Wr.mk ?_; (try clear gx); repeat first | clear hK hE hT K | clear hR hE hT K) | assumption | skip))
    refine loop_v (X := {k : Nat // k ≤ s.Edges.length ∧ Rnd (shTo s k)}) [] (fun x => [(29, .c (.v (.int .i64 ((x.1 : Nat) : Int))))]) (fun x => [(0, some (.ro ((s.Edges).map SEdgeD.k))), (1, some (.box 39 [.v (.int .i64 s.Lo), .v (.int .i64 s.Hi), .sl 0 5 0 (s.Edges).length]))]) 2 (fun x => s.Edges.length - x.1) ⟨0, by omega, ⟨shTo_zero s⟩⟩ ?_
    simp only [KPB, seval]
    refine ⟨?_, ?_⟩
    · (refine wk_a ?_; simp only [MAB, seval]; refine ⟨rfl, rfl, (by decide), ?_, ?_⟩; all_goals (first | (simp only [WKB, seval, true_and]; done) | (simp [WKB, seval, true_and]; done) | simp only [WKB, seval]))
    · rintro ⟨k, hk, hi⟩ K hR hE hT
      rcases Nat.lt_or_ge k s.Edges.length with hlt | hge
      case inr =>
        obtain rfl : k = s.Edges.length := by omega
        have e : pB (ShOk s) = true := pB_t ⟨hh, hi.out⟩
        (have gx := @List.length_map.{0,0}; refine go ?_; (repeat' first | exact Ef.mk | apply Lf.mk | refine fun (K : KT) hK hE hT => ?_ | refine fun (KS : KE) hKS => ?_ | refine fun (D : KD) hD => ?_ | refine fun (hg : (_ : Prop)) => ?_ | fail); all_goals (first | (refine Wr.mk ?_; (try clear gx); repeat first | clear hK hE hT K | clear hR hE hT K) | assumption | skip))
        (refine post_a hres (.inl rfl) ?_; simp only [RSB, ENB, seval, tiAll, e]; simp only [MAB, seval]; refine ⟨rfl, rfl, ?_, ?_, ?_⟩ <;> (first | rfl | (simp [WKB, Nat.add_comm, e]; done) | (simp only [WKB, seval])))
      case inl =>
        obtain ⟨y, hy⟩ : ∃ y, y = s.Edges[k] := ⟨_, rfl⟩
        have cn := l07Edge_k s 0 y (by omega)
        by_cases he : edOk s y
        case neg =>
          have e : pB (ShOk s) = false := pB_f fun h => he (by rw [hy]; exact (h.2 k hlt hlt).1)
          rw [pB_f he] at cn
          simp only [SEdgeD.s] at cn
          (have gx := And.intro (@List.length_map.{0,0}) (And.intro (@List.getElem_map.{0,0}) (And.intro (hy).symm @SEdgeD.k.eq_1)); have q1 := cn; refine go ?_; (repeat' first | exact Ef.mk | apply Lf.mk | refine fun (K : KT) hK hE hT => ?_ | refine fun (KS : KE) hKS => ?_ | refine fun (D : KD) hD => ?_ | refine fun (hg : (_ : Prop)) => ?_ | fail); all_goals (first | (refine Wr.mk ?_; (try clear gx q1); repeat first | clear hK hE hT K | clear hR hE hT K) | assumption | skip))
          all_goals (refine post_a hres (.inl rfl) ?_; simp only [RSB, ENB, seval, tiAll, e]; simp only [MAB, seval]; refine ⟨rfl, rfl, ?_, ?_, ?_⟩ <;> (first | rfl | (simp [WKB, Nat.add_comm, e]; done) | (simp only [WKB, seval])))
        case pos =>
          rw [pB_t he] at cn
          simp only [SEdgeD.s] at cn
          rcases Nat.eq_zero_or_pos k with rfl | hp
          · have h2 : prevOk s.Edges 0 hlt := fun h0 => absurd h0 (by omega)
            (have gx := And.intro (@List.length_map.{0,0}) (And.intro (@List.getElem_map.{0,0}) (And.intro (hy).symm @SEdgeD.k.eq_1)); have q1 := cn; refine go ?_; (repeat' first | exact Ef.mk | apply Lf.mk | refine fun (K : KT) hK hE hT => ?_ | refine fun (KS : KE) hKS => ?_ | refine fun (D : KD) hD => ?_ | refine fun (hg : (_ : Prop)) => ?_ | fail); all_goals (first | (refine Wr.mk ?_; (try clear gx q1); repeat first | clear hK hE hT K | clear hR hE hT K) | assumption | skip))
            (refine hR.out ⟨0 + 1, by omega, ⟨shTo_succ hi.out hlt (by rw [← hy]; exact he) h2⟩⟩ _ _ _ (by simp only; omega) ?_; (refine wk_a ?_; simp only [MAB, seval]; refine ⟨rfl, rfl, (by decide), ?_, ?_⟩; all_goals (first | (simp only [WKB, seval, true_and]; done) | (simp [WKB, seval, true_and]; done) | simp only [WKB, seval])))
          · obtain ⟨j, rfl⟩ : ∃ j, k = j + 1 := ⟨k - 1, by omega⟩
            have ej : ((j + 1 : Nat) : Int) - 1 = (j : Int) := by omega
            obtain ⟨z, hz⟩ : ∃ z, z = s.Edges[j] := ⟨_, rfl⟩
            by_cases ho : ordOk z y
            · have h2 : prevOk s.Edges (j + 1) hlt := fun h0 => by rw [← hy]; show ordOk s.Edges[j] y; rw [← hz]; exact ho
              unfold ordOk at ho
              (have gx := And.intro (@List.length_map.{0,0}) (And.intro (@List.getElem_map.{0,0}) (And.intro ((hy).symm) (And.intro ((hz).symm) (And.intro @ej @SEdgeD.k.eq_1)))); have q1 := cn; refine go ?_; (repeat' first | exact Ef.mk | apply Lf.mk | refine fun (K : KT) hK hE hT => ?_ | refine fun (KS : KE) hKS => ?_ | refine fun (D : KD) hD => ?_ | refine fun (hg : (_ : Prop)) => ?_ | fail); all_goals (first | (refine Wr.mk ?_; (try clear gx q1); repeat first | clear hK hE hT K | clear hR hE hT K) | assumption | skip))
              all_goals (refine hR.out ⟨j + 1 + 1, by omega, ⟨shTo_succ hi.out hlt (by rw [← hy]; exact he) h2⟩⟩ _ _ _ (by simp only; omega) ?_; (refine wk_a ?_; simp only [MAB, seval]; refine ⟨rfl, rfl, (by decide), ?_, ?_⟩; all_goals (first | (simp only [WKB, seval, true_and]; done) | (simp [WKB, seval, true_and]; done) | simp only [WKB, seval])))
            · have e : pB (ShOk s) = false := pB_f fun h => ho (by rw [hy, hz]; exact (h.2 (j + 1) hlt hlt).2 (by omega))
              unfold ordOk at ho
              (have gx := And.intro (@List.length_map.{0,0}) (And.intro (@List.getElem_map.{0,0}) (And.intro ((hy).symm) (And.intro ((hz).symm) (And.intro @ej @SEdgeD.k.eq_1)))); have q1 := cn; refine go ?_; (repeat' first | exact Ef.mk | apply Lf.mk | refine fun (K : KT) hK hE hT => ?_ | refine fun (KS : KE) hKS => ?_ | refine fun (D : KD) hD => ?_ | refine fun (hg : (_ : Prop)) => ?_ | fail); all_goals (first | (refine Wr.mk ?_; (try clear gx q1); repeat first | clear hK hE hT K | clear hR hE hT K) | assumption | skip))
              all_goals (refine post_a hres (.inl rfl) ?_; simp only [RSB, ENB, seval, tiAll, e]; simp only [MAB, seval]; refine ⟨rfl, rfl, ?_, ?_, ?_⟩ <;> (first | rfl | (simp [WKB, Nat.add_comm, e]; done) | (simp only [WKB, seval])))

end Go.Proofs.YtfdhdkljpeohlaaGreatDoor

namespace Go.Proofs.YtfdhdkljpeohlaaGreatDoor
set_option linter.unusedSimpArgs false
set_option linter.unusedVariables false
set_option linter.defProp false
set_option maxRecDepth 20000
open Go.RowKit

set_option maxHeartbeats 16000000 in
theorem specJoinedY_k (n : Int) (l : List ShardD) (hl : l.length ≤ 1048576) (hs : ∀ s ∈ l, s.Edges.length ≤ 1048576) (hq : JoinOk n l) : FnOK Tryz.prog 39 ⟨1, [(0, some (.ro (l.map (ShardD.k 108))))], [.c (.v (.int .i64 n)), .c (.sl 0 3 0 l.length)], .tup [.inr [.v (.int .i64 n), .sl 1 3 0 (edSum l)], .inl (.v (.bool true))], [(1, some (.row 80 ((edgesL (edSum l) (allE l)).map EdgeD.k)))], 2⟩ := by
  refine fnOK_of true mixed Tryz.func39 rfl (by rfl) (by rfl) ?_
  have hres := congrArg Array.toList Tryz.results39
  simp only [Tryz.ntmps39, BGB, seval]
  (have gx := @List.length_map.{0,0}; refine go ?_; (repeat' first | exact Ef.mk | apply Lf.mk | refine fun (K : KT) hK hE hT => ?_ | refine fun (KS : KE) hKS => ?_ | refine fun (D : KD) hD => ?_ | refine fun (hg : (_ : Prop)) => ?_ | fail); all_goals (first | (refine Wr.mk ?_; (try clear gx); repeat first | clear hK hE hT K | clear hR hE hT K) | assumption | skip))
  all_goals first
    | (have hj : ¬ JoinOk n l := (jx1 (by omega)); first | exact absurd hq hj | (refine post_a hres (.inl rfl) ?_; simp only [RSB, ENB, seval, tiAll, true_and]; simp only [MAB, seval]; refine ⟨rfl, rfl, ?_, ?_, ?_⟩ <;> (first | rfl | (simp [WKB, Nat.add_comm, true_and]; done) | (simp only [WKB, seval]))) | fail)
    | skip
  all_goals (
  refine loop_v (X := {k : Nat // k ≤ l.length ∧ Rnd (jn1 l k)}) [] (fun x => [(18, .c (.v (.int .i64 ((x.1 : Nat) : Int)))), (7, .c (.v (.int .i64 (lastH l x.1)))), (6, .c (.v (.int .i64 ((edSum (l.take x.1) : Nat) : Int))))]) (fun x => [(0, some (.ro (l.map (ShardD.k 108)))), (1, some (.box 35 [.v (.int .i64 0), .nil]))]) 2 (fun x => l.length - x.1) ⟨0, by omega, ⟨jn1_zero l⟩⟩ ?_
  simp only [KPB, seval]
  refine ⟨?_, ?_⟩
  · (refine wk_a ?_; simp only [MAB, seval]; refine ⟨rfl, rfl, (by decide), ?_, ?_⟩; all_goals (first | (simp only [WKB, seval, lastH_zero, List.take_zero, edSum]; done) | (simp [WKB, seval, lastH_zero, List.take_zero, edSum]; done) | simp only [WKB, seval]))
  · rintro ⟨k, hk, hi⟩ K hR hE hT
    have hsum := jn1_sum hi.out hk
    rcases Nat.lt_or_ge k l.length with hlt | hge
    case inl =>
      have c := specShardOk_k l[k] (hs _ (List.getElem_mem hlt))
      by_cases hv : ShOk l[k]
      case neg =>
        rw [pB_f hv] at c
        (have gx := And.intro (@List.length_map.{0,0}) (And.intro @List.getElem_map.{0,0} @ShardD.k.eq_1); have q1 := c; refine go ?_; (repeat' first | exact Ef.mk | apply Lf.mk | refine fun (K : KT) hK hE hT => ?_ | refine fun (KS : KE) hKS => ?_ | refine fun (D : KD) hD => ?_ | refine fun (hg : (_ : Prop)) => ?_ | fail); all_goals (first | (refine Wr.mk ?_; (try clear gx q1); repeat first | clear hK hE hT K | clear hR hE hT K) | assumption | skip))
        all_goals (have hj : ¬ JoinOk n l := (fun h => hv (h.2.2.1 k hlt hlt).1); first | exact absurd hq hj | (refine post_a hres (.inl rfl) ?_; simp only [RSB, ENB, seval, tiAll, true_and]; simp only [MAB, seval]; refine ⟨rfl, rfl, ?_, ?_, ?_⟩ <;> (first | rfl | (simp [WKB, Nat.add_comm, true_and]; done) | (simp only [WKB, seval]))) | fail)
      case pos =>
        rw [pB_t hv] at c
        have hv4 := hv.1.2.2.2
        by_cases hlo : l[k].Lo = lastH l k
        case neg =>
          (have gx := And.intro (@List.length_map.{0,0}) (And.intro @List.getElem_map.{0,0} @ShardD.k.eq_1); have q1 := c; refine go ?_; (repeat' first | exact Ef.mk | apply Lf.mk | refine fun (K : KT) hK hE hT => ?_ | refine fun (KS : KE) hKS => ?_ | refine fun (D : KD) hD => ?_ | refine fun (hg : (_ : Prop)) => ?_ | fail); all_goals (first | (refine Wr.mk ?_; (try clear gx q1); repeat first | clear hK hE hT K | clear hR hE hT K) | assumption | skip))
          all_goals (have hj : ¬ JoinOk n l := (fun h => hlo (h.2.2.1 k hlt hlt).2); first | exact absurd hq hj | (refine post_a hres (.inl rfl) ?_; simp only [RSB, ENB, seval, tiAll, true_and]; simp only [MAB, seval]; refine ⟨rfl, rfl, ?_, ?_, ?_⟩ <;> (first | rfl | (simp [WKB, Nat.add_comm, true_and]; done) | (simp only [WKB, seval]))) | fail)
        case pos =>
          have e2 : ((edSum (l.take k) : Nat) : Int) + (l[k].Edges.length : Int) = ((edSum (l.take (k + 1)) : Nat) : Int) := by rw [edSum_snoc hlt]; omega
          (have gx := And.intro (@List.length_map.{0,0}) (And.intro @List.getElem_map.{0,0} @ShardD.k.eq_1); have q1 := c; refine go ?_; (repeat' first | exact Ef.mk | apply Lf.mk | refine fun (K : KT) hK hE hT => ?_ | refine fun (KS : KE) hKS => ?_ | refine fun (D : KD) hD => ?_ | refine fun (hg : (_ : Prop)) => ?_ | fail); all_goals (first | (refine Wr.mk ?_; (try clear gx q1); repeat first | clear hK hE hT K | clear hR hE hT K) | assumption | skip))
          (refine hR.out ⟨k + 1, by omega, ⟨jn1_succ hi.out hlt hv hlo⟩⟩ _ _ _ (by simp only; omega) ?_; (refine wk_a ?_; simp only [MAB, seval]; refine ⟨rfl, rfl, (by decide), ?_, ?_⟩; all_goals (first | (simp only [WKB, seval, lastH_succ hlt, e2]; done) | (simp [WKB, seval, lastH_succ hlt, e2]; done) | simp only [WKB, seval])))
    case inr =>
      obtain rfl : k = l.length := by omega
      rw [List.take_length] at *
      obtain ⟨m, hm⟩ : ∃ m, m = edSum l := ⟨_, rfl⟩
      rw [← hm]
      (have gx := @List.length_map.{0,0}; refine go ?_; (repeat' first | exact Ef.mk | apply Lf.mk | refine fun (K : KT) hK hE hT => ?_ | refine fun (KS : KE) hKS => ?_ | refine fun (D : KD) hD => ?_ | refine fun (hg : (_ : Prop)) => ?_ | fail); all_goals (first | (refine Wr.mk ?_; (try clear gx); repeat first | clear hK hE hT K | clear hR hE hT K) | assumption | skip))
      all_goals first
        | (have hj : ¬ JoinOk n l := (jx2 (by omega)); first | exact absurd hq hj | (refine post_a hres (.inl rfl) ?_; simp only [RSB, ENB, seval, tiAll, true_and]; simp only [MAB, seval]; refine ⟨rfl, rfl, ?_, ?_, ?_⟩ <;> (first | rfl | (simp [WKB, Nat.add_comm, true_and]; done) | (simp only [WKB, seval]))) | fail)
        | skip
      all_goals (
      refine loop_v (X := {p : Nat // p ≤ l.length ∧ Rnd (okL n m (allE (l.take p)))}) [] (fun x => [(64, .c (.v (.int .i64 ((x.1 : Nat) : Int))))]) (fun x => [(0, some (.ro (l.map (ShardD.k 108)))), (1, some (.box 35 [.v (.int .i64 0), .nil])), (2, some (.row 80 ((edgesL m (allE (l.take x.1))).map EdgeD.k))), (3, some (.box 35 [.v (.int .i64 n), .sl 2 3 0 m])), (4, some (.row 4 ((seenL m (allE (l.take x.1))).map booK)))]) 5 (fun x => l.length - x.1) ⟨0, by omega, ⟨okL_nil n m⟩⟩ ?_
      simp only [KPB, seval]
      refine ⟨?_, ?_⟩
      · (refine wk_a ?_; simp only [MAB, seval]; refine ⟨rfl, rfl, (by decide), ?_, ?_⟩; all_goals (first | (simp only [WKB, seval, List.take_zero, allE, List.flatMap_nil, edgesL, seenL, List.foldl_nil, List.map_replicate, EdgeD.k, booK]; done) | (simp [WKB, seval, List.take_zero, allE, List.flatMap_nil, edgesL, seenL, List.foldl_nil, List.map_replicate, EdgeD.k, booK]; done) | simp only [WKB, seval]))
      · rintro ⟨p, hp, ho⟩ K hR hE hT
        have le := edgesL_len m (allE (l.take p))
        have ls := seenL_len m (allE (l.take p))
        rcases Nat.lt_or_ge p l.length with hlt | hge
        case inr =>
          obtain rfl : p = l.length := by omega
          rw [List.take_length] at *
          have hj : JoinOk n l := ⟨by omega, by omega, hi.out, by omega, by omega, by rw [← hm]; exact ho.out⟩
          try exact absurd hj hq
          all_goals (have gx := @List.length_map.{0,0}; refine go ?_; (repeat' first | exact Ef.mk | apply Lf.mk | refine fun (K : KT) hK hE hT => ?_ | refine fun (KS : KE) hKS => ?_ | refine fun (D : KD) hD => ?_ | refine fun (hg : (_ : Prop)) => ?_ | fail); all_goals (first | (refine Wr.mk ?_; (try clear gx); repeat first | clear hK hE hT K | clear hR hE hT K) | assumption | skip))
          all_goals (refine post_a hres (.inl rfl) ?_; simp only [RSB, ENB, seval, tiAll, hm]; simp only [MAB, seval]; refine ⟨rfl, rfl, ?_, ?_, ?_⟩ <;> (first | rfl | (simp [WKB, Nat.add_comm, hm]; done) | (simp only [WKB, seval])))
        case inl =>
          have hok := (hi.out p hlt hlt).1
          have hok4 : l[p].Edges.length ≤ 400 := hok.1.2.2.2
          (have gx := And.intro (@List.length_map.{0,0}) (And.intro @List.getElem_map.{0,0} @ShardD.k.eq_1); refine go ?_; (repeat' first | exact Ef.mk | apply Lf.mk | refine fun (K : KT) hK hE hT => ?_ | refine fun (KS : KE) hKS => ?_ | refine fun (D : KD) hD => ?_ | refine fun (hg : (_ : Prop)) => ?_ | fail); all_goals (first | (refine Wr.mk ?_; (try clear gx); repeat first | clear hK hE hT K | clear hR hE hT K) | assumption | skip))
          refine loop_v (X := {i : Nat // i ≤ l[p].Edges.length ∧ Rnd (okL n m (allE (l.take p) ++ l[p].Edges.take i))}) [] (fun x => [(71, .c (.v (.int .i64 ((x.1 : Nat) : Int))))]) (fun x => [(0, some (.ro (l.map (ShardD.k 108)))), (1, some (.box 35 [.v (.int .i64 0), .nil])), (2, some (.row 80 ((edgesL m (allE (l.take p) ++ l[p].Edges.take x.1)).map EdgeD.k))), (3, some (.box 35 [.v (.int .i64 n), .sl 2 3 0 m])), (4, some (.row 4 ((seenL m (allE (l.take p) ++ l[p].Edges.take x.1)).map booK))), (5, some (.ro (l[p].Edges.map SEdgeD.k)))]) 7 (fun x => l[p].Edges.length - x.1) ⟨0, by omega, ⟨by rw [List.take_zero, List.append_nil]; exact ho.out⟩⟩ ?_
          simp only [KPB, seval]
          refine ⟨?_, ?_⟩
          · (refine wk_a ?_; simp only [MAB, seval]; refine ⟨rfl, rfl, (by decide), ?_, ?_⟩; all_goals (first | (simp only [WKB, seval, List.take_zero, List.append_nil]; done) | (simp [WKB, seval, List.take_zero, List.append_nil]; done) | simp only [WKB, seval]))
          · rintro ⟨i, hil, ho2⟩ K hR2 hE hT
            obtain ⟨L, hL⟩ : ∃ L, L = allE (l.take p) ++ l[p].Edges.take i := ⟨_, rfl⟩
            have le2 := edgesL_len m L
            have ls2 := seenL_len m L
            have ho2 := ho2.out
            simp only [← hL] at ho2 ⊢
            rcases Nat.lt_or_ge i l[p].Edges.length with hit | hig
            case inr =>
              obtain rfl : i = l[p].Edges.length := by omega
              have e3 : L = allE (l.take (p + 1)) := by rw [hL, List.take_length, allE_snoc hlt]
              subst e3
              (have gx := @List.length_map.{0,0}; refine go ?_; (repeat' first | exact Ef.mk | apply Lf.mk | refine fun (K : KT) hK hE hT => ?_ | refine fun (KS : KE) hKS => ?_ | refine fun (D : KD) hD => ?_ | refine fun (hg : (_ : Prop)) => ?_ | fail); all_goals (first | (refine Wr.mk ?_; (try clear gx); repeat first | clear hK hE hT K | clear hR hE hT K) | assumption | skip))
              (refine hR.out ⟨p + 1, by omega, ⟨ho2⟩⟩ _ _ _ (by simp only; omega) ?_; (refine wk_a ?_; simp only [MAB, seval]; refine ⟨rfl, rfl, (by decide), ?_, ?_⟩; all_goals (first | (simp only [WKB, seval, true_and]; done) | (simp [WKB, seval, true_and]; done) | simp only [WKB, seval])))
            case inl =>
              have hed := (hok.2 i hit hit).1
              have hbad : ¬ okL n m (L ++ [l[p].Edges[i]]) → ¬ JoinOk n l := fun h => join_bad hlt hit (by rw [← hL, ← hm]; exact h)
              have hLs : allE (l.take p) ++ l[p].Edges.take (i + 1) = L ++ [l[p].Edges[i]] := by rw [List.take_succ_eq_append_getElem hit, hL, List.append_assoc]
              obtain ⟨y, hy⟩ : ∃ y, y = l[p].Edges[i] := ⟨_, rfl⟩
              rw [← hy] at hed hbad hLs
              unfold edOk at hed
              obtain ⟨z, hz⟩ : ∃ z : Nat, y.Index = (z : Int) := ⟨y.Index.toNat, by omega⟩
              by_cases hr : y.From < n ∧ y.Index < m
              case neg =>
                rw [hz] at hr
                (have gx := And.intro (@List.length_map.{0,0}) (And.intro (@List.getElem_map.{0,0}) (And.intro ((hy).symm) (And.intro @SEdgeD.k.eq_1 @hz))); refine go ?_; (repeat' first | exact Ef.mk | apply Lf.mk | refine fun (K : KT) hK hE hT => ?_ | refine fun (KS : KE) hKS => ?_ | refine fun (D : KD) hD => ?_ | refine fun (hg : (_ : Prop)) => ?_ | fail); all_goals (first | (refine Wr.mk ?_; (try clear gx); repeat first | clear hK hE hT K | clear hR hE hT K) | assumption | skip))
                all_goals (have hj : ¬ JoinOk n l := (hbad fun h => hr (by rw [← hz]; exact (okL_snoc.1 h).2.1.2)); first | exact absurd hq hj | (refine post_a hres (.inl rfl) ?_; simp only [RSB, ENB, seval, tiAll, true_and]; simp only [MAB, seval]; refine ⟨rfl, rfl, ?_, ?_, ?_⟩ <;> (first | rfl | (simp [WKB, Nat.add_comm, true_and]; done) | (simp only [WKB, seval]))) | fail)
              case pos =>
                rw [hz] at hr
                have sg := seenL_get m L z (by rw [ls2]; omega)
                cases hb : (seenL m L)[z]'(by rw [ls2]; omega) with
                | true =>
                  obtain ⟨u, hu1, hu2⟩ := sg.1 hb
                  (have gx := And.intro (@List.length_map.{0,0}) (And.intro (@List.getElem_map.{0,0}) (And.intro ((hy).symm) (And.intro (@SEdgeD.k.eq_1) (And.intro (@hz) (And.intro (@booK.eq_1) (And.intro @hb @ls2)))))); refine go ?_; (repeat' first | exact Ef.mk | apply Lf.mk | refine fun (K : KT) hK hE hT => ?_ | refine fun (KS : KE) hKS => ?_ | refine fun (D : KD) hD => ?_ | refine fun (hg : (_ : Prop)) => ?_ | fail); all_goals (first | (refine Wr.mk ?_; (try clear gx); repeat first | clear hK hE hT K | clear hR hE hT K) | assumption | skip))
                  all_goals (have hj : ¬ JoinOk n l := (hbad (okL_hit ho2 hu1 hu2 hz)); first | exact absurd hq hj | (refine post_a hres (.inl rfl) ?_; simp only [RSB, ENB, seval, tiAll, true_and]; simp only [MAB, seval]; refine ⟨rfl, rfl, ?_, ?_, ?_⟩ <;> (first | rfl | (simp [WKB, Nat.add_comm, true_and]; done) | (simp only [WKB, seval]))) | fail)
                | false =>
                  (have gx := And.intro (@List.length_map.{0,0}) (And.intro (@List.getElem_map.{0,0}) (And.intro ((hy).symm) (And.intro (@SEdgeD.k.eq_1) (And.intro (@EdgeD.k.eq_1) (And.intro (@hz) (And.intro (@booK.eq_1) (And.intro (@hb) (And.intro @ls2 @le2)))))))); refine go ?_; (repeat' first | exact Ef.mk | apply Lf.mk | refine fun (K : KT) hK hE hT => ?_ | refine fun (KS : KE) hKS => ?_ | refine fun (D : KD) hD => ?_ | refine fun (hg : (_ : Prop)) => ?_ | fail); all_goals (first | (refine Wr.mk ?_; (try clear gx); repeat first | clear hK hE hT K | clear hR hE hT K) | assumption | skip))
                  refine hR2.out ⟨i + 1, by omega, ⟨?_⟩⟩ _ _ _ (by simp only; omega) ?_
                  · rw [hLs]
                    refine okL_snoc.2 ⟨ho2, ⟨by omega, hr.1, by rw [hz]; exact hr.2⟩, fun u hu hne => ?_⟩
                    have : (seenL m L)[z]'(by rw [ls2]; omega) = true := sg.2 ⟨u, hu, by rw [hne, hz]; rfl⟩
                    rw [hb] at this; cases this
                  · have e4 := seenL_set (m := m) (L := L) hz
                    have e5 := edgesL_set (m := m) (L := L) hz
                    (refine wk_a ?_; simp only [MAB, seval]; refine ⟨rfl, rfl, (by decide), ?_, ?_⟩; all_goals (first | (simp only [WKB, seval, hLs, e4, e5, EdgeD.k]; done) | (simp [WKB, seval, hLs, e4, e5, EdgeD.k]; done) | simp only [WKB, seval]))))

set_option maxHeartbeats 16000000 in
theorem specJoinedN_k (n : Int) (l : List ShardD) (hl : l.length ≤ 1048576) (hs : ∀ s ∈ l, s.Edges.length ≤ 1048576) (hq : ¬ JoinOk n l) : FnOK Tryz.prog 39 ⟨1, [(0, some (.ro (l.map (ShardD.k 108))))], [.c (.v (.int .i64 n)), .c (.sl 0 3 0 l.length)], .tup [.inr [.v (.int .i64 0), .nil], .inl (.v (.bool false))], [], 1⟩ := by
  refine fnOK_of true mixed Tryz.func39 rfl (by rfl) (by rfl) ?_
  have hres := congrArg Array.toList Tryz.results39
  simp only [Tryz.ntmps39, BGB, seval]
  (have gx := @List.length_map.{0,0}; refine go ?_; (repeat' first | exact Ef.mk | apply Lf.mk | refine fun (K : KT) hK hE hT => ?_ | refine fun (KS : KE) hKS => ?_ | refine fun (D : KD) hD => ?_ | refine fun (hg : (_ : Prop)) => ?_ | fail); all_goals (first | (refine Wr.mk ?_; (try clear gx); repeat first | clear hK hE hT K | clear hR hE hT K) | assumption | skip))
  all_goals first
    | (have hj : ¬ JoinOk n l := (jx1 (by omega)); first | exact absurd hq hj | (refine post_a hres (.inl rfl) ?_; simp only [RSB, ENB, seval, tiAll, true_and]; simp only [MAB, seval]; refine ⟨rfl, rfl, ?_, ?_, ?_⟩ <;> (first | rfl | (simp [WKB, Nat.add_comm, true_and]; done) | (simp only [WKB, seval]))) | fail)
    | skip
  all_goals (
  refine loop_v (X := {k : Nat // k ≤ l.length ∧ Rnd (jn1 l k)}) [] (fun x => [(18, .c (.v (.int .i64 ((x.1 : Nat) : Int)))), (7, .c (.v (.int .i64 (lastH l x.1)))), (6, .c (.v (.int .i64 ((edSum (l.take x.1) : Nat) : Int))))]) (fun x => [(0, some (.ro (l.map (ShardD.k 108)))), (1, some (.box 35 [.v (.int .i64 0), .nil]))]) 2 (fun x => l.length - x.1) ⟨0, by omega, ⟨jn1_zero l⟩⟩ ?_
  simp only [KPB, seval]
  refine ⟨?_, ?_⟩
  · (refine wk_a ?_; simp only [MAB, seval]; refine ⟨rfl, rfl, (by decide), ?_, ?_⟩; all_goals (first | (simp only [WKB, seval, lastH_zero, List.take_zero, edSum]; done) | (simp [WKB, seval, lastH_zero, List.take_zero, edSum]; done) | simp only [WKB, seval]))
  · rintro ⟨k, hk, hi⟩ K hR hE hT
    have hsum := jn1_sum hi.out hk
    rcases Nat.lt_or_ge k l.length with hlt | hge
    case inl =>
      have c := specShardOk_k l[k] (hs _ (List.getElem_mem hlt))
      by_cases hv : ShOk l[k]
      case neg =>
        rw [pB_f hv] at c
        (have gx := And.intro (@List.length_map.{0,0}) (And.intro @List.getElem_map.{0,0} @ShardD.k.eq_1); have q1 := c; refine go ?_; (repeat' first | exact Ef.mk | apply Lf.mk | refine fun (K : KT) hK hE hT => ?_ | refine fun (KS : KE) hKS => ?_ | refine fun (D : KD) hD => ?_ | refine fun (hg : (_ : Prop)) => ?_ | fail); all_goals (first | (refine Wr.mk ?_; (try clear gx q1); repeat first | clear hK hE hT K | clear hR hE hT K) | assumption | skip))
        all_goals (have hj : ¬ JoinOk n l := (fun h => hv (h.2.2.1 k hlt hlt).1); first | exact absurd hq hj | (refine post_a hres (.inl rfl) ?_; simp only [RSB, ENB, seval, tiAll, true_and]; simp only [MAB, seval]; refine ⟨rfl, rfl, ?_, ?_, ?_⟩ <;> (first | rfl | (simp [WKB, Nat.add_comm, true_and]; done) | (simp only [WKB, seval]))) | fail)
      case pos =>
        rw [pB_t hv] at c
        have hv4 := hv.1.2.2.2
        by_cases hlo : l[k].Lo = lastH l k
        case neg =>
          (have gx := And.intro (@List.length_map.{0,0}) (And.intro @List.getElem_map.{0,0} @ShardD.k.eq_1); have q1 := c; refine go ?_; (repeat' first | exact Ef.mk | apply Lf.mk | refine fun (K : KT) hK hE hT => ?_ | refine fun (KS : KE) hKS => ?_ | refine fun (D : KD) hD => ?_ | refine fun (hg : (_ : Prop)) => ?_ | fail); all_goals (first | (refine Wr.mk ?_; (try clear gx q1); repeat first | clear hK hE hT K | clear hR hE hT K) | assumption | skip))
          all_goals (have hj : ¬ JoinOk n l := (fun h => hlo (h.2.2.1 k hlt hlt).2); first | exact absurd hq hj | (refine post_a hres (.inl rfl) ?_; simp only [RSB, ENB, seval, tiAll, true_and]; simp only [MAB, seval]; refine ⟨rfl, rfl, ?_, ?_, ?_⟩ <;> (first | rfl | (simp [WKB, Nat.add_comm, true_and]; done) | (simp only [WKB, seval]))) | fail)
        case pos =>
          have e2 : ((edSum (l.take k) : Nat) : Int) + (l[k].Edges.length : Int) = ((edSum (l.take (k + 1)) : Nat) : Int) := by rw [edSum_snoc hlt]; omega
          (have gx := And.intro (@List.length_map.{0,0}) (And.intro @List.getElem_map.{0,0} @ShardD.k.eq_1); have q1 := c; refine go ?_; (repeat' first | exact Ef.mk | apply Lf.mk | refine fun (K : KT) hK hE hT => ?_ | refine fun (KS : KE) hKS => ?_ | refine fun (D : KD) hD => ?_ | refine fun (hg : (_ : Prop)) => ?_ | fail); all_goals (first | (refine Wr.mk ?_; (try clear gx q1); repeat first | clear hK hE hT K | clear hR hE hT K) | assumption | skip))
          (refine hR.out ⟨k + 1, by omega, ⟨jn1_succ hi.out hlt hv hlo⟩⟩ _ _ _ (by simp only; omega) ?_; (refine wk_a ?_; simp only [MAB, seval]; refine ⟨rfl, rfl, (by decide), ?_, ?_⟩; all_goals (first | (simp only [WKB, seval, lastH_succ hlt, e2]; done) | (simp [WKB, seval, lastH_succ hlt, e2]; done) | simp only [WKB, seval])))
    case inr =>
      obtain rfl : k = l.length := by omega
      rw [List.take_length] at *
      obtain ⟨m, hm⟩ : ∃ m, m = edSum l := ⟨_, rfl⟩
      rw [← hm]
      (have gx := @List.length_map.{0,0}; refine go ?_; (repeat' first | exact Ef.mk | apply Lf.mk | refine fun (K : KT) hK hE hT => ?_ | refine fun (KS : KE) hKS => ?_ | refine fun (D : KD) hD => ?_ | refine fun (hg : (_ : Prop)) => ?_ | fail); all_goals (first | (refine Wr.mk ?_; (try clear gx); repeat first | clear hK hE hT K | clear hR hE hT K) | assumption | skip))
      all_goals first
        | (have hj : ¬ JoinOk n l := (jx2 (by omega)); first | exact absurd hq hj | (refine post_a hres (.inl rfl) ?_; simp only [RSB, ENB, seval, tiAll, true_and]; simp only [MAB, seval]; refine ⟨rfl, rfl, ?_, ?_, ?_⟩ <;> (first | rfl | (simp [WKB, Nat.add_comm, true_and]; done) | (simp only [WKB, seval]))) | fail)
        | skip
      all_goals (
      refine loop_v (X := {p : Nat // p ≤ l.length ∧ Rnd (okL n m (allE (l.take p)))}) [] (fun x => [(64, .c (.v (.int .i64 ((x.1 : Nat) : Int))))]) (fun x => [(0, some (.ro (l.map (ShardD.k 108)))), (1, some (.box 35 [.v (.int .i64 0), .nil])), (2, some (.row 80 ((edgesL m (allE (l.take x.1))).map EdgeD.k))), (3, some (.box 35 [.v (.int .i64 n), .sl 2 3 0 m])), (4, some (.row 4 ((seenL m (allE (l.take x.1))).map booK)))]) 5 (fun x => l.length - x.1) ⟨0, by omega, ⟨okL_nil n m⟩⟩ ?_
      simp only [KPB, seval]
      refine ⟨?_, ?_⟩
      · (refine wk_a ?_; simp only [MAB, seval]; refine ⟨rfl, rfl, (by decide), ?_, ?_⟩; all_goals (first | (simp only [WKB, seval, List.take_zero, allE, List.flatMap_nil, edgesL, seenL, List.foldl_nil, List.map_replicate, EdgeD.k, booK]; done) | (simp [WKB, seval, List.take_zero, allE, List.flatMap_nil, edgesL, seenL, List.foldl_nil, List.map_replicate, EdgeD.k, booK]; done) | simp only [WKB, seval]))
      · rintro ⟨p, hp, ho⟩ K hR hE hT
        have le := edgesL_len m (allE (l.take p))
        have ls := seenL_len m (allE (l.take p))
        rcases Nat.lt_or_ge p l.length with hlt | hge
        case inr =>
          obtain rfl : p = l.length := by omega
          rw [List.take_length] at *
          have hj : JoinOk n l := ⟨by omega, by omega, hi.out, by omega, by omega, by rw [← hm]; exact ho.out⟩
          try exact absurd hj hq
          all_goals (have gx := @List.length_map.{0,0}; refine go ?_; (repeat' first | exact Ef.mk | apply Lf.mk | refine fun (K : KT) hK hE hT => ?_ | refine fun (KS : KE) hKS => ?_ | refine fun (D : KD) hD => ?_ | refine fun (hg : (_ : Prop)) => ?_ | fail); all_goals (first | (refine Wr.mk ?_; (try clear gx); repeat first | clear hK hE hT K | clear hR hE hT K) | assumption | skip))
          all_goals (refine post_a hres (.inl rfl) ?_; simp only [RSB, ENB, seval, tiAll, hm]; simp only [MAB, seval]; refine ⟨rfl, rfl, ?_, ?_, ?_⟩ <;> (first | rfl | (simp [WKB, Nat.add_comm, hm]; done) | (simp only [WKB, seval])))
        case inl =>
          have hok := (hi.out p hlt hlt).1
          have hok4 : l[p].Edges.length ≤ 400 := hok.1.2.2.2
          (have gx := And.intro (@List.length_map.{0,0}) (And.intro @List.getElem_map.{0,0} @ShardD.k.eq_1); refine go ?_; (repeat' first | exact Ef.mk | apply Lf.mk | refine fun (K : KT) hK hE hT => ?_ | refine fun (KS : KE) hKS => ?_ | refine fun (D : KD) hD => ?_ | refine fun (hg : (_ : Prop)) => ?_ | fail); all_goals (first | (refine Wr.mk ?_; (try clear gx); repeat first | clear hK hE hT K | clear hR hE hT K) | assumption | skip))
          refine loop_v (X := {i : Nat // i ≤ l[p].Edges.length ∧ Rnd (okL n m (allE (l.take p) ++ l[p].Edges.take i))}) [] (fun x => [(71, .c (.v (.int .i64 ((x.1 : Nat) : Int))))]) (fun x => [(0, some (.ro (l.map (ShardD.k 108)))), (1, some (.box 35 [.v (.int .i64 0), .nil])), (2, some (.row 80 ((edgesL m (allE (l.take p) ++ l[p].Edges.take x.1)).map EdgeD.k))), (3, some (.box 35 [.v (.int .i64 n), .sl 2 3 0 m])), (4, some (.row 4 ((seenL m (allE (l.take p) ++ l[p].Edges.take x.1)).map booK))), (5, some (.ro (l[p].Edges.map SEdgeD.k)))]) 7 (fun x => l[p].Edges.length - x.1) ⟨0, by omega, ⟨by rw [List.take_zero, List.append_nil]; exact ho.out⟩⟩ ?_
          simp only [KPB, seval]
          refine ⟨?_, ?_⟩
          · (refine wk_a ?_; simp only [MAB, seval]; refine ⟨rfl, rfl, (by decide), ?_, ?_⟩; all_goals (first | (simp only [WKB, seval, List.take_zero, List.append_nil]; done) | (simp [WKB, seval, List.take_zero, List.append_nil]; done) | simp only [WKB, seval]))
          · rintro ⟨i, hil, ho2⟩ K hR2 hE hT
            obtain ⟨L, hL⟩ : ∃ L, L = allE (l.take p) ++ l[p].Edges.take i := ⟨_, rfl⟩
            have le2 := edgesL_len m L
            have ls2 := seenL_len m L
            have ho2 := ho2.out
            simp only [← hL] at ho2 ⊢
            rcases Nat.lt_or_ge i l[p].Edges.length with hit | hig
            case inr =>
              obtain rfl : i = l[p].Edges.length := by omega
              have e3 : L = allE (l.take (p + 1)) := by rw [hL, List.take_length, allE_snoc hlt]
              subst e3
              (have gx := @List.length_map.{0,0}; refine go ?_; (repeat' first | exact Ef.mk | apply Lf.mk | refine fun (K : KT) hK hE hT => ?_ | refine fun (KS : KE) hKS => ?_ | refine fun (D : KD) hD => ?_ | refine fun (hg : (_ : Prop)) => ?_ | fail); all_goals (first | (refine Wr.mk ?_; (try clear gx); repeat first | clear hK hE hT K | clear hR hE hT K) | assumption | skip))
              (refine hR.out ⟨p + 1, by omega, ⟨ho2⟩⟩ _ _ _ (by simp only; omega) ?_; (refine wk_a ?_; simp only [MAB, seval]; refine ⟨rfl, rfl, (by decide), ?_, ?_⟩; all_goals (first | (simp only [WKB, seval, true_and]; done) | (simp [WKB, seval, true_and]; done) | simp only [WKB, seval])))
            case inl =>
              have hed := (hok.2 i hit hit).1
              have hbad : ¬ okL n m (L ++ [l[p].Edges[i]]) → ¬ JoinOk n l := fun h => join_bad hlt hit (by rw [← hL, ← hm]; exact h)
              have hLs : allE (l.take p) ++ l[p].Edges.take (i + 1) = L ++ [l[p].Edges[i]] := by rw [List.take_succ_eq_append_getElem hit, hL, List.append_assoc]
              obtain ⟨y, hy⟩ : ∃ y, y = l[p].Edges[i] := ⟨_, rfl⟩
              rw [← hy] at hed hbad hLs
              unfold edOk at hed
              obtain ⟨z, hz⟩ : ∃ z : Nat, y.Index = (z : Int) := ⟨y.Index.toNat, by omega⟩
              by_cases hr : y.From < n ∧ y.Index < m
              case neg =>
                rw [hz] at hr
                (have gx := And.intro (@List.length_map.{0,0}) (And.intro (@List.getElem_map.{0,0}) (And.intro ((hy).symm) (And.intro @SEdgeD.k.eq_1 @hz))); refine go ?_; (repeat' first | exact Ef.mk | apply Lf.mk | refine fun (K : KT) hK hE hT => ?_ | refine fun (KS : KE) hKS => ?_ | refine fun (D : KD) hD => ?_ | refine fun (hg : (_ : Prop)) => ?_ | fail); all_goals (first | (refine Wr.mk ?_; (try clear gx); repeat first | clear hK hE hT K | clear hR hE hT K) | assumption | skip))
                all_goals (have hj : ¬ JoinOk n l := (hbad fun h => hr (by rw [← hz]; exact (okL_snoc.1 h).2.1.2)); first | exact absurd hq hj | (refine post_a hres (.inl rfl) ?_; simp only [RSB, ENB, seval, tiAll, true_and]; simp only [MAB, seval]; refine ⟨rfl, rfl, ?_, ?_, ?_⟩ <;> (first | rfl | (simp [WKB, Nat.add_comm, true_and]; done) | (simp only [WKB, seval]))) | fail)
              case pos =>
                rw [hz] at hr
                have sg := seenL_get m L z (by rw [ls2]; omega)
                cases hb : (seenL m L)[z]'(by rw [ls2]; omega) with
                | true =>
                  obtain ⟨u, hu1, hu2⟩ := sg.1 hb
                  (have gx := And.intro (@List.length_map.{0,0}) (And.intro (@List.getElem_map.{0,0}) (And.intro ((hy).symm) (And.intro (@SEdgeD.k.eq_1) (And.intro (@hz) (And.intro (@booK.eq_1) (And.intro @hb @ls2)))))); refine go ?_; (repeat' first | exact Ef.mk | apply Lf.mk | refine fun (K : KT) hK hE hT => ?_ | refine fun (KS : KE) hKS => ?_ | refine fun (D : KD) hD => ?_ | refine fun (hg : (_ : Prop)) => ?_ | fail); all_goals (first | (refine Wr.mk ?_; (try clear gx); repeat first | clear hK hE hT K | clear hR hE hT K) | assumption | skip))
                  all_goals (have hj : ¬ JoinOk n l := (hbad (okL_hit ho2 hu1 hu2 hz)); first | exact absurd hq hj | (refine post_a hres (.inl rfl) ?_; simp only [RSB, ENB, seval, tiAll, true_and]; simp only [MAB, seval]; refine ⟨rfl, rfl, ?_, ?_, ?_⟩ <;> (first | rfl | (simp [WKB, Nat.add_comm, true_and]; done) | (simp only [WKB, seval]))) | fail)
                | false =>
                  (have gx := And.intro (@List.length_map.{0,0}) (And.intro (@List.getElem_map.{0,0}) (And.intro ((hy).symm) (And.intro (@SEdgeD.k.eq_1) (And.intro (@EdgeD.k.eq_1) (And.intro (@hz) (And.intro (@booK.eq_1) (And.intro (@hb) (And.intro @ls2 @le2)))))))); refine go ?_; (repeat' first | exact Ef.mk | apply Lf.mk | refine fun (K : KT) hK hE hT => ?_ | refine fun (KS : KE) hKS => ?_ | refine fun (D : KD) hD => ?_ | refine fun (hg : (_ : Prop)) => ?_ | fail); all_goals (first | (refine Wr.mk ?_; (try clear gx); repeat first | clear hK hE hT K | clear hR hE hT K) | assumption | skip))
                  refine hR2.out ⟨i + 1, by omega, ⟨?_⟩⟩ _ _ _ (by simp only; omega) ?_
                  · rw [hLs]
                    refine okL_snoc.2 ⟨ho2, ⟨by omega, hr.1, by rw [hz]; exact hr.2⟩, fun u hu hne => ?_⟩
                    have : (seenL m L)[z]'(by rw [ls2]; omega) = true := sg.2 ⟨u, hu, by rw [hne, hz]; rfl⟩
                    rw [hb] at this; cases this
                  · have e4 := seenL_set (m := m) (L := L) hz
                    have e5 := edgesL_set (m := m) (L := L) hz
                    (refine wk_a ?_; simp only [MAB, seval]; refine ⟨rfl, rfl, (by decide), ?_, ?_⟩; all_goals (first | (simp only [WKB, seval, hLs, e4, e5, EdgeD.k]; done) | (simp [WKB, seval, hLs, e4, e5, EdgeD.k]; done) | simp only [WKB, seval]))))

end Go.Proofs.YtfdhdkljpeohlaaGreatDoor

namespace Go.Proofs.YtfdhdkljpeohlaaGreatDoor
set_option linter.unusedSimpArgs false
set_option linter.unusedVariables false
set_option linter.defProp false
set_option maxRecDepth 20000
open Go.RowKit

set_option maxHeartbeats 16000000 in
theorem specFarmOk_k (f : FarmD) (h : (f.Ends).length ≤ 1048576 ∧ (f.Shards).length ≤ 1048576 ∧ (∀ s ∈ f.Shards, s.Edges.length ≤ 1048576)) : FnOK Tryz.prog 38 ⟨2, [(0, some (.ro ((f.Ends).map intK))), (1, some (.ro ((f.Shards).map (ShardD.k 108))))], [.agg [.v (.int .i64 f.N), .sl 0 1 0 (f.Ends).length, .sl 1 3 0 (f.Shards).length]], .c (.v (.bool (pB (FarmOk f)))), [], 2⟩ := by
  obtain ⟨h0, h1, h2⟩ := h
  have ce := specEndsOk_k f.N f.Ends h0
  by_cases hd : EndsOk f.N f.Ends ∧ f.Shards.length = f.Ends.length
  case neg =>
    have e : pB (FarmOk f) = false := pB_f fun h => hd ⟨h.1, h.2.1⟩
    rw [e]
    by_cases he : EndsOk f.N f.Ends
    · have hn : f.Shards.length ≠ f.Ends.length := fun h => hd ⟨he, h⟩
      rw [pB_t he] at ce
      refine fnOK_of true mixed Tryz.func38 rfl (by rfl) (by rfl) ?_
      have hres := congrArg Array.toList Tryz.results38
      simp only [Tryz.ntmps38, BGB, seval]
      (have gx := @List.length_map.{0,0}; have q1 := ce; refine go ?_; (repeat' first | exact Ef.mk | apply Lf.mk | refine fun (K : KT) hK hE hT => ?_ | refine fun (KS : KE) hKS => ?_ | refine fun (D : KD) hD => ?_ | refine fun (hg : (_ : Prop)) => ?_ | fail); all_goals (first | (refine Wr.mk ?_; (try clear gx q1); repeat first | clear hK hE hT K | clear hR hE hT K) | assumption | skip))
      all_goals (refine post_a hres (.inl rfl) ?_; simp only [RSB, ENB, seval, tiAll, true_and]; simp only [MAB, seval]; refine ⟨rfl, rfl, ?_, ?_, ?_⟩ <;> (first | rfl | (simp [WKB, Nat.add_comm, true_and]; done) | (simp only [WKB, seval])))
    · rw [pB_f he] at ce
      refine fnOK_of true mixed Tryz.func38 rfl (by rfl) (by rfl) ?_
      have hres := congrArg Array.toList Tryz.results38
      simp only [Tryz.ntmps38, BGB, seval]
      (have gx := @List.length_map.{0,0}; have q1 := ce; refine go ?_; (repeat' first | exact Ef.mk | apply Lf.mk | refine fun (K : KT) hK hE hT => ?_ | refine fun (KS : KE) hKS => ?_ | refine fun (D : KD) hD => ?_ | refine fun (hg : (_ : Prop)) => ?_ | fail); all_goals (first | (refine Wr.mk ?_; (try clear gx q1); repeat first | clear hK hE hT K | clear hR hE hT K) | assumption | skip))
      all_goals (refine post_a hres (.inl rfl) ?_; simp only [RSB, ENB, seval, tiAll, true_and]; simp only [MAB, seval]; refine ⟨rfl, rfl, ?_, ?_, ?_⟩ <;> (first | rfl | (simp [WKB, Nat.add_comm, true_and]; done) | (simp only [WKB, seval])))
  case pos =>
    obtain ⟨he, hn⟩ := hd
    rw [pB_t he] at ce
    refine fnOK_of true mixed Tryz.func38 rfl (by rfl) (by rfl) ?_
    have hres := congrArg Array.toList Tryz.results38
    simp only [Tryz.ntmps38, BGB, seval]
    (have gx := @List.length_map.{0,0}; have q1 := ce; refine go ?_; (repeat' first | exact Ef.mk | apply Lf.mk | refine fun (K : KT) hK hE hT => ?_ | refine fun (KS : KE) hKS => ?_ | refine fun (D : KD) hD => ?_ | refine fun (hg : (_ : Prop)) => ?_ | fail); all_goals (first | (refine Wr.mk ?_; (try clear gx q1); repeat first | clear hK hE hT K | clear hR hE hT K) | assumption | skip))
    refine loop_v (X := {k : Nat // k ≤ f.Shards.length ∧ Rnd (farmTo f k)}) [] (fun x => [(29, .c (.v (.int .i64 ((x.1 : Nat) : Int))))]) (fun x => [(0, some (.ro ((f.Ends).map intK))), (1, some (.ro ((f.Shards).map (ShardD.k 108)))), (2, some (.box 26 [.v (.int .i64 f.N), .sl 0 1 0 (f.Ends).length, .sl 1 3 0 (f.Shards).length]))]) 3 (fun x => f.Shards.length - x.1) ⟨0, by omega, ⟨farmTo_zero f⟩⟩ ?_
    simp only [KPB, seval]
    refine ⟨?_, ?_⟩
    · (refine wk_a ?_; simp only [MAB, seval]; refine ⟨rfl, rfl, (by decide), ?_, ?_⟩; all_goals (first | (simp only [WKB, seval, true_and]; done) | (simp [WKB, seval, true_and]; done) | simp only [WKB, seval]))
    · rintro ⟨k, hk, hi⟩ K hR hE hT
      rcases Nat.lt_or_ge k f.Shards.length with hlt | hge
      case inr =>
        obtain rfl : k = f.Shards.length := by omega
        by_cases hj : JoinOk f.N f.Shards
        · have c := specJoinedY_k f.N f.Shards h1 h2 hj
          have e : pB (FarmOk f) = true := pB_t ⟨he, hn, hi.out, hj⟩
          (have gx := @List.length_map.{0,0}; have q1 := c; refine go ?_; (repeat' first | exact Ef.mk | apply Lf.mk | refine fun (K : KT) hK hE hT => ?_ | refine fun (KS : KE) hKS => ?_ | refine fun (D : KD) hD => ?_ | refine fun (hg : (_ : Prop)) => ?_ | fail); all_goals (first | (refine Wr.mk ?_; (try clear gx q1); repeat first | clear hK hE hT K | clear hR hE hT K) | assumption | skip))
          (refine post_a hres (.inl rfl) ?_; simp only [RSB, ENB, seval, tiAll, e]; simp only [MAB, seval]; refine ⟨rfl, rfl, ?_, ?_, ?_⟩ <;> (first | rfl | (simp [WKB, Nat.add_comm, e]; done) | (simp only [WKB, seval])))
        · have c := specJoinedN_k f.N f.Shards h1 h2 hj
          have e : pB (FarmOk f) = false := pB_f fun h => hj h.2.2.2
          (have gx := @List.length_map.{0,0}; have q1 := c; refine go ?_; (repeat' first | exact Ef.mk | apply Lf.mk | refine fun (K : KT) hK hE hT => ?_ | refine fun (KS : KE) hKS => ?_ | refine fun (D : KD) hD => ?_ | refine fun (hg : (_ : Prop)) => ?_ | fail); all_goals (first | (refine Wr.mk ?_; (try clear gx q1); repeat first | clear hK hE hT K | clear hR hE hT K) | assumption | skip))
          (refine post_a hres (.inl rfl) ?_; simp only [RSB, ENB, seval, tiAll, e]; simp only [MAB, seval]; refine ⟨rfl, rfl, ?_, ?_, ?_⟩ <;> (first | rfl | (simp [WKB, Nat.add_comm, e]; done) | (simp only [WKB, seval])))
      case inl =>
        have cs := specSpan_k f.Ends k h0 (by omega)
        by_cases hlh : f.Shards[k].Lo = lastE f.Ends k ∧ f.Shards[k].Hi = f.Ends[k]'(by omega)
        case neg =>
          have e : pB (FarmOk f) = false := pB_f fun h => hlh (by have := h.2.2.1 k hlt hlt; exact ⟨this.1, this.2.1 (by omega)⟩)
          (have gx := And.intro (@List.length_map.{0,0}) (And.intro @List.getElem_map.{0,0} @ShardD.k.eq_1); have q1 := cs; refine go ?_; (repeat' first | exact Ef.mk | apply Lf.mk | refine fun (K : KT) hK hE hT => ?_ | refine fun (KS : KE) hKS => ?_ | refine fun (D : KD) hD => ?_ | refine fun (hg : (_ : Prop)) => ?_ | fail); all_goals (first | (refine Wr.mk ?_; (try clear gx q1); repeat first | clear hK hE hT K | clear hR hE hT K) | assumption | skip))
          all_goals (refine post_a hres (.inl rfl) ?_; simp only [RSB, ENB, seval, tiAll, e]; simp only [MAB, seval]; refine ⟨rfl, rfl, ?_, ?_, ?_⟩ <;> (first | rfl | (simp [WKB, Nat.add_comm, e]; done) | (simp only [WKB, seval])))
        case pos =>
          have hlen := h2 _ (List.getElem_mem hlt)
          (have gx := And.intro (@List.length_map.{0,0}) (And.intro @List.getElem_map.{0,0} @ShardD.k.eq_1); have q1 := cs; refine go ?_; (repeat' first | exact Ef.mk | apply Lf.mk | refine fun (K : KT) hK hE hT => ?_ | refine fun (KS : KE) hKS => ?_ | refine fun (D : KD) hD => ?_ | refine fun (hg : (_ : Prop)) => ?_ | fail); all_goals (first | (refine Wr.mk ?_; (try clear gx q1); repeat first | clear hK hE hT K | clear hR hE hT K) | assumption | skip))
          refine loop_v (X := {i : Nat // i ≤ f.Shards[k].Edges.length ∧ Rnd (farTo f.Shards[k].Edges i)}) [] (fun x => [(54, .c (.v (.int .i64 ((x.1 : Nat) : Int))))]) (fun x => [(0, some (.ro ((f.Ends).map intK))), (1, some (.ro ((f.Shards).map (ShardD.k 108)))), (2, some (.box 26 [.v (.int .i64 f.N), .sl 0 1 0 (f.Ends).length, .sl 1 3 0 (f.Shards).length])), (3, some (.ro (f.Shards[k].Edges.map SEdgeD.k)))]) 5 (fun x => f.Shards[k].Edges.length - x.1) ⟨0, by omega, ⟨farTo_zero _⟩⟩ ?_
          simp only [KPB, seval]
          refine ⟨?_, ?_⟩
          · (refine wk_a ?_; simp only [MAB, seval]; refine ⟨rfl, rfl, (by decide), ?_, ?_⟩; all_goals (first | (simp only [WKB, seval, true_and]; done) | (simp [WKB, seval, true_and]; done) | simp only [WKB, seval]))
          · rintro ⟨i, hil, hv⟩ K hR2 hE hT
            rcases Nat.lt_or_ge i f.Shards[k].Edges.length with hit | hig
            case inr =>
              obtain rfl : i = f.Shards[k].Edges.length := by omega
              (have gx := @List.length_map.{0,0}; refine go ?_; (repeat' first | exact Ef.mk | apply Lf.mk | refine fun (K : KT) hK hE hT => ?_ | refine fun (KS : KE) hKS => ?_ | refine fun (D : KD) hD => ?_ | refine fun (hg : (_ : Prop)) => ?_ | fail); all_goals (first | (refine Wr.mk ?_; (try clear gx); repeat first | clear hK hE hT K | clear hR hE hT K) | assumption | skip))
              (refine hR.out ⟨k + 1, by omega, ⟨farmTo_succ hi.out hlt hlh.1 (fun _ => hlh.2) (far_all hv.out)⟩⟩ _ _ _ (by simp only; omega) ?_; (refine wk_a ?_; simp only [MAB, seval]; refine ⟨rfl, rfl, (by decide), ?_, ?_⟩; all_goals (first | (simp only [WKB, seval, true_and]; done) | (simp [WKB, seval, true_and]; done) | simp only [WKB, seval])))
            case inl =>
              obtain ⟨y, hy⟩ : ∃ y, y = f.Shards[k].Edges[i] := ⟨_, rfl⟩
              by_cases hf : y.Val ≤ 1099511627776
              · (have gx := And.intro (@List.length_map.{0,0}) (And.intro (@List.getElem_map.{0,0}) (And.intro (hy).symm @SEdgeD.k.eq_1)); refine go ?_; (repeat' first | exact Ef.mk | apply Lf.mk | refine fun (K : KT) hK hE hT => ?_ | refine fun (KS : KE) hKS => ?_ | refine fun (D : KD) hD => ?_ | refine fun (hg : (_ : Prop)) => ?_ | fail); all_goals (first | (refine Wr.mk ?_; (try clear gx); repeat first | clear hK hE hT K | clear hR hE hT K) | assumption | skip))
                refine hR2.out ⟨i + 1, by omega, ⟨farTo_succ hv.out hit (by rw [← hy]; exact hf)⟩⟩ _ _ _ (by simp only; omega) ?_
                (refine wk_a ?_; simp only [MAB, seval]; refine ⟨rfl, rfl, (by decide), ?_, ?_⟩; all_goals (first | (simp only [WKB, seval, true_and]; done) | (simp [WKB, seval, true_and]; done) | simp only [WKB, seval]))
              · have e : pB (FarmOk f) = false := pB_f fun h => hf (by rw [hy]; exact (h.2.2.1 k hlt hlt).2.2 _ (List.getElem_mem hit))
                (have gx := And.intro (@List.length_map.{0,0}) (And.intro (@List.getElem_map.{0,0}) (And.intro (hy).symm @SEdgeD.k.eq_1)); refine go ?_; (repeat' first | exact Ef.mk | apply Lf.mk | refine fun (K : KT) hK hE hT => ?_ | refine fun (KS : KE) hKS => ?_ | refine fun (D : KD) hD => ?_ | refine fun (hg : (_ : Prop)) => ?_ | fail); all_goals (first | (refine Wr.mk ?_; (try clear gx); repeat first | clear hK hE hT K | clear hR hE hT K) | assumption | skip))
                (refine post_a hres (.inl rfl) ?_; simp only [RSB, ENB, seval, tiAll, e]; simp only [MAB, seval]; refine ⟨rfl, rfl, ?_, ?_, ?_⟩ <;> (first | rfl | (simp [WKB, Nat.add_comm, e]; done) | (simp only [WKB, seval])))

end Go.Proofs.YtfdhdkljpeohlaaGreatDoor

