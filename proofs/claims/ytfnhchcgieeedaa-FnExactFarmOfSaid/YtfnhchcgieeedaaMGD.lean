/-
  The engine, texts G4 H3 in one. No conditions of its own.
-/
import Derived.Test.YtfnhchcgieeedaaGO
import Derived.Test.YtfnhchcgieeedaaDF
import Derived.Test.YtfnhchcgieeedaaS1
import Derived.Test.YtfnhchcgieeedaaMG
namespace Go.Proofs.Ytfnhchcgieeedaa
set_option linter.unusedSimpArgs false
set_option linter.unusedVariables false
set_option linter.unusedSimpArgs false
set_option linter.unusedVariables false
set_option linter.defProp false
open Go.RowKit

set_option maxHeartbeats 1000000 in
theorem toEdge_k (x : EdgeD) : FnOK Try.prog 94 ⟨0, [], [.agg x.s], .agg x.s, [], 0⟩ := by
  obtain ⟨x1, x2, x3⟩ := x
  simp only [EdgeD.s]
  refine fnOK_of true mixed Try.func94 rfl (by rfl) (by rfl) ?_
  have hres := congrArg Array.toList Try.results94
  simp only [Try.ntmps94, BGB, seval]
  (have gx := true_and True; refine go ?_; (repeat' first | exact Ef.mk | apply Lf.mk | refine fun (K : KT) hK hE hT => ?_ | refine fun (KS : KE) hKS => ?_ | refine fun (D : KD) hD => ?_ | refine fun (hg : (_ : Prop)) => ?_ | fail); all_goals (first | (refine Wr.mk ?_; (try clear gx); repeat first | clear hK hE hT K | clear hR hE hT K) | assumption | skip))
  (refine post_a hres (.inl rfl) ?_; simp only [RSB, ENB, seval, tiAll, true_and]; simp only [MAB, seval]; refine ⟨rfl, rfl, ?_, ?_, ?_⟩ <;> (first | rfl | (simp [WKB, Nat.add_comm, true_and]; done) | (simp only [WKB, seval])))

set_option maxHeartbeats 1000000 in
theorem eqEdge_k (x y : EdgeD) : FnOK Try.prog 101 ⟨0, [], [.agg x.s, .agg y.s], .c (.v (.bool (decide (x = y)))), [], 0⟩ := by
  obtain ⟨x1, x2, x3⟩ := x
  obtain ⟨y1, y2, y3⟩ := y
  simp only [EdgeD.s, EdgeD.mk.injEq]
  refine fnOK_of true mixed Try.func101 rfl (by rfl) (by rfl) ?_
  have hres := congrArg Array.toList Try.results101
  simp only [Try.ntmps101, BGB, seval]
  (have gx := true_and True; refine go ?_; (repeat' first | exact Ef.mk | apply Lf.mk | refine fun (K : KT) hK hE hT => ?_ | refine fun (KS : KE) hKS => ?_ | refine fun (D : KD) hD => ?_ | refine fun (hg : (_ : Prop)) => ?_ | fail); all_goals (first | (refine Wr.mk ?_; (try clear gx); repeat first | clear hK hE hT K | clear hR hE hT K) | assumption | skip))
  all_goals (try simp only [EdgeD.mk.injEq, not_and] at *)
  all_goals (refine post_a hres (.inl rfl) ?_; simp only [RSB, ENB, seval, tiAll, *]; simp only [MAB, seval]; refine ⟨rfl, rfl, ?_, ?_, ?_⟩ <;> (first | rfl | (simp [WKB, Nat.add_comm, *]; done) | (simp only [WKB, seval])))
  all_goals (refine congrArg (fun b => SV.c (CV.v (Value.bool b))) ?_; symm; simp only [decide_eq_false_iff_not, decide_eq_true_eq]; first | omega | (intro h; simp_all))

set_option maxHeartbeats 2000000 in
theorem toEdgeS_k (l : List EdgeD) (hl : l.length ≤ 1048576) : FnOK Try.prog 42 ⟨1, [(0, some (.ro (l.map EdgeD.k)))], [.c (.sl 0 3 0 l.length)], .c (.sl 1 3 0 l.length), [(1, some (.row 119 (l.map EdgeD.k)))], 2⟩ := by
  refine fnOK_of true mixed Try.func42 rfl (by rfl) (by rfl) ?_
  have hres := congrArg Array.toList Try.results42
  simp only [Try.ntmps42, BGB, seval]
  (have gx := true_and True; refine go ?_; (repeat' first | exact Ef.mk | apply Lf.mk | refine fun (K : KT) hK hE hT => ?_ | refine fun (KS : KE) hKS => ?_ | refine fun (D : KD) hD => ?_ | refine fun (hg : (_ : Prop)) => ?_ | fail); all_goals (first | (refine Wr.mk ?_; (try clear gx); repeat first | clear hK hE hT K | clear hR hE hT K) | assumption | skip))
  refine loop_v (X := {k : Nat // k ≤ l.length}) [] (fun x => [(4, .c (.v (.int .i64 ((x.1 : Nat) : Int))))]) (fun x => [(0, some (.ro (l.map EdgeD.k))), (1, some (.row 119 (fillTo EdgeD.k (EdgeD.k ⟨0, 0, 0⟩) l x.1)))]) 2 (fun x => l.length - x.1) ⟨0, by omega⟩ ?_
  simp only [KPB, seval]
  refine ⟨?_, ?_⟩
  · (refine wk_a ?_; simp only [MAB, seval]; refine ⟨rfl, rfl, (by decide), ?_, ?_⟩; all_goals (first | (simp only [WKB, seval, fillTo_zero, EdgeD.k]; done) | (simp [WKB, seval, fillTo_zero, EdgeD.k]; done) | simp only [WKB, seval]))
  · rintro ⟨k, hk⟩ K hR hE hT
    (have gx := And.intro (@List.length_map.{0,0}) (And.intro (@List.getElem_map.{0,0}) (And.intro (@fillTo_len) (And.intro (@fillTo_get) (And.intro (@fillTo_set) (And.intro @EdgeD.k.eq_1 @EdgeD.s.eq_1))))); have q1 := fun hq1 => toEdge_k (l[k]'hq1); refine go ?_; (repeat' first | exact Ef.mk | apply Lf.mk | refine fun (K : KT) hK hE hT => ?_ | refine fun (KS : KE) hKS => ?_ | refine fun (D : KD) hD => ?_ | refine fun (hg : (_ : Prop)) => ?_ | fail); all_goals (first | (refine Wr.mk ?_; (try clear gx q1); repeat first | clear hK hE hT K | clear hR hE hT K) | assumption | skip))
    · refine hR.out ⟨k + 1, by omega⟩ _ _ _ (by simp only; omega) ?_
      have e := fillTo_set EdgeD.k (EdgeD.k ⟨0, 0, 0⟩) l k (by omega)
      simp only [EdgeD.k] at e
      (refine wk_a ?_; simp only [MAB, seval]; refine ⟨rfl, rfl, (by decide), ?_, ?_⟩; all_goals (first | (simp only [WKB, seval, e, EdgeD.k]; done) | (simp [WKB, seval, e, EdgeD.k]; done) | simp only [WKB, seval]))
    · obtain rfl : k = l.length := by omega
      (refine post_a hres (.inl rfl) ?_; simp only [RSB, ENB, seval, tiAll, fillTo_end]; simp only [MAB, seval]; refine ⟨rfl, rfl, ?_, ?_, ?_⟩ <;> (first | rfl | (simp [WKB, Nat.add_comm, fillTo_end]; done) | (simp only [WKB, seval])))

set_option maxHeartbeats 2000000 in
theorem eqEdgeS_k (l m : List EdgeD) (hl : l.length ≤ 1048576) (hm : m.length ≤ 1048576) : FnOK Try.prog 48 ⟨2, [(0, some (.ro (l.map EdgeD.k))), (1, some (.ro (m.map EdgeD.k)))], [.c (.sl 0 3 0 l.length), .c (.sl 1 3 0 m.length)], .c (.v (.bool (decide (l = m)))), [], 2⟩ := by
  refine fnOK_of true mixed Try.func48 rfl (by rfl) (by rfl) ?_
  have hres := congrArg Array.toList Try.results48
  simp only [Try.ntmps48, BGB, seval]
  (have gx := true_and True; refine go ?_; (repeat' first | exact Ef.mk | apply Lf.mk | refine fun (K : KT) hK hE hT => ?_ | refine fun (KS : KE) hKS => ?_ | refine fun (D : KD) hD => ?_ | refine fun (hg : (_ : Prop)) => ?_ | fail); all_goals (first | (refine Wr.mk ?_; (try clear gx); repeat first | clear hK hE hT K | clear hR hE hT K) | assumption | skip))
  · (have hfin := eqs_len (l := l) (m := m) (by omega); (refine post_a hres (.inl rfl) ?_; simp only [RSB, ENB, seval, tiAll, ← hfin]; simp only [MAB, seval]; refine ⟨rfl, rfl, ?_, ?_, ?_⟩ <;> (first | rfl | (simp [WKB, Nat.add_comm, ← hfin]; done) | (simp only [WKB, seval]))))
  · have hlm : l.length = m.length := by omega
    refine loop_v (X := {k : Nat // k ≤ l.length ∧ Rnd (∀ i, i < k → l[i]? = m[i]?)}) [] (fun x => [(5, .c (.v (.int .i64 ((x.1 : Nat) : Int))))]) (fun x => [(0, some (.ro (l.map EdgeD.k))), (1, some (.ro (m.map EdgeD.k)))]) 2 (fun x => l.length - x.1) ⟨0, by omega, ⟨fun i hi => by omega⟩⟩ ?_
    simp only [KPB, seval]
    refine ⟨?_, ?_⟩
    · (refine wk_a ?_; simp only [MAB, seval]; refine ⟨rfl, rfl, (by decide), ?_, ?_⟩; all_goals (first | (simp only [WKB, seval, true_and]; done) | (simp [WKB, seval, true_and]; done) | simp only [WKB, seval]))
    · rintro ⟨k, hk, hi⟩ K hR hE hT
      (have gx := And.intro (@List.length_map.{0,0}) (And.intro (@List.getElem_map.{0,0}) (And.intro @EdgeD.k.eq_1 @EdgeD.s.eq_1)); have q1 := fun hq1 hq2 => eqEdge_k (l[k]'hq1) (m[k]'hq2); refine go ?_; (repeat' first | exact Ef.mk | apply Lf.mk | refine fun (K : KT) hK hE hT => ?_ | refine fun (KS : KE) hKS => ?_ | refine fun (D : KD) hD => ?_ | refine fun (hg : (_ : Prop)) => ?_ | fail); all_goals (first | (refine Wr.mk ?_; (try clear gx q1); repeat first | clear hK hE hT K | clear hR hE hT K) | assumption | skip))
      · (have hfin := eqs_hit (l := l) (m := m) k (by omega) (by omega) (by assumption); (refine post_a hres (.inl rfl) ?_; simp only [RSB, ENB, seval, tiAll, ← hfin]; simp only [MAB, seval]; refine ⟨rfl, rfl, ?_, ?_, ?_⟩ <;> (first | rfl | (simp [WKB, Nat.add_comm, ← hfin]; done) | (simp only [WKB, seval]))))
      · refine hR.out ⟨k + 1, by omega, ⟨fun i h => ?_⟩⟩ _ _ _ (by simp only; omega) ?_
        · by_cases hik : i = k
          · subst hik
            rw [List.getElem?_eq_getElem (by omega), List.getElem?_eq_getElem (by omega)]
            exact congrArg some (by assumption)
          · exact hi.out i (by omega)
        · (refine wk_a ?_; simp only [MAB, seval]; refine ⟨rfl, rfl, (by decide), ?_, ?_⟩; all_goals (first | (simp only [WKB, seval, true_and]; done) | (simp [WKB, seval, true_and]; done) | simp only [WKB, seval]))
      · (have hfin := eqs_end (l := l) (m := m) hlm k (by omega) hi.out; (refine post_a hres (.inl rfl) ?_; simp only [RSB, ENB, seval, tiAll, ← hfin]; simp only [MAB, seval]; refine ⟨rfl, rfl, ?_, ?_, ?_⟩ <;> (first | rfl | (simp [WKB, Nat.add_comm, ← hfin]; done) | (simp only [WKB, seval]))))

set_option maxHeartbeats 4000000 in
theorem markEdgeS_k (l : List EdgeD) (k0 : Nat) (hk0 : k0 + 3 * l.length ≤ 1099511627776) : FnOK Try.prog 49 ⟨1, [(0, some (.row 119 (l.map EdgeD.k)))], [.c (.sl 0 3 0 l.length), .c (.v (.int .i64 (k0 : Int)))], .c (.v (.int .i64 ((k0 + 3 * l.length : Nat) : Int))), [(0, some (.row 119 ((List.range l.length).map (EdgeD.g k0))))], 1⟩ := by
  refine fnOK_of true mixed Try.func49 rfl (by rfl) (by rfl) ?_
  have hres := congrArg Array.toList Try.results49
  simp only [Try.ntmps49, BGB, seval]
  (have gx := true_and True; refine go ?_; (repeat' first | exact Ef.mk | apply Lf.mk | refine fun (K : KT) hK hE hT => ?_ | refine fun (KS : KE) hKS => ?_ | refine fun (D : KD) hD => ?_ | refine fun (hg : (_ : Prop)) => ?_ | fail); all_goals (first | (refine Wr.mk ?_; (try clear gx); repeat first | clear hK hE hT K | clear hR hE hT K) | assumption | skip))
  refine loop_v (X := {k : Nat // k ≤ l.length}) [] (fun x => [(1, .c (.v (.int .i64 ((k0 + 3 * x.1 : Nat) : Int)))), (5, .c (.v (.int .i64 ((x.1 : Nat) : Int))))]) (fun x => [(0, some (.row 119 (setTo (EdgeD.g k0) EdgeD.k l x.1)))]) 1 (fun x => l.length - x.1) ⟨0, by omega⟩ ?_
  simp only [KPB, seval]
  refine ⟨?_, ?_⟩
  · (refine wk_a ?_; simp only [MAB, seval]; refine ⟨rfl, rfl, (by decide), ?_, ?_⟩; all_goals (first | (simp only [WKB, seval, setTo_zero, Nat.mul_zero, Nat.add_zero]; done) | (simp [WKB, seval, setTo_zero, Nat.mul_zero, Nat.add_zero]; done) | simp only [WKB, seval]))
  · rintro ⟨k, hk⟩ K hR hE hT
    have sl := setTo_len (EdgeD.g k0) EdgeD.k l k hk
    obtain ⟨q, hq⟩ : ∃ q, q = k0 + 3 * k := ⟨_, rfl⟩
    simp only [← hq]
    rcases Nat.lt_or_ge k l.length with hlt | hge
    case inr =>
      (have gx := @sl; refine go ?_; (repeat' first | exact Ef.mk | apply Lf.mk | refine fun (K : KT) hK hE hT => ?_ | refine fun (KS : KE) hKS => ?_ | refine fun (D : KD) hD => ?_ | refine fun (hg : (_ : Prop)) => ?_ | fail); all_goals (first | (refine Wr.mk ?_; (try clear gx); repeat first | clear hK hE hT K | clear hR hE hT K) | assumption | skip))
      obtain rfl : k = l.length := by omega
      subst hq
      (refine post_a hres (.inl rfl) ?_; simp only [RSB, ENB, seval, tiAll, setTo_end]; simp only [MAB, seval]; refine ⟨rfl, rfl, ?_, ?_, ?_⟩ <;> (first | rfl | (simp [WKB, Nat.add_comm, setTo_end]; done) | (simp only [WKB, seval])))
    case inl =>
      have hq2 : q + 3 ≤ 1099511627776 := by have := Nat.mul_le_mul_left 3 (show k + 1 ≤ l.length from hlt); omega
      have sg := setTo_get (EdgeD.g k0) EdgeD.k l k hlt (by omega)
      simp only [EdgeD.k] at sg
      (have gx := And.intro (@sl) (And.intro (@sg) (And.intro (@List.length_set.{0}) (And.intro @List.getElem_set_self.{0} @List.set_set.{0}))); refine go ?_; (repeat' first | exact Ef.mk | apply Lf.mk | refine fun (K : KT) hK hE hT => ?_ | refine fun (KS : KE) hKS => ?_ | refine fun (D : KD) hD => ?_ | refine fun (hg : (_ : Prop)) => ?_ | fail); all_goals (first | (refine Wr.mk ?_; (try clear gx); repeat first | clear hK hE hT K | clear hR hE hT K) | assumption | skip))
      refine hR.out ⟨k + 1, by omega⟩ _ _ _ (by simp only; omega) ?_
      have e := setTo_set (EdgeD.g k0) EdgeD.k l k hlt
      simp only [EdgeD.g, ← hq, EdgeD.q] at e
      have e2 : (q : Int) + 1 + 1 + 1 = ((k0 + 3 * (k + 1) : Nat) : Int) := by omega
      (refine wk_a ?_; simp only [MAB, seval]; refine ⟨rfl, rfl, (by decide), ?_, ?_⟩; all_goals (first | (simp only [WKB, seval, EdgeD.g, e, e2]; done) | (simp [WKB, seval, EdgeD.g, e, e2]; done) | simp only [WKB, seval]))

theorem szEdgeS_k (n b : Nat) (es : List (List DC)) (he : es.length = n) (hw : n ≤ 9223372036854775807) (hb : b ≤ 1048576) : FnOK Try.prog 38 ⟨1, [(0, some (.ro es))], [.c (.sl 0 3 0 n), .c (.v (.int .i64 (b : Int)))], .c (.v (.int .i64 (szL b n))), [], 1⟩ := by
  refine fnOK_of true mixed Try.func38 rfl (by rfl) (by rfl) ?_
  have hres := congrArg Array.toList Try.results38
  simp only [Try.ntmps38, BGB, seval]
  (have gx := true_and True; refine go ?_; (repeat' first | exact Ef.mk | apply Lf.mk | refine fun (K : KT) hK hE hT => ?_ | refine fun (KS : KE) hKS => ?_ | refine fun (D : KD) hD => ?_ | refine fun (hg : (_ : Prop)) => ?_ | fail); all_goals (first | (refine Wr.mk ?_; (try clear gx); repeat first | clear hK hE hT K | clear hR hE hT K) | assumption | skip))
  · (refine post_a hres (.inl rfl) ?_; simp only [RSB, ENB, seval, tiAll, szL_neg b n (by omega)]; simp only [MAB, seval]; refine ⟨rfl, rfl, ?_, ?_, ?_⟩ <;> (first | rfl | (simp [WKB, Nat.add_comm, szL_neg b n (by omega)]; done) | (simp only [WKB, seval])))
  · (refine post_a hres (.inl rfl) ?_; simp only [RSB, ENB, seval, tiAll, szL_pos b n (by omega)]; simp only [MAB, seval]; refine ⟨rfl, rfl, ?_, ?_, ?_⟩ <;> (first | rfl | (simp [WKB, Nat.add_comm, szL_pos b n (by omega)]; done) | (simp only [WKB, seval])))

end Go.Proofs.Ytfnhchcgieeedaa

namespace Go.Proofs.Ytfnhchcgieeedaa
set_option linter.unusedSimpArgs false
set_option linter.unusedVariables false
set_option linter.defProp false
open Go.RowKit

set_option maxHeartbeats 2000000 in
theorem toGraph_k (x : GraphD) (h : (x.Edges).length ≤ 1048576) : FnOK Try.prog 10 ⟨1, [(0, some (.ro ((x.Edges).map EdgeD.k)))], [.agg [.v (.int .i64 x.N), .sl 0 3 0 (x.Edges).length]], .agg [.v (.int .i64 x.N), .sl 1 3 0 (x.Edges).length], [(1, some (.row 119 ((x.Edges).map EdgeD.k)))], 2⟩ := by
  obtain ⟨xN, xEdges⟩ := x
  dsimp only at h
  dsimp only
  refine fnOK_of true mixed Try.func10 rfl (by rfl) (by rfl) ?_
  have hres := congrArg Array.toList Try.results10
  simp only [Try.ntmps10, BGB, seval]
  (have gx := true_and True; have q1 := toEdgeS_k xEdges; refine go ?_; (repeat' first | exact Ef.mk | apply Lf.mk | refine fun (K : KT) hK hE hT => ?_ | refine fun (KS : KE) hKS => ?_ | refine fun (D : KD) hD => ?_ | refine fun (hg : (_ : Prop)) => ?_ | fail); all_goals (first | (refine Wr.mk ?_; (try clear gx q1); repeat first | clear hK hE hT K | clear hR hE hT K) | assumption | skip))
  (refine post_a hres (.inl rfl) ?_; simp only [RSB, ENB, seval, tiAll, true_and]; simp only [MAB, seval]; refine ⟨rfl, rfl, ?_, ?_, ?_⟩ <;> (first | rfl | (simp [WKB, Nat.add_comm, true_and]; done) | (simp only [WKB, seval])))

set_option maxHeartbeats 2000000 in
theorem eqGraph_k (x y : GraphD) (h : (x.Edges).length ≤ 1048576) (k : (y.Edges).length ≤ 1048576) : FnOK Try.prog 13 ⟨2, [(0, some (.ro ((x.Edges).map EdgeD.k))), (1, some (.ro ((y.Edges).map EdgeD.k)))], [.agg [.v (.int .i64 x.N), .sl 0 3 0 (x.Edges).length], .agg [.v (.int .i64 y.N), .sl 1 3 0 (y.Edges).length]], .c (.v (.bool (decide (x = y)))), [], 2⟩ := by
  obtain ⟨xN, xEdges⟩ := x
  obtain ⟨yN, yEdges⟩ := y
  simp only [GraphD.mk.injEq]
  dsimp only at h k
  refine fnOK_of true mixed Try.func13 rfl (by rfl) (by rfl) ?_
  have hres := congrArg Array.toList Try.results13
  simp only [Try.ntmps13, BGB, seval]
  (have gx := true_and True; have q1 := eqEdgeS_k xEdges yEdges; refine go ?_; (repeat' first | exact Ef.mk | apply Lf.mk | refine fun (K : KT) hK hE hT => ?_ | refine fun (KS : KE) hKS => ?_ | refine fun (D : KD) hD => ?_ | refine fun (hg : (_ : Prop)) => ?_ | fail); all_goals (first | (refine Wr.mk ?_; (try clear gx q1); repeat first | clear hK hE hT K | clear hR hE hT K) | assumption | skip))
  all_goals (try simp only [GraphD.mk.injEq, not_and] at *)
  all_goals (refine post_a hres (.inl rfl) ?_; simp only [RSB, ENB, seval, tiAll, *]; simp only [MAB, seval]; refine ⟨rfl, rfl, ?_, ?_, ?_⟩ <;> (first | rfl | (simp [WKB, Nat.add_comm, *]; done) | (simp only [WKB, seval])))
  all_goals (refine congrArg (fun b => SV.c (CV.v (Value.bool b))) ?_; symm; simp only [decide_eq_false_iff_not, decide_eq_true_eq]; (intro h; simp_all))

set_option maxHeartbeats 2000000 in
theorem markGraph_k (x : GraphD) (k : Nat) (h : (k + 3 * (x.Edges).length) ≤ 1099511627776) : FnOK Try.prog 14 ⟨1, [(0, some (.row 119 ((x.Edges).map EdgeD.k)))], [.agg [.v (.int .i64 x.N), .sl 0 3 0 (x.Edges).length], .c (.v (.int .i64 (k : Int)))], .c (.v (.int .i64 (((k + 3 * (x.Edges).length) : Nat) : Int))), [(0, some (.row 119 ((List.range (x.Edges).length).map (EdgeD.g k))))], 1⟩ := by
  obtain ⟨xN, xEdges⟩ := x
  dsimp only at h
  dsimp only
  refine fnOK_of true mixed Try.func14 rfl (by rfl) (by rfl) ?_
  have hres := congrArg Array.toList Try.results14
  simp only [Try.ntmps14, BGB, seval]
  (have gx := @range_len; have q1 := markEdgeS_k xEdges k; refine go ?_; (repeat' first | exact Ef.mk | apply Lf.mk | refine fun (K : KT) hK hE hT => ?_ | refine fun (KS : KE) hKS => ?_ | refine fun (D : KD) hD => ?_ | refine fun (hg : (_ : Prop)) => ?_ | fail); all_goals (first | (refine Wr.mk ?_; (try clear gx q1); repeat first | clear hK hE hT K | clear hR hE hT K) | assumption | skip))
  (refine post_a hres (.inl rfl) ?_; simp only [RSB, ENB, seval, tiAll, true_and]; simp only [MAB, seval]; refine ⟨rfl, rfl, ?_, ?_, ?_⟩ <;> (first | rfl | (simp [WKB, Nat.add_comm, true_and]; done) | (simp only [WKB, seval])))

set_option maxHeartbeats 4000000 in
theorem szGraph_k (x : GraphD) (b : Nat) (h : (x.Edges).length ≤ 9223372036854775807) (hb : b ≤ 1048576) : FnOK Try.prog 8 ⟨1, [(0, some (.ro ((x.Edges).map EdgeD.k)))], [.agg [.v (.int .i64 x.N), .sl 0 3 0 (x.Edges).length], .c (.v (.int .i64 (b : Int)))], .c (.v (.int .i64 (szL b ((x.Edges).length)))), [], 1⟩ := by
  obtain ⟨xN, xEdges⟩ := x
  dsimp only at h
  dsimp only
  refine fnOK_of true mixed Try.func8 rfl (by rfl) (by rfl) ?_
  have hres := congrArg Array.toList Try.results8
  simp only [Try.ntmps8, BGB, seval]
  rcases Nat.lt_or_ge b ((xEdges).length) with c0 | c0
  · have e0 : szL b ((xEdges).length) = -1 := szL_neg _ _ c0
    have e : szL b ((xEdges).length) = -1 := szL_neg _ _ (by omega)
    (have gx := @e0; have q1 := szEdgeS_k (xEdges).length (b) ((xEdges).map EdgeD.k) (by simp); refine go ?_; (repeat' first | exact Ef.mk | apply Lf.mk | refine fun (K : KT) hK hE hT => ?_ | refine fun (KS : KE) hKS => ?_ | refine fun (D : KD) hD => ?_ | refine fun (hg : (_ : Prop)) => ?_ | fail); all_goals (first | (refine Wr.mk ?_; (try clear gx q1); repeat first | clear hK hE hT K | clear hR hE hT K) | assumption | skip))
    (refine post_a hres (.inl rfl) ?_; simp only [RSB, ENB, seval, tiAll, e, e0]; simp only [MAB, seval]; refine ⟨rfl, rfl, ?_, ?_, ?_⟩ <;> (first | rfl | (simp [WKB, Nat.add_comm, e, e0]; done) | (simp only [WKB, seval])))
  · have e0 : szL b ((xEdges).length) = ((b - ((xEdges).length) : Nat) : Int) := szL_sub _ _ c0
    (have gx := @e0; have q1 := szEdgeS_k (xEdges).length (b) ((xEdges).map EdgeD.k) (by simp); refine go ?_; (repeat' first | exact Ef.mk | apply Lf.mk | refine fun (K : KT) hK hE hT => ?_ | refine fun (KS : KE) hKS => ?_ | refine fun (D : KD) hD => ?_ | refine fun (hg : (_ : Prop)) => ?_ | fail); all_goals (first | (refine Wr.mk ?_; (try clear gx q1); repeat first | clear hK hE hT K | clear hR hE hT K) | assumption | skip))
    (refine post_a hres (.inl rfl) ?_; simp only [RSB, ENB, seval, tiAll, e0, szL_sub b ((xEdges).length) (by omega)]; simp only [MAB, seval]; refine ⟨rfl, rfl, ?_, ?_, ?_⟩ <;> (first | rfl | (simp [WKB, Nat.add_comm, e0, szL_sub b ((xEdges).length) (by omega)]; done) | (simp only [WKB, seval])))
    all_goals (refine congrArg (fun z => SV.c (CV.v (Value.int .i64 z))) ?_; omega)

end Go.Proofs.Ytfnhchcgieeedaa
