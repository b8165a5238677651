/-
  The engine, texts G0 G1 G2 in one. No conditions of its own.
-/
import Derived.Test.YtfnhchcgieeedaaGO
import Derived.Test.YtfnhchcgieeedaaS1
namespace Go.Proofs.Ytfnhchcgieeedaa
set_option linter.unusedSimpArgs false
set_option linter.unusedVariables false
set_option linter.unusedSimpArgs false
set_option linter.unusedVariables false
set_option linter.defProp false
open Go.RowKit

def intQ (k i : Nat) : List DC := [.v (.int .i64 ((k + i : Nat) : Int))]
def bytQ (k i : Nat) : List DC := [.v (.int .u8 (IntKind.u8.wrap ((k + i : Nat) : Int)))]
theorem u8_eq {x y : UInt8} : (x.toNat : Int) = y.toNat ↔ x = y := by
  constructor
  · intro h; exact UInt8.toNat_inj.1 (by omega)
  · rintro rfl; rfl

set_option maxHeartbeats 2000000 in
theorem eqIntS_k (l m : List Int) (hl : l.length ≤ 1099511627776) (hm : m.length ≤ 1099511627776) : FnOK Try.prog 46 ⟨2, [(0, some (.ro (l.map intK))), (1, some (.ro (m.map intK)))], [.c (.sl 0 1 0 l.length), .c (.sl 1 1 0 m.length)], .c (.v (.bool (decide (l = m)))), [], 2⟩ := by
  refine fnOK_of true mixed Try.func46 rfl (by rfl) (by rfl) ?_
  have hres := congrArg Array.toList Try.results46
  simp only [Try.ntmps46, BGB, seval]
  (have gx := true_and True; refine go ?_; (repeat' first | exact Ef.mk | apply Lf.mk | refine fun (K : KT) hK hE hT => ?_ | refine fun (KS : KE) hKS => ?_ | refine fun (D : KD) hD => ?_ | refine fun (hg : (_ : Prop)) => ?_ | fail); all_goals (first | (refine Wr.mk ?_; (try clear gx); repeat first | clear hK hE hT K | clear hR hE hT K) | assumption | skip))
  · (have hfin := eqs_len (l := l) (m := m) (by omega); (refine post_a hres (.inl rfl) ?_; simp only [RSB, ENB, seval, tiAll, ← hfin]; simp only [MAB, seval]; refine ⟨rfl, rfl, ?_, ?_, ?_⟩ <;> (first | rfl | (simp [WKB, Nat.add_comm, ← hfin]; done) | (simp only [WKB, seval]))))
  · have hlm : l.length = m.length := by omega
    refine loop_v (X := {k : Nat // k ≤ l.length ∧ Rnd (∀ i, i < k → l[i]? = m[i]?)}) [] (fun x => [(5, .c (.v (.int .i64 ((x.1 : Nat) : Int))))]) (fun x => [(0, some (.ro (l.map intK))), (1, some (.ro (m.map intK)))]) 2 (fun x => l.length - x.1) ⟨0, by omega, ⟨fun i hi => by omega⟩⟩ ?_
    simp only [KPB, seval]
    refine ⟨?_, ?_⟩
    · (refine wk_a ?_; simp only [MAB, seval]; refine ⟨rfl, rfl, (by decide), ?_, ?_⟩; all_goals (first | (simp only [WKB, seval, true_and]; done) | (simp [WKB, seval, true_and]; done) | simp only [WKB, seval]))
    · rintro ⟨k, hk, hi⟩ K hR hE hT
      (have gx := And.intro (@List.length_map.{0,0}) (And.intro @List.getElem_map.{0,0} @intK.eq_1); refine go ?_; (repeat' first | exact Ef.mk | apply Lf.mk | refine fun (K : KT) hK hE hT => ?_ | refine fun (KS : KE) hKS => ?_ | refine fun (D : KD) hD => ?_ | refine fun (hg : (_ : Prop)) => ?_ | fail); all_goals (first | (refine Wr.mk ?_; (try clear gx); repeat first | clear hK hE hT K | clear hR hE hT K) | assumption | skip))
      · (have hfin := eqs_hit (l := l) (m := m) k (by omega) (by omega) (by first | assumption | (intro h; have := u8_eq.2 h; omega)); (refine post_a hres (.inl rfl) ?_; simp only [RSB, ENB, seval, tiAll, ← hfin]; simp only [MAB, seval]; refine ⟨rfl, rfl, ?_, ?_, ?_⟩ <;> (first | rfl | (simp [WKB, Nat.add_comm, ← hfin]; done) | (simp only [WKB, seval]))))
      · refine hR.out ⟨k + 1, by omega, ⟨fun i h => ?_⟩⟩ _ _ _ (by simp only; omega) ?_
        · by_cases hik : i = k
          · subst hik
            rw [List.getElem?_eq_getElem (by omega), List.getElem?_eq_getElem (by omega)]
            exact congrArg some (by first | assumption | (apply u8_eq.1; assumption))
          · exact hi.out i (by omega)
        · (refine wk_a ?_; simp only [MAB, seval]; refine ⟨rfl, rfl, (by decide), ?_, ?_⟩; all_goals (first | (simp only [WKB, seval, true_and]; done) | (simp [WKB, seval, true_and]; done) | simp only [WKB, seval]))
      · (have hfin := eqs_end (l := l) (m := m) hlm k (by omega) hi.out; (refine post_a hres (.inl rfl) ?_; simp only [RSB, ENB, seval, tiAll, ← hfin]; simp only [MAB, seval]; refine ⟨rfl, rfl, ?_, ?_, ?_⟩ <;> (first | rfl | (simp [WKB, Nat.add_comm, ← hfin]; done) | (simp only [WKB, seval]))))

set_option maxHeartbeats 4000000 in
theorem markIntS_k (l : List Int) (k0 : Nat) (hk0 : k0 + l.length ≤ 1099511627776) : FnOK Try.prog 50 ⟨1, [(0, some (.row 3 (l.map intK)))], [.c (.sl 0 1 0 l.length), .c (.v (.int .i64 (k0 : Int)))], .c (.v (.int .i64 ((k0 + l.length : Nat) : Int))), [(0, some (.row 3 ((List.range l.length).map (intQ k0))))], 1⟩ := by
  refine fnOK_of true mixed Try.func50 rfl (by rfl) (by rfl) ?_
  have hres := congrArg Array.toList Try.results50
  simp only [Try.ntmps50, BGB, seval]
  (have gx := true_and True; refine go ?_; (repeat' first | exact Ef.mk | apply Lf.mk | refine fun (K : KT) hK hE hT => ?_ | refine fun (KS : KE) hKS => ?_ | refine fun (D : KD) hD => ?_ | refine fun (hg : (_ : Prop)) => ?_ | fail); all_goals (first | (refine Wr.mk ?_; (try clear gx); repeat first | clear hK hE hT K | clear hR hE hT K) | assumption | skip))
  refine loop_v (X := {k : Nat // k ≤ l.length}) [] (fun x => [(1, .c (.v (.int .i64 ((k0 + x.1 : Nat) : Int)))), (5, .c (.v (.int .i64 ((x.1 : Nat) : Int))))]) (fun x => [(0, some (.row 3 (setTo (intQ k0) intK l x.1)))]) 1 (fun x => l.length - x.1) ⟨0, by omega⟩ ?_
  simp only [KPB, seval]
  refine ⟨?_, ?_⟩
  · (refine wk_a ?_; simp only [MAB, seval]; refine ⟨rfl, rfl, (by decide), ?_, ?_⟩; all_goals (first | (simp only [WKB, seval, setTo_zero, Nat.mul_zero, Nat.add_zero]; done) | (simp [WKB, seval, setTo_zero, Nat.mul_zero, Nat.add_zero]; done) | simp only [WKB, seval]))
  · rintro ⟨k, hk⟩ K hR hE hT
    have sl := setTo_len (intQ k0) intK l k hk
    obtain ⟨q, hq⟩ : ∃ q, q = k0 + k := ⟨_, rfl⟩
    simp only [← hq]
    rcases Nat.lt_or_ge k l.length with hlt | hge
    case inr =>
      (have gx := @sl; refine go ?_; (repeat' first | exact Ef.mk | apply Lf.mk | refine fun (K : KT) hK hE hT => ?_ | refine fun (KS : KE) hKS => ?_ | refine fun (D : KD) hD => ?_ | refine fun (hg : (_ : Prop)) => ?_ | fail); all_goals (first | (refine Wr.mk ?_; (try clear gx); repeat first | clear hK hE hT K | clear hR hE hT K) | assumption | skip))
      obtain rfl : k = l.length := by omega
      subst hq
      (refine post_a hres (.inl rfl) ?_; simp only [RSB, ENB, seval, tiAll, setTo_end]; simp only [MAB, seval]; refine ⟨rfl, rfl, ?_, ?_, ?_⟩ <;> (first | rfl | (simp [WKB, Nat.add_comm, setTo_end]; done) | (simp only [WKB, seval])))
    case inl =>
      have sg := setTo_get (intQ k0) intK l k hlt (by omega)
      simp only [intK] at sg
      (have gx := And.intro (@sl) (And.intro (@sg) (And.intro (@List.length_set.{0}) (And.intro @List.getElem_set_self.{0} @List.set_set.{0}))); refine go ?_; (repeat' first | exact Ef.mk | apply Lf.mk | refine fun (K : KT) hK hE hT => ?_ | refine fun (KS : KE) hKS => ?_ | refine fun (D : KD) hD => ?_ | refine fun (hg : (_ : Prop)) => ?_ | fail); all_goals (first | (refine Wr.mk ?_; (try clear gx); repeat first | clear hK hE hT K | clear hR hE hT K) | assumption | skip))
      refine hR.out ⟨k + 1, by omega⟩ _ _ _ (by simp only; omega) ?_
      have e := setTo_set (intQ k0) intK l k hlt
      simp only [intQ, ← hq] at e
      have e2 : (q : Int) + 1 = ((k0 + (k + 1) : Nat) : Int) := by omega
      (refine wk_a ?_; simp only [MAB, seval]; refine ⟨rfl, rfl, (by decide), ?_, ?_⟩; all_goals (first | (simp only [WKB, seval, intQ, e, e2]; done) | (simp [WKB, seval, intQ, e, e2]; done) | simp only [WKB, seval]))

set_option maxHeartbeats 4000000 in
theorem heldIntS_k (n : Nat) (k0 : Nat) (hk0 : k0 + n ≤ 1099511627776) : FnOK Try.prog 52 ⟨1, [(0, some (.ro ((List.range n).map (intQ k0))))], [.c (.sl 0 1 0 n), .c (.v (.int .i64 (k0 : Int)))], .c (.v (.int .i64 ((k0 + n : Nat) : Int))), [], 1⟩ := by
  refine fnOK_of true mixed Try.func52 rfl (by rfl) (by rfl) ?_
  have hres := congrArg Array.toList Try.results52
  simp only [Try.ntmps52, BGB, seval]
  (have gx := true_and True; refine go ?_; (repeat' first | exact Ef.mk | apply Lf.mk | refine fun (K : KT) hK hE hT => ?_ | refine fun (KS : KE) hKS => ?_ | refine fun (D : KD) hD => ?_ | refine fun (hg : (_ : Prop)) => ?_ | fail); all_goals (first | (refine Wr.mk ?_; (try clear gx); repeat first | clear hK hE hT K | clear hR hE hT K) | assumption | skip))
  refine loop_v (X := {k : Nat // k ≤ n}) [] (fun x => [(1, .c (.v (.int .i64 ((k0 + x.1 : Nat) : Int)))), (5, .c (.v (.int .i64 ((x.1 : Nat) : Int))))]) (fun x => [(0, some (.ro ((List.range n).map (intQ k0))))]) 1 (fun x => n - x.1) ⟨0, by omega⟩ ?_
  simp only [KPB, seval]
  refine ⟨?_, ?_⟩
  · (refine wk_a ?_; simp only [MAB, seval]; refine ⟨rfl, rfl, (by decide), ?_, ?_⟩; all_goals (first | (simp only [WKB, seval, Nat.mul_zero, Nat.add_zero]; done) | (simp [WKB, seval, Nat.mul_zero, Nat.add_zero]; done) | simp only [WKB, seval]))
  · rintro ⟨k, hk⟩ K hR hE hT
    obtain ⟨q, hq⟩ : ∃ q, q = k0 + k := ⟨_, rfl⟩
    simp only [← hq]
    rcases Nat.lt_or_ge k n with hlt | hge
    case inr =>
      (have gx := @range_len; refine go ?_; (repeat' first | exact Ef.mk | apply Lf.mk | refine fun (K : KT) hK hE hT => ?_ | refine fun (KS : KE) hKS => ?_ | refine fun (D : KD) hD => ?_ | refine fun (hg : (_ : Prop)) => ?_ | fail); all_goals (first | (refine Wr.mk ?_; (try clear gx); repeat first | clear hK hE hT K | clear hR hE hT K) | assumption | skip))
      obtain rfl : k = n := by omega
      subst hq
      (refine post_a hres (.inl rfl) ?_; simp only [RSB, ENB, seval, tiAll, true_and]; simp only [MAB, seval]; refine ⟨rfl, rfl, ?_, ?_, ?_⟩ <;> (first | rfl | (simp [WKB, Nat.add_comm, true_and]; done) | (simp only [WKB, seval])))
    case inl =>
      (have gx := And.intro (@range_len) (And.intro (@range_get) (And.intro @intQ.eq_1 (hq).symm)); refine go ?_; (repeat' first | exact Ef.mk | apply Lf.mk | refine fun (K : KT) hK hE hT => ?_ | refine fun (KS : KE) hKS => ?_ | refine fun (D : KD) hD => ?_ | refine fun (hg : (_ : Prop)) => ?_ | fail); all_goals (first | (refine Wr.mk ?_; (try clear gx); repeat first | clear hK hE hT K | clear hR hE hT K) | assumption | skip))
      refine hR.out ⟨k + 1, by omega⟩ _ _ _ (by simp only; omega) ?_
      have e2 : (q : Int) + 1 = ((k0 + (k + 1) : Nat) : Int) := by omega
      (refine wk_a ?_; simp only [MAB, seval]; refine ⟨rfl, rfl, (by decide), ?_, ?_⟩; all_goals (first | (simp only [WKB, seval, e2]; done) | (simp [WKB, seval, e2]; done) | simp only [WKB, seval]))

set_option maxHeartbeats 2000000 in
theorem toByteS_k (l : List UInt8) (hl : l.length ≤ 1048576) : FnOK Try.prog 128 ⟨1, [(0, some (.ro (l.map bytK)))], [.c (.sl 0 1 0 l.length)], .c (.sl 1 1 0 l.length), [(1, some (.row 5 (l.map bytK)))], 2⟩ := by
  refine fnOK_of true mixed Try.func128 rfl (by rfl) (by rfl) ?_
  have hres := congrArg Array.toList Try.results128
  simp only [Try.ntmps128, BGB, seval]
  (have gx := true_and True; refine go ?_; (repeat' first | exact Ef.mk | apply Lf.mk | refine fun (K : KT) hK hE hT => ?_ | refine fun (KS : KE) hKS => ?_ | refine fun (D : KD) hD => ?_ | refine fun (hg : (_ : Prop)) => ?_ | fail); all_goals (first | (refine Wr.mk ?_; (try clear gx); repeat first | clear hK hE hT K | clear hR hE hT K) | assumption | skip))
  refine loop_v (X := {k : Nat // k ≤ l.length}) [] (fun x => [(4, .c (.v (.int .i64 ((x.1 : Nat) : Int))))]) (fun x => [(0, some (.ro (l.map bytK))), (1, some (.row 5 (fillTo bytK [.v (.int .u8 0)] l x.1)))]) 2 (fun x => l.length - x.1) ⟨0, by omega⟩ ?_
  simp only [KPB, seval]
  refine ⟨?_, ?_⟩
  · (refine wk_a ?_; simp only [MAB, seval]; refine ⟨rfl, rfl, (by decide), ?_, ?_⟩; all_goals (first | (simp only [WKB, seval, fillTo_zero]; done) | (simp [WKB, seval, fillTo_zero]; done) | simp only [WKB, seval]))
  · rintro ⟨k, hk⟩ K hR hE hT
    (have gx := And.intro (@List.length_map.{0,0}) (And.intro (@List.getElem_map.{0,0}) (And.intro (@fillTo_len) (And.intro (@fillTo_get) (And.intro @fillTo_set @bytK.eq_1)))); refine go ?_; (repeat' first | exact Ef.mk | apply Lf.mk | refine fun (K : KT) hK hE hT => ?_ | refine fun (KS : KE) hKS => ?_ | refine fun (D : KD) hD => ?_ | refine fun (hg : (_ : Prop)) => ?_ | fail); all_goals (first | (refine Wr.mk ?_; (try clear gx); repeat first | clear hK hE hT K | clear hR hE hT K) | assumption | skip))
    · refine hR.out ⟨k + 1, by omega⟩ _ _ _ (by simp only; omega) ?_
      have e := fillTo_set bytK [.v (.int .u8 0)] l k (by omega)
      simp only [bytK] at e
      (refine wk_a ?_; simp only [MAB, seval]; refine ⟨rfl, rfl, (by decide), ?_, ?_⟩; all_goals (first | (simp only [WKB, seval, e]; done) | (simp [WKB, seval, e]; done) | simp only [WKB, seval]))
    · obtain rfl : k = l.length := by omega
      (refine post_a hres (.inl rfl) ?_; simp only [RSB, ENB, seval, tiAll, fillTo_end]; simp only [MAB, seval]; refine ⟨rfl, rfl, ?_, ?_, ?_⟩ <;> (first | rfl | (simp [WKB, Nat.add_comm, fillTo_end]; done) | (simp only [WKB, seval])))

set_option maxHeartbeats 2000000 in
theorem eqByteS_k (l m : List UInt8) (hl : l.length ≤ 1099511627776) (hm : m.length ≤ 1099511627776) : FnOK Try.prog 113 ⟨2, [(0, some (.ro (l.map bytK))), (1, some (.ro (m.map bytK)))], [.c (.sl 0 1 0 l.length), .c (.sl 1 1 0 m.length)], .c (.v (.bool (decide (l = m)))), [], 2⟩ := by
  refine fnOK_of true mixed Try.func113 rfl (by rfl) (by rfl) ?_
  have hres := congrArg Array.toList Try.results113
  simp only [Try.ntmps113, BGB, seval]
  (have gx := true_and True; refine go ?_; (repeat' first | exact Ef.mk | apply Lf.mk | refine fun (K : KT) hK hE hT => ?_ | refine fun (KS : KE) hKS => ?_ | refine fun (D : KD) hD => ?_ | refine fun (hg : (_ : Prop)) => ?_ | fail); all_goals (first | (refine Wr.mk ?_; (try clear gx); repeat first | clear hK hE hT K | clear hR hE hT K) | assumption | skip))
  · (have hfin := eqs_len (l := l) (m := m) (by omega); (refine post_a hres (.inl rfl) ?_; simp only [RSB, ENB, seval, tiAll, ← hfin]; simp only [MAB, seval]; refine ⟨rfl, rfl, ?_, ?_, ?_⟩ <;> (first | rfl | (simp [WKB, Nat.add_comm, ← hfin]; done) | (simp only [WKB, seval]))))
  · have hlm : l.length = m.length := by omega
    refine loop_v (X := {k : Nat // k ≤ l.length ∧ Rnd (∀ i, i < k → l[i]? = m[i]?)}) [] (fun x => [(5, .c (.v (.int .i64 ((x.1 : Nat) : Int))))]) (fun x => [(0, some (.ro (l.map bytK))), (1, some (.ro (m.map bytK)))]) 2 (fun x => l.length - x.1) ⟨0, by omega, ⟨fun i hi => by omega⟩⟩ ?_
    simp only [KPB, seval]
    refine ⟨?_, ?_⟩
    · (refine wk_a ?_; simp only [MAB, seval]; refine ⟨rfl, rfl, (by decide), ?_, ?_⟩; all_goals (first | (simp only [WKB, seval, true_and]; done) | (simp [WKB, seval, true_and]; done) | simp only [WKB, seval]))
    · rintro ⟨k, hk, hi⟩ K hR hE hT
      (have gx := And.intro (@List.length_map.{0,0}) (And.intro @List.getElem_map.{0,0} @bytK.eq_1); refine go ?_; (repeat' first | exact Ef.mk | apply Lf.mk | refine fun (K : KT) hK hE hT => ?_ | refine fun (KS : KE) hKS => ?_ | refine fun (D : KD) hD => ?_ | refine fun (hg : (_ : Prop)) => ?_ | fail); all_goals (first | (refine Wr.mk ?_; (try clear gx); repeat first | clear hK hE hT K | clear hR hE hT K) | assumption | skip))
      · (have hfin := eqs_hit (l := l) (m := m) k (by omega) (by omega) (by first | assumption | (intro h; have := u8_eq.2 h; omega)); (refine post_a hres (.inl rfl) ?_; simp only [RSB, ENB, seval, tiAll, ← hfin]; simp only [MAB, seval]; refine ⟨rfl, rfl, ?_, ?_, ?_⟩ <;> (first | rfl | (simp [WKB, Nat.add_comm, ← hfin]; done) | (simp only [WKB, seval]))))
      · refine hR.out ⟨k + 1, by omega, ⟨fun i h => ?_⟩⟩ _ _ _ (by simp only; omega) ?_
        · by_cases hik : i = k
          · subst hik
            rw [List.getElem?_eq_getElem (by omega), List.getElem?_eq_getElem (by omega)]
            exact congrArg some (by first | assumption | (apply u8_eq.1; assumption))
          · exact hi.out i (by omega)
        · (refine wk_a ?_; simp only [MAB, seval]; refine ⟨rfl, rfl, (by decide), ?_, ?_⟩; all_goals (first | (simp only [WKB, seval, true_and]; done) | (simp [WKB, seval, true_and]; done) | simp only [WKB, seval]))
      · (have hfin := eqs_end (l := l) (m := m) hlm k (by omega) hi.out; (refine post_a hres (.inl rfl) ?_; simp only [RSB, ENB, seval, tiAll, ← hfin]; simp only [MAB, seval]; refine ⟨rfl, rfl, ?_, ?_, ?_⟩ <;> (first | rfl | (simp [WKB, Nat.add_comm, ← hfin]; done) | (simp only [WKB, seval]))))

set_option maxHeartbeats 4000000 in
theorem markByteS_k (l : List UInt8) (k0 : Nat) (hk0 : k0 + l.length ≤ 1099511627776) : FnOK Try.prog 66 ⟨1, [(0, some (.row 5 (l.map bytK)))], [.c (.sl 0 1 0 l.length), .c (.v (.int .i64 (k0 : Int)))], .c (.v (.int .i64 ((k0 + l.length : Nat) : Int))), [(0, some (.row 5 ((List.range l.length).map (bytQ k0))))], 1⟩ := by
  refine fnOK_of true mixed Try.func66 rfl (by rfl) (by rfl) ?_
  have hres := congrArg Array.toList Try.results66
  simp only [Try.ntmps66, BGB, seval]
  (have gx := true_and True; refine go ?_; (repeat' first | exact Ef.mk | apply Lf.mk | refine fun (K : KT) hK hE hT => ?_ | refine fun (KS : KE) hKS => ?_ | refine fun (D : KD) hD => ?_ | refine fun (hg : (_ : Prop)) => ?_ | fail); all_goals (first | (refine Wr.mk ?_; (try clear gx); repeat first | clear hK hE hT K | clear hR hE hT K) | assumption | skip))
  refine loop_v (X := {k : Nat // k ≤ l.length}) [] (fun x => [(1, .c (.v (.int .i64 ((k0 + x.1 : Nat) : Int)))), (5, .c (.v (.int .i64 ((x.1 : Nat) : Int))))]) (fun x => [(0, some (.row 5 (setTo (bytQ k0) bytK l x.1)))]) 1 (fun x => l.length - x.1) ⟨0, by omega⟩ ?_
  simp only [KPB, seval]
  refine ⟨?_, ?_⟩
  · (refine wk_a ?_; simp only [MAB, seval]; refine ⟨rfl, rfl, (by decide), ?_, ?_⟩; all_goals (first | (simp only [WKB, seval, setTo_zero, Nat.mul_zero, Nat.add_zero]; done) | (simp [WKB, seval, setTo_zero, Nat.mul_zero, Nat.add_zero]; done) | simp only [WKB, seval]))
  · rintro ⟨k, hk⟩ K hR hE hT
    have sl := setTo_len (bytQ k0) bytK l k hk
    obtain ⟨q, hq⟩ : ∃ q, q = k0 + k := ⟨_, rfl⟩
    simp only [← hq]
    rcases Nat.lt_or_ge k l.length with hlt | hge
    case inr =>
      (have gx := @sl; refine go ?_; (repeat' first | exact Ef.mk | apply Lf.mk | refine fun (K : KT) hK hE hT => ?_ | refine fun (KS : KE) hKS => ?_ | refine fun (D : KD) hD => ?_ | refine fun (hg : (_ : Prop)) => ?_ | fail); all_goals (first | (refine Wr.mk ?_; (try clear gx); repeat first | clear hK hE hT K | clear hR hE hT K) | assumption | skip))
      obtain rfl : k = l.length := by omega
      subst hq
      (refine post_a hres (.inl rfl) ?_; simp only [RSB, ENB, seval, tiAll, setTo_end]; simp only [MAB, seval]; refine ⟨rfl, rfl, ?_, ?_, ?_⟩ <;> (first | rfl | (simp [WKB, Nat.add_comm, setTo_end]; done) | (simp only [WKB, seval])))
    case inl =>
      have sg := setTo_get (bytQ k0) bytK l k hlt (by omega)
      simp only [bytK] at sg
      (have gx := And.intro (@sl) (And.intro (@sg) (And.intro (@List.length_set.{0}) (And.intro @List.getElem_set_self.{0} @List.set_set.{0}))); refine go ?_; (repeat' first | exact Ef.mk | apply Lf.mk | refine fun (K : KT) hK hE hT => ?_ | refine fun (KS : KE) hKS => ?_ | refine fun (D : KD) hD => ?_ | refine fun (hg : (_ : Prop)) => ?_ | fail); all_goals (first | (refine Wr.mk ?_; (try clear gx); repeat first | clear hK hE hT K | clear hR hE hT K) | assumption | skip))
      refine hR.out ⟨k + 1, by omega⟩ _ _ _ (by simp only; omega) ?_
      have e := setTo_set (bytQ k0) bytK l k hlt
      simp only [bytQ, ← hq] at e
      have e2 : (q : Int) + 1 = ((k0 + (k + 1) : Nat) : Int) := by omega
      (refine wk_a ?_; simp only [MAB, seval]; refine ⟨rfl, rfl, (by decide), ?_, ?_⟩; all_goals (first | (simp only [WKB, seval, bytQ, e, e2]; done) | (simp [WKB, seval, bytQ, e, e2]; done) | simp only [WKB, seval]))

set_option maxHeartbeats 4000000 in
theorem heldByteS_k (n : Nat) (k0 : Nat) (hk0 : k0 + n ≤ 1099511627776) : FnOK Try.prog 67 ⟨1, [(0, some (.ro ((List.range n).map (bytQ k0))))], [.c (.sl 0 1 0 n), .c (.v (.int .i64 (k0 : Int)))], .c (.v (.int .i64 ((k0 + n : Nat) : Int))), [], 1⟩ := by
  refine fnOK_of true mixed Try.func67 rfl (by rfl) (by rfl) ?_
  have hres := congrArg Array.toList Try.results67
  simp only [Try.ntmps67, BGB, seval]
  (have gx := true_and True; refine go ?_; (repeat' first | exact Ef.mk | apply Lf.mk | refine fun (K : KT) hK hE hT => ?_ | refine fun (KS : KE) hKS => ?_ | refine fun (D : KD) hD => ?_ | refine fun (hg : (_ : Prop)) => ?_ | fail); all_goals (first | (refine Wr.mk ?_; (try clear gx); repeat first | clear hK hE hT K | clear hR hE hT K) | assumption | skip))
  refine loop_v (X := {k : Nat // k ≤ n}) [] (fun x => [(1, .c (.v (.int .i64 ((k0 + x.1 : Nat) : Int)))), (5, .c (.v (.int .i64 ((x.1 : Nat) : Int))))]) (fun x => [(0, some (.ro ((List.range n).map (bytQ k0))))]) 1 (fun x => n - x.1) ⟨0, by omega⟩ ?_
  simp only [KPB, seval]
  refine ⟨?_, ?_⟩
  · (refine wk_a ?_; simp only [MAB, seval]; refine ⟨rfl, rfl, (by decide), ?_, ?_⟩; all_goals (first | (simp only [WKB, seval, Nat.mul_zero, Nat.add_zero]; done) | (simp [WKB, seval, Nat.mul_zero, Nat.add_zero]; done) | simp only [WKB, seval]))
  · rintro ⟨k, hk⟩ K hR hE hT
    obtain ⟨q, hq⟩ : ∃ q, q = k0 + k := ⟨_, rfl⟩
    simp only [← hq]
    rcases Nat.lt_or_ge k n with hlt | hge
    case inr =>
      (have gx := @range_len; refine go ?_; (repeat' first | exact Ef.mk | apply Lf.mk | refine fun (K : KT) hK hE hT => ?_ | refine fun (KS : KE) hKS => ?_ | refine fun (D : KD) hD => ?_ | refine fun (hg : (_ : Prop)) => ?_ | fail); all_goals (first | (refine Wr.mk ?_; (try clear gx); repeat first | clear hK hE hT K | clear hR hE hT K) | assumption | skip))
      obtain rfl : k = n := by omega
      subst hq
      (refine post_a hres (.inl rfl) ?_; simp only [RSB, ENB, seval, tiAll, true_and]; simp only [MAB, seval]; refine ⟨rfl, rfl, ?_, ?_, ?_⟩ <;> (first | rfl | (simp [WKB, Nat.add_comm, true_and]; done) | (simp only [WKB, seval])))
    case inl =>
      (have gx := And.intro (@range_len) (And.intro (@range_get) (And.intro @bytQ.eq_1 (hq).symm)); refine go ?_; (repeat' first | exact Ef.mk | apply Lf.mk | refine fun (K : KT) hK hE hT => ?_ | refine fun (KS : KE) hKS => ?_ | refine fun (D : KD) hD => ?_ | refine fun (hg : (_ : Prop)) => ?_ | fail); all_goals (first | (refine Wr.mk ?_; (try clear gx); repeat first | clear hK hE hT K | clear hR hE hT K) | assumption | skip))
      refine hR.out ⟨k + 1, by omega⟩ _ _ _ (by simp only; omega) ?_
      have e2 : (q : Int) + 1 = ((k0 + (k + 1) : Nat) : Int) := by omega
      (refine wk_a ?_; simp only [MAB, seval]; refine ⟨rfl, rfl, (by decide), ?_, ?_⟩; all_goals (first | (simp only [WKB, seval, e2]; done) | (simp [WKB, seval, e2]; done) | simp only [WKB, seval]))

theorem szByteS_k (n b : Nat) (es : List (List DC)) (he : es.length = n) (hw : n ≤ 9223372036854775807) (hb : b ≤ 1048576) : FnOK Try.prog 127 ⟨1, [(0, some (.ro es))], [.c (.sl 0 1 0 n), .c (.v (.int .i64 (b : Int)))], .c (.v (.int .i64 (szL b n))), [], 1⟩ := by
  refine fnOK_of true mixed Try.func127 rfl (by rfl) (by rfl) ?_
  have hres := congrArg Array.toList Try.results127
  simp only [Try.ntmps127, BGB, seval]
  (have gx := true_and True; refine go ?_; (repeat' first | exact Ef.mk | apply Lf.mk | refine fun (K : KT) hK hE hT => ?_ | refine fun (KS : KE) hKS => ?_ | refine fun (D : KD) hD => ?_ | refine fun (hg : (_ : Prop)) => ?_ | fail); all_goals (first | (refine Wr.mk ?_; (try clear gx); repeat first | clear hK hE hT K | clear hR hE hT K) | assumption | skip))
  · (refine post_a hres (.inl rfl) ?_; simp only [RSB, ENB, seval, tiAll, szL_neg b n (by omega)]; simp only [MAB, seval]; refine ⟨rfl, rfl, ?_, ?_, ?_⟩ <;> (first | rfl | (simp [WKB, Nat.add_comm, szL_neg b n (by omega)]; done) | (simp only [WKB, seval])))
  · (refine post_a hres (.inl rfl) ?_; simp only [RSB, ENB, seval, tiAll, szL_pos b n (by omega)]; simp only [MAB, seval]; refine ⟨rfl, rfl, ?_, ?_, ?_⟩ <;> (first | rfl | (simp [WKB, Nat.add_comm, szL_pos b n (by omega)]; done) | (simp only [WKB, seval])))

end Go.Proofs.Ytfnhchcgieeedaa
namespace Go.Proofs.Ytfnhchcgieeedaa
set_option linter.unusedSimpArgs false
set_option linter.unusedVariables false
set_option linter.defProp false
open Go.RowKit

structure SEdgeD where
  From : Int
  To : Int
  W : Int
  Index : Int
  Val : Int
deriving DecidableEq

def SEdgeD.k (x : SEdgeD) : List DC := [.v (.int .i64 x.From), .v (.int .i64 x.To), .v (.int .i64 x.W), .v (.int .i64 x.Index), .v (.int .i64 x.Val)]
def SEdgeD.s (x : SEdgeD) : List CV := [.v (.int .i64 x.From), .v (.int .i64 x.To), .v (.int .i64 x.W), .v (.int .i64 x.Index), .v (.int .i64 x.Val)]
theorem flat_SEdge (l : List SEdgeD) : ∀ e ∈ l.map SEdgeD.k, ∀ c ∈ e, DC.flat c := flat_map (fun x c hc => by simp only [SEdgeD.k, List.mem_cons, List.not_mem_nil, or_false] at hc; rcases hc with rfl | rfl | rfl | rfl | rfl <;> exact ⟨_, rfl, rfl⟩) l
/-- marked cells -/
def SEdgeD.q (q : Nat) : List DC := [.v (.int .i64 ((q : Int))), .v (.int .i64 ((q : Int) + 1)), .v (.int .i64 ((q : Int) + 1 + 1)), .v (.int .i64 ((q : Int) + 1 + 1 + 1)), .v (.int .i64 ((q : Int) + 1 + 1 + 1 + 1))]
def SEdgeD.g (k i : Nat) : List DC := SEdgeD.q (k + 5 * i)

set_option maxHeartbeats 1000000 in
theorem eqSEdge_k (x y : SEdgeD) : FnOK Try.prog 139 ⟨0, [], [.agg x.s, .agg y.s], .c (.v (.bool (decide (x = y)))), [], 0⟩ := by
  obtain ⟨x1, x2, x3, x4, x5⟩ := x
  obtain ⟨y1, y2, y3, y4, y5⟩ := y
  simp only [SEdgeD.s, SEdgeD.mk.injEq]
  refine fnOK_of true mixed Try.func139 rfl (by rfl) (by rfl) ?_
  have hres := congrArg Array.toList Try.results139
  simp only [Try.ntmps139, BGB, seval]
  (have gx := true_and True; refine go ?_; (repeat' first | exact Ef.mk | apply Lf.mk | refine fun (K : KT) hK hE hT => ?_ | refine fun (KS : KE) hKS => ?_ | refine fun (D : KD) hD => ?_ | refine fun (hg : (_ : Prop)) => ?_ | fail); all_goals (first | (refine Wr.mk ?_; (try clear gx); repeat first | clear hK hE hT K | clear hR hE hT K) | assumption | skip))
  all_goals (try simp only [SEdgeD.mk.injEq, not_and] at *)
  all_goals (refine post_a hres (.inl rfl) ?_; simp only [RSB, ENB, seval, tiAll, *]; simp only [MAB, seval]; refine ⟨rfl, rfl, ?_, ?_, ?_⟩ <;> (first | rfl | (simp [WKB, Nat.add_comm, *]; done) | (simp only [WKB, seval])))
  all_goals (refine congrArg (fun b => SV.c (CV.v (Value.bool b))) ?_; symm; simp only [decide_eq_false_iff_not, decide_eq_true_eq]; first | omega | (intro h; simp_all))

set_option maxHeartbeats 2000000 in
theorem eqSEdgeS_k (l m : List SEdgeD) (hl : l.length ≤ 1048576) (hm : m.length ≤ 1048576) : FnOK Try.prog 126 ⟨2, [(0, some (.ro (l.map SEdgeD.k))), (1, some (.ro (m.map SEdgeD.k)))], [.c (.sl 0 5 0 l.length), .c (.sl 1 5 0 m.length)], .c (.v (.bool (decide (l = m)))), [], 2⟩ := by
  refine fnOK_of true mixed Try.func126 rfl (by rfl) (by rfl) ?_
  have hres := congrArg Array.toList Try.results126
  simp only [Try.ntmps126, BGB, seval]
  (have gx := true_and True; refine go ?_; (repeat' first | exact Ef.mk | apply Lf.mk | refine fun (K : KT) hK hE hT => ?_ | refine fun (KS : KE) hKS => ?_ | refine fun (D : KD) hD => ?_ | refine fun (hg : (_ : Prop)) => ?_ | fail); all_goals (first | (refine Wr.mk ?_; (try clear gx); repeat first | clear hK hE hT K | clear hR hE hT K) | assumption | skip))
  · (have hfin := eqs_len (l := l) (m := m) (by omega); (refine post_a hres (.inl rfl) ?_; simp only [RSB, ENB, seval, tiAll, ← hfin]; simp only [MAB, seval]; refine ⟨rfl, rfl, ?_, ?_, ?_⟩ <;> (first | rfl | (simp [WKB, Nat.add_comm, ← hfin]; done) | (simp only [WKB, seval]))))
  · have hlm : l.length = m.length := by omega
    refine loop_v (X := {k : Nat // k ≤ l.length ∧ Rnd (∀ i, i < k → l[i]? = m[i]?)}) [] (fun x => [(5, .c (.v (.int .i64 ((x.1 : Nat) : Int))))]) (fun x => [(0, some (.ro (l.map SEdgeD.k))), (1, some (.ro (m.map SEdgeD.k)))]) 2 (fun x => l.length - x.1) ⟨0, by omega, ⟨fun i hi => by omega⟩⟩ ?_
    simp only [KPB, seval]
    refine ⟨?_, ?_⟩
    · (refine wk_a ?_; simp only [MAB, seval]; refine ⟨rfl, rfl, (by decide), ?_, ?_⟩; all_goals (first | (simp only [WKB, seval, true_and]; done) | (simp [WKB, seval, true_and]; done) | simp only [WKB, seval]))
    · rintro ⟨k, hk, hi⟩ K hR hE hT
      (have gx := And.intro (@List.length_map.{0,0}) (And.intro (@List.getElem_map.{0,0}) (And.intro @SEdgeD.k.eq_1 @SEdgeD.s.eq_1)); have q1 := fun hq1 hq2 => eqSEdge_k (l[k]'hq1) (m[k]'hq2); refine go ?_; (repeat' first | exact Ef.mk | apply Lf.mk | refine fun (K : KT) hK hE hT => ?_ | refine fun (KS : KE) hKS => ?_ | refine fun (D : KD) hD => ?_ | refine fun (hg : (_ : Prop)) => ?_ | fail); all_goals (first | (refine Wr.mk ?_; (try clear gx q1); repeat first | clear hK hE hT K | clear hR hE hT K) | assumption | skip))
      · (have hfin := eqs_hit (l := l) (m := m) k (by omega) (by omega) (by assumption); (refine post_a hres (.inl rfl) ?_; simp only [RSB, ENB, seval, tiAll, ← hfin]; simp only [MAB, seval]; refine ⟨rfl, rfl, ?_, ?_, ?_⟩ <;> (first | rfl | (simp [WKB, Nat.add_comm, ← hfin]; done) | (simp only [WKB, seval]))))
      · refine hR.out ⟨k + 1, by omega, ⟨fun i h => ?_⟩⟩ _ _ _ (by simp only; omega) ?_
        · by_cases hik : i = k
          · subst hik
            rw [List.getElem?_eq_getElem (by omega), List.getElem?_eq_getElem (by omega)]
            exact congrArg some (by assumption)
          · exact hi.out i (by omega)
        · (refine wk_a ?_; simp only [MAB, seval]; refine ⟨rfl, rfl, (by decide), ?_, ?_⟩; all_goals (first | (simp only [WKB, seval, true_and]; done) | (simp [WKB, seval, true_and]; done) | simp only [WKB, seval]))
      · (have hfin := eqs_end (l := l) (m := m) hlm k (by omega) hi.out; (refine post_a hres (.inl rfl) ?_; simp only [RSB, ENB, seval, tiAll, ← hfin]; simp only [MAB, seval]; refine ⟨rfl, rfl, ?_, ?_, ?_⟩ <;> (first | rfl | (simp [WKB, Nat.add_comm, ← hfin]; done) | (simp only [WKB, seval]))))

set_option maxHeartbeats 4000000 in
theorem markSEdgeS_k (l : List SEdgeD) (k0 : Nat) (hk0 : k0 + 5 * l.length ≤ 1099511627776) : FnOK Try.prog 102 ⟨1, [(0, some (.row 131 (l.map SEdgeD.k)))], [.c (.sl 0 5 0 l.length), .c (.v (.int .i64 (k0 : Int)))], .c (.v (.int .i64 ((k0 + 5 * l.length : Nat) : Int))), [(0, some (.row 131 ((List.range l.length).map (SEdgeD.g k0))))], 1⟩ := by
  refine fnOK_of true mixed Try.func102 rfl (by rfl) (by rfl) ?_
  have hres := congrArg Array.toList Try.results102
  simp only [Try.ntmps102, BGB, seval]
  (have gx := true_and True; refine go ?_; (repeat' first | exact Ef.mk | apply Lf.mk | refine fun (K : KT) hK hE hT => ?_ | refine fun (KS : KE) hKS => ?_ | refine fun (D : KD) hD => ?_ | refine fun (hg : (_ : Prop)) => ?_ | fail); all_goals (first | (refine Wr.mk ?_; (try clear gx); repeat first | clear hK hE hT K | clear hR hE hT K) | assumption | skip))
  refine loop_v (X := {k : Nat // k ≤ l.length}) [] (fun x => [(1, .c (.v (.int .i64 ((k0 + 5 * x.1 : Nat) : Int)))), (5, .c (.v (.int .i64 ((x.1 : Nat) : Int))))]) (fun x => [(0, some (.row 131 (setTo (SEdgeD.g k0) SEdgeD.k l x.1)))]) 1 (fun x => l.length - x.1) ⟨0, by omega⟩ ?_
  simp only [KPB, seval]
  refine ⟨?_, ?_⟩
  · (refine wk_a ?_; simp only [MAB, seval]; refine ⟨rfl, rfl, (by decide), ?_, ?_⟩; all_goals (first | (simp only [WKB, seval, setTo_zero, Nat.mul_zero, Nat.add_zero]; done) | (simp [WKB, seval, setTo_zero, Nat.mul_zero, Nat.add_zero]; done) | simp only [WKB, seval]))
  · rintro ⟨k, hk⟩ K hR hE hT
    have sl := setTo_len (SEdgeD.g k0) SEdgeD.k l k hk
    obtain ⟨q, hq⟩ : ∃ q, q = k0 + 5 * k := ⟨_, rfl⟩
    simp only [← hq]
    rcases Nat.lt_or_ge k l.length with hlt | hge
    case inr =>
      (have gx := @sl; refine go ?_; (repeat' first | exact Ef.mk | apply Lf.mk | refine fun (K : KT) hK hE hT => ?_ | refine fun (KS : KE) hKS => ?_ | refine fun (D : KD) hD => ?_ | refine fun (hg : (_ : Prop)) => ?_ | fail); all_goals (first | (refine Wr.mk ?_; (try clear gx); repeat first | clear hK hE hT K | clear hR hE hT K) | assumption | skip))
      obtain rfl : k = l.length := by omega
      subst hq
      (refine post_a hres (.inl rfl) ?_; simp only [RSB, ENB, seval, tiAll, setTo_end]; simp only [MAB, seval]; refine ⟨rfl, rfl, ?_, ?_, ?_⟩ <;> (first | rfl | (simp [WKB, Nat.add_comm, setTo_end]; done) | (simp only [WKB, seval])))
    case inl =>
      have hq2 : q + 5 ≤ 1099511627776 := by have := Nat.mul_le_mul_left 5 (show k + 1 ≤ l.length from hlt); omega
      have sg := setTo_get (SEdgeD.g k0) SEdgeD.k l k hlt (by omega)
      simp only [SEdgeD.k] at sg
      (have gx := And.intro (@sl) (And.intro (@sg) (And.intro (@List.length_set.{0}) (And.intro @List.getElem_set_self.{0} @List.set_set.{0}))); refine go ?_; (repeat' first | exact Ef.mk | apply Lf.mk | refine fun (K : KT) hK hE hT => ?_ | refine fun (KS : KE) hKS => ?_ | refine fun (D : KD) hD => ?_ | refine fun (hg : (_ : Prop)) => ?_ | fail); all_goals (first | (refine Wr.mk ?_; (try clear gx); repeat first | clear hK hE hT K | clear hR hE hT K) | assumption | skip))
      refine hR.out ⟨k + 1, by omega⟩ _ _ _ (by simp only; omega) ?_
      have e := setTo_set (SEdgeD.g k0) SEdgeD.k l k hlt
      simp only [SEdgeD.g, ← hq, SEdgeD.q] at e
      have e2 : (q : Int) + 1 + 1 + 1 + 1 + 1 = ((k0 + 5 * (k + 1) : Nat) : Int) := by omega
      (refine wk_a ?_; simp only [MAB, seval]; refine ⟨rfl, rfl, (by decide), ?_, ?_⟩; all_goals (first | (simp only [WKB, seval, SEdgeD.g, e, e2]; done) | (simp [WKB, seval, SEdgeD.g, e, e2]; done) | simp only [WKB, seval]))

set_option maxHeartbeats 4000000 in
theorem heldSEdgeS_k (n : Nat) (k0 : Nat) (hk0 : k0 + 5 * n ≤ 1099511627776) : FnOK Try.prog 103 ⟨1, [(0, some (.ro ((List.range n).map (SEdgeD.g k0))))], [.c (.sl 0 5 0 n), .c (.v (.int .i64 (k0 : Int)))], .c (.v (.int .i64 ((k0 + 5 * n : Nat) : Int))), [], 1⟩ := by
  refine fnOK_of true mixed Try.func103 rfl (by rfl) (by rfl) ?_
  have hres := congrArg Array.toList Try.results103
  simp only [Try.ntmps103, BGB, seval]
  (have gx := true_and True; refine go ?_; (repeat' first | exact Ef.mk | apply Lf.mk | refine fun (K : KT) hK hE hT => ?_ | refine fun (KS : KE) hKS => ?_ | refine fun (D : KD) hD => ?_ | refine fun (hg : (_ : Prop)) => ?_ | fail); all_goals (first | (refine Wr.mk ?_; (try clear gx); repeat first | clear hK hE hT K | clear hR hE hT K) | assumption | skip))
  refine loop_v (X := {k : Nat // k ≤ n}) [] (fun x => [(1, .c (.v (.int .i64 ((k0 + 5 * x.1 : Nat) : Int)))), (5, .c (.v (.int .i64 ((x.1 : Nat) : Int))))]) (fun x => [(0, some (.ro ((List.range n).map (SEdgeD.g k0))))]) 1 (fun x => n - x.1) ⟨0, by omega⟩ ?_
  simp only [KPB, seval]
  refine ⟨?_, ?_⟩
  · (refine wk_a ?_; simp only [MAB, seval]; refine ⟨rfl, rfl, (by decide), ?_, ?_⟩; all_goals (first | (simp only [WKB, seval, Nat.mul_zero, Nat.add_zero]; done) | (simp [WKB, seval, Nat.mul_zero, Nat.add_zero]; done) | simp only [WKB, seval]))
  · rintro ⟨k, hk⟩ K hR hE hT
    obtain ⟨q, hq⟩ : ∃ q, q = k0 + 5 * k := ⟨_, rfl⟩
    simp only [← hq]
    rcases Nat.lt_or_ge k n with hlt | hge
    case inr =>
      (have gx := @range_len; refine go ?_; (repeat' first | exact Ef.mk | apply Lf.mk | refine fun (K : KT) hK hE hT => ?_ | refine fun (KS : KE) hKS => ?_ | refine fun (D : KD) hD => ?_ | refine fun (hg : (_ : Prop)) => ?_ | fail); all_goals (first | (refine Wr.mk ?_; (try clear gx); repeat first | clear hK hE hT K | clear hR hE hT K) | assumption | skip))
      obtain rfl : k = n := by omega
      subst hq
      (refine post_a hres (.inl rfl) ?_; simp only [RSB, ENB, seval, tiAll, true_and]; simp only [MAB, seval]; refine ⟨rfl, rfl, ?_, ?_, ?_⟩ <;> (first | rfl | (simp [WKB, Nat.add_comm, true_and]; done) | (simp only [WKB, seval])))
    case inl =>
      have hq2 : q + 5 ≤ 1099511627776 := by have := Nat.mul_le_mul_left 5 (show k + 1 ≤ n from hlt); omega
      have sg := range_get (SEdgeD.g k0) n k (by rw [range_len]; exact hlt)
      simp only [SEdgeD.g, ← hq, SEdgeD.q] at sg
      have sg' : SEdgeD.g k0 k = SEdgeD.q q := by rw [hq]; rfl
      (have gx := And.intro (@range_len) (And.intro (@range_get) (And.intro @sg' @SEdgeD.q.eq_1)); refine go ?_; (repeat' first | exact Ef.mk | apply Lf.mk | refine fun (K : KT) hK hE hT => ?_ | refine fun (KS : KE) hKS => ?_ | refine fun (D : KD) hD => ?_ | refine fun (hg : (_ : Prop)) => ?_ | fail); all_goals (first | (refine Wr.mk ?_; (try clear gx); repeat first | clear hK hE hT K | clear hR hE hT K) | assumption | skip))
      refine hR.out ⟨k + 1, by omega⟩ _ _ _ (by simp only; omega) ?_
      have e2 : (q : Int) + 1 + 1 + 1 + 1 + 1 = ((k0 + 5 * (k + 1) : Nat) : Int) := by omega
      (refine wk_a ?_; simp only [MAB, seval]; refine ⟨rfl, rfl, (by decide), ?_, ?_⟩; all_goals (first | (simp only [WKB, seval, e2]; done) | (simp [WKB, seval, e2]; done) | simp only [WKB, seval]))

end Go.Proofs.Ytfnhchcgieeedaa
namespace Go.Proofs.Ytfnhchcgieeedaa
set_option linter.unusedSimpArgs false
set_option linter.unusedVariables false
set_option linter.defProp false
set_option maxRecDepth 20000
open Go.RowKit

structure LocD where
  Shard : Int
  At : Int
  Edge : SEdgeD
deriving DecidableEq

def LocD.k (x : LocD) : List DC := [.v (.int .i64 x.Shard), .v (.int .i64 x.At), .v (.int .i64 x.Edge.From), .v (.int .i64 x.Edge.To), .v (.int .i64 x.Edge.W), .v (.int .i64 x.Edge.Index), .v (.int .i64 x.Edge.Val)]
def LocD.s (x : LocD) : List CV := [.v (.int .i64 x.Shard), .v (.int .i64 x.At), .v (.int .i64 x.Edge.From), .v (.int .i64 x.Edge.To), .v (.int .i64 x.Edge.W), .v (.int .i64 x.Edge.Index), .v (.int .i64 x.Edge.Val)]
theorem flat_Loc (l : List LocD) : ∀ e ∈ l.map LocD.k, ∀ c ∈ e, DC.flat c := flat_map (fun x c hc => by simp only [LocD.k, List.mem_cons, List.not_mem_nil, or_false] at hc; rcases hc with rfl | rfl | rfl | rfl | rfl | rfl | rfl <;> exact ⟨_, rfl, rfl⟩) l
/-- marked cells -/
def LocD.q (q : Nat) : List DC := [.v (.int .i64 ((q : Int))), .v (.int .i64 ((q : Int) + 1)), .v (.int .i64 ((q : Int) + 1 + 1)), .v (.int .i64 ((q : Int) + 1 + 1 + 1)), .v (.int .i64 ((q : Int) + 1 + 1 + 1 + 1)), .v (.int .i64 ((q : Int) + 1 + 1 + 1 + 1 + 1)), .v (.int .i64 ((q : Int) + 1 + 1 + 1 + 1 + 1 + 1))]
def LocD.g (k i : Nat) : List DC := LocD.q (k + 7 * i)

end Go.Proofs.Ytfnhchcgieeedaa