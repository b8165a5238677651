/-
  Contracts of the law's helpers for slices of ints and of bytes. No conditions of its own.
-/
import Derived.Test.YtfkpmhnfpljakaaGO
import Derived.Test.YtfkpmhnfpljakaaS1
namespace Go.Proofs.Ytfkpmhnfpljakaa
set_option linter.unusedSimpArgs false
set_option linter.unusedVariables false
set_option linter.unusedSimpArgs false
set_option linter.unusedVariables false
set_option linter.defProp false
open Go.RowKit

def intQ (k i : Nat) : List DC := [.v (.int .i64 ((k + i : Nat) : Int))]
def bytQ (k i : Nat) : List DC := [.v (.int .u8 (IntKind.u8.wrap ((k + i : Nat) : Int)))]
theorem u8_eq {x y : UInt8} : (x.toNat : Int) = y.toNat ↔ x = y := by
  constructor
  · intro h; exact UInt8.toNat_inj.1 (by omega)
  · rintro rfl; rfl

set_option maxHeartbeats 2000000 in
theorem toIntS_k (l : List Int) (hl : l.length ≤ 1048576) : FnOK Try.prog 63 ⟨1, [(0, some (.ro (l.map intK)))], [.c (.sl 0 1 0 l.length)], .c (.sl 1 1 0 l.length), [(1, some (.row 3 (l.map intK)))], 2⟩ := by
  refine fnOK_of true mixed Try.func63 rfl (by rfl) (by rfl) ?_
  have hres := congrArg Array.toList Try.results63
  simp only [Try.ntmps63, BGB, seval]
  (have gx := true_and True; refine go ?_; (repeat' (first | exact Ef.mk | refine Lf.mk ?_ ?_ | refine fun (K : KT) hK hE hT => ?_ | refine fun (KS : Eff → Prop) hKS => ?_ | refine fun (D : List Keys → Prop) hD => ?_ | refine fun (hg : (_ : Prop)) => ?_ | fail)); all_goals (first | (refine Wr.mk ?_; (try clear gx); repeat (first | (clear hK hE hT; clear K) | (clear hR hE hT; clear K))) | assumption | skip))
  refine loop_v (X := {k : Nat // k ≤ l.length}) [] (fun x => [(4, .c (.v (.int .i64 ((x.1 : Nat) : Int))))]) (fun x => [(0, some (.ro (l.map intK))), (1, some (.row 3 (fillTo intK [.v (.int .i64 0)] l x.1)))]) 2 (fun x => l.length - x.1) ⟨0, by omega⟩ ?_
  simp only [KPB, seval]
  refine ⟨?_, ?_⟩
  · (refine wk_a ?_; simp only [MAB, seval]; refine ⟨rfl, rfl, (by decide), ?_, ?_⟩; all_goals (first | (simp only [WKB, seval, fillTo_zero, Nat.reduceLT, Nat.zero_lt_succ]; done) | (simp [WKB, seval, fillTo_zero]; done) | simp only [WKB, seval]))
  · rintro ⟨k, hk⟩ K hR hE hT
    (have gx := And.intro (@List.length_map.{0,0}) (And.intro (@List.getElem_map.{0,0}) (And.intro (@fillTo_len) (And.intro (@fillTo_get) (And.intro @fillTo_set @intK.eq_1)))); refine go ?_; (repeat' (first | exact Ef.mk | refine Lf.mk ?_ ?_ | refine fun (K : KT) hK hE hT => ?_ | refine fun (KS : Eff → Prop) hKS => ?_ | refine fun (D : List Keys → Prop) hD => ?_ | refine fun (hg : (_ : Prop)) => ?_ | fail)); all_goals (first | (refine Wr.mk ?_; (try clear gx); repeat (first | (clear hK hE hT; clear K) | (clear hR hE hT; clear K))) | assumption | skip))
    · refine hR.out ⟨k + 1, by omega⟩ _ _ _ (by simp only; omega) ?_
      have e := fillTo_set intK [.v (.int .i64 0)] l k (by omega)
      simp only [intK] at e
      (refine wk_a ?_; simp only [MAB, seval]; refine ⟨rfl, rfl, (by decide), ?_, ?_⟩; all_goals (first | (simp only [WKB, seval, e, Nat.reduceLT, Nat.zero_lt_succ]; done) | (simp [WKB, seval, e]; done) | simp only [WKB, seval]))
    · obtain rfl : k = l.length := by omega
      (refine post_a hres (.inl rfl) ?_; simp only [RSB, ENB, seval, tiAll, fillTo_end]; simp only [MAB, seval]; refine ⟨rfl, rfl, ?_, ?_, ?_⟩ <;> (first | rfl | (simp [WKB, Nat.add_comm, fillTo_end]; done) | (simp only [WKB, seval])))

set_option maxHeartbeats 2000000 in
theorem eqIntS_k (l m : List Int) (hl : l.length ≤ 1099511627776) (hm : m.length ≤ 1099511627776) : FnOK Try.prog 43 ⟨2, [(0, some (.ro (l.map intK))), (1, some (.ro (m.map intK)))], [.c (.sl 0 1 0 l.length), .c (.sl 1 1 0 m.length)], .c (.v (.bool (decide (l = m)))), [], 2⟩ := by
  refine fnOK_of true mixed Try.func43 rfl (by rfl) (by rfl) ?_
  have hres := congrArg Array.toList Try.results43
  simp only [Try.ntmps43, BGB, seval]
  (have gx := true_and True; refine go ?_; (repeat' (first | exact Ef.mk | refine Lf.mk ?_ ?_ | refine fun (K : KT) hK hE hT => ?_ | refine fun (KS : Eff → Prop) hKS => ?_ | refine fun (D : List Keys → Prop) hD => ?_ | refine fun (hg : (_ : Prop)) => ?_ | fail)); all_goals (first | (refine Wr.mk ?_; (try clear gx); repeat (first | (clear hK hE hT; clear K) | (clear hR hE hT; clear K))) | assumption | skip))
  · (have hfin := eqs_len (l := l) (m := m) (by omega); (refine post_a hres (.inl rfl) ?_; simp only [RSB, ENB, seval, tiAll, ← hfin]; simp only [MAB, seval]; refine ⟨rfl, rfl, ?_, ?_, ?_⟩ <;> (first | rfl | (simp [WKB, Nat.add_comm, ← hfin]; done) | (simp only [WKB, seval]))))
  · have hlm : l.length = m.length := by omega
    refine loop_v (X := {k : Nat // k ≤ l.length ∧ Rnd (∀ i, i < k → l[i]? = m[i]?)}) [] (fun x => [(5, .c (.v (.int .i64 ((x.1 : Nat) : Int))))]) (fun x => [(0, some (.ro (l.map intK))), (1, some (.ro (m.map intK)))]) 2 (fun x => l.length - x.1) ⟨0, by omega, ⟨fun i hi => by omega⟩⟩ ?_
    simp only [KPB, seval]
    refine ⟨?_, ?_⟩
    · (refine wk_a ?_; simp only [MAB, seval]; refine ⟨rfl, rfl, (by decide), ?_, ?_⟩; all_goals (first | (simp only [WKB, seval, true_and, Nat.reduceLT, Nat.zero_lt_succ]; done) | (simp [WKB, seval, true_and]; done) | simp only [WKB, seval]))
    · rintro ⟨k, hk, hi⟩ K hR hE hT
      (have gx := And.intro (@List.length_map.{0,0}) (And.intro @List.getElem_map.{0,0} @intK.eq_1); refine go ?_; (repeat' (first | exact Ef.mk | refine Lf.mk ?_ ?_ | refine fun (K : KT) hK hE hT => ?_ | refine fun (KS : Eff → Prop) hKS => ?_ | refine fun (D : List Keys → Prop) hD => ?_ | refine fun (hg : (_ : Prop)) => ?_ | fail)); all_goals (first | (refine Wr.mk ?_; (try clear gx); repeat (first | (clear hK hE hT; clear K) | (clear hR hE hT; clear K))) | assumption | skip))
      · (have hfin := eqs_hit (l := l) (m := m) k (by omega) (by omega) (by first | assumption | (intro h; have := u8_eq.2 h; omega)); (refine post_a hres (.inl rfl) ?_; simp only [RSB, ENB, seval, tiAll, ← hfin]; simp only [MAB, seval]; refine ⟨rfl, rfl, ?_, ?_, ?_⟩ <;> (first | rfl | (simp [WKB, Nat.add_comm, ← hfin]; done) | (simp only [WKB, seval]))))
      · refine hR.out ⟨k + 1, by omega, ⟨fun i h => ?_⟩⟩ _ _ _ (by simp only; omega) ?_
        · by_cases hik : i = k
          · subst hik
            rw [List.getElem?_eq_getElem (by omega), List.getElem?_eq_getElem (by omega)]
            exact congrArg some (by first | assumption | (apply u8_eq.1; assumption))
          · exact hi.out i (by omega)
        · (refine wk_a ?_; simp only [MAB, seval]; refine ⟨rfl, rfl, (by decide), ?_, ?_⟩; all_goals (first | (simp only [WKB, seval, true_and, Nat.reduceLT, Nat.zero_lt_succ]; done) | (simp [WKB, seval, true_and]; done) | simp only [WKB, seval]))
      · (have hfin := eqs_end (l := l) (m := m) hlm k (by omega) hi.out; (refine post_a hres (.inl rfl) ?_; simp only [RSB, ENB, seval, tiAll, ← hfin]; simp only [MAB, seval]; refine ⟨rfl, rfl, ?_, ?_, ?_⟩ <;> (first | rfl | (simp [WKB, Nat.add_comm, ← hfin]; done) | (simp only [WKB, seval]))))

set_option maxHeartbeats 4000000 in
theorem markIntS_k (l : List Int) (k0 : Nat) (hk0 : k0 + l.length ≤ 1099511627776) : FnOK Try.prog 44 ⟨1, [(0, some (.row 3 (l.map intK)))], [.c (.sl 0 1 0 l.length), .c (.v (.int .i64 (k0 : Int)))], .c (.v (.int .i64 ((k0 + l.length : Nat) : Int))), [(0, some (.row 3 ((List.range l.length).map (intQ k0))))], 1⟩ := by
  refine fnOK_of true mixed Try.func44 rfl (by rfl) (by rfl) ?_
  have hres := congrArg Array.toList Try.results44
  simp only [Try.ntmps44, BGB, seval]
  (have gx := true_and True; refine go ?_; (repeat' (first | exact Ef.mk | refine Lf.mk ?_ ?_ | refine fun (K : KT) hK hE hT => ?_ | refine fun (KS : Eff → Prop) hKS => ?_ | refine fun (D : List Keys → Prop) hD => ?_ | refine fun (hg : (_ : Prop)) => ?_ | fail)); all_goals (first | (refine Wr.mk ?_; (try clear gx); repeat (first | (clear hK hE hT; clear K) | (clear hR hE hT; clear K))) | assumption | skip))
  refine loop_v (X := {k : Nat // k ≤ l.length}) [] (fun x => [(1, .c (.v (.int .i64 ((k0 + x.1 : Nat) : Int)))), (5, .c (.v (.int .i64 ((x.1 : Nat) : Int))))]) (fun x => [(0, some (.row 3 (setTo (intQ k0) intK l x.1)))]) 1 (fun x => l.length - x.1) ⟨0, by omega⟩ ?_
  simp only [KPB, seval]
  refine ⟨?_, ?_⟩
  · (refine wk_a ?_; simp only [MAB, seval]; refine ⟨rfl, rfl, (by decide), ?_, ?_⟩; all_goals (first | (simp only [WKB, seval, setTo_zero, Nat.mul_zero, Nat.add_zero, Nat.reduceLT, Nat.zero_lt_succ]; done) | (simp [WKB, seval, setTo_zero, Nat.mul_zero, Nat.add_zero]; done) | simp only [WKB, seval]))
  · rintro ⟨k, hk⟩ K hR hE hT
    have sl := setTo_len (intQ k0) intK l k hk
    obtain ⟨q, hq⟩ : ∃ q, q = k0 + k := ⟨_, rfl⟩
    simp only [← hq]
    rcases Nat.lt_or_ge k l.length with hlt | hge
    case inr =>
      (have gx := @sl; refine go ?_; (repeat' (first | exact Ef.mk | refine Lf.mk ?_ ?_ | refine fun (K : KT) hK hE hT => ?_ | refine fun (KS : Eff → Prop) hKS => ?_ | refine fun (D : List Keys → Prop) hD => ?_ | refine fun (hg : (_ : Prop)) => ?_ | fail)); all_goals (first | (refine Wr.mk ?_; (try clear gx); repeat (first | (clear hK hE hT; clear K) | (clear hR hE hT; clear K))) | assumption | skip))
      obtain rfl : k = l.length := by omega
      subst hq
      (refine post_a hres (.inl rfl) ?_; simp only [RSB, ENB, seval, tiAll, setTo_end]; simp only [MAB, seval]; refine ⟨rfl, rfl, ?_, ?_, ?_⟩ <;> (first | rfl | (simp [WKB, Nat.add_comm, setTo_end]; done) | (simp only [WKB, seval])))
    case inl =>
      have sg := setTo_get (intQ k0) intK l k hlt (by omega)
      simp only [intK] at sg
      (have gx := And.intro (@sl) (And.intro (@sg) (And.intro (@List.length_set.{0}) (And.intro @List.getElem_set_self.{0} @List.set_set.{0}))); refine go ?_; (repeat' (first | exact Ef.mk | refine Lf.mk ?_ ?_ | refine fun (K : KT) hK hE hT => ?_ | refine fun (KS : Eff → Prop) hKS => ?_ | refine fun (D : List Keys → Prop) hD => ?_ | refine fun (hg : (_ : Prop)) => ?_ | fail)); all_goals (first | (refine Wr.mk ?_; (try clear gx); repeat (first | (clear hK hE hT; clear K) | (clear hR hE hT; clear K))) | assumption | skip))
      refine hR.out ⟨k + 1, by omega⟩ _ _ _ (by simp only; omega) ?_
      have e := setTo_set (intQ k0) intK l k hlt
      simp only [intQ, ← hq] at e
      have e2 : (q : Int) + 1 = ((k0 + (k + 1) : Nat) : Int) := by omega
      (refine wk_a ?_; simp only [MAB, seval]; refine ⟨rfl, rfl, (by decide), ?_, ?_⟩; all_goals (first | (simp only [WKB, seval, intQ, e, e2, Nat.reduceLT, Nat.zero_lt_succ]; done) | (simp [WKB, seval, intQ, e, e2]; done) | simp only [WKB, seval]))

set_option maxHeartbeats 4000000 in
theorem heldIntS_k (n : Nat) (k0 : Nat) (hk0 : k0 + n ≤ 1099511627776) : FnOK Try.prog 45 ⟨1, [(0, some (.ro ((List.range n).map (intQ k0))))], [.c (.sl 0 1 0 n), .c (.v (.int .i64 (k0 : Int)))], .c (.v (.int .i64 ((k0 + n : Nat) : Int))), [], 1⟩ := by
  refine fnOK_of true mixed Try.func45 rfl (by rfl) (by rfl) ?_
  have hres := congrArg Array.toList Try.results45
  simp only [Try.ntmps45, BGB, seval]
  (have gx := true_and True; refine go ?_; (repeat' (first | exact Ef.mk | refine Lf.mk ?_ ?_ | refine fun (K : KT) hK hE hT => ?_ | refine fun (KS : Eff → Prop) hKS => ?_ | refine fun (D : List Keys → Prop) hD => ?_ | refine fun (hg : (_ : Prop)) => ?_ | fail)); all_goals (first | (refine Wr.mk ?_; (try clear gx); repeat (first | (clear hK hE hT; clear K) | (clear hR hE hT; clear K))) | assumption | skip))
  refine loop_v (X := {k : Nat // k ≤ n}) [] (fun x => [(1, .c (.v (.int .i64 ((k0 + x.1 : Nat) : Int)))), (5, .c (.v (.int .i64 ((x.1 : Nat) : Int))))]) (fun x => [(0, some (.ro ((List.range n).map (intQ k0))))]) 1 (fun x => n - x.1) ⟨0, by omega⟩ ?_
  simp only [KPB, seval]
  refine ⟨?_, ?_⟩
  · (refine wk_a ?_; simp only [MAB, seval]; refine ⟨rfl, rfl, (by decide), ?_, ?_⟩; all_goals (first | (simp only [WKB, seval, Nat.mul_zero, Nat.add_zero, Nat.reduceLT, Nat.zero_lt_succ]; done) | (simp [WKB, seval, Nat.mul_zero, Nat.add_zero]; done) | simp only [WKB, seval]))
  · rintro ⟨k, hk⟩ K hR hE hT
    obtain ⟨q, hq⟩ : ∃ q, q = k0 + k := ⟨_, rfl⟩
    simp only [← hq]
    rcases Nat.lt_or_ge k n with hlt | hge
    case inr =>
      (have gx := @range_len; refine go ?_; (repeat' (first | exact Ef.mk | refine Lf.mk ?_ ?_ | refine fun (K : KT) hK hE hT => ?_ | refine fun (KS : Eff → Prop) hKS => ?_ | refine fun (D : List Keys → Prop) hD => ?_ | refine fun (hg : (_ : Prop)) => ?_ | fail)); all_goals (first | (refine Wr.mk ?_; (try clear gx); repeat (first | (clear hK hE hT; clear K) | (clear hR hE hT; clear K))) | assumption | skip))
      obtain rfl : k = n := by omega
      subst hq
      (refine post_a hres (.inl rfl) ?_; simp only [RSB, ENB, seval, tiAll, true_and]; simp only [MAB, seval]; refine ⟨rfl, rfl, ?_, ?_, ?_⟩ <;> (first | rfl | (simp [WKB, Nat.add_comm, true_and]; done) | (simp only [WKB, seval])))
    case inl =>
      (have gx := And.intro (@range_len) (And.intro (@range_get) (And.intro @intQ.eq_1 (hq).symm)); refine go ?_; (repeat' (first | exact Ef.mk | refine Lf.mk ?_ ?_ | refine fun (K : KT) hK hE hT => ?_ | refine fun (KS : Eff → Prop) hKS => ?_ | refine fun (D : List Keys → Prop) hD => ?_ | refine fun (hg : (_ : Prop)) => ?_ | fail)); all_goals (first | (refine Wr.mk ?_; (try clear gx); repeat (first | (clear hK hE hT; clear K) | (clear hR hE hT; clear K))) | assumption | skip))
      refine hR.out ⟨k + 1, by omega⟩ _ _ _ (by simp only; omega) ?_
      have e2 : (q : Int) + 1 = ((k0 + (k + 1) : Nat) : Int) := by omega
      (refine wk_a ?_; simp only [MAB, seval]; refine ⟨rfl, rfl, (by decide), ?_, ?_⟩; all_goals (first | (simp only [WKB, seval, e2, Nat.reduceLT, Nat.zero_lt_succ]; done) | (simp [WKB, seval, e2]; done) | simp only [WKB, seval]))

theorem szIntS_k (n b : Nat) (es : List (List DC)) (he : es.length = n) (hw : n ≤ 9223372036854775807) (hb : b ≤ 1048576) : FnOK Try.prog 58 ⟨1, [(0, some (.ro es))], [.c (.sl 0 1 0 n), .c (.v (.int .i64 (b : Int)))], .c (.v (.int .i64 (szL b n))), [], 1⟩ := by
  refine fnOK_of true mixed Try.func58 rfl (by rfl) (by rfl) ?_
  have hres := congrArg Array.toList Try.results58
  simp only [Try.ntmps58, BGB, seval]
  (have gx := true_and True; refine go ?_; (repeat' (first | exact Ef.mk | refine Lf.mk ?_ ?_ | refine fun (K : KT) hK hE hT => ?_ | refine fun (KS : Eff → Prop) hKS => ?_ | refine fun (D : List Keys → Prop) hD => ?_ | refine fun (hg : (_ : Prop)) => ?_ | fail)); all_goals (first | (refine Wr.mk ?_; (try clear gx); repeat (first | (clear hK hE hT; clear K) | (clear hR hE hT; clear K))) | assumption | skip))
  · (refine post_a hres (.inl rfl) ?_; simp only [RSB, ENB, seval, tiAll, szL_neg b n (by omega)]; simp only [MAB, seval]; refine ⟨rfl, rfl, ?_, ?_, ?_⟩ <;> (first | rfl | (simp [WKB, Nat.add_comm, szL_neg b n (by omega)]; done) | (simp only [WKB, seval])))
  · (refine post_a hres (.inl rfl) ?_; simp only [RSB, ENB, seval, tiAll, szL_pos b n (by omega)]; simp only [MAB, seval]; refine ⟨rfl, rfl, ?_, ?_, ?_⟩ <;> (first | rfl | (simp [WKB, Nat.add_comm, szL_pos b n (by omega)]; done) | (simp only [WKB, seval])))

set_option maxHeartbeats 2000000 in
theorem toByteS_k (l : List UInt8) (hl : l.length ≤ 1048576) : FnOK Try.prog 132 ⟨1, [(0, some (.ro (l.map bytK)))], [.c (.sl 0 1 0 l.length)], .c (.sl 1 1 0 l.length), [(1, some (.row 5 (l.map bytK)))], 2⟩ := by
  refine fnOK_of true mixed Try.func132 rfl (by rfl) (by rfl) ?_
  have hres := congrArg Array.toList Try.results132
  simp only [Try.ntmps132, BGB, seval]
  (have gx := true_and True; refine go ?_; (repeat' (first | exact Ef.mk | refine Lf.mk ?_ ?_ | refine fun (K : KT) hK hE hT => ?_ | refine fun (KS : Eff → Prop) hKS => ?_ | refine fun (D : List Keys → Prop) hD => ?_ | refine fun (hg : (_ : Prop)) => ?_ | fail)); all_goals (first | (refine Wr.mk ?_; (try clear gx); repeat (first | (clear hK hE hT; clear K) | (clear hR hE hT; clear K))) | assumption | skip))
  refine loop_v (X := {k : Nat // k ≤ l.length}) [] (fun x => [(4, .c (.v (.int .i64 ((x.1 : Nat) : Int))))]) (fun x => [(0, some (.ro (l.map bytK))), (1, some (.row 5 (fillTo bytK [.v (.int .u8 0)] l x.1)))]) 2 (fun x => l.length - x.1) ⟨0, by omega⟩ ?_
  simp only [KPB, seval]
  refine ⟨?_, ?_⟩
  · (refine wk_a ?_; simp only [MAB, seval]; refine ⟨rfl, rfl, (by decide), ?_, ?_⟩; all_goals (first | (simp only [WKB, seval, fillTo_zero, Nat.reduceLT, Nat.zero_lt_succ]; done) | (simp [WKB, seval, fillTo_zero]; done) | simp only [WKB, seval]))
  · rintro ⟨k, hk⟩ K hR hE hT
    (have gx := And.intro (@List.length_map.{0,0}) (And.intro (@List.getElem_map.{0,0}) (And.intro (@fillTo_len) (And.intro (@fillTo_get) (And.intro @fillTo_set @bytK.eq_1)))); refine go ?_; (repeat' (first | exact Ef.mk | refine Lf.mk ?_ ?_ | refine fun (K : KT) hK hE hT => ?_ | refine fun (KS : Eff → Prop) hKS => ?_ | refine fun (D : List Keys → Prop) hD => ?_ | refine fun (hg : (_ : Prop)) => ?_ | fail)); all_goals (first | (refine Wr.mk ?_; (try clear gx); repeat (first | (clear hK hE hT; clear K) | (clear hR hE hT; clear K))) | assumption | skip))
    · refine hR.out ⟨k + 1, by omega⟩ _ _ _ (by simp only; omega) ?_
      have e := fillTo_set bytK [.v (.int .u8 0)] l k (by omega)
      simp only [bytK] at e
      (refine wk_a ?_; simp only [MAB, seval]; refine ⟨rfl, rfl, (by decide), ?_, ?_⟩; all_goals (first | (simp only [WKB, seval, e, Nat.reduceLT, Nat.zero_lt_succ]; done) | (simp [WKB, seval, e]; done) | simp only [WKB, seval]))
    · obtain rfl : k = l.length := by omega
      (refine post_a hres (.inl rfl) ?_; simp only [RSB, ENB, seval, tiAll, fillTo_end]; simp only [MAB, seval]; refine ⟨rfl, rfl, ?_, ?_, ?_⟩ <;> (first | rfl | (simp [WKB, Nat.add_comm, fillTo_end]; done) | (simp only [WKB, seval])))

set_option maxHeartbeats 2000000 in
theorem eqByteS_k (l m : List UInt8) (hl : l.length ≤ 1099511627776) (hm : m.length ≤ 1099511627776) : FnOK Try.prog 136 ⟨2, [(0, some (.ro (l.map bytK))), (1, some (.ro (m.map bytK)))], [.c (.sl 0 1 0 l.length), .c (.sl 1 1 0 m.length)], .c (.v (.bool (decide (l = m)))), [], 2⟩ := by
  refine fnOK_of true mixed Try.func136 rfl (by rfl) (by rfl) ?_
  have hres := congrArg Array.toList Try.results136
  simp only [Try.ntmps136, BGB, seval]
  (have gx := true_and True; refine go ?_; (repeat' (first | exact Ef.mk | refine Lf.mk ?_ ?_ | refine fun (K : KT) hK hE hT => ?_ | refine fun (KS : Eff → Prop) hKS => ?_ | refine fun (D : List Keys → Prop) hD => ?_ | refine fun (hg : (_ : Prop)) => ?_ | fail)); all_goals (first | (refine Wr.mk ?_; (try clear gx); repeat (first | (clear hK hE hT; clear K) | (clear hR hE hT; clear K))) | assumption | skip))
  · (have hfin := eqs_len (l := l) (m := m) (by omega); (refine post_a hres (.inl rfl) ?_; simp only [RSB, ENB, seval, tiAll, ← hfin]; simp only [MAB, seval]; refine ⟨rfl, rfl, ?_, ?_, ?_⟩ <;> (first | rfl | (simp [WKB, Nat.add_comm, ← hfin]; done) | (simp only [WKB, seval]))))
  · have hlm : l.length = m.length := by omega
    refine loop_v (X := {k : Nat // k ≤ l.length ∧ Rnd (∀ i, i < k → l[i]? = m[i]?)}) [] (fun x => [(5, .c (.v (.int .i64 ((x.1 : Nat) : Int))))]) (fun x => [(0, some (.ro (l.map bytK))), (1, some (.ro (m.map bytK)))]) 2 (fun x => l.length - x.1) ⟨0, by omega, ⟨fun i hi => by omega⟩⟩ ?_
    simp only [KPB, seval]
    refine ⟨?_, ?_⟩
    · (refine wk_a ?_; simp only [MAB, seval]; refine ⟨rfl, rfl, (by decide), ?_, ?_⟩; all_goals (first | (simp only [WKB, seval, true_and, Nat.reduceLT, Nat.zero_lt_succ]; done) | (simp [WKB, seval, true_and]; done) | simp only [WKB, seval]))
    · rintro ⟨k, hk, hi⟩ K hR hE hT
      (have gx := And.intro (@List.length_map.{0,0}) (And.intro @List.getElem_map.{0,0} @bytK.eq_1); refine go ?_; (repeat' (first | exact Ef.mk | refine Lf.mk ?_ ?_ | refine fun (K : KT) hK hE hT => ?_ | refine fun (KS : Eff → Prop) hKS => ?_ | refine fun (D : List Keys → Prop) hD => ?_ | refine fun (hg : (_ : Prop)) => ?_ | fail)); all_goals (first | (refine Wr.mk ?_; (try clear gx); repeat (first | (clear hK hE hT; clear K) | (clear hR hE hT; clear K))) | assumption | skip))
      · (have hfin := eqs_hit (l := l) (m := m) k (by omega) (by omega) (by first | assumption | (intro h; have := u8_eq.2 h; omega)); (refine post_a hres (.inl rfl) ?_; simp only [RSB, ENB, seval, tiAll, ← hfin]; simp only [MAB, seval]; refine ⟨rfl, rfl, ?_, ?_, ?_⟩ <;> (first | rfl | (simp [WKB, Nat.add_comm, ← hfin]; done) | (simp only [WKB, seval]))))
      · refine hR.out ⟨k + 1, by omega, ⟨fun i h => ?_⟩⟩ _ _ _ (by simp only; omega) ?_
        · by_cases hik : i = k
          · subst hik
            rw [List.getElem?_eq_getElem (by omega), List.getElem?_eq_getElem (by omega)]
            exact congrArg some (by first | assumption | (apply u8_eq.1; assumption))
          · exact hi.out i (by omega)
        · (refine wk_a ?_; simp only [MAB, seval]; refine ⟨rfl, rfl, (by decide), ?_, ?_⟩; all_goals (first | (simp only [WKB, seval, true_and, Nat.reduceLT, Nat.zero_lt_succ]; done) | (simp [WKB, seval, true_and]; done) | simp only [WKB, seval]))
      · (have hfin := eqs_end (l := l) (m := m) hlm k (by omega) hi.out; (refine post_a hres (.inl rfl) ?_; simp only [RSB, ENB, seval, tiAll, ← hfin]; simp only [MAB, seval]; refine ⟨rfl, rfl, ?_, ?_, ?_⟩ <;> (first | rfl | (simp [WKB, Nat.add_comm, ← hfin]; done) | (simp only [WKB, seval]))))

set_option maxHeartbeats 4000000 in
theorem markByteS_k (l : List UInt8) (k0 : Nat) (hk0 : k0 + l.length ≤ 1099511627776) : FnOK Try.prog 137 ⟨1, [(0, some (.row 5 (l.map bytK)))], [.c (.sl 0 1 0 l.length), .c (.v (.int .i64 (k0 : Int)))], .c (.v (.int .i64 ((k0 + l.length : Nat) : Int))), [(0, some (.row 5 ((List.range l.length).map (bytQ k0))))], 1⟩ := by
  refine fnOK_of true mixed Try.func137 rfl (by rfl) (by rfl) ?_
  have hres := congrArg Array.toList Try.results137
  simp only [Try.ntmps137, BGB, seval]
  (have gx := true_and True; refine go ?_; (repeat' (first | exact Ef.mk | refine Lf.mk ?_ ?_ | refine fun (K : KT) hK hE hT => ?_ | refine fun (KS : Eff → Prop) hKS => ?_ | refine fun (D : List Keys → Prop) hD => ?_ | refine fun (hg : (_ : Prop)) => ?_ | fail)); all_goals (first | (refine Wr.mk ?_; (try clear gx); repeat (first | (clear hK hE hT; clear K) | (clear hR hE hT; clear K))) | assumption | skip))
  refine loop_v (X := {k : Nat // k ≤ l.length}) [] (fun x => [(1, .c (.v (.int .i64 ((k0 + x.1 : Nat) : Int)))), (5, .c (.v (.int .i64 ((x.1 : Nat) : Int))))]) (fun x => [(0, some (.row 5 (setTo (bytQ k0) bytK l x.1)))]) 1 (fun x => l.length - x.1) ⟨0, by omega⟩ ?_
  simp only [KPB, seval]
  refine ⟨?_, ?_⟩
  · (refine wk_a ?_; simp only [MAB, seval]; refine ⟨rfl, rfl, (by decide), ?_, ?_⟩; all_goals (first | (simp only [WKB, seval, setTo_zero, Nat.mul_zero, Nat.add_zero, Nat.reduceLT, Nat.zero_lt_succ]; done) | (simp [WKB, seval, setTo_zero, Nat.mul_zero, Nat.add_zero]; done) | simp only [WKB, seval]))
  · rintro ⟨k, hk⟩ K hR hE hT
    have sl := setTo_len (bytQ k0) bytK l k hk
    obtain ⟨q, hq⟩ : ∃ q, q = k0 + k := ⟨_, rfl⟩
    simp only [← hq]
    rcases Nat.lt_or_ge k l.length with hlt | hge
    case inr =>
      (have gx := @sl; refine go ?_; (repeat' (first | exact Ef.mk | refine Lf.mk ?_ ?_ | refine fun (K : KT) hK hE hT => ?_ | refine fun (KS : Eff → Prop) hKS => ?_ | refine fun (D : List Keys → Prop) hD => ?_ | refine fun (hg : (_ : Prop)) => ?_ | fail)); all_goals (first | (refine Wr.mk ?_; (try clear gx); repeat (first | (clear hK hE hT; clear K) | (clear hR hE hT; clear K))) | assumption | skip))
      obtain rfl : k = l.length := by omega
      subst hq
      (refine post_a hres (.inl rfl) ?_; simp only [RSB, ENB, seval, tiAll, setTo_end]; simp only [MAB, seval]; refine ⟨rfl, rfl, ?_, ?_, ?_⟩ <;> (first | rfl | (simp [WKB, Nat.add_comm, setTo_end]; done) | (simp only [WKB, seval])))
    case inl =>
      have sg := setTo_get (bytQ k0) bytK l k hlt (by omega)
      simp only [bytK] at sg
      (have gx := And.intro (@sl) (And.intro (@sg) (And.intro (@List.length_set.{0}) (And.intro @List.getElem_set_self.{0} @List.set_set.{0}))); refine go ?_; (repeat' (first | exact Ef.mk | refine Lf.mk ?_ ?_ | refine fun (K : KT) hK hE hT => ?_ | refine fun (KS : Eff → Prop) hKS => ?_ | refine fun (D : List Keys → Prop) hD => ?_ | refine fun (hg : (_ : Prop)) => ?_ | fail)); all_goals (first | (refine Wr.mk ?_; (try clear gx); repeat (first | (clear hK hE hT; clear K) | (clear hR hE hT; clear K))) | assumption | skip))
      refine hR.out ⟨k + 1, by omega⟩ _ _ _ (by simp only; omega) ?_
      have e := setTo_set (bytQ k0) bytK l k hlt
      simp only [bytQ, ← hq] at e
      have e2 : (q : Int) + 1 = ((k0 + (k + 1) : Nat) : Int) := by omega
      (refine wk_a ?_; simp only [MAB, seval]; refine ⟨rfl, rfl, (by decide), ?_, ?_⟩; all_goals (first | (simp only [WKB, seval, bytQ, e, e2, Nat.reduceLT, Nat.zero_lt_succ]; done) | (simp [WKB, seval, bytQ, e, e2]; done) | simp only [WKB, seval]))

set_option maxHeartbeats 4000000 in
theorem heldByteS_k (n : Nat) (k0 : Nat) (hk0 : k0 + n ≤ 1099511627776) : FnOK Try.prog 138 ⟨1, [(0, some (.ro ((List.range n).map (bytQ k0))))], [.c (.sl 0 1 0 n), .c (.v (.int .i64 (k0 : Int)))], .c (.v (.int .i64 ((k0 + n : Nat) : Int))), [], 1⟩ := by
  refine fnOK_of true mixed Try.func138 rfl (by rfl) (by rfl) ?_
  have hres := congrArg Array.toList Try.results138
  simp only [Try.ntmps138, BGB, seval]
  (have gx := true_and True; refine go ?_; (repeat' (first | exact Ef.mk | refine Lf.mk ?_ ?_ | refine fun (K : KT) hK hE hT => ?_ | refine fun (KS : Eff → Prop) hKS => ?_ | refine fun (D : List Keys → Prop) hD => ?_ | refine fun (hg : (_ : Prop)) => ?_ | fail)); all_goals (first | (refine Wr.mk ?_; (try clear gx); repeat (first | (clear hK hE hT; clear K) | (clear hR hE hT; clear K))) | assumption | skip))
  refine loop_v (X := {k : Nat // k ≤ n}) [] (fun x => [(1, .c (.v (.int .i64 ((k0 + x.1 : Nat) : Int)))), (5, .c (.v (.int .i64 ((x.1 : Nat) : Int))))]) (fun x => [(0, some (.ro ((List.range n).map (bytQ k0))))]) 1 (fun x => n - x.1) ⟨0, by omega⟩ ?_
  simp only [KPB, seval]
  refine ⟨?_, ?_⟩
  · (refine wk_a ?_; simp only [MAB, seval]; refine ⟨rfl, rfl, (by decide), ?_, ?_⟩; all_goals (first | (simp only [WKB, seval, Nat.mul_zero, Nat.add_zero, Nat.reduceLT, Nat.zero_lt_succ]; done) | (simp [WKB, seval, Nat.mul_zero, Nat.add_zero]; done) | simp only [WKB, seval]))
  · rintro ⟨k, hk⟩ K hR hE hT
    obtain ⟨q, hq⟩ : ∃ q, q = k0 + k := ⟨_, rfl⟩
    simp only [← hq]
    rcases Nat.lt_or_ge k n with hlt | hge
    case inr =>
      (have gx := @range_len; refine go ?_; (repeat' (first | exact Ef.mk | refine Lf.mk ?_ ?_ | refine fun (K : KT) hK hE hT => ?_ | refine fun (KS : Eff → Prop) hKS => ?_ | refine fun (D : List Keys → Prop) hD => ?_ | refine fun (hg : (_ : Prop)) => ?_ | fail)); all_goals (first | (refine Wr.mk ?_; (try clear gx); repeat (first | (clear hK hE hT; clear K) | (clear hR hE hT; clear K))) | assumption | skip))
      obtain rfl : k = n := by omega
      subst hq
      (refine post_a hres (.inl rfl) ?_; simp only [RSB, ENB, seval, tiAll, true_and]; simp only [MAB, seval]; refine ⟨rfl, rfl, ?_, ?_, ?_⟩ <;> (first | rfl | (simp [WKB, Nat.add_comm, true_and]; done) | (simp only [WKB, seval])))
    case inl =>
      (have gx := And.intro (@range_len) (And.intro (@range_get) (And.intro @bytQ.eq_1 (hq).symm)); refine go ?_; (repeat' (first | exact Ef.mk | refine Lf.mk ?_ ?_ | refine fun (K : KT) hK hE hT => ?_ | refine fun (KS : Eff → Prop) hKS => ?_ | refine fun (D : List Keys → Prop) hD => ?_ | refine fun (hg : (_ : Prop)) => ?_ | fail)); all_goals (first | (refine Wr.mk ?_; (try clear gx); repeat (first | (clear hK hE hT; clear K) | (clear hR hE hT; clear K))) | assumption | skip))
      refine hR.out ⟨k + 1, by omega⟩ _ _ _ (by simp only; omega) ?_
      have e2 : (q : Int) + 1 = ((k0 + (k + 1) : Nat) : Int) := by omega
      (refine wk_a ?_; simp only [MAB, seval]; refine ⟨rfl, rfl, (by decide), ?_, ?_⟩; all_goals (first | (simp only [WKB, seval, e2, Nat.reduceLT, Nat.zero_lt_succ]; done) | (simp [WKB, seval, e2]; done) | simp only [WKB, seval]))

theorem szByteS_k (n b : Nat) (es : List (List DC)) (he : es.length = n) (hw : n ≤ 9223372036854775807) (hb : b ≤ 1048576) : FnOK Try.prog 127 ⟨1, [(0, some (.ro es))], [.c (.sl 0 1 0 n), .c (.v (.int .i64 (b : Int)))], .c (.v (.int .i64 (szL b n))), [], 1⟩ := by
  refine fnOK_of true mixed Try.func127 rfl (by rfl) (by rfl) ?_
  have hres := congrArg Array.toList Try.results127
  simp only [Try.ntmps127, BGB, seval]
  (have gx := true_and True; refine go ?_; (repeat' (first | exact Ef.mk | refine Lf.mk ?_ ?_ | refine fun (K : KT) hK hE hT => ?_ | refine fun (KS : Eff → Prop) hKS => ?_ | refine fun (D : List Keys → Prop) hD => ?_ | refine fun (hg : (_ : Prop)) => ?_ | fail)); all_goals (first | (refine Wr.mk ?_; (try clear gx); repeat (first | (clear hK hE hT; clear K) | (clear hR hE hT; clear K))) | assumption | skip))
  · (refine post_a hres (.inl rfl) ?_; simp only [RSB, ENB, seval, tiAll, szL_neg b n (by omega)]; simp only [MAB, seval]; refine ⟨rfl, rfl, ?_, ?_, ?_⟩ <;> (first | rfl | (simp [WKB, Nat.add_comm, szL_neg b n (by omega)]; done) | (simp only [WKB, seval])))
  · (refine post_a hres (.inl rfl) ?_; simp only [RSB, ENB, seval, tiAll, szL_pos b n (by omega)]; simp only [MAB, seval]; refine ⟨rfl, rfl, ?_, ?_, ?_⟩ <;> (first | rfl | (simp [WKB, Nat.add_comm, szL_pos b n (by omega)]; done) | (simp only [WKB, seval])))

end Go.Proofs.Ytfkpmhnfpljakaa