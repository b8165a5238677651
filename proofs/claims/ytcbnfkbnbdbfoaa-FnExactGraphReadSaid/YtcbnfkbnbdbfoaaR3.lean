/-
  Contracts: the reference's PutVar and GetVar. No conditions of its own.
-/
import Derived.Test.YtcbnfkbnbdbfoaaGO
import Derived.Test.YtcbnfkbnbdbfoaaMNA
import Derived.Test.YtcbnfkbnbdbfoaaR2
namespace Go.Proofs.Ytcbnfkbnbdbfoaa
set_option linter.unusedSimpArgs false
set_option linter.unusedVariables false
set_option linter.unusedSimpArgs false
set_option linter.unusedVariables false
set_option linter.defProp false
open Go.RowKit

def pvO (n : Int) : Bool := decide (0 ≤ n ∧ n ≤ 281474976710655)
def pvL (l : List UInt8) (n : Int) : List UInt8 := if pvO n then l ++ varB n.toNat else []
theorem pvL_yes {l : List UInt8} {m : Nat} (h : m ≤ 281474976710655) : pvL l (m : Int) = l ++ varB m ∧ pvO (m : Int) = true := by
  have e : pvO (m : Int) = true := by unfold pvO; rw [decide_eq_true_eq]; omega
  unfold pvL
  rw [e]
  exact ⟨rfl, rfl⟩
theorem pvL_no {l : List UInt8} {n : Int} (h : ¬ (0 ≤ n ∧ n ≤ 281474976710655)) : pvL l n = [] ∧ pvO n = false := by
  have e : pvO n = false := by unfold pvO; rw [decide_eq_false_iff_not]; exact h
  unfold pvL
  rw [e]
  exact ⟨rfl, rfl⟩

theorem low_byte {m : Nat} (h : m < 128) : IntKind.u8.wrap (m : Int) = ((UInt8.ofNat m).toNat : Int) := by
  rw [IntWalk.u8_in _ ⟨by omega, by omega⟩, UInt8.toNat_ofNat']
  omega
theorem hi_byte (m : Nat) : IntKind.u8.wrap ((m : Int) % 128 + 128) = ((UInt8.ofNat (m % 128 + 128)).toNat : Int) := by
  rw [IntWalk.u8_in _ ⟨by omega, by omega⟩, UInt8.toNat_ofNat']
  omega

structure PvX (l : List UInt8) (n : Nat) where
  m : Nat
  q : List UInt8
  le : m ≤ n
  ln : q.length ≤ l.length + 7
  eq : Rnd (q ++ varB m = l ++ varB n)

set_option maxHeartbeats 4000000 in
theorem specPutVar_k (l : List UInt8) (n : Int) (hl : l.length ≤ 1048576) : FnOK Try.prog 117 ⟨1, [(0, some (.ro (l.map bytK)))], [.c (.sl 0 1 0 l.length), .c (.v (.int .i64 n))],
    .tup [.inl (.sl 1 1 0 (pvL l n).length), .inl (.v (.bool (pvO n)))], [(1, some (.row 5 ((pvL l n).map bytK)))], 2⟩ := by
  by_cases hn : 0 ≤ n ∧ n ≤ 281474976710655
  case neg =>
    obtain ⟨e1, e2⟩ := pvL_no (l := l) hn
    have c := l01Num_k n
    rw [decide_eq_false hn] at c
    rw [e1, e2]
    refine fnOK_of true mixed Try.func117 rfl (by rfl) (by rfl) ?_
    have hres := congrArg Array.toList Try.results117
    simp only [Try.ntmps117, BGB, seval]
    (have gx := And.intro (@List.length_map.{0,0}) (And.intro @List.getElem_map.{0,0} @bytK.eq_1); have q1 := c; refine go ?_; (repeat' (first | exact Ef.mk | refine Lf.mk ?_ ?_ | refine fun (K : KT) hK hE hT => ?_ | refine fun (KS : Eff → Prop) hKS => ?_ | refine fun (D : List Keys → Prop) hD => ?_ | refine fun (hg : (_ : Prop)) => ?_ | fail)); all_goals (first | (refine Wr.mk ?_; (try clear gx); (try clear q1); repeat (first | (clear hK hE hT; clear K) | (clear hR hE hT; clear K))) | assumption | skip))
    all_goals (refine post_a hres (.inl rfl) ?_; simp only [RSB, ENB, seval, tiAll, true_and]; simp only [MAB, seval]; refine ⟨rfl, rfl, ?_, ?_, ?_⟩ <;> (first | rfl | (simp [WKB, Nat.add_comm, true_and]; done) | (simp only [WKB, seval])))
  case pos =>
    have c := l01Num_k n
    rw [decide_eq_true hn] at c
    obtain ⟨n, rfl⟩ := Int.eq_ofNat_of_zero_le hn.1
    obtain ⟨e1, e2⟩ := pvL_yes (l := l) (m := n) (by omega)
    rw [e1, e2]
    refine fnOK_of true mixed Try.func117 rfl (by rfl) (by rfl) ?_
    have hres := congrArg Array.toList Try.results117
    simp only [Try.ntmps117, BGB, seval]
    (have gx := And.intro (@List.length_map.{0,0}) (And.intro (@List.getElem_map.{0,0}) (And.intro @bytK.eq_1 @map_take)); have q1 := c; refine go ?_; (repeat' (first | exact Ef.mk | refine Lf.mk ?_ ?_ | refine fun (K : KT) hK hE hT => ?_ | refine fun (KS : Eff → Prop) hKS => ?_ | refine fun (D : List Keys → Prop) hD => ?_ | refine fun (hg : (_ : Prop)) => ?_ | fail)); all_goals (first | (refine Wr.mk ?_; (try clear gx); (try clear q1); repeat (first | (clear hK hE hT; clear K) | (clear hR hE hT; clear K))) | assumption | skip))
    refine loop_v (X := PvX l n) [10, 12] (fun x => [(1, .c (.v (.int .i64 ((x.m : Nat) : Int)))), (6, .c (.sl 1 1 0 x.q.length))]) (fun x => [(0, some (.ro (l.map bytK))), (1, some (.row 5 (x.q.map bytK)))]) 2 (fun x => x.m) ⟨n, l, by omega, by omega, ⟨rfl⟩⟩ ?_
    simp only [KPB, seval]
    refine ⟨?_, ?_⟩
    · (refine wk_a ?_; simp only [MAB, seval]; refine ⟨rfl, rfl, (by decide), ?_, ?_⟩; all_goals (first | (simp only [WKB, seval, true_and, Nat.reduceLT, Nat.zero_lt_succ]; done) | (simp [WKB, seval, true_and]; done) | simp only [WKB, seval]))
    · rintro ⟨m, q, hle, hln, heq⟩ K hR hE hT
      by_cases hm : m < 128
      · have e := heq.out
        rw [varB_lt hm] at e
        have b1 := low_byte hm
        (have gx := And.intro (@List.length_map.{0,0}) (And.intro (@List.getElem_map.{0,0}) (And.intro @bytK.eq_1 @b1)); refine go ?_; (repeat' (first | exact Ef.mk | refine Lf.mk ?_ ?_ | refine fun (K : KT) hK hE hT => ?_ | refine fun (KS : Eff → Prop) hKS => ?_ | refine fun (D : List Keys → Prop) hD => ?_ | refine fun (hg : (_ : Prop)) => ?_ | fail)); all_goals (first | (refine Wr.mk ?_; (try clear gx); repeat (first | (clear hK hE hT; clear K) | (clear hR hE hT; clear K))) | assumption | skip))
        (refine post_a hres (.inl rfl) ?_; simp only [RSB, ENB, seval, tiAll, ← e, bytK, b1]; simp only [MAB, seval]; refine ⟨rfl, rfl, ?_, ?_, ?_⟩ <;> (first | rfl | (simp [WKB, Nat.add_comm, ← e, bytK, b1]; done) | (simp only [WKB, seval])))
      · have e := heq.out
        rw [varB_ge hm] at e
        have b1 := hi_byte m
        have b2 : ((m : Int) / 128) = ((m / 128 : Nat) : Int) := by omega
        have e3 : (q ++ [UInt8.ofNat (m % 128 + 128)]) ++ varB (m / 128) = l ++ varB n := by rw [← e]; simp
        have e4 := congrArg List.length e3
        have e5 := varB_len7 (n := n) (by omega)
        simp only [List.length_append, List.length_singleton] at e4
        (have gx := And.intro (@List.length_map.{0,0}) (And.intro (@List.getElem_map.{0,0}) (And.intro @bytK.eq_1 @b1)); refine go ?_; (repeat' (first | exact Ef.mk | refine Lf.mk ?_ ?_ | refine fun (K : KT) hK hE hT => ?_ | refine fun (KS : Eff → Prop) hKS => ?_ | refine fun (D : List Keys → Prop) hD => ?_ | refine fun (hg : (_ : Prop)) => ?_ | fail)); all_goals (first | (refine Wr.mk ?_; (try clear gx); repeat (first | (clear hK hE hT; clear K) | (clear hR hE hT; clear K))) | assumption | skip))
        (refine hR.out ⟨m / 128, q ++ [UInt8.ofNat (m % 128 + 128)], by omega, by simp only [List.length_append, List.length_singleton]; omega, ⟨e3⟩⟩ _ _ _ (by simp only; omega) ?_; (refine wk_a ?_; simp only [MAB, seval]; refine ⟨rfl, rfl, (by decide), ?_, ?_⟩; all_goals (first | (simp only [WKB, seval, bytK, b1, Nat.reduceLT, Nat.zero_lt_succ]; done) | (simp [WKB, seval, bytK, b1]; done) | simp only [WKB, seval])))

end Go.Proofs.Ytcbnfkbnbdbfoaa
