/-
  Contracts: numbers in six bytes put and read; the reference's check sum. No conditions of its own.
-/
import Derived.Test.YtcbnfkbnbdbfoaaGO
import Derived.Test.YtcbnfkbnbdbfoaaF1
import Derived.Test.YtcbnfkbnbdbfoaaC1
namespace Go.Proofs.Ytcbnfkbnbdbfoaa
set_option linter.unusedSimpArgs false
set_option linter.unusedVariables false
set_option linter.unusedSimpArgs false
set_option linter.unusedVariables false
set_option linter.defProp false
open Go.RowKit

structure FxX where
  f : Bool
  j : Nat
  le : j ≤ 6

def pfL (l : List UInt8) (n : Int) : List UInt8 := if pvO n then l ++ fixB n.toNat else []
theorem pfL_yes {l : List UInt8} {m : Nat} (h : m ≤ 281474976710655) : pfL l (m : Int) = l ++ fixB m ∧ pvO (m : Int) = true := by
  have e : pvO (m : Int) = true := by unfold pvO; rw [decide_eq_true_eq]; omega
  unfold pfL
  rw [e]
  exact ⟨rfl, rfl⟩
theorem pfL_no {l : List UInt8} {n : Int} (h : ¬ (0 ≤ n ∧ n ≤ 281474976710655)) : pfL l n = [] ∧ pvO n = false := by
  have e : pvO n = false := by unfold pvO; rw [decide_eq_false_iff_not]; exact h
  unfold pfL
  rw [e]
  exact ⟨rfl, rfl⟩

theorem fix_div (n i : Nat) : ((n / 256 ^ i : Nat) : Int) / 256 = ((n / 256 ^ (i + 1) : Nat) : Int) := by
  rw [Nat.pow_succ, ← Nat.div_div_eq_div_mul]
  rfl

set_option maxHeartbeats 4000000 in
theorem specPutFix_k (l : List UInt8) (n : Int) (hl : l.length ≤ 1048576) : FnOK Try.prog 147 ⟨1, [(0, some (.ro (l.map bytK)))], [.c (.sl 0 1 0 l.length), .c (.v (.int .i64 n))],
    .tup [.inl (.sl 1 1 0 (pfL l n).length), .inl (.v (.bool (pvO n)))], [(1, some (.row 5 ((pfL l n).map bytK)))], 2⟩ := by
  by_cases hn : 0 ≤ n ∧ n ≤ 281474976710655
  case neg =>
    obtain ⟨e1, e2⟩ := pfL_no (l := l) hn
    have c := l01Num_k n
    rw [decide_eq_false hn] at c
    rw [e1, e2]
    refine fnOK_of true mixed Try.func147 rfl (by rfl) (by rfl) ?_
    have hres := congrArg Array.toList Try.results147
    simp only [Try.ntmps147, BGB, seval]
    (have gx := And.intro (@List.length_map.{0,0}) (And.intro @List.getElem_map.{0,0} @bytK.eq_1); have q1 := c; refine go ?_; (repeat' (first | exact Ef.mk | refine Lf.mk ?_ ?_ | refine fun (K : KT) hK hE hT => ?_ | refine fun (KS : Eff → Prop) hKS => ?_ | refine fun (D : List Keys → Prop) hD => ?_ | refine fun (hg : (_ : Prop)) => ?_ | fail)); all_goals (first | (refine Wr.mk ?_; (try clear gx); (try clear q1); repeat (first | (clear hK hE hT; clear K) | (clear hR hE hT; clear K))) | assumption | skip))
    all_goals (refine post_a hres (.inl rfl) ?_; simp only [RSB, ENB, seval, tiAll, true_and]; simp only [MAB, seval]; refine ⟨rfl, rfl, ?_, ?_, ?_⟩ <;> (first | rfl | (simp [WKB, Nat.add_comm, true_and]; done) | (simp only [WKB, seval])))
  case pos =>
    have c := l01Num_k n
    rw [decide_eq_true hn] at c
    obtain ⟨n, rfl⟩ := Int.eq_ofNat_of_zero_le hn.1
    obtain ⟨e1, e2⟩ := pfL_yes (l := l) (m := n) (by omega)
    rw [e1, e2]
    refine fnOK_of true mixed Try.func147 rfl (by rfl) (by rfl) ?_
    have hres := congrArg Array.toList Try.results147
    simp only [Try.ntmps147, BGB, seval]
    (have gx := And.intro (@List.length_map.{0,0}) (And.intro (@List.getElem_map.{0,0}) (And.intro @bytK.eq_1 @map_take)); have q1 := c; refine go ?_; (repeat' (first | exact Ef.mk | refine Lf.mk ?_ ?_ | refine fun (K : KT) hK hE hT => ?_ | refine fun (KS : Eff → Prop) hKS => ?_ | refine fun (D : List Keys → Prop) hD => ?_ | refine fun (hg : (_ : Prop)) => ?_ | fail)); all_goals (first | (refine Wr.mk ?_; (try clear gx); (try clear q1); repeat (first | (clear hK hE hT; clear K) | (clear hR hE hT; clear K))) | assumption | skip))
    refine loop_v (X := {j : Nat // j ≤ 6}) [13, 15, 28, 32, 33] (fun x => [(7, .c (.v (.int .i64 (5 - ((x.1 : Nat) : Int))))), (6, .c (.sl 1 1 0 (l ++ fixT n x.1).length))]) (fun x => [(0, some (.ro (l.map bytK))), (1, some (.row 5 ((l ++ fixT n x.1).map bytK)))]) 2 (fun x => 6 - x.1) ⟨0, by omega⟩ ?_
    simp only [KPB, seval]
    refine ⟨?_, ?_⟩
    · (refine wk_a ?_; simp only [MAB, seval]; refine ⟨rfl, rfl, (by decide), ?_, ?_⟩; all_goals (first | (simp only [WKB, seval, fixT_zero, List.append_nil, Nat.reduceLT, Nat.zero_lt_succ]; done) | (simp [WKB, seval, fixT_zero, List.append_nil]; done) | simp only [WKB, seval]))
    · rintro ⟨j, hj⟩ K hR hE hT
      have hlen := fixT_len n j
      have hlen2 : (l ++ fixT n j).length = l.length + j := by rw [List.length_append, hlen]
      rcases Nat.lt_or_ge j 6 with hlt | hge
      case inr =>
        obtain rfl : j = 6 := by omega
        (have gx := And.intro (@List.length_map.{0,0}) (And.intro @List.getElem_map.{0,0} @bytK.eq_1); refine go ?_; (repeat' (first | exact Ef.mk | refine Lf.mk ?_ ?_ | refine fun (K : KT) hK hE hT => ?_ | refine fun (KS : Eff → Prop) hKS => ?_ | refine fun (D : List Keys → Prop) hD => ?_ | refine fun (hg : (_ : Prop)) => ?_ | fail)); all_goals (first | (refine Wr.mk ?_; (try clear gx); repeat (first | (clear hK hE hT; clear K) | (clear hR hE hT; clear K))) | assumption | skip))
        (refine post_a hres (.inl rfl) ?_; simp only [RSB, ENB, seval, tiAll, fixB]; simp only [MAB, seval]; refine ⟨rfl, rfl, ?_, ?_, ?_⟩ <;> (first | rfl | (simp [WKB, Nat.add_comm, fixB]; done) | (simp only [WKB, seval])))
      case inl =>
        (have gx := And.intro (@List.length_map.{0,0}) (And.intro @List.getElem_map.{0,0} @bytK.eq_1); refine go ?_; (repeat' (first | exact Ef.mk | refine Lf.mk ?_ ?_ | refine fun (K : KT) hK hE hT => ?_ | refine fun (KS : Eff → Prop) hKS => ?_ | refine fun (D : List Keys → Prop) hD => ?_ | refine fun (hg : (_ : Prop)) => ?_ | fail)); all_goals (first | (refine Wr.mk ?_; (try clear gx); repeat (first | (clear hK hE hT; clear K) | (clear hR hE hT; clear K))) | assumption | skip))
        refine loop_v (X := {i : Nat // i ≤ 5 - j}) [] (fun x => [(8, .c (.v (.int .i64 ((n / 256 ^ x.1 : Nat) : Int)))), (9, .c (.v (.int .i64 ((x.1 : Nat) : Int))))]) (fun x => [(0, some (.ro (l.map bytK))), (1, some (.row 5 ((l ++ fixT n j).map bytK)))]) 2 (fun x => 5 - j - x.1) ⟨0, by omega⟩ ?_
        simp only [KPB, seval]
        refine ⟨?_, ?_⟩
        · (refine wk_a ?_; simp only [MAB, seval]; refine ⟨rfl, rfl, (by decide), ?_, ?_⟩; all_goals (first | (simp only [WKB, seval, Nat.pow_zero, Nat.div_one, Nat.reduceLT, Nat.zero_lt_succ]; done) | (simp [WKB, seval, Nat.pow_zero, Nat.div_one]; done) | simp only [WKB, seval]))
        · rintro ⟨i, hi⟩ K hR hE hT
          rcases Nat.lt_or_ge i (5 - j) with hlt5 | hge5
          case inr =>
            obtain rfl : i = 5 - j := by omega
            have b1 := fix_byte n (5 - j)
            have e := fixT_succ n j
            have e3 : (5 : Int) - (j : Int) - 1 = 5 - ((j + 1 : Nat) : Int) := by omega
            generalize n / 256 ^ (5 - j) = q at *
            (have gx := And.intro (@List.length_map.{0,0}) (And.intro (@List.getElem_map.{0,0}) (And.intro @bytK.eq_1 @b1)); refine go ?_; (repeat' (first | exact Ef.mk | refine Lf.mk ?_ ?_ | refine fun (K : KT) hK hE hT => ?_ | refine fun (KS : Eff → Prop) hKS => ?_ | refine fun (D : List Keys → Prop) hD => ?_ | refine fun (hg : (_ : Prop)) => ?_ | fail)); all_goals (first | (refine Wr.mk ?_; (try clear gx); repeat (first | (clear hK hE hT; clear K) | (clear hR hE hT; clear K))) | assumption | skip))
            (refine hR.out ⟨j + 1, by omega⟩ _ _ _ (by simp only; omega) ?_; (refine wk_a ?_; simp only [MAB, seval]; refine ⟨rfl, rfl, (by decide), ?_, ?_⟩; all_goals (first | (simp only [WKB, seval, bytK, b1, e, e3, ← List.append_assoc, Nat.reduceLT, Nat.zero_lt_succ]; done) | (simp [WKB, seval, bytK, b1, e, e3, ← List.append_assoc]; done) | simp only [WKB, seval])))
          case inl =>
            have e := fix_div n i
            have e0 : n / 256 ^ i ≤ n := Nat.div_le_self ..
            generalize hq2 : n / 256 ^ (i + 1) = q2 at *
            generalize n / 256 ^ i = q at *
            (have gx := And.intro (@List.length_map.{0,0}) (And.intro (@List.getElem_map.{0,0}) (And.intro @bytK.eq_1 @e)); refine go ?_; (repeat' (first | exact Ef.mk | refine Lf.mk ?_ ?_ | refine fun (K : KT) hK hE hT => ?_ | refine fun (KS : Eff → Prop) hKS => ?_ | refine fun (D : List Keys → Prop) hD => ?_ | refine fun (hg : (_ : Prop)) => ?_ | fail)); all_goals (first | (refine Wr.mk ?_; (try clear gx); repeat (first | (clear hK hE hT; clear K) | (clear hR hE hT; clear K))) | assumption | skip))
            (refine hR.out ⟨i + 1, by omega⟩ _ _ _ (by simp only; omega) ?_; (refine wk_a ?_; simp only [MAB, seval]; refine ⟨rfl, rfl, (by decide), ?_, ?_⟩; all_goals (first | (simp only [WKB, seval, e, hq2, Nat.reduceLT, Nat.zero_lt_succ]; done) | (simp [WKB, seval, e, hq2]; done) | simp only [WKB, seval])))

theorem min8_64 : (2 : Int) ^ min 8 IntKind.i64.bits = 256 := rfl

set_option maxHeartbeats 4000000 in
theorem implGetFix_k (b : List UInt8) (p : Nat) (hb : b.length ≤ 1099511627776) (hp : p ≤ 1099511627776) (h6 : p + 6 ≤ b.length) : FnOK Try.prog 148 ⟨1, [(0, some (.ro (b.map bytK)))], [.c (.sl 0 1 0 b.length), .c (.v (.int .i64 (p : Int)))],
    .tup [.inl (.v (.int .i64 (gf b p 6 : Nat))), .inl (.v (.bool true))], [], 1⟩ := by
  refine fnOK_of true mixed Try.func148 rfl (by rfl) (by rfl) ?_
  have hres := congrArg Array.toList Try.results148
  simp only [Try.ntmps148, BGB, seval]
  (have gx := And.intro (@List.length_map.{0,0}) (And.intro @List.getElem_map.{0,0} @bytK.eq_1); refine go ?_; (repeat' (first | exact Ef.mk | refine Lf.mk ?_ ?_ | refine fun (K : KT) hK hE hT => ?_ | refine fun (KS : Eff → Prop) hKS => ?_ | refine fun (D : List Keys → Prop) hD => ?_ | refine fun (hg : (_ : Prop)) => ?_ | fail)); all_goals (first | (refine Wr.mk ?_; (try clear gx); repeat (first | (clear hK hE hT; clear K) | (clear hR hE hT; clear K))) | assumption | skip))
  refine ⟨p, ⟨.i64, rfl⟩, p + 6, ⟨.i64, by simp⟩, by omega, by omega, ?_⟩
  rw [show p + 6 - p = 6 by omega]
  (have gx := And.intro (@List.length_map.{0,0}) (And.intro (@List.getElem_map.{0,0}) (And.intro (@bytK.eq_1) (And.intro (@Option.toArray_some.{0}) (And.intro @Option.toArray_none.{0} @List.toList_toArray.{0})))); refine go ?_; (repeat' (first | exact Ef.mk | refine Lf.mk ?_ ?_ | refine fun (K : KT) hK hE hT => ?_ | refine fun (KS : Eff → Prop) hKS => ?_ | refine fun (D : List Keys → Prop) hD => ?_ | refine fun (hg : (_ : Prop)) => ?_ | fail)); all_goals (first | (refine Wr.mk ?_; (try clear gx); repeat (first | (clear hK hE hT; clear K) | (clear hR hE hT; clear K))) | assumption | skip))
  refine loop_v (X := {k : Nat // k ≤ 6}) [] (fun x => [(6, .c (.v (.int .i64 ((gf b p x.1 : Nat) : Int)))), (24, .c (.v (.int .i64 ((x.1 : Nat) : Int))))]) (fun x => [(0, some (.ro (b.map bytK)))]) 1 (fun x => 6 - x.1) ⟨0, by omega⟩ ?_
  simp only [KPB, seval]
  refine ⟨?_, ?_⟩
  · (refine wk_a ?_; simp only [MAB, seval]; refine ⟨rfl, rfl, (by decide), ?_, ?_⟩; all_goals (first | (simp only [WKB, seval, gf_zero, Nat.reduceLT, Nat.zero_lt_succ]; done) | (simp [WKB, seval, gf_zero]; done) | simp only [WKB, seval]))
  · rintro ⟨k, hk⟩ K hR hE hT
    rcases Nat.lt_or_ge k 6 with hlt | hge
    case inr =>
      obtain rfl : k = 6 := by omega
      (have gx := And.intro (@List.length_map.{0,0}) (And.intro @List.getElem_map.{0,0} @bytK.eq_1); refine go ?_; (repeat' (first | exact Ef.mk | refine Lf.mk ?_ ?_ | refine fun (K : KT) hK hE hT => ?_ | refine fun (KS : Eff → Prop) hKS => ?_ | refine fun (D : List Keys → Prop) hD => ?_ | refine fun (hg : (_ : Prop)) => ?_ | fail)); all_goals (first | (refine Wr.mk ?_; (try clear gx); repeat (first | (clear hK hE hT; clear K) | (clear hR hE hT; clear K))) | assumption | skip))
      (refine post_a hres (.inl rfl) ?_; simp only [RSB, ENB, seval, tiAll, true_and]; simp only [MAB, seval]; refine ⟨rfl, rfl, ?_, ?_, ?_⟩ <;> (first | rfl | (simp [WKB, Nat.add_comm, true_and]; done) | (simp only [WKB, seval])))
    case inl =>
      have e := gf_succ (b := b) (p := p) (k := k) (by omega)
      have m1 := gf_max (b := b) (p := p) (k := k) (by omega) (by omega)
      have m2 := gf_max (b := b) (p := p) (k := k + 1) (by omega) (by omega)
      have hx := (b[p + k]'(by omega)).toNat_lt
      have o := fix_or (gf b p k) (b[p + k]'(by omega)).toNat (by omega) (by omega)
      (have gx := And.intro (@List.length_map.{0,0}) (And.intro (@List.getElem_map.{0,0}) (And.intro (@bytK.eq_1) (And.intro @o @min8_64))); refine go ?_; (repeat' (first | exact Ef.mk | refine Lf.mk ?_ ?_ | refine fun (K : KT) hK hE hT => ?_ | refine fun (KS : Eff → Prop) hKS => ?_ | refine fun (D : List Keys → Prop) hD => ?_ | refine fun (hg : (_ : Prop)) => ?_ | fail)); all_goals (first | (refine Wr.mk ?_; (try clear gx); repeat (first | (clear hK hE hT; clear K) | (clear hR hE hT; clear K))) | assumption | skip))
      (refine hR.out ⟨k + 1, by omega⟩ _ _ _ (by simp only; omega) ?_; (refine wk_a ?_; simp only [MAB, seval]; refine ⟨rfl, rfl, (by decide), ?_, ?_⟩; all_goals (first | (simp only [WKB, seval, e, o, Nat.reduceLT, Nat.zero_lt_succ]; done) | (simp [WKB, seval, e, o]; done) | simp only [WKB, seval])))

set_option maxHeartbeats 4000000 in
theorem specGetFix_k (b : List UInt8) (p : Nat) (hb : b.length ≤ 1099511627776) (hp : p ≤ 1099511627776) (h6 : p + 6 ≤ b.length) : FnOK Try.prog 141 ⟨1, [(0, some (.ro (b.map bytK)))], [.c (.sl 0 1 0 b.length), .c (.v (.int .i64 (p : Int)))],
    .tup [.inl (.v (.int .i64 (gf b p 6 : Nat))), .inl (.v (.bool true))], [], 1⟩ := by
  refine fnOK_of true mixed Try.func141 rfl (by rfl) (by rfl) ?_
  have hres := congrArg Array.toList Try.results141
  simp only [Try.ntmps141, BGB, seval]
  (have gx := And.intro (@List.length_map.{0,0}) (And.intro @List.getElem_map.{0,0} @bytK.eq_1); refine go ?_; (repeat' (first | exact Ef.mk | refine Lf.mk ?_ ?_ | refine fun (K : KT) hK hE hT => ?_ | refine fun (KS : Eff → Prop) hKS => ?_ | refine fun (D : List Keys → Prop) hD => ?_ | refine fun (hg : (_ : Prop)) => ?_ | fail)); all_goals (first | (refine Wr.mk ?_; (try clear gx); repeat (first | (clear hK hE hT; clear K) | (clear hR hE hT; clear K))) | assumption | skip))
  refine loop_v (X := {k : Nat // k ≤ 6}) [] (fun x => [(6, .c (.v (.int .i64 ((gf b p x.1 : Nat) : Int)))), (7, .c (.v (.int .i64 ((p + x.1 : Nat) : Int))))]) (fun x => [(0, some (.ro (b.map bytK)))]) 1 (fun x => 6 - x.1) ⟨0, by omega⟩ ?_
  simp only [KPB, seval]
  refine ⟨?_, ?_⟩
  · (refine wk_a ?_; simp only [MAB, seval]; refine ⟨rfl, rfl, (by decide), ?_, ?_⟩; all_goals (first | (simp only [WKB, seval, gf_zero, Nat.add_zero, Nat.reduceLT, Nat.zero_lt_succ]; done) | (simp [WKB, seval, gf_zero, Nat.add_zero]; done) | simp only [WKB, seval]))
  · rintro ⟨k, hk⟩ K hR hE hT
    rcases Nat.lt_or_ge k 6 with hlt | hge
    case inr =>
      obtain rfl : k = 6 := by omega
      (have gx := And.intro (@List.length_map.{0,0}) (And.intro @List.getElem_map.{0,0} @bytK.eq_1); refine go ?_; (repeat' (first | exact Ef.mk | refine Lf.mk ?_ ?_ | refine fun (K : KT) hK hE hT => ?_ | refine fun (KS : Eff → Prop) hKS => ?_ | refine fun (D : List Keys → Prop) hD => ?_ | refine fun (hg : (_ : Prop)) => ?_ | fail)); all_goals (first | (refine Wr.mk ?_; (try clear gx); repeat (first | (clear hK hE hT; clear K) | (clear hR hE hT; clear K))) | assumption | skip))
      (refine post_a hres (.inl rfl) ?_; simp only [RSB, ENB, seval, tiAll, true_and]; simp only [MAB, seval]; refine ⟨rfl, rfl, ?_, ?_, ?_⟩ <;> (first | rfl | (simp [WKB, Nat.add_comm, true_and]; done) | (simp only [WKB, seval])))
    case inl =>
      have e := gf_succ (b := b) (p := p) (k := k) (by omega)
      have m1 := gf_max (b := b) (p := p) (k := k) (by omega) (by omega)
      have m2 := gf_max (b := b) (p := p) (k := k + 1) (by omega) (by omega)
      have hx := (b[p + k]'(by omega)).toNat_lt
      have e' : ((gf b p (k + 1) : Nat) : Int) = (gf b p k : Int) * 256 + ((b[p + k]'(by omega)).toNat : Int) := by rw [e, Int.natCast_add, Int.natCast_mul]; rfl
      have e4 : ((p + k : Nat) : Int) + 1 = ((p + (k + 1) : Nat) : Int) := by omega
      (have gx := And.intro (@List.length_map.{0,0}) (And.intro @List.getElem_map.{0,0} @bytK.eq_1); refine go ?_; (repeat' (first | exact Ef.mk | refine Lf.mk ?_ ?_ | refine fun (K : KT) hK hE hT => ?_ | refine fun (KS : Eff → Prop) hKS => ?_ | refine fun (D : List Keys → Prop) hD => ?_ | refine fun (hg : (_ : Prop)) => ?_ | fail)); all_goals (first | (refine Wr.mk ?_; (try clear gx); repeat (first | (clear hK hE hT; clear K) | (clear hR hE hT; clear K))) | assumption | skip))
      (refine hR.out ⟨k + 1, by omega⟩ _ _ _ (by simp only; omega) ?_; (refine wk_a ?_; simp only [MAB, seval]; refine ⟨rfl, rfl, (by decide), ?_, ?_⟩; all_goals (first | (simp only [WKB, seval, e', e4, Nat.reduceLT, Nat.zero_lt_succ]; done) | (simp [WKB, seval, e', e4]; done) | simp only [WKB, seval])))

theorem i64_in32 {r : Nat} (h : r < 4294967296) : bits .xor .i64 (r : Int) 4294967295 = ((r ^^^ 4294967295 : Nat) : Int) := i64_xor_nat r 4294967295 h (by omega)

set_option maxHeartbeats 4000000 in
theorem specCrc_k (l : List UInt8) (hl : l.length ≤ 1099511627776) : FnOK Try.prog 142 ⟨1, [(0, some (.ro (l.map bytK)))], [.c (.sl 0 1 0 l.length)], .c (.v (.int .i64 (crcN l : Nat))), [], 1⟩ := by
  refine fnOK_of true mixed Try.func142 rfl (by rfl) (by rfl) ?_
  have hres := congrArg Array.toList Try.results142
  simp only [Try.ntmps142, BGB, seval]
  (have gx := And.intro (@List.length_map.{0,0}) (And.intro @List.getElem_map.{0,0} @bytK.eq_1); refine go ?_; (repeat' (first | exact Ef.mk | refine Lf.mk ?_ ?_ | refine fun (K : KT) hK hE hT => ?_ | refine fun (KS : Eff → Prop) hKS => ?_ | refine fun (D : List Keys → Prop) hD => ?_ | refine fun (hg : (_ : Prop)) => ?_ | fail)); all_goals (first | (refine Wr.mk ?_; (try clear gx); repeat (first | (clear hK hE hT; clear K) | (clear hR hE hT; clear K))) | assumption | skip))
  refine loop_v (X := {k : Nat // k ≤ l.length}) [] (fun x => [(3, .c (.v (.int .i64 (crcRun (l.take x.1) 4294967295 : Nat)))), (4, .c (.v (.int .i64 ((x.1 : Nat) : Int))))]) (fun x => [(0, some (.ro (l.map bytK)))]) 1 (fun x => l.length - x.1) ⟨0, by omega⟩ ?_
  simp only [KPB, seval]
  refine ⟨?_, ?_⟩
  · (refine wk_a ?_; simp only [MAB, seval]; refine ⟨rfl, rfl, (by decide), ?_, ?_⟩; all_goals (first | (simp only [WKB, seval, crcRun_zero, crcRun_nil, Nat.reduceLT, Nat.zero_lt_succ]; done) | (simp [WKB, seval, crcRun_zero, crcRun_nil]; done) | simp only [WKB, seval]))
  · rintro ⟨k, hk⟩ K hR hE hT
    have hr := crcRun_lt (l.take k) 4294967295 (by omega)
    rcases Nat.lt_or_ge k l.length with hlt | hge
    case inr =>
      obtain rfl : k = l.length := by omega
      have e1 := i64_in32 hr
      have e4 : crcRun (l.take l.length) 4294967295 ^^^ 4294967295 = crcN l := by rw [List.take_length]; rfl
      (have gx := And.intro (@List.length_map.{0,0}) (And.intro (@List.getElem_map.{0,0}) (And.intro @bytK.eq_1 @e1)); refine go ?_; (repeat' (first | exact Ef.mk | refine Lf.mk ?_ ?_ | refine fun (K : KT) hK hE hT => ?_ | refine fun (KS : Eff → Prop) hKS => ?_ | refine fun (D : List Keys → Prop) hD => ?_ | refine fun (hg : (_ : Prop)) => ?_ | fail)); all_goals (first | (refine Wr.mk ?_; (try clear gx); repeat (first | (clear hK hE hT; clear K) | (clear hR hE hT; clear K))) | assumption | skip))
      (refine post_a hres (.inl rfl) ?_; simp only [RSB, ENB, seval, tiAll, e1, e4]; simp only [MAB, seval]; refine ⟨rfl, rfl, ?_, ?_, ?_⟩ <;> (first | rfl | (simp [WKB, Nat.add_comm, e1, e4]; done) | (simp only [WKB, seval])))
    case inl =>
      have hx := l[k].toNat_lt
      obtain ⟨r0, hr0⟩ : ∃ r0, r0 = crcRun (l.take k) 4294967295 := ⟨_, rfl⟩
      have hs := crcRun_snoc l k hlt 4294967295
      rw [← hr0] at hr hs ⊢
      have q6 := i64_xor_nat r0 l[k].toNat hr (by omega)
      have hy : r0 ^^^ l[k].toNat < 4294967296 := xor_lt32 hr (by omega)
      (have gx := And.intro (@List.length_map.{0,0}) (And.intro (@List.getElem_map.{0,0}) (And.intro @bytK.eq_1 @q6)); refine go ?_; (repeat' (first | exact Ef.mk | refine Lf.mk ?_ ?_ | refine fun (K : KT) hK hE hT => ?_ | refine fun (KS : Eff → Prop) hKS => ?_ | refine fun (D : List Keys → Prop) hD => ?_ | refine fun (hg : (_ : Prop)) => ?_ | fail)); all_goals (first | (refine Wr.mk ?_; (try clear gx); repeat (first | (clear hK hE hT; clear K) | (clear hR hE hT; clear K))) | assumption | skip))
      refine loop_v (X := {j : Nat // j ≤ 8}) [] (fun x => [(3, .c (.v (.int .i64 (crcBits x.1 (r0 ^^^ l[k].toNat) : Nat)))), (5, .c (.v (.int .i64 ((x.1 : Nat) : Int))))]) (fun x => [(0, some (.ro (l.map bytK)))]) 1 (fun x => 8 - x.1) ⟨0, by omega⟩ ?_
      simp only [KPB, seval]
      refine ⟨?_, ?_⟩
      · (refine wk_a ?_; simp only [MAB, seval]; refine ⟨rfl, rfl, (by decide), ?_, ?_⟩; all_goals (first | (simp only [WKB, seval, crcBits_zero, Nat.reduceLT, Nat.zero_lt_succ]; done) | (simp [WKB, seval, crcBits_zero]; done) | simp only [WKB, seval]))
      · rintro ⟨j, hj⟩ K hR hE hT
        have hrj := crcBits_lt hy j
        rcases Nat.lt_or_ge j 8 with hlt8 | hge8
        case inr =>
          obtain rfl : j = 8 := by omega
          (have gx := And.intro (@List.length_map.{0,0}) (And.intro @List.getElem_map.{0,0} @bytK.eq_1); refine go ?_; (repeat' (first | exact Ef.mk | refine Lf.mk ?_ ?_ | refine fun (K : KT) hK hE hT => ?_ | refine fun (KS : Eff → Prop) hKS => ?_ | refine fun (D : List Keys → Prop) hD => ?_ | refine fun (hg : (_ : Prop)) => ?_ | fail)); all_goals (first | (refine Wr.mk ?_; (try clear gx); repeat (first | (clear hK hE hT; clear K) | (clear hR hE hT; clear K))) | assumption | skip))
          (refine hR.out ⟨k + 1, by omega⟩ _ _ _ (by simp only; omega) ?_; (refine wk_a ?_; simp only [MAB, seval]; refine ⟨rfl, rfl, (by decide), ?_, ?_⟩; all_goals (first | (simp only [WKB, seval, hs, Nat.reduceLT, Nat.zero_lt_succ]; done) | (simp [WKB, seval, hs]; done) | simp only [WKB, seval])))
        case inl =>
          have q9 : ((crcBits j (r0 ^^^ l[k].toNat) : Nat) : Int) / 2 = ((crcBits j (r0 ^^^ l[k].toNat) / 2 : Nat) : Int) := by omega
          have q10 : bits .xor .i64 ((crcBits j (r0 ^^^ l[k].toNat) / 2 : Nat) : Int) 3988292384 = ((crcBits j (r0 ^^^ l[k].toNat) / 2 ^^^ 3988292384 : Nat) : Int) := i64_xor_nat (crcBits j (r0 ^^^ l[k].toNat) / 2) 3988292384 (by omega) (by omega)
          (have gx := And.intro (@List.length_map.{0,0}) (And.intro (@List.getElem_map.{0,0}) (And.intro (@bytK.eq_1) (And.intro @q9 @q10))); refine go ?_; (repeat' (first | exact Ef.mk | refine Lf.mk ?_ ?_ | refine fun (K : KT) hK hE hT => ?_ | refine fun (KS : Eff → Prop) hKS => ?_ | refine fun (D : List Keys → Prop) hD => ?_ | refine fun (hg : (_ : Prop)) => ?_ | fail)); all_goals (first | (refine Wr.mk ?_; (try clear gx); repeat (first | (clear hK hE hT; clear K) | (clear hR hE hT; clear K))) | assumption | skip))
          all_goals first
            | (have e := crcBits_odd (r := r0 ^^^ l[k].toNat) (k := j) (by omega)
               (refine hR.out ⟨j + 1, by omega⟩ _ _ _ (by simp only; omega) ?_; (refine wk_a ?_; simp only [MAB, seval]; refine ⟨rfl, rfl, (by decide), ?_, ?_⟩; all_goals (first | (simp only [WKB, seval, e, Nat.reduceLT, Nat.zero_lt_succ]; done) | (simp [WKB, seval, e]; done) | simp only [WKB, seval]))))
            | (have e := crcBits_even (r := r0 ^^^ l[k].toNat) (k := j) (by omega)
               (refine hR.out ⟨j + 1, by omega⟩ _ _ _ (by simp only; omega) ?_; (refine wk_a ?_; simp only [MAB, seval]; refine ⟨rfl, rfl, (by decide), ?_, ?_⟩; all_goals (first | (simp only [WKB, seval, e, Nat.reduceLT, Nat.zero_lt_succ]; done) | (simp [WKB, seval, e]; done) | simp only [WKB, seval]))))
            | fail

end Go.Proofs.Ytcbnfkbnbdbfoaa
