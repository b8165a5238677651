/-
  Contracts: the check sum, numbers put behind bytes of ours. No conditions of its own.
-/
import Derived.Test.YtfdhdkljpeohlaaGreatDoorGO
import Derived.Test.YtfdhdkljpeohlaaGreatDoorZz1
import Derived.Test.YtfdhdkljpeohlaaGreatDoorZz3
namespace Go.Proofs.YtfdhdkljpeohlaaGreatDoor
set_option linter.unusedSimpArgs false
set_option linter.unusedVariables false
set_option linter.unusedSimpArgs false
set_option linter.unusedVariables false
set_option linter.defProp false
open Go.RowKit

theorem crcRun_zero (l : List UInt8) : ((crcRun (l.take 0) 4294967295 : Nat) : Int) = 4294967295 := rfl
theorem crcRun_nil (r : Nat) : crcRun [] r = r := rfl
theorem crcBits_zero (r : Nat) : crcBits 0 r = r := rfl
theorem crcBits_odd {r k : Nat} (h : crcBits k r % 2 = 1) : (crcBits k r / 2) ^^^ 3988292384 = crcBits (k + 1) r := by
  show _ = crcBit (crcBits k r)
  unfold crcBit
  rw [if_pos h]
theorem crcBits_even {r k : Nat} (h : ¬ crcBits k r % 2 = 1) : crcBits k r / 2 = crcBits (k + 1) r := by
  show _ = crcBit (crcBits k r)
  unfold crcBit
  rw [if_neg h]
theorem min1_32 : min 1 IntKind.u32.bits = 1 := rfl
theorem not_u32 {r : Nat} (h : r < 4294967296) : bits .xor .u32 (if IntKind.u32.signed = true then -1 else IntKind.u32.max) (r : Int) = ((r ^^^ 4294967295 : Nat) : Int) := by
  have e := u32_xor_nat 4294967295 r (by omega) h
  rw [Nat.xor_comm] at e
  exact e

set_option maxHeartbeats 4000000 in
theorem implCrc_k (l : List UInt8) (hl : l.length ≤ 1099511627776) : FnOK Tryz.prog 52 ⟨1, [(0, some (.ro (l.map bytK)))], [.c (.sl 0 1 0 l.length)], .c (.v (.int .i64 (crcN l : Nat))), [], 1⟩ := by
  refine fnOK_of true mixed Tryz.func52 rfl (by rfl) (by rfl) ?_
  have hres := congrArg Array.toList Tryz.results52
  simp only [Tryz.ntmps52, BGB, seval]
  (have gx := And.intro (@List.length_map.{0,0}) (And.intro @List.getElem_map.{0,0} @bytK.eq_1); refine go ?_; (repeat' first | exact Ef.mk | apply Lf.mk | refine fun (K : KT) hK hE hT => ?_ | refine fun (KS : KE) hKS => ?_ | refine fun (D : KD) hD => ?_ | refine fun (hg : (_ : Prop)) => ?_ | fail); all_goals (first | (refine Wr.mk ?_; (try clear gx); repeat first | clear hK hE hT K | clear hR hE hT K) | assumption | skip))
  refine loop_v (X := {k : Nat // k ≤ l.length}) [] (fun x => [(3, .c (.v (.int .u32 (crcRun (l.take x.1) 4294967295 : Nat)))), (9, .c (.v (.int .i64 ((x.1 : Nat) : Int))))]) (fun x => [(0, some (.ro (l.map bytK)))]) 1 (fun x => l.length - x.1) ⟨0, by omega⟩ ?_
  simp only [KPB, seval]
  refine ⟨?_, ?_⟩
  · (refine wk_a ?_; simp only [MAB, seval]; refine ⟨rfl, rfl, (by decide), ?_, ?_⟩; all_goals (first | (simp only [WKB, seval, crcRun_zero, crcRun_nil]; done) | (simp [WKB, seval, crcRun_zero, crcRun_nil]; done) | simp only [WKB, seval]))
  · rintro ⟨k, hk⟩ K hR hE hT
    have hr := crcRun_lt (l.take k) 4294967295 (by omega)
    rcases Nat.lt_or_ge k l.length with hlt | hge
    case inr =>
      obtain rfl : k = l.length := by omega
      have e1 := not_u32 hr
      have e2 : crcRun (l.take l.length) 4294967295 ^^^ 4294967295 < 4294967296 := xor_lt32 hr (by omega)
      have e3 : IntKind.i64.wrap ((crcRun (l.take l.length) 4294967295 ^^^ 4294967295 : Nat) : Int) = ((crcRun (l.take l.length) 4294967295 ^^^ 4294967295 : Nat) : Int) := IntWalk.i64_in _ (by omega)
      have e4 : crcRun (l.take l.length) 4294967295 ^^^ 4294967295 = crcN l := by rw [List.take_length]; rfl
      (have gx := And.intro (@List.length_map.{0,0}) (And.intro (@List.getElem_map.{0,0}) (And.intro (@bytK.eq_1) (And.intro @e1 @e3))); refine go ?_; (repeat' first | exact Ef.mk | apply Lf.mk | refine fun (K : KT) hK hE hT => ?_ | refine fun (KS : KE) hKS => ?_ | refine fun (D : KD) hD => ?_ | refine fun (hg : (_ : Prop)) => ?_ | fail); all_goals (first | (refine Wr.mk ?_; (try clear gx); repeat first | clear hK hE hT K | clear hR hE hT K) | assumption | skip))
      (refine post_a hres (.inl rfl) ?_; simp only [RSB, ENB, seval, tiAll, e1, e3, e4]; simp only [MAB, seval]; refine ⟨rfl, rfl, ?_, ?_, ?_⟩ <;> (first | rfl | (simp [WKB, Nat.add_comm, e1, e3, e4]; done) | (simp only [WKB, seval])))
    case inl =>
      have hx := l[k].toNat_lt
      obtain ⟨r0, hr0⟩ : ∃ r0, r0 = crcRun (l.take k) 4294967295 := ⟨_, rfl⟩
      have hs := crcRun_snoc l k hlt 4294967295
      rw [← hr0] at hr hs ⊢
      have q6 := u32_xor_nat r0 l[k].toNat hr (by omega)
      have hy : r0 ^^^ l[k].toNat < 4294967296 := xor_lt32 hr (by omega)
      have q7 : IntKind.u32.wrap (l[k].toNat : Int) = (l[k].toNat : Int) := IntWalk.u32_in _ (by omega)
      (have gx := And.intro (@List.length_map.{0,0}) (And.intro (@List.getElem_map.{0,0}) (And.intro (@bytK.eq_1) (And.intro @q6 @q7))); refine go ?_; (repeat' first | exact Ef.mk | apply Lf.mk | refine fun (K : KT) hK hE hT => ?_ | refine fun (KS : KE) hKS => ?_ | refine fun (D : KD) hD => ?_ | refine fun (hg : (_ : Prop)) => ?_ | fail); all_goals (first | (refine Wr.mk ?_; (try clear gx); repeat first | clear hK hE hT K | clear hR hE hT K) | assumption | skip))
      refine loop_v (X := {j : Nat // j ≤ 8}) [] (fun x => [(3, .c (.v (.int .u32 (crcBits x.1 (r0 ^^^ l[k].toNat) : Nat)))), (17, .c (.v (.int .i64 ((x.1 : Nat) : Int))))]) (fun x => [(0, some (.ro (l.map bytK)))]) 1 (fun x => 8 - x.1) ⟨0, by omega⟩ ?_
      simp only [KPB, seval]
      refine ⟨?_, ?_⟩
      · (refine wk_a ?_; simp only [MAB, seval]; refine ⟨rfl, rfl, (by decide), ?_, ?_⟩; all_goals (first | (simp only [WKB, seval, crcBits_zero]; done) | (simp [WKB, seval, crcBits_zero]; done) | simp only [WKB, seval]))
      · rintro ⟨j, hj⟩ K hR hE hT
        have hrj := crcBits_lt hy j
        rcases Nat.lt_or_ge j 8 with hlt8 | hge8
        case inr =>
          obtain rfl : j = 8 := by omega
          (have gx := And.intro (@List.length_map.{0,0}) (And.intro @List.getElem_map.{0,0} @bytK.eq_1); refine go ?_; (repeat' first | exact Ef.mk | apply Lf.mk | refine fun (K : KT) hK hE hT => ?_ | refine fun (KS : KE) hKS => ?_ | refine fun (D : KD) hD => ?_ | refine fun (hg : (_ : Prop)) => ?_ | fail); all_goals (first | (refine Wr.mk ?_; (try clear gx); repeat first | clear hK hE hT K | clear hR hE hT K) | assumption | skip))
          (refine hR.out ⟨k + 1, by omega⟩ _ _ _ (by simp only; omega) ?_; (refine wk_a ?_; simp only [MAB, seval]; refine ⟨rfl, rfl, (by decide), ?_, ?_⟩; all_goals (first | (simp only [WKB, seval, hs]; done) | (simp [WKB, seval, hs]; done) | simp only [WKB, seval])))
        case inl =>
          have q8 : bits .and .u32 ((crcBits j (r0 ^^^ l[k].toNat) : Nat) : Int) 1 = ((crcBits j (r0 ^^^ l[k].toNat) % 2 : Nat) : Int) := by
            have := u32_and_nat (crcBits j (r0 ^^^ l[k].toNat)) 1 hrj (by omega)
            rwa [Nat.and_one_is_mod] at this
          have q9 : ((crcBits j (r0 ^^^ l[k].toNat) : Nat) : Int).fdiv 2 = ((crcBits j (r0 ^^^ l[k].toNat) / 2 : Nat) : Int) := by
            rw [Int.fdiv_eq_ediv_of_nonneg _ (by decide)]; omega
          have q10 : bits .xor .u32 ((crcBits j (r0 ^^^ l[k].toNat) / 2 : Nat) : Int) 3988292384 = ((crcBits j (r0 ^^^ l[k].toNat) / 2 ^^^ 3988292384 : Nat) : Int) := u32_xor_nat (crcBits j (r0 ^^^ l[k].toNat) / 2) 3988292384 (by omega) (by omega)
          (have gx := And.intro (@List.length_map.{0,0}) (And.intro (@List.getElem_map.{0,0}) (And.intro (@bytK.eq_1) (And.intro (@q8) (And.intro (@q9) (And.intro @q10 @min1_32))))); refine go ?_; (repeat' first | exact Ef.mk | apply Lf.mk | refine fun (K : KT) hK hE hT => ?_ | refine fun (KS : KE) hKS => ?_ | refine fun (D : KD) hD => ?_ | refine fun (hg : (_ : Prop)) => ?_ | fail); all_goals (first | (refine Wr.mk ?_; (try clear gx); repeat first | clear hK hE hT K | clear hR hE hT K) | assumption | skip))
          all_goals first
            | (have e := crcBits_odd (r := r0 ^^^ l[k].toNat) (k := j) (by omega)
               (refine hR.out ⟨j + 1, by omega⟩ _ _ _ (by simp only; omega) ?_; (refine wk_a ?_; simp only [MAB, seval]; refine ⟨rfl, rfl, (by decide), ?_, ?_⟩; all_goals (first | (simp only [WKB, seval, e]; done) | (simp [WKB, seval, e]; done) | simp only [WKB, seval]))))
            | (have e := crcBits_even (r := r0 ^^^ l[k].toNat) (k := j) (by omega)
               (refine hR.out ⟨j + 1, by omega⟩ _ _ _ (by simp only; omega) ?_; (refine wk_a ?_; simp only [MAB, seval]; refine ⟨rfl, rfl, (by decide), ?_, ?_⟩; all_goals (first | (simp only [WKB, seval, e]; done) | (simp [WKB, seval, e]; done) | simp only [WKB, seval]))))
            | fail

structure PvY (l : List UInt8) (n : Nat) where
  f : Bool
  m : Nat
  q : List UInt8
  le : m ≤ n
  ln : q.length ≤ l.length + 7
  eq : Rnd (q ++ varB m = l ++ varB n)

set_option maxHeartbeats 4000000 in
theorem putVar_k (l : List UInt8) (n : Nat) (hl : l.length ≤ 1048576) (hn : n ≤ 281474976710655) : FnOK Tryz.prog 25 ⟨1, [(0, some (.row 5 (l.map bytK)))], [.c (.sl 0 1 0 l.length), .c (.v (.int .i64 (n : Int)))],
    .c (.sl 1 1 0 (l ++ varB n).length), [(0, none), (1, some (.row 5 ((l ++ varB n).map bytK)))], 2⟩ := by
  refine fnOK_of true mixed Tryz.func25 rfl (by rfl) (by rfl) ?_
  have hres := congrArg Array.toList Tryz.results25
  simp only [Tryz.ntmps25, BGB, seval]
  (have gx := And.intro (@List.length_map.{0,0}) (And.intro @List.getElem_map.{0,0} @bytK.eq_1); refine go ?_; (repeat' first | exact Ef.mk | apply Lf.mk | refine fun (K : KT) hK hE hT => ?_ | refine fun (KS : KE) hKS => ?_ | refine fun (D : KD) hD => ?_ | refine fun (hg : (_ : Prop)) => ?_ | fail); all_goals (first | (refine Wr.mk ?_; (try clear gx); repeat first | clear hK hE hT K | clear hR hE hT K) | assumption | skip))
  refine loop_v (X := PvY l n) [7, 12, 13] (fun x => [(1, .c (.v (.int .i64 ((x.m : Nat) : Int)))), (0, .c (.sl (bif x.f then 0 else 1) 1 0 x.q.length))]) (fun x => bif x.f then [(0, some (.row 5 (x.q.map bytK)))] else [(1, some (.row 5 (x.q.map bytK)))]) 2 (fun x => x.m) ⟨true, n, l, by omega, by omega, ⟨rfl⟩⟩ ?_
  simp only [KPB, seval]
  refine ⟨?_, ?_⟩
  · dsimp only [cond]
    (refine wk_a ?_; simp only [MAB, seval]; refine ⟨rfl, rfl, (by decide), ?_, ?_⟩; all_goals (first | (simp only [WKB, seval, true_and]; done) | (simp [WKB, seval, true_and]; done) | simp only [WKB, seval]))
  · rintro ⟨f, m, q, hle, hln, heq⟩ K hR hE hT
    by_cases hm : m < 128
    · have e := heq.out
      rw [varB_lt hm] at e
      have b1 := low_byte hm
      cases f
      all_goals dsimp only [cond]
      all_goals (have gx := And.intro (@List.length_map.{0,0}) (And.intro (@List.getElem_map.{0,0}) (And.intro @bytK.eq_1 @b1)); refine go ?_; (repeat' first | exact Ef.mk | apply Lf.mk | refine fun (K : KT) hK hE hT => ?_ | refine fun (KS : KE) hKS => ?_ | refine fun (D : KD) hD => ?_ | refine fun (hg : (_ : Prop)) => ?_ | fail); all_goals (first | (refine Wr.mk ?_; (try clear gx); repeat first | clear hK hE hT K | clear hR hE hT K) | assumption | skip))
      all_goals (refine post_a hres (.inl rfl) ?_; simp only [RSB, ENB, seval, tiAll, ← e, bytK, b1]; simp only [MAB, seval]; refine ⟨rfl, rfl, ?_, ?_, ?_⟩ <;> (first | rfl | (simp [WKB, Nat.add_comm, ← e, bytK, b1]; done) | (simp only [WKB, seval])))
    · have e := heq.out
      rw [varB_ge hm] at e
      have b1 := hi_byte m
      have e3 : (q ++ [UInt8.ofNat (m % 128 + 128)]) ++ varB (m / 128) = l ++ varB n := by rw [← e]; simp
      have e4 := congrArg List.length e3
      have e5 := varB_len7 (n := n) (by omega)
      simp only [List.length_append, List.length_singleton] at e4
      cases f
      all_goals dsimp only [cond]
      all_goals (have gx := And.intro (@List.length_map.{0,0}) (And.intro (@List.getElem_map.{0,0}) (And.intro @bytK.eq_1 @b1)); refine go ?_; (repeat' first | exact Ef.mk | apply Lf.mk | refine fun (K : KT) hK hE hT => ?_ | refine fun (KS : KE) hKS => ?_ | refine fun (D : KD) hD => ?_ | refine fun (hg : (_ : Prop)) => ?_ | fail); all_goals (first | (refine Wr.mk ?_; (try clear gx); repeat first | clear hK hE hT K | clear hR hE hT K) | assumption | skip))
      all_goals (refine hR.out ⟨false, m / 128, q ++ [UInt8.ofNat (m % 128 + 128)], by omega, by simp only [List.length_append, List.length_singleton]; omega, ⟨e3⟩⟩ _ _ _ (by simp only; omega) ?_)
      all_goals dsimp only [cond]
      all_goals (refine wk_a ?_; simp only [MAB, seval]; refine ⟨rfl, rfl, (by decide), ?_, ?_⟩; all_goals (first | (simp only [WKB, seval, bytK, b1]; done) | (simp [WKB, seval, bytK, b1]; done) | simp only [WKB, seval]))

set_option maxHeartbeats 2000000 in
theorem putVar0_k (n : Nat) (hn : n ≤ 281474976710655) : FnOK Tryz.prog 25 ⟨0, [], [.c .nil, .c (.v (.int .i64 (n : Int)))], .c (.sl 0 1 0 (varB n).length), [(0, some (.row 5 ((varB n).map bytK)))], 1⟩ := by
  refine fnOK_of true mixed Tryz.func25 rfl (by rfl) (by rfl) ?_
  have hres := congrArg Array.toList Tryz.results25
  simp only [Tryz.ntmps25, BGB, seval]
  (have gx := And.intro (@List.length_map.{0,0}) (And.intro @List.getElem_map.{0,0} @bytK.eq_1); refine go ?_; (repeat' first | exact Ef.mk | apply Lf.mk | refine fun (K : KT) hK hE hT => ?_ | refine fun (KS : KE) hKS => ?_ | refine fun (D : KD) hD => ?_ | refine fun (hg : (_ : Prop)) => ?_ | fail); all_goals (first | (refine Wr.mk ?_; (try clear gx); repeat first | clear hK hE hT K | clear hR hE hT K) | assumption | skip))
  refine loop_v (X := PvX [] n) [7, 12, 13] (fun x => [(1, .c (.v (.int .i64 ((x.m : Nat) : Int)))), (0, .c (.sl 0 1 0 x.q.length))]) (fun x => [(0, some (.row 5 (x.q.map bytK)))]) 1 (fun x => x.m) ⟨n, [], by omega, by omega, ⟨rfl⟩⟩ ?_
  simp only [KPB, seval]
  refine ⟨?_, ?_⟩
  · (refine wk_a ?_; simp only [MAB, seval]; refine ⟨rfl, rfl, (by decide), ?_, ?_⟩; all_goals (first | (simp only [WKB, seval, true_and]; done) | (simp [WKB, seval, true_and]; done) | simp only [WKB, seval]))
  · rintro ⟨m, q, hle, hln, heq⟩ K hR hE hT
    simp only [List.length_nil] at hln
    by_cases hm : m < 128
    · have e := heq.out
      rw [varB_lt hm, List.nil_append] at e
      have b1 := low_byte hm
      (have gx := And.intro (@List.length_map.{0,0}) (And.intro (@List.getElem_map.{0,0}) (And.intro @bytK.eq_1 @b1)); refine go ?_; (repeat' first | exact Ef.mk | apply Lf.mk | refine fun (K : KT) hK hE hT => ?_ | refine fun (KS : KE) hKS => ?_ | refine fun (D : KD) hD => ?_ | refine fun (hg : (_ : Prop)) => ?_ | fail); all_goals (first | (refine Wr.mk ?_; (try clear gx); repeat first | clear hK hE hT K | clear hR hE hT K) | assumption | skip))
      (refine post_a hres (.inl rfl) ?_; simp only [RSB, ENB, seval, tiAll, ← e, bytK, b1]; simp only [MAB, seval]; refine ⟨rfl, rfl, ?_, ?_, ?_⟩ <;> (first | rfl | (simp [WKB, Nat.add_comm, ← e, bytK, b1]; done) | (simp only [WKB, seval])))
    · have e := heq.out
      rw [varB_ge hm] at e
      have b1 := hi_byte m
      have e3 : (q ++ [UInt8.ofNat (m % 128 + 128)]) ++ varB (m / 128) = [] ++ varB n := by rw [← e]; simp
      have e4 := congrArg List.length e3
      have e5 := varB_len7 (n := n) (by omega)
      simp only [List.length_append, List.length_singleton, List.length_nil] at e4
      (have gx := And.intro (@List.length_map.{0,0}) (And.intro (@List.getElem_map.{0,0}) (And.intro @bytK.eq_1 @b1)); refine go ?_; (repeat' first | exact Ef.mk | apply Lf.mk | refine fun (K : KT) hK hE hT => ?_ | refine fun (KS : KE) hKS => ?_ | refine fun (D : KD) hD => ?_ | refine fun (hg : (_ : Prop)) => ?_ | fail); all_goals (first | (refine Wr.mk ?_; (try clear gx); repeat first | clear hK hE hT K | clear hR hE hT K) | assumption | skip))
      (refine hR.out ⟨m / 128, q ++ [UInt8.ofNat (m % 128 + 128)], by omega, by simp only [List.length_append, List.length_singleton, List.length_nil]; omega, ⟨e3⟩⟩ _ _ _ (by simp only; omega) ?_; (refine wk_a ?_; simp only [MAB, seval]; refine ⟨rfl, rfl, (by decide), ?_, ?_⟩; all_goals (first | (simp only [WKB, seval, bytK, b1]; done) | (simp [WKB, seval, bytK, b1]; done) | simp only [WKB, seval])))

end Go.Proofs.YtfdhdkljpeohlaaGreatDoor

