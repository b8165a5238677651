/-
  Contracts: the check sum, numbers put behind bytes of ours. No conditions of its own.
-/
import Derived.Test.YtcbnfkbnbdbfoaaGO
import Derived.Test.YtcbnfkbnbdbfoaaCP
import Derived.Test.YtcbnfkbnbdbfoaaR3
namespace Go.Proofs.Ytcbnfkbnbdbfoaa
set_option linter.unusedSimpArgs false
set_option linter.unusedVariables false
set_option linter.unusedSimpArgs false
set_option linter.unusedVariables false
set_option linter.defProp false
open Go.RowKit

theorem crcRun_zero (l : List UInt8) : ((crcRun (l.take 0) 4294967295 : Nat) : Int) = 4294967295 := rfl
theorem crcRun_nil (r : Nat) : crcRun [] r = r := rfl
theorem crcBits_zero (r : Nat) : crcBits 0 r = r := rfl
theorem crcBits_odd {r k : Nat} (h : crcBits k r % 2 = 1) : (crcBits k r / 2) ^^^ 3988292384 = crcBits (k + 1) r := by
  show _ = crcBit (crcBits k r)
  unfold crcBit
  rw [if_pos h]
theorem crcBits_even {r k : Nat} (h : ¬ crcBits k r % 2 = 1) : crcBits k r / 2 = crcBits (k + 1) r := by
  show _ = crcBit (crcBits k r)
  unfold crcBit
  rw [if_neg h]
theorem min1_32 : min 1 IntKind.u32.bits = 1 := rfl
theorem not_u32 {r : Nat} (h : r < 4294967296) : bits .xor .u32 (if IntKind.u32.signed = true then -1 else IntKind.u32.max) (r : Int) = ((r ^^^ 4294967295 : Nat) : Int) := by
  have e := u32_xor_nat 4294967295 r (by omega) h
  rw [Nat.xor_comm] at e
  exact e

set_option maxHeartbeats 4000000 in
theorem implCrc_k (l : List UInt8) (hl : l.length ≤ 1099511627776) : FnOK Try.prog 150 ⟨1, [(0, some (.ro (l.map bytK)))], [.c (.sl 0 1 0 l.length)], .c (.v (.int .i64 (crcN l : Nat))), [], 1⟩ := by
  refine fnOK_of true mixed Try.func150 rfl (by rfl) (by rfl) ?_
  have hres := congrArg Array.toList Try.results150
  simp only [Try.ntmps150, BGB, seval]
  (have gx := And.intro (@List.length_map.{0,0}) (And.intro @List.getElem_map.{0,0} @bytK.eq_1); refine go ?_; (repeat' (first | exact Ef.mk | refine Lf.mk ?_ ?_ | refine fun (K : KT) hK hE hT => ?_ | refine fun (KS : Eff → Prop) hKS => ?_ | refine fun (D : List Keys → Prop) hD => ?_ | refine fun (hg : (_ : Prop)) => ?_ | fail)); all_goals (first | (refine Wr.mk ?_; (try clear gx); repeat (first | (clear hK hE hT; clear K) | (clear hR hE hT; clear K))) | assumption | skip))
  refine loop_v (X := {k : Nat // k ≤ l.length}) [] (fun x => [(3, .c (.v (.int .u32 (crcRun (l.take x.1) 4294967295 : Nat)))), (9, .c (.v (.int .i64 ((x.1 : Nat) : Int))))]) (fun x => [(0, some (.ro (l.map bytK)))]) 1 (fun x => l.length - x.1) ⟨0, by omega⟩ ?_
  simp only [KPB, seval]
  refine ⟨?_, ?_⟩
  · (refine wk_a ?_; simp only [MAB, seval]; refine ⟨rfl, rfl, (by decide), ?_, ?_⟩; all_goals (first | (simp only [WKB, seval, crcRun_zero, crcRun_nil, Nat.reduceLT, Nat.zero_lt_succ]; done) | (simp [WKB, seval, crcRun_zero, crcRun_nil]; done) | simp only [WKB, seval]))
  · rintro ⟨k, hk⟩ K hR hE hT
    have hr := crcRun_lt (l.take k) 4294967295 (by omega)
    rcases Nat.lt_or_ge k l.length with hlt | hge
    case inr =>
      obtain rfl : k = l.length := by omega
      have e1 := not_u32 hr
      have e2 : crcRun (l.take l.length) 4294967295 ^^^ 4294967295 < 4294967296 := xor_lt32 hr (by omega)
      have e3 : IntKind.i64.wrap ((crcRun (l.take l.length) 4294967295 ^^^ 4294967295 : Nat) : Int) = ((crcRun (l.take l.length) 4294967295 ^^^ 4294967295 : Nat) : Int) := IntWalk.i64_in _ (by omega)
      have e4 : crcRun (l.take l.length) 4294967295 ^^^ 4294967295 = crcN l := by rw [List.take_length]; rfl
      (have gx := And.intro (@List.length_map.{0,0}) (And.intro (@List.getElem_map.{0,0}) (And.intro (@bytK.eq_1) (And.intro @e1 @e3))); refine go ?_; (repeat' (first | exact Ef.mk | refine Lf.mk ?_ ?_ | refine fun (K : KT) hK hE hT => ?_ | refine fun (KS : Eff → Prop) hKS => ?_ | refine fun (D : List Keys → Prop) hD => ?_ | refine fun (hg : (_ : Prop)) => ?_ | fail)); all_goals (first | (refine Wr.mk ?_; (try clear gx); repeat (first | (clear hK hE hT; clear K) | (clear hR hE hT; clear K))) | assumption | skip))
      (refine post_a hres (.inl rfl) ?_; simp only [RSB, ENB, seval, tiAll, e1, e3, e4]; simp only [MAB, seval]; refine ⟨rfl, rfl, ?_, ?_, ?_⟩ <;> (first | rfl | (simp [WKB, Nat.add_comm, e1, e3, e4]; done) | (simp only [WKB, seval])))
    case inl =>
      have hx := l[k].toNat_lt
      obtain ⟨r0, hr0⟩ : ∃ r0, r0 = crcRun (l.take k) 4294967295 := ⟨_, rfl⟩
      have hs := crcRun_snoc l k hlt 4294967295
      rw [← hr0] at hr hs ⊢
      have q6 := u32_xor_nat r0 l[k].toNat hr (by omega)
      have hy : r0 ^^^ l[k].toNat < 4294967296 := xor_lt32 hr (by omega)
      have q7 : IntKind.u32.wrap (l[k].toNat : Int) = (l[k].toNat : Int) := IntWalk.u32_in _ (by omega)
      (have gx := And.intro (@List.length_map.{0,0}) (And.intro (@List.getElem_map.{0,0}) (And.intro (@bytK.eq_1) (And.intro @q6 @q7))); refine go ?_; (repeat' (first | exact Ef.mk | refine Lf.mk ?_ ?_ | refine fun (K : KT) hK hE hT => ?_ | refine fun (KS : Eff → Prop) hKS => ?_ | refine fun (D : List Keys → Prop) hD => ?_ | refine fun (hg : (_ : Prop)) => ?_ | fail)); all_goals (first | (refine Wr.mk ?_; (try clear gx); repeat (first | (clear hK hE hT; clear K) | (clear hR hE hT; clear K))) | assumption | skip))
      refine loop_v (X := {j : Nat // j ≤ 8}) [] (fun x => [(3, .c (.v (.int .u32 (crcBits x.1 (r0 ^^^ l[k].toNat) : Nat)))), (17, .c (.v (.int .i64 ((x.1 : Nat) : Int))))]) (fun x => [(0, some (.ro (l.map bytK)))]) 1 (fun x => 8 - x.1) ⟨0, by omega⟩ ?_
      simp only [KPB, seval]
      refine ⟨?_, ?_⟩
      · (refine wk_a ?_; simp only [MAB, seval]; refine ⟨rfl, rfl, (by decide), ?_, ?_⟩; all_goals (first | (simp only [WKB, seval, crcBits_zero, Nat.reduceLT, Nat.zero_lt_succ]; done) | (simp [WKB, seval, crcBits_zero]; done) | simp only [WKB, seval]))
      · rintro ⟨j, hj⟩ K hR hE hT
        have hrj := crcBits_lt hy j
        rcases Nat.lt_or_ge j 8 with hlt8 | hge8
        case inr =>
          obtain rfl : j = 8 := by omega
          (have gx := And.intro (@List.length_map.{0,0}) (And.intro @List.getElem_map.{0,0} @bytK.eq_1); refine go ?_; (repeat' (first | exact Ef.mk | refine Lf.mk ?_ ?_ | refine fun (K : KT) hK hE hT => ?_ | refine fun (KS : Eff → Prop) hKS => ?_ | refine fun (D : List Keys → Prop) hD => ?_ | refine fun (hg : (_ : Prop)) => ?_ | fail)); all_goals (first | (refine Wr.mk ?_; (try clear gx); repeat (first | (clear hK hE hT; clear K) | (clear hR hE hT; clear K))) | assumption | skip))
          (refine hR.out ⟨k + 1, by omega⟩ _ _ _ (by simp only; omega) ?_; (refine wk_a ?_; simp only [MAB, seval]; refine ⟨rfl, rfl, (by decide), ?_, ?_⟩; all_goals (first | (simp only [WKB, seval, hs, Nat.reduceLT, Nat.zero_lt_succ]; done) | (simp [WKB, seval, hs]; done) | simp only [WKB, seval])))
        case inl =>
          have q8 : bits .and .u32 ((crcBits j (r0 ^^^ l[k].toNat) : Nat) : Int) 1 = ((crcBits j (r0 ^^^ l[k].toNat) % 2 : Nat) : Int) := by
            have := u32_and_nat (crcBits j (r0 ^^^ l[k].toNat)) 1 hrj (by omega)
            rwa [Nat.and_one_is_mod] at this
          have q9 : ((crcBits j (r0 ^^^ l[k].toNat) : Nat) : Int).fdiv 2 = ((crcBits j (r0 ^^^ l[k].toNat) / 2 : Nat) : Int) := by
            rw [Int.fdiv_eq_ediv_of_nonneg _ (by decide)]; omega
          have q10 : bits .xor .u32 ((crcBits j (r0 ^^^ l[k].toNat) / 2 : Nat) : Int) 3988292384 = ((crcBits j (r0 ^^^ l[k].toNat) / 2 ^^^ 3988292384 : Nat) : Int) := u32_xor_nat (crcBits j (r0 ^^^ l[k].toNat) / 2) 3988292384 (by omega) (by omega)
          (have gx := And.intro (@List.length_map.{0,0}) (And.intro (@List.getElem_map.{0,0}) (And.intro (@bytK.eq_1) (And.intro (@q8) (And.intro (@q9) (And.intro @q10 @min1_32))))); refine go ?_; (repeat' (first | exact Ef.mk | refine Lf.mk ?_ ?_ | refine fun (K : KT) hK hE hT => ?_ | refine fun (KS : Eff → Prop) hKS => ?_ | refine fun (D : List Keys → Prop) hD => ?_ | refine fun (hg : (_ : Prop)) => ?_ | fail)); all_goals (first | (refine Wr.mk ?_; (try clear gx); repeat (first | (clear hK hE hT; clear K) | (clear hR hE hT; clear K))) | assumption | skip))
          all_goals first
            | (have e := crcBits_odd (r := r0 ^^^ l[k].toNat) (k := j) (by omega)
               (refine hR.out ⟨j + 1, by omega⟩ _ _ _ (by simp only; omega) ?_; (refine wk_a ?_; simp only [MAB, seval]; refine ⟨rfl, rfl, (by decide), ?_, ?_⟩; all_goals (first | (simp only [WKB, seval, e, Nat.reduceLT, Nat.zero_lt_succ]; done) | (simp [WKB, seval, e]; done) | simp only [WKB, seval]))))
            | (have e := crcBits_even (r := r0 ^^^ l[k].toNat) (k := j) (by omega)
               (refine hR.out ⟨j + 1, by omega⟩ _ _ _ (by simp only; omega) ?_; (refine wk_a ?_; simp only [MAB, seval]; refine ⟨rfl, rfl, (by decide), ?_, ?_⟩; all_goals (first | (simp only [WKB, seval, e, Nat.reduceLT, Nat.zero_lt_succ]; done) | (simp [WKB, seval, e]; done) | simp only [WKB, seval]))))
            | fail

structure PvY (l : List UInt8) (n : Nat) where
  f : Bool
  m : Nat
  q : List UInt8
  le : m ≤ n
  ln : q.length ≤ l.length + 7
  eq : Rnd (q ++ varB m = l ++ varB n)

end Go.Proofs.Ytcbnfkbnbdbfoaa
