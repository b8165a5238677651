/-
  Contracts: numbers in six bytes put and read; the reference's check sum. No conditions of its own.
-/
import Derived.Test.YtfdhdkljpeohlaaGreatDoorGO
import Derived.Test.YtfdhdkljpeohlaaGreatDoorZz1
import Derived.Test.YtfdhdkljpeohlaaGreatDoorC1
namespace Go.Proofs.YtfdhdkljpeohlaaGreatDoor
set_option linter.unusedSimpArgs false
set_option linter.unusedVariables false
set_option linter.unusedSimpArgs false
set_option linter.unusedVariables false
set_option linter.defProp false
open Go.RowKit

structure FxX where
  f : Bool
  j : Nat
  le : j ≤ 6

set_option maxHeartbeats 4000000 in
theorem putFix_k (l : List UInt8) (n : Nat) (hl : l.length ≤ 1099511627000) (hn : n ≤ 281474976710655) : FnOK Tryz.prog 51 ⟨1, [(0, some (.row 5 (l.map bytK)))], [.c (.sl 0 1 0 l.length), .c (.v (.int .i64 (n : Int)))],
    .c (.sl 1 1 0 (l ++ fixB n).length), [(0, none), (1, some (.row 5 ((l ++ fixB n).map bytK)))], 2⟩ := by
  refine fnOK_of true mixed Tryz.func51 rfl (by rfl) (by rfl) ?_
  have hres := congrArg Array.toList Tryz.results51
  simp only [Tryz.ntmps51, BGB, seval]
  (have gx := And.intro (@List.length_map.{0,0}) (And.intro @List.getElem_map.{0,0} @bytK.eq_1); refine go ?_; (repeat' first | exact Ef.mk | apply Lf.mk | refine fun (K : KT) hK hE hT => ?_ | refine fun (KS : KE) hKS => ?_ | refine fun (D : KD) hD => ?_ | refine fun (hg : (_ : Prop)) => ?_ | fail); all_goals (first | (refine Wr.mk ?_; (try clear gx); repeat first | clear hK hE hT K | clear hR hE hT K) | assumption | skip))
  refine loop_v (X := FxX) [10, 16, 17] (fun x => [(5, .c (.v (.int .i64 (5 - (x.j : Int))))), (0, .c (.sl (bif x.f then 0 else 1) 1 0 (l ++ fixT n x.j).length))]) (fun x => bif x.f then [(0, some (.row 5 ((l ++ fixT n x.j).map bytK)))] else [(1, some (.row 5 ((l ++ fixT n x.j).map bytK)))]) 2 (fun x => 6 - x.j) ⟨true, 0, by omega⟩ ?_
  simp only [KPB, seval]
  refine ⟨?_, ?_⟩
  · dsimp only [cond]
    (refine wk_a ?_; simp only [MAB, seval]; refine ⟨rfl, rfl, (by decide), ?_, ?_⟩; all_goals (first | (simp only [WKB, seval, fixT_zero, List.append_nil]; done) | (simp [WKB, seval, fixT_zero, List.append_nil]; done) | simp only [WKB, seval]))
  · rintro ⟨f, j, hj⟩ K hR hE hT
    have hlen := fixT_len n j
    have hlen2 : (l ++ fixT n j).length = l.length + j := by rw [List.length_append, hlen]
    rcases Nat.lt_or_ge j 6 with hlt | hge
    case inr =>
      obtain rfl : j = 6 := by omega
      cases f
      all_goals dsimp only [cond]
      all_goals (have gx := And.intro (@List.length_map.{0,0}) (And.intro @List.getElem_map.{0,0} @bytK.eq_1); refine go ?_; (repeat' first | exact Ef.mk | apply Lf.mk | refine fun (K : KT) hK hE hT => ?_ | refine fun (KS : KE) hKS => ?_ | refine fun (D : KD) hD => ?_ | refine fun (hg : (_ : Prop)) => ?_ | fail); all_goals (first | (refine Wr.mk ?_; (try clear gx); repeat first | clear hK hE hT K | clear hR hE hT K) | assumption | skip))
      all_goals (refine post_a hres (.inl rfl) ?_; simp only [RSB, ENB, seval, tiAll, fixB]; simp only [MAB, seval]; refine ⟨rfl, rfl, ?_, ?_, ?_⟩ <;> (first | rfl | (simp [WKB, Nat.add_comm, fixB]; done) | (simp only [WKB, seval])))
    case inl =>
      have b1 := fix_shr n hlt
      have e := fixT_succ n j
      have e2 : (5 : Int) - (j : Int) - 1 = 5 - ((j + 1 : Nat) : Int) := by omega
      cases f
      all_goals dsimp only [cond]
      all_goals (have gx := And.intro (@List.length_map.{0,0}) (And.intro (@List.getElem_map.{0,0}) (And.intro @bytK.eq_1 @b1)); refine go ?_; (repeat' first | exact Ef.mk | apply Lf.mk | refine fun (K : KT) hK hE hT => ?_ | refine fun (KS : KE) hKS => ?_ | refine fun (D : KD) hD => ?_ | refine fun (hg : (_ : Prop)) => ?_ | fail); all_goals (first | (refine Wr.mk ?_; (try clear gx); repeat first | clear hK hE hT K | clear hR hE hT K) | assumption | skip))
      all_goals (refine hR.out ⟨false, j + 1, by omega⟩ _ _ _ (by simp only; omega) ?_)
      all_goals dsimp only [cond]
      all_goals (refine wk_a ?_; simp only [MAB, seval]; refine ⟨rfl, rfl, (by decide), ?_, ?_⟩; all_goals (first | (simp only [WKB, seval, bytK, b1, e, e2, ← List.append_assoc]; done) | (simp [WKB, seval, bytK, b1, e, e2, ← List.append_assoc]; done) | simp only [WKB, seval]))

theorem min8_64 : (2 : Int) ^ min 8 IntKind.i64.bits = 256 := rfl

set_option maxHeartbeats 4000000 in
theorem implGetFix_k (b : List UInt8) (p : Nat) (hb : b.length ≤ 1099511627776) (hp : p ≤ 1099511627776) (h6 : p + 6 ≤ b.length) : FnOK Tryz.prog 90 ⟨1, [(0, some (.ro (b.map bytK)))], [.c (.sl 0 1 0 b.length), .c (.v (.int .i64 (p : Int)))],
    .tup [.inl (.v (.int .i64 (gf b p 6 : Nat))), .inl (.v (.bool true))], [], 1⟩ := by
  refine fnOK_of true mixed Tryz.func90 rfl (by rfl) (by rfl) ?_
  have hres := congrArg Array.toList Tryz.results90
  simp only [Tryz.ntmps90, BGB, seval]
  (have gx := And.intro (@List.length_map.{0,0}) (And.intro @List.getElem_map.{0,0} @bytK.eq_1); refine go ?_; (repeat' first | exact Ef.mk | apply Lf.mk | refine fun (K : KT) hK hE hT => ?_ | refine fun (KS : KE) hKS => ?_ | refine fun (D : KD) hD => ?_ | refine fun (hg : (_ : Prop)) => ?_ | fail); all_goals (first | (refine Wr.mk ?_; (try clear gx); repeat first | clear hK hE hT K | clear hR hE hT K) | assumption | skip))
  refine ⟨p, ⟨.i64, rfl⟩, p + 6, ⟨.i64, by simp⟩, by omega, by omega, ?_⟩
  rw [show p + 6 - p = 6 by omega]
  (have gx := And.intro (@List.length_map.{0,0}) (And.intro (@List.getElem_map.{0,0}) (And.intro (@bytK.eq_1) (And.intro (@Option.toArray_some.{0}) (And.intro @Option.toArray_none.{0} @List.toList_toArray.{0})))); refine go ?_; (repeat' first | exact Ef.mk | apply Lf.mk | refine fun (K : KT) hK hE hT => ?_ | refine fun (KS : KE) hKS => ?_ | refine fun (D : KD) hD => ?_ | refine fun (hg : (_ : Prop)) => ?_ | fail); all_goals (first | (refine Wr.mk ?_; (try clear gx); repeat first | clear hK hE hT K | clear hR hE hT K) | assumption | skip))
  refine loop_v (X := {k : Nat // k ≤ 6}) [] (fun x => [(6, .c (.v (.int .i64 ((gf b p x.1 : Nat) : Int)))), (24, .c (.v (.int .i64 ((x.1 : Nat) : Int))))]) (fun x => [(0, some (.ro (b.map bytK)))]) 1 (fun x => 6 - x.1) ⟨0, by omega⟩ ?_
  simp only [KPB, seval]
  refine ⟨?_, ?_⟩
  · (refine wk_a ?_; simp only [MAB, seval]; refine ⟨rfl, rfl, (by decide), ?_, ?_⟩; all_goals (first | (simp only [WKB, seval, gf_zero]; done) | (simp [WKB, seval, gf_zero]; done) | simp only [WKB, seval]))
  · rintro ⟨k, hk⟩ K hR hE hT
    rcases Nat.lt_or_ge k 6 with hlt | hge
    case inr =>
      obtain rfl : k = 6 := by omega
      (have gx := And.intro (@List.length_map.{0,0}) (And.intro @List.getElem_map.{0,0} @bytK.eq_1); refine go ?_; (repeat' first | exact Ef.mk | apply Lf.mk | refine fun (K : KT) hK hE hT => ?_ | refine fun (KS : KE) hKS => ?_ | refine fun (D : KD) hD => ?_ | refine fun (hg : (_ : Prop)) => ?_ | fail); all_goals (first | (refine Wr.mk ?_; (try clear gx); repeat first | clear hK hE hT K | clear hR hE hT K) | assumption | skip))
      (refine post_a hres (.inl rfl) ?_; simp only [RSB, ENB, seval, tiAll, true_and]; simp only [MAB, seval]; refine ⟨rfl, rfl, ?_, ?_, ?_⟩ <;> (first | rfl | (simp [WKB, Nat.add_comm, true_and]; done) | (simp only [WKB, seval])))
    case inl =>
      have e := gf_succ (b := b) (p := p) (k := k) (by omega)
      have m1 := gf_max (b := b) (p := p) (k := k) (by omega) (by omega)
      have m2 := gf_max (b := b) (p := p) (k := k + 1) (by omega) (by omega)
      have hx := (b[p + k]'(by omega)).toNat_lt
      have o := fix_or (gf b p k) (b[p + k]'(by omega)).toNat (by omega) (by omega)
      (have gx := And.intro (@List.length_map.{0,0}) (And.intro (@List.getElem_map.{0,0}) (And.intro (@bytK.eq_1) (And.intro @o @min8_64))); refine go ?_; (repeat' first | exact Ef.mk | apply Lf.mk | refine fun (K : KT) hK hE hT => ?_ | refine fun (KS : KE) hKS => ?_ | refine fun (D : KD) hD => ?_ | refine fun (hg : (_ : Prop)) => ?_ | fail); all_goals (first | (refine Wr.mk ?_; (try clear gx); repeat first | clear hK hE hT K | clear hR hE hT K) | assumption | skip))
      (refine hR.out ⟨k + 1, by omega⟩ _ _ _ (by simp only; omega) ?_; (refine wk_a ?_; simp only [MAB, seval]; refine ⟨rfl, rfl, (by decide), ?_, ?_⟩; all_goals (first | (simp only [WKB, seval, e, o]; done) | (simp [WKB, seval, e, o]; done) | simp only [WKB, seval])))

theorem i64_in32 {r : Nat} (h : r < 4294967296) : bits .xor .i64 (r : Int) 4294967295 = ((r ^^^ 4294967295 : Nat) : Int) := i64_xor_nat r 4294967295 h (by omega)

set_option maxHeartbeats 4000000 in
theorem specCrc_k (l : List UInt8) (hl : l.length ≤ 1099511627776) : FnOK Tryz.prog 55 ⟨1, [(0, some (.ro (l.map bytK)))], [.c (.sl 0 1 0 l.length)], .c (.v (.int .i64 (crcN l : Nat))), [], 1⟩ := by
  refine fnOK_of true mixed Tryz.func55 rfl (by rfl) (by rfl) ?_
  have hres := congrArg Array.toList Tryz.results55
  simp only [Tryz.ntmps55, BGB, seval]
  (have gx := And.intro (@List.length_map.{0,0}) (And.intro @List.getElem_map.{0,0} @bytK.eq_1); refine go ?_; (repeat' first | exact Ef.mk | apply Lf.mk | refine fun (K : KT) hK hE hT => ?_ | refine fun (KS : KE) hKS => ?_ | refine fun (D : KD) hD => ?_ | refine fun (hg : (_ : Prop)) => ?_ | fail); all_goals (first | (refine Wr.mk ?_; (try clear gx); repeat first | clear hK hE hT K | clear hR hE hT K) | assumption | skip))
  refine loop_v (X := {k : Nat // k ≤ l.length}) [] (fun x => [(3, .c (.v (.int .i64 (crcRun (l.take x.1) 4294967295 : Nat)))), (4, .c (.v (.int .i64 ((x.1 : Nat) : Int))))]) (fun x => [(0, some (.ro (l.map bytK)))]) 1 (fun x => l.length - x.1) ⟨0, by omega⟩ ?_
  simp only [KPB, seval]
  refine ⟨?_, ?_⟩
  · (refine wk_a ?_; simp only [MAB, seval]; refine ⟨rfl, rfl, (by decide), ?_, ?_⟩; all_goals (first | (simp only [WKB, seval, crcRun_zero, crcRun_nil]; done) | (simp [WKB, seval, crcRun_zero, crcRun_nil]; done) | simp only [WKB, seval]))
  · rintro ⟨k, hk⟩ K hR hE hT
    have hr := crcRun_lt (l.take k) 4294967295 (by omega)
    rcases Nat.lt_or_ge k l.length with hlt | hge
    case inr =>
      obtain rfl : k = l.length := by omega
      have e1 := i64_in32 hr
      have e4 : crcRun (l.take l.length) 4294967295 ^^^ 4294967295 = crcN l := by rw [List.take_length]; rfl
      (have gx := And.intro (@List.length_map.{0,0}) (And.intro (@List.getElem_map.{0,0}) (And.intro @bytK.eq_1 @e1)); refine go ?_; (repeat' first | exact Ef.mk | apply Lf.mk | refine fun (K : KT) hK hE hT => ?_ | refine fun (KS : KE) hKS => ?_ | refine fun (D : KD) hD => ?_ | refine fun (hg : (_ : Prop)) => ?_ | fail); all_goals (first | (refine Wr.mk ?_; (try clear gx); repeat first | clear hK hE hT K | clear hR hE hT K) | assumption | skip))
      (refine post_a hres (.inl rfl) ?_; simp only [RSB, ENB, seval, tiAll, e1, e4]; simp only [MAB, seval]; refine ⟨rfl, rfl, ?_, ?_, ?_⟩ <;> (first | rfl | (simp [WKB, Nat.add_comm, e1, e4]; done) | (simp only [WKB, seval])))
    case inl =>
      have hx := l[k].toNat_lt
      obtain ⟨r0, hr0⟩ : ∃ r0, r0 = crcRun (l.take k) 4294967295 := ⟨_, rfl⟩
      have hs := crcRun_snoc l k hlt 4294967295
      rw [← hr0] at hr hs ⊢
      have q6 := i64_xor_nat r0 l[k].toNat hr (by omega)
      have hy : r0 ^^^ l[k].toNat < 4294967296 := xor_lt32 hr (by omega)
      (have gx := And.intro (@List.length_map.{0,0}) (And.intro (@List.getElem_map.{0,0}) (And.intro @bytK.eq_1 @q6)); refine go ?_; (repeat' first | exact Ef.mk | apply Lf.mk | refine fun (K : KT) hK hE hT => ?_ | refine fun (KS : KE) hKS => ?_ | refine fun (D : KD) hD => ?_ | refine fun (hg : (_ : Prop)) => ?_ | fail); all_goals (first | (refine Wr.mk ?_; (try clear gx); repeat first | clear hK hE hT K | clear hR hE hT K) | assumption | skip))
      refine loop_v (X := {j : Nat // j ≤ 8}) [] (fun x => [(3, .c (.v (.int .i64 (crcBits x.1 (r0 ^^^ l[k].toNat) : Nat)))), (5, .c (.v (.int .i64 ((x.1 : Nat) : Int))))]) (fun x => [(0, some (.ro (l.map bytK)))]) 1 (fun x => 8 - x.1) ⟨0, by omega⟩ ?_
      simp only [KPB, seval]
      refine ⟨?_, ?_⟩
      · (refine wk_a ?_; simp only [MAB, seval]; refine ⟨rfl, rfl, (by decide), ?_, ?_⟩; all_goals (first | (simp only [WKB, seval, crcBits_zero]; done) | (simp [WKB, seval, crcBits_zero]; done) | simp only [WKB, seval]))
      · rintro ⟨j, hj⟩ K hR hE hT
        have hrj := crcBits_lt hy j
        rcases Nat.lt_or_ge j 8 with hlt8 | hge8
        case inr =>
          obtain rfl : j = 8 := by omega
          (have gx := And.intro (@List.length_map.{0,0}) (And.intro @List.getElem_map.{0,0} @bytK.eq_1); refine go ?_; (repeat' first | exact Ef.mk | apply Lf.mk | refine fun (K : KT) hK hE hT => ?_ | refine fun (KS : KE) hKS => ?_ | refine fun (D : KD) hD => ?_ | refine fun (hg : (_ : Prop)) => ?_ | fail); all_goals (first | (refine Wr.mk ?_; (try clear gx); repeat first | clear hK hE hT K | clear hR hE hT K) | assumption | skip))
          (refine hR.out ⟨k + 1, by omega⟩ _ _ _ (by simp only; omega) ?_; (refine wk_a ?_; simp only [MAB, seval]; refine ⟨rfl, rfl, (by decide), ?_, ?_⟩; all_goals (first | (simp only [WKB, seval, hs]; done) | (simp [WKB, seval, hs]; done) | simp only [WKB, seval])))
        case inl =>
          have q9 : ((crcBits j (r0 ^^^ l[k].toNat) : Nat) : Int) / 2 = ((crcBits j (r0 ^^^ l[k].toNat) / 2 : Nat) : Int) := by omega
          have q10 : bits .xor .i64 ((crcBits j (r0 ^^^ l[k].toNat) / 2 : Nat) : Int) 3988292384 = ((crcBits j (r0 ^^^ l[k].toNat) / 2 ^^^ 3988292384 : Nat) : Int) := i64_xor_nat (crcBits j (r0 ^^^ l[k].toNat) / 2) 3988292384 (by omega) (by omega)
          (have gx := And.intro (@List.length_map.{0,0}) (And.intro (@List.getElem_map.{0,0}) (And.intro (@bytK.eq_1) (And.intro @q9 @q10))); refine go ?_; (repeat' first | exact Ef.mk | apply Lf.mk | refine fun (K : KT) hK hE hT => ?_ | refine fun (KS : KE) hKS => ?_ | refine fun (D : KD) hD => ?_ | refine fun (hg : (_ : Prop)) => ?_ | fail); all_goals (first | (refine Wr.mk ?_; (try clear gx); repeat first | clear hK hE hT K | clear hR hE hT K) | assumption | skip))
          all_goals first
            | (have e := crcBits_odd (r := r0 ^^^ l[k].toNat) (k := j) (by omega)
               (refine hR.out ⟨j + 1, by omega⟩ _ _ _ (by simp only; omega) ?_; (refine wk_a ?_; simp only [MAB, seval]; refine ⟨rfl, rfl, (by decide), ?_, ?_⟩; all_goals (first | (simp only [WKB, seval, e]; done) | (simp [WKB, seval, e]; done) | simp only [WKB, seval]))))
            | (have e := crcBits_even (r := r0 ^^^ l[k].toNat) (k := j) (by omega)
               (refine hR.out ⟨j + 1, by omega⟩ _ _ _ (by simp only; omega) ?_; (refine wk_a ?_; simp only [MAB, seval]; refine ⟨rfl, rfl, (by decide), ?_, ?_⟩; all_goals (first | (simp only [WKB, seval, e]; done) | (simp [WKB, seval, e]; done) | simp only [WKB, seval]))))
            | fail

end Go.Proofs.YtfdhdkljpeohlaaGreatDoor

