/-
  Texts K7 R3 R4 R5 R6 R7 VV in one. No conditions of its own.
-/
import Derived.Test.YtfdhdkljpeohlaaGreatDoorGO
import Derived.Test.YtfdhdkljpeohlaaGreatDoorMKA
import Derived.Test.YtfdhdkljpeohlaaGreatDoorMNA
import Derived.Test.YtfdhdkljpeohlaaGreatDoorZz2
import Derived.Test.YtfdhdkljpeohlaaGreatDoorZz1
namespace Go.Proofs.YtfdhdkljpeohlaaGreatDoor
set_option linter.unusedSimpArgs false
set_option linter.unusedVariables false
set_option linter.unusedSimpArgs false
set_option linter.unusedVariables false
set_option linter.defProp false
open Go.RowKit

end Go.Proofs.YtfdhdkljpeohlaaGreatDoor


namespace Go.Proofs.YtfdhdkljpeohlaaGreatDoor
set_option linter.unusedSimpArgs false
set_option linter.unusedVariables false
set_option linter.unusedSimpArgs false
set_option linter.unusedVariables false
set_option linter.defProp false
open Go.RowKit

def pvO (n : Int) : Bool := decide (0 ≤ n ∧ n ≤ 281474976710655)
def pvL (l : List UInt8) (n : Int) : List UInt8 := if pvO n then l ++ varB n.toNat else []
theorem pvL_yes {l : List UInt8} {m : Nat} (h : m ≤ 281474976710655) : pvL l (m : Int) = l ++ varB m ∧ pvO (m : Int) = true := by
  have e : pvO (m : Int) = true := by unfold pvO; rw [decide_eq_true_eq]; omega
  unfold pvL
  rw [e]
  exact ⟨rfl, rfl⟩
theorem pvL_no {l : List UInt8} {n : Int} (h : ¬ (0 ≤ n ∧ n ≤ 281474976710655)) : pvL l n = [] ∧ pvO n = false := by
  have e : pvO n = false := by unfold pvO; rw [decide_eq_false_iff_not]; exact h
  unfold pvL
  rw [e]
  exact ⟨rfl, rfl⟩

theorem low_byte {m : Nat} (h : m < 128) : IntKind.u8.wrap (m : Int) = ((UInt8.ofNat m).toNat : Int) := by
  rw [IntWalk.u8_in _ ⟨by omega, by omega⟩, UInt8.toNat_ofNat']
  omega
theorem hi_byte (m : Nat) : IntKind.u8.wrap ((m : Int) % 128 + 128) = ((UInt8.ofNat (m % 128 + 128)).toNat : Int) := by
  rw [IntWalk.u8_in _ ⟨by omega, by omega⟩, UInt8.toNat_ofNat']
  omega

structure PvX (l : List UInt8) (n : Nat) where
  m : Nat
  q : List UInt8
  le : m ≤ n
  ln : q.length ≤ l.length + 7
  eq : Rnd (q ++ varB m = l ++ varB n)

set_option maxHeartbeats 4000000 in
theorem specPutVar_k (l : List UInt8) (n : Int) (hl : l.length ≤ 1048576) : FnOK Tryz.prog 54 ⟨1, [(0, some (.ro (l.map bytK)))], [.c (.sl 0 1 0 l.length), .c (.v (.int .i64 n))],
    .tup [.inl (.sl 1 1 0 (pvL l n).length), .inl (.v (.bool (pvO n)))], [(1, some (.row 5 ((pvL l n).map bytK)))], 2⟩ := by
  by_cases hn : 0 ≤ n ∧ n ≤ 281474976710655
  case neg =>
    obtain ⟨e1, e2⟩ := pvL_no (l := l) hn
    have c := l01Num_k n
    rw [decide_eq_false hn] at c
    rw [e1, e2]
    refine fnOK_of true mixed Tryz.func54 rfl (by rfl) (by rfl) ?_
    have hres := congrArg Array.toList Tryz.results54
    simp only [Tryz.ntmps54, BGB, seval]
    (have gx := And.intro (@List.length_map.{0,0}) (And.intro @List.getElem_map.{0,0} @bytK.eq_1); have q1 := c; refine go ?_; (repeat' first | exact Ef.mk | apply Lf.mk | refine fun (K : KT) hK hE hT => ?_ | refine fun (KS : KE) hKS => ?_ | refine fun (D : KD) hD => ?_ | refine fun (hg : (_ : Prop)) => ?_ | fail); all_goals (first | (refine Wr.mk ?_; (try clear gx q1); repeat first | clear hK hE hT K | clear hR hE hT K) | assumption | skip))
    all_goals (refine post_a hres (.inl rfl) ?_; simp only [RSB, ENB, seval, tiAll, true_and]; simp only [MAB, seval]; refine ⟨rfl, rfl, ?_, ?_, ?_⟩ <;> (first | rfl | (simp [WKB, Nat.add_comm, true_and]; done) | (simp only [WKB, seval])))
  case pos =>
    have c := l01Num_k n
    rw [decide_eq_true hn] at c
    obtain ⟨n, rfl⟩ := Int.eq_ofNat_of_zero_le hn.1
    obtain ⟨e1, e2⟩ := pvL_yes (l := l) (m := n) (by omega)
    rw [e1, e2]
    refine fnOK_of true mixed Tryz.func54 rfl (by rfl) (by rfl) ?_
    have hres := congrArg Array.toList Tryz.results54
    simp only [Tryz.ntmps54, BGB, seval]
    (have gx := And.intro (@List.length_map.{0,0}) (And.intro (@List.getElem_map.{0,0}) (And.intro @bytK.eq_1 @map_take)); have q1 := c; refine go ?_; (repeat' first | exact Ef.mk | apply Lf.mk | refine fun (K : KT) hK hE hT => ?_ | refine fun (KS : KE) hKS => ?_ | refine fun (D : KD) hD => ?_ | refine fun (hg : (_ : Prop)) => ?_ | fail); all_goals (first | (refine Wr.mk ?_; (try clear gx q1); repeat first | clear hK hE hT K | clear hR hE hT K) | assumption | skip))
    refine loop_v (X := PvX l n) [10, 12] (fun x => [(1, .c (.v (.int .i64 ((x.m : Nat) : Int)))), (6, .c (.sl 1 1 0 x.q.length))]) (fun x => [(0, some (.ro (l.map bytK))), (1, some (.row 5 (x.q.map bytK)))]) 2 (fun x => x.m) ⟨n, l, by omega, by omega, ⟨rfl⟩⟩ ?_
    simp only [KPB, seval]
    refine ⟨?_, ?_⟩
    · (refine wk_a ?_; simp only [MAB, seval]; refine ⟨rfl, rfl, (by decide), ?_, ?_⟩; all_goals (first | (simp only [WKB, seval, true_and]; done) | (simp [WKB, seval, true_and]; done) | simp only [WKB, seval]))
    · rintro ⟨m, q, hle, hln, heq⟩ K hR hE hT
      by_cases hm : m < 128
      · have e := heq.out
        rw [varB_lt hm] at e
        have b1 := low_byte hm
        (have gx := And.intro (@List.length_map.{0,0}) (And.intro (@List.getElem_map.{0,0}) (And.intro @bytK.eq_1 @b1)); refine go ?_; (repeat' first | exact Ef.mk | apply Lf.mk | refine fun (K : KT) hK hE hT => ?_ | refine fun (KS : KE) hKS => ?_ | refine fun (D : KD) hD => ?_ | refine fun (hg : (_ : Prop)) => ?_ | fail); all_goals (first | (refine Wr.mk ?_; (try clear gx); repeat first | clear hK hE hT K | clear hR hE hT K) | assumption | skip))
        (refine post_a hres (.inl rfl) ?_; simp only [RSB, ENB, seval, tiAll, ← e, bytK, b1]; simp only [MAB, seval]; refine ⟨rfl, rfl, ?_, ?_, ?_⟩ <;> (first | rfl | (simp [WKB, Nat.add_comm, ← e, bytK, b1]; done) | (simp only [WKB, seval])))
      · have e := heq.out
        rw [varB_ge hm] at e
        have b1 := hi_byte m
        have b2 : ((m : Int) / 128) = ((m / 128 : Nat) : Int) := by omega
        have e3 : (q ++ [UInt8.ofNat (m % 128 + 128)]) ++ varB (m / 128) = l ++ varB n := by rw [← e]; simp
        have e4 := congrArg List.length e3
        have e5 := varB_len7 (n := n) (by omega)
        simp only [List.length_append, List.length_singleton] at e4
        (have gx := And.intro (@List.length_map.{0,0}) (And.intro (@List.getElem_map.{0,0}) (And.intro @bytK.eq_1 @b1)); refine go ?_; (repeat' first | exact Ef.mk | apply Lf.mk | refine fun (K : KT) hK hE hT => ?_ | refine fun (KS : KE) hKS => ?_ | refine fun (D : KD) hD => ?_ | refine fun (hg : (_ : Prop)) => ?_ | fail); all_goals (first | (refine Wr.mk ?_; (try clear gx); repeat first | clear hK hE hT K | clear hR hE hT K) | assumption | skip))
        (refine hR.out ⟨m / 128, q ++ [UInt8.ofNat (m % 128 + 128)], by omega, by simp only [List.length_append, List.length_singleton]; omega, ⟨e3⟩⟩ _ _ _ (by simp only; omega) ?_; (refine wk_a ?_; simp only [MAB, seval]; refine ⟨rfl, rfl, (by decide), ?_, ?_⟩; all_goals (first | (simp only [WKB, seval, bytK, b1]; done) | (simp [WKB, seval, bytK, b1]; done) | simp only [WKB, seval])))

end Go.Proofs.YtfdhdkljpeohlaaGreatDoor


namespace Go.Proofs.YtfdhdkljpeohlaaGreatDoor
set_option linter.unusedSimpArgs false
set_option linter.unusedVariables false
set_option linter.unusedSimpArgs false
set_option linter.unusedVariables false
set_option linter.defProp false
open Go.RowKit

theorem digW_of : ∀ {l : List UInt8}, l ≠ [] → (∀ i, i + 1 < l.length → 128 ≤ (l.getD i 0).toNat) → (l.getD (l.length - 1) 0).toNat < 128 → digW l
  | [], h, _, _ => absurd rfl h
  | [x], _, _, h => by simpa [digW] using h
  | x :: y :: l, _, h, h' => by
    refine ⟨by simpa using h 0 (by simp), digW_of (l := y :: l) (by simp) (fun i hi => ?_) ?_⟩
    · have := h (i + 1) (by simp only [List.length_cons] at hi ⊢; omega)
      simpa using this
    · simpa using h'

theorem take_getD {b : List UInt8} {p k i : Nat} (h : p + k < b.length) (hi : i ≤ k) : ((b.drop p).take (k + 1)).getD i 0 = b[p + i] := by
  simp only [List.getD, List.getElem?_take, List.getElem?_drop]
  rw [if_pos (by omega), List.getElem?_eq_getElem (by omega)]
  rfl

theorem take_len {b : List UInt8} {p k : Nat} (h : p + k < b.length) : ((b.drop p).take (k + 1)).length = k + 1 := by
  rw [List.length_take, List.length_drop]; omega

theorem canon_iff {b : List UInt8} {p k : Nat} (hl : p + k < b.length) (hi : hiTo b p k) (hx : b[p + k].toNat < 128) : varB (dig b p (k + 1)) = (b.drop p).take (k + 1) ↔ (k = 0 ∨ b[p + k].toNat ≠ 0) := by
  have hlen := take_len hl
  have hw : digW ((b.drop p).take (k + 1)) := by
    refine digW_of (fun e => by rw [e] at hlen; simp at hlen) (fun i hi' => ?_) ?_
    · rw [hlen] at hi'
      rw [take_getD hl (by omega)]
      have := hi i (by omega)
      rwa [drop_getD (by omega)] at this
    · rw [hlen, Nat.add_sub_cancel, take_getD hl (Nat.le_refl _)]
      exact hx
  unfold dig
  rw [varB_digV hw, hlen]
  have e : ((b.drop p).take (k + 1)).getLast? = some b[p + k] := by
    rw [List.getLast?_eq_getElem?, hlen, Nat.add_sub_cancel, List.getElem?_take, if_pos (by omega), List.getElem?_drop, List.getElem?_eq_getElem hl]
  rw [e]
  have e0 : (some b[p + k] = some 0) ↔ b[p + k].toNat = 0 := ⟨fun h => by rw [Option.some.inj h]; rfl, fun h => by rw [← u8_of h]; rfl⟩
  rw [ne_eq, e0]
  constructor
  · rintro (h | h)
    · exact .inl (by omega)
    · exact .inr h
  · rintro (h | h)
    · exact .inl (by omega)
    · exact .inr h

end Go.Proofs.YtfdhdkljpeohlaaGreatDoor


namespace Go.Proofs.YtfdhdkljpeohlaaGreatDoor
set_option linter.unusedSimpArgs false
set_option linter.unusedVariables false
set_option linter.unusedSimpArgs false
set_option linter.unusedVariables false
set_option linter.defProp false
open Go.RowKit

/-- A reader's state: where it stands, and whether all is well. -/
structure RdS where
  p : Nat
  ok : Bool

def numS (b : List UInt8) (s : RdS) : RdS := if gvK b s.p then ⟨(gvP b s.p).toNat, s.ok⟩ else ⟨s.p, false⟩
def varS (b : List UInt8) (s : RdS) : RdS := if gvK b s.p && s.ok then ⟨(gvP b s.p).toNat, true⟩ else ⟨s.p, false⟩
def varN (b : List UInt8) (s : RdS) : Int := if gvK b s.p && s.ok then gvN b s.p else 0

theorem gv_facts {b : List UInt8} {p : Nat} (h : gvK b p = true) : ∃ n k, gvO b p = some (n, k) ∧ gvN b p = n ∧ gvP b p = ((p + k : Nat) : Int) ∧ p + k ≤ b.length ∧ n ≤ 281474976710655 ∧ varB n = (b.drop p).take k := by
  have h0 := h
  unfold gvK at h
  obtain ⟨⟨n, k⟩, hq⟩ := Option.isSome_iff_exists.1 h
  obtain ⟨e1, e2, _⟩ := gv_some hq
  refine ⟨n, k, hq, e1, e2, ?_⟩
  unfold gvO at hq
  split at hq
  case isFalse => cases hq
  case isTrue hp =>
    unfold getD7 at hq
    split at hq
    · cases hq
    · rename_i j hj
      unfold endI at hj
      rw [List.find?_range_eq_some] at hj
      obtain ⟨h1, h2, h3⟩ := hj
      rw [decide_eq_true_eq] at h1
      obtain ⟨h4, h5⟩ := h1
      have h2' : j < 7 := by simpa using h2
      rw [List.length_drop] at h4
      have hl : p + j < b.length := by omega
      rw [drop_getD hl] at h5
      have hhi : hiTo b p j := fun i hi => by
        have := h3 i hi
        rw [Bool.not_eq_true', decide_eq_false_iff_not] at this
        rw [List.length_drop] at this
        omega
      split at hq
      · cases hq
      · rename_i hno
        simp only [Option.some.injEq, Prod.mk.injEq] at hq
        obtain ⟨rfl, rfl⟩ := hq
        have hc := (canon_iff hl hhi h5).2 (by
          rw [drop_getD hl] at hno
          by_cases hj0 : j = 0
          · exact .inl hj0
          · refine .inr fun h0 => hno (.inl ⟨?_, by omega⟩)
            rw [← u8_of h0]; rfl)
        exact ⟨by omega, by omega, hc⟩

theorem numS_le {b : List UInt8} {s : RdS} (h : s.p ≤ b.length) : (numS b s).p ≤ b.length := by
  unfold numS
  split
  · rename_i hk
    obtain ⟨n, k, _, _, e, hle, _⟩ := gv_facts hk
    rw [e]
    show ((s.p + k : Nat) : Int).toNat ≤ b.length
    omega
  · exact h
end Go.Proofs.YtfdhdkljpeohlaaGreatDoor


namespace Go.Proofs.YtfdhdkljpeohlaaGreatDoor
set_option linter.unusedSimpArgs false
set_option linter.unusedVariables false
set_option linter.unusedSimpArgs false
set_option linter.unusedVariables false
set_option linter.defProp false
open Go.RowKit

end Go.Proofs.YtfdhdkljpeohlaaGreatDoor


namespace Go.Proofs.YtfdhdkljpeohlaaGreatDoor
set_option linter.unusedSimpArgs false
set_option linter.unusedVariables false
set_option linter.unusedSimpArgs false
set_option linter.unusedVariables false
set_option linter.defProp false
open Go.RowKit

theorem numS_bad {b : List UInt8} {s : RdS} (h : s.ok = false) : (numS b s).ok = false := by
  unfold numS; split
  · exact h
  · rfl
theorem varS_bad {b : List UInt8} {s : RdS} (h : s.ok = false) : (varS b s).ok = false := by
  unfold varS; rw [h, Bool.and_false]; rfl

theorem varB_ne (n : Nat) : varB n ≠ [] := by
  by_cases hn : n < 128
  · rw [varB_lt hn]; simp
  · rw [varB_ge hn]; simp

end Go.Proofs.YtfdhdkljpeohlaaGreatDoor


namespace Go.Proofs.YtfdhdkljpeohlaaGreatDoor
set_option linter.unusedSimpArgs false
set_option linter.unusedVariables false
set_option linter.unusedSimpArgs false
set_option linter.unusedVariables false
set_option linter.defProp false
open Go.RowKit

def RunD.vals (x : RunD) : ValuesD := ⟨x.Job, x.Iter, x.Vals, x.EVals, x.Next⟩

set_option maxHeartbeats 2000000 in
theorem implValuesOf_k (x : RunD) (h : (x.Vals).length ≤ 1048576 ∧ (x.EVals).length ≤ 1048576 ∧ (x.Next.Bits).length ≤ 1048576) : FnOK Tryz.prog 15 ⟨3, [(0, some (.ro ((x.Vals).map intK))), (1, some (.ro ((x.EVals).map intK))), (2, some (.ro ((x.Next.Bits).map bytK)))], [.agg [.v (.int .i64 x.Job.Prog), .v (.int .i64 x.Job.Src), .v (.int .i64 x.Iter), .v (.bool x.Done), .sl 0 1 0 (x.Vals).length, .sl 1 1 0 (x.EVals).length, .v (.int .i64 x.Next.N), .sl 2 1 0 (x.Next.Bits).length]], .agg [.v (.int .i64 x.vals.Job.Prog), .v (.int .i64 x.vals.Job.Src), .v (.int .i64 x.vals.Iter), .sl 3 1 0 (x.vals.Vals).length, .sl 4 1 0 (x.vals.EVals).length, .v (.int .i64 x.vals.Next.N), .sl 5 1 0 (x.vals.Next.Bits).length], [(3, some (.row 3 ((x.vals.Vals).map intK))), (4, some (.row 3 ((x.vals.EVals).map intK))), (5, some (.row 5 ((x.vals.Next.Bits).map bytK)))], 6⟩ := by
  obtain ⟨h0, h1, h2⟩ := h
  simp only [RunD.vals]
  refine fnOK_of true mixed Tryz.func15 rfl (by rfl) (by rfl) ?_
  have hres := congrArg Array.toList Tryz.results15
  simp only [Tryz.ntmps15, BGB, seval]
  (have gx := And.intro @List.length_map.{0,0} @map_take; have q1 := copyInts_k x.Vals h0; have q2 := copyInts_k x.EVals h1; have q3 := copySet_k x.Next h2; refine go ?_; (repeat' first | exact Ef.mk | apply Lf.mk | refine fun (K : KT) hK hE hT => ?_ | refine fun (KS : KE) hKS => ?_ | refine fun (D : KD) hD => ?_ | refine fun (hg : (_ : Prop)) => ?_ | fail); all_goals (first | (refine Wr.mk ?_; (try clear gx q1 q2 q3); repeat first | clear hK hE hT K | clear hR hE hT K) | assumption | skip))
  (refine post_a hres (.inl rfl) ?_; simp only [RSB, ENB, seval, tiAll, true_and]; simp only [MAB, seval]; refine ⟨rfl, rfl, ?_, ?_, ?_⟩ <;> (first | rfl | (simp [WKB, Nat.add_comm, true_and]; done) | (simp only [WKB, seval])))

end Go.Proofs.YtfdhdkljpeohlaaGreatDoor

