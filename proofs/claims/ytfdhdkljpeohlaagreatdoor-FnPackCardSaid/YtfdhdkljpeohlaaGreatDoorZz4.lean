/-
  Texts FS MLD P1 P2 in one. No conditions of its own.
-/
import Derived.Test.YtfdhdkljpeohlaaGreatDoorGO
import Derived.Test.YtfdhdkljpeohlaaGreatDoorZz3
import Derived.Test.YtfdhdkljpeohlaaGreatDoorC1
import Derived.Test.YtfdhdkljpeohlaaGreatDoorMNA
import Derived.Test.YtfdhdkljpeohlaaGreatDoorZz2
import Derived.Test.YtfdhdkljpeohlaaGreatDoorMNB
namespace Go.Proofs.YtfdhdkljpeohlaaGreatDoor
set_option linter.unusedSimpArgs false
set_option linter.unusedVariables false
set_option linter.unusedSimpArgs false
set_option linter.unusedVariables false
set_option linter.defProp false
open Go.RowKit

section
variable {n v : Nat} {l : List UInt8}
end

/-- The check sum of a set. -/
def digS (n : Int) (l : List UInt8) : Int := if setOk n l = true then (crcN (varB n.toNat ++ l) : Nat) else -1

set_option maxHeartbeats 2000000 in
theorem implDigest_k (n : Int) (l : List UInt8) (hl : l.length ≤ 1048576) : FnOK Tryz.prog 20 ⟨1, [(0, some (.ro (l.map bytK)))], [.agg [.v (.int .i64 n), .sl 0 1 0 l.length]], .c (.v (.int .i64 (digS n l))), [], 1⟩ := by
  have hs := implSetOk_k n l hl
  cases ho : setOk n l with
  | false =>
    rw [ho] at hs
    refine fnOK_of true mixed Tryz.func20 rfl (by rfl) (by rfl) ?_
    have hres := congrArg Array.toList Tryz.results20
    simp only [Tryz.ntmps20, BGB, seval]
    (have gx := And.intro (@List.length_map.{0,0}) (And.intro @List.getElem_map.{0,0} @bytK.eq_1); have q1 := hs; refine go ?_; (repeat' first | exact Ef.mk | apply Lf.mk | refine fun (K : KT) hK hE hT => ?_ | refine fun (KS : KE) hKS => ?_ | refine fun (D : KD) hD => ?_ | refine fun (hg : (_ : Prop)) => ?_ | fail); all_goals (first | (refine Wr.mk ?_; (try clear gx q1); repeat first | clear hK hE hT K | clear hR hE hT K) | assumption | skip))
    (refine post_a hres (.inl rfl) ?_; simp only [RSB, ENB, seval, tiAll, digS, ho]; simp only [MAB, seval]; refine ⟨rfl, rfl, ?_, ?_, ?_⟩ <;> (first | rfl | (simp [WKB, Nat.add_comm, digS, ho]; done) | (simp only [WKB, seval])))
  | true =>
    rw [ho] at hs
    obtain ⟨h1, h2, h3, h4⟩ := setOk_len ho
    obtain ⟨m, rfl⟩ := Int.eq_ofNat_of_zero_le h1
    have kp := putVar0_k m (by omega)
    have hv := varB_len7 (n := m) (by omega)
    have kc := implCrc_k (varB m ++ l) (by rw [List.length_append]; omega)
    refine fnOK_of true mixed Tryz.func20 rfl (by rfl) (by rfl) ?_
    have hres := congrArg Array.toList Tryz.results20
    simp only [Tryz.ntmps20, BGB, seval]
    (have gx := And.intro (@List.length_map.{0,0}) (And.intro (@List.getElem_map.{0,0}) (And.intro @bytK.eq_1 @map_take)); have q1 := hs; have q2 := kp; have q3 := kc; refine go ?_; (repeat' first | exact Ef.mk | apply Lf.mk | refine fun (K : KT) hK hE hT => ?_ | refine fun (KS : KE) hKS => ?_ | refine fun (D : KD) hD => ?_ | refine fun (hg : (_ : Prop)) => ?_ | fail); all_goals (first | (refine Wr.mk ?_; (try clear gx q1 q2 q3); repeat first | clear hK hE hT K | clear hR hE hT K) | assumption | skip))
    (refine post_a hres (.inl rfl) ?_; simp only [RSB, ENB, seval, tiAll, digS, ho, if_true, Int.toNat_natCast]; simp only [MAB, seval]; refine ⟨rfl, rfl, ?_, ?_, ?_⟩ <;> (first | rfl | (simp [WKB, Nat.add_comm, digS, ho, if_true, Int.toNat_natCast]; done) | (simp only [WKB, seval])))

end Go.Proofs.YtfdhdkljpeohlaaGreatDoor


namespace Go.Proofs.YtfdhdkljpeohlaaGreatDoor
set_option linter.unusedSimpArgs false
set_option linter.unusedVariables false
set_option linter.unusedSimpArgs false
set_option linter.unusedVariables false
set_option linter.defProp false
set_option maxRecDepth 20000
open Go.RowKit
attribute [local irreducible] lexD

end Go.Proofs.YtfdhdkljpeohlaaGreatDoor

namespace Go.Proofs.YtfdhdkljpeohlaaGreatDoor
set_option linter.unusedSimpArgs false
set_option linter.unusedVariables false
set_option linter.defProp false

end Go.Proofs.YtfdhdkljpeohlaaGreatDoor

namespace Go.Proofs.YtfdhdkljpeohlaaGreatDoor
set_option linter.unusedSimpArgs false
set_option linter.unusedVariables false
set_option linter.defProp false
set_option maxRecDepth 20000
open Go.RowKit

end Go.Proofs.YtfdhdkljpeohlaaGreatDoor


namespace Go.Proofs.YtfdhdkljpeohlaaGreatDoor
set_option linter.unusedSimpArgs false
set_option linter.unusedVariables false
set_option linter.unusedSimpArgs false
set_option linter.unusedVariables false
set_option linter.defProp false
open Go.RowKit

def zigN (n : Int) : Nat := if 0 ≤ n then (2 * n).toNat else (-2 * n - 1).toNat
theorem zigN_y {n : Int} (h : 0 ≤ n) : ((zigN n : Nat) : Int) = 2 * n := by unfold zigN; rw [if_pos h]; omega
theorem zigN_n {n : Int} (h : n < 0) : ((zigN n : Nat) : Int) = -2 * n - 1 := by unfold zigN; rw [if_neg (by omega)]; omega
theorem zigN_le {n : Int} {b : Nat} (h : -(b : Int) ≤ n ∧ n ≤ b) : zigN n ≤ 2 * b := by
  unfold zigN
  split <;> omega

/-- An edge behind another one, encoded. -/
def sEB (z y : SEdgeD) : List UInt8 := varB (y.From - z.From).toNat ++ varB (zigN (y.To - z.To)) ++ varB y.W.toNat ++ varB (zigN (y.Index - z.Index))
def edB : SEdgeD → List SEdgeD → List UInt8
  | _, [] => []
  | z, y :: l => sEB z y ++ edB y l
def lastAt (z : SEdgeD) (l : List SEdgeD) : Nat → SEdgeD
  | 0 => z
  | k + 1 => l.getD k z
theorem lastAt_succ {z : SEdgeD} {l : List SEdgeD} {k : Nat} (h : k < l.length) : lastAt z l (k + 1) = l[k] := by
  show l.getD k z = l[k]
  rw [List.getD_eq_getElem?_getD, List.getElem?_eq_getElem h]; rfl
theorem edB_snoc : ∀ (z : SEdgeD) (l : List SEdgeD) (k : Nat) (h : k < l.length), edB z (l.take (k + 1)) = edB z (l.take k) ++ sEB (lastAt z l k) l[k]
  | z, y :: l, 0, h => by simp [edB, lastAt]
  | z, y :: l, k + 1, h => by
    have hk : k < l.length := by simpa using h
    have ih := edB_snoc y l k hk
    have e : lastAt y l k = lastAt z (y :: l) (k + 1) := by
      rw [lastAt_succ (by simp; omega)]
      cases k with
      | zero => rfl
      | succ k => rw [lastAt_succ (by omega)]; rfl
    simp only [List.take_succ_cons, edB, List.getElem_cons_succ, ih, e, List.append_assoc]
def s0 (s : ShardD) : SEdgeD := ⟨0, s.Lo, 0, 0, 0⟩
def shH (s : ShardD) : List UInt8 := varB s.Lo.toNat ++ varB s.Hi.toNat ++ varB s.Edges.length
def shB (s : ShardD) : List UInt8 := shH s ++ edB (s0 s) s.Edges
theorem shH_len {s : ShardD} (h : shHead s) : (shH s).length ≤ 21 := by
  unfold shHead at h
  have w1 := varB_len7 (n := s.Lo.toNat) (by omega)
  have w2 := varB_len7 (n := s.Hi.toNat) (by omega)
  have w3 := varB_len7 (n := s.Edges.length) (by omega)
  unfold shH
  rw [List.length_append, List.length_append]; omega
structure Stp (z y : SEdgeD) : Prop where
  f : 0 ≤ y.From - z.From ∧ y.From - z.From ≤ 150
  t : -150 ≤ y.To - z.To ∧ y.To - z.To ≤ 150
  w : 0 ≤ y.W ∧ y.W ≤ 1000
  i : -400 ≤ y.Index - z.Index ∧ y.Index - z.Index ≤ 400
theorem stp_of {s : ShardD} (h : ShOk s) : ∀ {k : Nat} (hk : k < s.Edges.length), Stp (lastAt (s0 s) s.Edges k) s.Edges[k]
  | 0, hk => by
    have a := (h.2 0 hk hk).1
    have hh := h.1
    unfold shHead at hh
    unfold edOk at a
    exact ⟨by simp only [lastAt, s0]; omega, by simp only [lastAt, s0]; omega, by omega, by simp only [lastAt, s0]; omega⟩
  | k + 1, hk => by
    have a := (h.2 (k + 1) hk hk).1
    have b := (h.2 k (by omega) (by omega)).1
    have c : ordOk s.Edges[k] s.Edges[k + 1] := (h.2 (k + 1) hk hk).2 (by omega)
    have hh := h.1
    unfold shHead at hh
    unfold edOk at a b
    unfold ordOk at c
    rw [lastAt_succ (by omega)]
    exact ⟨by omega, by omega, by omega, by omega⟩
theorem sEB_len {z y : SEdgeD} (h : Stp z y) : (sEB z y).length ≤ 28 := by
  obtain ⟨h1, h2, h3, h4⟩ := h
  have z1 := zigN_le (n := y.To - z.To) (b := 150) (by omega)
  have z2 := zigN_le (n := y.Index - z.Index) (b := 400) (by omega)
  have w1 := varB_len7 (n := (y.From - z.From).toNat) (by omega)
  have w2 := varB_len7 (n := zigN (y.To - z.To)) (by omega)
  have w3 := varB_len7 (n := y.W.toNat) (by omega)
  have w4 := varB_len7 (n := zigN (y.Index - z.Index)) (by omega)
  unfold sEB
  simp only [List.length_append]; omega
theorem edB_len {s : ShardD} (h : ShOk s) : ∀ k, k ≤ s.Edges.length → (edB (s0 s) (s.Edges.take k)).length ≤ 28 * k
  | 0, _ => by simp [edB]
  | k + 1, hk => by
    have ih := edB_len h k (by omega)
    have := sEB_len (stp_of h (k := k) (by omega))
    rw [edB_snoc _ _ _ (by omega), List.length_append]; omega
theorem shB_len {s : ShardD} (h : ShOk s) : (shB s).length ≤ 21 + 28 * s.Edges.length := by
  have a := shH_len h.1
  have b := edB_len h s.Edges.length (Nat.le_refl _)
  rw [List.take_length] at b
  unfold shB
  rw [List.length_append]; omega

end Go.Proofs.YtfdhdkljpeohlaaGreatDoor


namespace Go.Proofs.YtfdhdkljpeohlaaGreatDoor
set_option linter.unusedSimpArgs false
set_option linter.unusedVariables false
set_option linter.unusedSimpArgs false
set_option linter.unusedVariables false
set_option linter.defProp false
set_option maxRecDepth 20000
open Go.RowKit

set_option maxHeartbeats 4000000 in
theorem putZig_k (l : List UInt8) (n : Int) (hl : l.length ≤ 1048576) (hn : -70368744177664 ≤ n ∧ n ≤ 70368744177664) : FnOK Tryz.prog 64 ⟨1, [(0, some (.row 5 (l.map bytK)))], [.c (.sl 0 1 0 l.length), .c (.v (.int .i64 n))],
    .c (.sl 1 1 0 (l ++ varB (zigN n)).length), [(0, none), (1, some (.row 5 ((l ++ varB (zigN n)).map bytK)))], 2⟩ := by
  have z := zigN_le (n := n) (b := 70368744177664) (by omega)
  have c := putVar_k l (zigN n) hl (by omega)
  rcases Int.lt_or_le n 0 with h | h
  · rw [zigN_n h] at c
    refine fnOK_of true mixed Tryz.func64 rfl (by rfl) (by rfl) ?_
    have hres := congrArg Array.toList Tryz.results64
    simp only [Tryz.ntmps64, BGB, seval]
    (have gx := And.intro (@List.length_map.{0,0}) (And.intro @List.getElem_map.{0,0} @bytK.eq_1); have q1 := c; refine go ?_; (repeat' first | exact Ef.mk | apply Lf.mk | refine fun (K : KT) hK hE hT => ?_ | refine fun (KS : KE) hKS => ?_ | refine fun (D : KD) hD => ?_ | refine fun (hg : (_ : Prop)) => ?_ | fail); all_goals (first | (refine Wr.mk ?_; (try clear gx q1); repeat first | clear hK hE hT K | clear hR hE hT K) | assumption | skip))
    all_goals (refine post_a hres (.inl rfl) ?_; simp only [RSB, ENB, seval, tiAll, true_and]; simp only [MAB, seval]; refine ⟨rfl, rfl, ?_, ?_, ?_⟩ <;> (first | rfl | (simp [WKB, Nat.add_comm, true_and]; done) | (simp only [WKB, seval])))
  · rw [zigN_y h] at c
    refine fnOK_of true mixed Tryz.func64 rfl (by rfl) (by rfl) ?_
    have hres := congrArg Array.toList Tryz.results64
    simp only [Tryz.ntmps64, BGB, seval]
    (have gx := And.intro (@List.length_map.{0,0}) (And.intro @List.getElem_map.{0,0} @bytK.eq_1); have q1 := c; refine go ?_; (repeat' first | exact Ef.mk | apply Lf.mk | refine fun (K : KT) hK hE hT => ?_ | refine fun (KS : KE) hKS => ?_ | refine fun (D : KD) hD => ?_ | refine fun (hg : (_ : Prop)) => ?_ | fail); all_goals (first | (refine Wr.mk ?_; (try clear gx q1); repeat first | clear hK hE hT K | clear hR hE hT K) | assumption | skip))
    all_goals (refine post_a hres (.inl rfl) ?_; simp only [RSB, ENB, seval, tiAll, true_and]; simp only [MAB, seval]; refine ⟨rfl, rfl, ?_, ?_, ?_⟩ <;> (first | rfl | (simp [WKB, Nat.add_comm, true_and]; done) | (simp only [WKB, seval])))

set_option maxHeartbeats 16000000 in
theorem shardBytes_k (out : List UInt8) (s : ShardD) (h : ShOk s) (ho : out.length ≤ 900000) : FnOK Tryz.prog 26 ⟨2, [(0, some (.row 5 (out.map bytK))), (1, some (.ro (s.Edges.map SEdgeD.k)))], [.c (.sl 0 1 0 out.length), .agg [.v (.int .i64 s.Lo), .v (.int .i64 s.Hi), .sl 1 5 0 s.Edges.length]],
    .c (.sl 2 1 0 (out ++ shB s).length), [(0, none), (2, some (.row 5 ((out ++ shB s).map bytK)))], 3⟩ := by
  have hh := h.1
  unfold shHead at hh
  have l1 := varB_len7 (n := s.Lo.toNat) (by omega)
  have l2 := varB_len7 (n := s.Hi.toNat) (by omega)
  have c1 := putVar_k out s.Lo.toNat (by omega) (by omega)
  have c2 := putVar_k (out ++ varB s.Lo.toNat) s.Hi.toNat (by rw [List.length_append]; omega) (by omega)
  have c3 := putVar_k (out ++ varB s.Lo.toNat ++ varB s.Hi.toNat) s.Edges.length (by rw [List.length_append, List.length_append]; omega) (by omega)
  rw [show ((s.Lo.toNat : Nat) : Int) = s.Lo by omega] at c1
  rw [show ((s.Hi.toNat : Nat) : Int) = s.Hi by omega] at c2
  rw [show out ++ varB s.Lo.toNat ++ varB s.Hi.toNat ++ varB s.Edges.length = out ++ shH s by unfold shH; simp only [List.append_assoc]] at c3
  have lh := shH_len h.1
  refine fnOK_of true mixed Tryz.func26 rfl (by rfl) (by rfl) ?_
  have hres := congrArg Array.toList Tryz.results26
  simp only [Tryz.ntmps26, BGB, seval]
  (have gx := And.intro (@List.length_map.{0,0}) (And.intro (@List.getElem_map.{0,0}) (And.intro @bytK.eq_1 @List.length_map.{0,0})); have q1 := c1; have q2 := c2; have q3 := c3; refine go ?_; (repeat' first | exact Ef.mk | apply Lf.mk | refine fun (K : KT) hK hE hT => ?_ | refine fun (KS : KE) hKS => ?_ | refine fun (D : KD) hD => ?_ | refine fun (hg : (_ : Prop)) => ?_ | fail); all_goals (first | (refine Wr.mk ?_; (try clear gx q1 q2 q3); repeat first | clear hK hE hT K | clear hR hE hT K) | assumption | skip))
  refine loop_v (X := {k : Nat // k ≤ s.Edges.length}) [8, 11, 14, 18] (fun x => [(25, .c (.v (.int .i64 ((x.1 : Nat) : Int)))), (0, .c (.sl 5 1 0 (out ++ shH s ++ edB (s0 s) (s.Edges.take x.1)).length))]) (fun x => [(1, some (.ro (s.Edges.map SEdgeD.k))), (2, some (.box 39 [.v (.int .i64 s.Lo), .v (.int .i64 s.Hi), .sl 1 5 0 s.Edges.length])), (5, some (.row 5 ((out ++ shH s ++ edB (s0 s) (s.Edges.take x.1)).map bytK))), (6, some (.box 108 (SEdgeD.s (lastAt (s0 s) s.Edges x.1))))]) 7 (fun x => s.Edges.length - x.1) ⟨0, by omega⟩ ?_
  simp only [KPB, seval]
  refine ⟨?_, ?_⟩
  · (refine wk_a ?_; simp only [MAB, seval]; refine ⟨rfl, rfl, (by decide), ?_, ?_⟩; all_goals (first | (simp only [WKB, seval, List.take_zero, edB, lastAt, s0, SEdgeD.s, List.append_nil]; done) | (simp [WKB, seval, List.take_zero, edB, lastAt, s0, SEdgeD.s, List.append_nil]; done) | simp only [WKB, seval]))
  · rintro ⟨k, hk⟩ K hR hE hT
    have le := edB_len h k hk
    obtain ⟨L, hL⟩ : ∃ L, L = out ++ shH s ++ edB (s0 s) (s.Edges.take k) := ⟨_, rfl⟩
    have lL : L.length ≤ 900021 + 28 * k := by rw [hL, List.length_append, List.length_append]; omega
    simp only [← hL]
    rcases Nat.lt_or_ge k s.Edges.length with hlt | hge
    case inr =>
      obtain rfl : k = s.Edges.length := by omega
      have e : L = out ++ shB s := by rw [hL, List.take_length]; unfold shB; rw [List.append_assoc]
      rw [e]
      (have gx := And.intro (@List.length_map.{0,0}) (And.intro (@List.getElem_map.{0,0}) (And.intro @bytK.eq_1 @List.length_map.{0,0})); refine go ?_; (repeat' first | exact Ef.mk | apply Lf.mk | refine fun (K : KT) hK hE hT => ?_ | refine fun (KS : KE) hKS => ?_ | refine fun (D : KD) hD => ?_ | refine fun (hg : (_ : Prop)) => ?_ | fail); all_goals (first | (refine Wr.mk ?_; (try clear gx); repeat first | clear hK hE hT K | clear hR hE hT K) | assumption | skip))
      (refine post_a hres (.inl rfl) ?_; simp only [RSB, ENB, seval, tiAll, true_and]; simp only [MAB, seval]; refine ⟨rfl, rfl, ?_, ?_, ?_⟩ <;> (first | rfl | (simp [WKB, Nat.add_comm, true_and]; done) | (simp only [WKB, seval])))
    case inl =>
      have st := stp_of h hlt
      have es := edB_snoc (s0 s) s.Edges k hlt
      have ls := lastAt_succ (z := s0 s) hlt
      obtain ⟨y, hy⟩ : ∃ y, y = s.Edges[k] := ⟨_, rfl⟩
      obtain ⟨z, hz⟩ : ∃ z, z = lastAt (s0 s) s.Edges k := ⟨_, rfl⟩
      rw [← hy, ← hz] at st es
      rw [← hy] at ls
      simp only [← hz]
      obtain ⟨t1, t2, t3, t4⟩ := st
      have z1 := zigN_le (n := y.To - z.To) (b := 150) (by omega)
      have m1 := varB_len7 (n := (y.From - z.From).toNat) (by omega)
      have m2 := varB_len7 (n := zigN (y.To - z.To)) (by omega)
      have m3 := varB_len7 (n := y.W.toNat) (by omega)
      have d1 := putVar_k L (y.From - z.From).toNat (by omega) (by omega)
      have d2 := putZig_k (L ++ varB (y.From - z.From).toNat) (y.To - z.To) (by rw [List.length_append]; omega) (by omega)
      have d3 := putVar_k (L ++ varB (y.From - z.From).toNat ++ varB (zigN (y.To - z.To))) y.W.toNat (by rw [List.length_append, List.length_append]; omega) (by omega)
      have d4 := putZig_k (L ++ varB (y.From - z.From).toNat ++ varB (zigN (y.To - z.To)) ++ varB y.W.toNat) (y.Index - z.Index) (by rw [List.length_append, List.length_append, List.length_append]; omega) (by omega)
      rw [show (((y.From - z.From).toNat : Nat) : Int) = y.From - z.From by omega] at d1
      rw [show ((y.W.toNat : Nat) : Int) = y.W by omega] at d3
      have ef : L ++ varB (y.From - z.From).toNat ++ varB (zigN (y.To - z.To)) ++ varB y.W.toNat ++ varB (zigN (y.Index - z.Index)) = out ++ shH s ++ edB (s0 s) (s.Edges.take (k + 1)) := by
        rw [es, hL]; unfold sEB; simp only [List.append_assoc]
      rw [ef] at d4
      (have gx := And.intro (@List.length_map.{0,0}) (And.intro (@List.getElem_map.{0,0}) (And.intro (@bytK.eq_1) (And.intro (@List.length_map.{0,0}) (And.intro (@List.getElem_map.{0,0}) (And.intro ((hy).symm) (And.intro @SEdgeD.k.eq_1 @SEdgeD.s.eq_1)))))); have q1 := d1; have q2 := d2; have q3 := d3; have q4 := d4; refine go ?_; (repeat' first | exact Ef.mk | apply Lf.mk | refine fun (K : KT) hK hE hT => ?_ | refine fun (KS : KE) hKS => ?_ | refine fun (D : KD) hD => ?_ | refine fun (hg : (_ : Prop)) => ?_ | fail); all_goals (first | (refine Wr.mk ?_; (try clear gx q1 q2 q3 q4); repeat first | clear hK hE hT K | clear hR hE hT K) | assumption | skip))
      (refine hR.out ⟨k + 1, by omega⟩ _ _ _ (by simp only; omega) ?_; (refine wk_a ?_; simp only [MAB, seval]; refine ⟨rfl, rfl, (by decide), ?_, ?_⟩; all_goals (first | (simp only [WKB, seval, ls, SEdgeD.s]; done) | (simp [WKB, seval, ls, SEdgeD.s]; done) | simp only [WKB, seval])))

end Go.Proofs.YtfdhdkljpeohlaaGreatDoor

