/-
  The engine, texts G5 H2 in one. No conditions of its own.
-/
import Derived.Test.YtcbnfkbnbdbfoaaGreatGO
import Derived.Test.YtcbnfkbnbdbfoaaGreatDF
import Derived.Test.YtcbnfkbnbdbfoaaGreatS1
import Derived.Test.YtcbnfkbnbdbfoaaGreatMG
namespace Go.Proofs.YtcbnfkbnbdbfoaaGreat
set_option linter.unusedSimpArgs false
set_option linter.unusedVariables false
set_option linter.unusedSimpArgs false
set_option linter.unusedVariables false
set_option linter.defProp false
open Go.RowKit

set_option maxHeartbeats 1000000 in
theorem toJob_k (x : JobD) : FnOK Tryz.prog 54 ⟨0, [], [.agg x.s], .agg x.s, [], 0⟩ := by
  obtain ⟨x1, x2⟩ := x
  simp only [JobD.s]
  refine fnOK_of true mixed Tryz.func54 rfl (by rfl) (by rfl) ?_
  have hres := congrArg Array.toList Tryz.results54
  simp only [Tryz.ntmps54, BGB, seval]
  (have gx := true_and True; refine go ?_; (repeat' (first | exact Ef.mk | refine Lf.mk ?_ ?_ | refine fun (K : KT) hK hE hT => ?_ | refine fun (KS : Eff → Prop) hKS => ?_ | refine fun (D : List Keys → Prop) hD => ?_ | refine fun (hg : (_ : Prop)) => ?_ | fail)); all_goals (first | (refine Wr.mk ?_; (try clear gx); repeat (first | (clear hK hE hT; clear K) | (clear hR hE hT; clear K))) | assumption | skip))
  (refine post_a hres (.inl rfl) ?_; simp only [RSB, ENB, seval, tiAll, true_and]; simp only [MAB, seval]; refine ⟨rfl, rfl, ?_, ?_, ?_⟩ <;> (first | rfl | (simp [WKB, Nat.add_comm, true_and]; done) | (simp only [WKB, seval])))

set_option maxHeartbeats 1000000 in
theorem eqJob_k (x y : JobD) : FnOK Tryz.prog 65 ⟨0, [], [.agg x.s, .agg y.s], .c (.v (.bool (decide (x = y)))), [], 0⟩ := by
  obtain ⟨x1, x2⟩ := x
  obtain ⟨y1, y2⟩ := y
  simp only [JobD.s, JobD.mk.injEq]
  refine fnOK_of true mixed Tryz.func65 rfl (by rfl) (by rfl) ?_
  have hres := congrArg Array.toList Tryz.results65
  simp only [Tryz.ntmps65, BGB, seval]
  (have gx := true_and True; refine go ?_; (repeat' (first | exact Ef.mk | refine Lf.mk ?_ ?_ | refine fun (K : KT) hK hE hT => ?_ | refine fun (KS : Eff → Prop) hKS => ?_ | refine fun (D : List Keys → Prop) hD => ?_ | refine fun (hg : (_ : Prop)) => ?_ | fail)); all_goals (first | (refine Wr.mk ?_; (try clear gx); repeat (first | (clear hK hE hT; clear K) | (clear hR hE hT; clear K))) | assumption | skip))
  all_goals (try simp only [JobD.mk.injEq, not_and] at *)
  all_goals (refine post_a hres (.inl rfl) ?_; simp only [RSB, ENB, seval, tiAll, *]; simp only [MAB, seval]; refine ⟨rfl, rfl, ?_, ?_, ?_⟩ <;> (first | rfl | (simp [WKB, Nat.add_comm, *]; done) | (simp only [WKB, seval])))
  all_goals (refine congrArg (fun b => SV.c (CV.v (Value.bool b))) ?_; symm; simp only [decide_eq_false_iff_not, decide_eq_true_eq]; first | omega | (intro h; simp_all))

end Go.Proofs.YtcbnfkbnbdbfoaaGreat

namespace Go.Proofs.YtcbnfkbnbdbfoaaGreat
set_option linter.unusedSimpArgs false
set_option linter.unusedVariables false
set_option linter.defProp false
open Go.RowKit

set_option maxHeartbeats 2000000 in
theorem toSet_k (x : SetD) (h : (x.Bits).length ≤ 1048576) : FnOK Tryz.prog 14 ⟨1, [(0, some (.ro ((x.Bits).map bytK)))], [.agg [.v (.int .i64 x.N), .sl 0 1 0 (x.Bits).length]], .agg [.v (.int .i64 x.N), .sl 1 1 0 (x.Bits).length], [(1, some (.row 5 ((x.Bits).map bytK)))], 2⟩ := by
  obtain ⟨xN, xBits⟩ := x
  dsimp only at h
  dsimp only
  refine fnOK_of true mixed Tryz.func14 rfl (by rfl) (by rfl) ?_
  have hres := congrArg Array.toList Tryz.results14
  simp only [Tryz.ntmps14, BGB, seval]
  (have gx := true_and True; have q1 := toByteS_k xBits; refine go ?_; (repeat' (first | exact Ef.mk | refine Lf.mk ?_ ?_ | refine fun (K : KT) hK hE hT => ?_ | refine fun (KS : Eff → Prop) hKS => ?_ | refine fun (D : List Keys → Prop) hD => ?_ | refine fun (hg : (_ : Prop)) => ?_ | fail)); all_goals (first | (refine Wr.mk ?_; (try clear gx); (try clear q1); repeat (first | (clear hK hE hT; clear K) | (clear hR hE hT; clear K))) | assumption | skip))
  (refine post_a hres (.inl rfl) ?_; simp only [RSB, ENB, seval, tiAll, true_and]; simp only [MAB, seval]; refine ⟨rfl, rfl, ?_, ?_, ?_⟩ <;> (first | rfl | (simp [WKB, Nat.add_comm, true_and]; done) | (simp only [WKB, seval])))

set_option maxHeartbeats 2000000 in
theorem eqSet_k (x y : SetD) (h : (x.Bits).length ≤ 1048576) (k : (y.Bits).length ≤ 1048576) : FnOK Tryz.prog 18 ⟨2, [(0, some (.ro ((x.Bits).map bytK))), (1, some (.ro ((y.Bits).map bytK)))], [.agg [.v (.int .i64 x.N), .sl 0 1 0 (x.Bits).length], .agg [.v (.int .i64 y.N), .sl 1 1 0 (y.Bits).length]], .c (.v (.bool (decide (x = y)))), [], 2⟩ := by
  obtain ⟨xN, xBits⟩ := x
  obtain ⟨yN, yBits⟩ := y
  simp only [SetD.mk.injEq]
  dsimp only at h k
  refine fnOK_of true mixed Tryz.func18 rfl (by rfl) (by rfl) ?_
  have hres := congrArg Array.toList Tryz.results18
  simp only [Tryz.ntmps18, BGB, seval]
  (have gx := true_and True; have q1 := eqByteS_k xBits yBits; refine go ?_; (repeat' (first | exact Ef.mk | refine Lf.mk ?_ ?_ | refine fun (K : KT) hK hE hT => ?_ | refine fun (KS : Eff → Prop) hKS => ?_ | refine fun (D : List Keys → Prop) hD => ?_ | refine fun (hg : (_ : Prop)) => ?_ | fail)); all_goals (first | (refine Wr.mk ?_; (try clear gx); (try clear q1); repeat (first | (clear hK hE hT; clear K) | (clear hR hE hT; clear K))) | assumption | skip))
  all_goals (try simp only [SetD.mk.injEq, not_and] at *)
  all_goals (refine post_a hres (.inl rfl) ?_; simp only [RSB, ENB, seval, tiAll, *]; simp only [MAB, seval]; refine ⟨rfl, rfl, ?_, ?_, ?_⟩ <;> (first | rfl | (simp [WKB, Nat.add_comm, *]; done) | (simp only [WKB, seval])))
  all_goals (refine congrArg (fun b => SV.c (CV.v (Value.bool b))) ?_; symm; simp only [decide_eq_false_iff_not, decide_eq_true_eq]; (intro h; simp_all))

set_option maxHeartbeats 2000000 in
theorem markSet_k (x : SetD) (k : Nat) (h : (k + (x.Bits).length) ≤ 1099511627776) : FnOK Tryz.prog 21 ⟨1, [(0, some (.row 5 ((x.Bits).map bytK)))], [.agg [.v (.int .i64 x.N), .sl 0 1 0 (x.Bits).length], .c (.v (.int .i64 (k : Int)))], .c (.v (.int .i64 (((k + (x.Bits).length) : Nat) : Int))), [(0, some (.row 5 ((List.range (x.Bits).length).map (bytQ k))))], 1⟩ := by
  obtain ⟨xN, xBits⟩ := x
  dsimp only at h
  dsimp only
  refine fnOK_of true mixed Tryz.func21 rfl (by rfl) (by rfl) ?_
  have hres := congrArg Array.toList Tryz.results21
  simp only [Tryz.ntmps21, BGB, seval]
  (have gx := @range_len; have q1 := markByteS_k xBits k; refine go ?_; (repeat' (first | exact Ef.mk | refine Lf.mk ?_ ?_ | refine fun (K : KT) hK hE hT => ?_ | refine fun (KS : Eff → Prop) hKS => ?_ | refine fun (D : List Keys → Prop) hD => ?_ | refine fun (hg : (_ : Prop)) => ?_ | fail)); all_goals (first | (refine Wr.mk ?_; (try clear gx); (try clear q1); repeat (first | (clear hK hE hT; clear K) | (clear hR hE hT; clear K))) | assumption | skip))
  (refine post_a hres (.inl rfl) ?_; simp only [RSB, ENB, seval, tiAll, true_and]; simp only [MAB, seval]; refine ⟨rfl, rfl, ?_, ?_, ?_⟩ <;> (first | rfl | (simp [WKB, Nat.add_comm, true_and]; done) | (simp only [WKB, seval])))

set_option maxHeartbeats 2000000 in
theorem heldSet_k (x : SetD) (k : Nat) (h : (k + (x.Bits).length) ≤ 1099511627776) : FnOK Tryz.prog 24 ⟨1, [(0, some (.ro ((List.range (x.Bits).length).map (bytQ k))))], [.agg [.v (.int .i64 x.N), .sl 0 1 0 (x.Bits).length], .c (.v (.int .i64 (k : Int)))], .c (.v (.int .i64 (((k + (x.Bits).length) : Nat) : Int))), [], 1⟩ := by
  obtain ⟨xN, xBits⟩ := x
  dsimp only at h
  dsimp only
  refine fnOK_of true mixed Tryz.func24 rfl (by rfl) (by rfl) ?_
  have hres := congrArg Array.toList Tryz.results24
  simp only [Tryz.ntmps24, BGB, seval]
  (have gx := @range_len; have q1 := heldByteS_k (xBits).length k; refine go ?_; (repeat' (first | exact Ef.mk | refine Lf.mk ?_ ?_ | refine fun (K : KT) hK hE hT => ?_ | refine fun (KS : Eff → Prop) hKS => ?_ | refine fun (D : List Keys → Prop) hD => ?_ | refine fun (hg : (_ : Prop)) => ?_ | fail)); all_goals (first | (refine Wr.mk ?_; (try clear gx); (try clear q1); repeat (first | (clear hK hE hT; clear K) | (clear hR hE hT; clear K))) | assumption | skip))
  (refine post_a hres (.inl rfl) ?_; simp only [RSB, ENB, seval, tiAll, true_and]; simp only [MAB, seval]; refine ⟨rfl, rfl, ?_, ?_, ?_⟩ <;> (first | rfl | (simp [WKB, Nat.add_comm, true_and]; done) | (simp only [WKB, seval])))

set_option maxHeartbeats 4000000 in
theorem szSet_k (x : SetD) (b : Nat) (h : (x.Bits).length ≤ 9223372036854775807) (hb : b ≤ 1048576) : FnOK Tryz.prog 10 ⟨1, [(0, some (.ro ((x.Bits).map bytK)))], [.agg [.v (.int .i64 x.N), .sl 0 1 0 (x.Bits).length], .c (.v (.int .i64 (b : Int)))], .c (.v (.int .i64 (szL b ((x.Bits).length)))), [], 1⟩ := by
  obtain ⟨xN, xBits⟩ := x
  dsimp only at h
  dsimp only
  refine fnOK_of true mixed Tryz.func10 rfl (by rfl) (by rfl) ?_
  have hres := congrArg Array.toList Tryz.results10
  simp only [Tryz.ntmps10, BGB, seval]
  rcases Nat.lt_or_ge b ((xBits).length) with c0 | c0
  · have e0 : szL b ((xBits).length) = -1 := szL_neg _ _ c0
    have e : szL b ((xBits).length) = -1 := szL_neg _ _ (by omega)
    (have gx := @e0; have q1 := szByteS_k (xBits).length (b) ((xBits).map bytK) (by simp); refine go ?_; (repeat' (first | exact Ef.mk | refine Lf.mk ?_ ?_ | refine fun (K : KT) hK hE hT => ?_ | refine fun (KS : Eff → Prop) hKS => ?_ | refine fun (D : List Keys → Prop) hD => ?_ | refine fun (hg : (_ : Prop)) => ?_ | fail)); all_goals (first | (refine Wr.mk ?_; (try clear gx); (try clear q1); repeat (first | (clear hK hE hT; clear K) | (clear hR hE hT; clear K))) | assumption | skip))
    (refine post_a hres (.inl rfl) ?_; simp only [RSB, ENB, seval, tiAll, e, e0]; simp only [MAB, seval]; refine ⟨rfl, rfl, ?_, ?_, ?_⟩ <;> (first | rfl | (simp [WKB, Nat.add_comm, e, e0]; done) | (simp only [WKB, seval])))
  · have e0 : szL b ((xBits).length) = ((b - ((xBits).length) : Nat) : Int) := szL_sub _ _ c0
    (have gx := @e0; have q1 := szByteS_k (xBits).length (b) ((xBits).map bytK) (by simp); refine go ?_; (repeat' (first | exact Ef.mk | refine Lf.mk ?_ ?_ | refine fun (K : KT) hK hE hT => ?_ | refine fun (KS : Eff → Prop) hKS => ?_ | refine fun (D : List Keys → Prop) hD => ?_ | refine fun (hg : (_ : Prop)) => ?_ | fail)); all_goals (first | (refine Wr.mk ?_; (try clear gx); (try clear q1); repeat (first | (clear hK hE hT; clear K) | (clear hR hE hT; clear K))) | assumption | skip))
    (refine post_a hres (.inl rfl) ?_; simp only [RSB, ENB, seval, tiAll, e0, szL_sub b ((xBits).length) (by omega)]; simp only [MAB, seval]; refine ⟨rfl, rfl, ?_, ?_, ?_⟩ <;> (first | rfl | (simp [WKB, Nat.add_comm, e0, szL_sub b ((xBits).length) (by omega)]; done) | (simp only [WKB, seval])))
    all_goals (refine congrArg (fun z => SV.c (CV.v (Value.int .i64 z))) ?_; omega)

end Go.Proofs.YtcbnfkbnbdbfoaaGreat
