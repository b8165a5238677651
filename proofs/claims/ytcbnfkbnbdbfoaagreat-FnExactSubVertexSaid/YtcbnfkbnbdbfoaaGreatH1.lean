/-
  Contracts of the law's helpers for Sub. No conditions of its own.
-/
import Derived.Test.YtcbnfkbnbdbfoaaGreatGO
import Derived.Test.YtcbnfkbnbdbfoaaGreatMG
namespace Go.Proofs.YtcbnfkbnbdbfoaaGreat
set_option linter.unusedSimpArgs false
set_option linter.unusedVariables false
set_option linter.unusedSimpArgs false
set_option linter.unusedVariables false
set_option linter.defProp false
set_option maxRecDepth 20000
open Go.RowKit

structure SubD where
  P : Int
  Lo : Int
  Hi : Int
  Locs : List LocD
  Reads : Int
deriving DecidableEq

set_option maxHeartbeats 2000000 in
theorem toSub_k (x : SubD) (h : (x.Locs).length ≤ 1048576) : FnOK Tryz.prog 13 ⟨1, [(0, some (.ro ((x.Locs).map LocD.k)))], [.agg [.v (.int .i64 x.P), .v (.int .i64 x.Lo), .v (.int .i64 x.Hi), .sl 0 7 0 (x.Locs).length, .v (.int .i64 x.Reads)]], .agg [.v (.int .i64 x.P), .v (.int .i64 x.Lo), .v (.int .i64 x.Hi), .sl 1 7 0 (x.Locs).length, .v (.int .i64 x.Reads)], [(1, some (.row 98 ((x.Locs).map LocD.k)))], 2⟩ := by
  obtain ⟨xP, xLo, xHi, xLocs, xReads⟩ := x
  dsimp only at h
  dsimp only
  refine fnOK_of true mixed Tryz.func13 rfl (by rfl) (by rfl) ?_
  have hres := congrArg Array.toList Tryz.results13
  simp only [Tryz.ntmps13, BGB, seval]
  (have gx := true_and True; have q1 := toLocS_k xLocs; refine go ?_; (repeat' (first | exact Ef.mk | refine Lf.mk ?_ ?_ | refine fun (K : KT) hK hE hT => ?_ | refine fun (KS : Eff → Prop) hKS => ?_ | refine fun (D : List Keys → Prop) hD => ?_ | refine fun (hg : (_ : Prop)) => ?_ | fail)); all_goals (first | (refine Wr.mk ?_; (try clear gx); (try clear q1); repeat (first | (clear hK hE hT; clear K) | (clear hR hE hT; clear K))) | assumption | skip))
  (refine post_a hres (.inl rfl) ?_; simp only [RSB, ENB, seval, tiAll, true_and]; simp only [MAB, seval]; refine ⟨rfl, rfl, ?_, ?_, ?_⟩ <;> (first | rfl | (simp [WKB, Nat.add_comm, true_and]; done) | (simp only [WKB, seval])))

set_option maxHeartbeats 2000000 in
theorem eqSub_k (x y : SubD) (h : (x.Locs).length ≤ 1048576) (k : (y.Locs).length ≤ 1048576) : FnOK Tryz.prog 17 ⟨2, [(0, some (.ro ((x.Locs).map LocD.k))), (1, some (.ro ((y.Locs).map LocD.k)))], [.agg [.v (.int .i64 x.P), .v (.int .i64 x.Lo), .v (.int .i64 x.Hi), .sl 0 7 0 (x.Locs).length, .v (.int .i64 x.Reads)], .agg [.v (.int .i64 y.P), .v (.int .i64 y.Lo), .v (.int .i64 y.Hi), .sl 1 7 0 (y.Locs).length, .v (.int .i64 y.Reads)]], .c (.v (.bool (decide (x = y)))), [], 2⟩ := by
  obtain ⟨xP, xLo, xHi, xLocs, xReads⟩ := x
  obtain ⟨yP, yLo, yHi, yLocs, yReads⟩ := y
  simp only [SubD.mk.injEq]
  dsimp only at h k
  refine fnOK_of true mixed Tryz.func17 rfl (by rfl) (by rfl) ?_
  have hres := congrArg Array.toList Tryz.results17
  simp only [Tryz.ntmps17, BGB, seval]
  (have gx := true_and True; have q1 := eqLocS_k xLocs yLocs; refine go ?_; (repeat' (first | exact Ef.mk | refine Lf.mk ?_ ?_ | refine fun (K : KT) hK hE hT => ?_ | refine fun (KS : Eff → Prop) hKS => ?_ | refine fun (D : List Keys → Prop) hD => ?_ | refine fun (hg : (_ : Prop)) => ?_ | fail)); all_goals (first | (refine Wr.mk ?_; (try clear gx); (try clear q1); repeat (first | (clear hK hE hT; clear K) | (clear hR hE hT; clear K))) | assumption | skip))
  all_goals (try simp only [SubD.mk.injEq, not_and] at *)
  all_goals (refine post_a hres (.inl rfl) ?_; simp only [RSB, ENB, seval, tiAll, *]; simp only [MAB, seval]; refine ⟨rfl, rfl, ?_, ?_, ?_⟩ <;> (first | rfl | (simp [WKB, Nat.add_comm, *]; done) | (simp only [WKB, seval])))
  all_goals (refine congrArg (fun b => SV.c (CV.v (Value.bool b))) ?_; symm; simp only [decide_eq_false_iff_not, decide_eq_true_eq]; (intro h; simp_all))

set_option maxHeartbeats 2000000 in
theorem markSub_k (x : SubD) (k : Nat) (h : (k + 7 * (x.Locs).length) ≤ 1099511627776) : FnOK Tryz.prog 20 ⟨1, [(0, some (.row 98 ((x.Locs).map LocD.k)))], [.agg [.v (.int .i64 x.P), .v (.int .i64 x.Lo), .v (.int .i64 x.Hi), .sl 0 7 0 (x.Locs).length, .v (.int .i64 x.Reads)], .c (.v (.int .i64 (k : Int)))], .c (.v (.int .i64 (((k + 7 * (x.Locs).length) : Nat) : Int))), [(0, some (.row 98 ((List.range (x.Locs).length).map (LocD.g k))))], 1⟩ := by
  obtain ⟨xP, xLo, xHi, xLocs, xReads⟩ := x
  dsimp only at h
  dsimp only
  refine fnOK_of true mixed Tryz.func20 rfl (by rfl) (by rfl) ?_
  have hres := congrArg Array.toList Tryz.results20
  simp only [Tryz.ntmps20, BGB, seval]
  (have gx := @range_len; have q1 := markLocS_k xLocs k; refine go ?_; (repeat' (first | exact Ef.mk | refine Lf.mk ?_ ?_ | refine fun (K : KT) hK hE hT => ?_ | refine fun (KS : Eff → Prop) hKS => ?_ | refine fun (D : List Keys → Prop) hD => ?_ | refine fun (hg : (_ : Prop)) => ?_ | fail)); all_goals (first | (refine Wr.mk ?_; (try clear gx); (try clear q1); repeat (first | (clear hK hE hT; clear K) | (clear hR hE hT; clear K))) | assumption | skip))
  (refine post_a hres (.inl rfl) ?_; simp only [RSB, ENB, seval, tiAll, true_and]; simp only [MAB, seval]; refine ⟨rfl, rfl, ?_, ?_, ?_⟩ <;> (first | rfl | (simp [WKB, Nat.add_comm, true_and]; done) | (simp only [WKB, seval])))

set_option maxHeartbeats 2000000 in
theorem heldSub_k (x : SubD) (k : Nat) (h : (k + 7 * (x.Locs).length) ≤ 1099511627776) : FnOK Tryz.prog 23 ⟨1, [(0, some (.ro ((List.range (x.Locs).length).map (LocD.g k))))], [.agg [.v (.int .i64 x.P), .v (.int .i64 x.Lo), .v (.int .i64 x.Hi), .sl 0 7 0 (x.Locs).length, .v (.int .i64 x.Reads)], .c (.v (.int .i64 (k : Int)))], .c (.v (.int .i64 (((k + 7 * (x.Locs).length) : Nat) : Int))), [], 1⟩ := by
  obtain ⟨xP, xLo, xHi, xLocs, xReads⟩ := x
  dsimp only at h
  dsimp only
  refine fnOK_of true mixed Tryz.func23 rfl (by rfl) (by rfl) ?_
  have hres := congrArg Array.toList Tryz.results23
  simp only [Tryz.ntmps23, BGB, seval]
  (have gx := @range_len; have q1 := heldLocS_k (xLocs).length k; refine go ?_; (repeat' (first | exact Ef.mk | refine Lf.mk ?_ ?_ | refine fun (K : KT) hK hE hT => ?_ | refine fun (KS : Eff → Prop) hKS => ?_ | refine fun (D : List Keys → Prop) hD => ?_ | refine fun (hg : (_ : Prop)) => ?_ | fail)); all_goals (first | (refine Wr.mk ?_; (try clear gx); (try clear q1); repeat (first | (clear hK hE hT; clear K) | (clear hR hE hT; clear K))) | assumption | skip))
  (refine post_a hres (.inl rfl) ?_; simp only [RSB, ENB, seval, tiAll, true_and]; simp only [MAB, seval]; refine ⟨rfl, rfl, ?_, ?_, ?_⟩ <;> (first | rfl | (simp [WKB, Nat.add_comm, true_and]; done) | (simp only [WKB, seval])))

set_option maxHeartbeats 4000000 in
theorem szSub_k (x : SubD) (b : Nat) (h : (x.Locs).length ≤ 9223372036854775807) (hb : b ≤ 1048576) : FnOK Tryz.prog 9 ⟨1, [(0, some (.ro ((x.Locs).map LocD.k)))], [.agg [.v (.int .i64 x.P), .v (.int .i64 x.Lo), .v (.int .i64 x.Hi), .sl 0 7 0 (x.Locs).length, .v (.int .i64 x.Reads)], .c (.v (.int .i64 (b : Int)))], .c (.v (.int .i64 (szL b ((x.Locs).length)))), [], 1⟩ := by
  obtain ⟨xP, xLo, xHi, xLocs, xReads⟩ := x
  dsimp only at h
  dsimp only
  refine fnOK_of true mixed Tryz.func9 rfl (by rfl) (by rfl) ?_
  have hres := congrArg Array.toList Tryz.results9
  simp only [Tryz.ntmps9, BGB, seval]
  rcases Nat.lt_or_ge b ((xLocs).length) with c0 | c0
  · have e0 : szL b ((xLocs).length) = -1 := szL_neg _ _ c0
    have e : szL b ((xLocs).length) = -1 := szL_neg _ _ (by omega)
    (have gx := @e0; have q1 := szLocS_k (xLocs).length (b) ((xLocs).map LocD.k) (by simp); refine go ?_; (repeat' (first | exact Ef.mk | refine Lf.mk ?_ ?_ | refine fun (K : KT) hK hE hT => ?_ | refine fun (KS : Eff → Prop) hKS => ?_ | refine fun (D : List Keys → Prop) hD => ?_ | refine fun (hg : (_ : Prop)) => ?_ | fail)); all_goals (first | (refine Wr.mk ?_; (try clear gx); (try clear q1); repeat (first | (clear hK hE hT; clear K) | (clear hR hE hT; clear K))) | assumption | skip))
    (refine post_a hres (.inl rfl) ?_; simp only [RSB, ENB, seval, tiAll, e, e0]; simp only [MAB, seval]; refine ⟨rfl, rfl, ?_, ?_, ?_⟩ <;> (first | rfl | (simp [WKB, Nat.add_comm, e, e0]; done) | (simp only [WKB, seval])))
  · have e0 : szL b ((xLocs).length) = ((b - ((xLocs).length) : Nat) : Int) := szL_sub _ _ c0
    (have gx := @e0; have q1 := szLocS_k (xLocs).length (b) ((xLocs).map LocD.k) (by simp); refine go ?_; (repeat' (first | exact Ef.mk | refine Lf.mk ?_ ?_ | refine fun (K : KT) hK hE hT => ?_ | refine fun (KS : Eff → Prop) hKS => ?_ | refine fun (D : List Keys → Prop) hD => ?_ | refine fun (hg : (_ : Prop)) => ?_ | fail)); all_goals (first | (refine Wr.mk ?_; (try clear gx); (try clear q1); repeat (first | (clear hK hE hT; clear K) | (clear hR hE hT; clear K))) | assumption | skip))
    (refine post_a hres (.inl rfl) ?_; simp only [RSB, ENB, seval, tiAll, e0, szL_sub b ((xLocs).length) (by omega)]; simp only [MAB, seval]; refine ⟨rfl, rfl, ?_, ?_, ?_⟩ <;> (first | rfl | (simp [WKB, Nat.add_comm, e0, szL_sub b ((xLocs).length) (by omega)]; done) | (simp only [WKB, seval])))
    all_goals (refine congrArg (fun z => SV.c (CV.v (Value.int .i64 z))) ?_; omega)

end Go.Proofs.YtcbnfkbnbdbfoaaGreat