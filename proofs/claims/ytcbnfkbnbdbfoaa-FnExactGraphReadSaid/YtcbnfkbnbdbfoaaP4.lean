/-
  Shards and farms encoded by the reference. No conditions of its own.
-/
import Derived.Test.YtcbnfkbnbdbfoaaGO
import Derived.Test.YtcbnfkbnbdbfoaaMNC
import Derived.Test.YtcbnfkbnbdbfoaaP3
namespace Go.Proofs.Ytcbnfkbnbdbfoaa
set_option linter.unusedSimpArgs false
set_option linter.unusedVariables false
set_option linter.unusedSimpArgs false
set_option linter.unusedVariables false
set_option linter.defProp false
set_option maxRecDepth 20000
open Go.RowKit
attribute [local irreducible] lexD

/-- What PutVar does where the number is in range. -/
theorem specPutVarY_k (l : List UInt8) (n : Nat) (hl : l.length ≤ 1048576) (hn : n ≤ 281474976710655) : FnOK Try.prog 117 ⟨1, [(0, some (.ro (l.map bytK)))], [.c (.sl 0 1 0 l.length), .c (.v (.int .i64 (n : Int)))],
    .tup [.inl (.sl 1 1 0 (l ++ varB n).length), .inl (.v (.bool true))], [(1, some (.row 5 ((l ++ varB n).map bytK)))], 2⟩ := by
  have c := specPutVar_k l (n : Int) hl
  obtain ⟨e1, e2⟩ := pvL_yes (l := l) (m := n) hn
  rw [e1, e2] at c
  exact c

set_option maxHeartbeats 4000000 in
theorem specPutZig_k (l : List UInt8) (n : Int) (hl : l.length ≤ 1048576) (hn : -70368744177664 ≤ n ∧ n ≤ 70368744177664) : FnOK Try.prog 144 ⟨1, [(0, some (.ro (l.map bytK)))], [.c (.sl 0 1 0 l.length), .c (.v (.int .i64 n))],
    .tup [.inl (.sl 1 1 0 (l ++ varB (zigN n)).length), .inl (.v (.bool true))], [(1, some (.row 5 ((l ++ varB (zigN n)).map bytK)))], 2⟩ := by
  have z := zigN_le (n := n) (b := 70368744177664) (by omega)
  have c := specPutVarY_k l (zigN n) hl (by omega)
  rcases Int.lt_or_le n 0 with h | h
  · rw [zigN_n h] at c
    refine fnOK_of true mixed Try.func144 rfl (by rfl) (by rfl) ?_
    have hres := congrArg Array.toList Try.results144
    simp only [Try.ntmps144, BGB, seval]
    (have gx := And.intro (@List.length_map.{0,0}) (And.intro @List.getElem_map.{0,0} @bytK.eq_1); have q1 := c; refine go ?_; (repeat' (first | exact Ef.mk | refine Lf.mk ?_ ?_ | refine fun (K : KT) hK hE hT => ?_ | refine fun (KS : Eff → Prop) hKS => ?_ | refine fun (D : List Keys → Prop) hD => ?_ | refine fun (hg : (_ : Prop)) => ?_ | fail)); all_goals (first | (refine Wr.mk ?_; (try clear gx); (try clear q1); repeat (first | (clear hK hE hT; clear K) | (clear hR hE hT; clear K))) | assumption | skip))
    all_goals (refine post_a hres (.inl rfl) ?_; simp only [RSB, ENB, seval, tiAll, true_and]; simp only [MAB, seval]; refine ⟨rfl, rfl, ?_, ?_, ?_⟩ <;> (first | rfl | (simp [WKB, Nat.add_comm, true_and]; done) | (simp only [WKB, seval])))
  · rw [zigN_y h] at c
    refine fnOK_of true mixed Try.func144 rfl (by rfl) (by rfl) ?_
    have hres := congrArg Array.toList Try.results144
    simp only [Try.ntmps144, BGB, seval]
    (have gx := And.intro (@List.length_map.{0,0}) (And.intro @List.getElem_map.{0,0} @bytK.eq_1); have q1 := c; refine go ?_; (repeat' (first | exact Ef.mk | refine Lf.mk ?_ ?_ | refine fun (K : KT) hK hE hT => ?_ | refine fun (KS : Eff → Prop) hKS => ?_ | refine fun (D : List Keys → Prop) hD => ?_ | refine fun (hg : (_ : Prop)) => ?_ | fail)); all_goals (first | (refine Wr.mk ?_; (try clear gx); (try clear q1); repeat (first | (clear hK hE hT; clear K) | (clear hR hE hT; clear K))) | assumption | skip))
    all_goals (refine post_a hres (.inl rfl) ?_; simp only [RSB, ENB, seval, tiAll, true_and]; simp only [MAB, seval]; refine ⟨rfl, rfl, ?_, ?_, ?_⟩ <;> (first | rfl | (simp [WKB, Nat.add_comm, true_and]; done) | (simp only [WKB, seval])))

set_option maxHeartbeats 16000000 in
theorem specShardBytes_k (s : ShardD) (h : ShOk s) : FnOK Try.prog 116 ⟨1, [(0, some (.ro (s.Edges.map SEdgeD.k)))], [.agg [.v (.int .i64 s.Lo), .v (.int .i64 s.Hi), .sl 0 5 0 s.Edges.length]],
    .tup [.inl (.sl 1 1 0 (shB s).length), .inl (.v (.bool true))], [(1, some (.row 5 ((shB s).map bytK)))], 2⟩ := by
  have hh := h.1
  unfold shHead at hh
  have co := specShardOk_k s (by omega)
  rw [pB_t h] at co
  have l1 := varB_len7 (n := s.Lo.toNat) (by omega)
  have l2 := varB_len7 (n := s.Hi.toNat) (by omega)
  have c1 := specPutVarY_k [] s.Lo.toNat (by simp) (by omega)
  have c2 := specPutVarY_k (varB s.Lo.toNat) s.Hi.toNat (by omega) (by omega)
  have c3 := specPutVarY_k (varB s.Lo.toNat ++ varB s.Hi.toNat) s.Edges.length (by rw [List.length_append]; omega) (by omega)
  rw [List.nil_append] at c1
  rw [show ((s.Lo.toNat : Nat) : Int) = s.Lo by omega] at c1
  rw [show ((s.Hi.toNat : Nat) : Int) = s.Hi by omega] at c2
  rw [show varB s.Lo.toNat ++ varB s.Hi.toNat ++ varB s.Edges.length = shH s from rfl] at c3
  have lh := shH_len h.1
  refine fnOK_of true mixed Try.func116 rfl (by rfl) (by rfl) ?_
  have hres := congrArg Array.toList Try.results116
  simp only [Try.ntmps116, BGB, seval]
  (have gx := And.intro (@List.length_map.{0,0}) (And.intro (@List.getElem_map.{0,0}) (And.intro @bytK.eq_1 @List.length_map.{0,0})); have q1 := co; have q2 := c1; have q3 := c2; have q4 := c3; refine go ?_; (repeat' (first | exact Ef.mk | refine Lf.mk ?_ ?_ | refine fun (K : KT) hK hE hT => ?_ | refine fun (KS : Eff → Prop) hKS => ?_ | refine fun (D : List Keys → Prop) hD => ?_ | refine fun (hg : (_ : Prop)) => ?_ | fail)); all_goals (first | (refine Wr.mk ?_; (try clear gx); (try clear q1 q2 q3 q4); repeat (first | (clear hK hE hT; clear K) | (clear hR hE hT; clear K))) | assumption | skip))
  refine loop_v (X := {k : Nat // k ≤ s.Edges.length}) [12, 15, 16, 18, 19, 22, 23, 25, 26, 30, 31] (fun x => [(39, .c (.v (.int .i64 ((x.1 : Nat) : Int)))), (4, .c (.sl 4 1 0 (shH s ++ edB (s0 s) (s.Edges.take x.1)).length))]) (fun x => [(0, some (.ro (s.Edges.map SEdgeD.k))), (1, some (.box 77 [.v (.int .i64 s.Lo), .v (.int .i64 s.Hi), .sl 0 5 0 s.Edges.length])), (4, some (.row 5 ((shH s ++ edB (s0 s) (s.Edges.take x.1)).map bytK))), (5, some (.box 64 (SEdgeD.s (lastAt (s0 s) s.Edges x.1))))]) 6 (fun x => s.Edges.length - x.1) ⟨0, by omega⟩ ?_
  simp only [KPB, seval]
  refine ⟨?_, ?_⟩
  · (refine wk_a ?_; simp only [MAB, seval]; refine ⟨rfl, rfl, (by decide), ?_, ?_⟩; all_goals (first | (simp only [WKB, seval, List.take_zero, edB, lastAt, s0, SEdgeD.s, List.append_nil, Nat.reduceLT, Nat.zero_lt_succ]; done) | (simp [WKB, seval, List.take_zero, edB, lastAt, s0, SEdgeD.s, List.append_nil]; done) | simp only [WKB, seval]))
  · rintro ⟨k, hk⟩ K hR hE hT
    have le := edB_len h k hk
    obtain ⟨L, hL⟩ : ∃ L, L = shH s ++ edB (s0 s) (s.Edges.take k) := ⟨_, rfl⟩
    have lL : L.length ≤ 21 + 28 * k := by rw [hL, List.length_append]; omega
    simp only [← hL]
    rcases Nat.lt_or_ge k s.Edges.length with hlt | hge
    case inr =>
      obtain rfl : k = s.Edges.length := by omega
      have e : L = shB s := by rw [hL, List.take_length]; rfl
      rw [e]
      (have gx := And.intro (@List.length_map.{0,0}) (And.intro (@List.getElem_map.{0,0}) (And.intro @bytK.eq_1 @List.length_map.{0,0})); refine go ?_; (repeat' (first | exact Ef.mk | refine Lf.mk ?_ ?_ | refine fun (K : KT) hK hE hT => ?_ | refine fun (KS : Eff → Prop) hKS => ?_ | refine fun (D : List Keys → Prop) hD => ?_ | refine fun (hg : (_ : Prop)) => ?_ | fail)); all_goals (first | (refine Wr.mk ?_; (try clear gx); repeat (first | (clear hK hE hT; clear K) | (clear hR hE hT; clear K))) | assumption | skip))
      (refine post_a hres (.inl rfl) ?_; simp only [RSB, ENB, seval, tiAll, true_and]; simp only [MAB, seval]; refine ⟨rfl, rfl, ?_, ?_, ?_⟩ <;> (first | rfl | (simp [WKB, Nat.add_comm, true_and]; done) | (simp only [WKB, seval])))
    case inl =>
      have st := stp_of h hlt
      have es := edB_snoc (s0 s) s.Edges k hlt
      have ls := lastAt_succ (z := s0 s) hlt
      obtain ⟨y, hy⟩ : ∃ y, y = s.Edges[k] := ⟨_, rfl⟩
      obtain ⟨z, hz⟩ : ∃ z, z = lastAt (s0 s) s.Edges k := ⟨_, rfl⟩
      rw [← hy, ← hz] at st es
      rw [← hy] at ls
      simp only [← hz]
      obtain ⟨t1, t2, t3, t4⟩ := st
      have z1 := zigN_le (n := y.To - z.To) (b := 150) (by omega)
      have m1 := varB_len7 (n := (y.From - z.From).toNat) (by omega)
      have m2 := varB_len7 (n := zigN (y.To - z.To)) (by omega)
      have m3 := varB_len7 (n := y.W.toNat) (by omega)
      have d1 := specPutVarY_k L (y.From - z.From).toNat (by omega) (by omega)
      have d2 := specPutZig_k (L ++ varB (y.From - z.From).toNat) (y.To - z.To) (by rw [List.length_append]; omega) (by omega)
      have d3 := specPutVarY_k (L ++ varB (y.From - z.From).toNat ++ varB (zigN (y.To - z.To))) y.W.toNat (by rw [List.length_append, List.length_append]; omega) (by omega)
      have d4 := specPutZig_k (L ++ varB (y.From - z.From).toNat ++ varB (zigN (y.To - z.To)) ++ varB y.W.toNat) (y.Index - z.Index) (by rw [List.length_append, List.length_append, List.length_append]; omega) (by omega)
      rw [show (((y.From - z.From).toNat : Nat) : Int) = y.From - z.From by omega] at d1
      rw [show ((y.W.toNat : Nat) : Int) = y.W by omega] at d3
      have ef : L ++ varB (y.From - z.From).toNat ++ varB (zigN (y.To - z.To)) ++ varB y.W.toNat ++ varB (zigN (y.Index - z.Index)) = shH s ++ edB (s0 s) (s.Edges.take (k + 1)) := by
        rw [es, hL]; unfold sEB; simp only [List.append_assoc]
      rw [ef] at d4
      (have gx := And.intro (@List.length_map.{0,0}) (And.intro (@List.getElem_map.{0,0}) (And.intro (@bytK.eq_1) (And.intro (@List.length_map.{0,0}) (And.intro (@List.getElem_map.{0,0}) (And.intro ((hy).symm) (And.intro @SEdgeD.k.eq_1 @SEdgeD.s.eq_1)))))); have q1 := d1; have q2 := d2; have q3 := d3; have q4 := d4; refine go ?_; (repeat' (first | exact Ef.mk | refine Lf.mk ?_ ?_ | refine fun (K : KT) hK hE hT => ?_ | refine fun (KS : Eff → Prop) hKS => ?_ | refine fun (D : List Keys → Prop) hD => ?_ | refine fun (hg : (_ : Prop)) => ?_ | fail)); all_goals (first | (refine Wr.mk ?_; (try clear gx); (try clear q1 q2 q3 q4); repeat (first | (clear hK hE hT; clear K) | (clear hR hE hT; clear K))) | assumption | skip))
      (refine hR.out ⟨k + 1, by omega⟩ _ _ _ (by simp only; omega) ?_; (refine wk_a ?_; simp only [MAB, seval]; refine ⟨rfl, rfl, (by decide), ?_, ?_⟩; all_goals (first | (simp only [WKB, seval, ls, SEdgeD.s, Nat.reduceLT, Nat.zero_lt_succ]; done) | (simp [WKB, seval, ls, SEdgeD.s]; done) | simp only [WKB, seval])))

set_option maxHeartbeats 16000000 in
theorem specGraphFile_k (f : FarmD) (h : (f.Ends).length ≤ 1048576 ∧ (f.Shards).length ≤ 1048576 ∧ (∀ s ∈ f.Shards, s.Edges.length ≤ 1048576)) : FnOK Try.prog 81 ⟨2, [(0, some (.ro ((f.Ends).map intK))), (1, some (.ro ((f.Shards).map (ShardD.k 64))))], [.agg [.v (.int .i64 f.N), .sl 0 1 0 (f.Ends).length, .sl 1 3 0 (f.Shards).length]], .tup [.inl (.sl 2 1 0 (gfR f).length), .inl (.v (.bool (gfB f)))], [(2, some (.row 5 ((gfR f).map bytK)))], 3⟩ := by
  have co := specFarmOk_k f h
  obtain ⟨h0, h1, h2⟩ := h
  by_cases hf : FarmOk f
  case neg =>
    obtain ⟨e1, e2⟩ := gf_no hf
    rw [e1, e2]
    rw [pB_f hf] at co
    refine fnOK_of true mixed Try.func81 rfl (by rfl) (by rfl) ?_
    have hres := congrArg Array.toList Try.results81
    simp only [Try.ntmps81, BGB, seval]
    (have gx := And.intro (@List.length_map.{0,0}) (And.intro (@List.getElem_map.{0,0}) (And.intro @bytK.eq_1 @List.length_map.{0,0})); have q1 := co; refine go ?_; (repeat' (first | exact Ef.mk | refine Lf.mk ?_ ?_ | refine fun (K : KT) hK hE hT => ?_ | refine fun (KS : Eff → Prop) hKS => ?_ | refine fun (D : List Keys → Prop) hD => ?_ | refine fun (hg : (_ : Prop)) => ?_ | fail)); all_goals (first | (refine Wr.mk ?_; (try clear gx); (try clear q1); repeat (first | (clear hK hE hT; clear K) | (clear hR hE hT; clear K))) | assumption | skip))
    all_goals (refine post_a hres (.inl rfl) ?_; simp only [RSB, ENB, seval, tiAll, true_and]; simp only [MAB, seval]; refine ⟨rfl, rfl, ?_, ?_, ?_⟩ <;> (first | rfl | (simp [WKB, Nat.add_comm, true_and]; done) | (simp only [WKB, seval])))
  case pos =>
    obtain ⟨e1, e2⟩ := gf_yes hf
    have g := gf_ok hf
    have gn := g.n
    have gl := g.l
    have ge := g.e
    rw [e1, e2]
    rw [pB_t hf] at co
    have w1 := varB_len7 (n := f.N.toNat) (by omega)
    have c1 := specPutVarY_k [] f.N.toNat (by simp) (by omega)
    have c2 := specPutVarY_k (varB f.N.toNat) f.Ends.length (by omega) (by omega)
    rw [List.nil_append] at c1
    rw [show ((f.N.toNat : Nat) : Int) = f.N by omega] at c1
    rw [← gfT_zero] at c2
    have cf := specFrameBytes_k 1 (gfD f) (by omega) (by have := gfT_max g (Nat.le_refl _); unfold gfD; omega)
    refine fnOK_of true mixed Try.func81 rfl (by rfl) (by rfl) ?_
    have hres := congrArg Array.toList Try.results81
    simp only [Try.ntmps81, BGB, seval]
    (have gx := And.intro (@List.length_map.{0,0}) (And.intro (@List.getElem_map.{0,0}) (And.intro @bytK.eq_1 @List.length_map.{0,0})); have q1 := co; have q2 := c1; have q3 := c2; refine go ?_; (repeat' (first | exact Ef.mk | refine Lf.mk ?_ ?_ | refine fun (K : KT) hK hE hT => ?_ | refine fun (KS : Eff → Prop) hKS => ?_ | refine fun (D : List Keys → Prop) hD => ?_ | refine fun (hg : (_ : Prop)) => ?_ | fail)); all_goals (first | (refine Wr.mk ?_; (try clear gx); (try clear q1 q2 q3); repeat (first | (clear hK hE hT; clear K) | (clear hR hE hT; clear K))) | assumption | skip))
    refine loop_v (X := {k : Nat // k ≤ f.Shards.length}) [13, 16, 17, 19, 20, 24, 25] (fun x => [(30, .c (.v (.int .i64 ((x.1 : Nat) : Int)))), (4, .c (.sl 4 1 0 (gfT f x.1).length))]) (fun x => [(0, some (.ro ((f.Ends).map intK))), (1, some (.ro ((f.Shards).map (ShardD.k 64)))), (2, some (.box 34 [.v (.int .i64 f.N), .sl 0 1 0 (f.Ends).length, .sl 1 3 0 (f.Shards).length])), (4, some (.row 5 ((gfT f x.1).map bytK)))]) 5 (fun x => f.Shards.length - x.1) ⟨0, by omega⟩ ?_
    simp only [KPB, seval]
    refine ⟨?_, ?_⟩
    · (refine wk_a ?_; simp only [MAB, seval]; refine ⟨rfl, rfl, (by decide), ?_, ?_⟩; all_goals (first | (simp only [WKB, seval, true_and, Nat.reduceLT, Nat.zero_lt_succ]; done) | (simp [WKB, seval, true_and]; done) | simp only [WKB, seval]))
    · rintro ⟨k, hk⟩ K hR hE hT
      have hmx := gfT_max g hk
      rcases Nat.lt_or_ge k f.Shards.length with hlt | hge
      case inr =>
        obtain rfl : k = f.Shards.length := by omega
        change (gfD f).length ≤ _ at hmx
        simp only [show gfT f f.Shards.length = gfD f from rfl]
        (have gx := And.intro (@List.length_map.{0,0}) (And.intro (@List.getElem_map.{0,0}) (And.intro @bytK.eq_1 @List.length_map.{0,0})); have q1 := cf; refine go ?_; (repeat' (first | exact Ef.mk | refine Lf.mk ?_ ?_ | refine fun (K : KT) hK hE hT => ?_ | refine fun (KS : Eff → Prop) hKS => ?_ | refine fun (D : List Keys → Prop) hD => ?_ | refine fun (hg : (_ : Prop)) => ?_ | fail)); all_goals (first | (refine Wr.mk ?_; (try clear gx); (try clear q1); repeat (first | (clear hK hE hT; clear K) | (clear hR hE hT; clear K))) | assumption | skip))
        (refine post_a hres (.inl rfl) ?_; simp only [RSB, ENB, seval, tiAll, true_and]; simp only [MAB, seval]; refine ⟨rfl, rfl, ?_, ?_, ?_⟩ <;> (first | rfl | (simp [WKB, Nat.add_comm, true_and]; done) | (simp only [WKB, seval])))
      case inl =>
        have cs := specShardBytes_k f.Shards[k] (g.s k hlt)
        have lb := shB_len (g.s k hlt)
        have e4 := (g.s k hlt).1.2.2.2
        have t1 : ((shB f.Shards[k]).map bytK).take (shB f.Shards[k]).length = (shB f.Shards[k]).map bytK := List.take_of_length_le (by simp)
        (have gx := And.intro (@List.length_map.{0,0}) (And.intro (@List.getElem_map.{0,0}) (And.intro (@bytK.eq_1) (And.intro (@List.length_map.{0,0}) (And.intro (@List.getElem_map.{0,0}) (And.intro @ShardD.k.eq_1 @t1))))); have q1 := cs; refine go ?_; (repeat' (first | exact Ef.mk | refine Lf.mk ?_ ?_ | refine fun (K : KT) hK hE hT => ?_ | refine fun (KS : Eff → Prop) hKS => ?_ | refine fun (D : List Keys → Prop) hD => ?_ | refine fun (hg : (_ : Prop)) => ?_ | fail)); all_goals (first | (refine Wr.mk ?_; (try clear gx); (try clear q1); repeat (first | (clear hK hE hT; clear K) | (clear hR hE hT; clear K))) | assumption | skip))
        (refine hR.out ⟨k + 1, by omega⟩ _ _ _ (by simp only; omega) ?_; (refine wk_a ?_; simp only [MAB, seval]; refine ⟨rfl, rfl, (by decide), ?_, ?_⟩; all_goals (first | (simp only [WKB, seval, gfT_succ hlt, List.map_append, Nat.reduceLT, Nat.zero_lt_succ]; done) | (simp [WKB, seval, gfT_succ hlt, List.map_append]; done) | simp only [WKB, seval])))

end Go.Proofs.Ytcbnfkbnbdbfoaa
