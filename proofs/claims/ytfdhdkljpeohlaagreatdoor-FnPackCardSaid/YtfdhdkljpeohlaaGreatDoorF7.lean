/-
  Contracts: the file of values, by the program. No conditions of its own.
-/
import Derived.Test.YtfdhdkljpeohlaaGreatDoorGO
import Derived.Test.YtfdhdkljpeohlaaGreatDoorZz5
namespace Go.Proofs.YtfdhdkljpeohlaaGreatDoor
set_option linter.unusedSimpArgs false
set_option linter.unusedVariables false
set_option linter.unusedSimpArgs false
set_option linter.unusedVariables false
set_option linter.defProp false
set_option maxRecDepth 20000
open Go.RowKit

set_option maxHeartbeats 16000000 in
theorem implValueFile_k (v : ValuesD) (h : (v.Vals).length ≤ 1048576 ∧ (v.EVals).length ≤ 1048576 ∧ (v.Next.Bits).length ≤ 1048576) : FnOK Tryz.prog 14 ⟨3, [(0, some (.ro ((v.Vals).map intK))), (1, some (.ro ((v.EVals).map intK))), (2, some (.ro ((v.Next.Bits).map bytK)))], [.agg [.v (.int .i64 v.Job.Prog), .v (.int .i64 v.Job.Src), .v (.int .i64 v.Iter), .sl 0 1 0 (v.Vals).length, .sl 1 1 0 (v.EVals).length, .v (.int .i64 v.Next.N), .sl 2 1 0 (v.Next.Bits).length]], .tup [.inl (.sl 3 1 0 (vfR v).length), .inl (.v (.bool (vfB v)))], [(3, some (.row 5 ((vfR v).map bytK)))], 4⟩ := by
  obtain ⟨q1, q2, q3⟩ := h
  have ci := implisProg_k v.Job.Prog
  have ca := areValues_k v.Vals (by omega)
  have cb := areValues_k v.EVals (by omega)
  have cs := implSetOk_k v.Next.N v.Next.Bits (by omega)
  have cl := implListBytes_k v.Vals (by omega)
  have cm := implListBytes_k v.EVals (by omega)
  by_cases hv : vfO v
  case neg =>
    obtain ⟨e1, e2⟩ := vf_no hv
    rw [e1, e2]
    refine fnOK_of true mixed Tryz.func14 rfl (by rfl) (by rfl) ?_
    have hres := congrArg Array.toList Tryz.results14
    simp only [Tryz.ntmps14, BGB, seval]
    (have gx := And.intro (@List.length_map.{0,0}) (And.intro @List.getElem_map.{0,0} @bytK.eq_1); have q1 := ci; have q2 := ca; have q3 := cb; have q4 := cs; have q5 := cl; have q6 := cm; refine go ?_; (repeat' first | exact Ef.mk | apply Lf.mk | refine fun (K : KT) hK hE hT => ?_ | refine fun (KS : KE) hKS => ?_ | refine fun (D : KD) hD => ?_ | refine fun (hg : (_ : Prop)) => ?_ | fail); all_goals (first | (refine Wr.mk ?_; (try clear gx q1 q2 q3 q4 q5 q6); repeat first | clear hK hE hT K | clear hR hE hT K) | assumption | skip))
    all_goals first
      | (exfalso; exact hv ⟨⟨by omega, by omega, by omega, by omega, by omega, by omega⟩, by assumption, by assumption, by assumption, by assumption, by assumption⟩)
      | (refine post_a hres (.inl rfl) ?_; simp only [RSB, ENB, seval, tiAll, true_and]; simp only [MAB, seval]; refine ⟨rfl, rfl, ?_, ?_, ?_⟩ <;> (first | rfl | (simp [WKB, Nat.add_comm, true_and]; done) | (simp only [WKB, seval])))
  case pos =>
    obtain ⟨e1, e2⟩ := vf_yes hv
    rw [e1, e2]
    obtain ⟨⟨p, s, i, n, hp, hs, hi, hn, bp, bs, bi, bn, bb⟩, _⟩ := vf_nats hv
    have hv' := hv
    obtain ⟨hc, h2, h3, h4, h5, h6⟩ := hv'
    unfold vfC at hc
    have m1 := lbL_len h5
    have m2 := lbL_len h6
    have w1 := varB_len7 (n := p) (by omega)
    have w2 := varB_len7 (n := s) (by omega)
    have w3 := varB_len7 (n := i) (by omega)
    have w4 := varB_len7 (n := n) (by omega)
    have ed : vfD v = varB p ++ varB s ++ varB i ++ lbL v.Vals ++ lbL v.EVals ++ varB n ++ v.Next.Bits := by
      unfold vfD vf1 vf0
      rw [hp, hs, hi, hn]
      rfl
    rw [ed]
    rw [h2] at ca
    rw [h3] at cb
    rw [h4] at cs
    rw [h5, lbR_yes h5] at cl
    rw [h6, lbR_yes h6] at cm
    rw [decide_eq_true (by omega)] at ci
    rw [hp] at ci
    rw [hn] at cs
    have d1 := putVar0_k p (by omega)
    have d2 := putVar_k (varB p) s (by omega) (by omega)
    have d3 := putVar_k (varB p ++ varB s) i (by rw [List.length_append]; omega) (by omega)
    have d4 := putVar_k (varB p ++ varB s ++ varB i ++ lbL v.Vals ++ lbL v.EVals) n (by simp only [List.length_append]; omega) (by omega)
    have d5 := implFrameBytes_k 2 (varB p ++ varB s ++ varB i ++ lbL v.Vals ++ lbL v.EVals ++ varB n ++ v.Next.Bits) (by omega) (by simp only [List.length_append]; omega)
    rw [show ((2 : Nat) : Int) = 2 from rfl] at d5
    simp only [List.length_append, List.map_append] at d2 d3 d4
    generalize hR : fbR 2 (varB p ++ varB s ++ varB i ++ lbL v.Vals ++ lbL v.EVals ++ varB n ++ v.Next.Bits) = R at *
    generalize hO : frO 2 (varB p ++ varB s ++ varB i ++ lbL v.Vals ++ lbL v.EVals ++ varB n ++ v.Next.Bits) = O at *
    simp only [List.length_append, List.map_append] at d5
    rw [hp, hs, hi, hn]
    have t3 : ((varB p).map bytK ++ (varB s).map bytK).take ((varB p).length + (varB s).length) = (varB p).map bytK ++ (varB s).map bytK := List.take_of_length_le (by simp only [List.length_append, List.length_map]; omega)
    have t6 : ((varB p).map bytK ++ (varB s).map bytK ++ (varB i).map bytK).take ((varB p).length + (varB s).length + (varB i).length) = (varB p).map bytK ++ (varB s).map bytK ++ (varB i).map bytK := List.take_of_length_le (by simp only [List.length_append, List.length_map]; omega)
    have t4 : ((varB p).map bytK ++ (varB s).map bytK ++ (varB i).map bytK ++ (lbL v.Vals).map bytK ++ (lbL v.EVals).map bytK).take ((varB p).length + (varB s).length + (varB i).length + (lbL v.Vals).length + (lbL v.EVals).length) = (varB p).map bytK ++ (varB s).map bytK ++ (varB i).map bytK ++ (lbL v.Vals).map bytK ++ (lbL v.EVals).map bytK := List.take_of_length_le (by simp only [List.length_append, List.length_map]; omega)
    have t5 : ((varB p).map bytK ++ (varB s).map bytK ++ (varB i).map bytK ++ (lbL v.Vals).map bytK ++ (lbL v.EVals).map bytK ++ (varB n).map bytK ++ (v.Next.Bits).map bytK).take ((varB p).length + (varB s).length + (varB i).length + (lbL v.Vals).length + (lbL v.EVals).length + (varB n).length + (v.Next.Bits).length) = (varB p).map bytK ++ (varB s).map bytK ++ (varB i).map bytK ++ (lbL v.Vals).map bytK ++ (lbL v.EVals).map bytK ++ (varB n).map bytK ++ (v.Next.Bits).map bytK := List.take_of_length_le (by simp only [List.length_append, List.length_map]; omega)
    have t3r := t3
    try simp only [List.append_assoc] at t3r
    have t6r := t6
    simp only [List.append_assoc] at t6r
    have t4r := t4
    simp only [List.append_assoc] at t4r
    have t5r := t5
    simp only [List.append_assoc] at t5r
    refine fnOK_of true mixed Tryz.func14 rfl (by rfl) (by rfl) ?_
    have hres := congrArg Array.toList Tryz.results14
    simp only [Tryz.ntmps14, BGB, seval]
    (have gx := And.intro (@List.length_map.{0,0}) (And.intro (@List.getElem_map.{0,0}) (And.intro (@bytK.eq_1) (And.intro (@List.map_append.{0,0}) (And.intro (@List.length_append.{0}) (And.intro (@map_take) (And.intro (@t3) (And.intro (@t4) (And.intro (@t5) (And.intro (@t6) (And.intro (@t3r) (And.intro (@t4r) (And.intro @t5r @t6r)))))))))))); have q1 := ci; have q2 := ca; have q3 := cb; have q4 := cs; have q5 := cl; have q6 := cm; have q7 := d1; have q8 := d2; have q9 := d3; have q10 := d4; have q11 := d5; refine go ?_; (repeat' first | exact Ef.mk | apply Lf.mk | refine fun (K : KT) hK hE hT => ?_ | refine fun (KS : KE) hKS => ?_ | refine fun (D : KD) hD => ?_ | refine fun (hg : (_ : Prop)) => ?_ | fail); all_goals (first | (refine Wr.mk ?_; (try clear gx q1 q2 q3 q4 q5 q6 q7 q8 q9 q10 q11); repeat first | clear hK hE hT K | clear hR hE hT K) | assumption | skip))
    (refine post_a hres (.inl rfl) ?_; simp only [RSB, ENB, seval, tiAll, true_and]; simp only [MAB, seval]; refine ⟨rfl, rfl, ?_, ?_, ?_⟩ <;> (first | rfl | (simp [WKB, Nat.add_comm, true_and]; done) | (simp only [WKB, seval])))

end Go.Proofs.YtfdhdkljpeohlaaGreatDoor

