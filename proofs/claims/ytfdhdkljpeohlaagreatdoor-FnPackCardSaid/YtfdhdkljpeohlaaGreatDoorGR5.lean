/-
  Contract: a file of a farm is read by the program. No conditions of its own.
-/
import Derived.Test.YtfdhdkljpeohlaaGreatDoorGO
import Derived.Test.YtfdhdkljpeohlaaGreatDoorGR3
import Derived.Test.YtfdhdkljpeohlaaGreatDoorZz6
namespace Go.Proofs.YtfdhdkljpeohlaaGreatDoor
set_option linter.unusedSimpArgs false
set_option linter.unusedVariables false
set_option linter.unusedSimpArgs false
set_option linter.unusedVariables false
set_option linter.defProp false
set_option maxRecDepth 20000
open Go.RowKit
attribute [local irreducible] lexD

theorem shGo_len {b : List UInt8} : ∀ {m : Nat} {l : List SEdgeD} {z : SEdgeD} {s : RdS}, (s.ok = true → l.length + m ≤ 400) → l.length ≤ 400 → (shGo b m l z s).1.length ≤ 400
  | 0, _, _, _, _, h => h
  | m + 1, l, z, s, h1, h2 => by
    unfold shGo
    split
    · rename_i hs
      have := h1 hs
      exact shGo_len (fun _ => by simp; omega) (by simp; omega)
    · exact h2
theorem siD_len (b : List UInt8) (s : RdS) : (siD b s).Edges.length ≤ 400 := by
  show (siR b s).1.length ≤ 400
  unfold siR
  refine shGo_len (fun h => ?_) (by simp)
  have : siN b s ≤ 400 := by
    unfold siT at h
    split at h
    · cases h
    · omega
  simpa using this
theorem siS_adv {b : List UInt8} {p : Nat} (hp : p ≤ b.length) (h : (siS b ⟨p, true⟩).ok = true) : p + 3 ≤ (siS b ⟨p, true⟩).p := by
  have hk : shK b p = true := h
  obtain ⟨_, f2⟩ := sh_yes hk
  rcases sh_law (b := b) hp with ⟨_, h⟩ | ⟨_, _, h⟩ | ⟨_, _, _, _, _, a3, _⟩
  · rw [h] at hk; cases hk
  · rw [h] at hk; cases hk
  · omega

set_option maxHeartbeats 16000000 in
theorem implGraphRead_k (b : List UInt8) (hb : b.length ≤ 1048576) : FnOK Tryz.prog 6 ⟨1, [(0, some (.ro (b.map bytK)))], [.c (.sl 0 1 0 b.length)],
    .tup [.inr [.v (.int .i64 (grR b).N), .sl 1 1 0 ((grR b).Ends).length, .sl 2 3 0 ((grR b).Shards).length], .inl (.v (.bool (grB b)))], [(1, some (.row 3 (((grR b).Ends).map intK))), (2, some (.nst 39 (((grR b).Shards).map (ShardD.k 108)) none))], 3⟩ := by
  have co := implFrameOnly_k b 1 hb
  have lD := foD_len b 1
  have hP : grP b ↔ ((giR (foD b 1) ⟨0, foB b 1⟩).2.ok = true ∧ (giR (foD b 1) ⟨0, foB b 1⟩).2.p = (foD b 1).length ∧ FarmOk (giF (foD b 1) ⟨0, foB b 1⟩)) := Iff.rfl
  have hY := fun h => gr_yes (b := b) h
  have hN := fun h => gr_no (b := b) h
  have eF : giF (foD b 1) ⟨0, foB b 1⟩ = ⟨gvN (foD b 1) 0, hiE (giR (foD b 1) ⟨0, foB b 1⟩).1, (giR (foD b 1) ⟨0, foB b 1⟩).1⟩ := rfl
  rw [eF] at hP hY
  clear eF
  obtain ⟨r, hr⟩ : ∃ r, r = grR b := ⟨_, rfl⟩
  obtain ⟨q, hq⟩ : ∃ q, q = grB b := ⟨_, rfl⟩
  obtain ⟨P, hPd⟩ : ∃ P, P = grP b := ⟨_, rfl⟩
  rw [← hPd] at hP
  rw [← hq, ← hr, ← hPd] at hY hN
  rw [← hr, ← hq]
  clear hr hq hPd
  obtain ⟨D, hD⟩ : ∃ D, D = foD b 1 := ⟨_, rfl⟩
  obtain ⟨k, hk⟩ : ∃ k, k = foB b 1 := ⟨_, rfl⟩
  rw [← hD, ← hk] at co hP hY
  rw [← hD] at lD
  clear hD hk
  have w0 : (⟨0, k⟩ : RdS).p ≤ D.length := Nat.zero_le _
  have n1 := numW_k D ⟨0, k⟩ (by omega) w0
  have w1 := numS_le w0
  have n2 := numW_k D _ (by omega) w1
  have w2 := numS_le w1
  have hnm := gvN_max D (numS D ⟨0, k⟩).p
  have hRd : giR D ⟨0, k⟩ = fgGo D (giN D ⟨0, k⟩) [] (numS D (numS D ⟨0, k⟩)) := rfl
  have hn : gvN D (numS D ⟨0, k⟩).p = ((giN D ⟨0, k⟩ : Nat) : Int) := by unfold giN; omega
  rw [hn] at n2 hnm
  clear hn
  obtain ⟨R, hR0⟩ : ∃ R, R = giR D ⟨0, k⟩ := ⟨_, rfl⟩
  rw [← hR0] at hRd hP hY
  obtain ⟨n, hn'⟩ : ∃ n, n = giN D ⟨0, k⟩ := ⟨_, rfl⟩
  rw [← hn'] at hRd n2 hnm
  clear hR0 hn'
  dsimp only at n1
  obtain ⟨M, hM⟩ : ∃ M, M = gvN D 0 := ⟨_, rfl⟩
  rw [← hM] at n1 hP hY
  clear hM
  obtain ⟨z1, h1⟩ : ∃ z, z = numS D ⟨0, k⟩ := ⟨_, rfl⟩
  simp only [← h1] at n1 n2 w1 w2 hRd
  obtain ⟨z2, h2⟩ : ∃ z, z = numS D z1 := ⟨_, rfl⟩
  simp only [← h2] at n2 w2 hRd
  clear h1 h2
  refine fnOK_of true mixed Tryz.func6 rfl (by rfl) (by rfl) ?_
  have hres := congrArg Array.toList Tryz.results6
  simp only [Tryz.ntmps6, BGB, seval]
  (have gx := And.intro (@List.length_map.{0,0}) (And.intro (@List.getElem_map.{0,0}) (And.intro @bytK.eq_1 @List.length_map.{0,0})); have q1 := co; have q2 := n1; have q3 := n2; refine go ?_; (repeat' first | exact Ef.mk | apply Lf.mk | refine fun (K : KT) hK hE hT => ?_ | refine fun (KS : KE) hKS => ?_ | refine fun (D : KD) hD => ?_ | refine fun (hg : (_ : Prop)) => ?_ | fail); all_goals (first | (refine Wr.mk ?_; (try clear gx q1 q2 q3); repeat first | clear hK hE hT K | clear hR hE hT K) | assumption | skip))
  refine loop_v (X := {x : Nat × List ShardD × RdS // ((x.1 ≤ n ∧ x.2.1.length + x.1 = n) ∧ x.2.2.p ≤ D.length ∧ x.2.1.length ≤ D.length + 1) ∧ Rnd ((x.2.2.ok = true → x.2.1.length ≤ x.2.2.p) ∧ (∀ s ∈ x.2.1, s.Edges.length ≤ 400) ∧ fgGo D x.1 x.2.1 x.2.2 = R)}) [] (fun x => [(9, .c (.v (.int .i64 ((n : Int) - ((x.1.1 : Nat) : Int)))))]) (fun x => [(0, some (.ro (b.map bytK))), (1, some (.box 26 [.v (.int .i64 0), .nil, .nil])), (2, some (.row 5 (D.map bytK))), (3, some (.box 74 [.sl 2 1 0 D.length, .v (.int .i64 (x.1.2.2.p : Int)), .v (.bool x.1.2.2.ok)])), (4, some (.box 26 [.v (.int .i64 M), .sl 5 1 0 (hiE x.1.2.1).length, .sl 6 3 0 x.1.2.1.length])), (5, some (.row 3 ((hiE x.1.2.1).map intK))), (6, some (.nst 39 (x.1.2.1.map (ShardD.k 108)) none))]) 7 (fun x => x.1.1) ⟨(n, [], z2), ⟨⟨⟨Nat.le_refl _, by simp⟩, w2, by simp⟩, ⟨fun _ => by simp, fun s hs => by simp at hs, hRd.symm⟩⟩⟩ ?_
  simp only [KPB, seval]
  refine ⟨?_, ?_⟩
  · (refine wk_a ?_; simp only [MAB, seval]; refine ⟨rfl, rfl, (by decide), ?_, ?_⟩; all_goals (first | (simp only [WKB, seval, Int.sub_self, hiE, List.map_nil]; done) | (simp [WKB, seval, Int.sub_self, hiE, List.map_nil]; done) | simp only [WKB, seval]))
  · rintro ⟨⟨m, l, ⟨p, o⟩⟩, ⟨⟨⟨hm1, hm2⟩, hzp, hll⟩, hz⟩⟩ K hR hE hT
    obtain ⟨hz0, hz1, hz2⟩ := hz.out
    dsimp only at hm1 hm2 hzp hll hz0 hz1 hz2 ⊢
    have lh : (hiE l).length = l.length := by unfold hiE; rw [List.length_map]
    have cf := implFarmOk_k ⟨M, hiE l, l⟩ ⟨by dsimp only; omega, by dsimp only; omega, fun s hs => by have := hz1 s hs; omega⟩
    dsimp only at cf
    rw [lh] at cf ⊢
    have hexit : (o = false ∨ m = 0) → R = (l, ⟨p, o⟩) := by
      rintro (rfl | rfl)
      · rw [← hz2, fgGo_bad rfl]
      · exact hz2.symm
    cases o with
    | false =>
      have e := hexit (.inl rfl)
      rw [e] at hP
      obtain ⟨rfl, rfl⟩ := hN (fun h => by have := (hP.1 h).1; cases this)
      clear hP hY hN
      (have gx := And.intro (@List.length_map.{0,0}) (And.intro (@List.getElem_map.{0,0}) (And.intro (@bytK.eq_1) (And.intro @List.length_map.{0,0} @lh))); refine go ?_; (repeat' first | exact Ef.mk | apply Lf.mk | refine fun (K : KT) hK hE hT => ?_ | refine fun (KS : KE) hKS => ?_ | refine fun (D : KD) hD => ?_ | refine fun (hg : (_ : Prop)) => ?_ | fail); all_goals (first | (refine Wr.mk ?_; (try clear gx); repeat first | clear hK hE hT K | clear hR hE hT K) | assumption | skip))
      all_goals (refine post_a hres (.inl rfl) ?_; simp only [RSB, ENB, seval, tiAll, true_and]; simp only [MAB, seval]; refine ⟨rfl, rfl, ?_, ?_, ?_⟩ <;> (first | rfl | (simp [WKB, Nat.add_comm, true_and]; done) | (simp only [WKB, seval])))
    | true =>
      cases m with
      | zero =>
        have e := hexit (.inr rfl)
        rw [e] at hP hY
        dsimp only at hP hY
        by_cases hpl : p = D.length
        · by_cases ho : FarmOk ⟨M, hiE l, l⟩
          · obtain ⟨rfl, rfl⟩ := hY (hP.2 ⟨rfl, hpl, ho⟩)
            rw [pB_t ho] at cf
            clear hP hY hN
            (have gx := And.intro (@List.length_map.{0,0}) (And.intro (@List.getElem_map.{0,0}) (And.intro (@bytK.eq_1) (And.intro @List.length_map.{0,0} @lh))); have q1 := cf; refine go ?_; (repeat' first | exact Ef.mk | apply Lf.mk | refine fun (K : KT) hK hE hT => ?_ | refine fun (KS : KE) hKS => ?_ | refine fun (D : KD) hD => ?_ | refine fun (hg : (_ : Prop)) => ?_ | fail); all_goals (first | (refine Wr.mk ?_; (try clear gx q1); repeat first | clear hK hE hT K | clear hR hE hT K) | assumption | skip))
            all_goals first | (exfalso; omega) | (refine post_a hres (.inl rfl) ?_; simp only [RSB, ENB, seval, tiAll, lh]; simp only [MAB, seval]; refine ⟨rfl, rfl, ?_, ?_, ?_⟩ <;> (first | rfl | (simp [WKB, Nat.add_comm, lh]; done) | (simp only [WKB, seval])))
          · obtain ⟨rfl, rfl⟩ := hN (fun h => ho (hP.1 h).2.2)
            rw [pB_f ho] at cf
            clear hP hY hN
            (have gx := And.intro (@List.length_map.{0,0}) (And.intro (@List.getElem_map.{0,0}) (And.intro (@bytK.eq_1) (And.intro @List.length_map.{0,0} @lh))); have q1 := cf; refine go ?_; (repeat' first | exact Ef.mk | apply Lf.mk | refine fun (K : KT) hK hE hT => ?_ | refine fun (KS : KE) hKS => ?_ | refine fun (D : KD) hD => ?_ | refine fun (hg : (_ : Prop)) => ?_ | fail); all_goals (first | (refine Wr.mk ?_; (try clear gx q1); repeat first | clear hK hE hT K | clear hR hE hT K) | assumption | skip))
            all_goals first | (exfalso; omega) | (refine post_a hres (.inl rfl) ?_; simp only [RSB, ENB, seval, tiAll, true_and]; simp only [MAB, seval]; refine ⟨rfl, rfl, ?_, ?_, ?_⟩ <;> (first | rfl | (simp [WKB, Nat.add_comm, true_and]; done) | (simp only [WKB, seval])))
        · obtain ⟨rfl, rfl⟩ := hN (fun h => hpl (hP.1 h).2.1)
          clear hP hY hN
          (have gx := And.intro (@List.length_map.{0,0}) (And.intro (@List.getElem_map.{0,0}) (And.intro (@bytK.eq_1) (And.intro @List.length_map.{0,0} @lh))); have q1 := cf; refine go ?_; (repeat' first | exact Ef.mk | apply Lf.mk | refine fun (K : KT) hK hE hT => ?_ | refine fun (KS : KE) hKS => ?_ | refine fun (D : KD) hD => ?_ | refine fun (hg : (_ : Prop)) => ?_ | fail); all_goals (first | (refine Wr.mk ?_; (try clear gx q1); repeat first | clear hK hE hT K | clear hR hE hT K) | assumption | skip))
          all_goals first | (exfalso; omega) | (refine post_a hres (.inl rfl) ?_; simp only [RSB, ENB, seval, tiAll, true_and]; simp only [MAB, seval]; refine ⟨rfl, rfl, ?_, ?_, ?_⟩ <;> (first | rfl | (simp [WKB, Nat.add_comm, true_and]; done) | (simp only [WKB, seval])))
      | succ m =>
        rw [fgGo_step rfl] at hz2
        have cs := shardI_k D ⟨p, true⟩ lD hzp
        have hsl := siD_len D ⟨p, true⟩
        have hsp := siS_le (b := D) (s := ⟨p, true⟩) hzp
        have hsa := siS_adv (b := D) hzp
        have hz0' := hz0 rfl
        obtain ⟨Y, hYd⟩ : ∃ Y, Y = siD D ⟨p, true⟩ := ⟨_, rfl⟩
        obtain ⟨s2, hs2⟩ : ∃ s, s = siS D ⟨p, true⟩ := ⟨_, rfl⟩
        rw [← hYd] at cs hz2 hsl
        rw [← hs2] at cs hz2 hsp hsa
        clear hYd hs2 hP hY hN hexit
        have eE : hiE (l ++ [Y]) = hiE l ++ [Y.Hi] := by unfold hiE; rw [List.map_append]; rfl
        (have gx := And.intro (@List.length_map.{0,0}) (And.intro (@List.getElem_map.{0,0}) (And.intro (@bytK.eq_1) (And.intro (@List.length_map.{0,0}) (And.intro @lh @ShardD.k.eq_1)))); have q1 := cs; refine go ?_; (repeat' first | exact Ef.mk | apply Lf.mk | refine fun (K : KT) hK hE hT => ?_ | refine fun (KS : KE) hKS => ?_ | refine fun (D : KD) hD => ?_ | refine fun (hg : (_ : Prop)) => ?_ | fail); all_goals (first | (refine Wr.mk ?_; (try clear gx q1); repeat first | clear hK hE hT K | clear hR hE hT K) | assumption | skip))
        all_goals
          refine hR.out ⟨(m, l ++ [Y], s2), ⟨⟨⟨by omega, by simp; omega⟩, hsp, by simp; omega⟩, ⟨fun h => by have := hsa h; simp; omega, fun s hs => by rcases List.mem_append.1 hs with h | h; exact hz1 s h; rw [List.mem_singleton.1 h]; exact hsl, hz2⟩⟩⟩ _ _ _ (by simp only; omega) ?_
          have e5 : (n : Int) - ((m + 1 : Nat) : Int) + 1 = (n : Int) - (m : Int) := by omega
          (refine wk_a ?_; simp only [MAB, seval]; refine ⟨rfl, rfl, (by decide), ?_, ?_⟩; all_goals (first | (simp only [WKB, seval, e5, eE, lh, ShardD.k, intK, List.map_append, List.length_append, List.length_cons, List.length_nil, Nat.zero_add]; done) | (simp [WKB, seval, e5, eE, lh, ShardD.k, intK, List.map_append, List.length_append, List.length_cons, List.length_nil, Nat.zero_add]; done) | simp only [WKB, seval]))

end Go.Proofs.YtfdhdkljpeohlaaGreatDoor

