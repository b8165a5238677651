/-
  The law FnWindows returns true. No conditions of its own.
-/
import Derived.Test.YtfdhdkljpeohlaaGreatGO
import Derived.Test.YtfdhdkljpeohlaaGreatFW7
import Derived.Test.YtfdhdkljpeohlaaGreatFI3
import Derived.Test.YtfdhdkljpeohlaaGreatMWI
import Derived.Test.YtfdhdkljpeohlaaGreatMDQ
import Derived.Test.YtfdhdkljpeohlaaGreatSh
namespace Go.Proofs.YtfdhdkljpeohlaaGreat
set_option linter.unusedSimpArgs false
set_option linter.unusedVariables false
set_option linter.unusedSimpArgs false
set_option linter.unusedVariables false
set_option linter.defProp false
set_option maxRecDepth 20000
open Go.RowKit

set_option maxHeartbeats 16000000 in
theorem FnWindows_k (b : List UInt8) (rb : b.length ≤ maxLen ∧ ∀ y ∈ b, (fun _ => True) y) : FnOK Tryz.prog 3 ⟨1, [(0, some (.ro (b.map bytK)))], [.c (.sl 0 1 0 b.length)], .c (.v (.bool true)), [], 1⟩ := by
  have q := rb.1
  simp only [maxLen] at q
  rcases Nat.lt_or_ge 1048576 b.length with h | h
  · have h0 := h
    refine fnOK_of true mixed Tryz.func3 rfl (by rfl) (by rfl) ?_
    have hres := congrArg Array.toList Tryz.results3
    simp only [Tryz.ntmps3, BGB, seval]
    (have gx := And.intro (@List.length_map.{0,0}) (And.intro @List.getElem_map.{0,0} @bytK.eq_1); refine go ?_; (repeat' first | exact Ef.mk | apply Lf.mk | refine fun (K : KT) hK hE hT => ?_ | refine fun (KS : KE) hKS => ?_ | refine fun (D : KD) hD => ?_ | refine fun (hg : (_ : Prop)) => ?_ | fail); all_goals (first | (refine Wr.mk ?_; (try clear gx); repeat first | clear hK hE hT K | clear hR hE hT K) | assumption | skip))
    (refine post_a hres (.inl rfl) ?_; simp only [RSB, ENB, seval, tiAll, true_and]; simp only [MAB, seval]; refine ⟨rfl, rfl, ?_, ?_, ?_⟩ <;> (first | rfl | (simp [WKB, Nat.add_comm, true_and]; done) | (simp only [WKB, seval])))
  · have km := makeFRun_k b h
    obtain ⟨_, ho, e1, e2, hit⟩ := wfF_ok b (newC b)
    obtain ⟨f, hf⟩ : ∃ f, f = wfF b (newC b) := ⟨_, rfl⟩
    rw [← hf] at km ho e1 e2 hit
    clear hf
    have hin := fr_in ho
    have sm := frin_sm hin
    have L := sm_L sm
    have ci := implFIter_k f L
    have cg := specFarmGraph_k f.Farm ⟨L.2.2.1, L.2.2.2⟩
    have cb := specBack_k f L
    rw [bk_yes ho] at cb
    have hgl := fgR_len f.Farm
    have hrs := runOk_small ho.2
    have cr := implRunIter_k (fgR f.Farm) (frunR f) (by omega) (by omega)
    have hro := riOk_eq ho.2 (show f.Iter < 1000 by omega)
    have c9 := implFRunOk_k f L
    rw [pB_t ho] at c9
    cases hd : f.Done with
    | true =>
      have n1 : ¬ fiOk f := fun x => by have := x.2.1; rw [hd] at this; cases this
      obtain ⟨x1, x2⟩ := fi_no n1
      have n2 : riOk (fgR f.Farm) (frunR f) = false := by rw [hro]; show (!f.Done) = false; rw [hd]; rfl
      have n3 : riR (fgR f.Farm) (frunR f) = zeroRun := by unfold riR; rw [n2]; rfl
      rw [x1, x2, pB_f n1] at ci
      rw [n2, n3] at cr
      obtain ⟨L0, L1, L2', L3, L4⟩ := L
      refine fnOK_of true mixed Tryz.func3 rfl (by rfl) (by rfl) ?_
      have hres := congrArg Array.toList Tryz.results3
      simp only [Tryz.ntmps3, BGB, seval]
      (have gx := And.intro (@List.length_map.{0,0}) (And.intro (@List.getElem_map.{0,0}) (And.intro (@bytK.eq_1) (And.intro @List.length_map.{0,0} @hd))); have q1 := km; have q2 := ci; have q3 := cg; have q4 := cb; have q5 := cr; have q6 := c9; refine go ?_; (repeat' first | exact Ef.mk | apply Lf.mk | refine fun (K : KT) hK hE hT => ?_ | refine fun (KS : KE) hKS => ?_ | refine fun (D : KD) hD => ?_ | refine fun (hg : (_ : Prop)) => ?_ | fail); all_goals (first | (refine Wr.mk ?_; (try clear gx q1 q2 q3 q4 q5 q6); repeat first | clear hK hE hT K | clear hR hE hT K) | assumption | skip))
      all_goals (refine post_a hres (.inl rfl) ?_; simp only [RSB, ENB, seval, tiAll, true_and]; simp only [MAB, seval]; refine ⟨rfl, rfl, ?_, ?_, ?_⟩ <;> (first | rfl | (simp [WKB, Nat.add_comm, true_and]; done) | (simp only [WKB, seval])))
    | false =>
      have n1 : fiOk f := ⟨ho, hd, by omega⟩
      obtain ⟨y1, y2, y3, y4⟩ := wh_end n1
      have hfo := frOk_fi n1
      have sm2 := fiR_sm f
      have L2 := sm_L sm2
      have cn := implFRunOk_k (fiR f) L2
      rw [pB_t hfo] at cn
      have ck := implBack_k (fiR f) L2
      rw [bk_yes hfo, y2] at ck
      rw [y1] at cr
      have hemp : f.Done = emptyL f.Next.Bits := (runOk_in ho.2).2.2
      obtain ⟨v, hv, hb⟩ := emptyL_not hin.so (by rw [← hemp]; exact hd)
      have hld := ld_pos hin hv hb
      have e5 := (fi_yes n1).2
      rw [e5, pB_t n1] at ci
      have hsm := ri_small (fgR f.Farm) (frunR f)
      have ce := sameRun_k (riR (fgR f.Farm) (frunR f)) (by omega)
      obtain ⟨L0, L1, L2', L3, L4⟩ := L
      obtain ⟨M0, M1, M2', M3, M4⟩ := L2
      generalize fiR f = F at *
      generalize riR (fgR f.Farm) (frunR f) = R at *
      refine fnOK_of true mixed Tryz.func3 rfl (by rfl) (by rfl) ?_
      have hres := congrArg Array.toList Tryz.results3
      simp only [Tryz.ntmps3, BGB, seval]
      (have gx := And.intro (@List.length_map.{0,0}) (And.intro (@List.getElem_map.{0,0}) (And.intro (@bytK.eq_1) (And.intro @List.length_map.{0,0} @hd))); have q1 := km; have q2 := ci; have q3 := cg; have q4 := cb; have q5 := cr; have q6 := ck; have q7 := ce; have q8 := cn; refine go ?_; (repeat' first | exact Ef.mk | apply Lf.mk | refine fun (K : KT) hK hE hT => ?_ | refine fun (KS : KE) hKS => ?_ | refine fun (D : KD) hD => ?_ | refine fun (hg : (_ : Prop)) => ?_ | fail); all_goals (first | (refine Wr.mk ?_; (try clear gx q1 q2 q3 q4 q5 q6 q7 q8); repeat first | clear hK hE hT K | clear hR hE hT K) | assumption | skip))
      all_goals first | (exfalso; omega) | (refine post_a hres (.inl rfl) ?_; simp only [RSB, ENB, seval, tiAll, true_and]; simp only [MAB, seval]; refine ⟨rfl, rfl, ?_, ?_, ?_⟩ <;> (first | rfl | (simp [WKB, Nat.add_comm, true_and]; done) | (simp only [WKB, seval])))

end Go.Proofs.YtfdhdkljpeohlaaGreat

