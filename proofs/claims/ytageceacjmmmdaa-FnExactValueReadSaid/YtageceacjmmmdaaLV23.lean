/-
  The law FnExactValueRead returns true. No conditions of its own.
-/
import Derived.Test.YtageceacjmmmdaaGO
import Derived.Test.YtageceacjmmmdaaVR3
import Derived.Test.YtageceacjmmmdaaVR5
import Derived.Test.YtageceacjmmmdaaH2
import Derived.Test.YtageceacjmmmdaaSh
namespace Go.Proofs.Ytageceacjmmmdaa
set_option linter.unusedSimpArgs false
set_option linter.unusedVariables false
set_option linter.unusedSimpArgs false
set_option linter.unusedVariables false
set_option linter.defProp false
open Go.RowKit

theorem vrR_len (b : List UInt8) : ((vrR b).Vals).length ≤ 1048576 ∧ ((vrR b).EVals).length ≤ 1048576 ∧ ((vrR b).Next.Bits).length ≤ 1048576 := by
  cases h : vrB b with
  | false => rw [vr_no h]; simp
  | true =>
    rw [vr_yes h]
    have h1 := lsR_len (foD b 2) (vrS (foD b 2) (foB b 2) 3)
    have h2 := lsR_len (foD b 2) (vrS (foD b 2) (foB b 2) 4)
    have h3 := foD_len b 2
    unfold vrV
    simp only [List.length_drop]
    exact ⟨by omega, by omega, by omega⟩

set_option maxHeartbeats 16000000 in
theorem FnExactValueRead_k (b : List UInt8) (rb : b.length ≤ maxLen ∧ ∀ y ∈ b, (fun _ => True) y) : FnOK Try.prog 6 ⟨1, [(0, some (.ro (b.map bytK)))], [.c (.sl 0 1 0 b.length)], .c (.v (.bool true)), [], 1⟩ := by
  have q := rb.1
  simp only [maxLen] at q
  rcases Nat.lt_or_ge 1048576 b.length with h | h
  · have h0 := h
    refine fnOK_of true mixed Try.func6 rfl (by rfl) (by rfl) ?_
    have hres := congrArg Array.toList Try.results6
    simp only [Try.ntmps6, BGB, seval]
    (have gx := And.intro (@List.length_map.{0,0}) (And.intro @List.getElem_map.{0,0} @bytK.eq_1); refine go ?_; (repeat' (first | exact Ef.mk | refine Lf.mk ?_ ?_ | refine fun (K : KT) hK hE hT => ?_ | refine fun (KS : Eff → Prop) hKS => ?_ | refine fun (D : List Keys → Prop) hD => ?_ | refine fun (hg : (_ : Prop)) => ?_ | fail)); all_goals (first | (refine Wr.mk ?_; (try clear gx); repeat (first | (clear hK hE hT; clear K) | (clear hR hE hT; clear K))) | assumption | skip))
    (refine post_a hres (.inl rfl) ?_; simp only [RSB, ENB, seval, tiAll, true_and]; simp only [MAB, seval]; refine ⟨rfl, rfl, ?_, ?_, ?_⟩ <;> (first | rfl | (simp [WKB, Nat.add_comm, true_and]; done) | (simp only [WKB, seval])))
  · have ci := implValueRead_k b h
    have cs := specValueRead_k b h
    have lr := vrR_len b
    obtain ⟨r, hr⟩ : ∃ r, r = vrR b := ⟨_, rfl⟩
    obtain ⟨k, hk⟩ : ∃ k, k = vrB b := ⟨_, rfl⟩
    rw [← hr, ← hk] at ci cs
    rw [← hr] at lr
    clear hr hk
    have ec := eqValues_k r r lr lr
    rw [decide_eq_true rfl] at ec
    have eb := eqByteS_k b b (by omega) (by omega)
    rw [decide_eq_true rfl] at eb
    obtain ⟨l1, l2, l3⟩ := lr
    refine fnOK_of true mixed Try.func6 rfl (by rfl) (by rfl) ?_
    have hres := congrArg Array.toList Try.results6
    simp only [Try.ntmps6, BGB, seval]
    (have gx := And.intro (@List.length_map.{0,0}) (And.intro (@List.getElem_map.{0,0}) (And.intro (@bytK.eq_1) (And.intro @range_len @bne_self_eq_false.{0}))); have q1 := toByteS_k b h; have q2 := ci; have q3 := cs; have q4 := ec; have q5 := eb; have q6 := markByteS_k b 1; have q7 := markValues_k r 1; have q8 := heldValues_k r 1; refine go ?_; (repeat' (first | exact Ef.mk | refine Lf.mk ?_ ?_ | refine fun (K : KT) hK hE hT => ?_ | refine fun (KS : Eff → Prop) hKS => ?_ | refine fun (D : List Keys → Prop) hD => ?_ | refine fun (hg : (_ : Prop)) => ?_ | fail)); all_goals (first | (refine Wr.mk ?_; (try clear gx); (try clear q1 q2 q3 q4 q5 q6 q7 q8); repeat (first | (clear hK hE hT; clear K) | (clear hR hE hT; clear K))) | assumption | skip))
    all_goals (refine post_a hres (.inl rfl) ?_; simp only [RSB, ENB, seval, tiAll, true_and]; simp only [MAB, seval]; refine ⟨rfl, rfl, ?_, ?_, ?_⟩ <;> (first | rfl | (simp [WKB, Nat.add_comm, true_and]; done) | (simp only [WKB, seval])))

end Go.Proofs.Ytageceacjmmmdaa
