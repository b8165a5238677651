/-
  The program's files: their size; whether an operation fits; an operation done. No conditions of its own.
-/
import Derived.Test.YtfnhchcgieeedaaGO
import Derived.Test.YtfnhchcgieeedaaDI2
import Derived.Test.YtfnhchcgieeedaaDK3
namespace Go.Proofs.Ytfnhchcgieeedaa
set_option linter.unusedSimpArgs false
set_option linter.unusedVariables false
set_option linter.unusedSimpArgs false
set_option linter.unusedVariables false
set_option linter.defProp false
set_option maxRecDepth 20000
open Go.RowKit

structure RgX (M : List FileD) where
  P : List FileD
  left : List UInt8 → Bool
  cnt : Nat
  inv : Rnd (RgI M P left)

set_option maxHeartbeats 8000000 in
theorem fsize_k (b : Nat) (M : List FileD) (hs : srtF M) (hb : byF M ≤ 1099511627776) : FnOK Try.prog 84 ⟨1, [(0, some (.gx [b] (mapS Try.prog 9 5 b M)))], [.c (.v (.map (some b)))], .c (.v (.int .i64 ((byF M : Nat) : Int))), [(0, some (.gx [b] (mapS Try.prog 9 5 b M)))], 1⟩ := by
  refine fnOK_of true mixed Try.func84 rfl (by rfl) (by rfl) ?_
  have hres := congrArg Array.toList Try.results84
  simp only [Try.ntmps84, BGB, seval]
  (have gx := true_and True; refine go ?_; (repeat' first | exact Ef.mk | apply Lf.mk | refine fun (K : KT) hK hE hT => ?_ | refine fun (KS : KE) hKS => ?_ | refine fun (D : KD) hD => ?_ | refine fun (hg : (_ : Prop)) => ?_ | fail); all_goals (first | (refine Wr.mk ?_; (try clear gx); repeat first | clear hK hE hT K | clear hR hE hT K) | assumption | skip))
  refine range_s msF (f := 0) rfl rfl (by decide) fun r cnt => ?_
  refine hKS _ _ _ _ ?_
  clear hKS; clear KS; simp only [EVB, seval]
  (have gx := true_and True; refine go ?_; (repeat' first | exact Ef.mk | apply Lf.mk | refine fun (K : KT) hK hE hT => ?_ | refine fun (KS : KE) hKS => ?_ | refine fun (D : KD) hD => ?_ | refine fun (hg : (_ : Prop)) => ?_ | fail); all_goals (first | (refine Wr.mk ?_; (try clear gx); repeat first | clear hK hE hT K | clear hR hE hT K) | assumption | skip))
  refine loop_v (X := RgX M) [] (fun x => [(3, .c (.v (.int .i64 ((byF x.P : Nat) : Int))))]) (fun x => [(0, some (.gx [b, r] (rangeS Try.prog 9 5 b r M x.left x.cnt)))]) 1 (fun x => x.cnt) ⟨[], _, cnt, ⟨rg_start⟩⟩ ?_
  simp only [KPB, seval]
  refine ⟨?_, ?_⟩
  · (refine wk_a ?_; simp only [MAB, seval]; refine ⟨rfl, rfl, (by decide), ?_, ?_⟩; all_goals (first | (simp only [WKB, seval, byF]; done) | (simp [WKB, seval, byF]; done) | simp only [WKB, seval]))
  · rintro ⟨P, left, cn, hi⟩ K hR hE hT
    have hby := rg_by hi.out
    (have gx := true_and True; refine go ?_; (repeat' first | exact Ef.mk | apply Lf.mk | refine fun (K : KT) hK hE hT => ?_ | refine fun (KS : KE) hKS => ?_ | refine fun (D : KD) hD => ?_ | refine fun (hg : (_ : Prop)) => ?_ | fail); all_goals (first | (refine Wr.mk ?_; (try clear gx); repeat first | clear hK hE hT K | clear hR hE hT K) | assumption | skip))
    refine next_s msF (f := 0) rfl rfl (by decide) (fun h0 => ?_) (fun s q c2 hz hq hlt => ?_)
    · have e := byF_perm (rg_end hi.out h0)
      refine hKS _ _ _ _ ?_
      clear hKS; clear KS; simp only [EVB, seval]
      (have gx := true_and True; refine go ?_; (repeat' first | exact Ef.mk | apply Lf.mk | refine fun (K : KT) hK hE hT => ?_ | refine fun (KS : KE) hKS => ?_ | refine fun (D : KD) hD => ?_ | refine fun (hg : (_ : Prop)) => ?_ | fail); all_goals (first | (refine Wr.mk ?_; (try clear gx); repeat first | clear hK hE hT K | clear hR hE hT K) | assumption | skip))
      refine post_w (wk_gx (f := 0) (S' := [b]) (φ' := mapS Try.prog 9 5 b M) rfl (by simp) fun F w h => range_map F w h) ?_
      simp only [EVB, seval]
      (refine post_a hres (.inl rfl) ?_; simp only [RSB, ENB, seval, tiAll, e]; simp only [MAB, seval]; refine ⟨rfl, rfl, ?_, ?_, ?_⟩ <;> (first | rfl | (simp [WKB, Nat.add_comm, e]; done) | (simp only [WKB, seval])))
    · have hn := rg_next hs hi.out hz hq
      have hby2 := rg_by hn
      have e := byF_app P [⟨s, q⟩]
      simp only [byF, Nat.add_zero] at e
      rw [e] at hby2
      refine hKS _ _ _ _ ?_
      clear hKS; clear KS; simp only [EVB, seval]
      (have gx := true_and True; refine go ?_; (repeat' first | exact Ef.mk | apply Lf.mk | refine fun (K : KT) hK hE hT => ?_ | refine fun (KS : KE) hKS => ?_ | refine fun (D : KD) hD => ?_ | refine fun (hg : (_ : Prop)) => ?_ | fail); all_goals (first | (refine Wr.mk ?_; (try clear gx); repeat first | clear hK hE hT K | clear hR hE hT K) | assumption | skip))
      refine entry_s (f := 0) rfl rfl ?_
      refine hKS _ _ _ _ ?_
      clear hKS; clear KS; simp only [EVB, seval]
      (have gx := @List.length_map.{0,0}; refine go ?_; (repeat' first | exact Ef.mk | apply Lf.mk | refine fun (K : KT) hK hE hT => ?_ | refine fun (KS : KE) hKS => ?_ | refine fun (D : KD) hD => ?_ | refine fun (hg : (_ : Prop)) => ?_ | fail); all_goals (first | (refine Wr.mk ?_; (try clear gx); repeat first | clear hK hE hT K | clear hR hE hT K) | assumption | skip))
      refine hR.out ⟨P ++ [⟨s, q⟩], _, c2, ⟨hn⟩⟩ _ _ _ (by simp only; omega) ?_
      refine Wk.trans (wk_gx (f := 0) (S' := [b, r]) (φ' := rangeS Try.prog 9 5 b r M (fun a => left a && !decide (a = s)) c2) rfl (by simp) fun F w h => h.1) ?_
      simp only [EVB, seval]
      (refine wk_a ?_; simp only [MAB, seval]; refine ⟨rfl, rfl, (by decide), ?_, ?_⟩; all_goals (first | (simp only [WKB, seval, e]; done) | (simp [WKB, seval, e]; done) | simp only [WKB, seval]))

end Go.Proofs.Ytfnhchcgieeedaa
