/-
  The program's files: a map out of a list, its size. No conditions of its own.
-/
import Derived.Test.YtfnhchcgieeedaaGO
import Derived.Test.YtfnhchcgieeedaaDK2
import Derived.Test.YtfnhchcgieeedaaE29
namespace Go.Proofs.Ytfnhchcgieeedaa
set_option linter.unusedSimpArgs false
set_option linter.unusedVariables false
set_option linter.unusedSimpArgs false
set_option linter.unusedVariables false
set_option linter.defProp false
set_option maxRecDepth 20000
open Go.RowKit

theorem msF : MS Try.prog 89 9 62 := ⟨by kernel_rfl, by kernel_rfl, fun w => by kernel_rfl⟩

section
variable {P : Program} {d : Option Tmp} {t tt : TypeId} {x y z : Operand} {pos : String} {af : Array Edge} {gu : Option (Nat × Bool)} {ev : Operand → SV} {H : Heap} {nx : Nat} {K : Eff → Prop} {cc : Bool} {ar : Array Operand} {ts : Array TypeId}
theorem lookS_go (h : oneK P ⟨d, .lookup t x y cc, tt, pos, af, gu⟩ ev H nx K) : oneK P ⟨d, .lookup t x y cc, tt, pos, af, gu⟩ ev H nx K := h
theorem updS_go (h : oneK P ⟨d, .mapUpdate t x y z, tt, pos, af, gu⟩ ev H nx K) : oneK P ⟨d, .mapUpdate t x y z, tt, pos, af, gu⟩ ev H nx K := h
end

set_option maxHeartbeats 8000000 in
theorem filesOf_k (l : List FileD) (hs : srtF l) (hl : l.length ≤ 1048576) (hn : ∀ f ∈ l, f.Name.length ≤ 1048576) (hd : ∀ f ∈ l, f.Data.length ≤ 1048576) :
    FnF Try.prog 70 1 [(0, some (.ro (l.map (FileD.k 5))))] [.c (.sl 0 2 0 l.length)] (fun b : Nat => .c (.v (.map (some b)))) (fun b => [(1, some (.gx [b] (mapS Try.prog 9 5 b l)))]) 2 ∧ Callable Try.prog 70 := by
  refine fnF_of true mixed Try.func70 rfl (by rfl) 0 (fun _ => by rfl) ?_
  have hres := congrArg Array.toList Try.results70
  simp only [Try.ntmps70, BGB, seval]
  (have gx := true_and True; refine go ?_; (repeat' first | exact Ef.mk | apply Lf.mk | refine fun (K : KT) hK hE hT => ?_ | refine fun (KS : KE) hKS => ?_ | refine fun (D : KD) hD => ?_ | refine fun (hg : (_ : Prop)) => ?_ | fail); all_goals (first | (refine Wr.mk ?_; (try clear gx); repeat first | clear hK hE hT K | clear hR hE hT K) | assumption | skip))
  refine makeMap_s (k := 9) (T := 5) fun b => ?_
  refine hKS _ _ _ _ ?_
  clear hKS; clear KS; simp only [EVB, seval]
  (have gx := @List.length_map.{0,0}; refine go ?_; (repeat' first | exact Ef.mk | apply Lf.mk | refine fun (K : KT) hK hE hT => ?_ | refine fun (KS : KE) hKS => ?_ | refine fun (D : KD) hD => ?_ | refine fun (hg : (_ : Prop)) => ?_ | fail); all_goals (first | (refine Wr.mk ?_; (try clear gx); repeat first | clear hK hE hT K | clear hR hE hT K) | assumption | skip))
  refine loop_v (X := {k : Nat // k ≤ l.length}) [] (fun x => [(9, .c (.v (.int .i64 ((x.1 : Nat) : Int))))]) (fun x => [(0, some (.ro (l.map (FileD.k 5)))), (1, some (.gx [b] (mapS Try.prog 9 5 b (l.take x.1))))]) 2 (fun x => l.length - x.1) ⟨0, by omega⟩ ?_
  simp only [KPB, seval]
  refine ⟨?_, ?_⟩
  · (refine wk_a ?_; simp only [MAB, seval]; refine ⟨rfl, rfl, (by decide), ?_, ?_⟩; all_goals (first | (simp only [WKB, seval, List.take_zero]; done) | (simp [WKB, seval, List.take_zero]; done) | simp only [WKB, seval]))
  · rintro ⟨k, hk⟩ K hR hE hT
    rcases Nat.lt_or_ge k l.length with hlt | hge
    case inr =>
      obtain rfl : k = l.length := by omega
      simp only [List.take_length]
      (have gx := @List.length_map.{0,0}; refine go ?_; (repeat' first | exact Ef.mk | apply Lf.mk | refine fun (K : KT) hK hE hT => ?_ | refine fun (KS : KE) hKS => ?_ | refine fun (D : KD) hD => ?_ | refine fun (hg : (_ : Prop)) => ?_ | fail); all_goals (first | (refine Wr.mk ?_; (try clear gx); repeat first | clear hK hE hT K | clear hR hE hT K) | assumption | skip))
      refine ⟨b, ?_⟩
      (refine post_a hres (.inl rfl) ?_; simp only [RSB, ENB, seval, tiAll, true_and]; simp only [MAB, seval]; refine ⟨rfl, rfl, ?_, ?_, ?_⟩ <;> (first | rfl | (simp [WKB, Nat.add_comm, true_and]; done) | (simp only [WKB, seval])))
    case inl =>
      have e := take_snoc hlt
      have hsk : srtF (l.take k ++ [l[k]]) := by rw [← e]; exact hs.sublist (List.take_sublist _ _)
      have hp := isPut_snoc hsk
      rw [← e] at hp
      have hnk := hn _ (List.getElem_mem hlt)
      have hdk := hd _ (List.getElem_mem hlt)
      have hlk : (l.take k).length ≤ 1048576 := by rw [List.length_take]; omega
      obtain ⟨f, hf⟩ : ∃ f, f = l[k] := ⟨_, rfl⟩
      rw [← hf] at hp hnk hdk
      (have gx := And.intro (@List.length_map.{0,0}) (And.intro (@List.getElem_map.{0,0}) (And.intro (hf).symm @FileD.k.eq_1)); refine go ?_; (repeat' first | exact Ef.mk | apply Lf.mk | refine fun (K : KT) hK hE hT => ?_ | refine fun (KS : KE) hKS => ?_ | refine fun (D : KD) hD => ?_ | refine fun (hg : (_ : Prop)) => ?_ | fail); all_goals (first | (refine Wr.mk ?_; (try clear gx); repeat first | clear hK hE hT K | clear hR hE hT K) | assumption | skip))
      refine upd_ro (f := 1) (g := 2) (M' := l.take (k + 1)) (q := f.Data) msF rfl rfl rfl rfl rfl (by simp [List.take_of_length_le]) (by simp) (by decide) hp (by unfold maxLen; omega) (by unfold maxLen; omega) ?_
      refine hKS _ _ _ _ ?_
      clear hKS; clear KS; simp only [EVB, seval]
      (have gx := @List.length_map.{0,0}; refine go ?_; (repeat' first | exact Ef.mk | apply Lf.mk | refine fun (K : KT) hK hE hT => ?_ | refine fun (KS : KE) hKS => ?_ | refine fun (D : KD) hD => ?_ | refine fun (hg : (_ : Prop)) => ?_ | fail); all_goals (first | (refine Wr.mk ?_; (try clear gx); repeat first | clear hK hE hT K | clear hR hE hT K) | assumption | skip))
      (refine hR.out ⟨k + 1, by omega⟩ _ _ _ (by simp only; omega) ?_; (refine wk_a ?_; simp only [MAB, seval]; refine ⟨rfl, rfl, (by decide), ?_, ?_⟩; all_goals (first | (simp only [WKB, seval, true_and]; done) | (simp [WKB, seval, true_and]; done) | simp only [WKB, seval])))

end Go.Proofs.Ytfnhchcgieeedaa
