/-
  The library's quicksort over a row of at most twelve, by any comparison: it sorts by insertion. No conditions of its own.
-/
import Derived.Test.YtfnhchcgieeedaaGreatGO
import Derived.Test.YtfnhchcgieeedaaGreatZz2
import Derived.Sort.Walk13a
namespace Go.Proofs.YtfnhchcgieeedaaGreat
set_option linter.unusedSimpArgs false
set_option linter.unusedVariables false
set_option linter.unusedSimpArgs false
set_option linter.unusedVariables false
set_option linter.defProp false
set_option maxRecDepth 20000
open Go.RowKit

section
variable {α : Type} [Inhabited α] {lt : α → α → Bool} {S : List Nat} {Φ : Array α → World → Prop} {LF SF : Value} {n : Nat}

set_option maxHeartbeats 8000000 in
theorem pdqS_k (hC : SrtC Tryz.prog lt S Φ LF SF n) (hn : n ≤ 12) (d : Array α) (hd : d.size = n) (limit : Nat) :
    FnOK Tryz.prog 82 ⟨1, [(0, some (.gh S (Φ d)))], [.agg [.v LF, .v SF], .c (.v (.int .i64 0)), .c (.v (.int .i64 (n : Int))), .c (.v (.int .i64 (limit : Int)))], .tup [], [(0, some (.gh S (Φ (Go.Sort.pdq lt d 0 n limit true true))))], 1⟩ := by
  have o1 := hC.one1
  have o2 := hC.one2
  rw [Go.Sort.pdq_small (show n - 0 ≤ 12 by omega)]
  have ki := insertion_k hC d hd 0 n (by omega) (by omega) (by omega)
  rw [show ((0 : Nat) : Int) = 0 from rfl] at ki
  refine fnOK_of true mixed Tryz.func82 rfl (by rfl) (by rfl) ?_
  have hres := congrArg Array.toList Tryz.results82
  simp only [Tryz.ntmps82, BGB, seval]
  (have gx := And.intro (@tiLS) (And.intro (@tiL1) (And.intro (@tiL2) (And.intro @o1 @o2))); refine go ?_; (repeat' first | exact Ef.mk | apply Lf.mk | refine fun (K : KT) hK hE hT => ?_ | refine fun (KS : KE) hKS => ?_ | refine fun (D : KD) hD => ?_ | refine fun (hg : (_ : Prop)) => ?_ | fail); all_goals (first | (refine Wr.mk ?_; (try clear gx); repeat first | clear hK hE hT K | clear hR hE hT K) | assumption | skip))
  refine loop_v (X := Unit) [] (fun x => [(1, .c (.v (.int .i64 0))), (2, .c (.v (.int .i64 (n : Int)))), (3, .c (.v (.int .i64 (limit : Int)))), (8, .c (.v (.bool true))), (9, .c (.v (.bool true)))]) (fun x => [(0, some (.gh S (Φ d))), (1, some (.box 160 [.v LF, .v SF]))]) 2 (fun x => 0) () ?_
  simp only [KPB, seval]
  refine ⟨?_, ?_⟩
  · (refine wk_a ?_; simp only [MAB, seval]; refine ⟨rfl, rfl, (by decide), ?_, ?_⟩; all_goals (first | (simp only [WKB, seval, true_and]; done) | (simp [WKB, seval, true_and]; done) | simp only [WKB, seval]))
  · rintro ⟨⟩ K hR0 hE hT
    (have gx := And.intro (@tiLS) (And.intro @tiL1 @tiL2); refine go ?_; (repeat' first | exact Ef.mk | apply Lf.mk | refine fun (K : KT) hK hE hT => ?_ | refine fun (KS : KE) hKS => ?_ | refine fun (D : KD) hD => ?_ | refine fun (hg : (_ : Prop)) => ?_ | fail); all_goals (first | (refine Wr.mk ?_; (try clear gx); repeat first | clear hK hE hT K | clear hR hE hT K) | assumption | skip))
    refine call_k [.same 0] (ki) rfl rfl rfl (fits_of _ rfl (by simp [CXB]) (by simp [CXB]) rfl (by simp [CXB]) (by simp [CXB]) (by dsimp only; omega)) ?_
    simp only [EFB, seval]
    refine hKS _ _ _ _ ?_
    clear hKS; clear KS; simp only [EVB, seval]
    (have gx := And.intro (@tiLS) (And.intro @tiL1 @tiL2); refine go ?_; (repeat' first | exact Ef.mk | apply Lf.mk | refine fun (K : KT) hK hE hT => ?_ | refine fun (KS : KE) hKS => ?_ | refine fun (D : KD) hD => ?_ | refine fun (hg : (_ : Prop)) => ?_ | fail); all_goals (first | (refine Wr.mk ?_; (try clear gx); repeat first | clear hK hE hT K | clear hR hE hT K) | assumption | skip))
    (refine post_a hres (.inl rfl) ?_; simp only [RSB, ENB, seval, tiAll, true_and]; simp only [MAB, seval]; refine ⟨rfl, rfl, ?_, ?_, ?_⟩ <;> (first | rfl | (simp [WKB, Nat.add_comm, true_and]; done) | (simp only [WKB, seval])))
end

end Go.Proofs.YtfnhchcgieeedaaGreat

