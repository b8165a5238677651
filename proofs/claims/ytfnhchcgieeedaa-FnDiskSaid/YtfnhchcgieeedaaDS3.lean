/-
  The reference's files: an operation done. No conditions of its own.
-/
import Derived.Test.YtfnhchcgieeedaaGO
import Derived.Test.YtfnhchcgieeedaaDS2
import Derived.Test.YtfnhchcgieeedaaDI5
namespace Go.Proofs.Ytfnhchcgieeedaa
set_option linter.unusedSimpArgs false
set_option linter.unusedVariables false
set_option linter.unusedSimpArgs false
set_option linter.unusedVariables false
set_option linter.defProp false
set_option maxRecDepth 20000
open Go.RowKit

theorem l02With_b (l : List FileD) (y : FileD) (h : l.length ≤ 1048576) (hy : y.Data.length ≤ 1048576) : FnOK Try.prog 115 ⟨2, [(0, some (.ro (l.map (FileD.k 5)))), (1, some (.row 5 (y.Data.map bytK)))], [.c (.sl 0 2 0 l.length), .agg [.v (.string (txt y.Name)), .sl 1 1 0 y.Data.length]], .c (.sl 2 2 0 (withF l y).length), [(1, none), (2, some (.mix 95 ((withF l y).map (FileD.k 5))))], 3⟩ :=
  FnOK.give (i := 1) (l02With_k l y h hy) rfl (by decide) (.inl ⟨_, rfl⟩) (by simp) fun g b hb => by
    simp at hb
    obtain ⟨rfl, rfl⟩ := hb
    exact ⟨by decide, trivial⟩
theorem l02With_c (l : List FileD) (y : FileD) (h : l.length ≤ 1048576) (hy : y.Data.length ≤ 1048576) : FnOK Try.prog 115 ⟨2, [(0, some (.mix 95 (l.map (FileD.k 5)))), (1, some (.row 5 (y.Data.map bytK)))], [.c (.sl 0 2 0 l.length), .agg [.v (.string (txt y.Name)), .sl 1 1 0 y.Data.length]], .c (.sl 2 2 0 (withF l y).length), [(0, none), (1, none), (2, some (.mix 95 ((withF l y).map (FileD.k 5))))], 3⟩ :=
  FnOK.give (i := 0) (l02With_b l y h hy) rfl (by decide) (.inr (.inr ⟨_, rfl⟩)) (by simp) fun g b hb => by
    simp at hb
    obtain ⟨rfl, rfl⟩ := hb
    exact ⟨by decide, trivial⟩

set_option maxHeartbeats 8000000 in
theorem l02Make_k (l : List FileD) (o : FsOpD) (h : l.length ≤ 1048576) (hd : ∀ f ∈ l, f.Data.length ≤ 524288) (ho : o.Data.length ≤ 524288) (hk : 1 ≤ o.Kind ∧ o.Kind ≤ 4) (hf : fitsF l o = true) :
    FnOK Try.prog 69 ⟨2, [(0, some (.ro (l.map (FileD.k 5)))), (1, some (.ro (o.Data.map bytK)))], [.c (.sl 0 2 0 l.length), .agg [.v (.int .i64 o.Kind), .v (.string (txt o.Name)), .v (.string (txt o.To)), .sl 1 1 0 (o.Data).length]], .c (.sl 2 2 0 (mkF l o).length), [(2, some (.mix 95 ((mkF l o).map (FileD.k 5))))], 3⟩ := by
  have tD : List.take o.Data.length (List.map bytK o.Data) = List.map bytK o.Data := List.take_of_length_le (by rw [List.length_map]; exact Nat.le_refl _)
  rcases (by omega : o.Kind = 1 ∨ o.Kind = 2 ∨ o.Kind = 3 ∨ o.Kind = 4) with h1 | h1 | h1 | h1
  · have e : mkF l o = withF l ⟨o.Name, []⟩ := by unfold mkF; rw [if_pos h1]
    rw [e]
    have cw := l02With_k l ⟨o.Name, []⟩ h (by simp)
    obtain ⟨R, hR⟩ : ∃ R, R = withF l ⟨o.Name, []⟩ := ⟨_, rfl⟩
    rw [← hR] at cw ⊢
    simp only [List.map_nil, List.length_nil] at cw
    refine fnOK_of true mixed Try.func69 rfl (by rfl) (by rfl) ?_
    have hres := congrArg Array.toList Try.results69
    simp only [Try.ntmps69, BGB, seval]
    (have gx := And.intro @List.length_map.{0,0} @h1; have q1 := cw; refine go ?_; (repeat' first | exact Ef.mk | apply Lf.mk | refine fun (K : KT) hK hE hT => ?_ | refine fun (KS : KE) hKS => ?_ | refine fun (D : KD) hD => ?_ | refine fun (hg : (_ : Prop)) => ?_ | fail); all_goals (first | (refine Wr.mk ?_; (try clear gx q1); repeat first | clear hK hE hT K | clear hR hE hT K) | assumption | skip))
    (refine post_a hres (.inl rfl) ?_; simp only [RSB, ENB, seval, tiAll, true_and]; simp only [MAB, seval]; refine ⟨rfl, rfl, ?_, ?_, ?_⟩ <;> (first | rfl | (simp [WKB, Nat.add_comm, true_and]; done) | (simp only [WKB, seval])))
  · obtain ⟨q, hq⟩ : ∃ q, lkF l o.Name = some q := by
      unfold fitsF at hf
      rw [if_neg (by omega), if_neg (by omega)] at hf
      exact Option.isSome_iff_exists.1 hf
    have e : mkF l o = withF l ⟨o.Name, q ++ o.Data⟩ := by unfold mkF; rw [if_neg (by omega), if_pos h1, hq]; rfl
    rw [e]
    rcases atF_spec l o.Name with ⟨_, h3⟩ | ⟨k, hkl, ha, h3⟩
    · rw [h3] at hq; cases hq
    rw [h3] at hq
    obtain rfl := Option.some.inj hq
    have hlq := hd _ (List.getElem_mem hkl)
    have ca := l02At_k l o.Name (by omega)
    rw [ha] at ca
    have cw := l02With_b l ⟨o.Name, l[k].Data ++ o.Data⟩ h (by simp only [List.length_append]; omega)
    obtain ⟨R, hR⟩ : ∃ R, R = withF l ⟨o.Name, l[k].Data ++ o.Data⟩ := ⟨_, rfl⟩
    rw [← hR] at cw ⊢
    obtain ⟨f, hff⟩ : ∃ f, f = l[k] := ⟨_, rfl⟩
    rw [← hff] at cw hlq
    have tF : List.take f.Data.length (List.map bytK f.Data) = List.map bytK f.Data := List.take_of_length_le (by rw [List.length_map]; exact Nat.le_refl _)
    have hl2 : (f.Data ++ o.Data).length = f.Data.length + o.Data.length := List.length_append
    dsimp only at cw
    rw [hl2, List.map_append] at cw
    refine fnOK_of true mixed Try.func69 rfl (by rfl) (by rfl) ?_
    have hres := congrArg Array.toList Try.results69
    simp only [Try.ntmps69, BGB, seval]
    (have gx := And.intro (@List.length_map.{0,0}) (And.intro (@List.getElem_map.{0,0}) (And.intro ((hff).symm) (And.intro (@FileD.k.eq_1) (And.intro (@h1) (And.intro (@tD) (And.intro @tF @List.nil_append.{0})))))); have q1 := ca; have q2 := cw; refine go ?_; (repeat' first | exact Ef.mk | apply Lf.mk | refine fun (K : KT) hK hE hT => ?_ | refine fun (KS : KE) hKS => ?_ | refine fun (D : KD) hD => ?_ | refine fun (hg : (_ : Prop)) => ?_ | fail); all_goals (first | (refine Wr.mk ?_; (try clear gx q1 q2); repeat first | clear hK hE hT K | clear hR hE hT K) | assumption | skip))
    (refine post_a hres (.inl rfl) ?_; simp only [RSB, ENB, seval, tiAll, true_and]; simp only [MAB, seval]; refine ⟨rfl, rfl, ?_, ?_, ?_⟩ <;> (first | rfl | (simp [WKB, Nat.add_comm, true_and]; done) | (simp only [WKB, seval])))
  · obtain ⟨q, hq⟩ : ∃ q, lkF l o.Name = some q := by
      unfold fitsF at hf
      rw [if_neg (by omega), if_pos h1, Bool.and_eq_true] at hf
      exact Option.isSome_iff_exists.1 hf.1
    have e : mkF l o = withF (lessF l o.Name) ⟨o.To, q⟩ := by unfold mkF; rw [if_neg (by omega), if_neg (by omega), if_pos h1, hq]; rfl
    rw [e]
    rcases atF_spec l o.Name with ⟨_, h3⟩ | ⟨k, hkl, ha, h3⟩
    · rw [h3] at hq; cases hq
    rw [h3] at hq
    obtain rfl := Option.some.inj hq
    have hlq := hd _ (List.getElem_mem hkl)
    have ca := l02At_k l o.Name (by omega)
    rw [ha] at ca
    have cl := l02Less_k l o.Name h
    have hle := lessF_le l o.Name
    have cw := l02With_c (lessF l o.Name) ⟨o.To, l[k].Data⟩ (by omega) (by simp only; omega)
    obtain ⟨R, hR⟩ : ∃ R, R = withF (lessF l o.Name) ⟨o.To, l[k].Data⟩ := ⟨_, rfl⟩
    rw [← hR] at cw ⊢
    obtain ⟨f, hff⟩ : ∃ f, f = l[k] := ⟨_, rfl⟩
    rw [← hff] at cw hlq
    obtain ⟨m, hm⟩ : ∃ m, m = lessF l o.Name := ⟨_, rfl⟩
    rw [← hm] at cw cl hle
    have tF : List.take f.Data.length (List.map bytK f.Data) = List.map bytK f.Data := List.take_of_length_le (by rw [List.length_map]; exact Nat.le_refl _)
    dsimp only at cw
    refine fnOK_of true mixed Try.func69 rfl (by rfl) (by rfl) ?_
    have hres := congrArg Array.toList Try.results69
    simp only [Try.ntmps69, BGB, seval]
    (have gx := And.intro (@List.length_map.{0,0}) (And.intro (@List.getElem_map.{0,0}) (And.intro ((hff).symm) (And.intro (@FileD.k.eq_1) (And.intro (@h1) (And.intro (@tD) (And.intro @tF @List.nil_append.{0})))))); have q1 := ca; have q2 := cl; have q3 := cw; refine go ?_; (repeat' first | exact Ef.mk | apply Lf.mk | refine fun (K : KT) hK hE hT => ?_ | refine fun (KS : KE) hKS => ?_ | refine fun (D : KD) hD => ?_ | refine fun (hg : (_ : Prop)) => ?_ | fail); all_goals (first | (refine Wr.mk ?_; (try clear gx q1 q2 q3); repeat first | clear hK hE hT K | clear hR hE hT K) | assumption | skip))
    (refine post_a hres (.inl rfl) ?_; simp only [RSB, ENB, seval, tiAll, true_and]; simp only [MAB, seval]; refine ⟨rfl, rfl, ?_, ?_, ?_⟩ <;> (first | rfl | (simp [WKB, Nat.add_comm, true_and]; done) | (simp only [WKB, seval])))
  · have e : mkF l o = lessF l o.Name := by unfold mkF; rw [if_neg (by omega), if_neg (by omega), if_neg (by omega)]
    rw [e]
    have cl := l02Less_k l o.Name h
    refine fnOK_of true mixed Try.func69 rfl (by rfl) (by rfl) ?_
    have hres := congrArg Array.toList Try.results69
    simp only [Try.ntmps69, BGB, seval]
    (have gx := And.intro @List.length_map.{0,0} @h1; have q1 := cl; refine go ?_; (repeat' first | exact Ef.mk | apply Lf.mk | refine fun (K : KT) hK hE hT => ?_ | refine fun (KS : KE) hKS => ?_ | refine fun (D : KD) hD => ?_ | refine fun (hg : (_ : Prop)) => ?_ | fail); all_goals (first | (refine Wr.mk ?_; (try clear gx q1); repeat first | clear hK hE hT K | clear hR hE hT K) | assumption | skip))
    (refine post_a hres (.inl rfl) ?_; simp only [RSB, ENB, seval, tiAll, true_and]; simp only [MAB, seval]; refine ⟨rfl, rfl, ?_, ?_, ?_⟩ <;> (first | rfl | (simp [WKB, Nat.add_comm, true_and]; done) | (simp only [WKB, seval])))

end Go.Proofs.Ytfnhchcgieeedaa
