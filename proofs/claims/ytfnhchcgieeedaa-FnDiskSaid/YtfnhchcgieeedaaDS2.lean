/-
  The reference's files: a file put in; whether an operation fits. No conditions of its own.
-/
import Derived.Test.YtfnhchcgieeedaaGO
import Derived.Test.YtfnhchcgieeedaaDS1
import Derived.Test.YtfnhchcgieeedaaDH3
namespace Go.Proofs.Ytfnhchcgieeedaa
set_option linter.unusedSimpArgs false
set_option linter.unusedVariables false
set_option linter.unusedSimpArgs false
set_option linter.unusedVariables false
set_option linter.defProp false
set_option maxRecDepth 20000
open Go.RowKit

set_option maxHeartbeats 8000000 in
theorem l02With_k (l : List FileD) (y : FileD) (h : l.length ≤ 1048576) (hy : y.Data.length ≤ 1048576) : FnOK Try.prog 115 ⟨2, [(0, some (.ro (l.map (FileD.k 5)))), (1, some (.ro (y.Data.map bytK)))], [.c (.sl 0 2 0 l.length), .agg [.v (.string (txt y.Name)), .sl 1 1 0 y.Data.length]], .c (.sl 2 2 0 (withF l y).length), [(2, some (.mix 95 ((withF l y).map (FileD.k 5))))], 3⟩ := by
  have cl := l02Less_k l y.Name h
  have hle := lessF_le l y.Name
  have tY : List.take y.Data.length (List.map bytK y.Data) = List.map bytK y.Data := List.take_of_length_le (by rw [List.length_map]; exact Nat.le_refl _)
  have eW : withF l y = insF y (lessF l y.Name) := rfl
  rw [eW]
  clear eW
  obtain ⟨m, hm⟩ : ∃ m, m = lessF l y.Name := ⟨_, rfl⟩
  rw [← hm] at cl hle ⊢
  have hend := insP_end y m
  refine fnOK_of true mixed Try.func115 rfl (by rfl) (by rfl) ?_
  have hres := congrArg Array.toList Try.results115
  simp only [Try.ntmps115, BGB, seval]
  (have gx := @List.length_map.{0,0}; have q1 := cl; refine go ?_; (repeat' first | exact Ef.mk | apply Lf.mk | refine fun (K : KT) hK hE hT => ?_ | refine fun (KS : KE) hKS => ?_ | refine fun (D : KD) hD => ?_ | refine fun (hg : (_ : Prop)) => ?_ | fail); all_goals (first | (refine Wr.mk ?_; (try clear gx q1); repeat first | clear hK hE hT K | clear hR hE hT K) | assumption | skip))
  refine loop_v (X := {k : Nat // k ≤ m.length}) [9] (fun x => [(15, .c (.v (.int .i64 ((x.1 : Nat) : Int)))), (6, .c (.v (.bool ((m.take x.1).any (gtF y))))), (5, .c (.sl 5 2 0 (insP y (m.take x.1)).length))]) (fun x => [(0, some (.ro (l.map (FileD.k 5)))), (1, some (.ro (y.Data.map bytK))), (2, some (.box 95 [.v (.string (txt y.Name)), .sl 1 1 0 y.Data.length])), (4, some (.mix 95 (m.map (FileD.k 5)))), (5, some (.mix 95 ((insP y (m.take x.1)).map (FileD.k 5))))]) 6 (fun x => m.length - x.1) ⟨0, by omega⟩ ?_
  simp only [KPB, seval]
  refine ⟨?_, ?_⟩
  · refine Wk.trans (wk_nm (g := 3) rfl) ?_
    simp only [EVB, seval]
    (refine wk_a ?_; simp only [MAB, seval]; refine ⟨rfl, rfl, (by decide), ?_, ?_⟩; all_goals (first | (simp only [WKB, seval, List.take_zero, insP_zero, List.any_nil, List.map_nil, List.length_nil]; done) | (simp [WKB, seval, List.take_zero, insP_zero, List.any_nil, List.map_nil, List.length_nil]; done) | simp only [WKB, seval]))
  · rintro ⟨k, hk⟩ K hR hE hT
    have hpl := insP_len y (m.take k)
    rw [List.length_take] at hpl
    rcases Nat.lt_or_ge k m.length with hlt | hge
    case inr =>
      obtain rfl : k = m.length := by omega
      simp only [List.take_length] at hpl ⊢
      obtain ⟨P, hP⟩ : ∃ P, P = insP y m := ⟨_, rfl⟩
      rw [← hP] at hpl hend
      simp only [← hP]
      cases hd : m.any (gtF y) with
      | true =>
        rw [hd, if_pos rfl] at hend
        (have gx := And.intro @List.length_map.{0,0} @hd; refine go ?_; (repeat' first | exact Ef.mk | apply Lf.mk | refine fun (K : KT) hK hE hT => ?_ | refine fun (KS : KE) hKS => ?_ | refine fun (D : KD) hD => ?_ | refine fun (hg : (_ : Prop)) => ?_ | fail); all_goals (first | (refine Wr.mk ?_; (try clear gx); repeat first | clear hK hE hT K | clear hR hE hT K) | assumption | skip))
        (refine post_a hres (.inl rfl) ?_; simp only [RSB, ENB, seval, tiAll, hend]; simp only [MAB, seval]; refine ⟨rfl, rfl, ?_, ?_, ?_⟩ <;> (first | rfl | (simp [WKB, Nat.add_comm, hend]; done) | (simp only [WKB, seval])))
      | false =>
        rw [hd, if_neg (by decide)] at hend
        have e2 : (P ++ [y]).map (FileD.k 5) = P.map (FileD.k 5) ++ [FileD.k 5 y] := by rw [List.map_append]; rfl
        have l2 : (P ++ [y]).length = P.length + 1 := by simp
        (have gx := And.intro @List.length_map.{0,0} @hd; refine go ?_; (repeat' first | exact Ef.mk | apply Lf.mk | refine fun (K : KT) hK hE hT => ?_ | refine fun (KS : KE) hKS => ?_ | refine fun (D : KD) hD => ?_ | refine fun (hg : (_ : Prop)) => ?_ | fail); all_goals (first | (refine Wr.mk ?_; (try clear gx); repeat first | clear hK hE hT K | clear hR hE hT K) | assumption | skip))
        (refine post_a hres (.inl rfl) ?_; simp only [RSB, ENB, seval, tiAll, hend, e2, FileD.k, l2, tY]; simp only [MAB, seval]; refine ⟨rfl, rfl, ?_, ?_, ?_⟩ <;> (first | rfl | (simp [WKB, Nat.add_comm, hend, e2, FileD.k, l2, tY]; done) | (simp only [WKB, seval])))
    case inl =>
      have hs := insP_take (x := y) hlt
      have ha := any_take (x := y) hlt
      obtain ⟨f, hf⟩ : ∃ f, f = m[k] := ⟨_, rfl⟩
      have tF : List.take f.Data.length (List.map bytK f.Data) = List.map bytK f.Data := List.take_of_length_le (by rw [List.length_map]; exact Nat.le_refl _)
      rw [← hf] at hs ha
      obtain ⟨P, hP⟩ : ∃ P, P = insP y (m.take k) := ⟨_, rfl⟩
      rw [← hP] at hs hpl
      simp only [← hP]
      have e2 : (P ++ [f]).map (FileD.k 5) = P.map (FileD.k 5) ++ [FileD.k 5 f] := by rw [List.map_append]; rfl
      have l2 : (P ++ [f]).length = P.length + 1 := by simp
      have e3 : (P ++ [y] ++ [f]).map (FileD.k 5) = P.map (FileD.k 5) ++ [FileD.k 5 y] ++ [FileD.k 5 f] := by rw [List.map_append, List.map_append]; rfl
      have l3 : (P ++ [y] ++ [f]).length = P.length + 1 + 1 := by simp
      cases hd : (m.take k).any (gtF y) with
      | true =>
        rw [hd, if_pos rfl] at hs
        rw [hd, Bool.true_or] at ha
        (have gx := And.intro (@List.length_map.{0,0}) (And.intro (@List.getElem_map.{0,0}) (And.intro ((hf).symm) (And.intro (@FileD.k.eq_1) (And.intro @txt_list @hd)))); refine go ?_; (repeat' first | exact Ef.mk | apply Lf.mk | refine fun (K : KT) hK hE hT => ?_ | refine fun (KS : KE) hKS => ?_ | refine fun (D : KD) hD => ?_ | refine fun (hg : (_ : Prop)) => ?_ | fail); all_goals (first | (refine Wr.mk ?_; (try clear gx); repeat first | clear hK hE hT K | clear hR hE hT K) | assumption | skip))
        (refine hR.out ⟨k + 1, by omega⟩ _ _ _ (by simp only; omega) ?_; (refine wk_a ?_; simp only [MAB, seval]; refine ⟨rfl, rfl, (by decide), ?_, ?_⟩; all_goals (first | (simp only [WKB, seval, hs, ha, e2, FileD.k, l2, tF]; done) | (simp [WKB, seval, hs, ha, e2, FileD.k, l2, tF]; done) | simp only [WKB, seval])))
      | false =>
        rw [hd, if_neg (by decide)] at hs
        rw [hd, Bool.false_or] at ha
        cases hg : gtF y f with
        | true =>
          rw [hg, if_pos rfl] at hs
          rw [hg] at ha
          have hb : bl y.Name f.Name = true := hg
          have hap : ∀ a b : List (List DC), (a ++ b).length = a.length + b.length := fun _ _ => List.length_append
          have h1c : ∀ a : List DC, [a].length = 1 := fun _ => rfl
          (have gx := And.intro (@List.length_map.{0,0}) (And.intro (@List.getElem_map.{0,0}) (And.intro ((hf).symm) (And.intro (@FileD.k.eq_1) (And.intro (@txt_list) (And.intro (@hd) (And.intro (@gt_bl) (And.intro (@hb) (And.intro @hap @h1c)))))))); refine go ?_; (repeat' first | exact Ef.mk | apply Lf.mk | refine fun (K : KT) hK hE hT => ?_ | refine fun (KS : KE) hKS => ?_ | refine fun (D : KD) hD => ?_ | refine fun (hg : (_ : Prop)) => ?_ | fail); all_goals (first | (refine Wr.mk ?_; (try clear gx); repeat first | clear hK hE hT K | clear hR hE hT K) | assumption | skip))
          (refine hR.out ⟨k + 1, by omega⟩ _ _ _ (by simp only; omega) ?_; (refine wk_a ?_; simp only [MAB, seval]; refine ⟨rfl, rfl, (by decide), ?_, ?_⟩; all_goals (first | (simp only [WKB, seval, hs, ha, e3, FileD.k, l3, tF, tY]; done) | (simp [WKB, seval, hs, ha, e3, FileD.k, l3, tF, tY]; done) | simp only [WKB, seval])))
        | false =>
          rw [hg, if_neg (by decide)] at hs
          rw [hg] at ha
          have hb : bl y.Name f.Name = false := hg
          (have gx := And.intro (@List.length_map.{0,0}) (And.intro (@List.getElem_map.{0,0}) (And.intro ((hf).symm) (And.intro (@FileD.k.eq_1) (And.intro (@txt_list) (And.intro (@hd) (And.intro @gt_bl @hb)))))); refine go ?_; (repeat' first | exact Ef.mk | apply Lf.mk | refine fun (K : KT) hK hE hT => ?_ | refine fun (KS : KE) hKS => ?_ | refine fun (D : KD) hD => ?_ | refine fun (hg : (_ : Prop)) => ?_ | fail); all_goals (first | (refine Wr.mk ?_; (try clear gx); repeat first | clear hK hE hT K | clear hR hE hT K) | assumption | skip))
          (refine hR.out ⟨k + 1, by omega⟩ _ _ _ (by simp only; omega) ?_; (refine wk_a ?_; simp only [MAB, seval]; refine ⟨rfl, rfl, (by decide), ?_, ?_⟩; all_goals (first | (simp only [WKB, seval, hs, ha, e2, FileD.k, l2, tF]; done) | (simp [WKB, seval, hs, ha, e2, FileD.k, l2, tF]; done) | simp only [WKB, seval])))

set_option maxHeartbeats 4000000 in
theorem l02Fits_k (l : List FileD) (o : FsOpD) (h : l.length ≤ 1048576) : FnOK Try.prog 86 ⟨2, [(0, some (.ro (l.map (FileD.k 5)))), (1, some (.ro (o.Data.map bytK)))], [.c (.sl 0 2 0 l.length), .agg [.v (.int .i64 o.Kind), .v (.string (txt o.Name)), .v (.string (txt o.To)), .sl 1 1 0 (o.Data).length]], .c (.v (.bool (fitsF l o))), [], 2⟩ := by
  have ca := l02At_k l o.Name (by omega)
  have ht := atF_there l o.Name
  obtain ⟨a, ha⟩ : ∃ a, a = atF l o.Name := ⟨_, rfl⟩
  have hr : -1 ≤ a ∧ a ≤ 1099511627776 := by
    rcases atF_spec l o.Name with ⟨h1, _⟩ | ⟨k, hk, h1, _⟩ <;> omega
  rw [← ha] at ca ht
  refine fnOK_of true mixed Try.func86 rfl (by rfl) (by rfl) ?_
  have hres := congrArg Array.toList Try.results86
  simp only [Try.ntmps86, BGB, seval]
  (have gx := And.intro @List.length_map.{0,0} @txt_list; have q1 := ca; refine go ?_; (repeat' first | exact Ef.mk | apply Lf.mk | refine fun (K : KT) hK hE hT => ?_ | refine fun (KS : KE) hKS => ?_ | refine fun (D : KD) hD => ?_ | refine fun (hg : (_ : Prop)) => ?_ | fail); all_goals (first | (refine Wr.mk ?_; (try clear gx q1); repeat first | clear hK hE hT K | clear hR hE hT K) | assumption | skip))
  all_goals (refine post_a hres (.inl rfl) ?_; simp only [RSB, ENB, seval, tiAll, true_and]; simp only [MAB, seval]; refine ⟨rfl, rfl, ?_, ?_, ?_⟩ <;> (first | rfl | (simp [WKB, Nat.add_comm, true_and]; done) | (simp only [WKB, seval])))
  all_goals (refine congrArg (fun b => SV.c (CV.v (Value.bool b))) ?_; symm; unfold fitsF; rw [← ht, Bool.eq_iff_iff]; clear ca ht ha hr; simp_all <;> omega)

end Go.Proofs.Ytfnhchcgieeedaa
