/-
  The reference's files: the place of a name, the size, a file taken out, a file put in. No conditions of its own.
-/
import Derived.Test.YtfnhchcgieeedaaGO
import Derived.Test.YtfnhchcgieeedaaDS0
import Derived.Test.YtfnhchcgieeedaaDH2
import Derived.Test.YtfnhchcgieeedaaDW2
namespace Go.Proofs.Ytfnhchcgieeedaa
set_option linter.unusedSimpArgs false
set_option linter.unusedVariables false
set_option linter.unusedSimpArgs false
set_option linter.unusedVariables false
set_option linter.defProp false
set_option maxRecDepth 20000
open Go.RowKit

set_option maxHeartbeats 2000000 in
theorem l02At_k (l : List FileD) (s : List UInt8) (h : l.length ≤ 1099511627776) : FnOK Try.prog 116 ⟨1, [(0, some (.ro (l.map (FileD.k 5))))], [.c (.sl 0 2 0 l.length), .c (.v (.string (txt s)))], .c (.v (.int .i64 (atF l s))), [], 1⟩ := by
  refine fnOK_of true mixed Try.func116 rfl (by rfl) (by rfl) ?_
  have hres := congrArg Array.toList Try.results116
  simp only [Try.ntmps116, BGB, seval]
  (have gx := @List.length_map.{0,0}; refine go ?_; (repeat' first | exact Ef.mk | apply Lf.mk | refine fun (K : KT) hK hE hT => ?_ | refine fun (KS : KE) hKS => ?_ | refine fun (D : KD) hD => ?_ | refine fun (hg : (_ : Prop)) => ?_ | fail); all_goals (first | (refine Wr.mk ?_; (try clear gx); repeat first | clear hK hE hT K | clear hR hE hT K) | assumption | skip))
  refine loop_v (X := {k : Nat // k ≤ l.length ∧ Rnd (∀ i (hi : i < l.length), i < k → l[i].Name ≠ s)}) [] (fun x => [(9, .c (.v (.int .i64 ((x.1 : Nat) : Int))))]) (fun x => [(0, some (.ro (l.map (FileD.k 5))))]) 1 (fun x => l.length - x.1) ⟨0, by omega, ⟨fun i hi h0 => absurd h0 (by omega)⟩⟩ ?_
  simp only [KPB, seval]
  refine ⟨?_, ?_⟩
  · (refine wk_a ?_; simp only [MAB, seval]; refine ⟨rfl, rfl, (by decide), ?_, ?_⟩; all_goals (first | (simp only [WKB, seval, true_and]; done) | (simp [WKB, seval, true_and]; done) | simp only [WKB, seval]))
  · rintro ⟨k, hk, hi⟩ K hR hE hT
    rcases Nat.lt_or_ge k l.length with hlt | hge
    case inr =>
      have e : atF l s = -1 := atF_miss fun i hi' => hi.out i hi' (by omega)
      (have gx := @List.length_map.{0,0}; refine go ?_; (repeat' first | exact Ef.mk | apply Lf.mk | refine fun (K : KT) hK hE hT => ?_ | refine fun (KS : KE) hKS => ?_ | refine fun (D : KD) hD => ?_ | refine fun (hg : (_ : Prop)) => ?_ | fail); all_goals (first | (refine Wr.mk ?_; (try clear gx); repeat first | clear hK hE hT K | clear hR hE hT K) | assumption | skip))
      (refine post_a hres (.inl rfl) ?_; simp only [RSB, ENB, seval, tiAll, e]; simp only [MAB, seval]; refine ⟨rfl, rfl, ?_, ?_, ?_⟩ <;> (first | rfl | (simp [WKB, Nat.add_comm, e]; done) | (simp only [WKB, seval])))
    case inl =>
      obtain ⟨f, hf⟩ : ∃ f, f = l[k] := ⟨_, rfl⟩
      by_cases hn : f.Name = s
      · have e := atF_hit hi.out hlt (by rw [← hf]; exact hn)
        have eb : (f.Name == s) = true := by simp [hn]
        (have gx := And.intro (@List.length_map.{0,0}) (And.intro (@List.getElem_map.{0,0}) (And.intro ((hf).symm) (And.intro (@FileD.k.eq_1) (And.intro @txt_list @eb)))); refine go ?_; (repeat' first | exact Ef.mk | apply Lf.mk | refine fun (K : KT) hK hE hT => ?_ | refine fun (KS : KE) hKS => ?_ | refine fun (D : KD) hD => ?_ | refine fun (hg : (_ : Prop)) => ?_ | fail); all_goals (first | (refine Wr.mk ?_; (try clear gx); repeat first | clear hK hE hT K | clear hR hE hT K) | assumption | skip))
        (refine post_a hres (.inl rfl) ?_; simp only [RSB, ENB, seval, tiAll, e]; simp only [MAB, seval]; refine ⟨rfl, rfl, ?_, ?_, ?_⟩ <;> (first | rfl | (simp [WKB, Nat.add_comm, e]; done) | (simp only [WKB, seval])))
      · have eb : (f.Name == s) = false := by simp [hn]
        (have gx := And.intro (@List.length_map.{0,0}) (And.intro (@List.getElem_map.{0,0}) (And.intro ((hf).symm) (And.intro (@FileD.k.eq_1) (And.intro @txt_list @eb)))); refine go ?_; (repeat' first | exact Ef.mk | apply Lf.mk | refine fun (K : KT) hK hE hT => ?_ | refine fun (KS : KE) hKS => ?_ | refine fun (D : KD) hD => ?_ | refine fun (hg : (_ : Prop)) => ?_ | fail); all_goals (first | (refine Wr.mk ?_; (try clear gx); repeat first | clear hK hE hT K | clear hR hE hT K) | assumption | skip))
        refine hR.out ⟨k + 1, by omega, ⟨fun i hi' hik => ?_⟩⟩ _ _ _ (by simp only; omega) ?_
        · by_cases e : i = k
          · subst e; rw [← hf]; exact hn
          · exact hi.out i hi' (by omega)
        · (refine wk_a ?_; simp only [MAB, seval]; refine ⟨rfl, rfl, (by decide), ?_, ?_⟩; all_goals (first | (simp only [WKB, seval, true_and]; done) | (simp [WKB, seval, true_and]; done) | simp only [WKB, seval]))

theorem byF_take {l : List FileD} {k : Nat} (h : k < l.length) : byF (l.take (k + 1)) = byF (l.take k) + l[k].Data.length := by
  rw [take_snoc h, byF_app]
  simp only [byF, Nat.add_zero]
theorem byF_le (l : List FileD) (k : Nat) : byF (l.take k) ≤ byF l := by
  have h := byF_app (l.take k) (l.drop k)
  rw [List.take_append_drop] at h
  omega

set_option maxHeartbeats 2000000 in
theorem l02Bytes_k (l : List FileD) (h : l.length ≤ 1099511627776) (hb : byF l ≤ 1099511627776) : FnOK Try.prog 87 ⟨1, [(0, some (.ro (l.map (FileD.k 5))))], [.c (.sl 0 2 0 l.length)], .c (.v (.int .i64 ((byF l : Nat) : Int))), [], 1⟩ := by
  refine fnOK_of true mixed Try.func87 rfl (by rfl) (by rfl) ?_
  have hres := congrArg Array.toList Try.results87
  simp only [Try.ntmps87, BGB, seval]
  (have gx := @List.length_map.{0,0}; refine go ?_; (repeat' first | exact Ef.mk | apply Lf.mk | refine fun (K : KT) hK hE hT => ?_ | refine fun (KS : KE) hKS => ?_ | refine fun (D : KD) hD => ?_ | refine fun (hg : (_ : Prop)) => ?_ | fail); all_goals (first | (refine Wr.mk ?_; (try clear gx); repeat first | clear hK hE hT K | clear hR hE hT K) | assumption | skip))
  refine loop_v (X := {k : Nat // k ≤ l.length}) [] (fun x => [(8, .c (.v (.int .i64 ((x.1 : Nat) : Int)))), (3, .c (.v (.int .i64 ((byF (l.take x.1) : Nat) : Int))))]) (fun x => [(0, some (.ro (l.map (FileD.k 5))))]) 1 (fun x => l.length - x.1) ⟨0, by omega⟩ ?_
  simp only [KPB, seval]
  refine ⟨?_, ?_⟩
  · (refine wk_a ?_; simp only [MAB, seval]; refine ⟨rfl, rfl, (by decide), ?_, ?_⟩; all_goals (first | (simp only [WKB, seval, List.take_zero, byF]; done) | (simp [WKB, seval, List.take_zero, byF]; done) | simp only [WKB, seval]))
  · rintro ⟨k, hk⟩ K hR hE hT
    have hbk := byF_le l k
    rcases Nat.lt_or_ge k l.length with hlt | hge
    case inr =>
      obtain rfl : k = l.length := by omega
      simp only [List.take_length]
      (have gx := @List.length_map.{0,0}; refine go ?_; (repeat' first | exact Ef.mk | apply Lf.mk | refine fun (K : KT) hK hE hT => ?_ | refine fun (KS : KE) hKS => ?_ | refine fun (D : KD) hD => ?_ | refine fun (hg : (_ : Prop)) => ?_ | fail); all_goals (first | (refine Wr.mk ?_; (try clear gx); repeat first | clear hK hE hT K | clear hR hE hT K) | assumption | skip))
      (refine post_a hres (.inl rfl) ?_; simp only [RSB, ENB, seval, tiAll, true_and]; simp only [MAB, seval]; refine ⟨rfl, rfl, ?_, ?_, ?_⟩ <;> (first | rfl | (simp [WKB, Nat.add_comm, true_and]; done) | (simp only [WKB, seval])))
    case inl =>
      have e := byF_take hlt
      have hbn := byF_le l (k + 1)
      rw [e] at hbn
      (have gx := And.intro (@List.length_map.{0,0}) (And.intro @List.getElem_map.{0,0} @FileD.k.eq_1); refine go ?_; (repeat' first | exact Ef.mk | apply Lf.mk | refine fun (K : KT) hK hE hT => ?_ | refine fun (KS : KE) hKS => ?_ | refine fun (D : KD) hD => ?_ | refine fun (hg : (_ : Prop)) => ?_ | fail); all_goals (first | (refine Wr.mk ?_; (try clear gx); repeat first | clear hK hE hT K | clear hR hE hT K) | assumption | skip))
      (refine hR.out ⟨k + 1, by omega⟩ _ _ _ (by simp only; omega) ?_; (refine wk_a ?_; simp only [MAB, seval]; refine ⟨rfl, rfl, (by decide), ?_, ?_⟩; all_goals (first | (simp only [WKB, seval, e]; done) | (simp [WKB, seval, e]; done) | simp only [WKB, seval])))

theorem gt_bl (a b : List UInt8) : (!(Op.bytesLess a b || a == b)) = bl b a := by
  show (!(bl a b || a == b)) = bl b a
  by_cases e : a = b
  · subst e; simp [bl_irr]
  · have e2 : (a == b) = false := by simpa using e
    rw [e2, Bool.or_false]
    rcases bl_tri e with h | h
    · rw [h, bl_asym h]; rfl
    · rw [h, bl_asym h]; rfl

set_option maxHeartbeats 4000000 in
theorem l02Less_k (l : List FileD) (s : List UInt8) (h : l.length ≤ 1048576) : FnOK Try.prog 117 ⟨1, [(0, some (.ro (l.map (FileD.k 5))))], [.c (.sl 0 2 0 l.length), .c (.v (.string (txt s)))], .c (.sl 1 2 0 (lessF l s).length), [(1, some (.mix 95 ((lessF l s).map (FileD.k 5))))], 2⟩ := by
  refine fnOK_of true mixed Try.func117 rfl (by rfl) (by rfl) ?_
  have hres := congrArg Array.toList Try.results117
  simp only [Try.ntmps117, BGB, seval]
  (have gx := @List.length_map.{0,0}; refine go ?_; (repeat' first | exact Ef.mk | apply Lf.mk | refine fun (K : KT) hK hE hT => ?_ | refine fun (KS : KE) hKS => ?_ | refine fun (D : KD) hD => ?_ | refine fun (hg : (_ : Prop)) => ?_ | fail); all_goals (first | (refine Wr.mk ?_; (try clear gx); repeat first | clear hK hE hT K | clear hR hE hT K) | assumption | skip))
  refine loop_v (X := {k : Nat // k ≤ l.length}) [8] (fun x => [(11, .c (.v (.int .i64 ((x.1 : Nat) : Int)))), (5, .c (.sl 1 2 0 (lessF (l.take x.1) s).length))]) (fun x => [(0, some (.ro (l.map (FileD.k 5)))), (1, some (.mix 95 ((lessF (l.take x.1) s).map (FileD.k 5))))]) 2 (fun x => l.length - x.1) ⟨0, by omega⟩ ?_
  simp only [KPB, seval]
  refine ⟨?_, ?_⟩
  · refine Wk.trans (wk_nm (g := 1) rfl) ?_
    simp only [EVB, seval]
    (refine wk_a ?_; simp only [MAB, seval]; refine ⟨rfl, rfl, (by decide), ?_, ?_⟩; all_goals (first | (simp only [WKB, seval, List.take_zero, lessF]; done) | (simp [WKB, seval, List.take_zero, lessF]; done) | simp only [WKB, seval]))
  · rintro ⟨k, hk⟩ K hR hE hT
    have hle := lessF_le (l.take k) s
    rw [List.length_take] at hle
    rcases Nat.lt_or_ge k l.length with hlt | hge
    case inr =>
      obtain rfl : k = l.length := by omega
      simp only [List.take_length]
      (have gx := @List.length_map.{0,0}; refine go ?_; (repeat' first | exact Ef.mk | apply Lf.mk | refine fun (K : KT) hK hE hT => ?_ | refine fun (KS : KE) hKS => ?_ | refine fun (D : KD) hD => ?_ | refine fun (hg : (_ : Prop)) => ?_ | fail); all_goals (first | (refine Wr.mk ?_; (try clear gx); repeat first | clear hK hE hT K | clear hR hE hT K) | assumption | skip))
      (refine post_a hres (.inl rfl) ?_; simp only [RSB, ENB, seval, tiAll, true_and]; simp only [MAB, seval]; refine ⟨rfl, rfl, ?_, ?_, ?_⟩ <;> (first | rfl | (simp [WKB, Nat.add_comm, true_and]; done) | (simp only [WKB, seval])))
    case inl =>
      have e := lessF_take hlt s
      obtain ⟨f, hf⟩ : ∃ f, f = l[k] := ⟨_, rfl⟩
      rw [← hf] at e
      obtain ⟨m, hmd⟩ : ∃ m, m = lessF (l.take k) s := ⟨_, rfl⟩
      rw [← hmd] at hle e
      simp only [← hmd]
      by_cases hn : f.Name = s
      · have eb : (f.Name == s) = true := by simp [hn]
        rw [if_pos hn] at e
        (have gx := And.intro (@List.length_map.{0,0}) (And.intro (@List.getElem_map.{0,0}) (And.intro ((hf).symm) (And.intro (@FileD.k.eq_1) (And.intro @txt_list @eb)))); refine go ?_; (repeat' first | exact Ef.mk | apply Lf.mk | refine fun (K : KT) hK hE hT => ?_ | refine fun (KS : KE) hKS => ?_ | refine fun (D : KD) hD => ?_ | refine fun (hg : (_ : Prop)) => ?_ | fail); all_goals (first | (refine Wr.mk ?_; (try clear gx); repeat first | clear hK hE hT K | clear hR hE hT K) | assumption | skip))
        (refine hR.out ⟨k + 1, by omega⟩ _ _ _ (by simp only; omega) ?_; (refine wk_a ?_; simp only [MAB, seval]; refine ⟨rfl, rfl, (by decide), ?_, ?_⟩; all_goals (first | (simp only [WKB, seval, e]; done) | (simp [WKB, seval, e]; done) | simp only [WKB, seval])))
      · have eb : (f.Name == s) = false := by simp [hn]
        rw [if_neg hn] at e
        have e2 : (m ++ [f]).map (FileD.k 5) = m.map (FileD.k 5) ++ [FileD.k 5 f] := by rw [List.map_append]; rfl
        have l2 : (m ++ [f]).length = m.length + 1 := by simp
        have tD : List.take f.Data.length (List.map bytK f.Data) = List.map bytK f.Data := List.take_of_length_le (by rw [List.length_map]; exact Nat.le_refl _)
        (have gx := And.intro (@List.length_map.{0,0}) (And.intro (@List.getElem_map.{0,0}) (And.intro ((hf).symm) (And.intro (@FileD.k.eq_1) (And.intro @txt_list @eb)))); refine go ?_; (repeat' first | exact Ef.mk | apply Lf.mk | refine fun (K : KT) hK hE hT => ?_ | refine fun (KS : KE) hKS => ?_ | refine fun (D : KD) hD => ?_ | refine fun (hg : (_ : Prop)) => ?_ | fail); all_goals (first | (refine Wr.mk ?_; (try clear gx); repeat first | clear hK hE hT K | clear hR hE hT K) | assumption | skip))
        (refine hR.out ⟨k + 1, by omega⟩ _ _ _ (by simp only; omega) ?_; (refine wk_a ?_; simp only [MAB, seval]; refine ⟨rfl, rfl, (by decide), ?_, ?_⟩; all_goals (first | (simp only [WKB, seval, e, e2, FileD.k, l2, tD]; done) | (simp [WKB, seval, e, e2, FileD.k, l2, tD]; done) | simp only [WKB, seval])))

end Go.Proofs.Ytfnhchcgieeedaa
