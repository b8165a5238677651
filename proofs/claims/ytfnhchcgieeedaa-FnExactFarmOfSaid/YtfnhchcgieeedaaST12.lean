/-
  Contracts: the program's sorting in pieces. No conditions of its own.
-/
import Derived.Test.YtfnhchcgieeedaaGO
import Derived.Test.YtfnhchcgieeedaaST11
namespace Go.Proofs.Ytfnhchcgieeedaa
set_option linter.unusedSimpArgs false
set_option linter.unusedVariables false
set_option linter.unusedSimpArgs false
set_option linter.unusedVariables false
set_option linter.defProp false
set_option maxRecDepth 20000
open Go.RowKit
attribute [local irreducible] lexD

structure BtX (m sz : Nat) where
  k : Nat
  o : Nat
  h : o ≤ m
  e : (o = k * sz ∧ o < m) ∨ (o = m ∧ k = pcN m sz)

set_option maxHeartbeats 8000000 in
theorem implBatches_k (l : List RecD) (sz : Nat) (h : 0 < sz) (hsz : sz ≤ 9223372036854775807) (hl : l.length ≤ 1048576) : FnOK Try.prog 125 ⟨1, [(0, some (.ro (l.map RecD.k)))], [.c (.sl 0 3 0 l.length), .c (.v (.int .i64 (sz : Int)))], .c (.sl 1 1 0 (pcN l.length sz)), [(1, some (.nst 178 ((cutR l sz (pcN l.length sz)).map (batK 124)) none))], 2⟩ := by
  have hcl := cutR_len l sz
  have hst : (0 = 0 * sz ∧ 0 < l.length) ∨ (0 = l.length ∧ 0 = pcN l.length sz) := by
    rcases Nat.eq_zero_or_pos l.length with h0 | h0
    · have := pcN_le (m := l.length) h
      exact .inr ⟨h0.symm, by omega⟩
    · exact .inl ⟨(Nat.zero_mul _).symm, h0⟩
  refine fnOK_of true mixed Try.func125 rfl (by rfl) (by rfl) ?_
  have hres := congrArg Array.toList Try.results125
  simp only [Try.ntmps125, BGB, seval]
  (have gx := @List.length_map.{0,0}; refine go ?_; (repeat' first | exact Ef.mk | apply Lf.mk | refine fun (K : KT) hK hE hT => ?_ | refine fun (KS : KE) hKS => ?_ | refine fun (D : KD) hD => ?_ | refine fun (hg : (_ : Prop)) => ?_ | fail); all_goals (first | (refine Wr.mk ?_; (try clear gx); repeat first | clear hK hE hT K | clear hR hE hT K) | assumption | skip))
  refine loop_v (X := BtX l.length sz) [6] (fun x => [(0, .c (.sl 0 3 x.o (l.length - x.o))), (5, .c (.sl 1 1 0 x.k))]) (fun x => [(0, some (.ro (l.map RecD.k))), (1, some (.nst 178 ((cutR l sz x.k).map (batK 124)) none))]) 2 (fun x => l.length - x.o) ⟨0, 0, by omega, hst⟩ ?_
  simp only [KPB, seval]
  refine ⟨?_, ?_⟩
  · (refine wk_a ?_; simp only [MAB, seval]; refine ⟨rfl, rfl, (by decide), ?_, ?_⟩; all_goals (first | (simp only [WKB, seval, cutR, List.map_nil, Nat.sub_zero]; done) | (simp [WKB, seval, cutR, List.map_nil, Nat.sub_zero]; done) | simp only [WKB, seval]))
  · rintro ⟨k, o, ho, he⟩ K hR hE hT
    have lck := hcl k
    rcases Nat.lt_or_ge o l.length with hlt | hge
    case inr =>
      obtain ⟨h1, h2⟩ : o = l.length ∧ k = pcN l.length sz := by omega
      (have gx := @List.length_map.{0,0}; refine go ?_; (repeat' first | exact Ef.mk | apply Lf.mk | refine fun (K : KT) hK hE hT => ?_ | refine fun (KS : KE) hKS => ?_ | refine fun (D : KD) hD => ?_ | refine fun (hg : (_ : Prop)) => ?_ | fail); all_goals (first | (refine Wr.mk ?_; (try clear gx); repeat first | clear hK hE hT K | clear hR hE hT K) | assumption | skip))
      (refine post_a hres (.inl rfl) ?_; simp only [RSB, ENB, seval, tiAll, h2]; simp only [MAB, seval]; refine ⟨rfl, rfl, ?_, ?_, ?_⟩ <;> (first | rfl | (simp [WKB, Nat.add_comm, h2]; done) | (simp only [WKB, seval])))
    case inl =>
      obtain ⟨h1, _⟩ : o = k * sz ∧ o < l.length := by omega
      have hcs : cutR l sz (k + 1) = cutR l sz k ++ [srtR ((l.drop o).take sz)] := by rw [h1]; rfl
      obtain ⟨C, hC⟩ : ∃ C, C = (l.drop o).take sz := ⟨_, rfl⟩
      have hm := Nat.succ_mul k sz
      have hpl := pcN_last (m := l.length) (k := k) h (by omega)
      rw [Nat.succ_eq_add_one] at hm
      rw [← hC] at hcs
      obtain ⟨m, hm2⟩ : ∃ m, m = min sz (l.length - o) := ⟨_, rfl⟩
      have hnx : (o + m = (k + 1) * sz ∧ o + m < l.length) ∨ (o + m = l.length ∧ k + 1 = pcN l.length sz) := by
        by_cases hse : sz < l.length - o
        · exact .inl ⟨by omega, by omega⟩
        · exact .inr ⟨by omega, (hpl (by omega)).symm⟩
      have lC : C.length = m := by rw [hC, List.length_take, List.length_drop, hm2]
      have cs := implSortOne_k C (by omega)
      have lS := srtR_len C
      obtain ⟨S, hS⟩ : ∃ S, S = srtR C := ⟨_, rfl⟩
      rw [← hS] at cs lS hcs
      have hCm : C.map RecD.k = ((l.map RecD.k).drop o).take m := by
        rw [hC, List.map_take, List.map_drop, hm2]
        refine List.ext_getElem? fun t => ?_
        rw [List.getElem?_take, List.getElem?_take]
        by_cases ht : t < sz
        · by_cases ht2 : t < l.length - o
          · rw [if_pos ht, if_pos (by omega)]
          · rw [if_pos ht, if_neg (by omega), List.getElem?_drop, List.getElem?_eq_none (by rw [List.length_map]; omega)]
        · rw [if_neg ht, if_neg (by omega)]
      rw [lC, hCm] at cs
      rw [lC] at lS
      have e1 : min (sz : Int) ((l.length - o : Nat) : Int) = (m : Int) := by omega
      have e2 : l.length - o - m = l.length - (o + m) := by omega
      have hmp : 0 < m := by omega
      have hml : m ≤ l.length - o := by omega
      have hkl : k < l.length := by
        have := Nat.le_mul_of_pos_right k h
        omega
      clear hm2
      (have gx := And.intro (@List.length_map.{0,0}) (And.intro (@litN) (And.intro @e1 @e2)); have q1 := cs; refine go ?_; (repeat' first | exact Ef.mk | apply Lf.mk | refine fun (K : KT) hK hE hT => ?_ | refine fun (KS : KE) hKS => ?_ | refine fun (D : KD) hD => ?_ | refine fun (hg : (_ : Prop)) => ?_ | fail); all_goals (first | (refine Wr.mk ?_; (try clear gx q1); repeat first | clear hK hE hT K | clear hR hE hT K) | assumption | skip))
      refine hR.out ⟨k + 1, o + m, by omega, hnx⟩ _ _ _ (by simp only; omega) ?_
      (refine wk_a ?_; simp only [MAB, seval]; refine ⟨rfl, rfl, (by decide), ?_, ?_⟩; all_goals (first | (simp only [WKB, seval, hcs, batK, List.map_append, List.map_cons, List.map_nil, lS, e2]; done) | (simp [WKB, seval, hcs, batK, List.map_append, List.map_cons, List.map_nil, lS, e2]; done) | simp only [WKB, seval]))


set_option maxHeartbeats 16000000 in
theorem implMerge_k (l : List (List RecD)) (hs : ∀ b ∈ l, b.Pairwise leR) (hl : l.length ≤ 1048576) (hf : l.flatten.length ≤ 1048576) (hb : ∀ b ∈ l, b.length ≤ 1048576) : FnOK Try.prog 124 ⟨1, [(0, some (.ro (l.map (batK 124))))], [.c (.sl 0 1 0 l.length)], .c (.sl 1 3 0 (mgL l).length), [(1, some (.row 124 ((mgL l).map RecD.k)))], 2⟩ := by
  have hmg := mg_ok hs
  have hrz : (List.replicate l.length 0).map natK = List.replicate l.length [DC.v (.int .i64 0)] := by rw [List.map_replicate]; rfl
  have h0 : mgTo l 0 = ⟨List.replicate l.length 0, []⟩ := rfl
  have hstp : ∀ m, mgTo l (m + 1) = mgStep l (mgTo l m) := fun m => rfl
  have hend : mgL l = (mgTo l l.flatten.length).o := rfl
  obtain ⟨G, hG⟩ : ∃ G : Nat → MgS, G = mgTo l := ⟨_, rfl⟩
  rw [hend]
  simp only [← hG] at hmg h0 hstp ⊢
  clear hG hend
  obtain ⟨tot, htot⟩ : ∃ t, t = l.flatten.length := ⟨_, rfl⟩
  simp only [← htot] at hmg hf ⊢
  refine fnOK_of true mixed Try.func124 rfl (by rfl) (by rfl) ?_
  have hres := congrArg Array.toList Try.results124
  simp only [Try.ntmps124, BGB, seval]
  (have gx := @List.length_map.{0,0}; refine go ?_; (repeat' first | exact Ef.mk | apply Lf.mk | refine fun (K : KT) hK hE hT => ?_ | refine fun (KS : KE) hKS => ?_ | refine fun (D : KD) hD => ?_ | refine fun (hg : (_ : Prop)) => ?_ | fail); all_goals (first | (refine Wr.mk ?_; (try clear gx); repeat first | clear hK hE hT K | clear hR hE hT K) | assumption | skip))
  refine loop_v (X := {m : Nat // m ≤ tot}) [8] (fun x => [(4, .c (.sl 2 3 0 (G x.1).o.length)), (3, .c (.sl 1 1 0 l.length))]) (fun x => [(0, some (.ro (l.map (batK 124)))), (1, some (.row 3 ((G x.1).a.map natK))), (2, some (.row 124 ((G x.1).o.map RecD.k)))]) 3 (fun x => tot - x.1) ⟨0, by omega⟩ ?_
  simp only [KPB, seval]
  refine ⟨?_, ?_⟩
  · (refine wk_a ?_; simp only [MAB, seval]; refine ⟨rfl, rfl, (by decide), ?_, ?_⟩; all_goals (first | (simp only [WKB, seval, h0, hrz, List.map_nil, List.length_nil]; done) | (simp [WKB, seval, h0, hrz, List.map_nil, List.length_nil]; done) | simp only [WKB, seval]))
  · rintro ⟨m, hm⟩ K hR hE hT
    have ok := hmg m hm
    have hst := hstp m
    obtain ⟨⟨A, O⟩, hS⟩ : ∃ S, S = G m := ⟨_, rfl⟩
    simp only [← hS] at ok hst ⊢
    have oa := ok.al
    have oo := ok.ol
    have ole := ok.le
    dsimp only at oa oo ole
    have hle : ∀ k (h : k < l.length), A[k]'(by omega) ≤ l[k].length := fun k h => by
      have := ole k h
      rw [List.getD_eq_getElem?_getD, List.getElem?_eq_getElem (by omega), List.getElem?_eq_getElem h] at this
      exact this
    have hAm : (A.map natK).length = l.length := by rw [List.length_map]; exact oa
    (have gx := @List.length_map.{0,0}; refine go ?_; (repeat' first | exact Ef.mk | apply Lf.mk | refine fun (K : KT) hK hE hT => ?_ | refine fun (KS : KE) hKS => ?_ | refine fun (D : KD) hD => ?_ | refine fun (hg : (_ : Prop)) => ?_ | fail); all_goals (first | (refine Wr.mk ?_; (try clear gx); repeat first | clear hK hE hT K | clear hR hE hT K) | assumption | skip))
    refine loop_v (X := {k : Nat // k ≤ l.length}) [] (fun x => [(5, .c (.v (.int .i64 (bsI (bstTo l A x.1))))), (13, .c (.v (.int .i64 ((x.1 : Nat) : Int))))]) (fun x => [(0, some (.ro (l.map (batK 124)))), (1, some (.row 3 (A.map natK))), (2, some (.row 124 (O.map RecD.k)))]) 3 (fun x => l.length - x.1) ⟨0, by omega⟩ ?_
    simp only [KPB, seval]
    refine ⟨?_, ?_⟩
    · (refine wk_a ?_; simp only [MAB, seval]; refine ⟨rfl, rfl, (by decide), ?_, ?_⟩; all_goals (first | (simp only [WKB, seval, bst_zero, bsI_none]; done) | (simp [WKB, seval, bst_zero, bsI_none]; done) | simp only [WKB, seval]))
    · rintro ⟨k, hk⟩ K hR2 hE hT
      rcases Nat.lt_or_ge k l.length with hlt | hge
      case inr =>
        obtain rfl : k = l.length := by omega
        cases hbt : bstTo l A l.length with
        | none =>
          have e := mg_end ok hbt
          rw [← htot] at e
          have eo : G tot = ⟨A, O⟩ := by rw [← e]; exact hS.symm
          (have gx := And.intro @List.length_map.{0,0} @bsI_none; refine go ?_; (repeat' first | exact Ef.mk | apply Lf.mk | refine fun (K : KT) hK hE hT => ?_ | refine fun (KS : KE) hKS => ?_ | refine fun (D : KD) hD => ?_ | refine fun (hg : (_ : Prop)) => ?_ | fail); all_goals (first | (refine Wr.mk ?_; (try clear gx); repeat first | clear hK hE hT K | clear hR hE hT K) | assumption | skip))
          (refine post_a hres (.inl rfl) ?_; simp only [RSB, ENB, seval, tiAll, eo]; simp only [MAB, seval]; refine ⟨rfl, rfl, ?_, ?_, ?_⟩ <;> (first | rfl | (simp [WKB, Nat.add_comm, eo]; done) | (simp only [WKB, seval])))
        | some q =>
          obtain ⟨j, d⟩ := q
          have hmt := mg_more ok hbt
          rw [← htot] at hmt
          obtain ⟨q1, q2, _⟩ := bstTo_some hbt
          obtain ⟨q3, q4⟩ := hd_some q1 (by omega) q2
          have e : mgStep l ⟨A, O⟩ = ⟨A.set j (A.getD j 0 + 1), O ++ [d]⟩ := by unfold mgStep; dsimp only; rw [hbt]
          rw [e] at hst
          have hjd : A.getD j 0 = A[j]'(by omega) := by rw [List.getD_eq_getElem?_getD, List.getElem?_eq_getElem (by omega)]; rfl
          rw [hjd] at hst
          have hlj := hb _ (List.getElem_mem q1)
          obtain ⟨B, hB⟩ : ∃ B, B = l[j] := ⟨_, rfl⟩
          have hgl : (l.map (batK 124))[j]'(by simpa using q1) = batK 124 B := by rw [List.getElem_map, hB]
          obtain ⟨z, hz⟩ : ∃ z, z = A[j]'(by omega) := ⟨_, rfl⟩
          have hga : (A.map natK)[j]'(by omega) = natK z := by rw [List.getElem_map, hz]
          simp only [← hB, ← hz] at q3 q4 hlj hst
          have hgb : (B.map RecD.k)[z]'(by simpa using q3) = RecD.k d := by rw [List.getElem_map, q4]
          have hset : (A.map natK).set j [.v (.int .i64 ((z : Int) + 1))] = (A.set j (z + 1)).map natK := by rw [List.map_set]; rfl
          (have gx := And.intro (@List.length_map.{0,0}) (And.intro (@bsI_none) (And.intro (@bsI_some) (And.intro (@hgl) (And.intro (@hga) (And.intro (@hgb) (And.intro (@hAm) (And.intro (@batK.eq_1) (And.intro @natK.eq_1 @RecD.k.eq_1)))))))); refine go ?_; (repeat' first | exact Ef.mk | apply Lf.mk | refine fun (K : KT) hK hE hT => ?_ | refine fun (KS : KE) hKS => ?_ | refine fun (D : KD) hD => ?_ | refine fun (hg : (_ : Prop)) => ?_ | fail); all_goals (first | (refine Wr.mk ?_; (try clear gx); repeat first | clear hK hE hT K | clear hR hE hT K) | assumption | skip))
          refine hR.out ⟨m + 1, by omega⟩ _ _ _ (by simp only; omega) ?_
          (refine wk_a ?_; simp only [MAB, seval]; refine ⟨rfl, rfl, (by decide), ?_, ?_⟩; all_goals (first | (simp only [WKB, seval, hst, hset, List.map_append, List.map_cons, List.map_nil, RecD.k, List.length_append, List.length_cons, List.length_nil]; done) | (simp [WKB, seval, hst, hset, List.map_append, List.map_cons, List.map_nil, RecD.k, List.length_append, List.length_cons, List.length_nil]; done) | simp only [WKB, seval]))
      case inl =>
        have hlk := hb _ (List.getElem_mem hlt)
        have hak := hle k hlt
        have hka : k < A.length := by omega
        have ho : ¬ A[k] < l[k].length → hdR l A k = none := fun h => hd_out hlt hka h
        have hi : ∀ h : A[k] < l[k].length, hdR l A k = some (l[k][A[k]]) := fun h => hd_in hlt hka h
        obtain ⟨B, hB⟩ : ∃ B, B = l[k] := ⟨_, rfl⟩
        have hgl : (l.map (batK 124))[k]'(by simpa using hlt) = batK 124 B := by rw [List.getElem_map, hB]
        obtain ⟨z, hz⟩ : ∃ z, z = A[k]'(by omega) := ⟨_, rfl⟩
        have hga : (A.map natK)[k]'(by omega) = natK z := by rw [List.getElem_map, hz]
        simp only [← hB, ← hz] at ho hi hlk hak
        by_cases hzB : z < B.length
        case neg =>
          have e := bst_gone (ho hzB)
          (have gx := And.intro (@List.length_map.{0,0}) (And.intro (@hgl) (And.intro (@hga) (And.intro (@hAm) (And.intro @batK.eq_1 @natK.eq_1)))); refine go ?_; (repeat' first | exact Ef.mk | apply Lf.mk | refine fun (K : KT) hK hE hT => ?_ | refine fun (KS : KE) hKS => ?_ | refine fun (D : KD) hD => ?_ | refine fun (hg : (_ : Prop)) => ?_ | fail); all_goals (first | (refine Wr.mk ?_; (try clear gx); repeat first | clear hK hE hT K | clear hR hE hT K) | assumption | skip))
          refine hR2.out ⟨k + 1, by omega⟩ _ _ _ (by simp only; omega) ?_
          (refine wk_a ?_; simp only [MAB, seval]; refine ⟨rfl, rfl, (by decide), ?_, ?_⟩; all_goals (first | (simp only [WKB, seval, e]; done) | (simp [WKB, seval, e]; done) | simp only [WKB, seval]))
        case pos =>
          have hh2 := hi hzB
          obtain ⟨d, hd⟩ : ∃ d, d = B[z] := ⟨_, rfl⟩
          rw [← hd] at hh2
          have hgb : (B.map RecD.k)[z]'(by simpa using hzB) = RecD.k d := by rw [List.getElem_map, hd]
          cases hbt : bstTo l A k with
          | none =>
            have e := bst_first hh2 hbt
            (have gx := And.intro (@List.length_map.{0,0}) (And.intro (@bsI_none) (And.intro (@bsI_some) (And.intro (@hgl) (And.intro (@hga) (And.intro (@hgb) (And.intro (@hAm) (And.intro (@batK.eq_1) (And.intro @natK.eq_1 @RecD.k.eq_1)))))))); refine go ?_; (repeat' first | exact Ef.mk | apply Lf.mk | refine fun (K : KT) hK hE hT => ?_ | refine fun (KS : KE) hKS => ?_ | refine fun (D : KD) hD => ?_ | refine fun (hg : (_ : Prop)) => ?_ | fail); all_goals (first | (refine Wr.mk ?_; (try clear gx); repeat first | clear hK hE hT K | clear hR hE hT K) | assumption | skip))
            refine hR2.out ⟨k + 1, by omega⟩ _ _ _ (by simp only; omega) ?_
            (refine wk_a ?_; simp only [MAB, seval]; refine ⟨rfl, rfl, (by decide), ?_, ?_⟩; all_goals (first | (simp only [WKB, seval, e, bsI_none, bsI_some]; done) | (simp [WKB, seval, e, bsI_none, bsI_some]; done) | simp only [WKB, seval]))
          | some q =>
            obtain ⟨j, y⟩ := q
            obtain ⟨q1, q2, _⟩ := bstTo_some hbt
            have q1l : j < l.length := by omega
            obtain ⟨q3, q4⟩ := hd_some q1l (by omega) q2
            have hlj := hb _ (List.getElem_mem q1l)
            obtain ⟨B2, hB2⟩ : ∃ B, B = l[j] := ⟨_, rfl⟩
            have hgl2 : (l.map (batK 124))[j]'(by simpa using q1l) = batK 124 B2 := by rw [List.getElem_map, hB2]
            obtain ⟨z2, hz2⟩ : ∃ z, z = A[j]'(by omega) := ⟨_, rfl⟩
            have hga2 : (A.map natK)[j]'(by omega) = natK z2 := by rw [List.getElem_map, hz2]
            simp only [← hB2, ← hz2] at q3 q4 hlj
            have hgb2 : (B2.map RecD.k)[z2]'(by simpa using q3) = RecD.k y := by rw [List.getElem_map, q4]
            have cl := implLess_k d y
            simp only [RecD.s] at cl
            by_cases hdy : ltR d y
            · have e := bst_new hh2 hbt hdy
              rw [ltB_t hdy] at cl
              (have gx := And.intro (@List.length_map.{0,0}) (And.intro (@bsI_none) (And.intro (@bsI_some) (And.intro (@hgl) (And.intro (@hga) (And.intro (@hgb) (And.intro (@hgl2) (And.intro (@hga2) (And.intro (@hgb2) (And.intro (@hAm) (And.intro (@batK.eq_1) (And.intro @natK.eq_1 @RecD.k.eq_1))))))))))); have q1 := cl; refine go ?_; (repeat' first | exact Ef.mk | apply Lf.mk | refine fun (K : KT) hK hE hT => ?_ | refine fun (KS : KE) hKS => ?_ | refine fun (D : KD) hD => ?_ | refine fun (hg : (_ : Prop)) => ?_ | fail); all_goals (first | (refine Wr.mk ?_; (try clear gx q1); repeat first | clear hK hE hT K | clear hR hE hT K) | assumption | skip))
              refine hR2.out ⟨k + 1, by omega⟩ _ _ _ (by simp only; omega) ?_
              (refine wk_a ?_; simp only [MAB, seval]; refine ⟨rfl, rfl, (by decide), ?_, ?_⟩; all_goals (first | (simp only [WKB, seval, e, bsI_none, bsI_some]; done) | (simp [WKB, seval, e, bsI_none, bsI_some]; done) | simp only [WKB, seval]))
            · have e := bst_old hh2 hbt hdy
              rw [ltB_f hdy] at cl
              (have gx := And.intro (@List.length_map.{0,0}) (And.intro (@bsI_none) (And.intro (@bsI_some) (And.intro (@hgl) (And.intro (@hga) (And.intro (@hgb) (And.intro (@hgl2) (And.intro (@hga2) (And.intro (@hgb2) (And.intro (@hAm) (And.intro (@batK.eq_1) (And.intro @natK.eq_1 @RecD.k.eq_1))))))))))); have q1 := cl; refine go ?_; (repeat' first | exact Ef.mk | apply Lf.mk | refine fun (K : KT) hK hE hT => ?_ | refine fun (KS : KE) hKS => ?_ | refine fun (D : KD) hD => ?_ | refine fun (hg : (_ : Prop)) => ?_ | fail); all_goals (first | (refine Wr.mk ?_; (try clear gx q1); repeat first | clear hK hE hT K | clear hR hE hT K) | assumption | skip))
              refine hR2.out ⟨k + 1, by omega⟩ _ _ _ (by simp only; omega) ?_
              (refine wk_a ?_; simp only [MAB, seval]; refine ⟨rfl, rfl, (by decide), ?_, ?_⟩; all_goals (first | (simp only [WKB, seval, e, bsI_none, bsI_some]; done) | (simp [WKB, seval, e, bsI_none, bsI_some]; done) | simp only [WKB, seval]))

set_option maxHeartbeats 8000000 in
theorem implSortAll_k (l : List RecD) (sz : Nat) (h : 0 < sz) (hsz : sz ≤ 9223372036854775807) (hl : l.length ≤ 1048576) : FnOK Try.prog 99 ⟨1, [(0, some (.ro (l.map RecD.k)))], [.c (.sl 0 3 0 l.length), .c (.v (.int .i64 (sz : Int)))], .c (.sl 1 3 0 l.length), [(1, some (.row 124 ((soL l sz).map RecD.k)))], 2⟩ := by
  have c1 := implBatches_k l sz h hsz hl
  have hp := pcN_le (m := l.length) h
  have hcl := cutR_len l sz (pcN l.length sz)
  have hfl : (cutR l sz (pcN l.length sz)).flatten.length ≤ l.length := by
    rw [(cutR_perm l sz _).length_eq, List.length_take]; omega
  have c2 := implMerge_k (cutR l sz (pcN l.length sz)) (cutR_sorted l sz _) (by omega) (by omega) fun b hb => by have := cut_memlen hb; omega
  have hsl : (mgL (cutR l sz (pcN l.length sz))).length = l.length := (soL_ok l h).1.length_eq
  have he : soL l sz = mgL (cutR l sz (pcN l.length sz)) := rfl
  rw [he]
  rw [hcl, hsl] at c2
  obtain ⟨M, hM⟩ : ∃ M, M = mgL (cutR l sz (pcN l.length sz)) := ⟨_, rfl⟩
  rw [← hM] at c2 hsl ⊢
  obtain ⟨C, hC⟩ : ∃ C, C = cutR l sz (pcN l.length sz) := ⟨_, rfl⟩
  rw [← hC] at c1 c2 hcl
  obtain ⟨P, hP⟩ : ∃ P, P = pcN l.length sz := ⟨_, rfl⟩
  rw [← hP] at c1 c2 hcl hp
  refine fnOK_of true mixed Try.func99 rfl (by rfl) (by rfl) ?_
  have hres := congrArg Array.toList Try.results99
  simp only [Try.ntmps99, BGB, seval]
  (have gx := And.intro @List.length_map.{0,0} @hcl; have q1 := c1; have q2 := c2; refine go ?_; (repeat' first | exact Ef.mk | apply Lf.mk | refine fun (K : KT) hK hE hT => ?_ | refine fun (KS : KE) hKS => ?_ | refine fun (D : KD) hD => ?_ | refine fun (hg : (_ : Prop)) => ?_ | fail); all_goals (first | (refine Wr.mk ?_; (try clear gx q1 q2); repeat first | clear hK hE hT K | clear hR hE hT K) | assumption | skip))
  (refine post_a hres (.inl rfl) ?_; simp only [RSB, ENB, seval, tiAll, true_and]; simp only [MAB, seval]; refine ⟨rfl, rfl, ?_, ?_, ?_⟩ <;> (first | rfl | (simp [WKB, Nat.add_comm, true_and]; done) | (simp only [WKB, seval])))

end Go.Proofs.Ytfnhchcgieeedaa
