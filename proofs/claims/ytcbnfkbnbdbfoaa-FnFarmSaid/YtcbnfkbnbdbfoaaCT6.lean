/-
  Contracts: the reference's merging, sorting. No conditions of its own.
-/
import Derived.Test.YtcbnfkbnbdbfoaaGO
import Derived.Test.YtcbnfkbnbdbfoaaCT5
namespace Go.Proofs.Ytcbnfkbnbdbfoaa
set_option linter.unusedSimpArgs false
set_option linter.unusedVariables false
set_option linter.unusedSimpArgs false
set_option linter.unusedVariables false
set_option linter.defProp false
set_option maxRecDepth 20000
open Go.RowKit
attribute [local irreducible] lexD

/-- The best piece as a number. -/
def bsI (o : Option (Nat × RecD)) : Int := match o with
  | none => -1
  | some (k, _) => (k : Int)
theorem bsI_none : bsI none = -1 := rfl
theorem bsI_some (k : Nat) (x : RecD) : bsI (some (k, x)) = (k : Int) := rfl
theorem bst_zero (l : List (List RecD)) (a : List Nat) : bstTo l a 0 = none := rfl
theorem bst_gone {l : List (List RecD)} {a : List Nat} {k : Nat} (h : hdR l a k = none) : bstTo l a (k + 1) = bstTo l a k := by rw [bstTo, h]
theorem bst_first {l : List (List RecD)} {a : List Nat} {k : Nat} {x : RecD} (h : hdR l a k = some x) (h2 : bstTo l a k = none) : bstTo l a (k + 1) = some (k, x) := by rw [bstTo, h]; dsimp only; rw [h2]
theorem bst_new {l : List (List RecD)} {a : List Nat} {k j : Nat} {x y : RecD} (h : hdR l a k = some x) (h2 : bstTo l a k = some (j, y)) (h3 : ltR x y) : bstTo l a (k + 1) = some (k, x) := by
  rw [bstTo, h]; dsimp only; rw [h2]; dsimp only; rw [if_pos h3]
theorem bst_old {l : List (List RecD)} {a : List Nat} {k j : Nat} {x y : RecD} (h : hdR l a k = some x) (h2 : bstTo l a k = some (j, y)) (h3 : ¬ ltR x y) : bstTo l a (k + 1) = some (j, y) := by
  rw [bstTo, h]; dsimp only; rw [h2]; dsimp only; rw [if_neg h3]
theorem hd_some {l : List (List RecD)} {a : List Nat} {k : Nat} {x : RecD} (hk : k < l.length) (ha : k < a.length) (h : hdR l a k = some x) : ∃ h2 : a[k] < l[k].length, l[k][a[k]] = x := by
  unfold hdR at h
  rw [List.getElem?_eq_getElem hk, Option.bind_some, List.getD_eq_getElem?_getD, List.getElem?_eq_getElem ha, Option.getD_some] at h
  exact List.getElem?_eq_some_iff.1 h
theorem hd_in {l : List (List RecD)} {a : List Nat} {k : Nat} (hk : k < l.length) (ha : k < a.length) (h : a[k] < l[k].length) : hdR l a k = some (l[k][a[k]]) := by
  unfold hdR
  rw [List.getElem?_eq_getElem hk, Option.bind_some, List.getD_eq_getElem?_getD, List.getElem?_eq_getElem ha, Option.getD_some, List.getElem?_eq_getElem h]
theorem hd_out {l : List (List RecD)} {a : List Nat} {k : Nat} (hk : k < l.length) (ha : k < a.length) (h : ¬ a[k] < l[k].length) : hdR l a k = none := by
  unfold hdR
  rw [List.getElem?_eq_getElem hk, Option.bind_some, List.getD_eq_getElem?_getD, List.getElem?_eq_getElem ha, Option.getD_some, List.getElem?_eq_none_iff]
  omega


set_option maxHeartbeats 16000000 in
theorem specMerge_k (l : List (List RecD)) (hs : ∀ b ∈ l, b.Pairwise leR) (hl : l.length ≤ 1048576) (hf : l.flatten.length ≤ 1048576) (hb : ∀ b ∈ l, b.length ≤ 1048576) : FnOK Try.prog 132 ⟨1, [(0, some (.ro (l.map (batK 137))))], [.c (.sl 0 1 0 l.length)], .c (.sl 1 3 0 (mgL l).length), [(1, some (.row 137 ((mgL l).map RecD.k)))], 2⟩ := by
  have hmg := mg_ok hs
  have hrz : (List.replicate l.length 0).map natK = List.replicate l.length [DC.v (.int .i64 0)] := by rw [List.map_replicate]; rfl
  have h0 : mgTo l 0 = ⟨List.replicate l.length 0, []⟩ := rfl
  have hstp : ∀ m, mgTo l (m + 1) = mgStep l (mgTo l m) := fun m => rfl
  have hend : mgL l = (mgTo l l.flatten.length).o := rfl
  obtain ⟨G, hG⟩ : ∃ G : Nat → MgS, G = mgTo l := ⟨_, rfl⟩
  rw [hend]
  simp only [← hG] at hmg h0 hstp ⊢
  clear hG hend
  obtain ⟨tot, htot⟩ : ∃ t, t = l.flatten.length := ⟨_, rfl⟩
  simp only [← htot] at hmg hf ⊢
  refine fnOK_of true mixed Try.func132 rfl (by rfl) (by rfl) ?_
  have hres := congrArg Array.toList Try.results132
  simp only [Try.ntmps132, BGB, seval]
  (have gx := @List.length_map.{0,0}; refine go ?_; (repeat' (first | exact Ef.mk | refine Lf.mk ?_ ?_ | refine fun (K : KT) hK hE hT => ?_ | refine fun (KS : Eff → Prop) hKS => ?_ | refine fun (D : List Keys → Prop) hD => ?_ | refine fun (hg : (_ : Prop)) => ?_ | fail)); all_goals (first | (refine Wr.mk ?_; (try clear gx); repeat (first | (clear hK hE hT; clear K) | (clear hR hE hT; clear K))) | assumption | skip))
  refine loop_v (X := {m : Nat // m ≤ tot}) [8] (fun x => [(3, .c (.sl 1 3 0 (G x.1).o.length)), (4, .c (.sl 2 1 0 l.length))]) (fun x => [(0, some (.ro (l.map (batK 137)))), (1, some (.row 137 ((G x.1).o.map RecD.k))), (2, some (.row 3 ((G x.1).a.map natK)))]) 3 (fun x => tot - x.1) ⟨0, by omega⟩ ?_
  simp only [KPB, seval]
  refine ⟨?_, ?_⟩
  · (refine wk_a ?_; simp only [MAB, seval]; refine ⟨rfl, rfl, (by decide), ?_, ?_⟩; all_goals (first | (simp only [WKB, seval, h0, hrz, List.map_nil, List.length_nil, Nat.reduceLT, Nat.zero_lt_succ]; done) | (simp [WKB, seval, h0, hrz, List.map_nil, List.length_nil]; done) | simp only [WKB, seval]))
  · rintro ⟨m, hm⟩ K hR hE hT
    have ok := hmg m hm
    have hst := hstp m
    obtain ⟨⟨A, O⟩, hS⟩ : ∃ S, S = G m := ⟨_, rfl⟩
    simp only [← hS] at ok hst ⊢
    have oa := ok.al
    have oo := ok.ol
    have ole := ok.le
    dsimp only at oa oo ole
    have hle : ∀ k (h : k < l.length), A[k]'(by omega) ≤ l[k].length := fun k h => by
      have := ole k h
      rw [List.getD_eq_getElem?_getD, List.getElem?_eq_getElem (by omega), List.getElem?_eq_getElem h] at this
      exact this
    have hAm : (A.map natK).length = l.length := by rw [List.length_map]; exact oa
    (have gx := @List.length_map.{0,0}; refine go ?_; (repeat' (first | exact Ef.mk | refine Lf.mk ?_ ?_ | refine fun (K : KT) hK hE hT => ?_ | refine fun (KS : Eff → Prop) hKS => ?_ | refine fun (D : List Keys → Prop) hD => ?_ | refine fun (hg : (_ : Prop)) => ?_ | fail)); all_goals (first | (refine Wr.mk ?_; (try clear gx); repeat (first | (clear hK hE hT; clear K) | (clear hR hE hT; clear K))) | assumption | skip))
    refine loop_v (X := {k : Nat // k ≤ l.length}) [] (fun x => [(5, .c (.v (.int .i64 (bsI (bstTo l A x.1))))), (14, .c (.v (.int .i64 ((x.1 : Nat) : Int))))]) (fun x => [(0, some (.ro (l.map (batK 137)))), (1, some (.row 137 (O.map RecD.k))), (2, some (.row 3 (A.map natK)))]) 3 (fun x => l.length - x.1) ⟨0, by omega⟩ ?_
    simp only [KPB, seval]
    refine ⟨?_, ?_⟩
    · (refine wk_a ?_; simp only [MAB, seval]; refine ⟨rfl, rfl, (by decide), ?_, ?_⟩; all_goals (first | (simp only [WKB, seval, bst_zero, bsI_none, Nat.reduceLT, Nat.zero_lt_succ]; done) | (simp [WKB, seval, bst_zero, bsI_none]; done) | simp only [WKB, seval]))
    · rintro ⟨k, hk⟩ K hR2 hE hT
      rcases Nat.lt_or_ge k l.length with hlt | hge
      case inr =>
        obtain rfl : k = l.length := by omega
        cases hbt : bstTo l A l.length with
        | none =>
          have e := mg_end ok hbt
          rw [← htot] at e
          have eo : G tot = ⟨A, O⟩ := by rw [← e]; exact hS.symm
          (have gx := And.intro @List.length_map.{0,0} @bsI_none; refine go ?_; (repeat' (first | exact Ef.mk | refine Lf.mk ?_ ?_ | refine fun (K : KT) hK hE hT => ?_ | refine fun (KS : Eff → Prop) hKS => ?_ | refine fun (D : List Keys → Prop) hD => ?_ | refine fun (hg : (_ : Prop)) => ?_ | fail)); all_goals (first | (refine Wr.mk ?_; (try clear gx); repeat (first | (clear hK hE hT; clear K) | (clear hR hE hT; clear K))) | assumption | skip))
          (refine post_a hres (.inl rfl) ?_; simp only [RSB, ENB, seval, tiAll, eo]; simp only [MAB, seval]; refine ⟨rfl, rfl, ?_, ?_, ?_⟩ <;> (first | rfl | (simp [WKB, Nat.add_comm, eo]; done) | (simp only [WKB, seval])))
        | some q =>
          obtain ⟨j, d⟩ := q
          have hmt := mg_more ok hbt
          rw [← htot] at hmt
          obtain ⟨q1, q2, _⟩ := bstTo_some hbt
          obtain ⟨q3, q4⟩ := hd_some q1 (by omega) q2
          have e : mgStep l ⟨A, O⟩ = ⟨A.set j (A.getD j 0 + 1), O ++ [d]⟩ := by unfold mgStep; dsimp only; rw [hbt]
          rw [e] at hst
          have hjd : A.getD j 0 = A[j]'(by omega) := by rw [List.getD_eq_getElem?_getD, List.getElem?_eq_getElem (by omega)]; rfl
          rw [hjd] at hst
          have hlj := hb _ (List.getElem_mem q1)
          obtain ⟨B, hB⟩ : ∃ B, B = l[j] := ⟨_, rfl⟩
          have hgl : (l.map (batK 137))[j]'(by simpa using q1) = batK 137 B := by rw [List.getElem_map, hB]
          obtain ⟨z, hz⟩ : ∃ z, z = A[j]'(by omega) := ⟨_, rfl⟩
          have hga : (A.map natK)[j]'(by omega) = natK z := by rw [List.getElem_map, hz]
          simp only [← hB, ← hz] at q3 q4 hlj hst
          have hgb : (B.map RecD.k)[z]'(by simpa using q3) = RecD.k d := by rw [List.getElem_map, q4]
          have hset : (A.map natK).set j [.v (.int .i64 ((z : Int) + 1))] = (A.set j (z + 1)).map natK := by rw [List.map_set]; rfl
          (have gx := And.intro (@List.length_map.{0,0}) (And.intro (@bsI_none) (And.intro (@bsI_some) (And.intro (@hgl) (And.intro (@hga) (And.intro (@hgb) (And.intro (@hAm) (And.intro (@batK.eq_1) (And.intro @natK.eq_1 @RecD.k.eq_1)))))))); refine go ?_; (repeat' (first | exact Ef.mk | refine Lf.mk ?_ ?_ | refine fun (K : KT) hK hE hT => ?_ | refine fun (KS : Eff → Prop) hKS => ?_ | refine fun (D : List Keys → Prop) hD => ?_ | refine fun (hg : (_ : Prop)) => ?_ | fail)); all_goals (first | (refine Wr.mk ?_; (try clear gx); repeat (first | (clear hK hE hT; clear K) | (clear hR hE hT; clear K))) | assumption | skip))
          refine hR.out ⟨m + 1, by omega⟩ _ _ _ (by simp only; omega) ?_
          (refine wk_a ?_; simp only [MAB, seval]; refine ⟨rfl, rfl, (by decide), ?_, ?_⟩; all_goals (first | (simp only [WKB, seval, hst, hset, List.map_append, List.map_cons, List.map_nil, RecD.k, List.length_append, List.length_cons, List.length_nil, Nat.reduceLT, Nat.zero_lt_succ]; done) | (simp [WKB, seval, hst, hset, List.map_append, List.map_cons, List.map_nil, RecD.k, List.length_append, List.length_cons, List.length_nil]; done) | simp only [WKB, seval]))
      case inl =>
        have hlk := hb _ (List.getElem_mem hlt)
        have hak := hle k hlt
        have hka : k < A.length := by omega
        have ho : ¬ A[k] < l[k].length → hdR l A k = none := fun h => hd_out hlt hka h
        have hi : ∀ h : A[k] < l[k].length, hdR l A k = some (l[k][A[k]]) := fun h => hd_in hlt hka h
        obtain ⟨B, hB⟩ : ∃ B, B = l[k] := ⟨_, rfl⟩
        have hgl : (l.map (batK 137))[k]'(by simpa using hlt) = batK 137 B := by rw [List.getElem_map, hB]
        obtain ⟨z, hz⟩ : ∃ z, z = A[k]'(by omega) := ⟨_, rfl⟩
        have hga : (A.map natK)[k]'(by omega) = natK z := by rw [List.getElem_map, hz]
        simp only [← hB, ← hz] at ho hi hlk hak
        by_cases hzB : z < B.length
        case neg =>
          have e := bst_gone (ho hzB)
          (have gx := And.intro (@List.length_map.{0,0}) (And.intro (@hgl) (And.intro (@hga) (And.intro (@hAm) (And.intro @batK.eq_1 @natK.eq_1)))); refine go ?_; (repeat' (first | exact Ef.mk | refine Lf.mk ?_ ?_ | refine fun (K : KT) hK hE hT => ?_ | refine fun (KS : Eff → Prop) hKS => ?_ | refine fun (D : List Keys → Prop) hD => ?_ | refine fun (hg : (_ : Prop)) => ?_ | fail)); all_goals (first | (refine Wr.mk ?_; (try clear gx); repeat (first | (clear hK hE hT; clear K) | (clear hR hE hT; clear K))) | assumption | skip))
          refine hR2.out ⟨k + 1, by omega⟩ _ _ _ (by simp only; omega) ?_
          (refine wk_a ?_; simp only [MAB, seval]; refine ⟨rfl, rfl, (by decide), ?_, ?_⟩; all_goals (first | (simp only [WKB, seval, e, Nat.reduceLT, Nat.zero_lt_succ]; done) | (simp [WKB, seval, e]; done) | simp only [WKB, seval]))
        case pos =>
          have hh2 := hi hzB
          obtain ⟨d, hd⟩ : ∃ d, d = B[z] := ⟨_, rfl⟩
          rw [← hd] at hh2
          have hgb : (B.map RecD.k)[z]'(by simpa using hzB) = RecD.k d := by rw [List.getElem_map, hd]
          cases hbt : bstTo l A k with
          | none =>
            have e := bst_first hh2 hbt
            (have gx := And.intro (@List.length_map.{0,0}) (And.intro (@bsI_none) (And.intro (@bsI_some) (And.intro (@hgl) (And.intro (@hga) (And.intro (@hgb) (And.intro (@hAm) (And.intro (@batK.eq_1) (And.intro @natK.eq_1 @RecD.k.eq_1)))))))); refine go ?_; (repeat' (first | exact Ef.mk | refine Lf.mk ?_ ?_ | refine fun (K : KT) hK hE hT => ?_ | refine fun (KS : Eff → Prop) hKS => ?_ | refine fun (D : List Keys → Prop) hD => ?_ | refine fun (hg : (_ : Prop)) => ?_ | fail)); all_goals (first | (refine Wr.mk ?_; (try clear gx); repeat (first | (clear hK hE hT; clear K) | (clear hR hE hT; clear K))) | assumption | skip))
            refine hR2.out ⟨k + 1, by omega⟩ _ _ _ (by simp only; omega) ?_
            (refine wk_a ?_; simp only [MAB, seval]; refine ⟨rfl, rfl, (by decide), ?_, ?_⟩; all_goals (first | (simp only [WKB, seval, e, bsI_none, bsI_some, Nat.reduceLT, Nat.zero_lt_succ]; done) | (simp [WKB, seval, e, bsI_none, bsI_some]; done) | simp only [WKB, seval]))
          | some q =>
            obtain ⟨j, y⟩ := q
            obtain ⟨q1, q2, _⟩ := bstTo_some hbt
            have q1l : j < l.length := by omega
            obtain ⟨q3, q4⟩ := hd_some q1l (by omega) q2
            have hlj := hb _ (List.getElem_mem q1l)
            obtain ⟨B2, hB2⟩ : ∃ B, B = l[j] := ⟨_, rfl⟩
            have hgl2 : (l.map (batK 137))[j]'(by simpa using q1l) = batK 137 B2 := by rw [List.getElem_map, hB2]
            obtain ⟨z2, hz2⟩ : ∃ z, z = A[j]'(by omega) := ⟨_, rfl⟩
            have hga2 : (A.map natK)[j]'(by omega) = natK z2 := by rw [List.getElem_map, hz2]
            simp only [← hB2, ← hz2] at q3 q4 hlj
            have hgb2 : (B2.map RecD.k)[z2]'(by simpa using q3) = RecD.k y := by rw [List.getElem_map, q4]
            have cl := specLess_k d y
            simp only [RecD.s] at cl
            by_cases hdy : ltR d y
            · have e := bst_new hh2 hbt hdy
              rw [ltB_t hdy] at cl
              (have gx := And.intro (@List.length_map.{0,0}) (And.intro (@bsI_none) (And.intro (@bsI_some) (And.intro (@hgl) (And.intro (@hga) (And.intro (@hgb) (And.intro (@hgl2) (And.intro (@hga2) (And.intro (@hgb2) (And.intro (@hAm) (And.intro (@batK.eq_1) (And.intro @natK.eq_1 @RecD.k.eq_1))))))))))); have q1 := cl; refine go ?_; (repeat' (first | exact Ef.mk | refine Lf.mk ?_ ?_ | refine fun (K : KT) hK hE hT => ?_ | refine fun (KS : Eff → Prop) hKS => ?_ | refine fun (D : List Keys → Prop) hD => ?_ | refine fun (hg : (_ : Prop)) => ?_ | fail)); all_goals (first | (refine Wr.mk ?_; (try clear gx); (try clear q1); repeat (first | (clear hK hE hT; clear K) | (clear hR hE hT; clear K))) | assumption | skip))
              refine hR2.out ⟨k + 1, by omega⟩ _ _ _ (by simp only; omega) ?_
              (refine wk_a ?_; simp only [MAB, seval]; refine ⟨rfl, rfl, (by decide), ?_, ?_⟩; all_goals (first | (simp only [WKB, seval, e, bsI_none, bsI_some, Nat.reduceLT, Nat.zero_lt_succ]; done) | (simp [WKB, seval, e, bsI_none, bsI_some]; done) | simp only [WKB, seval]))
            · have e := bst_old hh2 hbt hdy
              rw [ltB_f hdy] at cl
              (have gx := And.intro (@List.length_map.{0,0}) (And.intro (@bsI_none) (And.intro (@bsI_some) (And.intro (@hgl) (And.intro (@hga) (And.intro (@hgb) (And.intro (@hgl2) (And.intro (@hga2) (And.intro (@hgb2) (And.intro (@hAm) (And.intro (@batK.eq_1) (And.intro @natK.eq_1 @RecD.k.eq_1))))))))))); have q1 := cl; refine go ?_; (repeat' (first | exact Ef.mk | refine Lf.mk ?_ ?_ | refine fun (K : KT) hK hE hT => ?_ | refine fun (KS : Eff → Prop) hKS => ?_ | refine fun (D : List Keys → Prop) hD => ?_ | refine fun (hg : (_ : Prop)) => ?_ | fail)); all_goals (first | (refine Wr.mk ?_; (try clear gx); (try clear q1); repeat (first | (clear hK hE hT; clear K) | (clear hR hE hT; clear K))) | assumption | skip))
              refine hR2.out ⟨k + 1, by omega⟩ _ _ _ (by simp only; omega) ?_
              (refine wk_a ?_; simp only [MAB, seval]; refine ⟨rfl, rfl, (by decide), ?_, ?_⟩; all_goals (first | (simp only [WKB, seval, e, bsI_none, bsI_some, Nat.reduceLT, Nat.zero_lt_succ]; done) | (simp [WKB, seval, e, bsI_none, bsI_some]; done) | simp only [WKB, seval]))

end Go.Proofs.Ytcbnfkbnbdbfoaa
