/-
  The shards of a graph: plain. No conditions of its own.
-/
import Derived.Test.YtcbnfkbnbdbfoaaCT1
import Derived.Test.YtcbnfkbnbdbfoaaSR1
import Derived.Test.YtcbnfkbnbdbfoaaMNB
namespace Go.Proofs.Ytcbnfkbnbdbfoaa
set_option linter.unusedSimpArgs false
set_option linter.unusedVariables false
set_option linter.unusedSimpArgs false
set_option linter.unusedVariables false
set_option linter.defProp false
set_option maxRecDepth 20000
open Go.RowKit

def edgeZ : EdgeD := ⟨0, 0, 0⟩
def rcAt (g : GraphD) (ends : List Int) (i : Nat) : RecD := ⟨(ivN ends (g.Edges.getD i edgeZ).To ends.length : Int), (g.Edges.getD i edgeZ).From, (i : Int)⟩
def rcL (g : GraphD) (ends : List Int) (k : Nat) : List RecD := (List.range k).map (rcAt g ends)
theorem rcL_len (g : GraphD) (ends : List Int) (k : Nat) : (rcL g ends k).length = k := by simp [rcL]
theorem rcL_succ (g : GraphD) (ends : List Int) (k : Nat) : rcL g ends (k + 1) = rcL g ends k ++ [rcAt g ends k] := by simp [rcL, List.range_succ]
def pcN (m size : Nat) : Nat := (m + size - 1) / size
theorem pcN_cov {m size : Nat} (h : 0 < size) : m ≤ pcN m size * size ∧ ∀ k, k < pcN m size → k * size < m := by
  unfold pcN
  have h1 := Nat.div_add_mod (m + size - 1) size
  have h2 := Nat.mod_lt (m + size - 1) h
  constructor
  · rw [Nat.mul_comm]
    omega
  · intro k hk
    have h3 : (k + 1) * size ≤ (m + size - 1) / size * size := Nat.mul_le_mul_right _ hk
    rw [Nat.mul_comm ((m + size - 1) / size), Nat.succ_mul] at h3
    omega
def soL (l : List RecD) (size : Nat) : List RecD := mgL (cutR l size (pcN l.length size))
theorem soL_ok (l : List RecD) {size : Nat} (h : 0 < size) : (soL l size).Perm l ∧ (soL l size).Pairwise leR := by
  obtain ⟨h1, h2⟩ := mgL_perm (cutR_sorted l size (pcN l.length size))
  refine ⟨h1.trans ?_, h2⟩
  have h3 := cutR_perm l size (pcN l.length size)
  rwa [List.take_of_length_le (pcN_cov h).1] at h3
theorem soL_one (l : List RecD) {size : Nat} (h : 0 < size) : soL l size = srtR l := recs_one ((soL_ok l h).1.trans (srtR_perm l).symm) (soL_ok l h).2 (srtR_sorted l)

def seOf (g : GraphD) (r : RecD) : SEdgeD := ⟨(g.Edges.getD r.C.toNat edgeZ).From, (g.Edges.getD r.C.toNat edgeZ).To, (g.Edges.getD r.C.toNat edgeZ).W, r.C, 0⟩
def dealt (g : GraphD) (l : List RecD) (p : Nat) : List SEdgeD := (l.filter fun r => decide (r.A = (p : Int))).map (seOf g)
def shAt (g : GraphD) (ends : List Int) (l : List RecD) (p : Nat) : ShardD := ⟨lastE ends p, lastE ends (p + 1), dealt g l p⟩
def shL (g : GraphD) (ends : List Int) (l : List RecD) : List ShardD := (List.range ends.length).map (shAt g ends l)
theorem dealt_hit {g : GraphD} {l : List RecD} {r : RecD} {p : Nat} (h : r.A = (p : Int)) : dealt g (l ++ [r]) p = dealt g l p ++ [seOf g r] := by
  unfold dealt
  rw [List.filter_append, List.map_append]
  simp [h]
theorem dealt_miss {g : GraphD} {l : List RecD} {r : RecD} {p : Nat} (h : ¬ r.A = (p : Int)) : dealt g (l ++ [r]) p = dealt g l p := by
  unfold dealt
  rw [List.filter_append, List.map_append]
  simp [h]
theorem dealt_nil (g : GraphD) (p : Nat) : dealt g [] p = [] := rfl
theorem dealt_le (g : GraphD) (l : List RecD) (p : Nat) : (dealt g l p).length ≤ l.length := by
  unfold dealt
  rw [List.length_map]
  exact List.length_filter_le _ _
theorem shL_len (g : GraphD) (ends : List Int) (l : List RecD) : (shL g ends l).length = ends.length := by simp [shL]
theorem shL_get {g : GraphD} {ends : List Int} {l : List RecD} {p : Nat} (h : p < (shL g ends l).length) : (shL g ends l)[p] = shAt g ends l p := by simp [shL]

/-- Parts by A make up the whole. -/
theorem dealt_all {g : GraphD} : ∀ {n : Nat} {l : List RecD}, (∀ r ∈ l, ∃ k : Nat, r.A = (k : Int) ∧ k < n) → ((List.range n).flatMap (dealt g l)).Perm (l.map (seOf g)) := by
  have key : ∀ (l : List RecD) (n : Nat), ((List.range n).flatMap (dealt g l)).Perm ((l.filter fun r => decide (0 ≤ r.A ∧ r.A < (n : Int))).map (seOf g)) := by
    intro l n
    induction n with
    | zero =>
      have : (l.filter fun r => decide (0 ≤ r.A ∧ r.A < ((0 : Nat) : Int))) = [] := by
        rw [List.filter_eq_nil_iff]
        intro r _
        simp only [decide_eq_true_eq]; omega
      rw [this]; simp
    | succ n ih =>
      rw [List.range_succ, List.flatMap_append, List.flatMap_cons, List.flatMap_nil, List.append_nil]
      refine (ih.append_right _).trans ?_
      unfold dealt
      rw [← List.map_append]
      refine List.Perm.map _ ?_
      clear ih
      induction l with
      | nil => simp
      | cons r l ih =>
        rw [List.filter_cons, List.filter_cons, List.filter_cons]
        by_cases h1 : 0 ≤ r.A ∧ r.A < (n : Int)
        · rw [if_pos (by simpa using h1), if_neg (by simp only [decide_eq_true_eq]; omega), if_pos (by simp only [decide_eq_true_eq]; omega)]
          rw [List.cons_append]
          exact List.Perm.cons _ ih
        · rw [if_neg (by simpa using h1)]
          by_cases h2 : r.A = (n : Int)
          · rw [if_pos (by simpa using h2), if_pos (by simp only [decide_eq_true_eq]; omega)]
            exact List.perm_middle.trans (List.Perm.cons _ ih)
          · rw [if_neg (by simpa using h2), if_neg (by simp only [decide_eq_true_eq]; omega)]
            exact ih
  intro n l h
  have h1 := key l n
  have h2 : (l.filter fun r => decide (0 ≤ r.A ∧ r.A < (n : Int))) = l := by
    rw [List.filter_eq_self]
    intro r hr
    obtain ⟨k, h3, h4⟩ := h r hr
    simp only [decide_eq_true_eq]; omega
  rwa [h2] at h1

def fmOk (g : GraphD) (b size : Int) : Bool := cutOk g b && decide (1 ≤ size)
def srtG (g : GraphD) (ends : List Int) (size : Nat) : List RecD := soL (rcL g ends g.Edges.length) size
def farmO (g : GraphD) (b : Int) (size : Nat) : FarmD := ⟨g.N, cutL g b, shL g (cutL g b) (srtG g (cutL g b) size)⟩
def farmR (g : GraphD) (b size : Int) : FarmD := if fmOk g b size then farmO g b size.toNat else ⟨0, [], []⟩

theorem srtG_mem {g : GraphD} {ends : List Int} (hg : graphOk g = true) (he : EndsOk g.N ends) {size : Nat} (h : 0 < size) : ∀ r ∈ srtG g ends size, ∃ i, ∃ hi : i < g.Edges.length, r = rcAt g ends i ∧ r.C = (i : Int) ∧ seOf g r = ⟨g.Edges[i].From, g.Edges[i].To, g.Edges[i].W, (i : Int), 0⟩ ∧ ∃ k : Nat, r.A = (k : Int) ∧ ∃ hk : k < ends.length, lastE ends k ≤ g.Edges[i].To ∧ g.Edges[i].To < ends[k] := by
  intro r hr
  have h1 := (soL_ok (rcL g ends g.Edges.length) h).1.subset hr
  obtain ⟨i, hi, rfl⟩ := List.mem_map.1 h1
  rw [List.mem_range] at hi
  obtain ⟨_, _, _, g4⟩ := graphOk_in hg
  have g5 := g4 i hi
  have e : g.Edges.getD i edgeZ = g.Edges[i] := by rw [List.getD_eq_getElem?_getD, List.getElem?_eq_getElem hi]; rfl
  obtain ⟨a, b, c⟩ := iv_in he (v := g.Edges[i].To) g5.2.2.1 g5.2.2.2.1
  refine ⟨i, hi, rfl, rfl, ?_, _, ?_, a, b, c⟩
  · unfold seOf rcAt
    simp only [Int.toNat_natCast, e]
  · unfold rcAt
    simp only [e]
theorem srtG_len (g : GraphD) (ends : List Int) {size : Nat} (h : 0 < size) : (srtG g ends size).length = g.Edges.length := by
  have := (soL_ok (rcL g ends g.Edges.length) h).1.length_eq
  rw [rcL_len] at this
  exact this

theorem shL_all {g : GraphD} {ends : List Int} (hg : graphOk g = true) (he : EndsOk g.N ends) {size : Nat} (h : 0 < size) : (allE (shL g ends (srtG g ends size))).Perm ((List.range g.Edges.length).map fun i => seOf g (rcAt g ends i)) := by
  have h1 : allE (shL g ends (srtG g ends size)) = (List.range ends.length).flatMap (dealt g (srtG g ends size)) := by
    unfold allE shL
    rw [List.flatMap_map]; rfl
  rw [h1]
  refine (dealt_all fun r hr => ?_).trans ?_
  · obtain ⟨i, hi, _, _, _, k, e, hk, _⟩ := srtG_mem hg he h r hr
    exact ⟨k, e, hk⟩
  · have := (soL_ok (rcL g ends g.Edges.length) h).1.map (seOf g)
    unfold rcL at this
    rwa [List.map_map] at this

theorem okL_perm {n : Int} {m : Nat} {L M : List SEdgeD} (h : L.Perm M) (h1 : ∀ e ∈ M, 0 ≤ e.Index ∧ e.From < n ∧ e.Index < m) (h2 : (M.map (·.Index)).Nodup) : okL n m L := by
  intro i hi
  refine ⟨h1 _ (h.subset (List.getElem_mem hi)), fun j hj => ?_⟩
  have h3 : (L.map (·.Index)).Nodup := (h.map _).nodup_iff.2 h2
  unfold List.Nodup at h3
  rw [List.pairwise_iff_getElem] at h3
  have := h3 j i (by simp; omega) (by simpa using hi) hj
  simpa using this

theorem dealt_ord {g : GraphD} {ends : List Int} (hg : graphOk g = true) (he : EndsOk g.N ends) {size : Nat} (h : 0 < size) (p : Nat) : (dealt g (srtG g ends size) p).Pairwise ordOk := by
  unfold dealt
  rw [List.pairwise_map]
  have h1 : ((srtG g ends size).filter fun r => decide (r.A = (p : Int))).Pairwise leR := (soL_ok (rcL g ends g.Edges.length) h).2.sublist List.filter_sublist
  have h2 : ((srtG g ends size).map (·.C)).Nodup := by
    have h3 := (soL_ok (rcL g ends g.Edges.length) h).1.map (·.C)
    refine h3.nodup_iff.2 ?_
    unfold rcL
    rw [List.map_map]
    unfold List.Nodup
    rw [List.pairwise_map]
    refine List.Pairwise.imp ?_ List.nodup_range
    intro a b hab hc
    simp only [Function.comp_def, rcAt] at hc
    omega
  have h4 : ((srtG g ends size).filter fun r => decide (r.A = (p : Int))).Pairwise fun a b => a.C ≠ b.C := by
    unfold List.Nodup at h2
    rw [List.pairwise_map] at h2
    exact h2.sublist List.filter_sublist
  refine (h1.and h4).imp_of_mem ?_
  rintro a b ha hb ⟨q1, q2⟩
  have ha' := List.mem_filter.1 ha
  have hb' := List.mem_filter.1 hb
  obtain ⟨i, hi, ea, ca, sa, _⟩ := srtG_mem hg he h a ha'.1
  obtain ⟨j, hj, eb, cb, sb, _⟩ := srtG_mem hg he h b hb'.1
  have a1 : a.A = p := by simpa using ha'.2
  have b1 : b.A = p := by simpa using hb'.2
  have fa : a.B = g.Edges[i].From := by
    rw [ea]; unfold rcAt
    rw [List.getD_eq_getElem?_getD, List.getElem?_eq_getElem hi]; rfl
  have fb : b.B = g.Edges[j].From := by
    rw [eb]; unfold rcAt
    rw [List.getD_eq_getElem?_getD, List.getElem?_eq_getElem hj]; rfl
  rw [sa, sb]
  unfold ordOk
  dsimp only
  unfold leR ltR at q1
  rw [← fa, ← fb]
  omega

theorem farmO_ok {g : GraphD} {b : Int} (h : cutOk g b = true) {size : Nat} (hs : 0 < size) : FarmOk (farmO g b size) ∧ edSum (farmO g b size).Shards = g.Edges.length := by
  obtain ⟨hg, hb, hb'⟩ := cutOk_out h
  obtain ⟨g1, g2, g3, g4⟩ := graphOk_in hg
  have he := cut_ends h
  obtain ⟨ends, hends⟩ : ∃ ends, ends = cutL g b := ⟨_, rfl⟩
  have hl0 := cut_len g b
  unfold farmO
  rw [← hends] at he hl0 ⊢
  have hl := shL_len g ends (srtG g ends size)
  have hperm := shL_all hg he hs
  have hsum : edSum (shL g ends (srtG g ends size)) = g.Edges.length := by
    rw [← allE_len, hperm.length_eq]; simp
  have hmem : ∀ p, ∀ e ∈ dealt g (srtG g ends size) p, ∃ i, ∃ hi : i < g.Edges.length, e = ⟨g.Edges[i].From, g.Edges[i].To, g.Edges[i].W, (i : Int), 0⟩ ∧ ∃ hk : p < ends.length, lastE ends p ≤ g.Edges[i].To ∧ g.Edges[i].To < ends[p] := by
    intro p e hem
    unfold dealt at hem
    obtain ⟨r, hr, rfl⟩ := List.mem_map.1 hem
    obtain ⟨hr1, hr2⟩ := List.mem_filter.1 hr
    obtain ⟨i, hi, _, _, es, k, ek, hk, q1, q2⟩ := srtG_mem hg he hs r hr1
    have : k = p := by
      have : r.A = p := by simpa using hr2
      omega
    subst this
    exact ⟨i, hi, es, hk, q1, q2⟩
  refine ⟨⟨he, hl, ?_, g1, g2, ?_, ?_, ?_, ?_⟩, hsum⟩
  · intro p hp _
    dsimp only at hp ⊢
    rw [shL_get hp]
    unfold shAt
    dsimp only
    refine ⟨rfl, fun h2 => lastE_succ h2, fun y hy => ?_⟩
    obtain ⟨i, hi, rfl, _⟩ := hmem p y hy
    dsimp only; omega
  · intro p hp _
    dsimp only at hp ⊢
    rw [hl] at hp
    have hinc := he.2.2.1 p hp hp
    have hle : ends[p] ≤ g.N := by
      have := lastE_mono he.2.2.1 (i := p + 1) (j := ends.length) (by omega) (Nat.le_refl _)
      rwa [lastE_succ hp, he.2.2.2] at this
    have h0 : 0 ≤ lastE ends p := by
      have := lastE_mono he.2.2.1 (i := 0) (j := p) (by omega) (by omega)
      rwa [lastE_zero] at this
    constructor
    · rw [shL_get (by rw [hl]; exact hp)]
      refine ⟨⟨h0, ?_, ?_, ?_⟩, ?_⟩
      · show lastE ends p < lastE ends (p + 1)
        rw [lastE_succ hp]; exact hinc
      · show lastE ends (p + 1) ≤ 150
        rw [lastE_succ hp]; omega
      · show (dealt g (srtG g ends size) p).length ≤ 400
        have := dealt_le g (srtG g ends size) p
        rw [srtG_len g ends hs] at this
        omega
      · intro i hi _
        have hi' : i < (dealt g (srtG g ends size) p).length := hi
        have hed : (shAt g ends (srtG g ends size) p).Edges[i] = (dealt g (srtG g ends size) p)[i] := rfl
        obtain ⟨t, ht, et, hk, q1, q2⟩ := hmem p _ (List.getElem_mem hi')
        have g5 := g4 t ht
        constructor
        · show edOk _ (dealt g (srtG g ends size) p)[i]
          rw [et]
          unfold edOk
          dsimp only [shAt]
          rw [lastE_succ hp]
          omega
        · intro h0
          have := List.pairwise_iff_getElem.1 (dealt_ord hg he hs p) (i - 1) i (by omega) hi' (by omega)
          exact this
    · rw [shL_get (by rw [hl]; exact hp)]
      show lastE ends p = _
      cases p with
      | zero => rw [lastE_zero, lastH_zero]
      | succ p => rw [lastH_succ (by rw [hl]; omega), shL_get (by rw [hl]; omega)]; rfl
  · dsimp only
    rw [hl]
    rcases Nat.eq_zero_or_pos ends.length with h0 | h0
    · rw [h0, lastH_zero, ← he.2.2.2, h0, lastE_zero]
    · obtain ⟨k, hk⟩ : ∃ k, ends.length = k + 1 := ⟨ends.length - 1, by omega⟩
      rw [hk, lastH_succ (by rw [hl]; omega), shL_get (by rw [hl]; omega)]
      show lastE ends (k + 1) = g.N
      rw [← hk]; exact he.2.2.2
  · dsimp only
    rw [hsum]; exact g3
  · dsimp only
    rw [hsum]
    refine okL_perm hperm (fun e hem => ?_) ?_
    · obtain ⟨i, hi, rfl⟩ := List.mem_map.1 hem
      rw [List.mem_range] at hi
      have g5 := g4 i hi
      unfold seOf rcAt
      dsimp only
      rw [Int.toNat_natCast, List.getD_eq_getElem?_getD, List.getElem?_eq_getElem hi]
      simp only [Option.getD_some]
      omega
    · rw [List.map_map]
      unfold List.Nodup
      rw [List.pairwise_map]
      refine List.Pairwise.imp ?_ List.nodup_range
      intro a b hab hc
      simp only [Function.comp_def, seOf, rcAt] at hc
      omega

theorem farm_yes {g : GraphD} {b size : Int} (h : fmOk g b size = true) : farmR g b size = farmO g b size.toNat ∧ cutOk g b = true ∧ 1 ≤ size := by
  refine ⟨if_pos h, ?_⟩
  unfold fmOk at h
  simpa using h
theorem farm_no {g : GraphD} {b size : Int} (h : fmOk g b size = false) : farmR g b size = ⟨0, [], []⟩ := by unfold farmR; rw [h]; rfl
theorem farmR_ok {g : GraphD} {b size : Int} (h : fmOk g b size = true) : FarmOk (farmR g b size) ∧ edSum (farmR g b size).Shards = g.Edges.length := by
  obtain ⟨h1, h2, h3⟩ := farm_yes h
  rw [h1]
  exact farmO_ok h2 (by omega)

end Go.Proofs.Ytcbnfkbnbdbfoaa
