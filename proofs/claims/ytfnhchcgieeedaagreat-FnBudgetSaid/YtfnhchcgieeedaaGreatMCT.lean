/-
  The engine, texts SR1 CT1 CT2 CT3 CT4 CT5 CT6 CT7 in one. No conditions of its own.
-/
import Derived.Test.YtfnhchcgieeedaaGreatGO
import Derived.Test.YtfnhchcgieeedaaGreatZz1
import Derived.Test.YtfnhchcgieeedaaGreatMKB
import Derived.Test.YtfnhchcgieeedaaGreatMNA
import Derived.Test.YtfnhchcgieeedaaGreatMNB
namespace Go.Proofs.YtfnhchcgieeedaaGreat
set_option linter.unusedSimpArgs false
set_option linter.unusedVariables false
set_option linter.unusedSimpArgs false
set_option linter.unusedVariables false
set_option linter.defProp false

structure RecD where
  A : Int
  B : Int
  C : Int
deriving DecidableEq

def ltR (x y : RecD) : Prop := x.A < y.A ∨ (x.A = y.A ∧ (x.B < y.B ∨ (x.B = y.B ∧ x.C < y.C)))
instance (x y : RecD) : Decidable (ltR x y) := inferInstanceAs (Decidable (_ ∨ _))
theorem ltR_irr (x : RecD) : ¬ ltR x x := by unfold ltR; omega
theorem ltR_trans {x y z : RecD} (h : ltR x y) (h' : ltR y z) : ltR x z := by unfold ltR at *; omega
theorem ltR_asymm {x y : RecD} (h : ltR x y) : ¬ ltR y x := by unfold ltR at *; omega
/-- not behind. -/
def leR (x y : RecD) : Prop := ¬ ltR y x
instance (x y : RecD) : Decidable (leR x y) := inferInstanceAs (Decidable (¬ _))
theorem leR_refl (x : RecD) : leR x x := ltR_irr x
theorem leR_trans {x y z : RecD} (h : leR x y) (h' : leR y z) : leR x z := by unfold leR ltR at *; omega
theorem leR_anti {x y : RecD} (h : leR x y) (h' : leR y x) : x = y := by
  obtain ⟨a, b, c⟩ := x
  obtain ⟨a', b', c'⟩ := y
  unfold leR ltR at *
  simp only [RecD.mk.injEq]
  dsimp only at *
  omega
theorem ltR_le {x y : RecD} (h : ltR x y) : leR x y := ltR_asymm h

theorem recs_one : ∀ {l m : List RecD}, l.Perm m → l.Pairwise leR → m.Pairwise leR → l = m
  | [], m, h, _, _ => h.nil_eq
  | a :: l, [], h, _, _ => absurd h.length_eq (by simp)
  | a :: l, b :: m, h, h1, h2 => by
    have ha : a ∈ b :: m := h.subset (.head _)
    have hb : b ∈ a :: l := h.symm.subset (.head _)
    have e : a = b := by
      rcases List.mem_cons.1 ha with rfl | ha
      · rfl
      rcases List.mem_cons.1 hb with rfl | hb
      · rfl
      exact leR_anti ((List.pairwise_cons.1 h1).1 b hb) ((List.pairwise_cons.1 h2).1 a ha)
    subst e
    rw [recs_one (List.perm_cons _ |>.1 h) (List.pairwise_cons.1 h1).2 (List.pairwise_cons.1 h2).2]

/-- Where a record is put in: behind all that are not behind it. -/
def inrAt (l : List RecD) (x : RecD) : Nat := (l.takeWhile fun y => !decide (ltR x y)).length
def inrL (l : List RecD) (x : RecD) : List RecD := l.take (inrAt l x) ++ x :: l.drop (inrAt l x)
theorem inrL_perm (l : List RecD) (x : RecD) : (inrL l x).Perm (x :: l) := by
  unfold inrL
  refine List.perm_middle.trans ?_
  rw [List.take_append_drop]
theorem inrL_cons (y : RecD) (l : List RecD) (x : RecD) : inrL (y :: l) x = if ltR x y then x :: y :: l else y :: inrL l x := by
  unfold inrL inrAt
  rw [List.takeWhile_cons]
  by_cases h : ltR x y
  · rw [if_neg (by simpa using h), if_pos h]; rfl
  · rw [if_pos (by simpa using h), if_neg h]; rfl
theorem inrL_sorted : ∀ (l : List RecD) (x : RecD), l.Pairwise leR → (inrL l x).Pairwise leR
  | [], x, _ => by simp [inrL, inrAt]
  | y :: l, x, h => by
    rw [inrL_cons]
    obtain ⟨h1, h2⟩ := List.pairwise_cons.1 h
    split
    · rename_i hlt
      refine List.pairwise_cons.2 ⟨fun z hz => ?_, h⟩
      rcases List.mem_cons.1 hz with rfl | hz
      · exact ltR_le hlt
      · exact leR_trans (ltR_le hlt) (h1 z hz)
    · rename_i hge
      refine List.pairwise_cons.2 ⟨fun z hz => ?_, inrL_sorted l x h2⟩
      rcases List.mem_cons.1 ((inrL_perm l x).subset hz) with rfl | hz
      · exact hge
      · exact h1 z hz
def inrAll (l xs : List RecD) : List RecD := xs.foldl inrL l
theorem inrAll_perm : ∀ (xs l : List RecD), (inrAll l xs).Perm (xs ++ l)
  | [], l => .refl _
  | x :: xs, l => by
    refine (inrAll_perm xs (inrL l x)).trans ?_
    refine ((inrL_perm l x).append_left xs).trans ?_
    exact List.perm_middle
theorem inrAll_sorted : ∀ (xs l : List RecD), l.Pairwise leR → (inrAll l xs).Pairwise leR
  | [], _, h => h
  | x :: xs, l, h => inrAll_sorted xs (inrL l x) (inrL_sorted l x h)
/-- Records in order. -/
def srtR (l : List RecD) : List RecD := inrAll [] l
theorem srtR_perm (l : List RecD) : (srtR l).Perm l := by
  have := inrAll_perm l []
  rwa [List.append_nil] at this
theorem srtR_sorted (l : List RecD) : (srtR l).Pairwise leR := inrAll_sorted l [] .nil
theorem srtR_len (l : List RecD) : (srtR l).length = l.length := (srtR_perm l).length_eq
/-- The sorted pieces. -/
def cutR (l : List RecD) (size : Nat) : Nat → List (List RecD)
  | 0 => []
  | k + 1 => cutR l size k ++ [srtR ((l.drop (k * size)).take size)]
theorem cutR_len (l : List RecD) (size : Nat) : ∀ k, (cutR l size k).length = k
  | 0 => rfl
  | k + 1 => by rw [cutR, List.length_append, cutR_len l size k]; rfl
theorem cutR_sorted (l : List RecD) (size : Nat) : ∀ k, ∀ b ∈ cutR l size k, b.Pairwise leR
  | 0, b, h => by simp [cutR] at h
  | k + 1, b, h => by
    rw [cutR, List.mem_append, List.mem_singleton] at h
    rcases h with h | rfl
    · exact cutR_sorted l size k b h
    · exact srtR_sorted _
theorem cutR_perm (l : List RecD) (size : Nat) : ∀ k, ((cutR l size k).flatten).Perm (l.take (k * size))
  | 0 => by simp [cutR]
  | k + 1 => by
    rw [cutR, List.flatten_append, Nat.succ_mul, List.take_add]
    refine (cutR_perm l size k).append ?_
    simp only [List.flatten_cons, List.flatten_nil, List.append_nil]
    exact srtR_perm _

/-! Merging. -/
def hdR (l : List (List RecD)) (a : List Nat) (k : Nat) : Option RecD := (l[k]?).bind fun b => b[a.getD k 0]?
def bstTo (l : List (List RecD)) (a : List Nat) : Nat → Option (Nat × RecD)
  | 0 => none
  | k + 1 => match hdR l a k with
    | none => bstTo l a k
    | some x => match bstTo l a k with
      | none => some (k, x)
      | some (j, y) => if ltR x y then some (k, x) else some (j, y)
/-- The best one stands at the head of its piece, and is not behind any head. -/
theorem bstTo_some {l : List (List RecD)} {a : List Nat} : ∀ {n : Nat} {k : Nat} {x : RecD}, bstTo l a n = some (k, x) → k < n ∧ hdR l a k = some x ∧ ∀ j y, j < n → hdR l a j = some y → leR x y
  | n + 1, k, x, h => by
    rw [bstTo] at h
    cases hn : hdR l a n with
    | none =>
      rw [hn] at h
      obtain ⟨q1, q2, q3⟩ := bstTo_some (n := n) h
      refine ⟨by omega, q2, fun j y hj hy => ?_⟩
      by_cases e : j = n
      · subst e; rw [hn] at hy; cases hy
      · exact q3 j y (by omega) hy
    | some z =>
      rw [hn] at h
      dsimp only at h
      cases hb : bstTo l a n with
      | none =>
        rw [hb] at h
        cases h
        refine ⟨by omega, hn, fun j y hj hy => ?_⟩
        by_cases e : j = n
        · subst e; rw [hn] at hy; cases hy; exact leR_refl _
        · exact absurd (bstTo_none hb j (by omega)) (by rw [hy]; simp)
      | some p =>
        obtain ⟨i, u⟩ := p
        rw [hb] at h
        dsimp only at h
        obtain ⟨q1, q2, q3⟩ := bstTo_some (n := n) hb
        split at h
        · rename_i hlt
          cases h
          refine ⟨by omega, hn, fun j y hj hy => ?_⟩
          by_cases e : j = n
          · subst e; rw [hn] at hy; cases hy; exact leR_refl _
          · exact leR_trans (ltR_le hlt) (q3 j y (by omega) hy)
        · rename_i hge
          cases h
          refine ⟨by omega, q2, fun j y hj hy => ?_⟩
          by_cases e : j = n
          · subst e; rw [hn] at hy; cases hy; exact hge
          · exact q3 j y (by omega) hy
where bstTo_none {l : List (List RecD)} {a : List Nat} : ∀ {n : Nat}, bstTo l a n = none → ∀ j, j < n → hdR l a j = none
  | n + 1, h, j, hj => by
    rw [bstTo] at h
    cases hn : hdR l a n with
    | none =>
      rw [hn] at h
      by_cases e : j = n
      · subst e; exact hn
      · exact bstTo_none (n := n) h j (by omega)
    | some z =>
      rw [hn] at h
      dsimp only at h
      cases hb : bstTo l a n with
      | none => rw [hb] at h; cases h
      | some p =>
        rw [hb] at h
        dsimp only at h
        split at h <;> cases h

/-- What is left of the pieces. -/
def rstR (l : List (List RecD)) (a : List Nat) : List (List RecD) := List.zipWith (fun b i => b.drop i) l a
structure MgS where
  a : List Nat
  o : List RecD
def mgStep (l : List (List RecD)) (s : MgS) : MgS := match bstTo l s.a l.length with
  | none => s
  | some (k, x) => ⟨s.a.set k (s.a.getD k 0 + 1), s.o ++ [x]⟩
def mgTo (l : List (List RecD)) : Nat → MgS
  | 0 => ⟨List.replicate l.length 0, []⟩
  | m + 1 => mgStep l (mgTo l m)
def mgL (l : List (List RecD)) : List RecD := (mgTo l l.flatten.length).o

theorem rstR_get {l : List (List RecD)} {a : List Nat} (h : a.length = l.length) {k : Nat} (hk : k < l.length) : (rstR l a)[k]? = some (l[k].drop (a.getD k 0)) := by
  unfold rstR
  rw [List.getElem?_zipWith, List.getElem?_eq_getElem hk, List.getElem?_eq_getElem (by omega), List.getD_eq_getElem?_getD, List.getElem?_eq_getElem (by omega)]; rfl
theorem flat_set {α : Type} : ∀ (l : List (List α)) (k : Nat) (x : α) (b : List α), l[k]? = some (x :: b) → l.flatten.Perm (x :: (l.set k b).flatten)
  | [], k, x, b, h => by simp at h
  | c :: l, 0, x, b, h => by
    simp at h; subst h; simp
  | c :: l, k + 1, x, b, h => by
    simp only [List.getElem?_cons_succ] at h
    simp only [List.set_cons_succ, List.flatten_cons]
    exact ((flat_set l k x b h).append_left c).trans List.perm_middle
theorem rstR_set {l : List (List RecD)} {a : List Nat} (h : a.length = l.length) {k : Nat} (hk : k < l.length) : rstR l (a.set k (a.getD k 0 + 1)) = (rstR l a).set k (l[k].drop (a.getD k 0 + 1)) := by
  apply List.ext_getElem
  · simp [rstR]
  · intro j h1 h2
    have hj : j < l.length := by simp [rstR] at h1; omega
    simp only [rstR, List.getElem_zipWith, List.getElem_set]
    split
    · rename_i e; subst e; rfl
    · rfl

/-- All the way: the pieces' rests and what is out. -/
structure MgOk (l : List (List RecD)) (m : Nat) (s : MgS) : Prop where
  al : s.a.length = l.length
  ol : s.o.length = m
  pm : (s.o ++ (rstR l s.a).flatten).Perm l.flatten
  le : ∀ k, k < l.length → s.a.getD k 0 ≤ (l[k]?.getD []).length
  so : s.o.Pairwise leR
  lo : ∀ x ∈ s.o, ∀ b ∈ rstR l s.a, ∀ y ∈ b, leR x y

theorem hdR_rst {l : List (List RecD)} {a : List Nat} (h : a.length = l.length) {k : Nat} {x : RecD} (hx : hdR l a k = some x) : ∃ hk : k < l.length, a.getD k 0 < l[k].length ∧ (rstR l a)[k]? = some (x :: l[k].drop (a.getD k 0 + 1)) := by
  unfold hdR at hx
  rcases Nat.lt_or_ge k l.length with hk | hk
  case inr => rw [List.getElem?_eq_none hk] at hx; cases hx
  case inl =>
    rw [List.getElem?_eq_getElem hk, Option.bind_some] at hx
    obtain ⟨hi, he⟩ := List.getElem?_eq_some_iff.1 hx
    refine ⟨hk, hi, ?_⟩
    rw [rstR_get h hk, ← he, List.drop_eq_getElem_cons hi]
theorem hdR_none {l : List (List RecD)} {a : List Nat} (h : a.length = l.length) (hn : ∀ j, j < l.length → hdR l a j = none) : (rstR l a).flatten = [] := by
  rw [List.flatten_eq_nil_iff]
  intro b hb
  obtain ⟨k, hk, rfl⟩ := List.getElem_of_mem hb
  have hkl : k < l.length := by simp [rstR] at hk; omega
  have h1 := hn k hkl
  unfold hdR at h1
  rw [List.getElem?_eq_getElem hkl, Option.bind_some, List.getElem?_eq_none_iff] at h1
  have h2 := rstR_get h hkl
  rw [List.getElem?_eq_getElem hk] at h2
  rw [Option.some.inj h2]
  exact List.drop_eq_nil_of_le h1

theorem mg_ok {l : List (List RecD)} (hs : ∀ b ∈ l, b.Pairwise leR) : ∀ m, m ≤ l.flatten.length → MgOk l m (mgTo l m)
  | 0, _ => by
    have e : rstR l (List.replicate l.length 0) = l := by
      apply List.ext_getElem
      · simp [rstR]
      · intro i h1 h2; simp [rstR]
    refine ⟨by simp [mgTo], rfl, by simp [mgTo, e], fun k hk => ?_, .nil, fun x hx => by simp [mgTo] at hx⟩
    simp only [mgTo, List.getD_eq_getElem?_getD]
    rw [List.getElem?_replicate]
    split <;> simp
  | m + 1, hm => by
    have ih := mg_ok hs m (by omega)
    rw [mgTo]
    unfold mgStep
    obtain ⟨⟨a, o⟩, hst⟩ : ∃ s, s = mgTo l m := ⟨_, rfl⟩
    rw [← hst] at ih ⊢
    obtain ⟨al, ol, pm, le, so, lo⟩ := ih
    dsimp only at *
    cases hb : bstTo l a l.length with
    | none =>
      have := hdR_none al (bstTo_some.bstTo_none hb)
      rw [this, List.append_nil] at pm
      have := pm.length_eq
      omega
    | some p =>
      obtain ⟨k, x⟩ := p
      obtain ⟨q1, q2, q3⟩ := bstTo_some hb
      obtain ⟨hk, hi, hr⟩ := hdR_rst al q2
      have hset := rstR_set al hk
      have hxm : ∀ b ∈ rstR l a, ∀ y ∈ b, leR x y := fun b hb y hy => by
        obtain ⟨j, hj, rfl⟩ := List.getElem_of_mem hb
        have hjl : j < l.length := by simp [rstR] at hj; omega
        have h2 := rstR_get al hjl
        rw [List.getElem?_eq_getElem hj] at h2
        have h3 := Option.some.inj h2
        rw [h3] at hy
        have hjs : (l[j]).Pairwise leR := hs _ (List.getElem_mem hjl)
        have hd : a.getD j 0 < l[j].length := by
          rcases Nat.lt_or_ge (a.getD j 0) l[j].length with h | h
          · exact h
          · rw [List.drop_eq_nil_of_le h] at hy; simp at hy
        have h4 := hjs.sublist (List.drop_sublist (a.getD j 0) _)
        rw [List.drop_eq_getElem_cons hd] at hy h4
        have h5 : leR x l[j][a.getD j 0] := q3 j _ hjl (by unfold hdR; rw [List.getElem?_eq_getElem hjl, Option.bind_some, List.getElem?_eq_getElem hd])
        rcases List.mem_cons.1 hy with rfl | hy
        · exact h5
        · exact leR_trans h5 ((List.pairwise_cons.1 h4).1 y hy)
      have hmem : ∀ b ∈ (rstR l a).set k (l[k].drop (a.getD k 0 + 1)), ∀ y ∈ b, ∃ c ∈ rstR l a, y ∈ c := fun b hb y hy => by
        rcases List.mem_or_eq_of_mem_set hb with h | rfl
        · exact ⟨b, h, hy⟩
        · exact ⟨_, List.mem_of_getElem? hr, List.mem_cons_of_mem _ hy⟩
      refine ⟨by simp [al], by simp [ol], ?_, fun j hj => ?_, ?_, fun z hz b hb y hy => ?_⟩
      · dsimp only
        rw [hset, List.append_assoc, List.singleton_append]
        exact ((flat_set _ k x _ hr).symm.append_left o).trans pm
      · dsimp only
        rw [List.getD_eq_getElem?_getD, List.getElem?_set]
        by_cases e : k = j
        · subst e
          rw [if_pos rfl, if_pos (by omega), List.getElem?_eq_getElem hk]
          simp only [Option.getD_some]
          omega
        · rw [if_neg e, ← List.getD_eq_getElem?_getD]
          exact le j hj
      · dsimp only
        rw [List.pairwise_append]
        refine ⟨so, by simp, fun z hz y hy => ?_⟩
        rw [List.mem_singleton] at hy
        subst hy
        exact lo z hz _ (List.mem_of_getElem? hr) _ (.head _)
      · dsimp only at hz hb
        rw [hset] at hb
        obtain ⟨c, hc, hyc⟩ := hmem b hb y hy
        rcases List.mem_append.1 hz with hz | hz
        · exact lo z hz c hc y hyc
        · rw [List.mem_singleton] at hz
          subst hz
          exact hxm c hc y hyc

theorem mg_end {l : List (List RecD)} {m : Nat} {s : MgS} (h : MgOk l m s) (hb : bstTo l s.a l.length = none) : m = l.flatten.length := by
  have := hdR_none h.al (bstTo_some.bstTo_none hb)
  have hp := h.pm
  rw [this, List.append_nil] at hp
  rw [← h.ol]; exact hp.length_eq
theorem mg_more {l : List (List RecD)} {m : Nat} {s : MgS} (h : MgOk l m s) {k : Nat} {x : RecD} (hb : bstTo l s.a l.length = some (k, x)) : m < l.flatten.length := by
  obtain ⟨q1, q2, q3⟩ := bstTo_some hb
  obtain ⟨hk, hi, hr⟩ := hdR_rst h.al q2
  have hp := h.pm.length_eq
  have hf := (flat_set _ k x _ hr).length_eq
  rw [List.length_append, hf, List.length_cons, h.ol] at hp
  omega
theorem mgL_perm {l : List (List RecD)} (hs : ∀ b ∈ l, b.Pairwise leR) : (mgL l).Perm l.flatten ∧ (mgL l).Pairwise leR := by
  have h := mg_ok hs _ (Nat.le_refl _)
  have hp := h.pm
  have hl := hp.length_eq
  rw [List.length_append, h.ol] at hl
  have e : (rstR l (mgTo l l.flatten.length).a).flatten = [] := List.eq_nil_of_length_eq_zero (by omega)
  rw [e, List.append_nil] at hp
  exact ⟨hp, h.so⟩

end Go.Proofs.YtfnhchcgieeedaaGreat

namespace Go.Proofs.YtfnhchcgieeedaaGreat
set_option linter.unusedSimpArgs false
set_option linter.unusedVariables false
set_option linter.defProp false
set_option maxRecDepth 20000
open Go.RowKit

def swE (e : EdgeD) : EdgeD := ⟨e.To, e.From, e.W⟩
def revG (g : GraphD) : GraphD := ⟨g.N, g.Edges.map swE⟩
theorem revG_ok (g : GraphD) : graphOk (revG g) = graphOk g := by
  unfold graphOk revG
  simp only [List.length_map, List.all_map]
  congr 1
  refine congrArg (fun p => List.all g.Edges p) (funext fun e => ?_)
  show decide _ = decide _
  rw [decide_eq_decide]
  show 0 ≤ e.To ∧ e.To < g.N ∧ 0 ≤ e.From ∧ e.From < g.N ∧ 0 ≤ e.W ∧ e.W ≤ 1000 ↔ _
  omega
def inDegs (g : GraphD) : List Int := outDegs (revG g)
theorem inDegs_len {g : GraphD} (h : graphOk g = true) : (inDegs g).length = g.N.toNat := by
  unfold inDegs outDegs
  rw [if_pos (by rw [revG_ok]; exact h)]
  simp [revG]
theorem inDegs_rng (g : GraphD) (v : Nat) : 0 ≤ (inDegs g).getD v 0 ∧ (inDegs g).getD v 0 ≤ 400 := by
  unfold inDegs outDegs
  split
  · rename_i ho
    rw [revG_ok] at ho
    have h3 := (graphOk_in ho).2.2.1
    rw [List.getD_eq_getElem?_getD, List.getElem?_map]
    cases (List.range (revG g).N.toNat)[v]? with
    | none => simp
    | some z =>
      have := degN_le (revG g).Edges (revG g).Edges.length z
      have h4 : (revG g).Edges.length = g.Edges.length := by simp [revG]
      simp only [Option.map_some, Option.getD_some]
      omega
  · simp

def ctTo (d : List Int) (b : Int) : Nat → List Int × Int
  | 0 => ([], 0)
  | v + 1 => if 0 < v ∧ b < (ctTo d b v).2 + d.getD v 0 then ((ctTo d b v).1 ++ [(v : Int)], d.getD v 0) else ((ctTo d b v).1, (ctTo d b v).2 + d.getD v 0)
def cutOk (g : GraphD) (b : Int) : Bool := graphOk g && decide (1 ≤ b ∧ b ≤ 400)
def cutL (g : GraphD) (b : Int) : List Int := if cutOk g b then (ctTo (inDegs g) b g.N.toNat).1 ++ (if 0 < g.N then [g.N] else []) else []

theorem ctTo_hit {d : List Int} {b : Int} {v : Nat} (h : 0 < v) (hb : b < (ctTo d b v).2 + d.getD v 0) : ctTo d b (v + 1) = ((ctTo d b v).1 ++ [(v : Int)], d.getD v 0) := if_pos ⟨h, hb⟩
theorem ctTo_miss {d : List Int} {b : Int} {v : Nat} (h : ¬ (0 < v ∧ b < (ctTo d b v).2 + d.getD v 0)) : ctTo d b (v + 1) = ((ctTo d b v).1, (ctTo d b v).2 + d.getD v 0) := if_neg h
theorem ctTo_rng {d : List Int} {b : Int} (hd : ∀ v, 0 ≤ d.getD v 0 ∧ d.getD v 0 ≤ 400) : ∀ v, 0 ≤ (ctTo d b v).2 ∧ (ctTo d b v).2 ≤ 400 * v
  | 0 => by simp [ctTo]
  | v + 1 => by
    have ih := ctTo_rng (b := b) hd v
    have := hd v
    rw [ctTo]
    split
    · dsimp only; omega
    · dsimp only; omega

theorem incO_snoc {l : List Int} {x : Int} (h : incO l l.length) (hx : lastE l l.length < x) : incO (l ++ [x]) (l ++ [x]).length ∧ lastE (l ++ [x]) (l ++ [x]).length = x := by
  have pre : ∀ i, i ≤ l.length → lastE (l ++ [x]) i = lastE l i := fun i hi => by
    unfold lastE
    rw [← List.cons_append, List.getD_eq_getElem?_getD, List.getElem?_append_left (by simp; omega), ← List.getD_eq_getElem?_getD]
  have hl : (l ++ [x]).length = l.length + 1 := by simp
  constructor
  · intro i hi _
    rw [hl] at hi
    by_cases e : i = l.length
    · subst e
      rw [pre _ (Nat.le_refl _)]
      simpa using hx
    · rw [pre i (by omega), List.getElem_append_left (by omega)]
      exact h i (by omega) (by omega)
  · rw [hl, lastE_succ (by omega)]
    simp
theorem ctTo_inc {d : List Int} {b : Int} : ∀ v, incO (ctTo d b v).1 (ctTo d b v).1.length ∧ lastE (ctTo d b v).1 (ctTo d b v).1.length ≤ v - 1 + (if v = 0 then 1 else 0) ∧ (ctTo d b v).1.length ≤ v
  | 0 => ⟨by intro i hi; simp [ctTo] at hi, by simp [ctTo, lastE], by simp [ctTo]⟩
  | v + 1 => by
    obtain ⟨h1, h2, h3⟩ := ctTo_inc (d := d) (b := b) v
    rw [ctTo]
    split
    · rename_i h
      have hv : v ≠ 0 := by omega
      rw [if_neg hv] at h2
      obtain ⟨q1, q2⟩ := incO_snoc (x := (v : Int)) h1 (by omega)
      refine ⟨q1, ?_, ?_⟩
      · dsimp only
        rw [q2]; simp
      · simp; omega
    · refine ⟨h1, ?_, by dsimp only; omega⟩
      dsimp only
      split at h2
      · subst_vars; simp at h2 ⊢; omega
      · simp; omega
theorem cut_yes {g : GraphD} {b : Int} (h : cutOk g b = true) : cutL g b = (ctTo (inDegs g) b g.N.toNat).1 ++ (if 0 < g.N then [g.N] else []) := by unfold cutL; rw [if_pos h]
theorem cut_no {g : GraphD} {b : Int} (h : cutOk g b = false) : cutL g b = [] := by unfold cutL; rw [h]; rfl
theorem cutOk_out {g : GraphD} {b : Int} (h : cutOk g b = true) : graphOk g = true ∧ 1 ≤ b ∧ b ≤ 400 := by
  unfold cutOk at h
  simpa using h
theorem cut_len (g : GraphD) (b : Int) : (cutL g b).length ≤ 150 := by
  cases ho : cutOk g b with
  | false => rw [cut_no ho]; simp
  | true =>
    obtain ⟨h1, h2, h3⟩ := cutOk_out ho
    obtain ⟨g1, g2, g3, _⟩ := graphOk_in h1
    rw [cut_yes ho]
    obtain ⟨q1, q2, q3⟩ := ctTo_inc (d := inDegs g) (b := b) g.N.toNat
    rw [List.length_append]
    split
    · rename_i hn
      -- the first vertex opens no interval
      have : ∀ v, 0 < v → (ctTo (inDegs g) b v).1.length ≤ v - 1 := fun v => by
        induction v with
        | zero => intro h; omega
        | succ v ih =>
          intro _
          rw [ctTo]
          split
          · rename_i hh
            have := ih hh.1
            simp; omega
          · rcases Nat.eq_zero_or_pos v with rfl | hv
            · simp [ctTo]
            · have := ih hv
              dsimp only; omega
      have := this g.N.toNat (by omega)
      simp; omega
    · simp; omega
theorem cut_ends {g : GraphD} {b : Int} (h : cutOk g b = true) : EndsOk g.N (cutL g b) := by
  obtain ⟨h1, h2, h3⟩ := cutOk_out h
  obtain ⟨g1, g2, g3, _⟩ := graphOk_in h1
  rw [cut_yes h]
  obtain ⟨q1, q2, q3⟩ := ctTo_inc (d := inDegs g) (b := b) g.N.toNat
  by_cases hn : 0 < g.N
  · rw [if_pos hn]
    rw [if_neg (by omega)] at q2
    obtain ⟨a1, a2⟩ := incO_snoc (x := g.N) q1 (by omega)
    exact ⟨g1, g2, a1, a2⟩
  · rw [if_neg hn, List.append_nil]
    have e : g.N.toNat = 0 := by omega
    rw [e] at q1 ⊢
    refine ⟨g1, g2, q1, ?_⟩
    simp only [ctTo, lastE]
    simp; omega

/-! The interval of a vertex. -/
def ivN (l : List Int) (v : Int) (k : Nat) : Nat := (l.take k).countP fun e => decide (e ≤ v)
theorem ivN_zero (l : List Int) (v : Int) : ivN l v 0 = 0 := rfl
theorem ivN_le (l : List Int) (v : Int) (k : Nat) : ivN l v k ≤ k := by
  unfold ivN
  have := List.countP_le_length (p := fun e : Int => decide (e ≤ v)) (l := l.take k)
  rw [List.length_take] at this
  omega
theorem ivN_succ {l : List Int} {v : Int} {k : Nat} (h : k < l.length) : ivN l v (k + 1) = ivN l v k + if l[k] ≤ v then 1 else 0 := by
  unfold ivN
  rw [List.take_add_one, List.getElem?_eq_getElem h, Option.toList_some, List.countP_append, List.countP_singleton]
  simp
theorem ivN_t {l : List Int} {v : Int} {k : Nat} (h : k < l.length) (hx : l[k] ≤ v) : ((ivN l v (k + 1) : Nat) : Int) = (ivN l v k : Int) + 1 := by rw [ivN_succ h, if_pos hx]; rfl
theorem ivN_f {l : List Int} {v : Int} {k : Nat} (h : k < l.length) (hx : ¬ l[k] ≤ v) : ivN l v (k + 1) = ivN l v k := by rw [ivN_succ h, if_neg hx]; rfl
theorem lastE_mono {l : List Int} (h : incO l l.length) : ∀ {i j : Nat}, i ≤ j → j ≤ l.length → lastE l i ≤ lastE l j := by
  intro i j hij hj
  induction j with
  | zero => have : i = 0 := by omega
            subst this; exact Int.le_refl _
  | succ j ih =>
    rcases Nat.lt_or_ge i (j + 1) with h1 | h1
    · have := ih (by omega) (by omega)
      have h2 := h j (by omega) (by omega)
      rw [lastE_succ (by omega)]; omega
    · have : i = j + 1 := by omega
      subst this; exact Int.le_refl _
theorem ivN_at {l : List Int} {v : Int} (h : incO l l.length) (h0 : 0 ≤ v) : ∀ k, k ≤ l.length → ivN l v k ≤ k ∧ lastE l (ivN l v k) ≤ v ∧ (v < lastE l k → ∃ h : ivN l v k < l.length, v < l[ivN l v k]) ∧ (lastE l k ≤ v → ivN l v k = k)
  | 0, _ => ⟨Nat.le_refl _, by rw [ivN_zero, lastE_zero]; exact h0, fun h => by rw [lastE_zero] at h; omega, fun _ => rfl⟩
  | k + 1, hk => by
    obtain ⟨a, b, c, d⟩ := ivN_at h h0 k (by omega)
    have hinc := h k (by omega) (by omega)
    rw [lastE_succ (by omega)]
    by_cases hx : l[k] ≤ v
    · have e := d (by omega)
      have e1 : ivN l v (k + 1) = k + 1 := by rw [ivN_succ (by omega), if_pos hx, e]
      rw [e1, lastE_succ (by omega)]
      exact ⟨Nat.le_refl _, hx, fun hh => by omega, fun _ => rfl⟩
    · have e1 := ivN_f (by omega) hx
      rw [e1]
      refine ⟨by omega, b, fun _ => ?_, fun hh => absurd hh hx⟩
      rcases Int.lt_or_le v (lastE l k) with q | q
      · exact c q
      · have e := d q
        exact ⟨by omega, by simp only [e]; omega⟩
theorem iv_in {n : Int} {l : List Int} (h : EndsOk n l) {v : Int} (h0 : 0 ≤ v) (hv : v < n) : ∃ hk : ivN l v l.length < l.length, lastE l (ivN l v l.length) ≤ v ∧ v < l[ivN l v l.length] := by
  obtain ⟨_, b, c, _⟩ := ivN_at h.2.2.1 h0 l.length (Nat.le_refl _)
  rw [h.2.2.2] at c
  obtain ⟨hk, h2⟩ := c hv
  exact ⟨hk, b, h2⟩

end Go.Proofs.YtfnhchcgieeedaaGreat

namespace Go.Proofs.YtfnhchcgieeedaaGreat
set_option linter.unusedSimpArgs false
set_option linter.unusedVariables false
set_option linter.defProp false
set_option maxRecDepth 20000
open Go.RowKit

def edgeZ : EdgeD := ⟨0, 0, 0⟩
def rcAt (g : GraphD) (ends : List Int) (i : Nat) : RecD := ⟨(ivN ends (g.Edges.getD i edgeZ).To ends.length : Int), (g.Edges.getD i edgeZ).From, (i : Int)⟩
def rcL (g : GraphD) (ends : List Int) (k : Nat) : List RecD := (List.range k).map (rcAt g ends)
theorem rcL_len (g : GraphD) (ends : List Int) (k : Nat) : (rcL g ends k).length = k := by simp [rcL]
theorem rcL_succ (g : GraphD) (ends : List Int) (k : Nat) : rcL g ends (k + 1) = rcL g ends k ++ [rcAt g ends k] := by simp [rcL, List.range_succ]
def pcN (m size : Nat) : Nat := (m + size - 1) / size
theorem pcN_cov {m size : Nat} (h : 0 < size) : m ≤ pcN m size * size ∧ ∀ k, k < pcN m size → k * size < m := by
  unfold pcN
  have h1 := Nat.div_add_mod (m + size - 1) size
  have h2 := Nat.mod_lt (m + size - 1) h
  constructor
  · rw [Nat.mul_comm]
    omega
  · intro k hk
    have h3 : (k + 1) * size ≤ (m + size - 1) / size * size := Nat.mul_le_mul_right _ hk
    rw [Nat.mul_comm ((m + size - 1) / size), Nat.succ_mul] at h3
    omega
def soL (l : List RecD) (size : Nat) : List RecD := mgL (cutR l size (pcN l.length size))
theorem soL_ok (l : List RecD) {size : Nat} (h : 0 < size) : (soL l size).Perm l ∧ (soL l size).Pairwise leR := by
  obtain ⟨h1, h2⟩ := mgL_perm (cutR_sorted l size (pcN l.length size))
  refine ⟨h1.trans ?_, h2⟩
  have h3 := cutR_perm l size (pcN l.length size)
  rwa [List.take_of_length_le (pcN_cov h).1] at h3
def seOf (g : GraphD) (r : RecD) : SEdgeD := ⟨(g.Edges.getD r.C.toNat edgeZ).From, (g.Edges.getD r.C.toNat edgeZ).To, (g.Edges.getD r.C.toNat edgeZ).W, r.C, 0⟩
def dealt (g : GraphD) (l : List RecD) (p : Nat) : List SEdgeD := (l.filter fun r => decide (r.A = (p : Int))).map (seOf g)
def shAt (g : GraphD) (ends : List Int) (l : List RecD) (p : Nat) : ShardD := ⟨lastE ends p, lastE ends (p + 1), dealt g l p⟩
def shL (g : GraphD) (ends : List Int) (l : List RecD) : List ShardD := (List.range ends.length).map (shAt g ends l)
theorem dealt_hit {g : GraphD} {l : List RecD} {r : RecD} {p : Nat} (h : r.A = (p : Int)) : dealt g (l ++ [r]) p = dealt g l p ++ [seOf g r] := by
  unfold dealt
  rw [List.filter_append, List.map_append]
  simp [h]
theorem dealt_miss {g : GraphD} {l : List RecD} {r : RecD} {p : Nat} (h : ¬ r.A = (p : Int)) : dealt g (l ++ [r]) p = dealt g l p := by
  unfold dealt
  rw [List.filter_append, List.map_append]
  simp [h]
theorem dealt_nil (g : GraphD) (p : Nat) : dealt g [] p = [] := rfl
theorem dealt_le (g : GraphD) (l : List RecD) (p : Nat) : (dealt g l p).length ≤ l.length := by
  unfold dealt
  rw [List.length_map]
  exact List.length_filter_le _ _
theorem shL_len (g : GraphD) (ends : List Int) (l : List RecD) : (shL g ends l).length = ends.length := by simp [shL]
theorem shL_get {g : GraphD} {ends : List Int} {l : List RecD} {p : Nat} (h : p < (shL g ends l).length) : (shL g ends l)[p] = shAt g ends l p := by simp [shL]

/-- Parts by A make up the whole. -/
theorem dealt_all {g : GraphD} : ∀ {n : Nat} {l : List RecD}, (∀ r ∈ l, ∃ k : Nat, r.A = (k : Int) ∧ k < n) → ((List.range n).flatMap (dealt g l)).Perm (l.map (seOf g)) := by
  have key : ∀ (l : List RecD) (n : Nat), ((List.range n).flatMap (dealt g l)).Perm ((l.filter fun r => decide (0 ≤ r.A ∧ r.A < (n : Int))).map (seOf g)) := by
    intro l n
    induction n with
    | zero =>
      have : (l.filter fun r => decide (0 ≤ r.A ∧ r.A < ((0 : Nat) : Int))) = [] := by
        rw [List.filter_eq_nil_iff]
        intro r _
        simp only [decide_eq_true_eq]; omega
      rw [this]; simp
    | succ n ih =>
      rw [List.range_succ, List.flatMap_append, List.flatMap_cons, List.flatMap_nil, List.append_nil]
      refine (ih.append_right _).trans ?_
      unfold dealt
      rw [← List.map_append]
      refine List.Perm.map _ ?_
      clear ih
      induction l with
      | nil => simp
      | cons r l ih =>
        rw [List.filter_cons, List.filter_cons, List.filter_cons]
        by_cases h1 : 0 ≤ r.A ∧ r.A < (n : Int)
        · rw [if_pos (by simpa using h1), if_neg (by simp only [decide_eq_true_eq]; omega), if_pos (by simp only [decide_eq_true_eq]; omega)]
          rw [List.cons_append]
          exact List.Perm.cons _ ih
        · rw [if_neg (by simpa using h1)]
          by_cases h2 : r.A = (n : Int)
          · rw [if_pos (by simpa using h2), if_pos (by simp only [decide_eq_true_eq]; omega)]
            exact List.perm_middle.trans (List.Perm.cons _ ih)
          · rw [if_neg (by simpa using h2), if_neg (by simp only [decide_eq_true_eq]; omega)]
            exact ih
  intro n l h
  have h1 := key l n
  have h2 : (l.filter fun r => decide (0 ≤ r.A ∧ r.A < (n : Int))) = l := by
    rw [List.filter_eq_self]
    intro r hr
    obtain ⟨k, h3, h4⟩ := h r hr
    simp only [decide_eq_true_eq]; omega
  rwa [h2] at h1

def fmOk (g : GraphD) (b size : Int) : Bool := cutOk g b && decide (1 ≤ size)
def srtG (g : GraphD) (ends : List Int) (size : Nat) : List RecD := soL (rcL g ends g.Edges.length) size
def farmO (g : GraphD) (b : Int) (size : Nat) : FarmD := ⟨g.N, cutL g b, shL g (cutL g b) (srtG g (cutL g b) size)⟩
def farmR (g : GraphD) (b size : Int) : FarmD := if fmOk g b size then farmO g b size.toNat else ⟨0, [], []⟩

theorem srtG_mem {g : GraphD} {ends : List Int} (hg : graphOk g = true) (he : EndsOk g.N ends) {size : Nat} (h : 0 < size) : ∀ r ∈ srtG g ends size, ∃ i, ∃ hi : i < g.Edges.length, r = rcAt g ends i ∧ r.C = (i : Int) ∧ seOf g r = ⟨g.Edges[i].From, g.Edges[i].To, g.Edges[i].W, (i : Int), 0⟩ ∧ ∃ k : Nat, r.A = (k : Int) ∧ ∃ hk : k < ends.length, lastE ends k ≤ g.Edges[i].To ∧ g.Edges[i].To < ends[k] := by
  intro r hr
  have h1 := (soL_ok (rcL g ends g.Edges.length) h).1.subset hr
  obtain ⟨i, hi, rfl⟩ := List.mem_map.1 h1
  rw [List.mem_range] at hi
  obtain ⟨_, _, _, g4⟩ := graphOk_in hg
  have g5 := g4 i hi
  have e : g.Edges.getD i edgeZ = g.Edges[i] := by rw [List.getD_eq_getElem?_getD, List.getElem?_eq_getElem hi]; rfl
  obtain ⟨a, b, c⟩ := iv_in he (v := g.Edges[i].To) g5.2.2.1 g5.2.2.2.1
  refine ⟨i, hi, rfl, rfl, ?_, _, ?_, a, b, c⟩
  · unfold seOf rcAt
    simp only [Int.toNat_natCast, e]
  · unfold rcAt
    simp only [e]
theorem srtG_len (g : GraphD) (ends : List Int) {size : Nat} (h : 0 < size) : (srtG g ends size).length = g.Edges.length := by
  have := (soL_ok (rcL g ends g.Edges.length) h).1.length_eq
  rw [rcL_len] at this
  exact this

theorem shL_all {g : GraphD} {ends : List Int} (hg : graphOk g = true) (he : EndsOk g.N ends) {size : Nat} (h : 0 < size) : (allE (shL g ends (srtG g ends size))).Perm ((List.range g.Edges.length).map fun i => seOf g (rcAt g ends i)) := by
  have h1 : allE (shL g ends (srtG g ends size)) = (List.range ends.length).flatMap (dealt g (srtG g ends size)) := by
    unfold allE shL
    rw [List.flatMap_map]; rfl
  rw [h1]
  refine (dealt_all fun r hr => ?_).trans ?_
  · obtain ⟨i, hi, _, _, _, k, e, hk, _⟩ := srtG_mem hg he h r hr
    exact ⟨k, e, hk⟩
  · have := (soL_ok (rcL g ends g.Edges.length) h).1.map (seOf g)
    unfold rcL at this
    rwa [List.map_map] at this

theorem okL_perm {n : Int} {m : Nat} {L M : List SEdgeD} (h : L.Perm M) (h1 : ∀ e ∈ M, 0 ≤ e.Index ∧ e.From < n ∧ e.Index < m) (h2 : (M.map (·.Index)).Nodup) : okL n m L := by
  intro i hi
  refine ⟨h1 _ (h.subset (List.getElem_mem hi)), fun j hj => ?_⟩
  have h3 : (L.map (·.Index)).Nodup := (h.map _).nodup_iff.2 h2
  unfold List.Nodup at h3
  rw [List.pairwise_iff_getElem] at h3
  have := h3 j i (by simp; omega) (by simpa using hi) hj
  simpa using this

theorem dealt_ord {g : GraphD} {ends : List Int} (hg : graphOk g = true) (he : EndsOk g.N ends) {size : Nat} (h : 0 < size) (p : Nat) : (dealt g (srtG g ends size) p).Pairwise ordOk := by
  unfold dealt
  rw [List.pairwise_map]
  have h1 : ((srtG g ends size).filter fun r => decide (r.A = (p : Int))).Pairwise leR := (soL_ok (rcL g ends g.Edges.length) h).2.sublist List.filter_sublist
  have h2 : ((srtG g ends size).map (·.C)).Nodup := by
    have h3 := (soL_ok (rcL g ends g.Edges.length) h).1.map (·.C)
    refine h3.nodup_iff.2 ?_
    unfold rcL
    rw [List.map_map]
    unfold List.Nodup
    rw [List.pairwise_map]
    refine List.Pairwise.imp ?_ List.nodup_range
    intro a b hab hc
    simp only [Function.comp_def, rcAt] at hc
    omega
  have h4 : ((srtG g ends size).filter fun r => decide (r.A = (p : Int))).Pairwise fun a b => a.C ≠ b.C := by
    unfold List.Nodup at h2
    rw [List.pairwise_map] at h2
    exact h2.sublist List.filter_sublist
  refine (h1.and h4).imp_of_mem ?_
  rintro a b ha hb ⟨q1, q2⟩
  have ha' := List.mem_filter.1 ha
  have hb' := List.mem_filter.1 hb
  obtain ⟨i, hi, ea, ca, sa, _⟩ := srtG_mem hg he h a ha'.1
  obtain ⟨j, hj, eb, cb, sb, _⟩ := srtG_mem hg he h b hb'.1
  have a1 : a.A = p := by simpa using ha'.2
  have b1 : b.A = p := by simpa using hb'.2
  have fa : a.B = g.Edges[i].From := by
    rw [ea]; unfold rcAt
    rw [List.getD_eq_getElem?_getD, List.getElem?_eq_getElem hi]; rfl
  have fb : b.B = g.Edges[j].From := by
    rw [eb]; unfold rcAt
    rw [List.getD_eq_getElem?_getD, List.getElem?_eq_getElem hj]; rfl
  rw [sa, sb]
  unfold ordOk
  dsimp only
  unfold leR ltR at q1
  rw [← fa, ← fb]
  omega

theorem farmO_ok {g : GraphD} {b : Int} (h : cutOk g b = true) {size : Nat} (hs : 0 < size) : FarmOk (farmO g b size) ∧ edSum (farmO g b size).Shards = g.Edges.length := by
  obtain ⟨hg, hb, hb'⟩ := cutOk_out h
  obtain ⟨g1, g2, g3, g4⟩ := graphOk_in hg
  have he := cut_ends h
  obtain ⟨ends, hends⟩ : ∃ ends, ends = cutL g b := ⟨_, rfl⟩
  have hl0 := cut_len g b
  unfold farmO
  rw [← hends] at he hl0 ⊢
  have hl := shL_len g ends (srtG g ends size)
  have hperm := shL_all hg he hs
  have hsum : edSum (shL g ends (srtG g ends size)) = g.Edges.length := by
    rw [← allE_len, hperm.length_eq]; simp
  have hmem : ∀ p, ∀ e ∈ dealt g (srtG g ends size) p, ∃ i, ∃ hi : i < g.Edges.length, e = ⟨g.Edges[i].From, g.Edges[i].To, g.Edges[i].W, (i : Int), 0⟩ ∧ ∃ hk : p < ends.length, lastE ends p ≤ g.Edges[i].To ∧ g.Edges[i].To < ends[p] := by
    intro p e hem
    unfold dealt at hem
    obtain ⟨r, hr, rfl⟩ := List.mem_map.1 hem
    obtain ⟨hr1, hr2⟩ := List.mem_filter.1 hr
    obtain ⟨i, hi, _, _, es, k, ek, hk, q1, q2⟩ := srtG_mem hg he hs r hr1
    have : k = p := by
      have : r.A = p := by simpa using hr2
      omega
    subst this
    exact ⟨i, hi, es, hk, q1, q2⟩
  refine ⟨⟨he, hl, ?_, g1, g2, ?_, ?_, ?_, ?_⟩, hsum⟩
  · intro p hp _
    dsimp only at hp ⊢
    rw [shL_get hp]
    unfold shAt
    dsimp only
    refine ⟨rfl, fun h2 => lastE_succ h2, fun y hy => ?_⟩
    obtain ⟨i, hi, rfl, _⟩ := hmem p y hy
    dsimp only; omega
  · intro p hp _
    dsimp only at hp ⊢
    rw [hl] at hp
    have hinc := he.2.2.1 p hp hp
    have hle : ends[p] ≤ g.N := by
      have := lastE_mono he.2.2.1 (i := p + 1) (j := ends.length) (by omega) (Nat.le_refl _)
      rwa [lastE_succ hp, he.2.2.2] at this
    have h0 : 0 ≤ lastE ends p := by
      have := lastE_mono he.2.2.1 (i := 0) (j := p) (by omega) (by omega)
      rwa [lastE_zero] at this
    constructor
    · rw [shL_get (by rw [hl]; exact hp)]
      refine ⟨⟨h0, ?_, ?_, ?_⟩, ?_⟩
      · show lastE ends p < lastE ends (p + 1)
        rw [lastE_succ hp]; exact hinc
      · show lastE ends (p + 1) ≤ 150
        rw [lastE_succ hp]; omega
      · show (dealt g (srtG g ends size) p).length ≤ 400
        have := dealt_le g (srtG g ends size) p
        rw [srtG_len g ends hs] at this
        omega
      · intro i hi _
        have hi' : i < (dealt g (srtG g ends size) p).length := hi
        have hed : (shAt g ends (srtG g ends size) p).Edges[i] = (dealt g (srtG g ends size) p)[i] := rfl
        obtain ⟨t, ht, et, hk, q1, q2⟩ := hmem p _ (List.getElem_mem hi')
        have g5 := g4 t ht
        constructor
        · show edOk _ (dealt g (srtG g ends size) p)[i]
          rw [et]
          unfold edOk
          dsimp only [shAt]
          rw [lastE_succ hp]
          omega
        · intro h0
          have := List.pairwise_iff_getElem.1 (dealt_ord hg he hs p) (i - 1) i (by omega) hi' (by omega)
          exact this
    · rw [shL_get (by rw [hl]; exact hp)]
      show lastE ends p = _
      cases p with
      | zero => rw [lastE_zero, lastH_zero]
      | succ p => rw [lastH_succ (by rw [hl]; omega), shL_get (by rw [hl]; omega)]; rfl
  · dsimp only
    rw [hl]
    rcases Nat.eq_zero_or_pos ends.length with h0 | h0
    · rw [h0, lastH_zero, ← he.2.2.2, h0, lastE_zero]
    · obtain ⟨k, hk⟩ : ∃ k, ends.length = k + 1 := ⟨ends.length - 1, by omega⟩
      rw [hk, lastH_succ (by rw [hl]; omega), shL_get (by rw [hl]; omega)]
      show lastE ends (k + 1) = g.N
      rw [← hk]; exact he.2.2.2
  · dsimp only
    rw [hsum]; exact g3
  · dsimp only
    rw [hsum]
    refine okL_perm hperm (fun e hem => ?_) ?_
    · obtain ⟨i, hi, rfl⟩ := List.mem_map.1 hem
      rw [List.mem_range] at hi
      have g5 := g4 i hi
      unfold seOf rcAt
      dsimp only
      rw [Int.toNat_natCast, List.getD_eq_getElem?_getD, List.getElem?_eq_getElem hi]
      simp only [Option.getD_some]
      omega
    · rw [List.map_map]
      unfold List.Nodup
      rw [List.pairwise_map]
      refine List.Pairwise.imp ?_ List.nodup_range
      intro a b hab hc
      simp only [Function.comp_def, seOf, rcAt] at hc
      omega

theorem farm_yes {g : GraphD} {b size : Int} (h : fmOk g b size = true) : farmR g b size = farmO g b size.toNat ∧ cutOk g b = true ∧ 1 ≤ size := by
  refine ⟨if_pos h, ?_⟩
  unfold fmOk at h
  simpa using h
theorem farm_no {g : GraphD} {b size : Int} (h : fmOk g b size = false) : farmR g b size = ⟨0, [], []⟩ := by unfold farmR; rw [h]; rfl
end Go.Proofs.YtfnhchcgieeedaaGreat

namespace Go.Proofs.YtfnhchcgieeedaaGreat
set_option linter.unusedSimpArgs false
set_option linter.unusedVariables false
set_option linter.defProp false
set_option maxRecDepth 20000
open Go.RowKit
attribute [local irreducible] lexD

theorem swE_at {l : List EdgeD} {k : Nat} (h : k < l.length) : ((l.map swE)[k]'(by simpa using h)).From = l[k].To := by rw [List.getElem_map]; rfl


set_option maxHeartbeats 4000000 in
theorem implInDegs_k (g : GraphD) (hl : g.Edges.length ≤ 1048576) : FnOK Tryz.prog 42 ⟨1, [(0, some (.ro ((g.Edges).map EdgeD.k)))], [.agg [.v (.int .i64 g.N), .sl 0 3 0 (g.Edges).length]], .c (.sl 1 1 0 (inDegs g).length), [(1, some (.row 3 ((inDegs g).map intK)))], 2⟩ := by
  have hs := implGraphOk_k g (by omega)
  cases ho : graphOk g with
  | false =>
    rw [ho] at hs
    have e : inDegs g = [] := by unfold inDegs outDegs; rw [revG_ok, ho]; rfl
    rw [e]
    refine fnOK_of true mixed Tryz.func42 rfl (by rfl) (by rfl) ?_
    have hres := congrArg Array.toList Tryz.results42
    simp only [Tryz.ntmps42, BGB, seval]
    (have gx := true_and True; have q1 := hs; refine go ?_; (repeat' first | exact Ef.mk | apply Lf.mk | refine fun (K : KT) hK hE hT => ?_ | refine fun (KS : KE) hKS => ?_ | refine fun (D : KD) hD => ?_ | refine fun (hg : (_ : Prop)) => ?_ | fail); all_goals (first | (refine Wr.mk ?_; (try clear gx q1); repeat first | clear hK hE hT K | clear hR hE hT K) | assumption | skip))
    (refine post_a hres (.inl rfl) ?_; simp only [RSB, ENB, seval, tiAll, true_and]; simp only [MAB, seval]; refine ⟨rfl, rfl, ?_, ?_, ?_⟩ <;> (first | rfl | (simp [WKB, Nat.add_comm, true_and]; done) | (simp only [WKB, seval])))
  | true =>
    rw [ho] at hs
    have hd := degRow_out (revG g) (by rw [revG_ok]; exact ho)
    obtain ⟨h1, h2, h3, h4⟩ := graphOk_in ho
    have hdl := inDegs_len ho
    have hid : outDegs (revG g) = inDegs g := rfl
    rw [hid] at hd
    obtain ⟨R, hR0⟩ : ∃ R, R = inDegs g := ⟨_, rfl⟩
    rw [← hR0] at hd hdl ⊢
    clear hid hR0
    obtain ⟨n, l⟩ := g
    dsimp only [revG, List.length_map] at *
    obtain ⟨m, rfl⟩ := Int.eq_ofNat_of_zero_le h1
    simp only [Int.toNat_natCast] at hd hdl
    rw [← hd, hdl]
    obtain ⟨L, hL⟩ : ∃ L, L = l.map swE := ⟨_, rfl⟩
    have hLl : L.length = l.length := by rw [hL, List.length_map]
    have hLk : ∀ k (h : k < l.length), (L[k]'(by omega)).From = l[k].To := fun k h => by subst hL; exact swE_at h
    rw [← hL, hLl]
    clear hL hd hdl
    refine fnOK_of true mixed Tryz.func42 rfl (by rfl) (by rfl) ?_
    have hres := congrArg Array.toList Tryz.results42
    simp only [Tryz.ntmps42, BGB, seval]
    (have gx := true_and True; have q1 := hs; refine go ?_; (repeat' first | exact Ef.mk | apply Lf.mk | refine fun (K : KT) hK hE hT => ?_ | refine fun (KS : KE) hKS => ?_ | refine fun (D : KD) hD => ?_ | refine fun (hg : (_ : Prop)) => ?_ | fail); all_goals (first | (refine Wr.mk ?_; (try clear gx q1); repeat first | clear hK hE hT K | clear hR hE hT K) | assumption | skip))
    refine loop_v (X := {k : Nat // k ≤ l.length}) [] (fun x => [(15, .c (.v (.int .i64 ((x.1 : Nat) : Int))))]) (fun x => [(0, some (.ro (l.map EdgeD.k))), (1, some (.box 25 [.v (.int .i64 (m : Int)), .sl 0 3 0 l.length])), (2, some (.row 3 (degRow m L x.1)))]) 3 (fun x => l.length - x.1) ⟨0, by omega⟩ ?_
    simp only [KPB, seval]
    refine ⟨?_, ?_⟩
    · (refine wk_a ?_; simp only [MAB, seval]; refine ⟨rfl, rfl, (by decide), ?_, ?_⟩; all_goals (first | (simp only [WKB, seval, degRow_zero]; done) | (simp [WKB, seval, degRow_zero]; done) | simp only [WKB, seval]))
    · rintro ⟨k, hk⟩ K hR hE hT
      rcases Nat.lt_or_ge k l.length with hlt | hge
      case inr =>
        (have gx := @List.length_map.{0,0}; refine go ?_; (repeat' first | exact Ef.mk | apply Lf.mk | refine fun (K : KT) hK hE hT => ?_ | refine fun (KS : KE) hKS => ?_ | refine fun (D : KD) hD => ?_ | refine fun (hg : (_ : Prop)) => ?_ | fail); all_goals (first | (refine Wr.mk ?_; (try clear gx); repeat first | clear hK hE hT K | clear hR hE hT K) | assumption | skip))
        obtain rfl : k = l.length := by omega
        (refine post_a hres (.inl rfl) ?_; simp only [RSB, ENB, seval, tiAll, true_and]; simp only [MAB, seval]; refine ⟨rfl, rfl, ?_, ?_, ?_⟩ <;> (first | rfl | (simp [WKB, Nat.add_comm, true_and]; done) | (simp only [WKB, seval])))
      case inl =>
        obtain ⟨_, _, q1, q2, _⟩ := h4 k hlt
        obtain ⟨v, hv⟩ := Int.eq_ofNat_of_zero_le q1
        have hdn := degN_le L k v
        have hvm : v < m := by omega
        have e := degRow_set m L k v (by omega) (by rw [hLk k hlt]; exact hv) hvm
        (have gx := And.intro (@List.length_map.{0,0}) (And.intro (@List.getElem_map.{0,0}) (And.intro (@EdgeD.k.eq_1) (And.intro (@hv) (And.intro @degRow_len @degRow_get)))); refine go ?_; (repeat' first | exact Ef.mk | apply Lf.mk | refine fun (K : KT) hK hE hT => ?_ | refine fun (KS : KE) hKS => ?_ | refine fun (D : KD) hD => ?_ | refine fun (hg : (_ : Prop)) => ?_ | fail); all_goals (first | (refine Wr.mk ?_; (try clear gx); repeat first | clear hK hE hT K | clear hR hE hT K) | assumption | skip))
        (refine hR.out ⟨k + 1, by omega⟩ _ _ _ (by simp only; omega) ?_; (refine wk_a ?_; simp only [MAB, seval]; refine ⟨rfl, rfl, (by decide), ?_, ?_⟩; all_goals (first | (simp only [WKB, seval, e]; done) | (simp [WKB, seval, e]; done) | simp only [WKB, seval])))


set_option maxHeartbeats 4000000 in
theorem implIntervalOf_k (n : Int) (l : List Int) (v : Int) (h : EndsOk n l) (h0 : 0 ≤ v) (hv : v < n) (hl : l.length ≤ 1048576) : FnOK Tryz.prog 44 ⟨1, [(0, some (.ro (l.map intK)))], [.c (.sl 0 1 0 l.length), .c (.v (.int .i64 v))], .c (.v (.int .i64 ((ivN l v l.length : Nat) : Int))), [], 1⟩ := by
  have hk : 0 < l.length := by obtain ⟨hk, _⟩ := iv_in h h0 hv; omega
  obtain ⟨m, hm⟩ : ∃ m, l.length = m + 1 := ⟨l.length - 1, by omega⟩
  have e1 : (l.length : Int) - 1 = (m : Int) := by omega
  have e2 : l[m]'(by omega) = n := by
    have := h.2.2.2
    rw [hm, lastE_succ (by omega)] at this
    exact this
  refine fnOK_of true mixed Tryz.func44 rfl (by rfl) (by rfl) ?_
  have hres := congrArg Array.toList Tryz.results44
  simp only [Tryz.ntmps44, BGB, seval]
  (have gx := And.intro (@List.length_map.{0,0}) (And.intro (@List.getElem_map.{0,0}) (And.intro (@intK.eq_1) (And.intro @e1 @e2))); refine go ?_; (repeat' first | exact Ef.mk | apply Lf.mk | refine fun (K : KT) hK hE hT => ?_ | refine fun (KS : KE) hKS => ?_ | refine fun (D : KD) hD => ?_ | refine fun (hg : (_ : Prop)) => ?_ | fail); all_goals (first | (refine Wr.mk ?_; (try clear gx); repeat first | clear hK hE hT K | clear hR hE hT K) | assumption | skip))
  refine loop_v (X := {k : Nat // k ≤ l.length}) [] (fun x => [(5, .c (.v (.int .i64 ((ivN l v x.1 : Nat) : Int)))), (27, .c (.v (.int .i64 ((x.1 : Nat) : Int))))]) (fun x => [(0, some (.ro (l.map intK)))]) 1 (fun x => l.length - x.1) ⟨0, by omega⟩ ?_
  simp only [KPB, seval]
  refine ⟨?_, ?_⟩
  · (refine wk_a ?_; simp only [MAB, seval]; refine ⟨rfl, rfl, (by decide), ?_, ?_⟩; all_goals (first | (simp only [WKB, seval, ivN_zero]; done) | (simp [WKB, seval, ivN_zero]; done) | simp only [WKB, seval]))
  · rintro ⟨k, hk⟩ K hR hE hT
    have l1 := ivN_le l v k
    rcases Nat.lt_or_ge k l.length with hlt | hge
    case inr =>
      obtain rfl : k = l.length := by omega
      (have gx := @List.length_map.{0,0}; refine go ?_; (repeat' first | exact Ef.mk | apply Lf.mk | refine fun (K : KT) hK hE hT => ?_ | refine fun (KS : KE) hKS => ?_ | refine fun (D : KD) hD => ?_ | refine fun (hg : (_ : Prop)) => ?_ | fail); all_goals (first | (refine Wr.mk ?_; (try clear gx); repeat first | clear hK hE hT K | clear hR hE hT K) | assumption | skip))
      (refine post_a hres (.inl rfl) ?_; simp only [RSB, ENB, seval, tiAll, true_and]; simp only [MAB, seval]; refine ⟨rfl, rfl, ?_, ?_, ?_⟩ <;> (first | rfl | (simp [WKB, Nat.add_comm, true_and]; done) | (simp only [WKB, seval])))
    case inl =>
      obtain ⟨y, hy⟩ : ∃ y, y = l[k] := ⟨_, rfl⟩
      by_cases hx : y ≤ v
      · have e := ivN_t hlt (v := v) (by rw [← hy]; exact hx)
        (have gx := And.intro (@List.length_map.{0,0}) (And.intro (@List.getElem_map.{0,0}) (And.intro (hy).symm @intK.eq_1)); refine go ?_; (repeat' first | exact Ef.mk | apply Lf.mk | refine fun (K : KT) hK hE hT => ?_ | refine fun (KS : KE) hKS => ?_ | refine fun (D : KD) hD => ?_ | refine fun (hg : (_ : Prop)) => ?_ | fail); all_goals (first | (refine Wr.mk ?_; (try clear gx); repeat first | clear hK hE hT K | clear hR hE hT K) | assumption | skip))
        (refine hR.out ⟨k + 1, by omega⟩ _ _ _ (by simp only; omega) ?_; (refine wk_a ?_; simp only [MAB, seval]; refine ⟨rfl, rfl, (by decide), ?_, ?_⟩; all_goals (first | (simp only [WKB, seval, e]; done) | (simp [WKB, seval, e]; done) | simp only [WKB, seval])))
      · have e := ivN_f hlt (v := v) (by rw [← hy]; exact hx)
        (have gx := And.intro (@List.length_map.{0,0}) (And.intro (@List.getElem_map.{0,0}) (And.intro (hy).symm @intK.eq_1)); refine go ?_; (repeat' first | exact Ef.mk | apply Lf.mk | refine fun (K : KT) hK hE hT => ?_ | refine fun (KS : KE) hKS => ?_ | refine fun (D : KD) hD => ?_ | refine fun (hg : (_ : Prop)) => ?_ | fail); all_goals (first | (refine Wr.mk ?_; (try clear gx); repeat first | clear hK hE hT K | clear hR hE hT K) | assumption | skip))
        (refine hR.out ⟨k + 1, by omega⟩ _ _ _ (by simp only; omega) ?_; (refine wk_a ?_; simp only [MAB, seval]; refine ⟨rfl, rfl, (by decide), ?_, ?_⟩; all_goals (first | (simp only [WKB, seval, e]; done) | (simp [WKB, seval, e]; done) | simp only [WKB, seval])))

/-- The ends at the head of a round. -/
def ctHd (d : List Int) (b : Int) (v : Nat) : List Int := if v = 0 then [] else (ctTo d b v).1 ++ [(v : Int)]
theorem ctHd_zero (d : List Int) (b : Int) : ctHd d b 0 = [] := rfl
theorem ctHd_pos {d : List Int} {b : Int} {v : Nat} (h : 0 < v) : ctHd d b v = (ctTo d b v).1 ++ [(v : Int)] := if_neg (by omega)
theorem cut_hd {g : GraphD} {b : Int} (h : cutOk g b = true) {m : Nat} (hm : g.N = (m : Int)) : cutL g b = ctHd (inDegs g) b m := by
  rw [cut_yes h, hm, Int.toNat_natCast]
  unfold ctHd
  by_cases e : m = 0
  · subst e; rfl
  · rw [if_pos (by omega), if_neg e]


set_option maxHeartbeats 8000000 in
theorem implCut_k (g : GraphD) (b : Int) (hl : g.Edges.length ≤ 1048576) : FnOK Tryz.prog 23 ⟨1, [(0, some (.ro ((g.Edges).map EdgeD.k)))], [.agg [.v (.int .i64 g.N), .sl 0 3 0 (g.Edges).length], .c (.v (.int .i64 b))], .c (.sl 1 1 0 (cutL g b).length), [(1, some (.row 3 ((cutL g b).map intK)))], 2⟩ := by
  have cg := implGraphOk_k g (by omega)
  cases ho : cutOk g b with
  | false =>
    rw [cut_no ho]
    obtain ⟨v1, e1⟩ : ∃ v, v = graphOk g := ⟨_, rfl⟩
    rw [← e1] at cg
    have hno : v1 = true → 1 ≤ b → b ≤ 400 → False := fun q1 q2 q3 => by
      unfold cutOk at ho
      rw [← e1, q1, decide_eq_true ⟨q2, q3⟩] at ho
      cases ho
    clear ho e1
    refine fnOK_of true mixed Tryz.func23 rfl (by rfl) (by rfl) ?_
    have hres := congrArg Array.toList Tryz.results23
    simp only [Tryz.ntmps23, BGB, seval]
    (have gx := true_and True; have q1 := cg; refine go ?_; (repeat' first | exact Ef.mk | apply Lf.mk | refine fun (K : KT) hK hE hT => ?_ | refine fun (KS : KE) hKS => ?_ | refine fun (D : KD) hD => ?_ | refine fun (hg : (_ : Prop)) => ?_ | fail); all_goals (first | (refine Wr.mk ?_; (try clear gx q1); repeat first | clear hK hE hT K | clear hR hE hT K) | assumption | skip))
    all_goals first
      | (exfalso; exact hno (by assumption) (by omega) (by omega))
      | skip
    all_goals (refine post_a hres (.inl rfl) ?_; simp only [RSB, ENB, seval, tiAll, true_and]; simp only [MAB, seval]; refine ⟨rfl, rfl, ?_, ?_, ?_⟩ <;> (first | rfl | (simp [WKB, Nat.add_comm, true_and]; done) | (simp only [WKB, seval])))
  | true =>
    obtain ⟨hg, hb1, hb2⟩ := cutOk_out ho
    rw [hg] at cg
    obtain ⟨g1, g2, g3, _⟩ := graphOk_in hg
    have ci := implInDegs_k g (by omega)
    obtain ⟨m, hm⟩ := Int.eq_ofNat_of_zero_le g1
    have hdl := inDegs_len hg
    rw [hm, Int.toNat_natCast] at hdl
    have hdr := inDegs_rng g
    have hrg := ctTo_rng (b := b) hdr
    have hil := fun v => (ctTo_inc (d := inDegs g) (b := b) v).2.2
    rw [cut_hd ho hm]
    obtain ⟨D, hD⟩ : ∃ D, D = inDegs g := ⟨_, rfl⟩
    simp only [← hD] at ci hdl hdr hrg hil ⊢
    clear hD ho
    have hdg : ∀ v (h : v < m), D.getD v 0 = D[v]'(by omega) := fun v h => by rw [List.getD_eq_getElem?_getD, List.getElem?_eq_getElem (by omega)]; rfl
    obtain ⟨gn, ge⟩ := g
    dsimp only at *
    subst hm
    refine fnOK_of true mixed Tryz.func23 rfl (by rfl) (by rfl) ?_
    have hres := congrArg Array.toList Tryz.results23
    simp only [Tryz.ntmps23, BGB, seval]
    (have gx := @List.length_map.{0,0}; have q1 := cg; have q2 := ci; refine go ?_; (repeat' first | exact Ef.mk | apply Lf.mk | refine fun (K : KT) hK hE hT => ?_ | refine fun (KS : KE) hKS => ?_ | refine fun (D : KD) hD => ?_ | refine fun (hg : (_ : Prop)) => ?_ | fail); all_goals (first | (refine Wr.mk ?_; (try clear gx q1 q2); repeat first | clear hK hE hT K | clear hR hE hT K) | assumption | skip))
    refine loop_v (X := {v : Nat // v ≤ m ∧ Rnd (v = 0 ∨ v = m ∨ b < (ctTo D b v).2 + D.getD v 0)}) [] (fun x => [(6, .c (.sl 3 1 0 (ctHd D b x.1).length)), (7, .c (.v (.int .i64 ((x.1 : Nat) : Int))))]) (fun x => [(0, some (.ro (ge.map EdgeD.k))), (1, some (.box 25 [.v (.int .i64 (m : Int)), .sl 0 3 0 ge.length])), (2, some (.row 3 (D.map intK))), (3, some (.row 3 ((ctHd D b x.1).map intK)))]) 4 (fun x => m - x.1) ⟨0, by omega, ⟨.inl rfl⟩⟩ ?_
    simp only [KPB, seval]
    refine ⟨?_, ?_⟩
    · (refine wk_a ?_; simp only [MAB, seval]; refine ⟨rfl, rfl, (by decide), ?_, ?_⟩; all_goals (first | (simp only [WKB, seval, ctHd_zero]; done) | (simp [WKB, seval, ctHd_zero]; done) | simp only [WKB, seval]))
    · rintro ⟨v, hv, hi⟩ K hR hE hT
      rcases Nat.lt_or_ge v m with hlt | hge
      case inr =>
        obtain rfl : v = m := by omega
        (have gx := @List.length_map.{0,0}; refine go ?_; (repeat' first | exact Ef.mk | apply Lf.mk | refine fun (K : KT) hK hE hT => ?_ | refine fun (KS : KE) hKS => ?_ | refine fun (D : KD) hD => ?_ | refine fun (hg : (_ : Prop)) => ?_ | fail); all_goals (first | (refine Wr.mk ?_; (try clear gx); repeat first | clear hK hE hT K | clear hR hE hT K) | assumption | skip))
        (refine post_a hres (.inl rfl) ?_; simp only [RSB, ENB, seval, tiAll, true_and]; simp only [MAB, seval]; refine ⟨rfl, rfl, ?_, ?_, ?_⟩ <;> (first | rfl | (simp [WKB, Nat.add_comm, true_and]; done) | (simp only [WKB, seval])))
      case inl =>
        have hH : (ctHd D b v) = (ctTo D b (v + 1)).1 ∧ (ctTo D b (v + 1)).2 = D.getD v 0 := by
          rcases Nat.eq_zero_or_pos v with e0 | e0
          · subst e0
            rw [ctTo_miss (by omega)]
            exact ⟨rfl, Int.zero_add _⟩
          · have hb : b < (ctTo D b v).2 + D.getD v 0 := by
              rcases hi.out with q | q | q
              · omega
              · omega
              · exact q
            rw [ctTo_hit e0 hb]
            exact ⟨ctHd_pos e0, rfl⟩
        have lH : (ctHd D b v).length ≤ m := by rw [hH.1]; have := hil (v + 1); omega
        obtain ⟨H0, hH0⟩ : ∃ H, H = ctHd D b v := ⟨_, rfl⟩
        rw [← hH0] at hH lH ⊢
        have dv := hdg v hlt
        obtain ⟨y, hy⟩ : ∃ y, y = D[v]'(by omega) := ⟨_, rfl⟩
        rw [← hy] at dv
        have hS := hH.2
        rw [dv] at hS
        (have gx := And.intro (@List.length_map.{0,0}) (And.intro (@List.getElem_map.{0,0}) (And.intro @intK.eq_1 (hy).symm)); refine go ?_; (repeat' first | exact Ef.mk | apply Lf.mk | refine fun (K : KT) hK hE hT => ?_ | refine fun (KS : KE) hKS => ?_ | refine fun (D : KD) hD => ?_ | refine fun (hg : (_ : Prop)) => ?_ | fail); all_goals (first | (refine Wr.mk ?_; (try clear gx); repeat first | clear hK hE hT K | clear hR hE hT K) | assumption | skip))
        refine loop_v (X := {u : Nat // (v + 1 ≤ u ∧ u ≤ m) ∧ Rnd ((ctTo D b u).1 = H0)}) [] (fun x => [(8, .c (.v (.int .i64 (ctTo D b x.1).2))), (7, .c (.v (.int .i64 ((x.1 : Nat) : Int))))]) (fun x => [(0, some (.ro (ge.map EdgeD.k))), (1, some (.box 25 [.v (.int .i64 (m : Int)), .sl 0 3 0 ge.length])), (2, some (.row 3 (D.map intK))), (3, some (.row 3 (H0.map intK)))]) 4 (fun x => m - x.1) ⟨v + 1, ⟨Nat.le_refl _, hlt⟩, ⟨hH.1.symm⟩⟩ ?_
        simp only [KPB, seval]
        refine ⟨?_, ?_⟩
        · (refine wk_a ?_; simp only [MAB, seval]; refine ⟨rfl, rfl, (by decide), ?_, ?_⟩; all_goals (first | (simp only [WKB, seval, hS]; done) | (simp [WKB, seval, hS]; done) | simp only [WKB, seval]))
        · rintro ⟨u, ⟨hu1, hu2⟩, hj⟩ K hR2 hE hT
          have hsr := hrg u
          obtain ⟨S, hSu⟩ : ∃ S, S = (ctTo D b u).2 := ⟨_, rfl⟩
          simp only [← hSu] at hsr ⊢
          have hend : (u = m ∨ b < S + D.getD u 0) → (ctHd D b u).map intK = H0.map intK ++ [[.v (.int .i64 (u : Int))]] ∧ (ctHd D b u).length = H0.length + 1 := fun _ => by
            rw [ctHd_pos (by omega), hj.out, List.map_append, List.length_append]
            exact ⟨rfl, rfl⟩
          rcases Nat.lt_or_ge u m with hum | hum
          case inr =>
            obtain rfl : u = m := by omega
            obtain ⟨e1, e2⟩ := hend (.inl rfl)
            (have gx := And.intro (@List.length_map.{0,0}) (And.intro @List.getElem_map.{0,0} @intK.eq_1); refine go ?_; (repeat' first | exact Ef.mk | apply Lf.mk | refine fun (K : KT) hK hE hT => ?_ | refine fun (KS : KE) hKS => ?_ | refine fun (D : KD) hD => ?_ | refine fun (hg : (_ : Prop)) => ?_ | fail); all_goals (first | (refine Wr.mk ?_; (try clear gx); repeat first | clear hK hE hT K | clear hR hE hT K) | assumption | skip))
            refine hR.out ⟨u, Nat.le_refl _, ⟨.inr (.inl rfl)⟩⟩ _ _ _ (by simp only; omega) ?_
            (refine wk_a ?_; simp only [MAB, seval]; refine ⟨rfl, rfl, (by decide), ?_, ?_⟩; all_goals (first | (simp only [WKB, seval, e1, e2]; done) | (simp [WKB, seval, e1, e2]; done) | simp only [WKB, seval]))
          case inl =>
            have du := hdg u hum
            have dr := hdr u
            obtain ⟨z, hz⟩ : ∃ z, z = D[u]'(by omega) := ⟨_, rfl⟩
            rw [← hz] at du
            rw [du] at dr
            by_cases hc : S + z ≤ b
            · have e := ctTo_miss (d := D) (b := b) (v := u) (by rw [← hSu, du]; omega)
              rw [← hSu, du] at e
              have e2 : (ctTo D b (u + 1)).2 = S + z := by rw [e]
              have e1 : (ctTo D b (u + 1)).1 = H0 := by rw [e]; exact hj.out
              (have gx := And.intro (@List.length_map.{0,0}) (And.intro (@List.getElem_map.{0,0}) (And.intro @intK.eq_1 (hz).symm)); refine go ?_; (repeat' first | exact Ef.mk | apply Lf.mk | refine fun (K : KT) hK hE hT => ?_ | refine fun (KS : KE) hKS => ?_ | refine fun (D : KD) hD => ?_ | refine fun (hg : (_ : Prop)) => ?_ | fail); all_goals (first | (refine Wr.mk ?_; (try clear gx); repeat first | clear hK hE hT K | clear hR hE hT K) | assumption | skip))
              refine hR2.out ⟨u + 1, ⟨by omega, hum⟩, ⟨e1⟩⟩ _ _ _ (by simp only; omega) ?_
              (refine wk_a ?_; simp only [MAB, seval]; refine ⟨rfl, rfl, (by decide), ?_, ?_⟩; all_goals (first | (simp only [WKB, seval, e2]; done) | (simp [WKB, seval, e2]; done) | simp only [WKB, seval]))
            · obtain ⟨e1, e2⟩ := hend (.inr (by rw [du]; omega))
              (have gx := And.intro (@List.length_map.{0,0}) (And.intro (@List.getElem_map.{0,0}) (And.intro @intK.eq_1 (hz).symm)); refine go ?_; (repeat' first | exact Ef.mk | apply Lf.mk | refine fun (K : KT) hK hE hT => ?_ | refine fun (KS : KE) hKS => ?_ | refine fun (D : KD) hD => ?_ | refine fun (hg : (_ : Prop)) => ?_ | fail); all_goals (first | (refine Wr.mk ?_; (try clear gx); repeat first | clear hK hE hT K | clear hR hE hT K) | assumption | skip))
              refine hR.out ⟨u, by omega, ⟨.inr (.inr (by rw [← hSu, du]; omega))⟩⟩ _ _ _ (by simp only; omega) ?_
              (refine wk_a ?_; simp only [MAB, seval]; refine ⟨rfl, rfl, (by decide), ?_, ?_⟩; all_goals (first | (simp only [WKB, seval, e1, e2]; done) | (simp [WKB, seval, e1, e2]; done) | simp only [WKB, seval]))

end Go.Proofs.YtfnhchcgieeedaaGreat

namespace Go.Proofs.YtfnhchcgieeedaaGreat
set_option linter.unusedSimpArgs false
set_option linter.unusedVariables false
set_option linter.defProp false
set_option maxRecDepth 20000
open Go.RowKit
attribute [local irreducible] lexD

def RecD.k (x : RecD) : List DC := [.v (.int .i64 x.A), .v (.int .i64 x.B), .v (.int .i64 x.C)]
def RecD.s (x : RecD) : List CV := [.v (.int .i64 x.A), .v (.int .i64 x.B), .v (.int .i64 x.C)]
theorem flat_Rec (l : List RecD) : ∀ e ∈ l.map RecD.k, ∀ c ∈ e, DC.flat c := flat_map (fun x c hc => by simp only [RecD.k, List.mem_cons, List.not_mem_nil, or_false] at hc; rcases hc with rfl | rfl | rfl <;> exact ⟨_, rfl, rfl⟩) l
def ltB (x y : RecD) : Bool := decide (ltR x y)
theorem ltB_t {x y : RecD} (h : ltR x y) : ltB x y = true := decide_eq_true h
theorem ltB_f {x y : RecD} (h : ¬ ltR x y) : ltB x y = false := decide_eq_false h

end Go.Proofs.YtfnhchcgieeedaaGreat

namespace Go.Proofs.YtfnhchcgieeedaaGreat
set_option linter.unusedSimpArgs false
set_option linter.unusedVariables false
set_option linter.defProp false
set_option maxRecDepth 20000
open Go.RowKit
attribute [local irreducible] lexD

def batK (T : Nat) (b : List RecD) : List DC := [.sl T 3 (b.map RecD.k)]
def natK (n : Nat) : List DC := [.v (.int .i64 (n : Int))]
theorem pcN_last {m size k : Nat} (h : 0 < size) (hk : k * size < m) (hm : m ≤ (k + 1) * size) : pcN m size = k + 1 := by
  unfold pcN
  rw [Nat.succ_mul] at hm
  have e : m + size - 1 = (m - 1 - k * size) + size * (k + 1) := by
    have : size * (k + 1) = k * size + size := by rw [Nat.mul_succ, Nat.mul_comm]
    omega
  rw [e, Nat.add_mul_div_left _ _ h, Nat.div_eq_of_lt (by omega)]
  omega
theorem pcN_le {m size : Nat} (h : 0 < size) : pcN m size ≤ m := by
  rcases Nat.eq_zero_or_pos (pcN m size) with q | q
  · omega
  · have h1 := (pcN_cov (m := m) h).2 (pcN m size - 1) (by omega)
    have h2 : pcN m size - 1 ≤ (pcN m size - 1) * size := Nat.le_mul_of_pos_right _ h
    omega

end Go.Proofs.YtfnhchcgieeedaaGreat

namespace Go.Proofs.YtfnhchcgieeedaaGreat
set_option linter.unusedSimpArgs false
set_option linter.unusedVariables false
set_option linter.defProp false
set_option maxRecDepth 20000
open Go.RowKit
attribute [local irreducible] lexD

/-- The best piece as a number. -/
def bsI (o : Option (Nat × RecD)) : Int := match o with
  | none => -1
  | some (k, _) => (k : Int)
theorem bsI_none : bsI none = -1 := rfl
theorem bsI_some (k : Nat) (x : RecD) : bsI (some (k, x)) = (k : Int) := rfl
theorem bst_zero (l : List (List RecD)) (a : List Nat) : bstTo l a 0 = none := rfl
theorem bst_gone {l : List (List RecD)} {a : List Nat} {k : Nat} (h : hdR l a k = none) : bstTo l a (k + 1) = bstTo l a k := by rw [bstTo, h]
theorem bst_first {l : List (List RecD)} {a : List Nat} {k : Nat} {x : RecD} (h : hdR l a k = some x) (h2 : bstTo l a k = none) : bstTo l a (k + 1) = some (k, x) := by rw [bstTo, h]; dsimp only; rw [h2]
theorem bst_new {l : List (List RecD)} {a : List Nat} {k j : Nat} {x y : RecD} (h : hdR l a k = some x) (h2 : bstTo l a k = some (j, y)) (h3 : ltR x y) : bstTo l a (k + 1) = some (k, x) := by
  rw [bstTo, h]; dsimp only; rw [h2]; dsimp only; rw [if_pos h3]
theorem bst_old {l : List (List RecD)} {a : List Nat} {k j : Nat} {x y : RecD} (h : hdR l a k = some x) (h2 : bstTo l a k = some (j, y)) (h3 : ¬ ltR x y) : bstTo l a (k + 1) = some (j, y) := by
  rw [bstTo, h]; dsimp only; rw [h2]; dsimp only; rw [if_neg h3]
theorem hd_some {l : List (List RecD)} {a : List Nat} {k : Nat} {x : RecD} (hk : k < l.length) (ha : k < a.length) (h : hdR l a k = some x) : ∃ h2 : a[k] < l[k].length, l[k][a[k]] = x := by
  unfold hdR at h
  rw [List.getElem?_eq_getElem hk, Option.bind_some, List.getD_eq_getElem?_getD, List.getElem?_eq_getElem ha, Option.getD_some] at h
  exact List.getElem?_eq_some_iff.1 h
theorem hd_in {l : List (List RecD)} {a : List Nat} {k : Nat} (hk : k < l.length) (ha : k < a.length) (h : a[k] < l[k].length) : hdR l a k = some (l[k][a[k]]) := by
  unfold hdR
  rw [List.getElem?_eq_getElem hk, Option.bind_some, List.getD_eq_getElem?_getD, List.getElem?_eq_getElem ha, Option.getD_some, List.getElem?_eq_getElem h]
theorem hd_out {l : List (List RecD)} {a : List Nat} {k : Nat} (hk : k < l.length) (ha : k < a.length) (h : ¬ a[k] < l[k].length) : hdR l a k = none := by
  unfold hdR
  rw [List.getElem?_eq_getElem hk, Option.bind_some, List.getD_eq_getElem?_getD, List.getElem?_eq_getElem ha, Option.getD_some, List.getElem?_eq_none_iff]
  omega

end Go.Proofs.YtfnhchcgieeedaaGreat

namespace Go.Proofs.YtfnhchcgieeedaaGreat
set_option linter.unusedSimpArgs false
set_option linter.unusedVariables false
set_option linter.defProp false
set_option maxRecDepth 20000
open Go.RowKit
attribute [local irreducible] lexD

theorem cut_memlen {l : List RecD} {size : Nat} : ∀ {k : Nat} {b : List RecD}, b ∈ cutR l size k → b.length ≤ l.length
  | k + 1, b, h => by
    rw [cutR, List.mem_append, List.mem_singleton] at h
    rcases h with h | rfl
    · exact cut_memlen h
    · rw [srtR_len, List.length_take, List.length_drop]; omega

def shTo2 (g : GraphD) (ends : List Int) (l : List RecD) (p : Nat) : List ShardD := (List.range p).map (shAt g ends l)
theorem shTo2_len (g : GraphD) (ends : List Int) (l : List RecD) (p : Nat) : (shTo2 g ends l p).length = p := by simp [shTo2]
theorem shTo2_succ (g : GraphD) (ends : List Int) (l : List RecD) (p : Nat) : shTo2 g ends l (p + 1) = shTo2 g ends l p ++ [shAt g ends l p] := by simp [shTo2, List.range_succ]

end Go.Proofs.YtfnhchcgieeedaaGreat

