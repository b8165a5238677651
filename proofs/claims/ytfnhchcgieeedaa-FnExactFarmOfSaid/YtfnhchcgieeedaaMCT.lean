/-
  The engine, texts SR1 CT1 CT2 CT3 CT4 CT5 CT6 CT7 in one. No conditions of its own.
-/
import Derived.Test.YtfnhchcgieeedaaGO
import Derived.Test.YtfnhchcgieeedaaS1
import Derived.Test.YtfnhchcgieeedaaMKB
import Derived.Test.YtfnhchcgieeedaaMNA
import Derived.Test.YtfnhchcgieeedaaMNB
import Derived.Test.YtfnhchcgieeedaaWC
import Derived.Test.YtfnhchcgieeedaaGF
namespace Go.Proofs.Ytfnhchcgieeedaa
set_option linter.unusedSimpArgs false
set_option linter.unusedVariables false
set_option linter.unusedSimpArgs false
set_option linter.unusedVariables false
set_option linter.defProp false

structure RecD where
  A : Int
  B : Int
  C : Int
deriving DecidableEq

def ltR (x y : RecD) : Prop := x.A < y.A ∨ (x.A = y.A ∧ (x.B < y.B ∨ (x.B = y.B ∧ x.C < y.C)))
instance (x y : RecD) : Decidable (ltR x y) := inferInstanceAs (Decidable (_ ∨ _))
theorem ltR_irr (x : RecD) : ¬ ltR x x := by unfold ltR; omega
theorem ltR_trans {x y z : RecD} (h : ltR x y) (h' : ltR y z) : ltR x z := by unfold ltR at *; omega
theorem ltR_asymm {x y : RecD} (h : ltR x y) : ¬ ltR y x := by unfold ltR at *; omega
/-- not behind. -/
def leR (x y : RecD) : Prop := ¬ ltR y x
instance (x y : RecD) : Decidable (leR x y) := inferInstanceAs (Decidable (¬ _))
theorem leR_refl (x : RecD) : leR x x := ltR_irr x
theorem leR_trans {x y z : RecD} (h : leR x y) (h' : leR y z) : leR x z := by unfold leR ltR at *; omega
theorem leR_total (x y : RecD) : leR x y ∨ leR y x := by unfold leR ltR; omega
theorem leR_anti {x y : RecD} (h : leR x y) (h' : leR y x) : x = y := by
  obtain ⟨a, b, c⟩ := x
  obtain ⟨a', b', c'⟩ := y
  unfold leR ltR at *
  simp only [RecD.mk.injEq]
  dsimp only at *
  omega
theorem ltR_le {x y : RecD} (h : ltR x y) : leR x y := ltR_asymm h

theorem recs_one : ∀ {l m : List RecD}, l.Perm m → l.Pairwise leR → m.Pairwise leR → l = m
  | [], m, h, _, _ => h.nil_eq
  | a :: l, [], h, _, _ => absurd h.length_eq (by simp)
  | a :: l, b :: m, h, h1, h2 => by
    have ha : a ∈ b :: m := h.subset (.head _)
    have hb : b ∈ a :: l := h.symm.subset (.head _)
    have e : a = b := by
      rcases List.mem_cons.1 ha with rfl | ha
      · rfl
      rcases List.mem_cons.1 hb with rfl | hb
      · rfl
      exact leR_anti ((List.pairwise_cons.1 h1).1 b hb) ((List.pairwise_cons.1 h2).1 a ha)
    subst e
    rw [recs_one (List.perm_cons _ |>.1 h) (List.pairwise_cons.1 h1).2 (List.pairwise_cons.1 h2).2]

/-- Where a record is put in: behind all that are not behind it. -/
def inrAt (l : List RecD) (x : RecD) : Nat := (l.takeWhile fun y => !decide (ltR x y)).length
def inrL (l : List RecD) (x : RecD) : List RecD := l.take (inrAt l x) ++ x :: l.drop (inrAt l x)
theorem inrAt_le (l : List RecD) (x : RecD) : inrAt l x ≤ l.length := by
  unfold inrAt
  exact (List.takeWhile_prefix _).length_le
theorem inrL_perm (l : List RecD) (x : RecD) : (inrL l x).Perm (x :: l) := by
  unfold inrL
  refine List.perm_middle.trans ?_
  rw [List.take_append_drop]
theorem inrL_cons (y : RecD) (l : List RecD) (x : RecD) : inrL (y :: l) x = if ltR x y then x :: y :: l else y :: inrL l x := by
  unfold inrL inrAt
  rw [List.takeWhile_cons]
  by_cases h : ltR x y
  · rw [if_neg (by simpa using h), if_pos h]; rfl
  · rw [if_pos (by simpa using h), if_neg h]; rfl
theorem inrL_sorted : ∀ (l : List RecD) (x : RecD), l.Pairwise leR → (inrL l x).Pairwise leR
  | [], x, _ => by simp [inrL, inrAt]
  | y :: l, x, h => by
    rw [inrL_cons]
    obtain ⟨h1, h2⟩ := List.pairwise_cons.1 h
    split
    · rename_i hlt
      refine List.pairwise_cons.2 ⟨fun z hz => ?_, h⟩
      rcases List.mem_cons.1 hz with rfl | hz
      · exact ltR_le hlt
      · exact leR_trans (ltR_le hlt) (h1 z hz)
    · rename_i hge
      refine List.pairwise_cons.2 ⟨fun z hz => ?_, inrL_sorted l x h2⟩
      rcases List.mem_cons.1 ((inrL_perm l x).subset hz) with rfl | hz
      · exact hge
      · exact h1 z hz
def inrAll (l xs : List RecD) : List RecD := xs.foldl inrL l
theorem inrAll_snoc (l xs : List RecD) (x : RecD) : inrAll l (xs ++ [x]) = inrL (inrAll l xs) x := by simp [inrAll]
theorem inrAll_perm : ∀ (xs l : List RecD), (inrAll l xs).Perm (xs ++ l)
  | [], l => .refl _
  | x :: xs, l => by
    refine (inrAll_perm xs (inrL l x)).trans ?_
    refine ((inrL_perm l x).append_left xs).trans ?_
    exact List.perm_middle
theorem inrAll_sorted : ∀ (xs l : List RecD), l.Pairwise leR → (inrAll l xs).Pairwise leR
  | [], _, h => h
  | x :: xs, l, h => inrAll_sorted xs (inrL l x) (inrL_sorted l x h)
/-- Records in order. -/
def srtR (l : List RecD) : List RecD := inrAll [] l
theorem srtR_perm (l : List RecD) : (srtR l).Perm l := by
  have := inrAll_perm l []
  rwa [List.append_nil] at this
theorem srtR_sorted (l : List RecD) : (srtR l).Pairwise leR := inrAll_sorted l [] .nil
theorem srtR_len (l : List RecD) : (srtR l).length = l.length := (srtR_perm l).length_eq
theorem srtR_take {l : List RecD} {k : Nat} (h : k < l.length) : srtR (l.take (k + 1)) = inrL (srtR (l.take k)) l[k] := by
  rw [List.take_succ_eq_append_getElem h]; exact inrAll_snoc _ _ _

/-- The sorted pieces. -/
def cutR (l : List RecD) (size : Nat) : Nat → List (List RecD)
  | 0 => []
  | k + 1 => cutR l size k ++ [srtR ((l.drop (k * size)).take size)]
theorem cutR_len (l : List RecD) (size : Nat) : ∀ k, (cutR l size k).length = k
  | 0 => rfl
  | k + 1 => by rw [cutR, List.length_append, cutR_len l size k]; rfl
theorem cutR_sorted (l : List RecD) (size : Nat) : ∀ k, ∀ b ∈ cutR l size k, b.Pairwise leR
  | 0, b, h => by simp [cutR] at h
  | k + 1, b, h => by
    rw [cutR, List.mem_append, List.mem_singleton] at h
    rcases h with h | rfl
    · exact cutR_sorted l size k b h
    · exact srtR_sorted _
theorem cutR_perm (l : List RecD) (size : Nat) : ∀ k, ((cutR l size k).flatten).Perm (l.take (k * size))
  | 0 => by simp [cutR]
  | k + 1 => by
    rw [cutR, List.flatten_append, Nat.succ_mul, List.take_add]
    refine (cutR_perm l size k).append ?_
    simp only [List.flatten_cons, List.flatten_nil, List.append_nil]
    exact srtR_perm _

/-! Merging. -/
def hdR (l : List (List RecD)) (a : List Nat) (k : Nat) : Option RecD := (l[k]?).bind fun b => b[a.getD k 0]?
def bstTo (l : List (List RecD)) (a : List Nat) : Nat → Option (Nat × RecD)
  | 0 => none
  | k + 1 => match hdR l a k with
    | none => bstTo l a k
    | some x => match bstTo l a k with
      | none => some (k, x)
      | some (j, y) => if ltR x y then some (k, x) else some (j, y)
/-- The best one stands at the head of its piece, and is not behind any head. -/
theorem bstTo_some {l : List (List RecD)} {a : List Nat} : ∀ {n : Nat} {k : Nat} {x : RecD}, bstTo l a n = some (k, x) → k < n ∧ hdR l a k = some x ∧ ∀ j y, j < n → hdR l a j = some y → leR x y
  | n + 1, k, x, h => by
    rw [bstTo] at h
    cases hn : hdR l a n with
    | none =>
      rw [hn] at h
      obtain ⟨q1, q2, q3⟩ := bstTo_some (n := n) h
      refine ⟨by omega, q2, fun j y hj hy => ?_⟩
      by_cases e : j = n
      · subst e; rw [hn] at hy; cases hy
      · exact q3 j y (by omega) hy
    | some z =>
      rw [hn] at h
      dsimp only at h
      cases hb : bstTo l a n with
      | none =>
        rw [hb] at h
        cases h
        refine ⟨by omega, hn, fun j y hj hy => ?_⟩
        by_cases e : j = n
        · subst e; rw [hn] at hy; cases hy; exact leR_refl _
        · exact absurd (bstTo_none hb j (by omega)) (by rw [hy]; simp)
      | some p =>
        obtain ⟨i, u⟩ := p
        rw [hb] at h
        dsimp only at h
        obtain ⟨q1, q2, q3⟩ := bstTo_some (n := n) hb
        split at h
        · rename_i hlt
          cases h
          refine ⟨by omega, hn, fun j y hj hy => ?_⟩
          by_cases e : j = n
          · subst e; rw [hn] at hy; cases hy; exact leR_refl _
          · exact leR_trans (ltR_le hlt) (q3 j y (by omega) hy)
        · rename_i hge
          cases h
          refine ⟨by omega, q2, fun j y hj hy => ?_⟩
          by_cases e : j = n
          · subst e; rw [hn] at hy; cases hy; exact hge
          · exact q3 j y (by omega) hy
where bstTo_none {l : List (List RecD)} {a : List Nat} : ∀ {n : Nat}, bstTo l a n = none → ∀ j, j < n → hdR l a j = none
  | n + 1, h, j, hj => by
    rw [bstTo] at h
    cases hn : hdR l a n with
    | none =>
      rw [hn] at h
      by_cases e : j = n
      · subst e; exact hn
      · exact bstTo_none (n := n) h j (by omega)
    | some z =>
      rw [hn] at h
      dsimp only at h
      cases hb : bstTo l a n with
      | none => rw [hb] at h; cases h
      | some p =>
        rw [hb] at h
        dsimp only at h
        split at h <;> cases h

/-- What is left of the pieces. -/
def rstR (l : List (List RecD)) (a : List Nat) : List (List RecD) := List.zipWith (fun b i => b.drop i) l a
structure MgS where
  a : List Nat
  o : List RecD
def mgStep (l : List (List RecD)) (s : MgS) : MgS := match bstTo l s.a l.length with
  | none => s
  | some (k, x) => ⟨s.a.set k (s.a.getD k 0 + 1), s.o ++ [x]⟩
def mgTo (l : List (List RecD)) : Nat → MgS
  | 0 => ⟨List.replicate l.length 0, []⟩
  | m + 1 => mgStep l (mgTo l m)
def mgL (l : List (List RecD)) : List RecD := (mgTo l l.flatten.length).o

theorem rstR_get {l : List (List RecD)} {a : List Nat} (h : a.length = l.length) {k : Nat} (hk : k < l.length) : (rstR l a)[k]? = some (l[k].drop (a.getD k 0)) := by
  unfold rstR
  rw [List.getElem?_zipWith, List.getElem?_eq_getElem hk, List.getElem?_eq_getElem (by omega), List.getD_eq_getElem?_getD, List.getElem?_eq_getElem (by omega)]; rfl
theorem flat_set {α : Type} : ∀ (l : List (List α)) (k : Nat) (x : α) (b : List α), l[k]? = some (x :: b) → l.flatten.Perm (x :: (l.set k b).flatten)
  | [], k, x, b, h => by simp at h
  | c :: l, 0, x, b, h => by
    simp at h; subst h; simp
  | c :: l, k + 1, x, b, h => by
    simp only [List.getElem?_cons_succ] at h
    simp only [List.set_cons_succ, List.flatten_cons]
    exact ((flat_set l k x b h).append_left c).trans List.perm_middle
theorem rstR_set {l : List (List RecD)} {a : List Nat} (h : a.length = l.length) {k : Nat} (hk : k < l.length) : rstR l (a.set k (a.getD k 0 + 1)) = (rstR l a).set k (l[k].drop (a.getD k 0 + 1)) := by
  apply List.ext_getElem
  · simp [rstR]
  · intro j h1 h2
    have hj : j < l.length := by simp [rstR] at h1; omega
    simp only [rstR, List.getElem_zipWith, List.getElem_set]
    split
    · rename_i e; subst e; rfl
    · rfl

/-- All the way: the pieces' rests and what is out. -/
structure MgOk (l : List (List RecD)) (m : Nat) (s : MgS) : Prop where
  al : s.a.length = l.length
  ol : s.o.length = m
  pm : (s.o ++ (rstR l s.a).flatten).Perm l.flatten
  le : ∀ k, k < l.length → s.a.getD k 0 ≤ (l[k]?.getD []).length
  so : s.o.Pairwise leR
  lo : ∀ x ∈ s.o, ∀ b ∈ rstR l s.a, ∀ y ∈ b, leR x y

theorem hdR_rst {l : List (List RecD)} {a : List Nat} (h : a.length = l.length) {k : Nat} {x : RecD} (hx : hdR l a k = some x) : ∃ hk : k < l.length, a.getD k 0 < l[k].length ∧ (rstR l a)[k]? = some (x :: l[k].drop (a.getD k 0 + 1)) := by
  unfold hdR at hx
  rcases Nat.lt_or_ge k l.length with hk | hk
  case inr => rw [List.getElem?_eq_none hk] at hx; cases hx
  case inl =>
    rw [List.getElem?_eq_getElem hk, Option.bind_some] at hx
    obtain ⟨hi, he⟩ := List.getElem?_eq_some_iff.1 hx
    refine ⟨hk, hi, ?_⟩
    rw [rstR_get h hk, ← he, List.drop_eq_getElem_cons hi]
theorem hdR_none {l : List (List RecD)} {a : List Nat} (h : a.length = l.length) (hn : ∀ j, j < l.length → hdR l a j = none) : (rstR l a).flatten = [] := by
  rw [List.flatten_eq_nil_iff]
  intro b hb
  obtain ⟨k, hk, rfl⟩ := List.getElem_of_mem hb
  have hkl : k < l.length := by simp [rstR] at hk; omega
  have h1 := hn k hkl
  unfold hdR at h1
  rw [List.getElem?_eq_getElem hkl, Option.bind_some, List.getElem?_eq_none_iff] at h1
  have h2 := rstR_get h hkl
  rw [List.getElem?_eq_getElem hk] at h2
  rw [Option.some.inj h2]
  exact List.drop_eq_nil_of_le h1

theorem mg_ok {l : List (List RecD)} (hs : ∀ b ∈ l, b.Pairwise leR) : ∀ m, m ≤ l.flatten.length → MgOk l m (mgTo l m)
  | 0, _ => by
    have e : rstR l (List.replicate l.length 0) = l := by
      apply List.ext_getElem
      · simp [rstR]
      · intro i h1 h2; simp [rstR]
    refine ⟨by simp [mgTo], rfl, by simp [mgTo, e], fun k hk => ?_, .nil, fun x hx => by simp [mgTo] at hx⟩
    simp only [mgTo, List.getD_eq_getElem?_getD]
    rw [List.getElem?_replicate]
    split <;> simp
  | m + 1, hm => by
    have ih := mg_ok hs m (by omega)
    rw [mgTo]
    unfold mgStep
    obtain ⟨⟨a, o⟩, hst⟩ : ∃ s, s = mgTo l m := ⟨_, rfl⟩
    rw [← hst] at ih ⊢
    obtain ⟨al, ol, pm, le, so, lo⟩ := ih
    dsimp only at *
    cases hb : bstTo l a l.length with
    | none =>
      have := hdR_none al (bstTo_some.bstTo_none hb)
      rw [this, List.append_nil] at pm
      have := pm.length_eq
      omega
    | some p =>
      obtain ⟨k, x⟩ := p
      obtain ⟨q1, q2, q3⟩ := bstTo_some hb
      obtain ⟨hk, hi, hr⟩ := hdR_rst al q2
      have hset := rstR_set al hk
      have hxm : ∀ b ∈ rstR l a, ∀ y ∈ b, leR x y := fun b hb y hy => by
        obtain ⟨j, hj, rfl⟩ := List.getElem_of_mem hb
        have hjl : j < l.length := by simp [rstR] at hj; omega
        have h2 := rstR_get al hjl
        rw [List.getElem?_eq_getElem hj] at h2
        have h3 := Option.some.inj h2
        rw [h3] at hy
        have hjs : (l[j]).Pairwise leR := hs _ (List.getElem_mem hjl)
        have hd : a.getD j 0 < l[j].length := by
          rcases Nat.lt_or_ge (a.getD j 0) l[j].length with h | h
          · exact h
          · rw [List.drop_eq_nil_of_le h] at hy; simp at hy
        have h4 := hjs.sublist (List.drop_sublist (a.getD j 0) _)
        rw [List.drop_eq_getElem_cons hd] at hy h4
        have h5 : leR x l[j][a.getD j 0] := q3 j _ hjl (by unfold hdR; rw [List.getElem?_eq_getElem hjl, Option.bind_some, List.getElem?_eq_getElem hd])
        rcases List.mem_cons.1 hy with rfl | hy
        · exact h5
        · exact leR_trans h5 ((List.pairwise_cons.1 h4).1 y hy)
      have hmem : ∀ b ∈ (rstR l a).set k (l[k].drop (a.getD k 0 + 1)), ∀ y ∈ b, ∃ c ∈ rstR l a, y ∈ c := fun b hb y hy => by
        rcases List.mem_or_eq_of_mem_set hb with h | rfl
        · exact ⟨b, h, hy⟩
        · exact ⟨_, List.mem_of_getElem? hr, List.mem_cons_of_mem _ hy⟩
      refine ⟨by simp [al], by simp [ol], ?_, fun j hj => ?_, ?_, fun z hz b hb y hy => ?_⟩
      · dsimp only
        rw [hset, List.append_assoc, List.singleton_append]
        exact ((flat_set _ k x _ hr).symm.append_left o).trans pm
      · dsimp only
        rw [List.getD_eq_getElem?_getD, List.getElem?_set]
        by_cases e : k = j
        · subst e
          rw [if_pos rfl, if_pos (by omega), List.getElem?_eq_getElem hk]
          simp only [Option.getD_some]
          omega
        · rw [if_neg e, ← List.getD_eq_getElem?_getD]
          exact le j hj
      · dsimp only
        rw [List.pairwise_append]
        refine ⟨so, by simp, fun z hz y hy => ?_⟩
        rw [List.mem_singleton] at hy
        subst hy
        exact lo z hz _ (List.mem_of_getElem? hr) _ (.head _)
      · dsimp only at hz hb
        rw [hset] at hb
        obtain ⟨c, hc, hyc⟩ := hmem b hb y hy
        rcases List.mem_append.1 hz with hz | hz
        · exact lo z hz c hc y hyc
        · rw [List.mem_singleton] at hz
          subst hz
          exact hxm c hc y hyc

theorem mg_end {l : List (List RecD)} {m : Nat} {s : MgS} (h : MgOk l m s) (hb : bstTo l s.a l.length = none) : m = l.flatten.length := by
  have := hdR_none h.al (bstTo_some.bstTo_none hb)
  have hp := h.pm
  rw [this, List.append_nil] at hp
  rw [← h.ol]; exact hp.length_eq
theorem mg_more {l : List (List RecD)} {m : Nat} {s : MgS} (h : MgOk l m s) {k : Nat} {x : RecD} (hb : bstTo l s.a l.length = some (k, x)) : m < l.flatten.length := by
  obtain ⟨q1, q2, q3⟩ := bstTo_some hb
  obtain ⟨hk, hi, hr⟩ := hdR_rst h.al q2
  have hp := h.pm.length_eq
  have hf := (flat_set _ k x _ hr).length_eq
  rw [List.length_append, hf, List.length_cons, h.ol] at hp
  omega
theorem mgL_perm {l : List (List RecD)} (hs : ∀ b ∈ l, b.Pairwise leR) : (mgL l).Perm l.flatten ∧ (mgL l).Pairwise leR := by
  have h := mg_ok hs _ (Nat.le_refl _)
  have hp := h.pm
  have hl := hp.length_eq
  rw [List.length_append, h.ol] at hl
  have e : (rstR l (mgTo l l.flatten.length).a).flatten = [] := List.eq_nil_of_length_eq_zero (by omega)
  rw [e, List.append_nil] at hp
  exact ⟨hp, h.so⟩

end Go.Proofs.Ytfnhchcgieeedaa

namespace Go.Proofs.Ytfnhchcgieeedaa
set_option linter.unusedSimpArgs false
set_option linter.unusedVariables false
set_option linter.defProp false
set_option maxRecDepth 20000
open Go.RowKit

def swE (e : EdgeD) : EdgeD := ⟨e.To, e.From, e.W⟩
def revG (g : GraphD) : GraphD := ⟨g.N, g.Edges.map swE⟩
theorem revG_ok (g : GraphD) : graphOk (revG g) = graphOk g := by
  unfold graphOk revG
  simp only [List.length_map, List.all_map]
  congr 1
  refine congrArg (fun p => List.all g.Edges p) (funext fun e => ?_)
  show decide _ = decide _
  rw [decide_eq_decide]
  show 0 ≤ e.To ∧ e.To < g.N ∧ 0 ≤ e.From ∧ e.From < g.N ∧ 0 ≤ e.W ∧ e.W ≤ 1000 ↔ _
  omega
def inDegs (g : GraphD) : List Int := outDegs (revG g)
theorem inDegs_len {g : GraphD} (h : graphOk g = true) : (inDegs g).length = g.N.toNat := by
  unfold inDegs outDegs
  rw [if_pos (by rw [revG_ok]; exact h)]
  simp [revG]
theorem inDegs_rng (g : GraphD) (v : Nat) : 0 ≤ (inDegs g).getD v 0 ∧ (inDegs g).getD v 0 ≤ 400 := by
  unfold inDegs outDegs
  split
  · rename_i ho
    rw [revG_ok] at ho
    have h3 := (graphOk_in ho).2.2.1
    rw [List.getD_eq_getElem?_getD, List.getElem?_map]
    cases (List.range (revG g).N.toNat)[v]? with
    | none => simp
    | some z =>
      have := degN_le (revG g).Edges (revG g).Edges.length z
      have h4 : (revG g).Edges.length = g.Edges.length := by simp [revG]
      simp only [Option.map_some, Option.getD_some]
      omega
  · simp

def ctTo (d : List Int) (b : Int) : Nat → List Int × Int
  | 0 => ([], 0)
  | v + 1 => if 0 < v ∧ b < (ctTo d b v).2 + d.getD v 0 then ((ctTo d b v).1 ++ [(v : Int)], d.getD v 0) else ((ctTo d b v).1, (ctTo d b v).2 + d.getD v 0)
def cutOk (g : GraphD) (b : Int) : Bool := graphOk g && decide (1 ≤ b ∧ b ≤ 400)
def cutL (g : GraphD) (b : Int) : List Int := if cutOk g b then (ctTo (inDegs g) b g.N.toNat).1 ++ (if 0 < g.N then [g.N] else []) else []

theorem ctTo_hit {d : List Int} {b : Int} {v : Nat} (h : 0 < v) (hb : b < (ctTo d b v).2 + d.getD v 0) : ctTo d b (v + 1) = ((ctTo d b v).1 ++ [(v : Int)], d.getD v 0) := if_pos ⟨h, hb⟩
theorem ctTo_miss {d : List Int} {b : Int} {v : Nat} (h : ¬ (0 < v ∧ b < (ctTo d b v).2 + d.getD v 0)) : ctTo d b (v + 1) = ((ctTo d b v).1, (ctTo d b v).2 + d.getD v 0) := if_neg h
theorem ctTo_rng {d : List Int} {b : Int} (hd : ∀ v, 0 ≤ d.getD v 0 ∧ d.getD v 0 ≤ 400) : ∀ v, 0 ≤ (ctTo d b v).2 ∧ (ctTo d b v).2 ≤ 400 * v
  | 0 => by simp [ctTo]
  | v + 1 => by
    have ih := ctTo_rng (b := b) hd v
    have := hd v
    rw [ctTo]
    split
    · dsimp only; omega
    · dsimp only; omega

theorem incO_snoc {l : List Int} {x : Int} (h : incO l l.length) (hx : lastE l l.length < x) : incO (l ++ [x]) (l ++ [x]).length ∧ lastE (l ++ [x]) (l ++ [x]).length = x := by
  have pre : ∀ i, i ≤ l.length → lastE (l ++ [x]) i = lastE l i := fun i hi => by
    unfold lastE
    rw [← List.cons_append, List.getD_eq_getElem?_getD, List.getElem?_append_left (by simp; omega), ← List.getD_eq_getElem?_getD]
  have hl : (l ++ [x]).length = l.length + 1 := by simp
  constructor
  · intro i hi _
    rw [hl] at hi
    by_cases e : i = l.length
    · subst e
      rw [pre _ (Nat.le_refl _)]
      simpa using hx
    · rw [pre i (by omega), List.getElem_append_left (by omega)]
      exact h i (by omega) (by omega)
  · rw [hl, lastE_succ (by omega)]
    simp
theorem ctTo_inc {d : List Int} {b : Int} : ∀ v, incO (ctTo d b v).1 (ctTo d b v).1.length ∧ lastE (ctTo d b v).1 (ctTo d b v).1.length ≤ v - 1 + (if v = 0 then 1 else 0) ∧ (ctTo d b v).1.length ≤ v
  | 0 => ⟨by intro i hi; simp [ctTo] at hi, by simp [ctTo, lastE], by simp [ctTo]⟩
  | v + 1 => by
    obtain ⟨h1, h2, h3⟩ := ctTo_inc (d := d) (b := b) v
    rw [ctTo]
    split
    · rename_i h
      have hv : v ≠ 0 := by omega
      rw [if_neg hv] at h2
      obtain ⟨q1, q2⟩ := incO_snoc (x := (v : Int)) h1 (by omega)
      refine ⟨q1, ?_, ?_⟩
      · dsimp only
        rw [q2]; simp
      · simp; omega
    · refine ⟨h1, ?_, by dsimp only; omega⟩
      dsimp only
      split at h2
      · subst_vars; simp at h2 ⊢; omega
      · simp; omega
theorem cut_yes {g : GraphD} {b : Int} (h : cutOk g b = true) : cutL g b = (ctTo (inDegs g) b g.N.toNat).1 ++ (if 0 < g.N then [g.N] else []) := by unfold cutL; rw [if_pos h]
theorem cut_no {g : GraphD} {b : Int} (h : cutOk g b = false) : cutL g b = [] := by unfold cutL; rw [h]; rfl
theorem cutOk_out {g : GraphD} {b : Int} (h : cutOk g b = true) : graphOk g = true ∧ 1 ≤ b ∧ b ≤ 400 := by
  unfold cutOk at h
  simpa using h
theorem cut_len (g : GraphD) (b : Int) : (cutL g b).length ≤ 150 := by
  cases ho : cutOk g b with
  | false => rw [cut_no ho]; simp
  | true =>
    obtain ⟨h1, h2, h3⟩ := cutOk_out ho
    obtain ⟨g1, g2, g3, _⟩ := graphOk_in h1
    rw [cut_yes ho]
    obtain ⟨q1, q2, q3⟩ := ctTo_inc (d := inDegs g) (b := b) g.N.toNat
    rw [List.length_append]
    split
    · rename_i hn
      -- the first vertex opens no interval
      have : ∀ v, 0 < v → (ctTo (inDegs g) b v).1.length ≤ v - 1 := fun v => by
        induction v with
        | zero => intro h; omega
        | succ v ih =>
          intro _
          rw [ctTo]
          split
          · rename_i hh
            have := ih hh.1
            simp; omega
          · rcases Nat.eq_zero_or_pos v with rfl | hv
            · simp [ctTo]
            · have := ih hv
              dsimp only; omega
      have := this g.N.toNat (by omega)
      simp; omega
    · simp; omega
theorem cut_ends {g : GraphD} {b : Int} (h : cutOk g b = true) : EndsOk g.N (cutL g b) := by
  obtain ⟨h1, h2, h3⟩ := cutOk_out h
  obtain ⟨g1, g2, g3, _⟩ := graphOk_in h1
  rw [cut_yes h]
  obtain ⟨q1, q2, q3⟩ := ctTo_inc (d := inDegs g) (b := b) g.N.toNat
  by_cases hn : 0 < g.N
  · rw [if_pos hn]
    rw [if_neg (by omega)] at q2
    obtain ⟨a1, a2⟩ := incO_snoc (x := g.N) q1 (by omega)
    exact ⟨g1, g2, a1, a2⟩
  · rw [if_neg hn, List.append_nil]
    have e : g.N.toNat = 0 := by omega
    rw [e] at q1 ⊢
    refine ⟨g1, g2, q1, ?_⟩
    simp only [ctTo, lastE]
    simp; omega

/-! The interval of a vertex. -/
def ivN (l : List Int) (v : Int) (k : Nat) : Nat := (l.take k).countP fun e => decide (e ≤ v)
theorem ivN_zero (l : List Int) (v : Int) : ivN l v 0 = 0 := rfl
theorem ivN_le (l : List Int) (v : Int) (k : Nat) : ivN l v k ≤ k := by
  unfold ivN
  have := List.countP_le_length (p := fun e : Int => decide (e ≤ v)) (l := l.take k)
  rw [List.length_take] at this
  omega
theorem ivN_succ {l : List Int} {v : Int} {k : Nat} (h : k < l.length) : ivN l v (k + 1) = ivN l v k + if l[k] ≤ v then 1 else 0 := by
  unfold ivN
  rw [List.take_add_one, List.getElem?_eq_getElem h, Option.toList_some, List.countP_append, List.countP_singleton]
  simp
theorem ivN_t {l : List Int} {v : Int} {k : Nat} (h : k < l.length) (hx : l[k] ≤ v) : ((ivN l v (k + 1) : Nat) : Int) = (ivN l v k : Int) + 1 := by rw [ivN_succ h, if_pos hx]; rfl
theorem ivN_f {l : List Int} {v : Int} {k : Nat} (h : k < l.length) (hx : ¬ l[k] ≤ v) : ivN l v (k + 1) = ivN l v k := by rw [ivN_succ h, if_neg hx]; rfl
theorem lastE_mono {l : List Int} (h : incO l l.length) : ∀ {i j : Nat}, i ≤ j → j ≤ l.length → lastE l i ≤ lastE l j := by
  intro i j hij hj
  induction j with
  | zero => have : i = 0 := by omega
            subst this; exact Int.le_refl _
  | succ j ih =>
    rcases Nat.lt_or_ge i (j + 1) with h1 | h1
    · have := ih (by omega) (by omega)
      have h2 := h j (by omega) (by omega)
      rw [lastE_succ (by omega)]; omega
    · have : i = j + 1 := by omega
      subst this; exact Int.le_refl _
theorem ivN_at {l : List Int} {v : Int} (h : incO l l.length) (h0 : 0 ≤ v) : ∀ k, k ≤ l.length → ivN l v k ≤ k ∧ lastE l (ivN l v k) ≤ v ∧ (v < lastE l k → ∃ h : ivN l v k < l.length, v < l[ivN l v k]) ∧ (lastE l k ≤ v → ivN l v k = k)
  | 0, _ => ⟨Nat.le_refl _, by rw [ivN_zero, lastE_zero]; exact h0, fun h => by rw [lastE_zero] at h; omega, fun _ => rfl⟩
  | k + 1, hk => by
    obtain ⟨a, b, c, d⟩ := ivN_at h h0 k (by omega)
    have hinc := h k (by omega) (by omega)
    rw [lastE_succ (by omega)]
    by_cases hx : l[k] ≤ v
    · have e := d (by omega)
      have e1 : ivN l v (k + 1) = k + 1 := by rw [ivN_succ (by omega), if_pos hx, e]
      rw [e1, lastE_succ (by omega)]
      exact ⟨Nat.le_refl _, hx, fun hh => by omega, fun _ => rfl⟩
    · have e1 := ivN_f (by omega) hx
      rw [e1]
      refine ⟨by omega, b, fun _ => ?_, fun hh => absurd hh hx⟩
      rcases Int.lt_or_le v (lastE l k) with q | q
      · exact c q
      · have e := d q
        exact ⟨by omega, by simp only [e]; omega⟩
theorem iv_in {n : Int} {l : List Int} (h : EndsOk n l) {v : Int} (h0 : 0 ≤ v) (hv : v < n) : ∃ hk : ivN l v l.length < l.length, lastE l (ivN l v l.length) ≤ v ∧ v < l[ivN l v l.length] := by
  obtain ⟨_, b, c, _⟩ := ivN_at h.2.2.1 h0 l.length (Nat.le_refl _)
  rw [h.2.2.2] at c
  obtain ⟨hk, h2⟩ := c hv
  exact ⟨hk, b, h2⟩

end Go.Proofs.Ytfnhchcgieeedaa

namespace Go.Proofs.Ytfnhchcgieeedaa
set_option linter.unusedSimpArgs false
set_option linter.unusedVariables false
set_option linter.defProp false
set_option maxRecDepth 20000
open Go.RowKit

def edgeZ : EdgeD := ⟨0, 0, 0⟩
def rcAt (g : GraphD) (ends : List Int) (i : Nat) : RecD := ⟨(ivN ends (g.Edges.getD i edgeZ).To ends.length : Int), (g.Edges.getD i edgeZ).From, (i : Int)⟩
def rcL (g : GraphD) (ends : List Int) (k : Nat) : List RecD := (List.range k).map (rcAt g ends)
theorem rcL_len (g : GraphD) (ends : List Int) (k : Nat) : (rcL g ends k).length = k := by simp [rcL]
theorem rcL_succ (g : GraphD) (ends : List Int) (k : Nat) : rcL g ends (k + 1) = rcL g ends k ++ [rcAt g ends k] := by simp [rcL, List.range_succ]
def pcN (m size : Nat) : Nat := (m + size - 1) / size
theorem pcN_cov {m size : Nat} (h : 0 < size) : m ≤ pcN m size * size ∧ ∀ k, k < pcN m size → k * size < m := by
  unfold pcN
  have h1 := Nat.div_add_mod (m + size - 1) size
  have h2 := Nat.mod_lt (m + size - 1) h
  constructor
  · rw [Nat.mul_comm]
    omega
  · intro k hk
    have h3 : (k + 1) * size ≤ (m + size - 1) / size * size := Nat.mul_le_mul_right _ hk
    rw [Nat.mul_comm ((m + size - 1) / size), Nat.succ_mul] at h3
    omega
def soL (l : List RecD) (size : Nat) : List RecD := mgL (cutR l size (pcN l.length size))
theorem soL_ok (l : List RecD) {size : Nat} (h : 0 < size) : (soL l size).Perm l ∧ (soL l size).Pairwise leR := by
  obtain ⟨h1, h2⟩ := mgL_perm (cutR_sorted l size (pcN l.length size))
  refine ⟨h1.trans ?_, h2⟩
  have h3 := cutR_perm l size (pcN l.length size)
  rwa [List.take_of_length_le (pcN_cov h).1] at h3
theorem soL_one (l : List RecD) {size : Nat} (h : 0 < size) : soL l size = srtR l := recs_one ((soL_ok l h).1.trans (srtR_perm l).symm) (soL_ok l h).2 (srtR_sorted l)

def seOf (g : GraphD) (r : RecD) : SEdgeD := ⟨(g.Edges.getD r.C.toNat edgeZ).From, (g.Edges.getD r.C.toNat edgeZ).To, (g.Edges.getD r.C.toNat edgeZ).W, r.C, 0⟩
def dealt (g : GraphD) (l : List RecD) (p : Nat) : List SEdgeD := (l.filter fun r => decide (r.A = (p : Int))).map (seOf g)
def shAt (g : GraphD) (ends : List Int) (l : List RecD) (p : Nat) : ShardD := ⟨lastE ends p, lastE ends (p + 1), dealt g l p⟩
def shL (g : GraphD) (ends : List Int) (l : List RecD) : List ShardD := (List.range ends.length).map (shAt g ends l)
theorem dealt_hit {g : GraphD} {l : List RecD} {r : RecD} {p : Nat} (h : r.A = (p : Int)) : dealt g (l ++ [r]) p = dealt g l p ++ [seOf g r] := by
  unfold dealt
  rw [List.filter_append, List.map_append]
  simp [h]
theorem dealt_miss {g : GraphD} {l : List RecD} {r : RecD} {p : Nat} (h : ¬ r.A = (p : Int)) : dealt g (l ++ [r]) p = dealt g l p := by
  unfold dealt
  rw [List.filter_append, List.map_append]
  simp [h]
theorem dealt_nil (g : GraphD) (p : Nat) : dealt g [] p = [] := rfl
theorem dealt_le (g : GraphD) (l : List RecD) (p : Nat) : (dealt g l p).length ≤ l.length := by
  unfold dealt
  rw [List.length_map]
  exact List.length_filter_le _ _
theorem shL_len (g : GraphD) (ends : List Int) (l : List RecD) : (shL g ends l).length = ends.length := by simp [shL]
theorem shL_get {g : GraphD} {ends : List Int} {l : List RecD} {p : Nat} (h : p < (shL g ends l).length) : (shL g ends l)[p] = shAt g ends l p := by simp [shL]

/-- Parts by A make up the whole. -/
theorem dealt_all {g : GraphD} : ∀ {n : Nat} {l : List RecD}, (∀ r ∈ l, ∃ k : Nat, r.A = (k : Int) ∧ k < n) → ((List.range n).flatMap (dealt g l)).Perm (l.map (seOf g)) := by
  have key : ∀ (l : List RecD) (n : Nat), ((List.range n).flatMap (dealt g l)).Perm ((l.filter fun r => decide (0 ≤ r.A ∧ r.A < (n : Int))).map (seOf g)) := by
    intro l n
    induction n with
    | zero =>
      have : (l.filter fun r => decide (0 ≤ r.A ∧ r.A < ((0 : Nat) : Int))) = [] := by
        rw [List.filter_eq_nil_iff]
        intro r _
        simp only [decide_eq_true_eq]; omega
      rw [this]; simp
    | succ n ih =>
      rw [List.range_succ, List.flatMap_append, List.flatMap_cons, List.flatMap_nil, List.append_nil]
      refine (ih.append_right _).trans ?_
      unfold dealt
      rw [← List.map_append]
      refine List.Perm.map _ ?_
      clear ih
      induction l with
      | nil => simp
      | cons r l ih =>
        rw [List.filter_cons, List.filter_cons, List.filter_cons]
        by_cases h1 : 0 ≤ r.A ∧ r.A < (n : Int)
        · rw [if_pos (by simpa using h1), if_neg (by simp only [decide_eq_true_eq]; omega), if_pos (by simp only [decide_eq_true_eq]; omega)]
          rw [List.cons_append]
          exact List.Perm.cons _ ih
        · rw [if_neg (by simpa using h1)]
          by_cases h2 : r.A = (n : Int)
          · rw [if_pos (by simpa using h2), if_pos (by simp only [decide_eq_true_eq]; omega)]
            exact List.perm_middle.trans (List.Perm.cons _ ih)
          · rw [if_neg (by simpa using h2), if_neg (by simp only [decide_eq_true_eq]; omega)]
            exact ih
  intro n l h
  have h1 := key l n
  have h2 : (l.filter fun r => decide (0 ≤ r.A ∧ r.A < (n : Int))) = l := by
    rw [List.filter_eq_self]
    intro r hr
    obtain ⟨k, h3, h4⟩ := h r hr
    simp only [decide_eq_true_eq]; omega
  rwa [h2] at h1

def fmOk (g : GraphD) (b size : Int) : Bool := cutOk g b && decide (1 ≤ size)
def srtG (g : GraphD) (ends : List Int) (size : Nat) : List RecD := soL (rcL g ends g.Edges.length) size
def farmO (g : GraphD) (b : Int) (size : Nat) : FarmD := ⟨g.N, cutL g b, shL g (cutL g b) (srtG g (cutL g b) size)⟩
def farmR (g : GraphD) (b size : Int) : FarmD := if fmOk g b size then farmO g b size.toNat else ⟨0, [], []⟩

theorem srtG_mem {g : GraphD} {ends : List Int} (hg : graphOk g = true) (he : EndsOk g.N ends) {size : Nat} (h : 0 < size) : ∀ r ∈ srtG g ends size, ∃ i, ∃ hi : i < g.Edges.length, r = rcAt g ends i ∧ r.C = (i : Int) ∧ seOf g r = ⟨g.Edges[i].From, g.Edges[i].To, g.Edges[i].W, (i : Int), 0⟩ ∧ ∃ k : Nat, r.A = (k : Int) ∧ ∃ hk : k < ends.length, lastE ends k ≤ g.Edges[i].To ∧ g.Edges[i].To < ends[k] := by
  intro r hr
  have h1 := (soL_ok (rcL g ends g.Edges.length) h).1.subset hr
  obtain ⟨i, hi, rfl⟩ := List.mem_map.1 h1
  rw [List.mem_range] at hi
  obtain ⟨_, _, _, g4⟩ := graphOk_in hg
  have g5 := g4 i hi
  have e : g.Edges.getD i edgeZ = g.Edges[i] := by rw [List.getD_eq_getElem?_getD, List.getElem?_eq_getElem hi]; rfl
  obtain ⟨a, b, c⟩ := iv_in he (v := g.Edges[i].To) g5.2.2.1 g5.2.2.2.1
  refine ⟨i, hi, rfl, rfl, ?_, _, ?_, a, b, c⟩
  · unfold seOf rcAt
    simp only [Int.toNat_natCast, e]
  · unfold rcAt
    simp only [e]
theorem srtG_len (g : GraphD) (ends : List Int) {size : Nat} (h : 0 < size) : (srtG g ends size).length = g.Edges.length := by
  have := (soL_ok (rcL g ends g.Edges.length) h).1.length_eq
  rw [rcL_len] at this
  exact this

theorem shL_all {g : GraphD} {ends : List Int} (hg : graphOk g = true) (he : EndsOk g.N ends) {size : Nat} (h : 0 < size) : (allE (shL g ends (srtG g ends size))).Perm ((List.range g.Edges.length).map fun i => seOf g (rcAt g ends i)) := by
  have h1 : allE (shL g ends (srtG g ends size)) = (List.range ends.length).flatMap (dealt g (srtG g ends size)) := by
    unfold allE shL
    rw [List.flatMap_map]; rfl
  rw [h1]
  refine (dealt_all fun r hr => ?_).trans ?_
  · obtain ⟨i, hi, _, _, _, k, e, hk, _⟩ := srtG_mem hg he h r hr
    exact ⟨k, e, hk⟩
  · have := (soL_ok (rcL g ends g.Edges.length) h).1.map (seOf g)
    unfold rcL at this
    rwa [List.map_map] at this

theorem okL_perm {n : Int} {m : Nat} {L M : List SEdgeD} (h : L.Perm M) (h1 : ∀ e ∈ M, 0 ≤ e.Index ∧ e.From < n ∧ e.Index < m) (h2 : (M.map (·.Index)).Nodup) : okL n m L := by
  intro i hi
  refine ⟨h1 _ (h.subset (List.getElem_mem hi)), fun j hj => ?_⟩
  have h3 : (L.map (·.Index)).Nodup := (h.map _).nodup_iff.2 h2
  unfold List.Nodup at h3
  rw [List.pairwise_iff_getElem] at h3
  have := h3 j i (by simp; omega) (by simpa using hi) hj
  simpa using this

theorem dealt_ord {g : GraphD} {ends : List Int} (hg : graphOk g = true) (he : EndsOk g.N ends) {size : Nat} (h : 0 < size) (p : Nat) : (dealt g (srtG g ends size) p).Pairwise ordOk := by
  unfold dealt
  rw [List.pairwise_map]
  have h1 : ((srtG g ends size).filter fun r => decide (r.A = (p : Int))).Pairwise leR := (soL_ok (rcL g ends g.Edges.length) h).2.sublist List.filter_sublist
  have h2 : ((srtG g ends size).map (·.C)).Nodup := by
    have h3 := (soL_ok (rcL g ends g.Edges.length) h).1.map (·.C)
    refine h3.nodup_iff.2 ?_
    unfold rcL
    rw [List.map_map]
    unfold List.Nodup
    rw [List.pairwise_map]
    refine List.Pairwise.imp ?_ List.nodup_range
    intro a b hab hc
    simp only [Function.comp_def, rcAt] at hc
    omega
  have h4 : ((srtG g ends size).filter fun r => decide (r.A = (p : Int))).Pairwise fun a b => a.C ≠ b.C := by
    unfold List.Nodup at h2
    rw [List.pairwise_map] at h2
    exact h2.sublist List.filter_sublist
  refine (h1.and h4).imp_of_mem ?_
  rintro a b ha hb ⟨q1, q2⟩
  have ha' := List.mem_filter.1 ha
  have hb' := List.mem_filter.1 hb
  obtain ⟨i, hi, ea, ca, sa, _⟩ := srtG_mem hg he h a ha'.1
  obtain ⟨j, hj, eb, cb, sb, _⟩ := srtG_mem hg he h b hb'.1
  have a1 : a.A = p := by simpa using ha'.2
  have b1 : b.A = p := by simpa using hb'.2
  have fa : a.B = g.Edges[i].From := by
    rw [ea]; unfold rcAt
    rw [List.getD_eq_getElem?_getD, List.getElem?_eq_getElem hi]; rfl
  have fb : b.B = g.Edges[j].From := by
    rw [eb]; unfold rcAt
    rw [List.getD_eq_getElem?_getD, List.getElem?_eq_getElem hj]; rfl
  rw [sa, sb]
  unfold ordOk
  dsimp only
  unfold leR ltR at q1
  rw [← fa, ← fb]
  omega

theorem farmO_ok {g : GraphD} {b : Int} (h : cutOk g b = true) {size : Nat} (hs : 0 < size) : FarmOk (farmO g b size) ∧ edSum (farmO g b size).Shards = g.Edges.length := by
  obtain ⟨hg, hb, hb'⟩ := cutOk_out h
  obtain ⟨g1, g2, g3, g4⟩ := graphOk_in hg
  have he := cut_ends h
  obtain ⟨ends, hends⟩ : ∃ ends, ends = cutL g b := ⟨_, rfl⟩
  have hl0 := cut_len g b
  unfold farmO
  rw [← hends] at he hl0 ⊢
  have hl := shL_len g ends (srtG g ends size)
  have hperm := shL_all hg he hs
  have hsum : edSum (shL g ends (srtG g ends size)) = g.Edges.length := by
    rw [← allE_len, hperm.length_eq]; simp
  have hmem : ∀ p, ∀ e ∈ dealt g (srtG g ends size) p, ∃ i, ∃ hi : i < g.Edges.length, e = ⟨g.Edges[i].From, g.Edges[i].To, g.Edges[i].W, (i : Int), 0⟩ ∧ ∃ hk : p < ends.length, lastE ends p ≤ g.Edges[i].To ∧ g.Edges[i].To < ends[p] := by
    intro p e hem
    unfold dealt at hem
    obtain ⟨r, hr, rfl⟩ := List.mem_map.1 hem
    obtain ⟨hr1, hr2⟩ := List.mem_filter.1 hr
    obtain ⟨i, hi, _, _, es, k, ek, hk, q1, q2⟩ := srtG_mem hg he hs r hr1
    have : k = p := by
      have : r.A = p := by simpa using hr2
      omega
    subst this
    exact ⟨i, hi, es, hk, q1, q2⟩
  refine ⟨⟨he, hl, ?_, g1, g2, ?_, ?_, ?_, ?_⟩, hsum⟩
  · intro p hp _
    dsimp only at hp ⊢
    rw [shL_get hp]
    unfold shAt
    dsimp only
    refine ⟨rfl, fun h2 => lastE_succ h2, fun y hy => ?_⟩
    obtain ⟨i, hi, rfl, _⟩ := hmem p y hy
    dsimp only; omega
  · intro p hp _
    dsimp only at hp ⊢
    rw [hl] at hp
    have hinc := he.2.2.1 p hp hp
    have hle : ends[p] ≤ g.N := by
      have := lastE_mono he.2.2.1 (i := p + 1) (j := ends.length) (by omega) (Nat.le_refl _)
      rwa [lastE_succ hp, he.2.2.2] at this
    have h0 : 0 ≤ lastE ends p := by
      have := lastE_mono he.2.2.1 (i := 0) (j := p) (by omega) (by omega)
      rwa [lastE_zero] at this
    constructor
    · rw [shL_get (by rw [hl]; exact hp)]
      refine ⟨⟨h0, ?_, ?_, ?_⟩, ?_⟩
      · show lastE ends p < lastE ends (p + 1)
        rw [lastE_succ hp]; exact hinc
      · show lastE ends (p + 1) ≤ 150
        rw [lastE_succ hp]; omega
      · show (dealt g (srtG g ends size) p).length ≤ 400
        have := dealt_le g (srtG g ends size) p
        rw [srtG_len g ends hs] at this
        omega
      · intro i hi _
        have hi' : i < (dealt g (srtG g ends size) p).length := hi
        have hed : (shAt g ends (srtG g ends size) p).Edges[i] = (dealt g (srtG g ends size) p)[i] := rfl
        obtain ⟨t, ht, et, hk, q1, q2⟩ := hmem p _ (List.getElem_mem hi')
        have g5 := g4 t ht
        constructor
        · show edOk _ (dealt g (srtG g ends size) p)[i]
          rw [et]
          unfold edOk
          dsimp only [shAt]
          rw [lastE_succ hp]
          omega
        · intro h0
          have := List.pairwise_iff_getElem.1 (dealt_ord hg he hs p) (i - 1) i (by omega) hi' (by omega)
          exact this
    · rw [shL_get (by rw [hl]; exact hp)]
      show lastE ends p = _
      cases p with
      | zero => rw [lastE_zero, lastH_zero]
      | succ p => rw [lastH_succ (by rw [hl]; omega), shL_get (by rw [hl]; omega)]; rfl
  · dsimp only
    rw [hl]
    rcases Nat.eq_zero_or_pos ends.length with h0 | h0
    · rw [h0, lastH_zero, ← he.2.2.2, h0, lastE_zero]
    · obtain ⟨k, hk⟩ : ∃ k, ends.length = k + 1 := ⟨ends.length - 1, by omega⟩
      rw [hk, lastH_succ (by rw [hl]; omega), shL_get (by rw [hl]; omega)]
      show lastE ends (k + 1) = g.N
      rw [← hk]; exact he.2.2.2
  · dsimp only
    rw [hsum]; exact g3
  · dsimp only
    rw [hsum]
    refine okL_perm hperm (fun e hem => ?_) ?_
    · obtain ⟨i, hi, rfl⟩ := List.mem_map.1 hem
      rw [List.mem_range] at hi
      have g5 := g4 i hi
      unfold seOf rcAt
      dsimp only
      rw [Int.toNat_natCast, List.getD_eq_getElem?_getD, List.getElem?_eq_getElem hi]
      simp only [Option.getD_some]
      omega
    · rw [List.map_map]
      unfold List.Nodup
      rw [List.pairwise_map]
      refine List.Pairwise.imp ?_ List.nodup_range
      intro a b hab hc
      simp only [Function.comp_def, seOf, rcAt] at hc
      omega

theorem farm_yes {g : GraphD} {b size : Int} (h : fmOk g b size = true) : farmR g b size = farmO g b size.toNat ∧ cutOk g b = true ∧ 1 ≤ size := by
  refine ⟨if_pos h, ?_⟩
  unfold fmOk at h
  simpa using h
theorem farm_no {g : GraphD} {b size : Int} (h : fmOk g b size = false) : farmR g b size = ⟨0, [], []⟩ := by unfold farmR; rw [h]; rfl
theorem farmR_ok {g : GraphD} {b size : Int} (h : fmOk g b size = true) : FarmOk (farmR g b size) ∧ edSum (farmR g b size).Shards = g.Edges.length := by
  obtain ⟨h1, h2, h3⟩ := farm_yes h
  rw [h1]
  exact farmO_ok h2 (by omega)

end Go.Proofs.Ytfnhchcgieeedaa

namespace Go.Proofs.Ytfnhchcgieeedaa
set_option linter.unusedSimpArgs false
set_option linter.unusedVariables false
set_option linter.defProp false
set_option maxRecDepth 20000
open Go.RowKit
attribute [local irreducible] lexD

theorem swE_at {l : List EdgeD} {k : Nat} (h : k < l.length) : ((l.map swE)[k]'(by simpa using h)).From = l[k].To := by rw [List.getElem_map]; rfl


set_option maxHeartbeats 4000000 in
theorem implInDegs_k (g : GraphD) (hl : g.Edges.length ≤ 1048576) : FnOK Try.prog 95 ⟨1, [(0, some (.ro ((g.Edges).map EdgeD.k)))], [.agg [.v (.int .i64 g.N), .sl 0 3 0 (g.Edges).length]], .c (.sl 1 1 0 (inDegs g).length), [(1, some (.row 3 ((inDegs g).map intK)))], 2⟩ := by
  have hs := implGraphOk_k g (by omega)
  cases ho : graphOk g with
  | false =>
    rw [ho] at hs
    have e : inDegs g = [] := by unfold inDegs outDegs; rw [revG_ok, ho]; rfl
    rw [e]
    refine fnOK_of true mixed Try.func95 rfl (by rfl) (by rfl) ?_
    have hres := congrArg Array.toList Try.results95
    simp only [Try.ntmps95, BGB, seval]
    (have gx := true_and True; have q1 := hs; refine go ?_; (repeat' first | exact Ef.mk | apply Lf.mk | refine fun (K : KT) hK hE hT => ?_ | refine fun (KS : KE) hKS => ?_ | refine fun (D : KD) hD => ?_ | refine fun (hg : (_ : Prop)) => ?_ | fail); all_goals (first | (refine Wr.mk ?_; (try clear gx q1); repeat first | clear hK hE hT K | clear hR hE hT K) | assumption | skip))
    (refine post_a hres (.inl rfl) ?_; simp only [RSB, ENB, seval, tiAll, true_and]; simp only [MAB, seval]; refine ⟨rfl, rfl, ?_, ?_, ?_⟩ <;> (first | rfl | (simp [WKB, Nat.add_comm, true_and]; done) | (simp only [WKB, seval])))
  | true =>
    rw [ho] at hs
    have hd := degRow_out (revG g) (by rw [revG_ok]; exact ho)
    obtain ⟨h1, h2, h3, h4⟩ := graphOk_in ho
    have hdl := inDegs_len ho
    have hid : outDegs (revG g) = inDegs g := rfl
    rw [hid] at hd
    obtain ⟨R, hR0⟩ : ∃ R, R = inDegs g := ⟨_, rfl⟩
    rw [← hR0] at hd hdl ⊢
    clear hid hR0
    obtain ⟨n, l⟩ := g
    dsimp only [revG, List.length_map] at *
    obtain ⟨m, rfl⟩ := Int.eq_ofNat_of_zero_le h1
    simp only [Int.toNat_natCast] at hd hdl
    rw [← hd, hdl]
    obtain ⟨L, hL⟩ : ∃ L, L = l.map swE := ⟨_, rfl⟩
    have hLl : L.length = l.length := by rw [hL, List.length_map]
    have hLk : ∀ k (h : k < l.length), (L[k]'(by omega)).From = l[k].To := fun k h => by subst hL; exact swE_at h
    rw [← hL, hLl]
    clear hL hd hdl
    refine fnOK_of true mixed Try.func95 rfl (by rfl) (by rfl) ?_
    have hres := congrArg Array.toList Try.results95
    simp only [Try.ntmps95, BGB, seval]
    (have gx := true_and True; have q1 := hs; refine go ?_; (repeat' first | exact Ef.mk | apply Lf.mk | refine fun (K : KT) hK hE hT => ?_ | refine fun (KS : KE) hKS => ?_ | refine fun (D : KD) hD => ?_ | refine fun (hg : (_ : Prop)) => ?_ | fail); all_goals (first | (refine Wr.mk ?_; (try clear gx q1); repeat first | clear hK hE hT K | clear hR hE hT K) | assumption | skip))
    refine loop_v (X := {k : Nat // k ≤ l.length}) [] (fun x => [(15, .c (.v (.int .i64 ((x.1 : Nat) : Int))))]) (fun x => [(0, some (.ro (l.map EdgeD.k))), (1, some (.box 34 [.v (.int .i64 (m : Int)), .sl 0 3 0 l.length])), (2, some (.row 3 (degRow m L x.1)))]) 3 (fun x => l.length - x.1) ⟨0, by omega⟩ ?_
    simp only [KPB, seval]
    refine ⟨?_, ?_⟩
    · (refine wk_a ?_; simp only [MAB, seval]; refine ⟨rfl, rfl, (by decide), ?_, ?_⟩; all_goals (first | (simp only [WKB, seval, degRow_zero]; done) | (simp [WKB, seval, degRow_zero]; done) | simp only [WKB, seval]))
    · rintro ⟨k, hk⟩ K hR hE hT
      rcases Nat.lt_or_ge k l.length with hlt | hge
      case inr =>
        (have gx := @List.length_map.{0,0}; refine go ?_; (repeat' first | exact Ef.mk | apply Lf.mk | refine fun (K : KT) hK hE hT => ?_ | refine fun (KS : KE) hKS => ?_ | refine fun (D : KD) hD => ?_ | refine fun (hg : (_ : Prop)) => ?_ | fail); all_goals (first | (refine Wr.mk ?_; (try clear gx); repeat first | clear hK hE hT K | clear hR hE hT K) | assumption | skip))
        obtain rfl : k = l.length := by omega
        (refine post_a hres (.inl rfl) ?_; simp only [RSB, ENB, seval, tiAll, true_and]; simp only [MAB, seval]; refine ⟨rfl, rfl, ?_, ?_, ?_⟩ <;> (first | rfl | (simp [WKB, Nat.add_comm, true_and]; done) | (simp only [WKB, seval])))
      case inl =>
        obtain ⟨_, _, q1, q2, _⟩ := h4 k hlt
        obtain ⟨v, hv⟩ := Int.eq_ofNat_of_zero_le q1
        have hdn := degN_le L k v
        have hvm : v < m := by omega
        have e := degRow_set m L k v (by omega) (by rw [hLk k hlt]; exact hv) hvm
        (have gx := And.intro (@List.length_map.{0,0}) (And.intro (@List.getElem_map.{0,0}) (And.intro (@EdgeD.k.eq_1) (And.intro (@hv) (And.intro @degRow_len @degRow_get)))); refine go ?_; (repeat' first | exact Ef.mk | apply Lf.mk | refine fun (K : KT) hK hE hT => ?_ | refine fun (KS : KE) hKS => ?_ | refine fun (D : KD) hD => ?_ | refine fun (hg : (_ : Prop)) => ?_ | fail); all_goals (first | (refine Wr.mk ?_; (try clear gx); repeat first | clear hK hE hT K | clear hR hE hT K) | assumption | skip))
        (refine hR.out ⟨k + 1, by omega⟩ _ _ _ (by simp only; omega) ?_; (refine wk_a ?_; simp only [MAB, seval]; refine ⟨rfl, rfl, (by decide), ?_, ?_⟩; all_goals (first | (simp only [WKB, seval, e]; done) | (simp [WKB, seval, e]; done) | simp only [WKB, seval])))

set_option maxHeartbeats 4000000 in
theorem specInDegs_k (g : GraphD) (hl : g.Edges.length ≤ 1048576) : FnOK Try.prog 89 ⟨1, [(0, some (.ro ((g.Edges).map EdgeD.k)))], [.agg [.v (.int .i64 g.N), .sl 0 3 0 (g.Edges).length]], .c (.sl 1 1 0 (inDegs g).length), [(1, some (.row 3 ((inDegs g).map intK)))], 2⟩ := by
  have hs := specGraphOk_k g (by omega)
  cases ho : graphOk g with
  | false =>
    rw [ho] at hs
    have e : inDegs g = [] := by unfold inDegs outDegs; rw [revG_ok, ho]; rfl
    rw [e]
    refine fnOK_of true mixed Try.func89 rfl (by rfl) (by rfl) ?_
    have hres := congrArg Array.toList Try.results89
    simp only [Try.ntmps89, BGB, seval]
    (have gx := true_and True; have q1 := hs; refine go ?_; (repeat' first | exact Ef.mk | apply Lf.mk | refine fun (K : KT) hK hE hT => ?_ | refine fun (KS : KE) hKS => ?_ | refine fun (D : KD) hD => ?_ | refine fun (hg : (_ : Prop)) => ?_ | fail); all_goals (first | (refine Wr.mk ?_; (try clear gx q1); repeat first | clear hK hE hT K | clear hR hE hT K) | assumption | skip))
    (refine post_a hres (.inl rfl) ?_; simp only [RSB, ENB, seval, tiAll, true_and]; simp only [MAB, seval]; refine ⟨rfl, rfl, ?_, ?_, ?_⟩ <;> (first | rfl | (simp [WKB, Nat.add_comm, true_and]; done) | (simp only [WKB, seval])))
  | true =>
    rw [ho] at hs
    have hd := degRow_out (revG g) (by rw [revG_ok]; exact ho)
    obtain ⟨h1, h2, h3, h4⟩ := graphOk_in ho
    have hdl := inDegs_len ho
    have hid : outDegs (revG g) = inDegs g := rfl
    rw [hid] at hd
    obtain ⟨R, hR0⟩ : ∃ R, R = inDegs g := ⟨_, rfl⟩
    rw [← hR0] at hd hdl ⊢
    clear hid hR0
    obtain ⟨n, l⟩ := g
    dsimp only [revG, List.length_map] at *
    obtain ⟨m, rfl⟩ := Int.eq_ofNat_of_zero_le h1
    simp only [Int.toNat_natCast] at hd hdl
    rw [← hd, hdl]
    obtain ⟨L, hL⟩ : ∃ L, L = l.map swE := ⟨_, rfl⟩
    have hLl : L.length = l.length := by rw [hL, List.length_map]
    have hLk : ∀ k (h : k < l.length), (L[k]'(by omega)).From = l[k].To := fun k h => by subst hL; exact swE_at h
    rw [← hL, hLl]
    clear hL hd hdl
    refine fnOK_of true mixed Try.func89 rfl (by rfl) (by rfl) ?_
    have hres := congrArg Array.toList Try.results89
    simp only [Try.ntmps89, BGB, seval]
    (have gx := true_and True; have q1 := hs; refine go ?_; (repeat' first | exact Ef.mk | apply Lf.mk | refine fun (K : KT) hK hE hT => ?_ | refine fun (KS : KE) hKS => ?_ | refine fun (D : KD) hD => ?_ | refine fun (hg : (_ : Prop)) => ?_ | fail); all_goals (first | (refine Wr.mk ?_; (try clear gx q1); repeat first | clear hK hE hT K | clear hR hE hT K) | assumption | skip))
    refine loop_v (X := {k : Nat // k ≤ l.length}) [] (fun x => [(15, .c (.v (.int .i64 ((x.1 : Nat) : Int))))]) (fun x => [(0, some (.ro (l.map EdgeD.k))), (1, some (.box 34 [.v (.int .i64 (m : Int)), .sl 0 3 0 l.length])), (2, some (.row 3 (degRow m L x.1)))]) 3 (fun x => l.length - x.1) ⟨0, by omega⟩ ?_
    simp only [KPB, seval]
    refine ⟨?_, ?_⟩
    · (refine wk_a ?_; simp only [MAB, seval]; refine ⟨rfl, rfl, (by decide), ?_, ?_⟩; all_goals (first | (simp only [WKB, seval, degRow_zero]; done) | (simp [WKB, seval, degRow_zero]; done) | simp only [WKB, seval]))
    · rintro ⟨k, hk⟩ K hR hE hT
      rcases Nat.lt_or_ge k l.length with hlt | hge
      case inr =>
        (have gx := @List.length_map.{0,0}; refine go ?_; (repeat' first | exact Ef.mk | apply Lf.mk | refine fun (K : KT) hK hE hT => ?_ | refine fun (KS : KE) hKS => ?_ | refine fun (D : KD) hD => ?_ | refine fun (hg : (_ : Prop)) => ?_ | fail); all_goals (first | (refine Wr.mk ?_; (try clear gx); repeat first | clear hK hE hT K | clear hR hE hT K) | assumption | skip))
        obtain rfl : k = l.length := by omega
        (refine post_a hres (.inl rfl) ?_; simp only [RSB, ENB, seval, tiAll, true_and]; simp only [MAB, seval]; refine ⟨rfl, rfl, ?_, ?_, ?_⟩ <;> (first | rfl | (simp [WKB, Nat.add_comm, true_and]; done) | (simp only [WKB, seval])))
      case inl =>
        obtain ⟨_, _, q1, q2, _⟩ := h4 k hlt
        obtain ⟨v, hv⟩ := Int.eq_ofNat_of_zero_le q1
        have hdn := degN_le L k v
        have hvm : v < m := by omega
        have e := degRow_set m L k v (by omega) (by rw [hLk k hlt]; exact hv) hvm
        (have gx := And.intro (@List.length_map.{0,0}) (And.intro (@List.getElem_map.{0,0}) (And.intro (@EdgeD.k.eq_1) (And.intro (@hv) (And.intro @degRow_len @degRow_get)))); refine go ?_; (repeat' first | exact Ef.mk | apply Lf.mk | refine fun (K : KT) hK hE hT => ?_ | refine fun (KS : KE) hKS => ?_ | refine fun (D : KD) hD => ?_ | refine fun (hg : (_ : Prop)) => ?_ | fail); all_goals (first | (refine Wr.mk ?_; (try clear gx); repeat first | clear hK hE hT K | clear hR hE hT K) | assumption | skip))
        (refine hR.out ⟨k + 1, by omega⟩ _ _ _ (by simp only; omega) ?_; (refine wk_a ?_; simp only [MAB, seval]; refine ⟨rfl, rfl, (by decide), ?_, ?_⟩; all_goals (first | (simp only [WKB, seval, e]; done) | (simp [WKB, seval, e]; done) | simp only [WKB, seval])))


set_option maxHeartbeats 4000000 in
theorem implIntervalOf_k (n : Int) (l : List Int) (v : Int) (h : EndsOk n l) (h0 : 0 ≤ v) (hv : v < n) (hl : l.length ≤ 1048576) : FnOK Try.prog 97 ⟨1, [(0, some (.ro (l.map intK)))], [.c (.sl 0 1 0 l.length), .c (.v (.int .i64 v))], .c (.v (.int .i64 ((ivN l v l.length : Nat) : Int))), [], 1⟩ := by
  have hk : 0 < l.length := by obtain ⟨hk, _⟩ := iv_in h h0 hv; omega
  obtain ⟨m, hm⟩ : ∃ m, l.length = m + 1 := ⟨l.length - 1, by omega⟩
  have e1 : (l.length : Int) - 1 = (m : Int) := by omega
  have e2 : l[m]'(by omega) = n := by
    have := h.2.2.2
    rw [hm, lastE_succ (by omega)] at this
    exact this
  refine fnOK_of true mixed Try.func97 rfl (by rfl) (by rfl) ?_
  have hres := congrArg Array.toList Try.results97
  simp only [Try.ntmps97, BGB, seval]
  (have gx := And.intro (@List.length_map.{0,0}) (And.intro (@List.getElem_map.{0,0}) (And.intro (@intK.eq_1) (And.intro @e1 @e2))); refine go ?_; (repeat' first | exact Ef.mk | apply Lf.mk | refine fun (K : KT) hK hE hT => ?_ | refine fun (KS : KE) hKS => ?_ | refine fun (D : KD) hD => ?_ | refine fun (hg : (_ : Prop)) => ?_ | fail); all_goals (first | (refine Wr.mk ?_; (try clear gx); repeat first | clear hK hE hT K | clear hR hE hT K) | assumption | skip))
  refine loop_v (X := {k : Nat // k ≤ l.length}) [] (fun x => [(5, .c (.v (.int .i64 ((ivN l v x.1 : Nat) : Int)))), (27, .c (.v (.int .i64 ((x.1 : Nat) : Int))))]) (fun x => [(0, some (.ro (l.map intK)))]) 1 (fun x => l.length - x.1) ⟨0, by omega⟩ ?_
  simp only [KPB, seval]
  refine ⟨?_, ?_⟩
  · (refine wk_a ?_; simp only [MAB, seval]; refine ⟨rfl, rfl, (by decide), ?_, ?_⟩; all_goals (first | (simp only [WKB, seval, ivN_zero]; done) | (simp [WKB, seval, ivN_zero]; done) | simp only [WKB, seval]))
  · rintro ⟨k, hk⟩ K hR hE hT
    have l1 := ivN_le l v k
    rcases Nat.lt_or_ge k l.length with hlt | hge
    case inr =>
      obtain rfl : k = l.length := by omega
      (have gx := @List.length_map.{0,0}; refine go ?_; (repeat' first | exact Ef.mk | apply Lf.mk | refine fun (K : KT) hK hE hT => ?_ | refine fun (KS : KE) hKS => ?_ | refine fun (D : KD) hD => ?_ | refine fun (hg : (_ : Prop)) => ?_ | fail); all_goals (first | (refine Wr.mk ?_; (try clear gx); repeat first | clear hK hE hT K | clear hR hE hT K) | assumption | skip))
      (refine post_a hres (.inl rfl) ?_; simp only [RSB, ENB, seval, tiAll, true_and]; simp only [MAB, seval]; refine ⟨rfl, rfl, ?_, ?_, ?_⟩ <;> (first | rfl | (simp [WKB, Nat.add_comm, true_and]; done) | (simp only [WKB, seval])))
    case inl =>
      obtain ⟨y, hy⟩ : ∃ y, y = l[k] := ⟨_, rfl⟩
      by_cases hx : y ≤ v
      · have e := ivN_t hlt (v := v) (by rw [← hy]; exact hx)
        (have gx := And.intro (@List.length_map.{0,0}) (And.intro (@List.getElem_map.{0,0}) (And.intro (hy).symm @intK.eq_1)); refine go ?_; (repeat' first | exact Ef.mk | apply Lf.mk | refine fun (K : KT) hK hE hT => ?_ | refine fun (KS : KE) hKS => ?_ | refine fun (D : KD) hD => ?_ | refine fun (hg : (_ : Prop)) => ?_ | fail); all_goals (first | (refine Wr.mk ?_; (try clear gx); repeat first | clear hK hE hT K | clear hR hE hT K) | assumption | skip))
        (refine hR.out ⟨k + 1, by omega⟩ _ _ _ (by simp only; omega) ?_; (refine wk_a ?_; simp only [MAB, seval]; refine ⟨rfl, rfl, (by decide), ?_, ?_⟩; all_goals (first | (simp only [WKB, seval, e]; done) | (simp [WKB, seval, e]; done) | simp only [WKB, seval])))
      · have e := ivN_f hlt (v := v) (by rw [← hy]; exact hx)
        (have gx := And.intro (@List.length_map.{0,0}) (And.intro (@List.getElem_map.{0,0}) (And.intro (hy).symm @intK.eq_1)); refine go ?_; (repeat' first | exact Ef.mk | apply Lf.mk | refine fun (K : KT) hK hE hT => ?_ | refine fun (KS : KE) hKS => ?_ | refine fun (D : KD) hD => ?_ | refine fun (hg : (_ : Prop)) => ?_ | fail); all_goals (first | (refine Wr.mk ?_; (try clear gx); repeat first | clear hK hE hT K | clear hR hE hT K) | assumption | skip))
        (refine hR.out ⟨k + 1, by omega⟩ _ _ _ (by simp only; omega) ?_; (refine wk_a ?_; simp only [MAB, seval]; refine ⟨rfl, rfl, (by decide), ?_, ?_⟩; all_goals (first | (simp only [WKB, seval, e]; done) | (simp [WKB, seval, e]; done) | simp only [WKB, seval])))

set_option maxHeartbeats 4000000 in
theorem specIntervalOf_k (n : Int) (l : List Int) (v : Int) (h : EndsOk n l) (h0 : 0 ≤ v) (hv : v < n) (hl : l.length ≤ 1048576) : FnOK Try.prog 91 ⟨1, [(0, some (.ro (l.map intK)))], [.c (.sl 0 1 0 l.length), .c (.v (.int .i64 v))], .c (.v (.int .i64 ((ivN l v l.length : Nat) : Int))), [], 1⟩ := by
  have hk : 0 < l.length := by obtain ⟨hk, _⟩ := iv_in h h0 hv; omega
  obtain ⟨m, hm⟩ : ∃ m, l.length = m + 1 := ⟨l.length - 1, by omega⟩
  have e1 : (l.length : Int) - 1 = (m : Int) := by omega
  have e2 : l[m]'(by omega) = n := by
    have := h.2.2.2
    rw [hm, lastE_succ (by omega)] at this
    exact this
  refine fnOK_of true mixed Try.func91 rfl (by rfl) (by rfl) ?_
  have hres := congrArg Array.toList Try.results91
  simp only [Try.ntmps91, BGB, seval]
  (have gx := And.intro (@List.length_map.{0,0}) (And.intro (@List.getElem_map.{0,0}) (And.intro (@intK.eq_1) (And.intro @e1 @e2))); refine go ?_; (repeat' first | exact Ef.mk | apply Lf.mk | refine fun (K : KT) hK hE hT => ?_ | refine fun (KS : KE) hKS => ?_ | refine fun (D : KD) hD => ?_ | refine fun (hg : (_ : Prop)) => ?_ | fail); all_goals (first | (refine Wr.mk ?_; (try clear gx); repeat first | clear hK hE hT K | clear hR hE hT K) | assumption | skip))
  refine loop_v (X := {k : Nat // k ≤ l.length}) [] (fun x => [(5, .c (.v (.int .i64 ((ivN l v x.1 : Nat) : Int)))), (25, .c (.v (.int .i64 ((x.1 : Nat) : Int))))]) (fun x => [(0, some (.ro (l.map intK)))]) 1 (fun x => l.length - x.1) ⟨0, by omega⟩ ?_
  simp only [KPB, seval]
  refine ⟨?_, ?_⟩
  · (refine wk_a ?_; simp only [MAB, seval]; refine ⟨rfl, rfl, (by decide), ?_, ?_⟩; all_goals (first | (simp only [WKB, seval, ivN_zero]; done) | (simp [WKB, seval, ivN_zero]; done) | simp only [WKB, seval]))
  · rintro ⟨k, hk⟩ K hR hE hT
    have l1 := ivN_le l v k
    rcases Nat.lt_or_ge k l.length with hlt | hge
    case inr =>
      obtain rfl : k = l.length := by omega
      (have gx := @List.length_map.{0,0}; refine go ?_; (repeat' first | exact Ef.mk | apply Lf.mk | refine fun (K : KT) hK hE hT => ?_ | refine fun (KS : KE) hKS => ?_ | refine fun (D : KD) hD => ?_ | refine fun (hg : (_ : Prop)) => ?_ | fail); all_goals (first | (refine Wr.mk ?_; (try clear gx); repeat first | clear hK hE hT K | clear hR hE hT K) | assumption | skip))
      (refine post_a hres (.inl rfl) ?_; simp only [RSB, ENB, seval, tiAll, true_and]; simp only [MAB, seval]; refine ⟨rfl, rfl, ?_, ?_, ?_⟩ <;> (first | rfl | (simp [WKB, Nat.add_comm, true_and]; done) | (simp only [WKB, seval])))
    case inl =>
      obtain ⟨y, hy⟩ : ∃ y, y = l[k] := ⟨_, rfl⟩
      by_cases hx : y ≤ v
      · have e := ivN_t hlt (v := v) (by rw [← hy]; exact hx)
        (have gx := And.intro (@List.length_map.{0,0}) (And.intro (@List.getElem_map.{0,0}) (And.intro (hy).symm @intK.eq_1)); refine go ?_; (repeat' first | exact Ef.mk | apply Lf.mk | refine fun (K : KT) hK hE hT => ?_ | refine fun (KS : KE) hKS => ?_ | refine fun (D : KD) hD => ?_ | refine fun (hg : (_ : Prop)) => ?_ | fail); all_goals (first | (refine Wr.mk ?_; (try clear gx); repeat first | clear hK hE hT K | clear hR hE hT K) | assumption | skip))
        (refine hR.out ⟨k + 1, by omega⟩ _ _ _ (by simp only; omega) ?_; (refine wk_a ?_; simp only [MAB, seval]; refine ⟨rfl, rfl, (by decide), ?_, ?_⟩; all_goals (first | (simp only [WKB, seval, e]; done) | (simp [WKB, seval, e]; done) | simp only [WKB, seval])))
      · have e := ivN_f hlt (v := v) (by rw [← hy]; exact hx)
        (have gx := And.intro (@List.length_map.{0,0}) (And.intro (@List.getElem_map.{0,0}) (And.intro (hy).symm @intK.eq_1)); refine go ?_; (repeat' first | exact Ef.mk | apply Lf.mk | refine fun (K : KT) hK hE hT => ?_ | refine fun (KS : KE) hKS => ?_ | refine fun (D : KD) hD => ?_ | refine fun (hg : (_ : Prop)) => ?_ | fail); all_goals (first | (refine Wr.mk ?_; (try clear gx); repeat first | clear hK hE hT K | clear hR hE hT K) | assumption | skip))
        (refine hR.out ⟨k + 1, by omega⟩ _ _ _ (by simp only; omega) ?_; (refine wk_a ?_; simp only [MAB, seval]; refine ⟨rfl, rfl, (by decide), ?_, ?_⟩; all_goals (first | (simp only [WKB, seval, e]; done) | (simp [WKB, seval, e]; done) | simp only [WKB, seval])))

/-- The ends at the head of a round. -/
def ctHd (d : List Int) (b : Int) (v : Nat) : List Int := if v = 0 then [] else (ctTo d b v).1 ++ [(v : Int)]
theorem ctHd_zero (d : List Int) (b : Int) : ctHd d b 0 = [] := rfl
theorem ctHd_pos {d : List Int} {b : Int} {v : Nat} (h : 0 < v) : ctHd d b v = (ctTo d b v).1 ++ [(v : Int)] := if_neg (by omega)
theorem cut_hd {g : GraphD} {b : Int} (h : cutOk g b = true) {m : Nat} (hm : g.N = (m : Int)) : cutL g b = ctHd (inDegs g) b m := by
  rw [cut_yes h, hm, Int.toNat_natCast]
  unfold ctHd
  by_cases e : m = 0
  · subst e; rfl
  · rw [if_pos (by omega), if_neg e]


set_option maxHeartbeats 8000000 in
theorem implCut_k (g : GraphD) (b : Int) (hl : g.Edges.length ≤ 1048576) : FnOK Try.prog 44 ⟨1, [(0, some (.ro ((g.Edges).map EdgeD.k)))], [.agg [.v (.int .i64 g.N), .sl 0 3 0 (g.Edges).length], .c (.v (.int .i64 b))], .c (.sl 1 1 0 (cutL g b).length), [(1, some (.row 3 ((cutL g b).map intK)))], 2⟩ := by
  have cg := implGraphOk_k g (by omega)
  cases ho : cutOk g b with
  | false =>
    rw [cut_no ho]
    obtain ⟨v1, e1⟩ : ∃ v, v = graphOk g := ⟨_, rfl⟩
    rw [← e1] at cg
    have hno : v1 = true → 1 ≤ b → b ≤ 400 → False := fun q1 q2 q3 => by
      unfold cutOk at ho
      rw [← e1, q1, decide_eq_true ⟨q2, q3⟩] at ho
      cases ho
    clear ho e1
    refine fnOK_of true mixed Try.func44 rfl (by rfl) (by rfl) ?_
    have hres := congrArg Array.toList Try.results44
    simp only [Try.ntmps44, BGB, seval]
    (have gx := true_and True; have q1 := cg; refine go ?_; (repeat' first | exact Ef.mk | apply Lf.mk | refine fun (K : KT) hK hE hT => ?_ | refine fun (KS : KE) hKS => ?_ | refine fun (D : KD) hD => ?_ | refine fun (hg : (_ : Prop)) => ?_ | fail); all_goals (first | (refine Wr.mk ?_; (try clear gx q1); repeat first | clear hK hE hT K | clear hR hE hT K) | assumption | skip))
    all_goals first
      | (exfalso; exact hno (by assumption) (by omega) (by omega))
      | skip
    all_goals (refine post_a hres (.inl rfl) ?_; simp only [RSB, ENB, seval, tiAll, true_and]; simp only [MAB, seval]; refine ⟨rfl, rfl, ?_, ?_, ?_⟩ <;> (first | rfl | (simp [WKB, Nat.add_comm, true_and]; done) | (simp only [WKB, seval])))
  | true =>
    obtain ⟨hg, hb1, hb2⟩ := cutOk_out ho
    rw [hg] at cg
    obtain ⟨g1, g2, g3, _⟩ := graphOk_in hg
    have ci := implInDegs_k g (by omega)
    obtain ⟨m, hm⟩ := Int.eq_ofNat_of_zero_le g1
    have hdl := inDegs_len hg
    rw [hm, Int.toNat_natCast] at hdl
    have hdr := inDegs_rng g
    have hrg := ctTo_rng (b := b) hdr
    have hil := fun v => (ctTo_inc (d := inDegs g) (b := b) v).2.2
    rw [cut_hd ho hm]
    obtain ⟨D, hD⟩ : ∃ D, D = inDegs g := ⟨_, rfl⟩
    simp only [← hD] at ci hdl hdr hrg hil ⊢
    clear hD ho
    have hdg : ∀ v (h : v < m), D.getD v 0 = D[v]'(by omega) := fun v h => by rw [List.getD_eq_getElem?_getD, List.getElem?_eq_getElem (by omega)]; rfl
    obtain ⟨gn, ge⟩ := g
    dsimp only at *
    subst hm
    refine fnOK_of true mixed Try.func44 rfl (by rfl) (by rfl) ?_
    have hres := congrArg Array.toList Try.results44
    simp only [Try.ntmps44, BGB, seval]
    (have gx := @List.length_map.{0,0}; have q1 := cg; have q2 := ci; refine go ?_; (repeat' first | exact Ef.mk | apply Lf.mk | refine fun (K : KT) hK hE hT => ?_ | refine fun (KS : KE) hKS => ?_ | refine fun (D : KD) hD => ?_ | refine fun (hg : (_ : Prop)) => ?_ | fail); all_goals (first | (refine Wr.mk ?_; (try clear gx q1 q2); repeat first | clear hK hE hT K | clear hR hE hT K) | assumption | skip))
    refine loop_v (X := {v : Nat // v ≤ m ∧ Rnd (v = 0 ∨ v = m ∨ b < (ctTo D b v).2 + D.getD v 0)}) [] (fun x => [(6, .c (.sl 3 1 0 (ctHd D b x.1).length)), (7, .c (.v (.int .i64 ((x.1 : Nat) : Int))))]) (fun x => [(0, some (.ro (ge.map EdgeD.k))), (1, some (.box 34 [.v (.int .i64 (m : Int)), .sl 0 3 0 ge.length])), (2, some (.row 3 (D.map intK))), (3, some (.row 3 ((ctHd D b x.1).map intK)))]) 4 (fun x => m - x.1) ⟨0, by omega, ⟨.inl rfl⟩⟩ ?_
    simp only [KPB, seval]
    refine ⟨?_, ?_⟩
    · (refine wk_a ?_; simp only [MAB, seval]; refine ⟨rfl, rfl, (by decide), ?_, ?_⟩; all_goals (first | (simp only [WKB, seval, ctHd_zero]; done) | (simp [WKB, seval, ctHd_zero]; done) | simp only [WKB, seval]))
    · rintro ⟨v, hv, hi⟩ K hR hE hT
      rcases Nat.lt_or_ge v m with hlt | hge
      case inr =>
        obtain rfl : v = m := by omega
        (have gx := @List.length_map.{0,0}; refine go ?_; (repeat' first | exact Ef.mk | apply Lf.mk | refine fun (K : KT) hK hE hT => ?_ | refine fun (KS : KE) hKS => ?_ | refine fun (D : KD) hD => ?_ | refine fun (hg : (_ : Prop)) => ?_ | fail); all_goals (first | (refine Wr.mk ?_; (try clear gx); repeat first | clear hK hE hT K | clear hR hE hT K) | assumption | skip))
        (refine post_a hres (.inl rfl) ?_; simp only [RSB, ENB, seval, tiAll, true_and]; simp only [MAB, seval]; refine ⟨rfl, rfl, ?_, ?_, ?_⟩ <;> (first | rfl | (simp [WKB, Nat.add_comm, true_and]; done) | (simp only [WKB, seval])))
      case inl =>
        have hH : (ctHd D b v) = (ctTo D b (v + 1)).1 ∧ (ctTo D b (v + 1)).2 = D.getD v 0 := by
          rcases Nat.eq_zero_or_pos v with e0 | e0
          · subst e0
            rw [ctTo_miss (by omega)]
            exact ⟨rfl, Int.zero_add _⟩
          · have hb : b < (ctTo D b v).2 + D.getD v 0 := by
              rcases hi.out with q | q | q
              · omega
              · omega
              · exact q
            rw [ctTo_hit e0 hb]
            exact ⟨ctHd_pos e0, rfl⟩
        have lH : (ctHd D b v).length ≤ m := by rw [hH.1]; have := hil (v + 1); omega
        obtain ⟨H0, hH0⟩ : ∃ H, H = ctHd D b v := ⟨_, rfl⟩
        rw [← hH0] at hH lH ⊢
        have dv := hdg v hlt
        obtain ⟨y, hy⟩ : ∃ y, y = D[v]'(by omega) := ⟨_, rfl⟩
        rw [← hy] at dv
        have hS := hH.2
        rw [dv] at hS
        (have gx := And.intro (@List.length_map.{0,0}) (And.intro (@List.getElem_map.{0,0}) (And.intro @intK.eq_1 (hy).symm)); refine go ?_; (repeat' first | exact Ef.mk | apply Lf.mk | refine fun (K : KT) hK hE hT => ?_ | refine fun (KS : KE) hKS => ?_ | refine fun (D : KD) hD => ?_ | refine fun (hg : (_ : Prop)) => ?_ | fail); all_goals (first | (refine Wr.mk ?_; (try clear gx); repeat first | clear hK hE hT K | clear hR hE hT K) | assumption | skip))
        refine loop_v (X := {u : Nat // (v + 1 ≤ u ∧ u ≤ m) ∧ Rnd ((ctTo D b u).1 = H0)}) [] (fun x => [(8, .c (.v (.int .i64 (ctTo D b x.1).2))), (7, .c (.v (.int .i64 ((x.1 : Nat) : Int))))]) (fun x => [(0, some (.ro (ge.map EdgeD.k))), (1, some (.box 34 [.v (.int .i64 (m : Int)), .sl 0 3 0 ge.length])), (2, some (.row 3 (D.map intK))), (3, some (.row 3 (H0.map intK)))]) 4 (fun x => m - x.1) ⟨v + 1, ⟨Nat.le_refl _, hlt⟩, ⟨hH.1.symm⟩⟩ ?_
        simp only [KPB, seval]
        refine ⟨?_, ?_⟩
        · (refine wk_a ?_; simp only [MAB, seval]; refine ⟨rfl, rfl, (by decide), ?_, ?_⟩; all_goals (first | (simp only [WKB, seval, hS]; done) | (simp [WKB, seval, hS]; done) | simp only [WKB, seval]))
        · rintro ⟨u, ⟨hu1, hu2⟩, hj⟩ K hR2 hE hT
          have hsr := hrg u
          obtain ⟨S, hSu⟩ : ∃ S, S = (ctTo D b u).2 := ⟨_, rfl⟩
          simp only [← hSu] at hsr ⊢
          have hend : (u = m ∨ b < S + D.getD u 0) → (ctHd D b u).map intK = H0.map intK ++ [[.v (.int .i64 (u : Int))]] ∧ (ctHd D b u).length = H0.length + 1 := fun _ => by
            rw [ctHd_pos (by omega), hj.out, List.map_append, List.length_append]
            exact ⟨rfl, rfl⟩
          rcases Nat.lt_or_ge u m with hum | hum
          case inr =>
            obtain rfl : u = m := by omega
            obtain ⟨e1, e2⟩ := hend (.inl rfl)
            (have gx := And.intro (@List.length_map.{0,0}) (And.intro @List.getElem_map.{0,0} @intK.eq_1); refine go ?_; (repeat' first | exact Ef.mk | apply Lf.mk | refine fun (K : KT) hK hE hT => ?_ | refine fun (KS : KE) hKS => ?_ | refine fun (D : KD) hD => ?_ | refine fun (hg : (_ : Prop)) => ?_ | fail); all_goals (first | (refine Wr.mk ?_; (try clear gx); repeat first | clear hK hE hT K | clear hR hE hT K) | assumption | skip))
            refine hR.out ⟨u, Nat.le_refl _, ⟨.inr (.inl rfl)⟩⟩ _ _ _ (by simp only; omega) ?_
            (refine wk_a ?_; simp only [MAB, seval]; refine ⟨rfl, rfl, (by decide), ?_, ?_⟩; all_goals (first | (simp only [WKB, seval, e1, e2]; done) | (simp [WKB, seval, e1, e2]; done) | simp only [WKB, seval]))
          case inl =>
            have du := hdg u hum
            have dr := hdr u
            obtain ⟨z, hz⟩ : ∃ z, z = D[u]'(by omega) := ⟨_, rfl⟩
            rw [← hz] at du
            rw [du] at dr
            by_cases hc : S + z ≤ b
            · have e := ctTo_miss (d := D) (b := b) (v := u) (by rw [← hSu, du]; omega)
              rw [← hSu, du] at e
              have e2 : (ctTo D b (u + 1)).2 = S + z := by rw [e]
              have e1 : (ctTo D b (u + 1)).1 = H0 := by rw [e]; exact hj.out
              (have gx := And.intro (@List.length_map.{0,0}) (And.intro (@List.getElem_map.{0,0}) (And.intro @intK.eq_1 (hz).symm)); refine go ?_; (repeat' first | exact Ef.mk | apply Lf.mk | refine fun (K : KT) hK hE hT => ?_ | refine fun (KS : KE) hKS => ?_ | refine fun (D : KD) hD => ?_ | refine fun (hg : (_ : Prop)) => ?_ | fail); all_goals (first | (refine Wr.mk ?_; (try clear gx); repeat first | clear hK hE hT K | clear hR hE hT K) | assumption | skip))
              refine hR2.out ⟨u + 1, ⟨by omega, hum⟩, ⟨e1⟩⟩ _ _ _ (by simp only; omega) ?_
              (refine wk_a ?_; simp only [MAB, seval]; refine ⟨rfl, rfl, (by decide), ?_, ?_⟩; all_goals (first | (simp only [WKB, seval, e2]; done) | (simp [WKB, seval, e2]; done) | simp only [WKB, seval]))
            · obtain ⟨e1, e2⟩ := hend (.inr (by rw [du]; omega))
              (have gx := And.intro (@List.length_map.{0,0}) (And.intro (@List.getElem_map.{0,0}) (And.intro @intK.eq_1 (hz).symm)); refine go ?_; (repeat' first | exact Ef.mk | apply Lf.mk | refine fun (K : KT) hK hE hT => ?_ | refine fun (KS : KE) hKS => ?_ | refine fun (D : KD) hD => ?_ | refine fun (hg : (_ : Prop)) => ?_ | fail); all_goals (first | (refine Wr.mk ?_; (try clear gx); repeat first | clear hK hE hT K | clear hR hE hT K) | assumption | skip))
              refine hR.out ⟨u, by omega, ⟨.inr (.inr (by rw [← hSu, du]; omega))⟩⟩ _ _ _ (by simp only; omega) ?_
              (refine wk_a ?_; simp only [MAB, seval]; refine ⟨rfl, rfl, (by decide), ?_, ?_⟩; all_goals (first | (simp only [WKB, seval, e1, e2]; done) | (simp [WKB, seval, e1, e2]; done) | simp only [WKB, seval]))

set_option maxHeartbeats 8000000 in
theorem specCut_k (g : GraphD) (b : Int) (hl : g.Edges.length ≤ 1048576) : FnOK Try.prog 40 ⟨1, [(0, some (.ro ((g.Edges).map EdgeD.k)))], [.agg [.v (.int .i64 g.N), .sl 0 3 0 (g.Edges).length], .c (.v (.int .i64 b))], .c (.sl 1 1 0 (cutL g b).length), [(1, some (.row 3 ((cutL g b).map intK)))], 2⟩ := by
  have cg := specGraphOk_k g (by omega)
  cases ho : cutOk g b with
  | false =>
    rw [cut_no ho]
    obtain ⟨v1, e1⟩ : ∃ v, v = graphOk g := ⟨_, rfl⟩
    rw [← e1] at cg
    have hno : v1 = true → 1 ≤ b → b ≤ 400 → False := fun q1 q2 q3 => by
      unfold cutOk at ho
      rw [← e1, q1, decide_eq_true ⟨q2, q3⟩] at ho
      cases ho
    clear ho e1
    refine fnOK_of true mixed Try.func40 rfl (by rfl) (by rfl) ?_
    have hres := congrArg Array.toList Try.results40
    simp only [Try.ntmps40, BGB, seval]
    (have gx := true_and True; have q1 := cg; refine go ?_; (repeat' first | exact Ef.mk | apply Lf.mk | refine fun (K : KT) hK hE hT => ?_ | refine fun (KS : KE) hKS => ?_ | refine fun (D : KD) hD => ?_ | refine fun (hg : (_ : Prop)) => ?_ | fail); all_goals (first | (refine Wr.mk ?_; (try clear gx q1); repeat first | clear hK hE hT K | clear hR hE hT K) | assumption | skip))
    all_goals first
      | (exfalso; exact hno (by assumption) (by omega) (by omega))
      | skip
    all_goals (refine post_a hres (.inl rfl) ?_; simp only [RSB, ENB, seval, tiAll, true_and]; simp only [MAB, seval]; refine ⟨rfl, rfl, ?_, ?_, ?_⟩ <;> (first | rfl | (simp [WKB, Nat.add_comm, true_and]; done) | (simp only [WKB, seval])))
  | true =>
    obtain ⟨hg, hb1, hb2⟩ := cutOk_out ho
    rw [hg] at cg
    obtain ⟨g1, g2, g3, _⟩ := graphOk_in hg
    have ci := specInDegs_k g (by omega)
    obtain ⟨m, hm⟩ := Int.eq_ofNat_of_zero_le g1
    have hdl := inDegs_len hg
    rw [hm, Int.toNat_natCast] at hdl
    have hdr := inDegs_rng g
    have hrg := ctTo_rng (b := b) hdr
    have hil := fun v => (ctTo_inc (d := inDegs g) (b := b) v).2.2
    rw [cut_hd ho hm]
    obtain ⟨D, hD⟩ : ∃ D, D = inDegs g := ⟨_, rfl⟩
    simp only [← hD] at ci hdl hdr hrg hil ⊢
    clear hD ho
    have hdg : ∀ v (h : v < m), D.getD v 0 = D[v]'(by omega) := fun v h => by rw [List.getD_eq_getElem?_getD, List.getElem?_eq_getElem (by omega)]; rfl
    obtain ⟨gn, ge⟩ := g
    dsimp only at *
    subst hm
    refine fnOK_of true mixed Try.func40 rfl (by rfl) (by rfl) ?_
    have hres := congrArg Array.toList Try.results40
    simp only [Try.ntmps40, BGB, seval]
    (have gx := @List.length_map.{0,0}; have q1 := cg; have q2 := ci; refine go ?_; (repeat' first | exact Ef.mk | apply Lf.mk | refine fun (K : KT) hK hE hT => ?_ | refine fun (KS : KE) hKS => ?_ | refine fun (D : KD) hD => ?_ | refine fun (hg : (_ : Prop)) => ?_ | fail); all_goals (first | (refine Wr.mk ?_; (try clear gx q1 q2); repeat first | clear hK hE hT K | clear hR hE hT K) | assumption | skip))
    refine loop_v (X := {v : Nat // v ≤ m}) [20] (fun x => [(5, .c (.sl 2 1 0 (ctTo D b x.1).1.length)), (6, .c (.v (.int .i64 (ctTo D b x.1).2))), (24, .c (.v (.int .i64 ((x.1 : Nat) : Int))))]) (fun x => [(0, some (.ro (ge.map EdgeD.k))), (1, some (.box 34 [.v (.int .i64 (m : Int)), .sl 0 3 0 ge.length])), (2, some (.row 3 ((ctTo D b x.1).1.map intK))), (3, some (.row 3 (D.map intK)))]) 4 (fun x => m - x.1) ⟨0, by omega⟩ ?_
    simp only [KPB, seval]
    refine ⟨?_, ?_⟩
    · (refine wk_a ?_; simp only [MAB, seval]; refine ⟨rfl, rfl, (by decide), ?_, ?_⟩; all_goals (first | (simp only [WKB, seval, ctTo, List.map_nil]; done) | (simp [WKB, seval, ctTo, List.map_nil]; done) | simp only [WKB, seval]))
    · rintro ⟨v, hv⟩ K hR hE hT
      have hiv := hil v
      have hsr := hrg v
      obtain ⟨⟨E, S⟩, hc⟩ : ∃ c, c = ctTo D b v := ⟨_, rfl⟩
      simp only [← hc] at hiv hsr ⊢
      rcases Nat.lt_or_ge v m with hlt | hge
      case inr =>
        obtain rfl : v = m := by omega
        rcases Nat.eq_zero_or_pos v with e0 | e0
        · have e : ctHd D b v = E := by subst e0; rw [ctHd_zero]; have := congrArg Prod.fst hc; exact this.symm
          have e2 : E.length = 0 := by subst e0; have := congrArg Prod.fst hc; rw [show E = [] from this]; rfl
          (have gx := @List.length_map.{0,0}; refine go ?_; (repeat' first | exact Ef.mk | apply Lf.mk | refine fun (K : KT) hK hE hT => ?_ | refine fun (KS : KE) hKS => ?_ | refine fun (D : KD) hD => ?_ | refine fun (hg : (_ : Prop)) => ?_ | fail); all_goals (first | (refine Wr.mk ?_; (try clear gx); repeat first | clear hK hE hT K | clear hR hE hT K) | assumption | skip))
          all_goals (refine post_a hres (.inl rfl) ?_; simp only [RSB, ENB, seval, tiAll, e]; simp only [MAB, seval]; refine ⟨rfl, rfl, ?_, ?_, ?_⟩ <;> (first | rfl | (simp [WKB, Nat.add_comm, e]; done) | (simp only [WKB, seval])))
        · have e : ctHd D b v = E ++ [(v : Int)] := by rw [ctHd_pos e0, ← hc]
          (have gx := @List.length_map.{0,0}; refine go ?_; (repeat' first | exact Ef.mk | apply Lf.mk | refine fun (K : KT) hK hE hT => ?_ | refine fun (KS : KE) hKS => ?_ | refine fun (D : KD) hD => ?_ | refine fun (hg : (_ : Prop)) => ?_ | fail); all_goals (first | (refine Wr.mk ?_; (try clear gx); repeat first | clear hK hE hT K | clear hR hE hT K) | assumption | skip))
          all_goals (refine post_a hres (.inl rfl) ?_; simp only [RSB, ENB, seval, tiAll, e, List.map_append, intK, List.map_cons, List.map_nil, List.length_append, List.length_cons, List.length_nil]; simp only [MAB, seval]; refine ⟨rfl, rfl, ?_, ?_, ?_⟩ <;> (first | rfl | (simp [WKB, Nat.add_comm, e, List.map_append, intK, List.map_cons, List.map_nil, List.length_append, List.length_cons, List.length_nil]; done) | (simp only [WKB, seval])))
      case inl =>
        have dv := hdg v hlt
        have dr := hdr v
        obtain ⟨z, hz⟩ : ∃ z, z = D[v]'(by omega) := ⟨_, rfl⟩
        rw [← hz] at dv
        rw [dv] at dr
        by_cases h2 : 0 < v ∧ b < S + z
        · have e := ctTo_hit (d := D) (b := b) (v := v) h2.1 (by rw [← hc, dv]; exact h2.2)
          rw [← hc, dv] at e
          (have gx := And.intro (@List.length_map.{0,0}) (And.intro (@List.getElem_map.{0,0}) (And.intro @intK.eq_1 (hz).symm)); refine go ?_; (repeat' first | exact Ef.mk | apply Lf.mk | refine fun (K : KT) hK hE hT => ?_ | refine fun (KS : KE) hKS => ?_ | refine fun (D : KD) hD => ?_ | refine fun (hg : (_ : Prop)) => ?_ | fail); all_goals (first | (refine Wr.mk ?_; (try clear gx); repeat first | clear hK hE hT K | clear hR hE hT K) | assumption | skip))
          all_goals first | (exfalso; omega) | skip
          all_goals (refine hR.out ⟨v + 1, by omega⟩ _ _ _ (by simp only; omega) ?_; (refine wk_a ?_; simp only [MAB, seval]; refine ⟨rfl, rfl, (by decide), ?_, ?_⟩; all_goals (first | (simp only [WKB, seval, e, Int.zero_add, List.map_append, intK, List.map_cons, List.map_nil, List.length_append, List.length_cons, List.length_nil]; done) | (simp [WKB, seval, e, Int.zero_add, List.map_append, intK, List.map_cons, List.map_nil, List.length_append, List.length_cons, List.length_nil]; done) | simp only [WKB, seval])))
        · have e := ctTo_miss (d := D) (b := b) (v := v) (by rw [← hc, dv]; exact h2)
          rw [← hc, dv] at e
          (have gx := And.intro (@List.length_map.{0,0}) (And.intro (@List.getElem_map.{0,0}) (And.intro @intK.eq_1 (hz).symm)); refine go ?_; (repeat' first | exact Ef.mk | apply Lf.mk | refine fun (K : KT) hK hE hT => ?_ | refine fun (KS : KE) hKS => ?_ | refine fun (D : KD) hD => ?_ | refine fun (hg : (_ : Prop)) => ?_ | fail); all_goals (first | (refine Wr.mk ?_; (try clear gx); repeat first | clear hK hE hT K | clear hR hE hT K) | assumption | skip))
          all_goals first | (exfalso; omega) | skip
          all_goals (refine hR.out ⟨v + 1, by omega⟩ _ _ _ (by simp only; omega) ?_; (refine wk_a ?_; simp only [MAB, seval]; refine ⟨rfl, rfl, (by decide), ?_, ?_⟩; all_goals (first | (simp only [WKB, seval, e]; done) | (simp [WKB, seval, e]; done) | simp only [WKB, seval])))

end Go.Proofs.Ytfnhchcgieeedaa

namespace Go.Proofs.Ytfnhchcgieeedaa
set_option linter.unusedSimpArgs false
set_option linter.unusedVariables false
set_option linter.defProp false
set_option maxRecDepth 20000
open Go.RowKit
attribute [local irreducible] lexD

def RecD.k (x : RecD) : List DC := [.v (.int .i64 x.A), .v (.int .i64 x.B), .v (.int .i64 x.C)]
def RecD.s (x : RecD) : List CV := [.v (.int .i64 x.A), .v (.int .i64 x.B), .v (.int .i64 x.C)]
theorem flat_Rec (l : List RecD) : ∀ e ∈ l.map RecD.k, ∀ c ∈ e, DC.flat c := flat_map (fun x c hc => by simp only [RecD.k, List.mem_cons, List.not_mem_nil, or_false] at hc; rcases hc with rfl | rfl | rfl <;> exact ⟨_, rfl, rfl⟩) l
def ltB (x y : RecD) : Bool := decide (ltR x y)
theorem ltB_t {x y : RecD} (h : ltR x y) : ltB x y = true := decide_eq_true h
theorem ltB_f {x y : RecD} (h : ¬ ltR x y) : ltB x y = false := decide_eq_false h

set_option maxHeartbeats 2000000 in
theorem specLess_k (x y : RecD) : FnOK Try.prog 135 ⟨0, [], [.agg x.s, .agg y.s], .c (.v (.bool (ltB x y))), [], 0⟩ := by
  obtain ⟨a, b, c⟩ := x
  obtain ⟨a', b', c'⟩ := y
  simp only [RecD.s]
  refine fnOK_of true mixed Try.func135 rfl (by rfl) (by rfl) ?_
  have hres := congrArg Array.toList Try.results135
  simp only [Try.ntmps135, BGB, seval]
  (have gx := true_and True; refine go ?_; (repeat' first | exact Ef.mk | apply Lf.mk | refine fun (K : KT) hK hE hT => ?_ | refine fun (KS : KE) hKS => ?_ | refine fun (D : KD) hD => ?_ | refine fun (hg : (_ : Prop)) => ?_ | fail); all_goals (first | (refine Wr.mk ?_; (try clear gx); repeat first | clear hK hE hT K | clear hR hE hT K) | assumption | skip))
  all_goals (refine post_a hres (.inl rfl) ?_; simp only [RSB, ENB, seval, tiAll, true_and]; simp only [MAB, seval]; refine ⟨rfl, rfl, ?_, ?_, ?_⟩ <;> (first | rfl | (simp [WKB, Nat.add_comm, true_and]; done) | (simp only [WKB, seval])))
  all_goals (refine congrArg (fun b => SV.c (CV.v (Value.bool b))) ?_; unfold ltB; symm; first | (rw [decide_eq_decide]; unfold ltR; dsimp only; omega) | (rw [decide_eq_true_eq]; unfold ltR; dsimp only; omega) | (rw [decide_eq_false_iff_not]; unfold ltR; dsimp only; omega))

theorem inr_lt {l : List RecD} {x : RecD} {j : Nat} (h : j < inrAt l x) : ∃ hj : j < l.length, ¬ ltR x l[j] := by
  obtain ⟨h1, h2⟩ := tw_lt h
  exact ⟨h1, by simpa using h2⟩
theorem inr_end {l : List RecD} {x : RecD} (h : inrAt l x < l.length) : ltR x l[inrAt l x] := by
  have h2 := tw_end (p := fun y : RecD => !decide (ltR x y)) (l := l) h
  simp only [Bool.not_eq_false', decide_eq_true_eq] at h2
  exact h2
theorem inrL_map (l : List RecD) (d : RecD) : (inrL l d).map RecD.k = (l.map RecD.k).take (inrAt l d) ++ [RecD.k d] ++ (l.map RecD.k).drop (inrAt l d) := by
  unfold inrL
  rw [List.map_append, List.map_cons, List.map_take, List.map_drop, List.append_assoc, List.singleton_append]

set_option maxHeartbeats 8000000 in
theorem specSortOne_k (l : List RecD) (hl : l.length ≤ 1048576) : FnOK Try.prog 136 ⟨1, [(0, some (.ro (l.map RecD.k)))], [.c (.sl 0 3 0 l.length)], .c (.sl 1 3 0 l.length), [(1, some (.row 124 ((srtR l).map RecD.k)))], 2⟩ := by
  refine fnOK_of true mixed Try.func136 rfl (by rfl) (by rfl) ?_
  have hres := congrArg Array.toList Try.results136
  simp only [Try.ntmps136, BGB, seval]
  (have gx := @List.length_map.{0,0}; refine go ?_; (repeat' first | exact Ef.mk | apply Lf.mk | refine fun (K : KT) hK hE hT => ?_ | refine fun (KS : KE) hKS => ?_ | refine fun (D : KD) hD => ?_ | refine fun (hg : (_ : Prop)) => ?_ | fail); all_goals (first | (refine Wr.mk ?_; (try clear gx); repeat first | clear hK hE hT K | clear hR hE hT K) | assumption | skip))
  refine loop_v (X := {k : Nat // k ≤ l.length}) [8] (fun x => [(3, .c (.sl 1 3 0 x.1)), (11, .c (.v (.int .i64 ((x.1 : Nat) : Int))))]) (fun x => [(0, some (.ro (l.map RecD.k))), (1, some (.row 124 ((srtR (l.take x.1)).map RecD.k)))]) 2 (fun x => l.length - x.1) ⟨0, by omega⟩ ?_
  simp only [KPB, seval]
  refine ⟨?_, ?_⟩
  · (refine wk_a ?_; simp only [MAB, seval]; refine ⟨rfl, rfl, (by decide), ?_, ?_⟩; all_goals (first | (simp only [WKB, seval, List.take_zero, srtR, inrAll, List.foldl_nil]; done) | (simp [WKB, seval, List.take_zero, srtR, inrAll, List.foldl_nil]; done) | simp only [WKB, seval]))
  · rintro ⟨k, hk⟩ K hR hE hT
    have lL : (srtR (l.take k)).length = k := by rw [srtR_len, List.length_take]; omega
    rcases Nat.lt_or_ge k l.length with hlt | hge
    case inr =>
      obtain rfl : k = l.length := by omega
      (have gx := @List.length_map.{0,0}; refine go ?_; (repeat' first | exact Ef.mk | apply Lf.mk | refine fun (K : KT) hK hE hT => ?_ | refine fun (KS : KE) hKS => ?_ | refine fun (D : KD) hD => ?_ | refine fun (hg : (_ : Prop)) => ?_ | fail); all_goals (first | (refine Wr.mk ?_; (try clear gx); repeat first | clear hK hE hT K | clear hR hE hT K) | assumption | skip))
      (refine post_a hres (.inl rfl) ?_; simp only [RSB, ENB, seval, tiAll, List.take_length]; simp only [MAB, seval]; refine ⟨rfl, rfl, ?_, ?_, ?_⟩ <;> (first | rfl | (simp [WKB, Nat.add_comm, List.take_length]; done) | (simp only [WKB, seval])))
    case inl =>
      have hst := srtR_take hlt
      obtain ⟨d, hd⟩ : ∃ d, d = l[k] := ⟨_, rfl⟩
      rw [← hd] at hst
      obtain ⟨L, hL⟩ : ∃ L, L = srtR (l.take k) := ⟨_, rfl⟩
      rw [← hL] at hst lL ⊢
      have hil := inrAt_le L d
      have hlj := fun j => inr_lt (l := L) (x := d) (j := j)
      have hnd := inr_end (l := L) (x := d)
      have hm := inrL_map L d
      rw [← hst] at hm
      obtain ⟨n, hn⟩ : ∃ n, n = inrAt L d := ⟨_, rfl⟩
      simp only [← hn] at hil hlj hnd hm
      have hdk : RecD.k d = [.v (.int .i64 d.A), .v (.int .i64 d.B), .v (.int .i64 d.C)] := rfl
      rw [hdk] at hm
      (have gx := And.intro (@List.length_map.{0,0}) (And.intro (@List.getElem_map.{0,0}) (And.intro (hd).symm @RecD.k.eq_1)); refine go ?_; (repeat' first | exact Ef.mk | apply Lf.mk | refine fun (K : KT) hK hE hT => ?_ | refine fun (KS : KE) hKS => ?_ | refine fun (D : KD) hD => ?_ | refine fun (hg : (_ : Prop)) => ?_ | fail); all_goals (first | (refine Wr.mk ?_; (try clear gx); repeat first | clear hK hE hT K | clear hR hE hT K) | assumption | skip))
      refine loop_v (X := {j : Nat // j ≤ n}) [] (fun x => [(6, .c (.v (.int .i64 ((x.1 : Nat) : Int))))]) (fun x => [(0, some (.ro (l.map RecD.k))), (1, some (.row 124 (L.map RecD.k))), (2, some (.box 124 [.v (.int .i64 d.A), .v (.int .i64 d.B), .v (.int .i64 d.C)]))]) 3 (fun x => n - x.1) ⟨0, by omega⟩ ?_
      simp only [KPB, seval]
      refine ⟨?_, ?_⟩
      · (refine wk_a ?_; simp only [MAB, seval]; refine ⟨rfl, rfl, (by decide), ?_, ?_⟩; all_goals (first | (simp only [WKB, seval, true_and]; done) | (simp [WKB, seval, true_and]; done) | simp only [WKB, seval]))
      · rintro ⟨j, hj⟩ K hR2 hE hT
        rcases Nat.lt_or_ge j n with hlt2 | hge2
        case inl =>
          obtain ⟨q1, q2⟩ := hlj j hlt2
          obtain ⟨y, hy⟩ : ∃ y, y = L[j] := ⟨_, rfl⟩
          rw [← hy] at q2
          have cl := specLess_k d y
          rw [ltB_f q2] at cl
          simp only [RecD.s] at cl
          (have gx := And.intro (@List.length_map.{0,0}) (And.intro (@List.getElem_map.{0,0}) (And.intro (hy).symm @RecD.k.eq_1)); have q1 := cl; refine go ?_; (repeat' first | exact Ef.mk | apply Lf.mk | refine fun (K : KT) hK hE hT => ?_ | refine fun (KS : KE) hKS => ?_ | refine fun (D : KD) hD => ?_ | refine fun (hg : (_ : Prop)) => ?_ | fail); all_goals (first | (refine Wr.mk ?_; (try clear gx q1); repeat first | clear hK hE hT K | clear hR hE hT K) | assumption | skip))
          refine hR2.out ⟨j + 1, by omega⟩ _ _ _ (by simp only; omega) ?_
          (refine wk_a ?_; simp only [MAB, seval]; refine ⟨rfl, rfl, (by decide), ?_, ?_⟩; all_goals (first | (simp only [WKB, seval, true_and]; done) | (simp [WKB, seval, true_and]; done) | simp only [WKB, seval]))
        case inr =>
          obtain rfl : j = n := by omega
          have e9 : j + 1 + (k - j) = k + 1 := by omega
          have ld : ((L.map RecD.k).drop j).length = k - j := by rw [List.length_drop, List.length_map, lL]
          have lt : ((L.map RecD.k).take j).length = j := by rw [List.length_take, List.length_map]; omega
          have hlc : ∀ x : List DC, ((L.map RecD.k).take j ++ [x]).length = j + 1 := fun x => by rw [List.length_append, lt]; rfl
          have hdt : ((L.map RecD.k).drop j).take (k - j) = (L.map RecD.k).drop j := List.take_of_length_le (by omega)
          rcases Nat.lt_or_ge j k with hjl | hjl
          case inl =>
            have q2 := hnd (by omega)
            obtain ⟨y, hy⟩ : ∃ y, y = L[j]'(by omega) := ⟨_, rfl⟩
            rw [← hy] at q2
            have cl := specLess_k d y
            rw [ltB_t q2] at cl
            simp only [RecD.s] at cl
            repeat' ((fail_if_success with_reducible refine hand_k (id := 9) ?_); (first | (with_reducible first | refine seq_k fun K hK hE hT => ?_ | refine block_k fun K hK hE hT => ?_ | refine lex_nil ?_ | fail) | ((with_reducible refine region_k ?_); simp only [dstsOf, EVB, seval]) | ((with_reducible refine draw_k ?_ fun D hD => ?_); (focus (first | rfl | kernel_rfl)); simp only [dstsOf, EVB, seval]) | ((with_reducible first | refine lex_move ?_ | refine lex_assign ?_); simp only [EVB, seval]) | (with_reducible first | refine lex_cons fun KS hKS => ?_ | refine lexd_cons fun KS hKS => ?_ | refine skip_k ?_ | refine exit_k ?_ | refine ret_k ?_ | fail) | ((with_reducible refine call_go ?_); (first | ((first | refine call_a (cl) rfl rfl ?_ | fail); simp only [ENB, seval, tiAll, List.length_map, List.getElem_map, ← hy, RecD.k, litN, ld, hdt]; simp only [MAB, seval]; refine ⟨rfl, ?_, ?_, ?_, rfl, ?_, ?_, ?_, ?_⟩; (iterate 6 (focus (first | rfl | (simp [CXB, map_take, List.length_map, List.getElem_map, ← hy, RecD.k, litN, ld, hdt]; done) | (simp [CXB, List.length_map, List.getElem_map, ← hy, RecD.k, litN, ld, hdt]; omega) | (dsimp only; omega)))); simp only [EFB, seval]) | fail)) | ((with_reducible refine step_go ?_); (fail_if_success with_reducible refine call_go ?_); simp only [ENB, seval, tiAll, List.length_map, List.getElem_map, ← hy, RecD.k, litN, ld, hdt]) | ((with_reducible refine lexd_nil ?_ ?_); (focus (refine hD _ ?_; first | kernel_rfl | with_unfolding_all rfl)); clear hD; clear D) | ((with_reducible refine guard_go ?_); refine lex_gone rfl rfl ?_; simp only [EVB, seval]) | ((with_reducible refine guardd_go ?_); refine lexd_gone rfl rfl ?_; simp only [EVB, seval]) | ((first | ((with_reducible refine guard_go ?_); refine lex_guard rfl rfl (fun hg KS hKS => ?_) (fun hg => ?_)) | ((with_reducible refine guardd_go ?_); refine lexd_guard rfl rfl (fun hg KS hKS => ?_) (fun hg => ?_)) | ((with_reducible refine cond_go ?_); refine cond_k rfl (fun hg => ?_) (fun hg => ?_)) | (with_reducible refine And.intro (fun hg => ?_) (fun hg => ?_)) | fail) <;> first | ((with_reducible exfalso); exact absurd hg (by decide)) | ((try simp only [CNL] at hg) <;> first | ((with_reducible exfalso); omega) | ((with_reducible exfalso); first | exact tf (by assumption) hg | exact tf hg (by assumption)) | ((try with_reducible (have hT0 : True := hg; clear hT0 hg)); first | (with_reducible refine wpc_go ?_) | (try simp only [EVB, seval])))) | ((with_reducible refine hKS _ _ _ _ ?_); clear hKS; clear KS; simp only [EVB, seval]) | ((with_reducible refine And.intro ?_ ?_); focus (first | omega | exact u8_le _ | exact flat_intK _ | exact flat_bytK _ | (exact flat_Rec _) | decide | (simp only [List.length_map, List.getElem_map, ← hy, RecD.k, litN, ld, hdt]; done))) | ((with_reducible refine ex_p ?_ (fun hh => ?_)); focus (first | omega | (simp only [List.length_map, List.getElem_map, ← hy, RecD.k, litN, ld, hdt]; omega))) | ((with_reducible refine hK _ _ _ ?_); clear hK hE hT; clear K) | ((with_reducible first | refine hE _ _ _ _ ?_ | refine hT _ _ _ ?_ | fail); (first | (clear hK hE hT; clear K) | (clear hR hE hT; clear K) | skip); try simp only [IFB, seval]) | ((with_reducible apply_assumption -symm -exfalso); try simp only [IFB, seval]) | fail))
            refine region_w (wk_cut (g := 1) j rfl) ?_
            simp only [EVB, seval]
            (have gx := And.intro (@List.length_map.{0,0}) (And.intro (@litN) (And.intro (@Option.toArray_none.{0}) (And.intro (@Option.toArray_some.{0}) (And.intro (@hlc) (And.intro (@lt) (And.intro @ld @hdt)))))); refine go ?_; (repeat' first | exact Ef.mk | apply Lf.mk | refine fun (K : KT) hK hE hT => ?_ | refine fun (KS : KE) hKS => ?_ | refine fun (D : KD) hD => ?_ | refine fun (hg : (_ : Prop)) => ?_ | fail); all_goals (first | (refine Wr.mk ?_; (try clear gx); repeat first | clear hK hE hT K | clear hR hE hT K) | assumption | skip))
            refine hR.out ⟨k + 1, by omega⟩ _ _ _ (by simp only; omega) ?_
            (refine wk_a ?_; simp only [MAB, seval]; refine ⟨rfl, rfl, (by decide), ?_, ?_⟩; all_goals (first | (simp only [WKB, seval, List.append_assoc, e9, hm]; done) | (simp [WKB, seval, List.append_assoc, e9, hm]; done) | simp only [WKB, seval]))
          case inr =>
            repeat' ((fail_if_success with_reducible refine hand_k (id := 9) ?_); (first | (with_reducible first | refine seq_k fun K hK hE hT => ?_ | refine block_k fun K hK hE hT => ?_ | refine lex_nil ?_ | fail) | ((with_reducible refine region_k ?_); simp only [dstsOf, EVB, seval]) | ((with_reducible refine draw_k ?_ fun D hD => ?_); (focus (first | rfl | kernel_rfl)); simp only [dstsOf, EVB, seval]) | ((with_reducible first | refine lex_move ?_ | refine lex_assign ?_); simp only [EVB, seval]) | (with_reducible first | refine lex_cons fun KS hKS => ?_ | refine lexd_cons fun KS hKS => ?_ | refine skip_k ?_ | refine exit_k ?_ | refine ret_k ?_ | fail) | ((with_reducible refine call_go ?_); fail) | ((with_reducible refine step_go ?_); (fail_if_success with_reducible refine call_go ?_); simp only [ENB, seval, tiAll, List.length_map, litN, ld, hdt]) | ((with_reducible refine lexd_nil ?_ ?_); (focus (refine hD _ ?_; first | kernel_rfl | with_unfolding_all rfl)); clear hD; clear D) | ((with_reducible refine guard_go ?_); refine lex_gone rfl rfl ?_; simp only [EVB, seval]) | ((with_reducible refine guardd_go ?_); refine lexd_gone rfl rfl ?_; simp only [EVB, seval]) | ((first | ((with_reducible refine guard_go ?_); refine lex_guard rfl rfl (fun hg KS hKS => ?_) (fun hg => ?_)) | ((with_reducible refine guardd_go ?_); refine lexd_guard rfl rfl (fun hg KS hKS => ?_) (fun hg => ?_)) | ((with_reducible refine cond_go ?_); refine cond_k rfl (fun hg => ?_) (fun hg => ?_)) | (with_reducible refine And.intro (fun hg => ?_) (fun hg => ?_)) | fail) <;> first | ((with_reducible exfalso); exact absurd hg (by decide)) | ((try simp only [CNL] at hg) <;> first | ((with_reducible exfalso); omega) | ((with_reducible exfalso); first | exact tf (by assumption) hg | exact tf hg (by assumption)) | ((try with_reducible (have hT0 : True := hg; clear hT0 hg)); first | (with_reducible refine wpc_go ?_) | (try simp only [EVB, seval])))) | ((with_reducible refine hKS _ _ _ _ ?_); clear hKS; clear KS; simp only [EVB, seval]) | ((with_reducible refine And.intro ?_ ?_); focus (first | omega | exact u8_le _ | exact flat_intK _ | exact flat_bytK _ | (exact flat_Rec _) | decide | (simp only [List.length_map, litN, ld, hdt]; done))) | ((with_reducible refine ex_p ?_ (fun hh => ?_)); focus (first | omega | (simp only [List.length_map, litN, ld, hdt]; omega))) | ((with_reducible refine hK _ _ _ ?_); clear hK hE hT; clear K) | ((with_reducible first | refine hE _ _ _ _ ?_ | refine hT _ _ _ ?_ | fail); (first | (clear hK hE hT; clear K) | (clear hR hE hT; clear K) | skip); try simp only [IFB, seval]) | ((with_reducible apply_assumption -symm -exfalso); try simp only [IFB, seval]) | fail))
            refine region_w (wk_cut (g := 1) j rfl) ?_
            simp only [EVB, seval]
            (have gx := And.intro (@List.length_map.{0,0}) (And.intro (@litN) (And.intro (@Option.toArray_none.{0}) (And.intro (@Option.toArray_some.{0}) (And.intro (@hlc) (And.intro (@lt) (And.intro @ld @hdt)))))); refine go ?_; (repeat' first | exact Ef.mk | apply Lf.mk | refine fun (K : KT) hK hE hT => ?_ | refine fun (KS : KE) hKS => ?_ | refine fun (D : KD) hD => ?_ | refine fun (hg : (_ : Prop)) => ?_ | fail); all_goals (first | (refine Wr.mk ?_; (try clear gx); repeat first | clear hK hE hT K | clear hR hE hT K) | assumption | skip))
            refine hR.out ⟨k + 1, by omega⟩ _ _ _ (by simp only; omega) ?_
            (refine wk_a ?_; simp only [MAB, seval]; refine ⟨rfl, rfl, (by decide), ?_, ?_⟩; all_goals (first | (simp only [WKB, seval, List.append_assoc, e9, hm]; done) | (simp [WKB, seval, List.append_assoc, e9, hm]; done) | simp only [WKB, seval]))

end Go.Proofs.Ytfnhchcgieeedaa

namespace Go.Proofs.Ytfnhchcgieeedaa
set_option linter.unusedSimpArgs false
set_option linter.unusedVariables false
set_option linter.defProp false
set_option maxRecDepth 20000
open Go.RowKit
attribute [local irreducible] lexD

def batK (T : Nat) (b : List RecD) : List DC := [.sl T 3 (b.map RecD.k)]
def natK (n : Nat) : List DC := [.v (.int .i64 (n : Int))]
theorem pcN_last {m size k : Nat} (h : 0 < size) (hk : k * size < m) (hm : m ≤ (k + 1) * size) : pcN m size = k + 1 := by
  unfold pcN
  rw [Nat.succ_mul] at hm
  have e : m + size - 1 = (m - 1 - k * size) + size * (k + 1) := by
    have : size * (k + 1) = k * size + size := by rw [Nat.mul_succ, Nat.mul_comm]
    omega
  rw [e, Nat.add_mul_div_left _ _ h, Nat.div_eq_of_lt (by omega)]
  omega
theorem pcN_more {m size k : Nat} (h : 0 < size) (hm : (k + 1) * size < m) : k + 1 < pcN m size := by
  have h1 := (pcN_cov (m := m) h).1
  rcases Nat.lt_or_ge (k + 1) (pcN m size) with q | q
  · exact q
  · have := Nat.mul_le_mul_right size q
    omega
theorem pcN_in {m size k : Nat} (h : 0 < size) (hk : k * size < m) : k < pcN m size := by
  have h1 := (pcN_cov (m := m) h).1
  rcases Nat.lt_or_ge k (pcN m size) with q | q
  · exact q
  · have := Nat.mul_le_mul_right size q
    omega
theorem pcN_le {m size : Nat} (h : 0 < size) : pcN m size ≤ m := by
  rcases Nat.eq_zero_or_pos (pcN m size) with q | q
  · omega
  · have h1 := (pcN_cov (m := m) h).2 (pcN m size - 1) (by omega)
    have h2 : pcN m size - 1 ≤ (pcN m size - 1) * size := Nat.le_mul_of_pos_right _ h
    omega

set_option maxHeartbeats 8000000 in
theorem specBatches_k (l : List RecD) (sz : Nat) (h : 0 < sz) (hsz : sz ≤ 9223372036854775807) (hl : l.length ≤ 1048576) : FnOK Try.prog 123 ⟨1, [(0, some (.ro (l.map RecD.k)))], [.c (.sl 0 3 0 l.length), .c (.v (.int .i64 (sz : Int)))], .c (.sl 1 1 0 (pcN l.length sz)), [(1, some (.nst 178 ((cutR l sz (pcN l.length sz)).map (batK 124)) none))], 2⟩ := by
  have hcl := cutR_len l sz
  refine fnOK_of true mixed Try.func123 rfl (by rfl) (by rfl) ?_
  have hres := congrArg Array.toList Try.results123
  simp only [Try.ntmps123, BGB, seval]
  (have gx := @List.length_map.{0,0}; refine go ?_; (repeat' first | exact Ef.mk | apply Lf.mk | refine fun (K : KT) hK hE hT => ?_ | refine fun (KS : KE) hKS => ?_ | refine fun (D : KD) hD => ?_ | refine fun (hg : (_ : Prop)) => ?_ | fail); all_goals (first | (refine Wr.mk ?_; (try clear gx); repeat first | clear hK hE hT K | clear hR hE hT K) | assumption | skip))
  refine loop_v (X := {k : Nat // k ≤ l.length ∧ (k * sz ≤ l.length ∧ (k * sz < l.length ∨ k = 0))}) [8] (fun x => [(5, .c (.sl 1 1 0 x.1)), (6, .c (.v (.int .i64 ((x.1 * sz : Nat) : Int))))]) (fun x => [(0, some (.ro (l.map RecD.k))), (1, some (.nst 178 ((cutR l sz x.1).map (batK 124)) none))]) 2 (fun x => l.length - x.1) ⟨0, by omega, by omega, .inr rfl⟩ ?_
  simp only [KPB, seval]
  refine ⟨?_, ?_⟩
  · (refine wk_a ?_; simp only [MAB, seval]; refine ⟨rfl, rfl, (by decide), ?_, ?_⟩; all_goals (first | (simp only [WKB, seval, cutR, List.map_nil, Nat.zero_mul]; done) | (simp [WKB, seval, cutR, List.map_nil, Nat.zero_mul]; done) | simp only [WKB, seval]))
  · rintro ⟨k, hk, hk2, hk3⟩ K hR hE hT
    have lck := hcl k
    rcases Nat.lt_or_ge (k * sz) l.length with hlt | hge
    case inr =>
      have e0 : k = 0 := by omega
      have e1 : pcN l.length sz = k := by
        have := pcN_le (m := l.length) h
        subst e0; omega
      obtain ⟨fr, hfr⟩ : ∃ fr, fr = k * sz := ⟨_, rfl⟩
      simp only [← hfr] at hge hk2 ⊢
      (have gx := @List.length_map.{0,0}; refine go ?_; (repeat' first | exact Ef.mk | apply Lf.mk | refine fun (K : KT) hK hE hT => ?_ | refine fun (KS : KE) hKS => ?_ | refine fun (D : KD) hD => ?_ | refine fun (hg : (_ : Prop)) => ?_ | fail); all_goals (first | (refine Wr.mk ?_; (try clear gx); repeat first | clear hK hE hT K | clear hR hE hT K) | assumption | skip))
      (refine post_a hres (.inl rfl) ?_; simp only [RSB, ENB, seval, tiAll, e1]; simp only [MAB, seval]; refine ⟨rfl, rfl, ?_, ?_, ?_⟩ <;> (first | rfl | (simp [WKB, Nat.add_comm, e1]; done) | (simp only [WKB, seval])))
    case inl =>
      have hcs : cutR l sz (k + 1) = cutR l sz k ++ [srtR ((l.drop (k * sz)).take sz)] := rfl
      obtain ⟨C, hC⟩ : ∃ C, C = (l.drop (k * sz)).take sz := ⟨_, rfl⟩
      have hm := Nat.succ_mul k sz
      have hkl : k < l.length := by
        have : k ≤ k * sz := Nat.le_mul_of_pos_right _ h
        omega
      have hpm := pcN_more (m := l.length) (k := k) h
      have hpl := pcN_last h hlt
      rw [Nat.succ_eq_add_one] at hm
      rw [← hC] at hcs
      obtain ⟨D, hD⟩ : ∃ D, D = cutR l sz k := ⟨_, rfl⟩
      rw [← hD] at hcs lck ⊢
      obtain ⟨P, hP⟩ : ∃ P, P = pcN l.length sz := ⟨_, rfl⟩
      rw [← hP] at hpm hpl
      have lC : C.length = min sz (l.length - k * sz) := by rw [hC, List.length_take, List.length_drop]
      have cs := specSortOne_k C (by omega)
      have lS := srtR_len C
      obtain ⟨S, hS⟩ : ∃ S, S = srtR C := ⟨_, rfl⟩
      rw [← hS] at cs lS hcs
      have hCm : C.map RecD.k = ((l.map RecD.k).drop (k * sz)).take sz := by rw [hC, List.map_take, List.map_drop]
      obtain ⟨fr, hfr⟩ : ∃ fr, fr = k * sz := ⟨_, rfl⟩
      simp only [← hfr] at hlt hk2 hm lC hCm ⊢
      by_cases hse : sz < l.length - fr
      case pos =>
        have lC2 : C.length = sz := by omega
        rw [lC2, hCm] at cs
        have e1 : (fr : Int) + (sz : Int) = ((fr + sz : Nat) : Int) := by omega
        have e2 : fr + sz - fr = sz := by omega
        have e3 : (l.length : Int) - (fr : Int) = ((l.length - fr : Nat) : Int) := by omega
        rw [lC2] at lS
        (have gx := And.intro (@List.length_map.{0,0}) (And.intro (@litN) (And.intro (@e1) (And.intro @e2 @e3))); have q1 := cs; refine go ?_; (repeat' first | exact Ef.mk | apply Lf.mk | refine fun (K : KT) hK hE hT => ?_ | refine fun (KS : KE) hKS => ?_ | refine fun (D : KD) hD => ?_ | refine fun (hg : (_ : Prop)) => ?_ | fail); all_goals (first | (refine Wr.mk ?_; (try clear gx q1); repeat first | clear hK hE hT K | clear hR hE hT K) | assumption | skip))
        refine hR.out ⟨k + 1, by omega, by omega, .inl (by omega)⟩ _ _ _ (by simp only; omega) ?_
        (refine wk_a ?_; simp only [MAB, seval]; refine ⟨rfl, rfl, (by decide), ?_, ?_⟩; all_goals (first | (simp only [WKB, seval, hcs, hm, batK, List.map_append, List.map_cons, List.map_nil, lS]; done) | (simp [WKB, seval, hcs, hm, batK, List.map_append, List.map_cons, List.map_nil, lS]; done) | simp only [WKB, seval]))
      case neg =>
        have lC2 : C.length = l.length - fr := by omega
        have ePk : P = k + 1 := hpl (by omega)
        have hCm2 : C.map RecD.k = ((l.map RecD.k).drop fr).take (l.length - fr) := by
          rw [hCm, List.take_of_length_le (by rw [List.length_drop, List.length_map]; omega), List.take_of_length_le (by rw [List.length_drop, List.length_map]; omega)]
        rw [lC2, hCm2] at cs
        have e3 : (l.length : Int) - (fr : Int) = ((l.length - fr : Nat) : Int) := by omega
        rw [lC2] at lS
        (have gx := And.intro (@List.length_map.{0,0}) (And.intro @litN @e3); have q1 := cs; refine go ?_; (repeat' first | exact Ef.mk | apply Lf.mk | refine fun (K : KT) hK hE hT => ?_ | refine fun (KS : KE) hKS => ?_ | refine fun (D : KD) hD => ?_ | refine fun (hg : (_ : Prop)) => ?_ | fail); all_goals (first | (refine Wr.mk ?_; (try clear gx q1); repeat first | clear hK hE hT K | clear hR hE hT K) | assumption | skip))
        (refine post_a hres (.inl rfl) ?_; simp only [RSB, ENB, seval, tiAll, ← hP, ePk, hcs, batK, List.map_append, List.map_cons, List.map_nil, lS]; simp only [MAB, seval]; refine ⟨rfl, rfl, ?_, ?_, ?_⟩ <;> (first | rfl | (simp [WKB, Nat.add_comm, ← hP, ePk, hcs, batK, List.map_append, List.map_cons, List.map_nil, lS]; done) | (simp only [WKB, seval])))

end Go.Proofs.Ytfnhchcgieeedaa

namespace Go.Proofs.Ytfnhchcgieeedaa
set_option linter.unusedSimpArgs false
set_option linter.unusedVariables false
set_option linter.defProp false
set_option maxRecDepth 20000
open Go.RowKit
attribute [local irreducible] lexD

/-- The best piece as a number. -/
def bsI (o : Option (Nat × RecD)) : Int := match o with
  | none => -1
  | some (k, _) => (k : Int)
theorem bsI_none : bsI none = -1 := rfl
theorem bsI_some (k : Nat) (x : RecD) : bsI (some (k, x)) = (k : Int) := rfl
theorem bst_zero (l : List (List RecD)) (a : List Nat) : bstTo l a 0 = none := rfl
theorem bst_gone {l : List (List RecD)} {a : List Nat} {k : Nat} (h : hdR l a k = none) : bstTo l a (k + 1) = bstTo l a k := by rw [bstTo, h]
theorem bst_first {l : List (List RecD)} {a : List Nat} {k : Nat} {x : RecD} (h : hdR l a k = some x) (h2 : bstTo l a k = none) : bstTo l a (k + 1) = some (k, x) := by rw [bstTo, h]; dsimp only; rw [h2]
theorem bst_new {l : List (List RecD)} {a : List Nat} {k j : Nat} {x y : RecD} (h : hdR l a k = some x) (h2 : bstTo l a k = some (j, y)) (h3 : ltR x y) : bstTo l a (k + 1) = some (k, x) := by
  rw [bstTo, h]; dsimp only; rw [h2]; dsimp only; rw [if_pos h3]
theorem bst_old {l : List (List RecD)} {a : List Nat} {k j : Nat} {x y : RecD} (h : hdR l a k = some x) (h2 : bstTo l a k = some (j, y)) (h3 : ¬ ltR x y) : bstTo l a (k + 1) = some (j, y) := by
  rw [bstTo, h]; dsimp only; rw [h2]; dsimp only; rw [if_neg h3]
theorem hd_some {l : List (List RecD)} {a : List Nat} {k : Nat} {x : RecD} (hk : k < l.length) (ha : k < a.length) (h : hdR l a k = some x) : ∃ h2 : a[k] < l[k].length, l[k][a[k]] = x := by
  unfold hdR at h
  rw [List.getElem?_eq_getElem hk, Option.bind_some, List.getD_eq_getElem?_getD, List.getElem?_eq_getElem ha, Option.getD_some] at h
  exact List.getElem?_eq_some_iff.1 h
theorem hd_in {l : List (List RecD)} {a : List Nat} {k : Nat} (hk : k < l.length) (ha : k < a.length) (h : a[k] < l[k].length) : hdR l a k = some (l[k][a[k]]) := by
  unfold hdR
  rw [List.getElem?_eq_getElem hk, Option.bind_some, List.getD_eq_getElem?_getD, List.getElem?_eq_getElem ha, Option.getD_some, List.getElem?_eq_getElem h]
theorem hd_out {l : List (List RecD)} {a : List Nat} {k : Nat} (hk : k < l.length) (ha : k < a.length) (h : ¬ a[k] < l[k].length) : hdR l a k = none := by
  unfold hdR
  rw [List.getElem?_eq_getElem hk, Option.bind_some, List.getD_eq_getElem?_getD, List.getElem?_eq_getElem ha, Option.getD_some, List.getElem?_eq_none_iff]
  omega


set_option maxHeartbeats 16000000 in
theorem specMerge_k (l : List (List RecD)) (hs : ∀ b ∈ l, b.Pairwise leR) (hl : l.length ≤ 1048576) (hf : l.flatten.length ≤ 1048576) (hb : ∀ b ∈ l, b.length ≤ 1048576) : FnOK Try.prog 122 ⟨1, [(0, some (.ro (l.map (batK 124))))], [.c (.sl 0 1 0 l.length)], .c (.sl 1 3 0 (mgL l).length), [(1, some (.row 124 ((mgL l).map RecD.k)))], 2⟩ := by
  have hmg := mg_ok hs
  have hrz : (List.replicate l.length 0).map natK = List.replicate l.length [DC.v (.int .i64 0)] := by rw [List.map_replicate]; rfl
  have h0 : mgTo l 0 = ⟨List.replicate l.length 0, []⟩ := rfl
  have hstp : ∀ m, mgTo l (m + 1) = mgStep l (mgTo l m) := fun m => rfl
  have hend : mgL l = (mgTo l l.flatten.length).o := rfl
  obtain ⟨G, hG⟩ : ∃ G : Nat → MgS, G = mgTo l := ⟨_, rfl⟩
  rw [hend]
  simp only [← hG] at hmg h0 hstp ⊢
  clear hG hend
  obtain ⟨tot, htot⟩ : ∃ t, t = l.flatten.length := ⟨_, rfl⟩
  simp only [← htot] at hmg hf ⊢
  refine fnOK_of true mixed Try.func122 rfl (by rfl) (by rfl) ?_
  have hres := congrArg Array.toList Try.results122
  simp only [Try.ntmps122, BGB, seval]
  (have gx := @List.length_map.{0,0}; refine go ?_; (repeat' first | exact Ef.mk | apply Lf.mk | refine fun (K : KT) hK hE hT => ?_ | refine fun (KS : KE) hKS => ?_ | refine fun (D : KD) hD => ?_ | refine fun (hg : (_ : Prop)) => ?_ | fail); all_goals (first | (refine Wr.mk ?_; (try clear gx); repeat first | clear hK hE hT K | clear hR hE hT K) | assumption | skip))
  refine loop_v (X := {m : Nat // m ≤ tot}) [8] (fun x => [(3, .c (.sl 1 3 0 (G x.1).o.length)), (4, .c (.sl 2 1 0 l.length))]) (fun x => [(0, some (.ro (l.map (batK 124)))), (1, some (.row 124 ((G x.1).o.map RecD.k))), (2, some (.row 3 ((G x.1).a.map natK)))]) 3 (fun x => tot - x.1) ⟨0, by omega⟩ ?_
  simp only [KPB, seval]
  refine ⟨?_, ?_⟩
  · (refine wk_a ?_; simp only [MAB, seval]; refine ⟨rfl, rfl, (by decide), ?_, ?_⟩; all_goals (first | (simp only [WKB, seval, h0, hrz, List.map_nil, List.length_nil]; done) | (simp [WKB, seval, h0, hrz, List.map_nil, List.length_nil]; done) | simp only [WKB, seval]))
  · rintro ⟨m, hm⟩ K hR hE hT
    have ok := hmg m hm
    have hst := hstp m
    obtain ⟨⟨A, O⟩, hS⟩ : ∃ S, S = G m := ⟨_, rfl⟩
    simp only [← hS] at ok hst ⊢
    have oa := ok.al
    have oo := ok.ol
    have ole := ok.le
    dsimp only at oa oo ole
    have hle : ∀ k (h : k < l.length), A[k]'(by omega) ≤ l[k].length := fun k h => by
      have := ole k h
      rw [List.getD_eq_getElem?_getD, List.getElem?_eq_getElem (by omega), List.getElem?_eq_getElem h] at this
      exact this
    have hAm : (A.map natK).length = l.length := by rw [List.length_map]; exact oa
    (have gx := @List.length_map.{0,0}; refine go ?_; (repeat' first | exact Ef.mk | apply Lf.mk | refine fun (K : KT) hK hE hT => ?_ | refine fun (KS : KE) hKS => ?_ | refine fun (D : KD) hD => ?_ | refine fun (hg : (_ : Prop)) => ?_ | fail); all_goals (first | (refine Wr.mk ?_; (try clear gx); repeat first | clear hK hE hT K | clear hR hE hT K) | assumption | skip))
    refine loop_v (X := {k : Nat // k ≤ l.length}) [] (fun x => [(5, .c (.v (.int .i64 (bsI (bstTo l A x.1))))), (14, .c (.v (.int .i64 ((x.1 : Nat) : Int))))]) (fun x => [(0, some (.ro (l.map (batK 124)))), (1, some (.row 124 (O.map RecD.k))), (2, some (.row 3 (A.map natK)))]) 3 (fun x => l.length - x.1) ⟨0, by omega⟩ ?_
    simp only [KPB, seval]
    refine ⟨?_, ?_⟩
    · (refine wk_a ?_; simp only [MAB, seval]; refine ⟨rfl, rfl, (by decide), ?_, ?_⟩; all_goals (first | (simp only [WKB, seval, bst_zero, bsI_none]; done) | (simp [WKB, seval, bst_zero, bsI_none]; done) | simp only [WKB, seval]))
    · rintro ⟨k, hk⟩ K hR2 hE hT
      rcases Nat.lt_or_ge k l.length with hlt | hge
      case inr =>
        obtain rfl : k = l.length := by omega
        cases hbt : bstTo l A l.length with
        | none =>
          have e := mg_end ok hbt
          rw [← htot] at e
          have eo : G tot = ⟨A, O⟩ := by rw [← e]; exact hS.symm
          (have gx := And.intro @List.length_map.{0,0} @bsI_none; refine go ?_; (repeat' first | exact Ef.mk | apply Lf.mk | refine fun (K : KT) hK hE hT => ?_ | refine fun (KS : KE) hKS => ?_ | refine fun (D : KD) hD => ?_ | refine fun (hg : (_ : Prop)) => ?_ | fail); all_goals (first | (refine Wr.mk ?_; (try clear gx); repeat first | clear hK hE hT K | clear hR hE hT K) | assumption | skip))
          (refine post_a hres (.inl rfl) ?_; simp only [RSB, ENB, seval, tiAll, eo]; simp only [MAB, seval]; refine ⟨rfl, rfl, ?_, ?_, ?_⟩ <;> (first | rfl | (simp [WKB, Nat.add_comm, eo]; done) | (simp only [WKB, seval])))
        | some q =>
          obtain ⟨j, d⟩ := q
          have hmt := mg_more ok hbt
          rw [← htot] at hmt
          obtain ⟨q1, q2, _⟩ := bstTo_some hbt
          obtain ⟨q3, q4⟩ := hd_some q1 (by omega) q2
          have e : mgStep l ⟨A, O⟩ = ⟨A.set j (A.getD j 0 + 1), O ++ [d]⟩ := by unfold mgStep; dsimp only; rw [hbt]
          rw [e] at hst
          have hjd : A.getD j 0 = A[j]'(by omega) := by rw [List.getD_eq_getElem?_getD, List.getElem?_eq_getElem (by omega)]; rfl
          rw [hjd] at hst
          have hlj := hb _ (List.getElem_mem q1)
          obtain ⟨B, hB⟩ : ∃ B, B = l[j] := ⟨_, rfl⟩
          have hgl : (l.map (batK 124))[j]'(by simpa using q1) = batK 124 B := by rw [List.getElem_map, hB]
          obtain ⟨z, hz⟩ : ∃ z, z = A[j]'(by omega) := ⟨_, rfl⟩
          have hga : (A.map natK)[j]'(by omega) = natK z := by rw [List.getElem_map, hz]
          simp only [← hB, ← hz] at q3 q4 hlj hst
          have hgb : (B.map RecD.k)[z]'(by simpa using q3) = RecD.k d := by rw [List.getElem_map, q4]
          have hset : (A.map natK).set j [.v (.int .i64 ((z : Int) + 1))] = (A.set j (z + 1)).map natK := by rw [List.map_set]; rfl
          (have gx := And.intro (@List.length_map.{0,0}) (And.intro (@bsI_none) (And.intro (@bsI_some) (And.intro (@hgl) (And.intro (@hga) (And.intro (@hgb) (And.intro (@hAm) (And.intro (@batK.eq_1) (And.intro @natK.eq_1 @RecD.k.eq_1)))))))); refine go ?_; (repeat' first | exact Ef.mk | apply Lf.mk | refine fun (K : KT) hK hE hT => ?_ | refine fun (KS : KE) hKS => ?_ | refine fun (D : KD) hD => ?_ | refine fun (hg : (_ : Prop)) => ?_ | fail); all_goals (first | (refine Wr.mk ?_; (try clear gx); repeat first | clear hK hE hT K | clear hR hE hT K) | assumption | skip))
          refine hR.out ⟨m + 1, by omega⟩ _ _ _ (by simp only; omega) ?_
          (refine wk_a ?_; simp only [MAB, seval]; refine ⟨rfl, rfl, (by decide), ?_, ?_⟩; all_goals (first | (simp only [WKB, seval, hst, hset, List.map_append, List.map_cons, List.map_nil, RecD.k, List.length_append, List.length_cons, List.length_nil]; done) | (simp [WKB, seval, hst, hset, List.map_append, List.map_cons, List.map_nil, RecD.k, List.length_append, List.length_cons, List.length_nil]; done) | simp only [WKB, seval]))
      case inl =>
        have hlk := hb _ (List.getElem_mem hlt)
        have hak := hle k hlt
        have hka : k < A.length := by omega
        have ho : ¬ A[k] < l[k].length → hdR l A k = none := fun h => hd_out hlt hka h
        have hi : ∀ h : A[k] < l[k].length, hdR l A k = some (l[k][A[k]]) := fun h => hd_in hlt hka h
        obtain ⟨B, hB⟩ : ∃ B, B = l[k] := ⟨_, rfl⟩
        have hgl : (l.map (batK 124))[k]'(by simpa using hlt) = batK 124 B := by rw [List.getElem_map, hB]
        obtain ⟨z, hz⟩ : ∃ z, z = A[k]'(by omega) := ⟨_, rfl⟩
        have hga : (A.map natK)[k]'(by omega) = natK z := by rw [List.getElem_map, hz]
        simp only [← hB, ← hz] at ho hi hlk hak
        by_cases hzB : z < B.length
        case neg =>
          have e := bst_gone (ho hzB)
          (have gx := And.intro (@List.length_map.{0,0}) (And.intro (@hgl) (And.intro (@hga) (And.intro (@hAm) (And.intro @batK.eq_1 @natK.eq_1)))); refine go ?_; (repeat' first | exact Ef.mk | apply Lf.mk | refine fun (K : KT) hK hE hT => ?_ | refine fun (KS : KE) hKS => ?_ | refine fun (D : KD) hD => ?_ | refine fun (hg : (_ : Prop)) => ?_ | fail); all_goals (first | (refine Wr.mk ?_; (try clear gx); repeat first | clear hK hE hT K | clear hR hE hT K) | assumption | skip))
          refine hR2.out ⟨k + 1, by omega⟩ _ _ _ (by simp only; omega) ?_
          (refine wk_a ?_; simp only [MAB, seval]; refine ⟨rfl, rfl, (by decide), ?_, ?_⟩; all_goals (first | (simp only [WKB, seval, e]; done) | (simp [WKB, seval, e]; done) | simp only [WKB, seval]))
        case pos =>
          have hh2 := hi hzB
          obtain ⟨d, hd⟩ : ∃ d, d = B[z] := ⟨_, rfl⟩
          rw [← hd] at hh2
          have hgb : (B.map RecD.k)[z]'(by simpa using hzB) = RecD.k d := by rw [List.getElem_map, hd]
          cases hbt : bstTo l A k with
          | none =>
            have e := bst_first hh2 hbt
            (have gx := And.intro (@List.length_map.{0,0}) (And.intro (@bsI_none) (And.intro (@bsI_some) (And.intro (@hgl) (And.intro (@hga) (And.intro (@hgb) (And.intro (@hAm) (And.intro (@batK.eq_1) (And.intro @natK.eq_1 @RecD.k.eq_1)))))))); refine go ?_; (repeat' first | exact Ef.mk | apply Lf.mk | refine fun (K : KT) hK hE hT => ?_ | refine fun (KS : KE) hKS => ?_ | refine fun (D : KD) hD => ?_ | refine fun (hg : (_ : Prop)) => ?_ | fail); all_goals (first | (refine Wr.mk ?_; (try clear gx); repeat first | clear hK hE hT K | clear hR hE hT K) | assumption | skip))
            refine hR2.out ⟨k + 1, by omega⟩ _ _ _ (by simp only; omega) ?_
            (refine wk_a ?_; simp only [MAB, seval]; refine ⟨rfl, rfl, (by decide), ?_, ?_⟩; all_goals (first | (simp only [WKB, seval, e, bsI_none, bsI_some]; done) | (simp [WKB, seval, e, bsI_none, bsI_some]; done) | simp only [WKB, seval]))
          | some q =>
            obtain ⟨j, y⟩ := q
            obtain ⟨q1, q2, _⟩ := bstTo_some hbt
            have q1l : j < l.length := by omega
            obtain ⟨q3, q4⟩ := hd_some q1l (by omega) q2
            have hlj := hb _ (List.getElem_mem q1l)
            obtain ⟨B2, hB2⟩ : ∃ B, B = l[j] := ⟨_, rfl⟩
            have hgl2 : (l.map (batK 124))[j]'(by simpa using q1l) = batK 124 B2 := by rw [List.getElem_map, hB2]
            obtain ⟨z2, hz2⟩ : ∃ z, z = A[j]'(by omega) := ⟨_, rfl⟩
            have hga2 : (A.map natK)[j]'(by omega) = natK z2 := by rw [List.getElem_map, hz2]
            simp only [← hB2, ← hz2] at q3 q4 hlj
            have hgb2 : (B2.map RecD.k)[z2]'(by simpa using q3) = RecD.k y := by rw [List.getElem_map, q4]
            have cl := specLess_k d y
            simp only [RecD.s] at cl
            by_cases hdy : ltR d y
            · have e := bst_new hh2 hbt hdy
              rw [ltB_t hdy] at cl
              (have gx := And.intro (@List.length_map.{0,0}) (And.intro (@bsI_none) (And.intro (@bsI_some) (And.intro (@hgl) (And.intro (@hga) (And.intro (@hgb) (And.intro (@hgl2) (And.intro (@hga2) (And.intro (@hgb2) (And.intro (@hAm) (And.intro (@batK.eq_1) (And.intro @natK.eq_1 @RecD.k.eq_1))))))))))); have q1 := cl; refine go ?_; (repeat' first | exact Ef.mk | apply Lf.mk | refine fun (K : KT) hK hE hT => ?_ | refine fun (KS : KE) hKS => ?_ | refine fun (D : KD) hD => ?_ | refine fun (hg : (_ : Prop)) => ?_ | fail); all_goals (first | (refine Wr.mk ?_; (try clear gx q1); repeat first | clear hK hE hT K | clear hR hE hT K) | assumption | skip))
              refine hR2.out ⟨k + 1, by omega⟩ _ _ _ (by simp only; omega) ?_
              (refine wk_a ?_; simp only [MAB, seval]; refine ⟨rfl, rfl, (by decide), ?_, ?_⟩; all_goals (first | (simp only [WKB, seval, e, bsI_none, bsI_some]; done) | (simp [WKB, seval, e, bsI_none, bsI_some]; done) | simp only [WKB, seval]))
            · have e := bst_old hh2 hbt hdy
              rw [ltB_f hdy] at cl
              (have gx := And.intro (@List.length_map.{0,0}) (And.intro (@bsI_none) (And.intro (@bsI_some) (And.intro (@hgl) (And.intro (@hga) (And.intro (@hgb) (And.intro (@hgl2) (And.intro (@hga2) (And.intro (@hgb2) (And.intro (@hAm) (And.intro (@batK.eq_1) (And.intro @natK.eq_1 @RecD.k.eq_1))))))))))); have q1 := cl; refine go ?_; (repeat' first | exact Ef.mk | apply Lf.mk | refine fun (K : KT) hK hE hT => ?_ | refine fun (KS : KE) hKS => ?_ | refine fun (D : KD) hD => ?_ | refine fun (hg : (_ : Prop)) => ?_ | fail); all_goals (first | (refine Wr.mk ?_; (try clear gx q1); repeat first | clear hK hE hT K | clear hR hE hT K) | assumption | skip))
              refine hR2.out ⟨k + 1, by omega⟩ _ _ _ (by simp only; omega) ?_
              (refine wk_a ?_; simp only [MAB, seval]; refine ⟨rfl, rfl, (by decide), ?_, ?_⟩; all_goals (first | (simp only [WKB, seval, e, bsI_none, bsI_some]; done) | (simp [WKB, seval, e, bsI_none, bsI_some]; done) | simp only [WKB, seval]))

end Go.Proofs.Ytfnhchcgieeedaa

namespace Go.Proofs.Ytfnhchcgieeedaa
set_option linter.unusedSimpArgs false
set_option linter.unusedVariables false
set_option linter.defProp false
set_option maxRecDepth 20000
open Go.RowKit
attribute [local irreducible] lexD

theorem cut_memlen {l : List RecD} {size : Nat} : ∀ {k : Nat} {b : List RecD}, b ∈ cutR l size k → b.length ≤ l.length
  | k + 1, b, h => by
    rw [cutR, List.mem_append, List.mem_singleton] at h
    rcases h with h | rfl
    · exact cut_memlen h
    · rw [srtR_len, List.length_take, List.length_drop]; omega

set_option maxHeartbeats 8000000 in
theorem specSortAll_k (l : List RecD) (sz : Nat) (h : 0 < sz) (hsz : sz ≤ 9223372036854775807) (hl : l.length ≤ 1048576) : FnOK Try.prog 92 ⟨1, [(0, some (.ro (l.map RecD.k)))], [.c (.sl 0 3 0 l.length), .c (.v (.int .i64 (sz : Int)))], .c (.sl 1 3 0 l.length), [(1, some (.row 124 ((soL l sz).map RecD.k)))], 2⟩ := by
  have c1 := specBatches_k l sz h hsz hl
  have hp := pcN_le (m := l.length) h
  have hcl := cutR_len l sz (pcN l.length sz)
  have hfl : (cutR l sz (pcN l.length sz)).flatten.length ≤ l.length := by
    rw [(cutR_perm l sz _).length_eq, List.length_take]; omega
  have c2 := specMerge_k (cutR l sz (pcN l.length sz)) (cutR_sorted l sz _) (by omega) (by omega) fun b hb => by have := cut_memlen hb; omega
  have hsl : (mgL (cutR l sz (pcN l.length sz))).length = l.length := (soL_ok l h).1.length_eq
  have he : soL l sz = mgL (cutR l sz (pcN l.length sz)) := rfl
  rw [he]
  rw [hcl, hsl] at c2
  obtain ⟨M, hM⟩ : ∃ M, M = mgL (cutR l sz (pcN l.length sz)) := ⟨_, rfl⟩
  rw [← hM] at c2 hsl ⊢
  obtain ⟨C, hC⟩ : ∃ C, C = cutR l sz (pcN l.length sz) := ⟨_, rfl⟩
  rw [← hC] at c1 c2 hcl
  obtain ⟨P, hP⟩ : ∃ P, P = pcN l.length sz := ⟨_, rfl⟩
  rw [← hP] at c1 c2 hcl hp
  refine fnOK_of true mixed Try.func92 rfl (by rfl) (by rfl) ?_
  have hres := congrArg Array.toList Try.results92
  simp only [Try.ntmps92, BGB, seval]
  (have gx := And.intro @List.length_map.{0,0} @hcl; have q1 := c1; have q2 := c2; refine go ?_; (repeat' first | exact Ef.mk | apply Lf.mk | refine fun (K : KT) hK hE hT => ?_ | refine fun (KS : KE) hKS => ?_ | refine fun (D : KD) hD => ?_ | refine fun (hg : (_ : Prop)) => ?_ | fail); all_goals (first | (refine Wr.mk ?_; (try clear gx q1 q2); repeat first | clear hK hE hT K | clear hR hE hT K) | assumption | skip))
  (refine post_a hres (.inl rfl) ?_; simp only [RSB, ENB, seval, tiAll, true_and]; simp only [MAB, seval]; refine ⟨rfl, rfl, ?_, ?_, ?_⟩ <;> (first | rfl | (simp [WKB, Nat.add_comm, true_and]; done) | (simp only [WKB, seval])))

def shTo2 (g : GraphD) (ends : List Int) (l : List RecD) (p : Nat) : List ShardD := (List.range p).map (shAt g ends l)
theorem shTo2_len (g : GraphD) (ends : List Int) (l : List RecD) (p : Nat) : (shTo2 g ends l p).length = p := by simp [shTo2]
theorem shTo2_succ (g : GraphD) (ends : List Int) (l : List RecD) (p : Nat) : shTo2 g ends l (p + 1) = shTo2 g ends l p ++ [shAt g ends l p] := by simp [shTo2, List.range_succ]


set_option maxHeartbeats 16000000 in
theorem specShards_k (g : GraphD) (ends : List Int) (sz : Nat) (hg : graphOk g = true) (he : EndsOk g.N ends) (hle : ends.length ≤ 150) (h : 0 < sz) (hsz : sz ≤ 9223372036854775807) : FnOK Try.prog 41 ⟨2, [(0, some (.ro ((g.Edges).map EdgeD.k))), (1, some (.ro (ends.map intK)))], [.agg [.v (.int .i64 g.N), .sl 0 3 0 (g.Edges).length], .c (.sl 1 1 0 ends.length), .c (.v (.int .i64 (sz : Int)))], .c (.sl 2 3 0 ends.length), [(2, some (.nst 129 ((shL g ends (srtG g ends sz)).map (ShardD.k 131)) none))], 3⟩ := by
  obtain ⟨g1, g2, g3, g4⟩ := graphOk_in hg
  have c1 := specGraphOk_k g (by omega)
  rw [hg] at c1
  have c2 := specEndsOk_k g.N ends (by omega)
  rw [pB_t he] at c2
  have hrl := rcL_len g ends
  have c3 := specSortAll_k (rcL g ends g.Edges.length) sz h hsz (by rw [hrl]; omega)
  rw [hrl] at c3
  have hsm := srtG_mem hg he h
  have hsl := srtG_len g ends h
  have hsd : soL (rcL g ends g.Edges.length) sz = srtG g ends sz := rfl
  rw [hsd] at c3
  have hfin : shL g ends (srtG g ends sz) = shTo2 g ends (srtG g ends sz) ends.length := rfl
  rw [hfin]
  obtain ⟨S, hS⟩ : ∃ S, S = srtG g ends sz := ⟨_, rfl⟩
  rw [← hS] at c3 hsm hsl ⊢
  clear hsd hfin hS
  refine fnOK_of true mixed Try.func41 rfl (by rfl) (by rfl) ?_
  have hres := congrArg Array.toList Try.results41
  simp only [Try.ntmps41, BGB, seval]
  (have gx := @List.length_map.{0,0}; have q1 := c1; have q2 := c2; refine go ?_; (repeat' first | exact Ef.mk | apply Lf.mk | refine fun (K : KT) hK hE hT => ?_ | refine fun (KS : KE) hKS => ?_ | refine fun (D : KD) hD => ?_ | refine fun (hg : (_ : Prop)) => ?_ | fail); all_goals (first | (refine Wr.mk ?_; (try clear gx q1 q2); repeat first | clear hK hE hT K | clear hR hE hT K) | assumption | skip))
  refine loop_v (X := {k : Nat // k ≤ g.Edges.length}) [32] (fun x => [(7, .c (.sl 3 3 0 x.1)), (36, .c (.v (.int .i64 ((x.1 : Nat) : Int))))]) (fun x => [(0, some (.ro (g.Edges.map EdgeD.k))), (1, some (.ro (ends.map intK))), (2, some (.box 34 [.v (.int .i64 g.N), .sl 0 3 0 g.Edges.length])), (3, some (.row 124 ((rcL g ends x.1).map RecD.k)))]) 4 (fun x => g.Edges.length - x.1) ⟨0, by omega⟩ ?_
  simp only [KPB, seval]
  refine ⟨?_, ?_⟩
  · (refine wk_a ?_; simp only [MAB, seval]; refine ⟨rfl, rfl, (by decide), ?_, ?_⟩; all_goals (first | (simp only [WKB, seval, rcL, List.range_zero, List.map_nil]; done) | (simp [WKB, seval, rcL, List.range_zero, List.map_nil]; done) | simp only [WKB, seval]))
  · rintro ⟨k, hk⟩ K hR hE hT
    have lk := hrl k
    rcases Nat.lt_or_ge k g.Edges.length with hlt | hge
    case inl =>
      have hrs := rcL_succ g ends k
      have g5 := g4 k hlt
      have ed : rcAt g ends k = ⟨(ivN ends g.Edges[k].To ends.length : Int), g.Edges[k].From, (k : Int)⟩ := by
        unfold rcAt
        rw [List.getD_eq_getElem?_getD, List.getElem?_eq_getElem hlt]; rfl
      have ci := specIntervalOf_k g.N ends g.Edges[k].To he g5.2.2.1 g5.2.2.2.1 (by omega)
      rw [ed] at hrs
      obtain ⟨y, hy⟩ : ∃ y, y = g.Edges[k] := ⟨_, rfl⟩
      rw [← hy] at hrs ci
      obtain ⟨L, hL⟩ : ∃ L, L = rcL g ends k := ⟨_, rfl⟩
      rw [← hL] at hrs lk ⊢
      (have gx := And.intro (@List.length_map.{0,0}) (And.intro (@List.getElem_map.{0,0}) (And.intro ((hy).symm) (And.intro @EdgeD.k.eq_1 @lk))); have q1 := ci; refine go ?_; (repeat' first | exact Ef.mk | apply Lf.mk | refine fun (K : KT) hK hE hT => ?_ | refine fun (KS : KE) hKS => ?_ | refine fun (D : KD) hD => ?_ | refine fun (hg : (_ : Prop)) => ?_ | fail); all_goals (first | (refine Wr.mk ?_; (try clear gx q1); repeat first | clear hK hE hT K | clear hR hE hT K) | assumption | skip))
      (refine hR.out ⟨k + 1, by omega⟩ _ _ _ (by simp only; omega) ?_; (refine wk_a ?_; simp only [MAB, seval]; refine ⟨rfl, rfl, (by decide), ?_, ?_⟩; all_goals (first | (simp only [WKB, seval, hrs, RecD.k, List.map_append, List.map_cons, List.map_nil]; done) | (simp [WKB, seval, hrs, RecD.k, List.map_append, List.map_cons, List.map_nil]; done) | simp only [WKB, seval])))
    case inr =>
      obtain rfl : k = g.Edges.length := by omega
      (have gx := And.intro @List.length_map.{0,0} @lk; have q1 := c3; refine go ?_; (repeat' first | exact Ef.mk | apply Lf.mk | refine fun (K : KT) hK hE hT => ?_ | refine fun (KS : KE) hKS => ?_ | refine fun (D : KD) hD => ?_ | refine fun (hg : (_ : Prop)) => ?_ | fail); all_goals (first | (refine Wr.mk ?_; (try clear gx q1); repeat first | clear hK hE hT K | clear hR hE hT K) | assumption | skip))
      refine loop_v (X := {p : Nat // p ≤ ends.length}) [56] (fun x => [(10, .c (.sl 5 3 0 x.1)), (59, .c (.v (.int .i64 ((x.1 : Nat) : Int))))]) (fun x => [(0, some (.ro (g.Edges.map EdgeD.k))), (1, some (.ro (ends.map intK))), (2, some (.box 34 [.v (.int .i64 g.N), .sl 0 3 0 g.Edges.length])), (3, some (.row 124 ((rcL g ends g.Edges.length).map RecD.k))), (4, some (.row 124 (S.map RecD.k))), (5, some (.nst 129 ((shTo2 g ends S x.1).map (ShardD.k 131)) none))]) 6 (fun x => ends.length - x.1) ⟨0, by omega⟩ ?_
      simp only [KPB, seval]
      refine ⟨?_, ?_⟩
      · (refine wk_a ?_; simp only [MAB, seval]; refine ⟨rfl, rfl, (by decide), ?_, ?_⟩; all_goals (first | (simp only [WKB, seval, shTo2, List.range_zero, List.map_nil]; done) | (simp [WKB, seval, shTo2, List.range_zero, List.map_nil]; done) | simp only [WKB, seval]))
      · rintro ⟨p, hp⟩ K hR2 hE hT
        have ls := shTo2_len g ends S p
        rcases Nat.lt_or_ge p ends.length with hpl | hpg
        case inr =>
          obtain rfl : p = ends.length := by omega
          (have gx := And.intro @List.length_map.{0,0} @ls; refine go ?_; (repeat' first | exact Ef.mk | apply Lf.mk | refine fun (K : KT) hK hE hT => ?_ | refine fun (KS : KE) hKS => ?_ | refine fun (D : KD) hD => ?_ | refine fun (hg : (_ : Prop)) => ?_ | fail); all_goals (first | (refine Wr.mk ?_; (try clear gx); repeat first | clear hK hE hT K | clear hR hE hT K) | assumption | skip))
          (refine post_a hres (.inl rfl) ?_; simp only [RSB, ENB, seval, tiAll, true_and]; simp only [MAB, seval]; refine ⟨rfl, rfl, ?_, ?_, ?_⟩ <;> (first | rfl | (simp [WKB, Nat.add_comm, true_and]; done) | (simp only [WKB, seval])))
        case inl =>
          have hss := shTo2_succ g ends S p
          have hsa : shAt g ends S p = ⟨lastE ends p, ends[p], dealt g S p⟩ := by unfold shAt; rw [lastE_succ hpl]
          rw [hsa] at hss
          have cs := specSpan_k ends p (by omega) hpl
          obtain ⟨lo, hlo⟩ : ∃ z, z = lastE ends p := ⟨_, rfl⟩
          obtain ⟨hi, hhi⟩ : ∃ z, z = ends[p] := ⟨_, rfl⟩
          rw [← hlo, ← hhi] at cs hss
          have hde := dealt_le g S p
          have hdj := fun j => dealt_le g (S.take j) p
          have hdz : dealt g (S.take S.length) p = dealt g S p := by rw [List.take_length]
          obtain ⟨L, hL⟩ : ∃ L, L = shTo2 g ends S p := ⟨_, rfl⟩
          rw [← hL] at hss ls ⊢
          (have gx := And.intro @List.length_map.{0,0} @ls; have q1 := cs; refine go ?_; (repeat' first | exact Ef.mk | apply Lf.mk | refine fun (K : KT) hK hE hT => ?_ | refine fun (KS : KE) hKS => ?_ | refine fun (D : KD) hD => ?_ | refine fun (hg : (_ : Prop)) => ?_ | fail); all_goals (first | (refine Wr.mk ?_; (try clear gx q1); repeat first | clear hK hE hT K | clear hR hE hT K) | assumption | skip))
          refine loop_v (X := {j : Nat // j ≤ S.length}) [] (fun x => [(73, .c (.v (.int .i64 ((x.1 : Nat) : Int))))]) (fun x => [(0, some (.ro (g.Edges.map EdgeD.k))), (1, some (.ro (ends.map intK))), (2, some (.box 34 [.v (.int .i64 g.N), .sl 0 3 0 g.Edges.length])), (3, some (.row 124 ((rcL g ends g.Edges.length).map RecD.k))), (4, some (.row 124 (S.map RecD.k))), (5, some (.nst 129 (L.map (ShardD.k 131)) none)), (6, some (.box 129 [.v (.int .i64 lo), .v (.int .i64 hi), .sl 7 5 0 (dealt g (S.take x.1) p).length])), (7, some (.row 131 ((dealt g (S.take x.1) p).map SEdgeD.k)))]) 8 (fun x => S.length - x.1) ⟨0, by omega⟩ ?_
          simp only [KPB, seval]
          refine ⟨?_, ?_⟩
          · (refine wk_a ?_; simp only [MAB, seval]; refine ⟨rfl, rfl, (by decide), ?_, ?_⟩; all_goals (first | (simp only [WKB, seval, List.take_zero, dealt_nil, List.map_nil, List.length_nil]; done) | (simp [WKB, seval, List.take_zero, dealt_nil, List.map_nil, List.length_nil]; done) | simp only [WKB, seval]))
          · rintro ⟨j, hj⟩ K hR3 hE hT
            have hdj := hdj j
            rw [List.length_take] at hdj
            rcases Nat.lt_or_ge j S.length with hjl | hjg
            case inr =>
              obtain rfl : j = S.length := by omega
              rw [hdz] at hdj ⊢
              obtain ⟨M, hM⟩ : ∃ M, M = dealt g S p := ⟨_, rfl⟩
              rw [← hM] at hss hdj ⊢
              (have gx := And.intro @List.length_map.{0,0} @ls; refine go ?_; (repeat' first | exact Ef.mk | apply Lf.mk | refine fun (K : KT) hK hE hT => ?_ | refine fun (KS : KE) hKS => ?_ | refine fun (D : KD) hD => ?_ | refine fun (hg : (_ : Prop)) => ?_ | fail); all_goals (first | (refine Wr.mk ?_; (try clear gx); repeat first | clear hK hE hT K | clear hR hE hT K) | assumption | skip))
              refine hR2.out ⟨p + 1, by omega⟩ _ _ _ (by simp only; omega) ?_
              (refine wk_a ?_; simp only [MAB, seval]; refine ⟨rfl, rfl, (by decide), ?_, ?_⟩; all_goals (first | (simp only [WKB, seval, hss, ShardD.k, List.map_append, List.map_cons, List.map_nil]; done) | (simp [WKB, seval, hss, ShardD.k, List.map_append, List.map_cons, List.map_nil]; done) | simp only [WKB, seval]))
            case inl =>
              have hts : S.take (j + 1) = S.take j ++ [S[j]] := List.take_succ_eq_append_getElem hjl
              obtain ⟨i, hi2, _, hC, hse, _⟩ := hsm _ (List.getElem_mem hjl)
              obtain ⟨d, hd⟩ : ∃ d, d = S[j] := ⟨_, rfl⟩
              rw [← hd] at hts hC hse
              obtain ⟨y, hy⟩ : ∃ y, y = g.Edges[i] := ⟨_, rfl⟩
              rw [← hy] at hse
              by_cases hA : d.A = (p : Int)
              · have e := dealt_hit (g := g) (l := S.take j) hA
                rw [← hts, hse] at e
                obtain ⟨M, hM⟩ : ∃ M, M = dealt g (S.take j) p := ⟨_, rfl⟩
                rw [← hM] at e hdj ⊢
                (have gx := And.intro (@List.length_map.{0,0}) (And.intro (@List.getElem_map.{0,0}) (And.intro ((hd).symm) (And.intro ((hy).symm) (And.intro (@RecD.k.eq_1) (And.intro @EdgeD.k.eq_1 @hC))))); refine go ?_; (repeat' first | exact Ef.mk | apply Lf.mk | refine fun (K : KT) hK hE hT => ?_ | refine fun (KS : KE) hKS => ?_ | refine fun (D : KD) hD => ?_ | refine fun (hg : (_ : Prop)) => ?_ | fail); all_goals (first | (refine Wr.mk ?_; (try clear gx); repeat first | clear hK hE hT K | clear hR hE hT K) | assumption | skip))
                refine hR3.out ⟨j + 1, by omega⟩ _ _ _ (by simp only; omega) ?_
                (refine wk_a ?_; simp only [MAB, seval]; refine ⟨rfl, rfl, (by decide), ?_, ?_⟩; all_goals (first | (simp only [WKB, seval, e, SEdgeD.k, List.map_append, List.map_cons, List.map_nil, List.length_append, List.length_cons, List.length_nil]; done) | (simp [WKB, seval, e, SEdgeD.k, List.map_append, List.map_cons, List.map_nil, List.length_append, List.length_cons, List.length_nil]; done) | simp only [WKB, seval]))
              · have e := dealt_miss (g := g) (l := S.take j) hA
                rw [← hts] at e
                obtain ⟨M, hM⟩ : ∃ M, M = dealt g (S.take j) p := ⟨_, rfl⟩
                rw [← hM] at e hdj ⊢
                (have gx := And.intro (@List.length_map.{0,0}) (And.intro (@List.getElem_map.{0,0}) (And.intro (hd).symm @RecD.k.eq_1)); refine go ?_; (repeat' first | exact Ef.mk | apply Lf.mk | refine fun (K : KT) hK hE hT => ?_ | refine fun (KS : KE) hKS => ?_ | refine fun (D : KD) hD => ?_ | refine fun (hg : (_ : Prop)) => ?_ | fail); all_goals (first | (refine Wr.mk ?_; (try clear gx); repeat first | clear hK hE hT K | clear hR hE hT K) | assumption | skip))
                refine hR3.out ⟨j + 1, by omega⟩ _ _ _ (by simp only; omega) ?_
                (refine wk_a ?_; simp only [MAB, seval]; refine ⟨rfl, rfl, (by decide), ?_, ?_⟩; all_goals (first | (simp only [WKB, seval, e]; done) | (simp [WKB, seval, e]; done) | simp only [WKB, seval]))

set_option maxHeartbeats 8000000 in
theorem specFarmOf_k (g : GraphD) (b size : Int) (hl : g.Edges.length ≤ 1048576) (hs : size ≤ 9223372036854775807) : FnOK Try.prog 9 ⟨1, [(0, some (.ro ((g.Edges).map EdgeD.k)))], [.agg [.v (.int .i64 g.N), .sl 0 3 0 (g.Edges).length], .c (.v (.int .i64 b)), .c (.v (.int .i64 size))],
    .tup [.inr [.v (.int .i64 (farmR g b size).N), .sl 1 1 0 ((farmR g b size).Ends).length, .sl 2 3 0 ((farmR g b size).Shards).length], .inl (.v (.bool (fmOk g b size)))], [(1, some (.row 3 (((farmR g b size).Ends).map intK))), (2, some (.nst 129 (((farmR g b size).Shards).map (ShardD.k 131)) none))], 3⟩ := by
  have cg := specGraphOk_k g (by omega)
  cases ho : fmOk g b size with
  | false =>
    rw [farm_no ho]
    obtain ⟨v1, e1⟩ : ∃ v, v = graphOk g := ⟨_, rfl⟩
    rw [← e1] at cg
    have hno : v1 = true → 1 ≤ b → b ≤ 400 → 1 ≤ size → False := fun q1 q2 q3 q4 => by
      unfold fmOk cutOk at ho
      rw [← e1, q1, decide_eq_true ⟨q2, q3⟩, decide_eq_true q4] at ho
      cases ho
    clear ho e1
    refine fnOK_of true mixed Try.func9 rfl (by rfl) (by rfl) ?_
    have hres := congrArg Array.toList Try.results9
    simp only [Try.ntmps9, BGB, seval]
    (have gx := true_and True; have q1 := cg; refine go ?_; (repeat' first | exact Ef.mk | apply Lf.mk | refine fun (K : KT) hK hE hT => ?_ | refine fun (KS : KE) hKS => ?_ | refine fun (D : KD) hD => ?_ | refine fun (hg : (_ : Prop)) => ?_ | fail); all_goals (first | (refine Wr.mk ?_; (try clear gx q1); repeat first | clear hK hE hT K | clear hR hE hT K) | assumption | skip))
    all_goals first
      | (exfalso; exact hno (by assumption) (by omega) (by omega) (by omega))
      | skip
    all_goals (refine post_a hres (.inl rfl) ?_; simp only [RSB, ENB, seval, tiAll, true_and]; simp only [MAB, seval]; refine ⟨rfl, rfl, ?_, ?_, ?_⟩ <;> (first | rfl | (simp [WKB, Nat.add_comm, true_and]; done) | (simp only [WKB, seval])))
  | true =>
    obtain ⟨e1, hc, hs1⟩ := farm_yes ho
    obtain ⟨hg, hb1, hb2⟩ := cutOk_out hc
    rw [hg] at cg
    have he := cut_ends hc
    have hcl := cut_len g b
    have cc := specCut_k g b hl
    obtain ⟨sz, hsz⟩ := Int.eq_ofNat_of_zero_le (show 0 ≤ size by omega)
    rw [hsz, Int.toNat_natCast, ← hsz] at e1
    have ch := specShards_k g (cutL g b) sz hg he (by omega) (by omega) (by omega)
    rw [e1]
    subst hsz
    have e2 : farmO g b sz = ⟨g.N, cutL g b, shL g (cutL g b) (srtG g (cutL g b) sz)⟩ := rfl
    have hll := shL_len g (cutL g b) (srtG g (cutL g b) sz)
    rw [e2]
    dsimp only
    rw [hll]
    obtain ⟨Z, hZ⟩ : ∃ Z, Z = shL g (cutL g b) (srtG g (cutL g b) sz) := ⟨_, rfl⟩
    rw [← hZ] at ch ⊢
    obtain ⟨E, hE0⟩ : ∃ E, E = cutL g b := ⟨_, rfl⟩
    rw [← hE0] at cc ch hcl ⊢
    clear e1 e2 hll hZ hE0 ho
    refine fnOK_of true mixed Try.func9 rfl (by rfl) (by rfl) ?_
    have hres := congrArg Array.toList Try.results9
    simp only [Try.ntmps9, BGB, seval]
    (have gx := @List.length_map.{0,0}; have q1 := cg; have q2 := cc; have q3 := ch; refine go ?_; (repeat' first | exact Ef.mk | apply Lf.mk | refine fun (K : KT) hK hE hT => ?_ | refine fun (KS : KE) hKS => ?_ | refine fun (D : KD) hD => ?_ | refine fun (hg : (_ : Prop)) => ?_ | fail); all_goals (first | (refine Wr.mk ?_; (try clear gx q1 q2 q3); repeat first | clear hK hE hT K | clear hR hE hT K) | assumption | skip))
    all_goals (refine post_a hres (.inl rfl) ?_; simp only [RSB, ENB, seval, tiAll, true_and]; simp only [MAB, seval]; refine ⟨rfl, rfl, ?_, ?_, ?_⟩ <;> (first | rfl | (simp [WKB, Nat.add_comm, true_and]; done) | (simp only [WKB, seval])))

end Go.Proofs.Ytfnhchcgieeedaa
