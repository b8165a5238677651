/-
  Records in order: sorting, merging. Plain, no conditions of its own.
-/
import Derived.Test.YtcbnfkbnbdbfoaaS1
namespace Go.Proofs.Ytcbnfkbnbdbfoaa
set_option linter.unusedSimpArgs false
set_option linter.unusedVariables false
set_option linter.unusedSimpArgs false
set_option linter.unusedVariables false
set_option linter.defProp false

structure RecD where
  A : Int
  B : Int
  C : Int
deriving DecidableEq

def ltR (x y : RecD) : Prop := x.A < y.A ∨ (x.A = y.A ∧ (x.B < y.B ∨ (x.B = y.B ∧ x.C < y.C)))
instance (x y : RecD) : Decidable (ltR x y) := inferInstanceAs (Decidable (_ ∨ _))
theorem ltR_irr (x : RecD) : ¬ ltR x x := by unfold ltR; omega
theorem ltR_trans {x y z : RecD} (h : ltR x y) (h' : ltR y z) : ltR x z := by unfold ltR at *; omega
theorem ltR_asymm {x y : RecD} (h : ltR x y) : ¬ ltR y x := by unfold ltR at *; omega
/-- not behind. -/
def leR (x y : RecD) : Prop := ¬ ltR y x
instance (x y : RecD) : Decidable (leR x y) := inferInstanceAs (Decidable (¬ _))
theorem leR_refl (x : RecD) : leR x x := ltR_irr x
theorem leR_trans {x y z : RecD} (h : leR x y) (h' : leR y z) : leR x z := by unfold leR ltR at *; omega
theorem leR_total (x y : RecD) : leR x y ∨ leR y x := by unfold leR ltR; omega
theorem leR_anti {x y : RecD} (h : leR x y) (h' : leR y x) : x = y := by
  obtain ⟨a, b, c⟩ := x
  obtain ⟨a', b', c'⟩ := y
  unfold leR ltR at *
  simp only [RecD.mk.injEq]
  dsimp only at *
  omega
theorem ltR_le {x y : RecD} (h : ltR x y) : leR x y := ltR_asymm h

theorem recs_one : ∀ {l m : List RecD}, l.Perm m → l.Pairwise leR → m.Pairwise leR → l = m
  | [], m, h, _, _ => h.nil_eq
  | a :: l, [], h, _, _ => absurd h.length_eq (by simp)
  | a :: l, b :: m, h, h1, h2 => by
    have ha : a ∈ b :: m := h.subset (.head _)
    have hb : b ∈ a :: l := h.symm.subset (.head _)
    have e : a = b := by
      rcases List.mem_cons.1 ha with rfl | ha
      · rfl
      rcases List.mem_cons.1 hb with rfl | hb
      · rfl
      exact leR_anti ((List.pairwise_cons.1 h1).1 b hb) ((List.pairwise_cons.1 h2).1 a ha)
    subst e
    rw [recs_one (List.perm_cons _ |>.1 h) (List.pairwise_cons.1 h1).2 (List.pairwise_cons.1 h2).2]

/-- Where a record is put in: behind all that are not behind it. -/
def inrAt (l : List RecD) (x : RecD) : Nat := (l.takeWhile fun y => !decide (ltR x y)).length
def inrL (l : List RecD) (x : RecD) : List RecD := l.take (inrAt l x) ++ x :: l.drop (inrAt l x)
theorem inrAt_le (l : List RecD) (x : RecD) : inrAt l x ≤ l.length := by
  unfold inrAt
  exact (List.takeWhile_prefix _).length_le
theorem inrL_perm (l : List RecD) (x : RecD) : (inrL l x).Perm (x :: l) := by
  unfold inrL
  refine List.perm_middle.trans ?_
  rw [List.take_append_drop]
theorem inrL_cons (y : RecD) (l : List RecD) (x : RecD) : inrL (y :: l) x = if ltR x y then x :: y :: l else y :: inrL l x := by
  unfold inrL inrAt
  rw [List.takeWhile_cons]
  by_cases h : ltR x y
  · rw [if_neg (by simpa using h), if_pos h]; rfl
  · rw [if_pos (by simpa using h), if_neg h]; rfl
theorem inrL_sorted : ∀ (l : List RecD) (x : RecD), l.Pairwise leR → (inrL l x).Pairwise leR
  | [], x, _ => by simp [inrL, inrAt]
  | y :: l, x, h => by
    rw [inrL_cons]
    obtain ⟨h1, h2⟩ := List.pairwise_cons.1 h
    split
    · rename_i hlt
      refine List.pairwise_cons.2 ⟨fun z hz => ?_, h⟩
      rcases List.mem_cons.1 hz with rfl | hz
      · exact ltR_le hlt
      · exact leR_trans (ltR_le hlt) (h1 z hz)
    · rename_i hge
      refine List.pairwise_cons.2 ⟨fun z hz => ?_, inrL_sorted l x h2⟩
      rcases List.mem_cons.1 ((inrL_perm l x).subset hz) with rfl | hz
      · exact hge
      · exact h1 z hz
def inrAll (l xs : List RecD) : List RecD := xs.foldl inrL l
theorem inrAll_snoc (l xs : List RecD) (x : RecD) : inrAll l (xs ++ [x]) = inrL (inrAll l xs) x := by simp [inrAll]
theorem inrAll_perm : ∀ (xs l : List RecD), (inrAll l xs).Perm (xs ++ l)
  | [], l => .refl _
  | x :: xs, l => by
    refine (inrAll_perm xs (inrL l x)).trans ?_
    refine ((inrL_perm l x).append_left xs).trans ?_
    exact List.perm_middle
theorem inrAll_sorted : ∀ (xs l : List RecD), l.Pairwise leR → (inrAll l xs).Pairwise leR
  | [], _, h => h
  | x :: xs, l, h => inrAll_sorted xs (inrL l x) (inrL_sorted l x h)
/-- Records in order. -/
def srtR (l : List RecD) : List RecD := inrAll [] l
theorem srtR_perm (l : List RecD) : (srtR l).Perm l := by
  have := inrAll_perm l []
  rwa [List.append_nil] at this
theorem srtR_sorted (l : List RecD) : (srtR l).Pairwise leR := inrAll_sorted l [] .nil
theorem srtR_len (l : List RecD) : (srtR l).length = l.length := (srtR_perm l).length_eq
theorem srtR_take {l : List RecD} {k : Nat} (h : k < l.length) : srtR (l.take (k + 1)) = inrL (srtR (l.take k)) l[k] := by
  rw [List.take_succ_eq_append_getElem h]; exact inrAll_snoc _ _ _

/-- The sorted pieces. -/
def cutR (l : List RecD) (size : Nat) : Nat → List (List RecD)
  | 0 => []
  | k + 1 => cutR l size k ++ [srtR ((l.drop (k * size)).take size)]
theorem cutR_len (l : List RecD) (size : Nat) : ∀ k, (cutR l size k).length = k
  | 0 => rfl
  | k + 1 => by rw [cutR, List.length_append, cutR_len l size k]; rfl
theorem cutR_sorted (l : List RecD) (size : Nat) : ∀ k, ∀ b ∈ cutR l size k, b.Pairwise leR
  | 0, b, h => by simp [cutR] at h
  | k + 1, b, h => by
    rw [cutR, List.mem_append, List.mem_singleton] at h
    rcases h with h | rfl
    · exact cutR_sorted l size k b h
    · exact srtR_sorted _
theorem cutR_perm (l : List RecD) (size : Nat) : ∀ k, ((cutR l size k).flatten).Perm (l.take (k * size))
  | 0 => by simp [cutR]
  | k + 1 => by
    rw [cutR, List.flatten_append, Nat.succ_mul, List.take_add]
    refine (cutR_perm l size k).append ?_
    simp only [List.flatten_cons, List.flatten_nil, List.append_nil]
    exact srtR_perm _

/-! Merging. -/
def hdR (l : List (List RecD)) (a : List Nat) (k : Nat) : Option RecD := (l[k]?).bind fun b => b[a.getD k 0]?
def bstTo (l : List (List RecD)) (a : List Nat) : Nat → Option (Nat × RecD)
  | 0 => none
  | k + 1 => match hdR l a k with
    | none => bstTo l a k
    | some x => match bstTo l a k with
      | none => some (k, x)
      | some (j, y) => if ltR x y then some (k, x) else some (j, y)
/-- The best one stands at the head of its piece, and is not behind any head. -/
theorem bstTo_some {l : List (List RecD)} {a : List Nat} : ∀ {n : Nat} {k : Nat} {x : RecD}, bstTo l a n = some (k, x) → k < n ∧ hdR l a k = some x ∧ ∀ j y, j < n → hdR l a j = some y → leR x y
  | n + 1, k, x, h => by
    rw [bstTo] at h
    cases hn : hdR l a n with
    | none =>
      rw [hn] at h
      obtain ⟨q1, q2, q3⟩ := bstTo_some (n := n) h
      refine ⟨by omega, q2, fun j y hj hy => ?_⟩
      by_cases e : j = n
      · subst e; rw [hn] at hy; cases hy
      · exact q3 j y (by omega) hy
    | some z =>
      rw [hn] at h
      dsimp only at h
      cases hb : bstTo l a n with
      | none =>
        rw [hb] at h
        cases h
        refine ⟨by omega, hn, fun j y hj hy => ?_⟩
        by_cases e : j = n
        · subst e; rw [hn] at hy; cases hy; exact leR_refl _
        · exact absurd (bstTo_none hb j (by omega)) (by rw [hy]; simp)
      | some p =>
        obtain ⟨i, u⟩ := p
        rw [hb] at h
        dsimp only at h
        obtain ⟨q1, q2, q3⟩ := bstTo_some (n := n) hb
        split at h
        · rename_i hlt
          cases h
          refine ⟨by omega, hn, fun j y hj hy => ?_⟩
          by_cases e : j = n
          · subst e; rw [hn] at hy; cases hy; exact leR_refl _
          · exact leR_trans (ltR_le hlt) (q3 j y (by omega) hy)
        · rename_i hge
          cases h
          refine ⟨by omega, q2, fun j y hj hy => ?_⟩
          by_cases e : j = n
          · subst e; rw [hn] at hy; cases hy; exact hge
          · exact q3 j y (by omega) hy
where bstTo_none {l : List (List RecD)} {a : List Nat} : ∀ {n : Nat}, bstTo l a n = none → ∀ j, j < n → hdR l a j = none
  | n + 1, h, j, hj => by
    rw [bstTo] at h
    cases hn : hdR l a n with
    | none =>
      rw [hn] at h
      by_cases e : j = n
      · subst e; exact hn
      · exact bstTo_none (n := n) h j (by omega)
    | some z =>
      rw [hn] at h
      dsimp only at h
      cases hb : bstTo l a n with
      | none => rw [hb] at h; cases h
      | some p =>
        rw [hb] at h
        dsimp only at h
        split at h <;> cases h

/-- What is left of the pieces. -/
def rstR (l : List (List RecD)) (a : List Nat) : List (List RecD) := List.zipWith (fun b i => b.drop i) l a
structure MgS where
  a : List Nat
  o : List RecD
def mgStep (l : List (List RecD)) (s : MgS) : MgS := match bstTo l s.a l.length with
  | none => s
  | some (k, x) => ⟨s.a.set k (s.a.getD k 0 + 1), s.o ++ [x]⟩
def mgTo (l : List (List RecD)) : Nat → MgS
  | 0 => ⟨List.replicate l.length 0, []⟩
  | m + 1 => mgStep l (mgTo l m)
def mgL (l : List (List RecD)) : List RecD := (mgTo l l.flatten.length).o

theorem rstR_get {l : List (List RecD)} {a : List Nat} (h : a.length = l.length) {k : Nat} (hk : k < l.length) : (rstR l a)[k]? = some (l[k].drop (a.getD k 0)) := by
  unfold rstR
  rw [List.getElem?_zipWith, List.getElem?_eq_getElem hk, List.getElem?_eq_getElem (by omega), List.getD_eq_getElem?_getD, List.getElem?_eq_getElem (by omega)]; rfl
theorem flat_set {α : Type} : ∀ (l : List (List α)) (k : Nat) (x : α) (b : List α), l[k]? = some (x :: b) → l.flatten.Perm (x :: (l.set k b).flatten)
  | [], k, x, b, h => by simp at h
  | c :: l, 0, x, b, h => by
    simp at h; subst h; simp
  | c :: l, k + 1, x, b, h => by
    simp only [List.getElem?_cons_succ] at h
    simp only [List.set_cons_succ, List.flatten_cons]
    exact ((flat_set l k x b h).append_left c).trans List.perm_middle
theorem rstR_set {l : List (List RecD)} {a : List Nat} (h : a.length = l.length) {k : Nat} (hk : k < l.length) : rstR l (a.set k (a.getD k 0 + 1)) = (rstR l a).set k (l[k].drop (a.getD k 0 + 1)) := by
  apply List.ext_getElem
  · simp [rstR]
  · intro j h1 h2
    have hj : j < l.length := by simp [rstR] at h1; omega
    simp only [rstR, List.getElem_zipWith, List.getElem_set]
    split
    · rename_i e; subst e; rfl
    · rfl

/-- All the way: the pieces' rests and what is out. -/
structure MgOk (l : List (List RecD)) (m : Nat) (s : MgS) : Prop where
  al : s.a.length = l.length
  ol : s.o.length = m
  pm : (s.o ++ (rstR l s.a).flatten).Perm l.flatten
  le : ∀ k, k < l.length → s.a.getD k 0 ≤ (l[k]?.getD []).length
  so : s.o.Pairwise leR
  lo : ∀ x ∈ s.o, ∀ b ∈ rstR l s.a, ∀ y ∈ b, leR x y

theorem hdR_rst {l : List (List RecD)} {a : List Nat} (h : a.length = l.length) {k : Nat} {x : RecD} (hx : hdR l a k = some x) : ∃ hk : k < l.length, a.getD k 0 < l[k].length ∧ (rstR l a)[k]? = some (x :: l[k].drop (a.getD k 0 + 1)) := by
  unfold hdR at hx
  rcases Nat.lt_or_ge k l.length with hk | hk
  case inr => rw [List.getElem?_eq_none hk] at hx; cases hx
  case inl =>
    rw [List.getElem?_eq_getElem hk, Option.bind_some] at hx
    obtain ⟨hi, he⟩ := List.getElem?_eq_some_iff.1 hx
    refine ⟨hk, hi, ?_⟩
    rw [rstR_get h hk, ← he, List.drop_eq_getElem_cons hi]
theorem hdR_none {l : List (List RecD)} {a : List Nat} (h : a.length = l.length) (hn : ∀ j, j < l.length → hdR l a j = none) : (rstR l a).flatten = [] := by
  rw [List.flatten_eq_nil_iff]
  intro b hb
  obtain ⟨k, hk, rfl⟩ := List.getElem_of_mem hb
  have hkl : k < l.length := by simp [rstR] at hk; omega
  have h1 := hn k hkl
  unfold hdR at h1
  rw [List.getElem?_eq_getElem hkl, Option.bind_some, List.getElem?_eq_none_iff] at h1
  have h2 := rstR_get h hkl
  rw [List.getElem?_eq_getElem hk] at h2
  rw [Option.some.inj h2]
  exact List.drop_eq_nil_of_le h1

theorem mg_ok {l : List (List RecD)} (hs : ∀ b ∈ l, b.Pairwise leR) : ∀ m, m ≤ l.flatten.length → MgOk l m (mgTo l m)
  | 0, _ => by
    have e : rstR l (List.replicate l.length 0) = l := by
      apply List.ext_getElem
      · simp [rstR]
      · intro i h1 h2; simp [rstR]
    refine ⟨by simp [mgTo], rfl, by simp [mgTo, e], fun k hk => ?_, .nil, fun x hx => by simp [mgTo] at hx⟩
    simp only [mgTo, List.getD_eq_getElem?_getD]
    rw [List.getElem?_replicate]
    split <;> simp
  | m + 1, hm => by
    have ih := mg_ok hs m (by omega)
    rw [mgTo]
    unfold mgStep
    obtain ⟨⟨a, o⟩, hst⟩ : ∃ s, s = mgTo l m := ⟨_, rfl⟩
    rw [← hst] at ih ⊢
    obtain ⟨al, ol, pm, le, so, lo⟩ := ih
    dsimp only at *
    cases hb : bstTo l a l.length with
    | none =>
      have := hdR_none al (bstTo_some.bstTo_none hb)
      rw [this, List.append_nil] at pm
      have := pm.length_eq
      omega
    | some p =>
      obtain ⟨k, x⟩ := p
      obtain ⟨q1, q2, q3⟩ := bstTo_some hb
      obtain ⟨hk, hi, hr⟩ := hdR_rst al q2
      have hset := rstR_set al hk
      have hxm : ∀ b ∈ rstR l a, ∀ y ∈ b, leR x y := fun b hb y hy => by
        obtain ⟨j, hj, rfl⟩ := List.getElem_of_mem hb
        have hjl : j < l.length := by simp [rstR] at hj; omega
        have h2 := rstR_get al hjl
        rw [List.getElem?_eq_getElem hj] at h2
        have h3 := Option.some.inj h2
        rw [h3] at hy
        have hjs : (l[j]).Pairwise leR := hs _ (List.getElem_mem hjl)
        have hd : a.getD j 0 < l[j].length := by
          rcases Nat.lt_or_ge (a.getD j 0) l[j].length with h | h
          · exact h
          · rw [List.drop_eq_nil_of_le h] at hy; simp at hy
        have h4 := hjs.sublist (List.drop_sublist (a.getD j 0) _)
        rw [List.drop_eq_getElem_cons hd] at hy h4
        have h5 : leR x l[j][a.getD j 0] := q3 j _ hjl (by unfold hdR; rw [List.getElem?_eq_getElem hjl, Option.bind_some, List.getElem?_eq_getElem hd])
        rcases List.mem_cons.1 hy with rfl | hy
        · exact h5
        · exact leR_trans h5 ((List.pairwise_cons.1 h4).1 y hy)
      have hmem : ∀ b ∈ (rstR l a).set k (l[k].drop (a.getD k 0 + 1)), ∀ y ∈ b, ∃ c ∈ rstR l a, y ∈ c := fun b hb y hy => by
        rcases List.mem_or_eq_of_mem_set hb with h | rfl
        · exact ⟨b, h, hy⟩
        · exact ⟨_, List.mem_of_getElem? hr, List.mem_cons_of_mem _ hy⟩
      refine ⟨by simp [al], by simp [ol], ?_, fun j hj => ?_, ?_, fun z hz b hb y hy => ?_⟩
      · dsimp only
        rw [hset, List.append_assoc, List.singleton_append]
        exact ((flat_set _ k x _ hr).symm.append_left o).trans pm
      · dsimp only
        rw [List.getD_eq_getElem?_getD, List.getElem?_set]
        by_cases e : k = j
        · subst e
          rw [if_pos rfl, if_pos (by omega), List.getElem?_eq_getElem hk]
          simp only [Option.getD_some]
          omega
        · rw [if_neg e, ← List.getD_eq_getElem?_getD]
          exact le j hj
      · dsimp only
        rw [List.pairwise_append]
        refine ⟨so, by simp, fun z hz y hy => ?_⟩
        rw [List.mem_singleton] at hy
        subst hy
        exact lo z hz _ (List.mem_of_getElem? hr) _ (.head _)
      · dsimp only at hz hb
        rw [hset] at hb
        obtain ⟨c, hc, hyc⟩ := hmem b hb y hy
        rcases List.mem_append.1 hz with hz | hz
        · exact lo z hz c hc y hyc
        · rw [List.mem_singleton] at hz
          subst hz
          exact hxm c hc y hyc

theorem mg_end {l : List (List RecD)} {m : Nat} {s : MgS} (h : MgOk l m s) (hb : bstTo l s.a l.length = none) : m = l.flatten.length := by
  have := hdR_none h.al (bstTo_some.bstTo_none hb)
  have hp := h.pm
  rw [this, List.append_nil] at hp
  rw [← h.ol]; exact hp.length_eq
theorem mg_more {l : List (List RecD)} {m : Nat} {s : MgS} (h : MgOk l m s) {k : Nat} {x : RecD} (hb : bstTo l s.a l.length = some (k, x)) : m < l.flatten.length := by
  obtain ⟨q1, q2, q3⟩ := bstTo_some hb
  obtain ⟨hk, hi, hr⟩ := hdR_rst h.al q2
  have hp := h.pm.length_eq
  have hf := (flat_set _ k x _ hr).length_eq
  rw [List.length_append, hf, List.length_cons, h.ol] at hp
  omega
theorem mgL_perm {l : List (List RecD)} (hs : ∀ b ∈ l, b.Pairwise leR) : (mgL l).Perm l.flatten ∧ (mgL l).Pairwise leR := by
  have h := mg_ok hs _ (Nat.le_refl _)
  have hp := h.pm
  have hl := hp.length_eq
  rw [List.length_append, h.ol] at hl
  have e : (rstR l (mgTo l l.flatten.length).a).flatten = [] := List.eq_nil_of_length_eq_zero (by omega)
  rw [e, List.append_nil] at hp
  exact ⟨hp, h.so⟩

end Go.Proofs.Ytcbnfkbnbdbfoaa
