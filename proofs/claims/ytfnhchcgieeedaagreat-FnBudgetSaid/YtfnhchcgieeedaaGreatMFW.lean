/-
  The engine, texts FW1 FW2 FW3 FW4 FW5 in one. No conditions of its own.
-/
import Derived.Test.YtfnhchcgieeedaaGreatMW
import Derived.Test.YtfnhchcgieeedaaGreatZz7
import Derived.Test.YtfnhchcgieeedaaGreatZz6
import Derived.Test.YtfnhchcgieeedaaGreatZz5
namespace Go.Proofs.YtfnhchcgieeedaaGreat
set_option linter.unusedSimpArgs false
set_option linter.unusedVariables false
set_option linter.unusedSimpArgs false
set_option linter.unusedVariables false
set_option linter.defProp false
open Go.RowKit

theorem fm_emb {α : Type} {f : Nat → Option α} : ∀ (n : Nat) (ix : List Nat), ix.Pairwise (· < ·) → (∀ j ∈ ix, j < n) → (∀ j, j < n → (f j).isSome → j ∈ ix) → fm f n = ix.filterMap f
  | 0, ix, _, hb, _ => by
    cases ix with
    | nil => rfl
    | cons a l => exact absurd (hb a (.head _)) (by omega)
  | n + 1, ix, hp, hb, hs => by
    by_cases hm : n ∈ ix
    · obtain ⟨L, y, rfl⟩ : ∃ M y, ix = M ++ [y] := ⟨ix.dropLast, ix.getLast (by intro h; rw [h] at hm; cases hm), (List.dropLast_concat_getLast _).symm⟩
      obtain ⟨p1, _, p3⟩ := List.pairwise_append.1 hp
      have hyb := hb y (by simp)
      have hy : y = n := by
        rcases List.mem_append.1 hm with h | h
        · have := p3 n h y (by simp)
          omega
        · exact (List.mem_singleton.1 h).symm
      subst hy
      have ih := fm_emb y L p1 (fun j hj => p3 j hj y (by simp)) (fun j hj h => by
        have := hs j (by omega) h
        rcases List.mem_append.1 this with q | q
        · exact q
        · have := List.mem_singleton.1 q; omega)
      rw [List.filterMap_append, ← ih]
      cases e : f y with
      | none => rw [fm_none e]; simp [e]
      | some x => rw [fm_some e]; simp [e]
    · have hb2 : ∀ j ∈ ix, j < n := fun j hj => by
        have := hb j hj
        have : j ≠ n := fun e => hm (e ▸ hj)
        omega
      have ih := fm_emb n ix hp hb2 (fun j hj h => hs j (by omega) h)
      have e : f n = none := by
        cases e : f n with
        | none => rfl
        | some x => exact absurd (hs n (by omega) (by rw [e]; rfl)) hm
      rw [fm_none e, ih]
theorem fmap_rangeA {α : Type} {f : Nat → Option α} {h : Nat → Option α} : ∀ (k : Nat) (ix : List Nat), ix.length = k → (∀ i, ∀ hi : i < ix.length, f ix[i] = h i) → ix.filterMap f = fm h k
  | 0, ix, hk, _ => by rw [List.eq_nil_of_length_eq_zero hk]; rfl
  | k + 1, ix, hk, hh => by
    obtain ⟨L, y, rfl⟩ : ∃ M y, ix = M ++ [y] := ⟨ix.dropLast, ix.getLast (by intro h; rw [h] at hk; cases hk), (List.dropLast_concat_getLast _).symm⟩
    have hL : L.length = k := by simpa using hk
    have h1 := fmap_rangeA k L hL (fun i hi => by
      have := hh i (by omega)
      rwa [List.getElem_append_left (by omega)] at this)
    have h2 := hh k (by omega)
    rw [List.getElem_append_right (by omega)] at h2
    simp only [hL, Nat.sub_self, List.getElem_cons_zero] at h2
    rw [List.filterMap_append, h1]
    cases e : h k with
    | none => rw [fm_none e]; simp [h2, e]
    | some x => rw [fm_some e]; simp [h2, e]
theorem fmap_range {α : Type} {f : Nat → Option α} {h : Nat → Option α} (ix : List Nat) (hh : ∀ i, ∀ hi : i < ix.length, f ix[i] = h i) : ix.filterMap f = fm h ix.length := fmap_rangeA _ ix rfl hh

/-- The graph g lies in G by the numbers ix, and all edges of G at v are among them. -/
structure Emb (g G : GraphD) (ix : List Nat) : Prop where
  n : g.N = G.N
  l : ix.length = g.Edges.length
  a : ix.Pairwise (· < ·)
  b : ∀ j ∈ ix, j < G.Edges.length
  e : ∀ i, ∀ hi : i < ix.length, G.Edges[ix[i]]? = g.Edges[i]?
def Full (G : GraphD) (ix : List Nat) (v : Int) : Prop := ∀ j, ∀ hj : j < G.Edges.length, edgeAt v G.Edges[j] → j ∈ ix

/-- The runs beside each other. -/
structure Bes (ix : List Nat) (B ev EV : List Int) : Prop where
  l : ev.length = ix.length
  L : EV.length = B.length
  i : ∀ i, ∀ hi : i < ix.length, EV[ix[i]]? = ev[i]?
  o : ∀ j, j ∉ ix → EV[j]? = B[j]?

theorem ix_inj {ix : List Nat} (h : ix.Pairwise (· < ·)) {i j : Nat} (hi : i < ix.length) (hj : j < ix.length) (e : ix[i] = ix[j]) : i = j := by
  rw [List.pairwise_iff_getElem] at h
  rcases Nat.lt_trichotomy i j with q | q | q
  · have := h i j hi hj q; omega
  · exact q
  · have := h j i hj hi q; omega

theorem Bes.set {ix : List Nat} {B ev EV : List Int} (hp : ix.Pairwise (· < ·)) (h : Bes ix B ev EV) (hb : ∀ j ∈ ix, j < B.length) {i : Nat} (hi : i < ix.length) (z : Int) : Bes ix B (ev.set i z) (EV.set ix[i] z) := by
  refine ⟨by rw [List.length_set]; exact h.l, by rw [List.length_set]; exact h.L, fun k hk => ?_, fun j hj => ?_⟩
  · rw [List.getElem?_set, List.getElem?_set]
    by_cases e : i = k
    · subst e
      have h1 := hb _ (List.getElem_mem hi)
      rw [if_pos rfl, if_pos rfl, if_pos (by rw [h.L]; exact h1), if_pos (by rw [h.l]; exact hi)]
    · rw [if_neg e, if_neg (fun q => e (ix_inj hp hi hk q))]
      exact h.i k hk
  · rw [List.getElem?_set, if_neg (fun q => hj (by rw [← q]; exact List.getElem_mem hi))]
    exact h.o j hj

section
variable {g G : GraphD} {ix : List Nat}
theorem emb_views (he : Emb g G ix) {v : Int} (hf : Full G ix v) {r R : RunD} {B : List Int} (hb : Bes ix B r.EVals R.EVals) :
    viewsV G R v = viewsV g r v ∧ viewsI G v = (viewsI g v).map fun a => ((ix.getD a.toNat 0 : Nat) : Int) := by
  have hs : ∀ j, j < G.Edges.length → (vwI G.Edges v j).isSome → j ∈ ix := fun j hj h => by
    unfold vwI at h
    rw [List.getElem?_eq_getElem hj, Option.bind_some] at h
    split at h
    · rename_i q; exact hf j hj q
    · cases h
  constructor
  · unfold viewsV
    rw [fm_emb _ ix he.a he.b (fun j hj h => hs j hj (by rw [← vw_some G.Edges R.EVals v j]; exact h)), fmap_range (h := vwV g.Edges r.EVals v) ix, he.l]
    intro i hi
    unfold vwV
    rw [he.e i hi]
    have := hb.i i hi
    simp only [List.getD_eq_getElem?_getD, this]
  · unfold viewsI
    rw [fm_emb _ ix he.a he.b hs, fmap_range (h := fun i => (vwI g.Edges v i).map fun a => ((ix.getD a.toNat 0 : Nat) : Int)) ix, he.l]
    · unfold fm
      rw [List.map_filterMap]
    · intro i hi
      unfold vwI
      rw [he.e i hi]
      cases g.Edges[i]? with
      | none => rfl
      | some x =>
        simp only [Option.bind_some]
        split
        · simp [List.getD_eq_getElem?_getD, List.getElem?_eq_getElem hi]
        · rfl

structure Vx2 (ix : List Nat) (B : List Int) (s S : VxD) : Prop where
  ev : Bes ix B s.ev S.ev
  nx : S.nx = s.nx
  nw : S.nw = s.nw
theorem vx_step (he : Emb g G ix) {B : List Int} (hB : B.length = G.Edges.length) {v : Int} {at_ vs : List Int} (ha : ∀ a ∈ at_, ∃ i : Nat, a = i ∧ i < g.Edges.length) {s S : VxD} (h : Vx2 ix B s S) {k : Nat} (hk : k < at_.length) :
    Vx2 ix B (vxStep g v at_ vs s k) (vxStep G v (at_.map fun a => ((ix.getD a.toNat 0 : Nat) : Int)) vs S k) := by
  obtain ⟨i, e1, hi⟩ := ha _ (List.getElem_mem hk)
  have hi2 : i < ix.length := by rw [he.l]; exact hi
  have a1 : at_.getD k 0 = (i : Int) := by rw [List.getD_eq_getElem?_getD, List.getElem?_eq_getElem hk]; exact e1
  have a2 : (at_.map fun a => ((ix.getD a.toNat 0 : Nat) : Int)).getD k 0 = ((ix[i] : Nat) : Int) := by
    rw [List.getD_eq_getElem?_getD, List.getElem?_map, List.getElem?_eq_getElem hk, e1]
    simp [List.getD_eq_getElem?_getD, List.getElem?_eq_getElem hi2]
  have a3 : S.ev.getD ix[i] 0 = s.ev.getD i 0 := by rw [List.getD_eq_getElem?_getD, List.getD_eq_getElem?_getD, h.ev.i i hi2]
  have a4 : G.Edges.getD ix[i] edge0 = g.Edges.getD i edge0 := by rw [List.getD_eq_getElem?_getD, List.getD_eq_getElem?_getD, he.e i hi2]
  have hb : ∀ j ∈ ix, j < B.length := fun j hj => by rw [hB]; exact he.b j hj
  by_cases c1 : vs.getD k 0 = s.ev.getD i 0
  · rw [vxStep_same a1 c1, vxStep_same a2 (by rw [a3]; exact c1)]
    exact h
  · have c1' : ¬ vs.getD k 0 = S.ev.getD ix[i] 0 := by rw [a3]; exact c1
    by_cases c2 : v < otherI (g.Edges.getD i edge0) v
    · rw [vxStep_now a1 c1 c2, vxStep_now a2 c1' (by rw [a4]; exact c2)]
      exact ⟨h.ev.set he.a hb hi2 _, h.nx, by dsimp only; rw [h.nw, he.n, a4]⟩
    · rw [vxStep_next a1 c1 c2, vxStep_next a2 c1' (by rw [a4]; exact c2)]
      exact ⟨h.ev.set he.a hb hi2 _, by dsimp only; rw [h.nx, he.n, a4], h.nw⟩
theorem vx_to (he : Emb g G ix) {B : List Int} (hB : B.length = G.Edges.length) {v : Int} {at_ vs : List Int} (ha : ∀ a ∈ at_, ∃ i : Nat, a = i ∧ i < g.Edges.length) {s S : VxD} (h : Vx2 ix B s S) : ∀ k, k ≤ at_.length →
    Vx2 ix B (vxTo g v at_ vs s k) (vxTo G v (at_.map fun a => ((ix.getD a.toNat 0 : Nat) : Int)) vs S k)
  | 0, _ => h
  | k + 1, hk => vx_step he hB ha (vx_to he hB ha h k (by omega)) (by omega)

/-- The runs in a part and in the whole. -/
structure Bs (ix : List Nat) (B : List Int) (p P : RunD × List UInt8) : Prop where
  ev : Bes ix B p.1.EVals P.1.EVals
  v : P.1.Vals = p.1.Vals
  j : P.1.Job = p.1.Job
  x : P.1.Next = p.1.Next
  w : P.2 = p.2
theorem runV_both (he : Emb g G ix) {B : List Int} (hB : B.length = G.Edges.length) {v : Nat} (hf : Full G ix v) {p P : RunD × List UInt8} (h : Bs ix B p P) : Bs ix B (runV g p.1 p.2 v, nowV g p.1 p.2 v) (runV G P.1 P.2 v, nowV G P.1 P.2 v) := by
  obtain ⟨e1, e2⟩ := emb_views he hf h.ev
  have ev : vxVal G P.1 v = vxVal g p.1 v := by unfold vxVal; rw [e1, h.v, h.j]
  have el : vxVals G P.1 v = vxVals g p.1 v := by unfold vxVals; rw [e1, h.v, h.j]
  have hx : Vx2 ix B (vxEnd g p.1 p.2 v) (vxEnd G P.1 P.2 v) := by
    unfold vxEnd
    rw [e2, el, List.length_map]
    exact vx_to he hB (fun a ha => viewsI_mem ha) ⟨h.ev, by rw [h.x], h.w⟩ _ (Nat.le_refl _)
  refine ⟨hx.ev, ?_, h.j, ?_, hx.nw⟩
  · show P.1.Vals.set v (vxVal G P.1 v) = p.1.Vals.set v (vxVal g p.1 v)
    rw [h.v, ev]
  · show (⟨P.1.Next.N, (vxEnd G P.1 P.2 v).nx⟩ : SetD) = ⟨p.1.Next.N, (vxEnd g p.1 p.2 v).nx⟩
    rw [h.x, hx.nx]
end

end Go.Proofs.YtfnhchcgieeedaaGreat

namespace Go.Proofs.YtfnhchcgieeedaaGreat
set_option linter.unusedSimpArgs false
set_option linter.unusedVariables false
set_option linter.defProp false
set_option maxRecDepth 20000
open Go.RowKit

def ixL (l : List LocD) : List Nat := l.map (·.Edge.Index.toNat)
theorem ixL_at {l : List LocD} {i : Nat} (h : i < (ixL l).length) (hl : i < l.length) : (ixL l)[i] = l[i].Edge.Index.toNat := by simp [ixL]
theorem sub_all {f : FarmD} (hf : FarmOk f) {p : Nat} (hp : p < f.Ends.length) {x : LocD} (hx : x ∈ (ouSub f p).Locs) : x.Edge ∈ allE f.Shards := by
  obtain ⟨n, hn, _, i, hi, _, e⟩ := sub_mem (sub_in hf hp).lh hx
  rw [e]
  unfold allE
  exact List.mem_flatMap.2 ⟨_, List.getElem_mem hn, List.getElem_mem hi⟩
theorem sub_emb {f : FarmD} (hf : FarmOk f) {p : Nat} (hp : p < f.Ends.length) : Emb (gOf f.N (ouSub f p).Locs) (fgR f) (ixL (ouSub f p).Locs) := by
  have hlh := (sub_in hf hp).lh
  refine ⟨(fg_n hf).symm, by simp [ixL, gOf], ?_, fun j hj => ?_, fun i hi => ?_⟩
  · have h1 : (ouSub f p).Locs.Pairwise (fun a b => a.Edge.Index ≤ b.Edge.Index) := insAll_sorted (locsTo f.Shards p _ _ f.Shards.length) [] .nil
    have h2 : ((ouSub f p).Locs.map (·.Edge.Index)).Nodup := by
      have := locsTo_nodup (p := p) hlh (Nat.le_refl f.Shards.length) hf.2.2.2.2.2.2.2.2
      have hp := (insAll_perm (locsTo f.Shards p (lastE f.Ends p) (lastE f.Ends (p + 1)) f.Shards.length) []).map (·.Edge.Index)
      rw [List.append_nil] at hp
      exact hp.nodup_iff.2 this
    rw [List.pairwise_iff_getElem]
    intro i j hi hj hij
    have li : i < (ouSub f p).Locs.length := by simpa [ixL] using hi
    have lj : j < (ouSub f p).Locs.length := by simpa [ixL] using hj
    have q1 := List.pairwise_iff_getElem.1 h1 i j li lj hij
    unfold List.Nodup at h2
    have q2 := List.pairwise_iff_getElem.1 h2 i j (by simpa using li) (by simpa using lj) hij
    rw [List.getElem_map, List.getElem_map] at q2
    have b1 := (farm_idx hf (sub_all hf hp (List.getElem_mem li))).1
    have b2 := (farm_idx hf (sub_all hf hp (List.getElem_mem lj))).1
    rw [ixL_at hi li, ixL_at hj lj]
    omega
  · obtain ⟨x, hx, rfl⟩ := List.mem_map.1 hj
    rw [fgE_len hf]
    exact (farm_idx hf (sub_all hf hp hx)).2
  · have li : i < (ouSub f p).Locs.length := by simpa [ixL] using hi
    have e1 : (ixL (ouSub f p).Locs)[i] = (ouSub f p).Locs[i].Edge.Index.toNat := ixL_at hi li
    rw [e1, fg_get hf _ (sub_all hf hp (List.getElem_mem li))]
    unfold gOf edL
    rw [List.getElem?_map, List.getElem?_eq_getElem li]; rfl

theorem ltN_geK {es : List SEdgeD} {x : Int} {i : Nat} (h : ∀ k, ∀ hk : k < es.length, i ≤ k → x ≤ es[k].From) : ∀ k, i ≤ k → k ≤ es.length → ltN es x k ≤ i
  | 0, hi, _ => by rw [ltN_zero]; omega
  | k + 1, hi, hk => by
    rcases Nat.lt_or_ge k i with q | q
    · have := ltN_le es x (k + 1); omega
    · rw [ltN_f (by omega) (by have := h k (by omega) q; omega)]
      exact ltN_geK h k q (by omega)
theorem ltN_all {es : List SEdgeD} {x : Int} : ∀ k, k ≤ es.length → (∀ j, ∀ hj : j < es.length, j < k → es[j].From < x) → ltN es x k = k
  | 0, _, _ => rfl
  | k + 1, hk, h => by
    rw [ltN_succ (by omega), if_pos (h k (by omega) (by omega)), ltN_all k (by omega) fun j hj hjk => h j hj (by omega)]
theorem ltN_monoK {es : List SEdgeD} {x : Int} {i : Nat} : ∀ k, i ≤ k → k ≤ es.length → ltN es x i ≤ ltN es x k
  | 0, hi, _ => by rw [show i = 0 by omega]; exact Nat.le_refl _
  | k + 1, hi, hk => by
    rcases Nat.lt_or_ge k i with q | q
    · rw [show i = k + 1 by omega]; exact Nat.le_refl _
    · have := ltN_monoK (es := es) (x := x) (i := i) k q (by omega)
      rw [ltN_succ (by omega)]; omega
theorem sh_sorted {s : ShardD} (h : ShOk s) {i : Nat} (hi : i < s.Edges.length) : ∀ k, ∀ hk : k < s.Edges.length, i ≤ k → s.Edges[i].From ≤ s.Edges[k].From
  | 0, hk, h0 => by have : i = 0 := by omega
                    subst this; exact Int.le_refl _
  | k + 1, hk, h0 => by
    rcases Nat.lt_or_ge k i with q | q
    · have : i = k + 1 := by omega
      subst this; exact Int.le_refl _
    · have ih := sh_sorted h hi k (by omega) q
      have c : ordOk s.Edges[k] s.Edges[k + 1] := (h.2 (k + 1) hk hk).2 (by omega)
      unfold ordOk at c
      omega
theorem win_in {s : ShardD} (h : ShOk s) {i : Nat} (hi : i < s.Edges.length) {lo hi' : Int} (h1 : lo ≤ s.Edges[i].From) (h2 : s.Edges[i].From < hi') : ltN s.Edges lo s.Edges.length ≤ i ∧ i < ltN s.Edges hi' s.Edges.length := by
  constructor
  · exact ltN_geK (fun k hk hik => Int.le_trans h1 (sh_sorted h hi k hk hik)) _ (by omega) (Nat.le_refl _)
  · have e : ltN s.Edges hi' (i + 1) = i + 1 := ltN_all _ (by omega) fun j hj hji => by
      have := sh_sorted h hj i hi (by omega)
      omega
    have := ltN_monoK (es := s.Edges) (x := hi') (i := i + 1) s.Edges.length (by omega) (Nat.le_refl _)
    omega
theorem locsTo_in {l : List ShardD} {p : Nat} {lo hi : Int} {n i : Nat} (hn : n < l.length) (hi' : i < l[n].Edges.length) (h1 : wiA p n lo l[n] ≤ i) (h2 : i < wiB p n hi l[n]) : ∀ k, k ≤ l.length → n < k → (⟨(n : Int), (i : Int), l[n].Edges[i]⟩ : LocD) ∈ locsTo l p lo hi k
  | 0, _, h => absurd h (by omega)
  | k + 1, hk, hnk => by
    rw [locsTo_succ (by omega), List.mem_append]
    rcases Nat.lt_or_ge n k with q | q
    · exact .inl (locsTo_in hn hi' h1 h2 k (by omega) q)
    · have : n = k := by omega
      subst this
      refine .inr ?_
      unfold plcAt
      refine List.mem_map.2 ⟨i - wiA p n lo l[n], by rw [List.mem_range]; omega, ?_⟩
      have e : wiA p n lo l[n] + (i - wiA p n lo l[n]) = i := by omega
      rw [e, List.getD_eq_getElem?_getD, List.getElem?_eq_getElem hi']; rfl

theorem ends_mono {f : FarmD} (h : FarmOk f) {i j : Nat} (hij : i ≤ j) (hj : j ≤ f.Ends.length) : lastE f.Ends i ≤ lastE f.Ends j := by
  have hinc := h.1.2.2.1
  induction j with
  | zero => have : i = 0 := by omega
            subst this; exact Int.le_refl _
  | succ j ih =>
    rcases Nat.lt_or_ge i (j + 1) with q | q
    · have := ih (by omega) (by omega)
      have h2 := hinc j (by omega) (by omega)
      rw [lastE_succ (by omega)]; omega
    · have : i = j + 1 := by omega
      subst this; exact Int.le_refl _
theorem sub_full {f : FarmD} (hf : FarmOk f) {p : Nat} (hp : p < f.Ends.length) {v : Int} (h1 : lastE f.Ends p ≤ v) (h2 : v < lastE f.Ends (p + 1)) : Full (fgR f) (ixL (ouSub f p).Locs) v := by
  intro j hj ha
  rw [fgE_len hf] at hj
  obtain ⟨e, he, hei⟩ := farm_all hf j hj
  have hg := fg_get hf e he
  have hij : e.Index.toNat = j := by omega
  rw [hij, List.getElem?_eq_getElem (by rw [fgE_len hf]; exact hj)] at hg
  rw [Option.some.inj hg] at ha
  have ha' : e.From = v ∨ e.To = v := ha
  unfold allE at he
  obtain ⟨s, hs, he⟩ := List.mem_flatMap.1 he
  obtain ⟨n, hn, rfl⟩ := List.getElem_of_mem hs
  obtain ⟨i, hi, rfl⟩ := List.getElem_of_mem he
  have gl := (gf_ok hf).e
  have hso := (gf_ok hf).s n hn
  have hfar := hf.2.2.1 n hn hn
  have b := (hso.2 i hi hi).1
  unfold edOk at b
  have hLo := hfar.1
  have hHi : f.Shards[n].Hi = lastE f.Ends (n + 1) := by rw [lastE_succ (by omega)]; exact hfar.2.1 (by omega)
  have hw : wiA p n (lastE f.Ends p) f.Shards[n] ≤ i ∧ i < wiB p n (lastE f.Ends (p + 1)) f.Shards[n] := by
    unfold wiA wiB
    by_cases hnp : n = p
    · rw [if_pos hnp, if_pos hnp]; exact ⟨Nat.zero_le _, hi⟩
    · rw [if_neg hnp, if_neg hnp]
      rcases ha' with q | q
      · exact win_in hso hi (by omega) (by omega)
      · exfalso
        rcases Nat.lt_or_ge n p with r | r
        · have := ends_mono hf (i := n + 1) (j := p) (by omega) (by omega)
          omega
        · have := ends_mono hf (i := p + 1) (j := n) (by omega) (by omega)
          omega
  have hm := locsTo_in hn hi hw.1 hw.2 f.Shards.length (Nat.le_refl _) hn
  have hm2 : (⟨(n : Int), (i : Int), f.Shards[n].Edges[i]⟩ : LocD) ∈ (ouSub f p).Locs := by
    refine (insAll_perm (locsTo f.Shards p (lastE f.Ends p) (lastE f.Ends (p + 1)) f.Shards.length) []).symm.subset ?_
    rw [List.append_nil]; exact hm
  unfold ixL
  exact List.mem_map.2 ⟨_, hm2, hij⟩

end Go.Proofs.YtfnhchcgieeedaaGreat

namespace Go.Proofs.YtfnhchcgieeedaaGreat
set_option linter.unusedSimpArgs false
set_option linter.unusedVariables false
set_option linter.defProp false
set_option maxRecDepth 20000
open Go.RowKit

def getE (l : List ShardD) (n i : Nat) : Option SEdgeD := (l[n]?).bind fun s => s.Edges[i]?
theorem getE_some {l : List ShardD} {n i : Nat} {e : SEdgeD} (h : getE l n i = some e) : ∃ hn : n < l.length, ∃ hi : i < l[n].Edges.length, l[n].Edges[i] = e := by
  unfold getE at h
  rcases Nat.lt_or_ge n l.length with hn | hn
  · rw [List.getElem?_eq_getElem hn, Option.bind_some] at h
    obtain ⟨hi, he⟩ := List.getElem?_eq_some_iff.1 h
    exact ⟨hn, hi, he⟩
  · rw [List.getElem?_eq_none hn] at h; cases h
theorem getE_of {l : List ShardD} {n i : Nat} (hn : n < l.length) (hi : i < l[n].Edges.length) : getE l n i = some l[n].Edges[i] := by
  unfold getE; rw [List.getElem?_eq_getElem hn, Option.bind_some, List.getElem?_eq_getElem hi]
theorem mem_allE {l : List ShardD} {e : SEdgeD} (h : e ∈ allE l) : ∃ n i, getE l n i = some e := by
  unfold allE at h
  obtain ⟨s, hs, he⟩ := List.mem_flatMap.1 h
  obtain ⟨n, hn, rfl⟩ := List.getElem_of_mem hs
  obtain ⟨i, hi, rfl⟩ := List.getElem_of_mem he
  exact ⟨n, i, getE_of hn hi⟩
theorem allE_mem {l : List ShardD} {e : SEdgeD} {n i : Nat} (h : getE l n i = some e) : e ∈ allE l := by
  obtain ⟨hn, hi, rfl⟩ := getE_some h
  unfold allE
  exact List.mem_flatMap.2 ⟨_, List.getElem_mem hn, List.getElem_mem hi⟩

theorem place_inj {f : FarmD} (hf : FarmOk f) {n i n' i' : Nat} {e e' : SEdgeD} (h : getE f.Shards n i = some e) (h' : getE f.Shards n' i' = some e') (he : e.Index = e'.Index) : n = n' ∧ i = i' := by
  have ho := hf.2.2.2.2.2.2.2.2
  have hp : (allE f.Shards).Pairwise (fun x y => x.Index ≠ y.Index) := by
    rw [List.pairwise_iff_getElem]
    intro a b ha hb hab
    exact (ho b hb).2 a hab
  unfold allE at hp
  rw [List.pairwise_flatMap] at hp
  obtain ⟨p1, p2⟩ := hp
  obtain ⟨hn, hi, rfl⟩ := getE_some h
  obtain ⟨hn', hi', rfl⟩ := getE_some h'
  rw [List.pairwise_iff_getElem] at p2
  have key : n = n' := by
    rcases Nat.lt_trichotomy n n' with q | q | q
    · exact absurd he (p2 n n' hn hn' q _ (List.getElem_mem hi) _ (List.getElem_mem hi'))
    · exact q
    · exact absurd he.symm (p2 n' n hn' hn q _ (List.getElem_mem hi') _ (List.getElem_mem hi))
  subst key
  have p3 := List.pairwise_iff_getElem.1 (p1 _ (List.getElem_mem hn))
  refine ⟨rfl, ?_⟩
  rcases Nat.lt_trichotomy i i' with q | q | q
  · exact absurd he (p3 i i' hi hi' q)
  · exact q
  · exact absurd he.symm (p3 i' i hi' hi q)

theorem pt_one {l : List ShardD} {x : LocD} {n i : Nat} {e : SEdgeD} (h : getE (l.modify x.Shard.toNat (ptS x)) n i = some e) : (e = x.Edge) ∨ (getE l n i = some e ∧ ¬ (x.Shard.toNat = n ∧ x.At.toNat = i)) := by
  obtain ⟨hn, hi, rfl⟩ := getE_some h
  have hn2 : n < l.length := by simpa using hn
  by_cases hs : x.Shard.toNat = n
  · have e1 : (l.modify x.Shard.toNat (ptS x))[n] = ptS x l[n] := by rw [List.getElem_modify, if_pos hs]
    have hi2 : i < l[n].Edges.length := by rw [e1] at hi; simpa [ptS] using hi
    have e2 : (l.modify x.Shard.toNat (ptS x))[n].Edges[i] = (l[n].Edges.set x.At.toNat x.Edge)[i]'(by rw [List.length_set]; exact hi2) := by simp only [e1]; rfl
    rw [e2, List.getElem_set]
    by_cases ha : x.At.toNat = i
    · rw [if_pos ha]; exact .inl rfl
    · rw [if_neg ha]
      exact .inr ⟨getE_of hn2 hi2, fun q => ha q.2⟩
  · have e1 : (l.modify x.Shard.toNat (ptS x))[n] = l[n] := by rw [List.getElem_modify, if_neg hs]
    have hi2 : i < l[n].Edges.length := by rw [e1] at hi; exact hi
    refine .inr ⟨?_, fun q => hs q.1⟩
    rw [getE_of hn2 hi2]
    simp only [e1]
theorem pt_all {l : List ShardD} {xs : List LocD} {n i : Nat} {e : SEdgeD} : ∀ k, k ≤ xs.length → getE (ptL l (xs.take k)) n i = some e → (∃ j, ∃ hj : j < xs.length, j < k ∧ e = xs[j].Edge) ∨ (getE l n i = some e ∧ ∀ j, ∀ hj : j < xs.length, j < k → ¬ (xs[j].Shard.toNat = n ∧ xs[j].At.toNat = i))
  | 0, _, h => .inr ⟨by simpa [ptL] using h, fun j _ h0 => absurd h0 (by omega)⟩
  | k + 1, hk, h => by
    rw [List.take_succ_eq_append_getElem (by omega), ptL_snoc] at h
    rcases pt_one h with q | ⟨q, r⟩
    · exact .inl ⟨k, by omega, by omega, q⟩
    · rcases pt_all k (by omega) q with ⟨j, hj, hjk, e1⟩ | ⟨e1, e2⟩
      · exact .inl ⟨j, hj, by omega, e1⟩
      · refine .inr ⟨e1, fun j hj hjk => ?_⟩
        rcases Nat.lt_or_ge j k with w | w
        · exact e2 j hj w
        · have : j = k := by omega
          subst this; exact r

theorem put_vals {f : FarmD} (hf : FarmOk f) {p : Nat} (hp : p < f.Ends.length) {ev EV : List Int} (hl : ev.length = (ouSub f p).Locs.length) (hb : Bes (ixL (ouSub f p).Locs) (fvL f) ev EV) (hput : PutOk f (setEv (ouSub f p).Locs ev)) :
    FarmOk ⟨f.N, f.Ends, ptL f.Shards (setEv (ouSub f p).Locs ev)⟩ ∧ fvL ⟨f.N, f.Ends, ptL f.Shards (setEv (ouSub f p).Locs ev)⟩ = EV := by
  obtain ⟨q1, q2⟩ := put_ok hput
  refine ⟨q1, ?_⟩
  have hlh := (sub_in hf hp).lh
  have hsl := setEv_len hl
  refine fv_by q1 ?_ fun e he => ?_
  · dsimp only
    rw [sk_sum q2, hb.L, fv_len hf]
  · dsimp only at he
    obtain ⟨n, i, hg⟩ := mem_allE he
    have hall := pt_all (l := f.Shards) (xs := setEv (ouSub f p).Locs ev) (n := n) (i := i) (e := e) _ (Nat.le_refl _) (by rw [List.take_length]; exact hg)
    rcases hall with ⟨j, hj, _, e1⟩ | ⟨e1, e2⟩
    · have hj2 : j < (ouSub f p).Locs.length := by omega
      have hx : j < (ixL (ouSub f p).Locs).length := by simpa [ixL] using hj2
      rw [setEv_at hj2 (by omega)] at e1
      subst e1
      have := hb.i j hx
      rw [ixL_at hx hj2, List.getElem?_eq_getElem (show j < ev.length by omega)] at this
      exact this
    · have hm := allE_mem e1
      have hv := fv_get hf e hm
      by_cases hin : e.Index.toNat ∈ ixL (ouSub f p).Locs
      · exfalso
        unfold ixL at hin
        obtain ⟨x, hx, hxi⟩ := List.mem_map.1 hin
        obtain ⟨n', hn', s1, i', hi', s2, s3⟩ := sub_mem hlh hx
        have g2 := getE_of hn' hi'
        rw [← s3] at g2
        have b1 := (farm_idx hf hm).1
        have b2 := (farm_idx hf (sub_all hf hp hx)).1
        obtain ⟨a1, a2⟩ := place_inj hf e1 g2 (by omega)
        obtain ⟨j, hj, rfl⟩ := List.getElem_of_mem hx
        have := e2 j (by omega) (by omega)
        rw [setEv_at hj (by omega)] at this
        refine this ⟨?_, ?_⟩
        · show (ouSub f p).Locs[j].Shard.toNat = n
          omega
        · show (ouSub f p).Locs[j].At.toNat = i
          omega
      · rw [hb.o _ hin]; exact hv

end Go.Proofs.YtfnhchcgieeedaaGreat

namespace Go.Proofs.YtfnhchcgieeedaaGreat
set_option linter.unusedSimpArgs false
set_option linter.unusedVariables false
set_option linter.defProp false
set_option maxRecDepth 20000
open Go.RowKit

theorem edgesL_sk (m : Nat) (L : List SEdgeD) : edgesL m L = edgesL m (L.map skE) := by
  unfold edgesL
  rw [List.foldl_map]
  rfl
theorem fg_put {f : FarmD} {xs : List LocD} (h : PutOk f xs) : fgR ⟨f.N, f.Ends, ptL f.Shards xs⟩ = fgR f := by
  obtain ⟨q1, q2⟩ := put_ok h
  rw [fg_eq q1, fg_eq h.1]
  dsimp only
  rw [edgesL_sk _ (allE (ptL f.Shards xs)), sk_allE q2, ← edgesL_sk, sk_sum q2]

/-- The run in the farm and the run over the whole graph. -/
structure Wh (f : FRunD) (s : OuS) (P : RunD × List UInt8) : Prop where
  g : fgR s.r.Farm = fgR f.Farm
  v : P.1.Vals = s.r.Vals
  j : P.1.Job = s.r.Job
  x : P.1.Next = s.r.Next
  w : P.2 = s.nw
  e : P.1.EVals = fvL s.r.Farm

theorem it_skip {G : GraphD} {P0 : RunD × List UInt8} {lo : Nat} : ∀ k, anyIn (itTo G P0 lo).2 lo k = false → itTo G P0 (lo + k) = itTo G P0 lo
  | 0, _ => rfl
  | k + 1, h => by
    rw [anyIn, Bool.or_eq_false_iff] at h
    have ih := it_skip k h.1
    rw [show lo + (k + 1) = (lo + k) + 1 by omega, itTo_no (by rw [ih]; exact h.2), ih]

theorem in_both {g G : GraphD} {ix : List Nat} {B : List Int} (he : Emb g G ix) (hB : B.length = G.Edges.length) {lo n : Nat} (hf : ∀ v : Nat, lo ≤ v → v < lo + n → Full G ix v) {p P0 : RunD × List UInt8} (h : Bs ix B p (itTo G P0 lo)) : ∀ k, k ≤ n → Bs ix B (inTo g p lo k) (itTo G P0 (lo + k))
  | 0, _ => h
  | k + 1, hk => by
    have ih := in_both he hB hf h k (by omega)
    rw [show lo + (k + 1) = (lo + k) + 1 by omega]
    cases hb : bitAt (inTo g p lo k).2 (lo + k) with
    | true =>
      have ei : inTo g p lo (k + 1) = (runV g (inTo g p lo k).1 (inTo g p lo k).2 (lo + k), nowV g (inTo g p lo k).1 (inTo g p lo k).2 (lo + k)) := if_pos hb
      rw [ei, itTo_yes (by rw [ih.w]; exact hb)]
      exact runV_both he hB (hf (lo + k) (by omega) (by omega)) ih
    | false =>
      have ei : inTo g p lo (k + 1) = inTo g p lo k := if_neg (by simp [hb])
      rw [ei, itTo_no (by rw [ih.w]; exact hb)]
      exact ih

theorem wh_step {f : FRunD} {p : Nat} {s : OuS} (h : OuOk f p s) (hp : p < f.Farm.Ends.length) {P0 : RunD × List UInt8} (hw : Wh f s (itTo (fgR f.Farm) P0 (ouLo f.Farm p))) : Wh f (ouStep s p) (itTo (fgR f.Farm) P0 (ouLo f.Farm (p + 1))) := by
  have hp2 : p < s.r.Farm.Ends.length := by rw [h.fe.1]; exact hp
  obtain ⟨l1, l2, l3⟩ := ou_lo h hp2
  have el : ouLo f.Farm p = ouLo s.r.Farm p := by unfold ouLo; rw [h.fe.1]
  have el2 : ouLo f.Farm (p + 1) = ouLo s.r.Farm p + ouN s.r.Farm p := by
    have : ouLo f.Farm (p + 1) = ouLo s.r.Farm (p + 1) := by unfold ouLo; rw [h.fe.1]
    rw [this]
    have e : ouLo s.r.Farm (p + 1) = (lastE s.r.Farm.Ends (p + 1)).toNat := rfl
    rw [e, l2, Int.toNat_natCast]
  rw [el] at hw
  rw [el2]
  cases hb : ouAny s p with
  | false =>
    rw [ouStep_no hb, it_skip _ (by rw [hw.w]; exact hb)]
    exact hw
  | true =>
    rw [ouStep_yes hb]
    have hfo := h.fi.fo
    have hem := sub_emb hfo hp2
    rw [hw.g] at hem
    have hin := sub_in hfo hp2
    have hB : (fvL s.r.Farm).length = (fgR f.Farm).Edges.length := by rw [fv_len hfo, ← hw.g, fgE_len hfo]
    have hF : ∀ v : Nat, ouLo s.r.Farm p ≤ v → v < ouLo s.r.Farm p + ouN s.r.Farm p → Full (fgR f.Farm) (ixL (ouSub s.r.Farm p).Locs) v := fun v h1 h2 => by
      rw [← hw.g]
      exact sub_full hfo hp2 (by omega) (by omega)
    have h0 : Bs (ixL (ouSub s.r.Farm p).Locs) (fvL s.r.Farm) (rOf s.r (ouSub s.r.Farm p).Locs, s.nw) (itTo (fgR f.Farm) P0 (ouLo s.r.Farm p)) := by
      refine ⟨⟨by simp [rOf, evOf, ixL], by rw [hw.e], fun i hi => ?_, fun j _ => by rw [hw.e]⟩, hw.v, hw.j, hw.x, hw.w⟩
      have li : i < (ouSub s.r.Farm p).Locs.length := by simpa [ixL] using hi
      rw [hw.e, ixL_at hi li, fv_get hfo _ (sub_all hfo hp2 (List.getElem_mem li))]
      show _ = (evOf (ouSub s.r.Farm p).Locs)[i]?
      unfold evOf
      rw [List.getElem?_map, List.getElem?_eq_getElem li]; rfl
    have hE := in_both hem hB hF h0 (ouN s.r.Farm p) (Nat.le_refl _)
    have hE' : Bs (ixL (ouSub s.r.Farm p).Locs) (fvL s.r.Farm) (ouIn s p (ouN s.r.Farm p)) (itTo (fgR f.Farm) P0 (ouLo s.r.Farm p + ouN s.r.Farm p)) := by
      have e : ouIn s p (ouN s.r.Farm p) = inTo (gOf s.r.Farm.N (ouSub s.r.Farm p).Locs) (rOf s.r (ouSub s.r.Farm p).Locs, s.nw) (ouLo s.r.Farm p) (ouN s.r.Farm p) := rfl
      rw [e]; exact hE
    have hpu := ou_put h hp2 (Nat.le_refl _)
    have hev := ou_ev h hp2 (Nat.le_refl _)
    obtain ⟨v1, v2⟩ := put_vals hfo hp2 hev hE'.ev hpu
    have ef : (ouDo s p).r.Farm = ⟨s.r.Farm.N, s.r.Farm.Ends, ptL s.r.Farm.Shards (setEv (ouSub s.r.Farm p).Locs (ouIn s p (ouN s.r.Farm p)).1.EVals)⟩ := (pu_yes hpu).1
    obtain ⟨j1, _⟩ := inTo_job (ouG s p) (rOf s.r (ouSub s.r.Farm p).Locs, s.nw) (ouLo s.r.Farm p) (ouN s.r.Farm p)
    refine ⟨?_, hE'.v, ?_, hE'.x, hE'.w, ?_⟩
    · rw [ef, fg_put hpu]; exact hw.g
    · rw [hE'.j]; exact j1
    · rw [ef, v2]
theorem wh_to {f : FRunD} (h : FrIn f) {P0 : RunD × List UInt8} (h0 : Wh f (ou0 f) P0) : ∀ p, p ≤ f.Farm.Ends.length → Wh f (ouTo (ou0 f) p) (itTo (fgR f.Farm) P0 (ouLo f.Farm p))
  | 0, _ => h0
  | p + 1, hp => wh_step (ouTo_ok h p (by omega)) hp (wh_to h h0 p (by omega))

/-- Both iterations end alike. -/
theorem wh_end {f : FRunD} (h : fiOk f) : riOk (fgR f.Farm) (frunR f) = true ∧ frunR (fiR f) = riR (fgR f.Farm) (frunR f) ∧ FarmOk (fiR f).Farm ∧ fgR (fiR f).Farm = fgR f.Farm := by
  obtain ⟨p1, p2, p3⟩ := h
  have hin := fr_in p1
  have hok : riOk (fgR f.Farm) (frunR f) = true := by
    unfold riOk
    rw [p1.2]
    show (true && !f.Done && decide (f.Iter < 1000)) = true
    rw [p2, decide_eq_true p3]; rfl
  have hN := fg_n hin.fo
  have w0 : Wh f (ou0 f) (it0 (fgR f.Farm) (frunR f)) := ⟨rfl, rfl, rfl, by unfold it0 ou0; rw [hN], rfl, rfl⟩
  have w := wh_to hin w0 f.Farm.Ends.length (Nat.le_refl _)
  have hl : ouLo f.Farm f.Farm.Ends.length = (fgR f.Farm).N.toNat := by unfold ouLo; rw [hN, hin.fo.1.2.2.2]
  rw [hl] at w
  have hu := ouTo_ok hin f.Farm.Ends.length (Nat.le_refl _)
  have hit := itTo_iter (fgR f.Farm) (it0 (fgR f.Farm) (frunR f)) (fgR f.Farm).N.toNat
  refine ⟨hok, ?_, ?_, ?_⟩
  · rw [(fi_yes ⟨p1, p2, p3⟩).1]
    have e1 : frunR (fiO f) = ⟨f.Job, f.Iter + 1, emptyL (fiE f).r.Next.Bits, (fiE f).r.Vals, fvL (fiE f).r.Farm, (fiE f).r.Next⟩ := rfl
    rw [e1]
    unfold riR
    rw [if_pos hok]
    unfold itEnd fiE
    rw [w.v, w.j, w.x, w.e, hit, hu.jo.1]
    rfl
  · rw [(fi_yes ⟨p1, p2, p3⟩).1]; exact hu.fi.fo
  · rw [(fi_yes ⟨p1, p2, p3⟩).1]; exact w.g

end Go.Proofs.YtfnhchcgieeedaaGreat

namespace Go.Proofs.YtfnhchcgieeedaaGreat
set_option linter.unusedSimpArgs false
set_option linter.unusedVariables false
set_option linter.defProp false
set_option maxRecDepth 20000
open Go.RowKit

theorem frOk_fi {f : FRunD} (h : fiOk f) : FrOk (fiR f) := by
  obtain ⟨h1, h2, h3, h4⟩ := wh_end h
  exact ⟨h3, by rw [h4, h2]; exact (ri_ok h1).1⟩

end Go.Proofs.YtfnhchcgieeedaaGreat

