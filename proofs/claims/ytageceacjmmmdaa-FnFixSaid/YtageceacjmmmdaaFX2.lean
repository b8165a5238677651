/-
  Plain: a vertex that is not on the list does not change when it is updated. No conditions of its own.
-/
import Derived.Test.YtageceacjmmmdaaW6
import Derived.Test.YtageceacjmmmdaaFX1
namespace Go.Proofs.Ytageceacjmmmdaa
set_option linter.unusedSimpArgs false
set_option linter.unusedVariables false
set_option linter.unusedSimpArgs false
set_option linter.unusedVariables false
set_option linter.defProp false
open Go.RowKit

section
variable {α β : Type}
theorem fm_map {f : Nat → Option α} {f' : Nat → Option β} (h : α → β) (e : ∀ i, f' i = (f i).map h) : ∀ n, fm f' n = (fm f n).map h
  | 0 => rfl
  | n + 1 => by
    have ih := fm_map h e n
    cases hf : f n with
    | none =>
      have e' : f' n = none := by rw [e, hf]; rfl
      rw [fm_none hf, fm_none e', ih]
    | some x =>
      have e' : f' n = some (h x) := by rw [e, hf]; rfl
      rw [fm_some hf, fm_some e', ih, List.map_append]; rfl
theorem fm_congr {f f' : Nat → Option α} : ∀ {n : Nat}, (∀ i, i < n → f i = f' i) → fm f n = fm f' n
  | 0, _ => rfl
  | n + 1, e => by
    have ih := fm_congr (n := n) fun i hi => e i (by omega)
    have en := e n (by omega)
    cases hf : f n with
    | none => rw [fm_none hf, fm_none (by rw [← en]; exact hf), ih]
    | some x => rw [fm_some hf, fm_some (by rw [← en]; exact hf), ih]
theorem fm_pre (f : Nat → Option α) (n : Nat) : ∀ i, ∃ t, fm f (n + i) = fm f n ++ t
  | 0 => ⟨[], by simp⟩
  | i + 1 => by
    obtain ⟨t, ht⟩ := fm_pre f n i
    cases hf : f (n + i) with
    | none => exact ⟨t, by rw [← Nat.add_assoc, fm_none hf, ht]⟩
    | some x => exact ⟨t ++ [x], by rw [← Nat.add_assoc, fm_some hf, ht, List.append_assoc]⟩
theorem fm_at {f : Nat → Option α} {n m : Nat} {x : α} (h : f n = some x) (hm : n < m) : (fm f m)[(fm f n).length]? = some x := by
  obtain ⟨t, ht⟩ := fm_pre f (n + 1) (m - (n + 1))
  rw [show n + 1 + (m - (n + 1)) = m by omega, fm_some h] at ht
  rw [ht]
  simp
end

/-! The update of a vertex, edge after edge. -/

def vyStep (g : GraphD) (v : Int) (f : Nat → Int) (s : VxD) (i : Nat) : VxD :=
  if edgeAt v (g.Edges.getD i edge0) then
    if f i = s.ev.getD i 0 then s
    else if v < otherI (g.Edges.getD i edge0) v then ⟨s.ev.set i (f i), s.nx, addL g.N s.nw (otherI (g.Edges.getD i edge0) v)⟩
    else ⟨s.ev.set i (f i), addL g.N s.nx (otherI (g.Edges.getD i edge0) v), s.nw⟩
  else s
def vyTo (g : GraphD) (v : Int) (f : Nat → Int) (s : VxD) : Nat → VxD
  | 0 => s
  | k + 1 => vyStep g v f (vyTo g v f s k) k

theorem getD_of {α : Type} {l : List α} {k : Nat} {x d : α} (h : l[k]? = some x) : l.getD k d = x := by simp [List.getD, h]

theorem vx_vy (g : GraphD) (v : Int) (ev : List Int) (h : ViewD → Int) (s : VxD) : ∀ n, n ≤ g.Edges.length →
    vxTo g v (viewsI g v) ((fm (vwV g.Edges ev v) g.Edges.length).map h) s (fm (vwI g.Edges v) n).length = vyTo g v (fun i => h (edgeView v (g.Edges.getD i edge0) (ev.getD i 0))) s n
  | 0, _ => rfl
  | n + 1, hn => by
    have ih := vx_vy g v ev h s n (by omega)
    have hx : g.Edges[n]? = some (g.Edges[n]'(by omega)) := List.getElem?_eq_getElem (by omega)
    have hd : g.Edges.getD n edge0 = g.Edges[n]'(by omega) := getD_of hx
    show _ = vyStep g v _ (vyTo g v _ s n) n
    by_cases hv : edgeAt v (g.Edges[n]'(by omega))
    · have e1 : vwI g.Edges v n = some (n : Int) := by simp [vwI, hx, hv]
      have e2 : vwV g.Edges ev v n = some (edgeView v (g.Edges[n]'(by omega)) (ev.getD n 0)) := by simp [vwV, hx, hv]
      have l1 := fm_len_eq (vw_some g.Edges ev v) n
      have a1 := getD_of (d := 0) (fm_at (m := g.Edges.length) e1 (by omega))
      have a2 := fm_at (m := g.Edges.length) e2 (by omega)
      rw [l1] at a2
      have a3 : ((fm (vwV g.Edges ev v) g.Edges.length).map h).getD (fm (vwI g.Edges v) n).length 0 = h (edgeView v (g.Edges.getD n edge0) (ev.getD n 0)) := by
        rw [hd]
        exact getD_of (by rw [List.getElem?_map, a2]; rfl)
      rw [fm_some e1, List.length_append, List.length_singleton]
      show vxStep g v (viewsI g v) _ (vxTo g v (viewsI g v) _ s _) _ = _
      rw [ih]
      unfold vxStep vyStep
      rw [a3, show (viewsI g v).getD (fm (vwI g.Edges v) n).length 0 = (n : Int) from a1, Int.toNat_natCast, if_pos (c := edgeAt v (g.Edges.getD n edge0)) (by rw [hd]; exact hv)]
    · have e1 : vwI g.Edges v n = none := by simp [vwI, hx, hv]
      rw [fm_none e1, ih]
      unfold vyStep
      rw [if_neg (by rw [hd]; exact hv)]

theorem bit_add {n : Int} {l : List UInt8} (u w : Int) (h : setOk n l = true) (hw : 0 ≤ w ∧ w < n) : bitAt (addL n l u) w.toNat = (decide (u = w) || bitAt l w.toNat) := by
  obtain ⟨h1, h2, h3, h4⟩ := setOk_len h
  unfold addL
  by_cases hu : 0 ≤ u ∧ u < n
  · have e : (w.toNat = u.toNat) = (u = w) := by rw [eq_iff_iff]; omega
    rw [if_pos hu, bitAt_setBit _ _ _ (by omega)]
    simp only [e]
  · rw [if_neg hu]
    have : decide (u = w) = false := by rw [decide_eq_false_iff_not]; rintro rfl; exact hu hw
    rw [this, Bool.false_or]

/-- What holds behind the first n edges. -/
structure VyIn (g : GraphD) (v : Int) (f : Nat → Int) (s0 s : VxD) (n : Nat) : Prop where
  xo : setOk g.N s.nx = true
  wo : setOk g.N s.nw = true
  ln : s.ev.length = s0.ev.length
  old : ∀ i, n ≤ i → s.ev.getD i 0 = s0.ev.getD i 0
  new : ∀ i, i < n → s.ev.getD i 0 = if edgeAt v (g.Edges.getD i edge0) then f i else s0.ev.getD i 0
  hit : ∀ i, i < n → edgeAt v (g.Edges.getD i edge0) → f i ≠ s0.ev.getD i 0 → (v < otherI (g.Edges.getD i edge0) v ∧ bitAt s.nw (otherI (g.Edges.getD i edge0) v).toNat = true) ∨ bitAt s.nx (otherI (g.Edges.getD i edge0) v).toNat = true
  mx : ∀ w : Int, 0 ≤ w ∧ w < g.N → bitAt s0.nx w.toNat = true → bitAt s.nx w.toNat = true
  mw : ∀ w : Int, 0 ≤ w ∧ w < g.N → bitAt s0.nw w.toNat = true → bitAt s.nw w.toNat = true

theorem getD_set {l : List Int} {i j : Nat} {x : Int} (hi : i < l.length) : (l.set i x).getD j 0 = if j = i then x else l.getD j 0 := by
  simp only [List.getD, List.getElem?_set]
  by_cases h : i = j
  · subst h; simp [hi]
  · have : ¬ j = i := fun e => h e.symm
    simp [h, this]

theorem other_in {g : GraphD} (hg : graphOk g = true) {v : Int} {i : Nat} (hi : i < g.Edges.length) : 0 ≤ otherI (g.Edges.getD i edge0) v ∧ otherI (g.Edges.getD i edge0) v < g.N := by
  obtain ⟨_, he⟩ := graphOk_out hg
  have hd : g.Edges.getD i edge0 = g.Edges[i] := getD_of (List.getElem?_eq_getElem hi)
  obtain ⟨a1, a2, a3, a4, _⟩ := he _ (List.getElem_mem hi)
  rw [hd]
  unfold otherI
  split
  · exact ⟨a3, a4⟩
  · exact ⟨a1, a2⟩

theorem vy_in {g : GraphD} (hg : graphOk g = true) (v : Int) (f : Nat → Int) {s0 : VxD} (hx : setOk g.N s0.nx = true) (hw : setOk g.N s0.nw = true) (hl : s0.ev.length = g.Edges.length) : ∀ n, n ≤ g.Edges.length → VyIn g v f s0 (vyTo g v f s0 n) n
  | 0, _ => ⟨hx, hw, rfl, fun _ _ => rfl, fun i hi => by omega, fun i hi => by omega, fun _ _ h => h, fun _ _ h => h⟩
  | n + 1, hn => by
    have ih := vy_in hg v f hx hw hl n (by omega)
    have hu := other_in hg (v := v) (i := n) (by omega)
    show VyIn g v f s0 (vyStep g v f (vyTo g v f s0 n) n) (n + 1)
    generalize vyTo g v f s0 n = s at ih ⊢
    have hln : n < s.ev.length := by rw [ih.ln, hl]; omega
    have hold := ih.old n (Nat.le_refl _)
    unfold vyStep
    by_cases hv : edgeAt v (g.Edges.getD n edge0)
    case neg =>
      rw [if_neg hv]
      refine ⟨ih.xo, ih.wo, ih.ln, fun i hi => ih.old i (by omega), fun i hi => ?_, fun i hi ha hne => ?_, ih.mx, ih.mw⟩
      · by_cases hin : i = n
        · subst hin; rw [if_neg hv]; exact hold
        · exact ih.new i (by omega)
      · by_cases hin : i = n
        · subst hin; exact absurd ha hv
        · exact ih.hit i (by omega) ha hne
    case pos =>
      rw [if_pos hv]
      by_cases hf : f n = s.ev.getD n 0
      case pos =>
        rw [if_pos hf]
        refine ⟨ih.xo, ih.wo, ih.ln, fun i hi => ih.old i (by omega), fun i hi => ?_, fun i hi ha hne => ?_, ih.mx, ih.mw⟩
        · by_cases hin : i = n
          · subst hin; rw [if_pos hv]; exact hf.symm
          · exact ih.new i (by omega)
        · by_cases hin : i = n
          · subst hin; rw [hold] at hf; exact absurd hf hne
          · exact ih.hit i (by omega) ha hne
      case neg =>
        rw [if_neg hf]
        have nold : ∀ i, n + 1 ≤ i → (s.ev.set n (f n)).getD i 0 = s0.ev.getD i 0 := fun i hi => by
          rw [getD_set hln, if_neg (by omega)]; exact ih.old i (by omega)
        have nnew : ∀ i, i < n + 1 → (s.ev.set n (f n)).getD i 0 = if edgeAt v (g.Edges.getD i edge0) then f i else s0.ev.getD i 0 := fun i hi => by
          rw [getD_set hln]
          by_cases hin : i = n
          · subst hin; rw [if_pos rfl, if_pos hv]
          · rw [if_neg hin]; exact ih.new i (by omega)
        by_cases hlt : v < otherI (g.Edges.getD n edge0) v
        · rw [if_pos hlt]
          refine ⟨ih.xo, addL_ok _ ih.wo, by rw [← ih.ln]; exact List.length_set, nold, nnew, fun i hi ha hne => ?_, ih.mx, fun w hw' h => ?_⟩
          · by_cases hin : i = n
            · subst hin
              refine .inl ⟨hlt, ?_⟩
              rw [bit_add _ _ ih.wo hu]; simp
            · rcases ih.hit i (by omega) ha hne with ⟨h1, h2⟩ | h1
              · refine .inl ⟨h1, ?_⟩
                rw [bit_add _ _ ih.wo (other_in hg (by omega)), h2]; simp
              · exact .inr h1
          · rw [bit_add _ _ ih.wo hw', ih.mw w hw' h]; simp
        · rw [if_neg hlt]
          refine ⟨addL_ok _ ih.xo, ih.wo, by rw [← ih.ln]; exact List.length_set, nold, nnew, fun i hi ha hne => ?_, fun w hw' h => ?_, ih.mw⟩
          · by_cases hin : i = n
            · subst hin
              refine .inr ?_
              rw [bit_add _ _ ih.xo hu]; simp
            · rcases ih.hit i (by omega) ha hne with ⟨h1, h2⟩ | h1
              · exact .inl ⟨h1, h2⟩
              · refine .inr ?_
                rw [bit_add _ _ ih.xo (other_in hg (by omega)), h1]; simp
          · rw [bit_add _ _ ih.xo hw', ih.mx w hw' h]; simp

theorem vy_same {g : GraphD} {v : Int} {f : Nat → Int} {s : VxD} (h : ∀ i, i < g.Edges.length → edgeAt v (g.Edges.getD i edge0) → f i = s.ev.getD i 0) : ∀ n, n ≤ g.Edges.length → vyTo g v f s n = s
  | 0, _ => rfl
  | n + 1, hn => by
    show vyStep g v f (vyTo g v f s n) n = s
    rw [vy_same h n (by omega)]
    unfold vyStep
    split
    · rename_i hv; rw [if_pos (h n (by omega) hv)]
    · rfl

/-! A run. -/

def newE (g : GraphD) (r : RunD) (v : Nat) (i : Nat) : Int := edgeV r.Job.Prog (vxVal g r v) (outsN (viewsV g r v)) (edgeView v (g.Edges.getD i edge0) (r.EVals.getD i 0))
def Fix (g : GraphD) (r : RunD) (v : Nat) : Prop := fixV r.Job.Prog (r.Vals.getD v 0) (viewsV g r v)

theorem vxEnd_vy (g : GraphD) (r : RunD) (nw : List UInt8) (v : Nat) : vxEnd g r nw v = vyTo g v (newE g r v) ⟨r.EVals, r.Next.Bits, nw⟩ g.Edges.length := vx_vy g v r.EVals _ _ _ (Nat.le_refl _)

theorem view_mem {g : GraphD} {r : RunD} {v : Int} {x : ViewD} (h : x ∈ viewsV g r v) : ∃ i, i < g.Edges.length ∧ edgeAt v (g.Edges.getD i edge0) ∧ x = edgeView v (g.Edges.getD i edge0) (r.EVals.getD i 0) := by
  obtain ⟨i, h1, h2⟩ := fm_mem h
  have hx : g.Edges[i]? = some g.Edges[i] := List.getElem?_eq_getElem h1
  have hd : g.Edges.getD i edge0 = g.Edges[i] := getD_of hx
  unfold vwV at h2
  rw [hx] at h2
  simp only [Option.bind_some] at h2
  split at h2
  · rename_i ha
    cases h2
    exact ⟨i, h1, by rw [hd]; exact ha, by rw [hd]⟩
  · cases h2
theorem view_in {g : GraphD} {r : RunD} {v : Int} {i : Nat} (h : i < g.Edges.length) (ha : edgeAt v (g.Edges.getD i edge0)) : edgeView v (g.Edges.getD i edge0) (r.EVals.getD i 0) ∈ viewsV g r v := by
  have hx : g.Edges[i]? = some g.Edges[i] := List.getElem?_eq_getElem h
  have hd : g.Edges.getD i edge0 = g.Edges[i] := getD_of hx
  rw [hd] at ha ⊢
  have e2 : vwV g.Edges r.EVals v i = some (edgeView v g.Edges[i] (r.EVals.getD i 0)) := by simp [vwV, hx, ha]
  exact List.mem_of_getElem? (fm_at (m := g.Edges.length) e2 h)

/-- Where nothing is to change, nothing changes. -/
theorem fix_e {g : GraphD} {r : RunD} {v : Nat} (h : Fix g r v) {i : Nat} (hi : i < g.Edges.length) (ha : edgeAt v (g.Edges.getD i edge0)) : newE g r v i = r.EVals.getD i 0 := by
  have hm := view_in (r := r) hi ha
  obtain ⟨k, hk⟩ := List.getElem?_of_mem hm
  have h2 := congrArg (fun l => l[k]?) h.2
  simp only [updE, List.getElem?_map, hk, Option.map_some, Option.some.injEq] at h2
  exact h2

theorem fix_run {g : GraphD} {r : RunD} {nw : List UInt8} {v : Nat} (h : Fix g r v) : runV g r nw v = r ∧ nowV g r nw v = nw := by
  have e := vy_same (s := ⟨r.EVals, r.Next.Bits, nw⟩) (fun i hi ha => fix_e h hi ha) g.Edges.length (Nat.le_refl _)
  rw [← vxEnd_vy] at e
  unfold runV nowV
  rw [e]
  have e1 : vxVal g r v = r.Vals.getD v 0 := h.1
  have e2 : r.Vals.set v (r.Vals.getD v 0) = r.Vals := by
    by_cases hv : v < r.Vals.length
    · simp [List.getD, hv]
    · exact List.set_eq_of_length_le (by omega)
  rw [e1, e2]
  exact ⟨rfl, rfl⟩

/-- Labels are small. -/
def LabIn (r : RunD) : Prop := r.Job.Prog = 4 → (∀ v : Nat, 0 ≤ r.Vals.getD v 0 ∧ r.Vals.getD v 0 < 1000) ∧ ∀ i : Nat, 0 ≤ r.EVals.getD i 0 ∧ r.EVals.getD i 0 < 1000000

theorem most_lab {l : List ViewD} {val : Int} (hv : 0 ≤ val ∧ val < 1000) (hl : ∀ x ∈ l, 0 ≤ x.Val ∧ x.Val < 1000000) : 0 ≤ mostOf (told l) val ∧ mostOf (told l) val < 1000 := by
  have ht : ∀ a ∈ told l, 0 ≤ a ∧ a < 1000 := by
    intro a ha
    unfold told at ha
    obtain ⟨x, hx, hax⟩ := List.mem_flatMap.1 ha
    have := hl x hx
    unfold toldOf at hax
    rcases List.mem_append.1 hax with h | h <;> split at h <;> simp at h <;> omega
  refine fk_rng (P := fun p : Int × Int => 0 ≤ p.1 ∧ p.1 < 1000) (stM (told l)) (val, 0) (told l) hv (fun b x hx hb => ?_) _
  have h1 := ht x hx
  unfold stM
  split
  · exact h1
  · exact hb

theorem lab_step {g : GraphD} {r : RunD} {v : Nat} (h4 : r.Job.Prog = 4) (h : LabIn r) : (0 ≤ vxVal g r v ∧ vxVal g r v < 1000) ∧ ∀ x ∈ viewsV g r v, 0 ≤ x.Val ∧ x.Val < 1000000 := by
  obtain ⟨h1, h2⟩ := h h4
  have hx : ∀ x ∈ viewsV g r v, 0 ≤ x.Val ∧ x.Val < 1000000 := by
    intro x hx
    obtain ⟨i, _, _, rfl⟩ := view_mem hx
    exact h2 i
  refine ⟨?_, hx⟩
  unfold vxVal
  rw [h4]
  exact most_lab (h1 v) hx

theorem prog_or {g : GraphD} {r : RunD} (h : RunIn g r) : r.Job.Prog = 1 ∨ r.Job.Prog = 2 ∨ r.Job.Prog = 3 ∨ r.Job.Prog = 4 := by
  have := jobOk_out h.jo
  omega

/-- Which vertices are on a list, or need no update. -/
def Sched (g : GraphD) (r : RunD) (nw : List UInt8) (k : Nat) : Prop := ∀ w : Nat, (w : Int) < g.N → (k ≤ w ∧ bitAt nw w = true) ∨ bitAt r.Next.Bits w = true ∨ Fix g r w

theorem sched_step {g : GraphD} {r : RunD} {nw : List UInt8} {v : Nat} (h : RunIn g r) (hw : setOk g.N nw = true) (hv : (v : Int) < g.N) (hlab : LabIn r) (hs : Sched g r nw v) :
    LabIn (runV g r nw v) ∧ Sched g (runV g r nw v) (nowV g r nw v) (v + 1) := by
  have hy := vy_in h.go (v : Int) (newE g r v) (s0 := ⟨r.EVals, r.Next.Bits, nw⟩) h.so hw h.el g.Edges.length (Nat.le_refl _)
  rw [← vxEnd_vy] at hy
  have eE : (runV g r nw v).EVals = (vxEnd g r nw v).ev := rfl
  have eX : (runV g r nw v).Next.Bits = (vxEnd g r nw v).nx := rfl
  have eW : nowV g r nw v = (vxEnd g r nw v).nw := rfl
  have eV : (runV g r nw v).Vals = r.Vals.set v (vxVal g r v) := rfl
  have eJ : (runV g r nw v).Job = r.Job := rfl
  have hvl : v < r.Vals.length := by have := h.vl; omega
  constructor
  · intro h4
    rw [eJ] at h4
    obtain ⟨l1, l2⟩ := lab_step (g := g) (v := v) h4 hlab
    obtain ⟨l3, l4⟩ := hlab h4
    constructor
    · intro u
      rw [eV, getD_set hvl]
      split
      · exact l1
      · exact l3 u
    · intro i
      rw [eE]
      by_cases hi : i < g.Edges.length
      · rw [hy.new i hi]
        split
        · rename_i ha
          have hx := l2 _ (view_in (r := r) hi ha)
          unfold newE
          rw [h4]
          generalize edgeView (v : Int) (g.Edges.getD i edge0) (r.EVals.getD i 0) = x at hx
          obtain ⟨a, b, c, d⟩ := x
          dsimp only at hx
          cases a <;> cases b <;> simp [edgeV, labE] <;> omega
        · exact l4 i
      · rw [hy.old i (by omega)]; exact l4 i
  · intro w hwn
    by_cases hwv : w = v
    · subst hwv
      by_cases hself : ∃ i, i < g.Edges.length ∧ (g.Edges.getD i edge0).From = w ∧ (g.Edges.getD i edge0).To = w ∧ newE g r w i ≠ r.EVals.getD i 0
      · obtain ⟨i, hi, hf, ht, hne⟩ := hself
        have ho : otherI (g.Edges.getD i edge0) w = w := by unfold otherI; rw [if_pos hf]; exact ht
        rcases hy.hit i hi (.inl hf) hne with ⟨h1, _⟩ | h1
        · rw [ho] at h1; omega
        · rw [ho, Int.toNat_natCast] at h1
          exact .inr (.inl h1)
      · right; right
        have hsf : ∀ x ∈ viewsV g r w, x.In = true → x.Out = true → edgeV r.Job.Prog (updVal r.Job.Prog (r.Vals.getD w 0) (viewsV g r w)) (outsN (viewsV g r w)) x = x.Val := by
          intro x hx hin hout
          obtain ⟨i, hi, _, rfl⟩ := view_mem hx
          have ht : (g.Edges.getD i edge0).To = w := by simpa [edgeView] using hin
          have hf : (g.Edges.getD i edge0).From = w := by simpa [edgeView] using hout
          by_cases he : newE g r w i = r.EVals.getD i 0
          · exact he
          · exact absurd ⟨i, hi, hf, ht, he⟩ hself
        have hup := upd_again (prog_or h) hsf fun h4 => lab_step h4 hlab
        have e1 : (runV g r nw w).Vals.getD w 0 = updVal r.Job.Prog (r.Vals.getD w 0) (viewsV g r w) := by rw [eV, getD_set hvl, if_pos rfl]; rfl
        have e2 : viewsV g (runV g r nw w) w = updVs r.Job.Prog (r.Vals.getD w 0) (viewsV g r w) := by
          unfold viewsV updVs
          have : ∀ i, i < g.Edges.length → vwV g.Edges (runV g r nw w).EVals w i = (vwV g.Edges r.EVals w i).map (newVw r.Job.Prog (vxVal g r w) (outsN (viewsV g r w))) := by
            intro i hi
            have hx : g.Edges[i]? = some g.Edges[i] := List.getElem?_eq_getElem hi
            have hd : g.Edges.getD i edge0 = g.Edges[i] := getD_of hx
            unfold vwV
            rw [hx]
            simp only [Option.bind_some]
            split
            · rename_i ha
              rw [eE, hy.new i hi, hd, if_pos ha]
              show some _ = some _
              unfold newE newVw
              rw [hd]
              rfl
            · rfl
          rw [fm_congr this]
          exact fm_map _ (fun i => rfl) _
        unfold Fix
        rw [eJ, e1, e2]
        exact hup
    · by_cases hch : ∃ i, i < g.Edges.length ∧ edgeAt v (g.Edges.getD i edge0) ∧ edgeAt w (g.Edges.getD i edge0) ∧ newE g r v i ≠ r.EVals.getD i 0
      · obtain ⟨i, hi, hav, haw, hne⟩ := hch
        have ho : otherI (g.Edges.getD i edge0) v = w := by
          unfold otherI
          rcases hav with h1 | h1 <;> rcases haw with h2 | h2 <;> split <;> omega
        rcases hy.hit i hi hav hne with ⟨h1, h2⟩ | h1
        · rw [ho] at h1
          rw [ho, Int.toNat_natCast] at h2
          exact .inl ⟨by omega, h2⟩
        · rw [ho, Int.toNat_natCast] at h1
          exact .inr (.inl h1)
      · have hww : (0 : Int) ≤ (w : Int) ∧ (w : Int) < g.N := ⟨by omega, hwn⟩
        rcases hs w hwn with ⟨h1, h2⟩ | h1 | h1
        · exact .inl ⟨by omega, hy.mw (w : Int) hww h2⟩
        · exact .inr (.inl (hy.mx (w : Int) hww h1))
        · right; right
          have e1 : (runV g r nw v).Vals.getD w 0 = r.Vals.getD w 0 := by rw [eV, getD_set hvl, if_neg hwv]
          have e2 : viewsV g (runV g r nw v) w = viewsV g r w := by
            unfold viewsV
            refine fm_congr fun i hi => ?_
            have hx : g.Edges[i]? = some g.Edges[i] := List.getElem?_eq_getElem hi
            have hd : g.Edges.getD i edge0 = g.Edges[i] := getD_of hx
            unfold vwV
            rw [hx]
            simp only [Option.bind_some]
            split
            · rename_i ha
              have e3 : (runV g r nw v).EVals.getD i 0 = r.EVals.getD i 0 := by
                rw [eE, hy.new i hi]
                split
                · rename_i hb
                  by_cases he : newE g r v i = r.EVals.getD i 0
                  · exact he
                  · exact absurd ⟨i, hi, hb, by rw [hd]; exact ha, he⟩ hch
                · rfl
              rw [e3]
            · rfl
          unfold Fix
          rw [eJ, e1, e2]
          exact h1

theorem sched_to {g : GraphD} {p : RunD × List UInt8} (h : RunIn g p.1 ∧ setOk g.N p.2 = true) (hl : LabIn p.1) (hs : Sched g p.1 p.2 0) : ∀ k : Nat, (k : Int) ≤ g.N → LabIn (itTo g p k).1 ∧ Sched g (itTo g p k).1 (itTo g p k).2 k
  | 0, _ => ⟨hl, hs⟩
  | k + 1, hk => by
    obtain ⟨h1, h2⟩ := sched_to h hl hs k (by omega)
    have hin := itTo_in h k (by omega)
    cases hb : bitAt (itTo g p k).2 k with
    | true => rw [itTo_yes hb]; exact sched_step hin.1 hin.2 (by omega) h1 h2
    | false =>
      rw [itTo_no hb]
      refine ⟨h1, fun w hw => ?_⟩
      rcases h2 w hw with ⟨h3, h4⟩ | h3 | h3
      · by_cases hwk : w = k
        · subst hwk; rw [hb] at h4; cases h4
        · exact .inl ⟨by omega, h4⟩
      · exact .inr (.inl h3)
      · exact .inr (.inr h3)

/-- What is kept between iterations. -/
structure RunFix (g : GraphD) (r : RunD) : Prop where
  lab : LabIn r
  sch : ∀ w : Nat, (w : Int) < g.N → bitAt r.Next.Bits w = true ∨ Fix g r w

theorem rf_iter {g : GraphD} {r : RunD} (ho : riOk g r = true) (h : RunFix g r) : RunFix g (riR g r) := by
  obtain ⟨h1, _, _⟩ := riOk_out ho
  obtain ⟨hin, _, _⟩ := runOk_in h1
  obtain ⟨⟨g1, _, _⟩, _⟩ := graphOk_out hin.go
  have h0 := it0_in hin
  have hs : Sched g (it0 g r).1 (it0 g r).2 0 := fun w hw => by
    rcases h.sch w hw with h2 | h2
    · exact .inl ⟨Nat.zero_le _, h2⟩
    · exact .inr (.inr h2)
  obtain ⟨a1, a2⟩ := sched_to h0 h.lab hs g.N.toNat (by omega)
  unfold riR
  rw [if_pos ho]
  refine ⟨a1, fun w hw => ?_⟩
  rcases a2 w hw with ⟨h3, _⟩ | h3 | h3
  · omega
  · exact .inl h3
  · exact .inr h3

theorem rf_to {g : GraphD} {r : RunD} (h : RunFix g r) : ∀ k, RunFix g (raTo g r k)
  | 0 => h
  | k + 1 => by
    have ih := rf_to h k
    cases ho : riOk g (raTo g r k) with
    | true => rw [raTo_yes ho]; exact rf_iter ho ih
    | false => rw [raTo_no ho 1]; exact ih

theorem empty_bit {l : List UInt8} (h : emptyL l = true) (v : Nat) : bitAt l v = false := by
  unfold bitAt
  rw [decide_eq_false_iff_not]
  have : (l.getD (v / 8) 0).toNat = 0 := by
    by_cases hv : v / 8 < l.length
    · have hd : l.getD (v / 8) 0 = l[v / 8] := getD_of (List.getElem?_eq_getElem hv)
      have := List.all_eq_true.1 h l[v / 8] (List.getElem_mem hv)
      simp only [zeroB, decide_eq_true_eq] at this
      rw [hd]; exact this
    · have hd : l.getD (v / 8) 0 = 0 := by simp [List.getD, List.getElem?_eq_none (by omega : l.length ≤ v / 8)]
      rw [hd]; rfl
  rw [this]
  simp

theorem full_empty {n : Nat} (hn : n ≤ 150) (h : 0 < n) : emptyL (fullTo n n) = false := by
  cases he : emptyL (fullTo n n) with
  | false => rfl
  | true =>
    have h1 := empty_bit he 0
    rw [fullTo_bit n n (Nat.le_refl _)] at h1
    simp at h1
    omega

theorem zero_empty (n : Nat) : emptyL (fullTo n 0) = true := by
  unfold emptyL fullTo
  rw [List.all_eq_true]
  intro x hx
  rw [List.mem_replicate] at hx
  rw [hx.2]
  rfl

/-- The run with all vertices on the list. -/
def allR (g : GraphD) (r : RunD) : RunD := ⟨r.Job, r.Iter, false, r.Vals, r.EVals, ⟨g.N, fullTo g.N.toNat g.N.toNat⟩⟩

theorem fix_to {g : GraphD} {p : RunD × List UInt8} (h : ∀ w : Nat, (w : Int) < g.N → Fix g p.1 w) : ∀ k : Nat, (k : Int) ≤ g.N → itTo g p k = p
  | 0, _ => rfl
  | k + 1, hk => by
    have ih := fix_to h k (by omega)
    show itStep g (itTo g p k) k = p
    rw [ih]
    unfold itStep
    split
    · obtain ⟨e1, e2⟩ := fix_run (nw := p.2) (h k (by omega))
      rw [e1, e2]
    · rfl

theorem fix_law {g : GraphD} {r : RunD} (hin : RunIn g r) (hn : 0 < g.N) (hi : 0 ≤ r.Iter ∧ r.Iter < 1000) (h : RunFix g r) (he : emptyL r.Next.Bits = true) :
    riOk g (allR g r) = true ∧ riR g (allR g r) = ⟨r.Job, r.Iter + 1, true, r.Vals, r.EVals, ⟨g.N, fullTo g.N.toNat 0⟩⟩ := by
  obtain ⟨⟨g1, g2, _⟩, _⟩ := graphOk_out hin.go
  have hfull : setOk g.N (fullTo g.N.toNat g.N.toNat) = true := by
    have := fullTo_ok g.N.toNat g.N.toNat (by omega) (Nat.le_refl _)
    rwa [show ((g.N.toNat : Nat) : Int) = g.N by omega] at this
  have hok : runOk g (allR g r) = true := by
    refine RunIn.ok ⟨hin.go, hin.jo, hin.vl, hin.el, hin.vo, hin.eo, hfull, rfl⟩ ⟨hi.1, by show r.Iter ≤ 1000; omega⟩ ?_
    exact (full_empty (by omega) (by omega)).symm
  have hri : riOk g (allR g r) = true := by
    unfold riOk
    rw [hok]
    show (true && !false && decide (r.Iter < 1000)) = true
    simpa using hi.2
  refine ⟨hri, ?_⟩
  have hfix : ∀ w : Nat, (w : Int) < g.N → Fix g (it0 g (allR g r)).1 w := fun w hw => by
    rcases h.sch w hw with h1 | h1
    · rw [empty_bit he] at h1; cases h1
    · exact h1
  have e := fix_to hfix g.N.toNat (by omega)
  unfold riR
  rw [if_pos hri]
  unfold itEnd
  rw [e]
  show RunD.mk _ _ _ _ _ _ = _
  simp only [it0, allR, zero_empty]

/-! Runs that begin. -/

theorem full_bit {n : Int} {w : Nat} (h : 0 ≤ n ∧ n ≤ 150) (hw : (w : Int) < n) : bitAt (newL n true) w = true := by
  obtain ⟨m, rfl⟩ := Int.eq_ofNat_of_zero_le h.1
  rw [newL_in (by omega)]
  simp only [if_true]
  rw [fullTo_bit m m (Nat.le_refl _)]
  simp
  omega

end Go.Proofs.Ytageceacjmmmdaa
