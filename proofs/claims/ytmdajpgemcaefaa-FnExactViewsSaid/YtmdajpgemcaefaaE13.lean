/-
  The engine, thirteenth part: calls do what is told of them. No conditions of its own.
-/
import Derived.Test.YtmdajpgemcaefaaE12
namespace Go.Proofs.Ytmdajpgemcaefaa
set_option linter.unusedSimpArgs false
set_option linter.unusedVariables false
open Go.RowKit

def preOK (H : Heap) (π : Nat → Vw) (n0 i : Nat) (blk : Blk) : Prop :=
  match π i, blk with
  | .ro g b m, .ro es => ∃ es', ((∃ T, hget H g = some (.row T es')) ∨ hget H g = some (.ro es')) ∧ es = (es'.drop b).take m ∧ es.length = m
  | .same g, blk => hget H g = some (blk.map (mcv π)) ∧ blk.own = true ∧ wfb (wfc π n0) blk
  | .emp _, .ro es => es = []
  | _, _ => False

structure Fits (H : Heap) (c : Con) (π : Nat → Vw) : Prop where
  args : ∀ x ∈ c.args, wfs (wfc π c.n0) x
  pre : ∀ i blk, hget c.pre i = some blk → i < c.n0 ∧ preOK H π c.n0 i blk
  uniq : ∀ i j g, i < c.n0 → j < c.n0 → i ≠ j → π i = .same g → (π j).blk ≠ some g
  dom : ∀ i g, i < c.n0 → (π i).blk = some g → ∃ blk, hget H g = some blk
  own : ∀ f b, (f, some b) ∈ c.wr → b.own = true
  len : c.n0 ≤ c.n

def rid (π : Nat → Vw) (n0 nx i : Nat) : Nat := if i < n0 then (match π i with | .same g => g | _ => 0) else nx + (i - n0)

def Con.effAt (c : Con) (π : Nat → Vw) (nx : Nat) : Eff :=
  ⟨c.r.map (rcv π c.n0 nx), (List.range c.n0).filterMap fun i => (π i).blk, c.wr.map fun p => (rid π c.n0 nx p.1, p.2.map (Blk.map (rcv π c.n0 nx))), nx + (c.n - c.n0)⟩

/-- The function can be called: it has a text. -/
def Callable (P : Program) (f : FuncId) : Prop := ∃ fn, P.funcs[f]? = some fn ∧ (fn.name == "runtime.NumGoroutine") = false ∧ fn.body.isNone = false

/-- The contract's effect at a call. -/
theorem ro_part {V : Nat → Prop} {ρ : Nat → At} {w : World} {g b m : Nat} {es es' : List (List DC)} (h : (∃ T, Holds V ρ w (ρ g) (.row T es')) ∨ Holds V ρ w (ρ g) (.ro es')) (he : es = (es'.drop b).take m) (hl : es.length = m)
    (V' : Nat → Prop) (ρ' : Nat → At) : Holds V' ρ' w (vwAt ρ (.ro g b m)) (.ro es) := by
  have idx : ∀ i e, es[i]? = some e → es'[b + i]? = some e := by
    intro i e hi
    have hlt : i < m := by rw [← hl]; exact (List.getElem?_eq_some_iff.1 hi).1
    rw [he, List.getElem?_take, if_pos hlt, List.getElem?_drop] at hi
    exact hi
  have hmem : ∀ e ∈ es, e ∈ es' := fun e hee => by rw [he] at hee; exact List.mem_of_mem_drop (List.mem_of_mem_take hee)
  rcases h with ⟨T, ⟨hoff, hex⟩, hcm, hle, hss, hflat, hn, hrow⟩ | ⟨hcm, hle, hss, hne, hcell⟩
  · have hml : m ≤ es'.length := by rw [← hl, he]; simp; omega
    refine ⟨by simp only [vwAt]; omega, by simp only [vwAt]; omega, fun e hee => hss e (hmem e hee), fun hn0 => ?_, fun i e j c bb hi hj hb => ?_⟩
    · cases hp : (ρ g).adr with
      | none =>
        have h0 := hn hp
        exfalso
        apply hn0
        have : es' = [] := List.eq_nil_of_length_eq_zero (by omega)
        rw [he, this]; simp
      | some bb => exact ⟨bb, hp, (hrow bb hp).1⟩
    · obtain ⟨hF, cur, q1, q2, q3⟩ := hrow bb hb
      have hi' := idx i e hi
      obtain ⟨hbi, hbe⟩ := List.getElem?_eq_some_iff.1 hi'
      obtain ⟨x, rfl, hx⟩ := hflat e (List.mem_of_getElem? hi') c (List.mem_of_getElem? hj)
      have := row_cells (w := w) (p := ρ g) q1 q3 hss hbi j x (by rw [hbe, List.getElem?_map, hj]; rfl)
      refine ⟨x, ?_, .v hx⟩
      simp only [vwAt, hoff]
      rw [← this]; congr 2
      rw [Nat.add_mul]; omega
  · have hml : m ≤ es'.length := by rw [← hl, he]; simp; omega
    refine ⟨by simp only [vwAt]; omega, by simp only [vwAt]; omega, fun e hee => hss e (hmem e hee), fun hn0 => ?_, fun i e j c bb hi hj hb => ?_⟩
    · refine hne fun e0 => hn0 ?_
      rw [he, e0]; simp
    · obtain ⟨u, q1, q2⟩ := hcell (b + i) e j c bb (idx i e hi) hj hb
      refine ⟨u, ?_, q2⟩
      simp only [vwAt]
      rw [← q1]; congr 2
      rw [Nat.add_mul]; omega

theorem pre_mem {V : Nat → Prop} {ρ : Nat → At} {H : Heap} {w : World} {c : Con} {π : Nat → Vw} (hf : Fits H c π) (hm : Mem V ρ (looked H ((List.range c.n0).filterMap fun i => (π i).blk)) w) :
    Mem (· < c.n0) (fun i => vwAt ρ (π i)) (hget c.pre) w := by
  have look : ∀ i g b, i < c.n0 → (π i).blk = some g → hget H g = some b → looked H ((List.range c.n0).filterMap fun i => (π i).blk) g = some b := fun i g b hi hg hb =>
    looked_get (List.mem_filterMap.2 ⟨i, List.mem_range.2 hi, hg⟩) hb
  constructor
  · intro i blk hb
    obtain ⟨hi, hp⟩ := hf.pre i blk hb
    refine ⟨hi, ?_⟩
    show Holds _ _ w (vwAt ρ (π i)) blk ∧ ∀ b, (vwAt ρ (π i)).F b → _
    unfold preOK at hp
    cases hv : π i with
    | ro g b m =>
      have hbk : (π i).blk = some g := by rw [hv]; rfl
      cases blk with
      | box T cs => simp [hv] at hp
      | row T es => simp [hv] at hp
      | ro es =>
        rw [hv] at hp
        obtain ⟨es', h1, h2, h3⟩ := hp
        rcases h1 with ⟨T, h1⟩ | h1
        · obtain ⟨_, q1, q2⟩ := hm.dom g _ (look i g _ hi hbk h1)
          exact ⟨ro_part (.inl ⟨T, q1⟩) h2 h3 _ _, fun b' hb' => q2 b' hb'⟩
        · obtain ⟨_, q1, q2⟩ := hm.dom g _ (look i g _ hi hbk h1)
          exact ⟨ro_part (.inr q1) h2 h3 _ _, fun b' hb' => q2 b' hb'⟩
    | same g =>
      have hbk : (π i).blk = some g := by rw [hv]; rfl
      have hp' : hget H g = some (blk.map (mcv π)) ∧ blk.own = true ∧ wfb (wfc π c.n0) blk := by
        rw [hv] at hp; exact hp
      obtain ⟨h1, h2, h3⟩ := hp'
      obtain ⟨_, q1, q2⟩ := hm.dom g _ (look i g _ hi hbk h1)
      refine ⟨?_, fun b' hb' => q2 b' hb'⟩
      cases blk with
      | box T cs =>
        obtain ⟨r0, b, vs, r1, r2, r3, r4⟩ := q1
        exact ⟨r0, b, vs, r1, r2, r3, r4.of_map fun x hx u hu => mcv_r (h3 x hx) hu⟩
      | row T es => exact q1
      | ro es => cases h2
    | emp s =>
      cases blk with
      | box T cs => simp [hv] at hp
      | row T es => simp [hv] at hp
      | ro es =>
        rw [hv] at hp
        have hp' : es = [] := hp
        subst hp'
        exact ⟨⟨Nat.zero_le _, Nat.zero_le _, fun e he => (by cases he), fun h => absurd rfl h, fun i e j c b hi => (by simp at hi)⟩, fun b hb => hb.elim⟩
  · intro i j blk blk' hne hb ho hb' b hF hF'
    obtain ⟨hi, hp⟩ := hf.pre i blk hb
    obtain ⟨hj, _⟩ := hf.pre j blk' hb'
    have hF : (vwAt ρ (π i)).F b := hF
    have hF' : (vwAt ρ (π j)).F b := hF'
    unfold preOK at hp
    cases hv : π i with
    | ro g b m =>
      cases blk with
      | box T cs => simp [hv] at hp
      | row T es => simp [hv] at hp
      | ro es => cases ho
    | emp s =>
      cases blk with
      | box T cs => simp [hv] at hp
      | row T es => simp [hv] at hp
      | ro es => cases ho
    | same g =>
      have hp' : hget H g = some (blk.map (mcv π)) ∧ blk.own = true ∧ wfb (wfc π c.n0) blk := by
        rw [hv] at hp; exact hp
      obtain ⟨h1, h2, h3⟩ := hp'
      have hbk : (π i).blk = some g := by rw [hv]; rfl
      rw [hv] at hF
      have hu := hf.uniq i j g hi hj hne hv
      cases hπ : π j with
      | emp s => rw [hπ] at hF'; exact hF'.elim
      | ro g' b' m' =>
        have hbk' : (π j).blk = some g' := by rw [hπ]; rfl
        obtain ⟨blk2, hb2⟩ := hf.dom j g' hj hbk'
        rw [hπ] at hF'
        exact hm.sep g g' _ blk2 (fun e => hu (by rw [hbk', e])) (look i g _ hi hbk h1) (by rw [Blk.own_map]; exact h2) (look j g' _ hj hbk' hb2) b hF hF'
      | same g' =>
        have hbk' : (π j).blk = some g' := by rw [hπ]; rfl
        obtain ⟨blk2, hb2⟩ := hf.dom j g' hj hbk'
        rw [hπ] at hF'
        exact hm.sep g g' _ blk2 (fun e => hu (by rw [hbk', e])) (look i g _ hi hbk h1) (by rw [Blk.own_map]; exact h2) (look j g' _ hj hbk' hb2) b hF hF'

theorem wr_same {H : Heap} {c : Con} {π : Nat → Vw} (hf : Fits H c π) (hfit : Fit c.pre c.n0 c.eff) {i : Nat} {b : Option Blk} (h : (i, b) ∈ c.wr) (hi : i < c.n0) : ∃ g blk, π i = .same g ∧ hget H g = some blk ∧ blk.own = true := by
  obtain ⟨_, blk, hb, ho⟩ := (hfit.key i b h).2 hi
  obtain ⟨_, hp⟩ := hf.pre i blk hb
  unfold preOK at hp
  cases hv : π i with
  | ro g b' m =>
    cases blk with
    | box T cs => simp [hv] at hp
    | row T es => simp [hv] at hp
    | ro es => cases ho
  | emp s =>
    cases blk with
    | box T cs => simp [hv] at hp
    | row T es => simp [hv] at hp
    | ro es => cases ho
  | same g =>
    have hp' : hget H g = some (blk.map (mcv π)) ∧ blk.own = true ∧ wfb (wfc π c.n0) blk := by
      rw [hv] at hp; exact hp
    exact ⟨g, _, rfl, hp'.1, by rw [Blk.own_map]; exact hp'.2.1⟩

theorem hget_map_inv (r : Nat → Nat) (g : Blk → Blk) : ∀ (l : Heap) (f : Nat) (blk : Blk), hget (l.map fun p => (r p.1, p.2.map g)) f = some blk → ∃ i b, (i, some b) ∈ l ∧ r i = f ∧ blk = g b
  | [], f, blk, h => by simp [hget] at h
  | (j, b) :: l, f, blk, h => by
    simp only [List.map_cons, hget] at h
    split at h
    · rename_i e
      obtain ⟨b', h1, h2⟩ := Option.map_eq_some_iff.1 h
      exact ⟨j, b', by simp [h1], e.symm, h2.symm⟩
    · obtain ⟨i, b', h1, h2⟩ := hget_map_inv r g l f blk h
      exact ⟨i, b', by simp [h1], h2⟩

theorem hget_of_mem : ∀ {l : Heap} {f : Nat} {x : Option Blk}, (l.map (·.1)).Nodup → (f, x) ∈ l → hget l f = x
  | (g, y) :: l, f, x, hn, h => by
    simp only [List.map_cons, List.nodup_cons] at hn
    simp only [List.mem_cons, Prod.mk.injEq] at h
    simp only [hget]
    rcases h with ⟨rfl, rfl⟩ | h
    · simp
    · rw [if_neg (fun e => hn.1 (by subst e; exact List.mem_map.2 ⟨_, h, rfl⟩))]
      exact hget_of_mem hn.2 h

end Go.Proofs.Ytmdajpgemcaefaa
