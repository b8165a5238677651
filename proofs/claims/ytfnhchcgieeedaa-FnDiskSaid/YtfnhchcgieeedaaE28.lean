/-
  The engine, twenty-eighth part: a map of the call's own from texts to rows of bytes. No conditions of its own.
-/
import Derived.Test.YtfnhchcgieeedaaMC
import Derived.Maps.Range
import Derived.Sort.MapsRangeIn
import Derived.StringKeys
namespace Go.Proofs.Ytfnhchcgieeedaa
set_option linter.unusedSimpArgs false
set_option linter.unusedVariables false
set_option linter.unusedSimpArgs false
set_option linter.unusedVariables false
set_option linter.defProp false
open Go.RowKit Go.Maps

/-- A file: its name, its bytes. -/
structure FileD where
  Name : List UInt8
  Data : List UInt8

abbrev strL (s : List UInt8) : Lit := .string s
def heldR (v : Value) : Option (DataW Value × List MemPlace) := some (.held v, [])

/-- The bytes under a name. -/
def lkF (M : List FileD) (s : List UInt8) : Option (List UInt8) := (M.find? fun f => decide (f.Name = s)).map FileD.Data

def IsPut (M : List FileD) (s d : List UInt8) (M' : List FileD) : Prop := (∀ x, lkF M' x = if x = s then some d else lkF M x) ∧ M'.length = if (lkF M s).isSome then M.length else M.length + 1
def IsDel (M : List FileD) (s : List UInt8) (M' : List FileD) : Prop := (∀ x, lkF M' x = if x = s then none else lkF M x) ∧ M'.length + (if (lkF M s).isSome then 1 else 0) = M.length

/-- What is known of the types: a map from texts to slices. -/
structure MS (P : Program) (t k e : TypeId) : Prop where
  ht : P.underlying t = some (.map k e)
  hk : P.underlying k = some .string
  hz : ∀ w, (zeroValue e).run P w = .ok (.slice none 0 0) w

theorem MS.key {P : Program} {t k e : TypeId} (h : MS P t k e) : Keyed P k := string_keyed h.hk

/-- The map reads as these files. -/
def ReadsF (w : World) (F : Nat → Prop) (T : Nat) (D : DataW Value) (M : List FileD) : Prop :=
  Tidy D ∧ Maps.size D = M.length ∧ (∀ s, lkF M s = none → has D (strL s) = false) ∧ ∀ s d, lkF M s = some d → has D (strL s) = true ∧ ∃ v, (∀ z, D.atKey (strL s) z = .held v) ∧ Rd w F (.sl T 1 (d.map bytK)) v

theorem ReadsF.keep {w w' : World} {F F' : Nat → Prop} {T : Nat} {D : DataW Value} {M : List FileD} (h : ReadsF w F T D M) (hF : ∀ b, F b → F' b ∧ w'.heap[b]? = w.heap[b]?) : ReadsF w' F' T D M := by
  obtain ⟨h1, h2, h3, h4⟩ := h
  refine ⟨h1, h2, h3, fun s d hs => ?_⟩
  obtain ⟨a, v, h5, h6⟩ := h4 s d hs
  exact ⟨a, v, h5, h6.keep hF⟩

theorem ReadsF.nil (w : World) (F : Nat → Prop) (T : Nat) : ReadsF w F T (.map []) [] := ⟨tidy_empty, rfl, fun _ _ => rfl, fun s d h => by simp [lkF] at h⟩

theorem ReadsF.put {w : World} {F : Nat → Prop} {T : Nat} {D : DataW Value} {M M' : List FileD} {s d : List UInt8} {v : Value} (h : ReadsF w F T D M) (hp : IsPut M s d M') (hv : Rd w F (.sl T 1 (d.map bytK)) v) : ReadsF w F T (D.put (strL s) (.held v)) M' := by
  obtain ⟨h1, h2, h3, h4⟩ := h
  obtain ⟨p1, p2⟩ := hp
  have hk : WideAt.IsKeyLit (strL s) := trivial
  have hh : has D (strL s) = (lkF M s).isSome := by
    cases e : lkF M s with
    | none => exact h3 s e
    | some d' => exact (h4 s d' e).1
  refine ⟨h1.put hk _, ?_, fun x hx => ?_, fun x d' hx => ?_⟩
  · rw [size_put h1, hh, h2, p2]
  · rw [p1] at hx
    split at hx
    · cases hx
    · rename_i hne
      rw [has_put_other (by intro e; apply hne; simpa [strL] using e)]
      exact h3 x hx
  · rw [p1] at hx
    split at hx
    · rename_i e; subst e; cases hx
      exact ⟨has_put_same h1.isMap hk _, v, fun z => atKey_put_same h1.isMap hk _ z, hv⟩
    · rename_i hne
      have hne' : strL x ≠ strL s := by intro e; apply hne; simpa [strL] using e
      obtain ⟨a, v', h5, h6⟩ := h4 x d' hx
      exact ⟨by rw [has_put_other hne']; exact a, v', fun z => by rw [atKey_put_other hne']; exact h5 z, h6⟩

theorem ReadsF.del {w : World} {F : Nat → Prop} {T : Nat} {D : DataW Value} {M M' : List FileD} {s : List UInt8} (h : ReadsF w F T D M) (hp : IsDel M s M') : ReadsF w F T (D.del (strL s)) M' := by
  obtain ⟨h1, h2, h3, h4⟩ := h
  obtain ⟨p1, p2⟩ := hp
  have hh : has D (strL s) = (lkF M s).isSome := by
    cases e : lkF M s with
    | none => exact h3 s e
    | some d' => exact (h4 s d' e).1
  refine ⟨h1.del _, ?_, fun x hx => ?_, fun x d' hx => ?_⟩
  · have := size_del (k := strL s) h1
    rw [hh, h2] at this
    omega
  · by_cases hne : x = s
    · subst hne; exact has_del_same
    · rw [p1, if_neg hne] at hx
      rw [has_del_other (by intro e; apply hne; simpa [strL] using e)]
      exact h3 x hx
  · rw [p1] at hx
    split at hx
    · cases hx
    · rename_i hne
      have hne' : strL x ≠ strL s := by intro e; apply hne; simpa [strL] using e
      obtain ⟨a, v', h5, h6⟩ := h4 x d' hx
      exact ⟨by rw [has_del_other hne']; exact a, v', fun z => by rw [atKey_del_other hne']; exact h5 z, h6⟩

def mapS (P : Program) (k : TypeId) (T b : Nat) (M : List FileD) (F : Nat → Prop) (w : World) : Prop := ∃ D, w.ownsMap P k heldR b M.length D ∧ ReadsF w F T D M

def rangeS (P : Program) (k : TypeId) (T b r : Nat) (M : List FileD) (left : List UInt8 → Bool) (cnt : Nat) (F : Nat → Prop) (w : World) : Prop :=
  ∃ (D : DataW Value) (L : Lit → Bool), w.ranges P k heldR b r M.length D L cnt ∧ ReadsF w F T D M ∧ ∀ s, L (strL s) = left s

def entryS (P : Program) (k : TypeId) (T b r : Nat) (M : List FileD) (left : List UInt8 → Bool) (cnt : Nat) (s d : List UInt8) (F : Nat → Prop) (w : World) : Prop :=
  rangeS P k T b r M left cnt F w ∧ ∃ v, (Instr.entry (.pointer (some ⟨r, 0, none⟩))).run P w = .ok (.tuple #[.string (txt s), v]) w ∧ Rd w F (.sl T 1 (d.map bytK)) v

section
variable {P : Program} {k : TypeId} {T b r cnt : Nat} {M : List FileD} {left : List UInt8 → Bool} {s d : List UInt8} {w w' : World} {F F' : Nat → Prop}

theorem ownsMap_atS {R : Value → Option (DataW Value × List MemPlace)} {n : Nat} {D : DataW Value} (h : w.ownsMap P k R b n D) (hb : w'.heap[b]? = w.heap[b]?) : w'.ownsMap P k R b n D := by
  obtain ⟨es, clock, h1, r⟩ := h
  exact ⟨es, clock, by rw [hb]; exact h1, r⟩
theorem ranges_atS {R : Value → Option (DataW Value × List MemPlace)} {n : Nat} {D : DataW Value} {L : Lit → Bool} (h : w.ranges P k R b r n D L cnt) (hb : w'.heap[b]? = w.heap[b]?) (hr : w'.heap[r]? = w.heap[r]?) : w'.ranges P k R b r n D L cnt := by
  obtain ⟨es, clock, since, seen, c0, h1, h2, h3, h4, h5, h6⟩ := h
  exact ⟨es, clock, since, seen, c0, by rw [hb]; exact h1, h2, h3, h4, by rw [hr]; exact h5, h6⟩
theorem ownsMap_tight {R : Value → Option (DataW Value × List MemPlace)} {n : Nat} {D : DataW Value} (h : w.ownsMap P k R b n D) : w.ownsMap P k R b (Maps.size D) D := by
  obtain ⟨es, clock, h1, h2, h3, rfl⟩ := h
  exact ⟨es, clock, h1, h2, by simp [Maps.size, length_sorted], rfl⟩

theorem mapS.keep (h : mapS P k T b M F w) (hb : w'.heap[b]? = w.heap[b]?) (hF : ∀ c, F c → F' c ∧ w'.heap[c]? = w.heap[c]?) : mapS P k T b M F' w' := by
  obtain ⟨D, h1, h2⟩ := h
  exact ⟨D, ownsMap_atS h1 hb, h2.keep hF⟩
theorem rangeS.keep (h : rangeS P k T b r M left cnt F w) (hb : w'.heap[b]? = w.heap[b]?) (hr : w'.heap[r]? = w.heap[r]?) (hF : ∀ c, F c → F' c ∧ w'.heap[c]? = w.heap[c]?) : rangeS P k T b r M left cnt F' w' := by
  obtain ⟨D, L, h1, h2, h3⟩ := h
  exact ⟨D, L, ranges_atS h1 hb hr, h2.keep hF, h3⟩
theorem entry_keepS {u : Value} (h : rangeS P k T b r M left cnt F w) (hb : w'.heap[b]? = w.heap[b]?) (hr : w'.heap[r]? = w.heap[r]?) (he : (Instr.entry (.pointer (some ⟨r, 0, none⟩))).run P w = .ok u w) : (Instr.entry (.pointer (some ⟨r, 0, none⟩))).run P w' = .ok u w' := by
  obtain ⟨D, L, ⟨es, clock, since, seen, c0, q1, _, _, _, q5, _⟩, _⟩ := h
  rw [q1] at hb
  rw [q5] at hr
  simp only [Instr.entry, getObj, Sem.run_bind, Sem.run, q1, q5, hb, hr, Result.andThen] at he ⊢
  cases hs : seen.back? with
  | none => rw [hs] at he; cases he
  | some stamp =>
    rw [hs] at he
    simp only [getObj, Sem.run_bind, Sem.run, q1, hb, Result.andThen] at he ⊢
    by_cases hc : (clock != c0) = true
    · rw [if_pos hc] at he
      cases he
    · rw [if_neg hc] at he ⊢
      cases hf : es.find? (·.born == stamp) with
      | none => rw [hf] at he; cases he
      | some x => rw [hf] at he; cases he; rfl
theorem entryS.keep (h : entryS P k T b r M left cnt s d F w) (hb : w'.heap[b]? = w.heap[b]?) (hr : w'.heap[r]? = w.heap[r]?) (hF : ∀ c, F c → F' c ∧ w'.heap[c]? = w.heap[c]?) : entryS P k T b r M left cnt s d F' w' := by
  obtain ⟨h1, v, he, hv⟩ := h
  exact ⟨h1.keep hb hr hF, v, entry_keepS h1 hb hr he, hv.keep hF⟩
theorem mapS.lt (h : mapS P k T b M F w) : b < w.heap.size := by
  obtain ⟨D, h1, _⟩ := h
  exact h1.lt
end

section
variable {V : Nat → Prop} {ρ : Nat → At} {H : Heap} {nx : Nat} {w w' : World}

theorem Done.newgx {x : Value} (hx : x.oneCell' = true) {S : List Nat} {φ : (Nat → Prop) → World → Prop} (hφ : φ (fun k => k ∈ S ∧ k ∉ S) w') (hst : ∀ w'', (∀ b ∈ S, w''.heap[b]? = w'.heap[b]?) → φ (fun k => k ∈ S ∧ k ∉ S) w'')
    (hS : ∀ b ∈ S, w.heap.size ≤ b ∧ b < w'.heap.size) (os : w'.os = w.os) (tape : w'.tape = w.tape) (output : w'.output = w.output) (size : w.heap.size ≤ w'.heap.size) (block : ∀ j, j < w.heap.size → w'.heap[j]? = w.heap[j]?) :
    Done V ρ H nx w ⟨.c (.v x), [], [(nx, some (.gx S φ))], nx + 1⟩ x (updA ρ nx ⟨none, 0, 0, 0, True, (· ∈ S)⟩) w' := by
  have key : ∀ f blk, hget [(nx, some (Blk.gx S φ))] f = some blk → f = nx ∧ blk = .gx S φ := by
    intro f blk h1
    simp only [hget] at h1
    split at h1
    · rename_i e; exact ⟨e, by cases h1; rfl⟩
    · cases h1
  refine ⟨same_of fun f hf => updA_same ρ nx _ hf, ⟨rfl, hx⟩, ⟨fun f blk hb => ?_, fun f f' blk blk' hne hb hb' => ?_⟩, fun f blk hb b hF => ?_, os, tape, output, size, fun j hj _ => block j hj⟩
  · obtain ⟨rfl, rfl⟩ := key f blk hb
    rw [updA_new]
    exact ⟨.inr ⟨Nat.le_refl _, Nat.lt_succ_self _⟩, ⟨fun b hb => hb, hφ, hst⟩, fun b hb => (hS b hb).2⟩
  · obtain ⟨rfl, _⟩ := key f blk hb
    obtain ⟨rfl, _⟩ := key f' blk' hb'
    exact absurd rfl hne
  · obtain ⟨rfl, rfl⟩ := key f blk hb
    rw [updA_new] at hF
    exact .inl (hS b hF).1

theorem Done.setgx {r : SV} {u : Value} (hr : SVr V ρ r u) {f : Nat} (hV : V f) (hf : f < nx) {S0 : List Nat} {φ0 : (Nat → Prop) → World → Prop} (hH : hget H f = some (.gx S0 φ0)) {rd ks : List Nat} {S : List Nat} {φ : (Nat → Prop) → World → Prop} {F' : Nat → Prop}
    (hφ : φ (fun k => F' k ∧ k ∉ S) w') (hst : ∀ w'', (∀ b, F' b → w''.heap[b]? = w'.heap[b]?) → φ (fun k => F' k ∧ k ∉ S) w'') (hS : ∀ b ∈ S, F' b) (hsz : ∀ b, F' b → b < w'.heap.size)
    (hfoot : ∀ b, F' b → w.heap.size ≤ b ∨ b ∈ S0 ∨ (∃ g ∈ ks, g < nx ∧ excH (hget H) ρ g b) ∨ (b ∉ S ∧ ∃ g ∈ rd, ∃ blk', hget H g = some blk' ∧ (ρ g).F b ∧ ¬ blk'.exc (ρ g) b))
    (os : w'.os = w.os) (tape : w'.tape = w.tape) (output : w'.output = w.output) (size : w.heap.size ≤ w'.heap.size)
    (block : ∀ j, j < w.heap.size → j ∉ S0 → w'.heap[j]? = w.heap[j]?) :
    Done V ρ H nx w ⟨r, rd, (f, some (.gx S φ)) :: noneB ks, nx⟩ u (updA ρ f { ρ f with F := F' }) w' := by
  have key : ∀ g blk, hget ((f, some (Blk.gx S φ)) :: noneB ks) g = some blk → g = f ∧ blk = .gx S φ := by
    intro g blk h1
    simp only [hget] at h1
    split at h1
    · rename_i e; exact ⟨e, by cases h1; rfl⟩
    · rw [hget_noneB] at h1; cases h1
  have up : ∀ g, (updA ρ f { ρ f with F := F' } g).nf = (ρ g).nf := fun g => by
    unfold updA
    split
    · rename_i e; subst e; rfl
    · rfl
  have upf : updA ρ f { ρ f with F := F' } f = { ρ f with F := F' } := by unfold updA; rw [if_pos rfl]
  refine ⟨fun g _ => ⟨up g, fun hn => ?_⟩, hr.mono fun g hg => ⟨.inl hg, up g⟩, ⟨fun g blk hb => ?_, fun g g' blk blk' hne hb hb' => ?_⟩, fun g blk hb b hF => ?_, os, tape, output, size, fun j hj hjn => block j hj fun hj0 => hjn f (some (.gx S φ)) (by simp) hf ⟨_, hH, hj0⟩⟩
  · unfold updA
    rw [if_neg]
    rintro rfl
    exact hn (by simp)
  · obtain ⟨rfl, rfl⟩ := key g blk hb
    rw [upf]
    exact ⟨.inl hV, ⟨hS, hφ, hst⟩, hsz⟩
  · obtain ⟨rfl, _⟩ := key g blk hb
    obtain ⟨rfl, _⟩ := key g' blk' hb'
    exact absurd rfl hne
  · obtain ⟨rfl, rfl⟩ := key g blk hb
    rw [upf] at hF
    rcases hfoot b hF with h | h | ⟨g2, h1, h2, h3⟩ | ⟨h1, h2⟩
    · exact .inl h
    · exact .inr (.inl ⟨g, some (.gx S φ), by simp, hf, _, hH, h⟩)
    · exact .inr (.inl ⟨g2, none, List.mem_cons_of_mem _ (List.mem_map.2 ⟨g2, h1, rfl⟩), h2, h3⟩)
    · exact .inr (.inr ⟨h1, h2⟩)

/-- A slice read out of a map's memory. -/
theorem Done.rdgx {f : Nat} {S : List Nat} {φ : (Nat → Prop) → World → Prop} (hH : hget H f = some (.gx S φ)) (hVn : ∀ g, nx ≤ g → g < nx + 1 → ¬ V g) (hsz : ∀ b, (ρ f).F b → b < w.heap.size) {T : Nat} {d : List UInt8} {v u : Value} (hv : Rd w (fun k => (ρ f).F k ∧ k ∉ S) (.sl T 1 (d.map bytK)) v)
    {r : SV} (hr : ∀ ρ', CVr (newV V nx (nx + 1)) ρ' (.sl nx 1 0 d.length) v → SVr (newV V nx (nx + 1)) ρ' r u) : ∃ ρ', Done V ρ H nx w ⟨r, [f], [(nx, some (.ro (d.map bytK)))], nx + 1⟩ u ρ' w := by
  obtain ⟨ρ', h1, h2, h3, h4⟩ := impC_ok (F := fun k => (ρ f).F k ∧ k ∉ S) (fun b hb => hsz b hb.1) [.sl T 1 (d.map bytK)] [v] nx ρ V ⟨hv, trivial⟩ (fun g hg h2 => hVn g hg (by simpa [impC] using h2))
  simp only [impC, List.length_map] at h1 h2 h3 h4
  refine ⟨ρ', same_of h1, hr ρ' h2.1, h3, fun g blk hb b hF => .inr (.inr ⟨exc_ro (h4 g blk hb).1, f, by simp, _, hH, ((h4 g blk hb).2 b hF).1, ((h4 g blk hb).2 b hF).2⟩), rfl, rfl, rfl, Nat.le_refl _, fun _ _ _ => rfl⟩
end

section
variable {P : Program} {t k e : TypeId} {T : Nat} {ck : Bool} {H : Heap} {nx : Nat} {KS : Eff → Prop} {ev : Operand → SV} {d : Option Tmp} {tt : TypeId} {pos : String} {af : Array Edge} {gu : Option (Nat × Bool)}

theorem fit_gx {f : Nat} {blk : Blk} {S : List Nat} {φ : (Nat → Prop) → World → Prop} (hf : f < nx) (hH : hget H f = some (.gx S φ)) (r : SV) : Fit H nx ⟨r, [f], [(f, some blk)], nx⟩ :=
  ⟨Nat.le_refl _, fun g hg => by simp at hg; subst hg; exact ⟨_, hH⟩, fun g b hb => by simp at hb; obtain ⟨rfl, rfl⟩ := hb; exact ⟨hf, fun _ => ⟨by simp, _, hH, rfl⟩⟩, by simp⟩

theorem fit_gx2 {f g : Nat} {blk blk' : Blk} {S : List Nat} {φ : (Nat → Prop) → World → Prop} {r : SV} (hf : f < nx) (hH : hget H f = some (.gx S φ)) (hG : hget H g = some blk') : Fit H nx ⟨r, [f, g], [(f, some blk)], nx⟩ := by
  refine ⟨Nat.le_refl _, fun c hc => ?_, fun c y hy => ?_, by simp⟩
  · simp at hc
    rcases hc with rfl | rfl
    · exact ⟨_, hH⟩
    · exact ⟨_, hG⟩
  · simp at hy
    obtain ⟨rfl, rfl⟩ := hy
    exact ⟨hf, fun _ => ⟨by simp, _, hH, rfl⟩⟩
theorem fit_gx3 {f g : Nat} {blk blk' : Blk} {S : List Nat} {φ : (Nat → Prop) → World → Prop} {r : SV} (hf : f < nx) (hg : g < nx) (hne : f ≠ g) (hH : hget H f = some (.gx S φ)) (hG : hget H g = some blk') (ho : blk'.own = true) : Fit H nx ⟨r, [f, g], [(f, some blk), (g, none)], nx⟩ := by
  refine ⟨Nat.le_refl _, fun c hc => ?_, fun c y hy => ?_, by simp [hne]⟩
  · simp at hc
    rcases hc with rfl | rfl
    · exact ⟨_, hH⟩
    · exact ⟨_, hG⟩
  · simp at hy
    rcases hy with ⟨rfl, rfl⟩ | ⟨rfl, rfl⟩
    · exact ⟨hf, fun _ => ⟨by simp, _, hH, rfl⟩⟩
    · exact ⟨hg, fun _ => ⟨by simp, _, hG, ho⟩⟩

theorem makeMap_s (h : ∀ b, KS ⟨.c (.v (.map (some b))), [], [(nx, some (.gx [b] (mapS P k T b [])))], nx + 1⟩) : escK P ⟨d, .makeMap t none, tt, pos, af, gu⟩ ev H nx KS := by
  refine ⟨Nat, fun b => ⟨.c (.v (.map (some b))), [], [(nx, some (.gx [b] (mapS P k T b [])))], nx + 1⟩, [], fun b => ⟨Nat.le_succ _, fun f h => (by cases h), fun f x hx => ?_, by simp⟩, ?_, h⟩
  · simp at hx
    obtain ⟨rfl, rfl⟩ := hx
    exact ⟨Nat.lt_succ_self _, fun h => absurd h (Nat.lt_irrefl _)⟩
  · intro V ρ a w K Q hV hev hm hK
    have hφ : ∀ F, mapS P k T w.heap.size [] F (w.alloc (.map #[] 0)) := fun F => ⟨.map [], World.ownsMap_made _ _ _ _, ReadsF.nil _ _ _⟩
    have hd : Done V ρ H nx w ⟨.c (.v (.map (some w.heap.size))), [], [(nx, some (.gx [w.heap.size] (mapS P k T w.heap.size [])))], nx + 1⟩ (.map (some w.heap.size)) _ (w.alloc (.map #[] 0)) :=
      Done.newgx rfl (hφ _) (fun w'' h => (hφ (fun _ => False)).keep (h _ (by simp)) fun c hc => hc.elim) (fun b hb => by simp at hb; subst hb; simp) rfl rfl rfl (by simp) fun j hj => Below.heap_alloc _ _ _ hj
    have := hK w.heap.size _ _ _ hd
    unfold Oper.wp
    simp [execOp, run_makeMap, Result.andThen]
    exact this

theorem key_txt (ms : MS P t k e) {s : List UInt8} (hs : s.length ≤ maxLen) : keyOf P k (.string (txt s)) = some (strL s) := by
  have := WideMaps.keyOf_string_mk (P := P) ms.hk (s := txt s) (by simpa [txt, ByteArray.size] using hs)
  simpa [txt] using this

/-- 'v, ok := m[k]', the key is there. -/
theorem look_y (ms : MS P t k e) {x y : Operand} {f b : Nat} {M : List FileD} {s q : List UInt8} (hx : ev x = .c (.v (.map (some b)))) (hy : ev y = .c (.v (.string (txt s)))) (hH : hget H f = some (.gx [b] (mapS P k T b M))) (hs : s.length ≤ maxLen) (hq : lkF M s = some q)
    (h : KS ⟨.tup [.inl (.sl nx 1 0 q.length), .inl (.v (.bool true))], [f], [(nx, some (.ro (q.map bytK)))], nx + 1⟩) : oneK P ⟨d, .lookup t x y true, tt, pos, af, gu⟩ ev H nx KS := by
  refine ⟨_, ⟨Nat.le_succ _, fun g hg => by simp at hg; subst hg; exact ⟨_, hH⟩, fun g z hz => ?_, by simp⟩, ?_, h⟩
  · simp at hz
    obtain ⟨rfl, rfl⟩ := hz
    exact ⟨Nat.lt_succ_self _, fun h => absurd h (Nat.lt_irrefl _)⟩
  intro V ρ ac w K Q hV hev hm hK
  obtain ⟨_, ⟨hS, ⟨D, hown, hrd⟩, _⟩, hsz⟩ := hm.dom f _ (looked_get (by simp) hH)
  have e1 := hev x
  have e2 := hev y
  rw [hx] at e1
  rw [hy] at e2
  obtain ⟨v, ps, hrun, hat⟩ := hown.look_ok ms.key ms.ht (ms.hz w) (zd := .held (.slice none 0 0)) rfl (key_txt ms hs)
  obtain ⟨h3, v', h5, h6⟩ := hrd.2.2.2 s q hq
  rw [h5] at hat
  obtain rfl : v = v' := (by simpa [heldR] using hat : v = v' ∧ ps = []).1
  rw [h3] at hrun
  obtain ⟨ρ', hd⟩ := Done.rdgx (r := .tup [.inl (.sl nx 1 0 q.length), .inl (.v (.bool true))]) (u := .tuple #[v, .bool true]) hH hV hsz h6 fun ρ' h => ⟨[v, .bool true], rfl, h, ⟨rfl, rfl⟩, trivial⟩
  have := hK _ ρ' w hd
  unfold Oper.wp
  simp [execOp, e1.1, e2.1, hrun, Result.andThen]
  exact this

/-- .. it is not. -/
theorem look_n (ms : MS P t k e) {x y : Operand} {f b : Nat} {M : List FileD} {s : List UInt8} (hx : ev x = .c (.v (.map (some b)))) (hy : ev y = .c (.v (.string (txt s)))) (hH : hget H f = some (.gx [b] (mapS P k T b M))) (hs : s.length ≤ maxLen) (hq : lkF M s = none)
    (h : KS ⟨.tup [.inl .nil, .inl (.v (.bool false))], [f], [], nx⟩) : oneK P ⟨d, .lookup t x y true, tt, pos, af, gu⟩ ev H nx KS := by
  refine ⟨_, fit_read hH, ?_, h⟩
  intro V ρ ac w K Q hV hev hm hK
  obtain ⟨_, ⟨hS, ⟨D, hown, hrd⟩, _⟩, hsz⟩ := hm.dom f _ (looked_get (by simp) hH)
  have e1 := hev x
  have e2 := hev y
  rw [hx] at e1
  rw [hy] at e2
  obtain ⟨v, ps, hrun, hat⟩ := hown.look_ok ms.key ms.ht (ms.hz w) (zd := .held (.slice none 0 0)) rfl (key_txt ms hs)
  have h3 := hrd.2.2.1 s hq
  rw [atKey_of_not_has h3] at hat
  obtain rfl : v = .slice none 0 0 := (by simpa [heldR] using hat : v = .slice none 0 0 ∧ ps = []).1
  rw [h3] at hrun
  have := hK (.tuple #[.slice none 0 0, .bool false]) _ _ (Done.read (r := .tup [.inl .nil, .inl (.v (.bool false))]) ⟨[.slice none 0 0, .bool false], rfl, rfl, ⟨rfl, rfl⟩, trivial⟩ [f])
  unfold Oper.wp
  simp [execOp, e1.1, e2.1, hrun, Result.andThen]
  exact this

/-- 'm[k]', the key is there. -/
theorem look_f (ms : MS P t k e) {x y : Operand} {f b : Nat} {M : List FileD} {s q : List UInt8} (hx : ev x = .c (.v (.map (some b)))) (hy : ev y = .c (.v (.string (txt s)))) (hH : hget H f = some (.gx [b] (mapS P k T b M))) (hs : s.length ≤ maxLen) (hq : lkF M s = some q)
    (h : KS ⟨.c (.sl nx 1 0 q.length), [f], [(nx, some (.ro (q.map bytK)))], nx + 1⟩) : oneK P ⟨d, .lookup t x y false, tt, pos, af, gu⟩ ev H nx KS := by
  refine ⟨_, ⟨Nat.le_succ _, fun g hg => by simp at hg; subst hg; exact ⟨_, hH⟩, fun g z hz => ?_, by simp⟩, ?_, h⟩
  · simp at hz
    obtain ⟨rfl, rfl⟩ := hz
    exact ⟨Nat.lt_succ_self _, fun h => absurd h (Nat.lt_irrefl _)⟩
  intro V ρ ac w K Q hV hev hm hK
  obtain ⟨_, ⟨hS, ⟨D, hown, hrd⟩, _⟩, hsz⟩ := hm.dom f _ (looked_get (by simp) hH)
  have e1 := hev x
  have e2 := hev y
  rw [hx] at e1
  rw [hy] at e2
  obtain ⟨v, ps, hrun, hat⟩ := hown.lookup ms.key ms.ht (ms.hz w) (zd := .held (.slice none 0 0)) rfl (key_txt ms hs)
  obtain ⟨h3, v', h5, h6⟩ := hrd.2.2.2 s q hq
  rw [h5] at hat
  obtain rfl : v = v' := (by simpa [heldR] using hat : v = v' ∧ ps = []).1
  obtain ⟨ρ', hd⟩ := Done.rdgx (r := .c (.sl nx 1 0 q.length)) (u := v) hH hV hsz h6 fun ρ' h => h
  have := hK _ ρ' w hd
  unfold Oper.wp
  simp [execOp, e1.1, e2.1, hrun, Result.andThen]
  exact this

theorem upd_core {ρ : Nat → At} {w : World} {f b : Nat} {M M' : List FileD} {s q : List UInt8} {v : Value} (ms : MS P t k e) (hsz : ∀ c, (ρ f).F c → c < w.heap.size) (h : mapS P k T b M (fun c => (ρ f).F c ∧ c ∉ [b]) w) (hp : IsPut M s q M') (hl : M.length < maxLen) (hs : s.length ≤ maxLen)
    {Fg : Nat → Prop} (hv : Rd w Fg (.sl T 1 (q.map bytK)) v) (hFg : ∀ c, Fg c → c < w.heap.size ∧ c ≠ b) :
    ∃ w', (Instr.mapUpdate t (.map (some b)) (.string (txt s)) v).run P w = .ok () w' ∧ w.grownBy w' (some b) ∧ mapS P k T b M' (fun c => ((ρ f).F c ∨ Fg c) ∧ c ∉ [b]) w' := by
  obtain ⟨D, hown, hrd⟩ := h
  obtain ⟨w', hrun, hown', hg⟩ := hown.update ms.key ms.ht hl (key_txt ms hs) (show heldR v = some (.held v, []) from rfl)
  have h1 : ReadsF w (fun c => ((ρ f).F c ∨ Fg c) ∧ c ∉ [b]) T D M := hrd.keep fun c hc => ⟨⟨.inl hc.1, hc.2⟩, rfl⟩
  have h2 := h1.put hp (hv.keep fun c hc => ⟨⟨.inr hc, by simpa using (hFg c hc).2⟩, rfl⟩)
  have h3 := ownsMap_tight hown'
  rw [h2.2.1] at h3
  refine ⟨w', hrun, hg, _, h3, h2.keep fun c hc => ⟨hc, hg.block c ?_ ?_⟩⟩
  · rcases hc.1 with h | h
    · exact hsz c h
    · exact (hFg c h).1
  · intro e
    cases e
    exact hc.2 (by simp)

theorem upd_done {V : Nat → Prop} {ρ : Nat → At} {w w' : World} {f b : Nat} {M0 M' : List FileD} {rd ks : List Nat} (hVf : V f) (hf : f < nx) (hH : hget H f = some (.gx [b] (mapS P k T b M0))) (hS : (ρ f).F b) (hsz : ∀ c, (ρ f).F c → c < w.heap.size) {Fg : Nat → Prop} (hFg : ∀ c, Fg c → c < w.heap.size ∧ c ≠ b)
    (hfd : f ∈ rd) (hft : ∀ c, Fg c → (∃ g ∈ ks, g < nx ∧ excH (hget H) ρ g c) ∨ ∃ g ∈ rd, ∃ blk', hget H g = some blk' ∧ (ρ g).F c ∧ ¬ blk'.exc (ρ g) c) (hg : w.grownBy w' (some b)) (hφ : mapS P k T b M' (fun c => ((ρ f).F c ∨ Fg c) ∧ c ∉ [b]) w') {u : Value} {r : SV} (hr : SVr V ρ r u) :
    Done V ρ H nx w ⟨r, rd, (f, some (.gx [b] (mapS P k T b M'))) :: noneB ks, nx⟩ u (updA ρ f { ρ f with F := fun c => (ρ f).F c ∨ Fg c }) w' := by
  refine Done.setgx hr hVf hf hH hφ (fun w'' h => hφ.keep (h b (.inl hS)) fun c hc => ⟨hc, h c hc.1⟩) (fun c hc => by simp at hc; subst hc; exact .inl hS) (fun c hc => Nat.lt_of_lt_of_le (hc.elim (hsz c) fun h => (hFg c h).1) hg.size) (fun c hc => ?_) hg.os hg.tape hg.output hg.size
    fun j hj hn => hg.block j hj fun e => by cases e; exact hn (by simp)
  by_cases hcb : c = b
  · subst hcb; exact .inr (.inl (by simp))
  · rcases hc with hc | hc
    · exact .inr (.inr (.inr ⟨by simpa using hcb, f, hfd, _, hH, hc, fun h => hcb (by simpa [Blk.exc] using h)⟩))
    · rcases hft c hc with h | h
      · exact .inr (.inr (.inl h))
      · exact .inr (.inr (.inr ⟨by simpa using hcb, h⟩))

/-- 'm[k] = nil'. -/
theorem upd_nil (ms : MS P t k e) {x y z : Operand} {f b : Nat} {M M' : List FileD} {s : List UInt8} (hx : ev x = .c (.v (.map (some b)))) (hy : ev y = .c (.v (.string (txt s)))) (hz : ev z = .c .nil) (hH : hget H f = some (.gx [b] (mapS P k T b M))) (hf : f < nx) (hp : IsPut M s [] M') (hl : M.length < maxLen) (hs : s.length ≤ maxLen)
    (h : KS ⟨.any, [f], [(f, some (.gx [b] (mapS P k T b M')))], nx⟩) : oneK P ⟨d, .mapUpdate t x y z, tt, pos, af, gu⟩ ev H nx KS := by
  refine ⟨_, fit_gx hf hH _, ?_, h⟩
  intro V ρ ac w K Q hV hev hm hK
  obtain ⟨hVf, ⟨hS, hφ, hst⟩, hsz⟩ := hm.dom f _ (looked_get (by simp) hH)
  have e1 := hev x
  have e2 := hev y
  have e3 : ac.eval z = .slice none 0 0 := by have := hev z; rw [hz] at this; exact this
  rw [hx] at e1
  rw [hy] at e2
  have hv : Rd w (fun _ => False) (.sl T 1 (List.map bytK [])) (.slice none 0 0) := .sl (fun _ _ => undef) (Nat.le_refl 0) (Nat.zero_le _) (fun _ => rfl) (fun e he => by simp at he) (fun h => absurd rfl h) (fun i e j c h => by simp at h)
  obtain ⟨w', hrun, hg, hφ'⟩ := upd_core (f := f) ms hsz hφ hp hl hs hv (fun c h => h.elim)
  have := hK undef _ w' (upd_done (ks := []) (r := .any) hVf hf hH (hS b (by simp)) hsz (fun c h => h.elim) (by simp) (fun c h => h.elim) hg hφ' trivial)
  unfold Oper.wp
  simp [execOp, e1.1, e2.1, e3, hrun, Result.andThen]
  exact this

/-- 'm[k] = v', v a slice of memory that is only read. -/
theorem upd_ro (ms : MS P t k e) {x y z : Operand} {f b g o n : Nat} {M M' : List FileD} {es : List (List DC)} {s q : List UInt8} (hx : ev x = .c (.v (.map (some b)))) (hy : ev y = .c (.v (.string (txt s)))) (hz : ev z = .c (.sl g 1 o n)) (hH : hget H f = some (.gx [b] (mapS P k T b M))) (hG : hget H g = some (.ro es))
    (hq : (es.drop o).take n = q.map bytK) (hle : o + n ≤ es.length) (hf : f < nx) (hp : IsPut M s q M') (hl : M.length < maxLen) (hs : s.length ≤ maxLen)
    (h : KS ⟨.any, [f, g], [(f, some (.gx [b] (mapS P k T b M')))], nx⟩) : oneK P ⟨d, .mapUpdate t x y z, tt, pos, af, gu⟩ ev H nx KS := by
  refine ⟨_, fit_gx2 hf hH hG, ?_, h⟩
  intro V ρ ac w K Q hV hev hm hK
  obtain ⟨hVf, ⟨hS, hφ, hst⟩, hsz⟩ := hm.dom f _ (looked_get (by simp) hH)
  obtain ⟨hVg, hro, hsg⟩ := hm.dom g _ (looked_get (by simp) hG)
  have hne : f ≠ g := by rintro rfl; rw [hH] at hG; cases hG
  have e1 := hev x
  have e2 := hev y
  have e3 := hev z
  rw [hx] at e1
  rw [hy] at e2
  rw [hz] at e3
  have hv := ro_rd (T := T) hro e3 hle
  rw [hq] at hv
  have hFg : ∀ c, (ρ g).F c → c < w.heap.size ∧ c ≠ b := fun c hc => ⟨hsg c hc, fun e => hm.sep f g _ _ hne (looked_get (by simp) hH) (looked_get (by simp) hG) b (by simp [Blk.exc]) (e ▸ hc)⟩
  obtain ⟨w', hrun, hg, hφ'⟩ := upd_core (f := f) ms hsz hφ hp hl hs hv hFg
  have := hK undef _ w' (upd_done (ks := []) (rd := [f, g]) (r := .any) hVf hf hH (hS b (by simp)) hsz hFg (by simp) (fun c h => .inr ⟨g, by simp, _, hG, h, id⟩) hg hφ' trivial)
  unfold Oper.wp
  simp [execOp, e1.1, e2.1, hrun, Result.andThen]
  exact this

/-- .. a row of the call's own, which is given up. -/
theorem upd_row (ms : MS P t k e) {x y z : Operand} {f b g T0 n : Nat} {M M' : List FileD} {s q : List UInt8} (hx : ev x = .c (.v (.map (some b)))) (hy : ev y = .c (.v (.string (txt s)))) (hz : ev z = .c (.sl g 1 0 n)) (hH : hget H f = some (.gx [b] (mapS P k T b M))) (hG : hget H g = some (.row T0 (q.map bytK)))
    (hn : n = q.length) (hf : f < nx) (hgx : g < nx) (hp : IsPut M s q M') (hl : M.length < maxLen) (hs : s.length ≤ maxLen)
    (h : KS ⟨.any, [f, g], [(f, some (.gx [b] (mapS P k T b M'))), (g, none)], nx⟩) : oneK P ⟨d, .mapUpdate t x y z, tt, pos, af, gu⟩ ev H nx KS := by
  have hne : f ≠ g := by rintro rfl; rw [hH] at hG; cases hG
  refine ⟨_, fit_gx3 hf hgx hne hH hG rfl, ?_, h⟩
  intro V ρ ac w K Q hV hev hm hK
  obtain ⟨hVf, ⟨hS, hφ, hst⟩, hsz⟩ := hm.dom f _ (looked_get (by simp) hH)
  obtain ⟨hVg, hro, hsg⟩ := hm.dom g _ (looked_get (by simp) hG)
  have e1 := hev x
  have e2 := hev y
  have e3 := hev z
  rw [hx] at e1
  rw [hy] at e2
  rw [hz] at e3
  have hpart := ro_part (V := V) (ρ := ρ) (w := w) (g := g) (b := 0) (m := n) (r := true) (es := q.map bytK) (es' := q.map bytK) (.inl ⟨T0, hro⟩) (by rw [List.drop_zero, hn, List.take_of_length_le (by simp)]) (by simp [hn]) V (updA ρ g (vwAt ρ (.ro g 0 n true)))
  have hug : updA ρ g (vwAt ρ (.ro g 0 n true)) g = vwAt ρ (.ro g 0 n true) := by unfold updA; rw [if_pos rfl]
  rw [← hug] at hpart
  have hc : CVr V (updA ρ g (vwAt ρ (.ro g 0 n true))) (.sl g 1 0 n) (ac.eval z) := by
    obtain ⟨q1, q2, a, cp, q3, q4, q5, q6, q7, q8⟩ := e3
    refine ⟨q1, by rw [hug]; exact q2, a, cp, q3, q4, q5, q6, fun _ hex => ?_, fun hpos => ?_⟩
    · rw [hug] at hex; exact hex.elim
    · obtain ⟨bb, r1, r2⟩ := q8 hpos
      exact ⟨bb, by rw [hug]; exact r1, by rw [hug, r2]; simp [vwAt]⟩
  have hv := ro_rd (T := T) hpart hc (by simp [hn])
  have hv : Rd w (ρ g).F (.sl T 1 (q.map bytK)) (ac.eval z) := by
    rw [hug] at hv
    simpa [hn, vwAt, List.take_of_length_le] using hv
  have hFg : ∀ c, (ρ g).F c → c < w.heap.size ∧ c ≠ b := fun c hc => ⟨hsg c hc, fun e => hm.sep f g _ _ hne (looked_get (by simp) hH) (looked_get (by simp) hG) b (by simp [Blk.exc]) (e ▸ hc)⟩
  obtain ⟨w', hrun, hg, hφ'⟩ := upd_core (f := f) ms hsz hφ hp hl hs hv hFg
  have := hK undef _ w' (upd_done (ks := [g]) (rd := [f, g]) (r := .any) hVf hf hH (hS b (by simp)) hsz hFg (by simp) (fun c h => .inl ⟨g, by simp, hgx, _, hG, h⟩) hg hφ' trivial)
  unfold Oper.wp
  simp [execOp, e1.1, e2.1, hrun, Result.andThen]
  exact this

/-- 'len(m)'. -/
theorem len_s (ms : MS P t k e) {x : Operand} {f b : Nat} {M : List FileD} (hx : ev x = .c (.v (.map (some b)))) (hH : hget H f = some (.gx [b] (mapS P k T b M))) (h : KS ⟨.c (.v (.int .i64 (M.length : Int))), [f], [], nx⟩) :
    oneK P ⟨d, .call ⟨.builtin .len, #[x], #[t]⟩, tt, pos, af, gu⟩ ev H nx KS := by
  refine ⟨_, fit_read hH, ?_, h⟩
  intro V ρ ac w K Q hV hev hm hK
  obtain ⟨_, ⟨hS, ⟨D, hown, hrd⟩, _⟩, hsz⟩ := hm.dom f _ (looked_get (by simp) hH)
  have e1 := hev x
  rw [hx] at e1
  have hrun := hown.len ms.ht tt
  rw [hrd.2.1] at hrun
  have := hK (.int .i64 (M.length : Int)) _ _ (Done.read (r := .c (.v (.int .i64 (M.length : Int)))) ⟨rfl, rfl⟩ [f])
  have hrun' : (execOp ac.eval ⟨d, .call ⟨.builtin .len, #[x], #[t]⟩, tt, pos, af, gu⟩).run P w = .ok (.value (.int .i64 (M.length : Int))) w := by
    unfold execOp
    simp only [resolve, invoke, builtin, Sem.run_bind, Sem.run_pure, Result.andThen_ok, List.map_toArray, List.map_cons, List.map_nil]
    rw [e1.1, hrun]
    rfl
  unfold Oper.wp
  rw [hrun']
  exact this

/-- 'delete(m, k)'. -/
theorem del_s (ms : MS P t k e) {x y : Operand} {f b : Nat} {M M' : List FileD} {s : List UInt8} (hx : ev x = .c (.v (.map (some b)))) (hy : ev y = .c (.v (.string (txt s)))) (hH : hget H f = some (.gx [b] (mapS P k T b M))) (hf : f < nx) (hp : IsDel M s M') (hs : s.length ≤ maxLen)
    (h : KS ⟨.any, [f], [(f, some (.gx [b] (mapS P k T b M')))], nx⟩) : oneK P ⟨d, .call ⟨.builtin .delete, #[x, y], #[t, k]⟩, tt, pos, af, gu⟩ ev H nx KS := by
  refine ⟨_, fit_gx hf hH _, ?_, h⟩
  intro V ρ ac w K Q hV hev hm hK
  obtain ⟨hVf, ⟨hS, ⟨D, hown, hrd⟩, hst⟩, hsz⟩ := hm.dom f _ (looked_get (by simp) hH)
  have e1 := hev x
  have e2 := hev y
  rw [hx] at e1
  rw [hy] at e2
  obtain ⟨w', hrun, hown', ht⟩ := hown.drop ms.key ms.ht (key_txt ms hs) tt
  have hg := ht.grown
  have h2 := hrd.del hp
  have h3 := ownsMap_tight hown'
  rw [h2.2.1] at h3
  have hφ : mapS P k T b M' (fun c => ((ρ f).F c ∨ False) ∧ c ∉ [b]) w' := ⟨_, h3, h2.keep fun c hc => ⟨⟨.inl hc.1, hc.2⟩, hg.block c (hsz c hc.1) fun e => by cases e; exact hc.2 (by simp)⟩⟩
  have := hK (.tuple #[]) _ w' (upd_done (ks := []) (Fg := fun _ => False) (r := .any) hVf hf hH (hS b (by simp)) hsz (fun c h => h.elim) (by simp) (fun c h => h.elim) hg hφ trivial)
  have hrun' : (execOp ac.eval ⟨d, .call ⟨.builtin .delete, #[x, y], #[t, k]⟩, tt, pos, af, gu⟩).run P w = .ok (.value (.tuple #[])) w' := by
    unfold execOp
    simp only [resolve, invoke, builtin, Sem.run_bind, Sem.run_pure, Result.andThen_ok, List.map_toArray, List.map_cons, List.map_nil]
    rw [e1.1, e2.1, hrun]
    rfl
  unfold Oper.wp
  rw [hrun']
  exact this

/-- 'range m'. -/
theorem range_s (ms : MS P t k e) {x : Operand} {f b : Nat} {M : List FileD} (hx : ev x = .c (.v (.map (some b)))) (hH : hget H f = some (.gx [b] (mapS P k T b M))) (hf : f < nx)
    (h : ∀ r cnt : Nat, KS ⟨.c (.v (.pointer (some ⟨r, 0, none⟩))), [f], [(f, some (.gx [b, r] (rangeS P k T b r M (fun s => (lkF M s).isSome) cnt)))], nx⟩) : escK P ⟨d, .range t x, tt, pos, af, gu⟩ ev H nx KS := by
  refine ⟨Nat × Nat, fun q => ⟨.c (.v (.pointer (some ⟨q.1, 0, none⟩))), [f], [(f, some (.gx [b, q.1] (rangeS P k T b q.1 M (fun s => (lkF M s).isSome) q.2)))], nx⟩, [f], fun q => fit_gx hf hH _, ?_, fun q => h q.1 q.2⟩
  intro V ρ a w K Q hV hev hm hK
  obtain ⟨hVf, ⟨hS, ⟨D, hown, hrd⟩, hst⟩, hsz⟩ := hm.dom f _ (looked_get (by simp) hH)
  have e1 := hev x
  rw [hx] at e1
  obtain ⟨w', hrun, hrg, hg, hs⟩ := hown.range ms.key ms.ht
  have hbw := hsz b (hS b (by simp))
  have hφ : rangeS P k T b w.heap.size M (fun s => (lkF M s).isSome) (Maps.size D) (fun c => ((ρ f).F c ∨ c = w.heap.size) ∧ c ∉ [b, w.heap.size]) w' := by
    refine ⟨D, _, hrg, hrd.keep fun c hc => ?_, fun s => ?_⟩
    · have hcw := hsz c hc.1
      refine ⟨⟨.inl hc.1, ?_⟩, hg.block c hcw (by simp)⟩
      have := hc.2
      simp only [List.mem_singleton] at this
      simp only [List.mem_cons, List.not_mem_nil, or_false]
      omega
    · show has D (strL s) = (lkF M s).isSome
      cases e : lkF M s with
      | none => exact hrd.2.2.1 s e
      | some q => exact (hrd.2.2.2 s q e).1
  have hd : Done V ρ H nx w ⟨.c (.v (.pointer (some ⟨w.heap.size, 0, none⟩))), [f], [(f, some (.gx [b, w.heap.size] (rangeS P k T b w.heap.size M (fun s => (lkF M s).isSome) (Maps.size D))))], nx⟩ (.pointer (some ⟨w.heap.size, 0, none⟩)) (updA ρ f { ρ f with F := fun c => (ρ f).F c ∨ c = w.heap.size }) w' := by
    refine Done.setgx (ks := []) (r := .c (.v (.pointer (some ⟨w.heap.size, 0, none⟩)))) ⟨rfl, rfl⟩ hVf hf hH hφ (fun w'' h => hφ.keep (h b (.inl (hS b (by simp)))) (h _ (.inr rfl)) fun c hc => ⟨hc, h c hc.1⟩) (fun c hc => ?_) (fun c hc => ?_) (fun c hc => ?_) hg.os hg.tape hg.output hg.size
      fun j hj _ => hg.block j hj (by simp)
    · simp at hc
      rcases hc with rfl | rfl
      · exact .inl (hS _ (by simp))
      · exact .inr rfl
    · rcases hc with h | rfl
      · have := hsz c h; omega
      · omega
    · rcases hc with h | rfl
      · by_cases hcb : c = b
        · subst hcb; exact .inr (.inl (by simp))
        · have := hsz c h
          exact .inr (.inr (.inr ⟨by simp only [List.mem_cons, List.not_mem_nil, or_false]; omega, f, by simp, _, hH, h, fun h => hcb (by simpa [Blk.exc] using h)⟩))
      · exact .inl (Nat.le_refl _)
  have := hK (w.heap.size, Maps.size D) _ _ _ hd
  unfold Oper.wp
  simp [execOp, e1.1, hrun, Result.andThen]
  exact this

/-- The step: nothing is left; or some name comes. -/
theorem next_s (ms : MS P t k e) {x : Operand} {f b r cnt : Nat} {M : List FileD} {left : List UInt8 → Bool} (hx : ev x = .c (.v (.pointer (some ⟨r, 0, none⟩)))) (hH : hget H f = some (.gx [b, r] (rangeS P k T b r M left cnt))) (hf : f < nx)
    (h0 : (∀ s, left s = false) → KS ⟨.tup [.inl (.v (.bool false))], [f], [(f, some (.gx [b, r] (rangeS P k T b r M left cnt)))], nx⟩)
    (h1 : ∀ (s q : List UInt8) (cnt' : Nat), left s = true → lkF M s = some q → cnt' < cnt →
      KS ⟨.tup [.inl (.v (.bool true)), .inl (.v (.string (txt s))), .inl .any], [f], [(f, some (.gx [b, r] (entryS P k T b r M (fun a => left a && !decide (a = s)) cnt' s q)))], nx⟩) :
    escK P ⟨d, .next x false, tt, pos, af, gu⟩ ev H nx KS := by
  refine ⟨{q : (List UInt8 × List UInt8) × Nat // left q.1.1 = true ∧ lkF M q.1.1 = some q.1.2 ∧ q.2 < cnt} ⊕ {_u : Unit // ∀ s, left s = false},
    Sum.elim (fun q => ⟨.tup [.inl (.v (.bool true)), .inl (.v (.string (txt q.1.1.1))), .inl .any], [f], [(f, some (.gx [b, r] (entryS P k T b r M (fun a => left a && !decide (a = q.1.1.1)) q.1.2 q.1.1.1 q.1.1.2)))], nx⟩)
      (fun _ => ⟨.tup [.inl (.v (.bool false))], [f], [(f, some (.gx [b, r] (rangeS P k T b r M left cnt)))], nx⟩), [f], ?_, ?_, ?_⟩
  · rintro (q | q)
    · exact fit_gx hf hH _
    · exact fit_gx hf hH _
  · intro V ρ ac w K Q hV hev hm hK
    obtain ⟨hVf, ⟨hS, hφ, hst⟩, hsz⟩ := hm.dom f _ (looked_get (by simp) hH)
    obtain ⟨D, L, hrg, hrd, hL⟩ := hφ
    have e1 := hev x
    rw [hx] at e1
    have hft : ∀ c, (ρ f).F c → w.heap.size ≤ c ∨ c ∈ [b, r] ∨ (∃ g ∈ ([] : List Nat), g < nx ∧ excH (hget H) ρ g c) ∨ (c ∉ [b, r] ∧ ∃ g ∈ [f], ∃ blk', hget H g = some blk' ∧ (ρ g).F c ∧ ¬ blk'.exc (ρ g) c) := fun c hc => by
      by_cases hcb : c ∈ [b, r]
      · exact .inr (.inl hcb)
      · exact .inr (.inr (.inr ⟨hcb, f, by simp, _, hH, hc, hcb⟩))
    rcases hrg.next ms.key tt with ⟨_, hl0, hrun⟩ | ⟨key, v, kl, y, w', cnt', hkey, hlk, hv, hat, hrun, hrg', hlt, hg, hs, hen⟩
    · have hd := Done.setgx (ks := []) (rd := [f]) (r := .tup [.inl (.v (.bool false))]) (u := .tuple #[.bool false]) (F' := (ρ f).F) (w' := w) ⟨[.bool false], rfl, ⟨rfl, rfl⟩, trivial⟩ hVf hf hH (show rangeS P k T b r M left cnt _ w from ⟨D, L, hrg, hrd, hL⟩) hst hS hsz hft rfl rfl rfl (Nat.le_refl _) fun _ _ _ => rfl
      have := hK (.inr ⟨(), fun s => by rw [← hL]; exact hl0 _⟩) _ _ _ hd
      unfold Oper.wp
      simp [execOp, e1.1, hrun, Result.andThen]
      exact this
    · obtain ⟨s0, rfl⟩ := Maps.keyOf_string_inv ms.hk hkey
      have hkl : kl = strL s0.data.toList := by
        have hk2 := hkey
        simp [keyOf, ms.hk, mapKey] at hk2
        exact hk2.2.symm
      obtain ⟨s, hs0⟩ : ∃ s, s = s0.data.toList := ⟨_, rfl⟩
      rw [← hs0] at hkl
      subst hkl
      obtain rfl : s0 = txt s := by rw [hs0]; rfl
      obtain ⟨q, hq⟩ : ∃ q, lkF M s = some q := by
        cases e : lkF M s with
        | none =>
          have h1 := hrd.2.2.1 s e
          rw [has_true_of_atKey hat] at h1
          cases h1
        | some q => exact ⟨q, rfl⟩
      obtain ⟨_, v', h5, h6⟩ := hrd.2.2.2 s q hq
      have hvv : v = v' := by
        have a1 := hat .nil
        rw [h5] at a1
        have a2 : y = (.held v, []) := (Option.some.inj hv).symm
        rw [a2] at a1
        simpa using a1.symm
      subst hvv
      have hbr : ∀ c, (ρ f).F c ∧ c ∉ [b, r] → w'.heap[c]? = w.heap[c]? := fun c hc => hg.block c (hsz c hc.1) fun e => by cases e; exact hc.2 (by simp)
      have hφ' : entryS P k T b r M (fun a => left a && !decide (a = s)) cnt' s q (fun c => (ρ f).F c ∧ c ∉ [b, r]) w' := by
        refine ⟨⟨D, _, hrg', hrd.keep fun c hc => ⟨hc, hbr c hc⟩, fun a => ?_⟩, v, hen, h6.keep fun c hc => ⟨hc, hbr c hc⟩⟩
        show (L (strL a) && !(strL a).sameKey (strL s)) = _
        rw [hL a]
        by_cases ha : a = s
        · subst ha
          rw [WideAt.sameKey_self (a := strL a) trivial]
          simp
        · rw [sameKey_ne (by intro h; apply ha; simpa [strL] using h)]
          simp [ha]
      have hd := Done.setgx (ks := []) (rd := [f]) (r := .tup [.inl (.v (.bool true)), .inl (.v (.string (txt s))), .inl .any]) (u := .tuple #[.bool true, .string (txt s), v]) (F' := (ρ f).F) (w' := w') ⟨[.bool true, .string (txt s), v], rfl, ⟨rfl, rfl⟩, ⟨rfl, rfl⟩, h6.one, trivial⟩ hVf hf hH hφ'
        (fun w'' h => hφ'.keep (h b (hS b (by simp))) (h r (hS r (by simp))) fun c hc => ⟨hc, h c hc.1⟩) hS (fun c hc => Nat.lt_of_lt_of_le (hsz c hc) hg.size) hft hg.os hg.tape hg.output hg.size fun j hj hn => hg.block j hj fun e => by cases e; exact hn (by simp)
      have := hK (.inl ⟨((s, q), cnt'), by rw [← hL]; exact hlk, hq, hlt⟩) _ _ w' hd
      unfold Oper.wp
      simp [execOp, e1.1, hrun, Result.andThen]
      exact this
  · rintro (q | q)
    · exact h1 q.1.1.1 q.1.1.2 q.1.2 q.2.1 q.2.2.1 q.2.2.2
    · exact h0 q.2

/-- The name and the bytes that have come. -/
theorem entry_s {x : Operand} {f b r cnt : Nat} {M : List FileD} {left : List UInt8 → Bool} {s q : List UInt8} (hx : ev x = .c (.v (.pointer (some ⟨r, 0, none⟩)))) (hH : hget H f = some (.gx [b, r] (entryS P k T b r M left cnt s q)))
    (h : KS ⟨.tup [.inl (.v (.string (txt s))), .inl (.sl nx 1 0 q.length)], [f], [(nx, some (.ro (q.map bytK)))], nx + 1⟩) : escK P ⟨d, .entry x, tt, pos, af, gu⟩ ev H nx KS := by
  refine ⟨Unit, fun _ => _, [f], fun _ => ⟨Nat.le_succ _, fun g hg => by simp at hg; subst hg; exact ⟨_, hH⟩, fun g z hz => ?_, by simp⟩, ?_, fun _ => h⟩
  · simp at hz
    obtain ⟨rfl, rfl⟩ := hz
    exact ⟨Nat.lt_succ_self _, fun h => absurd h (Nat.lt_irrefl _)⟩
  intro V ρ ac w K Q hV hev hm hK
  obtain ⟨hVf, ⟨hS, ⟨hrng, v, hen, hv⟩, hst⟩, hsz⟩ := hm.dom f _ (looked_get (by simp) hH)
  have e1 := hev x
  rw [hx] at e1
  obtain ⟨ρ', hd⟩ := Done.rdgx (r := .tup [.inl (.v (.string (txt s))), .inl (.sl nx 1 0 q.length)]) (u := .tuple #[.string (txt s), v]) hH (fun g h1 _ => hV g h1) hsz hv fun ρ' h => ⟨[.string (txt s), v], rfl, ⟨rfl, rfl⟩, h, trivial⟩
  have := hK () _ ρ' w hd
  unfold Oper.wp
  simp [execOp, e1.1, hen, Result.andThen]
  exact this
end

/-- A fact on memory is given up for a weaker one. -/
theorem wk_gx {n0 : Nat} {sl : List SV} {H : Heap} {nx f : Nat} {S S' : List Nat} {φ φ' : (Nat → Prop) → World → Prop} (hH : hget H f = some (.gx S φ)) (hS : ∀ b ∈ S', b ∈ S) (himp : ∀ (F : Nat → Prop) w, φ (fun k => F k ∧ k ∉ S) w → φ' (fun k => F k ∧ k ∉ S') w) : Wk n0 (sl, H, nx) (sl, hput H f (some (.gx S' φ')), nx) := by
  rintro X a w hX ⟨V, ρ, hV, hn0, hst⟩
  have hG : ∀ g, hget (hput H f (some (.gx S' φ'))) g = if g = f then some (.gx S' φ') else hget H g := hget_hput H f _
  obtain ⟨h1, ⟨h2, h3, h4⟩, h5⟩ := hst.mem.dom f _ hH
  refine ⟨V, ρ, hV, hn0, ⟨hst.slots, hst.defers, ⟨fun g blk hb => ?_, fun g g' blk blk' hne hb hb' b hF hF' => ?_⟩, fun g blk hb b hF => ?_, fun g blk hb b hF => ?_, hst.os, hst.tape, hst.output, hst.size, hst.block, hst.le⟩⟩
  · rw [hG] at hb
    split at hb
    · rename_i e; subst e; cases hb
      exact ⟨h1, ⟨fun b hb => h2 b (hS b hb), himp _ _ h3, fun w' hw => himp _ _ (h4 w' hw)⟩, h5⟩
    · exact hst.mem.dom g blk hb
  · rw [hG] at hb hb'
    split at hb
    · rename_i e; subst e; cases hb
      split at hb'
      · rename_i e'; exact absurd e'.symm hne
      · exact hst.mem.sep g g' (.gx S φ) _ hne hH hb' b (hS b hF) hF'
    · split at hb'
      · rename_i e; subst e
        exact hst.mem.sep g g' _ _ hne hb hH b hF hF'
      · exact hst.mem.sep g g' _ _ hne hb hb' b hF hF'
  · rw [hG] at hb
    split at hb
    · rename_i e; subst e; cases hb
      exact hst.base g (.gx S φ) hH b (hS b hF)
    · exact hst.base g blk hb b hF
  · rw [hG] at hb
    split at hb
    · rename_i e; subst e
      exact hst.foot g _ hH b hF
    · exact hst.foot g blk hb b hF

theorem range_map {P : Program} {k : TypeId} {T b r cnt : Nat} {M : List FileD} {left : List UInt8 → Bool} (F : Nat → Prop) (w : World) (h : rangeS P k T b r M left cnt (fun k => F k ∧ k ∉ [b, r]) w) : mapS P k T b M (fun k => F k ∧ k ∉ [b]) w := by
  obtain ⟨D, L, h1, h2, _⟩ := h
  exact ⟨D, h1.owns, h2.keep fun c hc => ⟨⟨hc.1, fun h => hc.2 (by simp at h; simp [h])⟩, rfl⟩⟩

end Go.Proofs.Ytfnhchcgieeedaa
