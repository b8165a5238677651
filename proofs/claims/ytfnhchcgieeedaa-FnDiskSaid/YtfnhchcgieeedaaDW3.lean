/-
  A contract that only reads a block holds where the block is given up for the answer instead, whatever the answer's form. No conditions of its own.
-/
import Derived.Test.YtfnhchcgieeedaaDW2
namespace Go.Proofs.Ytfnhchcgieeedaa
set_option linter.unusedSimpArgs false
set_option linter.unusedVariables false
set_option linter.unusedSimpArgs false
set_option linter.unusedVariables false
set_option linter.defProp false
open Go.RowKit

def cvOff (i : Nat) : CV → Prop
  | .ptr f _ _ => f ≠ i
  | .sl f _ _ _ => f ≠ i
  | _ => True
theorem cv_off {V : Nat → Prop} {ρ ρ' : Nat → At} {i : Nat} (h : ∀ k, k ≠ i → ρ' k = ρ k) {x : CV} {u : Value} (hx : cvOff i x) (hr : CVr V ρ x u) : CVr V ρ' x u := by
  cases x with
  | any => exact hr
  | v x => exact hr
  | nil => exact hr
  | ptr f a c => simp only [CVr] at hr ⊢; rw [h f hx]; exact hr
  | sl f sz o n => simp only [CVr] at hr ⊢; rw [h f hx]; exact hr
theorem all2_mem {α β : Type} {R R' : α → β → Prop} : ∀ {l : List α} {m : List β}, All2 R l m → (∀ a ∈ l, ∀ b, R a b → R' a b) → All2 R' l m
  | [], [], _, _ => trivial
  | a :: l, b :: m, h, hr => ⟨hr a (by simp) b h.1, all2_mem (l := l) (m := m) h.2 fun x hx => hr x (by simp [hx])⟩
theorem sv_off {V : Nat → Prop} {ρ ρ' : Nat → At} {i : Nat} (h : ∀ k, k ≠ i → ρ' k = ρ k) {x : SV} {u : Value} (hx : wfs (cvOff i) x) (hr : SVr V ρ x u) : SVr V ρ' x u := by
  cases x with
  | any => trivial
  | c x => exact cv_off h hx hr
  | agg l =>
    obtain ⟨vs, h1, h2⟩ := hr
    exact ⟨vs, h1, all2_mem h2 fun a ha b hb => cv_off h (hx a ha) hb⟩
  | tup l =>
    obtain ⟨vs, h1, h2⟩ := hr
    refine ⟨vs, h1, all2_mem h2 fun a ha b hb => ?_⟩
    have hxa := hx a ha
    cases a with
    | inl y => exact cv_off h hxa hb
    | inr m =>
      obtain ⟨ws, q1, q2⟩ := hb
      exact ⟨ws, q1, all2_mem q2 fun a ha b hb => cv_off h (hxa a ha) hb⟩

def Blk.plainN : Blk → Prop
  | .nst _ _ none => True
  | b => b.plain
theorem plainN_holds {V : Nat → Prop} {ρ ρ' : Nat → At} {w : World} {p : At} {blk : Blk} (h : blk.plainN) (hh : Holds V ρ w p blk) : Holds V ρ' w p blk := by
  cases blk with
  | nst T es x =>
    cases x with
    | some y => exact h.elim
    | none =>
      obtain ⟨q, n⟩ := hh
      exact ⟨q, n.hole fun i j u => ⟨fun h => h, fun y hy => by cases hy⟩⟩
  | row T es => exact hh
  | ro es => exact hh
  | mix T es => exact hh
  | box T cs => exact h.elim
  | gh S φ => exact h.elim
  | gx S φ => exact h.elim

theorem FnOK.giveN {P : Program} {f : FuncId} {n0 i n : Nat} {pre wr : Heap} {args : List SV} {r : SV} {es : List (List DC)} {blk0 : Blk} (h : FnOK P f ⟨n0, pre, args, r, wr, n⟩) (hr : wfs (cvOff i) r) (hi : hget pre i = some (.ro es)) (hlt : i < n0)
    (hk : (∃ T, blk0 = .row T es) ∨ (∃ T, blk0 = .nst T es none) ∨ ∃ T, blk0 = .mix T es) (hn : i ∉ wr.map (·.1)) (hw : ∀ g b, (g, some b) ∈ wr → n0 ≤ g ∧ b.plainN) :
    FnOK P f ⟨n0, hput pre i (some blk0), args, r, (i, none) :: wr, n⟩ := by
  obtain ⟨⟨hfit, hcalls⟩, hcal⟩ := h
  have hP : ∀ k, hget (hput pre i (some blk0)) k = if k = i then some blk0 else hget pre k := hget_hput pre i _
  have hPi : hget (hput pre i (some blk0)) i = some blk0 := by rw [hP, if_pos rfl]
  have hPo : ∀ k, k ≠ i → hget (hput pre i (some blk0)) k = hget pre k := fun k hk => by rw [hP, if_neg hk]
  have hown : blk0.own = true := by rcases hk with ⟨T, rfl⟩ | ⟨T, rfl⟩ | ⟨T, rfl⟩ <;> rfl
  refine ⟨⟨⟨hfit.le, fun g hg => ?_, fun g b hb => ?_, ?_⟩, fun ρ vs w hargs hm => ?_⟩, hcal⟩
  · by_cases e : g = i
    · subst e; exact ⟨_, hPi⟩
    · rcases hput_key hg with h1 | h1
      · obtain ⟨blk, h2⟩ := hfit.rd g h1
        exact ⟨blk, by show hget (hput pre i _) g = _; rw [hPo g e]; exact h2⟩
      · exact absurd h1 e
  · rcases List.mem_cons.1 hb with hb | hb
    · cases hb
      exact ⟨Nat.lt_of_lt_of_le hlt hfit.le, fun _ => ⟨hget_mkey hPi, _, hPi, hown⟩⟩
    · obtain ⟨h1, h2⟩ := hfit.key g b hb
      refine ⟨h1, fun hg => ?_⟩
      obtain ⟨h3, blk, h4, h5⟩ := h2 hg
      have e : g ≠ i := by
        rintro rfl
        rw [hi] at h4; cases h4; cases h5
      have h6 : hget (hput pre i (some blk0)) g = some blk := by rw [hPo g e]; exact h4
      exact ⟨hget_mkey h6, blk, h6, h5⟩
  · exact List.nodup_cons.2 ⟨hn, hfit.nodup⟩
  · obtain ⟨hVi, hH0, hsi⟩ := hm.dom i blk0 hPi
    have hcc : es.length ≤ (ρ i).cap ∧ (ρ i).cap ≤ maxLen := by
      rcases hk with ⟨T, rfl⟩ | ⟨T, rfl⟩ | ⟨T, rfl⟩
      · exact ⟨hH0.2.2.1, hH0.2.1⟩
      · obtain ⟨q, n⟩ := hH0; exact ⟨n.le, n.cap⟩
      · exact ⟨hH0.2.2.1, hH0.2.1⟩
    have hro : Holds (· < n0) (frz ρ i) w (frz ρ i i) (.ro es) := by
      have := ro_part (V := (· < n0)) (ρ := ρ) (w := w) (g := i) (b := 0) (m := es.length) (r := true) (es := es) (es' := es) (by
        rcases hk with ⟨T, rfl⟩ | ⟨T, rfl⟩ | ⟨T, rfl⟩
        · exact .inl ⟨T, hH0⟩
        · exact .inr (.inr (.inl ⟨T, hH0⟩))
        · exact .inr (.inr (.inr ⟨T, hH0⟩))) (by simp) rfl (· < n0) (frz ρ i)
      obtain ⟨a1, a2, a3, a4, a5, a6⟩ := this
      rw [frz_g]
      refine ⟨fun h => h, hcc.2, hcc.1, a4, a5, fun i' e j c b h1 h2 h3 => ?_⟩
      have := a6 i' e j c b h1 h2 h3
      simpa [vwAt] using this
    have hm1 : Mem (· < n0) (frz ρ i) (hget pre) w := by
      refine ⟨fun k blk hb => ?_, fun k k' blk blk' hkk hb hb' b hF hF' => ?_⟩
      · by_cases e : k = i
        · subst e; rw [hi] at hb; cases hb
          exact ⟨hlt, hro, fun b hF => hsi b (by rw [frz_F] at hF; exact hF)⟩
        · obtain ⟨h1, h2, h3⟩ := hm.dom k blk (by rw [hPo k e]; exact hb)
          rw [frz_o ρ e]
          exact ⟨h1, frz_holds h2, h3⟩
      · rw [frz_F] at hF'
        by_cases e : k = i
        · subst e; rw [hi] at hb; cases hb; exact hF.elim
        · rw [frz_o ρ e] at hF
          by_cases e' : k' = i
          · subst e'
            exact hm.sep k k' blk blk0 hkk (by rw [hPo k e]; exact hb) hPi b hF hF'
          · exact hm.sep k k' blk blk' hkk (by rw [hPo k e]; exact hb) (by rw [hPo k' e']; exact hb') b hF hF'
    refine (hcalls (frz ρ i) vs w (hargs.mono fun _ _ => frz_sv) hm1).mono fun ex w' he => ?_
    obtain ⟨u, ρ1, rfl, hd⟩ := he
    let ρ2 : Nat → At := fun k => if k = i then ρ i else ρ1 k
    have r2i : ρ2 i = ρ i := if_pos rfl
    have r2o : ∀ k, k ≠ i → ρ2 k = ρ1 k := fun k hk => if_neg hk
    have hwr : ∀ g blk, hget ((i, none) :: wr) g = some blk → g ≠ i ∧ hget wr g = some blk := fun g blk hb => by
      simp only [hget] at hb
      split at hb
      · cases hb
      · rename_i e; exact ⟨e, hb⟩
    refine ⟨u, ρ2, rfl, ⟨fun k hk => ?_, ?_, ⟨fun k blk hb => ?_, fun k k' blk blk' hkk hb hb' b hF hF' => ?_⟩, fun k blk hb b hF => ?_, hd.os, hd.tape, hd.output, hd.size, fun k hk hx => ?_⟩⟩
    · by_cases e : k = i
      · subst e; rw [r2i]; exact ⟨rfl, fun _ => rfl⟩
      · rw [r2o k e]
        obtain ⟨h1, h2⟩ := hd.same k hk
        rw [frz_o ρ e] at h1 h2
        exact ⟨h1, fun h3 => h2 fun h4 => h3 (List.mem_cons_of_mem _ h4)⟩
    · exact sv_off r2o hr hd.val
    · obtain ⟨e, hb⟩ := hwr k blk hb
      obtain ⟨h1, h2, h3⟩ := hd.mem.dom k blk hb
      rw [r2o k e]
      exact ⟨h1, plainN_holds (hw k blk (hget_mem hb)).2 h2, h3⟩
    · obtain ⟨e, hb⟩ := hwr k blk hb
      obtain ⟨e', hb'⟩ := hwr k' blk' hb'
      rw [r2o k e] at hF
      rw [r2o k' e'] at hF'
      exact hd.mem.sep k k' blk blk' hkk hb hb' b hF hF'
    · obtain ⟨e, hb⟩ := hwr k blk hb
      rw [r2o k e] at hF ⊢
      rcases hd.foot k blk hb b hF with h1 | ⟨g, x, h1, h2, blk2, h3, h4⟩ | ⟨h1, g, h2, blk2, h3, h4, h5⟩
      · exact .inl h1
      · have e2 : g ≠ i := fun e2 => hn (by rw [← e2]; exact List.mem_map.2 ⟨_, h1, rfl⟩)
        rw [frz_o ρ e2] at h4
        exact .inr (.inl ⟨g, x, List.mem_cons_of_mem _ h1, h2, blk2, by show hget (hput pre i _) g = _; rw [hPo g e2]; exact h3, h4⟩)
      · by_cases e2 : g = i
        · subst e2
          rw [frz_F] at h4
          by_cases hx : blk0.exc (ρ g) b
          · exact .inr (.inl ⟨g, none, List.mem_cons_self, hlt, blk0, hPi, hx⟩)
          · exact .inr (.inr ⟨h1, g, hget_mkey hPi, blk0, hPi, h4, hx⟩)
        · rw [frz_o ρ e2] at h4 h5
          have h6 : hget (hput pre i (some blk0)) g = some blk2 := by rw [hPo g e2]; exact h3
          exact .inr (.inr ⟨h1, g, hget_mkey h6, blk2, h6, h4, h5⟩)
    · refine hd.block k hk fun g x hgx hg hex => ?_
      have e2 : g ≠ i := fun e2 => hn (by rw [← e2]; exact List.mem_map.2 ⟨_, hgx, rfl⟩)
      obtain ⟨blk2, h3, h4⟩ := hex
      rw [frz_o ρ e2] at h4
      exact hx g x (List.mem_cons_of_mem _ hgx) hg ⟨blk2, by show hget (hput pre i _) g = _; rw [hPo g e2]; exact h3, h4⟩

end Go.Proofs.Ytfnhchcgieeedaa
