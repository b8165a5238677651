/-
  A contract that only reads a block holds where the block is given up for the answer instead. No conditions of its own.
-/
import Derived.Test.YtfnhchcgieeedaaDW1
namespace Go.Proofs.Ytfnhchcgieeedaa
set_option linter.unusedSimpArgs false
set_option linter.unusedVariables false
set_option linter.unusedSimpArgs false
set_option linter.unusedVariables false
set_option linter.defProp false
open Go.RowKit

theorem hget_mkey {H : Heap} {f : Nat} {x : Blk} (h : hget H f = some x) : f ∈ H.map (·.1) := List.mem_map.2 ⟨_, hget_mem h, rfl⟩
theorem hput_key {H : Heap} {i f : Nat} {b : Option Blk} (h : f ∈ (hput H i b).map (·.1)) : f ∈ H.map (·.1) ∨ f = i := by
  induction H with
  | nil =>
    simp only [hput, List.map_cons, List.map_nil, List.mem_cons, List.not_mem_nil, or_false] at h
    exact .inr h
  | cons p H ih =>
    obtain ⟨g, x⟩ := p
    unfold hput at h
    split at h
    · exact .inl h
    · simp only [List.map_cons, List.mem_cons] at h ⊢
      rcases h with h | h
      · exact .inl (.inl h)
      · rcases ih h with h | h
        · exact .inl (.inr h)
        · exact .inr h

/-- Blocks without cells that lead elsewhere. -/
def Blk.plain : Blk → Prop
  | .row _ _ => True
  | .ro _ => True
  | .mix _ _ => True
  | _ => False

theorem plain_holds {V : Nat → Prop} {ρ ρ' : Nat → At} {w : World} {p : At} {blk : Blk} (h : blk.plain) (hh : Holds V ρ w p blk) : Holds V ρ' w p blk := by
  cases blk <;> first | exact hh | exact h.elim

theorem FnOK.give {P : Program} {f : FuncId} {n0 i sz m n : Nat} {pre wr : Heap} {args : List SV} {es : List (List DC)} {blk0 : Blk} (h : FnOK P f ⟨n0, pre, args, .c (.sl n0 sz 0 m), wr, n⟩) (hi : hget pre i = some (.ro es)) (hlt : i < n0)
    (hk : (∃ T, blk0 = .row T es) ∨ (∃ T, blk0 = .nst T es none) ∨ ∃ T, blk0 = .mix T es) (hn : i ∉ wr.map (·.1)) (hw : ∀ g b, (g, some b) ∈ wr → n0 ≤ g ∧ b.plain) :
    FnOK P f ⟨n0, hput pre i (some blk0), args, .c (.sl n0 sz 0 m), (i, none) :: wr, n⟩ := by
  obtain ⟨⟨hfit, hcalls⟩, hcal⟩ := h
  have hP : ∀ k, hget (hput pre i (some blk0)) k = if k = i then some blk0 else hget pre k := hget_hput pre i _
  have hPi : hget (hput pre i (some blk0)) i = some blk0 := by rw [hP, if_pos rfl]
  have hPo : ∀ k, k ≠ i → hget (hput pre i (some blk0)) k = hget pre k := fun k hk => by rw [hP, if_neg hk]
  have hown : blk0.own = true := by rcases hk with ⟨T, rfl⟩ | ⟨T, rfl⟩ | ⟨T, rfl⟩ <;> rfl
  refine ⟨⟨⟨hfit.le, fun g hg => ?_, fun g b hb => ?_, ?_⟩, fun ρ vs w hargs hm => ?_⟩, hcal⟩
  · by_cases e : g = i
    · subst e; exact ⟨_, hPi⟩
    · rcases hput_key hg with h1 | h1
      · obtain ⟨blk, h2⟩ := hfit.rd g h1
        exact ⟨blk, by show hget (hput pre i _) g = _; rw [hPo g e]; exact h2⟩
      · exact absurd h1 e
  · rcases List.mem_cons.1 hb with hb | hb
    · cases hb
      exact ⟨Nat.lt_of_lt_of_le hlt hfit.le, fun _ => ⟨hget_mkey hPi, _, hPi, hown⟩⟩
    · obtain ⟨h1, h2⟩ := hfit.key g b hb
      refine ⟨h1, fun hg => ?_⟩
      obtain ⟨h3, blk, h4, h5⟩ := h2 hg
      have e : g ≠ i := by
        rintro rfl
        rw [hi] at h4; cases h4; cases h5
      have h6 : hget (hput pre i (some blk0)) g = some blk := by rw [hPo g e]; exact h4
      exact ⟨hget_mkey h6, blk, h6, h5⟩
  · exact List.nodup_cons.2 ⟨hn, hfit.nodup⟩
  · obtain ⟨hVi, hH0, hsi⟩ := hm.dom i blk0 hPi
    have hcc : es.length ≤ (ρ i).cap ∧ (ρ i).cap ≤ maxLen := by
      rcases hk with ⟨T, rfl⟩ | ⟨T, rfl⟩ | ⟨T, rfl⟩
      · exact ⟨hH0.2.2.1, hH0.2.1⟩
      · obtain ⟨q, n⟩ := hH0; exact ⟨n.le, n.cap⟩
      · exact ⟨hH0.2.2.1, hH0.2.1⟩
    have hro : Holds (· < n0) (frz ρ i) w (frz ρ i i) (.ro es) := by
      have := ro_part (V := (· < n0)) (ρ := ρ) (w := w) (g := i) (b := 0) (m := es.length) (r := true) (es := es) (es' := es) (by
        rcases hk with ⟨T, rfl⟩ | ⟨T, rfl⟩ | ⟨T, rfl⟩
        · exact .inl ⟨T, hH0⟩
        · exact .inr (.inr (.inl ⟨T, hH0⟩))
        · exact .inr (.inr (.inr ⟨T, hH0⟩))) (by simp) rfl (· < n0) (frz ρ i)
      obtain ⟨a1, a2, a3, a4, a5, a6⟩ := this
      rw [frz_g]
      refine ⟨fun h => h, hcc.2, hcc.1, a4, a5, fun i' e j c b h1 h2 h3 => ?_⟩
      have := a6 i' e j c b h1 h2 h3
      simpa [vwAt] using this
    have hm1 : Mem (· < n0) (frz ρ i) (hget pre) w := by
      refine ⟨fun k blk hb => ?_, fun k k' blk blk' hkk hb hb' b hF hF' => ?_⟩
      · by_cases e : k = i
        · subst e; rw [hi] at hb; cases hb
          exact ⟨hlt, hro, fun b hF => hsi b (by rw [frz_F] at hF; exact hF)⟩
        · obtain ⟨h1, h2, h3⟩ := hm.dom k blk (by rw [hPo k e]; exact hb)
          rw [frz_o ρ e]
          exact ⟨h1, frz_holds h2, h3⟩
      · rw [frz_F] at hF'
        by_cases e : k = i
        · subst e; rw [hi] at hb; cases hb; exact hF.elim
        · rw [frz_o ρ e] at hF
          by_cases e' : k' = i
          · subst e'
            exact hm.sep k k' blk blk0 hkk (by rw [hPo k e]; exact hb) hPi b hF hF'
          · exact hm.sep k k' blk blk' hkk (by rw [hPo k e]; exact hb) (by rw [hPo k' e']; exact hb') b hF hF'
    refine (hcalls (frz ρ i) vs w (hargs.mono fun _ _ => frz_sv) hm1).mono fun ex w' he => ?_
    obtain ⟨u, ρ1, rfl, hd⟩ := he
    let ρ2 : Nat → At := fun k => if k = i then ρ i else ρ1 k
    have r2i : ρ2 i = ρ i := if_pos rfl
    have r2o : ∀ k, k ≠ i → ρ2 k = ρ1 k := fun k hk => if_neg hk
    have hwr : ∀ g blk, hget ((i, none) :: wr) g = some blk → g ≠ i ∧ hget wr g = some blk := fun g blk hb => by
      simp only [hget] at hb
      split at hb
      · cases hb
      · rename_i e; exact ⟨e, hb⟩
    refine ⟨u, ρ2, rfl, ⟨fun k hk => ?_, ?_, ⟨fun k blk hb => ?_, fun k k' blk blk' hkk hb hb' b hF hF' => ?_⟩, fun k blk hb b hF => ?_, hd.os, hd.tape, hd.output, hd.size, fun k hk hx => ?_⟩⟩
    · by_cases e : k = i
      · subst e; rw [r2i]; exact ⟨rfl, fun _ => rfl⟩
      · rw [r2o k e]
        obtain ⟨h1, h2⟩ := hd.same k hk
        rw [frz_o ρ e] at h1 h2
        exact ⟨h1, fun h3 => h2 fun h4 => h3 (List.mem_cons_of_mem _ h4)⟩
    · have h1 : CVr (newV (· < n0) n0 n) ρ1 (.sl n0 sz 0 m) u := hd.val
      show CVr (newV (· < n0) n0 n) ρ2 (.sl n0 sz 0 m) u
      have e := r2o n0 (by omega)
      simp only [CVr] at h1 ⊢
      rw [e]
      exact h1
    · obtain ⟨e, hb⟩ := hwr k blk hb
      obtain ⟨h1, h2, h3⟩ := hd.mem.dom k blk hb
      rw [r2o k e]
      exact ⟨h1, plain_holds (hw k blk (hget_mem hb)).2 h2, h3⟩
    · obtain ⟨e, hb⟩ := hwr k blk hb
      obtain ⟨e', hb'⟩ := hwr k' blk' hb'
      rw [r2o k e] at hF
      rw [r2o k' e'] at hF'
      exact hd.mem.sep k k' blk blk' hkk hb hb' b hF hF'
    · obtain ⟨e, hb⟩ := hwr k blk hb
      rw [r2o k e] at hF ⊢
      rcases hd.foot k blk hb b hF with h1 | ⟨g, x, h1, h2, blk2, h3, h4⟩ | ⟨h1, g, h2, blk2, h3, h4, h5⟩
      · exact .inl h1
      · have e2 : g ≠ i := fun e2 => hn (by rw [← e2]; exact List.mem_map.2 ⟨_, h1, rfl⟩)
        rw [frz_o ρ e2] at h4
        exact .inr (.inl ⟨g, x, List.mem_cons_of_mem _ h1, h2, blk2, by show hget (hput pre i _) g = _; rw [hPo g e2]; exact h3, h4⟩)
      · by_cases e2 : g = i
        · subst e2
          rw [frz_F] at h4
          by_cases hx : blk0.exc (ρ g) b
          · exact .inr (.inl ⟨g, none, List.mem_cons_self, hlt, blk0, hPi, hx⟩)
          · exact .inr (.inr ⟨h1, g, hget_mkey hPi, blk0, hPi, h4, hx⟩)
        · rw [frz_o ρ e2] at h4 h5
          have h6 : hget (hput pre i (some blk0)) g = some blk2 := by rw [hPo g e2]; exact h3
          exact .inr (.inr ⟨h1, g, hget_mkey h6, blk2, h6, h4, h5⟩)
    · refine hd.block k hk fun g x hgx hg hex => ?_
      have e2 : g ≠ i := fun e2 => hn (by rw [← e2]; exact List.mem_map.2 ⟨_, hgx, rfl⟩)
      obtain ⟨blk2, h3, h4⟩ := hex
      rw [frz_o ρ e2] at h4
      exact hx g x (List.mem_cons_of_mem _ hgx) hg ⟨blk2, by show hget (hput pre i _) g = _; rw [hPo g e2]; exact h3, h4⟩

end Go.Proofs.Ytfnhchcgieeedaa
