/-
  The engine, eleventh part: append does what is told of it; all operations but calls. No conditions of its own.
-/
import Derived.Test.YtmdajpgemcaefaaE10
namespace Go.Proofs.Ytmdajpgemcaefaa
set_option linter.unusedSimpArgs false
set_option linter.unusedVariables false
open Go.RowKit

theorem append_any {P : Program} (w : World) (t ty e : TypeId) (i : TypeInfo) (z : Value) (ht : P.underlying t = some (.slice e)) (hi : P.info? e = some i) (hz : i.zero = some z)
    (hzs : z.cells.size = i.size) (hsz : 0 < i.size) (v : Value) (n : Nat) (xs : List Value) (hown : w.ownsRow 0 e i.size v n xs)
    (a : Option Addr) (m c : Nat) (es : List (List DC)) (hl : (flatE es).length = m * i.size) (hfl : ∀ e ∈ es, ∀ c ∈ e, DC.flat c) (ha : a = none → m = 0 ∧ c = 0) (hc : 0 < m → ∃ ad, a = some ad ∧ ∀ j x, (flatE es)[j]? = some x → w.cell? (ad.add j) = some x)
    (hmb : (n + m) * i.bytes ≤ 140737488355328) (hm : n + m ≤ 1099511627776) :
    ∃ v' w', (Builtin.append_ #[t, t] ty #[v, .slice a m c]).run P w = .ok v' w' ∧ w'.ownsRow 0 e i.size v' (n + m) (xs ++ flatE es) ∧ w.grownBy w' v.ownBlock ∧
      ∀ b, v'.ownBlock = some b → w.heap.size ≤ b ∨ v.ownBlock = some b := by
  have one : ∀ u ∈ flatE es, u.oneCell' = true := by
    intro u hu
    obtain ⟨e, he, hu⟩ := List.mem_flatMap.1 hu
    obtain ⟨c, hc, rfl⟩ := List.mem_map.1 hu
    obtain ⟨x, rfl, hx⟩ := hfl e he c hc
    exact hx
  cases a with
  | none =>
    obtain ⟨rfl, rfl⟩ := ha rfl
    have h0 : flatE es = [] := List.eq_nil_of_length_eq_zero (by simpa using hl)
    rw [h0]
    have hrun := run_append_owned_none (P := P) (w := w) 0 t ty e i i.size ht hi _ _ _ hown
    exact ⟨v, w, hrun, by simpa using hown, ⟨rfl, rfl, rfl, Nat.le_refl _, fun _ _ _ => rfl⟩, fun b hb => .inr hb⟩
  | some ad =>
    refine append_mine w t ty e i z ht hi hz hzs hsz v n xs hown ad m c (flatE es) hl (fun j u hj => ?_) one (by unfold maxLen; omega) hmb
    by_cases h0 : 0 < m
    · obtain ⟨ad', e1, e2⟩ := hc h0
      cases e1
      exact e2 j u hj
    · have : m = 0 := by omega
      subst this
      have h0 : flatE es = [] := List.eq_nil_of_length_eq_zero (by simpa using hl)
      rw [h0] at hj; simp at hj

/-- The block of a finished append. -/
theorem Done.app {V : Nat → Prop} {ρ : Nat → At} {H : Heap} {nx : Nat} {w w' : World} {e : Nat} {sz n : Nat} {v v' : Value} {es : List (List DC)} {rd : List Nat} {rest : List (Nat × Option Blk)}
    (h : w'.ownsRow 0 e sz v' n (flatE es)) (hn : es.length = n) (hs : ∀ e ∈ es, e.length = sz) (hf : ∀ e ∈ es, ∀ c ∈ e, DC.flat c) (hg : w.grownBy w' v.ownBlock)
    (hb : ∀ b, v'.ownBlock = some b → w.heap.size ≤ b ∨ v.ownBlock = some b) (hrest : rest = [] ∧ v.ownBlock = none ∨ ∃ f, rest = [(f, none)] ∧ f < nx ∧ ∀ b, v.ownBlock = some b → (ρ f).F b) :
    ∃ p, Done V ρ H nx w ⟨.c (.sl nx sz 0 n), rd, (nx, some (.row e es)) :: rest, nx + 1⟩ v' (updA ρ nx p) w' := by
  obtain ⟨p, p1, p2, p3⟩ := row_of_owns (V := V) (ρ := ρ) (nx := nx) h hn hs hf
  have hlt : ∀ b, v'.ownBlock = some b → b < w'.heap.size := fun b hb => (h.lt b hb).2
  have hr0 : ∀ f, hget rest f = none := by
    intro f
    rcases hrest with ⟨rfl, _⟩ | ⟨f', rfl, _⟩
    · rfl
    · simp only [hget]; split <;> rfl
  refine ⟨p, ⟨fun f hf => updA_same ρ nx p hf, p2, ⟨fun f blk' h' => ?_, fun f g blk1 blk2 hne h' _ h'' => ?_⟩, fun f blk' h' b hb' => ?_, hg.os, hg.tape, hg.output, hg.size, fun k hk hn => ?_⟩⟩
  · simp only [hget] at h'
    split at h'
    · rename_i e'; subst e'; cases h'
      rw [updA_new]
      exact ⟨.inr ⟨Nat.le_refl _, Nat.lt_succ_self _⟩, p1, fun b hb' => hlt b (by rw [p3] at hb'; exact hb')⟩
    · rw [hr0] at h'; cases h'
  · simp only [hget] at h' h''
    split at h'
    · split at h''
      · omega
      · rw [hr0] at h''; cases h''
    · rw [hr0] at h'; cases h'
  · simp only [hget] at h'
    split at h'
    · rename_i e'; subst e'; cases h'
      rw [updA_new, p3] at hb'
      rcases hb b hb' with q | q
      · exact .inl q
      · rcases hrest with ⟨_, q2⟩ | ⟨f', rfl, q3, q4⟩
        · rw [q2] at q; cases q
        · exact .inr (.inl ⟨f', none, by simp, q3, q4 b q⟩)
    · rw [hr0] at h'; cases h'
  · refine hg.block k hk fun e' => ?_
    rcases hrest with ⟨_, q2⟩ | ⟨f', rfl, q3, q4⟩
    · rw [q2] at e'; cases e'
    · exact hn f' none (by simp) q3 (q4 k e'.symm)

theorem app_ok {P : Program} {o : Oper} {ev : Operand → SV} {H : Heap} {nx : Nat} {K : Eff → Prop} (hB : Bnd H nx) (h : appK P o ev H nx K) :
    ∃ e, Fit H nx e ∧ EffOK P o ev H nx e ∧ K e := by
  unfold appK at h
  split at h
  · rename_i c ho
    have hc : ∀ (l : List Operand) (ts : List TypeId) (b : Builtin), c.callee = .builtin b → c.args.toList = l → c.argTypes.toList = ts → c = { callee := .builtin b, args := l.toArray, argTypes := ts.toArray } := by
      intro l ts b h1 h2 h3
      cases c; simp only at h1 h2 h3; subst h1 h2 h3; simp
    split at h
    · rename_i s x t t' g1 g2 g3
      rw [hc _ _ _ g1 g2 g3] at ho
      obtain ⟨rfl, ti, e, te, h1, h2, h3, h4, h5⟩ := h
      obtain ⟨i, d, zz, e1, e2, _, rfl⟩ := tiOf_inv h1
      obtain rfl := td_slice h2
      obtain ⟨i', d', z, e1', e2', ⟨e3', e4', e5'⟩, rfl⟩ := tiOf_inv h3
      simp only at h4 h5
      have hexec : ∀ (a : Act) (w w' : World) (v' : Value), (Builtin.append_ #[t', t'] o.type #[a.eval s, a.eval x]).run P w = .ok v' w' → (execOp a.eval o).run P w = .ok (.value v') w' := by
        intro a w w' v' hr
        unfold execOp
        simp only [ho, resolve, invoke, builtin, Sem.run_bind, Sem.run_pure, Result.andThen_ok, List.map_toArray, List.map_cons, List.map_nil]
        rw [hr]
        rfl
      have nilrun : ∀ (w : World) (v : Value) (n : Nat) (xs : List Value), w.ownsRow 0 e i'.size v n xs → (Builtin.append_ #[t', t'] o.type #[v, .slice none 0 0]).run P w = .ok v w := by
        intro w v n xs hown
        exact run_append_owned_none (P := P) (w := w) 0 t' o.type e i' i'.size e2 e1' _ _ _ hown
      split at h5
      · rename_i hs
        split at h5
        · rename_i hx
          refine ⟨_, fit_pure H nx _, PureOK.eff (fun V ρ a hev => ?_) H nx, h5⟩
          have hp := hev s
          rw [hs] at hp
          have hq := hev x
          rw [hx] at hq
          have hp' : a.eval s = .slice none 0 0 := hp
          have hq' : a.eval x = .slice none 0 0 := hq
          exact ⟨.slice none 0 0, rfl, fun w => hexec a w w _ (by rw [hp', hq']; exact nilrun w _ 0 [] (World.ownsRow_nil w 0 e i'.size))⟩
        · rename_i g sz b m hx
          split at h5
          · rename_i f' bl es hsrc
            obtain ⟨rfl, h6, h7, h8, h9⟩ := h5
            have hgH : ∃ blk, hget H g = some blk := by
              unfold srcOf at hsrc
              cases hH : hget H g with
              | none => simp [hH] at hsrc
              | some blk => exact ⟨blk, rfl⟩
            refine ⟨_, fit_new (fun f hf => by simp at hf; subst hf; exact hgH), fun V ρ a w K' Q hV hev hm hK => ?_, h9⟩
            have hp := hev s
            rw [hs] at hp
            have hp' : a.eval s = .slice none 0 0 := hp
            have hq := hev x
            rw [hx] at hq
            obtain ⟨r1, r2, ad, cp, r3, r4, r5⟩ := src_cells hm (by simp) hsrc h6 h7 hq
            obtain ⟨v', w', q1, q2, q3, q4⟩ := append_any (P := P) w t' o.type e i' z e2 e1' e3' e5' h4 (.slice none 0 0) 0 [] (World.ownsRow_nil w 0 e i'.size) ad m cp es (by rw [flatE_len r1, h6]) r2 r4 r5 (by rw [Nat.zero_add]; exact h8.1) (by rw [Nat.zero_add]; exact h8.2)
            rw [Nat.zero_add, List.nil_append] at q2
            obtain ⟨p, hd⟩ := Done.app (V := V) (ρ := ρ) (H := H) (nx := nx) (rd := [g]) (rest := []) q2 h6 r1 r2 q3 q4 (.inl ⟨rfl, rfl⟩)
            unfold Oper.wp
            rw [hexec a w w' v' (by rw [hp', r3]; exact q1)]
            exact hK _ _ _ hd
          · exact h5.elim
        · exact h5.elim
      · rename_i f sz' b' n hs
        split at h5
        · rename_i T es0 hH
          obtain ⟨rfl, hn, rfl, rfl, h5⟩ := h5
          split at h5
          · rename_i hx
            refine ⟨_, fit_read hH, EffOK.of_read fun V ρ a w hev hm => ?_, h5⟩
            have hp := hev s
            rw [hs] at hp
            have hq := hev x
            rw [hx] at hq
            have hq' : a.eval x = .slice none 0 0 := hq
            obtain ⟨_, hold, _⟩ := hm.dom f _ (looked_get (by simp) hH)
            obtain ⟨o1, o2, o3, o4⟩ := owns_row hold hp hn
            exact ⟨_, hp, hexec a w w _ (by rw [hq']; exact nilrun w _ _ _ o1)⟩
          · rename_i g sz b m hx
            obtain ⟨hgf, h5⟩ := h5
            split at h5
            · rename_i f' bl es hsrc
              obtain ⟨rfl, h6, h7, h8, h9⟩ := h5
              have hgH : ∃ blk, hget H g = some blk := by
                unfold srcOf at hsrc
                cases hH : hget H g with
                | none => simp [hH] at hsrc
                | some blk => exact ⟨blk, rfl⟩
              have hfn := hB f _ hH
              refine ⟨_, ⟨Nat.le_succ _, fun k hk => ?_, fun k b hb => ?_, by simp; omega⟩, fun V ρ a w K' Q hV hev hm hK => ?_, h9⟩
              · simp at hk
                rcases hk with rfl | rfl
                · exact ⟨_, hH⟩
                · exact hgH
              · simp at hb
                rcases hb with ⟨rfl, _⟩ | ⟨rfl, _⟩
                · exact ⟨Nat.lt_succ_self _, fun h => absurd h (Nat.lt_irrefl _)⟩
                · exact ⟨Nat.lt_succ_of_lt hfn, fun _ => ⟨by simp, _, hH, rfl⟩⟩
              have hp := hev s
              rw [hs] at hp
              have hq := hev x
              rw [hx] at hq
              obtain ⟨_, hold, _⟩ := hm.dom f _ (looked_get (by simp) hH)
              obtain ⟨o1, o2, o3, o4⟩ := owns_row hold hp hn
              obtain ⟨r1, r2, ad, cp, r3, r4, r5⟩ := src_cells hm (by simp) hsrc h6 h7 hq
              obtain ⟨v', w', q1, q2, q3, q4⟩ := append_any (P := P) w t' o.type T i' z e2 e1' e3' e5' h4 (a.eval s) n (flatE es0) o1 ad m cp es (by rw [flatE_len r1, h6]) r2 r4 r5 h8.1 h8.2
              have hfe : flatE es0 ++ flatE es = flatE (es0 ++ es) := by unfold flatE; rw [List.flatMap_append]
              rw [hfe] at q2
              obtain ⟨p, hd⟩ := Done.app (V := V) (ρ := ρ) (H := H) (nx := nx) (rd := [f, g]) (rest := [(f, none)]) q2 (by simp [hn, h6]) (fun e he => by
                  rcases List.mem_append.1 he with he | he
                  · exact o3 e he
                  · exact r1 e he) (fun e he => by
                  rcases List.mem_append.1 he with he | he
                  · exact o4 e he
                  · exact r2 e he) q3 q4 (.inr ⟨f, rfl, hfn, o2⟩)
              unfold Oper.wp
              rw [hexec a w w' v' (by rw [r3]; exact q1)]
              exact hK _ _ _ hd
            · exact h5.elim
          · exact h5.elim
        · exact h5.elim
      · exact h5.elim
    · exact h.elim
  · exact h.elim

end Go.Proofs.Ytmdajpgemcaefaa
