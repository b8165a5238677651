/-
  'append' and 'make' for slices of structs of several one-cell fields.
-/
import Derived.Test.YtmdajpgemcaefaaBaseN
namespace Go.Proofs.Ytmdajpgemcaefaa
set_option linter.unusedSimpArgs false
set_option linter.unusedVariables false
open Go.RowKit

section
variable {P : Program} {w : World} {ops : Array Oper} {rest : List Oper} {o : Oper} {act : Act} {Q : Exit → Act → World → Prop} {α : Type} {enc : α → List Value} {sz : Nat}

theorem wp_joinN {K : Act → World → Prop} (he : ∀ x, (enc x).length = sz) (hsz0 : 0 < sz) (s x : Operand) (t : TypeId)
    (ho : o.op = .call { callee := .builtin .append, args := #[s, x], argTypes := #[t, t] })
    (base : Nat) (e : TypeId) (z : Value) (bytes : Nat) (ht : P.underlying t = some (.slice e)) (hinf : (P.info? e).map (fun i => (i.zero, i.size, i.bytes)) = some (some z, sz, bytes)) (hzs : z.cells.size = sz)
    (a : Option Addr) (cap : Nat) (l : List α) (hs : act.eval s = .slice a l.length cap) (hown : OwnN enc sz e (base ≤ ·) w a cap l)
    (S : Nat → Prop) (b : Option Addr) (cb : Nat) (m : List α) (hx : act.eval x = .slice b m.length cb) (hm : SlN enc sz S w b cb m) (h1 : ∀ y, ∀ u ∈ enc y, u.oneCell' = true)
    (h63 : l.length + m.length ≤ maxLen) (hbytes : (l.length + m.length) * bytes ≤ 140737488355328) (hbase : base ≤ w.heap.size)
    (h : ∀ a' cap' w', OwnN enc sz e (base ≤ ·) w' a' cap' (l ++ m) → Grew a base w w' → K (act.put o.dst (.slice a' (l.length + m.length) cap')) w') : o.wp P act w K Q := by
  obtain ⟨i, hi, hz, hsz, hby⟩ := info_parts hinf
  have howns : w.ownsRow base e sz (.slice a l.length cap) l.length (l.flatMap enc) := hown.owns he fun _ _ hb => hb
  cases b with
  | none =>
    obtain rfl := hm.nil rfl
    have hm0 : m = [] := by
      by_cases h0 : m = []
      · exact h0
      · obtain ⟨_, _, h2, _⟩ := hm.at_ h0; cases h2
    subst hm0
    have hrun := run_append_owned_none (P := P) (w := w) base t o.type e i sz ht hi _ _ _ howns
    have := h a cap w (by simpa using hown) ⟨Below.refl _ _, fun _ _ _ => rfl⟩
    unfold Oper.wp execOp
    simp only [ho, resolve, invoke, builtin, Sem.run_bind, Sem.run_pure, Result.andThen_ok, List.map_toArray, List.map_cons, List.map_nil, hs, hx]
    show o.upon P act K Q (((Builtin.append_ #[t, t] o.type #[.slice a l.length cap, .slice none 0 0]).run P w).andThen _)
    rw [hrun]
    show K _ _
    simpa using this
  | some ad =>
    refine wp_append_own w s x t ho base e i z sz bytes ht hi hz hsz hby hzs hsz0 _ _ _ hs howns ad m.length cb (m.flatMap enc) hx (flat_len he m) ?_ ?_ h63 hbytes hbase ?_
    · intro j u hu
      have hjl := (List.getElem?_eq_some_iff.1 hu).1
      rw [flat_len he m] at hjl
      have hk : j / sz < m.length := Nat.div_lt_of_lt_mul (by rw [Nat.mul_comm]; exact hjl)
      have hj : j % sz < sz := Nat.mod_lt _ hsz0
      have hd : j / sz * sz + j % sz = j := by rw [Nat.mul_comm]; exact Nat.div_add_mod j sz
      have hg := flat_get he m (j / sz) hk (j % sz) hj
      rw [hd, hu] at hg
      obtain ⟨b0, off, e0, _, _, hc⟩ := hm.get (Nat.lt_of_le_of_lt (Nat.zero_le _) hk)
      cases e0
      have := hc (j / sz) hk (j % sz) u hg.symm
      have e1 : (⟨b0, off, none⟩ : Addr).add j = ⟨b0, off + j, none⟩ := by unfold Addr.add; split <;> simp_all
      rw [Nat.add_assoc, hd] at this
      rw [e1]; exact this
    · intro u hu
      obtain ⟨y, _, hu'⟩ := List.mem_flatMap.1 hu
      exact h1 y u hu'
    · intro v' w' hv hg _
      have hb := Grew.of_grown hg hbase (fun b hb => (hown.block b hb).1)
      have hv2 : ∃ a' cap', v' = .slice a' (l.length + m.length) cap' := by
        rcases hv.2 with ⟨e1, e2⟩ | ⟨g, c, _, e1, _⟩
        · exact ⟨none, 0, by rw [e1, e2]⟩
        · exact ⟨_, c, e1⟩
      obtain ⟨a', cap', rfl⟩ := hv2
      refine h a' cap' w' (OwnN.of_owns (base := base) ?_ (fun _ _ hb => hb)) hb
      rw [List.length_append, List.flatMap_append]
      exact hv

theorem wpList_joinN (he : ∀ x, (enc x).length = sz) (hsz0 : 0 < sz) (hgd : o.guard = none) (s x : Operand) (t : TypeId)
    (ho : o.op = .call { callee := .builtin .append, args := #[s, x], argTypes := #[t, t] })
    (base : Nat) (e : TypeId) (z : Value) (bytes : Nat) (ht : P.underlying t = some (.slice e)) (hinf : (P.info? e).map (fun i => (i.zero, i.size, i.bytes)) = some (some z, sz, bytes)) (hzs : z.cells.size = sz)
    (a : Option Addr) (cap : Nat) (l : List α) (hs : act.eval s = .slice a l.length cap) (hown : OwnN enc sz e (base ≤ ·) w a cap l)
    (S : Nat → Prop) (b : Option Addr) (cb : Nat) (m : List α) (hx : act.eval x = .slice b m.length cb) (hm : SlN enc sz S w b cb m) (h1 : ∀ y, ∀ u ∈ enc y, u.oneCell' = true)
    (h63 : l.length + m.length ≤ maxLen) (hbytes : (l.length + m.length) * bytes ≤ 140737488355328) (hbase : base ≤ w.heap.size)
    (h : ∀ a' cap' w', OwnN enc sz e (base ≤ ·) w' a' cap' (l ++ m) → Grew a base w w' → wpList P ops Q rest (act.put o.dst (.slice a' (l.length + m.length) cap')) w') : wpList P ops Q (o :: rest) act w :=
  wpList_plain hgd fun _ hK => wp_joinN he hsz0 s x t ho base e z bytes ht hinf hzs a cap l hs hown S b cb m hx hm h1 h63 hbytes hbase fun a' cap' w' h2 h3 => hK _ _ (h a' cap' w' h2 h3)

/-- 'append(l, y)', the new element in a new block. -/
theorem wpList_pushN (he : ∀ x, (enc x).length = sz) (hsz0 : 0 < sz) (hgd : o.guard = none) (s x : Operand) (t : TypeId)
    (ho : o.op = .call { callee := .builtin .append, args := #[s, x], argTypes := #[t, t] })
    (base : Nat) (e : TypeId) (z : Value) (bytes : Nat) (ht : P.underlying t = some (.slice e)) (hinf : (P.info? e).map (fun i => (i.zero, i.size, i.bytes)) = some (some z, sz, bytes)) (hzs : z.cells.size = sz)
    (a : Option Addr) (cap : Nat) (l : List α) (hs : act.eval s = .slice a l.length cap) (hown : OwnN enc sz e (base ≤ ·) w a cap l)
    (g cb : Nat) (y : α) (hx : act.eval x = .slice (some ⟨g, 0, none⟩) 1 cb) (hg : g < w.heap.size) (hy : ∀ j u, (enc y)[j]? = some u → w.cell? ⟨g, j, none⟩ = some u) (h1 : ∀ y, ∀ u ∈ enc y, u.oneCell' = true) (hcb : 1 ≤ cb) (hcb' : cb ≤ maxLen)
    (h63 : l.length + 1 ≤ maxLen) (hbytes : (l.length + 1) * bytes ≤ 140737488355328) (hbase : base ≤ w.heap.size)
    (h : ∀ a' cap' w', OwnN enc sz e (base ≤ ·) w' a' cap' (l ++ [y]) → Grew a base w w' → wpList P ops Q rest (act.put o.dst (.slice a' (l.length + 1) cap')) w') : wpList P ops Q (o :: rest) act w :=
  wpList_joinN he hsz0 hgd s x t ho base e z bytes ht hinf hzs a cap l hs hown (fun _ => True) (some ⟨g, 0, none⟩) cb [y] hx
    ⟨hcb, hcb', (fun h => by cases h), fun _ => ⟨g, 0, rfl, trivial, hg, fun i hi j u hu => by
      have : i = 0 := by simp at hi; exact hi
      subst this; simpa using hy j u (by simpa using hu)⟩⟩ h1 h63 hbytes hbase h

end

end Go.Proofs.Ytmdajpgemcaefaa
