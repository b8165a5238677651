/-
  The engine, tenth part: append. No conditions of its own.
-/
import Derived.Test.YtmdajpgemcaefaaE9
namespace Go.Proofs.Ytmdajpgemcaefaa
set_option linter.unusedSimpArgs false
set_option linter.unusedVariables false
open Go.RowKit

theorem append_mine {P : Program} (w : World) (t ty e : TypeId) (i : TypeInfo) (z : Value) (ht : P.underlying t = some (.slice e)) (hi : P.info? e = some i) (hz : i.zero = some z)
    (hzs : z.cells.size = i.size) (hsz : 0 < i.size)
    (v : Value) (n : Nat) (xs : List Value) (hown : w.ownsRow 0 e i.size v n xs)
    (a : Addr) (m c : Nat) (news : List Value) (hl : news.length = m * i.size) (hnews : ∀ j u, news[j]? = some u → w.cell? (a.add j) = some u) (h1 : ∀ u ∈ news, u.oneCell' = true)
    (h63 : n + m ≤ maxLen) (hbytes : (n + m) * i.bytes ≤ 140737488355328) :
    ∃ v' w', (Builtin.append_ #[t, t] ty #[v, .slice (some a) m c]).run P w = .ok v' w' ∧ w'.ownsRow 0 e i.size v' (n + m) (xs ++ news) ∧ w.grownBy w' v.ownBlock ∧
      ∀ b, v'.ownBlock = some b → w.heap.size ≤ b ∨ v.ownBlock = some b := by
  obtain ⟨v', w', h2, h3, h4, h5⟩ := run_append_own w 0 t ty e i z i.size i.bytes ht hi hz rfl rfl hzs hsz v n xs hown a m c news hl hnews h1 h63 hbytes (Nat.zero_le _)
  refine ⟨v', w', h2, h3, h4, fun b hb => ?_⟩
  have h63' := h63
  simp only [maxLen] at h63'
  rcases hown.2 with ⟨rfl, rfl⟩ | ⟨g, cap, cur, rfl, hbg, hg, hnc, hcm, hcs, htake⟩
  · by_cases hm : m = 0
    · rw [h5.2 ⟨rfl, hm⟩] at hb; cases hb
    · have hr := run_append_nil (P := P) w t ty e i z ht hi hz a m c news hl hnews (by omega) (by omega) (by simp only [Nat.zero_add] at hbytes; omega)
      rw [hr] at h2
      cases h2
      cases hb
      exact .inl (Nat.le_refl _)
  · by_cases hroom : n + m ≤ cap
    · have hfit : n * i.size + news.length ≤ cur.size := by rw [hl, hcs, ← Nat.add_mul]; exact Nat.mul_le_mul_right _ hroom
      have hr := run_append_room (P := P) w t ty e i ht hi g n cap cur hg a m c news hl hnews h1 hroom hfit
      rw [hr] at h2
      cases h2
      exact .inr hb
    · have holds : ∀ j u, xs[j]? = some u → w.cell? ((⟨g, 0, none⟩ : Addr).add j) = some u := hown.cells (g := g) rfl
      have hr := run_append_grow (P := P) w t ty e i z ht hi hz ⟨g, 0, none⟩ n cap xs hown.1 holds a m c news hl hnews (by omega) (by omega) (growslice_fits (by omega) hbytes)
      rw [hr] at h2
      cases h2
      cases hb
      exact .inl (Nat.le_refl _)

/-- What a slice is made of: its block, its elements; the first of three kinds. -/
inductive Src where
  | nil
  | blk (f : Nat) (b : Blk) (es : List (List DC))

/-- The elements that a slice's cell reads as. -/
def srcOf (H : Heap) : CV → Option Src
  | .nil => some .nil
  | .sl f _ o n => match hget H f with
    | some (.row T es) => some (.blk f (.row T es) ((es.drop o).take n))
    | some (.ro es) => some (.blk f (.ro es) ((es.drop o).take n))
    | _ => none
  | _ => none

def isFlat (b : Blk) (es : List (List DC)) : Prop :=
  match b with
  | .row _ _ => True
  | _ => ∀ e ∈ es, ∀ c ∈ e, DC.flat c

/-- append(s, x): 's' a row of the call's own, or nil. -/
def appK (P : Program) (o : Oper) (ev : Operand → SV) (H : Heap) (nx : Nat) (K : Eff → Prop) : Prop :=
  match o.op with
  | .call c => match c.callee, c.args.toList, c.argTypes.toList with
    | .builtin .append, [s, x], [t, t'] => t' = t ∧ ∃ ti e te, tiOf P t = some ti ∧ ti.d = .slice e ∧ tiOf P e = some te ∧ 0 < te.size ∧
      match ev s with
      | .c .nil => match ev x with
        | .c .nil => K ⟨.c .nil, [], [], nx⟩
        | .c (.sl g sz b m) => match srcOf H (.sl g sz b m) with
          | some (.blk _ bl es) => sz = te.size ∧ es.length = m ∧ isFlat bl es ∧ (m * te.bytes ≤ 140737488355328 ∧ m ≤ 1099511627776) ∧ K ⟨.c (.sl nx te.size 0 m), [g], [(nx, some (.row e es))], nx + 1⟩
          | _ => False
        | _ => False
      | .c (.sl f sz' b' n) => match hget H f with
        | some (.row T es0) => b' = 0 ∧ n = es0.length ∧ T = e ∧ sz' = te.size ∧ match ev x with
          | .c .nil => K ⟨.c (.sl f sz' b' n), [f], [], nx⟩
          | .c (.sl g sz b m) => g ≠ f ∧ match srcOf H (.sl g sz b m) with
            | some (.blk _ bl es) => sz = te.size ∧ es.length = m ∧ isFlat bl es ∧ ((n + m) * te.bytes ≤ 140737488355328 ∧ n + m ≤ 1099511627776) ∧
                K ⟨.c (.sl nx te.size 0 (n + m)), [f, g], [(nx, some (.row e (es0 ++ es))), (f, none)], nx + 1⟩
            | _ => False
          | _ => False
        | _ => False
      | _ => False
    | _, _, _ => False
  | _ => False

/-- The cells of a slice that is read. -/
theorem src_cells {V : Nat → Prop} {ρ : Nat → At} {H : Heap} {w : World} {rd : List Nat} (hm : Mem V ρ (looked H rd) w) {g sz b m f : Nat} (hg : g ∈ rd) {bl : Blk} {es : List (List DC)} (hs : srcOf H (.sl g sz b m) = some (.blk f bl es))
    (hl : es.length = m) (hfl : isFlat bl es) {u : Value} (hu : CVr V ρ (.sl g sz b m) u) :
    (∀ e ∈ es, e.length = sz) ∧ (∀ e ∈ es, ∀ c ∈ e, DC.flat c) ∧ ∃ a cp, u = .slice a m cp ∧ (a = none → m = 0 ∧ cp = 0) ∧ (0 < m → ∃ ad, a = some ad ∧ ∀ j x, (flatE es)[j]? = some x → w.cell? (ad.add j) = some x) := by
  obtain ⟨hV, hsz, a, cp, rfl, h3, h4, h5, h6, h7⟩ := hu
  unfold srcOf at hs
  have fin : ∀ (full : List (List DC)), es = (full.drop b).take m → (∀ e ∈ full, e.length = sz) → (∀ e ∈ es, ∀ c ∈ e, DC.flat c) →
      (∀ bb, (ρ g).adr = some bb → ∀ i e j c, es[i]? = some e → e[j]? = some c → w.cell? ⟨bb, (ρ g).off + (b + i) * sz + j, none⟩ = some c.val) →
      (∀ e ∈ es, e.length = sz) ∧ (∀ e ∈ es, ∀ c ∈ e, DC.flat c) ∧ ∃ a' cp', (Value.slice a m cp) = .slice a' m cp' ∧ (a' = none → m = 0 ∧ cp' = 0) ∧ (0 < m → ∃ ad, a' = some ad ∧ ∀ j x, (flatE es)[j]? = some x → w.cell? (ad.add j) = some x) := by
    intro full he hfs hflat hc
    have hes : ∀ e ∈ es, e.length = sz := by
      intro e hee
      rw [he] at hee
      exact hfs e (List.mem_of_mem_drop (List.mem_of_mem_take hee))
    refine ⟨hes, hflat, a, cp, rfl, fun ha => by have := h5 ha; exact ⟨by omega, this⟩, fun hpos => ?_⟩
    obtain ⟨bb, q1, q2⟩ := h7 hpos
    refine ⟨_, q2, fun j x hj => ?_⟩
    rw [Addr.add_mid]
    have hjl : j < es.length * sz := by rw [← flatE_len hes]; exact (List.getElem?_eq_some_iff.1 hj).1
    have hsz0 : 0 < sz := by
      rcases Nat.eq_zero_or_pos sz with h0 | h0
      · rw [h0] at hjl; simp at hjl
      · exact h0
    have hi : j / sz < es.length := Nat.div_lt_of_lt_mul (by rw [Nat.mul_comm]; exact hjl)
    have hj' : j % sz < (es[j / sz]).length := by rw [hes _ (List.getElem_mem hi)]; exact Nat.mod_lt _ hsz0
    have hd : j / sz * sz + j % sz = j := by rw [Nat.mul_comm]; exact Nat.div_add_mod j sz
    have e1 := flatE_get hes (j / sz) _ (j % sz) _ (List.getElem?_eq_getElem hi) (List.getElem?_eq_getElem hj')
    rw [hd, hj] at e1
    have e2 := hc bb q1 (j / sz) _ (j % sz) _ (List.getElem?_eq_getElem hi) (List.getElem?_eq_getElem hj')
    rw [Option.some.inj e1, ← e2]
    congr 2
    rw [Nat.add_mul]; omega
  cases hH : hget H g with
  | none => simp [hH] at hs
  | some blk =>
    obtain ⟨_, hold, _⟩ := hm.dom g _ (looked_get hg hH)
    cases blk with
    | box T cs => simp [hH] at hs
    | row T full =>
      simp only [hH, Option.some.injEq, Src.blk.injEq] at hs
      obtain ⟨_, rfl, rfl⟩ := hs
      obtain ⟨⟨hoff, hex⟩, hcm, hle, hss, hflat, hn, hrow⟩ := hold
      rw [hsz] at hss
      refine fin full rfl hss (fun e he => hflat e (List.mem_of_mem_drop (List.mem_of_mem_take he))) fun bb hbb i e j c hi hj => ?_
      obtain ⟨_, cur, q1, q2, q3⟩ := hrow bb hbb
      have hlt : i < m := by rw [← hl]; exact (List.getElem?_eq_some_iff.1 hi).1
      rw [List.getElem?_take, if_pos hlt, List.getElem?_drop] at hi
      have hbi := (List.getElem?_eq_some_iff.1 hi)
      obtain ⟨hbi1, hbi2⟩ := hbi
      have := row_cells (w := w) (p := ρ g) q1 q3 (by rw [hsz]; exact hss) hbi1 j c.val (by rw [hbi2, List.getElem?_map, hj]; rfl)
      rw [hsz] at this
      rw [hoff, Nat.zero_add]; exact this
    | ro full =>
      simp only [hH, Option.some.injEq, Src.blk.injEq] at hs
      obtain ⟨_, rfl, rfl⟩ := hs
      obtain ⟨hcm, hle, hss, hne, hcell⟩ := hold
      rw [hsz] at hss hcell
      refine fin full rfl hss hfl fun bb hbb i e j c hi hj => ?_
      have hfc := hfl e (List.mem_of_getElem? hi) c (List.mem_of_getElem? hj)
      have hlt : i < m := by rw [← hl]; exact (List.getElem?_eq_some_iff.1 hi).1
      rw [List.getElem?_take, if_pos hlt, List.getElem?_drop] at hi
      obtain ⟨u, g1, g2⟩ := hcell (b + i) e j c bb hi hj hbb
      obtain ⟨x, rfl, hx⟩ := hfc
      cases g2
      exact g1

theorem owns_row {V : Nat → Prop} {ρ : Nat → At} {w : World} {f T : Nat} {es : List (List DC)} (h : Holds V ρ w (ρ f) (.row T es)) {sz n : Nat} {u : Value} (hu : CVr V ρ (.sl f sz 0 n) u) (hn : n = es.length) :
    w.ownsRow 0 T sz u n (flatE es) ∧ (∀ b, u.ownBlock = some b → (ρ f).F b) ∧ (∀ e ∈ es, e.length = sz) ∧ ∀ e ∈ es, ∀ c ∈ e, DC.flat c := by
  obtain ⟨⟨hoff, hex⟩, hcm, hle, hss, hflat, hnn, hrow⟩ := h
  obtain ⟨hV, hsz, a, cp, rfl, h3, h4, h5, h6, h7⟩ := hu
  obtain ⟨h8, h9⟩ := h6 rfl hex
  rw [hsz] at hss hrow
  subst h8 h9
  rw [hoff]
  subst hn
  cases hp : (ρ f).adr with
  | none =>
    have h0 := hnn hp
    have : es = [] := List.eq_nil_of_length_eq_zero (by omega)
    subst this
    exact ⟨⟨by simp [flatE], .inl ⟨by simp [h0], rfl⟩⟩, fun b hb => (by cases hb), fun e he => (by cases he), fun e he => (by cases he)⟩
  | some b =>
    obtain ⟨hF, cur, q1, q2, q3⟩ := hrow b hp
    exact ⟨⟨by rw [flatE_len hss], .inr ⟨b, (ρ f).cap, cur, rfl, Nat.zero_le _, q1, h3, h4, q2, q3⟩⟩, fun b' hb' => by simp [Value.ownBlock] at hb'; subst hb'; exact hF, hss, hflat⟩

end Go.Proofs.Ytmdajpgemcaefaa
