/-
  A row of rows that the library sorts: its elements, the call, the row behind. No conditions of its own.
-/
import Derived.Test.YtfnhchcgieeedaaMSA
namespace Go.Proofs.Ytfnhchcgieeedaa
set_option linter.unusedSimpArgs false
set_option linter.unusedVariables false
set_option linter.unusedSimpArgs false
set_option linter.unusedVariables false
set_option linter.defProp false
open Go.Shelf Go.RowKit Go.Lib

section
variable {P : Program} {ρS : Ren} {t e k : Nat} {α : Type} [Inhabited α] {lt : α → α → Bool} {enc : α → List Value}

theorem sort_callsN (L : LaysGg.n6 P ρS) (S : Srt P t e k) (hO : Sort.SWO lt) (hk : ∀ x, (enc x).length = k) (h1 : ∀ x, ∀ v ∈ enc x, v.oneCell' = true) {g : Nat} {lb : Array Value} (eg : ∀ args w, (callFunc g args).run P w = .ok (.enter g args) w) {b n c : Nat} {w : World} (d : Array α) (hn : d.size = n) (hm : n < 4611686018427387904)
    (hH : Sort.HoldsK enc k w b 0 d) (hb : 0 < n → b < w.heap.size) (hless : 2 ≤ n → LessReadsK P g lb enc k lt b 0 n w) {ad : Option Addr} (had : 0 < n → ad = some ⟨b, 0, none⟩) :
    Calls P (ρS.f 6) #[.iface t (.slice ad n c), .func (.func g) #[] lb] w fun ex w' => ex = .returned (.tuple #[]) ∧ ∃ (d' : Array α) (m : Nat) (os : Array Obj), d'.toList.Perm d.toList ∧ Sort.SortedIn lt 0 n d' ∧ d'.size = n ∧ w' = Sort.grow (Sort.putRow id (Sort.ahead w m) b 0 (Sort.flatK enc k d')) os := by
  subst hn
  obtain ⟨i, hi, hd⟩ := S.ti
  obtain ⟨ie, ke, f, gS, hie, hke, hs1, hf, hx, hf1⟩ := S.el
  by_cases h2 : 2 ≤ d.size
  · rw [had (by omega)]
    refine (Any.sort_Slice_cells_sorted L t e i ie hi hd S.pk hie ke hke enc k hk hs1 S.agg h1 lt hO g lb eg b 0 c d h2 hm f (hf _ h2) gS hx w (hless h2) hH (hb (by omega))).mono ?_
    rintro ex w' ⟨rfl, d', m, os, hp, hso, rfl⟩
    refine ⟨rfl, d', m, os, ?_, hso, hp.1, rfl⟩
    have h3 := hp.2.2
    have e1 : d'.extract 0 d.size = d' := by rw [← hp.1]; exact Array.extract_size
    have e2 : d.extract 0 d.size = d := Array.extract_size
    rw [e1, e2] at h3
    exact h3
  · obtain ⟨f', hf'⟩ := hf1 d.size (by omega)
    refine (Any.sort_Slice_tiny L t e i ie hi hd S.pk hie ke hke ad d.size c (by omega) f' hf' (.func g) #[] lb w).mono ?_
    rintro ex w' ⟨rfl, os, rfl⟩
    refine ⟨rfl, d, 0, os, .refl _, fun i j h1 h3 h4 => by omega, rfl, ?_⟩
    show Sort.grow w os = Sort.grow (Sort.putRowK enc k w b 0 d) os
    rw [Sort.putRowK_self enc k w b 0 d hH]
end

/-- An element of a row that is sorted: its cells, what they hold, where their rows lie. -/
def ElN (k : Nat) (p : List DC → Prop) : Type := {e : List (DC × Value × At) // (e.length = k ∧ ∀ c ∈ e, c.2.1.oneCell' = true ∧ ∀ x, c.1 = .v x → c.2.1 = x) ∧ p (e.map (·.1))}

section
variable {k : Nat} {p : List DC → Prop}

def ElN.enc (x : ElN k p) : List Value := x.1.map (·.2.1)
def ElN.row (x : ElN k p) : List DC := x.1.map (·.1)
theorem ElN.enc_len (x : ElN k p) : x.enc.length = k := by simp [ElN.enc, x.2.1.1]
theorem ElN.enc_one (x : ElN k p) : ∀ v ∈ x.enc, v.oneCell' = true := by
  intro v hv
  obtain ⟨c, hc, rfl⟩ := List.mem_map.1 hv
  exact (x.2.1.2 c hc).1
theorem ElN.row_len (x : ElN k p) : x.row.length = k := by simp [ElN.row, x.2.1.1]
theorem ElN.val (x : ElN k p) {j : Nat} {v : Value} (h : x.row[j]? = some (.v v)) : x.enc[j]? = some v := by
  unfold ElN.row at h
  rw [List.getElem?_map, Option.map_eq_some_iff] at h
  obtain ⟨c, h1, h2⟩ := h
  unfold ElN.enc
  rw [List.getElem?_map, h1, Option.map_some, (x.2.1.2 c (List.mem_of_getElem? h1)).2 v h2]

def rowN (d : Array (ElN k p)) : List (List DC) := d.toList.map ElN.row

theorem rowN_len (d : Array (ElN k p)) : ∀ e ∈ rowN d, e.length = k := by
  intro e he
  obtain ⟨x, _, rfl⟩ := List.mem_map.1 he
  exact x.row_len

theorem cel_one {w : World} {q : At} {c : DC} {u : Value} (h : Cel w q c u) : u.oneCell' = true := by
  cases c with
  | v x => rw [h.1]; exact h.2
  | sl T sz es => rw [h.2.2]; rfl

/-- What the elements know of the row. -/
structure ElsOf (w : World) (k : Nat) (cur : Array Value) (q : Nat → Nat → At) (d : Array (ElN k p)) : Prop where
  at' : ∀ i j e x, d.toList[i]? = some e → e.1[j]? = some x → cur[i * k + j]? = some x.2.1 ∧ Cel w x.2.2 x.1 x.2.1 ∧ x.2.2 = q i j

theorem elN_get (f : Nat → DC × Value × At) (k j : Nat) : ((List.range k).map f)[j]? = if j < k then some (f j) else none := by
  rw [List.getElem?_map]
  by_cases h : j < k
  · rw [if_pos h, List.getElem?_range h]; rfl
  · rw [if_neg h, List.getElem?_eq_none (by rw [List.length_range]; omega)]; rfl

theorem els_of {w : World} {cur : Array Value} {q : Nat → Nat → At} : ∀ {es : List (List DC)} (n : Nat), (∀ e ∈ es, e.length = k) → (∀ e ∈ es, p e) → (∀ i e j c, es[i]? = some e → e[j]? = some c → ∃ u, cur[(n + i) * k + j]? = some u ∧ Cel w (q (n + i) j) c u) →
    ∃ d : List (ElN k p), d.map ElN.row = es ∧ ∀ i j e x, d[i]? = some e → e.1[j]? = some x → cur[(n + i) * k + j]? = some x.2.1 ∧ Cel w x.2.2 x.1 x.2.1 ∧ x.2.2 = q (n + i) j
  | [], n, _, _, _ => ⟨[], rfl, fun i j e x h => by simp at h⟩
  | e :: es, n, h1, h2, h3 => by
    obtain ⟨d, hd1, hd2⟩ := els_of (es := es) (n + 1) (fun x hx => h1 x (.tail _ hx)) (fun x hx => h2 x (.tail _ hx)) fun i e' j c hi hj => by
      have := h3 (i + 1) e' j c (by simpa using hi) hj
      rw [show n + (i + 1) = n + 1 + i by omega] at this
      exact this
    have hl : e.length = k := h1 e (.head _)
    have hc : ∀ j, j < k → ∃ c u, e[j]? = some c ∧ cur[n * k + j]? = some u ∧ Cel w (q n j) c u := fun j hj => by
      have he : e[j]? = some (e[j]'(by omega)) := List.getElem?_eq_getElem (by omega)
      obtain ⟨u, h4, h5⟩ := h3 0 e j _ rfl he
      exact ⟨_, u, he, h4, h5⟩
    let f : Nat → DC × Value × At := fun j => ((e[j]?).getD (.v undef), (cur[n * k + j]?).getD undef, q n j)
    have hf : ∀ j x, ((List.range k).map f)[j]? = some x → j < k ∧ e[j]? = some x.1 ∧ cur[n * k + j]? = some x.2.1 ∧ Cel w x.2.2 x.1 x.2.1 ∧ x.2.2 = q n j := fun j x hx => by
      rw [elN_get] at hx
      split at hx
      · rename_i hj
        cases hx
        obtain ⟨c, u, g1, g2, g3⟩ := hc j hj
        refine ⟨hj, ?_, ?_, ?_, rfl⟩
        · show e[j]? = some ((e[j]?).getD _)
          rw [g1]; rfl
        · show cur[n * k + j]? = some ((cur[n * k + j]?).getD _)
          rw [g2]; rfl
        · show Cel w (q n j) ((e[j]?).getD _) ((cur[n * k + j]?).getD _)
          rw [g1, g2]; exact g3
      · cases hx
    have hrow : ((List.range k).map f).map (·.1) = e := by
      refine List.ext_getElem? fun j => ?_
      rw [List.getElem?_map, elN_get]
      by_cases hj : j < k
      · obtain ⟨c, u, g1, g2, g3⟩ := hc j hj
        rw [if_pos hj, g1]
        show some ((e[j]?).getD _) = _
        rw [g1]; rfl
      · rw [if_neg hj, List.getElem?_eq_none (by omega)]; rfl
    refine ⟨⟨(List.range k).map f, ⟨by simp, fun c hm => ?_⟩, by rw [hrow]; exact h2 e (.head _)⟩ :: d, ?_, fun i j e' x hi hj => ?_⟩
    · obtain ⟨j, hj, hje⟩ := List.mem_iff_getElem.1 hm
      have := hf j c (by rw [List.getElem?_eq_getElem hj, hje])
      refine ⟨cel_one this.2.2.2.1, fun x hx => ?_⟩
      have h6 := this.2.2.2.1
      rw [hx] at h6
      exact h6.1
    · show ((List.range k).map f).map (·.1) :: d.map ElN.row = _
      rw [hrow, hd1]
    · cases i with
      | zero =>
        obtain rfl := Option.some.inj hi
        exact (hf j x hj).2.2
      | succ i =>
        have hi : d[i]? = some e' := hi
        have := hd2 i j e' x hi hj
        rw [show n + (i + 1) = n + 1 + i by omega]
        exact this

variable [Inhabited (ElN k p)]

theorem flatN_get (d : Array (ElN k p)) {i j : Nat} {e : ElN k p} {x : DC × Value × At} (h1 : d.toList[i]? = some e) (h2 : e.1[j]? = some x) : (Sort.flatK ElN.enc k d)[i * k + j]? = some x.2.1 := by
  have hi : i < d.size := by
    rcases Nat.lt_or_ge i d.size with h | h
    · exact h
    · rw [List.getElem?_eq_none (by simpa using h)] at h1; cases h1
  have hj : j < k := by
    rcases Nat.lt_or_ge j k with h | h
    · exact h
    · rw [List.getElem?_eq_none (by rw [e.2.1.1]; omega)] at h2; cases h2
  have hk : (i + 1) * k ≤ d.size * k := Nat.mul_le_mul_right _ hi
  rw [Nat.add_mul, Nat.one_mul] at hk
  have e1 : (i * k + j) / k = i := by
    rw [Nat.mul_comm, Nat.mul_add_div (by omega), Nat.div_eq_of_lt hj, Nat.add_zero]
  have e2 : (i * k + j) % k = j := by
    rw [Nat.mul_comm, Nat.mul_add_mod, Nat.mod_eq_of_lt hj]
  have h7 : i * k + j < (Sort.flatK (ElN.enc (k := k) (p := p)) k d).size := by rw [Sort.size_flatK]; omega
  have h6 := Sort.get_flatK (ElN.enc (k := k) (p := p)) k d (i * k + j) (by omega)
  rw [getElem!_pos (Sort.flatK (ElN.enc (k := k) (p := p)) k d) (i * k + j) h7, e1, e2] at h6
  rw [Array.getElem?_eq_getElem h7, h6]
  have h8 : d[i]! = e := by
    rw [Array.getElem?_toList] at h1
    rw [getElem!_pos d i hi]
    rw [Array.getElem?_eq_getElem hi] at h1
    exact Option.some.inj h1
  rw [h8]
  have h9 : e.enc[j]? = some x.2.1 := by unfold ElN.enc; rw [List.getElem?_map, h2]; rfl
  have h10 : j < e.enc.length := by rw [ElN.enc_len]; exact hj
  rw [getElem!_pos e.enc j h10]
  rw [List.getElem?_eq_getElem h10] at h9
  exact h9

/-- The row holds its elements. -/
theorem els_take {w : World} {cur : Array Value} {q : Nat → Nat → At} {d : Array (ElN k p)} (h : ElsOf w k cur q d) (hc : d.size * k ≤ cur.size) : cur.toList.take (Sort.flatK ElN.enc k d).size = (Sort.flatK ElN.enc k d).toList := by
  refine List.ext_getElem? fun t => ?_
  rw [List.getElem?_take, Sort.size_flatK]
  by_cases ht : t < d.size * k
  · rw [if_pos ht]
    have hk : 0 < k := Nat.pos_of_ne_zero fun h0 => by simp [h0] at ht
    have h1 : t / k < d.size := Nat.div_lt_of_lt_mul (by rwa [Nat.mul_comm] at ht)
    have h2 : t % k < k := Nat.mod_lt _ hk
    have h3 : d.toList[t / k]? = some d[t / k] := by simp [h1]
    have h4 : (d[t / k]).1[t % k]? = some ((d[t / k]).1[t % k]'(by rw [(d[t / k]).2.1.1]; exact h2)) := by simp
    have e : t / k * k + t % k = t := by rw [Nat.mul_comm]; exact Nat.div_add_mod t k
    have h5 := (h.at' _ _ _ _ h3 h4).1
    have h6 := flatN_get d h3 h4
    rw [e] at h5 h6
    rw [Array.getElem?_toList, Array.getElem?_toList, h5, h6]
  · rw [if_neg ht, List.getElem?_eq_none (by rw [Array.length_toList, Sort.size_flatK]; omega)]

/-- The row behind a sort. -/
theorem nest_sorted {V V' : Nat → Prop} {ρ ρ' : Nat → At} {w w' : World} {pa : At} {T : Nat} {es : List (List DC)} {q : Nat → Nat → At} (hN : Nest V ρ w pa T es none q) (hs : pa.sz = k) {d d' : Array (ElN k p)} (hes : rowN d = es) {cur : Array Value}
    (hd : pa.adr ≠ none → ElsOf w k cur q d) (hp : d'.toList.Perm d.toList) (hc : ∀ b, pa.adr = some b → w.heap[b]? = some (.cells cur T (0, 0)) ∧ w'.heap[b]? = some (.cells (Sort.putCells id 0 (Sort.flatK ElN.enc k d') cur) T (0, 0)))
    (ho : ∀ b', pa.F b' → pa.adr ≠ some b' → w'.heap[b']? = w.heap[b']?) : ∃ q', Nest V' ρ' w' pa T (rowN d') none q' := by
  have hlen : (rowN d').length = es.length := by
    rw [← hes]; unfold rowN; rw [List.length_map, List.length_map, hp.length_eq]
  have hsz : d'.size = es.length := by rw [← hlen]; simp [rowN]
  cases ha : pa.adr with
  | none =>
    have h0 : es = [] := List.eq_nil_of_length_eq_zero (by have := hN.le; have := hN.nil ha; omega)
    have h1 : rowN d' = [] := List.eq_nil_of_length_eq_zero (by rw [hlen, h0]; rfl)
    rw [h1]
    exact ⟨fun _ _ => At.none0 0, hN.off, hN.cap, Nat.zero_le _, fun e he => (by cases he), hN.nil, fun i j b hb => hb.elim, fun i j i' j' b hb => hb.elim, fun b hb => by rw [ha] at hb; cases hb⟩
  | some b =>
    have hE := hd (by rw [ha]; exact fun h => by cases h)
    obtain ⟨hc1, hc2⟩ := hc b ha
    obtain ⟨hFb, cur0, g1, g2, _⟩ := hN.cells b ha
    rw [hc1] at g1
    cases g1
    -- where the rows of an element lie
    have hsub : ∀ e ∈ d'.toList, ∀ (j : Nat) (x : DC × Value × At), e.1[j]? = some x → ∃ i, d.toList[i]? = some e ∧ Cel w x.2.2 x.1 x.2.1 ∧ x.2.2 = q i j := fun e he j x hx => by
      obtain ⟨i, hi, hie⟩ := List.mem_iff_getElem.1 (hp.subset he)
      have h1 : d.toList[i]? = some e := by rw [List.getElem?_eq_getElem hi, hie]
      exact ⟨i, h1, (hE.at' i j e x h1 hx).2⟩
    have hpw : d'.toList.Pairwise fun e e' => ∀ (j j' : Nat) (x x' : DC × Value × At), e.1[j]? = some x → e'.1[j']? = some x' → ∀ b, x.2.2.F b → ¬ x'.2.2.F b := by
      refine (hp.pairwise_iff (fun {a b} h j j' x x' h1 h2 y h3 h4 => h j' j x' x h2 h1 y h4 h3)).2 ?_
      rw [List.pairwise_iff_getElem]
      intro i i' hi hi' hii j j' x x' h1 h2 y h3 h4
      have q1 := (hE.at' i j _ x (List.getElem?_eq_getElem hi) h1).2.2
      have q2 := (hE.at' i' j' _ x' (List.getElem?_eq_getElem hi') h2).2.2
      rw [q1] at h3; rw [q2] at h4
      exact absurd (hN.apart _ _ _ _ _ h3 h4).1 (by omega)
    let q' : Nat → Nat → At := fun i j => ((d'.toList[i]?).bind fun e => (e.1[j]?).map fun x => x.2.2).getD (At.none0 0)
    have hq1 : ∀ i j e x, d'.toList[i]? = some e → e.1[j]? = some x → q' i j = x.2.2 := fun i j e x h1 h2 => by
      show ((d'.toList[i]?).bind fun e => (e.1[j]?).map fun x => x.2.2).getD (At.none0 0) = _
      rw [h1, Option.bind_some, h2]; rfl
    have hq2 : ∀ i j y, (q' i j).F y → ∃ e x, d'.toList[i]? = some e ∧ e.1[j]? = some x ∧ x.2.2.F y := fun i j y hy => by
      have hy : (((d'.toList[i]?).bind fun e => (e.1[j]?).map fun x => x.2.2).getD (At.none0 0)).F y := hy
      cases h1 : d'.toList[i]? with
      | none => rw [h1] at hy; exact hy.elim
      | some e =>
        rw [h1, Option.bind_some] at hy
        cases h2 : e.1[j]? with
        | none => rw [h2] at hy; exact hy.elim
        | some x => rw [h2] at hy; exact ⟨e, x, rfl, h2, hy⟩
    refine ⟨q', hN.off, hN.cap, by rw [hlen]; exact hN.le, by rw [hs]; exact rowN_len d', hN.nil, fun i j y hy => ?_, fun i j i' j' y h1 h2 => ?_, fun b' hb' => ?_⟩
    · obtain ⟨e, x, h1, h2, h3⟩ := hq2 i j y hy
      obtain ⟨i0, _, _, h4⟩ := hsub e (List.mem_of_getElem? h1) j x h2
      rw [h4] at h3
      exact hN.sub i0 j y h3
    · obtain ⟨e, x, a1, a2, a3⟩ := hq2 i j y h1
      obtain ⟨e', x', b1, b2, b3⟩ := hq2 i' j' y h2
      rcases Nat.lt_trichotomy i i' with hlt | heq | hgt
      · have hi : i < d'.toList.length := by rcases Nat.lt_or_ge i d'.toList.length with h | h; exact h; rw [List.getElem?_eq_none h] at a1; cases a1
        have hi' : i' < d'.toList.length := by rcases Nat.lt_or_ge i' d'.toList.length with h | h; exact h; rw [List.getElem?_eq_none h] at b1; cases b1
        rw [List.getElem?_eq_getElem hi] at a1; rw [List.getElem?_eq_getElem hi'] at b1
        have := List.pairwise_iff_getElem.1 hpw i i' hi hi' hlt j j' x x' (by rw [Option.some.inj a1]; exact a2) (by rw [Option.some.inj b1]; exact b2) y a3
        exact absurd b3 this
      · subst heq
        rw [a1] at b1; cases b1
        obtain ⟨i0, c1, c2, c3⟩ := hsub e (List.mem_of_getElem? a1) j x a2
        have := (hE.at' i0 j' e x' c1 b2).2.2
        rw [c3] at a3; rw [this] at b3
        exact ⟨rfl, (hN.apart _ _ _ _ _ a3 b3).2⟩
      · have hi : i < d'.toList.length := by rcases Nat.lt_or_ge i d'.toList.length with h | h; exact h; rw [List.getElem?_eq_none h] at a1; cases a1
        have hi' : i' < d'.toList.length := by rcases Nat.lt_or_ge i' d'.toList.length with h | h; exact h; rw [List.getElem?_eq_none h] at b1; cases b1
        rw [List.getElem?_eq_getElem hi] at a1; rw [List.getElem?_eq_getElem hi'] at b1
        have := List.pairwise_iff_getElem.1 hpw i' i hi' hi hgt j' j x' x (by rw [Option.some.inj b1]; exact b2) (by rw [Option.some.inj a1]; exact a2) y b3
        exact absurd a3 this
    · have hb'' : b' = b := by rw [ha] at hb'; exact (Option.some.inj hb').symm
      subst hb''
      refine ⟨hFb, _, hc2, by rw [putCells_size]; exact g2, fun i r j c hi hj => ?_⟩
      unfold rowN at hi
      rw [List.getElem?_map, Option.map_eq_some_iff] at hi
      obtain ⟨e, h1, rfl⟩ := hi
      unfold ElN.row at hj
      rw [List.getElem?_map, Option.map_eq_some_iff] at hj
      obtain ⟨x, h2, rfl⟩ := hj
      have hfl := flatN_get d' h1 h2
      obtain ⟨i0, c1, c2, c3⟩ := hsub e (List.mem_of_getElem? h1) j x h2
      have hsize : (Sort.flatK (ElN.enc (k := k) (p := p)) k d').size ≤ cur.size := by
        rw [Sort.size_flatK, g2, hs, hsz]; exact Nat.mul_le_mul_right _ hN.le
      have hpc := putCells_take (Sort.flatK (ElN.enc (k := k) (p := p)) k d') cur hsize
      have hlt : i * k + j < (Sort.flatK (ElN.enc (k := k) (p := p)) k d').size := by
        rcases Nat.lt_or_ge (i * k + j) (Sort.flatK (ElN.enc (k := k) (p := p)) k d').size with h | h
        · exact h
        · rw [Array.getElem?_eq_none h] at hfl; cases hfl
      refine ⟨x.2.1, ?_, ?_⟩
      · have := congrArg (·[i * k + j]?) hpc
        simp only [List.getElem?_take, if_pos hlt, Array.getElem?_toList] at this
        rw [hs, this, hfl]
      · show Cel w' (q' i j) x.1 x.2.1
        rw [hq1 i j e x h1 h2]
        refine Cel.keep (fun y hy => ?_) c2
        rw [c3] at hy
        obtain ⟨s1, s2⟩ := hN.sub i0 j y hy
        exact ho y s1 s2
end

end Go.Proofs.Ytfnhchcgieeedaa
