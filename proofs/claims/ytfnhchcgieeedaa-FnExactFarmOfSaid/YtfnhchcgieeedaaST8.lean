/-
  A row that the library sorts by a comparison that may lay blocks: the row as a fact, the two closures, the patterns' contract. No conditions of its own.
-/
import Derived.Test.YtfnhchcgieeedaaST1
import Derived.Test.YtfnhchcgieeedaaMSA
import Derived.Shelf.SlSortFuncK.BreakPatternsK
namespace Go.Proofs.Ytfnhchcgieeedaa
set_option linter.unusedSimpArgs false
set_option linter.unusedVariables false
set_option linter.unusedSimpArgs false
set_option linter.unusedVariables false
set_option linter.defProp false
open Go.Shelf Go.RowKit Go.Lib

section
variable {k : Nat} {p : List DC → Prop} [Inhabited (El k p)]

/-- Block b holds the row d, block Bs is as it was. -/
def RowF (T b Bs N : Nat) (bx : Obj) (d : Array (El k p)) (w : World) : Prop :=
  (∃ cur : Array Value, w.heap[b]? = some (.cells cur T (0, 0)) ∧ cur.size = N ∧ cur.toList.take (d.size * k) = (Sort.flatK El.enc k d).toList) ∧ w.heap[Bs]? = some bx

variable {T b Bs N n : Nat} {bx : Obj} {d d' : Array (El k p)} {w w' : World}

theorem RowF.holds (h : RowF T b Bs N bx d w) : Sort.HoldsK El.enc k w b 0 d := by
  obtain ⟨⟨cur, h1, h2, h3⟩, _⟩ := h
  exact srt_holds h1 (by rw [Sort.size_flatK, h3])

theorem RowF.lt (h : RowF T b Bs N bx d w) : b < w.heap.size ∧ Bs < w.heap.size := by
  obtain ⟨⟨cur, h1, h2, h3⟩, h4⟩ := h
  refine ⟨?_, ?_⟩
  · by_cases hb : b < w.heap.size
    · exact hb
    · rw [Array.getElem?_eq_none (by omega)] at h1; cases h1
  · by_cases hb : Bs < w.heap.size
    · exact hb
    · rw [Array.getElem?_eq_none (by omega)] at h4; cases h4

theorem RowF.put (h : RowF T b Bs N bx d w) (hne : Bs ≠ b) (hs : d'.size = d.size) (hN : d.size * k ≤ N) (m : Nat) (os : Array Obj) : RowF T b Bs N bx d' (Sort.grow (Sort.putRow id (Sort.ahead w m) b 0 (Sort.flatK El.enc k d')) os) := by
  have hl := h.lt
  obtain ⟨⟨cur, h1, h2, h3⟩, h4⟩ := h
  refine ⟨⟨_, srt_block h1 _ _ _, by rw [putCells_size]; exact h2, ?_⟩, ?_⟩
  · have hs0 : (Sort.flatK (El.enc (k := k) (p := p)) k d').size = d'.size * k := by rw [Sort.size_flatK]
    rw [← hs0, putCells_take _ _ (by rw [hs0, hs, h2]; exact hN)]
  · rw [srt_other hl.2 hne]; exact h4

theorem RowF.keep (h : RowF T b Bs N bx d w) (h1 : ∀ q ∈ [b, Bs], w'.heap[q]? = w.heap[q]?) : RowF T b Bs N bx d w' := by
  unfold RowF
  rw [h1 b (by simp), h1 Bs (by simp)]
  exact h

theorem RowF.post (h : RowF T b Bs N bx d w) (hne : Bs ≠ b) (hs : d'.size = d.size) (hN : d.size * k ≤ N) (m : Nat) (os : Array Obj) : CPost [b, Bs] (RowF T b Bs N bx d') w (Sort.grow (Sort.putRow id (Sort.ahead w m) b 0 (Sort.flatK El.enc k d')) os) := by
  refine ⟨h.put hne hs hN m os, rfl, rfl, rfl, by simp, fun q hq hF => ?_⟩
  exact srt_other hq (fun e => hF (by simp [e])) _ _ _
end

section
variable {P : Program} {t e k : Nat} {p : List DC → Prop} [Inhabited (El k p)] {lt : El k p → El k p → Bool}

theorem swapLit {ie : TypeInfo} {f : Nat} {gS : Bool} (hie : P.info? e = some ie) (hs1 : ie.size = k) (hx : ∀ args W, (callFunc f args).run P W = ((Extern.ReflectliteSwapper.swap gS args).run P W).andThen fun v w' => .ok (.value v) w') (hagg : ∀ w, (isAgg e).run P w = .ok true w) (b n c : Nat) :
    SwapSwapsK P f #[.slice (some ⟨b, 0, none⟩) n c, typeHandle P e] (El.enc (k := k) (p := p)) k b 0 n :=
  swapSwapsK_of_literal gS f hx e ie hie El.enc k El.enc_len hs1 hagg El.enc_one b 0 n c

theorem srtC_of {g f T b Bs N n : Nat} {lb sb : Array Value} {bx : Obj} (hsw : SwapSwapsK P f sb (El.enc (k := k) (p := p)) k b 0 n) (eg : ∀ args w, (callFunc g args).run P w = .ok (.enter g args) w) (hne : Bs ≠ b) (hN : n * k ≤ N)
    (hcl : ∀ (W : World) (dk : Array (El k p)), dk.size = n → RowF T b Bs N bx dk W → ∀ i j : Nat, i < n → j < n → Calls P g (#[.int .i64 i, .int .i64 j] ++ lb) W fun ex w' => ex = .returned (.bool (lt dk[i]! dk[j]!)) ∧ Below W.heap.size W w') :
    SrtC P lt [b, Bs] (RowF T b Bs N bx) (.func (.func g) #[] lb) (.func (.func f) #[] sb) n where
  one1 := rfl
  one2 := rfl
  st d w w' h h1 := h.keep h1
  less d hd i j hi hj := ⟨g, lb, rfl, fun w hS hφ => .inr ⟨eg _ _, (hcl w d hd hφ i j hi hj).mono fun ex w' he => by
    obtain ⟨rfl, hB⟩ := he
    exact ⟨rfl, ⟨hφ.keep fun q hq => hB.block q (hS q hq), hB.os, hB.tape, hB.output, hB.size, fun q hq _ => hB.block q hq⟩⟩⟩⟩
  swap d hd i j hi hj := ⟨f, sb, rfl, fun w hS hφ => .inl ⟨_, hsw w d hφ.holds hd i j hi hj, by
    have e := Sort.swap_worldK (El.enc (k := k) (p := p)) k El.enc_len w 0 0 b 0 d i j (by omega) (by omega)
    have e1 : (Sort.putRowK (El.enc (k := k) (p := p)) k (Sort.ahead w 0) b 0 d).drewN 0 = w := by
      rw [Sort.putRowK_drewN, Sort.putRowK_self _ _ _ _ _ _ (Sort.holdsK_ahead _ _ _ _ _ _ _ hφ.holds)]
      rfl
    rw [e1] at e
    rw [e]
    have h := hφ.post hne (d' := Sort.swp d i j) (by rw [Sort.size_swp]) (by rw [hd]; exact hN) 0 #[]
    have e2 : Sort.grow (Sort.putRow id (Sort.ahead w 0) b 0 (Sort.flatK (El.enc (k := k) (p := p)) k (Sort.swp d i j))) #[] = Sort.putRowK (El.enc (k := k) (p := p)) k (Sort.ahead w (0 + 0)) b 0 (Sort.swp d i j) := by
      unfold Sort.grow; simp; rfl
    rw [← e2]
    exact h⟩⟩

variable {ρS : Ren}

theorem brk_of (L : LaysGg.n28 P ρS) {fB g f T b Bs N n : Nat} (hfB : ρS.f 28 = fB) (hcal : Callable P fB) {lb sb : Array Value} {bx : Obj} (hsw : SwapSwapsK P f sb (El.enc (k := k) (p := p)) k b 0 n) (hne : Bs ≠ b) (hN : n * k ≤ N) (hn : n ≤ 1099511627) :
    ∀ d : Array (El k p), d.size = n → ∀ a c : Nat, a < c → c ≤ n → FnOK P fB ⟨1, [(0, some (.gh [b, Bs] (RowF T b Bs N bx d)))], [.agg [.v (.func (.func g) #[] lb), .v (.func (.func f) #[] sb)], .c (.v (.int .i64 (a : Int))), .c (.v (.int .i64 (c : Int)))], .tup [], [(0, some (.gh [b, Bs] (RowF T b Bs N bx (Sort.breakPatterns d a c))))], 1⟩ := by
  intro d hd a c hac hc
  have hsz : (Sort.breakPatterns d a c).size = d.size := (Sort.breakPatterns_holds d a c (by omega) (by omega)).1
  refine ⟨⟨⟨Nat.le_refl _, fun f hf => ?_, fun f bl hf => ?_, by simp [Con.eff]⟩, fun ρ vs w hvs hm => ?_⟩, hcal⟩
  · simp only [Con.eff, List.map_cons, List.map_nil, List.mem_singleton] at hf; subst hf; exact ⟨_, rfl⟩
  · simp only [Con.eff, List.mem_singleton, Prod.mk.injEq] at hf
    obtain ⟨rfl, rfl⟩ := hf
    exact ⟨Nat.zero_lt_one, fun _ => ⟨by simp [Con.eff], _, rfl, rfl⟩⟩
  · obtain ⟨hV0, ⟨hF, hφ, hst⟩, hlt⟩ := hm.dom 0 _ rfl
    obtain ⟨v0, v1, v2, rfl⟩ : ∃ v0 v1 v2, vs = [v0, v1, v2] := by
      have hl := hvs.length
      match vs, hl with
      | [v0, v1, v2], _ => exact ⟨v0, v1, v2, rfl⟩
    obtain ⟨⟨us, hu0, hu⟩, ⟨e1, _⟩, ⟨e2, _⟩, _⟩ := hvs
    obtain ⟨u0, u1, rfl⟩ : ∃ u0 u1, us = [u0, u1] := by
      have hl := hu.length
      match us, hl with
      | [v0, v1], _ => exact ⟨v0, v1, rfl⟩
    obtain ⟨⟨e3, _⟩, ⟨e4, _⟩, _⟩ := hu
    subst hu0 e1 e2 e3 e4
    have hc := Any.breakPatterns_func_cells_w L (El.enc (k := k) (p := p)) k El.enc_len (.func g) #[] lb f sb b 0 a c d w (by rw [hd]; exact hsw) hφ.holds hφ.lt.1 (by omega) (by omega) (by omega)
    rw [hfB] at hc
    refine hc.mono fun ex w' he => ?_
    obtain ⟨rfl, m, os, rfl⟩ := he
    have hp := hφ.post hne hsz (by rw [hd]; exact hN) m os
    refine ⟨_, ρ, rfl, ⟨same_of fun _ _ => rfl, ⟨[], rfl, trivial⟩, ⟨fun q blk hb => ?_, fun q q' blk blk' hqq hb hb' => ?_⟩, fun q blk hb x hx => ?_, hp.os, hp.tape, hp.output, hp.size, fun q hq hx => ?_⟩⟩
    · have h0 : q = 0 ∧ blk = .gh [b, Bs] (RowF T b Bs N bx (Sort.breakPatterns d a c)) := by
        simp only [Con.eff, hget] at hb
        split at hb
        · rename_i h; exact ⟨h, (Option.some.inj hb).symm⟩
        · cases hb
      obtain ⟨rfl, rfl⟩ := h0
      exact ⟨.inl hV0, ⟨hF, hp.fact, fun w'' hw => hp.fact.keep hw⟩, fun x hx => Nat.lt_of_lt_of_le (hlt x hx) hp.size⟩
    · simp only [Con.eff, hget] at hb hb'
      split at hb
      · split at hb'
        · rename_i h h'; exact absurd (h.trans h'.symm) hqq
        · cases hb'
      · cases hb
    · have h0 : q = 0 := by
        simp only [Con.eff, hget] at hb
        split at hb
        · assumption
        · cases hb
      subst h0
      exact .inr (.inl ⟨0, _, by simp only [Con.eff]; exact List.mem_singleton.2 rfl, Nat.zero_lt_one, _, rfl, hx⟩)
    · exact hp.block q hq fun hS => hx 0 _ (by simp only [Con.eff]; exact List.mem_singleton.2 rfl) Nat.zero_lt_one ⟨_, rfl, hF q hS⟩
end

end Go.Proofs.Ytfnhchcgieeedaa
