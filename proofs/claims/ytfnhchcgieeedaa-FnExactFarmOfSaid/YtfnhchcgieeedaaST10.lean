/-
  A row that the library sorts by a comparison that may lay blocks: the call, the region's operations. No conditions of its own.
-/
import Derived.Test.YtfnhchcgieeedaaST8
import Derived.Test.YtfnhchcgieeedaaMSA
import Derived.Sort.AssemblyPlain
namespace Go.Proofs.Ytfnhchcgieeedaa
set_option linter.unusedSimpArgs false
set_option linter.unusedVariables false
set_option linter.unusedSimpArgs false
set_option linter.unusedVariables false
set_option linter.defProp false
open Go.Shelf Go.RowKit Go.Lib

/-- The contract of the library's sort, over whatever comparison. -/
def PdqC (P : Program) {k : Nat} {p : List DC → Prop} [Inhabited (El k p)] (lt : El k p → El k p → Bool) (fB fP n : Nat) : Prop :=
  ∀ (S : List Nat) (Φ : Array (El k p) → World → Prop) (LF SF : Value), SrtC P lt S Φ LF SF n →
    (∀ d : Array (El k p), d.size = n → ∀ a b : Nat, a < b → b ≤ n → FnOK P fB ⟨1, [(0, some (.gh S (Φ d)))], [.agg [.v LF, .v SF], .c (.v (.int .i64 (a : Int))), .c (.v (.int .i64 (b : Int)))], .tup [], [(0, some (.gh S (Φ (Sort.breakPatterns d a b))))], 1⟩) →
    ∀ d : Array (El k p), d.size = n → ∀ limit : Nat, limit ≤ 1000000 → FnOK P fP ⟨1, [(0, some (.gh S (Φ d)))], [.agg [.v LF, .v SF], .c (.v (.int .i64 0)), .c (.v (.int .i64 (n : Int))), .c (.v (.int .i64 (limit : Int)))], .tup [], [(0, some (.gh S (Φ (Sort.pdq lt d 0 n limit true true))))], 1⟩

section
variable {P : Program} {ρS : Ren} {t e k : Nat} {p : List DC → Prop} [Inhabited (El k p)] {lt : El k p → El k p → Bool}

theorem sort_callsB (L : LaysGg.n6 P ρS) (S : Srt P t e k) (hO : Sort.SWO lt) {g fB fP : Nat} (hfB : ρS.f 28 = fB) (hcB : Callable P fB) (hfP : ρS.f 14 = fP) {lb : Array Value} (eg : ∀ args w, (callFunc g args).run P w = .ok (.enter g args) w) {b Bs N n c T : Nat} {bx : Obj} {w : World} (d : Array (El k p)) (hn : d.size = n) (hm : n ≤ 1099511627)
    (hne : Bs ≠ b) (hN : n * k ≤ N) (hpdq : PdqC P lt fB fP n)
    (hcl : ∀ (W : World) (dk : Array (El k p)), dk.size = n → RowF T b Bs N bx dk W → ∀ i j : Nat, i < n → j < n → Calls P g (#[.int .i64 i, .int .i64 j] ++ lb) W fun ex w' => ex = .returned (.bool (lt dk[i]! dk[j]!)) ∧ Below W.heap.size W w')
    (hR : 0 < n → RowF T b Bs N bx d w) {ad : Option Addr} (had : 0 < n → ad = some ⟨b, 0, none⟩) :
    Calls P (ρS.f 6) #[.iface t (.slice ad n c), .func (.func g) #[] lb] w fun ex w' => ex = .returned (.tuple #[]) ∧ ∃ d' : Array (El k p), (rowOf d').Perm (rowOf d) ∧ Sort.SortedIn lt 0 n d' ∧ d'.size = n ∧ (w'.os = w.os ∧ w'.tape = w.tape ∧ w'.output = w.output ∧ w.heap.size ≤ w'.heap.size) ∧
      (∀ q, q < w.heap.size → q ≠ b → w'.heap[q]? = w.heap[q]?) ∧ (n = 0 → ∀ q, q < w.heap.size → w'.heap[q]? = w.heap[q]?) ∧ (0 < n → RowF T b Bs N bx d' w') := by
  subst hn
  obtain ⟨i, hi, hd⟩ := S.ti
  obtain ⟨ie, ke, f, gS, hie, hke, hs1, hf, hx, hf1⟩ := S.el
  by_cases h2 : 2 ≤ d.size
  · have h0 : 0 < d.size := by omega
    have hR := hR h0
    rw [had h0]
    have hsw := swapLit (p := p) hie hs1 hx S.agg b d.size c
    have hC := srtC_of (lt := lt) (T := T) (N := N) (bx := bx) hsw eg hne hN hcl
    have hK := brk_of (ρS := ρS) { L with } (g := g) (lb := lb) (T := T) (bx := bx) hfB hcB hsw hne hN hm
    have hB : sliceBound P e ie ke (some ⟨b, 0, none⟩) d.size c = #[.slice (some ⟨b, 0, none⟩) d.size c, typeHandle P e] := by
      unfold sliceBound; rw [if_neg (swapperK_gt _ _ _ h2)]
    have hW : sliceWorld P ρS t (some ⟨b, 0, none⟩) d.size c w = Sort.grow w #[.cells #[.slice (some ⟨b, 0, none⟩) d.size c] t, .cells #[.pointer (some ⟨P.globals.size, t, none⟩), .pointer (some ⟨w.heap.size, 0, none⟩), .int .u64 151] (ρS.t 35)] := by
      unfold sliceWorld; rw [Sort.alloc_eq_grow, Sort.alloc_eq_grow, Sort.grow_grow]; rfl
    have hlim : Lib.bitLen d.size ≤ 62 := Lib.bitLen_le d.size 62 (by omega) (by omega)
    have hF := hpdq _ _ _ _ hC hK d rfl (Lib.bitLen d.size) (by omega)
    refine (Any.sort_Slice_of_pdq L t e i ie hi hd S.pk hie ke hke (some ⟨b, 0, none⟩) d.size c (by omega) f (hf _ h2) (.func g) #[] lb w (fun w' => ∃ d' : Array (El k p), (rowOf d').Perm (rowOf d) ∧ Sort.SortedIn lt 0 d.size d' ∧ d'.size = d.size ∧ (w'.os = w.os ∧ w'.tape = w.tape ∧ w'.output = w.output ∧ w.heap.size ≤ w'.heap.size) ∧
      (∀ q, q < w.heap.size → q ≠ b → w'.heap[q]? = w.heap[q]?) ∧ (d.size = 0 → ∀ q, q < w.heap.size → w'.heap[q]? = w.heap[q]?) ∧ (0 < d.size → RowF T b Bs N bx d' w')) ?_).mono fun ex w' he => he
    rw [hB, hW, hfP]
    generalize (#[.cells #[.slice (some ⟨b, 0, none⟩) d.size c] t, .cells #[.pointer (some ⟨P.globals.size, t, none⟩), .pointer (some ⟨w.heap.size, 0, none⟩), .int .u64 151] (ρS.t 35)] : Array Obj) = os0
    have hsz1 : w.heap.size ≤ (Sort.grow w os0).heap.size := by rw [Sort.size_grow]; omega
    have hgo : ∀ q, q < w.heap.size → (Sort.grow w os0).heap[q]? = w.heap[q]? := fun q hq => Sort.heap_grow_old _ _ hq
    have hR1 : RowF T b Bs N bx d (Sort.grow w os0) := hR.keep fun q hq => by
      refine hgo q ?_
      simp only [List.mem_cons, List.not_mem_nil, or_false] at hq
      rcases hq with rfl | rfl
      · exact hR.lt.1
      · exact hR.lt.2
    refine (hF.1.2 (fun _ => ⟨none, 0, 0, 0, True, fun x => x ∈ [b, Bs]⟩) [.agg #[.func (.func g) #[] lb, .func (.func f) #[] #[.slice (some ⟨b, 0, none⟩) d.size c, typeHandle P e]], .int .i64 0, .int .i64 d.size, .int .i64 (Lib.bitLen d.size)] (Sort.grow w os0) ⟨⟨[_, _], rfl, ⟨rfl, rfl⟩, ⟨rfl, rfl⟩, trivial⟩, ⟨rfl, rfl⟩, ⟨rfl, rfl⟩, ⟨rfl, rfl⟩, trivial⟩ ⟨fun q blk hb => ?_, fun q q' blk blk' hqq hb hb' => ?_⟩).mono fun ex w' he => ?_
    · simp only [hget] at hb
      split at hb
      · rename_i hq
        obtain rfl := (Option.some.inj hb)
        subst hq
        refine ⟨Nat.zero_lt_one, ⟨fun _ h => h, hR1, fun w'' hw => hR1.keep hw⟩, fun x hx => ?_⟩
        simp only [List.mem_cons, List.not_mem_nil, or_false] at hx
        rcases hx with rfl | rfl
        · exact hR1.lt.1
        · exact hR1.lt.2
      · cases hb
    · simp only [hget] at hb hb'
      split at hb
      · split at hb'
        · rename_i h h'; exact absurd (h.trans h'.symm) hqq
        · cases hb'
      · cases hb
    · obtain ⟨u, ρ', rfl, hd'⟩ := he
      obtain ⟨us, rfl, hus⟩ := hd'.val
      have hnil : us = [] := by
        have := hus.length
        exact List.eq_nil_of_length_eq_zero this.symm
      subst hnil
      obtain ⟨hpm, hso⟩ := Sort.pdq_sorts lt hO d 0 d.size (Lib.bitLen d.size) true true (Nat.zero_le _) (Nat.le_refl _) (Or.inl rfl)
      have hfin : RowF T b Bs N bx (Sort.pdq lt d 0 d.size (Lib.bitLen d.size) true true) w' := (hd'.mem.dom 0 _ rfl).2.1.2.1
      refine ⟨rfl, _, ?_, hso, hpm.1, ⟨hd'.os, hd'.tape, hd'.output, Nat.le_trans hsz1 hd'.size⟩, fun q hq hne' => ?_, fun h => absurd h (by omega), fun _ => hfin⟩
      · have h3 := hpm.2.2
        generalize Sort.pdq lt d 0 d.size (Lib.bitLen d.size) true true = d' at h3 hpm
        have e1 : d'.extract 0 d.size = d' := by rw [← hpm.1]; exact Array.extract_size
        have e2 : d.extract 0 d.size = d := Array.extract_size
        rw [e1, e2] at h3
        exact h3.map _
      · by_cases hqb : q = Bs
        · rw [hqb, hfin.2, hR.2]
        · rw [hd'.block q (Nat.lt_of_lt_of_le hq hsz1) fun g' x hg hlt hex => ?_]
          · exact hgo q hq
          · simp only [Con.eff, List.mem_singleton, Prod.mk.injEq] at hg
            obtain ⟨rfl, rfl⟩ := hg
            obtain ⟨blk, hb, hex⟩ := hex
            obtain rfl := Option.some.inj hb
            have hex : q ∈ [b, Bs] := hex
            simp only [List.mem_cons, List.not_mem_nil, or_false] at hex
            rcases hex with h | h
            · exact hne' h
            · exact hqb h
  · obtain ⟨f', hf'⟩ := hf1 d.size (by omega)
    refine (Any.sort_Slice_tiny L t e i ie hi hd S.pk hie ke hke ad d.size c (by omega) f' hf' (.func g) #[] lb w).mono ?_
    rintro ex w' ⟨rfl, os, rfl⟩
    have hgo : ∀ q, q < w.heap.size → (Sort.grow w os).heap[q]? = w.heap[q]? := fun q hq => Sort.heap_grow_old _ _ hq
    refine ⟨rfl, d, .refl _, fun i j h1 h3 h4 => by omega, rfl, ⟨rfl, rfl, rfl, by rw [Sort.size_grow]; omega⟩, fun q hq _ => hgo q hq, fun _ q hq => hgo q hq, fun h => (hR h).keep fun q hq => hgo q ?_⟩
    simp only [List.mem_cons, List.not_mem_nil, or_false] at hq
    rcases hq with rfl | rfl
    · exact (hR h).lt.1
    · exact (hR h).lt.2
end

section
variable {P : Program} {ρS : Ren} {t e k : Nat} {p : List DC → Prop} [Inhabited (El k p)] {lt : El k p → El k p → Bool} {X : Ctx}

theorem sort_tailB (L : LaysGg.n6 P ρS) (S : Srt P t e k) (hk : 0 < k) (hO : Sort.SWO lt) {g fS fB fP : Nat} (hfS : ρS.f 6 = fS) (hcal : Callable P fS) (hfB : ρS.f 28 = fB) (hcB : Callable P fB) (hfP : ρS.f 14 = fP) (eg : ∀ args w, (callFunc g args).run P w = .ok (.enter g args) w)
    {ops : Array Oper} {Q : Exit → Act → World → Prop} {K : List SV → Heap → Nat → Prop} {ds db d1 d2 cb n gr gb T Tb : Nat} {d3 : Option Tmp} {es : List (List DC)} {cs : List CV} {sl : List SV} {H : Heap} {nx : Nat} {a : Act} {w : World}
    {t1 t2 t3 : TypeId} {p1 p2 p3 : String} {a1 a2 a3 : Array Edge} {at3 : Array TypeId}
    (hmax : n ≤ 1099511627) (hpdq : PdqC P lt fB fP n) (hs : Sat X sl H nx a w) (h1 : sl[ds]? = some (.c (.sl gr k 0 n))) (h2 : hget H gr = some (.row T es)) (hn : es.length = n) (hp : ∀ x ∈ es, p x)
    (h3 : sl[db]? = some (.c (.ptr gb 0 0))) (h4 : hget H gb = some (.box Tb cs)) (h5 : cs[cb]? = some (.sl gr k 0 n)) (hne : gb ≠ gr) (hdd : d1 ≠ d2) (hbd : db ≠ d1) (hl1 : d1 < sl.length) (hl2 : d2 < sl.length)
    (hcl : ∀ (blk Bs c : Nat) (W : World) (dk : Array (El k p)), dk.size = n → blk < W.heap.size → Bs < W.heap.size → n ≤ c → c ≤ maxLen → W.cell? ⟨Bs, cb, none⟩ = some (.slice (some ⟨blk, 0, none⟩) n c) → Sort.HoldsK El.enc k W blk 0 dk → ∀ i j : Nat, i < n → j < n →
      Calls P g #[.int .i64 i, .int .i64 j, .pointer (some ⟨Bs, 0, none⟩)] W fun ex w' => ex = .returned (.bool (lt dk[i]! dk[j]!)) ∧ Below W.heap.size W w')
    (hQ : ∀ (d' : Array (El k p)), (rowOf d').Perm es → Sort.SortedIn lt 0 n d' → d'.size = n → K (putS ((sl.set d1 .any).set d2 .any) d3 (.tup [])) (hput H gr (some (.row T (rowOf d')))) nx)
    (hK : ∀ sl H nx a w, K sl H nx → Sat X sl H nx a w → Q .normal a w) :
    wpList P ops Q [⟨some d1, .makeInterface t (.tmp ds), t1, p1, a1, none⟩, ⟨some d2, .makeFunc (.func g) #[] #[.tmp db], t2, p2, a2, none⟩, ⟨d3, .call ⟨.value (.func fS), #[.tmp d1, .tmp d2], at3⟩, t3, p3, a3, none⟩] a w := by
  obtain ⟨du, hdu, hdi⟩ := S.un
  obtain ⟨V, ρ, hV, h0, hst⟩ := id hs
  -- the slots
  obtain ⟨u1, q1, hr1⟩ := hst.slots.get h1
  obtain ⟨u3, q3, hr3⟩ := hst.slots.get h3
  have hlen := hst.slots.length
  simp only [Array.length_toList] at hlen
  have e1 : a.eval (.tmp ds) = u1 := by
    rw [Array.getElem?_toList] at q1
    simp [Act.eval, q1]
  have e3 : a.eval (.tmp db) = u3 := by
    rw [Array.getElem?_toList] at q3
    simp [Act.eval, q3]
  refine value_wp rfl (v := .iface t u1) ?_ ?_
  · have hu : (underlying t).run P w = .ok du w := run_underlying hdu w
    cases du with
    | interface m => exact absurd rfl (hdi m)
    | _ => simp [execOp, Instr.makeInterface, hu, e1]
  refine value_wp rfl (v := .func (.func g) #[] #[u3]) ?_ ?_
  · have e4 := put_eval (a := a) (v := .iface t u1) hbd
    simp [execOp, Instr.makeFunc, e4, e3]
  -- the places
  obtain ⟨hVr, hsz, ad, cp, rfl, hle, hcp, hnil, hz, had⟩ := hr1
  obtain ⟨hVb, b', hb', rfl⟩ := hr3
  have hrow := hst.mem.dom gr _ h2
  obtain ⟨_, ⟨⟨hoff, hex⟩, hmc, hcap, hw, hfl, hn0, hcells⟩, hFr⟩ := hrow
  obtain ⟨_, ⟨hboff, bb, vs, hbb, hFb, hbh, hbc⟩, hFbb⟩ := hst.mem.dom gb _ h4
  obtain rfl : b' = bb := by rw [hb'] at hbb; exact Option.some.inj hbb
  obtain ⟨hade, hcpe⟩ := hz rfl hex
  rw [hsz] at hw
  obtain ⟨d, rfl⟩ := rowOf_ex (p := p) es hw hfl hp
  have hdn : d.size = n := by rw [← hn]; simp [rowOf]
  obtain ⟨b, hb1, hb2⟩ : ∃ b, (∀ x, (ρ gr).adr = some x → x = b) ∧ ((ρ gr).adr = none → b = w.heap.size) := by
    cases h : (ρ gr).adr with
    | none => exact ⟨w.heap.size, fun x hx => by simp at hx, fun _ => rfl⟩
    | some x => exact ⟨x, fun y hy => by simpa using hy.symm, fun hx => by simp at hx⟩
  have hbk : 0 < n → (ρ gr).adr = some b ∧ ad = some ⟨b, 0, none⟩ := by
    intro h
    obtain ⟨x, hx, hy⟩ := had h
    obtain rfl := hb1 x hx
    refine ⟨hx, by rw [hy, hoff]; simp⟩
  have hbb' : ∀ x, (ρ gr).adr = some x → b' ≠ x := fun x hx he => hst.mem.sep gb gr _ _ hne h4 h2 b' hFb (by rw [he]; exact (hcells x hx).1)
  have hbw : b' < w.heap.size := hFbb b' hFb
  have hbne : b' ≠ b := by
    cases h : (ρ gr).adr with
    | none => rw [hb2 h]; omega
    | some x => obtain rfl := hb1 x h; exact hbb' x h
  obtain ⟨u5, q5, hr5⟩ := hbc.get h5
  obtain ⟨_, _, ad5, cp5, rfl, _, _, _, hz5, _⟩ := hr5
  obtain ⟨hade5, hcpe5⟩ := hz5 rfl hex
  have hbrow : 0 < n → ∃ cur T, w.heap[b]? = some (.cells cur T (0, 0)) ∧ cur.toList.take (n * k) = flatE (rowOf d) := by
    intro h
    obtain ⟨_, cur, c1, c2, c3⟩ := hcells b (hbk h).1
    rw [hsz, hn] at c3
    exact ⟨cur, T, c1, c3⟩
  have hB0 : (ρ gb).off + 0 * (ρ gb).sz + 0 = 0 := by rw [hboff]; simp
  rw [hB0]
  obtain ⟨N, hNe⟩ : ∃ N, N = (ρ gr).cap * (ρ gr).sz := ⟨_, rfl⟩
  have hNk : n * k ≤ N := by rw [hNe, hsz, ← hn]; exact Nat.mul_le_mul_right _ hcap
  have hR0 : 0 < n → RowF T b b' N (.cells vs.toArray Tb (0, 0)) d w := fun h => by
    obtain ⟨_, cur, c1, c2, c3⟩ := hcells b (hbk h).1
    rw [hsz, hn] at c3
    exact ⟨⟨cur, c1, by rw [hNe]; exact c2, by rw [hdn, c3, flatK_row hk]⟩, hbh⟩
  have hless : ∀ (W : World) (dk : Array (El k p)), dk.size = n → RowF T b b' N (.cells vs.toArray Tb (0, 0)) dk W → ∀ i j : Nat, i < n → j < n → Calls P g (#[.int .i64 i, .int .i64 j] ++ #[.pointer (some ⟨b', 0, none⟩)]) W fun ex w' => ex = .returned (.bool (lt dk[i]! dk[j]!)) ∧ Below W.heap.size W w' := by
    intro W dk hdk hR i j hi hj
    refine hcl b b' cp W dk hdk hR.lt.1 hR.lt.2 hle hcp ?_ hR.holds i j hi hj
    have q6 : vs.toArray[cb]? = some (.slice ad5 n cp5) := by simpa using q5
    simp only [World.cell?, hR.2, q6]
    rw [hade5, hcpe5, ← hcpe, (hbk (by omega)).1, hoff]
    rfl
  have hcs := sort_callsB L S hO hfB hcB hfP eg d hdn hmax hbne hNk hpdq hless hR0 (c := cp) (ad := ad) fun h => (hbk h).2
  rw [hfS] at hcs
  unfold wpList
  rw [if_pos (by simp [Region.wanted])]
  refine .inl ?_
  have hexec : (execOp ((a.put (some d1) (.iface t (.slice ad n cp))).put (some d2) (.func (.func g) #[] #[.pointer (some ⟨b', 0, none⟩)])).eval ⟨d3, .call ⟨.value (.func fS), #[.tmp d1, .tmp d2], at3⟩, t3, p3, a3, none⟩).run P w = .ok (.enter fS #[.iface t (.slice ad n cp), .func (.func g) #[] #[.pointer (some ⟨b', 0, none⟩)]]) w := by
    have g1 : ((a.put (some d1) (.iface t (.slice ad n cp))).put (some d2) (.func (.func g) #[] #[.pointer (some ⟨b', 0, none⟩)])).eval (.tmp d1) = .iface t (.slice ad n cp) := by
      rw [put_eval hdd, put_eval_self (by omega)]
    have g2 : ((a.put (some d1) (.iface t (.slice ad n cp))).put (some d2) (.func (.func g) #[] #[.pointer (some ⟨b', 0, none⟩)])).eval (.tmp d2) = .func (.func g) #[] #[.pointer (some ⟨b', 0, none⟩)] := by
      rw [put_eval_self (by simp [Act.put]; omega)]
    exact exec_call hcal rfl rfl (by simp [g1, g2])
  unfold Oper.wp
  rw [hexec, Oper.upon_enter]
  refine hcs.mono fun ex w' he => ?_
  obtain ⟨rfl, d', hperm, hso, hsz', ⟨ho1, ho2, ho3, ho4⟩, hbl, hbl0, hrw⟩ := he
  have hsl : (rowOf d').length = n := by rw [← hsz']; simp [rowOf]
  refine hK _ _ _ _ _ (hQ d' hperm hso hsz') ?_
  let e : Eff := ⟨.tup [], [gr], [(gr, some (.row T (rowOf d')))], nx⟩
  have hst2 : St V ρ ((sl.set d1 .any).set d2 .any) H X.B X.T X.R X.w0 ((a.put (some d1) (.iface t (.slice ad n cp))).put (some d2) (.func (.func g) #[] #[.pointer (some ⟨b', 0, none⟩)])) w :=
    ⟨putS_r (r := .any) (putS_r (r := .any) (u := .iface t (.slice ad n cp)) hst.slots (some d1) trivial) (some d2) trivial, by simp [Act.put, hst.defers], hst.mem, hst.base, hst.foot, hst.os, hst.tape, hst.output, hst.size, hst.block, hst.le⟩
  have hfit : Fit H nx e := by
    refine ⟨Nat.le_refl _, fun f hf => ?_, fun f bl hf => ?_, by simp [e]⟩
    · simp only [e, List.mem_singleton] at hf; subst hf; exact ⟨_, h2⟩
    · simp only [e, List.mem_singleton, Prod.mk.injEq] at hf
      obtain ⟨rfl, rfl⟩ := hf
      exact ⟨hV _ hVr, fun _ => ⟨by simp [e], _, h2, rfl⟩⟩
  have hdone : Done V ρ H nx w e (.tuple #[]) ρ w' := by
    refine ⟨same_of fun _ _ => rfl, ⟨[], rfl, trivial⟩, ⟨fun f blk hf => ?_, fun f f' blk blk' hff hf1 hf2 => ?_⟩, fun f blk hf x hx => ?_, ho1, ho2, ho3, ho4, fun q hq hF => ?_⟩
    · have hf' : f = gr ∧ blk = .row T (rowOf d') := by
        simp only [e, hget] at hf
        split at hf
        · rename_i h; exact ⟨h, (Option.some.inj hf).symm⟩
        · cases hf
      obtain ⟨rfl, rfl⟩ := hf'
      refine ⟨.inl hVr, ⟨⟨hoff, hex⟩, hmc, by rw [hsl, ← hn]; exact hcap, by rw [hsz]; exact rowOf_len d', rowOf_flat d', hn0, fun x hx => ?_⟩, fun x hx => ?_⟩
      · obtain rfl := hb1 x hx
        refine ⟨(hcells x hx).1, ?_⟩
        by_cases h : 0 < n
        · obtain ⟨⟨cur, c1, c2, c3⟩, _⟩ := hrw h
          refine ⟨cur, c1, by rw [c2, hNe], ?_⟩
          rw [hsl, hsz, ← flatK_row hk, ← c3, hsz']
        · obtain ⟨c0, cur, c1, c2, c3⟩ := hcells x hx
          refine ⟨cur, ?_, c2, ?_⟩
          · rw [hbl0 (by omega) x (hFr x c0)]; exact c1
          · have h0 : n = 0 := by omega
            have h1 : (rowOf d').length = 0 := by rw [hsl, h0]
            rw [h1, List.eq_nil_of_length_eq_zero h1]
            simp [flatE]
      · exact Nat.lt_of_lt_of_le (hFr x hx) ho4
    · simp only [e, hget] at hf1 hf2
      split at hf1
      · split at hf2
        · rename_i h h'; exact absurd (h.trans h'.symm) hff
        · cases hf2
      · cases hf1
    · have hf' : f = gr := by
        simp only [e, hget] at hf
        split at hf
        · assumption
        · cases hf
      subst hf'
      exact .inr (.inl ⟨f, some (.row T (rowOf d')), by simp [e], hV _ hVr, _, h2, hx⟩)
    · refine hbl q hq (fun h => ?_)
      subst h
      cases ha : (ρ gr).adr with
      | none => rw [hb2 ha] at hq; omega
      | some x =>
        obtain rfl := hb1 x ha
        exact hF gr (some (.row T (rowOf d'))) (by simp [e]) (hV _ hVr) ⟨_, h2, (hcells x ha).1⟩
  have hfin := hst2.after (o := ⟨d3, .call ⟨.value (.func fS), #[.tmp d1, .tmp d2], at3⟩, t3, p3, a3, none⟩) (fun f hf => .inl (hV f hf)) hfit hdone
  refine ⟨_, ρ, fun f hf => ?_, h0, hfin⟩
  rcases hf with hf | hf
  · exact hV f hf
  · exact hf.2
end

end Go.Proofs.Ytfnhchcgieeedaa
