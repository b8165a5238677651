/-
  A row of rows that the library sorts: the region's last operations. No conditions of its own.
-/
import Derived.Test.YtfnhchcgieeedaaSN1
namespace Go.Proofs.Ytfnhchcgieeedaa
set_option linter.unusedSimpArgs false
set_option linter.unusedVariables false
set_option linter.unusedSimpArgs false
set_option linter.unusedVariables false
set_option linter.defProp false
open Go.Shelf Go.RowKit Go.Lib

section
variable {P : Program} {ρS : Ren} {t e k : Nat} {p : List DC → Prop} [Inhabited (ElN k p)] {lt : ElN k p → ElN k p → Bool} {X : Ctx}

theorem sort_tailN (L : LaysGg.n6 P ρS) (S : Srt P t e k) (hO : Sort.SWO lt) {g fS : Nat} (hfS : ρS.f 6 = fS) (hcal : Callable P fS) (eg : ∀ args w, (callFunc g args).run P w = .ok (.enter g args) w)
    {ops : Array Oper} {Q : Exit → Act → World → Prop} {K : List SV → Heap → Nat → Prop} {ds db d1 d2 cb n gr gb T Tb : Nat} {d3 : Option Tmp} {es : List (List DC)} {cs : List CV} {sl : List SV} {H : Heap} {nx : Nat} {a : Act} {w : World}
    {t1 t2 t3 : TypeId} {p1 p2 p3 : String} {a1 a2 a3 : Array Edge} {at3 : Array TypeId}
    (hmax : n < 4611686018427387904) (hs : Sat X sl H nx a w) (h1 : sl[ds]? = some (.c (.sl gr k 0 n))) (h2 : hget H gr = some (.nst T es none)) (hn : es.length = n) (hp : ∀ x ∈ es, p x)
    (h3 : sl[db]? = some (.c (.ptr gb 0 0))) (h4 : hget H gb = some (.box Tb cs)) (h5 : cs[cb]? = some (.sl gr k 0 n)) (hne : gb ≠ gr) (hdd : d1 ≠ d2) (hbd : db ≠ d1) (hl1 : d1 < sl.length) (hl2 : d2 < sl.length)
    (hcl : ∀ (blk Bs c : Nat) (W : World) (dk : Array (ElN k p)), dk.size = n → n < 4611686018427387904 → W.cell? ⟨Bs, cb, none⟩ = some (.slice (some ⟨blk, 0, none⟩) n c) → Sort.HoldsK ElN.enc k W blk 0 dk → ∀ i j : Nat, i < n → j < n →
      Calls P g #[.int .i64 i, .int .i64 j, .pointer (some ⟨Bs, 0, none⟩)] W fun ex w' => ex = .returned (.bool (lt dk[i]! dk[j]!)) ∧ ∃ q, w' = W.drewN q)
    (hQ : ∀ (d' : Array (ElN k p)), (rowN d').Perm es → Sort.SortedIn lt 0 n d' → d'.size = n → K (putS ((sl.set d1 .any).set d2 .any) d3 (.tup [])) (hput H gr (some (.nst T (rowN d') none))) nx)
    (hK : ∀ sl H nx a w, K sl H nx → Sat X sl H nx a w → Q .normal a w) :
    wpList P ops Q [⟨some d1, .makeInterface t (.tmp ds), t1, p1, a1, none⟩, ⟨some d2, .makeFunc (.func g) #[] #[.tmp db], t2, p2, a2, none⟩, ⟨d3, .call ⟨.value (.func fS), #[.tmp d1, .tmp d2], at3⟩, t3, p3, a3, none⟩] a w := by
  obtain ⟨du, hdu, hdi⟩ := S.un
  obtain ⟨V, ρ, hV, h0, hst⟩ := id hs
  -- the slots
  obtain ⟨u1, q1, hr1⟩ := hst.slots.get h1
  obtain ⟨u3, q3, hr3⟩ := hst.slots.get h3
  have hlen := hst.slots.length
  simp only [Array.length_toList] at hlen
  have e1 : a.eval (.tmp ds) = u1 := by
    rw [Array.getElem?_toList] at q1
    simp [Act.eval, q1]
  have e3 : a.eval (.tmp db) = u3 := by
    rw [Array.getElem?_toList] at q3
    simp [Act.eval, q3]
  refine value_wp rfl (v := .iface t u1) ?_ ?_
  · have hu : (underlying t).run P w = .ok du w := run_underlying hdu w
    cases du with
    | interface m => exact absurd rfl (hdi m)
    | _ => simp [execOp, Instr.makeInterface, hu, e1]
  refine value_wp rfl (v := .func (.func g) #[] #[u3]) ?_ ?_
  · have e4 := put_eval (a := a) (v := .iface t u1) hbd
    simp [execOp, Instr.makeFunc, e4, e3]
  -- the places
  obtain ⟨hVr, hsz, ad, cp, rfl, hle, hcp, hnil, hz, had⟩ := hr1
  obtain ⟨hVb, b', hb', rfl⟩ := hr3
  have hrow := hst.mem.dom gr _ h2
  obtain ⟨_, ⟨q, hN⟩, hFr⟩ := hrow
  obtain ⟨hoff, hex⟩ := hN.off
  obtain ⟨_, ⟨hboff, bb, vs, hbb, hFb, hbh, hbc⟩, hFbb⟩ := hst.mem.dom gb _ h4
  obtain rfl : b' = bb := by rw [hb'] at hbb; exact Option.some.inj hbb
  obtain ⟨hade, hcpe⟩ := hz rfl hex
  have hcells := hN.cells
  obtain ⟨cur, d, hrd, hcurE, hcurW⟩ : ∃ (cur : Array Value) (d : Array (ElN k p)), rowN d = es ∧ ((ρ gr).adr ≠ none → ElsOf w k cur q d) ∧ ∀ x, (ρ gr).adr = some x → w.heap[x]? = some (.cells cur T (0, 0)) ∧ cur.size = (ρ gr).cap * (ρ gr).sz := by
    cases ha : (ρ gr).adr with
    | none =>
      have h0 : es = [] := List.eq_nil_of_length_eq_zero (by have := hN.le; have := hN.nil ha; omega)
      exact ⟨#[], #[], by rw [h0]; rfl, fun h => absurd rfl h, fun x hx => by cases hx⟩
    | some x =>
      obtain ⟨c0, cur, c1, c2, c3⟩ := hcells x ha
      obtain ⟨d, d1, d2⟩ := els_of (k := k) (p := p) (w := w) (cur := cur) (q := q) (es := es) 0 (by rw [← hsz]; exact hN.sz) hp fun i e j c hi hj => by
        rw [Nat.zero_add, ← hsz]
        exact c3 i e j c hi hj
      refine ⟨cur, d.toArray, d1, fun _ => ⟨fun i j e x h1 h2 => ?_⟩, fun y hy => ?_⟩
      · have := d2 i j e x (by simpa using h1) h2
        rwa [Nat.zero_add] at this
      · cases hy; exact ⟨c1, c2⟩
  have hdn : d.size = n := by rw [← hn, ← hrd]; simp [rowN]
  obtain ⟨b, hb1, hb2⟩ : ∃ b, (∀ x, (ρ gr).adr = some x → x = b) ∧ ((ρ gr).adr = none → b = w.heap.size) := by
    cases h : (ρ gr).adr with
    | none => exact ⟨w.heap.size, fun x hx => by simp at hx, fun _ => rfl⟩
    | some x => exact ⟨x, fun y hy => by simpa using hy.symm, fun hx => by simp at hx⟩
  have hbk : 0 < n → (ρ gr).adr = some b ∧ ad = some ⟨b, 0, none⟩ := by
    intro h
    obtain ⟨x, hx, hy⟩ := had h
    obtain rfl := hb1 x hx
    refine ⟨hx, by rw [hy, hoff]; simp⟩
  have hbb' : ∀ x, (ρ gr).adr = some x → b' ≠ x := fun x hx he => hst.mem.sep gb gr _ _ hne h4 h2 b' hFb (by rw [he]; exact (hcells x hx).1)
  have hbw : b' < w.heap.size := hFbb b' hFb
  have hbne : b' ≠ b := by
    cases h : (ρ gr).adr with
    | none => rw [hb2 h]; omega
    | some x => obtain rfl := hb1 x h; exact hbb' x h
  obtain ⟨u5, q5, hr5⟩ := hbc.get h5
  obtain ⟨_, _, ad5, cp5, rfl, _, _, _, hz5, _⟩ := hr5
  obtain ⟨hade5, hcpe5⟩ := hz5 rfl hex
  have hbs0 : 0 < n → b < w.heap.size := fun h => hFr b (hcells b (hbk h).1).1
  have hHd : Sort.HoldsK ElN.enc k w b 0 d := by
    by_cases h : 0 < n
    · have hA := (hbk h).1
      obtain ⟨c1, c2⟩ := hcurW b hA
      exact srt_holds c1 (els_take (hcurE (by rw [hA]; exact fun h => by cases h)) (by rw [c2, hsz, hdn, ← hn]; exact Nat.mul_le_mul_right _ hN.le))
    · intro j hj
      rw [Sort.size_flatK, hdn, show n = 0 by omega, Nat.zero_mul] at hj
      omega
  have hB0 : (ρ gb).off + 0 * (ρ gb).sz + 0 = 0 := by rw [hboff]; simp
  rw [hB0]
  have hless : 2 ≤ n → LessReadsK P g #[.pointer (some ⟨b', 0, none⟩)] ElN.enc k lt b 0 n w := by
    intro h2n m os dk hdk i j hi hj
    have hbs : b < w.heap.size := hbs0 (by omega)
    have hH : Sort.HoldsK ElN.enc k (Sort.grow (Sort.ahead w m) os) b 0 d := by
      refine Sort.holdsK_grow _ _ _ _ _ _ _ hbs (Sort.holdsK_ahead _ _ _ _ _ _ _ hHd)
    have e : sortWorldK ElN.enc k w b 0 m dk os = Sort.putRowK ElN.enc k (Sort.grow (Sort.ahead w m) os) b 0 dk := by
      unfold sortWorldK
      rw [Sort.putRowK_grow _ _ (Sort.ahead w m) _ b 0 _ hbs]
    rw [e]
    refine hcl b b' cp _ dk hdk hmax ?_ (Sort.holdsK_putRowK _ _ _ b 0 d dk hH (by omega)) i j hi hj
    rw [Sort.cell?_putRowK_other _ _ _ b 0 dk _ hbne, Sort.cell?_grow _ _ _ hbw, Sort.cell?_ahead]
    have q6 : vs.toArray[cb]? = some (.slice ad5 n cp5) := by simpa using q5
    simp only [World.cell?, hbh, q6]
    rw [hade5, hcpe5, ← hcpe, (hbk (by omega)).1, hoff]
    rfl
  have hcs := sort_callsN L S hO ElN.enc_len ElN.enc_one eg d hdn hmax hHd hbs0 hless (c := cp) (ad := ad) fun h => (hbk h).2
  rw [hfS] at hcs
  unfold wpList
  rw [if_pos (by simp [Region.wanted])]
  refine .inl ?_
  have hexec : (execOp ((a.put (some d1) (.iface t (.slice ad n cp))).put (some d2) (.func (.func g) #[] #[.pointer (some ⟨b', 0, none⟩)])).eval ⟨d3, .call ⟨.value (.func fS), #[.tmp d1, .tmp d2], at3⟩, t3, p3, a3, none⟩).run P w = .ok (.enter fS #[.iface t (.slice ad n cp), .func (.func g) #[] #[.pointer (some ⟨b', 0, none⟩)]]) w := by
    have g1 : ((a.put (some d1) (.iface t (.slice ad n cp))).put (some d2) (.func (.func g) #[] #[.pointer (some ⟨b', 0, none⟩)])).eval (.tmp d1) = .iface t (.slice ad n cp) := by
      rw [put_eval hdd, put_eval_self (by omega)]
    have g2 : ((a.put (some d1) (.iface t (.slice ad n cp))).put (some d2) (.func (.func g) #[] #[.pointer (some ⟨b', 0, none⟩)])).eval (.tmp d2) = .func (.func g) #[] #[.pointer (some ⟨b', 0, none⟩)] := by
      rw [put_eval_self (by simp [Act.put]; omega)]
    exact exec_call hcal rfl rfl (by simp [g1, g2])
  unfold Oper.wp
  rw [hexec, Oper.upon_enter]
  refine hcs.mono fun ex w' he => ?_
  obtain ⟨rfl, d', m, os, hperm, hso, hsz', rfl⟩ := he
  refine hK _ _ _ _ _ (hQ d' (by rw [← hrd]; exact hperm.map _) hso hsz') ?_
  let e : Eff := ⟨.tup [], [gr], [(gr, some (.nst T (rowN d') none))], nx⟩
  have hst2 : St V ρ ((sl.set d1 .any).set d2 .any) H X.B X.T X.R X.w0 ((a.put (some d1) (.iface t (.slice ad n cp))).put (some d2) (.func (.func g) #[] #[.pointer (some ⟨b', 0, none⟩)])) w :=
    ⟨putS_r (r := .any) (putS_r (r := .any) (u := .iface t (.slice ad n cp)) hst.slots (some d1) trivial) (some d2) trivial, by simp [Act.put, hst.defers], hst.mem, hst.base, hst.foot, hst.os, hst.tape, hst.output, hst.size, hst.block, hst.le⟩
  have hfit : Fit H nx e := by
    refine ⟨Nat.le_refl _, fun f hf => ?_, fun f bl hf => ?_, by simp [e]⟩
    · simp only [e, List.mem_singleton] at hf; subst hf; exact ⟨_, h2⟩
    · simp only [e, List.mem_singleton, Prod.mk.injEq] at hf
      obtain ⟨rfl, rfl⟩ := hf
      exact ⟨hV _ hVr, fun _ => ⟨by simp [e], _, h2, rfl⟩⟩
  have hdone : Done V ρ H nx w e (.tuple #[]) ρ (Sort.grow (Sort.putRow id (Sort.ahead w m) b 0 (Sort.flatK ElN.enc k d')) os) := by
    refine ⟨same_of fun _ _ => rfl, ⟨[], rfl, trivial⟩, ⟨fun f blk hf => ?_, fun f f' blk blk' hff hf1 hf2 => ?_⟩, fun f blk hf x hx => ?_, rfl, rfl, rfl, by simp, fun q hq hF => ?_⟩
    · have hf' : f = gr ∧ blk = .nst T (rowN d') none := by
        simp only [e, hget] at hf
        split at hf
        · rename_i h; exact ⟨h, (Option.some.inj hf).symm⟩
        · cases hf
      obtain ⟨rfl, rfl⟩ := hf'
      refine ⟨.inl hVr, nest_sorted hN hsz hrd hcurE hperm (fun x hx => ?_) (fun x hx hne' => ?_), fun x hx => ?_⟩
      · obtain rfl := hb1 x hx
        obtain ⟨c1, c2⟩ := hcurW x hx
        exact ⟨c1, srt_block c1 _ _ _⟩
      · refine srt_other (hFr x hx) (fun h => ?_) _ _ _
        subst h
        cases ha : (ρ f).adr with
        | none => have := hFr x hx; rw [hb2 ha] at this; omega
        | some y => obtain rfl := hb1 y ha; exact hne' ha
      · have := hFr x hx
        simp; omega
    · simp only [e, hget] at hf1 hf2
      split at hf1
      · split at hf2
        · rename_i h h'; exact absurd (h.trans h'.symm) hff
        · cases hf2
      · cases hf1
    · have hf' : f = gr := by
        simp only [e, hget] at hf
        split at hf
        · assumption
        · cases hf
      subst hf'
      exact .inr (.inl ⟨f, some (.nst T (rowN d') none), by simp [e], hV _ hVr, _, h2, hx⟩)
    · refine srt_other hq (fun h => ?_) _ _ _
      subst h
      cases ha : (ρ gr).adr with
      | none => rw [hb2 ha] at hq; omega
      | some x =>
        obtain rfl := hb1 x ha
        exact hF gr (some (.nst T (rowN d') none)) (by simp [e]) (hV _ hVr) ⟨_, h2, (hcells x ha).1⟩
  have hfin := hst2.after (o := ⟨d3, .call ⟨.value (.func fS), #[.tmp d1, .tmp d2], at3⟩, t3, p3, a3, none⟩) (fun f hf => .inl (hV f hf)) hfit hdone
  refine ⟨_, ρ, fun f hf => ?_, h0, hfin⟩
  rcases hf with hf | hf
  · exact hV f hf
  · exact hf.2
end

end Go.Proofs.Ytfnhchcgieeedaa
