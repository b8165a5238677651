/-
  The engine, texts SO1 SO2 SO3 SO9 in one. No conditions of its own.
-/
import Derived.Shelf.SlSortFuncK.WholeK
import Derived.Test.YtfnhchcgieeedaaMB
import Derived.Shelf.GgSortFunc.Tiny
namespace Go.Proofs.Ytfnhchcgieeedaa
set_option linter.unusedSimpArgs false
set_option linter.unusedVariables false
set_option linter.unusedSimpArgs false
set_option linter.unusedVariables false
set_option linter.defProp false
open Go.Shelf Go.RowKit Go.Lib

/-- An element of a row that is sorted: k plain cells, of which p holds. -/
def El (k : Nat) (p : List DC → Prop) : Type := {e : List DC // (e.length = k ∧ ∀ c ∈ e, DC.flat c) ∧ p e}

def El.enc {k : Nat} {p : List DC → Prop} (x : El k p) : List Value := x.1.map DC.val

theorem El.enc_len {k : Nat} {p : List DC → Prop} (x : El k p) : x.enc.length = k := by simp [El.enc, x.2.1.1]

theorem El.enc_one {k : Nat} {p : List DC → Prop} (x : El k p) : ∀ v ∈ x.enc, v.oneCell' = true := by
  intro v hv
  obtain ⟨c, hc, rfl⟩ := List.mem_map.1 hv
  obtain ⟨y, rfl, hy⟩ := x.2.1.2 c hc
  exact hy

def rowOf {k : Nat} {p : List DC → Prop} (d : Array (El k p)) : List (List DC) := d.toList.map (·.1)

theorem rowOf_len {k : Nat} {p : List DC → Prop} (d : Array (El k p)) : ∀ e ∈ rowOf d, e.length = k := by
  intro e he
  obtain ⟨x, _, rfl⟩ := List.mem_map.1 he
  exact x.2.1.1

theorem rowOf_flat {k : Nat} {p : List DC → Prop} (d : Array (El k p)) : ∀ e ∈ rowOf d, ∀ c ∈ e, DC.flat c := by
  intro e he
  obtain ⟨x, _, rfl⟩ := List.mem_map.1 he
  exact x.2.1.2

theorem rowOf_ex {k : Nat} {p : List DC → Prop} : ∀ (es : List (List DC)), (∀ e ∈ es, e.length = k) → (∀ e ∈ es, ∀ c ∈ e, DC.flat c) → (∀ e ∈ es, p e) → ∃ d : Array (El k p), rowOf d = es
  | [], _, _, _ => ⟨#[], rfl⟩
  | e :: es, h1, h2, h3 => by
    obtain ⟨d, hd⟩ := rowOf_ex (p := p) es (fun x hx => h1 x (.tail _ hx)) (fun x hx => h2 x (.tail _ hx)) fun x hx => h3 x (.tail _ hx)
    refine ⟨(⟨e, ⟨h1 e (.head _), h2 e (.head _)⟩, h3 e (.head _)⟩ :: d.toList).toArray, ?_⟩
    show e :: _ = _
    rw [← hd]
    rfl

theorem flatK_row {k : Nat} {p : List DC → Prop} [Inhabited (El k p)] (hk : 0 < k) (d : Array (El k p)) : (Sort.flatK El.enc k d).toList = flatE (rowOf d) := by
  have hl : (flatE (rowOf d)).length = d.size * k := by
    rw [flatE_len (rowOf_len d)]; simp [rowOf]
  refine List.ext_getElem? fun t => ?_
  by_cases ht : t < d.size * k
  · have h1 : t / k < d.size := Nat.div_lt_of_lt_mul (by rwa [Nat.mul_comm] at ht)
    have h2 : t % k < k := Nat.mod_lt _ hk
    have h3 : (rowOf d)[t / k]? = some d[t / k]!.1 := by
      simp [rowOf, h1]
    have h4 : d[t / k]!.1[t % k]? = some (d[t / k]!.1[t % k]'(by rw [d[t / k]!.2.1.1]; exact h2)) := by simp
    have h5 := flatE_get (rowOf_len d) _ _ _ _ h3 h4
    rw [show t / k * k + t % k = t by rw [Nat.mul_comm]; exact Nat.div_add_mod t k] at h5
    rw [h5]
    have h6 := Sort.get_flatK (El.enc (k := k) (p := p)) k d t ht
    have h7 : t < (Sort.flatK (El.enc (k := k) (p := p)) k d).size := by rw [Sort.size_flatK]; exact ht
    rw [getElem!_pos _ t h7] at h6
    rw [Array.getElem?_toList, Array.getElem?_eq_getElem h7, h6]
    congr 1
    have h8 : t % k < d[t / k]!.enc.length := by rw [El.enc_len]; exact h2
    rw [getElem!_pos d[t / k]!.enc (t % k) h8]
    simp [El.enc]
  · rw [List.getElem?_eq_none (by rw [Array.length_toList, Sort.size_flatK]; omega), List.getElem?_eq_none (by rw [hl]; omega)]

theorem putCells_size (fl cur : Array Value) : (Sort.putCells id 0 fl cur).size = cur.size := by simp [Sort.putCells]

theorem putCells_take (fl cur : Array Value) (h : fl.size ≤ cur.size) : (Sort.putCells id 0 fl cur).toList.take fl.size = fl.toList := by
  refine List.ext_getElem? fun t => ?_
  rw [List.getElem?_take]
  by_cases ht : t < fl.size
  · rw [if_pos ht, Array.getElem?_toList, Array.getElem?_toList]
    simp only [Sort.putCells, Array.getElem?_mapIdx, Array.getElem?_eq_getElem (show t < cur.size by omega), Option.map_some, Array.getElem?_eq_getElem ht]
    rw [if_pos ⟨by omega, by omega⟩]
    simp [ht]
  · rw [if_neg ht, List.getElem?_eq_none (by simp; omega)]

theorem srt_block {w : World} {b T : Nat} {cur : Array Value} (h : w.heap[b]? = some (.cells cur T (0, 0))) (fl : Array Value) (n : Nat) (os : Array Obj) :
    (Sort.grow (Sort.putRow id (Sort.ahead w n) b 0 fl) os).heap[b]? = some (.cells (Sort.putCells id 0 fl cur) T (0, 0)) := by
  have hb : b < w.heap.size := by
    by_cases hb : b < w.heap.size
    · exact hb
    · rw [Array.getElem?_eq_none (by omega)] at h; cases h
  rw [Sort.heap_grow_old _ _ (by simpa using hb)]
  simp [Sort.putRow, Sort.mapBlock, Array.getElem?_modify, h, Sort.onCells]

theorem srt_other {w : World} {b k : Nat} (hk : k < w.heap.size) (hne : k ≠ b) (fl : Array Value) (n : Nat) (os : Array Obj) :
    (Sort.grow (Sort.putRow id (Sort.ahead w n) b 0 fl) os).heap[k]? = w.heap[k]? := by
  rw [Sort.heap_grow_old _ _ (by simpa using hk)]
  simp [Sort.putRow, Sort.mapBlock, Array.getElem?_modify, Ne.symm hne]

theorem srt_holds {w : World} {b T : Nat} {cur : Array Value} (h : w.heap[b]? = some (.cells cur T (0, 0))) {fl : Array Value} (hF : cur.toList.take fl.size = fl.toList) : Sort.Holds id w b 0 fl := by
  intro j hj
  have h1 : cur[j]? = some fl[j]! := by
    have h2 := congrArg (·[j]?) hF
    simp only [List.getElem?_take, if_pos hj, Array.getElem?_toList] at h2
    rw [h2]; simp [hj]
  constructor
  · simp [World.cell?, h, h1]
  · simp [World.frozen?, h]

end Go.Proofs.Ytfnhchcgieeedaa

namespace Go.Proofs.Ytfnhchcgieeedaa
set_option linter.unusedSimpArgs false
set_option linter.unusedVariables false
set_option linter.defProp false
open Go.Shelf Go.RowKit Go.Lib

/-- What is asked of the program at a slice type whose rows are sorted. -/
structure Srt (P : Program) (t e k : Nat) : Prop where
  ti : ∃ i, P.info? t = some i ∧ i.desc = .slice e
  un : ∃ d, P.underlying t = some d ∧ ∀ m, d ≠ .interface m
  pk : P.packed t = false
  el : ∃ ie ke f gS, P.info? e = some ie ∧ (∀ w, (Extern.Rtype.kind e).run P w = .ok ke w) ∧ ie.size = k ∧ (∀ n, 2 ≤ n → P.funcs.findIdx? (·.name == "internal/reflectlite" ++ ".Swapper$" ++ toString (swapperK n ie ke)) = some f) ∧
    (∀ args W, (callFunc f args).run P W = ((Extern.ReflectliteSwapper.swap gS args).run P W).andThen fun v w' => .ok (.value v) w') ∧ (∀ n, n ≤ 1 → ∃ f', P.funcs.findIdx? (·.name == "internal/reflectlite" ++ ".Swapper$" ++ toString (swapperK n ie ke)) = some f')
  agg : ∀ w, (isAgg e).run P w = .ok true w

section
variable {P : Program} {ρS : Ren} {t e k : Nat} {p : List DC → Prop} [Inhabited (El k p)] {lt : El k p → El k p → Bool}

theorem sort_calls (L : LaysGg.n6 P ρS) (S : Srt P t e k) (hk : 0 < k) (hO : Sort.SWO lt) {g : Nat} {lb : Array Value} (eg : ∀ args w, (callFunc g args).run P w = .ok (.enter g args) w) {b n c : Nat} {w : World} (d : Array (El k p)) (hn : d.size = n) (hm : n < 4611686018427387904)
    (hb : 0 < n → ∃ cur T, w.heap[b]? = some (.cells cur T (0, 0)) ∧ cur.toList.take (n * k) = flatE (rowOf d)) (hless : 2 ≤ n → LessReadsK P g lb El.enc k lt b 0 n w) {ad : Option Addr} (had : 0 < n → ad = some ⟨b, 0, none⟩) :
    Calls P (ρS.f 6) #[.iface t (.slice ad n c), .func (.func g) #[] lb] w fun ex w' => ex = .returned (.tuple #[]) ∧ ∃ (d' : Array (El k p)) (m : Nat) (os : Array Obj), (rowOf d').Perm (rowOf d) ∧ Sort.SortedIn lt 0 n d' ∧ d'.size = n ∧ w' = Sort.grow (Sort.putRow id (Sort.ahead w m) b 0 (Sort.flatK El.enc k d')) os := by
  subst hn
  obtain ⟨i, hi, hd⟩ := S.ti
  obtain ⟨ie, ke, f, gS, hie, hke, hs1, hf, hx, hf1⟩ := S.el
  have hH : Sort.HoldsK El.enc k w b 0 d := by
    intro j hj
    have h0 : 0 < d.size := by
      rw [Sort.size_flatK] at hj
      exact Nat.pos_of_ne_zero fun h => by simp [h] at hj
    obtain ⟨cur, T, h1, h2⟩ := hb h0
    exact srt_holds h1 (by rw [flatK_row hk, Sort.size_flatK, h2]) j hj
  by_cases h2 : 2 ≤ d.size
  · have hbw : b < w.heap.size := by
      obtain ⟨cur, T, h1, _⟩ := hb (by omega)
      by_cases h : b < w.heap.size
      · exact h
      · rw [Array.getElem?_eq_none (by omega)] at h1; cases h1
    rw [had (by omega)]
    refine (Any.sort_Slice_cells_sorted L t e i ie hi hd S.pk hie ke hke El.enc k El.enc_len hs1 S.agg El.enc_one lt hO g lb eg b 0 c d h2 hm f (hf _ h2) gS hx w (hless h2) hH hbw).mono ?_
    rintro ex w' ⟨rfl, d', m, os, hp, hso, rfl⟩
    refine ⟨rfl, d', m, os, ?_, hso, hp.1, rfl⟩
    have h3 := hp.2.2
    have e1 : d'.extract 0 d.size = d' := by rw [← hp.1]; exact Array.extract_size
    have e2 : d.extract 0 d.size = d := Array.extract_size
    rw [e1, e2] at h3
    exact h3.map _
  · obtain ⟨f', hf'⟩ := hf1 d.size (by omega)
    refine (Any.sort_Slice_tiny L t e i ie hi hd S.pk hie ke hke ad d.size c (by omega) f' hf' (.func g) #[] lb w).mono ?_
    rintro ex w' ⟨rfl, os, rfl⟩
    refine ⟨rfl, d, 0, os, .refl _, fun i j h1 h3 h4 => by omega, rfl, ?_⟩
    show Sort.grow w os = Sort.grow (Sort.putRowK El.enc k w b 0 d) os
    rw [Sort.putRowK_self El.enc k w b 0 d hH]
end

end Go.Proofs.Ytfnhchcgieeedaa

namespace Go.Proofs.Ytfnhchcgieeedaa
set_option linter.unusedSimpArgs false
set_option linter.unusedVariables false
set_option linter.defProp false
open Go.Shelf Go.RowKit Go.Lib

section
variable {P : Program} {X : Ctx}

/-- One operation behind the other, up to the last ones. -/
theorem lexK_pre {ck : Bool} {ops : Array Oper} {tail : List Oper} {Q : Exit → Act → World → Prop} {K : List SV → Heap → Nat → Prop}
    (hQ : ∀ sl H nx a w, K sl H nx → Sat X sl H nx a w → wpList P ops Q tail a w) : ∀ (l : List Oper) (_ : ∀ o ∈ l, o.guard = none) (sl : List SV) (H : Heap) (nx : Nat) (a : Act) (w : World), lexK P ck (dstsOf ops.toList) l sl H nx K → Sat X sl H nx a w → wpList P ops Q (l ++ tail) a w
  | [], _, sl, H, nx, a, w, h, hs => hQ sl H nx a w h hs
  | o :: l, hg, sl, H, nx, a, w, h, hs => by
    have hg0 := hg o (.head _)
    unfold lexK at h
    show wpList P ops Q (o :: (l ++ tail)) a w
    unfold wpList
    rw [hg0] at h
    rw [if_pos (by simp [Region.wanted, hg0])]
    exact .inl (hs.step h fun e he a' w' hs' => lexK_pre hQ l (fun o ho => hg o (.tail _ ho)) _ _ _ a' w' he hs')

theorem Sat.putAny {sl : List SV} {H : Heap} {nx : Nat} {a : Act} {w : World} (h : Sat X sl H nx a w) (d : Option Tmp) (u : Value) : Sat X (putS sl d .any) H nx (a.put d u) w := by
  obtain ⟨V, ρ, hV, h0, hst⟩ := h
  refine ⟨V, ρ, hV, h0, ⟨putS_r hst.slots d trivial, ?_, hst.mem, hst.base, hst.foot, hst.os, hst.tape, hst.output, hst.size, hst.block, hst.le⟩⟩
  cases d <;> simp [Act.put, hst.defers]

theorem value_wp {ops : Array Oper} {Q : Exit → Act → World → Prop} {o : Oper} {rest : List Oper} {a : Act} {w : World} {v : Value} (hg : o.guard = none) (hx : (execOp a.eval o).run P w = .ok (.value v) w) (h : wpList P ops Q rest (a.put o.dst v) w) : wpList P ops Q (o :: rest) a w := by
  unfold wpList
  rw [if_pos (by simp [Region.wanted, hg])]
  refine .inl ?_
  unfold Oper.wp
  rw [hx]
  exact h

theorem put_eval {a : Act} {d x : Nat} {v : Value} (h : x ≠ d) : (a.put (some d) v).eval (.tmp x) = a.eval (.tmp x) := by
  simp [Act.put, Act.eval, Array.getElem?_setIfInBounds, Ne.symm h]

theorem put_eval_self {a : Act} {d : Nat} {v : Value} (h : d < a.tmps.size) : (a.put (some d) v).eval (.tmp d) = v := by
  simp [Act.put, Act.eval, Array.getElem?_setIfInBounds, h]

theorem exec_call {o : Oper} {cl : Call} {f : FuncId} {a : Act} {w : World} {xs : Array Value} (hcal : Callable P f) (ho : o.op = .call cl) (hcl : cl.callee = .value (.func f)) (hx : cl.args.map a.eval = xs) :
    (execOp a.eval o).run P w = .ok (.enter f xs) w := by
  obtain ⟨fn, h1, h2, h3⟩ := hcal
  unfold execOp
  simp only [ho, resolve, hcl, Act.eval, Deferred.ofValue, Sem.run_bind, Sem.run_pure, Result.andThen_ok, invoke, callFunc, run_program, h1, h2, h3]
  simp [hx]

end

section
variable {P : Program} {ρS : Ren} {t e k : Nat} {p : List DC → Prop} [Inhabited (El k p)] {lt : El k p → El k p → Bool} {X : Ctx}

theorem sort_tail (L : LaysGg.n6 P ρS) (S : Srt P t e k) (hk : 0 < k) (hO : Sort.SWO lt) {g fS : Nat} (hfS : ρS.f 6 = fS) (hcal : Callable P fS) (eg : ∀ args w, (callFunc g args).run P w = .ok (.enter g args) w)
    {ops : Array Oper} {Q : Exit → Act → World → Prop} {K : List SV → Heap → Nat → Prop} {ds db d1 d2 cb n gr gb T Tb : Nat} {d3 : Option Tmp} {es : List (List DC)} {cs : List CV} {sl : List SV} {H : Heap} {nx : Nat} {a : Act} {w : World}
    {t1 t2 t3 : TypeId} {p1 p2 p3 : String} {a1 a2 a3 : Array Edge} {at3 : Array TypeId}
    (hmax : n < 4611686018427387904) (hs : Sat X sl H nx a w) (h1 : sl[ds]? = some (.c (.sl gr k 0 n))) (h2 : hget H gr = some (.row T es)) (hn : es.length = n) (hp : ∀ x ∈ es, p x)
    (h3 : sl[db]? = some (.c (.ptr gb 0 0))) (h4 : hget H gb = some (.box Tb cs)) (h5 : cs[cb]? = some (.sl gr k 0 n)) (hne : gb ≠ gr) (hdd : d1 ≠ d2) (hbd : db ≠ d1) (hl1 : d1 < sl.length) (hl2 : d2 < sl.length)
    (hcl : ∀ (blk Bs c : Nat) (W : World) (dk : Array (El k p)), dk.size = n → n < 4611686018427387904 → W.cell? ⟨Bs, cb, none⟩ = some (.slice (some ⟨blk, 0, none⟩) n c) → Sort.HoldsK El.enc k W blk 0 dk → ∀ i j : Nat, i < n → j < n →
      Calls P g #[.int .i64 i, .int .i64 j, .pointer (some ⟨Bs, 0, none⟩)] W fun ex w' => ex = .returned (.bool (lt dk[i]! dk[j]!)) ∧ ∃ q, w' = W.drewN q)
    (hQ : ∀ (d' : Array (El k p)), (rowOf d').Perm es → Sort.SortedIn lt 0 n d' → d'.size = n → K (putS ((sl.set d1 .any).set d2 .any) d3 (.tup [])) (hput H gr (some (.row T (rowOf d')))) nx)
    (hK : ∀ sl H nx a w, K sl H nx → Sat X sl H nx a w → Q .normal a w) :
    wpList P ops Q [⟨some d1, .makeInterface t (.tmp ds), t1, p1, a1, none⟩, ⟨some d2, .makeFunc (.func g) #[] #[.tmp db], t2, p2, a2, none⟩, ⟨d3, .call ⟨.value (.func fS), #[.tmp d1, .tmp d2], at3⟩, t3, p3, a3, none⟩] a w := by
  obtain ⟨du, hdu, hdi⟩ := S.un
  obtain ⟨V, ρ, hV, h0, hst⟩ := id hs
  -- the slots
  obtain ⟨u1, q1, hr1⟩ := hst.slots.get h1
  obtain ⟨u3, q3, hr3⟩ := hst.slots.get h3
  have hlen := hst.slots.length
  simp only [Array.length_toList] at hlen
  have e1 : a.eval (.tmp ds) = u1 := by
    rw [Array.getElem?_toList] at q1
    simp [Act.eval, q1]
  have e3 : a.eval (.tmp db) = u3 := by
    rw [Array.getElem?_toList] at q3
    simp [Act.eval, q3]
  refine value_wp rfl (v := .iface t u1) ?_ ?_
  · have hu : (underlying t).run P w = .ok du w := run_underlying hdu w
    cases du with
    | interface m => exact absurd rfl (hdi m)
    | _ => simp [execOp, Instr.makeInterface, hu, e1]
  refine value_wp rfl (v := .func (.func g) #[] #[u3]) ?_ ?_
  · have e4 := put_eval (a := a) (v := .iface t u1) hbd
    simp [execOp, Instr.makeFunc, e4, e3]
  -- the places
  obtain ⟨hVr, hsz, ad, cp, rfl, hle, hcp, hnil, hz, had⟩ := hr1
  obtain ⟨hVb, b', hb', rfl⟩ := hr3
  have hrow := hst.mem.dom gr _ h2
  obtain ⟨_, ⟨⟨hoff, hex⟩, hmc, hcap, hw, hfl, hn0, hcells⟩, hFr⟩ := hrow
  obtain ⟨_, ⟨hboff, bb, vs, hbb, hFb, hbh, hbc⟩, hFbb⟩ := hst.mem.dom gb _ h4
  obtain rfl : b' = bb := by rw [hb'] at hbb; exact Option.some.inj hbb
  obtain ⟨hade, hcpe⟩ := hz rfl hex
  rw [hsz] at hw
  obtain ⟨d, rfl⟩ := rowOf_ex (p := p) es hw hfl hp
  have hdn : d.size = n := by rw [← hn]; simp [rowOf]
  obtain ⟨b, hb1, hb2⟩ : ∃ b, (∀ x, (ρ gr).adr = some x → x = b) ∧ ((ρ gr).adr = none → b = w.heap.size) := by
    cases h : (ρ gr).adr with
    | none => exact ⟨w.heap.size, fun x hx => by simp at hx, fun _ => rfl⟩
    | some x => exact ⟨x, fun y hy => by simpa using hy.symm, fun hx => by simp at hx⟩
  have hbk : 0 < n → (ρ gr).adr = some b ∧ ad = some ⟨b, 0, none⟩ := by
    intro h
    obtain ⟨x, hx, hy⟩ := had h
    obtain rfl := hb1 x hx
    refine ⟨hx, by rw [hy, hoff]; simp⟩
  have hbb' : ∀ x, (ρ gr).adr = some x → b' ≠ x := fun x hx he => hst.mem.sep gb gr _ _ hne h4 h2 b' hFb (by rw [he]; exact (hcells x hx).1)
  have hbw : b' < w.heap.size := hFbb b' hFb
  have hbne : b' ≠ b := by
    cases h : (ρ gr).adr with
    | none => rw [hb2 h]; omega
    | some x => obtain rfl := hb1 x h; exact hbb' x h
  obtain ⟨u5, q5, hr5⟩ := hbc.get h5
  obtain ⟨_, _, ad5, cp5, rfl, _, _, _, hz5, _⟩ := hr5
  obtain ⟨hade5, hcpe5⟩ := hz5 rfl hex
  have hbrow : 0 < n → ∃ cur T, w.heap[b]? = some (.cells cur T (0, 0)) ∧ cur.toList.take (n * k) = flatE (rowOf d) := by
    intro h
    obtain ⟨_, cur, c1, c2, c3⟩ := hcells b (hbk h).1
    rw [hsz, hn] at c3
    exact ⟨cur, T, c1, c3⟩
  have hB0 : (ρ gb).off + 0 * (ρ gb).sz + 0 = 0 := by rw [hboff]; simp
  rw [hB0]
  have hless : 2 ≤ n → LessReadsK P g #[.pointer (some ⟨b', 0, none⟩)] El.enc k lt b 0 n w := by
    intro h2n m os dk hdk i j hi hj
    obtain ⟨cur, T', c1, c2⟩ := hbrow (by omega)
    have hbs : b < w.heap.size := hFr b (hcells b (hbk (by omega)).1).1
    have hH : Sort.HoldsK El.enc k (Sort.grow (Sort.ahead w m) os) b 0 d := by
      refine Sort.holdsK_grow _ _ _ _ _ _ _ hbs (Sort.holdsK_ahead _ _ _ _ _ _ _ ?_)
      exact srt_holds c1 (by rw [flatK_row hk, Sort.size_flatK, hdn, c2])
    have e : sortWorldK El.enc k w b 0 m dk os = Sort.putRowK El.enc k (Sort.grow (Sort.ahead w m) os) b 0 dk := by
      unfold sortWorldK
      rw [Sort.putRowK_grow _ _ (Sort.ahead w m) _ b 0 _ hbs]
    rw [e]
    refine hcl b b' cp _ dk hdk hmax ?_ (Sort.holdsK_putRowK _ _ _ b 0 d dk hH (by omega)) i j hi hj
    rw [Sort.cell?_putRowK_other _ _ _ b 0 dk _ hbne, Sort.cell?_grow _ _ _ hbw, Sort.cell?_ahead]
    have q6 : vs.toArray[cb]? = some (.slice ad5 n cp5) := by simpa using q5
    simp only [World.cell?, hbh, q6]
    rw [hade5, hcpe5, ← hcpe, (hbk (by omega)).1, hoff]
    rfl
  have hcs := sort_calls L S hk hO eg d hdn hmax hbrow hless (c := cp) (ad := ad) fun h => (hbk h).2
  rw [hfS] at hcs
  unfold wpList
  rw [if_pos (by simp [Region.wanted])]
  refine .inl ?_
  have hexec : (execOp ((a.put (some d1) (.iface t (.slice ad n cp))).put (some d2) (.func (.func g) #[] #[.pointer (some ⟨b', 0, none⟩)])).eval ⟨d3, .call ⟨.value (.func fS), #[.tmp d1, .tmp d2], at3⟩, t3, p3, a3, none⟩).run P w = .ok (.enter fS #[.iface t (.slice ad n cp), .func (.func g) #[] #[.pointer (some ⟨b', 0, none⟩)]]) w := by
    have g1 : ((a.put (some d1) (.iface t (.slice ad n cp))).put (some d2) (.func (.func g) #[] #[.pointer (some ⟨b', 0, none⟩)])).eval (.tmp d1) = .iface t (.slice ad n cp) := by
      rw [put_eval hdd, put_eval_self (by omega)]
    have g2 : ((a.put (some d1) (.iface t (.slice ad n cp))).put (some d2) (.func (.func g) #[] #[.pointer (some ⟨b', 0, none⟩)])).eval (.tmp d2) = .func (.func g) #[] #[.pointer (some ⟨b', 0, none⟩)] := by
      rw [put_eval_self (by simp [Act.put]; omega)]
    exact exec_call hcal rfl rfl (by simp [g1, g2])
  unfold Oper.wp
  rw [hexec, Oper.upon_enter]
  refine hcs.mono fun ex w' he => ?_
  obtain ⟨rfl, d', m, os, hperm, hso, hsz', rfl⟩ := he
  have hsl : (rowOf d').length = n := by rw [← hsz']; simp [rowOf]
  refine hK _ _ _ _ _ (hQ d' hperm hso hsz') ?_
  let e : Eff := ⟨.tup [], [gr], [(gr, some (.row T (rowOf d')))], nx⟩
  have hst2 : St V ρ ((sl.set d1 .any).set d2 .any) H X.B X.T X.R X.w0 ((a.put (some d1) (.iface t (.slice ad n cp))).put (some d2) (.func (.func g) #[] #[.pointer (some ⟨b', 0, none⟩)])) w :=
    ⟨putS_r (r := .any) (putS_r (r := .any) (u := .iface t (.slice ad n cp)) hst.slots (some d1) trivial) (some d2) trivial, by simp [Act.put, hst.defers], hst.mem, hst.base, hst.foot, hst.os, hst.tape, hst.output, hst.size, hst.block, hst.le⟩
  have hfit : Fit H nx e := by
    refine ⟨Nat.le_refl _, fun f hf => ?_, fun f bl hf => ?_, by simp [e]⟩
    · simp only [e, List.mem_singleton] at hf; subst hf; exact ⟨_, h2⟩
    · simp only [e, List.mem_singleton, Prod.mk.injEq] at hf
      obtain ⟨rfl, rfl⟩ := hf
      exact ⟨hV _ hVr, fun _ => ⟨by simp [e], _, h2, rfl⟩⟩
  have hdone : Done V ρ H nx w e (.tuple #[]) ρ (Sort.grow (Sort.putRow id (Sort.ahead w m) b 0 (Sort.flatK El.enc k d')) os) := by
    refine ⟨same_of fun _ _ => rfl, ⟨[], rfl, trivial⟩, ⟨fun f blk hf => ?_, fun f f' blk blk' hff hf1 hf2 => ?_⟩, fun f blk hf x hx => ?_, rfl, rfl, rfl, by simp, fun q hq hF => ?_⟩
    · have hf' : f = gr ∧ blk = .row T (rowOf d') := by
        simp only [e, hget] at hf
        split at hf
        · rename_i h; exact ⟨h, (Option.some.inj hf).symm⟩
        · cases hf
      obtain ⟨rfl, rfl⟩ := hf'
      refine ⟨.inl hVr, ⟨⟨hoff, hex⟩, hmc, by rw [hsl, ← hn]; exact hcap, by rw [hsz]; exact rowOf_len d', rowOf_flat d', hn0, fun x hx => ?_⟩, fun x hx => ?_⟩
      · obtain rfl := hb1 x hx
        obtain ⟨c0, cur, c1, c2, c3⟩ := hcells x hx
        refine ⟨c0, _, srt_block c1 _ _ _, by rw [putCells_size]; exact c2, ?_⟩
        have hs0 : (Sort.flatK (El.enc (k := k) (p := p)) k d').size = (rowOf d').length * (ρ f).sz := by rw [Sort.size_flatK, hsl, hsz', hsz]
        rw [← hs0, putCells_take _ _ (by rw [hs0, c2, hsl, ← hn]; exact Nat.mul_le_mul_right _ hcap), flatK_row hk]
      · have := hFr x hx
        simp; omega
    · simp only [e, hget] at hf1 hf2
      split at hf1
      · split at hf2
        · rename_i h h'; exact absurd (h.trans h'.symm) hff
        · cases hf2
      · cases hf1
    · have hf' : f = gr := by
        simp only [e, hget] at hf
        split at hf
        · assumption
        · cases hf
      subst hf'
      exact .inr (.inl ⟨f, some (.row T (rowOf d')), by simp [e], hV _ hVr, _, h2, hx⟩)
    · refine srt_other hq (fun h => ?_) _ _ _
      subst h
      cases ha : (ρ gr).adr with
      | none => rw [hb2 ha] at hq; omega
      | some x =>
        obtain rfl := hb1 x ha
        exact hF gr (some (.row T (rowOf d'))) (by simp [e]) (hV _ hVr) ⟨_, h2, (hcells x ha).1⟩
  have hfin := hst2.after (o := ⟨d3, .call ⟨.value (.func fS), #[.tmp d1, .tmp d2], at3⟩, t3, p3, a3, none⟩) (fun f hf => .inl (hV f hf)) hfit hdone
  refine ⟨_, ρ, fun f hf => ?_, h0, hfin⟩
  rcases hf with hf | hf
  · exact hV f hf
  · exact hf.2
end

end Go.Proofs.Ytfnhchcgieeedaa

namespace Go.Proofs.Ytfnhchcgieeedaa
set_option linter.unusedSimpArgs false
set_option linter.unusedVariables false
set_option linter.defProp false
open Go.RowKit

theorem hand_mid {P : Program} {ck : Bool} {n0 : Nat} {sl : List SV} {H : Heap} {nx : Nat} {K : List SV → Heap → Nat → Prop} {l tail : List Oper} (hg : ∀ o ∈ l, o.guard = none)
    (h : lexK P ck (dstsOf (l ++ tail)) l sl H nx fun sl' H' nx' => ∃ A : List SV × Heap × Nat, Wk n0 (sl', H', nx') A ∧ lexK P ck (dstsOf (l ++ tail)) tail A.1 A.2.1 A.2.2 K) :
    handR P n0 (l ++ tail).toArray false sl H nx K := by
  intro id X a w Q' hn hs hK
  refine wp_region_list ?_
  refine lexK_pre (P := P) (ck := ck) (ops := (l ++ tail).toArray) ?_ l hg sl H nx a w h hs
  intro sl' H' nx' a' w' hk hs'
  obtain ⟨A, hA, hA2⟩ := hk
  exact lexK_ok (fun sl H nx a w hk hs => hK _ _ _ _ _ hk hs) tail _ _ _ a' w' hA2 (hA X a' w' hn hs')

/-- A region of five operations of which the last three are shown by hand. -/
theorem hand_tail5 {P : Program} {ck : Bool} {n0 : Nat} {sl : List SV} {H : Heap} {nx : Nat} {K : List SV → Heap → Nat → Prop} {o1 o2 o3 o4 o5 : Oper} (h1 : o1.guard = none) (h2 : o2.guard = none)
    (h : lexK P ck (dstsOf [o1, o2, o3, o4, o5]) [o1, o2] sl H nx fun sl' H' nx' => ∀ (X : Ctx) (a : Act) (w : World) (Q' : Exit → Act → World → Prop), X.n0 = n0 → Sat X sl' H' nx' a w → (∀ sl H nx a w, K sl H nx → Sat X sl H nx a w → Q' .normal a w) → wpList P [o1, o2, o3, o4, o5].toArray Q' [o3, o4, o5] a w) :
    handR P n0 [o1, o2, o3, o4, o5].toArray false sl H nx K := by
  intro id X a w Q' hn hs hK
  refine wp_region_list ?_
  refine lexK_pre (P := P) (ck := ck) (ops := [o1, o2, o3, o4, o5].toArray) ?_ [o1, o2] (by simp [h1, h2]) sl H nx a w h hs
  intro sl' H' nx' a' w' hk hs'
  exact hk X a' w' Q' hn hs' hK

end Go.Proofs.Ytfnhchcgieeedaa
