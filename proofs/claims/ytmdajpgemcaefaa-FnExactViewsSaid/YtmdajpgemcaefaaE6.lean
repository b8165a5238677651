/-
  The engine, sixth part: operations on memory. No conditions of its own.
-/
import Derived.Test.YtmdajpgemcaefaaE5
import Derived.Great.BuildSlice
import Derived.Laws.OwnMore
namespace Go.Proofs.Ytmdajpgemcaefaa
set_option linter.unusedSimpArgs false
set_option linter.unusedVariables false
open Go.RowKit

def cvD : DC → CV
  | .v x => .v x
  | .sl _ _ _ => .any

def dcOf : CV → Option DC
  | .v x => some (.v x)
  | _ => none

def dcsOf : List CV → Option (List DC)
  | [] => some []
  | c :: l => match dcOf c, dcsOf l with
    | some d, some r => some (d :: r)
    | _, _ => none

/-- Cells of read data: slices in them become blocks that are only read. -/
def impC : List DC → Nat → List CV × Heap × Nat
  | [], nx => ([], [], nx)
  | .v x :: l, nx => let r := impC l nx; (.v x :: r.1, r.2.1, r.2.2)
  | .sl _ sz es :: l, nx => let r := impC l (nx + 1); (.sl nx sz 0 es.length :: r.1, (nx, some (.ro es)) :: r.2.1, r.2.2)

def chunk (sz : Nat) : Nat → List CV → List (List CV)
  | 0, _ => []
  | n + 1, cs => cs.take sz :: chunk sz n (cs.drop sz)

def dcssOf : List (List CV) → Option (List (List DC))
  | [] => some []
  | c :: l => match dcsOf c, dcssOf l with
    | some d, some r => some (d :: r)
    | _, _ => none

def memK (P : Program) (o : Oper) (ev : Operand → SV) (H : Heap) (nx : Nat) (K : Eff → Prop) : Prop :=
  match o.op with
  | .alloc e => ∃ ti, tiOf P e = some ti ∧ K ⟨.c (.ptr nx 0 0), [], [(nx, some (.box e ti.zero))], nx + 1⟩
  | .box e x => ∃ cs, cellsOf (ev x) = some cs ∧ K ⟨.c (.ptr nx 0 0), [], [(nx, some (.box e cs))], nx + 1⟩
  | .load t x => match ev x with
    | .c (.ptr f i c) => match hget H f with
      | some (.box _ cs) => i = 0 ∧ ∃ ti y, tiOf P t = some ti ∧ partS ti.size ti.row cs c = some y ∧ K ⟨y, [f], [], nx⟩
      | some (.row _ es) => ∃ ti, tiOf P t = some ti ∧ ∃ h : i < es.length, ∃ y, partS ti.size ti.row (es[i].map cvD) c = some y ∧ K ⟨y, [f], [], nx⟩
      | some (.ro es) => ∃ ti, tiOf P t = some ti ∧ ∃ h : i < es.length, match ti.row with
        | true => c + ti.size ≤ es[i].length ∧ K ⟨.agg (impC ((es[i].drop c).take ti.size) nx).1, [f], (impC ((es[i].drop c).take ti.size) nx).2.1, (impC ((es[i].drop c).take ti.size) nx).2.2⟩
        | false => ∃ h : c < es[i].length, match (impC [es[i][c]] nx).1 with
          | [y] => K ⟨.c y, [f], (impC [es[i][c]] nx).2.1, (impC [es[i][c]] nx).2.2⟩
          | _ => False
      | none => False
    | _ => False
  | .store t x y => match ev x with
    | .c (.ptr f i c) => match hget H f with
      | some (.box T cs) => i = 0 ∧ ∃ ti l, tiOf P t = some ti ∧ cellsOf (ev y) = some l ∧ l.length = ti.size ∧ c + l.length ≤ cs.length ∧ K ⟨.any, [f], [(f, some (.box T (splice cs c l)))], nx⟩
      | some (.row T es) => ∃ ti l d, tiOf P t = some ti ∧ cellsOf (ev y) = some l ∧ l.length = ti.size ∧ dcsOf l = some d ∧ ∃ h : i < es.length, c + d.length ≤ es[i].length ∧
          K ⟨.any, [f], [(f, some (.row T (es.set i (es[i].take c ++ d ++ es[i].drop (c + d.length)))))], nx⟩
      | _ => False
    | _ => False
  | .buildSlice t len parts => ∃ ti e te cs es, tiOf P t = some ti ∧ ti.d = .slice e ∧ tiOf P e = some te ∧ 0 < te.size ∧ len * te.size ≤ 1000000 ∧
      ((partsOf ev parts.toList).bind fun l => fillS (fun i => some (i * te.size, te.size)) (List.replicate len te.zero).flatten l) = some cs ∧ dcssOf (chunk te.size len cs) = some es ∧
      K ⟨.c (.sl nx te.size 0 len), [], [(nx, some (.row e es))], nx + 1⟩
  | .makeSlice t l c => match ev l, ev c with
    | .c (.v (.int _ n)), .c (.v (.int _ m)) => ∃ ti e te z, tiOf P t = some ti ∧ ti.d = .slice e ∧ tiOf P e = some te ∧ 0 < te.size ∧ dcsOf te.zero = some z ∧ n = m ∧ (0 ≤ n ∧ te.bytes * n ≤ 140737488355328 ∧ n ≤ 1099511627776) ∧
        K ⟨.c (.sl nx te.size 0 n.toNat), [], [(nx, some (.row e (List.replicate n.toNat z)))], nx + 1⟩
    | _, _ => False
  | _ => False

theorem looked_get {H : Heap} {rd : List Nat} {f : Nat} {b : Blk} (hf : f ∈ rd) (h : hget H f = some b) : looked H rd f = some b := by
  unfold looked; rw [if_pos hf]; exact h

theorem run_loadAt_part {P : Program} {V : Nat → Prop} {ρ : Nat → At} {w : World} {b base : Nat} {vs : List Value} {cs : List CV} {c : Nat} {y : SV} {t : TypeId} {ti : TI} (h : All2 (CVr V ρ) cs vs)
    (hc : ∀ j u, vs[j]? = some u → w.cell? ⟨b, base + j, none⟩ = some u) (ht : tiOf P t = some ti) (hp : partS ti.size ti.row cs c = some y) :
    ∃ u, SVr V ρ y u ∧ (Instr.loadAt t (.pointer (some ⟨b, base + c, none⟩))).run P w = .ok u w := by
  obtain ⟨i, d, z, e1, e2, e3, rfl⟩ := tiOf_inv ht
  unfold partS at hp
  simp only at hp
  have hagg : (isAgg t).run P w = .ok (isRowD (some d)) w := by
    unfold isAgg
    rw [Sem.run_bind, run_underlying e2 w]
    cases d <;> simp_all [isRowD]
  cases hr : isRowD (some d) with
  | true =>
    rw [hr] at hp hagg
    simp only [if_true] at hp
    split at hp
    · rename_i hlt
      cases hp
      have hl := h.length
      refine ⟨.agg ((vs.drop c).take i.size).toArray, ⟨_, rfl, (h.drop c).take _⟩, ?_⟩
      have hlen : ((vs.drop c).take i.size).length = i.size := by simp; omega
      have := run_loadCells_list (P := P) w ⟨b, base + c, none⟩ ((vs.drop c).take i.size) (fun j v hv => by
        rw [Addr.add_mid]
        rw [List.getElem?_take] at hv
        split at hv
        · rw [List.getElem?_drop] at hv
          have := hc _ _ hv
          rwa [← Nat.add_assoc] at this
        · cases hv)
      rw [hlen] at this
      simp [Instr.loadAt, Instr.sureAddr, loadVar, hagg, sizeOf, typeInfo, e1, this]
    · cases hp
  | false =>
    rw [hr] at hp hagg
    simp only [Bool.false_eq_true, if_false] at hp
    obtain ⟨x, hx, rfl⟩ := Option.map_eq_some_iff.1 hp
    obtain ⟨u, hu, hxu⟩ := h.get hx
    refine ⟨u, hxu, ?_⟩
    simp [Instr.loadAt, Instr.sureAddr, loadVar, hagg, hc c u hu]

theorem EffOK.of_read {P : Program} {o : Oper} {ev : Operand → SV} {H : Heap} {nx : Nat} {y : SV} {rd : List Nat}
    (h : ∀ (V : Nat → Prop) (ρ : Nat → At) (a : Act) (w : World), (∀ x, SVr V ρ (ev x) (a.eval x)) → Mem V ρ (looked H rd) w → ∃ u, SVr V ρ y u ∧ (execOp a.eval o).run P w = .ok (.value u) w) :
    EffOK P o ev H nx ⟨y, rd, [], nx⟩ := by
  intro V ρ a w K Q hV hev hm hK
  obtain ⟨u, h1, h2⟩ := h V ρ a w hev hm
  unfold Oper.wp
  rw [h2]
  refine hK u ρ w ⟨fun _ _ => rfl, h1.mono fun f hf => ⟨.inl hf, rfl⟩, ⟨fun f blk hb => (by cases hb), fun f g blk blk' _ hb => (by cases hb)⟩, fun f blk hb => (by cases hb), rfl, rfl, rfl, Nat.le_refl _, fun _ _ _ => rfl⟩

theorem fit_read {H : Heap} {nx : Nat} {y : SV} {f : Nat} {b : Blk} (h : hget H f = some b) : Fit H nx ⟨y, [f], [], nx⟩ :=
  ⟨Nat.le_refl _, fun g hg => by simp at hg; subst hg; exact ⟨b, h⟩, fun f b h => (by cases h), by simp⟩

theorem flat_cv {V : Nat → Prop} {ρ : Nat → At} : ∀ {e : List DC}, (∀ c ∈ e, DC.flat c) → All2 (CVr V ρ) (e.map cvD) (e.map DC.val)
  | [], _ => trivial
  | c :: e, h => by
    obtain ⟨x, rfl, h1⟩ := h c (by simp)
    exact ⟨⟨rfl, h1⟩, flat_cv fun d hd => h d (by simp [hd])⟩

theorem flatE_get : ∀ {es : List (List DC)} {sz : Nat}, (∀ e ∈ es, e.length = sz) → ∀ (i : Nat) (e : List DC) (j : Nat) (c : DC), es[i]? = some e → e[j]? = some c → (flatE es)[i * sz + j]? = some c.val
  | [], _, _, i, e, j, c, h, _ => by simp at h
  | x :: es, sz, hs, 0, e, j, c, h, hc => by
    simp at h; subst h
    have hj : j < x.length := (List.getElem?_eq_some_iff.1 hc).1
    unfold flatE
    rw [List.flatMap_cons, Nat.zero_mul, Nat.zero_add, List.getElem?_append_left (by simpa using hj), List.getElem?_map, hc]; rfl
  | x :: es, sz, hs, i + 1, e, j, c, h, hc => by
    have hx := hs x (by simp)
    unfold flatE
    rw [List.flatMap_cons, List.getElem?_append_right (by simp [hx, Nat.add_mul]; omega)]
    have := flatE_get (es := es) (sz := sz) (fun e he => hs e (by simp [he])) i e j c (by simpa using h) hc
    unfold flatE at this
    rw [← this]
    congr 1
    simp [hx, Nat.add_mul]; omega

theorem flatE_len : ∀ {es : List (List DC)} {sz : Nat}, (∀ e ∈ es, e.length = sz) → (flatE es).length = es.length * sz
  | [], _, _ => by simp [flatE]
  | x :: es, sz, hs => by
    have := flatE_len (es := es) (sz := sz) fun e he => hs e (by simp [he])
    unfold flatE at this ⊢
    rw [List.flatMap_cons, List.length_append, this]
    simp [hs x (by simp), Nat.add_mul]; omega

/-- the cells of a row's element -/
theorem row_cells {w : World} {p : At} {T : Nat} {es : List (List DC)} {b : Nat} {cur : Array Value} (hg : w.heap[b]? = some (.cells cur T (0, 0))) (ht : cur.toList.take (es.length * p.sz) = flatE es)
    (hs : ∀ e ∈ es, e.length = p.sz) {i : Nat} (hi : i < es.length) : ∀ j u, (es[i].map DC.val)[j]? = some u → w.cell? ⟨b, i * p.sz + j, none⟩ = some u := by
  intro j u hu
  rw [List.getElem?_map] at hu
  obtain ⟨c, hc, rfl⟩ := Option.map_eq_some_iff.1 hu
  have h1 := flatE_get hs i es[i] j c (List.getElem?_eq_getElem hi) hc
  rw [← ht, List.getElem?_take] at h1
  split at h1
  · have : cur[i * p.sz + j]? = some c.val := by simpa using h1
    simp [World.cell?, hg, this]
  · cases h1

theorem impC_le : ∀ (l : List DC) (nx : Nat), nx ≤ (impC l nx).2.2
  | [], nx => Nat.le_refl _
  | .v x :: l, nx => impC_le l nx
  | .sl _ _ _ :: l, nx => Nat.le_trans (Nat.le_succ nx) (impC_le l (nx + 1))

theorem impC_key : ∀ (l : List DC) (nx f : Nat) (b : Option Blk), (f, b) ∈ (impC l nx).2.1 → nx ≤ f ∧ f < (impC l nx).2.2
  | [], nx, f, b, h => by simp [impC] at h
  | .v x :: l, nx, f, b, h => impC_key l nx f b h
  | .sl T sz es :: l, nx, f, b, h => by
    simp only [impC, List.mem_cons, Prod.mk.injEq] at h ⊢
    rcases h with ⟨rfl, _⟩ | h
    · exact ⟨Nat.le_refl _, impC_le l (f + 1)⟩
    · have := impC_key l (nx + 1) f b h
      omega

theorem impC_nodup : ∀ (l : List DC) (nx : Nat), ((impC l nx).2.1.map (·.1)).Nodup
  | [], nx => by simp [impC]
  | .v x :: l, nx => impC_nodup l nx
  | .sl T sz es :: l, nx => by
    simp only [impC, List.map_cons, List.nodup_cons]
    refine ⟨fun h => ?_, impC_nodup l (nx + 1)⟩
    obtain ⟨⟨f, b⟩, h1, h2⟩ := List.mem_map.1 h
    have := impC_key l (nx + 1) f b h1
    simp only at h2
    omega

def updA (ρ : Nat → At) (f : Nat) (p : At) (g : Nat) : At := if g = f then p else ρ g

theorem newV_mono {V : Nat → Prop} {a b c d : Nat} (h1 : c ≤ a) (h2 : b ≤ d) {f : Nat} (h : newV V a b f) : newV V c d f := by
  rcases h with h | h
  · exact .inl h
  · exact .inr (by omega)

theorem impC_ok {w : World} {F : Nat → Prop} (hF : ∀ b, F b → b < w.heap.size) : ∀ (l : List DC) (us : List Value) (nx : Nat) (ρ : Nat → At) (V : Nat → Prop), All2 (Rd w F) l us →
    (∀ f, nx ≤ f → f < (impC l nx).2.2 → ¬ V f) →
    ∃ ρ', (∀ f, f < nx ∨ (impC l nx).2.2 ≤ f → ρ' f = ρ f) ∧ All2 (CVr (newV V nx (impC l nx).2.2) ρ') (impC l nx).1 us ∧ Mem (newV V nx (impC l nx).2.2) ρ' (hget (impC l nx).2.1) w ∧
      ∀ f blk, hget (impC l nx).2.1 f = some blk → blk.own = false ∧ ∀ b, (ρ' f).F b → F b
  | [], [], nx, ρ, V, _, hV => ⟨ρ, fun _ _ => rfl, trivial, ⟨fun f blk h => (by cases h), fun f g blk blk' _ h => (by cases h)⟩, fun f blk h => (by cases h)⟩
  | [], _ :: _, _, _, _, h, _ => h.elim
  | _ :: _, [], _, _, _, h, _ => h.elim
  | .v x :: l, u :: us, nx, ρ, V, h, hV => by
    obtain ⟨ρ', h1, h2, h3, h4⟩ := impC_ok hF l us nx ρ V h.2 hV
    refine ⟨ρ', h1, ⟨?_, h2⟩, h3, h4⟩
    cases h.1 with
    | v hx => exact ⟨rfl, hx⟩
  | .sl T sz es :: l, u :: us, nx, ρ, V, h, hV => by
    have hle := impC_le l (nx + 1)
    have hk := impC_key l (nx + 1)
    obtain ⟨a, cap, g, rfl, le, lt, nil, wf, ad, r⟩ : ∃ a cap, ∃ g : Nat → Nat → Value, u = .slice a es.length cap ∧ es.length ≤ cap ∧ cap ≤ maxLen ∧ (a = none → cap = 0) ∧ (∀ e ∈ es, e.length = sz) ∧
        (es ≠ [] → ∃ b off, a = some ⟨b, off, none⟩ ∧ F b ∧ ∀ i j, i < es.length → j < sz → w.cell? ⟨b, off + i * sz + j, none⟩ = some (g i j)) ∧
        (∀ i e j c, es[i]? = some e → e[j]? = some c → Rd w F c (g i j)) := by
      cases h.1 with
      | sl g le lt nil wf ad r => exact ⟨_, _, g, rfl, le, lt, nil, wf, ad, r⟩
    obtain ⟨p, hp1, hp2, hp3, hp4, hp5, hp6⟩ : ∃ p : At, p.sz = sz ∧ p.cap = cap ∧ ¬ p.ex ∧ (p.F = F) ∧ (es = [] → p.adr = none) ∧ (es ≠ [] → ∃ b, p.adr = some b ∧ F b ∧ a = some ⟨b, p.off, none⟩ ∧ ∀ i j, i < es.length → j < sz → w.cell? ⟨b, p.off + i * sz + j, none⟩ = some (g i j)) := by
      by_cases hn : es = []
      · exact ⟨⟨none, 0, sz, cap, False, F⟩, rfl, rfl, id, rfl, fun _ => rfl, fun h => absurd hn h⟩
      · obtain ⟨b, off, h1, h2, h3⟩ := ad hn
        exact ⟨⟨some b, off, sz, cap, False, F⟩, rfl, rfl, id, rfl, fun h => absurd h hn, fun _ => ⟨b, rfl, h2, h1, h3⟩⟩
    have hVn : ∀ f, nx + 1 ≤ f → f < (impC l (nx + 1)).2.2 → ¬ newV V nx (nx + 1) f := by
      intro f h1 h2 h3
      rcases h3 with h3 | h3
      · exact hV f (by omega) h2 h3
      · omega
    obtain ⟨ρ', h1, h2, h3, h4⟩ := impC_ok hF l us (nx + 1) (updA ρ nx p) (newV V nx (nx + 1)) h.2 hVn
    have hnv : ∀ f, newV (newV V nx (nx + 1)) (nx + 1) (impC l (nx + 1)).2.2 f → newV V nx (impC l (nx + 1)).2.2 f := by
      intro f hf
      rcases hf with (hf | hf) | hf
      · exact .inl hf
      · exact .inr (by omega)
      · exact .inr (by omega)
    have hpn : ρ' nx = p := by rw [h1 nx (.inl (by omega))]; simp [updA]
    have hold : Holds (newV V nx (impC l (nx + 1)).2.2) ρ' w p (.ro es) := by
      refine ⟨by rw [hp2]; exact lt, by rw [hp2]; exact le, by rw [hp1]; exact wf, fun hn => ?_, fun i e j c b hi hj hb => ?_⟩
      · obtain ⟨b, q1, q2, _⟩ := hp6 hn
        exact ⟨b, q1, by rw [hp4]; exact q2⟩
      · have hn : es ≠ [] := by rintro rfl; simp at hi
        obtain ⟨b', q1, q2, _, q3⟩ := hp6 hn
        rw [hb] at q1; cases q1
        have hil := (List.getElem?_eq_some_iff.1 hi).1
        have hjl : j < sz := by rw [← wf e (List.mem_of_getElem? hi)]; exact (List.getElem?_eq_some_iff.1 hj).1
        refine ⟨g i j, by rw [hp1]; exact q3 i j hil hjl, by rw [hp4]; exact r i e j c hi hj⟩
    refine ⟨ρ', fun f hf => ?_, ⟨⟨.inr ⟨Nat.le_refl _, by simp only [impC]; omega⟩, by rw [hpn]; exact hp1, a, cap, rfl, le, lt, nil, fun _ hex => ?_, fun hpos => ?_⟩, h2.mono fun x y hxy => hxy.mono fun f hf => ⟨hnv f hf, rfl⟩⟩, ?_, ?_⟩
    · simp only [impC] at hf
      rw [h1 f (by omega)]
      unfold updA; rw [if_neg (by omega)]
    · rw [hpn] at hex; exact absurd hex hp3
    · obtain ⟨b, q1, _, q2, _⟩ := hp6 (by rintro rfl; simp at hpos)
      rw [hpn]
      exact ⟨b, q1, by rw [q2]; simp⟩
    · constructor
      · intro f blk hb
        simp only [impC, hget] at hb
        split at hb
        · rename_i e; subst e; cases hb
          rw [hpn]
          exact ⟨.inr ⟨Nat.le_refl _, by simp only [impC]; omega⟩, hold, fun b hb => hF b (by rw [hp4] at hb; exact hb)⟩
        · obtain ⟨q1, q2, q3⟩ := h3.dom f blk hb
          exact ⟨hnv f q1, q2.keep (fun f hf => ⟨hnv f hf, rfl⟩) (fun _ _ => rfl), q3⟩
      · intro f g' blk blk' hne hb ho hb' b
        simp only [impC, hget] at hb
        split at hb
        · cases hb; cases ho
        · have := (h4 f blk hb).1
          rw [this] at ho; cases ho
    · intro f blk hb
      simp only [impC, hget] at hb
      split at hb
      · rename_i e; subst e; cases hb
        rw [hpn, hp4]
        exact ⟨rfl, fun b hb => hb⟩
      · exact h4 f blk hb

end Go.Proofs.Ytmdajpgemcaefaa
