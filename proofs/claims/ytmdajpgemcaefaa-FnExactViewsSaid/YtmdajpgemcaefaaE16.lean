/-
  The engine, sixteenth part: weaker states; the contract of a function out of its text. No conditions of its own.
-/
import Derived.Test.YtmdajpgemcaefaaE15
namespace Go.Proofs.Ytmdajpgemcaefaa
set_option linter.unusedSimpArgs false
set_option linter.unusedVariables false
open Go.RowKit

/-- the slots of a state out of a stronger one's -/
def wkSl (π : Nat → Vw) (n : Nat) : List SV → List SV → Prop
  | [], [] => True
  | .any :: l, _ :: m => wkSl π n l m
  | x :: l, y :: m => (wfs (wfc π n) x ∧ y = x.map (mcv π)) ∧ wkSl π n l m
  | _, _ => False

theorem wkSl_r {V : Nat → Prop} {ρ : Nat → At} {π : Nat → Vw} {n : Nat} : ∀ {l m : List SV} {us : List Value}, wkSl π n l m → All2 (SVr V ρ) m us → All2 (SVr (· < n) fun i => vwAt ρ (π i)) l us
  | [], [], [], _, _ => trivial
  | [], [], _ :: _, _, h => h.elim
  | [], _ :: _, _, h, _ => by simp [wkSl] at h
  | x :: l, [], _, h, _ => by cases x <;> simp [wkSl] at h
  | x :: l, y :: m, [], _, h => h.elim
  | .any :: l, y :: m, u :: us, h, h' => ⟨trivial, wkSl_r (l := l) (m := m) (by simpa [wkSl] using h) h'.2⟩
  | .c x :: l, y :: m, u :: us, h, h' => by
    simp only [wkSl] at h
    obtain ⟨⟨h1, rfl⟩, h2⟩ := h
    exact ⟨msv_r h1 h'.1, wkSl_r h2 h'.2⟩
  | .agg x :: l, y :: m, u :: us, h, h' => by
    simp only [wkSl] at h
    obtain ⟨⟨h1, rfl⟩, h2⟩ := h
    exact ⟨msv_r h1 h'.1, wkSl_r h2 h'.2⟩
  | .tup x :: l, y :: m, u :: us, h, h' => by
    simp only [wkSl] at h
    obtain ⟨⟨h1, rfl⟩, h2⟩ := h
    exact ⟨msv_r h1 h'.1, wkSl_r h2 h'.2⟩

def wkB (H : Heap) (π : Nat → Vw) (n f : Nat) (b : Blk) : Prop :=
  match π f with
  | .same g => hget H g = some (b.map (mcv π)) ∧ wfb (wfc π n) b
  | .emp _ => match b with
    | .row _ es => es = []
    | _ => False
  | _ => False

/-- the blocks of a state out of a stronger one's -/
def wkH (H : Heap) (π : Nat → Vw) (n : Nat) : Heap → Prop
  | [] => True
  | (f, some b) :: l => f < n ∧ wkB H π n f b ∧ wkH H π n l
  | (_, none) :: l => wkH H π n l

theorem wkH_get {H : Heap} {π : Nat → Vw} {n : Nat} : ∀ {l : Heap} {f : Nat} {b : Blk}, wkH H π n l → hget l f = some b → f < n ∧ wkB H π n f b
  | (g, some b') :: l, f, b, h, hb => by
    simp only [hget] at hb
    split at hb
    · rename_i e; subst e; cases hb; exact ⟨h.1, h.2.1⟩
    · exact wkH_get h.2.2 hb
  | (g, none) :: l, f, b, h, hb => by
    simp only [hget] at hb
    split at hb
    · cases hb
    · exact wkH_get (by simpa [wkH] using h) hb

def vwKey : Vw → Option Nat
  | .same g => some g
  | _ => none

theorem wk_mem {V : Nat → Prop} {ρ : Nat → At} {H H' : Heap} {n : Nat} {w : World} (π : Nat → Vw) (hm : Mem V ρ (hget H) w) (h2 : wkH H π n H') (h3 : ∀ f g b b' k, f ≠ g → hget H' f = some b → hget H' g = some b' → π f = .same k → π g ≠ .same k) :
    Mem (· < n) (fun i => vwAt ρ (π i)) (hget H') w ∧ ∀ f blk, hget H' f = some blk → ∀ b, (vwAt ρ (π f)).F b → ∃ k blk', hget H k = some blk' ∧ blk'.own = blk.own ∧ (ρ k).F b := by
  refine ⟨⟨fun f blk hb => ?_, fun f g blk blk' hne hb ho hb' b hF hF' => ?_⟩, fun f blk hb b hF => ?_⟩
  · obtain ⟨q1, q2⟩ := wkH_get h2 hb
    refine ⟨q1, ?_⟩
    show Holds _ _ w (vwAt ρ (π f)) blk ∧ ∀ b, (vwAt ρ (π f)).F b → _
    unfold wkB at q2
    cases hp : π f with
    | ro g b m => simp [hp] at q2
    | same g =>
      rw [hp] at q2
      obtain ⟨r1, r2⟩ := q2
      obtain ⟨_, s2, s3⟩ := hm.dom g _ r1
      refine ⟨?_, s3⟩
      cases blk with
      | box T cs =>
        obtain ⟨t0, b, vs, t1, t2, t3, t4⟩ := s2
        exact ⟨t0, b, vs, t1, t2, t3, t4.of_map fun x hx u hu => mcv_r (r2 x hx) hu⟩
      | row T es => exact s2
      | ro es => exact s2
    | emp s =>
      rw [hp] at q2
      cases blk with
      | box T cs => exact q2.elim
      | ro es => exact q2.elim
      | row T es =>
        have q2' : es = [] := q2
        subst q2'
        exact ⟨⟨⟨rfl, trivial⟩, Nat.zero_le _, Nat.le_refl _, fun e he => (by cases he), fun e he => (by cases he), fun _ => rfl, fun b hb => (by cases hb)⟩, fun b hb => hb.elim⟩
  · obtain ⟨q1, q2⟩ := wkH_get h2 hb
    obtain ⟨q1', q2'⟩ := wkH_get h2 hb'
    have hF : (vwAt ρ (π f)).F b := hF
    have hF' : (vwAt ρ (π g)).F b := hF'
    unfold wkB at q2 q2'
    cases hp : π f with
    | ro g b m => simp [hp] at q2
    | emp s => rw [hp] at hF; exact hF.elim
    | same k =>
      cases hp' : π g with
      | ro g b m => simp [hp'] at q2'
      | emp s => rw [hp'] at hF'; exact hF'.elim
      | same k' =>
        rw [hp] at q2 hF
        rw [hp'] at q2' hF'
        exact hm.sep k k' _ _ (fun e => h3 f g blk blk' k hne hb hb' hp (by rw [hp', e])) q2.1 (by rw [Blk.own_map]; exact ho) q2'.1 b hF hF'
  · obtain ⟨q1, q2⟩ := wkH_get h2 hb
    unfold wkB at q2
    cases hp : π f with
    | ro g b m => simp [hp] at q2
    | emp s => rw [hp] at hF; exact hF.elim
    | same k =>
      rw [hp] at q2 hF
      exact ⟨k, _, q2.1, Blk.own_map _ _, hF⟩

theorem wk_of {sl sl' : List SV} {H H' : Heap} {nx nx' : Nat} (π : Nat → Vw) (n0 : Nat) (h1 : wkSl π nx' sl' sl) (h2 : wkH H π nx' H') (h3 : ∀ f g b b' k, f ≠ g → hget H' f = some b → hget H' g = some b' → π f = .same k → π g ≠ .same k)
    (h4 : ∀ i, i < n0 → π i = .same i) (h5 : n0 ≤ nx') : Wk n0 (sl, H, nx) (sl', H', nx') := by
  rintro X a w rfl ⟨V, ρ, hV, ⟨hn, h0⟩, hst⟩
  obtain ⟨hm, hF⟩ := wk_mem π hst.mem h2 h3
  refine ⟨(· < nx'), fun i => vwAt ρ (π i), fun f hf => hf, ⟨h5, fun f hf => by show vwAt ρ (π f) = _; rw [h4 f hf]; exact h0 f hf⟩, ⟨wkSl_r h1 hst.slots, hst.defers, hm, fun f blk hb ho b hFb => ?_, hst.os, hst.tape, hst.output, hst.size, hst.block, hst.le⟩⟩
  obtain ⟨k, blk', q1, q2, q3⟩ := hF f blk hb b hFb
  exact hst.base k blk' q1 (by rw [q2]; exact ho) b q3

/-- A result's variable. -/
def resv (P : Program) (sl : List SV) (H : Heap) : ResultVar → Option (CV ⊕ List CV)
  | .tmp t => match sl[t]? with
    | some (.c x) => some (.inl x)
    | some (.agg l) => some (.inr l)
    | _ => none
  | .cell a t => match sl[a]? with
    | some (.c (.ptr f i c)) => match hget H f, tiOf P t with
      | some (.box _ cs), some ti => if i = 0 then (match partS ti.size ti.row cs c with
        | some (.c x) => some (.inl x)
        | some (.agg l) => some (.inr l)
        | _ => none) else none
      | _, _ => none
    | _ => none

def resvs (P : Program) (sl : List SV) (H : Heap) : List ResultVar → Option (List (CV ⊕ List CV))
  | [] => some []
  | r :: l => match resv P sl H r, resvs P sl H l with
    | some x, some m => some (x :: m)
    | _, _ => none

def svRes : List (CV ⊕ List CV) → SV
  | [.inl x] => .c x
  | [.inr l] => .agg l
  | l => .tup l

def resOne (tmps : Array Value) : ResultVar → Sem Value
  | .tmp t => pure (tmps.getD t undef)
  | .cell b t => do loadVar t (← asAddr (tmps.getD b undef))

theorem results_eq (fn : Func) (tmps : Array Value) : results fn tmps = (fn.results.mapM (resOne tmps) >>= fun vs => pure (if h : vs.size = 1 then vs[0] else .tuple vs)) := by
  unfold results
  congr 1

theorem resv_r {P : Program} {V : Nat → Prop} {ρ : Nat → At} {sl : List SV} {H : Heap} {B : Nat} {T : Nat → Prop} {w0 : World} {a : Act} {w : World} (h : St V ρ sl H B T w0 a w) {r : ResultVar} {x : CV ⊕ List CV} (hr : resv P sl H r = some x) :
    ∃ u, CSr V ρ x u ∧ (resOne a.tmps r).run P w = .ok u w := by
  have slot : ∀ t y, sl[t]? = some y → SVr V ρ y (a.tmps.getD t undef) := by
    intro t y hy
    obtain ⟨u, hu, hs⟩ := h.slots.get hy
    have : a.tmps[t]? = some u := by simpa using hu
    rw [Array.getD_eq_getD_getElem?, this]; exact hs
  cases r with
  | tmp t =>
    simp only [resv] at hr
    split at hr
    · rename_i y hy; cases hr; exact ⟨_, slot t _ hy, rfl⟩
    · rename_i y hy; cases hr; exact ⟨_, slot t _ hy, rfl⟩
    · cases hr
  | cell b t =>
    simp only [resv] at hr
    split at hr
    · rename_i f i c hy
      split at hr
      · rename_i T' cs ti hH ht
        split at hr
        · rename_i hi
          subst hi
          obtain ⟨_, ⟨hoff, bb, vs, q1, q2, q3, q4⟩, _⟩ := h.mem.dom f _ hH
          obtain ⟨_, b', hb', hu⟩ := slot b _ hy
          rw [q1] at hb'; cases hb'
          rw [hoff] at hu
          simp only [Nat.zero_mul, Nat.add_zero, Nat.zero_add] at hu
          cases hp : partS ti.size ti.row cs c with
          | none => rw [hp] at hr; cases hr
          | some y =>
            obtain ⟨u, g1, g2⟩ := run_loadAt_part (P := P) (w := w) (b := bb) (base := 0) q4 (fun j u hj => by simp [World.cell?, q3, hj]) ht hp
            rw [Nat.zero_add] at g2
            refine ⟨u, ?_, ?_⟩
            · rw [hp] at hr
              cases y with
              | c y => cases hr; exact g1
              | agg l => cases hr; exact g1
              | any => cases hr
              | tup l => cases hr
            · simp only [resOne, hu, asAddr]
              simpa [Instr.loadAt, Instr.sureAddr] using g2
        · cases hr
      · cases hr
    · cases hr

theorem resvs_r {P : Program} {V : Nat → Prop} {ρ : Nat → At} {sl : List SV} {H : Heap} {B : Nat} {T : Nat → Prop} {w0 : World} {a : Act} {w : World} (h : St V ρ sl H B T w0 a w) : ∀ {l : List ResultVar} {xs : List (CV ⊕ List CV)}, resvs P sl H l = some xs →
    ∃ us, All2 (CSr V ρ) xs us ∧ (l.mapM (resOne a.tmps)).run P w = .ok us w
  | [], xs, hr => by cases hr; exact ⟨[], trivial, rfl⟩
  | r :: l, xs, hr => by
    unfold resvs at hr
    split at hr
    · rename_i x m h1 h2
      cases hr
      obtain ⟨u, q1, q2⟩ := resv_r h h1
      obtain ⟨us, q3, q4⟩ := resvs_r h h2
      refine ⟨u :: us, ⟨q1, q3⟩, ?_⟩
      rw [List.mapM_cons, Sem.run_bind, q2]
      simp only [Result.andThen_ok, Sem.run_bind, q4, Sem.run_pure]
    · cases hr

theorem res_ok {P : Program} {V : Nat → Prop} {ρ : Nat → At} {sl : List SV} {H : Heap} {B : Nat} {T : Nat → Prop} {w0 : World} {a : Act} {w : World} (h : St V ρ sl H B T w0 a w) {fn : Func} {xs : List (CV ⊕ List CV)} (hr : resvs P sl H fn.results.toList = some xs) :
    ∃ u, SVr V ρ (svRes xs) u ∧ (results fn a.tmps).run P w = .ok u w := by
  obtain ⟨us, h1, h2⟩ := resvs_r h hr
  have hm : (fn.results.mapM (resOne a.tmps)).run P w = .ok us.toArray w := by
    rw [Array.mapM_eq_mapM_toList, Sem.run_map, h2]; rfl
  rw [results_eq, Sem.run_bind, hm]
  simp only [Result.andThen_ok, Sem.run_pure]
  match xs, us, h1 with
  | [], [], _ => exact ⟨_, ⟨[], rfl, trivial⟩, by simp⟩
  | [.inl x], [u], h1 => exact ⟨u, h1.1, by simp⟩
  | [.inr l], [u], h1 => exact ⟨u, h1.1, by simp⟩
  | x :: y :: l, u :: v :: us, h1 =>
    have e : svRes (x :: y :: l) = .tup (x :: y :: l) := by cases x <;> rfl
    exact ⟨.tuple (u :: v :: us).toArray, by rw [e]; exact ⟨u :: v :: us, rfl, h1⟩, by simp⟩

/-- A contract in good form. -/
structure ConOK (c : Con) : Prop where
  le : c.n0 ≤ c.n
  key : ∀ f b, (f, b) ∈ c.wr → f < c.n ∧ (f < c.n0 → ∃ blk, hget c.pre f = some blk ∧ blk.own = true)
  nodup : (c.wr.map (·.1)).Nodup
  all : ∀ f blk, hget c.pre f = some blk → blk.own = true → f ∈ c.wr.map (·.1)
  own : ∀ f b, (f, some b) ∈ c.wr → b.own = true

theorem hget_key {l : Heap} {f : Nat} {b : Blk} (h : hget l f = some b) : f ∈ l.map (·.1) := List.mem_map.2 ⟨_, hget_mem h, rfl⟩

theorem ConOK.fit {c : Con} (h : ConOK c) (hd : ∀ f ∈ c.pre.map (·.1), ∃ blk, hget c.pre f = some blk) : Fit c.pre c.n0 c.eff :=
  ⟨h.le, hd, fun f b hb => ⟨(h.key f b hb).1, fun hf => by
    obtain ⟨blk, h1, h2⟩ := (h.key f b hb).2 hf
    exact ⟨hget_key h1, blk, h1, h2⟩⟩, h.nodup⟩

/-- The end of a function's text: its result and its blocks are the contract's. -/
def Post (P : Program) (fn : Func) (c : Con) (e : Exit) (sl : List SV) (H : Heap) (_ : Nat) : Prop :=
  (e = .ret ∨ e = .normal) ∧ ∃ xs σ, resvs P sl H fn.results.toList = some xs ∧ svRes xs = c.r.map (mcv σ) ∧ wfs (wfc σ c.n) c.r ∧ wkH H σ c.n c.wr ∧
    (∀ f g b b' k, f ≠ g → hget c.wr f = some b → hget c.wr g = some b' → σ f = .same k → σ g ≠ .same k) ∧ ∀ i, i < c.n0 → σ i = .same i

theorem All2.replicate {α β : Type} {R : α → β → Prop} {a : α} {b : β} (h : R a b) : ∀ n, All2 R (List.replicate n a) (List.replicate n b)
  | 0 => trivial
  | n + 1 => ⟨h, All2.replicate h n⟩

theorem fnR_of {P : Program} {f : FuncId} {fn : Func} {code : Code} {c : Con} {ck : Bool} {dr : Array Oper → List SV → Heap → Nat → (List SV → Heap → Nat → Prop) → Prop} (hdr : DrOK P dr) (hfn : P.funcs[f]? = some fn) (hb : fn.body = some code) (hc : ConOK c) (hd : ∀ f ∈ c.pre.map (·.1), ∃ blk, hget c.pre f = some blk)
    (h : wpC P ck dr c.n0 code (c.args ++ List.replicate (fn.ntmps - c.args.length) .any) c.pre c.n0 (Post P fn c)) : FnR P f c := by
  refine ⟨hc.fit hd, fun ρ vs w hargs hmem => calls_of_wp hfn hb ?_⟩
  let X : Ctx := ⟨w.heap.size, fun b => ∃ i blk, i < c.n0 ∧ hget c.pre i = some blk ∧ blk.own = true ∧ (ρ i).F b, w, c.n0, ρ⟩
  refine wpC_ok (X := X) hdr rfl code _ _ _ _ _ _ w (fun e sl H nx a w' he hs => ?_) h ⟨(· < c.n0), ρ, fun f hf => hf, ⟨Nat.le_refl _, fun f _ => rfl⟩, ⟨?_, rfl, hmem, fun i blk hb ho b hF => .inr ⟨i, blk, (hmem.dom i blk hb).1, hb, ho, hF⟩, rfl, rfl, rfl, Nat.le_refl _, fun _ _ _ _ => rfl, Nat.le_refl _⟩⟩
  · obtain ⟨hex, xs, σ, h1, h2, h3, h4, h5, h6⟩ := he
    obtain ⟨V, ρf, hV, ⟨hn, h0⟩, hst⟩ := hs
    obtain ⟨u, g1, g2⟩ := res_ok hst h1
    obtain ⟨hm, hF⟩ := wk_mem σ hst.mem h4 h5
    rw [h2] at g1
    have g3 := msv_r h3 g1
    let ρ2 : Nat → At := fun i => if i < c.n0 then ρ i else if i < c.n then vwAt ρf (σ i) else ρ i
    have hρ : ∀ i, i < c.n → newV (· < c.n0) c.n0 c.n i ∧ ρ2 i = vwAt ρf (σ i) := by
      intro i hi
      by_cases hlt : i < c.n0
      · refine ⟨.inl hlt, ?_⟩
        simp only [ρ2, if_pos hlt]
        rw [h6 i hlt]
        exact (h0 i hlt).symm
      · refine ⟨.inr (by omega), ?_⟩
        simp only [ρ2, if_neg hlt, if_pos hi]
    have hdone : Done (· < c.n0) ρ c.pre c.n0 w c.eff u ρ2 w' := by
      refine ⟨fun i hi => ?_, g3.mono hρ, ⟨fun i blk hb => ?_, fun i j blk blk' hne hb ho hb' b hFb hFb' => ?_⟩, fun i blk hb b hFb => ?_, hst.os, hst.tape, hst.output, hst.size, fun k hk hnot => ?_⟩
      · have e : c.eff.nx = c.n := rfl
        rw [e] at hi
        simp only [ρ2]
        split
        · rfl
        · rw [if_neg (by omega)]
      · obtain ⟨q1, q2, q3⟩ := hm.dom i blk hb
        rw [(hρ i q1).2]
        exact ⟨(hρ i q1).1, q2.keep hρ (fun _ _ => rfl), q3⟩
      · rw [(hρ i (hm.dom i blk hb).1).2] at hFb
        rw [(hρ j (hm.dom j blk' hb').1).2] at hFb'
        exact hm.sep i j blk blk' hne hb ho hb' b hFb hFb'
      · rw [(hρ i (hm.dom i blk hb).1).2] at hFb
        obtain ⟨k, blk', q1, q2, q3⟩ := hF i blk hb b hFb
        rcases hst.base k blk' q1 (by rw [q2]; exact hc.own i blk (hget_mem hb)) b q3 with q4 | ⟨j, blk2, q4, q5, q6, q7⟩
        · exact .inl q4
        · obtain ⟨⟨j', x⟩, r1, r2⟩ := List.mem_map.1 (hc.all j blk2 q5 q6)
          simp only at r2
          subst r2
          exact .inr (.inl ⟨_, x, r1, q4, q7⟩)
      · refine hst.block k hk hk ?_
        rintro ⟨j, blk2, q4, q5, q6, q7⟩
        obtain ⟨⟨j', x⟩, r1, r2⟩ := List.mem_map.1 (hc.all j blk2 q5 q6)
        simp only at r2
        subst r2
        exact hnot _ x r1 q4 q7
    rcases hex with rfl | rfl
    · exact ⟨hst.defers, u, g2, u, ρ2, rfl, hdone⟩
    · exact ⟨hst.defers, u, g2, u, ρ2, rfl, hdone⟩
  · have e : (vs.toArray ++ Array.replicate (fn.ntmps - vs.toArray.size) undef).toList = vs ++ List.replicate (fn.ntmps - vs.length) undef := by simp
    rw [e, ← hargs.length]
    exact hargs.append (All2.replicate trivial _)

end Go.Proofs.Ytmdajpgemcaefaa
