/-
  The engine, fourteenth part: a call does what its contract says. No conditions of its own.
-/
import Derived.Test.YtmdajpgemcaefaaES
namespace Go.Proofs.Ytmdajpgemcaefaa
set_option linter.unusedSimpArgs false
set_option linter.unusedVariables false
open Go.RowKit

theorem All2.map_same {α β γ : Type} {R : β → γ → Prop} {f : α → β} {g : α → γ} (h : ∀ x, R (f x) (g x)) : ∀ l : List α, All2 R (l.map f) (l.map g)
  | [] => trivial
  | x :: l => ⟨h x, All2.map_same h l⟩

theorem call_fit {P : Program} {H : Heap} {nx : Nat} {c : Con} {π : Nat → Vw} {f : FuncId} (hB : Bnd H nx) (hf : Fits H c π) (hfn : FnR P f c) : Fit H nx (c.effAt π nx) := by
  have hfit := hfn.1
  have hs : ∀ i b, (i, b) ∈ c.wr → i < c.n0 → ∃ g blk, π i = .same g ∧ rid π c.n0 nx i = g ∧ hget H g = some blk ∧ blk.own = true ∧ g < nx := by
    intro i b h hi
    obtain ⟨g, blk, h1, h2, h3⟩ := wr_same hf hfit h hi
    exact ⟨g, blk, h1, by unfold rid; rw [if_pos hi, h1], h2, h3, hB g blk h2⟩
  refine ⟨Nat.le_add_right _ _, fun g hg => ?_, fun g b hb => ?_, ?_⟩
  · obtain ⟨i, hi, hg⟩ := List.mem_filterMap.1 hg
    exact hf.dom i g (List.mem_range.1 hi) hg
  · obtain ⟨⟨i, b'⟩, hi, he⟩ := List.mem_map.1 hb
    simp only [Prod.mk.injEq] at he
    obtain ⟨rfl, _⟩ := he
    by_cases hlt : i < c.n0
    · obtain ⟨g, blk, h1, h2, h3, h4, h5⟩ := hs i b' hi hlt
      rw [h2]
      exact ⟨Nat.lt_of_lt_of_le h5 (Nat.le_add_right _ _), fun _ => ⟨List.mem_filterMap.2 ⟨i, List.mem_range.2 hlt, by rw [h1]; rfl⟩, blk, h3, h4⟩⟩
    · have := (hfit.key i b' hi).1
      have e : c.eff.nx = c.n := rfl
      unfold rid
      rw [if_neg hlt]
      simp only [Con.effAt]
      exact ⟨by omega, fun h => by omega⟩
  · have hn := hfit.nodup
    have : (c.effAt π nx).wr.map (·.1) = c.wr.map fun p => rid π c.n0 nx p.1 := by simp [Con.effAt]
    rw [this]
    unfold List.Nodup at hn ⊢
    rw [List.pairwise_map] at hn ⊢
    refine List.Pairwise.imp_of_mem ?_ hn
    intro p q hp hq hne he
    obtain ⟨i, b⟩ := p
    obtain ⟨j, b'⟩ := q
    simp only at hne he
    by_cases hi : i < c.n0
    · obtain ⟨g, blk, h1, h2, h3, h4, h5⟩ := hs i b hp hi
      by_cases hj : j < c.n0
      · obtain ⟨g', blk', h1', h2', _⟩ := hs j b' hq hj
        exact hf.uniq i j g hi hj hne h1 (by rw [h1', ← h2', ← he, h2]; rfl)
      · rw [h2] at he
        unfold rid at he
        rw [if_neg hj] at he
        omega
    · by_cases hj : j < c.n0
      · obtain ⟨g', blk', h1', h2', h3', h4', h5'⟩ := hs j b' hq hj
        rw [h2'] at he
        unfold rid at he
        rw [if_neg hi] at he
        omega
      · unfold rid at he
        rw [if_neg hi, if_neg hj] at he
        omega

theorem call_eff {P : Program} {o : Oper} {ev : Operand → SV} {H : Heap} {nx : Nat} {c : Con} {π : Nat → Vw} {f : FuncId} {cl : Call} (ho : o.op = .call cl) (hcl : cl.callee = .value (.func f)) (hargs : cl.args.toList.map ev = c.args.map (·.map (mcv π)))
    (hB : Bnd H nx) (hf : Fits H c π) (hfn : FnR P f c) (hcal : Callable P f) : EffOK P o ev H nx (c.effAt π nx) := by
  intro V ρ a w K Q hV hev hm hK
  have hfit := hfn.1
  have hrn : (c.effAt π nx).nx = nx + (c.n - c.n0) := rfl
  have hrd : (c.effAt π nx).rd = (List.range c.n0).filterMap fun i => (π i).blk := rfl
  have hwr : (c.effAt π nx).wr = c.wr.map fun p => (rid π c.n0 nx p.1, p.2.map (Blk.map (rcv π c.n0 nx))) := rfl
  rw [hrd] at hm
  have hvs : All2 (SVr V ρ) (cl.args.toList.map ev) (cl.args.toList.map a.eval) := All2.map_same (fun x => hev x) _
  rw [hargs] at hvs
  have hvs' : All2 (SVr (· < c.n0) fun i => vwAt ρ (π i)) c.args (cl.args.toList.map a.eval) := hvs.of_map fun x hx u hu => msv_r (hf.args x hx) hu
  have hcalls := hfn.2 _ _ w hvs' (pre_mem hf hm)
  have hexec : (execOp a.eval o).run P w = .ok (.enter f (cl.args.toList.map a.eval).toArray) w := by
    obtain ⟨fn, h1, h2, h3⟩ := hcal
    unfold execOp
    simp only [ho, resolve, hcl, Act.eval, Deferred.ofValue, Sem.run_bind, Sem.run_pure, Result.andThen_ok, invoke, callFunc, run_program, h1, h2, h3]
    have e1 : cl.args.map a.eval = (cl.args.toList.map a.eval).toArray := by apply Array.ext'; simp
    simp [e1]
  unfold Oper.wp
  rw [hexec, Oper.upon_enter]
  refine hcalls.mono fun e w' he => ?_
  obtain ⟨u, ρ', rfl, hd⟩ := he
  refine hK u (retA ρ ρ' c.n0 nx (nx + (c.n - c.n0))) w' ?_
  have hV0 : ∀ i g, i < c.n0 → (π i).blk = some g → V g ∧ g < nx := by
    intro i g hi hg
    obtain ⟨blk, hb⟩ := hf.dom i g hi hg
    exact ⟨(hm.dom g blk (looked_get (List.mem_filterMap.2 ⟨i, List.mem_range.2 hi, hg⟩) hb)).1, hB g blk hb⟩
  have hπ : ∀ i g, i < c.n0 → π i = .same g → V g ∧ (g < nx ∨ nx + (c.n - c.n0) ≤ g) := fun i g hi hp => by
    obtain ⟨h1, h2⟩ := hV0 i g hi (by rw [hp]; rfl)
    exact ⟨h1, .inl h2⟩
  have hsame : ∀ i, i < c.n0 → ρ' i = vwAt ρ (π i) := fun i hi => hd.same i (.inl hi)
  -- the places of changed and new blocks
  have hrid : ∀ i b, (i, b) ∈ c.wr → newV (· < c.n0) c.n0 c.n i → newV V nx (nx + (c.n - c.n0)) (rid π c.n0 nx i) ∧ retA ρ ρ' c.n0 nx (nx + (c.n - c.n0)) (rid π c.n0 nx i) = ρ' i := by
    intro i b hib hv
    by_cases hi : i < c.n0
    · obtain ⟨g, blk, h1, h2, h3⟩ := wr_same hf hfit hib hi
      obtain ⟨q1, q2⟩ := hV0 i g hi (by rw [h1]; rfl)
      have e : rid π c.n0 nx i = g := by unfold rid; rw [if_pos hi, h1]
      rw [e]
      refine ⟨.inl q1, ?_⟩
      unfold retA
      rw [if_neg (by omega), hsame i hi, h1]; rfl
    · have e : rid π c.n0 nx i = nx + (i - c.n0) := by unfold rid; rw [if_neg hi]
      rw [e]
      rcases hv with hv | hv
      · exact absurd hv hi
      · refine ⟨.inr (by omega), ?_⟩
        unfold retA
        rw [if_pos (by omega)]
        congr 1; omega
  have hdom : ∀ i b, (i, some b) ∈ c.wr → hget c.wr i = some b := fun i b h => hget_of_mem hfit.nodup h
  refine ⟨fun g hg => ?_, ?_, ⟨fun g blk hb => ?_, fun g g' blk blk' hne hb ho' hb' b' hF hF' => ?_⟩, fun g blk hb b' hF => ?_, hd.os, hd.tape, hd.output, hd.size, fun k hk hn => hd.block k hk fun i x hix hi hF => ?_⟩
  · rw [hrn] at hg
    unfold retA; rw [if_neg (by omega)]
  · exact rsv_r rfl hsame hπ hd.val
  · rw [hwr] at hb
    obtain ⟨i, b, h1, rfl, rfl⟩ := hget_map_inv _ _ _ _ _ hb
    obtain ⟨q1, q2, q3⟩ := hd.mem.dom i b (hdom i b h1)
    obtain ⟨r1, r2⟩ := hrid i _ h1 q1
    refine ⟨r1, ?_, by rw [r2]; exact q3⟩
    rw [r2]
    cases b with
    | box T cs =>
      obtain ⟨s0, b, vs, s1, s2, s3, s4⟩ := q2
      exact ⟨s0, b, vs, s1, s2, s3, s4.to_map fun x u hu => rcv_r rfl hsame hπ hu⟩
    | row T es => exact q2
    | ro es => exact q2
  · rw [hwr] at hb hb'
    obtain ⟨i, b, h1, rfl, rfl⟩ := hget_map_inv _ _ _ _ _ hb
    obtain ⟨j, b2, h2, rfl, rfl⟩ := hget_map_inv _ _ _ _ _ hb'
    have hij : i ≠ j := fun e => hne (by rw [e])
    rw [(hrid i _ h1 (hd.mem.dom i b (hdom i b h1)).1).2] at hF
    rw [(hrid j _ h2 (hd.mem.dom j b2 (hdom j b2 h2)).1).2] at hF'
    exact hd.mem.sep i j b b2 hij (hdom i b h1) (by rw [← Blk.own_map (rcv π c.n0 nx)]; exact ho') (hdom j b2 h2) b' hF hF'
  · rw [hwr] at hb
    obtain ⟨i, b, h1, rfl, rfl⟩ := hget_map_inv _ _ _ _ _ hb
    rw [(hrid i _ h1 (hd.mem.dom i b (hdom i b h1)).1).2] at hF
    rcases hd.foot i b (hdom i b h1) b' hF with q | ⟨j, x, q1, q2, q3⟩ | ⟨q1, _⟩
    · exact .inl q
    · obtain ⟨g, blk, h3, h4, h5⟩ := wr_same hf hfit q1 q2
      refine .inr (.inl ⟨rid π c.n0 nx j, x.map (Blk.map (rcv π c.n0 nx)), by rw [hwr]; exact List.mem_map.2 ⟨_, q1, rfl⟩, ?_, ?_⟩)
      · unfold rid; rw [if_pos q2, h3]; exact hB g blk h4
      · have e : rid π c.n0 nx j = g := by unfold rid; rw [if_pos q2, h3]
        rw [e]
        have q3' : (vwAt ρ (π j)).F b' := q3
        rw [h3] at q3'; exact q3'
    · rw [hf.own i b h1] at q1; cases q1
  · obtain ⟨g, blk, h3, h4, h5⟩ := wr_same hf hfit hix hi
    have e : rid π c.n0 nx i = g := by unfold rid; rw [if_pos hi, h3]
    have hF' : (vwAt ρ (π i)).F k := hF
    rw [h3] at hF'
    exact hn g (x.map (Blk.map (rcv π c.n0 nx))) (by rw [hwr]; exact List.mem_map.2 ⟨_, hix, by simp [e]⟩) (hB g blk h4) hF'

/-- The operations that a state can be carried through. -/
def stepK (P : Program) (ck : Bool) (o : Oper) (ev : Operand → SV) (H : Heap) (nx : Nat) (K : Eff → Prop) : Prop :=
  match o.op with
  | .alloc _ => memK P o ev H nx K
  | .box _ _ => memK P o ev H nx K
  | .load _ _ => memK P o ev H nx K
  | .store _ _ _ => memK P o ev H nx K
  | .buildSlice _ _ _ => memK P o ev H nx K
  | .makeSlice _ _ _ => memK P o ev H nx K
  | .call cl => match cl.callee with
    | .value (.func f) => ∃ (c : Con) (π : Nat → Vw), FnR P f c ∧ Callable P f ∧ cl.args.toList.map ev = c.args.map (·.map (mcv π)) ∧ Fits H c π ∧ K (c.effAt π nx)
    | .builtin .append => appK P o ev H nx K
    | _ => pureK P ck o ev fun r => K ⟨r, [], [], nx⟩
  | .convert _ _ x => match ev x with
    | .c (.sl _ _ _ _) => strK P o ev H nx K
    | .c .nil => strK P o ev H nx K
    | _ => pureK P ck o ev fun r => K ⟨r, [], [], nx⟩
  | _ => pureK P ck o ev fun r => K ⟨r, [], [], nx⟩

theorem stepK_ok {P : Program} {ck : Bool} {o : Oper} {ev : Operand → SV} {H : Heap} {nx : Nat} {K : Eff → Prop} (hB : Bnd H nx) (h : stepK P ck o ev H nx K) : ∃ e, Fit H nx e ∧ EffOK P o ev H nx e ∧ K e := by
  have hp : pureK P ck o ev (fun r => K ⟨r, [], [], nx⟩) → ∃ e, Fit H nx e ∧ EffOK P o ev H nx e ∧ K e := fun h => by
    obtain ⟨r, h1, h2⟩ := pureK_ok h
    exact ⟨_, fit_pure H nx r, h1.eff H nx, h2⟩
  unfold stepK at h
  split at h
  · rename_i e ho; exact new_ok (.inl ⟨_, ho⟩) h
  · rename_i e x ho; exact new_ok (.inr ⟨_, _, ho⟩) h
  · rename_i t x ho; exact load_ok ho h
  · rename_i t x y ho; exact store_ok ho hB h
  · rename_i t n ps ho; exact buildSlice_ok ho h
  · rename_i t l c ho; exact makeSlice_ok ho h
  · rename_i cl ho
    split at h
    · rename_i f hcl
      obtain ⟨c, π, h1, h2, h3, h4, h5⟩ := h
      exact ⟨_, call_fit hB h4 h1, call_eff ho hcl h3 hB h4 h1 h2, h5⟩
    · exact app_ok hB h
    · exact hp h
  · split at h
    · exact str_ok h
    · exact str_ok h
    · exact hp h
  · exact hp h

end Go.Proofs.Ytmdajpgemcaefaa
