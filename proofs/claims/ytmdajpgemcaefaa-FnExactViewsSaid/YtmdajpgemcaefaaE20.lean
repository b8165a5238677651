/-
  The engine, twentieth part: regions that draw their order do what is told of them. No conditions of its own.
-/
import Derived.Test.YtmdajpgemcaefaaE19
namespace Go.Proofs.Ytmdajpgemcaefaa
set_option linter.unusedSimpArgs false
set_option linter.unusedVariables false
open Go.RowKit

theorem onOps_look {o : Oper} {ops : Array Oper} {t : Nat} (h : t ∈ o.op.operands.toList.filterMap tmpOf) : t ∈ o.looksAt ops := by
  obtain ⟨x, hx, he⟩ := List.mem_filterMap.1 h
  cases x <;> simp only [tmpOf] at he <;> try (cases he; done)
  cases he
  exact List.mem_append_left _ (List.mem_filterMap.2 ⟨_, hx, rfl⟩)

/-- EffOK under other slots and blocks that agree where the operation looks. -/
theorem EffOK.other {P : Program} {o : Oper} {sl sl' : List SV} {H H' : Heap} {nx : Nat} {e : Eff} (h : EffOK P o (onOps o (evS sl)) H nx e)
    (hs : ∀ t, t ∈ (o.op.operands.toList.filterMap tmpOf) → sl[t]? = sl'[t]?) (hH : ∀ f ∈ e.rd, hget H f = hget H' f) : EffOK P o (evS sl') H' nx e := by
  intro V ρ a w K Q hV hev hm hK
  have hl : looked H e.rd = looked H' e.rd := by
    funext f
    unfold looked
    split
    · rename_i hf; exact hH f hf
    · rfl
  refine h V ρ a w K Q hV (fun x => ?_) (by rw [hl]; exact hm) fun u ρ' w' hd => hK u ρ' w' ⟨hd.same, hd.val, hd.mem, fun f blk hb b hF => ?_, hd.os, hd.tape, hd.output, hd.size, hd.block⟩
  · cases x with
    | tmp t =>
      simp only [onOps]
      split
      · rename_i hc
        have := hev (.tmp t)
        simp only [evS] at this ⊢
        rw [hs t (by rwa [List.contains_eq_mem, decide_eq_true_eq] at hc)]
        exact this
      · trivial
    | const v => exact hev (.const v)
    | global g => exact hev (.global g)
    | func f => exact hev (.func f)
  · rcases hd.foot f blk hb b hF with q | q | ⟨q1, g, q2, blk', q3, q4⟩
    · exact .inl q
    · exact .inr (.inl q)
    · exact .inr (.inr ⟨q1, g, q2, blk', by rw [← hH g q2]; exact q3, q4⟩)

theorem Fit.other {H H' : Heap} {nx : Nat} {e : Eff} (h : Fit H nx e) (hH : ∀ f ∈ e.rd, hget H f = hget H' f) : Fit H' nx e :=
  ⟨h.le, fun f hf => by rw [← hH f hf]; exact h.rd f hf, fun f b hb => ⟨(h.key f b hb).1, fun hlt => by
    obtain ⟨h1, blk, h2, h3⟩ := (h.key f b hb).2 hlt
    exact ⟨h1, blk, by rw [← hH f h1]; exact h2, h3⟩⟩, h.nodup⟩

theorem St.heap {V : Nat → Prop} {ρ : Nat → At} {sl : List SV} {H H' : Heap} {B : Nat} {T : Nat → Prop} {w0 : World} {a : Act} {w : World} (h : St V ρ sl H B T w0 a w) (hH : ∀ f, hget H' f = hget H f) : St V ρ sl H' B T w0 a w := by
  have e : hget H' = hget H := funext hH
  exact ⟨h.slots, h.defers, by rw [e]; exact h.mem, fun f blk hb => h.base f blk (by rw [← hH f]; exact hb), h.os, h.tape, h.output, h.size, h.block, h.le⟩

theorem indep_edge {ops : Array Oper} {rs : List (Option Eff)} (h : indep ops rs = true) {i : Nat} {o : Oper} (ho : ops.toList[i]? = some o) {e : Edge} (he : e ∈ o.after) (hb : Region.binds .any e = true) : e.on < i := by
  simp only [indep, Bool.and_eq_true, List.all_eq_true] at h
  have := h.1 (o, i) (by
    rw [List.mem_iff_getElem?]
    exact ⟨i, by rw [List.getElem?_zipIdx, ho]; simp⟩)
  simp only at this
  rw [Array.all_eq_true_iff_forall_mem] at this
  have := this e he
  simpa [hb] using this

theorem draw_ok {P : Program} {ck : Bool} (hmix : P.follows .mixedOrders = true) : DrOK P (drawK P ck) := by
  intro id ops sl0 H0 nx0 K Q X a w h hs hQ
  obtain ⟨V0, ρ0, hV0, hX0, hst0⟩ := hs
  obtain ⟨rs, hlen, hok, hind, hK⟩ := lexD_spec (s0 := (sl0, H0, nx0)) ops.toList 0 [] rfl (fun j => by rw [Nat.zero_add]) (Nat.zero_add _) (hst0.bnd hV0) (fun j o r hj => by omega) h
  have hop : ∀ i : Nat, ops[i]? = ops.toList[i]? := fun i => by simp
  have hnod : ∀ (i : Nat) (o : Oper) (e : Eff), ops.toList[i]? = some o → rs[i]? = some (some e) → (keysOf e).Nodup := fun i o e ho hr => ((hok i o _ ho hr).2 e rfl).1.nodup
  have hget' := stOf_get (s := (sl0, H0, nx0)) hlen hnod
  -- the numbers of blocks rise
  have hnx : ∀ k, (stOf ops.toList rs (sl0, H0, nx0) k).2.2 ≤ (stOf ops.toList rs (sl0, H0, nx0) (k + 1)).2.2 := by
    intro k
    simp only [stOf]
    cases ho : ops.toList[k]? with
    | none => exact Nat.le_refl _
    | some o =>
      cases hr : rs[k]? with
      | none => exact Nat.le_refl _
      | some r =>
        cases r with
        | none => exact Nat.le_refl _
        | some e => exact ((hok k o _ ho hr).2 e rfl).1.le
  have hnxm : ∀ k m, k ≤ m → (stOf ops.toList rs (sl0, H0, nx0) k).2.2 ≤ (stOf ops.toList rs (sl0, H0, nx0) m).2.2 := by
    intro k m hkm
    induction m with
    | zero => rw [Nat.le_zero.1 hkm]; exact Nat.le_refl _
    | succ m ih =>
      rcases Nat.lt_or_ge k (m + 1) with h1 | h1
      · exact Nat.le_trans (ih (by omega)) (hnx m)
      · have : k = m + 1 := by omega
        rw [this]; exact Nat.le_refl _
  let Inv : (Nat → Bool) → Act → World → Prop := fun L a w => ∃ V ρ sl H, sl.length = sl0.length ∧ (∀ t, sl[t]? = folds (wS sl0.length ops.toList rs) (fun t => sl0[t]?) L ops.size t) ∧ (∀ f, hget H f = folds (wH rs) (hget H0) L ops.size f) ∧
    (∀ f, V f → f < nx0 ∨ ∃ j, j < ops.size ∧ L j = true ∧ (stOf ops.toList rs (sl0, H0, nx0) j).2.2 ≤ f ∧ f < (stOf ops.toList rs (sl0, H0, nx0) (j + 1)).2.2) ∧ (∀ f, f < X.n0 → ρ f = X.ρ0 f) ∧ St V ρ sl H X.B X.T X.w0 a w
  have hpair := fun k k' o r o' r' => pairsOK_spec (ops := ops) (ms := masks ops.toList []) 0 ops.toList rs (by simp only [indep, Bool.and_eq_true] at hind; exact hind.2) k k' o r o' r'
  -- one operation that may come up
  have step : ∀ (listed : Array Bool) (a : Act) (w : World) (i : Nat) (Kn : Act → World → Prop), (∀ (j : Nat) o e, ops[j]? = some o → listed.getD j false = true → e ∈ o.after → Region.binds .any e = true → listed.getD e.on false = true) →
      listed.size = ops.size → i ∈ Region.ready .any ops listed → Inv (fun j => listed.getD j false) a w →
      (∀ a w, Inv (fun j => (listed.setIfInBounds i true).getD j false) a w → Kn a w) → wpOp P ops Q i Kn a w := by
    intro listed a w i Kn hcl hsz hr hI hKn
    obtain ⟨hun, o, ho, haf⟩ := mem_ready.1 hr
    have hio : i < ops.size := (Array.getElem?_eq_some_iff.1 ho).1
    have ho' : ops.toList[i]? = some o := by rw [← hop]; exact ho
    have hunf : listed.getD i false = false := by
      have hi2 : i < listed.size := by omega
      simp only [Array.getD, hi2] at hun ⊢
      exact hun
    obtain ⟨r, hri⟩ : ∃ r, rs[i]? = some r := ⟨_, List.getElem?_eq_getElem (by rw [hlen]; simpa using hio)⟩
    obtain ⟨hgd, hrec⟩ := hok i o r ho' hri
    -- what is ordered before i has come up; what has come up is not ordered behind i
    have hbef : ∀ j, ((masks ops.toList []).getD i 0).testBit j = true → listed.getD j false = true := by
      intro j hj
      have := masks_closed (L := fun k => listed.getD k false = true ∨ k = i) ops.toList [] (fun i j _ h => by simp at h) (fun k o' e hk hL he hb => by
        simp only [List.length_nil, Nat.zero_add] at hL
        rcases hL with hL | rfl
        · exact .inl (hcl k o' e (by rw [hop]; exact hk) hL he hb)
        · rw [ho'] at hk; cases hk
          exact .inl (haf e he hb)) i j (.inr rfl) hj
      rcases this with h1 | h1
      · exact h1
      · exfalso
        subst h1
        have hlt : ∀ (n : Nat), ∀ i j, i < n → ((masks ops.toList []).getD i 0).testBit j = true → j < i := by
          intro n i j _ hb
          exact masks_closed (L := fun k => k < i ∨ (k = i ∧ True)) ops.toList [] (fun i j _ h => by simp at h) (fun k o' e hk hL he hb => by
            simp only [List.length_nil, Nat.zero_add] at hL
            have := indep_edge hind hk he hb
            left; omega) i j (.inr ⟨rfl, trivial⟩) hb |>.elim (fun h => h) (fun h => by
              obtain ⟨h, _⟩ := h
              subst h
              -- the own bit is never set
              exfalso
              have own : ∀ (l : List Oper) (acc : List Nat), (∀ k, (acc.getD k 0).testBit k = false) → (∀ k j, (acc.getD k 0).testBit j = true → j < k) → (∀ k o' e, l[k]? = some o' → e ∈ o'.after → Region.binds .any e = true → e.on < acc.length + k) → ∀ k j, ((masks l acc).getD k 0).testBit j = true → j < k := by
                intro l
                induction l with
                | nil => intro acc _ h2 _; exact h2
                | cons o' l ih =>
                  intro acc h1 h2 h3
                  have hm : ∀ j, (maskOf acc o').testBit j = true → j < acc.length := by
                    intro j hj
                    obtain ⟨e, q1, q2, q3⟩ := maskOf_bit hj
                    have := h3 0 o' e rfl q1 q2
                    rcases q3 with rfl | q3
                    · simpa using this
                    · have := h2 _ _ q3; omega
                  have g : ∀ k, (acc ++ [maskOf acc o']).getD k 0 = if k < acc.length then acc.getD k 0 else if k = acc.length then maskOf acc o' else 0 := by
                    intro k
                    simp only [List.getD_eq_getElem?_getD]
                    by_cases hk : k < acc.length
                    · rw [List.getElem?_append_left hk, if_pos hk]
                    · rw [if_neg hk, List.getElem?_append_right (by omega)]
                      by_cases hk2 : k = acc.length
                      · simp [hk2]
                      · rw [if_neg hk2, List.getElem?_eq_none (by simp; omega)]; rfl
                  refine ih _ (fun k => ?_) (fun k j hj => ?_) (fun k o2 e hk he hb => by have := h3 (k + 1) o2 e (by simpa using hk) he hb; simp; omega)
                  · rw [g]
                    split
                    · exact h1 k
                    · split
                      · rename_i hk; subst hk
                        cases hb : (maskOf acc o').testBit acc.length with
                        | false => rfl
                        | true => have := hm _ hb; omega
                      · simp
                  · rw [g] at hj
                    split at hj
                    · exact h2 k j hj
                    · split at hj
                      · rename_i hk; subst hk; exact hm j hj
                      · simp at hj
              have := own ops.toList [] (fun k => by simp) (fun k j h => by simp at h) (fun k o' e hk he hb => by simpa using indep_edge hind hk he hb) _ _ hb
              omega)
        have := hlt (j + 1) j j (Nat.lt_succ_self _) hj
        omega
    have haft : ∀ j, listed.getD j false = true → ((masks ops.toList []).getD j 0).testBit i = true → False := by
      intro j hj hb
      have := masks_closed (L := fun k => listed.getD k false = true) ops.toList [] (fun i j _ h => by simp at h) (fun k o' e hk hL he hb => by
        simp only [List.length_nil, Nat.zero_add] at hL
        exact hcl k o' e (by rw [hop]; exact hk) hL he hb) j i hj hb
      rw [hunf] at this; cases this
    -- another operation: on its side, or apart
    have apart : ∀ j o' r', ops.toList[j]? = some o' → rs[j]? = some r' → j ≠ i → (listed.getD j false = decide (j < i)) ∨ ((o.apart ops o' = true ∧ famsApart r r' = true) ∨ (o'.apart ops o = true ∧ famsApart r' r = true)) := by
      intro j o' r' hj hr' hne
      rcases Nat.lt_or_gt_of_ne hne with h1 | h1
      · rcases hpair j i o' r' o r h1 hj hr' ho' hri with h2 | h2
        · left
          rw [hbef j (by simpa using h2)]; simp [h1]
        · exact .inr (.inr h2)
      · rcases hpair i j o r o' r' h1 ho' hri hj hr' with h2 | h2
        · left
          have : listed.getD j false = false := by
            cases hb : listed.getD j false with
            | false => rfl
            | true => exact (haft j hb (by simpa using h2)).elim
          rw [this]; simp; omega
        · exact .inr (.inl h2)
    have slot : ∀ t, (t ∈ o.looksAt ops ∨ o.dst = some t) → ∀ j, j ≠ i → wS sl0.length ops.toList rs j t = none ∨ listed.getD j false = decide (j < i) := by
      intro t ht j hne
      cases hj : ops.toList[j]? with
      | none => left; simp [wS, hj]
      | some o' =>
        cases hr' : rs[j]? with
        | none => left; simp [wS, hr']
        | some r' =>
          rcases apart j o' r' hj hr' hne with h1 | h1
          · exact .inr h1
          · left
            simp only [wS, hj, hr']
            rw [if_neg]
            intro hd
            rcases h1 with h1 | h1
            · obtain ⟨q1, q2, q3⟩ := Oper.apart_spec h1.1
              rcases ht with ht | ht
              · exact q3 t hd ht
              · exact q2 t ht hd
            · obtain ⟨q1, q2, q3⟩ := Oper.apart_spec h1.1
              rcases ht with ht | ht
              · exact q1 t hd ht
              · exact q2 t hd ht
    have fam : ∀ e, r = some e → ∀ f, (f ∈ e.rd ∨ f ∈ keysOf e) → ∀ j, j ≠ i → wH rs j f = none ∨ listed.getD j false = decide (j < i) := by
      rintro e rfl f hf j hne
      cases hr' : rs[j]? with
      | none => left; simp [wH, hr']
      | some r' =>
        cases r' with
        | none => left; simp [wH, hr']
        | some e' =>
          obtain ⟨o', hj⟩ : ∃ o', ops.toList[j]? = some o' := ⟨_, List.getElem?_eq_getElem (by rw [← hlen]; exact (List.getElem?_eq_some_iff.1 hr').1)⟩
          rcases apart j o' _ hj hr' hne with h1 | h1
          · exact .inr h1
          · left
            simp only [wH, hr']
            rw [if_neg]
            intro hk
            rcases h1 with h1 | h1
            · have := h1.2
              simp only [famsApart, Bool.and_eq_true, List.all_eq_true, Bool.not_eq_true', List.contains_eq_mem, decide_eq_false_iff_not] at this
              rcases hf with hf | hf
              · exact this.2 f hk hf
              · exact (this.1 f hf).2 hk
            · have := h1.2
              simp only [famsApart, Bool.and_eq_true, List.all_eq_true, Bool.not_eq_true', List.contains_eq_mem, decide_eq_false_iff_not] at this
              rcases hf with hf | hf
              · exact (this.1 f hk).1 hf
              · exact (this.1 f hk).2 hf
    obtain ⟨V, ρ, sl, H, hl, hsl, hH, hV, hρ, hst⟩ := hI
    obtain ⟨g0, g1, g2⟩ := hget' i
    -- what i looks at is as in the order of the text
    have slEq : ∀ t, t ∈ o.looksAt ops → (stOf ops.toList rs (sl0, H0, nx0) i).1[t]? = sl[t]? := by
      intro t ht
      rw [g1, hsl]
      have e1 : folds (wS sl0.length ops.toList rs) (fun t => sl0[t]?) (fun j => decide (j < i)) ops.size t = folds (wS sl0.length ops.toList rs) (fun t => sl0[t]?) (fun j => decide (j < i)) i t :=
        folds_more ops.size (by omega) fun j h1 h2 => .inr (by simp; omega)
      have e2 : folds (wS sl0.length ops.toList rs) (fun t => sl0[t]?) (fun _ => true) i t = folds (wS sl0.length ops.toList rs) (fun t => sl0[t]?) (fun j => decide (j < i)) i t := folds_agree fun j hj => .inr (by simp [hj])
      rw [e2, ← e1]
      refine folds_agree fun j hj => ?_
      by_cases hji : j = i
      · subst hji; right; rw [hunf]; simp
      · rcases slot t (.inl ht) j hji with h1 | h1
        · exact .inl h1
        · exact .inr h1.symm
    have famEq : ∀ e, r = some e → ∀ f, (f ∈ e.rd ∨ f ∈ keysOf e) → hget (stOf ops.toList rs (sl0, H0, nx0) i).2.1 f = hget H f := by
      intro e he f hf
      rw [g2, hH]
      have e1 : folds (wH rs) (hget H0) (fun j => decide (j < i)) ops.size f = folds (wH rs) (hget H0) (fun j => decide (j < i)) i f :=
        folds_more ops.size (by omega) fun j h1 h2 => .inr (by simp; omega)
      have e2 : folds (wH rs) (hget H0) (fun _ => true) i f = folds (wH rs) (hget H0) (fun j => decide (j < i)) i f := folds_agree fun j hj => .inr (by simp [hj])
      rw [e2, ← e1]
      refine folds_agree fun j hj => ?_
      by_cases hji : j = i
      · subst hji; right; rw [hunf]; simp
      · rcases fam e he f hf j hji with h1 | h1
        · exact .inl h1
        · exact .inr h1.symm
    -- the state behind i
    have hL' : ∀ j, j ≠ i → (listed.setIfInBounds i true).getD j false = listed.getD j false := fun j hj => getD_set_ne false (Ne.symm hj)
    have hLi : (listed.setIfInBounds i true).getD i false = true := by
      have hi2 : i < listed.size := by omega
      simp [Array.getD, hi2]
    have insS : ∀ (rv : SV), recR r = rv → ∀ t, (putS sl o.dst rv)[t]? = folds (wS sl0.length ops.toList rs) (fun t => sl0[t]?) (fun j => (listed.setIfInBounds i true).getD j false) ops.size t := by
      intro rv hrv t
      have e1 := folds_ins (W := wS sl0.length ops.toList rs) (b := fun t => sl0[t]?) (L := fun j => listed.getD j false) (L' := fun j => (listed.setIfInBounds i true).getD j false) (x := t) hio hunf hLi hL' (fun j h1 h2 h3 => by
        by_cases hd : o.dst = some t
        · rcases slot t (.inr hd) j (by omega) with h4 | h4
          · exact .inl h4
          · rw [h4] at h3; simp at h3; omega
        · right; simp [wS, ho', hri, hd])
      rw [e1, ← hsl t, putS_get, hl]
      simp only [wS, ho', hri, hrv]
      split
      · split
        · rfl
        · rename_i hlt
          have : sl[t]? = none := List.getElem?_eq_none (by omega)
          simp [this]
      · rfl
    unfold wpOp
    rw [ho]
    simp only
    -- the guard
    have hwant : Region.wanted o (yielded ops a.tmps) = r.isSome := by
      unfold guardOK at hgd
      unfold Region.wanted
      cases hg : o.guard with
      | none => rw [hg] at hgd; simp [hgd]
      | some p =>
        obtain ⟨j, want⟩ := p
        rw [hg] at hgd
        obtain ⟨d, t, h1, h2, h3⟩ := hgd
        have hdl : d ∈ o.looksAt ops := by
          unfold Oper.looksAt
          rw [hg]
          exact List.mem_append_right _ (by simp [h1])
        rw [slEq d hdl] at h2
        obtain ⟨u, hu, hur⟩ := hst.slots.get h2
        have hy : yielded ops a.tmps j = some t := by
          unfold yielded
          rw [h1]
          have : a.tmps[d]? = some (.bool t) := by rw [hur.1] at hu; simpa using hu
          simp only [Option.bind_some, this]
        simp only [hy]
        cases hs : r.isSome with
        | true => simp [h3.1 hs]
        | false =>
          have : t ≠ want := fun e => by rw [h3.2 e] at hs; cases hs
          simp [this]
    cases hrr : r with
    | none =>
      rw [hrr] at hwant
      rw [if_neg (by rw [hwant]; simp)]
      refine hKn _ w ⟨V, ρ, putS sl o.dst .any, H, by rw [putS_len]; exact hl, insS .any (by rw [hrr]; rfl), fun f => ?_, fun f hf => ?_, hρ, ⟨putS_r hst.slots o.dst trivial, ?_, hst.mem, hst.base, hst.os, hst.tape, hst.output, hst.size, hst.block, hst.le⟩⟩
      · rw [hH f]
        refine folds_agree fun j hj => ?_
        by_cases hji : j = i
        · subst hji; left; simp [wH, hri, hrr]
        · exact .inr (hL' j hji).symm
      · rcases hV f hf with h1 | ⟨j, h1, h2, h3⟩
        · exact .inl h1
        · refine .inr ⟨j, h1, ?_, h3⟩
          by_cases hji : j = i
          · subst hji; exact hLi
          · exact (hL' j hji).trans h2
      · cases o.dst <;> simp [Act.put, hst.defers]
    | some e =>
      rw [hrr] at hwant
      rw [if_pos (by rw [hwant]; rfl)]
      left
      obtain ⟨hfit, heff⟩ := hrec e hrr
      have hnxi : (stOf ops.toList rs (sl0, H0, nx0) (i + 1)).2.2 = e.nx := by
        simp only [stOf, ho', hri, hrr, aft]
      have hH' : ∀ f ∈ e.rd, hget (stOf ops.toList rs (sl0, H0, nx0) i).2.1 f = hget H f := fun f hf => famEq e hrr f (.inl hf)
      have hVi : ∀ f, V f → f < (stOf ops.toList rs (sl0, H0, nx0) i).2.2 ∨ e.nx ≤ f := by
        intro f hf
        rcases hV f hf with h1 | ⟨j, h1, h2, h3, h4⟩
        · exact .inl (Nat.lt_of_lt_of_le h1 (hnxm 0 i (Nat.zero_le _)))
        · rcases Nat.lt_trichotomy j i with h5 | h5 | h5
          · exact .inl (Nat.lt_of_lt_of_le h4 (hnxm (j + 1) i h5))
          · subst h5; have h2' : listed.getD j false = true := h2; rw [hunf] at h2'; cases h2'
          · right
            rw [← hnxi]
            exact Nat.le_trans (hnxm (i + 1) j h5) h3
      refine hst.stepS hVi (hfit.other hH') (heff.other (fun t ht => slEq t (onOps_look ht)) hH') fun a' w' ρ' hst' hsm => hKn a' w' ⟨_, ρ', _, _, by rw [putS_len]; exact hl, insS e.r (by rw [hrr]; rfl), fun f => ?_, fun f hf => ?_, fun f hf => ?_, hst'⟩
      · have e1 := folds_ins (W := wH rs) (b := hget H0) (L := fun j => listed.getD j false) (L' := fun j => (listed.setIfInBounds i true).getD j false) (x := f) hio hunf hLi hL' (fun j h1 h2 h3 => by
          by_cases hd : f ∈ keysOf e
          · rcases fam e hrr f (.inr hd) j (by omega) with h4 | h4
            · exact .inl h4
            · rw [h4] at h3; simp at h3; omega
          · right; simp [wH, hri, hrr, hd])
        rw [e1, hput_keys _ _ hfit.nodup, ← hH f]
        simp only [wH, hri, hrr]
        unfold keysOf
        split <;> rfl
      · rcases hf with hf | ⟨h1, h2⟩
        · rcases hV f hf with h1 | ⟨j, h1, h2, h3⟩
          · exact .inl h1
          · refine .inr ⟨j, h1, ?_, h3⟩
            by_cases hji : j = i
            · subst hji; exact hLi
            · exact (hL' j hji).trans h2
        · exact .inr ⟨i, hio, hLi, h1, by rw [hnxi]; exact h2⟩
      · rw [hsm f (.inl (Nat.lt_of_lt_of_le hf (Nat.le_trans hX0.1 (hnxm 0 i (Nat.zero_le _)))))]
        exact hρ f hf
  -- all of them
  have all : ∀ (fuel : Nat) (listed : Array Bool) (a : Act) (w : World), listed.size = ops.size → (∀ (j : Nat) o e, ops[j]? = some o → listed.getD j false = true → e ∈ o.after → Region.binds .any e = true → listed.getD e.on false = true) →
      (listed.toList.filter (!·)).length = fuel → Inv (fun j => listed.getD j false) a w → wpAny P .any ops Q fuel listed a w := by
    have fin : ∀ (listed : Array Bool) (a : Act) (w : World), listed.size = ops.size → Region.ready .any ops listed = [] → (∀ (j : Nat) o e, ops[j]? = some o → listed.getD j false = true → e ∈ o.after → Region.binds .any e = true → listed.getD e.on false = true) → Inv (fun j => listed.getD j false) a w → Q .normal a w := by
      intro listed a w hsz hr hcl hI
      have hall : ∀ (n i : Nat), i < n → i < ops.size → listed.getD i false = true := by
        intro n
        induction n with
        | zero => intro i h; omega
        | succ n ih =>
          intro i hi his
          cases hb : listed.getD i false with
          | true => rfl
          | false =>
            exfalso
            have hi2 : i < listed.size := by omega
            have ho : ops[i]? = some ops[i] := Array.getElem?_eq_getElem his
            have : i ∈ Region.ready .any ops listed := mem_ready.2 ⟨by simp only [Array.getD, hi2] at hb ⊢; exact hb, _, ho, fun e he hbd => by
              have hlt := indep_edge hind (i := i) (o := ops[i]) (by rw [← hop]; exact ho) he hbd
              exact ih e.on (by omega) (by omega)⟩
            rw [hr] at this; cases this
      obtain ⟨V, ρ, sl, H, hl, hsl, hH, hV, hρ, hst⟩ := hI
      have hn : ops.toList.length = ops.size := by simp
      obtain ⟨g0, g1, g2⟩ := hget' ops.size
      have e1 : sl = (stOf ops.toList rs (sl0, H0, nx0) ops.toList.length).1 := by
        apply List.ext_getElem?
        intro t
        rw [hn, g1, hsl]
        exact folds_agree fun j hj => .inr (hall (j + 1) j (Nat.lt_succ_self _) hj)
      have e2 : ∀ f, hget (stOf ops.toList rs (sl0, H0, nx0) ops.toList.length).2.1 f = hget H f := by
        intro f
        rw [hn, g2, hH]
        exact (folds_agree fun j hj => .inr (hall (j + 1) j (Nat.lt_succ_self _) hj)).symm
      refine hQ _ _ _ a w hK ⟨V, ρ, fun f hf => ?_, ⟨Nat.le_trans hX0.1 (hnxm 0 _ (Nat.zero_le _)), hρ⟩, ?_⟩
      · rcases hV f hf with h1 | ⟨j, h1, _, _, h2⟩
        · exact Nat.lt_of_lt_of_le h1 (hnxm 0 _ (Nat.zero_le _))
        · exact Nat.lt_of_lt_of_le h2 (hnxm (j + 1) _ (by rw [hn]; exact h1))
      · rw [← e1]; exact hst.heap e2
    intro fuel
    induction fuel with
    | zero =>
      intro listed a w hsz hcl hf hI
      have hr : Region.ready .any ops listed = [] := by
        cases hrr : Region.ready .any ops listed with
        | nil => rfl
        | cons i l =>
          exfalso
          have hi : i ∈ Region.ready .any ops listed := by rw [hrr]; simp
          obtain ⟨hun, o, ho, _⟩ := mem_ready.1 hi
          have hi2 : i < listed.size := by rw [hsz]; exact (Array.getElem?_eq_some_iff.1 ho).1
          simp only [Array.getD, hi2] at hun
          have : listed.toList.filter (!·) ≠ [] := by
            intro e0
            have := List.filter_eq_nil_iff.1 e0 (listed[i]) (by simp)
            simp at this
            simp at hun
            rw [this] at hun; cases hun
          exact this (List.eq_nil_of_length_eq_zero hf)
      exact ⟨hr, fin listed a w hsz hr hcl hI⟩
    | succ fuel ih =>
      intro listed a w hsz hcl hf hI
      refine ⟨fun hr => fin listed a w hsz hr hcl hI, fun i hi => step listed a w i _ hcl hsz hi hI fun a' w' hI' => ih _ a' w' (by simpa using hsz) (fun j o e ho hj he hb => ?_) ?_ hI'⟩
      · obtain ⟨hun, o', ho', haf⟩ := mem_ready.1 hi
        by_cases hji : j = i
        · subst hji
          rw [ho] at ho'; cases ho'
          have hlt := indep_edge hind (i := j) (o := o) (by rw [← hop]; exact ho) he hb
          rw [getD_set_ne false (by omega)]
          exact haf e he hb
        · rw [getD_set_ne false (Ne.symm hji)] at hj
          have := hcl j o e ho hj he hb
          by_cases hei : e.on = i
          · rw [hei]
            have hi2 : i < listed.size := by rw [hsz]; exact (Array.getElem?_eq_some_iff.1 ho').1
            simp [Array.getD, hi2]
          · rw [getD_set_ne false (Ne.symm hei)]; exact this
      · obtain ⟨hun, o', ho', haf⟩ := mem_ready.1 hi
        have hi2 : i < listed.size := by rw [hsz]; exact (Array.getElem?_eq_some_iff.1 ho').1
        have hun' : listed.toList[i]? = some false := by
          simp only [Array.getD, hi2] at hun
          simp [hi2]; simpa using hun
        have cnt : ∀ (l : List Bool) (i : Nat), l[i]? = some false → ((l.set i true).filter (!·)).length + 1 = (l.filter (!·)).length := by
          intro l
          induction l with
          | nil => intro i h; simp at h
          | cons b l ih =>
            intro i h
            cases i with
            | zero => simp at h; subst h; simp
            | succ i =>
              have := ih i (by simpa using h)
              cases b <;> simp [List.filter_cons] at this ⊢ <;> omega
        have := cnt listed.toList i hun'
        rw [Array.toList_setIfInBounds]
        omega
  refine wp_region_any hmix (all ops.size (Array.replicate ops.size false) a _ (by simp) (fun j o e _ hj => ?_) (by simp) ?_)
  · exfalso
    have : (Array.replicate ops.size false).getD j false = false := by
      simp only [Array.getD]
      split <;> simp
    rw [this] at hj; cases hj
  · have hf : ∀ j, (Array.replicate ops.size false).getD j false = false := by
      intro j
      simp only [Array.getD]
      split <;> simp
    have e1 : (fun j => (Array.replicate ops.size false).getD j false) = fun _ => false := funext hf
    rw [e1]
    have z : ∀ {κ ν : Type} (W : Nat → κ → Option ν) (b : κ → ν) (k : Nat) (x : κ), folds W b (fun _ => false) k x = b x := by
      intro κ ν W b k x
      induction k with
      | zero => rfl
      | succ k ih => simp [folds, ih]
    refine ⟨V0, ρ0, sl0, H0, rfl, fun t => (z _ _ _ _).symm, fun f => (z _ _ _ _).symm, fun f hf => .inl (hV0 f hf), hX0.2, ⟨hst0.slots, hst0.defers, ⟨fun f blk hb => ?_, hst0.mem.sep⟩, hst0.base, hst0.os, hst0.tape, hst0.output, hst0.size, hst0.block, hst0.le⟩⟩
    obtain ⟨q1, q2, q3⟩ := hst0.mem.dom f blk hb
    exact ⟨q1, Holds.keep (w := w) (w' := { w with drawn := w.drawn + 1 }) (fun f hf => ⟨hf, rfl⟩) (fun _ _ => rfl) q2, q3⟩

end Go.Proofs.Ytmdajpgemcaefaa
