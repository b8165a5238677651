/-
  The engine, eighth part: the operations on memory do what is told of them. No conditions of its own.
-/
import Derived.Test.YtmdajpgemcaefaaE7
namespace Go.Proofs.Ytmdajpgemcaefaa
set_option linter.unusedSimpArgs false
set_option linter.unusedVariables false
open Go.RowKit

theorem one_of {V : Nat → Prop} {ρ : Nat → At} : ∀ {l : List CV} {us : List Value}, All2 (CVr V ρ) l us → ∀ v ∈ us, v.oneCell' = true
  | [], [], _, v, hv => (by cases hv)
  | _ :: l, u :: us, h, v, hv => by
    rcases List.mem_cons.1 hv with rfl | hv
    · exact h.1.one
    · exact one_of (l := l) h.2 v hv

theorem store_ok {P : Program} {o : Oper} {ev : Operand → SV} {H : Heap} {nx : Nat} {K : Eff → Prop} {t : TypeId} {x y : Operand} (ho : o.op = .store t x y) (hB : Bnd H nx) (h : memK P o ev H nx K) :
    ∃ e, Fit H nx e ∧ EffOK P o ev H nx e ∧ K e := by
  unfold memK at h
  rw [ho] at h
  simp only at h
  split at h
  · rename_i f i c hx
    split at h
    · rename_i T cs hH
      obtain ⟨rfl, ti, l, h1, h2, h3, h4, h5⟩ := h
      obtain ⟨i', d, z, e1, e2, e3, rfl⟩ := tiOf_inv h1
      refine ⟨_, fit_set (hB f _ hH) hH rfl, EffOK.of_set (hB f _ hH) hH fun V ρ a w hev hV hold => ?_, h5⟩
      obtain ⟨hoff, b, vs, q1, q2, q3, q4⟩ := hold
      have hp := hev x
      rw [hx] at hp
      obtain ⟨_, b', hb', hu⟩ := hp
      rw [q1] at hb'; cases hb'
      have hy := cellsOf_r h2 (hev y)
      have hyl := hy.length
      have hvl := q4.length
      have hr := run_storeAt_gen (P := P) (t := t) (o := c) q3 (rfl : (a.eval y).cells.toList = _) (one_of hy) (by simp; simp at hyl; omega) (by simp [e1]; simp at hyl h3; omega)
      rw [hoff] at hu
      simp only [Nat.zero_mul, Nat.add_zero, Nat.zero_add] at hu
      refine ⟨b, _, by simp only [execOp, ho, hu, Sem.run_bind, hr]; rfl, q2, hoff, b, _, q1, q2, setRow_heap w b _ _ T _ q3, ?_⟩
      have := splice_r q4 c hy
      simpa using this
    · rename_i T es hH
      obtain ⟨ti, l, d, h1, h2, h3, h4, hi, h5, h6⟩ := h
      obtain ⟨i', dd, z, e1, e2, e3, rfl⟩ := tiOf_inv h1
      refine ⟨_, fit_set (hB f _ hH) hH rfl, EffOK.of_set (hB f _ hH) hH fun V ρ a w hev hV hold => ?_, h6⟩
      obtain ⟨⟨hoff, hex⟩, hcm, hle, hs, hfl, hn, hrow⟩ := hold
      have hp := hev x
      rw [hx] at hp
      obtain ⟨_, b, hb, hu⟩ := hp
      obtain ⟨hF, cur, q1, q2, q3⟩ := hrow b hb
      have hy := cellsOf_r h2 (hev y)
      have hyl := hy.length
      obtain ⟨g1, g2, g3⟩ := dcsOf_r h4 hy
      have hei : es[i].length = (ρ f).sz := hs _ (List.getElem_mem hi)
      have hsz : i * (ρ f).sz + c + d.length ≤ es.length * (ρ f).sz := by
        have := Nat.mul_le_mul_right (ρ f).sz (show i + 1 ≤ es.length from hi)
        rw [Nat.add_mul] at this; omega
      have hcs : es.length * (ρ f).sz ≤ cur.size := by rw [q2]; exact Nat.mul_le_mul_right _ hle
      have hr := run_storeAt_gen (P := P) (t := t) (o := i * (ρ f).sz + c) q1 g1 (by rw [← g1]; exact one_of hy) (by simp; omega) (by simp [e1]; simp at hyl h3; omega)
      rw [hoff, Nat.zero_add] at hu
      refine ⟨b, _, by simp only [execOp, ho, hu, Sem.run_bind, hr]; rfl, hF, ⟨hoff, hex⟩, hcm, by simpa using hle, fun e he => ?_, fun e he => ?_, hn, fun b' hb' => ?_⟩
      · rcases List.mem_or_eq_of_mem_set he with he | rfl
        · exact hs e he
        · simp; omega
      · rcases List.mem_or_eq_of_mem_set he with he | rfl
        · exact hfl e he
        · intro c' hc'
          simp only [List.mem_append] at hc'
          rcases hc' with (hc' | hc') | hc'
          · exact hfl _ (List.getElem_mem hi) c' (List.mem_of_mem_take hc')
          · exact g2 c' hc'
          · exact hfl _ (List.getElem_mem hi) c' (List.mem_of_mem_drop hc')
      · rw [hb] at hb'; cases hb'
        refine ⟨hF, _, setRow_heap w b _ _ T _ q1, ?_, ?_⟩
        · simp only [List.size_toArray, List.length_append, List.length_take, List.length_drop, Array.length_toList, List.length_map]
          rw [← q2]; omega
        · rw [flatE_set hs i hi c d (by omega), ← q3, List.length_set]
          have := take_mid cur.toList (d.map DC.val) (i * (ρ f).sz + c) (es.length * (ρ f).sz) (by simp; omega) (by simpa using hcs)
          simpa using this
    · exact h.elim
  · exact h.elim

theorem load_ok {P : Program} {o : Oper} {ev : Operand → SV} {H : Heap} {nx : Nat} {K : Eff → Prop} {t : TypeId} {x : Operand} (ho : o.op = .load t x) (h : memK P o ev H nx K) :
    ∃ e, Fit H nx e ∧ EffOK P o ev H nx e ∧ K e := by
  unfold memK at h
  rw [ho] at h
  simp only at h
  split at h
  · rename_i f i c hx
    split at h
    · rename_i T cs hH
      obtain ⟨rfl, ti, y, h1, h2, h3⟩ := h
      refine ⟨_, fit_read hH, EffOK.of_read fun V ρ a w hev hm => ?_, h3⟩
      obtain ⟨hV, ⟨hoff, b, vs, q1, q2, q3, q4⟩, _⟩ := hm.dom f _ (looked_get (by simp) hH)
      have hp := hev x
      rw [hx] at hp
      obtain ⟨_, b', hb', hu⟩ := hp
      rw [q1] at hb'; cases hb'
      rw [hoff] at hu
      simp only [Nat.zero_mul, Nat.add_zero, Nat.zero_add] at hu
      obtain ⟨u, g1, g2⟩ := run_loadAt_part (P := P) (w := w) (b := b) (base := 0) q4 (fun j u hj => by simp [World.cell?, q3, hj]) h1 h2
      rw [Nat.zero_add] at g2
      exact ⟨u, g1, by simp [execOp, ho, hu, g2]⟩
    · rename_i T es hH
      obtain ⟨ti, h1, hi, y, h2, h3⟩ := h
      refine ⟨_, fit_read hH, EffOK.of_read fun V ρ a w hev hm => ?_, h3⟩
      obtain ⟨hV, ⟨⟨hoff, hex⟩, hcm, hle, hs, hfl, hn, hrow⟩, _⟩ := hm.dom f _ (looked_get (by simp) hH)
      have hp := hev x
      rw [hx] at hp
      obtain ⟨_, b, hb, hu⟩ := hp
      obtain ⟨hF, cur, q1, q2, q3⟩ := hrow b hb
      rw [hoff, Nat.zero_add] at hu
      obtain ⟨u, g1, g2⟩ := run_loadAt_part (P := P) (w := w) (b := b) (base := i * (ρ f).sz) (flat_cv (V := V) (ρ := ρ) (hfl _ (List.getElem_mem hi))) (row_cells q1 q3 hs hi) h1 h2
      exact ⟨u, g1, by simp [execOp, ho, hu, g2]⟩
    · rename_i es hH
      obtain ⟨ti, h1, hi, h2⟩ := h
      obtain ⟨i', d, z, e1, e2, e3, rfl⟩ := tiOf_inv h1
      have hagg : ∀ w, (isAgg t).run P w = .ok (isRowD (some d)) w := by
        intro w
        unfold isAgg
        rw [Sem.run_bind, run_underlying e2 w]
        cases d <;> simp_all [isRowD]
      -- the cells that are loaded
      have key : ∀ (l : List DC) (r : SV) (mk : List Value → Value) (o0 : Nat), (∀ j, l[j]? = if j < l.length then es[i][o0 + j]? else none) →
          (∀ (V : Nat → Prop) (ρ : Nat → At) us, All2 (CVr V ρ) (impC l nx).1 us → SVr V ρ r (mk us)) →
          (∀ (w : World) (b base : Nat) us, us.length = l.length → (∀ j u, us[j]? = some u → w.cell? ⟨b, base + o0 + j, none⟩ = some u) → (Instr.loadAt t (.pointer (some ⟨b, base + o0, none⟩))).run P w = .ok (mk us) w) → c = o0 →
          Fit H nx ⟨r, [f], (impC l nx).2.1, (impC l nx).2.2⟩ ∧ EffOK P o ev H nx ⟨r, [f], (impC l nx).2.1, (impC l nx).2.2⟩ := by
        intro l r mk o0 hl hr hrun hc
        subst hc
        refine ⟨⟨impC_le l nx, fun g hg => by simp at hg; subst hg; exact ⟨_, hH⟩, fun g b hb => ?_, impC_nodup l nx⟩, ?_⟩
        · have := impC_key l nx g b hb
          exact ⟨this.2, fun h => by omega⟩
        intro V ρ a w K' Q hV hev hm hK
        obtain ⟨hVf, ⟨hcm, hle, hs, hne, hcell⟩, hFl⟩ := hm.dom f _ (looked_get (by simp) hH)
        have hp := hev x
        rw [hx] at hp
        obtain ⟨_, b, hb, hu⟩ := hp
        have ex : ∀ n (l' : List DC) k, (∀ j, l'[j]? = if j < l'.length then es[i][k + j]? else none) → l'.length = n → ∃ us : List Value, All2 (Rd w (ρ f).F) l' us ∧ ∀ j u, us[j]? = some u → w.cell? ⟨b, (ρ f).off + i * (ρ f).sz + k + j, none⟩ = some u := by
          intro n
          induction n with
          | zero =>
            intro l' k _ hl'
            have : l' = [] := List.eq_nil_of_length_eq_zero hl'
            subst this
            exact ⟨[], trivial, fun j u hj => by simp at hj⟩
          | succ n ih =>
            intro l' k hl' hn
            cases l' with
            | nil => simp at hn
            | cons d' l' =>
              have h0 := hl' 0
              simp only [List.getElem?_cons_zero, List.length_cons, Nat.zero_lt_succ, if_true, Nat.add_zero] at h0
              obtain ⟨u, hu1, hu2⟩ := hcell i es[i] k d' b (List.getElem?_eq_getElem hi) h0.symm hb
              obtain ⟨us, g1, g2⟩ := ih l' (k + 1) (fun j => by have := hl' (j + 1); simpa [Nat.add_assoc, Nat.add_comm 1] using this) (by simpa using hn)
              refine ⟨u :: us, ⟨hu2, g1⟩, fun j v hv => ?_⟩
              cases j with
              | zero => simp at hv; subst hv; simpa using hu1
              | succ j =>
                have := g2 j v (by simpa using hv)
                rw [← this]; congr 2; omega
        obtain ⟨us, g1, g2⟩ := ex l.length l c hl rfl
        obtain ⟨ρ', q1, q2, q3, q4⟩ := impC_ok hFl l us nx ρ V g1 (fun f h1 h2 => hV f h1 h2)
        have hrn := hrun w b ((ρ f).off + i * (ρ f).sz) us g1.length.symm g2
        unfold Oper.wp
        have : (execOp a.eval o).run P w = .ok (.value (mk us)) w := by
          simp [execOp, ho, hu, hrn]
        rw [this]
        refine hK _ ρ' w ⟨q1, hr _ _ us q2, q3, fun g blk hg b' hb' => ?_, rfl, rfl, rfl, Nat.le_refl _, fun _ _ _ => rfl⟩
        obtain ⟨p1, p2⟩ := q4 g blk hg
        exact .inr (.inr ⟨p1, f, by simp, _, hH, rfl, p2 b' hb'⟩)
      simp only at h2
      split at h2
      · rename_i hrow
        obtain ⟨h3, h4⟩ := h2
        have hl : ((es[i].drop c).take i'.size).length = i'.size := by simp; omega
        obtain ⟨k1, k2⟩ := key ((es[i].drop c).take i'.size) (.agg (impC ((es[i].drop c).take i'.size) nx).1) (fun us => .agg us.toArray) c (fun j => by
            rw [List.getElem?_take, hl, List.getElem?_drop]) (fun V ρ us hus => ⟨us, rfl, hus⟩) (fun w b base us hus hc => by
            have := run_loadCells_list (P := P) w ⟨b, base + c, none⟩ us (fun j v hv => by rw [Addr.add_mid]; exact hc j v hv)
            rw [hus, hl] at this
            simp [Instr.loadAt, Instr.sureAddr, loadVar, hagg, hrow, sizeOf, typeInfo, e1, this]) rfl
        exact ⟨_, k1, k2, h4⟩
      · rename_i hrow
        obtain ⟨h3, h4⟩ := h2
        split at h4
        · rename_i y hy
          obtain ⟨k1, k2⟩ := key [es[i][c]] (.c y) (fun us => us.getD 0 undef) c (fun j => by
              cases j with
              | zero => simp [h3]
              | succ j => simp) (fun V ρ us hus => by
              rw [hy] at hus
              cases us with
              | nil => exact hus.elim
              | cons u us => exact hus.1) (fun w b base us hus hc => by
              cases us with
              | nil => simp at hus
              | cons u us =>
                have := hc 0 u rfl
                simp only [Nat.add_zero] at this
                simp [Instr.loadAt, Instr.sureAddr, loadVar, hagg, hrow, this]) rfl
          exact ⟨_, k1, k2, h4⟩
        · exact h4.elim
    · exact h.elim
  · exact h.elim

end Go.Proofs.Ytmdajpgemcaefaa
