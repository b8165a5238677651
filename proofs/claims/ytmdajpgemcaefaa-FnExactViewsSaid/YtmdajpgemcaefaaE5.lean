/-
  The engine, fifth part: the operations on slots alone do what is told of them. No conditions of its own.
-/
import Derived.Test.YtmdajpgemcaefaaE4
namespace Go.Proofs.Ytmdajpgemcaefaa
set_option linter.unusedSimpArgs false
set_option linter.unusedVariables false
open Go.RowKit

theorem svv {V : Nat → Prop} {ρ : Nat → At} {x : Value} (h : x.oneCell' = true) : SVr V ρ (.c (.v x)) x := ⟨rfl, h⟩

theorem slice_add {V : Nat → Prop} {ρ : Nat → At} {g sz b n l h : Nat} {u : Value} (hr : SVr V ρ (.c (.sl g sz b n)) u) (hl : l ≤ h) (hh : h ≤ n) :
    ∃ a cp, u = .slice a n cp ∧ h ≤ cp ∧ SVr V ρ (.c (.sl g sz (b + l) (h - l))) (.slice (if cp = l then a else a.map (·.add (l * sz))) (h - l) (cp - l)) := by
  obtain ⟨h1, h2, a, cp, rfl, h3, h4, h5, h6, h7⟩ := hr
  refine ⟨a, cp, rfl, by omega, h1, h2, _, _, rfl, by omega, by omega, ?_, ?_, ?_⟩
  · intro ha
    split at ha
    · have := h5 ha; omega
    · cases a with
      | none => have := h5 rfl; omega
      | some a => cases ha
  · intro h0 hex
    have hl0 : l = 0 := by omega
    have hb0 : b = 0 := by omega
    subst hl0 hb0
    obtain ⟨h8, h9⟩ := h6 rfl hex
    refine ⟨?_, by omega⟩
    rw [← h8]
    split
    · rfl
    · cases a <;> simp [Addr.add]
  · intro hpos
    obtain ⟨b', h8, h9⟩ := h7 (by omega)
    refine ⟨b', h8, ?_⟩
    subst h9
    rw [if_neg (by omega)]
    simp only [Option.map_some, Addr.add_mid]
    congr 2
    rw [Nat.add_mul]; omega

theorem szOf_inv {P : Program} {t : TypeId} (h : szOf P t ≠ 0) : ∃ i d, P.info? t = some i ∧ P.underlying t = some d ∧ szOf P t = i.size := by
  unfold szOf at h ⊢
  cases hd : P.underlying t with
  | none => simp [hd] at h
  | some d =>
    cases hi : P.info? t with
    | none => simp [hd, hi] at h
    | some i => exact ⟨i, d, rfl, rfl, by simp⟩

theorem places_of {P : Program} : ∀ (fs : List Field), ((fs.map fun f => (f.offset, szOf P f.type, isRowD (P.underlying f.type))).all fun p => p.2.1 != 0) = true →
    fs.mapM (fun f => (P.info? f.type).map fun i => (f.offset, i.size)) = some (fs.map fun f => (f.offset, szOf P f.type))
  | [], _ => rfl
  | f :: fs, h => by
    simp only [List.map_cons, List.all_cons, Bool.and_eq_true] at h
    have ih := places_of fs h.2
    obtain ⟨i, d, h1, h2, h3⟩ := szOf_inv (P := P) (t := f.type) (by simpa using h.1)
    simp [List.mapM_cons, h1, h3, ih]

theorem pureK_ok {P : Program} {ck : Bool} {o : Oper} {ev : Operand → SV} {K : SV → Prop} (h : pureK P ck o ev K) : ∃ r, PureOK P o ev r ∧ K r := by
  unfold pureK at h
  split at h
  · rename_i x ho
    exact ⟨_, fun V ρ a hev => ⟨_, hev x, fun w => by simp [execOp, ho]⟩, h⟩
  · rename_i x ho
    exact ⟨_, fun V ρ a hev => ⟨_, hev x, fun w => by simp [execOp, ho]⟩, h⟩
  · rename_i c x y ho
    split at h
    · rename_i t hc
      cases t with
      | true => exact ⟨_, fun V ρ a hev => ⟨_, hev x, fun w => by have := hev c; rw [hc] at this; simp [execOp, ho, this.1, asBool]⟩, h.1 rfl⟩
      | false => exact ⟨_, fun V ρ a hev => ⟨_, hev y, fun w => by have := hev c; rw [hc] at this; simp [execOp, ho, this.1, asBool]⟩, h.2 rfl⟩
    · exact h.elim
  · rename_i op t x y t2 ho
    obtain ⟨u, h1, h2, h3⟩ := binK_ok h
    refine ⟨_, fun V ρ a hev => ⟨u, svv h1, fun w => ?_⟩, h2⟩
    have := h3 V ρ _ _ (hev x) (hev y) x y w
    rw [Sem.run_bind] at this
    simp only [execOp, ho, Sem.run_bind, this, Sem.run_pure, Result.andThen_ok]
  · rename_i op t x ho
    split at h
    · rename_i b hx
      exact ⟨_, fun V ρ a hev => ⟨_, svv rfl, fun w => by have := hev x; rw [hx] at this; simp [execOp, ho, this.1, Op.unary]⟩, h⟩
    · rename_i k n hx
      exact ⟨_, fun V ρ a hev => ⟨_, svv rfl, fun w => by have := hev x; rw [hx] at this; have e := inI_wrap h.1; simp only [Int.zero_sub] at e; simp [execOp, ho, this.1, Op.unary, Op.intArith, e]⟩, h.2⟩
    · rename_i k n hx
      exact ⟨_, fun V ρ a hev => ⟨_, svv rfl, fun w => by have := hev x; rw [hx] at this; simp only [execOp, ho, this.1, Op.unary]; rfl⟩, h⟩
    · exact h.elim
  · rename_i src dst x ho
    split at h
    · rename_i k0 n hx
      obtain ⟨⟨ts, h0⟩, ti, k, h1, h2, h3⟩ := h
      obtain ⟨i0, d0, z0, e4, e5, e6, rfl⟩ := tiOf_inv h0
      obtain ⟨i, d, z, e1, e2, e3, rfl⟩ := tiOf_inv h1
      obtain rfl := td_int h2
      have run : ∀ (V : Nat → Prop) (ρ : Nat → At) (a : Act), (∀ x, SVr V ρ (ev x) (a.eval x)) → ∀ w, (execOp a.eval o).run P w = .ok (.value (.int k (k.wrap n))) w := by
        intro V ρ a hev w
        have hp := hev x
        rw [hx] at hp
        simp only [execOp, ho, hp.1]
        unfold convert
        simp only [Sem.run_bind, run_underlying e5, run_underlying e2, Result.andThen_ok, Conv.intToInt, Sem.run_pure]
      split at h3
      · exact ⟨_, fun V ρ a hev => ⟨_, svv rfl, fun w => by have := run V ρ a hev w; rw [inI_wrap h3.1] at this; exact this⟩, h3.2⟩
      · exact ⟨_, fun V ρ a hev => ⟨_, svv rfl, run V ρ a hev⟩, h3⟩
    · exact h.elim
  · rename_i s x f ho
    split at h
    · rename_i g i c hx
      obtain ⟨ti, fs, off, n, r, h1, h2, h3, h4, h5⟩ := h
      obtain ⟨i', d, z, e1, e2, e3, rfl⟩ := tiOf_inv h1
      obtain ⟨fields, rfl, rfl⟩ := td_struct h2
      refine ⟨_, fun V ρ a hev => ?_, h5⟩
      have hp := hev x
      rw [hx] at hp
      obtain ⟨hv, b, hb, hu⟩ := hp
      simp only [List.getElem?_map] at h3
      obtain ⟨fd, hf, hfe⟩ := Option.map_eq_some_iff.1 h3
      simp only [Array.getElem?_toList] at hf
      simp only [Prod.mk.injEq] at hfe
      obtain ⟨rfl, rfl, rfl⟩ := hfe
      refine ⟨_, ⟨hv, b, hb, rfl⟩, fun w => ?_⟩
      obtain ⟨i2, d2, hq, hq2, hq3⟩ := szOf_inv h4
      rw [hq3] at h4
      · simp [execOp, ho, hu, Instr.fieldAt, run_underlying e2, hf, Instr.sureAddr, fieldPlace, sizeOf, typeInfo, hq, h4, Addr.add_mid, Nat.add_assoc]
    · exact h.elim
  · rename_i s x f ho
    split at h
    · rename_i l hx
      obtain ⟨ti, fs, off, n, r, y, h1, h2, h3, h30, h4, h5⟩ := h
      obtain ⟨i', d, z, e1, e2, e3, rfl⟩ := tiOf_inv h1
      obtain ⟨fields, rfl, rfl⟩ := td_struct h2
      refine ⟨_, fun V ρ a hev => ?_, h5⟩
      have hp := hev x
      rw [hx] at hp
      obtain ⟨vs, hu, hvs⟩ := hp
      simp only [List.getElem?_map] at h3
      obtain ⟨fd, hf, hfe⟩ := Option.map_eq_some_iff.1 h3
      simp only [Array.getElem?_toList] at hf
      simp only [Prod.mk.injEq] at hfe
      obtain ⟨rfl, rfl, rfl⟩ := hfe
      obtain ⟨i2, d2, hq, hq2, hq3⟩ := szOf_inv h30
      obtain ⟨u, hu1, hu2⟩ := partS_r (P := P) hvs h4 fd.type (by simp [hq, hq3]) rfl ⟨d2, hq2⟩
      exact ⟨u, hu1, fun w => by simp [execOp, ho, hu, Instr.field, run_underlying e2, hf, asAgg, hu2]⟩
    · exact h.elim
  · rename_i t x ix ho
    split at h
    · rename_i g sz b n k0 k hx hix
      obtain ⟨ti, e, te, h1, h2, h3, h4, h5, h6⟩ := h
      obtain ⟨i', d, z, e1, e2, e3, rfl⟩ := tiOf_inv h1
      obtain rfl := td_slice h2
      obtain ⟨i2, d2, z2, e4, e5, e6, rfl⟩ := tiOf_inv h3
      refine ⟨_, fun V ρ a hev => ?_, h6⟩
      have hp := hev x
      rw [hx] at hp
      have hq := hev ix
      rw [hix] at hq
      obtain ⟨hv, hsz, ad, cp, hu, _, _, _, _, h7⟩ := hp
      obtain ⟨b', h8, h9⟩ := h7 (by omega)
      subst h9
      simp only at h4
      refine ⟨_, ⟨hv, b', h8, rfl⟩, fun w => ?_⟩
      simp [execOp, ho, hu, hq.1, Instr.indexAt, asIntOf, run_underlying e2, h5.1, h5.2, sizeOf, typeInfo, e4, Addr.add_mid]
      rw [h4, hsz, Nat.add_mul, Nat.add_assoc]
    · exact h.elim
  · rename_i t x lo hi ho
    split at h
    · rename_i g sz b n hx
      obtain ⟨ti, e, te, l, m, h1, h2, h3, h4, h5, h6, h7, h8, h9⟩ := h
      obtain ⟨i', d, z, e1, e2, e3, rfl⟩ := tiOf_inv h1
      obtain rfl := td_slice h2
      obtain ⟨i2, d2, z2, e4, e5, e6, rfl⟩ := tiOf_inv h3
      simp only at h4
      refine ⟨_, fun V ρ a hev => ?_, h9⟩
      have hp := hev x
      rw [hx] at hp
      obtain ⟨ad, cp, hu, hcp, hr⟩ := slice_add hp h7 h8
      refine ⟨_, hr, fun w => ?_⟩
      have hb : (Instr.sliceBounds true n cp (lo.map a.eval) (hi.map a.eval) none).run P w = .ok (l, m, cp) w := by
        unfold Instr.sliceBounds
        cases hi with
        | none =>
          simp only at h6
          subst h6
          cases lo with
          | none => simp only at h5; subst h5; simp
          | some y =>
            obtain ⟨k, hk⟩ := h5
            have hy := hev y
            rw [hk] at hy
            simp [hy.1, Instr.sliceBound, asIntOf, h7]
        | some y' =>
          obtain ⟨k', hk'⟩ := h6
          have hy' := hev y'
          rw [hk'] at hy'
          cases lo with
          | none => simp only at h5; subst h5; simp [hy'.1, Instr.sliceBound, asIntOf, hcp]
          | some y =>
            obtain ⟨k, hk⟩ := h5
            have hy := hev y
            rw [hk] at hy
            simp [hy.1, hy'.1, Instr.sliceBound, asIntOf, h7, hcp]
      have hs : (Instr.slice t (.slice ad n cp) (lo.map a.eval) (hi.map a.eval) none).run P w = .ok (.slice (if cp = l then ad else ad.map (·.add (l * sz))) (m - l) (cp - l)) w := by
        unfold Instr.slice
        simp only [Sem.run_bind, run_underlying e2, Result.andThen_ok, hb]
        simp [sizeOf, typeInfo, e4, h4]
      simp only [execOp, ho, hu, Instr.sliceAt, Sem.run_bind, run_underlying e2, Result.andThen_ok, Option.map_none, hs, Sem.run_pure]
    · rename_i hx
      obtain ⟨⟨ti, e, te, h1, h2, h3⟩, h5, h6, h9⟩ := h
      obtain ⟨i', d, z, e1, e2, e3, rfl⟩ := tiOf_inv h1
      obtain rfl := td_slice h2
      obtain ⟨i2, d2, z2, e4, e5, e6, rfl⟩ := tiOf_inv h3
      refine ⟨_, fun V ρ a hev => ?_, h9⟩
      have hp := hev x
      rw [hx] at hp
      have hu : a.eval x = .slice none 0 0 := hp
      refine ⟨_, rfl, fun w => ?_⟩
      have hb : (Instr.sliceBounds true 0 0 (lo.map a.eval) (hi.map a.eval) none).run P w = .ok (0, 0, 0) w := by
        unfold Instr.sliceBounds
        cases hi with
        | none =>
          cases lo with
          | none => simp
          | some y =>
            obtain ⟨k, hk⟩ := h5
            have hy := hev y
            rw [hk] at hy
            simp [hy.1, Instr.sliceBound, asIntOf]
        | some y' =>
          obtain ⟨k', hk'⟩ := h6
          have hy' := hev y'
          rw [hk'] at hy'
          cases lo with
          | none => simp [hy'.1, Instr.sliceBound, asIntOf]
          | some y =>
            obtain ⟨k, hk⟩ := h5
            have hy := hev y
            rw [hk] at hy
            simp [hy.1, hy'.1, Instr.sliceBound, asIntOf]
      have hs : (Instr.slice t (.slice none 0 0) (lo.map a.eval) (hi.map a.eval) none).run P w = .ok (.slice none 0 0) w := by
        unfold Instr.slice
        simp only [Sem.run_bind, run_underlying e2, Result.andThen_ok, hb]
        simp [sizeOf, typeInfo, e4]
      simp only [execOp, ho, hu, Instr.sliceAt, Sem.run_bind, run_underlying e2, Result.andThen_ok, Option.map_none, hs, Sem.run_pure]
    · exact h.elim
  · rename_i t i ho
    split at h
    · rename_i l hx
      split at h
      · rename_i y hy
        refine ⟨_, fun V ρ a hev => ?_, h⟩
        have hp := hev t
        rw [hx] at hp
        obtain ⟨vs, hu, hvs⟩ := hp
        obtain ⟨u, hu1, hu2⟩ := hvs.get hy
        exact ⟨u, hu2, fun w => by simp [execOp, ho, hu, Instr.extract, hu1]⟩
      · rename_i y hy
        refine ⟨_, fun V ρ a hev => ?_, h⟩
        have hp := hev t
        rw [hx] at hp
        obtain ⟨vs, hu, hvs⟩ := hp
        obtain ⟨u, hu1, hu2⟩ := hvs.get hy
        exact ⟨u, hu2, fun w => by simp [execOp, ho, hu, Instr.extract, hu1]⟩
      · exact h.elim
    · exact h.elim
  · rename_i x ho
    split at h
    · rename_i f i c hx
      refine ⟨_, fun V ρ a hev => ?_, h⟩
      have hp := hev x
      rw [hx] at hp
      obtain ⟨hv, b, hb, hu⟩ := hp
      exact ⟨_, ⟨hv, b, hb, rfl⟩, fun w => by simp [execOp, ho, hu]⟩
    · exact h.elim
  · rename_i t parts ho
    obtain ⟨ti, fs, cs, h1, h2, h30, h3, h4⟩ := h
    obtain ⟨i', d, z, e1, e2, ⟨e3, e4, e5⟩, rfl⟩ := tiOf_inv h1
    obtain ⟨fields, rfl, rfl⟩ := td_struct h2
    refine ⟨_, fun V ρ a hev => ?_, h4⟩
    obtain ⟨l, h5, h6⟩ := Option.bind_eq_some_iff.1 h3
    have hps := partsOf_r hev h5
    have hpl := places_of (P := P) fields.toList h30
    obtain ⟨arr, h7, h8⟩ := fillS_r l _ _ cs z.cells (zero_r V ρ e4) hps h6
    refine ⟨.agg arr, ⟨arr.toList, by simp, h8⟩, fun w => ?_⟩
    have hb : P.built t (parts.map fun (i, x) => (i, a.eval x)).toList = some arr := by
      unfold Program.built
      simp only [e1, e2, e3, hpl]
      rw [← h7]
      congr 1
      · funext i; simp; rfl
      · simp
    simp only [execOp, ho, Sem.run_bind, run_build w t _ arr hb, Result.andThen_ok, Sem.run_pure]
  · rename_i c ho
    have hc : ∀ (l : List Operand) (ts : List TypeId) (b : Builtin), c.callee = .builtin b → c.args.toList = l → c.argTypes.toList = ts → c = { callee := .builtin b, args := l.toArray, argTypes := ts.toArray } := by
      intro l ts b h1 h2 h3
      cases c; simp only at h1 h2 h3; subst h1 h2 h3; simp
    split at h
    · rename_i x t g1 g2 g3
      rw [hc _ _ _ g1 g2 g3] at ho
      split at h
      · rename_i g sz b n hx
        obtain ⟨⟨ti, e, h1, h2⟩, h3⟩ := h
        obtain ⟨i', d, z, e1, e2, e3, rfl⟩ := tiOf_inv h1
        obtain rfl := td_slice h2
        refine ⟨_, fun V ρ a hev => ?_, h3⟩
        have hp := hev x
        rw [hx] at hp
        obtain ⟨hv, hsz, ad, cp, hu, _⟩ := hp
        exact ⟨_, svv rfl, fun w => by simp [execOp, ho, resolve, invoke, builtin, Builtin.len_, hu, run_underlying e2, goInt]⟩
      · rename_i hx
        obtain ⟨⟨ti, e, h1, h2⟩, h3⟩ := h
        obtain ⟨i', d, z, e1, e2, e3, rfl⟩ := tiOf_inv h1
        obtain rfl := td_slice h2
        refine ⟨_, fun V ρ a hev => ?_, h3⟩
        have hp := hev x
        rw [hx] at hp
        have hu : a.eval x = .slice none 0 0 := hp
        exact ⟨_, svv rfl, fun w => by simp [execOp, ho, resolve, invoke, builtin, Builtin.len_, hu, run_underlying e2, goInt]⟩
      · rename_i s hx
        obtain ⟨⟨ti, h1, h2⟩, h3⟩ := h
        obtain ⟨i', d, z, e1, e2, e3, rfl⟩ := tiOf_inv h1
        obtain rfl := td_str h2
        refine ⟨_, fun V ρ a hev => ?_, h3⟩
        have hp := hev x
        rw [hx] at hp
        exact ⟨_, svv rfl, fun w => by simp [execOp, ho, resolve, invoke, builtin, Builtin.len_, hp.1, run_underlying e2, goInt]⟩
      · exact h.elim
    · rename_i ts x y g1 g2
      rw [hc _ _ _ g1 g2 rfl] at ho
      split at h
      · rename_i k m k' n hx hy
        refine ⟨_, fun V ρ a hev => ?_, h⟩
        have hp := hev x
        have hq := hev y
        rw [hx] at hp
        rw [hy] at hq
        refine ⟨_, svv rfl, fun w => ?_⟩
        simp [execOp, ho, resolve, invoke, builtin, Builtin.min_, Builtin.min2, hp.1, hq.1]
        omega
      · exact h.elim
    · rename_i ts x y g1 g2
      rw [hc _ _ _ g1 g2 rfl] at ho
      split at h
      · rename_i k m k' n hx hy
        refine ⟨_, fun V ρ a hev => ?_, h⟩
        have hp := hev x
        have hq := hev y
        rw [hx] at hp
        rw [hy] at hq
        refine ⟨_, svv rfl, fun w => ?_⟩
        simp [execOp, ho, resolve, invoke, builtin, Builtin.max_, Builtin.max2, hp.1, hq.1]
        omega
      · exact h.elim
    · exact h.elim
  · exact h.elim

end Go.Proofs.Ytmdajpgemcaefaa
