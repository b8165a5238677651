/-
  The engine: bytes as a text. No conditions of its own.
-/
import Derived.Test.YtmdajpgemcaefaaE13
import Derived.Laws.IdiomStrings
namespace Go.Proofs.Ytmdajpgemcaefaa
set_option linter.unusedSimpArgs false
set_option linter.unusedVariables false
open Go.RowKit

def bytK (x : UInt8) : List DC := [.v (.int .u8 (x.toNat : Int))]
abbrev rowB (l : List UInt8) : List (List DC) := l.map bytK
theorem bytK_inj {x y : UInt8} (h : bytK x = bytK y) : x = y := by
  simp only [bytK, List.cons.injEq, DC.v.injEq, Value.int.injEq, and_true, true_and] at h
  exact UInt8.toNat_inj.1 (by omega)
theorem rowB_inj {l m : List UInt8} : (l.map bytK = m.map bytK) = (l = m) := by
  apply propext
  exact ⟨fun h => (List.map_inj_right fun _ _ => bytK_inj).1 h, fun h => by rw [h]⟩
def txt (l : List UInt8) : ByteArray := ⟨l.toArray⟩

/-- string(b) -/
def strK (P : Program) (o : Oper) (ev : Operand → SV) (H : Heap) (nx : Nat) (K : Eff → Prop) : Prop :=
  match o.op with
  | .convert src dst x => (∃ ts e te, tiOf P src = some ts ∧ ts.d = .slice e ∧ tiOf P e = some te ∧ te.d = .int .u8) ∧ (∃ td, tiOf P dst = some td ∧ td.d = .str) ∧
    match ev x with
    | .c .nil => K ⟨.c (.v (.string (txt []))), [], [], nx⟩
    | .c (.sl g sz b m) => match srcOf H (.sl g sz b m) with
      | some (.blk _ bl es) => sz = 1 ∧ ∃ l : List UInt8, es = rowB l ∧ l.length = m ∧ K ⟨.c (.v (.string (txt l))), [g], [], nx⟩
      | _ => False
    | _ => False
  | _ => False

theorem rowB_flat (l : List UInt8) : ∀ e ∈ rowB l, ∀ c ∈ e, DC.flat c := by
  intro e he c hc
  simp only [List.mem_map] at he
  obtain ⟨x, _, rfl⟩ := he
  simp [bytK] at hc; subst hc
  exact ⟨_, rfl, rfl⟩

theorem rowB_flatE (l : List UInt8) : flatE (rowB l) = l.map fun x => .int .u8 (x.toNat : Int) := by
  unfold flatE
  rw [List.flatMap_map]
  induction l with
  | nil => rfl
  | cons x l ih => simp [DC.val, bytK] at ih ⊢; exact ih

theorem str_ok {P : Program} {o : Oper} {ev : Operand → SV} {H : Heap} {nx : Nat} {K : Eff → Prop} (h : strK P o ev H nx K) : ∃ e, Fit H nx e ∧ EffOK P o ev H nx e ∧ K e := by
  unfold strK at h
  split at h
  · rename_i src dst x ho
    obtain ⟨⟨ts, e, te, h1, h2, h3, h4⟩, ⟨td, h5, h6⟩, h7⟩ := h
    obtain ⟨i1, d1, z1, a1, a2, _, rfl⟩ := tiOf_inv h1
    obtain ⟨i2, d2, z2, b1, b2, _, rfl⟩ := tiOf_inv h3
    obtain ⟨i3, d3, z3, c1, c2, _, rfl⟩ := tiOf_inv h5
    obtain rfl := td_slice h2
    obtain rfl := td_int h4
    obtain rfl := td_str h6
    split at h7
    · rename_i hx
      refine ⟨_, ⟨Nat.le_refl _, fun f hf => (by cases hf), fun f b hf => (by cases hf), by simp⟩, EffOK.of_read fun V ρ a w hev hm => ?_, h7⟩
      have hq := hev x
      rw [hx] at hq
      have hq' : a.eval x = .slice none 0 0 := hq
      refine ⟨.string (txt []), ⟨rfl, rfl⟩, ?_⟩
      have : (convert src dst (.slice none 0 0)).run P w = .ok (.string (txt [])) w := by
        rw [run_convert_bytes_string w src dst e none 0 0 a2 b2 c2]
        simp [Conv.bytesToString]
        rfl
      simp only [execOp, ho, hq', Sem.run_bind, this]; rfl
    · rename_i g sz b m hx
      split at h7
      · rename_i f' bl es hsrc
        obtain ⟨rfl, l, rfl, hl, hK⟩ := h7
        have hgH : ∃ blk, hget H g = some blk := by
          unfold srcOf at hsrc
          cases hH : hget H g with
          | none => simp [hH] at hsrc
          | some blk => exact ⟨blk, rfl⟩
        obtain ⟨blk, hblk⟩ := hgH
        refine ⟨_, fit_read hblk, EffOK.of_read fun V ρ a w hev hm => ?_, hK⟩
        have hq := hev x
        rw [hx] at hq
        have hfl : isFlat bl (rowB l) := by
          unfold isFlat
          split
          · trivial
          · exact rowB_flat l
        have hlen : (rowB l).length = m := by simpa using hl
        obtain ⟨r1, r2, ad, cp, r3, r4, r5⟩ := src_cells hm (by simp) hsrc hlen hfl hq
        refine ⟨.string (txt l), ⟨rfl, rfl⟩, ?_⟩
        have : (convert src dst (a.eval x)).run P w = .ok (.string (txt l)) w := by
          rw [r3]
          cases ad with
          | none =>
            obtain ⟨h0, _⟩ := r4 rfl
            have : l = [] := List.eq_nil_of_length_eq_zero (by omega)
            subst this
            rw [run_convert_bytes_string w src dst e none m cp a2 b2 c2]
            simp [Conv.bytesToString]
            rfl
          | some ad =>
            rw [← hl]
            refine run_convert_bytes_back w src dst e ad cp l a2 b2 c2 fun j hj => ?_
            obtain ⟨ad', q1, q2⟩ := r5 (by omega)
            cases q1
            refine q2 j _ ?_
            rw [rowB_flatE]
            simp [hj]
        simp only [execOp, ho, Sem.run_bind, this]; rfl
      · exact h7.elim
    · exact h7.elim
  · exact h.elim

end Go.Proofs.Ytmdajpgemcaefaa
