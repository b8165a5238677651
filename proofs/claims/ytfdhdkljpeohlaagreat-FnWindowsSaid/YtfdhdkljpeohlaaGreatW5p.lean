/-
  An iteration of a run: plain. No conditions of its own.
-/
import Derived.Test.YtfdhdkljpeohlaaGreatMW
namespace Go.Proofs.YtfdhdkljpeohlaaGreat
set_option linter.unusedSimpArgs false
set_option linter.unusedVariables false
set_option linter.unusedSimpArgs false
set_option linter.unusedVariables false
set_option linter.defProp false
open Go.RowKit

def itStep (g : GraphD) (p : RunD × List UInt8) (v : Nat) : RunD × List UInt8 := if bitAt p.2 v = true then (runV g p.1 p.2 v, nowV g p.1 p.2 v) else p
def itTo (g : GraphD) (p : RunD × List UInt8) : Nat → RunD × List UInt8
  | 0 => p
  | k + 1 => itStep g (itTo g p k) k
def it0 (g : GraphD) (r : RunD) : RunD × List UInt8 := (⟨r.Job, r.Iter, r.Done, r.Vals, r.EVals, ⟨g.N, fullTo g.N.toNat 0⟩⟩, r.Next.Bits)
def itEnd (g : GraphD) (r : RunD) : RunD := (itTo g (it0 g r) g.N.toNat).1
def riOk (g : GraphD) (r : RunD) : Bool := runOk g r && !r.Done && decide (r.Iter < 1000)
def riR (g : GraphD) (r : RunD) : RunD := if riOk g r then ⟨(itEnd g r).Job, (itEnd g r).Iter + 1, emptyL (itEnd g r).Next.Bits, (itEnd g r).Vals, (itEnd g r).EVals, (itEnd g r).Next⟩ else zeroRun

theorem itTo_yes {g : GraphD} {p : RunD × List UInt8} {k : Nat} (h : bitAt (itTo g p k).2 k = true) : itTo g p (k + 1) = (runV g (itTo g p k).1 (itTo g p k).2 k, nowV g (itTo g p k).1 (itTo g p k).2 k) := if_pos h
theorem itTo_no {g : GraphD} {p : RunD × List UInt8} {k : Nat} (h : bitAt (itTo g p k).2 k = false) : itTo g p (k + 1) = itTo g p k := if_neg (by simp [h])

theorem it0_in {g : GraphD} {r : RunD} (h : RunIn g r) : RunIn g (it0 g r).1 ∧ setOk g.N (it0 g r).2 = true := by
  obtain ⟨⟨g1, g2, _⟩, _⟩ := graphOk_out h.go
  obtain ⟨m, hm⟩ := Int.eq_ofNat_of_zero_le g1
  have hf : setOk g.N (fullTo g.N.toNat 0) = true := by
    rw [hm, Int.toNat_natCast]
    exact fullTo_ok m 0 (by omega) (by omega)
  exact ⟨⟨h.go, h.jo, h.vl, h.el, h.vo, h.eo, hf, rfl⟩, h.so⟩

theorem itTo_in {g : GraphD} {p : RunD × List UInt8} (h : RunIn g p.1 ∧ setOk g.N p.2 = true) : ∀ k : Nat, (k : Int) ≤ g.N → RunIn g (itTo g p k).1 ∧ setOk g.N (itTo g p k).2 = true
  | 0, _ => h
  | k + 1, hk => by
    have ih := itTo_in h k (by omega)
    cases hb : bitAt (itTo g p k).2 k with
    | true => rw [itTo_yes hb]; exact runV_in ih.1 ih.2 (by omega)
    | false => rw [itTo_no hb]; exact ih

theorem itTo_iter (g : GraphD) (p : RunD × List UInt8) : ∀ k, (itTo g p k).1.Iter = p.1.Iter
  | 0 => rfl
  | k + 1 => by
    have ih := itTo_iter g p k
    cases hb : bitAt (itTo g p k).2 k with
    | true => rw [itTo_yes hb]; exact ih
    | false => rw [itTo_no hb]; exact ih

theorem riOk_out {g : GraphD} {r : RunD} (h : riOk g r = true) : runOk g r = true ∧ r.Done = false ∧ r.Iter < 1000 := by
  unfold riOk at h
  simp only [Bool.and_eq_true, Bool.not_eq_true', decide_eq_true_eq] at h
  exact ⟨h.1.1, h.1.2, h.2⟩

theorem ri_small (g : GraphD) (r : RunD) : (riR g r).Vals.length ≤ r.Vals.length ∧ (riR g r).EVals.length ≤ r.EVals.length ∧ (riR g r).Next.Bits.length ≤ r.Next.Bits.length := by
  unfold riR
  cases ho : riOk g r with
  | false => simp [zeroRun]
  | true =>
    obtain ⟨h1, _, _⟩ := riOk_out ho
    obtain ⟨hin, _, _⟩ := runOk_in h1
    obtain ⟨⟨g1, g2, _⟩, _⟩ := graphOk_out hin.go
    have hx := itTo_in (it0_in hin) g.N.toNat (by omega)
    have a1 := hx.1.vl
    have a2 := hin.vl
    have a3 := hx.1.el
    have a4 := hin.el
    have a5 := setOk_same hx.1.so hin.so
    simp only [if_true, itEnd]
    omega
theorem ri_ok {g : GraphD} {r : RunD} (h : riOk g r = true) : runOk g (riR g r) = true ∧ (riR g r).Iter = r.Iter + 1 := by
  obtain ⟨h1, _, h3⟩ := riOk_out h
  obtain ⟨hin, hi, _⟩ := runOk_in h1
  obtain ⟨⟨g1, _, _⟩, _⟩ := graphOk_out hin.go
  have hx := (itTo_in (it0_in hin) g.N.toNat (by omega)).1
  have e := itTo_iter g (it0 g r) g.N.toNat
  unfold riR
  rw [if_pos h]
  have e' : (itEnd g r).Iter = r.Iter := e
  refine ⟨RunIn.ok ⟨hx.go, hx.jo, hx.vl, hx.el, hx.vo, hx.eo, hx.so, hx.sn⟩ ?_ rfl, ?_⟩
  · show 0 ≤ (itEnd g r).Iter + 1 ∧ (itEnd g r).Iter + 1 ≤ 1000
    omega
  · show (itEnd g r).Iter + 1 = _
    omega

end Go.Proofs.YtfdhdkljpeohlaaGreat

