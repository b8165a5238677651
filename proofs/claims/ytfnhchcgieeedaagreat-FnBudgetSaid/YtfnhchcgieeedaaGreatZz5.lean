/-
  Texts N11 SO5s LD3 W5p in one. No conditions of its own.
-/
import Derived.Test.YtfnhchcgieeedaaGreatGO
import Derived.Test.YtfnhchcgieeedaaGreatMNC
import Derived.Test.YtfnhchcgieeedaaGreatMNB
import Derived.Test.YtfnhchcgieeedaaGreatZz2
import Derived.Test.YtfnhchcgieeedaaGreatZz4
import Derived.Test.YtfnhchcgieeedaaGreatMW
namespace Go.Proofs.YtfnhchcgieeedaaGreat
set_option linter.unusedSimpArgs false
set_option linter.unusedVariables false
set_option linter.unusedSimpArgs false
set_option linter.unusedVariables false
set_option linter.defProp false
set_option maxRecDepth 20000
open Go.RowKit

noncomputable def fvL (f : FarmD) : List Int := if pB (FarmOk f) then valsL (edSum f.Shards) (allE f.Shards) else []
noncomputable def fgR (f : FarmD) : GraphD := if pB (FarmOk f) then ⟨f.N, edgesL (edSum f.Shards) (allE f.Shards)⟩ else ⟨0, []⟩

theorem fvL_len (f : FarmD) : (fvL f).length ≤ 400 := by
  unfold fvL
  split
  · rename_i h
    have hf := pB_i h
    rw [valsL_len]; exact hf.2.2.2.2.2.2.2.1
  · simp
theorem fgR_len (f : FarmD) : (fgR f).Edges.length ≤ 400 := by
  unfold fgR
  split
  · rename_i h
    have hf := pB_i h
    rw [edgesL_len]; exact hf.2.2.2.2.2.2.2.1
  · simp
set_option maxHeartbeats 16000000 in
theorem implFarmGraph_k (f : FarmD) (h : (f.Ends).length ≤ 1048576 ∧ (f.Shards).length ≤ 1048576 ∧ (∀ s ∈ f.Shards, s.Edges.length ≤ 1048576)) : FnOK Tryz.prog 28 ⟨2, [(0, some (.ro ((f.Ends).map intK))), (1, some (.ro ((f.Shards).map (ShardD.k 101))))], [.agg [.v (.int .i64 f.N), .sl 0 1 0 (f.Ends).length, .sl 1 3 0 (f.Shards).length]], .agg [.v (.int .i64 (fgR f).N), .sl 2 3 0 ((fgR f).Edges).length], [(2, some (.row 63 (((fgR f).Edges).map EdgeD.k)))], 3⟩ := by
  have c := implFarmOk_k f h
  obtain ⟨h0, h1, h2⟩ := h
  by_cases hf : FarmOk f
  · have c2 := implJoinedY_k f.N f.Shards h1 h2 hf.2.2.2
    have e : fgR f = ⟨f.N, edgesL (edSum f.Shards) (allE f.Shards)⟩ := by unfold fgR; rw [pB_t hf, if_pos rfl]
    have le := edgesL_len (edSum f.Shards) (allE f.Shards)
    rw [e]
    rw [pB_t hf] at c
    refine fnOK_of true mixed Tryz.func28 rfl (by rfl) (by rfl) ?_
    have hres := congrArg Array.toList Tryz.results28
    simp only [Tryz.ntmps28, BGB, seval]
    (have gx := @List.length_map.{0,0}; have q1 := c; have q2 := c2; refine go ?_; (repeat' first | exact Ef.mk | apply Lf.mk | refine fun (K : KT) hK hE hT => ?_ | refine fun (KS : KE) hKS => ?_ | refine fun (D : KD) hD => ?_ | refine fun (hg : (_ : Prop)) => ?_ | fail); all_goals (first | (refine Wr.mk ?_; (try clear gx q1 q2); repeat first | clear hK hE hT K | clear hR hE hT K) | assumption | skip))
    all_goals (refine post_a hres (.inl rfl) ?_; simp only [RSB, ENB, seval, tiAll, le]; simp only [MAB, seval]; refine ⟨rfl, rfl, ?_, ?_, ?_⟩ <;> (first | rfl | (simp [WKB, Nat.add_comm, le]; done) | (simp only [WKB, seval])))
  · have e : fgR f = ⟨0, []⟩ := by unfold fgR; rw [pB_f hf]; rfl
    rw [e]
    rw [pB_f hf] at c
    refine fnOK_of true mixed Tryz.func28 rfl (by rfl) (by rfl) ?_
    have hres := congrArg Array.toList Tryz.results28
    simp only [Tryz.ntmps28, BGB, seval]
    (have gx := @List.length_map.{0,0}; have q1 := c; refine go ?_; (repeat' first | exact Ef.mk | apply Lf.mk | refine fun (K : KT) hK hE hT => ?_ | refine fun (KS : KE) hKS => ?_ | refine fun (D : KD) hD => ?_ | refine fun (hg : (_ : Prop)) => ?_ | fail); all_goals (first | (refine Wr.mk ?_; (try clear gx q1); repeat first | clear hK hE hT K | clear hR hE hT K) | assumption | skip))
    all_goals (refine post_a hres (.inl rfl) ?_; simp only [RSB, ENB, seval, tiAll, true_and]; simp only [MAB, seval]; refine ⟨rfl, rfl, ?_, ?_, ?_⟩ <;> (first | rfl | (simp [WKB, Nat.add_comm, true_and]; done) | (simp only [WKB, seval])))

end Go.Proofs.YtfnhchcgieeedaaGreat


namespace Go.Proofs.YtfnhchcgieeedaaGreat
set_option linter.unusedSimpArgs false
set_option linter.unusedVariables false
set_option linter.unusedSimpArgs false
set_option linter.unusedVariables false
set_option linter.defProp false
set_option maxRecDepth 20000
open Go.RowKit
attribute [local irreducible] lexD

end Go.Proofs.YtfnhchcgieeedaaGreat


namespace Go.Proofs.YtfnhchcgieeedaaGreat
set_option linter.unusedSimpArgs false
set_option linter.unusedVariables false
set_option linter.unusedSimpArgs false
set_option linter.unusedVariables false
set_option linter.defProp false
set_option maxRecDepth 20000
open Go.RowKit
attribute [local irreducible] lexD

end Go.Proofs.YtfnhchcgieeedaaGreat


namespace Go.Proofs.YtfnhchcgieeedaaGreat
set_option linter.unusedSimpArgs false
set_option linter.unusedVariables false
set_option linter.unusedSimpArgs false
set_option linter.unusedVariables false
set_option linter.defProp false
open Go.RowKit

def itStep (g : GraphD) (p : RunD × List UInt8) (v : Nat) : RunD × List UInt8 := if bitAt p.2 v = true then (runV g p.1 p.2 v, nowV g p.1 p.2 v) else p
def itTo (g : GraphD) (p : RunD × List UInt8) : Nat → RunD × List UInt8
  | 0 => p
  | k + 1 => itStep g (itTo g p k) k
def it0 (g : GraphD) (r : RunD) : RunD × List UInt8 := (⟨r.Job, r.Iter, r.Done, r.Vals, r.EVals, ⟨g.N, fullTo g.N.toNat 0⟩⟩, r.Next.Bits)
def itEnd (g : GraphD) (r : RunD) : RunD := (itTo g (it0 g r) g.N.toNat).1
def riOk (g : GraphD) (r : RunD) : Bool := runOk g r && !r.Done && decide (r.Iter < 1000)
def riR (g : GraphD) (r : RunD) : RunD := if riOk g r then ⟨(itEnd g r).Job, (itEnd g r).Iter + 1, emptyL (itEnd g r).Next.Bits, (itEnd g r).Vals, (itEnd g r).EVals, (itEnd g r).Next⟩ else zeroRun

theorem itTo_yes {g : GraphD} {p : RunD × List UInt8} {k : Nat} (h : bitAt (itTo g p k).2 k = true) : itTo g p (k + 1) = (runV g (itTo g p k).1 (itTo g p k).2 k, nowV g (itTo g p k).1 (itTo g p k).2 k) := if_pos h
theorem itTo_no {g : GraphD} {p : RunD × List UInt8} {k : Nat} (h : bitAt (itTo g p k).2 k = false) : itTo g p (k + 1) = itTo g p k := if_neg (by simp [h])

theorem it0_in {g : GraphD} {r : RunD} (h : RunIn g r) : RunIn g (it0 g r).1 ∧ setOk g.N (it0 g r).2 = true := by
  obtain ⟨⟨g1, g2, _⟩, _⟩ := graphOk_out h.go
  obtain ⟨m, hm⟩ := Int.eq_ofNat_of_zero_le g1
  have hf : setOk g.N (fullTo g.N.toNat 0) = true := by
    rw [hm, Int.toNat_natCast]
    exact fullTo_ok m 0 (by omega) (by omega)
  exact ⟨⟨h.go, h.jo, h.vl, h.el, h.vo, h.eo, hf, rfl⟩, h.so⟩

theorem itTo_in {g : GraphD} {p : RunD × List UInt8} (h : RunIn g p.1 ∧ setOk g.N p.2 = true) : ∀ k : Nat, (k : Int) ≤ g.N → RunIn g (itTo g p k).1 ∧ setOk g.N (itTo g p k).2 = true
  | 0, _ => h
  | k + 1, hk => by
    have ih := itTo_in h k (by omega)
    cases hb : bitAt (itTo g p k).2 k with
    | true => rw [itTo_yes hb]; exact runV_in ih.1 ih.2 (by omega)
    | false => rw [itTo_no hb]; exact ih

theorem itTo_iter (g : GraphD) (p : RunD × List UInt8) : ∀ k, (itTo g p k).1.Iter = p.1.Iter
  | 0 => rfl
  | k + 1 => by
    have ih := itTo_iter g p k
    cases hb : bitAt (itTo g p k).2 k with
    | true => rw [itTo_yes hb]; exact ih
    | false => rw [itTo_no hb]; exact ih

theorem riOk_out {g : GraphD} {r : RunD} (h : riOk g r = true) : runOk g r = true ∧ r.Done = false ∧ r.Iter < 1000 := by
  unfold riOk at h
  simp only [Bool.and_eq_true, Bool.not_eq_true', decide_eq_true_eq] at h
  exact ⟨h.1.1, h.1.2, h.2⟩

theorem ri_small (g : GraphD) (r : RunD) : (riR g r).Vals.length ≤ r.Vals.length ∧ (riR g r).EVals.length ≤ r.EVals.length ∧ (riR g r).Next.Bits.length ≤ r.Next.Bits.length := by
  unfold riR
  cases ho : riOk g r with
  | false => simp [zeroRun]
  | true =>
    obtain ⟨h1, _, _⟩ := riOk_out ho
    obtain ⟨hin, _, _⟩ := runOk_in h1
    obtain ⟨⟨g1, g2, _⟩, _⟩ := graphOk_out hin.go
    have hx := itTo_in (it0_in hin) g.N.toNat (by omega)
    have a1 := hx.1.vl
    have a2 := hin.vl
    have a3 := hx.1.el
    have a4 := hin.el
    have a5 := setOk_same hx.1.so hin.so
    simp only [if_true, itEnd]
    omega
theorem ri_ok {g : GraphD} {r : RunD} (h : riOk g r = true) : runOk g (riR g r) = true ∧ (riR g r).Iter = r.Iter + 1 := by
  obtain ⟨h1, _, h3⟩ := riOk_out h
  obtain ⟨hin, hi, _⟩ := runOk_in h1
  obtain ⟨⟨g1, _, _⟩, _⟩ := graphOk_out hin.go
  have hx := (itTo_in (it0_in hin) g.N.toNat (by omega)).1
  have e := itTo_iter g (it0 g r) g.N.toNat
  unfold riR
  rw [if_pos h]
  have e' : (itEnd g r).Iter = r.Iter := e
  refine ⟨RunIn.ok ⟨hx.go, hx.jo, hx.vl, hx.el, hx.vo, hx.eo, hx.so, hx.sn⟩ ?_ rfl, ?_⟩
  · show 0 ≤ (itEnd g r).Iter + 1 ∧ (itEnd g r).Iter + 1 ≤ 1000
    omega
  · show (itEnd g r).Iter + 1 = _
    omega

end Go.Proofs.YtfnhchcgieeedaaGreat

