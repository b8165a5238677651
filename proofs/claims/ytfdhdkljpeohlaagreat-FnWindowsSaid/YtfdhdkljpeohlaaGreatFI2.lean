/-
  An iteration by sliding windows: plain. No conditions of its own.
-/
import Derived.Test.YtfdhdkljpeohlaaGreatMSX
import Derived.Test.YtfdhdkljpeohlaaGreatFI1
namespace Go.Proofs.YtfdhdkljpeohlaaGreat
set_option linter.unusedSimpArgs false
set_option linter.unusedVariables false
set_option linter.unusedSimpArgs false
set_option linter.unusedVariables false
set_option linter.defProp false
set_option maxRecDepth 20000
open Go.RowKit

def inStep (g : GraphD) (p : RunD × List UInt8) (v : Nat) : RunD × List UInt8 := if bitAt p.2 v = true then (runV g p.1 p.2 v, nowV g p.1 p.2 v) else p
/-- The first k vertices from lo on. -/
def inTo (g : GraphD) (p : RunD × List UInt8) (lo : Nat) : Nat → RunD × List UInt8
  | 0 => p
  | k + 1 => inStep g (inTo g p lo k) (lo + k)
/-- What holds all the way in an interval. -/
structure InOk (g : GraphD) (p : RunD × List UInt8) : Prop where
  ix : RunIx g p.1
  so : setOk g.N p.1.Next.Bits = true
  sn : p.1.Next.N = g.N
  wo : setOk g.N p.2 = true
theorem runV_ok {g : GraphD} {p : RunD × List UInt8} {v : Nat} (h : InOk g p) (hv : (v : Int) < g.N) : InOk g (runV g p.1 p.2 v, nowV g p.1 p.2 v) := by
  have hx : VxOk g (vxEnd g p.1 p.2 v) := ix_to h.ix h.so h.wo hv _
  refine ⟨⟨h.ix.gn, h.ix.gw, h.ix.jp, ?_, hx.el, ?_, hx.eo⟩, hx.xo, h.sn, hx.wo⟩
  · simp only [runV, List.length_set]; exact h.ix.vl
  · exact all_set h.ix.vo (valOk_in (ix_valR h.ix hv))
theorem inStep_ok {g : GraphD} {p : RunD × List UInt8} {v : Nat} (h : InOk g p) (hv : (v : Int) < g.N) : InOk g (inStep g p v) := by
  unfold inStep
  split
  · exact runV_ok h hv
  · exact h
theorem inTo_ok {g : GraphD} {p : RunD × List UInt8} {lo : Nat} (h : InOk g p) : ∀ k : Nat, ((lo + k : Nat) : Int) ≤ g.N → InOk g (inTo g p lo k)
  | 0, _ => h
  | k + 1, hk => inStep_ok (inTo_ok h k (by omega)) (by omega)
theorem inStep_job (g : GraphD) (p : RunD × List UInt8) (v : Nat) : (inStep g p v).1.Job = p.1.Job ∧ (inStep g p v).1.Iter = p.1.Iter ∧ (inStep g p v).1.Done = p.1.Done ∧ (inStep g p v).1.Next.N = p.1.Next.N := by
  unfold inStep
  split
  · exact ⟨rfl, rfl, rfl, rfl⟩
  · exact ⟨rfl, rfl, rfl, rfl⟩
theorem inTo_job (g : GraphD) (p : RunD × List UInt8) (lo : Nat) : ∀ k, (inTo g p lo k).1.Job = p.1.Job ∧ (inTo g p lo k).1.Iter = p.1.Iter ∧ (inTo g p lo k).1.Done = p.1.Done ∧ (inTo g p lo k).1.Next.N = p.1.Next.N
  | 0 => ⟨rfl, rfl, rfl, rfl⟩
  | k + 1 => by
    obtain ⟨a, b, c, d⟩ := inTo_job g p lo k
    obtain ⟨a', b', c', d'⟩ := inStep_job g (inTo g p lo k) (lo + k)
    exact ⟨a'.trans a, b'.trans b, c'.trans c, d'.trans d⟩

/-- Is one of n vertices from lo on in a set? -/
def anyIn (w : List UInt8) (lo : Nat) : Nat → Bool
  | 0 => false
  | k + 1 => anyIn w lo k || bitAt w (lo + k)
theorem anyIn_zero (w : List UInt8) (lo : Nat) : anyIn w lo 0 = false := rfl
theorem anyIn_succ (w : List UInt8) (lo k : Nat) : anyIn w lo (k + 1) = (anyIn w lo k || bitAt w (lo + k)) := rfl
theorem anyIn_mono {w : List UInt8} {lo : Nat} : ∀ {n k : Nat}, k < n → bitAt w (lo + k) = true → anyIn w lo n = true
  | n + 1, k, h, hb => by
    rw [anyIn]
    by_cases e : k = n
    · subst e; rw [hb, Bool.or_true]
    · rw [anyIn_mono (by omega) hb]; rfl

/-- The run, the present set, and what was counted, between two intervals. -/
structure OuS where
  r : FRunD
  nw : List UInt8
  ld : Int
  rd : Int
  mo : Int
def ouLo (f : FarmD) (p : Nat) : Nat := (lastE f.Ends p).toNat
def ouN (f : FarmD) (p : Nat) : Nat := (lastE f.Ends (p + 1)).toNat - (lastE f.Ends p).toNat
def ouSub (f : FarmD) (p : Nat) : SubD := subO f p (lastE f.Ends p) (lastE f.Ends (p + 1))
def ouG (s : OuS) (p : Nat) : GraphD := gOf s.r.Farm.N (ouSub s.r.Farm p).Locs
def ouIn (s : OuS) (p : Nat) (k : Nat) : RunD × List UInt8 := inTo (ouG s p) (rOf s.r (ouSub s.r.Farm p).Locs, s.nw) (ouLo s.r.Farm p) k
def ouAny (s : OuS) (p : Nat) : Bool := anyIn s.nw (ouLo s.r.Farm p) (ouN s.r.Farm p)
noncomputable def ouDo (s : OuS) (p : Nat) : OuS :=
  ⟨⟨s.r.Job, s.r.Iter, s.r.Done, (ouIn s p (ouN s.r.Farm p)).1.Vals, (ouIn s p (ouN s.r.Farm p)).1.Next, puR s.r.Farm (setEv (ouSub s.r.Farm p).Locs (ouIn s p (ouN s.r.Farm p)).1.EVals)⟩, (ouIn s p (ouN s.r.Farm p)).2, s.ld + 1, s.rd + (ouSub s.r.Farm p).Reads, max s.mo ((ouSub s.r.Farm p).Locs.length : Int)⟩
noncomputable def ouStep (s : OuS) (p : Nat) : OuS := if ouAny s p then ouDo s p else s
noncomputable def ouTo (s : OuS) : Nat → OuS
  | 0 => s
  | p + 1 => ouStep (ouTo s p) p
theorem ouStep_yes {s : OuS} {p : Nat} (h : ouAny s p = true) : ouStep s p = ouDo s p := if_pos h
theorem ouStep_no {s : OuS} {p : Nat} (h : ouAny s p = false) : ouStep s p = s := if_neg (by simp [h])

structure OuOk (f : FRunD) (p : Nat) (s : OuS) : Prop where
  fi : FrIn s.r
  jo : s.r.Job = f.Job ∧ s.r.Iter = f.Iter ∧ s.r.Done = f.Done
  fe : s.r.Farm.Ends = f.Farm.Ends ∧ s.r.Farm.N = f.Farm.N
  wo : setOk f.Farm.N s.nw = true
  nr : (0 ≤ s.ld ∧ s.ld ≤ p) ∧ (0 ≤ s.rd ∧ s.rd ≤ 151 * p) ∧ 0 ≤ s.mo ∧ s.mo ≤ 400

/-- The parts of a valid farm. -/
structure SubIn (f : FarmD) (p : Nat) : Prop where
  lh : lastE f.Ends p ≤ lastE f.Ends (p + 1)
  lo : 0 ≤ lastE f.Ends p
  hi : lastE f.Ends (p + 1) ≤ f.N
  ll : (ouSub f p).Locs.length ≤ 400
  ok : locsOk (ouSub f p).Locs (ouSub f p).Locs.length
  rd : 0 ≤ (ouSub f p).Reads ∧ (ouSub f p).Reads ≤ 151
theorem sub_in {f : FarmD} (h : FarmOk f) {p : Nat} (hp : p < f.Ends.length) : SubIn f p := by
  have hlh := farm_lh h hp
  have e1 := lastE_succ hp
  have hinc := h.1.2.2.1
  have mono : ∀ {i j : Nat}, i ≤ j → j ≤ f.Ends.length → lastE f.Ends i ≤ lastE f.Ends j := by
    intro i j hij hj
    induction j with
    | zero => have : i = 0 := by omega
              subst this; exact Int.le_refl _
    | succ j ih =>
      rcases Nat.lt_or_ge i (j + 1) with q | q
      · have := ih (by omega) (by omega)
        have h2 := hinc j (by omega) (by omega)
        rw [lastE_succ (by omega)]; omega
      · have : i = j + 1 := by omega
        subst this; exact Int.le_refl _
  have e0 := h.1.2.2.2
  have g := gf_ok h
  rw [← e1] at hlh
  refine ⟨hlh, ?_, ?_, sub_locs h p hlh, fun i hi _ => ?_, ?_⟩
  · have := mono (i := 0) (j := p) (by omega) (by omega)
    rwa [lastE_zero] at this
  · have := mono (i := p + 1) (j := f.Ends.length) (by omega) (Nat.le_refl _)
    rwa [e0] at this
  · obtain ⟨a, b, _⟩ := sub_edge h hlh (List.getElem_mem hi)
    exact ⟨b, a⟩
  · have := rdTo_le f.Shards p (lastE f.Ends p) (lastE f.Ends (p + 1)) f.Shards.length
    have gl := g.l
    have er : (ouSub f p).Reads = ((rdTo f.Shards p (lastE f.Ends p) (lastE f.Ends (p + 1)) f.Shards.length : Nat) : Int) := rfl
    rw [er]
    omega

section
variable {f : FRunD} {p : Nat} {s : OuS}
theorem ou_in0 (h : OuOk f p s) (hp : p < s.r.Farm.Ends.length) : InOk (ouG s p) (rOf s.r (ouSub s.r.Farm p).Locs, s.nw) := by
  have hs := sub_in h.fi.fo hp
  exact ⟨ix_of h.fi hs.ll hs.ok, h.fi.so, h.fi.sn, by show setOk s.r.Farm.N s.nw = true; rw [h.fe.2]; exact h.wo⟩
theorem ou_lo (h : OuOk f p s) (hp : p < s.r.Farm.Ends.length) : lastE s.r.Farm.Ends p = (ouLo s.r.Farm p : Int) ∧ lastE s.r.Farm.Ends (p + 1) = ((ouLo s.r.Farm p + ouN s.r.Farm p : Nat) : Int) ∧ ((ouLo s.r.Farm p + ouN s.r.Farm p : Nat) : Int) ≤ s.r.Farm.N := by
  have hs := sub_in h.fi.fo hp
  have := hs.lh
  have := hs.lo
  have := hs.hi
  unfold ouLo ouN
  omega
theorem ou_in (h : OuOk f p s) (hp : p < s.r.Farm.Ends.length) {k : Nat} (hk : k ≤ ouN s.r.Farm p) : InOk (ouG s p) (ouIn s p k) := by
  obtain ⟨_, _, h3⟩ := ou_lo h hp
  exact inTo_ok (ou_in0 h hp) k (by show _ ≤ s.r.Farm.N; omega)
theorem ou_ev (h : OuOk f p s) (hp : p < s.r.Farm.Ends.length) {k : Nat} (hk : k ≤ ouN s.r.Farm p) : (ouIn s p k).1.EVals.length = (ouSub s.r.Farm p).Locs.length := by
  have := (ou_in h hp hk).ix.el
  rw [this]
  simp [ouG, gOf]
theorem ou_put (h : OuOk f p s) (hp : p < s.r.Farm.Ends.length) {k : Nat} (hk : k ≤ ouN s.r.Farm p) : PutOk s.r.Farm (setEv (ouSub s.r.Farm p).Locs (ouIn s p k).1.EVals) := by
  have hs := sub_in h.fi.fo hp
  have he := ou_ev h hp hk
  have heo := (ou_in h hp hk).ix.eo
  refine sub_put (p := p) h.fi.fo hs.lh fun x hx => ?_
  obtain ⟨i, hi, rfl⟩ := List.getElem_of_mem hx
  rw [setEv_len he] at hi
  rw [setEv_at hi (by omega)]
  refine ⟨valOk_out (List.all_eq_true.1 heo _ (List.getElem_mem (by omega))), _, List.getElem_mem hi, rfl, rfl, rfl⟩
theorem ouDo_ok (h : OuOk f p s) (hp : p < s.r.Farm.Ends.length) : OuOk f (p + 1) (ouDo s p) := by
  have hs := sub_in h.fi.fo hp
  have hin := ou_in h hp (Nat.le_refl _)
  have hpu := ou_put h hp (Nat.le_refl _)
  obtain ⟨q1, q2⟩ := put_ok hpu
  have e := (pu_yes hpu).1
  obtain ⟨j1, j2, j3, j4⟩ := inTo_job (ouG s p) (rOf s.r (ouSub s.r.Farm p).Locs, s.nw) (ouLo s.r.Farm p) (ouN s.r.Farm p)
  have hpu1 : (ouDo s p).r.Farm = ⟨s.r.Farm.N, s.r.Farm.Ends, ptL s.r.Farm.Shards (setEv (ouSub s.r.Farm p).Locs (ouIn s p (ouN s.r.Farm p)).1.EVals)⟩ := e
  have hN : (ouDo s p).r.Farm.N = s.r.Farm.N := by rw [hpu1]
  have hE : (ouDo s p).r.Farm.Ends = s.r.Farm.Ends := by rw [hpu1]
  obtain ⟨n1, n2, n3⟩ := h.nr
  have rdb := hs.rd
  have llb := hs.ll
  refine ⟨⟨by rw [hpu1]; exact q1, h.fi.jp, ?_, hin.ix.vo, ?_, ?_, h.fi.it⟩, h.jo, ⟨hE.trans h.fe.1, hN.trans h.fe.2⟩, ?_, ?_⟩
  · rw [hN]; exact hin.ix.vl
  · rw [hN]; exact hin.so
  · rw [hN]; exact hin.sn
  · have := hin.wo
    rw [show (ouG s p).N = s.r.Farm.N from rfl, h.fe.2] at this
    exact this
  · refine ⟨⟨?_, ?_⟩, ⟨?_, ?_⟩, ?_, ?_⟩
    · show 0 ≤ s.ld + 1; omega
    · show s.ld + 1 ≤ ((p + 1 : Nat) : Int); omega
    · show 0 ≤ s.rd + (ouSub s.r.Farm p).Reads; omega
    · show s.rd + (ouSub s.r.Farm p).Reads ≤ 151 * ((p + 1 : Nat) : Int); omega
    · show 0 ≤ max s.mo _; omega
    · show max s.mo ((ouSub s.r.Farm p).Locs.length : Int) ≤ 400; omega
theorem ouStep_ok (h : OuOk f p s) (hp : p < f.Farm.Ends.length) : OuOk f (p + 1) (ouStep s p) := by
  have hp2 : p < s.r.Farm.Ends.length := by rw [h.fe.1]; exact hp
  cases hb : ouAny s p with
  | true => rw [ouStep_yes hb]; exact ouDo_ok h hp2
  | false =>
    rw [ouStep_no hb]
    obtain ⟨n1, n2, n3⟩ := h.nr
    exact ⟨h.fi, h.jo, h.fe, h.wo, by omega, by omega, n3⟩
end

def ou0 (f : FRunD) : OuS := ⟨⟨f.Job, f.Iter, f.Done, f.Vals, ⟨f.Farm.N, fullTo f.Farm.N.toNat 0⟩, f.Farm⟩, f.Next.Bits, 0, 0, 0⟩
theorem ou0_ok {f : FRunD} (h : FrIn f) : OuOk f 0 (ou0 f) := by
  have hn := (gf_ok h.fo).n
  obtain ⟨m, hm⟩ := Int.eq_ofNat_of_zero_le hn.1
  have hf : setOk f.Farm.N (fullTo f.Farm.N.toNat 0) = true := by
    rw [hm, Int.toNat_natCast]
    exact fullTo_ok m 0 (by omega) (by omega)
  exact ⟨⟨h.fo, h.jp, h.vl, h.vo, hf, rfl, h.it⟩, ⟨rfl, rfl, rfl⟩, ⟨rfl, rfl⟩, h.so, ⟨Int.le_refl _, by simp [ou0]⟩, ⟨Int.le_refl _, by simp [ou0]⟩, Int.le_refl _, by simp [ou0]⟩
theorem ouTo_ok {f : FRunD} (h : FrIn f) : ∀ p, p ≤ f.Farm.Ends.length → OuOk f p (ouTo (ou0 f) p)
  | 0, _ => ou0_ok h
  | p + 1, hp => ouStep_ok (ouTo_ok h p (by omega)) hp

/-- An iteration. -/
def fiOk (f : FRunD) : Prop := FrOk f ∧ f.Done = false ∧ f.Iter < 1000
noncomputable def fiE (f : FRunD) : OuS := ouTo (ou0 f) f.Farm.Ends.length
noncomputable def fiO (f : FRunD) : FRunD := ⟨f.Job, f.Iter + 1, emptyL (fiE f).r.Next.Bits, (fiE f).r.Vals, (fiE f).r.Next, (fiE f).r.Farm⟩
noncomputable def fiR (f : FRunD) : FRunD := if pB (fiOk f) then fiO f else ⟨⟨0, 0⟩, 0, false, [], ⟨0, []⟩, ⟨0, [], []⟩⟩
noncomputable def fiS (f : FRunD) : Int × Int × Int := if pB (fiOk f) then ((fiE f).ld, (fiE f).rd, (fiE f).mo) else (0, 0, 0)
theorem fi_yes {f : FRunD} (h : fiOk f) : fiR f = fiO f ∧ fiS f = ((fiE f).ld, (fiE f).rd, (fiE f).mo) := by unfold fiR fiS; rw [pB_t h]; exact ⟨rfl, rfl⟩
theorem fi_no {f : FRunD} (h : ¬ fiOk f) : fiR f = ⟨⟨0, 0⟩, 0, false, [], ⟨0, []⟩, ⟨0, [], []⟩⟩ ∧ fiS f = (0, 0, 0) := by unfold fiR fiS; rw [pB_f h]; exact ⟨rfl, rfl⟩
/-- How large a run in a farm is. -/
structure FrSm (f : FRunD) : Prop where
  v : f.Vals.length ≤ 150
  x : f.Next.Bits.length ≤ 19
  e : f.Farm.Ends.length ≤ 150
  s : f.Farm.Shards.length ≤ 150
  c : edSum f.Farm.Shards ≤ 400
theorem frin_sm {f : FRunD} (h : FrIn f) : FrSm f := by
  have g := gf_ok h.fo
  have gl := g.l
  have ge := g.e
  have gn := g.n
  have := h.vl
  have := (setOk_len h.so).2.2.2
  exact ⟨by omega, this, by omega, gl, g.c⟩
theorem fiR_sm (f : FRunD) : FrSm (fiR f) := by
  by_cases h : fiOk f
  · rw [(fi_yes h).1]
    have := frin_sm (ouTo_ok (fr_in h.1) f.Farm.Ends.length (Nat.le_refl _)).fi
    exact ⟨this.v, this.x, this.e, this.s, this.c⟩
  · rw [(fi_no h).1]
    exact ⟨by simp, by simp, by simp, by simp, by simp [edSum]⟩
theorem sm_edges : ∀ {l : List ShardD} {s : ShardD}, s ∈ l → s.Edges.length ≤ edSum l
  | t :: l, s, h => by
    rcases List.mem_cons.1 h with rfl | h
    · simp [edSum]
    · have := sm_edges h
      simp only [edSum]; omega
theorem sm_L {f : FRunD} (h : FrSm f) : f.Vals.length ≤ 1048576 ∧ f.Next.Bits.length ≤ 1048576 ∧ f.Farm.Ends.length ≤ 1048576 ∧ f.Farm.Shards.length ≤ 1048576 ∧ ∀ s ∈ f.Farm.Shards, s.Edges.length ≤ 1048576 :=
  ⟨by have := h.v; omega, by have := h.x; omega, by have := h.e; omega, by have := h.s; omega, fun s hs => by have := sm_edges hs; have := h.c; omega⟩

end Go.Proofs.YtfdhdkljpeohlaaGreat

