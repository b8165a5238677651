/-
  Texts FI2 FI3 FI4 FA1 in one. No conditions of its own.
-/
import Derived.Test.YtfnhchcgieeedaaGreatMSX
import Derived.Test.YtfnhchcgieeedaaGreatZz6
import Derived.Test.YtfnhchcgieeedaaGreatGO
import Derived.Test.YtfnhchcgieeedaaGreatZz4
import Derived.Test.YtfnhchcgieeedaaGreatZz5
namespace Go.Proofs.YtfnhchcgieeedaaGreat
set_option linter.unusedSimpArgs false
set_option linter.unusedVariables false
set_option linter.unusedSimpArgs false
set_option linter.unusedVariables false
set_option linter.defProp false
set_option maxRecDepth 20000
open Go.RowKit

def inStep (g : GraphD) (p : RunD × List UInt8) (v : Nat) : RunD × List UInt8 := if bitAt p.2 v = true then (runV g p.1 p.2 v, nowV g p.1 p.2 v) else p
/-- The first k vertices from lo on. -/
def inTo (g : GraphD) (p : RunD × List UInt8) (lo : Nat) : Nat → RunD × List UInt8
  | 0 => p
  | k + 1 => inStep g (inTo g p lo k) (lo + k)
/-- What holds all the way in an interval. -/
structure InOk (g : GraphD) (p : RunD × List UInt8) : Prop where
  ix : RunIx g p.1
  so : setOk g.N p.1.Next.Bits = true
  sn : p.1.Next.N = g.N
  wo : setOk g.N p.2 = true
theorem runV_ok {g : GraphD} {p : RunD × List UInt8} {v : Nat} (h : InOk g p) (hv : (v : Int) < g.N) : InOk g (runV g p.1 p.2 v, nowV g p.1 p.2 v) := by
  have hx : VxOk g (vxEnd g p.1 p.2 v) := ix_to h.ix h.so h.wo hv _
  refine ⟨⟨h.ix.gn, h.ix.gw, h.ix.jp, ?_, hx.el, ?_, hx.eo⟩, hx.xo, h.sn, hx.wo⟩
  · simp only [runV, List.length_set]; exact h.ix.vl
  · exact all_set h.ix.vo (valOk_in (ix_valR h.ix hv))
theorem inStep_ok {g : GraphD} {p : RunD × List UInt8} {v : Nat} (h : InOk g p) (hv : (v : Int) < g.N) : InOk g (inStep g p v) := by
  unfold inStep
  split
  · exact runV_ok h hv
  · exact h
theorem inTo_ok {g : GraphD} {p : RunD × List UInt8} {lo : Nat} (h : InOk g p) : ∀ k : Nat, ((lo + k : Nat) : Int) ≤ g.N → InOk g (inTo g p lo k)
  | 0, _ => h
  | k + 1, hk => inStep_ok (inTo_ok h k (by omega)) (by omega)
theorem inStep_job (g : GraphD) (p : RunD × List UInt8) (v : Nat) : (inStep g p v).1.Job = p.1.Job ∧ (inStep g p v).1.Iter = p.1.Iter ∧ (inStep g p v).1.Done = p.1.Done ∧ (inStep g p v).1.Next.N = p.1.Next.N := by
  unfold inStep
  split
  · exact ⟨rfl, rfl, rfl, rfl⟩
  · exact ⟨rfl, rfl, rfl, rfl⟩
theorem inTo_job (g : GraphD) (p : RunD × List UInt8) (lo : Nat) : ∀ k, (inTo g p lo k).1.Job = p.1.Job ∧ (inTo g p lo k).1.Iter = p.1.Iter ∧ (inTo g p lo k).1.Done = p.1.Done ∧ (inTo g p lo k).1.Next.N = p.1.Next.N
  | 0 => ⟨rfl, rfl, rfl, rfl⟩
  | k + 1 => by
    obtain ⟨a, b, c, d⟩ := inTo_job g p lo k
    obtain ⟨a', b', c', d'⟩ := inStep_job g (inTo g p lo k) (lo + k)
    exact ⟨a'.trans a, b'.trans b, c'.trans c, d'.trans d⟩

/-- Is one of n vertices from lo on in a set? -/
def anyIn (w : List UInt8) (lo : Nat) : Nat → Bool
  | 0 => false
  | k + 1 => anyIn w lo k || bitAt w (lo + k)
theorem anyIn_zero (w : List UInt8) (lo : Nat) : anyIn w lo 0 = false := rfl
theorem anyIn_succ (w : List UInt8) (lo k : Nat) : anyIn w lo (k + 1) = (anyIn w lo k || bitAt w (lo + k)) := rfl
/-- The run, the present set, and what was counted, between two intervals. -/
structure OuS where
  r : FRunD
  nw : List UInt8
  ld : Int
  rd : Int
  mo : Int
def ouLo (f : FarmD) (p : Nat) : Nat := (lastE f.Ends p).toNat
def ouN (f : FarmD) (p : Nat) : Nat := (lastE f.Ends (p + 1)).toNat - (lastE f.Ends p).toNat
def ouSub (f : FarmD) (p : Nat) : SubD := subO f p (lastE f.Ends p) (lastE f.Ends (p + 1))
def ouG (s : OuS) (p : Nat) : GraphD := gOf s.r.Farm.N (ouSub s.r.Farm p).Locs
def ouIn (s : OuS) (p : Nat) (k : Nat) : RunD × List UInt8 := inTo (ouG s p) (rOf s.r (ouSub s.r.Farm p).Locs, s.nw) (ouLo s.r.Farm p) k
def ouAny (s : OuS) (p : Nat) : Bool := anyIn s.nw (ouLo s.r.Farm p) (ouN s.r.Farm p)
noncomputable def ouDo (s : OuS) (p : Nat) : OuS :=
  ⟨⟨s.r.Job, s.r.Iter, s.r.Done, (ouIn s p (ouN s.r.Farm p)).1.Vals, (ouIn s p (ouN s.r.Farm p)).1.Next, puR s.r.Farm (setEv (ouSub s.r.Farm p).Locs (ouIn s p (ouN s.r.Farm p)).1.EVals)⟩, (ouIn s p (ouN s.r.Farm p)).2, s.ld + 1, s.rd + (ouSub s.r.Farm p).Reads, max s.mo ((ouSub s.r.Farm p).Locs.length : Int)⟩
noncomputable def ouStep (s : OuS) (p : Nat) : OuS := if ouAny s p then ouDo s p else s
noncomputable def ouTo (s : OuS) : Nat → OuS
  | 0 => s
  | p + 1 => ouStep (ouTo s p) p
theorem ouStep_yes {s : OuS} {p : Nat} (h : ouAny s p = true) : ouStep s p = ouDo s p := if_pos h
theorem ouStep_no {s : OuS} {p : Nat} (h : ouAny s p = false) : ouStep s p = s := if_neg (by simp [h])

structure OuOk (f : FRunD) (p : Nat) (s : OuS) : Prop where
  fi : FrIn s.r
  jo : s.r.Job = f.Job ∧ s.r.Iter = f.Iter ∧ s.r.Done = f.Done
  fe : s.r.Farm.Ends = f.Farm.Ends ∧ s.r.Farm.N = f.Farm.N
  wo : setOk f.Farm.N s.nw = true
  nr : (0 ≤ s.ld ∧ s.ld ≤ p) ∧ (0 ≤ s.rd ∧ s.rd ≤ 151 * p) ∧ 0 ≤ s.mo ∧ s.mo ≤ 400

/-- The parts of a valid farm. -/
structure SubIn (f : FarmD) (p : Nat) : Prop where
  lh : lastE f.Ends p ≤ lastE f.Ends (p + 1)
  lo : 0 ≤ lastE f.Ends p
  hi : lastE f.Ends (p + 1) ≤ f.N
  ll : (ouSub f p).Locs.length ≤ 400
  ok : locsOk (ouSub f p).Locs (ouSub f p).Locs.length
  rd : 0 ≤ (ouSub f p).Reads ∧ (ouSub f p).Reads ≤ 151
theorem sub_in {f : FarmD} (h : FarmOk f) {p : Nat} (hp : p < f.Ends.length) : SubIn f p := by
  have hlh := farm_lh h hp
  have e1 := lastE_succ hp
  have hinc := h.1.2.2.1
  have mono : ∀ {i j : Nat}, i ≤ j → j ≤ f.Ends.length → lastE f.Ends i ≤ lastE f.Ends j := by
    intro i j hij hj
    induction j with
    | zero => have : i = 0 := by omega
              subst this; exact Int.le_refl _
    | succ j ih =>
      rcases Nat.lt_or_ge i (j + 1) with q | q
      · have := ih (by omega) (by omega)
        have h2 := hinc j (by omega) (by omega)
        rw [lastE_succ (by omega)]; omega
      · have : i = j + 1 := by omega
        subst this; exact Int.le_refl _
  have e0 := h.1.2.2.2
  have g := gf_ok h
  rw [← e1] at hlh
  refine ⟨hlh, ?_, ?_, sub_locs h p hlh, fun i hi _ => ?_, ?_⟩
  · have := mono (i := 0) (j := p) (by omega) (by omega)
    rwa [lastE_zero] at this
  · have := mono (i := p + 1) (j := f.Ends.length) (by omega) (Nat.le_refl _)
    rwa [e0] at this
  · obtain ⟨a, b, _⟩ := sub_edge h hlh (List.getElem_mem hi)
    exact ⟨b, a⟩
  · have := rdTo_le f.Shards p (lastE f.Ends p) (lastE f.Ends (p + 1)) f.Shards.length
    have gl := g.l
    have er : (ouSub f p).Reads = ((rdTo f.Shards p (lastE f.Ends p) (lastE f.Ends (p + 1)) f.Shards.length : Nat) : Int) := rfl
    rw [er]
    omega

section
variable {f : FRunD} {p : Nat} {s : OuS}
theorem ou_in0 (h : OuOk f p s) (hp : p < s.r.Farm.Ends.length) : InOk (ouG s p) (rOf s.r (ouSub s.r.Farm p).Locs, s.nw) := by
  have hs := sub_in h.fi.fo hp
  exact ⟨ix_of h.fi hs.ll hs.ok, h.fi.so, h.fi.sn, by show setOk s.r.Farm.N s.nw = true; rw [h.fe.2]; exact h.wo⟩
theorem ou_lo (h : OuOk f p s) (hp : p < s.r.Farm.Ends.length) : lastE s.r.Farm.Ends p = (ouLo s.r.Farm p : Int) ∧ lastE s.r.Farm.Ends (p + 1) = ((ouLo s.r.Farm p + ouN s.r.Farm p : Nat) : Int) ∧ ((ouLo s.r.Farm p + ouN s.r.Farm p : Nat) : Int) ≤ s.r.Farm.N := by
  have hs := sub_in h.fi.fo hp
  have := hs.lh
  have := hs.lo
  have := hs.hi
  unfold ouLo ouN
  omega
theorem ou_in (h : OuOk f p s) (hp : p < s.r.Farm.Ends.length) {k : Nat} (hk : k ≤ ouN s.r.Farm p) : InOk (ouG s p) (ouIn s p k) := by
  obtain ⟨_, _, h3⟩ := ou_lo h hp
  exact inTo_ok (ou_in0 h hp) k (by show _ ≤ s.r.Farm.N; omega)
theorem ou_ev (h : OuOk f p s) (hp : p < s.r.Farm.Ends.length) {k : Nat} (hk : k ≤ ouN s.r.Farm p) : (ouIn s p k).1.EVals.length = (ouSub s.r.Farm p).Locs.length := by
  have := (ou_in h hp hk).ix.el
  rw [this]
  simp [ouG, gOf]
theorem ou_put (h : OuOk f p s) (hp : p < s.r.Farm.Ends.length) {k : Nat} (hk : k ≤ ouN s.r.Farm p) : PutOk s.r.Farm (setEv (ouSub s.r.Farm p).Locs (ouIn s p k).1.EVals) := by
  have hs := sub_in h.fi.fo hp
  have he := ou_ev h hp hk
  have heo := (ou_in h hp hk).ix.eo
  refine sub_put (p := p) h.fi.fo hs.lh fun x hx => ?_
  obtain ⟨i, hi, rfl⟩ := List.getElem_of_mem hx
  rw [setEv_len he] at hi
  rw [setEv_at hi (by omega)]
  refine ⟨valOk_out (List.all_eq_true.1 heo _ (List.getElem_mem (by omega))), _, List.getElem_mem hi, rfl, rfl, rfl⟩
theorem ouDo_ok (h : OuOk f p s) (hp : p < s.r.Farm.Ends.length) : OuOk f (p + 1) (ouDo s p) := by
  have hs := sub_in h.fi.fo hp
  have hin := ou_in h hp (Nat.le_refl _)
  have hpu := ou_put h hp (Nat.le_refl _)
  obtain ⟨q1, q2⟩ := put_ok hpu
  have e := (pu_yes hpu).1
  obtain ⟨j1, j2, j3, j4⟩ := inTo_job (ouG s p) (rOf s.r (ouSub s.r.Farm p).Locs, s.nw) (ouLo s.r.Farm p) (ouN s.r.Farm p)
  have hpu1 : (ouDo s p).r.Farm = ⟨s.r.Farm.N, s.r.Farm.Ends, ptL s.r.Farm.Shards (setEv (ouSub s.r.Farm p).Locs (ouIn s p (ouN s.r.Farm p)).1.EVals)⟩ := e
  have hN : (ouDo s p).r.Farm.N = s.r.Farm.N := by rw [hpu1]
  have hE : (ouDo s p).r.Farm.Ends = s.r.Farm.Ends := by rw [hpu1]
  obtain ⟨n1, n2, n3⟩ := h.nr
  have rdb := hs.rd
  have llb := hs.ll
  refine ⟨⟨by rw [hpu1]; exact q1, h.fi.jp, ?_, hin.ix.vo, ?_, ?_, h.fi.it⟩, h.jo, ⟨hE.trans h.fe.1, hN.trans h.fe.2⟩, ?_, ?_⟩
  · rw [hN]; exact hin.ix.vl
  · rw [hN]; exact hin.so
  · rw [hN]; exact hin.sn
  · have := hin.wo
    rw [show (ouG s p).N = s.r.Farm.N from rfl, h.fe.2] at this
    exact this
  · refine ⟨⟨?_, ?_⟩, ⟨?_, ?_⟩, ?_, ?_⟩
    · show 0 ≤ s.ld + 1; omega
    · show s.ld + 1 ≤ ((p + 1 : Nat) : Int); omega
    · show 0 ≤ s.rd + (ouSub s.r.Farm p).Reads; omega
    · show s.rd + (ouSub s.r.Farm p).Reads ≤ 151 * ((p + 1 : Nat) : Int); omega
    · show 0 ≤ max s.mo _; omega
    · show max s.mo ((ouSub s.r.Farm p).Locs.length : Int) ≤ 400; omega
theorem ouStep_ok (h : OuOk f p s) (hp : p < f.Farm.Ends.length) : OuOk f (p + 1) (ouStep s p) := by
  have hp2 : p < s.r.Farm.Ends.length := by rw [h.fe.1]; exact hp
  cases hb : ouAny s p with
  | true => rw [ouStep_yes hb]; exact ouDo_ok h hp2
  | false =>
    rw [ouStep_no hb]
    obtain ⟨n1, n2, n3⟩ := h.nr
    exact ⟨h.fi, h.jo, h.fe, h.wo, by omega, by omega, n3⟩
end

def ou0 (f : FRunD) : OuS := ⟨⟨f.Job, f.Iter, f.Done, f.Vals, ⟨f.Farm.N, fullTo f.Farm.N.toNat 0⟩, f.Farm⟩, f.Next.Bits, 0, 0, 0⟩
theorem ou0_ok {f : FRunD} (h : FrIn f) : OuOk f 0 (ou0 f) := by
  have hn := (gf_ok h.fo).n
  obtain ⟨m, hm⟩ := Int.eq_ofNat_of_zero_le hn.1
  have hf : setOk f.Farm.N (fullTo f.Farm.N.toNat 0) = true := by
    rw [hm, Int.toNat_natCast]
    exact fullTo_ok m 0 (by omega) (by omega)
  exact ⟨⟨h.fo, h.jp, h.vl, h.vo, hf, rfl, h.it⟩, ⟨rfl, rfl, rfl⟩, ⟨rfl, rfl⟩, h.so, ⟨Int.le_refl _, by simp [ou0]⟩, ⟨Int.le_refl _, by simp [ou0]⟩, Int.le_refl _, by simp [ou0]⟩
theorem ouTo_ok {f : FRunD} (h : FrIn f) : ∀ p, p ≤ f.Farm.Ends.length → OuOk f p (ouTo (ou0 f) p)
  | 0, _ => ou0_ok h
  | p + 1, hp => ouStep_ok (ouTo_ok h p (by omega)) hp

/-- An iteration. -/
def fiOk (f : FRunD) : Prop := FrOk f ∧ f.Done = false ∧ f.Iter < 1000
noncomputable def fiE (f : FRunD) : OuS := ouTo (ou0 f) f.Farm.Ends.length
noncomputable def fiO (f : FRunD) : FRunD := ⟨f.Job, f.Iter + 1, emptyL (fiE f).r.Next.Bits, (fiE f).r.Vals, (fiE f).r.Next, (fiE f).r.Farm⟩
noncomputable def fiR (f : FRunD) : FRunD := if pB (fiOk f) then fiO f else ⟨⟨0, 0⟩, 0, false, [], ⟨0, []⟩, ⟨0, [], []⟩⟩
noncomputable def fiS (f : FRunD) : Int × Int × Int := if pB (fiOk f) then ((fiE f).ld, (fiE f).rd, (fiE f).mo) else (0, 0, 0)
theorem fi_yes {f : FRunD} (h : fiOk f) : fiR f = fiO f ∧ fiS f = ((fiE f).ld, (fiE f).rd, (fiE f).mo) := by unfold fiR fiS; rw [pB_t h]; exact ⟨rfl, rfl⟩
theorem fi_no {f : FRunD} (h : ¬ fiOk f) : fiR f = ⟨⟨0, 0⟩, 0, false, [], ⟨0, []⟩, ⟨0, [], []⟩⟩ ∧ fiS f = (0, 0, 0) := by unfold fiR fiS; rw [pB_f h]; exact ⟨rfl, rfl⟩
/-- How large a run in a farm is. -/
structure FrSm (f : FRunD) : Prop where
  v : f.Vals.length ≤ 150
  x : f.Next.Bits.length ≤ 19
  e : f.Farm.Ends.length ≤ 150
  s : f.Farm.Shards.length ≤ 150
  c : edSum f.Farm.Shards ≤ 400
theorem frin_sm {f : FRunD} (h : FrIn f) : FrSm f := by
  have g := gf_ok h.fo
  have gl := g.l
  have ge := g.e
  have gn := g.n
  have := h.vl
  have := (setOk_len h.so).2.2.2
  exact ⟨by omega, this, by omega, gl, g.c⟩
theorem fiR_sm (f : FRunD) : FrSm (fiR f) := by
  by_cases h : fiOk f
  · rw [(fi_yes h).1]
    have := frin_sm (ouTo_ok (fr_in h.1) f.Farm.Ends.length (Nat.le_refl _)).fi
    exact ⟨this.v, this.x, this.e, this.s, this.c⟩
  · rw [(fi_no h).1]
    exact ⟨by simp, by simp, by simp, by simp, by simp [edSum]⟩
theorem sm_edges : ∀ {l : List ShardD} {s : ShardD}, s ∈ l → s.Edges.length ≤ edSum l
  | t :: l, s, h => by
    rcases List.mem_cons.1 h with rfl | h
    · simp [edSum]
    · have := sm_edges h
      simp only [edSum]; omega
theorem sm_L {f : FRunD} (h : FrSm f) : f.Vals.length ≤ 1048576 ∧ f.Next.Bits.length ≤ 1048576 ∧ f.Farm.Ends.length ≤ 1048576 ∧ f.Farm.Shards.length ≤ 1048576 ∧ ∀ s ∈ f.Farm.Shards, s.Edges.length ≤ 1048576 :=
  ⟨by have := h.v; omega, by have := h.x; omega, by have := h.e; omega, by have := h.s; omega, fun s hs => by have := sm_edges hs; have := h.c; omega⟩

end Go.Proofs.YtfnhchcgieeedaaGreat


namespace Go.Proofs.YtfnhchcgieeedaaGreat
set_option linter.unusedSimpArgs false
set_option linter.unusedVariables false
set_option linter.unusedSimpArgs false
set_option linter.unusedVariables false
set_option linter.defProp false
set_option maxRecDepth 20000
open Go.RowKit
attribute [local irreducible] lexD


set_option maxHeartbeats 16000000 in
theorem implFIter_k (f : FRunD) (hf : (f.Vals).length ≤ 1048576 ∧ (f.Next.Bits).length ≤ 1048576 ∧ (f.Farm.Ends).length ≤ 1048576 ∧ (f.Farm.Shards).length ≤ 1048576 ∧ (∀ s ∈ f.Farm.Shards, s.Edges.length ≤ 1048576)) : FnOK Tryz.prog 37 ⟨4, [(0, some (.ro ((f.Vals).map intK))), (1, some (.ro ((f.Next.Bits).map bytK))), (2, some (.ro ((f.Farm.Ends).map intK))), (3, some (.ro ((f.Farm.Shards).map (ShardD.k 101))))], [.agg [.v (.int .i64 f.Job.Prog), .v (.int .i64 f.Job.Src), .v (.int .i64 f.Iter), .v (.bool f.Done), .sl 0 1 0 (f.Vals).length, .v (.int .i64 f.Next.N), .sl 1 1 0 (f.Next.Bits).length, .v (.int .i64 f.Farm.N), .sl 2 1 0 (f.Farm.Ends).length, .sl 3 3 0 (f.Farm.Shards).length]],
    .tup [.inr [.v (.int .i64 (fiR f).Job.Prog), .v (.int .i64 (fiR f).Job.Src), .v (.int .i64 (fiR f).Iter), .v (.bool (fiR f).Done), .sl 4 1 0 ((fiR f).Vals).length, .v (.int .i64 (fiR f).Next.N), .sl 5 1 0 ((fiR f).Next.Bits).length, .v (.int .i64 (fiR f).Farm.N), .sl 6 1 0 ((fiR f).Farm.Ends).length, .sl 7 3 0 ((fiR f).Farm.Shards).length], .inr [.v (.int .i64 (fiS f).1), .v (.int .i64 (fiS f).2.1), .v (.int .i64 (fiS f).2.2)], .inl (.v (.bool (pB (fiOk f))))], [(4, some (.row 3 (((fiR f).Vals).map intK))), (5, some (.row 5 (((fiR f).Next.Bits).map bytK))), (6, some (.row 3 (((fiR f).Farm.Ends).map intK))), (7, some (.nst 97 (((fiR f).Farm.Shards).map (ShardD.k 101)) none))], 8⟩ := by
  have c1 := implFRunOk_k f hf
  by_cases ho : fiOk f
  case neg =>
    obtain ⟨e1, e2⟩ := fi_no ho
    rw [e1, e2, pB_f ho]
    dsimp only
    obtain ⟨b1, h1⟩ : ∃ b, b = pB (FrOk f) := ⟨_, rfl⟩
    have hno : b1 = true → f.Done = false → f.Iter < 1000 → False := fun q1 q2 q3 => ho ⟨pB_i (by rw [← h1]; exact q1), q2, q3⟩
    rw [← h1] at c1
    clear h1 e1 e2 ho
    obtain ⟨f0, f1, f2, f3, f4⟩ := hf
    refine fnOK_of true mixed Tryz.func37 rfl (by rfl) (by rfl) ?_
    have hres := congrArg Array.toList Tryz.results37
    simp only [Tryz.ntmps37, BGB, seval]
    (have gx := @List.length_map.{0,0}; have q1 := c1; refine go ?_; (repeat' first | exact Ef.mk | apply Lf.mk | refine fun (K : KT) hK hE hT => ?_ | refine fun (KS : KE) hKS => ?_ | refine fun (D : KD) hD => ?_ | refine fun (hg : (_ : Prop)) => ?_ | fail); all_goals (first | (refine Wr.mk ?_; (try clear gx q1); repeat first | clear hK hE hT K | clear hR hE hT K) | assumption | skip))
    all_goals first
      | (exfalso; exact hno (by assumption) (by assumption) (by omega))
      | (refine post_a hres (.inl rfl) ?_; simp only [RSB, ENB, seval, tiAll, true_and]; simp only [MAB, seval]; refine ⟨rfl, rfl, ?_, ?_, ?_⟩ <;> (first | rfl | (simp [WKB, Nat.add_comm, true_and]; done) | (simp only [WKB, seval])))
  case pos =>
    obtain ⟨e1, e2⟩ := fi_yes ho
    rw [e1, e2, pB_t ho]
    obtain ⟨p1, p2, p3⟩ := ho
    rw [pB_t p1] at c1
    have hin := fr_in p1
    have hn := (gf_ok hin.fo).n
    have hou := ouTo_ok hin
    have e0 : ouTo (ou0 f) 0 = ou0 f := rfl
    have es : ∀ p, ouTo (ou0 f) (p + 1) = ouStep (ouTo (ou0 f) p) p := fun _ => rfl
    have eo : fiO f = ⟨f.Job, f.Iter + 1, emptyL (fiE f).r.Next.Bits, (fiE f).r.Vals, (fiE f).r.Next, (fiE f).r.Farm⟩ := rfl
    have ee : fiE f = ouTo (ou0 f) f.Farm.Ends.length := rfl
    rw [eo, ee]
    dsimp only
    clear eo ee e1 e2
    have hel : f.Farm.Ends.length ≤ 150 := by have := (gf_ok hin.fo).l; have := (gf_ok hin.fo).e; omega
    have hit := hin.it
    obtain ⟨N, hN⟩ := Int.eq_ofNat_of_zero_le hn.1
    have ce := emptySet_k N (by omega)
    have hz1 : (ou0 f).r = ⟨f.Job, f.Iter, f.Done, f.Vals, ⟨f.Farm.N, fullTo N 0⟩, f.Farm⟩ := by unfold ou0; rw [hN, Int.toNat_natCast]
    have hz2 : (ou0 f).nw = f.Next.Bits ∧ (ou0 f).ld = 0 ∧ (ou0 f).rd = 0 ∧ (ou0 f).mo = 0 := ⟨rfl, rfl, rfl, rfl⟩
    have hfl := fullTo_len N 0
    have hfm := fullTo_map N
    have cc := copyFRun_k f hf
    have hsn := hin.sn
    obtain ⟨f0, f1, f2, f3, f4⟩ := hf
    obtain ⟨G, hG⟩ : ∃ G : Nat → OuS, G = ouTo (ou0 f) := ⟨_, rfl⟩
    simp only [← hG] at hou e0 es ⊢
    rw [← hN] at ce
    clear hG
    refine fnOK_of true mixed Tryz.func37 rfl (by rfl) (by rfl) ?_
    have hres := congrArg Array.toList Tryz.results37
    simp only [Tryz.ntmps37, BGB, seval]
    (have gx := And.intro @List.length_map.{0,0} @p2; have q1 := c1; have q2 := cc; have q3 := ce; refine go ?_; (repeat' first | exact Ef.mk | apply Lf.mk | refine fun (K : KT) hK hE hT => ?_ | refine fun (KS : KE) hKS => ?_ | refine fun (D : KD) hD => ?_ | refine fun (hg : (_ : Prop)) => ?_ | fail); all_goals (first | (refine Wr.mk ?_; (try clear gx q1 q2 q3); repeat first | clear hK hE hT K | clear hR hE hT K) | assumption | skip))
    all_goals first | (exfalso; omega) | skip
    refine loop_v (X := {k : Nat // k ≤ f.Farm.Ends.length}) [30, 40] (fun x => [(42, .c (.v (.int .i64 ((x.1 : Nat) : Int))))]) (fun x => [(0, some (.ro ((f.Vals).map intK))), (1, some (.ro ((f.Next.Bits).map bytK))), (2, some (.ro ((f.Farm.Ends).map intK))), (3, some (.ro ((f.Farm.Shards).map (ShardD.k 101)))), (4, some (.box 44 [.v (.int .i64 f.Job.Prog), .v (.int .i64 f.Job.Src), .v (.int .i64 f.Iter), .v (.bool f.Done), .sl 0 1 0 (f.Vals).length, .v (.int .i64 f.Next.N), .sl 1 1 0 (f.Next.Bits).length, .v (.int .i64 f.Farm.N), .sl 2 1 0 (f.Farm.Ends).length, .sl 3 3 0 (f.Farm.Shards).length])), (5, some (.box 44 [.v (.int .i64 0), .v (.int .i64 0), .v (.int .i64 0), .v (.bool false), .nil, .v (.int .i64 0), .nil, .v (.int .i64 0), .nil, .nil])), (6, some (.box 82 [.v (.int .i64 0), .v (.int .i64 0), .v (.int .i64 0)])), (11, some (.box 44 [.v (.int .i64 (G x.1).r.Job.Prog), .v (.int .i64 (G x.1).r.Job.Src), .v (.int .i64 (G x.1).r.Iter), .v (.bool (G x.1).r.Done), .sl 7 1 0 (G x.1).r.Vals.length, .v (.int .i64 (G x.1).r.Next.N), .sl 13 1 0 (G x.1).r.Next.Bits.length, .v (.int .i64 (G x.1).r.Farm.N), .sl 9 1 0 (G x.1).r.Farm.Ends.length, .sl 10 3 0 (G x.1).r.Farm.Shards.length])), (12, some (.box 32 [.v (.int .i64 f.Farm.N), .sl 8 1 0 (G x.1).nw.length])), (14, some (.box 82 [.v (.int .i64 (G x.1).ld), .v (.int .i64 (G x.1).rd), .v (.int .i64 (G x.1).mo)])), (7, some (.row 3 ((G x.1).r.Vals.map intK))), (8, some (.row 5 ((G x.1).nw.map bytK))), (9, some (.row 3 ((G x.1).r.Farm.Ends.map intK))), (10, some (.nst 97 ((G x.1).r.Farm.Shards.map (ShardD.k 101)) none)), (13, some (.row 5 ((G x.1).r.Next.Bits.map bytK)))]) 15 (fun x => f.Farm.Ends.length - x.1) ⟨0, by omega⟩ ?_
    simp only [KPB, seval]
    refine ⟨?_, ?_⟩
    · (refine wk_a ?_; simp only [MAB, seval]; refine ⟨rfl, rfl, (by decide), ?_, ?_⟩; all_goals (first | (simp only [WKB, seval, e0, hz1, hz2, hfl, hfm, hsn, p2]; done) | (simp [WKB, seval, e0, hz1, hz2, hfl, hfm, hsn, p2]; done) | simp only [WKB, seval]))
    · rintro ⟨k, hk⟩ K hR hE hT
      have ok := hou k hk
      have est := es k
      obtain ⟨s, hs⟩ : ∃ s, s = G k := ⟨_, rfl⟩
      rw [← hs] at ok est
      simp only [← hs]
      have okf := ok.fi
      obtain ⟨j1, j2, j3⟩ := ok.jo
      obtain ⟨fe1, fe2⟩ := ok.fe
      have nr := ok.nr
      have hsN : s.r.Next.N = f.Farm.N := by rw [okf.sn, fe2]
      have sfl := farm_L okf.fo
      have vl := okf.vl
      have so := (setOk_len okf.so).2.2
      have wl := (setOk_len ok.wo).2.2
      rcases Nat.lt_or_ge k f.Farm.Ends.length with hlt | hge
      case inr =>
        obtain rfl : k = f.Farm.Ends.length := by omega
        have ci := implisEmpty_k s.r.Next.N s.r.Next.Bits (by omega)
        (have gx := @List.length_map.{0,0}; have q1 := ci; refine go ?_; (repeat' first | exact Ef.mk | apply Lf.mk | refine fun (K : KT) hK hE hT => ?_ | refine fun (KS : KE) hKS => ?_ | refine fun (D : KD) hD => ?_ | refine fun (hg : (_ : Prop)) => ?_ | fail); all_goals (first | (refine Wr.mk ?_; (try clear gx q1); repeat first | clear hK hE hT K | clear hR hE hT K) | assumption | skip))
        (refine post_a hres (.inl rfl) ?_; simp only [RSB, ENB, seval, tiAll, ← hs, j1, j2]; simp only [MAB, seval]; refine ⟨rfl, rfl, ?_, ?_, ?_⟩ <;> (first | rfl | (simp [WKB, Nat.add_comm, ← hs, j1, j2]; done) | (simp only [WKB, seval])))
      case inl =>
        have hp2 : k < s.r.Farm.Ends.length := by rw [fe1]; exact hlt
        obtain ⟨l1, l2, l3⟩ := ou_lo ok hp2
        have hsi := sub_in okf.fo hp2
        have cs := implSpan_k s.r.Farm.Ends k sfl.1 hp2
        have cl := load_k s.r.Farm k _ _ sfl okf.fo hp2 rfl (lastE_succ hp2).symm
        rw [← lastE_succ hp2, l1, l2] at cs
        have ha : ouAny s k = anyIn s.nw (ouLo s.r.Farm k) (ouN s.r.Farm k) := rfl
        have hQ0 : ouIn s k 0 = (rOf s.r (ouSub s.r.Farm k).Locs, s.nw) := rfl
        have hQs : ∀ i, ouIn s k (i + 1) = inStep (ouG s k) (ouIn s k i) (ouLo s.r.Farm k + i) := fun _ => rfl
        have hQo := fun i (hi : i ≤ ouN s.r.Farm k) => ou_in ok hp2 hi
        have hQe := fun i (hi : i ≤ ouN s.r.Farm k) => ou_ev ok hp2 hi
        have hQj : ∀ i, (ouIn s k i).1.Job = s.r.Job ∧ (ouIn s k i).1.Iter = s.r.Iter ∧ (ouIn s k i).1.Done = s.r.Done ∧ _ := inTo_job (ouG s k) (rOf s.r (ouSub s.r.Farm k).Locs, s.nw) (ouLo s.r.Farm k)
        have hpu := ou_put ok hp2 (Nat.le_refl _)
        have hdo : ouDo s k = ⟨⟨s.r.Job, s.r.Iter, s.r.Done, (ouIn s k (ouN s.r.Farm k)).1.Vals, (ouIn s k (ouN s.r.Farm k)).1.Next, puR s.r.Farm (setEv (ouSub s.r.Farm k).Locs (ouIn s k (ouN s.r.Farm k)).1.EVals)⟩, (ouIn s k (ouN s.r.Farm k)).2, s.ld + 1, s.rd + (ouSub s.r.Farm k).Reads, max s.mo ((ouSub s.r.Farm k).Locs.length : Int)⟩ := rfl
        have hG0 : ouG s k = gOf s.r.Farm.N (ouSub s.r.Farm k).Locs := rfl
        have hBr := hsi.rd
        have hBl := hsi.ll
        have eB : subO s.r.Farm k (lastE s.r.Farm.Ends k) (lastE s.r.Farm.Ends (k + 1)) = ouSub s.r.Farm k := rfl
        rw [eB] at cl
        obtain ⟨lo, hlo⟩ : ∃ x, x = ouLo s.r.Farm k := ⟨_, rfl⟩
        obtain ⟨n, hnn⟩ : ∃ x, x = ouN s.r.Farm k := ⟨_, rfl⟩
        obtain ⟨B, hB⟩ : ∃ x, x = ouSub s.r.Farm k := ⟨_, rfl⟩
        obtain ⟨G0, hG0d⟩ : ∃ x, x = ouG s k := ⟨_, rfl⟩
        obtain ⟨Q, hQ⟩ : ∃ Q : Nat → RunD × List UInt8, Q = ouIn s k := ⟨_, rfl⟩
        obtain ⟨D, hD⟩ : ∃ x, x = ouDo s k := ⟨_, rfl⟩
        simp only [← hlo, ← hnn, ← hB, ← hG0d, ← hQ, ← hD] at l3 cs cl ha hQ0 hQs hQo hQe hQj hpu hdo hG0 hBr hBl
        clear hlo hnn hB hG0d hQ eB l1 l2 hsi
        have hmx : IntKind.i64.wrap (max s.mo (B.Locs.length : Int)) = max s.mo (B.Locs.length : Int) := IntWalk.i64_in _ (by omega)
        (have gx := @List.length_map.{0,0}; have q1 := cs; refine go ?_; (repeat' first | exact Ef.mk | apply Lf.mk | refine fun (K : KT) hK hE hT => ?_ | refine fun (KS : KE) hKS => ?_ | refine fun (D : KD) hD => ?_ | refine fun (hg : (_ : Prop)) => ?_ | fail); all_goals (first | (refine Wr.mk ?_; (try clear gx q1); repeat first | clear hK hE hT K | clear hR hE hT K) | assumption | skip))
        refine loop_v (X := {i : Nat // i ≤ n}) [] (fun x => [(11, .c (.v (.bool (anyIn s.nw lo x.1)))), (12, .c (.v (.int .i64 ((lo + x.1 : Nat) : Int))))]) (fun x => [(0, some (.ro ((f.Vals).map intK))), (1, some (.ro ((f.Next.Bits).map bytK))), (2, some (.ro ((f.Farm.Ends).map intK))), (3, some (.ro ((f.Farm.Shards).map (ShardD.k 101)))), (4, some (.box 44 [.v (.int .i64 f.Job.Prog), .v (.int .i64 f.Job.Src), .v (.int .i64 f.Iter), .v (.bool f.Done), .sl 0 1 0 (f.Vals).length, .v (.int .i64 f.Next.N), .sl 1 1 0 (f.Next.Bits).length, .v (.int .i64 f.Farm.N), .sl 2 1 0 (f.Farm.Ends).length, .sl 3 3 0 (f.Farm.Shards).length])), (5, some (.box 44 [.v (.int .i64 0), .v (.int .i64 0), .v (.int .i64 0), .v (.bool false), .nil, .v (.int .i64 0), .nil, .v (.int .i64 0), .nil, .nil])), (6, some (.box 82 [.v (.int .i64 0), .v (.int .i64 0), .v (.int .i64 0)])), (11, some (.box 44 [.v (.int .i64 s.r.Job.Prog), .v (.int .i64 s.r.Job.Src), .v (.int .i64 s.r.Iter), .v (.bool s.r.Done), .sl 7 1 0 s.r.Vals.length, .v (.int .i64 s.r.Next.N), .sl 13 1 0 s.r.Next.Bits.length, .v (.int .i64 s.r.Farm.N), .sl 9 1 0 s.r.Farm.Ends.length, .sl 10 3 0 s.r.Farm.Shards.length])), (12, some (.box 32 [.v (.int .i64 f.Farm.N), .sl 8 1 0 s.nw.length])), (14, some (.box 82 [.v (.int .i64 s.ld), .v (.int .i64 s.rd), .v (.int .i64 s.mo)])), (7, some (.row 3 (s.r.Vals.map intK))), (8, some (.row 5 (s.nw.map bytK))), (9, some (.row 3 (s.r.Farm.Ends.map intK))), (10, some (.nst 97 (s.r.Farm.Shards.map (ShardD.k 101)) none)), (13, some (.row 5 (s.r.Next.Bits.map bytK)))]) 15 (fun x => n - x.1) ⟨0, by omega⟩ ?_
        simp only [KPB, seval]
        refine ⟨?_, ?_⟩
        · (refine wk_a ?_; simp only [MAB, seval]; refine ⟨rfl, rfl, (by decide), ?_, ?_⟩; all_goals (first | (simp only [WKB, seval, anyIn_zero, Nat.add_zero]; done) | (simp [WKB, seval, anyIn_zero, Nat.add_zero]; done) | simp only [WKB, seval]))
        · rintro ⟨i, hi⟩ K hR2 hE hT
          rcases Nat.lt_or_ge i n with hil | hig
          case inl =>
            have ch := implhas_k f.Farm.N s.nw (lo + i) (by omega) (by omega)
            have es2 := anyIn_succ s.nw lo i
            obtain ⟨b, hb⟩ : ∃ b, b = bitAt s.nw (lo + i) := ⟨_, rfl⟩
            obtain ⟨a, ha2⟩ : ∃ a, a = anyIn s.nw lo i := ⟨_, rfl⟩
            rw [← hb] at ch es2
            rw [← ha2] at es2
            simp only [← ha2]
            have e1 : ((lo + i : Nat) : Int) + 1 = ((lo + (i + 1) : Nat) : Int) := by omega
            cases a with
            | true =>
              (have gx := And.intro @List.length_map.{0,0} @e1; have q1 := ch; refine go ?_; (repeat' first | exact Ef.mk | apply Lf.mk | refine fun (K : KT) hK hE hT => ?_ | refine fun (KS : KE) hKS => ?_ | refine fun (D : KD) hD => ?_ | refine fun (hg : (_ : Prop)) => ?_ | fail); all_goals (first | (refine Wr.mk ?_; (try clear gx q1); repeat first | clear hK hE hT K | clear hR hE hT K) | assumption | skip))
              refine hR2.out ⟨i + 1, by omega⟩ _ _ _ (by simp only; omega) ?_
              (refine wk_a ?_; simp only [MAB, seval]; refine ⟨rfl, rfl, (by decide), ?_, ?_⟩; all_goals (first | (simp only [WKB, seval, es2, Bool.true_or]; done) | (simp [WKB, seval, es2, Bool.true_or]; done) | simp only [WKB, seval]))
            | false =>
              (have gx := And.intro @List.length_map.{0,0} @e1; have q1 := ch; refine go ?_; (repeat' first | exact Ef.mk | apply Lf.mk | refine fun (K : KT) hK hE hT => ?_ | refine fun (KS : KE) hKS => ?_ | refine fun (D : KD) hD => ?_ | refine fun (hg : (_ : Prop)) => ?_ | fail); all_goals (first | (refine Wr.mk ?_; (try clear gx q1); repeat first | clear hK hE hT K | clear hR hE hT K) | assumption | skip))
              refine hR2.out ⟨i + 1, by omega⟩ _ _ _ (by simp only; omega) ?_
              (refine wk_a ?_; simp only [MAB, seval]; refine ⟨rfl, rfl, (by decide), ?_, ?_⟩; all_goals (first | (simp only [WKB, seval, es2, Bool.false_or]; done) | (simp [WKB, seval, es2, Bool.false_or]; done) | simp only [WKB, seval]))
          case inr =>
            obtain rfl : i = n := by omega
            cases hb : anyIn s.nw lo i with
            | false =>
              have e := est.trans (ouStep_no (ha.trans hb))
              (have gx := @List.length_map.{0,0}; refine go ?_; (repeat' first | exact Ef.mk | apply Lf.mk | refine fun (K : KT) hK hE hT => ?_ | refine fun (KS : KE) hKS => ?_ | refine fun (D : KD) hD => ?_ | refine fun (hg : (_ : Prop)) => ?_ | fail); all_goals (first | (refine Wr.mk ?_; (try clear gx); repeat first | clear hK hE hT K | clear hR hE hT K) | assumption | skip))
              refine hR.out ⟨k + 1, by omega⟩ _ _ _ (by simp only; omega) ?_
              (refine wk_a ?_; simp only [MAB, seval]; refine ⟨rfl, rfl, (by decide), ?_, ?_⟩; all_goals (first | (simp only [WKB, seval, e]; done) | (simp [WKB, seval, e]; done) | simp only [WKB, seval]))
            | true =>
              have e := est.trans (ouStep_yes (ha.trans hb))
              rw [← hD, hdo] at e
              have hse := setEv_same B.Locs
              have heo : (rOf s.r B.Locs).EVals = evOf B.Locs := rfl
              have hev : (rOf s.r B.Locs).Vals = s.r.Vals ∧ (rOf s.r B.Locs).Next = s.r.Next := ⟨rfl, rfl⟩
              (have gx := And.intro @List.length_map.{0,0} @hmx; have q1 := cl; refine go ?_; (repeat' first | exact Ef.mk | apply Lf.mk | refine fun (K : KT) hK hE hT => ?_ | refine fun (KS : KE) hKS => ?_ | refine fun (D : KD) hD => ?_ | refine fun (hg : (_ : Prop)) => ?_ | fail); all_goals (first | (refine Wr.mk ?_; (try clear gx q1); repeat first | clear hK hE hT K | clear hR hE hT K) | assumption | skip))
              refine loop_v (X := {v : Nat // v ≤ i}) [] (fun x => [(14, .c (.v (.int .i64 ((lo + x.1 : Nat) : Int))))]) (fun x => [(0, some (.ro ((f.Vals).map intK))), (1, some (.ro ((f.Next.Bits).map bytK))), (2, some (.ro ((f.Farm.Ends).map intK))), (3, some (.ro ((f.Farm.Shards).map (ShardD.k 101)))), (4, some (.box 44 [.v (.int .i64 f.Job.Prog), .v (.int .i64 f.Job.Src), .v (.int .i64 f.Iter), .v (.bool f.Done), .sl 0 1 0 (f.Vals).length, .v (.int .i64 f.Next.N), .sl 1 1 0 (f.Next.Bits).length, .v (.int .i64 f.Farm.N), .sl 2 1 0 (f.Farm.Ends).length, .sl 3 3 0 (f.Farm.Shards).length])), (5, some (.box 44 [.v (.int .i64 0), .v (.int .i64 0), .v (.int .i64 0), .v (.bool false), .nil, .v (.int .i64 0), .nil, .v (.int .i64 0), .nil, .nil])), (6, some (.box 82 [.v (.int .i64 0), .v (.int .i64 0), .v (.int .i64 0)])), (11, some (.box 44 [.v (.int .i64 s.r.Job.Prog), .v (.int .i64 s.r.Job.Src), .v (.int .i64 s.r.Iter), .v (.bool s.r.Done), .sl 7 1 0 (Q x.1).1.Vals.length, .v (.int .i64 f.Farm.N), .sl 13 1 0 (Q x.1).1.Next.Bits.length, .v (.int .i64 s.r.Farm.N), .sl 9 1 0 s.r.Farm.Ends.length, .sl 10 3 0 s.r.Farm.Shards.length])), (12, some (.box 32 [.v (.int .i64 f.Farm.N), .sl 8 1 0 (Q x.1).2.length])), (14, some (.box 82 [.v (.int .i64 (s.ld + 1)), .v (.int .i64 (s.rd + B.Reads)), .v (.int .i64 (max s.mo (B.Locs.length : Int)))])), (16, some (.box 116 [.v (.int .i64 B.P), .v (.int .i64 B.Lo), .v (.int .i64 B.Hi), .sl 15 7 0 B.Locs.length, .v (.int .i64 B.Reads)])), (7, some (.row 3 ((Q x.1).1.Vals.map intK))), (8, some (.row 5 ((Q x.1).2.map bytK))), (9, some (.row 3 (s.r.Farm.Ends.map intK))), (10, some (.nst 97 (s.r.Farm.Shards.map (ShardD.k 101)) none)), (13, some (.row 5 ((Q x.1).1.Next.Bits.map bytK))), (15, some (.row 133 ((setEv B.Locs (Q x.1).1.EVals).map LocD.k)))]) 17 (fun x => i - x.1) ⟨0, by omega⟩ ?_
              simp only [KPB, seval]
              refine ⟨?_, ?_⟩
              · (refine wk_a ?_; simp only [MAB, seval]; refine ⟨rfl, rfl, (by decide), ?_, ?_⟩; all_goals (first | (simp only [WKB, seval, hQ0, hse, heo, hev, Nat.add_zero, hsN]; done) | (simp [WKB, seval, hQ0, hse, heo, hev, Nat.add_zero, hsN]; done) | simp only [WKB, seval]))
              · rintro ⟨v, hv⟩ K hR3 hE hT
                have qo := hQo v hv
                have qe := hQe v hv
                have qs := hQs v
                obtain ⟨qj1, qj2, qj3, _⟩ := hQj v
                have qn : (Q v).1.Next.N = f.Farm.N := by rw [qo.sn, hG0]; exact fe2
                have gN : G0.N = f.Farm.N := by rw [hG0]; exact fe2
                have qvl := qo.ix.vl
                have qsl := (setOk_len qo.so).2.2
                have qwl := (setOk_len qo.wo).2.2
                rw [gN] at qvl qsl qwl
                rcases Nat.lt_or_ge v i with hvl | hvg
                case inr =>
                  obtain rfl : v = i := by omega
                  have kp := implPut_k s.r.Farm B.P B.Lo B.Hi B.Reads (setEv B.Locs (Q v).1.EVals) sfl (by rw [setEv_len qe]; omega)
                  rw [(pu_yes hpu).2, setEv_len qe] at kp
                  obtain ⟨X, hX⟩ : ∃ X, X = puR s.r.Farm (setEv B.Locs (Q v).1.EVals) := ⟨_, rfl⟩
                  rw [← hX] at kp e
                  have hsl := setEv_len qe
                  (have gx := And.intro @List.length_map.{0,0} @hsl; have q1 := kp; refine go ?_; (repeat' first | exact Ef.mk | apply Lf.mk | refine fun (K : KT) hK hE hT => ?_ | refine fun (KS : KE) hKS => ?_ | refine fun (D : KD) hD => ?_ | refine fun (hg : (_ : Prop)) => ?_ | fail); all_goals (first | (refine Wr.mk ?_; (try clear gx q1); repeat first | clear hK hE hT K | clear hR hE hT K) | assumption | skip))
                  refine hR.out ⟨k + 1, by omega⟩ _ _ _ (by simp only; omega) ?_
                  (refine wk_a ?_; simp only [MAB, seval]; refine ⟨rfl, rfl, (by decide), ?_, ?_⟩; all_goals (first | (simp only [WKB, seval, e, qn]; done) | (simp [WKB, seval, e, qn]; done) | simp only [WKB, seval]))
                case inl =>
                  obtain ⟨⟨y, w⟩, hy⟩ : ∃ y, y = Q v := ⟨_, rfl⟩
                  rw [← hy] at qo qe qs qj1 qj2 qj3 qn qvl qsl qwl
                  simp only [← hy]
                  dsimp only at qo qe qs qj1 qj2 qj3 qn qvl qsl qwl
                  have e1 : ((lo + v : Nat) : Int) + 1 = ((lo + (v + 1) : Nat) : Int) := by omega
                  have ch := implhas_k f.Farm.N w (lo + v) (by omega) (by omega)
                  obtain ⟨b, hbb⟩ : ∃ b, b = bitAt w (lo + v) := ⟨_, rfl⟩
                  rw [← hbb] at ch
                  cases b with
                  | false =>
                    have e2 : Q (v + 1) = (y, w) := by rw [qs]; unfold inStep; rw [if_neg (by dsimp only; rw [← hbb]; simp)]
                    (have gx := And.intro @List.length_map.{0,0} @e1; have q1 := ch; refine go ?_; (repeat' first | exact Ef.mk | apply Lf.mk | refine fun (K : KT) hK hE hT => ?_ | refine fun (KS : KE) hKS => ?_ | refine fun (D : KD) hD => ?_ | refine fun (hg : (_ : Prop)) => ?_ | fail); all_goals (first | (refine Wr.mk ?_; (try clear gx q1); repeat first | clear hK hE hT K | clear hR hE hT K) | assumption | skip))
                    refine hR3.out ⟨v + 1, by omega⟩ _ _ _ (by simp only; omega) ?_
                    (refine wk_a ?_; simp only [MAB, seval]; refine ⟨rfl, rfl, (by decide), ?_, ?_⟩; all_goals (first | (simp only [WKB, seval, e2]; done) | (simp [WKB, seval, e2]; done) | simp only [WKB, seval]))
                  | true =>
                    have e2 : Q (v + 1) = (runV G0 y w (lo + v), nowV G0 y w (lo + v)) := by rw [qs]; unfold inStep; rw [if_pos (by dsimp only; rw [← hbb])]
                    have ll := setEv_len qe
                    have hyd : y = rOf ⟨s.r.Job, s.r.Iter, s.r.Done, y.Vals, y.Next, s.r.Farm⟩ (setEv B.Locs y.EVals) := by
                      unfold rOf
                      rw [setEv_ev qe, ← qj1, ← qj2, ← qj3]
                    have hgd : G0 = gOf s.r.Farm.N (setEv B.Locs y.EVals) := by
                      rw [hG0]; unfold gOf; rw [setEv_ed qe]
                    have cu := fupd_k ⟨s.r.Job, s.r.Iter, s.r.Done, y.Vals, y.Next, s.r.Farm⟩ ⟨B.P, B.Lo, B.Hi, setEv B.Locs y.EVals, B.Reads⟩ w (lo + v) G0 y hgd hyd qo.ix qo.so qo.wo (by rw [qn, fe2]) (by rw [gN]; omega)
                    obtain ⟨x1, x2, x3⟩ := ix_lens (nw := w) qo.ix qo.so qo.wo (v := lo + v) (by rw [gN]; omega) (viewsI G0 ((lo + v : Nat) : Int)).length
                    have ex : vxEnd G0 y w (lo + v) = vxTo G0 ((lo + v : Nat) : Int) (viewsI G0 ((lo + v : Nat) : Int)) (vxVals G0 y (lo + v)) ⟨y.EVals, y.Next.Bits, w⟩ (viewsI G0 ((lo + v : Nat) : Int)).length := rfl
                    rw [← ex] at x1 x2 x3
                    have er : runV G0 y w (lo + v) = ⟨y.Job, y.Iter, y.Done, y.Vals.set (lo + v) (vxVal G0 y (lo + v)), (vxEnd G0 y w (lo + v)).ev, ⟨y.Next.N, (vxEnd G0 y w (lo + v)).nx⟩⟩ := rfl
                    have en : nowV G0 y w (lo + v) = (vxEnd G0 y w (lo + v)).nw := rfl
                    rw [er, en] at e2
                    obtain ⟨E, hEd⟩ : ∃ E, E = vxEnd G0 y w (lo + v) := ⟨_, rfl⟩
                    obtain ⟨nv, hnv⟩ : ∃ n, n = vxVal G0 y (lo + v) := ⟨_, rfl⟩
                    simp only [← hEd, ← hnv] at cu x1 x2 x3 e2
                    have et := setEv_twice qe (x1.trans qe)
                    rw [et, ll, qn, fe2] at cu
                    clear hyd hgd ex er en hEd hnv
                    (have gx := And.intro (@List.length_map.{0,0}) (And.intro @e1 @fe2); have q1 := ch; have q2 := cu; refine go ?_; (repeat' first | exact Ef.mk | apply Lf.mk | refine fun (K : KT) hK hE hT => ?_ | refine fun (KS : KE) hKS => ?_ | refine fun (D : KD) hD => ?_ | refine fun (hg : (_ : Prop)) => ?_ | fail); all_goals (first | (refine Wr.mk ?_; (try clear gx q1 q2); repeat first | clear hK hE hT K | clear hR hE hT K) | assumption | skip))
                    refine hR3.out ⟨v + 1, by omega⟩ _ _ _ (by simp only; omega) ?_
                    (refine wk_a ?_; simp only [MAB, seval]; refine ⟨rfl, rfl, (by decide), ?_, ?_⟩; all_goals (first | (simp only [WKB, seval, e2, List.length_set, x2, x3, fe2]; done) | (simp [WKB, seval, e2, List.length_set, x2, x3, fe2]; done) | simp only [WKB, seval]))

end Go.Proofs.YtfnhchcgieeedaaGreat


namespace Go.Proofs.YtfnhchcgieeedaaGreat
set_option linter.unusedSimpArgs false
set_option linter.unusedVariables false
set_option linter.unusedSimpArgs false
set_option linter.unusedVariables false
set_option linter.defProp false
set_option maxRecDepth 20000
open Go.RowKit
attribute [local irreducible] lexD

end Go.Proofs.YtfnhchcgieeedaaGreat


namespace Go.Proofs.YtfnhchcgieeedaaGreat
set_option linter.unusedSimpArgs false
set_option linter.unusedVariables false
set_option linter.unusedSimpArgs false
set_option linter.unusedVariables false
set_option linter.defProp false
set_option maxRecDepth 20000
open Go.RowKit
attribute [local irreducible] lexD

noncomputable def faTo (f : FRunD) : Nat → FRunD
  | 0 => f
  | k + 1 => if pB (fiOk (faTo f k)) then fiR (faTo f k) else faTo f k
theorem faTo_yes {f : FRunD} {k : Nat} (h : fiOk (faTo f k)) : faTo f (k + 1) = fiR (faTo f k) := by rw [faTo, pB_t h]; rfl
theorem faTo_no {f : FRunD} {k : Nat} (h : ¬ fiOk (faTo f k)) : faTo f (k + 1) = faTo f k := by rw [faTo, pB_f h]; rfl
theorem faTo_stop {f : FRunD} {k : Nat} (h : ¬ fiOk (faTo f k)) : ∀ m, k ≤ m → faTo f m = faTo f k
  | 0, hm => by rw [show k = 0 by omega]
  | m + 1, hm => by
    rcases Nat.lt_or_ge k (m + 1) with q | q
    · have ih := faTo_stop h m (by omega)
      rw [faTo_no (by rw [ih]; exact h), ih]
    · rw [show k = m + 1 by omega]
noncomputable def faR (f : FRunD) (most : Int) : FRunD := if pB (FrOk f) then faTo f most.toNat else ⟨⟨0, 0⟩, 0, false, [], ⟨0, []⟩, ⟨0, [], []⟩⟩
theorem fa_yes {f : FRunD} {most : Int} (h : FrOk f) : faR f most = faTo f most.toNat := by unfold faR; rw [pB_t h]; rfl
theorem fa_no {f : FRunD} {most : Int} (h : ¬ FrOk f) : faR f most = ⟨⟨0, 0⟩, 0, false, [], ⟨0, []⟩, ⟨0, [], []⟩⟩ := by unfold faR; rw [pB_f h]; rfl
theorem faTo_sm {f : FRunD} (h : FrOk f) : ∀ k, FrSm (faTo f k)
  | 0 => frin_sm (fr_in h)
  | k + 1 => by
    by_cases q : fiOk (faTo f k)
    · rw [faTo_yes q]; exact fiR_sm _
    · rw [faTo_no q]; exact faTo_sm h k
set_option maxHeartbeats 8000000 in
theorem implFAll_k (f : FRunD) (most : Int) (hf : (f.Vals).length ≤ 1048576 ∧ (f.Next.Bits).length ≤ 1048576 ∧ (f.Farm.Ends).length ≤ 1048576 ∧ (f.Farm.Shards).length ≤ 1048576 ∧ (∀ s ∈ f.Farm.Shards, s.Edges.length ≤ 1048576)) (hm : most ≤ 9223372036854775807) : FnOK Tryz.prog 12 ⟨4, [(0, some (.ro ((f.Vals).map intK))), (1, some (.ro ((f.Next.Bits).map bytK))), (2, some (.ro ((f.Farm.Ends).map intK))), (3, some (.ro ((f.Farm.Shards).map (ShardD.k 101))))], [.agg [.v (.int .i64 f.Job.Prog), .v (.int .i64 f.Job.Src), .v (.int .i64 f.Iter), .v (.bool f.Done), .sl 0 1 0 (f.Vals).length, .v (.int .i64 f.Next.N), .sl 1 1 0 (f.Next.Bits).length, .v (.int .i64 f.Farm.N), .sl 2 1 0 (f.Farm.Ends).length, .sl 3 3 0 (f.Farm.Shards).length], .c (.v (.int .i64 most))], .agg [.v (.int .i64 (faR f most).Job.Prog), .v (.int .i64 (faR f most).Job.Src), .v (.int .i64 (faR f most).Iter), .v (.bool (faR f most).Done), .sl 4 1 0 ((faR f most).Vals).length, .v (.int .i64 (faR f most).Next.N), .sl 5 1 0 ((faR f most).Next.Bits).length, .v (.int .i64 (faR f most).Farm.N), .sl 6 1 0 ((faR f most).Farm.Ends).length, .sl 7 3 0 ((faR f most).Farm.Shards).length], [(4, some (.row 3 (((faR f most).Vals).map intK))), (5, some (.row 5 (((faR f most).Next.Bits).map bytK))), (6, some (.row 3 (((faR f most).Farm.Ends).map intK))), (7, some (.nst 97 (((faR f most).Farm.Shards).map (ShardD.k 101)) none))], 8⟩ := by
  have c1 := implFRunOk_k f hf
  by_cases ho : FrOk f
  case neg =>
    rw [fa_no ho]
    rw [pB_f ho] at c1
    obtain ⟨f0, f1, f2, f3, f4⟩ := hf
    refine fnOK_of true mixed Tryz.func12 rfl (by rfl) (by rfl) ?_
    have hres := congrArg Array.toList Tryz.results12
    simp only [Tryz.ntmps12, BGB, seval]
    (have gx := @List.length_map.{0,0}; have q1 := c1; refine go ?_; (repeat' first | exact Ef.mk | apply Lf.mk | refine fun (K : KT) hK hE hT => ?_ | refine fun (KS : KE) hKS => ?_ | refine fun (D : KD) hD => ?_ | refine fun (hg : (_ : Prop)) => ?_ | fail); all_goals (first | (refine Wr.mk ?_; (try clear gx q1); repeat first | clear hK hE hT K | clear hR hE hT K) | assumption | skip))
    all_goals (refine post_a hres (.inl rfl) ?_; simp only [RSB, ENB, seval, tiAll, true_and]; simp only [MAB, seval]; refine ⟨rfl, rfl, ?_, ?_, ?_⟩ <;> (first | rfl | (simp [WKB, Nat.add_comm, true_and]; done) | (simp only [WKB, seval])))
  case pos =>
    rw [fa_yes ho]
    rw [pB_t ho] at c1
    have cc := copyFRun_k f hf
    have hsm := faTo_sm ho
    have hst := fun k h m => faTo_stop (f := f) (k := k) h m
    have hye := fun k h => faTo_yes (f := f) (k := k) h
    have h0 : faTo f 0 = f := rfl
    obtain ⟨f0, f1, f2, f3, f4⟩ := hf
    obtain ⟨m, hmd⟩ : ∃ m, m = most.toNat := ⟨_, rfl⟩
    rw [← hmd]
    obtain ⟨G, hG⟩ : ∃ G : Nat → FRunD, G = faTo f := ⟨_, rfl⟩
    simp only [← hG] at hsm hst hye h0 ⊢
    clear hG
    have hmx : IntKind.i64.wrap (max most 0) = (m : Int) := by
      rw [IntWalk.i64_in _ (by omega)]; omega
    have hmy : max most 0 = (m : Int) := by omega
    refine fnOK_of true mixed Tryz.func12 rfl (by rfl) (by rfl) ?_
    have hres := congrArg Array.toList Tryz.results12
    simp only [Tryz.ntmps12, BGB, seval]
    (have gx := And.intro (@List.length_map.{0,0}) (And.intro @hmx @hmy); have q1 := c1; have q2 := cc; refine go ?_; (repeat' first | exact Ef.mk | apply Lf.mk | refine fun (K : KT) hK hE hT => ?_ | refine fun (KS : KE) hKS => ?_ | refine fun (D : KD) hD => ?_ | refine fun (hg : (_ : Prop)) => ?_ | fail); all_goals (first | (refine Wr.mk ?_; (try clear gx q1 q2); repeat first | clear hK hE hT K | clear hR hE hT K) | assumption | skip))
    refine loop_v (X := {k : Nat // k ≤ m}) [14] (fun x => [(17, .c (.v (.int .i64 ((x.1 : Nat) : Int))))]) (fun x => [(0, some (.ro ((f.Vals).map intK))), (1, some (.ro ((f.Next.Bits).map bytK))), (2, some (.ro ((f.Farm.Ends).map intK))), (3, some (.ro ((f.Farm.Shards).map (ShardD.k 101)))), (4, some (.box 44 [.v (.int .i64 f.Job.Prog), .v (.int .i64 f.Job.Src), .v (.int .i64 f.Iter), .v (.bool f.Done), .sl 0 1 0 (f.Vals).length, .v (.int .i64 f.Next.N), .sl 1 1 0 (f.Next.Bits).length, .v (.int .i64 f.Farm.N), .sl 2 1 0 (f.Farm.Ends).length, .sl 3 3 0 (f.Farm.Shards).length])), (5, some (.box 44 [.v (.int .i64 0), .v (.int .i64 0), .v (.int .i64 0), .v (.bool false), .nil, .v (.int .i64 0), .nil, .v (.int .i64 0), .nil, .nil])), (10, some (.box 44 [.v (.int .i64 (G x.1).Job.Prog), .v (.int .i64 (G x.1).Job.Src), .v (.int .i64 (G x.1).Iter), .v (.bool (G x.1).Done), .sl 6 1 0 ((G x.1).Vals).length, .v (.int .i64 (G x.1).Next.N), .sl 7 1 0 ((G x.1).Next.Bits).length, .v (.int .i64 (G x.1).Farm.N), .sl 8 1 0 ((G x.1).Farm.Ends).length, .sl 9 3 0 ((G x.1).Farm.Shards).length])), (6, some (.row 3 (((G x.1).Vals).map intK))), (7, some (.row 5 (((G x.1).Next.Bits).map bytK))), (8, some (.row 3 (((G x.1).Farm.Ends).map intK))), (9, some (.nst 97 (((G x.1).Farm.Shards).map (ShardD.k 101)) none))]) 11 (fun x => m - x.1) ⟨0, by omega⟩ ?_
    simp only [KPB, seval]
    refine ⟨?_, ?_⟩
    · (refine wk_a ?_; simp only [MAB, seval]; refine ⟨rfl, rfl, (by decide), ?_, ?_⟩; all_goals (first | (simp only [WKB, seval, h0]; done) | (simp [WKB, seval, h0]; done) | simp only [WKB, seval]))
    · rintro ⟨k, hk⟩ K hR hE hT
      have sm := hsm k
      have st := hst k
      have ye := hye k
      obtain ⟨y, hy⟩ : ∃ y, y = G k := ⟨_, rfl⟩
      rw [← hy] at sm st ye
      simp only [← hy]
      obtain ⟨z0, z1, z2, z3, z4⟩ := sm_L sm
      rcases Nat.lt_or_ge k m with hlt | hge
      case inr =>
        obtain rfl : k = m := by omega
        (have gx := @List.length_map.{0,0}; refine go ?_; (repeat' first | exact Ef.mk | apply Lf.mk | refine fun (K : KT) hK hE hT => ?_ | refine fun (KS : KE) hKS => ?_ | refine fun (D : KD) hD => ?_ | refine fun (hg : (_ : Prop)) => ?_ | fail); all_goals (first | (refine Wr.mk ?_; (try clear gx); repeat first | clear hK hE hT K | clear hR hE hT K) | assumption | skip))
        all_goals first | (exfalso; omega) | (refine post_a hres (.inl rfl) ?_; simp only [RSB, ENB, seval, tiAll, ← hy]; simp only [MAB, seval]; refine ⟨rfl, rfl, ?_, ?_, ?_⟩ <;> (first | rfl | (simp [WKB, Nat.add_comm, ← hy]; done) | (simp only [WKB, seval])))
      case inl =>
        have ci := implFIter_k y ⟨z0, z1, z2, z3, z4⟩
        by_cases hq : fiOk y
        case pos =>
          rw [pB_t hq] at ci
          have e := ye hq
          obtain ⟨n1, hn1⟩ : ∃ n, n = fiR y := ⟨_, rfl⟩
          obtain ⟨n2, hn2⟩ : ∃ n, n = fiS y := ⟨_, rfl⟩
          rw [← hn1] at ci e
          rw [← hn2] at ci
          (have gx := @List.length_map.{0,0}; have q1 := ci; refine go ?_; (repeat' first | exact Ef.mk | apply Lf.mk | refine fun (K : KT) hK hE hT => ?_ | refine fun (KS : KE) hKS => ?_ | refine fun (D : KD) hD => ?_ | refine fun (hg : (_ : Prop)) => ?_ | fail); all_goals (first | (refine Wr.mk ?_; (try clear gx q1); repeat first | clear hK hE hT K | clear hR hE hT K) | assumption | skip))
          all_goals first | (exfalso; omega) | skip
          all_goals (refine hR.out ⟨k + 1, by omega⟩ _ _ _ (by simp only; omega) ?_; (refine wk_a ?_; simp only [MAB, seval]; refine ⟨rfl, rfl, (by decide), ?_, ?_⟩; all_goals (first | (simp only [WKB, seval, e]; done) | (simp [WKB, seval, e]; done) | simp only [WKB, seval])))
        case neg =>
          rw [pB_f hq] at ci
          obtain ⟨w1, w2⟩ := fi_no hq
          rw [w1, w2] at ci
          have e := st hq m (by omega)
          (have gx := @List.length_map.{0,0}; have q1 := ci; refine go ?_; (repeat' first | exact Ef.mk | apply Lf.mk | refine fun (K : KT) hK hE hT => ?_ | refine fun (KS : KE) hKS => ?_ | refine fun (D : KD) hD => ?_ | refine fun (hg : (_ : Prop)) => ?_ | fail); all_goals (first | (refine Wr.mk ?_; (try clear gx q1); repeat first | clear hK hE hT K | clear hR hE hT K) | assumption | skip))
          all_goals first | (exfalso; omega) | (refine post_a hres (.inl rfl) ?_; simp only [RSB, ENB, seval, tiAll, e]; simp only [MAB, seval]; refine ⟨rfl, rfl, ?_, ?_, ?_⟩ <;> (first | rfl | (simp [WKB, Nat.add_comm, e]; done) | (simp only [WKB, seval])))

end Go.Proofs.YtfnhchcgieeedaaGreat

