/-
  Contracts: an iteration of a run. No conditions of its own.
-/
import Derived.Test.YtageceacjmmmdaaW7
namespace Go.Proofs.Ytageceacjmmmdaa
set_option linter.unusedSimpArgs false
set_option linter.unusedVariables false
set_option linter.unusedSimpArgs false
set_option linter.unusedVariables false
set_option linter.defProp false
open Go.RowKit

def itStep (g : GraphD) (p : RunD × List UInt8) (v : Nat) : RunD × List UInt8 := if bitAt p.2 v = true then (runV g p.1 p.2 v, nowV g p.1 p.2 v) else p
def itTo (g : GraphD) (p : RunD × List UInt8) : Nat → RunD × List UInt8
  | 0 => p
  | k + 1 => itStep g (itTo g p k) k
def it0 (g : GraphD) (r : RunD) : RunD × List UInt8 := (⟨r.Job, r.Iter, r.Done, r.Vals, r.EVals, ⟨g.N, fullTo g.N.toNat 0⟩⟩, r.Next.Bits)
def itEnd (g : GraphD) (r : RunD) : RunD := (itTo g (it0 g r) g.N.toNat).1
def riOk (g : GraphD) (r : RunD) : Bool := runOk g r && !r.Done && decide (r.Iter < 1000)
def riR (g : GraphD) (r : RunD) : RunD := if riOk g r then ⟨(itEnd g r).Job, (itEnd g r).Iter + 1, emptyL (itEnd g r).Next.Bits, (itEnd g r).Vals, (itEnd g r).EVals, (itEnd g r).Next⟩ else zeroRun

theorem itTo_yes {g : GraphD} {p : RunD × List UInt8} {k : Nat} (h : bitAt (itTo g p k).2 k = true) : itTo g p (k + 1) = (runV g (itTo g p k).1 (itTo g p k).2 k, nowV g (itTo g p k).1 (itTo g p k).2 k) := if_pos h
theorem itTo_no {g : GraphD} {p : RunD × List UInt8} {k : Nat} (h : bitAt (itTo g p k).2 k = false) : itTo g p (k + 1) = itTo g p k := if_neg (by simp [h])

theorem it0_in {g : GraphD} {r : RunD} (h : RunIn g r) : RunIn g (it0 g r).1 ∧ setOk g.N (it0 g r).2 = true := by
  obtain ⟨⟨g1, g2, _⟩, _⟩ := graphOk_out h.go
  obtain ⟨m, hm⟩ := Int.eq_ofNat_of_zero_le g1
  have hf : setOk g.N (fullTo g.N.toNat 0) = true := by
    rw [hm, Int.toNat_natCast]
    exact fullTo_ok m 0 (by omega) (by omega)
  exact ⟨⟨h.go, h.jo, h.vl, h.el, h.vo, h.eo, hf, rfl⟩, h.so⟩

theorem itTo_in {g : GraphD} {p : RunD × List UInt8} (h : RunIn g p.1 ∧ setOk g.N p.2 = true) : ∀ k : Nat, (k : Int) ≤ g.N → RunIn g (itTo g p k).1 ∧ setOk g.N (itTo g p k).2 = true
  | 0, _ => h
  | k + 1, hk => by
    have ih := itTo_in h k (by omega)
    cases hb : bitAt (itTo g p k).2 k with
    | true => rw [itTo_yes hb]; exact runV_in ih.1 ih.2 (by omega)
    | false => rw [itTo_no hb]; exact ih

theorem itTo_iter (g : GraphD) (p : RunD × List UInt8) : ∀ k, (itTo g p k).1.Iter = p.1.Iter
  | 0 => rfl
  | k + 1 => by
    have ih := itTo_iter g p k
    cases hb : bitAt (itTo g p k).2 k with
    | true => rw [itTo_yes hb]; exact ih
    | false => rw [itTo_no hb]; exact ih

theorem riOk_out {g : GraphD} {r : RunD} (h : riOk g r = true) : runOk g r = true ∧ r.Done = false ∧ r.Iter < 1000 := by
  unfold riOk at h
  simp only [Bool.and_eq_true, Bool.not_eq_true', decide_eq_true_eq] at h
  exact ⟨h.1.1, h.1.2, h.2⟩

theorem ri_small (g : GraphD) (r : RunD) : (riR g r).Vals.length ≤ r.Vals.length ∧ (riR g r).EVals.length ≤ r.EVals.length ∧ (riR g r).Next.Bits.length ≤ r.Next.Bits.length := by
  unfold riR
  cases ho : riOk g r with
  | false => simp [zeroRun]
  | true =>
    obtain ⟨h1, _, _⟩ := riOk_out ho
    obtain ⟨hin, _, _⟩ := runOk_in h1
    obtain ⟨⟨g1, g2, _⟩, _⟩ := graphOk_out hin.go
    have hx := itTo_in (it0_in hin) g.N.toNat (by omega)
    have a1 := hx.1.vl
    have a2 := hin.vl
    have a3 := hx.1.el
    have a4 := hin.el
    have a5 := setOk_same hx.1.so hin.so
    simp only [if_true, itEnd]
    omega


set_option maxHeartbeats 16000000 in
theorem implRunIter_k (g : GraphD) (r : RunD) (bg : (g.Edges).length ≤ 1048576) (br : (r.Vals).length ≤ 1048576 ∧ (r.EVals).length ≤ 1048576 ∧ (r.Next.Bits).length ≤ 1048576) : FnOK Try.prog 43 ⟨4, [(0, some (.ro ((g.Edges).map EdgeD.k))), (1, some (.ro ((r.Vals).map intK))), (2, some (.ro ((r.EVals).map intK))), (3, some (.ro ((r.Next.Bits).map bytK)))], [.agg [.v (.int .i64 g.N), .sl 0 3 0 (g.Edges).length], .agg [.v (.int .i64 r.Job.Prog), .v (.int .i64 r.Job.Src), .v (.int .i64 r.Iter), .v (.bool r.Done), .sl 1 1 0 (r.Vals).length, .sl 2 1 0 (r.EVals).length, .v (.int .i64 r.Next.N), .sl 3 1 0 (r.Next.Bits).length]],
    .tup [.inr [.v (.int .i64 (riR g r).Job.Prog), .v (.int .i64 (riR g r).Job.Src), .v (.int .i64 (riR g r).Iter), .v (.bool (riR g r).Done), .sl 4 1 0 ((riR g r).Vals).length, .sl 5 1 0 ((riR g r).EVals).length, .v (.int .i64 (riR g r).Next.N), .sl 6 1 0 ((riR g r).Next.Bits).length], .inl (.v (.bool (riOk g r)))], [(4, some (.row 3 (((riR g r).Vals).map intK))), (5, some (.row 3 (((riR g r).EVals).map intK))), (6, some (.row 5 (((riR g r).Next.Bits).map bytK)))], 7⟩ := by
  have c1 := implRunOk_k g r bg br
  cases ho : riOk g r with
  | false =>
    have e1 : riR g r = zeroRun := by unfold riR; rw [ho]; rfl
    rw [e1]
    dsimp only [zeroRun]
    have hi : runOk g r = true → r.Iter ≤ 1000 := fun q => (runOk_in q).2.1.2
    obtain ⟨b1, h1⟩ : ∃ b, b = runOk g r := ⟨_, rfl⟩
    rw [← h1] at c1 hi
    have hno : b1 = true → r.Done = false → r.Iter < 1000 → False := fun q1 q2 q3 => by
      unfold riOk at ho
      rw [← h1, q1, q2, decide_eq_true q3] at ho
      simp at ho
    clear h1 e1 ho
    refine fnOK_of true mixed Try.func43 rfl (by rfl) (by rfl) ?_
    have hres := congrArg Array.toList Try.results43
    simp only [Try.ntmps43, BGB, seval]
    repeat' (first | (with_reducible first | refine seq_k fun K hK hE hT => ?_ | refine block_k fun K hK hE hT => ?_ | refine region_k ?_ | refine lex_nil ?_ | fail) | ((with_reducible refine draw_k ?_ ?_); focus (first | rfl | kernel_rfl)) | ((with_reducible first | refine lex_move ?_ | refine lex_assign ?_); simp only [EVB, seval]) | (with_reducible first | refine lex_cons fun KS hKS => ?_ | refine lexd_cons fun KS hKS => ?_ | refine skip_k ?_ | refine exit_k ?_ | refine ret_k ?_ | fail) | ((with_reducible refine call_go ?_); (first | ((first | refine call_a (c1) rfl rfl ?_ | fail); simp only [ENB, seval, tiAll, List.length_map]; simp only [MAB, seval]; refine ⟨rfl, ?_, ?_, ?_, rfl, ?_, ?_, ?_, ?_⟩; (iterate 6 (focus (first | rfl | (simp [CXB, map_take, List.length_map]; done) | (simp [CXB, List.length_map]; omega) | (dsimp only; omega)))); simp only [EFB, seval]) | fail)) | ((with_reducible refine step_go ?_); (fail_if_success with_reducible refine call_go ?_); simp only [ENB, seval, tiAll, List.length_map]) | ((with_reducible refine lexd_nil ?_ ?_); focus (first | kernel_rfl | with_unfolding_all rfl)) | ((with_reducible refine guard_go ?_); refine lex_gone rfl rfl ?_; simp only [EVB, seval]) | ((first | ((with_reducible refine guard_go ?_); refine lex_guard rfl rfl (fun hg KS hKS => ?_) (fun hg => ?_)) | ((with_reducible refine guardd_go ?_); refine lexd_guard rfl rfl (fun hg KS hKS => ?_) (fun hg => ?_)) | ((with_reducible refine cond_go ?_); refine cond_k rfl (fun hg => ?_) (fun hg => ?_)) | (with_reducible refine And.intro (fun hg => ?_) (fun hg => ?_)) | fail) <;> first | (exact absurd hg (by decide)) | ((try simp only [CNL] at hg) <;> first | (exfalso; omega) | (exact (tf (by assumption) hg).elim) | (exact (tf hg (by assumption)).elim) | ((try with_reducible (have hT0 : True := hg; clear hT0 hg)); first | (with_reducible refine wpc_go ?_) | (try simp only [EVB, seval])))) | ((with_reducible refine hKS _ _ _ _ ?_); clear hKS; clear KS; simp only [EVB, seval]) | ((with_reducible refine And.intro ?_ ?_); focus (first | omega | exact u8_le _ | exact flat_intK _ | exact flat_bytK _ | (fail) | decide | (simp only [List.length_map]; done))) | ((with_reducible refine ex_p ?_ (fun hh => ?_)); focus (first | omega | (simp only [List.length_map]; omega))) | ((with_reducible refine hK _ _ _ ?_); clear hK hE hT; clear K) | ((with_reducible first | refine hE _ _ _ _ ?_ | refine hT _ _ _ ?_ | fail); (first | (clear hK hE hT; clear K) | (clear hR hE hT; clear K) | skip); try simp only [IFB, seval]) | ((with_reducible apply_assumption -symm -exfalso); try simp only [IFB, seval]) | fail)
    all_goals first
      | (exfalso; have hj := hi (by assumption); exact hno (by assumption) (by assumption) (by omega))
      | (refine post_a hres (.inl rfl) ?_; simp only [RSB, ENB, seval, tiAll, true_and]; simp only [MAB, seval]; refine ⟨rfl, rfl, ?_, ?_, ?_⟩ <;> (first | rfl | (simp [WKB, Nat.add_comm, true_and]; done) | (simp only [WKB, seval])))
  | true =>
    obtain ⟨h1, h2, h3⟩ := riOk_out ho
    rw [h1] at c1
    obtain ⟨hin, ⟨i1, i2⟩, _⟩ := runOk_in h1
    obtain ⟨⟨g1, g2, _⟩, _⟩ := graphOk_out hin.go
    obtain ⟨gn, ge⟩ := g
    dsimp only at g1 g2 bg c1
    obtain ⟨m, rfl⟩ := Int.eq_ofNat_of_zero_le g1
    have hsn : r.Next.N = (m : Int) := hin.sn
    have e1 : riR ⟨(m : Int), ge⟩ r = ⟨(itTo ⟨(m : Int), ge⟩ (it0 ⟨(m : Int), ge⟩ r) m).1.Job, (itTo ⟨(m : Int), ge⟩ (it0 ⟨(m : Int), ge⟩ r) m).1.Iter + 1, emptyL (itTo ⟨(m : Int), ge⟩ (it0 ⟨(m : Int), ge⟩ r) m).1.Next.Bits, (itTo ⟨(m : Int), ge⟩ (it0 ⟨(m : Int), ge⟩ r) m).1.Vals, (itTo ⟨(m : Int), ge⟩ (it0 ⟨(m : Int), ge⟩ r) m).1.EVals, (itTo ⟨(m : Int), ge⟩ (it0 ⟨(m : Int), ge⟩ r) m).1.Next⟩ := by unfold riR; rw [ho]; rfl
    rw [e1]
    dsimp only
    have j0 := it0_in hin
    have ji := itTo_iter ⟨(m : Int), ge⟩ (it0 ⟨(m : Int), ge⟩ r)
    have jj : (it0 ⟨(m : Int), ge⟩ r).1.Iter = r.Iter := rfl
    obtain ⟨_, _, b3, b4⟩ := setOk_len hin.so
    clear e1 ho h1
    skip
    refine fnOK_of true mixed Try.func43 rfl (by rfl) (by rfl) ?_
    have hres := congrArg Array.toList Try.results43
    simp only [Try.ntmps43, BGB, seval]
    repeat' (first | (with_reducible first | refine seq_k fun K hK hE hT => ?_ | refine block_k fun K hK hE hT => ?_ | refine region_k ?_ | refine lex_nil ?_ | fail) | ((with_reducible refine draw_k ?_ ?_); focus (first | rfl | kernel_rfl)) | ((with_reducible first | refine lex_move ?_ | refine lex_assign ?_); simp only [EVB, seval]) | (with_reducible first | refine lex_cons fun KS hKS => ?_ | refine lexd_cons fun KS hKS => ?_ | refine skip_k ?_ | refine exit_k ?_ | refine ret_k ?_ | fail) | ((with_reducible refine call_go ?_); (first | ((first | refine call_a (c1) rfl rfl ?_ | refine call_a (copyRun_k r br) rfl rfl ?_ | refine call_a (emptySet_k m (by omega)) rfl rfl ?_ | fail); simp only [ENB, seval, tiAll, List.length_map, h2]; simp only [MAB, seval]; refine ⟨rfl, ?_, ?_, ?_, rfl, ?_, ?_, ?_, ?_⟩; (iterate 6 (focus (first | rfl | (simp [CXB, map_take, List.length_map, h2]; done) | (simp [CXB, List.length_map, h2]; omega) | (dsimp only; omega)))); simp only [EFB, seval]) | fail)) | ((with_reducible refine step_go ?_); (fail_if_success with_reducible refine call_go ?_); simp only [ENB, seval, tiAll, List.length_map, h2]) | ((with_reducible refine lexd_nil ?_ ?_); focus (first | kernel_rfl | with_unfolding_all rfl)) | ((with_reducible refine guard_go ?_); refine lex_gone rfl rfl ?_; simp only [EVB, seval]) | ((first | ((with_reducible refine guard_go ?_); refine lex_guard rfl rfl (fun hg KS hKS => ?_) (fun hg => ?_)) | ((with_reducible refine guardd_go ?_); refine lexd_guard rfl rfl (fun hg KS hKS => ?_) (fun hg => ?_)) | ((with_reducible refine cond_go ?_); refine cond_k rfl (fun hg => ?_) (fun hg => ?_)) | (with_reducible refine And.intro (fun hg => ?_) (fun hg => ?_)) | fail) <;> first | (exact absurd hg (by decide)) | ((try simp only [CNL] at hg) <;> first | (exfalso; omega) | (exact (tf (by assumption) hg).elim) | (exact (tf hg (by assumption)).elim) | ((try with_reducible (have hT0 : True := hg; clear hT0 hg)); first | (with_reducible refine wpc_go ?_) | (try simp only [EVB, seval])))) | ((with_reducible refine hKS _ _ _ _ ?_); clear hKS; clear KS; simp only [EVB, seval]) | ((with_reducible refine And.intro ?_ ?_); focus (first | omega | exact u8_le _ | exact flat_intK _ | exact flat_bytK _ | (fail) | decide | (simp only [List.length_map, h2]; done))) | ((with_reducible refine ex_p ?_ (fun hh => ?_)); focus (first | omega | (simp only [List.length_map, h2]; omega))) | ((with_reducible refine hK _ _ _ ?_); clear hK hE hT; clear K) | ((with_reducible first | refine hE _ _ _ _ ?_ | refine hT _ _ _ ?_ | fail); (first | (clear hK hE hT; clear K) | (clear hR hE hT; clear K) | skip); try simp only [IFB, seval]) | ((with_reducible apply_assumption -symm -exfalso); try simp only [IFB, seval]) | fail)
    refine loop_v (X := {k : Nat // k ≤ m}) [] (fun x => [(33, .c (.v (.int .i64 ((x.1 : Nat) : Int))))]) (fun x => [(0, some (.ro (((⟨(m : Int), ge⟩ : GraphD).Edges).map EdgeD.k))), (1, some (.ro ((r.Vals).map intK))), (2, some (.ro ((r.EVals).map intK))), (3, some (.ro ((r.Next.Bits).map bytK))), (4, some (.box 64 [.v (.int .i64 (⟨(m : Int), ge⟩ : GraphD).N), .sl 0 3 0 ((⟨(m : Int), ge⟩ : GraphD).Edges).length])), (5, some (.box 66 [.v (.int .i64 r.Job.Prog), .v (.int .i64 r.Job.Src), .v (.int .i64 r.Iter), .v (.bool r.Done), .sl 1 1 0 (r.Vals).length, .sl 2 1 0 (r.EVals).length, .v (.int .i64 r.Next.N), .sl 3 1 0 (r.Next.Bits).length])), (6, some (.box 66 [.v (.int .i64 0), .v (.int .i64 0), .v (.int .i64 0), .v (.bool false), .nil, .nil, .v (.int .i64 0), .nil])), (7, some (.row 3 ((itTo ⟨(m : Int), ge⟩ (it0 ⟨(m : Int), ge⟩ r) x.1).1.Vals.map intK))), (8, some (.row 3 ((itTo ⟨(m : Int), ge⟩ (it0 ⟨(m : Int), ge⟩ r) x.1).1.EVals.map intK))), (9, some (.row 5 ((itTo ⟨(m : Int), ge⟩ (it0 ⟨(m : Int), ge⟩ r) x.1).2.map bytK))), (10, some (.box 66 [.v (.int .i64 (itTo ⟨(m : Int), ge⟩ (it0 ⟨(m : Int), ge⟩ r) x.1).1.Job.Prog), .v (.int .i64 (itTo ⟨(m : Int), ge⟩ (it0 ⟨(m : Int), ge⟩ r) x.1).1.Job.Src), .v (.int .i64 (itTo ⟨(m : Int), ge⟩ (it0 ⟨(m : Int), ge⟩ r) x.1).1.Iter), .v (.bool (itTo ⟨(m : Int), ge⟩ (it0 ⟨(m : Int), ge⟩ r) x.1).1.Done), .sl 7 1 0 (itTo ⟨(m : Int), ge⟩ (it0 ⟨(m : Int), ge⟩ r) x.1).1.Vals.length, .sl 8 1 0 (itTo ⟨(m : Int), ge⟩ (it0 ⟨(m : Int), ge⟩ r) x.1).1.EVals.length, .v (.int .i64 (itTo ⟨(m : Int), ge⟩ (it0 ⟨(m : Int), ge⟩ r) x.1).1.Next.N), .sl 12 1 0 (itTo ⟨(m : Int), ge⟩ (it0 ⟨(m : Int), ge⟩ r) x.1).1.Next.Bits.length])), (11, some (.box 35 [.v (.int .i64 (m : Int)), .sl 9 1 0 (itTo ⟨(m : Int), ge⟩ (it0 ⟨(m : Int), ge⟩ r) x.1).2.length])), (12, some (.row 5 ((itTo ⟨(m : Int), ge⟩ (it0 ⟨(m : Int), ge⟩ r) x.1).1.Next.Bits.map bytK)))]) 13 (fun x => m - x.1) ⟨0, by omega⟩ ?_
    simp only [KPB, seval]
    refine ⟨?_, ?_⟩
    · (refine wk_a ?_; simp only [MAB, seval]; refine ⟨rfl, rfl, (by decide), ?_, ?_⟩; all_goals (first | (simp only [WKB, seval, itTo, it0, hsn, h2, Int.toNat_natCast, fullTo_len, fullTo_map, Nat.reduceLT, Nat.zero_lt_succ]; done) | (simp [WKB, seval, itTo, it0, hsn, h2, Int.toNat_natCast, fullTo_len, fullTo_map]; done) | simp only [WKB, seval]))
    · rintro ⟨k, hk⟩ K hR hE hT
      obtain ⟨yin, yw⟩ := itTo_in j0 k (by simp only; omega)
      have y1 := ji k
      have y2 : (itTo ⟨(m : Int), ge⟩ (it0 ⟨(m : Int), ge⟩ r) k).1.Next.N = (m : Int) := yin.sn
      obtain ⟨_, _, y3, y4⟩ := setOk_len yw
      obtain ⟨_, _, y5, y6⟩ := setOk_len yin.so
      simp only [Int.toNat_natCast] at y3 y5
      rcases Nat.lt_or_ge k m with hlt | hge
      case inr =>
        obtain rfl : m = k := by omega
        repeat' (first | (with_reducible first | refine seq_k fun K hK hE hT => ?_ | refine block_k fun K hK hE hT => ?_ | refine region_k ?_ | refine lex_nil ?_ | fail) | ((with_reducible refine draw_k ?_ ?_); focus (first | rfl | kernel_rfl)) | ((with_reducible first | refine lex_move ?_ | refine lex_assign ?_); simp only [EVB, seval]) | (with_reducible first | refine lex_cons fun KS hKS => ?_ | refine lexd_cons fun KS hKS => ?_ | refine skip_k ?_ | refine exit_k ?_ | refine ret_k ?_ | fail) | ((with_reducible refine call_go ?_); (first | ((first | refine call_a (implisEmpty_k (itTo ⟨(m : Int), ge⟩ (it0 ⟨(m : Int), ge⟩ r) m).1.Next.N (itTo ⟨(m : Int), ge⟩ (it0 ⟨(m : Int), ge⟩ r) m).1.Next.Bits (by omega)) rfl rfl ?_ | fail); simp only [ENB, seval, tiAll, List.length_map]; simp only [MAB, seval]; refine ⟨rfl, ?_, ?_, ?_, rfl, ?_, ?_, ?_, ?_⟩; (iterate 6 (focus (first | rfl | (simp [CXB, map_take, List.length_map]; done) | (simp [CXB, List.length_map]; omega) | (dsimp only; omega)))); simp only [EFB, seval]) | fail)) | ((with_reducible refine step_go ?_); (fail_if_success with_reducible refine call_go ?_); simp only [ENB, seval, tiAll, List.length_map]) | ((with_reducible refine lexd_nil ?_ ?_); focus (first | kernel_rfl | with_unfolding_all rfl)) | ((with_reducible refine guard_go ?_); refine lex_gone rfl rfl ?_; simp only [EVB, seval]) | ((first | ((with_reducible refine guard_go ?_); refine lex_guard rfl rfl (fun hg KS hKS => ?_) (fun hg => ?_)) | ((with_reducible refine guardd_go ?_); refine lexd_guard rfl rfl (fun hg KS hKS => ?_) (fun hg => ?_)) | ((with_reducible refine cond_go ?_); refine cond_k rfl (fun hg => ?_) (fun hg => ?_)) | (with_reducible refine And.intro (fun hg => ?_) (fun hg => ?_)) | fail) <;> first | (exact absurd hg (by decide)) | ((try simp only [CNL] at hg) <;> first | (exfalso; omega) | (exact (tf (by assumption) hg).elim) | (exact (tf hg (by assumption)).elim) | ((try with_reducible (have hT0 : True := hg; clear hT0 hg)); first | (with_reducible refine wpc_go ?_) | (try simp only [EVB, seval])))) | ((with_reducible refine hKS _ _ _ _ ?_); clear hKS; clear KS; simp only [EVB, seval]) | ((with_reducible refine And.intro ?_ ?_); focus (first | omega | exact u8_le _ | exact flat_intK _ | exact flat_bytK _ | (fail) | decide | (simp only [List.length_map]; done))) | ((with_reducible refine ex_p ?_ (fun hh => ?_)); focus (first | omega | (simp only [List.length_map]; omega))) | ((with_reducible refine hK _ _ _ ?_); clear hK hE hT; clear K) | ((with_reducible first | refine hE _ _ _ _ ?_ | refine hT _ _ _ ?_ | fail); (first | (clear hK hE hT; clear K) | (clear hR hE hT; clear K) | skip); try simp only [IFB, seval]) | ((with_reducible apply_assumption -symm -exfalso); try simp only [IFB, seval]) | fail)
        (refine post_a hres (.inl rfl) ?_; simp only [RSB, ENB, seval, tiAll, true_and]; simp only [MAB, seval]; refine ⟨rfl, rfl, ?_, ?_, ?_⟩ <;> (first | rfl | (simp [WKB, Nat.add_comm, true_and]; done) | (simp only [WKB, seval])))
      case inl =>
        obtain ⟨q1, q2, q3⟩ := vxEnd_lens (v := k) yin yw (by simp only; omega)
        have ch := implhas_k (m : Int) (itTo ⟨(m : Int), ge⟩ (it0 ⟨(m : Int), ge⟩ r) k).2 k (by omega) (by omega)
        have cu := update_k _ _ _ k yin yw (by simp only; omega)
        dsimp only at cu
        cases hb : bitAt (itTo ⟨(m : Int), ge⟩ (it0 ⟨(m : Int), ge⟩ r) k).2 k
        all_goals rw [hb] at ch
        all_goals repeat' (first | (with_reducible first | refine seq_k fun K hK hE hT => ?_ | refine block_k fun K hK hE hT => ?_ | refine region_k ?_ | refine lex_nil ?_ | fail) | ((with_reducible refine draw_k ?_ ?_); focus (first | rfl | kernel_rfl)) | ((with_reducible first | refine lex_move ?_ | refine lex_assign ?_); simp only [EVB, seval]) | (with_reducible first | refine lex_cons fun KS hKS => ?_ | refine lexd_cons fun KS hKS => ?_ | refine skip_k ?_ | refine exit_k ?_ | refine ret_k ?_ | fail) | ((with_reducible refine call_go ?_); (first | ((first | refine call_a (ch) rfl rfl ?_ | refine call_a (cu) rfl rfl ?_ | fail); simp only [ENB, seval, tiAll, List.length_map]; simp only [MAB, seval]; refine ⟨rfl, ?_, ?_, ?_, rfl, ?_, ?_, ?_, ?_⟩; (iterate 6 (focus (first | rfl | (simp [CXB, map_take, List.length_map]; done) | (simp [CXB, List.length_map]; omega) | (dsimp only; omega)))); simp only [EFB, seval]) | fail)) | ((with_reducible refine step_go ?_); (fail_if_success with_reducible refine call_go ?_); simp only [ENB, seval, tiAll, List.length_map]) | ((with_reducible refine lexd_nil ?_ ?_); focus (first | kernel_rfl | with_unfolding_all rfl)) | ((with_reducible refine guard_go ?_); refine lex_gone rfl rfl ?_; simp only [EVB, seval]) | ((first | ((with_reducible refine guard_go ?_); refine lex_guard rfl rfl (fun hg KS hKS => ?_) (fun hg => ?_)) | ((with_reducible refine guardd_go ?_); refine lexd_guard rfl rfl (fun hg KS hKS => ?_) (fun hg => ?_)) | ((with_reducible refine cond_go ?_); refine cond_k rfl (fun hg => ?_) (fun hg => ?_)) | (with_reducible refine And.intro (fun hg => ?_) (fun hg => ?_)) | fail) <;> first | (exact absurd hg (by decide)) | ((try simp only [CNL] at hg) <;> first | (exfalso; omega) | (exact (tf (by assumption) hg).elim) | (exact (tf hg (by assumption)).elim) | ((try with_reducible (have hT0 : True := hg; clear hT0 hg)); first | (with_reducible refine wpc_go ?_) | (try simp only [EVB, seval])))) | ((with_reducible refine hKS _ _ _ _ ?_); clear hKS; clear KS; simp only [EVB, seval]) | ((with_reducible refine And.intro ?_ ?_); focus (first | omega | exact u8_le _ | exact flat_intK _ | exact flat_bytK _ | (fail) | decide | (simp only [List.length_map]; done))) | ((with_reducible refine ex_p ?_ (fun hh => ?_)); focus (first | omega | (simp only [List.length_map]; omega))) | ((with_reducible refine hK _ _ _ ?_); clear hK hE hT; clear K) | ((with_reducible first | refine hE _ _ _ _ ?_ | refine hT _ _ _ ?_ | fail); (first | (clear hK hE hT; clear K) | (clear hR hE hT; clear K) | skip); try simp only [IFB, seval]) | ((with_reducible apply_assumption -symm -exfalso); try simp only [IFB, seval]) | fail)
        · have e := itTo_no hb
          (refine hR.out ⟨k + 1, by omega⟩ _ _ _ (by simp only; omega) ?_; (refine wk_a ?_; simp only [MAB, seval]; refine ⟨rfl, rfl, (by decide), ?_, ?_⟩; all_goals (first | (simp only [WKB, seval, e, Nat.reduceLT, Nat.zero_lt_succ]; done) | (simp [WKB, seval, e]; done) | simp only [WKB, seval])))
        · have e := itTo_yes hb
          (refine hR.out ⟨k + 1, by omega⟩ _ _ _ (by simp only; omega) ?_; (refine wk_a ?_; simp only [MAB, seval]; refine ⟨rfl, rfl, (by decide), ?_, ?_⟩; all_goals (first | (simp only [WKB, seval, e, runV, nowV, q1, q2, q3, List.length_set, Nat.reduceLT, Nat.zero_lt_succ]; done) | (simp [WKB, seval, e, runV, nowV, q1, q2, q3, List.length_set]; done) | simp only [WKB, seval])))

set_option maxHeartbeats 16000000 in
theorem specRunIter_k (g : GraphD) (r : RunD) (bg : (g.Edges).length ≤ 1048576) (br : (r.Vals).length ≤ 1048576 ∧ (r.EVals).length ≤ 1048576 ∧ (r.Next.Bits).length ≤ 1048576) : FnOK Try.prog 128 ⟨4, [(0, some (.ro ((g.Edges).map EdgeD.k))), (1, some (.ro ((r.Vals).map intK))), (2, some (.ro ((r.EVals).map intK))), (3, some (.ro ((r.Next.Bits).map bytK)))], [.agg [.v (.int .i64 g.N), .sl 0 3 0 (g.Edges).length], .agg [.v (.int .i64 r.Job.Prog), .v (.int .i64 r.Job.Src), .v (.int .i64 r.Iter), .v (.bool r.Done), .sl 1 1 0 (r.Vals).length, .sl 2 1 0 (r.EVals).length, .v (.int .i64 r.Next.N), .sl 3 1 0 (r.Next.Bits).length]],
    .tup [.inr [.v (.int .i64 (riR g r).Job.Prog), .v (.int .i64 (riR g r).Job.Src), .v (.int .i64 (riR g r).Iter), .v (.bool (riR g r).Done), .sl 4 1 0 ((riR g r).Vals).length, .sl 5 1 0 ((riR g r).EVals).length, .v (.int .i64 (riR g r).Next.N), .sl 6 1 0 ((riR g r).Next.Bits).length], .inl (.v (.bool (riOk g r)))], [(4, some (.row 3 (((riR g r).Vals).map intK))), (5, some (.row 3 (((riR g r).EVals).map intK))), (6, some (.row 5 (((riR g r).Next.Bits).map bytK)))], 7⟩ := by
  have c1 := specRunOk_k g r bg br
  cases ho : riOk g r with
  | false =>
    have e1 : riR g r = zeroRun := by unfold riR; rw [ho]; rfl
    rw [e1]
    dsimp only [zeroRun]
    have hi : runOk g r = true → r.Iter ≤ 1000 := fun q => (runOk_in q).2.1.2
    obtain ⟨b1, h1⟩ : ∃ b, b = runOk g r := ⟨_, rfl⟩
    rw [← h1] at c1 hi
    have hno : b1 = true → r.Done = false → r.Iter < 1000 → False := fun q1 q2 q3 => by
      unfold riOk at ho
      rw [← h1, q1, q2, decide_eq_true q3] at ho
      simp at ho
    clear h1 e1 ho
    refine fnOK_of true mixed Try.func128 rfl (by rfl) (by rfl) ?_
    have hres := congrArg Array.toList Try.results128
    simp only [Try.ntmps128, BGB, seval]
    repeat' (first | (with_reducible first | refine seq_k fun K hK hE hT => ?_ | refine block_k fun K hK hE hT => ?_ | refine region_k ?_ | refine lex_nil ?_ | fail) | ((with_reducible refine draw_k ?_ ?_); focus (first | rfl | kernel_rfl)) | ((with_reducible first | refine lex_move ?_ | refine lex_assign ?_); simp only [EVB, seval]) | (with_reducible first | refine lex_cons fun KS hKS => ?_ | refine lexd_cons fun KS hKS => ?_ | refine skip_k ?_ | refine exit_k ?_ | refine ret_k ?_ | fail) | ((with_reducible refine call_go ?_); (first | ((first | refine call_a (c1) rfl rfl ?_ | fail); simp only [ENB, seval, tiAll, List.length_map]; simp only [MAB, seval]; refine ⟨rfl, ?_, ?_, ?_, rfl, ?_, ?_, ?_, ?_⟩; (iterate 6 (focus (first | rfl | (simp [CXB, map_take, List.length_map]; done) | (simp [CXB, List.length_map]; omega) | (dsimp only; omega)))); simp only [EFB, seval]) | fail)) | ((with_reducible refine step_go ?_); (fail_if_success with_reducible refine call_go ?_); simp only [ENB, seval, tiAll, List.length_map]) | ((with_reducible refine lexd_nil ?_ ?_); focus (first | kernel_rfl | with_unfolding_all rfl)) | ((with_reducible refine guard_go ?_); refine lex_gone rfl rfl ?_; simp only [EVB, seval]) | ((first | ((with_reducible refine guard_go ?_); refine lex_guard rfl rfl (fun hg KS hKS => ?_) (fun hg => ?_)) | ((with_reducible refine guardd_go ?_); refine lexd_guard rfl rfl (fun hg KS hKS => ?_) (fun hg => ?_)) | ((with_reducible refine cond_go ?_); refine cond_k rfl (fun hg => ?_) (fun hg => ?_)) | (with_reducible refine And.intro (fun hg => ?_) (fun hg => ?_)) | fail) <;> first | (exact absurd hg (by decide)) | ((try simp only [CNL] at hg) <;> first | (exfalso; omega) | (exact (tf (by assumption) hg).elim) | (exact (tf hg (by assumption)).elim) | ((try with_reducible (have hT0 : True := hg; clear hT0 hg)); first | (with_reducible refine wpc_go ?_) | (try simp only [EVB, seval])))) | ((with_reducible refine hKS _ _ _ _ ?_); clear hKS; clear KS; simp only [EVB, seval]) | ((with_reducible refine And.intro ?_ ?_); focus (first | omega | exact u8_le _ | exact flat_intK _ | exact flat_bytK _ | (fail) | decide | (simp only [List.length_map]; done))) | ((with_reducible refine ex_p ?_ (fun hh => ?_)); focus (first | omega | (simp only [List.length_map]; omega))) | ((with_reducible refine hK _ _ _ ?_); clear hK hE hT; clear K) | ((with_reducible first | refine hE _ _ _ _ ?_ | refine hT _ _ _ ?_ | fail); (first | (clear hK hE hT; clear K) | (clear hR hE hT; clear K) | skip); try simp only [IFB, seval]) | ((with_reducible apply_assumption -symm -exfalso); try simp only [IFB, seval]) | fail)
    all_goals first
      | (exfalso; have hj := hi (by assumption); exact hno (by assumption) (by assumption) (by omega))
      | (refine post_a hres (.inl rfl) ?_; simp only [RSB, ENB, seval, tiAll, true_and]; simp only [MAB, seval]; refine ⟨rfl, rfl, ?_, ?_, ?_⟩ <;> (first | rfl | (simp [WKB, Nat.add_comm, true_and]; done) | (simp only [WKB, seval])))
  | true =>
    obtain ⟨h1, h2, h3⟩ := riOk_out ho
    rw [h1] at c1
    obtain ⟨hin, ⟨i1, i2⟩, _⟩ := runOk_in h1
    obtain ⟨⟨g1, g2, _⟩, _⟩ := graphOk_out hin.go
    obtain ⟨gn, ge⟩ := g
    dsimp only at g1 g2 bg c1
    obtain ⟨m, rfl⟩ := Int.eq_ofNat_of_zero_le g1
    have hsn : r.Next.N = (m : Int) := hin.sn
    have e1 : riR ⟨(m : Int), ge⟩ r = ⟨(itTo ⟨(m : Int), ge⟩ (it0 ⟨(m : Int), ge⟩ r) m).1.Job, (itTo ⟨(m : Int), ge⟩ (it0 ⟨(m : Int), ge⟩ r) m).1.Iter + 1, emptyL (itTo ⟨(m : Int), ge⟩ (it0 ⟨(m : Int), ge⟩ r) m).1.Next.Bits, (itTo ⟨(m : Int), ge⟩ (it0 ⟨(m : Int), ge⟩ r) m).1.Vals, (itTo ⟨(m : Int), ge⟩ (it0 ⟨(m : Int), ge⟩ r) m).1.EVals, (itTo ⟨(m : Int), ge⟩ (it0 ⟨(m : Int), ge⟩ r) m).1.Next⟩ := by unfold riR; rw [ho]; rfl
    rw [e1]
    dsimp only
    have j0 := it0_in hin
    have ji := itTo_iter ⟨(m : Int), ge⟩ (it0 ⟨(m : Int), ge⟩ r)
    have jj : (it0 ⟨(m : Int), ge⟩ r).1.Iter = r.Iter := rfl
    obtain ⟨_, _, b3, b4⟩ := setOk_len hin.so
    clear e1 ho h1
    have cn := specSetNew_k (m : Int) false
    rw [(newN_in (show m ≤ 150 by omega)).1, (newN_in (show m ≤ 150 by omega)).2, newL_in (show m ≤ 150 by omega) false] at cn
    simp only [Bool.false_eq_true, if_false] at cn
    refine fnOK_of true mixed Try.func128 rfl (by rfl) (by rfl) ?_
    have hres := congrArg Array.toList Try.results128
    simp only [Try.ntmps128, BGB, seval]
    repeat' (first | (with_reducible first | refine seq_k fun K hK hE hT => ?_ | refine block_k fun K hK hE hT => ?_ | refine region_k ?_ | refine lex_nil ?_ | fail) | ((with_reducible refine draw_k ?_ ?_); focus (first | rfl | kernel_rfl)) | ((with_reducible first | refine lex_move ?_ | refine lex_assign ?_); simp only [EVB, seval]) | (with_reducible first | refine lex_cons fun KS hKS => ?_ | refine lexd_cons fun KS hKS => ?_ | refine skip_k ?_ | refine exit_k ?_ | refine ret_k ?_ | fail) | ((with_reducible refine call_go ?_); (first | ((first | refine call_a (c1) rfl rfl ?_ | refine call_a (l11Copy_k r br) rfl rfl ?_ | refine call_a (l09Copy_k r.Next br.2.2) rfl rfl ?_ | refine call_a (cn) rfl rfl ?_ | fail); simp only [ENB, seval, tiAll, List.length_map, h2]; simp only [MAB, seval]; refine ⟨rfl, ?_, ?_, ?_, rfl, ?_, ?_, ?_, ?_⟩; (iterate 6 (focus (first | rfl | (simp [CXB, map_take, List.length_map, h2]; done) | (simp [CXB, List.length_map, h2]; omega) | (dsimp only; omega)))); simp only [EFB, seval]) | fail)) | ((with_reducible refine step_go ?_); (fail_if_success with_reducible refine call_go ?_); simp only [ENB, seval, tiAll, List.length_map, h2]) | ((with_reducible refine lexd_nil ?_ ?_); focus (first | kernel_rfl | with_unfolding_all rfl)) | ((with_reducible refine guard_go ?_); refine lex_gone rfl rfl ?_; simp only [EVB, seval]) | ((first | ((with_reducible refine guard_go ?_); refine lex_guard rfl rfl (fun hg KS hKS => ?_) (fun hg => ?_)) | ((with_reducible refine guardd_go ?_); refine lexd_guard rfl rfl (fun hg KS hKS => ?_) (fun hg => ?_)) | ((with_reducible refine cond_go ?_); refine cond_k rfl (fun hg => ?_) (fun hg => ?_)) | (with_reducible refine And.intro (fun hg => ?_) (fun hg => ?_)) | fail) <;> first | (exact absurd hg (by decide)) | ((try simp only [CNL] at hg) <;> first | (exfalso; omega) | (exact (tf (by assumption) hg).elim) | (exact (tf hg (by assumption)).elim) | ((try with_reducible (have hT0 : True := hg; clear hT0 hg)); first | (with_reducible refine wpc_go ?_) | (try simp only [EVB, seval])))) | ((with_reducible refine hKS _ _ _ _ ?_); clear hKS; clear KS; simp only [EVB, seval]) | ((with_reducible refine And.intro ?_ ?_); focus (first | omega | exact u8_le _ | exact flat_intK _ | exact flat_bytK _ | (fail) | decide | (simp only [List.length_map, h2]; done))) | ((with_reducible refine ex_p ?_ (fun hh => ?_)); focus (first | omega | (simp only [List.length_map, h2]; omega))) | ((with_reducible refine hK _ _ _ ?_); clear hK hE hT; clear K) | ((with_reducible first | refine hE _ _ _ _ ?_ | refine hT _ _ _ ?_ | fail); (first | (clear hK hE hT; clear K) | (clear hR hE hT; clear K) | skip); try simp only [IFB, seval]) | ((with_reducible apply_assumption -symm -exfalso); try simp only [IFB, seval]) | fail)
    refine loop_v (X := {k : Nat // k ≤ m}) [] (fun x => [(8, .c (.v (.int .i64 ((x.1 : Nat) : Int))))]) (fun x => [(0, some (.ro (((⟨(m : Int), ge⟩ : GraphD).Edges).map EdgeD.k))), (1, some (.ro ((r.Vals).map intK))), (2, some (.ro ((r.EVals).map intK))), (3, some (.ro ((r.Next.Bits).map bytK))), (4, some (.box 64 [.v (.int .i64 (⟨(m : Int), ge⟩ : GraphD).N), .sl 0 3 0 ((⟨(m : Int), ge⟩ : GraphD).Edges).length])), (5, some (.box 66 [.v (.int .i64 r.Job.Prog), .v (.int .i64 r.Job.Src), .v (.int .i64 r.Iter), .v (.bool r.Done), .sl 1 1 0 (r.Vals).length, .sl 2 1 0 (r.EVals).length, .v (.int .i64 r.Next.N), .sl 3 1 0 (r.Next.Bits).length])), (6, some (.box 66 [.v (.int .i64 0), .v (.int .i64 0), .v (.int .i64 0), .v (.bool false), .nil, .nil, .v (.int .i64 0), .nil])), (7, some (.row 3 ((itTo ⟨(m : Int), ge⟩ (it0 ⟨(m : Int), ge⟩ r) x.1).1.Vals.map intK))), (8, some (.row 3 ((itTo ⟨(m : Int), ge⟩ (it0 ⟨(m : Int), ge⟩ r) x.1).1.EVals.map intK))), (10, some (.box 66 [.v (.int .i64 (itTo ⟨(m : Int), ge⟩ (it0 ⟨(m : Int), ge⟩ r) x.1).1.Job.Prog), .v (.int .i64 (itTo ⟨(m : Int), ge⟩ (it0 ⟨(m : Int), ge⟩ r) x.1).1.Job.Src), .v (.int .i64 (itTo ⟨(m : Int), ge⟩ (it0 ⟨(m : Int), ge⟩ r) x.1).1.Iter), .v (.bool (itTo ⟨(m : Int), ge⟩ (it0 ⟨(m : Int), ge⟩ r) x.1).1.Done), .sl 7 1 0 (itTo ⟨(m : Int), ge⟩ (it0 ⟨(m : Int), ge⟩ r) x.1).1.Vals.length, .sl 8 1 0 (itTo ⟨(m : Int), ge⟩ (it0 ⟨(m : Int), ge⟩ r) x.1).1.EVals.length, .v (.int .i64 (itTo ⟨(m : Int), ge⟩ (it0 ⟨(m : Int), ge⟩ r) x.1).1.Next.N), .sl 14 1 0 (itTo ⟨(m : Int), ge⟩ (it0 ⟨(m : Int), ge⟩ r) x.1).1.Next.Bits.length])), (12, some (.box 35 [.v (.int .i64 (m : Int)), .sl 15 1 0 (itTo ⟨(m : Int), ge⟩ (it0 ⟨(m : Int), ge⟩ r) x.1).2.length])), (14, some (.row 5 ((itTo ⟨(m : Int), ge⟩ (it0 ⟨(m : Int), ge⟩ r) x.1).1.Next.Bits.map bytK))), (15, some (.row 5 ((itTo ⟨(m : Int), ge⟩ (it0 ⟨(m : Int), ge⟩ r) x.1).2.map bytK)))]) 16 (fun x => m - x.1) ⟨0, by omega⟩ ?_
    simp only [KPB, seval]
    refine ⟨?_, ?_⟩
    · (refine wk_a ?_; simp only [MAB, seval]; refine ⟨rfl, rfl, (by decide), ?_, ?_⟩; all_goals (first | (simp only [WKB, seval, itTo, it0, hsn, h2, Int.toNat_natCast, fullTo_len, fullTo_map, Nat.reduceLT, Nat.zero_lt_succ]; done) | (simp [WKB, seval, itTo, it0, hsn, h2, Int.toNat_natCast, fullTo_len, fullTo_map]; done) | simp only [WKB, seval]))
    · rintro ⟨k, hk⟩ K hR hE hT
      obtain ⟨yin, yw⟩ := itTo_in j0 k (by simp only; omega)
      have y1 := ji k
      have y2 : (itTo ⟨(m : Int), ge⟩ (it0 ⟨(m : Int), ge⟩ r) k).1.Next.N = (m : Int) := yin.sn
      obtain ⟨_, _, y3, y4⟩ := setOk_len yw
      obtain ⟨_, _, y5, y6⟩ := setOk_len yin.so
      simp only [Int.toNat_natCast] at y3 y5
      rcases Nat.lt_or_ge k m with hlt | hge
      case inr =>
        obtain rfl : m = k := by omega
        have ho' : setOk (itTo ⟨(m : Int), ge⟩ (it0 ⟨(m : Int), ge⟩ r) m).1.Next.N (itTo ⟨(m : Int), ge⟩ (it0 ⟨(m : Int), ge⟩ r) m).1.Next.Bits = true := by rw [y2]; exact yin.so
        have m8 := membersL_len (itTo ⟨(m : Int), ge⟩ (it0 ⟨(m : Int), ge⟩ r) m).1.Next.N (itTo ⟨(m : Int), ge⟩ (it0 ⟨(m : Int), ge⟩ r) m).1.Next.Bits
        repeat' (first | (with_reducible first | refine seq_k fun K hK hE hT => ?_ | refine block_k fun K hK hE hT => ?_ | refine region_k ?_ | refine lex_nil ?_ | fail) | ((with_reducible refine draw_k ?_ ?_); focus (first | rfl | kernel_rfl)) | ((with_reducible first | refine lex_move ?_ | refine lex_assign ?_); simp only [EVB, seval]) | (with_reducible first | refine lex_cons fun KS hKS => ?_ | refine lexd_cons fun KS hKS => ?_ | refine skip_k ?_ | refine exit_k ?_ | refine ret_k ?_ | fail) | ((with_reducible refine call_go ?_); (first | ((first | refine call_a (specMembers_k (itTo ⟨(m : Int), ge⟩ (it0 ⟨(m : Int), ge⟩ r) m).1.Next.N (itTo ⟨(m : Int), ge⟩ (it0 ⟨(m : Int), ge⟩ r) m).1.Next.Bits (by omega)) rfl rfl ?_ | fail); simp only [ENB, seval, tiAll, List.length_map]; simp only [MAB, seval]; refine ⟨rfl, ?_, ?_, ?_, rfl, ?_, ?_, ?_, ?_⟩; (iterate 6 (focus (first | rfl | (simp [CXB, map_take, List.length_map]; done) | (simp [CXB, List.length_map]; omega) | (dsimp only; omega)))); simp only [EFB, seval]) | fail)) | ((with_reducible refine step_go ?_); (fail_if_success with_reducible refine call_go ?_); simp only [ENB, seval, tiAll, List.length_map]) | ((with_reducible refine lexd_nil ?_ ?_); focus (first | kernel_rfl | with_unfolding_all rfl)) | ((with_reducible refine guard_go ?_); refine lex_gone rfl rfl ?_; simp only [EVB, seval]) | ((first | ((with_reducible refine guard_go ?_); refine lex_guard rfl rfl (fun hg KS hKS => ?_) (fun hg => ?_)) | ((with_reducible refine guardd_go ?_); refine lexd_guard rfl rfl (fun hg KS hKS => ?_) (fun hg => ?_)) | ((with_reducible refine cond_go ?_); refine cond_k rfl (fun hg => ?_) (fun hg => ?_)) | (with_reducible refine And.intro (fun hg => ?_) (fun hg => ?_)) | fail) <;> first | (exact absurd hg (by decide)) | ((try simp only [CNL] at hg) <;> first | (exfalso; omega) | (exact (tf (by assumption) hg).elim) | (exact (tf hg (by assumption)).elim) | ((try with_reducible (have hT0 : True := hg; clear hT0 hg)); first | (with_reducible refine wpc_go ?_) | (try simp only [EVB, seval])))) | ((with_reducible refine hKS _ _ _ _ ?_); clear hKS; clear KS; simp only [EVB, seval]) | ((with_reducible refine And.intro ?_ ?_); focus (first | omega | exact u8_le _ | exact flat_intK _ | exact flat_bytK _ | (fail) | decide | (simp only [List.length_map]; done))) | ((with_reducible refine ex_p ?_ (fun hh => ?_)); focus (first | omega | (simp only [List.length_map]; omega))) | ((with_reducible refine hK _ _ _ ?_); clear hK hE hT; clear K) | ((with_reducible first | refine hE _ _ _ _ ?_ | refine hT _ _ _ ?_ | fail); (first | (clear hK hE hT; clear K) | (clear hR hE hT; clear K) | skip); try simp only [IFB, seval]) | ((with_reducible apply_assumption -symm -exfalso); try simp only [IFB, seval]) | fail)
        (refine post_a hres (.inl rfl) ?_; simp only [RSB, ENB, seval, tiAll, members_zero ho']; simp only [MAB, seval]; refine ⟨rfl, rfl, ?_, ?_, ?_⟩ <;> (first | rfl | (simp [WKB, Nat.add_comm, members_zero ho']; done) | (simp only [WKB, seval])))
      case inl =>
        obtain ⟨q1, q2, q3⟩ := vxEnd_lens (v := k) yin yw (by simp only; omega)
        have ch := specHas_k (m : Int) (itTo ⟨(m : Int), ge⟩ (it0 ⟨(m : Int), ge⟩ r) k).2 (by omega) (k : Int)
        rw [hasL_ok yw hlt] at ch
        have cu := l11Vertex_k _ _ _ k yin yw (by simp only; omega)
        dsimp only at cu
        cases hb : bitAt (itTo ⟨(m : Int), ge⟩ (it0 ⟨(m : Int), ge⟩ r) k).2 k
        all_goals rw [hb] at ch
        all_goals repeat' (first | (with_reducible first | refine seq_k fun K hK hE hT => ?_ | refine block_k fun K hK hE hT => ?_ | refine region_k ?_ | refine lex_nil ?_ | fail) | ((with_reducible refine draw_k ?_ ?_); focus (first | rfl | kernel_rfl)) | ((with_reducible first | refine lex_move ?_ | refine lex_assign ?_); simp only [EVB, seval]) | (with_reducible first | refine lex_cons fun KS hKS => ?_ | refine lexd_cons fun KS hKS => ?_ | refine skip_k ?_ | refine exit_k ?_ | refine ret_k ?_ | fail) | ((with_reducible refine call_go ?_); (first | ((first | refine call_a (ch) rfl rfl ?_ | refine call_a (cu) rfl rfl ?_ | fail); simp only [ENB, seval, tiAll, List.length_map]; simp only [MAB, seval]; refine ⟨rfl, ?_, ?_, ?_, rfl, ?_, ?_, ?_, ?_⟩; (iterate 6 (focus (first | rfl | (simp [CXB, map_take, List.length_map]; done) | (simp [CXB, List.length_map]; omega) | (dsimp only; omega)))); simp only [EFB, seval]) | fail)) | ((with_reducible refine step_go ?_); (fail_if_success with_reducible refine call_go ?_); simp only [ENB, seval, tiAll, List.length_map]) | ((with_reducible refine lexd_nil ?_ ?_); focus (first | kernel_rfl | with_unfolding_all rfl)) | ((with_reducible refine guard_go ?_); refine lex_gone rfl rfl ?_; simp only [EVB, seval]) | ((first | ((with_reducible refine guard_go ?_); refine lex_guard rfl rfl (fun hg KS hKS => ?_) (fun hg => ?_)) | ((with_reducible refine guardd_go ?_); refine lexd_guard rfl rfl (fun hg KS hKS => ?_) (fun hg => ?_)) | ((with_reducible refine cond_go ?_); refine cond_k rfl (fun hg => ?_) (fun hg => ?_)) | (with_reducible refine And.intro (fun hg => ?_) (fun hg => ?_)) | fail) <;> first | (exact absurd hg (by decide)) | ((try simp only [CNL] at hg) <;> first | (exfalso; omega) | (exact (tf (by assumption) hg).elim) | (exact (tf hg (by assumption)).elim) | ((try with_reducible (have hT0 : True := hg; clear hT0 hg)); first | (with_reducible refine wpc_go ?_) | (try simp only [EVB, seval])))) | ((with_reducible refine hKS _ _ _ _ ?_); clear hKS; clear KS; simp only [EVB, seval]) | ((with_reducible refine And.intro ?_ ?_); focus (first | omega | exact u8_le _ | exact flat_intK _ | exact flat_bytK _ | (fail) | decide | (simp only [List.length_map]; done))) | ((with_reducible refine ex_p ?_ (fun hh => ?_)); focus (first | omega | (simp only [List.length_map]; omega))) | ((with_reducible refine hK _ _ _ ?_); clear hK hE hT; clear K) | ((with_reducible first | refine hE _ _ _ _ ?_ | refine hT _ _ _ ?_ | fail); (first | (clear hK hE hT; clear K) | (clear hR hE hT; clear K) | skip); try simp only [IFB, seval]) | ((with_reducible apply_assumption -symm -exfalso); try simp only [IFB, seval]) | fail)
        · have e := itTo_no hb
          (refine hR.out ⟨k + 1, by omega⟩ _ _ _ (by simp only; omega) ?_; (refine wk_a ?_; simp only [MAB, seval]; refine ⟨rfl, rfl, (by decide), ?_, ?_⟩; all_goals (first | (simp only [WKB, seval, e, Nat.reduceLT, Nat.zero_lt_succ]; done) | (simp [WKB, seval, e]; done) | simp only [WKB, seval])))
        · have e := itTo_yes hb
          (refine hR.out ⟨k + 1, by omega⟩ _ _ _ (by simp only; omega) ?_; (refine wk_a ?_; simp only [MAB, seval]; refine ⟨rfl, rfl, (by decide), ?_, ?_⟩; all_goals (first | (simp only [WKB, seval, e, runV, nowV, q1, q2, q3, List.length_set, Nat.reduceLT, Nat.zero_lt_succ]; done) | (simp [WKB, seval, e, runV, nowV, q1, q2, q3, List.length_set]; done) | simp only [WKB, seval])))

end Go.Proofs.Ytageceacjmmmdaa
