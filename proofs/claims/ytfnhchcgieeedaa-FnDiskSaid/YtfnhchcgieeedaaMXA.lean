/-
  The engine, texts DI14 DI15 in one. No conditions of its own.
-/
import Derived.Test.YtfnhchcgieeedaaGO
import Derived.Test.YtfnhchcgieeedaaDI13
import Derived.Test.YtfnhchcgieeedaaDI10
import Derived.Test.YtfnhchcgieeedaaDI11
import Derived.Test.YtfnhchcgieeedaaGF
namespace Go.Proofs.Ytfnhchcgieeedaa
set_option linter.unusedSimpArgs false
set_option linter.unusedVariables false
set_option linter.unusedSimpArgs false
set_option linter.unusedVariables false
set_option linter.defProp false
set_option maxRecDepth 20000
open Go.RowKit

def dk0 : DiskD := ⟨0, 0, [], []⟩
/-- A disk of which all is durable. -/
noncomputable def syR (d : DiskD) : DiskD := @ite _ (diskP d) (Classical.propDecidable _) (if d.Fuse = 0 then d else ⟨d.Room, brn d.Fuse, seenF d, []⟩) dk0
noncomputable def syC (d : DiskD) : Int := @ite _ (diskP d) (Classical.propDecidable _) (if d.Fuse = 0 then 2 else 0) 1
theorem syR_n {d : DiskD} (h : ¬ diskP d) : syR d = dk0 := by unfold syR; exact @if_neg _ (Classical.propDecidable _) h _ _ _
theorem syC_n {d : DiskD} (h : ¬ diskP d) : syC d = 1 := by unfold syC; exact @if_neg _ (Classical.propDecidable _) h _ _ _
theorem syR_z {d : DiskD} (h : diskP d) (hf : d.Fuse = 0) : syR d = d := by unfold syR; rw [@if_pos _ (Classical.propDecidable _) h, if_pos hf]
theorem syC_z {d : DiskD} (h : diskP d) (hf : d.Fuse = 0) : syC d = 2 := by unfold syC; rw [@if_pos _ (Classical.propDecidable _) h, if_pos hf]
theorem syR_y {d : DiskD} (h : diskP d) (hf : d.Fuse ≠ 0) : syR d = ⟨d.Room, brn d.Fuse, seenF d, []⟩ := by unfold syR; rw [@if_pos _ (Classical.propDecidable _) h, if_neg hf]
theorem syC_y {d : DiskD} (h : diskP d) (hf : d.Fuse ≠ 0) : syC d = 0 := by unfold syC; rw [@if_pos _ (Classical.propDecidable _) h, if_neg hf]
theorem szD_L {d : DiskD} (h : szD d) : (d.Files).length ≤ 1048576 ∧ (d.Wait).length ≤ 1048576 ∧ (∀ s ∈ d.Files, s.Data.length ≤ 1048576) ∧ (∀ s ∈ d.Wait, s.Data.length ≤ 1048576) := ⟨h.1, h.2.1, fun s hs => (h.2.2.1 s hs).2, fun s hs => (h.2.2.2 s hs).2.2⟩

set_option maxHeartbeats 8000000 in
theorem implDiskSync_k (d : DiskD) (hz : szD d) : FnOK Try.prog 30 ⟨2, [(0, some (.ro ((d.Files).map (FileD.k 5)))), (1, some (.ro ((d.Wait).map (FsOpD.k 5))))], [.agg [.v (.int .i64 d.Room), .v (.int .i64 d.Fuse), .sl 0 2 0 (d.Files).length, .sl 1 4 0 (d.Wait).length]], .tup [.inr [.v (.int .i64 (syR d).Room), .v (.int .i64 (syR d).Fuse), .sl 2 2 0 ((syR d).Files).length, .sl 3 4 0 ((syR d).Wait).length], .inl (.v (.int .i64 (syC d)))], [(2, some (.nst 95 (((syR d).Files).map (FileD.k 5)) none)), (3, some (.nst 66 (((syR d).Wait).map (FsOpD.k 5)) none))], 4⟩ := by
  have cd := implDiskOk_k d hz
  have cc := copyDisk_k d (szD_L hz)
  by_cases hp : diskP d
  · obtain ⟨p1, p2, p3, p4⟩ := id hp
    obtain ⟨q1, q2, q3, q4⟩ := stF_ok hp (Nat.le_refl _)
    rw [diskO_y hp] at cd
    unfold hdD at p1
    by_cases hf : d.Fuse = 0
    · rw [syR_z hp hf, syC_z hp hf]
      refine fnOK_of true mixed Try.func30 rfl (by rfl) (by rfl) ?_
      have hres := congrArg Array.toList Try.results30
      simp only [Try.ntmps30, BGB, seval]
      (have gx := And.intro @List.length_map.{0,0} @hf; have q1 := cd; have q2 := cc; refine go ?_; (repeat' first | exact Ef.mk | apply Lf.mk | refine fun (K : KT) hK hE hT => ?_ | refine fun (KS : KE) hKS => ?_ | refine fun (D : KD) hD => ?_ | refine fun (hg : (_ : Prop)) => ?_ | fail); all_goals (first | (refine Wr.mk ?_; (try clear gx q1 q2); repeat first | clear hK hE hT K | clear hR hE hT K) | assumption | skip))
      (refine post_a hres (.inl rfl) ?_; simp only [RSB, ENB, seval, tiAll, hf]; simp only [MAB, seval]; refine ⟨rfl, rfl, ?_, ?_, ?_⟩ <;> (first | rfl | (simp [WKB, Nat.add_comm, hf]; done) | (simp only [WKB, seval])))
    · rw [syR_y hp hf, syC_y hp hf]
      dsimp only
      have cs := seenOf_y d hz p3 (by omega) (by omega) (by omega) p4
      refine fnOK_of true mixed Try.func30 rfl (by rfl) (by rfl) ?_
      have hres := congrArg Array.toList Try.results30
      simp only [Try.ntmps30, BGB, seval]
      repeat' ((fail_if_success with_reducible refine hand_k (id := 6) ?_); (first | (with_reducible first | refine seq_k fun K hK hE hT => ?_ | refine block_k fun K hK hE hT => ?_ | refine lex_nil ?_ | fail) | ((with_reducible refine region_k ?_); simp only [dstsOf, EVB, seval]) | ((with_reducible refine draw_k ?_ fun D hD => ?_); (focus (first | rfl | kernel_rfl)); simp only [dstsOf, EVB, seval]) | ((with_reducible first | refine lex_move ?_ | refine lex_assign ?_); simp only [EVB, seval]) | (with_reducible first | refine lex_cons fun KS hKS => ?_ | refine lexd_cons fun KS hKS => ?_ | refine skip_k ?_ | refine exit_k ?_ | refine ret_k ?_ | fail) | ((with_reducible refine call_go ?_); (first | ((first | refine call_a (cd) rfl rfl ?_ | refine call_a (cc) rfl rfl ?_ | fail); simp only [ENB, seval, tiAll, List.length_map]; simp only [MAB, seval]; refine ⟨rfl, ?_, ?_, ?_, rfl, ?_, ?_, ?_, ?_⟩; (iterate 6 (focus (first | rfl | (simp [CXB, map_take, List.length_map]; done) | (simp [CXB, List.length_map]; omega) | (dsimp only; omega)))); simp only [EFB, seval]) | fail)) | ((with_reducible refine step_go ?_); (fail_if_success with_reducible refine call_go ?_); simp only [ENB, seval, tiAll, List.length_map]) | ((with_reducible refine lexd_nil ?_ ?_); (focus (refine hD _ ?_; first | kernel_rfl | with_unfolding_all rfl)); clear hD; clear D) | ((with_reducible refine guard_go ?_); refine lex_gone rfl rfl ?_; simp only [EVB, seval]) | ((with_reducible refine guardd_go ?_); refine lexd_gone rfl rfl ?_; simp only [EVB, seval]) | ((first | ((with_reducible refine guard_go ?_); refine lex_guard rfl rfl (fun hg KS hKS => ?_) (fun hg => ?_)) | ((with_reducible refine guardd_go ?_); refine lexd_guard rfl rfl (fun hg KS hKS => ?_) (fun hg => ?_)) | ((with_reducible refine cond_go ?_); refine cond_k rfl (fun hg => ?_) (fun hg => ?_)) | (with_reducible refine And.intro (fun hg => ?_) (fun hg => ?_)) | fail) <;> first | ((with_reducible exfalso); exact absurd hg (by decide)) | ((try simp only [CNL] at hg) <;> first | ((with_reducible exfalso); omega) | ((with_reducible exfalso); first | exact tf (by assumption) hg | exact tf hg (by assumption)) | ((try with_reducible (have hT0 : True := hg; clear hT0 hg)); first | (with_reducible refine wpc_go ?_) | (try simp only [EVB, seval])))) | ((with_reducible refine hKS _ _ _ _ ?_); clear hKS; clear KS; simp only [EVB, seval]) | ((with_reducible refine And.intro ?_ ?_); focus (first | omega | exact u8_le _ | exact flat_intK _ | exact flat_bytK _ | (fail) | decide | (simp only [List.length_map]; done))) | ((with_reducible refine ex_p ?_ (fun hh => ?_)); focus (first | omega | (simp only [List.length_map]; omega))) | ((with_reducible refine hK _ _ _ ?_); clear hK hE hT; clear K) | ((with_reducible first | refine hE _ _ _ _ ?_ | refine hT _ _ _ ?_ | fail); (first | (clear hK hE hT; clear K) | (clear hR hE hT; clear K) | skip); try simp only [IFB, seval]) | ((with_reducible apply_assumption -symm -exfalso); try simp only [IFB, seval]) | fail))
      repeat' ((fail_if_success with_reducible refine hand_k (id := 6) ?_); (first | (with_reducible first | refine seq_k fun K hK hE hT => ?_ | refine block_k fun K hK hE hT => ?_ | refine lex_nil ?_ | fail) | ((with_reducible refine region_k ?_); simp only [dstsOf, EVB, seval]) | ((with_reducible refine draw_k ?_ fun D hD => ?_); (focus (first | rfl | kernel_rfl)); simp only [dstsOf, EVB, seval]) | ((with_reducible first | refine lex_move ?_ | refine lex_assign ?_); simp only [EVB, seval]) | (with_reducible first | refine lex_cons fun KS hKS => ?_ | refine lexd_cons fun KS hKS => ?_ | refine skip_k ?_ | refine exit_k ?_ | refine ret_k ?_ | fail) | ((with_reducible refine call_go ?_); fail) | ((with_reducible refine step_go ?_); (fail_if_success with_reducible refine call_go ?_); simp only [ENB, seval, tiAll, List.length_map]) | ((with_reducible refine lexd_nil ?_ ?_); (focus (refine hD _ ?_; first | kernel_rfl | with_unfolding_all rfl)); clear hD; clear D) | ((with_reducible refine guard_go ?_); refine lex_gone rfl rfl ?_; simp only [EVB, seval]) | ((with_reducible refine guardd_go ?_); refine lexd_gone rfl rfl ?_; simp only [EVB, seval]) | ((first | ((with_reducible refine guard_go ?_); refine lex_guard rfl rfl (fun hg KS hKS => ?_) (fun hg => ?_)) | ((with_reducible refine guardd_go ?_); refine lexd_guard rfl rfl (fun hg KS hKS => ?_) (fun hg => ?_)) | ((with_reducible refine cond_go ?_); refine cond_k rfl (fun hg => ?_) (fun hg => ?_)) | (with_reducible refine And.intro (fun hg => ?_) (fun hg => ?_)) | fail) <;> first | ((with_reducible exfalso); exact absurd hg (by decide)) | ((try simp only [CNL] at hg) <;> first | ((with_reducible exfalso); omega) | ((with_reducible exfalso); first | exact tf (by assumption) hg | exact tf hg (by assumption)) | ((try with_reducible (have hT0 : True := hg; clear hT0 hg)); first | (with_reducible refine wpc_go ?_) | (try simp only [EVB, seval])))) | ((with_reducible refine hKS _ _ _ _ ?_); clear hKS; clear KS; simp only [EVB, seval]) | ((with_reducible refine And.intro ?_ ?_); focus (first | omega | exact u8_le _ | exact flat_intK _ | exact flat_bytK _ | (fail) | decide | (simp only [List.length_map]; done))) | ((with_reducible refine ex_p ?_ (fun hh => ?_)); focus (first | omega | (simp only [List.length_map]; omega))) | ((with_reducible refine hK _ _ _ ?_); clear hK hE hT; clear K) | ((with_reducible first | refine hE _ _ _ _ ?_ | refine hT _ _ _ ?_ | fail); (first | (clear hK hE hT; clear K) | (clear hR hE hT; clear K) | skip); try simp only [IFB, seval]) | ((with_reducible apply_assumption -symm -exfalso); try simp only [IFB, seval]) | fail))
      refine region_k ?_
      simp only [dstsOf, EVB, seval]
      repeat' (first | (refine lex_fam [Vw.ro 0 0 d.Files.length true, Vw.ro 1 0 d.Wait.length true] cs rfl 0 rfl ?_ ?_) | (first | (with_reducible first | refine seq_k fun K hK hE hT => ?_ | refine block_k fun K hK hE hT => ?_ | refine lex_nil ?_ | fail) | ((with_reducible refine region_k ?_); simp only [dstsOf, EVB, seval]) | ((with_reducible refine draw_k ?_ fun D hD => ?_); (focus (first | rfl | kernel_rfl)); simp only [dstsOf, EVB, seval]) | ((with_reducible first | refine lex_move ?_ | refine lex_assign ?_); simp only [EVB, seval]) | (with_reducible first | refine lex_cons fun KS hKS => ?_ | refine lexd_cons fun KS hKS => ?_ | refine skip_k ?_ | refine exit_k ?_ | refine ret_k ?_ | fail) | ((with_reducible refine call_go ?_); fail) | ((with_reducible refine step_go ?_); (fail_if_success with_reducible refine call_go ?_); simp only [ENB, seval, tiAll, List.length_map]) | ((with_reducible refine lexd_nil ?_ ?_); (focus (refine hD _ ?_; first | kernel_rfl | with_unfolding_all rfl)); clear hD; clear D) | ((with_reducible refine guard_go ?_); refine lex_gone rfl rfl ?_; simp only [EVB, seval]) | ((with_reducible refine guardd_go ?_); refine lexd_gone rfl rfl ?_; simp only [EVB, seval]) | ((first | ((with_reducible refine guard_go ?_); refine lex_guard rfl rfl (fun hg KS hKS => ?_) (fun hg => ?_)) | ((with_reducible refine guardd_go ?_); refine lexd_guard rfl rfl (fun hg KS hKS => ?_) (fun hg => ?_)) | ((with_reducible refine cond_go ?_); refine cond_k rfl (fun hg => ?_) (fun hg => ?_)) | (with_reducible refine And.intro (fun hg => ?_) (fun hg => ?_)) | fail) <;> first | ((with_reducible exfalso); exact absurd hg (by decide)) | ((try simp only [CNL] at hg) <;> first | ((with_reducible exfalso); omega) | ((with_reducible exfalso); first | exact tf (by assumption) hg | exact tf hg (by assumption)) | ((try with_reducible (have hT0 : True := hg; clear hT0 hg)); first | (with_reducible refine wpc_go ?_) | (try simp only [EVB, seval])))) | ((with_reducible refine hKS _ _ _ _ ?_); clear hKS; clear KS; simp only [EVB, seval]) | ((with_reducible refine And.intro ?_ ?_); focus (first | omega | exact u8_le _ | exact flat_intK _ | exact flat_bytK _ | (fail) | decide | (simp only [List.length_map]; done))) | ((with_reducible refine ex_p ?_ (fun hh => ?_)); focus (first | omega | (simp only [List.length_map]; omega))) | ((with_reducible refine hK _ _ _ ?_); clear hK hE hT; clear K) | ((with_reducible first | refine hE _ _ _ _ ?_ | refine hT _ _ _ ?_ | fail); (first | (clear hK hE hT; clear K) | (clear hR hE hT; clear K) | skip); try simp only [IFB, seval]) | ((with_reducible apply_assumption -symm -exfalso); try simp only [IFB, seval]) | fail))
      · exact fun i => fits_of _ rfl (by simp [CXB]) (by simp [CXB]) rfl (by simp [CXB]) (by simp [CXB]) (by dsimp only; omega)
      intro b
      simp only [EFB, seval]
      simp only [EVB, seval]
      obtain ⟨M, hM⟩ : ∃ M, M = seenF d := ⟨_, rfl⟩
      have q1 : srtF M := by rw [hM]; exact q1
      have q2 : M.length ≤ 72 := by rw [hM]; exact q2
      have q4 : ∀ f ∈ M, f.Data.length ≤ 200000 := by rw [hM]; exact q4
      rw [← hM]
      have cl := flist_k b M q1 (by omega) (fun f hf => by have := q4 f hf; omega)
      have cb := burnB_k d.Room d.Fuse M (by omega)
      (have gx := @List.length_map.{0,0}; refine go ?_; (repeat' first | exact Ef.mk | apply Lf.mk | refine fun (K : KT) hK hE hT => ?_ | refine fun (KS : KE) hKS => ?_ | refine fun (D : KD) hD => ?_ | refine fun (hg : (_ : Prop)) => ?_ | fail); all_goals (first | (refine Wr.mk ?_; (try clear gx); repeat first | clear hK hE hT K | clear hR hE hT K) | assumption | skip))
      refine call_k [.same 8] (cl) rfl rfl rfl (fits_of _ rfl (by simp [CXB]) (by simp [CXB]) rfl (by simp [CXB]) (by simp [CXB]) (by dsimp only; omega)) ?_
      simp only [EFB, seval]
      refine hKS _ _ _ _ ?_
      clear hKS; clear KS; simp only [EVB, seval]
      (have gx := @List.length_map.{0,0}; have q1 := cb; refine go ?_; (repeat' first | exact Ef.mk | apply Lf.mk | refine fun (K : KT) hK hE hT => ?_ | refine fun (KS : KE) hKS => ?_ | refine fun (D : KD) hD => ?_ | refine fun (hg : (_ : Prop)) => ?_ | fail); all_goals (first | (refine Wr.mk ?_; (try clear gx q1); repeat first | clear hK hE hT K | clear hR hE hT K) | assumption | skip))
      (refine post_a hres (.inl rfl) ?_; simp only [RSB, ENB, seval, tiAll, List.map_nil, ← hM]; simp only [MAB, seval]; refine ⟨rfl, rfl, ?_, ?_, ?_⟩ <;> (first | rfl | (simp [WKB, Nat.add_comm, List.map_nil, ← hM]; done) | (simp only [WKB, seval])))
  · rw [diskO_n hp] at cd
    rw [syR_n hp, syC_n hp]
    refine fnOK_of true mixed Try.func30 rfl (by rfl) (by rfl) ?_
    have hres := congrArg Array.toList Try.results30
    simp only [Try.ntmps30, BGB, seval]
    (have gx := @List.length_map.{0,0}; have q1 := cd; refine go ?_; (repeat' first | exact Ef.mk | apply Lf.mk | refine fun (K : KT) hK hE hT => ?_ | refine fun (KS : KE) hKS => ?_ | refine fun (D : KD) hD => ?_ | refine fun (hg : (_ : Prop)) => ?_ | fail); all_goals (first | (refine Wr.mk ?_; (try clear gx q1); repeat first | clear hK hE hT K | clear hR hE hT K) | assumption | skip))
    (refine post_a hres (.inl rfl) ?_; simp only [RSB, ENB, seval, tiAll, dk0, List.map_nil]; simp only [MAB, seval]; refine ⟨rfl, rfl, ?_, ?_, ?_⟩ <;> (first | rfl | (simp [WKB, Nat.add_comm, dk0, List.map_nil]; done) | (simp only [WKB, seval])))

end Go.Proofs.Ytfnhchcgieeedaa

namespace Go.Proofs.Ytfnhchcgieeedaa
set_option linter.unusedSimpArgs false
set_option linter.unusedVariables false
set_option linter.defProp false
set_option maxRecDepth 20000
open Go.RowKit

/-- A number kept from 0 to m. -/
def clF (n : Int) (m : Nat) : Nat := (max 0 (min n (m : Int))).toNat
theorem clF_le (n : Int) (m : Nat) : clF n m ≤ m := by unfold clF; omega
theorem clF_cast (n : Int) (m : Nat) : ((clF n m : Nat) : Int) = max 0 (min n (m : Int)) := by unfold clF; omega
/-- The operation of which a part was done. -/
def ptO (o : FsOpD) (b : Int) : FsOpD := { o with Data := o.Data.take (clF b o.Data.length) }
/-- The list behind a power failure. -/
def crF (d : DiskD) (n b : Int) : List FileD :=
  let k := clF n d.Wait.length
  match d.Wait[k]? with
  | some o => if o.Kind = 2 then mkF (stF d.Files d.Wait k) (ptO o b) else stF d.Files d.Wait k
  | none => stF d.Files d.Wait k
theorem crF_end {d : DiskD} {n b : Int} (h : ¬ clF n d.Wait.length < d.Wait.length) : crF d n b = stF d.Files d.Wait (clF n d.Wait.length) := by
  unfold crF
  simp only
  rw [List.getElem?_eq_none (by omega)]
theorem crF_no {d : DiskD} {n b : Int} (h : clF n d.Wait.length < d.Wait.length) (hk : (d.Wait[clF n d.Wait.length]).Kind ≠ 2) : crF d n b = stF d.Files d.Wait (clF n d.Wait.length) := by
  unfold crF
  simp only
  rw [List.getElem?_eq_getElem h]
  simp only
  rw [if_neg hk]
theorem crF_pt {d : DiskD} {n b : Int} (h : clF n d.Wait.length < d.Wait.length) (hk : (d.Wait[clF n d.Wait.length]).Kind = 2) : crF d n b = mkF (stF d.Files d.Wait (clF n d.Wait.length)) (ptO (d.Wait[clF n d.Wait.length]) b) := by
  unfold crF
  simp only
  rw [List.getElem?_eq_getElem h]
  simp only
  rw [if_pos hk]

noncomputable def crR (d : DiskD) (n b : Int) : DiskD := @ite _ (diskP d) (Classical.propDecidable _) ⟨d.Room, -1, crF d n b, []⟩ dk0
theorem crR_y {d : DiskD} (h : diskP d) (n b : Int) : crR d n b = ⟨d.Room, -1, crF d n b, []⟩ := by unfold crR; exact @if_pos _ (Classical.propDecidable _) h _ _ _
theorem crR_n {d : DiskD} (h : ¬ diskP d) (n b : Int) : crR d n b = dk0 := by unfold crR; exact @if_neg _ (Classical.propDecidable _) h _ _ _

theorem fitsF_pt (M : List FileD) (o : FsOpD) (b : Int) : fitsF M (ptO o b) = fitsF M o := rfl

theorem lit_n {K : IntKind} {m : Nat} {P : Nat → Prop} : (∃ x : Nat, (∃ k, SV.c (CV.v (Value.int K (m : Int))) = SV.c (CV.v (Value.int k (x : Int)))) ∧ P x) ↔ P m := by
  constructor
  · rintro ⟨x, ⟨k, h⟩, hp⟩
    have h2 : ((m : Nat) : Int) = (x : Int) := by injection h with h; injection h with h; injection h
    obtain rfl : x = m := by omega
    exact hp
  · intro h; exact ⟨m, ⟨K, rfl⟩, h⟩

set_option maxHeartbeats 16000000 in
theorem implDiskCrash_k (d : DiskD) (n b : Int) (hz : szD d) : FnOK Try.prog 27 ⟨2, [(0, some (.ro ((d.Files).map (FileD.k 5)))), (1, some (.ro ((d.Wait).map (FsOpD.k 5))))], [.agg [.v (.int .i64 d.Room), .v (.int .i64 d.Fuse), .sl 0 2 0 (d.Files).length, .sl 1 4 0 (d.Wait).length], .c (.v (.int .i64 n)), .c (.v (.int .i64 b))], .tup [.inr [.v (.int .i64 (crR d n b).Room), .v (.int .i64 (crR d n b).Fuse), .sl 2 2 0 ((crR d n b).Files).length, .sl 3 4 0 ((crR d n b).Wait).length], .inl (.v (.bool (diskO d)))], [(2, some (.nst 95 (((crR d n b).Files).map (FileD.k 5)) none)), (3, some (.nst 66 (((crR d n b).Wait).map (FsOpD.k 5)) none))], 4⟩ := by
  have cd := implDiskOk_k d hz
  obtain ⟨z1, z2, z3, z4⟩ := id hz
  by_cases hp : diskP d
  · obtain ⟨p1, p2, p3, p4⟩ := id hp
    rw [diskO_y hp] at cd ⊢
    rw [crR_y hp]
    dsimp only
    unfold hdD at p1
    have cf := filesOf_k d.Files p3 z1 (fun f h => (z3 f h).1) (fun f h => (z3 f h).2)
    have ck := iclamp_k n d.Wait.length
    rw [← clF_cast] at ck
    have hkl := clF_le n d.Wait.length
    have hend := @crF_end d n b
    have hno := @crF_no d n b
    have hpt := @crF_pt d n b
    obtain ⟨R, hR0⟩ : ∃ R, R = crF d n b := ⟨_, rfl⟩
    rw [← hR0] at hend hno hpt ⊢
    obtain ⟨m, hm⟩ : ∃ m, m = clF n d.Wait.length := ⟨_, rfl⟩
    rw [← hm] at ck hkl hend
    simp only [← hm] at hno hpt
    refine fnOK_of true mixed Try.func27 rfl (by rfl) (by rfl) ?_
    have hres := congrArg Array.toList Try.results27
    simp only [Try.ntmps27, BGB, seval]
    repeat' ((fail_if_success with_reducible refine hand_k (id := 3) ?_); (first | (with_reducible first | refine seq_k fun K hK hE hT => ?_ | refine block_k fun K hK hE hT => ?_ | refine lex_nil ?_ | fail) | ((with_reducible refine region_k ?_); simp only [dstsOf, EVB, seval]) | ((with_reducible refine draw_k ?_ fun D hD => ?_); (focus (first | rfl | kernel_rfl)); simp only [dstsOf, EVB, seval]) | ((with_reducible first | refine lex_move ?_ | refine lex_assign ?_); simp only [EVB, seval]) | (with_reducible first | refine lex_cons fun KS hKS => ?_ | refine lexd_cons fun KS hKS => ?_ | refine skip_k ?_ | refine exit_k ?_ | refine ret_k ?_ | fail) | ((with_reducible refine call_go ?_); (first | ((first | refine call_a (cd) rfl rfl ?_ | fail); simp only [ENB, seval, tiAll, List.length_map]; simp only [MAB, seval]; refine ⟨rfl, ?_, ?_, ?_, rfl, ?_, ?_, ?_, ?_⟩; (iterate 6 (focus (first | rfl | (simp [CXB, map_take, List.length_map]; done) | (simp [CXB, List.length_map]; omega) | (dsimp only; omega)))); simp only [EFB, seval]) | fail)) | ((with_reducible refine step_go ?_); (fail_if_success with_reducible refine call_go ?_); simp only [ENB, seval, tiAll, List.length_map]) | ((with_reducible refine lexd_nil ?_ ?_); (focus (refine hD _ ?_; first | kernel_rfl | with_unfolding_all rfl)); clear hD; clear D) | ((with_reducible refine guard_go ?_); refine lex_gone rfl rfl ?_; simp only [EVB, seval]) | ((with_reducible refine guardd_go ?_); refine lexd_gone rfl rfl ?_; simp only [EVB, seval]) | ((first | ((with_reducible refine guard_go ?_); refine lex_guard rfl rfl (fun hg KS hKS => ?_) (fun hg => ?_)) | ((with_reducible refine guardd_go ?_); refine lexd_guard rfl rfl (fun hg KS hKS => ?_) (fun hg => ?_)) | ((with_reducible refine cond_go ?_); refine cond_k rfl (fun hg => ?_) (fun hg => ?_)) | (with_reducible refine And.intro (fun hg => ?_) (fun hg => ?_)) | fail) <;> first | ((with_reducible exfalso); exact absurd hg (by decide)) | ((try simp only [CNL] at hg) <;> first | ((with_reducible exfalso); omega) | ((with_reducible exfalso); first | exact tf (by assumption) hg | exact tf hg (by assumption)) | ((try with_reducible (have hT0 : True := hg; clear hT0 hg)); first | (with_reducible refine wpc_go ?_) | (try simp only [EVB, seval])))) | ((with_reducible refine hKS _ _ _ _ ?_); clear hKS; clear KS; simp only [EVB, seval]) | ((with_reducible refine And.intro ?_ ?_); focus (first | omega | exact u8_le _ | exact flat_intK _ | exact flat_bytK _ | (fail) | decide | (simp only [List.length_map]; done))) | ((with_reducible refine ex_p ?_ (fun hh => ?_)); focus (first | omega | (simp only [List.length_map]; omega))) | ((with_reducible refine hK _ _ _ ?_); clear hK hE hT; clear K) | ((with_reducible first | refine hE _ _ _ _ ?_ | refine hT _ _ _ ?_ | fail); (first | (clear hK hE hT; clear K) | (clear hR hE hT; clear K) | skip); try simp only [IFB, seval]) | ((with_reducible apply_assumption -symm -exfalso); try simp only [IFB, seval]) | fail))
    refine region_k ?_
    simp only [dstsOf, EVB, seval]
    repeat' (first | (refine lex_fam [Vw.ro 0 0 d.Files.length true] cf rfl 0 rfl ?_ ?_) | (first | (with_reducible first | refine seq_k fun K hK hE hT => ?_ | refine block_k fun K hK hE hT => ?_ | refine lex_nil ?_ | fail) | ((with_reducible refine region_k ?_); simp only [dstsOf, EVB, seval]) | ((with_reducible refine draw_k ?_ fun D hD => ?_); (focus (first | rfl | kernel_rfl)); simp only [dstsOf, EVB, seval]) | ((with_reducible first | refine lex_move ?_ | refine lex_assign ?_); simp only [EVB, seval]) | (with_reducible first | refine lex_cons fun KS hKS => ?_ | refine lexd_cons fun KS hKS => ?_ | refine skip_k ?_ | refine exit_k ?_ | refine ret_k ?_ | fail) | ((with_reducible refine call_go ?_); fail) | ((with_reducible refine step_go ?_); (fail_if_success with_reducible refine call_go ?_); simp only [ENB, seval, tiAll, List.length_map]) | ((with_reducible refine lexd_nil ?_ ?_); (focus (refine hD _ ?_; first | kernel_rfl | with_unfolding_all rfl)); clear hD; clear D) | ((with_reducible refine guard_go ?_); refine lex_gone rfl rfl ?_; simp only [EVB, seval]) | ((with_reducible refine guardd_go ?_); refine lexd_gone rfl rfl ?_; simp only [EVB, seval]) | ((first | ((with_reducible refine guard_go ?_); refine lex_guard rfl rfl (fun hg KS hKS => ?_) (fun hg => ?_)) | ((with_reducible refine guardd_go ?_); refine lexd_guard rfl rfl (fun hg KS hKS => ?_) (fun hg => ?_)) | ((with_reducible refine cond_go ?_); refine cond_k rfl (fun hg => ?_) (fun hg => ?_)) | (with_reducible refine And.intro (fun hg => ?_) (fun hg => ?_)) | fail) <;> first | ((with_reducible exfalso); exact absurd hg (by decide)) | ((try simp only [CNL] at hg) <;> first | ((with_reducible exfalso); omega) | ((with_reducible exfalso); first | exact tf (by assumption) hg | exact tf hg (by assumption)) | ((try with_reducible (have hT0 : True := hg; clear hT0 hg)); first | (with_reducible refine wpc_go ?_) | (try simp only [EVB, seval])))) | ((with_reducible refine hKS _ _ _ _ ?_); clear hKS; clear KS; simp only [EVB, seval]) | ((with_reducible refine And.intro ?_ ?_); focus (first | omega | exact u8_le _ | exact flat_intK _ | exact flat_bytK _ | (fail) | decide | (simp only [List.length_map]; done))) | ((with_reducible refine ex_p ?_ (fun hh => ?_)); focus (first | omega | (simp only [List.length_map]; omega))) | ((with_reducible refine hK _ _ _ ?_); clear hK hE hT; clear K) | ((with_reducible first | refine hE _ _ _ _ ?_ | refine hT _ _ _ ?_ | fail); (first | (clear hK hE hT; clear K) | (clear hR hE hT; clear K) | skip); try simp only [IFB, seval]) | ((with_reducible apply_assumption -symm -exfalso); try simp only [IFB, seval]) | fail))
    · exact fun i => fits_of _ rfl (by simp [CXB]) (by simp [CXB]) rfl (by simp [CXB]) (by simp [CXB]) (by dsimp only; omega)
    intro mb
    simp only [EFB, seval]
    simp only [EVB, seval]
    (have gx := And.intro @List.length_map.{0,0} @lit_n; have q1 := ck; refine go ?_; (repeat' first | exact Ef.mk | apply Lf.mk | refine fun (K : KT) hK hE hT => ?_ | refine fun (KS : KE) hKS => ?_ | refine fun (D : KD) hD => ?_ | refine fun (hg : (_ : Prop)) => ?_ | fail); all_goals (first | (refine Wr.mk ?_; (try clear gx q1); repeat first | clear hK hE hT K | clear hR hE hT K) | assumption | skip))
    refine loop_v (X := {k : Nat // k ≤ m}) [] (fun x => [(29, .c (.v (.int .i64 ((x.1 : Nat) : Int))))]) (fun x => [(0, some (.ro ((d.Files).map (FileD.k 5)))), (1, some (.ro ((d.Wait).map (FsOpD.k 5)))), (2, some (.box 50 [.v (.int .i64 d.Room), .v (.int .i64 d.Fuse), .sl 0 2 0 (d.Files).length, .sl 1 4 0 (d.Wait).length])), (3, some (.box 50 [.v (.int .i64 0), .v (.int .i64 0), .nil, .nil])), (4, some (.gx [mb] (mapS Try.prog 9 5 mb (stF d.Files d.Wait x.1))))]) 5 (fun x => m - x.1) ⟨0, by omega⟩ ?_
    simp only [KPB, seval]
    refine ⟨?_, ?_⟩
    · (refine wk_a ?_; simp only [MAB, seval]; refine ⟨rfl, rfl, (by decide), ?_, ?_⟩; all_goals (first | (simp only [WKB, seval, stF_zero]; done) | (simp [WKB, seval, stF_zero]; done) | simp only [WKB, seval]))
    · rintro ⟨k, hk⟩ K hR hE hT
      rcases Nat.lt_or_ge k m with hlt | hge
      case inl =>
        have hlt' : k < d.Wait.length := by omega
        obtain ⟨o1, o2, o3⟩ := p4.2 k hlt' hlt'
        have e := stF_succ (M := d.Files) hlt'
        obtain ⟨q1, q2, q3, q4⟩ := stF_ok hp (Nat.le_of_lt hlt')
        obtain ⟨w1, w2, w3⟩ := z4 _ (List.getElem_mem hlt')
        obtain ⟨M, hM⟩ : ∃ M, M = stF d.Files d.Wait k := ⟨_, rfl⟩
        obtain ⟨o, ho⟩ : ∃ o, o = d.Wait[k] := ⟨_, rfl⟩
        rw [← ho] at o1 o2 e w1 w2 w3
        rw [← hM] at o2 e q1 q2 q4
        simp only [← hM]
        have k3 := fdo_k mb M o q1 (by omega) (fun f hf => by have := q4 f hf; omega) (opO_kind o1) o2 w1 w2 w3
        (have gx := And.intro (@List.length_map.{0,0}) (And.intro (@List.getElem_map.{0,0}) (And.intro (ho).symm @FsOpD.k.eq_1)); refine go ?_; (repeat' first | exact Ef.mk | apply Lf.mk | refine fun (K : KT) hK hE hT => ?_ | refine fun (KS : KE) hKS => ?_ | refine fun (D : KD) hD => ?_ | refine fun (hg : (_ : Prop)) => ?_ | fail); all_goals (first | (refine Wr.mk ?_; (try clear gx); repeat first | clear hK hE hT K | clear hR hE hT K) | assumption | skip))
        refine call_k [.same 4, .ro 5 0 o.Data.length true] (k3) rfl rfl rfl (fits_of _ rfl (by simp [CXB]) (by simp [CXB]) rfl (by simp [CXB]) (by simp [CXB]) (by dsimp only; omega)) ?_
        simp only [EFB, seval]
        refine hKS _ _ _ _ ?_
        clear hKS; clear KS; simp only [EVB, seval]
        (have gx := @List.length_map.{0,0}; refine go ?_; (repeat' first | exact Ef.mk | apply Lf.mk | refine fun (K : KT) hK hE hT => ?_ | refine fun (KS : KE) hKS => ?_ | refine fun (D : KD) hD => ?_ | refine fun (hg : (_ : Prop)) => ?_ | fail); all_goals (first | (refine Wr.mk ?_; (try clear gx); repeat first | clear hK hE hT K | clear hR hE hT K) | assumption | skip))
        (refine hR.out ⟨k + 1, by omega⟩ _ _ _ (by simp only; omega) ?_; (refine wk_a ?_; simp only [MAB, seval]; refine ⟨rfl, rfl, (by decide), ?_, ?_⟩; all_goals (first | (simp only [WKB, seval, e]; done) | (simp [WKB, seval, e]; done) | simp only [WKB, seval])))
      case inr =>
        obtain rfl : k = m := by omega
        obtain ⟨q1, q2, q3, q4⟩ := stF_ok hp hkl
        rcases Nat.lt_or_ge k d.Wait.length with hlt | hge
        · obtain ⟨o1, o2, o3⟩ := p4.2 k hlt hlt
          have hno := hno hlt
          have hpt := hpt hlt
          obtain ⟨w1, w2, w3⟩ := z4 _ (List.getElem_mem hlt)
          obtain ⟨M, hM⟩ : ∃ M, M = stF d.Files d.Wait k := ⟨_, rfl⟩
          obtain ⟨o, ho⟩ : ∃ o, o = d.Wait[k] := ⟨_, rfl⟩
          rw [← ho] at o1 o2 w1 w2 w3 hno hpt
          rw [← hM] at o2 q1 q2 q3 q4 hno hpt
          simp only [← hM]
          by_cases h2 : o.Kind = 2
          · have hpt := hpt h2
            have hDl : o.Data.length ≤ 200000 := by
              rw [opO_a h2] at o1
              simp only [Bool.and_eq_true, decide_eq_true_eq] at o1
              exact o1.2.2
            have cop := copyOp_k o w3
            have cc := iclamp_k b o.Data.length
            rw [← clF_cast] at cc
            have hcl := clF_le b o.Data.length
            have eD : (ptO o b).Data = o.Data.take (clF b o.Data.length) := rfl
            have k3 := fdo_k mb M (ptO o b) q1 (by omega) (fun f hf => by have := q4 f hf; omega) (by show 1 ≤ o.Kind ∧ o.Kind ≤ 4; exact opO_kind o1) o2 w1 w2 (by rw [eD, List.length_take]; omega)
            obtain ⟨c, hc⟩ : ∃ c, c = clF b o.Data.length := ⟨_, rfl⟩
            rw [← hc] at cc hcl eD
            have lD : (ptO o b).Data.length = c := by rw [eD, List.length_take]; omega
            have mD : (ptO o b).Data.map bytK = (o.Data.map bytK).take c := by rw [eD, List.map_take]
            have g1 : srtF R := by rw [hpt]; exact mkF_srt q1 _
            have g2 : R.length ≤ 1048576 := by rw [hpt]; have := mkF_len M (ptO o b); omega
            have g3 : byF R ≤ 1048576 := by rw [hpt]; have := byF_mk M (ptO o b); rw [lD] at this; omega
            have kD : (ptO o b).Kind = 2 := h2
            rw [lD, mD, kD] at k3
            have cl := flist_k mb R g1 g2 (fun f hf => by have := byF_ge hf; omega)
            rw [← hpt] at k3
            repeat' ((fail_if_success with_reducible refine hand_k (id := 13) ?_); (first | (with_reducible first | refine seq_k fun K hK hE hT => ?_ | refine block_k fun K hK hE hT => ?_ | refine lex_nil ?_ | fail) | ((with_reducible refine region_k ?_); simp only [dstsOf, EVB, seval]) | ((with_reducible refine draw_k ?_ fun D hD => ?_); (focus (first | rfl | kernel_rfl)); simp only [dstsOf, EVB, seval]) | ((with_reducible first | refine lex_move ?_ | refine lex_assign ?_); simp only [EVB, seval]) | (with_reducible first | refine lex_cons fun KS hKS => ?_ | refine lexd_cons fun KS hKS => ?_ | refine skip_k ?_ | refine exit_k ?_ | refine ret_k ?_ | fail) | ((with_reducible refine call_go ?_); (first | ((first | refine call_a (cop) rfl rfl ?_ | refine call_a (cc) rfl rfl ?_ | fail); simp only [ENB, seval, tiAll, List.length_map, List.getElem_map, ← ho, FsOpD.k, h2, lit_n, Option.toArray_none, Option.toArray_some]; simp only [MAB, seval]; refine ⟨rfl, ?_, ?_, ?_, rfl, ?_, ?_, ?_, ?_⟩; (iterate 6 (focus (first | rfl | (simp [CXB, map_take, List.length_map, List.getElem_map, ← ho, FsOpD.k, h2, lit_n, Option.toArray_none, Option.toArray_some]; done) | (simp [CXB, List.length_map, List.getElem_map, ← ho, FsOpD.k, h2, lit_n, Option.toArray_none, Option.toArray_some]; omega) | (dsimp only; omega)))); simp only [EFB, seval]) | fail)) | ((with_reducible refine step_go ?_); (fail_if_success with_reducible refine call_go ?_); simp only [ENB, seval, tiAll, List.length_map, List.getElem_map, ← ho, FsOpD.k, h2, lit_n, Option.toArray_none, Option.toArray_some]) | ((with_reducible refine lexd_nil ?_ ?_); (focus (refine hD _ ?_; first | kernel_rfl | with_unfolding_all rfl)); clear hD; clear D) | ((with_reducible refine guard_go ?_); refine lex_gone rfl rfl ?_; simp only [EVB, seval]) | ((with_reducible refine guardd_go ?_); refine lexd_gone rfl rfl ?_; simp only [EVB, seval]) | ((first | ((with_reducible refine guard_go ?_); refine lex_guard rfl rfl (fun hg KS hKS => ?_) (fun hg => ?_)) | ((with_reducible refine guardd_go ?_); refine lexd_guard rfl rfl (fun hg KS hKS => ?_) (fun hg => ?_)) | ((with_reducible refine cond_go ?_); refine cond_k rfl (fun hg => ?_) (fun hg => ?_)) | (with_reducible refine And.intro (fun hg => ?_) (fun hg => ?_)) | fail) <;> first | ((with_reducible exfalso); exact absurd hg (by decide)) | ((try simp only [CNL] at hg) <;> first | ((with_reducible exfalso); omega) | ((with_reducible exfalso); first | exact tf (by assumption) hg | exact tf hg (by assumption)) | ((try with_reducible (have hT0 : True := hg; clear hT0 hg)); first | (with_reducible refine wpc_go ?_) | (try simp only [EVB, seval])))) | ((with_reducible refine hKS _ _ _ _ ?_); clear hKS; clear KS; simp only [EVB, seval]) | ((with_reducible refine And.intro ?_ ?_); focus (first | omega | exact u8_le _ | exact flat_intK _ | exact flat_bytK _ | (fail) | decide | (simp only [List.length_map, List.getElem_map, ← ho, FsOpD.k, h2, lit_n, Option.toArray_none, Option.toArray_some]; done))) | ((with_reducible refine ex_p ?_ (fun hh => ?_)); focus (first | omega | (simp only [List.length_map, List.getElem_map, ← ho, FsOpD.k, h2, lit_n, Option.toArray_none, Option.toArray_some]; omega))) | ((with_reducible refine hK _ _ _ ?_); clear hK hE hT; clear K) | ((with_reducible first | refine hE _ _ _ _ ?_ | refine hT _ _ _ ?_ | fail); (first | (clear hK hE hT; clear K) | (clear hR hE hT; clear K) | skip); try simp only [IFB, seval]) | ((with_reducible apply_assumption -symm -exfalso); try simp only [IFB, seval]) | fail))
            refine region_w (wk_freezeG (g := 6) rfl (.inl ⟨_, rfl⟩) (by decide)) ?_
            simp only [EVB, seval]
            (have gx := @List.length_map.{0,0}; refine go ?_; (repeat' first | exact Ef.mk | apply Lf.mk | refine fun (K : KT) hK hE hT => ?_ | refine fun (KS : KE) hKS => ?_ | refine fun (D : KD) hD => ?_ | refine fun (hg : (_ : Prop)) => ?_ | fail); all_goals (first | (refine Wr.mk ?_; (try clear gx); repeat first | clear hK hE hT K | clear hR hE hT K) | assumption | skip))
            refine call_k [.same 4, .ro 6 0 c true] (k3) rfl rfl rfl (fits_of _ rfl (by simp [CXB, hcl]) (by simp [CXB, hcl]) rfl (by simp [CXB, hcl]) (by simp [CXB, hcl]) (by dsimp only; omega)) ?_
            simp only [EFB, seval]
            refine hKS _ _ _ _ ?_
            clear hKS; clear KS; simp only [EVB, seval]
            (have gx := @List.length_map.{0,0}; refine go ?_; (repeat' first | exact Ef.mk | apply Lf.mk | refine fun (K : KT) hK hE hT => ?_ | refine fun (KS : KE) hKS => ?_ | refine fun (D : KD) hD => ?_ | refine fun (hg : (_ : Prop)) => ?_ | fail); all_goals (first | (refine Wr.mk ?_; (try clear gx); repeat first | clear hK hE hT K | clear hR hE hT K) | assumption | skip))
            refine call_k [.same 4] (cl) rfl rfl rfl (fits_of _ rfl (by simp [CXB]) (by simp [CXB]) rfl (by simp [CXB]) (by simp [CXB]) (by dsimp only; omega)) ?_
            simp only [EFB, seval]
            refine hKS _ _ _ _ ?_
            clear hKS; clear KS; simp only [EVB, seval]
            (have gx := @List.length_map.{0,0}; refine go ?_; (repeat' first | exact Ef.mk | apply Lf.mk | refine fun (K : KT) hK hE hT => ?_ | refine fun (KS : KE) hKS => ?_ | refine fun (D : KD) hD => ?_ | refine fun (hg : (_ : Prop)) => ?_ | fail); all_goals (first | (refine Wr.mk ?_; (try clear gx); repeat first | clear hK hE hT K | clear hR hE hT K) | assumption | skip))
            (refine post_a hres (.inl rfl) ?_; simp only [RSB, ENB, seval, tiAll, List.map_nil]; simp only [MAB, seval]; refine ⟨rfl, rfl, ?_, ?_, ?_⟩ <;> (first | rfl | (simp [WKB, Nat.add_comm, List.map_nil]; done) | (simp only [WKB, seval])))
          · have hno := hno h2
            have g1 : srtF R := by rw [hno]; exact q1
            have cl := flist_k mb R g1 (by rw [hno]; omega) (fun f hf => by rw [hno] at hf; have := q4 f hf; omega)
            rw [← hno]
            (have gx := And.intro (@List.length_map.{0,0}) (And.intro (@List.getElem_map.{0,0}) (And.intro ((ho).symm) (And.intro @FsOpD.k.eq_1 @h2))); refine go ?_; (repeat' first | exact Ef.mk | apply Lf.mk | refine fun (K : KT) hK hE hT => ?_ | refine fun (KS : KE) hKS => ?_ | refine fun (D : KD) hD => ?_ | refine fun (hg : (_ : Prop)) => ?_ | fail); all_goals (first | (refine Wr.mk ?_; (try clear gx); repeat first | clear hK hE hT K | clear hR hE hT K) | assumption | skip))
            refine call_k [.same 4] (cl) rfl rfl rfl (fits_of _ rfl (by simp [CXB]) (by simp [CXB]) rfl (by simp [CXB]) (by simp [CXB]) (by dsimp only; omega)) ?_
            simp only [EFB, seval]
            refine hKS _ _ _ _ ?_
            clear hKS; clear KS; simp only [EVB, seval]
            (have gx := @List.length_map.{0,0}; refine go ?_; (repeat' first | exact Ef.mk | apply Lf.mk | refine fun (K : KT) hK hE hT => ?_ | refine fun (KS : KE) hKS => ?_ | refine fun (D : KD) hD => ?_ | refine fun (hg : (_ : Prop)) => ?_ | fail); all_goals (first | (refine Wr.mk ?_; (try clear gx); repeat first | clear hK hE hT K | clear hR hE hT K) | assumption | skip))
            (refine post_a hres (.inl rfl) ?_; simp only [RSB, ENB, seval, tiAll, List.map_nil]; simp only [MAB, seval]; refine ⟨rfl, rfl, ?_, ?_, ?_⟩ <;> (first | rfl | (simp [WKB, Nat.add_comm, List.map_nil]; done) | (simp only [WKB, seval])))
        · have hend := hend (by omega)
          rw [← hend] at q1 q2 q4 ⊢
          have cl := flist_k mb R q1 (by omega) (fun f hf => by have := q4 f hf; omega)
          (have gx := @List.length_map.{0,0}; refine go ?_; (repeat' first | exact Ef.mk | apply Lf.mk | refine fun (K : KT) hK hE hT => ?_ | refine fun (KS : KE) hKS => ?_ | refine fun (D : KD) hD => ?_ | refine fun (hg : (_ : Prop)) => ?_ | fail); all_goals (first | (refine Wr.mk ?_; (try clear gx); repeat first | clear hK hE hT K | clear hR hE hT K) | assumption | skip))
          refine call_k [.same 4] (cl) rfl rfl rfl (fits_of _ rfl (by simp [CXB]) (by simp [CXB]) rfl (by simp [CXB]) (by simp [CXB]) (by dsimp only; omega)) ?_
          simp only [EFB, seval]
          refine hKS _ _ _ _ ?_
          clear hKS; clear KS; simp only [EVB, seval]
          (have gx := @List.length_map.{0,0}; refine go ?_; (repeat' first | exact Ef.mk | apply Lf.mk | refine fun (K : KT) hK hE hT => ?_ | refine fun (KS : KE) hKS => ?_ | refine fun (D : KD) hD => ?_ | refine fun (hg : (_ : Prop)) => ?_ | fail); all_goals (first | (refine Wr.mk ?_; (try clear gx); repeat first | clear hK hE hT K | clear hR hE hT K) | assumption | skip))
          (refine post_a hres (.inl rfl) ?_; simp only [RSB, ENB, seval, tiAll, List.map_nil]; simp only [MAB, seval]; refine ⟨rfl, rfl, ?_, ?_, ?_⟩ <;> (first | rfl | (simp [WKB, Nat.add_comm, List.map_nil]; done) | (simp only [WKB, seval])))
  · rw [diskO_n hp] at cd ⊢
    rw [crR_n hp]
    refine fnOK_of true mixed Try.func27 rfl (by rfl) (by rfl) ?_
    have hres := congrArg Array.toList Try.results27
    simp only [Try.ntmps27, BGB, seval]
    (have gx := @List.length_map.{0,0}; have q1 := cd; refine go ?_; (repeat' first | exact Ef.mk | apply Lf.mk | refine fun (K : KT) hK hE hT => ?_ | refine fun (KS : KE) hKS => ?_ | refine fun (D : KD) hD => ?_ | refine fun (hg : (_ : Prop)) => ?_ | fail); all_goals (first | (refine Wr.mk ?_; (try clear gx q1); repeat first | clear hK hE hT K | clear hR hE hT K) | assumption | skip))
    (refine post_a hres (.inl rfl) ?_; simp only [RSB, ENB, seval, tiAll, dk0, List.map_nil]; simp only [MAB, seval]; refine ⟨rfl, rfl, ?_, ?_, ?_⟩ <;> (first | rfl | (simp [WKB, Nat.add_comm, dk0, List.map_nil]; done) | (simp only [WKB, seval])))

end Go.Proofs.Ytfnhchcgieeedaa
