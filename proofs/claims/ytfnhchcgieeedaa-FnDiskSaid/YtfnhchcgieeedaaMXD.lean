/-
  The engine, texts DD1 DD2 DD3 in one. No conditions of its own.
-/
import Derived.Test.YtfnhchcgieeedaaGO
import Derived.Test.YtfnhchcgieeedaaMXB
import Derived.Test.YtfnhchcgieeedaaWC
namespace Go.Proofs.Ytfnhchcgieeedaa
set_option linter.unusedSimpArgs false
set_option linter.unusedVariables false
set_option linter.unusedSimpArgs false
set_option linter.unusedVariables false
set_option linter.defProp false
open Go.RowKit

theorem byF_lessE : ∀ {M : List FileD}, srtF M → ∀ s, byF (lessF M s) + ((lkF M s).getD []).length = byF M
  | [], _, s => rfl
  | f :: M, h, s => by
    obtain ⟨h1, h2⟩ := List.pairwise_cons.1 h
    have ih := byF_lessE h2 s
    rw [lkF_cons]
    by_cases e : f.Name = s
    · have e1 : lessF (f :: M) s = lessF M s := by simp [lessF, e]
      have e2 : lkF M s = none := by
        cases e3 : lkF M s with
        | none => rfl
        | some d =>
          obtain ⟨g, g1, g2, _⟩ := lkF_some e3
          exact absurd (e.trans g2.symm) (bl_ne (h1 g g1))
      rw [e2] at ih
      rw [e1, if_pos e]
      simp only [byF, Option.getD_some, Option.getD_none, List.length_nil] at ih ⊢
      omega
    · have e1 : lessF (f :: M) s = f :: lessF M s := by simp [lessF, e]
      rw [e1, if_neg e]
      simp only [byF]
      omega
theorem byF_withE {M : List FileD} (h : srtF M) (x : FileD) : byF (withF M x) + ((lkF M x.Name).getD []).length = byF M + x.Data.length := by
  unfold withF
  rw [byF_ins]
  have := byF_lessE h x.Name
  omega
/-- How large the list is behind an operation that fits. -/
theorem byF_mkE {M : List FileD} (h : srtF M) {o : FsOpD} (hf : fitsF M o = true) : (o.Kind = 2 → byF (mkF M o) = byF M + o.Data.length) ∧ (o.Kind ≠ 2 → byF (mkF M o) ≤ byF M) := by
  unfold mkF
  refine ⟨fun h2 => ?_, fun h2 => ?_⟩
  · rw [if_neg (by omega), if_pos h2]
    have := byF_withE h ⟨o.Name, (lkF M o.Name).getD [] ++ o.Data⟩
    simp only [List.length_append] at this
    omega
  · split
    · have := byF_withE h ⟨o.Name, []⟩
      simp only [List.length_nil] at this
      omega
    · split
      · have h3 := byF_lessE h o.Name
        have h4 := byF_withE (lessF_srt h o.Name) ⟨o.To, (lkF M o.Name).getD []⟩
        simp only at h4
        omega
      · exact byF_less _ _

theorem withF_names {M : List FileD} {x : FileD} (h : ∀ f ∈ M, nameO f.Name = true) (hx : nameO x.Name = true) : ∀ f ∈ withF M x, nameO f.Name = true := fun f hf => by
  rcases insF_mem.1 hf with rfl | hf
  · exact hx
  · exact h f (lessF_sub hf)
theorem mkF_names {M : List FileD} {o : FsOpD} (h : ∀ f ∈ M, nameO f.Name = true) (ho : opO o = true) : ∀ f ∈ mkF M o, nameO f.Name = true := by
  have hn : nameO o.Name = true := by
    have hk := opO_kind ho
    rcases (by omega : o.Kind = 1 ∨ o.Kind = 2 ∨ o.Kind = 3 ∨ o.Kind = 4) with h1 | h1 | h1 | h1
    · rw [opO_c (.inl h1)] at ho; simp only [Bool.and_eq_true] at ho; exact ho.1
    · rw [opO_a h1] at ho; simp only [Bool.and_eq_true] at ho; exact ho.1
    · rw [opO_r h1] at ho; simp only [Bool.and_eq_true] at ho; exact ho.1
    · rw [opO_c (.inr h1)] at ho; simp only [Bool.and_eq_true] at ho; exact ho.1
  unfold mkF
  split
  · exact withF_names h hn
  · split
    · exact withF_names h hn
    · split
      · rename_i h3
        rw [opO_r h3] at ho
        simp only [Bool.and_eq_true] at ho
        exact withF_names (fun f hf => h f (lessF_sub hf)) ho.2.1
      · exact fun f hf => h f (lessF_sub hf)
theorem mkF_len12 {M : List FileD} (h : srtF M) {o : FsOpD} (hf : fitsF M o = true) (hk : 1 ≤ o.Kind ∧ o.Kind ≤ 4) (hl : M.length ≤ 12) : (mkF M o).length ≤ 12 := by
  have h1 := lessF_len h o.Name
  unfold mkF withF
  unfold fitsF at hf
  split
  · rename_i e
    rw [if_pos e] at hf
    rw [insF_len]
    simp only [Bool.or_eq_true, decide_eq_true_eq] at hf ⊢
    rcases hf with hf | hf
    · rw [if_pos hf] at h1; omega
    · split at h1 <;> omega
  · rename_i e1
    rw [if_neg e1] at hf
    split
    · rename_i e
      rw [if_neg (by omega)] at hf
      rw [if_pos hf] at h1
      rw [insF_len]; simp only; omega
    · split
      · rename_i e
        rw [if_pos e] at hf
        simp only [Bool.and_eq_true] at hf
        rw [if_pos hf.1] at h1
        rw [insF_len]
        have := lessF_le (lessF M o.Name) o.To
        simp only at this ⊢; omega
      · omega

/-- What stands behind the first k operations of a valid disk is a valid disk's list. -/
theorem stF_good {d : DiskD} (h : diskP d) {k : Nat} (hk : k ≤ d.Wait.length) : (∀ f ∈ stF d.Files d.Wait k, nameO f.Name = true) ∧ (stF d.Files d.Wait k).length ≤ 12 := by
  induction k with
  | zero =>
    rw [stF_zero]
    have h1 := h.1
    unfold hdD at h1
    exact ⟨h.2.1, h1.2.2.1⟩
  | succ k ih =>
    obtain ⟨i1, i2⟩ := ih (by omega)
    obtain ⟨o1, o2, o3⟩ := h.2.2.2.2 k (by omega) (by omega)
    rw [stF_succ (show k < d.Wait.length by omega)]
    exact ⟨mkF_names i1 o1, mkF_len12 (stF_srt h.2.2.1 _ _) o2 (opO_kind o1) i2⟩
theorem ok_nil (room : Int) (M : List FileD) (h : (byF M : Int) ≤ room) : okF room M [] 0 := ⟨h, fun j hj => absurd hj (by simp)⟩
theorem dk0_ok : diskP dk0 := by
  refine ⟨⟨⟨by decide, by decide⟩, ⟨by decide, by decide⟩, by decide, by decide⟩, fun f hf => ?_, List.Pairwise.nil, ok_nil 0 [] (by decide)⟩
  cases hf
theorem fuse_ok {d : DiskD} (h : diskP d) {f : Int} (hf : -1 ≤ f ∧ f ≤ 2000) : diskP ⟨d.Room, f, d.Files, d.Wait⟩ := by
  obtain ⟨h1, h2, h3, h4⟩ := h
  unfold hdD at h1
  exact ⟨⟨h1.1, hf, h1.2.2⟩, h2, h3, h4⟩
theorem brn_rng {n : Int} (h : -1 ≤ n ∧ n ≤ 2000) : -1 ≤ brn n ∧ brn n ≤ 2000 := by
  unfold brn
  split <;> omega
theorem safe_ok {d : DiskD} (h : diskP d) {f : Int} (hf : -1 ≤ f ∧ f ≤ 2000) {M : List FileD} (hM : srtF M) (hn : ∀ g ∈ M, nameO g.Name = true) (hl : M.length ≤ 12) (hb : (byF M : Int) ≤ d.Room) : diskP ⟨d.Room, f, M, []⟩ := by
  have h1 := h.1
  unfold hdD at h1
  exact ⟨⟨h1.1, hf, hl, Nat.zero_le _⟩, hn, hM, ok_nil _ _ hb⟩
theorem syR_ok (d : DiskD) : diskP (syR d) := by
  by_cases hp : diskP d
  · by_cases h0 : d.Fuse = 0
    · rw [syR_z hp h0]; exact hp
    · rw [syR_y hp h0]
      have h1 := hp.1
      unfold hdD at h1
      obtain ⟨g1, g2⟩ := stF_good hp (Nat.le_refl _)
      exact safe_ok hp (brn_rng h1.2.1) (stF_srt hp.2.2.1 _ _) g1 g2 (okF_by hp.2.2.2 (Nat.le_refl _))
  · rw [syR_n hp]; exact dk0_ok
theorem crF_good {d : DiskD} (hp : diskP d) (n b : Int) : srtF (crF d n b) ∧ (∀ g ∈ crF d n b, nameO g.Name = true) ∧ (crF d n b).length ≤ 12 ∧ (byF (crF d n b) : Int) ≤ d.Room := by
  have hkl := clF_le n d.Wait.length
  obtain ⟨g1, g2⟩ := stF_good hp hkl
  have hs := stF_srt hp.2.2.1 d.Wait (clF n d.Wait.length)
  have hb := okF_by (okF_mono hp.2.2.2 hkl) hkl
  rcases Nat.lt_or_ge (clF n d.Wait.length) d.Wait.length with h | h
  · obtain ⟨o1, o2, o3⟩ := hp.2.2.2.2 _ h h
    by_cases hk : (d.Wait[clF n d.Wait.length]).Kind = 2
    · rw [crF_pt h hk]
      have hpo : fitsF (stF d.Files d.Wait (clF n d.Wait.length)) (ptO (d.Wait[clF n d.Wait.length]) b) = true := o2
      rw [stF_succ h, (byF_mkE hs o2).1 hk] at o3
      have e := (byF_mkE hs hpo).1 hk
      have hl : (ptO (d.Wait[clF n d.Wait.length]) b).Data.length ≤ (d.Wait[clF n d.Wait.length]).Data.length := by
        show (List.take _ _).length ≤ _
        rw [List.length_take]; omega
      refine ⟨mkF_srt hs _, fun g hg => ?_, mkF_len12 hs hpo (by show 1 ≤ (d.Wait[clF n d.Wait.length]).Kind ∧ _; exact opO_kind o1) g2, by omega⟩
      have hg' : g ∈ withF (stF d.Files d.Wait (clF n d.Wait.length)) ⟨(d.Wait[clF n d.Wait.length]).Name, (lkF (stF d.Files d.Wait (clF n d.Wait.length)) (d.Wait[clF n d.Wait.length]).Name).getD [] ++ (ptO (d.Wait[clF n d.Wait.length]) b).Data⟩ := by
        unfold mkF at hg
        rw [if_neg (by show ¬ (d.Wait[clF n d.Wait.length]).Kind = 1; omega), if_pos (by show (d.Wait[clF n d.Wait.length]).Kind = 2; exact hk)] at hg
        exact hg
      refine withF_names g1 ?_ g hg'
      rw [opO_a hk] at o1
      simp only [Bool.and_eq_true] at o1
      exact o1.1
    · rw [crF_no h hk]; exact ⟨hs, g1, g2, hb⟩
  · rw [crF_end (by omega)]; exact ⟨hs, g1, g2, hb⟩
theorem crR_ok (d : DiskD) (n b : Int) : diskP (crR d n b) := by
  by_cases hp : diskP d
  · rw [crR_y hp]
    obtain ⟨g1, g2, g3, g4⟩ := crF_good hp n b
    exact safe_ok hp (by omega) g1 g2 g3 g4
  · rw [crR_n hp]; exact dk0_ok

/-- The operation as it is taken: a part where there is not room for all. -/
def tkO (d : DiskD) (o : FsOpD) : FsOpD := if o.Kind = 2 ∧ d.Room - (byF (seenF d) : Int) < (o.Data.length : Int) then { o with Data := o.Data.take (d.Room - (byF (seenF d) : Int)).toNat } else o
def tkC (d : DiskD) (o : FsOpD) : Int := if o.Kind = 2 ∧ d.Room - (byF (seenF d) : Int) < (o.Data.length : Int) then 5 else 0
def tkW (d : DiskD) (o : FsOpD) : List FsOpD := if o.Kind = 2 ∧ (tkO d o).Data.length = 0 then d.Wait else d.Wait ++ [tkO d o]
/-- A disk on which an operation is done, and the code. -/
noncomputable def doR (d : DiskD) (o : FsOpD) : DiskD × Int :=
  @ite _ (diskP d ∧ opO o = true) (Classical.propDecidable _)
    (if d.Fuse = 0 then (d, 2) else if fitsF (seenF d) o = false then (d, 3) else if 60 ≤ d.Wait.length then (d, 4) else (⟨d.Room, brn d.Fuse, d.Files, tkW d o⟩, tkC d o)) (dk0, 1)
theorem doR_n {d : DiskD} {o : FsOpD} (h : ¬ (diskP d ∧ opO o = true)) : doR d o = (dk0, 1) := by unfold doR; exact @if_neg _ (Classical.propDecidable _) h _ _ _
theorem doR_2 {d : DiskD} {o : FsOpD} (h : diskP d ∧ opO o = true) (h0 : d.Fuse = 0) : doR d o = (d, 2) := by unfold doR; rw [@if_pos _ (Classical.propDecidable _) h, if_pos h0]
theorem doR_3 {d : DiskD} {o : FsOpD} (h : diskP d ∧ opO o = true) (h0 : d.Fuse ≠ 0) (hf : fitsF (seenF d) o = false) : doR d o = (d, 3) := by unfold doR; rw [@if_pos _ (Classical.propDecidable _) h, if_neg h0, if_pos hf]
theorem doR_4 {d : DiskD} {o : FsOpD} (h : diskP d ∧ opO o = true) (h0 : d.Fuse ≠ 0) (hf : fitsF (seenF d) o = true) (hw : 60 ≤ d.Wait.length) : doR d o = (d, 4) := by unfold doR; rw [@if_pos _ (Classical.propDecidable _) h, if_neg h0, if_neg (by rw [hf]; decide), if_pos hw]
theorem doR_y {d : DiskD} {o : FsOpD} (h : diskP d ∧ opO o = true) (h0 : d.Fuse ≠ 0) (hf : fitsF (seenF d) o = true) (hw : ¬ 60 ≤ d.Wait.length) : doR d o = (⟨d.Room, brn d.Fuse, d.Files, tkW d o⟩, tkC d o) := by unfold doR; rw [@if_pos _ (Classical.propDecidable _) h, if_neg h0, if_neg (by rw [hf]; decide), if_neg hw]

theorem stF_app (M : List FileD) (l : List FsOpD) (o : FsOpD) {k : Nat} (h : k ≤ l.length) : stF M (l ++ [o]) k = stF M l k := by
  unfold stF
  rw [List.take_append_of_le_length h]
theorem okF_app {room : Int} {M : List FileD} {l : List FsOpD} {o : FsOpD} (h : okF room M l l.length) (h1 : opO o = true) (h2 : fitsF (stF M l l.length) o = true) (h3 : (byF (mkF (stF M l l.length) o) : Int) ≤ room) : okF room M (l ++ [o]) (l ++ [o]).length := by
  refine ⟨h.1, fun j hj hjk => ?_⟩
  rw [List.length_append, List.length_singleton] at hj
  rcases Nat.lt_or_ge j l.length with hlt | hge
  · obtain ⟨q1, q2, q3⟩ := h.2 j hlt hlt
    rw [stF_app M l o (by omega), stF_app M l o (by omega), List.getElem_append_left hlt]
    exact ⟨q1, q2, q3⟩
  · obtain rfl : j = l.length := by omega
    have e : (l ++ [o])[l.length]'(by simp) = o := by simp
    have es := stF_succ (M := M) (l := l ++ [o]) (k := l.length) (by simp)
    rw [e, stF_app M l o (Nat.le_refl _)] at es
    rw [es, e, stF_app M l o (Nat.le_refl _)]
    exact ⟨h1, h2, h3⟩
theorem tkO_kind (d : DiskD) (o : FsOpD) : (tkO d o).Kind = o.Kind := by unfold tkO; split <;> rfl
theorem doR_ok (d : DiskD) (o : FsOpD) : diskP (doR d o).1 := by
  by_cases h : diskP d ∧ opO o = true
  · obtain ⟨hp, ho⟩ := id h
    have h1 := hp.1
    unfold hdD at h1
    by_cases h0 : d.Fuse = 0
    · rw [doR_2 h h0]; exact hp
    · cases hf : fitsF (seenF d) o with
      | false => rw [doR_3 h h0 hf]; exact hp
      | true =>
        by_cases hw : 60 ≤ d.Wait.length
        · rw [doR_4 h h0 hf hw]; exact hp
        · rw [doR_y h h0 hf hw]
          have hb := okF_by hp.2.2.2 (Nat.le_refl _)
          have hs := stF_srt hp.2.2.1 d.Wait d.Wait.length
          have hb' : (byF (seenF d) : Int) ≤ d.Room := hb
          refine ⟨⟨h1.1, brn_rng h1.2.1, h1.2.2.1, ?_⟩, hp.2.1, hp.2.2.1, ?_⟩
          · show (tkW d o).length ≤ 60
            unfold tkW
            split
            · omega
            · rw [List.length_append, List.length_singleton]; omega
          · show okF d.Room d.Files (tkW d o) (tkW d o).length
            unfold tkW
            split
            · exact hp.2.2.2
            · rename_i hne
              have hfit : fitsF (seenF d) (tkO d o) = true := by
                unfold tkO
                split
                · exact hf
                · exact hf
              have hop : opO (tkO d o) = true := by
                unfold tkO at hne ⊢
                split
                · rename_i hc
                  rw [if_pos hc] at hne
                  rw [opO_a hc.1] at ho
                  rw [opO_a (show ({ o with Data := o.Data.take (d.Room - (byF (seenF d) : Int)).toNat } : FsOpD).Kind = 2 from hc.1)]
                  simp only [Bool.and_eq_true, decide_eq_true_eq, List.length_take] at ho hne ⊢
                  refine ⟨ho.1, ⟨ho.2.1.1, ?_⟩, by omega⟩
                  have : ¬ (min (d.Room - (byF (seenF d) : Int)).toNat o.Data.length = 0) := fun e => hne ⟨hc.1, e⟩
                  omega
                · exact ho
              refine okF_app hp.2.2.2 hop hfit ?_
              obtain ⟨e1, e2⟩ := byF_mkE hs hfit
              by_cases hk : o.Kind = 2
              · have e1 := e1 (by rw [tkO_kind]; exact hk)
                have hl : ((tkO d o).Data.length : Int) ≤ d.Room - (byF (seenF d) : Int) := by
                  unfold tkO
                  split
                  · show (((o.Data.take (d.Room - (byF (seenF d) : Int)).toNat).length : Nat) : Int) ≤ _
                    rw [List.length_take]; omega
                  · rename_i hc
                    have : ¬ (d.Room - (byF (seenF d) : Int) < (o.Data.length : Int)) := fun e => hc ⟨hk, e⟩
                    omega
                have e1 : byF (mkF (stF d.Files d.Wait d.Wait.length) (tkO d o)) = byF (seenF d) + (tkO d o).Data.length := e1
                omega
              · have e2 := e2 (by rw [tkO_kind]; exact hk)
                have e2 : byF (mkF (stF d.Files d.Wait d.Wait.length) (tkO d o)) ≤ byF (seenF d) := e2
                omega
  · rw [doR_n h]; exact dk0_ok

end Go.Proofs.Ytfnhchcgieeedaa

namespace Go.Proofs.Ytfnhchcgieeedaa
set_option linter.unusedSimpArgs false
set_option linter.unusedVariables false
set_option linter.defProp false
set_option maxRecDepth 20000
open Go.RowKit

set_option maxHeartbeats 16000000 in
theorem implDiskDo_k (d : DiskD) (o : FsOpD) (hz : szD d) (hn : o.Name.length ≤ 1048576) (ht : o.To.length ≤ 1048576) (hD : o.Data.length ≤ 1048576) : FnOK Try.prog 33 ⟨3, [(0, some (.ro ((d.Files).map (FileD.k 5)))), (1, some (.ro ((d.Wait).map (FsOpD.k 5)))), (2, some (.ro ((o.Data).map bytK)))], [.agg [.v (.int .i64 d.Room), .v (.int .i64 d.Fuse), .sl 0 2 0 (d.Files).length, .sl 1 4 0 (d.Wait).length], .agg [.v (.int .i64 o.Kind), .v (.string (txt o.Name)), .v (.string (txt o.To)), .sl 2 1 0 (o.Data).length]], .tup [.inr [.v (.int .i64 (doR d o).1.Room), .v (.int .i64 (doR d o).1.Fuse), .sl 3 2 0 ((doR d o).1.Files).length, .sl 4 4 0 ((doR d o).1.Wait).length], .inl (.v (.int .i64 (doR d o).2))], [(3, some (.nst 95 (((doR d o).1.Files).map (FileD.k 5)) none)), (4, some (.nst 66 (((doR d o).1.Wait).map (FsOpD.k 5)) none))], 5⟩ := by
  have cd := implDiskOk_k d hz
  have cf := implFsOpOk_k o hn ht hD
  have cc := copyDisk_k d (szD_L hz)
  by_cases hp : diskP d
  case neg =>
    rw [diskO_n hp] at cd
    rw [doR_n fun h => hp h.1]
    refine fnOK_of true mixed Try.func33 rfl (by rfl) (by rfl) ?_
    have hres := congrArg Array.toList Try.results33
    simp only [Try.ntmps33, BGB, seval]
    (have gx := @List.length_map.{0,0}; have q1 := cd; refine go ?_; (repeat' first | exact Ef.mk | apply Lf.mk | refine fun (K : KT) hK hE hT => ?_ | refine fun (KS : KE) hKS => ?_ | refine fun (D : KD) hD => ?_ | refine fun (hg : (_ : Prop)) => ?_ | fail); all_goals (first | (refine Wr.mk ?_; (try clear gx q1); repeat first | clear hK hE hT K | clear hR hE hT K) | assumption | skip))
    (refine post_a hres (.inl rfl) ?_; simp only [RSB, ENB, seval, tiAll, dk0, List.map_nil]; simp only [MAB, seval]; refine ⟨rfl, rfl, ?_, ?_, ?_⟩ <;> (first | rfl | (simp [WKB, Nat.add_comm, dk0, List.map_nil]; done) | (simp only [WKB, seval])))
  case pos =>
    rw [diskO_y hp] at cd
    cases ho : opO o with
    | false =>
      rw [ho] at cf
      rw [doR_n fun h => by rw [h.2] at ho; cases ho]
      refine fnOK_of true mixed Try.func33 rfl (by rfl) (by rfl) ?_
      have hres := congrArg Array.toList Try.results33
      simp only [Try.ntmps33, BGB, seval]
      (have gx := @List.length_map.{0,0}; have q1 := cd; have q2 := cf; refine go ?_; (repeat' first | exact Ef.mk | apply Lf.mk | refine fun (K : KT) hK hE hT => ?_ | refine fun (KS : KE) hKS => ?_ | refine fun (D : KD) hD => ?_ | refine fun (hg : (_ : Prop)) => ?_ | fail); all_goals (first | (refine Wr.mk ?_; (try clear gx q1 q2); repeat first | clear hK hE hT K | clear hR hE hT K) | assumption | skip))
      (refine post_a hres (.inl rfl) ?_; simp only [RSB, ENB, seval, tiAll, dk0, List.map_nil]; simp only [MAB, seval]; refine ⟨rfl, rfl, ?_, ?_, ?_⟩ <;> (first | rfl | (simp [WKB, Nat.add_comm, dk0, List.map_nil]; done) | (simp only [WKB, seval])))
    | true =>
      rw [ho] at cf
      have hpo : diskP d ∧ opO o = true := ⟨hp, ho⟩
      obtain ⟨p1, p2, p3, p4⟩ := id hp
      obtain ⟨q1, q2, q3, q4⟩ := stF_ok hp (Nat.le_refl _)
      have hb := okF_by p4 (Nat.le_refl _)
      unfold hdD at p1
      have cs := seenOf_y d hz p3 (by omega) (by omega) (by omega) p4
      obtain ⟨M, hM⟩ : ∃ M, M = seenF d := ⟨_, rfl⟩
      have q1 : srtF M := by rw [hM]; exact q1
      have q2 : M.length ≤ 72 := by rw [hM]; exact q2
      have q3 : byF M ≤ 200000 := by rw [hM]; exact q3
      have hb : (byF M : Int) ≤ d.Room := by rw [hM]; exact hb
      rw [← hM] at cs
      have hDl := opO_data ho
      by_cases h0 : d.Fuse = 0
      case pos =>
        rw [doR_2 hpo h0]
        refine fnOK_of true mixed Try.func33 rfl (by rfl) (by rfl) ?_
        have hres := congrArg Array.toList Try.results33
        simp only [Try.ntmps33, BGB, seval]
        repeat' ((fail_if_success with_reducible refine hand_k (id := 4) ?_); (first | (with_reducible first | refine seq_k fun K hK hE hT => ?_ | refine block_k fun K hK hE hT => ?_ | refine lex_nil ?_ | fail) | ((with_reducible refine region_k ?_); simp only [dstsOf, EVB, seval]) | ((with_reducible refine draw_k ?_ fun D hD => ?_); (focus (first | rfl | kernel_rfl)); simp only [dstsOf, EVB, seval]) | ((with_reducible first | refine lex_move ?_ | refine lex_assign ?_); simp only [EVB, seval]) | (with_reducible first | refine lex_cons fun KS hKS => ?_ | refine lexd_cons fun KS hKS => ?_ | refine skip_k ?_ | refine exit_k ?_ | refine ret_k ?_ | fail) | ((with_reducible refine call_go ?_); (first | ((first | refine call_a (cd) rfl rfl ?_ | refine call_a (cf) rfl rfl ?_ | refine call_a (cc) rfl rfl ?_ | fail); simp only [ENB, seval, tiAll, List.length_map]; simp only [MAB, seval]; refine ⟨rfl, ?_, ?_, ?_, rfl, ?_, ?_, ?_, ?_⟩; (iterate 6 (focus (first | rfl | (simp [CXB, map_take, List.length_map]; done) | (simp [CXB, List.length_map]; omega) | (dsimp only; omega)))); simp only [EFB, seval]) | fail)) | ((with_reducible refine step_go ?_); (fail_if_success with_reducible refine call_go ?_); simp only [ENB, seval, tiAll, List.length_map]) | ((with_reducible refine lexd_nil ?_ ?_); (focus (refine hD _ ?_; first | kernel_rfl | with_unfolding_all rfl)); clear hD; clear D) | ((with_reducible refine guard_go ?_); refine lex_gone rfl rfl ?_; simp only [EVB, seval]) | ((with_reducible refine guardd_go ?_); refine lexd_gone rfl rfl ?_; simp only [EVB, seval]) | ((first | ((with_reducible refine guard_go ?_); refine lex_guard rfl rfl (fun hg KS hKS => ?_) (fun hg => ?_)) | ((with_reducible refine guardd_go ?_); refine lexd_guard rfl rfl (fun hg KS hKS => ?_) (fun hg => ?_)) | ((with_reducible refine cond_go ?_); refine cond_k rfl (fun hg => ?_) (fun hg => ?_)) | (with_reducible refine And.intro (fun hg => ?_) (fun hg => ?_)) | fail) <;> first | ((with_reducible exfalso); exact absurd hg (by decide)) | ((try simp only [CNL] at hg) <;> first | ((with_reducible exfalso); omega) | ((with_reducible exfalso); first | exact tf (by assumption) hg | exact tf hg (by assumption)) | ((try with_reducible (have hT0 : True := hg; clear hT0 hg)); first | (with_reducible refine wpc_go ?_) | (try simp only [EVB, seval])))) | ((with_reducible refine hKS _ _ _ _ ?_); clear hKS; clear KS; simp only [EVB, seval]) | ((with_reducible refine And.intro ?_ ?_); focus (first | omega | exact u8_le _ | exact flat_intK _ | exact flat_bytK _ | (fail) | decide | (simp only [List.length_map]; done))) | ((with_reducible refine ex_p ?_ (fun hh => ?_)); focus (first | omega | (simp only [List.length_map]; omega))) | ((with_reducible refine hK _ _ _ ?_); clear hK hE hT; clear K) | ((with_reducible first | refine hE _ _ _ _ ?_ | refine hT _ _ _ ?_ | fail); (first | (clear hK hE hT; clear K) | (clear hR hE hT; clear K) | skip); try simp only [IFB, seval]) | ((with_reducible apply_assumption -symm -exfalso); try simp only [IFB, seval]) | fail))
        repeat' ((fail_if_success with_reducible refine hand_k (id := 4) ?_); (first | (with_reducible first | refine seq_k fun K hK hE hT => ?_ | refine block_k fun K hK hE hT => ?_ | refine lex_nil ?_ | fail) | ((with_reducible refine region_k ?_); simp only [dstsOf, EVB, seval]) | ((with_reducible refine draw_k ?_ fun D hD => ?_); (focus (first | rfl | kernel_rfl)); simp only [dstsOf, EVB, seval]) | ((with_reducible first | refine lex_move ?_ | refine lex_assign ?_); simp only [EVB, seval]) | (with_reducible first | refine lex_cons fun KS hKS => ?_ | refine lexd_cons fun KS hKS => ?_ | refine skip_k ?_ | refine exit_k ?_ | refine ret_k ?_ | fail) | ((with_reducible refine call_go ?_); fail) | ((with_reducible refine step_go ?_); (fail_if_success with_reducible refine call_go ?_); simp only [ENB, seval, tiAll, List.length_map]) | ((with_reducible refine lexd_nil ?_ ?_); (focus (refine hD _ ?_; first | kernel_rfl | with_unfolding_all rfl)); clear hD; clear D) | ((with_reducible refine guard_go ?_); refine lex_gone rfl rfl ?_; simp only [EVB, seval]) | ((with_reducible refine guardd_go ?_); refine lexd_gone rfl rfl ?_; simp only [EVB, seval]) | ((first | ((with_reducible refine guard_go ?_); refine lex_guard rfl rfl (fun hg KS hKS => ?_) (fun hg => ?_)) | ((with_reducible refine guardd_go ?_); refine lexd_guard rfl rfl (fun hg KS hKS => ?_) (fun hg => ?_)) | ((with_reducible refine cond_go ?_); refine cond_k rfl (fun hg => ?_) (fun hg => ?_)) | (with_reducible refine And.intro (fun hg => ?_) (fun hg => ?_)) | fail) <;> first | ((with_reducible exfalso); exact absurd hg (by decide)) | ((try simp only [CNL] at hg) <;> first | ((with_reducible exfalso); omega) | ((with_reducible exfalso); first | exact tf (by assumption) hg | exact tf hg (by assumption)) | ((try with_reducible (have hT0 : True := hg; clear hT0 hg)); first | (with_reducible refine wpc_go ?_) | (try simp only [EVB, seval])))) | ((with_reducible refine hKS _ _ _ _ ?_); clear hKS; clear KS; simp only [EVB, seval]) | ((with_reducible refine And.intro ?_ ?_); focus (first | omega | exact u8_le _ | exact flat_intK _ | exact flat_bytK _ | (fail) | decide | (simp only [List.length_map]; done))) | ((with_reducible refine ex_p ?_ (fun hh => ?_)); focus (first | omega | (simp only [List.length_map]; omega))) | ((with_reducible refine hK _ _ _ ?_); clear hK hE hT; clear K) | ((with_reducible first | refine hE _ _ _ _ ?_ | refine hT _ _ _ ?_ | fail); (first | (clear hK hE hT; clear K) | (clear hR hE hT; clear K) | skip); try simp only [IFB, seval]) | ((with_reducible apply_assumption -symm -exfalso); try simp only [IFB, seval]) | fail))
        refine region_k ?_
        simp only [dstsOf, EVB, seval]
        repeat' (first | (refine lex_fam [Vw.ro 0 0 d.Files.length true, Vw.ro 1 0 d.Wait.length true] cs rfl 0 rfl ?_ ?_) | (first | (with_reducible first | refine seq_k fun K hK hE hT => ?_ | refine block_k fun K hK hE hT => ?_ | refine lex_nil ?_ | fail) | ((with_reducible refine region_k ?_); simp only [dstsOf, EVB, seval]) | ((with_reducible refine draw_k ?_ fun D hD => ?_); (focus (first | rfl | kernel_rfl)); simp only [dstsOf, EVB, seval]) | ((with_reducible first | refine lex_move ?_ | refine lex_assign ?_); simp only [EVB, seval]) | (with_reducible first | refine lex_cons fun KS hKS => ?_ | refine lexd_cons fun KS hKS => ?_ | refine skip_k ?_ | refine exit_k ?_ | refine ret_k ?_ | fail) | ((with_reducible refine call_go ?_); fail) | ((with_reducible refine step_go ?_); (fail_if_success with_reducible refine call_go ?_); simp only [ENB, seval, tiAll, List.length_map]) | ((with_reducible refine lexd_nil ?_ ?_); (focus (refine hD _ ?_; first | kernel_rfl | with_unfolding_all rfl)); clear hD; clear D) | ((with_reducible refine guard_go ?_); refine lex_gone rfl rfl ?_; simp only [EVB, seval]) | ((with_reducible refine guardd_go ?_); refine lexd_gone rfl rfl ?_; simp only [EVB, seval]) | ((first | ((with_reducible refine guard_go ?_); refine lex_guard rfl rfl (fun hg KS hKS => ?_) (fun hg => ?_)) | ((with_reducible refine guardd_go ?_); refine lexd_guard rfl rfl (fun hg KS hKS => ?_) (fun hg => ?_)) | ((with_reducible refine cond_go ?_); refine cond_k rfl (fun hg => ?_) (fun hg => ?_)) | (with_reducible refine And.intro (fun hg => ?_) (fun hg => ?_)) | fail) <;> first | ((with_reducible exfalso); exact absurd hg (by decide)) | ((try simp only [CNL] at hg) <;> first | ((with_reducible exfalso); omega) | ((with_reducible exfalso); first | exact tf (by assumption) hg | exact tf hg (by assumption)) | ((try with_reducible (have hT0 : True := hg; clear hT0 hg)); first | (with_reducible refine wpc_go ?_) | (try simp only [EVB, seval])))) | ((with_reducible refine hKS _ _ _ _ ?_); clear hKS; clear KS; simp only [EVB, seval]) | ((with_reducible refine And.intro ?_ ?_); focus (first | omega | exact u8_le _ | exact flat_intK _ | exact flat_bytK _ | (fail) | decide | (simp only [List.length_map]; done))) | ((with_reducible refine ex_p ?_ (fun hh => ?_)); focus (first | omega | (simp only [List.length_map]; omega))) | ((with_reducible refine hK _ _ _ ?_); clear hK hE hT; clear K) | ((with_reducible first | refine hE _ _ _ _ ?_ | refine hT _ _ _ ?_ | fail); (first | (clear hK hE hT; clear K) | (clear hR hE hT; clear K) | skip); try simp only [IFB, seval]) | ((with_reducible apply_assumption -symm -exfalso); try simp only [IFB, seval]) | fail))
        · exact fun i => fits_of _ rfl (by simp [CXB]) (by simp [CXB]) rfl (by simp [CXB]) (by simp [CXB]) (by dsimp only; omega)
        intro b
        simp only [EFB, seval]
        simp only [EVB, seval]
        (have gx := And.intro @List.length_map.{0,0} @h0; refine go ?_; (repeat' first | exact Ef.mk | apply Lf.mk | refine fun (K : KT) hK hE hT => ?_ | refine fun (KS : KE) hKS => ?_ | refine fun (D : KD) hD => ?_ | refine fun (hg : (_ : Prop)) => ?_ | fail); all_goals (first | (refine Wr.mk ?_; (try clear gx); repeat first | clear hK hE hT K | clear hR hE hT K) | assumption | skip))
        (refine post_a hres (.inl rfl) ?_; simp only [RSB, ENB, seval, tiAll, h0]; simp only [MAB, seval]; refine ⟨rfl, rfl, ?_, ?_, ?_⟩ <;> (first | rfl | (simp [WKB, Nat.add_comm, h0]; done) | (simp only [WKB, seval])))
      case neg =>
        cases hf : fitsF M o with
        | false =>
          rw [doR_3 hpo h0 (by rw [← hM]; exact hf)]
          refine fnOK_of true mixed Try.func33 rfl (by rfl) (by rfl) ?_
          have hres := congrArg Array.toList Try.results33
          simp only [Try.ntmps33, BGB, seval]
          repeat' ((fail_if_success with_reducible refine hand_k (id := 4) ?_); (first | (with_reducible first | refine seq_k fun K hK hE hT => ?_ | refine block_k fun K hK hE hT => ?_ | refine lex_nil ?_ | fail) | ((with_reducible refine region_k ?_); simp only [dstsOf, EVB, seval]) | ((with_reducible refine draw_k ?_ fun D hD => ?_); (focus (first | rfl | kernel_rfl)); simp only [dstsOf, EVB, seval]) | ((with_reducible first | refine lex_move ?_ | refine lex_assign ?_); simp only [EVB, seval]) | (with_reducible first | refine lex_cons fun KS hKS => ?_ | refine lexd_cons fun KS hKS => ?_ | refine skip_k ?_ | refine exit_k ?_ | refine ret_k ?_ | fail) | ((with_reducible refine call_go ?_); (first | ((first | refine call_a (cd) rfl rfl ?_ | refine call_a (cf) rfl rfl ?_ | refine call_a (cc) rfl rfl ?_ | fail); simp only [ENB, seval, tiAll, List.length_map]; simp only [MAB, seval]; refine ⟨rfl, ?_, ?_, ?_, rfl, ?_, ?_, ?_, ?_⟩; (iterate 6 (focus (first | rfl | (simp [CXB, map_take, List.length_map]; done) | (simp [CXB, List.length_map]; omega) | (dsimp only; omega)))); simp only [EFB, seval]) | fail)) | ((with_reducible refine step_go ?_); (fail_if_success with_reducible refine call_go ?_); simp only [ENB, seval, tiAll, List.length_map]) | ((with_reducible refine lexd_nil ?_ ?_); (focus (refine hD _ ?_; first | kernel_rfl | with_unfolding_all rfl)); clear hD; clear D) | ((with_reducible refine guard_go ?_); refine lex_gone rfl rfl ?_; simp only [EVB, seval]) | ((with_reducible refine guardd_go ?_); refine lexd_gone rfl rfl ?_; simp only [EVB, seval]) | ((first | ((with_reducible refine guard_go ?_); refine lex_guard rfl rfl (fun hg KS hKS => ?_) (fun hg => ?_)) | ((with_reducible refine guardd_go ?_); refine lexd_guard rfl rfl (fun hg KS hKS => ?_) (fun hg => ?_)) | ((with_reducible refine cond_go ?_); refine cond_k rfl (fun hg => ?_) (fun hg => ?_)) | (with_reducible refine And.intro (fun hg => ?_) (fun hg => ?_)) | fail) <;> first | ((with_reducible exfalso); exact absurd hg (by decide)) | ((try simp only [CNL] at hg) <;> first | ((with_reducible exfalso); omega) | ((with_reducible exfalso); first | exact tf (by assumption) hg | exact tf hg (by assumption)) | ((try with_reducible (have hT0 : True := hg; clear hT0 hg)); first | (with_reducible refine wpc_go ?_) | (try simp only [EVB, seval])))) | ((with_reducible refine hKS _ _ _ _ ?_); clear hKS; clear KS; simp only [EVB, seval]) | ((with_reducible refine And.intro ?_ ?_); focus (first | omega | exact u8_le _ | exact flat_intK _ | exact flat_bytK _ | (fail) | decide | (simp only [List.length_map]; done))) | ((with_reducible refine ex_p ?_ (fun hh => ?_)); focus (first | omega | (simp only [List.length_map]; omega))) | ((with_reducible refine hK _ _ _ ?_); clear hK hE hT; clear K) | ((with_reducible first | refine hE _ _ _ _ ?_ | refine hT _ _ _ ?_ | fail); (first | (clear hK hE hT; clear K) | (clear hR hE hT; clear K) | skip); try simp only [IFB, seval]) | ((with_reducible apply_assumption -symm -exfalso); try simp only [IFB, seval]) | fail))
          repeat' ((fail_if_success with_reducible refine hand_k (id := 4) ?_); (first | (with_reducible first | refine seq_k fun K hK hE hT => ?_ | refine block_k fun K hK hE hT => ?_ | refine lex_nil ?_ | fail) | ((with_reducible refine region_k ?_); simp only [dstsOf, EVB, seval]) | ((with_reducible refine draw_k ?_ fun D hD => ?_); (focus (first | rfl | kernel_rfl)); simp only [dstsOf, EVB, seval]) | ((with_reducible first | refine lex_move ?_ | refine lex_assign ?_); simp only [EVB, seval]) | (with_reducible first | refine lex_cons fun KS hKS => ?_ | refine lexd_cons fun KS hKS => ?_ | refine skip_k ?_ | refine exit_k ?_ | refine ret_k ?_ | fail) | ((with_reducible refine call_go ?_); fail) | ((with_reducible refine step_go ?_); (fail_if_success with_reducible refine call_go ?_); simp only [ENB, seval, tiAll, List.length_map]) | ((with_reducible refine lexd_nil ?_ ?_); (focus (refine hD _ ?_; first | kernel_rfl | with_unfolding_all rfl)); clear hD; clear D) | ((with_reducible refine guard_go ?_); refine lex_gone rfl rfl ?_; simp only [EVB, seval]) | ((with_reducible refine guardd_go ?_); refine lexd_gone rfl rfl ?_; simp only [EVB, seval]) | ((first | ((with_reducible refine guard_go ?_); refine lex_guard rfl rfl (fun hg KS hKS => ?_) (fun hg => ?_)) | ((with_reducible refine guardd_go ?_); refine lexd_guard rfl rfl (fun hg KS hKS => ?_) (fun hg => ?_)) | ((with_reducible refine cond_go ?_); refine cond_k rfl (fun hg => ?_) (fun hg => ?_)) | (with_reducible refine And.intro (fun hg => ?_) (fun hg => ?_)) | fail) <;> first | ((with_reducible exfalso); exact absurd hg (by decide)) | ((try simp only [CNL] at hg) <;> first | ((with_reducible exfalso); omega) | ((with_reducible exfalso); first | exact tf (by assumption) hg | exact tf hg (by assumption)) | ((try with_reducible (have hT0 : True := hg; clear hT0 hg)); first | (with_reducible refine wpc_go ?_) | (try simp only [EVB, seval])))) | ((with_reducible refine hKS _ _ _ _ ?_); clear hKS; clear KS; simp only [EVB, seval]) | ((with_reducible refine And.intro ?_ ?_); focus (first | omega | exact u8_le _ | exact flat_intK _ | exact flat_bytK _ | (fail) | decide | (simp only [List.length_map]; done))) | ((with_reducible refine ex_p ?_ (fun hh => ?_)); focus (first | omega | (simp only [List.length_map]; omega))) | ((with_reducible refine hK _ _ _ ?_); clear hK hE hT; clear K) | ((with_reducible first | refine hE _ _ _ _ ?_ | refine hT _ _ _ ?_ | fail); (first | (clear hK hE hT; clear K) | (clear hR hE hT; clear K) | skip); try simp only [IFB, seval]) | ((with_reducible apply_assumption -symm -exfalso); try simp only [IFB, seval]) | fail))
          refine region_k ?_
          simp only [dstsOf, EVB, seval]
          repeat' (first | (refine lex_fam [Vw.ro 0 0 d.Files.length true, Vw.ro 1 0 d.Wait.length true] cs rfl 0 rfl ?_ ?_) | (first | (with_reducible first | refine seq_k fun K hK hE hT => ?_ | refine block_k fun K hK hE hT => ?_ | refine lex_nil ?_ | fail) | ((with_reducible refine region_k ?_); simp only [dstsOf, EVB, seval]) | ((with_reducible refine draw_k ?_ fun D hD => ?_); (focus (first | rfl | kernel_rfl)); simp only [dstsOf, EVB, seval]) | ((with_reducible first | refine lex_move ?_ | refine lex_assign ?_); simp only [EVB, seval]) | (with_reducible first | refine lex_cons fun KS hKS => ?_ | refine lexd_cons fun KS hKS => ?_ | refine skip_k ?_ | refine exit_k ?_ | refine ret_k ?_ | fail) | ((with_reducible refine call_go ?_); fail) | ((with_reducible refine step_go ?_); (fail_if_success with_reducible refine call_go ?_); simp only [ENB, seval, tiAll, List.length_map]) | ((with_reducible refine lexd_nil ?_ ?_); (focus (refine hD _ ?_; first | kernel_rfl | with_unfolding_all rfl)); clear hD; clear D) | ((with_reducible refine guard_go ?_); refine lex_gone rfl rfl ?_; simp only [EVB, seval]) | ((with_reducible refine guardd_go ?_); refine lexd_gone rfl rfl ?_; simp only [EVB, seval]) | ((first | ((with_reducible refine guard_go ?_); refine lex_guard rfl rfl (fun hg KS hKS => ?_) (fun hg => ?_)) | ((with_reducible refine guardd_go ?_); refine lexd_guard rfl rfl (fun hg KS hKS => ?_) (fun hg => ?_)) | ((with_reducible refine cond_go ?_); refine cond_k rfl (fun hg => ?_) (fun hg => ?_)) | (with_reducible refine And.intro (fun hg => ?_) (fun hg => ?_)) | fail) <;> first | ((with_reducible exfalso); exact absurd hg (by decide)) | ((try simp only [CNL] at hg) <;> first | ((with_reducible exfalso); omega) | ((with_reducible exfalso); first | exact tf (by assumption) hg | exact tf hg (by assumption)) | ((try with_reducible (have hT0 : True := hg; clear hT0 hg)); first | (with_reducible refine wpc_go ?_) | (try simp only [EVB, seval])))) | ((with_reducible refine hKS _ _ _ _ ?_); clear hKS; clear KS; simp only [EVB, seval]) | ((with_reducible refine And.intro ?_ ?_); focus (first | omega | exact u8_le _ | exact flat_intK _ | exact flat_bytK _ | (fail) | decide | (simp only [List.length_map]; done))) | ((with_reducible refine ex_p ?_ (fun hh => ?_)); focus (first | omega | (simp only [List.length_map]; omega))) | ((with_reducible refine hK _ _ _ ?_); clear hK hE hT; clear K) | ((with_reducible first | refine hE _ _ _ _ ?_ | refine hT _ _ _ ?_ | fail); (first | (clear hK hE hT; clear K) | (clear hR hE hT; clear K) | skip); try simp only [IFB, seval]) | ((with_reducible apply_assumption -symm -exfalso); try simp only [IFB, seval]) | fail))
          · exact fun i => fits_of _ rfl (by simp [CXB]) (by simp [CXB]) rfl (by simp [CXB]) (by simp [CXB]) (by dsimp only; omega)
          intro b
          simp only [EFB, seval]
          simp only [EVB, seval]
          have kf := ffits_k b M o (by omega) hn
          rw [hf] at kf
          (have gx := @List.length_map.{0,0}; refine go ?_; (repeat' first | exact Ef.mk | apply Lf.mk | refine fun (K : KT) hK hE hT => ?_ | refine fun (KS : KE) hKS => ?_ | refine fun (D : KD) hD => ?_ | refine fun (hg : (_ : Prop)) => ?_ | fail); all_goals (first | (refine Wr.mk ?_; (try clear gx); repeat first | clear hK hE hT K | clear hR hE hT K) | assumption | skip))
          refine call_k [.same 10, .ro 2 0 o.Data.length true] (kf) rfl rfl rfl (fits_of _ rfl (by simp [CXB]) (by simp [CXB]) rfl (by simp [CXB]) (by simp [CXB]) (by dsimp only; omega)) ?_
          simp only [EFB, seval]
          refine hKS _ _ _ _ ?_
          clear hKS; clear KS; simp only [EVB, seval]
          (have gx := @List.length_map.{0,0}; refine go ?_; (repeat' first | exact Ef.mk | apply Lf.mk | refine fun (K : KT) hK hE hT => ?_ | refine fun (KS : KE) hKS => ?_ | refine fun (D : KD) hD => ?_ | refine fun (hg : (_ : Prop)) => ?_ | fail); all_goals (first | (refine Wr.mk ?_; (try clear gx); repeat first | clear hK hE hT K | clear hR hE hT K) | assumption | skip))
          (refine post_a hres (.inl rfl) ?_; simp only [RSB, ENB, seval, tiAll, true_and]; simp only [MAB, seval]; refine ⟨rfl, rfl, ?_, ?_, ?_⟩ <;> (first | rfl | (simp [WKB, Nat.add_comm, true_and]; done) | (simp only [WKB, seval])))
        | true =>
          by_cases hw : 60 ≤ d.Wait.length
          case pos =>
            rw [doR_4 hpo h0 (by rw [← hM]; exact hf) hw]
            refine fnOK_of true mixed Try.func33 rfl (by rfl) (by rfl) ?_
            have hres := congrArg Array.toList Try.results33
            simp only [Try.ntmps33, BGB, seval]
            repeat' ((fail_if_success with_reducible refine hand_k (id := 4) ?_); (first | (with_reducible first | refine seq_k fun K hK hE hT => ?_ | refine block_k fun K hK hE hT => ?_ | refine lex_nil ?_ | fail) | ((with_reducible refine region_k ?_); simp only [dstsOf, EVB, seval]) | ((with_reducible refine draw_k ?_ fun D hD => ?_); (focus (first | rfl | kernel_rfl)); simp only [dstsOf, EVB, seval]) | ((with_reducible first | refine lex_move ?_ | refine lex_assign ?_); simp only [EVB, seval]) | (with_reducible first | refine lex_cons fun KS hKS => ?_ | refine lexd_cons fun KS hKS => ?_ | refine skip_k ?_ | refine exit_k ?_ | refine ret_k ?_ | fail) | ((with_reducible refine call_go ?_); (first | ((first | refine call_a (cd) rfl rfl ?_ | refine call_a (cf) rfl rfl ?_ | refine call_a (cc) rfl rfl ?_ | fail); simp only [ENB, seval, tiAll, List.length_map]; simp only [MAB, seval]; refine ⟨rfl, ?_, ?_, ?_, rfl, ?_, ?_, ?_, ?_⟩; (iterate 6 (focus (first | rfl | (simp [CXB, map_take, List.length_map]; done) | (simp [CXB, List.length_map]; omega) | (dsimp only; omega)))); simp only [EFB, seval]) | fail)) | ((with_reducible refine step_go ?_); (fail_if_success with_reducible refine call_go ?_); simp only [ENB, seval, tiAll, List.length_map]) | ((with_reducible refine lexd_nil ?_ ?_); (focus (refine hD _ ?_; first | kernel_rfl | with_unfolding_all rfl)); clear hD; clear D) | ((with_reducible refine guard_go ?_); refine lex_gone rfl rfl ?_; simp only [EVB, seval]) | ((with_reducible refine guardd_go ?_); refine lexd_gone rfl rfl ?_; simp only [EVB, seval]) | ((first | ((with_reducible refine guard_go ?_); refine lex_guard rfl rfl (fun hg KS hKS => ?_) (fun hg => ?_)) | ((with_reducible refine guardd_go ?_); refine lexd_guard rfl rfl (fun hg KS hKS => ?_) (fun hg => ?_)) | ((with_reducible refine cond_go ?_); refine cond_k rfl (fun hg => ?_) (fun hg => ?_)) | (with_reducible refine And.intro (fun hg => ?_) (fun hg => ?_)) | fail) <;> first | ((with_reducible exfalso); exact absurd hg (by decide)) | ((try simp only [CNL] at hg) <;> first | ((with_reducible exfalso); omega) | ((with_reducible exfalso); first | exact tf (by assumption) hg | exact tf hg (by assumption)) | ((try with_reducible (have hT0 : True := hg; clear hT0 hg)); first | (with_reducible refine wpc_go ?_) | (try simp only [EVB, seval])))) | ((with_reducible refine hKS _ _ _ _ ?_); clear hKS; clear KS; simp only [EVB, seval]) | ((with_reducible refine And.intro ?_ ?_); focus (first | omega | exact u8_le _ | exact flat_intK _ | exact flat_bytK _ | (fail) | decide | (simp only [List.length_map]; done))) | ((with_reducible refine ex_p ?_ (fun hh => ?_)); focus (first | omega | (simp only [List.length_map]; omega))) | ((with_reducible refine hK _ _ _ ?_); clear hK hE hT; clear K) | ((with_reducible first | refine hE _ _ _ _ ?_ | refine hT _ _ _ ?_ | fail); (first | (clear hK hE hT; clear K) | (clear hR hE hT; clear K) | skip); try simp only [IFB, seval]) | ((with_reducible apply_assumption -symm -exfalso); try simp only [IFB, seval]) | fail))
            repeat' ((fail_if_success with_reducible refine hand_k (id := 4) ?_); (first | (with_reducible first | refine seq_k fun K hK hE hT => ?_ | refine block_k fun K hK hE hT => ?_ | refine lex_nil ?_ | fail) | ((with_reducible refine region_k ?_); simp only [dstsOf, EVB, seval]) | ((with_reducible refine draw_k ?_ fun D hD => ?_); (focus (first | rfl | kernel_rfl)); simp only [dstsOf, EVB, seval]) | ((with_reducible first | refine lex_move ?_ | refine lex_assign ?_); simp only [EVB, seval]) | (with_reducible first | refine lex_cons fun KS hKS => ?_ | refine lexd_cons fun KS hKS => ?_ | refine skip_k ?_ | refine exit_k ?_ | refine ret_k ?_ | fail) | ((with_reducible refine call_go ?_); fail) | ((with_reducible refine step_go ?_); (fail_if_success with_reducible refine call_go ?_); simp only [ENB, seval, tiAll, List.length_map]) | ((with_reducible refine lexd_nil ?_ ?_); (focus (refine hD _ ?_; first | kernel_rfl | with_unfolding_all rfl)); clear hD; clear D) | ((with_reducible refine guard_go ?_); refine lex_gone rfl rfl ?_; simp only [EVB, seval]) | ((with_reducible refine guardd_go ?_); refine lexd_gone rfl rfl ?_; simp only [EVB, seval]) | ((first | ((with_reducible refine guard_go ?_); refine lex_guard rfl rfl (fun hg KS hKS => ?_) (fun hg => ?_)) | ((with_reducible refine guardd_go ?_); refine lexd_guard rfl rfl (fun hg KS hKS => ?_) (fun hg => ?_)) | ((with_reducible refine cond_go ?_); refine cond_k rfl (fun hg => ?_) (fun hg => ?_)) | (with_reducible refine And.intro (fun hg => ?_) (fun hg => ?_)) | fail) <;> first | ((with_reducible exfalso); exact absurd hg (by decide)) | ((try simp only [CNL] at hg) <;> first | ((with_reducible exfalso); omega) | ((with_reducible exfalso); first | exact tf (by assumption) hg | exact tf hg (by assumption)) | ((try with_reducible (have hT0 : True := hg; clear hT0 hg)); first | (with_reducible refine wpc_go ?_) | (try simp only [EVB, seval])))) | ((with_reducible refine hKS _ _ _ _ ?_); clear hKS; clear KS; simp only [EVB, seval]) | ((with_reducible refine And.intro ?_ ?_); focus (first | omega | exact u8_le _ | exact flat_intK _ | exact flat_bytK _ | (fail) | decide | (simp only [List.length_map]; done))) | ((with_reducible refine ex_p ?_ (fun hh => ?_)); focus (first | omega | (simp only [List.length_map]; omega))) | ((with_reducible refine hK _ _ _ ?_); clear hK hE hT; clear K) | ((with_reducible first | refine hE _ _ _ _ ?_ | refine hT _ _ _ ?_ | fail); (first | (clear hK hE hT; clear K) | (clear hR hE hT; clear K) | skip); try simp only [IFB, seval]) | ((with_reducible apply_assumption -symm -exfalso); try simp only [IFB, seval]) | fail))
            refine region_k ?_
            simp only [dstsOf, EVB, seval]
            repeat' (first | (refine lex_fam [Vw.ro 0 0 d.Files.length true, Vw.ro 1 0 d.Wait.length true] cs rfl 0 rfl ?_ ?_) | (first | (with_reducible first | refine seq_k fun K hK hE hT => ?_ | refine block_k fun K hK hE hT => ?_ | refine lex_nil ?_ | fail) | ((with_reducible refine region_k ?_); simp only [dstsOf, EVB, seval]) | ((with_reducible refine draw_k ?_ fun D hD => ?_); (focus (first | rfl | kernel_rfl)); simp only [dstsOf, EVB, seval]) | ((with_reducible first | refine lex_move ?_ | refine lex_assign ?_); simp only [EVB, seval]) | (with_reducible first | refine lex_cons fun KS hKS => ?_ | refine lexd_cons fun KS hKS => ?_ | refine skip_k ?_ | refine exit_k ?_ | refine ret_k ?_ | fail) | ((with_reducible refine call_go ?_); fail) | ((with_reducible refine step_go ?_); (fail_if_success with_reducible refine call_go ?_); simp only [ENB, seval, tiAll, List.length_map]) | ((with_reducible refine lexd_nil ?_ ?_); (focus (refine hD _ ?_; first | kernel_rfl | with_unfolding_all rfl)); clear hD; clear D) | ((with_reducible refine guard_go ?_); refine lex_gone rfl rfl ?_; simp only [EVB, seval]) | ((with_reducible refine guardd_go ?_); refine lexd_gone rfl rfl ?_; simp only [EVB, seval]) | ((first | ((with_reducible refine guard_go ?_); refine lex_guard rfl rfl (fun hg KS hKS => ?_) (fun hg => ?_)) | ((with_reducible refine guardd_go ?_); refine lexd_guard rfl rfl (fun hg KS hKS => ?_) (fun hg => ?_)) | ((with_reducible refine cond_go ?_); refine cond_k rfl (fun hg => ?_) (fun hg => ?_)) | (with_reducible refine And.intro (fun hg => ?_) (fun hg => ?_)) | fail) <;> first | ((with_reducible exfalso); exact absurd hg (by decide)) | ((try simp only [CNL] at hg) <;> first | ((with_reducible exfalso); omega) | ((with_reducible exfalso); first | exact tf (by assumption) hg | exact tf hg (by assumption)) | ((try with_reducible (have hT0 : True := hg; clear hT0 hg)); first | (with_reducible refine wpc_go ?_) | (try simp only [EVB, seval])))) | ((with_reducible refine hKS _ _ _ _ ?_); clear hKS; clear KS; simp only [EVB, seval]) | ((with_reducible refine And.intro ?_ ?_); focus (first | omega | exact u8_le _ | exact flat_intK _ | exact flat_bytK _ | (fail) | decide | (simp only [List.length_map]; done))) | ((with_reducible refine ex_p ?_ (fun hh => ?_)); focus (first | omega | (simp only [List.length_map]; omega))) | ((with_reducible refine hK _ _ _ ?_); clear hK hE hT; clear K) | ((with_reducible first | refine hE _ _ _ _ ?_ | refine hT _ _ _ ?_ | fail); (first | (clear hK hE hT; clear K) | (clear hR hE hT; clear K) | skip); try simp only [IFB, seval]) | ((with_reducible apply_assumption -symm -exfalso); try simp only [IFB, seval]) | fail))
            · exact fun i => fits_of _ rfl (by simp [CXB]) (by simp [CXB]) rfl (by simp [CXB]) (by simp [CXB]) (by dsimp only; omega)
            intro b
            simp only [EFB, seval]
            simp only [EVB, seval]
            have kf := ffits_k b M o (by omega) hn
            rw [hf] at kf
            (have gx := @List.length_map.{0,0}; refine go ?_; (repeat' first | exact Ef.mk | apply Lf.mk | refine fun (K : KT) hK hE hT => ?_ | refine fun (KS : KE) hKS => ?_ | refine fun (D : KD) hD => ?_ | refine fun (hg : (_ : Prop)) => ?_ | fail); all_goals (first | (refine Wr.mk ?_; (try clear gx); repeat first | clear hK hE hT K | clear hR hE hT K) | assumption | skip))
            refine call_k [.same 10, .ro 2 0 o.Data.length true] (kf) rfl rfl rfl (fits_of _ rfl (by simp [CXB]) (by simp [CXB]) rfl (by simp [CXB]) (by simp [CXB]) (by dsimp only; omega)) ?_
            simp only [EFB, seval]
            refine hKS _ _ _ _ ?_
            clear hKS; clear KS; simp only [EVB, seval]
            (have gx := @List.length_map.{0,0}; refine go ?_; (repeat' first | exact Ef.mk | apply Lf.mk | refine fun (K : KT) hK hE hT => ?_ | refine fun (KS : KE) hKS => ?_ | refine fun (D : KD) hD => ?_ | refine fun (hg : (_ : Prop)) => ?_ | fail); all_goals (first | (refine Wr.mk ?_; (try clear gx); repeat first | clear hK hE hT K | clear hR hE hT K) | assumption | skip))
            (refine post_a hres (.inl rfl) ?_; simp only [RSB, ENB, seval, tiAll, true_and]; simp only [MAB, seval]; refine ⟨rfl, rfl, ?_, ?_, ?_⟩ <;> (first | rfl | (simp [WKB, Nat.add_comm, true_and]; done) | (simp only [WKB, seval])))
          case neg =>
            rw [doR_y hpo h0 (by rw [← hM]; exact hf) hw]
            dsimp only
            obtain ⟨L, hL⟩ : ∃ L : Nat, d.Room - (byF M : Int) = (L : Int) := ⟨(d.Room - (byF M : Int)).toNat, by omega⟩
            have co := copyOp_k o hD
            have cb := burnA_k d.Room d.Fuse d.Files d.Wait (by omega)
            have ec : tkC d o = if o.Kind = 2 ∧ (L : Int) < (o.Data.length : Int) then 5 else 0 := by unfold tkC; rw [← hM, hL]
            have eo : tkO d o = if o.Kind = 2 ∧ (L : Int) < (o.Data.length : Int) then { o with Data := o.Data.take L } else o := by unfold tkO; rw [← hM, hL]; rfl
            have ew : tkW d o = if o.Kind = 2 ∧ (tkO d o).Data.length = 0 then d.Wait else d.Wait ++ [tkO d o] := rfl
            have e1 : (d.Wait ++ [o]).map (FsOpD.k 5) = d.Wait.map (FsOpD.k 5) ++ [FsOpD.k 5 o] := by rw [List.map_append]; rfl
            have l1 : (d.Wait ++ [o]).length = d.Wait.length + 1 := by simp
            by_cases hc : o.Kind = 2 ∧ (L : Int) < (o.Data.length : Int)
            case neg =>
              rw [if_neg hc] at ec eo
              have hne : ¬ (o.Kind = 2 ∧ o.Data.length = 0) := fun h => by
                rw [opO_a h.1] at ho
                simp only [Bool.and_eq_true, decide_eq_true_eq] at ho
                omega
              rw [eo, if_neg hne] at ew
              rw [ec, ew]
              refine fnOK_of true mixed Try.func33 rfl (by rfl) (by rfl) ?_
              have hres := congrArg Array.toList Try.results33
              simp only [Try.ntmps33, BGB, seval]
              repeat' ((fail_if_success with_reducible refine hand_k (id := 4) ?_); (first | (with_reducible first | refine seq_k fun K hK hE hT => ?_ | refine block_k fun K hK hE hT => ?_ | refine lex_nil ?_ | fail) | ((with_reducible refine region_k ?_); simp only [dstsOf, EVB, seval]) | ((with_reducible refine draw_k ?_ fun D hD => ?_); (focus (first | rfl | kernel_rfl)); simp only [dstsOf, EVB, seval]) | ((with_reducible first | refine lex_move ?_ | refine lex_assign ?_); simp only [EVB, seval]) | (with_reducible first | refine lex_cons fun KS hKS => ?_ | refine lexd_cons fun KS hKS => ?_ | refine skip_k ?_ | refine exit_k ?_ | refine ret_k ?_ | fail) | ((with_reducible refine call_go ?_); (first | ((first | refine call_a (cd) rfl rfl ?_ | refine call_a (cf) rfl rfl ?_ | refine call_a (cc) rfl rfl ?_ | fail); simp only [ENB, seval, tiAll, List.length_map]; simp only [MAB, seval]; refine ⟨rfl, ?_, ?_, ?_, rfl, ?_, ?_, ?_, ?_⟩; (iterate 6 (focus (first | rfl | (simp [CXB, map_take, List.length_map]; done) | (simp [CXB, List.length_map]; omega) | (dsimp only; omega)))); simp only [EFB, seval]) | fail)) | ((with_reducible refine step_go ?_); (fail_if_success with_reducible refine call_go ?_); simp only [ENB, seval, tiAll, List.length_map]) | ((with_reducible refine lexd_nil ?_ ?_); (focus (refine hD _ ?_; first | kernel_rfl | with_unfolding_all rfl)); clear hD; clear D) | ((with_reducible refine guard_go ?_); refine lex_gone rfl rfl ?_; simp only [EVB, seval]) | ((with_reducible refine guardd_go ?_); refine lexd_gone rfl rfl ?_; simp only [EVB, seval]) | ((first | ((with_reducible refine guard_go ?_); refine lex_guard rfl rfl (fun hg KS hKS => ?_) (fun hg => ?_)) | ((with_reducible refine guardd_go ?_); refine lexd_guard rfl rfl (fun hg KS hKS => ?_) (fun hg => ?_)) | ((with_reducible refine cond_go ?_); refine cond_k rfl (fun hg => ?_) (fun hg => ?_)) | (with_reducible refine And.intro (fun hg => ?_) (fun hg => ?_)) | fail) <;> first | ((with_reducible exfalso); exact absurd hg (by decide)) | ((try simp only [CNL] at hg) <;> first | ((with_reducible exfalso); omega) | ((with_reducible exfalso); first | exact tf (by assumption) hg | exact tf hg (by assumption)) | ((try with_reducible (have hT0 : True := hg; clear hT0 hg)); first | (with_reducible refine wpc_go ?_) | (try simp only [EVB, seval])))) | ((with_reducible refine hKS _ _ _ _ ?_); clear hKS; clear KS; simp only [EVB, seval]) | ((with_reducible refine And.intro ?_ ?_); focus (first | omega | exact u8_le _ | exact flat_intK _ | exact flat_bytK _ | (fail) | decide | (simp only [List.length_map]; done))) | ((with_reducible refine ex_p ?_ (fun hh => ?_)); focus (first | omega | (simp only [List.length_map]; omega))) | ((with_reducible refine hK _ _ _ ?_); clear hK hE hT; clear K) | ((with_reducible first | refine hE _ _ _ _ ?_ | refine hT _ _ _ ?_ | fail); (first | (clear hK hE hT; clear K) | (clear hR hE hT; clear K) | skip); try simp only [IFB, seval]) | ((with_reducible apply_assumption -symm -exfalso); try simp only [IFB, seval]) | fail))
              repeat' ((fail_if_success with_reducible refine hand_k (id := 4) ?_); (first | (with_reducible first | refine seq_k fun K hK hE hT => ?_ | refine block_k fun K hK hE hT => ?_ | refine lex_nil ?_ | fail) | ((with_reducible refine region_k ?_); simp only [dstsOf, EVB, seval]) | ((with_reducible refine draw_k ?_ fun D hD => ?_); (focus (first | rfl | kernel_rfl)); simp only [dstsOf, EVB, seval]) | ((with_reducible first | refine lex_move ?_ | refine lex_assign ?_); simp only [EVB, seval]) | (with_reducible first | refine lex_cons fun KS hKS => ?_ | refine lexd_cons fun KS hKS => ?_ | refine skip_k ?_ | refine exit_k ?_ | refine ret_k ?_ | fail) | ((with_reducible refine call_go ?_); fail) | ((with_reducible refine step_go ?_); (fail_if_success with_reducible refine call_go ?_); simp only [ENB, seval, tiAll, List.length_map]) | ((with_reducible refine lexd_nil ?_ ?_); (focus (refine hD _ ?_; first | kernel_rfl | with_unfolding_all rfl)); clear hD; clear D) | ((with_reducible refine guard_go ?_); refine lex_gone rfl rfl ?_; simp only [EVB, seval]) | ((with_reducible refine guardd_go ?_); refine lexd_gone rfl rfl ?_; simp only [EVB, seval]) | ((first | ((with_reducible refine guard_go ?_); refine lex_guard rfl rfl (fun hg KS hKS => ?_) (fun hg => ?_)) | ((with_reducible refine guardd_go ?_); refine lexd_guard rfl rfl (fun hg KS hKS => ?_) (fun hg => ?_)) | ((with_reducible refine cond_go ?_); refine cond_k rfl (fun hg => ?_) (fun hg => ?_)) | (with_reducible refine And.intro (fun hg => ?_) (fun hg => ?_)) | fail) <;> first | ((with_reducible exfalso); exact absurd hg (by decide)) | ((try simp only [CNL] at hg) <;> first | ((with_reducible exfalso); omega) | ((with_reducible exfalso); first | exact tf (by assumption) hg | exact tf hg (by assumption)) | ((try with_reducible (have hT0 : True := hg; clear hT0 hg)); first | (with_reducible refine wpc_go ?_) | (try simp only [EVB, seval])))) | ((with_reducible refine hKS _ _ _ _ ?_); clear hKS; clear KS; simp only [EVB, seval]) | ((with_reducible refine And.intro ?_ ?_); focus (first | omega | exact u8_le _ | exact flat_intK _ | exact flat_bytK _ | (fail) | decide | (simp only [List.length_map]; done))) | ((with_reducible refine ex_p ?_ (fun hh => ?_)); focus (first | omega | (simp only [List.length_map]; omega))) | ((with_reducible refine hK _ _ _ ?_); clear hK hE hT; clear K) | ((with_reducible first | refine hE _ _ _ _ ?_ | refine hT _ _ _ ?_ | fail); (first | (clear hK hE hT; clear K) | (clear hR hE hT; clear K) | skip); try simp only [IFB, seval]) | ((with_reducible apply_assumption -symm -exfalso); try simp only [IFB, seval]) | fail))
              refine region_k ?_
              simp only [dstsOf, EVB, seval]
              repeat' (first | (refine lex_fam [Vw.ro 0 0 d.Files.length true, Vw.ro 1 0 d.Wait.length true] cs rfl 0 rfl ?_ ?_) | (first | (with_reducible first | refine seq_k fun K hK hE hT => ?_ | refine block_k fun K hK hE hT => ?_ | refine lex_nil ?_ | fail) | ((with_reducible refine region_k ?_); simp only [dstsOf, EVB, seval]) | ((with_reducible refine draw_k ?_ fun D hD => ?_); (focus (first | rfl | kernel_rfl)); simp only [dstsOf, EVB, seval]) | ((with_reducible first | refine lex_move ?_ | refine lex_assign ?_); simp only [EVB, seval]) | (with_reducible first | refine lex_cons fun KS hKS => ?_ | refine lexd_cons fun KS hKS => ?_ | refine skip_k ?_ | refine exit_k ?_ | refine ret_k ?_ | fail) | ((with_reducible refine call_go ?_); fail) | ((with_reducible refine step_go ?_); (fail_if_success with_reducible refine call_go ?_); simp only [ENB, seval, tiAll, List.length_map]) | ((with_reducible refine lexd_nil ?_ ?_); (focus (refine hD _ ?_; first | kernel_rfl | with_unfolding_all rfl)); clear hD; clear D) | ((with_reducible refine guard_go ?_); refine lex_gone rfl rfl ?_; simp only [EVB, seval]) | ((with_reducible refine guardd_go ?_); refine lexd_gone rfl rfl ?_; simp only [EVB, seval]) | ((first | ((with_reducible refine guard_go ?_); refine lex_guard rfl rfl (fun hg KS hKS => ?_) (fun hg => ?_)) | ((with_reducible refine guardd_go ?_); refine lexd_guard rfl rfl (fun hg KS hKS => ?_) (fun hg => ?_)) | ((with_reducible refine cond_go ?_); refine cond_k rfl (fun hg => ?_) (fun hg => ?_)) | (with_reducible refine And.intro (fun hg => ?_) (fun hg => ?_)) | fail) <;> first | ((with_reducible exfalso); exact absurd hg (by decide)) | ((try simp only [CNL] at hg) <;> first | ((with_reducible exfalso); omega) | ((with_reducible exfalso); first | exact tf (by assumption) hg | exact tf hg (by assumption)) | ((try with_reducible (have hT0 : True := hg; clear hT0 hg)); first | (with_reducible refine wpc_go ?_) | (try simp only [EVB, seval])))) | ((with_reducible refine hKS _ _ _ _ ?_); clear hKS; clear KS; simp only [EVB, seval]) | ((with_reducible refine And.intro ?_ ?_); focus (first | omega | exact u8_le _ | exact flat_intK _ | exact flat_bytK _ | (fail) | decide | (simp only [List.length_map]; done))) | ((with_reducible refine ex_p ?_ (fun hh => ?_)); focus (first | omega | (simp only [List.length_map]; omega))) | ((with_reducible refine hK _ _ _ ?_); clear hK hE hT; clear K) | ((with_reducible first | refine hE _ _ _ _ ?_ | refine hT _ _ _ ?_ | fail); (first | (clear hK hE hT; clear K) | (clear hR hE hT; clear K) | skip); try simp only [IFB, seval]) | ((with_reducible apply_assumption -symm -exfalso); try simp only [IFB, seval]) | fail))
              · exact fun i => fits_of _ rfl (by simp [CXB]) (by simp [CXB]) rfl (by simp [CXB]) (by simp [CXB]) (by dsimp only; omega)
              intro b
              simp only [EFB, seval]
              simp only [EVB, seval]
              have kf := ffits_k b M o (by omega) hn
              rw [hf] at kf
              have kz := fsize_k b M q1 (by omega)
              (have gx := @List.length_map.{0,0}; refine go ?_; (repeat' first | exact Ef.mk | apply Lf.mk | refine fun (K : KT) hK hE hT => ?_ | refine fun (KS : KE) hKS => ?_ | refine fun (D : KD) hD => ?_ | refine fun (hg : (_ : Prop)) => ?_ | fail); all_goals (first | (refine Wr.mk ?_; (try clear gx); repeat first | clear hK hE hT K | clear hR hE hT K) | assumption | skip))
              refine call_k [.same 10, .ro 2 0 o.Data.length true] (kf) rfl rfl rfl (fits_of _ rfl (by simp [CXB]) (by simp [CXB]) rfl (by simp [CXB]) (by simp [CXB]) (by dsimp only; omega)) ?_
              simp only [EFB, seval]
              refine hKS _ _ _ _ ?_
              clear hKS; clear KS; simp only [EVB, seval]
              (have gx := And.intro @List.length_map.{0,0} @FsOpD.k.eq_1; have q1 := co; refine go ?_; (repeat' first | exact Ef.mk | apply Lf.mk | refine fun (K : KT) hK hE hT => ?_ | refine fun (KS : KE) hKS => ?_ | refine fun (D : KD) hD => ?_ | refine fun (hg : (_ : Prop)) => ?_ | fail); all_goals (first | (refine Wr.mk ?_; (try clear gx q1); repeat first | clear hK hE hT K | clear hR hE hT K) | assumption | skip))
              refine call_k [.same 10] (kz) rfl rfl rfl (fits_of _ rfl (by simp [CXB]) (by simp [CXB]) rfl (by simp [CXB]) (by simp [CXB]) (by dsimp only; omega)) ?_
              simp only [EFB, seval]
              refine hKS _ _ _ _ ?_
              clear hKS; clear KS; simp only [EVB, seval]
              (have gx := And.intro (@List.length_map.{0,0}) (And.intro @hL @FsOpD.k.eq_1); have q1 := cb; refine go ?_; (repeat' first | exact Ef.mk | apply Lf.mk | refine fun (K : KT) hK hE hT => ?_ | refine fun (KS : KE) hKS => ?_ | refine fun (D : KD) hD => ?_ | refine fun (hg : (_ : Prop)) => ?_ | fail); all_goals (first | (refine Wr.mk ?_; (try clear gx q1); repeat first | clear hK hE hT K | clear hR hE hT K) | assumption | skip))
              all_goals (refine post_a hres (.inl rfl) ?_; simp only [RSB, ENB, seval, tiAll, e1, FsOpD.k, l1]; simp only [MAB, seval]; refine ⟨rfl, rfl, ?_, ?_, ?_⟩ <;> (first | rfl | (simp [WKB, Nat.add_comm, e1, FsOpD.k, l1]; done) | (simp only [WKB, seval])))
            case pos =>
              rw [if_pos hc] at ec eo
              have hlt : L < o.Data.length := by omega
              obtain ⟨h2, _⟩ := id hc
              have lD : (o.Data.take L).length = L := by rw [List.length_take]; omega
              rw [eo] at ew
              dsimp only at ew
              rw [lD] at ew
              rw [ec]
              by_cases hL0 : L = 0
              case pos =>
                rw [if_pos ⟨h2, hL0⟩] at ew
                rw [ew]
                refine fnOK_of true mixed Try.func33 rfl (by rfl) (by rfl) ?_
                have hres := congrArg Array.toList Try.results33
                simp only [Try.ntmps33, BGB, seval]
                repeat' ((fail_if_success with_reducible refine hand_k (id := 4) ?_); (first | (with_reducible first | refine seq_k fun K hK hE hT => ?_ | refine block_k fun K hK hE hT => ?_ | refine lex_nil ?_ | fail) | ((with_reducible refine region_k ?_); simp only [dstsOf, EVB, seval]) | ((with_reducible refine draw_k ?_ fun D hD => ?_); (focus (first | rfl | kernel_rfl)); simp only [dstsOf, EVB, seval]) | ((with_reducible first | refine lex_move ?_ | refine lex_assign ?_); simp only [EVB, seval]) | (with_reducible first | refine lex_cons fun KS hKS => ?_ | refine lexd_cons fun KS hKS => ?_ | refine skip_k ?_ | refine exit_k ?_ | refine ret_k ?_ | fail) | ((with_reducible refine call_go ?_); (first | ((first | refine call_a (cd) rfl rfl ?_ | refine call_a (cf) rfl rfl ?_ | refine call_a (cc) rfl rfl ?_ | fail); simp only [ENB, seval, tiAll, List.length_map]; simp only [MAB, seval]; refine ⟨rfl, ?_, ?_, ?_, rfl, ?_, ?_, ?_, ?_⟩; (iterate 6 (focus (first | rfl | (simp [CXB, map_take, List.length_map]; done) | (simp [CXB, List.length_map]; omega) | (dsimp only; omega)))); simp only [EFB, seval]) | fail)) | ((with_reducible refine step_go ?_); (fail_if_success with_reducible refine call_go ?_); simp only [ENB, seval, tiAll, List.length_map]) | ((with_reducible refine lexd_nil ?_ ?_); (focus (refine hD _ ?_; first | kernel_rfl | with_unfolding_all rfl)); clear hD; clear D) | ((with_reducible refine guard_go ?_); refine lex_gone rfl rfl ?_; simp only [EVB, seval]) | ((with_reducible refine guardd_go ?_); refine lexd_gone rfl rfl ?_; simp only [EVB, seval]) | ((first | ((with_reducible refine guard_go ?_); refine lex_guard rfl rfl (fun hg KS hKS => ?_) (fun hg => ?_)) | ((with_reducible refine guardd_go ?_); refine lexd_guard rfl rfl (fun hg KS hKS => ?_) (fun hg => ?_)) | ((with_reducible refine cond_go ?_); refine cond_k rfl (fun hg => ?_) (fun hg => ?_)) | (with_reducible refine And.intro (fun hg => ?_) (fun hg => ?_)) | fail) <;> first | ((with_reducible exfalso); exact absurd hg (by decide)) | ((try simp only [CNL] at hg) <;> first | ((with_reducible exfalso); omega) | ((with_reducible exfalso); first | exact tf (by assumption) hg | exact tf hg (by assumption)) | ((try with_reducible (have hT0 : True := hg; clear hT0 hg)); first | (with_reducible refine wpc_go ?_) | (try simp only [EVB, seval])))) | ((with_reducible refine hKS _ _ _ _ ?_); clear hKS; clear KS; simp only [EVB, seval]) | ((with_reducible refine And.intro ?_ ?_); focus (first | omega | exact u8_le _ | exact flat_intK _ | exact flat_bytK _ | (fail) | decide | (simp only [List.length_map]; done))) | ((with_reducible refine ex_p ?_ (fun hh => ?_)); focus (first | omega | (simp only [List.length_map]; omega))) | ((with_reducible refine hK _ _ _ ?_); clear hK hE hT; clear K) | ((with_reducible first | refine hE _ _ _ _ ?_ | refine hT _ _ _ ?_ | fail); (first | (clear hK hE hT; clear K) | (clear hR hE hT; clear K) | skip); try simp only [IFB, seval]) | ((with_reducible apply_assumption -symm -exfalso); try simp only [IFB, seval]) | fail))
                repeat' ((fail_if_success with_reducible refine hand_k (id := 4) ?_); (first | (with_reducible first | refine seq_k fun K hK hE hT => ?_ | refine block_k fun K hK hE hT => ?_ | refine lex_nil ?_ | fail) | ((with_reducible refine region_k ?_); simp only [dstsOf, EVB, seval]) | ((with_reducible refine draw_k ?_ fun D hD => ?_); (focus (first | rfl | kernel_rfl)); simp only [dstsOf, EVB, seval]) | ((with_reducible first | refine lex_move ?_ | refine lex_assign ?_); simp only [EVB, seval]) | (with_reducible first | refine lex_cons fun KS hKS => ?_ | refine lexd_cons fun KS hKS => ?_ | refine skip_k ?_ | refine exit_k ?_ | refine ret_k ?_ | fail) | ((with_reducible refine call_go ?_); fail) | ((with_reducible refine step_go ?_); (fail_if_success with_reducible refine call_go ?_); simp only [ENB, seval, tiAll, List.length_map]) | ((with_reducible refine lexd_nil ?_ ?_); (focus (refine hD _ ?_; first | kernel_rfl | with_unfolding_all rfl)); clear hD; clear D) | ((with_reducible refine guard_go ?_); refine lex_gone rfl rfl ?_; simp only [EVB, seval]) | ((with_reducible refine guardd_go ?_); refine lexd_gone rfl rfl ?_; simp only [EVB, seval]) | ((first | ((with_reducible refine guard_go ?_); refine lex_guard rfl rfl (fun hg KS hKS => ?_) (fun hg => ?_)) | ((with_reducible refine guardd_go ?_); refine lexd_guard rfl rfl (fun hg KS hKS => ?_) (fun hg => ?_)) | ((with_reducible refine cond_go ?_); refine cond_k rfl (fun hg => ?_) (fun hg => ?_)) | (with_reducible refine And.intro (fun hg => ?_) (fun hg => ?_)) | fail) <;> first | ((with_reducible exfalso); exact absurd hg (by decide)) | ((try simp only [CNL] at hg) <;> first | ((with_reducible exfalso); omega) | ((with_reducible exfalso); first | exact tf (by assumption) hg | exact tf hg (by assumption)) | ((try with_reducible (have hT0 : True := hg; clear hT0 hg)); first | (with_reducible refine wpc_go ?_) | (try simp only [EVB, seval])))) | ((with_reducible refine hKS _ _ _ _ ?_); clear hKS; clear KS; simp only [EVB, seval]) | ((with_reducible refine And.intro ?_ ?_); focus (first | omega | exact u8_le _ | exact flat_intK _ | exact flat_bytK _ | (fail) | decide | (simp only [List.length_map]; done))) | ((with_reducible refine ex_p ?_ (fun hh => ?_)); focus (first | omega | (simp only [List.length_map]; omega))) | ((with_reducible refine hK _ _ _ ?_); clear hK hE hT; clear K) | ((with_reducible first | refine hE _ _ _ _ ?_ | refine hT _ _ _ ?_ | fail); (first | (clear hK hE hT; clear K) | (clear hR hE hT; clear K) | skip); try simp only [IFB, seval]) | ((with_reducible apply_assumption -symm -exfalso); try simp only [IFB, seval]) | fail))
                refine region_k ?_
                simp only [dstsOf, EVB, seval]
                repeat' (first | (refine lex_fam [Vw.ro 0 0 d.Files.length true, Vw.ro 1 0 d.Wait.length true] cs rfl 0 rfl ?_ ?_) | (first | (with_reducible first | refine seq_k fun K hK hE hT => ?_ | refine block_k fun K hK hE hT => ?_ | refine lex_nil ?_ | fail) | ((with_reducible refine region_k ?_); simp only [dstsOf, EVB, seval]) | ((with_reducible refine draw_k ?_ fun D hD => ?_); (focus (first | rfl | kernel_rfl)); simp only [dstsOf, EVB, seval]) | ((with_reducible first | refine lex_move ?_ | refine lex_assign ?_); simp only [EVB, seval]) | (with_reducible first | refine lex_cons fun KS hKS => ?_ | refine lexd_cons fun KS hKS => ?_ | refine skip_k ?_ | refine exit_k ?_ | refine ret_k ?_ | fail) | ((with_reducible refine call_go ?_); fail) | ((with_reducible refine step_go ?_); (fail_if_success with_reducible refine call_go ?_); simp only [ENB, seval, tiAll, List.length_map]) | ((with_reducible refine lexd_nil ?_ ?_); (focus (refine hD _ ?_; first | kernel_rfl | with_unfolding_all rfl)); clear hD; clear D) | ((with_reducible refine guard_go ?_); refine lex_gone rfl rfl ?_; simp only [EVB, seval]) | ((with_reducible refine guardd_go ?_); refine lexd_gone rfl rfl ?_; simp only [EVB, seval]) | ((first | ((with_reducible refine guard_go ?_); refine lex_guard rfl rfl (fun hg KS hKS => ?_) (fun hg => ?_)) | ((with_reducible refine guardd_go ?_); refine lexd_guard rfl rfl (fun hg KS hKS => ?_) (fun hg => ?_)) | ((with_reducible refine cond_go ?_); refine cond_k rfl (fun hg => ?_) (fun hg => ?_)) | (with_reducible refine And.intro (fun hg => ?_) (fun hg => ?_)) | fail) <;> first | ((with_reducible exfalso); exact absurd hg (by decide)) | ((try simp only [CNL] at hg) <;> first | ((with_reducible exfalso); omega) | ((with_reducible exfalso); first | exact tf (by assumption) hg | exact tf hg (by assumption)) | ((try with_reducible (have hT0 : True := hg; clear hT0 hg)); first | (with_reducible refine wpc_go ?_) | (try simp only [EVB, seval])))) | ((with_reducible refine hKS _ _ _ _ ?_); clear hKS; clear KS; simp only [EVB, seval]) | ((with_reducible refine And.intro ?_ ?_); focus (first | omega | exact u8_le _ | exact flat_intK _ | exact flat_bytK _ | (fail) | decide | (simp only [List.length_map]; done))) | ((with_reducible refine ex_p ?_ (fun hh => ?_)); focus (first | omega | (simp only [List.length_map]; omega))) | ((with_reducible refine hK _ _ _ ?_); clear hK hE hT; clear K) | ((with_reducible first | refine hE _ _ _ _ ?_ | refine hT _ _ _ ?_ | fail); (first | (clear hK hE hT; clear K) | (clear hR hE hT; clear K) | skip); try simp only [IFB, seval]) | ((with_reducible apply_assumption -symm -exfalso); try simp only [IFB, seval]) | fail))
                · exact fun i => fits_of _ rfl (by simp [CXB]) (by simp [CXB]) rfl (by simp [CXB]) (by simp [CXB]) (by dsimp only; omega)
                intro b
                simp only [EFB, seval]
                simp only [EVB, seval]
                have kf := ffits_k b M o (by omega) hn
                rw [hf] at kf
                have kz := fsize_k b M q1 (by omega)
                (have gx := @List.length_map.{0,0}; refine go ?_; (repeat' first | exact Ef.mk | apply Lf.mk | refine fun (K : KT) hK hE hT => ?_ | refine fun (KS : KE) hKS => ?_ | refine fun (D : KD) hD => ?_ | refine fun (hg : (_ : Prop)) => ?_ | fail); all_goals (first | (refine Wr.mk ?_; (try clear gx); repeat first | clear hK hE hT K | clear hR hE hT K) | assumption | skip))
                refine call_k [.same 10, .ro 2 0 o.Data.length true] (kf) rfl rfl rfl (fits_of _ rfl (by simp [CXB]) (by simp [CXB]) rfl (by simp [CXB]) (by simp [CXB]) (by dsimp only; omega)) ?_
                simp only [EFB, seval]
                refine hKS _ _ _ _ ?_
                clear hKS; clear KS; simp only [EVB, seval]
                (have gx := And.intro @List.length_map.{0,0} @FsOpD.k.eq_1; have q1 := co; refine go ?_; (repeat' first | exact Ef.mk | apply Lf.mk | refine fun (K : KT) hK hE hT => ?_ | refine fun (KS : KE) hKS => ?_ | refine fun (D : KD) hD => ?_ | refine fun (hg : (_ : Prop)) => ?_ | fail); all_goals (first | (refine Wr.mk ?_; (try clear gx q1); repeat first | clear hK hE hT K | clear hR hE hT K) | assumption | skip))
                refine call_k [.same 10] (kz) rfl rfl rfl (fits_of _ rfl (by simp [CXB]) (by simp [CXB]) rfl (by simp [CXB]) (by simp [CXB]) (by dsimp only; omega)) ?_
                simp only [EFB, seval]
                refine hKS _ _ _ _ ?_
                clear hKS; clear KS; simp only [EVB, seval]
                (have gx := And.intro (@List.length_map.{0,0}) (And.intro (@hL) (And.intro (@FsOpD.k.eq_1) (And.intro @lit_n @h2))); have q1 := cb; refine go ?_; (repeat' first | exact Ef.mk | apply Lf.mk | refine fun (K : KT) hK hE hT => ?_ | refine fun (KS : KE) hKS => ?_ | refine fun (D : KD) hD => ?_ | refine fun (hg : (_ : Prop)) => ?_ | fail); all_goals (first | (refine Wr.mk ?_; (try clear gx q1); repeat first | clear hK hE hT K | clear hR hE hT K) | assumption | skip))
                all_goals (refine post_a hres (.inl rfl) ?_; simp only [RSB, ENB, seval, tiAll, true_and]; simp only [MAB, seval]; refine ⟨rfl, rfl, ?_, ?_, ?_⟩ <;> (first | rfl | (simp [WKB, Nat.add_comm, true_and]; done) | (simp only [WKB, seval])))
              case neg =>
                rw [if_neg fun h => hL0 h.2] at ew
                rw [ew]
                have mT : (o.Data.take L).map bytK = (o.Data.map bytK).take L := by rw [List.map_take]
                have lT : ((o.Data.map bytK).take L).length = L := by rw [← mT, List.length_map, lD]
                have l2 : ∀ x : FsOpD, (d.Wait ++ [x]).length = d.Wait.length + 1 := fun x => by simp
                have e2 : ∀ x : FsOpD, (d.Wait ++ [x]).map (FsOpD.k 5) = d.Wait.map (FsOpD.k 5) ++ [FsOpD.k 5 x] := fun x => by rw [List.map_append]; rfl
                refine fnOK_of true mixed Try.func33 rfl (by rfl) (by rfl) ?_
                have hres := congrArg Array.toList Try.results33
                simp only [Try.ntmps33, BGB, seval]
                repeat' ((fail_if_success with_reducible refine hand_k (id := 4) ?_); (first | (with_reducible first | refine seq_k fun K hK hE hT => ?_ | refine block_k fun K hK hE hT => ?_ | refine lex_nil ?_ | fail) | ((with_reducible refine region_k ?_); simp only [dstsOf, EVB, seval]) | ((with_reducible refine draw_k ?_ fun D hD => ?_); (focus (first | rfl | kernel_rfl)); simp only [dstsOf, EVB, seval]) | ((with_reducible first | refine lex_move ?_ | refine lex_assign ?_); simp only [EVB, seval]) | (with_reducible first | refine lex_cons fun KS hKS => ?_ | refine lexd_cons fun KS hKS => ?_ | refine skip_k ?_ | refine exit_k ?_ | refine ret_k ?_ | fail) | ((with_reducible refine call_go ?_); (first | ((first | refine call_a (cd) rfl rfl ?_ | refine call_a (cf) rfl rfl ?_ | refine call_a (cc) rfl rfl ?_ | fail); simp only [ENB, seval, tiAll, List.length_map]; simp only [MAB, seval]; refine ⟨rfl, ?_, ?_, ?_, rfl, ?_, ?_, ?_, ?_⟩; (iterate 6 (focus (first | rfl | (simp [CXB, map_take, List.length_map]; done) | (simp [CXB, List.length_map]; omega) | (dsimp only; omega)))); simp only [EFB, seval]) | fail)) | ((with_reducible refine step_go ?_); (fail_if_success with_reducible refine call_go ?_); simp only [ENB, seval, tiAll, List.length_map]) | ((with_reducible refine lexd_nil ?_ ?_); (focus (refine hD _ ?_; first | kernel_rfl | with_unfolding_all rfl)); clear hD; clear D) | ((with_reducible refine guard_go ?_); refine lex_gone rfl rfl ?_; simp only [EVB, seval]) | ((with_reducible refine guardd_go ?_); refine lexd_gone rfl rfl ?_; simp only [EVB, seval]) | ((first | ((with_reducible refine guard_go ?_); refine lex_guard rfl rfl (fun hg KS hKS => ?_) (fun hg => ?_)) | ((with_reducible refine guardd_go ?_); refine lexd_guard rfl rfl (fun hg KS hKS => ?_) (fun hg => ?_)) | ((with_reducible refine cond_go ?_); refine cond_k rfl (fun hg => ?_) (fun hg => ?_)) | (with_reducible refine And.intro (fun hg => ?_) (fun hg => ?_)) | fail) <;> first | ((with_reducible exfalso); exact absurd hg (by decide)) | ((try simp only [CNL] at hg) <;> first | ((with_reducible exfalso); omega) | ((with_reducible exfalso); first | exact tf (by assumption) hg | exact tf hg (by assumption)) | ((try with_reducible (have hT0 : True := hg; clear hT0 hg)); first | (with_reducible refine wpc_go ?_) | (try simp only [EVB, seval])))) | ((with_reducible refine hKS _ _ _ _ ?_); clear hKS; clear KS; simp only [EVB, seval]) | ((with_reducible refine And.intro ?_ ?_); focus (first | omega | exact u8_le _ | exact flat_intK _ | exact flat_bytK _ | (fail) | decide | (simp only [List.length_map]; done))) | ((with_reducible refine ex_p ?_ (fun hh => ?_)); focus (first | omega | (simp only [List.length_map]; omega))) | ((with_reducible refine hK _ _ _ ?_); clear hK hE hT; clear K) | ((with_reducible first | refine hE _ _ _ _ ?_ | refine hT _ _ _ ?_ | fail); (first | (clear hK hE hT; clear K) | (clear hR hE hT; clear K) | skip); try simp only [IFB, seval]) | ((with_reducible apply_assumption -symm -exfalso); try simp only [IFB, seval]) | fail))
                repeat' ((fail_if_success with_reducible refine hand_k (id := 4) ?_); (first | (with_reducible first | refine seq_k fun K hK hE hT => ?_ | refine block_k fun K hK hE hT => ?_ | refine lex_nil ?_ | fail) | ((with_reducible refine region_k ?_); simp only [dstsOf, EVB, seval]) | ((with_reducible refine draw_k ?_ fun D hD => ?_); (focus (first | rfl | kernel_rfl)); simp only [dstsOf, EVB, seval]) | ((with_reducible first | refine lex_move ?_ | refine lex_assign ?_); simp only [EVB, seval]) | (with_reducible first | refine lex_cons fun KS hKS => ?_ | refine lexd_cons fun KS hKS => ?_ | refine skip_k ?_ | refine exit_k ?_ | refine ret_k ?_ | fail) | ((with_reducible refine call_go ?_); fail) | ((with_reducible refine step_go ?_); (fail_if_success with_reducible refine call_go ?_); simp only [ENB, seval, tiAll, List.length_map]) | ((with_reducible refine lexd_nil ?_ ?_); (focus (refine hD _ ?_; first | kernel_rfl | with_unfolding_all rfl)); clear hD; clear D) | ((with_reducible refine guard_go ?_); refine lex_gone rfl rfl ?_; simp only [EVB, seval]) | ((with_reducible refine guardd_go ?_); refine lexd_gone rfl rfl ?_; simp only [EVB, seval]) | ((first | ((with_reducible refine guard_go ?_); refine lex_guard rfl rfl (fun hg KS hKS => ?_) (fun hg => ?_)) | ((with_reducible refine guardd_go ?_); refine lexd_guard rfl rfl (fun hg KS hKS => ?_) (fun hg => ?_)) | ((with_reducible refine cond_go ?_); refine cond_k rfl (fun hg => ?_) (fun hg => ?_)) | (with_reducible refine And.intro (fun hg => ?_) (fun hg => ?_)) | fail) <;> first | ((with_reducible exfalso); exact absurd hg (by decide)) | ((try simp only [CNL] at hg) <;> first | ((with_reducible exfalso); omega) | ((with_reducible exfalso); first | exact tf (by assumption) hg | exact tf hg (by assumption)) | ((try with_reducible (have hT0 : True := hg; clear hT0 hg)); first | (with_reducible refine wpc_go ?_) | (try simp only [EVB, seval])))) | ((with_reducible refine hKS _ _ _ _ ?_); clear hKS; clear KS; simp only [EVB, seval]) | ((with_reducible refine And.intro ?_ ?_); focus (first | omega | exact u8_le _ | exact flat_intK _ | exact flat_bytK _ | (fail) | decide | (simp only [List.length_map]; done))) | ((with_reducible refine ex_p ?_ (fun hh => ?_)); focus (first | omega | (simp only [List.length_map]; omega))) | ((with_reducible refine hK _ _ _ ?_); clear hK hE hT; clear K) | ((with_reducible first | refine hE _ _ _ _ ?_ | refine hT _ _ _ ?_ | fail); (first | (clear hK hE hT; clear K) | (clear hR hE hT; clear K) | skip); try simp only [IFB, seval]) | ((with_reducible apply_assumption -symm -exfalso); try simp only [IFB, seval]) | fail))
                refine region_k ?_
                simp only [dstsOf, EVB, seval]
                repeat' (first | (refine lex_fam [Vw.ro 0 0 d.Files.length true, Vw.ro 1 0 d.Wait.length true] cs rfl 0 rfl ?_ ?_) | (first | (with_reducible first | refine seq_k fun K hK hE hT => ?_ | refine block_k fun K hK hE hT => ?_ | refine lex_nil ?_ | fail) | ((with_reducible refine region_k ?_); simp only [dstsOf, EVB, seval]) | ((with_reducible refine draw_k ?_ fun D hD => ?_); (focus (first | rfl | kernel_rfl)); simp only [dstsOf, EVB, seval]) | ((with_reducible first | refine lex_move ?_ | refine lex_assign ?_); simp only [EVB, seval]) | (with_reducible first | refine lex_cons fun KS hKS => ?_ | refine lexd_cons fun KS hKS => ?_ | refine skip_k ?_ | refine exit_k ?_ | refine ret_k ?_ | fail) | ((with_reducible refine call_go ?_); fail) | ((with_reducible refine step_go ?_); (fail_if_success with_reducible refine call_go ?_); simp only [ENB, seval, tiAll, List.length_map]) | ((with_reducible refine lexd_nil ?_ ?_); (focus (refine hD _ ?_; first | kernel_rfl | with_unfolding_all rfl)); clear hD; clear D) | ((with_reducible refine guard_go ?_); refine lex_gone rfl rfl ?_; simp only [EVB, seval]) | ((with_reducible refine guardd_go ?_); refine lexd_gone rfl rfl ?_; simp only [EVB, seval]) | ((first | ((with_reducible refine guard_go ?_); refine lex_guard rfl rfl (fun hg KS hKS => ?_) (fun hg => ?_)) | ((with_reducible refine guardd_go ?_); refine lexd_guard rfl rfl (fun hg KS hKS => ?_) (fun hg => ?_)) | ((with_reducible refine cond_go ?_); refine cond_k rfl (fun hg => ?_) (fun hg => ?_)) | (with_reducible refine And.intro (fun hg => ?_) (fun hg => ?_)) | fail) <;> first | ((with_reducible exfalso); exact absurd hg (by decide)) | ((try simp only [CNL] at hg) <;> first | ((with_reducible exfalso); omega) | ((with_reducible exfalso); first | exact tf (by assumption) hg | exact tf hg (by assumption)) | ((try with_reducible (have hT0 : True := hg; clear hT0 hg)); first | (with_reducible refine wpc_go ?_) | (try simp only [EVB, seval])))) | ((with_reducible refine hKS _ _ _ _ ?_); clear hKS; clear KS; simp only [EVB, seval]) | ((with_reducible refine And.intro ?_ ?_); focus (first | omega | exact u8_le _ | exact flat_intK _ | exact flat_bytK _ | (fail) | decide | (simp only [List.length_map]; done))) | ((with_reducible refine ex_p ?_ (fun hh => ?_)); focus (first | omega | (simp only [List.length_map]; omega))) | ((with_reducible refine hK _ _ _ ?_); clear hK hE hT; clear K) | ((with_reducible first | refine hE _ _ _ _ ?_ | refine hT _ _ _ ?_ | fail); (first | (clear hK hE hT; clear K) | (clear hR hE hT; clear K) | skip); try simp only [IFB, seval]) | ((with_reducible apply_assumption -symm -exfalso); try simp only [IFB, seval]) | fail))
                · exact fun i => fits_of _ rfl (by simp [CXB]) (by simp [CXB]) rfl (by simp [CXB]) (by simp [CXB]) (by dsimp only; omega)
                intro b
                simp only [EFB, seval]
                simp only [EVB, seval]
                have kf := ffits_k b M o (by omega) hn
                rw [hf] at kf
                have kz := fsize_k b M q1 (by omega)
                (have gx := @List.length_map.{0,0}; refine go ?_; (repeat' first | exact Ef.mk | apply Lf.mk | refine fun (K : KT) hK hE hT => ?_ | refine fun (KS : KE) hKS => ?_ | refine fun (D : KD) hD => ?_ | refine fun (hg : (_ : Prop)) => ?_ | fail); all_goals (first | (refine Wr.mk ?_; (try clear gx); repeat first | clear hK hE hT K | clear hR hE hT K) | assumption | skip))
                refine call_k [.same 10, .ro 2 0 o.Data.length true] (kf) rfl rfl rfl (fits_of _ rfl (by simp [CXB]) (by simp [CXB]) rfl (by simp [CXB]) (by simp [CXB]) (by dsimp only; omega)) ?_
                simp only [EFB, seval]
                refine hKS _ _ _ _ ?_
                clear hKS; clear KS; simp only [EVB, seval]
                (have gx := And.intro @List.length_map.{0,0} @FsOpD.k.eq_1; have q1 := co; refine go ?_; (repeat' first | exact Ef.mk | apply Lf.mk | refine fun (K : KT) hK hE hT => ?_ | refine fun (KS : KE) hKS => ?_ | refine fun (D : KD) hD => ?_ | refine fun (hg : (_ : Prop)) => ?_ | fail); all_goals (first | (refine Wr.mk ?_; (try clear gx q1); repeat first | clear hK hE hT K | clear hR hE hT K) | assumption | skip))
                refine call_k [.same 10] (kz) rfl rfl rfl (fits_of _ rfl (by simp [CXB]) (by simp [CXB]) rfl (by simp [CXB]) (by simp [CXB]) (by dsimp only; omega)) ?_
                simp only [EFB, seval]
                refine hKS _ _ _ _ ?_
                clear hKS; clear KS; simp only [EVB, seval]
                repeat' ((fail_if_success with_reducible refine hand_k (id := 17) ?_); (first | (with_reducible first | refine seq_k fun K hK hE hT => ?_ | refine block_k fun K hK hE hT => ?_ | refine lex_nil ?_ | fail) | ((with_reducible refine region_k ?_); simp only [dstsOf, EVB, seval]) | ((with_reducible refine draw_k ?_ fun D hD => ?_); (focus (first | rfl | kernel_rfl)); simp only [dstsOf, EVB, seval]) | ((with_reducible first | refine lex_move ?_ | refine lex_assign ?_); simp only [EVB, seval]) | (with_reducible first | refine lex_cons fun KS hKS => ?_ | refine lexd_cons fun KS hKS => ?_ | refine skip_k ?_ | refine exit_k ?_ | refine ret_k ?_ | fail) | ((with_reducible refine call_go ?_); fail) | ((with_reducible refine step_go ?_); (fail_if_success with_reducible refine call_go ?_); simp only [ENB, seval, tiAll, List.length_map, hL, FsOpD.k, lit_n, h2]) | ((with_reducible refine lexd_nil ?_ ?_); (focus (refine hD _ ?_; first | kernel_rfl | with_unfolding_all rfl)); clear hD; clear D) | ((with_reducible refine guard_go ?_); refine lex_gone rfl rfl ?_; simp only [EVB, seval]) | ((with_reducible refine guardd_go ?_); refine lexd_gone rfl rfl ?_; simp only [EVB, seval]) | ((first | ((with_reducible refine guard_go ?_); refine lex_guard rfl rfl (fun hg KS hKS => ?_) (fun hg => ?_)) | ((with_reducible refine guardd_go ?_); refine lexd_guard rfl rfl (fun hg KS hKS => ?_) (fun hg => ?_)) | ((with_reducible refine cond_go ?_); refine cond_k rfl (fun hg => ?_) (fun hg => ?_)) | (with_reducible refine And.intro (fun hg => ?_) (fun hg => ?_)) | fail) <;> first | ((with_reducible exfalso); exact absurd hg (by decide)) | ((try simp only [CNL] at hg) <;> first | ((with_reducible exfalso); omega) | ((with_reducible exfalso); first | exact tf (by assumption) hg | exact tf hg (by assumption)) | ((try with_reducible (have hT0 : True := hg; clear hT0 hg)); first | (with_reducible refine wpc_go ?_) | (try simp only [EVB, seval])))) | ((with_reducible refine hKS _ _ _ _ ?_); clear hKS; clear KS; simp only [EVB, seval]) | ((with_reducible refine And.intro ?_ ?_); focus (first | omega | exact u8_le _ | exact flat_intK _ | exact flat_bytK _ | (fail) | decide | (simp only [List.length_map, hL, FsOpD.k, lit_n, h2]; done))) | ((with_reducible refine ex_p ?_ (fun hh => ?_)); focus (first | omega | (simp only [List.length_map, hL, FsOpD.k, lit_n, h2]; omega))) | ((with_reducible refine hK _ _ _ ?_); clear hK hE hT; clear K) | ((with_reducible first | refine hE _ _ _ _ ?_ | refine hT _ _ _ ?_ | fail); (first | (clear hK hE hT; clear K) | (clear hR hE hT; clear K) | skip); try simp only [IFB, seval]) | ((with_reducible apply_assumption -symm -exfalso); try simp only [IFB, seval]) | fail))
                refine region_w (wk_cut (g := 11) L rfl) ?_
                simp only [EVB, seval]
                (have gx := And.intro (@List.length_map.{0,0}) (And.intro (@FsOpD.k.eq_1) (And.intro @lT @h2)); have q1 := cb; refine go ?_; (repeat' first | exact Ef.mk | apply Lf.mk | refine fun (K : KT) hK hE hT => ?_ | refine fun (KS : KE) hKS => ?_ | refine fun (D : KD) hD => ?_ | refine fun (hg : (_ : Prop)) => ?_ | fail); all_goals (first | (refine Wr.mk ?_; (try clear gx q1); repeat first | clear hK hE hT K | clear hR hE hT K) | assumption | skip))
                all_goals (refine post_a hres (.inl rfl) ?_; simp only [RSB, ENB, seval, tiAll, e2, FsOpD.k, l2, mT, lD, h2]; simp only [MAB, seval]; refine ⟨rfl, rfl, ?_, ?_, ?_⟩ <;> (first | rfl | (simp [WKB, Nat.add_comm, e2, FsOpD.k, l2, mT, lD, h2]; done) | (simp only [WKB, seval])))

end Go.Proofs.Ytfnhchcgieeedaa

namespace Go.Proofs.Ytfnhchcgieeedaa
set_option linter.unusedSimpArgs false
set_option linter.unusedVariables false
set_option linter.defProp false
set_option maxRecDepth 20000
open Go.RowKit

set_option maxHeartbeats 16000000 in
theorem specDiskDo_k (d : DiskD) (o : FsOpD) (hz : szD d) (hn : o.Name.length ≤ 1048576) (ht : o.To.length ≤ 1048576) (hD : o.Data.length ≤ 1048576) : FnOK Try.prog 34 ⟨3, [(0, some (.ro ((d.Files).map (FileD.k 5)))), (1, some (.ro ((d.Wait).map (FsOpD.k 5)))), (2, some (.ro ((o.Data).map bytK)))], [.agg [.v (.int .i64 d.Room), .v (.int .i64 d.Fuse), .sl 0 2 0 (d.Files).length, .sl 1 4 0 (d.Wait).length], .agg [.v (.int .i64 o.Kind), .v (.string (txt o.Name)), .v (.string (txt o.To)), .sl 2 1 0 (o.Data).length]], .tup [.inr [.v (.int .i64 (doR d o).1.Room), .v (.int .i64 (doR d o).1.Fuse), .sl 3 2 0 ((doR d o).1.Files).length, .sl 4 4 0 ((doR d o).1.Wait).length], .inl (.v (.int .i64 (doR d o).2))], [(3, some (.nst 95 (((doR d o).1.Files).map (FileD.k 5)) none)), (4, some (.nst 66 (((doR d o).1.Wait).map (FsOpD.k 5)) none))], 5⟩ := by
  have cd := specDiskOk_k d hz
  have cf := specFsOpOk_k o hn ht hD
  have cc := l02Copy_k d (szD_L hz)
  have cs := specSeen_k d hz
  by_cases hp : diskP d
  case neg =>
    rw [diskO_n hp] at cd
    rw [doR_n fun h => hp h.1]
    refine fnOK_of true mixed Try.func34 rfl (by rfl) (by rfl) ?_
    have hres := congrArg Array.toList Try.results34
    simp only [Try.ntmps34, BGB, seval]
    (have gx := @List.length_map.{0,0}; have q1 := cd; refine go ?_; (repeat' first | exact Ef.mk | apply Lf.mk | refine fun (K : KT) hK hE hT => ?_ | refine fun (KS : KE) hKS => ?_ | refine fun (D : KD) hD => ?_ | refine fun (hg : (_ : Prop)) => ?_ | fail); all_goals (first | (refine Wr.mk ?_; (try clear gx q1); repeat first | clear hK hE hT K | clear hR hE hT K) | assumption | skip))
    (refine post_a hres (.inl rfl) ?_; simp only [RSB, ENB, seval, tiAll, dk0, List.map_nil]; simp only [MAB, seval]; refine ⟨rfl, rfl, ?_, ?_, ?_⟩ <;> (first | rfl | (simp [WKB, Nat.add_comm, dk0, List.map_nil]; done) | (simp only [WKB, seval])))
  case pos =>
    rw [diskO_y hp] at cd
    cases ho : opO o with
    | false =>
      rw [ho] at cf
      rw [doR_n fun h => by rw [h.2] at ho; cases ho]
      refine fnOK_of true mixed Try.func34 rfl (by rfl) (by rfl) ?_
      have hres := congrArg Array.toList Try.results34
      simp only [Try.ntmps34, BGB, seval]
      (have gx := @List.length_map.{0,0}; have q1 := cd; have q2 := cf; refine go ?_; (repeat' first | exact Ef.mk | apply Lf.mk | refine fun (K : KT) hK hE hT => ?_ | refine fun (KS : KE) hKS => ?_ | refine fun (D : KD) hD => ?_ | refine fun (hg : (_ : Prop)) => ?_ | fail); all_goals (first | (refine Wr.mk ?_; (try clear gx q1 q2); repeat first | clear hK hE hT K | clear hR hE hT K) | assumption | skip))
      (refine post_a hres (.inl rfl) ?_; simp only [RSB, ENB, seval, tiAll, dk0, List.map_nil]; simp only [MAB, seval]; refine ⟨rfl, rfl, ?_, ?_, ?_⟩ <;> (first | rfl | (simp [WKB, Nat.add_comm, dk0, List.map_nil]; done) | (simp only [WKB, seval])))
    | true =>
      rw [ho] at cf
      have hpo : diskP d ∧ opO o = true := ⟨hp, ho⟩
      obtain ⟨p1, p2, p3, p4⟩ := id hp
      obtain ⟨q1, q2, q3, q4⟩ := stF_ok hp (Nat.le_refl _)
      have hb := okF_by p4 (Nat.le_refl _)
      unfold hdD at p1
      rw [seenR_y hp] at cs
      obtain ⟨M, hM⟩ : ∃ M, M = seenF d := ⟨_, rfl⟩
      have q1 : srtF M := by rw [hM]; exact q1
      have q2 : M.length ≤ 72 := by rw [hM]; exact q2
      have q3 : byF M ≤ 200000 := by rw [hM]; exact q3
      have hb : (byF M : Int) ≤ d.Room := by rw [hM]; exact hb
      rw [← hM] at cs
      have hDl := opO_data ho
      have kf := l02Fits_k M o (by omega)
      have kz := l02Bytes_k M (by omega) (by omega)
      by_cases h0 : d.Fuse = 0
      case pos =>
        rw [doR_2 hpo h0]
        refine fnOK_of true mixed Try.func34 rfl (by rfl) (by rfl) ?_
        have hres := congrArg Array.toList Try.results34
        simp only [Try.ntmps34, BGB, seval]
        (have gx := And.intro @List.length_map.{0,0} @h0; have q1 := cd; have q2 := cf; have q3 := cc; have q4 := cs; refine go ?_; (repeat' first | exact Ef.mk | apply Lf.mk | refine fun (K : KT) hK hE hT => ?_ | refine fun (KS : KE) hKS => ?_ | refine fun (D : KD) hD => ?_ | refine fun (hg : (_ : Prop)) => ?_ | fail); all_goals (first | (refine Wr.mk ?_; (try clear gx q1 q2 q3 q4); repeat first | clear hK hE hT K | clear hR hE hT K) | assumption | skip))
        (refine post_a hres (.inl rfl) ?_; simp only [RSB, ENB, seval, tiAll, h0]; simp only [MAB, seval]; refine ⟨rfl, rfl, ?_, ?_, ?_⟩ <;> (first | rfl | (simp [WKB, Nat.add_comm, h0]; done) | (simp only [WKB, seval])))
      case neg =>
        cases hf : fitsF M o with
        | false =>
          rw [doR_3 hpo h0 (by rw [← hM]; exact hf)]
          rw [hf] at kf
          refine fnOK_of true mixed Try.func34 rfl (by rfl) (by rfl) ?_
          have hres := congrArg Array.toList Try.results34
          simp only [Try.ntmps34, BGB, seval]
          (have gx := @List.length_map.{0,0}; have q1 := cd; have q2 := cf; have q3 := cc; have q4 := cs; have q5 := kf; refine go ?_; (repeat' first | exact Ef.mk | apply Lf.mk | refine fun (K : KT) hK hE hT => ?_ | refine fun (KS : KE) hKS => ?_ | refine fun (D : KD) hD => ?_ | refine fun (hg : (_ : Prop)) => ?_ | fail); all_goals (first | (refine Wr.mk ?_; (try clear gx q1 q2 q3 q4 q5); repeat first | clear hK hE hT K | clear hR hE hT K) | assumption | skip))
          (refine post_a hres (.inl rfl) ?_; simp only [RSB, ENB, seval, tiAll, true_and]; simp only [MAB, seval]; refine ⟨rfl, rfl, ?_, ?_, ?_⟩ <;> (first | rfl | (simp [WKB, Nat.add_comm, true_and]; done) | (simp only [WKB, seval])))
        | true =>
          rw [hf] at kf
          by_cases hw : 60 ≤ d.Wait.length
          case pos =>
            rw [doR_4 hpo h0 (by rw [← hM]; exact hf) hw]
            refine fnOK_of true mixed Try.func34 rfl (by rfl) (by rfl) ?_
            have hres := congrArg Array.toList Try.results34
            simp only [Try.ntmps34, BGB, seval]
            (have gx := @List.length_map.{0,0}; have q1 := cd; have q2 := cf; have q3 := cc; have q4 := cs; have q5 := kf; refine go ?_; (repeat' first | exact Ef.mk | apply Lf.mk | refine fun (K : KT) hK hE hT => ?_ | refine fun (KS : KE) hKS => ?_ | refine fun (D : KD) hD => ?_ | refine fun (hg : (_ : Prop)) => ?_ | fail); all_goals (first | (refine Wr.mk ?_; (try clear gx q1 q2 q3 q4 q5); repeat first | clear hK hE hT K | clear hR hE hT K) | assumption | skip))
            (refine post_a hres (.inl rfl) ?_; simp only [RSB, ENB, seval, tiAll, true_and]; simp only [MAB, seval]; refine ⟨rfl, rfl, ?_, ?_, ?_⟩ <;> (first | rfl | (simp [WKB, Nat.add_comm, true_and]; done) | (simp only [WKB, seval])))
          case neg =>
            rw [doR_y hpo h0 (by rw [← hM]; exact hf) hw]
            dsimp only
            obtain ⟨L, hL⟩ : ∃ L : Nat, d.Room - (byF M : Int) = (L : Int) := ⟨(d.Room - (byF M : Int)).toNat, by omega⟩
            obtain ⟨F, hF⟩ : ∃ F, F = brn d.Fuse := ⟨_, rfl⟩
            have hF1 : 0 < d.Fuse → d.Fuse - 1 = F := fun h => by rw [hF]; unfold brn; rw [if_pos h]
            have hF2 : ¬ 0 < d.Fuse → d.Fuse = F := fun h => by rw [hF]; unfold brn; rw [if_neg h]
            rw [← hF]
            have tO : List.take o.Data.length (List.map bytK o.Data) = List.map bytK o.Data := List.take_of_length_le (by rw [List.length_map]; exact Nat.le_refl _)
            have ec : tkC d o = if o.Kind = 2 ∧ (L : Int) < (o.Data.length : Int) then 5 else 0 := by unfold tkC; rw [← hM, hL]
            have eo : tkO d o = if o.Kind = 2 ∧ (L : Int) < (o.Data.length : Int) then { o with Data := o.Data.take L } else o := by unfold tkO; rw [← hM, hL]; rfl
            have ew : tkW d o = if o.Kind = 2 ∧ (tkO d o).Data.length = 0 then d.Wait else d.Wait ++ [tkO d o] := rfl
            have e1 : (d.Wait ++ [o]).map (FsOpD.k 5) = d.Wait.map (FsOpD.k 5) ++ [FsOpD.k 5 o] := by rw [List.map_append]; rfl
            have l1 : (d.Wait ++ [o]).length = d.Wait.length + 1 := by simp
            by_cases hc : o.Kind = 2 ∧ (L : Int) < (o.Data.length : Int)
            case neg =>
              rw [if_neg hc] at ec eo
              have hne : ¬ (o.Kind = 2 ∧ o.Data.length = 0) := fun h => by
                rw [opO_a h.1] at ho
                simp only [Bool.and_eq_true, decide_eq_true_eq] at ho
                omega
              rw [eo, if_neg hne] at ew
              rw [ec, ew]
              rcases Int.lt_or_le 0 d.Fuse with hu | hu
              · have hF1 := hF1 hu
                refine fnOK_of true mixed Try.func34 rfl (by rfl) (by rfl) ?_
                have hres := congrArg Array.toList Try.results34
                simp only [Try.ntmps34, BGB, seval]
                (have gx := And.intro (@List.length_map.{0,0}) (And.intro (@hL) (And.intro (@hF1) (And.intro (@FsOpD.k.eq_1) (And.intro @tO @List.nil_append.{0})))); have q1 := cd; have q2 := cf; have q3 := cc; have q4 := cs; have q5 := kf; have q6 := kz; refine go ?_; (repeat' first | exact Ef.mk | apply Lf.mk | refine fun (K : KT) hK hE hT => ?_ | refine fun (KS : KE) hKS => ?_ | refine fun (D : KD) hD => ?_ | refine fun (hg : (_ : Prop)) => ?_ | fail); all_goals (first | (refine Wr.mk ?_; (try clear gx q1 q2 q3 q4 q5 q6); repeat first | clear hK hE hT K | clear hR hE hT K) | assumption | skip))
                all_goals (refine post_a hres (.inl rfl) ?_; simp only [RSB, ENB, seval, tiAll, e1, FsOpD.k, l1, tO]; simp only [MAB, seval]; refine ⟨rfl, rfl, ?_, ?_, ?_⟩ <;> (first | rfl | (simp [WKB, Nat.add_comm, e1, FsOpD.k, l1, tO]; done) | (simp only [WKB, seval])))
              · have hF2 := hF2 (by omega)
                refine fnOK_of true mixed Try.func34 rfl (by rfl) (by rfl) ?_
                have hres := congrArg Array.toList Try.results34
                simp only [Try.ntmps34, BGB, seval]
                (have gx := And.intro (@List.length_map.{0,0}) (And.intro (@hL) (And.intro (@FsOpD.k.eq_1) (And.intro @tO @List.nil_append.{0}))); have q1 := cd; have q2 := cf; have q3 := cc; have q4 := cs; have q5 := kf; have q6 := kz; refine go ?_; (repeat' first | exact Ef.mk | apply Lf.mk | refine fun (K : KT) hK hE hT => ?_ | refine fun (KS : KE) hKS => ?_ | refine fun (D : KD) hD => ?_ | refine fun (hg : (_ : Prop)) => ?_ | fail); all_goals (first | (refine Wr.mk ?_; (try clear gx q1 q2 q3 q4 q5 q6); repeat first | clear hK hE hT K | clear hR hE hT K) | assumption | skip))
                all_goals (refine post_a hres (.inl rfl) ?_; simp only [RSB, ENB, seval, tiAll, e1, FsOpD.k, l1, tO, hF2]; simp only [MAB, seval]; refine ⟨rfl, rfl, ?_, ?_, ?_⟩ <;> (first | rfl | (simp [WKB, Nat.add_comm, e1, FsOpD.k, l1, tO, hF2]; done) | (simp only [WKB, seval])))
            case pos =>
              rw [if_pos hc] at ec eo
              have hlt : L < o.Data.length := by omega
              obtain ⟨h2, _⟩ := id hc
              have lD : (o.Data.take L).length = L := by rw [List.length_take]; omega
              rw [eo] at ew
              dsimp only at ew
              rw [lD] at ew
              rw [ec]
              have mT : (o.Data.take L).map bytK = (o.Data.map bytK).take L := by rw [List.map_take]
              have lT : ((o.Data.map bytK).take L).length = L := by rw [← mT, List.length_map, lD]
              have l2 : ∀ x : FsOpD, (d.Wait ++ [x]).length = d.Wait.length + 1 := fun x => by simp
              have e2 : ∀ x : FsOpD, (d.Wait ++ [x]).map (FsOpD.k 5) = d.Wait.map (FsOpD.k 5) ++ [FsOpD.k 5 x] := fun x => by rw [List.map_append]; rfl
              by_cases hL0 : L = 0
              case pos =>
                rw [if_pos ⟨h2, hL0⟩] at ew
                rw [ew]
                rcases Int.lt_or_le 0 d.Fuse with hu | hu
                · have hF1 := hF1 hu
                  refine fnOK_of true mixed Try.func34 rfl (by rfl) (by rfl) ?_
                  have hres := congrArg Array.toList Try.results34
                  simp only [Try.ntmps34, BGB, seval]
                  (have gx := And.intro (@List.length_map.{0,0}) (And.intro (@hL) (And.intro (@hF1) (And.intro (@FsOpD.k.eq_1) (And.intro (@tO) (And.intro (@List.nil_append.{0}) (And.intro @lit_n @h2)))))); have q1 := cd; have q2 := cf; have q3 := cc; have q4 := cs; have q5 := kf; have q6 := kz; refine go ?_; (repeat' first | exact Ef.mk | apply Lf.mk | refine fun (K : KT) hK hE hT => ?_ | refine fun (KS : KE) hKS => ?_ | refine fun (D : KD) hD => ?_ | refine fun (hg : (_ : Prop)) => ?_ | fail); all_goals (first | (refine Wr.mk ?_; (try clear gx q1 q2 q3 q4 q5 q6); repeat first | clear hK hE hT K | clear hR hE hT K) | assumption | skip))
                  all_goals (refine post_a hres (.inl rfl) ?_; simp only [RSB, ENB, seval, tiAll, true_and]; simp only [MAB, seval]; refine ⟨rfl, rfl, ?_, ?_, ?_⟩ <;> (first | rfl | (simp [WKB, Nat.add_comm, true_and]; done) | (simp only [WKB, seval])))
                · have hF2 := hF2 (by omega)
                  refine fnOK_of true mixed Try.func34 rfl (by rfl) (by rfl) ?_
                  have hres := congrArg Array.toList Try.results34
                  simp only [Try.ntmps34, BGB, seval]
                  (have gx := And.intro (@List.length_map.{0,0}) (And.intro (@hL) (And.intro (@FsOpD.k.eq_1) (And.intro (@tO) (And.intro (@List.nil_append.{0}) (And.intro @lit_n @h2))))); have q1 := cd; have q2 := cf; have q3 := cc; have q4 := cs; have q5 := kf; have q6 := kz; refine go ?_; (repeat' first | exact Ef.mk | apply Lf.mk | refine fun (K : KT) hK hE hT => ?_ | refine fun (KS : KE) hKS => ?_ | refine fun (D : KD) hD => ?_ | refine fun (hg : (_ : Prop)) => ?_ | fail); all_goals (first | (refine Wr.mk ?_; (try clear gx q1 q2 q3 q4 q5 q6); repeat first | clear hK hE hT K | clear hR hE hT K) | assumption | skip))
                  all_goals (refine post_a hres (.inl rfl) ?_; simp only [RSB, ENB, seval, tiAll, hF2]; simp only [MAB, seval]; refine ⟨rfl, rfl, ?_, ?_, ?_⟩ <;> (first | rfl | (simp [WKB, Nat.add_comm, hF2]; done) | (simp only [WKB, seval])))
              case neg =>
                rw [if_neg fun h => hL0 h.2] at ew
                rw [ew]
                rcases Int.lt_or_le 0 d.Fuse with hu | hu
                · have hF1 := hF1 hu
                  refine fnOK_of true mixed Try.func34 rfl (by rfl) (by rfl) ?_
                  have hres := congrArg Array.toList Try.results34
                  simp only [Try.ntmps34, BGB, seval]
                  repeat' ((fail_if_success with_reducible refine hand_k (id := 20) ?_); (first | (with_reducible first | refine seq_k fun K hK hE hT => ?_ | refine block_k fun K hK hE hT => ?_ | refine lex_nil ?_ | fail) | ((with_reducible refine region_k ?_); simp only [dstsOf, EVB, seval]) | ((with_reducible refine draw_k ?_ fun D hD => ?_); (focus (first | rfl | kernel_rfl)); simp only [dstsOf, EVB, seval]) | ((with_reducible first | refine lex_move ?_ | refine lex_assign ?_); simp only [EVB, seval]) | (with_reducible first | refine lex_cons fun KS hKS => ?_ | refine lexd_cons fun KS hKS => ?_ | refine skip_k ?_ | refine exit_k ?_ | refine ret_k ?_ | fail) | ((with_reducible refine call_go ?_); (first | ((first | refine call_a (cd) rfl rfl ?_ | refine call_a (cf) rfl rfl ?_ | refine call_a (cc) rfl rfl ?_ | refine call_a (cs) rfl rfl ?_ | refine call_a (kf) rfl rfl ?_ | refine call_a (kz) rfl rfl ?_ | fail); simp only [ENB, seval, tiAll, List.length_map, hL, hF1, FsOpD.k, tO, List.nil_append, lit_n, h2]; simp only [MAB, seval]; refine ⟨rfl, ?_, ?_, ?_, rfl, ?_, ?_, ?_, ?_⟩; (iterate 6 (focus (first | rfl | (simp [CXB, map_take, List.length_map, hL, hF1, FsOpD.k, tO, List.nil_append, lit_n, h2]; done) | (simp [CXB, List.length_map, hL, hF1, FsOpD.k, tO, List.nil_append, lit_n, h2]; omega) | (dsimp only; omega)))); simp only [EFB, seval]) | fail)) | ((with_reducible refine step_go ?_); (fail_if_success with_reducible refine call_go ?_); simp only [ENB, seval, tiAll, List.length_map, hL, hF1, FsOpD.k, tO, List.nil_append, lit_n, h2]) | ((with_reducible refine lexd_nil ?_ ?_); (focus (refine hD _ ?_; first | kernel_rfl | with_unfolding_all rfl)); clear hD; clear D) | ((with_reducible refine guard_go ?_); refine lex_gone rfl rfl ?_; simp only [EVB, seval]) | ((with_reducible refine guardd_go ?_); refine lexd_gone rfl rfl ?_; simp only [EVB, seval]) | ((first | ((with_reducible refine guard_go ?_); refine lex_guard rfl rfl (fun hg KS hKS => ?_) (fun hg => ?_)) | ((with_reducible refine guardd_go ?_); refine lexd_guard rfl rfl (fun hg KS hKS => ?_) (fun hg => ?_)) | ((with_reducible refine cond_go ?_); refine cond_k rfl (fun hg => ?_) (fun hg => ?_)) | (with_reducible refine And.intro (fun hg => ?_) (fun hg => ?_)) | fail) <;> first | ((with_reducible exfalso); exact absurd hg (by decide)) | ((try simp only [CNL] at hg) <;> first | ((with_reducible exfalso); omega) | ((with_reducible exfalso); first | exact tf (by assumption) hg | exact tf hg (by assumption)) | ((try with_reducible (have hT0 : True := hg; clear hT0 hg)); first | (with_reducible refine wpc_go ?_) | (try simp only [EVB, seval])))) | ((with_reducible refine hKS _ _ _ _ ?_); clear hKS; clear KS; simp only [EVB, seval]) | ((with_reducible refine And.intro ?_ ?_); focus (first | omega | exact u8_le _ | exact flat_intK _ | exact flat_bytK _ | (fail) | decide | (simp only [List.length_map, hL, hF1, FsOpD.k, tO, List.nil_append, lit_n, h2]; done))) | ((with_reducible refine ex_p ?_ (fun hh => ?_)); focus (first | omega | (simp only [List.length_map, hL, hF1, FsOpD.k, tO, List.nil_append, lit_n, h2]; omega))) | ((with_reducible refine hK _ _ _ ?_); clear hK hE hT; clear K) | ((with_reducible first | refine hE _ _ _ _ ?_ | refine hT _ _ _ ?_ | fail); (first | (clear hK hE hT; clear K) | (clear hR hE hT; clear K) | skip); try simp only [IFB, seval]) | ((with_reducible apply_assumption -symm -exfalso); try simp only [IFB, seval]) | fail))
                  refine region_w (wk_cut (g := 11) L rfl) ?_
                  simp only [EVB, seval]
                  (have gx := And.intro (@List.length_map.{0,0}) (And.intro (@FsOpD.k.eq_1) (And.intro @lT @h2)); refine go ?_; (repeat' first | exact Ef.mk | apply Lf.mk | refine fun (K : KT) hK hE hT => ?_ | refine fun (KS : KE) hKS => ?_ | refine fun (D : KD) hD => ?_ | refine fun (hg : (_ : Prop)) => ?_ | fail); all_goals (first | (refine Wr.mk ?_; (try clear gx); repeat first | clear hK hE hT K | clear hR hE hT K) | assumption | skip))
                  all_goals (refine post_a hres (.inl rfl) ?_; simp only [RSB, ENB, seval, tiAll, e2, FsOpD.k, l2, mT, lD, h2]; simp only [MAB, seval]; refine ⟨rfl, rfl, ?_, ?_, ?_⟩ <;> (first | rfl | (simp [WKB, Nat.add_comm, e2, FsOpD.k, l2, mT, lD, h2]; done) | (simp only [WKB, seval])))
                · have hF2 := hF2 (by omega)
                  refine fnOK_of true mixed Try.func34 rfl (by rfl) (by rfl) ?_
                  have hres := congrArg Array.toList Try.results34
                  simp only [Try.ntmps34, BGB, seval]
                  repeat' ((fail_if_success with_reducible refine hand_k (id := 20) ?_); (first | (with_reducible first | refine seq_k fun K hK hE hT => ?_ | refine block_k fun K hK hE hT => ?_ | refine lex_nil ?_ | fail) | ((with_reducible refine region_k ?_); simp only [dstsOf, EVB, seval]) | ((with_reducible refine draw_k ?_ fun D hD => ?_); (focus (first | rfl | kernel_rfl)); simp only [dstsOf, EVB, seval]) | ((with_reducible first | refine lex_move ?_ | refine lex_assign ?_); simp only [EVB, seval]) | (with_reducible first | refine lex_cons fun KS hKS => ?_ | refine lexd_cons fun KS hKS => ?_ | refine skip_k ?_ | refine exit_k ?_ | refine ret_k ?_ | fail) | ((with_reducible refine call_go ?_); (first | ((first | refine call_a (cd) rfl rfl ?_ | refine call_a (cf) rfl rfl ?_ | refine call_a (cc) rfl rfl ?_ | refine call_a (cs) rfl rfl ?_ | refine call_a (kf) rfl rfl ?_ | refine call_a (kz) rfl rfl ?_ | fail); simp only [ENB, seval, tiAll, List.length_map, hL, FsOpD.k, tO, List.nil_append, lit_n, h2]; simp only [MAB, seval]; refine ⟨rfl, ?_, ?_, ?_, rfl, ?_, ?_, ?_, ?_⟩; (iterate 6 (focus (first | rfl | (simp [CXB, map_take, List.length_map, hL, FsOpD.k, tO, List.nil_append, lit_n, h2]; done) | (simp [CXB, List.length_map, hL, FsOpD.k, tO, List.nil_append, lit_n, h2]; omega) | (dsimp only; omega)))); simp only [EFB, seval]) | fail)) | ((with_reducible refine step_go ?_); (fail_if_success with_reducible refine call_go ?_); simp only [ENB, seval, tiAll, List.length_map, hL, FsOpD.k, tO, List.nil_append, lit_n, h2]) | ((with_reducible refine lexd_nil ?_ ?_); (focus (refine hD _ ?_; first | kernel_rfl | with_unfolding_all rfl)); clear hD; clear D) | ((with_reducible refine guard_go ?_); refine lex_gone rfl rfl ?_; simp only [EVB, seval]) | ((with_reducible refine guardd_go ?_); refine lexd_gone rfl rfl ?_; simp only [EVB, seval]) | ((first | ((with_reducible refine guard_go ?_); refine lex_guard rfl rfl (fun hg KS hKS => ?_) (fun hg => ?_)) | ((with_reducible refine guardd_go ?_); refine lexd_guard rfl rfl (fun hg KS hKS => ?_) (fun hg => ?_)) | ((with_reducible refine cond_go ?_); refine cond_k rfl (fun hg => ?_) (fun hg => ?_)) | (with_reducible refine And.intro (fun hg => ?_) (fun hg => ?_)) | fail) <;> first | ((with_reducible exfalso); exact absurd hg (by decide)) | ((try simp only [CNL] at hg) <;> first | ((with_reducible exfalso); omega) | ((with_reducible exfalso); first | exact tf (by assumption) hg | exact tf hg (by assumption)) | ((try with_reducible (have hT0 : True := hg; clear hT0 hg)); first | (with_reducible refine wpc_go ?_) | (try simp only [EVB, seval])))) | ((with_reducible refine hKS _ _ _ _ ?_); clear hKS; clear KS; simp only [EVB, seval]) | ((with_reducible refine And.intro ?_ ?_); focus (first | omega | exact u8_le _ | exact flat_intK _ | exact flat_bytK _ | (fail) | decide | (simp only [List.length_map, hL, FsOpD.k, tO, List.nil_append, lit_n, h2]; done))) | ((with_reducible refine ex_p ?_ (fun hh => ?_)); focus (first | omega | (simp only [List.length_map, hL, FsOpD.k, tO, List.nil_append, lit_n, h2]; omega))) | ((with_reducible refine hK _ _ _ ?_); clear hK hE hT; clear K) | ((with_reducible first | refine hE _ _ _ _ ?_ | refine hT _ _ _ ?_ | fail); (first | (clear hK hE hT; clear K) | (clear hR hE hT; clear K) | skip); try simp only [IFB, seval]) | ((with_reducible apply_assumption -symm -exfalso); try simp only [IFB, seval]) | fail))
                  refine region_w (wk_cut (g := 11) L rfl) ?_
                  simp only [EVB, seval]
                  (have gx := And.intro (@List.length_map.{0,0}) (And.intro (@FsOpD.k.eq_1) (And.intro @lT @h2)); refine go ?_; (repeat' first | exact Ef.mk | apply Lf.mk | refine fun (K : KT) hK hE hT => ?_ | refine fun (KS : KE) hKS => ?_ | refine fun (D : KD) hD => ?_ | refine fun (hg : (_ : Prop)) => ?_ | fail); all_goals (first | (refine Wr.mk ?_; (try clear gx); repeat first | clear hK hE hT K | clear hR hE hT K) | assumption | skip))
                  all_goals (refine post_a hres (.inl rfl) ?_; simp only [RSB, ENB, seval, tiAll, e2, FsOpD.k, l2, mT, lD, h2, hF2]; simp only [MAB, seval]; refine ⟨rfl, rfl, ?_, ?_, ?_⟩ <;> (first | rfl | (simp [WKB, Nat.add_comm, e2, FsOpD.k, l2, mT, lD, h2, hF2]; done) | (simp only [WKB, seval])))

end Go.Proofs.Ytfnhchcgieeedaa
