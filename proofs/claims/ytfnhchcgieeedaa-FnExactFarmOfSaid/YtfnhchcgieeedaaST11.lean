/-
  The records that the library sorts: the closure, the sort's last operations, one sorted list. No conditions of its own.
-/
import Derived.Test.YtfnhchcgieeedaaGO
import Derived.Test.YtfnhchcgieeedaaST9
import Derived.Test.YtfnhchcgieeedaaST10
import Derived.Test.YtfnhchcgieeedaaMCT
import Derived.Test.YtfnhchcgieeedaaSy
namespace Go.Proofs.Ytfnhchcgieeedaa
set_option linter.unusedSimpArgs false
set_option linter.unusedVariables false
set_option linter.unusedSimpArgs false
set_option linter.unusedVariables false
set_option linter.defProp false
set_option maxRecDepth 20000
open Go.Shelf Go.RowKit Go.Lib

noncomputable def recTi : TypeInfo := (Try.prog.info? 122).get (by kernel_rfl)
noncomputable def recEi : TypeInfo := (Try.prog.info? 124).get (by kernel_rfl)

theorem recK (n : Nat) (h2 : 2 ≤ n) : swapperK n recEi 25 = 9 := by
  have a : recEi.hasPointers = false := by kernel_rfl
  have b : recEi.bytes = 24 := by kernel_rfl
  have c : (n == 0) = false := by simp; omega
  have d : (n == 1) = false := by simp; omega
  simp [swapperK, a, b, c, d]

theorem recK1 (n : Nat) (h : n ≤ 1) : swapperK n recEi 25 = n + 1 := by
  rcases n with _ | _ | n
  · simp [swapperK]
  · simp [swapperK]
  · omega

theorem srtRec : Srt Try.prog 122 124 3 where
  ti := ⟨recTi, by kernel_rfl, by kernel_rfl⟩
  un := ⟨_, Try.underlying122, fun m h => by cases h⟩
  pk := by kernel_rfl
  el := ⟨recEi, 25, 148, false, by kernel_rfl, fun _ => by kernel_rfl, by kernel_rfl, fun n h2 => by rw [recK n h2]; kernel_rfl,
    fun args W => run_callFunc_extern Try.func148 (by kernel_rfl) (by kernel_rfl) (by kernel_rfl) (e := Extern.ReflectliteSwapper.swap false) (by kernel_rfl) args W,
    fun n h1 => by
      rcases (show n = 0 ∨ n = 1 by omega) with rfl | rfl
      · exact ⟨140, by rw [recK1 0 (by omega)]; kernel_rfl⟩
      · exact ⟨141, by rw [recK1 1 (by omega)]; kernel_rfl⟩⟩
  agg := fun _ => by kernel_rfl

def recP (e : List DC) : Prop := ∃ x : RecD, e = x.k
def RecD.un (e : List DC) : RecD := match e with
  | [.v (.int _ a), .v (.int _ b), .v (.int _ c)] => ⟨a, b, c⟩
  | _ => ⟨0, 0, 0⟩
theorem RecD.un_k (x : RecD) : RecD.un x.k = x := rfl
theorem recP_k (x : RecD) : recP x.k := ⟨x, rfl⟩
def recLt (x y : El 3 recP) : Bool := ltB (RecD.un x.1) (RecD.un y.1)

instance : Inhabited (El 3 recP) := ⟨⟨RecD.k ⟨0, 0, 0⟩, ⟨rfl, fun c hc => flat_Rec [⟨0, 0, 0⟩] _ (List.mem_singleton.2 rfl) c hc⟩, recP_k _⟩⟩

theorem recSwo : Sort.SWO recLt where
  irrefl x := ltB_f (ltR_irr _)
  trans x y z h1 h2 := by
    unfold recLt ltB at *
    rw [decide_eq_true_eq] at *
    exact ltR_trans h1 h2
  ntrans x y z h1 h2 := by
    unfold recLt ltB at *
    rw [decide_eq_false_iff_not] at *
    exact leR_trans (x := RecD.un z.1) (y := RecD.un y.1) (z := RecD.un x.1) h2 h1

/-- The records of a row. -/
def recsOf (d : Array (El 3 recP)) : List RecD := (rowOf d).map RecD.un
theorem recsOf_len (d : Array (El 3 recP)) : (recsOf d).length = d.size := by simp [recsOf, rowOf]
theorem recsOf_get (d : Array (El 3 recP)) (t : Nat) (h : t < d.size) (h2 : t < (recsOf d).length) : (recsOf d)[t] = RecD.un d[t]!.1 := by
  simp [recsOf, rowOf, h]
theorem recsOf_row (d : Array (El 3 recP)) : rowOf d = (recsOf d).map RecD.k := by
  unfold recsOf
  rw [List.map_map]
  refine (List.map_id' _).symm.trans (List.map_congr_left fun e he => ?_)
  obtain ⟨x, _, rfl⟩ := List.mem_map.1 he
  obtain ⟨y, hy⟩ := x.2.2
  rw [hy]; rfl

/-- What the sort leaves is the sorted list. -/
theorem sorted_recs {d : Array (El 3 recP)} {L : List RecD} (h : (rowOf d).Perm (L.map RecD.k)) (hs : Go.Sort.SortedIn recLt 0 L.length d) (hn : d.size = L.length) : rowOf d = (srtR L).map RecD.k := by
  have h1 : (recsOf d).Perm L := by
    have := h.map RecD.un
    rw [List.map_map] at this
    simpa [Function.comp_def, RecD.un_k, recsOf] using this
  rw [recsOf_row, recs_one (h1.trans (srtR_perm L).symm) ?_ (srtR_sorted L)]
  rw [List.pairwise_iff_getElem]
  intro i j hi hj hij
  have hl := recsOf_len d
  have q := hs i j (Nat.zero_le _) hij (by omega)
  rw [recsOf_get d i (by omega) hi, recsOf_get d j (by omega) hj]
  unfold recLt ltB at q
  rw [decide_eq_false_iff_not] at q
  exact q

set_option maxHeartbeats 2000000 in
theorem implLess_k (x y : RecD) : FnOK Try.prog 137 ⟨0, [], [.agg x.s, .agg y.s], .c (.v (.bool (ltB x y))), [], 0⟩ := by
  obtain ⟨a, b, c⟩ := x
  obtain ⟨a', b', c'⟩ := y
  simp only [RecD.s]
  refine fnOK_of true mixed Try.func137 rfl (by rfl) (by rfl) ?_
  have hres := congrArg Array.toList Try.results137
  simp only [Try.ntmps137, BGB, seval]
  (have gx := true_and True; refine go ?_; (repeat' first | exact Ef.mk | apply Lf.mk | refine fun (K : KT) hK hE hT => ?_ | refine fun (KS : KE) hKS => ?_ | refine fun (D : KD) hD => ?_ | refine fun (hg : (_ : Prop)) => ?_ | fail); all_goals (first | (refine Wr.mk ?_; (try clear gx); repeat first | clear hK hE hT K | clear hR hE hT K) | assumption | skip))
  all_goals (refine post_a hres (.inl rfl) ?_; simp only [RSB, ENB, seval, tiAll, true_and]; simp only [MAB, seval]; refine ⟨rfl, rfl, ?_, ?_, ?_⟩ <;> (first | rfl | (simp [WKB, Nat.add_comm, true_and]; done) | (simp only [WKB, seval])))
  all_goals (refine congrArg (fun b => SV.c (CV.v (Value.bool b))) ?_; unfold ltB; symm; first | (rw [decide_eq_decide]; unfold ltR; dsimp only; omega) | (rw [decide_eq_true_eq]; unfold ltR; dsimp only; omega) | (rw [decide_eq_false_iff_not]; unfold ltR; dsimp only; omega))

set_option maxHeartbeats 2000000 in
theorem implSort1_k (l : List RecD) (i j : Nat) (hi : i < l.length) (hj : j < l.length) (hl : l.length ≤ 1099511627) : FnOK Try.prog 159 ⟨1, [(0, some (.ro [[.sl 124 3 (l.map RecD.k)]]))], [.c (.v (.int .i64 (i : Int))), .c (.v (.int .i64 (j : Int))), .c (.ptr 0 0 0)], .c (.v (.bool (ltB l[i] l[j]))), [], 1⟩ := by
  have c := implLess_k l[i] l[j]
  simp only [RecD.s] at c
  refine fnOK_of true mixed Try.func159 rfl (by rfl) (by rfl) ?_
  have hres := congrArg Array.toList Try.results159
  simp only [Try.ntmps159, BGB, seval]
  (have gx := And.intro (@List.length_map.{0,0}) (And.intro @List.getElem_map.{0,0} @RecD.k.eq_1); have q1 := c; refine go ?_; (repeat' first | exact Ef.mk | apply Lf.mk | refine fun (K : KT) hK hE hT => ?_ | refine fun (KS : KE) hKS => ?_ | refine fun (D : KD) hD => ?_ | refine fun (hg : (_ : Prop)) => ?_ | fail); all_goals (first | (refine Wr.mk ?_; (try clear gx q1); repeat first | clear hK hE hT K | clear hR hE hT K) | assumption | skip))
  (refine post_a hres (.inl rfl) ?_; simp only [RSB, ENB, seval, tiAll, true_and]; simp only [MAB, seval]; refine ⟨rfl, rfl, ?_, ?_, ?_⟩ <;> (first | rfl | (simp [WKB, Nat.add_comm, true_and]; done) | (simp only [WKB, seval])))

theorem rec_rd {blk Bs c n : Nat} {W : World} {dk : Array (El 3 recP)} (hdk : dk.size = n) (h3 : n ≤ c) (h4 : c ≤ maxLen) (hH : Sort.HoldsK El.enc 3 W blk 0 dk) : Rd W (fun x => x = Bs ∨ x = blk) (.sl 124 3 ((recsOf dk).map RecD.k)) (.slice (some ⟨blk, 0, none⟩) n c) := by
  rw [← recsOf_row]
  have hlen : (rowOf dk).length = n := by simp [rowOf, hdk]
  subst hlen
  refine .sl (fun t u => (dk[t]!).enc[u]!) h3 h4 (fun h => by cases h) (rowOf_len dk) (fun _ => ⟨blk, 0, rfl, .inr rfl, fun t u ht hu => ?_⟩) fun t e u c' he hc => ?_
  · exact (hH.cell (by omega) hu).1
  · have ht : t < dk.size := by
      have := (List.getElem?_eq_some_iff.1 he).1
      omega
    have e0 : e = dk[t]!.1 := by
      have e1 : (rowOf dk)[t]? = some dk[t]!.1 := by simp [rowOf, ht]
      rw [e1] at he
      exact (Option.some.inj he).symm
    subst e0
    obtain ⟨x, rfl, hx⟩ := dk[t]!.2.1.2 _ (List.mem_of_getElem? hc)
    have h5 : (dk[t]!).enc[u]? = some x := by
      unfold El.enc
      rw [List.getElem?_map, hc]; rfl
    have h6 : (dk[t]!).enc[u]! = x := by
      rw [List.getElem!_eq_getElem?_getD, h5]; rfl
    rw [h6]
    exact .v hx

theorem rec_less (blk Bs c n : Nat) (W : World) (dk : Array (El 3 recP)) (hdk : dk.size = n) (hn : n ≤ 1099511627) (hb1 : blk < W.heap.size) (hb2 : Bs < W.heap.size) (h3 : n ≤ c) (h4 : c ≤ maxLen) (hs : W.cell? ⟨Bs, 0, none⟩ = some (.slice (some ⟨blk, 0, none⟩) n c)) (hH : Sort.HoldsK El.enc 3 W blk 0 dk) (i j : Nat) (hi : i < n) (hj : j < n) :
    Calls Try.prog 159 #[.int .i64 i, .int .i64 j, .pointer (some ⟨Bs, 0, none⟩)] W fun ex w' => ex = .returned (.bool (recLt dk[i]! dk[j]!)) ∧ Below W.heap.size W w' := by
  have hl := recsOf_len dk
  have hF := implSort1_k (recsOf dk) i j (by omega) (by omega) (by omega)
  have e : recLt dk[i]! dk[j]! = ltB ((recsOf dk)[i]'(by omega)) ((recsOf dk)[j]'(by omega)) := by
    unfold recLt
    rw [recsOf_get dk i (by omega), recsOf_get dk j (by omega)]
  rw [e]
  refine (hF.1.2 (fun _ => ⟨some Bs, 0, 1, 1, False, fun x => x = Bs ∨ x = blk⟩) [.int .i64 i, .int .i64 j, .pointer (some ⟨Bs, 0, none⟩)] W ⟨⟨rfl, rfl⟩, ⟨rfl, rfl⟩, ⟨Nat.zero_lt_one, Bs, rfl, rfl⟩, trivial⟩ ⟨fun q bk hb => ?_, fun q q' bk bk' hqq hb hb' => ?_⟩).mono fun ex w' he => ?_
  · simp only [hget] at hb
    split at hb
    · obtain rfl := Option.some.inj hb
      refine ⟨by show q < 1; omega, ⟨fun h => h, by show 1 ≤ maxLen; decide, Nat.le_refl 1, fun e he => ?_, fun _ => ⟨Bs, rfl, .inl rfl⟩, fun i' e' j' c' b' q1 q2 q3 => ?_⟩, fun x hx => ?_⟩
      · obtain rfl := List.mem_singleton.1 he
        rfl
      · obtain rfl : Bs = b' := Option.some.inj q3
        match i', j', q1, q2 with
        | 0, 0, q1, q2 =>
          obtain rfl := Option.some.inj q1
          obtain rfl := Option.some.inj q2
          exact ⟨_, hs, rec_rd hdk h3 h4 hH⟩
        | 0, j + 1, q1, q2 =>
          obtain rfl := Option.some.inj q1
          cases q2
        | i + 1, _, q1, _ => cases q1
      · rcases hx with rfl | rfl
        · exact hb2
        · exact hb1
    · cases hb
  · simp only [hget] at hb hb'
    split at hb
    · split at hb'
      · rename_i h h'; exact absurd (h.trans h'.symm) hqq
      · cases hb'
    · cases hb
  · obtain ⟨u, ρ', rfl, hd⟩ := he
    refine ⟨congrArg _ hd.val.1, ⟨hd.os, hd.tape, hd.output, hd.size, fun q hq => hd.block q hq fun g x hg => ?_⟩⟩
    cases hg

theorem sort1_enters : ∀ args w, (callFunc 159 args).run Try.prog w = .ok (.enter 159 args) w := enters_of Try.func159 (by kernel_rfl) rfl

theorem recPdq (n : Nat) (hn : n ≤ 1099511627) : PdqC Try.prog recLt 153 133 n := fun _ _ _ _ hC hK d hd limit hl =>
  pdq_k recSwo hC hK hn (n + 1) d hd 0 n limit (by omega) (by omega) (by omega) hl (Or.inl rfl)

/-- The sort of the records: whatever comes behind it is asked for the one sorted list. -/
theorem recs_tail {X : Ctx} {ops : Array Oper} {Q : Exit → Act → World → Prop} {K : List SV → Heap → Nat → Prop} {ds db d1 d2 gr gb Tb : Nat} {d3 : Option Tmp} {L : List RecD} {cs : List CV} {sl : List SV} {H : Heap} {nx T : Nat} {a : Act} {w : World}
    {t1 t2 t3 : TypeId} {p1 p2 p3 : String} {a1 a2 a3 : Array Edge} {at3 : Array TypeId}
    (hmax : L.length ≤ 1099511627) (hs : Sat X sl H nx a w) (h1 : sl[ds]? = some (.c (.sl gr 3 0 L.length))) (h2 : hget H gr = some (.row T (L.map RecD.k)))
    (h3 : sl[db]? = some (.c (.ptr gb 0 0))) (h4 : hget H gb = some (.box Tb cs)) (h5 : cs[0]? = some (.sl gr 3 0 L.length)) (hne : gb ≠ gr) (hdd : d1 ≠ d2) (hbd : db ≠ d1) (hl1 : d1 < sl.length) (hl2 : d2 < sl.length)
    (hQ : K (putS ((sl.set d1 .any).set d2 .any) d3 (.tup [])) (hput H gr (some (.row T ((srtR L).map RecD.k)))) nx)
    (hK : ∀ sl H nx a w, K sl H nx → Sat X sl H nx a w → Q .normal a w) :
    wpList Try.prog ops Q [⟨some d1, .makeInterface 122 (.tmp ds), t1, p1, a1, none⟩, ⟨some d2, .makeFunc (.func 159) #[] #[.tmp db], t2, p2, a2, none⟩, ⟨d3, .call ⟨.value (.func 111), #[.tmp d1, .tmp d2], at3⟩, t3, p3, a3, none⟩] a w := by
  refine sort_tailB (p := recP) (lt := recLt) sortLays srtRec (by omega) recSwo rfl ⟨_, Try.func111, by kernel_rfl, by kernel_rfl⟩ rfl ⟨_, Try.func153, by kernel_rfl, by kernel_rfl⟩ rfl sort1_enters hmax (recPdq _ hmax) hs h1 h2 (by simp) (fun x hx => ?_) h3 h4 h5 hne hdd hbd hl1 hl2 (fun blk Bs c W dk hdk hb1 hb2 hnc hcm hs hH i j hi hj => rec_less blk Bs c _ W dk hdk hmax hb1 hb2 hnc hcm hs hH i j hi hj) ?_ hK
  · obtain ⟨y, _, rfl⟩ := List.mem_map.1 hx
    exact recP_k y
  · intro d' hp hso hn
    rw [sorted_recs hp hso hn]
    exact hQ

/-- A region of four operations of which the last three are shown by hand. -/
theorem hand_tailR {P : Program} {ck : Bool} {n0 : Nat} {sl : List SV} {H : Heap} {nx : Nat} {K : List SV → Heap → Nat → Prop} {o1 o2 o3 o4 : Oper} (h1 : o1.guard = none)
    (h : lexK P ck (dstsOf [o1, o2, o3, o4]) [o1] sl H nx fun sl' H' nx' => ∀ (X : Ctx) (a : Act) (w : World) (Q' : Exit → Act → World → Prop), X.n0 = n0 → Sat X sl' H' nx' a w → (∀ sl H nx a w, K sl H nx → Sat X sl H nx a w → Q' .normal a w) → wpList P [o1, o2, o3, o4].toArray Q' [o2, o3, o4] a w) :
    handR P n0 [o1, o2, o3, o4].toArray false sl H nx K := by
  intro id X a w Q' hn hs hK
  refine wp_region_list ?_
  refine lexK_pre (P := P) (ck := ck) (ops := [o1, o2, o3, o4].toArray) ?_ [o1] (by simp [h1]) sl H nx a w h hs
  intro sl' H' nx' a' w' hk hs'
  exact hk X a' w' Q' hn hs' hK

set_option maxHeartbeats 4000000 in
theorem implSortOne_k (l : List RecD) (hl : l.length ≤ 1048576) : FnOK Try.prog 138 ⟨1, [(0, some (.ro (l.map RecD.k)))], [.c (.sl 0 3 0 l.length)], .c (.sl 1 3 0 l.length), [(1, some (.row 124 ((srtR l).map RecD.k)))], 2⟩ := by
  have el := srtR_len l
  have ef : List.take l.length (l.map RecD.k) = l.map RecD.k := List.take_of_length_le (by simp)
  have fl := flat_Rec l
  refine fnOK_of true mixed Try.func138 rfl (by rfl) (by rfl) ?_
  have hres := congrArg Array.toList Try.results138
  simp only [Try.ntmps138, BGB, seval]
  repeat' ((fail_if_success with_reducible refine hand_k (id := 2) ?_); (first | (with_reducible first | refine seq_k fun K hK hE hT => ?_ | refine block_k fun K hK hE hT => ?_ | refine lex_nil ?_ | fail) | ((with_reducible refine region_k ?_); simp only [dstsOf, EVB, seval]) | ((with_reducible refine draw_k ?_ fun D hD => ?_); (focus (first | rfl | kernel_rfl)); simp only [dstsOf, EVB, seval]) | ((with_reducible first | refine lex_move ?_ | refine lex_assign ?_); simp only [EVB, seval]) | (with_reducible first | refine lex_cons fun KS hKS => ?_ | refine lexd_cons fun KS hKS => ?_ | refine skip_k ?_ | refine exit_k ?_ | refine ret_k ?_ | fail) | ((with_reducible refine call_go ?_); fail) | ((with_reducible refine step_go ?_); (fail_if_success with_reducible refine call_go ?_); simp only [ENB, seval, tiAll, List.length_map, ef, List.nil_append]) | ((with_reducible refine lexd_nil ?_ ?_); (focus (refine hD _ ?_; first | kernel_rfl | with_unfolding_all rfl)); clear hD; clear D) | ((with_reducible refine guard_go ?_); refine lex_gone rfl rfl ?_; simp only [EVB, seval]) | ((with_reducible refine guardd_go ?_); refine lexd_gone rfl rfl ?_; simp only [EVB, seval]) | ((first | ((with_reducible refine guard_go ?_); refine lex_guard rfl rfl (fun hg KS hKS => ?_) (fun hg => ?_)) | ((with_reducible refine guardd_go ?_); refine lexd_guard rfl rfl (fun hg KS hKS => ?_) (fun hg => ?_)) | ((with_reducible refine cond_go ?_); refine cond_k rfl (fun hg => ?_) (fun hg => ?_)) | (with_reducible refine And.intro (fun hg => ?_) (fun hg => ?_)) | fail) <;> first | ((with_reducible exfalso); exact absurd hg (by decide)) | ((try simp only [CNL] at hg) <;> first | ((with_reducible exfalso); omega) | ((with_reducible exfalso); first | exact tf (by assumption) hg | exact tf hg (by assumption)) | ((try with_reducible (have hT0 : True := hg; clear hT0 hg)); first | (with_reducible refine wpc_go ?_) | (try simp only [EVB, seval])))) | ((with_reducible refine hKS _ _ _ _ ?_); clear hKS; clear KS; simp only [EVB, seval]) | ((with_reducible refine And.intro ?_ ?_); focus (first | omega | exact u8_le _ | exact flat_intK _ | exact flat_bytK _ | (exact fl) | decide | (simp only [List.length_map, ef, List.nil_append]; done))) | ((with_reducible refine ex_p ?_ (fun hh => ?_)); focus (first | omega | (simp only [List.length_map, ef, List.nil_append]; omega))) | ((with_reducible refine hK _ _ _ ?_); clear hK hE hT; clear K) | ((with_reducible first | refine hE _ _ _ _ ?_ | refine hT _ _ _ ?_ | fail); (first | (clear hK hE hT; clear K) | (clear hR hE hT; clear K) | skip); try simp only [IFB, seval]) | ((with_reducible apply_assumption -symm -exfalso); try simp only [IFB, seval]) | fail))
  refine hand_k (hand_tailR (ck := true) rfl ?_)
  simp only [dstsOf, EVB, seval]
  repeat' ((fail_if_success with_reducible refine hand_k (id := 2) ?_); (first | (with_reducible first | refine seq_k fun K hK hE hT => ?_ | refine block_k fun K hK hE hT => ?_ | refine lex_nil ?_ | fail) | ((with_reducible refine region_k ?_); simp only [dstsOf, EVB, seval]) | ((with_reducible refine draw_k ?_ fun D hD => ?_); (focus (first | rfl | kernel_rfl)); simp only [dstsOf, EVB, seval]) | ((with_reducible first | refine lex_move ?_ | refine lex_assign ?_); simp only [EVB, seval]) | (with_reducible first | refine lex_cons fun KS hKS => ?_ | refine lexd_cons fun KS hKS => ?_ | refine skip_k ?_ | refine exit_k ?_ | refine ret_k ?_ | fail) | ((with_reducible refine call_go ?_); fail) | ((with_reducible refine step_go ?_); (fail_if_success with_reducible refine call_go ?_); simp only [ENB, seval, tiAll, List.length_map]) | ((with_reducible refine lexd_nil ?_ ?_); (focus (refine hD _ ?_; first | kernel_rfl | with_unfolding_all rfl)); clear hD; clear D) | ((with_reducible refine guard_go ?_); refine lex_gone rfl rfl ?_; simp only [EVB, seval]) | ((with_reducible refine guardd_go ?_); refine lexd_gone rfl rfl ?_; simp only [EVB, seval]) | ((first | ((with_reducible refine guard_go ?_); refine lex_guard rfl rfl (fun hg KS hKS => ?_) (fun hg => ?_)) | ((with_reducible refine guardd_go ?_); refine lexd_guard rfl rfl (fun hg KS hKS => ?_) (fun hg => ?_)) | ((with_reducible refine cond_go ?_); refine cond_k rfl (fun hg => ?_) (fun hg => ?_)) | (with_reducible refine And.intro (fun hg => ?_) (fun hg => ?_)) | fail) <;> first | ((with_reducible exfalso); exact absurd hg (by decide)) | ((try simp only [CNL] at hg) <;> first | ((with_reducible exfalso); omega) | ((with_reducible exfalso); first | exact tf (by assumption) hg | exact tf hg (by assumption)) | ((try with_reducible (have hT0 : True := hg; clear hT0 hg)); first | (with_reducible refine wpc_go ?_) | (try simp only [EVB, seval])))) | ((with_reducible refine hKS _ _ _ _ ?_); clear hKS; clear KS; simp only [EVB, seval]) | ((with_reducible refine And.intro ?_ ?_); focus (first | omega | exact u8_le _ | exact flat_intK _ | exact flat_bytK _ | (fail) | decide | (simp only [List.length_map]; done))) | ((with_reducible refine ex_p ?_ (fun hh => ?_)); focus (first | omega | (simp only [List.length_map]; omega))) | ((with_reducible refine hK _ _ _ ?_); clear hK hE hT; clear K) | ((with_reducible first | refine hE _ _ _ _ ?_ | refine hT _ _ _ ?_ | fail); (first | (clear hK hE hT; clear K) | (clear hR hE hT; clear K) | skip); try simp only [IFB, seval]) | ((with_reducible apply_assumption -symm -exfalso); try simp only [IFB, seval]) | fail))
  intro X a w Q' hn hs' hK'
  refine recs_tail (L := l) (ds := 6) (db := 3) (gr := 1) (gb := 2) (by omega) hs' rfl rfl rfl rfl rfl (by decide) (by decide) (by decide) (by simp) (by simp) ?_ hK'
  simp only [EVB, seval]
  (have gx := @List.length_map.{0,0}; refine go ?_; (repeat' first | exact Ef.mk | apply Lf.mk | refine fun (K : KT) hK hE hT => ?_ | refine fun (KS : KE) hKS => ?_ | refine fun (D : KD) hD => ?_ | refine fun (hg : (_ : Prop)) => ?_ | fail); all_goals (first | (refine Wr.mk ?_; (try clear gx); repeat first | clear hK hE hT K | clear hR hE hT K) | assumption | skip))
  (refine post_a hres (.inl rfl) ?_; simp only [RSB, ENB, seval, tiAll, el]; simp only [MAB, seval]; refine ⟨rfl, rfl, ?_, ?_, ?_⟩ <;> (first | rfl | (simp [WKB, Nat.add_comm, el]; done) | (simp only [WKB, seval])))
end Go.Proofs.Ytfnhchcgieeedaa
