/-
  Rows of files, sorted by name: the program's facts, the closure, the region's last operations. No conditions of its own.
-/
import Derived.Test.YtfnhchcgieeedaaSN2
import Derived.Test.YtfnhchcgieeedaaSy
import Derived.Test.YtfnhchcgieeedaaDK3
import Derived.Test.YtfnhchcgieeedaaDH1
import Derived.Deep.QuietTactic
namespace Go.Proofs.Ytfnhchcgieeedaa
set_option linter.unusedSimpArgs false
set_option linter.unusedVariables false
set_option linter.unusedSimpArgs false
set_option linter.unusedVariables false
set_option linter.defProp false
open Go.Shelf Go.RowKit Go.Lib

noncomputable def filTi : TypeInfo := (Try.prog.info? 46).get (by kernel_rfl)
noncomputable def filEi : TypeInfo := (Try.prog.info? 95).get (by kernel_rfl)

theorem filK (n : Nat) (h2 : 2 ≤ n) : swapperK n filEi 25 = 9 := by
  have a : filEi.hasPointers = true := by kernel_rfl
  have b : filEi.bytes = 40 := by kernel_rfl
  have c : (n == 0) = false := by simp; omega
  have d : (n == 1) = false := by simp; omega
  simp [swapperK, a, b, c, d]

theorem filK1 (n : Nat) (h : n ≤ 1) : swapperK n filEi 25 = n + 1 := by
  rcases n with _ | _ | n
  · simp [swapperK]
  · simp [swapperK]
  · omega

theorem srtFil : Srt Try.prog 46 95 2 where
  ti := ⟨filTi, by kernel_rfl, by kernel_rfl⟩
  un := ⟨_, Try.underlying46, fun m h => by cases h⟩
  pk := by kernel_rfl
  el := ⟨filEi, 25, 148, false, by kernel_rfl, fun _ => by kernel_rfl, by kernel_rfl, fun n h2 => by rw [filK n h2]; kernel_rfl,
    fun args W => run_callFunc_extern Try.func148 (by kernel_rfl) (by kernel_rfl) (by kernel_rfl) (e := Extern.ReflectliteSwapper.swap false) (by kernel_rfl) args W,
    fun n h1 => by
      rcases (show n = 0 ∨ n = 1 by omega) with rfl | rfl
      · exact ⟨140, by rw [filK1 0 (by omega)]; kernel_rfl⟩
      · exact ⟨141, by rw [filK1 1 (by omega)]; kernel_rfl⟩⟩
  agg := fun _ => by kernel_rfl

/-- The name of a file. -/
def fnm (e : List DC) : List UInt8 := match (e[0]? : Option DC) with
  | some (.v (.string s)) => s.toList
  | _ => []
def fnmP (e : List DC) : Prop := ∃ s : List UInt8, e[0]? = some (.v (.string (txt s)))
def fnmLt (x y : ElN 2 fnmP) : Bool := bl (fnm x.row) (fnm y.row)
theorem fnm_k (T : Nat) (f : FileD) : fnm (f.k T) = f.Name := txt_list _
theorem fnmP_k (T : Nat) (f : FileD) : fnmP (f.k T) := ⟨f.Name, rfl⟩

instance : Inhabited (ElN 2 fnmP) := ⟨⟨[(.v (.string (txt [])), .string (txt []), At.none0 0), (.v (.int .i64 0), .int .i64 0, At.none0 0)], ⟨rfl, fun c hc => by
  rcases List.mem_cons.1 hc with rfl | hc
  · exact ⟨rfl, fun x hx => by cases hx; rfl⟩
  · rcases List.mem_cons.1 hc with rfl | hc
    · exact ⟨rfl, fun x hx => by cases hx; rfl⟩
    · cases hc⟩, [], rfl⟩⟩

theorem bl_ntrans {x y z : List UInt8} (h1 : bl x y = false) (h2 : bl y z = false) : bl x z = false := by
  cases h : bl x z with
  | false => rfl
  | true =>
    by_cases e : x = y
    · subst e; rw [h] at h2; cases h2
    · rcases bl_tri e with h3 | h3
      · rw [h3] at h1; cases h1
      · rw [bl_trans h3 h] at h2; cases h2

theorem fnmSwo : Sort.SWO fnmLt where
  irrefl x := bl_irr _
  trans x y z h1 h2 := bl_trans h1 h2
  ntrans x y z h1 h2 := bl_ntrans h1 h2

theorem list_less_enters : ∀ args w, (callFunc 112 args).run Try.prog w = .ok (.enter 112 args) w := enters_of Try.func112 (by kernel_rfl) rfl

set_option maxHeartbeats 2000000 in
theorem list_less_at (blk c Bs size : Nat) (W : World) (G : Nat → ByteArray) (hs : W.cell? ⟨Bs, 0, none⟩ = some (.slice (some ⟨blk, 0, none⟩) size c))
    (hc : ∀ t, t < size → W.cell? ⟨blk, t * 2, none⟩ = some (.string (G t))) (i j : Nat) (hi : i < size) (hj : j < size) (_hsz : size < 4611686018427387904) :
    Calls Try.prog 112 #[.int .i64 i, .int .i64 j, .pointer (some ⟨Bs, 0, none⟩)] W fun e w' => e = .returned (.bool (Op.bytesLess (G i).toList (G j).toList)) ∧ ∃ q, w' = W.drewN q := by
  have ci := hc i hi
  have cj := hc j hj
  go_enter Try.func112, Try.ntmps112
  go_wp2
  go_quiet (fail)
  go_wp2
  go_ret
  exact ⟨rfl, nq, rfl⟩

theorem list_less (blk Bs c n : Nat) (W : World) (dk : Array (ElN 2 fnmP)) (hdk : dk.size = n) (hn : n < 4611686018427387904) (hs : W.cell? ⟨Bs, 0, none⟩ = some (.slice (some ⟨blk, 0, none⟩) n c)) (hH : Sort.HoldsK ElN.enc 2 W blk 0 dk) (i j : Nat) (hi : i < n) (hj : j < n) :
    Calls Try.prog 112 #[.int .i64 i, .int .i64 j, .pointer (some ⟨Bs, 0, none⟩)] W fun ex w' => ex = .returned (.bool (fnmLt dk[i]! dk[j]!)) ∧ ∃ q, w' = W.drewN q := by
  have h0 : ∀ t, t < n → W.cell? ⟨blk, t * 2, none⟩ = some (.string (txt (fnm dk[t]!.row))) := fun t ht => by
    have h1 := (hH.cell (i := t) (c := 0) (by omega) (by omega)).1
    rw [Nat.zero_add, Nat.add_zero] at h1
    rw [h1]
    obtain ⟨s, hs⟩ := dk[t]!.2.2
    have h2 : 0 < (dk[t]!).enc.length := by rw [ElN.enc_len]; omega
    rw [getElem!_pos (dk[t]!).enc 0 h2]
    have h3 := (dk[t]!).val hs
    rw [List.getElem?_eq_getElem h2] at h3
    rw [Option.some.inj h3]
    have h4 : fnm dk[t]!.row = s := by
      unfold fnm
      have : (dk[t]!).row[0]? = some (.v (.string (txt s))) := hs
      rw [this]
      exact txt_list s
    rw [h4]
  refine (list_less_at blk c Bs n W (fun t => txt (fnm dk[t]!.row)) hs h0 i j hi hj hn).mono fun ex w' he => ?_
  obtain ⟨rfl, hq⟩ := he
  refine ⟨?_, hq⟩
  rw [txt_list, txt_list]
  rfl

/-- Two lists of rows in the order of their names, of which one permutes the other, are one. -/
theorem rows_one : ∀ {l m : List (List DC)}, l.Perm m → l.Pairwise (fun a b => bl (fnm b) (fnm a) = false) → m.Pairwise (fun a b => bl (fnm a) (fnm b) = true) → l = m
  | [], m, h, _, _ => h.nil_eq
  | a :: l, [], h, _, _ => absurd h.length_eq (by simp)
  | a :: l, b :: m, h, h1, h2 => by
    have ha : a ∈ b :: m := h.subset (.head _)
    have hb : b ∈ a :: l := h.symm.subset (.head _)
    have e : a = b := by
      rcases List.mem_cons.1 ha with rfl | ha
      · rfl
      rcases List.mem_cons.1 hb with rfl | hb
      · rfl
      have q1 := (List.pairwise_cons.1 h1).1 b hb
      have q2 := (List.pairwise_cons.1 h2).1 a ha
      rw [q2] at q1; cases q1
    subst e
    rw [rows_one (List.perm_cons _ |>.1 h) (List.pairwise_cons.1 h1).2 (List.pairwise_cons.1 h2).2]

/-- What the sort leaves is the list in the order of the names. -/
theorem sorted_files {d : Array (ElN 2 fnmP)} {L M : List FileD} {T : Nat} (h : (rowN d).Perm (L.map (FileD.k T))) (hs : Go.Sort.SortedIn fnmLt 0 L.length d) (hn : d.size = L.length) (hp : L.Perm M) (hM : srtF M) : rowN d = M.map (FileD.k T) := by
  refine rows_one (h.trans (hp.map _)) ?_ ?_
  · rw [List.pairwise_iff_getElem]
    intro i j hi hj hij
    have hl : (rowN d).length = d.size := by simp [rowN]
    have q := hs i j (Nat.zero_le _) hij (by omega)
    have ex : ∀ t (ht : t < (rowN d).length), (rowN d)[t] = d[t]!.row := fun t ht => by
      have ht' : t < d.size := by rw [← hl]; exact ht
      simp [rowN, ht']
    rw [ex i hi, ex j hj]
    exact q
  · unfold srtF at hM
    rw [List.pairwise_map]
    refine hM.imp fun {a b} hab => ?_
    rw [fnm_k, fnm_k]; exact hab

/-- The sort of the files: whatever comes behind it is asked for the one sorted list. -/
theorem files_tail {X : Ctx} {ops : Array Oper} {Q : Exit → Act → World → Prop} {K : List SV → Heap → Nat → Prop} {ds db d1 d2 gr gb Tb T T' : Nat} {d3 : Option Tmp} {L M : List FileD} {cs : List CV} {sl : List SV} {H : Heap} {nx : Nat} {a : Act} {w : World}
    {t1 t2 t3 : TypeId} {p1 p2 p3 : String} {a1 a2 a3 : Array Edge} {at3 : Array TypeId}
    (hmax : L.length < 4611686018427387904) (hs : Sat X sl H nx a w) (h1 : sl[ds]? = some (.c (.sl gr 2 0 L.length))) (h2 : hget H gr = some (.nst T (L.map (FileD.k T')) none))
    (h3 : sl[db]? = some (.c (.ptr gb 0 0))) (h4 : hget H gb = some (.box Tb cs)) (h5 : cs[0]? = some (.sl gr 2 0 L.length)) (hne : gb ≠ gr) (hdd : d1 ≠ d2) (hbd : db ≠ d1) (hl1 : d1 < sl.length) (hl2 : d2 < sl.length)
    (hp : L.Perm M) (hM : srtF M)
    (hQ : K (putS ((sl.set d1 .any).set d2 .any) d3 (.tup [])) (hput H gr (some (.nst T (M.map (FileD.k T')) none))) nx)
    (hK : ∀ sl H nx a w, K sl H nx → Sat X sl H nx a w → Q .normal a w) :
    wpList Try.prog ops Q [⟨some d1, .makeInterface 46 (.tmp ds), t1, p1, a1, none⟩, ⟨some d2, .makeFunc (.func 112) #[] #[.tmp db], t2, p2, a2, none⟩, ⟨d3, .call ⟨.value (.func 111), #[.tmp d1, .tmp d2], at3⟩, t3, p3, a3, none⟩] a w := by
  refine sort_tailN (p := fnmP) (lt := fnmLt) sortLays srtFil fnmSwo rfl ⟨_, Try.func111, by kernel_rfl, by kernel_rfl⟩ list_less_enters hmax hs h1 h2 (by simp) (fun x hx => ?_) h3 h4 h5 hne hdd hbd hl1 hl2 (fun blk Bs c W dk hdk hn hs hH i j hi hj => list_less blk Bs c _ W dk hdk hn hs hH i j hi hj) ?_ hK
  · obtain ⟨y, _, rfl⟩ := List.mem_map.1 hx
    exact fnmP_k T' y
  · intro d' hpm hso hn
    rw [sorted_files hpm hso hn hp hM]
    exact hQ

end Go.Proofs.Ytfnhchcgieeedaa
