/-
  Plain: an update that is done twice. No conditions of its own.
-/
import Derived.Test.YtageceacjmmmdaaU1
namespace Go.Proofs.Ytageceacjmmmdaa
set_option linter.unusedSimpArgs false
set_option linter.unusedVariables false
set_option linter.unusedSimpArgs false
set_option linter.unusedVariables false
set_option linter.defProp false
open Go.RowKit

/-- Nothing changes when it is updated again. -/
def fixV (p val : Int) (l : List ViewD) : Prop := updVal p val l = val ∧ updE p val l = l.map ViewD.Val
def newVw (p n o : Int) (x : ViewD) : ViewD := ⟨x.In, x.Out, x.W, edgeV p n o x⟩
def updVs (p val : Int) (l : List ViewD) : List ViewD := l.map (newVw p (updVal p val l) (outsN l))

section
variable {α β γ : Type}
theorem fk_all (f : β → α → β) (b : β) (l : List α) : fk f b l l.length = l.foldl f b := by unfold fk; rw [List.take_length]
theorem fold_congr {f f' : β → α → β} : ∀ {l : List α} {b : β}, (∀ b x, x ∈ l → f b x = f' b x) → l.foldl f b = l.foldl f' b
  | [], _, _ => rfl
  | x :: l, b, h => by
    rw [List.foldl_cons, List.foldl_cons, h b x List.mem_cons_self]
    exact fold_congr fun b y hy => h b y (List.mem_cons_of_mem _ hy)
theorem fold_same {f : β → α → β} {b : β} : ∀ {l : List α}, (∀ x, x ∈ l → f b x = b) → l.foldl f b = b
  | [], _ => rfl
  | x :: l, h => by
    rw [List.foldl_cons, h x List.mem_cons_self]
    exact fold_same fun y hy => h y (List.mem_cons_of_mem _ hy)
theorem fold_mono {f : Int → α → Int} (hf : ∀ a x, f a x ≤ a) : ∀ (l : List α) (b : Int), l.foldl f b ≤ b
  | [], _ => Int.le_refl _
  | x :: l, b => Int.le_trans (fold_mono hf l _) (hf b x)
theorem fold_le {f : Int → α → Int} {z : Int} (hf : ∀ a x, f a x ≤ a) {x : α} (hc : ∀ a, f a x ≤ z) : ∀ (l : List α) (b : Int), x ∈ l → l.foldl f b ≤ z
  | [], _, hx => by cases hx
  | y :: l, b, hx => by
    rcases List.mem_cons.1 hx with rfl | hx
    · exact Int.le_trans (fold_mono hf l _) (hc b)
    · exact fold_le hf hc l _ hx
end

theorem outsN_updVs (p val : Int) (l : List ViewD) : outsN (updVs p val l) = outsN l := by
  unfold outsN
  rw [fk_all, fk_all, updVs, List.foldl_map]
  rfl

theorem min_far {n : Int} (h : n ≤ 1099511627776) : min n 1099511627776 = n := by omega

/-- The edge of a view that was updated keeps its value. -/
theorem edge_again {p n o : Int} {x : ViewD} (hp : p = 1 ∨ p = 2 ∨ p = 3 ∨ p = 4) (lab : p = 4 → (0 ≤ n ∧ n < 1000) ∧ 0 ≤ x.Val ∧ x.Val < 1000000) :
    edgeV p n o (newVw p n o x) = (newVw p n o x).Val := by
  show edgeV p n o (newVw p n o x) = edgeV p n o x
  obtain ⟨i, out, w, z⟩ := x
  rcases hp with rfl | rfl | rfl | rfl
  · cases out <;> simp [edgeV, newVw]
  · simp only [edgeV, newVw]; simp
  · cases out <;> simp [edgeV, newVw]
  · obtain ⟨hn, hz⟩ := lab rfl
    dsimp only at hz
    cases out <;> cases i <;> simp [edgeV, newVw, labE] <;> omega

theorem told_again {n : Int} {o : Int} {x : ViewD} (lab : (0 ≤ n ∧ n < 1000) ∧ 0 ≤ x.Val ∧ x.Val < 1000000) (h : x.In = true → x.Out = true → edgeV 4 n o x = x.Val) : toldOf (newVw 4 n o x) = toldOf x := by
  obtain ⟨i, out, w, z⟩ := x
  obtain ⟨hn, hz⟩ := lab
  dsimp only at hz h
  cases out <;> cases i
  · rfl
  · simp [toldOf, newVw, edgeV, labE]; omega
  · simp [toldOf, newVw, edgeV, labE]; omega
  · have := h rfl rfl
    simp only [toldOf, newVw, this]

theorem most_again (t : List Int) (val : Int) : mostOf t (mostOf t val) = mostOf t val := by
  unfold mostOf
  rw [fk_all, fk_all]
  cases t with
  | nil => rfl
  | cons a t =>
    have hc : 0 < (a :: t).count a := List.count_pos_iff.2 List.mem_cons_self
    have e : ∀ v, stM (a :: t) (v, 0) a = (a, ((a :: t).count a : Int)) := fun v => if_pos (.inl (by simp only; omega))
    rw [List.foldl_cons, List.foldl_cons, e, e]

theorem upd_again {p val : Int} {l : List ViewD} (hp : p = 1 ∨ p = 2 ∨ p = 3 ∨ p = 4)
    (h : ∀ x ∈ l, x.In = true → x.Out = true → edgeV p (updVal p val l) (outsN l) x = x.Val)
    (lab : p = 4 → (0 ≤ updVal p val l ∧ updVal p val l < 1000) ∧ ∀ x ∈ l, 0 ≤ x.Val ∧ x.Val < 1000000) : fixV p (updVal p val l) (updVs p val l) := by
  have key : updVal p (updVal p val l) (updVs p val l) = updVal p val l := by
    obtain ⟨n, hn⟩ : ∃ n, n = updVal p val l := ⟨_, rfl⟩
    obtain ⟨o, ho⟩ : ∃ o, o = outsN l := ⟨_, rfl⟩
    have e : updVs p val l = l.map (newVw p n o) := by rw [hn, ho]; rfl
    rw [e]
    rw [← hn] at h lab ⊢
    rw [← ho] at h
    rcases hp with rfl | rfl | rfl | rfl
    · have hn' : n = rankV l := hn
      have this : ∀ b x, x ∈ l → stS b (newVw 1 n o x) = stS b x := by
        intro b x hx
        have hx' := h x hx
        unfold stS newVw
        dsimp only
        cases hi : x.In with
        | false => rfl
        | true =>
          cases hu : x.Out with
          | true => rw [hx' hi hu]
          | false => simp [edgeV, hu]
      have e1 : rankV (l.map (newVw 1 n o)) = rankV l := by
        unfold rankV
        rw [fk_all, fk_all, List.foldl_map, fold_congr this]
      show rankV (l.map (newVw 1 n o)) = n
      rw [e1, hn']
    · have hn' : n = fk stC val l l.length := hn
      show fk stC n (l.map (newVw 2 n o)) (l.map (newVw 2 n o)).length = n
      rw [fk_all] at hn' ⊢
      refine fold_same fun x hx => ?_
      obtain ⟨y, hy, rfl⟩ := List.mem_map.1 hx
      have := fold_le (f := stC) (z := y.Val) (fun a x => by unfold stC; omega) (fun a => by unfold stC; omega) l val hy
      simp only [stC, newVw, edgeV]
      simp
      omega
    · have hn' : n = fk stP val l l.length := hn
      show fk stP n (l.map (newVw 3 n o)) (l.map (newVw 3 n o)).length = n
      rw [fk_all] at hn' ⊢
      refine fold_same fun x hx => ?_
      obtain ⟨y, hy, rfl⟩ := List.mem_map.1 hx
      have hy' := h y hy
      have hin : y.In = true → n ≤ addCap y.Val y.W := by
        intro hi
        rw [hn']
        exact fold_le (f := stP) (fun a x => by unfold stP; split <;> omega) (fun a => by unfold stP; rw [if_pos hi]; omega) l val hy
      unfold stP newVw
      dsimp only
      cases hi : y.In with
      | false => rfl
      | true =>
        have h3 := hin hi
        cases hu : y.Out with
        | true => rw [hy' hi hu]; simp only [if_true]; omega
        | false =>
          have e3 : edgeV 3 n o y = y.Val := by simp [edgeV, hu]
          rw [e3]; simp only [if_true]; omega
    · obtain ⟨l1, l2⟩ := lab rfl
      have hn' : n = mostOf (told l) val := hn
      show mostOf (told (l.map (newVw 4 n o))) n = n
      have : told (l.map (newVw 4 n o)) = told l := by
        unfold told
        rw [List.flatMap_map, List.flatMap, List.flatMap]
        refine congrArg List.flatten (List.map_congr_left fun x hx => ?_)
        exact told_again ⟨l1, l2 x hx⟩ (h x hx)
      rw [this, hn', most_again]
  refine ⟨key, ?_⟩
  unfold updE
  rw [key, outsN_updVs]
  refine List.map_congr_left fun x hx => ?_
  obtain ⟨y, hy, rfl⟩ := List.mem_map.1 hx
  exact edge_again hp fun h4 => ⟨(lab h4).1, (lab h4).2 y hy⟩

end Go.Proofs.Ytageceacjmmmdaa
