/-
  The engine, twenty-fourth part: the lemmas that a walk is reckoned by, in bundles. No conditions of its own.
-/
import Derived.Test.YtmdajpgemcaefaaE22
namespace Go.Proofs.Ytmdajpgemcaefaa
set_option linter.unusedSimpArgs false
set_option linter.unusedVariables false

theorem EVL : type_of% (
  And.intro (@List.getElem?_cons_zero.{0}) <|
  And.intro (@List.getElem?_cons_succ.{0}) <|
  And.intro (@Option.getD_some.{0}) <|
  And.intro (@List.set_cons_zero.{0}) <|
  And.intro (@List.set_cons_succ.{0}) <|
  And.intro (@ite_true.{1}) <|
  And.intro (@ite_false.{1}) <|
  And.intro (@eq_self.{1}) <|
  And.intro (@if_true.{1}) <|
  @if_false.{1}) :=
  And.intro (@List.getElem?_cons_zero.{0}) <|
  And.intro (@List.getElem?_cons_succ.{0}) <|
  And.intro (@Option.getD_some.{0}) <|
  And.intro (@List.set_cons_zero.{0}) <|
  And.intro (@List.set_cons_succ.{0}) <|
  And.intro (@ite_true.{1}) <|
  And.intro (@ite_false.{1}) <|
  And.intro (@eq_self.{1}) <|
  And.intro (@if_true.{1}) <|
  @if_false.{1}

theorem ENL : type_of% (
  And.intro (@List.set_cons_zero.{0}) <|
  And.intro (@List.set_cons_succ.{0}) <|
  And.intro (@List.append_toArray.{0}) <|
  And.intro (@List.getElem?_cons_zero.{0}) <|
  And.intro (@List.getElem?_cons_succ.{0}) <|
  And.intro (@List.getElem_cons_zero.{0}) <|
  And.intro (@List.getElem_cons_succ.{0}) <|
  And.intro (@List.getElem?_nil.{0}) <|
  And.intro (@Option.getD_some.{0}) <|
  And.intro (@Option.map_some.{0, 0}) <|
  And.intro (@Option.map_none.{0, 0}) <|
  And.intro (@Option.bind_some.{0, 0}) <|
  And.intro (@Option.some.injEq.{0}) <|
  And.intro (@List.filterMap_cons.{0, 0}) <|
  And.intro (@List.filterMap_nil.{0, 0}) <|
  And.intro (@List.contains_cons.{0}) <|
  And.intro (@List.contains_nil.{0}) <|
  And.intro (@List.map_cons.{0, 0}) <|
  And.intro (@List.map_nil.{0, 0}) <|
  And.intro (@List.length_cons.{0}) <|
  And.intro (@List.length_nil.{0}) <|
  And.intro (@List.drop_zero.{0}) <|
  And.intro (@List.drop_succ_cons.{0}) <|
  And.intro (@List.take_succ_cons.{0}) <|
  And.intro (@List.take_zero.{0}) <|
  And.intro (@List.cons_append.{0}) <|
  And.intro (@List.nil_append.{0}) <|
  And.intro (@List.append_nil.{0}) <|
  And.intro (@List.all_cons.{0}) <|
  And.intro (@List.all_nil.{0}) <|
  And.intro (@List.replicate_succ.{0}) <|
  And.intro (@List.replicate_zero.{0}) <|
  And.intro (@List.flatten_cons.{0}) <|
  And.intro (@List.flatten_nil.{0}) <|
  And.intro (@Nat.add_zero) <|
  And.intro (@Nat.zero_add) <|
  And.intro (@Nat.sub_zero) <|
  And.intro (@beq_self_eq_true.{0}) <|
  And.intro (@Bool.or_true) <|
  And.intro (@Bool.true_or) <|
  And.intro (@Bool.or_false) <|
  And.intro (@Bool.and_true) <|
  And.intro (@Bool.and_self) <|
  And.intro (@eq_self.{1}) <|
  And.intro (@ne_eq.{1}) <|
  And.intro (@not_true_eq_false) <|
  And.intro (@not_false_eq_true) <|
  And.intro (@true_and) <|
  And.intro (@and_true) <|
  And.intro (@and_self) <|
  And.intro (@true_implies) <|
  And.intro (@false_implies) <|
  And.intro (@forall_const.{1}) <|
  And.intro (@Bool.true_eq_false) <|
  And.intro (@Bool.false_eq_true) <|
  And.intro (@if_true.{1}) <|
  And.intro (@if_false.{1}) <|
  And.intro (@and_assoc) <|
  And.intro (@Int.toNat_natCast) <|
  And.intro (@exists_eq_left'.{1}) <|
  And.intro (@exists_eq_left.{1}) <|
  And.intro (@exists_and_left.{1}) <|
  And.intro (@exists_and_right.{1}) <|
  And.intro (@exists_eq.{1}) <|
  And.intro (@exists_eq'.{1}) <|
  And.intro (@exists_const.{1}) <|
  And.intro (@exists_prop) <|
  And.intro (@exists_true_left) <|
  And.intro (@TD.slice.injEq) <|
  And.intro (@TD.struct.injEq) <|
  And.intro (@TD.int.injEq) <|
  And.intro (@Prod.mk.injEq.{0, 0}) <|
  And.intro (@List.cons.injEq.{0}) <|
  And.intro (@decide_true) <|
  And.intro (@decide_false) <|
  And.intro (@Bool.not_true) <|
  And.intro (@Bool.not_false) <|
  And.intro (@Nat.lt_add_one) <|
  And.intro (@Nat.zero_lt_succ) <|
  And.intro (@Nat.succ_ne_zero) <|
  And.intro (@Nat.one_ne_zero) <|
  @Nat.le_refl) :=
  And.intro (@List.set_cons_zero.{0}) <|
  And.intro (@List.set_cons_succ.{0}) <|
  And.intro (@List.append_toArray.{0}) <|
  And.intro (@List.getElem?_cons_zero.{0}) <|
  And.intro (@List.getElem?_cons_succ.{0}) <|
  And.intro (@List.getElem_cons_zero.{0}) <|
  And.intro (@List.getElem_cons_succ.{0}) <|
  And.intro (@List.getElem?_nil.{0}) <|
  And.intro (@Option.getD_some.{0}) <|
  And.intro (@Option.map_some.{0, 0}) <|
  And.intro (@Option.map_none.{0, 0}) <|
  And.intro (@Option.bind_some.{0, 0}) <|
  And.intro (@Option.some.injEq.{0}) <|
  And.intro (@List.filterMap_cons.{0, 0}) <|
  And.intro (@List.filterMap_nil.{0, 0}) <|
  And.intro (@List.contains_cons.{0}) <|
  And.intro (@List.contains_nil.{0}) <|
  And.intro (@List.map_cons.{0, 0}) <|
  And.intro (@List.map_nil.{0, 0}) <|
  And.intro (@List.length_cons.{0}) <|
  And.intro (@List.length_nil.{0}) <|
  And.intro (@List.drop_zero.{0}) <|
  And.intro (@List.drop_succ_cons.{0}) <|
  And.intro (@List.take_succ_cons.{0}) <|
  And.intro (@List.take_zero.{0}) <|
  And.intro (@List.cons_append.{0}) <|
  And.intro (@List.nil_append.{0}) <|
  And.intro (@List.append_nil.{0}) <|
  And.intro (@List.all_cons.{0}) <|
  And.intro (@List.all_nil.{0}) <|
  And.intro (@List.replicate_succ.{0}) <|
  And.intro (@List.replicate_zero.{0}) <|
  And.intro (@List.flatten_cons.{0}) <|
  And.intro (@List.flatten_nil.{0}) <|
  And.intro (@Nat.add_zero) <|
  And.intro (@Nat.zero_add) <|
  And.intro (@Nat.sub_zero) <|
  And.intro (@beq_self_eq_true.{0}) <|
  And.intro (@Bool.or_true) <|
  And.intro (@Bool.true_or) <|
  And.intro (@Bool.or_false) <|
  And.intro (@Bool.and_true) <|
  And.intro (@Bool.and_self) <|
  And.intro (@eq_self.{1}) <|
  And.intro (@ne_eq.{1}) <|
  And.intro (@not_true_eq_false) <|
  And.intro (@not_false_eq_true) <|
  And.intro (@true_and) <|
  And.intro (@and_true) <|
  And.intro (@and_self) <|
  And.intro (@true_implies) <|
  And.intro (@false_implies) <|
  And.intro (@forall_const.{1}) <|
  And.intro (@Bool.true_eq_false) <|
  And.intro (@Bool.false_eq_true) <|
  And.intro (@if_true.{1}) <|
  And.intro (@if_false.{1}) <|
  And.intro (@and_assoc) <|
  And.intro (@Int.toNat_natCast) <|
  And.intro (@exists_eq_left'.{1}) <|
  And.intro (@exists_eq_left.{1}) <|
  And.intro (@exists_and_left.{1}) <|
  And.intro (@exists_and_right.{1}) <|
  And.intro (@exists_eq.{1}) <|
  And.intro (@exists_eq'.{1}) <|
  And.intro (@exists_const.{1}) <|
  And.intro (@exists_prop) <|
  And.intro (@exists_true_left) <|
  And.intro (@TD.slice.injEq) <|
  And.intro (@TD.struct.injEq) <|
  And.intro (@TD.int.injEq) <|
  And.intro (@Prod.mk.injEq.{0, 0}) <|
  And.intro (@List.cons.injEq.{0}) <|
  And.intro (@decide_true) <|
  And.intro (@decide_false) <|
  And.intro (@Bool.not_true) <|
  And.intro (@Bool.not_false) <|
  And.intro (@Nat.lt_add_one) <|
  And.intro (@Nat.zero_lt_succ) <|
  And.intro (@Nat.succ_ne_zero) <|
  And.intro (@Nat.one_ne_zero) <|
  @Nat.le_refl

theorem CNL : type_of% (
  And.intro (@decide_eq_true_eq) <|
  And.intro (@decide_eq_false_iff_not) <|
  And.intro (@beq_iff_eq.{0}) <|
  And.intro (@beq_eq_false_iff_ne.{0}) <|
  And.intro (@bne_iff_ne.{0}) <|
  And.intro (@bne_eq_false_iff_eq.{0}) <|
  And.intro (@ne_eq.{1}) <|
  And.intro (@Int.not_lt) <|
  And.intro (@Int.not_le) <|
  And.intro (@Bool.not_eq_true') <|
  And.intro (@Bool.not_eq_false') <|
  And.intro (@Bool.not_true) <|
  And.intro (@Bool.not_false) <|
  And.intro (@eq_self.{1}) <|
  And.intro (@not_true_eq_false) <|
  @not_false_eq_true) :=
  And.intro (@decide_eq_true_eq) <|
  And.intro (@decide_eq_false_iff_not) <|
  And.intro (@beq_iff_eq.{0}) <|
  And.intro (@beq_eq_false_iff_ne.{0}) <|
  And.intro (@bne_iff_ne.{0}) <|
  And.intro (@bne_eq_false_iff_eq.{0}) <|
  And.intro (@ne_eq.{1}) <|
  And.intro (@Int.not_lt) <|
  And.intro (@Int.not_le) <|
  And.intro (@Bool.not_eq_true') <|
  And.intro (@Bool.not_eq_false') <|
  And.intro (@Bool.not_true) <|
  And.intro (@Bool.not_false) <|
  And.intro (@eq_self.{1}) <|
  And.intro (@not_true_eq_false) <|
  @not_false_eq_true

theorem WKL : type_of% (
  And.intro (@List.getElem?_cons_zero.{0}) <|
  And.intro (@List.getElem?_cons_succ.{0}) <|
  And.intro (@List.getElem?_nil.{0}) <|
  And.intro (@Option.getD_some.{0}) <|
  And.intro (@Option.getD_none.{0}) <|
  And.intro (@List.map_cons.{0, 0}) <|
  And.intro (@List.map_nil.{0, 0}) <|
  And.intro (@if_true.{1}) <|
  And.intro (@if_false.{1}) <|
  And.intro (@true_and) <|
  And.intro (@and_true) <|
  @and_self) :=
  And.intro (@List.getElem?_cons_zero.{0}) <|
  And.intro (@List.getElem?_cons_succ.{0}) <|
  And.intro (@List.getElem?_nil.{0}) <|
  And.intro (@Option.getD_some.{0}) <|
  And.intro (@Option.getD_none.{0}) <|
  And.intro (@List.map_cons.{0, 0}) <|
  And.intro (@List.map_nil.{0, 0}) <|
  And.intro (@if_true.{1}) <|
  And.intro (@if_false.{1}) <|
  And.intro (@true_and) <|
  And.intro (@and_true) <|
  @and_self

theorem MAL : type_of% (
  And.intro (@List.cons_append.{0}) <|
  And.intro (@List.nil_append.{0}) <|
  And.intro (@List.append_nil.{0}) <|
  And.intro (@Nat.zero_add) <|
  And.intro (@if_true.{1}) <|
  And.intro (@if_false.{1}) <|
  And.intro (@exists_eq_left'.{1}) <|
  And.intro (@exists_eq_left.{1}) <|
  And.intro (@eq_self.{1}) <|
  And.intro (@Nat.zero_ne_one) <|
  @Nat.one_ne_zero) :=
  And.intro (@List.cons_append.{0}) <|
  And.intro (@List.nil_append.{0}) <|
  And.intro (@List.append_nil.{0}) <|
  And.intro (@Nat.zero_add) <|
  And.intro (@if_true.{1}) <|
  And.intro (@if_false.{1}) <|
  And.intro (@exists_eq_left'.{1}) <|
  And.intro (@exists_eq_left.{1}) <|
  And.intro (@eq_self.{1}) <|
  And.intro (@Nat.zero_ne_one) <|
  @Nat.one_ne_zero

theorem EFL : type_of% (
  And.intro (@List.range_succ) <|
  And.intro (@List.range_zero) <|
  And.intro (@List.nil_append.{0}) <|
  And.intro (@List.cons_append.{0}) <|
  And.intro (@List.filterMap_cons.{0, 0}) <|
  And.intro (@List.filterMap_nil.{0, 0}) <|
  And.intro (@List.map_cons.{0, 0}) <|
  And.intro (@List.map_nil.{0, 0}) <|
  And.intro (@List.getElem?_cons_zero.{0}) <|
  And.intro (@List.getElem?_cons_succ.{0}) <|
  And.intro (@List.getElem?_nil.{0}) <|
  And.intro (@Option.getD_some.{0}) <|
  And.intro (@Option.getD_none.{0}) <|
  And.intro (@Option.map_some.{0, 0}) <|
  And.intro (@Option.map_none.{0, 0}) <|
  And.intro (@Nat.sub_self) <|
  And.intro (@Nat.add_zero) <|
  And.intro (@Nat.zero_add) <|
  And.intro (@Nat.lt_irrefl) <|
  And.intro (@if_true.{1}) <|
  And.intro (@if_false.{1}) <|
  And.intro (@Nat.zero_lt_one) <|
  And.intro (@Nat.zero_lt_succ) <|
  @Nat.not_lt_zero) :=
  And.intro (@List.range_succ) <|
  And.intro (@List.range_zero) <|
  And.intro (@List.nil_append.{0}) <|
  And.intro (@List.cons_append.{0}) <|
  And.intro (@List.filterMap_cons.{0, 0}) <|
  And.intro (@List.filterMap_nil.{0, 0}) <|
  And.intro (@List.map_cons.{0, 0}) <|
  And.intro (@List.map_nil.{0, 0}) <|
  And.intro (@List.getElem?_cons_zero.{0}) <|
  And.intro (@List.getElem?_cons_succ.{0}) <|
  And.intro (@List.getElem?_nil.{0}) <|
  And.intro (@Option.getD_some.{0}) <|
  And.intro (@Option.getD_none.{0}) <|
  And.intro (@Option.map_some.{0, 0}) <|
  And.intro (@Option.map_none.{0, 0}) <|
  And.intro (@Nat.sub_self) <|
  And.intro (@Nat.add_zero) <|
  And.intro (@Nat.zero_add) <|
  And.intro (@Nat.lt_irrefl) <|
  And.intro (@if_true.{1}) <|
  And.intro (@if_false.{1}) <|
  And.intro (@Nat.zero_lt_one) <|
  And.intro (@Nat.zero_lt_succ) <|
  @Nat.not_lt_zero

theorem tf {b : Bool} (h : b = true) (h' : b = false) : False := by rw [h] at h'; cases h'

end Go.Proofs.Ytmdajpgemcaefaa
