/- Counts: what the program's and the reference's small functions answer. -/
import Derived.Test.YtjhpkkhcgpilfaaDoorGCAp
namespace Go.Proofs.YtjhpkkhcgpilfaaDoor.Pure
open Go.RowKit Go.Proofs.YtjhpkkhcgpilfaaDoorK Go.Proofs.YtjhpkkhcgpilfaaDoor.GCA
set_option linter.unusedVariables false
set_option linter.unusedSimpArgs false
set_option maxRecDepth 100000
theorem w64_id {x : Int} (h : -9223372036854775808 ≤ x ∧ x ≤ 9223372036854775807) : w64 x = x := by
  simp only [w64, IntKind.wrap, IntKind.bits, IntKind.signed]
  simp
  omega
theorem wsucc {i : Nat} (h : i < 1000000000) : w64 ((i : Int) + 1) = ((i + 1 : Nat) : Int) := w64_id (by omega)
theorem gdt {α : Type} (x : Option α) (d : α) : gd true x d = x := rfl
theorem rd_at {α : Type} [Inhabited α] {L : List α} {i : Nat} (h : i < L.length) : rd L (i : Int) = L[i] := by
  unfold rd; rw [Int.toNat_natCast, List.getD_eq_getElem?_getD, List.getElem?_eq_getElem h]; rfl
/-! ### names -/
def nm (i : Int) : ByteArray := rd [str_1, str_2, str_3, str_4, str_5, str_6, str_7, str_8] i
def nmx (i : Int) : ByteArray := if 0 ≤ i ∧ i < 8 then nm i else str_0
theorem name_eq (k : Nat) (i : Int) : count_Name.f k i = some (nmx i) := by
  unfold count_Name.f count_kinded.f nmx
  simp only [Option.bind_some]
  by_cases c : 0 ≤ i ∧ i < 8
  · simp only [decide_eq_true c.1, decide_eq_true c.2, Bool.and_self, Bool.not_true, Bool.false_eq_true, if_false, if_pos c]; rfl
  · rw [if_pos, if_neg c]
    simp only [Bool.not_eq_true', Bool.and_eq_false_iff, decide_eq_false_iff_not]; omega
def MK : List (ByteArray × Int) := [(str_1, 0), (str_2, 1), (str_3, 2), (str_4, 3), (str_5, 4), (str_6, 5), (str_7, 6), (str_8, 7)]
theorem mk_put : ∀ i : Nat, i < 8 → mput (MK.take i) (nm i) (i : Int) = MK.take (i + 1) := by decide +kernel
def kdF : List (ByteArray × Int) → ByteArray → Int
  | [], _ => -1
  | p :: r, a => if a = p.1 then p.2 else kdF r a
def kd (a : ByteArray) : Int := kdF MK a
theorem kdF_has : ∀ {m : List (ByteArray × Int)} (a : ByteArray), (∀ p ∈ m, 0 ≤ p.2 ∧ p.2 < 8) → mhas m a = decide (0 ≤ kdF m a) ∧ kdF m a < 8 ∧ (0 ≤ kdF m a → mget m a 0 = kdF m a)
  | [], a, h => ⟨rfl, by show (-1 : Int) < 8; decide, fun h => absurd (show (0 : Int) ≤ -1 from h) (by decide)⟩
  | p :: r, a, h => by
    have ih := kdF_has (m := r) a fun q hq => h q (List.mem_cons_of_mem _ hq)
    have hp := h p (List.mem_cons_self ..)
    unfold kdF mhas mget
    by_cases c : a = p.1
    · simp only [if_pos c, decide_eq_true c, Bool.true_or, decide_eq_true hp.1]; exact ⟨trivial, hp.2, fun _ => trivial⟩
    · simp only [if_neg c, decide_eq_false c, Bool.false_or]; exact ih
theorem mk_all : ∀ p ∈ MK, 0 ≤ p.2 ∧ p.2 < 8 := by decide +kernel
theorem kd_has (a : ByteArray) : mhas MK a = decide (0 ≤ kd a) := (kdF_has a mk_all).1
theorem kd_lt (a : ByteArray) : kd a < 8 := (kdF_has a mk_all).2.1
theorem kd_get {a : ByteArray} (h : 0 ≤ kd a) : mget MK a 0 = kd a := (kdF_has a mk_all).2.2 h
theorem kd_nm : ∀ i : Nat, i < 8 → kd (nm i) = (i : Int) := by decide +kernel
theorem nm_ne : ∀ i : Nat, i < 8 → nm i ≠ str_0 := by decide +kernel
/-! ### the counts -/
def dn (d : Bool) : Int := if d then 1 else 0
def km (d : Bool) : List (ByteArray × Int) := if d then MK else []
def cc (X : List Int) (d : Bool) : count_Counts := ⟨T117.ofL X, ⟨⟨dn d⟩, ⟨⟨0, 0⟩⟩⟩, km d⟩
structure XOk (X : List Int) : Prop where
  len : X.length = 8
  rg : ∀ x ∈ X, 0 ≤ x ∧ x ≤ 4611686018427387904
theorem XOk.at {X : List Int} (h : XOk X) {i : Int} (hi : 0 ≤ i ∧ i < 8) : 0 ≤ rd X i ∧ rd X i ≤ 4611686018427387904 := by
  obtain ⟨j, rfl⟩ : ∃ j : Nat, i = j := ⟨i.toNat, by omega⟩
  have := h.len
  rw [rd_at (by omega)]; exact h.rg _ (List.getElem_mem _)
theorem toL_cc {X : List Int} (h : XOk X) (d : Bool) : T117.toL (cc X d).f_l = X := T117.toL_ofL h.len
theorem toL_mk {X : List Int} (h : XOk X) (d : Bool) : T117.toL (⟨⟨(cc X d).f_l.e0.f_v⟩, ⟨(cc X d).f_l.e1.f_v⟩, ⟨(cc X d).f_l.e2.f_v⟩, ⟨(cc X d).f_l.e3.f_v⟩, ⟨(cc X d).f_l.e4.f_v⟩, ⟨(cc X d).f_l.e5.f_v⟩, ⟨(cc X d).f_l.e6.f_v⟩, ⟨(cc X d).f_l.e7.f_v⟩⟩ : T117) = X := T117.toL_ofL h.len
theorem of_eq (k : Nat) {X : List Int} (h : XOk X) (d : Bool) (i : Int) : count_Counts_Of.f k (cc X d) i = some (if 0 ≤ i ∧ i < 8 then (rd X i, none) else (0, some 1)) := by
  unfold count_Counts_Of.f count_kinded.f
  simp only [Option.bind_some, toL_cc h]
  by_cases c : 0 ≤ i ∧ i < 8
  · simp only [decide_eq_true c.1, decide_eq_true c.2, Bool.and_self, Bool.not_true, Bool.false_eq_true, if_false, if_pos c]
  · rw [if_pos, if_neg c]
    simp only [Bool.not_eq_true', Bool.and_eq_false_iff, decide_eq_false_iff_not]; omega
def addS (X : List Int) (i n : Int) : Option Int × List Int := if (0 ≤ i ∧ i < 8) ∧ 0 ≤ n ∧ n ≤ 1073741824 then (if 4611686018427387904 - rd X i < n then (some 10, X) else (none, X.set i.toNat (rd X i + n))) else (some 1, X)
theorem add_ev {X : List Int} (h : XOk X) (d : Bool) (i n : Int) : Ev (fun k => count_Counts_Add.f k (cc X d) i n) ((addS X i n).1, cc (addS X i n).2 d) := by
  unfold count_Counts_Add.f count_kinded.f addS
  simp only [Option.bind_some]
  by_cases c : (0 ≤ i ∧ i < 8) ∧ 0 ≤ n ∧ n ≤ 1073741824
  · have hr := h.at c.1
    simp only [decide_eq_true c.1.1, decide_eq_true c.1.2, Bool.and_self, Bool.not_true, decide_eq_false (show ¬ n < 0 by omega), decide_eq_false (show ¬ 1073741824 < n by omega), Bool.or_self, Bool.false_eq_true, if_false, if_pos c]
    refine Ev.step (fun k => rfl) ?_
    simp only [count_Counts_Add.hs, count_Counts_Add.b0, if_pos c.1, toL_mk h, w64_id (show -9223372036854775808 ≤ 4611686018427387904 - rd X i ∧ 4611686018427387904 - rd X i ≤ 9223372036854775807 by omega)]
    by_cases c2 : 4611686018427387904 - rd X i < n
    · simp only [if_pos c2]; exact Ev.now
    · simp only [if_neg c2, w64_id (show -9223372036854775808 ≤ rd X i + n ∧ rd X i + n ≤ 9223372036854775807 by omega), Option.bind_some]; exact Ev.now
  · have c' : (((!(decide (0 ≤ i) && decide (i < 8))) || decide (n < 0)) || decide (1073741824 < n)) = true := by
      simp only [Bool.or_eq_true, Bool.not_eq_true', Bool.and_eq_false_iff, decide_eq_false_iff_not, decide_eq_true_eq]; omega
    simp only [if_pos c', if_neg c]; exact Ev.now
theorem all_l0 {X : List Int} (h : XOk X) (d : Bool) : ∀ (j i : Nat), 8 = i + j → Ev (fun k => (count_Counts_All.hs k).l0 (cc X d).f_l.e0.f_v (cc X d).f_l.e1.f_v (cc X d).f_l.e2.f_v (cc X d).f_l.e3.f_v (cc X d).f_l.e4.f_v (cc X d).f_l.e5.f_v (cc X d).f_l.e6.f_v (cc X d).f_l.e7.f_v (cc X d).f_once.f_done.f_v (cc X d).f_once.f_m.f_mu.f_state (cc X d).f_once.f_m.f_mu.f_sema (cc X d).f_kinds (X.take i) (i : Int)) X
  | 0, i, e => by
    have := h.len
    refine Ev.step (fun k => rfl) ?_
    simp only [count_Counts_All.hs, count_Counts_All.b0, if_neg (show ¬ (i : Int) < 8 by omega)]
    rw [List.take_of_length_le (by omega)]; exact Ev.now
  | j + 1, i, e => by
    have hl := h.len
    have ih := all_l0 h d j (i + 1) (by omega)
    rw [List.take_succ_eq_append_getElem (by omega)] at ih
    refine Ev.step (fun k => rfl) ?_
    simp only [count_Counts_All.hs, count_Counts_All.b0, if_pos (show (i : Int) < 8 by omega), if_pos (show (0 : Int) ≤ (i : Int) ∧ (i : Int) < 8 by omega), toL_mk h, List.length_take, List.length_cons, List.length_nil, if_pos (show min i X.length + (0 + 1) ≤ 17592186044288 by omega), rd_at (show i < X.length by omega), wsucc (show i < 1000000000 by omega)]
    exact ih
theorem all_ev {X : List Int} (h : XOk X) (d : Bool) : Ev (fun k => count_Counts_All.f k (cc X d)) X := by
  unfold count_Counts_All.f
  simp only [if_pos (show (0 : Int) ≤ 0 ∧ (0 : Int) ≤ 8 ∧ (8 : Int) ≤ 35184372088832 by decide)]
  exact all_l0 h d 8 0 rfl
theorem nums_l0 {a : List Int} (ha : a.length ≤ 1000) : ∀ (d i : Nat), a.length = i + d → Ev (fun k => (radomelaw32_nums.hs k).l0 a a false (i : Int)) true
  | 0, i, e => by
    refine Ev.step (fun k => rfl) ?_
    simp only [radomelaw32_nums.hs, radomelaw32_nums.b0, if_neg (show ¬ (i : Int) < (a.length : Int) by omega)]; exact Ev.now
  | d + 1, i, e => by
    have ih := nums_l0 ha d (i + 1) (by omega)
    refine Ev.step (fun k => rfl) ?_
    simp only [radomelaw32_nums.hs, radomelaw32_nums.b0, if_pos (show (i : Int) < (a.length : Int) by omega), if_pos (show (0 : Int) ≤ (i : Int) ∧ (i : Int) < (a.length : Int) by omega), if_true, wsucc (show i < 1000000000 by omega)]
    exact ih
theorem nums_ev {a : List Int} (ha : a.length ≤ 1000) : Ev (fun k => radomelaw32_nums.f k a a) true := by
  unfold radomelaw32_nums.f
  simp only [if_true]
  exact nums_l0 ha a.length 0 (by omega)
theorem lay_l0 (c : count_Counts) : ∀ (j i : Nat), 8 = i + j → Ev (fun k => (count_Counts_lay.hs k).l0 c.f_l.e0.f_v c.f_l.e1.f_v c.f_l.e2.f_v c.f_l.e3.f_v c.f_l.e4.f_v c.f_l.e5.f_v c.f_l.e6.f_v c.f_l.e7.f_v c.f_once.f_done.f_v c.f_once.f_m.f_mu.f_state c.f_once.f_m.f_mu.f_sema (MK.take i) (i : Int)) ⟨c.f_l, c.f_once, MK⟩
  | 0, i, e => by
    refine Ev.step (fun k => rfl) ?_
    simp only [count_Counts_lay.hs, count_Counts_lay.b0, if_neg (show ¬ (i : Int) < 8 by omega)]
    rw [List.take_of_length_le (show MK.length ≤ i from by show 8 ≤ i; omega)]; exact Ev.now
  | j + 1, i, e => by
    have ih := lay_l0 c j (i + 1) (by omega)
    refine Ev.step (fun k => rfl) ?_
    simp only [count_Counts_lay.hs, count_Counts_lay.b0, if_pos (show (i : Int) < 8 by omega), name_eq, Option.bind_some, nmx, if_pos (show (0 : Int) ≤ (i : Int) ∧ (i : Int) < 8 by omega), mk_put i (by omega), wsucc (show i < 1000000000 by omega)]
    exact ih
theorem do_ev (X : List Int) (d : Bool) : Ev (fun k => count_Do.f k (cc X d)) (cc X true) := by
  unfold count_Do.f
  cases d with
  | true =>
    simp only [show (cc X true).f_once.f_done.f_v = 1 from rfl, if_neg (show ¬ (1 : Int) = 0 by decide)]; exact Ev.now
  | false =>
    simp only [show (cc X false).f_once.f_done.f_v = 0 from rfl, show (cc X false).f_once.f_m.f_mu.f_state = 0 from rfl, if_true]
    refine Ev.bind (g := fun k => count_Counts_lay.f k (once (cc X false) 0 1)) (lay_l0 (once (cc X false) 0 1) 8 0 rfl) ?_
    simp only [show (once (cc X false) 0 1).f_once.f_m.f_mu.f_state = 1 from rfl, if_true]; exact Ev.now
theorem named_ev {X : List Int} (h : XOk X) (d : Bool) (a : ByteArray) : Ev (fun k => count_Counts_Named.f k (cc X d) a) (if 0 ≤ kd a then (rd X (kd a), none, cc X true) else (0, some 8, cc X true)) := by
  unfold count_Counts_Named.f
  refine Ev.bind (do_ev X d) ?_
  simp only [show (cc X true).f_kinds = MK from rfl, kd_has]
  by_cases c : 0 ≤ kd a
  · simp only [decide_eq_true c, Bool.not_true, Bool.false_eq_true, if_false, kd_get c, of_eq _ h, if_pos (And.intro c (kd_lt a)), Option.bind_some, if_pos c]; exact Ev.now
  · simp only [decide_eq_false c, Bool.not_false, if_true, if_neg c]; exact Ev.now
theorem sure_fs : radomelaw32_sure.f 12 = some true := by decide +kernel
theorem sure_ev : Ev (fun k => radomelaw32_sure.f k) true := Ev.of (fun k => radomelaw32_sure.mono k) sure_fs
end Go.Proofs.YtjhpkkhcgpilfaaDoor.Pure
