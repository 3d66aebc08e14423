/- CountAll: two Counts, in two orders, come to the same. -/
import Derived.Test.YtjhpkkhcgpilfaaDoorPureCB1
namespace Go.Proofs.YtjhpkkhcgpilfaaDoor.Pure
open Go.RowKit Go.Proofs.YtjhpkkhcgpilfaaDoorK Go.Proofs.YtjhpkkhcgpilfaaDoor.GCA
set_option linter.unusedVariables false
set_option linter.unusedSimpArgs false
set_option maxRecDepth 100000
def okA (a : radomelaw32_Act) : Prop := (0 ≤ a.f_Kind ∧ a.f_Kind < 8) ∧ 0 ≤ a.f_N ∧ a.f_N ≤ 1073741824
instance (a : radomelaw32_Act) : Decidable (okA a) := by unfold okA; infer_instance
def one (a : radomelaw32_Act) (j : Nat) : Int := if okA a ∧ a.f_Kind = (j : Int) then a.f_N else 0
def tot : List radomelaw32_Act → Nat → Int
  | [], _ => 0
  | a :: r, j => one a j + tot r j
theorem one_range (a : radomelaw32_Act) (j : Nat) : 0 ≤ one a j ∧ one a j ≤ 1073741824 := by
  unfold one; split
  · rename_i h; exact h.1.2
  · decide
theorem tot_range (j : Nat) : ∀ L : List radomelaw32_Act, 0 ≤ tot L j ∧ tot L j ≤ 1073741824 * (L.length : Int)
  | [] => ⟨Int.le_refl 0, Int.le_refl 0⟩
  | a :: r => by
    have h1 := one_range a j
    have h2 := tot_range j r
    unfold tot; rw [List.length_cons]; omega
theorem tot_append (j : Nat) (M : List radomelaw32_Act) : ∀ L : List radomelaw32_Act, tot (L ++ M) j = tot L j + tot M j
  | [] => by show tot M j = 0 + tot M j; omega
  | a :: r => by
    show one a j + tot (r ++ M) j = one a j + tot r j + tot M j
    rw [tot_append j M r]; omega
theorem tot_reverse (j : Nat) : ∀ L : List radomelaw32_Act, tot L.reverse j = tot L j
  | [] => rfl
  | a :: r => by
    rw [List.reverse_cons, tot_append, tot_reverse j r]
    show tot r j + (one a j + 0) = one a j + tot r j
    omega
def TX (L : List radomelaw32_Act) : List Int := (List.range 8).map fun j : Nat => tot L j
theorem TX_ok {L : List radomelaw32_Act} (h : L.length ≤ 60) : XOk (TX L) := by
  refine ⟨by unfold TX; simp, fun x hx => ?_⟩
  unfold TX at hx
  obtain ⟨j, _, rfl⟩ := List.mem_map.1 hx
  have := tot_range j L; omega
theorem TX_rd (L : List radomelaw32_Act) {j : Nat} (h : j < 8) : rd (TX L) (j : Int) = tot L j := by
  have hl : j < (TX L).length := by unfold TX; simp; omega
  rw [rd_at hl]
  show ((List.range 8).map fun j : Nat => tot L j)[j]'(by simpa using h) = tot L j
  rw [List.getElem_map, List.getElem_range]
theorem add_tx {L : List radomelaw32_Act} (h : L.length ≤ 60) (a : radomelaw32_Act) : addS (TX L) a.f_Kind a.f_N = (if okA a then none else some 1, TX (a :: L)) := by
  have hone : ∀ q : Nat, tot (a :: L) q = one a q + tot L q := fun _ => rfl
  by_cases c : okA a
  · have c' := c; unfold okA at c'
    obtain ⟨j, hj⟩ : ∃ j : Nat, a.f_Kind = (j : Int) := ⟨a.f_Kind.toNat, by omega⟩
    have hr := tot_range j L
    unfold addS
    rw [if_pos c', if_pos c, hj, TX_rd L (by omega), if_neg (by omega), Int.toNat_natCast]
    refine congrArg (Prod.mk none) ?_
    apply List.ext_getElem
    · rw [List.length_set]; unfold TX; simp
    · intro q h1 h2
      have hq : q < 8 := by unfold TX at h2; simpa using h2
      rw [List.getElem_set]
      unfold TX
      simp only [List.getElem_map, List.getElem_range, hone]
      unfold one
      by_cases e : j = q
      · subst e; rw [if_pos rfl, if_pos ⟨c, hj⟩]; omega
      · rw [if_neg e, if_neg (fun x => e (by have := x.2; omega))]; omega
  · unfold addS
    rw [if_neg (show ¬ ((0 ≤ a.f_Kind ∧ a.f_Kind < 8) ∧ 0 ≤ a.f_N ∧ a.f_N ≤ 1073741824) from c), if_neg c]
    refine congrArg (Prod.mk (some 1)) ?_
    unfold TX
    refine List.map_congr_left fun j _ => ?_
    rw [hone]; unfold one; rw [if_neg (fun x => c x.1)]; omega
theorem TX_rev (L : List radomelaw32_Act) : TX L.reverse = TX L := by
  unfold TX
  exact List.map_congr_left fun j _ => tot_reverse j L
theorem ca_l1 {X : List Int} (h : XOk X) (f : Bool) : ∀ (j i : Nat) (d : Bool), 8 = i + j →
    Ev (fun k => (radomelaw32_CountAll.hs k).l1 false (cc X d).f_l.e0.f_v (cc X d).f_l.e1.f_v (cc X d).f_l.e2.f_v (cc X d).f_l.e3.f_v (cc X d).f_l.e4.f_v (cc X d).f_l.e5.f_v (cc X d).f_l.e6.f_v (cc X d).f_l.e7.f_v (cc X d).f_once.f_done.f_v (cc X d).f_once.f_m.f_mu.f_state (cc X d).f_once.f_m.f_mu.f_sema (cc X d).f_kinds (cc X f).f_l.e0.f_v (cc X f).f_l.e1.f_v (cc X f).f_l.e2.f_v (cc X f).f_l.e3.f_v (cc X f).f_l.e4.f_v (cc X f).f_l.e5.f_v (cc X f).f_l.e6.f_v (cc X f).f_l.e7.f_v (cc X f).f_once.f_done.f_v (cc X f).f_once.f_m.f_mu.f_state (cc X f).f_once.f_m.f_mu.f_sema (cc X f).f_kinds (i : Int)) true
  | 0, i, d, e => by
    have hl := h.len
    refine Ev.step (fun k => rfl) ?_
    simp only [radomelaw32_CountAll.hs, radomelaw32_CountAll.b1, if_neg (show ¬ (i : Int) < 8 by omega)]
    refine Ev.bind (all_ev h d) ?_
    refine Ev.bind (all_ev h f) ?_
    refine Ev.bind (nums_ev (by omega)) ?_
    simp only [gdt]
    refine Ev.bind (all_ev h d) ?_
    simp only [hl, decide_eq_true (show ((8 : Nat) : Int) = 8 from rfl), Bool.and_self, gdt, Bool.true_and]
    exact Ev.bind sure_ev Ev.now
  | j + 1, i, d, e => by
    have ih := ca_l1 h f j (i + 1) true (by omega)
    have hi : (0 : Int) ≤ (i : Int) ∧ (i : Int) < 8 := by omega
    have hk := kd_nm i (by omega)
    have hne := nm_ne i (by omega)
    have hn := named_ev h d (nm (i : Int))
    rw [hk, if_pos hi.1] at hn
    refine Ev.step (fun k => rfl) ?_
    simp only [radomelaw32_CountAll.hs, radomelaw32_CountAll.b1, if_pos hi.2, name_eq, nmx, if_pos hi, Option.bind_some]
    refine Ev.bind hn ?_
    simp only [of_eq _ h, if_pos hi, Option.bind_some, Option.isSome_none, decide_true, Bool.not_true, Bool.or_self, Bool.not_false, gdt, decide_eq_false hne, Bool.false_eq_true, if_false, wsucc (show i < 1000000000 by omega)]
    exact ih
theorem ca_l0 (l : List radomelaw32_Act) (n : Nat) (hn : n = min l.length 60) : ∀ (j i : Nat), n = i + j →
    Ev (fun k => (radomelaw32_CountAll.hs k).l0 l false (cc (TX (l.take i).reverse) false).f_l.e0.f_v (cc (TX (l.take i).reverse) false).f_l.e1.f_v (cc (TX (l.take i).reverse) false).f_l.e2.f_v (cc (TX (l.take i).reverse) false).f_l.e3.f_v (cc (TX (l.take i).reverse) false).f_l.e4.f_v (cc (TX (l.take i).reverse) false).f_l.e5.f_v (cc (TX (l.take i).reverse) false).f_l.e6.f_v (cc (TX (l.take i).reverse) false).f_l.e7.f_v (cc (TX (l.take i).reverse) false).f_once.f_done.f_v (cc (TX (l.take i).reverse) false).f_once.f_m.f_mu.f_state (cc (TX (l.take i).reverse) false).f_once.f_m.f_mu.f_sema (cc (TX (l.take i).reverse) false).f_kinds (cc (TX ((l.take n).drop (n - i))) false).f_l.e0.f_v (cc (TX ((l.take n).drop (n - i))) false).f_l.e1.f_v (cc (TX ((l.take n).drop (n - i))) false).f_l.e2.f_v (cc (TX ((l.take n).drop (n - i))) false).f_l.e3.f_v (cc (TX ((l.take n).drop (n - i))) false).f_l.e4.f_v (cc (TX ((l.take n).drop (n - i))) false).f_l.e5.f_v (cc (TX ((l.take n).drop (n - i))) false).f_l.e6.f_v (cc (TX ((l.take n).drop (n - i))) false).f_l.e7.f_v (cc (TX ((l.take n).drop (n - i))) false).f_once.f_done.f_v (cc (TX ((l.take n).drop (n - i))) false).f_once.f_m.f_mu.f_state (cc (TX ((l.take n).drop (n - i))) false).f_once.f_m.f_mu.f_sema (cc (TX ((l.take n).drop (n - i))) false).f_kinds (i : Int)) true
  | 0, i, e => by
    obtain rfl : i = n := by omega
    have c' : ¬ ((decide ((i : Int) < (l.length : Int))) && (decide ((i : Int) < 60))) = true := by
      simp only [Bool.and_eq_true, decide_eq_true_eq]; omega
    refine Ev.step (fun k => rfl) ?_
    simp only [radomelaw32_CountAll.hs, radomelaw32_CountAll.b0, if_neg c']
    rw [Nat.sub_self, List.drop_zero, TX_rev]
    exact ca_l1 (TX_ok (by rw [List.length_take]; omega)) false 8 0 false rfl
  | j + 1, i, e => by
    have ih := ca_l0 l n hn j (i + 1) (by omega)
    have hi : i < l.length := by omega
    have hm : n - (i + 1) < (l.take n).length := by rw [List.length_take]; omega
    have hq : n - (i + 1) < l.length := by omega
    have e1 : (l.take (i + 1)).reverse = l[i] :: (l.take i).reverse := by
      rw [List.take_succ_eq_append_getElem hi, List.reverse_append]; rfl
    have e2 : (l.take n).drop (n - (i + 1)) = l[n - (i + 1)] :: (l.take n).drop (n - i) := by
      rw [List.drop_eq_getElem_cons hm, show n - (i + 1) + 1 = n - i by omega, List.getElem_take]
    have l1 : ((l.take i).reverse).length ≤ 60 := by rw [List.length_reverse, List.length_take]; omega
    have l2 : ((l.take n).drop (n - i)).length ≤ 60 := by rw [List.length_drop, List.length_take]; omega
    have a1 := add_ev (TX_ok l1) false l[i].f_Kind l[i].f_N
    have a2 := add_ev (TX_ok l2) false l[n - (i + 1)].f_Kind l[n - (i + 1)].f_N
    rw [add_tx l1, ← e1] at a1
    rw [add_tx l2, ← e2] at a2
    have hb : (0 : Int) ≤ (i : Int) ∧ (i : Int) < (l.length : Int) := by omega
    have c' : ((decide ((i : Int) < (l.length : Int))) && (decide ((i : Int) < 60))) = true := by
      simp only [Bool.and_eq_true, decide_eq_true_eq]; omega
    have hw : w64 (w64 (min (l.length : Int) 60 - 1) - (i : Int)) = ((n - (i + 1) : Nat) : Int) := by
      rw [w64_id (show -9223372036854775808 ≤ min (l.length : Int) 60 - 1 ∧ min (l.length : Int) 60 - 1 ≤ 9223372036854775807 by omega), w64_id (by omega)]; omega
    have hb2 : (0 : Int) ≤ ((n - (i + 1) : Nat) : Int) ∧ ((n - (i + 1) : Nat) : Int) < (l.length : Int) := by omega
    refine Ev.step (fun k => rfl) ?_
    simp only [radomelaw32_CountAll.hs, radomelaw32_CountAll.b0, if_pos c', if_pos hb, hw, if_pos hb2, rd_at hi, rd_at hq, wsucc (show i < 1000000000 by omega)]
    refine Ev.bind a1 ?_
    refine Ev.bind a2 ?_
    have no : ∀ a : radomelaw32_Act, ((if okA a then none else some 1 : Option Int).isSome && !decide (errN (if okA a then none else some 1) = 1)) = false := by
      intro a; split
      · rfl
      · rfl
    simp only [no, Bool.or_self, Bool.false_eq_true, if_false]
    exact ih
theorem CountAll : radomelaw32_CountAll.Pure := by
  intro l h1
  refine Ev.ex ?_
  unfold radomelaw32_CountAll.f
  simp only [count_New.f, Option.bind_some]
  have := ca_l0 l (min l.length 60) rfl (min l.length 60) 0 (by omega)
  rw [List.take_zero, Nat.sub_zero, List.drop_of_length_le (by rw [List.length_take]; omega)] at this
  exact this
end Go.Proofs.YtjhpkkhcgpilfaaDoor.Pure
