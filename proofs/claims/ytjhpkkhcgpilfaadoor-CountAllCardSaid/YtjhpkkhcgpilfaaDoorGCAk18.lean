/- Arrays of numbers in blocks, as slices. -/
import Derived.Test.YtjhpkkhcgpilfaaDoorGCAk17
namespace Go.Proofs.YtjhpkkhcgpilfaaDoorK
open Go Go.RowKit
set_option linter.unusedVariables false
set_option linter.unusedSimpArgs false
theorem rd_all {l : List Int} {n : Nat} (h : l.length = n) : (List.range n).map (fun i : Nat => rd l (i : Int)) = l := by
  subst h
  apply List.ext_getElem (by simp)
  intro i h1 h2
  simp only [List.getElem_map, List.getElem_range]
  unfold rd; rw [Int.toNat_natCast, List.getD_eq_getElem?_getD, List.getElem?_eq_getElem h2]; rfl
section
variable {P : Program} {f : FB} {n : Nat} {k : List Item} {σ : Nat → Value} {H : Hp} {L : Items} {R : Value → Hp → Items → Prop}
end
theorem map_var {K : IntKind} {m off : Nat} {cs : List Value} {xs : List Int} {i : Int} (hx : (cs.drop off).take m = xs.map (Value.int K)) (hi : 0 ≤ i ∧ i < (xs.length : Int)) : ((cs.drop off).take m)[i.toNat]? = some (.int K (rd xs i)) := by
  rw [hx, List.getElem?_map]
  have hlt : i.toNat < xs.length := by omega
  unfold rd; rw [List.getD_eq_getElem?_getD, List.getElem?_eq_getElem hlt]; rfl
theorem get_var {K : IntKind} {m off : Nat} {cs : List Value} {xs : List Int} {i : Int} (hx : (cs.drop off).take m = xs.map (Value.int K)) (hi : 0 ≤ i ∧ i < (xs.length : Int)) : cs[off + i.toNat]? = some (.int K (rd xs i)) := by
  have h := map_var hx hi
  rw [List.getElem?_take] at h
  split at h
  · rw [List.getElem?_drop] at h; exact h
  · cases h
theorem lies_var {K : IntKind} {H : Hp} {L : Items} {b m off : Nat} {cs : List Value} {xs : List Int} {i : Int} (h : Lies H L ⟨b, 0, none⟩ cs) (hx : (cs.drop off).take m = xs.map (Value.int K)) (hi : 0 ≤ i ∧ i < (xs.length : Int)) : Lies H L ⟨b, off + i.toNat, none⟩ [.int K (rd xs i)] := fun w hw j c hj => by
  cases j with
  | succ j => simp at hj
  | zero =>
    have e : c = .int K (rd xs i) := by simpa using hj.symm
    subst e
    have := h w hw (off + i.toNat) _ (get_var hx hi)
    rw [addr_add rfl] at this ⊢
    rw [Nat.zero_add] at this; exact this
theorem setl_of {vs : List Value} : ∀ {cs cs' : List Value} {off : Nat}, off + vs.length ≤ cs.length → cs' = cs.take off ++ vs ++ cs.drop (off + vs.length) → SetL cs off vs cs' := by
  intro cs
  induction cs generalizing vs with
  | nil =>
    intro cs' off h e
    have h0 : off + vs.length = 0 := by simpa using h
    have h1 : off = 0 := by omega
    have h2 : vs = [] := List.eq_nil_of_length_eq_zero (by omega)
    subst h1; subst h2; subst e; exact .done
  | cons c l ih =>
    intro cs' off h e
    cases off with
    | succ off => subst e; simp only [List.take_succ_cons, List.cons_append, show off + 1 + vs.length = (off + vs.length) + 1 by omega, List.drop_succ_cons]; exact .there (ih (by simp at h; omega) rfl)
    | zero =>
      cases vs with
      | nil => subst e; simp; exact .done
      | cons v vs => subst e; simp only [List.take_zero, List.nil_append, Nat.zero_add, List.length_cons, List.drop_succ_cons, List.cons_append]; exact .here (ih (by simp at h ⊢; omega) (by simp))
theorem setl_var {K : IntKind} {m off : Nat} {cs cs' : List Value} {xs zs : List Int} {i z : Int} (hz : zs = xs.set i.toNat z) (hx : (cs.drop off).take m = xs.map (Value.int K)) (hm : xs.length = m) (hi : 0 ≤ i ∧ i < (xs.length : Int)) (hcs : cs = cs.take off ++ xs.map (Value.int K) ++ cs.drop (off + m)) (hcs' : cs' = cs.take off ++ zs.map (Value.int K) ++ cs.drop (off + m)) : SetL cs (off + i.toNat) [.int K z] cs' := by
  have hlt : i.toNat < xs.length := by omega
  have hl := congrArg List.length hx
  simp at hl
  have l1 : (cs.take off).length = off := by simp; omega
  refine setl_of (by simp; omega) ?_
  rw [hcs', hz]
  have e2 : cs.take (off + i.toNat) = cs.take off ++ (xs.take i.toNat).map (Value.int K) := by
    conv => lhs; rw [hcs, List.append_assoc]
    rw [List.take_append, l1, List.take_of_length_le (by rw [l1]; omega), show off + i.toNat - off = i.toNat by omega, List.take_append_of_le_length (by simp; omega), List.map_take]
  have e3 : cs.drop (off + i.toNat + [Value.int K z].length) = (xs.drop (i.toNat + 1)).map (Value.int K) ++ cs.drop (off + m) := by
    conv => lhs; rw [hcs, List.append_assoc]
    rw [List.drop_append, l1, List.drop_eq_nil_of_le (by rw [l1]; simp; omega), List.nil_append, show off + i.toNat + [Value.int K z].length - off = i.toNat + 1 by simp; omega, List.drop_append_of_le_length (by simp; omega), List.map_drop]
  rw [e2, e3, List.set_eq_take_append_cons_drop, if_pos hlt]
  simp [List.map_append, List.append_assoc]
theorem idx_vars {xs : List ByteArray} {i : Int} (h : 0 ≤ i ∧ i < (xs.length : Int)) : ((xs.map Value.string).drop (i.toNat * 1)).take 1 = [.string (rd xs i)] := by
  obtain ⟨j, rfl⟩ : ∃ j : Nat, (j : Int) = i := ⟨i.toNat, by omega⟩
  have hj : j < xs.length := by omega
  rw [Int.toNat_natCast, Nat.mul_one, ← List.map_drop, List.drop_eq_getElem_cons hj, List.map_cons]
  unfold rd
  rw [Int.toNat_natCast, List.getD_eq_getElem?_getD, List.getElem?_eq_getElem hj]; rfl
/-! ### a map in a struct, that may be nil -/
def MpN {α β : Type} [DecidableEq α] (mk : Mk α β) (H : Hp) (T : TypeId) (it : Item') (v : Value) (m : List (α × β)) : Prop := (it = none ∧ v = .map none ∧ m = []) ∨ Mp mk H T it v m
theorem MpN.mono {α β : Type} [DecidableEq α] {mk : Mk α β} {H H' : Hp} {T it v m} (h : MpN mk H T it v m) (_ : H.le H') : MpN mk H' T it v m := h
theorem mpn_nil {α β : Type} [DecidableEq α] (mk : Mk α β) (H : Hp) (T : TypeId) : MpN mk H T none (.map none) [] := .inl ⟨rfl, rfl, rfl⟩
theorem mpn_of {α β : Type} [DecidableEq α] {mk : Mk α β} {H : Hp} {T it v m} (h : Mp mk H T it v m) : MpN mk H T it v m := .inr h
theorem MpN.cells {α β : Type} [DecidableEq α] {mk : Mk α β} {H : Hp} {T it v m} (h : MpN mk H T it v m) : v.cells = ⟨[v]⟩ := by
  rcases h with ⟨_, rfl, _⟩ | ⟨b, es, c, _, rfl, _⟩ <;> rfl
theorem MpN.one {α β : Type} [DecidableEq α] {mk : Mk α β} {H : Hp} {T it v m} (h : MpN mk H T it v m) : v.oneCell' = true := by
  rcases h with ⟨_, rfl, _⟩ | ⟨b, es, c, _, rfl, _⟩ <;> rfl
theorem Mp.cells {α β : Type} [DecidableEq α] {mk : Mk α β} {H : Hp} {T it v m} (h : Mp mk H T it v m) : v.cells = ⟨[v]⟩ := (mpn_of h).cells
theorem Mp.one {α β : Type} [DecidableEq α] {mk : Mk α β} {H : Hp} {T it v m} (h : Mp mk H T it v m) : v.oneCell' = true := (mpn_of h).one
section
variable {α β : Type} [DecidableEq α] {P : Program} {n : Nat} {σ : Nat → Value} {H : Hp} {L : Items}
theorem d_lookup2N {mk : Mk α β} {t kt et T : TypeId} {x y : Operand} {v : Value} {a : α} {d : β} {it : Item'} {m : List (α × β)} (ht : P.underlying t = some (.map kt et)) (hk : P.underlying kt = some mk.kk) (hz : (P.info? et).bind (·.zero) = some (mk.val d)) (hx : ev n σ x = v) (hy : ev n σ y = mk.key a) (hm : MpN mk H T it v m) (hL : Has L it) :
    OpA P n σ H L (.lookup t x y true) (Is (.tuple ⟨[mk.val (mget m a d), .bool (mhas m a)]⟩) H L) := by
  rcases hm with ⟨rfl, rfl, rfl⟩ | hm
  · refine opA_det fun o ho w hw => ?_
    unfold execOp; rw [ho]
    simp [hx, hy, Instr.lookup, run_underlying ht, mk.chk _ _ _ _ _ hk, Instr.findKey, run_underlying hk, Instr.findNow, run_zeroValue hz, mget, mhas]
  · exact d_lookup2 ht hk hz hx hy hm hL
end
end Go.Proofs.YtjhpkkhcgpilfaaDoorK
