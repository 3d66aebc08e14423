/- Arrays of numbers in blocks, as slices. -/
import Derived.Test.YtjhpkkhcgpilfaaDoorGTOk17
namespace Go.Proofs.YtjhpkkhcgpilfaaDoorK
open Go Go.RowKit
set_option linter.unusedVariables false
set_option linter.unusedSimpArgs false
theorem rd_all {l : List Int} {n : Nat} (h : l.length = n) : (List.range n).map (fun i : Nat => rd l (i : Int)) = l := by
  subst h
  apply List.ext_getElem (by simp)
  intro i h1 h2
  simp only [List.getElem_map, List.getElem_range]
  unfold rd; rw [Int.toNat_natCast, List.getD_eq_getElem?_getD, List.getElem?_eq_getElem h2]; rfl
theorem cpy_len {α : Type} {xs ys : List α} {a : Int} (h : 0 ≤ a ∧ a ≤ (xs.length : Int)) : (cpy xs a ys).length = xs.length := by
  unfold cpy; simp; omega
theorem reps_int_eq {K : IntKind} {H : Hp} : ∀ {xs : List Int} {cs : List Value}, Reps (Kd.int K) H cs xs → cs = xs.map (Value.int K)
  | [], _, h => h
  | x :: xs, _, ⟨c, r, e, h1, h2⟩ => by rw [e, show c = [.int K x] from h1, reps_int_eq h2]; rfl
section
variable {P : Program} {f : FB} {n : Nat} {k : List Item} {σ : Nat → Value} {H : Hp} {L : Items} {R : Value → Hp → Items → Prop}
/-- An array at a place, as a slice of all of it. -/
abbrev asl (b off m : Nat) : Value := .slice (some ⟨b, off, none⟩) m m
theorem d_acut {t e : TypeId} {x : Operand} {lo hi : Option Operand} {b off m sz : Nat} {p q : Int} (ht : P.underlying t = some (.array m e)) (hsz : (P.info? e).map (·.size) = some sz) (hx : ev n σ x = .pointer (some ⟨b, off, none⟩)) (hlo : (lo = none ∧ p = 0) ∨ ∃ y K, lo = some y ∧ ev n σ y = .int K p) (hhi : (hi = none ∧ q = m) ∨ ∃ y K, hi = some y ∧ ev n σ y = .int K q) (hab : 0 ≤ p ∧ p ≤ q ∧ q ≤ (m : Int)) :
    OpA P n σ H L (.slice t x lo hi none) (Is (cutv sz (asl b off m) p q) H L) := fun o ho => opr_run fun w hw => by
  obtain ⟨h0, hab, hb⟩ := hab
  have hrun : (execOp (ev n σ) o).run P w = .ok (.value (cutv sz (asl b off m) p q)) w := by
    unfold execOp; rw [ho]
    have hbounds : (Instr.sliceBounds false m m (lo.map (ev n σ)) (hi.map (ev n σ)) none).run P w = .ok (p.toNat, q.toNat, m) w := by
      have p1 : p ≤ ((q.toNat : Nat) : Int) := by omega
      have p2 : 0 ≤ q := by omega
      rcases hlo with ⟨rfl, rfl⟩ | ⟨y, K, rfl, e⟩ <;> rcases hhi with ⟨rfl, rfl⟩ | ⟨y', K', rfl, e'⟩ <;> simp [Instr.sliceBounds, Instr.sliceBound, asIntOf, h0, p2, *] <;> omega
    simp [hx, Instr.sliceAt, run_underlying ht, Instr.sureAddr, hbounds, run_sizeOf' hsz, cutv, asl]
    split <;> rfl
  exact ⟨_, w, H, L, .inl hrun, hw, rfl, rfl, rfl⟩
/-- copy(a[p:], y): into an array of a block of its own. -/
theorem o_acopy {K : IntKind} {t tx e : TypeId} {x y : Operand} {v : Value} {b off m : Nat} {T : TypeId} {cs cs' : List Value} {xs ys zs : List Int} {p : Int} {L' : Items} (ht : P.underlying t = some (.slice e)) (hsz : (P.info? e).map (·.size) = some 1) (hx : ev n σ x = cutv 1 (asl b off m) p (m : Int)) (hy : ev n σ y = v) (hv : Src (Kd.int K) H L v ys) (hxs : (cs.drop off).take m = xs.map (Value.int K)) (hm : xs.length = m) (ha : 0 ≤ p ∧ p ≤ (m : Int)) (hz : zs = cpy xs p ys) (hcs : cs' = cs.take off ++ zs.map (Value.int K) ++ cs.drop (off + m))
    (hu : Upd L (some (b, .cells ⟨cs⟩ T (0, 0))) (some (b, .cells ⟨cs'⟩ T (0, 0))) L') :
    OpA P n σ H L (.call { callee := .builtin .copy, args := #[x, y], argTypes := #[t, tx] }) (fun v' H' L'' => v' = .int .i64 (min (ys.length : Int) (m - p)) ∧ H = H' ∧ L'' = L') := fun o ho => opr_run fun w hw => by
  obtain ⟨ha0, ha1⟩ := ha
  obtain ⟨A, c', rfl, hc', hA⟩ := hv
  subst hm
  have hn : Nat.min ys.length (xs.length - p.toNat) ≤ ys.length := Nat.min_le_left _ _
  generalize hq : Nat.min ys.length (xs.length - p.toNat) = q at hn
  have hval : (min (ys.length : Int) (xs.length - p)) = (q : Int) := by
    rw [← hq]; show _ = ((min ys.length (xs.length - p.toNat) : Nat) : Int); omega
  have hq' : q = min ys.length (xs.length - p.toNat) := hq.symm
  have hnc : ∀ a, A = some a → ∀ j v, ((ys.take q).map (Value.int K))[j]? = some v → w.cell? (a.add j) = some v := by
    rcases hA with rfl | ⟨a, inner, rfl, _, h4, h5⟩
    · simp
    · intro a' e j v hj
      cases e
      rw [reps_int_eq h5] at h4
      refine h4 w hw j v ?_
      rw [← hj, List.map_take, List.getElem?_take]
      split
      · rfl
      · rename_i hlt
        rw [List.map_take, List.getElem?_take, if_neg hlt] at hj; cases hj
  have hnA : q * 1 = 0 ∨ A.isSome = true := by
    rcases hA with rfl | ⟨a, inner, rfl, _, h4, h5⟩
    · left; simp at hn; omega
    · right; rfl
  have hnl : ((ys.take q).map (Value.int K)).length = q * 1 := by simp; omega
  have hone : ∀ v ∈ (ys.take q).map (Value.int K), v.oneCell' = true := by
    intro v hv; obtain ⟨z, _, rfl⟩ := List.mem_map.1 hv; rfl
  have hcl : off + xs.length ≤ cs.length ∨ xs.length = 0 := by
    have := congrArg List.length hxs
    simp at this; omega
  have hoff : off + p.toNat + 0 + ((ys.take q).map (Value.int K)).length ≤ (⟨cs⟩ : Array Value).size ∨ xs.length = 0 := by
    rcases hcl with h | h
    · left; rw [hnl]; show _ ≤ cs.length; omega
    · exact .inr h
  have hb := (hw.has hu.has).2
  have hf : (Builtin.firstCells 1 q (.slice A ys.length c')).run P w = .ok ⟨(ys.take q).map (Value.int K)⟩ w := by
    have := run_firstCells (P := P) (w := w) (size := 1) (m := q) (c := c') (A := A) hnl hnA hnc
    cases A <;> exact this
  have hbv : cutv 1 (asl b off xs.length) p (xs.length : Int) = .slice (some (if xs.length = p.toNat then ⟨b, off, none⟩ else ⟨b, off + p.toNat, none⟩)) (xs.length - p.toNat) (xs.length - p.toNat) := by
    simp only [cutv, asl, Int.toNat_natCast]
    split
    · rfl
    · simp only [Option.map_some]; rw [addr_add rfl, Nat.mul_one]
  rw [hbv] at hx
  by_cases hca : xs.length = p.toNat
  · have hm0 : q = 0 := by rw [hq']; omega
    subst hm0
    rw [if_pos hca] at hx
    have hzz : zs = xs := by rw [hz]; unfold cpy; rw [← hca]; simp
    have hcc : cs' = cs := by
      rw [hcs, hzz, ← hxs, List.append_assoc]
      conv => rhs; rw [← List.take_append_drop off cs]
      congr 1
      rw [← List.drop_drop]; exact List.take_append_drop _ _
    subst hcc
    refine ⟨_, w, H, _, .inl ?_, hw.put hu rfl rfl rfl hb (fun q _ hq => rfl), by rw [hval], rfl, rfl⟩
    unfold execOp; rw [ho]
    simp at hf
    simp [hx, hy, resolve, invoke, builtin, Builtin.copy_, run_underlying ht, Builtin.lenOf, run_sizeOf' hsz, hq, hf, storeCells, goInt]
  · have hoff := hoff.resolve_right (by omega)
    have hcl := hcl.resolve_right (by omega)
    obtain ⟨w', h6, h7, h8, h9, h10, h11⟩ := run_storeCells (P := P) (off := off + p.toNat) ((ys.take q).map (Value.int K)) 0 ⟨cs⟩ w hb hoff hone
    rw [if_neg hca] at hx
    refine ⟨_, w', H, _, .inl ?_, hw.put hu h7 h8 h9 ?_ fun c _ hc => h11 c hc, by rw [hval], rfl, rfl⟩
    · unfold execOp; rw [ho]
      rw [List.map_take] at h6 hf
      simp [hx, hy, resolve, invoke, builtin, Builtin.copy_, run_underlying ht, Builtin.lenOf, run_sizeOf' hsz, hq, hf, h6, goInt]
    · rw [h10]
      congr 3
      rw [hcs, hz, hnl]
      have e1 : cs = cs.take off ++ (xs.map (Value.int K) ++ cs.drop (off + xs.length)) := by
        conv => lhs; rw [← List.take_append_drop off cs]
        congr 1
        rw [← hxs, ← List.drop_drop]; exact (List.take_append_drop _ _).symm
      have l1 : (cs.take off).length = off := by simp; omega
      have e2 : cs.take (off + p.toNat + 0) = cs.take off ++ (xs.take p.toNat).map (Value.int K) := by
        conv => lhs; rw [e1]
        rw [List.take_append, l1, List.take_of_length_le (by rw [l1]; omega), show off + p.toNat + 0 - off = p.toNat by omega, List.take_append_of_le_length (by simp; omega), List.map_take]
      have e3 : cs.drop (off + p.toNat + 0 + q * 1) = (xs.drop (p.toNat + q)).map (Value.int K) ++ cs.drop (off + xs.length) := by
        conv => lhs; rw [e1]
        rw [List.drop_append, l1, List.drop_eq_nil_of_le (by rw [l1]; omega), List.nil_append, show off + p.toNat + 0 + q * 1 - off = p.toNat + q by omega, List.drop_append_of_le_length (by simp; omega), List.map_drop]
      rw [e2, e3]
      unfold cpy
      have e4 : ys.take (xs.length - p.toNat) = ys.take q := by
        rw [hq']
        rcases Nat.le_total ys.length (xs.length - p.toNat) with h | h
        · rw [Nat.min_eq_left h, List.take_of_length_le h, List.take_of_length_le (Nat.le_refl _)]
        · rw [Nat.min_eq_right h]
      have e5 : xs.drop (p.toNat + ys.length) = xs.drop (p.toNat + q) := by
        rw [hq']
        rcases Nat.le_total ys.length (xs.length - p.toNat) with h | h
        · rw [Nat.min_eq_left h]
        · rw [Nat.min_eq_right h, List.drop_eq_nil_of_le (by omega), List.drop_eq_nil_of_le (by omega)]
      rw [e4, e5]
      simp only [List.map_append, List.append_assoc]
end
/-! ### a map in a struct, that may be nil -/
def MpN {α β : Type} [DecidableEq α] (mk : Mk α β) (H : Hp) (T : TypeId) (it : Item') (v : Value) (m : List (α × β)) : Prop := (it = none ∧ v = .map none ∧ m = []) ∨ Mp mk H T it v m
theorem MpN.mono {α β : Type} [DecidableEq α] {mk : Mk α β} {H H' : Hp} {T it v m} (h : MpN mk H T it v m) (_ : H.le H') : MpN mk H' T it v m := h
theorem mpn_of {α β : Type} [DecidableEq α] {mk : Mk α β} {H : Hp} {T it v m} (h : Mp mk H T it v m) : MpN mk H T it v m := .inr h
theorem MpN.cells {α β : Type} [DecidableEq α] {mk : Mk α β} {H : Hp} {T it v m} (h : MpN mk H T it v m) : v.cells = ⟨[v]⟩ := by
  rcases h with ⟨_, rfl, _⟩ | ⟨b, es, c, _, rfl, _⟩ <;> rfl
theorem MpN.one {α β : Type} [DecidableEq α] {mk : Mk α β} {H : Hp} {T it v m} (h : MpN mk H T it v m) : v.oneCell' = true := by
  rcases h with ⟨_, rfl, _⟩ | ⟨b, es, c, _, rfl, _⟩ <;> rfl
theorem Mp.cells {α β : Type} [DecidableEq α] {mk : Mk α β} {H : Hp} {T it v m} (h : Mp mk H T it v m) : v.cells = ⟨[v]⟩ := (mpn_of h).cells
theorem Mp.one {α β : Type} [DecidableEq α] {mk : Mk α β} {H : Hp} {T it v m} (h : Mp mk H T it v m) : v.oneCell' = true := (mpn_of h).one
section
variable {α β : Type} [DecidableEq α] {P : Program} {n : Nat} {σ : Nat → Value} {H : Hp} {L : Items}
end
theorem in_set {α : Type} {xs : List α} {i : Int} {j : Nat} {z : α} (h : In xs i) : In (xs.set j z) i := ⟨h.1, by rw [List.length_set]; exact h.2⟩
theorem get_rd {α : Type} [Inhabited α] {xs : List α} {i : Int} (h : In xs i) : xs[i.toNat]? = some (rd xs i) := by
  have hlt : i.toNat < xs.length := by have := h.1; have := h.2; omega
  unfold rd; rw [List.getD_eq_getElem?_getD, List.getElem?_eq_getElem hlt]; rfl
end Go.Proofs.YtjhpkkhcgpilfaaDoorK
