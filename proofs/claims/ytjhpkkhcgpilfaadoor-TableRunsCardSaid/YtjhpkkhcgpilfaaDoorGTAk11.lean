/- Pointers that are lent, nil pointers, parts of own slices that stay own, maps. -/
import Derived.Test.YtjhpkkhcgpilfaaDoorGTAk10
namespace Go.Proofs.YtjhpkkhcgpilfaaDoorK
open Go Go.RowKit
set_option linter.unusedVariables false
set_option linter.unusedSimpArgs false
theorem Lies.mono {H H' : Hp} {L a cs} (h : Lies H L a cs) (hle : H.le H') : Lies H' L a cs := fun w hw => h w (hw.lower hle)
theorem Lies.th {H : Hp} {it : Item'} {L a cs} (h : Lies H L a cs) : Lies H (it :: L) a cs := fun w hw => h w hw.tail
theorem lies_own {H : Hp} {L : Items} {b : Nat} {cs : List Value} {T : TypeId} {fz} (hm : Has L (some (b, .cells ⟨cs⟩ T fz))) : Lies H L ⟨b, 0, none⟩ cs := by
  have := lies_box (H := H) hm 0 cs.length
  rwa [List.drop_zero, List.take_length] at this
section
variable {P : Program} {f : FB} {n : Nat} {k : List Item} {σ : Nat → Value} {H : Hp} {L : Items} {R : Value → Hp → Items → Prop}
theorem d_loadl {t : TypeId} {x : Operand} {agg : Bool} {sz b off : Nat} {cs cs' : List Value} {v : Value} (ht : TyA P t agg sz) (hx : ev n σ x = .pointer (some ⟨b, off, none⟩)) (hc : Lies H L ⟨b, 0, none⟩ cs) (hcs : (cs.drop off).take sz = cs') (hl : Nat.beq cs'.length sz = true) (h1 : (agg || Nat.beq sz 1) = true) (hv : vof agg cs' = v) :
    OpA P n σ H L (.load t x) (Is v H L) := by
  refine d_load ht hx (Nat.eq_of_beq_eq_true hl) (fun e => by rw [e] at h1; exact Nat.eq_of_beq_eq_true h1) ?_ hv
  subst hcs
  have := hc.part off sz
  rwa [addr_add rfl, Nat.zero_add] at this
theorem run_eqp {t e : TypeId} (ht : P.underlying t = some (.pointer e)) (a : Option Addr) (w : World) : (Op.equal t (.pointer a) (.pointer none)).run P w = .ok a.isNone w := by
  show (Op.equalIn (9999 + 1) t _ _).run P w = _
  rw [Op.equalIn]; cases a <;> simp [run_underlying ht]
theorem d_eqptr {t ty e : TypeId} {x y : Operand} {a : Option Addr} (ht : P.underlying t = some (.pointer e)) (hx : ev n σ x = .pointer a) (hy : ev n σ y = .pointer none) : OpA P n σ H L (.binOp .eql t x y ty) (Is (.bool a.isNone) H L) := opA_any fun o ho w => by
  unfold execOp; rw [ho]; simp [hx, hy, eqGuard, binOp, run_eqp ht a w]
theorem d_neptr {t ty e : TypeId} {x y : Operand} {a : Option Addr} (ht : P.underlying t = some (.pointer e)) (hx : ev n σ x = .pointer a) (hy : ev n σ y = .pointer none) : OpA P n σ H L (.binOp .neq t x y ty) (Is (.bool (!a.isNone)) H L) := opA_any fun o ho w => by
  unfold execOp; rw [ho]; simp [hx, hy, eqGuard, binOp, run_eqp ht a w]
theorem d_andt {c x y : Operand} {b : Bool} {u : Value} (hc : ev n σ c = .bool b) (hx : ev n σ x = cond b (.bool true) u) (hy : ev n σ y = .bool false) : OpA P n σ H L (.pick c x y) (Is (.bool b) H L) := by
  have := d_and' (P := P) (H := H) (L := L) hc hx hy; rwa [Bool.and_true] at this
theorem d_andf {c x y : Operand} {b : Bool} {u : Value} (hc : ev n σ c = .bool b) (hx : ev n σ x = cond b (.bool false) u) (hy : ev n σ y = .bool false) : OpA P n σ H L (.pick c x y) (Is (.bool false) H L) := by
  have := d_and' (P := P) (H := H) (L := L) hc hx hy; rwa [Bool.and_false] at this
theorem d_ort {c x y : Operand} {b : Bool} {u : Value} (hc : ev n σ c = .bool b) (hx : ev n σ x = .bool true) (hy : ev n σ y = cond (!b) (.bool true) u) : OpA P n σ H L (.pick c x y) (Is (.bool true) H L) := by
  have := d_or' (P := P) (H := H) (L := L) hc hx hy; rwa [Bool.or_true] at this
theorem d_orf {c x y : Operand} {b : Bool} {u : Value} (hc : ev n σ c = .bool b) (hx : ev n σ x = .bool true) (hy : ev n σ y = cond (!b) (.bool false) u) : OpA P n σ H L (.pick c x y) (Is (.bool b) H L) := by
  have := d_or' (P := P) (H := H) (L := L) hc hx hy; rwa [Bool.or_false] at this
/-- A part of an own slice, which stays own. -/
theorem o_cuto {α : Type} {kd : Kd α} {t : TypeId} {x : Operand} {lo hi : Option Operand} {v : Value} {e T : TypeId} {it : Item'} {xs : List α} {a b : Int} (ht : P.underlying t = some (.slice e)) (hsz : (P.info? e).map (·.size) = some kd.sz) (hx : ev n σ x = v) (hs : Sl kd H T it v xs) (hlo : (lo = none ∧ a = 0) ∨ ∃ y K, lo = some y ∧ ev n σ y = .int K a) (hhi : (hi = none ∧ b = xs.length) ∨ ∃ y K, hi = some y ∧ ev n σ y = .int K b) (hab : 0 ≤ a ∧ a ≤ b ∧ b ≤ (xs.length : Int)) :
    OpA P n σ H L (.slice t x lo hi none) (fun v' H' L' => Sl kd H T it v' (cut xs a b) ∧ H = H' ∧ L = L') := fun o ho => opr_run fun w hw => by
  obtain ⟨h0, hab, hb⟩ := hab
  have hrun : ∀ (A : Option Addr) (c : Nat), xs.length ≤ c → v = .slice A xs.length c → (execOp (ev n σ) o).run P w = .ok (.value (.slice (if c = a.toNat then A else A.map (·.add (a.toNat * kd.sz))) (b.toNat - a.toNat) (c - a.toNat))) w := by
    intro A c h2 hv
    subst hv
    unfold execOp; rw [ho]
    have hbounds : (Instr.sliceBounds true xs.length c (lo.map (ev n σ)) (hi.map (ev n σ)) none).run P w = .ok (a.toNat, b.toNat, c) w := by
      have p1 : a ≤ ((b.toNat : Nat) : Int) := by omega
      have p2 : 0 ≤ b := by omega
      have p3 : b ≤ (c : Int) := by omega
      rcases hlo with ⟨rfl, rfl⟩ | ⟨y, K, rfl, e⟩ <;> rcases hhi with ⟨rfl, rfl⟩ | ⟨y', K', rfl, e'⟩ <;> simp [Instr.sliceBounds, Instr.sliceBound, asIntOf, h0, p2, p3, *] <;> omega
    simp [hx, Instr.sliceAt, run_underlying ht, Instr.slice, hbounds, run_sizeOf' hsz]
  have hcl : (cut xs a b).length = b.toNat - a.toNat := by unfold cut; simp; omega
  have hce : cut xs a b = (xs.drop a.toNat).take (b.toNat - a.toNat) := by unfold cut; rw [List.drop_take]
  rcases hs with ⟨rfl, rfl, rfl⟩ | ⟨bl, o', arr, c, rfl, rfl, h3, h4, h5⟩
  · refine ⟨_, w, H, L, .inl (hrun none 0 (Nat.le_refl _) rfl), hw, .inl ⟨rfl, ?_, by simp [cut]⟩, rfl, rfl⟩
    simp at hb
    have : a = 0 := by omega
    have : b = 0 := by omega
    subst a; subst b; rfl
  · refine ⟨_, w, H, L, .inl (hrun _ c h3 rfl), hw, .inr ⟨bl, if c = a.toNat then o' else o' + a.toNat * kd.sz, arr, c - a.toNat, rfl, ?_, by omega, ?_, ?_⟩, rfl, rfl⟩
    · rw [hcl]
      split
      · rfl
      · simp only [Option.map_some]; rw [addr_add rfl]
    · have hle : a.toNat ≤ c := by omega
      split
      · have := Nat.mul_le_mul_right kd.sz (show c - a.toNat ≤ c by omega); omega
      · rw [Nat.add_assoc, ← Nat.add_mul, show a.toNat + (c - a.toNat) = c by omega]; exact h4
    · have h6 := (h5.drop a.toNat).take (b.toNat - a.toNat)
      rw [hce]
      have hlt : ((xs.drop a.toNat).take (b.toNat - a.toNat)).length = b.toNat - a.toNat := by simp; omega
      rw [hlt]
      split
      · rename_i hca
        have : b.toNat - a.toNat = 0 := by omega
        rw [this] at h6 ⊢
        simpa using h6
      · have e : (arr.toList.drop (o' + a.toNat * kd.sz)).take ((b.toNat - a.toNat) * kd.sz) = (((arr.toList.drop o').take (xs.length * kd.sz)).drop (a.toNat * kd.sz)).take ((b.toNat - a.toNat) * kd.sz) := by
          rw [List.drop_take, List.drop_drop, List.take_take]
          congr 1
          have : a.toNat + (b.toNat - a.toNat) ≤ xs.length := by omega
          have := Nat.mul_le_mul_right kd.sz this
          rw [Nat.add_mul] at this
          omega
        rw [e]; exact h6
end
/-! ### a choice by an option -/
def oe {α β : Type} (o : Option α) (a : Option β) (f : α → Option β) : Option β := match o with
  | none => a
  | some x => f x
theorem LeO.oe {α β : Type} {o : Option α} {a a' : Option β} {f f' : α → Option β} (h1 : LeO a a') (h2 : ∀ x, LeO (f x) (f' x)) : LeO (oe o a f) (oe o a' f') := by
  cases o with
  | none => exact h1
  | some x => exact h2 x
theorem oes {α β : Type} {o : Option α} {a : Option β} {f : α → Option β} {r : β} (h : oe o a f = some r) : (o = none ∧ a = some r) ∨ ∃ x, o = some x ∧ f x = some r := by
  cases o with
  | none => exact .inl ⟨rfl, h⟩
  | some x => exact .inr ⟨x, rfl, h⟩
end Go.Proofs.YtjhpkkhcgpilfaaDoorK
