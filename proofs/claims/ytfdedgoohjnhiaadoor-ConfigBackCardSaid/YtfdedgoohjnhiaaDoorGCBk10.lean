/- copy into an own slice. -/
import Derived.Test.YtfdedgoohjnhiaaDoorGCBk9
namespace Go.Proofs.YtfdedgoohjnhiaaDoorK
open Go Go.RowKit
set_option linter.unusedVariables false
set_option linter.unusedSimpArgs false
def cutv (sz : Nat) (v : Value) (a b : Int) : Value := match v with
  | .slice A _ c => .slice (if c = a.toNat then A else A.map (·.add (a.toNat * sz))) (b.toNat - a.toNat) (c - a.toNat)
  | v => v
def cpy {α : Type} (xs : List α) (a : Int) (ys : List α) : List α := xs.take a.toNat ++ ys.take (xs.length - a.toNat) ++ xs.drop (a.toNat + ys.length)
def Fct.cp (v0 : Value) (Q : Hp → Item' → Prop) (hm : ∀ {H H' : Hp} {it : Item'}, H.le H' → Q H it → Q H' it) : Fct := ⟨fun H v it _ => v = v0 ∧ Q H it, [], fun _ _ _ _ _ _ hle _ h => ⟨h.1, hm hle h.2⟩⟩
section
variable {P : Program} {f : FB} {n : Nat} {k : List Item} {σ : Nat → Value} {H : Hp} {L : Items} {R : Value → Hp → Items → Prop}
theorem d_cutv {α : Type} {kd : Kd α} {t : TypeId} {x : Operand} {lo hi : Option Operand} {v : Value} {e : TypeId} {xs : List α} {a b : Int} (ht : P.underlying t = some (.slice e)) (hsz : (P.info? e).map (·.size) = some kd.sz) (hx : ev n σ x = v) (hs : Src kd H L v xs) (hlo : (lo = none ∧ a = 0) ∨ ∃ y K, lo = some y ∧ ev n σ y = .int K a) (hhi : (hi = none ∧ b = xs.length) ∨ ∃ y K, hi = some y ∧ ev n σ y = .int K b) (hab : 0 ≤ a ∧ a ≤ b ∧ b ≤ (xs.length : Int)) :
    OpA P n σ H L (.slice t x lo hi none) (Is (cutv kd.sz v a b) H L) := fun o ho => opr_run fun w hw => by
  obtain ⟨A, c, rfl, h2, h3⟩ := hs
  obtain ⟨h0, hab, hb⟩ := hab
  have hrun : (execOp (ev n σ) o).run P w = .ok (.value (.slice (if c = a.toNat then A else A.map (·.add (a.toNat * kd.sz))) (b.toNat - a.toNat) (c - a.toNat))) w := by
    unfold execOp; rw [ho]
    have hbounds : (Instr.sliceBounds true xs.length c (lo.map (ev n σ)) (hi.map (ev n σ)) none).run P w = .ok (a.toNat, b.toNat, c) w := by
      have p1 : a ≤ ((b.toNat : Nat) : Int) := by omega
      have p2 : 0 ≤ b := by omega
      have p3 : b ≤ (c : Int) := by omega
      rcases hlo with ⟨rfl, rfl⟩ | ⟨y, K, rfl, e⟩ <;> rcases hhi with ⟨rfl, rfl⟩ | ⟨y', K', rfl, e'⟩ <;> simp [Instr.sliceBounds, Instr.sliceBound, asIntOf, h0, p2, p3, *] <;> omega
    simp [hx, Instr.sliceAt, run_underlying ht, Instr.slice, hbounds, run_sizeOf' hsz]
  exact ⟨_, w, H, L, .inl hrun, hw, rfl, rfl, rfl⟩
theorem src_cutv {α : Type} {kd : Kd α} {v : Value} {xs : List α} {a b : Int} (hs : Src kd H L v xs) (hab : 0 ≤ a ∧ a ≤ b ∧ b ≤ (xs.length : Int)) : Src kd H L (cutv kd.sz v a b) (cut xs a b) := by
  obtain ⟨A, c, rfl, h2, h3⟩ := hs
  obtain ⟨h0, hab, hb⟩ := hab
  have hl : (cut xs a b).length = b.toNat - a.toNat := by unfold cut; simp; omega
  refine ⟨if c = a.toNat then A else A.map (·.add (a.toNat * kd.sz)), c - a.toNat, by rw [hl]; rfl, by rw [hl]; omega, ?_⟩
  by_cases hne : a.toNat = b.toNat
  · left; apply List.eq_nil_of_length_eq_zero; rw [hl]; omega
  · right
    rcases h3 with rfl | ⟨ad, inner, rfl, hsp, h4, h5⟩
    · simp at hb; omega
    · rw [if_neg (by omega)]
      refine ⟨_, _, rfl, ?_, h4.part (a.toNat * kd.sz) ((b.toNat - a.toNat) * kd.sz), ?_⟩
      · unfold Addr.add; split
        · exact hsp
        · rfl
      · have h6 := (h5.drop a.toNat).take (b.toNat - a.toNat)
        have : cut xs a b = (xs.drop a.toNat).take (b.toNat - a.toNat) := by unfold cut; rw [List.drop_take]
        rw [this]; exact h6
theorem cutv_all {α : Type} {kd : Kd α} {T : TypeId} {it : Item'} {v : Value} {xs : List α} (hs : Sl kd H T it v xs) : cutv kd.sz v 0 (xs.length : Int) = v := by
  rcases hs with ⟨rfl, rfl, rfl⟩ | ⟨b, o, arr, c, rfl, rfl, h3, h4, h5⟩
  · rfl
  · simp [cutv, Addr.add]
/-- copy(s[a:], y): into an own slice, from place a on. -/
theorem o_copy {α : Type} {kd : Kd α} {t tx e : TypeId} {x y : Operand} {s v : Value} {it : Item'} {xs ys : List α} {a : Int} {F : Item' → Items} (ht : P.underlying t = some (.slice e)) (hsz : (P.info? e).map (·.size) = some kd.sz) (hx : ev n σ x = cutv kd.sz s a (xs.length : Int)) (hy : ev n σ y = v) (hs : Sl kd H e it s xs) (hv : Src kd H L v ys) (ha : 0 ≤ a ∧ a ≤ (xs.length : Int)) (hu : ∀ it', Upd L it it' (F it')) :
    OpA P n σ H L (.call { callee := .builtin .copy, args := #[x, y], argTypes := #[t, tx] }) (fun v' H' L' => ∃ it', v' = .int .i64 (min (ys.length : Int) (xs.length - a)) ∧ H = H' ∧ L' = F it' ∧ Sl kd H e it' s (cpy xs a ys)) := fun o ho => opr_run fun w hw => by
  obtain ⟨ha0, ha1⟩ := ha
  obtain ⟨A, c', rfl, hc', hA⟩ := hv
  have hn : Nat.min ys.length (xs.length - a.toNat) ≤ ys.length := Nat.min_le_left _ _
  generalize hm : Nat.min ys.length (xs.length - a.toNat) = m at hn
  have hval : (min (ys.length : Int) (xs.length - a)) = (m : Int) := by
    rw [← hm]; show _ = ((min ys.length (xs.length - a.toNat) : Nat) : Int); omega
  have hm' : m = min ys.length (xs.length - a.toNat) := hm.symm
  obtain ⟨news, hnl, hnr, hnA, hnc⟩ : ∃ news : List Value, news.length = m * kd.sz ∧ Reps kd H news (ys.take m) ∧ (m * kd.sz = 0 ∨ A.isSome = true) ∧ ∀ a, A = some a → ∀ j v, news[j]? = some v → w.cell? (a.add j) = some v := by
    rcases hA with rfl | ⟨a, inner, rfl, _, h4, h5⟩
    · have : m = 0 := by simp at hn; omega
      subst this
      exact ⟨[], by simp, rfl, by simp, by simp⟩
    · have h6 := h5.take m
      have hlt : (ys.take m).length = m := by simp; omega
      refine ⟨inner.take (m * kd.sz), by rw [h6.len, hlt], h6, .inr rfl, fun a' e j v hj => ?_⟩
      cases e
      rw [List.getElem?_take] at hj
      split at hj
      · exact h4 w hw j v hj
      · cases hj
  have hone := hnr.one
  have hlenT : (ys.take m).length = m := by simp; omega
  rcases hs with ⟨rfl, rfl, rfl⟩ | ⟨b, off, arr, c, rfl, rfl, h3, h4, h5⟩
  · have hm0 : m = 0 := by rw [hm']; simp
    have : news = [] := List.eq_nil_of_length_eq_zero (by rw [hnl, hm0]; simp)
    subst this
    have ha00 : a = 0 := by simp at ha1; omega
    subst ha00
    refine ⟨_, w, H, _, .inl ?_, (by have := hw.drop (hu none); exact this), none, by rw [hval, hm0], rfl, rfl, .inl ⟨rfl, rfl, by simp [cpy]⟩⟩
    unfold execOp; rw [ho]
    have e0 : cutv kd.sz (.slice none 0 0) 0 ((([] : List α).length : Nat) : Int) = .slice none 0 0 := rfl
    rw [e0] at hx
    have hf : (Builtin.firstCells kd.sz 0 (.slice A ys.length c')).run P w = .ok #[] w := by
      cases A with
      | none => rfl
      | some a => simp [Builtin.firstCells, loadCells, loadCellsFrom]
    simp [hx, hy, resolve, invoke, builtin, Builtin.copy_, run_underlying ht, Builtin.lenOf, run_sizeOf' hsz, hf, goInt]
  · have hac : a.toNat * kd.sz + m * kd.sz ≤ xs.length * kd.sz := by rw [← Nat.add_mul]; exact Nat.mul_le_mul_right _ (by omega)
    have hle2 : xs.length * kd.sz ≤ c * kd.sz := Nat.mul_le_mul_right _ h3
    obtain ⟨w', h6, h7, h8, h9, h10, h11⟩ := run_storeCells (P := P) (off := off + a.toNat * kd.sz) news 0 arr w (hw.has (hu none).has).2 (by rw [hnl]; omega) hone
    have hcl : (cpy xs a ys).length = xs.length := by unfold cpy; simp; omega
    refine ⟨_, w', H, _, .inl ?_, hw.put (hu _) h7 h8 h9 h10 fun c _ hc => h11 c hc, _, by rw [hval], rfl, rfl, .inr ⟨b, off, _, c, rfl, by rw [hcl], by rw [hcl]; exact h3, ?_, ?_⟩⟩
    · unfold execOp; rw [ho]
      have hf : (Builtin.firstCells kd.sz m (.slice A ys.length c')).run P w = .ok ⟨news⟩ w := by
        have := run_firstCells (P := P) (w := w) (size := kd.sz) (m := m) (c := c') (A := A) hnl hnA hnc
        cases A <;> exact this
      have hb : cutv kd.sz (.slice (some ⟨b, off, none⟩) xs.length c) a (xs.length : Int) = .slice (some (if c = a.toNat then ⟨b, off, none⟩ else ⟨b, off + a.toNat * kd.sz, none⟩)) (xs.length - a.toNat) (c - a.toNat) := by
        simp only [cutv, Int.toNat_natCast]
        split
        · rfl
        · simp only [Option.map_some]; rw [addr_add rfl]
      rw [hb] at hx
      by_cases hca : c = a.toNat
      · have hm0 : m = 0 := by rw [hm']; omega
        subst hm0
        have : news = [] := List.eq_nil_of_length_eq_zero (by rw [hnl]; simp)
        subst this
        rw [if_pos hca] at hx
        have h6' : w' = w := by simp [storeCells] at h6; exact h6.symm
        subst h6'
        simp [hx, hy, resolve, invoke, builtin, Builtin.copy_, run_underlying ht, Builtin.lenOf, run_sizeOf' hsz, hm, hf, storeCells, goInt]
      · rw [if_neg hca] at hx
        simp [hx, hy, resolve, invoke, builtin, Builtin.copy_, run_underlying ht, Builtin.lenOf, run_sizeOf' hsz, hm, hf, h6, goInt]
    · simp [hnl]; omega
    · rw [hcl]
      have e : ((arr.toList.take (off + a.toNat * kd.sz + 0) ++ news ++ arr.toList.drop (off + a.toNat * kd.sz + 0 + news.length)).drop off).take (xs.length * kd.sz) = ((arr.toList.drop off).take (xs.length * kd.sz)).take (a.toNat * kd.sz) ++ news ++ ((arr.toList.drop off).take (xs.length * kd.sz)).drop ((a.toNat + m) * kd.sz) := by
        simp only [Nat.add_zero, hnl]
        rw [drop_splice (by simp; omega)]
        generalize hg : arr.toList.drop off = l
        have hll : l.length = arr.size - off := by rw [← hg]; simp
        simp only [List.append_assoc, Nat.add_mul]
        rw [List.take_take, show min (a.toNat * kd.sz) (xs.length * kd.sz) = a.toNat * kd.sz by omega, List.take_append]
        have hlen : (l.take (a.toNat * kd.sz)).length = a.toNat * kd.sz := by simp; omega
        rw [hlen, List.take_of_length_le (by rw [hlen]; omega), List.take_append, hnl, List.take_of_length_le (l := news) (by rw [hnl]; omega), List.drop_take]
        congr 3; omega
      have e2 : cpy xs a ys = xs.take a.toNat ++ ys.take m ++ xs.drop (a.toNat + m) := by
        unfold cpy
        by_cases g : ys.length ≤ xs.length - a.toNat
        · rw [show m = ys.length by omega, List.take_of_length_le g, List.take_length]
        · rw [show m = xs.length - a.toNat by omega, List.drop_eq_nil_of_le (by omega), List.drop_eq_nil_of_le (by omega)]
      rw [e, e2]
      exact ((h5.take a.toNat).append hnr).append (h5.drop (a.toNat + m))
theorem s_cp {α : Type} {kd : Kd α} {ops : Array Oper} {i : Nat} {op : Op} {d : Option Nat} {H' : Hp} {L : Items} {Λ : Item' → Items} {Φ : Hp → Value → Item' → (Nat → Item') → Prop} {M : Item' → Nat → Item'} {T : TypeId} {s0 v0 : Value} {xs : List α} {it0 : Item'} (z : Item') (hz : it0 = z) (hi : opAt ops i = some (op, d, none)) (h : OpA P n σ H' (Λ z) op (fun v' H'' L'' => ∃ it, v' = v0 ∧ H' = H'' ∧ L'' = Λ it ∧ Sl kd H' T it s0 xs)) (hL : L = Λ it0) (hF : ∀ it, Sl kd H' T it s0 xs → Φ H' v0 it (M it)) :
    GopA P n ops i σ H' L fun v H'' L'' => ∃ it, L'' = Λ it ∧ H'.le H'' ∧ Φ H'' v it (M it) := by
  subst hz; subst hL
  unfold GopA; rw [hi]
  exact fun o ho => (h o ho).mono fun v H'' L'' ⟨it, e, a, b, c⟩ => ⟨it, b, by rw [← a]; exact .refl _, by rw [← a, e]; exact hF it c⟩
end
theorem gk2 {g : Bool} {v : Value} {T : Value → Value → Value} {Q : Value → Value → Prop} (hp : g = true → ∃ x y, v = T x y ∧ Q x y) (hq : g = false → v = undef) : ∃ x y, v = cond g (T x y) undef ∧ (g = true → Q x y) := by
  cases g with
  | true => obtain ⟨x, y, h1, h2⟩ := hp rfl; exact ⟨x, y, h1, fun _ => h2⟩
  | false => exact ⟨undef, undef, hq rfl, fun e => by cases e⟩
end Go.Proofs.YtfdedgoohjnhiaaDoorK
