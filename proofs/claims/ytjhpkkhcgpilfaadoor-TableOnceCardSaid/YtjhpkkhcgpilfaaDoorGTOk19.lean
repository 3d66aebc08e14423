/- slices.Delete: an own row's middle goes, in its place. -/
import Derived.Test.YtjhpkkhcgpilfaaDoorGTOk18
namespace Go.Proofs.YtjhpkkhcgpilfaaDoorK
open Go Go.RowKit
set_option linter.unusedVariables false
set_option linter.unusedSimpArgs false
def cut3 (sz : Nat) (v : Value) (a b m : Nat) : Value := match v with
  | .slice A _ _ => .slice (if m = a then A else A.map (·.add (a * sz))) (b - a) (m - a)
  | v => v
def del {α : Type} (xs : List α) (i j : Int) : List α := xs.take i.toNat ++ xs.drop j.toNat ++ xs.drop (xs.length - (j.toNat - i.toNat))
def clr {α : Type} (xs : List α) (a b : Int) (z : α) : List α := xs.take a.toNat ++ List.replicate (b.toNat - a.toNat) z ++ xs.drop b.toNat
theorem del_len {α : Type} {xs : List α} {i j : Int} (h : 0 ≤ i ∧ i ≤ j ∧ j ≤ (xs.length : Int)) : (del xs i j).length = xs.length := by
  unfold del; simp; omega
theorem clr_len {α : Type} {xs : List α} {i j : Int} {z : α} (h : 0 ≤ i ∧ i ≤ j ∧ j ≤ (xs.length : Int)) : (clr xs i j z).length = xs.length := by
  unfold clr; simp; omega
theorem reps_rep {α : Type} {kd : Kd α} {H : Hp} {cs : List Value} {a : α} (h : kd.rep H cs a) : ∀ m : Nat, Reps kd H (List.replicate m cs).flatten (List.replicate m a)
  | 0 => rfl
  | m + 1 => ⟨cs, (List.replicate m cs).flatten, by simp [List.replicate_succ], h, reps_rep h m⟩
section
variable {P : Program} {f : FB} {n : Nat} {k : List Item} {σ : Nat → Value} {H : Hp} {L : Items} {R : Value → Hp → Items → Prop}
theorem d_cut3 {α : Type} {kd : Kd α} {t : TypeId} {x y z u : Operand} {v : Value} {e : TypeId} {xs : List α} {a b : Int} {K K' K'' : IntKind} (ht : P.underlying t = some (.slice e)) (hsz : (P.info? e).map (·.size) = some kd.sz) (hx : ev n σ x = v) (hs : Src kd H L v xs) (hy : ev n σ y = .int K a) (hz : ev n σ z = .int K' b) (hu : ev n σ u = .int K'' (xs.length : Int)) (hab : 0 ≤ a ∧ a ≤ b ∧ b ≤ (xs.length : Int)) :
    OpA P n σ H L (.slice t x (some y) (some z) (some u)) (Is (cut3 kd.sz v a.toNat b.toNat xs.length) H L) := fun o ho => opr_run fun w hw => by
  obtain ⟨A, c, rfl, h2, h3⟩ := hs
  obtain ⟨h0, hab, hb⟩ := hab
  have hrun : (execOp (ev n σ) o).run P w = .ok (.value (cut3 kd.sz (.slice A xs.length c) a.toNat b.toNat xs.length)) w := by
    unfold execOp; rw [ho]
    have hbounds : (Instr.sliceBounds true xs.length c (some (ev n σ y)) (some (ev n σ z)) (some (ev n σ u))).run P w = .ok (a.toNat, b.toNat, xs.length) w := by
      have p1 : a ≤ ((b.toNat : Nat) : Int) := by omega
      have p2 : 0 ≤ b := by omega
      have p4 : ¬ max b 0 < a := by omega
      simp [Instr.sliceBounds, Instr.sliceBound, asIntOf, hy, hz, hu, h0, p1, p2, hb, h2]
      try omega
    simp [hx, Instr.sliceAt, run_underlying ht, Instr.slice, hbounds, run_sizeOf' hsz, cut3]
  exact ⟨_, w, H, L, .inl hrun, hw, rfl, rfl, rfl⟩
/-- A part of a part from the start on. -/
theorem d_cutb {α : Type} {kd : Kd α} {t : TypeId} {x y z : Operand} {v : Value} {e T : TypeId} {it : Item'} {xs : List α} {q a b : Int} {K K' : IntKind} (ht : P.underlying t = some (.slice e)) (hsz : (P.info? e).map (·.size) = some kd.sz) (hx : ev n σ x = cutv kd.sz v 0 q) (hs : Sl kd H T it v xs) (hy : ev n σ y = .int K a) (hz : ev n σ z = .int K' b) (hab : 0 ≤ a ∧ a ≤ b ∧ b ≤ (xs.length : Int)) :
    OpA P n σ H L (.slice t x (some y) (some z) none) (Is (cutv kd.sz v a b) H L) := fun o ho => opr_run fun w hw => by
  obtain ⟨h0, hab, hb⟩ := hab
  have key : ∀ (A : Option Addr) (c : Nat), xs.length ≤ c → v = .slice A xs.length c → (execOp (ev n σ) o).run P w = .ok (.value (cutv kd.sz v a b)) w := by
    rintro A c h2 rfl
    have e0 : cutv kd.sz (.slice A xs.length c) 0 q = .slice A (q.toNat) c := by
      simp only [cutv, Int.toNat_zero, Nat.sub_zero, Nat.zero_mul]
      split
      · rfl
      · cases A <;> simp [Addr.add]
    rw [e0] at hx
    unfold execOp; rw [ho]
    have hbounds : (Instr.sliceBounds true q.toNat c (some (ev n σ y)) (some (ev n σ z)) none).run P w = .ok (a.toNat, b.toNat, c) w := by
      have p1 : a ≤ ((b.toNat : Nat) : Int) := by omega
      have p2 : 0 ≤ b := by omega
      have p3 : b ≤ (c : Int) := by omega
      simp [Instr.sliceBounds, Instr.sliceBound, asIntOf, hy, hz, h0, p1, p2, p3]
      try omega
    simp [hx, Instr.sliceAt, run_underlying ht, Instr.slice, hbounds, run_sizeOf' hsz, cutv]
  rcases hs with ⟨rfl, rfl, rfl⟩ | ⟨bl, o', arr, c, rfl, rfl, h3, h4, h5⟩
  · exact ⟨_, w, H, L, .inl (key none 0 (Nat.le_refl _) rfl), hw, rfl, rfl, rfl⟩
  · exact ⟨_, w, H, L, .inl (key _ c h3 rfl), hw, rfl, rfl, rfl⟩
theorem sl_cut {α : Type} {kd : Kd α} {v : Value} {T : TypeId} {it : Item'} {xs : List α} {a b : Int} (hs : Sl kd H T it v xs) (hab : 0 ≤ a ∧ a ≤ b ∧ b ≤ (xs.length : Int)) : Sl kd H T it (cutv kd.sz v a b) (cut xs a b) := by
  obtain ⟨h0, hab, hb⟩ := hab
  have hcl : (cut xs a b).length = b.toNat - a.toNat := by unfold cut; simp; omega
  have hce : cut xs a b = (xs.drop a.toNat).take (b.toNat - a.toNat) := by unfold cut; rw [List.drop_take]
  rcases hs with ⟨rfl, rfl, rfl⟩ | ⟨bl, o', arr, c, rfl, rfl, h3, h4, h5⟩
  · refine .inl ⟨rfl, ?_, by simp [cut]⟩
    simp at hb
    have : a = 0 := by omega
    have : b = 0 := by omega
    subst a; subst b; rfl
  · refine .inr ⟨bl, if c = a.toNat then o' else o' + a.toNat * kd.sz, arr, c - a.toNat, rfl, ?_, by omega, ?_, ?_⟩
    · rw [hcl]; simp only [cutv]
      by_cases hc : c = a.toNat
      · rw [if_pos hc, if_pos hc]
      · rw [if_neg hc, if_neg hc]; simp only [Option.map_some]; rw [addr_add rfl]
    · have hle : a.toNat ≤ c := by omega
      split
      · have := Nat.mul_le_mul_right kd.sz (show c - a.toNat ≤ c by omega); omega
      · rw [Nat.add_assoc, ← Nat.add_mul, show a.toNat + (c - a.toNat) = c by omega]; exact h4
    · have h6 := (h5.drop a.toNat).take (b.toNat - a.toNat)
      rw [hce]
      have hlt : ((xs.drop a.toNat).take (b.toNat - a.toNat)).length = b.toNat - a.toNat := by simp; omega
      rw [hlt]
      split
      · rename_i hca
        have : b.toNat - a.toNat = 0 := by omega
        rw [this] at h6 ⊢
        simpa using h6
      · have e : (arr.toList.drop (o' + a.toNat * kd.sz)).take ((b.toNat - a.toNat) * kd.sz) = (((arr.toList.drop o').take (xs.length * kd.sz)).drop (a.toNat * kd.sz)).take ((b.toNat - a.toNat) * kd.sz) := by
          have hle : a.toNat * kd.sz + (b.toNat - a.toNat) * kd.sz ≤ xs.length * kd.sz := by rw [← Nat.add_mul]; exact Nat.mul_le_mul_right _ (by omega)
          rw [List.drop_take, List.drop_drop, List.take_take, Nat.min_eq_left (by omega)]
        rw [e]; exact h6
/-- append(s[:i], s[j:]...), in its place. -/
theorem o_delapp {α : Type} {kd : Kd α} {t tx e e' : TypeId} {x y : Operand} {v : Value} {it : Item'} {xs : List α} {i j : Int} {F : Item' → Items} (ht : P.underlying t = some (.slice e)) (htx : P.underlying tx = some (.slice e')) (hsz : (P.info? e).map (·.size) = some kd.sz)
    (hx : ev n σ x = cutv kd.sz v 0 i) (hy : ev n σ y = cutv kd.sz v j (xs.length : Int)) (hs : Sl kd H e it v xs) (hij : 0 ≤ i ∧ i ≤ j ∧ j ≤ (xs.length : Int)) (hu : ∀ it', Upd L it it' (F it')) :
    OpA P n σ H L (.call { callee := .builtin .append, args := #[x, y], argTypes := #[t, tx] }) (fun v' H' L' => ∃ it', v' = cutv kd.sz v 0 (i + ((xs.length : Int) - j)) ∧ H = H' ∧ L' = F it' ∧ Sl kd H e it' v (del xs i j)) := fun o ho => opr_run fun w hw => by
  obtain ⟨h0, hij, hj⟩ := hij
  have c0 : ∀ (A : Option Addr) (m c : Nat) (q : Int), cutv kd.sz (.slice A m c) 0 q = .slice A q.toNat c := fun A m c q => by
    simp only [cutv, Int.toNat_zero, Nat.sub_zero, Nat.zero_mul]
    split
    · rfl
    · cases A <;> simp [Addr.add]
  obtain ⟨ti, hi, hti⟩ : ∃ ti, P.info? e = some ti ∧ ti.size = kd.sz := by
    cases h : P.info? e with
    | none => rw [h] at hsz; cases hsz
    | some ti => rw [h] at hsz; exact ⟨ti, rfl, by simpa using hsz⟩
  rcases hs with ⟨rfl, rfl, rfl⟩ | ⟨b, off, arr, c, rfl, rfl, h3, h4, h5⟩
  · simp at hj
    have hi0 : i = 0 := by omega
    have hj0 : j = 0 := by omega
    subst hi0; subst hj0
    have e0 : cutv kd.sz (.slice none 0 0) 0 ((([] : List α).length : Nat) : Int) = .slice none 0 0 := rfl
    have e1 : cutv kd.sz (.slice none 0 0) 0 0 = .slice none 0 0 := rfl
    rw [e0] at hy; rw [e1] at hx
    refine ⟨.slice none 0 0, w, H, _, .inl ?_, (by have := hw.drop (hu none); exact this), none, rfl, rfl, rfl, .inl ⟨rfl, rfl, rfl⟩⟩
    unfold execOp; rw [ho]
    have hf : (Builtin.firstCells kd.sz 0 (.slice none 0 0)).run P w = .ok #[] w := rfl
    simp [hx, hy, resolve, invoke, builtin, Builtin.append_, run_underlying ht, run_underlying htx, sizeOf, typeInfo, hi, hti, Builtin.lenOf, hf]
  · obtain ⟨I, rfl⟩ : ∃ I : Nat, i = (I : Int) := ⟨i.toNat, by omega⟩
    obtain ⟨J, rfl⟩ : ∃ J : Nat, j = (J : Int) := ⟨j.toNat, by omega⟩
    have hIJ : I ≤ J := by omega
    have hJl : J ≤ xs.length := by omega
    rw [c0] at hx
    simp only [Int.toNat_natCast] at hx
    have hle2 : xs.length * kd.sz ≤ c * kd.sz := Nat.mul_le_mul_right _ h3
    have hIJs : I * kd.sz ≤ J * kd.sz := Nat.mul_le_mul_right _ hIJ
    have hJs : J * kd.sz + (xs.length - J) * kd.sz = xs.length * kd.sz := by rw [← Nat.add_mul]; congr 1; omega
    have hIs : I * kd.sz + (xs.length - J) * kd.sz ≤ xs.length * kd.sz := by omega
    generalize hin : (arr.toList.drop off).take (xs.length * kd.sz) = inner at h5
    have hil := h5.len
    have h6 := h5.drop J
    have hnl : (inner.drop (J * kd.sz)).length = (xs.length - J) * kd.sz := by rw [List.length_drop, hil]; omega
    have hone := h6.one
    have hy' : cutv kd.sz (.slice (some ⟨b, off, none⟩) xs.length c) J (xs.length : Int) = .slice (some (if c = J then ⟨b, off, none⟩ else ⟨b, off + J * kd.sz, none⟩)) (xs.length - J) (c - J) := by
      simp only [cutv, Int.toNat_natCast]
      split
      · rfl
      · simp only [Option.map_some]; rw [addr_add rfl]
    rw [hy'] at hy
    have hnew : (Builtin.firstCells kd.sz (xs.length - J) (.slice (some (if c = J then ⟨b, off, none⟩ else ⟨b, off + J * kd.sz, none⟩)) (xs.length - J) (c - J))).run P w = .ok ⟨inner.drop (J * kd.sz)⟩ w := by
      refine run_firstCells hnl (.inr rfl) fun a ha q u hq => ?_
      cases ha
      have hq' : q < (xs.length - J) * kd.sz := by rw [← hnl]; exact (List.getElem?_eq_some_iff.1 hq).1
      have hcJ : ¬ c = J := by
        intro hcj
        have : xs.length - J = 0 := by omega
        rw [this] at hq'; simp at hq'
      rw [if_neg hcJ]
      have hl := lies_box (H := H) (hu none).has off (xs.length * kd.sz) w hw (J * kd.sz + q) u (by rw [hin, ← List.getElem?_drop]; exact hq)
      rw [addr_add rfl] at hl ⊢
      rw [Nat.add_assoc]; exact hl
    obtain ⟨w', g6, g7, g8, g9, g10, g11⟩ := run_storeCells (P := P) (off := off + I * kd.sz) (inner.drop (J * kd.sz)) 0 arr w (hw.has (hu none).has).2 (by rw [hnl]; omega) hone
    refine ⟨cutv kd.sz (.slice (some ⟨b, off, none⟩) xs.length c) 0 ((I : Int) + ((xs.length : Int) - (J : Int))), w', H, _, .inl ?_, hw.put (hu _) g7 g8 g9 g10 fun c _ hc => g11 c hc, _, rfl, rfl, rfl, .inr ⟨b, off, _, c, rfl, ?_, by rw [del_len ⟨by omega, by omega, by omega⟩]; exact h3, ?_, ?_⟩⟩
    · rw [c0]
      unfold execOp; rw [ho]
      have hroom : I + (xs.length - J) ≤ c := by omega
      have en : ((I : Int) + ((xs.length : Int) - (J : Int))).toNat = I + (xs.length - J) := by omega
      simp [hx, hy, resolve, invoke, builtin, Builtin.append_, run_underlying ht, run_underlying htx, sizeOf, typeInfo, hi, hti, Builtin.lenOf, hroom, hnew, addr_add (a := ⟨b, off, none⟩) rfl, g6, en]
    · rw [del_len ⟨by omega, by omega, by omega⟩]
    · simp [hnl]; omega
    · rw [del_len ⟨by omega, by omega, by omega⟩]
      have e : ((arr.toList.take (off + I * kd.sz + 0) ++ inner.drop (J * kd.sz) ++ arr.toList.drop (off + I * kd.sz + 0 + (inner.drop (J * kd.sz)).length)).drop off).take (xs.length * kd.sz) = inner.take (I * kd.sz) ++ inner.drop (J * kd.sz) ++ inner.drop ((I + (xs.length - J)) * kd.sz) := by
        simp only [Nat.add_zero, hnl]
        rw [drop_splice (by simp; omega)]
        rw [← hin]
        generalize hg : arr.toList.drop off = l
        have hll : l.length = arr.size - off := by rw [← hg]; simp
        have hl2 : ((l.take (xs.length * kd.sz)).drop (J * kd.sz)).length = (xs.length - J) * kd.sz := by simp; omega
        simp only [List.append_assoc, Nat.add_mul]
        rw [List.take_take, show min (I * kd.sz) (xs.length * kd.sz) = I * kd.sz by omega, List.take_append]
        have hlen : (l.take (I * kd.sz)).length = I * kd.sz := by simp; omega
        rw [hlen, List.take_of_length_le (by rw [hlen]; omega), List.take_append, hl2, List.take_of_length_le (l := (l.take (xs.length * kd.sz)).drop (J * kd.sz)) (by rw [hl2]; omega), List.drop_take (i := I * kd.sz + (xs.length - J) * kd.sz)]
        congr 3; omega
      rw [e]
      have e2 : del xs (I : Int) (J : Int) = xs.take I ++ xs.drop J ++ xs.drop (I + (xs.length - J)) := by
        unfold del; simp only [Int.toNat_natCast]; congr 2; omega
      rw [e2]
      exact ((h5.take I).append h6).append (h5.drop (I + (xs.length - J)))
/-- clear(s[a:b]). -/
theorem o_clear {α : Type} {kd : Kd α} {t e : TypeId} {x : Operand} {v : Value} {it : Item'} {xs : List α} {a b : Int} {z : Value} {z0 : α} {bytes : Nat} {F : Item' → Items} (ht : P.underlying t = some (.slice e)) (hT : TI P e kd.sz bytes z) (hz : kd.rep H z.cells.toList z0)
    (hx : ev n σ x = cutv kd.sz v a b) (hs : Sl kd H e it v xs) (hab : 0 ≤ a ∧ a ≤ b ∧ b ≤ (xs.length : Int)) (hu : ∀ it', Upd L it it' (F it')) :
    OpA P n σ H L (.call { callee := .builtin .clear, args := #[x], argTypes := #[t] }) (fun v' H' L' => ∃ it', v' = .tuple #[] ∧ H = H' ∧ L' = F it' ∧ Sl kd H e it' v (clr xs a b z0)) := fun o ho => opr_run fun w hw => by
  obtain ⟨h0, hab, hb⟩ := hab
  obtain ⟨ti, hi, hti, _, htz⟩ := hT.get
  obtain ⟨A, rfl⟩ : ∃ A : Nat, a = (A : Int) := ⟨a.toNat, by omega⟩
  obtain ⟨B, rfl⟩ : ∃ B : Nat, b = (B : Int) := ⟨b.toNat, by omega⟩
  have hAB : A ≤ B := by omega
  have hB : B ≤ xs.length := by omega
  by_cases hAB0 : A = B
  · subst hAB0
    have e1 : clr xs (A : Int) (A : Int) z0 = xs := by unfold clr; simp
    rw [e1]
    have hid : Own H w (F it) := by
      cases it with
      | none => have := hw.drop (hu none); exact this
      | some p => exact hw.put (hu (some p)) rfl rfl rfl (hw.has (hu none).has).2 (fun _ _ _ => rfl)
    refine ⟨.tuple #[], w, H, _, .inl ?_, hid, it, rfl, rfl, rfl, hs⟩
    unfold execOp; rw [ho]
    rcases hs with ⟨rfl, rfl, rfl⟩ | ⟨bl, off, arr, c, rfl, rfl, h3, h4, h5⟩
    · have e0 : cutv kd.sz (.slice none 0 0) (A : Int) (A : Int) = .slice none 0 (0 - A) := by simp [cutv]
      rw [e0] at hx
      simp [hx, resolve, invoke, builtin, Builtin.clear_, run_underlying ht]
    · have e0 : ∃ q, cutv kd.sz (.slice (some ⟨bl, off, none⟩) xs.length c) (A : Int) (A : Int) = .slice (some q) 0 (c - A) := by
        simp only [cutv, Int.toNat_natCast, Nat.sub_self]
        split
        · exact ⟨_, rfl⟩
        · exact ⟨_, rfl⟩
      obtain ⟨q, e0⟩ := e0
      rw [e0] at hx
      simp [hx, resolve, invoke, builtin, Builtin.clear_, run_underlying ht]
  · rcases hs with ⟨rfl, rfl, rfl⟩ | ⟨bl, off, arr, c, rfl, rfl, h3, h4, h5⟩
    · simp at hB; omega
    · have hlz : z.cells.toList.length = kd.sz := kd.len hz
      have hnews : (Builtin.zeroCells z.cells (B - A)).toList = (List.replicate (B - A) z.cells.toList).flatten := zeros_toList _ _
      have hr : Reps kd H (Builtin.zeroCells z.cells (B - A)).toList (List.replicate (B - A) z0) := by rw [hnews]; exact reps_rep hz _
      have hnl := hr.len
      rw [List.length_replicate] at hnl
      have hle2 : xs.length * kd.sz ≤ c * kd.sz := Nat.mul_le_mul_right _ h3
      have hBs : B * kd.sz ≤ xs.length * kd.sz := Nat.mul_le_mul_right _ hB
      have hABs : A * kd.sz + (B - A) * kd.sz = B * kd.sz := by rw [← Nat.add_mul]; congr 1; omega
      obtain ⟨w', g6, g7, g8, g9, g10, g11⟩ := run_storeCells (P := P) (off := off + A * kd.sz) (Builtin.zeroCells z.cells (B - A)).toList 0 arr w (hw.has (hu none).has).2 (by rw [hnl]; omega) hr.one
      refine ⟨.tuple #[], w', H, _, .inl ?_, hw.put (hu _) g7 g8 g9 g10 fun c _ hc => g11 c hc, _, rfl, rfl, rfl, .inr ⟨bl, off, _, c, rfl, by rw [clr_len ⟨by omega, by omega, by omega⟩], by rw [clr_len ⟨by omega, by omega, by omega⟩]; exact h3, ?_, ?_⟩⟩
      · have hbv : cutv kd.sz (.slice (some ⟨bl, off, none⟩) xs.length c) (A : Int) (B : Int) = .slice (some ⟨bl, off + A * kd.sz, none⟩) (B - A) (c - A) := by
          simp only [cutv, Int.toNat_natCast]
          rw [if_neg (by omega)]
          simp only [Option.map_some]; rw [addr_add rfl]
        rw [hbv] at hx
        unfold execOp; rw [ho]
        obtain ⟨m, hm⟩ : ∃ m, B - A = m + 1 := ⟨B - A - 1, by omega⟩
        rw [hm] at hx g6
        simp [hx, resolve, invoke, builtin, Builtin.clear_, run_underlying ht, zeroValue, typeInfo, hi, htz, g6]
      · simp [hnl]; omega
      · rw [clr_len ⟨by omega, by omega, by omega⟩]
        generalize hnz : (Builtin.zeroCells z.cells (B - A)).toList = news at hnl hr
        have e : ((arr.toList.take (off + A * kd.sz + 0) ++ news ++ arr.toList.drop (off + A * kd.sz + 0 + news.length)).drop off).take (xs.length * kd.sz) = ((arr.toList.drop off).take (xs.length * kd.sz)).take (A * kd.sz) ++ news ++ ((arr.toList.drop off).take (xs.length * kd.sz)).drop (B * kd.sz) := by
          simp only [Nat.add_zero, hnl]
          rw [drop_splice (by simp; omega)]
          generalize hg : arr.toList.drop off = l
          have hll : l.length = arr.size - off := by rw [← hg]; simp
          simp only [List.append_assoc]
          rw [List.take_take, show min (A * kd.sz) (xs.length * kd.sz) = A * kd.sz by omega, List.take_append]
          have hlen : (l.take (A * kd.sz)).length = A * kd.sz := by simp; omega
          rw [hlen, List.take_of_length_le (by rw [hlen]; omega), List.take_append, hnl, List.take_of_length_le (l := news) (by rw [hnl]; omega), List.drop_take, hABs]
          congr 3; omega
        rw [e]
        have e2 : clr xs (A : Int) (B : Int) z0 = xs.take A ++ List.replicate (B - A) z0 ++ xs.drop B := by unfold clr; simp
        rw [e2]
        exact ((h5.take A).append hr).append (h5.drop B)
end
end Go.Proofs.YtjhpkkhcgpilfaaDoorK
