/- append to an own slice that is read behind it: both are known for good. -/
import Derived.Test.YtfdedgoohjnhiaaDoorGCBk13
namespace Go.Proofs.YtfdedgoohjnhiaaDoorK
open Go Go.RowKit
set_option linter.unusedVariables false
set_option linter.unusedSimpArgs false
section
variable {P : Program} {f : FB} {n : Nat} {k : List Item} {σ : Nat → Value} {H : Hp} {L : Items} {R : Value → Hp → Items → Prop}
theorem ro_front {α : Type} {kd : Kd α} {b off c : Nat} {xs ys : List α} (hc : xs.length ≤ c) (hro : Ro kd H (.slice (some ⟨b, off, none⟩) (xs ++ ys).length c) (xs ++ ys)) : Ro kd H (.slice (some ⟨b, off, none⟩) xs.length c) xs := by
  obtain ⟨A, c', h1, h2, h3⟩ := hro
  cases h1
  refine ⟨_, c, rfl, hc, ?_⟩
  rcases h3 with h3 | ⟨a, inner, h4, h5, h6⟩
  · exact .inl (List.append_eq_nil_iff.1 h3).1
  · cases h4
    obtain ⟨e1, arr, T, fz, e2, e3⟩ := h5
    have r := h6.take xs.length
    rw [List.take_left] at r
    exact .inr ⟨_, _, rfl, ⟨e1, arr, T, fz, e2, fun j v hj => e3 j v (by rw [List.getElem?_take] at hj; split at hj; exact hj; cases hj)⟩, r⟩
theorem o_append_keep0 {α : Type} {kd : Kd α} {t tx e : TypeId} {x y : Operand} {s v : Value} {it : Item'} {xs ys : List α} {z : Value} {e' : TypeId} {L1 : Items} {F : Item' → Items} {i : TypeInfo} (ht : P.underlying t = some (.slice e)) (htx : P.underlying tx = some (.slice e')) (hi : P.info? e = some i) (hsz : i.size = kd.sz) (hz : i.zero = some z) (hzl : Nat.beq z.cells.size kd.sz = true) (hb : (2 * (xs.length + ys.length) + 192) * i.bytes ≤ 281474976710656) (hb2 : xs.length + ys.length ≤ 9223372036854775807)
    (hx : ev n σ x = s) (hy : ev n σ y = v) (hs : Sl kd H e it s xs) (hv : Src kd H L v ys) (hu : ∀ it', Upd L it it' (F it')) (hu1 : ∀ it', Upd (F it') it' none L1) (hu2 : ∀ it', Upd L1 none it' (F it')) (u1 : Upd L it none L1) :
    OpA P n σ H L (.call { callee := .builtin .append, args := #[x, y], argTypes := #[t, tx] }) (fun v' H' L' => H.le H' ∧ L' = L1 ∧ Ro kd H' s xs ∧ Ro kd H' v' (xs ++ ys)) := fun o ho => opr_run fun w hw => by
  obtain ⟨A, c', rfl, hc', hA⟩ := hv
  obtain ⟨news, hnl, hnr, hnA, hnc⟩ : ∃ news : List Value, news.length = ys.length * kd.sz ∧ Reps kd H news ys ∧ (ys.length * kd.sz = 0 ∨ A.isSome = true) ∧ ∀ a, A = some a → ∀ j v, news[j]? = some v → w.cell? (a.add j) = some v := by
    rcases hA with rfl | ⟨a, inner, rfl, _, h4, h5⟩
    · exact ⟨[], by simp, rfl, by simp, by simp⟩
    · exact ⟨inner, h5.len, h5, .inr rfl, fun a' e => by cases e; exact h4 w hw⟩
  have hnew : ∀ w' : World, w'.heap = w.heap → (Builtin.firstCells kd.sz ys.length (.slice A ys.length c')).run P w' = .ok ⟨news⟩ w' := fun w' hw' => run_firstCells hnl hnA fun a ha j v hj => by
    have := hnc a ha j v hj; simpa [World.cell?, hw'] using this
  have hone := hnr.one
  have hzl := Nat.eq_of_beq_eq_true hzl
  have hnew0 := hnew w rfl
  have hnew1 := hnew w.drew rfl
  rcases hs with ⟨rfl, rfl, rfl⟩ | ⟨b, off, arr, c, rfl, rfl, h3, h4, h5⟩
  · by_cases hy0 : ys.length = 0
    · have hys : ys = [] := List.eq_nil_of_length_eq_zero hy0
      subst hys
      obtain ⟨H2, a1, a2, a3⟩ := Own.freezeSl (hw.drop (hu none)) (sl_nil kd H e) (hu1 none)
      refine ⟨.slice none 0 0, w, H2, _, .inl ?_, a2, a1, rfl, a3, a3⟩
      unfold execOp; rw [ho]
      simp only [List.length_nil] at hnew0
      simp [hx, hy, resolve, invoke, builtin, Builtin.append_, run_underlying ht, run_underlying htx, sizeOf, typeInfo, hi, hsz, Builtin.lenOf, hnew0]
    · have h48 : ¬ (281474976710656 < Builtin.nextslicecap ys.length 0 * i.bytes) := by
        have := Nat.mul_le_mul_right i.bytes (nextcap_le (need := ys.length) (old := 0) (by omega))
        simp at hb; omega
      have h63 : ¬ (9223372036854775807 < (ys.length : Int)) := by simp at hb2; omega
      have hge := grownCap_ge w ys.length 0 e
      generalize hgc : grownCap w ys.length 0 e = g at hge
      have S1 : Sl kd H e (some (w.heap.size, (.cells (⟨news⟩ ++ Builtin.zeroCells z.cells (g - ys.length)) e (0, 0)))) (.slice (some ⟨w.heap.size, 0, none⟩) ys.length g) ([] ++ ys) := by
        refine .inr ⟨_, 0, _, g, rfl, rfl, by simpa using hge, ?_, ?_⟩
        · refine Nat.le_of_eq ?_; simp [Builtin.zeroCells, hnl, hzl]; rw [← Nat.add_mul]; congr 1; omega
        · rw [List.drop_zero, List.nil_append, Array.toList_append, List.take_append_of_le_length (by simp [hnl]), List.take_of_length_le (by simp [hnl])]; exact hnr
      obtain ⟨H2, a1, a2, a3⟩ := Own.freezeSl (hw.renew (w' := w.drew.alloc (.cells (⟨news⟩ ++ Builtin.zeroCells z.cells (g - ys.length)) e (0, 0))) (hu _) rfl rfl rfl rfl) S1 (hu1 _)
      refine ⟨.slice (some ⟨w.heap.size, 0, none⟩) ys.length g, w.drew.alloc (.cells (⟨news⟩ ++ Builtin.zeroCells z.cells (g - ys.length)) e (0, 0)), H2, _, .inl ?_, a2, a1, rfl, ro_nil kd H2, a3⟩
      · unfold execOp; rw [ho]
        unfold grownCap at hgc
        simp [hx, hy, resolve, invoke, builtin, Builtin.append_, run_underlying ht, run_underlying htx, sizeOf, typeInfo, zeroValue, hi, hz, hsz, Builtin.lenOf, hy0, h63, h48, Question.forced, run_firstCells_none, newRow, hnew1, hgc]
        all_goals (try rfl)
  · have hle2 : xs.length * kd.sz ≤ c * kd.sz := Nat.mul_le_mul_right _ h3
    by_cases hroom : xs.length + ys.length ≤ c
    · -- in place
      have hle3 : xs.length * kd.sz + ys.length * kd.sz ≤ c * kd.sz := by rw [← Nat.add_mul]; exact Nat.mul_le_mul_right _ hroom
      obtain ⟨w', h6, h7, h8, h9, h10, h11⟩ := run_storeCells (P := P) (off := off + xs.length * kd.sz) news 0 arr w (hw.has (hu none).has).2 (by rw [hnl]; omega) hone
      have O1 := hw.put (hu _) h7 h8 h9 h10 fun c _ hc => h11 c hc
      obtain ⟨H2, a1, a2, a3⟩ := Own.freezeSl (k := kd) (T := e) (v := .slice (some ⟨b, off, none⟩) (xs.length + ys.length) c) (xs := xs ++ ys) O1 (.inr ⟨b, off, _, c, rfl, by simp, by simpa using hroom, by
          simp [hnl]; omega, by
          have e : ((arr.toList.take (off + xs.length * kd.sz + 0) ++ news ++ arr.toList.drop (off + xs.length * kd.sz + 0 + news.length)).drop off).take ((xs ++ ys).length * kd.sz) = (arr.toList.drop off).take (xs.length * kd.sz) ++ news := by
            rw [Nat.add_zero, drop_splice (by simp; omega), List.length_append, Nat.add_mul, List.take_append_of_le_length (by simp [hnl]; omega), List.take_of_length_le (by simp [hnl]; omega)]
          rw [e]; exact h5.append hnr⟩) (hu1 _)
      refine ⟨.slice (some ⟨b, off, none⟩) (xs.length + ys.length) c, w', H2, _, .inl ?_, a2, a1, rfl, ro_front h3 (by rw [List.length_append]; exact a3), a3⟩
      · unfold execOp; rw [ho]
        simp [hx, hy, resolve, invoke, builtin, Builtin.append_, run_underlying ht, run_underlying htx, sizeOf, typeInfo, hi, hsz, Builtin.lenOf, hroom, hnew0, addr_add (a := ⟨b, off, none⟩) rfl, h6]
    · -- into a new block
      have hlt : c < xs.length + ys.length := by omega
      have h48 : ¬ (281474976710656 < Builtin.nextslicecap (xs.length + ys.length) c * i.bytes) := by
        have := Nat.mul_le_mul_right i.bytes (nextcap_le hlt)
        omega
      have h63 : ¬ (9223372036854775807 < ((xs.length : Int) + (ys.length : Int))) := by omega
      have hge := grownCap_ge w (xs.length + ys.length) c e
      generalize hgc : grownCap w (xs.length + ys.length) c e = g at hge
      have hold : (Builtin.firstCells kd.sz xs.length (.slice (some ⟨b, off, none⟩) xs.length c)).run P w.drew = .ok ⟨(arr.toList.drop off).take (xs.length * kd.sz)⟩ w.drew := by
        refine run_firstCells (by simp; omega) (.inr rfl) fun a ha j v hj => ?_
        cases ha
        exact lies_box (H := H) (hu none).has off (xs.length * kd.sz) w hw j v hj
      obtain ⟨H1, b1, b2, b3⟩ := Own.freezeSl hw (.inr ⟨b, off, arr, c, rfl, rfl, h3, h4, h5⟩) u1
      have S1 : Sl kd H e (some (w.heap.size, (.cells (⟨(arr.toList.drop off).take (xs.length * kd.sz)⟩ ++ ⟨news⟩ ++ Builtin.zeroCells z.cells (g - (xs.length + ys.length))) e (0, 0)))) (.slice (some ⟨w.heap.size, 0, none⟩) (xs.length + ys.length) g) (xs ++ ys) := by
        refine .inr ⟨_, 0, _, g, rfl, by simp, by simpa using hge, ?_, ?_⟩
        · have hlen : ((arr.toList.drop off).take (xs.length * kd.sz)).length = xs.length * kd.sz := by simp; omega
          refine Nat.le_of_eq ?_
          simp only [Array.size_append, List.size_toArray, hlen, hnl, Builtin.zeroCells, Array.size_map, Array.size_range, hzl]
          rw [Nat.zero_add, ← Nat.add_mul, ← Nat.add_mul]; congr 1; omega
        · have hlen : ((arr.toList.drop off).take (xs.length * kd.sz)).length = xs.length * kd.sz := by simp; omega
          rw [List.drop_zero, Array.toList_append, Array.toList_append, List.length_append, Nat.add_mul, List.take_append_of_le_length (by simp [hnl]; omega), List.take_of_length_le (by simp [hnl]; omega)]
          exact h5.append hnr
      obtain ⟨H2, a1, a2, a3⟩ := Own.freezeSl (b2.renew (w' := w.drew.alloc (.cells (⟨(arr.toList.drop off).take (xs.length * kd.sz)⟩ ++ ⟨news⟩ ++ Builtin.zeroCells z.cells (g - (xs.length + ys.length))) e (0, 0))) (hu2 _) rfl rfl rfl rfl) (S1.mono b1) (hu1 _)
      refine ⟨.slice (some ⟨w.heap.size, 0, none⟩) (xs.length + ys.length) g, w.drew.alloc (.cells (⟨(arr.toList.drop off).take (xs.length * kd.sz)⟩ ++ ⟨news⟩ ++ Builtin.zeroCells z.cells (g - (xs.length + ys.length))) e (0, 0)), H2, _, .inl ?_, a2, b1.trans a1, rfl, b3.mono a1, a3⟩
      · unfold execOp; rw [ho]
        unfold grownCap at hgc
        simp [hx, hy, resolve, invoke, builtin, Builtin.append_, run_underlying ht, run_underlying htx, sizeOf, typeInfo, zeroValue, hi, hz, hsz, Builtin.lenOf, hroom, h63, h48, Question.forced, newRow, hnew1, hold, hgc]
        congr 2
        apply Array.ext'
        simp
theorem o_append_keep {α : Type} {kd : Kd α} {t tx e e' : TypeId} {x y : Operand} {s v : Value} {it : Item'} {xs ys : List α} {z : Value} {L1 : Items} {F : Item' → Items} {bytes : Nat} (ht : P.underlying t = some (.slice e)) (htx : P.underlying tx = some (.slice e')) (hT : TI P e kd.sz bytes z) (hzl : Nat.beq z.cells.size kd.sz = true) (hb : (2 * (xs.length + ys.length) + 192) * bytes ≤ 281474976710656 ∧ xs.length + ys.length ≤ 9223372036854775807)
    (hx : ev n σ x = s) (hy : ev n σ y = v) (hs : Sl kd H e it s xs) (hv : Src kd H L v ys) (hu : ∀ it', Upd L it it' (F it')) (hu1 : ∀ it', Upd (F it') it' none L1) (hu2 : ∀ it', Upd L1 none it' (F it')) (u1 : Upd L it none L1) :
    OpA P n σ H L (.call { callee := .builtin .append, args := #[x, y], argTypes := #[t, tx] }) (fun v' H' L' => H.le H' ∧ L' = L1 ∧ Ro kd H' s xs ∧ Ro kd H' v' (xs ++ ys)) := by
  obtain ⟨i, h1, h2, h3, h4⟩ := hT.get
  exact o_append_keep0 ht htx h1 h2 h4 hzl (by rw [h3]; exact hb.1) hb.2 hx hy hs hv hu hu1 hu2 u1
end
end Go.Proofs.YtfdedgoohjnhiaaDoorK
