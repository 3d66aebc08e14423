/- The plain law of AuctionLeast. -/
import Derived.Test.YtacbficpehmlnaaPureAU6
namespace Go.Proofs.Ytacbficpehmlnaa.Pure
open Go.RowKit Go.Proofs.YtacbficpehmlnaaK Go.Proofs.Ytacbficpehmlnaa.GAL
set_option linter.unusedVariables false
set_option linter.unusedSimpArgs false
set_option maxRecDepth 100000
theorem bound21 (k : Nat) {n P : Nat} {miss : Int} (hn : n ≤ 64) (hP : P ≤ 64) (hm : 0 ≤ miss ∧ miss ≤ 4096) : auction_Bound.f k (n : Int) (P : Int) miss = some ((P : Int) * (((n : Int) + 1) * miss + 1) + n, none) := by
  have h5 : 0 ≤ ((n : Int) + 1) * miss := Int.mul_nonneg (by omega) (by omega)
  have h6 : ((n : Int) + 1) * miss ≤ 65 * 4096 := Int.mul_le_mul (by omega) (by omega) (by omega) (by omega)
  unfold auction_Bound.f
  rw [w64_id (x := (n : Int) + 1) (by omega)]
  generalize ((n : Int) + 1) * miss = z at h5 h6
  have h7 : 0 ≤ (P : Int) * (z + 1) := Int.mul_nonneg (by omega) (by omega)
  have h8 : (P : Int) * (z + 1) ≤ 64 * 266241 := Int.mul_le_mul (by omega) (by omega) (by omega) (by omega)
  rw [w64_id (x := z) (by omega), w64_id (x := z + 1) (by omega), w64_id (x := (P : Int) * (z + 1)) (by omega), w64_id (by omega)]
  have e1 : ((((((decide ((n : Int) < 0)) || (decide (64 < (n : Int)))) || (decide ((P : Int) < 0))) || (decide (64 < (P : Int)))) || (decide (miss < 0))) || (decide (4096 < miss))) = false := by
    rw [Bool.eq_false_iff]; intro h; simp at h; omega
  rw [e1]; rfl
theorem least_j1 {rows : List (List Int)} {miss : Int} (hk : chkB rows miss = true) {P : Nat} (hP : P = if rows.length = 0 then 0 else (rd rows 0).length) : Ev (fun k => radomelaw21_AuctionLeast.j1 k rows miss rows miss (P : Int)) true := by
  have h := nm_of hk
  rw [← hP] at h
  generalize hS : (rows.length : Int) + 1 = S at h
  generalize hM : -S * miss = M at h
  generalize hD : S * miss + 1 = D at h
  have hpot : pot D (AS.zero rows.length P) = D * P + rows.length := zero_pot
  have hsm := pot_small h
  obtain ⟨f, hf⟩ : ∃ f : Nat, (f : Int) = D * P + rows.length := ⟨(D * P + rows.length).toNat, by omega⟩
  have hr := run_ev h hk hP (f := f) (by omega) (by omega)
  obtain ⟨_, r2, r3, r5, r6⟩ := run_l0 h f (AS.zero rows.length P) 0 (zero_ai h) (by omega) (by omega)
  have r4 := sale_cs h f (AS.zero rows.length P) (zero_ai h) zero_cs
  have hwl : (AS.zero rows.length P).wa.length = rows.length := by simp [AS.zero]
  generalize sale S M rows f (AS.zero rows.length P) = z at hr r2 r3 r4 r5 r6
  obtain ⟨own, o1, o2⟩ := own_best h r2 r3 r4
  have hA : Agr P (List.replicate P false) [] := ⟨by simp, fun q hq => by rw [rd_repl]; rfl⟩
  obtain ⟨ps, p1, p2⟩ := lst_got (miss := miss) (P := P) rows (List.replicate P false) [] 0 h.c.row hA
  have q1 := o2 ps _ p1 p2
  have q2 := lst_le rows z.1.ha (List.replicate P false) [] 0 own (by have := r2.lh; omega) h.c.row hA o1
  have hown : own = lst miss rows (List.replicate P false) := by omega
  have hb := bound21 (n := rows.length) (P := P) (miss := miss)
  unfold radomelaw21_AuctionLeast.j1
  refine Ev.bind hr ?_
  simp only
  refine Ev.bind (total_ev (ps := z.1.ha)) ?_
  simp only [if_pos hk, if_pos (show z.1.ha.length = rows.length from r2.lh), o1, totR]
  simp only [hb _ h.c.n h.c.p h.c.m, Option.bind_some, hS, hD, Option.isNone_none, Bool.and_self, Bool.true_and]
  have c1 : ((z.2 : Nat) : Int) ≤ (P : Int) * D + rows.length := by rw [Int.mul_comm]; omega
  have c2 : (rows.length : Int) ≤ ((z.2 : Nat) : Int) := by omega
  have c3 : 0 ≤ (P : Int) ∧ (P : Int) ≤ 281474976710656 := by have := h.c.p; omega
  simp only [decide_eq_true c1, decide_eq_true c2, Bool.and_self, if_pos (show True → 0 ≤ (P : Int) ∧ (P : Int) ≤ 281474976710656 from fun _ => c3), gdt, Bool.true_and, Int.toNat_natCast]
  refine Ev.bind (least_ev h.c (tk := List.replicate P false) (by simp)) ?_
  simp only [decide_eq_true hown, gdt, Bool.true_and]
  exact Ev.bind sure_ev21 Ev.now
theorem AuctionLeast : radomelaw21_AuctionLeast.Pure := by
  intro c hc
  obtain ⟨rows, miss⟩ := c
  refine Ev.ex ?_
  unfold radomelaw21_AuctionLeast.f
  refine Ev.bind (chk_ev rows miss) ?_
  simp only
  generalize hy : (if chkB rows miss = true then none else some (1 : Int)) = y
  have c0 : ((!(y.isSome || (decide (6 < (rows.length : Int))))) && (decide (0 < (rows.length : Int)))) = true → (0 : Int) ≤ 0 ∧ 0 < (rows.length : Int) := fun h => by simp at h; omega
  simp only [if_pos c0]
  by_cases hs : ((y.isSome || (decide (6 < (rows.length : Int)))) || ((decide (0 < (rows.length : Int))) && (decide (6 < ((rd rows 0).length : Int))))) = true
  · simp only [if_pos hs]; exact Ev.bind sure_ev21 Ev.now
  · simp only [if_neg hs]
    have hk : chkB rows miss = true := by
      refine Decidable.byContradiction fun h => ?_
      rw [if_neg h] at hy; subst hy; exact hs (by simp)
    by_cases h0 : (0 : Int) < (rows.length : Int)
    · simp only [if_pos h0, if_pos (show (0 : Int) ≤ 0 ∧ 0 < (rows.length : Int) by omega)]
      exact least_j1 hk (by rw [if_neg (by omega)])
    · simp only [if_neg h0]
      exact least_j1 (P := 0) hk (by rw [if_pos (by omega)])
end Go.Proofs.Ytacbficpehmlnaa.Pure
