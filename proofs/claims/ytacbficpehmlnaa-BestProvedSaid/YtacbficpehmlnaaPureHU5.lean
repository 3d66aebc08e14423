/- Pairs by search: the pairs cost the least, and the numbers show it. -/
import Derived.Test.YtacbficpehmlnaaPureHU4
import Derived.Test.YtacbficpehmlnaaPureAU6
namespace Go.Proofs.Ytacbficpehmlnaa.Pure
open Go.RowKit Go.Proofs.YtacbficpehmlnaaK Go.Proofs.Ytacbficpehmlnaa.GBQ
set_option linter.unusedVariables false
set_option linter.unusedSimpArgs false
set_option maxRecDepth 100000
/-- Each track's plot, when the columns below i have been asked. -/
structure AT (rows : List (List Int)) (P : Nat) (ow : List Int) (i : Nat) (at_ : List Int) : Prop where
  l : at_.length = rows.length
  a : ∀ k t : Nat, k < i → k < P → t < rows.length → rd ow (k : Int) = (t : Int) → rd at_ (t : Int) = (k : Int)
  b : ∀ t : Nat, t < rows.length → (∀ k : Nat, k < i → k < P → rd ow (k : Int) ≠ (t : Int)) → rd at_ (t : Int) = -1
section
variable {rows : List (List Int)} {miss : Int} {P : Nat} {u v ow : List Int}
theorem cut_rd {l : List Int} {n k : Nat} (hk : k < n) (hn : n ≤ l.length) : rd (cut l 0 (n : Int)) (k : Int) = rd l (k : Int) := by
  have e : cut l 0 (n : Int) = l.take n := by unfold cut; simp
  rw [e, rd_get (by simp; omega), rd_get (by omega), List.getElem_take]
theorem cut_len' {l : List Int} {n : Nat} (hn : n ≤ l.length) : (cut l 0 (n : Int)).length = n := by unfold cut; simp; omega
theorem brun_l0 (h : COk rows miss P) (hi : HI rows miss P rows.length u v ow) {r : List Int × Int × Option Int} (hr : ∀ at_, AT rows P ow P at_ → Ev (fun κ => (cost_Total.f κ ⟨rows, miss⟩ at_).bind fun y57 => some (at_, y57.1, y57.2)) r → True) : ∀ (m i : Nat) (at_ : List Int), P = i + m → AT rows P ow i at_ →
    ∃ at2, AT rows P ow P at2 ∧ ∀ r, Ev (fun κ => (cost_Total.f κ ⟨rows, miss⟩ at2).bind fun y57 => some (at2, y57.1, y57.2)) r → Ev (fun κ => (best_Run.hs κ).l0 rows miss at_ (cut ow 0 (P : Int)) ((cut ow 0 (P : Int)).length : Int) (i : Int)) r
  | 0, i, at_, e, ha => by
    have hlo := hi.lo
    have e2 : i = P := by omega
    refine ⟨at_, e2 ▸ ha, fun r hr => Ev.step (fun k => rfl) ?_⟩
    simp only [best_Run.hs, best_Run.b0, if_neg (show ¬ (i : Int) < ((cut ow 0 (P : Int)).length : Int) by rw [cut_len' (by omega)]; omega)]
    exact hr
  | m + 1, i, at_, e, ha => by
    have hlo := hi.lo; have hn := h.n; have hp := h.p
    have hl := cut_len' (l := ow) (n := P) (by omega)
    have hlt : (i : Int) < ((cut ow 0 (P : Int)).length : Int) := by omega
    have hrd : rd (cut ow 0 (P : Int)) (i : Int) = rd ow (i : Int) := cut_rd (by omega) (by omega)
    rcases hi.ho i (by omega) with ho | ⟨t, ht, ho⟩
    · obtain ⟨at2, q, w⟩ := brun_l0 h hi hr m (i + 1) at_ (by omega) ⟨ha.l, fun k t hk hkP ht hkt => ha.a k t (by
        by_cases ek : k = i
        · subst ek; rw [ho] at hkt; omega
        · omega) hkP ht hkt, fun t ht hh => ha.b t ht fun k hk hkP => hh k (by omega) hkP⟩
      refine ⟨at2, q, fun r hr => Ev.step (fun k => rfl) ?_⟩
      simp only [best_Run.hs, best_Run.b0, if_pos hlt, if_pos (show (0 : Int) ≤ (i : Int) ∧ (i : Int) < ((cut ow 0 (P : Int)).length : Int) from ⟨by omega, hlt⟩), hrd, ho, if_true, wsucc (show i < 1000000000 by omega)]
      exact w r hr
    · have lat : (0 : Int) ≤ (t : Int) ∧ (t : Int) < (at_.length : Int) := by have := ha.l; omega
      obtain ⟨at2, q, w⟩ := brun_l0 h hi hr m (i + 1) (at_.set t (i : Int)) (by omega) ⟨by simpa using ha.l, fun k s hk hkP hs hks => by
        rw [rdset (by have := ha.l; omega) (by have := ha.l; omega)]
        by_cases ek : k = i
        · subst ek
          have : t = s := by rw [ho] at hks; omega
          subst this; rw [if_pos rfl]
        · have hne : t ≠ s := fun z => by
            subst z
            exact ek (hi.un k i (by omega) (by omega) (by rw [hks, ho]) (by rw [hks]; omega))
          rw [if_neg hne]; exact ha.a k s (by omega) hkP hs hks, fun s hs hh => by
        have hne : t ≠ s := fun z => by subst z; exact hh i (by omega) (by omega) ho
        rw [rdset (by have := ha.l; omega) (by have := ha.l; omega), if_neg hne]
        exact ha.b s hs fun k hk hkP => hh k (by omega) hkP⟩
      refine ⟨at2, q, fun r hr => Ev.step (fun k => rfl) ?_⟩
      simp only [best_Run.hs, best_Run.b0, if_pos hlt, if_pos (show (0 : Int) ≤ (i : Int) ∧ (i : Int) < ((cut ow 0 (P : Int)).length : Int) from ⟨by omega, hlt⟩), hrd, ho, if_neg (show ¬ (t : Int) = -1 by omega), if_pos lat, wsucc (show i < 1000000000 by omega), Int.toNat_natCast]
      exact w r hr
/-! ### what they cost -/
theorem PI_eq {S M : Int} {pr : List Int} : ∀ (rs : List (List Int)) (xs us : List Int), rs.length = xs.length → rs.length = us.length → (∀ i : Nat, i < rs.length → pi_ S M pr (rd rs (i : Int)) (rd xs (i : Int)) = -S * rd us (i : Int)) → PI S M pr rs xs = -S * sm us
  | [], [], [], _, _, _ => by simp [PI, sm]
  | r :: rs, x :: xs, w :: us, e1, e2, h => by
    have h0 := h 0 (by simp)
    have ih := PI_eq rs xs us (by simpa using e1) (by simpa using e2) (fun i hi => by
      have := h (i + 1) (by simpa using hi)
      rw [rd_get (by simpa using hi), rd_get (by simp at e1; simp; omega), rd_get (by simp at e2; simp; omega)] at this
      rw [rd_get hi, rd_get (by simp at e1; omega), rd_get (by simp at e2; omega)]
      simpa using this)
    have h0' : pi_ S M pr r x = -S * w := h0
    simp only [PI, sm]; rw [ih, h0', Int.mul_add]
  | [], _ :: _, _, e, _, _ => by simp at e
  | [], [], _ :: _, _, e, _ => by simp at e
  | _ :: _, [], _, e, _, _ => by simp at e
  | _ :: _, _ :: _, [], _, e, _ => by simp at e
theorem sm_map {S : Int} : ∀ l : List Int, sm (l.map fun x => -S * x) = -S * sm l
  | [] => by simp [sm]
  | x :: l => by simp only [List.map_cons, sm, sm_map l, Int.mul_add]
theorem zip_rd {rs : List (List Int)} {xs : List Int} (hl : rs.length = xs.length) {x : List Int × Int} (hx : x ∈ rs.zip xs) : ∃ i : Nat, i < rs.length ∧ x.1 = rd rs (i : Int) ∧ x.2 = rd xs (i : Int) := by
  obtain ⟨i, hi, rfl⟩ := List.getElem_of_mem hx
  rw [List.length_zip] at hi
  refine ⟨i, by omega, ?_, ?_⟩
  · rw [List.getElem_zip, rd_get (by omega)]
  · rw [List.getElem_zip, rd_get (by omega)]
/-- A track's plot, by its owner. -/
theorem at_case (hi : HI rows miss P rows.length u v ow) {at_ : List Int} (ha : AT rows P ow P at_) {t : Nat} (ht : t < rows.length) : (rd at_ (t : Int) = -1 ∧ rd u (t : Int) = miss) ∨ ∃ k : Nat, k < P ∧ rd at_ (t : Int) = (k : Int) ∧ rd ow (k : Int) = (t : Int) ∧ 0 ≤ rd (rd rows (t : Int)) (k : Int) ∧ rd u (t : Int) + rd v (k : Int) = rd (rd rows (t : Int)) (k : Int) := by
  obtain ⟨k, hk, hkt⟩ := hi.all t ht
  obtain ⟨e1, e2⟩ := hi.al k t hk hkt
  by_cases hP : k < P
  · right
    refine ⟨k, hP, ha.a k t hP hP ht hkt, hkt, ?_⟩
    unfold pc at e1 e2
    rw [if_neg (by omega)] at e1 e2
    by_cases hneg : rd (rd rows (t : Int)) (k : Int) < 0
    · rw [if_pos hneg] at e1; cases e1
    · rw [if_neg hneg] at e2; exact ⟨by omega, e2⟩
  · left
    obtain ⟨s, rfl⟩ : ∃ s, k = P + s := ⟨k - P, by omega⟩
    rw [pc_own] at e1 e2
    simp at e1; subst e1
    have := hi.vz _ hk (.inl (by omega))
    refine ⟨ha.b s ht fun k' hk' _ z => ?_, by simp only at e2; omega⟩
    have := hi.un k' (P + s) (by omega) hk (by rw [z, hkt]) (by rw [z]; omega)
    omega
theorem best_of (h : COk rows miss P) (hi : HI rows miss P rows.length u v ow) {at_ : List Int} (ha : AT rows P ow P at_) : ∃ own, tot miss rows at_ [] 0 = some own ∧ (∀ ps m, rows.length = ps.length → tot miss rows ps [] 0 = some m → own ≤ m) ∧ own = sm u + sm (v.take P) := by
  have hlv := hi.lv; have hlu := hi.lu; have hl := ha.l
  generalize hS : (rows.length : Int) + 1 = S
  have hpl : ((v.take P).map fun x => -S * x).length = P := by simp; omega
  generalize hpr : (v.take P).map (fun x => -S * x) = pr at hpl
  have prd : ∀ k : Nat, k < P → rd pr (k : Int) = -S * rd v (k : Int) := fun k hk => by
    subst hpr
    rw [rd_get (by omega), rd_get (by omega)]; simp
  have pr0 : ∀ x ∈ pr, 0 ≤ x := fun x hx => by
    obtain ⟨k, hk, rfl⟩ := List.getElem_of_mem hx
    have := prd k (by omega)
    rw [rd_get hk] at this; rw [this]
    have hv := hi.v0 k (by omega)
    rw [Int.neg_mul, ← Int.mul_neg]; exact Int.mul_nonneg (by omega) (by omega)
  have hM : -S * miss = -S * miss := rfl
  have hpi : ∀ t : Nat, t < rows.length → pi_ S (-S * miss) pr (rd rows (t : Int)) (rd at_ (t : Int)) = -S * rd u (t : Int) := fun t ht => by
    unfold pi_
    rcases at_case hi ha ht with ⟨e1, e2⟩ | ⟨k, hk, e1, e2, e3, e4⟩
    · rw [if_pos e1, e2]
    · rw [e1, if_neg (by omega), prd k hk, ← e4, Int.mul_add]; omega
  have hnd : at_.Pairwise (fun a b => a ≠ -1 → a ≠ b) := by
    rw [List.pairwise_iff_getElem]
    intro i j hi' hj hij hne e
    rcases at_case hi ha (t := i) (by omega) with ⟨e1, _⟩ | ⟨k, hk, e1, e2, _⟩
    · rw [rd_get hi'] at e1; exact hne e1
    · rcases at_case hi ha (t := j) (by omega) with ⟨e3, _⟩ | ⟨k', hk', e3, e4, _⟩
      · rw [rd_get hj, ← e] at e3; exact hne e3
      · rw [rd_get hi'] at e1; rw [rd_get hj, ← e, e1] at e3
        have : k = k' := by omega
        subst this; rw [e2] at e4; omega
  obtain ⟨own, o1, o2⟩ := tot_own (S := S) (M := -S * miss) (pr := pr) (P := P) hM rows at_ [] 0 (by omega) (fun x hx => by
    obtain ⟨t, ht, e1, e2⟩ := zip_rd (by omega) hx
    rw [e1, e2]
    refine ⟨(cok_row h ht).1, ?_⟩
    rcases at_case hi ha ht with ⟨e3, _⟩ | ⟨k, hk, e3, _, e5, _⟩
    · exact .inl e3
    · right; rw [e3]; exact ⟨by omega, by omega, e5⟩) hnd (fun _ _ _ => rfl)
  have hPI : PI S (-S * miss) pr rows at_ = -S * sm u := PI_eq rows at_ u (by omega) (by omega) hpi
  have hsm : sm pr = -S * sm (v.take P) := by rw [← hpr]; exact sm_map _
  have f := psum_ge (P := P) (l := at_) (pr := pr) hpl pr0 (fun x hx => by
    obtain ⟨t, ht, rfl⟩ := List.getElem_of_mem hx
    rcases at_case hi ha (t := t) (by omega) with ⟨e1, _⟩ | ⟨k, hk, e1, _⟩
    · rw [rd_get ht] at e1; exact .inl e1
    · rw [rd_get ht] at e1; right; omega) (fun p hp hne => by
    obtain ⟨k, rfl⟩ : ∃ k : Nat, (k : Int) = p := ⟨p.toNat, by omega⟩
    have ho : rd ow (k : Int) ≠ -1 := fun z => hne (by rw [prd k (by omega), hi.vz k (by omega) (.inr z)]; simp)
    obtain ⟨t, ht, e⟩ := (hi.ho k (by omega)).resolve_left ho
    have := ha.a k t (by omega) (by omega) ht e
    rw [← this]; exact rd_mem (by omega))
  have lower : ∀ ps m, rows.length = ps.length → tot miss rows ps [] 0 = some m → sm u + sm (v.take P) ≤ m := fun ps m hps hm => by
    have g := tot_ge (S := S) (M := -S * miss) (pr := pr) (P := P) hM rows at_ ps [] 0 m pr (by omega) hps hpl pr0 (fun _ _ _ => rfl) (fun x hx => by
      obtain ⟨t, ht, e1, e2⟩ := zip_rd (by omega) hx
      rw [e1, e2, hpi t ht]
      have hub := hi.ub ht
      refine ⟨(cok_row h ht).1, ?_, fun q hq hk => ?_⟩
      · have : S * rd u (t : Int) ≤ S * miss := Int.mul_le_mul_of_nonneg_left hub (by omega)
        rw [Int.neg_mul, Int.neg_mul]; omega
      · obtain ⟨k, rfl⟩ : ∃ k : Nat, (k : Int) = q := ⟨q.toNat, by omega⟩
        have hkP : k < P := by omega
        have fe := hi.fe t k ht (by omega) (by unfold pc; rw [if_neg (by omega), if_neg (by omega)])
        unfold pc at fe; rw [if_neg (by omega), if_neg (by omega)] at fe
        simp only at fe
        rw [prd k hkP]
        have : S * (rd u (t : Int) + rd v (k : Int)) ≤ S * rd (rd rows (t : Int)) (k : Int) := Int.mul_le_mul_of_nonneg_left fe (by omega)
        rw [Int.mul_add] at this
        rw [Int.neg_mul, Int.neg_mul, Int.neg_mul]; omega) hm
    rw [hPI, hsm] at g
    refine Decidable.byContradiction fun hlt => ?_
    have k1 : S * (m + 1) ≤ S * (sm u + sm (v.take P)) := Int.mul_le_mul_of_nonneg_left (by omega) (by omega)
    rw [Int.mul_add, Int.mul_add] at k1
    rw [Int.neg_mul, Int.neg_mul] at g
    omega
  have e1 := lower at_ own (by omega) o1
  have e2 : own ≤ sm u + sm (v.take P) := by
    rw [hPI] at o2
    rw [hsm] at f
    refine Decidable.byContradiction fun hlt => ?_
    have k1 : S * (sm u + sm (v.take P) + 1) ≤ S * own := Int.mul_le_mul_of_nonneg_left (by omega) (by omega)
    rw [Int.mul_add, Int.mul_add] at k1
    rw [Int.neg_mul] at o2 f
    omega
  have e3 : own = sm u + sm (v.take P) := by omega
  exact ⟨own, o1, fun ps m hps hm => by rw [e3]; exact lower ps m hps hm, e3⟩
end
/-- The program's pairs, what they cost, and its numbers. -/
theorem best_all {rows : List (List Int)} {miss : Int} (hc : chkB rows miss = true) : ∃ at_ own, (Ev (fun κ => best_Run.f κ ⟨rows, miss⟩) (at_, own, none)) ∧ at_.length = rows.length ∧ tot miss rows at_ [] 0 = some own ∧ (∀ ps m, rows.length = ps.length → tot miss rows ps [] 0 = some m → own ≤ m) ∧
    ∃ u v, Ev (fun κ => best_Proof.f κ ⟨rows, miss⟩) (u, v, none) ∧ ShC rows miss (Pl rows) u v own := by
  have h := cok_pl hc
  have hn := h.n; have hp := h.p; have m4 := h.m
  obtain ⟨u, v, ow, ws, hi⟩ := solved_ev hc
  have hlo := hi.lo; have hlu := hi.lu; have hlv := hi.lv
  obtain ⟨at_, ha, wa⟩ := brun_l0 h hi (r := ([], 0, none)) (fun _ _ _ => trivial) (Pl rows) 0 (List.replicate rows.length (-1)) (by omega) ⟨by simp, fun k t hk => by omega, fun t ht _ => (List.mem_replicate.1 (rd_mem (L := List.replicate rows.length (-1 : Int)) (x := (t : Int)) (by simp; omega))).2⟩
  obtain ⟨own, o1, o2, o3⟩ := best_of h hi ha
  have hal := ha.l
  have c1 : (0 : Int) ≤ 0 ∧ (0 : Int) ≤ (Pl rows : Int) ∧ (Pl rows : Int) ≤ (ow.length : Int) := by omega
  have c2 : (0 : Int) ≤ 0 ∧ (0 : Int) ≤ (Pl rows : Int) ∧ (Pl rows : Int) ≤ (v.length : Int) := by omega
  have hcut : cut v 0 (Pl rows : Int) = v.take (Pl rows) := by unfold cut; simp
  refine ⟨at_, own, ?_, hal, o1, o2, u, v.take (Pl rows), ?_, ?_⟩
  · unfold best_Run.f
    refine Ev.bind ws ?_
    simp only [oe, Option.isSome_none, Bool.false_eq_true, if_false]
    refine Ev.bind (repeat_ev (by omega)) ?_
    simp only [if_pos c1]
    refine wa _ (Ev.bind total_ev ?_)
    simp only [if_pos hc, if_pos hal, o1, totR]
    exact Ev.now
  · unfold best_Proof.f
    refine Ev.bind ws ?_
    simp only [oe, Option.isSome_none, Bool.false_eq_true, if_false, slices_Clone_int64_int64.f, if_pos (show 0 + u.length ≤ 17592186044288 by omega), Option.bind_some, if_pos c2, hcut, if_pos (show 0 + (v.take (Pl rows)).length ≤ 17592186044288 by simp; omega)]
    exact Ev.now
  · have vt : ∀ k : Nat, k < Pl rows → rd (v.take (Pl rows)) (k : Int) = rd v (k : Int) := fun k hk => by rw [← hcut]; exact cut_rd hk (by omega)
    refine ⟨hlu, by simp; omega, fun x hx => ?_, fun x hx => ?_, fun t k ht hk hx => ?_, by rw [o3]⟩
    · obtain ⟨t, ht, rfl⟩ := List.getElem_of_mem hx
      have a1 := hi.ub (t := t) (by omega); have a2 := hi.u0 t (by omega)
      rw [rd_get ht] at a1 a2
      exact ⟨a1, by unfold Lw; omega⟩
    · obtain ⟨k, hk, rfl⟩ := List.getElem_of_mem hx
      have hk2 : k < Pl rows := by simp at hk; omega
      have := hi.vb h (Nat.le_refl _) (k := k) (by omega)
      rw [← vt k hk2, rd_get hk] at this
      exact ⟨this.2, by unfold Lw; omega⟩
    · have hk2 : k < Pl rows := by simp at hk; omega
      rw [vt k hk2]
      have fe := hi.fe t k (by omega) (by omega) (by unfold pc; rw [if_neg (by omega), if_neg (by omega)])
      unfold pc at fe; rw [if_neg (by omega), if_neg (by omega)] at fe
      exact fe
end Go.Proofs.Ytacbficpehmlnaa.Pure
