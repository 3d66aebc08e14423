/- The plain law of CatBack. -/
import Derived.Test.YtlokgnjlnefbbaaDoorPureCB3
namespace Go.Proofs.YtlokgnjlnefbbaaDoor.Pure
open Go.RowKit Go.Proofs.YtlokgnjlnefbbaaDoorK Go.Proofs.YtlokgnjlnefbbaaDoor.GCB
set_option linter.unusedVariables false
set_option linter.unusedSimpArgs false
set_option maxRecDepth 100000
theorem arek_l0 {l : List radomeref28_Record} (hl : l.length ≤ 64) : ∀ (n i : Nat), l.length = i + n → Ev (fun k => (radomelaw28_areRecords.hs k).l0 (l.map gk) l false (i : Int)) true
  | 0, i, e => by
    refine Ev.step (fun k => rfl) ?_
    simp only [radomelaw28_areRecords.hs, radomelaw28_areRecords.b0, List.length_map, if_neg (show ¬ (i : Int) < (l.length : Int) by omega)]; exact Ev.now
  | n + 1, i, e => by
    have hi : i < l.length := by omega
    have hi' : i < (l.map gk).length := by simpa using hi
    refine Ev.step (fun k => rfl) ?_
    have er : rd (l.map gk) (i : Int) = gk l[i] := by rw [rdg hi', List.getElem_map]
    have hb : ∀ b : Bool, (b == b) = true := fun b => by cases b <;> rfl
    have hp : (0 : Int) ≤ (i : Int) ∧ (i : Int) < (l.length : Int) := by omega
    simp only [radomelaw28_areRecords.hs, radomelaw28_areRecords.b0, List.length_map, er, rdg hi, gk, wsc (show i < 1000000000 by omega), hp, and_self, if_true, decide_true, Bool.and_self, Bool.not_true, Bool.not_false, Bool.or_self, hb, imp_self, implies_true, if_neg (show ¬ false = true by decide)]
    have := arek_l0 hl n (i + 1) (by omega)
    simpa using this
theorem arek_ev {l : List radomeref28_Record} (hl : l.length ≤ 64) : Ev (fun k => radomelaw28_areRecords.f k (l.map gk) l) true := by
  unfold radomelaw28_areRecords.f
  simp only [List.length_map, if_true]
  exact arek_l0 hl l.length 0 (by omega)
theorem same_l0 {x : List cat048_Record} (hl : x.length ≤ 64) : ∀ (n i : Nat), x.length = i + n → Ev (fun k => (radomelaw28_CatBack.hs k).l0 false x x (i : Int)) true
  | 0, i, e => by
    refine Ev.step (fun k => rfl) ?_
    simp only [radomelaw28_CatBack.hs, radomelaw28_CatBack.b0, if_neg (show ¬ (i : Int) < (x.length : Int) by omega)]
    exact Ev.bind sure28_ev Ev.now
  | n + 1, i, e => by
    refine Ev.step (fun k => rfl) ?_
    have hb : ∀ b : Bool, (b == b) = true := fun b => by cases b <;> rfl
    simp only [radomelaw28_CatBack.hs, radomelaw28_CatBack.b0, if_pos (show (i : Int) < (x.length : Int) by omega), if_pos (show (0 : Int) ≤ (i : Int) ∧ (i : Int) < (x.length : Int) by omega), wsc (show i < 1000000000 by omega), decide_true, Bool.and_self, hb, Bool.not_true, if_neg (show ¬ false = true by decide)]
    exact same_l0 hl n (i + 1) (by omega)
def kg (r : cat048_Record) : radomeref28_Record := ⟨r.f_Source, ⟨r.f_Plot.f_Range, r.f_Plot.f_Azimuth, r.f_Plot.f_Time⟩, r.f_Is⟩
theorem gk_kg (x : List cat048_Record) : (x.map kg).map gk = x := by
  rw [List.map_map]
  have : (gk ∘ kg) = id := funext fun r => rfl
  rw [this, List.map_id]
theorem encK_some {l : List radomeref28_Record} (h : ¬ (encK l).2.isSome = true) : (1 ≤ l.length ∧ l.length ≤ 64) ∧ (∀ r ∈ l, MayK r) ∧ encK l = (encB l, none) := by
  unfold encK at h ⊢
  by_cases a : (decide ((l.length : Int) < 1) || decide (64 < (l.length : Int))) = true
  · rw [if_pos a] at h; exact absurd rfl h
  · rw [if_neg a] at h ⊢
    by_cases c : allK l = true
    · rw [if_pos c]
      simp at a
      exact ⟨by omega, fun r hr => of_decide_eq_true (List.all_eq_true.1 c r hr), rfl⟩
    · rw [if_neg c] at h; exact absurd rfl h
theorem encK_err {l : List radomeref28_Record} (h : (encK l).2.isSome = true) : encK l = ([], some 1) := by
  unfold encK at h ⊢
  by_cases a : (decide ((l.length : Int) < 1) || decide (64 < (l.length : Int))) = true
  · rw [if_pos a]
  · rw [if_neg a] at h ⊢
    by_cases c : allK l = true
    · rw [if_pos c] at h; cases h
    · rw [if_neg c]
theorem back28_j1 {b : List Int} (hb : Byt b) : Ev (fun k => radomelaw28_CatBack.j1 k (radomelaw28_CatBack.hs k) b false) true := by
  unfold radomelaw28_CatBack.j1
  obtain ⟨R, hR, r1, r2⟩ := cdecode_any hb
  refine Ev.bind hR ?_
  by_cases h : R.2.isSome = true
  · simp only [if_pos h, r1 h, List.length_nil, show decide ((((0 : Nat) : Int)) = 0) = true by decide, gdtt, Bool.true_and]
    exact Ev.bind sure28_ev Ev.now
  · have hw := r2 (isN h)
    have he := encP_ev (l := R.1.map kg) (fun r hr => by
      obtain ⟨c, hc, rfl⟩ := List.mem_map.1 hr
      have w := hw c hc
      exact ⟨w.s, w.rg, w.a, w.t⟩)
    rw [gk_kg] at he
    simp only [if_neg h]
    refine Ev.bind he ?_
    by_cases g : (encK (R.1.map kg)).2.isSome = true
    · rw [encK_err g]
      simp only [Option.isSome_some, if_true, show decide (errN (some 1) = 1) = true by decide, gdtt, Bool.true_and]
      exact Ev.bind sure28_ev Ev.now
    · obtain ⟨g1, g2, g3⟩ := encK_some g
      rw [g3]
      simp only [Option.isSome_none, if_neg (show ¬ false = true by decide)]
      have hd := cdecode_of (l := R.1.map kg) (fun r hr => by
        refine ⟨?_, g2 r hr⟩
        obtain ⟨c, hc, rfl⟩ := List.mem_map.1 hr
        have w := hw c hc
        exact ⟨w.s, w.rg, w.a, w.t⟩) g1
      rw [gk_kg] at hd
      refine Ev.bind hd ?_
      simp only [Option.isSome_none, decide_true, Bool.not_true, Bool.or_self, if_neg (show ¬ false = true by decide)]
      rw [List.length_map] at g1
      exact same_l0 g1.2 R.1.length 0 (by omega)
theorem CatBack : radomelaw28_CatBack.Pure := by
  intro l b cut_ hl hb hc
  have hb : Byt b := fun x hx => by have := hb.2 x hx; simp [Lit.wf, IntKind.min, IntKind.max, IntKind.signed, IntKind.bits] at this; omega
  have hw : ∀ r ∈ l, Wk r := fun r hr => by
    have := hl.2 r hr
    simp [Lit.wf, IntKind.min, IntKind.max, IntKind.signed, IntKind.bits] at this
    exact ⟨by omega, by omega, by omega, by omega⟩
  refine Ev.ex ?_
  unfold radomelaw28_CatBack.f
  refine Ev.bind (gvk_ev (by omega)) ?_
  refine Ev.bind (encP_ev hw) ?_
  by_cases g : (encK l).2.isSome = true
  · rw [encK_err g]
    simp only [Option.isNone_some, Bool.false_and, if_neg (show ¬ false = true by decide)]
    exact back28_j1 hb
  · obtain ⟨g1, g2, g3⟩ := encK_some g
    rw [g3]
    have hlen := encB_len l
    have d1 := cdecode_of (fun r hr => ⟨hw r hr, g2 r hr⟩) g1
    have hu : (3 + 10 * (l.length : Int)) % 18446744073709551616 = 3 + 10 * (l.length : Int) := by omega
    have hm0 : 0 ≤ cut_ % 18446744073709551616 := by omega
    have hm : Int.tmod (cut_ % 18446744073709551616) (3 + 10 * (l.length : Int)) = (cut_ % 18446744073709551616) % (3 + 10 * (l.length : Int)) := Int.tmod_eq_emod_of_nonneg hm0
    have hm1 := Int.emod_nonneg (cut_ % 18446744073709551616) (show 3 + 10 * (l.length : Int) ≠ 0 by omega)
    have hm2 := Int.emod_lt_of_pos (cut_ % 18446744073709551616) (show 0 < 3 + 10 * (l.length : Int) by omega)
    simp only [hlen, Option.isNone_none, Bool.true_and, decide_eq_true_eq, if_neg (show ¬ 3 + 10 * (l.length : Int) = 0 by omega), if_true, hu, hm]
    generalize (cut_ % 18446744073709551616) % (3 + 10 * (l.length : Int)) = m at hm1 hm2
    obtain ⟨q, rfl⟩ : ∃ q : Nat, (q : Int) = m := ⟨m.toNat, by omega⟩
    obtain ⟨R, d2, d2'⟩ := cdecode_cut (l := l) g1.2 (m := q) (by omega)
    obtain ⟨T, d3, d3'⟩ := cdecode_more (l := l) g1.2
    have hcut : cut (encB l) 0 (q : Int) = (encB l).take q := by unfold cut; rw [Int.toNat_natCast]; rfl
    refine Ev.bind d1 ?_
    simp only [ne_eq, if_pos (show ¬ 3 + 10 * (l.length : Int) = 0 by omega), wi (show -9223372036854775808 ≤ (q : Int) ∧ (q : Int) ≤ 9223372036854775807 by omega), if_pos (show (0 : Int) ≤ 0 ∧ (0 : Int) ≤ (q : Int) ∧ (q : Int) ≤ 3 + 10 * (l.length : Int) by omega), hcut]
    refine Ev.bind d2 ?_
    simp only [if_pos (show (encB l).length + 1 ≤ 140737488355232 by omega)]
    refine Ev.bind d3 ?_
    simp only [Option.isSome_none, Bool.not_false, gdtt]
    refine Ev.bind (arek_ev g1.2) ?_
    simp only [Bool.not_true, Bool.or_self, d2', d3', if_neg (show ¬ false = true by decide)]
    exact back28_j1 hb
end Go.Proofs.YtlokgnjlnefbbaaDoor.Pure
