/- The plain law of BoundAfter. -/
import Derived.Test.YtkccpkccdbfomaaGreatDoorPureBD1L35
namespace Go.Proofs.YtkccpkccdbfomaaGreatDoor.Pure
open Go.RowKit Go.Proofs.YtkccpkccdbfomaaGreatDoorK Go.Proofs.YtkccpkccdbfomaaGreatDoor.GBA
set_option linter.unusedVariables false
set_option linter.unusedSimpArgs false
set_option maxRecDepth 100000
theorem G0 (n : Int) : pr n < 0 ↔ n < 0 := by
  unfold pr
  rw [← Rat.divInt_ofNat, ← Rat.not_le, Rat.divInt_nonneg_iff_of_pos_right (by decide)]; omega
theorem str8 : str_8 = rtxt 0 := by rw [MN]; decide +kernel
theorem JX {x : Int} (h : (Lit.int .i64 x).wf = true) : -9223372036854775808 ≤ x ∧ x ≤ 9223372036854775807 := by
  simpa [Lit.wf, IntKind.min, IntKind.max, IntKind.signed, IntKind.bits] using h
def Bad (x y n : Int) : Prop := x < 0 ∨ y < 0 ∨ n < 0 ∨ 32 < n
theorem Uj {x y n : Int} (hx : -9223372036854775808 ≤ x ∧ x ≤ 9223372036854775807) (hy : -9223372036854775808 ≤ y ∧ y ≤ 9223372036854775807) : ∃ a e, Ev (fun k => QN.f k (Rb (pr x)) (Rb (pr y)) n) (a, e) ∧ (Bad x y n → a = Z0 ∧ e = some 1) ∧ (¬ Bad x y n → e = none ∧ Lk a (aft (pr x) (pr y) n.toNat)) := by
  by_cases g : Bad x y n
  · refine ⟨Z0, some 1, UL ?_, fun _ => ⟨rfl, rfl⟩, fun h => absurd g h⟩
    rcases g with g | g | g | g
    · exact .inl ((G0 x).2 g)
    · exact .inr (.inl ((G0 y).2 g))
    · exact .inr (.inr (.inl g))
    · exact .inr (.inr (.inr g))
  · unfold Bad at g
    obtain ⟨m, rfl⟩ : ∃ m : Nat, n = (m : Int) := ⟨n.toNat, by omega⟩
    obtain ⟨a, h1, h2⟩ := Vd (Je hx) (Je hy) (Rat.not_lt.1 fun h => g (.inl ((G0 x).1 h))) (Rat.not_lt.1 fun h => g (.inr (.inl ((G0 y).1 h)))) (n := m) (by omega)
    exact ⟨a, none, h2, fun h => absurd h g, fun _ => ⟨rfl, h1⟩⟩
theorem WZ : Z0.f_n.f_neg = false ∧ Z0.f_n.f_w = [] ∧ Z0.f_d.f_neg = false ∧ Z0.f_d.f_w = [] := by rw [← JT]; exact ⟨rfl, rfl, rfl, rfl⟩
theorem Vy {x y n : Int} {t : Bool} {a : Qg} {e : Option Int} (hx : -9223372036854775808 ≤ x ∧ x ≤ 9223372036854775807) (hy : -9223372036854775808 ≤ y ∧ y ≤ 9223372036854775807) (h1 : Bad x y n → a = Z0 ∧ e = some 1) (h2 : ¬ Bad x y n → e = none ∧ Lk a (aft (pr x) (pr y) n.toNat)) : Ev (fun k => radomelaw35_BoundAfter.j1 k n x y t a.f_n.f_neg a.f_n.f_w a.f_d.f_neg a.f_d.f_w e) true := by
  unfold radomelaw35_BoundAfter.j1
  simp only [reta]
  by_cases g : Bad x y n
  · obtain ⟨rfl, rfl⟩ := h1 g
    have c : ((((decide (x < 0)) || (decide (y < 0))) || (decide (n < 0))) || (decide (32 < n))) = true := by
      rcases g with g | g | g | g <;> simp [g]
    simp only [c, if_true, show errN (some 1) = 1 from rfl, decide_true, gdt]
    refine Ev.bind (JQ lk_z Jc (by decide +kernel)) ?_
    simp only [str8, decide_true, Bool.and_self, gdt]
    exact Ev.bind L35.sure_ev Ev.now
  · obtain ⟨rfl, hl⟩ := h2 g
    have c : ((((decide (x < 0)) || (decide (y < 0))) || (decide (n < 0))) || (decide (32 < n))) = false := by
      unfold Bad at g; simp; omega
    simp only [c, Bool.false_eq_true, if_false, Option.isNone_none, Bool.true_or, gdt]
    by_cases g2 : 12 < n
    · simp only [if_pos g2]
      exact Ev.bind L35.sure_ev Ev.now
    · simp only [if_neg g2]
      unfold Bad at g
      obtain ⟨m, rfl⟩ : ∃ m : Nat, n = (m : Int) := ⟨n.toNat, by omega⟩
      have hR := Mn (Je hx) (Je hy) m
      rw [Int.toNat_natCast] at hl
      refine Ev.bind (JQ hl hR (G2 m (by omega))) (Ev.bind (JG hx) (Ev.bind (JG hy) (Ev.bind (UA (Je hx) (Je hy) (by omega)) (Ev.bind (Nc hR (G2 m (by omega))) ?_))))
      simp only [decide_true, Bool.and_self, gdt]
      exact Ev.bind L35.sure_ev Ev.now
theorem cut70 (l : List Int) : cut l 0 (min (l.length : Int) 70) = l.take 70 := by
  unfold cut
  rw [show (0 : Int).toNat = 0 from rfl, List.drop_zero]
  by_cases h : l.length ≤ 70
  · rw [List.take_of_length_le (by omega), List.take_of_length_le (by omega)]
  · congr 1; omega
theorem mapR (l : List Int) : (l.map fun x => Rb (pr x)) = (l.map pr).map Rb := by rw [List.map_map]; rfl
theorem mapF (l : List Int) : (l.map fun x => Fb (pr x)) = (l.map pr).map Fb := by rw [List.map_map]; rfl
theorem Z9 {l : List Int} (h : I64 l) (n : Nat) : I64 (l.take n) := fun x hx => h x (List.mem_of_mem_take hx)
theorem Jf {l : List Int} (h : I64 l) : ∀ r ∈ l.map pr, Rs M63 r := fun r hr => by
  obtain ⟨x, hx, rfl⟩ := List.mem_map.1 hr; exact Je (h x hx)
theorem BoundAfter : radomelaw35_BoundAfter.Pure := by
  intro of_ n l hof hn hl
  have hx := JX hof.1; have hy := JX hof.2
  have i0 : I64 l.e0 := fun x h => JX (hl.1.2 x h)
  have i1 : I64 l.e1 := fun x h => JX (hl.2.2 x h)
  show ∃ k, (fun k => radomelaw35_BoundAfter.f k of_ n l) k = some true
  refine Ev.ex ?_
  unfold radomelaw35_BoundAfter.f
  obtain ⟨a, e, ha, h1, h2⟩ := Uj (n := n) hx hy
  have t0 : (l.e0.take 70).length ≤ 70 := by rw [List.length_take]; omega
  have t1 : (l.e1.take 70).length ≤ 70 := by rw [List.length_take]; omega
  refine Ev.bind (JG hx) (Ev.bind (L35.giveRatio_ev (Je hx) GO) (Ev.bind (JG hy) (Ev.bind (L35.giveRatio_ev (Je hy) GO) (Ev.bind ha ?_))))
  simp only [if_pos (show (0 : Int) ≤ 0 ∧ (0 : Int) ≤ min (l.e0.length : Int) 70 ∧ min (l.e0.length : Int) 70 ≤ (l.e0.length : Int) by omega), if_pos (show (0 : Int) ≤ 0 ∧ (0 : Int) ≤ min (l.e1.length : Int) 70 ∧ min (l.e1.length : Int) 70 ≤ (l.e1.length : Int) by omega), cut70]
  refine Ev.bind (JU (Z9 i0 70) (by omega)) (Ev.bind (MH (Z9 i0 70) (by omega)) (Ev.bind (JU (Z9 i1 70) (by omega)) (Ev.bind (MH (Z9 i1 70) (by omega)) ?_)))
  by_cases g : 70 < l.e0.length ∨ 70 < l.e1.length
  · -- too long: whatever Off answers
    have c : ((decide (70 < (l.e0.length : Int))) || (decide (70 < (l.e1.length : Int)))) = true := by
      rcases g with g | g
      · simp; omega
      · simp; omega
    have fin : ∀ r : Qg × Option Int, Ev (fun k => Xm.f k ((l.e0.take 70).map fun x => Rb (pr x)) ((l.e1.take 70).map fun x => Rb (pr x))) r → Ev (fun k => (Xm.f k ((l.e0.take 70).map fun x => Rb (pr x)) ((l.e1.take 70).map fun x => Rb (pr x))).bind fun y90 => if ((decide (70 < (l.e0.length : Int))) || (decide (70 < (l.e1.length : Int)))) = true then ((XS.f k).bind fun y120 => some (y120)) else none) true := fun r hr => by
      refine Ev.bind hr ?_
      simp only [c, if_true]
      exact Ev.bind L35.sure_ev Ev.now
    simp only [c, if_true] at fin ⊢
    by_cases g3 : (l.e0.take 70).length = (l.e1.take 70).length ∧ (l.e0.take 70).length ≤ 64
    · obtain ⟨x, _, hx2⟩ := Uv (a := (l.e0.take 70).map pr) (b := (l.e1.take 70).map pr) (by rw [List.length_map, List.length_map]; exact g3.1) (by rw [List.length_map]; exact g3.2) (Jf (Z9 i0 70)) (Jf (Z9 i1 70))
      rw [← mapR, ← mapR] at hx2
      exact fin _ hx2
    · exact fin _ (N1 (by rw [List.length_map, List.length_map]; omega))
  · have c : ((decide (70 < (l.e0.length : Int))) || (decide (70 < (l.e1.length : Int)))) = false := by simp; omega
    have e0 : l.e0.take 70 = l.e0 := List.take_of_length_le (by omega)
    have e1 : l.e1.take 70 = l.e1 := List.take_of_length_le (by omega)
    simp only [c, Bool.false_eq_true, if_false, e0, e1]
    by_cases g3 : l.e0.length = l.e1.length ∧ l.e0.length ≤ 64
    · have c2 : ((!decide ((l.e0.length : Int) = (l.e1.length : Int))) || (decide (64 < (l.e0.length : Int)))) = false := by
        rw [decide_eq_true (by omega), decide_eq_false (by omega)]; rfl
      have hab : (l.e0.map pr).length = (l.e1.map pr).length := by rw [List.length_map, List.length_map]; exact g3.1
      have h64 : (l.e0.map pr).length ≤ 64 := by rw [List.length_map]; exact g3.2
      obtain ⟨x, hx1, hx2⟩ := Uv hab h64 (Jf i0) (Jf i1)
      have hR : Rs OM (offR ((l.e0.map pr).zip (l.e1.map pr)) 0) := Oc (fun p hp => ⟨Jf i0 _ (List.of_mem_zip hp).1, Jf i1 _ (List.of_mem_zip hp).2⟩) (Jc.mono (by decide))
      have hO : OM < LIM := by decide +kernel
      rw [mapR, mapR]
      refine Ev.bind hx2 ?_
      simp only [c2, Bool.false_eq_true, if_false, Option.isSome_none, Bool.not_false, gdt, Bool.false_or]
      refine Ev.bind (JQ hx1 hR hO) (Ev.bind (JU i0 (by omega)) (Ev.bind (JU i1 (by omega)) ?_))
      rw [mapF, mapF]
      refine Ev.bind (VV hab h64 (Jf i0) (Jf i1)) (Ev.bind (Nc hR hO) ?_)
      simp only [decide_true, Bool.not_true, Bool.false_eq_true, if_false]
      exact Vy hx hy h1 h2
    · have c2 : ((!decide ((l.e0.length : Int) = (l.e1.length : Int))) || (decide (64 < (l.e0.length : Int)))) = true := by
        by_cases q : l.e0.length = l.e1.length
        · rw [decide_eq_true (show 64 < (l.e0.length : Int) by omega), Bool.or_true]
        · rw [decide_eq_false (show ¬ (l.e0.length : Int) = (l.e1.length : Int) by omega)]; rfl
      refine Ev.bind (N1 (by rw [List.length_map, List.length_map]; omega)) ?_
      simp only [c2, if_true, show errN (some 1) = 1 from rfl, decide_true, Bool.not_true, Bool.not_false, gdt, Bool.false_or]
      refine Ev.bind (JQ lk_z Jc (by decide +kernel)) ?_
      simp only [str8, decide_true, Bool.not_true, Bool.false_eq_true, if_false]
      exact Vy hx hy h1 h2
end Go.Proofs.YtkccpkccdbfomaaGreatDoor.Pure
