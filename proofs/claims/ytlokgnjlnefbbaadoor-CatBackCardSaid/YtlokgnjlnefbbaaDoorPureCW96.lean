/- The plain law of CatWrites. -/
import Derived.Test.YtlokgnjlnefbbaaDoorGCBp
namespace Go.Proofs.YtlokgnjlnefbbaaDoor.Pure
open Go.RowKit Go.Proofs.YtlokgnjlnefbbaaDoorK Go.Proofs.YtlokgnjlnefbbaaDoor.GCB
set_option linter.unusedVariables false
set_option linter.unusedSimpArgs false
set_option maxRecDepth 100000
theorem cwi {x : Int} (h : -9223372036854775808 ≤ x ∧ x ≤ 9223372036854775807) : w64 x = x := by
  simp only [w64, IntKind.wrap, IntKind.bits, IntKind.signed]; simp; omega
theorem cwsc {i : Nat} (h : i < 1000000000) : w64 ((i : Int) + 1) = ((i + 1 : Nat) : Int) := cwi (by omega)
theorem crdg {α : Type} [Inhabited α] {L : List α} {i : Nat} (h : i < L.length) : rd L (i : Int) = L[i] := by
  unfold rd; rw [Int.toNat_natCast, List.getD_eq_getElem?_getD, List.getElem?_eq_getElem h]; rfl
theorem cdrc {α : Type} {L : List α} {i : Nat} (h : i < L.length) : L.drop i = L[i] :: L.drop (i + 1) := List.drop_eq_getElem_cons h
def gk (r : radomeref28_Record) : cat048_Record := ⟨r.f_Source, ⟨r.f_Plot.f_Range, r.f_Plot.f_Azimuth, r.f_Plot.f_Time⟩, r.f_Is⟩
structure Wk (r : radomeref28_Record) : Prop where
  sw : 0 ≤ r.f_Source ∧ r.f_Source ≤ 65535
  rw_ : -9223372036854775808 ≤ r.f_Plot.f_Range ∧ r.f_Plot.f_Range ≤ 9223372036854775807
  aw : 0 ≤ r.f_Plot.f_Azimuth ∧ r.f_Plot.f_Azimuth ≤ 65535
  tw : -9223372036854775808 ≤ r.f_Plot.f_Time ∧ r.f_Plot.f_Time ≤ 9223372036854775807
def MayK (r : radomeref28_Record) : Prop := r.f_Is = true ∧ (0 ≤ r.f_Plot.f_Time ∧ r.f_Plot.f_Time < 11059200) ∧ 0 ≤ r.f_Plot.f_Range ∧ r.f_Plot.f_Range % 7585792 = 0 ∧ r.f_Plot.f_Range / 7585792 < 65536
instance (r : radomeref28_Record) : Decidable (MayK r) := by unfold MayK; exact inferInstance
def rbk (r : radomeref28_Record) : List Int := [208, r.f_Source / 256 % 256, r.f_Source % 256, r.f_Plot.f_Time / 65536 % 256, r.f_Plot.f_Time / 256 % 256, r.f_Plot.f_Time % 256, r.f_Plot.f_Range / 7585792 / 256 % 256, r.f_Plot.f_Range / 7585792 % 256, r.f_Plot.f_Azimuth / 256 % 256, r.f_Plot.f_Azimuth % 256]
theorem mayP (k : Nat) {r : radomeref28_Record} (h : Wk r) : cat048_Record_may.f k (gk r) = some (decide (MayK r)) := by
  unfold cat048_Record_may.f gk
  have hr := h.rw_
  simp only
  congr 1
  rw [Bool.eq_iff_iff, decide_eq_true_iff]
  unfold MayK
  simp only [Bool.and_eq_true, decide_eq_true_eq]
  by_cases h0 : 0 ≤ r.f_Plot.f_Range
  · rw [Int.tmod_eq_emod_of_nonneg h0, Int.tdiv_eq_ediv_of_nonneg h0, cwi (by omega)]
    constructor
    · intro ⟨⟨⟨⟨⟨a, b⟩, c⟩, d⟩, e⟩, f⟩; exact ⟨a, ⟨b, c⟩, d, e, f⟩
    · intro ⟨a, ⟨b, c⟩, d, e, f⟩; exact ⟨⟨⟨⟨⟨a, b⟩, c⟩, d⟩, e⟩, f⟩
  · constructor
    · intro ⟨⟨⟨_, d⟩, _⟩, _⟩; exact absurd d h0
    · intro ⟨_, _, d, _⟩; exact absurd d h0
theorem bytesP (k : Nat) {r : radomeref28_Record} (h : Wk r) (m : MayK r) : cat048_Record_bytes.f k (gk r) = some (rbk r) := by
  obtain ⟨_, _, m1, _, m2⟩ := m
  unfold cat048_Record_bytes.f rbk gk
  simp only [Int.tdiv_eq_ediv_of_nonneg m1, cwi (show -9223372036854775808 ≤ r.f_Plot.f_Range / 7585792 ∧ r.f_Plot.f_Range / 7585792 ≤ 9223372036854775807 by omega)]
def allK (l : List radomeref28_Record) : Bool := l.all fun r => decide (MayK r)
theorem allK_cons (r : radomeref28_Record) (l : List radomeref28_Record) : allK (r :: l) = (decide (MayK r) && allK l) := rfl
def flatK (l : List radomeref28_Record) : List Int := (l.map rbk).flatten
theorem encP_l0 {l : List radomeref28_Record} (hw : ∀ r ∈ l, Wk r) (h64 : l.length ≤ 64) : ∀ (n i : Nat) (rest : List Int), l.length = i + n → rest.length = 10 * i →
    Ev (fun k => (cat048_Encode.hs k).l0 [] none (48 :: 0 :: 0 :: rest) (l.map gk) (l.length : Int) (i : Int)) (if allK (l.drop i) = true then (48 :: ((3 + 10 * (l.length : Int)) / 256 % 256) :: ((3 + 10 * (l.length : Int)) % 256) :: (rest ++ flatK (l.drop i)), none) else ([], some 1))
  | 0, i, rest, e, hr => by
    refine Ev.step (fun k => rfl) ?_
    have hl : ((48 :: 0 :: 0 :: rest).length : Int) = 3 + 10 * (l.length : Int) := by simp only [List.length_cons]; omega
    simp only [cat048_Encode.hs, cat048_Encode.b0, if_neg (show ¬ (i : Int) < (l.length : Int) by omega), List.length_set, hl, if_pos (show (0 : Int) ≤ 1 ∧ 1 < 3 + 10 * (l.length : Int) by omega), if_pos (show (0 : Int) ≤ 2 ∧ 2 < 3 + 10 * (l.length : Int) by omega)]
    rw [List.drop_eq_nil_of_le (by omega), if_pos (show allK [] = true from rfl), show flatK [] = [] from rfl, List.append_nil]
    exact Ev.now
  | n + 1, i, rest, e, hr => by
    have hi : i < l.length := by omega
    have hi' : i < (l.map gk).length := by simpa using hi
    have w := hw _ (List.getElem_mem hi)
    refine Ev.step (fun k => rfl) ?_
    have er : rd (l.map gk) (i : Int) = gk l[i] := by rw [crdg hi', List.getElem_map]
    simp only [cat048_Encode.hs, cat048_Encode.b0, List.length_map, if_pos (show (i : Int) < (l.length : Int) by omega), if_pos (show (0 : Int) ≤ (i : Int) ∧ (i : Int) < (l.length : Int) by omega), er, mayP _ w, Option.bind_some, cwsc (show i < 1000000000 by omega)]
    rw [cdrc hi]
    by_cases m : MayK l[i]
    · have ea : allK (l[i] :: l.drop (i + 1)) = allK (l.drop (i + 1)) := by rw [allK_cons, decide_eq_true m, Bool.true_and]
      have hb : (rbk l[i]).length = 10 := rfl
      simp only [decide_eq_true m, Bool.not_true, if_neg (show ¬ false = true by decide), bytesP _ w m, Option.bind_some, hb, if_pos (show (48 :: 0 :: 0 :: rest).length + 10 ≤ 140737488355232 by simp only [List.length_cons]; omega), ea]
      have := encP_l0 hw h64 n (i + 1) (rest ++ rbk l[i]) (by omega) (by rw [List.length_append, hb]; omega)
      rw [List.append_assoc] at this
      exact this
    · have ea : allK (l[i] :: l.drop (i + 1)) = false := by rw [allK_cons, decide_eq_false m, Bool.false_and]
      simp only [decide_eq_false m, Bool.not_false, if_true, ea, if_neg (show ¬ false = true by decide)]; exact Ev.now
def encK (l : List radomeref28_Record) : List Int × Option Int := if (decide ((l.length : Int) < 1) || decide (64 < (l.length : Int))) = true then ([], some 1) else if allK l = true then (48 :: ((3 + 10 * (l.length : Int)) / 256 % 256) :: ((3 + 10 * (l.length : Int)) % 256) :: flatK l, none) else ([], some 1)
theorem encP_ev {l : List radomeref28_Record} (hw : ∀ r ∈ l, Wk r) : Ev (fun k => cat048_Encode.f k (l.map gk)) (encK l) := by
  unfold cat048_Encode.f encK
  simp only [List.length_map]
  by_cases h : (decide ((l.length : Int) < 1) || decide (64 < (l.length : Int))) = true
  · simp only [if_pos h]; exact Ev.now
  · simp only [if_neg h]
    simp at h
    have := encP_l0 hw (by omega) l.length 0 [] (by omega) rfl
    rw [List.drop_zero, List.nil_append] at this
    exact this
theorem gvk_l0 {l : List radomeref28_Record} (hl : l.length ≤ 3518437208780) : ∀ (n i : Nat) (out : List cat048_Record), l.length = i + n → out.length = i → Ev (fun k => (radomelaw28_giveRecords.hs k).l0 l out (i : Int)) (out ++ (l.drop i).map gk)
  | 0, i, out, e, ho => by
    refine Ev.step (fun k => rfl) ?_
    simp only [radomelaw28_giveRecords.hs, radomelaw28_giveRecords.b0, if_neg (show ¬ (i : Int) < (l.length : Int) by omega)]
    rw [List.drop_eq_nil_of_le (by omega), List.map_nil, List.append_nil]; exact Ev.now
  | n + 1, i, out, e, ho => by
    have hi : i < l.length := by omega
    refine Ev.step (fun k => rfl) ?_
    simp only [radomelaw28_giveRecords.hs, radomelaw28_giveRecords.b0, if_pos (show (i : Int) < (l.length : Int) by omega), if_pos (show (0 : Int) ≤ (i : Int) ∧ (i : Int) < (l.length : Int) by omega), crdg hi, show w64 ((i : Int) + 1) = ((i + 1 : Nat) : Int) from cwi (by omega), List.length_singleton, if_pos (show out.length + 1 ≤ 3518437208787 by omega)]
    rw [cdrc hi, List.map_cons]
    have := gvk_l0 hl n (i + 1) (out ++ [gk l[i]]) (by omega) (by simp; omega)
    rw [List.append_assoc] at this
    exact this
theorem gvk_ev {l : List radomeref28_Record} (hl : l.length ≤ 3518437208780) : Ev (fun k => radomelaw28_giveRecords.f k l) (l.map gk) := by
  unfold radomelaw28_giveRecords.f
  exact gvk_l0 hl l.length 0 [] (by omega) rfl
theorem sure28 : ∃ k, radomelaw28_sure.f k = some true := ⟨200, by decide +kernel⟩
theorem sure28_ev : Ev (fun k => radomelaw28_sure.f k) true := let ⟨k, h⟩ := sure28; Ev.of (fun k => radomelaw28_sure.mono k) h
end Go.Proofs.YtlokgnjlnefbbaaDoor.Pure
