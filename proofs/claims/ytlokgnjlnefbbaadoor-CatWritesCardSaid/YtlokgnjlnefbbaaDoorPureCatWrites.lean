/- The plain law of CatWrites. -/
import Derived.Test.YtlokgnjlnefbbaaDoorGCAp
namespace Go.Proofs.YtlokgnjlnefbbaaDoor.Pure
open Go.RowKit Go.Proofs.YtlokgnjlnefbbaaDoorK Go.Proofs.YtlokgnjlnefbbaaDoor.GCA
set_option linter.unusedVariables false
set_option linter.unusedSimpArgs false
set_option maxRecDepth 100000
theorem cwi {x : Int} (h : -9223372036854775808 ≤ x ∧ x ≤ 9223372036854775807) : w64 x = x := by
  simp only [w64, IntKind.wrap, IntKind.bits, IntKind.signed]; simp; omega
theorem cwsc {i : Nat} (h : i < 1000000000) : w64 ((i : Int) + 1) = ((i + 1 : Nat) : Int) := cwi (by omega)
theorem crdg {α : Type} [Inhabited α] {L : List α} {i : Nat} (h : i < L.length) : rd L (i : Int) = L[i] := by
  unfold rd; rw [Int.toNat_natCast, List.getD_eq_getElem?_getD, List.getElem?_eq_getElem h]; rfl
theorem cdrc {α : Type} {L : List α} {i : Nat} (h : i < L.length) : L.drop i = L[i] :: L.drop (i + 1) := List.drop_eq_getElem_cons h
def gk (r : radomeref28_Record) : cat048_Record := ⟨r.f_Source, ⟨r.f_Plot.f_Range, r.f_Plot.f_Azimuth, r.f_Plot.f_Time⟩, r.f_Is⟩
structure Wk (r : radomeref28_Record) : Prop where
  sw : 0 ≤ r.f_Source ∧ r.f_Source ≤ 65535
  rw_ : -9223372036854775808 ≤ r.f_Plot.f_Range ∧ r.f_Plot.f_Range ≤ 9223372036854775807
  aw : 0 ≤ r.f_Plot.f_Azimuth ∧ r.f_Plot.f_Azimuth ≤ 65535
  tw : -9223372036854775808 ≤ r.f_Plot.f_Time ∧ r.f_Plot.f_Time ≤ 9223372036854775807
def MayK (r : radomeref28_Record) : Prop := r.f_Is = true ∧ (0 ≤ r.f_Plot.f_Time ∧ r.f_Plot.f_Time < 11059200) ∧ 0 ≤ r.f_Plot.f_Range ∧ r.f_Plot.f_Range % 7585792 = 0 ∧ r.f_Plot.f_Range / 7585792 < 65536
instance (r : radomeref28_Record) : Decidable (MayK r) := by unfold MayK; exact inferInstance
def rbk (r : radomeref28_Record) : List Int := [208, r.f_Source / 256 % 256, r.f_Source % 256, r.f_Plot.f_Time / 65536 % 256, r.f_Plot.f_Time / 256 % 256, r.f_Plot.f_Time % 256, r.f_Plot.f_Range / 7585792 / 256 % 256, r.f_Plot.f_Range / 7585792 % 256, r.f_Plot.f_Azimuth / 256 % 256, r.f_Plot.f_Azimuth % 256]
theorem mayP (k : Nat) {r : radomeref28_Record} (h : Wk r) : cat048_Record_may.f k (gk r) = some (decide (MayK r)) := by
  unfold cat048_Record_may.f gk
  have hr := h.rw_
  simp only
  congr 1
  rw [Bool.eq_iff_iff, decide_eq_true_iff]
  unfold MayK
  simp only [Bool.and_eq_true, decide_eq_true_eq]
  by_cases h0 : 0 ≤ r.f_Plot.f_Range
  · rw [Int.tmod_eq_emod_of_nonneg h0, Int.tdiv_eq_ediv_of_nonneg h0, cwi (by omega)]
    constructor
    · intro ⟨⟨⟨⟨⟨a, b⟩, c⟩, d⟩, e⟩, f⟩; exact ⟨a, ⟨b, c⟩, d, e, f⟩
    · intro ⟨a, ⟨b, c⟩, d, e, f⟩; exact ⟨⟨⟨⟨⟨a, b⟩, c⟩, d⟩, e⟩, f⟩
  · constructor
    · intro ⟨⟨⟨_, d⟩, _⟩, _⟩; exact absurd d h0
    · intro ⟨_, _, d, _⟩; exact absurd d h0
theorem mayR (k : Nat) {r : radomeref28_Record} (h : Wk r) : radomeref28_May.f k r = some (decide (MayK r)) := by
  unfold radomeref28_May.f
  have hr := h.rw_
  congr 1
  rw [Bool.eq_iff_iff, decide_eq_true_iff]
  unfold MayK
  simp only [Bool.and_eq_true, decide_eq_true_eq]
  by_cases h0 : 0 ≤ r.f_Plot.f_Range
  · rw [Int.tmod_eq_emod_of_nonneg h0]
    constructor
    · intro ⟨⟨⟨⟨⟨a, b⟩, c⟩, d⟩, e⟩, f⟩; exact ⟨a, ⟨b, c⟩, d, f, by omega⟩
    · intro ⟨a, ⟨b, c⟩, d, e, f⟩; exact ⟨⟨⟨⟨⟨a, b⟩, c⟩, d⟩, by omega⟩, e⟩
  · constructor
    · intro ⟨⟨⟨_, d⟩, _⟩, _⟩; exact absurd d h0
    · intro ⟨_, _, d, _⟩; exact absurd d h0
theorem bytesP (k : Nat) {r : radomeref28_Record} (h : Wk r) (m : MayK r) : cat048_Record_bytes.f k (gk r) = some (rbk r) := by
  obtain ⟨_, _, m1, _, m2⟩ := m
  unfold cat048_Record_bytes.f rbk gk
  simp only [Int.tdiv_eq_ediv_of_nonneg m1, cwi (show -9223372036854775808 ≤ r.f_Plot.f_Range / 7585792 ∧ r.f_Plot.f_Range / 7585792 ≤ 9223372036854775807 by omega)]
theorem bytesR {r : radomeref28_Record} (h : Wk r) (m : MayK r) : [208, ((Int.tdiv (r.f_Source) 256) % 65536) % 256, (Int.tmod (r.f_Source) 256) % 256, (w64 (Int.tdiv ((r.f_Plot).f_Time) 65536)) % 256, (Int.tmod (w64 (Int.tdiv ((r.f_Plot).f_Time) 256)) 256) % 256, (Int.tmod ((r.f_Plot).f_Time) 256) % 256, (w64 (Int.tdiv (w64 (Int.tdiv ((r.f_Plot).f_Range) 7585792)) 256)) % 256, (Int.tmod (w64 (Int.tdiv ((r.f_Plot).f_Range) 7585792)) 256) % 256, ((Int.tdiv ((r.f_Plot).f_Azimuth) 256) % 65536) % 256, (Int.tmod ((r.f_Plot).f_Azimuth) 256) % 256] = rbk r := by
  obtain ⟨_, ⟨t0, t1⟩, m1, _, m2⟩ := m
  have hs := h.sw; have ha := h.aw; have ht := h.tw
  have n0 : 0 ≤ r.f_Plot.f_Range / 7585792 := Int.ediv_nonneg m1 (by decide)
  unfold rbk
  generalize r.f_Plot.f_Time = t at *
  generalize r.f_Source = s at *
  generalize r.f_Plot.f_Azimuth = a at *
  rw [Int.tdiv_eq_ediv_of_nonneg m1, cwi (x := r.f_Plot.f_Range / 7585792) (by omega)]
  generalize r.f_Plot.f_Range / 7585792 = n at *
  have t2 : 0 ≤ t / 256 := by omega
  rw [Int.tdiv_eq_ediv_of_nonneg hs.1, Int.tmod_eq_emod_of_nonneg hs.1, Int.tdiv_eq_ediv_of_nonneg t0, Int.tdiv_eq_ediv_of_nonneg t0, Int.tmod_eq_emod_of_nonneg t0, cwi (x := t / 65536) (by omega), cwi (x := t / 256) (by omega), Int.tmod_eq_emod_of_nonneg t2, Int.tdiv_eq_ediv_of_nonneg n0, cwi (x := n / 256) (by omega), Int.tmod_eq_emod_of_nonneg n0, Int.tdiv_eq_ediv_of_nonneg ha.1, Int.tmod_eq_emod_of_nonneg ha.1,
    show s / 256 % 65536 % 256 = s / 256 % 256 by omega, show s % 256 % 256 = s % 256 by omega, show t / 256 % 256 % 256 = t / 256 % 256 by omega, show t % 256 % 256 = t % 256 by omega, show n % 256 % 256 = n % 256 by omega, show a / 256 % 65536 % 256 = a / 256 % 256 by omega, show a % 256 % 256 = a % 256 by omega]
def allK (l : List radomeref28_Record) : Bool := l.all fun r => decide (MayK r)
theorem allK_cons (r : radomeref28_Record) (l : List radomeref28_Record) : allK (r :: l) = (decide (MayK r) && allK l) := rfl
def flatK (l : List radomeref28_Record) : List Int := (l.map rbk).flatten
theorem encP_l0 {l : List radomeref28_Record} (hw : ∀ r ∈ l, Wk r) (h64 : l.length ≤ 64) : ∀ (n i : Nat) (rest : List Int), l.length = i + n → rest.length = 10 * i →
    Ev (fun k => (cat048_Encode.hs k).l0 [] none (48 :: 0 :: 0 :: rest) (l.map gk) (l.length : Int) (i : Int)) (if allK (l.drop i) = true then (48 :: ((3 + 10 * (l.length : Int)) / 256 % 256) :: ((3 + 10 * (l.length : Int)) % 256) :: (rest ++ flatK (l.drop i)), none) else ([], some 1))
  | 0, i, rest, e, hr => by
    refine Ev.step (fun k => rfl) ?_
    have hl : ((48 :: 0 :: 0 :: rest).length : Int) = 3 + 10 * (l.length : Int) := by simp only [List.length_cons]; omega
    simp only [cat048_Encode.hs, cat048_Encode.b0, if_neg (show ¬ (i : Int) < (l.length : Int) by omega), List.length_set, hl, if_pos (show (0 : Int) ≤ 1 ∧ 1 < 3 + 10 * (l.length : Int) by omega), if_pos (show (0 : Int) ≤ 2 ∧ 2 < 3 + 10 * (l.length : Int) by omega)]
    rw [List.drop_eq_nil_of_le (by omega), if_pos (show allK [] = true from rfl), show flatK [] = [] from rfl, List.append_nil]
    exact Ev.now
  | n + 1, i, rest, e, hr => by
    have hi : i < l.length := by omega
    have hi' : i < (l.map gk).length := by simpa using hi
    have w := hw _ (List.getElem_mem hi)
    refine Ev.step (fun k => rfl) ?_
    have er : rd (l.map gk) (i : Int) = gk l[i] := by rw [crdg hi', List.getElem_map]
    simp only [cat048_Encode.hs, cat048_Encode.b0, List.length_map, if_pos (show (i : Int) < (l.length : Int) by omega), if_pos (show (0 : Int) ≤ (i : Int) ∧ (i : Int) < (l.length : Int) by omega), er, mayP _ w, Option.bind_some, cwsc (show i < 1000000000 by omega)]
    rw [cdrc hi]
    by_cases m : MayK l[i]
    · have ea : allK (l[i] :: l.drop (i + 1)) = allK (l.drop (i + 1)) := by rw [allK_cons, decide_eq_true m, Bool.true_and]
      have hb : (rbk l[i]).length = 10 := rfl
      simp only [decide_eq_true m, Bool.not_true, if_neg (show ¬ false = true by decide), bytesP _ w m, Option.bind_some, hb, if_pos (show (48 :: 0 :: 0 :: rest).length + 10 ≤ 140737488355200 by simp only [List.length_cons]; omega), ea]
      have := encP_l0 hw h64 n (i + 1) (rest ++ rbk l[i]) (by omega) (by rw [List.length_append, hb]; omega)
      rw [List.append_assoc] at this
      exact this
    · have ea : allK (l[i] :: l.drop (i + 1)) = false := by rw [allK_cons, decide_eq_false m, Bool.false_and]
      simp only [decide_eq_false m, Bool.not_false, if_true, ea, if_neg (show ¬ false = true by decide)]; exact Ev.now
theorem encR_l0 {l : List radomeref28_Record} (hw : ∀ r ∈ l, Wk r) (h64 : l.length ≤ 64) : ∀ (n i : Nat) (out : List Int), l.length = i + n → out.length = 3 + 10 * i →
    Ev (fun k => (radomeref28_Encode.hs k).l0 l [] 0 out (i : Int)) (if allK (l.drop i) = true then (out ++ flatK (l.drop i), 0) else ([], 1))
  | 0, i, out, e, hr => by
    refine Ev.step (fun k => rfl) ?_
    simp only [radomeref28_Encode.hs, radomeref28_Encode.b0, if_neg (show ¬ (i : Int) < (l.length : Int) by omega)]
    rw [List.drop_eq_nil_of_le (by omega), if_pos (show allK [] = true from rfl), show flatK [] = [] from rfl, List.append_nil]
    exact Ev.now
  | n + 1, i, out, e, hr => by
    have hi : i < l.length := by omega
    have w := hw _ (List.getElem_mem hi)
    refine Ev.step (fun k => rfl) ?_
    simp only [radomeref28_Encode.hs, radomeref28_Encode.b0, if_pos (show (i : Int) < (l.length : Int) by omega), if_pos (show (0 : Int) ≤ (i : Int) ∧ (i : Int) < (l.length : Int) by omega), crdg hi, mayR _ w, Option.bind_some, cwsc (show i < 1000000000 by omega)]
    rw [cdrc hi]
    by_cases m : MayK l[i]
    · have ea : allK (l[i] :: l.drop (i + 1)) = allK (l.drop (i + 1)) := by rw [allK_cons, decide_eq_true m, Bool.true_and]
      have hb : (rbk l[i]).length = 10 := rfl
      simp only [decide_eq_true m, Bool.not_true, if_neg (show ¬ false = true by decide), bytesR w m, hb, if_pos (show out.length + 10 ≤ 140737488355200 by omega), ea]
      have := encR_l0 hw h64 n (i + 1) (out ++ rbk l[i]) (by omega) (by rw [List.length_append, hb]; omega)
      rw [List.append_assoc] at this
      exact this
    · have ea : allK (l[i] :: l.drop (i + 1)) = false := by rw [allK_cons, decide_eq_false m, Bool.false_and]
      simp only [decide_eq_false m, Bool.not_false, if_true, ea, if_neg (show ¬ false = true by decide)]; exact Ev.now
def encK (l : List radomeref28_Record) : List Int × Option Int := if (decide ((l.length : Int) < 1) || decide (64 < (l.length : Int))) = true then ([], some 1) else if allK l = true then (48 :: ((3 + 10 * (l.length : Int)) / 256 % 256) :: ((3 + 10 * (l.length : Int)) % 256) :: flatK l, none) else ([], some 1)
theorem encP_ev {l : List radomeref28_Record} (hw : ∀ r ∈ l, Wk r) : Ev (fun k => cat048_Encode.f k (l.map gk)) (encK l) := by
  unfold cat048_Encode.f encK
  simp only [List.length_map]
  by_cases h : (decide ((l.length : Int) < 1) || decide (64 < (l.length : Int))) = true
  · simp only [if_pos h]; exact Ev.now
  · simp only [if_neg h]
    simp at h
    have := encP_l0 hw (by omega) l.length 0 [] (by omega) rfl
    rw [List.drop_zero, List.nil_append] at this
    exact this
theorem encR_ev {l : List radomeref28_Record} (hw : ∀ r ∈ l, Wk r) : Ev (fun k => radomeref28_Encode.f k l) ((encK l).1, errN (encK l).2) := by
  unfold radomeref28_Encode.f encK
  by_cases h : (decide ((l.length : Int) < 1) || decide (64 < (l.length : Int))) = true
  · simp only [if_pos h]; exact Ev.now
  · simp only [if_neg h]
    simp at h
    have e1 : 0 ≤ 3 + 10 * (l.length : Int) := by omega
    simp only [cwi (show -9223372036854775808 ≤ 10 * (l.length : Int) ∧ 10 * (l.length : Int) ≤ 9223372036854775807 by omega), cwi (show -9223372036854775808 ≤ 3 + 10 * (l.length : Int) ∧ 3 + 10 * (l.length : Int) ≤ 9223372036854775807 by omega), Int.tdiv_eq_ediv_of_nonneg e1, Int.tmod_eq_emod_of_nonneg e1,
      cwi (show -9223372036854775808 ≤ (3 + 10 * (l.length : Int)) / 256 ∧ (3 + 10 * (l.length : Int)) / 256 ≤ 9223372036854775807 by omega), show (3 + 10 * (l.length : Int)) % 256 % 256 = (3 + 10 * (l.length : Int)) % 256 by omega]
    have := encR_l0 hw (by omega) l.length 0 [48, (3 + 10 * (l.length : Int)) / 256 % 256, (3 + 10 * (l.length : Int)) % 256] (by omega) rfl
    rw [List.drop_zero] at this
    by_cases ha : allK l = true
    · rw [if_pos ha] at this ⊢; exact this
    · rw [if_neg ha] at this ⊢; exact this
theorem gvk_l0 {l : List radomeref28_Record} (hl : l.length ≤ 200) : ∀ (n i : Nat) (out : List cat048_Record), l.length = i + n → out.length = i → Ev (fun k => (radomelaw28_giveRecords.hs k).l0 l out (i : Int)) (out ++ (l.drop i).map gk)
  | 0, i, out, e, ho => by
    refine Ev.step (fun k => rfl) ?_
    simp only [radomelaw28_giveRecords.hs, radomelaw28_giveRecords.b0, if_neg (show ¬ (i : Int) < (l.length : Int) by omega)]
    rw [List.drop_eq_nil_of_le (by omega), List.map_nil, List.append_nil]; exact Ev.now
  | n + 1, i, out, e, ho => by
    have hi : i < l.length := by omega
    refine Ev.step (fun k => rfl) ?_
    simp only [radomelaw28_giveRecords.hs, radomelaw28_giveRecords.b0, if_pos (show (i : Int) < (l.length : Int) by omega), if_pos (show (0 : Int) ≤ (i : Int) ∧ (i : Int) < (l.length : Int) by omega), crdg hi, cwsc (show i < 1000000000 by omega), List.length_singleton, if_pos (show out.length + 1 ≤ 3518437208755 by omega)]
    rw [cdrc hi, List.map_cons]
    have := gvk_l0 hl n (i + 1) (out ++ [gk l[i]]) (by omega) (by simp; omega)
    rw [List.append_assoc] at this
    exact this
theorem gvk_ev {l : List radomeref28_Record} (hl : l.length ≤ 200) : Ev (fun k => radomelaw28_giveRecords.f k l) (l.map gk) := by
  unfold radomelaw28_giveRecords.f
  exact gvk_l0 hl l.length 0 [] (by omega) rfl
theorem sure28 : ∃ k, radomelaw28_sure.f k = some true := ⟨200, by decide +kernel⟩
theorem sure28_ev : Ev (fun k => radomelaw28_sure.f k) true := let ⟨k, h⟩ := sure28; Ev.of (fun k => radomelaw28_sure.mono k) h
theorem CatWrites : radomelaw28_CatWrites.Pure := by
  intro l hl
  have hw : ∀ r ∈ l, Wk r := fun r hr => by
    have := hl.2 r hr
    simp [Lit.wf, IntKind.min, IntKind.max, IntKind.signed, IntKind.bits] at this
    exact ⟨by omega, by omega, by omega, by omega⟩
  refine Ev.ex ?_
  unfold radomelaw28_CatWrites.f
  by_cases h : 200 < (l.length : Int)
  · simp only [if_pos h]; exact Ev.bind sure28_ev Ev.now
  · simp only [if_neg h]
    refine Ev.bind (gvk_ev (by omega)) ?_
    refine Ev.bind (encP_ev hw) ?_
    refine Ev.bind (encR_ev hw) ?_
    simp only [decide_true, Bool.and_self, Bool.true_and, show ∀ (x : Option Bool) (d : Bool), gd true x d = x from fun _ _ => rfl]
    exact Ev.bind sure28_ev Ev.now
end Go.Proofs.YtlokgnjlnefbbaaDoor.Pure
