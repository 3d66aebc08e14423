/- Configs: the program's and the document's, their numbers, and whether they may be. -/
import Derived.Test.YtfdedgoohjnhiaaDoorGCBp
namespace Go.Proofs.YtfdedgoohjnhiaaDoor.Pure
open Go.RowKit Go.Proofs.YtfdedgoohjnhiaaDoorK Go.Proofs.YtfdedgoohjnhiaaDoor.GCB
set_option linter.unusedVariables false
set_option linter.unusedSimpArgs false
set_option maxRecDepth 100000
theorem w64_id {x : Int} (h : -9223372036854775808 ≤ x ∧ x ≤ 9223372036854775807) : w64 x = x := by
  simp only [w64, IntKind.wrap, IntKind.bits, IntKind.signed]; simp; omega
theorem wsucc {i : Nat} (h : i < 1000000000) : w64 ((i : Int) + 1) = ((i + 1 : Nat) : Int) := w64_id (by omega)
theorem gdt {α : Type} (x : Option α) (d : α) : gd true x d = x := rfl
theorem gdf {α : Type} (x : Option α) (d : α) : gd false x d = some d := rfl
theorem rd_get {α : Type} [Inhabited α] {L : List α} {i : Nat} (h : i < L.length) : rd L (i : Int) = L[i] := by
  unfold rd; rw [Int.toNat_natCast, List.getD_eq_getElem?_getD, List.getElem?_eq_getElem h]; rfl
def gm (m : radomeref11_Model) : model_Model := ⟨m.f_Kind, m.f_Rate, m.f_Noise⟩
def gc (c : radomeref30_Config) : config_Config := ⟨⟨c.f_Sensor.f_Range, c.f_Sensor.f_Turn⟩, ⟨c.f_Imm.f_Models.map gm, c.f_Imm.f_Rows, c.f_Imm.f_Floor⟩, ⟨c.f_Rule.f_Hits, c.f_Rule.f_Window, c.f_Rule.f_Misses⟩, c.f_Gate, c.f_Miss, c.f_Merge, c.f_Fast, c.f_Push, c.f_Tracks, c.f_From, c.f_Least, c.f_Most, c.f_Source⟩
theorem drop_cons {α : Type} {L : List α} {i : Nat} (h : i < L.length) : L.drop i = L[i] :: L.drop (i + 1) := List.drop_eq_getElem_cons h
theorem give_l0 {c : radomeref30_Config} {L : List radomeref11_Model} (hL : L.length ≤ 10) : ∀ (n i : Nat) (out : List model_Model), L.length = i + n → out.length = i → Ev (fun k => (radomelaw30_giveConfig.hs k).l0 c.f_Sensor.f_Range c.f_Sensor.f_Turn L c.f_Imm.f_Rows c.f_Imm.f_Floor c.f_Rule.f_Hits c.f_Rule.f_Window c.f_Rule.f_Misses c.f_Gate c.f_Miss c.f_Merge c.f_Fast c.f_Push c.f_Tracks c.f_From c.f_Least c.f_Most c.f_Source c.f_Sensor.f_Range c.f_Sensor.f_Turn out c.f_Imm.f_Rows c.f_Imm.f_Floor c.f_Rule.f_Hits c.f_Rule.f_Window c.f_Rule.f_Misses c.f_Gate c.f_Miss c.f_Merge c.f_Fast c.f_Push c.f_Tracks c.f_From c.f_Least c.f_Most c.f_Source (i : Int))
    ⟨⟨c.f_Sensor.f_Range, c.f_Sensor.f_Turn⟩, ⟨out ++ (L.drop i).map gm, c.f_Imm.f_Rows, c.f_Imm.f_Floor⟩, ⟨c.f_Rule.f_Hits, c.f_Rule.f_Window, c.f_Rule.f_Misses⟩, c.f_Gate, c.f_Miss, c.f_Merge, c.f_Fast, c.f_Push, c.f_Tracks, c.f_From, c.f_Least, c.f_Most, c.f_Source⟩
  | 0, i, out, e, ho => by
    refine Ev.step (fun k => rfl) ?_
    simp only [radomelaw30_giveConfig.hs, radomelaw30_giveConfig.b0, if_neg (show ¬ (i : Int) < (L.length : Int) by omega)]
    rw [List.drop_eq_nil_of_le (by omega), List.map_nil, List.append_nil]
    exact Ev.now
  | n + 1, i, out, e, ho => by
    have hi : i < L.length := by omega
    refine Ev.step (fun k => rfl) ?_
    simp only [radomelaw30_giveConfig.hs, radomelaw30_giveConfig.b0, if_pos (show (i : Int) < (L.length : Int) by omega), if_pos (show (0 : Int) ≤ (i : Int) ∧ (i : Int) < (L.length : Int) by omega), List.length_singleton, if_pos (show out.length + 1 ≤ 5864062014677 by omega), rd_get hi, wsucc (show i < 1000000000 by omega)]
    have := give_l0 (c := c) hL n (i + 1) (out ++ [gm L[i]]) (by omega) (by simp; omega)
    rw [drop_cons hi, List.map_cons]
    rw [List.append_assoc] at this
    exact this
theorem give_ev {c : radomeref30_Config} (h : c.f_Imm.f_Models.length ≤ 10) : Ev (fun k => radomelaw30_giveConfig.f k c) (gc c) := by
  unfold radomelaw30_giveConfig.f
  have := give_l0 (c := c) h c.f_Imm.f_Models.length 0 [] (by omega) rfl
  rw [List.drop_zero, List.nil_append] at this
  exact this
/-! ### the numbers -/
def mnum (m : model_Model) : List Int := [m.f_Kind, m.f_Rate, m.f_Noise]
def tailN (c : config_Config) : List Int := [c.f_Imm.f_Floor, c.f_Rule.f_Hits, c.f_Rule.f_Window, c.f_Rule.f_Misses] ++ [c.f_Gate, c.f_Miss, c.f_Merge, c.f_Fast, c.f_Push, c.f_Tracks, c.f_From, c.f_Least, c.f_Most, w64 c.f_Source]
def NM (c : config_Config) : List Int := [c.f_Sensor.f_Range, c.f_Sensor.f_Turn, (c.f_Imm.f_Models.length : Int)] ++ (c.f_Imm.f_Models.map mnum).flatten ++ c.f_Imm.f_Rows.flatten ++ tailN c
structure Few (c : config_Config) : Prop where
  m : c.f_Imm.f_Models.length ≤ 10
  r : c.f_Imm.f_Rows.length ≤ 10
  e : ∀ x ∈ c.f_Imm.f_Rows, x.length ≤ 10
theorem num_l1 {c : config_Config} (h : Few c) : ∀ (n i : Nat) (l : List Int), c.f_Imm.f_Rows.length = i + n → l.length ≤ 100 + 10 * i → Ev (fun k => (config_Config_numbers.hs k).l1 c.f_Sensor.f_Range c.f_Sensor.f_Turn c.f_Imm.f_Models c.f_Imm.f_Rows c.f_Imm.f_Floor c.f_Rule.f_Hits c.f_Rule.f_Window c.f_Rule.f_Misses c.f_Gate c.f_Miss c.f_Merge c.f_Fast c.f_Push c.f_Tracks c.f_From c.f_Least c.f_Most c.f_Source l c.f_Imm.f_Rows (c.f_Imm.f_Rows.length : Int) (i : Int)) (l ++ (c.f_Imm.f_Rows.drop i).flatten ++ tailN c)
  | 0, i, l, e, hl => by
    have := h.r
    refine Ev.step (fun k => rfl) ?_
    simp only [config_Config_numbers.hs, config_Config_numbers.b1, if_neg (show ¬ (i : Int) < (c.f_Imm.f_Rows.length : Int) by omega), List.length_append, List.length_cons, List.length_nil, if_pos (show l.length + (0 + 1 + 1 + 1 + 1) ≤ 17592186044288 by omega), if_pos (show l.length + (0 + 1 + 1 + 1 + 1) + (0 + 1 + 1 + 1 + 1 + 1 + 1 + 1 + 1 + 1 + 1) ≤ 17592186044288 by omega)]
    rw [List.drop_eq_nil_of_le (by omega), List.flatten_nil, List.append_nil, tailN, ← List.append_assoc]
    exact Ev.now
  | n + 1, i, l, e, hl => by
    have := h.r
    have hi : i < c.f_Imm.f_Rows.length := by omega
    have he := h.e _ (List.getElem_mem hi)
    refine Ev.step (fun k => rfl) ?_
    simp only [config_Config_numbers.hs, config_Config_numbers.b1, if_pos (show (i : Int) < (c.f_Imm.f_Rows.length : Int) by omega), if_pos (show (0 : Int) ≤ (i : Int) ∧ (i : Int) < (c.f_Imm.f_Rows.length : Int) by omega), rd_get hi, if_pos (show l.length + (c.f_Imm.f_Rows[i]).length ≤ 17592186044288 by omega), wsucc (show i < 1000000000 by omega)]
    have := num_l1 h n (i + 1) (l ++ c.f_Imm.f_Rows[i]) (by omega) (by simp; omega)
    rw [drop_cons hi, List.flatten_cons, ← List.append_assoc]
    exact this
theorem num_l0 {c : config_Config} (h : Few c) : ∀ (n i : Nat) (l : List Int), c.f_Imm.f_Models.length = i + n → l.length ≤ 3 + 3 * i → Ev (fun k => (config_Config_numbers.hs k).l0 c.f_Sensor.f_Range c.f_Sensor.f_Turn c.f_Imm.f_Models c.f_Imm.f_Rows c.f_Imm.f_Floor c.f_Rule.f_Hits c.f_Rule.f_Window c.f_Rule.f_Misses c.f_Gate c.f_Miss c.f_Merge c.f_Fast c.f_Push c.f_Tracks c.f_From c.f_Least c.f_Most c.f_Source l c.f_Imm.f_Models (c.f_Imm.f_Models.length : Int) (i : Int)) (l ++ ((c.f_Imm.f_Models.drop i).map mnum).flatten ++ c.f_Imm.f_Rows.flatten ++ tailN c)
  | 0, i, l, e, hl => by
    have := h.m
    refine Ev.step (fun k => rfl) ?_
    simp only [config_Config_numbers.hs, config_Config_numbers.b0, if_neg (show ¬ (i : Int) < (c.f_Imm.f_Models.length : Int) by omega)]
    rw [List.drop_eq_nil_of_le (by omega), List.map_nil, List.flatten_nil, List.append_nil]
    have := num_l1 h c.f_Imm.f_Rows.length 0 l (by omega) (by omega)
    rw [List.drop_zero] at this
    exact this
  | n + 1, i, l, e, hl => by
    have := h.m
    have hi : i < c.f_Imm.f_Models.length := by omega
    refine Ev.step (fun k => rfl) ?_
    simp only [config_Config_numbers.hs, config_Config_numbers.b0, if_pos (show (i : Int) < (c.f_Imm.f_Models.length : Int) by omega), if_pos (show (0 : Int) ≤ (i : Int) ∧ (i : Int) < (c.f_Imm.f_Models.length : Int) by omega), rd_get hi, List.length_cons, List.length_nil, if_pos (show l.length + (0 + 1 + 1 + 1) ≤ 17592186044288 by omega), wsucc (show i < 1000000000 by omega)]
    have := num_l0 h n (i + 1) (l ++ mnum c.f_Imm.f_Models[i]) (by omega) (by simp [mnum]; omega)
    rw [drop_cons hi, List.map_cons, List.flatten_cons, ← List.append_assoc]
    exact this
theorem num_ev {c : config_Config} (h : Few c) : Ev (fun k => config_Config_numbers.f k c) (NM c) := by
  unfold config_Config_numbers.f
  have := num_l0 h c.f_Imm.f_Models.length 0 [c.f_Sensor.f_Range, c.f_Sensor.f_Turn, (c.f_Imm.f_Models.length : Int)] (by omega) (by simp)
  rw [List.drop_zero] at this
  exact this
/-! ### may it be? -/
def MayM (m : radomeref11_Model) : Prop := (1 ≤ m.f_Noise ∧ m.f_Noise ≤ 1073741824 ∧ 0 ≤ m.f_Kind ∧ m.f_Kind ≤ 3) ∧ (m.f_Kind < 2 ∧ m.f_Rate = 0 ∨ 2 ≤ m.f_Kind ∧ 1048576 ≤ m.f_Rate ∧ m.f_Rate ≤ 268435456)
instance (m : radomeref11_Model) : Decidable (MayM m) := inferInstanceAs (Decidable (_ ∧ _))
theorem mayM_eq (k : Nat) (m : radomeref11_Model) : radomeref11_May.f k m = some (decide (MayM m)) := by
  unfold radomeref11_May.f
  by_cases h : 1 ≤ m.f_Noise ∧ m.f_Noise ≤ 1073741824 ∧ 0 ≤ m.f_Kind ∧ m.f_Kind ≤ 3
  · have c : ((((decide (m.f_Noise < 1)) || (decide (1073741824 < m.f_Noise))) || (decide (m.f_Kind < 0))) || (decide (3 < m.f_Kind))) = false := by simp; omega
    simp only [c, Bool.false_eq_true, if_false]
    by_cases g : m.f_Kind < 2
    · simp only [if_pos g]
      congr 1; rw [decide_eq_decide]; unfold MayM; omega
    · simp only [if_neg g]
      congr 1; rw [← Bool.decide_and, decide_eq_decide]; unfold MayM; omega
  · have c : ((((decide (m.f_Noise < 1)) || (decide (1073741824 < m.f_Noise))) || (decide (m.f_Kind < 0))) || (decide (3 < m.f_Kind))) = true := by simp; omega
    simp only [c, if_true]
    rw [decide_eq_false (fun x => h x.1)]
theorem name_eq (k : Nat) (n : Int) : ∃ s, model_Name.f k n = some s ∧ decide (s = str_2) = decide (¬ (0 ≤ n ∧ n ≤ 3)) := by
  unfold model_Name.f
  by_cases h0 : n = 0
  · subst h0; exact ⟨_, rfl, by decide +kernel⟩
  by_cases h1 : n = 1
  · subst h1; exact ⟨_, rfl, by decide +kernel⟩
  by_cases h2 : n = 2
  · subst h2; exact ⟨_, rfl, by decide +kernel⟩
  by_cases h3 : n = 3
  · subst h3; exact ⟨_, rfl, by decide +kernel⟩
  · simp only [if_neg h0, if_neg h1, if_neg h2, if_neg h3]
    exact ⟨_, rfl, by rw [decide_eq_true rfl, eq_comm, decide_eq_true_eq]; omega⟩
theorem mcheck0 (k : Nat) (a b c : Int) : model_Check.f k ⟨a, b, c⟩ = some (if MayM ⟨a, b, c⟩ then none else some 1) := by
  obtain ⟨s, hs, hn⟩ := name_eq k a
  have key : ∀ fast : Bool, model_Check.j1 k a b c fast = some (if (0 ≤ a ∧ a ≤ 3) ∧ fast = true ∧ 1 ≤ c ∧ c ≤ 1073741824 then none else some 1) := by
    intro fast
    unfold model_Check.j1
    simp only [hs, Option.bind_some, hn]
    by_cases g : (0 ≤ a ∧ a ≤ 3) ∧ fast = true ∧ 1 ≤ c ∧ c ≤ 1073741824
    · have c : ((((decide (¬ (0 ≤ a ∧ a ≤ 3))) || (!fast)) || (decide (c < 1))) || (decide (1073741824 < c))) = false := by
        obtain ⟨g1, g2, g3⟩ := g; subst g2; simp; omega
      rw [if_pos g]; simp only [c, Bool.false_eq_true, if_false]
    · have c : ((((decide (¬ (0 ≤ a ∧ a ≤ 3))) || (!fast)) || (decide (c < 1))) || (decide (1073741824 < c))) = true := by
        refine Decidable.byContradiction fun hc => g ?_
        rw [Bool.not_eq_true] at hc
        simp at hc
        obtain ⟨⟨⟨a, b⟩, c⟩, d⟩ := hc
        exact ⟨by omega, b, by omega, by omega⟩
      rw [if_neg g]; simp only [c, if_true]
  unfold model_Check.f model_Model_turns.f
  simp only [Option.bind_some]
  by_cases t : ((decide (a = 2)) || (decide (a = 3))) = true
  · rw [if_pos t, key]
    simp at t
    congr 1
    have e : ((0 ≤ a ∧ a ≤ 3) ∧ ((decide (1048576 ≤ b)) && (decide (b ≤ 268435456))) = true ∧ 1 ≤ c ∧ c ≤ 1073741824) ↔ MayM ⟨a, b, c⟩ := by
      unfold MayM; simp only [Bool.and_eq_true, decide_eq_true_eq]; omega
    simp only [e]
  · rw [if_neg t, key]
    simp at t
    congr 1
    have e : ((0 ≤ a ∧ a ≤ 3) ∧ (decide (b = 0)) = true ∧ 1 ≤ c ∧ c ≤ 1073741824) ↔ MayM ⟨a, b, c⟩ := by
      unfold MayM; simp only [decide_eq_true_eq]; omega
    simp only [e]
theorem mcheck_eq (k : Nat) (m : radomeref11_Model) : model_Check.f k (gm m) = some (if MayM m then none else some 1) := mcheck0 k m.f_Kind m.f_Rate m.f_Noise
/-! ### chances -/
/-- What is left when all have been taken off, if each fits. -/
def chOk (floor : Int) : Int → List Int → Bool
  | left, [] => decide (left = 0)
  | left, n :: l => !(decide (n < floor) || decide (left < n)) && chOk floor (left - n) l
theorem cc_l0 {l : List Int} : ∀ (n i : Nat) (left : Int), l.length = i + n → i ≤ 4 → l.length ≤ 4 → 0 ≤ left → left ≤ 1073741824 → Ev (fun k => (chance_Check.hs k).l0 0 none left l (l.length : Int) (i : Int)) (if chOk 0 left (l.drop i) = true then none else some 1)
  | 0, i, left, e, h4, hl, h0, h1 => by
    refine Ev.step (fun k => rfl) ?_
    simp only [chance_Check.hs, chance_Check.b0, if_neg (show ¬ (i : Int) < (l.length : Int) by omega)]
    rw [List.drop_eq_nil_of_le (by omega), chOk]
    by_cases h : left = 0
    · subst h; exact Ev.now
    · simp only [if_neg h, decide_eq_false h, Bool.false_eq_true, if_false]; exact Ev.now
  | n + 1, i, left, e, h4, hl, h0, h1 => by
    have hi : i < l.length := by omega
    refine Ev.step (fun k => rfl) ?_
    simp only [chance_Check.hs, chance_Check.b0, if_pos (show (i : Int) < (l.length : Int) by omega), if_pos (show (0 : Int) ≤ (i : Int) ∧ (i : Int) < (l.length : Int) by omega), rd_get hi, wsucc (show i < 1000000000 by omega)]
    rw [drop_cons hi, chOk]
    by_cases h : (decide (l[i] < 0) || decide (left < l[i])) = true
    · simp only [h, if_true, Bool.not_true, Bool.false_and, Bool.false_eq_true, if_false]; exact Ev.now
    · rw [Bool.not_eq_true] at h
      have h2 : 0 ≤ l[i] ∧ l[i] ≤ left := by simpa using h
      simp only [h, Bool.false_eq_true, if_false, Bool.not_false, Bool.true_and, w64_id (show -9223372036854775808 ≤ left - l[i] ∧ left - l[i] ≤ 9223372036854775807 by omega)]
      exact cc_l0 n (i + 1) (left - l[i]) (by omega) (by omega) hl (by omega) (by omega)
def chance (l : List Int) : Bool := decide (1 ≤ l.length ∧ l.length ≤ 4) && chOk 0 1073741824 l
theorem cc_ev (l : List Int) : Ev (fun k => chance_Check.f k l 0) (if chance l = true then none else some 1) := by
  unfold chance_Check.f chance_sized.f chance_floored.f chance
  by_cases h : 1 ≤ l.length ∧ l.length ≤ 4
  · have e1 : (decide ((1 : Int) ≤ (l.length : Int)) && decide ((l.length : Int) ≤ 4)) = true := by simp; omega
    have e2 : (decide ((0 : Int) ≤ 0) && decide ((0 : Int) ≤ 67108864)) = true := rfl
    simp only [Option.bind_some, e1, e2, Bool.not_true, Bool.not_false, gdt, Bool.or_false, Bool.false_eq_true, if_false, decide_eq_true h, Bool.true_and]
    exact cc_l0 l.length 0 1073741824 (by omega) (by omega) h.2 (by omega) (by omega)
  · have e1 : (decide ((1 : Int) ≤ (l.length : Int)) && decide ((l.length : Int) ≤ 4)) = false := by
      rw [← Bool.decide_and]; exact decide_eq_false (by omega)
    simp only [Option.bind_some, e1, Bool.not_true, Bool.not_false, gdf, Bool.true_or, if_true, decide_eq_false h, Bool.false_and, Bool.false_eq_true, if_false]
    exact Ev.now
theorem rc_l0 {l : List Int} : ∀ (n i : Nat) (left : Int), l.length = i + n → i ≤ 4 → l.length ≤ 4 → 0 ≤ left → left ≤ 1073741824 → Ev (fun k => (radomeref14_Check.hs k).l0 l 0 false left (i : Int)) (chOk 0 left (l.drop i))
  | 0, i, left, e, h4, hl, h0, h1 => by
    refine Ev.step (fun k => rfl) ?_
    simp only [radomeref14_Check.hs, radomeref14_Check.b0, if_neg (show ¬ (i : Int) < (l.length : Int) by omega)]
    rw [List.drop_eq_nil_of_le (by omega), chOk]
    exact Ev.now
  | n + 1, i, left, e, h4, hl, h0, h1 => by
    have hi : i < l.length := by omega
    have hi' : (0 : Int) ≤ (i : Int) ∧ (i : Int) < (l.length : Int) := by omega
    refine Ev.step (fun k => rfl) ?_
    simp only [radomeref14_Check.hs, radomeref14_Check.b0, if_pos (show (i : Int) < (l.length : Int) by omega), if_pos hi', if_pos (show ((!(decide (rd l (i : Int) < 0))) = true → (0 : Int) ≤ (i : Int) ∧ (i : Int) < (l.length : Int)) from fun _ => hi'), wsucc (show i < 1000000000 by omega)]
    rw [rd_get hi, drop_cons hi, chOk]
    by_cases h : (decide (l[i] < 0) || decide (left < l[i])) = true
    · simp only [h, if_true, Bool.not_true, Bool.false_and]; exact Ev.now
    · rw [Bool.not_eq_true] at h
      have h2 : 0 ≤ l[i] ∧ l[i] ≤ left := by simpa using h
      simp only [h, Bool.false_eq_true, if_false, Bool.not_false, Bool.true_and, w64_id (show -9223372036854775808 ≤ left - l[i] ∧ left - l[i] ≤ 9223372036854775807 by omega)]
      exact rc_l0 n (i + 1) (left - l[i]) (by omega) (by omega) hl (by omega) (by omega)
theorem rc_ev (l : List Int) : Ev (fun k => radomeref14_Check.f k l 0) (chance l) := by
  unfold radomeref14_Check.f chance
  by_cases h : 1 ≤ l.length ∧ l.length ≤ 4
  · have e1 : ((((decide ((l.length : Int) < 1)) || (decide (4 < (l.length : Int)))) || (decide ((0 : Int) < 0))) || (decide (67108864 < (0 : Int)))) = false := by simp; omega
    simp only [e1, Bool.false_eq_true, if_false, decide_eq_true h, Bool.true_and]
    exact rc_l0 l.length 0 1073741824 (by omega) (by omega) h.2 (by omega) (by omega)
  · have e1 : ((((decide ((l.length : Int) < 1)) || (decide (4 < (l.length : Int)))) || (decide ((0 : Int) < 0))) || (decide (67108864 < (0 : Int)))) = true := by simp; omega
    simp only [e1, if_true, decide_eq_false h, Bool.false_and]
    exact Ev.now
/-! ### models and rows -/
/-- Each model with its row. -/
def mrOk (n : Nat) : List radomeref11_Model → List (List Int) → Bool
  | m :: ms, r :: rs => decide (MayM m) && (decide (r.length = n) && chance r) && mrOk n ms rs
  | [], [] => true
  | _, _ => false
theorem imm_l0 {c : radomeref17_Conf} {n0 : Nat} (hm : c.f_Models.length = n0) (hr : c.f_Rows.length = n0) (h4 : n0 ≤ 4) : ∀ (n i : Nat), n0 = i + n → Ev (fun k => (imm_Check.hs k).l0 (c.f_Models.map gm) c.f_Rows c.f_Floor none (n0 : Int) (c.f_Models.map gm) (n0 : Int) (i : Int)) (if mrOk n0 (c.f_Models.drop i) (c.f_Rows.drop i) = true then none else some 1)
  | 0, i, e => by
    refine Ev.step (fun k => rfl) ?_
    simp only [imm_Check.hs, imm_Check.b0, if_neg (show ¬ (i : Int) < (n0 : Int) by omega)]
    rw [List.drop_eq_nil_of_le (by omega), List.drop_eq_nil_of_le (by omega), mrOk]
    exact Ev.now
  | n + 1, i, e => by
    have hi : i < c.f_Models.length := by omega
    have hi2 : i < (c.f_Models.map gm).length := by rw [List.length_map]; exact hi
    have hj : i < c.f_Rows.length := by omega
    have hj' : (0 : Int) ≤ (i : Int) ∧ (i : Int) < (c.f_Rows.length : Int) := by omega
    have hl : (0 : Int) ≤ (i : Int) ∧ (i : Int) < ((c.f_Models.map gm).length : Int) := by rw [List.length_map]; omega
    refine Ev.step (fun k => rfl) ?_
    simp only [imm_Check.hs, imm_Check.b0, if_pos (show (i : Int) < (n0 : Int) by omega), if_pos hl, rd_get hi2, List.getElem_map, mcheck_eq, Option.bind_some, rd_get hj, wsucc (show i < 1000000000 by omega), if_pos (fun _ => hj' : _ → (0 : Int) ≤ (i : Int) ∧ (i : Int) < (c.f_Rows.length : Int))]
    rw [drop_cons hi, drop_cons hj, mrOk]
    by_cases h1 : MayM c.f_Models[i]
    · by_cases h2 : (c.f_Rows[i]).length = n0
      · have h2' : ((c.f_Rows[i]).length : Int) = (n0 : Int) := by omega
        simp only [if_pos h1, Option.isSome_none, decide_eq_true h2', Bool.not_true, Bool.not_false, Bool.or_false, gdt, Bool.false_or, decide_eq_true h1, decide_eq_true h2, Bool.true_and]
        refine Ev.bind (cc_ev _) ?_
        cases h3 : chance c.f_Rows[i] with
        | true =>
          simp only [if_true, Option.isSome_none, Bool.false_eq_true, if_false, Bool.true_and]
          exact imm_l0 hm hr h4 n (i + 1) (by omega)
        | false => simp only [Bool.false_eq_true, if_false, Option.isSome_some, if_true, Bool.false_and]; exact Ev.now
      · have h2' : ¬ ((c.f_Rows[i]).length : Int) = (n0 : Int) := by omega
        simp only [if_pos h1, Option.isSome_none, decide_eq_false h2', decide_eq_false h2, Bool.not_true, Bool.not_false, Bool.false_or, Bool.or_true, Bool.true_or, gdf, Option.bind_some, if_true, Bool.false_and, Bool.and_false, Bool.false_eq_true, if_false]
        exact Ev.now
    · simp only [if_neg h1, Option.isSome_some, Bool.true_or, Bool.not_true, gdf, Option.bind_some, if_true, decide_eq_false h1, Bool.false_and, Bool.false_eq_true, if_false]
      exact Ev.now
def immOk (c : radomeref17_Conf) : Bool := decide (1 ≤ c.f_Models.length ∧ c.f_Models.length ≤ 4 ∧ c.f_Rows.length = c.f_Models.length ∧ 0 ≤ c.f_Floor ∧ c.f_Floor ≤ 67108864) && mrOk c.f_Models.length c.f_Models c.f_Rows
theorem imm_ev (c : radomeref17_Conf) : Ev (fun k => imm_Check.f k ⟨c.f_Models.map gm, c.f_Rows, c.f_Floor⟩) (if immOk c = true then none else some 1) := by
  unfold imm_Check.f immOk
  simp only [List.length_map]
  by_cases h : 1 ≤ c.f_Models.length ∧ c.f_Models.length ≤ 4 ∧ c.f_Rows.length = c.f_Models.length ∧ 0 ≤ c.f_Floor ∧ c.f_Floor ≤ 67108864
  · have e : (((((decide ((c.f_Models.length : Int) < 1)) || (decide (4 < (c.f_Models.length : Int)))) || (!decide ((c.f_Rows.length : Int) = (c.f_Models.length : Int)))) || (decide (c.f_Floor < 0))) || (decide (67108864 < c.f_Floor))) = false := by simp; omega
    simp only [e, Bool.false_eq_true, if_false, decide_eq_true h, Bool.true_and]
    exact imm_l0 rfl h.2.2.1 h.2.1 c.f_Models.length 0 (by omega)
  · have e : (((((decide ((c.f_Models.length : Int) < 1)) || (decide (4 < (c.f_Models.length : Int)))) || (!decide ((c.f_Rows.length : Int) = (c.f_Models.length : Int)))) || (decide (c.f_Floor < 0))) || (decide (67108864 < c.f_Floor))) = true := by simp; omega
    simp only [e, if_true, decide_eq_false h, Bool.false_and, Bool.false_eq_true, if_false]
    exact Ev.now
theorem rimm_l0 {c : radomeref17_Conf} {n0 : Nat} (hm : c.f_Models.length = n0) (hr : c.f_Rows.length = n0) (h4 : n0 ≤ 4) : ∀ (n i : Nat), n0 = i + n → Ev (fun k => (radomeref17_May.hs k).l0 c.f_Models c.f_Rows c.f_Floor false (n0 : Int) (i : Int)) (mrOk n0 (c.f_Models.drop i) (c.f_Rows.drop i))
  | 0, i, e => by
    refine Ev.step (fun k => rfl) ?_
    simp only [radomeref17_May.hs, radomeref17_May.b0, if_neg (show ¬ (i : Int) < (n0 : Int) by omega)]
    rw [List.drop_eq_nil_of_le (by omega), List.drop_eq_nil_of_le (by omega), mrOk]
    exact Ev.now
  | n + 1, i, e => by
    have hi : i < c.f_Models.length := by omega
    have hj : i < c.f_Rows.length := by omega
    have hj' : (0 : Int) ≤ (i : Int) ∧ (i : Int) < (c.f_Rows.length : Int) := by omega
    have hl : (0 : Int) ≤ (i : Int) ∧ (i : Int) < (c.f_Models.length : Int) := by omega
    refine Ev.step (fun k => rfl) ?_
    simp only [radomeref17_May.hs, radomeref17_May.b0, if_pos (show (i : Int) < (n0 : Int) by omega), if_pos hl, rd_get hi, mayM_eq, Option.bind_some, rd_get hj, wsucc (show i < 1000000000 by omega), if_pos (fun _ => hj' : _ → (0 : Int) ≤ (i : Int) ∧ (i : Int) < (c.f_Rows.length : Int))]
    rw [drop_cons hi, drop_cons hj, mrOk]
    by_cases h1 : MayM c.f_Models[i]
    · by_cases h2 : (c.f_Rows[i]).length = n0
      · have h2' : ((c.f_Rows[i]).length : Int) = (n0 : Int) := by omega
        simp only [decide_eq_true h2', Bool.not_true, Bool.not_false, Bool.or_false, gdt, Bool.false_or, decide_eq_true h1, decide_eq_true h2, Bool.true_and]
        refine Ev.bind (rc_ev _) ?_
        cases h3 : chance c.f_Rows[i] with
        | true =>
          simp only [Bool.not_true, Bool.false_eq_true, if_false, Bool.true_and]
          exact rimm_l0 hm hr h4 n (i + 1) (by omega)
        | false => simp only [Bool.not_false, if_true, Bool.false_and]; exact Ev.now
      · have h2' : ¬ ((c.f_Rows[i]).length : Int) = (n0 : Int) := by omega
        simp only [decide_eq_true h1, decide_eq_false h2', decide_eq_false h2, Bool.not_true, Bool.not_false, Bool.false_or, Bool.or_true, Bool.true_or, gdf, Option.bind_some, if_true, Bool.false_and, Bool.and_false]
        exact Ev.now
    · simp only [decide_eq_false h1, Bool.not_false, Bool.true_or, Bool.not_true, gdf, Option.bind_some, if_true, Bool.false_and]
      exact Ev.now
theorem rimm_ev (c : radomeref17_Conf) : Ev (fun k => radomeref17_May.f k c) (immOk c) := by
  unfold radomeref17_May.f immOk
  by_cases h : 1 ≤ c.f_Models.length ∧ c.f_Models.length ≤ 4 ∧ c.f_Rows.length = c.f_Models.length ∧ 0 ≤ c.f_Floor ∧ c.f_Floor ≤ 67108864
  · have e : (((((decide ((c.f_Models.length : Int) < 1)) || (decide (4 < (c.f_Models.length : Int)))) || (!decide ((c.f_Rows.length : Int) = (c.f_Models.length : Int)))) || (decide (c.f_Floor < 0))) || (decide (67108864 < c.f_Floor))) = false := by simp; omega
    simp only [e, Bool.false_eq_true, if_false, decide_eq_true h, Bool.true_and]
    exact rimm_l0 rfl h.2.2.1 h.2.1 c.f_Models.length 0 (by omega)
  · have e : (((((decide ((c.f_Models.length : Int) < 1)) || (decide (4 < (c.f_Models.length : Int)))) || (!decide ((c.f_Rows.length : Int) = (c.f_Models.length : Int)))) || (decide (c.f_Floor < 0))) || (decide (67108864 < c.f_Floor))) = true := by simp; omega
    simp only [e, if_true, decide_eq_false h, Bool.false_and]
    exact Ev.now
end Go.Proofs.YtfdedgoohjnhiaaDoor.Pure
