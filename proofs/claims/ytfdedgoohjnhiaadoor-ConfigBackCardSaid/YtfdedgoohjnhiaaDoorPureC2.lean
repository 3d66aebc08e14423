/- Configs: may one be; its bytes. -/
import Derived.Test.YtfdedgoohjnhiaaDoorPureC1
namespace Go.Proofs.YtfdedgoohjnhiaaDoor.Pure
open Go.RowKit Go.Proofs.YtfdedgoohjnhiaaDoorK Go.Proofs.YtfdedgoohjnhiaaDoor.GCB
set_option linter.unusedVariables false
set_option linter.unusedSimpArgs false
set_option maxRecDepth 100000
theorem mrOk_len {n : Nat} : ∀ {ms : List radomeref11_Model} {rs : List (List Int)}, mrOk n ms rs = true → ∀ x ∈ rs, x.length = n
  | [], [], _, x, hx => by cases hx
  | m :: ms, r :: rs, h, x, hx => by
    simp only [mrOk, Bool.and_eq_true, decide_eq_true_eq] at h
    rcases List.mem_cons.1 hx with rfl | hx
    · exact h.1.2.1
    · exact mrOk_len h.2 x hx
  | [], _ :: _, h, _, _ => by simp [mrOk] at h
  | _ :: _, [], h, _, _ => by simp [mrOk] at h
/-- May a config be? -/
def cfgP (c : radomeref30_Config) : Prop :=
  (1 ≤ c.f_Sensor.f_Range ∧ c.f_Sensor.f_Range ≤ 17179869184 ∧ 1 ≤ c.f_Sensor.f_Turn ∧ c.f_Sensor.f_Turn ≤ 268435456) ∧ (1 ≤ c.f_Rule.f_Window ∧ c.f_Rule.f_Window ≤ 16 ∧ 1 ≤ c.f_Rule.f_Hits ∧ c.f_Rule.f_Hits ≤ c.f_Rule.f_Window ∧ 1 ≤ c.f_Rule.f_Misses ∧ c.f_Rule.f_Misses ≤ 64) ∧
  (1 ≤ c.f_Gate ∧ c.f_Gate ≤ 1073741824 ∧ 1 ≤ c.f_Merge ∧ c.f_Merge ≤ 1073741824 ∧ 0 ≤ c.f_Miss ∧ c.f_Miss ≤ 4096) ∧ (1 ≤ c.f_Fast ∧ c.f_Fast ≤ 1099511627776 ∧ 1 ≤ c.f_Push ∧ c.f_Push ≤ 1099511627776) ∧ (1 ≤ c.f_Tracks ∧ c.f_Tracks ≤ 64 ∧ 1 ≤ c.f_From ∧ c.f_From ≤ 1073741824) ∧ (1 ≤ c.f_Least ∧ c.f_Least ≤ c.f_Most ∧ c.f_Most ≤ 8192)
instance (c : radomeref30_Config) : Decidable (cfgP c) := inferInstanceAs (Decidable (_ ∧ _))
def cfgOk (c : radomeref30_Config) : Bool := immOk c.f_Imm && decide (cfgP c)
theorem may_ev (c : radomeref30_Config) : Ev (fun k => radomeref30_May.f k c) (cfgOk c) := by
  unfold radomeref30_May.f radomeref10_May.f radomeref23_Check.f cfgOk
  simp only [Option.bind_some]
  by_cases h1 : 1 ≤ c.f_Sensor.f_Range ∧ c.f_Sensor.f_Range ≤ 17179869184 ∧ 1 ≤ c.f_Sensor.f_Turn ∧ c.f_Sensor.f_Turn ≤ 268435456
  · have e1 : ((((decide (1 ≤ c.f_Sensor.f_Range)) && (decide (c.f_Sensor.f_Range ≤ 17179869184))) && (decide (1 ≤ c.f_Sensor.f_Turn))) && (decide (c.f_Sensor.f_Turn ≤ 268435456))) = true := by simp; omega
    simp only [e1, Bool.not_true, Bool.not_false, gdt]
    refine Ev.bind (rimm_ev _) ?_
    cases h2 : immOk c.f_Imm with
    | false => simp only [Bool.not_false, Bool.or_true, Bool.not_true, gdf, Option.bind_some, Bool.true_or, if_true, Bool.false_and]; exact Ev.now
    | true =>
      simp only [Bool.not_true, Bool.or_false, Bool.not_false, gdt, Option.bind_some, Bool.false_or, Bool.true_and]
      by_cases h3 : (1 ≤ c.f_Rule.f_Window ∧ c.f_Rule.f_Window ≤ 16 ∧ 1 ≤ c.f_Rule.f_Hits ∧ c.f_Rule.f_Hits ≤ c.f_Rule.f_Window ∧ 1 ≤ c.f_Rule.f_Misses ∧ c.f_Rule.f_Misses ≤ 64) ∧ (1 ≤ c.f_Gate ∧ c.f_Gate ≤ 1073741824 ∧ 1 ≤ c.f_Merge ∧ c.f_Merge ≤ 1073741824 ∧ 0 ≤ c.f_Miss ∧ c.f_Miss ≤ 4096)
      · have e3 : ((((((((!((((((decide (1 ≤ c.f_Rule.f_Window)) && (decide (c.f_Rule.f_Window ≤ 16))) && (decide (1 ≤ c.f_Rule.f_Hits))) && (decide (c.f_Rule.f_Hits ≤ c.f_Rule.f_Window))) && (decide (1 ≤ c.f_Rule.f_Misses))) && (decide (c.f_Rule.f_Misses ≤ 64)))) || (decide (c.f_Gate < 1))) || (decide (1073741824 < c.f_Gate))) || (decide (c.f_Merge < 1))) || (decide (1073741824 < c.f_Merge))) || (decide (c.f_Miss < 0))) || (decide (4096 < c.f_Miss)))) = false := by simp; omega
        simp only [e3, Bool.false_eq_true, if_false]
        by_cases h4 : (1 ≤ c.f_Fast ∧ c.f_Fast ≤ 1099511627776 ∧ 1 ≤ c.f_Push ∧ c.f_Push ≤ 1099511627776) ∧ (1 ≤ c.f_Tracks ∧ c.f_Tracks ≤ 64 ∧ 1 ≤ c.f_From ∧ c.f_From ≤ 1073741824)
        · have e4 : ((((((((decide (c.f_Fast < 1)) || (decide (1099511627776 < c.f_Fast))) || (decide (c.f_Push < 1))) || (decide (1099511627776 < c.f_Push))) || (decide (c.f_Tracks < 1))) || (decide (64 < c.f_Tracks))) || (decide (c.f_From < 1))) || (decide (1073741824 < c.f_From))) = false := by simp; omega
          simp only [e4, Bool.false_eq_true, if_false]
          have : decide (cfgP c) = (((decide (1 ≤ c.f_Least)) && (decide (c.f_Least ≤ c.f_Most))) && (decide (c.f_Most ≤ 8192))) := by
            rw [← Bool.decide_and, ← Bool.decide_and, decide_eq_decide]; unfold cfgP; omega
          rw [this]; exact Ev.now
        · have e4 : ((((((((decide (c.f_Fast < 1)) || (decide (1099511627776 < c.f_Fast))) || (decide (c.f_Push < 1))) || (decide (1099511627776 < c.f_Push))) || (decide (c.f_Tracks < 1))) || (decide (64 < c.f_Tracks))) || (decide (c.f_From < 1))) || (decide (1073741824 < c.f_From))) = true := by
            refine Decidable.byContradiction fun hc => h4 ?_; rw [Bool.not_eq_true] at hc; simp at hc; omega
          simp only [e4, if_true]
          rw [decide_eq_false (fun x : cfgP c => h4 ⟨x.2.2.2.1, x.2.2.2.2.1⟩)]; exact Ev.now
      · have e3 : ((((((((!((((((decide (1 ≤ c.f_Rule.f_Window)) && (decide (c.f_Rule.f_Window ≤ 16))) && (decide (1 ≤ c.f_Rule.f_Hits))) && (decide (c.f_Rule.f_Hits ≤ c.f_Rule.f_Window))) && (decide (1 ≤ c.f_Rule.f_Misses))) && (decide (c.f_Rule.f_Misses ≤ 64)))) || (decide (c.f_Gate < 1))) || (decide (1073741824 < c.f_Gate))) || (decide (c.f_Merge < 1))) || (decide (1073741824 < c.f_Merge))) || (decide (c.f_Miss < 0))) || (decide (4096 < c.f_Miss)))) = true := by
          refine Decidable.byContradiction fun hc => h3 ?_; rw [Bool.not_eq_true] at hc; simp at hc; omega
        simp only [e3, if_true]
        rw [decide_eq_false (fun x : cfgP c => h3 ⟨x.2.1, x.2.2.1⟩)]; exact Ev.now
  · have e1 : ((((decide (1 ≤ c.f_Sensor.f_Range)) && (decide (c.f_Sensor.f_Range ≤ 17179869184))) && (decide (1 ≤ c.f_Sensor.f_Turn))) && (decide (c.f_Sensor.f_Turn ≤ 268435456))) = false := by
      refine Decidable.byContradiction fun hc => h1 ?_; rw [Bool.not_eq_false] at hc; simp at hc; omega
    simp only [e1, Bool.not_false, Bool.not_true, gdf, Option.bind_some, Bool.true_or, if_true]
    rw [decide_eq_false (fun x : cfgP c => h1 x.1), Bool.and_false]; exact Ev.now
theorem gds {α : Type} (b : Bool) (v d : α) : gd b (some v) d = some (cond b v d) := by cases b <;> rfl
theorem ite_sm {α : Type} {c : Prop} [Decidable c] (x y : α) : (if c then some x else some y) = some (if c then x else y) := by by_cases h : c <;> simp [h]
def cfgX (c : config_Config) : Prop :=
  (1 ≤ c.f_Sensor.f_Range ∧ c.f_Sensor.f_Range ≤ 17179869184 ∧ 1 ≤ c.f_Sensor.f_Turn ∧ c.f_Sensor.f_Turn ≤ 268435456) ∧ (1 ≤ c.f_Rule.f_Window ∧ c.f_Rule.f_Window ≤ 16 ∧ 1 ≤ c.f_Rule.f_Hits ∧ c.f_Rule.f_Hits ≤ c.f_Rule.f_Window ∧ 1 ≤ c.f_Rule.f_Misses ∧ c.f_Rule.f_Misses ≤ 64) ∧
  (1 ≤ c.f_Gate ∧ c.f_Gate ≤ 1073741824 ∧ 1 ≤ c.f_Merge ∧ c.f_Merge ≤ 1073741824 ∧ 0 ≤ c.f_Miss ∧ c.f_Miss ≤ 4096) ∧ (1 ≤ c.f_Fast ∧ c.f_Fast ≤ 1099511627776 ∧ 1 ≤ c.f_Push ∧ c.f_Push ≤ 1099511627776) ∧ (1 ≤ c.f_Tracks ∧ c.f_Tracks ≤ 64 ∧ 1 ≤ c.f_From ∧ c.f_From ≤ 1073741824) ∧ (1 ≤ c.f_Least ∧ c.f_Least ≤ c.f_Most ∧ c.f_Most ≤ 8192)
instance (c : config_Config) : Decidable (cfgX c) := inferInstanceAs (Decidable (_ ∧ _))
theorem condF {b c : Bool} : (bif b then c else false) = (b && c) := by cases b <;> rfl
theorem check0 {c : config_Config} {b : Bool} (hI : Ev (fun k => imm_Check.f k c.f_Imm) (if b = true then none else some 1)) : Ev (fun k => config_Check.f k c) (if (b && decide (cfgX c)) = true then none else some 1) := by
  unfold config_Check.f polar_Check.f life_Check.f config_within.f
  simp only [ite_sm, gds, Option.bind_some]
  by_cases h1 : 1 ≤ c.f_Sensor.f_Range ∧ c.f_Sensor.f_Range ≤ 17179869184 ∧ 1 ≤ c.f_Sensor.f_Turn ∧ c.f_Sensor.f_Turn ≤ 268435456
  · have e1 : ((((decide (c.f_Sensor.f_Range < 1)) || (decide (17179869184 < c.f_Sensor.f_Range))) || (decide (c.f_Sensor.f_Turn < 1))) || (decide (268435456 < c.f_Sensor.f_Turn))) = false := by simp; omega
    simp only [e1, Bool.false_eq_true, if_false, Option.isNone_none, gdt]
    refine Ev.bind hI ?_
    cases b with
    | false =>
      simp only [Bool.false_eq_true, if_false, Option.isNone_some, Bool.and_false, Bool.false_and, Bool.not_false, Bool.true_or, if_true]
      exact Ev.now
    | true =>
      by_cases h5 : 1 ≤ c.f_Rule.f_Window ∧ c.f_Rule.f_Window ≤ 16 ∧ 1 ≤ c.f_Rule.f_Hits ∧ c.f_Rule.f_Hits ≤ c.f_Rule.f_Window ∧ 1 ≤ c.f_Rule.f_Misses ∧ c.f_Rule.f_Misses ≤ 64
      · have e5 : (((((decide (c.f_Rule.f_Hits < 1)) || (decide (c.f_Rule.f_Window < c.f_Rule.f_Hits))) || (decide (16 < c.f_Rule.f_Window))) || (decide (c.f_Rule.f_Misses < 1))) || (decide (64 < c.f_Rule.f_Misses))) = false := by simp; omega
        simp only [if_true, Option.isNone_none, Bool.true_and, e5, Bool.false_eq_true, if_false, ite_self, condF, cond_true, Bool.not_true, Bool.false_or]
        by_cases h3 : (1 ≤ c.f_Gate ∧ c.f_Gate ≤ 1073741824 ∧ 1 ≤ c.f_Merge ∧ c.f_Merge ≤ 1073741824 ∧ 0 ≤ c.f_Miss ∧ c.f_Miss ≤ 4096) ∧ (1 ≤ c.f_Fast ∧ c.f_Fast ≤ 1099511627776 ∧ 1 ≤ c.f_Push ∧ c.f_Push ≤ 1099511627776) ∧ (1 ≤ c.f_Tracks ∧ c.f_Tracks ≤ 64 ∧ 1 ≤ c.f_From ∧ c.f_From ≤ 1073741824) ∧ (1 ≤ c.f_Least ∧ c.f_Least ≤ c.f_Most ∧ c.f_Most ≤ 8192)
        · rw [if_pos (decide_eq_true (show cfgX c from ⟨h1, h5, h3⟩)), if_neg]
          · exact Ev.now
          · simp; omega
        · rw [decide_eq_false (fun x : cfgX c => h3 x.2.2), if_pos]
          · exact Ev.now
          · refine Decidable.byContradiction fun hc => h3 ?_
            rw [Bool.not_eq_true] at hc; simp at hc; omega
      · have e5 : (((((decide (c.f_Rule.f_Hits < 1)) || (decide (c.f_Rule.f_Window < c.f_Rule.f_Hits))) || (decide (16 < c.f_Rule.f_Window))) || (decide (c.f_Rule.f_Misses < 1))) || (decide (64 < c.f_Rule.f_Misses))) = true := by
          refine Decidable.byContradiction fun hc => h5 ?_; rw [Bool.not_eq_true] at hc; simp at hc; omega
        simp only [if_true, Option.isNone_none, Bool.true_and, e5, cond_true, Option.isNone_some, Bool.not_false, Bool.true_or]
        rw [decide_eq_false (fun x : cfgX c => h5 x.2.1)]; exact Ev.now
  · have e1 : ((((decide (c.f_Sensor.f_Range < 1)) || (decide (17179869184 < c.f_Sensor.f_Range))) || (decide (c.f_Sensor.f_Turn < 1))) || (decide (268435456 < c.f_Sensor.f_Turn))) = true := by
      refine Decidable.byContradiction fun hc => h1 ?_; rw [Bool.not_eq_true] at hc; simp at hc; omega
    simp only [e1, if_true, Option.isNone_some, gdf, Option.bind_some, Bool.false_and, Bool.not_false, Bool.true_or]
    rw [decide_eq_false (fun x : cfgX c => h1 x.1), Bool.and_false]; exact Ev.now
theorem check_ev (c : radomeref30_Config) : Ev (fun k => config_Check.f k (gc c)) (if cfgOk c = true then none else some 1) := check0 (c := gc c) (imm_ev c.f_Imm)
theorem cfg_few {c : radomeref30_Config} (h : cfgOk c = true) : Few (gc c) := by
  simp only [cfgOk, immOk, Bool.and_eq_true, decide_eq_true_eq] at h
  refine ⟨(by show (c.f_Imm.f_Models.map gm).length ≤ 10; rw [List.length_map]; omega), (by show c.f_Imm.f_Rows.length ≤ 10; omega), fun x hx => ?_⟩
  have := mrOk_len h.1.2 x hx
  omega
/-! ### bytes -/
/-- A number's eight bytes, the highest first. -/
def by8 (n : Int) : List Int := [n / 72057594037927936 % 256, n / 281474976710656 % 256, n / 1099511627776 % 256, n / 4294967296 % 256, n / 16777216 % 256, n / 65536 % 256, n / 256 % 256, n % 256]
theorem shi64 {m : Nat} (h : m ≤ 64) : shn .i64 (m : Int) = m := by simp only [shn, IntKind.bits]; omega
theorem enc_step {out t15 : List Int} {n t16 t17 : Int} {r : List Int × Option Int} (i : Nat) (hi : i ≤ 7) (ho : out.length ≤ 100000000) (h : Ev (fun k => (config_Encode.hs k).l1 (out ++ [n / 2 ^ (8 * i) % 256]) n ((i : Int) - 1) t15 t16 t17) r) : Ev (fun k => (config_Encode.hs k).l1 out n (i : Int) t15 t16 t17) r := by
  refine Ev.step (fun k => rfl) ?_
  have e : w64 (8 * (i : Int)) = ((8 * i : Nat) : Int) := by rw [w64_id (by omega)]; simp
  simp only [config_Encode.hs, config_Encode.b1, if_pos (show (0 : Int) ≤ (i : Int) by omega), e, if_pos (show (0 : Int) ≤ ((8 * i : Nat) : Int) by omega), if_pos (show out.length + 1 ≤ 140737488355200 by omega), shi64 (show 8 * i ≤ 64 by omega), w64_id (show -9223372036854775808 ≤ (i : Int) - 1 ∧ (i : Int) - 1 ≤ 9223372036854775807 by omega)]
  exact h
theorem enc_one {out t15 : List Int} {n t16 t17 : Int} {r : List Int × Option Int} (ho : out.length ≤ 1000000) (h : Ev (fun k => (config_Encode.hs k).l0 (out ++ by8 n) t15 t16 (w64 (t17 + 1))) r) : Ev (fun k => (config_Encode.hs k).l1 out n 7 t15 t16 t17) r := by
  refine enc_step 7 (by omega) (by omega) ?_
  refine enc_step 6 (by omega) (by simp; omega) ?_
  refine enc_step 5 (by omega) (by simp; omega) ?_
  refine enc_step 4 (by omega) (by simp; omega) ?_
  refine enc_step 3 (by omega) (by simp; omega) ?_
  refine enc_step 2 (by omega) (by simp; omega) ?_
  refine enc_step 1 (by omega) (by simp; omega) ?_
  refine enc_step 0 (by omega) (by simp; omega) ?_
  refine Ev.step (fun k => rfl) ?_
  have e : out ++ [n / 2 ^ (8 * 7) % 256] ++ [n / 2 ^ (8 * 6) % 256] ++ [n / 2 ^ (8 * 5) % 256] ++ [n / 2 ^ (8 * 4) % 256] ++ [n / 2 ^ (8 * 3) % 256] ++ [n / 2 ^ (8 * 2) % 256] ++ [n / 2 ^ (8 * 1) % 256] ++ [n / 2 ^ (8 * 0) % 256] = out ++ by8 n := by
    simp [by8]
  rw [e]
  simp only [config_Encode.hs, config_Encode.b1, if_neg (show ¬ (0 : Int) ≤ ((0 : Nat) : Int) - 1 by omega)]
  exact h
theorem enc_l0 {l : List Int} (hl : l.length ≤ 1000) : ∀ (n i : Nat) (out : List Int), l.length = i + n → out.length ≤ 8 * i → Ev (fun k => (config_Encode.hs k).l0 out l (l.length : Int) (i : Int)) (out ++ ((l.drop i).map by8).flatten, none)
  | 0, i, out, e, ho => by
    refine Ev.step (fun k => rfl) ?_
    simp only [config_Encode.hs, config_Encode.b0, if_neg (show ¬ (i : Int) < (l.length : Int) by omega)]
    rw [List.drop_eq_nil_of_le (by omega), List.map_nil, List.flatten_nil, List.append_nil]
    exact Ev.now
  | n + 1, i, out, e, ho => by
    have hi : i < l.length := by omega
    refine Ev.step (fun k => rfl) ?_
    simp only [config_Encode.hs, config_Encode.b0, if_pos (show (i : Int) < (l.length : Int) by omega), if_pos (show (0 : Int) ≤ (i : Int) ∧ (i : Int) < (l.length : Int) by omega), rd_get hi]
    refine enc_one (by omega) ?_
    rw [wsucc (by omega), drop_cons hi, List.map_cons, List.flatten_cons, ← List.append_assoc]
    exact enc_l0 hl n (i + 1) _ (by omega) (by simp [by8]; omega)
theorem NM_len {c : config_Config} (h : Few c) : (NM c).length ≤ 1000 := by
  have h1 : (c.f_Imm.f_Models.map mnum).flatten.length ≤ 3 * c.f_Imm.f_Models.length := by
    generalize c.f_Imm.f_Models = l
    induction l with
    | nil => simp
    | cons a l ih => simp [mnum] at ih ⊢; omega
  have h2 : c.f_Imm.f_Rows.flatten.length ≤ 10 * c.f_Imm.f_Rows.length := by
    have := h.e
    generalize c.f_Imm.f_Rows = l at this
    induction l with
    | nil => simp
    | cons a l ih =>
      have := this a (List.mem_cons_self ..)
      have := ih (fun x hx => by rename_i h; exact h x (List.mem_cons_of_mem _ hx))
      simp only [List.flatten_cons, List.length_append, List.length_cons]; omega
  have := h.m; have := h.r
  simp only [NM, tailN, List.length_append, List.length_cons, List.length_nil]; omega
theorem enc_ev {c : radomeref30_Config} (h : Few (gc c)) : Ev (fun k => config_Encode.f k (gc c)) (if cfgOk c = true then (((NM (gc c)).map by8).flatten, none) else ([], some 1)) := by
  unfold config_Encode.f
  refine Ev.bind (check_ev c) ?_
  cases hc : cfgOk c with
  | false => simp only [Bool.false_eq_true, if_false, Option.isSome_some, if_true]; exact Ev.now
  | true =>
    simp only [if_true, Option.isSome_none, Bool.false_eq_true, if_false]
    refine Ev.bind (num_ev h) ?_
    exact enc_l0 (NM_len h) (NM (gc c)).length 0 [] (by omega) (by simp)
/-! ### the same -/
theorem eq_l0 {a b : List Int} (hl : a.length = b.length) (hb : a.length ≤ 1000000) : ∀ (n i : Nat), a.length = i + n → Ev (fun k => (slices_Equal_int64_int64.hs k).l0 a b false (a.length : Int) (i : Int)) (decide (a.drop i = b.drop i))
  | 0, i, e => by
    refine Ev.step (fun k => rfl) ?_
    simp only [slices_Equal_int64_int64.hs, slices_Equal_int64_int64.b0, if_neg (show ¬ (i : Int) < (a.length : Int) by omega)]
    rw [List.drop_eq_nil_of_le (by omega), List.drop_eq_nil_of_le (by omega), decide_eq_true rfl]
    exact Ev.now
  | n + 1, i, e => by
    have hi : i < a.length := by omega
    have hj : i < b.length := by omega
    refine Ev.step (fun k => rfl) ?_
    simp only [slices_Equal_int64_int64.hs, slices_Equal_int64_int64.b0, if_pos (show (i : Int) < (a.length : Int) by omega), if_pos (show (0 : Int) ≤ (i : Int) ∧ (i : Int) < (a.length : Int) by omega), if_pos (show (0 : Int) ≤ (i : Int) ∧ (i : Int) < (b.length : Int) by omega), rd_get hi, rd_get hj, wsucc (show i < 1000000000 by omega)]
    rw [drop_cons hi, drop_cons hj]
    by_cases h : a[i] = b[i]
    · simp only [if_pos h]
      have e2 : decide (a[i] :: a.drop (i + 1) = b[i] :: b.drop (i + 1)) = decide (a.drop (i + 1) = b.drop (i + 1)) := by
        rw [decide_eq_decide]; exact ⟨fun x => (List.cons.inj x).2, fun x => by rw [h, x]⟩
      rw [e2]
      exact eq_l0 hl hb n (i + 1) (by omega)
    · simp only [if_neg h]
      have e2 : decide (a[i] :: a.drop (i + 1) = b[i] :: b.drop (i + 1)) = false := decide_eq_false fun x => h (List.cons.inj x).1
      rw [e2]; exact Ev.now
theorem eq_ev {a b : List Int} (hb : a.length ≤ 1000000) : Ev (fun k => slices_Equal_int64_int64.f k a b) (decide (a = b)) := by
  unfold slices_Equal_int64_int64.f
  by_cases h : a.length = b.length
  · simp only [if_pos (show (a.length : Int) = (b.length : Int) by omega)]
    have := eq_l0 h hb a.length 0 (by omega)
    rw [List.drop_zero, List.drop_zero] at this
    exact this
  · simp only [if_neg (show ¬ (a.length : Int) = (b.length : Int) by omega)]
    rw [decide_eq_false (fun x : a = b => h (by rw [x]))]
    exact Ev.now
theorem nums_l0 {a b : List Int} (hl : a.length = b.length) (hb : a.length ≤ 1000000) : ∀ (n i : Nat), a.length = i + n → Ev (fun k => (radomelaw30_nums.hs k).l0 a b false (i : Int)) (decide (a.drop i = b.drop i))
  | 0, i, e => by
    refine Ev.step (fun k => rfl) ?_
    simp only [radomelaw30_nums.hs, radomelaw30_nums.b0, if_neg (show ¬ (i : Int) < (a.length : Int) by omega)]
    rw [List.drop_eq_nil_of_le (by omega), List.drop_eq_nil_of_le (by omega), decide_eq_true rfl]
    exact Ev.now
  | n + 1, i, e => by
    have hi : i < a.length := by omega
    have hj : i < b.length := by omega
    refine Ev.step (fun k => rfl) ?_
    simp only [radomelaw30_nums.hs, radomelaw30_nums.b0, if_pos (show (i : Int) < (a.length : Int) by omega), if_pos (show (0 : Int) ≤ (i : Int) ∧ (i : Int) < (a.length : Int) by omega), if_pos (show (0 : Int) ≤ (i : Int) ∧ (i : Int) < (b.length : Int) by omega), rd_get hi, rd_get hj, wsucc (show i < 1000000000 by omega)]
    rw [drop_cons hi, drop_cons hj]
    by_cases h : a[i] = b[i]
    · simp only [if_pos h]
      have e2 : decide (a[i] :: a.drop (i + 1) = b[i] :: b.drop (i + 1)) = decide (a.drop (i + 1) = b.drop (i + 1)) := by
        rw [decide_eq_decide]; exact ⟨fun x => (List.cons.inj x).2, fun x => by rw [h, x]⟩
      rw [e2]
      exact nums_l0 hl hb n (i + 1) (by omega)
    · simp only [if_neg h]
      have e2 : decide (a[i] :: a.drop (i + 1) = b[i] :: b.drop (i + 1)) = false := decide_eq_false fun x => h (List.cons.inj x).1
      rw [e2]; exact Ev.now
theorem nums_ev {a b : List Int} (hb : a.length ≤ 1000000) : Ev (fun k => radomelaw30_nums.f k a b) (decide (a = b)) := by
  unfold radomelaw30_nums.f
  by_cases h : a.length = b.length
  · simp only [if_pos (show (a.length : Int) = (b.length : Int) by omega)]
    have := nums_l0 h hb a.length 0 (by omega)
    rw [List.drop_zero, List.drop_zero] at this
    exact this
  · simp only [if_neg (show ¬ (a.length : Int) = (b.length : Int) by omega)]
    rw [decide_eq_false (fun x : a = b => h (by rw [x]))]
    exact Ev.now
theorem same_ev {c d : radomeref30_Config} (h : Few (gc c)) (h2 : Few (gc d)) : Ev (fun k => config_Same.f k (gc c) (gc d)) (decide (NM (gc c) = NM (gc d))) := by
  unfold config_Same.f
  refine Ev.bind (num_ev h) (Ev.bind (num_ev h2) (Ev.bind (eq_ev (by have := NM_len h; omega)) ?_))
  exact Ev.now
/-! ### what must come -/
theorem sure30 : ∃ k, radomelaw30_sure.f k = some true := ⟨600, by decide +kernel⟩
theorem sure_ev30 : Ev (fun k => radomelaw30_sure.f k) true := let ⟨k, h⟩ := sure30; Ev.of (fun k => radomelaw30_sure.mono k) h
end Go.Proofs.YtfdedgoohjnhiaaDoor.Pure
