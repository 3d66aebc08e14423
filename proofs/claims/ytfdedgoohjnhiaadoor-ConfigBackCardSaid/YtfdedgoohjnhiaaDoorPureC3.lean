/- Configs: read from bytes, number by number. -/
import Derived.Test.YtfdedgoohjnhiaaDoorPureC2
namespace Go.Proofs.YtfdedgoohjnhiaaDoor.Pure
open Go.RowKit Go.Proofs.YtfdedgoohjnhiaaDoorK Go.Proofs.YtfdedgoohjnhiaaDoor.GCB
set_option linter.unusedVariables false
set_option linter.unusedSimpArgs false
set_option linter.unusedSectionVars false
set_option maxRecDepth 100000
/-! ### a number of bytes -/
def un : Int → List Int → Int
  | n, [] => n
  | n, c :: l => un ((256 * n + c) % 18446744073709551616) l
theorem ofInt_emod (x : Int) : BitVec.ofInt 64 x = BitVec.ofNat 64 (x % 18446744073709551616).toNat := by
  apply BitVec.eq_of_toNat_eq
  rw [BitVec.toNat_ofInt, BitVec.toNat_ofNat]
  have : ((2 : Nat) ^ 64 : Nat) = 18446744073709551616 := by decide
  rw [this]
  omega
theorem w64_emod (x : Int) : w64 x % 18446744073709551616 = x % 18446744073709551616 := by rw [w64_eq]; split <;> omega
theorem w64_congr {x y : Int} (h : x % 18446744073709551616 = y % 18446744073709551616) : w64 x = w64 y := by rw [w64_eq, w64_eq, h]
theorem ior_byte {n c : Int} (hc : 0 ≤ c ∧ c ≤ 255) : ior .i64 (w64 (w64 n * 256)) (w64 c) = w64 ((256 * n + c) % 18446744073709551616) := by
  have hx : w64 (w64 n * 256) % 18446744073709551616 = (256 * (n % 72057594037927936)) := by
    rw [w64_emod]; have := w64_emod n; omega
  have hq : 0 ≤ n % 72057594037927936 ∧ n % 72057594037927936 < 72057594037927936 := by omega
  unfold ior
  show w64 ((BitVec.ofInt 64 (w64 (w64 n * 256)) ||| BitVec.ofInt 64 (w64 c)).toNat : Int) = _
  rw [ofInt_emod (w64 (w64 n * 256)), hx, ofInt_emod (w64 c), w64_emod c]
  obtain ⟨q, hq'⟩ : ∃ q : Nat, (q : Int) = n % 72057594037927936 := ⟨(n % 72057594037927936).toNat, by omega⟩
  obtain ⟨b, hb'⟩ : ∃ b : Nat, (b : Int) = c := ⟨c.toNat, by omega⟩
  have e1 : (256 * (n % 72057594037927936)).toNat = 2 ^ 8 * q := by omega
  have e2 : (c % 18446744073709551616).toNat = b := by omega
  rw [e1, e2, BitVec.toNat_or, BitVec.toNat_ofNat, BitVec.toNat_ofNat]
  have p64 : ((2 : Nat) ^ 64 : Nat) = 18446744073709551616 := by decide
  rw [p64, Nat.mod_eq_of_lt (show 2 ^ 8 * q < 18446744073709551616 by omega), Nat.mod_eq_of_lt (show b < 18446744073709551616 by omega), ← Nat.two_pow_add_eq_or_of_lt (show b < 2 ^ 8 by omega) q]
  show w64 _ = _
  apply w64_congr
  push_cast
  omega
/-- The number at the begin of bytes. -/
def nb (b : List Int) : Int := w64 (un 0 (b.take 8))
def Byt (b : List Int) : Prop := ∀ x ∈ b, 0 ≤ x ∧ x ≤ 255
theorem cut_take {b : List Int} : cut b 0 8 = b.take 8 := by unfold cut; simp
theorem cut_drop {b : List Int} : cut b 8 (b.length : Int) = b.drop 8 := by unfold cut; simp
theorem num_step {r t10 : List Int} (hb : Byt t10) (hl : t10.length ≤ 8) (hr : 8 ≤ r.length) : ∀ (m i : Nat) (n : Int), t10.length = i + m → Ev (fun k => (config_reader_number.hs k).l0 r (w64 n) t10 (t10.length : Int) (i : Int)) (w64 (un n (t10.drop i)), ⟨r.drop 8⟩)
  | 0, i, n, e => by
    refine Ev.step (fun k => rfl) ?_
    simp only [config_reader_number.hs, config_reader_number.b0, if_neg (show ¬ (i : Int) < (t10.length : Int) by omega), if_pos (show (0 : Int) ≤ 8 ∧ (8 : Int) ≤ (r.length : Int) ∧ (r.length : Int) ≤ (r.length : Int) by omega), cut_drop]
    rw [show t10.drop i = [] from List.drop_eq_nil_of_le (by omega), un]; exact Ev.now
  | m + 1, i, n, e => by
    have hi : i < t10.length := by omega
    have hc := hb _ (List.getElem_mem hi)
    refine Ev.step (fun k => rfl) ?_
    simp only [config_reader_number.hs, config_reader_number.b0, if_pos (show (i : Int) < (t10.length : Int) by omega), if_pos (show (0 : Int) ≤ (i : Int) ∧ (i : Int) < (t10.length : Int) by omega), rd_get hi, ior_byte hc, wsucc (show i < 1000000000 by omega)]
    rw [drop_cons hi, un]
    exact num_step hb hl hr m (i + 1) _ (by omega)
theorem number_ev {r : List Int} (hb : Byt r) (hr : 8 ≤ r.length) : Ev (fun k => config_reader_number.f k ⟨r⟩) (nb r, ⟨r.drop 8⟩) := by
  unfold config_reader_number.f
  simp only [if_pos (show (0 : Int) ≤ 0 ∧ (0 : Int) ≤ 8 ∧ 8 ≤ (r.length : Int) by omega), cut_take]
  have := num_step (r := r) (t10 := r.take 8) (fun x hx => hb x (List.mem_of_mem_take hx)) (by simp; omega) hr (r.take 8).length 0 0 (by omega)
  rw [List.drop_zero] at this
  exact this
/-- The numbers of bytes. -/
def NB (b : List Int) (j : Nat) : Int := nb (b.drop (8 * j))
theorem read_ev {b : List Int} (hb : Byt b) {j : Nat} (hj : 8 * j + 8 ≤ b.length) : Ev (fun k => config_reader_number.f k ⟨b.drop (8 * j)⟩) (NB b j, ⟨b.drop (8 * (j + 1))⟩) := by
  have := number_ev (r := b.drop (8 * j)) (fun x hx => hb x (List.mem_of_mem_drop hx)) (by simp; omega)
  rw [List.drop_drop] at this
  exact this
/-! ### models and rows -/
def mkM (b : List Int) (at_ : Nat) : radomeref11_Model := ⟨NB b at_, NB b (at_ + 1), NB b (at_ + 2)⟩
def modsAt (b : List Int) : Nat → Nat → List radomeref11_Model
  | 0, _ => []
  | m + 1, at_ => mkM b at_ :: modsAt b m (at_ + 3)
def rowAt (b : List Int) : Nat → Nat → List Int
  | 0, _ => []
  | m + 1, at_ => NB b at_ :: rowAt b m (at_ + 1)
def rowsAt (b : List Int) (n : Nat) : Nat → Nat → List (List Int)
  | 0, _ => []
  | m + 1, at_ => rowAt b n at_ :: rowsAt b n m (at_ + n)
section
variable {b : List Int} (hb : Byt b) (hl : b.length ≤ 1000000) {n : Nat} (hn : 1 ≤ n ∧ n ≤ 4)
include hb hl hn
theorem pm_l1 {c0 : List model_Model} : ∀ (m at_ i : Nat) (c1 : List (List Int)), n = i + m → c1.length = i → 8 * (at_ + n * m) ≤ b.length → Ev (fun k => (config_reader_models.hs k).l1 (b.drop (8 * at_)) (n : Int) c0 c1 0 (n : Int) (i : Int)) (⟨c0, c1 ++ rowsAt b n m at_, 0⟩, ⟨b.drop (8 * (at_ + n * m))⟩)
  | 0, at_, i, c1, e, hc, h => by
    refine Ev.step (fun k => rfl) ?_
    simp only [config_reader_models.hs, config_reader_models.b1, if_neg (show ¬ (i : Int) < (n : Int) by omega), rowsAt, List.append_nil, Nat.mul_zero, Nat.add_zero]
    exact Ev.now
  | m + 1, at_, i, c1, e, hc, h => by
    rw [Nat.mul_succ] at h
    refine Ev.step (fun k => rfl) ?_
    simp only [config_reader_models.hs, config_reader_models.b1, if_pos (show (i : Int) < (n : Int) by omega), if_pos (show 0 ≤ 0 ∧ 0 ≤ (n : Int) ∧ (n : Int) ≤ 35184372088832 by omega)]
    have key : ∀ (p a j : Nat) (row : List Int), n = j + p → row.length = j → at_ + n = a + p → row ++ rowAt b p a = rowAt b n at_ → Ev (fun k => (config_reader_models.hs k).l2 (b.drop (8 * a)) (n : Int) c0 c1 0 row (n : Int) (i : Int) (n : Int) (j : Int)) (⟨c0, c1 ++ rowsAt b n (m + 1) at_, 0⟩, ⟨b.drop (8 * (at_ + n * (m + 1)))⟩) := by
      intro p
      induction p with
      | zero =>
        intro a j row e2 hr ha hrow
        refine Ev.step (fun k => rfl) ?_
        simp only [config_reader_models.hs, config_reader_models.b2, if_neg (show ¬ (j : Int) < (n : Int) by omega), if_pos (show c1.length + 1 ≤ 5864062014677 by omega), wsucc (show i < 1000000000 by omega)]
        rw [rowAt, List.append_nil] at hrow
        have := pm_l1 (c0 := c0) m (at_ + n) (i + 1) (c1 ++ [row]) (by omega) (by simp; omega) (by omega)
        rw [show a = at_ + n by omega, Nat.mul_succ, show at_ + (n * m + n) = at_ + n + n * m by omega, hrow] at *
        rw [List.append_assoc] at this
        exact this
      | succ p ih =>
        intro a j row e2 hr ha hrow
        refine Ev.step (fun k => rfl) ?_
        simp only [config_reader_models.hs, config_reader_models.b2, if_pos (show (j : Int) < (n : Int) by omega)]
        refine Ev.bind (read_ev hb (by omega)) ?_
        simp only [if_pos (show row.length + 1 ≤ 17592186044288 by omega), wsucc (show j < 1000000000 by omega)]
        exact ih (a + 1) (j + 1) _ (by omega) (by simp; omega) (by omega) (by rw [List.append_assoc]; exact hrow)
    exact key n at_ 0 _ (by omega) rfl (by omega) rfl
theorem pm_l0 {n0 : Nat} (h0 : 8 * (n0 + n * n) ≤ b.length) : ∀ (m at_ i : Nat) (c0 : List model_Model), n = i + m → c0.length = i → at_ + 3 * m = n0 → Ev (fun k => (config_reader_models.hs k).l0 (b.drop (8 * at_)) (n : Int) c0 [] 0 (n : Int) (i : Int)) (⟨c0 ++ (modsAt b m at_).map gm, rowsAt b n n n0, 0⟩, ⟨b.drop (8 * (n0 + n * n))⟩)
  | 0, at_, i, c0, e, hc, h => by
    refine Ev.step (fun k => rfl) ?_
    simp only [config_reader_models.hs, config_reader_models.b0, if_neg (show ¬ (i : Int) < (n : Int) by omega), modsAt, List.map_nil, List.append_nil]
    have := pm_l1 hb hl hn (c0 := c0) n at_ 0 [] (by omega) rfl (by rw [show at_ = n0 by omega]; exact h0)
    rw [List.nil_append] at this
    rw [show n0 = at_ by omega]
    exact this
  | m + 1, at_, i, c0, e, hc, h => by
    refine Ev.step (fun k => rfl) ?_
    simp only [config_reader_models.hs, config_reader_models.b0, if_pos (show (i : Int) < (n : Int) by omega)]
    refine Ev.bind (read_ev hb (by omega)) (Ev.bind (read_ev hb (by omega)) (Ev.bind (read_ev hb (by omega)) ?_))
    simp only [List.length_singleton, if_pos (show c0.length + 1 ≤ 5864062014677 by omega), wsucc (show i < 1000000000 by omega)]
    have := pm_l0 h0 m (at_ + 3) (i + 1) (c0 ++ [gm (mkM b at_)]) (by omega) (by simp; omega) (by omega)
    rw [modsAt, List.map_cons]
    rw [List.append_assoc] at this
    exact this
theorem models_ev (h0 : 8 * (3 + 3 * n + n * n) ≤ b.length) : Ev (fun k => config_reader_models.f k ⟨b.drop (8 * 3)⟩ (n : Int)) (⟨(modsAt b n 3).map gm, rowsAt b n n (3 + 3 * n), 0⟩, ⟨b.drop (8 * (3 + 3 * n + n * n))⟩) := by
  unfold config_reader_models.f
  have := pm_l0 hb hl hn (n0 := 3 + 3 * n) h0 n 3 0 [] (by omega) rfl (by omega)
  rw [List.nil_append] at this
  exact this
/-! ### the document's -/
end
/-- The config of bytes, that has n models; with a source. -/
def cfgB (b : List Int) (n : Nat) (src : Int) : radomeref30_Config :=
  let a := 3 + 3 * n + n * n
  ⟨⟨NB b 0, NB b 1⟩, ⟨modsAt b n 3, rowsAt b n n (3 + 3 * n), NB b a⟩, ⟨NB b (a + 1), NB b (a + 2), NB b (a + 3)⟩, NB b (a + 4), NB b (a + 5), NB b (a + 6), NB b (a + 7), NB b (a + 8), NB b (a + 9), NB b (a + 10), NB b (a + 11), NB b (a + 12), src⟩
def cfg0 : radomeref30_Config := ⟨⟨0, 0⟩, ⟨[], [], 0⟩, ⟨0, 0, 0⟩, 0, 0, 0, 0, 0, 0, 0, 0, 0, 0⟩
/-- What is read of bytes: the config, the error's number. -/
def decB (b : List Int) : radomeref30_Config × Option Int :=
  if b.length < 24 then (cfg0, some 4) else
  if ¬ (1 ≤ NB b 2 ∧ NB b 2 ≤ 4) then (cfg0, some 3) else
  let n := (NB b 2).toNat
  let T := 3 + 3 * n + n * n + 14
  if b.length < 8 * T then (cfg0, some 4) else
  if 8 * T < b.length then (cfg0, some 2) else
  if cfgOk (cfgB b n 0) = true ∧ 0 ≤ NB b (T - 1) ∧ NB b (T - 1) ≤ 65535 then (cfgB b n (NB b (T - 1) % 65536), none) else (cfg0, some 1)
theorem sq_eq {n : Nat} (hn : 1 ≤ n ∧ n ≤ 4) : w64 (w64 (w64 (3 + w64 (3 * (n : Int))) + w64 ((n : Int) * (n : Int))) + 14) = ((3 + 3 * n + n * n + 14 : Nat) : Int) := by
  rcases (show n = 1 ∨ n = 2 ∨ n = 3 ∨ n = 4 by omega) with h | h | h | h <;> subst h <;> decide
theorem rest_ev {b : List Int} (hb : Byt b) {a : Nat} (ha : 8 * (a + 14) ≤ b.length) (c : config_Config) : Ev (fun k => config_reader_rest.f k ⟨b.drop (8 * a)⟩ c) (NB b (a + 13), ⟨b.drop (8 * (a + 14))⟩, ⟨c.f_Sensor, ⟨c.f_Imm.f_Models, c.f_Imm.f_Rows, NB b a⟩, ⟨NB b (a + 1), NB b (a + 2), NB b (a + 3)⟩, NB b (a + 4), NB b (a + 5), NB b (a + 6), NB b (a + 7), NB b (a + 8), NB b (a + 9), NB b (a + 10), NB b (a + 11), NB b (a + 12), c.f_Source⟩) := by
  unfold config_reader_rest.f
  refine Ev.bind (read_ev hb (by omega)) (Ev.bind (read_ev hb (by omega)) (Ev.bind (read_ev hb (by omega)) (Ev.bind (read_ev hb (by omega)) (Ev.bind (read_ev hb (by omega)) (Ev.bind (read_ev hb (by omega)) (Ev.bind (read_ev hb (by omega)) (Ev.bind (read_ev hb (by omega)) (Ev.bind (read_ev hb (by omega)) (Ev.bind (read_ev hb (by omega)) (Ev.bind (read_ev hb (by omega)) (Ev.bind (read_ev hb (by omega)) (Ev.bind (read_ev hb (by omega)) (Ev.bind (read_ev hb (by omega)) ?_)))))))))))))
  exact Ev.now
theorem dec_ev {b : List Int} (hb : Byt b) (hl : b.length ≤ 1000000 ∨ 1000000 < b.length) : Ev (fun k => config_Decode.f k b) (gc (decB b).1, (decB b).2) := by
  unfold config_Decode.f decB
  by_cases h24 : b.length < 24
  · simp only [if_pos (show (b.length : Int) < 24 by omega), if_pos h24]; exact Ev.now
  · simp only [if_neg (show ¬ (b.length : Int) < 24 by omega), if_neg h24]
    have r0 := read_ev hb (j := 0) (by omega)
    rw [Nat.mul_zero, List.drop_zero] at r0
    refine Ev.bind r0 (Ev.bind (read_ev hb (by omega)) (Ev.bind (read_ev hb (by omega)) ?_))
    unfold config_within.f
    simp only [Option.bind_some]
    by_cases h3 : 1 ≤ NB b 2 ∧ NB b 2 ≤ 4
    · have e3 : (decide (1 ≤ NB b 2) && decide (NB b 2 ≤ 4)) = true := by simpa using h3
      simp only [e3, Bool.not_true, Bool.false_eq_true, if_false, if_neg (fun z => z h3 : ¬ ¬ (1 ≤ NB b 2 ∧ NB b 2 ≤ 4))]
      generalize hn : (NB b 2).toNat = n
      have hn2 : 1 ≤ n ∧ n ≤ 4 := by omega
      have hn3 : NB b 2 = (n : Int) := by omega
      have hsq : n * n ≤ 16 := Nat.mul_le_mul hn2.2 hn2.2
      rw [hn3]
      simp only [sq_eq hn2, w64_id (show -9223372036854775808 ≤ ((3 + 3 * n + n * n + 14 : Nat) : Int) * 8 ∧ ((3 + 3 * n + n * n + 14 : Nat) : Int) * 8 ≤ 9223372036854775807 by omega)]
      by_cases h4 : b.length < 8 * (3 + 3 * n + n * n + 14)
      · simp only [if_pos (show (b.length : Int) < ((3 + 3 * n + n * n + 14 : Nat) : Int) * 8 by omega), if_pos h4]; exact Ev.now
      · simp only [if_neg (show ¬ (b.length : Int) < ((3 + 3 * n + n * n + 14 : Nat) : Int) * 8 by omega), if_neg h4]
        by_cases h5 : 8 * (3 + 3 * n + n * n + 14) < b.length
        · simp only [if_pos (show ((3 + 3 * n + n * n + 14 : Nat) : Int) * 8 < (b.length : Int) by omega), if_pos h5]; exact Ev.now
        · simp only [if_neg (show ¬ ((3 + 3 * n + n * n + 14 : Nat) : Int) * 8 < (b.length : Int) by omega), if_neg h5]
          refine Ev.bind (models_ev hb (by omega) hn2 (by omega)) (Ev.bind (rest_ev hb (a := 3 + 3 * n + n * n) (by omega) _) ?_)
          refine Ev.bind (check_ev (cfgB b n 0)) ?_
          rw [show 3 + 3 * n + n * n + 14 - 1 = 3 + 3 * n + n * n + 13 by omega]
          generalize hs : NB b (3 + 3 * n + n * n + 13) = src
          cases hc : cfgOk (cfgB b n 0) with
          | false =>
            simp only [Bool.false_eq_true, if_false, Option.isSome_some, Bool.not_true, gdf, Option.bind_some, Bool.true_or, if_true, false_and]; exact Ev.now
          | true =>
            simp only [if_true, Option.isSome_none, Bool.not_false, gdt, Option.bind_some, Bool.false_or, true_and]
            by_cases h6 : 0 ≤ src ∧ src ≤ 65535
            · have e6 : (decide (0 ≤ src) && decide (src ≤ 65535)) = true := by simpa using h6
              simp only [e6, Bool.not_true, Bool.false_eq_true, if_false, if_pos h6]; exact Ev.now
            · have e6 : (decide (0 ≤ src) && decide (src ≤ 65535)) = false := by rw [← Bool.decide_and]; exact decide_eq_false h6
              simp only [e6, Bool.not_false, if_true, if_neg h6]; exact Ev.now
    · have e3 : (decide (1 ≤ NB b 2) && decide (NB b 2 ≤ 4)) = false := by rw [← Bool.decide_and]; exact decide_eq_false h3
      simp only [e3, Bool.not_false, if_true, if_pos h3]; exact Ev.now
end Go.Proofs.YtfdedgoohjnhiaaDoor.Pure
