/- The plain law of TurnRadians. -/
import Derived.Test.YtddcfnhbedpbnaaDoorPureN5
namespace Go.Proofs.YtddcfnhbedpbnaaDoor.Pure
open Go.RowKit Go.Proofs.YtddcfnhbedpbnaaDoorK Go.Proofs.YtddcfnhbedpbnaaDoor.GTR
set_option linter.unusedVariables false
set_option linter.unusedSimpArgs false
theorem u64_wrap (n : Int) : IntKind.u64.wrap n = n % 18446744073709551616 := by simp [IntKind.wrap, IntKind.bits, IntKind.signed]
theorem and_nat (a b : Nat) (ha : a < 18446744073709551616) (hb : b < 18446744073709551616) : iand .u64 (a : Int) (b : Int) = ((a &&& b : Nat) : Int) := by
  have e : iand .u64 (a : Int) (b : Int) = (((BitVec.ofInt 64 (a : Int) &&& BitVec.ofInt 64 (b : Int)).toNat : Nat) : Int) % 18446744073709551616 := by
    rw [← u64_wrap]; rfl
  rw [e, BitVec.toNat_and, BitVec.ofInt_natCast, BitVec.ofInt_natCast, BitVec.toNat_ofNat, BitVec.toNat_ofNat, Nat.mod_eq_of_lt (by omega), Nat.mod_eq_of_lt (by omega)]
  have : a &&& b ≤ a := Nat.and_le_left
  omega
theorem and_mask {a : Int} (h0 : 0 ≤ a) (h1 : a < 18446744073709551616) {k : Nat} (hk : k < 64) : iand .u64 a (2 ^ k - 1) = a % 2 ^ k := by
  obtain ⟨n, rfl⟩ := Int.eq_ofNat_of_zero_le h0
  have p : (2 : Nat) ^ k < 2 ^ 64 := Nat.pow_lt_pow_right (by decide) hk
  have q : 0 < (2 : Nat) ^ k := Nat.pow_pos (by decide)
  have e : ((2 : Int) ^ k - 1) = ((2 ^ k - 1 : Nat) : Int) := by rw [Int.natCast_sub (by omega)]; push_cast; rfl
  rw [e, and_nat _ _ (by omega) (by omega), Nat.and_two_pow_sub_one_eq_mod]
  push_cast; rfl
theorem mask32 {a : Int} (h0 : 0 ≤ a) (h1 : a < 18446744073709551616) : iand .u64 a 4294967295 = a % 4294967296 := and_mask h0 h1 (k := 32) (by decide)
theorem mask1 {a : Int} (h0 : 0 ≤ a) (h1 : a < 18446744073709551616) : iand .u64 a 1 = a % 2 := and_mask h0 h1 (k := 1) (by decide)
theorem mul64 (k : Nat) {t : Int} (h0 : 0 ≤ t) (h1 : t < 4294967296) : bits_Mul64.f k t 3622009729038561421 = some (t * 3622009729038561421 / 18446744073709551616, t * 3622009729038561421 % 18446744073709551616) := by
  unfold bits_Mul64.f
  have a1 : iand .u64 t 4294967295 = t := by rw [mask32 h0 (by omega)]; omega
  have a2 : iand .u64 3622009729038561421 4294967295 = 3622009729038561421 % 4294967296 := mask32 (by decide) (by decide)
  have a3 : t / 4294967296 = 0 := by omega
  simp only [a1, a2, a3, Int.zero_mul]
  have c1 : (3622009729038561421 : Int) % 4294967296 = 2287612045 := by decide
  have c2 : (3622009729038561421 : Int) / 4294967296 = 843314856 := by decide
  have hA : 0 ≤ t * 2287612045 ∧ t * 2287612045 < 18446744073709551616 := by omega
  have hB : 0 ≤ t * 843314856 ∧ t * 843314856 < 4611686018427387904 := by omega
  have hP : t * 3622009729038561421 = t * 843314856 * 4294967296 + t * 2287612045 := by omega
  rw [c1, c2, hP]
  generalize t * 2287612045 = A at *
  generalize t * 843314856 = B at *
  clear a1 a2 a3 c1 c2 hP h0 h1
  have a4 : (0 % 18446744073709551616 + A % 18446744073709551616 / 4294967296) % 18446744073709551616 = A / 4294967296 := by omega
  rw [a4, mask32 (by omega) (by omega)]
  have a5 : A / 4294967296 < 4294967296 := by omega
  have a6 : 0 ≤ A / 4294967296 := by omega
  have a7 : (0 % 18446744073709551616 + A / 4294967296 / 4294967296) % 18446744073709551616 = 0 := by omega
  have a8 : (A / 4294967296 % 4294967296 + B % 18446744073709551616) % 18446744073709551616 = A / 4294967296 + B := by omega
  rw [a7, a8, Int.zero_add]
  have a9 : (A / 4294967296 + B) / 4294967296 % 18446744073709551616 = (B * 4294967296 + A) / 18446744073709551616 := by omega
  rw [a9]
theorem rj1 (k : Nat) {q r m : Int} {low : Bool} (h0 : 0 ≤ q) (h1 : q < 9223372036854775808) : turn_rounded.j1 k q r m low = some (if r > m ∨ (r = m ∧ (low = true ∨ q % 2 = 1)) then q + 1 else q) := by
  simp only [turn_rounded.j1, mask1 h0 (show q < 18446744073709551616 by omega)]
  rw [show (q + 1) % 18446744073709551616 = q + 1 by omega]
  by_cases g : r > m ∨ (r = m ∧ (low = true ∨ q % 2 = 1))
  · rw [if_pos g, if_pos]
    simp only [Bool.or_eq_true, Bool.and_eq_true, decide_eq_true_eq]; exact g
  · rw [if_neg g, if_neg]
    simp only [Bool.or_eq_true, Bool.and_eq_true, decide_eq_true_eq]; exact g
theorem round_a {P m : Int} (hm : 0 < m) : rnd P (2 * m) = (if P % (2 * m) > m ∨ (P % (2 * m) = m ∧ ((false : Bool) = true ∨ P / (2 * m) % 2 = 1)) then P / (2 * m) + 1 else P / (2 * m)) := by
  unfold rnd
  generalize P % (2 * m) = r
  generalize P / (2 * m) = q
  have : (2 * m < r + r ∨ r + r = 2 * m ∧ q % 2 ≠ 0) ↔ (r > m ∨ (r = m ∧ ((false : Bool) = true ∨ q % 2 = 1))) := by
    simp only [Bool.false_eq_true, false_or]; omega
  by_cases g : r > m ∨ (r = m ∧ ((false : Bool) = true ∨ q % 2 = 1))
  · rw [if_pos g, if_pos (this.2 g)]
  · rw [if_neg g, if_neg (fun x => g (this.1 x))]
theorem round_b {hi lo m W : Int} (hW : 0 < W) (hm : 0 < m) (l0 : 0 ≤ lo) (l1 : lo < W) : rnd (hi * W + lo) (W * (2 * m)) = (if hi % (2 * m) > m ∨ (hi % (2 * m) = m ∧ ((lo != 0) = true ∨ hi / (2 * m) % 2 = 1)) then hi / (2 * m) + 1 else hi / (2 * m)) := by
  have s := Int.emod_add_mul_ediv hi (2 * m)
  have r0 := Int.emod_nonneg hi (show 2 * m ≠ 0 by omega)
  have r1 := Int.emod_lt_of_pos hi (show 0 < 2 * m by omega)
  have key := (Int.ediv_emod_unique (a := hi * W + lo) (b := W * (2 * m)) (r := hi % (2 * m) * W + lo) (q := hi / (2 * m)) (Int.mul_pos hW (by omega))).2
    ⟨by
      conv => rhs; rw [← s]
      rw [Int.add_mul, Int.mul_assoc W, Int.mul_comm W]; omega,
     Int.add_nonneg (Int.mul_nonneg r0 (Int.le_of_lt hW)) l0, by
      have := Int.mul_le_mul_of_nonneg_right (show hi % (2 * m) + 1 ≤ 2 * m by omega) (Int.le_of_lt hW)
      rw [Int.add_mul, Int.one_mul] at this
      rw [Int.mul_comm W]; omega⟩
  unfold rnd
  rw [key.1, key.2]
  generalize hi % (2 * m) = r at *
  generalize hi / (2 * m) = q at *
  have : (W * (2 * m) < r * W + lo + (r * W + lo) ∨ r * W + lo + (r * W + lo) = W * (2 * m) ∧ q % 2 ≠ 0) ↔ (r > m ∨ (r = m ∧ ((lo != 0) = true ∨ q % 2 = 1))) := by
    have e : W * (2 * m) = m * W + m * W := by rw [Int.mul_comm W, Int.two_mul, Int.add_mul]
    rw [e]
    simp only [bne_iff_ne, ne_eq]
    rcases Int.lt_trichotomy r m with h | h | h
    · have := Int.mul_le_mul_of_nonneg_right (show r + 1 ≤ m by omega) (Int.le_of_lt hW)
      rw [Int.add_mul, Int.one_mul] at this
      omega
    · subst h; omega
    · have := Int.mul_le_mul_of_nonneg_right (show m + 1 ≤ r by omega) (Int.le_of_lt hW)
      rw [Int.add_mul, Int.one_mul] at this
      omega
  by_cases g : r > m ∨ (r = m ∧ ((lo != 0) = true ∨ q % 2 = 1))
  · rw [if_pos g, if_pos (this.2 g)]
  · rw [if_neg g, if_neg (fun x => g (this.1 x))]
theorem or_nat (a b : Nat) (ha : a < 18446744073709551616) (hb : b < 18446744073709551616) : ior .u64 (a : Int) (b : Int) = ((a ||| b : Nat) : Int) := by
  have e : ior .u64 (a : Int) (b : Int) = (((BitVec.ofInt 64 (a : Int) ||| BitVec.ofInt 64 (b : Int)).toNat : Nat) : Int) % 18446744073709551616 := by
    rw [← u64_wrap]; rfl
  rw [e, BitVec.toNat_or, BitVec.ofInt_natCast, BitVec.ofInt_natCast, BitVec.toNat_ofNat, BitVec.toNat_ofNat, Nat.mod_eq_of_lt (by omega), Nat.mod_eq_of_lt (by omega)]
  have : a ||| b < 2 ^ 64 := Nat.or_lt_two_pow (by omega) (by omega)
  omega
theorem or_join {a b : Int} {k : Nat} (h0 : 0 ≤ a) (h1 : 0 ≤ b) (h2 : b < 2 ^ k) (h3 : a * 2 ^ k + b < 18446744073709551616) : ior .u64 (a * 2 ^ k) b = a * 2 ^ k + b := by
  obtain ⟨x, rfl⟩ := Int.eq_ofNat_of_zero_le h0
  obtain ⟨y, rfl⟩ := Int.eq_ofNat_of_zero_le h1
  have h2' : y < 2 ^ k := by exact_mod_cast h2
  have e : ((x : Int) * 2 ^ k) = ((x * 2 ^ k : Nat) : Int) := by push_cast; rfl
  rw [e] at h3 ⊢
  rw [or_nat _ _ (by omega) (by omega), ← Nat.shiftLeft_eq, ← Nat.shiftLeft_add_eq_or_of_lt h2' x]
  push_cast; rfl
theorem shnn {n : Nat} (h : n < 64) : shn .u64 (n : Int) = n := by
  simp only [shn, IntKind.bits]; omega
theorem shl1 {n : Nat} (h : n < 64) : (1 * (2 : Int) ^ shn .u64 (n : Int)) % 18446744073709551616 = 2 ^ n := by
  have p : (2 : Int) ^ n < 2 ^ 64 := by exact_mod_cast Nat.pow_lt_pow_right (a := 2) (by decide) h
  have q : (0 : Int) < 2 ^ n := Int.pow_pos (by decide)
  rw [shnn h, Int.one_mul]
  exact Int.emod_eq_of_lt (Int.le_of_lt q) p
theorem mask_n {a : Int} (h0 : 0 ≤ a) (h1 : a < 18446744073709551616) {n : Nat} (h : n < 64) : iand .u64 a ((((1 * (2 : Int) ^ shn .u64 (n : Int)) % 18446744073709551616) - 1) % 18446744073709551616) = a % 2 ^ n := by
  have p : (2 : Int) ^ n < 2 ^ 64 := by exact_mod_cast Nat.pow_lt_pow_right (a := 2) (by decide) h
  have q : (0 : Int) < 2 ^ n := Int.pow_pos (by decide)
  rw [shl1 h, Int.emod_eq_of_lt (by omega) (by have : (2 : Int) ^ 64 = 18446744073709551616 := by decide
                                               omega)]
  exact and_mask h0 h1 h
theorem rounded_lo (k : Nat) {P : Int} {n : Nat} (h0 : 0 ≤ P) (h1 : P < 19807040628566084398385987584) (n0 : 31 ≤ n) (n1 : n < 64) :
    turn_rounded.f k (P / 18446744073709551616) (P % 18446744073709551616) n = some (rnd P (2 ^ n)) := by
  obtain ⟨m, rfl⟩ : ∃ m, n = m + 1 := ⟨n - 1, by omega⟩
  have b0 : 0 ≤ P / 18446744073709551616 := by omega
  have b1 : P / 18446744073709551616 < 1073741824 := by omega
  have c0 : 0 ≤ P % 18446744073709551616 := by omega
  have c1 : P % 18446744073709551616 < 18446744073709551616 := by omega
  have sp : P = P / 18446744073709551616 * 18446744073709551616 + P % 18446744073709551616 := by omega
  generalize P / 18446744073709551616 = hi at *
  generalize P % 18446744073709551616 = lo at *
  have e2 : (2 : Int) ^ (m + 1) = 2 * 2 ^ m := by rw [Int.pow_succ, Int.mul_comm]
  have ew : (18446744073709551616 : Int) = 2 ^ (63 - m) * 2 ^ (m + 1) := by
    rw [← Int.pow_add, show 63 - m + (m + 1) = 64 by omega]; rfl
  have pm : (0 : Int) < 2 ^ (m + 1) := Int.pow_pos (by decide)
  have ps : (2 : Int) ^ (63 - m) ≤ 2 ^ 33 := by exact_mod_cast Nat.pow_le_pow_right (n := 2) (by decide) (show 63 - m ≤ 33 by omega)
  have pp : (0 : Int) < 2 ^ (63 - m) := Int.pow_pos (by decide)
  have lq : lo / 2 ^ (m + 1) < 2 ^ (63 - m) := Int.ediv_lt_of_lt_mul pm (by rw [← ew]; exact c1)
  have lq0 : 0 ≤ lo / 2 ^ (m + 1) := Int.ediv_nonneg c0 (Int.le_of_lt pm)
  have hq : hi * 2 ^ (63 - m) ≤ 1073741823 * 2 ^ 33 := Int.mul_le_mul (by omega) ps (Int.le_of_lt pp) (by decide)
  have hq0 : 0 ≤ hi * 2 ^ (63 - m) := Int.mul_nonneg b0 (Int.le_of_lt pp)
  have big : (1073741823 : Int) * 2 ^ 33 = 9223372028264841216 := by decide
  have b33 : (2 : Int) ^ 33 = 8589934592 := by decide
  have fq : P / 2 ^ (m + 1) = hi * 2 ^ (63 - m) + lo / 2 ^ (m + 1) := by
    rw [sp, ew, ← Int.mul_assoc, Int.add_comm, Int.add_mul_ediv_right _ _ (Int.ne_of_gt pm), Int.add_comm]
  have fr : P % 2 ^ (m + 1) = lo % 2 ^ (m + 1) := by
    rw [sp, ew, ← Int.mul_assoc, Int.add_comm, Int.add_mul_emod_self_right]
  have w1 : w64 (64 - ((m + 1 : Nat) : Int)) = ((63 - m : Nat) : Int) := by rw [w64_id (by omega)]; omega
  have w2 : w64 (((m + 1 : Nat) : Int) - 1) = (m : Int) := by rw [w64_id (by omega)]; omega
  have sh : (hi * 2 ^ shn .u64 ((63 - m : Nat) : Int)) % 18446744073709551616 = hi * 2 ^ (63 - m) := by
    rw [shnn (by omega), Int.emod_eq_of_lt hq0 (by omega)]
  unfold turn_rounded.f
  rw [w1, w2]
  simp only [if_pos (show ((m + 1 : Nat) : Int) < 64 by omega), if_pos (Int.natCast_nonneg (63 - m)), if_pos (Int.natCast_nonneg (m + 1)), if_pos (Int.natCast_nonneg m)]
  rw [mask_n c0 c1 n1, shl1 (show m < 64 by omega), sh, shnn n1, or_join b0 lq0 lq (by omega), ← fq, ← fr]
  rw [rj1 k (by rw [fq]; omega) (by rw [fq]; omega), e2, round_a (Int.pow_pos (by decide))]
theorem rounded_hi (k : Nat) {P : Int} {n : Nat} (h0 : 0 ≤ P) (h1 : P < 19807040628566084398385987584) (n0 : 64 ≤ n) (n1 : n < 100) :
    turn_rounded.f k (P / 18446744073709551616) (P % 18446744073709551616) n = some (rnd P (2 ^ n)) := by
  obtain ⟨m, rfl⟩ : ∃ m, n = m + 64 := ⟨n - 64, by omega⟩
  have b0 : 0 ≤ P / 18446744073709551616 := by omega
  have b1 : P / 18446744073709551616 < 1073741824 := by omega
  have c0 : 0 ≤ P % 18446744073709551616 := by omega
  have c1 : P % 18446744073709551616 < 18446744073709551616 := by omega
  have sp : P = P / 18446744073709551616 * 18446744073709551616 + P % 18446744073709551616 := by omega
  have w1 : w64 (((m + 64 : Nat) : Int) - 64) = (m : Int) := by rw [w64_id (by omega)]; omega
  have hm : m < 64 := by omega
  unfold turn_rounded.f
  rw [w1]
  simp only [if_neg (show ¬ ((m + 64 : Nat) : Int) < 64 by omega), if_pos (Int.natCast_nonneg m), shnn hm]
  have pm : (0 : Int) < 2 ^ m := Int.pow_pos (by decide)
  have qb : P / 18446744073709551616 / 2 ^ m ≤ P / 18446744073709551616 := Int.ediv_le_self _ b0
  have q0 : 0 ≤ P / 18446744073709551616 / 2 ^ m := Int.ediv_nonneg b0 (Int.le_of_lt pm)
  by_cases z : m = 0
  · subst z
    rw [if_pos (by omega), rj1 k q0 (by omega)]
    have := round_a (P := P) (m := 9223372036854775808) (by decide)
    rw [show (2 : Int) * 9223372036854775808 = 18446744073709551616 by decide] at this
    rw [show (2 : Int) ^ (0 + 64) = 18446744073709551616 by decide, this, Int.pow_zero, Int.ediv_one]
  · obtain ⟨p, rfl⟩ : ∃ p, m = p + 1 := ⟨m - 1, by omega⟩
    rw [if_neg (by omega)]
    have e2 : (2 : Int) ^ (p + 1) = 2 * 2 ^ p := by rw [Int.pow_succ, Int.mul_comm]
    have mk := and_mask b0 (show P / 18446744073709551616 < 18446744073709551616 by omega) (k := p + 1) hm
    have ml : (2 : Int) ^ (p + 1) < 2 ^ 64 := by exact_mod_cast Nat.pow_lt_pow_right (a := 2) (by decide) hm
    have m64 : (2 : Int) ^ 64 = 18446744073709551616 := by decide
    have ms : 1 * (2 : Int) ^ (p + 1) % 18446744073709551616 = 2 ^ (p + 1) := by rw [Int.one_mul, Int.emod_eq_of_lt (by omega) (by omega)]
    rw [ms, Int.emod_eq_of_lt (a := (2 : Int) ^ (p + 1) - 1) (by omega) (by omega), mk, rj1 k q0 (by omega)]
    have := round_b (hi := P / 18446744073709551616) (lo := P % 18446744073709551616) (m := 2 ^ p) (W := 18446744073709551616) (by decide) (Int.pow_pos (by decide)) c0 c1
    rw [← sp, ← e2] at this
    rw [show (2 : Int) ^ (p + 1 + 64) = 18446744073709551616 * 2 ^ (p + 1) by rw [Int.pow_add, m64, Int.mul_comm], this]
    rw [show (2 : Int) ^ (p + 1) / 2 = 2 ^ p by rw [e2]; omega]
    rfl

theorem Small_l0 {s : Bool} {X : Nat} (hX : X ≤ 9223372036854775807) : ∀ (n : Nat) (v : Int), n ≤ (dg X).length → v = -V ((dg X).drop n) →
    Ev (fun k => (radomeref03_Small.hs k).l0 s (dg X) v ((n : Int) - 1)) (if s = true then -(X : Int) else X)
  | 0, v, hn, hv => by
    refine Ev.step (fun k => rfl) ?_
    rw [List.drop_zero, V_dg] at hv
    subst hv
    simp only [radomeref03_Small.hs, radomeref03_Small.b0, if_neg (show ¬ 0 ≤ ((0 : Nat) : Int) - 1 by omega)]
    rw [show w64 (0 - -(X : Int)) = X by rw [w64_id (by omega)]; omega]
    cases s
    · exact Ev.now
    · exact Ev.now
  | n + 1, v, hn, hv => by
    have h20 := dg_len_u64 (n := X) (by omega)
    have vd := V_drop (dg X) n
    have r := rd_range (Dg_dg X) n
    have v0 := V_nonneg (Dg_drop (Dg_dg X) (n + 1))
    have le : ∀ j, V ((dg X).drop j) ≤ X := fun j => by
      induction j with
      | zero => rw [List.drop_zero, V_dg]; omega
      | succ j ih => have := V_drop (dg X) j; have r := rd_range (Dg_dg X) j; have := V_nonneg (Dg_drop (Dg_dg X) (j + 1)); omega
    have l1 := le n
    refine Ev.step (fun k => rfl) ?_
    simp only [radomeref03_Small.hs, radomeref03_Small.b0, show (((n + 1 : Nat) : Int) - 1) = n by omega, if_pos (Int.natCast_nonneg n), if_pos (And.intro (Int.natCast_nonneg n) (lt_int (show n < (dg X).length from hn)))]
    rw [w64_id (x := 10 * v) (by omega), w64_id (x := 10 * v - rd (dg X) (n : Int)) (by omega), w64_id (x := (n : Int) - 1) (by omega)]
    exact Small_l0 hX n _ (by omega) (by omega)
theorem Small_ev {v : Int} (h : -9223372036854775807 ≤ v ∧ v ≤ 9223372036854775807) : Ev (fun k => radomeref03_Small.f k (Nb v)) v := by
  have h20 := dg_len_u64 (n := v.natAbs) (by omega)
  have := Small_l0 (s := decide (v < 0)) (X := v.natAbs) (by omega) (dg v.natAbs).length 0 (Nat.le_refl _) (by rw [List.drop_length]; rfl)
  simp only [radomeref03_Small.f, Nb]
  rw [w64_id (by omega)]
  rwa [show (if decide (v < 0) = true then -(v.natAbs : Int) else (v.natAbs : Int)) = v by by_cases g : v < 0 <;> simp [g] <;> omega] at this
theorem sure04_fs : radomelaw04_sure.f 0 = some true := by decide +kernel
theorem sure04_ev : Ev (fun k => radomelaw04_sure.f k) true := Ev.of (fun k => radomelaw04_sure.mono k) sure04_fs
theorem rnd_nonneg {x y : Int} (h0 : 0 ≤ x) (hy : 0 < y) : 0 ≤ rnd x y ∧ rnd x y ≤ x / y + 1 := by
  unfold rnd
  have := Int.ediv_nonneg h0 (Int.le_of_lt hy)
  split <;> omega
theorem TurnRadians : radomelaw04_TurnRadians.Pure := by
  intro t bits ht hb
  have ht' : 0 ≤ t ∧ t ≤ 4294967295 := by simpa [Lit.wf, IntKind.min, IntKind.max, IntKind.signed, IntKind.bits] using ht
  have hb' : -9223372036854775808 ≤ bits ∧ bits ≤ 9223372036854775807 := by simpa [Lit.wf, IntKind.min, IntKind.max, IntKind.signed, IntKind.bits] using hb
  refine Ev.ex (g := fun k => radomelaw04_TurnRadians.f k t bits) ?_
  simp only [radomelaw04_TurnRadians.f, turn_Radians.f]
  by_cases g : bits < 0 ∨ 60 < bits
  · have g' : (decide (bits < 0) || decide (60 < bits)) = true := by simp only [Bool.or_eq_true, decide_eq_true_eq]; exact g
    simp only [g', if_true, Option.bind_some, errN, Option.getD_some, decide_true, Bool.and_self, gd]
    exact Ev.bind sure04_ev Ev.now
  · have g' : (decide (bits < 0) || decide (60 < bits)) = false := by simp only [Bool.or_eq_false_iff, decide_eq_false_iff_not]; omega
    obtain ⟨n, hn⟩ : ∃ n : Nat, 91 - bits = n := ⟨(91 - bits).toNat, by omega⟩
    have hP0 : 0 ≤ t * 3622009729038561421 := by omega
    have hP1 : t * 3622009729038561421 < 19807040628566084398385987584 := by omega
    have hP2 : t * 3622009729038561421 ≤ 4294967295 * 3622009729038561421 := by omega
    have hw : w64 (91 - bits) = n := by rw [w64_id (by omega)]; omega
    have hr : ∀ k, turn_rounded.f k (t * 3622009729038561421 / 18446744073709551616) (t * 3622009729038561421 % 18446744073709551616) n = some (rnd (t * 3622009729038561421) (2 ^ n)) := fun k => by
      by_cases c : n < 64
      · exact rounded_lo k hP0 hP1 (by omega) c
      · exact rounded_hi k hP0 hP1 (by omega) (by omega)
    have p31 : (2 : Int) ^ 31 ≤ 2 ^ n := by exact_mod_cast Nat.pow_le_pow_right (n := 2) (by decide) (show 31 ≤ n by omega)
    have p31' : (2 : Int) ^ 31 = 2147483648 := by decide
    have pn : (0 : Int) < 2 ^ n := Int.pow_pos (by decide)
    have rr := rnd_nonneg hP0 pn
    have rb : t * 3622009729038561421 / 2 ^ n < 9223372036854775806 := Int.ediv_lt_of_lt_mul pn (by
      have := Int.mul_le_mul_of_nonneg_left (show (2147483648 : Int) ≤ 2 ^ n by omega) (show (0 : Int) ≤ 9223372036854775806 by decide)
      omega)
    have e64 : t % 18446744073709551616 = t := by omega
    have et : w64 t = t := w64_id (by omega)
    have el : Ln t ≤ 10 := Ln_lt (by omega)
    have ec : Ln 3622009729038561421 ≤ 19 := Ln_lt (by decide)
    have em := Ln_mul t 3622009729038561421
    have e2 : Ln (2 ^ n) ≤ 31 := Ln_lt (by
      have : (2 : Nat) ^ n ≤ 2 ^ 91 := Nat.pow_le_pow_right (by decide) (by omega)
      rw [Int.natAbs_pow]; exact Nat.lt_of_le_of_lt this (by decide))
    have rad : Ev (fun k => radomeref04_Radians.f k t bits) (Nb (rnd (t * 3622009729038561421) (2 ^ n))) := by
      simp only [radomeref04_Radians.f, hw]
      refine Ev.bind (Of_ev (x := t) (by omega)) ?_
      refine Ev.bind (Of_ev (x := 3622009729038561421) (by decide)) ?_
      refine Ev.bind (Mul_ev (x := t) (y := 3622009729038561421) (by omega) (by omega)) ?_
      refine Ev.bind (Two_ev (n := n) (by omega)) ?_
      refine Ev.bind (Round_ev pn (by omega) (by omega)) ?_
      exact Ev.now
    simp only [g', Bool.false_eq_true, if_false, e64, mul64 _ ht'.1 (show t < 4294967296 by omega), hw, hr, Option.bind_some, Option.isNone_none, gd, if_true, et, Bool.true_and]
    rw [w64_id (by omega)]
    refine Ev.bind rad ?_
    refine Ev.bind (Small_ev (by omega)) ?_
    simp only [decide_true, if_true]
    refine Ev.bind (Of_ev (by omega)) ?_
    refine Ev.bind (Ev_all fun k => Sign_eq k _) ?_
    have sg : decide (0 ≤ (if rnd (t * 3622009729038561421) (2 ^ n) = 0 then (0 : Int) else if rnd (t * 3622009729038561421) (2 ^ n) < 0 then -1 else 1)) = true := by
      rw [decide_eq_true_iff]; repeat' split
      all_goals omega
    simp only [sg, if_true, Bool.and_self]
    exact Ev.bind sure04_ev Ev.now
end Go.Proofs.YtddcfnhbedpbnaaDoor.Pure
