/- Rules and lives: what the program's and the reference's small functions answer. -/
import Derived.Test.YtjhpkkhcgpilfaaDoorGTOp
namespace Go.Proofs.YtjhpkkhcgpilfaaDoor.Pure
open Go.RowKit Go.Proofs.YtjhpkkhcgpilfaaDoorK Go.Proofs.YtjhpkkhcgpilfaaDoor.GTO
set_option linter.unusedVariables false
set_option linter.unusedSimpArgs false
def Rl (h w m : Int) : Prop := 1 ≤ w ∧ w ≤ 16 ∧ 1 ≤ h ∧ h ≤ w ∧ 1 ≤ m ∧ m ≤ 64
instance (h w m : Int) : Decidable (Rl h w m) := by unfold Rl; infer_instance
def Ms (kind missed m : Int) : Prop :=
  ((kind = 0 ∨ kind = 3) ∧ 0 ≤ missed ∧ missed ≤ m) ∨ (kind = 1 ∧ missed = 0) ∨ (kind = 2 ∧ 1 ≤ missed ∧ missed < m) ∨ (kind = 4 ∧ missed = m)
instance (a b c : Int) : Decidable (Ms a b c) := by unfold Ms; infer_instance
def shr (s a : Int) : Int := s / 2 ^ shn .u32 a
def My (h w m kind s age missed : Int) : Prop := Rl h w m ∧ 1 ≤ age ∧ age ≤ w ∧ shr s age = 0 ∧ Ms kind missed m
instance (h w m kind s age missed : Int) : Decidable (My h w m kind s age missed) := by unfold My; infer_instance
theorem ms_iff (kind missed m : Int) : Ms kind missed m ↔ ((kind = 0 ∨ kind = 3) ∧ 0 ≤ missed ∧ missed ≤ m) ∨ (kind = 1 ∧ missed = 0) ∨ (kind = 2 ∧ 1 ≤ missed ∧ missed < m) ∨ (kind = 4 ∧ missed = m) := Iff.rfl
theorem check_eq (k : Nat) (h w m : Int) : life_Check.f k ⟨h, w, m⟩ = some (if Rl h w m then none else some 1) := by
  unfold life_Check.f
  simp only [Bool.or_eq_true, decide_eq_true_eq]
  by_cases g : Rl h w m
  · have g' := g
    unfold Rl at g'
    rw [if_pos g, if_neg (by omega)]
  · have g' := g
    unfold Rl at g'
    rw [if_neg g, if_pos (by omega)]
theorem missed_eq (k : Nat) (kind s age missed h w m : Int) : life_Life_missed.f k ⟨kind, s, age, missed⟩ ⟨h, w, m⟩ = some (decide (Ms kind missed m)) := by
  simp only [life_Life_missed.f, life_Life_missed.j1, decide_eq_true_eq]
  repeat' split
  all_goals (refine congrArg some ?_; rw [Bool.eq_iff_iff]; simp only [Bool.and_eq_true, decide_eq_true_eq, ms_iff, Bool.false_eq_true, false_iff]; omega)
theorem gone_eq (k : Nat) (kind s age missed : Int) : life_Gone.f k ⟨kind, s, age, missed⟩ = some (decide (kind = 3 ∨ kind = 4)) := by
  unfold life_Gone.f
  refine congrArg some ?_
  rw [Bool.eq_iff_iff]; simp only [Bool.or_eq_true, decide_eq_true_eq]
theorem may_eq (k : Nat) (h w m kind s age missed : Int) : life_May.f k ⟨h, w, m⟩ ⟨kind, s, age, missed⟩ = some (if My h w m kind s age missed then none else some 1) := by
  simp only [life_May.f, check_eq, Option.bind_some, missed_eq]
  by_cases g : Rl h w m
  · simp only [if_pos g, Option.isSome_none, Bool.false_or]
    by_cases g1 : age < 1
    · have : ¬ My h w m kind s age missed := fun e => by have := e.2.1; omega
      simp [g1, this, gd]
    by_cases g2 : w < age
    · have : ¬ My h w m kind s age missed := fun e => by have := e.2.2.1; omega
      simp [g2, this, gd]
    have g0 : 0 ≤ age := by omega
    by_cases g3 : s / 2 ^ shn .u32 age = 0
    · by_cases g4 : Ms kind missed m
      · have : My h w m kind s age missed := ⟨g, by omega, by omega, g3, g4⟩
        simp [g1, g2, g0, g3, g4, this, gd]
      · have : ¬ My h w m kind s age missed := fun e => g4 e.2.2.2.2
        simp [g1, g2, g0, g3, g4, this, gd]
    · have : ¬ My h w m kind s age missed := fun e => g3 e.2.2.2.1
      simp [g1, g2, g0, g3, this, gd]
  · have : ¬ My h w m kind s age missed := fun e => g e.1
    simp [g, this, gd]
/-! ### the next life -/
theorem wrap_u32 (n : Int) : IntKind.u32.wrap n = n % 4294967296 := by simp [IntKind.wrap, IntKind.bits, IntKind.signed]
theorem w64_id {x : Int} (h : -9223372036854775808 ≤ x ∧ x ≤ 9223372036854775807) : w64 x = x := by
  simp only [w64, IntKind.wrap, IntKind.bits, IntKind.signed]
  simp
  omega
/-! ### what was seen, as a number -/
def bit (b : Bool) : Int := if b then 1 else 0
theorem bit_range (b : Bool) : 0 ≤ bit b ∧ bit b ≤ 1 := by cases b <;> decide
def B : List Bool → Int
  | [] => 0
  | b :: L => bit b * 2 ^ L.length + B L
def cnt : List Bool → Int
  | [] => 0
  | b :: L => bit b + cnt L
theorem p2 (n : Nat) : 1 ≤ (2 : Int) ^ n := by
  induction n with
  | zero => decide
  | succ n ih => rw [Int.pow_succ]; omega
theorem p2_16 : ∀ n : Nat, n < 17 → (2 : Int) ^ n ≤ 65536 := by decide
theorem B_snoc (c : Bool) : ∀ L : List Bool, B (L ++ [c]) = 2 * B L + bit c
  | [] => by simp [B]
  | b :: L => by
    simp only [List.cons_append, B, B_snoc c L, List.length_append, List.length_cons, List.length_nil, Int.pow_succ]
    rw [show bit b * (2 ^ L.length * 2) = 2 * (bit b * 2 ^ L.length) by rw [← Int.mul_assoc]; omega]
    omega
theorem B_range : ∀ L : List Bool, 0 ≤ B L ∧ B L < 2 ^ L.length
  | [] => by simp [B]
  | b :: L => by
    have ih := B_range L
    simp only [B, List.length_cons, Int.pow_succ]
    cases b <;> simp [bit] <;> omega
theorem cnt_snoc (c : Bool) : ∀ L : List Bool, cnt (L ++ [c]) = cnt L + bit c
  | [] => by simp [cnt]
  | b :: L => by simp only [List.cons_append, cnt, cnt_snoc c L]; omega
def pcf : Nat → Nat → Nat
  | 0, _ => 0
  | f + 1, n => n % 2 + pcf f (n / 2)
theorem pcf_zero : ∀ f, pcf f 0 = 0
  | 0 => rfl
  | f + 1 => by simp [pcf, pcf_zero f]
theorem pcf_B : ∀ (f : Nat) (L : List Bool), L.length ≤ f → (pcf f (B L).toNat : Int) = cnt L
  | 0, [], _ => rfl
  | f + 1, L, h => by
    by_cases hn : L = []
    · subst hn; simp [B, cnt, pcf_zero]
    · obtain ⟨D, c, rfl⟩ : ∃ D c, L = D ++ [c] := ⟨L.dropLast, L.getLast hn, (List.dropLast_concat_getLast hn).symm⟩
      have h1 := B_range D
      have h2 := bit_range c
      have ih := pcf_B f D (by simp at h; omega)
      rw [B_snoc, cnt_snoc, pcf]
      have e1 : (2 * B D + bit c).toNat % 2 = (bit c).toNat := by omega
      have e2 : (2 * B D + bit c).toNat / 2 = (B D).toNat := by omega
      rw [e1, e2]; omega
theorem bt_pc : ∀ j : Nat, j < 256 → bt str_0 (j : Int) = (pcf 8 j : Int) := by decide +kernel
theorem pcf_16 (x : Nat) : pcf 16 x = pcf 8 (x % 256) + pcf 8 (x / 256) := by
  simp only [pcf]; omega
theorem and_mask (n : Nat) (x : Int) (hn : n ≤ 31) (h : 0 ≤ x ∧ x < 4294967296) : iand .u32 x (2 ^ n - 1) = x % 2 ^ n := by
  have e : iand .u32 x (2 ^ n - 1) = (((BitVec.ofInt 32 x &&& BitVec.ofInt 32 (2 ^ n - 1)).toNat : Nat) : Int) % 4294967296 := by
    rw [← wrap_u32]; rfl
  obtain ⟨y, rfl⟩ : ∃ y : Nat, x = y := ⟨x.toNat, by omega⟩
  have q : (2 : Int) ^ n - 1 = ((2 ^ n - 1 : Nat) : Int) := by
    have := Nat.one_le_two_pow (n := n)
    rw [Int.natCast_sub this]; simp
  have q2 : 2 ^ n ≤ 2 ^ 31 := Nat.pow_le_pow_right (by decide) hn
  rw [e, q, BitVec.toNat_and, BitVec.ofInt_natCast, BitVec.ofInt_natCast, BitVec.toNat_ofNat, BitVec.toNat_ofNat, Nat.mod_eq_of_lt (by omega), Nat.mod_eq_of_lt (by omega), Nat.and_two_pow_sub_one_eq_mod]
  have := Nat.mod_le y (2 ^ n)
  have q4 : (2 : Int) ^ n ≤ 2147483648 := by
    have := Int.ofNat_le.2 q2
    rw [Int.natCast_pow] at this; exact this
  have q5 := p2 n
  have q6 := Int.emod_nonneg (y : Int) (b := 2 ^ n) (by omega)
  have q7 := Int.emod_lt_of_pos (y : Int) (b := 2 ^ n) (by omega)
  rw [Int.natCast_emod, Int.natCast_pow, show ((2 : Nat) : Int) = 2 from rfl, Int.emod_eq_of_lt q6 (by omega)]
theorem or_one (x : Int) (h : 0 ≤ x ∧ x < 4294967296) (h2 : x % 2 = 0) : ior .u32 x 1 = x + 1 := by
  have e : ior .u32 x 1 = (((BitVec.ofInt 32 x ||| 1#32).toNat : Nat) : Int) % 4294967296 := by
    rw [← wrap_u32]; rfl
  obtain ⟨y, rfl⟩ : ∃ y : Nat, x = ((2 * y : Nat) : Int) := ⟨(x / 2).toNat, by omega⟩
  rw [e, BitVec.toNat_or, BitVec.ofInt_natCast, BitVec.toNat_ofNat, Nat.mod_eq_of_lt (by omega), show (1#32).toNat = 1 from rfl]
  have := Nat.two_pow_add_eq_or_of_lt (i := 1) (b := 1) (by decide) y
  rw [Nat.pow_one] at this
  rw [← this]; omega
theorem ones_eq (k : Nat) {x : Int} (h : 0 ≤ x ∧ x < 65536) : bits_OnesCount32.f k x = some (pcf 16 x.toNat : Int) := by
  unfold bits_OnesCount32.f
  have e : (str_0.size : Int) = 256 := by decide +kernel
  obtain ⟨y, rfl⟩ : ∃ y : Nat, x = y := ⟨x.toNat, by omega⟩
  have m := fun (z : Int) (hz : 0 ≤ z ∧ z < 4294967296) => and_mask 8 z (by decide) hz
  rw [show (2 : Int) ^ 8 - 1 = 255 by decide, show (2 : Int) ^ 8 = 256 by decide] at m
  rw [e, m _ (by omega), m _ (by omega), m _ (by omega), if_pos (by omega), if_pos (by omega), if_pos (by omega), if_pos (by omega)]
  have b1 := bt_pc (y % 256) (by omega)
  have b2 := bt_pc (y / 256) (by omega)
  have b0 : bt str_0 0 = 0 := by decide +kernel
  have l8 : ∀ z : Nat, pcf 8 z ≤ 8 := fun z => by simp only [pcf]; omega
  have l1 := l8 (y % 256); have l2 := l8 (y / 256)
  rw [show (y : Int) / 16777216 = 0 by omega, show (y : Int) / 65536 % 256 = 0 by omega, show (y : Int) / 256 % 256 = ((y / 256 : Nat) : Int) by omega, show (y : Int) % 256 = ((y % 256 : Nat) : Int) by omega, b0, b1, b2]
  rw [show (y : Int).toNat = y from rfl, pcf_16]
  refine congrArg some ?_
  rw [w64_id (by omega)]
  omega
theorem ones_B (k : Nat) {L : List Bool} (h : L.length ≤ 16) : bits_OnesCount32.f k (B L) = some (cnt L) := by
  have h1 := B_range L
  have h2 := p2_16 L.length (by omega)
  rw [ones_eq k (by omega), pcf_B 16 L h]
/-! ### the next life -/
def sure (missed m : Int) : Int := if missed = 0 then 1 else if missed = m then 4 else 2
/-- What is kept of what was seen. -/
def keep (w : Int) (L : List Bool) (hit : Bool) : List Bool := if w < ((L ++ [hit]).length : Int) then (L ++ [hit]).drop 1 else L ++ [hit]
def miss (m missed : Int) (hit : Bool) : Int := if hit then 0 else min (missed + 1) m
def kin (h w m kind : Int) (L' : List Bool) (missed' : Int) : Int :=
  if kind ≠ 0 ∨ h ≤ cnt L' then sure missed' m else if (L'.length : Int) = w ∨ missed' = m then 3 else 0
structure Ok (h w m kind : Int) (L : List Bool) (missed : Int) : Prop where
  rl : Rl h w m
  len : 1 ≤ L.length ∧ (L.length : Int) ≤ w
  ms : Ms kind missed m
theorem Ok.my {h w m kind missed : Int} {L : List Bool} (o : Ok h w m kind L missed) : My h w m kind (B L) L.length missed := by
  refine ⟨o.rl, by have := o.len; omega, o.len.2, ?_, o.ms⟩
  have h1 := B_range L
  have h2 := o.rl; unfold Rl at h2
  have h3 := o.len
  have : shn .u32 (L.length : Int) = L.length := by simp only [shn, IntKind.bits]; omega
  rw [shr, this]
  exact Int.ediv_eq_zero_of_lt h1.1 h1.2
theorem keep_len {w : Int} {L : List Bool} (hit : Bool) (h : 1 ≤ w) (hL : (L.length : Int) ≤ w) : ((keep w L hit).length : Int) = min ((L.length : Int) + 1) w := by
  unfold keep
  split
  · simp only [List.length_drop, List.length_append, List.length_cons, List.length_nil] at *; omega
  · simp only [List.length_append, List.length_cons, List.length_nil] at *; omega
theorem keep_B {w : Int} {L : List Bool} (hit : Bool) (h : 1 ≤ w ∧ w ≤ 16) (hL : 1 ≤ L.length ∧ (L.length : Int) ≤ w) : (2 * B L) % 2 ^ w.toNat + bit hit = B (keep w L hit) := by
  have hs := B_snoc hit L
  have hb := bit_range hit
  obtain ⟨q, hq⟩ : ∃ q : Int, (2 : Int) ^ w.toNat = 2 * q := ⟨2 ^ (w.toNat - 1), by
    rw [show w.toNat = (w.toNat - 1) + 1 by omega, Int.pow_succ]; simp; omega⟩
  have hp := p2 w.toNat
  have key : ∀ a c : Int, (a = 0 ∨ a = 1) → 2 * B L + bit hit = a * 2 ^ w.toNat + c → 0 ≤ c → c < 2 ^ w.toNat → (2 * B L) % 2 ^ w.toNat + bit hit = c := by
    intro a c ha e h0 h1
    have : 2 * B L = (c - bit hit) + 2 ^ w.toNat * a := by rw [Int.mul_comm (2 ^ w.toNat) a]; omega
    rw [this, Int.add_mul_emod_self_left, Int.emod_eq_of_lt]
    · omega
    · rcases ha with rfl | rfl <;> omega
    · omega
  unfold keep
  split
  · rename_i hw
    simp only [List.length_append, List.length_cons, List.length_nil] at hw
    cases hM : L ++ [hit] with
    | nil => simp at hM
    | cons a T =>
      have hl : T.length = w.toNat := by have := congrArg List.length hM; simp at this; omega
      rw [hM] at hs
      have hr := B_range T
      refine key (bit a) (B ((a :: T).drop 1)) (by cases a <;> simp [bit]) ?_ ?_ ?_
      · rw [← hs, B, hl]; rfl
      · exact hr.1
      · have := hr.2; rw [hl] at this; exact this
  · rename_i hw
    have hr := B_range (L ++ [hit])
    have : (2 : Int) ^ (L ++ [hit]).length ≤ 2 ^ w.toNat := by
      have e : w.toNat = (L ++ [hit]).length + (w.toNat - (L ++ [hit]).length) := by omega
      rw [e, Int.pow_add]
      have a1 := p2 (L ++ [hit]).length
      have a2 := p2 (w.toNat - (L ++ [hit]).length)
      calc (2 : Int) ^ (L ++ [hit]).length = 2 ^ (L ++ [hit]).length * 1 := by omega
        _ ≤ _ := Int.mul_le_mul_of_nonneg_left a2 (by omega)
    exact key 0 _ (.inl rfl) (by rw [← hs]; omega) hr.1 (by omega)
theorem miss_range {m missed : Int} (hit : Bool) (h : 0 ≤ missed) (hm : 1 ≤ m) : 0 ≤ miss m missed hit ∧ miss m missed hit ≤ m := by
  unfold miss; split <;> omega
theorem kin_ms {h w m kind : Int} {L : List Bool} {missed : Int} (hm : 1 ≤ m) (h0 : 0 ≤ missed ∧ missed ≤ m) : Ms (kin h w m kind L missed) missed m := by
  unfold kin sure Ms
  repeat' split
  all_goals omega
theorem ms_nonneg {kind missed m : Int} (hm : 1 ≤ m) (h : Ms kind missed m) : 0 ≤ missed := by
  unfold Ms at h; omega
theorem Ok.next {h w m kind missed : Int} {L : List Bool} (o : Ok h w m kind L missed) (hit : Bool) : Ok h w m (kin h w m kind (keep w L hit) (miss m missed hit)) (keep w L hit) (miss m missed hit) := by
  have h2 := o.rl; unfold Rl at h2
  have h3 := keep_len hit h2.1 o.len.2
  have h4 := o.len
  have h5 := miss_range hit (ms_nonneg h2.2.2.2.2.1 o.ms) h2.2.2.2.2.1
  exact ⟨o.rl, by omega, kin_ms h2.2.2.2.2.1 h5⟩
theorem sure_eq (k : Nat) (kind s age missed h w m : Int) : life_Life_sure.f k ⟨kind, s, age, missed⟩ ⟨h, w, m⟩ = some (sure missed m) := by
  unfold life_Life_sure.f sure
  repeat' split
  all_goals rfl
theorem kind_eq (k : Nat) {kind missed h w m : Int} {L : List Bool} (hL : L.length ≤ 16) : life_Life_kind.f k ⟨kind, B L, L.length, missed⟩ ⟨h, w, m⟩ = some (kin h w m kind L missed) := by
  unfold life_Life_kind.f kin
  simp only [ones_B k hL, sure_eq, Option.bind_some]
  by_cases g : kind = 0
  · subst g
    by_cases g2 : h ≤ cnt L
    · simp [gd, g2]
    · by_cases g3 : (L.length : Int) = w ∨ missed = m
      · simp [gd, g2, g3]
      · simp [gd, g2, g3]
  · simp [gd, g]
theorem next_eq (k : Nat) {h w m kind missed : Int} {L : List Bool} (o : Ok h w m kind L missed) (hk : kind ≠ 3 ∧ kind ≠ 4) (hit : Bool) (hmm : missed < 9223372036854775807) :
    life_Next.f k ⟨h, w, m⟩ ⟨kind, B L, L.length, missed⟩ hit = some (⟨kin h w m kind (keep w L hit) (miss m missed hit), B (keep w L hit), (keep w L hit).length, miss m missed hit⟩, none) := by
  have h2 := o.rl; unfold Rl at h2
  have h3 := keep_len hit h2.1 o.len.2
  have h4 := o.len
  have h6 := ms_nonneg h2.2.2.2.2.1 o.ms
  have hb := B_range L
  have hb2 := p2_16 L.length (by omega)
  have hsh : shn .u32 w = w.toNat := by simp only [shn, IntKind.bits]; omega
  have hp := p2_16 w.toNat (by omega)
  have hp1 := p2 w.toNat
  have hB := keep_B hit ⟨h2.1, h2.2.1⟩ h4
  have hmask : (1 * (2 : Int) ^ shn .u32 w % 4294967296 - 1) % 4294967296 = 2 ^ w.toNat - 1 := by
    rw [hsh, Int.one_mul, Int.emod_eq_of_lt (by omega) (by omega), Int.emod_eq_of_lt (by omega) (by omega)]
  have hand := and_mask w.toNat (2 * B L) (by omega) (by omega)
  have hdb : (B L * 2) % 4294967296 = 2 * B L := by omega
  have hev : (2 * B L) % 2 ^ w.toNat % 2 = 0 := by
    obtain ⟨q, hq⟩ : ∃ q : Int, (2 : Int) ^ w.toNat = 2 * q := ⟨2 ^ (w.toNat - 1), by
      rw [show w.toNat = (w.toNat - 1) + 1 by omega, Int.pow_succ]; simp; omega⟩
    rw [hq, Int.mul_emod_mul_of_pos _ _ (by decide)]; omega
  have hr0 : 0 ≤ (2 * B L) % 2 ^ w.toNat := Int.emod_nonneg _ (by omega)
  have hr1 : (2 * B L) % 2 ^ w.toNat < 2 ^ w.toNat := Int.emod_lt_of_pos _ (by omega)
  have hage : min (w64 ((L.length : Int) + 1)) w = (keep w L hit).length := by rw [w64_id (by omega), h3]
  have hlen : (keep w L hit).length ≤ 16 := by omega
  simp only [life_Next.f, may_eq, gone_eq, if_pos o.my, Option.bind_some, Option.isSome_none, Bool.false_eq_true, if_false, hk.1, hk.2, or_self, decide_false, if_pos (show 0 ≤ w by omega), life_Next.j1, hmask, hdb, hand, hage]
  cases hit
  · simp only [Bool.false_eq_true, if_false]
    rw [show (2 * B L) % 2 ^ w.toNat = B (keep w L false) by rw [← hB]; simp [bit], w64_id (by omega), show min (missed + 1) m = miss m missed false from rfl, kind_eq k hlen]; rfl
  · simp only [if_true]
    rw [or_one _ (by omega) hev, show (2 * B L) % 2 ^ w.toNat + 1 = B (keep w L true) by rw [← hB]; simp [bit], show (0 : Int) = miss m missed true from rfl, kind_eq k hlen]; rfl
end Go.Proofs.YtjhpkkhcgpilfaaDoor.Pure
