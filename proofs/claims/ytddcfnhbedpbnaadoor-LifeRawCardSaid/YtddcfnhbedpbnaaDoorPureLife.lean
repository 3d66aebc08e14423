/- Rules and lives: what the program's and the reference's small functions answer. -/
import Derived.Test.YtddcfnhbedpbnaaDoorGTRp
namespace Go.Proofs.YtddcfnhbedpbnaaDoor.Pure
open Go.RowKit Go.Proofs.YtddcfnhbedpbnaaDoorK Go.Proofs.YtddcfnhbedpbnaaDoor.GTR
set_option linter.unusedVariables false
set_option linter.unusedSimpArgs false
def Rl (h w m : Int) : Prop := 1 ≤ w ∧ w ≤ 16 ∧ 1 ≤ h ∧ h ≤ w ∧ 1 ≤ m ∧ m ≤ 64
instance (h w m : Int) : Decidable (Rl h w m) := by unfold Rl; infer_instance
def Ms (kind missed m : Int) : Prop :=
  ((kind = 0 ∨ kind = 3) ∧ 0 ≤ missed ∧ missed ≤ m) ∨ (kind = 1 ∧ missed = 0) ∨ (kind = 2 ∧ 1 ≤ missed ∧ missed < m) ∨ (kind = 4 ∧ missed = m)
instance (a b c : Int) : Decidable (Ms a b c) := by unfold Ms; infer_instance
def shr (s a : Int) : Int := s / 2 ^ shn .u32 a
def My (h w m kind s age missed : Int) : Prop := Rl h w m ∧ 1 ≤ age ∧ age ≤ w ∧ shr s age = 0 ∧ Ms kind missed m
instance (h w m kind s age missed : Int) : Decidable (My h w m kind s age missed) := by unfold My; infer_instance
theorem rl_iff (h w m : Int) : Rl h w m ↔ 1 ≤ w ∧ w ≤ 16 ∧ 1 ≤ h ∧ h ≤ w ∧ 1 ≤ m ∧ m ≤ 64 := Iff.rfl
theorem ms_iff (kind missed m : Int) : Ms kind missed m ↔ ((kind = 0 ∨ kind = 3) ∧ 0 ≤ missed ∧ missed ≤ m) ∨ (kind = 1 ∧ missed = 0) ∨ (kind = 2 ∧ 1 ≤ missed ∧ missed < m) ∨ (kind = 4 ∧ missed = m) := Iff.rfl
theorem rcheck_eq (k : Nat) (h w m : Int) : radomeref23_Check.f k ⟨h, w, m⟩ = some (decide (Rl h w m)) := by
  unfold radomeref23_Check.f
  refine congrArg some ?_
  rw [Bool.eq_iff_iff]
  simp only [Bool.and_eq_true, decide_eq_true_eq, rl_iff]; omega
theorem check_eq (k : Nat) (h w m : Int) : life_Check.f k ⟨h, w, m⟩ = some (if Rl h w m then none else some 1) := by
  unfold life_Check.f
  simp only [Bool.or_eq_true, decide_eq_true_eq]
  by_cases g : Rl h w m
  · have g' := g
    unfold Rl at g'
    rw [if_pos g, if_neg (by omega)]
  · have g' := g
    unfold Rl at g'
    rw [if_neg g, if_pos (by omega)]
theorem missed_eq (k : Nat) (kind s age missed h w m : Int) : life_Life_missed.f k ⟨kind, s, age, missed⟩ ⟨h, w, m⟩ = some (decide (Ms kind missed m)) := by
  simp only [life_Life_missed.f, life_Life_missed.j1, decide_eq_true_eq]
  repeat' split
  all_goals (refine congrArg some ?_; rw [Bool.eq_iff_iff]; simp only [Bool.and_eq_true, decide_eq_true_eq, ms_iff, Bool.false_eq_true, false_iff]; omega)
theorem gone_eq (k : Nat) (kind s age missed : Int) : life_Gone.f k ⟨kind, s, age, missed⟩ = some (decide (kind = 3 ∨ kind = 4)) := by
  unfold life_Gone.f
  refine congrArg some ?_
  rw [Bool.eq_iff_iff]; simp only [Bool.or_eq_true, decide_eq_true_eq]
theorem may_eq (k : Nat) (h w m kind s age missed : Int) : life_May.f k ⟨h, w, m⟩ ⟨kind, s, age, missed⟩ = some (if My h w m kind s age missed then none else some 1) := by
  simp only [life_May.f, check_eq, Option.bind_some, missed_eq]
  by_cases g : Rl h w m
  · simp only [if_pos g, Option.isSome_none, Bool.false_or]
    by_cases g1 : age < 1
    · have : ¬ My h w m kind s age missed := fun e => by have := e.2.1; omega
      simp [g1, this, gd]
    by_cases g2 : w < age
    · have : ¬ My h w m kind s age missed := fun e => by have := e.2.2.1; omega
      simp [g2, this, gd]
    have g0 : 0 ≤ age := by omega
    by_cases g3 : s / 2 ^ shn .u32 age = 0
    · by_cases g4 : Ms kind missed m
      · have : My h w m kind s age missed := ⟨g, by omega, by omega, g3, g4⟩
        simp [g1, g2, g0, g3, g4, this, gd]
      · have : ¬ My h w m kind s age missed := fun e => g4 e.2.2.2.2
        simp [g1, g2, g0, g3, g4, this, gd]
    · have : ¬ My h w m kind s age missed := fun e => g3 e.2.2.2.1
      simp [g1, g2, g0, g3, this, gd]
  · have : ¬ My h w m kind s age missed := fun e => g e.1
    simp [g, this, gd]
/-! ### the next life -/
theorem wrap_u32 (n : Int) : IntKind.u32.wrap n = n % 4294967296 := by simp [IntKind.wrap, IntKind.bits, IntKind.signed]
theorem and_255 (y : Int) : 0 ≤ iand .u32 y 255 ∧ iand .u32 y 255 < 256 := by
  have e : iand .u32 y 255 = (((BitVec.ofInt 32 y &&& 255#32).toNat : Nat) : Int) % 4294967296 := by
    rw [← wrap_u32]; rfl
  have b : (BitVec.ofInt 32 y &&& 255#32).toNat ≤ 255 := by
    rw [BitVec.toNat_and]; exact Nat.and_le_right
  rw [e]; omega
theorem or_range (x y : Int) : 0 ≤ ior .u32 x y ∧ ior .u32 x y < 4294967296 := by
  have e : ior .u32 x y = (((BitVec.ofInt 32 x ||| BitVec.ofInt 32 y).toNat : Nat) : Int) % 4294967296 := by
    rw [← wrap_u32]; rfl
  rw [e]; omega
theorem and_range (x y : Int) : 0 ≤ iand .u32 x y ∧ iand .u32 x y < 4294967296 := by
  have e : iand .u32 x y = (((BitVec.ofInt 32 x &&& BitVec.ofInt 32 y).toNat : Nat) : Int) % 4294967296 := by
    rw [← wrap_u32]; rfl
  rw [e]; omega
theorem ones_some (k : Nat) {x : Int} (h : 0 ≤ x ∧ x < 4294967296) : ∃ v, bits_OnesCount32.f k x = some v := by
  unfold bits_OnesCount32.f
  have e : (str_0.size : Int) = 256 := by decide +kernel
  have h1 := and_255 (x / 65536); have h2 := and_255 (x / 256); have h3 := and_255 x
  rw [e, if_pos (by omega), if_pos h1, if_pos h2, if_pos h3]
  exact ⟨_, rfl⟩
theorem sure_some (k : Nat) (l : life_Life) (r : life_Rule) : ∃ v, life_Life_sure.f k l r = some v := by
  unfold life_Life_sure.f
  repeat' split
  all_goals exact ⟨_, rfl⟩
theorem kind_some (k : Nat) (l : life_Life) (r : life_Rule) (h : 0 ≤ l.f_Seen ∧ l.f_Seen < 4294967296) : ∃ v, life_Life_kind.f k l r = some v := by
  obtain ⟨n, hn⟩ := ones_some k h
  obtain ⟨n2, hn2⟩ := sure_some k l r
  unfold life_Life_kind.f
  have : ∃ y6, gd (!(!decide (l.f_Kind = 0))) (bits_OnesCount32.f k l.f_Seen) 0 = some y6 := by
    unfold gd; rw [hn]; split <;> exact ⟨_, rfl⟩
  obtain ⟨y6, hy⟩ := this
  rw [hy, Option.bind_some]
  obtain ⟨l0, l1, l2, l3⟩ := l; obtain ⟨r0, r1, r2⟩ := r
  simp only [hn2, Option.bind_some]
  repeat' split
  all_goals exact ⟨_, rfl⟩
theorem next_err (k : Nat) (h w m kind s age missed : Int) (hit : Bool) : ∃ l, life_Next.f k ⟨h, w, m⟩ ⟨kind, s, age, missed⟩ hit =
    some (l, if My h w m kind s age missed then (if kind = 3 ∨ kind = 4 then some 14 else none) else some 1) := by
  simp only [life_Next.f, may_eq, gone_eq, Option.bind_some]
  by_cases g : My h w m kind s age missed
  · have g' := g.1
    unfold Rl at g'
    simp only [if_pos g, Option.isSome_none, Bool.false_eq_true, if_false]
    by_cases g1 : kind = 3 ∨ kind = 4
    · rw [if_pos (by simpa using g1), if_pos g1]; exact ⟨_, rfl⟩
    · rw [if_neg (by simpa using g1), if_neg g1, if_pos (by omega)]
      simp only [life_Next.j1]
      cases hit
      · rw [if_neg (by simp)]
        obtain ⟨v, hv⟩ := kind_some k ⟨kind, iand .u32 ((s * 2) % 4294967296) ((((1 * 2 ^ shn .u32 w) % 4294967296) - 1) % 4294967296), min (w64 (age + 1)) w, min (w64 (missed + 1)) m⟩ ⟨h, w, m⟩ (and_range _ _)
        rw [hv]; exact ⟨_, rfl⟩
      · rw [if_pos rfl]
        obtain ⟨v, hv⟩ := kind_some k ⟨kind, ior .u32 (iand .u32 ((s * 2) % 4294967296) ((((1 * 2 ^ shn .u32 w) % 4294967296) - 1) % 4294967296)) 1, min (w64 (age + 1)) w, 0⟩ ⟨h, w, m⟩ (or_range _ _)
        rw [hv]; exact ⟨_, rfl⟩
  · simp only [if_neg g, Option.isSome_some, if_true]
    exact ⟨_, rfl⟩
theorem sure_fs : radomelaw23_sure.f 0 = some true := by decide +kernel
theorem sure_ev : Ev (fun k => radomelaw23_sure.f k) true := Ev.of (fun k => radomelaw23_sure.mono k) sure_fs
theorem w64_id {x : Int} (h : -9223372036854775808 ≤ x ∧ x ≤ 9223372036854775807) : w64 x = x := by
  simp only [w64, IntKind.wrap, IntKind.bits, IntKind.signed]
  simp
  omega
end Go.Proofs.YtddcfnhbedpbnaaDoor.Pure
