/- Records of category 48: read from bytes. -/
import Derived.Test.YtlokgnjlnefbbaaDoorPureRPB
import Derived.Test.YtlokgnjlnefbbaaDoorPureFN96
import Derived.Test.YtlokgnjlnefbbaaDoorPureCW96
namespace Go.Proofs.YtlokgnjlnefbbaaDoor.Pure
open Go.RowKit Go.Proofs.YtlokgnjlnefbbaaDoorK Go.Proofs.YtlokgnjlnefbbaaDoor.GCB
set_option linter.unusedVariables false
set_option linter.unusedSimpArgs false
set_option maxRecDepth 100000
theorem w64_rng (x : Int) : -9223372036854775808 ≤ w64 x ∧ w64 x ≤ 9223372036854775807 := by
  simp only [w64, IntKind.wrap, IntKind.bits, IntKind.signed]; simp; omega
theorem cnum_step {t : List Int} (hb : Byt t) (hl : t.length ≤ 1000000) : ∀ (d i : Nat) (n : Int), t.length = i + d → Ev (fun k => (cat048_number.hs k).l0 (w64 n) t (t.length : Int) (i : Int)) (w64 (un n (t.drop i)))
  | 0, i, n, e => by
    refine Ev.step (fun k => rfl) ?_
    simp only [cat048_number.hs, cat048_number.b0, if_neg (show ¬ (i : Int) < (t.length : Int) by omega)]
    rw [List.drop_eq_nil_of_le (by omega), un]; exact Ev.now
  | d + 1, i, n, e => by
    have hi : i < t.length := by omega
    have hc := hb _ (List.getElem_mem hi)
    refine Ev.step (fun k => rfl) ?_
    simp only [cat048_number.hs, cat048_number.b0, if_pos (show (i : Int) < (t.length : Int) by omega), if_pos (show (0 : Int) ≤ (i : Int) ∧ (i : Int) < (t.length : Int) by omega), rdg hi, ior_byte hc, wsc (show i < 1000000000 by omega)]
    rw [drc hi, un]
    exact cnum_step hb hl d (i + 1) _ (by omega)
theorem cnum_ev {t : List Int} (hb : Byt t) (hl : t.length ≤ 1000000) : Ev (fun k => cat048_number.f k t) (w64 (un 0 t)) := by
  have := cnum_step hb hl t.length 0 0 (by omega)
  rw [List.drop_zero] at this
  unfold cat048_number.f
  exact this
theorem cnum2 {a b : Int} (ha : 0 ≤ a ∧ a ≤ 255) (hb : 0 ≤ b ∧ b ≤ 255) : Ev (fun k => cat048_number.f k [a, b]) (256 * a + b) := by
  have := cnum_ev (t := [a, b]) (fun x hx => by simp at hx; rcases hx with rfl | rfl; exact ha; exact hb) (by simp)
  have e : w64 (un 0 [a, b]) = 256 * a + b := by
    show w64 ((256 * ((256 * 0 + a) % 18446744073709551616) + b) % 18446744073709551616) = _
    rw [wi (by omega)]; omega
  rwa [e] at this
theorem cnum3 {a b c : Int} (ha : 0 ≤ a ∧ a ≤ 255) (hb : 0 ≤ b ∧ b ≤ 255) (hc : 0 ≤ c ∧ c ≤ 255) : Ev (fun k => cat048_number.f k [a, b, c]) (65536 * a + 256 * b + c) := by
  have := cnum_ev (t := [a, b, c]) (fun x hx => by simp at hx; rcases hx with rfl | rfl | rfl; exact ha; exact hb; exact hc) (by simp)
  have e : w64 (un 0 [a, b, c]) = 65536 * a + 256 * b + c := by
    show w64 ((256 * ((256 * ((256 * 0 + a) % 18446744073709551616) + b) % 18446744073709551616) + c) % 18446744073709551616) = _
    rw [wi (by omega)]; omega
  rwa [e] at this
/-! ### sizes -/
theorem chain_l0 {b : List Int} (hl : b.length ≤ 1000000) : ∀ (d i : Nat), b.length = i + d → ∃ R : Int × Option Int, Ev (fun k => (cat048_chain.hs k).l0 0 none b (b.length : Int) (i : Int)) R ∧ (R.2 = none → 0 ≤ R.1 ∧ R.1 ≤ b.length)
  | 0, i, e => by
    refine ⟨(0, some 4), Ev.step (fun k => rfl) ?_, fun h => by cases h⟩
    simp only [cat048_chain.hs, cat048_chain.b0, if_neg (show ¬ (i : Int) < (b.length : Int) by omega)]; exact Ev.now
  | d + 1, i, e => by
    have hi : i < b.length := by omega
    by_cases h : iand .u8 (rd b (i : Int)) 1 = 0
    · refine ⟨(((i + 1 : Nat) : Int), none), Ev.step (fun k => rfl) ?_, fun _ => ⟨by simp only []; omega, by simp only []; omega⟩⟩
      simp only [cat048_chain.hs, cat048_chain.b0, if_pos (show (i : Int) < (b.length : Int) by omega), if_pos (show (0 : Int) ≤ (i : Int) ∧ (i : Int) < (b.length : Int) by omega), if_pos h, wsc (show i < 1000000000 by omega)]; exact Ev.now
    · obtain ⟨R, h1, h2⟩ := chain_l0 hl d (i + 1) (by omega)
      refine ⟨R, Ev.step (fun k => rfl) ?_, h2⟩
      simp only [cat048_chain.hs, cat048_chain.b0, if_pos (show (i : Int) < (b.length : Int) by omega), if_pos (show (0 : Int) ≤ (i : Int) ∧ (i : Int) < (b.length : Int) by omega), if_neg h, wsc (show i < 1000000000 by omega)]; exact h1
theorem chain_ex {b : List Int} (hl : b.length ≤ 1000000) : ∃ R : Int × Option Int, Ev (fun k => cat048_chain.f k b) R ∧ (R.2 = none → 0 ≤ R.1 ∧ R.1 ≤ b.length) := chain_l0 hl b.length 0 (by omega)
theorem bit0 : ∀ c : Fin 256, 0 ≤ iand .u8 (c.val : Int) 1 ∧ iand .u8 (c.val : Int) 1 ≤ 1 := by decide +kernel
theorem bit0' {c : Int} (h : 0 ≤ c ∧ c ≤ 255) : 0 ≤ iand .u8 c 1 ∧ iand .u8 c 1 ≤ 1 := by
  have := bit0 ⟨c.toNat, by omega⟩
  have e : ((c.toNat : Nat) : Int) = c := by omega
  simpa only [e] using this
theorem ones_l1 {t : List Int} {i : Nat} (hi : i < 1000000) (P : Int × Option Int → Prop) : ∀ (m : Nat) (c all : Int), m ≤ 8 → 0 ≤ c → c < 2 ^ m → 0 ≤ all → all + m ≤ 100000000 →
    (∀ a, all ≤ a → a ≤ all + m → ∃ R, Ev (fun k => (cat048_ones.hs k).l0 a t (t.length : Int) ((i + 1 : Nat) : Int)) R ∧ P R) → ∃ R, Ev (fun k => (cat048_ones.hs k).l1 all c t (t.length : Int) (i : Int)) R ∧ P R
  | 0, c, all, _, h0, h1, _, _, h => by
    obtain ⟨R, r1, r2⟩ := h all (by omega) (by omega)
    refine ⟨R, Ev.step (fun k => rfl) ?_, r2⟩
    simp only [cat048_ones.hs, cat048_ones.b1, if_neg (show ¬ 0 < c by simp at h1; omega), wsc (show i < 1000000000 by omega)]; exact r1
  | m + 1, c, all, hm, h0, h1, ha, ha2, h => by
    by_cases hc : 0 < c
    · have hc255 : c ≤ 255 := by
        have : (2 : Int) ^ (m + 1) ≤ 2 ^ 8 := by
          have := Nat.pow_le_pow_right (show 0 < 2 by decide) hm
          have h2 : ((2 ^ (m + 1) : Nat) : Int) ≤ ((2 ^ 8 : Nat) : Int) := by omega
          simpa using h2
        have e8 : (2 : Int) ^ 8 = 256 := by decide
        omega
      have hb := bit0' (c := c) ⟨h0, hc255⟩
      have hp : (2 : Int) ^ (m + 1) = 2 ^ m * 2 := Int.pow_succ ..
      obtain ⟨R, r1, r2⟩ := ones_l1 hi P m (c / 2) (all + iand .u8 c 1) (by omega) (by omega) (by omega) (by omega) (by omega) (fun a h1 h2 => h a (by omega) (by omega))
      refine ⟨R, Ev.step (fun k => rfl) ?_, r2⟩
      simp only [cat048_ones.hs, cat048_ones.b1, if_pos hc, wi (show -9223372036854775808 ≤ iand .u8 c 1 ∧ iand .u8 c 1 ≤ 9223372036854775807 by omega), wi (show -9223372036854775808 ≤ all + iand .u8 c 1 ∧ all + iand .u8 c 1 ≤ 9223372036854775807 by omega)]; exact r1
    · obtain ⟨R, r1, r2⟩ := h all (by omega) (by omega)
      refine ⟨R, Ev.step (fun k => rfl) ?_, r2⟩
      simp only [cat048_ones.hs, cat048_ones.b1, if_neg hc, wsc (show i < 1000000000 by omega)]; exact r1
theorem two8 {x : Int} (h : x < 256) : x < 2 ^ 8 := by
  have e8 : (2 : Int) ^ 8 = 256 := by decide
  omega
theorem ones_l0 {t : List Int} (hb : Byt t) (hl : t.length ≤ 1000000) : ∀ (d i : Nat) (all : Int), t.length = i + d → 0 ≤ all → all ≤ 2000000 + 8 * i → ∃ R : Int × Option Int, Ev (fun k => (cat048_ones.hs k).l0 all t (t.length : Int) (i : Int)) R ∧ (R.2 = none → 0 ≤ R.1)
  | 0, i, all, e, h0, h1 => by
    refine ⟨(all, none), Ev.step (fun k => rfl) ?_, fun _ => h0⟩
    simp only [cat048_ones.hs, cat048_ones.b0, if_neg (show ¬ (i : Int) < (t.length : Int) by omega)]; exact Ev.now
  | d + 1, i, all, e, h0, h1 => by
    have hi : i < t.length := by omega
    have hc := hb _ (List.getElem_mem hi)
    obtain ⟨R, r1, r2⟩ := ones_l1 (t := t) (i := i) (by omega) (fun R => R.2 = none → 0 ≤ R.1) 8 (t[i] / 2) all (by omega) (by omega) (two8 (by omega)) h0 (by omega) (fun a a1 a2 => ones_l0 hb hl d (i + 1) a (by omega) (by omega) (by omega))
    refine ⟨R, Ev.step (fun k => rfl) ?_, r2⟩
    simp only [cat048_ones.hs, cat048_ones.b0, if_pos (show (i : Int) < (t.length : Int) by omega), if_pos (show (0 : Int) ≤ (i : Int) ∧ (i : Int) < (t.length : Int) by omega), rdg hi]; exact r1
theorem ones_ex {b : List Int} (hb : Byt b) (hl : b.length ≤ 1000000) : ∃ R : Int × Option Int, Ev (fun k => cat048_ones.f k b) R ∧ (R.2 = none → 0 ≤ R.1) := by
  obtain ⟨Q, q1, q2⟩ := chain_ex hl
  by_cases h : Q.2.isSome = true
  · refine ⟨(0, Q.2), ?_, fun e => by simp only [] at e; rw [e] at h; cases h⟩
    unfold cat048_ones.f
    refine Ev.bind q1 ?_
    simp only [if_pos h]; exact Ev.now
  · have hn : Q.2 = none := by cases e : Q.2 with
      | none => rfl
      | some x => rw [e] at h; exact absurd rfl h
    obtain ⟨h0, h1⟩ := q2 hn
    obtain ⟨q, hq⟩ : ∃ q : Nat, (q : Int) = Q.1 := ⟨Q.1.toNat, by omega⟩
    have hcut : cut b 0 Q.1 = b.take q := by rw [← hq]; unfold cut; rw [Int.toNat_natCast]; rfl
    obtain ⟨R, r1, r2⟩ := ones_l0 (t := b.take q) (fun x hx => hb x (List.mem_of_mem_take hx)) (by rw [List.length_take]; omega) (b.take q).length 0 Q.1 (by omega) h0 (by omega)
    refine ⟨R, ?_, r2⟩
    unfold cat048_ones.f
    refine Ev.bind q1 ?_
    simp only [if_neg h, if_pos (show (0 : Int) ≤ 0 ∧ (0 : Int) ≤ Q.1 ∧ Q.1 ≤ (b.length : Int) by omega), hcut]
    exact r1
theorem byt_rd {b : List Int} (hb : Byt b) (i : Int) : 0 ≤ rd b i ∧ rd b i ≤ 255 := U8.rd hb i
theorem rep_ex {b : List Int} (hb : Byt b) : ∃ R : Int × Option Int, Ev (fun k => cat048_repeated.f k b 8) R ∧ (R.2 = none → 0 ≤ R.1) := by
  have h0 := byt_rd hb 0
  unfold cat048_repeated.f
  by_cases h : (b.length : Int) = 0
  · refine ⟨(0, some 4), ?_, fun e => by cases e⟩
    simp only [if_pos h]; exact Ev.now
  · refine ⟨(1 + rd b 0 * 8, none), ?_, fun _ => by simp only []; omega⟩
    simp only [if_neg h, if_pos (show (0 : Int) ≤ 0 ∧ 0 < (b.length : Int) by omega), wi (show -9223372036854775808 ≤ rd b 0 ∧ rd b 0 ≤ 9223372036854775807 by omega), wi (show -9223372036854775808 ≤ rd b 0 * 8 ∧ rd b 0 * 8 ≤ 9223372036854775807 by omega), wi (show -9223372036854775808 ≤ 1 + rd b 0 * 8 ∧ 1 + rd b 0 * 8 ≤ 9223372036854775807 by omega)]
    exact Ev.now
theorem told_ex {b : List Int} (hb : Byt b) : ∃ R : Int × Option Int, Ev (fun k => cat048_told.f k b) R ∧ (R.2 = none → 0 ≤ R.1) := by
  have h0 := byt_rd hb 0
  unfold cat048_told.f
  by_cases h : (b.length : Int) = 0
  · refine ⟨(0, some 4), ?_, fun e => by cases e⟩
    simp only [if_pos h]; exact Ev.now
  · have hp : (0 : Int) ≤ 0 ∧ 0 < (b.length : Int) := by omega
    by_cases g : rd b 0 = 0
    · refine ⟨(0, some 3), ?_, fun e => by cases e⟩
      simp only [if_neg h, if_pos hp, if_pos g]; exact Ev.now
    · refine ⟨(rd b 0, none), ?_, fun _ => h0.1⟩
      simp only [if_neg h, if_pos hp, if_neg g, wi (show -9223372036854775808 ≤ rd b 0 ∧ rd b 0 ≤ 9223372036854775807 by omega)]; exact Ev.now
theorem speeds_j1 {b : List Int} (hb : Byt b) (h : 0 < b.length) {n : Int} (hn : 0 ≤ n ∧ n ≤ 3) : ∃ R : Int × Option Int, Ev (fun k => cat048_speeds.j1 k b n) R ∧ (R.2 = none → 0 ≤ R.1) := by
  have h0 := byt_rd hb n
  unfold cat048_speeds.j1
  have hp : (0 : Int) ≤ 0 ∧ 0 < (b.length : Int) := by omega
  by_cases g : iand .u8 (rd b 0) 64 = 0
  · refine ⟨(n, none), ?_, fun _ => hn.1⟩
    simp only [if_pos hp, if_pos g]; exact Ev.now
  · by_cases g2 : (b.length : Int) ≤ n
    · refine ⟨(0, some 4), ?_, fun e => by cases e⟩
      simp only [if_pos hp, if_neg g, if_pos g2]; exact Ev.now
    · refine ⟨(n + (1 + 6 * rd b n), none), ?_, fun _ => by simp only []; omega⟩
      simp only [if_pos hp, if_neg g, if_neg g2, if_pos (show (0 : Int) ≤ n ∧ n < (b.length : Int) by omega), wi (show -9223372036854775808 ≤ rd b n ∧ rd b n ≤ 9223372036854775807 by omega), wi (show -9223372036854775808 ≤ 6 * rd b n ∧ 6 * rd b n ≤ 9223372036854775807 by omega), wi (show -9223372036854775808 ≤ 1 + 6 * rd b n ∧ 1 + 6 * rd b n ≤ 9223372036854775807 by omega), wi (show -9223372036854775808 ≤ n + (1 + 6 * rd b n) ∧ n + (1 + 6 * rd b n) ≤ 9223372036854775807 by omega)]; exact Ev.now
theorem speeds_ex {b : List Int} (hb : Byt b) : ∃ R : Int × Option Int, Ev (fun k => cat048_speeds.f k b) R ∧ (R.2 = none → 0 ≤ R.1) := by
  unfold cat048_speeds.f
  by_cases h : (b.length : Int) = 0
  · refine ⟨(0, some 4), ?_, fun e => by cases e⟩
    simp only [if_pos h]; exact Ev.now
  · have hp : (0 : Int) ≤ 0 ∧ 0 < (b.length : Int) := by omega
    by_cases g : iand .u8 (rd b 0) 1 = 0
    · by_cases g2 : iand .u8 (rd b 0) 128 = 0
      · obtain ⟨R, r1, r2⟩ := speeds_j1 hb (by omega) (n := 1) (by omega)
        refine ⟨R, ?_, r2⟩
        simp only [if_neg h, if_pos hp, if_pos g, if_pos g2]; exact r1
      · obtain ⟨R, r1, r2⟩ := speeds_j1 hb (by omega) (n := 3) (by omega)
        refine ⟨R, ?_, r2⟩
        simp only [if_neg h, if_pos hp, if_pos g, if_neg g2, show w64 (1 + 2) = 3 by decide +kernel]; exact r1
    · refine ⟨(0, some 3), ?_, fun e => by cases e⟩
      simp only [if_neg h, if_pos hp, if_neg g]; exact Ev.now
theorem var_j1 {b : List Int} (hb : Byt b) (hl : b.length ≤ 1000000) (t6 : Int) (t7 : Bool) : ∃ R : Int × Option Int, Ev (fun k => cat048_variable.j1 k b t6 t7) R ∧ (R.2 = none → 0 ≤ R.1) := by
  unfold cat048_variable.j1
  by_cases h1 : t7 = true
  · obtain ⟨R, r1, r2⟩ := chain_ex hl
    exact ⟨R, by simp only [if_pos h1]; exact Ev.bind r1 Ev.now, fun e => (r2 e).1⟩
  · by_cases h2 : t6 = 7
    · obtain ⟨R, r1, r2⟩ := ones_ex hb hl
      exact ⟨R, by simp only [if_neg h1, if_pos h2]; exact Ev.bind r1 Ev.now, r2⟩
    · by_cases h3 : t6 = 10
      · obtain ⟨R, r1, r2⟩ := rep_ex hb
        exact ⟨R, by simp only [if_neg h1, if_neg h2, if_pos h3]; exact Ev.bind r1 Ev.now, r2⟩
      · by_cases h4 : t6 = 20
        · obtain ⟨R, r1, r2⟩ := speeds_ex hb
          exact ⟨R, by simp only [if_neg h1, if_neg h2, if_neg h3, if_pos h4]; exact Ev.bind r1 Ev.now, r2⟩
        · obtain ⟨R, r1, r2⟩ := told_ex hb
          exact ⟨R, by simp only [if_neg h1, if_neg h2, if_neg h3, if_neg h4]; exact Ev.bind r1 Ev.now, r2⟩
theorem var_ex {b : List Int} (hb : Byt b) (hl : b.length ≤ 1000000) (item : Int) : ∃ R : Int × Option Int, Ev (fun k => cat048_variable.f k item b) R ∧ (R.2 = none → 0 ≤ R.1) := by
  unfold cat048_variable.f
  by_cases h1 : item = 3
  · obtain ⟨R, r1, r2⟩ := var_j1 hb hl item (decide (item = 3))
    exact ⟨R, by simp only [if_pos h1]; simpa [h1] using r1, r2⟩
  · by_cases h2 : item = 14
    · obtain ⟨R, r1, r2⟩ := var_j1 hb hl item (decide (item = 14))
      exact ⟨R, by simp only [if_neg h1, if_pos h2]; simpa [h2] using r1, r2⟩
    · obtain ⟨R, r1, r2⟩ := var_j1 hb hl item (decide (item = 16))
      exact ⟨R, by simp only [if_neg h1, if_neg h2]; exact r1, r2⟩
def sizes : List Int := [0, 2, 3, 0, 4, 2, 2, 0, 3, 6, 0, 2, 4, 4, 0, 4, 0, 2, 4, 2, 0, 2, 7, 1, 2, 1, 2, 0, 0]
theorem sizes_nn : ∀ i : Fin 29, 0 ≤ rd sizes (i.val : Int) := by decide +kernel
theorem size_j1 (k : Nat) (b : List Int) (n : Int) : cat048_Size.j1 k b 0 none n = some (if (b.length : Int) < n then (0, some 4) else (n, none)) := by
  unfold cat048_Size.j1; split <;> rfl
theorem size_ex {b : List Int} (hb : Byt b) (hl : b.length ≤ 1000000) (item : Int) : ∃ R : Int × Option Int, Ev (fun k => cat048_Size.f k item b) R ∧ (R.2 = none → 0 ≤ R.1 ∧ R.1 ≤ b.length ∧ (item = 4 → R.1 = 4)) := by
  by_cases h : (decide (item < 1) || decide (28 < item)) = true
  · refine ⟨(0, some 1), ?_, fun e => by cases e⟩
    unfold cat048_Size.f; simp only [if_pos h]; exact Ev.now
  · have hi : 1 ≤ item ∧ item ≤ 28 := by simp at h; omega
    have hs : 0 ≤ rd sizes item := by
      have := sizes_nn ⟨item.toNat, by omega⟩
      have e : ((item.toNat : Nat) : Int) = item := by omega
      simpa only [e] using this
    have hf : ∀ k, cat048_fixed.f k item = some (rd sizes item) := fun k => by unfold cat048_fixed.f; rw [if_pos (by omega)]; rfl
    have h4 : item = 4 → rd sizes item = 4 := fun e => by rw [e]; rfl
    by_cases h0 : rd sizes item = 0
    · obtain ⟨Q, q1, q2⟩ := var_ex hb hl item
      by_cases hq : Q.2.isSome = true
      · refine ⟨(0, Q.2), ?_, fun e => by simp only [] at e; rw [e] at hq; cases hq⟩
        unfold cat048_Size.f; simp only [if_neg h, hf, Option.bind_some, if_pos h0]
        refine Ev.bind q1 ?_
        simp only [if_pos hq]; exact Ev.now
      · have hn : Q.2 = none := by cases e : Q.2 with
          | none => rfl
          | some x => rw [e] at hq; exact absurd rfl hq
        refine ⟨if (b.length : Int) < Q.1 then (0, some 4) else (Q.1, none), ?_, ?_⟩
        · unfold cat048_Size.f; simp only [if_neg h, hf, Option.bind_some, if_pos h0]
          refine Ev.bind q1 ?_
          simp only [if_neg hq, size_j1]; exact Ev.now
        · intro e
          by_cases g : (b.length : Int) < Q.1
          · rw [if_pos g] at e; cases e
          · rw [if_neg g]; have := q2 hn; exact ⟨this, by simp only []; omega, fun e4 => by have := h4 e4; omega⟩
    · refine ⟨if (b.length : Int) < rd sizes item then (0, some 4) else (rd sizes item, none), ?_, ?_⟩
      · unfold cat048_Size.f; simp only [if_neg h, hf, Option.bind_some, if_neg h0, size_j1]; exact Ev.now
      · intro e
        by_cases g : (b.length : Int) < rd sizes item
        · rw [if_pos g] at e; cases e
        · rw [if_neg g]; exact ⟨hs, by simp only []; omega, fun e4 => h4 e4⟩
end Go.Proofs.YtlokgnjlnefbbaaDoor.Pure
