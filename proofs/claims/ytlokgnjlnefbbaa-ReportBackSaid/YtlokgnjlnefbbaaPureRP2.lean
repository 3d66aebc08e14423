/- Reports: read from bytes (cat062). -/
import Derived.Test.YtlokgnjlnefbbaaPureRP1
namespace Go.Proofs.Ytlokgnjlnefbbaa.Pure
open Go.RowKit Go.Proofs.YtlokgnjlnefbbaaK Go.Proofs.Ytlokgnjlnefbbaa.GRB
set_option linter.unusedVariables false
set_option linter.unusedSimpArgs false
set_option maxRecDepth 100000
def Byt (b : List Int) : Prop := ∀ x ∈ b, 0 ≤ x ∧ x ≤ 255
theorem bytes_inj : ∀ {a b : List Int}, Byt a → Byt b → (a.map fun x => UInt8.ofNat x.toNat) = (b.map fun x => UInt8.ofNat x.toNat) → a = b
  | [], [], _, _, _ => rfl
  | [], _ :: _, _, _, h => by simp at h
  | _ :: _, [], _, _, h => by simp at h
  | x :: a, y :: b, ha, hb, h => by
    simp only [List.map_cons, List.cons.injEq] at h
    have hx := ha x (by simp); have hy := hb y (by simp)
    have e : (UInt8.ofNat x.toNat).toNat = (UInt8.ofNat y.toNat).toNat := by rw [h.1]
    rw [UInt8.toNat_ofNat', UInt8.toNat_ofNat'] at e
    rw [show x = y by omega, bytes_inj (fun z hz => ha z (by simp [hz])) (fun z hz => hb z (by simp [hz])) h.2]
theorem strOf_bytes {a b : List Int} (ha : Byt a) (hb : Byt b) (h : strOf a = strOf b) : a = b := by
  unfold strOf at h
  have h := congrArg ByteArray.data h
  exact bytes_inj ha hb (by simpa using congrArg Array.toList h)
def un : Int → List Int → Int
  | n, [] => n
  | n, c :: l => un ((256 * n + c) % 18446744073709551616) l
theorem ofInt_emod (x : Int) : BitVec.ofInt 64 x = BitVec.ofNat 64 (x % 18446744073709551616).toNat := by
  apply BitVec.eq_of_toNat_eq
  rw [BitVec.toNat_ofInt, BitVec.toNat_ofNat]
  have : ((2 : Nat) ^ 64 : Nat) = 18446744073709551616 := by decide
  rw [this]
  omega
theorem w64_mod (x : Int) : w64 x % 18446744073709551616 = x % 18446744073709551616 := by
  simp only [w64, IntKind.wrap, IntKind.bits, IntKind.signed]; simp; omega
theorem w64_cong {x y : Int} (h : x % 18446744073709551616 = y % 18446744073709551616) : w64 x = w64 y := by
  simp only [w64, IntKind.wrap, IntKind.bits, IntKind.signed]; simp; omega
theorem ior_byte {n c : Int} (hc : 0 ≤ c ∧ c ≤ 255) : ior .i64 (w64 (w64 n * 256)) (w64 c) = w64 ((256 * n + c) % 18446744073709551616) := by
  have hx : w64 (w64 n * 256) % 18446744073709551616 = (256 * (n % 72057594037927936)) := by
    rw [w64_mod]; have := w64_mod n; omega
  have hq : 0 ≤ n % 72057594037927936 ∧ n % 72057594037927936 < 72057594037927936 := by omega
  unfold ior
  show w64 ((BitVec.ofInt 64 (w64 (w64 n * 256)) ||| BitVec.ofInt 64 (w64 c)).toNat : Int) = _
  rw [ofInt_emod (w64 (w64 n * 256)), hx, ofInt_emod (w64 c), w64_mod c]
  obtain ⟨q, hq'⟩ : ∃ q : Nat, (q : Int) = n % 72057594037927936 := ⟨(n % 72057594037927936).toNat, by omega⟩
  obtain ⟨b, hb'⟩ : ∃ b : Nat, (b : Int) = c := ⟨c.toNat, by omega⟩
  have e1 : (256 * (n % 72057594037927936)).toNat = 2 ^ 8 * q := by omega
  have e2 : (c % 18446744073709551616).toNat = b := by omega
  rw [e1, e2, BitVec.toNat_or, BitVec.toNat_ofNat, BitVec.toNat_ofNat]
  have p64 : ((2 : Nat) ^ 64 : Nat) = 18446744073709551616 := by decide
  rw [p64, Nat.mod_eq_of_lt (show 2 ^ 8 * q < 18446744073709551616 by omega), Nat.mod_eq_of_lt (show b < 18446744073709551616 by omega), ← Nat.two_pow_add_eq_or_of_lt (show b < 2 ^ 8 by omega) q]
  show w64 _ = _
  apply w64_cong
  push_cast
  omega
theorem num_step {r t10 : List Int} {m : Nat} (hb : Byt t10) (hl : t10.length ≤ 8) (hr : m ≤ r.length) : ∀ (d i : Nat) (n : Int), t10.length = i + d → Ev (fun k => (cat062_taker_number.hs k).l0 r (m : Int) (w64 n) t10 (t10.length : Int) (i : Int)) (w64 (un n (t10.drop i)), ⟨r.drop m⟩)
  | 0, i, n, e => by
    refine Ev.step (fun k => rfl) ?_
    simp only [cat062_taker_number.hs, cat062_taker_number.b0, if_neg (show ¬ (i : Int) < (t10.length : Int) by omega), if_pos (show (0 : Int) ≤ (m : Int) ∧ (m : Int) ≤ (r.length : Int) ∧ (r.length : Int) ≤ (r.length : Int) by omega)]
    rw [show cut r (m : Int) (r.length : Int) = r.drop m by unfold cut; simp, show t10.drop i = [] from List.drop_eq_nil_of_le (by omega), un]; exact Ev.now
  | d + 1, i, n, e => by
    have hi : i < t10.length := by omega
    have hc := hb _ (List.getElem_mem hi)
    refine Ev.step (fun k => rfl) ?_
    simp only [cat062_taker_number.hs, cat062_taker_number.b0, if_pos (show (i : Int) < (t10.length : Int) by omega), if_pos (show (0 : Int) ≤ (i : Int) ∧ (i : Int) < (t10.length : Int) by omega), rdg hi, ior_byte hc, wsc (show i < 1000000000 by omega)]
    rw [drc hi, un]
    exact num_step hb hl hr d (i + 1) _ (by omega)
theorem number_ev {r : List Int} (hb : Byt r) {m : Nat} (hm : m ≤ 8) (hr : m ≤ r.length) : Ev (fun k => cat062_taker_number.f k ⟨r⟩ (m : Int)) (w64 (un 0 (r.take m)), ⟨r.drop m⟩) := by
  unfold cat062_taker_number.f
  simp only [if_pos (show (0 : Int) ≤ 0 ∧ (0 : Int) ≤ (m : Int) ∧ (m : Int) ≤ (r.length : Int) by omega), show cut r 0 (m : Int) = r.take m by unfold cut; simp]
  have := num_step (r := r) (t10 := r.take m) (fun x hx => hb x (List.mem_of_mem_take hx)) (by simp; omega) hr (r.take m).length 0 0 (by omega)
  rw [List.drop_zero] at this
  exact this
theorem Byt.tail {x : Int} {l : List Int} (h : Byt (x :: l)) : Byt l := fun y hy => h y (by simp [hy])
theorem num1 {a : Int} {r : List Int} (hb : Byt (a :: r)) : Ev (fun k => cat062_taker_number.f k ⟨a :: r⟩ 1) (a, ⟨r⟩) := by
  have h := number_ev hb (m := 1) (by decide) (by simp)
  have ha := hb a (by simp)
  have e : w64 (un 0 ((a :: r).take 1)) = a := by
    show w64 ((256 * 0 + a) % 18446744073709551616) = a
    rw [wi (by omega)]; omega
  rw [e] at h; exact h
theorem num2 {a b : Int} {r : List Int} (hb : Byt (a :: b :: r)) : Ev (fun k => cat062_taker_number.f k ⟨a :: b :: r⟩ 2) (256 * a + b, ⟨r⟩) := by
  have h := number_ev hb (m := 2) (by decide) (by simp)
  have ha := hb a (by simp); have hb' := hb b (by simp)
  have e : w64 (un 0 ((a :: b :: r).take 2)) = 256 * a + b := by
    show w64 ((256 * ((256 * 0 + a) % 18446744073709551616) + b) % 18446744073709551616) = _
    rw [wi (by omega)]; omega
  rw [e] at h; exact h
theorem num3 {a b c : Int} {r : List Int} (hb : Byt (a :: b :: c :: r)) : Ev (fun k => cat062_taker_number.f k ⟨a :: b :: c :: r⟩ 3) (65536 * a + 256 * b + c, ⟨r⟩) := by
  have h := number_ev hb (m := 3) (by decide) (by simp)
  have ha := hb a (by simp); have hb' := hb b (by simp); have hc := hb c (by simp)
  have e : w64 (un 0 ((a :: b :: c :: r).take 3)) = 65536 * a + 256 * b + c := by
    show w64 ((256 * ((256 * ((256 * 0 + a) % 18446744073709551616) + b) % 18446744073709551616) + c) % 18446744073709551616) = _
    rw [wi (by omega)]; omega
  rw [e] at h; exact h
def sg2 (a b : Int) : Int := if 32768 ≤ 256 * a + b then 256 * a + b - 65536 else 256 * a + b
def sg3 (a b c : Int) : Int := if 8388608 ≤ 65536 * a + 256 * b + c then 65536 * a + 256 * b + c - 16777216 else 65536 * a + 256 * b + c
theorem sig2 {a b : Int} {r : List Int} (hb : Byt (a :: b :: r)) : Ev (fun k => cat062_taker_signed.f k ⟨a :: b :: r⟩ 2) (sg2 a b, ⟨r⟩) := by
  have ha := hb a (by simp); have hb' := hb b (by simp)
  unfold cat062_taker_signed.f
  refine Ev.bind (num2 hb) ?_
  simp only [show w64 (w64 (8 * 2) - 1) = 15 by decide +kernel, show w64 (1 * 2 ^ shn .i64 15) = 32768 by decide +kernel, show w64 (2 * 32768) = 65536 by decide +kernel, if_pos (show (0 : Int) ≤ 15 by omega)]
  unfold sg2
  by_cases h : 32768 ≤ 256 * a + b
  · simp only [if_pos h, wi (show -9223372036854775808 ≤ 256 * a + b - 65536 ∧ 256 * a + b - 65536 ≤ 9223372036854775807 by omega)]; exact Ev.now
  · simp only [if_neg h]; exact Ev.now
theorem sig3 {a b c : Int} {r : List Int} (hb : Byt (a :: b :: c :: r)) : Ev (fun k => cat062_taker_signed.f k ⟨a :: b :: c :: r⟩ 3) (sg3 a b c, ⟨r⟩) := by
  have ha := hb a (by simp); have hb' := hb b (by simp); have hc := hb c (by simp)
  unfold cat062_taker_signed.f
  refine Ev.bind (num3 hb) ?_
  simp only [show w64 (w64 (8 * 3) - 1) = 23 by decide +kernel, show w64 (1 * 2 ^ shn .i64 23) = 8388608 by decide +kernel, show w64 (2 * 8388608) = 16777216 by decide +kernel, if_pos (show (0 : Int) ≤ 23 by omega)]
  unfold sg3
  by_cases h : 8388608 ≤ 65536 * a + 256 * b + c
  · simp only [if_pos h, wi (show -9223372036854775808 ≤ 65536 * a + 256 * b + c - 16777216 ∧ 65536 * a + 256 * b + c - 16777216 ≤ 9223372036854775807 by omega)]; exact Ev.now
  · simp only [if_neg h]; exact Ev.now
theorem odd_byte : ∀ c : Fin 256, (iand .i64 (c.val : Int) 1 = 0) ↔ ((c.val : Int) % 2 = 0) := by decide +kernel
theorem odd_byte' {c : Int} (h : 0 ≤ c ∧ c ≤ 255) : (iand .i64 c 1 = 0) ↔ (c % 2 = 0) := by
  have := odd_byte ⟨c.toNat, by omega⟩
  have e : ((c.toNat : Nat) : Int) = c := by omega
  simpa only [e] using this
/-- What a record's bytes tell. -/
def drec (c0 c1 c2 c3 c4 c5 c6 c7 c8 c9 c10 c11 c12 c13 c14 c15 c16 c17 c18 c19 : Int) : Int × cat062_Report × Option Int :=
  if c0 = 151 ∧ c1 = 12 then (if c19 % 2 = 0 then (if 11059200 ≤ 65536 * c4 + 256 * c5 + c6 then (0, ⟨0, 0, 0, 0, 0, 0, 0⟩, some 5) else (256 * c2 + c3, ⟨256 * c17 + c18, 65536 * c4 + 256 * c5 + c6, sg3 c7 c8 c9, sg3 c10 c11 c12, sg2 c13 c14, sg2 c15 c16, c19 / 2⟩, none)) else (0, ⟨0, 0, 0, 0, 0, 0, 0⟩, some 3)) else (0, ⟨0, 0, 0, 0, 0, 0, 0⟩, some 3)
theorem w32_sg3 {a b c : Int} (ha : 0 ≤ a ∧ a ≤ 255) (hb : 0 ≤ b ∧ b ≤ 255) (hc : 0 ≤ c ∧ c ≤ 255) : w32 (sg3 a b c) = sg3 a b c := by
  have h : -8388608 ≤ sg3 a b c ∧ sg3 a b c ≤ 8388607 := by unfold sg3; split <;> omega
  simp only [w32, IntKind.wrap, IntKind.bits, IntKind.signed]; simp; omega
theorem w16_sg2 {a b : Int} (ha : 0 ≤ a ∧ a ≤ 255) (hb : 0 ≤ b ∧ b ≤ 255) : IntKind.i16.wrap (sg2 a b) = sg2 a b := by
  have h : -32768 ≤ sg2 a b ∧ sg2 a b ≤ 32767 := by unfold sg2; split <;> omega
  simp only [IntKind.wrap, IntKind.bits, IntKind.signed]; simp; omega
theorem t2_mod {a b : Int} (ha : 0 ≤ a ∧ a ≤ 255) (hb : 0 ≤ b ∧ b ≤ 255) : (256 * a + b) % 65536 = 256 * a + b := by omega
theorem half_mod {a : Int} (ha : 0 ≤ a ∧ a ≤ 255) : a / 2 % 256 = a / 2 := by omega
theorem rec_ev {c0 c1 c2 c3 c4 c5 c6 c7 c8 c9 c10 c11 c12 c13 c14 c15 c16 c17 c18 c19 : Int} {r : List Int} (hb : Byt (c0 :: c1 :: c2 :: c3 :: c4 :: c5 :: c6 :: c7 :: c8 :: c9 :: c10 :: c11 :: c12 :: c13 :: c14 :: c15 :: c16 :: c17 :: c18 :: c19 :: r)) :
    Ev (fun k => cat062_record.f k (c0 :: c1 :: c2 :: c3 :: c4 :: c5 :: c6 :: c7 :: c8 :: c9 :: c10 :: c11 :: c12 :: c13 :: c14 :: c15 :: c16 :: c17 :: c18 :: c19 :: r)) (drec c0 c1 c2 c3 c4 c5 c6 c7 c8 c9 c10 c11 c12 c13 c14 c15 c16 c17 c18 c19) := by
  unfold cat062_record.f
  refine Ev.bind head_ev ?_
  generalize hB : (c0 :: c1 :: c2 :: c3 :: c4 :: c5 :: c6 :: c7 :: c8 :: c9 :: c10 :: c11 :: c12 :: c13 :: c14 :: c15 :: c16 :: c17 :: c18 :: c19 :: r) = B at hb ⊢
  have hlen : (B.length : Int) = 20 + (r.length : Int) := by rw [← hB]; simp; omega
  have e1 : cut B 0 2 = [c0, c1] := by rw [← hB]; rfl
  have e2 : cut B 2 20 = [c2, c3, c4, c5, c6, c7, c8, c9, c10, c11, c12, c13, c14, c15, c16, c17, c18, c19] := by rw [← hB]; rfl
  have hl : (([151, 12] : List Int).length : Int) = 2 := rfl
  simp only [hl, if_neg (show ¬ (B.length : Int) < 20 by omega), if_pos (show (0 : Int) ≤ 0 ∧ (0 : Int) ≤ 2 ∧ (2 : Int) ≤ (B.length : Int) by omega), if_pos (show (0 : Int) ≤ 2 ∧ (2 : Int) ≤ 20 ∧ (20 : Int) ≤ (B.length : Int) by omega), e1, e2]
  subst hB
  have b0 := hb c0 (by simp); have b1 := hb c1 (by simp)
  unfold drec
  by_cases hh : c0 = 151 ∧ c1 = 12
  · obtain ⟨rfl, rfl⟩ := hh
    simp only [if_true, and_self]
    have h2 : Byt [c2, c3, c4, c5, c6, c7, c8, c9, c10, c11, c12, c13, c14, c15, c16, c17, c18, c19] := fun x hx => hb x (List.mem_cons_of_mem _ (List.mem_cons_of_mem _ (List.mem_append_left r hx)))
    have h4 := h2.tail.tail; have h7 := h4.tail.tail.tail; have h10 := h7.tail.tail.tail; have h13 := h10.tail.tail.tail; have h15 := h13.tail.tail; have h17 := h15.tail.tail; have h19 := h17.tail.tail
    refine Ev.bind (num2 h2) ?_
    refine Ev.bind (num3 h4) ?_
    refine Ev.bind (sig3 h7) ?_
    refine Ev.bind (sig3 h10) ?_
    refine Ev.bind (sig2 h13) ?_
    refine Ev.bind (sig2 h15) ?_
    refine Ev.bind (num2 h17) ?_
    refine Ev.bind (num1 h19) ?_
    have q19 := h19 c19 (by simp)
    by_cases o : c19 % 2 = 0
    · simp only [if_pos ((odd_byte' q19).2 o), if_pos o]
      by_cases t : 11059200 ≤ 65536 * c4 + 256 * c5 + c6
      · simp only [if_pos t]; exact Ev.now
      · have q2 := h2 c2 (by simp); have q3 := h2 c3 (by simp); have q17 := h17 c17 (by simp); have q18 := h17 c18 (by simp)
        simp only [if_neg t, w32_sg3 (h7 c7 (by simp)) (h7 c8 (by simp)) (h7 c9 (by simp)), w32_sg3 (h10 c10 (by simp)) (h10 c11 (by simp)) (h10 c12 (by simp)), w16_sg2 (h13 c13 (by simp)) (h13 c14 (by simp)), w16_sg2 (h15 c15 (by simp)) (h15 c16 (by simp)),
          t2_mod q2 q3, t2_mod q17 q18, half_mod q19]
        exact Ev.now
    · simp only [if_neg (fun x => o ((odd_byte' q19).1 x)), if_neg o]; exact Ev.now
  · have hne : ¬ strOf [c0, c1] = strOf [151, 12] := fun e => hh (by
      have := strOf_bytes (a := [c0, c1]) (b := [151, 12]) (fun x hx => by simp at hx; rcases hx with rfl | rfl; exact b0; exact b1) (fun x hx => by simp at hx; omega) e
      simpa using this)
    simp only [if_neg hne, if_neg hh]; exact Ev.now
theorem split20 {b : List Int} (h : 20 ≤ b.length) : ∃ c0 c1 c2 c3 c4 c5 c6 c7 c8 c9 c10 c11 c12 c13 c14 c15 c16 c17 c18 c19 : Int, ∃ r : List Int, b = c0 :: c1 :: c2 :: c3 :: c4 :: c5 :: c6 :: c7 :: c8 :: c9 :: c10 :: c11 :: c12 :: c13 :: c14 :: c15 :: c16 :: c17 :: c18 :: c19 :: r := by
  have e : ∀ i, i < 20 → b.drop i = rd b (i : Int) :: b.drop (i + 1) := fun i hi => by rw [drc (show i < b.length by omega), rdg]
  refine ⟨rd b ((0 : Nat) : Int), rd b ((1 : Nat) : Int), rd b ((2 : Nat) : Int), rd b ((3 : Nat) : Int), rd b ((4 : Nat) : Int), rd b ((5 : Nat) : Int), rd b ((6 : Nat) : Int), rd b ((7 : Nat) : Int), rd b ((8 : Nat) : Int), rd b ((9 : Nat) : Int), rd b ((10 : Nat) : Int), rd b ((11 : Nat) : Int), rd b ((12 : Nat) : Int), rd b ((13 : Nat) : Int), rd b ((14 : Nat) : Int), rd b ((15 : Nat) : Int), rd b ((16 : Nat) : Int), rd b ((17 : Nat) : Int), rd b ((18 : Nat) : Int), rd b ((19 : Nat) : Int), b.drop 20, ?_⟩
  rw [← e 19 (by omega), ← e 18 (by omega), ← e 17 (by omega), ← e 16 (by omega), ← e 15 (by omega), ← e 14 (by omega), ← e 13 (by omega), ← e 12 (by omega), ← e 11 (by omega), ← e 10 (by omega), ← e 9 (by omega), ← e 8 (by omega), ← e 7 (by omega), ← e 6 (by omega), ← e 5 (by omega), ← e 4 (by omega), ← e 3 (by omega), ← e 2 (by omega), ← e 1 (by omega), ← e 0 (by omega), List.drop_zero]
theorem be2_of {a b : Int} (ha : 0 ≤ a ∧ a ≤ 255) (hb : 0 ≤ b ∧ b ≤ 255) : be 2 (256 * a + b) = [a, b] := by
  rw [be2, show (256 * a + b) / 256 % 256 = a by omega, show (256 * a + b) % 256 = b by omega]
theorem be3_of {a b c : Int} (ha : 0 ≤ a ∧ a ≤ 255) (hb : 0 ≤ b ∧ b ≤ 255) (hc : 0 ≤ c ∧ c ≤ 255) : be 3 (65536 * a + 256 * b + c) = [a, b, c] := by
  rw [be3, show (65536 * a + 256 * b + c) / 65536 % 256 = a by omega, show (65536 * a + 256 * b + c) / 256 % 256 = b by omega, show (65536 * a + 256 * b + c) % 256 = c by omega]
theorem be2_sg {a b : Int} (ha : 0 ≤ a ∧ a ≤ 255) (hb : 0 ≤ b ∧ b ≤ 255) : be 2 (sg2 a b) = [a, b] := by
  have e1 : sg2 a b / 256 % 256 = a := by unfold sg2; split <;> omega
  have e2 : sg2 a b % 256 = b := by unfold sg2; split <;> omega
  rw [be2, e1, e2]
theorem be3_sg {a b c : Int} (ha : 0 ≤ a ∧ a ≤ 255) (hb : 0 ≤ b ∧ b ≤ 255) (hc : 0 ≤ c ∧ c ≤ 255) : be 3 (sg3 a b c) = [a, b, c] := by
  have e1 : sg3 a b c / 65536 % 256 = a := by unfold sg3; split <;> omega
  have e2 : sg3 a b c / 256 % 256 = b := by unfold sg3; split <;> omega
  have e3 : sg3 a b c % 256 = c := by unfold sg3; split <;> omega
  rw [be3, e1, e2, e3]
theorem sg2_of {n : Int} (h : -32768 ≤ n ∧ n ≤ 32767) : sg2 (n / 256 % 256) (n % 256) = n := by unfold sg2; split <;> omega
theorem sg3_of {n : Int} (h : -8388608 ≤ n ∧ n < 8388608) : sg3 (n / 65536 % 256) (n / 256 % 256) (n % 256) = n := by unfold sg3; split <;> omega
theorem sg2_range {a b : Int} (ha : 0 ≤ a ∧ a ≤ 255) (hb : 0 ≤ b ∧ b ≤ 255) : -32768 ≤ sg2 a b ∧ sg2 a b ≤ 32767 := by unfold sg2; split <;> omega
theorem sg3_range {a b c : Int} (ha : 0 ≤ a ∧ a ≤ 255) (hb : 0 ≤ b ∧ b ≤ 255) (hc : 0 ≤ c ∧ c ≤ 255) : -8388608 ≤ sg3 a b c ∧ sg3 a b c < 8388608 := by unfold sg3; split <;> omega
theorem t3_nonneg {a b c : Int} (ha : 0 ≤ a ∧ a ≤ 255) (hb : 0 ≤ b ∧ b ≤ 255) (hc : 0 ≤ c ∧ c ≤ 255) : 0 ≤ 65536 * a + 256 * b + c := by omega
theorem t2_range {a b : Int} (ha : 0 ≤ a ∧ a ≤ 255) (hb : 0 ≤ b ∧ b ≤ 255) : 0 ≤ 256 * a + b ∧ 256 * a + b ≤ 65535 := by omega
theorem half_st {a : Int} (ha : 0 ≤ a ∧ a ≤ 255) : 0 ≤ a / 2 ∧ a / 2 < 128 ∧ a / 2 ≤ 255 := by omega
theorem w24 {x : Int} (h : -8388608 ≤ x ∧ x < 8388608) : -2147483648 ≤ x ∧ x ≤ 2147483647 := by omega
theorem even_byte {a : Int} (ha : 0 ≤ a ∧ a ≤ 255) (o : a % 2 = 0) : a / 2 * 2 % 256 = a := by omega
theorem rec_any {b : List Int} (hb : Byt b) (h : 20 ≤ b.length) : ∃ R, Ev (fun k => cat062_record.f k b) R ∧ (R.2.2 = none → b = recB R.1 R.2.1 ++ b.drop 20 ∧ mayB R.2.1 = true ∧ Wr R.2.1 ∧ 0 ≤ R.1 ∧ R.1 ≤ 65535) := by
  obtain ⟨c0, c1, c2, c3, c4, c5, c6, c7, c8, c9, c10, c11, c12, c13, c14, c15, c16, c17, c18, c19, r, rfl⟩ := split20 h
  refine ⟨_, rec_ev hb, ?_⟩
  have q : ∀ x ∈ [c2, c3, c4, c5, c6, c7, c8, c9, c10, c11, c12, c13, c14, c15, c16, c17, c18, c19], 0 ≤ x ∧ x ≤ 255 := fun x hx => hb x (List.mem_cons_of_mem _ (List.mem_cons_of_mem _ (List.mem_append_left r hx)))
  have q2 := q c2 (by simp); have q3 := q c3 (by simp); have q4 := q c4 (by simp); have q5 := q c5 (by simp); have q6 := q c6 (by simp); have q7 := q c7 (by simp); have q8 := q c8 (by simp); have q9 := q c9 (by simp); have q10 := q c10 (by simp); have q11 := q c11 (by simp)
  have q12 := q c12 (by simp); have q13 := q c13 (by simp); have q14 := q c14 (by simp); have q15 := q c15 (by simp); have q16 := q c16 (by simp); have q17 := q c17 (by simp); have q18 := q c18 (by simp); have q19 := q c19 (by simp)
  clear q hb
  unfold drec
  by_cases hh : c0 = 151 ∧ c1 = 12
  · rw [if_pos hh]
    by_cases o : c19 % 2 = 0
    · rw [if_pos o]
      by_cases t : 11059200 ≤ 65536 * c4 + 256 * c5 + c6
      · rw [if_pos t]; intro e; cases e
      · rw [if_neg t]
        intro _
        have r3 := sg3_range q7 q8 q9; have r3' := sg3_range q10 q11 q12; have r2 := sg2_range q13 q14; have r2' := sg2_range q15 q16
        obtain ⟨rfl, rfl⟩ := hh
        refine ⟨?_, ?_, ⟨?_, ?_, ?_, ?_, ?_, ?_⟩, ?_, ?_⟩
        · simp only [recB, be2_of q2 q3, be3_of q4 q5 q6, be3_sg q7 q8 q9, be3_sg q10 q11 q12, be2_sg q13 q14, be2_sg q15 q16, be2_of q17 q18, even_byte q19 o]; rfl
        · exact may_iff.2 ⟨⟨t3_nonneg q4 q5 q6, Int.not_le.1 t⟩, r3, r3', (half_st q19).2.1⟩
        · exact t2_range q17 q18
        · exact w24 r3
        · exact w24 r3'
        · exact r2
        · exact r2'
        · exact ⟨(half_st q19).1, (half_st q19).2.2⟩
        · exact (t2_range q2 q3).1
        · exact (t2_range q2 q3).2
    · rw [if_neg o]; intro e; cases e
  · rw [if_neg hh]; intro e; cases e
theorem recB_list (s : Int) (r : cat062_Report) : recB s r = [151, 12, s / 256 % 256, s % 256, r.f_Time / 65536 % 256, r.f_Time / 256 % 256, r.f_Time % 256, r.f_X / 65536 % 256, r.f_X / 256 % 256, r.f_X % 256, r.f_Y / 65536 % 256, r.f_Y / 256 % 256, r.f_Y % 256, r.f_VX / 256 % 256, r.f_VX % 256, r.f_VY / 256 % 256, r.f_VY % 256, r.f_ID / 256 % 256, r.f_ID % 256, r.f_State * 2 % 256] := by
  unfold recB; rw [be2, be3, be3, be3, be2, be2, be2]; rfl
theorem Byt_be : ∀ (m : Nat) (n : Int), Byt (be m n)
  | 0, _ => fun x hx => by simp [be] at hx
  | m + 1, n => fun x hx => by
    rw [be] at hx
    rcases List.mem_cons.1 hx with rfl | hx
    · have : (0 : Int) < 256 := by decide
      have := Int.emod_nonneg (n / 2 ^ (8 * m)) (show (256 : Int) ≠ 0 by decide); have := Int.emod_lt_of_pos (n / 2 ^ (8 * m)) (show (0 : Int) < 256 by decide); omega
    · exact Byt_be m n x hx
theorem byt_app {a b : List Int} (ha : Byt a) (hb : Byt b) : Byt (a ++ b) := fun x hx => (List.mem_append.1 hx).elim (ha x) (hb x)
theorem Byt_rec (s : Int) (r : cat062_Report) : Byt (recB s r) := by
  unfold recB
  refine byt_app (byt_app (byt_app (byt_app (byt_app (byt_app (byt_app (byt_app ?_ (Byt_be _ _)) (Byt_be _ _)) (Byt_be _ _)) (Byt_be _ _)) (Byt_be _ _)) (Byt_be _ _)) (Byt_be _ _)) ?_
  · intro x hx; simp at hx; omega
  · intro x hx; simp at hx; omega
theorem Byt_recs (s : Int) : ∀ l : List cat062_Report, Byt (recs s l)
  | [] => fun x hx => by simp [recs] at hx
  | r :: l => by rw [recs_cons]; exact byt_app (Byt_rec s r) (Byt_recs s l)
theorem rec_of {s : Int} {r : cat062_Report} {rest : List Int} (hs : 0 ≤ s ∧ s ≤ 65535) (hm : mayB r = true) (hw : Wr r) (hr : Byt rest) : Ev (fun k => cat062_record.f k (recB s r ++ rest)) (s, r, none) := by
  have hb := byt_app (Byt_rec s r) hr
  rw [recB_list] at hb ⊢
  have h := rec_ev hb
  obtain ⟨m1, m2, m3, m4⟩ := may_iff.1 hm
  obtain ⟨w1, w2, w3, w4, w5, w6⟩ := hw
  have e : drec 151 12 (s / 256 % 256) (s % 256) (r.f_Time / 65536 % 256) (r.f_Time / 256 % 256) (r.f_Time % 256) (r.f_X / 65536 % 256) (r.f_X / 256 % 256) (r.f_X % 256) (r.f_Y / 65536 % 256) (r.f_Y / 256 % 256) (r.f_Y % 256) (r.f_VX / 256 % 256) (r.f_VX % 256) (r.f_VY / 256 % 256) (r.f_VY % 256) (r.f_ID / 256 % 256) (r.f_ID % 256) (r.f_State * 2 % 256) = (s, r, none) := by
    unfold drec
    rw [if_pos ⟨rfl, rfl⟩, if_pos (by omega), if_neg (by omega), sg3_of m2, sg3_of m3, sg2_of w4, sg2_of w5, show 256 * (s / 256 % 256) + s % 256 = s by omega, show 256 * (r.f_ID / 256 % 256) + r.f_ID % 256 = r.f_ID by omega, show 65536 * (r.f_Time / 65536 % 256) + 256 * (r.f_Time / 256 % 256) + r.f_Time % 256 = r.f_Time by omega, show r.f_State * 2 % 256 / 2 = r.f_State by omega]
  rw [e] at h; exact h
end Go.Proofs.Ytlokgnjlnefbbaa.Pure
