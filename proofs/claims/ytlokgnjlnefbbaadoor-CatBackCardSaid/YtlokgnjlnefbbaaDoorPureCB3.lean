/- Records of category 48: what is encoded is read as it was. -/
import Derived.Test.YtlokgnjlnefbbaaDoorPureCB2
namespace Go.Proofs.YtlokgnjlnefbbaaDoor.Pure
open Go.RowKit Go.Proofs.YtlokgnjlnefbbaaDoorK Go.Proofs.YtlokgnjlnefbbaaDoor.GCB
set_option linter.unusedVariables false
set_option linter.unusedSimpArgs false
set_option maxRecDepth 100000
theorem size_fix {item n : Int} (hi : 1 ≤ item ∧ item ≤ 28) (hs : rd sizes item = n) (hn : n ≠ 0) {b : List Int} (h : n ≤ b.length) : Ev (fun k => cat048_Size.f k item b) (n, none) := by
  have hf : ∀ k, cat048_fixed.f k item = some (rd sizes item) := fun k => by unfold cat048_fixed.f; rw [if_pos (by omega)]; rfl
  have h1 : (decide (item < 1) || decide (28 < item)) = false := by rw [Bool.eq_false_iff]; intro z; simp at z; omega
  unfold cat048_Size.f
  simp only [h1, Bool.false_eq_true, if_false, hf, Option.bind_some, hs, if_neg hn, size_j1, if_neg (show ¬ (b.length : Int) < n by omega)]
  exact Ev.now
theorem take1 {a b : Int} (ha : 0 ≤ a ∧ a ≤ 255) (hb : 0 ≤ b ∧ b ≤ 255) (r : cat048_Record) : Ev (fun k => cat048_Record_take.f k r 1 [a, b]) (none, ⟨256 * a + b, r.f_Plot, r.f_Is⟩) := by
  unfold cat048_Record_take.f
  simp only [if_true]
  refine Ev.bind (cnum2 ha hb) ?_
  rw [show (256 * a + b) % 65536 = 256 * a + b by omega]; exact Ev.now
theorem take2 {a b c : Int} (ha : 0 ≤ a ∧ a ≤ 255) (hb : 0 ≤ b ∧ b ≤ 255) (hc : 0 ≤ c ∧ c ≤ 255) (h : 65536 * a + 256 * b + c < 11059200) (r : cat048_Record) : Ev (fun k => cat048_Record_take.f k r 2 [a, b, c]) (none, ⟨r.f_Source, ⟨r.f_Plot.f_Range, r.f_Plot.f_Azimuth, 65536 * a + 256 * b + c⟩, r.f_Is⟩) := by
  unfold cat048_Record_take.f
  simp only [if_neg (show ¬ (2 : Int) = 1 by decide), if_true]
  refine Ev.bind (cnum3 ha hb hc) ?_
  simp only [if_neg (show ¬ 11059200 ≤ 65536 * a + 256 * b + c by omega)]
  exact Ev.bind (cnum3 ha hb hc) Ev.now
theorem take4 {a b c d : Int} (ha : 0 ≤ a ∧ a ≤ 255) (hb : 0 ≤ b ∧ b ≤ 255) (hc : 0 ≤ c ∧ c ≤ 255) (hd : 0 ≤ d ∧ d ≤ 255) (r : cat048_Record) : Ev (fun k => cat048_Record_take.f k r 4 [a, b, c, d]) (none, ⟨r.f_Source, ⟨(256 * a + b) * 7585792, 256 * c + d, r.f_Plot.f_Time⟩, r.f_Is⟩) := by
  unfold cat048_Record_take.f
  have e1 : cut [a, b, c, d] 0 2 = [a, b] := rfl
  have e2 : cut [a, b, c, d] 2 (([a, b, c, d] : List Int).length : Int) = [c, d] := rfl
  simp only [if_neg (show ¬ (4 : Int) = 1 by decide), if_neg (show ¬ (4 : Int) = 2 by decide), if_true, e1, e2, if_pos (show (0 : Int) ≤ 0 ∧ (0 : Int) ≤ 2 ∧ 2 ≤ (([a, b, c, d] : List Int).length : Int) from ⟨by decide, by decide, by simp⟩), if_pos (show (0 : Int) ≤ 2 ∧ (2 : Int) ≤ (([a, b, c, d] : List Int).length : Int) ∧ (([a, b, c, d] : List Int).length : Int) ≤ (([a, b, c, d] : List Int).length : Int) from ⟨by decide, by simp, Int.le_refl _⟩)]
  refine Ev.bind (cnum2 ha hb) (Ev.bind (cnum2 hc hd) ?_)
  rw [wi (show -9223372036854775808 ≤ (256 * a + b) * 7585792 ∧ (256 * a + b) * 7585792 ≤ 9223372036854775807 by omega), show (256 * c + d) % 65536 = 256 * c + d by omega]; exact Ev.now
theorem has1 : Ev (fun k => fspec_Has.f k ⟨[1, 2, 4], 1⟩ 1) true := let ⟨k, h⟩ := (⟨20, by decide +kernel⟩ : ∃ k, fspec_Has.f k ⟨[1, 2, 4], 1⟩ 1 = some true); Ev.of (fun k => fspec_Has.mono k _ _) h
theorem has2 : Ev (fun k => fspec_Has.f k ⟨[1, 2, 4], 1⟩ 2) true := let ⟨k, h⟩ := (⟨20, by decide +kernel⟩ : ∃ k, fspec_Has.f k ⟨[1, 2, 4], 1⟩ 2 = some true); Ev.of (fun k => fspec_Has.mono k _ _) h
theorem has4 : Ev (fun k => fspec_Has.f k ⟨[1, 2, 4], 1⟩ 4) true := let ⟨k, h⟩ := (⟨20, by decide +kernel⟩ : ∃ k, fspec_Has.f k ⟨[1, 2, 4], 1⟩ 4 = some true); Ev.of (fun k => fspec_Has.mono k _ _) h
theorem gdtt (x : Option Bool) (d : Bool) : gd true x d = x := rfl
theorem rec_chunk {s1 s0 t2 t1 t0 n1 n0 a1 a0 : Int} {rest : List Int} (hb : Byt (208 :: s1 :: s0 :: t2 :: t1 :: t0 :: n1 :: n0 :: a1 :: a0 :: rest)) (ht : 65536 * t2 + 256 * t1 + t0 < 11059200) :
    Ev (fun k => cat048_record.f k (208 :: s1 :: s0 :: t2 :: t1 :: t0 :: n1 :: n0 :: a1 :: a0 :: rest)) (⟨256 * s1 + s0, ⟨(256 * n1 + n0) * 7585792, 256 * a1 + a0, 65536 * t2 + 256 * t1 + t0⟩, true⟩, 10, none) := by
  have hd := decode_ev hb 4
  have b1 := hb s1 (by simp); have b2 := hb s0 (by simp); have b3 := hb t2 (by simp); have b4 := hb t1 (by simp); have b5 := hb t0 (by simp)
  have b6 := hb n1 (by simp); have b7 := hb n0 (by simp); have b8 := hb a1 (by simp); have b9 := hb a0 (by simp)
  generalize hB : (208 :: s1 :: s0 :: t2 :: t1 :: t0 :: n1 :: n0 :: a1 :: a0 :: rest) = B at hb hd ⊢
  have hlen : (B.length : Int) = 10 + rest.length := by rw [← hB]; simp; omega
  have e : decode B 4 = (⟨[1, 2, 4], 1⟩, none) := by
    unfold decode
    rw [if_pos (by omega), show (10 : Nat) = 9 + 1 from rfl, dec, if_neg (by decide), if_neg (by omega)]
    have r0 : rd B 0 = 208 := by rw [← hB]; rfl
    rw [r0, if_pos (by decide), if_neg (by decide +kernel)]
    rw [show its 208 0 7 = [1, 2, 4] by decide +kernel]; rfl
  rw [e] at hd
  have c1 : cut B 1 3 = [s1, s0] := by rw [← hB]; rfl
  have c2 : cut B 3 6 = [t2, t1, t0] := by rw [← hB]; rfl
  have c3 : cut B 6 10 = [n1, n0, a1, a0] := by rw [← hB]; rfl
  have cl : ∀ m : Nat, m ≤ 10 → ((cut B (m : Int) (B.length : Int)).length : Int) = B.length - m := fun m hm => by unfold cut; rw [Int.toNat_natCast, Int.toNat_natCast, List.length_drop, List.length_take]; omega
  have l1 : ((cut B 1 (B.length : Int)).length : Int) = B.length - 1 := cl 1 (by omega)
  have l3 : ((cut B 3 (B.length : Int)).length : Int) = B.length - 3 := cl 3 (by omega)
  have l6 : ((cut B 6 (B.length : Int)).length : Int) = B.length - 6 := cl 6 (by omega)
  have z1 : Ev (fun k => cat048_Size.f k 1 (cut B 1 (B.length : Int))) (2, none) := size_fix (n := 2) (by decide) rfl (by decide) (by omega)
  have z2 : Ev (fun k => cat048_Size.f k 2 (cut B 3 (B.length : Int))) (3, none) := size_fix (n := 3) (by decide) rfl (by decide) (by omega)
  have z4 : Ev (fun k => cat048_Size.f k 4 (cut B 6 (B.length : Int))) (4, none) := size_fix (n := 4) (by decide) rfl (by decide) (by omega)
  unfold cat048_record.f
  refine Ev.bind hd ?_
  simp only [if_neg (show ¬ (none : Option Int) = some 2 by simp), Option.isSome_none, Bool.false_eq_true, if_false]
  have i0 : (([1, 2, 4] : List Int).length : Int) = 3 := rfl
  have i1 : rd [1, 2, 4] (0 : Int) = (1 : Int) := rfl
  have i2 : rd [1, 2, 4] (1 : Int) = (2 : Int) := rfl
  have i4 : rd [1, 2, 4] (2 : Int) = (4 : Int) := rfl
  rw [i0]
  refine Ev.step (fun k => rfl) ?_
  simp only [cat048_record.hs, cat048_record.b0, i0, i1, if_pos (show (0 : Int) < 3 by decide), if_pos (show (0 : Int) ≤ 0 ∧ (0 : Int) < 3 by decide), if_pos (show (0 : Int) ≤ 1 ∧ (1 : Int) ≤ (B.length : Int) ∧ (B.length : Int) ≤ (B.length : Int) by omega)]
  refine Ev.bind z1 ?_
  simp only [Option.isSome_none, Bool.false_eq_true, if_false, show w64 (1 + 2) = 3 by decide +kernel, show w64 (0 + 1) = 1 by decide +kernel, if_pos (show (0 : Int) ≤ 1 ∧ (1 : Int) ≤ 3 ∧ (3 : Int) ≤ (B.length : Int) by omega), c1]
  refine Ev.bind (take1 b1 b2 _) ?_
  simp only [Option.isSome_none, Bool.false_eq_true, if_false]
  refine Ev.step (fun k => rfl) ?_
  simp only [cat048_record.hs, cat048_record.b0, i0, i2, if_pos (show (1 : Int) < 3 by decide), if_pos (show (0 : Int) ≤ 1 ∧ (1 : Int) < 3 by decide), if_pos (show (0 : Int) ≤ 3 ∧ (3 : Int) ≤ (B.length : Int) ∧ (B.length : Int) ≤ (B.length : Int) by omega)]
  refine Ev.bind z2 ?_
  simp only [Option.isSome_none, Bool.false_eq_true, if_false, show w64 (3 + 3) = 6 by decide +kernel, show w64 (1 + 1) = 2 by decide +kernel, if_pos (show (0 : Int) ≤ 3 ∧ (3 : Int) ≤ 6 ∧ (6 : Int) ≤ (B.length : Int) by omega), c2]
  refine Ev.bind (take2 b3 b4 b5 ht _) ?_
  simp only [Option.isSome_none, Bool.false_eq_true, if_false]
  refine Ev.step (fun k => rfl) ?_
  simp only [cat048_record.hs, cat048_record.b0, i0, i4, if_pos (show (2 : Int) < 3 by decide), if_pos (show (0 : Int) ≤ 2 ∧ (2 : Int) < 3 by decide), if_pos (show (0 : Int) ≤ 6 ∧ (6 : Int) ≤ (B.length : Int) ∧ (B.length : Int) ≤ (B.length : Int) by omega)]
  refine Ev.bind z4 ?_
  simp only [Option.isSome_none, Bool.false_eq_true, if_false, show w64 (6 + 4) = 10 by decide +kernel, show w64 (2 + 1) = 3 by decide +kernel, if_pos (show (0 : Int) ≤ 6 ∧ (6 : Int) ≤ 10 ∧ (10 : Int) ≤ (B.length : Int) by omega), c3]
  refine Ev.bind (take4 b6 b7 b8 b9 _) ?_
  simp only [Option.isSome_none, Bool.false_eq_true, if_false]
  refine Ev.step (fun k => rfl) ?_
  simp only [cat048_record.hs, cat048_record.b0, if_neg (show ¬ (3 : Int) < 3 by decide)]
  refine Ev.bind has1 ?_
  simp only [gdtt]
  refine Ev.bind has2 ?_
  simp only [Bool.and_self, gdtt]
  refine Ev.bind has4 ?_
  simp only [Bool.and_self]
  exact Ev.now
theorem byt_app {a b : List Int} (ha : Byt a) (hb : Byt b) : Byt (a ++ b) := fun x hx => (List.mem_append.1 hx).elim (ha x) (hb x)
theorem byt_rbk {r : radomeref28_Record} : Byt (rbk r) := fun x hx => by
  simp only [rbk, List.mem_cons, List.not_mem_nil, or_false] at hx
  omega
theorem byt_flatK : ∀ l : List radomeref28_Record, Byt (flatK l)
  | [] => fun x hx => by simp [flatK] at hx
  | r :: l => byt_app byt_rbk (byt_flatK l)
theorem rec_of28 {r : radomeref28_Record} (h : Wk r) (m : MayK r) {rest : List Int} (hr : Byt rest) : Ev (fun k => cat048_record.f k (rbk r ++ rest)) (gk r, 10, none) := by
  have hb := byt_app (byt_rbk (r := r)) hr
  obtain ⟨m0, ⟨t0, t1⟩, m1, m2, m3⟩ := m
  have hs := h.sw; have ha := h.aw
  have := rec_chunk (rest := rest) hb (by omega)
  have e : (⟨256 * (r.f_Source / 256 % 256) + r.f_Source % 256, ⟨(256 * (r.f_Plot.f_Range / 7585792 / 256 % 256) + r.f_Plot.f_Range / 7585792 % 256) * 7585792, 256 * (r.f_Plot.f_Azimuth / 256 % 256) + r.f_Plot.f_Azimuth % 256, 65536 * (r.f_Plot.f_Time / 65536 % 256) + 256 * (r.f_Plot.f_Time / 256 % 256) + r.f_Plot.f_Time % 256⟩, true⟩ : cat048_Record) = gk r := by
    unfold gk
    rw [show 256 * (r.f_Source / 256 % 256) + r.f_Source % 256 = r.f_Source by omega, show (256 * (r.f_Plot.f_Range / 7585792 / 256 % 256) + r.f_Plot.f_Range / 7585792 % 256) * 7585792 = r.f_Plot.f_Range by omega, show 256 * (r.f_Plot.f_Azimuth / 256 % 256) + r.f_Plot.f_Azimuth % 256 = r.f_Plot.f_Azimuth by omega, show 65536 * (r.f_Plot.f_Time / 65536 % 256) + 256 * (r.f_Plot.f_Time / 256 % 256) + r.f_Plot.f_Time % 256 = r.f_Plot.f_Time by omega, m0]
  rw [e] at this
  exact this
theorem flatK_len : ∀ l : List radomeref28_Record, (flatK l).length = 10 * l.length
  | [] => rfl
  | r :: l => by
    have := flatK_len l
    show (rbk r ++ flatK l).length = _
    rw [List.length_append, this, show (rbk r).length = 10 from rfl, List.length_cons]; omega
theorem cdec_of {b : List Int} (hL : b.length ≤ 1000000) : ∀ (l : List radomeref28_Record) (at_ : Nat) (out : List cat048_Record), (∀ r ∈ l, Wk r ∧ MayK r) → b.drop at_ = flatK l → at_ ≤ b.length → out.length + l.length ≤ 64 →
    Ev (fun k => (cat048_Decode.hs k).l0 b [] none out (at_ : Int)) (out ++ l.map gk, none)
  | [], at_, out, _, hd, ha, hl => by
    have : at_ = b.length := by
      have := congrArg List.length hd; rw [List.length_drop] at this; simp [flatK] at this; omega
    refine Ev.step (fun k => rfl) ?_
    simp only [List.length_nil] at hl
    simp only [cat048_Decode.hs, cat048_Decode.b0, if_neg (show ¬ (at_ : Int) < (b.length : Int) by omega), if_neg (show ¬ 64 < (out.length : Int) by omega), List.map_nil, List.append_nil]; exact Ev.now
  | r :: l, at_, out, hw, hd, ha, hl => by
    simp only [List.length_cons] at hl
    have hlen : b.length = at_ + 10 + 10 * l.length := by
      have := congrArg List.length hd; rw [List.length_drop, flatK_len, List.length_cons] at this; omega
    have hcut : cut b (at_ : Int) (b.length : Int) = rbk r ++ flatK l := by
      unfold cut; rw [Int.toNat_natCast, Int.toNat_natCast, List.take_length, hd]; rfl
    have m := hw r (by simp)
    refine Ev.step (fun k => rfl) ?_
    simp only [cat048_Decode.hs, cat048_Decode.b0, if_pos (show (at_ : Int) < (b.length : Int) by omega), if_pos (show (0 : Int) ≤ (at_ : Int) ∧ (at_ : Int) ≤ (b.length : Int) ∧ (b.length : Int) ≤ (b.length : Int) by omega), hcut]
    refine Ev.bind (rec_of28 m.1 m.2 (byt_flatK l)) ?_
    simp only [Option.isSome_none, Bool.false_eq_true, if_false, if_pos (show out.length + 1 ≤ 3518437208787 by omega), show w64 ((at_ : Int) + 10) = ((at_ + 10 : Nat) : Int) from wi (by omega)]
    have hd2 : b.drop (at_ + 10) = flatK l := by
      rw [← List.drop_drop, hd]; show (rbk r ++ flatK l).drop 10 = _
      rw [← show (rbk r).length = 10 from rfl, List.drop_left]
    have := cdec_of hL l (at_ + 10) (out ++ [gk r]) (fun x hx => hw x (by simp [hx])) hd2 (by omega) (by simp; omega)
    rw [List.append_assoc] at this
    exact this
def encB (l : List radomeref28_Record) : List Int := 48 :: ((3 + 10 * (l.length : Int)) / 256 % 256) :: ((3 + 10 * (l.length : Int)) % 256) :: flatK l
theorem encB_len (l : List radomeref28_Record) : ((encB l).length : Int) = 3 + 10 * (l.length : Int) := by
  simp only [encB, List.length_cons, flatK_len]; omega
theorem cdecode_of {l : List radomeref28_Record} (hw : ∀ r ∈ l, Wk r ∧ MayK r) (hl : 1 ≤ l.length ∧ l.length ≤ 64) : Ev (fun k => cat048_Decode.f k (encB l)) (l.map gk, none) := by
  have hlen := encB_len l
  have hf := framed48 (x := 48) (y := (3 + 10 * (l.length : Int)) / 256 % 256) (z := (3 + 10 * (l.length : Int)) % 256) (r := flatK l) (by decide) (by omega) (by omega)
  rw [show ((48 :: ((3 + 10 * (l.length : Int)) / 256 % 256) :: ((3 + 10 * (l.length : Int)) % 256) :: flatK l).length : Int) = 3 + 10 * (l.length : Int) from hlen, if_neg (by omega), if_pos ⟨rfl, by omega, by omega⟩] at hf
  unfold cat048_Decode.f
  refine Ev.bind hf ?_
  simp only [Option.isSome_none, Bool.false_eq_true, if_false]
  exact cdec_of (b := encB l) (by omega) l 3 [] hw rfl (by omega) (by simpa using hl.2)
/-- With another length it is told. -/
theorem cdecode_bad {x y z : Int} {r : List Int} (hx : 0 ≤ x ∧ x ≤ 255) (hy : 0 ≤ y ∧ y ≤ 255) (hz : 0 ≤ z ∧ z ≤ 255) (h : 256 * y + z ≠ ((x :: y :: z :: r).length : Int)) : ∃ R : List cat048_Record × Option Int, Ev (fun k => cat048_Decode.f k (x :: y :: z :: r)) R ∧ R.2.isNone = false := by
  have hf := framed48 hx hy hz (r := r)
  rw [if_neg (show ¬ (x = 48 ∧ 256 * y + z = ((x :: y :: z :: r).length : Int) ∧ ((x :: y :: z :: r).length : Int) ≠ 3) from fun g => h g.2.1)] at hf
  generalize hF : (if 16384 < ((x :: y :: z :: r).length : Int) then some 2 else some (3 : Int)) = F at hf
  have hs : F.isSome = true := by rw [← hF]; split <;> rfl
  refine ⟨([], F), ?_, by cases F <;> simp_all⟩
  unfold cat048_Decode.f
  refine Ev.bind hf ?_
  simp only [if_pos hs]; exact Ev.now
theorem cdecode_short {b : List Int} (h : b.length < 3) : ∃ R : List cat048_Record × Option Int, Ev (fun k => cat048_Decode.f k b) R ∧ R.2.isNone = false := by
  refine ⟨([], some 4), ?_, rfl⟩
  unfold cat048_Decode.f
  simp only [framed48_short _ h, Option.bind_some, Option.isSome_some, if_true]; exact Ev.now
theorem cdecode_cut {l : List radomeref28_Record} (hl : l.length ≤ 64) {m : Nat} (hm : m < (encB l).length) : ∃ R : List cat048_Record × Option Int, Ev (fun k => cat048_Decode.f k ((encB l).take m)) R ∧ R.2.isNone = false := by
  have hlen := encB_len l
  by_cases h3 : m < 3
  · exact cdecode_short (by rw [List.length_take]; omega)
  · obtain ⟨q, rfl⟩ : ∃ q, m = q + 1 + 1 + 1 := ⟨m - 3, by omega⟩
    have e : (encB l).take (q + 1 + 1 + 1) = 48 :: ((3 + 10 * (l.length : Int)) / 256 % 256) :: ((3 + 10 * (l.length : Int)) % 256) :: (flatK l).take q := rfl
    rw [e]
    refine cdecode_bad (by decide) (by omega) (by omega) ?_
    have e2 : ((48 :: ((3 + 10 * (l.length : Int)) / 256 % 256) :: ((3 + 10 * (l.length : Int)) % 256) :: (flatK l).take q).length : Int) = q + 3 := by
      rw [← e, List.length_take]; omega
    rw [e2]; omega
theorem cdecode_more {l : List radomeref28_Record} (hl : l.length ≤ 64) : ∃ R : List cat048_Record × Option Int, Ev (fun k => cat048_Decode.f k (encB l ++ [0])) R ∧ R.2.isNone = false := by
  have hlen := encB_len l
  have e : encB l ++ [0] = 48 :: ((3 + 10 * (l.length : Int)) / 256 % 256) :: ((3 + 10 * (l.length : Int)) % 256) :: (flatK l ++ [0]) := rfl
  have e2 : ((48 :: ((3 + 10 * (l.length : Int)) / 256 % 256) :: ((3 + 10 * (l.length : Int)) % 256) :: (flatK l ++ [0])).length : Int) = 4 + 10 * (l.length : Int) := by
    rw [← e, List.length_append]; simp; omega
  rw [e]
  exact cdecode_bad (by decide) (by omega) (by omega) (by rw [e2]; omega)
end Go.Proofs.YtlokgnjlnefbbaaDoor.Pure
