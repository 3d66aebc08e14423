/- Configs: what is encoded is read as it was. -/
import Derived.Test.YtfdedgoohjnhiaaDoorPureC3
namespace Go.Proofs.YtfdedgoohjnhiaaDoor.Pure
open Go.RowKit Go.Proofs.YtfdedgoohjnhiaaDoorK Go.Proofs.YtfdedgoohjnhiaaDoor.GCB
set_option linter.unusedVariables false
set_option linter.unusedSimpArgs false
set_option linter.unusedSectionVars false
set_option maxRecDepth 100000
def I64 (n : Int) : Prop := -9223372036854775808 ≤ n ∧ n ≤ 9223372036854775807
def E8 (L : List Int) : List Int := (L.map by8).flatten
theorem E8_cons (n : Int) (L : List Int) : E8 (n :: L) = by8 n ++ E8 L := rfl
theorem E8_len : ∀ L : List Int, (E8 L).length = 8 * L.length
  | [] => rfl
  | n :: L => by rw [E8_cons, List.length_append, E8_len L, List.length_cons]; show 8 + _ = _; omega
theorem by8_byt (n : Int) : Byt (by8 n) := fun x hx => by
  simp only [by8, List.mem_cons, List.not_mem_nil, or_false] at hx
  omega
theorem byt_app {a b : List Int} (ha : Byt a) (hb : Byt b) : Byt (a ++ b) := fun x hx => (List.mem_append.1 hx).elim (ha x) (hb x)
theorem E8_byt : ∀ L : List Int, Byt (E8 L)
  | [] => fun x hx => by cases hx
  | n :: L => byt_app (by8_byt n) (E8_byt L)
theorem E8_drop : ∀ (j : Nat) (L : List Int), (E8 L).drop (8 * j) = E8 (L.drop j)
  | 0, L => rfl
  | j + 1, [] => by simp [E8]
  | j + 1, n :: L => by
    rw [E8_cons, List.drop_succ_cons, show 8 * (j + 1) = (by8 n).length + 8 * j by show _ = 8 + _; omega, List.drop_append, List.drop_of_length_le (by omega), List.nil_append, Nat.add_sub_cancel_left, E8_drop j L]
theorem un_by8 (n : Int) : un 0 (by8 n) = n % 18446744073709551616 := by
  simp only [by8, un]
  omega
theorem nb_by8 {n : Int} (h : I64 n) (r : List Int) : nb (by8 n ++ r) = n := by
  unfold nb I64 at *
  have e : (by8 n ++ r).take 8 = by8 n := by rw [List.take_append_of_le_length (by show 8 ≤ 8; omega)]; rfl
  rw [e, un_by8, w64_congr (y := n) (by omega), w64_id h]
theorem NB_at {L X : List Int} {j : Nat} {x : Int} {r : List Int} (h : L.drop j = x :: r) (hx : I64 x) : NB (E8 L ++ X) j = x := by
  unfold NB
  have hj : j < L.length := by
    rcases Nat.lt_or_ge j L.length with h1 | h1
    · exact h1
    · rw [List.drop_eq_nil_of_le h1] at h; cases h
  rw [List.drop_append, E8_drop, h, E8_cons, List.append_assoc]
  exact nb_by8 hx _
theorem drop_tl {L : List Int} {j : Nat} {x : Int} {r : List Int} (h : L.drop j = x :: r) : L.drop (j + 1) = r := by
  rw [← List.drop_drop, h]; rfl
section
variable {L : List Int} (hL : ∀ x ∈ L, I64 x)
include hL
theorem i64_of {j : Nat} {x : Int} {r : List Int} (h : L.drop j = x :: r) : I64 x := hL x (List.mem_of_mem_drop (i := j) (by rw [h]; exact List.mem_cons_self ..))
theorem NB_of {j : Nat} {x : Int} {r : List Int} (h : L.drop j = x :: r) : NB (E8 L) j = x := by
  have := NB_at (X := []) h (i64_of hL h); rwa [List.append_nil] at this
theorem mods_of : ∀ (ms : List radomeref11_Model) (at_ : Nat) (r : List Int), L.drop at_ = ((ms.map gm).map mnum).flatten ++ r → modsAt (E8 L) ms.length at_ = ms
  | [], at_, r, h => rfl
  | m :: ms, at_, r, h => by
    have h0 : L.drop at_ = m.f_Kind :: m.f_Rate :: m.f_Noise :: (((ms.map gm).map mnum).flatten ++ r) := h
    have h1 := drop_tl h0
    have h2 := drop_tl h1
    have h3 := drop_tl h2
    rw [List.length_cons, modsAt, mods_of ms (at_ + 3) r h3]
    unfold mkM
    rw [NB_of hL h0, NB_of hL h1, NB_of hL h2]
theorem row_of : ∀ (x : List Int) (at_ : Nat) (r : List Int), L.drop at_ = x ++ r → rowAt (E8 L) x.length at_ = x
  | [], at_, r, h => rfl
  | a :: x, at_, r, h => by
    rw [List.length_cons, rowAt, NB_of hL h, row_of x (at_ + 1) r (drop_tl h)]
theorem rows_of {n : Nat} : ∀ (xs : List (List Int)) (at_ : Nat) (r : List Int), (∀ x ∈ xs, x.length = n) → L.drop at_ = xs.flatten ++ r → rowsAt (E8 L) n xs.length at_ = xs
  | [], at_, r, hn, h => rfl
  | x :: xs, at_, r, hn, h => by
    rw [List.flatten_cons, List.append_assoc] at h
    have hx := hn x (List.mem_cons_self ..)
    have h2 : L.drop (at_ + n) = xs.flatten ++ r := by rw [← List.drop_drop, h, ← hx, List.drop_left]
    rw [List.length_cons, rowsAt, rows_of xs (at_ + n) r (fun y hy => hn y (List.mem_cons_of_mem _ hy)) h2]
    have := row_of hL x at_ _ h
    rw [hx] at this; rw [this]
end
theorem NM_shape {c : radomeref30_Config} (h : cfgOk c = true) : c.f_Imm.f_Rows.length = c.f_Imm.f_Models.length ∧ (1 ≤ c.f_Imm.f_Models.length ∧ c.f_Imm.f_Models.length ≤ 4) ∧ (∀ x ∈ c.f_Imm.f_Rows, x.length = c.f_Imm.f_Models.length) := by
  simp only [cfgOk, immOk, Bool.and_eq_true, decide_eq_true_eq] at h
  exact ⟨by omega, by omega, fun x hx => mrOk_len h.1.2 x hx⟩
theorem mods_len : ∀ ms : List radomeref11_Model, (((ms.map gm).map mnum).flatten).length = 3 * ms.length
  | [] => rfl
  | m :: ms => by
    have := mods_len ms
    simp only [List.map_cons, List.flatten_cons, List.length_append, List.length_cons] at this ⊢
    rw [this]; show 3 + _ = _; omega
theorem rows_len {n : Nat} : ∀ xs : List (List Int), (∀ x ∈ xs, x.length = n) → xs.flatten.length = n * xs.length
  | [], _ => by simp
  | x :: xs, h => by
    rw [List.flatten_cons, List.length_append, rows_len xs (fun y hy => h y (List.mem_cons_of_mem _ hy)), h x (List.mem_cons_self ..), List.length_cons, Nat.mul_succ]; omega
section
variable {c : radomeref30_Config} (h : cfgOk c = true) (hL : ∀ x ∈ NM (gc c), I64 x)
include h hL
theorem NM_total : (NM (gc c)).length = 3 + 3 * c.f_Imm.f_Models.length + c.f_Imm.f_Models.length * c.f_Imm.f_Models.length + 14 := by
  obtain ⟨h1, h2, h3⟩ := NM_shape h
  have a := mods_len c.f_Imm.f_Models
  have b := rows_len _ h3
  unfold NM
  rw [List.length_append, List.length_append, List.length_append]
  show 3 + (((c.f_Imm.f_Models.map gm).map mnum).flatten).length + c.f_Imm.f_Rows.flatten.length + 14 = _
  rw [a, b, h1]
theorem drop_mods : (NM (gc c)).drop 3 = ((c.f_Imm.f_Models.map gm).map mnum).flatten ++ (c.f_Imm.f_Rows.flatten ++ tailN (gc c)) := by
  unfold NM; rw [List.append_assoc, List.append_assoc]; rfl
theorem drop_rows : (NM (gc c)).drop (3 + 3 * c.f_Imm.f_Models.length) = c.f_Imm.f_Rows.flatten ++ tailN (gc c) := by
  rw [← List.drop_drop, drop_mods h hL, ← mods_len c.f_Imm.f_Models, List.drop_left]
theorem drop_tail : (NM (gc c)).drop (3 + 3 * c.f_Imm.f_Models.length + c.f_Imm.f_Models.length * c.f_Imm.f_Models.length) = tailN (gc c) := by
  obtain ⟨h1, h2, h3⟩ := NM_shape h
  rw [← List.drop_drop, drop_rows h hL]
  have b := rows_len _ h3
  rw [h1] at b
  rw [← b, List.drop_left]
theorem cfgB_of (src : Int) : cfgB (E8 (NM (gc c))) c.f_Imm.f_Models.length src = { c with f_Source := src } := by
  obtain ⟨h1, h2, h3⟩ := NM_shape h
  have t0 := drop_tail h hL
  unfold tailN at t0
  simp only [List.cons_append, List.nil_append] at t0
  have t1 := drop_tl t0
  have t2 := drop_tl t1
  have t3 := drop_tl t2
  have t4 := drop_tl t3
  have t5 := drop_tl t4
  have t6 := drop_tl t5
  have t7 := drop_tl t6
  have t8 := drop_tl t7
  have t9 := drop_tl t8
  have t10 := drop_tl t9
  have t11 := drop_tl t10
  have t12 := drop_tl t11
  have s0 : (NM (gc c)).drop 0 = c.f_Sensor.f_Range :: c.f_Sensor.f_Turn :: ([(((c.f_Imm.f_Models.map gm).length : Nat) : Int)] ++ ((c.f_Imm.f_Models.map gm).map mnum).flatten ++ c.f_Imm.f_Rows.flatten ++ tailN (gc c)) := rfl
  have s1 := drop_tl s0
  have m := mods_of hL c.f_Imm.f_Models 3 _ (drop_mods h hL)
  have r := rows_of hL (n := c.f_Imm.f_Models.length) c.f_Imm.f_Rows _ _ h3 (drop_rows h hL)
  rw [h1] at r
  unfold cfgB
  simp only [m, r, NB_of hL s0, NB_of hL s1, NB_of hL t0, NB_of hL t1, NB_of hL t2, NB_of hL t3, NB_of hL t4, NB_of hL t5, NB_of hL t6, NB_of hL t7, NB_of hL t8, NB_of hL t9, NB_of hL t10, NB_of hL t11, NB_of hL t12]
  rfl
theorem NM_two (X : List Int) {L' : List Int} {m : Nat} (hm : 3 ≤ m) (hL' : L' = (NM (gc c)).take m) : NB (E8 L' ++ X) 2 = (c.f_Imm.f_Models.length : Int) := by
  obtain ⟨h1, h2, h3⟩ := NM_shape h
  subst hL'
  have s0 : NM (gc c) = c.f_Sensor.f_Range :: c.f_Sensor.f_Turn :: (((c.f_Imm.f_Models.map gm).length : Nat) : Int) :: (((c.f_Imm.f_Models.map gm).map mnum).flatten ++ c.f_Imm.f_Rows.flatten ++ tailN (gc c)) := by
    unfold NM; simp only [List.append_assoc]; rfl
  obtain ⟨q, rfl⟩ : ∃ q, m = q + 3 := ⟨m - 3, by omega⟩
  rw [s0, List.take_succ_cons, List.take_succ_cons, List.take_succ_cons, List.length_map]
  exact NB_at (j := 2) rfl ⟨by omega, by omega⟩
theorem decB_of (hs : 0 ≤ c.f_Source ∧ c.f_Source ≤ 65535) : decB (E8 (NM (gc c))) = (c, none) := by
  obtain ⟨h1, h2, h3⟩ := NM_shape h
  have hT := NM_total h hL
  have hlen := E8_len (NM (gc c))
  have two := NM_two h hL [] (L' := NM (gc c)) (m := (NM (gc c)).length) (by omega) (by rw [List.take_length])
  rw [List.append_nil] at two
  have t0 := drop_tail h hL
  have tl : (NM (gc c)).drop (3 + 3 * c.f_Imm.f_Models.length + c.f_Imm.f_Models.length * c.f_Imm.f_Models.length + 13) = [w64 c.f_Source] := by
    rw [← List.drop_drop, t0]; rfl
  have last := NB_of hL tl
  unfold decB
  rw [if_neg (by omega), if_neg (by rw [two]; omega)]
  simp only [two, Int.toNat_natCast]
  rw [if_neg (by omega), if_neg (by omega), cfgB_of h hL, cfgB_of h hL, Nat.add_sub_assoc (by omega : 1 ≤ 14), last, w64_id (by omega), if_pos ⟨h, hs.1, hs.2⟩, Int.emod_eq_of_lt hs.1 (by omega)]
theorem decB_more : (decB (E8 (NM (gc c)) ++ [0])).2 = some 2 := by
  obtain ⟨h1, h2, h3⟩ := NM_shape h
  have hT := NM_total h hL
  have hlen := E8_len (NM (gc c))
  have two := NM_two h hL [0] (L' := NM (gc c)) (m := (NM (gc c)).length) (by omega) (by rw [List.take_length])
  have hl2 : (E8 (NM (gc c)) ++ [0]).length = 8 * (NM (gc c)).length + 1 := by rw [List.length_append, hlen]; rfl
  unfold decB
  rw [if_neg (by omega), if_neg (by rw [two]; omega)]
  simp only [two, Int.toNat_natCast]
  rw [if_neg (by omega), if_pos (by omega)]
theorem decB_less : (decB ((E8 (NM (gc c))).take ((E8 (NM (gc c))).length - 1))).2 = some 4 := by
  obtain ⟨h1, h2, h3⟩ := NM_shape h
  have hT := NM_total h hL
  have hlen := E8_len (NM (gc c))
  obtain ⟨X, hX⟩ : ∃ X, (E8 (NM (gc c))).take ((E8 (NM (gc c))).length - 1) = E8 ((NM (gc c)).take 3) ++ X := by
    refine ⟨((E8 ((NM (gc c)).drop 3)).take ((E8 (NM (gc c))).length - 1 - 24)), ?_⟩
    have e : E8 (NM (gc c)) = E8 ((NM (gc c)).take 3) ++ E8 ((NM (gc c)).drop 3) := by
      unfold E8; rw [← List.flatten_append, ← List.map_append, List.take_append_drop]
    have e24 : (E8 ((NM (gc c)).take 3)).length = 24 := by rw [E8_len, List.length_take]; omega
    conv => lhs; rw [e]
    rw [List.take_append, e24, List.take_of_length_le (by rw [e24, List.length_append, e24]; rw [e, List.length_append, e24] at hlen; omega)]
    congr 2
  have two := NM_two h hL X (L' := (NM (gc c)).take 3) (m := 3) (by omega) rfl
  rw [← hX] at two
  have hl2 : ((E8 (NM (gc c))).take ((E8 (NM (gc c))).length - 1)).length = 8 * (NM (gc c)).length - 1 := by rw [List.length_take, hlen]; omega
  unfold decB
  rw [if_neg (by omega), if_neg (by rw [two]; omega)]
  simp only [two, Int.toNat_natCast]
  rw [if_pos (by omega)]
end
/-! ### strings of bytes -/
theorem E8_inj {L L' : List Int} (h : ∀ x ∈ L, I64 x) (h' : ∀ x ∈ L', I64 x) (e : E8 L = E8 L') : L = L' := by
  have hl : L.length = L'.length := by have a := E8_len L; have b := E8_len L'; rw [e] at a; omega
  refine List.ext_getElem hl fun j h1 h2 => ?_
  have a := NB_of h (drop_cons h1)
  have b := NB_of h' (drop_cons h2)
  rw [← a, ← b, e]
theorem strOf_inj {a b : List Int} (ha : Byt a) (hb : Byt b) (h : strOf a = strOf b) : a = b := by
  unfold strOf at h
  have h1 : (a.map fun x => UInt8.ofNat x.toNat) = b.map fun x => UInt8.ofNat x.toNat := by
    have := congrArg (fun z : ByteArray => z.data.toList) h
    simpa using this
  clear h
  induction a generalizing b with
  | nil => cases b with
    | nil => rfl
    | cons y b => cases h1
  | cons x a ih => cases b with
    | nil => cases h1
    | cons y b =>
      rw [List.map_cons, List.map_cons] at h1
      injection h1 with e1 e2
      have hx := ha x (List.mem_cons_self ..)
      have hy := hb y (List.mem_cons_self ..)
      have := congrArg UInt8.toNat e1
      rw [UInt8.toNat_ofNat', UInt8.toNat_ofNat'] at this
      rw [ih (fun z hz => ha z (List.mem_cons_of_mem _ hz)) (fun z hz => hb z (List.mem_cons_of_mem _ hz)) e2, show x = y by omega]
end Go.Proofs.YtfdedgoohjnhiaaDoor.Pure
