/- Reports: their bytes (cat062). -/
import Derived.Test.YtlokgnjlnefbbaaDoorGRWp
namespace Go.Proofs.YtlokgnjlnefbbaaDoor.Pure
open Go.RowKit Go.Proofs.YtlokgnjlnefbbaaDoorK Go.Proofs.YtlokgnjlnefbbaaDoor.GRW
set_option linter.unusedVariables false
set_option linter.unusedSimpArgs false
set_option maxRecDepth 100000
theorem wi {x : Int} (h : -9223372036854775808 ≤ x ∧ x ≤ 9223372036854775807) : w64 x = x := by
  simp only [w64, IntKind.wrap, IntKind.bits, IntKind.signed]; simp; omega
theorem wsc {i : Nat} (h : i < 1000000000) : w64 ((i : Int) + 1) = ((i + 1 : Nat) : Int) := wi (by omega)
theorem rdg {α : Type} [Inhabited α] {L : List α} {i : Nat} (h : i < L.length) : rd L (i : Int) = L[i] := by
  unfold rd; rw [Int.toNat_natCast, List.getD_eq_getElem?_getD, List.getElem?_eq_getElem h]; rfl
theorem drc {α : Type} {L : List α} {i : Nat} (h : i < L.length) : L.drop i = L[i] :: L.drop (i + 1) := List.drop_eq_getElem_cons h
theorem shi {m : Nat} (h : m ≤ 64) : shn .i64 (m : Int) = m := by simp only [shn, IntKind.bits]; omega
theorem gdt' {α : Type} (x : Option α) (d : α) : gd true x d = x := rfl
/-- A number as so many bytes, the highest first. -/
def be : Nat → Int → List Int
  | 0, _ => []
  | m + 1, n => (n / 2 ^ (8 * m) % 256) :: be m n
theorem be_len : ∀ (m : Nat) (n : Int), (be m n).length = m
  | 0, _ => rfl
  | m + 1, n => by rw [be, List.length_cons, be_len m n]
theorem be2 (n : Int) : be 2 n = [n / 256 % 256, n % 256] := by
  simp only [be, show ((2 : Int) ^ (8 * 1)) = 256 from rfl, show ((2 : Int) ^ (8 * 0)) = 1 from rfl, Int.ediv_one]
theorem be3 (n : Int) : be 3 n = [n / 65536 % 256, n / 256 % 256, n % 256] := by
  simp only [be, show ((2 : Int) ^ (8 * 2)) = 65536 from rfl, show ((2 : Int) ^ (8 * 1)) = 256 from rfl, show ((2 : Int) ^ (8 * 0)) = 1 from rfl, Int.ediv_one]
theorem lay_l0 {n : Int} : ∀ (m : Nat) (b : List Int), m ≤ 8 → b.length + m ≤ 1000000 → Ev (fun k => (cat062_lay.hs k).l0 b n ((m : Int) - 1)) (b ++ be m n)
  | 0, b, _, _ => by
    refine Ev.step (fun k => rfl) ?_
    simp only [cat062_lay.hs, cat062_lay.b0, if_neg (show ¬ (0 : Int) ≤ ((0 : Nat) : Int) - 1 by omega), be, List.append_nil]; exact Ev.now
  | m + 1, b, hm, hb => by
    refine Ev.step (fun k => rfl) ?_
    have e : ((m + 1 : Nat) : Int) - 1 = (m : Int) := by omega
    have e8 : w64 (8 * (m : Int)) = ((8 * m : Nat) : Int) := by rw [wi (by omega)]; omega
    simp only [cat062_lay.hs, cat062_lay.b0, e, e8, if_pos (show (0 : Int) ≤ (m : Int) by omega), if_pos (show (0 : Int) ≤ ((8 * m : Nat) : Int) by omega), if_pos (show b.length + 1 ≤ 140737488355200 by omega), shi (show 8 * m ≤ 64 by omega), wi (show -9223372036854775808 ≤ (m : Int) - 1 ∧ (m : Int) - 1 ≤ 9223372036854775807 by omega)]
    have := lay_l0 (n := n) m (b ++ [n / 2 ^ (8 * m) % 256]) (by omega) (by simp; omega)
    rw [List.append_assoc] at this
    exact this
theorem lay_ev {n : Int} {b : List Int} {m : Nat} (hm : m ≤ 8) (hb : b.length + m ≤ 1000000) : Ev (fun k => cat062_lay.f k b n (m : Int)) (b ++ be m n) := by
  unfold cat062_lay.f
  simp only [wi (show -9223372036854775808 ≤ (m : Int) - 1 ∧ (m : Int) - 1 ≤ 9223372036854775807 by omega)]
  exact lay_l0 m b hm hb
theorem head_ev : Ev (fun k => cat062_head.f k) [151, 12] :=
  let ⟨k, h⟩ := (⟨60, by decide +kernel⟩ : ∃ k, cat062_head.f k = some [151, 12]); Ev.of (fun k => cat062_head.mono k) h
def mayB (r : cat062_Report) : Bool := ((((((decide (0 ≤ r.f_Time)) && (decide (r.f_Time < 11059200))) && (decide ((-8388608) ≤ r.f_X))) && (decide (r.f_X < 8388608))) && (decide ((-8388608) ≤ r.f_Y))) && (decide (r.f_Y < 8388608))) && (decide (r.f_State < 128))
theorem may_eq (k : Nat) (r : cat062_Report) : cat062_Report_may.f k r = some (mayB r) := rfl
theorem may_iff {r : cat062_Report} : mayB r = true ↔ (0 ≤ r.f_Time ∧ r.f_Time < 11059200) ∧ (-8388608 ≤ r.f_X ∧ r.f_X < 8388608) ∧ (-8388608 ≤ r.f_Y ∧ r.f_Y < 8388608) ∧ r.f_State < 128 := by
  simp only [mayB, Bool.and_eq_true, decide_eq_true_eq]
  constructor <;> intro h <;> omega
structure Wr (r : cat062_Report) : Prop where
  id : 0 ≤ r.f_ID ∧ r.f_ID ≤ 65535
  x : -2147483648 ≤ r.f_X ∧ r.f_X ≤ 2147483647
  y : -2147483648 ≤ r.f_Y ∧ r.f_Y ≤ 2147483647
  vx : -32768 ≤ r.f_VX ∧ r.f_VX ≤ 32767
  vy : -32768 ≤ r.f_VY ∧ r.f_VY ≤ 32767
  st : 0 ≤ r.f_State ∧ r.f_State ≤ 255
/-- A record. -/
def recB (s : Int) (r : cat062_Report) : List Int := [151, 12] ++ be 2 s ++ be 3 r.f_Time ++ be 3 r.f_X ++ be 3 r.f_Y ++ be 2 r.f_VX ++ be 2 r.f_VY ++ be 2 r.f_ID ++ [r.f_State * 2 % 256]
theorem recB_len (s : Int) (r : cat062_Report) : (recB s r).length = 20 := by simp [recB, be_len]
def recs (s : Int) (l : List cat062_Report) : List Int := (l.map (recB s)).flatten
theorem recs_cons (s : Int) (r : cat062_Report) (l : List cat062_Report) : recs s (r :: l) = recB s r ++ recs s l := rfl
theorem enc_l1 {s : Int} (hs : 0 ≤ s ∧ s ≤ 65535) {l : List cat062_Report} (hw : ∀ r ∈ l, Wr r) (hl : l.length ≤ 512) {t4 : List Int} {t5 : Option Int} : ∀ (n i : Nat) (out : List Int), l.length = i + n → out.length = 3 + 20 * i →
    Ev (fun k => (cat062_Encode.hs k).l1 s t4 t5 out l (l.length : Int) (i : Int)) (out ++ recs s (l.drop i), none)
  | 0, i, out, e, ho => by
    refine Ev.step (fun k => rfl) ?_
    simp only [cat062_Encode.hs, cat062_Encode.b1, if_neg (show ¬ (i : Int) < (l.length : Int) by omega)]
    rw [List.drop_eq_nil_of_le (by omega)]
    rw [show recs s [] = [] from rfl, List.append_nil]; exact Ev.now
  | n + 1, i, out, e, ho => by
    have hi : i < l.length := by omega
    have w := hw _ (List.getElem_mem hi)
    obtain ⟨w1, w2, w3, w4, w5, w6⟩ := w
    refine Ev.step (fun k => rfl) ?_
    simp only [cat062_Encode.hs, cat062_Encode.b1, if_pos (show (i : Int) < (l.length : Int) by omega), if_pos (show (0 : Int) ≤ (i : Int) ∧ (i : Int) < (l.length : Int) by omega), rdg hi, wsc (show i < 1000000000 by omega),
      wi (show -9223372036854775808 ≤ s ∧ s ≤ 9223372036854775807 by omega), wi (show -9223372036854775808 ≤ l[i].f_X ∧ l[i].f_X ≤ 9223372036854775807 by omega), wi (show -9223372036854775808 ≤ l[i].f_Y ∧ l[i].f_Y ≤ 9223372036854775807 by omega),
      wi (show -9223372036854775808 ≤ l[i].f_VX ∧ l[i].f_VX ≤ 9223372036854775807 by omega), wi (show -9223372036854775808 ≤ l[i].f_VY ∧ l[i].f_VY ≤ 9223372036854775807 by omega), wi (show -9223372036854775808 ≤ l[i].f_ID ∧ l[i].f_ID ≤ 9223372036854775807 by omega)]
    refine Ev.bind head_ev ?_
    simp only [if_pos (show out.length + [(151 : Int), 12].length ≤ 140737488355200 by simp; omega)]
    refine Ev.bind (lay_ev (m := 2) (by omega) (by simp; omega)) ?_
    refine Ev.bind (lay_ev (m := 3) (by omega) (by simp [be_len]; omega)) ?_
    refine Ev.bind (lay_ev (m := 3) (by omega) (by simp [be_len]; omega)) ?_
    refine Ev.bind (lay_ev (m := 3) (by omega) (by simp [be_len]; omega)) ?_
    refine Ev.bind (lay_ev (m := 2) (by omega) (by simp [be_len]; omega)) ?_
    refine Ev.bind (lay_ev (m := 2) (by omega) (by simp [be_len]; omega)) ?_
    refine Ev.bind (lay_ev (m := 2) (by omega) (by simp [be_len]; omega)) ?_
    rw [drc hi, recs_cons, ← List.append_assoc]
    have e : out ++ recB s l[i] = out ++ [151, 12] ++ be 2 s ++ be 3 l[i].f_Time ++ be 3 l[i].f_X ++ be 3 l[i].f_Y ++ be 2 l[i].f_VX ++ be 2 l[i].f_VY ++ be 2 l[i].f_ID ++ [l[i].f_State * 2 % 256] := by simp only [recB, List.append_assoc]
    rw [e]
    have hlen : (out ++ [151, 12] ++ be 2 s ++ be 3 l[i].f_Time ++ be 3 l[i].f_X ++ be 3 l[i].f_Y ++ be 2 l[i].f_VX ++ be 2 l[i].f_VY ++ be 2 l[i].f_ID).length = out.length + 19 := by simp [be_len]
    simp only [if_pos (show (out ++ [151, 12] ++ be 2 s ++ be 3 l[i].f_Time ++ be 3 l[i].f_X ++ be 3 l[i].f_Y ++ be 2 l[i].f_VX ++ be 2 l[i].f_VY ++ be 2 l[i].f_ID).length + 1 ≤ 140737488355200 by omega)]
    exact enc_l1 hs hw hl n (i + 1) _ (by omega) (by rw [List.length_append, hlen]; simp; omega)
/-- What the program's encoder gives. -/
def encR (s : Int) (l : List cat062_Report) : List Int × Option Int := if l.all mayB = true then (if 512 < (l.length : Int) then ([], some 2) else (62 :: (be 2 (3 + 20 * (l.length : Int)) ++ recs s l), none)) else ([], some 1)
theorem enc_l0 {s : Int} (hs : 0 ≤ s ∧ s ≤ 65535) {l : List cat062_Report} (hw : ∀ r ∈ l, Wr r) (hl : l.length ≤ 1000000) : ∀ (n i : Nat), l.length = i + n →
    Ev (fun k => (cat062_Encode.hs k).l0 s l [] none l (l.length : Int) (i : Int)) (if (l.drop i).all mayB = true then (if 512 < (l.length : Int) then ([], some 2) else (62 :: (be 2 (3 + 20 * (l.length : Int)) ++ recs s l), none)) else ([], some 1))
  | 0, i, e => by
    refine Ev.step (fun k => rfl) ?_
    simp only [cat062_Encode.hs, cat062_Encode.b0, if_neg (show ¬ (i : Int) < (l.length : Int) by omega)]
    rw [List.drop_eq_nil_of_le (by omega), if_pos (show ([] : List cat062_Report).all mayB = true from rfl)]
    by_cases h : 512 < (l.length : Int)
    · simp only [if_pos h]; exact Ev.now
    · simp only [if_neg h, wi (show -9223372036854775808 ≤ 20 * (l.length : Int) ∧ 20 * (l.length : Int) ≤ 9223372036854775807 by omega), wi (show -9223372036854775808 ≤ 3 + 20 * (l.length : Int) ∧ 3 + 20 * (l.length : Int) ≤ 9223372036854775807 by omega)]
      refine Ev.bind (lay_ev (m := 2) (by omega) (by simp)) ?_
      have := enc_l1 (t4 := []) (t5 := none) hs hw (show l.length ≤ 512 by omega) l.length 0 ([62] ++ be 2 (3 + 20 * (l.length : Int))) (by omega) (by simp [be_len])
      rw [List.drop_zero] at this
      exact this
  | n + 1, i, e => by
    have hi : i < l.length := by omega
    refine Ev.step (fun k => rfl) ?_
    simp only [cat062_Encode.hs, cat062_Encode.b0, if_pos (show (i : Int) < (l.length : Int) by omega), if_pos (show (0 : Int) ≤ (i : Int) ∧ (i : Int) < (l.length : Int) by omega), rdg hi, wsc (show i < 1000000000 by omega), may_eq, Option.bind_some]
    rw [drc hi, List.all_cons]
    by_cases h : mayB l[i] = true
    · simp only [h, Bool.not_true, Bool.true_and, if_neg (show ¬ false = true by decide)]
      exact enc_l0 hs hw hl n (i + 1) (by omega)
    · rw [Bool.not_eq_true] at h
      simp only [h, Bool.not_false, Bool.false_and, if_true, if_neg (show ¬ false = true by decide)]; exact Ev.now
theorem enc_ev {s : Int} (hs : 0 ≤ s ∧ s ≤ 65535) {l : List cat062_Report} (hw : ∀ r ∈ l, Wr r) (hl : l.length ≤ 1000000) : Ev (fun k => cat062_Encode.f k s l) (encR s l) := by
  unfold cat062_Encode.f encR
  exact enc_l0 hs hw hl l.length 0 (by omega)
/-! ### what the law package gives -/
def gr (r : radomeref29_Report) : cat062_Report := ⟨r.f_ID, r.f_Time, r.f_X, r.f_Y, r.f_VX, r.f_VY, r.f_State⟩
theorem gv_l0 {l : List radomeref29_Report} (hl : l.length ≤ 600) : ∀ (n i : Nat) (out : List cat062_Report), l.length = i + n → out.length = i → Ev (fun k => (radomelaw29_giveReports.hs k).l0 l out (i : Int)) (out ++ (l.drop i).map gr)
  | 0, i, out, e, ho => by
    refine Ev.step (fun k => rfl) ?_
    simp only [radomelaw29_giveReports.hs, radomelaw29_giveReports.b0, if_neg (show ¬ (i : Int) < (l.length : Int) by omega)]
    rw [List.drop_eq_nil_of_le (by omega), List.map_nil, List.append_nil]; exact Ev.now
  | n + 1, i, out, e, ho => by
    have hi : i < l.length := by omega
    refine Ev.step (fun k => rfl) ?_
    simp only [radomelaw29_giveReports.hs, radomelaw29_giveReports.b0, if_pos (show (i : Int) < (l.length : Int) by omega), if_pos (show (0 : Int) ≤ (i : Int) ∧ (i : Int) < (l.length : Int) by omega), rdg hi, wsc (show i < 1000000000 by omega), List.length_singleton, if_pos (show out.length + 1 ≤ 4398046510976 by omega)]
    rw [drc hi, List.map_cons]
    have := gv_l0 hl n (i + 1) (out ++ [gr l[i]]) (by omega) (by simp; omega)
    rw [List.append_assoc] at this
    exact this
theorem give_ev {l : List radomeref29_Report} (hl : l.length ≤ 600) : Ev (fun k => radomelaw29_giveReports.f k l) (l.map gr) := by
  unfold radomelaw29_giveReports.f
  exact gv_l0 hl l.length 0 [] (by omega) rfl
structure Wr29 (r : radomeref29_Report) : Prop where
  id : 0 ≤ r.f_ID ∧ r.f_ID ≤ 65535
  t : -9223372036854775808 ≤ r.f_Time ∧ r.f_Time ≤ 9223372036854775807
  x : -2147483648 ≤ r.f_X ∧ r.f_X ≤ 2147483647
  y : -2147483648 ≤ r.f_Y ∧ r.f_Y ≤ 2147483647
  vx : -32768 ≤ r.f_VX ∧ r.f_VX ≤ 32767
  vy : -32768 ≤ r.f_VY ∧ r.f_VY ≤ 32767
  st : 0 ≤ r.f_State ∧ r.f_State ≤ 255
theorem wr29 {r : radomeref29_Report} (h : (Lit.int .u16 r.f_ID).wf = true ∧ (Lit.int .i64 r.f_Time).wf = true ∧ (Lit.int .i32 r.f_X).wf = true ∧ (Lit.int .i32 r.f_Y).wf = true ∧ (Lit.int .i16 r.f_VX).wf = true ∧ (Lit.int .i16 r.f_VY).wf = true ∧ (Lit.int .u8 r.f_State).wf = true) : Wr29 r := by
  simp [Lit.wf, IntKind.min, IntKind.max, IntKind.signed, IntKind.bits] at h
  obtain ⟨a, b, c, d, e, f, g⟩ := h
  exact ⟨a, b, c, d, e, f, g⟩
theorem wr29_gr {r : radomeref29_Report} (h : Wr29 r) : Wr (Pure.gr r) := ⟨h.id, h.x, h.y, h.vx, h.vy, h.st⟩
theorem sure29 : ∃ k, radomelaw29_sure.f k = some true := ⟨200, by decide +kernel⟩
theorem sure29_ev : Ev (fun k => radomelaw29_sure.f k) true := let ⟨k, h⟩ := sure29; Ev.of (fun k => radomelaw29_sure.mono k) h
end Go.Proofs.YtlokgnjlnefbbaaDoor.Pure
