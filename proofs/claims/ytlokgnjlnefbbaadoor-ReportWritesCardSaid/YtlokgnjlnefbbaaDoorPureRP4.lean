/- Reports: the document's bytes, and what is nearest. -/
import Derived.Test.YtlokgnjlnefbbaaDoorPureN6
import Derived.Test.YtlokgnjlnefbbaaDoorPureRP1
namespace Go.Proofs.YtlokgnjlnefbbaaDoor.Pure
open Go.RowKit Go.Proofs.YtlokgnjlnefbbaaDoorK Go.Proofs.YtlokgnjlnefbbaaDoor.GRW
set_option linter.unusedVariables false
set_option linter.unusedSimpArgs false
set_option maxRecDepth 100000
theorem Small_l0 {s : Bool} {X : Nat} (hX : X ≤ 9223372036854775807) : ∀ (n : Nat) (v : Int), n ≤ (dg X).length → v = -V ((dg X).drop n) →
    Ev (fun k => (radomeref03_Small.hs k).l0 s (dg X) v ((n : Int) - 1)) (if s = true then -(X : Int) else X)
  | 0, v, hn, hv => by
    refine Ev.step (fun k => rfl) ?_
    rw [List.drop_zero, V_dg] at hv
    subst hv
    simp only [radomeref03_Small.hs, radomeref03_Small.b0, if_neg (show ¬ 0 ≤ ((0 : Nat) : Int) - 1 by omega)]
    rw [show w64 (0 - -(X : Int)) = X by rw [w64_id (by omega)]; omega]
    cases s
    · exact Ev.now
    · exact Ev.now
  | n + 1, v, hn, hv => by
    have h20 := dg_len_u64 (n := X) (by omega)
    have vd := V_drop (dg X) n
    have r := rd_range (Dg_dg X) n
    have v0 := V_nonneg (Dg_drop (Dg_dg X) (n + 1))
    have le : ∀ j, V ((dg X).drop j) ≤ X := fun j => by
      induction j with
      | zero => rw [List.drop_zero, V_dg]; omega
      | succ j ih => have := V_drop (dg X) j; have r := rd_range (Dg_dg X) j; have := V_nonneg (Dg_drop (Dg_dg X) (j + 1)); omega
    have l1 := le n
    refine Ev.step (fun k => rfl) ?_
    simp only [radomeref03_Small.hs, radomeref03_Small.b0, show (((n + 1 : Nat) : Int) - 1) = n by omega, if_pos (Int.natCast_nonneg n), if_pos (And.intro (Int.natCast_nonneg n) (lt_int (show n < (dg X).length from hn)))]
    rw [w64_id (x := 10 * v) (by omega), w64_id (x := 10 * v - rd (dg X) (n : Int)) (by omega), w64_id (x := (n : Int) - 1) (by omega)]
    exact Small_l0 hX n _ (by omega) (by omega)
theorem Small_ev {v : Int} (h : -9223372036854775807 ≤ v ∧ v ≤ 9223372036854775807) : Ev (fun k => radomeref03_Small.f k (Nb v)) v := by
  have h20 := dg_len_u64 (n := v.natAbs) (by omega)
  have := Small_l0 (s := decide (v < 0)) (X := v.natAbs) (by omega) (dg v.natAbs).length 0 (Nat.le_refl _) (by rw [List.drop_length]; rfl)
  simp only [radomeref03_Small.f, Nb]
  rw [w64_id (by omega)]
  rwa [show (if decide (v < 0) = true then -(v.natAbs : Int) else (v.natAbs : Int)) = v by by_cases g : v < 0 <;> simp [g] <;> omega] at this

theorem td {n : Int} (h : 0 ≤ n) : Int.tdiv n 256 = n / 256 := Int.tdiv_eq_ediv_of_nonneg h
theorem tm {n : Int} (h : 0 ≤ n) : Int.tmod n 256 % 256 = n % 256 := by rw [Int.tmod_eq_emod_of_nonneg h]; omega
theorem by_end {n : Int} {out : List Int} : Ev (fun k => (radomeref29_bytes.hs k).l1 n out (-1)) out := by
  refine Ev.step (fun k => rfl) ?_
  simp only [radomeref29_bytes.hs, radomeref29_bytes.b1, if_neg (show ¬ (0 : Int) ≤ -1 by decide)]; exact Ev.now
theorem by_one {n : Int} (h : 0 ≤ n ∧ n ≤ 1000000000) {out : List Int} {i : Nat} (hi : i < out.length) (h8 : i ≤ 8) {R : List Int} (hR : Ev (fun k => (radomeref29_bytes.hs k).l1 (n / 256) (out.set i (n % 256)) ((i : Int) - 1)) R) :
    Ev (fun k => (radomeref29_bytes.hs k).l1 n out (i : Int)) R := by
  refine Ev.step (fun k => rfl) ?_
  simp only [radomeref29_bytes.hs, radomeref29_bytes.b1, if_pos (show (0 : Int) ≤ (i : Int) by omega), if_pos (show (0 : Int) ≤ (i : Int) ∧ (i : Int) < (out.length : Int) by omega), td h.1, tm h.1, wi (show -9223372036854775808 ≤ n / 256 ∧ n / 256 ≤ 9223372036854775807 by omega), wi (show -9223372036854775808 ≤ (i : Int) - 1 ∧ (i : Int) - 1 ≤ 9223372036854775807 by omega), Int.toNat_natCast]
  exact hR
theorem by2_l1 {n : Int} (h : 0 ≤ n ∧ n ≤ 1000000000) : Ev (fun k => (radomeref29_bytes.hs k).l1 n [0, 0] 1) (be 2 n) := by
  rw [be2]
  refine by_one h (out := [0, 0]) (i := 1) (by decide) (by decide) ?_
  refine by_one (n := n / 256) (by omega) (out := [0, n % 256]) (i := 0) (by simp) (by decide) ?_
  exact by_end
theorem by3_l1 {n : Int} (h : 0 ≤ n ∧ n ≤ 1000000000) : Ev (fun k => (radomeref29_bytes.hs k).l1 n [0, 0, 0] 2) (be 3 n) := by
  rw [be3]
  refine by_one h (out := [0, 0, 0]) (i := 2) (by decide) (by decide) ?_
  refine by_one (n := n / 256) (by omega) (out := [0, 0, n % 256]) (i := 1) (by simp) (by decide) ?_
  refine by_one (n := n / 256 / 256) (by omega) (out := [0, n / 256 % 256, n % 256]) (i := 0) (by simp) (by decide) ?_
  rw [show n / 65536 % 256 = n / 256 / 256 % 256 by omega]
  exact by_end
theorem by2_j2 {n : Int} (h : 0 ≤ n ∧ n ≤ 1000000000) : Ev (fun k => radomeref29_bytes.j2 k (radomeref29_bytes.hs k) n 2) (be 2 n) := by
  simp only [radomeref29_bytes.j2, if_pos (show (0 : Int) ≤ 2 ∧ (2 : Int) ≤ 281474976710656 by decide), show w64 (2 - 1) = 1 by decide +kernel]
  exact by2_l1 h
theorem by3_j2 {n : Int} (h : 0 ≤ n ∧ n ≤ 1000000000) : Ev (fun k => radomeref29_bytes.j2 k (radomeref29_bytes.hs k) n 3) (be 3 n) := by
  simp only [radomeref29_bytes.j2, if_pos (show (0 : Int) ≤ 3 ∧ (3 : Int) ≤ 281474976710656 by decide), show w64 (3 - 1) = 2 by decide +kernel]
  exact by3_l1 h
theorem by2_ev {n : Int} (h : -65536 ≤ n ∧ n ≤ 1000000000) : Ev (fun k => radomeref29_bytes.f k n 2) (be 2 n) := by
  unfold radomeref29_bytes.f
  refine Ev.step (fun k => rfl) ?_
  simp only [radomeref29_bytes.hs, radomeref29_bytes.b0, if_pos (show (0 : Int) < 2 by decide), show w64 (256 * 1) = 256 by decide +kernel, show w64 (0 + 1) = 1 by decide +kernel]
  refine Ev.step (fun k => rfl) ?_
  simp only [radomeref29_bytes.hs, radomeref29_bytes.b0, if_pos (show (1 : Int) < 2 by decide), show w64 (256 * 256) = 65536 by decide +kernel, show w64 (1 + 1) = 2 by decide +kernel]
  refine Ev.step (fun k => rfl) ?_
  simp only [radomeref29_bytes.hs, radomeref29_bytes.b0, if_neg (show ¬ (2 : Int) < 2 by decide)]
  by_cases hn : n < 0
  · simp only [if_pos hn, wi (show -9223372036854775808 ≤ n + 65536 ∧ n + 65536 ≤ 9223372036854775807 by omega)]
    have := by2_j2 (n := n + 65536) (by omega)
    rwa [show be 2 (n + 65536) = be 2 n by rw [be2, be2, show (n + 65536) / 256 % 256 = n / 256 % 256 by omega, show (n + 65536) % 256 = n % 256 by omega]] at this
  · simp only [if_neg hn]; exact by2_j2 (by omega)
theorem by3_ev {n : Int} (h : -16777216 ≤ n ∧ n ≤ 1000000000) : Ev (fun k => radomeref29_bytes.f k n 3) (be 3 n) := by
  unfold radomeref29_bytes.f
  refine Ev.step (fun k => rfl) ?_
  simp only [radomeref29_bytes.hs, radomeref29_bytes.b0, if_pos (show (0 : Int) < 3 by decide), show w64 (256 * 1) = 256 by decide +kernel, show w64 (0 + 1) = 1 by decide +kernel]
  refine Ev.step (fun k => rfl) ?_
  simp only [radomeref29_bytes.hs, radomeref29_bytes.b0, if_pos (show (1 : Int) < 3 by decide), show w64 (256 * 256) = 65536 by decide +kernel, show w64 (1 + 1) = 2 by decide +kernel]
  refine Ev.step (fun k => rfl) ?_
  simp only [radomeref29_bytes.hs, radomeref29_bytes.b0, if_pos (show (2 : Int) < 3 by decide), show w64 (256 * 65536) = 16777216 by decide +kernel, show w64 (2 + 1) = 3 by decide +kernel]
  refine Ev.step (fun k => rfl) ?_
  simp only [radomeref29_bytes.hs, radomeref29_bytes.b0, if_neg (show ¬ (3 : Int) < 3 by decide)]
  by_cases hn : n < 0
  · simp only [if_pos hn, wi (show -9223372036854775808 ≤ n + 16777216 ∧ n + 16777216 ≤ 9223372036854775807 by omega)]
    have := by3_j2 (n := n + 16777216) (by omega)
    rwa [show be 3 (n + 16777216) = be 3 n by rw [be3, be3, show (n + 16777216) / 65536 % 256 = n / 65536 % 256 by omega, show (n + 16777216) / 256 % 256 = n / 256 % 256 by omega, show (n + 16777216) % 256 = n % 256 by omega]] at this
  · simp only [if_neg hn]; exact by3_j2 (by omega)
theorem head27_ev : Ev (fun k => radomeref27_Encode.f k [1, 4, 6, 7, 12, 13]) ([151, 12], 0) :=
  let ⟨k, h⟩ := (⟨200, by decide +kernel⟩ : ∃ k, radomeref27_Encode.f k [1, 4, 6, 7, 12, 13] = some ([151, 12], 0)); Ev.of (fun k => radomeref27_Encode.mono k _) h
theorem may29_eq (k : Nat) (r : radomeref29_Report) : radomeref29_May.f k r = some (mayB (gr r)) := by
  have e1 : decide (r.f_X ≤ 8388607) = decide (r.f_X < 8388608) := decide_eq_decide.2 (by omega)
  have e2 : decide (r.f_Y ≤ 8388607) = decide (r.f_Y < 8388608) := decide_eq_decide.2 (by omega)
  have e3 : decide (r.f_State ≤ 127) = decide (r.f_State < 128) := decide_eq_decide.2 (by omega)
  simp only [radomeref29_May.f, mayB, gr, e1, e2, e3]; rfl
theorem enc29_l1 {s : Int} (hs : 0 ≤ s ∧ s ≤ 65535) {l : List radomeref29_Report} (hw : ∀ r ∈ l, Wr29 r ∧ mayB (gr r) = true) (hl : l.length ≤ 512) {t4 : List Int} {t5 : Int} : ∀ (n i : Nat) (out : List Int), l.length = i + n → out.length = 3 + 20 * i →
    Ev (fun k => (radomeref29_Encode.hs k).l1 s l t4 t5 out (i : Int)) (out ++ recs s ((l.drop i).map gr), 0)
  | 0, i, out, e, ho => by
    refine Ev.step (fun k => rfl) ?_
    simp only [radomeref29_Encode.hs, radomeref29_Encode.b1, if_neg (show ¬ (i : Int) < (l.length : Int) by omega)]
    rw [List.drop_eq_nil_of_le (by omega)]
    rw [show recs s (([] : List radomeref29_Report).map gr) = [] from rfl, List.append_nil]; exact Ev.now
  | n + 1, i, out, e, ho => by
    have hi : i < l.length := by omega
    obtain ⟨⟨w1, w2, w3, w4, w5, w6, w7⟩, m⟩ := hw _ (List.getElem_mem hi)
    obtain ⟨m1, m2, m3, m4⟩ := may_iff.1 m
    simp only [gr] at m1 m2 m3 m4
    refine Ev.step (fun k => rfl) ?_
    simp only [radomeref29_Encode.hs, radomeref29_Encode.b1, if_pos (show (i : Int) < (l.length : Int) by omega), if_pos (show (0 : Int) ≤ (i : Int) ∧ (i : Int) < (l.length : Int) by omega), rdg hi, wsc (show i < 1000000000 by omega),
      wi (show -9223372036854775808 ≤ s ∧ s ≤ 9223372036854775807 by omega), wi (show -9223372036854775808 ≤ l[i].f_X ∧ l[i].f_X ≤ 9223372036854775807 by omega), wi (show -9223372036854775808 ≤ l[i].f_Y ∧ l[i].f_Y ≤ 9223372036854775807 by omega),
      wi (show -9223372036854775808 ≤ l[i].f_VX ∧ l[i].f_VX ≤ 9223372036854775807 by omega), wi (show -9223372036854775808 ≤ l[i].f_VY ∧ l[i].f_VY ≤ 9223372036854775807 by omega), wi (show -9223372036854775808 ≤ l[i].f_ID ∧ l[i].f_ID ≤ 9223372036854775807 by omega)]
    refine Ev.bind head27_ev ?_
    simp only [List.length_append, List.length_cons, List.length_nil, if_pos (show out.length + (0 + 1 + 1) ≤ 140737488355200 by omega)]
    refine Ev.bind (by2_ev (by omega)) ?_
    simp only [be_len, if_pos (show out.length + (0 + 1 + 1) + 2 ≤ 140737488355200 by omega)]
    refine Ev.bind (by3_ev (by omega)) ?_
    simp only [be_len, if_pos (show out.length + (0 + 1 + 1) + 2 + 3 ≤ 140737488355200 by omega)]
    refine Ev.bind (by3_ev (by omega)) ?_
    simp only [be_len, if_pos (show out.length + (0 + 1 + 1) + 2 + 3 + 3 ≤ 140737488355200 by omega)]
    refine Ev.bind (by3_ev (by omega)) ?_
    simp only [be_len, if_pos (show out.length + (0 + 1 + 1) + 2 + 3 + 3 + 3 ≤ 140737488355200 by omega)]
    refine Ev.bind (by2_ev (by omega)) ?_
    simp only [be_len, if_pos (show out.length + (0 + 1 + 1) + 2 + 3 + 3 + 3 + 2 ≤ 140737488355200 by omega)]
    refine Ev.bind (by2_ev (by omega)) ?_
    simp only [be_len, if_pos (show out.length + (0 + 1 + 1) + 2 + 3 + 3 + 3 + 2 + 2 ≤ 140737488355200 by omega)]
    refine Ev.bind (by2_ev (by omega)) ?_
    simp only [be_len, if_pos (show out.length + (0 + 1 + 1) + 2 + 3 + 3 + 3 + 2 + 2 + 2 ≤ 140737488355200 by omega), if_pos (show out.length + (0 + 1 + 1) + 2 + 3 + 3 + 3 + 2 + 2 + 2 + 1 ≤ 140737488355200 by omega)]
    rw [drc hi, List.map_cons, recs_cons, ← List.append_assoc]
    have e : out ++ recB s (gr l[i]) = out ++ [151, 12] ++ be 2 s ++ be 3 l[i].f_Time ++ be 3 l[i].f_X ++ be 3 l[i].f_Y ++ be 2 l[i].f_VX ++ be 2 l[i].f_VY ++ be 2 l[i].f_ID ++ [2 * l[i].f_State % 256] := by simp only [recB, List.append_assoc, gr, Int.mul_comm]
    rw [e]
    exact enc29_l1 hs hw hl n (i + 1) _ (by omega) (by rw [← e, List.length_append, recB_len]; omega)
def enc29R (s : Int) (l : List radomeref29_Report) : List Int × Int := if (l.map gr).all mayB = true then (if 512 < (l.length : Int) then ([], 2) else (62 :: (be 2 (3 + 20 * (l.length : Int)) ++ recs s (l.map gr)), 0)) else ([], 1)
theorem enc29_l0 {s : Int} (hs : 0 ≤ s ∧ s ≤ 65535) {l : List radomeref29_Report} (hw : ∀ r ∈ l, Wr29 r) (hl : l.length ≤ 1000000) : ∀ (n i : Nat), l.length = i + n → ((l.take i).map gr).all mayB = true →
    Ev (fun k => (radomeref29_Encode.hs k).l0 s l [] 0 (i : Int)) (if ((l.drop i).map gr).all mayB = true then (if 512 < (l.length : Int) then ([], 2) else (62 :: (be 2 (3 + 20 * (l.length : Int)) ++ recs s (l.map gr)), 0)) else ([], 1))
  | 0, i, e, hm => by
    refine Ev.step (fun k => rfl) ?_
    simp only [radomeref29_Encode.hs, radomeref29_Encode.b0, if_neg (show ¬ (i : Int) < (l.length : Int) by omega)]
    rw [List.drop_eq_nil_of_le (by omega), if_pos (show (([] : List radomeref29_Report).map gr).all mayB = true from rfl)]
    by_cases h : 512 < (l.length : Int)
    · simp only [if_pos h]; exact Ev.now
    · simp only [if_neg h, wi (show -9223372036854775808 ≤ 20 * (l.length : Int) ∧ 20 * (l.length : Int) ≤ 9223372036854775807 by omega), wi (show -9223372036854775808 ≤ 3 + 20 * (l.length : Int) ∧ 3 + 20 * (l.length : Int) ≤ 9223372036854775807 by omega)]
      refine Ev.bind (by2_ev (by omega)) ?_
      simp only [be_len, List.length_cons, List.length_nil, if_pos (show 0 + 1 + 2 ≤ 140737488355200 by decide)]
      rw [List.take_of_length_le (by omega)] at hm
      have := enc29_l1 (t4 := []) (t5 := 0) hs (fun r hr => ⟨hw r hr, List.all_eq_true.1 hm _ (List.mem_map_of_mem hr)⟩) (show l.length ≤ 512 by omega) l.length 0 ([62] ++ be 2 (3 + 20 * (l.length : Int))) (by omega) (by simp [be_len])
      rw [List.drop_zero] at this
      exact this
  | n + 1, i, e, hm => by
    have hi : i < l.length := by omega
    refine Ev.step (fun k => rfl) ?_
    simp only [radomeref29_Encode.hs, radomeref29_Encode.b0, if_pos (show (i : Int) < (l.length : Int) by omega), if_pos (show (0 : Int) ≤ (i : Int) ∧ (i : Int) < (l.length : Int) by omega), rdg hi, wsc (show i < 1000000000 by omega), may29_eq, Option.bind_some]
    rw [drc hi, List.map_cons, List.all_cons]
    by_cases h : mayB (gr l[i]) = true
    · simp only [h, Bool.not_true, Bool.true_and, if_neg (show ¬ false = true by decide)]
      exact enc29_l0 hs hw hl n (i + 1) (by omega) (by rw [List.take_succ_eq_append_getElem hi, List.map_append, List.all_append, hm]; simp [h])
    · rw [Bool.not_eq_true] at h
      simp only [h, Bool.not_false, Bool.false_and, if_true, if_neg (show ¬ false = true by decide)]; exact Ev.now
theorem enc29_ev {s : Int} (hs : 0 ≤ s ∧ s ≤ 65535) {l : List radomeref29_Report} (hw : ∀ r ∈ l, Wr29 r) (hl : l.length ≤ 1000000) : Ev (fun k => radomeref29_Encode.f k s l) (enc29R s l) := by
  unfold radomeref29_Encode.f enc29R
  exact enc29_l0 hs hw hl l.length 0 (by omega) rfl
/-! ### what is nearest -/
theorem and_1 (q : Int) : iand .i64 q 1 = q % 2 := by
  unfold iand
  show w64 ((BitVec.ofInt 64 q &&& BitVec.ofInt 64 1).toNat : Int) = q % 2
  rw [BitVec.toNat_and, BitVec.toNat_ofInt q, show (BitVec.ofInt 64 1).toNat = 1 by decide, Nat.and_one_is_mod]
  rw [show ((2 ^ 64 : Nat) : Int) = 18446744073709551616 from rfl]
  rw [wi (by omega)]; omega
def rdd (n D h : Int) : Int := if h < n % D ∨ (n % D = h ∧ n / D % 2 = 1) then n / D + 1 else n / D
theorem rdd_rnd {n D h : Int} (e : D = 2 * h) (h0 : 0 < h) : rnd n D = rdd n D h := by
  unfold rnd rdd
  have h2 := Int.emod_two_eq (n / D)
  generalize n % D = r; generalize n / D = q at *
  by_cases a : h < r ∨ (r = h ∧ q % 2 = 1)
  · rw [if_pos a, if_pos (by omega)]
  · rw [if_neg a, if_neg (by omega)]
theorem round19 (k : Nat) {n : Int} (h : -9223372036854775808 ≤ n ∧ n ≤ 9223372036854775807) : cat062_rounded.f k n 19 = some (rdd n 524288 262144) := by
  unfold cat062_rounded.f rdd
  have hm : n - n / 524288 * 524288 = n % 524288 := by omega
  rw [if_pos (by decide), if_pos (by decide), if_pos (show 0 ≤ w64 (19 - 1) by decide +kernel), show shn .i64 19 = 19 by decide +kernel, show w64 (1 * 2 ^ shn .i64 (w64 (19 - 1))) = 262144 by decide +kernel, show (2 : Int) ^ 19 = 524288 by decide,
    wi (show -9223372036854775808 ≤ n / 524288 * 524288 ∧ n / 524288 * 524288 ≤ 9223372036854775807 by omega), hm, wi (show -9223372036854775808 ≤ n % 524288 ∧ n % 524288 ≤ 9223372036854775807 by omega), and_1, wi (show -9223372036854775808 ≤ n / 524288 + 1 ∧ n / 524288 + 1 ≤ 9223372036854775807 by omega)]
  by_cases a : 262144 < n % 524288 ∨ (n % 524288 = 262144 ∧ n / 524288 % 2 = 1)
  · rw [if_pos a, if_pos (by simpa using a)]
  · rw [if_neg a, if_neg (by simpa using a)]
theorem round18 (k : Nat) {n : Int} (h : -9223372036854775808 ≤ n ∧ n ≤ 9223372036854775807) : cat062_rounded.f k n 18 = some (rdd n 262144 131072) := by
  unfold cat062_rounded.f rdd
  have hm : n - n / 262144 * 262144 = n % 262144 := by omega
  rw [if_pos (by decide), if_pos (by decide), if_pos (show 0 ≤ w64 (18 - 1) by decide +kernel), show shn .i64 18 = 18 by decide +kernel, show w64 (1 * 2 ^ shn .i64 (w64 (18 - 1))) = 131072 by decide +kernel, show (2 : Int) ^ 18 = 262144 by decide,
    wi (show -9223372036854775808 ≤ n / 262144 * 262144 ∧ n / 262144 * 262144 ≤ 9223372036854775807 by omega), hm, wi (show -9223372036854775808 ≤ n % 262144 ∧ n % 262144 ≤ 9223372036854775807 by omega), and_1, wi (show -9223372036854775808 ≤ n / 262144 + 1 ∧ n / 262144 + 1 ≤ 9223372036854775807 by omega)]
  by_cases a : 131072 < n % 262144 ∨ (n % 262144 = 131072 ∧ n / 262144 % 2 = 1)
  · rw [if_pos a, if_pos (by simpa using a)]
  · rw [if_neg a, if_neg (by simpa using a)]
theorem rdd_range {n D h : Int} (hn : -9223372036854775808 ≤ n ∧ n ≤ 9223372036854775807) (hD : D = 524288 ∨ D = 262144) : -50000000000000 ≤ rdd n D h ∧ rdd n D h ≤ 50000000000000 := by
  have : -50000000000000 < n / D ∧ n / D < 50000000000000 := by rcases hD with rfl | rfl <;> omega
  unfold rdd; split <;> omega
def clamp (lo hi v : Int) : Int := if v < lo then lo else if hi < v then hi else v
theorem clamp_range {lo hi v : Int} (h : lo ≤ hi) : lo ≤ clamp lo hi v ∧ clamp lo hi v ≤ hi := by
  unfold clamp
  by_cases a : v < lo
  · rw [if_pos a]; omega
  · rw [if_neg a]
    by_cases c : hi < v
    · rw [if_pos c]; omega
    · rw [if_neg c]; omega
theorem clamp_eq {lo hi v : Int} (h : lo ≤ hi) : max lo (min hi v) = clamp lo hi v := by
  unfold clamp
  by_cases a : v < lo
  · rw [if_pos a]; omega
  · rw [if_neg a]
    by_cases c : hi < v
    · rw [if_pos c]; omega
    · rw [if_neg c]; omega
theorem place_ev (k : Nat) {n : Int} (h : -9223372036854775808 ≤ n ∧ n ≤ 9223372036854775807) : cat062_Place.f k n = some (clamp (-8388608) 8388607 (rdd n 524288 262144)) := by
  unfold cat062_Place.f
  rw [round19 k h, Option.bind_some]
  generalize rdd n 524288 262144 = v
  have e : max (-8388608) (min 8388607 v) = clamp (-8388608) 8388607 v := clamp_eq (by decide)
  have r : -8388608 ≤ clamp (-8388608) 8388607 v ∧ clamp (-8388608) 8388607 v ≤ 8388607 := clamp_range (by decide)
  rw [e]
  congr 1
  generalize clamp (-8388608) 8388607 v = c at r
  simp only [w32, IntKind.wrap, IntKind.bits, IntKind.signed]; simp; omega
theorem speed_ev (k : Nat) {n : Int} (h : -9223372036854775808 ≤ n ∧ n ≤ 9223372036854775807) : cat062_Speed.f k n = some (clamp (-32768) 32767 (rdd n 262144 131072)) := by
  unfold cat062_Speed.f
  rw [round18 k h, Option.bind_some]
  generalize rdd n 262144 131072 = v
  have e : max (-32768) (min 32767 v) = clamp (-32768) 32767 v := clamp_eq (by decide)
  have r : -32768 ≤ clamp (-32768) 32767 v ∧ clamp (-32768) 32767 v ≤ 32767 := clamp_range (by decide)
  rw [e]
  congr 1
  generalize clamp (-32768) 32767 v = c at r
  simp only [IntKind.wrap, IntKind.bits, IntKind.signed]; simp; omega
theorem near_ev {n : Int} (h : -9223372036854775808 ≤ n ∧ n ≤ 9223372036854775807) {b : Nat} {h2 lo hi : Int} (hb : b < 100) (h0 : 0 < h2) (e : (2 : Int) ^ b = 2 * h2) (hD : (2 : Int) ^ b = 524288 ∨ (2 : Int) ^ b = 262144) : Ev (fun k => radomeref29_Near.f k n (b : Int) lo hi) (clamp lo hi (rdd n (2 ^ b) h2)) := by
  unfold radomeref29_Near.f
  refine Ev.bind (Of_ev h) ?_
  refine Ev.bind (Two_ev (by omega)) ?_
  have l1 : Ln n ≤ 20 := Ln_lt (by omega)
  have l2 : Ln ((2 : Int) ^ b) ≤ 20 := Ln_lt (by rcases hD with e | e <;> rw [e] <;> decide)
  refine Ev.bind (Round_ev (by rcases hD with e | e <;> rw [e] <;> decide) (by omega) (by omega)) ?_
  rw [rdd_rnd e h0]
  have r := rdd_range (h := h2) h hD
  generalize rdd n (2 ^ b) h2 = v at r ⊢
  refine Ev.bind (Small_ev (by omega)) ?_
  unfold clamp
  by_cases a : v < lo
  · simp only [if_pos a]; exact Ev.now
  · by_cases c : hi < v
    · simp only [if_neg a, if_pos c]; exact Ev.now
    · simp only [if_neg a, if_neg c]; exact Ev.now
end Go.Proofs.YtlokgnjlnefbbaaDoor.Pure
