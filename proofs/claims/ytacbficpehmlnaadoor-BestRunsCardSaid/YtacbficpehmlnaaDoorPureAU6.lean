/- Pairs by bids: the least costly matching, by trying all. -/
import Derived.Test.YtacbficpehmlnaaDoorPureAU5
namespace Go.Proofs.YtacbficpehmlnaaDoor.Pure
open Go.RowKit Go.Proofs.YtacbficpehmlnaaDoorK Go.Proofs.YtacbficpehmlnaaDoor.GBN
set_option linter.unusedVariables false
set_option linter.unusedSimpArgs false
set_option maxRecDepth 100000
def lp (g : List Bool → Int) (r : List Int) (tk : List Bool) : Nat → Nat → Int → Int
  | 0, _, b => b
  | m + 1, p, b => if rd r (p : Int) < 0 ∨ rd tk (p : Int) = true then lp g r tk m (p + 1) b else lp g r tk m (p + 1) (if rd r (p : Int) + g (tk.set p true) < b then rd r (p : Int) + g (tk.set p true) else b)
def lst (miss : Int) : List (List Int) → List Bool → Int
  | [], _ => 0
  | r :: rs, tk => lp (lst miss rs) r tk r.length 0 (miss + lst miss rs tk)
theorem lp_le {g : List Bool → Int} {r : List Int} {tk : List Bool} : ∀ (m p : Nat) (b : Int), lp g r tk m p b ≤ b ∧ ∀ q : Nat, p ≤ q → q < p + m → 0 ≤ rd r (q : Int) → rd tk (q : Int) = false → lp g r tk m p b ≤ rd r (q : Int) + g (tk.set q true)
  | 0, p, b => ⟨Int.le_refl _, fun q h1 h2 => by omega⟩
  | m + 1, p, b => by
    rw [lp]
    by_cases h : rd r (p : Int) < 0 ∨ rd tk (p : Int) = true
    · rw [if_pos h]
      obtain ⟨a1, a2⟩ := lp_le (g := g) (r := r) (tk := tk) m (p + 1) b
      refine ⟨a1, fun q h1 h2 h3 h4 => ?_⟩
      by_cases e : q = p
      · subst e; rcases h with h | h
        · omega
        · rw [h4] at h; cases h
      · exact a2 q (by omega) (by omega) h3 h4
    · rw [if_neg h]
      obtain ⟨a1, a2⟩ := lp_le (g := g) (r := r) (tk := tk) m (p + 1) (if rd r (p : Int) + g (tk.set p true) < b then rd r (p : Int) + g (tk.set p true) else b)
      have w : (if rd r (p : Int) + g (tk.set p true) < b then rd r (p : Int) + g (tk.set p true) else b) ≤ b ∧ (if rd r (p : Int) + g (tk.set p true) < b then rd r (p : Int) + g (tk.set p true) else b) ≤ rd r (p : Int) + g (tk.set p true) := by split <;> omega
      refine ⟨Int.le_trans a1 w.1, fun q h1 h2 h3 h4 => ?_⟩
      by_cases e : q = p
      · subst e; exact Int.le_trans a1 w.2
      · exact a2 q (by omega) (by omega) h3 h4
theorem lp_or {g : List Bool → Int} {r : List Int} {tk : List Bool} : ∀ (m p : Nat) (b : Int), lp g r tk m p b = b ∨ ∃ q : Nat, p ≤ q ∧ q < p + m ∧ 0 ≤ rd r (q : Int) ∧ rd tk (q : Int) = false ∧ lp g r tk m p b = rd r (q : Int) + g (tk.set q true)
  | 0, p, b => .inl rfl
  | m + 1, p, b => by
    rw [lp]
    by_cases h : rd r (p : Int) < 0 ∨ rd tk (p : Int) = true
    · rw [if_pos h]
      rcases lp_or (g := g) (r := r) (tk := tk) m (p + 1) b with a | ⟨q, a1, a2, a3⟩
      · exact .inl a
      · exact .inr ⟨q, by omega, by omega, a3⟩
    · rw [if_neg h]
      have h4 : rd tk (p : Int) = false := by cases hg : rd tk (p : Int) with
        | false => rfl
        | true => exact absurd (Or.inr hg) h
      rcases lp_or (g := g) (r := r) (tk := tk) m (p + 1) (if rd r (p : Int) + g (tk.set p true) < b then rd r (p : Int) + g (tk.set p true) else b) with a | ⟨q, a1, a2, a3⟩
      · by_cases hv : rd r (p : Int) + g (tk.set p true) < b
        · rw [if_pos hv] at a ⊢; exact .inr ⟨p, by omega, by omega, by omega, h4, a⟩
        · rw [if_neg hv] at a ⊢; exact .inl a
      · exact .inr ⟨q, by omega, by omega, a3⟩
/-- The plots that are taken, told in two ways. -/
def Agr (P : Nat) (tk : List Bool) (m : List (Int × Bool)) : Prop := tk.length = P ∧ ∀ q : Int, 0 ≤ q ∧ q < (P : Int) → mget m q false = rd tk q
theorem Agr.put {P : Nat} {tk : List Bool} {m : List (Int × Bool)} (h : Agr P tk m) {p : Nat} (hp : p < P) : Agr P (tk.set p true) (mput m (p : Int) true) := by
  refine ⟨by simpa using h.1, fun q hq => ?_⟩
  have := rd_set (l := tk) (i := (p : Int)) (j := q) (v := true) (by have := h.1; omega) (by have := h.1; omega)
  rw [Int.toNat_natCast] at this
  rw [mget_mput, this]
  by_cases e : q = (p : Int)
  · rw [if_pos e, if_pos e.symm]
  · rw [if_neg e, if_neg (fun z => e z.symm)]; exact h.2 q hq
theorem lst_le {miss : Int} {P : Nat} : ∀ (rs : List (List Int)) (ps : List Int) (tk : List Bool) (m : List (Int × Bool)) (s s' : Int), rs.length = ps.length → (∀ r ∈ rs, r.length = P) → Agr P tk m → tot miss rs ps m s = some s' → lst miss rs tk ≤ s' - s
  | [], [], tk, m, s, s', _, _, _, h => by simp [tot] at h; subst h; simp [lst]
  | r :: rs, p :: ps, tk, m, s, s', e, hr, ha, h => by
    have hrl := hr r (by simp)
    have hr' : ∀ r ∈ rs, r.length = P := fun x hx => hr x (by simp [hx])
    simp only [tot] at h
    rw [lst]
    obtain ⟨a1, a2⟩ := lp_le (g := lst miss rs) (r := r) (tk := tk) r.length 0 (miss + lst miss rs tk)
    by_cases hp : p = -1
    · rw [if_pos hp] at h
      have := lst_le rs ps tk m _ s' (by simpa using e) hr' ha h
      omega
    · rw [if_neg hp] at h
      by_cases hb : p < 0 ∨ (r.length : Int) ≤ p ∨ rd r p < 0 ∨ mget m p false = true
      · rw [if_pos hb] at h; cases h
      · rw [if_neg hb] at h
        obtain ⟨q, rfl⟩ : ∃ q : Nat, (q : Int) = p := ⟨p.toNat, by omega⟩
        have hq : q < P := by omega
        have hg : mget m (q : Int) false = false := by cases hg : mget m (q : Int) false with
          | false => rfl
          | true => exact absurd (Or.inr (Or.inr (Or.inr hg))) hb
        rw [ha.2 _ (by omega)] at hg
        have := lst_le rs ps (tk.set q true) _ _ s' (by simpa using e) hr' (ha.put hq) h
        have := a2 q (by omega) (by omega) (by omega) hg
        omega
  | [], _ :: _, _, _, _, _, e, _, _, _ => by simp at e
  | _ :: _, [], _, _, _, _, e, _, _, _ => by simp at e
theorem lst_got {miss : Int} {P : Nat} : ∀ (rs : List (List Int)) (tk : List Bool) (m : List (Int × Bool)) (s : Int), (∀ r ∈ rs, r.length = P) → Agr P tk m → ∃ ps, rs.length = ps.length ∧ tot miss rs ps m s = some (s + lst miss rs tk)
  | [], tk, m, s, _, _ => ⟨[], rfl, by simp [tot, lst]⟩
  | r :: rs, tk, m, s, hr, ha => by
    have hrl := hr r (by simp)
    have hr' : ∀ r ∈ rs, r.length = P := fun x hx => hr x (by simp [hx])
    rw [lst]
    rcases lp_or (g := lst miss rs) (r := r) (tk := tk) r.length 0 (miss + lst miss rs tk) with a | ⟨q, a1, a2, a3, a4, a5⟩
    · obtain ⟨ps, h1, h2⟩ := lst_got rs tk m (s + miss) hr' ha
      refine ⟨-1 :: ps, by simp [h1], ?_⟩
      rw [a]; simp only [tot, if_true]; rw [h2, Int.add_assoc]
    · have hq : q < P := by omega
      obtain ⟨ps, h1, h2⟩ := lst_got rs (tk.set q true) (mput m (q : Int) true) (s + rd r (q : Int)) hr' (ha.put hq)
      refine ⟨(q : Int) :: ps, by simp [h1], ?_⟩
      have hg : mget m (q : Int) false = false := by rw [ha.2 _ (by omega)]; exact a4
      rw [a5]; simp only [tot]
      rw [if_neg (by omega), if_neg (by rw [hg]; simp; omega), h2, Int.add_assoc]
theorem lst_range {miss : Int} (hm : 0 ≤ miss ∧ miss ≤ 4096) : ∀ (rs : List (List Int)) (tk : List Bool), 0 ≤ lst miss rs tk ∧ lst miss rs tk ≤ 4096 * (rs.length : Int)
  | [], tk => by simp [lst]
  | r :: rs, tk => by
    have h := lst_range hm rs tk
    rw [lst]
    have a := (lp_le (g := lst miss rs) (r := r) (tk := tk) r.length 0 (miss + lst miss rs tk)).1
    have hl : ((r :: rs).length : Int) = (rs.length : Int) + 1 := by simp
    rcases lp_or (g := lst miss rs) (r := r) (tk := tk) r.length 0 (miss + lst miss rs tk) with b | ⟨q, a1, a2, a3, a4, a5⟩
    · omega
    · have := lst_range hm rs (tk.set q true); omega
/-! ### the program's -/
theorem least_l0 {rows : List (List Int)} {miss : Int} {P : Nat} (hc : COk rows miss P) {i : Nat} (hi : i < rows.length) {tk : List Bool} (htk : tk.length = P)
    (ih : ∀ tk' : List Bool, tk'.length = P → Ev (fun k => (radomeref21_Least.hs k).slf ⟨rows, miss⟩ ((i + 1 : Nat) : Int) tk') (lst miss (rows.drop (i + 1)) tk')) : ∀ (m p : Nat) (b : Int), P = p + m → -1000000 ≤ b ∧ b ≤ 1000000 →
    Ev (fun k => (radomeref21_Least.hs k).l0 (i : Int) tk rows miss b (p : Int)) (lp (lst miss (rows.drop (i + 1))) rows[i] tk m p b)
  | 0, p, b, e, hb => by
    have hrl := hc.row _ (List.getElem_mem hi); have h64 := hc.n
    refine Ev.step (fun k => rfl) ?_
    simp only [radomeref21_Least.hs, radomeref21_Least.b0, if_pos (show (0 : Int) ≤ (i : Int) ∧ (i : Int) < (rows.length : Int) by omega), rd_get hi, if_neg (show ¬ (p : Int) < (rows[i].length : Int) by omega), lp]; exact Ev.now
  | m + 1, p, b, e, hb => by
    have hrl := hc.row _ (List.getElem_mem hi); have h64 := hc.n; have hP := hc.p
    have hpr : 0 ≤ (p : Int) ∧ (p : Int) < (rows[i].length : Int) := by omega
    have hpt : 0 ≤ (p : Int) ∧ (p : Int) < (tk.length : Int) := by omega
    have hx := hc.ent _ (List.getElem_mem hi) _ (rd_mem hpr)
    refine Ev.step (fun k => rfl) ?_
    rw [lp]
    simp only [radomeref21_Least.hs, radomeref21_Least.b0, if_pos (show (0 : Int) ≤ (i : Int) ∧ (i : Int) < (rows.length : Int) by omega), rd_get hi, if_pos hpr.2, if_pos hpr, if_pos (show (!(decide (rd rows[i] (p : Int) < 0))) = true → (0 : Int) ≤ (p : Int) ∧ (p : Int) < (tk.length : Int) from fun _ => hpt), wsucc (show p < 1000000000 by omega)]
    by_cases h : rd rows[i] (p : Int) < 0 ∨ rd tk (p : Int) = true
    · have e1 : ((decide (rd rows[i] (p : Int) < 0)) || (rd tk (p : Int))) = true := by rcases h with h | h <;> simp [h]
      simp only [e1, if_true, if_pos h]
      exact least_l0 hc hi htk ih m (p + 1) b (by omega) hb
    · have e1 : ((decide (rd rows[i] (p : Int) < 0)) || (rd tk (p : Int))) = false := by
        rw [Bool.eq_false_iff]; intro z; apply h; simpa using z
      simp only [e1, Bool.false_eq_true, if_false, if_neg h, if_pos (show 0 + tk.length ≤ 140737488355200 by omega), if_pos hpt, wsucc (show i < 1000000000 by omega), Int.toNat_natCast]
      refine Ev.bind (ih _ (by simpa using htk)) ?_
      have hr := lst_range hc.m (rows.drop (i + 1)) (tk.set p true)
      have hl : ((rows.drop (i + 1)).length : Int) ≤ 64 := by rw [List.length_drop]; omega
      simp only [w64_id (show -9223372036854775808 ≤ rd rows[i] (p : Int) + lst miss (rows.drop (i + 1)) (tk.set p true) ∧ rd rows[i] (p : Int) + lst miss (rows.drop (i + 1)) (tk.set p true) ≤ 9223372036854775807 by omega)]
      by_cases hv : rd rows[i] (p : Int) + lst miss (rows.drop (i + 1)) (tk.set p true) < b
      · simp only [if_pos hv]; exact least_l0 hc hi htk ih m (p + 1) _ (by omega) (by omega)
      · simp only [if_neg hv]; exact least_l0 hc hi htk ih m (p + 1) _ (by omega) hb
theorem least_body {rows : List (List Int)} {miss : Int} {P : Nat} (hc : COk rows miss P) : ∀ (n i : Nat), rows.length = i + n → ∀ tk : List Bool, tk.length = P → Ev (fun k => radomeref21_Least.brec k (radomeref21_Least.hs k) ⟨rows, miss⟩ (i : Int) tk) (lst miss (rows.drop i) tk)
  | 0, i, e, tk, htk => by
    unfold radomeref21_Least.brec
    simp only [if_pos (show (rows.length : Int) ≤ (i : Int) by omega)]
    rw [List.drop_eq_nil_of_le (by omega), lst]; exact Ev.now
  | n + 1, i, e, tk, htk => by
    have h64 := hc.n
    have hi : i < rows.length := by omega
    have ih : ∀ tk' : List Bool, tk'.length = P → Ev (fun k => (radomeref21_Least.hs k).slf ⟨rows, miss⟩ ((i + 1 : Nat) : Int) tk') (lst miss (rows.drop (i + 1)) tk') := fun tk' h' => Ev.step (fun k => rfl) (least_body hc n (i + 1) (by omega) tk' h')
    unfold radomeref21_Least.brec
    simp only [if_neg (show ¬ (rows.length : Int) ≤ (i : Int) by omega), wsucc (show i < 1000000000 by omega)]
    refine Ev.bind (ih tk htk) ?_
    have hr := lst_range hc.m (rows.drop (i + 1)) tk
    have hl : ((rows.drop (i + 1)).length : Int) ≤ 64 := by rw [List.length_drop]; omega
    have hm := hc.m
    simp only [w64_id (show -9223372036854775808 ≤ miss + lst miss (rows.drop (i + 1)) tk ∧ miss + lst miss (rows.drop (i + 1)) tk ≤ 9223372036854775807 by omega)]
    rw [drop_cons hi, lst, hc.row _ (List.getElem_mem hi)]
    exact least_l0 hc hi htk ih P 0 _ (by omega) (by omega)
theorem least_ev {rows : List (List Int)} {miss : Int} {P : Nat} (hc : COk rows miss P) {tk : List Bool} (htk : tk.length = P) : Ev (fun k => radomeref21_Least.f k ⟨rows, miss⟩ 0 tk) (lst miss rows tk) := least_body hc rows.length 0 (by omega) tk htk
theorem rd_repl (P : Nat) (q : Int) : rd (List.replicate P false) q = false := by
  unfold rd
  rw [List.getD_eq_getElem?_getD, List.getElem?_replicate]
  split <;> rfl
end Go.Proofs.YtacbficpehmlnaaDoor.Pure
