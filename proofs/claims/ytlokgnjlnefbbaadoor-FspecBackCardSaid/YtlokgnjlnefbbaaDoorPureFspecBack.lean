/- The plain law of FspecBack. -/
import Derived.Test.YtlokgnjlnefbbaaDoorPureFspecNew
namespace Go.Proofs.YtlokgnjlnefbbaaDoor.Pure
open Go.RowKit Go.Proofs.YtlokgnjlnefbbaaDoorK Go.Proofs.YtlokgnjlnefbbaaDoor.GFS
set_option linter.unusedVariables false
set_option linter.unusedSimpArgs false
theorem orb_bits : ∀ c : Fin 256, ∀ m : Fin 7, (0 ≤ ior .u8 (c.val : Int) (128 / 2 ^ shn .u8 (m.val : Int)) ∧ ior .u8 (c.val : Int) (128 / 2 ^ shn .u8 (m.val : Int)) ≤ 255 ∧ ior .u8 (c.val : Int) (128 / 2 ^ shn .u8 (m.val : Int)) % 2 = (c.val : Int) % 2) ∧
    ∀ i : Fin 7, (ior .u8 (c.val : Int) (128 / 2 ^ shn .u8 (m.val : Int)) / 2 ^ (i.val + 1)) % 2 = if i.val + m.val = 6 then 1 else ((c.val : Int) / 2 ^ (i.val + 1)) % 2 := by decide +kernel
theorem orb_spec {c a : Int} (h0 : 0 ≤ c) (h1 : c ≤ 255) : (0 ≤ orb c a ∧ orb c a ≤ 255 ∧ orb c a % 2 = c % 2) ∧ ∀ i : Nat, i < 7 → (orb c a / 2 ^ (i + 1)) % 2 = if (i : Int) + (a - 1) % 7 = 6 then 1 else (c / 2 ^ (i + 1)) % 2 := by
  have h := orb_bits ⟨c.toNat, by omega⟩ ⟨((a - 1) % 7).toNat, by omega⟩
  have e : ((c.toNat : Nat) : Int) = c := Int.toNat_of_nonneg h0
  have e2 : ((((a - 1) % 7).toNat : Nat) : Int) = (a - 1) % 7 := Int.toNat_of_nonneg (by omega)
  simp only [e, e2] at h
  refine ⟨h.1, fun i hi => ?_⟩
  have h2 := h.2 ⟨i, hi⟩
  simp only at h2
  unfold orb
  rw [h2]
  by_cases g : i + ((a - 1) % 7).toNat = 6
  · rw [if_pos g, if_pos (by omega)]
  · rw [if_neg g, if_neg (by omega)]
theorem fold_spec (j : Nat) : ∀ (s : List Int) (c0 : Int), 0 ≤ c0 → c0 ≤ 255 →
    (0 ≤ s.foldl (stp j) c0 ∧ s.foldl (stp j) c0 ≤ 255 ∧ s.foldl (stp j) c0 % 2 = c0 % 2) ∧ ∀ i : Nat, i < 7 → ((s.foldl (stp j) c0 / 2 ^ (i + 1)) % 2 = 1 ↔ ((c0 / 2 ^ (i + 1)) % 2 = 1 ∨ (7 * (j : Int) + (6 - i) + 1) ∈ s))
  | [], c0, h0, h1 => ⟨⟨h0, h1, rfl⟩, fun i hi => by simp⟩
  | a :: r, c0, h0, h1 => by
    have os := orb_spec (a := a) h0 h1
    by_cases e : (a - 1) / 7 = (j : Int)
    · have st : stp j c0 a = orb c0 a := by unfold stp; rw [if_pos e]
      have ih := fold_spec j r (orb c0 a) os.1.1 os.1.2.1
      rw [List.foldl_cons, st]
      refine ⟨⟨ih.1.1, ih.1.2.1, ih.1.2.2.trans os.1.2.2⟩, fun i hi => ?_⟩
      rw [ih.2 i hi, os.2 i hi]
      by_cases g : (i : Int) + (a - 1) % 7 = 6
      · rw [if_pos g]
        have : (7 * (j : Int) + (6 - i) + 1) = a := by omega
        simp [this]
      · rw [if_neg g]
        have : (7 * (j : Int) + (6 - i) + 1) ≠ a := by omega
        simp [this]
    · have st : stp j c0 a = c0 := by unfold stp; rw [if_neg e]
      have ih := fold_spec j r c0 h0 h1
      rw [List.foldl_cons, st]
      refine ⟨ih.1, fun i hi => ?_⟩
      rw [ih.2 i hi]
      have : (7 * (j : Int) + (6 - i) + 1) ≠ a := by omega
      simp [this]
theorem mem_its (c n x : Int) : ∀ J : Nat, x ∈ its c n J ↔ ∃ i : Nat, i < J ∧ x = 7 * n + (6 - i) + 1 ∧ (c / 2 ^ (i + 1)) % 2 = 1
  | 0 => by simp [its]
  | J + 1 => by
    have ih := mem_its c n x J
    have key : (∃ i : Nat, i < J + 1 ∧ x = 7 * n + (6 - i) + 1 ∧ (c / 2 ^ (i + 1)) % 2 = 1) ↔ (x = 7 * n + (6 - J) + 1 ∧ (c / 2 ^ (J + 1)) % 2 = 1) ∨ x ∈ its c n J := by
      rw [ih]
      constructor
      · rintro ⟨i, h1, h2, h3⟩
        by_cases e : i = J
        · subst e; exact .inl ⟨h2, h3⟩
        · exact .inr ⟨i, by omega, h2, h3⟩
      · rintro (⟨h2, h3⟩ | ⟨i, h1, h2, h3⟩)
        · exact ⟨J, by omega, h2, h3⟩
        · exact ⟨i, by omega, h2, h3⟩
    rw [key, show its c n (J + 1) = if (c / 2 ^ (J + 1)) % 2 = 0 then its c n J else (7 * n + (6 - J) + 1) :: its c n J from rfl]
    split
    · rename_i h; rw [h]; simp
    · rename_i h
      have : (c / 2 ^ (J + 1)) % 2 = 1 := by omega
      rw [List.mem_cons, this]; simp
theorem its_pw (c n : Int) : ∀ J : Nat, (its c n J).Pairwise (· < ·)
  | 0 => List.Pairwise.nil
  | J + 1 => by
    unfold its
    split
    · exact its_pw c n J
    · refine List.pairwise_cons.2 ⟨fun x hx => ?_, its_pw c n J⟩
      obtain ⟨i, h1, h2, _⟩ := (mem_its c n x J).1 hx
      omega
def catn (l : List Int) : Nat → List Int
  | 0 => []
  | m + 1 => catn l m ++ its (rd l m) m 7
theorem mem_catn (l : List Int) (x : Int) : ∀ m : Nat, x ∈ catn l m ↔ ∃ j : Nat, j < m ∧ x ∈ its (rd l j) j 7
  | 0 => by simp [catn]
  | m + 1 => by
    rw [catn, List.mem_append, mem_catn l x m]
    constructor
    · rintro (⟨j, h1, h2⟩ | h)
      · exact ⟨j, by omega, h2⟩
      · exact ⟨m, by omega, h⟩
    · rintro ⟨j, h1, h2⟩
      by_cases e : j = m
      · subst e; exact .inr h2
      · exact .inl ⟨j, by omega, h2⟩
theorem catn_range {l : List Int} {m : Nat} {x : Int} (h : x ∈ catn l m) : 1 ≤ x ∧ x ≤ 7 * m := by
  obtain ⟨j, h1, h2⟩ := (mem_catn l x m).1 h
  obtain ⟨i, h3, h4, _⟩ := (mem_its _ _ _ _).1 h2
  omega
theorem catn_pw (l : List Int) : ∀ m : Nat, (catn l m).Pairwise (· < ·)
  | 0 => List.Pairwise.nil
  | m + 1 => by
    refine List.pairwise_append.2 ⟨catn_pw l m, its_pw _ _ _, fun x hx y hy => ?_⟩
    have := catn_range hx
    obtain ⟨i, h3, h4, _⟩ := (mem_its _ _ _ _).1 hy
    omega
theorem sorted_ext : ∀ {a b : List Int}, a.Pairwise (· < ·) → b.Pairwise (· < ·) → (∀ x, x ∈ a ↔ x ∈ b) → a = b
  | [], [], _, _, _ => rfl
  | [], y :: b, _, _, h => absurd ((h y).2 (List.mem_cons_self ..)) (by simp)
  | x :: a, [], _, _, h => absurd ((h x).1 (List.mem_cons_self ..)) (by simp)
  | x :: a, y :: b, ha, hb, h => by
    obtain ⟨a1, a2⟩ := List.pairwise_cons.1 ha
    obtain ⟨b1, b2⟩ := List.pairwise_cons.1 hb
    have e : x = y := by
      rcases List.mem_cons.1 ((h x).1 (List.mem_cons_self ..)) with e | e
      · exact e
      · rcases List.mem_cons.1 ((h y).2 (List.mem_cons_self ..)) with e' | e'
        · exact e'.symm
        · have := b1 x e; have := a1 y e'; omega
    subst e
    congr 1
    refine sorted_ext a2 b2 fun z => ?_
    constructor
    · intro hz
      rcases List.mem_cons.1 ((h z).1 (List.mem_cons_of_mem _ hz)) with e | e
      · have := a1 z hz; omega
      · exact e
    · intro hz
      rcases List.mem_cons.1 ((h z).2 (List.mem_cons_of_mem _ hz)) with e | e
      · have := b1 z hz; omega
      · exact e
theorem dec_run {l : List Int} {most : Int} {m : Nat} (hm : (m : Int) ≤ most) (hl : m ≤ l.length) (ho : ∀ j : Nat, j + 1 < m → rd l (j : Int) % 2 ≠ 0) (he : ∀ j : Nat, j + 1 = m → rd l (j : Int) % 2 = 0 ∧ its (rd l (j : Int)) j 7 ≠ []) :
    ∀ (f i : Nat), i < m → m ≤ i + f → dec l most f i (catn l i) = (⟨catn l m, m⟩, none)
  | 0, i, h1, h2 => by omega
  | f + 1, i, h1, h2 => by
    rw [dec, if_neg (by omega), if_neg (by omega)]
    by_cases e : i + 1 = m
    · obtain ⟨h3, h4⟩ := he i e
      rw [if_pos h3, if_neg h4]
      subst e
      rfl
    · rw [if_neg (ho i (by omega))]
      have := dec_run hm hl ho he f (i + 1) (by omega) (by omega)
      rwa [show ((i + 1 : Nat) : Int) = (i : Int) + 1 by omega] at this
theorem dec_short {l : List Int} {most : Int} (hm : (l.length : Int) < most) (ho : ∀ j : Nat, j < l.length → rd l (j : Int) % 2 ≠ 0) :
    ∀ (f i : Nat) (acc : List Int), i ≤ l.length → l.length < i + f → dec l most f i acc = (⟨[], 0⟩, some 4)
  | 0, i, acc, h1, h2 => by omega
  | f + 1, i, acc, h1, h2 => by
    rw [dec, if_neg (by omega)]
    by_cases e : i = l.length
    · rw [if_pos (by omega)]
    · rw [if_neg (by omega), if_neg (ho i (by omega))]
      have := dec_short hm ho f (i + 1) (acc ++ its (rd l (i : Int)) i 7) (by omega) (by omega)
      rwa [show ((i + 1 : Nat) : Int) = (i : Int) + 1 by omega] at this
theorem dec_inv {l : List Int} {most : Int} : ∀ (f i : Nat), i ≤ l.length → (i : Int) ≤ most →
    (∃ e, dec l most f i (catn l i) = (⟨[], 0⟩, some e)) ∨ ∃ m : Nat, dec l most f i (catn l i) = (⟨catn l m, m⟩, none) ∧ i < m ∧ m ≤ l.length ∧ (m : Int) ≤ most ∧ (∀ j : Nat, i ≤ j → j + 1 < m → rd l (j : Int) % 2 ≠ 0) ∧ ∀ j : Nat, j + 1 = m → rd l (j : Int) % 2 = 0 ∧ its (rd l (j : Int)) j 7 ≠ []
  | 0, i, _, _ => .inl ⟨2, rfl⟩
  | f + 1, i, h1, h2 => by
    rw [dec]
    by_cases e1 : (i : Int) = most
    · rw [if_pos e1]; exact .inl ⟨2, rfl⟩
    rw [if_neg e1]
    by_cases e2 : (i : Int) = (l.length : Int)
    · rw [if_pos e2]; exact .inl ⟨4, rfl⟩
    rw [if_neg e2]
    by_cases e3 : rd l (i : Int) % 2 = 0
    · rw [if_pos e3]
      by_cases e4 : its (rd l (i : Int)) i 7 = []
      · rw [if_pos e4]; exact .inl ⟨3, rfl⟩
      · rw [if_neg e4]
        exact .inr ⟨i + 1, rfl, by omega, by omega, by omega, fun j _ _ => by omega, fun j hj => by
          obtain rfl : j = i := by omega
          exact ⟨e3, e4⟩⟩
    · rw [if_neg e3]
      have := dec_inv (l := l) (most := most) f (i + 1) (by omega) (by omega)
      rw [show ((i + 1 : Nat) : Int) = (i : Int) + 1 by omega] at this
      rcases this with ⟨e, he⟩ | ⟨m, a, b, c, d, g, k⟩
      · exact .inl ⟨e, he⟩
      · refine .inr ⟨m, a, by omega, c, d, fun j h3 h4 => ?_, k⟩
        by_cases e : j = i
        · subst e; exact e3
        · exact g j (by omega) h4
theorem valid_of : ∀ {s : List Int} {last : Int}, s.Pairwise (· < ·) → (∀ x ∈ s, last < x ∧ x ≤ 56) → ∃ z, valid s last = some z
  | [], last, _, _ => ⟨last, rfl⟩
  | a :: r, last, hp, h => by
    obtain ⟨h1, h2⟩ := List.pairwise_cons.1 hp
    have ha := h a (List.mem_cons_self ..)
    rw [valid, if_neg (by omega), if_neg (by omega)]
    exact valid_of h2 fun x hx => ⟨h1 x hx, (h x (List.mem_cons_of_mem _ hx)).2⟩
theorem byte_sum : ∀ c : Fin 256, (c.val : Int) = (c.val : Int) % 2 + ((c.val : Int) / 2 ^ (0 + 1)) % 2 * 2 + ((c.val : Int) / 2 ^ (1 + 1)) % 2 * 4 + ((c.val : Int) / 2 ^ (2 + 1)) % 2 * 8 + ((c.val : Int) / 2 ^ (3 + 1)) % 2 * 16 + ((c.val : Int) / 2 ^ (4 + 1)) % 2 * 32 + ((c.val : Int) / 2 ^ (5 + 1)) % 2 * 64 + ((c.val : Int) / 2 ^ (6 + 1)) % 2 * 128 := by decide +kernel
theorem byte_ext {c d : Int} (hc : 0 ≤ c ∧ c ≤ 255) (hd : 0 ≤ d ∧ d ≤ 255) (h2 : c % 2 = d % 2) (h : ∀ i : Nat, i < 7 → ((c / 2 ^ (i + 1)) % 2 = 1 ↔ (d / 2 ^ (i + 1)) % 2 = 1)) : c = d := by
  have key : ∀ i : Nat, i < 7 → (c / 2 ^ (i + 1)) % 2 = (d / 2 ^ (i + 1)) % 2 := fun i hi => by
    have := h i hi
    generalize c / 2 ^ (i + 1) = u at *
    generalize d / 2 ^ (i + 1) = v at *
    clear h
    omega
  have e1 : ((c.toNat : Nat) : Int) = c := Int.toNat_of_nonneg hc.1
  have e2 : ((d.toNat : Nat) : Int) = d := Int.toNat_of_nonneg hd.1
  have s1 := byte_sum ⟨c.toNat, by omega⟩
  have s2 := byte_sum ⟨d.toNat, by omega⟩
  simp only [e1] at s1
  simp only [e2] at s2
  rw [h2, key 0 (by decide), key 1 (by decide), key 2 (by decide), key 3 (by decide), key 4 (by decide), key 5 (by decide), key 6 (by decide)] at s1
  exact s1.trans s2.symm
theorem rd_app {l r : List Int} {j : Nat} (h : j < l.length) : rd (l ++ r) (j : Int) = rd l (j : Int) := by
  unfold rd; rw [Int.toNat_natCast, List.getD_eq_getElem?_getD, List.getD_eq_getElem?_getD, List.getElem?_append_left h]
theorem rd_cut0 {l : List Int} {m j : Nat} (h : j < m) : rd (cut l 0 (m : Int)) (j : Int) = rd l (j : Int) := by
  unfold rd cut; simp [List.getD_eq_getElem?_getD, List.getElem?_take, h]
theorem base_bits (b : Bool) : ∀ i : Nat, i < 7 → ((if b then (1 : Int) else 0) / 2 ^ (i + 1)) % 2 ≠ 1 := by
  cases b <;> decide
/-- The bytes of good items: by place, what they tell. -/
theorem encb_spec {l : List Int} {z : Int} (hv : valid l 0 = some z) (hne : l ≠ []) :
    ∃ n : Nat, n = ((z + 6) / 7).toNat ∧ 1 ≤ n ∧ n ≤ 8 ∧ (encb l z).length = n ∧ ∀ j : Nat, j < n → (0 ≤ rd (encb l z) (j : Int) ∧ rd (encb l z) (j : Int) ≤ 255) ∧ (rd (encb l z) (j : Int) % 2 = if j + 1 < n then 1 else 0) ∧ ∀ i : Nat, i < 7 → ((rd (encb l z) (j : Int) / 2 ^ (i + 1)) % 2 = 1 ↔ (7 * (j : Int) + (6 - i) + 1) ∈ l) := by
  obtain ⟨hx, hp, hz0, h56, _, hm⟩ := valid_some hv
  have hzm := hx z (hm hne)
  have hz56 := h56 (by omega)
  refine ⟨((z + 6) / 7).toNat, rfl, by omega, by omega, mp_len _ _, fun j hj => ?_⟩
  have e : rd (encb l z) (j : Int) = l.foldl (stp j) (if j + 1 < ((z + 6) / 7).toNat then 1 else 0) := mp_rd hj
  have fs := fold_spec j l (if j + 1 < ((z + 6) / 7).toNat then 1 else 0) (by split <;> omega) (by split <;> omega)
  rw [e]
  refine ⟨⟨fs.1.1, fs.1.2.1⟩, ?_, fun i hi => ?_⟩
  · rw [fs.1.2.2]; split <;> rfl
  · rw [fs.2 i hi]
    have b := base_bits (decide (j + 1 < ((z + 6) / 7).toNat)) i hi
    simp only [decide_eq_true_eq] at b
    exact ⟨fun h => h.resolve_left b, .inr⟩
theorem encb_back {l : List Int} {z : Int} (hv : valid l 0 = some z) (hne : l ≠ []) (r : List Int) : decode (encb l z ++ r) 8 = (⟨l, (encb l z).length⟩, none) := by
  obtain ⟨n, hn, n1, n8, hlen, hj⟩ := encb_spec hv hne
  obtain ⟨hx, hp, hz0, h56, _, hm⟩ := valid_some hv
  have hr : ∀ j : Nat, j < n → rd (encb l z ++ r) (j : Int) = rd (encb l z) (j : Int) := fun j h => rd_app (by rw [hlen]; exact h)
  have hmem : ∀ (j : Nat) (x : Int), j < n → (x ∈ its (rd (encb l z ++ r) (j : Int)) j 7 ↔ x ∈ l ∧ (x - 1) / 7 = (j : Int)) := by
    intro j x h
    rw [mem_its, hr j h]
    constructor
    · rintro ⟨i, h1, h2, h3⟩
      have := ((hj j h).2.2 i h1).1 h3
      rw [← h2] at this
      exact ⟨this, by omega⟩
    · rintro ⟨h1, h2⟩
      have h4 : x = 7 * (j : Int) + (6 - ((6 - (x - 1) % 7).toNat : Int)) + 1 := by omega
      refine ⟨(6 - (x - 1) % 7).toNat, by omega, h4, ?_⟩
      refine ((hj j h).2.2 _ (by omega)).2 ?_
      rw [← h4]; exact h1
  have hcat : catn (encb l z ++ r) n = l := by
    refine sorted_ext (catn_pw _ _) hp fun x => ?_
    rw [mem_catn]
    constructor
    · rintro ⟨j, h1, h2⟩; exact ((hmem j x h1).1 h2).1
    · intro h
      have := hx x h
      refine ⟨((x - 1) / 7).toNat, by omega, (hmem _ x (by omega)).2 ⟨h, by omega⟩⟩
  have := dec_run (l := encb l z ++ r) (most := 8) (m := n) (by omega) (by rw [List.length_append, hlen]; omega) (fun j h => by
      rw [hr j (by omega), (hj j (by omega)).2.1, if_pos h]; decide) (fun j h => by
      refine ⟨by rw [hr j (by omega), (hj j (by omega)).2.1, if_neg (by omega)], fun e => ?_⟩
      have hz := (hmem j z (by omega)).2 ⟨hm hne, by have := hx z (hm hne); omega⟩
      rw [e] at hz; cases hz) 10 0 (by omega) (by omega)
  rw [hcat] at this
  unfold decode
  rw [if_pos (by decide), hlen]
  exact this
theorem encb_short {l : List Int} {z : Int} (hv : valid l 0 = some z) (hne : l ≠ []) : decode (cut (encb l z) 0 (((encb l z).length : Int) - 1)) 8 = (⟨[], 0⟩, some 4) := by
  obtain ⟨n, hn, n1, n8, hlen, hj⟩ := encb_spec hv hne
  have e : (((encb l z).length : Int) - 1) = ((n - 1 : Nat) : Int) := by omega
  have hl : (cut (encb l z) 0 ((n - 1 : Nat) : Int)).length = n - 1 := by unfold cut; simp [hlen]
  rw [e]
  unfold decode
  rw [if_pos (by decide)]
  have := dec_short (l := cut (encb l z) 0 ((n - 1 : Nat) : Int)) (most := 8) (by rw [hl]; omega) (fun j h => by
    rw [hl] at h
    rw [rd_cut0 h, (hj j (by omega)).2.1, if_pos (by omega)]; decide) 10 0 [] (by omega) (by rw [hl]; omega)
  exact this
theorem back_encb {b : List Int} (hb : U8 b) {m : Nat} (hml : m ≤ b.length) (hm8 : (m : Int) ≤ 8) (h0 : 0 < m) (ho : ∀ j : Nat, 0 ≤ j → j + 1 < m → rd b (j : Int) % 2 ≠ 0) (he : ∀ j : Nat, j + 1 = m → rd b (j : Int) % 2 = 0 ∧ its (rd b (j : Int)) j 7 ≠ []) :
    encode (catn b m) = (cut b 0 (m : Int), none) := by
  have hlast := he (m - 1) (by omega)
  obtain ⟨y, hy⟩ := List.exists_mem_of_ne_nil _ hlast.2
  have hym : y ∈ catn b m := (mem_catn b y m).2 ⟨m - 1, by omega, hy⟩
  obtain ⟨i0, hi0, hy2, _⟩ := (mem_its _ _ _ _).1 hy
  have hne : catn b m ≠ [] := fun e => by rw [e] at hym; cases hym
  obtain ⟨z, hz⟩ := valid_of (last := 0) (catn_pw b m) fun x hx => by have := catn_range hx; omega
  obtain ⟨n, hn, n1, n8, hlen, hj⟩ := encb_spec hz hne
  obtain ⟨hx, hp, hz0, h56, _, hmz⟩ := valid_some hz
  have hzr := catn_range (hmz hne)
  have hyz := hx y hym
  have hnm : n = m := by omega
  subst hnm
  unfold encode
  rw [if_neg hne, hz]
  have hcl : (cut b 0 (n : Int)).length = n := by unfold cut; simp; omega
  refine congrArg (fun q => (q, (none : Option Int))) ?_
  refine List.ext_getElem (by rw [hlen, hcl]) fun j h1 h2 => ?_
  have hjn : j < n := by rw [hlen] at h1; exact h1
  have r1 : rd (encb (catn b n) z) (j : Int) = (encb (catn b n) z)[j] := by unfold rd; rw [Int.toNat_natCast, List.getD_eq_getElem?_getD, List.getElem?_eq_getElem h1]; rfl
  have r2 : rd (cut b 0 (n : Int)) (j : Int) = (cut b 0 (n : Int))[j] := by unfold rd; rw [Int.toNat_natCast, List.getD_eq_getElem?_getD, List.getElem?_eq_getElem h2]; rfl
  rw [← r1, ← r2, rd_cut0 hjn]
  have hjj := hj j hjn
  refine byte_ext hjj.1 (hb.rd _) ?_ fun i hi => ?_
  · rw [hjj.2.1]
    by_cases g : j + 1 < n
    · rw [if_pos g]; have := ho j (Nat.zero_le _) g; omega
    · rw [if_neg g]; exact (he j (by omega)).1.symm
  · rw [hjj.2.2 i hi, mem_catn]
    constructor
    · rintro ⟨j', h3, h4⟩
      obtain ⟨i', h5, h6, h7⟩ := (mem_its _ _ _ _).1 h4
      have e1 : j' = j := by omega
      subst e1
      have e2 : i' = i := by omega
      subst e2
      exact h7
    · intro h
      exact ⟨j, hjn, (mem_its _ _ _ _).2 ⟨i, hi, rfl, h⟩⟩
theorem ints_l0 {a b : List Int} (hl : a.length = b.length) (hb : a.length ≤ 4611686018427387904) : ∀ (n i : Nat), i + n = a.length → Ev (fun k => (radomelaw27_ints.hs k).l0 a b false (i : Int)) (decide (a.drop i = b.drop i))
  | 0, i, h => by
    refine Ev.step (fun k => rfl) ?_
    simp only [radomelaw27_ints.hs, radomelaw27_ints.b0, if_neg (show ¬ ((i : Int) < (a.length : Int)) by omega)]
    rw [List.drop_eq_nil_of_le (by omega), List.drop_eq_nil_of_le (by omega)]
    exact Ev.now
  | n + 1, i, h => by
    have h1 : i < a.length := by omega
    have h2 : i < b.length := by omega
    have ra : rd a (i : Int) = a[i] := by unfold rd; rw [Int.toNat_natCast, List.getD_eq_getElem?_getD, List.getElem?_eq_getElem h1]; rfl
    have rb : rd b (i : Int) = b[i] := by unfold rd; rw [Int.toNat_natCast, List.getD_eq_getElem?_getD, List.getElem?_eq_getElem h2]; rfl
    refine Ev.step (fun k => rfl) ?_
    simp only [radomelaw27_ints.hs, radomelaw27_ints.b0, if_pos (show (i : Int) < (a.length : Int) by omega), if_pos (show 0 ≤ (i : Int) ∧ (i : Int) < (a.length : Int) by omega), if_pos (show 0 ≤ (i : Int) ∧ (i : Int) < (b.length : Int) by omega), ra, rb, show w64 ((i : Int) + 1) = ((i + 1 : Nat) : Int) by rw [w64_id (by omega)]; omega]
    rw [List.drop_eq_getElem_cons h1, List.drop_eq_getElem_cons h2]
    by_cases e : a[i] = b[i]
    · simp only [if_pos e]
      have := ints_l0 hl hb n (i + 1) (by omega)
      rwa [show decide (a[i] :: a.drop (i + 1) = b[i] :: b.drop (i + 1)) = decide (a.drop (i + 1) = b.drop (i + 1)) by rw [decide_eq_decide, e]; simp only [List.cons.injEq, true_and]]
    · simp only [if_neg e]
      have : decide (a[i] :: a.drop (i + 1) = b[i] :: b.drop (i + 1)) = false := decide_eq_false fun h => e (List.cons.inj h).1
      rw [this]; exact Ev.now
theorem ints_ev {a b : List Int} (hb : a.length ≤ 4611686018427387904) : Ev (fun k => radomelaw27_ints.f k a b) (decide (a = b)) := by
  simp only [radomelaw27_ints.f]
  by_cases hl : a.length = b.length
  · simp only [if_pos (show (a.length : Int) = (b.length : Int) by omega)]
    exact ints_l0 hl hb a.length 0 (by omega)
  · have : decide (a = b) = false := decide_eq_false fun e => hl (by rw [e])
    simp only [this, if_neg (show ¬ (a.length : Int) = (b.length : Int) by omega)]; exact Ev.now
theorem sure27_fs : radomelaw27_sure.f 12 = some true := by decide +kernel
theorem sure27_ev : Ev (fun k => radomelaw27_sure.f k) true := Ev.of (fun k => radomelaw27_sure.mono k) sure27_fs
theorem j1_ev {b : List Int} (hb : U8 b) (hbl : b.length ≤ 9007199254740992) {t4 : Bool} : Ev (fun k => radomelaw27_FspecBack.j1 k b t4) true := by
  simp only [radomelaw27_FspecBack.j1]
  refine Ev.bind (decode_ev hb 8) ?_
  have hd : decode b 8 = dec b 8 10 ((0 : Nat) : Int) (catn b 0) := by unfold decode; rw [if_pos (by decide)]; rfl
  rcases dec_inv (l := b) (most := 8) 10 0 (by omega) (by omega) with ⟨e, he⟩ | ⟨m, a, hm0, hml, hm8, ho, hev⟩
  · rw [hd, he]
    simp only [Option.isSome_some, if_true, List.length_nil, Int.natCast_zero, decide_true, gd, Bool.true_and]
    exact Ev.bind sure27_ev Ev.now
  · rw [hd, a]
    simp only [Option.isSome_none, Bool.false_eq_true, if_false]
    have hc : (catn b m).length ≤ 9007199254740992 := by
      have : ∀ q, (catn b q).length ≤ 7 * q := fun q => by
        induction q with
        | zero => simp [catn]
        | succ q ih => have := its_len (rd b q) q 7; rw [catn, List.length_append]; omega
      have := this m; omega
    refine Ev.bind (encode_ev hc fun x hx => by have := catn_range hx; omega) ?_
    rw [back_encb hb hml hm8 hm0 ho hev]
    simp only [Option.isNone_none, Bool.true_and, show decide ((m : Int) ≤ (b.length : Int)) = true by simp; omega, if_pos (show (True → (0 : Int) ≤ 0 ∧ (0 : Int) ≤ (m : Int) ∧ (m : Int) ≤ (b.length : Int)) by intro; omega), decide_true, gd, if_true]
    exact Ev.bind sure27_ev Ev.now
theorem FspecBack : radomelaw27_FspecBack.Pure := by
  intro items b hi hb
  have hu : U8 b := u8_of hb.2
  have hbl : b.length ≤ 9007199254740992 := by have := hb.1; unfold maxLen at this; omega
  have hil : items.length ≤ 9007199254740992 := by have := hi.1; unfold maxLen at this; omega
  refine Ev.ex (g := fun k => radomelaw27_FspecBack.f k items b) ?_
  simp only [radomelaw27_FspecBack.f]
  refine Ev.bind (encode_ev hil fun x hx => by have := hi.2 x hx; simpa [Lit.wf, IntKind.min, IntKind.max, IntKind.signed, IntKind.bits] using this) ?_
  by_cases hne : items = []
  · have he : encode items = ([], some 1) := by unfold encode; rw [if_pos hne]
    rw [he]
    simp only [Option.isNone_some, Bool.false_and, Bool.false_eq_true, if_false]
    exact j1_ev hu hbl
  cases hv : valid items 0 with
  | none =>
    have he : encode items = ([], some 1) := by unfold encode; rw [if_neg hne, hv]
    rw [he]
    simp only [Option.isNone_some, Bool.false_and, Bool.false_eq_true, if_false]
    exact j1_ev hu hbl
  | some z =>
    have he : encode items = (encb items z, none) := by unfold encode; rw [if_neg hne, hv]
    obtain ⟨n, hn, n1, n8, hlen, hj⟩ := encb_spec hv hne
    have hU : U8 (encb items z) := by
      intro x hx
      obtain ⟨j, h1, rfl⟩ := List.getElem_of_mem hx
      have h2 : j < n := by rw [hlen] at h1; exact h1
      have r1 : rd (encb items z) (j : Int) = (encb items z)[j] := by unfold rd; rw [Int.toNat_natCast, List.getD_eq_getElem?_getD, List.getElem?_eq_getElem h1]; rfl
      rw [← r1]; exact (hj j h2).1
    have hcl : (cut b 0 (min (b.length : Int) 20)).length ≤ 20 := by unfold cut; simp; omega
    rw [he]
    have hz : decide (((encb items z).length : Int) = 0) = false := by rw [decide_eq_false_iff_not]; omega
    simp only [Option.isNone_none, hz, Bool.and_false, Bool.false_eq_true, if_false, if_true]
    simp only [if_pos (show 0 + (encb items z).length ≤ 140737488355200 by omega), if_pos (show (0 : Int) ≤ 0 ∧ (0 : Int) ≤ min (b.length : Int) 20 ∧ min (b.length : Int) 20 ≤ (b.length : Int) by omega), if_pos (show (encb items z).length + (cut b 0 (min (b.length : Int) 20)).length ≤ 140737488355200 by omega)]
    have hU2 : U8 (encb items z ++ cut b 0 (min (b.length : Int) 20)) := fun x hx => by
      rcases List.mem_append.1 hx with h | h
      · exact hU x h
      · exact hu x (by unfold cut at h; exact List.mem_of_mem_take (List.mem_of_mem_drop h))
    refine Ev.bind (decode_ev hU2 8) ?_
    rw [encb_back hv hne]
    refine Ev.bind (r := true) ?_ ?_
    · simp only [gd, Option.isSome_none, Bool.not_false, if_true]
      have := ints_ev (a := items) (b := items) (by omega)
      simpa using this
    · simp only [Option.isSome_none, Bool.not_true, Bool.or_self, decide_true, Bool.false_eq_true, if_false]
      have hw : w64 (((encb items z).length : Int) - 1) = ((encb items z).length : Int) - 1 := w64_id (by omega)
      simp only [hw, if_pos (show (0 : Int) ≤ 0 ∧ (0 : Int) ≤ ((encb items z).length : Int) - 1 ∧ ((encb items z).length : Int) - 1 ≤ ((encb items z).length : Int) by omega)]
      have hU3 : U8 (cut (encb items z) 0 (((encb items z).length : Int) - 1)) := fun x hx => hU x (by unfold cut at hx; exact List.mem_of_mem_take (List.mem_of_mem_drop hx))
      refine Ev.bind (decode_ev hU3 8) ?_
      rw [encb_short hv hne]
      simp only [errN, Option.getD_some, if_true]
      exact j1_ev hu hbl
end Go.Proofs.YtlokgnjlnefbbaaDoor.Pure
