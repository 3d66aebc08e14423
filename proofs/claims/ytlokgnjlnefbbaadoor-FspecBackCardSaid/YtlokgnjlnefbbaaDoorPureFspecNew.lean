/- Heads of records (FSPEC), in plain words: the items of a byte, the bytes of ascending items, and what the program's loops come to. -/
import Derived.Test.YtlokgnjlnefbbaaDoorGFSp
namespace Go.Proofs.YtlokgnjlnefbbaaDoor.Pure
open Go.RowKit Go.Proofs.YtlokgnjlnefbbaaDoorK Go.Proofs.YtlokgnjlnefbbaaDoor.GFS
set_option linter.unusedVariables false
set_option linter.unusedSimpArgs false
theorem ev_some {α : Type} {g : Nat → Option α} {r : α} (h : ∀ k, g k = some r) : Ev g r := ⟨0, fun k _ => h k⟩
theorem w64_id {x : Int} (h : -9223372036854775808 ≤ x ∧ x ≤ 9223372036854775807) : w64 x = x := by
  simp only [w64, IntKind.wrap, IntKind.bits, IntKind.signed]
  simp
  omega
theorem rd_drop {l : List Int} {i : Nat} {a : Int} {r : List Int} (h : l.drop i = a :: r) : rd l (i : Int) = a ∧ i < l.length ∧ l.drop (i + 1) = r := by
  have hl : i < l.length := by
    rcases Nat.lt_or_ge i l.length with h1 | h1
    · exact h1
    · rw [List.drop_eq_nil_of_le h1] at h; cases h
  rw [List.drop_eq_getElem_cons hl] at h
  injection h with h1 h2
  refine ⟨?_, hl, h2⟩
  unfold rd
  rw [Int.toNat_natCast, List.getD_eq_getElem?_getD, List.getElem?_eq_getElem hl]
  exact h1

/-! ### a byte's items -/
def its (c n : Int) : Nat → List Int
  | 0 => []
  | j + 1 => if (c / 2 ^ (j + 1)) % 2 = 0 then its c n j else (7 * n + (6 - j) + 1) :: its c n j
theorem its_len (c n : Int) : ∀ j, (its c n j).length ≤ j
  | 0 => Nat.le_refl _
  | j + 1 => by
    have := its_len c n j
    unfold its
    split
    · omega
    · simp; omega
theorem bit_and : ∀ c : Fin 256, ∀ j : Fin 7, (iand .u8 (c.val : Int) (128 / 2 ^ shn .u8 (6 - (j.val : Int))) = 0) ↔ (((c.val : Int) / 2 ^ (j.val + 1)) % 2 = 0) := by decide +kernel
theorem bit_and' {c : Int} (h0 : 0 ≤ c) (h1 : c ≤ 255) {j : Nat} (hj : j < 7) : (iand .u8 c (128 / 2 ^ shn .u8 (6 - (j : Int))) = 0) ↔ ((c / 2 ^ (j + 1)) % 2 = 0) := by
  have h := bit_and ⟨c.toNat, by omega⟩ ⟨j, hj⟩
  have e : ((c.toNat : Nat) : Int) = c := Int.toNat_of_nonneg h0
  simpa only [e] using h
theorem and_one : ∀ c : Fin 256, (iand .u8 (c.val : Int) 1 = 0) ↔ ((c.val : Int) % 2 = 0) := by decide +kernel
theorem and_one' {c : Int} (h0 : 0 ≤ c) (h1 : c ≤ 255) : (iand .u8 c 1 = 0) ↔ (c % 2 = 0) := by
  have h := and_one ⟨c.toNat, by omega⟩
  have e : ((c.toNat : Nat) : Int) = c := Int.toNat_of_nonneg h0
  simpa only [e] using h
theorem items_ev {c n : Int} (h0 : 0 ≤ c) (h1 : c ≤ 255) (hn : 0 ≤ n ∧ n ≤ 100) : ∀ (j : Nat) (acc : List Int), j ≤ 7 → acc.length + j ≤ 1000 →
    Ev (fun k => (fspec_items.hs k).l0 c n acc (7 - (j : Int))) (acc ++ its c n j)
  | 0, acc, _, _ => by
    refine Ev.step (fun k => rfl) ?_
    refine ev_some fun k => ?_
    simp only [fspec_items.hs, fspec_items.b0]
    rw [if_neg (by omega)]
    simp [its]
  | j + 1, acc, hj, ha => by
    refine Ev.step (fun k => rfl) ?_
    have e1 : (7 - ((j + 1 : Nat) : Int)) = 6 - (j : Int) := by omega
    have e2 : w64 (6 - (j : Int) + 1) = 7 - (j : Int) := by rw [w64_id (by omega)]; omega
    have e3 : w64 (w64 (w64 (n * 7) + (6 - (j : Int))) + 1) = 7 * n + (6 - j) + 1 := by
      rw [w64_id (x := n * 7) (by omega), w64_id (x := n * 7 + (6 - (j : Int))) (by omega), w64_id (x := n * 7 + (6 - (j : Int)) + 1) (by omega)]; omega
    rw [e1]
    simp only [fspec_items.hs, fspec_items.b0, e2, e3, show (6 - (j : Int)) < 7 by omega, show 0 ≤ (6 - (j : Int)) by omega, if_true, bit_and' h0 h1 (show j < 7 by omega)]
    by_cases hb : (c / 2 ^ (j + 1)) % 2 = 0
    · simp only [hb, if_true]
      have := items_ev h0 h1 hn j acc (by omega) (by omega)
      simpa [its, hb] using this
    · simp only [hb, if_false, show acc.length + 1 ≤ 17592186044288 by omega, if_true]
      have := items_ev h0 h1 hn j (acc ++ [7 * n + (6 - j) + 1]) (by omega) (by simp; omega)
      simpa [its, hb] using this
theorem items_f {c n : Int} (h0 : 0 ≤ c) (h1 : c ≤ 255) (hn : 0 ≤ n ∧ n ≤ 100) : Ev (fun k => fspec_items.f k c n) (its c n 7) := by
  have := items_ev h0 h1 hn 7 [] (by omega) (by simp)
  exact this
/-! ### heads read -/
def dec (l : List Int) (most : Int) : Nat → Int → List Int → (fspec_Head × Option Int)
  | 0, _, _ => (⟨[], 0⟩, some 2)
  | f + 1, i, acc => if i = most then (⟨[], 0⟩, some 2) else if i = (l.length : Int) then (⟨[], 0⟩, some 4) else
    if rd l i % 2 = 0 then (if its (rd l i) i 7 = [] then (⟨[], 0⟩, some 3) else (⟨acc ++ its (rd l i) i 7, i + 1⟩, none)) else dec l most f (i + 1) (acc ++ its (rd l i) i 7)
def U8 (l : List Int) : Prop := ∀ x ∈ l, 0 ≤ x ∧ x ≤ 255
theorem U8.rd {l : List Int} (h : U8 l) (i : Int) : 0 ≤ rd l i ∧ rd l i ≤ 255 := by
  unfold Go.Proofs.YtlokgnjlnefbbaaDoorK.rd
  rw [List.getD_eq_getElem?_getD]
  cases e : l[i.toNat]? with
  | none => simp
  | some x => exact h x (List.mem_of_getElem? e)
theorem u8_of {l : List Int} (h : ∀ x ∈ l, (Lit.int .u8 x).wf = true) : U8 l := fun x hx => by
  have := h x hx
  simpa [Lit.wf, IntKind.min, IntKind.max, IntKind.signed, IntKind.bits] using this

theorem dec_ev {l : List Int} (hl : U8 l) {most : Int} (hm : 1 ≤ most ∧ most ≤ 8) : ∀ (f : Nat) (i : Int) (acc : List Int), (most - i : Int) + 1 ≤ f → 0 ≤ i → i ≤ most → i ≤ l.length → (acc.length : Int) ≤ 7 * i →
    Ev (fun k => (fspec_Decode.hs k).l0 l most [] 0 none acc 0 i) (dec l most f i acc)
  | 0, i, acc, hf, _, _, _, _ => by omega
  | f + 1, i, acc, hf, h0, him, hil, ha => by
    refine Ev.step (fun k => rfl) ?_
    simp only [fspec_Decode.hs, fspec_Decode.b0]
    by_cases h1 : i = most
    · subst h1; refine ev_some fun k => ?_; simp [dec]
    · by_cases h2 : i = (l.length : Int)
      · refine ev_some fun k => ?_; rw [if_neg h1, if_pos h2]; simp only [dec, h2, if_true]; rw [if_neg (by omega)]
      · have hlt : i < (l.length : Int) := by omega
        have hc := hl.rd i
        simp only [h1, h2, if_false, h0, hlt, and_self, if_true, and_one' hc.1 hc.2, show w64 (i + 1) = i + 1 from w64_id (by omega)]
        have hlen := its_len (rd l i) i 7
        refine Ev.bind (items_f hc.1 hc.2 (by omega)) ?_
        have hle : acc.length + (its (rd l i) i 7).length ≤ 17592186044288 := by omega
        simp only [hle, if_true]
        by_cases h3 : rd l i % 2 = 0
        · simp only [h3, if_true, dec, h1, h2, if_false]
          refine ev_some fun k => ?_
          by_cases h4 : its (rd l i) i 7 = []
          · simp [h4]
          · rw [if_neg (by intro h; exact h4 (List.eq_nil_of_length_eq_zero (by omega))), if_neg h4]
        · simp only [h3, if_false, dec, h1, h2]
          have := dec_ev hl hm f (i + 1) (acc ++ its (rd l i) i 7) (by omega) (by omega) (by omega) (by omega) (by rw [List.length_append]; omega)
          exact this
def decode (l : List Int) (most : Int) : (fspec_Head × Option Int) := if 1 ≤ most ∧ most ≤ 8 then dec l most 10 0 [] else (⟨[], 0⟩, some 1)
theorem decode_ev {l : List Int} (hl : U8 l) (most : Int) : Ev (fun k => fspec_Decode.f k l most) (decode l most) := by
  simp only [fspec_Decode.f, decode]
  by_cases h1 : 1 ≤ most ∧ most ≤ 8
  · have : (decide (most < 1) || decide (8 < most)) = false := by simp only [Bool.or_eq_false_iff, decide_eq_false_iff_not]; omega
    simp only [h1, and_self, if_true, this, Bool.false_eq_true, if_false]
    exact dec_ev hl (by omega) 10 0 [] (by omega) (by omega) (by omega) (by omega) (by simp)
  · have : (decide (most < 1) || decide (8 < most)) = true := by simp only [Bool.or_eq_true, decide_eq_true_eq]; omega
    simp only [h1, if_false, this, if_true]; exact Ev.now
/-! ### bytes of ascending items -/
def valid : List Int → Int → Option Int
  | [], last => some last
  | a :: r, last => if a ≤ last then none else if a > 56 then none else valid r a
theorem valid_some : ∀ {s : List Int} {last z : Int}, valid s last = some z → (∀ x ∈ s, last < x ∧ x ≤ z) ∧ s.Pairwise (· < ·) ∧ last ≤ z ∧ (last ≤ 56 → z ≤ 56) ∧ (s = [] → z = last) ∧ (s ≠ [] → z ∈ s)
  | [], last, z, h => by
    injection h with h; subst h
    simp
  | a :: r, last, z, h => by
    unfold valid at h
    split at h
    · cases h
    · split at h
      · cases h
      · rename_i h1 h2
        obtain ⟨hx, hp, hz, h56, hn, hne⟩ := valid_some h
        refine ⟨fun x hm => ?_, List.pairwise_cons.2 ⟨fun x hm => (hx x hm).1, hp⟩, by omega, fun _ => h56 (by omega), (fun h => by cases h), fun _ => ?_⟩
        · rcases List.mem_cons.1 hm with rfl | hm
          · omega
          · have := hx x hm; omega
        · by_cases hr : r = []
          · rw [hn hr]; exact List.mem_cons_self
          · exact List.mem_cons_of_mem _ (hne hr)
theorem val_ev {l : List Int} (hlen : l.length ≤ 9007199254740992) {n : Int} (hn : n = (l.length : Int)) {R : List Int × Option Int} (hw : ∀ x ∈ l, -9223372036854775808 ≤ x ∧ x ≤ 9223372036854775807) :
    ∀ (s : List Int) (i : Nat) (last : Int), l.drop i = s → i ≤ l.length →
      (valid s last = none → R = ([], some 1)) → (∀ z, valid s last = some z → Ev (fun k => (fspec_Encode.hs k).l0 l [] none z l n n) R) → Ev (fun k => (fspec_Encode.hs k).l0 l [] none last l n i) R
  | [], i, last, hd, hi, _, hs => by
    have : l.length ≤ i := by simpa using hd
    have h := hs last rfl
    have e : (i : Int) = n := by omega
    rw [e]; exact h
  | a :: r, i, last, hd, hi, hnone, hs => by
    obtain ⟨e1, e2, e3⟩ := rd_drop hd
    refine Ev.step (fun k => rfl) ?_
    simp only [fspec_Encode.hs, fspec_Encode.b0, show (i : Int) < n by omega, show 0 ≤ (i : Int) by omega, show (i : Int) < (l.length : Int) by omega, and_self, if_true, e1, show w64 ((i : Int) + 1) = ((i + 1 : Nat) : Int) by rw [w64_id (by omega)]; omega, Bool.or_eq_true, decide_eq_true_eq]
    by_cases h1 : a ≤ last
    · simp only [h1, true_or, if_true]
      rw [hnone (by simp [valid, h1])]; exact Ev.now
    · by_cases h2 : 56 < a
      · simp only [h2, or_true, if_true]
        rw [hnone (by simp [valid, h1, h2])]; exact Ev.now
      · simp only [h1, h2, or_self, if_false]
        exact val_ev hlen hn hw r (i + 1) a e3 (by omega) (fun h => hnone (by simp [valid, h1, h2, h])) (fun z hz => hs z (by simp [valid, h1, h2, hz]))
def mp (n : Nat) (g : Nat → Int) : List Int := (List.range n).map g
theorem mp_len (n : Nat) (g : Nat → Int) : (mp n g).length = n := by simp [mp]
theorem mp_rd {n : Nat} {g : Nat → Int} {i : Nat} (h : i < n) : rd (mp n g) (i : Int) = g i := by
  unfold rd mp
  rw [Int.toNat_natCast, List.getD_eq_getElem?_getD, List.getElem?_map, List.getElem?_range h]; rfl
theorem mp_set {n : Nat} {g : Nat → Int} {i : Nat} (h : i < n) (v : Int) : (mp n g).set i v = mp n (fun j => if j = i then v else g j) := by
  unfold mp
  apply List.ext_getElem?
  intro j
  rw [List.getElem?_set, List.getElem?_map, List.getElem?_map]
  by_cases e : i = j
  · subst e; simp [h]
  · by_cases hj : j < n
    · rw [List.getElem?_range hj]; simp [e, Ne.symm e]
    · simp [e, hj]
theorem mp_replicate (n : Nat) (x : Int) : List.replicate n x = mp n (fun _ => x) := by
  unfold mp; apply List.ext_getElem <;> simp
theorem mp_take (n m : Nat) (g : Nat → Int) (h : m ≤ n) : (mp n g).take m = mp m g := by
  unfold mp; rw [← List.map_take, List.take_range, Nat.min_eq_left h]
theorem mp_congr {n : Nat} {g g' : Nat → Int} (h : ∀ j, j < n → g j = g' j) : mp n g = mp n g' := by
  unfold mp; exact List.map_congr_left fun j hj => h j (List.mem_range.1 hj)
/-- The first loop over the bytes: 'another one follows' at all but the last. -/
theorem more_ev {l : List Int} {n : Nat} (hn : n ≤ 100) {R : List Int × Option Int} : ∀ (d i : Nat) (g : Nat → Int), i + d + 1 = n →
    Ev (fun k => (fspec_Encode.hs k).l2 [] none (mp n (fun j => if i ≤ j ∧ j + 1 < n then 1 else g j)) l (l.length : Int) 0) R → Ev (fun k => (fspec_Encode.hs k).l1 l [] none (mp n g) ((n - 1 : Nat) : Int) (i : Int)) R
  | 0, i, g, h, hr => by
    refine Ev.step (fun k => rfl) ?_
    simp only [fspec_Encode.hs, fspec_Encode.b1, show ¬ ((i : Int) < ((n - 1 : Nat) : Int)) by omega, if_false]
    rw [mp_congr (g' := fun j => if i ≤ j ∧ j + 1 < n then 1 else g j) (fun j hj => by rw [if_neg (by omega)])]
    exact hr
  | d + 1, i, g, h, hr => by
    refine Ev.step (fun k => rfl) ?_
    simp only [fspec_Encode.hs, fspec_Encode.b1, show (i : Int) < ((n - 1 : Nat) : Int) by omega, show 0 ≤ (i : Int) by omega, mp_len, show (i : Int) < (n : Int) by omega, and_self, if_true, show w64 ((i : Int) + 1) = ((i + 1 : Nat) : Int) by rw [w64_id (by omega)]; omega, Int.toNat_natCast]
    rw [mp_set (by omega)]
    refine more_ev hn d (i + 1) _ (by omega) ?_
    rw [mp_congr (g' := fun j => if i ≤ j ∧ j + 1 < n then 1 else g j) (fun j hj => ?_)]
    · exact hr
    · by_cases e : j = i
      · subst e; simp only [if_true]; rw [if_neg (by omega), if_pos (by omega)]
      · simp only [e, if_false]
        by_cases h1 : i + 1 ≤ j ∧ j + 1 < n
        · rw [if_pos h1, if_pos (by omega)]
        · rw [if_neg h1, if_neg (by omega)]
def orb (x n : Int) : Int := ior .u8 x (128 / 2 ^ shn .u8 ((n - 1) % 7))
def stp (j : Nat) (b n : Int) : Int := if (n - 1) / 7 = (j : Int) then orb b n else b
theorem or_ev {l : List Int} (hlen : l.length ≤ 9007199254740992) {n : Nat} {R : List Int × Option Int} (hx : ∀ x ∈ l, 1 ≤ x ∧ x ≤ 56 ∧ (x - 1) / 7 < (n : Int)) : ∀ (s : List Int) (i : Nat) (g : Nat → Int), l.drop i = s → i ≤ l.length →
    R = (mp n (fun j => s.foldl (stp j) (g j)), none) → Ev (fun k => (fspec_Encode.hs k).l2 [] none (mp n g) l (l.length : Int) (i : Int)) R
  | [], i, g, hd, hi, hr => by
    have : l.length ≤ i := by simpa using hd
    refine Ev.step (fun k => rfl) ?_
    simp only [fspec_Encode.hs, fspec_Encode.b2, show ¬ ((i : Int) < (l.length : Int)) by omega, if_false]
    rw [hr]; exact Ev.now
  | a :: r, i, g, hd, hi, hr => by
    obtain ⟨e1, e2, e3⟩ := rd_drop hd
    have ha := hx a (by rw [← e1]; unfold rd; rw [Int.toNat_natCast, List.getD_eq_getElem?_getD, List.getElem?_eq_getElem e2]; exact List.getElem_mem e2)
    refine Ev.step (fun k => rfl) ?_
    have w1 : w64 (a - 1) = a - 1 := w64_id (by omega)
    have w2 : Int.tdiv (a - 1) 7 = (((a - 1) / 7).toNat : Int) := by rw [Int.tdiv_eq_ediv_of_nonneg (by omega)]; omega
    have w3 : w64 ((((a - 1) / 7).toNat : Nat) : Int) = (((a - 1) / 7).toNat : Int) := w64_id (by omega)
    have w4 : Int.tmod (a - 1) 7 = (a - 1) % 7 := Int.tmod_eq_emod_of_nonneg (by omega)
    have hlt : ((a - 1) / 7).toNat < n := by omega
    simp only [fspec_Encode.hs, fspec_Encode.b2, show (i : Int) < (l.length : Int) by omega, show 0 ≤ (i : Int) by omega, and_self, if_true, e1, w1, w2, w3, w4, mp_len, show (0 : Int) ≤ (((a - 1) / 7).toNat : Int) by omega, show (((a - 1) / 7).toNat : Int) < (n : Int) by omega, show 0 ≤ (a - 1) % 7 by omega, Int.toNat_natCast, show w64 ((i : Int) + 1) = ((i + 1 : Nat) : Int) by rw [w64_id (by omega)]; omega]
    rw [mp_rd hlt, mp_set hlt]
    refine or_ev hlen hx r (i + 1) _ e3 (by omega) ?_
    rw [hr]
    congr 1
    refine mp_congr fun j hj => ?_
    rw [List.foldl_cons]
    congr 1
    unfold stp orb
    by_cases e : j = ((a - 1) / 7).toNat
    · subst e; rw [if_pos (by omega)]; simp
    · rw [if_neg (by omega), if_neg e]
def encb (l : List Int) (z : Int) : List Int := mp ((z + 6) / 7).toNat (fun j => l.foldl (stp j) (if j + 1 < ((z + 6) / 7).toNat then 1 else 0))
def encode (l : List Int) : List Int × Option Int := if l = [] then ([], some 1) else match valid l 0 with | none => ([], some 1) | some z => (encb l z, none)
theorem encode_ev {l : List Int} (hlen : l.length ≤ 9007199254740992) (hw : ∀ x ∈ l, -9223372036854775808 ≤ x ∧ x ≤ 9223372036854775807) : Ev (fun k => fspec_Encode.f k l) (encode l) := by
  simp only [fspec_Encode.f, encode]
  by_cases h0 : l = []
  · subst h0; simp; exact Ev.now
  · have hl : ¬ ((l.length : Int) = 0) := by intro h; exact h0 (List.eq_nil_of_length_eq_zero (by omega))
    simp only [h0, hl, if_false]
    refine val_ev hlen rfl hw l 0 0 rfl (by omega) (fun h => by rw [h]) (fun z hz => ?_)
    rw [hz]
    obtain ⟨hx, hp, hz0, h56, _, hne⟩ := valid_some hz
    have hzm := hx z (hne h0)
    have hz56 := h56 (by omega)
    refine Ev.step (fun k => rfl) ?_
    simp only [fspec_Encode.hs, fspec_Encode.b0, show ¬ ((l.length : Int) < (l.length : Int)) by omega, if_false]
    have w1 : w64 (w64 (z + 7) - 1) = z + 6 := by rw [w64_id (x := z + 7) (by omega), w64_id (by omega)]; omega
    have w2 : Int.tdiv (z + 6) 7 = (((z + 6) / 7).toNat : Int) := by rw [Int.tdiv_eq_ediv_of_nonneg (by omega)]; omega
    obtain ⟨n, hn⟩ : ∃ n, n = ((z + 6) / 7).toNat := ⟨_, rfl⟩
    have hn1 : 1 ≤ n ∧ n ≤ 8 := by omega
    rw [w1, w2, ← hn]
    have w3 : w64 ((n : Nat) : Int) = (n : Int) := w64_id (by omega)
    rw [w3]
    have w4 : w64 ((n : Int) - 1) = ((n - 1 : Nat) : Int) := by rw [w64_id (by omega)]; omega
    simp only [show (0 : Int) ≤ (n : Int) by omega, show (n : Int) ≤ 281474976710656 by omega, and_self, if_true, Int.toNat_natCast, mp_replicate, mp_len, w4, show (0 : Int) ≤ ((n - 1 : Nat) : Int) by omega, show ((n - 1 : Nat) : Int) ≤ (n : Int) by omega, Int.le_refl, Int.sub_zero]
    refine more_ev (by omega) (n - 1) 0 _ (by omega) ?_
    refine or_ev hlen (fun x hxm => by have := hx x hxm; omega) l 0 _ rfl (by omega) ?_
    unfold encb
    rw [← hn]
    simp
end Go.Proofs.YtlokgnjlnefbbaaDoor.Pure
