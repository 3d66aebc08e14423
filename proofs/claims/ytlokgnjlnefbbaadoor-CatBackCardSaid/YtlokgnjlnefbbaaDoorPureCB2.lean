/- Records of category 48: whole records and datagrams. -/
import Derived.Test.YtlokgnjlnefbbaaDoorPureCB1
namespace Go.Proofs.YtlokgnjlnefbbaaDoor.Pure
open Go.RowKit Go.Proofs.YtlokgnjlnefbbaaDoorK Go.Proofs.YtlokgnjlnefbbaaDoor.GCB
set_option linter.unusedVariables false
set_option linter.unusedSimpArgs false
set_option maxRecDepth 100000
theorem isN {α : Type} {x : Option α} (h : ¬ x.isSome = true) : x = none := by cases x <;> simp_all
structure WfC (r : cat048_Record) : Prop where
  s : 0 ≤ r.f_Source ∧ r.f_Source ≤ 65535
  rg : -9223372036854775808 ≤ r.f_Plot.f_Range ∧ r.f_Plot.f_Range ≤ 9223372036854775807
  a : 0 ≤ r.f_Plot.f_Azimuth ∧ r.f_Plot.f_Azimuth ≤ 65535
  t : -9223372036854775808 ≤ r.f_Plot.f_Time ∧ r.f_Plot.f_Time ≤ 9223372036854775807
theorem byt_cut {b : List Int} (hb : Byt b) (x y : Int) : Byt (cut b x y) := fun z hz => by
  unfold cut at hz
  exact hb z (List.mem_of_mem_take (List.mem_of_mem_drop hz))
theorem cut_len {b : List Int} (x y : Int) : (cut b x y).length ≤ b.length := by
  unfold cut; simp; omega
theorem take_ex {b : List Int} (hb : Byt b) (hl : b.length ≤ 1000000) {r : cat048_Record} (hr : WfC r) {item : Int} (h4 : item = 4 → (b.length : Int) = 4) : ∃ R : Option Int × cat048_Record, Ev (fun k => cat048_Record_take.f k r item b) R ∧ WfC R.2 := by
  have hn := cnum_ev hb hl
  have hw := w64_rng (un 0 b)
  unfold cat048_Record_take.f
  by_cases h1 : item = 1
  · refine ⟨(none, ⟨(w64 (un 0 b)) % 65536, r.f_Plot, r.f_Is⟩), ?_, ⟨by simp only []; omega, hr.rg, hr.a, hr.t⟩⟩
    simp only [if_pos h1]; exact Ev.bind hn Ev.now
  · by_cases h2 : item = 2
    · by_cases g : 11059200 ≤ w64 (un 0 b)
      · refine ⟨(some 5, r), ?_, hr⟩
        simp only [if_neg h1, if_pos h2]
        refine Ev.bind hn ?_
        simp only [if_pos g]; exact Ev.now
      · refine ⟨(none, ⟨r.f_Source, ⟨r.f_Plot.f_Range, r.f_Plot.f_Azimuth, w64 (un 0 b)⟩, r.f_Is⟩), ?_, ⟨hr.s, hr.rg, hr.a, hw⟩⟩
        simp only [if_neg h1, if_pos h2]
        refine Ev.bind hn ?_
        simp only [if_neg g]; exact Ev.bind hn Ev.now
    · by_cases h3 : item = 4
      · have hl4 := h4 h3
        have n1 := cnum_ev (byt_cut hb 0 2) (Nat.le_trans (cut_len 0 2) hl)
        have n2 := cnum_ev (byt_cut hb 2 (b.length : Int)) (Nat.le_trans (cut_len _ _) hl)
        generalize un 0 (cut b 0 2) = u1 at n1
        generalize un 0 (cut b 2 (b.length : Int)) = u2 at n2
        have hw1 := w64_rng (w64 u1 * 7585792)
        refine ⟨(none, ⟨r.f_Source, ⟨w64 (w64 u1 * 7585792), (w64 u2) % 65536, r.f_Plot.f_Time⟩, r.f_Is⟩), ?_, ⟨hr.s, hw1, by simp only []; omega, hr.t⟩⟩
        simp only [if_neg h1, if_neg h2, if_pos h3, if_pos (show (0 : Int) ≤ 0 ∧ (0 : Int) ≤ 2 ∧ 2 ≤ (b.length : Int) by omega), if_pos (show (0 : Int) ≤ 2 ∧ (2 : Int) ≤ (b.length : Int) ∧ (b.length : Int) ≤ (b.length : Int) by omega)]
        exact Ev.bind n1 (Ev.bind n2 Ev.now)
      · refine ⟨(none, r), ?_, hr⟩
        simp only [if_neg h1, if_neg h2, if_neg h3]; exact Ev.now
theorem idx_l0 {s : List Int} {v : Int} (hl : s.length ≤ 1000000) : ∀ (d i : Nat), s.length = i + d → ∃ q : Int, Ev (fun k => (slices_Index_int_int.hs k).l0 s v 0 (s.length : Int) (i : Int)) q
  | 0, i, e => by
    refine ⟨-1, Ev.step (fun k => rfl) ?_⟩
    simp only [slices_Index_int_int.hs, slices_Index_int_int.b0, if_neg (show ¬ (i : Int) < (s.length : Int) by omega)]; exact Ev.now
  | d + 1, i, e => by
    have hi : i < s.length := by omega
    by_cases h : v = rd s (i : Int)
    · refine ⟨(i : Int), Ev.step (fun k => rfl) ?_⟩
      simp only [slices_Index_int_int.hs, slices_Index_int_int.b0, if_pos (show (i : Int) < (s.length : Int) by omega), if_pos (show (0 : Int) ≤ (i : Int) ∧ (i : Int) < (s.length : Int) by omega), if_pos h]; exact Ev.now
    · obtain ⟨q, hq⟩ := idx_l0 hl (v := v) d (i + 1) (by omega)
      refine ⟨q, Ev.step (fun k => rfl) ?_⟩
      simp only [slices_Index_int_int.hs, slices_Index_int_int.b0, if_pos (show (i : Int) < (s.length : Int) by omega), if_pos (show (0 : Int) ≤ (i : Int) ∧ (i : Int) < (s.length : Int) by omega), if_neg h, wsc (show i < 1000000000 by omega)]; exact hq
theorem has_ex {h : fspec_Head} (hl : h.f_Items.length ≤ 1000000) (v : Int) : ∃ q : Bool, Ev (fun k => fspec_Has.f k h v) q := by
  obtain ⟨q, hq⟩ := idx_l0 hl (v := v) h.f_Items.length 0 (by omega)
  refine ⟨decide (0 ≤ q), ?_⟩
  unfold fspec_Has.f slices_Contains_int_int.f slices_Index_int_int.f
  exact Ev.bind (Ev.bind hq Ev.now) Ev.now
theorem gd_ex {b : Bool} {g : Nat → Option Bool} {q : Bool} (h : Ev g q) : ∃ q' : Bool, Ev (fun k => gd b (g k) false) q' := by
  cases b with
  | true => exact ⟨q, h⟩
  | false => exact ⟨false, Ev.now⟩
theorem rec_l0 {b : List Int} (hb : Byt b) (hl : b.length ≤ 1000000) {h : fspec_Head} (hI : h.f_Items.length ≤ 1000000) : ∀ (d i : Nat) (r : cat048_Record) (at_ : Int), h.f_Items.length = i + d → 0 ≤ at_ ∧ at_ ≤ b.length → WfC r →
    ∃ R : cat048_Record × Int × Option Int, Ev (fun k => (cat048_record.hs k).l0 b 0 0 0 0 false 0 none h.f_Items h.f_Bytes r.f_Source r.f_Plot.f_Range r.f_Plot.f_Azimuth r.f_Plot.f_Time r.f_Is at_ h.f_Items (h.f_Items.length : Int) (i : Int)) R ∧ (R.2.2 = none → at_ ≤ R.2.1 ∧ R.2.1 ≤ b.length ∧ WfC R.1)
  | 0, i, r, at_, e, ha, hr => by
    obtain ⟨q1, e1⟩ := has_ex (h := ⟨h.f_Items, h.f_Bytes⟩) hI 1
    obtain ⟨p2, f2⟩ := has_ex (h := ⟨h.f_Items, h.f_Bytes⟩) hI 2
    obtain ⟨p4, f4⟩ := has_ex (h := ⟨h.f_Items, h.f_Bytes⟩) hI 4
    obtain ⟨q2, e2⟩ := gd_ex (b := q1) f2
    obtain ⟨q4, e4⟩ := gd_ex (b := q1 && q2) f4
    refine ⟨(⟨r.f_Source, ⟨r.f_Plot.f_Range, r.f_Plot.f_Azimuth, r.f_Plot.f_Time⟩, (q1 && q2) && q4⟩, at_, none), Ev.step (fun k => rfl) ?_, fun _ => ⟨Int.le_refl _, ha.2, ⟨hr.s, hr.rg, hr.a, hr.t⟩⟩⟩
    simp only [cat048_record.hs, cat048_record.b0, if_neg (show ¬ (i : Int) < (h.f_Items.length : Int) by omega)]
    exact Ev.bind e1 (Ev.bind e2 (Ev.bind e4 Ev.now))
  | d + 1, i, r, at_, e, ha, hr => by
    have hi : i < h.f_Items.length := by omega
    obtain ⟨Q, q1, q2⟩ := size_ex (byt_cut hb at_ (b.length : Int)) (Nat.le_trans (cut_len at_ (b.length : Int)) hl) (rd h.f_Items (i : Int))
    have hc : ((cut b at_ (b.length : Int)).length : Int) = b.length - at_ := by
      obtain ⟨m, rfl⟩ : ∃ m : Nat, (m : Int) = at_ := ⟨at_.toNat, by omega⟩
      unfold cut; rw [Int.toNat_natCast, Int.toNat_natCast, List.length_drop, List.length_take]; omega
    by_cases hq : Q.2.isSome = true
    · refine ⟨(⟨0, ⟨0, 0, 0⟩, false⟩, 0, Q.2), Ev.step (fun k => rfl) ?_, fun e => by simp only [] at e; rw [e] at hq; cases hq⟩
      simp only [cat048_record.hs, cat048_record.b0, if_pos (show (i : Int) < (h.f_Items.length : Int) by omega), if_pos (show (0 : Int) ≤ (i : Int) ∧ (i : Int) < (h.f_Items.length : Int) by omega), if_pos (show (0 : Int) ≤ at_ ∧ at_ ≤ (b.length : Int) ∧ (b.length : Int) ≤ (b.length : Int) by omega)]
      refine Ev.bind q1 ?_
      simp only [if_pos hq]; exact Ev.now
    · obtain ⟨n0, n1, n4⟩ := q2 (isN hq)
      have hw : w64 (at_ + Q.1) = at_ + Q.1 := wi (by omega)
      have hc2 : ((cut b at_ (at_ + Q.1)).length : Int) = Q.1 := by
        obtain ⟨m, rfl⟩ : ∃ m : Nat, (m : Int) = at_ := ⟨at_.toNat, by omega⟩
        obtain ⟨m2, hm2⟩ : ∃ m2 : Nat, (m2 : Int) = (m : Int) + Q.1 := ⟨((m : Int) + Q.1).toNat, by omega⟩
        rw [← hm2]; unfold cut; rw [Int.toNat_natCast, Int.toNat_natCast, List.length_drop, List.length_take]; omega
      obtain ⟨T, t1, t2⟩ := take_ex (byt_cut hb at_ (at_ + Q.1)) (Nat.le_trans (cut_len at_ (at_ + Q.1)) hl) (r := ⟨r.f_Source, ⟨r.f_Plot.f_Range, r.f_Plot.f_Azimuth, r.f_Plot.f_Time⟩, r.f_Is⟩) ⟨hr.s, hr.rg, hr.a, hr.t⟩ (item := rd h.f_Items (i : Int)) (fun e4 => by rw [hc2]; exact n4 e4)
      by_cases ht : T.1.isSome = true
      · refine ⟨(⟨0, ⟨0, 0, 0⟩, false⟩, 0, T.1), Ev.step (fun k => rfl) ?_, fun e => by simp only [] at e; rw [e] at ht; cases ht⟩
        simp only [cat048_record.hs, cat048_record.b0, if_pos (show (i : Int) < (h.f_Items.length : Int) by omega), if_pos (show (0 : Int) ≤ (i : Int) ∧ (i : Int) < (h.f_Items.length : Int) by omega), if_pos (show (0 : Int) ≤ at_ ∧ at_ ≤ (b.length : Int) ∧ (b.length : Int) ≤ (b.length : Int) by omega)]
        refine Ev.bind q1 ?_
        simp only [if_neg hq, hw, if_pos (show (0 : Int) ≤ at_ ∧ at_ ≤ at_ + Q.1 ∧ at_ + Q.1 ≤ (b.length : Int) by omega)]
        refine Ev.bind t1 ?_
        simp only [if_pos ht]; exact Ev.now
      · obtain ⟨R, r1, r2⟩ := rec_l0 hb hl hI d (i + 1) T.2 (at_ + Q.1) (by omega) (by omega) t2
        refine ⟨R, Ev.step (fun k => rfl) ?_, fun e => ⟨by have := (r2 e).1; omega, (r2 e).2⟩⟩
        simp only [cat048_record.hs, cat048_record.b0, if_pos (show (i : Int) < (h.f_Items.length : Int) by omega), if_pos (show (0 : Int) ≤ (i : Int) ∧ (i : Int) < (h.f_Items.length : Int) by omega), if_pos (show (0 : Int) ≤ at_ ∧ at_ ≤ (b.length : Int) ∧ (b.length : Int) ≤ (b.length : Int) by omega)]
        refine Ev.bind q1 ?_
        simp only [if_neg hq, hw, if_pos (show (0 : Int) ≤ at_ ∧ at_ ≤ at_ + Q.1 ∧ at_ + Q.1 ≤ (b.length : Int) by omega)]
        refine Ev.bind t1 ?_
        simp only [if_neg ht, wsc (show i < 1000000000 by omega)]
        exact r1
theorem dec_ok (l : List Int) : ∀ (f : Nat) (i : Int) (acc : List Int), 0 ≤ i → i ≤ l.length → (dec l 4 f i acc).2 = none → 1 ≤ (dec l 4 f i acc).1.f_Bytes ∧ (dec l 4 f i acc).1.f_Bytes ≤ l.length ∧ (dec l 4 f i acc).1.f_Items.length ≤ acc.length + 7 * f
  | 0, i, acc, _, _, h => by simp [dec] at h
  | f + 1, i, acc, h0, h1, h => by
    have hlen := its_len (rd l i) i 7
    rw [dec] at h ⊢
    by_cases a : i = 4
    · rw [if_pos a] at h; cases h
    · rw [if_neg a] at h ⊢
      by_cases c : i = (l.length : Int)
      · rw [if_pos c] at h; cases h
      · rw [if_neg c] at h ⊢
        by_cases e : rd l i % 2 = 0
        · rw [if_pos e] at h ⊢
          by_cases g : its (rd l i) i 7 = []
          · rw [if_pos g] at h; cases h
          · rw [if_neg g]; simp only [List.length_append]; omega
        · rw [if_neg e] at h ⊢
          have := dec_ok l f (i + 1) (acc ++ its (rd l i) i 7) (by omega) (by omega) h
          rw [List.length_append] at this; omega
theorem record_ex {b : List Int} (hb : Byt b) (hl : b.length ≤ 1000000) : ∃ R : cat048_Record × Int × Option Int, Ev (fun k => cat048_record.f k b) R ∧ (R.2.2 = none → 1 ≤ R.2.1 ∧ R.2.1 ≤ b.length ∧ WfC R.1) := by
  have hd := decode_ev (l := b) hb 4
  generalize hD : decode b 4 = D at hd
  unfold cat048_record.f
  by_cases h1 : D.2 = some 2
  · refine ⟨(⟨0, ⟨0, 0, 0⟩, false⟩, 0, some 3), ?_, fun e => by cases e⟩
    refine Ev.bind hd ?_
    simp only [if_pos h1]; exact Ev.now
  · by_cases h2 : D.2.isSome = true
    · refine ⟨(⟨0, ⟨0, 0, 0⟩, false⟩, 0, D.2), ?_, fun e => by simp only [] at e; rw [e] at h2; cases h2⟩
      refine Ev.bind hd ?_
      simp only [if_neg h1, if_pos h2]; exact Ev.now
    · have hok := dec_ok b 10 0 [] (by omega) (by omega)
      have e0 : decode b 4 = dec b 4 10 0 [] := by unfold decode; rw [if_pos (by omega)]
      rw [← e0, hD] at hok
      obtain ⟨o1, o2, o3⟩ := hok (isN h2)
      simp at o3
      obtain ⟨R, r1, r2⟩ := rec_l0 hb hl (h := D.1) (by omega) D.1.f_Items.length 0 ⟨0, ⟨0, 0, 0⟩, false⟩ D.1.f_Bytes (by omega) (by omega) ⟨by decide, by decide, by decide, by decide⟩
      refine ⟨R, ?_, fun e => ⟨by have := (r2 e).1; omega, (r2 e).2⟩⟩
      refine Ev.bind hd ?_
      simp only [if_neg h1, if_neg h2]; exact r1
theorem cdec_l0 {b : List Int} (hb : Byt b) (hl : b.length ≤ 1000000) : ∀ (m : Nat) (at_ : Int) (out : List cat048_Record), (b.length : Int) - at_ ≤ m → 0 ≤ at_ → at_ ≤ b.length → (out.length : Int) ≤ at_ → (∀ r ∈ out, WfC r) →
    ∃ R : List cat048_Record × Option Int, Ev (fun k => (cat048_Decode.hs k).l0 b [] none out at_) R ∧ (R.2.isSome = true → R.1 = []) ∧ (R.2 = none → ∀ r ∈ R.1, WfC r) := by
  intro m
  induction m with
  | zero =>
    intro at_ out h1 h2 h3 h4 h5
    by_cases g : 64 < (out.length : Int)
    · refine ⟨([], some 10), Ev.step (fun k => rfl) ?_, fun _ => rfl, fun e => by cases e⟩
      simp only [cat048_Decode.hs, cat048_Decode.b0, if_neg (show ¬ at_ < (b.length : Int) by omega), if_pos g]; exact Ev.now
    · refine ⟨(out, none), Ev.step (fun k => rfl) ?_, (fun e => by cases e), fun _ => h5⟩
      simp only [cat048_Decode.hs, cat048_Decode.b0, if_neg (show ¬ at_ < (b.length : Int) by omega), if_neg g]; exact Ev.now
  | succ m ih =>
    intro at_ out h1 h2 h3 h4 h5
    by_cases c : at_ < (b.length : Int)
    · have hc : ((cut b at_ (b.length : Int)).length : Int) = b.length - at_ := by
        obtain ⟨q, rfl⟩ : ∃ q : Nat, (q : Int) = at_ := ⟨at_.toNat, by omega⟩
        unfold cut; rw [Int.toNat_natCast, Int.toNat_natCast, List.length_drop, List.length_take]; omega
      obtain ⟨Q, q1, q2⟩ := record_ex (byt_cut hb at_ (b.length : Int)) (Nat.le_trans (cut_len at_ (b.length : Int)) hl)
      by_cases hq : Q.2.2.isSome = true
      · refine ⟨([], Q.2.2), Ev.step (fun k => rfl) ?_, fun _ => rfl, fun e => by simp only [] at e; rw [e] at hq; cases hq⟩
        simp only [cat048_Decode.hs, cat048_Decode.b0, if_pos c, if_pos (show (0 : Int) ≤ at_ ∧ at_ ≤ (b.length : Int) ∧ (b.length : Int) ≤ (b.length : Int) by omega)]
        refine Ev.bind q1 ?_
        simp only [if_pos hq]; exact Ev.now
      · obtain ⟨n1, n2, n3⟩ := q2 (isN hq)
        obtain ⟨R, r1, r2, r3⟩ := ih (at_ + Q.2.1) (out ++ [Q.1]) (by omega) (by omega) (by omega) (by simp; omega) (fun r hr => by
          rcases List.mem_append.1 hr with hr | hr
          · exact h5 r hr
          · simp at hr; subst hr; exact n3)
        refine ⟨R, Ev.step (fun k => rfl) ?_, r2, r3⟩
        simp only [cat048_Decode.hs, cat048_Decode.b0, if_pos c, if_pos (show (0 : Int) ≤ at_ ∧ at_ ≤ (b.length : Int) ∧ (b.length : Int) ≤ (b.length : Int) by omega)]
        refine Ev.bind q1 ?_
        simp only [if_neg hq, if_pos (show out.length + 1 ≤ 3518437208787 by omega), wi (show -9223372036854775808 ≤ at_ + Q.2.1 ∧ at_ + Q.2.1 ≤ 9223372036854775807 by omega)]
        exact r1
    · by_cases g : 64 < (out.length : Int)
      · refine ⟨([], some 10), Ev.step (fun k => rfl) ?_, fun _ => rfl, fun e => by cases e⟩
        simp only [cat048_Decode.hs, cat048_Decode.b0, if_neg c, if_pos g]; exact Ev.now
      · refine ⟨(out, none), Ev.step (fun k => rfl) ?_, (fun e => by cases e), fun _ => h5⟩
        simp only [cat048_Decode.hs, cat048_Decode.b0, if_neg c, if_neg g]; exact Ev.now
theorem framed48 {x y z : Int} {r : List Int} (hx : 0 ≤ x ∧ x ≤ 255) (hy : 0 ≤ y ∧ y ≤ 255) (hz : 0 ≤ z ∧ z ≤ 255) :
    Ev (fun k => cat048_framed.f k (x :: y :: z :: r)) (if 16384 < ((x :: y :: z :: r).length : Int) then some 2 else if x = 48 ∧ 256 * y + z = ((x :: y :: z :: r).length : Int) ∧ ((x :: y :: z :: r).length : Int) ≠ 3 then none else some 3) := by
  unfold cat048_framed.f
  have e0 : rd (x :: y :: z :: r) 0 = x := rfl
  have e1 : cut (x :: y :: z :: r) 1 3 = [y, z] := rfl
  have hn := cnum2 hy hz
  rw [e0, e1]
  generalize hL : ((x :: y :: z :: r).length : Int) = L
  have h3 : 3 ≤ L := by rw [← hL]; simp; omega
  by_cases h : 16384 < L
  · simp only [if_pos h]; exact Ev.now
  · simp only [if_neg h, if_neg (show ¬ L < 3 by omega), if_pos (show (0 : Int) ≤ 0 ∧ 0 < L by omega), if_pos (show (!(!decide (x = 48))) = true → (0 : Int) ≤ 1 ∧ (1 : Int) ≤ 3 ∧ 3 ≤ L from fun _ => by omega)]
    by_cases a : x = 48
    · simp only [a, decide_true, Bool.not_true, Bool.not_false, show ∀ (x : Option Int) (d : Int), gd true x d = x from fun _ _ => rfl]
      refine Ev.bind hn ?_
      by_cases c : 256 * y + z = L <;> by_cases d : L = 3 <;> simp [c, d] <;> exact Ev.now
    · simp only [decide_eq_false a, Bool.not_false, Bool.not_true, show ∀ (x : Option Int) (d : Int), gd false x d = some d from fun _ _ => rfl, Option.bind_some, Bool.true_or, if_true, a, false_and, if_false]; exact Ev.now
theorem framed48_short (k : Nat) {b : List Int} (h : b.length < 3) : cat048_framed.f k b = some (some 4) := by
  unfold cat048_framed.f; rw [if_neg (by omega), if_pos (by omega)]
theorem cdecode_any {b : List Int} (hb : Byt b) : ∃ R : List cat048_Record × Option Int, Ev (fun k => cat048_Decode.f k b) R ∧ (R.2.isSome = true → R.1 = []) ∧ (R.2 = none → ∀ r ∈ R.1, WfC r) := by
  unfold cat048_Decode.f
  by_cases h3 : b.length < 3
  · refine ⟨([], some 4), ?_, fun _ => rfl, fun e => by cases e⟩
    simp only [framed48_short _ h3, Option.bind_some, Option.isSome_some, if_true]; exact Ev.now
  obtain ⟨x, y, z, r, rfl⟩ : ∃ x y z r, b = x :: y :: z :: r := by
    match b, h3 with
    | x :: y :: z :: r, _ => exact ⟨x, y, z, r, rfl⟩
    | [], h => exact absurd (by simp) h
    | [_], h => exact absurd (by simp) h
    | [_, _], h => exact absurd (by simp) h
  have hf := framed48 (hb x (by simp)) (hb y (by simp)) (hb z (by simp)) (r := r)
  generalize hF : (if 16384 < ((x :: y :: z :: r).length : Int) then some 2 else if x = 48 ∧ 256 * y + z = ((x :: y :: z :: r).length : Int) ∧ ((x :: y :: z :: r).length : Int) ≠ 3 then none else some (3 : Int)) = F at hf
  by_cases h : F.isSome = true
  · refine ⟨([], F), ?_, fun _ => rfl, fun e => by simp only [] at e; rw [e] at h; cases h⟩
    refine Ev.bind hf ?_
    simp only [if_pos h]; exact Ev.now
  · have hL : (x :: y :: z :: r).length ≤ 16384 := by
      refine Decidable.byContradiction fun g => h ?_
      rw [← hF, if_pos (by omega)]; rfl
    obtain ⟨R, r1, r2, r3⟩ := cdec_l0 hb (by omega) (x :: y :: z :: r).length 3 [] (by omega) (by omega) (by simp; omega) (by simp) (fun r hr => by cases hr)
    refine ⟨R, ?_, r2, r3⟩
    refine Ev.bind hf ?_
    simp only [if_neg h]; exact r1
end Go.Proofs.YtlokgnjlnefbbaaDoor.Pure
