/- Reports: whole datagrams read. -/
import Derived.Test.YtlokgnjlnefbbaaPureRP2
namespace Go.Proofs.Ytlokgnjlnefbbaa.Pure
open Go.RowKit Go.Proofs.YtlokgnjlnefbbaaK Go.Proofs.Ytlokgnjlnefbbaa.GRB
set_option linter.unusedVariables false
set_option linter.unusedSimpArgs false
set_option maxRecDepth 100000
theorem cut_drop' {b : List Int} {m : Nat} : cut b (m : Int) (b.length : Int) = b.drop m := by unfold cut; simp
theorem isSome_F {α : Type} {x : Option α} (h : ¬ x.isSome = true) : x = none := by cases x <;> simp_all
theorem dec_any : ∀ (n : Nat) (b : List Int) (out : List cat062_Report) (s : Int), Byt b → b.length ≤ 20 * n → out.length + n ≤ 1000000 → (0 ≤ s ∧ s ≤ 65535) →
    ∃ R, Ev (fun k => (cat062_Decode.hs k).l0 b 0 [] none out s) R ∧ (R.2.2.isSome = true → R.1 = 0 ∧ R.2.1 = []) ∧ (R.2.2 = none → ∃ rs, R.2.1 = out ++ rs ∧ b = recs R.1 rs ∧ (∀ r ∈ rs, mayB r = true ∧ Wr r) ∧ R.2.1.length ≤ 512 ∧ (0 ≤ R.1 ∧ R.1 ≤ 65535) ∧ (out ≠ [] → R.1 = s)) := by
  intro n
  induction n with
  | zero =>
    intro b out s hb hl ho hs
    have e : b = [] := List.eq_nil_of_length_eq_zero (by omega)
    subst e
    by_cases h : 512 < (out.length : Int)
    · refine ⟨(0, [], some 2), Ev.step (fun k => rfl) ?_, fun _ => ⟨rfl, rfl⟩, fun e => by cases e⟩
      simp only [cat062_Decode.hs, cat062_Decode.b0, if_neg (show ¬ (0 : Int) < (([] : List Int).length : Int) by decide), if_pos h]; exact Ev.now
    · refine ⟨(s, out, none), Ev.step (fun k => rfl) ?_, (fun e => by cases e), fun _ => ⟨[], by simp, rfl, fun _ h => by simp at h, by simp only []; omega, hs, fun _ => rfl⟩⟩
      simp only [cat062_Decode.hs, cat062_Decode.b0, if_neg (show ¬ (0 : Int) < (([] : List Int).length : Int) by decide), if_neg h]; exact Ev.now
  | succ n ih =>
    intro b out s hb hl ho hs
    by_cases h0 : b = []
    · subst h0
      by_cases h : 512 < (out.length : Int)
      · refine ⟨(0, [], some 2), Ev.step (fun k => rfl) ?_, fun _ => ⟨rfl, rfl⟩, fun e => by cases e⟩
        simp only [cat062_Decode.hs, cat062_Decode.b0, if_neg (show ¬ (0 : Int) < (([] : List Int).length : Int) by decide), if_pos h]; exact Ev.now
      · refine ⟨(s, out, none), Ev.step (fun k => rfl) ?_, (fun e => by cases e), fun _ => ⟨[], by simp, rfl, fun _ h => by simp at h, by simp only []; omega, hs, fun _ => rfl⟩⟩
        simp only [cat062_Decode.hs, cat062_Decode.b0, if_neg (show ¬ (0 : Int) < (([] : List Int).length : Int) by decide), if_neg h]; exact Ev.now
    have hpos : (0 : Int) < (b.length : Int) := by have := List.length_pos_iff.2 h0; omega
    by_cases h20 : b.length < 20
    · refine ⟨(0, [], some 4), Ev.step (fun k => rfl) ?_, fun _ => ⟨rfl, rfl⟩, fun e => by cases e⟩
      simp only [cat062_Decode.hs, cat062_Decode.b0, if_pos hpos]
      have E : Ev (fun k => cat062_record.f k b) (0, ⟨0, 0, 0, 0, 0, 0, 0⟩, some 4) := by
        unfold cat062_record.f
        refine Ev.bind head_ev ?_
        simp only [if_pos (show (b.length : Int) < 20 by omega)]; exact Ev.now
      refine Ev.bind E ?_
      simp only [Option.isSome_some, if_true]; exact Ev.now
    obtain ⟨Q, hQ, hq⟩ := rec_any hb (by omega)
    by_cases he : Q.2.2.isSome = true
    · refine ⟨(0, [], Q.2.2), Ev.step (fun k => rfl) ?_, fun _ => ⟨rfl, rfl⟩, fun e => by simp only [] at e; rw [e] at he; cases he⟩
      simp only [cat062_Decode.hs, cat062_Decode.b0, if_pos hpos]
      refine Ev.bind hQ ?_
      simp only [if_pos he]; exact Ev.now
    obtain ⟨q1, q2, q3, q4⟩ := hq (isSome_F he)
    by_cases ht : ((decide (0 < (out.length : Int))) && (!decide (Q.1 = s))) = true
    · refine ⟨(0, [], some 9), Ev.step (fun k => rfl) ?_, fun _ => ⟨rfl, rfl⟩, fun e => by cases e⟩
      simp only [cat062_Decode.hs, cat062_Decode.b0, if_pos hpos]
      refine Ev.bind hQ ?_
      simp only [if_neg he, if_pos ht]; exact Ev.now
    obtain ⟨R, hR, r1, r2⟩ := ih (b.drop 20) (out ++ [Q.2.1]) Q.1 (fun x hx => hb x (List.mem_of_mem_drop hx)) (by rw [List.length_drop]; omega) (by simp; omega) q4
    refine ⟨R, Ev.step (fun k => rfl) ?_, r1, fun e => ?_⟩
    · simp only [cat062_Decode.hs, cat062_Decode.b0, if_pos hpos]
      refine Ev.bind hQ ?_
      simp only [if_neg he, if_neg ht, if_pos (show out.length + 1 ≤ 4398046510976 by omega), if_pos (show (0 : Int) ≤ 20 ∧ (20 : Int) ≤ (b.length : Int) ∧ (b.length : Int) ≤ (b.length : Int) by omega)]
      have c : cut b 20 (b.length : Int) = b.drop 20 := cut_drop' (m := 20)
      simp only [c]
      exact hR
    · obtain ⟨rs, a1, a2, a3, a4, a5, a6⟩ := r2 e
      have es : R.1 = Q.1 := a6 (by simp)
      refine ⟨Q.2.1 :: rs, by rw [a1, List.append_assoc]; rfl, ?_, ?_, a4, a5, fun ho => ?_⟩
      · rw [recs_cons, es, ← es, ← a2, es]; exact q1
      · intro r hr
        rcases List.mem_cons.1 hr with rfl | hr
        · exact ⟨q2, q3⟩
        · exact a3 r hr
      · rw [es]
        simp only [Bool.and_eq_true, decide_eq_true_eq, Bool.not_eq_true', decide_eq_false_iff_not] at ht
        have := List.length_pos_iff.2 ho
        exact Decidable.byContradiction fun x => ht ⟨by omega, x⟩
theorem dec_of {s0 : Int} (hs : 0 ≤ s0 ∧ s0 ≤ 65535) : ∀ (rs : List cat062_Report) (out : List cat062_Report) (s : Int), (∀ r ∈ rs, mayB r = true ∧ Wr r) → out.length + rs.length ≤ 512 → (out ≠ [] → s0 = s) →
    Ev (fun k => (cat062_Decode.hs k).l0 (recs s0 rs) 0 [] none out s) (if rs = [] then s else s0, out ++ rs, none)
  | [], out, s, _, hl, _ => by
    refine Ev.step (fun k => rfl) ?_
    simp only [List.length_nil] at hl
    simp only [cat062_Decode.hs, cat062_Decode.b0, show recs s0 [] = [] from rfl, if_neg (show ¬ (0 : Int) < (([] : List Int).length : Int) by decide), if_neg (show ¬ 512 < (out.length : Int) by omega), if_true, List.append_nil]; exact Ev.now
  | r :: rs, out, s, hr, hl, hn => by
    simp only [List.length_cons] at hl
    refine Ev.step (fun k => rfl) ?_
    have hlen : ((recs s0 (r :: rs)).length : Int) = 20 + 20 * (rs.length : Int) := by rw [recs_len, List.length_cons]; omega
    simp only [cat062_Decode.hs, cat062_Decode.b0, if_pos (show 0 < ((recs s0 (r :: rs)).length : Int) by omega), if_pos (show (0 : Int) ≤ 20 ∧ (20 : Int) ≤ ((recs s0 (r :: rs)).length : Int) ∧ ((recs s0 (r :: rs)).length : Int) ≤ ((recs s0 (r :: rs)).length : Int) by omega)]
    have c : cut (recs s0 (r :: rs)) 20 ((recs s0 (r :: rs)).length : Int) = recs s0 rs := by
      rw [show ((20 : Int)) = ((20 : Nat) : Int) from rfl, cut_drop', recs_cons, ← recB_len s0 r, List.drop_left]
    have m := hr r (by simp)
    have hE : Ev (fun k => cat062_record.f k (recs s0 (r :: rs))) (s0, r, none) := by rw [recs_cons]; exact rec_of hs m.1 m.2 (Byt_recs s0 rs)
    refine Ev.bind hE ?_
    have ht : ¬ ((decide (0 < (out.length : Int))) && (!decide (s0 = s))) = true := by
      simp only [Bool.and_eq_true, decide_eq_true_eq, Bool.not_eq_true', decide_eq_false_iff_not]
      intro ⟨x, y⟩
      exact y (hn (fun e => by rw [e] at x; simp at x))
    simp only [Option.isSome_none, if_neg (show ¬ false = true by decide), if_neg ht, if_pos (show out.length + 1 ≤ 4398046510976 by omega), c]
    have := dec_of hs rs (out ++ [r]) s0 (fun x hx => hr x (by simp [hx])) (by simp; omega) (fun _ => rfl)
    rw [List.append_assoc] at this
    simp only [ite_self] at this
    simp only [if_neg (show ¬ (r :: rs) = [] by simp)]
    exact this
theorem framed_short (k : Nat) {b : List Int} (h : b.length < 3) : cat062_framed.f k b = some (some 4) := by
  unfold cat062_framed.f
  rw [if_neg (by omega), if_pos (by omega)]
theorem framed_ev (k : Nat) {x y z : Int} {r : List Int} (hx : 0 ≤ x ∧ x ≤ 255) (hy : 0 ≤ y ∧ y ≤ 255) (hz : 0 ≤ z ∧ z ≤ 255) :
    cat062_framed.f k (x :: y :: z :: r) = some (if 16384 < ((x :: y :: z :: r).length : Int) then some 2 else if x = 62 ∧ 256 * y + z = ((x :: y :: z :: r).length : Int) then none else some 3) := by
  unfold cat062_framed.f
  have e0 : rd (x :: y :: z :: r) 0 = x := rfl
  have e1 : rd (x :: y :: z :: r) 1 = y := rfl
  have e2 : rd (x :: y :: z :: r) 2 = z := rfl
  have hi : ior .i64 (w64 (w64 y * 256)) (w64 z) = 256 * y + z := by rw [ior_byte hz, wi (by omega)]; omega
  rw [e0, e1, e2, hi]
  generalize hL : ((x :: y :: z :: r).length : Int) = L
  have h3 : 3 ≤ L := by rw [← hL]; simp; omega
  by_cases h : 16384 < L
  · rw [if_pos h, if_pos h]
  · rw [if_neg h, if_neg h, if_neg (by omega), if_pos (by omega), if_pos (fun _ => by omega), if_pos (fun _ => by omega)]
    by_cases a : x = 62 <;> by_cases c : 256 * y + z = L <;> simp [a, c]
theorem decode_of {s : Int} (hs : 0 ≤ s ∧ s ≤ 65535) {l : List cat062_Report} (hl : l.length ≤ 512) (hr : ∀ r ∈ l, mayB r = true ∧ Wr r) :
    Ev (fun k => cat062_Decode.f k (62 :: (be 2 (3 + 20 * (l.length : Int)) ++ recs s l))) (if l = [] then 0 else s, l, none) := by
  unfold cat062_Decode.f
  have hlen : ((62 :: (be 2 (3 + 20 * (l.length : Int)) ++ recs s l)).length : Int) = 3 + 20 * (l.length : Int) := by simp [be_len, recs_len]; omega
  have hf : ∀ k, cat062_framed.f k (62 :: (be 2 (3 + 20 * (l.length : Int)) ++ recs s l)) = some none := fun k => by
    rw [be2] at hlen ⊢
    have := framed_ev k (x := 62) (y := (3 + 20 * (l.length : Int)) / 256 % 256) (z := (3 + 20 * (l.length : Int)) % 256) (r := recs s l) (by omega) (by omega) (by omega)
    rw [show ((62 :: ((3 + 20 * (l.length : Int)) / 256 % 256) :: ((3 + 20 * (l.length : Int)) % 256) :: recs s l).length : Int) = 3 + 20 * (l.length : Int) from hlen, if_neg (by omega), if_pos ⟨rfl, by omega⟩] at this
    exact this
  have c : cut (62 :: (be 2 (3 + 20 * (l.length : Int)) ++ recs s l)) 3 (3 + 20 * (l.length : Int)) = recs s l := by
    have := cut_drop' (b := 62 :: (be 2 (3 + 20 * (l.length : Int)) ++ recs s l)) (m := 3)
    rw [hlen] at this
    exact this.trans rfl
  simp only [hf, hlen, Option.bind_some, Option.isSome_none, if_neg (show ¬ false = true by decide), if_pos (show (0 : Int) ≤ 3 ∧ (3 : Int) ≤ 3 + 20 * (l.length : Int) ∧ 3 + 20 * (l.length : Int) ≤ 3 + 20 * (l.length : Int) by omega), c]
  have := dec_of hs l [] 0 hr (by simpa using hl) (fun h => absurd rfl h)
  rw [List.nil_append] at this
  exact this
/-- Cut short it is told. -/
theorem decode_cut {s : Int} {l : List cat062_Report} (hl : l.length ≤ 512) : ∃ R, Ev (fun k => cat062_Decode.f k ((62 :: (be 2 (3 + 20 * (l.length : Int)) ++ recs s l)).take (2 + 20 * l.length))) R ∧ R.2.2.isSome = true := by
  have hf : ∃ e : Int, ∀ k, cat062_framed.f k ((62 :: (be 2 (3 + 20 * (l.length : Int)) ++ recs s l)).take (2 + 20 * l.length)) = some (some e) := by
    rw [be2]
    cases l with
    | nil => exact ⟨4, fun k => framed_short k (by simp)⟩
    | cons r l =>
      refine ⟨3, fun k => ?_⟩
      have ht : (62 :: ([(3 + 20 * (((r :: l).length : Nat) : Int)) / 256 % 256, (3 + 20 * (((r :: l).length : Nat) : Int)) % 256] ++ recs s (r :: l))).take (2 + 20 * (r :: l).length) = 62 :: ((3 + 20 * (((r :: l).length : Nat) : Int)) / 256 % 256) :: ((3 + 20 * (((r :: l).length : Nat) : Int)) % 256) :: (recs s (r :: l)).take (19 + 20 * l.length) := by
        rw [show 2 + 20 * (r :: l).length = (19 + 20 * l.length) + 1 + 1 + 1 by simp; omega]; rfl
      rw [ht]
      have := framed_ev k (x := 62) (y := (3 + 20 * (((r :: l).length : Nat) : Int)) / 256 % 256) (z := (3 + 20 * (((r :: l).length : Nat) : Int)) % 256) (r := (recs s (r :: l)).take (19 + 20 * l.length)) (by omega) (by omega) (by omega)
      have hlen : ((62 :: ((3 + 20 * (((r :: l).length : Nat) : Int)) / 256 % 256) :: ((3 + 20 * (((r :: l).length : Nat) : Int)) % 256) :: (recs s (r :: l)).take (19 + 20 * l.length)).length : Int) = 2 + 20 * (((r :: l).length : Nat) : Int) := by
        simp only [List.length_cons, List.length_take, recs_len]; omega
      rw [hlen, if_neg (by omega), if_neg (by intro ⟨_, h⟩; omega)] at this
      exact this
  obtain ⟨e, hf⟩ := hf
  refine ⟨(0, [], some e), ?_, rfl⟩
  unfold cat062_Decode.f
  simp only [hf, Option.bind_some, Option.isSome_some, if_true]
  exact Ev.now
theorem decode_any {b : List Int} (hb : Byt b) : ∃ R, Ev (fun k => cat062_Decode.f k b) R ∧ (R.2.2.isSome = true → R.1 = 0 ∧ R.2.1 = []) ∧ (R.2.2 = none → encR R.1 R.2.1 = (b, none) ∧ (∀ r ∈ R.2.1, Wr r) ∧ (0 ≤ R.1 ∧ R.1 ≤ 65535) ∧ R.2.1.length ≤ 512) := by
  by_cases h3 : b.length < 3
  · refine ⟨(0, [], some 4), ?_, fun _ => ⟨rfl, rfl⟩, fun e => by cases e⟩
    unfold cat062_Decode.f
    simp only [framed_short _ h3, Option.bind_some, Option.isSome_some, if_true]; exact Ev.now
  obtain ⟨x, y, z, r, rfl⟩ : ∃ x y z r, b = x :: y :: z :: r := by
    match b, h3 with
    | x :: y :: z :: r, _ => exact ⟨x, y, z, r, rfl⟩
    | [], h => exact absurd (by simp) h
    | [_], h => exact absurd (by simp) h
    | [_, _], h => exact absurd (by simp) h
  have hx := hb x (by simp); have hy := hb y (by simp); have hz := hb z (by simp)
  have hf := fun k => framed_ev k hx hy hz (r := r)
  generalize hL : ((x :: y :: z :: r).length : Int) = L at hf
  by_cases h : 16384 < L
  · rw [if_pos h] at hf
    refine ⟨(0, [], some 2), ?_, fun _ => ⟨rfl, rfl⟩, fun e => by cases e⟩
    unfold cat062_Decode.f
    simp only [hf, Option.bind_some, Option.isSome_some, if_true]; exact Ev.now
  rw [if_neg h] at hf
  by_cases g : x = 62 ∧ 256 * y + z = L
  · rw [if_pos g] at hf
    have hr : r.length ≤ 20 * 900 := by simp at hL; omega
    obtain ⟨R, hR, r1, r2⟩ := dec_any 900 r [] 0 hb.tail.tail.tail hr (by simp) (by omega)
    refine ⟨R, ?_, r1, fun e => ?_⟩
    · unfold cat062_Decode.f
      have c : cut (x :: y :: z :: r) 3 L = r := by rw [← hL, show ((3 : Int)) = ((3 : Nat) : Int) from rfl, cut_drop']; rfl
      have hL3 : 3 ≤ L := by rw [← hL]; simp; omega
      simp only [hf, hL, Option.bind_some, Option.isSome_none, if_neg (show ¬ false = true by decide), if_pos (show (0 : Int) ≤ 3 ∧ (3 : Int) ≤ L ∧ L ≤ L by omega), c]
      exact hR
    · obtain ⟨rs, a1, a2, a3, a4, a5, a6⟩ := r2 e
      rw [List.nil_append] at a1
      subst a1
      refine ⟨?_, fun r hr => (a3 r hr).2, a5, a4⟩
      have hall : R.2.1.all mayB = true := List.all_eq_true.2 fun r hr => (a3 r hr).1
      have hlr : r.length = 20 * R.2.1.length := by have := congrArg List.length a2; rwa [recs_len] at this
      have hLL : 3 + 20 * (R.2.1.length : Int) = 256 * y + z := by
        rw [g.2, ← hL]; simp only [List.length_cons, hlr]; omega
      unfold encR
      rw [if_pos hall, if_neg (by omega), hLL, be2_of hy hz, ← a2, g.1]; rfl
  · rw [if_neg g] at hf
    refine ⟨(0, [], some 3), ?_, fun _ => ⟨rfl, rfl⟩, fun e => by cases e⟩
    unfold cat062_Decode.f
    simp only [hf, Option.bind_some, Option.isSome_some, if_true]; exact Ev.now
theorem are_l0 {l : List radomeref29_Report} (hl : l.length ≤ 600) : ∀ (n i : Nat), l.length = i + n → Ev (fun k => (radomelaw29_areReports.hs k).l0 (l.map gr) l false (i : Int)) true
  | 0, i, e => by
    refine Ev.step (fun k => rfl) ?_
    simp only [radomelaw29_areReports.hs, radomelaw29_areReports.b0, List.length_map, if_neg (show ¬ (i : Int) < (l.length : Int) by omega)]; exact Ev.now
  | n + 1, i, e => by
    have hi : i < l.length := by omega
    have hi' : i < (l.map gr).length := by simpa using hi
    refine Ev.step (fun k => rfl) ?_
    have er : rd (l.map gr) (i : Int) = gr l[i] := by rw [rdg hi', List.getElem_map]
    simp only [radomelaw29_areReports.hs, radomelaw29_areReports.b0, List.length_map, if_pos (show (i : Int) < (l.length : Int) by omega), if_pos (show (0 : Int) ≤ (i : Int) ∧ (i : Int) < (l.length : Int) by omega), er, rdg hi, wsc (show i < 1000000000 by omega), gr, decide_true, Bool.and_self, Bool.not_true, if_neg (show ¬ false = true by decide)]
    exact are_l0 hl n (i + 1) (by omega)
theorem are_ev {l : List radomeref29_Report} (hl : l.length ≤ 600) : Ev (fun k => radomelaw29_areReports.f k (l.map gr) l) true := by
  unfold radomelaw29_areReports.f
  simp only [List.length_map, if_true]
  exact are_l0 hl l.length 0 (by omega)
end Go.Proofs.Ytlokgnjlnefbbaa.Pure
