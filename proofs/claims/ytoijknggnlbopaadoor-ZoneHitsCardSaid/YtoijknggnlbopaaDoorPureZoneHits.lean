/- The plain law of ZoneHits. -/
import Derived.Test.YtoijknggnlbopaaDoorPureZ4
namespace Go.Proofs.YtoijknggnlbopaaDoor.Pure
open Go.RowKit Go.Proofs.YtoijknggnlbopaaDoorK Go.Proofs.YtoijknggnlbopaaDoor.GZH
set_option linter.unusedVariables false
set_option linter.unusedSimpArgs false
set_option maxRecDepth 100000
theorem mget_mput {α β : Type} [DecidableEq α] (a b : α) (c d : β) : ∀ m : List (α × β), mget (mput m a c) b d = if b = a then c else mget m b d
  | [] => rfl
  | p :: r => by
    unfold mput
    by_cases h : a = p.1
    · rw [if_pos h]
      unfold mget
      by_cases h2 : b = p.1
      · rw [if_pos h2, if_pos (h2.trans h.symm)]
      · rw [if_neg h2, if_neg (fun e => h2 (e.trans h)), if_neg h2]
    · rw [if_neg h]
      have ih := mget_mput a b c d r
      unfold mget
      by_cases h2 : b = p.1
      · rw [if_pos h2, if_neg (fun e => h (e.symm.trans h2)), if_pos h2]
      · rw [if_neg h2, ih, if_neg h2]
def inB (a : ByteArray) (l : List ByteArray) : Bool := l.any fun b => decide (a = b)
theorem inB_iff {a : ByteArray} {l : List ByteArray} : inB a l = true ↔ a ∈ l := by
  unfold inB; rw [List.any_eq_true]
  exact ⟨fun ⟨x, h1, h2⟩ => by rw [of_decide_eq_true h2]; exact h1, fun h => ⟨a, h, decide_eq_true rfl⟩⟩
theorem inB_f {a : ByteArray} {l : List ByteArray} (h : a ∉ l) : inB a l = false := Bool.eq_false_iff.2 fun e => h (inB_iff.1 e)
theorem wh_ge (E : List (Pt × Pt)) (p : Pt) : 0 ≤ wh E p := by
  unfold wh
  split
  · omega
  · split <;> omega
def twF (seen : List ByteArray) : List ByteArray → Bool
  | [] => false
  | a :: r => inB a seen || twF (seen ++ [a]) r
def zh (p : Pt) (z : radomeref39_Zone) : Bool := decide (0 < wh (ed ((gz z).f_Corners.map pt)) p)
theorem gz_name (z : radomeref39_Zone) : (gz z).f_Name = z.f_Name := rfl
theorem zcheck_l0 {l : List radomeref39_Zone} (hl : l.length ≤ 64) : ∀ (n i : Nat) (m : List (ByteArray × Bool)) (tw : Bool) (seen : List ByteArray), l.length = i + n → (∀ a, mget m a false = inB a seen) →
    Ev (fun k => (zone_check.hs k).l0 none m tw (l.map gz) ((l.map gz).length : Int) (i : Int)) (if ((l.drop i).all fun z => mayZ (gz z)) = true then (if (tw || twF seen ((l.drop i).map (·.f_Name))) = true then some 9 else none) else some 1)
  | 0, i, m, tw, seen, e, hm => by
    refine Ev.step (fun k => rfl) ?_
    simp only [zone_check.hs, zone_check.b0, if_neg (show ¬ (i : Int) < ((l.map gz).length : Int) by simp; omega)]
    rw [List.drop_eq_nil_of_le (by omega)]
    simp only [List.all_nil, if_true, List.map_nil, twF, Bool.or_false]
    cases tw
    · simp only [Bool.false_eq_true, if_false]; exact Ev.now
    · simp only [if_true]; exact Ev.now
  | n + 1, i, m, tw, seen, e, hm => by
    have hi : i < l.length := by omega
    have hi' : i < (l.map gz).length := by simpa using hi
    have hr : rd (l.map gz) (i : Int) = gz l[i] := by rw [rd_get hi', List.getElem_map]
    refine Ev.step (fun k => rfl) ?_
    simp only [zone_check.hs, zone_check.b0, if_pos (show (i : Int) < ((l.map gz).length : Int) by omega), if_pos (show (0 : Int) ≤ (i : Int) ∧ (i : Int) < ((l.map gz).length : Int) by omega), hr, wsucc (show i < 1000000000 by omega)]
    refine Ev.bind (Check_ev (gz l[i])) ?_
    rw [drop_cons hi, List.all_cons, List.map_cons, twF]
    cases hz : mayZ (gz l[i]) with
    | false => simp only [Bool.false_eq_true, if_false, Option.isSome_some, if_true, Bool.false_and]; exact Ev.now
    | true =>
      simp only [if_true, Option.isSome_none, Bool.false_eq_true, if_false, Bool.true_and, gz_name]
      have ih := zcheck_l0 hl n (i + 1) (mput m (l[i]).f_Name true) (tw || mget m (l[i]).f_Name false) (seen ++ [(l[i]).f_Name]) (by omega) (fun a => by
        rw [mget_mput, hm]
        by_cases h : a = (l[i]).f_Name
        · rw [if_pos h]; exact (inB_iff.2 (by simp [h])).symm
        · rw [if_neg h, Bool.eq_iff_iff, inB_iff, inB_iff]; simp [h])
      rw [hm, Bool.or_assoc] at ih
      rw [hm]
      exact ih
theorem zhits_l0 {l : List radomeref39_Zone} {p : zone_Spot} (hl : l.length ≤ 64) (hp : Pl (pt p)) (hm : ∀ z ∈ l, mayZ (gz z) = true) : ∀ (n i : Nat) (out : List ByteArray), l.length = i + n → out.length ≤ i →
    Ev (fun k => (zone_Hits.hs k).l0 p.f_X p.f_Y [] none out (l.map gz) ((l.map gz).length : Int) (i : Int)) (out ++ ((l.drop i).filter (zh (pt p))).map (·.f_Name), none)
  | 0, i, out, e, ho => by
    refine Ev.step (fun k => rfl) ?_
    simp only [zone_Hits.hs, zone_Hits.b0, if_neg (show ¬ (i : Int) < ((l.map gz).length : Int) by simp; omega)]
    rw [List.drop_eq_nil_of_le (by omega)]
    simp only [List.filter_nil, List.map_nil, List.append_nil]; exact Ev.now
  | n + 1, i, out, e, ho => by
    have hi : i < l.length := by omega
    have hi' : i < (l.map gz).length := by simpa using hi
    have hr : rd (l.map gz) (i : Int) = gz l[i] := by rw [rd_get hi', List.getElem_map]
    refine Ev.step (fun k => rfl) ?_
    simp only [zone_Hits.hs, zone_Hits.b0, if_pos (show (i : Int) < ((l.map gz).length : Int) by omega), if_pos (show (0 : Int) ≤ (i : Int) ∧ (i : Int) < ((l.map gz).length : Int) by omega), hr, wsucc (show i < 1000000000 by omega)]
    have hw := Where_ev (gz l[i]) (p := ⟨p.f_X, p.f_Y⟩) hp
    rw [hm _ (List.getElem_mem hi)] at hw
    refine Ev.bind hw ?_
    simp only [if_true, Option.isSome_none, Bool.false_eq_true, if_false, gz_name]
    rw [drop_cons hi, List.filter_cons]
    have hz : zh (pt p) l[i] = decide (0 < wh (ed ((gz l[i]).f_Corners.map pt)) (pt p)) := rfl
    have hge := wh_ge (ed ((gz l[i]).f_Corners.map pt)) (pt ⟨p.f_X, p.f_Y⟩)
    by_cases h0 : wh (ed ((gz l[i]).f_Corners.map pt)) (pt ⟨p.f_X, p.f_Y⟩) = 0
    · simp only [if_pos h0]
      rw [if_neg (by rw [hz]; exact fun h => by have := of_decide_eq_true h; change 0 < wh (ed ((gz l[i]).f_Corners.map pt)) (pt ⟨p.f_X, p.f_Y⟩) at this; omega)]
      exact zhits_l0 hl hp hm n (i + 1) out (by omega) (by omega)
    · simp only [if_neg h0, if_pos (show out.length + 1 ≤ 8796093022080 by omega)]
      rw [if_pos (by rw [hz]; exact decide_eq_true (show 0 < wh (ed ((gz l[i]).f_Corners.map pt)) (pt ⟨p.f_X, p.f_Y⟩) by omega)), List.map_cons]
      have ih := zhits_l0 hl hp hm n (i + 1) (out ++ [(l[i]).f_Name]) (by omega) (by simp; omega)
      rw [List.append_assoc, List.singleton_append] at ih; exact ih
def hitR (l : List radomeref39_Zone) (p : Pt) : List ByteArray × Int := if 64 < l.length then ([], 2) else if (l.all fun z => mayZ (gz z)) = true then (if twF [] (l.map (·.f_Name)) = true then ([], 9) else ((l.filter (zh p)).map (·.f_Name), 0)) else ([], 1)
theorem Hits_ev (l : List radomeref39_Zone) {p : zone_Spot} (hp : Pl (pt p)) : ∃ r : List ByteArray × Option Int, Ev (fun k => zone_Hits.f k (l.map gz) p) r ∧ r.1 = (hitR l (pt p)).1 ∧ errN r.2 = (hitR l (pt p)).2 := by
  unfold zone_Hits.f hitR
  by_cases h : 64 < l.length
  · refine ⟨([], some 2), ?_, by rw [if_pos h], by rw [if_pos h]; rfl⟩
    refine Ev.bind (r := some 2) ?_ ?_
    · unfold zone_check.f
      simp only [if_pos (show 64 < ((l.map gz).length : Int) by simp; omega)]; exact Ev.now
    · simp only [Option.isSome_some, if_true]; exact Ev.now
  · rw [if_neg h]
    have hc : Ev (fun k => zone_check.f k (l.map gz)) (if (l.all fun z => mayZ (gz z)) = true then (if twF [] (l.map (·.f_Name)) = true then some 9 else none) else some 1) := by
      unfold zone_check.f
      simp only [if_neg (show ¬ 64 < ((l.map gz).length : Int) by simp; omega)]
      have := zcheck_l0 (l := l) (by omega) l.length 0 [] false [] (by omega) (fun a => rfl)
      rw [List.drop_zero, Bool.false_or] at this; exact this
    cases ha : l.all fun z => mayZ (gz z) with
    | false =>
      rw [ha] at hc
      refine ⟨([], some 1), Ev.bind hc ?_, rfl, rfl⟩
      simp only [Bool.false_eq_true, if_false, Option.isSome_some, if_true]; exact Ev.now
    | true =>
      rw [ha] at hc
      cases ht : twF [] (l.map (·.f_Name)) with
      | true =>
        rw [ht] at hc
        refine ⟨([], some 9), Ev.bind hc ?_, rfl, rfl⟩
        simp only [if_true, Option.isSome_some]; exact Ev.now
      | false =>
        rw [ht] at hc
        refine ⟨((l.filter (zh (pt p))).map (·.f_Name), none), Ev.bind hc ?_, rfl, rfl⟩
        simp only [if_true, Bool.false_eq_true, if_false, Option.isSome_none]
        have := zhits_l0 (l := l) (by omega) hp (fun z hz => List.all_eq_true.1 ha z hz) l.length 0 [] (by omega) (by simp)
        rw [List.drop_zero, List.nil_append] at this; exact this
/-! ### the document's -/
theorem rh_l2 {l : List radomeref39_Zone} {p0 p1 : Int} {out : List ByteArray} {i : Nat} {r : List ByteArray × Int} (hl : l.length ≤ 64) (hi : i < l.length)
    (h9 : (l[i]).f_Name ∈ (l.take i).map (·.f_Name) → r = ([], 9)) (hgo : (l[i]).f_Name ∉ (l.take i).map (·.f_Name) → Ev (fun k => (radomeref39_Where.f k l[i] (⟨p0, p1⟩ : radomeref39_Spot)).bind fun y39 => if 0 < y39 then (if (0 : Int) ≤ (i : Int) ∧ (i : Int) < (l.length : Int) then (if out.length + 1 ≤ 8796093022080 then ((radomeref39_Hits.hs k).l1 l p0 p1 [] 0 (out ++ [(l[i]).f_Name]) ((i + 1 : Nat) : Int)) else none) else none) else ((radomeref39_Hits.hs k).l1 l p0 p1 [] 0 out ((i + 1 : Nat) : Int))) r) :
    ∀ (n q : Nat), i = q + n → (l[i]).f_Name ∉ (l.take q).map (·.f_Name) → Ev (fun k => (radomeref39_Hits.hs k).l2 l p0 p1 [] 0 out (i : Int) (q : Int)) r
  | 0, q, e, hq => by
    have : q = i := by omega
    subst this
    refine Ev.step (fun k => rfl) ?_
    simp only [radomeref39_Hits.hs, radomeref39_Hits.b2, if_neg (show ¬ (q : Int) < (q : Int) by omega), if_pos (show (0 : Int) ≤ (q : Int) ∧ (q : Int) < (l.length : Int) by omega), rd_get hi, wsucc (show q < 1000000000 by omega)]
    have := hgo hq
    simp only [if_pos (show (0 : Int) ≤ (q : Int) ∧ (q : Int) < (l.length : Int) by omega)] at this
    exact this
  | n + 1, q, e, hq => by
    have hql : q < l.length := by omega
    refine Ev.step (fun k => rfl) ?_
    simp only [radomeref39_Hits.hs, radomeref39_Hits.b2, if_pos (show (q : Int) < (i : Int) by omega), if_pos (show (0 : Int) ≤ (i : Int) ∧ (i : Int) < (l.length : Int) by omega), if_pos (show (0 : Int) ≤ (q : Int) ∧ (q : Int) < (l.length : Int) by omega), rd_get hi, rd_get hql, wsucc (show q < 1000000000 by omega)]
    by_cases h : (l[i]).f_Name = (l[q]).f_Name
    · simp only [if_pos h]
      rw [h9 (List.mem_map.2 ⟨l[q], by
        rw [List.mem_take_iff_getElem]; exact ⟨q, by omega, rfl⟩, h.symm⟩)]; exact Ev.now
    · simp only [if_neg h]
      refine rh_l2 hl hi h9 hgo n (q + 1) (by omega) ?_
      rw [List.take_succ_eq_append_getElem hql, List.map_append, List.mem_append]
      rintro (h1 | h1)
      · exact hq h1
      · simp at h1; exact h h1
theorem rh_l1 {l : List radomeref39_Zone} {p : radomeref39_Spot} (hl : l.length ≤ 64) (hp : Pl (rpt p)) (hm : ∀ z ∈ l, mayZ (gz z) = true) : ∀ (n i : Nat) (out : List ByteArray), l.length = i + n → out.length ≤ i →
    Ev (fun k => (radomeref39_Hits.hs k).l1 l p.f_X p.f_Y [] 0 out (i : Int)) (if twF ((l.take i).map (·.f_Name)) ((l.drop i).map (·.f_Name)) = true then ([], 9) else (out ++ ((l.drop i).filter (zh (rpt p))).map (·.f_Name), 0))
  | 0, i, out, e, ho => by
    refine Ev.step (fun k => rfl) ?_
    simp only [radomeref39_Hits.hs, radomeref39_Hits.b1, if_neg (show ¬ (i : Int) < (l.length : Int) by omega)]
    rw [List.drop_eq_nil_of_le (by omega)]
    simp only [List.map_nil, twF, Bool.false_eq_true, if_false, List.filter_nil, List.append_nil]; exact Ev.now
  | n + 1, i, out, e, ho => by
    have hi : i < l.length := by omega
    refine Ev.step (fun k => rfl) ?_
    simp only [radomeref39_Hits.hs, radomeref39_Hits.b1, if_pos (show (i : Int) < (l.length : Int) by omega)]
    rw [drop_cons hi, List.map_cons, twF, List.filter_cons]
    refine rh_l2 hl hi (fun h => by rw [inB_iff.2 h, Bool.true_or, if_pos rfl]) (fun h => ?_) i 0 (by omega) (by simp)
    rw [inB_f h, Bool.false_or]
    have htk : (l.take i).map (·.f_Name) ++ [(l[i]).f_Name] = (l.take (i + 1)).map (·.f_Name) := by
      rw [List.take_succ_eq_append_getElem hi, List.map_append]; rfl
    rw [htk]
    refine Ev.bind (rwhere_ev (p := ⟨p.f_X, p.f_Y⟩) (hm _ (List.getElem_mem hi)) hp) ?_
    have hz : zh (rpt p) l[i] = decide (0 < wh (ed ((gz l[i]).f_Corners.map pt)) (rpt p)) := rfl
    by_cases h0 : 0 < wh (ed ((gz l[i]).f_Corners.map pt)) (rpt p)
    · simp only [if_pos (show 0 < wh (ed ((gz l[i]).f_Corners.map pt)) (rpt ⟨p.f_X, p.f_Y⟩) from h0), if_pos (show (0 : Int) ≤ (i : Int) ∧ (i : Int) < (l.length : Int) by omega), if_pos (show out.length + 1 ≤ 8796093022080 by omega)]
      rw [if_pos (show zh (rpt p) l[i] = true by rw [hz]; exact decide_eq_true h0), List.map_cons]
      have ih := rh_l1 hl hp hm n (i + 1) (out ++ [(l[i]).f_Name]) (by omega) (by simp; omega)
      rw [List.append_assoc, List.singleton_append] at ih; exact ih
    · simp only [if_neg (show ¬ 0 < wh (ed ((gz l[i]).f_Corners.map pt)) (rpt ⟨p.f_X, p.f_Y⟩) from h0)]
      rw [if_neg (show ¬ zh (rpt p) l[i] = true by rw [hz]; exact fun h => h0 (of_decide_eq_true h))]
      exact rh_l1 hl hp hm n (i + 1) out (by omega) (by omega)
theorem rh_l0 {l : List radomeref39_Zone} {p0 p1 : Int} {r : List ByteArray × Int} (hl : l.length ≤ 64) (hgo : (l.all fun z => mayZ (gz z)) = true → Ev (fun k => (radomeref39_Hits.hs k).l1 l p0 p1 [] 0 [] 0) r) (hno : (l.all fun z => mayZ (gz z)) = false → r = ([], 1)) : ∀ (n i : Nat), l.length = i + n → (∀ z ∈ l.take i, mayZ (gz z) = true) →
    Ev (fun k => (radomeref39_Hits.hs k).l0 l p0 p1 [] 0 (i : Int)) r
  | 0, i, e, hm => by
    refine Ev.step (fun k => rfl) ?_
    simp only [radomeref39_Hits.hs, radomeref39_Hits.b0, if_neg (show ¬ (i : Int) < (l.length : Int) by omega)]
    refine hgo (List.all_eq_true.2 ?_)
    rw [List.take_of_length_le (by omega)] at hm; exact hm
  | n + 1, i, e, hm => by
    have hi : i < l.length := by omega
    refine Ev.step (fun k => rfl) ?_
    simp only [radomeref39_Hits.hs, radomeref39_Hits.b0, if_pos (show (i : Int) < (l.length : Int) by omega), if_pos (show (0 : Int) ≤ (i : Int) ∧ (i : Int) < (l.length : Int) by omega), rd_get hi, wsucc (show i < 1000000000 by omega)]
    refine Ev.bind (rmay_ev l[i]) ?_
    cases hz : mayZ (gz l[i]) with
    | true =>
      simp only [Bool.not_true, Bool.false_eq_true, if_false]
      refine rh_l0 hl hgo hno n (i + 1) (by omega) fun z hz2 => ?_
      rw [List.take_succ_eq_append_getElem hi] at hz2
      rcases List.mem_append.1 hz2 with h | h
      · exact hm z h
      · simp at h; rw [h]; exact hz
    | false =>
      simp only [Bool.not_false, if_true]
      rw [hno (by
        rw [Bool.eq_false_iff]; intro h
        rw [List.all_eq_true.1 h _ (List.getElem_mem hi)] at hz; cases hz)]
      exact Ev.now
theorem RHits_ev (l : List radomeref39_Zone) {p : radomeref39_Spot} (hp : Pl (rpt p)) : Ev (fun k => radomeref39_Hits.f k l p) (hitR l (rpt p)) := by
  unfold radomeref39_Hits.f hitR
  by_cases h : 64 < l.length
  · simp only [if_pos (show 64 < (l.length : Int) by omega), if_pos h]; exact Ev.now
  · simp only [if_neg (show ¬ 64 < (l.length : Int) by omega), if_neg h]
    refine rh_l0 (by omega) (fun ha => ?_) (fun ha => by rw [ha]; rfl) l.length 0 (by omega) (by simp)
    rw [ha, if_pos rfl]
    have := rh_l1 (l := l) (by omega) hp (fun z hz => List.all_eq_true.1 ha z hz) l.length 0 [] (by omega) (by simp)
    rw [List.take_zero, List.drop_zero, List.nil_append] at this; exact this
/-! ### the law -/
theorem zhl_l1 {x : List ByteArray} {t : Bool} (hl : x.length ≤ 100) : ∀ (n i : Nat), x.length = i + n → Ev (fun k => (radomelaw39_ZoneHits.hs k).l1 t x x (i : Int)) true
  | 0, i, e => by
    refine Ev.step (fun k => rfl) ?_
    simp only [radomelaw39_ZoneHits.hs, radomelaw39_ZoneHits.b1, if_neg (show ¬ (i : Int) < (x.length : Int) by omega)]
    exact Ev.bind sure_ev39 Ev.now
  | n + 1, i, e => by
    have hi : i < x.length := by omega
    refine Ev.step (fun k => rfl) ?_
    simp only [radomelaw39_ZoneHits.hs, radomelaw39_ZoneHits.b1, if_pos (show (i : Int) < (x.length : Int) by omega), if_pos (show (0 : Int) ≤ (i : Int) ∧ (i : Int) < (x.length : Int) by omega), if_true, wsucc (show i < 1000000000 by omega)]
    exact zhl_l1 hl n (i + 1) (by omega)
theorem hitR_len (l : List radomeref39_Zone) (p : Pt) : (hitR l p).1.length ≤ 64 := by
  unfold hitR
  split
  · simp
  · split
    · split
      · simp
      · have := List.length_filter_le (zh p) l
        simp only [List.length_map]; omega
    · simp
theorem zhl_l0 {l : List radomeref39_Zone} {p : radomeref39_Spot} (hl : l.length ≤ 100) (hp : Pl (rpt p)) : ∀ (n i : Nat), l.length = i + n → Ev (fun k => (radomelaw39_ZoneHits.hs k).l0 l p.f_X p.f_Y false ((l.take i).map gz) (i : Int)) true
  | 0, i, e => by
    refine Ev.step (fun k => rfl) ?_
    simp only [radomelaw39_ZoneHits.hs, radomelaw39_ZoneHits.b0, if_neg (show ¬ (i : Int) < (l.length : Int) by omega)]
    rw [List.take_of_length_le (by omega)]
    obtain ⟨r, h1, h2, h3⟩ := Hits_ev l (p := ⟨p.f_X, p.f_Y⟩) hp
    refine Ev.bind h1 (Ev.bind (RHits_ev l (p := ⟨p.f_X, p.f_Y⟩) hp) ?_)
    have e1 : pt ⟨p.f_X, p.f_Y⟩ = rpt ⟨p.f_X, p.f_Y⟩ := rfl
    rw [e1] at h2 h3
    have e2 : ((!decide ((errN r.2) = (hitR l (rpt ⟨p.f_X, p.f_Y⟩)).2)) || (!decide ((r.1.length : Int) = ((hitR l (rpt ⟨p.f_X, p.f_Y⟩)).1.length : Int)))) = false := by rw [h2, h3]; simp
    simp only [e2, Bool.false_eq_true, if_false]
    rw [h2]
    exact zhl_l1 (by have := hitR_len l (rpt ⟨p.f_X, p.f_Y⟩); omega) (hitR l (rpt ⟨p.f_X, p.f_Y⟩)).1.length 0 (by omega)
  | n + 1, i, e => by
    have hi : i < l.length := by omega
    have hi' : (0 : Int) ≤ (i : Int) ∧ (i : Int) < (l.length : Int) := by omega
    refine Ev.step (fun k => rfl) ?_
    simp only [radomelaw39_ZoneHits.hs, radomelaw39_ZoneHits.b0, if_pos (show (i : Int) < (l.length : Int) by omega), if_pos hi', rd_get hi, wsucc (show i < 1000000000 by omega), if_pos (fun _ => hi' : _ → (0 : Int) ≤ (i : Int) ∧ (i : Int) < (l.length : Int))]
    by_cases hb : 100 < ((l[i]).f_Corners).length ∨ 1000 < ((l[i]).f_Name).size
    · have e1 : ((decide (100 < (((l[i]).f_Corners).length : Int))) || (decide (1000 < (((l[i]).f_Name).size : Int)))) = true := by simp; omega
      simp only [e1, if_true]; exact Ev.bind sure_ev39 Ev.now
    · have e1 : ((decide (100 < (((l[i]).f_Corners).length : Int))) || (decide (1000 < (((l[i]).f_Name).size : Int)))) = false := by simp; omega
      simp only [e1, Bool.false_eq_true, if_false]
      refine Ev.bind (give_ev (by omega)) ?_
      simp only [if_pos (show ((l.take i).map gz).length + 1 ≤ 3518437208755 by simp; omega)]
      have e2 : (l.take i).map gz ++ [gz l[i]] = (l.take (i + 1)).map gz := by rw [List.take_succ_eq_append_getElem hi, List.map_append]; rfl
      rw [e2]
      exact zhl_l0 hl hp n (i + 1) (by omega)
theorem ZoneHits : radomelaw39_ZoneHits.Pure := by
  intro l p hl hp
  have hp1 := i32_wf hp.1
  have hp2 := i32_wf hp.2
  suffices h : Ev (fun k => radomelaw39_ZoneHits.f k l p) true from h.ex
  unfold radomelaw39_ZoneHits.f
  by_cases h : 100 < l.length
  · simp only [if_pos (show 100 < (l.length : Int) by omega)]; exact Ev.bind sure_ev39 Ev.now
  · simp only [if_neg (show ¬ 100 < (l.length : Int) by omega)]
    have := zhl_l0 (l := l) (p := p) (by omega) ⟨hp1, hp2⟩ l.length 0 (by omega)
    simpa using this
end Go.Proofs.YtoijknggnlbopaaDoor.Pure
