/- What hangs together: the program's groups. -/
import Derived.Test.YtoijknggnlbopaaDoorPureCU2
namespace Go.Proofs.YtoijknggnlbopaaDoor.Pure
open Go.RowKit Go.Proofs.YtoijknggnlbopaaDoorK Go.Proofs.YtoijknggnlbopaaDoor.GCP
set_option linter.unusedVariables false
set_option linter.unusedSimpArgs false
set_option linter.unusedSectionVars false
set_option maxRecDepth 100000
def ints (l : List Nat) : List Int := l.map fun j : Nat => (j : Int)
def Rt (T : Nat → Nat) (i : Nat) : List Nat := (List.range i).filter fun j => decide (T j = j)
def tr (T : Nat → Nat) (i r : Nat) : List Int := ints ((List.range i).filter fun j => decide (T j = r))
def pl (T : Nat → Nat) (n p r : Nat) : List Int := ints ((List.range p).filter fun j => decide (T (n + j) = r))
def outG (T : Nat → Nat) (n i p : Nat) (R : List Nat) : List cluster_Group := R.map fun r => ⟨tr T i r, pl T n p r⟩
theorem mget_mput {α β : Type} [DecidableEq α] (a b : α) (c d : β) : ∀ m : List (α × β), mget (mput m a c) b d = if b = a then c else mget m b d
  | [] => rfl
  | p :: r => by
    unfold mput
    by_cases h : a = p.1
    · rw [if_pos h]
      unfold mget
      by_cases h2 : b = p.1
      · rw [if_pos h2, if_pos (h2.trans h.symm)]
      · rw [if_neg h2, if_neg (fun e => h2 (e.trans h)), if_neg h2]
    · rw [if_neg h]
      have ih := mget_mput a b c d r
      unfold mget
      by_cases h2 : b = p.1
      · rw [if_pos h2, if_neg (fun e => h (e.symm.trans h2)), if_pos h2]
      · rw [if_neg h2, ih, if_neg h2]
theorem mhas_mput {α β : Type} [DecidableEq α] (a b : α) (c : β) : ∀ m : List (α × β), mhas (mput m a c) b = (decide (b = a) || mhas m b)
  | [] => by simp [mput, mhas]
  | p :: r => by
    unfold mput
    by_cases h : a = p.1
    · rw [if_pos h]
      unfold mhas
      show (decide (b = p.1) || mhas r b) = (decide (b = a) || (decide (b = p.1) || mhas r b))
      rw [h]; cases decide (b = p.1) <;> simp
    · rw [if_neg h]
      have ih := mhas_mput a b c r
      unfold mhas
      rw [ih]; cases decide (b = p.1) <;> cases decide (b = a) <;> simp
structure MI (R : List Nat) (at_ : List (Int × Int)) : Prop where
  has : ∀ x : Nat, mhas at_ (x : Int) = decide (x ∈ R)
  get : ∀ r : Nat, r ∈ R → mget at_ (r : Int) 0 = (R.idxOf r : Int)
theorem MI.nil : MI [] [] := ⟨fun x => by simp [mhas], fun r h => by cases h⟩
theorem MI.add {R : List Nat} {at_ : List (Int × Int)} {i : Nat} (h : MI R at_) (hi : i ∉ R) : MI (R ++ [i]) (mput at_ (i : Int) (R.length : Int)) := by
  refine ⟨fun x => ?_, fun r hr => ?_⟩
  · rw [mhas_mput, h.has]
    by_cases e : x = i
    · subst e; simp
    · have e2 : ¬ (x : Int) = (i : Int) := by omega
      simp [e, e2]
  · rw [mget_mput]
    by_cases e : r = i
    · subst e; rw [if_pos rfl, List.idxOf_append, if_neg hi]; simp
    · have e2 : ¬ (r : Int) = (i : Int) := by omega
      have hr2 : r ∈ R := by
        rcases List.mem_append.1 hr with h1 | h1
        · exact h1
        · exact absurd (List.mem_singleton.1 h1) e
      rw [if_neg e2, h.get r hr2, List.idxOf_append, if_pos hr2]
theorem set_idx {α : Type} (F : Nat → α) (v : α) (r : Nat) : ∀ R : List Nat, R.Nodup → r ∈ R → (R.map F).set (R.idxOf r) v = R.map fun x => if x = r then v else F x
  | [], _, h => by cases h
  | a :: R, hn, h => by
    rw [List.nodup_cons] at hn
    rw [List.idxOf_cons]
    by_cases e : a = r
    · subst e
      simp only [beq_self_eq_true, cond_true, List.map_cons, List.set_cons_zero, if_true]
      congr 1
      refine List.map_congr_left fun x hx => ?_
      have : ¬ x = a := fun e2 => hn.1 (by rw [← e2]; exact hx)
      rw [if_neg this]
    · have hr : r ∈ R := by
        rcases List.mem_cons.1 h with h1 | h1
        · exact absurd h1.symm e
        · exact h1
      rw [show (a == r) = false from beq_false_of_ne e]
      simp only [cond_false, List.map_cons, List.set_cons_succ, if_neg e, set_idx F v r R hn.2 hr]
theorem rd_idx {α : Type} [Inhabited α] (F : Nat → α) {r : Nat} {R : List Nat} (h : r ∈ R) : rd (R.map F) (R.idxOf r : Int) = F r := by
  have hl : R.idxOf r < (R.map F).length := by rw [List.length_map]; exact List.idxOf_lt_length_of_mem h
  rw [rd_get hl, List.getElem_map, List.getElem_idxOf]
theorem flt_succ (P : Nat → Bool) (i : Nat) : (List.range (i + 1)).filter P = (List.range i).filter P ++ (if P i = true then [i] else []) := by
  rw [List.range_succ, List.filter_append, List.filter_cons]; rfl
theorem flt_len (P : Nat → Bool) (i : Nat) : ((List.range i).filter P).length ≤ i := by
  have := List.length_filter_le P (List.range i); rwa [List.length_range] at this
theorem tr_len (T : Nat → Nat) (i r : Nat) : (tr T i r).length ≤ i := by unfold tr ints; rw [List.length_map]; exact flt_len _ _
theorem pl_len (T : Nat → Nat) (n i r : Nat) : (pl T n i r).length ≤ i := by unfold pl ints; rw [List.length_map]; exact flt_len _ _
theorem tr_succ (T : Nat → Nat) (i r : Nat) : tr T (i + 1) r = tr T i r ++ (if T i = r then [(i : Int)] else []) := by
  unfold tr ints
  rw [flt_succ, List.map_append]
  congr 1
  by_cases h : T i = r
  · rw [if_pos (decide_eq_true h), if_pos h]; rfl
  · rw [if_neg (by simpa using h), if_neg h]; rfl
theorem pl_succ (T : Nat → Nat) (n p r : Nat) : pl T n (p + 1) r = pl T n p r ++ (if T (n + p) = r then [(p : Int)] else []) := by
  unfold pl ints
  rw [flt_succ, List.map_append]
  congr 1
  by_cases h : T (n + p) = r
  · rw [if_pos (decide_eq_true h), if_pos h]; rfl
  · rw [if_neg (by simpa using h), if_neg h]; rfl
theorem Rt_mem {T : Nat → Nat} {i r : Nat} : r ∈ Rt T i ↔ r < i ∧ T r = r := by
  unfold Rt; rw [List.mem_filter, List.mem_range, decide_eq_true_eq]
theorem Rt_nodup (T : Nat → Nat) (i : Nat) : (Rt T i).Nodup := List.Pairwise.filter _ List.nodup_range
theorem Rt_succ (T : Nat → Nat) (i : Nat) : Rt T (i + 1) = Rt T i ++ (if T i = i then [i] else []) := by
  unfold Rt; rw [flt_succ]; congr 1
  by_cases h : T i = i
  · rw [if_pos (decide_eq_true h), if_pos h]
  · rw [if_neg (by simpa using h), if_neg h]
section
variable {pairs : List (List Int)} {m N : Nat} (hn : pairs.length ≤ 64) (hm : m ≤ 64) (hN : N = pairs.length + m) {T : Nat → Nat} (hle : ∀ i, i < N → T i ≤ i) (hid : ∀ i, i < N → T (T i) = T i)
include hn hm hN hle hid
theorem of_l3 {at_ : List (Int × Int)} (hat : MI (Rt T pairs.length) at_) : ∀ (d p : Nat) (f : List Int), m = p + d → Fo N f → (∀ j, j < N → Tp f j = T j) → Ev (fun k => (cluster_Of.hs k).l3 pairs f (outG T pairs.length pairs.length p (Rt T pairs.length)) at_ (m : Int) (p : Int)) (outG T pairs.length pairs.length m (Rt T pairs.length), none)
  | 0, p, f, e, h, hT => by
    have : p = m := by omega
    subst this
    refine Ev.step (fun k => rfl) ?_
    simp only [cluster_Of.hs, cluster_Of.b3, if_neg (show ¬ (p : Int) < (p : Int) by omega)]; exact Ev.now
  | d + 1, p, f, e, h, hT => by
    obtain ⟨f1, e1, h1, t1⟩ := top_ev (pairs.length + p) f (by omega) h
    rw [hT _ (by omega)] at e1
    have ih := of_l3 hat d (p + 1) f1 (by omega) h1 (fun j hj => by rw [t1 j hj, hT j hj])
    have ew : w64 ((pairs.length : Int) + (p : Int)) = ((pairs.length + p : Nat) : Int) := by rw [wi (by omega)]; omega
    refine Ev.step (fun k => rfl) ?_
    simp only [cluster_Of.hs, cluster_Of.b3, if_pos (show (p : Int) < (m : Int) by omega), ew, wsucc (show p < 4611686018427387904 by omega)]
    refine Ev.bind e1 ?_
    have hH := hat.has (T (pairs.length + p))
    by_cases c : T (pairs.length + p) ∈ Rt T pairs.length
    · have hg := hat.get _ c
      have hlt : (Rt T pairs.length).idxOf (T (pairs.length + p)) < (outG T pairs.length pairs.length p (Rt T pairs.length)).length := by
        unfold outG; rw [List.length_map]; exact List.idxOf_lt_length_of_mem c
      have hr : rd (outG T pairs.length pairs.length p (Rt T pairs.length)) ((Rt T pairs.length).idxOf (T (pairs.length + p)) : Int) = ⟨tr T pairs.length (T (pairs.length + p)), pl T pairs.length p (T (pairs.length + p))⟩ := rd_idx _ c
      have hl := pl_len T pairs.length p (T (pairs.length + p))
      simp only [hH, decide_eq_true c, if_true, hg, if_pos (show (0 : Int) ≤ ((Rt T pairs.length).idxOf (T (pairs.length + p)) : Int) ∧ ((Rt T pairs.length).idxOf (T (pairs.length + p)) : Int) < ((outG T pairs.length pairs.length p (Rt T pairs.length)).length : Int) by omega), hr, if_pos (show (pl T pairs.length p (T (pairs.length + p))).length + 1 ≤ 17592186044288 by omega), Int.toNat_natCast]
      have e3 : (outG T pairs.length pairs.length p (Rt T pairs.length)).set ((Rt T pairs.length).idxOf (T (pairs.length + p))) (⟨tr T pairs.length (T (pairs.length + p)), pl T pairs.length p (T (pairs.length + p)) ++ [(p : Int)]⟩ : cluster_Group) = outG T pairs.length pairs.length (p + 1) (Rt T pairs.length) := by
        unfold outG
        rw [set_idx _ _ _ _ (Rt_nodup _ _) c]
        refine List.map_congr_left fun x hx => ?_
        rw [pl_succ]
        by_cases e4 : x = T (pairs.length + p)
        · rw [if_pos e4, ← e4, if_pos rfl]
        · rw [if_neg e4, if_neg (Ne.symm e4), List.append_nil]
      rw [e3]; exact ih
    · simp only [hH, decide_eq_false c, Bool.false_eq_true, if_false]
      have e3 : outG T pairs.length pairs.length (p + 1) (Rt T pairs.length) = outG T pairs.length pairs.length p (Rt T pairs.length) := by
        unfold outG
        refine List.map_congr_left fun x hx => ?_
        have : ¬ T (pairs.length + p) = x := fun e4 => c (by rw [e4]; exact hx)
        rw [pl_succ, if_neg this, List.append_nil]
      rw [e3] at ih; exact ih
theorem of_l2 : ∀ (d i : Nat) (f : List Int) (at_ : List (Int × Int)), pairs.length = i + d → Fo N f → (∀ j, j < N → Tp f j = T j) → MI (Rt T i) at_ → Ev (fun k => (cluster_Of.hs k).l2 pairs (m : Int) f (outG T pairs.length i 0 (Rt T i)) at_ (pairs.length : Int) (i : Int)) (outG T pairs.length pairs.length m (Rt T pairs.length), none)
  | 0, i, f, at_, e, h, hT, hat => by
    have : i = pairs.length := by omega
    subst this
    refine Ev.step (fun k => rfl) ?_
    simp only [cluster_Of.hs, cluster_Of.b2, if_neg (show ¬ (pairs.length : Int) < (pairs.length : Int) by omega)]
    exact of_l3 hn hm hN hle hid hat m 0 f (by omega) h hT
  | d + 1, i, f, at_, e, h, hT, hat => by
    obtain ⟨f1, e1, h1, t1⟩ := top_ev i f (by omega) h
    rw [hT _ (by omega)] at e1
    have hT1 : ∀ j, j < N → Tp f1 j = T j := fun j hj => by rw [t1 j hj, hT j hj]
    have hl := hle i (by omega)
    have hi2 := hid i (by omega)
    refine Ev.step (fun k => rfl) ?_
    simp only [cluster_Of.hs, cluster_Of.b2, if_pos (show (i : Int) < (pairs.length : Int) by omega)]
    refine Ev.bind e1 ?_
    have hH := hat.has (T i)
    have hRl : (Rt T i).length ≤ i := flt_len _ _
    have hol : (outG T pairs.length i 0 (Rt T i)).length = (Rt T i).length := by unfold outG; rw [List.length_map]
    by_cases c : T i = i
    · have hno : i ∉ Rt T i := fun h2 => by have := (Rt_mem.1 h2).1; omega
      have hRs : Rt T (i + 1) = Rt T i ++ [i] := by rw [Rt_succ, if_pos c]
      have ih := of_l2 d (i + 1) f1 (mput at_ (i : Int) ((Rt T i).length : Int)) (by omega) h1 hT1 (by rw [hRs]; exact hat.add hno)
      rw [c] at hH
      rw [c]
      simp only [hH, decide_eq_false hno, Bool.not_false, if_true, hol, if_pos (show (Rt T i).length + 1 ≤ 2932031007274 by omega)]
      unfold cluster_Of.j4
      have hr : rd (outG T pairs.length i 0 (Rt T i) ++ [(⟨[], []⟩ : cluster_Group)]) ((Rt T i).length : Int) = ⟨[], []⟩ := by
        rw [rd_get (by rw [List.length_append, hol]; simp), List.getElem_append_right (by omega)]; simp [hol]
      simp only [if_pos (show (0 : Int) ≤ ((Rt T i).length : Int) ∧ ((Rt T i).length : Int) < ((outG T pairs.length i 0 (Rt T i) ++ [(⟨[], []⟩ : cluster_Group)]).length : Int) by rw [List.length_append, hol]; simp; omega), hr, List.length_nil, if_pos (show 0 + 1 ≤ 17592186044288 by omega), Int.toNat_natCast, wsucc (show i < 4611686018427387904 by omega), List.nil_append]
      have e3 : (outG T pairs.length i 0 (Rt T i) ++ [(⟨[], []⟩ : cluster_Group)]).set (Rt T i).length (⟨[(i : Int)], []⟩ : cluster_Group) = outG T pairs.length (i + 1) 0 (Rt T (i + 1)) := by
        rw [List.set_append_right _ _ (by omega), hol, Nat.sub_self, hRs]
        unfold outG
        have a1 : (Rt T i).map (fun r => (⟨tr T (i + 1) r, pl T pairs.length 0 r⟩ : cluster_Group)) = (Rt T i).map (fun r => (⟨tr T i r, pl T pairs.length 0 r⟩ : cluster_Group)) := by
          refine List.map_congr_left fun x hx => ?_
          have := (Rt_mem.1 hx).1
          rw [tr_succ, if_neg (by omega), List.append_nil]
        have e5 : tr T i i = [] := by
          unfold tr ints
          rw [List.map_eq_nil_iff, List.filter_eq_nil_iff]
          intro j hj
          have := List.mem_range.1 hj
          have := hle j (by omega)
          simp; omega
        have a2 : tr T (i + 1) i = [(i : Int)] := by rw [tr_succ, e5, if_pos c]; rfl
        rw [List.map_append, a1]
        simp only [List.set_cons_zero, List.map_cons, List.map_nil, a2]
        rfl
      rw [e3]; exact ih
    · have hlt : T i < i := by omega
      have hin : T i ∈ Rt T i := Rt_mem.2 ⟨hlt, hi2⟩
      have hRs : Rt T (i + 1) = Rt T i := by rw [Rt_succ, if_neg c, List.append_nil]
      have ih := of_l2 d (i + 1) f1 at_ (by omega) h1 hT1 (by rw [hRs]; exact hat)
      have hg := hat.get _ hin
      have hlt2 := List.idxOf_lt_length_of_mem hin
      simp only [hH, decide_eq_true hin, Bool.not_true, Bool.false_eq_true, if_false, hg]
      unfold cluster_Of.j4
      have hr : rd (outG T pairs.length i 0 (Rt T i)) ((Rt T i).idxOf (T i) : Int) = ⟨tr T i (T i), pl T pairs.length 0 (T i)⟩ := rd_idx _ hin
      have htl := tr_len T i (T i)
      simp only [if_pos (show (0 : Int) ≤ ((Rt T i).idxOf (T i) : Int) ∧ ((Rt T i).idxOf (T i) : Int) < ((outG T pairs.length i 0 (Rt T i)).length : Int) by rw [hol]; omega), hr, if_pos (show (tr T i (T i)).length + 1 ≤ 17592186044288 by omega), Int.toNat_natCast, wsucc (show i < 4611686018427387904 by omega)]
      have e3 : (outG T pairs.length i 0 (Rt T i)).set ((Rt T i).idxOf (T i)) (⟨tr T i (T i) ++ [(i : Int)], pl T pairs.length 0 (T i)⟩ : cluster_Group) = outG T pairs.length (i + 1) 0 (Rt T (i + 1)) := by
        rw [hRs]
        unfold outG
        rw [set_idx _ _ _ _ (Rt_nodup _ _) hin]
        refine List.map_congr_left fun x hx => ?_
        rw [tr_succ]
        by_cases e4 : x = T i
        · rw [if_pos e4, ← e4, if_pos rfl]
        · rw [if_neg e4, if_neg (Ne.symm e4), List.append_nil]
      rw [e3]; exact ih
end
theorem chk_none {pairs : List (List Int)} {plots : Int} (h : chkV pairs plots = none) : pairs.length ≤ 64 ∧ 0 ≤ plots ∧ plots ≤ 64 ∧ pairs.all (okL plots (-1)) = true := by
  unfold chkV at h
  by_cases h1 : 64 < pairs.length
  · rw [if_pos h1] at h; cases h
  · rw [if_neg h1] at h
    by_cases h2 : plots < 0 ∨ 64 < plots
    · rw [if_pos h2] at h; cases h
    · rw [if_neg h2] at h
      by_cases h3 : pairs.all (okL plots (-1)) = true
      · exact ⟨by omega, by omega, by omega, h3⟩
      · rw [if_neg h3] at h; cases h
theorem Of_ev {pairs : List (List Int)} {m : Nat} (hlen : ∀ l ∈ pairs, l.length ≤ 17592186044416) (hc : chkV pairs (m : Int) = none) : ∃ T, Hangs (pairs.length + m) (Ed pairs pairs.length 0) T ∧ Ev (fun k => cluster_Of.f k pairs (m : Int)) (outG T pairs.length pairs.length m (Rt T pairs.length), none) := by
  obtain ⟨hn, -, hm, ok⟩ := chk_none hc
  have hm : m ≤ 64 := by omega
  obtain ⟨f0, e0, h0, t0⟩ := planted_ev (N := pairs.length + m) (by omega)
  have hid0 : ∀ j, j < pairs.length + m → Tp f0 j = j := fun j hj => Tp_fix h0 (t0 j hj)
  have hh0 : Hangs (pairs.length + m) (Ed pairs 0 0) (Tp f0) := ⟨fun i hi => Tp_le h0 i, fun i hi => Tp_Tp h0 i, fun i j hs => by
    rcases hs with ⟨h1, _⟩ | ⟨_, p, hp, _⟩
    · omega
    · simp at hp, fun α g hg i hi => by rw [hid0 i hi]⟩
  obtain ⟨f1, h1, hh1, k1⟩ := of_l0 hn hm rfl ok hlen pairs.length 0 f0 (by omega) h0 hh0
  refine ⟨Tp f1, hh1, ?_⟩
  unfold cluster_Of.f
  have hck := Check_ev (plots := (m : Int)) hlen
  rw [hc] at hck
  refine Ev.bind hck ?_
  have ew : w64 ((pairs.length : Int) + (m : Int)) = ((pairs.length + m : Nat) : Int) := by rw [wi (by omega)]; omega
  simp only [Option.isSome_none, Bool.false_eq_true, if_false, ew]
  refine Ev.bind e0 (k1 _ ?_)
  exact of_l2 hn hm rfl hh1.le hh1.idem pairs.length 0 f1 [] (by omega) h1 (fun j _ => rfl) MI.nil
theorem Of_bad {pairs : List (List Int)} {plots : Int} (hlen : ∀ l ∈ pairs, l.length ≤ 17592186044416) {e : Int} (hc : chkV pairs plots = some e) : Ev (fun k => cluster_Of.f k pairs plots) ([], some e) := by
  unfold cluster_Of.f
  have hck := Check_ev (plots := plots) hlen
  rw [hc] at hck
  refine Ev.bind hck ?_
  simp only [Option.isSome_some, if_true]; exact Ev.now
/-! ### what is free -/
theorem index_l0 {s : List Int} {v : Int} (hs : s.length ≤ 17592186044416) : ∀ (d i : Nat), s.length = i + d → ∃ r : Int, Ev (fun k => (slices_Index_int_int.hs k).l0 s v 0 (s.length : Int) (i : Int)) r ∧ (decide (0 ≤ r) = decide (v ∈ s.drop i))
  | 0, i, e => by
    refine ⟨-1, ?_, ?_⟩
    · refine Ev.step (fun k => rfl) ?_
      simp only [slices_Index_int_int.hs, slices_Index_int_int.b0, if_neg (show ¬ (i : Int) < (s.length : Int) by omega)]; exact Ev.now
    · rw [List.drop_eq_nil_of_le (by omega)]; simp
  | d + 1, i, e => by
    have hi : i < s.length := by omega
    by_cases c : v = s[i]
    · refine ⟨(i : Int), ?_, ?_⟩
      · refine Ev.step (fun k => rfl) ?_
        simp only [slices_Index_int_int.hs, slices_Index_int_int.b0, if_pos (show (i : Int) < (s.length : Int) by omega), if_pos (show (0 : Int) ≤ (i : Int) ∧ (i : Int) < (s.length : Int) by omega), rd_get hi, if_pos c]; exact Ev.now
      · rw [drop_cons hi, decide_eq_true (show (0 : Int) ≤ (i : Int) by omega)]
        exact (decide_eq_true (by rw [c]; exact List.mem_cons_self ..)).symm
    · obtain ⟨r, h1, h2⟩ := index_l0 hs (v := v) d (i + 1) (by omega)
      refine ⟨r, ?_, ?_⟩
      · refine Ev.step (fun k => rfl) ?_
        simp only [slices_Index_int_int.hs, slices_Index_int_int.b0, if_pos (show (i : Int) < (s.length : Int) by omega), if_pos (show (0 : Int) ≤ (i : Int) ∧ (i : Int) < (s.length : Int) by omega), rd_get hi, if_neg c, wsucc (show i < 4611686018427387904 by omega)]; exact h1
      · rw [h2, drop_cons hi]; exact decide_eq_decide.2 ⟨fun h => List.mem_cons_of_mem _ h, fun h => (List.mem_cons.1 h).resolve_left c⟩
theorem free1_ev {s : List Int} {v : Int} (hs : s.length ≤ 17592186044416) : Ev (fun k => cluster_Free_1.f k s v) (decide (v ∈ s)) := by
  unfold cluster_Free_1.f slices_Contains_int_int.f slices_Index_int_int.f
  obtain ⟨r, h1, h2⟩ := index_l0 hs (v := v) s.length 0 (by omega)
  rw [List.drop_zero] at h2
  rw [← h2]
  exact Ev.bind (Ev.bind h1 Ev.now) Ev.now
theorem ifn_l0 {L : List (List Int)} {v : Int} (hL : L.length ≤ 64) (hs : ∀ l ∈ L, l.length ≤ 17592186044416) : ∀ (d i : Nat), L.length = i + d → ∃ r : Int, Ev (fun k => (slices_IndexFunc_int_int_cluster_Free_1.hs k).l0 L v 0 (L.length : Int) (i : Int)) r ∧ (decide (0 ≤ r) = (L.drop i).any fun l => decide (v ∈ l))
  | 0, i, e => by
    refine ⟨-1, ?_, ?_⟩
    · refine Ev.step (fun k => rfl) ?_
      simp only [slices_IndexFunc_int_int_cluster_Free_1.hs, slices_IndexFunc_int_int_cluster_Free_1.b0, if_neg (show ¬ (i : Int) < (L.length : Int) by omega)]; exact Ev.now
    · rw [List.drop_eq_nil_of_le (by omega)]; rfl
  | d + 1, i, e => by
    have hi : i < L.length := by omega
    have hf := free1_ev (v := v) (hs _ (List.getElem_mem hi))
    by_cases c : v ∈ L[i]
    · rw [decide_eq_true c] at hf
      refine ⟨(i : Int), ?_, ?_⟩
      · refine Ev.step (fun k => rfl) ?_
        simp only [slices_IndexFunc_int_int_cluster_Free_1.hs, slices_IndexFunc_int_int_cluster_Free_1.b0, if_pos (show (i : Int) < (L.length : Int) by omega), if_pos (show (0 : Int) ≤ (i : Int) ∧ (i : Int) < (L.length : Int) by omega), rd_get hi]
        refine Ev.bind hf ?_
        simp only [if_true]; exact Ev.now
      · rw [drop_cons hi, List.any_cons, decide_eq_true c, decide_eq_true (show (0 : Int) ≤ (i : Int) by omega)]; rfl
    · rw [decide_eq_false c] at hf
      obtain ⟨r, h1, h2⟩ := ifn_l0 hL hs (v := v) d (i + 1) (by omega)
      refine ⟨r, ?_, ?_⟩
      · refine Ev.step (fun k => rfl) ?_
        simp only [slices_IndexFunc_int_int_cluster_Free_1.hs, slices_IndexFunc_int_int_cluster_Free_1.b0, if_pos (show (i : Int) < (L.length : Int) by omega), if_pos (show (0 : Int) ≤ (i : Int) ∧ (i : Int) < (L.length : Int) by omega), rd_get hi, wsucc (show i < 4611686018427387904 by omega)]
        refine Ev.bind hf ?_
        simp only [Bool.false_eq_true, if_false]; exact h1
      · rw [h2, drop_cons hi, List.any_cons, decide_eq_false c, Bool.false_or]
def inP (pairs : List (List Int)) (p : Nat) : Bool := pairs.any fun l => decide ((p : Int) ∈ l)
def freeL (pairs : List (List Int)) (m : Nat) : List Int := ints ((List.range m).filter fun p => !inP pairs p)
theorem free_l0 {pairs : List (List Int)} {m : Nat} (hn : pairs.length ≤ 64) (hm : m ≤ 64) (hs : ∀ l ∈ pairs, l.length ≤ 17592186044416) : ∀ (d p : Nat), m = p + d → Ev (fun k => (cluster_Free.hs k).l0 pairs (freeL pairs p) (m : Int) (p : Int)) (freeL pairs m, none)
  | 0, p, e => by
    have : p = m := by omega
    subst this
    refine Ev.step (fun k => rfl) ?_
    simp only [cluster_Free.hs, cluster_Free.b0, if_neg (show ¬ (p : Int) < (p : Int) by omega)]; exact Ev.now
  | d + 1, p, e => by
    have ih := free_l0 hn hm hs d (p + 1) (by omega)
    obtain ⟨r, h1, h2⟩ := ifn_l0 hn hs (v := (p : Int)) pairs.length 0 (by omega)
    have hcf : Ev (fun k => slices_ContainsFunc_int_int_cluster_Free_1.f k pairs (p : Int)) (inP pairs p) := by
      unfold slices_ContainsFunc_int_int_cluster_Free_1.f slices_IndexFunc_int_int_cluster_Free_1.f
      rw [List.drop_zero] at h2
      unfold inP; rw [← h2]
      exact Ev.bind h1 Ev.now
    have hl : (freeL pairs p).length ≤ p := by unfold freeL ints; rw [List.length_map]; exact flt_len _ _
    have hsu : freeL pairs (p + 1) = freeL pairs p ++ (if (!inP pairs p) = true then [(p : Int)] else []) := by
      unfold freeL ints; rw [flt_succ, List.map_append]; congr 1; split <;> rfl
    refine Ev.step (fun k => rfl) ?_
    simp only [cluster_Free.hs, cluster_Free.b0, if_pos (show (p : Int) < (m : Int) by omega), wsucc (show p < 4611686018427387904 by omega)]
    refine Ev.bind hcf ?_
    rw [hsu] at ih
    cases c : inP pairs p with
    | true => rw [c] at ih; simp only [Bool.not_true, Bool.false_eq_true, if_false, List.append_nil] at ih ⊢; exact ih
    | false => rw [c] at ih; simp only [Bool.not_false, if_true, if_pos (show (freeL pairs p).length + 1 ≤ 17592186044288 by omega)] at ih ⊢; exact ih
theorem Free_ev {pairs : List (List Int)} {m : Nat} (hs : ∀ l ∈ pairs, l.length ≤ 17592186044416) (hc : chkV pairs (m : Int) = none) : Ev (fun k => cluster_Free.f k pairs (m : Int)) (freeL pairs m, none) := by
  obtain ⟨hn, -, hm, ok⟩ := chk_none hc
  unfold cluster_Free.f
  have hck := Check_ev (plots := (m : Int)) hs
  rw [hc] at hck
  refine Ev.bind hck ?_
  simp only [Option.isSome_none, Bool.false_eq_true, if_false]
  exact free_l0 hn (by omega) hs m 0 (by omega)
theorem Free_bad {pairs : List (List Int)} {plots : Int} (hs : ∀ l ∈ pairs, l.length ≤ 17592186044416) {e : Int} (hc : chkV pairs plots = some e) : Ev (fun k => cluster_Free.f k pairs plots) ([], some e) := by
  unfold cluster_Free.f
  have hck := Check_ev (plots := plots) hs
  rw [hc] at hck
  refine Ev.bind hck ?_
  simp only [Option.isSome_some, if_true]; exact Ev.now
theorem sure_ev19 : Ev (fun k => radomelaw19_sure.f k) true := Ev.of radomelaw19_sure.mono (k := 60) (by decide +kernel)
theorem hangs_free {pairs : List (List Int)} {m : Nat} {T : Nat → Nat} (ok : pairs.all (okL (m : Int) (-1)) = true) (h : Hangs (pairs.length + m) (Ed pairs pairs.length 0) T) {p : Nat} (hp : p < m) :
    (∀ t, (ht : t < pairs.length) → (p : Int) ∈ pairs[t] → T (pairs.length + p) = T t) ∧ (inP pairs p = false → T (pairs.length + p) = pairs.length + p) := by
  refine ⟨fun t ht hm => ?_, fun hno => ?_⟩
  · refine (h.same t (pairs.length + p) (.inl ⟨ht, (p : Int), ?_, by simp⟩)).symm
    rw [List.getD_eq_getElem?_getD, List.getElem?_eq_getElem ht]; exact hm
  · have := h.only Bool (fun j => decide (j = pairs.length + p)) (fun i j hs => by
      rcases hs with ⟨h1, q, hq, rfl⟩ | ⟨h1, q, hq, rfl⟩
      · have e1 : decide (i = pairs.length + p) = false := decide_eq_false (by omega)
        rw [e1]
        refine (decide_eq_false fun e2 => ?_).symm
        have e3 : q.toNat = p := by omega
        rw [List.getD_eq_getElem?_getD, List.getElem?_eq_getElem h1] at hq
        have hq2 : q ∈ pairs[i] := hq
        have := okL_mem (List.all_eq_true.1 ok _ (List.getElem_mem h1)) q hq2
        have e4 : q = (p : Int) := by omega
        rw [e4] at hq2
        have : inP pairs p = true := List.any_eq_true.2 ⟨_, List.getElem_mem h1, decide_eq_true hq2⟩
        rw [hno] at this; cases this
      · simp at hq) (pairs.length + p) (by omega)
    simp only [decide_true, decide_eq_true_eq] at this
    exact this
end Go.Proofs.YtoijknggnlbopaaDoor.Pure
