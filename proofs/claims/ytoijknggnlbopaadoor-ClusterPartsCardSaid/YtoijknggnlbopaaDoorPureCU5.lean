/- What hangs together: rows of numbers by a function, and the law's marks. -/
import Derived.Test.YtoijknggnlbopaaDoorPureCU4
namespace Go.Proofs.YtoijknggnlbopaaDoor.Pure
open Go.RowKit Go.Proofs.YtoijknggnlbopaaDoorK Go.Proofs.YtoijknggnlbopaaDoor.GCP
set_option linter.unusedVariables false
set_option linter.unusedSimpArgs false
set_option linter.unusedSectionVars false
set_option maxRecDepth 100000
def arr (n : Nat) (F : Nat → Int) : List Int := (List.range n).map F
def put (F : Nat → Int) (A : List Nat) (v : Int) : Nat → Int := fun x => if x ∈ A then v else F x
theorem arr_len (n : Nat) (F : Nat → Int) : (arr n F).length = n := by unfold arr; rw [List.length_map, List.length_range]
theorem arr_rd {n : Nat} {F : Nat → Int} {j : Nat} (h : j < n) : rd (arr n F) (j : Int) = F j := by
  rw [rd_get (by rw [arr_len]; exact h)]; unfold arr; rw [List.getElem_map, List.getElem_range]
theorem arr_set {n : Nat} {F : Nat → Int} {j : Nat} {v : Int} : (arr n F).set j v = arr n (fun x => if x = j then v else F x) := by
  unfold arr
  refine List.ext_getElem (by simp) fun q h1 h2 => ?_
  rw [List.getElem_set, List.getElem_map, List.getElem_map, List.getElem_range]
  by_cases c : j = q
  · rw [if_pos c, if_pos c.symm]
  · rw [if_neg c, if_neg (Ne.symm c)]
theorem arr_congr {n : Nat} {F G : Nat → Int} (h : ∀ x, x < n → F x = G x) : arr n F = arr n G := by
  unfold arr; exact List.map_congr_left fun x hx => h x (List.mem_range.1 hx)
theorem put_nil (F : Nat → Int) (v : Int) : put F [] v = F := by funext x; unfold put; rw [if_neg (by simp)]
theorem put_cons (F : Nat → Int) (a : Nat) (A : List Nat) (v : Int) : put (fun x => if x = a then v else F x) A v = put F (a :: A) v := by
  funext x; unfold put
  by_cases c : x ∈ A
  · rw [if_pos c, if_pos (List.mem_cons_of_mem _ c)]
  · rw [if_neg c]
    show (if x = a then v else F x) = _
    by_cases c2 : x = a
    · rw [if_pos c2, if_pos (by rw [c2]; exact List.mem_cons_self ..)]
    · rw [if_neg c2, if_neg fun h => (List.mem_cons.1 h).elim c2 c]
theorem ints_len (A : List Nat) : (ints A).length = A.length := by unfold ints; rw [List.length_map]
theorem ints_rd {A : List Nat} {k : Nat} (h : k < A.length) : rd (ints A) (k : Int) = (A[k] : Int) := by
  rw [rd_get (by rw [ints_len]; exact h)]; unfold ints; rw [List.getElem_map]
theorem cp_l1 {pairs : List (List Int)} {plots : Int} {l : List cluster_Group} {f_ seen : List Int} {i : Nat} {A : List Nat} {r : Bool} (hi : i < l.length) (hi2 : i ≤ 64) (hA : (rd l (i : Int)).f_Tracks = ints A) (hAn : ∀ x ∈ A, x < pairs.length) (hAl : A.length ≤ 64) : ∀ (d k : Nat) (F : Nat → Int), A.length = k + d → (∀ x ∈ A.drop k, F x = 0) → (A.drop k).Nodup → Ev (fun q => (radomelaw19_ClusterParts.hs q).l3 pairs plots false l f_ (arr pairs.length (put F (A.drop k) ((i + 1 : Nat) : Int))) seen (i : Int) 0) r → Ev (fun q => (radomelaw19_ClusterParts.hs q).l1 pairs plots false l f_ (arr pairs.length F) seen (i : Int) (k : Int)) r
  | 0, k, F, e, h0, hd, hgo => by
    rw [List.drop_eq_nil_of_le (by omega), put_nil] at hgo
    refine Ev.step (fun k => rfl) ?_
    simp only [radomelaw19_ClusterParts.hs, radomelaw19_ClusterParts.b1, hA, ints_len, if_pos (show (0 : Int) ≤ (i : Int) ∧ (i : Int) < (l.length : Int) by omega), if_neg (show ¬ (k : Int) < (A.length : Int) by omega)]
    exact hgo
  | d + 1, k, F, e, h0, hd, hgo => by
    have hk : k < A.length := by omega
    rw [drop_cons hk] at h0 hd hgo
    have han := hAn _ (List.getElem_mem hk)
    have hF0 := h0 _ (List.mem_cons_self ..)
    have hnd := List.nodup_cons.1 hd
    have ih := cp_l1 (plots := plots) (f_ := f_) (seen := seen) (r := r) hi hi2 hA hAn hAl d (k + 1) (fun x => if x = A[k] then ((i + 1 : Nat) : Int) else F x) (by omega) (fun x hx => by
      rw [if_neg (fun c => hnd.1 (by rw [← c]; exact hx))]; exact h0 x (List.mem_cons_of_mem _ hx)) hnd.2 (by rw [put_cons]; exact hgo)
    have d1 : decide ((A[k] : Int) < 0) = false := decide_eq_false (by omega)
    have d2 : decide ((pairs.length : Int) ≤ (A[k] : Int)) = false := decide_eq_false (by omega)
    have d3 : decide (rd (arr pairs.length F) (A[k] : Int) = 0) = true := decide_eq_true (by rw [arr_rd han]; exact hF0)
    refine Ev.step (fun k => rfl) ?_
    simp only [radomelaw19_ClusterParts.hs, radomelaw19_ClusterParts.b1, hA, ints_len, ints_rd hk, if_pos (show (0 : Int) ≤ (i : Int) ∧ (i : Int) < (l.length : Int) by omega), if_pos (show (k : Int) < (A.length : Int) by omega), if_pos (show (0 : Int) ≤ (k : Int) ∧ (k : Int) < (A.length : Int) by omega), d1, d2, d3, arr_len, Bool.or_self, Bool.not_false, Bool.not_true, Bool.false_or, Bool.false_eq_true, if_false, if_pos (show (True → (0 : Int) ≤ (A[k] : Int) ∧ (A[k] : Int) < (pairs.length : Int)) from fun _ => by omega), if_pos (show (0 : Int) ≤ (A[k] : Int) ∧ (A[k] : Int) < (pairs.length : Int) by omega), Int.toNat_natCast, arr_set, wsucc (show i < 4611686018427387904 by omega), wsucc (show k < 4611686018427387904 by omega)]
    exact ih
theorem cp_l3 {pairs : List (List Int)} {m : Nat} {l : List cluster_Group} {f_ tracks : List Int} {i : Nat} {A : List Nat} {r : Bool} (hi : i < l.length) (hi2 : i ≤ 64) (hA : (rd l (i : Int)).f_Plots = ints A) (hAn : ∀ x ∈ A, x < m) (hAl : A.length ≤ 64) : ∀ (d k : Nat) (F : Nat → Int), A.length = k + d → (∀ x ∈ A.drop k, F x = 0) → (A.drop k).Nodup → Ev (fun q => (radomelaw19_ClusterParts.hs q).l0 pairs (m : Int) false l f_ tracks (arr m (put F (A.drop k) ((i + 1 : Nat) : Int))) ((i + 1 : Nat) : Int)) r → Ev (fun q => (radomelaw19_ClusterParts.hs q).l3 pairs (m : Int) false l f_ tracks (arr m F) (i : Int) (k : Int)) r
  | 0, k, F, e, h0, hd, hgo => by
    rw [List.drop_eq_nil_of_le (by omega), put_nil] at hgo
    refine Ev.step (fun k => rfl) ?_
    simp only [radomelaw19_ClusterParts.hs, radomelaw19_ClusterParts.b3, hA, ints_len, if_pos (show (0 : Int) ≤ (i : Int) ∧ (i : Int) < (l.length : Int) by omega), if_neg (show ¬ (k : Int) < (A.length : Int) by omega), wsucc (show i < 4611686018427387904 by omega)]
    exact hgo
  | d + 1, k, F, e, h0, hd, hgo => by
    have hk : k < A.length := by omega
    rw [drop_cons hk] at h0 hd hgo
    have han := hAn _ (List.getElem_mem hk)
    have hF0 := h0 _ (List.mem_cons_self ..)
    have hnd := List.nodup_cons.1 hd
    have ih := cp_l3 (pairs := pairs) (f_ := f_) (tracks := tracks) (r := r) hi hi2 hA hAn hAl d (k + 1) (fun x => if x = A[k] then ((i + 1 : Nat) : Int) else F x) (by omega) (fun x hx => by
      rw [if_neg (fun c => hnd.1 (by rw [← c]; exact hx))]; exact h0 x (List.mem_cons_of_mem _ hx)) hnd.2 (by rw [put_cons]; exact hgo)
    have d1 : decide ((A[k] : Int) < 0) = false := decide_eq_false (by omega)
    have d2 : decide ((m : Int) ≤ (A[k] : Int)) = false := decide_eq_false (by omega)
    have d3 : decide (rd (arr m F) (A[k] : Int) = 0) = true := decide_eq_true (by rw [arr_rd han]; exact hF0)
    refine Ev.step (fun k => rfl) ?_
    simp only [radomelaw19_ClusterParts.hs, radomelaw19_ClusterParts.b3, hA, ints_len, ints_rd hk, if_pos (show (0 : Int) ≤ (i : Int) ∧ (i : Int) < (l.length : Int) by omega), if_pos (show (k : Int) < (A.length : Int) by omega), if_pos (show (0 : Int) ≤ (k : Int) ∧ (k : Int) < (A.length : Int) by omega), d1, d2, d3, arr_len, Bool.or_self, Bool.not_false, Bool.not_true, Bool.false_or, Bool.false_eq_true, if_false, if_pos (show (True → (0 : Int) ≤ (A[k] : Int) ∧ (A[k] : Int) < (m : Int)) from fun _ => by omega), if_pos (show (0 : Int) ≤ (A[k] : Int) ∧ (A[k] : Int) < (m : Int) by omega), Int.toNat_natCast, arr_set, wsucc (show i < 4611686018427387904 by omega), wsucc (show k < 4611686018427387904 by omega)]
    exact ih
theorem cp_l2 {pairs : List (List Int)} {m : Nat} {tracks : List Int} {A : List Nat} {r : Bool} (hAn : ∀ x ∈ A, x < m) (hAl : A.length ≤ 64) : ∀ (d k : Nat) (F : Nat → Int), A.length = k + d → (∀ x ∈ A.drop k, F x = 0) → (A.drop k).Nodup → Ev (fun q => (radomelaw19_ClusterParts.hs q).l4 pairs (m : Int) false tracks (arr m (put F (A.drop k) (-1))) 0) r → Ev (fun q => (radomelaw19_ClusterParts.hs q).l2 pairs (m : Int) false (ints A) tracks (arr m F) (k : Int)) r
  | 0, k, F, e, h0, hd, hgo => by
    rw [List.drop_eq_nil_of_le (by omega), put_nil] at hgo
    refine Ev.step (fun k => rfl) ?_
    simp only [radomelaw19_ClusterParts.hs, radomelaw19_ClusterParts.b2, ints_len, if_neg (show ¬ (k : Int) < (A.length : Int) by omega)]
    exact hgo
  | d + 1, k, F, e, h0, hd, hgo => by
    have hk : k < A.length := by omega
    rw [drop_cons hk] at h0 hd hgo
    have han := hAn _ (List.getElem_mem hk)
    have hF0 := h0 _ (List.mem_cons_self ..)
    have hnd := List.nodup_cons.1 hd
    have ih := cp_l2 (pairs := pairs) (tracks := tracks) (r := r) hAn hAl d (k + 1) (fun x => if x = A[k] then -1 else F x) (by omega) (fun x hx => by
      rw [if_neg (fun c => hnd.1 (by rw [← c]; exact hx))]; exact h0 x (List.mem_cons_of_mem _ hx)) hnd.2 (by rw [put_cons]; exact hgo)
    have d1 : decide ((A[k] : Int) < 0) = false := decide_eq_false (by omega)
    have d2 : decide ((m : Int) ≤ (A[k] : Int)) = false := decide_eq_false (by omega)
    have d3 : decide (rd (arr m F) (A[k] : Int) = 0) = true := decide_eq_true (by rw [arr_rd han]; exact hF0)
    refine Ev.step (fun k => rfl) ?_
    simp only [radomelaw19_ClusterParts.hs, radomelaw19_ClusterParts.b2, ints_len, ints_rd hk, if_pos (show (k : Int) < (A.length : Int) by omega), if_pos (show (0 : Int) ≤ (k : Int) ∧ (k : Int) < (A.length : Int) by omega), d1, d2, d3, arr_len, Bool.or_self, Bool.not_false, Bool.not_true, Bool.false_or, Bool.false_eq_true, if_false, if_pos (show (True → (0 : Int) ≤ (k : Int) ∧ (k : Int) < (A.length : Int)) from fun _ => by omega), if_pos (show (True → (0 : Int) ≤ (A[k] : Int) ∧ (A[k] : Int) < (m : Int)) from fun _ => by omega), if_pos (show (0 : Int) ≤ (A[k] : Int) ∧ (A[k] : Int) < (m : Int) by omega), Int.toNat_natCast, arr_set, wsucc (show k < 4611686018427387904 by omega)]
    exact ih
end Go.Proofs.YtoijknggnlbopaaDoor.Pure
