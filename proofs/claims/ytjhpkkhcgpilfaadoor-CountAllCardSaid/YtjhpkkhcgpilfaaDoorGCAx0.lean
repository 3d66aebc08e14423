/- A text of this session, written by a program (wip/k/gen.py): Go functions as Lean functions, and proofs that the code comes to them. -/
import Derived.Test.YtjhpkkhcgpilfaaDoorGCAt
namespace Go.Proofs.YtjhpkkhcgpilfaaDoor.GCA
open Go Go.RowKit Go.Proofs.YtjhpkkhcgpilfaaDoorK Go.Proofs.YtjhpkkhcgpilfaaDoor
set_option maxRecDepth 100000
set_option maxHeartbeats 2000000
set_option linter.unusedVariables false
set_option linter.unusedSimpArgs false
/-! ### radome/count.New -/
noncomputable def count_New.C : Code := (Tryd.f23.body).getD .skip
def count_New.out (its_ : Items) (r : count_Counts) (H : Hp) (v : Value) : Prop := ∃ b0 : Nat, ∃ v1 : Value, ∃ i1 : Item', v = .pointer (some ⟨b0, 0, none⟩) ∧ its_ = [some (b0, .cells ⟨[.int .i64 r.f_l.e0.f_v, .int .i64 r.f_l.e1.f_v, .int .i64 r.f_l.e2.f_v, .int .i64 r.f_l.e3.f_v, .int .i64 r.f_l.e4.f_v, .int .i64 r.f_l.e5.f_v, .int .i64 r.f_l.e6.f_v, .int .i64 r.f_l.e7.f_v, .int .u32 r.f_once.f_done.f_v, .int .i32 r.f_once.f_m.f_mu.f_state, .int .u32 r.f_once.f_m.f_mu.f_sema, v1]⟩ 129 (0, 0)), i1] ∧ MpN (mkStr (fun b => .int .i64 b)) H 127 i1 v1 r.f_kinds
abbrev count_New.R (H0 : Hp) (L : Items) (r : count_Counts) : Value → Hp → Items → Prop := fun v H' L' => ∃ p its_, L' = p ++ (its_ ++ L) ∧ H0.le H' ∧ count_New.out its_ r H' v
noncomputable def count_New.f (k : Nat)  : Option count_Counts := some ((⟨(⟨(⟨0⟩ : atomic_Int64), (⟨0⟩ : atomic_Int64), (⟨0⟩ : atomic_Int64), (⟨0⟩ : atomic_Int64), (⟨0⟩ : atomic_Int64), (⟨0⟩ : atomic_Int64), (⟨0⟩ : atomic_Int64), (⟨0⟩ : atomic_Int64)⟩ : T117), (⟨(⟨0⟩ : atomic_Bool), (⟨(⟨0, 0⟩ : sync_Mutex)⟩ : sync_Mutex_124)⟩ : sync_Once), []⟩ : count_Counts))
theorem count_New.mono : ∀ k, LeO (count_New.f k) (count_New.f (k + 1)) := fun k => by unfold count_New.f; exact (LeO.refl _)
theorem count_New.calls (k : Nat) {H : Hp} {L : Items} {r : count_Counts} (he : count_New.f k  = some r) : Ct Tryd.prog 23 ⟨[]⟩ H L (fun v H' L' => ∃ its_, L' = its_ ++ L ∧ H.le H' ∧ count_New.out its_ r H' v) := by
 refine ct_ptr ?_
 have hle : H.le H := .refl _
 unfold count_New.f at he
 refine ct_enter (args := []) fn_23 rfl nt_23 rfl <| w_seq <| w_region rfl <| w_d rfl (d_assign (v := .pointer none) rfl) <| w_done <| w_seq <| w_region rfl <| w_d rfl (d_build (cs' := [.int .i64 0, .int .i64 0, .int .i64 0, .int .i64 0, .int .i64 0, .int .i64 0, .int .i64 0, .int .i64 0, .int .u32 0, .int .i32 0, .int .u32 0, .map none]) Tryd.underlying129 zr129 rfl (by kernel_rfl) (parts := []) rfl .nil) <| w_a rfl (o_box (v := .agg ⟨[.int .i64 0, .int .i64 0, .int .i64 0, .int .i64 0, .int .i64 0, .int .i64 0, .int .i64 0, .int .i64 0, .int .u32 0, .int .i32 0, .int .u32 0, .map none]⟩) rfl rfl) ?_
 rintro _ _ _ ⟨b1, rfl, rfl, rfl⟩
 refine w_d rfl (d_assign (v := .pointer (some ⟨b1, 0, none⟩)) rfl) <| w_done <| w_none <| w_pull .here <| w_pull (.there (.there .here)) <| w_del (.there (.there (.there .here))) <| w_del (.there (.there .here)) ?_
 obtain rfl := Option.some.inj he
 refine w_return fn_23 rs_23 (.tmp (v := .pointer (some ⟨b1, 0, none⟩)) rfl .nil) <| ⟨[], [_, _], rfl, hle, ⟨b1, .map none, none, rfl, rfl, (mpn_nil _ _ _)⟩⟩
/-! ### radome/count.kinded -/
noncomputable def count_kinded.C : Code := (Tryd.f52.body).getD .skip
def count_kinded.out (r : Bool) (H : Hp) (v : Value) : Prop := v = .bool r
abbrev count_kinded.R (H0 : Hp) (L : Items) (r : Bool) : Value → Hp → Items → Prop := fun v H' L' => (∃ p, L' = p ++ L) ∧ H0.le H' ∧ count_kinded.out r H' v
noncomputable def count_kinded.f (k : Nat) (kind : Int) : Option Bool := some ((decide (0 ≤ kind)) && (decide (kind < 8)))
theorem count_kinded.mono : ∀ k y0, LeO (count_kinded.f k y0) (count_kinded.f (k + 1) y0) := fun k _ => by unfold count_kinded.f; exact (LeO.refl _)
theorem count_kinded.calls (k : Nat) {H : Hp} {L : Items} {kind : Int} {r : Bool} (he : count_kinded.f k kind = some r) : Ct Tryd.prog 52 ⟨[.int .i64 kind]⟩ H L (fun v H' L' => L = L' ∧ H = H' ∧ v = .bool r) := by
 refine ct_outs (O := count_kinded.out r) (fun _ _ h => h) ?_
 have hle : H.le H := .refl _
 unfold count_kinded.f at he
 refine ct_enter (args := [_]) fn_52 rfl nt_52 rfl <| w_seq <| w_region rfl <| w_d rfl (d_assign (v := .bool false) rfl) <| w_done <| w_seq <| w_region rfl <| w_d rfl (d_move (v := .int .i64 kind) rfl) <| w_d rfl (d_geq rfl rfl) <| w_d rfl (d_move (v := .bool (decide (0 ≤ kind))) rfl) <| w_g (g := decide (0 ≤ kind)) rfl rfl rfl wn_t (fun g1 => d_move (v := .int .i64 kind) rfl) <| w_g (g := decide (0 ≤ kind)) rfl rfl rfl wn_t (fun g2 => d_lss (cvt g2) rfl) ?_
 refine w_d rfl (d_and' (b := (decide (0 ≤ kind))) (p := (decide (kind < 8))) rfl rfl rfl) <| w_d rfl (d_assign (v := .bool ((decide (0 ≤ kind)) && (decide (kind < 8)))) rfl) <| w_done ?_
 obtain rfl := Option.some.inj he
 refine w_return fn_52 rs_52 (.tmp (v := .bool ((decide (0 ≤ kind)) && (decide (kind < 8)))) rfl .nil) <| ⟨⟨[], rfl⟩, hle, rfl⟩
/-! ### (*radome/count.Counts).Add -/
noncomputable def count_Counts_Add.C : Code := (Tryd.f20.body).getD .skip
def count_Counts_Add.out (b_c_ : Nat) (its_ : Items) (r : (Option Int) × count_Counts) (H : Hp) (v : Value) : Prop := ∃ v0 : Value, ∃ i0 : Item', v = errV 106 r.1 ∧ its_ = [some (b_c_, .cells ⟨[.int .i64 r.2.f_l.e0.f_v, .int .i64 r.2.f_l.e1.f_v, .int .i64 r.2.f_l.e2.f_v, .int .i64 r.2.f_l.e3.f_v, .int .i64 r.2.f_l.e4.f_v, .int .i64 r.2.f_l.e5.f_v, .int .i64 r.2.f_l.e6.f_v, .int .i64 r.2.f_l.e7.f_v, .int .u32 r.2.f_once.f_done.f_v, .int .i32 r.2.f_once.f_m.f_mu.f_state, .int .u32 r.2.f_once.f_m.f_mu.f_sema, v0]⟩ 129 (0, 0)), i0] ∧ MpN (mkStr (fun b => .int .i64 b)) H 127 i0 v0 r.2.f_kinds
abbrev count_Counts_Add.R (b_c_ : Nat) (H0 : Hp) (L : Items) (r : (Option Int) × count_Counts) : Value → Hp → Items → Prop := fun v H' L' => ∃ p its_, L' = p ++ (its_ ++ L) ∧ H0.le H' ∧ count_Counts_Add.out b_c_ its_ r H' v
structure count_Counts_Add.Hs where
 l0 : Int → Int → Int → Int → Int → Int → Int → Int → Int → Int → Int → (List (ByteArray × Int)) → Int → Int → (Option Int) → Option ((Option Int) × count_Counts)
noncomputable def count_Counts_Add.b0 (k : Nat) (h : count_Counts_Add.Hs)  (c_0 : Int) (c_1 : Int) (c_2 : Int) (c_3 : Int) (c_4 : Int) (c_5 : Int) (c_6 : Int) (c_7 : Int) (c_8 : Int) (c_9 : Int) (c_10 : Int) (c_11 : List (ByteArray × Int)) (kind : Int) (n : Int) (t6 : Option Int) : Option ((Option Int) × count_Counts) := if (0 : Int) ≤ kind ∧ kind < (8 : Int) then (if (w64 (4611686018427387904 - (rd (T117.toL (⟨(⟨c_0⟩ : atomic_Int64), (⟨c_1⟩ : atomic_Int64), (⟨c_2⟩ : atomic_Int64), (⟨c_3⟩ : atomic_Int64), (⟨c_4⟩ : atomic_Int64), (⟨c_5⟩ : atomic_Int64), (⟨c_6⟩ : atomic_Int64), (⟨c_7⟩ : atomic_Int64)⟩ : T117)) kind))) < n then (some (some 10, (⟨(⟨(⟨c_0⟩ : atomic_Int64), (⟨c_1⟩ : atomic_Int64), (⟨c_2⟩ : atomic_Int64), (⟨c_3⟩ : atomic_Int64), (⟨c_4⟩ : atomic_Int64), (⟨c_5⟩ : atomic_Int64), (⟨c_6⟩ : atomic_Int64), (⟨c_7⟩ : atomic_Int64)⟩ : T117), (⟨(⟨c_8⟩ : atomic_Bool), (⟨(⟨c_9, c_10⟩ : sync_Mutex)⟩ : sync_Mutex_124)⟩ : sync_Once), c_11⟩ : count_Counts))) else (if (0 : Int) ≤ kind ∧ kind < (8 : Int) then ((some (T117.ofL ((T117.toL (⟨(⟨c_0⟩ : atomic_Int64), (⟨c_1⟩ : atomic_Int64), (⟨c_2⟩ : atomic_Int64), (⟨c_3⟩ : atomic_Int64), (⟨c_4⟩ : atomic_Int64), (⟨c_5⟩ : atomic_Int64), (⟨c_6⟩ : atomic_Int64), (⟨c_7⟩ : atomic_Int64)⟩ : T117)).set (kind : Int).toNat (w64 ((rd (T117.toL (⟨(⟨c_0⟩ : atomic_Int64), (⟨c_1⟩ : atomic_Int64), (⟨c_2⟩ : atomic_Int64), (⟨c_3⟩ : atomic_Int64), (⟨c_4⟩ : atomic_Int64), (⟨c_5⟩ : atomic_Int64), (⟨c_6⟩ : atomic_Int64), (⟨c_7⟩ : atomic_Int64)⟩ : T117)) kind) + n))))).bind fun y16 => some (none, (⟨y16, (⟨(⟨c_8⟩ : atomic_Bool), (⟨(⟨c_9, c_10⟩ : sync_Mutex)⟩ : sync_Mutex_124)⟩ : sync_Once), c_11⟩ : count_Counts))) else none)) else none
noncomputable def count_Counts_Add.hs : Nat → count_Counts_Add.Hs
 | 0 => ⟨fun _ _ _ _ _ _ _ _ _ _ _ _ _ _ _ => none⟩
 | k + 1 => ⟨fun x0 x1 x2 x3 x4 x5 x6 x7 x8 x9 x10 x11 x12 x13 x14 => count_Counts_Add.b0 k (count_Counts_Add.hs k) x0 x1 x2 x3 x4 x5 x6 x7 x8 x9 x10 x11 x12 x13 x14⟩
noncomputable def count_Counts_Add.f (k : Nat) (c_ : count_Counts) (kind : Int) (n : Int) : Option ((Option Int) × count_Counts) := (fun h : count_Counts_Add.Hs => (count_kinded.f k kind).bind fun y3 => if (((!y3) || (decide (n < 0))) || (decide (1073741824 < n))) = true then (some (some 1, c_)) else (h.l0 c_.f_l.e0.f_v c_.f_l.e1.f_v c_.f_l.e2.f_v c_.f_l.e3.f_v c_.f_l.e4.f_v c_.f_l.e5.f_v c_.f_l.e6.f_v c_.f_l.e7.f_v c_.f_once.f_done.f_v c_.f_once.f_m.f_mu.f_state c_.f_once.f_m.f_mu.f_sema c_.f_kinds kind n none)) (count_Counts_Add.hs k)
structure count_Counts_Add.LE (h h' : count_Counts_Add.Hs) : Prop where
 l0 : ∀ y0 y1 y2 y3 y4 y5 y6 y7 y8 y9 y10 y11 y12 y13 y14, LeO (h.l0 y0 y1 y2 y3 y4 y5 y6 y7 y8 y9 y10 y11 y12 y13 y14) (h'.l0 y0 y1 y2 y3 y4 y5 y6 y7 y8 y9 y10 y11 y12 y13 y14)
theorem count_Counts_Add.b0_mono {k : Nat} {h h' : count_Counts_Add.Hs} (hl : count_Counts_Add.LE h h') : ∀ y0 y1 y2 y3 y4 y5 y6 y7 y8 y9 y10 y11 y12 y13 y14, LeO (count_Counts_Add.b0 k h y0 y1 y2 y3 y4 y5 y6 y7 y8 y9 y10 y11 y12 y13 y14) (count_Counts_Add.b0 (k + 1) h' y0 y1 y2 y3 y4 y5 y6 y7 y8 y9 y10 y11 y12 y13 y14) := fun _ _ _ _ _ _ _ _ _ _ _ _ _ _ _ => (LeO.ite (LeO.ite (LeO.refl _) (LeO.ite (LeO.bind (LeO.refl _) fun _ => LeO.refl _) (LeO.refl _))) (LeO.refl _))
theorem count_Counts_Add.hs_mono : ∀ k, count_Counts_Add.LE (count_Counts_Add.hs k) (count_Counts_Add.hs (k + 1))
 | 0 => ⟨fun _ _ _ _ _ _ _ _ _ _ _ _ _ _ _ => LeO.none _⟩
 | k + 1 => ⟨count_Counts_Add.b0_mono (k := k) (count_Counts_Add.hs_mono k)⟩
theorem count_Counts_Add.mono : ∀ k y0 y1 y2, LeO (count_Counts_Add.f k y0 y1 y2) (count_Counts_Add.f (k + 1) y0 y1 y2) := fun k _ _ _ => have hl := count_Counts_Add.hs_mono k; by unfold count_Counts_Add.f; exact (LeO.bind (count_kinded.mono k _) fun _ => LeO.ite (LeO.refl _) (hl.l0 _ _ _ _ _ _ _ _ _ _ _ _ _ _ _))
noncomputable def count_Counts_Add.Kl0 : List Item := .code (lopB (blkB (seqR (seqR count_Counts_Add.C)))) :: .inLoop (lopB (blkB (seqR (seqR count_Counts_Add.C)))) :: .inBlock 0 :: []
structure count_Counts_Add.OK (h : count_Counts_Add.Hs) : Prop where
 l0 : ∀ {H0 H : Hp} {L : Items} {r : (Option Int) × count_Counts} {jk_ : Nat → Value} {c_0 : Int} {c_1 : Int} {c_2 : Int} {c_3 : Int} {c_4 : Int} {c_5 : Int} {c_6 : Int} {c_7 : Int} {c_8 : Int} {c_9 : Int} {c_10 : Int} {c_11 : List (ByteArray × Int)} {kind : Int} {n : Int} {t6 : Option Int} {v_c_11 : Value} {i_c_11 : Item'} {b_c_ : Nat} (_ : H0.le H) (_he : h.l0 c_0 c_1 c_2 c_3 c_4 c_5 c_6 c_7 c_8 c_9 c_10 c_11 kind n t6 = some r) (_h_c_11 : MpN (mkStr (fun b => .int .i64 b)) H 127 i_c_11 v_c_11 c_11), Wp Tryd.prog 20 45 count_Counts_Add.Kl0 (upd (upd (upd (upd jk_ 0 (.pointer (some ⟨b_c_, 0, none⟩))) 1 (.int .i64 kind)) 2 (.int .i64 n)) 6 (errV 106 t6)) H (some (b_c_, .cells ⟨[.int .i64 c_0, .int .i64 c_1, .int .i64 c_2, .int .i64 c_3, .int .i64 c_4, .int .i64 c_5, .int .i64 c_6, .int .i64 c_7, .int .u32 c_8, .int .i32 c_9, .int .u32 c_10, v_c_11]⟩ 129 (0, 0)) :: i_c_11 :: L) (count_Counts_Add.R b_c_ H0 L r)
theorem count_Counts_Add.b0_ok {k : Nat} {h : count_Counts_Add.Hs} (hh : count_Counts_Add.OK h) {H0 H : Hp} {L : Items} {r : (Option Int) × count_Counts} {jk_ : Nat → Value} {c_0 : Int} {c_1 : Int} {c_2 : Int} {c_3 : Int} {c_4 : Int} {c_5 : Int} {c_6 : Int} {c_7 : Int} {c_8 : Int} {c_9 : Int} {c_10 : Int} {c_11 : List (ByteArray × Int)} {kind : Int} {n : Int} {t6 : Option Int} {v_c_11 : Value} {i_c_11 : Item'} {b_c_ : Nat} (hle : H0.le H) (he : count_Counts_Add.b0 k h c_0 c_1 c_2 c_3 c_4 c_5 c_6 c_7 c_8 c_9 c_10 c_11 kind n t6 = some r) (h_c_11 : MpN (mkStr (fun b => .int .i64 b)) H 127 i_c_11 v_c_11 c_11) : Wp Tryd.prog 20 45 count_Counts_Add.Kl0 (upd (upd (upd (upd jk_ 0 (.pointer (some ⟨b_c_, 0, none⟩))) 1 (.int .i64 kind)) 2 (.int .i64 n)) 6 (errV 106 t6)) H (some (b_c_, .cells ⟨[.int .i64 c_0, .int .i64 c_1, .int .i64 c_2, .int .i64 c_3, .int .i64 c_4, .int .i64 c_5, .int .i64 c_6, .int .i64 c_7, .int .u32 c_8, .int .i32 c_9, .int .u32 c_10, v_c_11]⟩ 129 (0, 0)) :: i_c_11 :: L) (count_Counts_Add.R b_c_ H0 L r) := by
 unfold count_Counts_Add.b0 at he
 unfold count_Counts_Add.Kl0
 refine w_block <| w_seq <| w_region rfl <| w_d rfl (d_move (v := .pointer (some ⟨b_c_, 0, none⟩)) rfl) <| w_d rfl (d_move (v := .int .i64 kind) rfl) <| w_d rfl (d_nilCheck (p := ⟨b_c_, 0, none⟩) rfl) <| w_d rfl (d_fld (o' := 0) Tryd.underlying129 rfl sz117 rfl rfl rfl) ?_
 obtain ⟨c13, he⟩ := rq he
 refine w_d rfl (d_idxArr (o' := 0 + (kind : Int).toNat) Tryd.underlying117 sz111 rfl rfl c13 (by rw [Nat.mul_one])) <| w_d rfl (call_d (o_call co49 (vs := [.pointer (some ⟨b_c_, 0 + (kind : Int).toNat, none⟩)]) rfl (at49.calls (lies_var (xs := T117.toL (⟨(⟨c_0⟩ : atomic_Int64), (⟨c_1⟩ : atomic_Int64), (⟨c_2⟩ : atomic_Int64), (⟨c_3⟩ : atomic_Int64), (⟨c_4⟩ : atomic_Int64), (⟨c_5⟩ : atomic_Int64), (⟨c_6⟩ : atomic_Int64), (⟨c_7⟩ : atomic_Int64)⟩ : T117)) (m := 8) (off := 0) (lies_own .here) rfl c13)))) <| w_d rfl (d_assign (v := .int .i64 (rd (T117.toL (⟨(⟨c_0⟩ : atomic_Int64), (⟨c_1⟩ : atomic_Int64), (⟨c_2⟩ : atomic_Int64), (⟨c_3⟩ : atomic_Int64), (⟨c_4⟩ : atomic_Int64), (⟨c_5⟩ : atomic_Int64), (⟨c_6⟩ : atomic_Int64), (⟨c_7⟩ : atomic_Int64)⟩ : T117)) kind)) rfl) <| w_done <| w_seq <| w_seq <| w_region rfl <| w_d rfl (d_move (v := .int .i64 n) rfl) <| w_d rfl (d_move (v := .int .i64 (rd (T117.toL (⟨(⟨c_0⟩ : atomic_Int64), (⟨c_1⟩ : atomic_Int64), (⟨c_2⟩ : atomic_Int64), (⟨c_3⟩ : atomic_Int64), (⟨c_4⟩ : atomic_Int64), (⟨c_5⟩ : atomic_Int64), (⟨c_6⟩ : atomic_Int64), (⟨c_7⟩ : atomic_Int64)⟩ : T117)) kind)) rfl) <| w_d rfl (d_sub (c := w64 (4611686018427387904 - (rd (T117.toL (⟨(⟨c_0⟩ : atomic_Int64), (⟨c_1⟩ : atomic_Int64), (⟨c_2⟩ : atomic_Int64), (⟨c_3⟩ : atomic_Int64), (⟨c_4⟩ : atomic_Int64), (⟨c_5⟩ : atomic_Int64), (⟨c_6⟩ : atomic_Int64), (⟨c_7⟩ : atomic_Int64)⟩ : T117)) kind))) rfl rfl rfl) <| w_d rfl (d_gtr rfl rfl) <| w_done ?_
 rcases its he with ⟨c14, he⟩ | ⟨c14, he⟩
 ·
  refine w_then rfl (decide_eq_true c14) <| w_seq <| w_region rfl <| w_d rfl (d_iface (v := .int .i64 10) Tryd.underlying106 rfl rfl) <| w_d rfl (d_assign (v := errV 106 (some 10)) rfl) <| w_done ?_
  obtain rfl := Option.some.inj he
  refine w_return fn_20 rs_20 (.tmp (v := errV 106 (some 10)) rfl .nil) <| ⟨[], [_, _], rfl, hle, ⟨v_c_11, i_c_11, rfl, rfl, h_c_11⟩⟩
 ·
  refine w_else rfl (decide_eq_false c14) <| w_skip <| w_seq <| w_region rfl <| w_d rfl (d_move (v := .pointer (some ⟨b_c_, 0, none⟩)) rfl) <| w_d rfl (d_move (v := .int .i64 kind) rfl) <| w_d rfl (d_nilCheck (p := ⟨b_c_, 0, none⟩) rfl) <| w_d rfl (d_fld (o' := 0) Tryd.underlying129 rfl sz117 rfl rfl rfl) ?_
  obtain ⟨c15, he⟩ := rq he
  refine w_d rfl (d_idxArr (o' := 0 + (kind : Int).toNat) Tryd.underlying117 sz111 rfl rfl c15 (by rw [Nat.mul_one])) <| w_d rfl (d_move (v := .int .i64 (rd (T117.toL (⟨(⟨c_0⟩ : atomic_Int64), (⟨c_1⟩ : atomic_Int64), (⟨c_2⟩ : atomic_Int64), (⟨c_3⟩ : atomic_Int64), (⟨c_4⟩ : atomic_Int64), (⟨c_5⟩ : atomic_Int64), (⟨c_6⟩ : atomic_Int64), (⟨c_7⟩ : atomic_Int64)⟩ : T117)) kind)) rfl) <| w_d rfl (d_move (v := .int .i64 (rd (T117.toL (⟨(⟨c_0⟩ : atomic_Int64), (⟨c_1⟩ : atomic_Int64), (⟨c_2⟩ : atomic_Int64), (⟨c_3⟩ : atomic_Int64), (⟨c_4⟩ : atomic_Int64), (⟨c_5⟩ : atomic_Int64), (⟨c_6⟩ : atomic_Int64), (⟨c_7⟩ : atomic_Int64)⟩ : T117)) kind)) rfl) <| w_d rfl (d_move (v := .int .i64 n) rfl) <| w_d rfl (d_add (c := w64 ((rd (T117.toL (⟨(⟨c_0⟩ : atomic_Int64), (⟨c_1⟩ : atomic_Int64), (⟨c_2⟩ : atomic_Int64), (⟨c_3⟩ : atomic_Int64), (⟨c_4⟩ : atomic_Int64), (⟨c_5⟩ : atomic_Int64), (⟨c_6⟩ : atomic_Int64), (⟨c_7⟩ : atomic_Int64)⟩ : T117)) kind) + n)) rfl rfl rfl) ?_
  obtain ⟨y16, h17, he⟩ := Option.bind_eq_some_iff.1 he
  have h18 : T117.toL y16 = (T117.toL (⟨(⟨c_0⟩ : atomic_Int64), (⟨c_1⟩ : atomic_Int64), (⟨c_2⟩ : atomic_Int64), (⟨c_3⟩ : atomic_Int64), (⟨c_4⟩ : atomic_Int64), (⟨c_5⟩ : atomic_Int64), (⟨c_6⟩ : atomic_Int64), (⟨c_7⟩ : atomic_Int64)⟩ : T117)).set (kind : Int).toNat (w64 ((rd (T117.toL (⟨(⟨c_0⟩ : atomic_Int64), (⟨c_1⟩ : atomic_Int64), (⟨c_2⟩ : atomic_Int64), (⟨c_3⟩ : atomic_Int64), (⟨c_4⟩ : atomic_Int64), (⟨c_5⟩ : atomic_Int64), (⟨c_6⟩ : atomic_Int64), (⟨c_7⟩ : atomic_Int64)⟩ : T117)) kind) + n)) := by rw [← Option.some.inj h17]; exact T117.toL_ofL (by rw [List.length_set]; rfl)
  refine w_a rfl (o_cas_t (o_call co50 (vs := [.pointer (some ⟨b_c_, 0 + (kind : Int).toNat, none⟩), .int .i64 (rd (T117.toL (⟨(⟨c_0⟩ : atomic_Int64), (⟨c_1⟩ : atomic_Int64), (⟨c_2⟩ : atomic_Int64), (⟨c_3⟩ : atomic_Int64), (⟨c_4⟩ : atomic_Int64), (⟨c_5⟩ : atomic_Int64), (⟨c_6⟩ : atomic_Int64), (⟨c_7⟩ : atomic_Int64)⟩ : T117)) kind), .int .i64 (w64 ((rd (T117.toL (⟨(⟨c_0⟩ : atomic_Int64), (⟨c_1⟩ : atomic_Int64), (⟨c_2⟩ : atomic_Int64), (⟨c_3⟩ : atomic_Int64), (⟨c_4⟩ : atomic_Int64), (⟨c_5⟩ : atomic_Int64), (⟨c_6⟩ : atomic_Int64), (⟨c_7⟩ : atomic_Int64)⟩ : T117)) kind) + n))]) rfl (at50.calls (c := rd (T117.toL (⟨(⟨c_0⟩ : atomic_Int64), (⟨c_1⟩ : atomic_Int64), (⟨c_2⟩ : atomic_Int64), (⟨c_3⟩ : atomic_Int64), (⟨c_4⟩ : atomic_Int64), (⟨c_5⟩ : atomic_Int64), (⟨c_6⟩ : atomic_Int64), (⟨c_7⟩ : atomic_Int64)⟩ : T117)) kind) .here (by exact get_var (xs := T117.toL (⟨(⟨c_0⟩ : atomic_Int64), (⟨c_1⟩ : atomic_Int64), (⟨c_2⟩ : atomic_Int64), (⟨c_3⟩ : atomic_Int64), (⟨c_4⟩ : atomic_Int64), (⟨c_5⟩ : atomic_Int64), (⟨c_6⟩ : atomic_Int64), (⟨c_7⟩ : atomic_Int64)⟩ : T117)) (m := 8) (off := 0) rfl c15) (z := (w64 ((rd (T117.toL (⟨(⟨c_0⟩ : atomic_Int64), (⟨c_1⟩ : atomic_Int64), (⟨c_2⟩ : atomic_Int64), (⟨c_3⟩ : atomic_Int64), (⟨c_4⟩ : atomic_Int64), (⟨c_5⟩ : atomic_Int64), (⟨c_6⟩ : atomic_Int64), (⟨c_7⟩ : atomic_Int64)⟩ : T117)) kind) + n))) (if_pos rfl).symm (by exact setl_var (xs := T117.toL (⟨(⟨c_0⟩ : atomic_Int64), (⟨c_1⟩ : atomic_Int64), (⟨c_2⟩ : atomic_Int64), (⟨c_3⟩ : atomic_Int64), (⟨c_4⟩ : atomic_Int64), (⟨c_5⟩ : atomic_Int64), (⟨c_6⟩ : atomic_Int64), (⟨c_7⟩ : atomic_Int64)⟩ : T117)) (zs := T117.toL y16) (m := 8) (off := 0) h18 rfl rfl c15 rfl rfl)))) ?_
  rintro _ _ _ ⟨rfl, rfl, rfl⟩
  refine w_done <| w_then rfl rfl <| w_seq <| w_region rfl <| w_d rfl (d_assign (v := errV 106 none) rfl) <| w_done ?_
  obtain rfl := Option.some.inj he
  refine w_return fn_20 rs_20 (.tmp (v := errV 106 none) rfl .nil) <| ⟨[], [_, _], rfl, hle, ⟨v_c_11, i_c_11, rfl, rfl, h_c_11⟩⟩
theorem count_Counts_Add.ok : ∀ k, count_Counts_Add.OK (count_Counts_Add.hs k)
 | 0 => ⟨(by intros; exact nomatch (show none = some _ from by assumption))⟩
 | k + 1 => ⟨count_Counts_Add.b0_ok (k := k) (count_Counts_Add.ok k)⟩
theorem count_Counts_Add.calls (k : Nat) {H : Hp} {L : Items} {c_ : count_Counts} {kind : Int} {n : Int} {b_c_ : Nat} {v0_c_ : Value} {i0_c_ : Item'} {r : (Option Int) × count_Counts} (he : count_Counts_Add.f k c_ kind n = some r) (h0_c_ : MpN (mkStr (fun b => .int .i64 b)) H 127 i0_c_ v0_c_ c_.f_kinds) : Ct Tryd.prog 20 ⟨[.pointer (some ⟨b_c_, 0, none⟩), .int .i64 kind, .int .i64 n]⟩ H (some (b_c_, .cells ⟨[.int .i64 c_.f_l.e0.f_v, .int .i64 c_.f_l.e1.f_v, .int .i64 c_.f_l.e2.f_v, .int .i64 c_.f_l.e3.f_v, .int .i64 c_.f_l.e4.f_v, .int .i64 c_.f_l.e5.f_v, .int .i64 c_.f_l.e6.f_v, .int .i64 c_.f_l.e7.f_v, .int .u32 c_.f_once.f_done.f_v, .int .i32 c_.f_once.f_m.f_mu.f_state, .int .u32 c_.f_once.f_m.f_mu.f_sema, v0_c_]⟩ 129 (0, 0)) :: i0_c_ :: L) (fun v H' L' => ∃ its_, L' = its_ ++ L ∧ H.le H' ∧ count_Counts_Add.out b_c_ its_ r H' v) := by
 refine ct_ptr ?_
 have hle : H.le H := .refl _
 have hh := count_Counts_Add.ok k
 unfold count_Counts_Add.f at he
 refine ct_enter (args := [_, _, _]) fn_20 rfl nt_20 rfl <| w_seq <| w_region rfl <| w_d rfl (d_assign (v := errV 106 none) rfl) <| w_done <| w_seq <| w_seq <| w_region rfl <| w_d rfl (d_move (v := .pointer (some ⟨b_c_, 0, none⟩)) rfl) <| w_d rfl (d_eqptr (a := (some ⟨b_c_, 0, none⟩)) Tryd.underlying39 rfl rfl) <| w_d rfl (d_move (v := .bool false) rfl) <| w_g (g := true) rfl rfl rfl rfl (fun _ => d_move (v := .int .i64 kind) rfl) ?_
 obtain ⟨y3, hy4, he⟩ := Option.bind_eq_some_iff.1 he
 refine w_g (g := true) rfl rfl rfl rfl (fun _ => call_d (o_call co52 (vs := [.int .i64 kind]) rfl (count_kinded.calls k hy4))) <| w_g (g := true) rfl rfl rfl rfl (fun _ => d_not (b := y3) rfl) <| w_d rfl (d_pickf (v := .bool (!y3)) rfl rfl) <| w_d rfl (d_move (v := .bool (!y3)) rfl) <| w_g (g := !(!y3)) rfl rfl rfl wn_f (fun g8 => d_move (v := .int .i64 n) rfl) <| w_g (g := !(!y3)) rfl rfl rfl wn_f (fun g9 => d_lss (cvt g9) rfl) <| w_d rfl (d_or' (b := (!y3)) (p := (decide (n < 0))) rfl rfl rfl) <| w_d rfl (d_move (v := .bool ((!y3) || (decide (n < 0)))) rfl) <| w_g (g := !((!y3) || (decide (n < 0)))) rfl rfl rfl wn_f (fun g10 => d_move (v := .int .i64 n) rfl) <| w_g (g := !((!y3) || (decide (n < 0)))) rfl rfl rfl wn_f (fun g11 => d_gtr (cvt g11) rfl) <| w_d rfl (d_or' (b := ((!y3) || (decide (n < 0)))) (p := (decide (1073741824 < n))) rfl rfl rfl) <| w_done ?_
 rcases its he with ⟨c12, he⟩ | ⟨c12, he⟩
 ·
  refine w_then rfl c12 <| w_seq <| w_region rfl <| w_d rfl (d_iface (v := .int .i64 1) Tryd.underlying106 rfl rfl) <| w_d rfl (d_assign (v := errV 106 (some 1)) rfl) <| w_done ?_
  obtain rfl := Option.some.inj he
  refine w_return fn_20 rs_20 (.tmp (v := errV 106 (some 1)) rfl .nil) <| ⟨[], [_, _], rfl, hle, ⟨v0_c_, i0_c_, rfl, rfl, h0_c_⟩⟩
 ·
  refine w_else rfl (Bool.eq_false_iff.2 c12) <| w_skip <| w_block <| w_loop <| w_sl 0 (.pointer (some ⟨b_c_, 0, none⟩)) rfl <| w_sl 1 (.int .i64 kind) rfl <| w_sl 2 (.int .i64 n) rfl <| w_sl 6 (errV 106 none) rfl <| hh.l0 hle he h0_c_
/-! ### radome/count.Name -/
noncomputable def count_Name.C : Code := (Tryd.f26.body).getD .skip
def count_Name.out (r : ByteArray) (H : Hp) (v : Value) : Prop := v = .string r
abbrev count_Name.R (H0 : Hp) (L : Items) (r : ByteArray) : Value → Hp → Items → Prop := fun v H' L' => (∃ p, L' = p ++ L) ∧ H0.le H' ∧ count_Name.out r H' v
noncomputable def count_Name.f (k : Nat) (kind : Int) : Option ByteArray := (count_kinded.f k kind).bind fun y1 => if (!y1) = true then (some (str_0)) else (if (0 : Int) ≤ kind ∧ kind < 8 then (some (rd [str_1, str_2, str_3, str_4, str_5, str_6, str_7, str_8] kind)) else none)
theorem count_Name.mono : ∀ k y0, LeO (count_Name.f k y0) (count_Name.f (k + 1) y0) := fun k _ => by unfold count_Name.f; exact (LeO.bind (count_kinded.mono k _) fun _ => LeO.ite (LeO.refl _) (LeO.ite (LeO.refl _) (LeO.refl _)))
theorem count_Name.calls (k : Nat) {H : Hp} {L : Items} {kind : Int} {r : ByteArray} (he : count_Name.f k kind = some r) : Ct Tryd.prog 26 ⟨[.int .i64 kind]⟩ H L (fun v H' L' => L = L' ∧ H = H' ∧ v = .string r) := by
 refine ct_outs (O := count_Name.out r) (fun _ _ h => h) ?_
 have hle : H.le H := .refl _
 unfold count_Name.f at he
 refine ct_enter (args := [_]) fn_26 rfl nt_26 rfl <| w_seq <| w_region rfl <| w_d rfl (d_assign (v := .string str_0) rfl) <| w_done <| w_seq <| w_seq <| w_region rfl <| w_d rfl (d_move (v := .int .i64 kind) rfl) ?_
 obtain ⟨y1, hy2, he⟩ := Option.bind_eq_some_iff.1 he
 refine w_d rfl (call_d (o_call co52 (vs := [.int .i64 kind]) rfl (count_kinded.calls k hy2))) <| w_d rfl (d_not (b := y1) rfl) <| w_done ?_
 rcases its he with ⟨c5, he⟩ | ⟨c5, he⟩
 ·
  refine w_then rfl c5 <| w_seq <| w_region rfl <| w_d rfl (d_assign (v := .string str_0) rfl) <| w_done ?_
  obtain rfl := Option.some.inj he
  refine w_return fn_26 rs_26 (.tmp (v := .string str_0) rfl .nil) <| ⟨⟨[], rfl⟩, hle, rfl⟩
 ·
  refine w_else rfl (Bool.eq_false_iff.2 c5) <| w_skip <| w_seq <| w_region rfl <| w_d rfl (d_buildArr (cs' := [.string str_1, .string str_2, .string str_3, .string str_4, .string str_5, .string str_6, .string str_7, .string str_8]) Tryd.underlying132 sz9 zr132 rfl (parts := [(0, .string str_1), (1, .string str_2), (2, .string str_3), (3, .string str_4), (4, .string str_5), (5, .string str_6), (6, .string str_7), (7, .string str_8)]) rfl (.cons rfl rfl rfl (.here .done) (.cons rfl rfl rfl (.there (.here .done)) (.cons rfl rfl rfl (.there (.there (.here .done))) (.cons rfl rfl rfl (.there (.there (.there (.here .done)))) (.cons rfl rfl rfl (.there (.there (.there (.there (.here .done))))) (.cons rfl rfl rfl (.there (.there (.there (.there (.there (.here .done)))))) (.cons rfl rfl rfl (.there (.there (.there (.there (.there (.there (.here .done))))))) (.cons rfl rfl rfl (.there (.there (.there (.there (.there (.there (.there (.here .done)))))))) .nil))))))))) <| w_d rfl (d_move (v := .int .i64 kind) rfl) ?_
  obtain ⟨c6, he⟩ := rq he
  refine w_d rfl (d_idxV (v := .string (rd [str_1, str_2, str_3, str_4, str_5, str_6, str_7, str_8] kind)) Tryd.underlying132 ty9 rfl rfl (by exact c6) (by exact idx_vars (xs := [str_1, str_2, str_3, str_4, str_5, str_6, str_7, str_8]) (by exact c6)) rfl rfl rfl) <| w_d rfl (d_assign (v := .string (rd [str_1, str_2, str_3, str_4, str_5, str_6, str_7, str_8] kind)) rfl) <| w_done ?_
  obtain rfl := Option.some.inj he
  refine w_return fn_26 rs_26 (.tmp (v := .string (rd [str_1, str_2, str_3, str_4, str_5, str_6, str_7, str_8] kind)) rfl .nil) <| ⟨⟨[], rfl⟩, hle, rfl⟩
/-! ### (*radome/count.Counts).lay -/
noncomputable def count_Counts_lay.C : Code := (Tryd.f54.body).getD .skip
def count_Counts_lay.out (b_c_ : Nat) (its_ : Items) (r : count_Counts) (H : Hp) (v : Value) : Prop := ∃ v0 : Value, ∃ i0 : Item', v = .tuple ⟨[]⟩ ∧ its_ = [some (b_c_, .cells ⟨[.int .i64 r.f_l.e0.f_v, .int .i64 r.f_l.e1.f_v, .int .i64 r.f_l.e2.f_v, .int .i64 r.f_l.e3.f_v, .int .i64 r.f_l.e4.f_v, .int .i64 r.f_l.e5.f_v, .int .i64 r.f_l.e6.f_v, .int .i64 r.f_l.e7.f_v, .int .u32 r.f_once.f_done.f_v, .int .i32 r.f_once.f_m.f_mu.f_state, .int .u32 r.f_once.f_m.f_mu.f_sema, v0]⟩ 129 (0, 0)), i0] ∧ MpN (mkStr (fun b => .int .i64 b)) H 127 i0 v0 r.f_kinds
abbrev count_Counts_lay.R (b_c_ : Nat) (H0 : Hp) (L : Items) (r : count_Counts) : Value → Hp → Items → Prop := fun v H' L' => ∃ p its_, L' = p ++ (its_ ++ L) ∧ H0.le H' ∧ count_Counts_lay.out b_c_ its_ r H' v
structure count_Counts_lay.Hs where
 l0 : Int → Int → Int → Int → Int → Int → Int → Int → Int → Int → Int → (List (ByteArray × Int)) → Int → Option count_Counts
noncomputable def count_Counts_lay.b0 (k : Nat) (h : count_Counts_lay.Hs)  (c_0 : Int) (c_1 : Int) (c_2 : Int) (c_3 : Int) (c_4 : Int) (c_5 : Int) (c_6 : Int) (c_7 : Int) (c_8 : Int) (c_9 : Int) (c_10 : Int) (c_11 : List (ByteArray × Int)) (t7 : Int) : Option count_Counts := if t7 < 8 then ((count_Name.f k t7).bind fun y5 => h.l0 c_0 c_1 c_2 c_3 c_4 c_5 c_6 c_7 c_8 c_9 c_10 (mput c_11 y5 t7) (w64 (t7 + 1))) else (some ((⟨(⟨(⟨c_0⟩ : atomic_Int64), (⟨c_1⟩ : atomic_Int64), (⟨c_2⟩ : atomic_Int64), (⟨c_3⟩ : atomic_Int64), (⟨c_4⟩ : atomic_Int64), (⟨c_5⟩ : atomic_Int64), (⟨c_6⟩ : atomic_Int64), (⟨c_7⟩ : atomic_Int64)⟩ : T117), (⟨(⟨c_8⟩ : atomic_Bool), (⟨(⟨c_9, c_10⟩ : sync_Mutex)⟩ : sync_Mutex_124)⟩ : sync_Once), c_11⟩ : count_Counts)))
noncomputable def count_Counts_lay.hs : Nat → count_Counts_lay.Hs
 | 0 => ⟨fun _ _ _ _ _ _ _ _ _ _ _ _ _ => none⟩
 | k + 1 => ⟨fun x0 x1 x2 x3 x4 x5 x6 x7 x8 x9 x10 x11 x12 => count_Counts_lay.b0 k (count_Counts_lay.hs k) x0 x1 x2 x3 x4 x5 x6 x7 x8 x9 x10 x11 x12⟩
noncomputable def count_Counts_lay.f (k : Nat) (c_ : count_Counts) : Option count_Counts := (fun h : count_Counts_lay.Hs => h.l0 c_.f_l.e0.f_v c_.f_l.e1.f_v c_.f_l.e2.f_v c_.f_l.e3.f_v c_.f_l.e4.f_v c_.f_l.e5.f_v c_.f_l.e6.f_v c_.f_l.e7.f_v c_.f_once.f_done.f_v c_.f_once.f_m.f_mu.f_state c_.f_once.f_m.f_mu.f_sema [] 0) (count_Counts_lay.hs k)
structure count_Counts_lay.LE (h h' : count_Counts_lay.Hs) : Prop where
 l0 : ∀ y0 y1 y2 y3 y4 y5 y6 y7 y8 y9 y10 y11 y12, LeO (h.l0 y0 y1 y2 y3 y4 y5 y6 y7 y8 y9 y10 y11 y12) (h'.l0 y0 y1 y2 y3 y4 y5 y6 y7 y8 y9 y10 y11 y12)
theorem count_Counts_lay.b0_mono {k : Nat} {h h' : count_Counts_lay.Hs} (hl : count_Counts_lay.LE h h') : ∀ y0 y1 y2 y3 y4 y5 y6 y7 y8 y9 y10 y11 y12, LeO (count_Counts_lay.b0 k h y0 y1 y2 y3 y4 y5 y6 y7 y8 y9 y10 y11 y12) (count_Counts_lay.b0 (k + 1) h' y0 y1 y2 y3 y4 y5 y6 y7 y8 y9 y10 y11 y12) := fun _ _ _ _ _ _ _ _ _ _ _ _ _ => (LeO.ite (LeO.bind (count_Name.mono k _) fun _ => hl.l0 _ _ _ _ _ _ _ _ _ _ _ _ _) (LeO.refl _))
theorem count_Counts_lay.hs_mono : ∀ k, count_Counts_lay.LE (count_Counts_lay.hs k) (count_Counts_lay.hs (k + 1))
 | 0 => ⟨fun _ _ _ _ _ _ _ _ _ _ _ _ _ => LeO.none _⟩
 | k + 1 => ⟨count_Counts_lay.b0_mono (k := k) (count_Counts_lay.hs_mono k)⟩
theorem count_Counts_lay.mono : ∀ k y0, LeO (count_Counts_lay.f k y0) (count_Counts_lay.f (k + 1) y0) := fun k _ => have hl := count_Counts_lay.hs_mono k; by unfold count_Counts_lay.f; exact (hl.l0 _ _ _ _ _ _ _ _ _ _ _ _ _)
noncomputable def count_Counts_lay.Kl0 : List Item := .code (lopB (blkB (seqR (seqR count_Counts_lay.C)))) :: .inLoop (lopB (blkB (seqR (seqR count_Counts_lay.C)))) :: .inBlock 0 :: []
structure count_Counts_lay.OK (h : count_Counts_lay.Hs) : Prop where
 l0 : ∀ {H0 H : Hp} {L : Items} {r : count_Counts} {jk_ : Nat → Value} {c_0 : Int} {c_1 : Int} {c_2 : Int} {c_3 : Int} {c_4 : Int} {c_5 : Int} {c_6 : Int} {c_7 : Int} {c_8 : Int} {c_9 : Int} {c_10 : Int} {c_11 : List (ByteArray × Int)} {t7 : Int} {v_c_11 : Value} {i_c_11 : Item'} {b_c_ : Nat} (_ : H0.le H) (_he : h.l0 c_0 c_1 c_2 c_3 c_4 c_5 c_6 c_7 c_8 c_9 c_10 c_11 t7 = some r) (_h_c_11 : Mp (mkStr (fun b => .int .i64 b)) H 127 i_c_11 v_c_11 c_11), Wp Tryd.prog 54 18 count_Counts_lay.Kl0 (upd (upd jk_ 0 (.pointer (some ⟨b_c_, 0, none⟩))) 7 (.int .i64 t7)) H (i_c_11 :: some (b_c_, .cells ⟨[.int .i64 c_0, .int .i64 c_1, .int .i64 c_2, .int .i64 c_3, .int .i64 c_4, .int .i64 c_5, .int .i64 c_6, .int .i64 c_7, .int .u32 c_8, .int .i32 c_9, .int .u32 c_10, v_c_11]⟩ 129 (0, 0)) :: L) (count_Counts_lay.R b_c_ H0 L r)
theorem count_Counts_lay.b0_ok {k : Nat} {h : count_Counts_lay.Hs} (hh : count_Counts_lay.OK h) {H0 H : Hp} {L : Items} {r : count_Counts} {jk_ : Nat → Value} {c_0 : Int} {c_1 : Int} {c_2 : Int} {c_3 : Int} {c_4 : Int} {c_5 : Int} {c_6 : Int} {c_7 : Int} {c_8 : Int} {c_9 : Int} {c_10 : Int} {c_11 : List (ByteArray × Int)} {t7 : Int} {v_c_11 : Value} {i_c_11 : Item'} {b_c_ : Nat} (hle : H0.le H) (he : count_Counts_lay.b0 k h c_0 c_1 c_2 c_3 c_4 c_5 c_6 c_7 c_8 c_9 c_10 c_11 t7 = some r) (h_c_11 : Mp (mkStr (fun b => .int .i64 b)) H 127 i_c_11 v_c_11 c_11) : Wp Tryd.prog 54 18 count_Counts_lay.Kl0 (upd (upd jk_ 0 (.pointer (some ⟨b_c_, 0, none⟩))) 7 (.int .i64 t7)) H (i_c_11 :: some (b_c_, .cells ⟨[.int .i64 c_0, .int .i64 c_1, .int .i64 c_2, .int .i64 c_3, .int .i64 c_4, .int .i64 c_5, .int .i64 c_6, .int .i64 c_7, .int .u32 c_8, .int .i32 c_9, .int .u32 c_10, v_c_11]⟩ 129 (0, 0)) :: L) (count_Counts_lay.R b_c_ H0 L r) := by
 unfold count_Counts_lay.b0 at he
 unfold count_Counts_lay.Kl0
 refine w_seq <| w_region rfl <| w_d rfl (d_lss rfl rfl) <| w_done <| w_seq ?_
 rcases its he with ⟨c4, he⟩ | ⟨c4, he⟩
 ·
  refine w_then rfl (decide_eq_true c4) <| w_skip <| w_seq <| w_block <| w_seq <| w_region rfl <| w_d rfl (d_move (v := .int .i64 t7) rfl) <| w_d rfl (d_assign (v := .int .i64 t7) rfl) <| w_done ?_
  obtain ⟨y5, hy6, he⟩ := Option.bind_eq_some_iff.1 he
  refine w_drawn (p := 7) (tl := [7]) [[], [(0, some 10)], [(1, some 11)], [(2, some 12)], [], [(4, some 14)], []] [some 10, some 11, some 12, some 13, some 14, some 15, some 16] (fctF (.is (.pointer (some ⟨b_c_, 0, none⟩)) :: .is (.pointer (some ⟨b_c_, 0, none⟩)) :: .is (.pointer (some ⟨b_c_, 11, none⟩)) :: .is (v_c_11) :: .is (.int .i64 t7) :: .is (.string y5) :: .is (.int .i64 t7) :: [])) (fun m_ => i_c_11 :: some (b_c_, .cells ⟨[.int .i64 c_0, .int .i64 c_1, .int .i64 c_2, .int .i64 c_3, .int .i64 c_4, .int .i64 c_5, .int .i64 c_6, .int .i64 c_7, .int .u32 c_8, .int .i32 c_9, .int .u32 c_10, v_c_11]⟩ 129 (0, 0)) :: L) (fun _ => none) mixed (by kernel_rfl) (by kernel_rfl) rfl (fct_mono (by kernel_rfl)) ⟨(fun H' m_ hH hm_ hu_ => depK_nil <| s_d (m_ 0) rfl (d_move (v := .pointer (some ⟨b_c_, 0, none⟩)) rfl) (by exact rfl) rfl), (by rintro H' m_ hH hm_ hu_ _ rfl; exact depK_nil <| s_d (m_ 1) rfl (d_nilCheck (p := ⟨b_c_, 0, none⟩) rfl) (by exact rfl) rfl), (by rintro H' m_ hH hm_ hu_ _ rfl; exact depK_nil <| s_d (m_ 2) rfl (d_fld (o' := 11) Tryd.underlying129 rfl sz127 rfl rfl rfl) (by exact rfl) rfl), (by rintro H' m_ hH hm_ hu_ _ rfl; exact depK_nil <| s_d (m_ 3) rfl (d_loado (v := v_c_11) ty127 rfl (.there .here) rfl rfl rfl rfl) (by exact rfl) rfl), (fun H' m_ hH hm_ hu_ => depK_nil <| s_d (m_ 4) rfl (d_move (v := .int .i64 t7) rfl) (by exact rfl) rfl), (by rintro H' m_ hH hm_ hu_ _ rfl; exact depK_nil <| s_d (m_ 5) rfl (call_d (o_call co26 (vs := [.int .i64 t7]) rfl (count_Name.calls k hy6))) (by exact rfl) rfl), (fun H' m_ hH hm_ hu_ => depK_nil <| s_d (m_ 6) rfl (d_move (v := .int .i64 t7) rfl) (by exact rfl) rfl), trivial⟩ ?_
  intro H9 e10
  rintro _ _ rfl _ _ rfl _ _ rfl _ _ rfl _ _ rfl _ _ rfl _ _ rfl
  refine w_a0 rfl (o_mapUpdate (mk := (mkStr (fun b => .int .i64 b))) (a := y5) (c := t7) (F := fun z_ => z_ :: some (b_c_, .cells ⟨[.int .i64 c_0, .int .i64 c_1, .int .i64 c_2, .int .i64 c_3, .int .i64 c_4, .int .i64 c_5, .int .i64 c_6, .int .i64 c_7, .int .u32 c_8, .int .i32 c_9, .int .u32 c_10, v_c_11]⟩ 129 (0, 0)) :: L) Tryd.underlying127 Tryd.underlying9 rfl rfl rfl (h_c_11.mono e10) (fun _ => .here)) ?_
  rintro _ _ _ ⟨i11, rfl, rfl, rfl, h12⟩
  refine w_done <| w_inBlock <| w_region rfl <| w_d rfl (d_add (c := w64 (t7 + 1)) rfl rfl rfl) <| w_d rfl (d_move (v := .int .i64 (w64 (t7 + 1))) rfl) <| w_done <| w_inLoop <| w_sl 0 (.pointer (some ⟨b_c_, 0, none⟩)) rfl <| w_sl 7 (.int .i64 (w64 (t7 + 1))) rfl <| hh.l0 (hle.trans e10) he h12
 ·
  refine w_else rfl (decide_eq_false c4) <| w_exit rfl ?_
  have h13 := mpn_of h_c_11
  refine w_pull .here <| w_pull (.there (.there .here)) <| w_del (.there (.there (.there .here))) <| w_del (.there (.there .here)) ?_
  obtain rfl := Option.some.inj he
  refine w_finish fn_54 rs_54 .nil <| ⟨[], [_, _], rfl, hle, ⟨v_c_11, i_c_11, rfl, rfl, h13⟩⟩
theorem count_Counts_lay.ok : ∀ k, count_Counts_lay.OK (count_Counts_lay.hs k)
 | 0 => ⟨(by intros; exact nomatch (show none = some _ from by assumption))⟩
 | k + 1 => ⟨count_Counts_lay.b0_ok (k := k) (count_Counts_lay.ok k)⟩
theorem count_Counts_lay.calls (k : Nat) {H : Hp} {L : Items} {c_ : count_Counts} {b_c_ : Nat} {v0_c_ : Value} {i0_c_ : Item'} {r : count_Counts} (he : count_Counts_lay.f k c_ = some r) (h0_c_ : MpN (mkStr (fun b => .int .i64 b)) H 127 i0_c_ v0_c_ c_.f_kinds) : Ct Tryd.prog 54 ⟨[.pointer (some ⟨b_c_, 0, none⟩)]⟩ H (some (b_c_, .cells ⟨[.int .i64 c_.f_l.e0.f_v, .int .i64 c_.f_l.e1.f_v, .int .i64 c_.f_l.e2.f_v, .int .i64 c_.f_l.e3.f_v, .int .i64 c_.f_l.e4.f_v, .int .i64 c_.f_l.e5.f_v, .int .i64 c_.f_l.e6.f_v, .int .i64 c_.f_l.e7.f_v, .int .u32 c_.f_once.f_done.f_v, .int .i32 c_.f_once.f_m.f_mu.f_state, .int .u32 c_.f_once.f_m.f_mu.f_sema, v0_c_]⟩ 129 (0, 0)) :: i0_c_ :: L) (fun v H' L' => ∃ its_, L' = its_ ++ L ∧ H.le H' ∧ count_Counts_lay.out b_c_ its_ r H' v) := by
 refine ct_ptr ?_
 have hle : H.le H := .refl _
 have hh := count_Counts_lay.ok k
 unfold count_Counts_lay.f at he
 refine ct_enter (args := [_]) fn_54 rfl nt_54 rfl <| w_seq <| w_region rfl <| w_d rfl (d_move (v := .pointer (some ⟨b_c_, 0, none⟩)) rfl) <| w_a rfl (o_makeMap (mk := (mkStr (fun b => .int .i64 b)))) ?_
 rintro v1 _ _ ⟨i2, rfl, rfl, h3⟩
 refine w_d rfl (d_nilCheck (p := ⟨b_c_, 0, none⟩) rfl) <| w_d rfl (d_fld (o' := 11) Tryd.underlying129 rfl sz127 rfl rfl rfl) <| w_a0 rfl (o_store (v := v1) sz127 rfl rfl h3.cells rfl (one_cons (h3.one) one_nil) (.there .here) (.there (.there (.there (.there (.there (.there (.there (.there (.there (.there (.there (.here .done))))))))))))) ?_
 rintro _ _ _ ⟨rfl, rfl, rfl⟩
 refine w_done <| w_seq <| w_region rfl <| w_d rfl (d_move (v := .int .i64 0) rfl) <| w_done <| w_block <| w_loop <| w_del (.there (.there .here)) <| w_sl 0 (.pointer (some ⟨b_c_, 0, none⟩)) rfl <| w_sl 7 (.int .i64 0) rfl <| hh.l0 hle he h3
/-! ### sync/atomic.b32 -/
noncomputable def atomic_b32.C : Code := (Tryd.f102.body).getD .skip
def atomic_b32.out (r : Int) (H : Hp) (v : Value) : Prop := v = .int .u32 r
abbrev atomic_b32.R (H0 : Hp) (L : Items) (r : Int) : Value → Hp → Items → Prop := fun v H' L' => (∃ p, L' = p ++ L) ∧ H0.le H' ∧ atomic_b32.out r H' v
noncomputable def atomic_b32.f (k : Nat) (b : Bool) : Option Int := if b = true then (some (1)) else (some (0))
theorem atomic_b32.mono : ∀ k y0, LeO (atomic_b32.f k y0) (atomic_b32.f (k + 1) y0) := fun k _ => by unfold atomic_b32.f; exact (LeO.ite (LeO.refl _) (LeO.refl _))
theorem atomic_b32.calls (k : Nat) {H : Hp} {L : Items} {b : Bool} {r : Int} (he : atomic_b32.f k b = some r) : Ct Tryd.prog 102 ⟨[.bool b]⟩ H L (fun v H' L' => L = L' ∧ H = H' ∧ v = .int .u32 r) := by
 refine ct_outs (O := atomic_b32.out r) (fun _ _ h => h) ?_
 have hle : H.le H := .refl _
 unfold atomic_b32.f at he
 refine ct_enter (args := [_]) fn_102 rfl nt_102 rfl <| w_seq <| w_region rfl <| w_d rfl (d_assign (v := .int .u32 0) rfl) <| w_done <| w_seq <| w_seq <| w_region rfl <| w_d rfl (d_move (v := .bool b) rfl) <| w_done ?_
 rcases its he with ⟨c1, he⟩ | ⟨c1, he⟩
 ·
  refine w_then rfl c1 <| w_seq <| w_region rfl <| w_d rfl (d_assign (v := .int .u32 1) rfl) <| w_done ?_
  obtain rfl := Option.some.inj he
  refine w_return fn_102 rs_102 (.tmp (v := .int .u32 1) rfl .nil) <| ⟨⟨[], rfl⟩, hle, rfl⟩
 ·
  refine w_else rfl (Bool.eq_false_iff.2 c1) <| w_skip <| w_seq <| w_region rfl <| w_d rfl (d_assign (v := .int .u32 0) rfl) <| w_done ?_
  obtain rfl := Option.some.inj he
  refine w_return fn_102 rs_102 (.tmp (v := .int .u32 0) rfl .nil) <| ⟨⟨[], rfl⟩, hle, rfl⟩
def mul : Go.Conc.Locks.MuLink := { lock := 91, unlock := 92, ilock := 99, iunlock := 100, lockSlow := 110, unlockSlow := 113, disable := 106, enable := 108, acquire := 109, relMerge := 111, cas32 := 107, add32 := 112, tMutex := 124, tIMutex := 122, tPMutex := 207, tPIMutex := 214, tPI32 := 216, tUP := 159, tNoCopy := 118, tU32 := 74 }
theorem mulib : Go.Conc.Locks.MuLib Tryd.prog mul where
  f_lock := Tryd.func91
  f_unlock := Tryd.func92
  f_ilock := Tryd.func99
  f_iunlock := Tryd.func100
  f_disable := Tryd.func106
  f_enable := Tryd.func108
  f_acquire := Tryd.func109
  f_relMerge := Tryd.func111
  f_cas32 := Tryd.func107
  f_add32 := Tryd.func112
  underlying_tIMutex := Tryd.underlying122
  runUnderlying_tIMutex := Tryd.runUnderlying122
  sizeOf_tIMutex := Tryd.sizeOf122
  isAgg_tIMutex := Tryd.isAgg122
  zeroValue_tIMutex := Tryd.zeroValue122
  underlying_tMutex := Tryd.underlying124
  runUnderlying_tMutex := Tryd.runUnderlying124
  sizeOf_tMutex := Tryd.sizeOf124
  isAgg_tMutex := Tryd.isAgg124
  zeroValue_tMutex := Tryd.zeroValue124
  underlying_tPMutex := Tryd.underlying207
  runUnderlying_tPMutex := Tryd.runUnderlying207
  sizeOf_tPMutex := Tryd.sizeOf207
  isAgg_tPMutex := Tryd.isAgg207
  zeroValue_tPMutex := Tryd.zeroValue207
  underlying_tPIMutex := Tryd.underlying214
  runUnderlying_tPIMutex := Tryd.runUnderlying214
  sizeOf_tPIMutex := Tryd.sizeOf214
  isAgg_tPIMutex := Tryd.isAgg214
  zeroValue_tPIMutex := Tryd.zeroValue214
  underlying_tPI32 := Tryd.underlying216
  runUnderlying_tPI32 := Tryd.runUnderlying216
  sizeOf_tPI32 := Tryd.sizeOf216
  isAgg_tPI32 := Tryd.isAgg216
  zeroValue_tPI32 := Tryd.zeroValue216
  underlying_tUP := Tryd.underlying159
  runUnderlying_tUP := Tryd.runUnderlying159
  sizeOf_tUP := Tryd.sizeOf159
  isAgg_tUP := Tryd.isAgg159
  zeroValue_tUP := Tryd.zeroValue159
  underlying_tNoCopy := Tryd.underlying118
  runUnderlying_tNoCopy := Tryd.runUnderlying118
  sizeOf_tNoCopy := Tryd.sizeOf118
  isAgg_tNoCopy := Tryd.isAgg118
  zeroValue_tNoCopy := Tryd.zeroValue118
  underlying_t21 := Tryd.underlying21
  runUnderlying_t21 := Tryd.runUnderlying21
  sizeOf_t21 := Tryd.sizeOf21
  isAgg_t21 := Tryd.isAgg21
  zeroValue_t21 := Tryd.zeroValue21
  room_tIMutex := by kernel_rfl
theorem own_set {H : Hp} {w : World} {L L' : Items} {b off : Nat} {cs cs' : List Value} {T : TypeId} {v : Value} (h : Own H w L) (u : Upd L (some (b, .cells ⟨cs⟩ T (0, 0))) (some (b, .cells ⟨cs'⟩ T (0, 0))) L') (e : cs' = cs.set off v) (lt : off < cs.length) : Own H (w.setCell ⟨b, off, none⟩ v) L' := by
  have hb := (h.has u.has).2
  refine h.put u rfl rfl rfl ?_ fun c _ hc => ?_
  · subst e
    simp only [World.setCell, Array.getElem?_modify, if_true, hb]
    show some (Obj.cells ((⟨cs⟩ : Array Value).setIfInBounds off v) T (0, 0)) = _
    congr 2
    apply Array.ext'
    simp only [Array.toList_setIfInBounds]
  · simp only [World.setCell, Array.getElem?_modify]; rw [if_neg (fun e => hc e.symm)]
theorem own_cell {H : Hp} {w : World} {L : Items} {b off : Nat} {cs : List Value} {T : TypeId} {v : Value} (h : Own H w L) (m : Has L (some (b, .cells ⟨cs⟩ T (0, 0)))) (e : cs[off]? = some v) : w.cell? ⟨b, off, none⟩ = some v ∧ w.frozen? ⟨b, off, none⟩ = false := by
  have hb := (h.has m).2
  constructor
  · simp [World.cell?, hb, e]
  · simp [World.frozen?, hb]
theorem own_drew {H : Hp} {w : World} {L : Items} (h : Own H w L) : Own H w.drew L := h.heap rfl rfl rfl rfl
theorem once_store (a : Addr) (x : Value) (u : FrameMode) (w : World) (hc : w.cell? a = some x) (hz : w.frozen? a = false) :
    CallsD Tryd.prog 93 #[.pointer (some a), .bool true] u w fun e u' w' => u' = u ∧ (e = .returned (.tuple #[]) ∧ w' = w.drew.setCell a (.int .u32 1)) := by
  have hc' : w.drew.cell? a = some x := by go_simp
  have hz' : w.drew.frozen? a = false := by go_simp
  have hst := run_call_store (P := Tryd.prog) Tryd.func101 (by kernel_rfl) (by kernel_rfl) (by kernel_rfl) (by kernel_rfl) (k := .u32) (y := 1) hc' hz'
  go_enter_d Tryd.func93, Tryd.ntmps93
  go_wp2
  go_region_calls
  all_goals (go_end0; exact ⟨rfl, rfl⟩)
def cC (c : count_Counts) (v : Value) : List Value := [.int .i64 c.f_l.e0.f_v, .int .i64 c.f_l.e1.f_v, .int .i64 c.f_l.e2.f_v, .int .i64 c.f_l.e3.f_v, .int .i64 c.f_l.e4.f_v, .int .i64 c.f_l.e5.f_v, .int .i64 c.f_l.e6.f_v, .int .i64 c.f_l.e7.f_v, .int .u32 c.f_once.f_done.f_v, .int .i32 c.f_once.f_m.f_mu.f_state, .int .u32 c.f_once.f_m.f_mu.f_sema, v]
def once (c : count_Counts) (d s : Int) : count_Counts := ⟨c.f_l, ⟨⟨d⟩, ⟨⟨s, c.f_once.f_m.f_mu.f_sema⟩⟩⟩, c.f_kinds⟩
set_option maxHeartbeats 1600000 in
theorem once_slow (k : Nat) {H : Hp} {w : World} {L : Items} {c y : count_Counts} {b : Nat} {v0 : Value} {i0 : Item'} (hw : Own H w (some (b, .cells ⟨cC c v0⟩ 129 (0, 0)) :: i0 :: L)) (h0 : c.f_once.f_done.f_v = 0) (h1 : c.f_once.f_m.f_mu.f_state = 0)
    (hl : count_Counts_lay.f k (once c 0 1) = some y) (hy : y.f_once.f_m.f_mu.f_state = 1) (hm : MpN (mkStr (fun b => .int .i64 b)) H 127 i0 v0 c.f_kinds) :
    Calls Tryd.prog 78 #[.pointer (some ⟨b, 8, none⟩), .func (.func 54) #[.pointer (some ⟨b, 0, none⟩)] #[]] w fun e w' => e = .returned (.tuple #[]) ∧ ∃ H' v' i', H.le H' ∧ Own H' w' (some (b, .cells ⟨cC (once y 1 0) v'⟩ 129 (0, 0)) :: i' :: L) ∧ MpN (mkStr (fun b => .int .i64 b)) H' 127 i' v' y.f_kinds := by
  obtain ⟨ca, fa⟩ := own_cell (off := 9) hw .here (v := .int .i32 0) (by show some (Value.int .i32 c.f_once.f_m.f_mu.f_state) = _; rw [h1])
  have w1 : Own H (w.setCell ⟨b, 9, none⟩ (.int .i32 1)) (some (b, .cells ⟨cC (once c 0 1) v0⟩ 129 (0, 0)) :: i0 :: L) := own_set hw .here (by show _ = List.set _ _ _; simp only [cC, once, h0, List.set_cons_succ, List.set_cons_zero]) (by show 9 < 12; decide)
  have hld := run_call_load (P := Tryd.prog) Tryd.func90 (by kernel_rfl) (by kernel_rfl) (by kernel_rfl) .u32 (by kernel_rfl) (own_cell (off := 8) w1 .here (v := .int .u32 0) rfl).1
  have lay : Calls Tryd.prog 54 #[.pointer (some ⟨b, 0, none⟩)] (w.setCell ⟨b, 9, none⟩ (.int .i32 1)) _ := Ct.calls (count_Counts_lay.calls k hl (show MpN (mkStr (fun b => .int .i64 b)) H 127 i0 v0 (once c 0 1).f_kinds from hm)) w1
  have hnot : ∀ (x : Bool) (w : World), (Op.unary .not (.bool x)).run Tryd.prog w = .ok (.bool (!x)) w := fun _ _ => rfl
  go_enter_defers Tryd.func78, Tryd.ntmps78
  go_wp2_with (first | (go_at_call 91; refine (MuLone.lock_free mulib ⟨b, 9, none⟩ _ ca fa).mono ?_; rintro e w' ⟨rfl, rfl⟩) | (go_at_call 54; refine lay.mono ?_; rintro e w' ⟨v, H', L', rfl, ho, its, rfl, hle, v1, i1, rfl, rfl, hm1⟩) | (go_at_call 77; go_in))
  change Own H' w' (some (b, .cells ⟨cC y v1⟩ 129 (0, 0)) :: i1 :: L) at ho
  have hd := own_cell (off := 8) ho .here (v := .int .u32 y.f_once.f_done.f_v) rfl
  have w2 : Own H' (w'.drew.setCell ⟨b, 8, none⟩ (.int .u32 1)) (some (b, .cells ⟨cC (once y 1 1) v1⟩ 129 (0, 0)) :: i1 :: L) := own_set (own_drew ho) .here (by show _ = List.set _ _ _; simp only [cC, once, hy, List.set_cons_succ, List.set_cons_zero]) (by show 8 < 12; decide)
  have hs := own_cell (off := 9) w2 .here (v := .int .i32 1) rfl
  have w3 : Own H' ((w'.drew.setCell ⟨b, 8, none⟩ (.int .u32 1)).setCell ⟨b, 9, none⟩ (.int .i32 0)) (some (b, .cells ⟨cC (once y 1 0) v1⟩ 129 (0, 0)) :: i1 :: L) := own_set w2 .here (by show _ = List.set _ _ _; simp only [cC, once, List.set_cons_succ, List.set_cons_zero]) (by show 9 < 12; decide)
  refine leaves_cons (f := 93) (args := #[.pointer (some ⟨b, 8, none⟩), .bool true]) (by simp) (by simp [go_sem]) <| (once_store ⟨b, 8, none⟩ _ .returning _ hd.1 hd.2).mono ?_
  rintro e u' w'' ⟨rfl, rfl, rfl⟩
  refine leaves_cons (f := 92) (args := #[.pointer (some ⟨b, 9, none⟩)]) (by simp [settle]) (by simp [go_sem]) <| (MuLone.unlock_deferred mulib ⟨b, 9, none⟩ _ _ hs.1 hs.2).mono ?_
  rintro e u' w'' ⟨rfl, rfl, rfl⟩
  simp [Leaves, settle, results, Tryd.results78]
  exact ⟨H', hle, v1, i1, w3, hm1⟩
theorem once_do (k : Nat) {H : Hp} {L : Items} {c y : count_Counts} {b : Nat} {v0 : Value} {i0 : Item'} (h0 : c.f_once.f_done.f_v = 0) (h1 : c.f_once.f_m.f_mu.f_state = 0)
    (hl : count_Counts_lay.f k (once c 0 1) = some y) (hy : y.f_once.f_m.f_mu.f_state = 1) (hm : MpN (mkStr (fun b => .int .i64 b)) H 127 i0 v0 c.f_kinds) {w : World} (hw : Own H w (some (b, .cells ⟨cC c v0⟩ 129 (0, 0)) :: i0 :: L)) :
    Calls Tryd.prog 53 #[.pointer (some ⟨b, 8, none⟩), .func (.func 54) #[.pointer (some ⟨b, 0, none⟩)] #[]] w fun e w' => e = .returned (.tuple #[]) ∧ ∃ H' v' i', H.le H' ∧ Own H' w' (some (b, .cells ⟨cC (once y 1 0) v'⟩ 129 (0, 0)) :: i' :: L) ∧ MpN (mkStr (fun b => .int .i64 b)) H' 127 i' v' y.f_kinds := by
  have hld := run_call_load (P := Tryd.prog) Tryd.func90 (by kernel_rfl) (by kernel_rfl) (by kernel_rfl) .u32 (by kernel_rfl) (own_cell (off := 8) hw .here (v := .int .u32 0) (by show some (Value.int .u32 c.f_once.f_done.f_v) = _; rw [h0])).1
  have hnot : ∀ (x : Bool) (w : World), (Op.unary .not (.bool x)).run Tryd.prog w = .ok (.bool (!x)) w := fun _ _ => rfl
  go_enter Tryd.func53, Tryd.ntmps53
  go_wp2_with (first | (go_at_call 78; refine (once_slow k hw h0 h1 hl hy hm).mono ?_; rintro e w' ⟨rfl, hq⟩) | (go_at_call 77; go_in))
  go_end0
  exact ⟨rfl, hq⟩
theorem once_done {H : Hp} {L : Items} {c : count_Counts} {b : Nat} {v0 fv : Value} {i0 : Item'} (h0 : ¬ c.f_once.f_done.f_v = 0) {w : World} (hw : Own H w (some (b, .cells ⟨cC c v0⟩ 129 (0, 0)) :: i0 :: L)) :
    Calls Tryd.prog 53 #[.pointer (some ⟨b, 8, none⟩), fv] w fun e w' => e = .returned (.tuple #[]) ∧ w' = w := by
  have hld := run_call_load (P := Tryd.prog) Tryd.func90 (by kernel_rfl) (by kernel_rfl) (by kernel_rfl) .u32 (by kernel_rfl) (own_cell (off := 8) hw .here (v := .int .u32 c.f_once.f_done.f_v) rfl).1
  have hnot : ∀ (x : Bool) (w : World), (Op.unary .not (.bool x)).run Tryd.prog w = .ok (.bool (!x)) w := fun _ _ => rfl
  have hd' : (c.f_once.f_done.f_v != 0) = true := by simp [h0]
  go_enter Tryd.func53, Tryd.ntmps53
  go_wp2
  go_end0
  exact ⟨rfl, rfl⟩
noncomputable def count_Do.f (k : Nat) (c : count_Counts) : Option count_Counts := if c.f_once.f_done.f_v = 0 then (if c.f_once.f_m.f_mu.f_state = 0 then ((count_Counts_lay.f k (once c 0 1)).bind fun y => if y.f_once.f_m.f_mu.f_state = 1 then some (once y 1 0) else none) else none) else some c
theorem count_Do.mono (k : Nat) (c : count_Counts) : LeO (count_Do.f k c) (count_Do.f (k + 1) c) := by
  unfold count_Do.f
  exact LeO.ite (LeO.ite (LeO.bind (count_Counts_lay.mono k _) fun _ => LeO.refl _) (LeO.refl _)) (LeO.refl _)
theorem count_Do.calls (k : Nat) {H : Hp} {L : Items} {c_ : count_Counts} {b_c_ : Nat} {v0_c_ : Value} {i0_c_ : Item'} {r : count_Counts} (he : count_Do.f k c_ = some r) (h0_c_ : MpN (mkStr (fun b => .int .i64 b)) H 127 i0_c_ v0_c_ c_.f_kinds) :
    Ct Tryd.prog 53 ⟨[.pointer (some ⟨b_c_, 8, none⟩), .func (.func 54) #[.pointer (some ⟨b_c_, 0, none⟩)] #[]]⟩ H (some (b_c_, .cells ⟨[.int .i64 c_.f_l.e0.f_v, .int .i64 c_.f_l.e1.f_v, .int .i64 c_.f_l.e2.f_v, .int .i64 c_.f_l.e3.f_v, .int .i64 c_.f_l.e4.f_v, .int .i64 c_.f_l.e5.f_v, .int .i64 c_.f_l.e6.f_v, .int .i64 c_.f_l.e7.f_v, .int .u32 c_.f_once.f_done.f_v, .int .i32 c_.f_once.f_m.f_mu.f_state, .int .u32 c_.f_once.f_m.f_mu.f_sema, v0_c_]⟩ 129 (0, 0)) :: i0_c_ :: L) (fun v H' L' => ∃ its_, L' = its_ ++ L ∧ H.le H' ∧ count_Counts_lay.out b_c_ its_ r H' v) := Ct.of_calls fun w hw => by
  unfold count_Do.f at he
  by_cases c0 : c_.f_once.f_done.f_v = 0
  · rw [if_pos c0] at he
    by_cases c1 : c_.f_once.f_m.f_mu.f_state = 0
    · rw [if_pos c1] at he
      obtain ⟨y, hl, he⟩ := Option.bind_eq_some_iff.1 he
      by_cases c2 : y.f_once.f_m.f_mu.f_state = 1
      · rw [if_pos c2] at he
        obtain rfl := Option.some.inj he
        refine (once_do k c0 c1 hl c2 h0_c_ hw).mono ?_
        rintro e w' ⟨rfl, H', v', i', hle, ho, hm⟩
        exact ⟨_, H', _, rfl, ho, [_, i'], rfl, hle, v', i', rfl, rfl, hm⟩
      · rw [if_neg c2] at he; cases he
    · rw [if_neg c1] at he; cases he
  · rw [if_neg c0] at he
    obtain rfl := Option.some.inj he
    refine (once_done c0 hw).mono ?_
    rintro e w' ⟨rfl, rfl⟩
    exact ⟨_, H, _, rfl, hw, [_, i0_c_], rfl, ⟨fun _ _ h => h, rfl, rfl, rfl⟩, v0_c_, i0_c_, rfl, rfl, h0_c_⟩

/-! ### (*radome/count.Counts).Of -/
noncomputable def count_Counts_Of.C : Code := (Tryd.f17.body).getD .skip
def count_Counts_Of.out (r : Int × (Option Int)) (H : Hp) (v : Value) : Prop := v = .tuple ⟨[.int .i64 r.1, errV 106 r.2]⟩
abbrev count_Counts_Of.R (H0 : Hp) (L : Items) (r : Int × (Option Int)) : Value → Hp → Items → Prop := fun v H' L' => (∃ p, L' = p ++ L) ∧ H0.le H' ∧ count_Counts_Of.out r H' v
noncomputable def count_Counts_Of.f (k : Nat) (c_ : count_Counts) (kind : Int) : Option (Int × (Option Int)) := (count_kinded.f k kind).bind fun y3 => if (!y3) = true then (some (0, some 1)) else (if (0 : Int) ≤ kind ∧ kind < (8 : Int) then (some (rd (T117.toL c_.f_l) kind, none)) else none)
theorem count_Counts_Of.mono : ∀ k y0 y1, LeO (count_Counts_Of.f k y0 y1) (count_Counts_Of.f (k + 1) y0 y1) := fun k _ _ => by unfold count_Counts_Of.f; exact (LeO.bind (count_kinded.mono k _) fun _ => LeO.ite (LeO.refl _) (LeO.ite (LeO.refl _) (LeO.refl _)))
theorem count_Counts_Of.calls (k : Nat) {H : Hp} {L : Items} {c_ : count_Counts} {kind : Int} {v0_c_ : Value} {b_c_ : Nat} {r : Int × (Option Int)} (he : count_Counts_Of.f k c_ kind = some r) (hl_c_ : Lies H L ⟨b_c_, 0, none⟩ [.int .i64 c_.f_l.e0.f_v, .int .i64 c_.f_l.e1.f_v, .int .i64 c_.f_l.e2.f_v, .int .i64 c_.f_l.e3.f_v, .int .i64 c_.f_l.e4.f_v, .int .i64 c_.f_l.e5.f_v, .int .i64 c_.f_l.e6.f_v, .int .i64 c_.f_l.e7.f_v, .int .u32 c_.f_once.f_done.f_v, .int .i32 c_.f_once.f_m.f_mu.f_state, .int .u32 c_.f_once.f_m.f_mu.f_sema, v0_c_]) : Ct Tryd.prog 17 ⟨[.pointer (some ⟨b_c_, 0, none⟩), .int .i64 kind]⟩ H L (fun v H' L' => L = L' ∧ H = H' ∧ v = .tuple ⟨[.int .i64 r.1, errV 106 r.2]⟩) := by
 refine ct_outs (O := count_Counts_Of.out r) (fun _ _ h => h) ?_
 have hle : H.le H := .refl _
 unfold count_Counts_Of.f at he
 refine ct_enter (args := [_, _]) fn_17 rfl nt_17 rfl <| w_seq <| w_region rfl <| w_d rfl (d_assign (v := .int .i64 0) rfl) <| w_d rfl (d_assign (v := errV 106 none) rfl) <| w_done <| w_seq <| w_seq <| w_region rfl <| w_d rfl (d_move (v := .pointer (some ⟨b_c_, 0, none⟩)) rfl) <| w_d rfl (d_eqptr (a := (some ⟨b_c_, 0, none⟩)) Tryd.underlying39 rfl rfl) <| w_d rfl (d_move (v := .bool false) rfl) ?_
 refine w_g (g := true) rfl rfl rfl rfl (fun _ => d_move (v := .int .i64 kind) rfl) ?_
 obtain ⟨y3, hy4, he⟩ := Option.bind_eq_some_iff.1 he
 refine w_g (g := true) rfl rfl rfl rfl (fun _ => call_d (o_call co52 (vs := [.int .i64 kind]) rfl (count_kinded.calls k hy4))) <| w_g (g := true) rfl rfl rfl rfl (fun _ => d_not (b := y3) rfl) <| w_d rfl (d_pickf (v := .bool (!y3)) rfl rfl) <| w_done ?_
 rcases its he with ⟨c8, he⟩ | ⟨c8, he⟩
 ·
  refine w_then rfl c8 <| w_seq <| w_region rfl <| w_d rfl (d_iface (v := .int .i64 1) Tryd.underlying106 rfl rfl) <| w_d rfl (d_assign (v := .int .i64 0) rfl) <| w_d rfl (d_assign (v := errV 106 (some 1)) rfl) <| w_done ?_
  obtain rfl := Option.some.inj he
  refine w_return fn_17 rs_17 (.tmp (v := .int .i64 0) rfl (.tmp (v := errV 106 (some 1)) rfl .nil)) <| ⟨⟨[], rfl⟩, hle, rfl⟩
 ·
  refine w_else rfl (Bool.eq_false_iff.2 c8) <| w_skip <| w_seq <| w_region rfl <| w_d rfl (d_move (v := .pointer (some ⟨b_c_, 0, none⟩)) rfl) <| w_d rfl (d_move (v := .int .i64 kind) rfl) <| w_d rfl (d_nilCheck (p := ⟨b_c_, 0, none⟩) rfl) <| w_d rfl (d_fld (o' := 0) Tryd.underlying129 rfl sz117 rfl rfl rfl) ?_
  obtain ⟨c9, he⟩ := rq he
  refine w_d rfl (d_idxArr (o' := 0 + (kind : Int).toNat) Tryd.underlying117 sz111 rfl rfl c9 (by rw [Nat.mul_one])) <| w_d rfl (call_d (o_call co49 (vs := [.pointer (some ⟨b_c_, 0 + (kind : Int).toNat, none⟩)]) rfl (at49.calls (lies_var (xs := T117.toL c_.f_l) (m := 8) (off := 0) (hl_c_) rfl c9)))) <| w_d rfl (d_assign (v := .int .i64 (rd (T117.toL c_.f_l) kind)) rfl) <| w_d rfl (d_assign (v := errV 106 none) rfl) <| w_done ?_
  obtain rfl := Option.some.inj he
  refine w_return fn_17 rs_17 (.tmp (v := .int .i64 (rd (T117.toL c_.f_l) kind)) rfl (.tmp (v := errV 106 none) rfl .nil)) <| ⟨⟨[], rfl⟩, hle, rfl⟩
/-! ### (*radome/count.Counts).Named -/
noncomputable def count_Counts_Named.C : Code := (Tryd.f18.body).getD .skip
def count_Counts_Named.out (b_c_ : Nat) (its_ : Items) (r : Int × (Option Int) × count_Counts) (H : Hp) (v : Value) : Prop := ∃ v0 : Value, ∃ i0 : Item', v = .tuple ⟨[.int .i64 r.1, errV 106 r.2.1]⟩ ∧ its_ = [some (b_c_, .cells ⟨[.int .i64 r.2.2.f_l.e0.f_v, .int .i64 r.2.2.f_l.e1.f_v, .int .i64 r.2.2.f_l.e2.f_v, .int .i64 r.2.2.f_l.e3.f_v, .int .i64 r.2.2.f_l.e4.f_v, .int .i64 r.2.2.f_l.e5.f_v, .int .i64 r.2.2.f_l.e6.f_v, .int .i64 r.2.2.f_l.e7.f_v, .int .u32 r.2.2.f_once.f_done.f_v, .int .i32 r.2.2.f_once.f_m.f_mu.f_state, .int .u32 r.2.2.f_once.f_m.f_mu.f_sema, v0]⟩ 129 (0, 0)), i0] ∧ MpN (mkStr (fun b => .int .i64 b)) H 127 i0 v0 r.2.2.f_kinds
abbrev count_Counts_Named.R (b_c_ : Nat) (H0 : Hp) (L : Items) (r : Int × (Option Int) × count_Counts) : Value → Hp → Items → Prop := fun v H' L' => ∃ p its_, L' = p ++ (its_ ++ L) ∧ H0.le H' ∧ count_Counts_Named.out b_c_ its_ r H' v
noncomputable def count_Counts_Named.f (k : Nat) (c_ : count_Counts) (name : ByteArray) : Option (Int × (Option Int) × count_Counts) := (count_Do.f k c_).bind fun y1 => if (!(mhas y1.f_kinds name)) = true then (some (0, some 8, y1)) else ((count_Counts_Of.f k y1 (mget y1.f_kinds name 0)).bind fun y9 => some (y9.1, y9.2, y1))
theorem count_Counts_Named.mono : ∀ k y0 y1, LeO (count_Counts_Named.f k y0 y1) (count_Counts_Named.f (k + 1) y0 y1) := fun k _ _ => by unfold count_Counts_Named.f; exact (LeO.bind (count_Do.mono k _) fun _ => LeO.ite (LeO.refl _) (LeO.bind (count_Counts_Of.mono k _ _) fun _ => LeO.refl _))
theorem count_Counts_Named.calls (k : Nat) {H : Hp} {L : Items} {c_ : count_Counts} {name : ByteArray} {b_c_ : Nat} {v0_c_ : Value} {i0_c_ : Item'} {r : Int × (Option Int) × count_Counts} (he : count_Counts_Named.f k c_ name = some r) (h0_c_ : MpN (mkStr (fun b => .int .i64 b)) H 127 i0_c_ v0_c_ c_.f_kinds) : Ct Tryd.prog 18 ⟨[.pointer (some ⟨b_c_, 0, none⟩), .string name]⟩ H (some (b_c_, .cells ⟨[.int .i64 c_.f_l.e0.f_v, .int .i64 c_.f_l.e1.f_v, .int .i64 c_.f_l.e2.f_v, .int .i64 c_.f_l.e3.f_v, .int .i64 c_.f_l.e4.f_v, .int .i64 c_.f_l.e5.f_v, .int .i64 c_.f_l.e6.f_v, .int .i64 c_.f_l.e7.f_v, .int .u32 c_.f_once.f_done.f_v, .int .i32 c_.f_once.f_m.f_mu.f_state, .int .u32 c_.f_once.f_m.f_mu.f_sema, v0_c_]⟩ 129 (0, 0)) :: i0_c_ :: L) (fun v H' L' => ∃ its_, L' = its_ ++ L ∧ H.le H' ∧ count_Counts_Named.out b_c_ its_ r H' v) := by
 refine ct_ptr ?_
 have hle : H.le H := .refl _
 unfold count_Counts_Named.f at he
 refine ct_enter (args := [_, _]) fn_18 rfl nt_18 rfl <| w_seq <| w_region rfl <| w_d rfl (d_assign (v := .int .i64 0) rfl) <| w_d rfl (d_assign (v := errV 106 none) rfl) <| w_done <| w_seq <| w_seq <| w_region rfl <| w_d rfl (d_move (v := .pointer (some ⟨b_c_, 0, none⟩)) rfl) <| w_d rfl (d_eqptr (a := (some ⟨b_c_, 0, none⟩)) Tryd.underlying39 rfl rfl) <| w_done ?_
 refine w_else rfl rfl <| w_skip <| w_seq <| w_region rfl <| w_d rfl (d_move (v := .pointer (some ⟨b_c_, 0, none⟩)) rfl) <| w_d rfl (d_nilCheck (p := ⟨b_c_, 0, none⟩) rfl) <| w_d rfl (d_fld (o' := 8) Tryd.underlying129 rfl sz126 rfl rfl rfl) <| w_d rfl (d_move (v := .pointer (some ⟨b_c_, 0, none⟩)) rfl) <| w_d rfl (d_makeFunc (fs := [.pointer (some ⟨b_c_, 0, none⟩)]) (cs := []) rfl rfl) <| w_pull (.there .here) <| w_pull (.there .here) ?_
 obtain ⟨y1, hy2, he⟩ := Option.bind_eq_some_iff.1 he
 refine w_a rfl (o_call co53 (vs := [.pointer (some ⟨b_c_, 8, none⟩), .func (.func 54) #[.pointer (some ⟨b_c_, 0, none⟩)] #[]]) rfl (count_Do.calls k (c_ := c_) hy2 h0_c_)) ?_
 rintro _ H3 _ ⟨_, rfl, e4, ⟨v5, i6, rfl, rfl, h7⟩⟩
 refine w_it (L' := some (b_c_, .cells ⟨[.int .i64 y1.f_l.e0.f_v, .int .i64 y1.f_l.e1.f_v, .int .i64 y1.f_l.e2.f_v, .int .i64 y1.f_l.e3.f_v, .int .i64 y1.f_l.e4.f_v, .int .i64 y1.f_l.e5.f_v, .int .i64 y1.f_l.e6.f_v, .int .i64 y1.f_l.e7.f_v, .int .u32 y1.f_once.f_done.f_v, .int .i32 y1.f_once.f_m.f_mu.f_state, .int .u32 y1.f_once.f_m.f_mu.f_sema, v5]⟩ 129 (0, 0)) :: i6 :: none :: none :: L) rfl <| w_put (.there .here) <| w_put (.there .here) <| w_done <| w_seq <| w_region rfl <| w_d rfl (d_move (v := .pointer (some ⟨b_c_, 0, none⟩)) rfl) <| w_d rfl (d_nilCheck (p := ⟨b_c_, 0, none⟩) rfl) <| w_d rfl (d_fld (o' := 11) Tryd.underlying129 rfl sz127 rfl rfl rfl) <| w_d rfl (d_loado (v := v5) ty127 rfl .here rfl rfl rfl rfl) <| w_d rfl (d_move (v := .string name) rfl) <| w_d rfl (d_lookup2N (mk := (mkStr (fun b => .int .i64 b))) (a := name) (d := 0) Tryd.underlying127 Tryd.underlying9 rfl rfl rfl h7 (.there .here)) ?_
 refine w_d rfl (d_move (v := .tuple ⟨[.int .i64 (mget y1.f_kinds name 0), .bool (mhas y1.f_kinds name)]⟩) rfl) <| w_d rfl (d_ext (vs := [.int .i64 (mget y1.f_kinds name 0), .bool (mhas y1.f_kinds name)]) rfl rfl) <| w_d rfl (d_ext (vs := [.int .i64 (mget y1.f_kinds name 0), .bool (mhas y1.f_kinds name)]) rfl rfl) <| w_d rfl (d_assign (v := .int .i64 (mget y1.f_kinds name 0)) rfl) <| w_d rfl (d_assign (v := .bool (mhas y1.f_kinds name)) rfl) <| w_done <| w_seq <| w_seq <| w_region rfl <| w_d rfl (d_move (v := .bool (mhas y1.f_kinds name)) rfl) <| w_d rfl (d_not (b := (mhas y1.f_kinds name)) rfl) <| w_done ?_
 rcases its he with ⟨c8, he⟩ | ⟨c8, he⟩
 ·
  refine w_then rfl c8 <| w_seq <| w_region rfl <| w_d rfl (d_iface (v := .int .i64 8) Tryd.underlying106 rfl rfl) <| w_d rfl (d_assign (v := .int .i64 0) rfl) <| w_d rfl (d_assign (v := errV 106 (some 8)) rfl) <| w_done ?_
  obtain rfl := Option.some.inj he
  refine w_return fn_18 rs_18 (.tmp (v := .int .i64 0) rfl (.tmp (v := errV 106 (some 8)) rfl .nil)) <| ⟨[], [_, _], rfl, hle.trans e4, ⟨v5, i6, rfl, rfl, h7⟩⟩
 ·
  refine w_else rfl (Bool.eq_false_iff.2 c8) <| w_skip <| w_seq <| w_region rfl <| w_d rfl (d_move (v := .pointer (some ⟨b_c_, 0, none⟩)) rfl) <| w_d rfl (d_move (v := .int .i64 (mget y1.f_kinds name 0)) rfl) ?_
  obtain ⟨y9, hy10, he⟩ := Option.bind_eq_some_iff.1 he
  refine w_d rfl (call_d (o_call co17 (vs := [.pointer (some ⟨b_c_, 0, none⟩), .int .i64 (mget y1.f_kinds name 0)]) rfl (count_Counts_Of.calls k (c_ := y1) hy10 (lies_own .here)))) <| w_d rfl (d_ext (vs := [.int .i64 y9.1, errV 106 y9.2]) rfl rfl) <| w_d rfl (d_ext (vs := [.int .i64 y9.1, errV 106 y9.2]) rfl rfl) <| w_d rfl (d_assign (v := .int .i64 y9.1) rfl) <| w_d rfl (d_assign (v := errV 106 y9.2) rfl) <| w_done ?_
  obtain rfl := Option.some.inj he
  refine w_return fn_18 rs_18 (.tmp (v := .int .i64 y9.1) rfl (.tmp (v := errV 106 y9.2) rfl .nil)) <| ⟨[], [_, _], rfl, hle.trans e4, ⟨v5, i6, rfl, rfl, h7⟩⟩
/-! ### (*radome/count.Counts).All -/
noncomputable def count_Counts_All.C : Code := (Tryd.f21.body).getD .skip
abbrev count_Counts_All.out (r : (List Int)) (H : Hp) (v : Value) : Prop := Ro (Kd.int .i64) H v r
abbrev count_Counts_All.R (H0 : Hp) (L : Items) (r : (List Int)) : Value → Hp → Items → Prop := fun v H' L' => (∃ p, L' = p ++ L) ∧ H0.le H' ∧ count_Counts_All.out r H' v
structure count_Counts_All.Hs where
 l0 : Int → Int → Int → Int → Int → Int → Int → Int → Int → Int → Int → (List (ByteArray × Int)) → (List Int) → Int → Option (List Int)
noncomputable def count_Counts_All.b0 (k : Nat) (h : count_Counts_All.Hs)  (c_0 : Int) (c_1 : Int) (c_2 : Int) (c_3 : Int) (c_4 : Int) (c_5 : Int) (c_6 : Int) (c_7 : Int) (c_8 : Int) (c_9 : Int) (c_10 : Int) (c_11 : List (ByteArray × Int)) (out : List Int) (t8 : Int) : Option (List Int) := if t8 < 8 then (if (0 : Int) ≤ t8 ∧ t8 < (8 : Int) then (if out.length + [rd (T117.toL (⟨(⟨c_0⟩ : atomic_Int64), (⟨c_1⟩ : atomic_Int64), (⟨c_2⟩ : atomic_Int64), (⟨c_3⟩ : atomic_Int64), (⟨c_4⟩ : atomic_Int64), (⟨c_5⟩ : atomic_Int64), (⟨c_6⟩ : atomic_Int64), (⟨c_7⟩ : atomic_Int64)⟩ : T117)) t8].length ≤ 17592186044288 then (h.l0 c_0 c_1 c_2 c_3 c_4 c_5 c_6 c_7 c_8 c_9 c_10 c_11 (out ++ [rd (T117.toL (⟨(⟨c_0⟩ : atomic_Int64), (⟨c_1⟩ : atomic_Int64), (⟨c_2⟩ : atomic_Int64), (⟨c_3⟩ : atomic_Int64), (⟨c_4⟩ : atomic_Int64), (⟨c_5⟩ : atomic_Int64), (⟨c_6⟩ : atomic_Int64), (⟨c_7⟩ : atomic_Int64)⟩ : T117)) t8]) (w64 (t8 + 1))) else none) else none) else (some (out))
noncomputable def count_Counts_All.hs : Nat → count_Counts_All.Hs
 | 0 => ⟨fun _ _ _ _ _ _ _ _ _ _ _ _ _ _ => none⟩
 | k + 1 => ⟨fun x0 x1 x2 x3 x4 x5 x6 x7 x8 x9 x10 x11 x12 x13 => count_Counts_All.b0 k (count_Counts_All.hs k) x0 x1 x2 x3 x4 x5 x6 x7 x8 x9 x10 x11 x12 x13⟩
noncomputable def count_Counts_All.f (k : Nat) (c_ : count_Counts) : Option (List Int) := (fun h : count_Counts_All.Hs => if 0 ≤ 0 ∧ 0 ≤ 8 ∧ 8 ≤ 35184372088832 then (h.l0 c_.f_l.e0.f_v c_.f_l.e1.f_v c_.f_l.e2.f_v c_.f_l.e3.f_v c_.f_l.e4.f_v c_.f_l.e5.f_v c_.f_l.e6.f_v c_.f_l.e7.f_v c_.f_once.f_done.f_v c_.f_once.f_m.f_mu.f_state c_.f_once.f_m.f_mu.f_sema c_.f_kinds (List.replicate (0 : Int).toNat (0 : Int)) 0) else none) (count_Counts_All.hs k)
structure count_Counts_All.LE (h h' : count_Counts_All.Hs) : Prop where
 l0 : ∀ y0 y1 y2 y3 y4 y5 y6 y7 y8 y9 y10 y11 y12 y13, LeO (h.l0 y0 y1 y2 y3 y4 y5 y6 y7 y8 y9 y10 y11 y12 y13) (h'.l0 y0 y1 y2 y3 y4 y5 y6 y7 y8 y9 y10 y11 y12 y13)
theorem count_Counts_All.b0_mono {k : Nat} {h h' : count_Counts_All.Hs} (hl : count_Counts_All.LE h h') : ∀ y0 y1 y2 y3 y4 y5 y6 y7 y8 y9 y10 y11 y12 y13, LeO (count_Counts_All.b0 k h y0 y1 y2 y3 y4 y5 y6 y7 y8 y9 y10 y11 y12 y13) (count_Counts_All.b0 (k + 1) h' y0 y1 y2 y3 y4 y5 y6 y7 y8 y9 y10 y11 y12 y13) := fun _ _ _ _ _ _ _ _ _ _ _ _ _ _ => (LeO.ite (LeO.ite (LeO.ite (hl.l0 _ _ _ _ _ _ _ _ _ _ _ _ _ _) (LeO.refl _)) (LeO.refl _)) (LeO.refl _))
theorem count_Counts_All.hs_mono : ∀ k, count_Counts_All.LE (count_Counts_All.hs k) (count_Counts_All.hs (k + 1))
 | 0 => ⟨fun _ _ _ _ _ _ _ _ _ _ _ _ _ _ => LeO.none _⟩
 | k + 1 => ⟨count_Counts_All.b0_mono (k := k) (count_Counts_All.hs_mono k)⟩
theorem count_Counts_All.mono : ∀ k y0, LeO (count_Counts_All.f k y0) (count_Counts_All.f (k + 1) y0) := fun k _ => have hl := count_Counts_All.hs_mono k; by unfold count_Counts_All.f; exact (LeO.ite (hl.l0 _ _ _ _ _ _ _ _ _ _ _ _ _ _) (LeO.refl _))
noncomputable def count_Counts_All.Kl0 : List Item := .code (lopB (blkB (seqR (seqL (seqR (seqR (seqR count_Counts_All.C))))))) :: .inLoop (lopB (blkB (seqR (seqL (seqR (seqR (seqR count_Counts_All.C))))))) :: .inBlock 0 :: .code (seqR (seqR (seqR (seqR count_Counts_All.C)))) :: []
structure count_Counts_All.OK (h : count_Counts_All.Hs) : Prop where
 l0 : ∀ {H0 H : Hp} {L : Items} {r : (List Int)} {jk_ : Nat → Value} {c_0 : Int} {c_1 : Int} {c_2 : Int} {c_3 : Int} {c_4 : Int} {c_5 : Int} {c_6 : Int} {c_7 : Int} {c_8 : Int} {c_9 : Int} {c_10 : Int} {c_11 : List (ByteArray × Int)} {out : List Int} {t8 : Int} {v_c_11 : Value} {v_out : Value} {i_out : Item'} {b_c_ : Nat} (_ : H0.le H) (_he : h.l0 c_0 c_1 c_2 c_3 c_4 c_5 c_6 c_7 c_8 c_9 c_10 c_11 out t8 = some r) (_h_out : Sl (Kd.int .i64) H 2 i_out v_out out) (hl_c_ : Lies H L ⟨b_c_, 0, none⟩ [.int .i64 c_0, .int .i64 c_1, .int .i64 c_2, .int .i64 c_3, .int .i64 c_4, .int .i64 c_5, .int .i64 c_6, .int .i64 c_7, .int .u32 c_8, .int .i32 c_9, .int .u32 c_10, v_c_11]), Wp Tryd.prog 21 22 count_Counts_All.Kl0 (upd (upd (upd (upd jk_ 0 (.pointer (some ⟨b_c_, 0, none⟩))) 2 (.slice none 0 0)) 3 (v_out)) 8 (.int .i64 t8)) H (i_out :: L) (count_Counts_All.R H0 L r)
theorem count_Counts_All.b0_ok {k : Nat} {h : count_Counts_All.Hs} (hh : count_Counts_All.OK h) {H0 H : Hp} {L : Items} {r : (List Int)} {jk_ : Nat → Value} {c_0 : Int} {c_1 : Int} {c_2 : Int} {c_3 : Int} {c_4 : Int} {c_5 : Int} {c_6 : Int} {c_7 : Int} {c_8 : Int} {c_9 : Int} {c_10 : Int} {c_11 : List (ByteArray × Int)} {out : List Int} {t8 : Int} {v_c_11 : Value} {v_out : Value} {i_out : Item'} {b_c_ : Nat} (hle : H0.le H) (he : count_Counts_All.b0 k h c_0 c_1 c_2 c_3 c_4 c_5 c_6 c_7 c_8 c_9 c_10 c_11 out t8 = some r) (h_out : Sl (Kd.int .i64) H 2 i_out v_out out) (hl_c_ : Lies H L ⟨b_c_, 0, none⟩ [.int .i64 c_0, .int .i64 c_1, .int .i64 c_2, .int .i64 c_3, .int .i64 c_4, .int .i64 c_5, .int .i64 c_6, .int .i64 c_7, .int .u32 c_8, .int .i32 c_9, .int .u32 c_10, v_c_11]) : Wp Tryd.prog 21 22 count_Counts_All.Kl0 (upd (upd (upd (upd jk_ 0 (.pointer (some ⟨b_c_, 0, none⟩))) 2 (.slice none 0 0)) 3 (v_out)) 8 (.int .i64 t8)) H (i_out :: L) (count_Counts_All.R H0 L r) := by
 unfold count_Counts_All.b0 at he
 unfold count_Counts_All.Kl0
 refine w_seq <| w_region rfl <| w_d rfl (d_lss rfl rfl) <| w_done <| w_seq ?_
 rcases its he with ⟨c5, he⟩ | ⟨c5, he⟩
 ·
  refine w_then rfl (decide_eq_true c5) <| w_skip <| w_seq <| w_block <| w_seq <| w_region rfl <| w_d rfl (d_move (v := .int .i64 t8) rfl) <| w_d rfl (d_assign (v := .int .i64 t8) rfl) <| w_done <| w_region rfl <| w_d rfl (d_move (v := v_out) rfl) <| w_d rfl (d_move (v := .pointer (some ⟨b_c_, 0, none⟩)) rfl) ?_
  refine w_d rfl (d_move (v := .int .i64 t8) rfl) <| w_d rfl (d_nilCheck (p := ⟨b_c_, 0, none⟩) rfl) <| w_d rfl (d_fld (o' := 0) Tryd.underlying129 rfl sz117 rfl rfl rfl) ?_
  obtain ⟨c6, he⟩ := rq he
  refine w_d rfl (d_idxArr (o' := 0 + (t8 : Int).toNat) Tryd.underlying117 sz111 rfl rfl c6 (by rw [Nat.mul_one])) <| w_d rfl (call_d (o_call co49 (vs := [.pointer (some ⟨b_c_, 0 + (t8 : Int).toNat, none⟩)]) rfl (at49.calls (lies_var (xs := T117.toL (⟨(⟨c_0⟩ : atomic_Int64), (⟨c_1⟩ : atomic_Int64), (⟨c_2⟩ : atomic_Int64), (⟨c_3⟩ : atomic_Int64), (⟨c_4⟩ : atomic_Int64), (⟨c_5⟩ : atomic_Int64), (⟨c_6⟩ : atomic_Int64), (⟨c_7⟩ : atomic_Int64)⟩ : T117)) (m := 8) (off := 0) (hl_c_).th rfl c6)))) <| w_a rfl (o_buildSlice' (kd := (Kd.int .i64)) (css := [[.int .i64 (rd (T117.toL (⟨(⟨c_0⟩ : atomic_Int64), (⟨c_1⟩ : atomic_Int64), (⟨c_2⟩ : atomic_Int64), (⟨c_3⟩ : atomic_Int64), (⟨c_4⟩ : atomic_Int64), (⟨c_5⟩ : atomic_Int64), (⟨c_6⟩ : atomic_Int64), (⟨c_7⟩ : atomic_Int64)⟩ : T117)) t8)]]) (xs := [rd (T117.toL (⟨(⟨c_0⟩ : atomic_Int64), (⟨c_1⟩ : atomic_Int64), (⟨c_2⟩ : atomic_Int64), (⟨c_3⟩ : atomic_Int64), (⟨c_4⟩ : atomic_Int64), (⟨c_5⟩ : atomic_Int64), (⟨c_6⟩ : atomic_Int64), (⟨c_7⟩ : atomic_Int64)⟩ : T117)) t8]) (parts := [(0, .int .i64 (rd (T117.toL (⟨(⟨c_0⟩ : atomic_Int64), (⟨c_1⟩ : atomic_Int64), (⟨c_2⟩ : atomic_Int64), (⟨c_3⟩ : atomic_Int64), (⟨c_4⟩ : atomic_Int64), (⟨c_5⟩ : atomic_Int64), (⟨c_6⟩ : atomic_Int64), (⟨c_7⟩ : atomic_Int64)⟩ : T117)) t8))]) Tryd.underlying43 ti2 rfl ⟨_, _, rfl, rfl, rfl⟩ ⟨rfl, trivial⟩ rfl (by decide)) ?_
  rintro v7 _ _ ⟨i8, rfl, rfl, h9⟩
  obtain ⟨c10, he⟩ := rq he
  refine w_a rfl (o_append' (kd := (Kd.int .i64)) (F := fun z_ => i8 :: z_ :: L) Tryd.underlying43 Tryd.underlying43 ti2 rfl (by first | omega | (simp only [List.nil_append, List.length_cons, List.length_nil]; omega)) rfl rfl h_out (h9.src .here) (fun _ => (.there .here))) ?_
  rintro v11 _ _ ⟨i12, rfl, rfl, h13⟩
  refine w_d rfl (d_assign (v := v11) rfl) <| w_done <| w_inBlock <| w_region rfl <| w_d rfl (d_add (c := w64 (t8 + 1)) rfl rfl rfl) <| w_d rfl (d_move (v := .int .i64 (w64 (t8 + 1))) rfl) <| w_done <| w_inLoop <| w_del .here <| w_sl 0 (.pointer (some ⟨b_c_, 0, none⟩)) rfl <| w_sl 2 (.slice none 0 0) rfl <| w_sl 3 (v11) rfl ?_
  refine w_sl 8 (.int .i64 (w64 (t8 + 1))) rfl <| hh.l0 hle he h13 hl_c_
 ·
  refine w_else rfl (decide_eq_false c5) <| w_exit rfl <| w_seq <| w_region rfl <| w_d rfl (d_move (v := v_out) rfl) <| w_d rfl (d_assign (v := v_out) rfl) <| w_done <| w_freeze h_out .here ?_
  intro H14 e15 h16
  obtain rfl := Option.some.inj he
  refine w_return fn_21 rs_21 (.tmp (v := v_out) rfl .nil) <| ⟨⟨[_], rfl⟩, hle.trans e15, h16⟩
theorem count_Counts_All.ok : ∀ k, count_Counts_All.OK (count_Counts_All.hs k)
 | 0 => ⟨(by intros; exact nomatch (show none = some _ from by assumption))⟩
 | k + 1 => ⟨count_Counts_All.b0_ok (k := k) (count_Counts_All.ok k)⟩
theorem count_Counts_All.calls (k : Nat) {H : Hp} {L : Items} {c_ : count_Counts} {v0_c_ : Value} {b_c_ : Nat} {r : (List Int)} (he : count_Counts_All.f k c_ = some r) (hl_c_ : Lies H L ⟨b_c_, 0, none⟩ [.int .i64 c_.f_l.e0.f_v, .int .i64 c_.f_l.e1.f_v, .int .i64 c_.f_l.e2.f_v, .int .i64 c_.f_l.e3.f_v, .int .i64 c_.f_l.e4.f_v, .int .i64 c_.f_l.e5.f_v, .int .i64 c_.f_l.e6.f_v, .int .i64 c_.f_l.e7.f_v, .int .u32 c_.f_once.f_done.f_v, .int .i32 c_.f_once.f_m.f_mu.f_state, .int .u32 c_.f_once.f_m.f_mu.f_sema, v0_c_]) : Ct Tryd.prog 21 ⟨[.pointer (some ⟨b_c_, 0, none⟩)]⟩ H L (fun v H' L' => L = L' ∧ H.le H' ∧ count_Counts_All.out r H' v) := by
 refine ct_out (O := count_Counts_All.out r) ?_
 have hle : H.le H := .refl _
 have hh := count_Counts_All.ok k
 unfold count_Counts_All.f at he
 refine ct_enter (args := [_]) fn_21 rfl nt_21 rfl <| w_seq <| w_region rfl <| w_d rfl (d_assign (v := .slice none 0 0) rfl) <| w_done <| w_seq <| w_seq <| w_region rfl <| w_d rfl (d_move (v := .pointer (some ⟨b_c_, 0, none⟩)) rfl) <| w_d rfl (d_eqptr (a := (some ⟨b_c_, 0, none⟩)) Tryd.underlying39 rfl rfl) <| w_done <| w_else rfl rfl ?_
 refine w_skip <| w_seq <| w_region rfl ?_
 obtain ⟨c1, he⟩ := rq he
 refine w_a rfl (o_make' (kd := (Kd.int .i64)) (z0 := 0) Tryd.underlying43 ti2 (zp2 _) rfl rfl (by omega) (by omega) (by omega)) ?_
 rintro v2 _ _ ⟨i3, rfl, rfl, h4⟩
 refine w_d rfl (d_assign (v := v2) rfl) <| w_done <| w_seq <| w_seq <| w_region rfl <| w_d rfl (d_move (v := .int .i64 0) rfl) <| w_done <| w_block <| w_loop <| w_sl 0 (.pointer (some ⟨b_c_, 0, none⟩)) rfl <| w_sl 2 (.slice none 0 0) rfl <| w_sl 3 (v2) rfl ?_
 refine w_sl 8 (.int .i64 0) rfl <| hh.l0 hle he h4 hl_c_
/-! ### radome/radomelaw32.nums -/
noncomputable def radomelaw32_nums.C : Code := (Tryd.f25.body).getD .skip
def radomelaw32_nums.out (r : Bool) (H : Hp) (v : Value) : Prop := v = .bool r
abbrev radomelaw32_nums.R (H0 : Hp) (L : Items) (r : Bool) : Value → Hp → Items → Prop := fun v H' L' => (∃ p, L' = p ++ L) ∧ H0.le H' ∧ radomelaw32_nums.out r H' v
structure radomelaw32_nums.Hs where
 l0 : (List Int) → (List Int) → Bool → Int → Option Bool
noncomputable def radomelaw32_nums.b0 (k : Nat) (h : radomelaw32_nums.Hs)  (a : List Int) (b : List Int) (t4 : Bool) (i : Int) : Option Bool := if i < (a.length : Int) then (if (0 : Int) ≤ i ∧ i < (a.length : Int) then (if (0 : Int) ≤ i ∧ i < (b.length : Int) then (if (rd a i) = (rd b i) then (h.l0 a b t4 (w64 (i + 1))) else (some (false))) else none) else none) else (some (true))
noncomputable def radomelaw32_nums.hs : Nat → radomelaw32_nums.Hs
 | 0 => ⟨fun _ _ _ _ => none⟩
 | k + 1 => ⟨fun x0 x1 x2 x3 => radomelaw32_nums.b0 k (radomelaw32_nums.hs k) x0 x1 x2 x3⟩
noncomputable def radomelaw32_nums.f (k : Nat) (a : List Int) (b : List Int) : Option Bool := (fun h : radomelaw32_nums.Hs => if (a.length : Int) = (b.length : Int) then (h.l0 a b false 0) else (some (false))) (radomelaw32_nums.hs k)
structure radomelaw32_nums.LE (h h' : radomelaw32_nums.Hs) : Prop where
 l0 : ∀ y0 y1 y2 y3, LeO (h.l0 y0 y1 y2 y3) (h'.l0 y0 y1 y2 y3)
theorem radomelaw32_nums.b0_mono {k : Nat} {h h' : radomelaw32_nums.Hs} (hl : radomelaw32_nums.LE h h') : ∀ y0 y1 y2 y3, LeO (radomelaw32_nums.b0 k h y0 y1 y2 y3) (radomelaw32_nums.b0 (k + 1) h' y0 y1 y2 y3) := fun _ _ _ _ => (LeO.ite (LeO.ite (LeO.ite (LeO.ite (hl.l0 _ _ _ _) (LeO.refl _)) (LeO.refl _)) (LeO.refl _)) (LeO.refl _))
theorem radomelaw32_nums.hs_mono : ∀ k, radomelaw32_nums.LE (radomelaw32_nums.hs k) (radomelaw32_nums.hs (k + 1))
 | 0 => ⟨fun _ _ _ _ => LeO.none _⟩
 | k + 1 => ⟨radomelaw32_nums.b0_mono (k := k) (radomelaw32_nums.hs_mono k)⟩
theorem radomelaw32_nums.mono : ∀ k y0 y1, LeO (radomelaw32_nums.f k y0 y1) (radomelaw32_nums.f (k + 1) y0 y1) := fun k _ _ => have hl := radomelaw32_nums.hs_mono k; by unfold radomelaw32_nums.f; exact (LeO.ite (hl.l0 _ _ _ _) (LeO.refl _))
noncomputable def radomelaw32_nums.Kl0 : List Item := .code (lopB (blkB (seqR (seqL (seqR (seqR radomelaw32_nums.C)))))) :: .inLoop (lopB (blkB (seqR (seqL (seqR (seqR radomelaw32_nums.C)))))) :: .inBlock 0 :: .code (seqR (seqR (seqR radomelaw32_nums.C))) :: []
structure radomelaw32_nums.OK (h : radomelaw32_nums.Hs) : Prop where
 l0 : ∀ {H0 H : Hp} {L : Items} {r : Bool} {jk_ : Nat → Value} {a : List Int} {b : List Int} {t4 : Bool} {i : Int} {v_a : Value} {v_b : Value} (_ : H0.le H) (_he : h.l0 a b t4 i = some r) (_h_a : Src (Kd.int .i64) H L v_a a) (_h_b : Src (Kd.int .i64) H L v_b b), Wp Tryd.prog 25 26 radomelaw32_nums.Kl0 (upd (upd (upd (upd jk_ 0 (v_a)) 1 (v_b)) 4 (.bool t4)) 5 (.int .i64 i)) H (L) (radomelaw32_nums.R H0 L r)
theorem radomelaw32_nums.b0_ok {k : Nat} {h : radomelaw32_nums.Hs} (hh : radomelaw32_nums.OK h) {H0 H : Hp} {L : Items} {r : Bool} {jk_ : Nat → Value} {a : List Int} {b : List Int} {t4 : Bool} {i : Int} {v_a : Value} {v_b : Value} (hle : H0.le H) (he : radomelaw32_nums.b0 k h a b t4 i = some r) (h_a : Src (Kd.int .i64) H L v_a a) (h_b : Src (Kd.int .i64) H L v_b b) : Wp Tryd.prog 25 26 radomelaw32_nums.Kl0 (upd (upd (upd (upd jk_ 0 (v_a)) 1 (v_b)) 4 (.bool t4)) 5 (.int .i64 i)) H (L) (radomelaw32_nums.R H0 L r) := by
 unfold radomelaw32_nums.b0 at he
 unfold radomelaw32_nums.Kl0
 refine w_seq <| w_seq <| w_region rfl <| w_d rfl (d_move (v := .int .i64 i) rfl) <| w_d rfl (d_move (v := v_a) rfl) <| w_d rfl (d_len Tryd.underlying43 rfl h_a) <| w_d rfl (d_lss rfl rfl) <| w_done ?_
 rcases its he with ⟨c2, he⟩ | ⟨c2, he⟩
 ·
  refine w_then rfl (decide_eq_true c2) <| w_skip <| w_seq <| w_block <| w_seq ?_
  obtain ⟨c3, he⟩ := rq he
  obtain ⟨c4, he⟩ := rq he
  refine w_drawn (p := 8) (tl := [8]) [[], [], [(0, some 17), (1, some 18)], [(2, some 19)], [], [], [(4, some 21), (5, some 22)], [(6, some 23)]] [some 17, some 18, some 19, some 20, some 21, some 22, some 23, some 24] (fctF (.is (v_a) :: .is (.int .i64 i) :: .is (.pointer (some (pel v_a i 1))) :: .is (.int .i64 (rd a i)) :: .is (v_b) :: .is (.int .i64 i) :: .is (.pointer (some (pel v_b i 1))) :: .is (.int .i64 (rd b i)) :: [])) (fun m_ => L) (fun _ => none) mixed (by kernel_rfl) (by kernel_rfl) rfl (fct_mono (by kernel_rfl)) ⟨(fun H' m_ hH hm_ hu_ => depK_nil <| s_d (m_ 0) rfl (d_move (v := v_a) rfl) (by exact rfl) rfl), (fun H' m_ hH hm_ hu_ => depK_nil <| s_d (m_ 1) rfl (d_move (v := .int .i64 i) rfl) (by exact rfl) rfl), (by rintro H' m_ hH hm_ hu_ _ rfl _ rfl; exact depK_nil <| s_d (m_ 2) rfl (d_index (sz := 1) Tryd.underlying43 sz2 rfl (h_a.mono hH) rfl c3) (by exact rfl) rfl), (by rintro H' m_ hH hm_ hu_ _ rfl; exact depK_nil <| s_d (m_ 3) rfl (d_ldint ty2 rfl (h_a.mono hH) c3) (by exact rfl) rfl), (fun H' m_ hH hm_ hu_ => depK_nil <| s_d (m_ 4) rfl (d_move (v := v_b) rfl) (by exact rfl) rfl), (fun H' m_ hH hm_ hu_ => depK_nil <| s_d (m_ 5) rfl (d_move (v := .int .i64 i) rfl) (by exact rfl) rfl), (by rintro H' m_ hH hm_ hu_ _ rfl _ rfl; exact depK_nil <| s_d (m_ 6) rfl (d_index (sz := 1) Tryd.underlying43 sz2 rfl (h_b.mono hH) rfl c4) (by exact rfl) rfl), (by rintro H' m_ hH hm_ hu_ _ rfl; exact depK_nil <| s_d (m_ 7) rfl (d_ldint ty2 rfl (h_b.mono hH) c4) (by exact rfl) rfl), trivial⟩ ?_
  intro H5 e6
  rintro _ _ rfl _ _ rfl _ _ rfl _ _ rfl _ _ rfl _ _ rfl _ _ rfl _ _ rfl
  refine w_d rfl (d_neq rfl rfl) <| w_done ?_
  rcases its he with ⟨c7, he⟩ | ⟨c7, he⟩
  ·
   refine w_else rfl (nd_t c7) <| w_skip <| w_inBlock <| w_region rfl <| w_d rfl (d_move (v := .int .i64 i) rfl) <| w_d rfl (d_add (c := w64 (i + 1)) rfl rfl rfl) <| w_d rfl (d_assign (v := .int .i64 (w64 (i + 1))) rfl) <| w_done <| w_inLoop <| w_sl 0 (v_a) rfl <| w_sl 1 (v_b) rfl <| w_sl 4 (.bool t4) rfl ?_
   refine w_sl 5 (.int .i64 (w64 (i + 1))) rfl <| hh.l0 (hle.trans e6) he (h_a.mono e6) (h_b.mono e6)
  ·
   refine w_then rfl (nd_f c7) <| w_seq <| w_region rfl <| w_d rfl (d_assign (v := .bool false) rfl) <| w_done ?_
   obtain rfl := Option.some.inj he
   refine w_return fn_25 rs_25 (.tmp (v := .bool false) rfl .nil) <| ⟨⟨[], rfl⟩, hle.trans e6, rfl⟩
 ·
  refine w_else rfl (decide_eq_false c2) <| w_exit rfl <| w_seq <| w_region rfl <| w_d rfl (d_assign (v := .bool true) rfl) <| w_done ?_
  obtain rfl := Option.some.inj he
  refine w_return fn_25 rs_25 (.tmp (v := .bool true) rfl .nil) <| ⟨⟨[], rfl⟩, hle, rfl⟩
theorem radomelaw32_nums.ok : ∀ k, radomelaw32_nums.OK (radomelaw32_nums.hs k)
 | 0 => ⟨(by intros; exact nomatch (show none = some _ from by assumption))⟩
 | k + 1 => ⟨radomelaw32_nums.b0_ok (k := k) (radomelaw32_nums.ok k)⟩
theorem radomelaw32_nums.calls (k : Nat) {H : Hp} {L : Items} {a : List Int} {b : List Int} {v0_a : Value} {v1_b : Value} {r : Bool} (he : radomelaw32_nums.f k a b = some r) (h0_a : Src (Kd.int .i64) H L v0_a a) (h1_b : Src (Kd.int .i64) H L v1_b b) : Ct Tryd.prog 25 ⟨[v0_a, v1_b]⟩ H L (fun v H' L' => L = L' ∧ H = H' ∧ v = .bool r) := by
 refine ct_outs (O := radomelaw32_nums.out r) (fun _ _ h => h) ?_
 have hle : H.le H := .refl _
 have hh := radomelaw32_nums.ok k
 unfold radomelaw32_nums.f at he
 refine ct_enter (args := [_, _]) fn_25 rfl nt_25 rfl <| w_seq <| w_region rfl <| w_d rfl (d_assign (v := .bool false) rfl) <| w_done <| w_seq <| w_seq <| w_region rfl <| w_d rfl (d_move (v := v0_a) rfl) <| w_d rfl (d_len Tryd.underlying43 rfl h0_a) <| w_d rfl (d_move (v := v1_b) rfl) <| w_d rfl (d_len Tryd.underlying43 rfl h1_b) ?_
 refine w_d rfl (d_neq rfl rfl) <| w_done ?_
 rcases its he with ⟨c1, he⟩ | ⟨c1, he⟩
 ·
  refine w_else rfl (nd_t c1) <| w_skip <| w_seq <| w_seq <| w_region rfl <| w_d rfl (d_assign (v := .int .i64 0) rfl) <| w_done <| w_block <| w_loop <| w_sl 0 (v0_a) rfl <| w_sl 1 (v1_b) rfl <| w_sl 4 (.bool false) rfl ?_
  refine w_sl 5 (.int .i64 0) rfl <| hh.l0 hle he h0_a h1_b
 ·
  refine w_then rfl (nd_f c1) <| w_seq <| w_region rfl <| w_d rfl (d_assign (v := .bool false) rfl) <| w_done ?_
  obtain rfl := Option.some.inj he
  refine w_return fn_25 rs_25 (.tmp (v := .bool false) rfl .nil) <| ⟨⟨[], rfl⟩, hle, rfl⟩
/-! ### radome/radomelaw32.sure -/
noncomputable def radomelaw32_sure.C : Code := (Tryd.f28.body).getD .skip
def radomelaw32_sure.out (r : Bool) (H : Hp) (v : Value) : Prop := v = .bool r
abbrev radomelaw32_sure.R (H0 : Hp) (L : Items) (r : Bool) : Value → Hp → Items → Prop := fun v H' L' => (∃ p, L' = p ++ L) ∧ H0.le H' ∧ radomelaw32_sure.out r H' v
noncomputable def radomelaw32_sure.f (k : Nat)  : Option Bool := (count_New.f k ).bind fun y1 => (count_Counts_Add.f k y1 1 1).bind fun y9 => (count_Counts_Add.f k y9.2 1 1).bind fun y16 => (count_Counts_Of.f k y16.2 1).bind fun y23 => (count_Counts_Named.f k y16.2 str_2).bind fun y27 => (gd (((((y9.1.isNone && y16.1.isNone) && y23.2.isNone) && y27.2.1.isNone) && (decide (y23.1 = 2))) && (decide (y27.1 = 2))) (count_Name.f k 5) (ByteArray.empty)).bind fun y45 => some ((((((y9.1.isNone && y16.1.isNone) && y23.2.isNone) && y27.2.1.isNone) && (decide (y23.1 = 2))) && (decide (y27.1 = 2))) && (decide (y45 = str_6)))
theorem radomelaw32_sure.mono : ∀ k, LeO (radomelaw32_sure.f k) (radomelaw32_sure.f (k + 1)) := fun k => by unfold radomelaw32_sure.f; exact (LeO.bind (count_New.mono k) fun _ => LeO.bind (count_Counts_Add.mono k _ _ _) fun _ => LeO.bind (count_Counts_Add.mono k _ _ _) fun _ => LeO.bind (count_Counts_Of.mono k _ _) fun _ => LeO.bind (count_Counts_Named.mono k _ _) fun _ => LeO.bind (LeO.gd (count_Name.mono k _)) fun _ => LeO.refl _)
theorem radomelaw32_sure.calls (k : Nat) {H : Hp} {L : Items} {r : Bool} (he : radomelaw32_sure.f k  = some r) : Ct Tryd.prog 28 ⟨[]⟩ H L (fun v H' L' => L = L' ∧ H = H' ∧ v = .bool r) := by
 refine ct_outs (O := radomelaw32_sure.out r) (fun _ _ h => h) ?_
 have hle : H.le H := .refl _
 unfold radomelaw32_sure.f at he
 refine ct_enter (args := []) fn_28 rfl nt_28 rfl <| w_seq <| w_region rfl <| w_d rfl (d_assign (v := .bool false) rfl) <| w_done <| w_seq <| w_region rfl ?_
 obtain ⟨y1, hy2, he⟩ := Option.bind_eq_some_iff.1 he
 refine w_a rfl (o_call co23 (vs := []) rfl (count_New.calls k hy2)) ?_
 rintro _ H3 _ ⟨_, rfl, e4, ⟨b5, v6, i7, rfl, rfl, h8⟩⟩
 refine w_it (L' := some (b5, .cells ⟨[.int .i64 y1.f_l.e0.f_v, .int .i64 y1.f_l.e1.f_v, .int .i64 y1.f_l.e2.f_v, .int .i64 y1.f_l.e3.f_v, .int .i64 y1.f_l.e4.f_v, .int .i64 y1.f_l.e5.f_v, .int .i64 y1.f_l.e6.f_v, .int .i64 y1.f_l.e7.f_v, .int .u32 y1.f_once.f_done.f_v, .int .i32 y1.f_once.f_m.f_mu.f_state, .int .u32 y1.f_once.f_m.f_mu.f_sema, v6]⟩ 129 (0, 0)) :: i7 :: L) rfl <| w_d rfl (d_assign (v := .pointer (some ⟨b5, 0, none⟩)) rfl) <| w_done <| w_seq <| w_seq <| w_region rfl <| w_d rfl (d_move (v := .pointer (some ⟨b5, 0, none⟩)) rfl) <| w_d rfl (d_eqptr (a := (some ⟨b5, 0, none⟩)) Tryd.underlying39 rfl rfl) <| w_done <| w_else rfl rfl <| w_skip <| w_seq ?_
 refine w_region rfl <| w_d rfl (d_move (v := .pointer (some ⟨b5, 0, none⟩)) rfl) <| w_pull (.there .here) <| w_pull (.there .here) ?_
 obtain ⟨y9, hy10, he⟩ := Option.bind_eq_some_iff.1 he
 refine w_a rfl (o_call co20 (vs := [.pointer (some ⟨b5, 0, none⟩), .int .i64 1, .int .i64 1]) rfl (count_Counts_Add.calls k (c_ := y1) hy10 h8)) ?_
 rintro _ H11 _ ⟨_, rfl, e12, ⟨v13, i14, rfl, rfl, h15⟩⟩
 refine w_it (L' := some (b5, .cells ⟨[.int .i64 y9.2.f_l.e0.f_v, .int .i64 y9.2.f_l.e1.f_v, .int .i64 y9.2.f_l.e2.f_v, .int .i64 y9.2.f_l.e3.f_v, .int .i64 y9.2.f_l.e4.f_v, .int .i64 y9.2.f_l.e5.f_v, .int .i64 y9.2.f_l.e6.f_v, .int .i64 y9.2.f_l.e7.f_v, .int .u32 y9.2.f_once.f_done.f_v, .int .i32 y9.2.f_once.f_m.f_mu.f_state, .int .u32 y9.2.f_once.f_m.f_mu.f_sema, v13]⟩ 129 (0, 0)) :: i14 :: none :: none :: L) rfl <| w_put (.there .here) <| w_put (.there .here) <| w_d rfl (d_move (v := .pointer (some ⟨b5, 0, none⟩)) rfl) <| w_pull (.there .here) <| w_pull (.there .here) ?_
 obtain ⟨y16, hy17, he⟩ := Option.bind_eq_some_iff.1 he
 refine w_a rfl (o_call co20 (vs := [.pointer (some ⟨b5, 0, none⟩), .int .i64 1, .int .i64 1]) rfl (count_Counts_Add.calls k (c_ := y9.2) hy17 h15)) ?_
 rintro _ H18 _ ⟨_, rfl, e19, ⟨v20, i21, rfl, rfl, h22⟩⟩
 refine w_it (L' := some (b5, .cells ⟨[.int .i64 y16.2.f_l.e0.f_v, .int .i64 y16.2.f_l.e1.f_v, .int .i64 y16.2.f_l.e2.f_v, .int .i64 y16.2.f_l.e3.f_v, .int .i64 y16.2.f_l.e4.f_v, .int .i64 y16.2.f_l.e5.f_v, .int .i64 y16.2.f_l.e6.f_v, .int .i64 y16.2.f_l.e7.f_v, .int .u32 y16.2.f_once.f_done.f_v, .int .i32 y16.2.f_once.f_m.f_mu.f_state, .int .u32 y16.2.f_once.f_m.f_mu.f_sema, v20]⟩ 129 (0, 0)) :: i21 :: none :: none :: L) rfl <| w_put (.there .here) <| w_put (.there .here) <| w_d rfl (d_assign (v := errV 106 y9.1) rfl) <| w_d rfl (d_assign (v := errV 106 y16.1) rfl) <| w_done <| w_seq <| w_region rfl <| w_d rfl (d_move (v := .pointer (some ⟨b5, 0, none⟩)) rfl) ?_
 obtain ⟨y23, hy24, he⟩ := Option.bind_eq_some_iff.1 he
 refine w_d rfl (call_d (o_call co17 (vs := [.pointer (some ⟨b5, 0, none⟩), .int .i64 1]) rfl (count_Counts_Of.calls k (c_ := y16.2) hy24 (lies_own .here)))) <| w_d rfl (d_move (v := .tuple ⟨[.int .i64 y23.1, errV 106 y23.2]⟩) rfl) <| w_d rfl (d_ext (vs := [.int .i64 y23.1, errV 106 y23.2]) rfl rfl) <| w_d rfl (d_ext (vs := [.int .i64 y23.1, errV 106 y23.2]) rfl rfl) <| w_d rfl (d_assign (v := .int .i64 y23.1) rfl) <| w_d rfl (d_assign (v := errV 106 y23.2) rfl) <| w_done <| w_seq <| w_region rfl <| w_d rfl (d_move (v := .pointer (some ⟨b5, 0, none⟩)) rfl) <| w_pull (.there .here) <| w_pull (.there .here) ?_
 obtain ⟨y27, hy28, he⟩ := Option.bind_eq_some_iff.1 he
 refine w_a rfl (o_call co18 (vs := [.pointer (some ⟨b5, 0, none⟩), .string str_2]) rfl (count_Counts_Named.calls k (c_ := y16.2) hy28 h22)) ?_
 rintro _ H29 _ ⟨_, rfl, e30, ⟨v31, i32, rfl, rfl, h33⟩⟩
 refine w_it (L' := some (b5, .cells ⟨[.int .i64 y27.2.2.f_l.e0.f_v, .int .i64 y27.2.2.f_l.e1.f_v, .int .i64 y27.2.2.f_l.e2.f_v, .int .i64 y27.2.2.f_l.e3.f_v, .int .i64 y27.2.2.f_l.e4.f_v, .int .i64 y27.2.2.f_l.e5.f_v, .int .i64 y27.2.2.f_l.e6.f_v, .int .i64 y27.2.2.f_l.e7.f_v, .int .u32 y27.2.2.f_once.f_done.f_v, .int .i32 y27.2.2.f_once.f_m.f_mu.f_state, .int .u32 y27.2.2.f_once.f_m.f_mu.f_sema, v31]⟩ 129 (0, 0)) :: i32 :: none :: none :: L) rfl <| w_put (.there .here) <| w_put (.there .here) <| w_d rfl (d_move (v := .tuple ⟨[.int .i64 y27.1, errV 106 y27.2.1]⟩) rfl) <| w_d rfl (d_ext (vs := [.int .i64 y27.1, errV 106 y27.2.1]) rfl rfl) <| w_d rfl (d_ext (vs := [.int .i64 y27.1, errV 106 y27.2.1]) rfl rfl) <| w_d rfl (d_assign (v := .int .i64 y27.1) rfl) <| w_d rfl (d_assign (v := errV 106 y27.2.1) rfl) <| w_done <| w_seq <| w_region rfl <| w_d rfl (d_move (v := errV 106 y9.1) rfl) ?_
 refine w_d rfl (d_eqnil (e := y9.1) Tryd.underlying24 rfl) <| w_d rfl (d_move (v := .bool y9.1.isNone) rfl) <| w_g (g := y9.1.isNone) rfl rfl rfl wn_t (fun g34 => d_move (v := errV 106 y16.1) rfl) <| w_g (g := y9.1.isNone) rfl rfl rfl wn_t (fun g35 => d_eqnil (e := y16.1) Tryd.underlying24 (cvt g35)) <| w_d rfl (d_and' (b := y9.1.isNone) (p := y16.1.isNone) rfl rfl rfl) <| w_d rfl (d_move (v := .bool (y9.1.isNone && y16.1.isNone)) rfl) <| w_g (g := y9.1.isNone && y16.1.isNone) rfl rfl rfl wn_t (fun g36 => d_move (v := errV 106 y23.2) rfl) <| w_g (g := y9.1.isNone && y16.1.isNone) rfl rfl rfl wn_t (fun g37 => d_eqnil (e := y23.2) Tryd.underlying24 (cvt g37)) <| w_d rfl (d_and' (b := (y9.1.isNone && y16.1.isNone)) (p := y23.2.isNone) rfl rfl rfl) <| w_d rfl (d_move (v := .bool ((y9.1.isNone && y16.1.isNone) && y23.2.isNone)) rfl) <| w_g (g := (y9.1.isNone && y16.1.isNone) && y23.2.isNone) rfl rfl rfl wn_t (fun g38 => d_move (v := errV 106 y27.2.1) rfl) <| w_g (g := (y9.1.isNone && y16.1.isNone) && y23.2.isNone) rfl rfl rfl wn_t (fun g39 => d_eqnil (e := y27.2.1) Tryd.underlying24 (cvt g39)) ?_
 refine w_d rfl (d_and' (b := ((y9.1.isNone && y16.1.isNone) && y23.2.isNone)) (p := y27.2.1.isNone) rfl rfl rfl) <| w_d rfl (d_move (v := .bool (((y9.1.isNone && y16.1.isNone) && y23.2.isNone) && y27.2.1.isNone)) rfl) <| w_g (g := ((y9.1.isNone && y16.1.isNone) && y23.2.isNone) && y27.2.1.isNone) rfl rfl rfl wn_t (fun g40 => d_move (v := .int .i64 y23.1) rfl) <| w_g (g := ((y9.1.isNone && y16.1.isNone) && y23.2.isNone) && y27.2.1.isNone) rfl rfl rfl wn_t (fun g41 => d_eql (cvt g41) rfl) <| w_d rfl (d_and' (b := (((y9.1.isNone && y16.1.isNone) && y23.2.isNone) && y27.2.1.isNone)) (p := (decide (y23.1 = 2))) rfl rfl rfl) <| w_d rfl (d_move (v := .bool ((((y9.1.isNone && y16.1.isNone) && y23.2.isNone) && y27.2.1.isNone) && (decide (y23.1 = 2)))) rfl) <| w_g (g := (((y9.1.isNone && y16.1.isNone) && y23.2.isNone) && y27.2.1.isNone) && (decide (y23.1 = 2))) rfl rfl rfl wn_t (fun g42 => d_move (v := .int .i64 y27.1) rfl) <| w_g (g := (((y9.1.isNone && y16.1.isNone) && y23.2.isNone) && y27.2.1.isNone) && (decide (y23.1 = 2))) rfl rfl rfl wn_t (fun g43 => d_eql (cvt g43) rfl) <| w_d rfl (d_and' (b := ((((y9.1.isNone && y16.1.isNone) && y23.2.isNone) && y27.2.1.isNone) && (decide (y23.1 = 2)))) (p := (decide (y27.1 = 2))) rfl rfl rfl) <| w_d rfl (d_move (v := .bool (((((y9.1.isNone && y16.1.isNone) && y23.2.isNone) && y27.2.1.isNone) && (decide (y23.1 = 2))) && (decide (y27.1 = 2)))) rfl) ?_
 obtain ⟨y45, hy46, he⟩ := Option.bind_eq_some_iff.1 he
 refine w_g (g := ((((y9.1.isNone && y16.1.isNone) && y23.2.isNone) && y27.2.1.isNone) && (decide (y23.1 = 2))) && (decide (y27.1 = 2))) rfl rfl rfl wn_t (fun g44 => call_d (o_call co26 (vs := [.int .i64 5]) rfl (count_Name.calls k (gd_t g44 hy46)))) <| w_g (g := ((((y9.1.isNone && y16.1.isNone) && y23.2.isNone) && y27.2.1.isNone) && (decide (y23.1 = 2))) && (decide (y27.1 = 2))) rfl rfl rfl wn_t (fun g49 => d_eqs (cvt g49) rfl) <| w_d rfl (d_and' (b := (((((y9.1.isNone && y16.1.isNone) && y23.2.isNone) && y27.2.1.isNone) && (decide (y23.1 = 2))) && (decide (y27.1 = 2)))) (p := (decide (y45 = str_6))) rfl rfl rfl) <| w_d rfl (d_assign (v := .bool ((((((y9.1.isNone && y16.1.isNone) && y23.2.isNone) && y27.2.1.isNone) && (decide (y23.1 = 2))) && (decide (y27.1 = 2))) && (decide (y45 = str_6)))) rfl) <| w_done ?_
 obtain rfl := Option.some.inj he
 refine w_return fn_28 rs_28 (.tmp (v := .bool ((((((y9.1.isNone && y16.1.isNone) && y23.2.isNone) && y27.2.1.isNone) && (decide (y23.1 = 2))) && (decide (y27.1 = 2))) && (decide (y45 = str_6)))) rfl .nil) <| ⟨⟨[_, _], rfl⟩, hle.trans (((e4.trans e12).trans e19).trans e30), rfl⟩
/-! ### radome/radomelaw32.CountAll -/
noncomputable def radomelaw32_CountAll.C : Code := (Tryd.f6.body).getD .skip
def radomelaw32_CountAll.out (r : Bool) (H : Hp) (v : Value) : Prop := v = .bool r
abbrev radomelaw32_CountAll.R (H0 : Hp) (L : Items) (r : Bool) : Value → Hp → Items → Prop := fun v H' L' => (∃ p, L' = p ++ L) ∧ H0.le H' ∧ radomelaw32_CountAll.out r H' v
structure radomelaw32_CountAll.Hs where
 l0 : (List radomelaw32_Act) → Bool → Int → Int → Int → Int → Int → Int → Int → Int → Int → Int → Int → (List (ByteArray × Int)) → Int → Int → Int → Int → Int → Int → Int → Int → Int → Int → Int → (List (ByteArray × Int)) → Int → Option Bool
 l1 : Bool → Int → Int → Int → Int → Int → Int → Int → Int → Int → Int → Int → (List (ByteArray × Int)) → Int → Int → Int → Int → Int → Int → Int → Int → Int → Int → Int → (List (ByteArray × Int)) → Int → Option Bool
noncomputable def radomelaw32_CountAll.b0 (k : Nat) (h : radomelaw32_CountAll.Hs)  (l : List radomelaw32_Act) (t2 : Bool) (c_0 : Int) (c_1 : Int) (c_2 : Int) (c_3 : Int) (c_4 : Int) (c_5 : Int) (c_6 : Int) (c_7 : Int) (c_8 : Int) (c_9 : Int) (c_10 : Int) (c_11 : List (ByteArray × Int)) (d_0 : Int) (d_1 : Int) (d_2 : Int) (d_3 : Int) (d_4 : Int) (d_5 : Int) (d_6 : Int) (d_7 : Int) (d_8 : Int) (d_9 : Int) (d_10 : Int) (d_11 : List (ByteArray × Int)) (i : Int) : Option Bool := if ((decide (i < (l.length : Int))) && (decide (i < 60))) = true then (if (0 : Int) ≤ i ∧ i < (l.length : Int) then (if (0 : Int) ≤ i ∧ i < (l.length : Int) then ((count_Counts_Add.f k (⟨(⟨(⟨c_0⟩ : atomic_Int64), (⟨c_1⟩ : atomic_Int64), (⟨c_2⟩ : atomic_Int64), (⟨c_3⟩ : atomic_Int64), (⟨c_4⟩ : atomic_Int64), (⟨c_5⟩ : atomic_Int64), (⟨c_6⟩ : atomic_Int64), (⟨c_7⟩ : atomic_Int64)⟩ : T117), (⟨(⟨c_8⟩ : atomic_Bool), (⟨(⟨c_9, c_10⟩ : sync_Mutex)⟩ : sync_Mutex_124)⟩ : sync_Once), c_11⟩ : count_Counts) ((rd l i).f_Kind) ((rd l i).f_N)).bind fun y28 => if (0 : Int) ≤ w64 ((w64 ((min (l.length : Int) 60) - 1)) - i) ∧ w64 ((w64 ((min (l.length : Int) 60) - 1)) - i) < (l.length : Int) then (if (0 : Int) ≤ w64 ((w64 ((min (l.length : Int) 60) - 1)) - i) ∧ w64 ((w64 ((min (l.length : Int) 60) - 1)) - i) < (l.length : Int) then ((count_Counts_Add.f k (⟨(⟨(⟨d_0⟩ : atomic_Int64), (⟨d_1⟩ : atomic_Int64), (⟨d_2⟩ : atomic_Int64), (⟨d_3⟩ : atomic_Int64), (⟨d_4⟩ : atomic_Int64), (⟨d_5⟩ : atomic_Int64), (⟨d_6⟩ : atomic_Int64), (⟨d_7⟩ : atomic_Int64)⟩ : T117), (⟨(⟨d_8⟩ : atomic_Bool), (⟨(⟨d_9, d_10⟩ : sync_Mutex)⟩ : sync_Mutex_124)⟩ : sync_Once), d_11⟩ : count_Counts) ((rd l (w64 ((w64 ((min (l.length : Int) 60) - 1)) - i))).f_Kind) ((rd l (w64 ((w64 ((min (l.length : Int) 60) - 1)) - i))).f_N)).bind fun y43 => if ((y28.1.isSome && (!decide ((errN y28.1) = 1))) || (y43.1.isSome && (!decide ((errN y43.1) = 1)))) = true then (some (false)) else (h.l0 l t2 y28.2.f_l.e0.f_v y28.2.f_l.e1.f_v y28.2.f_l.e2.f_v y28.2.f_l.e3.f_v y28.2.f_l.e4.f_v y28.2.f_l.e5.f_v y28.2.f_l.e6.f_v y28.2.f_l.e7.f_v y28.2.f_once.f_done.f_v y28.2.f_once.f_m.f_mu.f_state y28.2.f_once.f_m.f_mu.f_sema y28.2.f_kinds y43.2.f_l.e0.f_v y43.2.f_l.e1.f_v y43.2.f_l.e2.f_v y43.2.f_l.e3.f_v y43.2.f_l.e4.f_v y43.2.f_l.e5.f_v y43.2.f_l.e6.f_v y43.2.f_l.e7.f_v y43.2.f_once.f_done.f_v y43.2.f_once.f_m.f_mu.f_state y43.2.f_once.f_m.f_mu.f_sema y43.2.f_kinds (w64 (i + 1)))) else none) else none) else none) else none) else (h.l1 t2 c_0 c_1 c_2 c_3 c_4 c_5 c_6 c_7 c_8 c_9 c_10 c_11 d_0 d_1 d_2 d_3 d_4 d_5 d_6 d_7 d_8 d_9 d_10 d_11 0)
noncomputable def radomelaw32_CountAll.b1 (k : Nat) (h : radomelaw32_CountAll.Hs)  (t2 : Bool) (c_0 : Int) (c_1 : Int) (c_2 : Int) (c_3 : Int) (c_4 : Int) (c_5 : Int) (c_6 : Int) (c_7 : Int) (c_8 : Int) (c_9 : Int) (c_10 : Int) (c_11 : List (ByteArray × Int)) (d_0 : Int) (d_1 : Int) (d_2 : Int) (d_3 : Int) (d_4 : Int) (d_5 : Int) (d_6 : Int) (d_7 : Int) (d_8 : Int) (d_9 : Int) (d_10 : Int) (d_11 : List (ByteArray × Int)) (k_ : Int) : Option Bool := if k_ < 8 then ((count_Name.f k k_).bind fun y62 => (count_Counts_Named.f k (⟨(⟨(⟨c_0⟩ : atomic_Int64), (⟨c_1⟩ : atomic_Int64), (⟨c_2⟩ : atomic_Int64), (⟨c_3⟩ : atomic_Int64), (⟨c_4⟩ : atomic_Int64), (⟨c_5⟩ : atomic_Int64), (⟨c_6⟩ : atomic_Int64), (⟨c_7⟩ : atomic_Int64)⟩ : T117), (⟨(⟨c_8⟩ : atomic_Bool), (⟨(⟨c_9, c_10⟩ : sync_Mutex)⟩ : sync_Mutex_124)⟩ : sync_Once), c_11⟩ : count_Counts) y62).bind fun y66 => (count_Counts_Of.f k y66.2.2 k_).bind fun y73 => (gd (!((y66.2.1.isSome || y73.2.isSome) || (!decide (y66.1 = y73.1)))) (count_Name.f k k_) (ByteArray.empty)).bind fun y84 => if (((y66.2.1.isSome || y73.2.isSome) || (!decide (y66.1 = y73.1))) || (decide (y84 = str_0))) = true then (some (false)) else (h.l1 t2 y66.2.2.f_l.e0.f_v y66.2.2.f_l.e1.f_v y66.2.2.f_l.e2.f_v y66.2.2.f_l.e3.f_v y66.2.2.f_l.e4.f_v y66.2.2.f_l.e5.f_v y66.2.2.f_l.e6.f_v y66.2.2.f_l.e7.f_v y66.2.2.f_once.f_done.f_v y66.2.2.f_once.f_m.f_mu.f_state y66.2.2.f_once.f_m.f_mu.f_sema y66.2.2.f_kinds d_0 d_1 d_2 d_3 d_4 d_5 d_6 d_7 d_8 d_9 d_10 d_11 (w64 (k_ + 1)))) else ((count_Counts_All.f k (⟨(⟨(⟨c_0⟩ : atomic_Int64), (⟨c_1⟩ : atomic_Int64), (⟨c_2⟩ : atomic_Int64), (⟨c_3⟩ : atomic_Int64), (⟨c_4⟩ : atomic_Int64), (⟨c_5⟩ : atomic_Int64), (⟨c_6⟩ : atomic_Int64), (⟨c_7⟩ : atomic_Int64)⟩ : T117), (⟨(⟨c_8⟩ : atomic_Bool), (⟨(⟨c_9, c_10⟩ : sync_Mutex)⟩ : sync_Mutex_124)⟩ : sync_Once), c_11⟩ : count_Counts)).bind fun y90 => (count_Counts_All.f k (⟨(⟨(⟨d_0⟩ : atomic_Int64), (⟨d_1⟩ : atomic_Int64), (⟨d_2⟩ : atomic_Int64), (⟨d_3⟩ : atomic_Int64), (⟨d_4⟩ : atomic_Int64), (⟨d_5⟩ : atomic_Int64), (⟨d_6⟩ : atomic_Int64), (⟨d_7⟩ : atomic_Int64)⟩ : T117), (⟨(⟨d_8⟩ : atomic_Bool), (⟨(⟨d_9, d_10⟩ : sync_Mutex)⟩ : sync_Mutex_124)⟩ : sync_Once), d_11⟩ : count_Counts)).bind fun y96 => (radomelaw32_nums.f k y90 y96).bind fun y102 => (gd y102 (count_Counts_All.f k (⟨(⟨(⟨c_0⟩ : atomic_Int64), (⟨c_1⟩ : atomic_Int64), (⟨c_2⟩ : atomic_Int64), (⟨c_3⟩ : atomic_Int64), (⟨c_4⟩ : atomic_Int64), (⟨c_5⟩ : atomic_Int64), (⟨c_6⟩ : atomic_Int64), (⟨c_7⟩ : atomic_Int64)⟩ : T117), (⟨(⟨c_8⟩ : atomic_Bool), (⟨(⟨c_9, c_10⟩ : sync_Mutex)⟩ : sync_Mutex_124)⟩ : sync_Once), c_11⟩ : count_Counts)) ([])).bind fun y108 => (gd (y102 && (decide ((y108.length : Int) = 8))) (radomelaw32_sure.f k) (false)).bind fun y118 => some ((y102 && (decide ((y108.length : Int) = 8))) && y118))
noncomputable def radomelaw32_CountAll.hs : Nat → radomelaw32_CountAll.Hs
 | 0 => ⟨fun _ _ _ _ _ _ _ _ _ _ _ _ _ _ _ _ _ _ _ _ _ _ _ _ _ _ _ => none, fun _ _ _ _ _ _ _ _ _ _ _ _ _ _ _ _ _ _ _ _ _ _ _ _ _ _ => none⟩
 | k + 1 => ⟨fun x0 x1 x2 x3 x4 x5 x6 x7 x8 x9 x10 x11 x12 x13 x14 x15 x16 x17 x18 x19 x20 x21 x22 x23 x24 x25 x26 => radomelaw32_CountAll.b0 k (radomelaw32_CountAll.hs k) x0 x1 x2 x3 x4 x5 x6 x7 x8 x9 x10 x11 x12 x13 x14 x15 x16 x17 x18 x19 x20 x21 x22 x23 x24 x25 x26, fun x0 x1 x2 x3 x4 x5 x6 x7 x8 x9 x10 x11 x12 x13 x14 x15 x16 x17 x18 x19 x20 x21 x22 x23 x24 x25 => radomelaw32_CountAll.b1 k (radomelaw32_CountAll.hs k) x0 x1 x2 x3 x4 x5 x6 x7 x8 x9 x10 x11 x12 x13 x14 x15 x16 x17 x18 x19 x20 x21 x22 x23 x24 x25⟩
noncomputable def radomelaw32_CountAll.f (k : Nat) (l : List radomelaw32_Act) : Option Bool := (fun h : radomelaw32_CountAll.Hs => (count_New.f k ).bind fun y1 => (count_New.f k ).bind fun y9 => h.l0 l false y1.f_l.e0.f_v y1.f_l.e1.f_v y1.f_l.e2.f_v y1.f_l.e3.f_v y1.f_l.e4.f_v y1.f_l.e5.f_v y1.f_l.e6.f_v y1.f_l.e7.f_v y1.f_once.f_done.f_v y1.f_once.f_m.f_mu.f_state y1.f_once.f_m.f_mu.f_sema y1.f_kinds y9.f_l.e0.f_v y9.f_l.e1.f_v y9.f_l.e2.f_v y9.f_l.e3.f_v y9.f_l.e4.f_v y9.f_l.e5.f_v y9.f_l.e6.f_v y9.f_l.e7.f_v y9.f_once.f_done.f_v y9.f_once.f_m.f_mu.f_state y9.f_once.f_m.f_mu.f_sema y9.f_kinds 0) (radomelaw32_CountAll.hs k)
structure radomelaw32_CountAll.LE (h h' : radomelaw32_CountAll.Hs) : Prop where
 l0 : ∀ y0 y1 y2 y3 y4 y5 y6 y7 y8 y9 y10 y11 y12 y13 y14 y15 y16 y17 y18 y19 y20 y21 y22 y23 y24 y25 y26, LeO (h.l0 y0 y1 y2 y3 y4 y5 y6 y7 y8 y9 y10 y11 y12 y13 y14 y15 y16 y17 y18 y19 y20 y21 y22 y23 y24 y25 y26) (h'.l0 y0 y1 y2 y3 y4 y5 y6 y7 y8 y9 y10 y11 y12 y13 y14 y15 y16 y17 y18 y19 y20 y21 y22 y23 y24 y25 y26)
 l1 : ∀ y0 y1 y2 y3 y4 y5 y6 y7 y8 y9 y10 y11 y12 y13 y14 y15 y16 y17 y18 y19 y20 y21 y22 y23 y24 y25, LeO (h.l1 y0 y1 y2 y3 y4 y5 y6 y7 y8 y9 y10 y11 y12 y13 y14 y15 y16 y17 y18 y19 y20 y21 y22 y23 y24 y25) (h'.l1 y0 y1 y2 y3 y4 y5 y6 y7 y8 y9 y10 y11 y12 y13 y14 y15 y16 y17 y18 y19 y20 y21 y22 y23 y24 y25)
theorem radomelaw32_CountAll.b0_mono {k : Nat} {h h' : radomelaw32_CountAll.Hs} (hl : radomelaw32_CountAll.LE h h') : ∀ y0 y1 y2 y3 y4 y5 y6 y7 y8 y9 y10 y11 y12 y13 y14 y15 y16 y17 y18 y19 y20 y21 y22 y23 y24 y25 y26, LeO (radomelaw32_CountAll.b0 k h y0 y1 y2 y3 y4 y5 y6 y7 y8 y9 y10 y11 y12 y13 y14 y15 y16 y17 y18 y19 y20 y21 y22 y23 y24 y25 y26) (radomelaw32_CountAll.b0 (k + 1) h' y0 y1 y2 y3 y4 y5 y6 y7 y8 y9 y10 y11 y12 y13 y14 y15 y16 y17 y18 y19 y20 y21 y22 y23 y24 y25 y26) := fun _ _ _ _ _ _ _ _ _ _ _ _ _ _ _ _ _ _ _ _ _ _ _ _ _ _ _ => (LeO.ite (LeO.ite (LeO.ite (LeO.bind (count_Counts_Add.mono k _ _ _) fun _ => LeO.ite (LeO.ite (LeO.bind (count_Counts_Add.mono k _ _ _) fun _ => LeO.ite (LeO.refl _) (hl.l0 _ _ _ _ _ _ _ _ _ _ _ _ _ _ _ _ _ _ _ _ _ _ _ _ _ _ _)) (LeO.refl _)) (LeO.refl _)) (LeO.refl _)) (LeO.refl _)) (hl.l1 _ _ _ _ _ _ _ _ _ _ _ _ _ _ _ _ _ _ _ _ _ _ _ _ _ _))
theorem radomelaw32_CountAll.b1_mono {k : Nat} {h h' : radomelaw32_CountAll.Hs} (hl : radomelaw32_CountAll.LE h h') : ∀ y0 y1 y2 y3 y4 y5 y6 y7 y8 y9 y10 y11 y12 y13 y14 y15 y16 y17 y18 y19 y20 y21 y22 y23 y24 y25, LeO (radomelaw32_CountAll.b1 k h y0 y1 y2 y3 y4 y5 y6 y7 y8 y9 y10 y11 y12 y13 y14 y15 y16 y17 y18 y19 y20 y21 y22 y23 y24 y25) (radomelaw32_CountAll.b1 (k + 1) h' y0 y1 y2 y3 y4 y5 y6 y7 y8 y9 y10 y11 y12 y13 y14 y15 y16 y17 y18 y19 y20 y21 y22 y23 y24 y25) := fun _ _ _ _ _ _ _ _ _ _ _ _ _ _ _ _ _ _ _ _ _ _ _ _ _ _ => (LeO.ite (LeO.bind (count_Name.mono k _) fun _ => LeO.bind (count_Counts_Named.mono k _ _) fun _ => LeO.bind (count_Counts_Of.mono k _ _) fun _ => LeO.bind (LeO.gd (count_Name.mono k _)) fun _ => LeO.ite (LeO.refl _) (hl.l1 _ _ _ _ _ _ _ _ _ _ _ _ _ _ _ _ _ _ _ _ _ _ _ _ _ _)) (LeO.bind (count_Counts_All.mono k _) fun _ => LeO.bind (count_Counts_All.mono k _) fun _ => LeO.bind (radomelaw32_nums.mono k _ _) fun _ => LeO.bind (LeO.gd (count_Counts_All.mono k _)) fun _ => LeO.bind (LeO.gd (radomelaw32_sure.mono k)) fun _ => LeO.refl _))
theorem radomelaw32_CountAll.hs_mono : ∀ k, radomelaw32_CountAll.LE (radomelaw32_CountAll.hs k) (radomelaw32_CountAll.hs (k + 1))
 | 0 => ⟨fun _ _ _ _ _ _ _ _ _ _ _ _ _ _ _ _ _ _ _ _ _ _ _ _ _ _ _ => LeO.none _, fun _ _ _ _ _ _ _ _ _ _ _ _ _ _ _ _ _ _ _ _ _ _ _ _ _ _ => LeO.none _⟩
 | k + 1 => ⟨radomelaw32_CountAll.b0_mono (k := k) (radomelaw32_CountAll.hs_mono k), radomelaw32_CountAll.b1_mono (k := k) (radomelaw32_CountAll.hs_mono k)⟩
theorem radomelaw32_CountAll.mono : ∀ k y0, LeO (radomelaw32_CountAll.f k y0) (radomelaw32_CountAll.f (k + 1) y0) := fun k _ => have hl := radomelaw32_CountAll.hs_mono k; by unfold radomelaw32_CountAll.f; exact (LeO.bind (count_New.mono k) fun _ => LeO.bind (count_New.mono k) fun _ => hl.l0 _ _ _ _ _ _ _ _ _ _ _ _ _ _ _ _ _ _ _ _ _ _ _ _ _ _ _)
noncomputable def radomelaw32_CountAll.Kl0 : List Item := .code (lopB (blkB (seqR (seqL (seqR (seqR (seqR radomelaw32_CountAll.C))))))) :: .inLoop (lopB (blkB (seqR (seqL (seqR (seqR (seqR radomelaw32_CountAll.C))))))) :: .inBlock 0 :: .code (seqR (seqR (seqR (seqR radomelaw32_CountAll.C)))) :: []
noncomputable def radomelaw32_CountAll.Kl1 : List Item := .code (lopB (blkB (seqR (seqL (seqR (seqR (seqR (seqR radomelaw32_CountAll.C)))))))) :: .inLoop (lopB (blkB (seqR (seqL (seqR (seqR (seqR (seqR radomelaw32_CountAll.C)))))))) :: .inBlock 2 :: .code (seqR (seqR (seqR (seqR (seqR radomelaw32_CountAll.C))))) :: []
structure radomelaw32_CountAll.OK (h : radomelaw32_CountAll.Hs) : Prop where
 l0 : ∀ {H0 H : Hp} {L : Items} {r : Bool} {jk_ : Nat → Value} {l : List radomelaw32_Act} {t2 : Bool} {c_0 : Int} {c_1 : Int} {c_2 : Int} {c_3 : Int} {c_4 : Int} {c_5 : Int} {c_6 : Int} {c_7 : Int} {c_8 : Int} {c_9 : Int} {c_10 : Int} {c_11 : List (ByteArray × Int)} {d_0 : Int} {d_1 : Int} {d_2 : Int} {d_3 : Int} {d_4 : Int} {d_5 : Int} {d_6 : Int} {d_7 : Int} {d_8 : Int} {d_9 : Int} {d_10 : Int} {d_11 : List (ByteArray × Int)} {i : Int} {v_l : Value} {v_c_11 : Value} {v_d_11 : Value} {i_c_11 : Item'} {i_d_11 : Item'} {b_c_ : Nat} {b_d : Nat} (_ : H0.le H) (_ : GH H) (_he : h.l0 l t2 c_0 c_1 c_2 c_3 c_4 c_5 c_6 c_7 c_8 c_9 c_10 c_11 d_0 d_1 d_2 d_3 d_4 d_5 d_6 d_7 d_8 d_9 d_10 d_11 i = some r) (_h_l : Ro k_radomelaw32_Act H v_l l) (_h_c_11 : MpN (mkStr (fun b => .int .i64 b)) H 127 i_c_11 v_c_11 c_11) (_h_d_11 : MpN (mkStr (fun b => .int .i64 b)) H 127 i_d_11 v_d_11 d_11), Wp Tryd.prog 6 128 radomelaw32_CountAll.Kl0 (upd (upd (upd (upd (upd jk_ 0 (v_l)) 2 (.bool t2)) 3 (.pointer (some ⟨b_c_, 0, none⟩))) 4 (.pointer (some ⟨b_d, 0, none⟩))) 5 (.int .i64 i)) H (some (b_d, .cells ⟨[.int .i64 d_0, .int .i64 d_1, .int .i64 d_2, .int .i64 d_3, .int .i64 d_4, .int .i64 d_5, .int .i64 d_6, .int .i64 d_7, .int .u32 d_8, .int .i32 d_9, .int .u32 d_10, v_d_11]⟩ 129 (0, 0)) :: i_d_11 :: some (b_c_, .cells ⟨[.int .i64 c_0, .int .i64 c_1, .int .i64 c_2, .int .i64 c_3, .int .i64 c_4, .int .i64 c_5, .int .i64 c_6, .int .i64 c_7, .int .u32 c_8, .int .i32 c_9, .int .u32 c_10, v_c_11]⟩ 129 (0, 0)) :: i_c_11 :: L) (radomelaw32_CountAll.R H0 L r)
 l1 : ∀ {H0 H : Hp} {L : Items} {r : Bool} {jk_ : Nat → Value} {t2 : Bool} {c_0 : Int} {c_1 : Int} {c_2 : Int} {c_3 : Int} {c_4 : Int} {c_5 : Int} {c_6 : Int} {c_7 : Int} {c_8 : Int} {c_9 : Int} {c_10 : Int} {c_11 : List (ByteArray × Int)} {d_0 : Int} {d_1 : Int} {d_2 : Int} {d_3 : Int} {d_4 : Int} {d_5 : Int} {d_6 : Int} {d_7 : Int} {d_8 : Int} {d_9 : Int} {d_10 : Int} {d_11 : List (ByteArray × Int)} {k_ : Int} {v_c_11 : Value} {v_d_11 : Value} {i_c_11 : Item'} {i_d_11 : Item'} {b_c_ : Nat} {b_d : Nat} (_ : H0.le H) (_ : GH H) (_he : h.l1 t2 c_0 c_1 c_2 c_3 c_4 c_5 c_6 c_7 c_8 c_9 c_10 c_11 d_0 d_1 d_2 d_3 d_4 d_5 d_6 d_7 d_8 d_9 d_10 d_11 k_ = some r) (_h_c_11 : MpN (mkStr (fun b => .int .i64 b)) H 127 i_c_11 v_c_11 c_11) (_h_d_11 : MpN (mkStr (fun b => .int .i64 b)) H 127 i_d_11 v_d_11 d_11), Wp Tryd.prog 6 128 radomelaw32_CountAll.Kl1 (upd (upd (upd (upd jk_ 2 (.bool t2)) 3 (.pointer (some ⟨b_c_, 0, none⟩))) 4 (.pointer (some ⟨b_d, 0, none⟩))) 9 (.int .i64 k_)) H (some (b_d, .cells ⟨[.int .i64 d_0, .int .i64 d_1, .int .i64 d_2, .int .i64 d_3, .int .i64 d_4, .int .i64 d_5, .int .i64 d_6, .int .i64 d_7, .int .u32 d_8, .int .i32 d_9, .int .u32 d_10, v_d_11]⟩ 129 (0, 0)) :: i_d_11 :: some (b_c_, .cells ⟨[.int .i64 c_0, .int .i64 c_1, .int .i64 c_2, .int .i64 c_3, .int .i64 c_4, .int .i64 c_5, .int .i64 c_6, .int .i64 c_7, .int .u32 c_8, .int .i32 c_9, .int .u32 c_10, v_c_11]⟩ 129 (0, 0)) :: i_c_11 :: L) (radomelaw32_CountAll.R H0 L r)
theorem radomelaw32_CountAll.b0_ok {k : Nat} {h : radomelaw32_CountAll.Hs} (hh : radomelaw32_CountAll.OK h) {H0 H : Hp} {L : Items} {r : Bool} {jk_ : Nat → Value} {l : List radomelaw32_Act} {t2 : Bool} {c_0 : Int} {c_1 : Int} {c_2 : Int} {c_3 : Int} {c_4 : Int} {c_5 : Int} {c_6 : Int} {c_7 : Int} {c_8 : Int} {c_9 : Int} {c_10 : Int} {c_11 : List (ByteArray × Int)} {d_0 : Int} {d_1 : Int} {d_2 : Int} {d_3 : Int} {d_4 : Int} {d_5 : Int} {d_6 : Int} {d_7 : Int} {d_8 : Int} {d_9 : Int} {d_10 : Int} {d_11 : List (ByteArray × Int)} {i : Int} {v_l : Value} {v_c_11 : Value} {v_d_11 : Value} {i_c_11 : Item'} {i_d_11 : Item'} {b_c_ : Nat} {b_d : Nat} (hle : H0.le H) (hG : GH H) (he : radomelaw32_CountAll.b0 k h l t2 c_0 c_1 c_2 c_3 c_4 c_5 c_6 c_7 c_8 c_9 c_10 c_11 d_0 d_1 d_2 d_3 d_4 d_5 d_6 d_7 d_8 d_9 d_10 d_11 i = some r) (h_l : Ro k_radomelaw32_Act H v_l l) (h_c_11 : MpN (mkStr (fun b => .int .i64 b)) H 127 i_c_11 v_c_11 c_11) (h_d_11 : MpN (mkStr (fun b => .int .i64 b)) H 127 i_d_11 v_d_11 d_11) : Wp Tryd.prog 6 128 radomelaw32_CountAll.Kl0 (upd (upd (upd (upd (upd jk_ 0 (v_l)) 2 (.bool t2)) 3 (.pointer (some ⟨b_c_, 0, none⟩))) 4 (.pointer (some ⟨b_d, 0, none⟩))) 5 (.int .i64 i)) H (some (b_d, .cells ⟨[.int .i64 d_0, .int .i64 d_1, .int .i64 d_2, .int .i64 d_3, .int .i64 d_4, .int .i64 d_5, .int .i64 d_6, .int .i64 d_7, .int .u32 d_8, .int .i32 d_9, .int .u32 d_10, v_d_11]⟩ 129 (0, 0)) :: i_d_11 :: some (b_c_, .cells ⟨[.int .i64 c_0, .int .i64 c_1, .int .i64 c_2, .int .i64 c_3, .int .i64 c_4, .int .i64 c_5, .int .i64 c_6, .int .i64 c_7, .int .u32 c_8, .int .i32 c_9, .int .u32 c_10, v_c_11]⟩ 129 (0, 0)) :: i_c_11 :: L) (radomelaw32_CountAll.R H0 L r) := by
 unfold radomelaw32_CountAll.b0 at he
 unfold radomelaw32_CountAll.Kl0
 refine w_seq <| w_seq <| w_region rfl <| w_d rfl (d_move (v := .int .i64 i) rfl) <| w_d rfl (d_move (v := v_l) rfl) <| w_d rfl (d_len Tryd.underlying38 rfl h_l.src) <| w_d rfl (d_lss rfl rfl) <| w_d rfl (d_move (v := .bool (decide (i < (l.length : Int)))) rfl) <| w_g (g := decide (i < (l.length : Int))) rfl rfl rfl wn_t (fun g19 => d_move (v := .int .i64 i) rfl) <| w_g (g := decide (i < (l.length : Int))) rfl rfl rfl wn_t (fun g20 => d_lss (cvt g20) rfl) <| w_d rfl (d_and' (b := (decide (i < (l.length : Int)))) (p := (decide (i < 60))) rfl rfl rfl) <| w_done ?_
 rcases its he with ⟨c21, he⟩ | ⟨c21, he⟩
 ·
  refine w_then rfl c21 <| w_skip <| w_seq <| w_block <| w_seq <| w_region rfl <| w_d rfl (d_move (v := v_l) rfl) <| w_d rfl (d_len Tryd.underlying38 rfl h_l.src) <| w_d rfl (d_min rfl rfl) <| w_d rfl (d_assign (v := .int .i64 (min (l.length : Int) 60)) rfl) <| w_done <| w_seq ?_
  obtain ⟨c22, he⟩ := rq he
  obtain ⟨_, l23, r24⟩ := el_ro (kd := k_radomelaw32_Act) h_l c22
  obtain ⟨rfl⟩ := k_radomelaw32_Act_out r24
  obtain ⟨c25, he⟩ := rq he
  obtain ⟨_, l26, r27⟩ := el_ro (kd := k_radomelaw32_Act) h_l c25
  obtain ⟨rfl⟩ := k_radomelaw32_Act_out r27
  obtain ⟨y28, hy29, he⟩ := Option.bind_eq_some_iff.1 he
  obtain ⟨c35, he⟩ := rq he
  obtain ⟨_, l36, r37⟩ := el_ro (kd := k_radomelaw32_Act) h_l c35
  obtain ⟨rfl⟩ := k_radomelaw32_Act_out r37
  obtain ⟨c38, he⟩ := rq he
  obtain ⟨_, l39, r40⟩ := el_ro (kd := k_radomelaw32_Act) h_l c38
  obtain ⟨rfl⟩ := k_radomelaw32_Act_out r40
  refine w_chain (p := 29) (tl := [29, 30, 31]) [11] (some (b_d, .cells ⟨[.int .i64 d_0, .int .i64 d_1, .int .i64 d_2, .int .i64 d_3, .int .i64 d_4, .int .i64 d_5, .int .i64 d_6, .int .i64 d_7, .int .u32 d_8, .int .i32 d_9, .int .u32 d_10, v_d_11]⟩ 129 (0, 0)) :: i_d_11 :: some (b_c_, .cells ⟨[.int .i64 c_0, .int .i64 c_1, .int .i64 c_2, .int .i64 c_3, .int .i64 c_4, .int .i64 c_5, .int .i64 c_6, .int .i64 c_7, .int .u32 c_8, .int .i32 c_9, .int .u32 c_10, v_c_11]⟩ 129 (0, 0)) :: i_c_11 :: L) [[], [], [], [(1, some 36), (2, some 37)], [(3, some 38)], [(4, some 39)], [], [], [(6, some 41), (7, some 42)], [(8, some 43)], [(9, some 44)], [(0, some 35), (5, some 40), (10, some 45)], [], [], [], [(14, some 49)], [], [(15, some 50), (16, some 51)], [(13, some 48), (17, some 52)], [(18, some 53)], [(19, some 54)], [], [], [(22, some 57)], [], [(23, some 58), (24, some 59)], [(21, some 56), (25, some 60)], [(26, some 61)], [(27, some 62)]] [some 35, some 36, some 37, some 38, some 39, some 40, some 41, some 42, some 43, some 44, some 45, some 46, some 47, some 48, some 49, some 50, some 51, some 52, some 53, some 54, some 55, some 56, some 57, some 58, some 59, some 60, some 61, some 62, some 63] (Fc.is (.pointer (some ⟨b_c_, 0, none⟩)) :: Fc.is (v_l) :: Fc.is (.int .i64 i) :: Fc.is (.pointer (some (pel v_l i 2))) :: Fc.is (.pointer (some (pel v_l i 2))) :: Fc.is (.int .i64 ((rd l i).f_Kind)) :: Fc.is (v_l) :: Fc.is (.int .i64 i) :: Fc.is (.pointer (some (pel v_l i 2))) :: Fc.is (.pointer (some ((pel v_l i 2).add 1))) :: Fc.is (.int .i64 ((rd l i).f_N)) :: Fc.ch (fun H v l_ => ∃ v32 : Value, ∃ i33 : Item', v = errV 106 y28.1 ∧ l_ = some (b_c_, .cells ⟨[.int .i64 y28.2.f_l.e0.f_v, .int .i64 y28.2.f_l.e1.f_v, .int .i64 y28.2.f_l.e2.f_v, .int .i64 y28.2.f_l.e3.f_v, .int .i64 y28.2.f_l.e4.f_v, .int .i64 y28.2.f_l.e5.f_v, .int .i64 y28.2.f_l.e6.f_v, .int .i64 y28.2.f_l.e7.f_v, .int .u32 y28.2.f_once.f_done.f_v, .int .i32 y28.2.f_once.f_m.f_mu.f_state, .int .u32 y28.2.f_once.f_m.f_mu.f_sema, v32]⟩ 129 (0, 0)) :: i33 :: some (b_d, .cells ⟨[.int .i64 d_0, .int .i64 d_1, .int .i64 d_2, .int .i64 d_3, .int .i64 d_4, .int .i64 d_5, .int .i64 d_6, .int .i64 d_7, .int .u32 d_8, .int .i32 d_9, .int .u32 d_10, v_d_11]⟩ 129 (0, 0)) :: i_d_11 :: none :: none :: L ∧ MpN (mkStr (fun b => .int .i64 b)) H 127 i33 v32 y28.2.f_kinds) (by rintro _ _ _ _ hle ⟨v32, i33, rfl, rfl, h34⟩; exact ⟨v32, i33, rfl, rfl, h34.mono hle⟩) :: Fc.is (.pointer (some ⟨b_d, 0, none⟩)) :: Fc.is (v_l) :: Fc.is (.int .i64 (min (l.length : Int) 60)) :: Fc.is (.int .i64 (w64 ((min (l.length : Int) 60) - 1))) :: Fc.is (.int .i64 i) :: Fc.is (.int .i64 (w64 ((w64 ((min (l.length : Int) 60) - 1)) - i))) :: Fc.is (.pointer (some (pel v_l (w64 ((w64 ((min (l.length : Int) 60) - 1)) - i)) 2))) :: Fc.is (.pointer (some (pel v_l (w64 ((w64 ((min (l.length : Int) 60) - 1)) - i)) 2))) :: Fc.is (.int .i64 ((rd l (w64 ((w64 ((min (l.length : Int) 60) - 1)) - i))).f_Kind)) :: Fc.is (v_l) :: Fc.is (.int .i64 (min (l.length : Int) 60)) :: Fc.is (.int .i64 (w64 ((min (l.length : Int) 60) - 1))) :: Fc.is (.int .i64 i) :: Fc.is (.int .i64 (w64 ((w64 ((min (l.length : Int) 60) - 1)) - i))) :: Fc.is (.pointer (some (pel v_l (w64 ((w64 ((min (l.length : Int) 60) - 1)) - i)) 2))) :: Fc.is (.pointer (some ((pel v_l (w64 ((w64 ((min (l.length : Int) 60) - 1)) - i)) 2).add 1))) :: Fc.is (.int .i64 ((rd l (w64 ((w64 ((min (l.length : Int) 60) - 1)) - i))).f_N)) :: []) mixed (by kernel_rfl) (by kernel_rfl) rfl ⟨(by intro H' m_ hH hm_ hu_ hX_; refine depK_nil ?_; exact c_d hm_ rfl (d_move (v := .pointer (some ⟨b_c_, 0, none⟩)) rfl) (by exact ⟨rfl, rfl⟩)), (by intro H' m_ hH hm_ hu_ hX_; refine depK_nil ?_; exact c_d hm_ rfl (d_move (v := v_l) rfl) (by exact ⟨rfl, rfl⟩)), (by intro H' m_ hH hm_ hu_ hX_; refine depK_nil ?_; exact c_d hm_ rfl (d_move (v := .int .i64 i) rfl) (by exact ⟨rfl, rfl⟩)), (by intro H' m_ hH hm_ hu_ hX_; rintro _ ⟨rfl, _⟩ _ ⟨rfl, _⟩; refine depK_nil ?_; exact c_d hm_ rfl (d_index (sz := 2) Tryd.underlying38 sz48 rfl (h_l.mono hH).src rfl c22) (by exact ⟨rfl, rfl⟩)), (by intro H' m_ hH hm_ hu_ hX_; rintro _ ⟨rfl, _⟩; refine depK_nil ?_; exact c_d hm_ rfl (d_fieldAddr Tryd.underlying48 rfl sz3 rfl rfl) (by exact ⟨rfl, rfl⟩)), (by intro H' m_ hH hm_ hu_ hX_; rintro _ ⟨rfl, _⟩; refine depK_nil ?_; exact c_d hm_ rfl (d_load (v := .int .i64 ((rd l i).f_Kind)) (cs := [.int .i64 ((rd l i).f_Kind)]) ty3 rfl rfl (by decide) (((l23.mono hH).lies).part 0 1) rfl) (by exact ⟨rfl, rfl⟩)), (by intro H' m_ hH hm_ hu_ hX_; refine depK_nil ?_; exact c_d hm_ rfl (d_move (v := v_l) rfl) (by exact ⟨rfl, rfl⟩)), (by intro H' m_ hH hm_ hu_ hX_; refine depK_nil ?_; exact c_d hm_ rfl (d_move (v := .int .i64 i) rfl) (by exact ⟨rfl, rfl⟩)), (by intro H' m_ hH hm_ hu_ hX_; rintro _ ⟨rfl, _⟩ _ ⟨rfl, _⟩; refine depK_nil ?_; exact c_d hm_ rfl (d_index (sz := 2) Tryd.underlying38 sz48 rfl (h_l.mono hH).src rfl c25) (by exact ⟨rfl, rfl⟩)), (by intro H' m_ hH hm_ hu_ hX_; rintro _ ⟨rfl, _⟩; refine depK_nil ?_; exact c_d hm_ rfl (d_fieldAddr Tryd.underlying48 rfl sz2 rfl rfl) (by exact ⟨rfl, rfl⟩)), (by intro H' m_ hH hm_ hu_ hX_; rintro _ ⟨rfl, _⟩; refine depK_nil ?_; exact c_d hm_ rfl (d_load (v := .int .i64 ((rd l i).f_N)) (cs := [.int .i64 ((rd l i).f_N)]) ty2 rfl rfl (by decide) (((l26.mono hH).lies).part 1 1) rfl) (by exact ⟨rfl, rfl⟩)), (by intro H' m_ hH hm_ hu_ hX_; rintro _ ⟨rfl, _⟩ _ ⟨rfl, _⟩ _ ⟨rfl, _⟩; refine depK_nil ?_; have n_11 := hm_; exact c_w rfl (fun l_ => by exact chL_w (pre := []) (c := 11) (post := []) (by decide) trivial) (o_call co20 (vs := [.pointer (some ⟨b_c_, 0, none⟩), .int .i64 ((rd l i).f_Kind), .int .i64 ((rd l i).f_N)]) rfl (ct_pull (.there (.there (.there .here))) (ct_pull (.there (.there (.there .here))) (count_Counts_Add.calls k (c_ := ⟨⟨⟨c_0⟩, ⟨c_1⟩, ⟨c_2⟩, ⟨c_3⟩, ⟨c_4⟩, ⟨c_5⟩, ⟨c_6⟩, ⟨c_7⟩⟩, ⟨⟨c_8⟩, ⟨⟨c_9, c_10⟩⟩⟩, c_11⟩) hy29 (h_c_11.mono hH))))) (by exact chL_none ⟨n_11, trivial⟩) (by rintro _ H30 _ ⟨_, rfl, e31, ⟨v32, i33, rfl, rfl, h34⟩⟩; exact ⟨e31, _, rfl, v32, i33, rfl, rfl, h34⟩)), (by intro H' m_ hH hm_ hu_ hX_; refine depK_nil ?_; exact c_d hm_ rfl (d_move (v := .pointer (some ⟨b_d, 0, none⟩)) rfl) (by exact ⟨rfl, rfl⟩)), (by intro H' m_ hH hm_ hu_ hX_; refine depK_nil ?_; exact c_d hm_ rfl (d_move (v := v_l) rfl) (by exact ⟨rfl, rfl⟩)), (by intro H' m_ hH hm_ hu_ hX_; refine depK_nil ?_; exact c_d hm_ rfl (d_move (v := .int .i64 (min (l.length : Int) 60)) rfl) (by exact ⟨rfl, rfl⟩)), (by intro H' m_ hH hm_ hu_ hX_; rintro _ ⟨rfl, _⟩; refine depK_nil ?_; exact c_d hm_ rfl (d_sub (c := w64 ((min (l.length : Int) 60) - 1)) rfl rfl rfl) (by exact ⟨rfl, rfl⟩)), (by intro H' m_ hH hm_ hu_ hX_; refine depK_nil ?_; exact c_d hm_ rfl (d_move (v := .int .i64 i) rfl) (by exact ⟨rfl, rfl⟩)), (by intro H' m_ hH hm_ hu_ hX_; rintro _ ⟨rfl, _⟩ _ ⟨rfl, _⟩; refine depK_nil ?_; exact c_d hm_ rfl (d_sub (c := w64 ((w64 ((min (l.length : Int) 60) - 1)) - i)) rfl rfl rfl) (by exact ⟨rfl, rfl⟩)), (by intro H' m_ hH hm_ hu_ hX_; rintro _ ⟨rfl, _⟩ _ ⟨rfl, _⟩; refine depK_nil ?_; exact c_d hm_ rfl (d_index (sz := 2) Tryd.underlying38 sz48 rfl (h_l.mono hH).src rfl c35) (by exact ⟨rfl, rfl⟩)), (by intro H' m_ hH hm_ hu_ hX_; rintro _ ⟨rfl, _⟩; refine depK_nil ?_; exact c_d hm_ rfl (d_fieldAddr Tryd.underlying48 rfl sz3 rfl rfl) (by exact ⟨rfl, rfl⟩)), (by intro H' m_ hH hm_ hu_ hX_; rintro _ ⟨rfl, _⟩; refine depK_nil ?_; exact c_d hm_ rfl (d_load (v := .int .i64 ((rd l (w64 ((w64 ((min (l.length : Int) 60) - 1)) - i))).f_Kind)) (cs := [.int .i64 ((rd l (w64 ((w64 ((min (l.length : Int) 60) - 1)) - i))).f_Kind)]) ty3 rfl rfl (by decide) (((l36.mono hH).lies).part 0 1) rfl) (by exact ⟨rfl, rfl⟩)), (by intro H' m_ hH hm_ hu_ hX_; refine depK_nil ?_; exact c_d hm_ rfl (d_move (v := v_l) rfl) (by exact ⟨rfl, rfl⟩)), (by intro H' m_ hH hm_ hu_ hX_; refine depK_nil ?_; exact c_d hm_ rfl (d_move (v := .int .i64 (min (l.length : Int) 60)) rfl) (by exact ⟨rfl, rfl⟩)), (by intro H' m_ hH hm_ hu_ hX_; rintro _ ⟨rfl, _⟩; refine depK_nil ?_; exact c_d hm_ rfl (d_sub (c := w64 ((min (l.length : Int) 60) - 1)) rfl rfl rfl) (by exact ⟨rfl, rfl⟩)), (by intro H' m_ hH hm_ hu_ hX_; refine depK_nil ?_; exact c_d hm_ rfl (d_move (v := .int .i64 i) rfl) (by exact ⟨rfl, rfl⟩)), (by intro H' m_ hH hm_ hu_ hX_; rintro _ ⟨rfl, _⟩ _ ⟨rfl, _⟩; refine depK_nil ?_; exact c_d hm_ rfl (d_sub (c := w64 ((w64 ((min (l.length : Int) 60) - 1)) - i)) rfl rfl rfl) (by exact ⟨rfl, rfl⟩)), (by intro H' m_ hH hm_ hu_ hX_; rintro _ ⟨rfl, _⟩ _ ⟨rfl, _⟩; refine depK_nil ?_; exact c_d hm_ rfl (d_index (sz := 2) Tryd.underlying38 sz48 rfl (h_l.mono hH).src rfl c38) (by exact ⟨rfl, rfl⟩)), (by intro H' m_ hH hm_ hu_ hX_; rintro _ ⟨rfl, _⟩; refine depK_nil ?_; exact c_d hm_ rfl (d_fieldAddr Tryd.underlying48 rfl sz2 rfl rfl) (by exact ⟨rfl, rfl⟩)), (by intro H' m_ hH hm_ hu_ hX_; rintro _ ⟨rfl, _⟩; refine depK_nil ?_; exact c_d hm_ rfl (d_load (v := .int .i64 ((rd l (w64 ((w64 ((min (l.length : Int) 60) - 1)) - i))).f_N)) (cs := [.int .i64 ((rd l (w64 ((w64 ((min (l.length : Int) 60) - 1)) - i))).f_N)]) ty2 rfl rfl (by decide) (((l39.mono hH).lies).part 1 1) rfl) (by exact ⟨rfl, rfl⟩)), trivial⟩ ?_ rfl
  intro H41 e42
  rintro _ _ ⟨rfl, rfl⟩ _ _ ⟨rfl, rfl⟩ _ _ ⟨rfl, rfl⟩ _ _ ⟨rfl, rfl⟩ _ _ ⟨rfl, rfl⟩ _ _ ⟨rfl, rfl⟩ _ _ ⟨rfl, rfl⟩ _ _ ⟨rfl, rfl⟩ _ _ ⟨rfl, rfl⟩ _ _ ⟨rfl, rfl⟩ _ _ ⟨rfl, rfl⟩ _ _ ⟨_, rfl, v32, i33, rfl, rfl, h34⟩ _ _ ⟨rfl, rfl⟩ _ _ ⟨rfl, rfl⟩ _ _ ⟨rfl, rfl⟩ _ _ ⟨rfl, rfl⟩ _ _ ⟨rfl, rfl⟩ _ _ ⟨rfl, rfl⟩ _ _ ⟨rfl, rfl⟩ _ _ ⟨rfl, rfl⟩ _ _ ⟨rfl, rfl⟩ _ _ ⟨rfl, rfl⟩ _ _ ⟨rfl, rfl⟩ _ _ ⟨rfl, rfl⟩ _ _ ⟨rfl, rfl⟩ _ _ ⟨rfl, rfl⟩ _ _ ⟨rfl, rfl⟩ _ _ ⟨rfl, rfl⟩ _ _ ⟨rfl, rfl⟩
  refine w_it (L' := some (b_c_, .cells ⟨[.int .i64 y28.2.f_l.e0.f_v, .int .i64 y28.2.f_l.e1.f_v, .int .i64 y28.2.f_l.e2.f_v, .int .i64 y28.2.f_l.e3.f_v, .int .i64 y28.2.f_l.e4.f_v, .int .i64 y28.2.f_l.e5.f_v, .int .i64 y28.2.f_l.e6.f_v, .int .i64 y28.2.f_l.e7.f_v, .int .u32 y28.2.f_once.f_done.f_v, .int .i32 y28.2.f_once.f_m.f_mu.f_state, .int .u32 y28.2.f_once.f_m.f_mu.f_sema, v32]⟩ 129 (0, 0)) :: i33 :: some (b_d, .cells ⟨[.int .i64 d_0, .int .i64 d_1, .int .i64 d_2, .int .i64 d_3, .int .i64 d_4, .int .i64 d_5, .int .i64 d_6, .int .i64 d_7, .int .u32 d_8, .int .i32 d_9, .int .u32 d_10, v_d_11]⟩ 129 (0, 0)) :: i_d_11 :: none :: none :: L) rfl ?_
  obtain ⟨y43, hy44, he⟩ := Option.bind_eq_some_iff.1 he
  refine w_a rfl (o_call co20 (vs := [.pointer (some ⟨b_d, 0, none⟩), .int .i64 ((rd l (w64 ((w64 ((min (l.length : Int) 60) - 1)) - i))).f_Kind), .int .i64 ((rd l (w64 ((w64 ((min (l.length : Int) 60) - 1)) - i))).f_N)]) rfl (ct_pull (.there (.there (.there .here))) (ct_pull (.there (.there (.there .here))) (count_Counts_Add.calls k (c_ := ⟨⟨⟨d_0⟩, ⟨d_1⟩, ⟨d_2⟩, ⟨d_3⟩, ⟨d_4⟩, ⟨d_5⟩, ⟨d_6⟩, ⟨d_7⟩⟩, ⟨⟨d_8⟩, ⟨⟨d_9, d_10⟩⟩⟩, d_11⟩) hy44 (h_d_11.mono e42))))) ?_
  rintro _ H45 _ ⟨_, rfl, e46, ⟨v47, i48, rfl, rfl, h49⟩⟩
  refine w_it (L' := some (b_d, .cells ⟨[.int .i64 y43.2.f_l.e0.f_v, .int .i64 y43.2.f_l.e1.f_v, .int .i64 y43.2.f_l.e2.f_v, .int .i64 y43.2.f_l.e3.f_v, .int .i64 y43.2.f_l.e4.f_v, .int .i64 y43.2.f_l.e5.f_v, .int .i64 y43.2.f_l.e6.f_v, .int .i64 y43.2.f_l.e7.f_v, .int .u32 y43.2.f_once.f_done.f_v, .int .i32 y43.2.f_once.f_m.f_mu.f_state, .int .u32 y43.2.f_once.f_m.f_mu.f_sema, v47]⟩ 129 (0, 0)) :: i48 :: some (b_c_, .cells ⟨[.int .i64 y28.2.f_l.e0.f_v, .int .i64 y28.2.f_l.e1.f_v, .int .i64 y28.2.f_l.e2.f_v, .int .i64 y28.2.f_l.e3.f_v, .int .i64 y28.2.f_l.e4.f_v, .int .i64 y28.2.f_l.e5.f_v, .int .i64 y28.2.f_l.e6.f_v, .int .i64 y28.2.f_l.e7.f_v, .int .u32 y28.2.f_once.f_done.f_v, .int .i32 y28.2.f_once.f_m.f_mu.f_state, .int .u32 y28.2.f_once.f_m.f_mu.f_sema, v32]⟩ 129 (0, 0)) :: i33 :: none :: none :: none :: none :: L) rfl <| w_put (.there (.there (.there .here))) <| w_put (.there (.there (.there .here))) <| w_d rfl (d_assign (v := errV 106 y28.1) rfl) <| w_d rfl (d_assign (v := errV 106 y43.1) rfl) <| w_done <| w_seq <| w_region rfl <| w_d rfl (d_move (v := errV 106 y28.1) rfl) <| w_d rfl (d_nenil (e := y28.1) Tryd.underlying24 rfl) <| w_d rfl (d_move (v := .bool y28.1.isSome) rfl) <| w_g (g := y28.1.isSome) rfl rfl rfl wn_t (fun g50 => d_move (v := errV 106 y28.1) rfl) ?_
  refine w_g (g := y28.1.isSome) rfl rfl rfl wn_t (fun g51 => call_d (o_call co19 (vs := [errV 106 y28.1]) (acons (cvt g51) (anil)) (num19.calls (hG.mono (e42.trans e46)) rfl))) <| w_g (g := y28.1.isSome) rfl rfl rfl wn_t (fun g52 => d_neq (cvt g52) rfl) <| w_d rfl (d_and' (b := y28.1.isSome) (p := (!decide ((errN y28.1) = 1))) rfl rfl rfl) <| w_d rfl (d_move (v := .bool (y28.1.isSome && (!decide ((errN y28.1) = 1)))) rfl) <| w_g (g := !(y28.1.isSome && (!decide ((errN y28.1) = 1)))) rfl rfl rfl wn_f (fun g53 => d_move (v := errV 106 y43.1) rfl) <| w_g (g := !(y28.1.isSome && (!decide ((errN y28.1) = 1)))) rfl rfl rfl wn_f (fun g54 => d_nenil (e := y43.1) Tryd.underlying24 (cvt g54)) <| w_g (g := !(y28.1.isSome && (!decide ((errN y28.1) = 1)))) rfl rfl rfl wn_f (fun g55 => d_move (v := .bool y43.1.isSome) (cvt g55)) <| w_g (g := (!(y28.1.isSome && (!decide ((errN y28.1) = 1)))) && y43.1.isSome) rfl rfl rfl wn_gt (fun g56 => d_move (v := errV 106 y43.1) rfl) <| w_g (g := (!(y28.1.isSome && (!decide ((errN y28.1) = 1)))) && y43.1.isSome) rfl rfl rfl wn_gt (fun g57 => call_d (o_call co19 (vs := [errV 106 y43.1]) (acons (cvt g57) (anil)) (num19.calls (hG.mono (e42.trans e46)) rfl))) <| w_g (g := (!(y28.1.isSome && (!decide ((errN y28.1) = 1)))) && y43.1.isSome) rfl rfl rfl wn_gt (fun g58 => d_neq (cvt g58) rfl) <| w_g (g := !(y28.1.isSome && (!decide ((errN y28.1) = 1)))) rfl rfl rfl wn_f (fun g59 => d_and' (b := y43.1.isSome) (p := (!decide ((errN y43.1) = 1))) (cvt g59) (cva g59) rfl) <| w_d rfl (d_or' (b := (y28.1.isSome && (!decide ((errN y28.1) = 1)))) (p := (y43.1.isSome && (!decide ((errN y43.1) = 1)))) rfl rfl rfl) ?_
  refine w_done ?_
  rcases its he with ⟨c60, he⟩ | ⟨c60, he⟩
  ·
   refine w_then rfl c60 <| w_seq <| w_region rfl <| w_d rfl (d_assign (v := .bool false) rfl) <| w_done ?_
   obtain rfl := Option.some.inj he
   refine w_return fn_6 rs_6 (.tmp (v := .bool false) rfl .nil) <| ⟨⟨[_, _, _, _, _, _], rfl⟩, hle.trans (e42.trans e46), rfl⟩
  ·
   refine w_else rfl (Bool.eq_false_iff.2 c60) <| w_skip <| w_inBlock <| w_region rfl <| w_d rfl (d_move (v := .int .i64 i) rfl) <| w_d rfl (d_add (c := w64 (i + 1)) rfl rfl rfl) <| w_d rfl (d_assign (v := .int .i64 (w64 (i + 1))) rfl) <| w_done <| w_inLoop <| w_del (.there (.there (.there (.there (.there .here))))) <| w_del (.there (.there (.there (.there .here)))) <| w_pull (.there .here) ?_
   refine w_pull (.there .here) <| w_pull (.there (.there (.there (.there (.there .here))))) <| w_pull (.there (.there (.there (.there (.there .here))))) <| w_del (.there (.there (.there (.there (.there (.there (.there .here))))))) <| w_del (.there (.there (.there (.there (.there (.there .here)))))) <| w_del (.there (.there (.there (.there (.there .here))))) <| w_del (.there (.there (.there (.there .here)))) <| w_sl 0 (v_l) rfl <| w_sl 2 (.bool t2) rfl <| w_sl 3 (.pointer (some ⟨b_c_, 0, none⟩)) rfl <| w_sl 4 (.pointer (some ⟨b_d, 0, none⟩)) rfl <| w_sl 5 (.int .i64 (w64 (i + 1))) rfl <| hh.l0 (hle.trans (e42.trans e46)) (hG.mono (e42.trans e46)) he (h_l.mono (e42.trans e46)) (h34.mono e46) h49
 ·
  refine w_else rfl (Bool.eq_false_iff.2 c21) <| w_exit rfl <| w_seq <| w_seq <| w_region rfl <| w_d rfl (d_assign (v := .int .i64 0) rfl) <| w_done <| w_block <| w_loop <| w_sl 2 (.bool t2) rfl <| w_sl 3 (.pointer (some ⟨b_c_, 0, none⟩)) rfl <| w_sl 4 (.pointer (some ⟨b_d, 0, none⟩)) rfl ?_
  refine w_sl 9 (.int .i64 0) rfl <| hh.l1 hle hG he h_c_11 h_d_11
theorem radomelaw32_CountAll.b1_ok {k : Nat} {h : radomelaw32_CountAll.Hs} (hh : radomelaw32_CountAll.OK h) {H0 H : Hp} {L : Items} {r : Bool} {jk_ : Nat → Value} {t2 : Bool} {c_0 : Int} {c_1 : Int} {c_2 : Int} {c_3 : Int} {c_4 : Int} {c_5 : Int} {c_6 : Int} {c_7 : Int} {c_8 : Int} {c_9 : Int} {c_10 : Int} {c_11 : List (ByteArray × Int)} {d_0 : Int} {d_1 : Int} {d_2 : Int} {d_3 : Int} {d_4 : Int} {d_5 : Int} {d_6 : Int} {d_7 : Int} {d_8 : Int} {d_9 : Int} {d_10 : Int} {d_11 : List (ByteArray × Int)} {k_ : Int} {v_c_11 : Value} {v_d_11 : Value} {i_c_11 : Item'} {i_d_11 : Item'} {b_c_ : Nat} {b_d : Nat} (hle : H0.le H) (hG : GH H) (he : radomelaw32_CountAll.b1 k h t2 c_0 c_1 c_2 c_3 c_4 c_5 c_6 c_7 c_8 c_9 c_10 c_11 d_0 d_1 d_2 d_3 d_4 d_5 d_6 d_7 d_8 d_9 d_10 d_11 k_ = some r) (h_c_11 : MpN (mkStr (fun b => .int .i64 b)) H 127 i_c_11 v_c_11 c_11) (h_d_11 : MpN (mkStr (fun b => .int .i64 b)) H 127 i_d_11 v_d_11 d_11) : Wp Tryd.prog 6 128 radomelaw32_CountAll.Kl1 (upd (upd (upd (upd jk_ 2 (.bool t2)) 3 (.pointer (some ⟨b_c_, 0, none⟩))) 4 (.pointer (some ⟨b_d, 0, none⟩))) 9 (.int .i64 k_)) H (some (b_d, .cells ⟨[.int .i64 d_0, .int .i64 d_1, .int .i64 d_2, .int .i64 d_3, .int .i64 d_4, .int .i64 d_5, .int .i64 d_6, .int .i64 d_7, .int .u32 d_8, .int .i32 d_9, .int .u32 d_10, v_d_11]⟩ 129 (0, 0)) :: i_d_11 :: some (b_c_, .cells ⟨[.int .i64 c_0, .int .i64 c_1, .int .i64 c_2, .int .i64 c_3, .int .i64 c_4, .int .i64 c_5, .int .i64 c_6, .int .i64 c_7, .int .u32 c_8, .int .i32 c_9, .int .u32 c_10, v_c_11]⟩ 129 (0, 0)) :: i_c_11 :: L) (radomelaw32_CountAll.R H0 L r) := by
 unfold radomelaw32_CountAll.b1 at he
 unfold radomelaw32_CountAll.Kl1
 refine w_seq <| w_seq <| w_region rfl <| w_d rfl (d_move (v := .int .i64 k_) rfl) <| w_d rfl (d_lss rfl rfl) <| w_done ?_
 rcases its he with ⟨c61, he⟩ | ⟨c61, he⟩
 ·
  refine w_then rfl (decide_eq_true c61) <| w_skip <| w_seq <| w_block <| w_seq <| w_region rfl <| w_d rfl (d_move (v := .pointer (some ⟨b_c_, 0, none⟩)) rfl) <| w_d rfl (d_move (v := .int .i64 k_) rfl) ?_
  obtain ⟨y62, hy63, he⟩ := Option.bind_eq_some_iff.1 he
  refine w_d rfl (call_d (o_call co26 (vs := [.int .i64 k_]) rfl (count_Name.calls k hy63))) <| w_pull (.there (.there (.there .here))) <| w_pull (.there (.there (.there .here))) ?_
  obtain ⟨y66, hy67, he⟩ := Option.bind_eq_some_iff.1 he
  refine w_a rfl (o_call co18 (vs := [.pointer (some ⟨b_c_, 0, none⟩), .string y62]) rfl (count_Counts_Named.calls k (c_ := ⟨⟨⟨c_0⟩, ⟨c_1⟩, ⟨c_2⟩, ⟨c_3⟩, ⟨c_4⟩, ⟨c_5⟩, ⟨c_6⟩, ⟨c_7⟩⟩, ⟨⟨c_8⟩, ⟨⟨c_9, c_10⟩⟩⟩, c_11⟩) hy67 h_c_11)) ?_
  rintro _ H68 _ ⟨_, rfl, e69, ⟨v70, i71, rfl, rfl, h72⟩⟩
  refine w_it (L' := some (b_c_, .cells ⟨[.int .i64 y66.2.2.f_l.e0.f_v, .int .i64 y66.2.2.f_l.e1.f_v, .int .i64 y66.2.2.f_l.e2.f_v, .int .i64 y66.2.2.f_l.e3.f_v, .int .i64 y66.2.2.f_l.e4.f_v, .int .i64 y66.2.2.f_l.e5.f_v, .int .i64 y66.2.2.f_l.e6.f_v, .int .i64 y66.2.2.f_l.e7.f_v, .int .u32 y66.2.2.f_once.f_done.f_v, .int .i32 y66.2.2.f_once.f_m.f_mu.f_state, .int .u32 y66.2.2.f_once.f_m.f_mu.f_sema, v70]⟩ 129 (0, 0)) :: i71 :: some (b_d, .cells ⟨[.int .i64 d_0, .int .i64 d_1, .int .i64 d_2, .int .i64 d_3, .int .i64 d_4, .int .i64 d_5, .int .i64 d_6, .int .i64 d_7, .int .u32 d_8, .int .i32 d_9, .int .u32 d_10, v_d_11]⟩ 129 (0, 0)) :: i_d_11 :: none :: none :: L) rfl <| w_put (.there (.there (.there .here))) <| w_put (.there (.there (.there .here))) <| w_d rfl (d_move (v := .tuple ⟨[.int .i64 y66.1, errV 106 y66.2.1]⟩) rfl) <| w_d rfl (d_ext (vs := [.int .i64 y66.1, errV 106 y66.2.1]) rfl rfl) <| w_d rfl (d_ext (vs := [.int .i64 y66.1, errV 106 y66.2.1]) rfl rfl) <| w_d rfl (d_assign (v := .int .i64 y66.1) rfl) <| w_d rfl (d_assign (v := errV 106 y66.2.1) rfl) <| w_done <| w_seq <| w_region rfl <| w_d rfl (d_move (v := .pointer (some ⟨b_c_, 0, none⟩)) rfl) ?_
  refine w_d rfl (d_move (v := .int .i64 k_) rfl) ?_
  obtain ⟨y73, hy74, he⟩ := Option.bind_eq_some_iff.1 he
  refine w_d rfl (call_d (o_call co17 (vs := [.pointer (some ⟨b_c_, 0, none⟩), .int .i64 k_]) rfl (count_Counts_Of.calls k (c_ := y66.2.2) hy74 (lies_own (.there (.there .here)))))) <| w_d rfl (d_move (v := .tuple ⟨[.int .i64 y73.1, errV 106 y73.2]⟩) rfl) <| w_d rfl (d_ext (vs := [.int .i64 y73.1, errV 106 y73.2]) rfl rfl) <| w_d rfl (d_ext (vs := [.int .i64 y73.1, errV 106 y73.2]) rfl rfl) <| w_d rfl (d_assign (v := .int .i64 y73.1) rfl) <| w_d rfl (d_assign (v := errV 106 y73.2) rfl) <| w_done <| w_seq <| w_region rfl <| w_d rfl (d_move (v := errV 106 y66.2.1) rfl) <| w_d rfl (d_nenil (e := y66.2.1) Tryd.underlying24 rfl) <| w_d rfl (d_move (v := .bool y66.2.1.isSome) rfl) ?_
  refine w_g (g := !y66.2.1.isSome) rfl rfl rfl wn_f (fun g77 => d_move (v := errV 106 y73.2) rfl) <| w_g (g := !y66.2.1.isSome) rfl rfl rfl wn_f (fun g78 => d_nenil (e := y73.2) Tryd.underlying24 (cvt g78)) <| w_d rfl (d_or' (b := y66.2.1.isSome) (p := y73.2.isSome) rfl rfl rfl) <| w_d rfl (d_move (v := .bool (y66.2.1.isSome || y73.2.isSome)) rfl) <| w_g (g := !(y66.2.1.isSome || y73.2.isSome)) rfl rfl rfl wn_f (fun g79 => d_move (v := .int .i64 y66.1) rfl) <| w_g (g := !(y66.2.1.isSome || y73.2.isSome)) rfl rfl rfl wn_f (fun g80 => d_move (v := .int .i64 y73.1) rfl) <| w_g (g := !(y66.2.1.isSome || y73.2.isSome)) rfl rfl rfl wn_f (fun g81 => d_neq (cvt g81) (cvt g81)) <| w_d rfl (d_or' (b := (y66.2.1.isSome || y73.2.isSome)) (p := (!decide (y66.1 = y73.1))) rfl rfl rfl) <| w_d rfl (d_move (v := .bool ((y66.2.1.isSome || y73.2.isSome) || (!decide (y66.1 = y73.1)))) rfl) <| w_g (g := !((y66.2.1.isSome || y73.2.isSome) || (!decide (y66.1 = y73.1)))) rfl rfl rfl wn_f (fun g82 => d_move (v := .int .i64 k_) rfl) ?_
  obtain ⟨y84, hy85, he⟩ := Option.bind_eq_some_iff.1 he
  refine w_g (g := !((y66.2.1.isSome || y73.2.isSome) || (!decide (y66.1 = y73.1)))) rfl rfl rfl wn_f (fun g83 => call_d (o_call co26 (vs := [.int .i64 k_]) (acons (cvt g83) (anil)) (count_Name.calls k (gd_t g83 hy85)))) <| w_g (g := !((y66.2.1.isSome || y73.2.isSome) || (!decide (y66.1 = y73.1)))) rfl rfl rfl wn_f (fun g88 => d_eqs (cvt g88) rfl) <| w_d rfl (d_or' (b := ((y66.2.1.isSome || y73.2.isSome) || (!decide (y66.1 = y73.1)))) (p := (decide (y84 = str_0))) rfl rfl rfl) <| w_done ?_
  rcases its he with ⟨c89, he⟩ | ⟨c89, he⟩
  ·
   refine w_then rfl c89 <| w_seq <| w_region rfl <| w_d rfl (d_assign (v := .bool false) rfl) <| w_done ?_
   obtain rfl := Option.some.inj he
   refine w_return fn_6 rs_6 (.tmp (v := .bool false) rfl .nil) <| ⟨⟨[_, _, _, _], rfl⟩, hle.trans e69, rfl⟩
  ·
   refine w_else rfl (Bool.eq_false_iff.2 c89) <| w_skip <| w_inBlock <| w_region rfl <| w_d rfl (d_move (v := .int .i64 k_) rfl) <| w_d rfl (d_add (c := w64 (k_ + 1)) rfl rfl rfl) <| w_d rfl (d_assign (v := .int .i64 (w64 (k_ + 1))) rfl) <| w_done <| w_inLoop <| w_sl 2 (.bool t2) rfl <| w_sl 3 (.pointer (some ⟨b_c_, 0, none⟩)) rfl <| w_sl 4 (.pointer (some ⟨b_d, 0, none⟩)) rfl ?_
   refine w_sl 9 (.int .i64 (w64 (k_ + 1))) rfl <| hh.l1 (hle.trans e69) (hG.mono e69) he h72 (h_d_11.mono e69)
 ·
  refine w_else rfl (decide_eq_false c61) <| w_exit rfl <| w_seq <| w_region rfl <| w_d rfl (d_move (v := .pointer (some ⟨b_c_, 0, none⟩)) rfl) ?_
  obtain ⟨y90, hy91, he⟩ := Option.bind_eq_some_iff.1 he
  refine w_a rfl (o_call co21 (vs := [.pointer (some ⟨b_c_, 0, none⟩)]) rfl (count_Counts_All.calls k (c_ := ⟨⟨⟨c_0⟩, ⟨c_1⟩, ⟨c_2⟩, ⟨c_3⟩, ⟨c_4⟩, ⟨c_5⟩, ⟨c_6⟩, ⟨c_7⟩⟩, ⟨⟨c_8⟩, ⟨⟨c_9, c_10⟩⟩⟩, c_11⟩) hy91 (lies_own (.there (.there .here))))) ?_
  rintro v94 H92 _ ⟨rfl, e93, h95⟩
  refine w_d rfl (d_move (v := .pointer (some ⟨b_d, 0, none⟩)) rfl) ?_
  obtain ⟨y96, hy97, he⟩ := Option.bind_eq_some_iff.1 he
  refine w_a rfl (o_call co21 (vs := [.pointer (some ⟨b_d, 0, none⟩)]) rfl (count_Counts_All.calls k (c_ := ⟨⟨⟨d_0⟩, ⟨d_1⟩, ⟨d_2⟩, ⟨d_3⟩, ⟨d_4⟩, ⟨d_5⟩, ⟨d_6⟩, ⟨d_7⟩⟩, ⟨⟨d_8⟩, ⟨⟨d_9, d_10⟩⟩⟩, d_11⟩) hy97 (lies_own .here))) ?_
  rintro v100 H98 _ ⟨rfl, e99, h101⟩
  obtain ⟨y102, hy103, he⟩ := Option.bind_eq_some_iff.1 he
  refine w_d rfl (call_d (o_call co25 (vs := [v94, v100]) rfl (radomelaw32_nums.calls k hy103 ((h95.mono e99).src) h101.src))) <| w_d rfl (d_move (v := .bool y102) rfl) <| w_g (g := y102) rfl rfl rfl wn_t (fun g106 => d_move (v := .pointer (some ⟨b_c_, 0, none⟩)) rfl) ?_
  obtain ⟨y108, hy109, he⟩ := Option.bind_eq_some_iff.1 he
  refine w_gk (g := y102) rfl rfl rfl wn_t (fun g107 => o_call co21 (vs := [.pointer (some ⟨b_c_, 0, none⟩)]) (acons (cvt g107) (anil)) (count_Counts_All.calls k (c_ := ⟨⟨⟨c_0⟩, ⟨c_1⟩, ⟨c_2⟩, ⟨c_3⟩, ⟨c_4⟩, ⟨c_5⟩, ⟨c_6⟩, ⟨c_7⟩⟩, ⟨⟨c_8⟩, ⟨⟨c_9, c_10⟩⟩⟩, c_11⟩) (gd_t g107 hy109) (lies_own (.there (.there .here))))) ?_
  intro v114 H110 e111 hp_ hq_
  obtain ⟨v112, rfl, h113⟩ := gk1 (T := fun v112 => v112) (Q := fun v112 => Ro (Kd.int .i64) H110 v112 y108) (fun g_ => ⟨_, rfl, hp_ g_⟩) hq_
  refine w_g (g := y102) rfl rfl rfl wn_t (fun g115 => d_len Tryd.underlying43 (cvt g115) (h113 g115).src) <| w_g (g := y102) rfl rfl rfl wn_t (fun g116 => d_eql (cvt g116) rfl) <| w_d rfl (d_and' (b := y102) (p := (decide ((y108.length : Int) = 8))) rfl rfl rfl) <| w_d rfl (d_move (v := .bool (y102 && (decide ((y108.length : Int) = 8)))) rfl) ?_
  obtain ⟨y118, hy119, he⟩ := Option.bind_eq_some_iff.1 he
  refine w_g (g := y102 && (decide ((y108.length : Int) = 8))) rfl rfl rfl wn_t (fun g117 => call_d (o_call co28 (vs := []) rfl (radomelaw32_sure.calls k (gd_t g117 hy119)))) <| w_d rfl (d_and' (b := (y102 && (decide ((y108.length : Int) = 8)))) (p := y118) rfl rfl rfl) <| w_d rfl (d_assign (v := .bool ((y102 && (decide ((y108.length : Int) = 8))) && y118)) rfl) <| w_done ?_
  obtain rfl := Option.some.inj he
  refine w_return fn_6 rs_6 (.tmp (v := .bool ((y102 && (decide ((y108.length : Int) = 8))) && y118)) rfl .nil) <| ⟨⟨[_, _, _, _], rfl⟩, hle.trans ((e93.trans e99).trans e111), rfl⟩
theorem radomelaw32_CountAll.ok : ∀ k, radomelaw32_CountAll.OK (radomelaw32_CountAll.hs k)
 | 0 => ⟨(by intros; exact nomatch (show none = some _ from by assumption)), (by intros; exact nomatch (show none = some _ from by assumption))⟩
 | k + 1 => ⟨radomelaw32_CountAll.b0_ok (k := k) (radomelaw32_CountAll.ok k), radomelaw32_CountAll.b1_ok (k := k) (radomelaw32_CountAll.ok k)⟩
theorem radomelaw32_CountAll.calls (k : Nat) {H : Hp} {L : Items} {l : List radomelaw32_Act} {v0_l : Value} {r : Bool} (hG : GH H) (he : radomelaw32_CountAll.f k l = some r) (h0_l : Ro k_radomelaw32_Act H v0_l l) : Ct Tryd.prog 6 ⟨[v0_l]⟩ H L (fun v H' L' => L = L' ∧ H = H' ∧ v = .bool r) := by
 refine ct_outs (O := radomelaw32_CountAll.out r) (fun _ _ h => h) ?_
 have hle : H.le H := .refl _
 have hh := radomelaw32_CountAll.ok k
 unfold radomelaw32_CountAll.f at he
 refine ct_enter (args := [_]) fn_6 rfl nt_6 rfl <| w_seq <| w_region rfl <| w_d rfl (d_assign (v := .bool false) rfl) <| w_done <| w_seq <| w_region rfl ?_
 obtain ⟨y1, hy2, he⟩ := Option.bind_eq_some_iff.1 he
 refine w_a rfl (o_call co23 (vs := []) rfl (count_New.calls k hy2)) ?_
 rintro _ H3 _ ⟨_, rfl, e4, ⟨b5, v6, i7, rfl, rfl, h8⟩⟩
 refine w_it (L' := some (b5, .cells ⟨[.int .i64 y1.f_l.e0.f_v, .int .i64 y1.f_l.e1.f_v, .int .i64 y1.f_l.e2.f_v, .int .i64 y1.f_l.e3.f_v, .int .i64 y1.f_l.e4.f_v, .int .i64 y1.f_l.e5.f_v, .int .i64 y1.f_l.e6.f_v, .int .i64 y1.f_l.e7.f_v, .int .u32 y1.f_once.f_done.f_v, .int .i32 y1.f_once.f_m.f_mu.f_state, .int .u32 y1.f_once.f_m.f_mu.f_sema, v6]⟩ 129 (0, 0)) :: i7 :: L) rfl ?_
 obtain ⟨y9, hy10, he⟩ := Option.bind_eq_some_iff.1 he
 refine w_a rfl (o_call co23 (vs := []) rfl (count_New.calls k hy10)) ?_
 rintro _ H11 _ ⟨_, rfl, e12, ⟨b13, v14, i15, rfl, rfl, h16⟩⟩
 refine w_it (L' := some (b13, .cells ⟨[.int .i64 y9.f_l.e0.f_v, .int .i64 y9.f_l.e1.f_v, .int .i64 y9.f_l.e2.f_v, .int .i64 y9.f_l.e3.f_v, .int .i64 y9.f_l.e4.f_v, .int .i64 y9.f_l.e5.f_v, .int .i64 y9.f_l.e6.f_v, .int .i64 y9.f_l.e7.f_v, .int .u32 y9.f_once.f_done.f_v, .int .i32 y9.f_once.f_m.f_mu.f_state, .int .u32 y9.f_once.f_m.f_mu.f_sema, v14]⟩ 129 (0, 0)) :: i15 :: some (b5, .cells ⟨[.int .i64 y1.f_l.e0.f_v, .int .i64 y1.f_l.e1.f_v, .int .i64 y1.f_l.e2.f_v, .int .i64 y1.f_l.e3.f_v, .int .i64 y1.f_l.e4.f_v, .int .i64 y1.f_l.e5.f_v, .int .i64 y1.f_l.e6.f_v, .int .i64 y1.f_l.e7.f_v, .int .u32 y1.f_once.f_done.f_v, .int .i32 y1.f_once.f_m.f_mu.f_state, .int .u32 y1.f_once.f_m.f_mu.f_sema, v6]⟩ 129 (0, 0)) :: i7 :: L) rfl <| w_d rfl (d_assign (v := .pointer (some ⟨b5, 0, none⟩)) rfl) <| w_d rfl (d_assign (v := .pointer (some ⟨b13, 0, none⟩)) rfl) <| w_done <| w_seq <| w_seq <| w_region rfl <| w_d rfl (d_move (v := .pointer (some ⟨b5, 0, none⟩)) rfl) <| w_d rfl (d_eqptr (a := (some ⟨b5, 0, none⟩)) Tryd.underlying39 rfl rfl) <| w_d rfl (d_move (v := .bool false) rfl) <| w_g (g := true) rfl rfl rfl rfl (fun _ => d_move (v := .pointer (some ⟨b13, 0, none⟩)) rfl) <| w_g (g := true) rfl rfl rfl rfl (fun _ => d_eqptr (a := (some ⟨b13, 0, none⟩)) Tryd.underlying39 rfl rfl) ?_
 refine w_d rfl (d_pickf (v := .bool false) rfl rfl) <| w_done <| w_else rfl rfl <| w_skip <| w_seq <| w_seq <| w_region rfl <| w_d rfl (d_assign (v := .int .i64 0) rfl) <| w_done <| w_block <| w_loop <| w_sl 0 (v0_l) rfl ?_
 refine w_sl 2 (.bool false) rfl <| w_sl 3 (.pointer (some ⟨b5, 0, none⟩)) rfl <| w_sl 4 (.pointer (some ⟨b13, 0, none⟩)) rfl <| w_sl 5 (.int .i64 0) rfl <| hh.l0 (hle.trans (e4.trans e12)) (hG.mono (e4.trans e12)) he (h0_l.mono (e4.trans e12)) (h8.mono e12) h16
end Go.Proofs.YtjhpkkhcgpilfaaDoor.GCA
