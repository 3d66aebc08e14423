/- A text of this session, written by a program (wip/k/gen.py): Go functions as Lean functions, and proofs that the code comes to them. -/
import Derived.Test.YtddcfnhbedpbnaaDoorGTRx2
namespace Go.Proofs.YtddcfnhbedpbnaaDoor.GTR
open Go Go.RowKit Go.Proofs.YtddcfnhbedpbnaaDoorK Go.Proofs.YtddcfnhbedpbnaaDoor
set_option linter.unusedVariables false
set_option linter.unusedSimpArgs false
/-! ### radome/radomelaw23.LifeRuns -/
noncomputable def radomelaw23_LifeRuns.C : Code := (Tryd.f5.body).getD .skip
def radomelaw23_LifeRuns.out (r : Bool) (H : Hp) (v : Value) : Prop := v = .bool r
abbrev radomelaw23_LifeRuns.R (H0 : Hp) (L : Items) (r : Bool) : Value → Hp → Items → Prop := fun v H' L' => (∃ p, L' = p ++ L) ∧ H0.le H' ∧ radomelaw23_LifeRuns.out r H' v
structure radomelaw23_LifeRuns.Hs where
 l0 : (List Bool) → Int → Int → Int → Bool → Int → Int → Int → Int → Int → (List Bool) → Int → Int → Option Bool
noncomputable def radomelaw23_LifeRuns.b0 (k : Nat) (h : radomelaw23_LifeRuns.Hs)  (hits : List Bool) (r_0 : Int) (r_1 : Int) (r_2 : Int) (t4 : Bool) (l_0 : Int) (l_1 : Int) (l_2 : Int) (l_3 : Int) (x_0 : Int) (x_1 : List Bool) (x_2 : Int) (i : Int) : Option Bool := if ((decide (i < (hits.length : Int))) && (decide (i < 60))) = true then (if 0 ≤ i ∧ i < (hits.length : Int) then ((life_Next.f k (⟨r_0, r_1, r_2⟩ : life_Rule) (⟨l_0, l_1, l_2, l_3⟩ : life_Life) (rd hits i)).bind fun y63 => (life_Gone.f k (⟨l_0, l_1, l_2, l_3⟩ : life_Life)).bind fun y72 => (radomeref23_Gone.f k (⟨x_0, x_1, x_2⟩ : radomeref23_Life)).bind fun y78 => if (!(y72 == y78)) = true then (some (false)) else ((radomeref23_Gone.f k (⟨x_0, x_1, x_2⟩ : radomeref23_Life)).bind fun y83 => if y83 = true then ((gd ((decide ((errN y63.2) = 14)) && (decide (y63.1.f_Kind = 0) && (decide (y63.1.f_Seen = 0) && (decide (y63.1.f_Age = 0) && (decide (y63.1.f_Missed = 0)))))) (radomelaw23_sure.f k) (false)).bind fun y92 => some (((decide ((errN y63.2) = 14)) && (decide (y63.1.f_Kind = 0) && (decide (y63.1.f_Seen = 0) && (decide (y63.1.f_Age = 0) && (decide (y63.1.f_Missed = 0)))))) && y92)) else (if 0 ≤ i ∧ i < (hits.length : Int) then ((radomeref23_Next.f k (⟨r_0, r_1, r_2⟩ : radomeref23_Rule) (⟨x_0, x_1, x_2⟩ : radomeref23_Life) (rd hits i)).bind fun y99 => (gd (!y63.2.isSome) (radomelaw23_is.f k (⟨y63.1.f_Kind, y63.1.f_Seen, y63.1.f_Age, y63.1.f_Missed⟩ : life_Life) (⟨y99.f_Kind, y99.f_Seen, y99.f_Missed⟩ : radomeref23_Life)) (false)).bind fun y108 => (gd (!(y63.2.isSome || (!y108))) (life_May.f k (⟨r_0, r_1, r_2⟩ : life_Rule) (⟨y63.1.f_Kind, y63.1.f_Seen, y63.1.f_Age, y63.1.f_Missed⟩ : life_Life)) (none)).bind fun y116 => if ((y63.2.isSome || (!y108)) || y116.isSome) = true then (some (false)) else (h.l0 hits r_0 r_1 r_2 t4 y63.1.f_Kind y63.1.f_Seen y63.1.f_Age y63.1.f_Missed y99.f_Kind y99.f_Seen y99.f_Missed (w64 (i + 1)))) else none))) else none) else ((radomelaw23_sure.f k).bind fun y122 => some (y122))
noncomputable def radomelaw23_LifeRuns.hs : Nat → radomelaw23_LifeRuns.Hs
 | 0 => ⟨fun _ _ _ _ _ _ _ _ _ _ _ _ _ => none⟩
 | k + 1 => ⟨fun x0 x1 x2 x3 x4 x5 x6 x7 x8 x9 x10 x11 x12 => radomelaw23_LifeRuns.b0 k (radomelaw23_LifeRuns.hs k) x0 x1 x2 x3 x4 x5 x6 x7 x8 x9 x10 x11 x12⟩
noncomputable def radomelaw23_LifeRuns.f (k : Nat) (r_ : radomeref23_Rule) (hits : List Bool) : Option Bool := (fun h : radomelaw23_LifeRuns.Hs => (life_Born.f k (⟨r_.f_Hits, r_.f_Window, r_.f_Misses⟩ : life_Rule)).bind fun y2 => (radomeref23_Check.f k (⟨r_.f_Hits, r_.f_Window, r_.f_Misses⟩ : radomeref23_Rule)).bind fun y7 => if (!y7) = true then ((life_Next.f k (⟨r_.f_Hits, r_.f_Window, r_.f_Misses⟩ : life_Rule) (⟨0, 1, 1, 0⟩ : life_Life) true).bind fun y12 => (gd ((decide ((errN y2.2) = 1)) && (decide ((errN y12.2) = 1))) (life_Check.f k (⟨r_.f_Hits, r_.f_Window, r_.f_Misses⟩ : life_Rule)) (none)).bind fun y22 => (gd ((((decide ((errN y2.2) = 1)) && (decide ((errN y12.2) = 1))) && (decide ((errN y22) = 1))) && (decide (y2.1.f_Kind = 0) && (decide (y2.1.f_Seen = 0) && (decide (y2.1.f_Age = 0) && (decide (y2.1.f_Missed = 0)))))) (radomelaw23_sure.f k) (false)).bind fun y32 => some (((((decide ((errN y2.2) = 1)) && (decide ((errN y12.2) = 1))) && (decide ((errN y22) = 1))) && (decide (y2.1.f_Kind = 0) && (decide (y2.1.f_Seen = 0) && (decide (y2.1.f_Age = 0) && (decide (y2.1.f_Missed = 0)))))) && y32)) else ((radomeref23_Born.f k (⟨r_.f_Hits, r_.f_Window, r_.f_Misses⟩ : radomeref23_Rule)).bind fun y36 => (gd (!y2.2.isSome) (radomelaw23_is.f k (⟨y2.1.f_Kind, y2.1.f_Seen, y2.1.f_Age, y2.1.f_Missed⟩ : life_Life) (⟨y36.f_Kind, y36.f_Seen, y36.f_Missed⟩ : radomeref23_Life)) (false)).bind fun y46 => (gd (!(y2.2.isSome || (!y46))) (life_Check.f k (⟨r_.f_Hits, r_.f_Window, r_.f_Misses⟩ : life_Rule)) (none)).bind fun y53 => if ((y2.2.isSome || (!y46)) || y53.isSome) = true then (some (false)) else (h.l0 hits r_.f_Hits r_.f_Window r_.f_Misses false y2.1.f_Kind y2.1.f_Seen y2.1.f_Age y2.1.f_Missed y36.f_Kind y36.f_Seen y36.f_Missed 0))) (radomelaw23_LifeRuns.hs k)
structure radomelaw23_LifeRuns.LE (h h' : radomelaw23_LifeRuns.Hs) : Prop where
 l0 : ∀ y0 y1 y2 y3 y4 y5 y6 y7 y8 y9 y10 y11 y12, LeO (h.l0 y0 y1 y2 y3 y4 y5 y6 y7 y8 y9 y10 y11 y12) (h'.l0 y0 y1 y2 y3 y4 y5 y6 y7 y8 y9 y10 y11 y12)
theorem radomelaw23_LifeRuns.b0_mono {k : Nat} {h h' : radomelaw23_LifeRuns.Hs} (hl : radomelaw23_LifeRuns.LE h h') : ∀ y0 y1 y2 y3 y4 y5 y6 y7 y8 y9 y10 y11 y12, LeO (radomelaw23_LifeRuns.b0 k h y0 y1 y2 y3 y4 y5 y6 y7 y8 y9 y10 y11 y12) (radomelaw23_LifeRuns.b0 (k + 1) h' y0 y1 y2 y3 y4 y5 y6 y7 y8 y9 y10 y11 y12) := fun _ _ _ _ _ _ _ _ _ _ _ _ _ => (LeO.ite (LeO.ite (LeO.bind (life_Next.mono k _ _ _) fun _ => LeO.bind (life_Gone.mono k _) fun _ => LeO.bind (radomeref23_Gone.mono k _) fun _ => LeO.ite (LeO.refl _) (LeO.bind (radomeref23_Gone.mono k _) fun _ => LeO.ite (LeO.bind (LeO.gd (radomelaw23_sure.mono k)) fun _ => LeO.refl _) (LeO.ite (LeO.bind (radomeref23_Next.mono k _ _ _) fun _ => LeO.bind (LeO.gd (radomelaw23_is.mono k _ _)) fun _ => LeO.bind (LeO.gd (life_May.mono k _ _)) fun _ => LeO.ite (LeO.refl _) (hl.l0 _ _ _ _ _ _ _ _ _ _ _ _ _)) (LeO.refl _)))) (LeO.refl _)) (LeO.bind (radomelaw23_sure.mono k) fun _ => LeO.refl _))
theorem radomelaw23_LifeRuns.hs_mono : ∀ k, radomelaw23_LifeRuns.LE (radomelaw23_LifeRuns.hs k) (radomelaw23_LifeRuns.hs (k + 1))
 | 0 => ⟨fun _ _ _ _ _ _ _ _ _ _ _ _ _ => LeO.none _⟩
 | k + 1 => ⟨radomelaw23_LifeRuns.b0_mono (k := k) (radomelaw23_LifeRuns.hs_mono k)⟩
theorem radomelaw23_LifeRuns.mono : ∀ k y0 y1, LeO (radomelaw23_LifeRuns.f k y0 y1) (radomelaw23_LifeRuns.f (k + 1) y0 y1) := fun k _ _ => have hl := radomelaw23_LifeRuns.hs_mono k; by unfold radomelaw23_LifeRuns.f; exact (LeO.bind (life_Born.mono k _) fun _ => LeO.bind (radomeref23_Check.mono k _) fun _ => LeO.ite (LeO.bind (life_Next.mono k _ _ _) fun _ => LeO.bind (LeO.gd (life_Check.mono k _)) fun _ => LeO.bind (LeO.gd (radomelaw23_sure.mono k)) fun _ => LeO.refl _) (LeO.bind (radomeref23_Born.mono k _) fun _ => LeO.bind (LeO.gd (radomelaw23_is.mono k _ _)) fun _ => LeO.bind (LeO.gd (life_Check.mono k _)) fun _ => LeO.ite (LeO.refl _) (hl.l0 _ _ _ _ _ _ _ _ _ _ _ _ _)))
noncomputable def radomelaw23_LifeRuns.Kl0 : List Item := .code (lopB (blkB (seqR (seqL (seqR (seqR (seqR (seqR (seqR radomelaw23_LifeRuns.C))))))))) :: .inLoop (lopB (blkB (seqR (seqL (seqR (seqR (seqR (seqR (seqR radomelaw23_LifeRuns.C))))))))) :: .inBlock 0 :: .code (seqR (seqR (seqR (seqR (seqR (seqR radomelaw23_LifeRuns.C)))))) :: []
structure radomelaw23_LifeRuns.OK (h : radomelaw23_LifeRuns.Hs) : Prop where
 l0 : ∀ {H0 H : Hp} {L : Items} {r : Bool} {jk_ : Nat → Value} {hits : List Bool} {r_0 : Int} {r_1 : Int} {r_2 : Int} {t4 : Bool} {l_0 : Int} {l_1 : Int} {l_2 : Int} {l_3 : Int} {x_0 : Int} {x_1 : List Bool} {x_2 : Int} {i : Int} {v_hits : Value} {v_x_1 : Value} {b_r_ : Nat} {b_l : Nat} {b_x : Nat} (_ : H0.le H) (_ : GH H) (_he : h.l0 hits r_0 r_1 r_2 t4 l_0 l_1 l_2 l_3 x_0 x_1 x_2 i = some r) (_h_hits : Ro Kd.bool H v_hits hits) (_h_x_1 : Ro Kd.bool H v_x_1 x_1), Wp Tryd.prog 5 125 radomelaw23_LifeRuns.Kl0 (upd (upd (upd (upd (upd (upd jk_ 1 (v_hits)) 2 (.pointer (some ⟨b_r_, 0, none⟩))) 4 (.bool t4)) 5 (.pointer (some ⟨b_l, 0, none⟩))) 9 (.pointer (some ⟨b_x, 0, none⟩))) 10 (.int .i64 i)) H (some (b_x, .cells ⟨[.int .i64 x_0, v_x_1, .int .i64 x_2]⟩ 60 (0, 0)) :: some (b_l, .cells ⟨[.int .i64 l_0, .int .u32 l_1, .int .i64 l_2, .int .i64 l_3]⟩ 52 (0, 0)) :: some (b_r_, .cells ⟨[.int .i64 r_0, .int .i64 r_1, .int .i64 r_2]⟩ 49 (0, 0)) :: L) (radomelaw23_LifeRuns.R H0 L r)
set_option maxRecDepth 100000 in
set_option maxHeartbeats 2000000 in
theorem radomelaw23_LifeRuns.b0_ok {k : Nat} {h : radomelaw23_LifeRuns.Hs} (hh : radomelaw23_LifeRuns.OK h) {H0 H : Hp} {L : Items} {r : Bool} {jk_ : Nat → Value} {hits : List Bool} {r_0 : Int} {r_1 : Int} {r_2 : Int} {t4 : Bool} {l_0 : Int} {l_1 : Int} {l_2 : Int} {l_3 : Int} {x_0 : Int} {x_1 : List Bool} {x_2 : Int} {i : Int} {v_hits : Value} {v_x_1 : Value} {b_r_ : Nat} {b_l : Nat} {b_x : Nat} (hle : H0.le H) (hG : GH H) (he : radomelaw23_LifeRuns.b0 k h hits r_0 r_1 r_2 t4 l_0 l_1 l_2 l_3 x_0 x_1 x_2 i = some r) (h_hits : Ro Kd.bool H v_hits hits) (h_x_1 : Ro Kd.bool H v_x_1 x_1) : Wp Tryd.prog 5 125 radomelaw23_LifeRuns.Kl0 (upd (upd (upd (upd (upd (upd jk_ 1 (v_hits)) 2 (.pointer (some ⟨b_r_, 0, none⟩))) 4 (.bool t4)) 5 (.pointer (some ⟨b_l, 0, none⟩))) 9 (.pointer (some ⟨b_x, 0, none⟩))) 10 (.int .i64 i)) H (some (b_x, .cells ⟨[.int .i64 x_0, v_x_1, .int .i64 x_2]⟩ 60 (0, 0)) :: some (b_l, .cells ⟨[.int .i64 l_0, .int .u32 l_1, .int .i64 l_2, .int .i64 l_3]⟩ 52 (0, 0)) :: some (b_r_, .cells ⟨[.int .i64 r_0, .int .i64 r_1, .int .i64 r_2]⟩ 49 (0, 0)) :: L) (radomelaw23_LifeRuns.R H0 L r) := by
 unfold radomelaw23_LifeRuns.b0 at he
 unfold radomelaw23_LifeRuns.Kl0
 refine w_seq ?_
 refine w_seq ?_
 refine w_region rfl ?_
 refine w_d rfl (d_move (v := .int .i64 i) rfl) ?_
 refine w_d rfl (d_move (v := v_hits) rfl) ?_
 refine w_d rfl (d_len Tryd.underlying50 rfl h_hits.src) ?_
 refine w_d rfl (d_lss rfl rfl) ?_
 refine w_d rfl (d_move (v := .bool (decide (i < (hits.length : Int)))) rfl) ?_
 refine w_g (g := decide (i < (hits.length : Int))) rfl rfl rfl wn_t (fun g59 => d_move (v := .int .i64 i) rfl) ?_
 refine w_g (g := decide (i < (hits.length : Int))) rfl rfl rfl wn_t (fun g60 => d_lss (cvt g60) rfl) ?_
 refine w_d rfl (d_and' (b := (decide (i < (hits.length : Int)))) (p := (decide (i < 60))) rfl rfl rfl) ?_
 refine w_done ?_
 rcases its he with ⟨c61, he⟩ | ⟨c61, he⟩
 ·
  refine w_then rfl c61 ?_
  refine w_skip ?_
  refine w_seq ?_
  refine w_block ?_
  refine w_seq ?_
  obtain ⟨c62, he⟩ := rq he
  obtain ⟨y63, hy64, he⟩ := Option.bind_eq_some_iff.1 he
  refine w_none (?_)
  refine w_drawn (p := 12) (tl := [12]) [[], [], [], [], [(2, some 77), (3, some 78)], [(4, some 79)], [(0, some 75), (1, some 76), (5, some 80)], [(6, some 81)], [(7, some 74)], [(7, some 74)], [], [(8, some 82), (10, some 11)]] [some 75, some 76, some 77, some 78, some 79, some 80, some 81, some 74, some 82, some 83, some 11, none] (fctF [.is (.agg ⟨[.int .i64 r_0, .int .i64 r_1, .int .i64 r_2]⟩), .is (.agg ⟨[.int .i64 l_0, .int .u32 l_1, .int .i64 l_2, .int .i64 l_3]⟩), .is (v_hits), .is (.int .i64 i), .is (.pointer (some (pel v_hits i 1))), .is (.bool (rd hits i)), .is (.tuple ⟨[.agg ⟨[.int .i64 y63.1.f_Kind, .int .u32 y63.1.f_Seen, .int .i64 y63.1.f_Age, .int .i64 y63.1.f_Missed]⟩, errV 70 y63.2]⟩), .is (.tuple ⟨[.agg ⟨[.int .i64 y63.1.f_Kind, .int .u32 y63.1.f_Seen, .int .i64 y63.1.f_Age, .int .i64 y63.1.f_Missed]⟩, errV 70 y63.2]⟩), .is (.agg ⟨[.int .i64 y63.1.f_Kind, .int .u32 y63.1.f_Seen, .int .i64 y63.1.f_Age, .int .i64 y63.1.f_Missed]⟩), .is (errV 70 y63.2), .box 52 [.int .i64 0, .int .u32 0, .int .i64 0, .int .i64 0], .st 10 (fun H b it => it = some (b, .cells ⟨[.int .i64 y63.1.f_Kind, .int .u32 y63.1.f_Seen, .int .i64 y63.1.f_Age, .int .i64 y63.1.f_Missed]⟩ 52 (0, 0))) (by rintro _ _ _ _ hle rfl; exact rfl)]) (fun m_ => pk (m_ 11) (m_ 10) :: some (b_x, .cells ⟨[.int .i64 x_0, v_x_1, .int .i64 x_2]⟩ 60 (0, 0)) :: some (b_l, .cells ⟨[.int .i64 l_0, .int .u32 l_1, .int .i64 l_2, .int .i64 l_3]⟩ 52 (0, 0)) :: some (b_r_, .cells ⟨[.int .i64 r_0, .int .i64 r_1, .int .i64 r_2]⟩ 49 (0, 0)) :: L) (fun _ => none) mixed (by kernel_rfl) (by kernel_rfl) rfl (fct_mono (by kernel_rfl)) ⟨(by intro H' m_ hH hm_ hu_; refine depK_nil ?_; exact s_d (m_ 0) rfl (d_loado (v := .agg ⟨[.int .i64 r_0, .int .i64 r_1, .int .i64 r_2]⟩) ty49 rfl (.there (.there (.there .here))) rfl rfl rfl rfl) (by exact rfl) rfl), (by intro H' m_ hH hm_ hu_; refine depK_nil ?_; exact s_d (m_ 1) rfl (d_loado (v := .agg ⟨[.int .i64 l_0, .int .u32 l_1, .int .i64 l_2, .int .i64 l_3]⟩) ty52 rfl (.there (.there .here)) rfl rfl rfl rfl) (by exact rfl) rfl), (by intro H' m_ hH hm_ hu_; refine depK_nil ?_; exact s_d (m_ 2) rfl (d_move (v := v_hits) rfl) (by exact rfl) rfl), (by intro H' m_ hH hm_ hu_; refine depK_nil ?_; exact s_d (m_ 3) rfl (d_move (v := .int .i64 i) rfl) (by exact rfl) rfl), (by intro H' m_ hH hm_ hu_; rintro _ rfl _ rfl; refine depK_nil ?_; exact s_d (m_ 4) rfl (d_index (sz := 1) Tryd.underlying50 sz4 rfl (h_hits.mono hH).src rfl c62) (by exact rfl) rfl), (by intro H' m_ hH hm_ hu_; rintro _ rfl; refine depK_nil ?_; exact s_d (m_ 5) rfl (d_ldbool ty4 rfl (h_hits.mono hH).src c62) (by exact rfl) rfl), (by intro H' m_ hH hm_ hu_; rintro _ rfl _ rfl _ rfl; refine depK_nil ?_; exact s_d (m_ 6) rfl (call_d (o_call co25 (vs := [.agg ⟨[.int .i64 r_0, .int .i64 r_1, .int .i64 r_2]⟩, .agg ⟨[.int .i64 l_0, .int .u32 l_1, .int .i64 l_2, .int .i64 l_3]⟩, .bool (rd hits i)]) rfl (life_Next.calls k (r_ := (⟨r_0, r_1, r_2⟩ : life_Rule)) (l := (⟨l_0, l_1, l_2, l_3⟩ : life_Life)) hy64))) (by exact rfl) rfl), (by intro H' m_ hH hm_ hu_; rintro _ rfl; refine depK_nil ?_; exact s_d (m_ 7) rfl (d_move (v := .tuple ⟨[.agg ⟨[.int .i64 y63.1.f_Kind, .int .u32 y63.1.f_Seen, .int .i64 y63.1.f_Age, .int .i64 y63.1.f_Missed]⟩, errV 70 y63.2]⟩) rfl) (by exact rfl) rfl), (by intro H' m_ hH hm_ hu_; rintro _ rfl; refine depK_nil ?_; exact s_d (m_ 8) rfl (d_ext (vs := [.agg ⟨[.int .i64 y63.1.f_Kind, .int .u32 y63.1.f_Seen, .int .i64 y63.1.f_Age, .int .i64 y63.1.f_Missed]⟩, errV 70 y63.2]) rfl rfl) (by exact rfl) rfl), (by intro H' m_ hH hm_ hu_; rintro _ rfl; refine depK_nil ?_; exact s_d (m_ 9) rfl (d_ext (vs := [.agg ⟨[.int .i64 y63.1.f_Kind, .int .u32 y63.1.f_Seen, .int .i64 y63.1.f_Age, .int .i64 y63.1.f_Missed]⟩, errV 70 y63.2]) rfl rfl) (by exact rfl) rfl), (by intro H' m_ hH hm_ hu_; refine depK_nil ?_; exact s_box hm_ rfl rfl (o_alloc zr52 rfl) rfl (fun _ => (pk_upd (hu_ 11 (by kernel_rfl)))) (by exact fun b_ => ⟨b_, rfl, rfl⟩)), (by intro H' m_ hH hm_ hu_; rintro _ rfl _ ⟨b67, rfl, hb67_⟩; refine depK_nil ?_; exact s_store2 (Λ' := fun z_ => z_ :: some (b_x, .cells ⟨[.int .i64 x_0, v_x_1, .int .i64 x_2]⟩ 60 (0, 0)) :: some (b_l, .cells ⟨[.int .i64 l_0, .int .u32 l_1, .int .i64 l_2, .int .i64 l_3]⟩ 52 (0, 0)) :: some (b_r_, .cells ⟨[.int .i64 r_0, .int .i64 r_1, .int .i64 r_2]⟩ 49 (0, 0)) :: L) (some (b67, .cells ⟨[.int .i64 y63.1.f_Kind, .int .u32 y63.1.f_Seen, .int .i64 y63.1.f_Age, .int .i64 y63.1.f_Missed]⟩ 52 (0, 0))) hm_ rfl hb67_ rfl (o_store (v := .agg ⟨[.int .i64 y63.1.f_Kind, .int .u32 y63.1.f_Seen, .int .i64 y63.1.f_Age, .int .i64 y63.1.f_Missed]⟩) sz52 rfl rfl rfl rfl (one_cons rfl (one_cons rfl (one_cons rfl (one_cons rfl one_nil)))) .here (.here (.here (.here (.here .done))))) rfl rfl (by exact ⟨rfl, congrArg (fun b_ => (some (b_, Obj.cells ⟨[.int .i64 y63.1.f_Kind, .int .u32 y63.1.f_Seen, .int .i64 y63.1.f_Age, .int .i64 y63.1.f_Missed]⟩ 52 (0, 0)) : Item')) (bof_eq hb67_).symm⟩)), trivial⟩ ?_
  intro H70 e71
  rintro _ _ rfl _ _ rfl _ _ rfl _ _ rfl _ _ rfl _ _ rfl _ _ rfl _ _ rfl _ _ rfl _ _ rfl _ _ ⟨b67, rfl, rfl⟩ _ i68 ⟨rfl, h69⟩
  replace h69 : i68 = some (b67, .cells ⟨[.int .i64 y63.1.f_Kind, .int .u32 y63.1.f_Seen, .int .i64 y63.1.f_Age, .int .i64 y63.1.f_Missed]⟩ 52 (0, 0)) := h69
  subst h69
  refine w_it (L' := some (b67, .cells ⟨[.int .i64 y63.1.f_Kind, .int .u32 y63.1.f_Seen, .int .i64 y63.1.f_Age, .int .i64 y63.1.f_Missed]⟩ 52 (0, 0)) :: some (b_x, .cells ⟨[.int .i64 x_0, v_x_1, .int .i64 x_2]⟩ 60 (0, 0)) :: some (b_l, .cells ⟨[.int .i64 l_0, .int .u32 l_1, .int .i64 l_2, .int .i64 l_3]⟩ 52 (0, 0)) :: some (b_r_, .cells ⟨[.int .i64 r_0, .int .i64 r_1, .int .i64 r_2]⟩ 49 (0, 0)) :: L) rfl ?_
  refine w_d rfl (d_assign (v := errV 70 y63.2) rfl) ?_
  refine w_done ?_
  refine w_seq ?_
  refine w_seq ?_
  obtain ⟨y72, hy73, he⟩ := Option.bind_eq_some_iff.1 he
  refine w_drawn (p := 3) (tl := [3, 4]) [[], [(0, some 84)], []] [some 84, some 85, some 86] (fctF [.is (.agg ⟨[.int .i64 l_0, .int .u32 l_1, .int .i64 l_2, .int .i64 l_3]⟩), .is (.bool y72), .is (.agg ⟨[.int .i64 x_0, v_x_1, .int .i64 x_2]⟩)]) (fun m_ => some (b67, .cells ⟨[.int .i64 y63.1.f_Kind, .int .u32 y63.1.f_Seen, .int .i64 y63.1.f_Age, .int .i64 y63.1.f_Missed]⟩ 52 (0, 0)) :: some (b_x, .cells ⟨[.int .i64 x_0, v_x_1, .int .i64 x_2]⟩ 60 (0, 0)) :: some (b_l, .cells ⟨[.int .i64 l_0, .int .u32 l_1, .int .i64 l_2, .int .i64 l_3]⟩ 52 (0, 0)) :: some (b_r_, .cells ⟨[.int .i64 r_0, .int .i64 r_1, .int .i64 r_2]⟩ 49 (0, 0)) :: L) (fun _ => none) mixed (by kernel_rfl) (by kernel_rfl) rfl (fct_mono (by kernel_rfl)) ⟨(by intro H' m_ hH hm_ hu_; refine depK_nil ?_; exact s_d (m_ 0) rfl (d_loado (v := .agg ⟨[.int .i64 l_0, .int .u32 l_1, .int .i64 l_2, .int .i64 l_3]⟩) ty52 rfl (.there (.there .here)) rfl rfl rfl rfl) (by exact rfl) rfl), (by intro H' m_ hH hm_ hu_; rintro _ rfl; refine depK_nil ?_; exact s_d (m_ 1) rfl (call_d (o_call co31 (vs := [.agg ⟨[.int .i64 l_0, .int .u32 l_1, .int .i64 l_2, .int .i64 l_3]⟩]) rfl (life_Gone.calls k (l := (⟨l_0, l_1, l_2, l_3⟩ : life_Life)) hy73))) (by exact rfl) rfl), (by intro H' m_ hH hm_ hu_; refine depK_nil ?_; exact s_d (m_ 2) rfl (d_loado (v := .agg ⟨[.int .i64 x_0, v_x_1, .int .i64 x_2]⟩) ty60 rfl (.there .here) rfl rfl rfl rfl) (by exact rfl) rfl), trivial⟩ ?_
  intro H76 e77
  rintro _ _ rfl _ _ rfl _ _ rfl
  obtain ⟨y78, hy79, he⟩ := Option.bind_eq_some_iff.1 he
  refine w_d rfl (call_d (o_call co32 (vs := [.agg ⟨[.int .i64 x_0, v_x_1, .int .i64 x_2]⟩]) rfl (radomeref23_Gone.calls k (l := (⟨x_0, x_1, x_2⟩ : radomeref23_Life)) hy79 (h_x_1.mono (e71.trans e77))))) ?_
  refine w_d rfl (d_neb (a := y72) (b := y78) Tryd.underlying4 rfl rfl) ?_
  refine w_done ?_
  rcases its he with ⟨c82, he⟩ | ⟨c82, he⟩
  ·
   refine w_then rfl c82 ?_
   refine w_seq ?_
   refine w_region rfl ?_
   refine w_d rfl (d_assign (v := .bool false) rfl) ?_
   refine w_done ?_
   obtain rfl := Option.some.inj he
   refine w_return fn_5 rs_5 (.tmp (v := .bool false) rfl .nil) ?_
   exact ⟨⟨[_, _, _, _], rfl⟩, hle.trans (e71.trans e77), rfl⟩
  ·
   refine w_else rfl (Bool.eq_false_iff.2 c82) ?_
   refine w_skip ?_
   refine w_seq ?_
   refine w_seq ?_
   refine w_region rfl ?_
   refine w_d rfl (d_loado (v := .agg ⟨[.int .i64 x_0, v_x_1, .int .i64 x_2]⟩) ty60 rfl (.there .here) rfl rfl rfl rfl) ?_
   obtain ⟨y83, hy84, he⟩ := Option.bind_eq_some_iff.1 he
   refine w_d rfl (call_d (o_call co32 (vs := [.agg ⟨[.int .i64 x_0, v_x_1, .int .i64 x_2]⟩]) rfl (radomeref23_Gone.calls k (l := (⟨x_0, x_1, x_2⟩ : radomeref23_Life)) hy84 (h_x_1.mono (e71.trans e77))))) ?_
   refine w_done ?_
   rcases its he with ⟨c87, he⟩ | ⟨c87, he⟩
   ·
    refine w_then rfl c87 ?_
    refine w_seq ?_
    refine w_region rfl ?_
    refine w_d rfl (d_move (v := errV 70 y63.2) rfl) ?_
    refine w_d rfl (call_d (o_call co26 (vs := [errV 70 y63.2]) rfl (num26.calls (hG.mono (e71.trans e77)) rfl))) ?_
    refine w_d rfl (d_eql rfl rfl) ?_
    refine w_d rfl (d_move (v := .bool (decide ((errN y63.2) = 14))) rfl) ?_
    refine w_g (g := decide ((errN y63.2) = 14)) rfl rfl rfl wn_t (fun g88 => d_loado (v := .agg ⟨[.int .i64 y63.1.f_Kind, .int .u32 y63.1.f_Seen, .int .i64 y63.1.f_Age, .int .i64 y63.1.f_Missed]⟩) ty52 rfl .here rfl rfl rfl rfl) ?_
    refine w_g (g := decide ((errN y63.2) = 14)) rfl rfl rfl wn_t (fun g89 => d_build (cs' := [.int .i64 0, .int .u32 0, .int .i64 0, .int .i64 0]) Tryd.underlying52 zr52 rfl (by kernel_rfl) (parts := []) rfl .nil) ?_
    refine w_g (g := decide ((errN y63.2) = 14)) rfl rfl rfl wn_t (fun g90 => d_eqst (by kernel_rfl) (cvt g90) (cvt g90) (eqv_st Tryd.underlying52 (by kernel_rfl) (eqf_cons rfl (eqp_int Tryd.underlying3 rfl rfl) (eqf_cons rfl (eqp_int Tryd.underlying37 rfl rfl) (eqf_cons rfl (eqp_int Tryd.underlying3 rfl rfl) (eqf_last rfl (eqp_int Tryd.underlying3 rfl rfl))))))) ?_
    refine w_d rfl (d_and' (b := (decide ((errN y63.2) = 14))) (p := (decide (y63.1.f_Kind = 0) && (decide (y63.1.f_Seen = 0) && (decide (y63.1.f_Age = 0) && (decide (y63.1.f_Missed = 0)))))) rfl rfl rfl) ?_
    refine w_d rfl (d_move (v := .bool ((decide ((errN y63.2) = 14)) && (decide (y63.1.f_Kind = 0) && (decide (y63.1.f_Seen = 0) && (decide (y63.1.f_Age = 0) && (decide (y63.1.f_Missed = 0))))))) rfl) ?_
    obtain ⟨y92, hy93, he⟩ := Option.bind_eq_some_iff.1 he
    refine w_g (g := (decide ((errN y63.2) = 14)) && (decide (y63.1.f_Kind = 0) && (decide (y63.1.f_Seen = 0) && (decide (y63.1.f_Age = 0) && (decide (y63.1.f_Missed = 0)))))) rfl rfl rfl wn_t (fun g91 => call_d (o_call co28 (vs := []) rfl (radomelaw23_sure.calls k (gd_t g91 hy93)))) ?_
    refine w_d rfl (d_and' (b := ((decide ((errN y63.2) = 14)) && (decide (y63.1.f_Kind = 0) && (decide (y63.1.f_Seen = 0) && (decide (y63.1.f_Age = 0) && (decide (y63.1.f_Missed = 0))))))) (p := y92) rfl rfl rfl) ?_
    refine w_d rfl (d_assign (v := .bool (((decide ((errN y63.2) = 14)) && (decide (y63.1.f_Kind = 0) && (decide (y63.1.f_Seen = 0) && (decide (y63.1.f_Age = 0) && (decide (y63.1.f_Missed = 0)))))) && y92)) rfl) ?_
    refine w_done ?_
    obtain rfl := Option.some.inj he
    refine w_return fn_5 rs_5 (.tmp (v := .bool (((decide ((errN y63.2) = 14)) && (decide (y63.1.f_Kind = 0) && (decide (y63.1.f_Seen = 0) && (decide (y63.1.f_Age = 0) && (decide (y63.1.f_Missed = 0)))))) && y92)) rfl .nil) ?_
    exact ⟨⟨[_, _, _, _], rfl⟩, hle.trans (e71.trans e77), rfl⟩
   ·
    refine w_else rfl (Bool.eq_false_iff.2 c87) ?_
    refine w_skip ?_
    refine w_seq ?_
    obtain ⟨c96, he⟩ := rq he
    refine w_drawn (p := 6) (tl := [6, 7]) [[], [], [], [], [(2, some 104), (3, some 105)], [(4, some 106)]] [some 102, some 103, some 104, some 105, some 106, some 107] (fctF [.is (.agg ⟨[.int .i64 r_0, .int .i64 r_1, .int .i64 r_2]⟩), .is (.agg ⟨[.int .i64 x_0, v_x_1, .int .i64 x_2]⟩), .is (v_hits), .is (.int .i64 i), .is (.pointer (some (pel v_hits i 1))), .is (.bool (rd hits i))]) (fun m_ => some (b67, .cells ⟨[.int .i64 y63.1.f_Kind, .int .u32 y63.1.f_Seen, .int .i64 y63.1.f_Age, .int .i64 y63.1.f_Missed]⟩ 52 (0, 0)) :: some (b_x, .cells ⟨[.int .i64 x_0, v_x_1, .int .i64 x_2]⟩ 60 (0, 0)) :: some (b_l, .cells ⟨[.int .i64 l_0, .int .u32 l_1, .int .i64 l_2, .int .i64 l_3]⟩ 52 (0, 0)) :: some (b_r_, .cells ⟨[.int .i64 r_0, .int .i64 r_1, .int .i64 r_2]⟩ 49 (0, 0)) :: L) (fun _ => none) mixed (by kernel_rfl) (by kernel_rfl) rfl (fct_mono (by kernel_rfl)) ⟨(by intro H' m_ hH hm_ hu_; refine depK_nil ?_; exact s_d (m_ 0) rfl (d_loado (v := .agg ⟨[.int .i64 r_0, .int .i64 r_1, .int .i64 r_2]⟩) ty49 rfl (.there (.there (.there .here))) rfl rfl rfl rfl) (by exact rfl) rfl), (by intro H' m_ hH hm_ hu_; refine depK_nil ?_; exact s_d (m_ 1) rfl (d_loado (v := .agg ⟨[.int .i64 x_0, v_x_1, .int .i64 x_2]⟩) ty60 rfl (.there .here) rfl rfl rfl rfl) (by exact rfl) rfl), (by intro H' m_ hH hm_ hu_; refine depK_nil ?_; exact s_d (m_ 2) rfl (d_move (v := v_hits) rfl) (by exact rfl) rfl), (by intro H' m_ hH hm_ hu_; refine depK_nil ?_; exact s_d (m_ 3) rfl (d_move (v := .int .i64 i) rfl) (by exact rfl) rfl), (by intro H' m_ hH hm_ hu_; rintro _ rfl _ rfl; refine depK_nil ?_; exact s_d (m_ 4) rfl (d_index (sz := 1) Tryd.underlying50 sz4 rfl (h_hits.mono ((e71.trans e77).trans hH)).src rfl c96) (by exact rfl) rfl), (by intro H' m_ hH hm_ hu_; rintro _ rfl; refine depK_nil ?_; exact s_d (m_ 5) rfl (d_ldbool ty4 rfl (h_hits.mono ((e71.trans e77).trans hH)).src c96) (by exact rfl) rfl), trivial⟩ ?_
    intro H97 e98
    rintro _ _ rfl _ _ rfl _ _ rfl _ _ rfl _ _ rfl _ _ rfl
    obtain ⟨y99, hy100, he⟩ := Option.bind_eq_some_iff.1 he
    refine w_a rfl (o_call co33 (vs := [.agg ⟨[.int .i64 r_0, .int .i64 r_1, .int .i64 r_2]⟩, .agg ⟨[.int .i64 x_0, v_x_1, .int .i64 x_2]⟩, .bool (rd hits i)]) rfl (radomeref23_Next.calls k (r_ := (⟨r_0, r_1, r_2⟩ : radomeref23_Rule)) (l := (⟨x_0, x_1, x_2⟩ : radomeref23_Life)) hy100 (h_x_1.mono ((e71.trans e77).trans e98)))) ?_
    rintro _ H101 _ ⟨rfl, e102, ⟨v103, rfl, h104⟩⟩
    refine w_a0 rfl (o_store (v := .agg ⟨[.int .i64 y99.f_Kind, v103, .int .i64 y99.f_Missed]⟩) sz60 rfl rfl rfl rfl (one_cons rfl (one_cons (h104.one) (one_cons rfl one_nil))) (.there .here) (.here (.here (.here .done)))) ?_
    rintro _ _ _ ⟨rfl, rfl, rfl⟩
    refine w_done ?_
    refine w_seq ?_
    refine w_seq ?_
    refine w_region rfl ?_
    refine w_d rfl (d_move (v := errV 70 y63.2) rfl) ?_
    refine w_d rfl (d_nenil (e := y63.2) Tryd.underlying24 rfl) ?_
    refine w_d rfl (d_move (v := .bool y63.2.isSome) rfl) ?_
    refine w_g (g := !y63.2.isSome) rfl rfl rfl wn_f (fun g105 => d_loado (v := .agg ⟨[.int .i64 y63.1.f_Kind, .int .u32 y63.1.f_Seen, .int .i64 y63.1.f_Age, .int .i64 y63.1.f_Missed]⟩) ty52 rfl .here rfl rfl rfl rfl) ?_
    refine w_g (g := !y63.2.isSome) rfl rfl rfl wn_f (fun g106 => d_loado (v := .agg ⟨[.int .i64 y99.f_Kind, v103, .int .i64 y99.f_Missed]⟩) ty60 rfl (.there .here) rfl rfl rfl rfl) ?_
    obtain ⟨y108, hy109, he⟩ := Option.bind_eq_some_iff.1 he
    refine w_g (g := !y63.2.isSome) rfl rfl rfl wn_f (fun g107 => call_d (o_call co30 (vs := [.agg ⟨[.int .i64 y63.1.f_Kind, .int .u32 y63.1.f_Seen, .int .i64 y63.1.f_Age, .int .i64 y63.1.f_Missed]⟩, .agg ⟨[.int .i64 y99.f_Kind, v103, .int .i64 y99.f_Missed]⟩]) (acons (cvt g107) (acons (cvt g107) (anil))) (radomelaw23_is.calls k (a := (⟨y63.1.f_Kind, y63.1.f_Seen, y63.1.f_Age, y63.1.f_Missed⟩ : life_Life)) (b := (⟨y99.f_Kind, y99.f_Seen, y99.f_Missed⟩ : radomeref23_Life)) (gd_t g107 hy109) h104))) ?_
    refine w_g (g := !y63.2.isSome) rfl rfl rfl wn_f (fun g112 => d_not (b := y108) (cvt g112)) ?_
    refine w_d rfl (d_or' (b := y63.2.isSome) (p := (!y108)) rfl rfl rfl) ?_
    refine w_d rfl (d_move (v := .bool (y63.2.isSome || (!y108))) rfl) ?_
    refine w_g (g := !(y63.2.isSome || (!y108))) rfl rfl rfl wn_f (fun g113 => d_loado (v := .agg ⟨[.int .i64 r_0, .int .i64 r_1, .int .i64 r_2]⟩) ty49 rfl (.there (.there (.there .here))) rfl rfl rfl rfl) ?_
    refine w_g (g := !(y63.2.isSome || (!y108))) rfl rfl rfl wn_f (fun g114 => d_loado (v := .agg ⟨[.int .i64 y63.1.f_Kind, .int .u32 y63.1.f_Seen, .int .i64 y63.1.f_Age, .int .i64 y63.1.f_Missed]⟩) ty52 rfl .here rfl rfl rfl rfl) ?_
    obtain ⟨y116, hy117, he⟩ := Option.bind_eq_some_iff.1 he
    refine w_g (g := !(y63.2.isSome || (!y108))) rfl rfl rfl wn_f (fun g115 => call_d (o_call co34 (vs := [.agg ⟨[.int .i64 r_0, .int .i64 r_1, .int .i64 r_2]⟩, .agg ⟨[.int .i64 y63.1.f_Kind, .int .u32 y63.1.f_Seen, .int .i64 y63.1.f_Age, .int .i64 y63.1.f_Missed]⟩]) (acons (cvt g115) (acons (cvt g115) (anil))) (life_May.calls k (r_ := (⟨r_0, r_1, r_2⟩ : life_Rule)) (l := (⟨y63.1.f_Kind, y63.1.f_Seen, y63.1.f_Age, y63.1.f_Missed⟩ : life_Life)) (gd_t g115 hy117)))) ?_
    refine w_g (g := !(y63.2.isSome || (!y108))) rfl rfl rfl wn_f (fun g120 => d_nenil (e := y116) Tryd.underlying24 (cvt g120)) ?_
    refine w_d rfl (d_or' (b := (y63.2.isSome || (!y108))) (p := y116.isSome) rfl rfl rfl) ?_
    refine w_done ?_
    rcases its he with ⟨c121, he⟩ | ⟨c121, he⟩
    ·
     refine w_then rfl c121 ?_
     refine w_seq ?_
     refine w_region rfl ?_
     refine w_d rfl (d_assign (v := .bool false) rfl) ?_
     refine w_done ?_
     obtain rfl := Option.some.inj he
     refine w_return fn_5 rs_5 (.tmp (v := .bool false) rfl .nil) ?_
     exact ⟨⟨[_, _, _, _], rfl⟩, hle.trans (((e71.trans e77).trans e98).trans e102), rfl⟩
    ·
     refine w_else rfl (Bool.eq_false_iff.2 c121) ?_
     refine w_skip ?_
     refine w_region rfl ?_
     refine w_d rfl (d_loado (v := .agg ⟨[.int .i64 y63.1.f_Kind, .int .u32 y63.1.f_Seen, .int .i64 y63.1.f_Age, .int .i64 y63.1.f_Missed]⟩) ty52 rfl .here rfl rfl rfl rfl) ?_
     refine w_a0 rfl (o_store (v := .agg ⟨[.int .i64 y63.1.f_Kind, .int .u32 y63.1.f_Seen, .int .i64 y63.1.f_Age, .int .i64 y63.1.f_Missed]⟩) sz52 rfl rfl rfl rfl (one_cons rfl (one_cons rfl (one_cons rfl (one_cons rfl one_nil)))) (.there (.there .here)) (.here (.here (.here (.here .done))))) ?_
     rintro _ _ _ ⟨rfl, rfl, rfl⟩
     refine w_done ?_
     refine w_inBlock ?_
     refine w_region rfl ?_
     refine w_d rfl (d_move (v := .int .i64 i) rfl) ?_
     refine w_d rfl (d_add (c := w64 (i + 1)) rfl rfl rfl) ?_
     refine w_d rfl (d_assign (v := .int .i64 (w64 (i + 1))) rfl) ?_
     refine w_done ?_
     refine w_inLoop ?_
     refine w_del .here ?_
     refine w_sl 1 (v_hits) rfl ?_
     refine w_sl 2 (.pointer (some ⟨b_r_, 0, none⟩)) rfl ?_
     refine w_sl 4 (.bool t4) rfl ?_
     refine w_sl 5 (.pointer (some ⟨b_l, 0, none⟩)) rfl ?_
     refine w_sl 9 (.pointer (some ⟨b_x, 0, none⟩)) rfl ?_
     refine w_sl 10 (.int .i64 (w64 (i + 1))) rfl ?_
     exact hh.l0 (hle.trans (((e71.trans e77).trans e98).trans e102)) (hG.mono (((e71.trans e77).trans e98).trans e102)) he (h_hits.mono (((e71.trans e77).trans e98).trans e102)) h104
 ·
  refine w_else rfl (Bool.eq_false_iff.2 c61) ?_
  refine w_exit rfl ?_
  refine w_seq ?_
  refine w_region rfl ?_
  obtain ⟨y122, hy123, he⟩ := Option.bind_eq_some_iff.1 he
  refine w_d rfl (call_d (o_call co28 (vs := []) rfl (radomelaw23_sure.calls k hy123))) ?_
  refine w_d rfl (d_assign (v := .bool y122) rfl) ?_
  refine w_done ?_
  obtain rfl := Option.some.inj he
  refine w_return fn_5 rs_5 (.tmp (v := .bool y122) rfl .nil) ?_
  exact ⟨⟨[_, _, _], rfl⟩, hle, rfl⟩
theorem radomelaw23_LifeRuns.ok : ∀ k, radomelaw23_LifeRuns.OK (radomelaw23_LifeRuns.hs k)
 | 0 => ⟨(by intros; exact nomatch (show none = some _ from by assumption))⟩
 | k + 1 => ⟨radomelaw23_LifeRuns.b0_ok (k := k) (radomelaw23_LifeRuns.ok k)⟩
set_option maxRecDepth 100000 in
set_option maxHeartbeats 2000000 in
theorem radomelaw23_LifeRuns.calls (k : Nat) {H : Hp} {L : Items} {r_ : radomeref23_Rule} {hits : List Bool} {v0_hits : Value} {r : Bool} (hG : GH H) (he : radomelaw23_LifeRuns.f k r_ hits = some r) (h0_hits : Ro Kd.bool H v0_hits hits) : Ct Tryd.prog 5 ⟨[.agg ⟨[.int .i64 r_.f_Hits, .int .i64 r_.f_Window, .int .i64 r_.f_Misses]⟩, v0_hits]⟩ H L (fun v H' L' => L = L' ∧ H = H' ∧ v = .bool r) := by
 refine ct_outs (O := radomelaw23_LifeRuns.out r) (fun _ _ h => h) ?_
 have hle : H.le H := .refl _
 have hh := radomelaw23_LifeRuns.ok k
 unfold radomelaw23_LifeRuns.f at he
 refine ct_enter (args := [.agg ⟨[.int .i64 r_.f_Hits, .int .i64 r_.f_Window, .int .i64 r_.f_Misses]⟩, v0_hits]) fn_5 rfl nt_5 rfl ?_
 refine w_seq ?_
 refine w_region rfl ?_
 refine w_a rfl (o_box (v := .agg ⟨[.int .i64 r_.f_Hits, .int .i64 r_.f_Window, .int .i64 r_.f_Misses]⟩) rfl rfl) ?_
 rintro _ _ _ ⟨b1, rfl, rfl, rfl⟩
 refine w_d rfl (d_assign (v := .bool false) rfl) ?_
 refine w_done ?_
 refine w_seq ?_
 refine w_region rfl ?_
 refine w_d rfl (d_loado (v := .agg ⟨[.int .i64 r_.f_Hits, .int .i64 r_.f_Window, .int .i64 r_.f_Misses]⟩) ty49 rfl .here rfl rfl rfl rfl) ?_
 obtain ⟨y2, hy3, he⟩ := Option.bind_eq_some_iff.1 he
 refine w_d rfl (call_d (o_call co23 (vs := [.agg ⟨[.int .i64 r_.f_Hits, .int .i64 r_.f_Window, .int .i64 r_.f_Misses]⟩]) rfl (life_Born.calls k (r_ := (⟨r_.f_Hits, r_.f_Window, r_.f_Misses⟩ : life_Rule)) hy3))) ?_
 refine w_d rfl (d_move (v := .tuple ⟨[.agg ⟨[.int .i64 y2.1.f_Kind, .int .u32 y2.1.f_Seen, .int .i64 y2.1.f_Age, .int .i64 y2.1.f_Missed]⟩, errV 70 y2.2]⟩) rfl) ?_
 refine w_d rfl (d_ext (vs := [.agg ⟨[.int .i64 y2.1.f_Kind, .int .u32 y2.1.f_Seen, .int .i64 y2.1.f_Age, .int .i64 y2.1.f_Missed]⟩, errV 70 y2.2]) rfl rfl) ?_
 refine w_d rfl (d_ext (vs := [.agg ⟨[.int .i64 y2.1.f_Kind, .int .u32 y2.1.f_Seen, .int .i64 y2.1.f_Age, .int .i64 y2.1.f_Missed]⟩, errV 70 y2.2]) rfl rfl) ?_
 refine w_a rfl (o_alloc zr52 rfl) ?_
 rintro _ _ _ ⟨b6, rfl, rfl, rfl⟩
 refine w_a0 rfl (o_store (v := .agg ⟨[.int .i64 y2.1.f_Kind, .int .u32 y2.1.f_Seen, .int .i64 y2.1.f_Age, .int .i64 y2.1.f_Missed]⟩) sz52 rfl rfl rfl rfl (one_cons rfl (one_cons rfl (one_cons rfl (one_cons rfl one_nil)))) .here (.here (.here (.here (.here .done))))) ?_
 rintro _ _ _ ⟨rfl, rfl, rfl⟩
 refine w_d rfl (d_assign (v := errV 70 y2.2) rfl) ?_
 refine w_done ?_
 refine w_seq ?_
 refine w_seq ?_
 refine w_region rfl ?_
 refine w_d rfl (d_loado (v := .agg ⟨[.int .i64 r_.f_Hits, .int .i64 r_.f_Window, .int .i64 r_.f_Misses]⟩) ty49 rfl (.there .here) rfl rfl rfl rfl) ?_
 obtain ⟨y7, hy8, he⟩ := Option.bind_eq_some_iff.1 he
 refine w_d rfl (call_d (o_call co24 (vs := [.agg ⟨[.int .i64 r_.f_Hits, .int .i64 r_.f_Window, .int .i64 r_.f_Misses]⟩]) rfl (radomeref23_Check.calls k (r_ := (⟨r_.f_Hits, r_.f_Window, r_.f_Misses⟩ : radomeref23_Rule)) hy8))) ?_
 refine w_d rfl (d_not (b := y7) rfl) ?_
 refine w_done ?_
 rcases its he with ⟨c11, he⟩ | ⟨c11, he⟩
 ·
  refine w_then rfl c11 ?_
  refine w_seq ?_
  refine w_region rfl ?_
  refine w_d rfl (d_loado (v := .agg ⟨[.int .i64 r_.f_Hits, .int .i64 r_.f_Window, .int .i64 r_.f_Misses]⟩) ty49 rfl (.there .here) rfl rfl rfl rfl) ?_
  refine w_d rfl (d_build (cs' := [.int .i64 0, .int .u32 1, .int .i64 1, .int .i64 0]) Tryd.underlying52 zr52 rfl (by kernel_rfl) (parts := [(2, .int .i64 1), (1, .int .u32 1)]) rfl (.cons (place_of rfl sz3 rfl) rfl rfl (.there (.there (.here .done))) (.cons (place_of rfl sz37 rfl) rfl rfl (.there (.here .done)) .nil))) ?_
  obtain ⟨y12, hy13, he⟩ := Option.bind_eq_some_iff.1 he
  refine w_d rfl (call_d (o_call co25 (vs := [.agg ⟨[.int .i64 r_.f_Hits, .int .i64 r_.f_Window, .int .i64 r_.f_Misses]⟩, .agg ⟨[.int .i64 0, .int .u32 1, .int .i64 1, .int .i64 0]⟩, .bool true]) rfl (life_Next.calls k (r_ := (⟨r_.f_Hits, r_.f_Window, r_.f_Misses⟩ : life_Rule)) (l := (⟨0, 1, 1, 0⟩ : life_Life)) hy13))) ?_
  refine w_d rfl (d_move (v := .tuple ⟨[.agg ⟨[.int .i64 y12.1.f_Kind, .int .u32 y12.1.f_Seen, .int .i64 y12.1.f_Age, .int .i64 y12.1.f_Missed]⟩, errV 70 y12.2]⟩) rfl) ?_
  refine w_d rfl (d_ext (vs := [.agg ⟨[.int .i64 y12.1.f_Kind, .int .u32 y12.1.f_Seen, .int .i64 y12.1.f_Age, .int .i64 y12.1.f_Missed]⟩, errV 70 y12.2]) rfl rfl) ?_
  refine w_d rfl (d_ext (vs := [.agg ⟨[.int .i64 y12.1.f_Kind, .int .u32 y12.1.f_Seen, .int .i64 y12.1.f_Age, .int .i64 y12.1.f_Missed]⟩, errV 70 y12.2]) rfl rfl) ?_
  refine w_a rfl (o_alloc zr52 rfl) ?_
  rintro _ _ _ ⟨b16, rfl, rfl, rfl⟩
  refine w_a0 rfl (o_store (v := .agg ⟨[.int .i64 y12.1.f_Kind, .int .u32 y12.1.f_Seen, .int .i64 y12.1.f_Age, .int .i64 y12.1.f_Missed]⟩) sz52 rfl rfl rfl rfl (one_cons rfl (one_cons rfl (one_cons rfl (one_cons rfl one_nil)))) .here (.here (.here (.here (.here .done))))) ?_
  rintro _ _ _ ⟨rfl, rfl, rfl⟩
  refine w_d rfl (d_assign (v := errV 70 y12.2) rfl) ?_
  refine w_done ?_
  refine w_seq ?_
  refine w_region rfl ?_
  refine w_d rfl (d_move (v := errV 70 y2.2) rfl) ?_
  refine w_d rfl (call_d (o_call co26 (vs := [errV 70 y2.2]) rfl (num26.calls (hG) rfl))) ?_
  refine w_d rfl (d_eql rfl rfl) ?_
  refine w_d rfl (d_move (v := .bool (decide ((errN y2.2) = 1))) rfl) ?_
  refine w_g (g := decide ((errN y2.2) = 1)) rfl rfl rfl wn_t (fun g17 => d_move (v := errV 70 y12.2) rfl) ?_
  refine w_g (g := decide ((errN y2.2) = 1)) rfl rfl rfl wn_t (fun g18 => call_d (o_call co26 (vs := [errV 70 y12.2]) (acons (cvt g18) (anil)) (num26.calls (hG) rfl))) ?_
  refine w_g (g := decide ((errN y2.2) = 1)) rfl rfl rfl wn_t (fun g19 => d_eql (cvt g19) rfl) ?_
  refine w_d rfl (d_and' (b := (decide ((errN y2.2) = 1))) (p := (decide ((errN y12.2) = 1))) rfl rfl rfl) ?_
  refine w_d rfl (d_move (v := .bool ((decide ((errN y2.2) = 1)) && (decide ((errN y12.2) = 1)))) rfl) ?_
  refine w_g (g := (decide ((errN y2.2) = 1)) && (decide ((errN y12.2) = 1))) rfl rfl rfl wn_t (fun g20 => d_loado (v := .agg ⟨[.int .i64 r_.f_Hits, .int .i64 r_.f_Window, .int .i64 r_.f_Misses]⟩) ty49 rfl (.there (.there .here)) rfl rfl rfl rfl) ?_
  obtain ⟨y22, hy23, he⟩ := Option.bind_eq_some_iff.1 he
  refine w_g (g := (decide ((errN y2.2) = 1)) && (decide ((errN y12.2) = 1))) rfl rfl rfl wn_t (fun g21 => call_d (o_call co27 (vs := [.agg ⟨[.int .i64 r_.f_Hits, .int .i64 r_.f_Window, .int .i64 r_.f_Misses]⟩]) (acons (cvt g21) (anil)) (life_Check.calls k (r_ := (⟨r_.f_Hits, r_.f_Window, r_.f_Misses⟩ : life_Rule)) (gd_t g21 hy23)))) ?_
  refine w_g (g := (decide ((errN y2.2) = 1)) && (decide ((errN y12.2) = 1))) rfl rfl rfl wn_t (fun g26 => call_d (o_call co26 (vs := [errV 70 y22]) (acons (cvt g26) (anil)) (num26.calls (hG) rfl))) ?_
  refine w_g (g := (decide ((errN y2.2) = 1)) && (decide ((errN y12.2) = 1))) rfl rfl rfl wn_t (fun g27 => d_eql (cvt g27) rfl) ?_
  refine w_d rfl (d_and' (b := ((decide ((errN y2.2) = 1)) && (decide ((errN y12.2) = 1)))) (p := (decide ((errN y22) = 1))) rfl rfl rfl) ?_
  refine w_d rfl (d_move (v := .bool (((decide ((errN y2.2) = 1)) && (decide ((errN y12.2) = 1))) && (decide ((errN y22) = 1)))) rfl) ?_
  refine w_g (g := ((decide ((errN y2.2) = 1)) && (decide ((errN y12.2) = 1))) && (decide ((errN y22) = 1))) rfl rfl rfl wn_t (fun g28 => d_loado (v := .agg ⟨[.int .i64 y2.1.f_Kind, .int .u32 y2.1.f_Seen, .int .i64 y2.1.f_Age, .int .i64 y2.1.f_Missed]⟩) ty52 rfl (.there .here) rfl rfl rfl rfl) ?_
  refine w_g (g := ((decide ((errN y2.2) = 1)) && (decide ((errN y12.2) = 1))) && (decide ((errN y22) = 1))) rfl rfl rfl wn_t (fun g29 => d_build (cs' := [.int .i64 0, .int .u32 0, .int .i64 0, .int .i64 0]) Tryd.underlying52 zr52 rfl (by kernel_rfl) (parts := []) rfl .nil) ?_
  refine w_g (g := ((decide ((errN y2.2) = 1)) && (decide ((errN y12.2) = 1))) && (decide ((errN y22) = 1))) rfl rfl rfl wn_t (fun g30 => d_eqst (by kernel_rfl) (cvt g30) (cvt g30) (eqv_st Tryd.underlying52 (by kernel_rfl) (eqf_cons rfl (eqp_int Tryd.underlying3 rfl rfl) (eqf_cons rfl (eqp_int Tryd.underlying37 rfl rfl) (eqf_cons rfl (eqp_int Tryd.underlying3 rfl rfl) (eqf_last rfl (eqp_int Tryd.underlying3 rfl rfl))))))) ?_
  refine w_d rfl (d_and' (b := (((decide ((errN y2.2) = 1)) && (decide ((errN y12.2) = 1))) && (decide ((errN y22) = 1)))) (p := (decide (y2.1.f_Kind = 0) && (decide (y2.1.f_Seen = 0) && (decide (y2.1.f_Age = 0) && (decide (y2.1.f_Missed = 0)))))) rfl rfl rfl) ?_
  refine w_d rfl (d_move (v := .bool ((((decide ((errN y2.2) = 1)) && (decide ((errN y12.2) = 1))) && (decide ((errN y22) = 1))) && (decide (y2.1.f_Kind = 0) && (decide (y2.1.f_Seen = 0) && (decide (y2.1.f_Age = 0) && (decide (y2.1.f_Missed = 0))))))) rfl) ?_
  obtain ⟨y32, hy33, he⟩ := Option.bind_eq_some_iff.1 he
  refine w_g (g := (((decide ((errN y2.2) = 1)) && (decide ((errN y12.2) = 1))) && (decide ((errN y22) = 1))) && (decide (y2.1.f_Kind = 0) && (decide (y2.1.f_Seen = 0) && (decide (y2.1.f_Age = 0) && (decide (y2.1.f_Missed = 0)))))) rfl rfl rfl wn_t (fun g31 => call_d (o_call co28 (vs := []) rfl (radomelaw23_sure.calls k (gd_t g31 hy33)))) ?_
  refine w_d rfl (d_and' (b := ((((decide ((errN y2.2) = 1)) && (decide ((errN y12.2) = 1))) && (decide ((errN y22) = 1))) && (decide (y2.1.f_Kind = 0) && (decide (y2.1.f_Seen = 0) && (decide (y2.1.f_Age = 0) && (decide (y2.1.f_Missed = 0))))))) (p := y32) rfl rfl rfl) ?_
  refine w_d rfl (d_assign (v := .bool (((((decide ((errN y2.2) = 1)) && (decide ((errN y12.2) = 1))) && (decide ((errN y22) = 1))) && (decide (y2.1.f_Kind = 0) && (decide (y2.1.f_Seen = 0) && (decide (y2.1.f_Age = 0) && (decide (y2.1.f_Missed = 0)))))) && y32)) rfl) ?_
  refine w_done ?_
  obtain rfl := Option.some.inj he
  refine w_return fn_5 rs_5 (.tmp (v := .bool (((((decide ((errN y2.2) = 1)) && (decide ((errN y12.2) = 1))) && (decide ((errN y22) = 1))) && (decide (y2.1.f_Kind = 0) && (decide (y2.1.f_Seen = 0) && (decide (y2.1.f_Age = 0) && (decide (y2.1.f_Missed = 0)))))) && y32)) rfl .nil) ?_
  exact ⟨⟨[_, _, _], rfl⟩, hle, rfl⟩
 ·
  refine w_else rfl (Bool.eq_false_iff.2 c11) ?_
  refine w_skip ?_
  refine w_seq ?_
  refine w_region rfl ?_
  refine w_d rfl (d_loado (v := .agg ⟨[.int .i64 r_.f_Hits, .int .i64 r_.f_Window, .int .i64 r_.f_Misses]⟩) ty49 rfl (.there .here) rfl rfl rfl rfl) ?_
  obtain ⟨y36, hy37, he⟩ := Option.bind_eq_some_iff.1 he
  refine w_a rfl (o_call co29 (vs := [.agg ⟨[.int .i64 r_.f_Hits, .int .i64 r_.f_Window, .int .i64 r_.f_Misses]⟩]) rfl (radomeref23_Born.calls k (r_ := (⟨r_.f_Hits, r_.f_Window, r_.f_Misses⟩ : radomeref23_Rule)) hy37)) ?_
  rintro _ H38 _ ⟨rfl, e39, ⟨v40, rfl, h41⟩⟩
  refine w_a rfl (o_alloc zr60 rfl) ?_
  rintro _ _ _ ⟨b42, rfl, rfl, rfl⟩
  refine w_a0 rfl (o_store (v := .agg ⟨[.int .i64 y36.f_Kind, v40, .int .i64 y36.f_Missed]⟩) sz60 rfl rfl rfl rfl (one_cons rfl (one_cons (h41.one) (one_cons rfl one_nil))) .here (.here (.here (.here .done)))) ?_
  rintro _ _ _ ⟨rfl, rfl, rfl⟩
  refine w_done ?_
  refine w_seq ?_
  refine w_seq ?_
  refine w_region rfl ?_
  refine w_d rfl (d_move (v := errV 70 y2.2) rfl) ?_
  refine w_d rfl (d_nenil (e := y2.2) Tryd.underlying24 rfl) ?_
  refine w_d rfl (d_move (v := .bool y2.2.isSome) rfl) ?_
  refine w_g (g := !y2.2.isSome) rfl rfl rfl wn_f (fun g43 => d_loado (v := .agg ⟨[.int .i64 y2.1.f_Kind, .int .u32 y2.1.f_Seen, .int .i64 y2.1.f_Age, .int .i64 y2.1.f_Missed]⟩) ty52 rfl (.there .here) rfl rfl rfl rfl) ?_
  refine w_g (g := !y2.2.isSome) rfl rfl rfl wn_f (fun g44 => d_loado (v := .agg ⟨[.int .i64 y36.f_Kind, v40, .int .i64 y36.f_Missed]⟩) ty60 rfl .here rfl rfl rfl rfl) ?_
  obtain ⟨y46, hy47, he⟩ := Option.bind_eq_some_iff.1 he
  refine w_g (g := !y2.2.isSome) rfl rfl rfl wn_f (fun g45 => call_d (o_call co30 (vs := [.agg ⟨[.int .i64 y2.1.f_Kind, .int .u32 y2.1.f_Seen, .int .i64 y2.1.f_Age, .int .i64 y2.1.f_Missed]⟩, .agg ⟨[.int .i64 y36.f_Kind, v40, .int .i64 y36.f_Missed]⟩]) (acons (cvt g45) (acons (cvt g45) (anil))) (radomelaw23_is.calls k (a := (⟨y2.1.f_Kind, y2.1.f_Seen, y2.1.f_Age, y2.1.f_Missed⟩ : life_Life)) (b := (⟨y36.f_Kind, y36.f_Seen, y36.f_Missed⟩ : radomeref23_Life)) (gd_t g45 hy47) h41))) ?_
  refine w_g (g := !y2.2.isSome) rfl rfl rfl wn_f (fun g50 => d_not (b := y46) (cvt g50)) ?_
  refine w_d rfl (d_or' (b := y2.2.isSome) (p := (!y46)) rfl rfl rfl) ?_
  refine w_d rfl (d_move (v := .bool (y2.2.isSome || (!y46))) rfl) ?_
  refine w_g (g := !(y2.2.isSome || (!y46))) rfl rfl rfl wn_f (fun g51 => d_loado (v := .agg ⟨[.int .i64 r_.f_Hits, .int .i64 r_.f_Window, .int .i64 r_.f_Misses]⟩) ty49 rfl (.there (.there .here)) rfl rfl rfl rfl) ?_
  obtain ⟨y53, hy54, he⟩ := Option.bind_eq_some_iff.1 he
  refine w_g (g := !(y2.2.isSome || (!y46))) rfl rfl rfl wn_f (fun g52 => call_d (o_call co27 (vs := [.agg ⟨[.int .i64 r_.f_Hits, .int .i64 r_.f_Window, .int .i64 r_.f_Misses]⟩]) (acons (cvt g52) (anil)) (life_Check.calls k (r_ := (⟨r_.f_Hits, r_.f_Window, r_.f_Misses⟩ : life_Rule)) (gd_t g52 hy54)))) ?_
  refine w_g (g := !(y2.2.isSome || (!y46))) rfl rfl rfl wn_f (fun g57 => d_nenil (e := y53) Tryd.underlying24 (cvt g57)) ?_
  refine w_d rfl (d_or' (b := (y2.2.isSome || (!y46))) (p := y53.isSome) rfl rfl rfl) ?_
  refine w_done ?_
  rcases its he with ⟨c58, he⟩ | ⟨c58, he⟩
  ·
   refine w_then rfl c58 ?_
   refine w_seq ?_
   refine w_region rfl ?_
   refine w_d rfl (d_assign (v := .bool false) rfl) ?_
   refine w_done ?_
   obtain rfl := Option.some.inj he
   refine w_return fn_5 rs_5 (.tmp (v := .bool false) rfl .nil) ?_
   exact ⟨⟨[_, _, _], rfl⟩, hle.trans e39, rfl⟩
  ·
   refine w_else rfl (Bool.eq_false_iff.2 c58) ?_
   refine w_skip ?_
   refine w_seq ?_
   refine w_seq ?_
   refine w_region rfl ?_
   refine w_d rfl (d_assign (v := .int .i64 0) rfl) ?_
   refine w_done ?_
   refine w_block ?_
   refine w_loop ?_
   refine w_sl 1 (v0_hits) rfl ?_
   refine w_sl 2 (.pointer (some ⟨b1, 0, none⟩)) rfl ?_
   refine w_sl 4 (.bool false) rfl ?_
   refine w_sl 5 (.pointer (some ⟨b6, 0, none⟩)) rfl ?_
   refine w_sl 9 (.pointer (some ⟨b42, 0, none⟩)) rfl ?_
   refine w_sl 10 (.int .i64 0) rfl ?_
   exact hh.l0 (hle.trans e39) (hG.mono e39) he (h0_hits.mono e39) h41
/-! ### radome/radomelaw23.LifeRaw -/
noncomputable def radomelaw23_LifeRaw.C : Code := (Tryd.f6.body).getD .skip
def radomelaw23_LifeRaw.out (r : Bool) (H : Hp) (v : Value) : Prop := v = .bool r
abbrev radomelaw23_LifeRaw.R (H0 : Hp) (L : Items) (r : Bool) : Value → Hp → Items → Prop := fun v H' L' => (∃ p, L' = p ++ L) ∧ H0.le H' ∧ radomelaw23_LifeRaw.out r H' v
structure radomelaw23_LifeRaw.Hs where
 l0 : Int → Int → Int → Int → Bool → Int → Int → Int → Option Bool
 l1 : Int → Int → Int → Int → Bool → Int → Int → Int → Int → Int → Int → Int → Bool → Int → Option Bool
noncomputable def radomelaw23_LifeRaw.b0 (k : Nat) (h : radomelaw23_LifeRaw.Hs)  (kind : Int) (r_0 : Int) (r_1 : Int) (r_2 : Int) (t6 : Bool) (age : Int) (missed : Int) (s : Int) : Option Bool := if s < 40 then ((radomeref23_Check.f k (⟨r_0, r_1, r_2⟩ : radomeref23_Rule)).bind fun y7 => h.l1 kind r_0 r_1 r_2 t6 age missed s kind s age missed ((((y7 && (decide (1 ≤ age))) && (decide (age ≤ r_1))) && (decide (0 ≤ kind))) && (decide (kind ≤ 4))) age) else ((radomelaw23_sure.f k).bind fun y21 => some (y21))
noncomputable def radomelaw23_LifeRaw.j4 (k : Nat) (h : radomelaw23_LifeRaw.Hs)  (kind : Int) (r_0 : Int) (r_1 : Int) (r_2 : Int) (t6 : Bool) (age : Int) (missed : Int) (s : Int) (l_0 : Int) (l_1 : Int) (l_2 : Int) (l_3 : Int) (fine : Bool) : Option Bool := (life_May.f k (⟨r_0, r_1, r_2⟩ : life_Rule) (⟨l_0, l_1, l_2, l_3⟩ : life_Life)).bind fun y51 => (life_Next.f k (⟨r_0, r_1, r_2⟩ : life_Rule) (⟨l_0, l_1, l_2, l_3⟩ : life_Life) true).bind fun y55 => (gd ((!((!(y51.isNone == fine)) || (y51.isSome && ((!decide ((errN y51) = 1)) || (!decide ((errN y55.2) = 1)))))) && y51.isNone) (life_Gone.f k (⟨l_0, l_1, l_2, l_3⟩ : life_Life)) (false)).bind fun y80 => if (((!(y51.isNone == fine)) || (y51.isSome && ((!decide ((errN y51) = 1)) || (!decide ((errN y55.2) = 1))))) || (y51.isNone && (!((decide ((errN y55.2) = 14)) == y80)))) = true then (some (false)) else (h.l0 kind r_0 r_1 r_2 t6 age missed ((s + 1) % 4294967296))
noncomputable def radomelaw23_LifeRaw.j3 (k : Nat) (h : radomelaw23_LifeRaw.Hs)  (kind : Int) (r_0 : Int) (r_1 : Int) (r_2 : Int) (t6 : Bool) (age : Int) (missed : Int) (s : Int) (l_0 : Int) (l_1 : Int) (l_2 : Int) (l_3 : Int) (fine : Bool) (t62 : Int) (t63 : Bool) : Option Bool := if t63 = true then (radomelaw23_LifeRaw.j4 k h kind r_0 r_1 r_2 t6 age missed s l_0 l_1 l_2 l_3 ((fine && (decide (0 ≤ missed))) && (decide (missed ≤ r_2)))) else (if t62 = 1 then (radomelaw23_LifeRaw.j4 k h kind r_0 r_1 r_2 t6 age missed s l_0 l_1 l_2 l_3 (fine && (decide (missed = 0)))) else (if t62 = 2 then (radomelaw23_LifeRaw.j4 k h kind r_0 r_1 r_2 t6 age missed s l_0 l_1 l_2 l_3 ((fine && (decide (1 ≤ missed))) && (decide (missed < r_2)))) else (if t62 = 4 then (radomelaw23_LifeRaw.j4 k h kind r_0 r_1 r_2 t6 age missed s l_0 l_1 l_2 l_3 (fine && (decide (missed = r_2)))) else (radomelaw23_LifeRaw.j4 k h kind r_0 r_1 r_2 t6 age missed s l_0 l_1 l_2 l_3 false))))
noncomputable def radomelaw23_LifeRaw.b1 (k : Nat) (h : radomelaw23_LifeRaw.Hs)  (kind : Int) (r_0 : Int) (r_1 : Int) (r_2 : Int) (t6 : Bool) (age : Int) (missed : Int) (s : Int) (l_0 : Int) (l_1 : Int) (l_2 : Int) (l_3 : Int) (fine : Bool) (k_ : Int) : Option Bool := if ((decide (k_ < 32)) && fine) = true then (if 0 ≤ k_ then (h.l1 kind r_0 r_1 r_2 t6 age missed s l_0 l_1 l_2 l_3 (decide ((Int.tmod (s / 2 ^ shn .u32 k_) 2) = 0)) (w64 (k_ + 1))) else none) else (if kind = 0 then (radomelaw23_LifeRaw.j3 k h kind r_0 r_1 r_2 t6 age missed s l_0 l_1 l_2 l_3 fine kind (decide (kind = 0))) else (radomelaw23_LifeRaw.j3 k h kind r_0 r_1 r_2 t6 age missed s l_0 l_1 l_2 l_3 fine kind (decide (kind = 3))))
noncomputable def radomelaw23_LifeRaw.hs : Nat → radomelaw23_LifeRaw.Hs
 | 0 => ⟨fun _ _ _ _ _ _ _ _ => none, fun _ _ _ _ _ _ _ _ _ _ _ _ _ _ => none⟩
 | k + 1 => ⟨fun x0 x1 x2 x3 x4 x5 x6 x7 => radomelaw23_LifeRaw.b0 k (radomelaw23_LifeRaw.hs k) x0 x1 x2 x3 x4 x5 x6 x7, fun x0 x1 x2 x3 x4 x5 x6 x7 x8 x9 x10 x11 x12 x13 => radomelaw23_LifeRaw.b1 k (radomelaw23_LifeRaw.hs k) x0 x1 x2 x3 x4 x5 x6 x7 x8 x9 x10 x11 x12 x13⟩
noncomputable def radomelaw23_LifeRaw.f (k : Nat) (r_ : radomeref23_Rule) (kind : Int) (of_ : T68) : Option Bool := (fun h : radomelaw23_LifeRaw.Hs => h.l0 kind r_.f_Hits r_.f_Window r_.f_Misses false of_.e0 of_.e1 0) (radomelaw23_LifeRaw.hs k)
structure radomelaw23_LifeRaw.LE (h h' : radomelaw23_LifeRaw.Hs) : Prop where
 l0 : ∀ y0 y1 y2 y3 y4 y5 y6 y7, LeO (h.l0 y0 y1 y2 y3 y4 y5 y6 y7) (h'.l0 y0 y1 y2 y3 y4 y5 y6 y7)
 l1 : ∀ y0 y1 y2 y3 y4 y5 y6 y7 y8 y9 y10 y11 y12 y13, LeO (h.l1 y0 y1 y2 y3 y4 y5 y6 y7 y8 y9 y10 y11 y12 y13) (h'.l1 y0 y1 y2 y3 y4 y5 y6 y7 y8 y9 y10 y11 y12 y13)
theorem radomelaw23_LifeRaw.b0_mono {k : Nat} {h h' : radomelaw23_LifeRaw.Hs} (hl : radomelaw23_LifeRaw.LE h h') : ∀ y0 y1 y2 y3 y4 y5 y6 y7, LeO (radomelaw23_LifeRaw.b0 k h y0 y1 y2 y3 y4 y5 y6 y7) (radomelaw23_LifeRaw.b0 (k + 1) h' y0 y1 y2 y3 y4 y5 y6 y7) := fun _ _ _ _ _ _ _ _ => (LeO.ite (LeO.bind (radomeref23_Check.mono k _) fun _ => hl.l1 _ _ _ _ _ _ _ _ _ _ _ _ _ _) (LeO.bind (radomelaw23_sure.mono k) fun _ => LeO.refl _))
theorem radomelaw23_LifeRaw.j4_mono {k : Nat} {h h' : radomelaw23_LifeRaw.Hs} (hl : radomelaw23_LifeRaw.LE h h') : ∀ y0 y1 y2 y3 y4 y5 y6 y7 y8 y9 y10 y11 y12, LeO (radomelaw23_LifeRaw.j4 k h y0 y1 y2 y3 y4 y5 y6 y7 y8 y9 y10 y11 y12) (radomelaw23_LifeRaw.j4 (k + 1) h' y0 y1 y2 y3 y4 y5 y6 y7 y8 y9 y10 y11 y12) := fun _ _ _ _ _ _ _ _ _ _ _ _ _ => (LeO.bind (life_May.mono k _ _) fun _ => LeO.bind (life_Next.mono k _ _ _) fun _ => LeO.bind (LeO.gd (life_Gone.mono k _)) fun _ => LeO.ite (LeO.refl _) (hl.l0 _ _ _ _ _ _ _ _))
theorem radomelaw23_LifeRaw.j3_mono {k : Nat} {h h' : radomelaw23_LifeRaw.Hs} (hl : radomelaw23_LifeRaw.LE h h') : ∀ y0 y1 y2 y3 y4 y5 y6 y7 y8 y9 y10 y11 y12 y13 y14, LeO (radomelaw23_LifeRaw.j3 k h y0 y1 y2 y3 y4 y5 y6 y7 y8 y9 y10 y11 y12 y13 y14) (radomelaw23_LifeRaw.j3 (k + 1) h' y0 y1 y2 y3 y4 y5 y6 y7 y8 y9 y10 y11 y12 y13 y14) := fun _ _ _ _ _ _ _ _ _ _ _ _ _ _ _ => (LeO.ite (radomelaw23_LifeRaw.j4_mono (k := k) hl _ _ _ _ _ _ _ _ _ _ _ _ _) (LeO.ite (radomelaw23_LifeRaw.j4_mono (k := k) hl _ _ _ _ _ _ _ _ _ _ _ _ _) (LeO.ite (radomelaw23_LifeRaw.j4_mono (k := k) hl _ _ _ _ _ _ _ _ _ _ _ _ _) (LeO.ite (radomelaw23_LifeRaw.j4_mono (k := k) hl _ _ _ _ _ _ _ _ _ _ _ _ _) (radomelaw23_LifeRaw.j4_mono (k := k) hl _ _ _ _ _ _ _ _ _ _ _ _ _)))))
theorem radomelaw23_LifeRaw.b1_mono {k : Nat} {h h' : radomelaw23_LifeRaw.Hs} (hl : radomelaw23_LifeRaw.LE h h') : ∀ y0 y1 y2 y3 y4 y5 y6 y7 y8 y9 y10 y11 y12 y13, LeO (radomelaw23_LifeRaw.b1 k h y0 y1 y2 y3 y4 y5 y6 y7 y8 y9 y10 y11 y12 y13) (radomelaw23_LifeRaw.b1 (k + 1) h' y0 y1 y2 y3 y4 y5 y6 y7 y8 y9 y10 y11 y12 y13) := fun _ _ _ _ _ _ _ _ _ _ _ _ _ _ => (LeO.ite (LeO.ite (hl.l1 _ _ _ _ _ _ _ _ _ _ _ _ _ _) (LeO.refl _)) (LeO.ite (radomelaw23_LifeRaw.j3_mono (k := k) hl _ _ _ _ _ _ _ _ _ _ _ _ _ _ _) (radomelaw23_LifeRaw.j3_mono (k := k) hl _ _ _ _ _ _ _ _ _ _ _ _ _ _ _)))
theorem radomelaw23_LifeRaw.hs_mono : ∀ k, radomelaw23_LifeRaw.LE (radomelaw23_LifeRaw.hs k) (radomelaw23_LifeRaw.hs (k + 1))
 | 0 => ⟨fun _ _ _ _ _ _ _ _ => LeO.none _, fun _ _ _ _ _ _ _ _ _ _ _ _ _ _ => LeO.none _⟩
 | k + 1 => ⟨radomelaw23_LifeRaw.b0_mono (k := k) (radomelaw23_LifeRaw.hs_mono k), radomelaw23_LifeRaw.b1_mono (k := k) (radomelaw23_LifeRaw.hs_mono k)⟩
theorem radomelaw23_LifeRaw.mono : ∀ k y0 y1 y2, LeO (radomelaw23_LifeRaw.f k y0 y1 y2) (radomelaw23_LifeRaw.f (k + 1) y0 y1 y2) := fun k _ _ _ => have hl := radomelaw23_LifeRaw.hs_mono k; by unfold radomelaw23_LifeRaw.f; exact (hl.l0 _ _ _ _ _ _ _ _)
noncomputable def radomelaw23_LifeRaw.Kl0 : List Item := .code (lopB (blkB (seqR (seqL (seqR (seqR radomelaw23_LifeRaw.C)))))) :: .inLoop (lopB (blkB (seqR (seqL (seqR (seqR radomelaw23_LifeRaw.C)))))) :: .inBlock 0 :: .code (seqR (seqR (seqR radomelaw23_LifeRaw.C))) :: []
noncomputable def radomelaw23_LifeRaw.Kl1 : List Item := .code (lopB (blkB (seqR (seqL (seqR (seqR (blkB (seqL (seqR (lopB (blkB (seqR (seqL (seqR (seqR radomelaw23_LifeRaw.C))))))))))))))) :: .inLoop (lopB (blkB (seqR (seqL (seqR (seqR (blkB (seqL (seqR (lopB (blkB (seqR (seqL (seqR (seqR radomelaw23_LifeRaw.C))))))))))))))) :: .inBlock 2 :: .code (seqR (seqR (seqR (blkB (seqL (seqR (lopB (blkB (seqR (seqL (seqR (seqR radomelaw23_LifeRaw.C)))))))))))) :: .inBlock 1 :: .code (seqR (seqR (lopB (blkB (seqR (seqL (seqR (seqR radomelaw23_LifeRaw.C)))))))) :: .inLoop (lopB (blkB (seqR (seqL (seqR (seqR radomelaw23_LifeRaw.C)))))) :: .inBlock 0 :: .code (seqR (seqR (seqR radomelaw23_LifeRaw.C))) :: []
noncomputable def radomelaw23_LifeRaw.Kj3 : List Item := .code (seqR (blkB (seqR (seqL (seqR (seqR (seqR (blkB (seqL (seqR (lopB (blkB (seqR (seqL (seqR (seqR radomelaw23_LifeRaw.C)))))))))))))))) :: .inBlock 4 :: .code (seqR (seqR (seqR (seqR (blkB (seqL (seqR (lopB (blkB (seqR (seqL (seqR (seqR radomelaw23_LifeRaw.C))))))))))))) :: .inBlock 1 :: .code (seqR (seqR (lopB (blkB (seqR (seqL (seqR (seqR radomelaw23_LifeRaw.C)))))))) :: .inLoop (lopB (blkB (seqR (seqL (seqR (seqR radomelaw23_LifeRaw.C)))))) :: .inBlock 0 :: .code (seqR (seqR (seqR radomelaw23_LifeRaw.C))) :: []
noncomputable def radomelaw23_LifeRaw.Kj4 : List Item := .inBlock 4 :: .code (seqR (seqR (seqR (seqR (blkB (seqL (seqR (lopB (blkB (seqR (seqL (seqR (seqR radomelaw23_LifeRaw.C))))))))))))) :: .inBlock 1 :: .code (seqR (seqR (lopB (blkB (seqR (seqL (seqR (seqR radomelaw23_LifeRaw.C)))))))) :: .inLoop (lopB (blkB (seqR (seqL (seqR (seqR radomelaw23_LifeRaw.C)))))) :: .inBlock 0 :: .code (seqR (seqR (seqR radomelaw23_LifeRaw.C))) :: []
structure radomelaw23_LifeRaw.OK (h : radomelaw23_LifeRaw.Hs) : Prop where
 l0 : ∀ {H0 H : Hp} {L : Items} {r : Bool} {jk_ : Nat → Value} {kind : Int} {r_0 : Int} {r_1 : Int} {r_2 : Int} {t6 : Bool} {age : Int} {missed : Int} {s : Int} {b_r_ : Nat} (_ : H0.le H) (_ : GH H) (_he : h.l0 kind r_0 r_1 r_2 t6 age missed s = some r), Wp Tryd.prog 6 146 radomelaw23_LifeRaw.Kl0 (upd (upd (upd (upd (upd (upd jk_ 1 (.int .i64 kind)) 3 (.pointer (some ⟨b_r_, 0, none⟩))) 6 (.bool t6)) 7 (.int .i64 age)) 8 (.int .i64 missed)) 9 (.int .u32 s)) H (some (b_r_, .cells ⟨[.int .i64 r_0, .int .i64 r_1, .int .i64 r_2]⟩ 49 (0, 0)) :: L) (radomelaw23_LifeRaw.R H0 L r)
 l1 : ∀ {H0 H : Hp} {L : Items} {r : Bool} {jk_ : Nat → Value} {kind : Int} {r_0 : Int} {r_1 : Int} {r_2 : Int} {t6 : Bool} {age : Int} {missed : Int} {s : Int} {l_0 : Int} {l_1 : Int} {l_2 : Int} {l_3 : Int} {fine : Bool} {k_ : Int} {b_r_ : Nat} {b_l : Nat} (_ : H0.le H) (_ : GH H) (_he : h.l1 kind r_0 r_1 r_2 t6 age missed s l_0 l_1 l_2 l_3 fine k_ = some r), Wp Tryd.prog 6 146 radomelaw23_LifeRaw.Kl1 (upd (upd (upd (upd (upd (upd (upd (upd (upd jk_ 1 (.int .i64 kind)) 3 (.pointer (some ⟨b_r_, 0, none⟩))) 6 (.bool t6)) 7 (.int .i64 age)) 8 (.int .i64 missed)) 9 (.int .u32 s)) 10 (.pointer (some ⟨b_l, 0, none⟩))) 11 (.bool fine)) 12 (.int .i64 k_)) H (some (b_l, .cells ⟨[.int .i64 l_0, .int .u32 l_1, .int .i64 l_2, .int .i64 l_3]⟩ 52 (0, 0)) :: some (b_r_, .cells ⟨[.int .i64 r_0, .int .i64 r_1, .int .i64 r_2]⟩ 49 (0, 0)) :: L) (radomelaw23_LifeRaw.R H0 L r)
set_option maxRecDepth 100000 in
set_option maxHeartbeats 2000000 in
theorem radomelaw23_LifeRaw.b0_ok {k : Nat} {h : radomelaw23_LifeRaw.Hs} (hh : radomelaw23_LifeRaw.OK h) {H0 H : Hp} {L : Items} {r : Bool} {jk_ : Nat → Value} {kind : Int} {r_0 : Int} {r_1 : Int} {r_2 : Int} {t6 : Bool} {age : Int} {missed : Int} {s : Int} {b_r_ : Nat} (hle : H0.le H) (hG : GH H) (he : radomelaw23_LifeRaw.b0 k h kind r_0 r_1 r_2 t6 age missed s = some r) : Wp Tryd.prog 6 146 radomelaw23_LifeRaw.Kl0 (upd (upd (upd (upd (upd (upd jk_ 1 (.int .i64 kind)) 3 (.pointer (some ⟨b_r_, 0, none⟩))) 6 (.bool t6)) 7 (.int .i64 age)) 8 (.int .i64 missed)) 9 (.int .u32 s)) H (some (b_r_, .cells ⟨[.int .i64 r_0, .int .i64 r_1, .int .i64 r_2]⟩ 49 (0, 0)) :: L) (radomelaw23_LifeRaw.R H0 L r) := by
 unfold radomelaw23_LifeRaw.b0 at he
 unfold radomelaw23_LifeRaw.Kl0
 refine w_seq ?_
 refine w_seq ?_
 refine w_region rfl ?_
 refine w_d rfl (d_move (v := .int .u32 s) rfl) ?_
 refine w_d rfl (d_lss rfl rfl) ?_
 refine w_done ?_
 rcases its he with ⟨c5, he⟩ | ⟨c5, he⟩
 ·
  refine w_then rfl (decide_eq_true c5) ?_
  refine w_skip ?_
  refine w_seq ?_
  refine w_block ?_
  refine w_seq ?_
  refine w_region rfl ?_
  refine w_d rfl (d_move (v := .int .i64 kind) rfl) ?_
  refine w_d rfl (d_move (v := .int .u32 s) rfl) ?_
  refine w_d rfl (d_move (v := .int .i64 age) rfl) ?_
  refine w_d rfl (d_move (v := .int .i64 missed) rfl) ?_
  refine w_d rfl (d_build (cs' := [.int .i64 kind, .int .u32 s, .int .i64 age, .int .i64 missed]) Tryd.underlying52 zr52 rfl (by kernel_rfl) (parts := [(0, .int .i64 kind), (1, .int .u32 s), (2, .int .i64 age), (3, .int .i64 missed)]) rfl (.cons (place_of rfl sz3 rfl) rfl rfl (.here .done) (.cons (place_of rfl sz37 rfl) rfl rfl (.there (.here .done)) (.cons (place_of rfl sz3 rfl) rfl rfl (.there (.there (.here .done))) (.cons (place_of rfl sz3 rfl) rfl rfl (.there (.there (.there (.here .done)))) .nil))))) ?_
  refine w_a rfl (o_alloc zr52 rfl) ?_
  rintro _ _ _ ⟨b6, rfl, rfl, rfl⟩
  refine w_a0 rfl (o_store (v := .agg ⟨[.int .i64 kind, .int .u32 s, .int .i64 age, .int .i64 missed]⟩) sz52 rfl rfl rfl rfl (one_cons rfl (one_cons rfl (one_cons rfl (one_cons rfl one_nil)))) .here (.here (.here (.here (.here .done))))) ?_
  rintro _ _ _ ⟨rfl, rfl, rfl⟩
  refine w_done ?_
  refine w_seq ?_
  refine w_region rfl ?_
  refine w_d rfl (d_loado (v := .agg ⟨[.int .i64 r_0, .int .i64 r_1, .int .i64 r_2]⟩) ty49 rfl (.there .here) rfl rfl rfl rfl) ?_
  obtain ⟨y7, hy8, he⟩ := Option.bind_eq_some_iff.1 he
  refine w_d rfl (call_d (o_call co24 (vs := [.agg ⟨[.int .i64 r_0, .int .i64 r_1, .int .i64 r_2]⟩]) rfl (radomeref23_Check.calls k (r_ := (⟨r_0, r_1, r_2⟩ : radomeref23_Rule)) hy8))) ?_
  refine w_d rfl (d_move (v := .bool y7) rfl) ?_
  refine w_g (g := y7) rfl rfl rfl wn_t (fun g11 => d_move (v := .int .i64 age) rfl) ?_
  refine w_g (g := y7) rfl rfl rfl wn_t (fun g12 => d_geq (cvt g12) rfl) ?_
  refine w_d rfl (d_and' (b := y7) (p := (decide (1 ≤ age))) rfl rfl rfl) ?_
  refine w_d rfl (d_move (v := .bool (y7 && (decide (1 ≤ age)))) rfl) ?_
  refine w_g (g := y7 && (decide (1 ≤ age))) rfl rfl rfl wn_t (fun g13 => d_move (v := .int .i64 age) rfl) ?_
  refine w_g (g := y7 && (decide (1 ≤ age))) rfl rfl rfl wn_t (fun g14 => d_fld (o' := 1) Tryd.underlying49 rfl sz3 rfl rfl rfl) ?_
  refine w_g (g := y7 && (decide (1 ≤ age))) rfl rfl rfl wn_t (fun g15 => d_loado (v := .int .i64 r_1) ty3 (cvt g15) (.there .here) rfl rfl rfl rfl) ?_
  refine w_g (g := y7 && (decide (1 ≤ age))) rfl rfl rfl wn_t (fun g16 => d_leq (cvt g16) (cvt g16)) ?_
  refine w_d rfl (d_and' (b := (y7 && (decide (1 ≤ age)))) (p := (decide (age ≤ r_1))) rfl rfl rfl) ?_
  refine w_d rfl (d_move (v := .bool ((y7 && (decide (1 ≤ age))) && (decide (age ≤ r_1)))) rfl) ?_
  refine w_g (g := (y7 && (decide (1 ≤ age))) && (decide (age ≤ r_1))) rfl rfl rfl wn_t (fun g17 => d_move (v := .int .i64 kind) rfl) ?_
  refine w_g (g := (y7 && (decide (1 ≤ age))) && (decide (age ≤ r_1))) rfl rfl rfl wn_t (fun g18 => d_geq (cvt g18) rfl) ?_
  refine w_d rfl (d_and' (b := ((y7 && (decide (1 ≤ age))) && (decide (age ≤ r_1)))) (p := (decide (0 ≤ kind))) rfl rfl rfl) ?_
  refine w_d rfl (d_move (v := .bool (((y7 && (decide (1 ≤ age))) && (decide (age ≤ r_1))) && (decide (0 ≤ kind)))) rfl) ?_
  refine w_g (g := ((y7 && (decide (1 ≤ age))) && (decide (age ≤ r_1))) && (decide (0 ≤ kind))) rfl rfl rfl wn_t (fun g19 => d_move (v := .int .i64 kind) rfl) ?_
  refine w_g (g := ((y7 && (decide (1 ≤ age))) && (decide (age ≤ r_1))) && (decide (0 ≤ kind))) rfl rfl rfl wn_t (fun g20 => d_leq (cvt g20) rfl) ?_
  refine w_d rfl (d_and' (b := (((y7 && (decide (1 ≤ age))) && (decide (age ≤ r_1))) && (decide (0 ≤ kind)))) (p := (decide (kind ≤ 4))) rfl rfl rfl) ?_
  refine w_d rfl (d_assign (v := .bool ((((y7 && (decide (1 ≤ age))) && (decide (age ≤ r_1))) && (decide (0 ≤ kind))) && (decide (kind ≤ 4)))) rfl) ?_
  refine w_done ?_
  refine w_seq ?_
  refine w_seq ?_
  refine w_region rfl ?_
  refine w_d rfl (d_move (v := .int .i64 age) rfl) ?_
  refine w_d rfl (d_assign (v := .int .i64 age) rfl) ?_
  refine w_done ?_
  refine w_block ?_
  refine w_loop ?_
  refine w_sl 1 (.int .i64 kind) rfl ?_
  refine w_sl 3 (.pointer (some ⟨b_r_, 0, none⟩)) rfl ?_
  refine w_sl 6 (.bool t6) rfl ?_
  refine w_sl 7 (.int .i64 age) rfl ?_
  refine w_sl 8 (.int .i64 missed) rfl ?_
  refine w_sl 9 (.int .u32 s) rfl ?_
  refine w_sl 10 (.pointer (some ⟨b6, 0, none⟩)) rfl ?_
  refine w_sl 11 (.bool ((((y7 && (decide (1 ≤ age))) && (decide (age ≤ r_1))) && (decide (0 ≤ kind))) && (decide (kind ≤ 4)))) rfl ?_
  refine w_sl 12 (.int .i64 age) rfl ?_
  exact hh.l1 hle hG he
 ·
  refine w_else rfl (decide_eq_false c5) ?_
  refine w_exit rfl ?_
  refine w_seq ?_
  refine w_region rfl ?_
  obtain ⟨y21, hy22, he⟩ := Option.bind_eq_some_iff.1 he
  refine w_d rfl (call_d (o_call co28 (vs := []) rfl (radomelaw23_sure.calls k hy22))) ?_
  refine w_d rfl (d_assign (v := .bool y21) rfl) ?_
  refine w_done ?_
  obtain rfl := Option.some.inj he
  refine w_return fn_6 rs_6 (.tmp (v := .bool y21) rfl .nil) ?_
  exact ⟨⟨[_], rfl⟩, hle, rfl⟩
set_option maxRecDepth 100000 in
set_option maxHeartbeats 2000000 in
theorem radomelaw23_LifeRaw.j4_ok {k : Nat} {h : radomelaw23_LifeRaw.Hs} (hh : radomelaw23_LifeRaw.OK h) {H0 H : Hp} {L : Items} {r : Bool} {jk_ : Nat → Value} {kind : Int} {r_0 : Int} {r_1 : Int} {r_2 : Int} {t6 : Bool} {age : Int} {missed : Int} {s : Int} {l_0 : Int} {l_1 : Int} {l_2 : Int} {l_3 : Int} {fine : Bool} {b_r_ : Nat} {b_l : Nat} (hle : H0.le H) (hG : GH H) (he : radomelaw23_LifeRaw.j4 k h kind r_0 r_1 r_2 t6 age missed s l_0 l_1 l_2 l_3 fine = some r) : Wp Tryd.prog 6 146 radomelaw23_LifeRaw.Kj4 (upd (upd (upd (upd (upd (upd (upd (upd jk_ 1 (.int .i64 kind)) 3 (.pointer (some ⟨b_r_, 0, none⟩))) 6 (.bool t6)) 7 (.int .i64 age)) 8 (.int .i64 missed)) 9 (.int .u32 s)) 10 (.pointer (some ⟨b_l, 0, none⟩))) 11 (.bool fine)) H (some (b_l, .cells ⟨[.int .i64 l_0, .int .u32 l_1, .int .i64 l_2, .int .i64 l_3]⟩ 52 (0, 0)) :: some (b_r_, .cells ⟨[.int .i64 r_0, .int .i64 r_1, .int .i64 r_2]⟩ 49 (0, 0)) :: L) (radomelaw23_LifeRaw.R H0 L r) := by
 unfold radomelaw23_LifeRaw.j4 at he
 unfold radomelaw23_LifeRaw.Kj4
 refine w_inBlock ?_
 refine w_seq ?_
 refine w_region rfl ?_
 refine w_d rfl (d_loado (v := .agg ⟨[.int .i64 r_0, .int .i64 r_1, .int .i64 r_2]⟩) ty49 rfl (.there .here) rfl rfl rfl rfl) ?_
 refine w_d rfl (d_loado (v := .agg ⟨[.int .i64 l_0, .int .u32 l_1, .int .i64 l_2, .int .i64 l_3]⟩) ty52 rfl .here rfl rfl rfl rfl) ?_
 obtain ⟨y51, hy52, he⟩ := Option.bind_eq_some_iff.1 he
 refine w_d rfl (call_d (o_call co34 (vs := [.agg ⟨[.int .i64 r_0, .int .i64 r_1, .int .i64 r_2]⟩, .agg ⟨[.int .i64 l_0, .int .u32 l_1, .int .i64 l_2, .int .i64 l_3]⟩]) rfl (life_May.calls k (r_ := (⟨r_0, r_1, r_2⟩ : life_Rule)) (l := (⟨l_0, l_1, l_2, l_3⟩ : life_Life)) hy52))) ?_
 refine w_d rfl (d_assign (v := errV 70 y51) rfl) ?_
 refine w_done ?_
 refine w_seq ?_
 refine w_region rfl ?_
 refine w_d rfl (d_loado (v := .agg ⟨[.int .i64 r_0, .int .i64 r_1, .int .i64 r_2]⟩) ty49 rfl (.there .here) rfl rfl rfl rfl) ?_
 refine w_d rfl (d_loado (v := .agg ⟨[.int .i64 l_0, .int .u32 l_1, .int .i64 l_2, .int .i64 l_3]⟩) ty52 rfl .here rfl rfl rfl rfl) ?_
 obtain ⟨y55, hy56, he⟩ := Option.bind_eq_some_iff.1 he
 refine w_d rfl (call_d (o_call co25 (vs := [.agg ⟨[.int .i64 r_0, .int .i64 r_1, .int .i64 r_2]⟩, .agg ⟨[.int .i64 l_0, .int .u32 l_1, .int .i64 l_2, .int .i64 l_3]⟩, .bool true]) rfl (life_Next.calls k (r_ := (⟨r_0, r_1, r_2⟩ : life_Rule)) (l := (⟨l_0, l_1, l_2, l_3⟩ : life_Life)) hy56))) ?_
 refine w_d rfl (d_move (v := .tuple ⟨[.agg ⟨[.int .i64 y55.1.f_Kind, .int .u32 y55.1.f_Seen, .int .i64 y55.1.f_Age, .int .i64 y55.1.f_Missed]⟩, errV 70 y55.2]⟩) rfl) ?_
 refine w_d rfl (d_ext (vs := [.agg ⟨[.int .i64 y55.1.f_Kind, .int .u32 y55.1.f_Seen, .int .i64 y55.1.f_Age, .int .i64 y55.1.f_Missed]⟩, errV 70 y55.2]) rfl rfl) ?_
 refine w_d rfl (d_ext (vs := [.agg ⟨[.int .i64 y55.1.f_Kind, .int .u32 y55.1.f_Seen, .int .i64 y55.1.f_Age, .int .i64 y55.1.f_Missed]⟩, errV 70 y55.2]) rfl rfl) ?_
 refine w_a rfl (o_alloc zr52 rfl) ?_
 rintro _ _ _ ⟨b59, rfl, rfl, rfl⟩
 refine w_a0 rfl (o_store (v := .agg ⟨[.int .i64 y55.1.f_Kind, .int .u32 y55.1.f_Seen, .int .i64 y55.1.f_Age, .int .i64 y55.1.f_Missed]⟩) sz52 rfl rfl rfl rfl (one_cons rfl (one_cons rfl (one_cons rfl (one_cons rfl one_nil)))) .here (.here (.here (.here (.here .done))))) ?_
 rintro _ _ _ ⟨rfl, rfl, rfl⟩
 refine w_d rfl (d_assign (v := errV 70 y55.2) rfl) ?_
 refine w_done ?_
 refine w_seq ?_
 obtain ⟨y80, hy81, he⟩ := Option.bind_eq_some_iff.1 he
 refine w_drawn (p := 27) (tl := [27, 28, 29]) [[], [(0, some 115)], [], [(1, some 116), (2, some 117)], [(3, some 118)], [(4, some 119)], [(4, some 119), (5, some 120)], [(4, some 119), (6, some 121)], [(7, some 122)], [(7, some 122), (8, some 123)], [(7, some 122), (9, some 124)], [(7, some 122), (10, some 125)], [(11, some 126)], [(11, some 126), (12, some 127)], [(11, some 126), (13, some 128)], [(7, some 122), (11, some 126), (14, some 129)], [(4, some 119), (7, some 122), (15, some 130)], [(4, some 119), (16, some 131)], [(17, some 132)], [(18, some 133)], [(18, some 133), (19, some 134)], [(18, some 133), (20, some 135)], [(21, some 136)], [(21, some 136), (22, some 137)], [(21, some 136), (23, some 138)], [(21, some 136)], [(21, some 136), (25, some 140)]] [some 115, some 116, some 117, some 118, some 119, some 120, some 121, some 122, some 123, some 124, some 125, some 126, some 127, some 128, some 129, some 130, some 131, some 132, some 133, some 134, some 135, some 136, some 137, some 138, some 139, some 140, some 141] (fctF [.is (errV 70 y51), .is (.bool y51.isNone), .is (.bool fine), .is (.bool (!(y51.isNone == fine))), .is (.bool (!(y51.isNone == fine))), .is (cond (!(!(y51.isNone == fine))) (errV 70 y51) undef), .is (cond (!(!(y51.isNone == fine))) (.bool y51.isSome) undef), .is (cond (!(!(y51.isNone == fine))) (.bool y51.isSome) undef), .is (cond ((!(!(y51.isNone == fine))) && y51.isSome) (errV 70 y51) undef), .is (cond ((!(!(y51.isNone == fine))) && y51.isSome) (.int .i64 (errN y51)) undef), .is (cond ((!(!(y51.isNone == fine))) && y51.isSome) (.bool (!decide ((errN y51) = 1))) undef), .is (cond ((!(!(y51.isNone == fine))) && y51.isSome) (.bool (!decide ((errN y51) = 1))) undef), .is (cond (((!(!(y51.isNone == fine))) && y51.isSome) && (!(!decide ((errN y51) = 1)))) (errV 70 y55.2) undef), .is (cond (((!(!(y51.isNone == fine))) && y51.isSome) && (!(!decide ((errN y51) = 1)))) (.int .i64 (errN y55.2)) undef), .is (cond (((!(!(y51.isNone == fine))) && y51.isSome) && (!(!decide ((errN y51) = 1)))) (.bool (!decide ((errN y55.2) = 1))) undef), .is (cond ((!(!(y51.isNone == fine))) && y51.isSome) (.bool ((!decide ((errN y51) = 1)) || (!decide ((errN y55.2) = 1)))) undef), .is (cond (!(!(y51.isNone == fine))) (.bool (y51.isSome && ((!decide ((errN y51) = 1)) || (!decide ((errN y55.2) = 1))))) undef), .is (.bool ((!(y51.isNone == fine)) || (y51.isSome && ((!decide ((errN y51) = 1)) || (!decide ((errN y55.2) = 1)))))), .is (.bool ((!(y51.isNone == fine)) || (y51.isSome && ((!decide ((errN y51) = 1)) || (!decide ((errN y55.2) = 1)))))), .is (cond (!((!(y51.isNone == fine)) || (y51.isSome && ((!decide ((errN y51) = 1)) || (!decide ((errN y55.2) = 1)))))) (errV 70 y51) undef), .is (cond (!((!(y51.isNone == fine)) || (y51.isSome && ((!decide ((errN y51) = 1)) || (!decide ((errN y55.2) = 1)))))) (.bool y51.isNone) undef), .is (cond (!((!(y51.isNone == fine)) || (y51.isSome && ((!decide ((errN y51) = 1)) || (!decide ((errN y55.2) = 1)))))) (.bool y51.isNone) undef), .is (cond ((!((!(y51.isNone == fine)) || (y51.isSome && ((!decide ((errN y51) = 1)) || (!decide ((errN y55.2) = 1)))))) && y51.isNone) (errV 70 y55.2) undef), .is (cond ((!((!(y51.isNone == fine)) || (y51.isSome && ((!decide ((errN y51) = 1)) || (!decide ((errN y55.2) = 1)))))) && y51.isNone) (.int .i64 (errN y55.2)) undef), .is (cond ((!((!(y51.isNone == fine)) || (y51.isSome && ((!decide ((errN y51) = 1)) || (!decide ((errN y55.2) = 1)))))) && y51.isNone) (.bool (decide ((errN y55.2) = 14))) undef), .is (cond ((!((!(y51.isNone == fine)) || (y51.isSome && ((!decide ((errN y51) = 1)) || (!decide ((errN y55.2) = 1)))))) && y51.isNone) (.agg ⟨[.int .i64 l_0, .int .u32 l_1, .int .i64 l_2, .int .i64 l_3]⟩) undef), .is (cond ((!((!(y51.isNone == fine)) || (y51.isSome && ((!decide ((errN y51) = 1)) || (!decide ((errN y55.2) = 1)))))) && y51.isNone) (.bool y80) undef)]) (fun m_ => some (b59, .cells ⟨[.int .i64 y55.1.f_Kind, .int .u32 y55.1.f_Seen, .int .i64 y55.1.f_Age, .int .i64 y55.1.f_Missed]⟩ 52 (0, 0)) :: some (b_l, .cells ⟨[.int .i64 l_0, .int .u32 l_1, .int .i64 l_2, .int .i64 l_3]⟩ 52 (0, 0)) :: some (b_r_, .cells ⟨[.int .i64 r_0, .int .i64 r_1, .int .i64 r_2]⟩ 49 (0, 0)) :: L) (fun _ => none) mixed (by kernel_rfl) (by kernel_rfl) rfl (fct_mono (by kernel_rfl)) ⟨(by intro H' m_ hH hm_ hu_; refine depK_nil ?_; exact s_d (m_ 0) rfl (d_move (v := errV 70 y51) rfl) (by exact rfl) rfl), (by intro H' m_ hH hm_ hu_; rintro _ rfl; refine depK_nil ?_; exact s_d (m_ 1) rfl (d_eqnil (e := y51) Tryd.underlying24 rfl) (by exact rfl) rfl), (by intro H' m_ hH hm_ hu_; refine depK_nil ?_; exact s_d (m_ 2) rfl (d_move (v := .bool fine) rfl) (by exact rfl) rfl), (by intro H' m_ hH hm_ hu_; rintro _ rfl _ rfl; refine depK_nil ?_; exact s_d (m_ 3) rfl (d_neb (a := y51.isNone) (b := fine) Tryd.underlying4 rfl rfl) (by exact rfl) rfl), (by intro H' m_ hH hm_ hu_; rintro _ rfl; refine depK_nil ?_; exact s_d (m_ 4) rfl (d_move (v := .bool (!(y51.isNone == fine))) rfl) (by exact rfl) rfl), (by intro H' m_ hH hm_ hu_; rintro _ rfl; refine depK_nil ?_; exact s_g (g := !(!(y51.isNone == fine))) (m_ 5) rfl rfl rfl wn_f (fun g60 => d_move (v := errV 70 y51) rfl) rfl (by exact fun g_ => cvt g_) (by exact fun g_ => cnt g_)), (by intro H' m_ hH hm_ hu_; rintro _ rfl _ rfl; refine depK_nil ?_; exact s_g (g := !(!(y51.isNone == fine))) (m_ 6) rfl rfl rfl wn_f (fun g61 => d_nenil (e := y51) Tryd.underlying24 (cvt g61)) rfl (by exact fun g_ => cvt g_) (by exact fun g_ => cnt g_)), (by intro H' m_ hH hm_ hu_; rintro _ rfl _ rfl; refine depK_nil ?_; exact s_g (g := !(!(y51.isNone == fine))) (m_ 7) rfl rfl rfl wn_f (fun g62 => d_move (v := .bool y51.isSome) (cvt g62)) rfl (by exact fun g_ => cvt g_) (by exact fun g_ => cnt g_)), (by intro H' m_ hH hm_ hu_; rintro _ rfl; refine depK_nil ?_; exact s_g (g := (!(!(y51.isNone == fine))) && y51.isSome) (m_ 8) rfl rfl rfl wn_gt (fun g63 => d_move (v := errV 70 y51) rfl) rfl (by exact fun g_ => cvt g_) (by exact fun g_ => cnt g_)), (by intro H' m_ hH hm_ hu_; rintro _ rfl _ rfl; refine depK_nil ?_; exact s_g (g := (!(!(y51.isNone == fine))) && y51.isSome) (m_ 9) rfl rfl rfl wn_gt (fun g64 => call_d (o_call co26 (vs := [errV 70 y51]) (acons (cvt g64) (anil)) (num26.calls (hG.mono hH) rfl))) rfl (by exact fun g_ => cvt g_) (by exact fun g_ => cnt g_)), (by intro H' m_ hH hm_ hu_; rintro _ rfl _ rfl; refine depK_nil ?_; exact s_g (g := (!(!(y51.isNone == fine))) && y51.isSome) (m_ 10) rfl rfl rfl wn_gt (fun g65 => d_neq (cvt g65) rfl) rfl (by exact fun g_ => cvt g_) (by exact fun g_ => cnt g_)), (by intro H' m_ hH hm_ hu_; rintro _ rfl _ rfl; refine depK_nil ?_; exact s_g (g := (!(!(y51.isNone == fine))) && y51.isSome) (m_ 11) rfl rfl rfl wn_gt (fun g66 => d_move (v := .bool (!decide ((errN y51) = 1))) (cvt g66)) rfl (by exact fun g_ => cvt g_) (by exact fun g_ => cnt g_)), (by intro H' m_ hH hm_ hu_; rintro _ rfl; refine depK_nil ?_; exact s_g (g := ((!(!(y51.isNone == fine))) && y51.isSome) && (!(!decide ((errN y51) = 1)))) (m_ 12) rfl rfl rfl wn_gf (fun g67 => d_move (v := errV 70 y55.2) rfl) rfl (by exact fun g_ => cvt g_) (by exact fun g_ => cnt g_)), (by intro H' m_ hH hm_ hu_; rintro _ rfl _ rfl; refine depK_nil ?_; exact s_g (g := ((!(!(y51.isNone == fine))) && y51.isSome) && (!(!decide ((errN y51) = 1)))) (m_ 13) rfl rfl rfl wn_gf (fun g68 => call_d (o_call co26 (vs := [errV 70 y55.2]) (acons (cvt g68) (anil)) (num26.calls (hG.mono hH) rfl))) rfl (by exact fun g_ => cvt g_) (by exact fun g_ => cnt g_)), (by intro H' m_ hH hm_ hu_; rintro _ rfl _ rfl; refine depK_nil ?_; exact s_g (g := ((!(!(y51.isNone == fine))) && y51.isSome) && (!(!decide ((errN y51) = 1)))) (m_ 14) rfl rfl rfl wn_gf (fun g69 => d_neq (cvt g69) rfl) rfl (by exact fun g_ => cvt g_) (by exact fun g_ => cnt g_)), (by intro H' m_ hH hm_ hu_; rintro _ rfl _ rfl _ rfl; refine depK_nil ?_; exact s_g (g := (!(!(y51.isNone == fine))) && y51.isSome) (m_ 15) rfl rfl rfl wn_gt (fun g70 => d_or' (b := (!decide ((errN y51) = 1))) (p := (!decide ((errN y55.2) = 1))) (cvt g70) rfl (cva g70)) rfl (by exact fun g_ => cvt g_) (by exact fun g_ => cnt g_)), (by intro H' m_ hH hm_ hu_; rintro _ rfl _ rfl _ rfl; refine depK_nil ?_; exact s_g (g := !(!(y51.isNone == fine))) (m_ 16) rfl rfl rfl wn_f (fun g71 => d_and' (b := y51.isSome) (p := ((!decide ((errN y51) = 1)) || (!decide ((errN y55.2) = 1)))) (cvt g71) (cva g71) rfl) rfl (by exact fun g_ => cvt g_) (by exact fun g_ => cnt g_)), (by intro H' m_ hH hm_ hu_; rintro _ rfl _ rfl; refine depK_nil ?_; exact s_d (m_ 17) rfl (d_or' (b := (!(y51.isNone == fine))) (p := (y51.isSome && ((!decide ((errN y51) = 1)) || (!decide ((errN y55.2) = 1))))) rfl rfl rfl) (by exact rfl) rfl), (by intro H' m_ hH hm_ hu_; rintro _ rfl; refine depK_nil ?_; exact s_d (m_ 18) rfl (d_move (v := .bool ((!(y51.isNone == fine)) || (y51.isSome && ((!decide ((errN y51) = 1)) || (!decide ((errN y55.2) = 1)))))) rfl) (by exact rfl) rfl), (by intro H' m_ hH hm_ hu_; rintro _ rfl; refine depK_nil ?_; exact s_g (g := !((!(y51.isNone == fine)) || (y51.isSome && ((!decide ((errN y51) = 1)) || (!decide ((errN y55.2) = 1)))))) (m_ 19) rfl rfl rfl wn_f (fun g72 => d_move (v := errV 70 y51) rfl) rfl (by exact fun g_ => cvt g_) (by exact fun g_ => cnt g_)), (by intro H' m_ hH hm_ hu_; rintro _ rfl _ rfl; refine depK_nil ?_; exact s_g (g := !((!(y51.isNone == fine)) || (y51.isSome && ((!decide ((errN y51) = 1)) || (!decide ((errN y55.2) = 1)))))) (m_ 20) rfl rfl rfl wn_f (fun g73 => d_eqnil (e := y51) Tryd.underlying24 (cvt g73)) rfl (by exact fun g_ => cvt g_) (by exact fun g_ => cnt g_)), (by intro H' m_ hH hm_ hu_; rintro _ rfl _ rfl; refine depK_nil ?_; exact s_g (g := !((!(y51.isNone == fine)) || (y51.isSome && ((!decide ((errN y51) = 1)) || (!decide ((errN y55.2) = 1)))))) (m_ 21) rfl rfl rfl wn_f (fun g74 => d_move (v := .bool y51.isNone) (cvt g74)) rfl (by exact fun g_ => cvt g_) (by exact fun g_ => cnt g_)), (by intro H' m_ hH hm_ hu_; rintro _ rfl; refine depK_nil ?_; exact s_g (g := (!((!(y51.isNone == fine)) || (y51.isSome && ((!decide ((errN y51) = 1)) || (!decide ((errN y55.2) = 1)))))) && y51.isNone) (m_ 22) rfl rfl rfl wn_gt (fun g75 => d_move (v := errV 70 y55.2) rfl) rfl (by exact fun g_ => cvt g_) (by exact fun g_ => cnt g_)), (by intro H' m_ hH hm_ hu_; rintro _ rfl _ rfl; refine depK_nil ?_; exact s_g (g := (!((!(y51.isNone == fine)) || (y51.isSome && ((!decide ((errN y51) = 1)) || (!decide ((errN y55.2) = 1)))))) && y51.isNone) (m_ 23) rfl rfl rfl wn_gt (fun g76 => call_d (o_call co26 (vs := [errV 70 y55.2]) (acons (cvt g76) (anil)) (num26.calls (hG.mono hH) rfl))) rfl (by exact fun g_ => cvt g_) (by exact fun g_ => cnt g_)), (by intro H' m_ hH hm_ hu_; rintro _ rfl _ rfl; refine depK_nil ?_; exact s_g (g := (!((!(y51.isNone == fine)) || (y51.isSome && ((!decide ((errN y51) = 1)) || (!decide ((errN y55.2) = 1)))))) && y51.isNone) (m_ 24) rfl rfl rfl wn_gt (fun g77 => d_eql (cvt g77) rfl) rfl (by exact fun g_ => cvt g_) (by exact fun g_ => cnt g_)), (by intro H' m_ hH hm_ hu_; rintro _ rfl; refine depK_nil ?_; exact s_g (g := (!((!(y51.isNone == fine)) || (y51.isSome && ((!decide ((errN y51) = 1)) || (!decide ((errN y55.2) = 1)))))) && y51.isNone) (m_ 25) rfl rfl rfl wn_gt (fun g78 => d_loado (v := .agg ⟨[.int .i64 l_0, .int .u32 l_1, .int .i64 l_2, .int .i64 l_3]⟩) ty52 rfl (.there .here) rfl rfl rfl rfl) rfl (by exact fun g_ => cvt g_) (by exact fun g_ => cnt g_)), (by intro H' m_ hH hm_ hu_; rintro _ rfl _ rfl; refine depK_nil ?_; exact s_g (g := (!((!(y51.isNone == fine)) || (y51.isSome && ((!decide ((errN y51) = 1)) || (!decide ((errN y55.2) = 1)))))) && y51.isNone) (m_ 26) rfl rfl rfl wn_gt (fun g79 => call_d (o_call co31 (vs := [.agg ⟨[.int .i64 l_0, .int .u32 l_1, .int .i64 l_2, .int .i64 l_3]⟩]) (acons (cvt g79) (anil)) (life_Gone.calls k (l := (⟨l_0, l_1, l_2, l_3⟩ : life_Life)) (gd_t g79 hy81)))) rfl (by exact fun g_ => cvt g_) (by exact fun g_ => cnt g_)), trivial⟩ ?_
 intro H84 e85
 rintro _ _ rfl _ _ rfl _ _ rfl _ _ rfl _ _ rfl _ _ rfl _ _ rfl _ _ rfl _ _ rfl _ _ rfl _ _ rfl _ _ rfl _ _ rfl _ _ rfl _ _ rfl _ _ rfl _ _ rfl _ _ rfl _ _ rfl _ _ rfl _ _ rfl _ _ rfl _ _ rfl _ _ rfl _ _ rfl _ _ rfl _ _ rfl
 refine w_g (g := (!((!(y51.isNone == fine)) || (y51.isSome && ((!decide ((errN y51) = 1)) || (!decide ((errN y55.2) = 1)))))) && y51.isNone) rfl rfl rfl wn_gt (fun g86 => d_neb (a := (decide ((errN y55.2) = 14))) (b := y80) Tryd.underlying4 (cvt g86) (cvt g86)) ?_
 refine w_g (g := !((!(y51.isNone == fine)) || (y51.isSome && ((!decide ((errN y51) = 1)) || (!decide ((errN y55.2) = 1)))))) rfl rfl rfl wn_f (fun g87 => d_and' (b := y51.isNone) (p := (!((decide ((errN y55.2) = 14)) == y80))) (cvt g87) (cva g87) rfl) ?_
 refine w_d rfl (d_or' (b := ((!(y51.isNone == fine)) || (y51.isSome && ((!decide ((errN y51) = 1)) || (!decide ((errN y55.2) = 1)))))) (p := (y51.isNone && (!((decide ((errN y55.2) = 14)) == y80)))) rfl rfl rfl) ?_
 refine w_done ?_
 rcases its he with ⟨c88, he⟩ | ⟨c88, he⟩
 ·
  refine w_then rfl c88 ?_
  refine w_seq ?_
  refine w_region rfl ?_
  refine w_d rfl (d_assign (v := .bool false) rfl) ?_
  refine w_done ?_
  obtain rfl := Option.some.inj he
  refine w_return fn_6 rs_6 (.tmp (v := .bool false) rfl .nil) ?_
  exact ⟨⟨[_, _, _], rfl⟩, hle.trans e85, rfl⟩
 ·
  refine w_else rfl (Bool.eq_false_iff.2 c88) ?_
  refine w_skip ?_
  refine w_inBlock ?_
  refine w_region rfl ?_
  refine w_d rfl (d_move (v := .int .u32 s) rfl) ?_
  refine w_d rfl (d_add (c := (s + 1) % 4294967296) rfl rfl rfl) ?_
  refine w_d rfl (d_assign (v := .int .u32 ((s + 1) % 4294967296)) rfl) ?_
  refine w_done ?_
  refine w_inLoop ?_
  refine w_del (.there .here) ?_
  refine w_del .here ?_
  refine w_sl 1 (.int .i64 kind) rfl ?_
  refine w_sl 3 (.pointer (some ⟨b_r_, 0, none⟩)) rfl ?_
  refine w_sl 6 (.bool t6) rfl ?_
  refine w_sl 7 (.int .i64 age) rfl ?_
  refine w_sl 8 (.int .i64 missed) rfl ?_
  refine w_sl 9 (.int .u32 ((s + 1) % 4294967296)) rfl ?_
  exact hh.l0 (hle.trans e85) (hG.mono e85) he
set_option maxRecDepth 100000 in
set_option maxHeartbeats 2000000 in
theorem radomelaw23_LifeRaw.j3_ok {k : Nat} {h : radomelaw23_LifeRaw.Hs} (hh : radomelaw23_LifeRaw.OK h) {H0 H : Hp} {L : Items} {r : Bool} {jk_ : Nat → Value} {kind : Int} {r_0 : Int} {r_1 : Int} {r_2 : Int} {t6 : Bool} {age : Int} {missed : Int} {s : Int} {l_0 : Int} {l_1 : Int} {l_2 : Int} {l_3 : Int} {fine : Bool} {t62 : Int} {t63 : Bool} {b_r_ : Nat} {b_l : Nat} (hle : H0.le H) (hG : GH H) (he : radomelaw23_LifeRaw.j3 k h kind r_0 r_1 r_2 t6 age missed s l_0 l_1 l_2 l_3 fine t62 t63 = some r) : Wp Tryd.prog 6 146 radomelaw23_LifeRaw.Kj3 (upd (upd (upd (upd (upd (upd (upd (upd (upd (upd jk_ 1 (.int .i64 kind)) 3 (.pointer (some ⟨b_r_, 0, none⟩))) 6 (.bool t6)) 7 (.int .i64 age)) 8 (.int .i64 missed)) 9 (.int .u32 s)) 10 (.pointer (some ⟨b_l, 0, none⟩))) 11 (.bool fine)) 62 (.int .i64 t62)) 63 (.bool t63)) H (some (b_l, .cells ⟨[.int .i64 l_0, .int .u32 l_1, .int .i64 l_2, .int .i64 l_3]⟩ 52 (0, 0)) :: some (b_r_, .cells ⟨[.int .i64 r_0, .int .i64 r_1, .int .i64 r_2]⟩ 49 (0, 0)) :: L) (radomelaw23_LifeRaw.R H0 L r) := by
 unfold radomelaw23_LifeRaw.j3 at he
 unfold radomelaw23_LifeRaw.Kj3
 rcases its he with ⟨c29, he⟩ | ⟨c29, he⟩
 ·
  refine w_then rfl c29 ?_
  refine w_region rfl ?_
  refine w_d rfl (d_move (v := .bool fine) rfl) ?_
  refine w_d rfl (d_move (v := .bool fine) rfl) ?_
  refine w_g (g := fine) rfl rfl rfl wn_t (fun g30 => d_move (v := .int .i64 missed) rfl) ?_
  refine w_g (g := fine) rfl rfl rfl wn_t (fun g31 => d_geq (cvt g31) rfl) ?_
  refine w_d rfl (d_and' (b := fine) (p := (decide (0 ≤ missed))) rfl rfl rfl) ?_
  refine w_d rfl (d_move (v := .bool (fine && (decide (0 ≤ missed)))) rfl) ?_
  refine w_g (g := fine && (decide (0 ≤ missed))) rfl rfl rfl wn_t (fun g32 => d_move (v := .int .i64 missed) rfl) ?_
  refine w_g (g := fine && (decide (0 ≤ missed))) rfl rfl rfl wn_t (fun g33 => d_fld (o' := 2) Tryd.underlying49 rfl sz3 rfl rfl rfl) ?_
  refine w_g (g := fine && (decide (0 ≤ missed))) rfl rfl rfl wn_t (fun g34 => d_loado (v := .int .i64 r_2) ty3 (cvt g34) (.there .here) rfl rfl rfl rfl) ?_
  refine w_g (g := fine && (decide (0 ≤ missed))) rfl rfl rfl wn_t (fun g35 => d_leq (cvt g35) (cvt g35)) ?_
  refine w_d rfl (d_and' (b := (fine && (decide (0 ≤ missed)))) (p := (decide (missed ≤ r_2))) rfl rfl rfl) ?_
  refine w_d rfl (d_assign (v := .bool ((fine && (decide (0 ≤ missed))) && (decide (missed ≤ r_2)))) rfl) ?_
  refine w_done ?_
  refine w_sl 1 (.int .i64 kind) rfl ?_
  refine w_sl 3 (.pointer (some ⟨b_r_, 0, none⟩)) rfl ?_
  refine w_sl 6 (.bool t6) rfl ?_
  refine w_sl 7 (.int .i64 age) rfl ?_
  refine w_sl 8 (.int .i64 missed) rfl ?_
  refine w_sl 9 (.int .u32 s) rfl ?_
  refine w_sl 10 (.pointer (some ⟨b_l, 0, none⟩)) rfl ?_
  refine w_sl 11 (.bool ((fine && (decide (0 ≤ missed))) && (decide (missed ≤ r_2)))) rfl ?_
  exact radomelaw23_LifeRaw.j4_ok (k := k) hh hle hG he
 ·
  refine w_else rfl (Bool.eq_false_iff.2 c29) ?_
  refine w_seq ?_
  refine w_region rfl ?_
  refine w_d rfl (d_eql rfl rfl) ?_
  refine w_d rfl (d_assign (v := .bool (decide (t62 = 1))) rfl) ?_
  refine w_done ?_
  rcases its he with ⟨c36, he⟩ | ⟨c36, he⟩
  ·
   refine w_then rfl (decide_eq_true c36) ?_
   refine w_region rfl ?_
   refine w_d rfl (d_move (v := .bool fine) rfl) ?_
   refine w_d rfl (d_move (v := .bool fine) rfl) ?_
   refine w_g (g := fine) rfl rfl rfl wn_t (fun g37 => d_move (v := .int .i64 missed) rfl) ?_
   refine w_g (g := fine) rfl rfl rfl wn_t (fun g38 => d_eql (cvt g38) rfl) ?_
   refine w_d rfl (d_and' (b := fine) (p := (decide (missed = 0))) rfl rfl rfl) ?_
   refine w_d rfl (d_assign (v := .bool (fine && (decide (missed = 0)))) rfl) ?_
   refine w_done ?_
   refine w_sl 1 (.int .i64 kind) rfl ?_
   refine w_sl 3 (.pointer (some ⟨b_r_, 0, none⟩)) rfl ?_
   refine w_sl 6 (.bool t6) rfl ?_
   refine w_sl 7 (.int .i64 age) rfl ?_
   refine w_sl 8 (.int .i64 missed) rfl ?_
   refine w_sl 9 (.int .u32 s) rfl ?_
   refine w_sl 10 (.pointer (some ⟨b_l, 0, none⟩)) rfl ?_
   refine w_sl 11 (.bool (fine && (decide (missed = 0)))) rfl ?_
   exact radomelaw23_LifeRaw.j4_ok (k := k) hh hle hG he
  ·
   refine w_else rfl (decide_eq_false c36) ?_
   refine w_seq ?_
   refine w_region rfl ?_
   refine w_d rfl (d_eql rfl rfl) ?_
   refine w_d rfl (d_assign (v := .bool (decide (t62 = 2))) rfl) ?_
   refine w_done ?_
   rcases its he with ⟨c39, he⟩ | ⟨c39, he⟩
   ·
    refine w_then rfl (decide_eq_true c39) ?_
    refine w_region rfl ?_
    refine w_d rfl (d_move (v := .bool fine) rfl) ?_
    refine w_d rfl (d_move (v := .bool fine) rfl) ?_
    refine w_g (g := fine) rfl rfl rfl wn_t (fun g40 => d_move (v := .int .i64 missed) rfl) ?_
    refine w_g (g := fine) rfl rfl rfl wn_t (fun g41 => d_geq (cvt g41) rfl) ?_
    refine w_d rfl (d_and' (b := fine) (p := (decide (1 ≤ missed))) rfl rfl rfl) ?_
    refine w_d rfl (d_move (v := .bool (fine && (decide (1 ≤ missed)))) rfl) ?_
    refine w_g (g := fine && (decide (1 ≤ missed))) rfl rfl rfl wn_t (fun g42 => d_move (v := .int .i64 missed) rfl) ?_
    refine w_g (g := fine && (decide (1 ≤ missed))) rfl rfl rfl wn_t (fun g43 => d_fld (o' := 2) Tryd.underlying49 rfl sz3 rfl rfl rfl) ?_
    refine w_g (g := fine && (decide (1 ≤ missed))) rfl rfl rfl wn_t (fun g44 => d_loado (v := .int .i64 r_2) ty3 (cvt g44) (.there .here) rfl rfl rfl rfl) ?_
    refine w_g (g := fine && (decide (1 ≤ missed))) rfl rfl rfl wn_t (fun g45 => d_lss (cvt g45) (cvt g45)) ?_
    refine w_d rfl (d_and' (b := (fine && (decide (1 ≤ missed)))) (p := (decide (missed < r_2))) rfl rfl rfl) ?_
    refine w_d rfl (d_assign (v := .bool ((fine && (decide (1 ≤ missed))) && (decide (missed < r_2)))) rfl) ?_
    refine w_done ?_
    refine w_sl 1 (.int .i64 kind) rfl ?_
    refine w_sl 3 (.pointer (some ⟨b_r_, 0, none⟩)) rfl ?_
    refine w_sl 6 (.bool t6) rfl ?_
    refine w_sl 7 (.int .i64 age) rfl ?_
    refine w_sl 8 (.int .i64 missed) rfl ?_
    refine w_sl 9 (.int .u32 s) rfl ?_
    refine w_sl 10 (.pointer (some ⟨b_l, 0, none⟩)) rfl ?_
    refine w_sl 11 (.bool ((fine && (decide (1 ≤ missed))) && (decide (missed < r_2)))) rfl ?_
    exact radomelaw23_LifeRaw.j4_ok (k := k) hh hle hG he
   ·
    refine w_else rfl (decide_eq_false c39) ?_
    refine w_seq ?_
    refine w_region rfl ?_
    refine w_d rfl (d_eql rfl rfl) ?_
    refine w_d rfl (d_assign (v := .bool (decide (t62 = 4))) rfl) ?_
    refine w_done ?_
    rcases its he with ⟨c46, he⟩ | ⟨c46, he⟩
    ·
     refine w_then rfl (decide_eq_true c46) ?_
     refine w_region rfl ?_
     refine w_d rfl (d_move (v := .bool fine) rfl) ?_
     refine w_d rfl (d_move (v := .bool fine) rfl) ?_
     refine w_g (g := fine) rfl rfl rfl wn_t (fun g47 => d_move (v := .int .i64 missed) rfl) ?_
     refine w_g (g := fine) rfl rfl rfl wn_t (fun g48 => d_fld (o' := 2) Tryd.underlying49 rfl sz3 rfl rfl rfl) ?_
     refine w_g (g := fine) rfl rfl rfl wn_t (fun g49 => d_loado (v := .int .i64 r_2) ty3 (cvt g49) (.there .here) rfl rfl rfl rfl) ?_
     refine w_g (g := fine) rfl rfl rfl wn_t (fun g50 => d_eql (cvt g50) (cvt g50)) ?_
     refine w_d rfl (d_and' (b := fine) (p := (decide (missed = r_2))) rfl rfl rfl) ?_
     refine w_d rfl (d_assign (v := .bool (fine && (decide (missed = r_2)))) rfl) ?_
     refine w_done ?_
     refine w_sl 1 (.int .i64 kind) rfl ?_
     refine w_sl 3 (.pointer (some ⟨b_r_, 0, none⟩)) rfl ?_
     refine w_sl 6 (.bool t6) rfl ?_
     refine w_sl 7 (.int .i64 age) rfl ?_
     refine w_sl 8 (.int .i64 missed) rfl ?_
     refine w_sl 9 (.int .u32 s) rfl ?_
     refine w_sl 10 (.pointer (some ⟨b_l, 0, none⟩)) rfl ?_
     refine w_sl 11 (.bool (fine && (decide (missed = r_2)))) rfl ?_
     exact radomelaw23_LifeRaw.j4_ok (k := k) hh hle hG he
    ·
     refine w_else rfl (decide_eq_false c46) ?_
     refine w_region rfl ?_
     refine w_d rfl (d_assign (v := .bool false) rfl) ?_
     refine w_done ?_
     refine w_sl 1 (.int .i64 kind) rfl ?_
     refine w_sl 3 (.pointer (some ⟨b_r_, 0, none⟩)) rfl ?_
     refine w_sl 6 (.bool t6) rfl ?_
     refine w_sl 7 (.int .i64 age) rfl ?_
     refine w_sl 8 (.int .i64 missed) rfl ?_
     refine w_sl 9 (.int .u32 s) rfl ?_
     refine w_sl 10 (.pointer (some ⟨b_l, 0, none⟩)) rfl ?_
     refine w_sl 11 (.bool false) rfl ?_
     exact radomelaw23_LifeRaw.j4_ok (k := k) hh hle hG he
set_option maxRecDepth 100000 in
set_option maxHeartbeats 2000000 in
theorem radomelaw23_LifeRaw.b1_ok {k : Nat} {h : radomelaw23_LifeRaw.Hs} (hh : radomelaw23_LifeRaw.OK h) {H0 H : Hp} {L : Items} {r : Bool} {jk_ : Nat → Value} {kind : Int} {r_0 : Int} {r_1 : Int} {r_2 : Int} {t6 : Bool} {age : Int} {missed : Int} {s : Int} {l_0 : Int} {l_1 : Int} {l_2 : Int} {l_3 : Int} {fine : Bool} {k_ : Int} {b_r_ : Nat} {b_l : Nat} (hle : H0.le H) (hG : GH H) (he : radomelaw23_LifeRaw.b1 k h kind r_0 r_1 r_2 t6 age missed s l_0 l_1 l_2 l_3 fine k_ = some r) : Wp Tryd.prog 6 146 radomelaw23_LifeRaw.Kl1 (upd (upd (upd (upd (upd (upd (upd (upd (upd jk_ 1 (.int .i64 kind)) 3 (.pointer (some ⟨b_r_, 0, none⟩))) 6 (.bool t6)) 7 (.int .i64 age)) 8 (.int .i64 missed)) 9 (.int .u32 s)) 10 (.pointer (some ⟨b_l, 0, none⟩))) 11 (.bool fine)) 12 (.int .i64 k_)) H (some (b_l, .cells ⟨[.int .i64 l_0, .int .u32 l_1, .int .i64 l_2, .int .i64 l_3]⟩ 52 (0, 0)) :: some (b_r_, .cells ⟨[.int .i64 r_0, .int .i64 r_1, .int .i64 r_2]⟩ 49 (0, 0)) :: L) (radomelaw23_LifeRaw.R H0 L r) := by
 unfold radomelaw23_LifeRaw.b1 at he
 unfold radomelaw23_LifeRaw.Kl1
 refine w_seq ?_
 refine w_seq ?_
 refine w_region rfl ?_
 refine w_d rfl (d_move (v := .int .i64 k_) rfl) ?_
 refine w_d rfl (d_lss rfl rfl) ?_
 refine w_d rfl (d_move (v := .bool (decide (k_ < 32))) rfl) ?_
 refine w_g (g := decide (k_ < 32)) rfl rfl rfl wn_t (fun g25 => d_move (v := .bool fine) rfl) ?_
 refine w_d rfl (d_and' (b := (decide (k_ < 32))) (p := fine) rfl rfl rfl) ?_
 refine w_done ?_
 rcases its he with ⟨c26, he⟩ | ⟨c26, he⟩
 ·
  refine w_then rfl c26 ?_
  refine w_skip ?_
  refine w_seq ?_
  refine w_block ?_
  refine w_region rfl ?_
  refine w_d rfl (d_move (v := .int .u32 s) rfl) ?_
  refine w_d rfl (d_move (v := .int .i64 k_) rfl) ?_
  obtain ⟨c27, he⟩ := rq he
  refine w_d rfl (d_shr (c := s / 2 ^ shn .u32 k_) rfl rfl c27 rfl) ?_
  refine w_d rfl (d_rem rfl rfl (by decide)) ?_
  refine w_d rfl (d_eql rfl rfl) ?_
  refine w_d rfl (d_assign (v := .bool (decide ((Int.tmod (s / 2 ^ shn .u32 k_) 2) = 0))) rfl) ?_
  refine w_done ?_
  refine w_inBlock ?_
  refine w_region rfl ?_
  refine w_d rfl (d_move (v := .int .i64 k_) rfl) ?_
  refine w_d rfl (d_add (c := w64 (k_ + 1)) rfl rfl rfl) ?_
  refine w_d rfl (d_assign (v := .int .i64 (w64 (k_ + 1))) rfl) ?_
  refine w_done ?_
  refine w_inLoop ?_
  refine w_sl 1 (.int .i64 kind) rfl ?_
  refine w_sl 3 (.pointer (some ⟨b_r_, 0, none⟩)) rfl ?_
  refine w_sl 6 (.bool t6) rfl ?_
  refine w_sl 7 (.int .i64 age) rfl ?_
  refine w_sl 8 (.int .i64 missed) rfl ?_
  refine w_sl 9 (.int .u32 s) rfl ?_
  refine w_sl 10 (.pointer (some ⟨b_l, 0, none⟩)) rfl ?_
  refine w_sl 11 (.bool (decide ((Int.tmod (s / 2 ^ shn .u32 k_) 2) = 0))) rfl ?_
  refine w_sl 12 (.int .i64 (w64 (k_ + 1))) rfl ?_
  exact hh.l1 hle hG he
 ·
  refine w_else rfl (Bool.eq_false_iff.2 c26) ?_
  refine w_exit rfl ?_
  refine w_seq ?_
  refine w_seq ?_
  refine w_region rfl ?_
  refine w_d rfl (d_move (v := .int .i64 kind) rfl) ?_
  refine w_done ?_
  refine w_block ?_
  refine w_seq ?_
  refine w_seq ?_
  refine w_region rfl ?_
  refine w_d rfl (d_eql rfl rfl) ?_
  refine w_d rfl (d_assign (v := .bool (decide (kind = 0))) rfl) ?_
  refine w_done ?_
  rcases its he with ⟨c28, he⟩ | ⟨c28, he⟩
  ·
   refine w_then rfl (decide_eq_true c28) ?_
   refine w_skip ?_
   refine w_sl 1 (.int .i64 kind) rfl ?_
   refine w_sl 3 (.pointer (some ⟨b_r_, 0, none⟩)) rfl ?_
   refine w_sl 6 (.bool t6) rfl ?_
   refine w_sl 7 (.int .i64 age) rfl ?_
   refine w_sl 8 (.int .i64 missed) rfl ?_
   refine w_sl 9 (.int .u32 s) rfl ?_
   refine w_sl 10 (.pointer (some ⟨b_l, 0, none⟩)) rfl ?_
   refine w_sl 11 (.bool fine) rfl ?_
   refine w_sl 62 (.int .i64 kind) rfl ?_
   refine w_sl 63 (.bool (decide (kind = 0))) rfl ?_
   exact radomelaw23_LifeRaw.j3_ok (k := k) hh hle hG he
  ·
   refine w_else rfl (decide_eq_false c28) ?_
   refine w_region rfl ?_
   refine w_d rfl (d_eql rfl rfl) ?_
   refine w_d rfl (d_assign (v := .bool (decide (kind = 3))) rfl) ?_
   refine w_done ?_
   refine w_sl 1 (.int .i64 kind) rfl ?_
   refine w_sl 3 (.pointer (some ⟨b_r_, 0, none⟩)) rfl ?_
   refine w_sl 6 (.bool t6) rfl ?_
   refine w_sl 7 (.int .i64 age) rfl ?_
   refine w_sl 8 (.int .i64 missed) rfl ?_
   refine w_sl 9 (.int .u32 s) rfl ?_
   refine w_sl 10 (.pointer (some ⟨b_l, 0, none⟩)) rfl ?_
   refine w_sl 11 (.bool fine) rfl ?_
   refine w_sl 62 (.int .i64 kind) rfl ?_
   refine w_sl 63 (.bool (decide (kind = 3))) rfl ?_
   exact radomelaw23_LifeRaw.j3_ok (k := k) hh hle hG he
theorem radomelaw23_LifeRaw.ok : ∀ k, radomelaw23_LifeRaw.OK (radomelaw23_LifeRaw.hs k)
 | 0 => ⟨(by intros; exact nomatch (show none = some _ from by assumption)), (by intros; exact nomatch (show none = some _ from by assumption))⟩
 | k + 1 => ⟨radomelaw23_LifeRaw.b0_ok (k := k) (radomelaw23_LifeRaw.ok k), radomelaw23_LifeRaw.b1_ok (k := k) (radomelaw23_LifeRaw.ok k)⟩
set_option maxRecDepth 100000 in
set_option maxHeartbeats 2000000 in
theorem radomelaw23_LifeRaw.calls (k : Nat) {H : Hp} {L : Items} {r_ : radomeref23_Rule} {kind : Int} {of_ : T68} {r : Bool} (hG : GH H) (he : radomelaw23_LifeRaw.f k r_ kind of_ = some r) : Ct Tryd.prog 6 ⟨[.agg ⟨[.int .i64 r_.f_Hits, .int .i64 r_.f_Window, .int .i64 r_.f_Misses]⟩, .int .i64 kind, .agg ⟨[.int .i64 of_.e0, .int .i64 of_.e1]⟩]⟩ H L (fun v H' L' => L = L' ∧ H = H' ∧ v = .bool r) := by
 refine ct_outs (O := radomelaw23_LifeRaw.out r) (fun _ _ h => h) ?_
 have hle : H.le H := .refl _
 have hh := radomelaw23_LifeRaw.ok k
 unfold radomelaw23_LifeRaw.f at he
 refine ct_enter (args := [.agg ⟨[.int .i64 r_.f_Hits, .int .i64 r_.f_Window, .int .i64 r_.f_Misses]⟩, .int .i64 kind, .agg ⟨[.int .i64 of_.e0, .int .i64 of_.e1]⟩]) fn_6 rfl nt_6 rfl ?_
 refine w_seq ?_
 refine w_region rfl ?_
 refine w_a rfl (o_box (v := .agg ⟨[.int .i64 r_.f_Hits, .int .i64 r_.f_Window, .int .i64 r_.f_Misses]⟩) rfl rfl) ?_
 rintro _ _ _ ⟨b1, rfl, rfl, rfl⟩
 refine w_a rfl (o_box (v := .agg ⟨[.int .i64 of_.e0, .int .i64 of_.e1]⟩) rfl rfl) ?_
 rintro _ _ _ ⟨b2, rfl, rfl, rfl⟩
 refine w_d rfl (d_assign (v := .bool false) rfl) ?_
 refine w_done ?_
 refine w_seq ?_
 refine w_drawn (p := 5) (tl := [5]) [[], [(0, some 16)], [], [(2, some 18)], [(1, some 17)]] [some 16, some 17, some 18, some 19, some 7] (fctF [.is (.pointer (some ⟨b2, 0, none⟩)), .is (.int .i64 of_.e0), .is (.pointer (some ⟨b2, 1, none⟩)), .is (.int .i64 of_.e1), .is (.int .i64 of_.e0)]) (fun m_ => some (b2, .cells ⟨[.int .i64 of_.e0, .int .i64 of_.e1]⟩ 68 (0, 0)) :: some (b1, .cells ⟨[.int .i64 r_.f_Hits, .int .i64 r_.f_Window, .int .i64 r_.f_Misses]⟩ 49 (0, 0)) :: L) (fun _ => none) mixed (by kernel_rfl) (by kernel_rfl) rfl (fct_mono (by kernel_rfl)) ⟨(by intro H' m_ hH hm_ hu_; refine depK_nil ?_; exact s_d (m_ 0) rfl (d_idxArr (o' := 0) Tryd.underlying68 sz3 rfl rfl (by decide) rfl) (by exact rfl) rfl), (by intro H' m_ hH hm_ hu_; rintro _ rfl; refine depK_nil ?_; exact s_d (m_ 1) rfl (d_loado (v := .int .i64 of_.e0) ty3 rfl .here rfl rfl rfl rfl) (by exact rfl) rfl), (by intro H' m_ hH hm_ hu_; refine depK_nil ?_; exact s_d (m_ 2) rfl (d_idxArr (o' := 1) Tryd.underlying68 sz3 rfl rfl (by decide) rfl) (by exact rfl) rfl), (by intro H' m_ hH hm_ hu_; rintro _ rfl; refine depK_nil ?_; exact s_d (m_ 3) rfl (d_loado (v := .int .i64 of_.e1) ty3 rfl .here rfl rfl rfl rfl) (by exact rfl) rfl), (by intro H' m_ hH hm_ hu_; rintro _ rfl; refine depK_nil ?_; exact s_d (m_ 4) rfl (d_assign (v := .int .i64 of_.e0) rfl) (by exact rfl) rfl), trivial⟩ ?_
 intro H3 e4
 rintro _ _ rfl _ _ rfl _ _ rfl _ _ rfl _ _ rfl
 refine w_d rfl (d_assign (v := .int .i64 of_.e1) rfl) ?_
 refine w_done ?_
 refine w_seq ?_
 refine w_seq ?_
 refine w_region rfl ?_
 refine w_d rfl (d_assign (v := .int .u32 0) rfl) ?_
 refine w_done ?_
 refine w_block ?_
 refine w_loop ?_
 refine w_del .here ?_
 refine w_sl 1 (.int .i64 kind) rfl ?_
 refine w_sl 3 (.pointer (some ⟨b1, 0, none⟩)) rfl ?_
 refine w_sl 6 (.bool false) rfl ?_
 refine w_sl 7 (.int .i64 of_.e0) rfl ?_
 refine w_sl 8 (.int .i64 of_.e1) rfl ?_
 refine w_sl 9 (.int .u32 0) rfl ?_
 exact hh.l0 (hle.trans e4) (hG.mono e4) he
end Go.Proofs.YtddcfnhbedpbnaaDoor.GTR
