/- A text of this session, written by a program (wip/k/gen.py): Go functions as Lean functions, and proofs that the code comes to them. -/
import Derived.Test.YtddcfnhbedpbnaaGLLx0
namespace Go.Proofs.Ytddcfnhbedpbnaa.GLL
open Go Go.RowKit Go.Proofs.YtddcfnhbedpbnaaK Go.Proofs.Ytddcfnhbedpbnaa
set_option linter.unusedVariables false
set_option linter.unusedSimpArgs false
/-! ### radome/radomelaw23.LifeLaws -/
noncomputable def radomelaw23_LifeLaws.C : Code := (Try.f6.body).getD .skip
def radomelaw23_LifeLaws.out (r : Bool) (H : Hp) (v : Value) : Prop := v = .bool r
abbrev radomelaw23_LifeLaws.R (H0 : Hp) (L : Items) (r : Bool) : Value → Hp → Items → Prop := fun v H' L' => (∃ p, L' = p ++ L) ∧ H0.le H' ∧ radomelaw23_LifeLaws.out r H' v
structure radomelaw23_LifeLaws.Hs where
 l0 : (List Bool) → Int → Int → Int → Bool → Int → Int → Int → Int → (List Bool) → Int → Option Bool
 l1 : (List Bool) → Int → Int → Int → Bool → Int → Int → Int → Int → (List Bool) → Int → Int → Int → Int → Int → Int → Int → Int → Option Bool
 l2 : Int → Int → Int → Bool → Int → Int → Int → Int → Int → Int → Int → Int → Int → Int → Int → Int → Int → Option Bool
 l3 : Int → Int → Int → Bool → Int → Int → Int → Int → Int → Int → Int → Int → Int → Option Bool
noncomputable def radomelaw23_LifeLaws.b0 (k : Nat) (h : radomelaw23_LifeLaws.Hs)  (hits : List Bool) (r_0 : Int) (r_1 : Int) (r_2 : Int) (t4 : Bool) (l_0 : Int) (l_1 : Int) (l_2 : Int) (l_3 : Int) (all : List Bool) (i : Int) : Option Bool := (gd ((decide (i < (hits.length : Int))) && (decide (i < 40))) (life_Gone.f k (⟨l_0, l_1, l_2, l_3⟩ : life_Life)) (false)).bind fun y24 => if (((decide (i < (hits.length : Int))) && (decide (i < 40))) && (!y24)) = true then (if 0 ≤ i ∧ i < (hits.length : Int) then ((life_Next.f k (⟨r_0, r_1, r_2⟩ : life_Rule) (⟨l_0, l_1, l_2, l_3⟩ : life_Life) (rd hits i)).bind fun y31 => if y31.2.isSome = true then (some (false)) else (if 0 ≤ i ∧ i < (hits.length : Int) then (if all.length + 1 ≤ 140737488355200 then (h.l1 hits r_0 r_1 r_2 t4 l_0 l_1 l_2 l_3 (all ++ [rd hits i]) i l_0 y31.1.f_Kind y31.1.f_Seen y31.1.f_Age y31.1.f_Missed 0 (max 0 (w64 (((all ++ [rd hits i]).length : Int) - r_1)))) else none) else none)) else none) else ((life_Gone.f k (⟨l_0, l_1, l_2, l_3⟩ : life_Life)).bind fun y49 => if y49 = true then ((radomelaw23_sure.f k).bind fun y54 => some (y54)) else (h.l2 r_0 r_1 r_2 t4 l_0 l_1 l_2 l_3 l_0 l_1 l_2 l_3 l_0 l_1 l_2 l_3 0))
noncomputable def radomelaw23_LifeLaws.b1 (k : Nat) (h : radomelaw23_LifeLaws.Hs)  (hits : List Bool) (r_0 : Int) (r_1 : Int) (r_2 : Int) (t4 : Bool) (l_0 : Int) (l_1 : Int) (l_2 : Int) (l_3 : Int) (all : List Bool) (i : Int) (was : Int) (m_0 : Int) (m_1 : Int) (m_2 : Int) (m_3 : Int) (n : Int) (k_ : Int) : Option Bool := if k_ < (all.length : Int) then (if 0 ≤ k_ ∧ k_ < (all.length : Int) then (if (rd all k_) = true then (h.l1 hits r_0 r_1 r_2 t4 l_0 l_1 l_2 l_3 all i was m_0 m_1 m_2 m_3 (w64 (n + 1)) (w64 (k_ + 1))) else (h.l1 hits r_0 r_1 r_2 t4 l_0 l_1 l_2 l_3 all i was m_0 m_1 m_2 m_3 n (w64 (k_ + 1)))) else none) else (if ((((decide (was = 0)) && (((decide (m_0 = 1)) || (decide (m_0 = 2))) || (decide (m_0 = 4)))) && (decide (n < r_0))) || ((!decide (was = 0)) && ((decide (m_0 = 0)) || (decide (m_0 = 3))))) = true then (some (false)) else (h.l0 hits r_0 r_1 r_2 t4 m_0 m_1 m_2 m_3 all (w64 (i + 1))))
noncomputable def radomelaw23_LifeLaws.j3 (k : Nat) (h : radomelaw23_LifeLaws.Hs)  (r_0 : Int) (r_1 : Int) (r_2 : Int) (t4 : Bool) (seen_0 : Int) (seen_1 : Int) (seen_2 : Int) (seen_3 : Int) (lost_0 : Int) (lost_1 : Int) (lost_2 : Int) (lost_3 : Int) : Option Bool := h.l3 r_0 r_1 r_2 t4 seen_0 seen_1 seen_2 seen_3 lost_0 lost_1 lost_2 lost_3 0
noncomputable def radomelaw23_LifeLaws.b2 (k : Nat) (h : radomelaw23_LifeLaws.Hs)  (r_0 : Int) (r_1 : Int) (r_2 : Int) (t4 : Bool) (l_0 : Int) (l_1 : Int) (l_2 : Int) (l_3 : Int) (seen_0 : Int) (seen_1 : Int) (seen_2 : Int) (seen_3 : Int) (lost_0 : Int) (lost_1 : Int) (lost_2 : Int) (lost_3 : Int) (i : Int) : Option Bool := if i < 20 then ((life_Next.f k (⟨r_0, r_1, r_2⟩ : life_Rule) (⟨seen_0, seen_1, seen_2, seen_3⟩ : life_Life) true).bind fun y98 => if (y98.2.isSome || ((!decide (l_0 = 0)) && (!decide (y98.1.f_Kind = 1)))) = true then (some (false)) else ((life_Gone.f k (⟨y98.1.f_Kind, y98.1.f_Seen, y98.1.f_Age, y98.1.f_Missed⟩ : life_Life)).bind fun y112 => if y112 = true then (radomelaw23_LifeLaws.j3 k h r_0 r_1 r_2 t4 y98.1.f_Kind y98.1.f_Seen y98.1.f_Age y98.1.f_Missed lost_0 lost_1 lost_2 lost_3) else (h.l2 r_0 r_1 r_2 t4 l_0 l_1 l_2 l_3 y98.1.f_Kind y98.1.f_Seen y98.1.f_Age y98.1.f_Missed lost_0 lost_1 lost_2 lost_3 (w64 (i + 1))))) else (radomelaw23_LifeLaws.j3 k h r_0 r_1 r_2 t4 seen_0 seen_1 seen_2 seen_3 lost_0 lost_1 lost_2 lost_3)
noncomputable def radomelaw23_LifeLaws.b3 (k : Nat) (h : radomelaw23_LifeLaws.Hs)  (r_0 : Int) (r_1 : Int) (r_2 : Int) (t4 : Bool) (seen_0 : Int) (seen_1 : Int) (seen_2 : Int) (seen_3 : Int) (lost_0 : Int) (lost_1 : Int) (lost_2 : Int) (lost_3 : Int) (i : Int) : Option Bool := (gd (decide (i < (w64 (r_2 + r_1)))) (life_Gone.f k (⟨lost_0, lost_1, lost_2, lost_3⟩ : life_Life)) (false)).bind fun y119 => if ((decide (i < (w64 (r_2 + r_1)))) && (!y119)) = true then ((life_Next.f k (⟨r_0, r_1, r_2⟩ : life_Rule) (⟨lost_0, lost_1, lost_2, lost_3⟩ : life_Life) false).bind fun y125 => if (y125.2.isSome || (decide (y125.1.f_Kind = 1))) = true then (some (false)) else (h.l3 r_0 r_1 r_2 t4 seen_0 seen_1 seen_2 seen_3 y125.1.f_Kind y125.1.f_Seen y125.1.f_Age y125.1.f_Missed (w64 (i + 1)))) else ((life_Gone.f k (⟨lost_0, lost_1, lost_2, lost_3⟩ : life_Life)).bind fun y134 => (gd (y134 && (!(decide (seen_0 = 1)))) (life_Gone.f k (⟨seen_0, seen_1, seen_2, seen_3⟩ : life_Life)) (false)).bind fun y144 => (gd (y134 && ((decide (seen_0 = 1)) || y144)) (radomelaw23_sure.f k) (false)).bind fun y150 => some ((y134 && ((decide (seen_0 = 1)) || y144)) && y150))
noncomputable def radomelaw23_LifeLaws.hs : Nat → radomelaw23_LifeLaws.Hs
 | 0 => ⟨fun _ _ _ _ _ _ _ _ _ _ _ => none, fun _ _ _ _ _ _ _ _ _ _ _ _ _ _ _ _ _ _ => none, fun _ _ _ _ _ _ _ _ _ _ _ _ _ _ _ _ _ => none, fun _ _ _ _ _ _ _ _ _ _ _ _ _ => none⟩
 | k + 1 => ⟨fun x0 x1 x2 x3 x4 x5 x6 x7 x8 x9 x10 => radomelaw23_LifeLaws.b0 k (radomelaw23_LifeLaws.hs k) x0 x1 x2 x3 x4 x5 x6 x7 x8 x9 x10, fun x0 x1 x2 x3 x4 x5 x6 x7 x8 x9 x10 x11 x12 x13 x14 x15 x16 x17 => radomelaw23_LifeLaws.b1 k (radomelaw23_LifeLaws.hs k) x0 x1 x2 x3 x4 x5 x6 x7 x8 x9 x10 x11 x12 x13 x14 x15 x16 x17, fun x0 x1 x2 x3 x4 x5 x6 x7 x8 x9 x10 x11 x12 x13 x14 x15 x16 => radomelaw23_LifeLaws.b2 k (radomelaw23_LifeLaws.hs k) x0 x1 x2 x3 x4 x5 x6 x7 x8 x9 x10 x11 x12 x13 x14 x15 x16, fun x0 x1 x2 x3 x4 x5 x6 x7 x8 x9 x10 x11 x12 => radomelaw23_LifeLaws.b3 k (radomelaw23_LifeLaws.hs k) x0 x1 x2 x3 x4 x5 x6 x7 x8 x9 x10 x11 x12⟩
noncomputable def radomelaw23_LifeLaws.f (k : Nat) (r_ : radomeref23_Rule) (hits : List Bool) : Option Bool := (fun h : radomelaw23_LifeLaws.Hs => (radomeref23_Check.f k (⟨r_.f_Hits, r_.f_Window, r_.f_Misses⟩ : radomeref23_Rule)).bind fun y2 => if (!y2) = true then ((radomelaw23_sure.f k).bind fun y7 => some (y7)) else ((life_Born.f k (⟨r_.f_Hits, r_.f_Window, r_.f_Misses⟩ : life_Rule)).bind fun y11 => if y11.2.isSome = true then (some (false)) else (h.l0 hits r_.f_Hits r_.f_Window r_.f_Misses false y11.1.f_Kind y11.1.f_Seen y11.1.f_Age y11.1.f_Missed [true] 0))) (radomelaw23_LifeLaws.hs k)
structure radomelaw23_LifeLaws.LE (h h' : radomelaw23_LifeLaws.Hs) : Prop where
 l0 : ∀ y0 y1 y2 y3 y4 y5 y6 y7 y8 y9 y10, LeO (h.l0 y0 y1 y2 y3 y4 y5 y6 y7 y8 y9 y10) (h'.l0 y0 y1 y2 y3 y4 y5 y6 y7 y8 y9 y10)
 l1 : ∀ y0 y1 y2 y3 y4 y5 y6 y7 y8 y9 y10 y11 y12 y13 y14 y15 y16 y17, LeO (h.l1 y0 y1 y2 y3 y4 y5 y6 y7 y8 y9 y10 y11 y12 y13 y14 y15 y16 y17) (h'.l1 y0 y1 y2 y3 y4 y5 y6 y7 y8 y9 y10 y11 y12 y13 y14 y15 y16 y17)
 l2 : ∀ y0 y1 y2 y3 y4 y5 y6 y7 y8 y9 y10 y11 y12 y13 y14 y15 y16, LeO (h.l2 y0 y1 y2 y3 y4 y5 y6 y7 y8 y9 y10 y11 y12 y13 y14 y15 y16) (h'.l2 y0 y1 y2 y3 y4 y5 y6 y7 y8 y9 y10 y11 y12 y13 y14 y15 y16)
 l3 : ∀ y0 y1 y2 y3 y4 y5 y6 y7 y8 y9 y10 y11 y12, LeO (h.l3 y0 y1 y2 y3 y4 y5 y6 y7 y8 y9 y10 y11 y12) (h'.l3 y0 y1 y2 y3 y4 y5 y6 y7 y8 y9 y10 y11 y12)
theorem radomelaw23_LifeLaws.b0_mono {k : Nat} {h h' : radomelaw23_LifeLaws.Hs} (hl : radomelaw23_LifeLaws.LE h h') : ∀ y0 y1 y2 y3 y4 y5 y6 y7 y8 y9 y10, LeO (radomelaw23_LifeLaws.b0 k h y0 y1 y2 y3 y4 y5 y6 y7 y8 y9 y10) (radomelaw23_LifeLaws.b0 (k + 1) h' y0 y1 y2 y3 y4 y5 y6 y7 y8 y9 y10) := fun _ _ _ _ _ _ _ _ _ _ _ => (LeO.bind (LeO.gd (life_Gone.mono k _)) fun _ => LeO.ite (LeO.ite (LeO.bind (life_Next.mono k _ _ _) fun _ => LeO.ite (LeO.refl _) (LeO.ite (LeO.ite (hl.l1 _ _ _ _ _ _ _ _ _ _ _ _ _ _ _ _ _ _) (LeO.refl _)) (LeO.refl _))) (LeO.refl _)) (LeO.bind (life_Gone.mono k _) fun _ => LeO.ite (LeO.bind (radomelaw23_sure.mono k) fun _ => LeO.refl _) (hl.l2 _ _ _ _ _ _ _ _ _ _ _ _ _ _ _ _ _)))
theorem radomelaw23_LifeLaws.b1_mono {k : Nat} {h h' : radomelaw23_LifeLaws.Hs} (hl : radomelaw23_LifeLaws.LE h h') : ∀ y0 y1 y2 y3 y4 y5 y6 y7 y8 y9 y10 y11 y12 y13 y14 y15 y16 y17, LeO (radomelaw23_LifeLaws.b1 k h y0 y1 y2 y3 y4 y5 y6 y7 y8 y9 y10 y11 y12 y13 y14 y15 y16 y17) (radomelaw23_LifeLaws.b1 (k + 1) h' y0 y1 y2 y3 y4 y5 y6 y7 y8 y9 y10 y11 y12 y13 y14 y15 y16 y17) := fun _ _ _ _ _ _ _ _ _ _ _ _ _ _ _ _ _ _ => (LeO.ite (LeO.ite (LeO.ite (hl.l1 _ _ _ _ _ _ _ _ _ _ _ _ _ _ _ _ _ _) (hl.l1 _ _ _ _ _ _ _ _ _ _ _ _ _ _ _ _ _ _)) (LeO.refl _)) (LeO.ite (LeO.refl _) (hl.l0 _ _ _ _ _ _ _ _ _ _ _)))
theorem radomelaw23_LifeLaws.j3_mono {k : Nat} {h h' : radomelaw23_LifeLaws.Hs} (hl : radomelaw23_LifeLaws.LE h h') : ∀ y0 y1 y2 y3 y4 y5 y6 y7 y8 y9 y10 y11, LeO (radomelaw23_LifeLaws.j3 k h y0 y1 y2 y3 y4 y5 y6 y7 y8 y9 y10 y11) (radomelaw23_LifeLaws.j3 (k + 1) h' y0 y1 y2 y3 y4 y5 y6 y7 y8 y9 y10 y11) := fun _ _ _ _ _ _ _ _ _ _ _ _ => (hl.l3 _ _ _ _ _ _ _ _ _ _ _ _ _)
theorem radomelaw23_LifeLaws.b2_mono {k : Nat} {h h' : radomelaw23_LifeLaws.Hs} (hl : radomelaw23_LifeLaws.LE h h') : ∀ y0 y1 y2 y3 y4 y5 y6 y7 y8 y9 y10 y11 y12 y13 y14 y15 y16, LeO (radomelaw23_LifeLaws.b2 k h y0 y1 y2 y3 y4 y5 y6 y7 y8 y9 y10 y11 y12 y13 y14 y15 y16) (radomelaw23_LifeLaws.b2 (k + 1) h' y0 y1 y2 y3 y4 y5 y6 y7 y8 y9 y10 y11 y12 y13 y14 y15 y16) := fun _ _ _ _ _ _ _ _ _ _ _ _ _ _ _ _ _ => (LeO.ite (LeO.bind (life_Next.mono k _ _ _) fun _ => LeO.ite (LeO.refl _) (LeO.bind (life_Gone.mono k _) fun _ => LeO.ite (radomelaw23_LifeLaws.j3_mono (k := k) hl _ _ _ _ _ _ _ _ _ _ _ _) (hl.l2 _ _ _ _ _ _ _ _ _ _ _ _ _ _ _ _ _))) (radomelaw23_LifeLaws.j3_mono (k := k) hl _ _ _ _ _ _ _ _ _ _ _ _))
theorem radomelaw23_LifeLaws.b3_mono {k : Nat} {h h' : radomelaw23_LifeLaws.Hs} (hl : radomelaw23_LifeLaws.LE h h') : ∀ y0 y1 y2 y3 y4 y5 y6 y7 y8 y9 y10 y11 y12, LeO (radomelaw23_LifeLaws.b3 k h y0 y1 y2 y3 y4 y5 y6 y7 y8 y9 y10 y11 y12) (radomelaw23_LifeLaws.b3 (k + 1) h' y0 y1 y2 y3 y4 y5 y6 y7 y8 y9 y10 y11 y12) := fun _ _ _ _ _ _ _ _ _ _ _ _ _ => (LeO.bind (LeO.gd (life_Gone.mono k _)) fun _ => LeO.ite (LeO.bind (life_Next.mono k _ _ _) fun _ => LeO.ite (LeO.refl _) (hl.l3 _ _ _ _ _ _ _ _ _ _ _ _ _)) (LeO.bind (life_Gone.mono k _) fun _ => LeO.bind (LeO.gd (life_Gone.mono k _)) fun _ => LeO.bind (LeO.gd (radomelaw23_sure.mono k)) fun _ => LeO.refl _))
theorem radomelaw23_LifeLaws.hs_mono : ∀ k, radomelaw23_LifeLaws.LE (radomelaw23_LifeLaws.hs k) (radomelaw23_LifeLaws.hs (k + 1))
 | 0 => ⟨fun _ _ _ _ _ _ _ _ _ _ _ => LeO.none _, fun _ _ _ _ _ _ _ _ _ _ _ _ _ _ _ _ _ _ => LeO.none _, fun _ _ _ _ _ _ _ _ _ _ _ _ _ _ _ _ _ => LeO.none _, fun _ _ _ _ _ _ _ _ _ _ _ _ _ => LeO.none _⟩
 | k + 1 => ⟨radomelaw23_LifeLaws.b0_mono (k := k) (radomelaw23_LifeLaws.hs_mono k), radomelaw23_LifeLaws.b1_mono (k := k) (radomelaw23_LifeLaws.hs_mono k), radomelaw23_LifeLaws.b2_mono (k := k) (radomelaw23_LifeLaws.hs_mono k), radomelaw23_LifeLaws.b3_mono (k := k) (radomelaw23_LifeLaws.hs_mono k)⟩
theorem radomelaw23_LifeLaws.mono : ∀ k y0 y1, LeO (radomelaw23_LifeLaws.f k y0 y1) (radomelaw23_LifeLaws.f (k + 1) y0 y1) := fun k _ _ => have hl := radomelaw23_LifeLaws.hs_mono k; by unfold radomelaw23_LifeLaws.f; exact (LeO.bind (radomeref23_Check.mono k _) fun _ => LeO.ite (LeO.bind (radomelaw23_sure.mono k) fun _ => LeO.refl _) (LeO.bind (life_Born.mono k _) fun _ => LeO.ite (LeO.refl _) (hl.l0 _ _ _ _ _ _ _ _ _ _ _)))
noncomputable def radomelaw23_LifeLaws.Kl0 : List Item := .code (lopB (blkB (seqR (seqL (seqR (seqR (seqR (seqR (seqR radomelaw23_LifeLaws.C))))))))) :: .inLoop (lopB (blkB (seqR (seqL (seqR (seqR (seqR (seqR (seqR radomelaw23_LifeLaws.C))))))))) :: .inBlock 0 :: .code (seqR (seqR (seqR (seqR (seqR (seqR radomelaw23_LifeLaws.C)))))) :: []
noncomputable def radomelaw23_LifeLaws.Kl1 : List Item := .code (lopB (blkB (seqR (seqL (seqR (seqR (seqR (seqR (seqR (blkB (seqL (seqR (lopB (blkB (seqR (seqL (seqR (seqR (seqR (seqR (seqR radomelaw23_LifeLaws.C))))))))))))))))))))) :: .inLoop (lopB (blkB (seqR (seqL (seqR (seqR (seqR (seqR (seqR (blkB (seqL (seqR (lopB (blkB (seqR (seqL (seqR (seqR (seqR (seqR (seqR radomelaw23_LifeLaws.C))))))))))))))))))))) :: .inBlock 2 :: .code (seqR (seqR (seqR (seqR (seqR (seqR (blkB (seqL (seqR (lopB (blkB (seqR (seqL (seqR (seqR (seqR (seqR (seqR radomelaw23_LifeLaws.C)))))))))))))))))) :: .inBlock 1 :: .code (seqR (seqR (lopB (blkB (seqR (seqL (seqR (seqR (seqR (seqR (seqR radomelaw23_LifeLaws.C))))))))))) :: .inLoop (lopB (blkB (seqR (seqL (seqR (seqR (seqR (seqR (seqR radomelaw23_LifeLaws.C))))))))) :: .inBlock 0 :: .code (seqR (seqR (seqR (seqR (seqR (seqR radomelaw23_LifeLaws.C)))))) :: []
noncomputable def radomelaw23_LifeLaws.Kj3 : List Item := .code (seqR (seqR (seqR (seqR (seqR (seqR (seqR (seqR (seqR radomelaw23_LifeLaws.C))))))))) :: []
noncomputable def radomelaw23_LifeLaws.Kl2 : List Item := .code (lopB (blkB (seqR (seqL (seqR (seqR (seqR (seqR (seqR (seqR (seqR (seqR radomelaw23_LifeLaws.C)))))))))))) :: .inLoop (lopB (blkB (seqR (seqL (seqR (seqR (seqR (seqR (seqR (seqR (seqR (seqR radomelaw23_LifeLaws.C)))))))))))) :: .inBlock 4 :: radomelaw23_LifeLaws.Kj3
noncomputable def radomelaw23_LifeLaws.Kl3 : List Item := .code (lopB (blkB (seqR (seqL (seqR (seqR (seqR (seqR (seqR (seqR (seqR (seqR (seqR radomelaw23_LifeLaws.C))))))))))))) :: .inLoop (lopB (blkB (seqR (seqL (seqR (seqR (seqR (seqR (seqR (seqR (seqR (seqR (seqR radomelaw23_LifeLaws.C))))))))))))) :: .inBlock 6 :: .code (seqR (seqR (seqR (seqR (seqR (seqR (seqR (seqR (seqR (seqR radomelaw23_LifeLaws.C)))))))))) :: []
structure radomelaw23_LifeLaws.OK (h : radomelaw23_LifeLaws.Hs) : Prop where
 l0 : ∀ {H0 H : Hp} {L : Items} {r : Bool} {jk_ : Nat → Value} {hits : List Bool} {r_0 : Int} {r_1 : Int} {r_2 : Int} {t4 : Bool} {l_0 : Int} {l_1 : Int} {l_2 : Int} {l_3 : Int} {all : List Bool} {i : Int} {v_hits : Value} {v_all : Value} {i_all : Item'} {b_r_ : Nat} {b_l : Nat} (_ : H0.le H) (_he : h.l0 hits r_0 r_1 r_2 t4 l_0 l_1 l_2 l_3 all i = some r) (_h_hits : Ro Kd.bool H v_hits hits) (_h_all : Sl Kd.bool H 4 i_all v_all all), Wp Try.prog 6 198 radomelaw23_LifeLaws.Kl0 (upd (upd (upd (upd (upd (upd jk_ 1 (v_hits)) 2 (.pointer (some ⟨b_r_, 0, none⟩))) 4 (.bool t4)) 5 (.pointer (some ⟨b_l, 0, none⟩))) 7 (v_all)) 8 (.int .i64 i)) H (i_all :: some (b_l, .cells ⟨[.int .i64 l_0, .int .u32 l_1, .int .i64 l_2, .int .i64 l_3]⟩ 47 (0, 0)) :: some (b_r_, .cells ⟨[.int .i64 r_0, .int .i64 r_1, .int .i64 r_2]⟩ 43 (0, 0)) :: L) (radomelaw23_LifeLaws.R H0 L r)
 l1 : ∀ {H0 H : Hp} {L : Items} {r : Bool} {jk_ : Nat → Value} {hits : List Bool} {r_0 : Int} {r_1 : Int} {r_2 : Int} {t4 : Bool} {l_0 : Int} {l_1 : Int} {l_2 : Int} {l_3 : Int} {all : List Bool} {i : Int} {was : Int} {m_0 : Int} {m_1 : Int} {m_2 : Int} {m_3 : Int} {n : Int} {k_ : Int} {v_hits : Value} {v_all : Value} {i_all : Item'} {b_r_ : Nat} {b_l : Nat} {b_m : Nat} (_ : H0.le H) (_he : h.l1 hits r_0 r_1 r_2 t4 l_0 l_1 l_2 l_3 all i was m_0 m_1 m_2 m_3 n k_ = some r) (_h_hits : Ro Kd.bool H v_hits hits) (_h_all : Sl Kd.bool H 4 i_all v_all all), Wp Try.prog 6 198 radomelaw23_LifeLaws.Kl1 (upd (upd (upd (upd (upd (upd (upd (upd (upd (upd jk_ 1 (v_hits)) 2 (.pointer (some ⟨b_r_, 0, none⟩))) 4 (.bool t4)) 5 (.pointer (some ⟨b_l, 0, none⟩))) 7 (v_all)) 8 (.int .i64 i)) 9 (.int .i64 was)) 10 (.pointer (some ⟨b_m, 0, none⟩))) 12 (.int .i64 n)) 13 (.int .i64 k_)) H (some (b_m, .cells ⟨[.int .i64 m_0, .int .u32 m_1, .int .i64 m_2, .int .i64 m_3]⟩ 47 (0, 0)) :: i_all :: some (b_l, .cells ⟨[.int .i64 l_0, .int .u32 l_1, .int .i64 l_2, .int .i64 l_3]⟩ 47 (0, 0)) :: some (b_r_, .cells ⟨[.int .i64 r_0, .int .i64 r_1, .int .i64 r_2]⟩ 43 (0, 0)) :: L) (radomelaw23_LifeLaws.R H0 L r)
 l2 : ∀ {H0 H : Hp} {L : Items} {r : Bool} {jk_ : Nat → Value} {r_0 : Int} {r_1 : Int} {r_2 : Int} {t4 : Bool} {l_0 : Int} {l_1 : Int} {l_2 : Int} {l_3 : Int} {seen_0 : Int} {seen_1 : Int} {seen_2 : Int} {seen_3 : Int} {lost_0 : Int} {lost_1 : Int} {lost_2 : Int} {lost_3 : Int} {i : Int} {b_r_ : Nat} {b_l : Nat} {b_seen : Nat} {b_lost : Nat} (_ : H0.le H) (_he : h.l2 r_0 r_1 r_2 t4 l_0 l_1 l_2 l_3 seen_0 seen_1 seen_2 seen_3 lost_0 lost_1 lost_2 lost_3 i = some r), Wp Try.prog 6 198 radomelaw23_LifeLaws.Kl2 (upd (upd (upd (upd (upd (upd jk_ 2 (.pointer (some ⟨b_r_, 0, none⟩))) 4 (.bool t4)) 5 (.pointer (some ⟨b_l, 0, none⟩))) 14 (.pointer (some ⟨b_seen, 0, none⟩))) 15 (.pointer (some ⟨b_lost, 0, none⟩))) 16 (.int .i64 i)) H (some (b_seen, .cells ⟨[.int .i64 seen_0, .int .u32 seen_1, .int .i64 seen_2, .int .i64 seen_3]⟩ 47 (0, 0)) :: some (b_lost, .cells ⟨[.int .i64 lost_0, .int .u32 lost_1, .int .i64 lost_2, .int .i64 lost_3]⟩ 47 (0, 0)) :: some (b_l, .cells ⟨[.int .i64 l_0, .int .u32 l_1, .int .i64 l_2, .int .i64 l_3]⟩ 47 (0, 0)) :: some (b_r_, .cells ⟨[.int .i64 r_0, .int .i64 r_1, .int .i64 r_2]⟩ 43 (0, 0)) :: L) (radomelaw23_LifeLaws.R H0 L r)
 l3 : ∀ {H0 H : Hp} {L : Items} {r : Bool} {jk_ : Nat → Value} {r_0 : Int} {r_1 : Int} {r_2 : Int} {t4 : Bool} {seen_0 : Int} {seen_1 : Int} {seen_2 : Int} {seen_3 : Int} {lost_0 : Int} {lost_1 : Int} {lost_2 : Int} {lost_3 : Int} {i : Int} {b_r_ : Nat} {b_seen : Nat} {b_lost : Nat} (_ : H0.le H) (_he : h.l3 r_0 r_1 r_2 t4 seen_0 seen_1 seen_2 seen_3 lost_0 lost_1 lost_2 lost_3 i = some r), Wp Try.prog 6 198 radomelaw23_LifeLaws.Kl3 (upd (upd (upd (upd (upd jk_ 2 (.pointer (some ⟨b_r_, 0, none⟩))) 4 (.bool t4)) 14 (.pointer (some ⟨b_seen, 0, none⟩))) 15 (.pointer (some ⟨b_lost, 0, none⟩))) 19 (.int .i64 i)) H (some (b_seen, .cells ⟨[.int .i64 seen_0, .int .u32 seen_1, .int .i64 seen_2, .int .i64 seen_3]⟩ 47 (0, 0)) :: some (b_lost, .cells ⟨[.int .i64 lost_0, .int .u32 lost_1, .int .i64 lost_2, .int .i64 lost_3]⟩ 47 (0, 0)) :: some (b_r_, .cells ⟨[.int .i64 r_0, .int .i64 r_1, .int .i64 r_2]⟩ 43 (0, 0)) :: L) (radomelaw23_LifeLaws.R H0 L r)
set_option maxRecDepth 100000 in
set_option maxHeartbeats 2000000 in
theorem radomelaw23_LifeLaws.b0_ok {k : Nat} {h : radomelaw23_LifeLaws.Hs} (hh : radomelaw23_LifeLaws.OK h) {H0 H : Hp} {L : Items} {r : Bool} {jk_ : Nat → Value} {hits : List Bool} {r_0 : Int} {r_1 : Int} {r_2 : Int} {t4 : Bool} {l_0 : Int} {l_1 : Int} {l_2 : Int} {l_3 : Int} {all : List Bool} {i : Int} {v_hits : Value} {v_all : Value} {i_all : Item'} {b_r_ : Nat} {b_l : Nat} (hle : H0.le H) (he : radomelaw23_LifeLaws.b0 k h hits r_0 r_1 r_2 t4 l_0 l_1 l_2 l_3 all i = some r) (h_hits : Ro Kd.bool H v_hits hits) (h_all : Sl Kd.bool H 4 i_all v_all all) : Wp Try.prog 6 198 radomelaw23_LifeLaws.Kl0 (upd (upd (upd (upd (upd (upd jk_ 1 (v_hits)) 2 (.pointer (some ⟨b_r_, 0, none⟩))) 4 (.bool t4)) 5 (.pointer (some ⟨b_l, 0, none⟩))) 7 (v_all)) 8 (.int .i64 i)) H (i_all :: some (b_l, .cells ⟨[.int .i64 l_0, .int .u32 l_1, .int .i64 l_2, .int .i64 l_3]⟩ 47 (0, 0)) :: some (b_r_, .cells ⟨[.int .i64 r_0, .int .i64 r_1, .int .i64 r_2]⟩ 43 (0, 0)) :: L) (radomelaw23_LifeLaws.R H0 L r) := by
 unfold radomelaw23_LifeLaws.b0 at he
 unfold radomelaw23_LifeLaws.Kl0
 refine w_seq ?_
 refine w_seq ?_
 refine w_region rfl ?_
 refine w_d rfl (d_move (v := .int .i64 i) rfl) ?_
 refine w_d rfl (d_move (v := v_hits) rfl) ?_
 refine w_d rfl (d_len Try.underlying44 rfl h_hits.src) ?_
 refine w_d rfl (d_lss rfl rfl) ?_
 refine w_d rfl (d_move (v := .bool (decide (i < (hits.length : Int)))) rfl) ?_
 refine w_g (g := decide (i < (hits.length : Int))) rfl rfl rfl wn_t (fun g20 => d_move (v := .int .i64 i) rfl) ?_
 refine w_g (g := decide (i < (hits.length : Int))) rfl rfl rfl wn_t (fun g21 => d_lss (cvt g21) rfl) ?_
 refine w_d rfl (d_and' (b := (decide (i < (hits.length : Int)))) (p := (decide (i < 40))) rfl rfl rfl) ?_
 refine w_d rfl (d_move (v := .bool ((decide (i < (hits.length : Int))) && (decide (i < 40)))) rfl) ?_
 refine w_g (g := (decide (i < (hits.length : Int))) && (decide (i < 40))) rfl rfl rfl wn_t (fun g22 => d_loado (v := .agg ⟨[.int .i64 l_0, .int .u32 l_1, .int .i64 l_2, .int .i64 l_3]⟩) ty47 rfl (.there .here) rfl rfl rfl rfl) ?_
 obtain ⟨y24, hy25, he⟩ := Option.bind_eq_some_iff.1 he
 refine w_g (g := (decide (i < (hits.length : Int))) && (decide (i < 40))) rfl rfl rfl wn_t (fun g23 => call_d (o_call co23 (vs := [.agg ⟨[.int .i64 l_0, .int .u32 l_1, .int .i64 l_2, .int .i64 l_3]⟩]) (acons (cvt g23) (anil)) (life_Gone.calls k (l := (⟨l_0, l_1, l_2, l_3⟩ : life_Life)) (gd_t g23 hy25)))) ?_
 refine w_g (g := (decide (i < (hits.length : Int))) && (decide (i < 40))) rfl rfl rfl wn_t (fun g28 => d_not (b := y24) (cvt g28)) ?_
 refine w_d rfl (d_and' (b := ((decide (i < (hits.length : Int))) && (decide (i < 40)))) (p := (!y24)) rfl rfl rfl) ?_
 refine w_done ?_
 rcases its he with ⟨c29, he⟩ | ⟨c29, he⟩
 ·
  refine w_then rfl c29 ?_
  refine w_skip ?_
  refine w_seq ?_
  refine w_block ?_
  refine w_seq ?_
  refine w_region rfl ?_
  refine w_d rfl (d_fld (o' := 0) Try.underlying47 rfl sz3 rfl rfl rfl) ?_
  refine w_d rfl (d_loado (v := .int .i64 l_0) ty3 rfl (.there .here) rfl rfl rfl rfl) ?_
  refine w_d rfl (d_assign (v := .int .i64 l_0) rfl) ?_
  refine w_done ?_
  refine w_seq ?_
  obtain ⟨c30, he⟩ := rq he
  obtain ⟨y31, hy32, he⟩ := Option.bind_eq_some_iff.1 he
  refine w_none (?_)
  refine w_drawn (p := 12) (tl := [12]) [[], [], [], [], [(2, some 54), (3, some 55)], [(4, some 56)], [(0, some 52), (1, some 53), (5, some 57)], [(6, some 58)], [(7, some 51)], [(7, some 51)], [], [(8, some 59), (10, some 10)]] [some 52, some 53, some 54, some 55, some 56, some 57, some 58, some 51, some 59, some 60, some 10, none] (fctF [.is (.agg ⟨[.int .i64 r_0, .int .i64 r_1, .int .i64 r_2]⟩), .is (.agg ⟨[.int .i64 l_0, .int .u32 l_1, .int .i64 l_2, .int .i64 l_3]⟩), .is (v_hits), .is (.int .i64 i), .is (.pointer (some (pel v_hits i 1))), .is (.bool (rd hits i)), .is (.tuple ⟨[.agg ⟨[.int .i64 y31.1.f_Kind, .int .u32 y31.1.f_Seen, .int .i64 y31.1.f_Age, .int .i64 y31.1.f_Missed]⟩, errV 55 y31.2]⟩), .is (.tuple ⟨[.agg ⟨[.int .i64 y31.1.f_Kind, .int .u32 y31.1.f_Seen, .int .i64 y31.1.f_Age, .int .i64 y31.1.f_Missed]⟩, errV 55 y31.2]⟩), .is (.agg ⟨[.int .i64 y31.1.f_Kind, .int .u32 y31.1.f_Seen, .int .i64 y31.1.f_Age, .int .i64 y31.1.f_Missed]⟩), .is (errV 55 y31.2), .box 47 [.int .i64 0, .int .u32 0, .int .i64 0, .int .i64 0], .st 10 (fun H b it => it = some (b, .cells ⟨[.int .i64 y31.1.f_Kind, .int .u32 y31.1.f_Seen, .int .i64 y31.1.f_Age, .int .i64 y31.1.f_Missed]⟩ 47 (0, 0))) (by rintro _ _ _ _ hle rfl; exact rfl)]) (fun m_ => pk (m_ 11) (m_ 10) :: i_all :: some (b_l, .cells ⟨[.int .i64 l_0, .int .u32 l_1, .int .i64 l_2, .int .i64 l_3]⟩ 47 (0, 0)) :: some (b_r_, .cells ⟨[.int .i64 r_0, .int .i64 r_1, .int .i64 r_2]⟩ 43 (0, 0)) :: L) (fun _ => none) mixed (by kernel_rfl) (by kernel_rfl) rfl (fct_mono (by kernel_rfl)) ⟨(by intro H' m_ hH hm_ hu_; refine depK_nil ?_; exact s_d (m_ 0) rfl (d_loado (v := .agg ⟨[.int .i64 r_0, .int .i64 r_1, .int .i64 r_2]⟩) ty43 rfl (.there (.there (.there .here))) rfl rfl rfl rfl) (by exact rfl) rfl), (by intro H' m_ hH hm_ hu_; refine depK_nil ?_; exact s_d (m_ 1) rfl (d_loado (v := .agg ⟨[.int .i64 l_0, .int .u32 l_1, .int .i64 l_2, .int .i64 l_3]⟩) ty47 rfl (.there (.there .here)) rfl rfl rfl rfl) (by exact rfl) rfl), (by intro H' m_ hH hm_ hu_; refine depK_nil ?_; exact s_d (m_ 2) rfl (d_move (v := v_hits) rfl) (by exact rfl) rfl), (by intro H' m_ hH hm_ hu_; refine depK_nil ?_; exact s_d (m_ 3) rfl (d_move (v := .int .i64 i) rfl) (by exact rfl) rfl), (by intro H' m_ hH hm_ hu_; rintro _ rfl _ rfl; refine depK_nil ?_; exact s_d (m_ 4) rfl (d_index (sz := 1) Try.underlying44 sz4 rfl (h_hits.mono hH).src rfl c30) (by exact rfl) rfl), (by intro H' m_ hH hm_ hu_; rintro _ rfl; refine depK_nil ?_; exact s_d (m_ 5) rfl (d_ldbool ty4 rfl (h_hits.mono hH).src c30) (by exact rfl) rfl), (by intro H' m_ hH hm_ hu_; rintro _ rfl _ rfl _ rfl; refine depK_nil ?_; exact s_d (m_ 6) rfl (call_d (o_call co24 (vs := [.agg ⟨[.int .i64 r_0, .int .i64 r_1, .int .i64 r_2]⟩, .agg ⟨[.int .i64 l_0, .int .u32 l_1, .int .i64 l_2, .int .i64 l_3]⟩, .bool (rd hits i)]) rfl (life_Next.calls k (r_ := (⟨r_0, r_1, r_2⟩ : life_Rule)) (l := (⟨l_0, l_1, l_2, l_3⟩ : life_Life)) hy32))) (by exact rfl) rfl), (by intro H' m_ hH hm_ hu_; rintro _ rfl; refine depK_nil ?_; exact s_d (m_ 7) rfl (d_move (v := .tuple ⟨[.agg ⟨[.int .i64 y31.1.f_Kind, .int .u32 y31.1.f_Seen, .int .i64 y31.1.f_Age, .int .i64 y31.1.f_Missed]⟩, errV 55 y31.2]⟩) rfl) (by exact rfl) rfl), (by intro H' m_ hH hm_ hu_; rintro _ rfl; refine depK_nil ?_; exact s_d (m_ 8) rfl (d_ext (vs := [.agg ⟨[.int .i64 y31.1.f_Kind, .int .u32 y31.1.f_Seen, .int .i64 y31.1.f_Age, .int .i64 y31.1.f_Missed]⟩, errV 55 y31.2]) rfl rfl) (by exact rfl) rfl), (by intro H' m_ hH hm_ hu_; rintro _ rfl; refine depK_nil ?_; exact s_d (m_ 9) rfl (d_ext (vs := [.agg ⟨[.int .i64 y31.1.f_Kind, .int .u32 y31.1.f_Seen, .int .i64 y31.1.f_Age, .int .i64 y31.1.f_Missed]⟩, errV 55 y31.2]) rfl rfl) (by exact rfl) rfl), (by intro H' m_ hH hm_ hu_; refine depK_nil ?_; exact s_box hm_ rfl rfl (o_alloc zr47 rfl) rfl (fun _ => (pk_upd (hu_ 11 (by kernel_rfl)))) (by exact fun b_ => ⟨b_, rfl, rfl⟩)), (by intro H' m_ hH hm_ hu_; rintro _ rfl _ ⟨b35, rfl, hb35_⟩; refine depK_nil ?_; exact s_store2 (Λ' := fun z_ => z_ :: i_all :: some (b_l, .cells ⟨[.int .i64 l_0, .int .u32 l_1, .int .i64 l_2, .int .i64 l_3]⟩ 47 (0, 0)) :: some (b_r_, .cells ⟨[.int .i64 r_0, .int .i64 r_1, .int .i64 r_2]⟩ 43 (0, 0)) :: L) (some (b35, .cells ⟨[.int .i64 y31.1.f_Kind, .int .u32 y31.1.f_Seen, .int .i64 y31.1.f_Age, .int .i64 y31.1.f_Missed]⟩ 47 (0, 0))) hm_ rfl hb35_ rfl (o_store (v := .agg ⟨[.int .i64 y31.1.f_Kind, .int .u32 y31.1.f_Seen, .int .i64 y31.1.f_Age, .int .i64 y31.1.f_Missed]⟩) sz47 rfl rfl rfl rfl (one_cons rfl (one_cons rfl (one_cons rfl (one_cons rfl one_nil)))) .here (.here (.here (.here (.here .done))))) rfl rfl (by exact ⟨rfl, congrArg (fun b_ => (some (b_, Obj.cells ⟨[.int .i64 y31.1.f_Kind, .int .u32 y31.1.f_Seen, .int .i64 y31.1.f_Age, .int .i64 y31.1.f_Missed]⟩ 47 (0, 0)) : Item')) (bof_eq hb35_).symm⟩)), trivial⟩ ?_
  intro H38 e39
  rintro _ _ rfl _ _ rfl _ _ rfl _ _ rfl _ _ rfl _ _ rfl _ _ rfl _ _ rfl _ _ rfl _ _ rfl _ _ ⟨b35, rfl, rfl⟩ _ i36 ⟨rfl, h37⟩
  replace h37 : i36 = some (b35, .cells ⟨[.int .i64 y31.1.f_Kind, .int .u32 y31.1.f_Seen, .int .i64 y31.1.f_Age, .int .i64 y31.1.f_Missed]⟩ 47 (0, 0)) := h37
  subst h37
  refine w_it (L' := some (b35, .cells ⟨[.int .i64 y31.1.f_Kind, .int .u32 y31.1.f_Seen, .int .i64 y31.1.f_Age, .int .i64 y31.1.f_Missed]⟩ 47 (0, 0)) :: i_all :: some (b_l, .cells ⟨[.int .i64 l_0, .int .u32 l_1, .int .i64 l_2, .int .i64 l_3]⟩ 47 (0, 0)) :: some (b_r_, .cells ⟨[.int .i64 r_0, .int .i64 r_1, .int .i64 r_2]⟩ 43 (0, 0)) :: L) rfl ?_
  refine w_d rfl (d_assign (v := errV 55 y31.2) rfl) ?_
  refine w_done ?_
  refine w_seq ?_
  refine w_seq ?_
  refine w_region rfl ?_
  refine w_d rfl (d_move (v := errV 55 y31.2) rfl) ?_
  refine w_d rfl (d_nenil (e := y31.2) Try.underlying24 rfl) ?_
  refine w_done ?_
  rcases its he with ⟨c40, he⟩ | ⟨c40, he⟩
  ·
   refine w_then rfl c40 ?_
   refine w_seq ?_
   refine w_region rfl ?_
   refine w_d rfl (d_assign (v := .bool false) rfl) ?_
   refine w_done ?_
   obtain rfl := Option.some.inj he
   refine w_return fn_6 rs_6 (.tmp (v := .bool false) rfl .nil) ?_
   exact ⟨⟨[_, _, _, _], rfl⟩, hle.trans e39, rfl⟩
  ·
   refine w_else rfl (Bool.eq_false_iff.2 c40) ?_
   refine w_skip ?_
   refine w_seq ?_
   refine w_region rfl ?_
   refine w_d rfl (d_move (v := v_all) rfl) ?_
   refine w_d rfl (d_move (v := v_hits) rfl) ?_
   refine w_d rfl (d_move (v := .int .i64 i) rfl) ?_
   obtain ⟨c41, he⟩ := rq he
   refine w_d rfl (d_index (sz := 1) Try.underlying44 sz4 rfl (h_hits.mono e39).src rfl c41) ?_
   refine w_d rfl (d_ldbool ty4 rfl (h_hits.mono e39).src c41) ?_
   refine w_a rfl (o_buildSlice' (kd := Kd.bool) (css := [[.bool (rd hits i)]]) (xs := [rd hits i]) (parts := [(0, .bool (rd hits i))]) Try.underlying44 ti4 rfl ⟨_, _, rfl, rfl, rfl⟩ ⟨rfl, trivial⟩ rfl (by decide)) ?_
   rintro v42 _ _ ⟨i43, rfl, rfl, h44⟩
   obtain ⟨c45, he⟩ := rq he
   refine w_a rfl (o_append' (kd := Kd.bool) (F := fun z_ => i43 :: some (b35, .cells ⟨[.int .i64 y31.1.f_Kind, .int .u32 y31.1.f_Seen, .int .i64 y31.1.f_Age, .int .i64 y31.1.f_Missed]⟩ 47 (0, 0)) :: z_ :: some (b_l, .cells ⟨[.int .i64 l_0, .int .u32 l_1, .int .i64 l_2, .int .i64 l_3]⟩ 47 (0, 0)) :: some (b_r_, .cells ⟨[.int .i64 r_0, .int .i64 r_1, .int .i64 r_2]⟩ 43 (0, 0)) :: L) Try.underlying44 Try.underlying44 ti4 rfl (by first | omega | (simp only [List.nil_append, List.length_cons, List.length_nil]; omega)) rfl rfl (h_all.mono e39) (h44.src .here) (fun _ => (.there (.there .here)))) ?_
   rintro v46 _ _ ⟨i47, rfl, rfl, h48⟩
   refine w_d rfl (d_assign (v := v46) rfl) ?_
   refine w_done ?_
   refine w_seq ?_
   refine w_region rfl ?_
   refine w_d rfl (d_assign (v := .int .i64 0) rfl) ?_
   refine w_done ?_
   refine w_seq ?_
   refine w_seq ?_
   refine w_region rfl ?_
   refine w_d rfl (d_move (v := v46) rfl) ?_
   refine w_d rfl (d_len Try.underlying44 rfl (h48.src (.there (.there .here)))) ?_
   refine w_d rfl (d_fld (o' := 1) Try.underlying43 rfl sz3 rfl rfl rfl) ?_
   refine w_d rfl (d_loado (v := .int .i64 r_1) ty3 rfl (.there (.there (.there (.there .here)))) rfl rfl rfl rfl) ?_
   refine w_d rfl (d_sub (c := w64 (((all ++ [rd hits i]).length : Int) - r_1)) rfl rfl rfl) ?_
   refine w_d rfl (d_max rfl rfl) ?_
   refine w_d rfl (d_assign (v := .int .i64 (max 0 (w64 (((all ++ [rd hits i]).length : Int) - r_1)))) rfl) ?_
   refine w_done ?_
   refine w_block ?_
   refine w_loop ?_
   refine w_del .here ?_
   refine w_sl 1 (v_hits) rfl ?_
   refine w_sl 2 (.pointer (some ⟨b_r_, 0, none⟩)) rfl ?_
   refine w_sl 4 (.bool t4) rfl ?_
   refine w_sl 5 (.pointer (some ⟨b_l, 0, none⟩)) rfl ?_
   refine w_sl 7 (v46) rfl ?_
   refine w_sl 8 (.int .i64 i) rfl ?_
   refine w_sl 9 (.int .i64 l_0) rfl ?_
   refine w_sl 10 (.pointer (some ⟨b35, 0, none⟩)) rfl ?_
   refine w_sl 12 (.int .i64 0) rfl ?_
   refine w_sl 13 (.int .i64 (max 0 (w64 (((all ++ [rd hits i]).length : Int) - r_1)))) rfl ?_
   exact hh.l1 (hle.trans e39) he (h_hits.mono e39) h48
 ·
  refine w_else rfl (Bool.eq_false_iff.2 c29) ?_
  refine w_exit rfl ?_
  refine w_seq ?_
  refine w_seq ?_
  refine w_region rfl ?_
  refine w_d rfl (d_loado (v := .agg ⟨[.int .i64 l_0, .int .u32 l_1, .int .i64 l_2, .int .i64 l_3]⟩) ty47 rfl (.there .here) rfl rfl rfl rfl) ?_
  obtain ⟨y49, hy50, he⟩ := Option.bind_eq_some_iff.1 he
  refine w_d rfl (call_d (o_call co23 (vs := [.agg ⟨[.int .i64 l_0, .int .u32 l_1, .int .i64 l_2, .int .i64 l_3]⟩]) rfl (life_Gone.calls k (l := (⟨l_0, l_1, l_2, l_3⟩ : life_Life)) hy50))) ?_
  refine w_done ?_
  rcases its he with ⟨c53, he⟩ | ⟨c53, he⟩
  ·
   refine w_then rfl c53 ?_
   refine w_seq ?_
   refine w_region rfl ?_
   obtain ⟨y54, hy55, he⟩ := Option.bind_eq_some_iff.1 he
   refine w_d rfl (call_d (o_call co21 (vs := []) rfl (radomelaw23_sure.calls k hy55))) ?_
   refine w_d rfl (d_assign (v := .bool y54) rfl) ?_
   refine w_done ?_
   obtain rfl := Option.some.inj he
   refine w_return fn_6 rs_6 (.tmp (v := .bool y54) rfl .nil) ?_
   exact ⟨⟨[_, _, _], rfl⟩, hle, rfl⟩
  ·
   refine w_else rfl (Bool.eq_false_iff.2 c53) ?_
   refine w_skip ?_
   refine w_seq ?_
   refine w_none (w_none (?_))
   refine w_drawn (p := 5) (tl := [5]) [[], [], [], [], [(0, some 129), (2, some 14)]] [some 129, some 130, some 14, some 15, none] (fctF [.is (.agg ⟨[.int .i64 l_0, .int .u32 l_1, .int .i64 l_2, .int .i64 l_3]⟩), .is (.agg ⟨[.int .i64 l_0, .int .u32 l_1, .int .i64 l_2, .int .i64 l_3]⟩), .box 47 [.int .i64 0, .int .u32 0, .int .i64 0, .int .i64 0], .box 47 [.int .i64 0, .int .u32 0, .int .i64 0, .int .i64 0], .st 2 (fun H b it => it = some (b, .cells ⟨[.int .i64 l_0, .int .u32 l_1, .int .i64 l_2, .int .i64 l_3]⟩ 47 (0, 0))) (by rintro _ _ _ _ hle rfl; exact rfl)]) (fun m_ => pk (m_ 4) (m_ 2) :: m_ 3 :: i_all :: some (b_l, .cells ⟨[.int .i64 l_0, .int .u32 l_1, .int .i64 l_2, .int .i64 l_3]⟩ 47 (0, 0)) :: some (b_r_, .cells ⟨[.int .i64 r_0, .int .i64 r_1, .int .i64 r_2]⟩ 43 (0, 0)) :: L) (fun _ => none) mixed (by kernel_rfl) (by kernel_rfl) rfl (fct_mono (by kernel_rfl)) ⟨(by intro H' m_ hH hm_ hu_; refine depK_nil ?_; exact s_d (m_ 0) rfl (d_loado (v := .agg ⟨[.int .i64 l_0, .int .u32 l_1, .int .i64 l_2, .int .i64 l_3]⟩) ty47 rfl (.there (.there (.there .here))) rfl rfl rfl rfl) (by exact rfl) rfl), (by intro H' m_ hH hm_ hu_; refine depK_nil ?_; exact s_d (m_ 1) rfl (d_loado (v := .agg ⟨[.int .i64 l_0, .int .u32 l_1, .int .i64 l_2, .int .i64 l_3]⟩) ty47 rfl (.there (.there (.there .here))) rfl rfl rfl rfl) (by exact rfl) rfl), (by intro H' m_ hH hm_ hu_; refine depK_nil ?_; exact s_box hm_ rfl rfl (o_alloc zr47 rfl) rfl (fun _ => (pk_upd (hu_ 4 (by kernel_rfl)))) (by exact fun b_ => ⟨b_, rfl, rfl⟩)), (by intro H' m_ hH hm_ hu_; refine depK_nil ?_; exact s_box hm_ rfl rfl (o_alloc zr47 rfl) rfl (fun _ => (.there .here)) (by exact fun b_ => ⟨b_, rfl, rfl⟩)), (by intro H' m_ hH hm_ hu_; rintro _ rfl _ ⟨b58, rfl, hb58_⟩; refine depK_nil ?_; exact s_store2 (Λ' := fun z_ => z_ :: m_ 3 :: i_all :: some (b_l, .cells ⟨[.int .i64 l_0, .int .u32 l_1, .int .i64 l_2, .int .i64 l_3]⟩ 47 (0, 0)) :: some (b_r_, .cells ⟨[.int .i64 r_0, .int .i64 r_1, .int .i64 r_2]⟩ 43 (0, 0)) :: L) (some (b58, .cells ⟨[.int .i64 l_0, .int .u32 l_1, .int .i64 l_2, .int .i64 l_3]⟩ 47 (0, 0))) hm_ rfl hb58_ rfl (o_store (v := .agg ⟨[.int .i64 l_0, .int .u32 l_1, .int .i64 l_2, .int .i64 l_3]⟩) sz47 rfl rfl rfl rfl (one_cons rfl (one_cons rfl (one_cons rfl (one_cons rfl one_nil)))) .here (.here (.here (.here (.here .done))))) rfl rfl (by exact ⟨rfl, congrArg (fun b_ => (some (b_, Obj.cells ⟨[.int .i64 l_0, .int .u32 l_1, .int .i64 l_2, .int .i64 l_3]⟩ 47 (0, 0)) : Item')) (bof_eq hb58_).symm⟩)), trivial⟩ ?_
   intro H62 e63
   rintro _ _ rfl _ _ rfl _ _ ⟨b58, rfl, rfl⟩ _ _ ⟨b59, rfl, rfl⟩ _ i60 ⟨rfl, h61⟩
   replace h61 : i60 = some (b58, .cells ⟨[.int .i64 l_0, .int .u32 l_1, .int .i64 l_2, .int .i64 l_3]⟩ 47 (0, 0)) := h61
   subst h61
   refine w_it (L' := some (b58, .cells ⟨[.int .i64 l_0, .int .u32 l_1, .int .i64 l_2, .int .i64 l_3]⟩ 47 (0, 0)) :: some (b59, .cells ⟨[.int .i64 0, .int .u32 0, .int .i64 0, .int .i64 0]⟩ 47 (0, 0)) :: i_all :: some (b_l, .cells ⟨[.int .i64 l_0, .int .u32 l_1, .int .i64 l_2, .int .i64 l_3]⟩ 47 (0, 0)) :: some (b_r_, .cells ⟨[.int .i64 r_0, .int .i64 r_1, .int .i64 r_2]⟩ 43 (0, 0)) :: L) rfl ?_
   refine w_a0 rfl (o_store (v := .agg ⟨[.int .i64 l_0, .int .u32 l_1, .int .i64 l_2, .int .i64 l_3]⟩) sz47 rfl rfl rfl rfl (one_cons rfl (one_cons rfl (one_cons rfl (one_cons rfl one_nil)))) (.there .here) (.here (.here (.here (.here .done))))) ?_
   rintro _ _ _ ⟨rfl, rfl, rfl⟩
   refine w_done ?_
   refine w_seq ?_
   refine w_seq ?_
   refine w_region rfl ?_
   refine w_d rfl (d_assign (v := .int .i64 0) rfl) ?_
   refine w_done ?_
   refine w_block ?_
   refine w_loop ?_
   refine w_del (.there (.there .here)) ?_
   refine w_sl 2 (.pointer (some ⟨b_r_, 0, none⟩)) rfl ?_
   refine w_sl 4 (.bool t4) rfl ?_
   refine w_sl 5 (.pointer (some ⟨b_l, 0, none⟩)) rfl ?_
   refine w_sl 14 (.pointer (some ⟨b58, 0, none⟩)) rfl ?_
   refine w_sl 15 (.pointer (some ⟨b59, 0, none⟩)) rfl ?_
   refine w_sl 16 (.int .i64 0) rfl ?_
   exact hh.l2 (hle.trans e63) he
set_option maxRecDepth 100000 in
set_option maxHeartbeats 2000000 in
theorem radomelaw23_LifeLaws.b1_ok {k : Nat} {h : radomelaw23_LifeLaws.Hs} (hh : radomelaw23_LifeLaws.OK h) {H0 H : Hp} {L : Items} {r : Bool} {jk_ : Nat → Value} {hits : List Bool} {r_0 : Int} {r_1 : Int} {r_2 : Int} {t4 : Bool} {l_0 : Int} {l_1 : Int} {l_2 : Int} {l_3 : Int} {all : List Bool} {i : Int} {was : Int} {m_0 : Int} {m_1 : Int} {m_2 : Int} {m_3 : Int} {n : Int} {k_ : Int} {v_hits : Value} {v_all : Value} {i_all : Item'} {b_r_ : Nat} {b_l : Nat} {b_m : Nat} (hle : H0.le H) (he : radomelaw23_LifeLaws.b1 k h hits r_0 r_1 r_2 t4 l_0 l_1 l_2 l_3 all i was m_0 m_1 m_2 m_3 n k_ = some r) (h_hits : Ro Kd.bool H v_hits hits) (h_all : Sl Kd.bool H 4 i_all v_all all) : Wp Try.prog 6 198 radomelaw23_LifeLaws.Kl1 (upd (upd (upd (upd (upd (upd (upd (upd (upd (upd jk_ 1 (v_hits)) 2 (.pointer (some ⟨b_r_, 0, none⟩))) 4 (.bool t4)) 5 (.pointer (some ⟨b_l, 0, none⟩))) 7 (v_all)) 8 (.int .i64 i)) 9 (.int .i64 was)) 10 (.pointer (some ⟨b_m, 0, none⟩))) 12 (.int .i64 n)) 13 (.int .i64 k_)) H (some (b_m, .cells ⟨[.int .i64 m_0, .int .u32 m_1, .int .i64 m_2, .int .i64 m_3]⟩ 47 (0, 0)) :: i_all :: some (b_l, .cells ⟨[.int .i64 l_0, .int .u32 l_1, .int .i64 l_2, .int .i64 l_3]⟩ 47 (0, 0)) :: some (b_r_, .cells ⟨[.int .i64 r_0, .int .i64 r_1, .int .i64 r_2]⟩ 43 (0, 0)) :: L) (radomelaw23_LifeLaws.R H0 L r) := by
 unfold radomelaw23_LifeLaws.b1 at he
 unfold radomelaw23_LifeLaws.Kl1
 refine w_seq ?_
 refine w_seq ?_
 refine w_region rfl ?_
 refine w_d rfl (d_move (v := .int .i64 k_) rfl) ?_
 refine w_d rfl (d_move (v := v_all) rfl) ?_
 refine w_d rfl (d_len Try.underlying44 rfl (h_all.src (.there .here))) ?_
 refine w_d rfl (d_lss rfl rfl) ?_
 refine w_done ?_
 rcases its he with ⟨c64, he⟩ | ⟨c64, he⟩
 ·
  refine w_then rfl (decide_eq_true c64) ?_
  refine w_skip ?_
  refine w_seq ?_
  refine w_block ?_
  refine w_seq ?_
  refine w_region rfl ?_
  refine w_d rfl (d_move (v := v_all) rfl) ?_
  refine w_d rfl (d_move (v := .int .i64 k_) rfl) ?_
  obtain ⟨c65, he⟩ := rq he
  refine w_d rfl (d_index (sz := 1) Try.underlying44 sz4 rfl (h_all.src (.there .here)) rfl c65) ?_
  refine w_d rfl (d_ldbool ty4 rfl (h_all.src (.there .here)) c65) ?_
  refine w_done ?_
  rcases its he with ⟨c66, he⟩ | ⟨c66, he⟩
  ·
   refine w_then rfl c66 ?_
   refine w_region rfl ?_
   refine w_d rfl (d_move (v := .int .i64 n) rfl) ?_
   refine w_d rfl (d_add (c := w64 (n + 1)) rfl rfl rfl) ?_
   refine w_d rfl (d_assign (v := .int .i64 (w64 (n + 1))) rfl) ?_
   refine w_done ?_
   refine w_inBlock ?_
   refine w_region rfl ?_
   refine w_d rfl (d_move (v := .int .i64 k_) rfl) ?_
   refine w_d rfl (d_add (c := w64 (k_ + 1)) rfl rfl rfl) ?_
   refine w_d rfl (d_assign (v := .int .i64 (w64 (k_ + 1))) rfl) ?_
   refine w_done ?_
   refine w_inLoop ?_
   refine w_sl 1 (v_hits) rfl ?_
   refine w_sl 2 (.pointer (some ⟨b_r_, 0, none⟩)) rfl ?_
   refine w_sl 4 (.bool t4) rfl ?_
   refine w_sl 5 (.pointer (some ⟨b_l, 0, none⟩)) rfl ?_
   refine w_sl 7 (v_all) rfl ?_
   refine w_sl 8 (.int .i64 i) rfl ?_
   refine w_sl 9 (.int .i64 was) rfl ?_
   refine w_sl 10 (.pointer (some ⟨b_m, 0, none⟩)) rfl ?_
   refine w_sl 12 (.int .i64 (w64 (n + 1))) rfl ?_
   refine w_sl 13 (.int .i64 (w64 (k_ + 1))) rfl ?_
   exact hh.l1 hle he h_hits h_all
  ·
   refine w_else rfl (Bool.eq_false_iff.2 c66) ?_
   refine w_skip ?_
   refine w_inBlock ?_
   refine w_region rfl ?_
   refine w_d rfl (d_move (v := .int .i64 k_) rfl) ?_
   refine w_d rfl (d_add (c := w64 (k_ + 1)) rfl rfl rfl) ?_
   refine w_d rfl (d_assign (v := .int .i64 (w64 (k_ + 1))) rfl) ?_
   refine w_done ?_
   refine w_inLoop ?_
   refine w_sl 1 (v_hits) rfl ?_
   refine w_sl 2 (.pointer (some ⟨b_r_, 0, none⟩)) rfl ?_
   refine w_sl 4 (.bool t4) rfl ?_
   refine w_sl 5 (.pointer (some ⟨b_l, 0, none⟩)) rfl ?_
   refine w_sl 7 (v_all) rfl ?_
   refine w_sl 8 (.int .i64 i) rfl ?_
   refine w_sl 9 (.int .i64 was) rfl ?_
   refine w_sl 10 (.pointer (some ⟨b_m, 0, none⟩)) rfl ?_
   refine w_sl 12 (.int .i64 n) rfl ?_
   refine w_sl 13 (.int .i64 (w64 (k_ + 1))) rfl ?_
   exact hh.l1 hle he h_hits h_all
 ·
  refine w_else rfl (decide_eq_false c64) ?_
  refine w_exit rfl ?_
  refine w_seq ?_
  refine w_seq ?_
  refine w_region rfl ?_
  refine w_d rfl (d_move (v := .int .i64 was) rfl) ?_
  refine w_d rfl (d_eql rfl rfl) ?_
  refine w_d rfl (d_move (v := .bool (decide (was = 0))) rfl) ?_
  refine w_g (g := decide (was = 0)) rfl rfl rfl wn_t (fun g67 => d_fld (o' := 0) Try.underlying47 rfl sz3 rfl rfl rfl) ?_
  refine w_g (g := decide (was = 0)) rfl rfl rfl wn_t (fun g68 => d_loado (v := .int .i64 m_0) ty3 (cvt g68) .here rfl rfl rfl rfl) ?_
  refine w_g (g := decide (was = 0)) rfl rfl rfl wn_t (fun g69 => d_eql (cvt g69) rfl) ?_
  refine w_g (g := decide (was = 0)) rfl rfl rfl wn_t (fun g70 => d_move (v := .bool (decide (m_0 = 1))) (cvt g70)) ?_
  refine w_g (g := (decide (was = 0)) && (!(decide (m_0 = 1)))) rfl rfl rfl wn_gf (fun g71 => d_fld (o' := 0) Try.underlying47 rfl sz3 rfl rfl rfl) ?_
  refine w_g (g := (decide (was = 0)) && (!(decide (m_0 = 1)))) rfl rfl rfl wn_gf (fun g72 => d_loado (v := .int .i64 m_0) ty3 (cvt g72) .here rfl rfl rfl rfl) ?_
  refine w_g (g := (decide (was = 0)) && (!(decide (m_0 = 1)))) rfl rfl rfl wn_gf (fun g73 => d_eql (cvt g73) rfl) ?_
  refine w_g (g := decide (was = 0)) rfl rfl rfl wn_t (fun g74 => d_or' (b := (decide (m_0 = 1))) (p := (decide (m_0 = 2))) (cvt g74) rfl (cva g74)) ?_
  refine w_g (g := decide (was = 0)) rfl rfl rfl wn_t (fun g75 => d_move (v := .bool ((decide (m_0 = 1)) || (decide (m_0 = 2)))) (cvt g75)) ?_
  refine w_g (g := (decide (was = 0)) && (!((decide (m_0 = 1)) || (decide (m_0 = 2))))) rfl rfl rfl wn_gf (fun g76 => d_fld (o' := 0) Try.underlying47 rfl sz3 rfl rfl rfl) ?_
  refine w_g (g := (decide (was = 0)) && (!((decide (m_0 = 1)) || (decide (m_0 = 2))))) rfl rfl rfl wn_gf (fun g77 => d_loado (v := .int .i64 m_0) ty3 (cvt g77) .here rfl rfl rfl rfl) ?_
  refine w_g (g := (decide (was = 0)) && (!((decide (m_0 = 1)) || (decide (m_0 = 2))))) rfl rfl rfl wn_gf (fun g78 => d_eql (cvt g78) rfl) ?_
  refine w_g (g := decide (was = 0)) rfl rfl rfl wn_t (fun g79 => d_or' (b := ((decide (m_0 = 1)) || (decide (m_0 = 2)))) (p := (decide (m_0 = 4))) (cvt g79) rfl (cva g79)) ?_
  refine w_d rfl (d_and' (b := (decide (was = 0))) (p := (((decide (m_0 = 1)) || (decide (m_0 = 2))) || (decide (m_0 = 4)))) rfl rfl rfl) ?_
  refine w_d rfl (d_move (v := .bool ((decide (was = 0)) && (((decide (m_0 = 1)) || (decide (m_0 = 2))) || (decide (m_0 = 4))))) rfl) ?_
  refine w_g (g := (decide (was = 0)) && (((decide (m_0 = 1)) || (decide (m_0 = 2))) || (decide (m_0 = 4)))) rfl rfl rfl wn_t (fun g80 => d_move (v := .int .i64 n) rfl) ?_
  refine w_g (g := (decide (was = 0)) && (((decide (m_0 = 1)) || (decide (m_0 = 2))) || (decide (m_0 = 4)))) rfl rfl rfl wn_t (fun g81 => d_fld (o' := 0) Try.underlying43 rfl sz3 rfl rfl rfl) ?_
  refine w_g (g := (decide (was = 0)) && (((decide (m_0 = 1)) || (decide (m_0 = 2))) || (decide (m_0 = 4)))) rfl rfl rfl wn_t (fun g82 => d_loado (v := .int .i64 r_0) ty3 (cvt g82) (.there (.there (.there .here))) rfl rfl rfl rfl) ?_
  refine w_g (g := (decide (was = 0)) && (((decide (m_0 = 1)) || (decide (m_0 = 2))) || (decide (m_0 = 4)))) rfl rfl rfl wn_t (fun g83 => d_lss (cvt g83) (cvt g83)) ?_
  refine w_d rfl (d_and' (b := ((decide (was = 0)) && (((decide (m_0 = 1)) || (decide (m_0 = 2))) || (decide (m_0 = 4))))) (p := (decide (n < r_0))) rfl rfl rfl) ?_
  refine w_d rfl (d_move (v := .bool (((decide (was = 0)) && (((decide (m_0 = 1)) || (decide (m_0 = 2))) || (decide (m_0 = 4)))) && (decide (n < r_0)))) rfl) ?_
  refine w_g (g := !(((decide (was = 0)) && (((decide (m_0 = 1)) || (decide (m_0 = 2))) || (decide (m_0 = 4)))) && (decide (n < r_0)))) rfl rfl rfl wn_f (fun g84 => d_move (v := .int .i64 was) rfl) ?_
  refine w_g (g := !(((decide (was = 0)) && (((decide (m_0 = 1)) || (decide (m_0 = 2))) || (decide (m_0 = 4)))) && (decide (n < r_0)))) rfl rfl rfl wn_f (fun g85 => d_neq (cvt g85) rfl) ?_
  refine w_g (g := !(((decide (was = 0)) && (((decide (m_0 = 1)) || (decide (m_0 = 2))) || (decide (m_0 = 4)))) && (decide (n < r_0)))) rfl rfl rfl wn_f (fun g86 => d_move (v := .bool (!decide (was = 0))) (cvt g86)) ?_
  refine w_g (g := (!(((decide (was = 0)) && (((decide (m_0 = 1)) || (decide (m_0 = 2))) || (decide (m_0 = 4)))) && (decide (n < r_0)))) && (!decide (was = 0))) rfl rfl rfl wn_gt (fun g87 => d_fld (o' := 0) Try.underlying47 rfl sz3 rfl rfl rfl) ?_
  refine w_g (g := (!(((decide (was = 0)) && (((decide (m_0 = 1)) || (decide (m_0 = 2))) || (decide (m_0 = 4)))) && (decide (n < r_0)))) && (!decide (was = 0))) rfl rfl rfl wn_gt (fun g88 => d_loado (v := .int .i64 m_0) ty3 (cvt g88) .here rfl rfl rfl rfl) ?_
  refine w_g (g := (!(((decide (was = 0)) && (((decide (m_0 = 1)) || (decide (m_0 = 2))) || (decide (m_0 = 4)))) && (decide (n < r_0)))) && (!decide (was = 0))) rfl rfl rfl wn_gt (fun g89 => d_eql (cvt g89) rfl) ?_
  refine w_g (g := (!(((decide (was = 0)) && (((decide (m_0 = 1)) || (decide (m_0 = 2))) || (decide (m_0 = 4)))) && (decide (n < r_0)))) && (!decide (was = 0))) rfl rfl rfl wn_gt (fun g90 => d_move (v := .bool (decide (m_0 = 0))) (cvt g90)) ?_
  refine w_g (g := ((!(((decide (was = 0)) && (((decide (m_0 = 1)) || (decide (m_0 = 2))) || (decide (m_0 = 4)))) && (decide (n < r_0)))) && (!decide (was = 0))) && (!(decide (m_0 = 0)))) rfl rfl rfl wn_gf (fun g91 => d_fld (o' := 0) Try.underlying47 rfl sz3 rfl rfl rfl) ?_
  refine w_g (g := ((!(((decide (was = 0)) && (((decide (m_0 = 1)) || (decide (m_0 = 2))) || (decide (m_0 = 4)))) && (decide (n < r_0)))) && (!decide (was = 0))) && (!(decide (m_0 = 0)))) rfl rfl rfl wn_gf (fun g92 => d_loado (v := .int .i64 m_0) ty3 (cvt g92) .here rfl rfl rfl rfl) ?_
  refine w_g (g := ((!(((decide (was = 0)) && (((decide (m_0 = 1)) || (decide (m_0 = 2))) || (decide (m_0 = 4)))) && (decide (n < r_0)))) && (!decide (was = 0))) && (!(decide (m_0 = 0)))) rfl rfl rfl wn_gf (fun g93 => d_eql (cvt g93) rfl) ?_
  refine w_g (g := (!(((decide (was = 0)) && (((decide (m_0 = 1)) || (decide (m_0 = 2))) || (decide (m_0 = 4)))) && (decide (n < r_0)))) && (!decide (was = 0))) rfl rfl rfl wn_gt (fun g94 => d_or' (b := (decide (m_0 = 0))) (p := (decide (m_0 = 3))) (cvt g94) rfl (cva g94)) ?_
  refine w_g (g := !(((decide (was = 0)) && (((decide (m_0 = 1)) || (decide (m_0 = 2))) || (decide (m_0 = 4)))) && (decide (n < r_0)))) rfl rfl rfl wn_f (fun g95 => d_and' (b := (!decide (was = 0))) (p := ((decide (m_0 = 0)) || (decide (m_0 = 3)))) (cvt g95) (cva g95) rfl) ?_
  refine w_d rfl (d_or' (b := (((decide (was = 0)) && (((decide (m_0 = 1)) || (decide (m_0 = 2))) || (decide (m_0 = 4)))) && (decide (n < r_0)))) (p := ((!decide (was = 0)) && ((decide (m_0 = 0)) || (decide (m_0 = 3))))) rfl rfl rfl) ?_
  refine w_done ?_
  rcases its he with ⟨c96, he⟩ | ⟨c96, he⟩
  ·
   refine w_then rfl c96 ?_
   refine w_seq ?_
   refine w_region rfl ?_
   refine w_d rfl (d_assign (v := .bool false) rfl) ?_
   refine w_done ?_
   obtain rfl := Option.some.inj he
   refine w_return fn_6 rs_6 (.tmp (v := .bool false) rfl .nil) ?_
   exact ⟨⟨[_, _, _, _], rfl⟩, hle, rfl⟩
  ·
   refine w_else rfl (Bool.eq_false_iff.2 c96) ?_
   refine w_skip ?_
   refine w_region rfl ?_
   refine w_d rfl (d_loado (v := .agg ⟨[.int .i64 m_0, .int .u32 m_1, .int .i64 m_2, .int .i64 m_3]⟩) ty47 rfl .here rfl rfl rfl rfl) ?_
   refine w_a0 rfl (o_store (v := .agg ⟨[.int .i64 m_0, .int .u32 m_1, .int .i64 m_2, .int .i64 m_3]⟩) sz47 rfl rfl rfl rfl (one_cons rfl (one_cons rfl (one_cons rfl (one_cons rfl one_nil)))) (.there (.there .here)) (.here (.here (.here (.here .done))))) ?_
   rintro _ _ _ ⟨rfl, rfl, rfl⟩
   refine w_done ?_
   refine w_inBlock ?_
   refine w_region rfl ?_
   refine w_d rfl (d_move (v := .int .i64 i) rfl) ?_
   refine w_d rfl (d_add (c := w64 (i + 1)) rfl rfl rfl) ?_
   refine w_d rfl (d_assign (v := .int .i64 (w64 (i + 1))) rfl) ?_
   refine w_done ?_
   refine w_inLoop ?_
   refine w_del .here ?_
   refine w_sl 1 (v_hits) rfl ?_
   refine w_sl 2 (.pointer (some ⟨b_r_, 0, none⟩)) rfl ?_
   refine w_sl 4 (.bool t4) rfl ?_
   refine w_sl 5 (.pointer (some ⟨b_l, 0, none⟩)) rfl ?_
   refine w_sl 7 (v_all) rfl ?_
   refine w_sl 8 (.int .i64 (w64 (i + 1))) rfl ?_
   exact hh.l0 hle he h_hits h_all
set_option maxRecDepth 100000 in
set_option maxHeartbeats 2000000 in
theorem radomelaw23_LifeLaws.j3_ok {k : Nat} {h : radomelaw23_LifeLaws.Hs} (hh : radomelaw23_LifeLaws.OK h) {H0 H : Hp} {L : Items} {r : Bool} {jk_ : Nat → Value} {r_0 : Int} {r_1 : Int} {r_2 : Int} {t4 : Bool} {seen_0 : Int} {seen_1 : Int} {seen_2 : Int} {seen_3 : Int} {lost_0 : Int} {lost_1 : Int} {lost_2 : Int} {lost_3 : Int} {b_r_ : Nat} {b_seen : Nat} {b_lost : Nat} (hle : H0.le H) (he : radomelaw23_LifeLaws.j3 k h r_0 r_1 r_2 t4 seen_0 seen_1 seen_2 seen_3 lost_0 lost_1 lost_2 lost_3 = some r) : Wp Try.prog 6 198 radomelaw23_LifeLaws.Kj3 (upd (upd (upd (upd jk_ 2 (.pointer (some ⟨b_r_, 0, none⟩))) 4 (.bool t4)) 14 (.pointer (some ⟨b_seen, 0, none⟩))) 15 (.pointer (some ⟨b_lost, 0, none⟩))) H (some (b_seen, .cells ⟨[.int .i64 seen_0, .int .u32 seen_1, .int .i64 seen_2, .int .i64 seen_3]⟩ 47 (0, 0)) :: some (b_lost, .cells ⟨[.int .i64 lost_0, .int .u32 lost_1, .int .i64 lost_2, .int .i64 lost_3]⟩ 47 (0, 0)) :: some (b_r_, .cells ⟨[.int .i64 r_0, .int .i64 r_1, .int .i64 r_2]⟩ 43 (0, 0)) :: L) (radomelaw23_LifeLaws.R H0 L r) := by
 unfold radomelaw23_LifeLaws.j3 at he
 unfold radomelaw23_LifeLaws.Kj3
 refine w_seq ?_
 refine w_seq ?_
 refine w_region rfl ?_
 refine w_d rfl (d_assign (v := .int .i64 0) rfl) ?_
 refine w_done ?_
 refine w_block ?_
 refine w_loop ?_
 refine w_sl 2 (.pointer (some ⟨b_r_, 0, none⟩)) rfl ?_
 refine w_sl 4 (.bool t4) rfl ?_
 refine w_sl 14 (.pointer (some ⟨b_seen, 0, none⟩)) rfl ?_
 refine w_sl 15 (.pointer (some ⟨b_lost, 0, none⟩)) rfl ?_
 refine w_sl 19 (.int .i64 0) rfl ?_
 exact hh.l3 hle he
set_option maxRecDepth 100000 in
set_option maxHeartbeats 2000000 in
theorem radomelaw23_LifeLaws.b2_ok {k : Nat} {h : radomelaw23_LifeLaws.Hs} (hh : radomelaw23_LifeLaws.OK h) {H0 H : Hp} {L : Items} {r : Bool} {jk_ : Nat → Value} {r_0 : Int} {r_1 : Int} {r_2 : Int} {t4 : Bool} {l_0 : Int} {l_1 : Int} {l_2 : Int} {l_3 : Int} {seen_0 : Int} {seen_1 : Int} {seen_2 : Int} {seen_3 : Int} {lost_0 : Int} {lost_1 : Int} {lost_2 : Int} {lost_3 : Int} {i : Int} {b_r_ : Nat} {b_l : Nat} {b_seen : Nat} {b_lost : Nat} (hle : H0.le H) (he : radomelaw23_LifeLaws.b2 k h r_0 r_1 r_2 t4 l_0 l_1 l_2 l_3 seen_0 seen_1 seen_2 seen_3 lost_0 lost_1 lost_2 lost_3 i = some r) : Wp Try.prog 6 198 radomelaw23_LifeLaws.Kl2 (upd (upd (upd (upd (upd (upd jk_ 2 (.pointer (some ⟨b_r_, 0, none⟩))) 4 (.bool t4)) 5 (.pointer (some ⟨b_l, 0, none⟩))) 14 (.pointer (some ⟨b_seen, 0, none⟩))) 15 (.pointer (some ⟨b_lost, 0, none⟩))) 16 (.int .i64 i)) H (some (b_seen, .cells ⟨[.int .i64 seen_0, .int .u32 seen_1, .int .i64 seen_2, .int .i64 seen_3]⟩ 47 (0, 0)) :: some (b_lost, .cells ⟨[.int .i64 lost_0, .int .u32 lost_1, .int .i64 lost_2, .int .i64 lost_3]⟩ 47 (0, 0)) :: some (b_l, .cells ⟨[.int .i64 l_0, .int .u32 l_1, .int .i64 l_2, .int .i64 l_3]⟩ 47 (0, 0)) :: some (b_r_, .cells ⟨[.int .i64 r_0, .int .i64 r_1, .int .i64 r_2]⟩ 43 (0, 0)) :: L) (radomelaw23_LifeLaws.R H0 L r) := by
 unfold radomelaw23_LifeLaws.b2 at he
 unfold radomelaw23_LifeLaws.Kl2
 refine w_seq ?_
 refine w_seq ?_
 refine w_region rfl ?_
 refine w_d rfl (d_move (v := .int .i64 i) rfl) ?_
 refine w_d rfl (d_lss rfl rfl) ?_
 refine w_done ?_
 rcases its he with ⟨c97, he⟩ | ⟨c97, he⟩
 ·
  refine w_then rfl (decide_eq_true c97) ?_
  refine w_skip ?_
  refine w_seq ?_
  refine w_block ?_
  refine w_seq ?_
  refine w_region rfl ?_
  refine w_d rfl (d_loado (v := .agg ⟨[.int .i64 r_0, .int .i64 r_1, .int .i64 r_2]⟩) ty43 rfl (.there (.there (.there .here))) rfl rfl rfl rfl) ?_
  refine w_d rfl (d_loado (v := .agg ⟨[.int .i64 seen_0, .int .u32 seen_1, .int .i64 seen_2, .int .i64 seen_3]⟩) ty47 rfl .here rfl rfl rfl rfl) ?_
  obtain ⟨y98, hy99, he⟩ := Option.bind_eq_some_iff.1 he
  refine w_d rfl (call_d (o_call co24 (vs := [.agg ⟨[.int .i64 r_0, .int .i64 r_1, .int .i64 r_2]⟩, .agg ⟨[.int .i64 seen_0, .int .u32 seen_1, .int .i64 seen_2, .int .i64 seen_3]⟩, .bool true]) rfl (life_Next.calls k (r_ := (⟨r_0, r_1, r_2⟩ : life_Rule)) (l := (⟨seen_0, seen_1, seen_2, seen_3⟩ : life_Life)) hy99))) ?_
  refine w_d rfl (d_move (v := .tuple ⟨[.agg ⟨[.int .i64 y98.1.f_Kind, .int .u32 y98.1.f_Seen, .int .i64 y98.1.f_Age, .int .i64 y98.1.f_Missed]⟩, errV 55 y98.2]⟩) rfl) ?_
  refine w_d rfl (d_ext (vs := [.agg ⟨[.int .i64 y98.1.f_Kind, .int .u32 y98.1.f_Seen, .int .i64 y98.1.f_Age, .int .i64 y98.1.f_Missed]⟩, errV 55 y98.2]) rfl rfl) ?_
  refine w_d rfl (d_ext (vs := [.agg ⟨[.int .i64 y98.1.f_Kind, .int .u32 y98.1.f_Seen, .int .i64 y98.1.f_Age, .int .i64 y98.1.f_Missed]⟩, errV 55 y98.2]) rfl rfl) ?_
  refine w_a rfl (o_alloc zr47 rfl) ?_
  rintro _ _ _ ⟨b102, rfl, rfl, rfl⟩
  refine w_a0 rfl (o_store (v := .agg ⟨[.int .i64 y98.1.f_Kind, .int .u32 y98.1.f_Seen, .int .i64 y98.1.f_Age, .int .i64 y98.1.f_Missed]⟩) sz47 rfl rfl rfl rfl (one_cons rfl (one_cons rfl (one_cons rfl (one_cons rfl one_nil)))) .here (.here (.here (.here (.here .done))))) ?_
  rintro _ _ _ ⟨rfl, rfl, rfl⟩
  refine w_d rfl (d_assign (v := errV 55 y98.2) rfl) ?_
  refine w_done ?_
  refine w_seq ?_
  refine w_seq ?_
  refine w_region rfl ?_
  refine w_d rfl (d_move (v := errV 55 y98.2) rfl) ?_
  refine w_d rfl (d_nenil (e := y98.2) Try.underlying24 rfl) ?_
  refine w_d rfl (d_move (v := .bool y98.2.isSome) rfl) ?_
  refine w_g (g := !y98.2.isSome) rfl rfl rfl wn_f (fun g103 => d_fld (o' := 0) Try.underlying47 rfl sz3 rfl rfl rfl) ?_
  refine w_g (g := !y98.2.isSome) rfl rfl rfl wn_f (fun g104 => d_loado (v := .int .i64 l_0) ty3 (cvt g104) (.there (.there (.there .here))) rfl rfl rfl rfl) ?_
  refine w_g (g := !y98.2.isSome) rfl rfl rfl wn_f (fun g105 => d_neq (cvt g105) rfl) ?_
  refine w_g (g := !y98.2.isSome) rfl rfl rfl wn_f (fun g106 => d_move (v := .bool (!decide (l_0 = 0))) (cvt g106)) ?_
  refine w_g (g := (!y98.2.isSome) && (!decide (l_0 = 0))) rfl rfl rfl wn_gt (fun g107 => d_fld (o' := 0) Try.underlying47 rfl sz3 rfl rfl rfl) ?_
  refine w_g (g := (!y98.2.isSome) && (!decide (l_0 = 0))) rfl rfl rfl wn_gt (fun g108 => d_loado (v := .int .i64 y98.1.f_Kind) ty3 (cvt g108) .here rfl rfl rfl rfl) ?_
  refine w_g (g := (!y98.2.isSome) && (!decide (l_0 = 0))) rfl rfl rfl wn_gt (fun g109 => d_neq (cvt g109) rfl) ?_
  refine w_g (g := !y98.2.isSome) rfl rfl rfl wn_f (fun g110 => d_and' (b := (!decide (l_0 = 0))) (p := (!decide (y98.1.f_Kind = 1))) (cvt g110) (cva g110) rfl) ?_
  refine w_d rfl (d_or' (b := y98.2.isSome) (p := ((!decide (l_0 = 0)) && (!decide (y98.1.f_Kind = 1)))) rfl rfl rfl) ?_
  refine w_done ?_
  rcases its he with ⟨c111, he⟩ | ⟨c111, he⟩
  ·
   refine w_then rfl c111 ?_
   refine w_seq ?_
   refine w_region rfl ?_
   refine w_d rfl (d_assign (v := .bool false) rfl) ?_
   refine w_done ?_
   obtain rfl := Option.some.inj he
   refine w_return fn_6 rs_6 (.tmp (v := .bool false) rfl .nil) ?_
   exact ⟨⟨[_, _, _, _, _], rfl⟩, hle, rfl⟩
  ·
   refine w_else rfl (Bool.eq_false_iff.2 c111) ?_
   refine w_skip ?_
   refine w_seq ?_
   refine w_region rfl ?_
   refine w_d rfl (d_loado (v := .agg ⟨[.int .i64 y98.1.f_Kind, .int .u32 y98.1.f_Seen, .int .i64 y98.1.f_Age, .int .i64 y98.1.f_Missed]⟩) ty47 rfl .here rfl rfl rfl rfl) ?_
   refine w_a0 rfl (o_store (v := .agg ⟨[.int .i64 y98.1.f_Kind, .int .u32 y98.1.f_Seen, .int .i64 y98.1.f_Age, .int .i64 y98.1.f_Missed]⟩) sz47 rfl rfl rfl rfl (one_cons rfl (one_cons rfl (one_cons rfl (one_cons rfl one_nil)))) (.there .here) (.here (.here (.here (.here .done))))) ?_
   rintro _ _ _ ⟨rfl, rfl, rfl⟩
   refine w_done ?_
   refine w_seq ?_
   refine w_region rfl ?_
   refine w_d rfl (d_loado (v := .agg ⟨[.int .i64 y98.1.f_Kind, .int .u32 y98.1.f_Seen, .int .i64 y98.1.f_Age, .int .i64 y98.1.f_Missed]⟩) ty47 rfl (.there .here) rfl rfl rfl rfl) ?_
   obtain ⟨y112, hy113, he⟩ := Option.bind_eq_some_iff.1 he
   refine w_d rfl (call_d (o_call co23 (vs := [.agg ⟨[.int .i64 y98.1.f_Kind, .int .u32 y98.1.f_Seen, .int .i64 y98.1.f_Age, .int .i64 y98.1.f_Missed]⟩]) rfl (life_Gone.calls k (l := (⟨y98.1.f_Kind, y98.1.f_Seen, y98.1.f_Age, y98.1.f_Missed⟩ : life_Life)) hy113))) ?_
   refine w_done ?_
   rcases its he with ⟨c116, he⟩ | ⟨c116, he⟩
   ·
    refine w_then rfl c116 ?_
    refine w_exit rfl ?_
    refine w_del (.there (.there (.there .here))) ?_
    refine w_del .here ?_
    refine w_sl 2 (.pointer (some ⟨b_r_, 0, none⟩)) rfl ?_
    refine w_sl 4 (.bool t4) rfl ?_
    refine w_sl 14 (.pointer (some ⟨b_seen, 0, none⟩)) rfl ?_
    refine w_sl 15 (.pointer (some ⟨b_lost, 0, none⟩)) rfl ?_
    exact radomelaw23_LifeLaws.j3_ok (k := k) hh hle he
   ·
    refine w_else rfl (Bool.eq_false_iff.2 c116) ?_
    refine w_skip ?_
    refine w_inBlock ?_
    refine w_region rfl ?_
    refine w_d rfl (d_move (v := .int .i64 i) rfl) ?_
    refine w_d rfl (d_add (c := w64 (i + 1)) rfl rfl rfl) ?_
    refine w_d rfl (d_assign (v := .int .i64 (w64 (i + 1))) rfl) ?_
    refine w_done ?_
    refine w_inLoop ?_
    refine w_del .here ?_
    refine w_sl 2 (.pointer (some ⟨b_r_, 0, none⟩)) rfl ?_
    refine w_sl 4 (.bool t4) rfl ?_
    refine w_sl 5 (.pointer (some ⟨b_l, 0, none⟩)) rfl ?_
    refine w_sl 14 (.pointer (some ⟨b_seen, 0, none⟩)) rfl ?_
    refine w_sl 15 (.pointer (some ⟨b_lost, 0, none⟩)) rfl ?_
    refine w_sl 16 (.int .i64 (w64 (i + 1))) rfl ?_
    exact hh.l2 hle he
 ·
  refine w_else rfl (decide_eq_false c97) ?_
  refine w_exit rfl ?_
  refine w_del (.there (.there .here)) ?_
  refine w_sl 2 (.pointer (some ⟨b_r_, 0, none⟩)) rfl ?_
  refine w_sl 4 (.bool t4) rfl ?_
  refine w_sl 14 (.pointer (some ⟨b_seen, 0, none⟩)) rfl ?_
  refine w_sl 15 (.pointer (some ⟨b_lost, 0, none⟩)) rfl ?_
  exact radomelaw23_LifeLaws.j3_ok (k := k) hh hle he
set_option maxRecDepth 100000 in
set_option maxHeartbeats 2000000 in
theorem radomelaw23_LifeLaws.b3_ok {k : Nat} {h : radomelaw23_LifeLaws.Hs} (hh : radomelaw23_LifeLaws.OK h) {H0 H : Hp} {L : Items} {r : Bool} {jk_ : Nat → Value} {r_0 : Int} {r_1 : Int} {r_2 : Int} {t4 : Bool} {seen_0 : Int} {seen_1 : Int} {seen_2 : Int} {seen_3 : Int} {lost_0 : Int} {lost_1 : Int} {lost_2 : Int} {lost_3 : Int} {i : Int} {b_r_ : Nat} {b_seen : Nat} {b_lost : Nat} (hle : H0.le H) (he : radomelaw23_LifeLaws.b3 k h r_0 r_1 r_2 t4 seen_0 seen_1 seen_2 seen_3 lost_0 lost_1 lost_2 lost_3 i = some r) : Wp Try.prog 6 198 radomelaw23_LifeLaws.Kl3 (upd (upd (upd (upd (upd jk_ 2 (.pointer (some ⟨b_r_, 0, none⟩))) 4 (.bool t4)) 14 (.pointer (some ⟨b_seen, 0, none⟩))) 15 (.pointer (some ⟨b_lost, 0, none⟩))) 19 (.int .i64 i)) H (some (b_seen, .cells ⟨[.int .i64 seen_0, .int .u32 seen_1, .int .i64 seen_2, .int .i64 seen_3]⟩ 47 (0, 0)) :: some (b_lost, .cells ⟨[.int .i64 lost_0, .int .u32 lost_1, .int .i64 lost_2, .int .i64 lost_3]⟩ 47 (0, 0)) :: some (b_r_, .cells ⟨[.int .i64 r_0, .int .i64 r_1, .int .i64 r_2]⟩ 43 (0, 0)) :: L) (radomelaw23_LifeLaws.R H0 L r) := by
 unfold radomelaw23_LifeLaws.b3 at he
 unfold radomelaw23_LifeLaws.Kl3
 refine w_seq ?_
 refine w_seq ?_
 refine w_region rfl ?_
 refine w_d rfl (d_move (v := .int .i64 i) rfl) ?_
 refine w_d rfl (d_fld (o' := 2) Try.underlying43 rfl sz3 rfl rfl rfl) ?_
 refine w_d rfl (d_loado (v := .int .i64 r_2) ty3 rfl (.there (.there .here)) rfl rfl rfl rfl) ?_
 refine w_d rfl (d_fld (o' := 1) Try.underlying43 rfl sz3 rfl rfl rfl) ?_
 refine w_d rfl (d_loado (v := .int .i64 r_1) ty3 rfl (.there (.there .here)) rfl rfl rfl rfl) ?_
 refine w_d rfl (d_add (c := w64 (r_2 + r_1)) rfl rfl rfl) ?_
 refine w_d rfl (d_lss rfl rfl) ?_
 refine w_d rfl (d_move (v := .bool (decide (i < (w64 (r_2 + r_1))))) rfl) ?_
 refine w_g (g := decide (i < (w64 (r_2 + r_1)))) rfl rfl rfl wn_t (fun g117 => d_loado (v := .agg ⟨[.int .i64 lost_0, .int .u32 lost_1, .int .i64 lost_2, .int .i64 lost_3]⟩) ty47 rfl (.there .here) rfl rfl rfl rfl) ?_
 obtain ⟨y119, hy120, he⟩ := Option.bind_eq_some_iff.1 he
 refine w_g (g := decide (i < (w64 (r_2 + r_1)))) rfl rfl rfl wn_t (fun g118 => call_d (o_call co23 (vs := [.agg ⟨[.int .i64 lost_0, .int .u32 lost_1, .int .i64 lost_2, .int .i64 lost_3]⟩]) (acons (cvt g118) (anil)) (life_Gone.calls k (l := (⟨lost_0, lost_1, lost_2, lost_3⟩ : life_Life)) (gd_t g118 hy120)))) ?_
 refine w_g (g := decide (i < (w64 (r_2 + r_1)))) rfl rfl rfl wn_t (fun g123 => d_not (b := y119) (cvt g123)) ?_
 refine w_d rfl (d_and' (b := (decide (i < (w64 (r_2 + r_1))))) (p := (!y119)) rfl rfl rfl) ?_
 refine w_done ?_
 rcases its he with ⟨c124, he⟩ | ⟨c124, he⟩
 ·
  refine w_then rfl c124 ?_
  refine w_skip ?_
  refine w_seq ?_
  refine w_block ?_
  refine w_seq ?_
  refine w_region rfl ?_
  refine w_d rfl (d_loado (v := .agg ⟨[.int .i64 r_0, .int .i64 r_1, .int .i64 r_2]⟩) ty43 rfl (.there (.there .here)) rfl rfl rfl rfl) ?_
  refine w_d rfl (d_loado (v := .agg ⟨[.int .i64 lost_0, .int .u32 lost_1, .int .i64 lost_2, .int .i64 lost_3]⟩) ty47 rfl (.there .here) rfl rfl rfl rfl) ?_
  obtain ⟨y125, hy126, he⟩ := Option.bind_eq_some_iff.1 he
  refine w_d rfl (call_d (o_call co24 (vs := [.agg ⟨[.int .i64 r_0, .int .i64 r_1, .int .i64 r_2]⟩, .agg ⟨[.int .i64 lost_0, .int .u32 lost_1, .int .i64 lost_2, .int .i64 lost_3]⟩, .bool false]) rfl (life_Next.calls k (r_ := (⟨r_0, r_1, r_2⟩ : life_Rule)) (l := (⟨lost_0, lost_1, lost_2, lost_3⟩ : life_Life)) hy126))) ?_
  refine w_d rfl (d_move (v := .tuple ⟨[.agg ⟨[.int .i64 y125.1.f_Kind, .int .u32 y125.1.f_Seen, .int .i64 y125.1.f_Age, .int .i64 y125.1.f_Missed]⟩, errV 55 y125.2]⟩) rfl) ?_
  refine w_d rfl (d_ext (vs := [.agg ⟨[.int .i64 y125.1.f_Kind, .int .u32 y125.1.f_Seen, .int .i64 y125.1.f_Age, .int .i64 y125.1.f_Missed]⟩, errV 55 y125.2]) rfl rfl) ?_
  refine w_d rfl (d_ext (vs := [.agg ⟨[.int .i64 y125.1.f_Kind, .int .u32 y125.1.f_Seen, .int .i64 y125.1.f_Age, .int .i64 y125.1.f_Missed]⟩, errV 55 y125.2]) rfl rfl) ?_
  refine w_a rfl (o_alloc zr47 rfl) ?_
  rintro _ _ _ ⟨b129, rfl, rfl, rfl⟩
  refine w_a0 rfl (o_store (v := .agg ⟨[.int .i64 y125.1.f_Kind, .int .u32 y125.1.f_Seen, .int .i64 y125.1.f_Age, .int .i64 y125.1.f_Missed]⟩) sz47 rfl rfl rfl rfl (one_cons rfl (one_cons rfl (one_cons rfl (one_cons rfl one_nil)))) .here (.here (.here (.here (.here .done))))) ?_
  rintro _ _ _ ⟨rfl, rfl, rfl⟩
  refine w_d rfl (d_assign (v := errV 55 y125.2) rfl) ?_
  refine w_done ?_
  refine w_seq ?_
  refine w_seq ?_
  refine w_region rfl ?_
  refine w_d rfl (d_move (v := errV 55 y125.2) rfl) ?_
  refine w_d rfl (d_nenil (e := y125.2) Try.underlying24 rfl) ?_
  refine w_d rfl (d_move (v := .bool y125.2.isSome) rfl) ?_
  refine w_g (g := !y125.2.isSome) rfl rfl rfl wn_f (fun g130 => d_fld (o' := 0) Try.underlying47 rfl sz3 rfl rfl rfl) ?_
  refine w_g (g := !y125.2.isSome) rfl rfl rfl wn_f (fun g131 => d_loado (v := .int .i64 y125.1.f_Kind) ty3 (cvt g131) .here rfl rfl rfl rfl) ?_
  refine w_g (g := !y125.2.isSome) rfl rfl rfl wn_f (fun g132 => d_eql (cvt g132) rfl) ?_
  refine w_d rfl (d_or' (b := y125.2.isSome) (p := (decide (y125.1.f_Kind = 1))) rfl rfl rfl) ?_
  refine w_done ?_
  rcases its he with ⟨c133, he⟩ | ⟨c133, he⟩
  ·
   refine w_then rfl c133 ?_
   refine w_seq ?_
   refine w_region rfl ?_
   refine w_d rfl (d_assign (v := .bool false) rfl) ?_
   refine w_done ?_
   obtain rfl := Option.some.inj he
   refine w_return fn_6 rs_6 (.tmp (v := .bool false) rfl .nil) ?_
   exact ⟨⟨[_, _, _, _], rfl⟩, hle, rfl⟩
  ·
   refine w_else rfl (Bool.eq_false_iff.2 c133) ?_
   refine w_skip ?_
   refine w_region rfl ?_
   refine w_d rfl (d_loado (v := .agg ⟨[.int .i64 y125.1.f_Kind, .int .u32 y125.1.f_Seen, .int .i64 y125.1.f_Age, .int .i64 y125.1.f_Missed]⟩) ty47 rfl .here rfl rfl rfl rfl) ?_
   refine w_a0 rfl (o_store (v := .agg ⟨[.int .i64 y125.1.f_Kind, .int .u32 y125.1.f_Seen, .int .i64 y125.1.f_Age, .int .i64 y125.1.f_Missed]⟩) sz47 rfl rfl rfl rfl (one_cons rfl (one_cons rfl (one_cons rfl (one_cons rfl one_nil)))) (.there (.there .here)) (.here (.here (.here (.here .done))))) ?_
   rintro _ _ _ ⟨rfl, rfl, rfl⟩
   refine w_done ?_
   refine w_inBlock ?_
   refine w_region rfl ?_
   refine w_d rfl (d_move (v := .int .i64 i) rfl) ?_
   refine w_d rfl (d_add (c := w64 (i + 1)) rfl rfl rfl) ?_
   refine w_d rfl (d_assign (v := .int .i64 (w64 (i + 1))) rfl) ?_
   refine w_done ?_
   refine w_inLoop ?_
   refine w_del .here ?_
   refine w_sl 2 (.pointer (some ⟨b_r_, 0, none⟩)) rfl ?_
   refine w_sl 4 (.bool t4) rfl ?_
   refine w_sl 14 (.pointer (some ⟨b_seen, 0, none⟩)) rfl ?_
   refine w_sl 15 (.pointer (some ⟨b_lost, 0, none⟩)) rfl ?_
   refine w_sl 19 (.int .i64 (w64 (i + 1))) rfl ?_
   exact hh.l3 hle he
 ·
  refine w_else rfl (Bool.eq_false_iff.2 c124) ?_
  refine w_exit rfl ?_
  refine w_seq ?_
  refine w_region rfl ?_
  refine w_d rfl (d_loado (v := .agg ⟨[.int .i64 lost_0, .int .u32 lost_1, .int .i64 lost_2, .int .i64 lost_3]⟩) ty47 rfl (.there .here) rfl rfl rfl rfl) ?_
  obtain ⟨y134, hy135, he⟩ := Option.bind_eq_some_iff.1 he
  refine w_d rfl (call_d (o_call co23 (vs := [.agg ⟨[.int .i64 lost_0, .int .u32 lost_1, .int .i64 lost_2, .int .i64 lost_3]⟩]) rfl (life_Gone.calls k (l := (⟨lost_0, lost_1, lost_2, lost_3⟩ : life_Life)) hy135))) ?_
  refine w_d rfl (d_move (v := .bool y134) rfl) ?_
  refine w_g (g := y134) rfl rfl rfl wn_t (fun g138 => d_fld (o' := 0) Try.underlying47 rfl sz3 rfl rfl rfl) ?_
  refine w_g (g := y134) rfl rfl rfl wn_t (fun g139 => d_loado (v := .int .i64 seen_0) ty3 (cvt g139) .here rfl rfl rfl rfl) ?_
  refine w_g (g := y134) rfl rfl rfl wn_t (fun g140 => d_eql (cvt g140) rfl) ?_
  refine w_g (g := y134) rfl rfl rfl wn_t (fun g141 => d_move (v := .bool (decide (seen_0 = 1))) (cvt g141)) ?_
  refine w_g (g := y134 && (!(decide (seen_0 = 1)))) rfl rfl rfl wn_gf (fun g142 => d_loado (v := .agg ⟨[.int .i64 seen_0, .int .u32 seen_1, .int .i64 seen_2, .int .i64 seen_3]⟩) ty47 rfl .here rfl rfl rfl rfl) ?_
  obtain ⟨y144, hy145, he⟩ := Option.bind_eq_some_iff.1 he
  refine w_g (g := y134 && (!(decide (seen_0 = 1)))) rfl rfl rfl wn_gf (fun g143 => call_d (o_call co23 (vs := [.agg ⟨[.int .i64 seen_0, .int .u32 seen_1, .int .i64 seen_2, .int .i64 seen_3]⟩]) (acons (cvt g143) (anil)) (life_Gone.calls k (l := (⟨seen_0, seen_1, seen_2, seen_3⟩ : life_Life)) (gd_t g143 hy145)))) ?_
  refine w_g (g := y134) rfl rfl rfl wn_t (fun g148 => d_or' (b := (decide (seen_0 = 1))) (p := y144) (cvt g148) rfl (cva g148)) ?_
  refine w_d rfl (d_and' (b := y134) (p := ((decide (seen_0 = 1)) || y144)) rfl rfl rfl) ?_
  refine w_d rfl (d_move (v := .bool (y134 && ((decide (seen_0 = 1)) || y144))) rfl) ?_
  obtain ⟨y150, hy151, he⟩ := Option.bind_eq_some_iff.1 he
  refine w_g (g := y134 && ((decide (seen_0 = 1)) || y144)) rfl rfl rfl wn_t (fun g149 => call_d (o_call co21 (vs := []) rfl (radomelaw23_sure.calls k (gd_t g149 hy151)))) ?_
  refine w_d rfl (d_and' (b := (y134 && ((decide (seen_0 = 1)) || y144))) (p := y150) rfl rfl rfl) ?_
  refine w_d rfl (d_assign (v := .bool ((y134 && ((decide (seen_0 = 1)) || y144)) && y150)) rfl) ?_
  refine w_done ?_
  obtain rfl := Option.some.inj he
  refine w_return fn_6 rs_6 (.tmp (v := .bool ((y134 && ((decide (seen_0 = 1)) || y144)) && y150)) rfl .nil) ?_
  exact ⟨⟨[_, _, _], rfl⟩, hle, rfl⟩
theorem radomelaw23_LifeLaws.ok : ∀ k, radomelaw23_LifeLaws.OK (radomelaw23_LifeLaws.hs k)
 | 0 => ⟨(by intros; exact nomatch (show none = some _ from by assumption)), (by intros; exact nomatch (show none = some _ from by assumption)), (by intros; exact nomatch (show none = some _ from by assumption)), (by intros; exact nomatch (show none = some _ from by assumption))⟩
 | k + 1 => ⟨radomelaw23_LifeLaws.b0_ok (k := k) (radomelaw23_LifeLaws.ok k), radomelaw23_LifeLaws.b1_ok (k := k) (radomelaw23_LifeLaws.ok k), radomelaw23_LifeLaws.b2_ok (k := k) (radomelaw23_LifeLaws.ok k), radomelaw23_LifeLaws.b3_ok (k := k) (radomelaw23_LifeLaws.ok k)⟩
set_option maxRecDepth 100000 in
set_option maxHeartbeats 2000000 in
theorem radomelaw23_LifeLaws.calls (k : Nat) {H : Hp} {L : Items} {r_ : radomeref23_Rule} {hits : List Bool} {v0_hits : Value} {r : Bool} (he : radomelaw23_LifeLaws.f k r_ hits = some r) (h0_hits : Ro Kd.bool H v0_hits hits) : Ct Try.prog 6 ⟨[.agg ⟨[.int .i64 r_.f_Hits, .int .i64 r_.f_Window, .int .i64 r_.f_Misses]⟩, v0_hits]⟩ H L (fun v H' L' => L = L' ∧ H = H' ∧ v = .bool r) := by
 refine ct_outs (O := radomelaw23_LifeLaws.out r) (fun _ _ h => h) ?_
 have hle : H.le H := .refl _
 have hh := radomelaw23_LifeLaws.ok k
 unfold radomelaw23_LifeLaws.f at he
 refine ct_enter (args := [.agg ⟨[.int .i64 r_.f_Hits, .int .i64 r_.f_Window, .int .i64 r_.f_Misses]⟩, v0_hits]) fn_6 rfl nt_6 rfl ?_
 refine w_seq ?_
 refine w_region rfl ?_
 refine w_a rfl (o_box (v := .agg ⟨[.int .i64 r_.f_Hits, .int .i64 r_.f_Window, .int .i64 r_.f_Misses]⟩) rfl rfl) ?_
 rintro _ _ _ ⟨b1, rfl, rfl, rfl⟩
 refine w_d rfl (d_assign (v := .bool false) rfl) ?_
 refine w_done ?_
 refine w_seq ?_
 refine w_seq ?_
 refine w_region rfl ?_
 refine w_d rfl (d_loado (v := .agg ⟨[.int .i64 r_.f_Hits, .int .i64 r_.f_Window, .int .i64 r_.f_Misses]⟩) ty43 rfl .here rfl rfl rfl rfl) ?_
 obtain ⟨y2, hy3, he⟩ := Option.bind_eq_some_iff.1 he
 refine w_d rfl (call_d (o_call co20 (vs := [.agg ⟨[.int .i64 r_.f_Hits, .int .i64 r_.f_Window, .int .i64 r_.f_Misses]⟩]) rfl (radomeref23_Check.calls k (r_ := (⟨r_.f_Hits, r_.f_Window, r_.f_Misses⟩ : radomeref23_Rule)) hy3))) ?_
 refine w_d rfl (d_not (b := y2) rfl) ?_
 refine w_done ?_
 rcases its he with ⟨c6, he⟩ | ⟨c6, he⟩
 ·
  refine w_then rfl c6 ?_
  refine w_seq ?_
  refine w_region rfl ?_
  obtain ⟨y7, hy8, he⟩ := Option.bind_eq_some_iff.1 he
  refine w_d rfl (call_d (o_call co21 (vs := []) rfl (radomelaw23_sure.calls k hy8))) ?_
  refine w_d rfl (d_assign (v := .bool y7) rfl) ?_
  refine w_done ?_
  obtain rfl := Option.some.inj he
  refine w_return fn_6 rs_6 (.tmp (v := .bool y7) rfl .nil) ?_
  exact ⟨⟨[_], rfl⟩, hle, rfl⟩
 ·
  refine w_else rfl (Bool.eq_false_iff.2 c6) ?_
  refine w_skip ?_
  refine w_seq ?_
  refine w_region rfl ?_
  refine w_d rfl (d_loado (v := .agg ⟨[.int .i64 r_.f_Hits, .int .i64 r_.f_Window, .int .i64 r_.f_Misses]⟩) ty43 rfl .here rfl rfl rfl rfl) ?_
  obtain ⟨y11, hy12, he⟩ := Option.bind_eq_some_iff.1 he
  refine w_d rfl (call_d (o_call co22 (vs := [.agg ⟨[.int .i64 r_.f_Hits, .int .i64 r_.f_Window, .int .i64 r_.f_Misses]⟩]) rfl (life_Born.calls k (r_ := (⟨r_.f_Hits, r_.f_Window, r_.f_Misses⟩ : life_Rule)) hy12))) ?_
  refine w_d rfl (d_move (v := .tuple ⟨[.agg ⟨[.int .i64 y11.1.f_Kind, .int .u32 y11.1.f_Seen, .int .i64 y11.1.f_Age, .int .i64 y11.1.f_Missed]⟩, errV 55 y11.2]⟩) rfl) ?_
  refine w_d rfl (d_ext (vs := [.agg ⟨[.int .i64 y11.1.f_Kind, .int .u32 y11.1.f_Seen, .int .i64 y11.1.f_Age, .int .i64 y11.1.f_Missed]⟩, errV 55 y11.2]) rfl rfl) ?_
  refine w_d rfl (d_ext (vs := [.agg ⟨[.int .i64 y11.1.f_Kind, .int .u32 y11.1.f_Seen, .int .i64 y11.1.f_Age, .int .i64 y11.1.f_Missed]⟩, errV 55 y11.2]) rfl rfl) ?_
  refine w_a rfl (o_alloc zr47 rfl) ?_
  rintro _ _ _ ⟨b15, rfl, rfl, rfl⟩
  refine w_a0 rfl (o_store (v := .agg ⟨[.int .i64 y11.1.f_Kind, .int .u32 y11.1.f_Seen, .int .i64 y11.1.f_Age, .int .i64 y11.1.f_Missed]⟩) sz47 rfl rfl rfl rfl (one_cons rfl (one_cons rfl (one_cons rfl (one_cons rfl one_nil)))) .here (.here (.here (.here (.here .done))))) ?_
  rintro _ _ _ ⟨rfl, rfl, rfl⟩
  refine w_d rfl (d_assign (v := errV 55 y11.2) rfl) ?_
  refine w_done ?_
  refine w_seq ?_
  refine w_seq ?_
  refine w_region rfl ?_
  refine w_d rfl (d_move (v := errV 55 y11.2) rfl) ?_
  refine w_d rfl (d_nenil (e := y11.2) Try.underlying24 rfl) ?_
  refine w_done ?_
  rcases its he with ⟨c16, he⟩ | ⟨c16, he⟩
  ·
   refine w_then rfl c16 ?_
   refine w_seq ?_
   refine w_region rfl ?_
   refine w_d rfl (d_assign (v := .bool false) rfl) ?_
   refine w_done ?_
   obtain rfl := Option.some.inj he
   refine w_return fn_6 rs_6 (.tmp (v := .bool false) rfl .nil) ?_
   exact ⟨⟨[_, _], rfl⟩, hle, rfl⟩
  ·
   refine w_else rfl (Bool.eq_false_iff.2 c16) ?_
   refine w_skip ?_
   refine w_seq ?_
   refine w_region rfl ?_
   refine w_a rfl (o_buildSlice' (kd := Kd.bool) (css := [[.bool true]]) (xs := [true]) (parts := [(0, .bool true)]) Try.underlying44 ti4 rfl ⟨_, _, rfl, rfl, rfl⟩ ⟨rfl, trivial⟩ rfl (by decide)) ?_
   rintro v17 _ _ ⟨i18, rfl, rfl, h19⟩
   refine w_d rfl (d_assign (v := v17) rfl) ?_
   refine w_done ?_
   refine w_seq ?_
   refine w_seq ?_
   refine w_region rfl ?_
   refine w_d rfl (d_assign (v := .int .i64 0) rfl) ?_
   refine w_done ?_
   refine w_block ?_
   refine w_loop ?_
   refine w_sl 1 (v0_hits) rfl ?_
   refine w_sl 2 (.pointer (some ⟨b1, 0, none⟩)) rfl ?_
   refine w_sl 4 (.bool false) rfl ?_
   refine w_sl 5 (.pointer (some ⟨b15, 0, none⟩)) rfl ?_
   refine w_sl 7 (v17) rfl ?_
   refine w_sl 8 (.int .i64 0) rfl ?_
   exact hh.l0 hle he h0_hits h19
end Go.Proofs.Ytddcfnhbedpbnaa.GLL
