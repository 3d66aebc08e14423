/- A text of this session, written by a program (wip/tools): Go functions as Lean functions, and proofs that the code comes to them. -/
import Derived.Test.YtddcfnhbedpbnaaDoorQClockAsksx0
import Derived.Test.YtddcfnhbedpbnaaDoorQClockAsksx1
import Derived.Test.YtddcfnhbedpbnaaDoorQClockAsksx2
namespace Go.Proofs.YtddcfnhbedpbnaaDoor.QClockAsks
open Go.RowKit Go.Proofs.YtddcfnhbedpbnaaDoorW.PrintWords Go.Proofs.YtddcfnhbedpbnaaDoorW.PrintLast Go.Proofs.YtddcfnhbedpbnaaDoorW.PrintMore
attribute [local go_sem] max2_int min2_int max_two min_two max_three min_three max_four min_four   -- for this text's walks alone
set_option linter.unusedVariables false
set_option linter.unusedSimpArgs false

/-! ### radomelaw31_ClockAsks: function 3 -/
mutual
def radomelaw31_ClockAsks.j0 : Nat → Int → Int → Int → Option Int → Int → Option Int → Int → Option Int → Bool → Int → Int → Option (Bool)
  | 0, _, _, _, _, _, _, _, _, _, _, _ => none
  | k + 1, x0, x1, x7, x8, x9, x10, x11, x12, x63, x125000, x125001 => if x63 = true then (some false) else ((radomeref31_Time.f x1).bind fun t136 => (if t136 = true then (if x10.isNone = true then (if x9 = (wrap64 (8192 * x1)) then (radomelaw31_ClockAsks.j1 k x0 x1 x7 x8 x11 x12 x125000 x125001) else (some false)) else (some false)) else ((radomelaw31_num.f x10).bind fun t138 => (if t138 = 1 then (if x9 = 0 then (radomelaw31_ClockAsks.j1 k x0 x1 x7 x8 x11 x12 x125000 x125001) else (some false)) else (some false)))))
def radomelaw31_ClockAsks.j1 : Nat → Int → Int → Int → Option Int → Int → Option Int → Int → Int → Option (Bool)
  | 0, _, _, _, _, _, _, _, _ => none
  | k + 1, x0, x1, x7, x8, x11, x12, x125000, x125001 => (radomeref31_Time.f x0).bind fun t139 => (if t139 = true then (if x125000 < (-11059199) then (radomelaw31_ClockAsks.j2 k x0 x1 x7 x8 x11 x12 true x125000 x125001) else (radomelaw31_ClockAsks.j2 k x0 x1 x7 x8 x11 x12 (decide (x125000 > 11059199)) x125000 x125001)) else (radomelaw31_ClockAsks.j2 k x0 x1 x7 x8 x11 x12 true x125000 x125001))
def radomelaw31_ClockAsks.j2 : Nat → Int → Int → Int → Option Int → Int → Option Int → Bool → Int → Int → Option (Bool)
  | 0, _, _, _, _, _, _, _, _, _ => none
  | k + 1, x0, x1, x7, x8, x11, x12, x94, x125000, x125001 => if x94 = true then ((radomelaw31_num.f x12).bind fun t140 => (if t140 = 1 then (if x11 = 0 then (radomelaw31_ClockAsks.j3 k x0 x1 x7 x8) else (some false)) else (some false))) else (if x12.isNone = true then (if x11 = (Int.tmod (wrap64 ((wrap64 (x0 + x125000)) + 11059200)) 11059200) then (radomelaw31_ClockAsks.j3 k x0 x1 x7 x8) else (some false)) else (some false))
def radomelaw31_ClockAsks.j3 : Nat → Int → Int → Int → Option Int → Option (Bool)
  | 0, _, _, _, _ => none
  | k + 1, x0, x1, x7, x8 => (radomeref31_Time.f x0).bind fun t142 => (if t142 = true then ((radomeref31_Time.f x1).bind fun t143 => (radomelaw31_ClockAsks.j4 k x0 x1 x7 x8 (!t143))) else (radomelaw31_ClockAsks.j4 k x0 x1 x7 x8 true))
def radomelaw31_ClockAsks.j4 : Nat → Int → Int → Int → Option Int → Bool → Option (Bool)
  | 0, _, _, _, _, _ => none
  | k + 1, x0, x1, x7, x8, x121 => if x121 = true then ((radomelaw31_num.f x8).bind fun t144 => (if t144 = 1 then (if x7 = 0 then ((radomelaw31_sure.f k).bind fun t145 => (some t145)) else (some false)) else (some false))) else (if x8.isNone = true then ((radomeref31_Since.f k x0 x1).bind fun t147 => (if x7 = t147 then ((radomelaw31_sure.f k).bind fun t148 => (some t148)) else (some false))) else (some false))
end
def radomelaw31_ClockAsks.f (k : Nat) (a0 : Int) (a1 : Int) (a2_0 : Int) (a2_1 : Int) : Option (Bool) := (clock_Since.f k a0 a1).bind fun bt125 => ((clock_Seconds.f a1).bind fun bt127 => ((clock_Add.f a0 a2_0).bind fun bt129 => ((clock_Kind.f k a0 a1 a2_0 a2_1).bind fun bt131 => ((radomeref31_Kind.f k a0 a1 a2_0 a2_1).bind fun bt133 => (if bt131.1 = bt133.1 then ((radomelaw31_num.f bt131.2).bind fun t135 => (radomelaw31_ClockAsks.j0 k a0 a1 bt125.1 bt125.2 bt127.1 bt127.2 bt129.1 bt129.2 (t135 != bt133.2) a2_0 a2_1)) else (radomelaw31_ClockAsks.j0 k a0 a1 bt125.1 bt125.2 bt127.1 bt127.2 bt129.1 bt129.2 true a2_0 a2_1))))))
theorem radomelaw31_ClockAsks.mono_l : ∀ k, (∀ y0 y1 y2 y3 y4 y5 y6 y7 y8 y9 y10, LeO (radomelaw31_ClockAsks.j0 k y0 y1 y2 y3 y4 y5 y6 y7 y8 y9 y10) (radomelaw31_ClockAsks.j0 (k + 1) y0 y1 y2 y3 y4 y5 y6 y7 y8 y9 y10)) ∧ (∀ y0 y1 y2 y3 y4 y5 y6 y7, LeO (radomelaw31_ClockAsks.j1 k y0 y1 y2 y3 y4 y5 y6 y7) (radomelaw31_ClockAsks.j1 (k + 1) y0 y1 y2 y3 y4 y5 y6 y7)) ∧ (∀ y0 y1 y2 y3 y4 y5 y6 y7 y8, LeO (radomelaw31_ClockAsks.j2 k y0 y1 y2 y3 y4 y5 y6 y7 y8) (radomelaw31_ClockAsks.j2 (k + 1) y0 y1 y2 y3 y4 y5 y6 y7 y8)) ∧ (∀ y0 y1 y2 y3, LeO (radomelaw31_ClockAsks.j3 k y0 y1 y2 y3) (radomelaw31_ClockAsks.j3 (k + 1) y0 y1 y2 y3)) ∧ (∀ y0 y1 y2 y3 y4, LeO (radomelaw31_ClockAsks.j4 k y0 y1 y2 y3 y4) (radomelaw31_ClockAsks.j4 (k + 1) y0 y1 y2 y3 y4))
  | 0 => ⟨fun _ _ _ _ _ _ _ _ _ _ _ r h => by simp [radomelaw31_ClockAsks.j0] at h, fun _ _ _ _ _ _ _ _ r h => by simp [radomelaw31_ClockAsks.j1] at h, fun _ _ _ _ _ _ _ _ _ r h => by simp [radomelaw31_ClockAsks.j2] at h, fun _ _ _ _ r h => by simp [radomelaw31_ClockAsks.j3] at h, fun _ _ _ _ _ r h => by simp [radomelaw31_ClockAsks.j4] at h⟩
  | k + 1 => by
    obtain ⟨ih0, ih1, ih2, ih3, ih4⟩ := radomelaw31_ClockAsks.mono_l k
    refine ⟨?_, ?_, ?_, ?_, ?_⟩
    · intro y0 y1 y2 y3 y4 y5 y6 y7 y8 y9 y10
      unfold radomelaw31_ClockAsks.j0
      repeat' first
      | (with_reducible exact ih0 _ _ _ _ _ _ _ _ _ _ _)
      | (with_reducible exact ih1 _ _ _ _ _ _ _ _)
      | (with_reducible exact ih2 _ _ _ _ _ _ _ _ _)
      | (with_reducible exact ih3 _ _ _ _)
      | (with_reducible exact ih4 _ _ _ _ _)
      | (with_reducible exact clock_Kind.mono _ _ _ _ _)
      | (with_reducible exact clock_Since.mono _ _ _)
      | (with_reducible exact radomelaw31_sure.mono _)
      | (with_reducible exact radomeref31_Kind.mono _ _ _ _ _)
      | (with_reducible exact radomeref31_Since.mono _ _ _)
      | (with_reducible exact LeO.refl _)
      | (with_reducible exact LeO.none _)
      | (with_reducible refine LeO.ite ?_ ?_)
      | (with_reducible refine LeO.bind ?_ (fun _ => ?_))
      | exact ih0 _ _ _ _ _ _ _ _ _ _ _
      | exact ih1 _ _ _ _ _ _ _ _
      | exact ih2 _ _ _ _ _ _ _ _ _
      | exact ih3 _ _ _ _
      | exact ih4 _ _ _ _ _
      | exact clock_Kind.mono _ _ _ _ _
      | exact clock_Since.mono _ _ _
      | exact radomelaw31_sure.mono _
      | exact radomeref31_Kind.mono _ _ _ _ _
      | exact radomeref31_Since.mono _ _ _
      | exact LeO.none _
      | refine LeO.ite ?_ ?_
      | refine LeO.bind ?_ (fun _ => ?_)
    · intro y0 y1 y2 y3 y4 y5 y6 y7
      unfold radomelaw31_ClockAsks.j1
      repeat' first
      | (with_reducible exact ih0 _ _ _ _ _ _ _ _ _ _ _)
      | (with_reducible exact ih1 _ _ _ _ _ _ _ _)
      | (with_reducible exact ih2 _ _ _ _ _ _ _ _ _)
      | (with_reducible exact ih3 _ _ _ _)
      | (with_reducible exact ih4 _ _ _ _ _)
      | (with_reducible exact clock_Kind.mono _ _ _ _ _)
      | (with_reducible exact clock_Since.mono _ _ _)
      | (with_reducible exact radomelaw31_sure.mono _)
      | (with_reducible exact radomeref31_Kind.mono _ _ _ _ _)
      | (with_reducible exact radomeref31_Since.mono _ _ _)
      | (with_reducible exact LeO.refl _)
      | (with_reducible exact LeO.none _)
      | (with_reducible refine LeO.ite ?_ ?_)
      | (with_reducible refine LeO.bind ?_ (fun _ => ?_))
      | exact ih0 _ _ _ _ _ _ _ _ _ _ _
      | exact ih1 _ _ _ _ _ _ _ _
      | exact ih2 _ _ _ _ _ _ _ _ _
      | exact ih3 _ _ _ _
      | exact ih4 _ _ _ _ _
      | exact clock_Kind.mono _ _ _ _ _
      | exact clock_Since.mono _ _ _
      | exact radomelaw31_sure.mono _
      | exact radomeref31_Kind.mono _ _ _ _ _
      | exact radomeref31_Since.mono _ _ _
      | exact LeO.none _
      | refine LeO.ite ?_ ?_
      | refine LeO.bind ?_ (fun _ => ?_)
    · intro y0 y1 y2 y3 y4 y5 y6 y7 y8
      unfold radomelaw31_ClockAsks.j2
      repeat' first
      | (with_reducible exact ih0 _ _ _ _ _ _ _ _ _ _ _)
      | (with_reducible exact ih1 _ _ _ _ _ _ _ _)
      | (with_reducible exact ih2 _ _ _ _ _ _ _ _ _)
      | (with_reducible exact ih3 _ _ _ _)
      | (with_reducible exact ih4 _ _ _ _ _)
      | (with_reducible exact clock_Kind.mono _ _ _ _ _)
      | (with_reducible exact clock_Since.mono _ _ _)
      | (with_reducible exact radomelaw31_sure.mono _)
      | (with_reducible exact radomeref31_Kind.mono _ _ _ _ _)
      | (with_reducible exact radomeref31_Since.mono _ _ _)
      | (with_reducible exact LeO.refl _)
      | (with_reducible exact LeO.none _)
      | (with_reducible refine LeO.ite ?_ ?_)
      | (with_reducible refine LeO.bind ?_ (fun _ => ?_))
      | exact ih0 _ _ _ _ _ _ _ _ _ _ _
      | exact ih1 _ _ _ _ _ _ _ _
      | exact ih2 _ _ _ _ _ _ _ _ _
      | exact ih3 _ _ _ _
      | exact ih4 _ _ _ _ _
      | exact clock_Kind.mono _ _ _ _ _
      | exact clock_Since.mono _ _ _
      | exact radomelaw31_sure.mono _
      | exact radomeref31_Kind.mono _ _ _ _ _
      | exact radomeref31_Since.mono _ _ _
      | exact LeO.none _
      | refine LeO.ite ?_ ?_
      | refine LeO.bind ?_ (fun _ => ?_)
    · intro y0 y1 y2 y3
      unfold radomelaw31_ClockAsks.j3
      repeat' first
      | (with_reducible exact ih0 _ _ _ _ _ _ _ _ _ _ _)
      | (with_reducible exact ih1 _ _ _ _ _ _ _ _)
      | (with_reducible exact ih2 _ _ _ _ _ _ _ _ _)
      | (with_reducible exact ih3 _ _ _ _)
      | (with_reducible exact ih4 _ _ _ _ _)
      | (with_reducible exact clock_Kind.mono _ _ _ _ _)
      | (with_reducible exact clock_Since.mono _ _ _)
      | (with_reducible exact radomelaw31_sure.mono _)
      | (with_reducible exact radomeref31_Kind.mono _ _ _ _ _)
      | (with_reducible exact radomeref31_Since.mono _ _ _)
      | (with_reducible exact LeO.refl _)
      | (with_reducible exact LeO.none _)
      | (with_reducible refine LeO.ite ?_ ?_)
      | (with_reducible refine LeO.bind ?_ (fun _ => ?_))
      | exact ih0 _ _ _ _ _ _ _ _ _ _ _
      | exact ih1 _ _ _ _ _ _ _ _
      | exact ih2 _ _ _ _ _ _ _ _ _
      | exact ih3 _ _ _ _
      | exact ih4 _ _ _ _ _
      | exact clock_Kind.mono _ _ _ _ _
      | exact clock_Since.mono _ _ _
      | exact radomelaw31_sure.mono _
      | exact radomeref31_Kind.mono _ _ _ _ _
      | exact radomeref31_Since.mono _ _ _
      | exact LeO.none _
      | refine LeO.ite ?_ ?_
      | refine LeO.bind ?_ (fun _ => ?_)
    · intro y0 y1 y2 y3 y4
      unfold radomelaw31_ClockAsks.j4
      repeat' first
      | (with_reducible exact ih0 _ _ _ _ _ _ _ _ _ _ _)
      | (with_reducible exact ih1 _ _ _ _ _ _ _ _)
      | (with_reducible exact ih2 _ _ _ _ _ _ _ _ _)
      | (with_reducible exact ih3 _ _ _ _)
      | (with_reducible exact ih4 _ _ _ _ _)
      | (with_reducible exact clock_Kind.mono _ _ _ _ _)
      | (with_reducible exact clock_Since.mono _ _ _)
      | (with_reducible exact radomelaw31_sure.mono _)
      | (with_reducible exact radomeref31_Kind.mono _ _ _ _ _)
      | (with_reducible exact radomeref31_Since.mono _ _ _)
      | (with_reducible exact LeO.refl _)
      | (with_reducible exact LeO.none _)
      | (with_reducible refine LeO.ite ?_ ?_)
      | (with_reducible refine LeO.bind ?_ (fun _ => ?_))
      | exact ih0 _ _ _ _ _ _ _ _ _ _ _
      | exact ih1 _ _ _ _ _ _ _ _
      | exact ih2 _ _ _ _ _ _ _ _ _
      | exact ih3 _ _ _ _
      | exact ih4 _ _ _ _ _
      | exact clock_Kind.mono _ _ _ _ _
      | exact clock_Since.mono _ _ _
      | exact radomelaw31_sure.mono _
      | exact radomeref31_Kind.mono _ _ _ _ _
      | exact radomeref31_Since.mono _ _ _
      | exact LeO.none _
      | refine LeO.ite ?_ ?_
      | refine LeO.bind ?_ (fun _ => ?_)
theorem radomelaw31_ClockAsks.mono : ∀ a0 a1 a2 a3 k, LeO (radomelaw31_ClockAsks.f k a0 a1 a2 a3) (radomelaw31_ClockAsks.f (k + 1) a0 a1 a2 a3) := by
  intro a0 a1 a2 a3 k
  obtain ⟨ih0, ih1, ih2, ih3, ih4⟩ := radomelaw31_ClockAsks.mono_l k
  unfold radomelaw31_ClockAsks.f
  repeat' first
      | (with_reducible exact ih0 _ _ _ _ _ _ _ _ _ _ _)
      | (with_reducible exact ih1 _ _ _ _ _ _ _ _)
      | (with_reducible exact ih2 _ _ _ _ _ _ _ _ _)
      | (with_reducible exact ih3 _ _ _ _)
      | (with_reducible exact ih4 _ _ _ _ _)
      | (with_reducible exact clock_Kind.mono _ _ _ _ _)
      | (with_reducible exact clock_Since.mono _ _ _)
      | (with_reducible exact radomelaw31_sure.mono _)
      | (with_reducible exact radomeref31_Kind.mono _ _ _ _ _)
      | (with_reducible exact radomeref31_Since.mono _ _ _)
      | (with_reducible exact LeO.refl _)
      | (with_reducible exact LeO.none _)
      | (with_reducible refine LeO.ite ?_ ?_)
      | (with_reducible refine LeO.bind ?_ (fun _ => ?_))
      | exact ih0 _ _ _ _ _ _ _ _ _ _ _
      | exact ih1 _ _ _ _ _ _ _ _
      | exact ih2 _ _ _ _ _ _ _ _ _
      | exact ih3 _ _ _ _
      | exact ih4 _ _ _ _ _
      | exact clock_Kind.mono _ _ _ _ _
      | exact clock_Since.mono _ _ _
      | exact radomelaw31_sure.mono _
      | exact radomeref31_Kind.mono _ _ _ _ _
      | exact radomeref31_Since.mono _ _ _
      | exact LeO.none _
      | refine LeO.ite ?_ ?_
      | refine LeO.bind ?_ (fun _ => ?_)
set_option maxHeartbeats 8000000 in
set_option maxRecDepth 100000 in
theorem radomelaw31_ClockAsks.calls (k : Nat) (a0 : Int) (a1 : Int) (a2_0 : Int) (a2_1 : Int) (r : Bool) (w : World) (hG : GG w) (h : radomelaw31_ClockAsks.f k a0 a1 a2_0 a2_1 = some r) :
    Calls Tryd.prog 3 #[.int .i64 a0, .int .i64 a1, .agg #[.int .i64 a2_0, .int .i64 a2_1]] w fun e w' => e = .returned (.bool r) ∧ Below w.heap.size w w' := by
  have hu22 := Tryd.underlying22
  have hu24 := Tryd.underlying24
  have hu70 := Tryd.underlying70
  have HB := Aside0.mk (Below.refl w.heap.size w)
  have H : ((clock_Since.f k a0 a1).bind fun bt125 => ((clock_Seconds.f a1).bind fun bt127 => ((clock_Add.f a0 a2_0).bind fun bt129 => ((clock_Kind.f k a0 a1 a2_0 a2_1).bind fun bt131 => ((radomeref31_Kind.f k a0 a1 a2_0 a2_1).bind fun bt133 => (if bt131.1 = bt133.1 then ((radomelaw31_num.f bt131.2).bind fun t135 => (radomelaw31_ClockAsks.j0 k a0 a1 bt125.1 bt125.2 bt127.1 bt127.2 bt129.1 bt129.2 (t135 != bt133.2) a2_0 a2_1)) else (radomelaw31_ClockAsks.j0 k a0 a1 bt125.1 bt125.2 bt127.1 bt127.2 bt129.1 bt129.2 true a2_0 a2_1))))))) = some r := h
  clear h
  replace H := Option.bind_eq_some_iff.mp H
  obtain ⟨⟨t125, t126⟩, A40, H⟩ := H
  replace H : ((clock_Seconds.f a1).bind fun bt127 => ((clock_Add.f a0 a2_0).bind fun bt129 => ((clock_Kind.f k a0 a1 a2_0 a2_1).bind fun bt131 => ((radomeref31_Kind.f k a0 a1 a2_0 a2_1).bind fun bt133 => (if bt131.1 = bt133.1 then ((radomelaw31_num.f bt131.2).bind fun t135 => (radomelaw31_ClockAsks.j0 k a0 a1 t125 t126 bt127.1 bt127.2 bt129.1 bt129.2 (t135 != bt133.2) a2_0 a2_1)) else (radomelaw31_ClockAsks.j0 k a0 a1 t125 t126 bt127.1 bt127.2 bt129.1 bt129.2 true a2_0 a2_1)))))) = some r := H
  have A4 := Aside0.mk A40
  clear A40
  replace H := Option.bind_eq_some_iff.mp H
  obtain ⟨⟨t127, t128⟩, A50, H⟩ := H
  replace H : ((clock_Add.f a0 a2_0).bind fun bt129 => ((clock_Kind.f k a0 a1 a2_0 a2_1).bind fun bt131 => ((radomeref31_Kind.f k a0 a1 a2_0 a2_1).bind fun bt133 => (if bt131.1 = bt133.1 then ((radomelaw31_num.f bt131.2).bind fun t135 => (radomelaw31_ClockAsks.j0 k a0 a1 t125 t126 t127 t128 bt129.1 bt129.2 (t135 != bt133.2) a2_0 a2_1)) else (radomelaw31_ClockAsks.j0 k a0 a1 t125 t126 t127 t128 bt129.1 bt129.2 true a2_0 a2_1))))) = some r := H
  have A5 := Aside0.mk A50
  clear A50
  replace H := Option.bind_eq_some_iff.mp H
  obtain ⟨⟨t129, t130⟩, A60, H⟩ := H
  replace H : ((clock_Kind.f k a0 a1 a2_0 a2_1).bind fun bt131 => ((radomeref31_Kind.f k a0 a1 a2_0 a2_1).bind fun bt133 => (if bt131.1 = bt133.1 then ((radomelaw31_num.f bt131.2).bind fun t135 => (radomelaw31_ClockAsks.j0 k a0 a1 t125 t126 t127 t128 t129 t130 (t135 != bt133.2) a2_0 a2_1)) else (radomelaw31_ClockAsks.j0 k a0 a1 t125 t126 t127 t128 t129 t130 true a2_0 a2_1)))) = some r := H
  have A6 := Aside0.mk A60
  clear A60
  replace H := Option.bind_eq_some_iff.mp H
  obtain ⟨⟨t131, t132⟩, A70, H⟩ := H
  replace H : ((radomeref31_Kind.f k a0 a1 a2_0 a2_1).bind fun bt133 => (if t131 = bt133.1 then ((radomelaw31_num.f t132).bind fun t135 => (radomelaw31_ClockAsks.j0 k a0 a1 t125 t126 t127 t128 t129 t130 (t135 != bt133.2) a2_0 a2_1)) else (radomelaw31_ClockAsks.j0 k a0 a1 t125 t126 t127 t128 t129 t130 true a2_0 a2_1))) = some r := H
  have A7 := Aside0.mk A70
  clear A70
  replace H := Option.bind_eq_some_iff.mp H
  obtain ⟨⟨t133, t134⟩, A80, H⟩ := H
  replace H : (if t131 = t133 then ((radomelaw31_num.f t132).bind fun t135 => (radomelaw31_ClockAsks.j0 k a0 a1 t125 t126 t127 t128 t129 t130 (t135 != t134) a2_0 a2_1)) else (radomelaw31_ClockAsks.j0 k a0 a1 t125 t126 t127 t128 t129 t130 true a2_0 a2_1)) = some r := H
  have A8 := Aside0.mk A80
  clear A80
  have HC9 := Aside0.mk H
  clear H
  go_enter Tryd.func3, Tryd.ntmps3
  go_upto_region 6 with (first | ((with_reducible refine gate_dst (N := 5) rfl ?_); refine box_event ?hg (N := 5) ?hd (cs := #[.int .i64 a2_0, .int .i64 a2_1]) (t := 22) ?hr ?_; (case hd => rfl); (case hg => rfl); (case hr => first | (go_simp; done) | (go_simp; rfl)); intro gb124 hg w10 hbox hb; have n0_ := Aside0.mk (below_step (by repeat (first | (with_reducible first | exact HB.out | apply below_alloc | apply pw_below_drewN | apply below_drew1) | exact HB.out)) hb); have n1_ := Aside0.mk (hbox); have n2_ := Aside0.mk ((by rw [hg]; exact (below_size (by repeat (first | (with_reducible first | exact HB.out | apply below_alloc | apply pw_below_drewN | apply below_drew1) | exact HB.out))) : w.heap.size ≤ gb124)); have n3_ := Aside0.mk ((by rw [hg]; exact (below_size (by repeat (first | (with_reducible first | exact HB.out | apply below_alloc | apply pw_below_drewN | apply below_drew1) | exact HB.out))) : w.heap.size ≤ gb124)); clear HB; have HB := n0_; have BK124 := n1_; have GW124 := n2_; have GE124 := n3_; clear n0_ n1_ n2_ n3_; clear hb hbox hg) | ((with_reducible refine gate_callee (f := 7) rfl ?_); refine goesL_ (some 20) rfl rfl Tryd.func7 (by kernel_rfl) rfl #[.int .i64 a0, .int .i64 a1] rfl (by (try simp only [List.map_toArray, List.map_cons, List.map_nil]); first | done | rfl | (simp only [List.length_drop, List.length_take]; rfl)) ?_; (with_reducible refine (clock_Since.calls k a0 a1 t125 t126 _ A4.out).mono ?_); rintro e w' ⟨rfl, ⟨nd, rfl⟩⟩; refine ⟨_, rfl, ?_⟩; (try simp only [errW_none, errW_some])) | ((with_reducible refine gate_callee (f := 8) rfl ?_); refine goesL_ (some 25) rfl rfl Tryd.func8 (by kernel_rfl) rfl #[.int .i64 a1] rfl (by (try simp only [List.map_toArray, List.map_cons, List.map_nil]); first | done | rfl | (simp only [List.length_drop, List.length_take]; rfl)) ?_; (with_reducible refine (clock_Seconds.calls a1 t127 t128 _ A5.out).mono ?_); rintro e w' ⟨rfl, ⟨nd, rfl⟩⟩; refine ⟨_, rfl, ?_⟩; (try simp only [errW_none, errW_some]); have hcz11_0 : w10.cell? ⟨gb124, 0, none⟩ = some (.int .i64 a2_0) := (blk_cell BK124.out 0).trans rfl; have hcz11_1 : w10.cell? ⟨gb124, 1, none⟩ = some (.int .i64 a2_1) := (blk_cell BK124.out 1).trans rfl; have hfz11_0 := blk_frozen BK124.out 0; have hfz11_1 := blk_frozen BK124.out 1) | ((with_reducible refine gate_callee (f := 9) rfl ?_); refine goesL_ (some 32) rfl rfl Tryd.func9 (by kernel_rfl) rfl #[.int .i64 a0, .int .i64 a2_0] rfl (by (try simp only [List.map_toArray, List.map_cons, List.map_nil]); first | done | rfl | (simp only [List.length_drop, List.length_take]; rfl)) ?_; (with_reducible refine (clock_Add.calls a0 a2_0 t129 t130 _ A6.out).mono ?_); rintro e w12 ⟨rfl, hb⟩; refine ⟨_, rfl, ?_⟩; have n0_ := Aside0.mk (blk_below (g := gb124) (o := .cells #[.int .i64 a2_0, .int .i64 a2_1] 22 (0, 0)) (by (with_reducible repeat (first | refine blk_drewN ?_ _ | refine blk_drew ?_ | refine blk_alloc ?_ _)); exact BK124.out) hb); have n1_ := Aside0.mk (below_step (by repeat (first | (with_reducible first | exact HB.out | apply below_alloc | apply pw_below_drewN | apply below_drew1 | refine below_set ?_ GE124.out) | exact HB.out)) hb); clear BK124; clear HB; have BK124 := n0_; have HB := n1_; clear n0_ n1_; (try clear hb); (try clear hb2); (try clear hk); (try clear hi); (try simp only [errW_none, errW_some]); have hcz13_0 : w12.cell? ⟨gb124, 0, none⟩ = some (.int .i64 a2_0) := (blk_cell BK124.out 0).trans rfl; have hcz13_1 : w12.cell? ⟨gb124, 1, none⟩ = some (.int .i64 a2_1) := (blk_cell BK124.out 1).trans rfl; have hfz13_0 := blk_frozen BK124.out 0; have hfz13_1 := blk_frozen BK124.out 1) | ((with_reducible refine gate_callee (f := 10) rfl ?_); refine goesL_ (some 42) rfl rfl Tryd.func10 (by kernel_rfl) rfl #[.int .i64 a0, .int .i64 a1, .int .i64 a2_0, .int .i64 a2_1] rfl (by (try simp only [List.map_toArray, List.map_cons, List.map_nil]); first | done | rfl | (simp only [List.length_drop, List.length_take]; rfl)) ?_; (with_reducible refine (clock_Kind.calls k a0 a1 a2_0 a2_1 t131 t132 _ A7.out).mono ?_); rintro e w' ⟨rfl, ⟨nd, rfl⟩⟩; refine ⟨_, rfl, ?_⟩; (try simp only [errW_none, errW_some])) | ((with_reducible refine gate_callee (f := 11) rfl ?_); refine goesL_ (some 52) rfl rfl Tryd.func11 (by kernel_rfl) rfl #[.int .i64 a0, .int .i64 a1, .int .i64 a2_0, .int .i64 a2_1] rfl (by (try simp only [List.map_toArray, List.map_cons, List.map_nil]); first | done | rfl | (simp only [List.length_drop, List.length_take]; rfl)) ?_; (with_reducible refine (radomeref31_Kind.calls k a0 a1 a2_0 a2_1 t133 t134 _ A8.out).mono ?_); rintro e w' ⟨rfl, ⟨nd, rfl⟩⟩; refine ⟨_, rfl, ?_⟩))
  (try simp only [Act.put, List.setIfInBounds_toArray, List.set_cons_zero, List.set_cons_succ])
  go_cut [63] (fun v63 wc => ∃ (kq : Nat) (x63_8 : Bool), v63 = .bool x63_8 ∧ Aside0 (radomelaw31_ClockAsks.j0 kq a0 a1 t125 t126 t127 t128 t129 t130 x63_8 a2_0 a2_1 = some r) ∧ Aside0 (kq ≤ k) ∧ Aside0 (wc.heap[gb124]? = some (.cells #[.int .i64 a2_0, .int .i64 a2_1] 22 (0, 0))) ∧ Aside0 (Below w.heap.size w wc))
  case first =>
    have H := HC9.out
    clear HC9
    by_cases c14 : t131 = t133
    · rw [if_pos c14] at H
      have c14b0 : (t131 == t133) = true := beq_iff_eq.mpr c14
      have c14b1 : (t131 != t133) = false := bne_eq_false_iff_eq.mpr c14
      clear c14
      (first | rw [c14b0] | (simp only [i64_w, i32_w]; rw [c14b0]) | skip)
      replace H := Option.bind_eq_some_iff.mp H
      obtain ⟨t135, A150, H⟩ := H
      replace H : (radomelaw31_ClockAsks.j0 k a0 a1 t125 t126 t127 t128 t129 t130 (t135 != t134) a2_0 a2_1) = some r := H
      have A15 := Aside0.mk A150
      clear A150
      have H' := Aside0.mk H
      clear H
      have CA15 := fun W hG_ => radomelaw31_num.calls t132 t135 W hG_ A15.out
      try simp only [errW_none, errW_some] at CA15
      go_wp2_with (first | (go_at_call 12; (with_reducible refine (CA15 _ ?side1).mono ?_); (case side1 => exact GG.below hG (by repeat (first | (with_reducible first | exact HB.out | apply below_alloc | apply pw_below_drewN | apply below_drew1 | refine below_set ?_ GE124.out) | exact HB.out))); rintro e w16 ⟨rfl, hb⟩; have n0_ := Aside0.mk (blk_below (g := gb124) (o := .cells #[.int .i64 a2_0, .int .i64 a2_1] 22 (0, 0)) (by (with_reducible repeat (first | refine blk_drewN ?_ _ | refine blk_drew ?_ | refine blk_alloc ?_ _)); exact BK124.out) hb); have n1_ := Aside0.mk (below_step (by repeat (first | (with_reducible first | exact HB.out | apply below_alloc | apply pw_below_drewN | apply below_drew1 | refine below_set ?_ GE124.out) | exact HB.out)) hb); clear BK124; clear HB; have BK124 := n0_; have HB := n1_; clear n0_ n1_; (try clear hb); (try clear hb2); (try clear hk); (try clear hi)))
      go_meet
      case rel => exact ⟨_, ((t135 != t134)), (by first | rfl | (simp; done) | (simp [*]; done)), H', ⟨by first | omega | exact Nat.le_refl _⟩, ⟨by (with_reducible repeat (first | refine blk_drewN ?_ _ | refine blk_drew ?_ | refine blk_alloc ?_ _)); exact BK124.out⟩, ⟨by repeat (first | (with_reducible first | exact HB.out | apply below_alloc | apply pw_below_drewN | apply below_drew1 | refine below_set ?_ GE124.out) | exact HB.out)⟩⟩
    · rw [if_neg c14] at H
      have c14b0 : (t131 == t133) = false := beq_eq_false_iff_ne.mpr c14
      have c14b1 : (t131 != t133) = true := bne_iff_ne.mpr c14
      (first | rw [c14b0] | (simp only [i64_w, i32_w]; rw [c14b0]) | skip)
      have H' := Aside0.mk H
      clear H
      go_wp2
      go_meet
      case rel => exact ⟨_, (true), (by first | rfl | (simp; done) | (simp [*]; done)), H', ⟨by first | omega | exact Nat.le_refl _⟩, ⟨by (with_reducible repeat (first | refine blk_drewN ?_ _ | refine blk_drew ?_ | refine blk_alloc ?_ _)); exact BK124.out⟩, ⟨by repeat (first | (with_reducible first | exact HB.out | apply below_alloc | apply pw_below_drewN | apply below_drew1 | refine below_set ?_ GE124.out) | exact HB.out)⟩⟩
  case rest =>
    clear HC9
    try clear c1
    try clear p2
    try clear c3
    try clear c7
    try clear c8
    try clear c9
    try clear c10
    try clear c11
    try clear c14
    try clear c14b0
    try clear c14b1
    try clear hcz11_0
    try clear hcz11_1
    try clear hcz13_0
    try clear hcz13_1
    try clear hfz11_0
    try clear hfz11_1
    try clear hfz13_0
    try clear hfz13_1
    obtain ⟨kq, x63_8, rfl, HA, HJ8, BK124, HB⟩ := hcut
    cases kq with
    | zero => exact absurd HA.out (by simp [radomelaw31_ClockAsks.j0])
    | succ kj8 =>
      have H := HA.out
      clear HA
      simp only [radomelaw31_ClockAsks.j0] at H
      by_cases c17 : x63_8 = true
      · subst c17
        have H1 : (some false) = some r := by rw [if_pos rfl] at H; exact H
        clear H
        have H := H1
        clear H1
        obtain rfl := Option.some.inj H
        go_wp2
        go_ret
        exact ⟨by first | rfl | (simp [errW_none, errW_some] <;> rfl) | (simp [*, errW_none, errW_some] <;> rfl), by repeat (first | (with_reducible first | exact HB.out | apply below_alloc | apply pw_below_drewN | apply below_drew1 | refine below_set ?_ GE124.out) | exact HB.out)⟩
      · replace c17 := Bool.eq_false_iff.mpr c17
        subst c17
        have H1 : ((radomeref31_Time.f a1).bind fun t136 => (if t136 = true then (if t128.isNone = true then (if t127 = (wrap64 (8192 * a1)) then (radomelaw31_ClockAsks.j1 kj8 a0 a1 t125 t126 t129 t130 a2_0 a2_1) else (some false)) else (some false)) else ((radomelaw31_num.f t128).bind fun t138 => (if t138 = 1 then (if t127 = 0 then (radomelaw31_ClockAsks.j1 kj8 a0 a1 t125 t126 t129 t130 a2_0 a2_1) else (some false)) else (some false))))) = some r := by rw [if_neg (show ¬ (false = true) by decide)] at H; exact H
        clear H
        have H := H1
        clear H1
        replace H := Option.bind_eq_some_iff.mp H
        obtain ⟨t136, A180, H⟩ := H
        replace H : (if t136 = true then (if t128.isNone = true then (if t127 = (wrap64 (8192 * a1)) then (radomelaw31_ClockAsks.j1 kj8 a0 a1 t125 t126 t129 t130 a2_0 a2_1) else (some false)) else (some false)) else ((radomelaw31_num.f t128).bind fun t138 => (if t138 = 1 then (if t127 = 0 then (radomelaw31_ClockAsks.j1 kj8 a0 a1 t125 t126 t129 t130 a2_0 a2_1) else (some false)) else (some false)))) = some r := H
        have A18 := Aside0.mk A180
        clear A180
        have HC19 := Aside0.mk H
        clear H
        go_upto_if 66 with (first | ((with_reducible refine gate_callee (f := 13) rfl ?_); refine goesL_ (some 65) rfl rfl Tryd.func13 (by kernel_rfl) rfl #[.int .i64 a1] rfl (by (try simp only [List.map_toArray, List.map_cons, List.map_nil]); first | done | rfl | (simp only [List.length_drop, List.length_take]; rfl)) ?_; (with_reducible refine (radomeref31_Time.calls a1 t136 _ A18.out).mono ?_); rintro e w' ⟨rfl, ⟨nd, rfl⟩⟩; refine ⟨_, rfl, ?_⟩))
        (try simp only [Act.put, List.setIfInBounds_toArray, List.set_cons_zero, List.set_cons_succ])
        go_cut [] (fun wc => ∃ (kq : Nat), Aside0 (radomelaw31_ClockAsks.j1 kq a0 a1 t125 t126 t129 t130 a2_0 a2_1 = some r) ∧ Aside0 (kq ≤ kj8) ∧ Aside0 (wc.heap[gb124]? = some (.cells #[.int .i64 a2_0, .int .i64 a2_1] 22 (0, 0))) ∧ Aside0 (Below w.heap.size w wc))
        case first =>
          have H := HC19.out
          clear HC19
          by_cases c20 : t136 = true
          · subst c20
            have H1 : (if t128.isNone = true then (if t127 = (wrap64 (8192 * a1)) then (radomelaw31_ClockAsks.j1 kj8 a0 a1 t125 t126 t129 t130 a2_0 a2_1) else (some false)) else (some false)) = some r := by rw [if_pos rfl] at H; exact H
            clear H
            have H := H1
            clear H1
            rcases t128 with _ | q137
            · have H1 : (if t127 = (wrap64 (8192 * a1)) then (radomelaw31_ClockAsks.j1 kj8 a0 a1 t125 t126 t129 t130 a2_0 a2_1) else (some false)) = some r := by rw [if_pos (show (none : Option Int).isNone = true by rfl)] at H; exact H
              clear H
              have H := H1
              clear H1
              try simp only [errW_none, errW_some]
              by_cases c21 : t127 = (wrap64 (8192 * a1))
              · rw [if_pos c21] at H
                have c21b0 : (t127 == (wrap64 (8192 * a1))) = true := beq_iff_eq.mpr c21
                have c21b1 : (t127 != (wrap64 (8192 * a1))) = false := bne_eq_false_iff_eq.mpr c21
                clear c21
                (first | rw [c21b0] | (simp only [i64_w, i32_w]; rw [c21b0]) | skip)
                have H' := Aside0.mk H
                clear H
                go_wp2
                go_meet
                case rel => exact ⟨_, H', ⟨by have := HJ8.out; first | omega | exact Nat.le_refl _⟩, ⟨by (with_reducible repeat (first | refine blk_drewN ?_ _ | refine blk_drew ?_ | refine blk_alloc ?_ _)); exact BK124.out⟩, ⟨by repeat (first | (with_reducible first | exact HB.out | apply below_alloc | apply pw_below_drewN | apply below_drew1 | refine below_set ?_ GE124.out) | exact HB.out)⟩⟩
              · rw [if_neg c21] at H
                have c21b0 : (t127 == (wrap64 (8192 * a1))) = false := beq_eq_false_iff_ne.mpr c21
                have c21b1 : (t127 != (wrap64 (8192 * a1))) = true := bne_iff_ne.mpr c21
                (first | rw [c21b0] | (simp only [i64_w, i32_w]; rw [c21b0]) | skip)
                obtain rfl := Option.some.inj H
                go_wp2
                go_ret
                exact ⟨by first | rfl | (simp [errW_none, errW_some] <;> rfl) | (simp [*, errW_none, errW_some] <;> rfl), by repeat (first | (with_reducible first | exact HB.out | apply below_alloc | apply pw_below_drewN | apply below_drew1 | refine below_set ?_ GE124.out) | exact HB.out)⟩
            · have H1 : (some false) = some r := by rw [if_neg (show ¬ (some q137).isNone = true by simp)] at H; exact H
              clear H
              have H := H1
              clear H1
              try simp only [errW_none, errW_some]
              obtain rfl := Option.some.inj H
              go_wp2
              go_ret
              exact ⟨by first | rfl | (simp [errW_none, errW_some] <;> rfl) | (simp [*, errW_none, errW_some] <;> rfl), by repeat (first | (with_reducible first | exact HB.out | apply below_alloc | apply pw_below_drewN | apply below_drew1 | refine below_set ?_ GE124.out) | exact HB.out)⟩
          · replace c20 := Bool.eq_false_iff.mpr c20
            subst c20
            have H1 : ((radomelaw31_num.f t128).bind fun t138 => (if t138 = 1 then (if t127 = 0 then (radomelaw31_ClockAsks.j1 kj8 a0 a1 t125 t126 t129 t130 a2_0 a2_1) else (some false)) else (some false))) = some r := by rw [if_neg (show ¬ (false = true) by decide)] at H; exact H
            clear H
            have H := H1
            clear H1
            replace H := Option.bind_eq_some_iff.mp H
            obtain ⟨t138, A220, H⟩ := H
            replace H : (if t138 = 1 then (if t127 = 0 then (radomelaw31_ClockAsks.j1 kj8 a0 a1 t125 t126 t129 t130 a2_0 a2_1) else (some false)) else (some false)) = some r := H
            have A22 := Aside0.mk A220
            clear A220
            by_cases c23 : t138 = 1
            · rw [if_pos c23] at H
              have c23b0 : (t138 == 1) = true := beq_iff_eq.mpr c23
              have c23b1 : (t138 != 1) = false := bne_eq_false_iff_eq.mpr c23
              clear c23
              by_cases c24 : t127 = 0
              · rw [if_pos c24] at H
                have c24b0 : (t127 == 0) = true := beq_iff_eq.mpr c24
                have c24b1 : (t127 != 0) = false := bne_eq_false_iff_eq.mpr c24
                clear c24
                have H' := Aside0.mk H
                clear H
                have CA22 := fun W hG_ => radomelaw31_num.calls t128 t138 W hG_ A22.out
                try simp only [errW_none, errW_some] at CA22
                go_wp2_with (first | (go_at_call 12; (with_reducible refine (CA22 _ ?side1).mono ?_); (case side1 => exact GG.below hG (by repeat (first | (with_reducible first | exact HB.out | apply below_alloc | apply pw_below_drewN | apply below_drew1 | refine below_set ?_ GE124.out) | exact HB.out))); rintro e w25 ⟨rfl, hb⟩; have n0_ := Aside0.mk (blk_below (g := gb124) (o := .cells #[.int .i64 a2_0, .int .i64 a2_1] 22 (0, 0)) (by (with_reducible repeat (first | refine blk_drewN ?_ _ | refine blk_drew ?_ | refine blk_alloc ?_ _)); exact BK124.out) hb); have n1_ := Aside0.mk (below_step (by repeat (first | (with_reducible first | exact HB.out | apply below_alloc | apply pw_below_drewN | apply below_drew1 | refine below_set ?_ GE124.out) | exact HB.out)) hb); clear BK124; clear HB; have BK124 := n0_; have HB := n1_; clear n0_ n1_; (try clear hb); (try clear hb2); (try clear hk); (try clear hi)))
                go_meet
                case rel => exact ⟨_, H', ⟨by have := HJ8.out; first | omega | exact Nat.le_refl _⟩, ⟨by (with_reducible repeat (first | refine blk_drewN ?_ _ | refine blk_drew ?_ | refine blk_alloc ?_ _)); exact BK124.out⟩, ⟨by repeat (first | (with_reducible first | exact HB.out | apply below_alloc | apply pw_below_drewN | apply below_drew1 | refine below_set ?_ GE124.out) | exact HB.out)⟩⟩
              · rw [if_neg c24] at H
                have c24b0 : (t127 == 0) = false := beq_eq_false_iff_ne.mpr c24
                have c24b1 : (t127 != 0) = true := bne_iff_ne.mpr c24
                obtain rfl := Option.some.inj H
                have CA22 := fun W hG_ => radomelaw31_num.calls t128 t138 W hG_ A22.out
                try simp only [errW_none, errW_some] at CA22
                go_wp2_with (first | (go_at_call 12; (with_reducible refine (CA22 _ ?side1).mono ?_); (case side1 => exact GG.below hG (by repeat (first | (with_reducible first | exact HB.out | apply below_alloc | apply pw_below_drewN | apply below_drew1 | refine below_set ?_ GE124.out) | exact HB.out))); rintro e w26 ⟨rfl, hb⟩; have n0_ := Aside0.mk (blk_below (g := gb124) (o := .cells #[.int .i64 a2_0, .int .i64 a2_1] 22 (0, 0)) (by (with_reducible repeat (first | refine blk_drewN ?_ _ | refine blk_drew ?_ | refine blk_alloc ?_ _)); exact BK124.out) hb); have n1_ := Aside0.mk (below_step (by repeat (first | (with_reducible first | exact HB.out | apply below_alloc | apply pw_below_drewN | apply below_drew1 | refine below_set ?_ GE124.out) | exact HB.out)) hb); clear BK124; clear HB; have BK124 := n0_; have HB := n1_; clear n0_ n1_; (try clear hb); (try clear hb2); (try clear hk); (try clear hi)))
                go_ret
                exact ⟨by first | rfl | (simp [errW_none, errW_some] <;> rfl) | (simp [*, errW_none, errW_some] <;> rfl), by repeat (first | (with_reducible first | exact HB.out | apply below_alloc | apply pw_below_drewN | apply below_drew1 | refine below_set ?_ GE124.out) | exact HB.out)⟩
            · rw [if_neg c23] at H
              have c23b0 : (t138 == 1) = false := beq_eq_false_iff_ne.mpr c23
              have c23b1 : (t138 != 1) = true := bne_iff_ne.mpr c23
              obtain rfl := Option.some.inj H
              have CA22 := fun W hG_ => radomelaw31_num.calls t128 t138 W hG_ A22.out
              try simp only [errW_none, errW_some] at CA22
              go_wp2_with (first | (go_at_call 12; (with_reducible refine (CA22 _ ?side1).mono ?_); (case side1 => exact GG.below hG (by repeat (first | (with_reducible first | exact HB.out | apply below_alloc | apply pw_below_drewN | apply below_drew1 | refine below_set ?_ GE124.out) | exact HB.out))); rintro e w27 ⟨rfl, hb⟩; have n0_ := Aside0.mk (blk_below (g := gb124) (o := .cells #[.int .i64 a2_0, .int .i64 a2_1] 22 (0, 0)) (by (with_reducible repeat (first | refine blk_drewN ?_ _ | refine blk_drew ?_ | refine blk_alloc ?_ _)); exact BK124.out) hb); have n1_ := Aside0.mk (below_step (by repeat (first | (with_reducible first | exact HB.out | apply below_alloc | apply pw_below_drewN | apply below_drew1 | refine below_set ?_ GE124.out) | exact HB.out)) hb); clear BK124; clear HB; have BK124 := n0_; have HB := n1_; clear n0_ n1_; (try clear hb); (try clear hb2); (try clear hk); (try clear hi)))
              go_ret
              exact ⟨by first | rfl | (simp [errW_none, errW_some] <;> rfl) | (simp [*, errW_none, errW_some] <;> rfl), by repeat (first | (with_reducible first | exact HB.out | apply below_alloc | apply pw_below_drewN | apply below_drew1 | refine below_set ?_ GE124.out) | exact HB.out)⟩
        case rest =>
          clear HC19
          try clear c1
          try clear q1
          try clear c2
          try clear p2
          try clear c3
          try clear p6
          try clear c7
          try clear c8
          try clear c9
          try clear c10
          try clear c11
          try clear c13
          try clear q13
          try clear c14
          try clear c14b0
          try clear c14b1
          try clear c17
          try clear c20
          try clear c21
          try clear c21b0
          try clear c21b1
          try clear c23
          try clear c23b0
          try clear c23b1
          try clear c24
          try clear c24b0
          try clear c24b1
          try clear hcz11_0
          try clear hcz11_1
          try clear hcz13_0
          try clear hcz13_1
          try clear hfz11_0
          try clear hfz11_1
          try clear hfz13_0
          try clear hfz13_1
          try clear p2
          try clear q137
          obtain ⟨kq, HA, HJ18, BK124, HB⟩ := hcut
          cases kq with
          | zero => exact absurd HA.out (by simp [radomelaw31_ClockAsks.j1])
          | succ kj18 =>
            have H := HA.out
            clear HA
            simp only [radomelaw31_ClockAsks.j1] at H
            have HC28 := Aside0.mk H
            clear H
            go_upto_region 13 with (fail)
            go_cut [94] (fun v94 wc => ∃ (kq : Nat) (x94_27 : Bool), v94 = .bool x94_27 ∧ Aside0 (radomelaw31_ClockAsks.j2 kq a0 a1 t125 t126 t129 t130 x94_27 a2_0 a2_1 = some r) ∧ Aside0 (kq ≤ kj18) ∧ Aside0 (wc.heap[gb124]? = some (.cells #[.int .i64 a2_0, .int .i64 a2_1] 22 (0, 0))) ∧ Aside0 (Below w.heap.size w wc))
            case first =>
              have H := HC28.out
              clear HC28
              replace H := Option.bind_eq_some_iff.mp H
              obtain ⟨t139, A290, H⟩ := H
              replace H : (if t139 = true then (if a2_0 < (-11059199) then (radomelaw31_ClockAsks.j2 kj18 a0 a1 t125 t126 t129 t130 true a2_0 a2_1) else (radomelaw31_ClockAsks.j2 kj18 a0 a1 t125 t126 t129 t130 (decide (a2_0 > 11059199)) a2_0 a2_1)) else (radomelaw31_ClockAsks.j2 kj18 a0 a1 t125 t126 t129 t130 true a2_0 a2_1)) = some r := H
              have A29 := Aside0.mk A290
              clear A290
              by_cases c30 : t139 = true
              · subst c30
                have H1 : (if a2_0 < (-11059199) then (radomelaw31_ClockAsks.j2 kj18 a0 a1 t125 t126 t129 t130 true a2_0 a2_1) else (radomelaw31_ClockAsks.j2 kj18 a0 a1 t125 t126 t129 t130 (decide (a2_0 > 11059199)) a2_0 a2_1)) = some r := by rw [if_pos rfl] at H; exact H
                clear H
                have H := H1
                clear H1
                by_cases c31 : a2_0 < (-11059199)
                · rw [if_pos c31] at H
                  have c31b0 : decide (a2_0 < (-11059199)) = true := decide_eq_true c31
                  clear c31
                  (first | rw [c31b0] | (simp only [i64_w, i32_w]; rw [c31b0]) | skip)
                  have H' := Aside0.mk H
                  clear H
                  go_wp2_with (first | ((with_reducible refine gate_callee (f := 13) rfl ?_); refine goesL_ (some 83) rfl rfl Tryd.func13 (by kernel_rfl) rfl #[.int .i64 a0] rfl (by (try simp only [List.map_toArray, List.map_cons, List.map_nil]); first | done | rfl | (simp only [List.length_drop, List.length_take]; rfl)) ?_; (with_reducible refine (radomeref31_Time.calls a0 true _ A29.out).mono ?_); rintro e w' ⟨rfl, ⟨nd, rfl⟩⟩; refine ⟨_, rfl, ?_⟩; have hcz32_0 : wc.cell? ⟨gb124, 0, none⟩ = some (.int .i64 a2_0) := (blk_cell BK124.out 0).trans rfl; have hcz32_1 : wc.cell? ⟨gb124, 1, none⟩ = some (.int .i64 a2_1) := (blk_cell BK124.out 1).trans rfl; have hfz32_0 := blk_frozen BK124.out 0; have hfz32_1 := blk_frozen BK124.out 1))
                  go_meet
                  case rel => exact ⟨_, (true), (by first | rfl | (simp; done) | (simp [*]; done)), H', ⟨by have := HJ8.out; have := HJ18.out; first | omega | exact Nat.le_refl _⟩, ⟨by (with_reducible repeat (first | refine blk_drewN ?_ _ | refine blk_drew ?_ | refine blk_alloc ?_ _)); exact BK124.out⟩, ⟨by repeat (first | (with_reducible first | exact HB.out | apply below_alloc | apply pw_below_drewN | apply below_drew1 | refine below_set ?_ GE124.out) | exact HB.out)⟩⟩
                · rw [if_neg c31] at H
                  have c31b0 : decide (a2_0 < (-11059199)) = false := decide_eq_false c31
                  clear c31
                  (first | rw [c31b0] | (simp only [i64_w, i32_w]; rw [c31b0]) | skip)
                  have H' := Aside0.mk H
                  clear H
                  go_wp2_with (first | ((with_reducible refine gate_callee (f := 13) rfl ?_); refine goesL_ (some 83) rfl rfl Tryd.func13 (by kernel_rfl) rfl #[.int .i64 a0] rfl (by (try simp only [List.map_toArray, List.map_cons, List.map_nil]); first | done | rfl | (simp only [List.length_drop, List.length_take]; rfl)) ?_; (with_reducible refine (radomeref31_Time.calls a0 true _ A29.out).mono ?_); rintro e w' ⟨rfl, ⟨nd, rfl⟩⟩; refine ⟨_, rfl, ?_⟩; have hcz33_0 : wc.cell? ⟨gb124, 0, none⟩ = some (.int .i64 a2_0) := (blk_cell BK124.out 0).trans rfl; have hcz33_1 : wc.cell? ⟨gb124, 1, none⟩ = some (.int .i64 a2_1) := (blk_cell BK124.out 1).trans rfl; have hfz33_0 := blk_frozen BK124.out 0; have hfz33_1 := blk_frozen BK124.out 1))
                  go_meet
                  case rel => exact ⟨_, (decide (a2_0 > 11059199)), (by first | rfl | (simp; done) | (simp [*]; done)), H', ⟨by have := HJ8.out; have := HJ18.out; first | omega | exact Nat.le_refl _⟩, ⟨by (with_reducible repeat (first | refine blk_drewN ?_ _ | refine blk_drew ?_ | refine blk_alloc ?_ _)); exact BK124.out⟩, ⟨by repeat (first | (with_reducible first | exact HB.out | apply below_alloc | apply pw_below_drewN | apply below_drew1 | refine below_set ?_ GE124.out) | exact HB.out)⟩⟩
              · replace c30 := Bool.eq_false_iff.mpr c30
                subst c30
                have H1 : (radomelaw31_ClockAsks.j2 kj18 a0 a1 t125 t126 t129 t130 true a2_0 a2_1) = some r := by rw [if_neg (show ¬ (false = true) by decide)] at H; exact H
                clear H
                have H := H1
                clear H1
                have H' := Aside0.mk H
                clear H
                go_wp2_with (first | ((with_reducible refine gate_callee (f := 13) rfl ?_); refine goesL_ (some 83) rfl rfl Tryd.func13 (by kernel_rfl) rfl #[.int .i64 a0] rfl (by (try simp only [List.map_toArray, List.map_cons, List.map_nil]); first | done | rfl | (simp only [List.length_drop, List.length_take]; rfl)) ?_; (with_reducible refine (radomeref31_Time.calls a0 false _ A29.out).mono ?_); rintro e w' ⟨rfl, ⟨nd, rfl⟩⟩; refine ⟨_, rfl, ?_⟩))
                go_meet
                case rel => exact ⟨_, (true), (by first | rfl | (simp; done) | (simp [*]; done)), H', ⟨by have := HJ8.out; have := HJ18.out; first | omega | exact Nat.le_refl _⟩, ⟨by (with_reducible repeat (first | refine blk_drewN ?_ _ | refine blk_drew ?_ | refine blk_alloc ?_ _)); exact BK124.out⟩, ⟨by repeat (first | (with_reducible first | exact HB.out | apply below_alloc | apply pw_below_drewN | apply below_drew1 | refine below_set ?_ GE124.out) | exact HB.out)⟩⟩
            case rest =>
              clear HC28
              try clear c1
              try clear q1
              try clear c2
              try clear p2
              try clear c3
              try clear p6
              try clear c7
              try clear c8
              try clear c9
              try clear c10
              try clear c11
              try clear c13
              try clear q13
              try clear c14
              try clear c14b0
              try clear c14b1
              try clear c17
              try clear c20
              try clear c21
              try clear c21b0
              try clear c21b1
              try clear c23
              try clear c23b0
              try clear c23b1
              try clear c24
              try clear c24b0
              try clear c24b1
              try clear c30
              try clear c31
              try clear c31b0
              try clear hcz11_0
              try clear hcz11_1
              try clear hcz13_0
              try clear hcz13_1
              try clear hcz32_0
              try clear hcz32_1
              try clear hcz33_0
              try clear hcz33_1
              try clear hfz11_0
              try clear hfz11_1
              try clear hfz13_0
              try clear hfz13_1
              try clear hfz32_0
              try clear hfz32_1
              try clear hfz33_0
              try clear hfz33_1
              try clear p2
              try clear p6
              try clear q1
              try clear q13
              try clear q137
              obtain ⟨kq, x94_27, rfl, HA, HJ27, BK124, HB⟩ := hcut
              cases kq with
              | zero => exact absurd HA.out (by simp [radomelaw31_ClockAsks.j2])
              | succ kj27 =>
                have H := HA.out
                clear HA
                simp only [radomelaw31_ClockAsks.j2] at H
                have HC34 := Aside0.mk H
                clear H
                go_upto_if 94 with (fail)
                go_cut [] (fun wc => ∃ (kq : Nat), Aside0 (radomelaw31_ClockAsks.j3 kq a0 a1 t125 t126 = some r) ∧ Aside0 (kq ≤ kj27) ∧ Aside0 (wc.heap[gb124]? = some (.cells #[.int .i64 a2_0, .int .i64 a2_1] 22 (0, 0))) ∧ Aside0 (Below w.heap.size w wc))
                case first =>
                  have H := HC34.out
                  clear HC34
                  by_cases c35 : x94_27 = true
                  · subst c35
                    have H1 : ((radomelaw31_num.f t130).bind fun t140 => (if t140 = 1 then (if t129 = 0 then (radomelaw31_ClockAsks.j3 kj27 a0 a1 t125 t126) else (some false)) else (some false))) = some r := by rw [if_pos rfl] at H; exact H
                    clear H
                    have H := H1
                    clear H1
                    replace H := Option.bind_eq_some_iff.mp H
                    obtain ⟨t140, A360, H⟩ := H
                    replace H : (if t140 = 1 then (if t129 = 0 then (radomelaw31_ClockAsks.j3 kj27 a0 a1 t125 t126) else (some false)) else (some false)) = some r := H
                    have A36 := Aside0.mk A360
                    clear A360
                    by_cases c37 : t140 = 1
                    · rw [if_pos c37] at H
                      have c37b0 : (t140 == 1) = true := beq_iff_eq.mpr c37
                      have c37b1 : (t140 != 1) = false := bne_eq_false_iff_eq.mpr c37
                      clear c37
                      (first | rw [c37b0] | (simp only [i64_w, i32_w]; rw [c37b0]) | skip)
                      by_cases c38 : t129 = 0
                      · rw [if_pos c38] at H
                        have c38b0 : (t129 == 0) = true := beq_iff_eq.mpr c38
                        have c38b1 : (t129 != 0) = false := bne_eq_false_iff_eq.mpr c38
                        clear c38
                        have H' := Aside0.mk H
                        clear H
                        have CA36 := fun W hG_ => radomelaw31_num.calls t130 t140 W hG_ A36.out
                        try simp only [errW_none, errW_some] at CA36
                        go_wp2_with (first | (go_at_call 12; (with_reducible refine (CA36 _ ?side1).mono ?_); (case side1 => exact GG.below hG (by repeat (first | (with_reducible first | exact HB.out | apply below_alloc | apply pw_below_drewN | apply below_drew1 | refine below_set ?_ GE124.out) | exact HB.out))); rintro e w39 ⟨rfl, hb⟩; have n0_ := Aside0.mk (blk_below (g := gb124) (o := .cells #[.int .i64 a2_0, .int .i64 a2_1] 22 (0, 0)) (by (with_reducible repeat (first | refine blk_drewN ?_ _ | refine blk_drew ?_ | refine blk_alloc ?_ _)); exact BK124.out) hb); have n1_ := Aside0.mk (below_step (by repeat (first | (with_reducible first | exact HB.out | apply below_alloc | apply pw_below_drewN | apply below_drew1 | refine below_set ?_ GE124.out) | exact HB.out)) hb); clear BK124; clear HB; have BK124 := n0_; have HB := n1_; clear n0_ n1_; (try clear hb); (try clear hb2); (try clear hk); (try clear hi)))
                        go_meet
                        case rel => exact ⟨_, H', ⟨by have := HJ8.out; have := HJ18.out; have := HJ27.out; first | omega | exact Nat.le_refl _⟩, ⟨by (with_reducible repeat (first | refine blk_drewN ?_ _ | refine blk_drew ?_ | refine blk_alloc ?_ _)); exact BK124.out⟩, ⟨by repeat (first | (with_reducible first | exact HB.out | apply below_alloc | apply pw_below_drewN | apply below_drew1 | refine below_set ?_ GE124.out) | exact HB.out)⟩⟩
                      · rw [if_neg c38] at H
                        have c38b0 : (t129 == 0) = false := beq_eq_false_iff_ne.mpr c38
                        have c38b1 : (t129 != 0) = true := bne_iff_ne.mpr c38
                        obtain rfl := Option.some.inj H
                        have CA36 := fun W hG_ => radomelaw31_num.calls t130 t140 W hG_ A36.out
                        try simp only [errW_none, errW_some] at CA36
                        go_wp2_with (first | (go_at_call 12; (with_reducible refine (CA36 _ ?side1).mono ?_); (case side1 => exact GG.below hG (by repeat (first | (with_reducible first | exact HB.out | apply below_alloc | apply pw_below_drewN | apply below_drew1 | refine below_set ?_ GE124.out) | exact HB.out))); rintro e w40 ⟨rfl, hb⟩; have n0_ := Aside0.mk (blk_below (g := gb124) (o := .cells #[.int .i64 a2_0, .int .i64 a2_1] 22 (0, 0)) (by (with_reducible repeat (first | refine blk_drewN ?_ _ | refine blk_drew ?_ | refine blk_alloc ?_ _)); exact BK124.out) hb); have n1_ := Aside0.mk (below_step (by repeat (first | (with_reducible first | exact HB.out | apply below_alloc | apply pw_below_drewN | apply below_drew1 | refine below_set ?_ GE124.out) | exact HB.out)) hb); clear BK124; clear HB; have BK124 := n0_; have HB := n1_; clear n0_ n1_; (try clear hb); (try clear hb2); (try clear hk); (try clear hi)))
                        go_ret
                        exact ⟨by first | rfl | (simp [errW_none, errW_some] <;> rfl) | (simp [*, errW_none, errW_some] <;> rfl), by repeat (first | (with_reducible first | exact HB.out | apply below_alloc | apply pw_below_drewN | apply below_drew1 | refine below_set ?_ GE124.out) | exact HB.out)⟩
                    · rw [if_neg c37] at H
                      have c37b0 : (t140 == 1) = false := beq_eq_false_iff_ne.mpr c37
                      have c37b1 : (t140 != 1) = true := bne_iff_ne.mpr c37
                      (first | rw [c37b0] | (simp only [i64_w, i32_w]; rw [c37b0]) | skip)
                      obtain rfl := Option.some.inj H
                      have CA36 := fun W hG_ => radomelaw31_num.calls t130 t140 W hG_ A36.out
                      try simp only [errW_none, errW_some] at CA36
                      go_wp2_with (first | (go_at_call 12; (with_reducible refine (CA36 _ ?side1).mono ?_); (case side1 => exact GG.below hG (by repeat (first | (with_reducible first | exact HB.out | apply below_alloc | apply pw_below_drewN | apply below_drew1 | refine below_set ?_ GE124.out) | exact HB.out))); rintro e w41 ⟨rfl, hb⟩; have n0_ := Aside0.mk (blk_below (g := gb124) (o := .cells #[.int .i64 a2_0, .int .i64 a2_1] 22 (0, 0)) (by (with_reducible repeat (first | refine blk_drewN ?_ _ | refine blk_drew ?_ | refine blk_alloc ?_ _)); exact BK124.out) hb); have n1_ := Aside0.mk (below_step (by repeat (first | (with_reducible first | exact HB.out | apply below_alloc | apply pw_below_drewN | apply below_drew1 | refine below_set ?_ GE124.out) | exact HB.out)) hb); clear BK124; clear HB; have BK124 := n0_; have HB := n1_; clear n0_ n1_; (try clear hb); (try clear hb2); (try clear hk); (try clear hi)))
                      go_ret
                      exact ⟨by first | rfl | (simp [errW_none, errW_some] <;> rfl) | (simp [*, errW_none, errW_some] <;> rfl), by repeat (first | (with_reducible first | exact HB.out | apply below_alloc | apply pw_below_drewN | apply below_drew1 | refine below_set ?_ GE124.out) | exact HB.out)⟩
                  · replace c35 := Bool.eq_false_iff.mpr c35
                    subst c35
                    have H1 : (if t130.isNone = true then (if t129 = (Int.tmod (wrap64 ((wrap64 (a0 + a2_0)) + 11059200)) 11059200) then (radomelaw31_ClockAsks.j3 kj27 a0 a1 t125 t126) else (some false)) else (some false)) = some r := by rw [if_neg (show ¬ (false = true) by decide)] at H; exact H
                    clear H
                    have H := H1
                    clear H1
                    rcases t130 with _ | q141
                    · have H1 : (if t129 = (Int.tmod (wrap64 ((wrap64 (a0 + a2_0)) + 11059200)) 11059200) then (radomelaw31_ClockAsks.j3 kj27 a0 a1 t125 t126) else (some false)) = some r := by rw [if_pos (show (none : Option Int).isNone = true by rfl)] at H; exact H
                      clear H
                      have H := H1
                      clear H1
                      try simp only [errW_none, errW_some]
                      by_cases c42 : t129 = (Int.tmod (wrap64 ((wrap64 (a0 + a2_0)) + 11059200)) 11059200)
                      · rw [if_pos c42] at H
                        have c42b0 : (t129 == (Int.tmod (wrap64 ((wrap64 (a0 + a2_0)) + 11059200)) 11059200)) = true := beq_iff_eq.mpr c42
                        have c42b1 : (t129 != (Int.tmod (wrap64 ((wrap64 (a0 + a2_0)) + 11059200)) 11059200)) = false := bne_eq_false_iff_eq.mpr c42
                        clear c42
                        have H' := Aside0.mk H
                        clear H
                        have hcz43_0 : wc.cell? ⟨gb124, 0, none⟩ = some (.int .i64 a2_0) := (blk_cell BK124.out 0).trans rfl
                        have hcz43_1 : wc.cell? ⟨gb124, 1, none⟩ = some (.int .i64 a2_1) := (blk_cell BK124.out 1).trans rfl
                        have hfz43_0 := blk_frozen BK124.out 0
                        have hfz43_1 := blk_frozen BK124.out 1
                        go_wp2
                        go_meet
                        case rel => exact ⟨_, H', ⟨by have := HJ8.out; have := HJ18.out; have := HJ27.out; first | omega | exact Nat.le_refl _⟩, ⟨by (with_reducible repeat (first | refine blk_drewN ?_ _ | refine blk_drew ?_ | refine blk_alloc ?_ _)); exact BK124.out⟩, ⟨by repeat (first | (with_reducible first | exact HB.out | apply below_alloc | apply pw_below_drewN | apply below_drew1 | refine below_set ?_ GE124.out) | exact HB.out)⟩⟩
                      · rw [if_neg c42] at H
                        have c42b0 : (t129 == (Int.tmod (wrap64 ((wrap64 (a0 + a2_0)) + 11059200)) 11059200)) = false := beq_eq_false_iff_ne.mpr c42
                        have c42b1 : (t129 != (Int.tmod (wrap64 ((wrap64 (a0 + a2_0)) + 11059200)) 11059200)) = true := bne_iff_ne.mpr c42
                        obtain rfl := Option.some.inj H
                        have hcz44_0 : wc.cell? ⟨gb124, 0, none⟩ = some (.int .i64 a2_0) := (blk_cell BK124.out 0).trans rfl
                        have hcz44_1 : wc.cell? ⟨gb124, 1, none⟩ = some (.int .i64 a2_1) := (blk_cell BK124.out 1).trans rfl
                        have hfz44_0 := blk_frozen BK124.out 0
                        have hfz44_1 := blk_frozen BK124.out 1
                        go_wp2
                        go_ret
                        exact ⟨by first | rfl | (simp [errW_none, errW_some] <;> rfl) | (simp [*, errW_none, errW_some] <;> rfl), by repeat (first | (with_reducible first | exact HB.out | apply below_alloc | apply pw_below_drewN | apply below_drew1 | refine below_set ?_ GE124.out) | exact HB.out)⟩
                    · have H1 : (some false) = some r := by rw [if_neg (show ¬ (some q141).isNone = true by simp)] at H; exact H
                      clear H
                      have H := H1
                      clear H1
                      try simp only [errW_none, errW_some]
                      obtain rfl := Option.some.inj H
                      go_wp2
                      go_ret
                      exact ⟨by first | rfl | (simp [errW_none, errW_some] <;> rfl) | (simp [*, errW_none, errW_some] <;> rfl), by repeat (first | (with_reducible first | exact HB.out | apply below_alloc | apply pw_below_drewN | apply below_drew1 | refine below_set ?_ GE124.out) | exact HB.out)⟩
                case rest =>
                  clear HC34
                  try clear c1
                  try clear q1
                  try clear c2
                  try clear p2
                  try clear c3
                  try clear c4
                  try clear p6
                  try clear c7
                  try clear c8
                  try clear c9
                  try clear c10
                  try clear c11
                  try clear c13
                  try clear q13
                  try clear c14
                  try clear c14b0
                  try clear c14b1
                  try clear q14
                  try clear c17
                  try clear c20
                  try clear c21
                  try clear c21b0
                  try clear c21b1
                  try clear c23
                  try clear c23b0
                  try clear c23b1
                  try clear c24
                  try clear c24b0
                  try clear c24b1
                  try clear c30
                  try clear c31
                  try clear c31b0
                  try clear c35
                  try clear c37
                  try clear c37b0
                  try clear c37b1
                  try clear c38
                  try clear c38b0
                  try clear c38b1
                  try clear c42
                  try clear c42b0
                  try clear c42b1
                  try clear hcz11_0
                  try clear hcz11_1
                  try clear hcz13_0
                  try clear hcz13_1
                  try clear hcz32_0
                  try clear hcz32_1
                  try clear hcz33_0
                  try clear hcz33_1
                  try clear hcz43_0
                  try clear hcz43_1
                  try clear hcz44_0
                  try clear hcz44_1
                  try clear hfz11_0
                  try clear hfz11_1
                  try clear hfz13_0
                  try clear hfz13_1
                  try clear hfz32_0
                  try clear hfz32_1
                  try clear hfz33_0
                  try clear hfz33_1
                  try clear hfz43_0
                  try clear hfz43_1
                  try clear hfz44_0
                  try clear hfz44_1
                  try clear p2
                  try clear p6
                  try clear q1
                  try clear q13
                  try clear q137
                  try clear q141
                  obtain ⟨kq, HA, HJ33, BK124, HB⟩ := hcut
                  cases kq with
                  | zero => exact absurd HA.out (by simp [radomelaw31_ClockAsks.j3])
                  | succ kj33 =>
                    have H := HA.out
                    clear HA
                    simp only [radomelaw31_ClockAsks.j3] at H
                    have HC45 := Aside0.mk H
                    clear H
                    go_upto_region 18 with (fail)
                    go_cut [121] (fun v121 wc => ∃ (kq : Nat) (x121_44 : Bool), v121 = .bool x121_44 ∧ Aside0 (radomelaw31_ClockAsks.j4 kq a0 a1 t125 t126 x121_44 = some r) ∧ Aside0 (kq ≤ kj33) ∧ Aside0 (wc.heap[gb124]? = some (.cells #[.int .i64 a2_0, .int .i64 a2_1] 22 (0, 0))) ∧ Aside0 (Below w.heap.size w wc))
                    case first =>
                      have H := HC45.out
                      clear HC45
                      replace H := Option.bind_eq_some_iff.mp H
                      obtain ⟨t142, A460, H⟩ := H
                      replace H : (if t142 = true then ((radomeref31_Time.f a1).bind fun t143 => (radomelaw31_ClockAsks.j4 kj33 a0 a1 t125 t126 (!t143))) else (radomelaw31_ClockAsks.j4 kj33 a0 a1 t125 t126 true)) = some r := H
                      have A46 := Aside0.mk A460
                      clear A460
                      by_cases c47 : t142 = true
                      · subst c47
                        have H1 : ((radomeref31_Time.f a1).bind fun t143 => (radomelaw31_ClockAsks.j4 kj33 a0 a1 t125 t126 (!t143))) = some r := by rw [if_pos rfl] at H; exact H
                        clear H
                        have H := H1
                        clear H1
                        replace H := Option.bind_eq_some_iff.mp H
                        obtain ⟨t143, A480, H⟩ := H
                        replace H : (radomelaw31_ClockAsks.j4 kj33 a0 a1 t125 t126 (!t143)) = some r := H
                        have A48 := Aside0.mk A480
                        clear A480
                        have H' := Aside0.mk H
                        clear H
                        go_wp2_with (first | ((with_reducible refine gate_callee (f := 13) rfl ?_); refine goesL_ (some 115) rfl rfl Tryd.func13 (by kernel_rfl) rfl #[.int .i64 a0] rfl (by (try simp only [List.map_toArray, List.map_cons, List.map_nil]); first | done | rfl | (simp only [List.length_drop, List.length_take]; rfl)) ?_; (with_reducible refine (radomeref31_Time.calls a0 true _ A46.out).mono ?_); rintro e w' ⟨rfl, ⟨nd, rfl⟩⟩; refine ⟨_, rfl, ?_⟩) | (go_at_call 13; (with_reducible refine (radomeref31_Time.calls a1 t143 _ A48.out).mono ?_); rintro e w' ⟨rfl, ⟨nd, rfl⟩⟩))
                        go_meet
                        case rel => exact ⟨_, (!t143), (by first | rfl | (simp; done) | (simp [*]; done)), H', ⟨by have := HJ8.out; have := HJ18.out; have := HJ27.out; have := HJ33.out; first | omega | exact Nat.le_refl _⟩, ⟨by (with_reducible repeat (first | refine blk_drewN ?_ _ | refine blk_drew ?_ | refine blk_alloc ?_ _)); exact BK124.out⟩, ⟨by repeat (first | (with_reducible first | exact HB.out | apply below_alloc | apply pw_below_drewN | apply below_drew1 | refine below_set ?_ GE124.out) | exact HB.out)⟩⟩
                      · replace c47 := Bool.eq_false_iff.mpr c47
                        subst c47
                        have H1 : (radomelaw31_ClockAsks.j4 kj33 a0 a1 t125 t126 true) = some r := by rw [if_neg (show ¬ (false = true) by decide)] at H; exact H
                        clear H
                        have H := H1
                        clear H1
                        have H' := Aside0.mk H
                        clear H
                        go_wp2_with (first | ((with_reducible refine gate_callee (f := 13) rfl ?_); refine goesL_ (some 115) rfl rfl Tryd.func13 (by kernel_rfl) rfl #[.int .i64 a0] rfl (by (try simp only [List.map_toArray, List.map_cons, List.map_nil]); first | done | rfl | (simp only [List.length_drop, List.length_take]; rfl)) ?_; (with_reducible refine (radomeref31_Time.calls a0 false _ A46.out).mono ?_); rintro e w' ⟨rfl, ⟨nd, rfl⟩⟩; refine ⟨_, rfl, ?_⟩))
                        go_meet
                        case rel => exact ⟨_, (true), (by first | rfl | (simp; done) | (simp [*]; done)), H', ⟨by have := HJ8.out; have := HJ18.out; have := HJ27.out; have := HJ33.out; first | omega | exact Nat.le_refl _⟩, ⟨by (with_reducible repeat (first | refine blk_drewN ?_ _ | refine blk_drew ?_ | refine blk_alloc ?_ _)); exact BK124.out⟩, ⟨by repeat (first | (with_reducible first | exact HB.out | apply below_alloc | apply pw_below_drewN | apply below_drew1 | refine below_set ?_ GE124.out) | exact HB.out)⟩⟩
                    case rest =>
                      clear HC45
                      try clear c1
                      try clear q1
                      try clear c2
                      try clear p2
                      try clear c3
                      try clear c4
                      try clear p6
                      try clear c7
                      try clear c8
                      try clear c9
                      try clear c10
                      try clear c11
                      try clear c13
                      try clear q13
                      try clear c14
                      try clear c14b0
                      try clear c14b1
                      try clear q14
                      try clear c17
                      try clear c20
                      try clear c21
                      try clear c21b0
                      try clear c21b1
                      try clear c23
                      try clear c23b0
                      try clear c23b1
                      try clear c24
                      try clear c24b0
                      try clear c24b1
                      try clear c30
                      try clear c31
                      try clear c31b0
                      try clear c35
                      try clear c37
                      try clear c37b0
                      try clear c37b1
                      try clear c38
                      try clear c38b0
                      try clear c38b1
                      try clear c42
                      try clear c42b0
                      try clear c42b1
                      try clear c47
                      try clear hcz11_0
                      try clear hcz11_1
                      try clear hcz13_0
                      try clear hcz13_1
                      try clear hcz32_0
                      try clear hcz32_1
                      try clear hcz33_0
                      try clear hcz33_1
                      try clear hcz43_0
                      try clear hcz43_1
                      try clear hcz44_0
                      try clear hcz44_1
                      try clear hfz11_0
                      try clear hfz11_1
                      try clear hfz13_0
                      try clear hfz13_1
                      try clear hfz32_0
                      try clear hfz32_1
                      try clear hfz33_0
                      try clear hfz33_1
                      try clear hfz43_0
                      try clear hfz43_1
                      try clear hfz44_0
                      try clear hfz44_1
                      try clear p2
                      try clear p6
                      try clear q1
                      try clear q13
                      try clear q137
                      try clear q14
                      try clear q141
                      obtain ⟨kq, x121_44, rfl, HA, HJ44, BK124, HB⟩ := hcut
                      cases kq with
                      | zero => exact absurd HA.out (by simp [radomelaw31_ClockAsks.j4])
                      | succ kj44 =>
                        have H := HA.out
                        clear HA
                        simp only [radomelaw31_ClockAsks.j4] at H
                        by_cases c49 : x121_44 = true
                        · subst c49
                          have H1 : ((radomelaw31_num.f t126).bind fun t144 => (if t144 = 1 then (if t125 = 0 then ((radomelaw31_sure.f kj44).bind fun t145 => (some t145)) else (some false)) else (some false))) = some r := by rw [if_pos rfl] at H; exact H
                          clear H
                          have H := H1
                          clear H1
                          replace H := Option.bind_eq_some_iff.mp H
                          obtain ⟨t144, A500, H⟩ := H
                          replace H : (if t144 = 1 then (if t125 = 0 then ((radomelaw31_sure.f kj44).bind fun t145 => (some t145)) else (some false)) else (some false)) = some r := H
                          have A50 := Aside0.mk A500
                          clear A500
                          by_cases c51 : t144 = 1
                          · rw [if_pos c51] at H
                            have c51b0 : (t144 == 1) = true := beq_iff_eq.mpr c51
                            have c51b1 : (t144 != 1) = false := bne_eq_false_iff_eq.mpr c51
                            clear c51
                            by_cases c52 : t125 = 0
                            · rw [if_pos c52] at H
                              have c52b0 : (t125 == 0) = true := beq_iff_eq.mpr c52
                              have c52b1 : (t125 != 0) = false := bne_eq_false_iff_eq.mpr c52
                              clear c52
                              replace H := Option.bind_eq_some_iff.mp H
                              obtain ⟨t145, A530, H⟩ := H
                              replace H : (some t145) = some r := H
                              have A53 := Aside0.mk A530
                              clear A530
                              obtain rfl := Option.some.inj H
                              have CA50 := fun W hG_ => radomelaw31_num.calls t126 t144 W hG_ A50.out
                              try simp only [errW_none, errW_some] at CA50
                              go_wp2_with (first | (go_at_call 12; (with_reducible refine (CA50 _ ?side1).mono ?_); (case side1 => exact GG.below hG (by repeat (first | (with_reducible first | exact HB.out | apply below_alloc | apply pw_below_drewN | apply below_drew1 | refine below_set ?_ GE124.out) | exact HB.out))); rintro e w54 ⟨rfl, hb⟩; have n0_ := Aside0.mk (blk_below (g := gb124) (o := .cells #[.int .i64 a2_0, .int .i64 a2_1] 22 (0, 0)) (by (with_reducible repeat (first | refine blk_drewN ?_ _ | refine blk_drew ?_ | refine blk_alloc ?_ _)); exact BK124.out) hb); have n1_ := Aside0.mk (below_step (by repeat (first | (with_reducible first | exact HB.out | apply below_alloc | apply pw_below_drewN | apply below_drew1 | refine below_set ?_ GE124.out) | exact HB.out)) hb); clear BK124; clear HB; have BK124 := n0_; have HB := n1_; clear n0_ n1_; (try clear hb); (try clear hb2); (try clear hk); (try clear hi)) | (go_at_call 14; (with_reducible refine (radomelaw31_sure.calls kj44  t145 _ A53.out).mono ?_); rintro e w55 ⟨rfl, hb⟩; have n0_ := Aside0.mk (blk_below (g := gb124) (o := .cells #[.int .i64 a2_0, .int .i64 a2_1] 22 (0, 0)) (by (with_reducible repeat (first | refine blk_drewN ?_ _ | refine blk_drew ?_ | refine blk_alloc ?_ _)); exact BK124.out) hb); have n1_ := Aside0.mk (below_step (by repeat (first | (with_reducible first | exact HB.out | apply below_alloc | apply pw_below_drewN | apply below_drew1 | refine below_set ?_ GE124.out) | exact HB.out)) hb); clear BK124; clear HB; have BK124 := n0_; have HB := n1_; clear n0_ n1_; (try clear hb); (try clear hb2); (try clear hk); (try clear hi)))
                              go_ret
                              exact ⟨by first | rfl | (simp [errW_none, errW_some] <;> rfl) | (simp [*, errW_none, errW_some] <;> rfl), by repeat (first | (with_reducible first | exact HB.out | apply below_alloc | apply pw_below_drewN | apply below_drew1 | refine below_set ?_ GE124.out) | exact HB.out)⟩
                            · rw [if_neg c52] at H
                              have c52b0 : (t125 == 0) = false := beq_eq_false_iff_ne.mpr c52
                              have c52b1 : (t125 != 0) = true := bne_iff_ne.mpr c52
                              obtain rfl := Option.some.inj H
                              have CA50 := fun W hG_ => radomelaw31_num.calls t126 t144 W hG_ A50.out
                              try simp only [errW_none, errW_some] at CA50
                              go_wp2_with (first | (go_at_call 12; (with_reducible refine (CA50 _ ?side1).mono ?_); (case side1 => exact GG.below hG (by repeat (first | (with_reducible first | exact HB.out | apply below_alloc | apply pw_below_drewN | apply below_drew1 | refine below_set ?_ GE124.out) | exact HB.out))); rintro e w56 ⟨rfl, hb⟩; have n0_ := Aside0.mk (blk_below (g := gb124) (o := .cells #[.int .i64 a2_0, .int .i64 a2_1] 22 (0, 0)) (by (with_reducible repeat (first | refine blk_drewN ?_ _ | refine blk_drew ?_ | refine blk_alloc ?_ _)); exact BK124.out) hb); have n1_ := Aside0.mk (below_step (by repeat (first | (with_reducible first | exact HB.out | apply below_alloc | apply pw_below_drewN | apply below_drew1 | refine below_set ?_ GE124.out) | exact HB.out)) hb); clear BK124; clear HB; have BK124 := n0_; have HB := n1_; clear n0_ n1_; (try clear hb); (try clear hb2); (try clear hk); (try clear hi)))
                              go_ret
                              exact ⟨by first | rfl | (simp [errW_none, errW_some] <;> rfl) | (simp [*, errW_none, errW_some] <;> rfl), by repeat (first | (with_reducible first | exact HB.out | apply below_alloc | apply pw_below_drewN | apply below_drew1 | refine below_set ?_ GE124.out) | exact HB.out)⟩
                          · rw [if_neg c51] at H
                            have c51b0 : (t144 == 1) = false := beq_eq_false_iff_ne.mpr c51
                            have c51b1 : (t144 != 1) = true := bne_iff_ne.mpr c51
                            obtain rfl := Option.some.inj H
                            have CA50 := fun W hG_ => radomelaw31_num.calls t126 t144 W hG_ A50.out
                            try simp only [errW_none, errW_some] at CA50
                            go_wp2_with (first | (go_at_call 12; (with_reducible refine (CA50 _ ?side1).mono ?_); (case side1 => exact GG.below hG (by repeat (first | (with_reducible first | exact HB.out | apply below_alloc | apply pw_below_drewN | apply below_drew1 | refine below_set ?_ GE124.out) | exact HB.out))); rintro e w57 ⟨rfl, hb⟩; have n0_ := Aside0.mk (blk_below (g := gb124) (o := .cells #[.int .i64 a2_0, .int .i64 a2_1] 22 (0, 0)) (by (with_reducible repeat (first | refine blk_drewN ?_ _ | refine blk_drew ?_ | refine blk_alloc ?_ _)); exact BK124.out) hb); have n1_ := Aside0.mk (below_step (by repeat (first | (with_reducible first | exact HB.out | apply below_alloc | apply pw_below_drewN | apply below_drew1 | refine below_set ?_ GE124.out) | exact HB.out)) hb); clear BK124; clear HB; have BK124 := n0_; have HB := n1_; clear n0_ n1_; (try clear hb); (try clear hb2); (try clear hk); (try clear hi)))
                            go_ret
                            exact ⟨by first | rfl | (simp [errW_none, errW_some] <;> rfl) | (simp [*, errW_none, errW_some] <;> rfl), by repeat (first | (with_reducible first | exact HB.out | apply below_alloc | apply pw_below_drewN | apply below_drew1 | refine below_set ?_ GE124.out) | exact HB.out)⟩
                        · replace c49 := Bool.eq_false_iff.mpr c49
                          subst c49
                          have H1 : (if t126.isNone = true then ((radomeref31_Since.f kj44 a0 a1).bind fun t147 => (if t125 = t147 then ((radomelaw31_sure.f kj44).bind fun t148 => (some t148)) else (some false))) else (some false)) = some r := by rw [if_neg (show ¬ (false = true) by decide)] at H; exact H
                          clear H
                          have H := H1
                          clear H1
                          rcases t126 with _ | q146
                          · have H1 : ((radomeref31_Since.f kj44 a0 a1).bind fun t147 => (if t125 = t147 then ((radomelaw31_sure.f kj44).bind fun t148 => (some t148)) else (some false))) = some r := by rw [if_pos (show (none : Option Int).isNone = true by rfl)] at H; exact H
                            clear H
                            have H := H1
                            clear H1
                            try simp only [errW_none, errW_some]
                            replace H := Option.bind_eq_some_iff.mp H
                            obtain ⟨t147, A580, H⟩ := H
                            replace H : (if t125 = t147 then ((radomelaw31_sure.f kj44).bind fun t148 => (some t148)) else (some false)) = some r := H
                            have A58 := Aside0.mk A580
                            clear A580
                            by_cases c59 : t125 = t147
                            · rw [if_pos c59] at H
                              have c59b0 : (t125 == t147) = true := beq_iff_eq.mpr c59
                              have c59b1 : (t125 != t147) = false := bne_eq_false_iff_eq.mpr c59
                              clear c59
                              replace H := Option.bind_eq_some_iff.mp H
                              obtain ⟨t148, A600, H⟩ := H
                              replace H : (some t148) = some r := H
                              have A60 := Aside0.mk A600
                              clear A600
                              obtain rfl := Option.some.inj H
                              go_wp2_with (first | (go_at_call 15; (with_reducible refine (radomeref31_Since.calls kj44 a0 a1 t147 _ A58.out).mono ?_); rintro e w' ⟨rfl, ⟨nd, rfl⟩⟩) | (go_at_call 14; (with_reducible refine (radomelaw31_sure.calls kj44  t148 _ A60.out).mono ?_); rintro e w61 ⟨rfl, hb⟩; have n0_ := Aside0.mk (blk_below (g := gb124) (o := .cells #[.int .i64 a2_0, .int .i64 a2_1] 22 (0, 0)) (by (with_reducible repeat (first | refine blk_drewN ?_ _ | refine blk_drew ?_ | refine blk_alloc ?_ _)); exact BK124.out) hb); have n1_ := Aside0.mk (below_step (by repeat (first | (with_reducible first | exact HB.out | apply below_alloc | apply pw_below_drewN | apply below_drew1 | refine below_set ?_ GE124.out) | exact HB.out)) hb); clear BK124; clear HB; have BK124 := n0_; have HB := n1_; clear n0_ n1_; (try clear hb); (try clear hb2); (try clear hk); (try clear hi)))
                              go_ret
                              exact ⟨by first | rfl | (simp [errW_none, errW_some] <;> rfl) | (simp [*, errW_none, errW_some] <;> rfl), by repeat (first | (with_reducible first | exact HB.out | apply below_alloc | apply pw_below_drewN | apply below_drew1 | refine below_set ?_ GE124.out) | exact HB.out)⟩
                            · rw [if_neg c59] at H
                              have c59b0 : (t125 == t147) = false := beq_eq_false_iff_ne.mpr c59
                              have c59b1 : (t125 != t147) = true := bne_iff_ne.mpr c59
                              obtain rfl := Option.some.inj H
                              go_wp2_with (first | (go_at_call 15; (with_reducible refine (radomeref31_Since.calls kj44 a0 a1 t147 _ A58.out).mono ?_); rintro e w' ⟨rfl, ⟨nd, rfl⟩⟩))
                              go_ret
                              exact ⟨by first | rfl | (simp [errW_none, errW_some] <;> rfl) | (simp [*, errW_none, errW_some] <;> rfl), by repeat (first | (with_reducible first | exact HB.out | apply below_alloc | apply pw_below_drewN | apply below_drew1 | refine below_set ?_ GE124.out) | exact HB.out)⟩
                          · have H1 : (some false) = some r := by rw [if_neg (show ¬ (some q146).isNone = true by simp)] at H; exact H
                            clear H
                            have H := H1
                            clear H1
                            try simp only [errW_none, errW_some]
                            obtain rfl := Option.some.inj H
                            go_wp2
                            go_ret
                            exact ⟨by first | rfl | (simp [errW_none, errW_some] <;> rfl) | (simp [*, errW_none, errW_some] <;> rfl), by repeat (first | (with_reducible first | exact HB.out | apply below_alloc | apply pw_below_drewN | apply below_drew1 | refine below_set ?_ GE124.out) | exact HB.out)⟩

/-- THE ONE PURE STATEMENT of radomelaw31_ClockAsks. -/
def radomelaw31_ClockAsks.Pure : Prop := ∀ (a0 : Int) (a1 : Int) (a2_0 : Int) (a2_1 : Int), (Lit.int .i64 a0).wf = true → (Lit.int .i64 a1).wf = true → (Lit.int .i64 a2_0).wf = true → (Lit.int .i64 a2_1).wf = true → ∃ k, radomelaw31_ClockAsks.f k a0 a1 a2_0 a2_1 = some true
theorem radomelaw31_ClockAsks.walk (P : radomelaw31_ClockAsks.Pure) (a0 : Int) (a1 : Int) (a2_0 : Int) (a2_1 : Int) (w : World) (hG : GG w) (hv0 : (Lit.int .i64 a0).wf = true) (hv1 : (Lit.int .i64 a1).wf = true) (hv2_0 : (Lit.int .i64 a2_0).wf = true) (hv2_1 : (Lit.int .i64 a2_1).wf = true) :
    Calls Tryd.prog 3 #[.int .i64 a0, .int .i64 a1, .agg #[.int .i64 a2_0, .int .i64 a2_1]] w fun e w' => e = .returned (.bool true) ∧ Below w.heap.size w w' := by
  obtain ⟨k, h⟩ := P a0 a1 a2_0 a2_1 hv0 hv1 hv2_0 hv2_1
  refine (radomelaw31_ClockAsks.calls k a0 a1 a2_0 a2_1 true w hG h).mono ?_
  rintro e w' ⟨rfl, hd⟩
  exact ⟨rfl, hd⟩

end Go.Proofs.YtddcfnhbedpbnaaDoor.QClockAsks
