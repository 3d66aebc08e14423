/- A text of this session, written by a program (wip/k/gen.py): Go functions as Lean functions, and proofs that the code comes to them. -/
import Derived.Test.YtmnhbbckndlnkaaDoorGRLk8
import Derived.Test.YtmnhbbckndlnkaaDoorAs
namespace Go.Proofs.YtmnhbbckndlnkaaDoor.GRL
open Go Go.RowKit Go.Proofs.YtmnhbbckndlnkaaDoorK Go.Proofs.YtmnhbbckndlnkaaDoor
set_option linter.unusedVariables false
set_option linter.unusedSimpArgs false
def str_0 : ByteArray := ⟨#[]⟩
def str_1 : ByteArray := ⟨#[45]⟩
def str_2 : ByteArray := ⟨#[48]⟩
def str_3 : ByteArray := ⟨#[48, 49, 50, 51, 52, 53, 54, 55, 56, 57]⟩
def str_4 : ByteArray := ⟨#[0, 1, 2, 2, 3, 3, 3, 3, 4, 4, 4, 4, 4, 4, 4, 4, 5, 5, 5, 5, 5, 5, 5, 5, 5, 5, 5, 5, 5, 5, 5, 5, 6, 6, 6, 6, 6, 6, 6, 6, 6, 6, 6, 6, 6, 6, 6, 6, 6, 6, 6, 6, 6, 6, 6, 6, 6, 6, 6, 6, 6, 6, 6, 6, 7, 7, 7, 7, 7, 7, 7, 7, 7, 7, 7, 7, 7, 7, 7, 7, 7, 7, 7, 7, 7, 7, 7, 7, 7, 7, 7, 7, 7, 7, 7, 7, 7, 7, 7, 7, 7, 7, 7, 7, 7, 7, 7, 7, 7, 7, 7, 7, 7, 7, 7, 7, 7, 7, 7, 7, 7, 7, 7, 7, 7, 7, 7, 7, 8, 8, 8, 8, 8, 8, 8, 8, 8, 8, 8, 8, 8, 8, 8, 8, 8, 8, 8, 8, 8, 8, 8, 8, 8, 8, 8, 8, 8, 8, 8, 8, 8, 8, 8, 8, 8, 8, 8, 8, 8, 8, 8, 8, 8, 8, 8, 8, 8, 8, 8, 8, 8, 8, 8, 8, 8, 8, 8, 8, 8, 8, 8, 8, 8, 8, 8, 8, 8, 8, 8, 8, 8, 8, 8, 8, 8, 8, 8, 8, 8, 8, 8, 8, 8, 8, 8, 8, 8, 8, 8, 8, 8, 8, 8, 8, 8, 8, 8, 8, 8, 8, 8, 8, 8, 8, 8, 8, 8, 8, 8, 8, 8, 8, 8, 8, 8, 8, 8, 8, 8, 8, 8, 8, 8, 8, 8, 8]⟩
def str_5 : ByteArray := ⟨#[47]⟩
def str_6 : ByteArray := ⟨#[49, 47, 50]⟩
structure radomeref01_Num where
 f_Neg : Bool
 f_D : List Int
instance : Inhabited radomeref01_Num := ⟨⟨false, []⟩⟩
def k_radomeref01_Num : Kd radomeref01_Num := Kd.map (fun s => (s.f_Neg, s.f_D)) (Kd.pair Kd.bool (Kd.slice (Kd.int .i64)))
theorem k_radomeref01_Num_out {H : Hp} {cs : List Value} {x : radomeref01_Num} (h : k_radomeref01_Num.rep H cs x) : ∃ v0, cs = [.bool x.f_Neg, v0] ∧ Ro (Kd.int .i64) H v0 x.f_D := by
 obtain ⟨_, _, rfl, rfl, ⟨v0, rfl, h0⟩⟩ := (show ((Kd.pair Kd.bool (Kd.slice (Kd.int .i64)))).rep H cs ((x.f_Neg, x.f_D)) from h)
 exact ⟨v0, rfl, h0⟩
theorem k_radomeref01_Num_in {H : Hp} {v0 : Value} {x : radomeref01_Num} (h0 : Ro (Kd.int .i64) H v0 x.f_D) : k_radomeref01_Num.rep H [.bool x.f_Neg, v0] x :=
 (show ((Kd.pair Kd.bool (Kd.slice (Kd.int .i64)))).rep H _ ((x.f_Neg, x.f_D)) from ⟨[.bool x.f_Neg], [v0], rfl, rfl, ⟨v0, rfl, h0⟩⟩)
structure radomeref02_Ratio where
 f_N : radomeref01_Num
 f_D : radomeref01_Num
instance : Inhabited radomeref02_Ratio := ⟨⟨(⟨false, []⟩ : radomeref01_Num), (⟨false, []⟩ : radomeref01_Num)⟩⟩
def k_radomeref02_Ratio : Kd radomeref02_Ratio := Kd.map (fun s => (s.f_N, s.f_D)) (Kd.pair k_radomeref01_Num k_radomeref01_Num)
theorem k_radomeref02_Ratio_out {H : Hp} {cs : List Value} {x : radomeref02_Ratio} (h : k_radomeref02_Ratio.rep H cs x) : ∃ v0, ∃ v1, cs = [.bool x.f_N.f_Neg, v0, .bool x.f_D.f_Neg, v1] ∧ Ro (Kd.int .i64) H v0 x.f_N.f_D ∧ Ro (Kd.int .i64) H v1 x.f_D.f_D := by
 obtain ⟨_, _, rfl, q1, q2⟩ := (show ((Kd.pair k_radomeref01_Num k_radomeref01_Num)).rep H cs ((x.f_N, x.f_D)) from h)
 obtain ⟨v0, rfl, h0⟩ := k_radomeref01_Num_out q1
 obtain ⟨v1, rfl, h1⟩ := k_radomeref01_Num_out q2
 exact ⟨v0, v1, rfl, h0, h1⟩
theorem k_radomeref02_Ratio_in {H : Hp} {v0 : Value} {v1 : Value} {x : radomeref02_Ratio} (h0 : Ro (Kd.int .i64) H v0 x.f_N.f_D) (h1 : Ro (Kd.int .i64) H v1 x.f_D.f_D) : k_radomeref02_Ratio.rep H [.bool x.f_N.f_Neg, v0, .bool x.f_D.f_Neg, v1] x :=
 (show ((Kd.pair k_radomeref01_Num k_radomeref01_Num)).rep H _ ((x.f_N, x.f_D)) from ⟨[.bool x.f_N.f_Neg, v0], [.bool x.f_D.f_Neg, v1], rfl, (k_radomeref01_Num_in h0), (k_radomeref01_Num_in h1)⟩)
structure wide_Int where
 f_neg : Bool
 f_w : List Int
instance : Inhabited wide_Int := ⟨⟨false, []⟩⟩
def k_wide_Int : Kd wide_Int := Kd.map (fun s => (s.f_neg, s.f_w)) (Kd.pair Kd.bool (Kd.slice (Kd.int .u32)))
theorem k_wide_Int_out {H : Hp} {cs : List Value} {x : wide_Int} (h : k_wide_Int.rep H cs x) : ∃ v0, cs = [.bool x.f_neg, v0] ∧ Ro (Kd.int .u32) H v0 x.f_w := by
 obtain ⟨_, _, rfl, rfl, ⟨v0, rfl, h0⟩⟩ := (show ((Kd.pair Kd.bool (Kd.slice (Kd.int .u32)))).rep H cs ((x.f_neg, x.f_w)) from h)
 exact ⟨v0, rfl, h0⟩
theorem k_wide_Int_in {H : Hp} {v0 : Value} {x : wide_Int} (h0 : Ro (Kd.int .u32) H v0 x.f_w) : k_wide_Int.rep H [.bool x.f_neg, v0] x :=
 (show ((Kd.pair Kd.bool (Kd.slice (Kd.int .u32)))).rep H _ ((x.f_neg, x.f_w)) from ⟨[.bool x.f_neg], [v0], rfl, rfl, ⟨v0, rfl, h0⟩⟩)
structure ratio_Ratio where
 f_n : wide_Int
 f_d : wide_Int
instance : Inhabited ratio_Ratio := ⟨⟨(⟨false, []⟩ : wide_Int), (⟨false, []⟩ : wide_Int)⟩⟩
def k_ratio_Ratio : Kd ratio_Ratio := Kd.map (fun s => (s.f_n, s.f_d)) (Kd.pair k_wide_Int k_wide_Int)
theorem k_ratio_Ratio_out {H : Hp} {cs : List Value} {x : ratio_Ratio} (h : k_ratio_Ratio.rep H cs x) : ∃ v0, ∃ v1, cs = [.bool x.f_n.f_neg, v0, .bool x.f_d.f_neg, v1] ∧ Ro (Kd.int .u32) H v0 x.f_n.f_w ∧ Ro (Kd.int .u32) H v1 x.f_d.f_w := by
 obtain ⟨_, _, rfl, q1, q2⟩ := (show ((Kd.pair k_wide_Int k_wide_Int)).rep H cs ((x.f_n, x.f_d)) from h)
 obtain ⟨v0, rfl, h0⟩ := k_wide_Int_out q1
 obtain ⟨v1, rfl, h1⟩ := k_wide_Int_out q2
 exact ⟨v0, v1, rfl, h0, h1⟩
theorem k_ratio_Ratio_in {H : Hp} {v0 : Value} {v1 : Value} {x : ratio_Ratio} (h0 : Ro (Kd.int .u32) H v0 x.f_n.f_w) (h1 : Ro (Kd.int .u32) H v1 x.f_d.f_w) : k_ratio_Ratio.rep H [.bool x.f_n.f_neg, v0, .bool x.f_d.f_neg, v1] x :=
 (show ((Kd.pair k_wide_Int k_wide_Int)).rep H _ ((x.f_n, x.f_d)) from ⟨[.bool x.f_n.f_neg, v0], [.bool x.f_d.f_neg, v1], rfl, (k_wide_Int_in h0), (k_wide_Int_in h1)⟩)
structure T61 where
 e0 : List Int
 e1 : List Int
 e2 : List Int
 e3 : List Int
 e4 : List Int
 e5 : List Int
instance : Inhabited T61 := ⟨⟨[], [], [], [], [], []⟩⟩
def k_T61 : Kd T61 := Kd.map (fun s => (s.e0, (s.e1, (s.e2, (s.e3, (s.e4, s.e5)))))) (Kd.pair (Kd.slice (Kd.int .u8)) (Kd.pair (Kd.slice (Kd.int .u8)) (Kd.pair (Kd.slice (Kd.int .u8)) (Kd.pair (Kd.slice (Kd.int .u8)) (Kd.pair (Kd.slice (Kd.int .u8)) (Kd.slice (Kd.int .u8)))))))
theorem k_T61_out {H : Hp} {cs : List Value} {x : T61} (h : k_T61.rep H cs x) : ∃ v0, ∃ v1, ∃ v2, ∃ v3, ∃ v4, ∃ v5, cs = [v0, v1, v2, v3, v4, v5] ∧ Ro (Kd.int .u8) H v0 x.e0 ∧ Ro (Kd.int .u8) H v1 x.e1 ∧ Ro (Kd.int .u8) H v2 x.e2 ∧ Ro (Kd.int .u8) H v3 x.e3 ∧ Ro (Kd.int .u8) H v4 x.e4 ∧ Ro (Kd.int .u8) H v5 x.e5 := by
 obtain ⟨_, _, rfl, ⟨v0, rfl, h0⟩, ⟨_, _, rfl, ⟨v1, rfl, h1⟩, ⟨_, _, rfl, ⟨v2, rfl, h2⟩, ⟨_, _, rfl, ⟨v3, rfl, h3⟩, ⟨_, _, rfl, ⟨v4, rfl, h4⟩, ⟨v5, rfl, h5⟩⟩⟩⟩⟩⟩ := (show ((Kd.pair (Kd.slice (Kd.int .u8)) (Kd.pair (Kd.slice (Kd.int .u8)) (Kd.pair (Kd.slice (Kd.int .u8)) (Kd.pair (Kd.slice (Kd.int .u8)) (Kd.pair (Kd.slice (Kd.int .u8)) (Kd.slice (Kd.int .u8)))))))).rep H cs ((x.e0, (x.e1, (x.e2, (x.e3, (x.e4, x.e5)))))) from h)
 exact ⟨v0, v1, v2, v3, v4, v5, rfl, h0, h1, h2, h3, h4, h5⟩
theorem k_T61_in {H : Hp} {v0 : Value} {v1 : Value} {v2 : Value} {v3 : Value} {v4 : Value} {v5 : Value} {x : T61} (h0 : Ro (Kd.int .u8) H v0 x.e0) (h1 : Ro (Kd.int .u8) H v1 x.e1) (h2 : Ro (Kd.int .u8) H v2 x.e2) (h3 : Ro (Kd.int .u8) H v3 x.e3) (h4 : Ro (Kd.int .u8) H v4 x.e4) (h5 : Ro (Kd.int .u8) H v5 x.e5) : k_T61.rep H [v0, v1, v2, v3, v4, v5] x :=
 (show ((Kd.pair (Kd.slice (Kd.int .u8)) (Kd.pair (Kd.slice (Kd.int .u8)) (Kd.pair (Kd.slice (Kd.int .u8)) (Kd.pair (Kd.slice (Kd.int .u8)) (Kd.pair (Kd.slice (Kd.int .u8)) (Kd.slice (Kd.int .u8)))))))).rep H _ ((x.e0, (x.e1, (x.e2, (x.e3, (x.e4, x.e5)))))) from ⟨[v0], [v1, v2, v3, v4, v5], rfl, ⟨v0, rfl, h0⟩, ⟨[v1], [v2, v3, v4, v5], rfl, ⟨v1, rfl, h1⟩, ⟨[v2], [v3, v4, v5], rfl, ⟨v2, rfl, h2⟩, ⟨[v3], [v4, v5], rfl, ⟨v3, rfl, h3⟩, ⟨[v4], [v5], rfl, ⟨v4, rfl, h4⟩, ⟨v5, rfl, h5⟩⟩⟩⟩⟩⟩)
structure T62 where
 e0 : Bool
 e1 : Bool
 e2 : Bool
instance : Inhabited T62 := ⟨⟨false, false, false⟩⟩
def k_T62 : Kd T62 := Kd.map (fun s => (s.e0, (s.e1, s.e2))) (Kd.pair Kd.bool (Kd.pair Kd.bool Kd.bool))
theorem k_T62_out {H : Hp} {cs : List Value} {x : T62} (h : k_T62.rep H cs x) : cs = [.bool x.e0, .bool x.e1, .bool x.e2] := by
 obtain ⟨_, _, rfl, rfl, ⟨_, _, rfl, rfl, rfl⟩⟩ := (show ((Kd.pair Kd.bool (Kd.pair Kd.bool Kd.bool))).rep H cs ((x.e0, (x.e1, x.e2))) from h)
 rfl
theorem k_T62_in {H : Hp} {x : T62} : k_T62.rep H [.bool x.e0, .bool x.e1, .bool x.e2] x :=
 (show ((Kd.pair Kd.bool (Kd.pair Kd.bool Kd.bool))).rep H _ ((x.e0, (x.e1, x.e2))) from ⟨[.bool x.e0], [.bool x.e1, .bool x.e2], rfl, rfl, ⟨[.bool x.e1], [.bool x.e2], rfl, rfl, rfl⟩⟩)
theorem ty3 : TyA Tryd.prog 3 false 1 := ⟨⟨_, Tryd.underlying3, rfl⟩, by kernel_rfl⟩
theorem sz3 : (Tryd.prog.info? 3).map (·.size) = some 1 := by kernel_rfl
theorem zr3 : (Tryd.prog.info? 3).bind (·.zero) = some (.int .i64 0) := by kernel_rfl
theorem ti3 : TI Tryd.prog 3 1 8 (.int .i64 0) := ⟨by kernel_rfl⟩
theorem zp3 (H : Hp) : ((Kd.int .i64)).rep H (Value.cells (.int .i64 0)).toList 0 := rfl
theorem ty4 : TyA Tryd.prog 4 false 1 := ⟨⟨_, Tryd.underlying4, rfl⟩, by kernel_rfl⟩
theorem sz4 : (Tryd.prog.info? 4).map (·.size) = some 1 := by kernel_rfl
theorem zr4 : (Tryd.prog.info? 4).bind (·.zero) = some (.bool false) := by kernel_rfl
theorem ti4 : TI Tryd.prog 4 1 1 (.bool false) := ⟨by kernel_rfl⟩
theorem zp4 (H : Hp) : (Kd.bool).rep H (Value.cells (.bool false)).toList false := rfl
theorem ty5 : TyA Tryd.prog 5 false 1 := ⟨⟨_, Tryd.underlying5, rfl⟩, by kernel_rfl⟩
theorem sz5 : (Tryd.prog.info? 5).map (·.size) = some 1 := by kernel_rfl
theorem zr5 : (Tryd.prog.info? 5).bind (·.zero) = some (.int .u8 0) := by kernel_rfl
theorem ti5 : TI Tryd.prog 5 1 1 (.int .u8 0) := ⟨by kernel_rfl⟩
theorem zp5 (H : Hp) : ((Kd.int .u8)).rep H (Value.cells (.int .u8 0)).toList 0 := rfl
theorem ty22 : TyA Tryd.prog 22 false 1 := ⟨⟨_, Tryd.underlying22, rfl⟩, by kernel_rfl⟩
theorem sz22 : (Tryd.prog.info? 22).map (·.size) = some 1 := by kernel_rfl
theorem zr22 : (Tryd.prog.info? 22).bind (·.zero) = some (.slice none 0 0) := by kernel_rfl
theorem ti22 : TI Tryd.prog 22 1 24 (.slice none 0 0) := ⟨by kernel_rfl⟩
theorem zp22 (H : Hp) : ((Kd.slice (Kd.int .u8))).rep H (Value.cells (.slice none 0 0)).toList [] := ⟨_, rfl, ro_nil _ _⟩
theorem ty24 : TyA Tryd.prog 24 false 1 := ⟨⟨_, Tryd.underlying24, rfl⟩, by kernel_rfl⟩
theorem sz24 : (Tryd.prog.info? 24).map (·.size) = some 1 := by kernel_rfl
theorem zr24 : (Tryd.prog.info? 24).bind (·.zero) = some (.slice none 0 0) := by kernel_rfl
theorem ti24 : TI Tryd.prog 24 1 24 (.slice none 0 0) := ⟨by kernel_rfl⟩
theorem zp24 (H : Hp) : ((Kd.slice (Kd.int .i64))).rep H (Value.cells (.slice none 0 0)).toList [] := ⟨_, rfl, ro_nil _ _⟩
theorem ty26 : TyA Tryd.prog 26 true 2 := ⟨⟨_, Tryd.underlying26, rfl⟩, by kernel_rfl⟩
theorem sz26 : (Tryd.prog.info? 26).map (·.size) = some 2 := by kernel_rfl
theorem zr26 : (Tryd.prog.info? 26).bind (·.zero) = some (.agg #[.bool false, .slice none 0 0]) := by kernel_rfl
theorem ti26 : TI Tryd.prog 26 2 32 (.agg #[.bool false, .slice none 0 0]) := ⟨by kernel_rfl⟩
theorem zp26 (H : Hp) : (k_radomeref01_Num).rep H (Value.cells (.agg #[.bool false, .slice none 0 0])).toList (⟨false, []⟩ : radomeref01_Num) := k_radomeref01_Num_in (x := ⟨false, []⟩) (ro_nil _ _)
theorem ty28 : TyA Tryd.prog 28 false 1 := ⟨⟨_, Tryd.underlying28, rfl⟩, by kernel_rfl⟩
theorem sz28 : (Tryd.prog.info? 28).map (·.size) = some 1 := by kernel_rfl
theorem zr28 : (Tryd.prog.info? 28).bind (·.zero) = some (.slice none 0 0) := by kernel_rfl
theorem ti28 : TI Tryd.prog 28 1 24 (.slice none 0 0) := ⟨by kernel_rfl⟩
theorem zp28 (H : Hp) : ((Kd.slice (Kd.int .u32))).rep H (Value.cells (.slice none 0 0)).toList [] := ⟨_, rfl, ro_nil _ _⟩
theorem ty30 : TyA Tryd.prog 30 true 2 := ⟨⟨_, Tryd.underlying30, rfl⟩, by kernel_rfl⟩
theorem sz30 : (Tryd.prog.info? 30).map (·.size) = some 2 := by kernel_rfl
theorem zr30 : (Tryd.prog.info? 30).bind (·.zero) = some (.agg #[.bool false, .slice none 0 0]) := by kernel_rfl
theorem ti30 : TI Tryd.prog 30 2 32 (.agg #[.bool false, .slice none 0 0]) := ⟨by kernel_rfl⟩
theorem zp30 (H : Hp) : (k_wide_Int).rep H (Value.cells (.agg #[.bool false, .slice none 0 0])).toList (⟨false, []⟩ : wide_Int) := k_wide_Int_in (x := ⟨false, []⟩) (ro_nil _ _)
theorem ty64 : TyA Tryd.prog 64 true 4 := ⟨⟨_, Tryd.underlying64, rfl⟩, by kernel_rfl⟩
theorem sz64 : (Tryd.prog.info? 64).map (·.size) = some 4 := by kernel_rfl
theorem zr64 : (Tryd.prog.info? 64).bind (·.zero) = some (.agg #[.bool false, .slice none 0 0, .bool false, .slice none 0 0]) := by kernel_rfl
theorem ti64 : TI Tryd.prog 64 4 64 (.agg #[.bool false, .slice none 0 0, .bool false, .slice none 0 0]) := ⟨by kernel_rfl⟩
theorem zp64 (H : Hp) : (k_ratio_Ratio).rep H (Value.cells (.agg #[.bool false, .slice none 0 0, .bool false, .slice none 0 0])).toList (⟨(⟨false, []⟩ : wide_Int), (⟨false, []⟩ : wide_Int)⟩ : ratio_Ratio) := k_ratio_Ratio_in (x := ⟨⟨false, []⟩, ⟨false, []⟩⟩) (ro_nil _ _) (ro_nil _ _)
theorem ty67 : TyA Tryd.prog 67 true 4 := ⟨⟨_, Tryd.underlying67, rfl⟩, by kernel_rfl⟩
theorem sz67 : (Tryd.prog.info? 67).map (·.size) = some 4 := by kernel_rfl
theorem zr67 : (Tryd.prog.info? 67).bind (·.zero) = some (.agg #[.bool false, .slice none 0 0, .bool false, .slice none 0 0]) := by kernel_rfl
theorem ti67 : TI Tryd.prog 67 4 64 (.agg #[.bool false, .slice none 0 0, .bool false, .slice none 0 0]) := ⟨by kernel_rfl⟩
theorem zp67 (H : Hp) : (k_radomeref02_Ratio).rep H (Value.cells (.agg #[.bool false, .slice none 0 0, .bool false, .slice none 0 0])).toList (⟨(⟨false, []⟩ : radomeref01_Num), (⟨false, []⟩ : radomeref01_Num)⟩ : radomeref02_Ratio) := k_radomeref02_Ratio_in (x := ⟨⟨false, []⟩, ⟨false, []⟩⟩) (ro_nil _ _) (ro_nil _ _)
theorem ty93 : TyA Tryd.prog 93 false 1 := ⟨⟨_, Tryd.underlying93, rfl⟩, by kernel_rfl⟩
theorem sz93 : (Tryd.prog.info? 93).map (·.size) = some 1 := by kernel_rfl
theorem zr93 : (Tryd.prog.info? 93).bind (·.zero) = some (.int .u32 0) := by kernel_rfl
theorem ti93 : TI Tryd.prog 93 1 4 (.int .u32 0) := ⟨by kernel_rfl⟩
theorem zp93 (H : Hp) : ((Kd.int .u32)).rep H (Value.cells (.int .u32 0)).toList 0 := rfl
theorem co9 : CallOk Tryd.prog 9 := ⟨_, Tryd.func9, by decide, rfl⟩
theorem co10 : CallOk Tryd.prog 10 := ⟨_, Tryd.func10, by decide, rfl⟩
theorem co11 : CallOk Tryd.prog 11 := ⟨_, Tryd.func11, by decide, rfl⟩
theorem co13 : CallOk Tryd.prog 13 := ⟨_, Tryd.func13, by decide, rfl⟩
theorem co14 : CallOk Tryd.prog 14 := ⟨_, Tryd.func14, by decide, rfl⟩
theorem co15 : CallOk Tryd.prog 15 := ⟨_, Tryd.func15, by decide, rfl⟩
theorem co16 : CallOk Tryd.prog 16 := ⟨_, Tryd.func16, by decide, rfl⟩
theorem co18 : CallOk Tryd.prog 18 := ⟨_, Tryd.func18, by decide, rfl⟩
theorem co19 : CallOk Tryd.prog 19 := ⟨_, Tryd.func19, by decide, rfl⟩
theorem co20 : CallOk Tryd.prog 20 := ⟨_, Tryd.func20, by decide, rfl⟩
theorem co21 : CallOk Tryd.prog 21 := ⟨_, Tryd.func21, by decide, rfl⟩
theorem co22 : CallOk Tryd.prog 22 := ⟨_, Tryd.func22, by decide, rfl⟩
theorem co25 : CallOk Tryd.prog 25 := ⟨_, Tryd.func25, by decide, rfl⟩
theorem co27 : CallOk Tryd.prog 27 := ⟨_, Tryd.func27, by decide, rfl⟩
theorem co28 : CallOk Tryd.prog 28 := ⟨_, Tryd.func28, by decide, rfl⟩
theorem co31 : CallOk Tryd.prog 31 := ⟨_, Tryd.func31, by decide, rfl⟩
theorem co32 : CallOk Tryd.prog 32 := ⟨_, Tryd.func32, by decide, rfl⟩
theorem co33 : CallOk Tryd.prog 33 := ⟨_, Tryd.func33, by decide, rfl⟩
theorem co34 : CallOk Tryd.prog 34 := ⟨_, Tryd.func34, by decide, rfl⟩
theorem co35 : CallOk Tryd.prog 35 := ⟨_, Tryd.func35, by decide, rfl⟩
theorem co36 : CallOk Tryd.prog 36 := ⟨_, Tryd.func36, by decide, rfl⟩
theorem co37 : CallOk Tryd.prog 37 := ⟨_, Tryd.func37, by decide, rfl⟩
theorem co38 : CallOk Tryd.prog 38 := ⟨_, Tryd.func38, by decide, rfl⟩
theorem co39 : CallOk Tryd.prog 39 := ⟨_, Tryd.func39, by decide, rfl⟩
theorem co40 : CallOk Tryd.prog 40 := ⟨_, Tryd.func40, by decide, rfl⟩
theorem co41 : CallOk Tryd.prog 41 := ⟨_, Tryd.func41, by decide, rfl⟩
theorem co42 : CallOk Tryd.prog 42 := ⟨_, Tryd.func42, by decide, rfl⟩
theorem co43 : CallOk Tryd.prog 43 := ⟨_, Tryd.func43, by decide, rfl⟩
theorem co44 : CallOk Tryd.prog 44 := ⟨_, Tryd.func44, by decide, rfl⟩
theorem co45 : CallOk Tryd.prog 45 := ⟨_, Tryd.func45, by decide, rfl⟩
theorem co46 : CallOk Tryd.prog 46 := ⟨_, Tryd.func46, by decide, rfl⟩
theorem co47 : CallOk Tryd.prog 47 := ⟨_, Tryd.func47, by decide, rfl⟩
theorem co48 : CallOk Tryd.prog 48 := ⟨_, Tryd.func48, by decide, rfl⟩
theorem co49 : CallOk Tryd.prog 49 := ⟨_, Tryd.func49, by decide, rfl⟩
theorem co50 : CallOk Tryd.prog 50 := ⟨_, Tryd.func50, by decide, rfl⟩
theorem co51 : CallOk Tryd.prog 51 := ⟨_, Tryd.func51, by decide, rfl⟩
theorem co52 : CallOk Tryd.prog 52 := ⟨_, Tryd.func52, by decide, rfl⟩
theorem co53 : CallOk Tryd.prog 53 := ⟨_, Tryd.func53, by decide, rfl⟩
theorem co54 : CallOk Tryd.prog 54 := ⟨_, Tryd.func54, by decide, rfl⟩
theorem co55 : CallOk Tryd.prog 55 := ⟨_, Tryd.func55, by decide, rfl⟩
theorem co56 : CallOk Tryd.prog 56 := ⟨_, Tryd.func56, by decide, rfl⟩
theorem co57 : CallOk Tryd.prog 57 := ⟨_, Tryd.func57, by decide, rfl⟩
theorem co58 : CallOk Tryd.prog 58 := ⟨_, Tryd.func58, by decide, rfl⟩
theorem co60 : CallOk Tryd.prog 60 := ⟨_, Tryd.func60, by decide, rfl⟩
theorem co61 : CallOk Tryd.prog 61 := ⟨_, Tryd.func61, by decide, rfl⟩
theorem co62 : CallOk Tryd.prog 62 := ⟨_, Tryd.func62, by decide, rfl⟩
theorem co63 : CallOk Tryd.prog 63 := ⟨_, Tryd.func63, by decide, rfl⟩
theorem co64 : CallOk Tryd.prog 64 := ⟨_, Tryd.func64, by decide, rfl⟩
theorem co65 : CallOk Tryd.prog 65 := ⟨_, Tryd.func65, by decide, rfl⟩
theorem co66 : CallOk Tryd.prog 66 := ⟨_, Tryd.func66, by decide, rfl⟩
theorem co67 : CallOk Tryd.prog 67 := ⟨_, Tryd.func67, by decide, rfl⟩
theorem co68 : CallOk Tryd.prog 68 := ⟨_, Tryd.func68, by decide, rfl⟩
theorem co69 : CallOk Tryd.prog 69 := ⟨_, Tryd.func69, by decide, rfl⟩
theorem co70 : CallOk Tryd.prog 70 := ⟨_, Tryd.func70, by decide, rfl⟩
theorem co71 : CallOk Tryd.prog 71 := ⟨_, Tryd.func71, by decide, rfl⟩
theorem co72 : CallOk Tryd.prog 72 := ⟨_, Tryd.func72, by decide, rfl⟩
theorem co73 : CallOk Tryd.prog 73 := ⟨_, Tryd.func73, by decide, rfl⟩
theorem co74 : CallOk Tryd.prog 74 := ⟨_, Tryd.func74, by decide, rfl⟩
theorem co75 : CallOk Tryd.prog 75 := ⟨_, Tryd.func75, by decide, rfl⟩
theorem co76 : CallOk Tryd.prog 76 := ⟨_, Tryd.func76, by decide, rfl⟩
theorem co77 : CallOk Tryd.prog 77 := ⟨_, Tryd.func77, by decide, rfl⟩
theorem co78 : CallOk Tryd.prog 78 := ⟨_, Tryd.func78, by decide, rfl⟩
theorem co79 : CallOk Tryd.prog 79 := ⟨_, Tryd.func79, by decide, rfl⟩
theorem co80 : CallOk Tryd.prog 80 := ⟨_, Tryd.func80, by decide, rfl⟩
theorem co81 : CallOk Tryd.prog 81 := ⟨_, Tryd.func81, by decide, rfl⟩
theorem co82 : CallOk Tryd.prog 82 := ⟨_, Tryd.func82, by decide, rfl⟩
theorem co87 : CallOk Tryd.prog 87 := ⟨_, Tryd.func87, by decide, rfl⟩
theorem co88 : CallOk Tryd.prog 88 := ⟨_, Tryd.func88, by decide, rfl⟩
theorem co89 : CallOk Tryd.prog 89 := ⟨_, Tryd.func89, by decide, rfl⟩
theorem co90 : CallOk Tryd.prog 90 := ⟨_, Tryd.func90, by decide, rfl⟩
theorem co91 : CallOk Tryd.prog 91 := ⟨_, Tryd.func91, by decide, rfl⟩
theorem co92 : CallOk Tryd.prog 92 := ⟨_, Tryd.func92, by decide, rfl⟩
theorem co93 : CallOk Tryd.prog 93 := ⟨_, Tryd.func93, by decide, rfl⟩
theorem fn_6 : Tryd.prog.funcs[6]? = some Tryd.f6 := Tryd.func6
theorem rs_6 : Tryd.f6.results = ⟨[.tmp 4]⟩ := rfl
theorem nt_6 : Tryd.f6.ntmps = 230 := rfl
theorem fn_9 : Tryd.prog.funcs[9]? = some Tryd.f9 := Tryd.func9
theorem rs_9 : Tryd.f9.results = ⟨[.cell 4 30, .tmp 5]⟩ := rfl
theorem nt_9 : Tryd.f9.ntmps = 39 := rfl
theorem fn_10 : Tryd.prog.funcs[10]? = some Tryd.f10 := Tryd.func10
theorem rs_10 : Tryd.f10.results = ⟨[.cell 4 30, .tmp 5]⟩ := rfl
theorem nt_10 : Tryd.f10.ntmps = 12 := rfl
theorem fn_11 : Tryd.prog.funcs[11]? = some Tryd.f11 := Tryd.func11
theorem rs_11 : Tryd.f11.results = ⟨[.cell 4 30, .tmp 5]⟩ := rfl
theorem nt_11 : Tryd.f11.ntmps = 19 := rfl
theorem fn_13 : Tryd.prog.funcs[13]? = some Tryd.f13 := Tryd.func13
theorem rs_13 : Tryd.f13.results = ⟨[.cell 4 26]⟩ := rfl
theorem nt_13 : Tryd.f13.ntmps = 39 := rfl
theorem fn_14 : Tryd.prog.funcs[14]? = some Tryd.f14 := Tryd.func14
theorem rs_14 : Tryd.f14.results = ⟨[.cell 4 26]⟩ := rfl
theorem nt_14 : Tryd.f14.ntmps = 9 := rfl
theorem fn_15 : Tryd.prog.funcs[15]? = some Tryd.f15 := Tryd.func15
theorem rs_15 : Tryd.f15.results = ⟨[.cell 4 26]⟩ := rfl
theorem nt_15 : Tryd.f15.ntmps = 76 := rfl
theorem fn_16 : Tryd.prog.funcs[16]? = some Tryd.f16 := Tryd.func16
theorem rs_16 : Tryd.f16.results = ⟨[.tmp 4]⟩ := rfl
theorem nt_16 : Tryd.f16.ntmps = 33 := rfl
theorem fn_18 : Tryd.prog.funcs[18]? = some Tryd.f18 := Tryd.func18
theorem rs_18 : Tryd.f18.results = ⟨[.tmp 2]⟩ := rfl
theorem nt_18 : Tryd.f18.ntmps = 11 := rfl
theorem fn_19 : Tryd.prog.funcs[19]? = some Tryd.f19 := Tryd.func19
theorem rs_19 : Tryd.f19.results = ⟨[.tmp 2]⟩ := rfl
theorem nt_19 : Tryd.f19.ntmps = 9 := rfl
theorem fn_20 : Tryd.prog.funcs[20]? = some Tryd.f20 := Tryd.func20
theorem rs_20 : Tryd.f20.results = ⟨[.cell 2 30]⟩ := rfl
theorem nt_20 : Tryd.f20.ntmps = 15 := rfl
theorem fn_21 : Tryd.prog.funcs[21]? = some Tryd.f21 := Tryd.func21
theorem rs_21 : Tryd.f21.results = ⟨[.cell 2 26]⟩ := rfl
theorem nt_21 : Tryd.f21.ntmps = 9 := rfl
theorem fn_22 : Tryd.prog.funcs[22]? = some Tryd.f22 := Tryd.func22
theorem rs_22 : Tryd.f22.results = ⟨[.cell 4 30, .cell 5 30, .tmp 6]⟩ := rfl
theorem nt_22 : Tryd.f22.ntmps = 77 := rfl
theorem fn_25 : Tryd.prog.funcs[25]? = some Tryd.f25 := Tryd.func25
theorem rs_25 : Tryd.f25.results = ⟨[.cell 4 26, .cell 5 26]⟩ := rfl
theorem nt_25 : Tryd.f25.ntmps = 79 := rfl
theorem fn_27 : Tryd.prog.funcs[27]? = some Tryd.f27 := Tryd.func27
theorem rs_27 : Tryd.f27.results = ⟨[.cell 4 30, .tmp 5]⟩ := rfl
theorem nt_27 : Tryd.f27.ntmps = 109 := rfl
theorem fn_28 : Tryd.prog.funcs[28]? = some Tryd.f28 := Tryd.func28
theorem rs_28 : Tryd.f28.results = ⟨[.cell 2 30]⟩ := rfl
theorem nt_28 : Tryd.f28.ntmps = 20 := rfl
theorem fn_31 : Tryd.prog.funcs[31]? = some Tryd.f31 := Tryd.func31
theorem rs_31 : Tryd.f31.results = ⟨[.cell 2 64]⟩ := rfl
theorem nt_31 : Tryd.f31.ntmps = 16 := rfl
theorem fn_32 : Tryd.prog.funcs[32]? = some Tryd.f32 := Tryd.func32
theorem rs_32 : Tryd.f32.results = ⟨[.cell 6 67]⟩ := rfl
theorem nt_32 : Tryd.f32.ntmps = 21 := rfl
theorem fn_33 : Tryd.prog.funcs[33]? = some Tryd.f33 := Tryd.func33
theorem rs_33 : Tryd.f33.results = ⟨[.cell 4 64, .tmp 5]⟩ := rfl
theorem nt_33 : Tryd.f33.ntmps = 11 := rfl
theorem fn_34 : Tryd.prog.funcs[34]? = some Tryd.f34 := Tryd.func34
theorem rs_34 : Tryd.f34.results = ⟨[.cell 4 64, .tmp 5]⟩ := rfl
theorem nt_34 : Tryd.f34.ntmps = 17 := rfl
theorem fn_35 : Tryd.prog.funcs[35]? = some Tryd.f35 := Tryd.func35
theorem rs_35 : Tryd.f35.results = ⟨[.cell 4 64, .tmp 5]⟩ := rfl
theorem nt_35 : Tryd.f35.ntmps = 11 := rfl
theorem fn_36 : Tryd.prog.funcs[36]? = some Tryd.f36 := Tryd.func36
theorem rs_36 : Tryd.f36.results = ⟨[.tmp 2]⟩ := rfl
theorem nt_36 : Tryd.f36.ntmps = 11 := rfl
theorem fn_37 : Tryd.prog.funcs[37]? = some Tryd.f37 := Tryd.func37
theorem rs_37 : Tryd.f37.results = ⟨[.tmp 4, .tmp 5]⟩ := rfl
theorem nt_37 : Tryd.f37.ntmps = 102 := rfl
theorem fn_39 : Tryd.prog.funcs[39]? = some Tryd.f39 := Tryd.func39
theorem rs_39 : Tryd.f39.results = ⟨[.tmp 0]⟩ := rfl
theorem nt_39 : Tryd.f39.ntmps = 68 := rfl
theorem fn_40 : Tryd.prog.funcs[40]? = some Tryd.f40 := Tryd.func40
theorem rs_40 : Tryd.f40.results = ⟨[.cell 4 64, .tmp 5]⟩ := rfl
theorem nt_40 : Tryd.f40.ntmps = 32 := rfl
theorem fn_41 : Tryd.prog.funcs[41]? = some Tryd.f41 := Tryd.func41
theorem rs_41 : Tryd.f41.results = ⟨[.cell 2 30, .cell 3 30]⟩ := rfl
theorem nt_41 : Tryd.f41.ntmps = 8 := rfl
theorem fn_42 : Tryd.prog.funcs[42]? = some Tryd.f42 := Tryd.func42
theorem rs_42 : Tryd.f42.results = ⟨[.cell 2 26]⟩ := rfl
theorem nt_42 : Tryd.f42.ntmps = 25 := rfl
theorem fn_43 : Tryd.prog.funcs[43]? = some Tryd.f43 := Tryd.func43
theorem rs_43 : Tryd.f43.results = ⟨[.cell 2 30, .tmp 3]⟩ := rfl
theorem nt_43 : Tryd.f43.ntmps = 56 := rfl
theorem fn_44 : Tryd.prog.funcs[44]? = some Tryd.f44 := Tryd.func44
theorem rs_44 : Tryd.f44.results = ⟨[.tmp 2]⟩ := rfl
theorem nt_44 : Tryd.f44.ntmps = 35 := rfl
theorem fn_45 : Tryd.prog.funcs[45]? = some Tryd.f45 := Tryd.func45
theorem rs_45 : Tryd.f45.results = ⟨[.cell 4 30, .tmp 5]⟩ := rfl
theorem nt_45 : Tryd.f45.ntmps = 21 := rfl
theorem fn_46 : Tryd.prog.funcs[46]? = some Tryd.f46 := Tryd.func46
theorem rs_46 : Tryd.f46.results = ⟨[.tmp 4]⟩ := rfl
theorem nt_46 : Tryd.f46.ntmps = 56 := rfl
theorem fn_47 : Tryd.prog.funcs[47]? = some Tryd.f47 := Tryd.func47
theorem rs_47 : Tryd.f47.results = ⟨[.tmp 4]⟩ := rfl
theorem nt_47 : Tryd.f47.ntmps = 35 := rfl
theorem fn_48 : Tryd.prog.funcs[48]? = some Tryd.f48 := Tryd.func48
theorem rs_48 : Tryd.f48.results = ⟨[.tmp 4]⟩ := rfl
theorem nt_48 : Tryd.f48.ntmps = 43 := rfl
theorem fn_49 : Tryd.prog.funcs[49]? = some Tryd.f49 := Tryd.func49
theorem rs_49 : Tryd.f49.results = ⟨[.tmp 4]⟩ := rfl
theorem nt_49 : Tryd.f49.ntmps = 67 := rfl
theorem fn_50 : Tryd.prog.funcs[50]? = some Tryd.f50 := Tryd.func50
theorem rs_50 : Tryd.f50.results = ⟨[.tmp 2]⟩ := rfl
theorem nt_50 : Tryd.f50.ntmps = 52 := rfl
theorem fn_51 : Tryd.prog.funcs[51]? = some Tryd.f51 := Tryd.func51
theorem rs_51 : Tryd.f51.results = ⟨[.cell 4 26]⟩ := rfl
theorem nt_51 : Tryd.f51.ntmps = 13 := rfl
theorem fn_52 : Tryd.prog.funcs[52]? = some Tryd.f52 := Tryd.func52
theorem rs_52 : Tryd.f52.results = ⟨[.tmp 4]⟩ := rfl
theorem nt_52 : Tryd.f52.ntmps = 52 := rfl
theorem fn_53 : Tryd.prog.funcs[53]? = some Tryd.f53 := Tryd.func53
theorem rs_53 : Tryd.f53.results = ⟨[.tmp 4]⟩ := rfl
theorem nt_53 : Tryd.f53.ntmps = 41 := rfl
theorem fn_54 : Tryd.prog.funcs[54]? = some Tryd.f54 := Tryd.func54
theorem rs_54 : Tryd.f54.results = ⟨[.tmp 4]⟩ := rfl
theorem nt_54 : Tryd.f54.ntmps = 41 := rfl
theorem fn_55 : Tryd.prog.funcs[55]? = some Tryd.f55 := Tryd.func55
theorem rs_55 : Tryd.f55.results = ⟨[.tmp 2]⟩ := rfl
theorem nt_55 : Tryd.f55.ntmps = 21 := rfl
theorem fn_56 : Tryd.prog.funcs[56]? = some Tryd.f56 := Tryd.func56
theorem rs_56 : Tryd.f56.results = ⟨[.tmp 4]⟩ := rfl
theorem nt_56 : Tryd.f56.ntmps = 20 := rfl
theorem fn_57 : Tryd.prog.funcs[57]? = some Tryd.f57 := Tryd.func57
theorem rs_57 : Tryd.f57.results = ⟨[.tmp 4, .tmp 5]⟩ := rfl
theorem nt_57 : Tryd.f57.ntmps = 86 := rfl
theorem fn_58 : Tryd.prog.funcs[58]? = some Tryd.f58 := Tryd.func58
theorem rs_58 : Tryd.f58.results = ⟨[.tmp 2]⟩ := rfl
theorem nt_58 : Tryd.f58.ntmps = 8 := rfl
theorem fn_60 : Tryd.prog.funcs[60]? = some Tryd.f60 := Tryd.func60
theorem rs_60 : Tryd.f60.results = ⟨[.tmp 4]⟩ := rfl
theorem nt_60 : Tryd.f60.ntmps = 40 := rfl
theorem fn_61 : Tryd.prog.funcs[61]? = some Tryd.f61 := Tryd.func61
theorem rs_61 : Tryd.f61.results = ⟨[.tmp 4]⟩ := rfl
theorem nt_61 : Tryd.f61.ntmps = 9 := rfl
theorem fn_62 : Tryd.prog.funcs[62]? = some Tryd.f62 := Tryd.func62
theorem rs_62 : Tryd.f62.results = ⟨[.tmp 2]⟩ := rfl
theorem nt_62 : Tryd.f62.ntmps = 5 := rfl
theorem fn_63 : Tryd.prog.funcs[63]? = some Tryd.f63 := Tryd.func63
theorem rs_63 : Tryd.f63.results = ⟨[.tmp 4]⟩ := rfl
theorem nt_63 : Tryd.f63.ntmps = 44 := rfl
theorem fn_64 : Tryd.prog.funcs[64]? = some Tryd.f64 := Tryd.func64
theorem rs_64 : Tryd.f64.results = ⟨[.tmp 2]⟩ := rfl
theorem nt_64 : Tryd.f64.ntmps = 21 := rfl
theorem fn_65 : Tryd.prog.funcs[65]? = some Tryd.f65 := Tryd.func65
theorem rs_65 : Tryd.f65.results = ⟨[.cell 4 64, .tmp 5]⟩ := rfl
theorem nt_65 : Tryd.f65.ntmps = 60 := rfl
theorem fn_66 : Tryd.prog.funcs[66]? = some Tryd.f66 := Tryd.func66
theorem rs_66 : Tryd.f66.results = ⟨[.cell 2 30]⟩ := rfl
theorem nt_66 : Tryd.f66.ntmps = 12 := rfl
theorem fn_67 : Tryd.prog.funcs[67]? = some Tryd.f67 := Tryd.func67
theorem rs_67 : Tryd.f67.results = ⟨[.cell 6 26]⟩ := rfl
theorem nt_67 : Tryd.f67.ntmps = 36 := rfl
theorem fn_68 : Tryd.prog.funcs[68]? = some Tryd.f68 := Tryd.func68
theorem rs_68 : Tryd.f68.results = ⟨[.cell 4 67]⟩ := rfl
theorem nt_68 : Tryd.f68.ntmps = 49 := rfl
theorem fn_69 : Tryd.prog.funcs[69]? = some Tryd.f69 := Tryd.func69
theorem rs_69 : Tryd.f69.results = ⟨[.cell 6 64, .tmp 7]⟩ := rfl
theorem nt_69 : Tryd.f69.ntmps = 54 := rfl
theorem fn_70 : Tryd.prog.funcs[70]? = some Tryd.f70 := Tryd.func70
theorem rs_70 : Tryd.f70.results = ⟨[.cell 8 64, .tmp 9]⟩ := rfl
theorem nt_70 : Tryd.f70.ntmps = 38 := rfl
theorem fn_71 : Tryd.prog.funcs[71]? = some Tryd.f71 := Tryd.func71
theorem rs_71 : Tryd.f71.results = ⟨[.cell 2 30]⟩ := rfl
theorem nt_71 : Tryd.f71.ntmps = 10 := rfl
theorem fn_72 : Tryd.prog.funcs[72]? = some Tryd.f72 := Tryd.func72
theorem rs_72 : Tryd.f72.results = ⟨[.tmp 2, .tmp 3]⟩ := rfl
theorem nt_72 : Tryd.f72.ntmps = 47 := rfl
theorem fn_73 : Tryd.prog.funcs[73]? = some Tryd.f73 := Tryd.func73
theorem rs_73 : Tryd.f73.results = ⟨[.tmp 2]⟩ := rfl
theorem nt_73 : Tryd.f73.ntmps = 37 := rfl
theorem fn_74 : Tryd.prog.funcs[74]? = some Tryd.f74 := Tryd.func74
theorem rs_74 : Tryd.f74.results = ⟨[.tmp 4]⟩ := rfl
theorem nt_74 : Tryd.f74.ntmps = 20 := rfl
theorem fn_75 : Tryd.prog.funcs[75]? = some Tryd.f75 := Tryd.func75
theorem rs_75 : Tryd.f75.results = ⟨[.tmp 6, .tmp 7]⟩ := rfl
theorem nt_75 : Tryd.f75.ntmps = 25 := rfl
theorem fn_76 : Tryd.prog.funcs[76]? = some Tryd.f76 := Tryd.func76
theorem rs_76 : Tryd.f76.results = ⟨[.tmp 4, .tmp 5]⟩ := rfl
theorem nt_76 : Tryd.f76.ntmps = 44 := rfl
theorem fn_77 : Tryd.prog.funcs[77]? = some Tryd.f77 := Tryd.func77
theorem rs_77 : Tryd.f77.results = ⟨[]⟩ := rfl
theorem nt_77 : Tryd.f77.ntmps = 28 := rfl
theorem fn_78 : Tryd.prog.funcs[78]? = some Tryd.f78 := Tryd.func78
theorem rs_78 : Tryd.f78.results = ⟨[.tmp 2]⟩ := rfl
theorem nt_78 : Tryd.f78.ntmps = 6 := rfl
theorem fn_79 : Tryd.prog.funcs[79]? = some Tryd.f79 := Tryd.func79
theorem rs_79 : Tryd.f79.results = ⟨[.tmp 2]⟩ := rfl
theorem nt_79 : Tryd.f79.ntmps = 6 := rfl
theorem fn_80 : Tryd.prog.funcs[80]? = some Tryd.f80 := Tryd.func80
theorem rs_80 : Tryd.f80.results = ⟨[.tmp 6]⟩ := rfl
theorem nt_80 : Tryd.f80.ntmps = 83 := rfl
theorem fn_81 : Tryd.prog.funcs[81]? = some Tryd.f81 := Tryd.func81
theorem rs_81 : Tryd.f81.results = ⟨[.tmp 8]⟩ := rfl
theorem nt_81 : Tryd.f81.ntmps = 60 := rfl
theorem fn_82 : Tryd.prog.funcs[82]? = some Tryd.f82 := Tryd.func82
theorem rs_82 : Tryd.f82.results = ⟨[]⟩ := rfl
theorem nt_82 : Tryd.f82.ntmps = 44 := rfl
theorem fn_87 : Tryd.prog.funcs[87]? = some Tryd.f87 := Tryd.func87
theorem rs_87 : Tryd.f87.results = ⟨[.tmp 4]⟩ := rfl
theorem nt_87 : Tryd.f87.ntmps = 19 := rfl
theorem fn_88 : Tryd.prog.funcs[88]? = some Tryd.f88 := Tryd.func88
theorem rs_88 : Tryd.f88.results = ⟨[.cell 4 30, .tmp 5]⟩ := rfl
theorem nt_88 : Tryd.f88.ntmps = 26 := rfl
theorem fn_89 : Tryd.prog.funcs[89]? = some Tryd.f89 := Tryd.func89
theorem rs_89 : Tryd.f89.results = ⟨[.cell 2 30]⟩ := rfl
theorem nt_89 : Tryd.f89.ntmps = 9 := rfl
theorem fn_90 : Tryd.prog.funcs[90]? = some Tryd.f90 := Tryd.func90
theorem rs_90 : Tryd.f90.results = ⟨[.cell 2 26]⟩ := rfl
theorem nt_90 : Tryd.f90.ntmps = 6 := rfl
theorem fn_91 : Tryd.prog.funcs[91]? = some Tryd.f91 := Tryd.func91
theorem rs_91 : Tryd.f91.results = ⟨[.cell 4 30, .cell 5 30, .tmp 6]⟩ := rfl
theorem nt_91 : Tryd.f91.ntmps = 34 := rfl
theorem fn_92 : Tryd.prog.funcs[92]? = some Tryd.f92 := Tryd.func92
theorem rs_92 : Tryd.f92.results = ⟨[.tmp 2]⟩ := rfl
theorem nt_92 : Tryd.f92.ntmps = 6 := rfl
theorem fn_93 : Tryd.prog.funcs[93]? = some Tryd.f93 := Tryd.func93
theorem rs_93 : Tryd.f93.results = ⟨[.tmp 2]⟩ := rfl
theorem nt_93 : Tryd.f93.ntmps = 19 := rfl
theorem mixed : Tryd.prog.follows .mixedOrders = true := by kernel_rfl
def GH (H : Hp) : Prop := ∃ o, H.at_ 0 = some o ∧ ∀ w : World, w.heap[0]? = some o → GG w
theorem GH.mono {H H' : Hp} (h : GH H) (hle : H.le H') : GH H' := let ⟨o, h1, h2⟩ := h; ⟨o, hle.at_ 0 o h1, h2⟩
theorem gh_of {W : World} (h : GG W) : GH (snap W) := by
 unfold GG at h
 have h1 := h
 unfold World.cell? at h1
 split at h1
 · rename_i c1 T fz hh
   refine ⟨_, hh, fun w hw => ?_⟩
   show w.cell? _ = _
   unfold World.cell?
   rw [hw]; exact h1
 · cases h1
def errN (e : Option Int) : Int := e.getD 0
theorem num23.calls {H : Hp} {L : Items} {e : Option Int} (hG : GH H) (he : some (errN e) = some (errN e)) : Ct Tryd.prog 23 ⟨[errV 89 e]⟩ H L (fun v H' L' => L = L' ∧ H = H' ∧ v = .int .i64 (errN e)) := Ct.of_calls fun w hw => by
 obtain ⟨o, h1, h2⟩ := hG
 have hg := h2 w (hw.good 0 o h1)
 have this : Calls Tryd.prog 23 #[errV 89 e] w fun ev w' => ev = .returned (.int .i64 (e.getD 0)) ∧ Below w.heap.size w w' := by
  cases e with
  | none => exact num23_any none w hg
  | some c => exact num23_any (some c) w hg
 refine this.mono ?_
 rintro ev w' ⟨rfl, hb⟩
 exact ⟨_, _, _, rfl, hw.below hb, rfl, rfl, rfl⟩
theorem num38.calls {H : Hp} {L : Items} {e : Option Int} (hG : GH H) (he : some (errN e) = some (errN e)) : Ct Tryd.prog 38 ⟨[errV 89 e]⟩ H L (fun v H' L' => L = L' ∧ H = H' ∧ v = .int .i64 (errN e)) := Ct.of_calls fun w hw => by
 obtain ⟨o, h1, h2⟩ := hG
 have hg := h2 w (hw.good 0 o h1)
 have this : Calls Tryd.prog 38 #[errV 89 e] w fun ev w' => ev = .returned (.int .i64 (e.getD 0)) ∧ Below w.heap.size w w' := by
  cases e with
  | none => exact num38_any none w hg
  | some c => exact num38_any (some c) w hg
 refine this.mono ?_
 rintro ev w' ⟨rfl, hb⟩
 exact ⟨_, _, _, rfl, hw.below hb, rfl, rfl, rfl⟩
end Go.Proofs.YtmnhbbckndlnkaaDoor.GRL
