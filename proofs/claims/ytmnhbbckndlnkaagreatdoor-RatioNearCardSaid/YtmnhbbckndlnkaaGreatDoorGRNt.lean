/- A text of this session, written by a program (wip/k/gen.py): Go functions as Lean functions, and proofs that the code comes to them. -/
import Derived.Test.YtmnhbbckndlnkaaGreatDoorGRNk8
import Derived.Test.YtmnhbbckndlnkaaGreatDoorAs
namespace Go.Proofs.YtmnhbbckndlnkaaGreatDoor.GRN
open Go Go.RowKit Go.Proofs.YtmnhbbckndlnkaaGreatDoorK Go.Proofs.YtmnhbbckndlnkaaGreatDoor
set_option linter.unusedVariables false
set_option linter.unusedSimpArgs false
def str_0 : ByteArray := ⟨#[]⟩
def str_1 : ByteArray := ⟨#[45]⟩
def str_2 : ByteArray := ⟨#[48]⟩
def str_3 : ByteArray := ⟨#[48, 49, 50, 51, 52, 53, 54, 55, 56, 57]⟩
def str_4 : ByteArray := ⟨#[0, 1, 2, 2, 3, 3, 3, 3, 4, 4, 4, 4, 4, 4, 4, 4, 5, 5, 5, 5, 5, 5, 5, 5, 5, 5, 5, 5, 5, 5, 5, 5, 6, 6, 6, 6, 6, 6, 6, 6, 6, 6, 6, 6, 6, 6, 6, 6, 6, 6, 6, 6, 6, 6, 6, 6, 6, 6, 6, 6, 6, 6, 6, 6, 7, 7, 7, 7, 7, 7, 7, 7, 7, 7, 7, 7, 7, 7, 7, 7, 7, 7, 7, 7, 7, 7, 7, 7, 7, 7, 7, 7, 7, 7, 7, 7, 7, 7, 7, 7, 7, 7, 7, 7, 7, 7, 7, 7, 7, 7, 7, 7, 7, 7, 7, 7, 7, 7, 7, 7, 7, 7, 7, 7, 7, 7, 7, 7, 8, 8, 8, 8, 8, 8, 8, 8, 8, 8, 8, 8, 8, 8, 8, 8, 8, 8, 8, 8, 8, 8, 8, 8, 8, 8, 8, 8, 8, 8, 8, 8, 8, 8, 8, 8, 8, 8, 8, 8, 8, 8, 8, 8, 8, 8, 8, 8, 8, 8, 8, 8, 8, 8, 8, 8, 8, 8, 8, 8, 8, 8, 8, 8, 8, 8, 8, 8, 8, 8, 8, 8, 8, 8, 8, 8, 8, 8, 8, 8, 8, 8, 8, 8, 8, 8, 8, 8, 8, 8, 8, 8, 8, 8, 8, 8, 8, 8, 8, 8, 8, 8, 8, 8, 8, 8, 8, 8, 8, 8, 8, 8, 8, 8, 8, 8, 8, 8, 8, 8, 8, 8, 8, 8, 8, 8, 8, 8]⟩
def str_5 : ByteArray := ⟨#[47]⟩
def str_6 : ByteArray := ⟨#[49, 47, 50]⟩
def str_7 : ByteArray := ⟨#[48, 47, 49]⟩
structure radomeref01_Num where
 f_Neg : Bool
 f_D : List Int
instance : Inhabited radomeref01_Num := ⟨⟨false, []⟩⟩
def k_radomeref01_Num : Kd radomeref01_Num := Kd.map (fun s => (s.f_Neg, s.f_D)) (Kd.pair Kd.bool (Kd.slice (Kd.int .i64)))
theorem k_radomeref01_Num_out {H : Hp} {cs : List Value} {x : radomeref01_Num} (h : k_radomeref01_Num.rep H cs x) : ∃ v0, cs = [.bool x.f_Neg, v0] ∧ Ro (Kd.int .i64) H v0 x.f_D := by
 obtain ⟨_, _, rfl, rfl, ⟨v0, rfl, h0⟩⟩ := (show ((Kd.pair Kd.bool (Kd.slice (Kd.int .i64)))).rep H cs ((x.f_Neg, x.f_D)) from h)
 exact ⟨v0, rfl, h0⟩
theorem k_radomeref01_Num_in {H : Hp} {v0 : Value} {x : radomeref01_Num} (h0 : Ro (Kd.int .i64) H v0 x.f_D) : k_radomeref01_Num.rep H [.bool x.f_Neg, v0] x :=
 (show ((Kd.pair Kd.bool (Kd.slice (Kd.int .i64)))).rep H _ ((x.f_Neg, x.f_D)) from ⟨[.bool x.f_Neg], [v0], rfl, rfl, ⟨v0, rfl, h0⟩⟩)
structure radomeref02_Ratio where
 f_N : radomeref01_Num
 f_D : radomeref01_Num
instance : Inhabited radomeref02_Ratio := ⟨⟨(⟨false, []⟩ : radomeref01_Num), (⟨false, []⟩ : radomeref01_Num)⟩⟩
def k_radomeref02_Ratio : Kd radomeref02_Ratio := Kd.map (fun s => (s.f_N, s.f_D)) (Kd.pair k_radomeref01_Num k_radomeref01_Num)
theorem k_radomeref02_Ratio_out {H : Hp} {cs : List Value} {x : radomeref02_Ratio} (h : k_radomeref02_Ratio.rep H cs x) : ∃ v0, ∃ v1, cs = [.bool x.f_N.f_Neg, v0, .bool x.f_D.f_Neg, v1] ∧ Ro (Kd.int .i64) H v0 x.f_N.f_D ∧ Ro (Kd.int .i64) H v1 x.f_D.f_D := by
 obtain ⟨_, _, rfl, q1, q2⟩ := (show ((Kd.pair k_radomeref01_Num k_radomeref01_Num)).rep H cs ((x.f_N, x.f_D)) from h)
 obtain ⟨v0, rfl, h0⟩ := k_radomeref01_Num_out q1
 obtain ⟨v1, rfl, h1⟩ := k_radomeref01_Num_out q2
 exact ⟨v0, v1, rfl, h0, h1⟩
theorem k_radomeref02_Ratio_in {H : Hp} {v0 : Value} {v1 : Value} {x : radomeref02_Ratio} (h0 : Ro (Kd.int .i64) H v0 x.f_N.f_D) (h1 : Ro (Kd.int .i64) H v1 x.f_D.f_D) : k_radomeref02_Ratio.rep H [.bool x.f_N.f_Neg, v0, .bool x.f_D.f_Neg, v1] x :=
 (show ((Kd.pair k_radomeref01_Num k_radomeref01_Num)).rep H _ ((x.f_N, x.f_D)) from ⟨[.bool x.f_N.f_Neg, v0], [.bool x.f_D.f_Neg, v1], rfl, (k_radomeref01_Num_in h0), (k_radomeref01_Num_in h1)⟩)
structure wide_Int where
 f_neg : Bool
 f_w : List Int
instance : Inhabited wide_Int := ⟨⟨false, []⟩⟩
def k_wide_Int : Kd wide_Int := Kd.map (fun s => (s.f_neg, s.f_w)) (Kd.pair Kd.bool (Kd.slice (Kd.int .u32)))
theorem k_wide_Int_out {H : Hp} {cs : List Value} {x : wide_Int} (h : k_wide_Int.rep H cs x) : ∃ v0, cs = [.bool x.f_neg, v0] ∧ Ro (Kd.int .u32) H v0 x.f_w := by
 obtain ⟨_, _, rfl, rfl, ⟨v0, rfl, h0⟩⟩ := (show ((Kd.pair Kd.bool (Kd.slice (Kd.int .u32)))).rep H cs ((x.f_neg, x.f_w)) from h)
 exact ⟨v0, rfl, h0⟩
theorem k_wide_Int_in {H : Hp} {v0 : Value} {x : wide_Int} (h0 : Ro (Kd.int .u32) H v0 x.f_w) : k_wide_Int.rep H [.bool x.f_neg, v0] x :=
 (show ((Kd.pair Kd.bool (Kd.slice (Kd.int .u32)))).rep H _ ((x.f_neg, x.f_w)) from ⟨[.bool x.f_neg], [v0], rfl, rfl, ⟨v0, rfl, h0⟩⟩)
structure ratio_Ratio where
 f_n : wide_Int
 f_d : wide_Int
instance : Inhabited ratio_Ratio := ⟨⟨(⟨false, []⟩ : wide_Int), (⟨false, []⟩ : wide_Int)⟩⟩
def k_ratio_Ratio : Kd ratio_Ratio := Kd.map (fun s => (s.f_n, s.f_d)) (Kd.pair k_wide_Int k_wide_Int)
theorem k_ratio_Ratio_out {H : Hp} {cs : List Value} {x : ratio_Ratio} (h : k_ratio_Ratio.rep H cs x) : ∃ v0, ∃ v1, cs = [.bool x.f_n.f_neg, v0, .bool x.f_d.f_neg, v1] ∧ Ro (Kd.int .u32) H v0 x.f_n.f_w ∧ Ro (Kd.int .u32) H v1 x.f_d.f_w := by
 obtain ⟨_, _, rfl, q1, q2⟩ := (show ((Kd.pair k_wide_Int k_wide_Int)).rep H cs ((x.f_n, x.f_d)) from h)
 obtain ⟨v0, rfl, h0⟩ := k_wide_Int_out q1
 obtain ⟨v1, rfl, h1⟩ := k_wide_Int_out q2
 exact ⟨v0, v1, rfl, h0, h1⟩
theorem k_ratio_Ratio_in {H : Hp} {v0 : Value} {v1 : Value} {x : ratio_Ratio} (h0 : Ro (Kd.int .u32) H v0 x.f_n.f_w) (h1 : Ro (Kd.int .u32) H v1 x.f_d.f_w) : k_ratio_Ratio.rep H [.bool x.f_n.f_neg, v0, .bool x.f_d.f_neg, v1] x :=
 (show ((Kd.pair k_wide_Int k_wide_Int)).rep H _ ((x.f_n, x.f_d)) from ⟨[.bool x.f_n.f_neg, v0], [.bool x.f_d.f_neg, v1], rfl, (k_wide_Int_in h0), (k_wide_Int_in h1)⟩)
structure T23 where
 e0 : List Int
 e1 : List Int
instance : Inhabited T23 := ⟨⟨[], []⟩⟩
def k_T23 : Kd T23 := Kd.map (fun s => (s.e0, s.e1)) (Kd.pair (Kd.slice (Kd.int .u8)) (Kd.slice (Kd.int .u8)))
theorem k_T23_out {H : Hp} {cs : List Value} {x : T23} (h : k_T23.rep H cs x) : ∃ v0, ∃ v1, cs = [v0, v1] ∧ Ro (Kd.int .u8) H v0 x.e0 ∧ Ro (Kd.int .u8) H v1 x.e1 := by
 obtain ⟨_, _, rfl, ⟨v0, rfl, h0⟩, ⟨v1, rfl, h1⟩⟩ := (show ((Kd.pair (Kd.slice (Kd.int .u8)) (Kd.slice (Kd.int .u8)))).rep H cs ((x.e0, x.e1)) from h)
 exact ⟨v0, v1, rfl, h0, h1⟩
theorem k_T23_in {H : Hp} {v0 : Value} {v1 : Value} {x : T23} (h0 : Ro (Kd.int .u8) H v0 x.e0) (h1 : Ro (Kd.int .u8) H v1 x.e1) : k_T23.rep H [v0, v1] x :=
 (show ((Kd.pair (Kd.slice (Kd.int .u8)) (Kd.slice (Kd.int .u8)))).rep H _ ((x.e0, x.e1)) from ⟨[v0], [v1], rfl, ⟨v0, rfl, h0⟩, ⟨v1, rfl, h1⟩⟩)
structure T24 where
 e0 : Int
 e1 : Int
instance : Inhabited T24 := ⟨⟨0, 0⟩⟩
def k_T24 : Kd T24 := Kd.map (fun s => (s.e0, s.e1)) (Kd.pair (Kd.int .i64) (Kd.int .i64))
theorem k_T24_out {H : Hp} {cs : List Value} {x : T24} (h : k_T24.rep H cs x) : cs = [.int .i64 x.e0, .int .i64 x.e1] := by
 obtain ⟨_, _, rfl, rfl, rfl⟩ := (show ((Kd.pair (Kd.int .i64) (Kd.int .i64))).rep H cs ((x.e0, x.e1)) from h)
 rfl
theorem k_T24_in {H : Hp} {x : T24} : k_T24.rep H [.int .i64 x.e0, .int .i64 x.e1] x :=
 (show ((Kd.pair (Kd.int .i64) (Kd.int .i64))).rep H _ ((x.e0, x.e1)) from ⟨[.int .i64 x.e0], [.int .i64 x.e1], rfl, rfl, rfl⟩)
theorem ty2 : TyA Tryz.prog 2 false 1 := ⟨⟨_, Tryz.underlying2, rfl⟩, by kernel_rfl⟩
theorem sz2 : (Tryz.prog.info? 2).map (·.size) = some 1 := by kernel_rfl
theorem zr2 : (Tryz.prog.info? 2).bind (·.zero) = some (.int .i64 0) := by kernel_rfl
theorem ti2 : TI Tryz.prog 2 1 8 (.int .i64 0) := ⟨by kernel_rfl⟩
theorem zp2 (H : Hp) : ((Kd.int .i64)).rep H (Value.cells (.int .i64 0)).toList 0 := rfl
theorem ty3 : TyA Tryz.prog 3 false 1 := ⟨⟨_, Tryz.underlying3, rfl⟩, by kernel_rfl⟩
theorem sz3 : (Tryz.prog.info? 3).map (·.size) = some 1 := by kernel_rfl
theorem zr3 : (Tryz.prog.info? 3).bind (·.zero) = some (.int .i64 0) := by kernel_rfl
theorem ti3 : TI Tryz.prog 3 1 8 (.int .i64 0) := ⟨by kernel_rfl⟩
theorem zp3 (H : Hp) : ((Kd.int .i64)).rep H (Value.cells (.int .i64 0)).toList 0 := rfl
theorem ty4 : TyA Tryz.prog 4 false 1 := ⟨⟨_, Tryz.underlying4, rfl⟩, by kernel_rfl⟩
theorem sz4 : (Tryz.prog.info? 4).map (·.size) = some 1 := by kernel_rfl
theorem zr4 : (Tryz.prog.info? 4).bind (·.zero) = some (.bool false) := by kernel_rfl
theorem ti4 : TI Tryz.prog 4 1 1 (.bool false) := ⟨by kernel_rfl⟩
theorem zp4 (H : Hp) : (Kd.bool).rep H (Value.cells (.bool false)).toList false := rfl
theorem ty5 : TyA Tryz.prog 5 false 1 := ⟨⟨_, Tryz.underlying5, rfl⟩, by kernel_rfl⟩
theorem sz5 : (Tryz.prog.info? 5).map (·.size) = some 1 := by kernel_rfl
theorem zr5 : (Tryz.prog.info? 5).bind (·.zero) = some (.int .u8 0) := by kernel_rfl
theorem ti5 : TI Tryz.prog 5 1 1 (.int .u8 0) := ⟨by kernel_rfl⟩
theorem zp5 (H : Hp) : ((Kd.int .u8)).rep H (Value.cells (.int .u8 0)).toList 0 := rfl
theorem ty22 : TyA Tryz.prog 22 false 1 := ⟨⟨_, Tryz.underlying22, rfl⟩, by kernel_rfl⟩
theorem sz22 : (Tryz.prog.info? 22).map (·.size) = some 1 := by kernel_rfl
theorem zr22 : (Tryz.prog.info? 22).bind (·.zero) = some (.slice none 0 0) := by kernel_rfl
theorem ti22 : TI Tryz.prog 22 1 24 (.slice none 0 0) := ⟨by kernel_rfl⟩
theorem zp22 (H : Hp) : ((Kd.slice (Kd.int .u8))).rep H (Value.cells (.slice none 0 0)).toList [] := ⟨_, rfl, ro_nil _ _⟩
theorem ty25 : TyA Tryz.prog 25 false 1 := ⟨⟨_, Tryz.underlying25, rfl⟩, by kernel_rfl⟩
theorem sz25 : (Tryz.prog.info? 25).map (·.size) = some 1 := by kernel_rfl
theorem zr25 : (Tryz.prog.info? 25).bind (·.zero) = some (.slice none 0 0) := by kernel_rfl
theorem ti25 : TI Tryz.prog 25 1 24 (.slice none 0 0) := ⟨by kernel_rfl⟩
theorem zp25 (H : Hp) : ((Kd.slice (Kd.int .i64))).rep H (Value.cells (.slice none 0 0)).toList [] := ⟨_, rfl, ro_nil _ _⟩
theorem ty27 : TyA Tryz.prog 27 true 2 := ⟨⟨_, Tryz.underlying27, rfl⟩, by kernel_rfl⟩
theorem sz27 : (Tryz.prog.info? 27).map (·.size) = some 2 := by kernel_rfl
theorem zr27 : (Tryz.prog.info? 27).bind (·.zero) = some (.agg #[.bool false, .slice none 0 0]) := by kernel_rfl
theorem ti27 : TI Tryz.prog 27 2 32 (.agg #[.bool false, .slice none 0 0]) := ⟨by kernel_rfl⟩
theorem zp27 (H : Hp) : (k_radomeref01_Num).rep H (Value.cells (.agg #[.bool false, .slice none 0 0])).toList (⟨false, []⟩ : radomeref01_Num) := k_radomeref01_Num_in (x := ⟨false, []⟩) (ro_nil _ _)
theorem ty29 : TyA Tryz.prog 29 true 4 := ⟨⟨_, Tryz.underlying29, rfl⟩, by kernel_rfl⟩
theorem sz29 : (Tryz.prog.info? 29).map (·.size) = some 4 := by kernel_rfl
theorem zr29 : (Tryz.prog.info? 29).bind (·.zero) = some (.agg #[.bool false, .slice none 0 0, .bool false, .slice none 0 0]) := by kernel_rfl
theorem ti29 : TI Tryz.prog 29 4 64 (.agg #[.bool false, .slice none 0 0, .bool false, .slice none 0 0]) := ⟨by kernel_rfl⟩
theorem zp29 (H : Hp) : (k_radomeref02_Ratio).rep H (Value.cells (.agg #[.bool false, .slice none 0 0, .bool false, .slice none 0 0])).toList (⟨(⟨false, []⟩ : radomeref01_Num), (⟨false, []⟩ : radomeref01_Num)⟩ : radomeref02_Ratio) := k_radomeref02_Ratio_in (x := ⟨⟨false, []⟩, ⟨false, []⟩⟩) (ro_nil _ _) (ro_nil _ _)
theorem ty34 : TyA Tryz.prog 34 false 1 := ⟨⟨_, Tryz.underlying34, rfl⟩, by kernel_rfl⟩
theorem sz34 : (Tryz.prog.info? 34).map (·.size) = some 1 := by kernel_rfl
theorem zr34 : (Tryz.prog.info? 34).bind (·.zero) = some (.slice none 0 0) := by kernel_rfl
theorem ti34 : TI Tryz.prog 34 1 24 (.slice none 0 0) := ⟨by kernel_rfl⟩
theorem zp34 (H : Hp) : ((Kd.slice (Kd.int .u32))).rep H (Value.cells (.slice none 0 0)).toList [] := ⟨_, rfl, ro_nil _ _⟩
theorem ty36 : TyA Tryz.prog 36 true 2 := ⟨⟨_, Tryz.underlying36, rfl⟩, by kernel_rfl⟩
theorem sz36 : (Tryz.prog.info? 36).map (·.size) = some 2 := by kernel_rfl
theorem zr36 : (Tryz.prog.info? 36).bind (·.zero) = some (.agg #[.bool false, .slice none 0 0]) := by kernel_rfl
theorem ti36 : TI Tryz.prog 36 2 32 (.agg #[.bool false, .slice none 0 0]) := ⟨by kernel_rfl⟩
theorem zp36 (H : Hp) : (k_wide_Int).rep H (Value.cells (.agg #[.bool false, .slice none 0 0])).toList (⟨false, []⟩ : wide_Int) := k_wide_Int_in (x := ⟨false, []⟩) (ro_nil _ _)
theorem ty38 : TyA Tryz.prog 38 true 4 := ⟨⟨_, Tryz.underlying38, rfl⟩, by kernel_rfl⟩
theorem sz38 : (Tryz.prog.info? 38).map (·.size) = some 4 := by kernel_rfl
theorem zr38 : (Tryz.prog.info? 38).bind (·.zero) = some (.agg #[.bool false, .slice none 0 0, .bool false, .slice none 0 0]) := by kernel_rfl
theorem ti38 : TI Tryz.prog 38 4 64 (.agg #[.bool false, .slice none 0 0, .bool false, .slice none 0 0]) := ⟨by kernel_rfl⟩
theorem zp38 (H : Hp) : (k_ratio_Ratio).rep H (Value.cells (.agg #[.bool false, .slice none 0 0, .bool false, .slice none 0 0])).toList (⟨(⟨false, []⟩ : wide_Int), (⟨false, []⟩ : wide_Int)⟩ : ratio_Ratio) := k_ratio_Ratio_in (x := ⟨⟨false, []⟩, ⟨false, []⟩⟩) (ro_nil _ _) (ro_nil _ _)
theorem ty90 : TyA Tryz.prog 90 false 1 := ⟨⟨_, Tryz.underlying90, rfl⟩, by kernel_rfl⟩
theorem sz90 : (Tryz.prog.info? 90).map (·.size) = some 1 := by kernel_rfl
theorem zr90 : (Tryz.prog.info? 90).bind (·.zero) = some (.int .u32 0) := by kernel_rfl
theorem ti90 : TI Tryz.prog 90 1 4 (.int .u32 0) := ⟨by kernel_rfl⟩
theorem zp90 (H : Hp) : ((Kd.int .u32)).rep H (Value.cells (.int .u32 0)).toList 0 := rfl
theorem co5 : CallOk Tryz.prog 5 := ⟨_, Tryz.func5, by decide, rfl⟩
theorem co6 : CallOk Tryz.prog 6 := ⟨_, Tryz.func6, by decide, rfl⟩
theorem co7 : CallOk Tryz.prog 7 := ⟨_, Tryz.func7, by decide, rfl⟩
theorem co8 : CallOk Tryz.prog 8 := ⟨_, Tryz.func8, by decide, rfl⟩
theorem co9 : CallOk Tryz.prog 9 := ⟨_, Tryz.func9, by decide, rfl⟩
theorem co10 : CallOk Tryz.prog 10 := ⟨_, Tryz.func10, by decide, rfl⟩
theorem co11 : CallOk Tryz.prog 11 := ⟨_, Tryz.func11, by decide, rfl⟩
theorem co12 : CallOk Tryz.prog 12 := ⟨_, Tryz.func12, by decide, rfl⟩
theorem co13 : CallOk Tryz.prog 13 := ⟨_, Tryz.func13, by decide, rfl⟩
theorem co14 : CallOk Tryz.prog 14 := ⟨_, Tryz.func14, by decide, rfl⟩
theorem co15 : CallOk Tryz.prog 15 := ⟨_, Tryz.func15, by decide, rfl⟩
theorem co16 : CallOk Tryz.prog 16 := ⟨_, Tryz.func16, by decide, rfl⟩
theorem co17 : CallOk Tryz.prog 17 := ⟨_, Tryz.func17, by decide, rfl⟩
theorem co18 : CallOk Tryz.prog 18 := ⟨_, Tryz.func18, by decide, rfl⟩
theorem co20 : CallOk Tryz.prog 20 := ⟨_, Tryz.func20, by decide, rfl⟩
theorem co28 : CallOk Tryz.prog 28 := ⟨_, Tryz.func28, by decide, rfl⟩
theorem co29 : CallOk Tryz.prog 29 := ⟨_, Tryz.func29, by decide, rfl⟩
theorem co30 : CallOk Tryz.prog 30 := ⟨_, Tryz.func30, by decide, rfl⟩
theorem co31 : CallOk Tryz.prog 31 := ⟨_, Tryz.func31, by decide, rfl⟩
theorem co32 : CallOk Tryz.prog 32 := ⟨_, Tryz.func32, by decide, rfl⟩
theorem co33 : CallOk Tryz.prog 33 := ⟨_, Tryz.func33, by decide, rfl⟩
theorem co34 : CallOk Tryz.prog 34 := ⟨_, Tryz.func34, by decide, rfl⟩
theorem co35 : CallOk Tryz.prog 35 := ⟨_, Tryz.func35, by decide, rfl⟩
theorem co36 : CallOk Tryz.prog 36 := ⟨_, Tryz.func36, by decide, rfl⟩
theorem co37 : CallOk Tryz.prog 37 := ⟨_, Tryz.func37, by decide, rfl⟩
theorem co38 : CallOk Tryz.prog 38 := ⟨_, Tryz.func38, by decide, rfl⟩
theorem co40 : CallOk Tryz.prog 40 := ⟨_, Tryz.func40, by decide, rfl⟩
theorem co41 : CallOk Tryz.prog 41 := ⟨_, Tryz.func41, by decide, rfl⟩
theorem co42 : CallOk Tryz.prog 42 := ⟨_, Tryz.func42, by decide, rfl⟩
theorem co43 : CallOk Tryz.prog 43 := ⟨_, Tryz.func43, by decide, rfl⟩
theorem co44 : CallOk Tryz.prog 44 := ⟨_, Tryz.func44, by decide, rfl⟩
theorem co45 : CallOk Tryz.prog 45 := ⟨_, Tryz.func45, by decide, rfl⟩
theorem co46 : CallOk Tryz.prog 46 := ⟨_, Tryz.func46, by decide, rfl⟩
theorem co47 : CallOk Tryz.prog 47 := ⟨_, Tryz.func47, by decide, rfl⟩
theorem co48 : CallOk Tryz.prog 48 := ⟨_, Tryz.func48, by decide, rfl⟩
theorem co49 : CallOk Tryz.prog 49 := ⟨_, Tryz.func49, by decide, rfl⟩
theorem co50 : CallOk Tryz.prog 50 := ⟨_, Tryz.func50, by decide, rfl⟩
theorem co51 : CallOk Tryz.prog 51 := ⟨_, Tryz.func51, by decide, rfl⟩
theorem co53 : CallOk Tryz.prog 53 := ⟨_, Tryz.func53, by decide, rfl⟩
theorem co55 : CallOk Tryz.prog 55 := ⟨_, Tryz.func55, by decide, rfl⟩
theorem co56 : CallOk Tryz.prog 56 := ⟨_, Tryz.func56, by decide, rfl⟩
theorem co57 : CallOk Tryz.prog 57 := ⟨_, Tryz.func57, by decide, rfl⟩
theorem co58 : CallOk Tryz.prog 58 := ⟨_, Tryz.func58, by decide, rfl⟩
theorem co59 : CallOk Tryz.prog 59 := ⟨_, Tryz.func59, by decide, rfl⟩
theorem co60 : CallOk Tryz.prog 60 := ⟨_, Tryz.func60, by decide, rfl⟩
theorem co61 : CallOk Tryz.prog 61 := ⟨_, Tryz.func61, by decide, rfl⟩
theorem co62 : CallOk Tryz.prog 62 := ⟨_, Tryz.func62, by decide, rfl⟩
theorem co63 : CallOk Tryz.prog 63 := ⟨_, Tryz.func63, by decide, rfl⟩
theorem co64 : CallOk Tryz.prog 64 := ⟨_, Tryz.func64, by decide, rfl⟩
theorem co65 : CallOk Tryz.prog 65 := ⟨_, Tryz.func65, by decide, rfl⟩
theorem co66 : CallOk Tryz.prog 66 := ⟨_, Tryz.func66, by decide, rfl⟩
theorem co67 : CallOk Tryz.prog 67 := ⟨_, Tryz.func67, by decide, rfl⟩
theorem co68 : CallOk Tryz.prog 68 := ⟨_, Tryz.func68, by decide, rfl⟩
theorem co69 : CallOk Tryz.prog 69 := ⟨_, Tryz.func69, by decide, rfl⟩
theorem co70 : CallOk Tryz.prog 70 := ⟨_, Tryz.func70, by decide, rfl⟩
theorem co71 : CallOk Tryz.prog 71 := ⟨_, Tryz.func71, by decide, rfl⟩
theorem co76 : CallOk Tryz.prog 76 := ⟨_, Tryz.func76, by decide, rfl⟩
theorem co77 : CallOk Tryz.prog 77 := ⟨_, Tryz.func77, by decide, rfl⟩
theorem co78 : CallOk Tryz.prog 78 := ⟨_, Tryz.func78, by decide, rfl⟩
theorem co79 : CallOk Tryz.prog 79 := ⟨_, Tryz.func79, by decide, rfl⟩
theorem co80 : CallOk Tryz.prog 80 := ⟨_, Tryz.func80, by decide, rfl⟩
theorem co81 : CallOk Tryz.prog 81 := ⟨_, Tryz.func81, by decide, rfl⟩
theorem co82 : CallOk Tryz.prog 82 := ⟨_, Tryz.func82, by decide, rfl⟩
theorem co83 : CallOk Tryz.prog 83 := ⟨_, Tryz.func83, by decide, rfl⟩
theorem co84 : CallOk Tryz.prog 84 := ⟨_, Tryz.func84, by decide, rfl⟩
theorem co85 : CallOk Tryz.prog 85 := ⟨_, Tryz.func85, by decide, rfl⟩
theorem co86 : CallOk Tryz.prog 86 := ⟨_, Tryz.func86, by decide, rfl⟩
theorem co87 : CallOk Tryz.prog 87 := ⟨_, Tryz.func87, by decide, rfl⟩
theorem co88 : CallOk Tryz.prog 88 := ⟨_, Tryz.func88, by decide, rfl⟩
theorem co89 : CallOk Tryz.prog 89 := ⟨_, Tryz.func89, by decide, rfl⟩
theorem co90 : CallOk Tryz.prog 90 := ⟨_, Tryz.func90, by decide, rfl⟩
theorem co91 : CallOk Tryz.prog 91 := ⟨_, Tryz.func91, by decide, rfl⟩
theorem co92 : CallOk Tryz.prog 92 := ⟨_, Tryz.func92, by decide, rfl⟩
theorem co93 : CallOk Tryz.prog 93 := ⟨_, Tryz.func93, by decide, rfl⟩
theorem co94 : CallOk Tryz.prog 94 := ⟨_, Tryz.func94, by decide, rfl⟩
theorem co98 : CallOk Tryz.prog 98 := ⟨_, Tryz.func98, by decide, rfl⟩
theorem co99 : CallOk Tryz.prog 99 := ⟨_, Tryz.func99, by decide, rfl⟩
theorem fn_3 : Tryz.prog.funcs[3]? = some Tryz.f3 := Tryz.func3
theorem rs_3 : Tryz.f3.results = ⟨[.tmp 6]⟩ := rfl
theorem nt_3 : Tryz.f3.ntmps = 127 := rfl
theorem fn_5 : Tryz.prog.funcs[5]? = some Tryz.f5 := Tryz.func5
theorem rs_5 : Tryz.f5.results = ⟨[.cell 6 29]⟩ := rfl
theorem nt_5 : Tryz.f5.ntmps = 21 := rfl
theorem fn_6 : Tryz.prog.funcs[6]? = some Tryz.f6 := Tryz.func6
theorem rs_6 : Tryz.f6.results = ⟨[.cell 2 38]⟩ := rfl
theorem nt_6 : Tryz.f6.ntmps = 16 := rfl
theorem fn_7 : Tryz.prog.funcs[7]? = some Tryz.f7 := Tryz.func7
theorem rs_7 : Tryz.f7.results = ⟨[.tmp 4, .tmp 5]⟩ := rfl
theorem nt_7 : Tryz.f7.ntmps = 102 := rfl
theorem fn_8 : Tryz.prog.funcs[8]? = some Tryz.f8 := Tryz.func8
theorem rs_8 : Tryz.f8.results = ⟨[.cell 4 38, .tmp 5]⟩ := rfl
theorem nt_8 : Tryz.f8.ntmps = 32 := rfl
theorem fn_10 : Tryz.prog.funcs[10]? = some Tryz.f10 := Tryz.func10
theorem rs_10 : Tryz.f10.results = ⟨[.tmp 2]⟩ := rfl
theorem nt_10 : Tryz.f10.ntmps = 11 := rfl
theorem fn_11 : Tryz.prog.funcs[11]? = some Tryz.f11 := Tryz.func11
theorem rs_11 : Tryz.f11.results = ⟨[.tmp 0]⟩ := rfl
theorem nt_11 : Tryz.f11.ntmps = 68 := rfl
theorem fn_12 : Tryz.prog.funcs[12]? = some Tryz.f12 := Tryz.func12
theorem rs_12 : Tryz.f12.results = ⟨[.cell 4 27, .tmp 5]⟩ := rfl
theorem nt_12 : Tryz.f12.ntmps = 36 := rfl
theorem fn_13 : Tryz.prog.funcs[13]? = some Tryz.f13 := Tryz.func13
theorem rs_13 : Tryz.f13.results = ⟨[.tmp 4]⟩ := rfl
theorem nt_13 : Tryz.f13.ntmps = 10 := rfl
theorem fn_14 : Tryz.prog.funcs[14]? = some Tryz.f14 := Tryz.func14
theorem rs_14 : Tryz.f14.results = ⟨[.cell 2 36]⟩ := rfl
theorem nt_14 : Tryz.f14.ntmps = 20 := rfl
theorem fn_15 : Tryz.prog.funcs[15]? = some Tryz.f15 := Tryz.func15
theorem rs_15 : Tryz.f15.results = ⟨[.cell 4 29]⟩ := rfl
theorem nt_15 : Tryz.f15.ntmps = 49 := rfl
theorem fn_16 : Tryz.prog.funcs[16]? = some Tryz.f16 := Tryz.func16
theorem rs_16 : Tryz.f16.results = ⟨[.cell 2 27]⟩ := rfl
theorem nt_16 : Tryz.f16.ntmps = 25 := rfl
theorem fn_17 : Tryz.prog.funcs[17]? = some Tryz.f17 := Tryz.func17
theorem rs_17 : Tryz.f17.results = ⟨[.cell 2 27]⟩ := rfl
theorem nt_17 : Tryz.f17.ntmps = 26 := rfl
theorem fn_18 : Tryz.prog.funcs[18]? = some Tryz.f18 := Tryz.func18
theorem rs_18 : Tryz.f18.results = ⟨[.tmp 2]⟩ := rfl
theorem nt_18 : Tryz.f18.ntmps = 11 := rfl
theorem fn_20 : Tryz.prog.funcs[20]? = some Tryz.f20 := Tryz.func20
theorem rs_20 : Tryz.f20.results = ⟨[.cell 4 38, .tmp 5]⟩ := rfl
theorem nt_20 : Tryz.f20.ntmps = 11 := rfl
theorem fn_28 : Tryz.prog.funcs[28]? = some Tryz.f28 := Tryz.func28
theorem rs_28 : Tryz.f28.results = ⟨[.cell 6 27]⟩ := rfl
theorem nt_28 : Tryz.f28.ntmps = 36 := rfl
theorem fn_29 : Tryz.prog.funcs[29]? = some Tryz.f29 := Tryz.func29
theorem rs_29 : Tryz.f29.results = ⟨[.tmp 2]⟩ := rfl
theorem nt_29 : Tryz.f29.ntmps = 9 := rfl
theorem fn_30 : Tryz.prog.funcs[30]? = some Tryz.f30 := Tryz.func30
theorem rs_30 : Tryz.f30.results = ⟨[.cell 4 38, .tmp 5]⟩ := rfl
theorem nt_30 : Tryz.f30.ntmps = 60 := rfl
theorem fn_31 : Tryz.prog.funcs[31]? = some Tryz.f31 := Tryz.func31
theorem rs_31 : Tryz.f31.results = ⟨[.cell 2 36]⟩ := rfl
theorem nt_31 : Tryz.f31.ntmps = 12 := rfl
theorem fn_32 : Tryz.prog.funcs[32]? = some Tryz.f32 := Tryz.func32
theorem rs_32 : Tryz.f32.results = ⟨[.cell 4 36, .tmp 5]⟩ := rfl
theorem nt_32 : Tryz.f32.ntmps = 109 := rfl
theorem fn_33 : Tryz.prog.funcs[33]? = some Tryz.f33 := Tryz.func33
theorem rs_33 : Tryz.f33.results = ⟨[.cell 4 36, .cell 5 36, .tmp 6]⟩ := rfl
theorem nt_33 : Tryz.f33.ntmps = 77 := rfl
theorem fn_34 : Tryz.prog.funcs[34]? = some Tryz.f34 := Tryz.func34
theorem rs_34 : Tryz.f34.results = ⟨[.cell 2 36]⟩ := rfl
theorem nt_34 : Tryz.f34.ntmps = 10 := rfl
theorem fn_35 : Tryz.prog.funcs[35]? = some Tryz.f35 := Tryz.func35
theorem rs_35 : Tryz.f35.results = ⟨[.tmp 2, .tmp 3]⟩ := rfl
theorem nt_35 : Tryz.f35.ntmps = 47 := rfl
theorem fn_36 : Tryz.prog.funcs[36]? = some Tryz.f36 := Tryz.func36
theorem rs_36 : Tryz.f36.results = ⟨[.tmp 4]⟩ := rfl
theorem nt_36 : Tryz.f36.ntmps = 33 := rfl
theorem fn_37 : Tryz.prog.funcs[37]? = some Tryz.f37 := Tryz.func37
theorem rs_37 : Tryz.f37.results = ⟨[.tmp 2]⟩ := rfl
theorem nt_37 : Tryz.f37.ntmps = 11 := rfl
theorem fn_38 : Tryz.prog.funcs[38]? = some Tryz.f38 := Tryz.func38
theorem rs_38 : Tryz.f38.results = ⟨[.cell 4 36, .tmp 5]⟩ := rfl
theorem nt_38 : Tryz.f38.ntmps = 39 := rfl
theorem fn_40 : Tryz.prog.funcs[40]? = some Tryz.f40 := Tryz.func40
theorem rs_40 : Tryz.f40.results = ⟨[.tmp 2]⟩ := rfl
theorem nt_40 : Tryz.f40.ntmps = 52 := rfl
theorem fn_41 : Tryz.prog.funcs[41]? = some Tryz.f41 := Tryz.func41
theorem rs_41 : Tryz.f41.results = ⟨[.cell 4 27]⟩ := rfl
theorem nt_41 : Tryz.f41.ntmps = 76 := rfl
theorem fn_42 : Tryz.prog.funcs[42]? = some Tryz.f42 := Tryz.func42
theorem rs_42 : Tryz.f42.results = ⟨[.cell 4 27]⟩ := rfl
theorem nt_42 : Tryz.f42.ntmps = 42 := rfl
theorem fn_43 : Tryz.prog.funcs[43]? = some Tryz.f43 := Tryz.func43
theorem rs_43 : Tryz.f43.results = ⟨[.tmp 2]⟩ := rfl
theorem nt_43 : Tryz.f43.ntmps = 16 := rfl
theorem fn_44 : Tryz.prog.funcs[44]? = some Tryz.f44 := Tryz.func44
theorem rs_44 : Tryz.f44.results = ⟨[.tmp 4]⟩ := rfl
theorem nt_44 : Tryz.f44.ntmps = 11 := rfl
theorem fn_45 : Tryz.prog.funcs[45]? = some Tryz.f45 := Tryz.func45
theorem rs_45 : Tryz.f45.results = ⟨[.cell 4 27]⟩ := rfl
theorem nt_45 : Tryz.f45.ntmps = 39 := rfl
theorem fn_46 : Tryz.prog.funcs[46]? = some Tryz.f46 := Tryz.func46
theorem rs_46 : Tryz.f46.results = ⟨[.tmp 2]⟩ := rfl
theorem nt_46 : Tryz.f46.ntmps = 35 := rfl
theorem fn_47 : Tryz.prog.funcs[47]? = some Tryz.f47 := Tryz.func47
theorem rs_47 : Tryz.f47.results = ⟨[.tmp 2]⟩ := rfl
theorem nt_47 : Tryz.f47.ntmps = 21 := rfl
theorem fn_48 : Tryz.prog.funcs[48]? = some Tryz.f48 := Tryz.func48
theorem rs_48 : Tryz.f48.results = ⟨[.cell 2 27]⟩ := rfl
theorem nt_48 : Tryz.f48.ntmps = 9 := rfl
theorem fn_49 : Tryz.prog.funcs[49]? = some Tryz.f49 := Tryz.func49
theorem rs_49 : Tryz.f49.results = ⟨[.cell 2 27]⟩ := rfl
theorem nt_49 : Tryz.f49.ntmps = 6 := rfl
theorem fn_50 : Tryz.prog.funcs[50]? = some Tryz.f50 := Tryz.func50
theorem rs_50 : Tryz.f50.results = ⟨[.cell 4 27, .cell 5 27]⟩ := rfl
theorem nt_50 : Tryz.f50.ntmps = 79 := rfl
theorem fn_51 : Tryz.prog.funcs[51]? = some Tryz.f51 := Tryz.func51
theorem rs_51 : Tryz.f51.results = ⟨[.cell 6 38, .tmp 7]⟩ := rfl
theorem nt_51 : Tryz.f51.ntmps = 54 := rfl
theorem fn_53 : Tryz.prog.funcs[53]? = some Tryz.f53 := Tryz.func53
theorem rs_53 : Tryz.f53.results = ⟨[.cell 4 36, .cell 5 36, .tmp 6]⟩ := rfl
theorem nt_53 : Tryz.f53.ntmps = 34 := rfl
theorem fn_55 : Tryz.prog.funcs[55]? = some Tryz.f55 := Tryz.func55
theorem rs_55 : Tryz.f55.results = ⟨[.tmp 4]⟩ := rfl
theorem nt_55 : Tryz.f55.ntmps = 9 := rfl
theorem fn_56 : Tryz.prog.funcs[56]? = some Tryz.f56 := Tryz.func56
theorem rs_56 : Tryz.f56.results = ⟨[.cell 2 36]⟩ := rfl
theorem nt_56 : Tryz.f56.ntmps = 15 := rfl
theorem fn_57 : Tryz.prog.funcs[57]? = some Tryz.f57 := Tryz.func57
theorem rs_57 : Tryz.f57.results = ⟨[.cell 4 36, .tmp 5]⟩ := rfl
theorem nt_57 : Tryz.f57.ntmps = 26 := rfl
theorem fn_58 : Tryz.prog.funcs[58]? = some Tryz.f58 := Tryz.func58
theorem rs_58 : Tryz.f58.results = ⟨[.cell 2 36]⟩ := rfl
theorem nt_58 : Tryz.f58.ntmps = 9 := rfl
theorem fn_59 : Tryz.prog.funcs[59]? = some Tryz.f59 := Tryz.func59
theorem rs_59 : Tryz.f59.results = ⟨[.cell 2 36, .tmp 3]⟩ := rfl
theorem nt_59 : Tryz.f59.ntmps = 56 := rfl
theorem fn_60 : Tryz.prog.funcs[60]? = some Tryz.f60 := Tryz.func60
theorem rs_60 : Tryz.f60.results = ⟨[.tmp 4]⟩ := rfl
theorem nt_60 : Tryz.f60.ntmps = 40 := rfl
theorem fn_61 : Tryz.prog.funcs[61]? = some Tryz.f61 := Tryz.func61
theorem rs_61 : Tryz.f61.results = ⟨[.cell 4 36, .tmp 5]⟩ := rfl
theorem nt_61 : Tryz.f61.ntmps = 21 := rfl
theorem fn_62 : Tryz.prog.funcs[62]? = some Tryz.f62 := Tryz.func62
theorem rs_62 : Tryz.f62.results = ⟨[.tmp 4]⟩ := rfl
theorem nt_62 : Tryz.f62.ntmps = 9 := rfl
theorem fn_63 : Tryz.prog.funcs[63]? = some Tryz.f63 := Tryz.func63
theorem rs_63 : Tryz.f63.results = ⟨[.tmp 2]⟩ := rfl
theorem nt_63 : Tryz.f63.ntmps = 5 := rfl
theorem fn_64 : Tryz.prog.funcs[64]? = some Tryz.f64 := Tryz.func64
theorem rs_64 : Tryz.f64.results = ⟨[.tmp 4]⟩ := rfl
theorem nt_64 : Tryz.f64.ntmps = 44 := rfl
theorem fn_65 : Tryz.prog.funcs[65]? = some Tryz.f65 := Tryz.func65
theorem rs_65 : Tryz.f65.results = ⟨[.tmp 2]⟩ := rfl
theorem nt_65 : Tryz.f65.ntmps = 8 := rfl
theorem fn_66 : Tryz.prog.funcs[66]? = some Tryz.f66 := Tryz.func66
theorem rs_66 : Tryz.f66.results = ⟨[.cell 4 36, .tmp 5]⟩ := rfl
theorem nt_66 : Tryz.f66.ntmps = 12 := rfl
theorem fn_67 : Tryz.prog.funcs[67]? = some Tryz.f67 := Tryz.func67
theorem rs_67 : Tryz.f67.results = ⟨[.tmp 4, .tmp 5]⟩ := rfl
theorem nt_67 : Tryz.f67.ntmps = 86 := rfl
theorem fn_68 : Tryz.prog.funcs[68]? = some Tryz.f68 := Tryz.func68
theorem rs_68 : Tryz.f68.results = ⟨[.tmp 4]⟩ := rfl
theorem nt_68 : Tryz.f68.ntmps = 43 := rfl
theorem fn_69 : Tryz.prog.funcs[69]? = some Tryz.f69 := Tryz.func69
theorem rs_69 : Tryz.f69.results = ⟨[.tmp 4]⟩ := rfl
theorem nt_69 : Tryz.f69.ntmps = 20 := rfl
theorem fn_70 : Tryz.prog.funcs[70]? = some Tryz.f70 := Tryz.func70
theorem rs_70 : Tryz.f70.results = ⟨[.tmp 4]⟩ := rfl
theorem nt_70 : Tryz.f70.ntmps = 35 := rfl
theorem fn_71 : Tryz.prog.funcs[71]? = some Tryz.f71 := Tryz.func71
theorem rs_71 : Tryz.f71.results = ⟨[.tmp 4]⟩ := rfl
theorem nt_71 : Tryz.f71.ntmps = 56 := rfl
theorem fn_76 : Tryz.prog.funcs[76]? = some Tryz.f76 := Tryz.func76
theorem rs_76 : Tryz.f76.results = ⟨[.tmp 4, .tmp 5]⟩ := rfl
theorem nt_76 : Tryz.f76.ntmps = 44 := rfl
theorem fn_77 : Tryz.prog.funcs[77]? = some Tryz.f77 := Tryz.func77
theorem rs_77 : Tryz.f77.results = ⟨[]⟩ := rfl
theorem nt_77 : Tryz.f77.ntmps = 28 := rfl
theorem fn_78 : Tryz.prog.funcs[78]? = some Tryz.f78 := Tryz.func78
theorem rs_78 : Tryz.f78.results = ⟨[.cell 4 27]⟩ := rfl
theorem nt_78 : Tryz.f78.ntmps = 13 := rfl
theorem fn_79 : Tryz.prog.funcs[79]? = some Tryz.f79 := Tryz.func79
theorem rs_79 : Tryz.f79.results = ⟨[.tmp 2]⟩ := rfl
theorem nt_79 : Tryz.f79.ntmps = 21 := rfl
theorem fn_80 : Tryz.prog.funcs[80]? = some Tryz.f80 := Tryz.func80
theorem rs_80 : Tryz.f80.results = ⟨[.tmp 4]⟩ := rfl
theorem nt_80 : Tryz.f80.ntmps = 41 := rfl
theorem fn_81 : Tryz.prog.funcs[81]? = some Tryz.f81 := Tryz.func81
theorem rs_81 : Tryz.f81.results = ⟨[.tmp 4]⟩ := rfl
theorem nt_81 : Tryz.f81.ntmps = 52 := rfl
theorem fn_82 : Tryz.prog.funcs[82]? = some Tryz.f82 := Tryz.func82
theorem rs_82 : Tryz.f82.results = ⟨[.tmp 4]⟩ := rfl
theorem nt_82 : Tryz.f82.ntmps = 41 := rfl
theorem fn_83 : Tryz.prog.funcs[83]? = some Tryz.f83 := Tryz.func83
theorem rs_83 : Tryz.f83.results = ⟨[.cell 4 27]⟩ := rfl
theorem nt_83 : Tryz.f83.ntmps = 9 := rfl
theorem fn_84 : Tryz.prog.funcs[84]? = some Tryz.f84 := Tryz.func84
theorem rs_84 : Tryz.f84.results = ⟨[.cell 4 36, .tmp 5]⟩ := rfl
theorem nt_84 : Tryz.f84.ntmps = 19 := rfl
theorem fn_85 : Tryz.prog.funcs[85]? = some Tryz.f85 := Tryz.func85
theorem rs_85 : Tryz.f85.results = ⟨[.tmp 2]⟩ := rfl
theorem nt_85 : Tryz.f85.ntmps = 37 := rfl
theorem fn_86 : Tryz.prog.funcs[86]? = some Tryz.f86 := Tryz.func86
theorem rs_86 : Tryz.f86.results = ⟨[.tmp 4]⟩ := rfl
theorem nt_86 : Tryz.f86.ntmps = 67 := rfl
theorem fn_87 : Tryz.prog.funcs[87]? = some Tryz.f87 := Tryz.func87
theorem rs_87 : Tryz.f87.results = ⟨[.tmp 4]⟩ := rfl
theorem nt_87 : Tryz.f87.ntmps = 19 := rfl
theorem fn_88 : Tryz.prog.funcs[88]? = some Tryz.f88 := Tryz.func88
theorem rs_88 : Tryz.f88.results = ⟨[.tmp 2]⟩ := rfl
theorem nt_88 : Tryz.f88.ntmps = 6 := rfl
theorem fn_89 : Tryz.prog.funcs[89]? = some Tryz.f89 := Tryz.func89
theorem rs_89 : Tryz.f89.results = ⟨[.tmp 6]⟩ := rfl
theorem nt_89 : Tryz.f89.ntmps = 83 := rfl
theorem fn_90 : Tryz.prog.funcs[90]? = some Tryz.f90 := Tryz.func90
theorem rs_90 : Tryz.f90.results = ⟨[.tmp 8]⟩ := rfl
theorem nt_90 : Tryz.f90.ntmps = 60 := rfl
theorem fn_91 : Tryz.prog.funcs[91]? = some Tryz.f91 := Tryz.func91
theorem rs_91 : Tryz.f91.results = ⟨[]⟩ := rfl
theorem nt_91 : Tryz.f91.ntmps = 44 := rfl
theorem fn_92 : Tryz.prog.funcs[92]? = some Tryz.f92 := Tryz.func92
theorem rs_92 : Tryz.f92.results = ⟨[.tmp 6, .tmp 7]⟩ := rfl
theorem nt_92 : Tryz.f92.ntmps = 25 := rfl
theorem fn_93 : Tryz.prog.funcs[93]? = some Tryz.f93 := Tryz.func93
theorem rs_93 : Tryz.f93.results = ⟨[.tmp 2]⟩ := rfl
theorem nt_93 : Tryz.f93.ntmps = 6 := rfl
theorem fn_94 : Tryz.prog.funcs[94]? = some Tryz.f94 := Tryz.func94
theorem rs_94 : Tryz.f94.results = ⟨[.tmp 4]⟩ := rfl
theorem nt_94 : Tryz.f94.ntmps = 20 := rfl
theorem fn_98 : Tryz.prog.funcs[98]? = some Tryz.f98 := Tryz.func98
theorem rs_98 : Tryz.f98.results = ⟨[.tmp 2]⟩ := rfl
theorem nt_98 : Tryz.f98.ntmps = 19 := rfl
theorem fn_99 : Tryz.prog.funcs[99]? = some Tryz.f99 := Tryz.func99
theorem rs_99 : Tryz.f99.results = ⟨[.tmp 2]⟩ := rfl
theorem nt_99 : Tryz.f99.ntmps = 6 := rfl
theorem mixed : Tryz.prog.follows .mixedOrders = true := by kernel_rfl
def GH (H : Hp) : Prop := ∃ o, H.at_ 0 = some o ∧ ∀ w : World, w.heap[0]? = some o → GG w
theorem GH.mono {H H' : Hp} (h : GH H) (hle : H.le H') : GH H' := let ⟨o, h1, h2⟩ := h; ⟨o, hle.at_ 0 o h1, h2⟩
theorem gh_of {W : World} (h : GG W) : GH (snap W) := by
 unfold GG at h
 have h1 := h
 unfold World.cell? at h1
 split at h1
 · rename_i c1 T fz hh
   refine ⟨_, hh, fun w hw => ?_⟩
   show w.cell? _ = _
   unfold World.cell?
   rw [hw]; exact h1
 · cases h1
def errN (e : Option Int) : Int := e.getD 0
theorem num9.calls {H : Hp} {L : Items} {e : Option Int} (hG : GH H) (he : some (errN e) = some (errN e)) : Ct Tryz.prog 9 ⟨[errV 71 e]⟩ H L (fun v H' L' => L = L' ∧ H = H' ∧ v = .int .i64 (errN e)) := Ct.of_calls fun w hw => by
 obtain ⟨o, h1, h2⟩ := hG
 have hg := h2 w (hw.good 0 o h1)
 have this : Calls Tryz.prog 9 #[errV 71 e] w fun ev w' => ev = .returned (.int .i64 (e.getD 0)) ∧ Below w.heap.size w w' := by
  cases e with
  | none => exact num9_any none w hg
  | some c => exact num9_any (some c) w hg
 refine this.mono ?_
 rintro ev w' ⟨rfl, hb⟩
 exact ⟨_, _, _, rfl, hw.below hb, rfl, rfl, rfl⟩
end Go.Proofs.YtmnhbbckndlnkaaGreatDoor.GRN
