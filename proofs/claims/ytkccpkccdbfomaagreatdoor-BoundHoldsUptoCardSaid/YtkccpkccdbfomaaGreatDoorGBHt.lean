/- printed by gen.py -/
import Derived.Test.YtkccpkccdbfomaaGreatDoorGBHk21
import Derived.Test.YtkccpkccdbfomaaGreatDoorAs
namespace Go.Proofs.YtkccpkccdbfomaaGreatDoor.GBH
open Go Go.RowKit Go.Proofs.YtkccpkccdbfomaaGreatDoorK Go.Proofs.YtkccpkccdbfomaaGreatDoor
set_option linter.unusedVariables false
set_option linter.unusedSimpArgs false
def str_0 : ByteArray := ⟨#[]⟩
def str_1 : ByteArray := ⟨#[45]⟩
def str_2 : ByteArray := ⟨#[48]⟩
def str_3 : ByteArray := ⟨#[48, 49, 50, 51, 52, 53, 54, 55, 56, 57]⟩
def str_4 : ByteArray := ⟨#[0, 1, 2, 2, 3, 3, 3, 3, 4, 4, 4, 4, 4, 4, 4, 4, 5, 5, 5, 5, 5, 5, 5, 5, 5, 5, 5, 5, 5, 5, 5, 5, 6, 6, 6, 6, 6, 6, 6, 6, 6, 6, 6, 6, 6, 6, 6, 6, 6, 6, 6, 6, 6, 6, 6, 6, 6, 6, 6, 6, 6, 6, 6, 6, 7, 7, 7, 7, 7, 7, 7, 7, 7, 7, 7, 7, 7, 7, 7, 7, 7, 7, 7, 7, 7, 7, 7, 7, 7, 7, 7, 7, 7, 7, 7, 7, 7, 7, 7, 7, 7, 7, 7, 7, 7, 7, 7, 7, 7, 7, 7, 7, 7, 7, 7, 7, 7, 7, 7, 7, 7, 7, 7, 7, 7, 7, 7, 7, 8, 8, 8, 8, 8, 8, 8, 8, 8, 8, 8, 8, 8, 8, 8, 8, 8, 8, 8, 8, 8, 8, 8, 8, 8, 8, 8, 8, 8, 8, 8, 8, 8, 8, 8, 8, 8, 8, 8, 8, 8, 8, 8, 8, 8, 8, 8, 8, 8, 8, 8, 8, 8, 8, 8, 8, 8, 8, 8, 8, 8, 8, 8, 8, 8, 8, 8, 8, 8, 8, 8, 8, 8, 8, 8, 8, 8, 8, 8, 8, 8, 8, 8, 8, 8, 8, 8, 8, 8, 8, 8, 8, 8, 8, 8, 8, 8, 8, 8, 8, 8, 8, 8, 8, 8, 8, 8, 8, 8, 8, 8, 8, 8, 8, 8, 8, 8, 8, 8, 8, 8, 8, 8, 8, 8, 8, 8, 8]⟩
def str_5 : ByteArray := ⟨#[47]⟩
def str_6 : ByteArray := ⟨#[55, 47, 49]⟩
def str_7 : ByteArray := ⟨#[51, 47, 50]⟩
structure T73 where
 e0 : Int
 e1 : Int
 e2 : Int
 e3 : Int
 e4 : Int
 e5 : Int
 e6 : Int
 e7 : Int
 e8 : Int
 e9 : Int
 e10 : Int
 e11 : Int
 e12 : Int
 e13 : Int
 e14 : Int
 e15 : Int
 e16 : Int
 e17 : Int
 e18 : Int
 e19 : Int
 e20 : Int
 e21 : Int
 e22 : Int
 e23 : Int
 e24 : Int
 e25 : Int
 e26 : Int
 e27 : Int
 e28 : Int
 e29 : Int
 e30 : Int
 e31 : Int
 e32 : Int
 e33 : Int
 e34 : Int
 e35 : Int
instance : Inhabited T73 := ⟨⟨0, 0, 0, 0, 0, 0, 0, 0, 0, 0, 0, 0, 0, 0, 0, 0, 0, 0, 0, 0, 0, 0, 0, 0, 0, 0, 0, 0, 0, 0, 0, 0, 0, 0, 0, 0⟩⟩
def T73.toL (x : T73) : List Int := (x.e0 :: x.e1 :: x.e2 :: x.e3 :: x.e4 :: x.e5 :: x.e6 :: x.e7 :: x.e8 :: x.e9 :: x.e10 :: x.e11 :: x.e12 :: x.e13 :: x.e14 :: x.e15 :: x.e16 :: x.e17 :: x.e18 :: x.e19 :: x.e20 :: x.e21 :: x.e22 :: x.e23 :: x.e24 :: x.e25 :: x.e26 :: x.e27 :: x.e28 :: x.e29 :: x.e30 :: x.e31 :: x.e32 :: x.e33 :: x.e34 :: x.e35 :: [])
def T73.ofL (l : List Int) : T73 := ⟨rd l 0, rd l 1, rd l 2, rd l 3, rd l 4, rd l 5, rd l 6, rd l 7, rd l 8, rd l 9, rd l 10, rd l 11, rd l 12, rd l 13, rd l 14, rd l 15, rd l 16, rd l 17, rd l 18, rd l 19, rd l 20, rd l 21, rd l 22, rd l 23, rd l 24, rd l 25, rd l 26, rd l 27, rd l 28, rd l 29, rd l 30, rd l 31, rd l 32, rd l 33, rd l 34, rd l 35⟩
theorem T73.toL_ofL {l : List Int} (h : l.length = 36) : T73.toL (T73.ofL l) = l := (show T73.toL (T73.ofL l) = (List.range 36).map (fun i : Nat => rd l (i : Int)) from rfl).trans (Qaw h)
structure XV where
 f_Rows : Int
 f_Cols : Int
 f_A : T73
instance : Inhabited XV := ⟨⟨0, 0, (⟨0, 0, 0, 0, 0, 0, 0, 0, 0, 0, 0, 0, 0, 0, 0, 0, 0, 0, 0, 0, 0, 0, 0, 0, 0, 0, 0, 0, 0, 0, 0, 0, 0, 0, 0, 0⟩ : T73)⟩⟩
structure XX where
 e0 : Int
 e1 : Int
 e2 : Int
instance : Inhabited XX := ⟨⟨0, 0, 0⟩⟩
structure Qg where
 f_Neg : Bool
 f_D : List Int
instance : Inhabited Qg := ⟨⟨false, []⟩⟩
def YK : Kd Qg := Kd.map (fun s => (s.f_Neg, s.f_D)) (Kd.pair Kd.bool (Kd.slice kI64))
theorem Z5 {H : Hp} {cs : List Value} {x : Qg} (h : YK.rep H cs x) : ∃ v0, cs = [.bool x.f_Neg, v0] ∧ Ro kI64 H v0 x.f_D := by
 obtain ⟨_, _, rfl, rfl, ⟨v0, rfl, h0⟩⟩ := (show ((Kd.pair Kd.bool (Kd.slice kI64))).rep H cs ((x.f_Neg, x.f_D)) from h)
 exact ⟨v0, rfl, h0⟩
theorem Z7 {H : Hp} {v0 : Value} {x : Qg} (h0 : Ro kI64 H v0 x.f_D) : YK.rep H [.bool x.f_Neg, v0] x :=
 (show ((Kd.pair Kd.bool (Kd.slice kI64))).rep H _ ((x.f_Neg, x.f_D)) from ⟨[.bool x.f_Neg], [v0], rfl, rfl, ⟨v0, rfl, h0⟩⟩)
structure QX where
 f_N : Qg
 f_D : Qg
instance : Inhabited QX := ⟨⟨(⟨false, []⟩ : Qg), (⟨false, []⟩ : Qg)⟩⟩
def X9 : Kd QX := Kd.map (fun s => (s.f_N, s.f_D)) (Kd.pair YK YK)
theorem JL {H : Hp} {cs : List Value} {x : QX} (h : X9.rep H cs x) : ∃ v0, ∃ v1, cs = [.bool x.f_N.f_Neg, v0, .bool x.f_D.f_Neg, v1] ∧ Ro kI64 H v0 x.f_N.f_D ∧ Ro kI64 H v1 x.f_D.f_D := by
 obtain ⟨_, _, rfl, q1, q2⟩ := (show ((Kd.pair YK YK)).rep H cs ((x.f_N, x.f_D)) from h)
 obtain ⟨v0, rfl, h0⟩ := Z5 q1
 obtain ⟨v1, rfl, h1⟩ := Z5 q2
 exact ⟨v0, v1, rfl, h0, h1⟩
theorem JS {H : Hp} {v0 v1 : Value} {x : QX} (h0 : Ro kI64 H v0 x.f_N.f_D) (h1 : Ro kI64 H v1 x.f_D.f_D) : X9.rep H [.bool x.f_N.f_Neg, v0, .bool x.f_D.f_Neg, v1] x :=
 (show ((Kd.pair YK YK)).rep H _ ((x.f_N, x.f_D)) from ⟨[.bool x.f_N.f_Neg, v0], [.bool x.f_D.f_Neg, v1], rfl, (Z7 h0), (Z7 h1)⟩)
structure Qq where
 f_neg : Bool
 f_w : List Int
instance : Inhabited Qq := ⟨⟨false, []⟩⟩
def Zo : Kd Qq := Kd.map (fun s => (s.f_neg, s.f_w)) (Kd.pair Kd.bool (Kd.slice kU32))
theorem J0 {H : Hp} {cs : List Value} {x : Qq} (h : Zo.rep H cs x) : ∃ v0, cs = [.bool x.f_neg, v0] ∧ Ro kU32 H v0 x.f_w := by
 obtain ⟨_, _, rfl, rfl, ⟨v0, rfl, h0⟩⟩ := (show ((Kd.pair Kd.bool (Kd.slice kU32))).rep H cs ((x.f_neg, x.f_w)) from h)
 exact ⟨v0, rfl, h0⟩
theorem Gi {H : Hp} {v0 : Value} {x : Qq} (h0 : Ro kU32 H v0 x.f_w) : Zo.rep H [.bool x.f_neg, v0] x :=
 (show ((Kd.pair Kd.bool (Kd.slice kU32))).rep H _ ((x.f_neg, x.f_w)) from ⟨[.bool x.f_neg], [v0], rfl, rfl, ⟨v0, rfl, h0⟩⟩)
structure Qe where
 f_n : Qq
 f_d : Qq
instance : Inhabited Qe := ⟨⟨(⟨false, []⟩ : Qq), (⟨false, []⟩ : Qq)⟩⟩
def Q1 : Kd Qe := Kd.map (fun s => (s.f_n, s.f_d)) (Kd.pair Zo Zo)
theorem Za {H : Hp} {cs : List Value} {x : Qe} (h : Q1.rep H cs x) : ∃ v0, ∃ v1, cs = [.bool x.f_n.f_neg, v0, .bool x.f_d.f_neg, v1] ∧ Ro kU32 H v0 x.f_n.f_w ∧ Ro kU32 H v1 x.f_d.f_w := by
 obtain ⟨_, _, rfl, q1, q2⟩ := (show ((Kd.pair Zo Zo)).rep H cs ((x.f_n, x.f_d)) from h)
 obtain ⟨v0, rfl, h0⟩ := J0 q1
 obtain ⟨v1, rfl, h1⟩ := J0 q2
 exact ⟨v0, v1, rfl, h0, h1⟩
theorem ZZ {H : Hp} {v0 v1 : Value} {x : Qe} (h0 : Ro kU32 H v0 x.f_n.f_w) (h1 : Ro kU32 H v1 x.f_d.f_w) : Q1.rep H [.bool x.f_n.f_neg, v0, .bool x.f_d.f_neg, v1] x :=
 (show ((Kd.pair Zo Zo)).rep H _ ((x.f_n, x.f_d)) from ⟨[.bool x.f_n.f_neg, v0], [.bool x.f_d.f_neg, v1], rfl, (Gi h0), (Gi h1)⟩)
theorem ty2 : TyA Tryz.prog 2 false 1 := ⟨⟨_, Tryz.underlying2, rfl⟩, by kernel_rfl⟩
theorem sz2 : (Tryz.prog.info? 2).map (·.size) = some 1 := by kernel_rfl
theorem ti2 : TI Tryz.prog 2 1 8 (.int .i64 0) := ⟨by kernel_rfl⟩
theorem zp2 (H : Hp) : (kI64).rep H (Value.cells (.int .i64 0)).toList 0 := rfl
theorem ty3 : TyA Tryz.prog 3 false 1 := ⟨⟨_, Tryz.underlying3, rfl⟩, by kernel_rfl⟩
theorem sz3 : (Tryz.prog.info? 3).map (·.size) = some 1 := by kernel_rfl
theorem ti3 : TI Tryz.prog 3 1 8 (.int .i64 0) := ⟨by kernel_rfl⟩
theorem zp3 (H : Hp) : (kI64).rep H (Value.cells (.int .i64 0)).toList 0 := rfl
theorem ty4 : TyA Tryz.prog 4 false 1 := ⟨⟨_, Tryz.underlying4, rfl⟩, by kernel_rfl⟩
theorem sz4 : (Tryz.prog.info? 4).map (·.size) = some 1 := by kernel_rfl
theorem ty5 : TyA Tryz.prog 5 false 1 := ⟨⟨_, Tryz.underlying5, rfl⟩, by kernel_rfl⟩
theorem sz5 : (Tryz.prog.info? 5).map (·.size) = some 1 := by kernel_rfl
theorem ti5 : TI Tryz.prog 5 1 1 (.int .u8 0) := ⟨by kernel_rfl⟩
theorem ty22 : TyA Tryz.prog 22 false 1 := ⟨⟨_, Tryz.underlying22, rfl⟩, by kernel_rfl⟩
theorem sz22 : (Tryz.prog.info? 22).map (·.size) = some 1 := by kernel_rfl
theorem ty24 : TyA Tryz.prog 24 true 2 := ⟨⟨_, Tryz.underlying24, rfl⟩, by kernel_rfl⟩
theorem sz24 : (Tryz.prog.info? 24).map (·.size) = some 2 := by kernel_rfl
theorem zr24 : (Tryz.prog.info? 24).bind (·.zero) = some (.agg #[.bool false, .slice none 0 0]) := by kernel_rfl
theorem ty26 : TyA Tryz.prog 26 true 4 := ⟨⟨_, Tryz.underlying26, rfl⟩, by kernel_rfl⟩
theorem sz26 : (Tryz.prog.info? 26).map (·.size) = some 4 := by kernel_rfl
theorem zr26 : (Tryz.prog.info? 26).bind (·.zero) = some (.agg #[.bool false, .slice none 0 0, .bool false, .slice none 0 0]) := by kernel_rfl
theorem ti26 : TI Tryz.prog 26 4 64 (.agg #[.bool false, .slice none 0 0, .bool false, .slice none 0 0]) := ⟨by kernel_rfl⟩
theorem ty35 : TyA Tryz.prog 35 false 1 := ⟨⟨_, Tryz.underlying35, rfl⟩, by kernel_rfl⟩
theorem sz35 : (Tryz.prog.info? 35).map (·.size) = some 1 := by kernel_rfl
theorem ty37 : TyA Tryz.prog 37 true 2 := ⟨⟨_, Tryz.underlying37, rfl⟩, by kernel_rfl⟩
theorem sz37 : (Tryz.prog.info? 37).map (·.size) = some 2 := by kernel_rfl
theorem zr37 : (Tryz.prog.info? 37).bind (·.zero) = some (.agg #[.bool false, .slice none 0 0]) := by kernel_rfl
theorem ty40 : TyA Tryz.prog 40 true 4 := ⟨⟨_, Tryz.underlying40, rfl⟩, by kernel_rfl⟩
theorem sz40 : (Tryz.prog.info? 40).map (·.size) = some 4 := by kernel_rfl
theorem zr40 : (Tryz.prog.info? 40).bind (·.zero) = some (.agg #[.bool false, .slice none 0 0, .bool false, .slice none 0 0]) := by kernel_rfl
theorem ti40 : TI Tryz.prog 40 4 64 (.agg #[.bool false, .slice none 0 0, .bool false, .slice none 0 0]) := ⟨by kernel_rfl⟩
theorem ty72 : TyA Tryz.prog 72 false 1 := ⟨⟨_, Tryz.underlying72, rfl⟩, by kernel_rfl⟩
theorem sz72 : (Tryz.prog.info? 72).map (·.size) = some 1 := by kernel_rfl
theorem ti72 : TI Tryz.prog 72 1 24 (.slice none 0 0) := ⟨by kernel_rfl⟩
theorem sz73 : (Tryz.prog.info? 73).map (·.size) = some 36 := by kernel_rfl
theorem ty75 : TyA Tryz.prog 75 true 38 := ⟨⟨_, Tryz.underlying75, rfl⟩, by kernel_rfl⟩
theorem sz75 : (Tryz.prog.info? 75).map (·.size) = some 38 := by kernel_rfl
theorem zr75 : (Tryz.prog.info? 75).bind (·.zero) = some (.agg ⟨(.int .i64 0 :: .int .i64 0 :: .int .i64 0 :: .int .i64 0 :: .int .i64 0 :: .int .i64 0 :: .int .i64 0 :: .int .i64 0 :: .int .i64 0 :: .int .i64 0 :: .int .i64 0 :: .int .i64 0 :: .int .i64 0 :: .int .i64 0 :: .int .i64 0 :: .int .i64 0 :: .int .i64 0 :: .int .i64 0 :: .int .i64 0 :: .int .i64 0 :: .int .i64 0 :: .int .i64 0 :: .int .i64 0 :: .int .i64 0 :: .int .i64 0 :: .int .i64 0 :: .int .i64 0 :: .int .i64 0 :: .int .i64 0 :: .int .i64 0 :: .int .i64 0 :: .int .i64 0 :: .int .i64 0 :: .int .i64 0 :: .int .i64 0 :: .int .i64 0 :: .int .i64 0 :: .int .i64 0 :: [])⟩) := by kernel_rfl
theorem ty113 : TyA Tryz.prog 113 false 1 := ⟨⟨_, Tryz.underlying113, rfl⟩, by kernel_rfl⟩
theorem sz113 : (Tryz.prog.info? 113).map (·.size) = some 1 := by kernel_rfl
theorem ty167 : TyA Tryz.prog 167 false 1 := ⟨⟨_, Tryz.underlying167, rfl⟩, by kernel_rfl⟩
theorem sz167 : (Tryz.prog.info? 167).map (·.size) = some 1 := by kernel_rfl
theorem ti167 : TI Tryz.prog 167 1 4 (.int .u32 0) := ⟨by kernel_rfl⟩
theorem zp167 (H : Hp) : (kU32).rep H (Value.cells (.int .u32 0)).toList 0 := rfl
theorem ty216 : TyA Tryz.prog 216 true 3 := ⟨⟨_, Tryz.underlying216, rfl⟩, by kernel_rfl⟩
theorem sz216 : (Tryz.prog.info? 216).map (·.size) = some 3 := by kernel_rfl
theorem zr216 : (Tryz.prog.info? 216).bind (·.zero) = some (.agg #[.int .u64 0, .int .u64 0, .int .u64 0]) := by kernel_rfl
theorem co12 : CallOk Tryz.prog 12 := ⟨_, Tryz.func12, by decide, rfl⟩
theorem co13 : CallOk Tryz.prog 13 := ⟨_, Tryz.func13, by decide, rfl⟩
theorem co14 : CallOk Tryz.prog 14 := ⟨_, Tryz.func14, by decide, rfl⟩
theorem co15 : CallOk Tryz.prog 15 := ⟨_, Tryz.func15, by decide, rfl⟩
theorem co16 : CallOk Tryz.prog 16 := ⟨_, Tryz.func16, by decide, rfl⟩
theorem co17 : CallOk Tryz.prog 17 := ⟨_, Tryz.func17, by decide, rfl⟩
theorem co18 : CallOk Tryz.prog 18 := ⟨_, Tryz.func18, by decide, rfl⟩
theorem co23 : CallOk Tryz.prog 23 := ⟨_, Tryz.func23, by decide, rfl⟩
theorem co24 : CallOk Tryz.prog 24 := ⟨_, Tryz.func24, by decide, rfl⟩
theorem co33 : CallOk Tryz.prog 33 := ⟨_, Tryz.func33, by decide, rfl⟩
theorem co39 : CallOk Tryz.prog 39 := ⟨_, Tryz.func39, by decide, rfl⟩
theorem co40 : CallOk Tryz.prog 40 := ⟨_, Tryz.func40, by decide, rfl⟩
theorem co41 : CallOk Tryz.prog 41 := ⟨_, Tryz.func41, by decide, rfl⟩
theorem co42 : CallOk Tryz.prog 42 := ⟨_, Tryz.func42, by decide, rfl⟩
theorem co43 : CallOk Tryz.prog 43 := ⟨_, Tryz.func43, by decide, rfl⟩
theorem co44 : CallOk Tryz.prog 44 := ⟨_, Tryz.func44, by decide, rfl⟩
theorem co45 : CallOk Tryz.prog 45 := ⟨_, Tryz.func45, by decide, rfl⟩
theorem co46 : CallOk Tryz.prog 46 := ⟨_, Tryz.func46, by decide, rfl⟩
theorem co48 : CallOk Tryz.prog 48 := ⟨_, Tryz.func48, by decide, rfl⟩
theorem co49 : CallOk Tryz.prog 49 := ⟨_, Tryz.func49, by decide, rfl⟩
theorem co54 : CallOk Tryz.prog 54 := ⟨_, Tryz.func54, by decide, rfl⟩
theorem co55 : CallOk Tryz.prog 55 := ⟨_, Tryz.func55, by decide, rfl⟩
theorem co56 : CallOk Tryz.prog 56 := ⟨_, Tryz.func56, by decide, rfl⟩
theorem co57 : CallOk Tryz.prog 57 := ⟨_, Tryz.func57, by decide, rfl⟩
theorem co60 : CallOk Tryz.prog 60 := ⟨_, Tryz.func60, by decide, rfl⟩
theorem co62 : CallOk Tryz.prog 62 := ⟨_, Tryz.func62, by decide, rfl⟩
theorem co63 : CallOk Tryz.prog 63 := ⟨_, Tryz.func63, by decide, rfl⟩
theorem co64 : CallOk Tryz.prog 64 := ⟨_, Tryz.func64, by decide, rfl⟩
theorem co65 : CallOk Tryz.prog 65 := ⟨_, Tryz.func65, by decide, rfl⟩
theorem co66 : CallOk Tryz.prog 66 := ⟨_, Tryz.func66, by decide, rfl⟩
theorem co67 : CallOk Tryz.prog 67 := ⟨_, Tryz.func67, by decide, rfl⟩
theorem co68 : CallOk Tryz.prog 68 := ⟨_, Tryz.func68, by decide, rfl⟩
theorem co69 : CallOk Tryz.prog 69 := ⟨_, Tryz.func69, by decide, rfl⟩
theorem co70 : CallOk Tryz.prog 70 := ⟨_, Tryz.func70, by decide, rfl⟩
theorem co71 : CallOk Tryz.prog 71 := ⟨_, Tryz.func71, by decide, rfl⟩
theorem co72 : CallOk Tryz.prog 72 := ⟨_, Tryz.func72, by decide, rfl⟩
theorem co73 : CallOk Tryz.prog 73 := ⟨_, Tryz.func73, by decide, rfl⟩
theorem co76 : CallOk Tryz.prog 76 := ⟨_, Tryz.func76, by decide, rfl⟩
theorem co77 : CallOk Tryz.prog 77 := ⟨_, Tryz.func77, by decide, rfl⟩
theorem co78 : CallOk Tryz.prog 78 := ⟨_, Tryz.func78, by decide, rfl⟩
theorem co83 : CallOk Tryz.prog 83 := ⟨_, Tryz.func83, by decide, rfl⟩
theorem co84 : CallOk Tryz.prog 84 := ⟨_, Tryz.func84, by decide, rfl⟩
theorem co87 : CallOk Tryz.prog 87 := ⟨_, Tryz.func87, by decide, rfl⟩
theorem co90 : CallOk Tryz.prog 90 := ⟨_, Tryz.func90, by decide, rfl⟩
theorem co91 : CallOk Tryz.prog 91 := ⟨_, Tryz.func91, by decide, rfl⟩
theorem co92 : CallOk Tryz.prog 92 := ⟨_, Tryz.func92, by decide, rfl⟩
theorem co93 : CallOk Tryz.prog 93 := ⟨_, Tryz.func93, by decide, rfl⟩
theorem co94 : CallOk Tryz.prog 94 := ⟨_, Tryz.func94, by decide, rfl⟩
theorem co95 : CallOk Tryz.prog 95 := ⟨_, Tryz.func95, by decide, rfl⟩
theorem co96 : CallOk Tryz.prog 96 := ⟨_, Tryz.func96, by decide, rfl⟩
theorem co97 : CallOk Tryz.prog 97 := ⟨_, Tryz.func97, by decide, rfl⟩
theorem co98 : CallOk Tryz.prog 98 := ⟨_, Tryz.func98, by decide, rfl⟩
theorem co99 : CallOk Tryz.prog 99 := ⟨_, Tryz.func99, by decide, rfl⟩
theorem co104 : CallOk Tryz.prog 104 := ⟨_, Tryz.func104, by decide, rfl⟩
theorem co105 : CallOk Tryz.prog 105 := ⟨_, Tryz.func105, by decide, rfl⟩
theorem co106 : CallOk Tryz.prog 106 := ⟨_, Tryz.func106, by decide, rfl⟩
theorem co107 : CallOk Tryz.prog 107 := ⟨_, Tryz.func107, by decide, rfl⟩
theorem co113 : CallOk Tryz.prog 113 := ⟨_, Tryz.func113, by decide, rfl⟩
theorem co114 : CallOk Tryz.prog 114 := ⟨_, Tryz.func114, by decide, rfl⟩
theorem co115 : CallOk Tryz.prog 115 := ⟨_, Tryz.func115, by decide, rfl⟩
theorem co116 : CallOk Tryz.prog 116 := ⟨_, Tryz.func116, by decide, rfl⟩
theorem co117 : CallOk Tryz.prog 117 := ⟨_, Tryz.func117, by decide, rfl⟩
theorem co118 : CallOk Tryz.prog 118 := ⟨_, Tryz.func118, by decide, rfl⟩
theorem co119 : CallOk Tryz.prog 119 := ⟨_, Tryz.func119, by decide, rfl⟩
theorem co120 : CallOk Tryz.prog 120 := ⟨_, Tryz.func120, by decide, rfl⟩
theorem co121 : CallOk Tryz.prog 121 := ⟨_, Tryz.func121, by decide, rfl⟩
theorem co122 : CallOk Tryz.prog 122 := ⟨_, Tryz.func122, by decide, rfl⟩
theorem co123 : CallOk Tryz.prog 123 := ⟨_, Tryz.func123, by decide, rfl⟩
theorem co124 : CallOk Tryz.prog 124 := ⟨_, Tryz.func124, by decide, rfl⟩
theorem co127 : CallOk Tryz.prog 127 := ⟨_, Tryz.func127, by decide, rfl⟩
theorem co128 : CallOk Tryz.prog 128 := ⟨_, Tryz.func128, by decide, rfl⟩
theorem co130 : CallOk Tryz.prog 130 := ⟨_, Tryz.func130, by decide, rfl⟩
theorem co131 : CallOk Tryz.prog 131 := ⟨_, Tryz.func131, by decide, rfl⟩
theorem co133 : CallOk Tryz.prog 133 := ⟨_, Tryz.func133, by decide, rfl⟩
theorem co134 : CallOk Tryz.prog 134 := ⟨_, Tryz.func134, by decide, rfl⟩
theorem co135 : CallOk Tryz.prog 135 := ⟨_, Tryz.func135, by decide, rfl⟩
theorem co136 : CallOk Tryz.prog 136 := ⟨_, Tryz.func136, by decide, rfl⟩
theorem co137 : CallOk Tryz.prog 137 := ⟨_, Tryz.func137, by decide, rfl⟩
theorem co141 : CallOk Tryz.prog 141 := ⟨_, Tryz.func141, by decide, rfl⟩
theorem co142 : CallOk Tryz.prog 142 := ⟨_, Tryz.func142, by decide, rfl⟩
theorem co143 : CallOk Tryz.prog 143 := ⟨_, Tryz.func143, by decide, rfl⟩
theorem co144 : CallOk Tryz.prog 144 := ⟨_, Tryz.func144, by decide, rfl⟩
theorem co145 : CallOk Tryz.prog 145 := ⟨_, Tryz.func145, by decide, rfl⟩
theorem co147 : CallOk Tryz.prog 147 := ⟨_, Tryz.func147, by decide, rfl⟩
theorem co148 : CallOk Tryz.prog 148 := ⟨_, Tryz.func148, by decide, rfl⟩
theorem co149 : CallOk Tryz.prog 149 := ⟨_, Tryz.func149, by decide, rfl⟩
theorem co150 : CallOk Tryz.prog 150 := ⟨_, Tryz.func150, by decide, rfl⟩
theorem co151 : CallOk Tryz.prog 151 := ⟨_, Tryz.func151, by decide, rfl⟩
theorem co152 : CallOk Tryz.prog 152 := ⟨_, Tryz.func152, by decide, rfl⟩
theorem co153 : CallOk Tryz.prog 153 := ⟨_, Tryz.func153, by decide, rfl⟩
theorem co154 : CallOk Tryz.prog 154 := ⟨_, Tryz.func154, by decide, rfl⟩
theorem co155 : CallOk Tryz.prog 155 := ⟨_, Tryz.func155, by decide, rfl⟩
theorem co156 : CallOk Tryz.prog 156 := ⟨_, Tryz.func156, by decide, rfl⟩
theorem co157 : CallOk Tryz.prog 157 := ⟨_, Tryz.func157, by decide, rfl⟩
theorem co158 : CallOk Tryz.prog 158 := ⟨_, Tryz.func158, by decide, rfl⟩
theorem co159 : CallOk Tryz.prog 159 := ⟨_, Tryz.func159, by decide, rfl⟩
theorem co161 : CallOk Tryz.prog 161 := ⟨_, Tryz.func161, by decide, rfl⟩
theorem co162 : CallOk Tryz.prog 162 := ⟨_, Tryz.func162, by decide, rfl⟩
theorem co163 : CallOk Tryz.prog 163 := ⟨_, Tryz.func163, by decide, rfl⟩
theorem co164 : CallOk Tryz.prog 164 := ⟨_, Tryz.func164, by decide, rfl⟩
theorem co165 : CallOk Tryz.prog 165 := ⟨_, Tryz.func165, by decide, rfl⟩
theorem co166 : CallOk Tryz.prog 166 := ⟨_, Tryz.func166, by decide, rfl⟩
theorem co167 : CallOk Tryz.prog 167 := ⟨_, Tryz.func167, by decide, rfl⟩
theorem fn_7 : Tryz.prog.funcs[7]? = some Tryz.f7 := Tryz.func7
theorem rs_7 : Tryz.f7.results = ⟨[.tmp 6]⟩ := rfl
theorem nt_7 : Tryz.f7.ntmps = 117 := rfl
theorem fn_12 : Tryz.prog.funcs[12]? = some Tryz.f12 := Tryz.func12
theorem rs_12 : Tryz.f12.results = ⟨[.cell 2 37]⟩ := rfl
theorem nt_12 : Tryz.f12.ntmps = 26 := rfl
theorem fn_13 : Tryz.prog.funcs[13]? = some Tryz.f13 := Tryz.func13
theorem rs_13 : Tryz.f13.results = ⟨[.cell 4 40]⟩ := rfl
theorem nt_13 : Tryz.f13.ntmps = 49 := rfl
theorem fn_14 : Tryz.prog.funcs[14]? = some Tryz.f14 := Tryz.func14
theorem rs_14 : Tryz.f14.results = ⟨[.cell 4 37]⟩ := rfl
theorem nt_14 : Tryz.f14.ntmps = 9 := rfl
theorem fn_15 : Tryz.prog.funcs[15]? = some Tryz.f15 := Tryz.func15
theorem rs_15 : Tryz.f15.results = ⟨[.cell 4 37]⟩ := rfl
theorem nt_15 : Tryz.f15.ntmps = 76 := rfl
theorem fn_16 : Tryz.prog.funcs[16]? = some Tryz.f16 := Tryz.func16
theorem rs_16 : Tryz.f16.results = ⟨[.cell 2 37]⟩ := rfl
theorem nt_16 : Tryz.f16.ntmps = 25 := rfl
theorem fn_17 : Tryz.prog.funcs[17]? = some Tryz.f17 := Tryz.func17
theorem rs_17 : Tryz.f17.results = ⟨[.cell 4 37]⟩ := rfl
theorem nt_17 : Tryz.f17.ntmps = 39 := rfl
theorem fn_18 : Tryz.prog.funcs[18]? = some Tryz.f18 := Tryz.func18
theorem rs_18 : Tryz.f18.results = ⟨[.cell 4 26, .tmp 5]⟩ := rfl
theorem nt_18 : Tryz.f18.ntmps = 32 := rfl
theorem fn_23 : Tryz.prog.funcs[23]? = some Tryz.f23 := Tryz.func23
theorem rs_23 : Tryz.f23.results = ⟨[.cell 4 26, .tmp 5]⟩ := rfl
theorem nt_23 : Tryz.f23.ntmps = 11 := rfl
theorem fn_24 : Tryz.prog.funcs[24]? = some Tryz.f24 := Tryz.func24
theorem rs_24 : Tryz.f24.results = ⟨[.cell 4 26, .tmp 5]⟩ := rfl
theorem nt_24 : Tryz.f24.ntmps = 17 := rfl
theorem fn_33 : Tryz.prog.funcs[33]? = some Tryz.f33 := Tryz.func33
theorem rs_33 : Tryz.f33.results = ⟨[.tmp 2]⟩ := rfl
theorem nt_33 : Tryz.f33.ntmps = 11 := rfl
theorem fn_39 : Tryz.prog.funcs[39]? = some Tryz.f39 := Tryz.func39
theorem rs_39 : Tryz.f39.results = ⟨[.cell 2 75]⟩ := rfl
theorem nt_39 : Tryz.f39.ntmps = 14 := rfl
theorem fn_40 : Tryz.prog.funcs[40]? = some Tryz.f40 := Tryz.func40
theorem rs_40 : Tryz.f40.results = ⟨[.cell 2 26, .tmp 3]⟩ := rfl
theorem nt_40 : Tryz.f40.ntmps = 53 := rfl
theorem fn_41 : Tryz.prog.funcs[41]? = some Tryz.f41 := Tryz.func41
theorem rs_41 : Tryz.f41.results = ⟨[.cell 4 26, .tmp 5]⟩ := rfl
theorem nt_41 : Tryz.f41.ntmps = 36 := rfl
theorem fn_42 : Tryz.prog.funcs[42]? = some Tryz.f42 := Tryz.func42
theorem rs_42 : Tryz.f42.results = ⟨[.cell 2 26]⟩ := rfl
theorem nt_42 : Tryz.f42.ntmps = 16 := rfl
theorem fn_43 : Tryz.prog.funcs[43]? = some Tryz.f43 := Tryz.func43
theorem rs_43 : Tryz.f43.results = ⟨[.cell 2 40]⟩ := rfl
theorem nt_43 : Tryz.f43.ntmps = 7 := rfl
theorem fn_44 : Tryz.prog.funcs[44]? = some Tryz.f44 := Tryz.func44
theorem rs_44 : Tryz.f44.results = ⟨[.tmp 4, .tmp 5]⟩ := rfl
theorem nt_44 : Tryz.f44.ntmps = 51 := rfl
theorem fn_45 : Tryz.prog.funcs[45]? = some Tryz.f45 := Tryz.func45
theorem rs_45 : Tryz.f45.results = ⟨[.tmp 2]⟩ := rfl
theorem nt_45 : Tryz.f45.ntmps = 20 := rfl
theorem fn_46 : Tryz.prog.funcs[46]? = some Tryz.f46 := Tryz.func46
theorem rs_46 : Tryz.f46.results = ⟨[.tmp 2]⟩ := rfl
theorem nt_46 : Tryz.f46.ntmps = 20 := rfl
theorem fn_49 : Tryz.prog.funcs[49]? = some Tryz.f49 := Tryz.func49
theorem rs_49 : Tryz.f49.results = ⟨[.tmp 0]⟩ := rfl
theorem nt_49 : Tryz.f49.ntmps = 57 := rfl
theorem fn_54 : Tryz.prog.funcs[54]? = some Tryz.f54 := Tryz.func54
theorem rs_54 : Tryz.f54.results = ⟨[.tmp 4, .tmp 5, .tmp 6]⟩ := rfl
theorem nt_54 : Tryz.f54.ntmps = 58 := rfl
theorem fn_55 : Tryz.prog.funcs[55]? = some Tryz.f55 := Tryz.func55
theorem rs_55 : Tryz.f55.results = ⟨[.cell 4 26, .tmp 5]⟩ := rfl
theorem nt_55 : Tryz.f55.ntmps = 65 := rfl
theorem fn_56 : Tryz.prog.funcs[56]? = some Tryz.f56 := Tryz.func56
theorem rs_56 : Tryz.f56.results = ⟨[.tmp 4, .tmp 5]⟩ := rfl
theorem nt_56 : Tryz.f56.ntmps = 22 := rfl
theorem fn_57 : Tryz.prog.funcs[57]? = some Tryz.f57 := Tryz.func57
theorem rs_57 : Tryz.f57.results = ⟨[.cell 6 26, .tmp 7]⟩ := rfl
theorem nt_57 : Tryz.f57.ntmps = 43 := rfl
theorem fn_60 : Tryz.prog.funcs[60]? = some Tryz.f60 := Tryz.func60
theorem rs_60 : Tryz.f60.results = ⟨[.cell 4 26, .tmp 5]⟩ := rfl
theorem nt_60 : Tryz.f60.ntmps = 11 := rfl
theorem fn_62 : Tryz.prog.funcs[62]? = some Tryz.f62 := Tryz.func62
theorem rs_62 : Tryz.f62.results = ⟨[.tmp 2]⟩ := rfl
theorem nt_62 : Tryz.f62.ntmps = 9 := rfl
theorem fn_63 : Tryz.prog.funcs[63]? = some Tryz.f63 := Tryz.func63
theorem rs_63 : Tryz.f63.results = ⟨[.cell 2 37]⟩ := rfl
theorem nt_63 : Tryz.f63.ntmps = 9 := rfl
theorem fn_64 : Tryz.prog.funcs[64]? = some Tryz.f64 := Tryz.func64
theorem rs_64 : Tryz.f64.results = ⟨[.cell 2 37]⟩ := rfl
theorem nt_64 : Tryz.f64.ntmps = 6 := rfl
theorem fn_65 : Tryz.prog.funcs[65]? = some Tryz.f65 := Tryz.func65
theorem rs_65 : Tryz.f65.results = ⟨[.cell 4 37, .cell 5 37]⟩ := rfl
theorem nt_65 : Tryz.f65.ntmps = 79 := rfl
theorem fn_66 : Tryz.prog.funcs[66]? = some Tryz.f66 := Tryz.func66
theorem rs_66 : Tryz.f66.results = ⟨[.cell 4 37]⟩ := rfl
theorem nt_66 : Tryz.f66.ntmps = 13 := rfl
theorem fn_67 : Tryz.prog.funcs[67]? = some Tryz.f67 := Tryz.func67
theorem rs_67 : Tryz.f67.results = ⟨[.tmp 2]⟩ := rfl
theorem nt_67 : Tryz.f67.ntmps = 21 := rfl
theorem fn_68 : Tryz.prog.funcs[68]? = some Tryz.f68 := Tryz.func68
theorem rs_68 : Tryz.f68.results = ⟨[.tmp 4]⟩ := rfl
theorem nt_68 : Tryz.f68.ntmps = 52 := rfl
theorem fn_69 : Tryz.prog.funcs[69]? = some Tryz.f69 := Tryz.func69
theorem rs_69 : Tryz.f69.results = ⟨[.tmp 4]⟩ := rfl
theorem nt_69 : Tryz.f69.ntmps = 41 := rfl
theorem fn_70 : Tryz.prog.funcs[70]? = some Tryz.f70 := Tryz.func70
theorem rs_70 : Tryz.f70.results = ⟨[.tmp 4]⟩ := rfl
theorem nt_70 : Tryz.f70.ntmps = 41 := rfl
theorem fn_71 : Tryz.prog.funcs[71]? = some Tryz.f71 := Tryz.func71
theorem rs_71 : Tryz.f71.results = ⟨[.cell 2 24]⟩ := rfl
theorem nt_71 : Tryz.f71.ntmps = 20 := rfl
theorem fn_72 : Tryz.prog.funcs[72]? = some Tryz.f72 := Tryz.func72
theorem rs_72 : Tryz.f72.results = ⟨[.cell 4 24, .tmp 5]⟩ := rfl
theorem nt_72 : Tryz.f72.ntmps = 109 := rfl
theorem fn_73 : Tryz.prog.funcs[73]? = some Tryz.f73 := Tryz.func73
theorem rs_73 : Tryz.f73.results = ⟨[.cell 4 26, .tmp 5]⟩ := rfl
theorem nt_73 : Tryz.f73.ntmps = 60 := rfl
theorem fn_76 : Tryz.prog.funcs[76]? = some Tryz.f76 := Tryz.func76
theorem rs_76 : Tryz.f76.results = ⟨[.cell 6 26, .tmp 7]⟩ := rfl
theorem nt_76 : Tryz.f76.ntmps = 54 := rfl
theorem fn_77 : Tryz.prog.funcs[77]? = some Tryz.f77 := Tryz.func77
theorem rs_77 : Tryz.f77.results = ⟨[.cell 8 26, .tmp 9]⟩ := rfl
theorem nt_77 : Tryz.f77.ntmps = 38 := rfl
theorem fn_78 : Tryz.prog.funcs[78]? = some Tryz.f78 := Tryz.func78
theorem rs_78 : Tryz.f78.results = ⟨[.cell 2 24]⟩ := rfl
theorem nt_78 : Tryz.f78.ntmps = 10 := rfl
theorem fn_83 : Tryz.prog.funcs[83]? = some Tryz.f83 := Tryz.func83
theorem rs_83 : Tryz.f83.results = ⟨[.cell 2 24, .cell 3 24]⟩ := rfl
theorem nt_83 : Tryz.f83.ntmps = 8 := rfl
theorem fn_84 : Tryz.prog.funcs[84]? = some Tryz.f84 := Tryz.func84
theorem rs_84 : Tryz.f84.results = ⟨[.tmp 2]⟩ := rfl
theorem nt_84 : Tryz.f84.ntmps = 11 := rfl
theorem fn_87 : Tryz.prog.funcs[87]? = some Tryz.f87 := Tryz.func87
theorem rs_87 : Tryz.f87.results = ⟨[.tmp 2]⟩ := rfl
theorem nt_87 : Tryz.f87.ntmps = 52 := rfl
theorem fn_90 : Tryz.prog.funcs[90]? = some Tryz.f90 := Tryz.func90
theorem rs_90 : Tryz.f90.results = ⟨[.cell 2 75, .tmp 3]⟩ := rfl
theorem nt_90 : Tryz.f90.ntmps = 52 := rfl
theorem fn_91 : Tryz.prog.funcs[91]? = some Tryz.f91 := Tryz.func91
theorem rs_91 : Tryz.f91.results = ⟨[.tmp 2]⟩ := rfl
theorem nt_91 : Tryz.f91.ntmps = 32 := rfl
theorem fn_92 : Tryz.prog.funcs[92]? = some Tryz.f92 := Tryz.func92
theorem rs_92 : Tryz.f92.results = ⟨[.tmp 4, .tmp 5]⟩ := rfl
theorem nt_92 : Tryz.f92.ntmps = 41 := rfl
theorem fn_93 : Tryz.prog.funcs[93]? = some Tryz.f93 := Tryz.func93
theorem rs_93 : Tryz.f93.results = ⟨[.cell 2 26, .tmp 3]⟩ := rfl
theorem nt_93 : Tryz.f93.ntmps = 37 := rfl
theorem fn_94 : Tryz.prog.funcs[94]? = some Tryz.f94 := Tryz.func94
theorem rs_94 : Tryz.f94.results = ⟨[.cell 4 26, .tmp 5]⟩ := rfl
theorem nt_94 : Tryz.f94.ntmps = 23 := rfl
theorem fn_95 : Tryz.prog.funcs[95]? = some Tryz.f95 := Tryz.func95
theorem rs_95 : Tryz.f95.results = ⟨[.tmp 2]⟩ := rfl
theorem nt_95 : Tryz.f95.ntmps = 13 := rfl
theorem fn_96 : Tryz.prog.funcs[96]? = some Tryz.f96 := Tryz.func96
theorem rs_96 : Tryz.f96.results = ⟨[.cell 6 26, .tmp 7]⟩ := rfl
theorem nt_96 : Tryz.f96.ntmps = 25 := rfl
theorem fn_97 : Tryz.prog.funcs[97]? = some Tryz.f97 := Tryz.func97
theorem rs_97 : Tryz.f97.results = ⟨[.cell 2 24]⟩ := rfl
theorem nt_97 : Tryz.f97.ntmps = 12 := rfl
theorem fn_98 : Tryz.prog.funcs[98]? = some Tryz.f98 := Tryz.func98
theorem rs_98 : Tryz.f98.results = ⟨[.cell 4 26, .tmp 5]⟩ := rfl
theorem nt_98 : Tryz.f98.ntmps = 44 := rfl
theorem fn_99 : Tryz.prog.funcs[99]? = some Tryz.f99 := Tryz.func99
theorem rs_99 : Tryz.f99.results = ⟨[.tmp 2]⟩ := rfl
theorem nt_99 : Tryz.f99.ntmps = 35 := rfl
theorem fn_104 : Tryz.prog.funcs[104]? = some Tryz.f104 := Tryz.func104
theorem rs_104 : Tryz.f104.results = ⟨[.tmp 4, .tmp 5]⟩ := rfl
theorem nt_104 : Tryz.f104.ntmps = 22 := rfl
theorem fn_105 : Tryz.prog.funcs[105]? = some Tryz.f105 := Tryz.func105
theorem rs_105 : Tryz.f105.results = ⟨[.cell 2 26, .tmp 3]⟩ := rfl
theorem nt_105 : Tryz.f105.ntmps = 13 := rfl
theorem fn_106 : Tryz.prog.funcs[106]? = some Tryz.f106 := Tryz.func106
theorem rs_106 : Tryz.f106.results = ⟨[.cell 4 24, .cell 5 24, .tmp 6]⟩ := rfl
theorem nt_106 : Tryz.f106.ntmps = 34 := rfl
theorem fn_107 : Tryz.prog.funcs[107]? = some Tryz.f107 := Tryz.func107
theorem rs_107 : Tryz.f107.results = ⟨[.tmp 4]⟩ := rfl
theorem nt_107 : Tryz.f107.ntmps = 33 := rfl
theorem fn_113 : Tryz.prog.funcs[113]? = some Tryz.f113 := Tryz.func113
theorem rs_113 : Tryz.f113.results = ⟨[.tmp 2]⟩ := rfl
theorem nt_113 : Tryz.f113.ntmps = 21 := rfl
theorem fn_114 : Tryz.prog.funcs[114]? = some Tryz.f114 := Tryz.func114
theorem rs_114 : Tryz.f114.results = ⟨[.tmp 4]⟩ := rfl
theorem nt_114 : Tryz.f114.ntmps = 40 := rfl
theorem fn_115 : Tryz.prog.funcs[115]? = some Tryz.f115 := Tryz.func115
theorem rs_115 : Tryz.f115.results = ⟨[.cell 4 24, .tmp 5]⟩ := rfl
theorem nt_115 : Tryz.f115.ntmps = 21 := rfl
theorem fn_116 : Tryz.prog.funcs[116]? = some Tryz.f116 := Tryz.func116
theorem rs_116 : Tryz.f116.results = ⟨[.tmp 4]⟩ := rfl
theorem nt_116 : Tryz.f116.ntmps = 9 := rfl
theorem fn_117 : Tryz.prog.funcs[117]? = some Tryz.f117 := Tryz.func117
theorem rs_117 : Tryz.f117.results = ⟨[.tmp 2]⟩ := rfl
theorem nt_117 : Tryz.f117.ntmps = 5 := rfl
theorem fn_118 : Tryz.prog.funcs[118]? = some Tryz.f118 := Tryz.func118
theorem rs_118 : Tryz.f118.results = ⟨[.tmp 4]⟩ := rfl
theorem nt_118 : Tryz.f118.ntmps = 44 := rfl
theorem fn_119 : Tryz.prog.funcs[119]? = some Tryz.f119 := Tryz.func119
theorem rs_119 : Tryz.f119.results = ⟨[.tmp 2]⟩ := rfl
theorem nt_119 : Tryz.f119.ntmps = 8 := rfl
theorem fn_120 : Tryz.prog.funcs[120]? = some Tryz.f120 := Tryz.func120
theorem rs_120 : Tryz.f120.results = ⟨[.cell 4 24, .tmp 5]⟩ := rfl
theorem nt_120 : Tryz.f120.ntmps = 12 := rfl
theorem fn_121 : Tryz.prog.funcs[121]? = some Tryz.f121 := Tryz.func121
theorem rs_121 : Tryz.f121.results = ⟨[.cell 2 24]⟩ := rfl
theorem nt_121 : Tryz.f121.ntmps = 15 := rfl
theorem fn_122 : Tryz.prog.funcs[122]? = some Tryz.f122 := Tryz.func122
theorem rs_122 : Tryz.f122.results = ⟨[.cell 4 24, .tmp 5]⟩ := rfl
theorem nt_122 : Tryz.f122.ntmps = 26 := rfl
theorem fn_123 : Tryz.prog.funcs[123]? = some Tryz.f123 := Tryz.func123
theorem rs_123 : Tryz.f123.results = ⟨[.cell 2 24]⟩ := rfl
theorem nt_123 : Tryz.f123.ntmps = 9 := rfl
theorem fn_124 : Tryz.prog.funcs[124]? = some Tryz.f124 := Tryz.func124
theorem rs_124 : Tryz.f124.results = ⟨[.cell 4 24, .cell 5 24, .tmp 6]⟩ := rfl
theorem nt_124 : Tryz.f124.ntmps = 77 := rfl
theorem fn_127 : Tryz.prog.funcs[127]? = some Tryz.f127 := Tryz.func127
theorem rs_127 : Tryz.f127.results = ⟨[.cell 4 24, .tmp 5]⟩ := rfl
theorem nt_127 : Tryz.f127.ntmps = 39 := rfl
theorem fn_128 : Tryz.prog.funcs[128]? = some Tryz.f128 := Tryz.func128
theorem rs_128 : Tryz.f128.results = ⟨[.cell 4 24, .tmp 5]⟩ := rfl
theorem nt_128 : Tryz.f128.ntmps = 19 := rfl
theorem fn_130 : Tryz.prog.funcs[130]? = some Tryz.f130 := Tryz.func130
theorem rs_130 : Tryz.f130.results = ⟨[.tmp 4, .tmp 5]⟩ := rfl
theorem nt_130 : Tryz.f130.ntmps = 44 := rfl
theorem fn_131 : Tryz.prog.funcs[131]? = some Tryz.f131 := Tryz.func131
theorem rs_131 : Tryz.f131.results = ⟨[]⟩ := rfl
theorem nt_131 : Tryz.f131.ntmps = 28 := rfl
theorem fn_133 : Tryz.prog.funcs[133]? = some Tryz.f133 := Tryz.func133
theorem rs_133 : Tryz.f133.results = ⟨[.tmp 2]⟩ := rfl
theorem nt_133 : Tryz.f133.ntmps = 9 := rfl
theorem fn_134 : Tryz.prog.funcs[134]? = some Tryz.f134 := Tryz.func134
theorem rs_134 : Tryz.f134.results = ⟨[.cell 2 24, .tmp 3]⟩ := rfl
theorem nt_134 : Tryz.f134.ntmps = 56 := rfl
theorem fn_135 : Tryz.prog.funcs[135]? = some Tryz.f135 := Tryz.func135
theorem rs_135 : Tryz.f135.results = ⟨[.tmp 6, .tmp 7, .tmp 8]⟩ := rfl
theorem nt_135 : Tryz.f135.ntmps = 55 := rfl
theorem fn_136 : Tryz.prog.funcs[136]? = some Tryz.f136 := Tryz.func136
theorem rs_136 : Tryz.f136.results = ⟨[.tmp 4]⟩ := rfl
theorem nt_136 : Tryz.f136.ntmps = 20 := rfl
theorem fn_137 : Tryz.prog.funcs[137]? = some Tryz.f137 := Tryz.func137
theorem rs_137 : Tryz.f137.results = ⟨[.tmp 4]⟩ := rfl
theorem nt_137 : Tryz.f137.ntmps = 35 := rfl
theorem fn_141 : Tryz.prog.funcs[141]? = some Tryz.f141 := Tryz.func141
theorem rs_141 : Tryz.f141.results = ⟨[.tmp 4]⟩ := rfl
theorem nt_141 : Tryz.f141.ntmps = 19 := rfl
theorem fn_142 : Tryz.prog.funcs[142]? = some Tryz.f142 := Tryz.func142
theorem rs_142 : Tryz.f142.results = ⟨[.tmp 4, .tmp 5]⟩ := rfl
theorem nt_142 : Tryz.f142.ntmps = 86 := rfl
theorem fn_143 : Tryz.prog.funcs[143]? = some Tryz.f143 := Tryz.func143
theorem rs_143 : Tryz.f143.results = ⟨[.tmp 4]⟩ := rfl
theorem nt_143 : Tryz.f143.ntmps = 43 := rfl
theorem fn_144 : Tryz.prog.funcs[144]? = some Tryz.f144 := Tryz.func144
theorem rs_144 : Tryz.f144.results = ⟨[.tmp 4]⟩ := rfl
theorem nt_144 : Tryz.f144.ntmps = 56 := rfl
theorem fn_145 : Tryz.prog.funcs[145]? = some Tryz.f145 := Tryz.func145
theorem rs_145 : Tryz.f145.results = ⟨[.tmp 4]⟩ := rfl
theorem nt_145 : Tryz.f145.ntmps = 67 := rfl
theorem fn_147 : Tryz.prog.funcs[147]? = some Tryz.f147 := Tryz.func147
theorem rs_147 : Tryz.f147.results = ⟨[.tmp 2]⟩ := rfl
theorem nt_147 : Tryz.f147.ntmps = 37 := rfl
theorem fn_148 : Tryz.prog.funcs[148]? = some Tryz.f148 := Tryz.func148
theorem rs_148 : Tryz.f148.results = ⟨[.tmp 2]⟩ := rfl
theorem nt_148 : Tryz.f148.ntmps = 9 := rfl
theorem fn_149 : Tryz.prog.funcs[149]? = some Tryz.f149 := Tryz.func149
theorem rs_149 : Tryz.f149.results = ⟨[.cell 4 216]⟩ := rfl
theorem nt_149 : Tryz.f149.ntmps = 25 := rfl
theorem fn_150 : Tryz.prog.funcs[150]? = some Tryz.f150 := Tryz.func150
theorem rs_150 : Tryz.f150.results = ⟨[.cell 4 216]⟩ := rfl
theorem nt_150 : Tryz.f150.ntmps = 27 := rfl
theorem fn_151 : Tryz.prog.funcs[151]? = some Tryz.f151 := Tryz.func151
theorem rs_151 : Tryz.f151.results = ⟨[.cell 4 216]⟩ := rfl
theorem nt_151 : Tryz.f151.ntmps = 67 := rfl
theorem fn_152 : Tryz.prog.funcs[152]? = some Tryz.f152 := Tryz.func152
theorem rs_152 : Tryz.f152.results = ⟨[.tmp 2, .tmp 3]⟩ := rfl
theorem nt_152 : Tryz.f152.ntmps = 22 := rfl
theorem fn_153 : Tryz.prog.funcs[153]? = some Tryz.f153 := Tryz.func153
theorem rs_153 : Tryz.f153.results = ⟨[.tmp 2]⟩ := rfl
theorem nt_153 : Tryz.f153.ntmps = 6 := rfl
theorem fn_154 : Tryz.prog.funcs[154]? = some Tryz.f154 := Tryz.func154
theorem rs_154 : Tryz.f154.results = ⟨[.tmp 4]⟩ := rfl
theorem nt_154 : Tryz.f154.ntmps = 20 := rfl
theorem fn_155 : Tryz.prog.funcs[155]? = some Tryz.f155 := Tryz.func155
theorem rs_155 : Tryz.f155.results = ⟨[.tmp 2]⟩ := rfl
theorem nt_155 : Tryz.f155.ntmps = 6 := rfl
theorem fn_156 : Tryz.prog.funcs[156]? = some Tryz.f156 := Tryz.func156
theorem rs_156 : Tryz.f156.results = ⟨[.tmp 6]⟩ := rfl
theorem nt_156 : Tryz.f156.ntmps = 83 := rfl
theorem fn_157 : Tryz.prog.funcs[157]? = some Tryz.f157 := Tryz.func157
theorem rs_157 : Tryz.f157.results = ⟨[.tmp 8]⟩ := rfl
theorem nt_157 : Tryz.f157.ntmps = 60 := rfl
theorem fn_158 : Tryz.prog.funcs[158]? = some Tryz.f158 := Tryz.func158
theorem rs_158 : Tryz.f158.results = ⟨[]⟩ := rfl
theorem nt_158 : Tryz.f158.ntmps = 44 := rfl
theorem fn_159 : Tryz.prog.funcs[159]? = some Tryz.f159 := Tryz.func159
theorem rs_159 : Tryz.f159.results = ⟨[.tmp 6, .tmp 7]⟩ := rfl
theorem nt_159 : Tryz.f159.ntmps = 25 := rfl
theorem fn_161 : Tryz.prog.funcs[161]? = some Tryz.f161 := Tryz.func161
theorem rs_161 : Tryz.f161.results = ⟨[.tmp 4, .tmp 5]⟩ := rfl
theorem nt_161 : Tryz.f161.ntmps = 51 := rfl
theorem fn_162 : Tryz.prog.funcs[162]? = some Tryz.f162 := Tryz.func162
theorem rs_162 : Tryz.f162.results = ⟨[.tmp 2]⟩ := rfl
theorem nt_162 : Tryz.f162.ntmps = 10 := rfl
theorem fn_163 : Tryz.prog.funcs[163]? = some Tryz.f163 := Tryz.func163
theorem rs_163 : Tryz.f163.results = ⟨[.cell 2 216]⟩ := rfl
theorem nt_163 : Tryz.f163.ntmps = 21 := rfl
theorem fn_164 : Tryz.prog.funcs[164]? = some Tryz.f164 := Tryz.func164
theorem rs_164 : Tryz.f164.results = ⟨[.tmp 2]⟩ := rfl
theorem nt_164 : Tryz.f164.ntmps = 7 := rfl
theorem fn_165 : Tryz.prog.funcs[165]? = some Tryz.f165 := Tryz.func165
theorem rs_165 : Tryz.f165.results = ⟨[.cell 2 216]⟩ := rfl
theorem nt_165 : Tryz.f165.ntmps = 12 := rfl
theorem fn_166 : Tryz.prog.funcs[166]? = some Tryz.f166 := Tryz.func166
theorem rs_166 : Tryz.f166.results = ⟨[.tmp 2]⟩ := rfl
theorem nt_166 : Tryz.f166.ntmps = 6 := rfl
theorem fn_167 : Tryz.prog.funcs[167]? = some Tryz.f167 := Tryz.func167
theorem rs_167 : Tryz.f167.results = ⟨[.tmp 2]⟩ := rfl
theorem nt_167 : Tryz.f167.ntmps = 19 := rfl
theorem mixed : Tryz.prog.follows .mixedOrders = true := by kernel_rfl
def GH (H : Hp) : Prop := ∃ o, H.at_ 0 = some o ∧ ∀ w : World, w.heap[0]? = some o → GG w
theorem GH.mono {H H' : Hp} (h : GH H) (hle : H.le H') : GH H' := let ⟨o, h1, h2⟩ := h; ⟨o, hle.at_ 0 o h1, h2⟩
theorem QaI {W : World} (h : GG W) : GH (snap W) := by
 unfold GG at h
 have h1 := h
 unfold World.cell? at h1
 split at h1
 · rename_i c1 T fz hh
   refine ⟨_, hh, fun w hw => ?_⟩
   show w.cell? _ = _
   unfold World.cell?
   rw [hw]; exact h1
 · cases h1
def errN (e : Option Int) : Int := e.getD 0
theorem num48.calls {H : Hp} {L : Items} {e : Option Int} (hG : GH H) (he : some (errN e) = some (errN e)) : Ct Tryz.prog 48 ⟨[errV 104 e]⟩ H L (fun v H' L' => L = L' ∧ H = H' ∧ v = .int .i64 (errN e)) := Ct.of_calls fun w hw => by
 obtain ⟨o, h1, h2⟩ := hG
 have hg := h2 w (hw.good 0 o h1)
 have this : Calls Tryz.prog 48 #[errV 104 e] w fun ev w' => ev = .returned (.int .i64 (e.getD 0)) ∧ Below w.heap.size w w' := by
  cases e with
  | none => exact num48_any none w hg
  | some c => exact num48_any (some c) w hg
 refine this.mono ?_
 rintro ev w' ⟨rfl, hb⟩
 exact ⟨_, _, _, rfl, hw.below hb, rfl, rfl, rfl⟩
theorem ext160 : ExtOk Tryz.prog 160 add64Entry := ⟨_, Tryz.func160, by decide, rfl, by kernel_rfl, by kernel_rfl⟩
abbrev YH (x : XX) : List Value := [.int .u64 x.e0, .int .u64 x.e1, .int .u64 x.e2]
abbrev QN (x : Qg) (v0 : Value) : List Value := [.bool x.f_Neg, v0]
abbrev YO (x : QX) (v0 v1 : Value) : List Value := [.bool x.f_N.f_Neg, v0, .bool x.f_D.f_Neg, v1]
abbrev QK (x : Qq) (v0 : Value) : List Value := [.bool x.f_neg, v0]
abbrev Xd (x : Qe) (v0 v1 : Value) : List Value := [.bool x.f_n.f_neg, v0, .bool x.f_d.f_neg, v1]
abbrev Xg (x : XX) : Value := .agg ⟨YH x ⟩
abbrev Qf (x : Qg) (v0 : Value) : Value := .agg ⟨QN x v0⟩
abbrev YL (x : QX) (v0 v1 : Value) : Value := .agg ⟨YO x v0 v1⟩
abbrev Qb (x : Qe) (v0 v1 : Value) : Value := .agg ⟨Xd x v0 v1⟩
abbrev Qc (x : Qq) (v0 : Value) : Value := .agg ⟨QK x v0⟩
abbrev z0c : List Value := [.bool false, .slice none 0 0, .bool false, .slice none 0 0]
theorem Xu {H : Hp} {x : Qg} {v0 : Value} {A0 : Type} {d0 : Kd A0} {l0 : List A0} (h0 : Ro d0 H v0 l0) : (QN x v0).all (·.oneCell') = true := (oc rfl (oc h0.one oz))
theorem Gk {H : Hp} {x : QX} {v0 v1 : Value} {A0 : Type} {d0 : Kd A0} {l0 : List A0} (h0 : Ro d0 H v0 l0) {A1 : Type} {d1 : Kd A1} {l1 : List A1} (h1 : Ro d1 H v1 l1) : (YO x v0 v1).all (·.oneCell') = true := (oc rfl (oc h0.one (oc rfl (oc h1.one oz))))
theorem XC {H : Hp} {x : Qq} {v0 : Value} {A0 : Type} {d0 : Kd A0} {l0 : List A0} (h0 : Ro d0 H v0 l0) : (QK x v0).all (·.oneCell') = true := (oc rfl (oc h0.one oz))
theorem Xz {H : Hp} {x : Qe} {v0 v1 : Value} {A0 : Type} {d0 : Kd A0} {l0 : List A0} (h0 : Ro d0 H v0 l0) {A1 : Type} {d1 : Kd A1} {l1 : List A1} (h1 : Ro d1 H v1 l1) : (Xd x v0 v1).all (·.oneCell') = true := (oc rfl (oc h0.one (oc rfl (oc h1.one oz))))
end Go.Proofs.YtkccpkccdbfomaaGreatDoor.GBH
