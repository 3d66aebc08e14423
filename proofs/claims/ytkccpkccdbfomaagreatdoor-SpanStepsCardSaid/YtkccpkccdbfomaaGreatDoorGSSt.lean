/- printed by gen.py -/
import Derived.Test.YtkccpkccdbfomaaGreatDoorGSSk15
import Derived.Test.YtkccpkccdbfomaaGreatDoorAs
namespace Go.Proofs.YtkccpkccdbfomaaGreatDoor.GSS
open Go Go.RowKit Go.Proofs.YtkccpkccdbfomaaGreatDoorK Go.Proofs.YtkccpkccdbfomaaGreatDoor
set_option linter.unusedVariables false
set_option linter.unusedSimpArgs false
def str_0 : ByteArray := ⟨#[]⟩
def str_1 : ByteArray := ⟨#[45]⟩
def str_2 : ByteArray := ⟨#[48]⟩
def str_3 : ByteArray := ⟨#[48, 49, 50, 51, 52, 53, 54, 55, 56, 57]⟩
def str_4 : ByteArray := ⟨#[0, 1, 2, 2, 3, 3, 3, 3, 4, 4, 4, 4, 4, 4, 4, 4, 5, 5, 5, 5, 5, 5, 5, 5, 5, 5, 5, 5, 5, 5, 5, 5, 6, 6, 6, 6, 6, 6, 6, 6, 6, 6, 6, 6, 6, 6, 6, 6, 6, 6, 6, 6, 6, 6, 6, 6, 6, 6, 6, 6, 6, 6, 6, 6, 7, 7, 7, 7, 7, 7, 7, 7, 7, 7, 7, 7, 7, 7, 7, 7, 7, 7, 7, 7, 7, 7, 7, 7, 7, 7, 7, 7, 7, 7, 7, 7, 7, 7, 7, 7, 7, 7, 7, 7, 7, 7, 7, 7, 7, 7, 7, 7, 7, 7, 7, 7, 7, 7, 7, 7, 7, 7, 7, 7, 7, 7, 7, 7, 8, 8, 8, 8, 8, 8, 8, 8, 8, 8, 8, 8, 8, 8, 8, 8, 8, 8, 8, 8, 8, 8, 8, 8, 8, 8, 8, 8, 8, 8, 8, 8, 8, 8, 8, 8, 8, 8, 8, 8, 8, 8, 8, 8, 8, 8, 8, 8, 8, 8, 8, 8, 8, 8, 8, 8, 8, 8, 8, 8, 8, 8, 8, 8, 8, 8, 8, 8, 8, 8, 8, 8, 8, 8, 8, 8, 8, 8, 8, 8, 8, 8, 8, 8, 8, 8, 8, 8, 8, 8, 8, 8, 8, 8, 8, 8, 8, 8, 8, 8, 8, 8, 8, 8, 8, 8, 8, 8, 8, 8, 8, 8, 8, 8, 8, 8, 8, 8, 8, 8, 8, 8, 8, 8, 8, 8, 8, 8]⟩
def str_5 : ByteArray := ⟨#[47]⟩
def str_6 : ByteArray := ⟨#[50, 47, 49]⟩
def str_7 : ByteArray := ⟨#[52, 47, 49]⟩
def str_8 : ByteArray := ⟨#[53, 47, 52]⟩
def str_9 : ByteArray := ⟨#[55, 47, 52]⟩
def str_10 : ByteArray := ⟨#[48, 47, 49]⟩
structure Qh where
 f_Neg : Bool
 f_D : List Int
instance : Inhabited Qh := ⟨⟨false, []⟩⟩
def Yk : Kd Qh := Kd.map (fun s => (s.f_Neg, s.f_D)) (Kd.pair Kd.bool (Kd.slice kI64))
theorem ZO {H : Hp} {cs : List Value} {x : Qh} (h : Yk.rep H cs x) : ∃ v0, cs = [.bool x.f_Neg, v0] ∧ Ro kI64 H v0 x.f_D := by
 obtain ⟨_, _, rfl, rfl, ⟨v0, rfl, h0⟩⟩ := (show ((Kd.pair Kd.bool (Kd.slice kI64))).rep H cs ((x.f_Neg, x.f_D)) from h)
 exact ⟨v0, rfl, h0⟩
theorem YE {H : Hp} {v0 : Value} {x : Qh} (h0 : Ro kI64 H v0 x.f_D) : Yk.rep H [.bool x.f_Neg, v0] x :=
 (show ((Kd.pair Kd.bool (Kd.slice kI64))).rep H _ ((x.f_Neg, x.f_D)) from ⟨[.bool x.f_Neg], [v0], rfl, rfl, ⟨v0, rfl, h0⟩⟩)
structure QJ where
 f_N : Qh
 f_D : Qh
instance : Inhabited QJ := ⟨⟨(⟨false, []⟩ : Qh), (⟨false, []⟩ : Qh)⟩⟩
def X4 : Kd QJ := Kd.map (fun s => (s.f_N, s.f_D)) (Kd.pair Yk Yk)
theorem Y5 {H : Hp} {cs : List Value} {x : QJ} (h : X4.rep H cs x) : ∃ v0, ∃ v1, cs = [.bool x.f_N.f_Neg, v0, .bool x.f_D.f_Neg, v1] ∧ Ro kI64 H v0 x.f_N.f_D ∧ Ro kI64 H v1 x.f_D.f_D := by
 obtain ⟨_, _, rfl, q1, q2⟩ := (show ((Kd.pair Yk Yk)).rep H cs ((x.f_N, x.f_D)) from h)
 obtain ⟨v0, rfl, h0⟩ := ZO q1
 obtain ⟨v1, rfl, h1⟩ := ZO q2
 exact ⟨v0, v1, rfl, h0, h1⟩
theorem YK {H : Hp} {v0 v1 : Value} {x : QJ} (h0 : Ro kI64 H v0 x.f_N.f_D) (h1 : Ro kI64 H v1 x.f_D.f_D) : X4.rep H [.bool x.f_N.f_Neg, v0, .bool x.f_D.f_Neg, v1] x :=
 (show ((Kd.pair Yk Yk)).rep H _ ((x.f_N, x.f_D)) from ⟨[.bool x.f_N.f_Neg, v0], [.bool x.f_D.f_Neg, v1], rfl, (YE h0), (YE h1)⟩)
structure Xg where
 f_Low : QJ
 f_High : QJ
instance : Inhabited Xg := ⟨⟨(⟨(⟨false, []⟩ : Qh), (⟨false, []⟩ : Qh)⟩ : QJ), (⟨(⟨false, []⟩ : Qh), (⟨false, []⟩ : Qh)⟩ : QJ)⟩⟩
structure T53 where
 e0 : List Int
 e1 : List Int
 e2 : List Int
 e3 : List Int
instance : Inhabited T53 := ⟨⟨[], [], [], []⟩⟩
def OZ : Kd T53 := Kd.map (fun s => (s.e0, (s.e1, (s.e2, s.e3)))) (Kd.pair (Kd.slice kU8) (Kd.pair (Kd.slice kU8) (Kd.pair (Kd.slice kU8) (Kd.slice kU8))))
theorem Uo {H : Hp} {cs : List Value} {x : T53} (h : OZ.rep H cs x) : ∃ v0, ∃ v1, ∃ v2, ∃ v3, cs = [v0, v1, v2, v3] ∧ Ro kU8 H v0 x.e0 ∧ Ro kU8 H v1 x.e1 ∧ Ro kU8 H v2 x.e2 ∧ Ro kU8 H v3 x.e3 := by
 obtain ⟨_, _, rfl, ⟨v0, rfl, h0⟩, ⟨_, _, rfl, ⟨v1, rfl, h1⟩, ⟨_, _, rfl, ⟨v2, rfl, h2⟩, ⟨v3, rfl, h3⟩⟩⟩⟩ := (show ((Kd.pair (Kd.slice kU8) (Kd.pair (Kd.slice kU8) (Kd.pair (Kd.slice kU8) (Kd.slice kU8))))).rep H cs ((x.e0, (x.e1, (x.e2, x.e3)))) from h)
 exact ⟨v0, v1, v2, v3, rfl, h0, h1, h2, h3⟩
structure T54 where
 e0 : Bool
 e1 : Bool
instance : Inhabited T54 := ⟨⟨false, false⟩⟩
def Ui : Kd T54 := Kd.map (fun s => (s.e0, s.e1)) (Kd.pair Kd.bool Kd.bool)
theorem Va {H : Hp} {cs : List Value} {x : T54} (h : Ui.rep H cs x) : cs = [.bool x.e0, .bool x.e1] := by
 obtain ⟨_, _, rfl, rfl, rfl⟩ := (show ((Kd.pair Kd.bool Kd.bool)).rep H cs ((x.e0, x.e1)) from h)
 rfl
structure Yf where
 f_L : T53
 f_Neg : T54
instance : Inhabited Yf := ⟨⟨(⟨[], [], [], []⟩ : T53), (⟨false, false⟩ : T54)⟩⟩
def GE : Kd Yf := Kd.map (fun s => (s.f_L, s.f_Neg)) (Kd.pair OZ Ui)
theorem Jj {H : Hp} {cs : List Value} {x : Yf} (h : GE.rep H cs x) : ∃ v0, ∃ v1, ∃ v2, ∃ v3, cs = [v0, v1, v2, v3, .bool x.f_Neg.e0, .bool x.f_Neg.e1] ∧ Ro kU8 H v0 x.f_L.e0 ∧ Ro kU8 H v1 x.f_L.e1 ∧ Ro kU8 H v2 x.f_L.e2 ∧ Ro kU8 H v3 x.f_L.e3 := by
 obtain ⟨_, _, rfl, q1, q2⟩ := (show ((Kd.pair OZ Ui)).rep H cs ((x.f_L, x.f_Neg)) from h)
 obtain ⟨v0, v1, v2, v3, rfl, h0, h1, h2, h3⟩ := Uo q1
 obtain ⟨rfl⟩ := Va q2
 exact ⟨v0, v1, v2, v3, rfl, h0, h1, h2, h3⟩
structure Qu where
 f_neg : Bool
 f_w : List Int
instance : Inhabited Qu := ⟨⟨false, []⟩⟩
def ZJ : Kd Qu := Kd.map (fun s => (s.f_neg, s.f_w)) (Kd.pair Kd.bool (Kd.slice kU32))
theorem J6 {H : Hp} {cs : List Value} {x : Qu} (h : ZJ.rep H cs x) : ∃ v0, cs = [.bool x.f_neg, v0] ∧ Ro kU32 H v0 x.f_w := by
 obtain ⟨_, _, rfl, rfl, ⟨v0, rfl, h0⟩⟩ := (show ((Kd.pair Kd.bool (Kd.slice kU32))).rep H cs ((x.f_neg, x.f_w)) from h)
 exact ⟨v0, rfl, h0⟩
theorem Gx {H : Hp} {v0 : Value} {x : Qu} (h0 : Ro kU32 H v0 x.f_w) : ZJ.rep H [.bool x.f_neg, v0] x :=
 (show ((Kd.pair Kd.bool (Kd.slice kU32))).rep H _ ((x.f_neg, x.f_w)) from ⟨[.bool x.f_neg], [v0], rfl, rfl, ⟨v0, rfl, h0⟩⟩)
structure QG where
 f_n : Qu
 f_d : Qu
instance : Inhabited QG := ⟨⟨(⟨false, []⟩ : Qu), (⟨false, []⟩ : Qu)⟩⟩
def Xz : Kd QG := Kd.map (fun s => (s.f_n, s.f_d)) (Kd.pair ZJ ZJ)
theorem Zt {H : Hp} {cs : List Value} {x : QG} (h : Xz.rep H cs x) : ∃ v0, ∃ v1, cs = [.bool x.f_n.f_neg, v0, .bool x.f_d.f_neg, v1] ∧ Ro kU32 H v0 x.f_n.f_w ∧ Ro kU32 H v1 x.f_d.f_w := by
 obtain ⟨_, _, rfl, q1, q2⟩ := (show ((Kd.pair ZJ ZJ)).rep H cs ((x.f_n, x.f_d)) from h)
 obtain ⟨v0, rfl, h0⟩ := J6 q1
 obtain ⟨v1, rfl, h1⟩ := J6 q2
 exact ⟨v0, v1, rfl, h0, h1⟩
theorem Yv {H : Hp} {v0 v1 : Value} {x : QG} (h0 : Ro kU32 H v0 x.f_n.f_w) (h1 : Ro kU32 H v1 x.f_d.f_w) : Xz.rep H [.bool x.f_n.f_neg, v0, .bool x.f_d.f_neg, v1] x :=
 (show ((Kd.pair ZJ ZJ)).rep H _ ((x.f_n, x.f_d)) from ⟨[.bool x.f_n.f_neg, v0], [.bool x.f_d.f_neg, v1], rfl, (Gx h0), (Gx h1)⟩)
structure QL where
 f_Low : QG
 f_High : QG
instance : Inhabited QL := ⟨⟨(⟨(⟨false, []⟩ : Qu), (⟨false, []⟩ : Qu)⟩ : QG), (⟨(⟨false, []⟩ : Qu), (⟨false, []⟩ : Qu)⟩ : QG)⟩⟩
def YP : Kd QL := Kd.map (fun s => (s.f_Low, s.f_High)) (Kd.pair Xz Xz)
theorem Gz {H : Hp} {cs : List Value} {x : QL} (h : YP.rep H cs x) : ∃ v0, ∃ v1, ∃ v2, ∃ v3, cs = [.bool x.f_Low.f_n.f_neg, v0, .bool x.f_Low.f_d.f_neg, v1, .bool x.f_High.f_n.f_neg, v2, .bool x.f_High.f_d.f_neg, v3] ∧ Ro kU32 H v0 x.f_Low.f_n.f_w ∧ Ro kU32 H v1 x.f_Low.f_d.f_w ∧ Ro kU32 H v2 x.f_High.f_n.f_w ∧ Ro kU32 H v3 x.f_High.f_d.f_w := by
 obtain ⟨_, _, rfl, q1, q2⟩ := (show ((Kd.pair Xz Xz)).rep H cs ((x.f_Low, x.f_High)) from h)
 obtain ⟨v0, v1, rfl, h0, h1⟩ := Zt q1
 obtain ⟨v2, v3, rfl, h2, h3⟩ := Zt q2
 exact ⟨v0, v1, v2, v3, rfl, h0, h1, h2, h3⟩
theorem YB {H : Hp} {v0 v1 v2 v3 : Value} {x : QL} (h0 : Ro kU32 H v0 x.f_Low.f_n.f_w) (h1 : Ro kU32 H v1 x.f_Low.f_d.f_w) (h2 : Ro kU32 H v2 x.f_High.f_n.f_w) (h3 : Ro kU32 H v3 x.f_High.f_d.f_w) : YP.rep H [.bool x.f_Low.f_n.f_neg, v0, .bool x.f_Low.f_d.f_neg, v1, .bool x.f_High.f_n.f_neg, v2, .bool x.f_High.f_d.f_neg, v3] x :=
 (show ((Kd.pair Xz Xz)).rep H _ ((x.f_Low, x.f_High)) from ⟨[.bool x.f_Low.f_n.f_neg, v0, .bool x.f_Low.f_d.f_neg, v1], [.bool x.f_High.f_n.f_neg, v2, .bool x.f_High.f_d.f_neg, v3], rfl, (Yv h0 h1), (Yv h2 h3)⟩)
structure T180 where
 e0 : QG
 e1 : QG
instance : Inhabited T180 := ⟨⟨(⟨(⟨false, []⟩ : Qu), (⟨false, []⟩ : Qu)⟩ : QG), (⟨(⟨false, []⟩ : Qu), (⟨false, []⟩ : Qu)⟩ : QG)⟩⟩
structure Mv where
 f_errs : List (Option Int)
instance : Inhabited Mv := ⟨⟨[]⟩⟩
theorem ty3 : TyA Tryz.prog 3 false 1 := ⟨⟨_, Tryz.underlying3, rfl⟩, by kernel_rfl⟩
theorem sz3 : (Tryz.prog.info? 3).map (·.size) = some 1 := by kernel_rfl
theorem ti3 : TI Tryz.prog 3 1 8 (.int .i64 0) := ⟨by kernel_rfl⟩
theorem zp3 (H : Hp) : (kI64).rep H (Value.cells (.int .i64 0)).toList 0 := rfl
theorem ty4 : TyA Tryz.prog 4 false 1 := ⟨⟨_, Tryz.underlying4, rfl⟩, by kernel_rfl⟩
theorem sz4 : (Tryz.prog.info? 4).map (·.size) = some 1 := by kernel_rfl
theorem ty5 : TyA Tryz.prog 5 false 1 := ⟨⟨_, Tryz.underlying5, rfl⟩, by kernel_rfl⟩
theorem sz5 : (Tryz.prog.info? 5).map (·.size) = some 1 := by kernel_rfl
theorem ti5 : TI Tryz.prog 5 1 1 (.int .u8 0) := ⟨by kernel_rfl⟩
theorem ty22 : TyA Tryz.prog 22 false 1 := ⟨⟨_, Tryz.underlying22, rfl⟩, by kernel_rfl⟩
theorem sz22 : (Tryz.prog.info? 22).map (·.size) = some 1 := by kernel_rfl
theorem ty24 : TyA Tryz.prog 24 true 2 := ⟨⟨_, Tryz.underlying24, rfl⟩, by kernel_rfl⟩
theorem sz24 : (Tryz.prog.info? 24).map (·.size) = some 2 := by kernel_rfl
theorem zr24 : (Tryz.prog.info? 24).bind (·.zero) = some (.agg #[.bool false, .slice none 0 0]) := by kernel_rfl
theorem ty26 : TyA Tryz.prog 26 true 4 := ⟨⟨_, Tryz.underlying26, rfl⟩, by kernel_rfl⟩
theorem sz26 : (Tryz.prog.info? 26).map (·.size) = some 4 := by kernel_rfl
theorem zr26 : (Tryz.prog.info? 26).bind (·.zero) = some (.agg #[.bool false, .slice none 0 0, .bool false, .slice none 0 0]) := by kernel_rfl
theorem ti26 : TI Tryz.prog 26 4 64 (.agg #[.bool false, .slice none 0 0, .bool false, .slice none 0 0]) := ⟨by kernel_rfl⟩
theorem ty28 : TyA Tryz.prog 28 true 8 := ⟨⟨_, Tryz.underlying28, rfl⟩, by kernel_rfl⟩
theorem sz28 : (Tryz.prog.info? 28).map (·.size) = some 8 := by kernel_rfl
theorem zr28 : (Tryz.prog.info? 28).bind (·.zero) = some (.agg #[.bool false, .slice none 0 0, .bool false, .slice none 0 0, .bool false, .slice none 0 0, .bool false, .slice none 0 0]) := by kernel_rfl
theorem ti28 : TI Tryz.prog 28 8 128 (.agg #[.bool false, .slice none 0 0, .bool false, .slice none 0 0, .bool false, .slice none 0 0, .bool false, .slice none 0 0]) := ⟨by kernel_rfl⟩
theorem ty30 : TyA Tryz.prog 30 false 1 := ⟨⟨_, Tryz.underlying30, rfl⟩, by kernel_rfl⟩
theorem sz30 : (Tryz.prog.info? 30).map (·.size) = some 1 := by kernel_rfl
theorem ti30 : TI Tryz.prog 30 1 16 (.nilIface) := ⟨by kernel_rfl⟩
theorem zp30 (H : Hp) : ((Kd.err 104)).rep H (Value.cells (.nilIface)).toList none := rfl
theorem ty35 : TyA Tryz.prog 35 false 1 := ⟨⟨_, Tryz.underlying35, rfl⟩, by kernel_rfl⟩
theorem sz35 : (Tryz.prog.info? 35).map (·.size) = some 1 := by kernel_rfl
theorem ty37 : TyA Tryz.prog 37 true 2 := ⟨⟨_, Tryz.underlying37, rfl⟩, by kernel_rfl⟩
theorem sz37 : (Tryz.prog.info? 37).map (·.size) = some 2 := by kernel_rfl
theorem zr37 : (Tryz.prog.info? 37).bind (·.zero) = some (.agg #[.bool false, .slice none 0 0]) := by kernel_rfl
theorem ti37 : TI Tryz.prog 37 2 32 (.agg #[.bool false, .slice none 0 0]) := ⟨by kernel_rfl⟩
theorem ty40 : TyA Tryz.prog 40 true 4 := ⟨⟨_, Tryz.underlying40, rfl⟩, by kernel_rfl⟩
theorem sz40 : (Tryz.prog.info? 40).map (·.size) = some 4 := by kernel_rfl
theorem zr40 : (Tryz.prog.info? 40).bind (·.zero) = some (.agg #[.bool false, .slice none 0 0, .bool false, .slice none 0 0]) := by kernel_rfl
theorem ti40 : TI Tryz.prog 40 4 64 (.agg #[.bool false, .slice none 0 0, .bool false, .slice none 0 0]) := ⟨by kernel_rfl⟩
theorem ty45 : TyA Tryz.prog 45 true 8 := ⟨⟨_, Tryz.underlying45, rfl⟩, by kernel_rfl⟩
theorem sz45 : (Tryz.prog.info? 45).map (·.size) = some 8 := by kernel_rfl
theorem zr45 : (Tryz.prog.info? 45).bind (·.zero) = some (.agg #[.bool false, .slice none 0 0, .bool false, .slice none 0 0, .bool false, .slice none 0 0, .bool false, .slice none 0 0]) := by kernel_rfl
theorem ty52 : TyA Tryz.prog 52 false 1 := ⟨⟨_, Tryz.underlying52, rfl⟩, by kernel_rfl⟩
theorem sz52 : (Tryz.prog.info? 52).map (·.size) = some 1 := by kernel_rfl
theorem sz53 : (Tryz.prog.info? 53).map (·.size) = some 4 := by kernel_rfl
theorem zr53 : (Tryz.prog.info? 53).bind (·.zero) = some (.agg #[.slice none 0 0, .slice none 0 0, .slice none 0 0, .slice none 0 0]) := by kernel_rfl
theorem sz54 : (Tryz.prog.info? 54).map (·.size) = some 2 := by kernel_rfl
theorem ty56 : TyA Tryz.prog 56 true 6 := ⟨⟨_, Tryz.underlying56, rfl⟩, by kernel_rfl⟩
theorem ty167 : TyA Tryz.prog 167 false 1 := ⟨⟨_, Tryz.underlying167, rfl⟩, by kernel_rfl⟩
theorem sz167 : (Tryz.prog.info? 167).map (·.size) = some 1 := by kernel_rfl
theorem ti167 : TI Tryz.prog 167 1 4 (.int .u32 0) := ⟨by kernel_rfl⟩
theorem zp167 (H : Hp) : (kU32).rep H (Value.cells (.int .u32 0)).toList 0 := rfl
theorem zr180 : (Tryz.prog.info? 180).bind (·.zero) = some (.agg #[.bool false, .slice none 0 0, .bool false, .slice none 0 0, .bool false, .slice none 0 0, .bool false, .slice none 0 0]) := by kernel_rfl
theorem ty204 : TyA Tryz.prog 204 false 1 := ⟨⟨_, Tryz.underlying204, rfl⟩, by kernel_rfl⟩
theorem sz204 : (Tryz.prog.info? 204).map (·.size) = some 1 := by kernel_rfl
theorem zr212 : (Tryz.prog.info? 212).bind (·.zero) = some (.agg #[.slice none 0 0]) := by kernel_rfl
theorem co9 : CallOk Tryz.prog 9 := ⟨_, Tryz.func9, by decide, rfl⟩
theorem co10 : CallOk Tryz.prog 10 := ⟨_, Tryz.func10, by decide, rfl⟩
theorem co11 : CallOk Tryz.prog 11 := ⟨_, Tryz.func11, by decide, rfl⟩
theorem co12 : CallOk Tryz.prog 12 := ⟨_, Tryz.func12, by decide, rfl⟩
theorem co13 : CallOk Tryz.prog 13 := ⟨_, Tryz.func13, by decide, rfl⟩
theorem co14 : CallOk Tryz.prog 14 := ⟨_, Tryz.func14, by decide, rfl⟩
theorem co15 : CallOk Tryz.prog 15 := ⟨_, Tryz.func15, by decide, rfl⟩
theorem co16 : CallOk Tryz.prog 16 := ⟨_, Tryz.func16, by decide, rfl⟩
theorem co17 : CallOk Tryz.prog 17 := ⟨_, Tryz.func17, by decide, rfl⟩
theorem co18 : CallOk Tryz.prog 18 := ⟨_, Tryz.func18, by decide, rfl⟩
theorem co20 : CallOk Tryz.prog 20 := ⟨_, Tryz.func20, by decide, rfl⟩
theorem co21 : CallOk Tryz.prog 21 := ⟨_, Tryz.func21, by decide, rfl⟩
theorem co22 : CallOk Tryz.prog 22 := ⟨_, Tryz.func22, by decide, rfl⟩
theorem co23 : CallOk Tryz.prog 23 := ⟨_, Tryz.func23, by decide, rfl⟩
theorem co24 : CallOk Tryz.prog 24 := ⟨_, Tryz.func24, by decide, rfl⟩
theorem co25 : CallOk Tryz.prog 25 := ⟨_, Tryz.func25, by decide, rfl⟩
theorem co26 : CallOk Tryz.prog 26 := ⟨_, Tryz.func26, by decide, rfl⟩
theorem co27 : CallOk Tryz.prog 27 := ⟨_, Tryz.func27, by decide, rfl⟩
theorem co28 : CallOk Tryz.prog 28 := ⟨_, Tryz.func28, by decide, rfl⟩
theorem co29 : CallOk Tryz.prog 29 := ⟨_, Tryz.func29, by decide, rfl⟩
theorem co30 : CallOk Tryz.prog 30 := ⟨_, Tryz.func30, by decide, rfl⟩
theorem co31 : CallOk Tryz.prog 31 := ⟨_, Tryz.func31, by decide, rfl⟩
theorem co32 : CallOk Tryz.prog 32 := ⟨_, Tryz.func32, by decide, rfl⟩
theorem co33 : CallOk Tryz.prog 33 := ⟨_, Tryz.func33, by decide, rfl⟩
theorem co34 : CallOk Tryz.prog 34 := ⟨_, Tryz.func34, by decide, rfl⟩
theorem co35 : CallOk Tryz.prog 35 := ⟨_, Tryz.func35, by decide, rfl⟩
theorem co36 : CallOk Tryz.prog 36 := ⟨_, Tryz.func36, by decide, rfl⟩
theorem co37 : CallOk Tryz.prog 37 := ⟨_, Tryz.func37, by decide, rfl⟩
theorem co38 : CallOk Tryz.prog 38 := ⟨_, Tryz.func38, by decide, rfl⟩
theorem co50 : CallOk Tryz.prog 50 := ⟨_, Tryz.func50, by decide, rfl⟩
theorem co56 : CallOk Tryz.prog 56 := ⟨_, Tryz.func56, by decide, rfl⟩
theorem co60 : CallOk Tryz.prog 60 := ⟨_, Tryz.func60, by decide, rfl⟩
theorem co62 : CallOk Tryz.prog 62 := ⟨_, Tryz.func62, by decide, rfl⟩
theorem co63 : CallOk Tryz.prog 63 := ⟨_, Tryz.func63, by decide, rfl⟩
theorem co64 : CallOk Tryz.prog 64 := ⟨_, Tryz.func64, by decide, rfl⟩
theorem co65 : CallOk Tryz.prog 65 := ⟨_, Tryz.func65, by decide, rfl⟩
theorem co66 : CallOk Tryz.prog 66 := ⟨_, Tryz.func66, by decide, rfl⟩
theorem co67 : CallOk Tryz.prog 67 := ⟨_, Tryz.func67, by decide, rfl⟩
theorem co68 : CallOk Tryz.prog 68 := ⟨_, Tryz.func68, by decide, rfl⟩
theorem co69 : CallOk Tryz.prog 69 := ⟨_, Tryz.func69, by decide, rfl⟩
theorem co70 : CallOk Tryz.prog 70 := ⟨_, Tryz.func70, by decide, rfl⟩
theorem co71 : CallOk Tryz.prog 71 := ⟨_, Tryz.func71, by decide, rfl⟩
theorem co72 : CallOk Tryz.prog 72 := ⟨_, Tryz.func72, by decide, rfl⟩
theorem co73 : CallOk Tryz.prog 73 := ⟨_, Tryz.func73, by decide, rfl⟩
theorem co74 : CallOk Tryz.prog 74 := ⟨_, Tryz.func74, by decide, rfl⟩
theorem co75 : CallOk Tryz.prog 75 := ⟨_, Tryz.func75, by decide, rfl⟩
theorem co76 : CallOk Tryz.prog 76 := ⟨_, Tryz.func76, by decide, rfl⟩
theorem co77 : CallOk Tryz.prog 77 := ⟨_, Tryz.func77, by decide, rfl⟩
theorem co78 : CallOk Tryz.prog 78 := ⟨_, Tryz.func78, by decide, rfl⟩
theorem co79 : CallOk Tryz.prog 79 := ⟨_, Tryz.func79, by decide, rfl⟩
theorem co80 : CallOk Tryz.prog 80 := ⟨_, Tryz.func80, by decide, rfl⟩
theorem co81 : CallOk Tryz.prog 81 := ⟨_, Tryz.func81, by decide, rfl⟩
theorem co82 : CallOk Tryz.prog 82 := ⟨_, Tryz.func82, by decide, rfl⟩
theorem co83 : CallOk Tryz.prog 83 := ⟨_, Tryz.func83, by decide, rfl⟩
theorem co84 : CallOk Tryz.prog 84 := ⟨_, Tryz.func84, by decide, rfl⟩
theorem co85 : CallOk Tryz.prog 85 := ⟨_, Tryz.func85, by decide, rfl⟩
theorem co86 : CallOk Tryz.prog 86 := ⟨_, Tryz.func86, by decide, rfl⟩
theorem co87 : CallOk Tryz.prog 87 := ⟨_, Tryz.func87, by decide, rfl⟩
theorem co88 : CallOk Tryz.prog 88 := ⟨_, Tryz.func88, by decide, rfl⟩
theorem co89 : CallOk Tryz.prog 89 := ⟨_, Tryz.func89, by decide, rfl⟩
theorem co99 : CallOk Tryz.prog 99 := ⟨_, Tryz.func99, by decide, rfl⟩
theorem co100 : CallOk Tryz.prog 100 := ⟨_, Tryz.func100, by decide, rfl⟩
theorem co106 : CallOk Tryz.prog 106 := ⟨_, Tryz.func106, by decide, rfl⟩
theorem co107 : CallOk Tryz.prog 107 := ⟨_, Tryz.func107, by decide, rfl⟩
theorem co108 : CallOk Tryz.prog 108 := ⟨_, Tryz.func108, by decide, rfl⟩
theorem co113 : CallOk Tryz.prog 113 := ⟨_, Tryz.func113, by decide, rfl⟩
theorem co114 : CallOk Tryz.prog 114 := ⟨_, Tryz.func114, by decide, rfl⟩
theorem co115 : CallOk Tryz.prog 115 := ⟨_, Tryz.func115, by decide, rfl⟩
theorem co116 : CallOk Tryz.prog 116 := ⟨_, Tryz.func116, by decide, rfl⟩
theorem co117 : CallOk Tryz.prog 117 := ⟨_, Tryz.func117, by decide, rfl⟩
theorem co118 : CallOk Tryz.prog 118 := ⟨_, Tryz.func118, by decide, rfl⟩
theorem co119 : CallOk Tryz.prog 119 := ⟨_, Tryz.func119, by decide, rfl⟩
theorem co120 : CallOk Tryz.prog 120 := ⟨_, Tryz.func120, by decide, rfl⟩
theorem co121 : CallOk Tryz.prog 121 := ⟨_, Tryz.func121, by decide, rfl⟩
theorem co122 : CallOk Tryz.prog 122 := ⟨_, Tryz.func122, by decide, rfl⟩
theorem co123 : CallOk Tryz.prog 123 := ⟨_, Tryz.func123, by decide, rfl⟩
theorem co124 : CallOk Tryz.prog 124 := ⟨_, Tryz.func124, by decide, rfl⟩
theorem co125 : CallOk Tryz.prog 125 := ⟨_, Tryz.func125, by decide, rfl⟩
theorem co126 : CallOk Tryz.prog 126 := ⟨_, Tryz.func126, by decide, rfl⟩
theorem co127 : CallOk Tryz.prog 127 := ⟨_, Tryz.func127, by decide, rfl⟩
theorem co128 : CallOk Tryz.prog 128 := ⟨_, Tryz.func128, by decide, rfl⟩
theorem co129 : CallOk Tryz.prog 129 := ⟨_, Tryz.func129, by decide, rfl⟩
theorem co130 : CallOk Tryz.prog 130 := ⟨_, Tryz.func130, by decide, rfl⟩
theorem co131 : CallOk Tryz.prog 131 := ⟨_, Tryz.func131, by decide, rfl⟩
theorem co132 : CallOk Tryz.prog 132 := ⟨_, Tryz.func132, by decide, rfl⟩
theorem co134 : CallOk Tryz.prog 134 := ⟨_, Tryz.func134, by decide, rfl⟩
theorem co136 : CallOk Tryz.prog 136 := ⟨_, Tryz.func136, by decide, rfl⟩
theorem co137 : CallOk Tryz.prog 137 := ⟨_, Tryz.func137, by decide, rfl⟩
theorem co141 : CallOk Tryz.prog 141 := ⟨_, Tryz.func141, by decide, rfl⟩
theorem co142 : CallOk Tryz.prog 142 := ⟨_, Tryz.func142, by decide, rfl⟩
theorem co143 : CallOk Tryz.prog 143 := ⟨_, Tryz.func143, by decide, rfl⟩
theorem co144 : CallOk Tryz.prog 144 := ⟨_, Tryz.func144, by decide, rfl⟩
theorem co145 : CallOk Tryz.prog 145 := ⟨_, Tryz.func145, by decide, rfl⟩
theorem co146 : CallOk Tryz.prog 146 := ⟨_, Tryz.func146, by decide, rfl⟩
theorem co147 : CallOk Tryz.prog 147 := ⟨_, Tryz.func147, by decide, rfl⟩
theorem co153 : CallOk Tryz.prog 153 := ⟨_, Tryz.func153, by decide, rfl⟩
theorem co154 : CallOk Tryz.prog 154 := ⟨_, Tryz.func154, by decide, rfl⟩
theorem co155 : CallOk Tryz.prog 155 := ⟨_, Tryz.func155, by decide, rfl⟩
theorem co156 : CallOk Tryz.prog 156 := ⟨_, Tryz.func156, by decide, rfl⟩
theorem co157 : CallOk Tryz.prog 157 := ⟨_, Tryz.func157, by decide, rfl⟩
theorem co158 : CallOk Tryz.prog 158 := ⟨_, Tryz.func158, by decide, rfl⟩
theorem co159 : CallOk Tryz.prog 159 := ⟨_, Tryz.func159, by decide, rfl⟩
theorem co166 : CallOk Tryz.prog 166 := ⟨_, Tryz.func166, by decide, rfl⟩
theorem co167 : CallOk Tryz.prog 167 := ⟨_, Tryz.func167, by decide, rfl⟩
theorem fn_5 : Tryz.prog.funcs[5]? = some Tryz.f5 := Tryz.func5
theorem rs_5 : Tryz.f5.results = ⟨[.tmp 6]⟩ := rfl
theorem nt_5 : Tryz.f5.ntmps = 238 := rfl
theorem fn_9 : Tryz.prog.funcs[9]? = some Tryz.f9 := Tryz.func9
theorem rs_9 : Tryz.f9.results = ⟨[.cell 4 28, .tmp 5]⟩ := rfl
theorem nt_9 : Tryz.f9.ntmps = 59 := rfl
theorem fn_11 : Tryz.prog.funcs[11]? = some Tryz.f11 := Tryz.func11
theorem rs_11 : Tryz.f11.results = ⟨[.tmp 0]⟩ := rfl
theorem nt_11 : Tryz.f11.ntmps = 90 := rfl
theorem fn_12 : Tryz.prog.funcs[12]? = some Tryz.f12 := Tryz.func12
theorem rs_12 : Tryz.f12.results = ⟨[.cell 2 37]⟩ := rfl
theorem nt_12 : Tryz.f12.ntmps = 26 := rfl
theorem fn_13 : Tryz.prog.funcs[13]? = some Tryz.f13 := Tryz.func13
theorem rs_13 : Tryz.f13.results = ⟨[.cell 4 40]⟩ := rfl
theorem nt_13 : Tryz.f13.ntmps = 49 := rfl
theorem fn_14 : Tryz.prog.funcs[14]? = some Tryz.f14 := Tryz.func14
theorem rs_14 : Tryz.f14.results = ⟨[.cell 4 37]⟩ := rfl
theorem nt_14 : Tryz.f14.ntmps = 9 := rfl
theorem fn_15 : Tryz.prog.funcs[15]? = some Tryz.f15 := Tryz.func15
theorem rs_15 : Tryz.f15.results = ⟨[.cell 4 37]⟩ := rfl
theorem nt_15 : Tryz.f15.ntmps = 76 := rfl
theorem fn_16 : Tryz.prog.funcs[16]? = some Tryz.f16 := Tryz.func16
theorem rs_16 : Tryz.f16.results = ⟨[.cell 2 37]⟩ := rfl
theorem nt_16 : Tryz.f16.ntmps = 25 := rfl
theorem fn_17 : Tryz.prog.funcs[17]? = some Tryz.f17 := Tryz.func17
theorem rs_17 : Tryz.f17.results = ⟨[.cell 4 37]⟩ := rfl
theorem nt_17 : Tryz.f17.ntmps = 39 := rfl
theorem fn_18 : Tryz.prog.funcs[18]? = some Tryz.f18 := Tryz.func18
theorem rs_18 : Tryz.f18.results = ⟨[.cell 4 26, .tmp 5]⟩ := rfl
theorem nt_18 : Tryz.f18.ntmps = 32 := rfl
theorem fn_20 : Tryz.prog.funcs[20]? = some Tryz.f20 := Tryz.func20
theorem rs_20 : Tryz.f20.results = ⟨[.tmp 4]⟩ := rfl
theorem nt_20 : Tryz.f20.ntmps = 21 := rfl
theorem fn_21 : Tryz.prog.funcs[21]? = some Tryz.f21 := Tryz.func21
theorem rs_21 : Tryz.f21.results = ⟨[.cell 2 28]⟩ := rfl
theorem nt_21 : Tryz.f21.ntmps = 10 := rfl
theorem fn_22 : Tryz.prog.funcs[22]? = some Tryz.f22 := Tryz.func22
theorem rs_22 : Tryz.f22.results = ⟨[.cell 4 45]⟩ := rfl
theorem nt_22 : Tryz.f22.ntmps = 56 := rfl
theorem fn_23 : Tryz.prog.funcs[23]? = some Tryz.f23 := Tryz.func23
theorem rs_23 : Tryz.f23.results = ⟨[.cell 4 26, .tmp 5]⟩ := rfl
theorem nt_23 : Tryz.f23.ntmps = 11 := rfl
theorem fn_24 : Tryz.prog.funcs[24]? = some Tryz.f24 := Tryz.func24
theorem rs_24 : Tryz.f24.results = ⟨[.cell 4 26, .tmp 5]⟩ := rfl
theorem nt_24 : Tryz.f24.ntmps = 17 := rfl
theorem fn_25 : Tryz.prog.funcs[25]? = some Tryz.f25 := Tryz.func25
theorem rs_25 : Tryz.f25.results = ⟨[.cell 4 28, .tmp 5]⟩ := rfl
theorem nt_25 : Tryz.f25.ntmps = 42 := rfl
theorem fn_26 : Tryz.prog.funcs[26]? = some Tryz.f26 := Tryz.func26
theorem rs_26 : Tryz.f26.results = ⟨[.cell 4 28, .tmp 5]⟩ := rfl
theorem nt_26 : Tryz.f26.ntmps = 20 := rfl
theorem fn_27 : Tryz.prog.funcs[27]? = some Tryz.f27 := Tryz.func27
theorem rs_27 : Tryz.f27.results = ⟨[.cell 4 28, .tmp 5]⟩ := rfl
theorem nt_27 : Tryz.f27.ntmps = 27 := rfl
theorem fn_28 : Tryz.prog.funcs[28]? = some Tryz.f28 := Tryz.func28
theorem rs_28 : Tryz.f28.results = ⟨[.tmp 4, .tmp 5]⟩ := rfl
theorem nt_28 : Tryz.f28.ntmps = 47 := rfl
theorem fn_29 : Tryz.prog.funcs[29]? = some Tryz.f29 := Tryz.func29
theorem rs_29 : Tryz.f29.results = ⟨[.cell 4 28, .tmp 5]⟩ := rfl
theorem nt_29 : Tryz.f29.ntmps = 42 := rfl
theorem fn_30 : Tryz.prog.funcs[30]? = some Tryz.f30 := Tryz.func30
theorem rs_30 : Tryz.f30.results = ⟨[.cell 4 28, .tmp 5]⟩ := rfl
theorem nt_30 : Tryz.f30.ntmps = 46 := rfl
theorem fn_31 : Tryz.prog.funcs[31]? = some Tryz.f31 := Tryz.func31
theorem rs_31 : Tryz.f31.results = ⟨[.cell 4 28, .tmp 5]⟩ := rfl
theorem nt_31 : Tryz.f31.ntmps = 27 := rfl
theorem fn_32 : Tryz.prog.funcs[32]? = some Tryz.f32 := Tryz.func32
theorem rs_32 : Tryz.f32.results = ⟨[.tmp 2]⟩ := rfl
theorem nt_32 : Tryz.f32.ntmps = 9 := rfl
theorem fn_33 : Tryz.prog.funcs[33]? = some Tryz.f33 := Tryz.func33
theorem rs_33 : Tryz.f33.results = ⟨[.tmp 2]⟩ := rfl
theorem nt_33 : Tryz.f33.ntmps = 11 := rfl
theorem fn_34 : Tryz.prog.funcs[34]? = some Tryz.f34 := Tryz.func34
theorem rs_34 : Tryz.f34.results = ⟨[.cell 6 45]⟩ := rfl
theorem nt_34 : Tryz.f34.ntmps = 54 := rfl
theorem fn_35 : Tryz.prog.funcs[35]? = some Tryz.f35 := Tryz.func35
theorem rs_35 : Tryz.f35.results = ⟨[.cell 6 45]⟩ := rfl
theorem nt_35 : Tryz.f35.ntmps = 57 := rfl
theorem fn_36 : Tryz.prog.funcs[36]? = some Tryz.f36 := Tryz.func36
theorem rs_36 : Tryz.f36.results = ⟨[.cell 2 45]⟩ := rfl
theorem nt_36 : Tryz.f36.ntmps = 43 := rfl
theorem fn_37 : Tryz.prog.funcs[37]? = some Tryz.f37 := Tryz.func37
theorem rs_37 : Tryz.f37.results = ⟨[.tmp 4]⟩ := rfl
theorem nt_37 : Tryz.f37.ntmps = 19 := rfl
theorem fn_38 : Tryz.prog.funcs[38]? = some Tryz.f38 := Tryz.func38
theorem rs_38 : Tryz.f38.results = ⟨[.tmp 2]⟩ := rfl
theorem nt_38 : Tryz.f38.ntmps = 15 := rfl
theorem fn_50 : Tryz.prog.funcs[50]? = some Tryz.f50 := Tryz.func50
theorem rs_50 : Tryz.f50.results = ⟨[.tmp 2]⟩ := rfl
theorem nt_50 : Tryz.f50.ntmps = 11 := rfl
theorem fn_56 : Tryz.prog.funcs[56]? = some Tryz.f56 := Tryz.func56
theorem rs_56 : Tryz.f56.results = ⟨[.tmp 4, .tmp 5]⟩ := rfl
theorem nt_56 : Tryz.f56.ntmps = 22 := rfl
theorem fn_60 : Tryz.prog.funcs[60]? = some Tryz.f60 := Tryz.func60
theorem rs_60 : Tryz.f60.results = ⟨[.cell 4 26, .tmp 5]⟩ := rfl
theorem nt_60 : Tryz.f60.ntmps = 11 := rfl
theorem fn_62 : Tryz.prog.funcs[62]? = some Tryz.f62 := Tryz.func62
theorem rs_62 : Tryz.f62.results = ⟨[.tmp 2]⟩ := rfl
theorem nt_62 : Tryz.f62.ntmps = 9 := rfl
theorem fn_63 : Tryz.prog.funcs[63]? = some Tryz.f63 := Tryz.func63
theorem rs_63 : Tryz.f63.results = ⟨[.cell 2 37]⟩ := rfl
theorem nt_63 : Tryz.f63.ntmps = 9 := rfl
theorem fn_64 : Tryz.prog.funcs[64]? = some Tryz.f64 := Tryz.func64
theorem rs_64 : Tryz.f64.results = ⟨[.cell 2 37]⟩ := rfl
theorem nt_64 : Tryz.f64.ntmps = 6 := rfl
theorem fn_65 : Tryz.prog.funcs[65]? = some Tryz.f65 := Tryz.func65
theorem rs_65 : Tryz.f65.results = ⟨[.cell 4 37, .cell 5 37]⟩ := rfl
theorem nt_65 : Tryz.f65.ntmps = 79 := rfl
theorem fn_66 : Tryz.prog.funcs[66]? = some Tryz.f66 := Tryz.func66
theorem rs_66 : Tryz.f66.results = ⟨[.cell 4 37]⟩ := rfl
theorem nt_66 : Tryz.f66.ntmps = 13 := rfl
theorem fn_67 : Tryz.prog.funcs[67]? = some Tryz.f67 := Tryz.func67
theorem rs_67 : Tryz.f67.results = ⟨[.tmp 2]⟩ := rfl
theorem nt_67 : Tryz.f67.ntmps = 21 := rfl
theorem fn_68 : Tryz.prog.funcs[68]? = some Tryz.f68 := Tryz.func68
theorem rs_68 : Tryz.f68.results = ⟨[.tmp 4]⟩ := rfl
theorem nt_68 : Tryz.f68.ntmps = 52 := rfl
theorem fn_69 : Tryz.prog.funcs[69]? = some Tryz.f69 := Tryz.func69
theorem rs_69 : Tryz.f69.results = ⟨[.tmp 4]⟩ := rfl
theorem nt_69 : Tryz.f69.ntmps = 41 := rfl
theorem fn_70 : Tryz.prog.funcs[70]? = some Tryz.f70 := Tryz.func70
theorem rs_70 : Tryz.f70.results = ⟨[.tmp 4]⟩ := rfl
theorem nt_70 : Tryz.f70.ntmps = 41 := rfl
theorem fn_71 : Tryz.prog.funcs[71]? = some Tryz.f71 := Tryz.func71
theorem rs_71 : Tryz.f71.results = ⟨[.cell 2 24]⟩ := rfl
theorem nt_71 : Tryz.f71.ntmps = 20 := rfl
theorem fn_72 : Tryz.prog.funcs[72]? = some Tryz.f72 := Tryz.func72
theorem rs_72 : Tryz.f72.results = ⟨[.cell 4 24, .tmp 5]⟩ := rfl
theorem nt_72 : Tryz.f72.ntmps = 109 := rfl
theorem fn_73 : Tryz.prog.funcs[73]? = some Tryz.f73 := Tryz.func73
theorem rs_73 : Tryz.f73.results = ⟨[.cell 4 26, .tmp 5]⟩ := rfl
theorem nt_73 : Tryz.f73.ntmps = 60 := rfl
theorem fn_74 : Tryz.prog.funcs[74]? = some Tryz.f74 := Tryz.func74
theorem rs_74 : Tryz.f74.results = ⟨[.cell 2 26]⟩ := rfl
theorem nt_74 : Tryz.f74.ntmps = 16 := rfl
theorem fn_75 : Tryz.prog.funcs[75]? = some Tryz.f75 := Tryz.func75
theorem rs_75 : Tryz.f75.results = ⟨[.cell 6 40]⟩ := rfl
theorem nt_75 : Tryz.f75.ntmps = 21 := rfl
theorem fn_76 : Tryz.prog.funcs[76]? = some Tryz.f76 := Tryz.func76
theorem rs_76 : Tryz.f76.results = ⟨[.cell 6 26, .tmp 7]⟩ := rfl
theorem nt_76 : Tryz.f76.ntmps = 54 := rfl
theorem fn_77 : Tryz.prog.funcs[77]? = some Tryz.f77 := Tryz.func77
theorem rs_77 : Tryz.f77.results = ⟨[.cell 8 26, .tmp 9]⟩ := rfl
theorem nt_77 : Tryz.f77.ntmps = 38 := rfl
theorem fn_78 : Tryz.prog.funcs[78]? = some Tryz.f78 := Tryz.func78
theorem rs_78 : Tryz.f78.results = ⟨[.cell 2 24]⟩ := rfl
theorem nt_78 : Tryz.f78.ntmps = 10 := rfl
theorem fn_79 : Tryz.prog.funcs[79]? = some Tryz.f79 := Tryz.func79
theorem rs_79 : Tryz.f79.results = ⟨[.tmp 2]⟩ := rfl
theorem nt_79 : Tryz.f79.ntmps = 25 := rfl
theorem fn_80 : Tryz.prog.funcs[80]? = some Tryz.f80 := Tryz.func80
theorem rs_80 : Tryz.f80.results = ⟨[.cell 8 28, .tmp 9]⟩ := rfl
theorem nt_80 : Tryz.f80.ntmps = 22 := rfl
theorem fn_81 : Tryz.prog.funcs[81]? = some Tryz.f81 := Tryz.func81
theorem rs_81 : Tryz.f81.results = ⟨[.cell 6 28, .tmp 7]⟩ := rfl
theorem nt_81 : Tryz.f81.ntmps = 52 := rfl
theorem fn_82 : Tryz.prog.funcs[82]? = some Tryz.f82 := Tryz.func82
theorem rs_82 : Tryz.f82.results = ⟨[.cell 2 28, .tmp 3]⟩ := rfl
theorem nt_82 : Tryz.f82.ntmps = 57 := rfl
theorem fn_83 : Tryz.prog.funcs[83]? = some Tryz.f83 := Tryz.func83
theorem rs_83 : Tryz.f83.results = ⟨[.cell 2 24, .cell 3 24]⟩ := rfl
theorem nt_83 : Tryz.f83.ntmps = 8 := rfl
theorem fn_84 : Tryz.prog.funcs[84]? = some Tryz.f84 := Tryz.func84
theorem rs_84 : Tryz.f84.results = ⟨[.tmp 2]⟩ := rfl
theorem nt_84 : Tryz.f84.ntmps = 11 := rfl
theorem fn_85 : Tryz.prog.funcs[85]? = some Tryz.f85 := Tryz.func85
theorem rs_85 : Tryz.f85.results = ⟨[.cell 4 26, .tmp 5]⟩ := rfl
theorem nt_85 : Tryz.f85.ntmps = 23 := rfl
theorem fn_86 : Tryz.prog.funcs[86]? = some Tryz.f86 := Tryz.func86
theorem rs_86 : Tryz.f86.results = ⟨[.tmp 4]⟩ := rfl
theorem nt_86 : Tryz.f86.ntmps = 15 := rfl
theorem fn_87 : Tryz.prog.funcs[87]? = some Tryz.f87 := Tryz.func87
theorem rs_87 : Tryz.f87.results = ⟨[.tmp 2]⟩ := rfl
theorem nt_87 : Tryz.f87.ntmps = 52 := rfl
theorem fn_88 : Tryz.prog.funcs[88]? = some Tryz.f88 := Tryz.func88
theorem rs_88 : Tryz.f88.results = ⟨[.cell 6 40, .tmp 7]⟩ := rfl
theorem nt_88 : Tryz.f88.ntmps = 44 := rfl
theorem fn_89 : Tryz.prog.funcs[89]? = some Tryz.f89 := Tryz.func89
theorem rs_89 : Tryz.f89.results = ⟨[.cell 6 40, .tmp 7]⟩ := rfl
theorem nt_89 : Tryz.f89.ntmps = 40 := rfl
theorem fn_99 : Tryz.prog.funcs[99]? = some Tryz.f99 := Tryz.func99
theorem rs_99 : Tryz.f99.results = ⟨[.tmp 2]⟩ := rfl
theorem nt_99 : Tryz.f99.ntmps = 35 := rfl
theorem fn_100 : Tryz.prog.funcs[100]? = some Tryz.f100 := Tryz.func100
theorem rs_100 : Tryz.f100.results = ⟨[.tmp 4]⟩ := rfl
theorem nt_100 : Tryz.f100.ntmps = 9 := rfl
theorem fn_106 : Tryz.prog.funcs[106]? = some Tryz.f106 := Tryz.func106
theorem rs_106 : Tryz.f106.results = ⟨[.cell 4 24, .cell 5 24, .tmp 6]⟩ := rfl
theorem nt_106 : Tryz.f106.ntmps = 34 := rfl
theorem fn_107 : Tryz.prog.funcs[107]? = some Tryz.f107 := Tryz.func107
theorem rs_107 : Tryz.f107.results = ⟨[.tmp 4]⟩ := rfl
theorem nt_107 : Tryz.f107.ntmps = 33 := rfl
theorem fn_108 : Tryz.prog.funcs[108]? = some Tryz.f108 := Tryz.func108
theorem rs_108 : Tryz.f108.results = ⟨[.tmp 4, .tmp 5]⟩ := rfl
theorem nt_108 : Tryz.f108.ntmps = 26 := rfl
theorem fn_113 : Tryz.prog.funcs[113]? = some Tryz.f113 := Tryz.func113
theorem rs_113 : Tryz.f113.results = ⟨[.tmp 2]⟩ := rfl
theorem nt_113 : Tryz.f113.ntmps = 21 := rfl
theorem fn_114 : Tryz.prog.funcs[114]? = some Tryz.f114 := Tryz.func114
theorem rs_114 : Tryz.f114.results = ⟨[.tmp 4]⟩ := rfl
theorem nt_114 : Tryz.f114.ntmps = 40 := rfl
theorem fn_115 : Tryz.prog.funcs[115]? = some Tryz.f115 := Tryz.func115
theorem rs_115 : Tryz.f115.results = ⟨[.cell 4 24, .tmp 5]⟩ := rfl
theorem nt_115 : Tryz.f115.ntmps = 21 := rfl
theorem fn_116 : Tryz.prog.funcs[116]? = some Tryz.f116 := Tryz.func116
theorem rs_116 : Tryz.f116.results = ⟨[.tmp 4]⟩ := rfl
theorem nt_116 : Tryz.f116.ntmps = 9 := rfl
theorem fn_117 : Tryz.prog.funcs[117]? = some Tryz.f117 := Tryz.func117
theorem rs_117 : Tryz.f117.results = ⟨[.tmp 2]⟩ := rfl
theorem nt_117 : Tryz.f117.ntmps = 5 := rfl
theorem fn_118 : Tryz.prog.funcs[118]? = some Tryz.f118 := Tryz.func118
theorem rs_118 : Tryz.f118.results = ⟨[.tmp 4]⟩ := rfl
theorem nt_118 : Tryz.f118.ntmps = 44 := rfl
theorem fn_119 : Tryz.prog.funcs[119]? = some Tryz.f119 := Tryz.func119
theorem rs_119 : Tryz.f119.results = ⟨[.tmp 2]⟩ := rfl
theorem nt_119 : Tryz.f119.ntmps = 8 := rfl
theorem fn_120 : Tryz.prog.funcs[120]? = some Tryz.f120 := Tryz.func120
theorem rs_120 : Tryz.f120.results = ⟨[.cell 4 24, .tmp 5]⟩ := rfl
theorem nt_120 : Tryz.f120.ntmps = 12 := rfl
theorem fn_121 : Tryz.prog.funcs[121]? = some Tryz.f121 := Tryz.func121
theorem rs_121 : Tryz.f121.results = ⟨[.cell 2 24]⟩ := rfl
theorem nt_121 : Tryz.f121.ntmps = 15 := rfl
theorem fn_122 : Tryz.prog.funcs[122]? = some Tryz.f122 := Tryz.func122
theorem rs_122 : Tryz.f122.results = ⟨[.cell 4 24, .tmp 5]⟩ := rfl
theorem nt_122 : Tryz.f122.ntmps = 26 := rfl
theorem fn_123 : Tryz.prog.funcs[123]? = some Tryz.f123 := Tryz.func123
theorem rs_123 : Tryz.f123.results = ⟨[.cell 2 24]⟩ := rfl
theorem nt_123 : Tryz.f123.ntmps = 9 := rfl
theorem fn_124 : Tryz.prog.funcs[124]? = some Tryz.f124 := Tryz.func124
theorem rs_124 : Tryz.f124.results = ⟨[.cell 4 24, .cell 5 24, .tmp 6]⟩ := rfl
theorem nt_124 : Tryz.f124.ntmps = 77 := rfl
theorem fn_125 : Tryz.prog.funcs[125]? = some Tryz.f125 := Tryz.func125
theorem rs_125 : Tryz.f125.results = ⟨[.cell 2 24]⟩ := rfl
theorem nt_125 : Tryz.f125.ntmps = 12 := rfl
theorem fn_126 : Tryz.prog.funcs[126]? = some Tryz.f126 := Tryz.func126
theorem rs_126 : Tryz.f126.results = ⟨[.cell 6 37]⟩ := rfl
theorem nt_126 : Tryz.f126.ntmps = 36 := rfl
theorem fn_127 : Tryz.prog.funcs[127]? = some Tryz.f127 := Tryz.func127
theorem rs_127 : Tryz.f127.results = ⟨[.cell 4 24, .tmp 5]⟩ := rfl
theorem nt_127 : Tryz.f127.ntmps = 39 := rfl
theorem fn_128 : Tryz.prog.funcs[128]? = some Tryz.f128 := Tryz.func128
theorem rs_128 : Tryz.f128.results = ⟨[.cell 4 24, .tmp 5]⟩ := rfl
theorem nt_128 : Tryz.f128.ntmps = 19 := rfl
theorem fn_129 : Tryz.prog.funcs[129]? = some Tryz.f129 := Tryz.func129
theorem rs_129 : Tryz.f129.results = ⟨[.tmp 2]⟩ := rfl
theorem nt_129 : Tryz.f129.ntmps = 47 := rfl
theorem fn_130 : Tryz.prog.funcs[130]? = some Tryz.f130 := Tryz.func130
theorem rs_130 : Tryz.f130.results = ⟨[.tmp 4, .tmp 5]⟩ := rfl
theorem nt_130 : Tryz.f130.ntmps = 44 := rfl
theorem fn_131 : Tryz.prog.funcs[131]? = some Tryz.f131 := Tryz.func131
theorem rs_131 : Tryz.f131.results = ⟨[]⟩ := rfl
theorem nt_131 : Tryz.f131.ntmps = 28 := rfl
theorem fn_132 : Tryz.prog.funcs[132]? = some Tryz.f132 := Tryz.func132
theorem rs_132 : Tryz.f132.results = ⟨[.tmp 2]⟩ := rfl
theorem nt_132 : Tryz.f132.ntmps = 16 := rfl
theorem fn_134 : Tryz.prog.funcs[134]? = some Tryz.f134 := Tryz.func134
theorem rs_134 : Tryz.f134.results = ⟨[.cell 2 24, .tmp 3]⟩ := rfl
theorem nt_134 : Tryz.f134.ntmps = 56 := rfl
theorem fn_136 : Tryz.prog.funcs[136]? = some Tryz.f136 := Tryz.func136
theorem rs_136 : Tryz.f136.results = ⟨[.tmp 4]⟩ := rfl
theorem nt_136 : Tryz.f136.ntmps = 20 := rfl
theorem fn_137 : Tryz.prog.funcs[137]? = some Tryz.f137 := Tryz.func137
theorem rs_137 : Tryz.f137.results = ⟨[.tmp 4]⟩ := rfl
theorem nt_137 : Tryz.f137.ntmps = 35 := rfl
theorem fn_141 : Tryz.prog.funcs[141]? = some Tryz.f141 := Tryz.func141
theorem rs_141 : Tryz.f141.results = ⟨[.tmp 4]⟩ := rfl
theorem nt_141 : Tryz.f141.ntmps = 19 := rfl
theorem fn_142 : Tryz.prog.funcs[142]? = some Tryz.f142 := Tryz.func142
theorem rs_142 : Tryz.f142.results = ⟨[.tmp 4, .tmp 5]⟩ := rfl
theorem nt_142 : Tryz.f142.ntmps = 86 := rfl
theorem fn_143 : Tryz.prog.funcs[143]? = some Tryz.f143 := Tryz.func143
theorem rs_143 : Tryz.f143.results = ⟨[.tmp 4]⟩ := rfl
theorem nt_143 : Tryz.f143.ntmps = 43 := rfl
theorem fn_144 : Tryz.prog.funcs[144]? = some Tryz.f144 := Tryz.func144
theorem rs_144 : Tryz.f144.results = ⟨[.tmp 4]⟩ := rfl
theorem nt_144 : Tryz.f144.ntmps = 56 := rfl
theorem fn_145 : Tryz.prog.funcs[145]? = some Tryz.f145 := Tryz.func145
theorem rs_145 : Tryz.f145.results = ⟨[.tmp 4]⟩ := rfl
theorem nt_145 : Tryz.f145.ntmps = 67 := rfl
theorem fn_146 : Tryz.prog.funcs[146]? = some Tryz.f146 := Tryz.func146
theorem rs_146 : Tryz.f146.results = ⟨[.tmp 4]⟩ := rfl
theorem nt_146 : Tryz.f146.ntmps = 11 := rfl
theorem fn_147 : Tryz.prog.funcs[147]? = some Tryz.f147 := Tryz.func147
theorem rs_147 : Tryz.f147.results = ⟨[.tmp 2]⟩ := rfl
theorem nt_147 : Tryz.f147.ntmps = 37 := rfl
theorem fn_153 : Tryz.prog.funcs[153]? = some Tryz.f153 := Tryz.func153
theorem rs_153 : Tryz.f153.results = ⟨[.tmp 2]⟩ := rfl
theorem nt_153 : Tryz.f153.ntmps = 6 := rfl
theorem fn_154 : Tryz.prog.funcs[154]? = some Tryz.f154 := Tryz.func154
theorem rs_154 : Tryz.f154.results = ⟨[.tmp 4]⟩ := rfl
theorem nt_154 : Tryz.f154.ntmps = 20 := rfl
theorem fn_155 : Tryz.prog.funcs[155]? = some Tryz.f155 := Tryz.func155
theorem rs_155 : Tryz.f155.results = ⟨[.tmp 2]⟩ := rfl
theorem nt_155 : Tryz.f155.ntmps = 6 := rfl
theorem fn_156 : Tryz.prog.funcs[156]? = some Tryz.f156 := Tryz.func156
theorem rs_156 : Tryz.f156.results = ⟨[.tmp 6]⟩ := rfl
theorem nt_156 : Tryz.f156.ntmps = 83 := rfl
theorem fn_157 : Tryz.prog.funcs[157]? = some Tryz.f157 := Tryz.func157
theorem rs_157 : Tryz.f157.results = ⟨[.tmp 8]⟩ := rfl
theorem nt_157 : Tryz.f157.ntmps = 60 := rfl
theorem fn_158 : Tryz.prog.funcs[158]? = some Tryz.f158 := Tryz.func158
theorem rs_158 : Tryz.f158.results = ⟨[]⟩ := rfl
theorem nt_158 : Tryz.f158.ntmps = 44 := rfl
theorem fn_159 : Tryz.prog.funcs[159]? = some Tryz.f159 := Tryz.func159
theorem rs_159 : Tryz.f159.results = ⟨[.tmp 6, .tmp 7]⟩ := rfl
theorem nt_159 : Tryz.f159.ntmps = 25 := rfl
theorem fn_166 : Tryz.prog.funcs[166]? = some Tryz.f166 := Tryz.func166
theorem rs_166 : Tryz.f166.results = ⟨[.tmp 2]⟩ := rfl
theorem nt_166 : Tryz.f166.ntmps = 6 := rfl
theorem fn_167 : Tryz.prog.funcs[167]? = some Tryz.f167 := Tryz.func167
theorem rs_167 : Tryz.f167.results = ⟨[.tmp 2]⟩ := rfl
theorem nt_167 : Tryz.f167.ntmps = 19 := rfl
theorem mixed : Tryz.prog.follows .mixedOrders = true := by kernel_rfl
def GH (H : Hp) : Prop := ∃ o, H.at_ 0 = some o ∧ ∀ w : World, w.heap[0]? = some o → GG w
theorem GH.mono {H H' : Hp} (h : GH H) (hle : H.le H') : GH H' := let ⟨o, h1, h2⟩ := h; ⟨o, hle.at_ 0 o h1, h2⟩
theorem W3 {W : World} (h : GG W) : GH (snap W) := by
 unfold GG at h
 have h1 := h
 unfold World.cell? at h1
 split at h1
 · rename_i c1 T fz hh
   refine ⟨_, hh, fun w hw => ?_⟩
   show w.cell? _ = _
   unfold World.cell?
   rw [hw]; exact h1
 · cases h1
def errN (e : Option Int) : Int := e.getD 0
theorem num10.calls {H : Hp} {L : Items} {e : Option Int} (hG : GH H) (he : some (errN e) = some (errN e)) : Ct Tryz.prog 10 ⟨[errV 104 e]⟩ H L (fun v H' L' => L = L' ∧ H = H' ∧ v = .int .i64 (errN e)) := Ct.of_calls fun w hw => by
 obtain ⟨o, h1, h2⟩ := hG
 have hg := h2 w (hw.good 0 o h1)
 have this : Calls Tryz.prog 10 #[errV 104 e] w fun ev w' => ev = .returned (.int .i64 (e.getD 0)) ∧ Below w.heap.size w w' := by
  cases e with
  | none => exact num10_any none w hg
  | some c => exact num10_any (some c) w hg
 refine this.mono ?_
 rintro ev w' ⟨rfl, hb⟩
 exact ⟨_, _, _, rfl, hw.below hb, rfl, rfl, rfl⟩
abbrev QN (x : Qh) (v0 : Value) : List Value := [.bool x.f_Neg, v0]
abbrev XB (x : QJ) (v0 v1 : Value) : List Value := [.bool x.f_N.f_Neg, v0, .bool x.f_D.f_Neg, v1]
abbrev YL (x : Xg) (v0 v1 v2 v3 : Value) : List Value := [.bool x.f_Low.f_N.f_Neg, v0, .bool x.f_Low.f_D.f_Neg, v1, .bool x.f_High.f_N.f_Neg, v2, .bool x.f_High.f_D.f_Neg, v3]
abbrev Yn (x : Yf) (v0 v1 v2 v3 : Value) : List Value := [v0, v1, v2, v3, .bool x.f_Neg.e0, .bool x.f_Neg.e1]
abbrev QW (x : Qu) (v0 : Value) : List Value := [.bool x.f_neg, v0]
abbrev Qt (x : QG) (v0 v1 : Value) : List Value := [.bool x.f_n.f_neg, v0, .bool x.f_d.f_neg, v1]
abbrev Q5 (x : QL) (v0 v1 v2 v3 : Value) : List Value := [.bool x.f_Low.f_n.f_neg, v0, .bool x.f_Low.f_d.f_neg, v1, .bool x.f_High.f_n.f_neg, v2, .bool x.f_High.f_d.f_neg, v3]
abbrev Qg (x : QL) (v0 v1 v2 v3 : Value) : Value := .agg ⟨Q5 x v0 v1 v2 v3⟩
abbrev Yc (x : Yf) (v0 v1 v2 v3 : Value) : Value := .agg ⟨Yn x v0 v1 v2 v3⟩
abbrev Qb (x : Qh) (v0 : Value) : Value := .agg ⟨QN x v0⟩
abbrev Qe (x : QJ) (v0 v1 : Value) : Value := .agg ⟨XB x v0 v1⟩
abbrev Qk (x : Xg) (v0 v1 v2 v3 : Value) : Value := .agg ⟨YL x v0 v1 v2 v3⟩
abbrev Qa (x : QG) (v0 v1 : Value) : Value := .agg ⟨Qt x v0 v1⟩
abbrev Qd (x : Qu) (v0 : Value) : Value := .agg ⟨QW x v0⟩
abbrev z0c : List Value := [.bool false, .slice none 0 0, .bool false, .slice none 0 0]
abbrev z1c : List Value := [.slice none 0 0, .slice none 0 0, .slice none 0 0, .slice none 0 0]
abbrev z2c : List Value := [.bool false, .slice none 0 0, .bool false, .slice none 0 0, .bool false, .slice none 0 0, .bool false, .slice none 0 0]
theorem Q7 {H : Hp} {x : Qh} {v0 : Value} {A0 : Type} {d0 : Kd A0} {l0 : List A0} (h0 : Ro d0 H v0 l0) : (QN x v0).all (·.oneCell') = true := (oc rfl (oc h0.one oz))
theorem Yg {H : Hp} {x : QJ} {v0 v1 : Value} {A0 : Type} {d0 : Kd A0} {l0 : List A0} (h0 : Ro d0 H v0 l0) {A1 : Type} {d1 : Kd A1} {l1 : List A1} (h1 : Ro d1 H v1 l1) : (XB x v0 v1).all (·.oneCell') = true := (oc rfl (oc h0.one (oc rfl (oc h1.one oz))))
theorem Z8 {H : Hp} {x : Xg} {v0 v1 v2 v3 : Value} {A0 : Type} {d0 : Kd A0} {l0 : List A0} (h0 : Ro d0 H v0 l0) {A1 : Type} {d1 : Kd A1} {l1 : List A1} (h1 : Ro d1 H v1 l1) {A2 : Type} {d2 : Kd A2} {l2 : List A2} (h2 : Ro d2 H v2 l2) {A3 : Type} {d3 : Kd A3} {l3 : List A3} (h3 : Ro d3 H v3 l3) : (YL x v0 v1 v2 v3).all (·.oneCell') = true := (oc rfl (oc h0.one (oc rfl (oc h1.one (oc rfl (oc h2.one (oc rfl (oc h3.one oz))))))))
theorem XF {H : Hp} {x : Qu} {v0 : Value} {A0 : Type} {d0 : Kd A0} {l0 : List A0} (h0 : Ro d0 H v0 l0) : (QW x v0).all (·.oneCell') = true := (oc rfl (oc h0.one oz))
theorem Xw {H : Hp} {x : QG} {v0 v1 : Value} {A0 : Type} {d0 : Kd A0} {l0 : List A0} (h0 : Ro d0 H v0 l0) {A1 : Type} {d1 : Kd A1} {l1 : List A1} (h1 : Ro d1 H v1 l1) : (Qt x v0 v1).all (·.oneCell') = true := (oc rfl (oc h0.one (oc rfl (oc h1.one oz))))
theorem X6 {H : Hp} {x : QL} {v0 v1 v2 v3 : Value} {A0 : Type} {d0 : Kd A0} {l0 : List A0} (h0 : Ro d0 H v0 l0) {A1 : Type} {d1 : Kd A1} {l1 : List A1} (h1 : Ro d1 H v1 l1) {A2 : Type} {d2 : Kd A2} {l2 : List A2} (h2 : Ro d2 H v2 l2) {A3 : Type} {d3 : Kd A3} {l3 : List A3} (h3 : Ro d3 H v3 l3) : (Q5 x v0 v1 v2 v3).all (·.oneCell') = true := (oc rfl (oc h0.one (oc rfl (oc h1.one (oc rfl (oc h2.one (oc rfl (oc h3.one oz))))))))
end Go.Proofs.YtkccpkccdbfomaaGreatDoor.GSS
