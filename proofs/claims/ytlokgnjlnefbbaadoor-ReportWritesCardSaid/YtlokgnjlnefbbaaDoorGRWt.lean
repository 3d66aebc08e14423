/- printed by gen.py -/
import Derived.Test.YtlokgnjlnefbbaaDoorGRWk13
import Derived.Test.YtlokgnjlnefbbaaDoorAs
namespace Go.Proofs.YtlokgnjlnefbbaaDoor.GRW
open Go Go.RowKit Go.Proofs.YtlokgnjlnefbbaaDoorK Go.Proofs.YtlokgnjlnefbbaaDoor
set_option linter.unusedVariables false
set_option linter.unusedSimpArgs false
def str_0 : ByteArray := ⟨#[62, 0, 23, 151, 12]⟩
structure cat062_Report where
 f_ID : Int
 f_Time : Int
 f_X : Int
 f_Y : Int
 f_VX : Int
 f_VY : Int
 f_State : Int
instance : Inhabited cat062_Report := ⟨⟨0, 0, 0, 0, 0, 0, 0⟩⟩
def k_cat062_Report : Kd cat062_Report := Kd.map (fun s => (s.f_ID, (s.f_Time, (s.f_X, (s.f_Y, (s.f_VX, (s.f_VY, s.f_State))))))) (Kd.pair (Kd.int .u16) (Kd.pair kI64 (Kd.pair (Kd.int .i32) (Kd.pair (Kd.int .i32) (Kd.pair (Kd.int .i16) (Kd.pair (Kd.int .i16) kU8))))))
theorem k_cat062_Report_out {H : Hp} {cs : List Value} {x : cat062_Report} (h : k_cat062_Report.rep H cs x) : cs = [.int .u16 x.f_ID, .int .i64 x.f_Time, .int .i32 x.f_X, .int .i32 x.f_Y, .int .i16 x.f_VX, .int .i16 x.f_VY, .int .u8 x.f_State] := by
 obtain ⟨_, _, rfl, rfl, ⟨_, _, rfl, rfl, ⟨_, _, rfl, rfl, ⟨_, _, rfl, rfl, ⟨_, _, rfl, rfl, ⟨_, _, rfl, rfl, rfl⟩⟩⟩⟩⟩⟩ := (show ((Kd.pair (Kd.int .u16) (Kd.pair kI64 (Kd.pair (Kd.int .i32) (Kd.pair (Kd.int .i32) (Kd.pair (Kd.int .i16) (Kd.pair (Kd.int .i16) kU8))))))).rep H cs ((x.f_ID, (x.f_Time, (x.f_X, (x.f_Y, (x.f_VX, (x.f_VY, x.f_State))))))) from h)
 rfl
theorem k_cat062_Report_in {H : Hp} {x : cat062_Report} : k_cat062_Report.rep H [.int .u16 x.f_ID, .int .i64 x.f_Time, .int .i32 x.f_X, .int .i32 x.f_Y, .int .i16 x.f_VX, .int .i16 x.f_VY, .int .u8 x.f_State] x :=
 (show ((Kd.pair (Kd.int .u16) (Kd.pair kI64 (Kd.pair (Kd.int .i32) (Kd.pair (Kd.int .i32) (Kd.pair (Kd.int .i16) (Kd.pair (Kd.int .i16) kU8))))))).rep H _ ((x.f_ID, (x.f_Time, (x.f_X, (x.f_Y, (x.f_VX, (x.f_VY, x.f_State))))))) from ⟨[.int .u16 x.f_ID], [.int .i64 x.f_Time, .int .i32 x.f_X, .int .i32 x.f_Y, .int .i16 x.f_VX, .int .i16 x.f_VY, .int .u8 x.f_State], rfl, rfl, ⟨[.int .i64 x.f_Time], [.int .i32 x.f_X, .int .i32 x.f_Y, .int .i16 x.f_VX, .int .i16 x.f_VY, .int .u8 x.f_State], rfl, rfl, ⟨[.int .i32 x.f_X], [.int .i32 x.f_Y, .int .i16 x.f_VX, .int .i16 x.f_VY, .int .u8 x.f_State], rfl, rfl, ⟨[.int .i32 x.f_Y], [.int .i16 x.f_VX, .int .i16 x.f_VY, .int .u8 x.f_State], rfl, rfl, ⟨[.int .i16 x.f_VX], [.int .i16 x.f_VY, .int .u8 x.f_State], rfl, rfl, ⟨[.int .i16 x.f_VY], [.int .u8 x.f_State], rfl, rfl, rfl⟩⟩⟩⟩⟩⟩)
structure cat062_taker where
 f_b : List Int
instance : Inhabited cat062_taker := ⟨⟨[]⟩⟩
def k_cat062_taker : Kd cat062_taker := Kd.map (fun s => s.f_b) (Kd.slice kU8)
theorem k_cat062_taker_out {H : Hp} {cs : List Value} {x : cat062_taker} (h : k_cat062_taker.rep H cs x) : ∃ v0, cs = [v0] ∧ Ro kU8 H v0 x.f_b := by
 obtain ⟨v0, rfl, h0⟩ := (show ((Kd.slice kU8)).rep H cs (x.f_b) from h)
 exact ⟨v0, rfl, h0⟩
theorem k_cat062_taker_in {H : Hp} {v0 : Value} {x : cat062_taker} (h0 : Ro kU8 H v0 x.f_b) : k_cat062_taker.rep H [v0] x :=
 (show ((Kd.slice kU8)).rep H _ (x.f_b) from ⟨v0, rfl, h0⟩)
structure radomeref29_Report where
 f_ID : Int
 f_Time : Int
 f_X : Int
 f_Y : Int
 f_VX : Int
 f_VY : Int
 f_State : Int
instance : Inhabited radomeref29_Report := ⟨⟨0, 0, 0, 0, 0, 0, 0⟩⟩
def k_radomeref29_Report : Kd radomeref29_Report := Kd.map (fun s => (s.f_ID, (s.f_Time, (s.f_X, (s.f_Y, (s.f_VX, (s.f_VY, s.f_State))))))) (Kd.pair (Kd.int .u16) (Kd.pair kI64 (Kd.pair (Kd.int .i32) (Kd.pair (Kd.int .i32) (Kd.pair (Kd.int .i16) (Kd.pair (Kd.int .i16) kU8))))))
theorem k_radomeref29_Report_out {H : Hp} {cs : List Value} {x : radomeref29_Report} (h : k_radomeref29_Report.rep H cs x) : cs = [.int .u16 x.f_ID, .int .i64 x.f_Time, .int .i32 x.f_X, .int .i32 x.f_Y, .int .i16 x.f_VX, .int .i16 x.f_VY, .int .u8 x.f_State] := by
 obtain ⟨_, _, rfl, rfl, ⟨_, _, rfl, rfl, ⟨_, _, rfl, rfl, ⟨_, _, rfl, rfl, ⟨_, _, rfl, rfl, ⟨_, _, rfl, rfl, rfl⟩⟩⟩⟩⟩⟩ := (show ((Kd.pair (Kd.int .u16) (Kd.pair kI64 (Kd.pair (Kd.int .i32) (Kd.pair (Kd.int .i32) (Kd.pair (Kd.int .i16) (Kd.pair (Kd.int .i16) kU8))))))).rep H cs ((x.f_ID, (x.f_Time, (x.f_X, (x.f_Y, (x.f_VX, (x.f_VY, x.f_State))))))) from h)
 rfl
theorem k_radomeref29_Report_in {H : Hp} {x : radomeref29_Report} : k_radomeref29_Report.rep H [.int .u16 x.f_ID, .int .i64 x.f_Time, .int .i32 x.f_X, .int .i32 x.f_Y, .int .i16 x.f_VX, .int .i16 x.f_VY, .int .u8 x.f_State] x :=
 (show ((Kd.pair (Kd.int .u16) (Kd.pair kI64 (Kd.pair (Kd.int .i32) (Kd.pair (Kd.int .i32) (Kd.pair (Kd.int .i16) (Kd.pair (Kd.int .i16) kU8))))))).rep H _ ((x.f_ID, (x.f_Time, (x.f_X, (x.f_Y, (x.f_VX, (x.f_VY, x.f_State))))))) from ⟨[.int .u16 x.f_ID], [.int .i64 x.f_Time, .int .i32 x.f_X, .int .i32 x.f_Y, .int .i16 x.f_VX, .int .i16 x.f_VY, .int .u8 x.f_State], rfl, rfl, ⟨[.int .i64 x.f_Time], [.int .i32 x.f_X, .int .i32 x.f_Y, .int .i16 x.f_VX, .int .i16 x.f_VY, .int .u8 x.f_State], rfl, rfl, ⟨[.int .i32 x.f_X], [.int .i32 x.f_Y, .int .i16 x.f_VX, .int .i16 x.f_VY, .int .u8 x.f_State], rfl, rfl, ⟨[.int .i32 x.f_Y], [.int .i16 x.f_VX, .int .i16 x.f_VY, .int .u8 x.f_State], rfl, rfl, ⟨[.int .i16 x.f_VX], [.int .i16 x.f_VY, .int .u8 x.f_State], rfl, rfl, ⟨[.int .i16 x.f_VY], [.int .u8 x.f_State], rfl, rfl, rfl⟩⟩⟩⟩⟩⟩)
structure radomeref01_Num where
 f_Neg : Bool
 f_D : List Int
instance : Inhabited radomeref01_Num := ⟨⟨false, []⟩⟩
def k_radomeref01_Num : Kd radomeref01_Num := Kd.map (fun s => (s.f_Neg, s.f_D)) (Kd.pair Kd.bool (Kd.slice kI64))
theorem k_radomeref01_Num_out {H : Hp} {cs : List Value} {x : radomeref01_Num} (h : k_radomeref01_Num.rep H cs x) : ∃ v0, cs = [.bool x.f_Neg, v0] ∧ Ro kI64 H v0 x.f_D := by
 obtain ⟨_, _, rfl, rfl, ⟨v0, rfl, h0⟩⟩ := (show ((Kd.pair Kd.bool (Kd.slice kI64))).rep H cs ((x.f_Neg, x.f_D)) from h)
 exact ⟨v0, rfl, h0⟩
theorem k_radomeref01_Num_in {H : Hp} {v0 : Value} {x : radomeref01_Num} (h0 : Ro kI64 H v0 x.f_D) : k_radomeref01_Num.rep H [.bool x.f_Neg, v0] x :=
 (show ((Kd.pair Kd.bool (Kd.slice kI64))).rep H _ ((x.f_Neg, x.f_D)) from ⟨[.bool x.f_Neg], [v0], rfl, rfl, ⟨v0, rfl, h0⟩⟩)
structure T24 where
 e0 : Int
 e1 : Int
instance : Inhabited T24 := ⟨⟨0, 0⟩⟩
def k_T24 : Kd T24 := Kd.map (fun s => (s.e0, s.e1)) (Kd.pair kI64 kI64)
theorem k_T24_out {H : Hp} {cs : List Value} {x : T24} (h : k_T24.rep H cs x) : cs = [.int .i64 x.e0, .int .i64 x.e1] := by
 obtain ⟨_, _, rfl, rfl, rfl⟩ := (show ((Kd.pair kI64 kI64)).rep H cs ((x.e0, x.e1)) from h)
 rfl
theorem k_T24_in {H : Hp} {x : T24} : k_T24.rep H [.int .i64 x.e0, .int .i64 x.e1] x :=
 (show ((Kd.pair kI64 kI64)).rep H _ ((x.e0, x.e1)) from ⟨[.int .i64 x.e0], [.int .i64 x.e1], rfl, rfl, rfl⟩)
theorem ty2 : TyA Tryd.prog 2 false 1 := ⟨⟨_, Tryd.underlying2, rfl⟩, by kernel_rfl⟩
theorem sz2 : (Tryd.prog.info? 2).map (·.size) = some 1 := by kernel_rfl
theorem zr2 : (Tryd.prog.info? 2).bind (·.zero) = some (.int .i64 0) := by kernel_rfl
theorem ti2 : TI Tryd.prog 2 1 8 (.int .i64 0) := ⟨by kernel_rfl⟩
theorem zp2 (H : Hp) : (kI64).rep H (Value.cells (.int .i64 0)).toList 0 := rfl
theorem ty3 : TyA Tryd.prog 3 false 1 := ⟨⟨_, Tryd.underlying3, rfl⟩, by kernel_rfl⟩
theorem sz3 : (Tryd.prog.info? 3).map (·.size) = some 1 := by kernel_rfl
theorem zr3 : (Tryd.prog.info? 3).bind (·.zero) = some (.int .i64 0) := by kernel_rfl
theorem ti3 : TI Tryd.prog 3 1 8 (.int .i64 0) := ⟨by kernel_rfl⟩
theorem zp3 (H : Hp) : (kI64).rep H (Value.cells (.int .i64 0)).toList 0 := rfl
theorem ty4 : TyA Tryd.prog 4 false 1 := ⟨⟨_, Tryd.underlying4, rfl⟩, by kernel_rfl⟩
theorem sz4 : (Tryd.prog.info? 4).map (·.size) = some 1 := by kernel_rfl
theorem zr4 : (Tryd.prog.info? 4).bind (·.zero) = some (.bool false) := by kernel_rfl
theorem ti4 : TI Tryd.prog 4 1 1 (.bool false) := ⟨by kernel_rfl⟩
theorem zp4 (H : Hp) : (Kd.bool).rep H (Value.cells (.bool false)).toList false := rfl
theorem ty5 : TyA Tryd.prog 5 false 1 := ⟨⟨_, Tryd.underlying5, rfl⟩, by kernel_rfl⟩
theorem sz5 : (Tryd.prog.info? 5).map (·.size) = some 1 := by kernel_rfl
theorem zr5 : (Tryd.prog.info? 5).bind (·.zero) = some (.int .u8 0) := by kernel_rfl
theorem ti5 : TI Tryd.prog 5 1 1 (.int .u8 0) := ⟨by kernel_rfl⟩
theorem zp5 (H : Hp) : (kU8).rep H (Value.cells (.int .u8 0)).toList 0 := rfl
theorem ty21 : TyA Tryd.prog 21 false 1 := ⟨⟨_, Tryd.underlying21, rfl⟩, by kernel_rfl⟩
theorem sz21 : (Tryd.prog.info? 21).map (·.size) = some 1 := by kernel_rfl
theorem zr21 : (Tryd.prog.info? 21).bind (·.zero) = some (.int .i32 0) := by kernel_rfl
theorem ti21 : TI Tryd.prog 21 1 4 (.int .i32 0) := ⟨by kernel_rfl⟩
theorem zp21 (H : Hp) : ((Kd.int .i32)).rep H (Value.cells (.int .i32 0)).toList 0 := rfl
theorem ty22 : TyA Tryd.prog 22 false 1 := ⟨⟨_, Tryd.underlying22, rfl⟩, by kernel_rfl⟩
theorem sz22 : (Tryd.prog.info? 22).map (·.size) = some 1 := by kernel_rfl
theorem zr22 : (Tryd.prog.info? 22).bind (·.zero) = some (.int .u16 0) := by kernel_rfl
theorem ti22 : TI Tryd.prog 22 1 2 (.int .u16 0) := ⟨by kernel_rfl⟩
theorem zp22 (H : Hp) : ((Kd.int .u16)).rep H (Value.cells (.int .u16 0)).toList 0 := rfl
theorem ty26 : TyA Tryd.prog 26 false 1 := ⟨⟨_, Tryd.underlying26, rfl⟩, by kernel_rfl⟩
theorem sz26 : (Tryd.prog.info? 26).map (·.size) = some 1 := by kernel_rfl
theorem zr26 : (Tryd.prog.info? 26).bind (·.zero) = some (.slice none 0 0) := by kernel_rfl
theorem ti26 : TI Tryd.prog 26 1 24 (.slice none 0 0) := ⟨by kernel_rfl⟩
theorem zp26 (H : Hp) : ((Kd.slice kU8)).rep H (Value.cells (.slice none 0 0)).toList [] := ⟨_, rfl, ro_nil _ _⟩
theorem ty38 : TyA Tryd.prog 38 false 1 := ⟨⟨_, Tryd.underlying38, rfl⟩, by kernel_rfl⟩
theorem sz38 : (Tryd.prog.info? 38).map (·.size) = some 1 := by kernel_rfl
theorem zr38 : (Tryd.prog.info? 38).bind (·.zero) = some (.int .i16 0) := by kernel_rfl
theorem ti38 : TI Tryd.prog 38 1 2 (.int .i16 0) := ⟨by kernel_rfl⟩
theorem zp38 (H : Hp) : ((Kd.int .i16)).rep H (Value.cells (.int .i16 0)).toList 0 := rfl
theorem ty41 : TyA Tryd.prog 41 false 1 := ⟨⟨_, Tryd.underlying41, rfl⟩, by kernel_rfl⟩
theorem sz41 : (Tryd.prog.info? 41).map (·.size) = some 1 := by kernel_rfl
theorem zr41 : (Tryd.prog.info? 41).bind (·.zero) = some (.slice none 0 0) := by kernel_rfl
theorem ti41 : TI Tryd.prog 41 1 24 (.slice none 0 0) := ⟨by kernel_rfl⟩
theorem zp41 (H : Hp) : ((Kd.slice kI64)).rep H (Value.cells (.slice none 0 0)).toList [] := ⟨_, rfl, ro_nil _ _⟩
theorem ty70 : TyA Tryd.prog 70 true 7 := ⟨⟨_, Tryd.underlying70, rfl⟩, by kernel_rfl⟩
theorem sz70 : (Tryd.prog.info? 70).map (·.size) = some 7 := by kernel_rfl
theorem zr70 : (Tryd.prog.info? 70).bind (·.zero) = some (.agg #[.int .u16 0, .int .i64 0, .int .i32 0, .int .i32 0, .int .i16 0, .int .i16 0, .int .u8 0]) := by kernel_rfl
theorem ti70 : TI Tryd.prog 70 7 32 (.agg #[.int .u16 0, .int .i64 0, .int .i32 0, .int .i32 0, .int .i16 0, .int .i16 0, .int .u8 0]) := ⟨by kernel_rfl⟩
theorem zp70 (H : Hp) : (k_cat062_Report).rep H (Value.cells (.agg #[.int .u16 0, .int .i64 0, .int .i32 0, .int .i32 0, .int .i16 0, .int .i16 0, .int .u8 0])).toList (⟨0, 0, 0, 0, 0, 0, 0⟩ : cat062_Report) := k_cat062_Report_in (x := ⟨0, 0, 0, 0, 0, 0, 0⟩)
theorem ty76 : TyA Tryd.prog 76 true 7 := ⟨⟨_, Tryd.underlying76, rfl⟩, by kernel_rfl⟩
theorem sz76 : (Tryd.prog.info? 76).map (·.size) = some 7 := by kernel_rfl
theorem zr76 : (Tryd.prog.info? 76).bind (·.zero) = some (.agg #[.int .u16 0, .int .i64 0, .int .i32 0, .int .i32 0, .int .i16 0, .int .i16 0, .int .u8 0]) := by kernel_rfl
theorem ti76 : TI Tryd.prog 76 7 32 (.agg #[.int .u16 0, .int .i64 0, .int .i32 0, .int .i32 0, .int .i16 0, .int .i16 0, .int .u8 0]) := ⟨by kernel_rfl⟩
theorem zp76 (H : Hp) : (k_radomeref29_Report).rep H (Value.cells (.agg #[.int .u16 0, .int .i64 0, .int .i32 0, .int .i32 0, .int .i16 0, .int .i16 0, .int .u8 0])).toList (⟨0, 0, 0, 0, 0, 0, 0⟩ : radomeref29_Report) := k_radomeref29_Report_in (x := ⟨0, 0, 0, 0, 0, 0, 0⟩)
theorem ty84 : TyA Tryd.prog 84 true 2 := ⟨⟨_, Tryd.underlying84, rfl⟩, by kernel_rfl⟩
theorem sz84 : (Tryd.prog.info? 84).map (·.size) = some 2 := by kernel_rfl
theorem zr84 : (Tryd.prog.info? 84).bind (·.zero) = some (.agg #[.bool false, .slice none 0 0]) := by kernel_rfl
theorem ti84 : TI Tryd.prog 84 2 32 (.agg #[.bool false, .slice none 0 0]) := ⟨by kernel_rfl⟩
theorem zp84 (H : Hp) : (k_radomeref01_Num).rep H (Value.cells (.agg #[.bool false, .slice none 0 0])).toList (⟨false, []⟩ : radomeref01_Num) := k_radomeref01_Num_in (x := ⟨false, []⟩) (ro_nil _ _)
theorem ty125 : TyA Tryd.prog 125 true 1 := ⟨⟨_, Tryd.underlying125, rfl⟩, by kernel_rfl⟩
theorem sz125 : (Tryd.prog.info? 125).map (·.size) = some 1 := by kernel_rfl
theorem zr125 : (Tryd.prog.info? 125).bind (·.zero) = some (.agg #[.slice none 0 0]) := by kernel_rfl
theorem ti125 : TI Tryd.prog 125 1 24 (.agg #[.slice none 0 0]) := ⟨by kernel_rfl⟩
theorem zp125 (H : Hp) : (k_cat062_taker).rep H (Value.cells (.agg #[.slice none 0 0])).toList (⟨[]⟩ : cat062_taker) := k_cat062_taker_in (x := ⟨[]⟩) (ro_nil _ _)
theorem co8 : CallOk Tryd.prog 8 := ⟨_, Tryd.func8, by decide, rfl⟩
theorem co9 : CallOk Tryd.prog 9 := ⟨_, Tryd.func9, by decide, rfl⟩
theorem co10 : CallOk Tryd.prog 10 := ⟨_, Tryd.func10, by decide, rfl⟩
theorem co11 : CallOk Tryd.prog 11 := ⟨_, Tryd.func11, by decide, rfl⟩
theorem co12 : CallOk Tryd.prog 12 := ⟨_, Tryd.func12, by decide, rfl⟩
theorem co13 : CallOk Tryd.prog 13 := ⟨_, Tryd.func13, by decide, rfl⟩
theorem co14 : CallOk Tryd.prog 14 := ⟨_, Tryd.func14, by decide, rfl⟩
theorem co15 : CallOk Tryd.prog 15 := ⟨_, Tryd.func15, by decide, rfl⟩
theorem co18 : CallOk Tryd.prog 18 := ⟨_, Tryd.func18, by decide, rfl⟩
theorem co19 : CallOk Tryd.prog 19 := ⟨_, Tryd.func19, by decide, rfl⟩
theorem co31 : CallOk Tryd.prog 31 := ⟨_, Tryd.func31, by decide, rfl⟩
theorem co32 : CallOk Tryd.prog 32 := ⟨_, Tryd.func32, by decide, rfl⟩
theorem co33 : CallOk Tryd.prog 33 := ⟨_, Tryd.func33, by decide, rfl⟩
theorem co34 : CallOk Tryd.prog 34 := ⟨_, Tryd.func34, by decide, rfl⟩
theorem co35 : CallOk Tryd.prog 35 := ⟨_, Tryd.func35, by decide, rfl⟩
theorem co36 : CallOk Tryd.prog 36 := ⟨_, Tryd.func36, by decide, rfl⟩
theorem co38 : CallOk Tryd.prog 38 := ⟨_, Tryd.func38, by decide, rfl⟩
theorem co39 : CallOk Tryd.prog 39 := ⟨_, Tryd.func39, by decide, rfl⟩
theorem co40 : CallOk Tryd.prog 40 := ⟨_, Tryd.func40, by decide, rfl⟩
theorem co41 : CallOk Tryd.prog 41 := ⟨_, Tryd.func41, by decide, rfl⟩
theorem co42 : CallOk Tryd.prog 42 := ⟨_, Tryd.func42, by decide, rfl⟩
theorem co51 : CallOk Tryd.prog 51 := ⟨_, Tryd.func51, by decide, rfl⟩
theorem co52 : CallOk Tryd.prog 52 := ⟨_, Tryd.func52, by decide, rfl⟩
theorem co57 : CallOk Tryd.prog 57 := ⟨_, Tryd.func57, by decide, rfl⟩
theorem co58 : CallOk Tryd.prog 58 := ⟨_, Tryd.func58, by decide, rfl⟩
theorem co59 : CallOk Tryd.prog 59 := ⟨_, Tryd.func59, by decide, rfl⟩
theorem co60 : CallOk Tryd.prog 60 := ⟨_, Tryd.func60, by decide, rfl⟩
theorem co61 : CallOk Tryd.prog 61 := ⟨_, Tryd.func61, by decide, rfl⟩
theorem co68 : CallOk Tryd.prog 68 := ⟨_, Tryd.func68, by decide, rfl⟩
theorem co69 : CallOk Tryd.prog 69 := ⟨_, Tryd.func69, by decide, rfl⟩
theorem co73 : CallOk Tryd.prog 73 := ⟨_, Tryd.func73, by decide, rfl⟩
theorem co74 : CallOk Tryd.prog 74 := ⟨_, Tryd.func74, by decide, rfl⟩
theorem co75 : CallOk Tryd.prog 75 := ⟨_, Tryd.func75, by decide, rfl⟩
theorem co76 : CallOk Tryd.prog 76 := ⟨_, Tryd.func76, by decide, rfl⟩
theorem co77 : CallOk Tryd.prog 77 := ⟨_, Tryd.func77, by decide, rfl⟩
theorem co78 : CallOk Tryd.prog 78 := ⟨_, Tryd.func78, by decide, rfl⟩
theorem co85 : CallOk Tryd.prog 85 := ⟨_, Tryd.func85, by decide, rfl⟩
theorem fn_3 : Tryd.prog.funcs[3]? = some Tryd.f3 := Tryd.func3
theorem rs_3 : Tryd.f3.results = ⟨[.tmp 6]⟩ := rfl
theorem nt_3 : Tryd.f3.ntmps = 62 := rfl
theorem fn_8 : Tryd.prog.funcs[8]? = some Tryd.f8 := Tryd.func8
theorem rs_8 : Tryd.f8.results = ⟨[.tmp 0]⟩ := rfl
theorem nt_8 : Tryd.f8.ntmps = 73 := rfl
theorem fn_9 : Tryd.prog.funcs[9]? = some Tryd.f9 := Tryd.func9
theorem rs_9 : Tryd.f9.results = ⟨[.tmp 4, .tmp 5]⟩ := rfl
theorem nt_9 : Tryd.f9.ntmps = 78 := rfl
theorem fn_10 : Tryd.prog.funcs[10]? = some Tryd.f10 := Tryd.func10
theorem rs_10 : Tryd.f10.results = ⟨[.tmp 2]⟩ := rfl
theorem nt_10 : Tryd.f10.ntmps = 19 := rfl
theorem fn_11 : Tryd.prog.funcs[11]? = some Tryd.f11 := Tryd.func11
theorem rs_11 : Tryd.f11.results = ⟨[.tmp 4, .tmp 5]⟩ := rfl
theorem nt_11 : Tryd.f11.ntmps = 94 := rfl
theorem fn_13 : Tryd.prog.funcs[13]? = some Tryd.f13 := Tryd.func13
theorem rs_13 : Tryd.f13.results = ⟨[.tmp 2]⟩ := rfl
theorem nt_13 : Tryd.f13.ntmps = 8 := rfl
theorem fn_14 : Tryd.prog.funcs[14]? = some Tryd.f14 := Tryd.func14
theorem rs_14 : Tryd.f14.results = ⟨[.tmp 8]⟩ := rfl
theorem nt_14 : Tryd.f14.ntmps = 25 := rfl
theorem fn_15 : Tryd.prog.funcs[15]? = some Tryd.f15 := Tryd.func15
theorem rs_15 : Tryd.f15.results = ⟨[.tmp 2]⟩ := rfl
theorem nt_15 : Tryd.f15.ntmps = 8 := rfl
theorem fn_18 : Tryd.prog.funcs[18]? = some Tryd.f18 := Tryd.func18
theorem rs_18 : Tryd.f18.results = ⟨[.tmp 2, .tmp 3]⟩ := rfl
theorem nt_18 : Tryd.f18.ntmps = 69 := rfl
theorem fn_19 : Tryd.prog.funcs[19]? = some Tryd.f19 := Tryd.func19
theorem rs_19 : Tryd.f19.results = ⟨[.tmp 2, .tmp 3]⟩ := rfl
theorem nt_19 : Tryd.f19.ntmps = 78 := rfl
theorem fn_31 : Tryd.prog.funcs[31]? = some Tryd.f31 := Tryd.func31
theorem rs_31 : Tryd.f31.results = ⟨[.tmp 2, .tmp 3, .tmp 4]⟩ := rfl
theorem nt_31 : Tryd.f31.ntmps = 52 := rfl
theorem fn_32 : Tryd.prog.funcs[32]? = some Tryd.f32 := Tryd.func32
theorem rs_32 : Tryd.f32.results = ⟨[.tmp 2]⟩ := rfl
theorem nt_32 : Tryd.f32.ntmps = 36 := rfl
theorem fn_33 : Tryd.prog.funcs[33]? = some Tryd.f33 := Tryd.func33
theorem rs_33 : Tryd.f33.results = ⟨[.tmp 6]⟩ := rfl
theorem nt_33 : Tryd.f33.ntmps = 23 := rfl
theorem fn_34 : Tryd.prog.funcs[34]? = some Tryd.f34 := Tryd.func34
theorem rs_34 : Tryd.f34.results = ⟨[.tmp 0]⟩ := rfl
theorem nt_34 : Tryd.f34.ntmps = 11 := rfl
theorem fn_35 : Tryd.prog.funcs[35]? = some Tryd.f35 := Tryd.func35
theorem rs_35 : Tryd.f35.results = ⟨[.tmp 2]⟩ := rfl
theorem nt_35 : Tryd.f35.ntmps = 36 := rfl
theorem fn_36 : Tryd.prog.funcs[36]? = some Tryd.f36 := Tryd.func36
theorem rs_36 : Tryd.f36.results = ⟨[.tmp 4]⟩ := rfl
theorem nt_36 : Tryd.f36.ntmps = 38 := rfl
theorem fn_38 : Tryd.prog.funcs[38]? = some Tryd.f38 := Tryd.func38
theorem rs_38 : Tryd.f38.results = ⟨[.tmp 4]⟩ := rfl
theorem nt_38 : Tryd.f38.ntmps = 35 := rfl
theorem fn_39 : Tryd.prog.funcs[39]? = some Tryd.f39 := Tryd.func39
theorem rs_39 : Tryd.f39.results = ⟨[.tmp 2]⟩ := rfl
theorem nt_39 : Tryd.f39.ntmps = 26 := rfl
theorem fn_40 : Tryd.prog.funcs[40]? = some Tryd.f40 := Tryd.func40
theorem rs_40 : Tryd.f40.results = ⟨[.cell 4 84]⟩ := rfl
theorem nt_40 : Tryd.f40.ntmps = 42 := rfl
theorem fn_41 : Tryd.prog.funcs[41]? = some Tryd.f41 := Tryd.func41
theorem rs_41 : Tryd.f41.results = ⟨[.cell 2 84]⟩ := rfl
theorem nt_41 : Tryd.f41.ntmps = 25 := rfl
theorem fn_42 : Tryd.prog.funcs[42]? = some Tryd.f42 := Tryd.func42
theorem rs_42 : Tryd.f42.results = ⟨[.cell 2 84]⟩ := rfl
theorem nt_42 : Tryd.f42.ntmps = 26 := rfl
theorem fn_51 : Tryd.prog.funcs[51]? = some Tryd.f51 := Tryd.func51
theorem rs_51 : Tryd.f51.results = ⟨[.tmp 2]⟩ := rfl
theorem nt_51 : Tryd.f51.ntmps = 34 := rfl
theorem fn_52 : Tryd.prog.funcs[52]? = some Tryd.f52 := Tryd.func52
theorem rs_52 : Tryd.f52.results = ⟨[.tmp 2, .cell 3 70, .tmp 4]⟩ := rfl
theorem nt_52 : Tryd.f52.ntmps = 80 := rfl
theorem fn_57 : Tryd.prog.funcs[57]? = some Tryd.f57 := Tryd.func57
theorem rs_57 : Tryd.f57.results = ⟨[.cell 4 84, .cell 5 84]⟩ := rfl
theorem nt_57 : Tryd.f57.ntmps = 79 := rfl
theorem fn_58 : Tryd.prog.funcs[58]? = some Tryd.f58 := Tryd.func58
theorem rs_58 : Tryd.f58.results = ⟨[.tmp 4]⟩ := rfl
theorem nt_58 : Tryd.f58.ntmps = 9 := rfl
theorem fn_59 : Tryd.prog.funcs[59]? = some Tryd.f59 := Tryd.func59
theorem rs_59 : Tryd.f59.results = ⟨[.cell 4 84]⟩ := rfl
theorem nt_59 : Tryd.f59.ntmps = 39 := rfl
theorem fn_60 : Tryd.prog.funcs[60]? = some Tryd.f60 := Tryd.func60
theorem rs_60 : Tryd.f60.results = ⟨[.tmp 2]⟩ := rfl
theorem nt_60 : Tryd.f60.ntmps = 9 := rfl
theorem fn_61 : Tryd.prog.funcs[61]? = some Tryd.f61 := Tryd.func61
theorem rs_61 : Tryd.f61.results = ⟨[.cell 4 84]⟩ := rfl
theorem nt_61 : Tryd.f61.ntmps = 76 := rfl
theorem fn_68 : Tryd.prog.funcs[68]? = some Tryd.f68 := Tryd.func68
theorem rs_68 : Tryd.f68.results = ⟨[.tmp 4]⟩ := rfl
theorem nt_68 : Tryd.f68.ntmps = 35 := rfl
theorem fn_69 : Tryd.prog.funcs[69]? = some Tryd.f69 := Tryd.func69
theorem rs_69 : Tryd.f69.results = ⟨[.tmp 4]⟩ := rfl
theorem nt_69 : Tryd.f69.ntmps = 22 := rfl
theorem fn_73 : Tryd.prog.funcs[73]? = some Tryd.f73 := Tryd.func73
theorem rs_73 : Tryd.f73.results = ⟨[.tmp 2]⟩ := rfl
theorem nt_73 : Tryd.f73.ntmps = 21 := rfl
theorem fn_74 : Tryd.prog.funcs[74]? = some Tryd.f74 := Tryd.func74
theorem rs_74 : Tryd.f74.results = ⟨[.tmp 4]⟩ := rfl
theorem nt_74 : Tryd.f74.ntmps = 41 := rfl
theorem fn_75 : Tryd.prog.funcs[75]? = some Tryd.f75 := Tryd.func75
theorem rs_75 : Tryd.f75.results = ⟨[.tmp 4]⟩ := rfl
theorem nt_75 : Tryd.f75.ntmps = 41 := rfl
theorem fn_76 : Tryd.prog.funcs[76]? = some Tryd.f76 := Tryd.func76
theorem rs_76 : Tryd.f76.results = ⟨[.cell 4 84]⟩ := rfl
theorem nt_76 : Tryd.f76.ntmps = 13 := rfl
theorem fn_77 : Tryd.prog.funcs[77]? = some Tryd.f77 := Tryd.func77
theorem rs_77 : Tryd.f77.results = ⟨[.cell 4 84]⟩ := rfl
theorem nt_77 : Tryd.f77.ntmps = 9 := rfl
theorem fn_78 : Tryd.prog.funcs[78]? = some Tryd.f78 := Tryd.func78
theorem rs_78 : Tryd.f78.results = ⟨[.tmp 4]⟩ := rfl
theorem nt_78 : Tryd.f78.ntmps = 52 := rfl
theorem fn_85 : Tryd.prog.funcs[85]? = some Tryd.f85 := Tryd.func85
theorem rs_85 : Tryd.f85.results = ⟨[.cell 2 84]⟩ := rfl
theorem nt_85 : Tryd.f85.ntmps = 9 := rfl
theorem mixed : Tryd.prog.follows .mixedOrders = true := by kernel_rfl
def GH (H : Hp) : Prop := ∃ o, H.at_ 0 = some o ∧ ∀ w : World, w.heap[0]? = some o → GG w
theorem GH.mono {H H' : Hp} (h : GH H) (hle : H.le H') : GH H' := let ⟨o, h1, h2⟩ := h; ⟨o, hle.at_ 0 o h1, h2⟩
theorem gh_of {W : World} (h : GG W) : GH (snap W) := by
 unfold GG at h
 have h1 := h
 unfold World.cell? at h1
 split at h1
 · rename_i c1 T fz hh
   refine ⟨_, hh, fun w hw => ?_⟩
   show w.cell? _ = _
   unfold World.cell?
   rw [hw]; exact h1
 · cases h1
def errN (e : Option Int) : Int := e.getD 0
theorem num12.calls {H : Hp} {L : Items} {e : Option Int} (hG : GH H) (he : some (errN e) = some (errN e)) : Ct Tryd.prog 12 ⟨[errV 73 e]⟩ H L (fun v H' L' => L = L' ∧ H = H' ∧ v = .int .i64 (errN e)) := Ct.of_calls fun w hw => by
 obtain ⟨o, h1, h2⟩ := hG
 have hg := h2 w (hw.good 0 o h1)
 have this : Calls Tryd.prog 12 #[errV 73 e] w fun ev w' => ev = .returned (.int .i64 (e.getD 0)) ∧ Below w.heap.size w w' := by
  cases e with
  | none => exact num12_any none w hg
  | some c => exact num12_any (some c) w hg
 refine this.mono ?_
 rintro ev w' ⟨rfl, hb⟩
 exact ⟨_, _, _, rfl, hw.below hb, rfl, rfl, rfl⟩
theorem num23.calls {H : Hp} {L : Items} {e : Option Int} (hG : GH H) (he : some (errN e) = some (errN e)) : Ct Tryd.prog 23 ⟨[errV 73 e]⟩ H L (fun v H' L' => L = L' ∧ H = H' ∧ v = .int .i64 (errN e)) := Ct.of_calls fun w hw => by
 obtain ⟨o, h1, h2⟩ := hG
 have hg := h2 w (hw.good 0 o h1)
 have this : Calls Tryd.prog 23 #[errV 73 e] w fun ev w' => ev = .returned (.int .i64 (e.getD 0)) ∧ Below w.heap.size w w' := by
  cases e with
  | none => exact num23_any none w hg
  | some c => exact num23_any (some c) w hg
 refine this.mono ?_
 rintro ev w' ⟨rfl, hb⟩
 exact ⟨_, _, _, rfl, hw.below hb, rfl, rfl, rfl⟩
theorem num28.calls {H : Hp} {L : Items} {e : Option Int} (hG : GH H) (he : some (errN e) = some (errN e)) : Ct Tryd.prog 28 ⟨[errV 73 e]⟩ H L (fun v H' L' => L = L' ∧ H = H' ∧ v = .int .i64 (errN e)) := Ct.of_calls fun w hw => by
 obtain ⟨o, h1, h2⟩ := hG
 have hg := h2 w (hw.good 0 o h1)
 have this : Calls Tryd.prog 28 #[errV 73 e] w fun ev w' => ev = .returned (.int .i64 (e.getD 0)) ∧ Below w.heap.size w w' := by
  cases e with
  | none => exact num28_any none w hg
  | some c => exact num28_any (some c) w hg
 refine this.mono ?_
 rintro ev w' ⟨rfl, hb⟩
 exact ⟨_, _, _, rfl, hw.below hb, rfl, rfl, rfl⟩

end Go.Proofs.YtlokgnjlnefbbaaDoor.GRW
