/- printed by gen.py -/
import Derived.Test.YtlokgnjlnefbbaaGRBk13
namespace Go.Proofs.Ytlokgnjlnefbbaa.GRB
open Go Go.RowKit Go.Proofs.YtlokgnjlnefbbaaK Go.Proofs.Ytlokgnjlnefbbaa
set_option linter.unusedVariables false
set_option linter.unusedSimpArgs false
def str_0 : ByteArray := ⟨#[62, 0, 23, 151, 12]⟩
structure cat062_Report where
 f_ID : Int
 f_Time : Int
 f_X : Int
 f_Y : Int
 f_VX : Int
 f_VY : Int
 f_State : Int
instance : Inhabited cat062_Report := ⟨⟨0, 0, 0, 0, 0, 0, 0⟩⟩
def k_cat062_Report : Kd cat062_Report := Kd.map (fun s => (s.f_ID, (s.f_Time, (s.f_X, (s.f_Y, (s.f_VX, (s.f_VY, s.f_State))))))) (Kd.pair (Kd.int .u16) (Kd.pair kI64 (Kd.pair (Kd.int .i32) (Kd.pair (Kd.int .i32) (Kd.pair (Kd.int .i16) (Kd.pair (Kd.int .i16) kU8))))))
theorem k_cat062_Report_out {H : Hp} {cs : List Value} {x : cat062_Report} (h : k_cat062_Report.rep H cs x) : cs = [.int .u16 x.f_ID, .int .i64 x.f_Time, .int .i32 x.f_X, .int .i32 x.f_Y, .int .i16 x.f_VX, .int .i16 x.f_VY, .int .u8 x.f_State] := by
 obtain ⟨_, _, rfl, rfl, ⟨_, _, rfl, rfl, ⟨_, _, rfl, rfl, ⟨_, _, rfl, rfl, ⟨_, _, rfl, rfl, ⟨_, _, rfl, rfl, rfl⟩⟩⟩⟩⟩⟩ := (show ((Kd.pair (Kd.int .u16) (Kd.pair kI64 (Kd.pair (Kd.int .i32) (Kd.pair (Kd.int .i32) (Kd.pair (Kd.int .i16) (Kd.pair (Kd.int .i16) kU8))))))).rep H cs ((x.f_ID, (x.f_Time, (x.f_X, (x.f_Y, (x.f_VX, (x.f_VY, x.f_State))))))) from h)
 rfl
theorem k_cat062_Report_in {H : Hp} {x : cat062_Report} : k_cat062_Report.rep H [.int .u16 x.f_ID, .int .i64 x.f_Time, .int .i32 x.f_X, .int .i32 x.f_Y, .int .i16 x.f_VX, .int .i16 x.f_VY, .int .u8 x.f_State] x :=
 (show ((Kd.pair (Kd.int .u16) (Kd.pair kI64 (Kd.pair (Kd.int .i32) (Kd.pair (Kd.int .i32) (Kd.pair (Kd.int .i16) (Kd.pair (Kd.int .i16) kU8))))))).rep H _ ((x.f_ID, (x.f_Time, (x.f_X, (x.f_Y, (x.f_VX, (x.f_VY, x.f_State))))))) from ⟨[.int .u16 x.f_ID], [.int .i64 x.f_Time, .int .i32 x.f_X, .int .i32 x.f_Y, .int .i16 x.f_VX, .int .i16 x.f_VY, .int .u8 x.f_State], rfl, rfl, ⟨[.int .i64 x.f_Time], [.int .i32 x.f_X, .int .i32 x.f_Y, .int .i16 x.f_VX, .int .i16 x.f_VY, .int .u8 x.f_State], rfl, rfl, ⟨[.int .i32 x.f_X], [.int .i32 x.f_Y, .int .i16 x.f_VX, .int .i16 x.f_VY, .int .u8 x.f_State], rfl, rfl, ⟨[.int .i32 x.f_Y], [.int .i16 x.f_VX, .int .i16 x.f_VY, .int .u8 x.f_State], rfl, rfl, ⟨[.int .i16 x.f_VX], [.int .i16 x.f_VY, .int .u8 x.f_State], rfl, rfl, ⟨[.int .i16 x.f_VY], [.int .u8 x.f_State], rfl, rfl, rfl⟩⟩⟩⟩⟩⟩)
structure cat062_taker where
 f_b : List Int
instance : Inhabited cat062_taker := ⟨⟨[]⟩⟩
def k_cat062_taker : Kd cat062_taker := Kd.map (fun s => s.f_b) (Kd.slice kU8)
theorem k_cat062_taker_out {H : Hp} {cs : List Value} {x : cat062_taker} (h : k_cat062_taker.rep H cs x) : ∃ v0, cs = [v0] ∧ Ro kU8 H v0 x.f_b := by
 obtain ⟨v0, rfl, h0⟩ := (show ((Kd.slice kU8)).rep H cs (x.f_b) from h)
 exact ⟨v0, rfl, h0⟩
theorem k_cat062_taker_in {H : Hp} {v0 : Value} {x : cat062_taker} (h0 : Ro kU8 H v0 x.f_b) : k_cat062_taker.rep H [v0] x :=
 (show ((Kd.slice kU8)).rep H _ (x.f_b) from ⟨v0, rfl, h0⟩)
structure radomeref29_Report where
 f_ID : Int
 f_Time : Int
 f_X : Int
 f_Y : Int
 f_VX : Int
 f_VY : Int
 f_State : Int
instance : Inhabited radomeref29_Report := ⟨⟨0, 0, 0, 0, 0, 0, 0⟩⟩
def k_radomeref29_Report : Kd radomeref29_Report := Kd.map (fun s => (s.f_ID, (s.f_Time, (s.f_X, (s.f_Y, (s.f_VX, (s.f_VY, s.f_State))))))) (Kd.pair (Kd.int .u16) (Kd.pair kI64 (Kd.pair (Kd.int .i32) (Kd.pair (Kd.int .i32) (Kd.pair (Kd.int .i16) (Kd.pair (Kd.int .i16) kU8))))))
theorem k_radomeref29_Report_out {H : Hp} {cs : List Value} {x : radomeref29_Report} (h : k_radomeref29_Report.rep H cs x) : cs = [.int .u16 x.f_ID, .int .i64 x.f_Time, .int .i32 x.f_X, .int .i32 x.f_Y, .int .i16 x.f_VX, .int .i16 x.f_VY, .int .u8 x.f_State] := by
 obtain ⟨_, _, rfl, rfl, ⟨_, _, rfl, rfl, ⟨_, _, rfl, rfl, ⟨_, _, rfl, rfl, ⟨_, _, rfl, rfl, ⟨_, _, rfl, rfl, rfl⟩⟩⟩⟩⟩⟩ := (show ((Kd.pair (Kd.int .u16) (Kd.pair kI64 (Kd.pair (Kd.int .i32) (Kd.pair (Kd.int .i32) (Kd.pair (Kd.int .i16) (Kd.pair (Kd.int .i16) kU8))))))).rep H cs ((x.f_ID, (x.f_Time, (x.f_X, (x.f_Y, (x.f_VX, (x.f_VY, x.f_State))))))) from h)
 rfl
theorem k_radomeref29_Report_in {H : Hp} {x : radomeref29_Report} : k_radomeref29_Report.rep H [.int .u16 x.f_ID, .int .i64 x.f_Time, .int .i32 x.f_X, .int .i32 x.f_Y, .int .i16 x.f_VX, .int .i16 x.f_VY, .int .u8 x.f_State] x :=
 (show ((Kd.pair (Kd.int .u16) (Kd.pair kI64 (Kd.pair (Kd.int .i32) (Kd.pair (Kd.int .i32) (Kd.pair (Kd.int .i16) (Kd.pair (Kd.int .i16) kU8))))))).rep H _ ((x.f_ID, (x.f_Time, (x.f_X, (x.f_Y, (x.f_VX, (x.f_VY, x.f_State))))))) from ⟨[.int .u16 x.f_ID], [.int .i64 x.f_Time, .int .i32 x.f_X, .int .i32 x.f_Y, .int .i16 x.f_VX, .int .i16 x.f_VY, .int .u8 x.f_State], rfl, rfl, ⟨[.int .i64 x.f_Time], [.int .i32 x.f_X, .int .i32 x.f_Y, .int .i16 x.f_VX, .int .i16 x.f_VY, .int .u8 x.f_State], rfl, rfl, ⟨[.int .i32 x.f_X], [.int .i32 x.f_Y, .int .i16 x.f_VX, .int .i16 x.f_VY, .int .u8 x.f_State], rfl, rfl, ⟨[.int .i32 x.f_Y], [.int .i16 x.f_VX, .int .i16 x.f_VY, .int .u8 x.f_State], rfl, rfl, ⟨[.int .i16 x.f_VX], [.int .i16 x.f_VY, .int .u8 x.f_State], rfl, rfl, ⟨[.int .i16 x.f_VY], [.int .u8 x.f_State], rfl, rfl, rfl⟩⟩⟩⟩⟩⟩)
theorem ty2 : TyA Try.prog 2 false 1 := ⟨⟨_, Try.underlying2, rfl⟩, by kernel_rfl⟩
theorem sz2 : (Try.prog.info? 2).map (·.size) = some 1 := by kernel_rfl
theorem zr2 : (Try.prog.info? 2).bind (·.zero) = some (.int .i64 0) := by kernel_rfl
theorem ti2 : TI Try.prog 2 1 8 (.int .i64 0) := ⟨by kernel_rfl⟩
theorem zp2 (H : Hp) : (kI64).rep H (Value.cells (.int .i64 0)).toList 0 := rfl
theorem ty3 : TyA Try.prog 3 false 1 := ⟨⟨_, Try.underlying3, rfl⟩, by kernel_rfl⟩
theorem sz3 : (Try.prog.info? 3).map (·.size) = some 1 := by kernel_rfl
theorem zr3 : (Try.prog.info? 3).bind (·.zero) = some (.int .i64 0) := by kernel_rfl
theorem ti3 : TI Try.prog 3 1 8 (.int .i64 0) := ⟨by kernel_rfl⟩
theorem zp3 (H : Hp) : (kI64).rep H (Value.cells (.int .i64 0)).toList 0 := rfl
theorem ty5 : TyA Try.prog 5 false 1 := ⟨⟨_, Try.underlying5, rfl⟩, by kernel_rfl⟩
theorem sz5 : (Try.prog.info? 5).map (·.size) = some 1 := by kernel_rfl
theorem zr5 : (Try.prog.info? 5).bind (·.zero) = some (.int .u8 0) := by kernel_rfl
theorem ti5 : TI Try.prog 5 1 1 (.int .u8 0) := ⟨by kernel_rfl⟩
theorem zp5 (H : Hp) : (kU8).rep H (Value.cells (.int .u8 0)).toList 0 := rfl
theorem ty21 : TyA Try.prog 21 false 1 := ⟨⟨_, Try.underlying21, rfl⟩, by kernel_rfl⟩
theorem sz21 : (Try.prog.info? 21).map (·.size) = some 1 := by kernel_rfl
theorem zr21 : (Try.prog.info? 21).bind (·.zero) = some (.int .i32 0) := by kernel_rfl
theorem ti21 : TI Try.prog 21 1 4 (.int .i32 0) := ⟨by kernel_rfl⟩
theorem zp21 (H : Hp) : ((Kd.int .i32)).rep H (Value.cells (.int .i32 0)).toList 0 := rfl
theorem ty22 : TyA Try.prog 22 false 1 := ⟨⟨_, Try.underlying22, rfl⟩, by kernel_rfl⟩
theorem sz22 : (Try.prog.info? 22).map (·.size) = some 1 := by kernel_rfl
theorem zr22 : (Try.prog.info? 22).bind (·.zero) = some (.int .u16 0) := by kernel_rfl
theorem ti22 : TI Try.prog 22 1 2 (.int .u16 0) := ⟨by kernel_rfl⟩
theorem zp22 (H : Hp) : ((Kd.int .u16)).rep H (Value.cells (.int .u16 0)).toList 0 := rfl
theorem ty24 : TyA Try.prog 24 false 1 := ⟨⟨_, Try.underlying24, rfl⟩, by kernel_rfl⟩
theorem sz24 : (Try.prog.info? 24).map (·.size) = some 1 := by kernel_rfl
theorem zr24 : (Try.prog.info? 24).bind (·.zero) = some (.slice none 0 0) := by kernel_rfl
theorem ti24 : TI Try.prog 24 1 24 (.slice none 0 0) := ⟨by kernel_rfl⟩
theorem zp24 (H : Hp) : ((Kd.slice kU8)).rep H (Value.cells (.slice none 0 0)).toList [] := ⟨_, rfl, ro_nil _ _⟩
theorem ty36 : TyA Try.prog 36 false 1 := ⟨⟨_, Try.underlying36, rfl⟩, by kernel_rfl⟩
theorem sz36 : (Try.prog.info? 36).map (·.size) = some 1 := by kernel_rfl
theorem zr36 : (Try.prog.info? 36).bind (·.zero) = some (.int .i16 0) := by kernel_rfl
theorem ti36 : TI Try.prog 36 1 2 (.int .i16 0) := ⟨by kernel_rfl⟩
theorem zp36 (H : Hp) : ((Kd.int .i16)).rep H (Value.cells (.int .i16 0)).toList 0 := rfl
theorem ty38 : TyA Try.prog 38 true 7 := ⟨⟨_, Try.underlying38, rfl⟩, by kernel_rfl⟩
theorem sz38 : (Try.prog.info? 38).map (·.size) = some 7 := by kernel_rfl
theorem zr38 : (Try.prog.info? 38).bind (·.zero) = some (.agg #[.int .u16 0, .int .i64 0, .int .i32 0, .int .i32 0, .int .i16 0, .int .i16 0, .int .u8 0]) := by kernel_rfl
theorem ti38 : TI Try.prog 38 7 32 (.agg #[.int .u16 0, .int .i64 0, .int .i32 0, .int .i32 0, .int .i16 0, .int .i16 0, .int .u8 0]) := ⟨by kernel_rfl⟩
theorem zp38 (H : Hp) : (k_cat062_Report).rep H (Value.cells (.agg #[.int .u16 0, .int .i64 0, .int .i32 0, .int .i32 0, .int .i16 0, .int .i16 0, .int .u8 0])).toList (⟨0, 0, 0, 0, 0, 0, 0⟩ : cat062_Report) := k_cat062_Report_in (x := ⟨0, 0, 0, 0, 0, 0, 0⟩)
theorem ty45 : TyA Try.prog 45 true 7 := ⟨⟨_, Try.underlying45, rfl⟩, by kernel_rfl⟩
theorem sz45 : (Try.prog.info? 45).map (·.size) = some 7 := by kernel_rfl
theorem zr45 : (Try.prog.info? 45).bind (·.zero) = some (.agg #[.int .u16 0, .int .i64 0, .int .i32 0, .int .i32 0, .int .i16 0, .int .i16 0, .int .u8 0]) := by kernel_rfl
theorem ti45 : TI Try.prog 45 7 32 (.agg #[.int .u16 0, .int .i64 0, .int .i32 0, .int .i32 0, .int .i16 0, .int .i16 0, .int .u8 0]) := ⟨by kernel_rfl⟩
theorem zp45 (H : Hp) : (k_radomeref29_Report).rep H (Value.cells (.agg #[.int .u16 0, .int .i64 0, .int .i32 0, .int .i32 0, .int .i16 0, .int .i16 0, .int .u8 0])).toList (⟨0, 0, 0, 0, 0, 0, 0⟩ : radomeref29_Report) := k_radomeref29_Report_in (x := ⟨0, 0, 0, 0, 0, 0, 0⟩)
theorem ty54 : TyA Try.prog 54 true 1 := ⟨⟨_, Try.underlying54, rfl⟩, by kernel_rfl⟩
theorem sz54 : (Try.prog.info? 54).map (·.size) = some 1 := by kernel_rfl
theorem zr54 : (Try.prog.info? 54).bind (·.zero) = some (.agg #[.slice none 0 0]) := by kernel_rfl
theorem ti54 : TI Try.prog 54 1 24 (.agg #[.slice none 0 0]) := ⟨by kernel_rfl⟩
theorem zp54 (H : Hp) : (k_cat062_taker).rep H (Value.cells (.agg #[.slice none 0 0])).toList (⟨[]⟩ : cat062_taker) := k_cat062_taker_in (x := ⟨[]⟩) (ro_nil _ _)
theorem co4 : CallOk Try.prog 4 := ⟨_, Try.func4, by decide, rfl⟩
theorem co5 : CallOk Try.prog 5 := ⟨_, Try.func5, by decide, rfl⟩
theorem co6 : CallOk Try.prog 6 := ⟨_, Try.func6, by decide, rfl⟩
theorem co7 : CallOk Try.prog 7 := ⟨_, Try.func7, by decide, rfl⟩
theorem co8 : CallOk Try.prog 8 := ⟨_, Try.func8, by decide, rfl⟩
theorem co9 : CallOk Try.prog 9 := ⟨_, Try.func9, by decide, rfl⟩
theorem co10 : CallOk Try.prog 10 := ⟨_, Try.func10, by decide, rfl⟩
theorem co11 : CallOk Try.prog 11 := ⟨_, Try.func11, by decide, rfl⟩
theorem co12 : CallOk Try.prog 12 := ⟨_, Try.func12, by decide, rfl⟩
theorem co13 : CallOk Try.prog 13 := ⟨_, Try.func13, by decide, rfl⟩
theorem co14 : CallOk Try.prog 14 := ⟨_, Try.func14, by decide, rfl⟩
theorem co15 : CallOk Try.prog 15 := ⟨_, Try.func15, by decide, rfl⟩
theorem co16 : CallOk Try.prog 16 := ⟨_, Try.func16, by decide, rfl⟩
theorem co17 : CallOk Try.prog 17 := ⟨_, Try.func17, by decide, rfl⟩
theorem co18 : CallOk Try.prog 18 := ⟨_, Try.func18, by decide, rfl⟩
theorem co19 : CallOk Try.prog 19 := ⟨_, Try.func19, by decide, rfl⟩
theorem fn_3 : Try.prog.funcs[3]? = some Try.f3 := Try.func3
theorem rs_3 : Try.f3.results = ⟨[.tmp 6]⟩ := rfl
theorem nt_3 : Try.f3.ntmps = 123 := rfl
theorem fn_4 : Try.prog.funcs[4]? = some Try.f4 := Try.func4
theorem rs_4 : Try.f4.results = ⟨[.tmp 0]⟩ := rfl
theorem nt_4 : Try.f4.ntmps = 73 := rfl
theorem fn_5 : Try.prog.funcs[5]? = some Try.f5 := Try.func5
theorem rs_5 : Try.f5.results = ⟨[.tmp 4, .tmp 5]⟩ := rfl
theorem nt_5 : Try.f5.ntmps = 78 := rfl
theorem fn_6 : Try.prog.funcs[6]? = some Try.f6 := Try.func6
theorem rs_6 : Try.f6.results = ⟨[.tmp 2]⟩ := rfl
theorem nt_6 : Try.f6.ntmps = 19 := rfl
theorem fn_7 : Try.prog.funcs[7]? = some Try.f7 := Try.func7
theorem rs_7 : Try.f7.results = ⟨[.tmp 2, .tmp 3, .tmp 4]⟩ := rfl
theorem nt_7 : Try.f7.ntmps = 52 := rfl
theorem fn_8 : Try.prog.funcs[8]? = some Try.f8 := Try.func8
theorem rs_8 : Try.f8.results = ⟨[.tmp 4]⟩ := rfl
theorem nt_8 : Try.f8.ntmps = 26 := rfl
theorem fn_9 : Try.prog.funcs[9]? = some Try.f9 := Try.func9
theorem rs_9 : Try.f9.results = ⟨[.tmp 2]⟩ := rfl
theorem nt_9 : Try.f9.ntmps = 8 := rfl
theorem fn_10 : Try.prog.funcs[10]? = some Try.f10 := Try.func10
theorem rs_10 : Try.f10.results = ⟨[.tmp 2]⟩ := rfl
theorem nt_10 : Try.f10.ntmps = 8 := rfl
theorem fn_11 : Try.prog.funcs[11]? = some Try.f11 := Try.func11
theorem rs_11 : Try.f11.results = ⟨[.tmp 2]⟩ := rfl
theorem nt_11 : Try.f11.ntmps = 36 := rfl
theorem fn_12 : Try.prog.funcs[12]? = some Try.f12 := Try.func12
theorem rs_12 : Try.f12.results = ⟨[.tmp 6]⟩ := rfl
theorem nt_12 : Try.f12.ntmps = 23 := rfl
theorem fn_13 : Try.prog.funcs[13]? = some Try.f13 := Try.func13
theorem rs_13 : Try.f13.results = ⟨[.tmp 0]⟩ := rfl
theorem nt_13 : Try.f13.ntmps = 11 := rfl
theorem fn_14 : Try.prog.funcs[14]? = some Try.f14 := Try.func14
theorem rs_14 : Try.f14.results = ⟨[.tmp 2]⟩ := rfl
theorem nt_14 : Try.f14.ntmps = 34 := rfl
theorem fn_15 : Try.prog.funcs[15]? = some Try.f15 := Try.func15
theorem rs_15 : Try.f15.results = ⟨[.tmp 2, .cell 3 38, .tmp 4]⟩ := rfl
theorem nt_15 : Try.f15.ntmps = 80 := rfl
theorem fn_16 : Try.prog.funcs[16]? = some Try.f16 := Try.func16
theorem rs_16 : Try.f16.results = ⟨[.tmp 4]⟩ := rfl
theorem nt_16 : Try.f16.ntmps = 35 := rfl
theorem fn_17 : Try.prog.funcs[17]? = some Try.f17 := Try.func17
theorem rs_17 : Try.f17.results = ⟨[.tmp 2, .tmp 3]⟩ := rfl
theorem nt_17 : Try.f17.ntmps = 69 := rfl
theorem fn_18 : Try.prog.funcs[18]? = some Try.f18 := Try.func18
theorem rs_18 : Try.f18.results = ⟨[.tmp 4]⟩ := rfl
theorem nt_18 : Try.f18.ntmps = 35 := rfl
theorem fn_19 : Try.prog.funcs[19]? = some Try.f19 := Try.func19
theorem rs_19 : Try.f19.results = ⟨[.tmp 4]⟩ := rfl
theorem nt_19 : Try.f19.ntmps = 22 := rfl
theorem mixed : Try.prog.follows .mixedOrders = true := by kernel_rfl


end Go.Proofs.Ytlokgnjlnefbbaa.GRB
