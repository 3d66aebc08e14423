/- A text of this session, written by a program (wip/k/gen.py): Go functions as Lean functions, and proofs that the code comes to them. -/
import Derived.Test.YtoijknggnlbopaaGZSk16
namespace Go.Proofs.Ytoijknggnlbopaa.GZS
open Go Go.RowKit Go.Proofs.YtoijknggnlbopaaK Go.Proofs.Ytoijknggnlbopaa
set_option linter.unusedVariables false
set_option linter.unusedSimpArgs false
def str_0 : ByteArray := ⟨#[]⟩
def str_1 : ByteArray := ⟨#[97]⟩
def str_2 : ByteArray := ⟨#[116]⟩
def str_3 : ByteArray := ⟨#[98]⟩
def str_4 : ByteArray := ⟨#[109]⟩
structure radomeref39_Spot where
 f_X : Int
 f_Y : Int
instance : Inhabited radomeref39_Spot := ⟨⟨0, 0⟩⟩
def k_radomeref39_Spot : Kd radomeref39_Spot := Kd.map (fun s => (s.f_X, s.f_Y)) (Kd.pair (Kd.int .i32) (Kd.int .i32))
theorem k_radomeref39_Spot_out {H : Hp} {cs : List Value} {x : radomeref39_Spot} (h : k_radomeref39_Spot.rep H cs x) : cs = [.int .i32 x.f_X, .int .i32 x.f_Y] := by
 obtain ⟨_, _, rfl, rfl, rfl⟩ := (show ((Kd.pair (Kd.int .i32) (Kd.int .i32))).rep H cs ((x.f_X, x.f_Y)) from h)
 rfl
theorem k_radomeref39_Spot_in {H : Hp} {x : radomeref39_Spot} : k_radomeref39_Spot.rep H [.int .i32 x.f_X, .int .i32 x.f_Y] x :=
 (show ((Kd.pair (Kd.int .i32) (Kd.int .i32))).rep H _ ((x.f_X, x.f_Y)) from ⟨[.int .i32 x.f_X], [.int .i32 x.f_Y], rfl, rfl, rfl⟩)
structure radomeref39_Zone where
 f_Name : ByteArray
 f_Corners : List radomeref39_Spot
instance : Inhabited radomeref39_Zone := ⟨⟨ByteArray.empty, []⟩⟩
def k_radomeref39_Zone : Kd radomeref39_Zone := Kd.map (fun s => (s.f_Name, s.f_Corners)) (Kd.pair Kd.str (Kd.slice k_radomeref39_Spot))
theorem k_radomeref39_Zone_out {H : Hp} {cs : List Value} {x : radomeref39_Zone} (h : k_radomeref39_Zone.rep H cs x) : ∃ v0, cs = [.string x.f_Name, v0] ∧ Ro k_radomeref39_Spot H v0 x.f_Corners := by
 obtain ⟨_, _, rfl, rfl, ⟨v0, rfl, h0⟩⟩ := (show ((Kd.pair Kd.str (Kd.slice k_radomeref39_Spot))).rep H cs ((x.f_Name, x.f_Corners)) from h)
 exact ⟨v0, rfl, h0⟩
theorem k_radomeref39_Zone_in {H : Hp} {v0 : Value} {x : radomeref39_Zone} (h0 : Ro k_radomeref39_Spot H v0 x.f_Corners) : k_radomeref39_Zone.rep H [.string x.f_Name, v0] x :=
 (show ((Kd.pair Kd.str (Kd.slice k_radomeref39_Spot))).rep H _ ((x.f_Name, x.f_Corners)) from ⟨[.string x.f_Name], [v0], rfl, rfl, ⟨v0, rfl, h0⟩⟩)
structure zone_Spot where
 f_X : Int
 f_Y : Int
instance : Inhabited zone_Spot := ⟨⟨0, 0⟩⟩
def k_zone_Spot : Kd zone_Spot := Kd.map (fun s => (s.f_X, s.f_Y)) (Kd.pair (Kd.int .i32) (Kd.int .i32))
theorem k_zone_Spot_out {H : Hp} {cs : List Value} {x : zone_Spot} (h : k_zone_Spot.rep H cs x) : cs = [.int .i32 x.f_X, .int .i32 x.f_Y] := by
 obtain ⟨_, _, rfl, rfl, rfl⟩ := (show ((Kd.pair (Kd.int .i32) (Kd.int .i32))).rep H cs ((x.f_X, x.f_Y)) from h)
 rfl
theorem k_zone_Spot_in {H : Hp} {x : zone_Spot} : k_zone_Spot.rep H [.int .i32 x.f_X, .int .i32 x.f_Y] x :=
 (show ((Kd.pair (Kd.int .i32) (Kd.int .i32))).rep H _ ((x.f_X, x.f_Y)) from ⟨[.int .i32 x.f_X], [.int .i32 x.f_Y], rfl, rfl, rfl⟩)
structure zone_Zone where
 f_Name : ByteArray
 f_Corners : List zone_Spot
instance : Inhabited zone_Zone := ⟨⟨ByteArray.empty, []⟩⟩
def k_zone_Zone : Kd zone_Zone := Kd.map (fun s => (s.f_Name, s.f_Corners)) (Kd.pair Kd.str (Kd.slice k_zone_Spot))
theorem k_zone_Zone_out {H : Hp} {cs : List Value} {x : zone_Zone} (h : k_zone_Zone.rep H cs x) : ∃ v0, cs = [.string x.f_Name, v0] ∧ Ro k_zone_Spot H v0 x.f_Corners := by
 obtain ⟨_, _, rfl, rfl, ⟨v0, rfl, h0⟩⟩ := (show ((Kd.pair Kd.str (Kd.slice k_zone_Spot))).rep H cs ((x.f_Name, x.f_Corners)) from h)
 exact ⟨v0, rfl, h0⟩
theorem k_zone_Zone_in {H : Hp} {v0 : Value} {x : zone_Zone} (h0 : Ro k_zone_Spot H v0 x.f_Corners) : k_zone_Zone.rep H [.string x.f_Name, v0] x :=
 (show ((Kd.pair Kd.str (Kd.slice k_zone_Spot))).rep H _ ((x.f_Name, x.f_Corners)) from ⟨[.string x.f_Name], [v0], rfl, rfl, ⟨v0, rfl, h0⟩⟩)
theorem ty2 : TyA Try.prog 2 false 1 := ⟨⟨_, Try.underlying2, rfl⟩, by kernel_rfl⟩
theorem sz2 : (Try.prog.info? 2).map (·.size) = some 1 := by kernel_rfl
theorem zr2 : (Try.prog.info? 2).bind (·.zero) = some (.int .i64 0) := by kernel_rfl
theorem ti2 : TI Try.prog 2 1 8 (.int .i64 0) := ⟨by kernel_rfl⟩
theorem zp2 (H : Hp) : ((Kd.int .i64)).rep H (Value.cells (.int .i64 0)).toList 0 := rfl
theorem ty3 : TyA Try.prog 3 false 1 := ⟨⟨_, Try.underlying3, rfl⟩, by kernel_rfl⟩
theorem sz3 : (Try.prog.info? 3).map (·.size) = some 1 := by kernel_rfl
theorem zr3 : (Try.prog.info? 3).bind (·.zero) = some (.int .i64 0) := by kernel_rfl
theorem ti3 : TI Try.prog 3 1 8 (.int .i64 0) := ⟨by kernel_rfl⟩
theorem zp3 (H : Hp) : ((Kd.int .i64)).rep H (Value.cells (.int .i64 0)).toList 0 := rfl
theorem ty4 : TyA Try.prog 4 false 1 := ⟨⟨_, Try.underlying4, rfl⟩, by kernel_rfl⟩
theorem sz4 : (Try.prog.info? 4).map (·.size) = some 1 := by kernel_rfl
theorem zr4 : (Try.prog.info? 4).bind (·.zero) = some (.bool false) := by kernel_rfl
theorem ti4 : TI Try.prog 4 1 1 (.bool false) := ⟨by kernel_rfl⟩
theorem zp4 (H : Hp) : (Kd.bool).rep H (Value.cells (.bool false)).toList false := rfl
theorem ty9 : TyA Try.prog 9 false 1 := ⟨⟨_, Try.underlying9, rfl⟩, by kernel_rfl⟩
theorem sz9 : (Try.prog.info? 9).map (·.size) = some 1 := by kernel_rfl
theorem zr9 : (Try.prog.info? 9).bind (·.zero) = some (.string ⟨#[]⟩) := by kernel_rfl
theorem ti9 : TI Try.prog 9 1 16 (.string ⟨#[]⟩) := ⟨by kernel_rfl⟩
theorem zp9 (H : Hp) : (Kd.str).rep H (Value.cells (.string ⟨#[]⟩)).toList ByteArray.empty := rfl
theorem ty21 : TyA Try.prog 21 false 1 := ⟨⟨_, Try.underlying21, rfl⟩, by kernel_rfl⟩
theorem sz21 : (Try.prog.info? 21).map (·.size) = some 1 := by kernel_rfl
theorem zr21 : (Try.prog.info? 21).bind (·.zero) = some (.int .i32 0) := by kernel_rfl
theorem ti21 : TI Try.prog 21 1 4 (.int .i32 0) := ⟨by kernel_rfl⟩
theorem zp21 (H : Hp) : ((Kd.int .i32)).rep H (Value.cells (.int .i32 0)).toList 0 := rfl
theorem ty22 : TyA Try.prog 22 false 1 := ⟨⟨_, Try.underlying22, rfl⟩, by kernel_rfl⟩
theorem sz22 : (Try.prog.info? 22).map (·.size) = some 1 := by kernel_rfl
theorem zr22 : (Try.prog.info? 22).bind (·.zero) = some (.slice none 0 0) := by kernel_rfl
theorem ti22 : TI Try.prog 22 1 24 (.slice none 0 0) := ⟨by kernel_rfl⟩
theorem zp22 (H : Hp) : ((Kd.slice k_radomeref39_Spot)).rep H (Value.cells (.slice none 0 0)).toList [] := ⟨_, rfl, ro_nil _ _⟩
theorem ty24 : TyA Try.prog 24 true 2 := ⟨⟨_, Try.underlying24, rfl⟩, by kernel_rfl⟩
theorem sz24 : (Try.prog.info? 24).map (·.size) = some 2 := by kernel_rfl
theorem zr24 : (Try.prog.info? 24).bind (·.zero) = some (.agg #[.string ⟨#[]⟩, .slice none 0 0]) := by kernel_rfl
theorem ti24 : TI Try.prog 24 2 40 (.agg #[.string ⟨#[]⟩, .slice none 0 0]) := ⟨by kernel_rfl⟩
theorem zp24 (H : Hp) : (k_radomeref39_Zone).rep H (Value.cells (.agg #[.string ⟨#[]⟩, .slice none 0 0])).toList (⟨ByteArray.empty, []⟩ : radomeref39_Zone) := k_radomeref39_Zone_in (x := ⟨ByteArray.empty, []⟩) (ro_nil _ _)
theorem ty26 : TyA Try.prog 26 true 2 := ⟨⟨_, Try.underlying26, rfl⟩, by kernel_rfl⟩
theorem sz26 : (Try.prog.info? 26).map (·.size) = some 2 := by kernel_rfl
theorem zr26 : (Try.prog.info? 26).bind (·.zero) = some (.agg #[.int .i32 0, .int .i32 0]) := by kernel_rfl
theorem ti26 : TI Try.prog 26 2 8 (.agg #[.int .i32 0, .int .i32 0]) := ⟨by kernel_rfl⟩
theorem zp26 (H : Hp) : (k_radomeref39_Spot).rep H (Value.cells (.agg #[.int .i32 0, .int .i32 0])).toList (⟨0, 0⟩ : radomeref39_Spot) := k_radomeref39_Spot_in (x := ⟨0, 0⟩)
theorem ty29 : TyA Try.prog 29 false 1 := ⟨⟨_, Try.underlying29, rfl⟩, by kernel_rfl⟩
theorem sz29 : (Try.prog.info? 29).map (·.size) = some 1 := by kernel_rfl
theorem zr29 : (Try.prog.info? 29).bind (·.zero) = some (.slice none 0 0) := by kernel_rfl
theorem ti29 : TI Try.prog 29 1 24 (.slice none 0 0) := ⟨by kernel_rfl⟩
theorem zp29 (H : Hp) : ((Kd.slice k_zone_Spot)).rep H (Value.cells (.slice none 0 0)).toList [] := ⟨_, rfl, ro_nil _ _⟩
theorem ty31 : TyA Try.prog 31 true 2 := ⟨⟨_, Try.underlying31, rfl⟩, by kernel_rfl⟩
theorem sz31 : (Try.prog.info? 31).map (·.size) = some 2 := by kernel_rfl
theorem zr31 : (Try.prog.info? 31).bind (·.zero) = some (.agg #[.string ⟨#[]⟩, .slice none 0 0]) := by kernel_rfl
theorem ti31 : TI Try.prog 31 2 40 (.agg #[.string ⟨#[]⟩, .slice none 0 0]) := ⟨by kernel_rfl⟩
theorem zp31 (H : Hp) : (k_zone_Zone).rep H (Value.cells (.agg #[.string ⟨#[]⟩, .slice none 0 0])).toList (⟨ByteArray.empty, []⟩ : zone_Zone) := k_zone_Zone_in (x := ⟨ByteArray.empty, []⟩) (ro_nil _ _)
theorem ty34 : TyA Try.prog 34 true 2 := ⟨⟨_, Try.underlying34, rfl⟩, by kernel_rfl⟩
theorem sz34 : (Try.prog.info? 34).map (·.size) = some 2 := by kernel_rfl
theorem zr34 : (Try.prog.info? 34).bind (·.zero) = some (.agg #[.int .i32 0, .int .i32 0]) := by kernel_rfl
theorem ti34 : TI Try.prog 34 2 8 (.agg #[.int .i32 0, .int .i32 0]) := ⟨by kernel_rfl⟩
theorem zp34 (H : Hp) : (k_zone_Spot).rep H (Value.cells (.agg #[.int .i32 0, .int .i32 0])).toList (⟨0, 0⟩ : zone_Spot) := k_zone_Spot_in (x := ⟨0, 0⟩)
theorem ty36 : TyA Try.prog 36 false 1 := ⟨⟨_, Try.underlying36, rfl⟩, by kernel_rfl⟩
theorem sz36 : (Try.prog.info? 36).map (·.size) = some 1 := by kernel_rfl
theorem zr36 : (Try.prog.info? 36).bind (·.zero) = some (.nilIface) := by kernel_rfl
theorem ti36 : TI Try.prog 36 1 16 (.nilIface) := ⟨by kernel_rfl⟩
theorem zp36 (H : Hp) : ((Kd.err 51)).rep H (Value.cells (.nilIface)).toList none := rfl
theorem co4 : CallOk Try.prog 4 := ⟨_, Try.func4, by decide, rfl⟩
theorem co5 : CallOk Try.prog 5 := ⟨_, Try.func5, by decide, rfl⟩
theorem co6 : CallOk Try.prog 6 := ⟨_, Try.func6, by decide, rfl⟩
theorem co7 : CallOk Try.prog 7 := ⟨_, Try.func7, by decide, rfl⟩
theorem co8 : CallOk Try.prog 8 := ⟨_, Try.func8, by decide, rfl⟩
theorem co9 : CallOk Try.prog 9 := ⟨_, Try.func9, by decide, rfl⟩
theorem co10 : CallOk Try.prog 10 := ⟨_, Try.func10, by decide, rfl⟩
theorem co11 : CallOk Try.prog 11 := ⟨_, Try.func11, by decide, rfl⟩
theorem co12 : CallOk Try.prog 12 := ⟨_, Try.func12, by decide, rfl⟩
theorem co13 : CallOk Try.prog 13 := ⟨_, Try.func13, by decide, rfl⟩
theorem co14 : CallOk Try.prog 14 := ⟨_, Try.func14, by decide, rfl⟩
theorem co15 : CallOk Try.prog 15 := ⟨_, Try.func15, by decide, rfl⟩
theorem co16 : CallOk Try.prog 16 := ⟨_, Try.func16, by decide, rfl⟩
theorem fn_3 : Try.prog.funcs[3]? = some Try.f3 := Try.func3
theorem rs_3 : Try.f3.results = ⟨[.tmp 6]⟩ := rfl
theorem nt_3 : Try.f3.ntmps = 279 := rfl
theorem fn_4 : Try.prog.funcs[4]? = some Try.f4 := Try.func4
theorem rs_4 : Try.f4.results = ⟨[.tmp 2]⟩ := rfl
theorem nt_4 : Try.f4.ntmps = 62 := rfl
theorem fn_5 : Try.prog.funcs[5]? = some Try.f5 := Try.func5
theorem rs_5 : Try.f5.results = ⟨[.tmp 0]⟩ := rfl
theorem nt_5 : Try.f5.ntmps = 77 := rfl
theorem fn_6 : Try.prog.funcs[6]? = some Try.f6 := Try.func6
theorem rs_6 : Try.f6.results = ⟨[.cell 2 31]⟩ := rfl
theorem nt_6 : Try.f6.ntmps = 26 := rfl
theorem fn_7 : Try.prog.funcs[7]? = some Try.f7 := Try.func7
theorem rs_7 : Try.f7.results = ⟨[.cell 4 3, .cell 5 36]⟩ := rfl
theorem nt_7 : Try.f7.ntmps = 30 := rfl
theorem fn_8 : Try.prog.funcs[8]? = some Try.f8 := Try.func8
theorem rs_8 : Try.f8.results = ⟨[.tmp 2, .tmp 3]⟩ := rfl
theorem nt_8 : Try.f8.ntmps = 38 := rfl
theorem fn_9 : Try.prog.funcs[9]? = some Try.f9 := Try.func9
theorem rs_9 : Try.f9.results = ⟨[.cell 2 34, .cell 3 34, .tmp 4]⟩ := rfl
theorem nt_9 : Try.f9.ntmps = 57 := rfl
theorem fn_10 : Try.prog.funcs[10]? = some Try.f10 := Try.func10
theorem rs_10 : Try.f10.results = ⟨[.tmp 2]⟩ := rfl
theorem nt_10 : Try.f10.ntmps = 55 := rfl
theorem fn_11 : Try.prog.funcs[11]? = some Try.f11 := Try.func11
theorem rs_11 : Try.f11.results = ⟨[.tmp 4, .tmp 5]⟩ := rfl
theorem nt_11 : Try.f11.ntmps = 41 := rfl
theorem fn_12 : Try.prog.funcs[12]? = some Try.f12 := Try.func12
theorem rs_12 : Try.f12.results = ⟨[]⟩ := rfl
theorem nt_12 : Try.f12.ntmps = 29 := rfl
theorem fn_13 : Try.prog.funcs[13]? = some Try.f13 := Try.func13
theorem rs_13 : Try.f13.results = ⟨[.tmp 6]⟩ := rfl
theorem nt_13 : Try.f13.ntmps = 52 := rfl
theorem fn_14 : Try.prog.funcs[14]? = some Try.f14 := Try.func14
theorem rs_14 : Try.f14.results = ⟨[.tmp 6]⟩ := rfl
theorem nt_14 : Try.f14.ntmps = 43 := rfl
theorem fn_15 : Try.prog.funcs[15]? = some Try.f15 := Try.func15
theorem rs_15 : Try.f15.results = ⟨[.tmp 2]⟩ := rfl
theorem nt_15 : Try.f15.ntmps = 37 := rfl
theorem fn_16 : Try.prog.funcs[16]? = some Try.f16 := Try.func16
theorem rs_16 : Try.f16.results = ⟨[.tmp 6]⟩ := rfl
theorem nt_16 : Try.f16.ntmps = 38 := rfl
theorem mixed : Try.prog.follows .mixedOrders = true := by kernel_rfl


end Go.Proofs.Ytoijknggnlbopaa.GZS
