/- A text of this session, written by a program (wip/k/gen.py): Go functions as Lean functions, and proofs that the code comes to them. -/
import Derived.Test.YtoijknggnlbopaaDoorGZHk16
import Derived.Test.YtoijknggnlbopaaDoorAs
namespace Go.Proofs.YtoijknggnlbopaaDoor.GZH
open Go Go.RowKit Go.Proofs.YtoijknggnlbopaaDoorK Go.Proofs.YtoijknggnlbopaaDoor
set_option linter.unusedVariables false
set_option linter.unusedSimpArgs false
def str_0 : ByteArray := ⟨#[]⟩
def str_1 : ByteArray := ⟨#[97]⟩
structure zone_Spot where
 f_X : Int
 f_Y : Int
instance : Inhabited zone_Spot := ⟨⟨0, 0⟩⟩
def k_zone_Spot : Kd zone_Spot := Kd.map (fun s => (s.f_X, s.f_Y)) (Kd.pair (Kd.int .i32) (Kd.int .i32))
theorem k_zone_Spot_out {H : Hp} {cs : List Value} {x : zone_Spot} (h : k_zone_Spot.rep H cs x) : cs = [.int .i32 x.f_X, .int .i32 x.f_Y] := by
 obtain ⟨_, _, rfl, rfl, rfl⟩ := (show ((Kd.pair (Kd.int .i32) (Kd.int .i32))).rep H cs ((x.f_X, x.f_Y)) from h)
 rfl
theorem k_zone_Spot_in {H : Hp} {x : zone_Spot} : k_zone_Spot.rep H [.int .i32 x.f_X, .int .i32 x.f_Y] x :=
 (show ((Kd.pair (Kd.int .i32) (Kd.int .i32))).rep H _ ((x.f_X, x.f_Y)) from ⟨[.int .i32 x.f_X], [.int .i32 x.f_Y], rfl, rfl, rfl⟩)
structure zone_Zone where
 f_Name : ByteArray
 f_Corners : List zone_Spot
instance : Inhabited zone_Zone := ⟨⟨ByteArray.empty, []⟩⟩
def k_zone_Zone : Kd zone_Zone := Kd.map (fun s => (s.f_Name, s.f_Corners)) (Kd.pair Kd.str (Kd.slice k_zone_Spot))
theorem k_zone_Zone_out {H : Hp} {cs : List Value} {x : zone_Zone} (h : k_zone_Zone.rep H cs x) : ∃ v0, cs = [.string x.f_Name, v0] ∧ Ro k_zone_Spot H v0 x.f_Corners := by
 obtain ⟨_, _, rfl, rfl, ⟨v0, rfl, h0⟩⟩ := (show ((Kd.pair Kd.str (Kd.slice k_zone_Spot))).rep H cs ((x.f_Name, x.f_Corners)) from h)
 exact ⟨v0, rfl, h0⟩
theorem k_zone_Zone_in {H : Hp} {v0 : Value} {x : zone_Zone} (h0 : Ro k_zone_Spot H v0 x.f_Corners) : k_zone_Zone.rep H [.string x.f_Name, v0] x :=
 (show ((Kd.pair Kd.str (Kd.slice k_zone_Spot))).rep H _ ((x.f_Name, x.f_Corners)) from ⟨[.string x.f_Name], [v0], rfl, rfl, ⟨v0, rfl, h0⟩⟩)
structure radomeref39_Spot where
 f_X : Int
 f_Y : Int
instance : Inhabited radomeref39_Spot := ⟨⟨0, 0⟩⟩
def k_radomeref39_Spot : Kd radomeref39_Spot := Kd.map (fun s => (s.f_X, s.f_Y)) (Kd.pair (Kd.int .i32) (Kd.int .i32))
theorem k_radomeref39_Spot_out {H : Hp} {cs : List Value} {x : radomeref39_Spot} (h : k_radomeref39_Spot.rep H cs x) : cs = [.int .i32 x.f_X, .int .i32 x.f_Y] := by
 obtain ⟨_, _, rfl, rfl, rfl⟩ := (show ((Kd.pair (Kd.int .i32) (Kd.int .i32))).rep H cs ((x.f_X, x.f_Y)) from h)
 rfl
theorem k_radomeref39_Spot_in {H : Hp} {x : radomeref39_Spot} : k_radomeref39_Spot.rep H [.int .i32 x.f_X, .int .i32 x.f_Y] x :=
 (show ((Kd.pair (Kd.int .i32) (Kd.int .i32))).rep H _ ((x.f_X, x.f_Y)) from ⟨[.int .i32 x.f_X], [.int .i32 x.f_Y], rfl, rfl, rfl⟩)
structure radomeref39_Zone where
 f_Name : ByteArray
 f_Corners : List radomeref39_Spot
instance : Inhabited radomeref39_Zone := ⟨⟨ByteArray.empty, []⟩⟩
def k_radomeref39_Zone : Kd radomeref39_Zone := Kd.map (fun s => (s.f_Name, s.f_Corners)) (Kd.pair Kd.str (Kd.slice k_radomeref39_Spot))
theorem k_radomeref39_Zone_out {H : Hp} {cs : List Value} {x : radomeref39_Zone} (h : k_radomeref39_Zone.rep H cs x) : ∃ v0, cs = [.string x.f_Name, v0] ∧ Ro k_radomeref39_Spot H v0 x.f_Corners := by
 obtain ⟨_, _, rfl, rfl, ⟨v0, rfl, h0⟩⟩ := (show ((Kd.pair Kd.str (Kd.slice k_radomeref39_Spot))).rep H cs ((x.f_Name, x.f_Corners)) from h)
 exact ⟨v0, rfl, h0⟩
theorem k_radomeref39_Zone_in {H : Hp} {v0 : Value} {x : radomeref39_Zone} (h0 : Ro k_radomeref39_Spot H v0 x.f_Corners) : k_radomeref39_Zone.rep H [.string x.f_Name, v0] x :=
 (show ((Kd.pair Kd.str (Kd.slice k_radomeref39_Spot))).rep H _ ((x.f_Name, x.f_Corners)) from ⟨[.string x.f_Name], [v0], rfl, rfl, ⟨v0, rfl, h0⟩⟩)
theorem ty2 : TyA Tryd.prog 2 false 1 := ⟨⟨_, Tryd.underlying2, rfl⟩, by kernel_rfl⟩
theorem sz2 : (Tryd.prog.info? 2).map (·.size) = some 1 := by kernel_rfl
theorem zr2 : (Tryd.prog.info? 2).bind (·.zero) = some (.int .i64 0) := by kernel_rfl
theorem ti2 : TI Tryd.prog 2 1 8 (.int .i64 0) := ⟨by kernel_rfl⟩
theorem zp2 (H : Hp) : ((Kd.int .i64)).rep H (Value.cells (.int .i64 0)).toList 0 := rfl
theorem ty3 : TyA Tryd.prog 3 false 1 := ⟨⟨_, Tryd.underlying3, rfl⟩, by kernel_rfl⟩
theorem sz3 : (Tryd.prog.info? 3).map (·.size) = some 1 := by kernel_rfl
theorem zr3 : (Tryd.prog.info? 3).bind (·.zero) = some (.int .i64 0) := by kernel_rfl
theorem ti3 : TI Tryd.prog 3 1 8 (.int .i64 0) := ⟨by kernel_rfl⟩
theorem zp3 (H : Hp) : ((Kd.int .i64)).rep H (Value.cells (.int .i64 0)).toList 0 := rfl
theorem ty4 : TyA Tryd.prog 4 false 1 := ⟨⟨_, Tryd.underlying4, rfl⟩, by kernel_rfl⟩
theorem sz4 : (Tryd.prog.info? 4).map (·.size) = some 1 := by kernel_rfl
theorem zr4 : (Tryd.prog.info? 4).bind (·.zero) = some (.bool false) := by kernel_rfl
theorem ti4 : TI Tryd.prog 4 1 1 (.bool false) := ⟨by kernel_rfl⟩
theorem zp4 (H : Hp) : (Kd.bool).rep H (Value.cells (.bool false)).toList false := rfl
theorem ty9 : TyA Tryd.prog 9 false 1 := ⟨⟨_, Tryd.underlying9, rfl⟩, by kernel_rfl⟩
theorem sz9 : (Tryd.prog.info? 9).map (·.size) = some 1 := by kernel_rfl
theorem zr9 : (Tryd.prog.info? 9).bind (·.zero) = some (.string ⟨#[]⟩) := by kernel_rfl
theorem ti9 : TI Tryd.prog 9 1 16 (.string ⟨#[]⟩) := ⟨by kernel_rfl⟩
theorem zp9 (H : Hp) : (Kd.str).rep H (Value.cells (.string ⟨#[]⟩)).toList ByteArray.empty := rfl
theorem ty21 : TyA Tryd.prog 21 false 1 := ⟨⟨_, Tryd.underlying21, rfl⟩, by kernel_rfl⟩
theorem sz21 : (Tryd.prog.info? 21).map (·.size) = some 1 := by kernel_rfl
theorem zr21 : (Tryd.prog.info? 21).bind (·.zero) = some (.int .i32 0) := by kernel_rfl
theorem ti21 : TI Tryd.prog 21 1 4 (.int .i32 0) := ⟨by kernel_rfl⟩
theorem zp21 (H : Hp) : ((Kd.int .i32)).rep H (Value.cells (.int .i32 0)).toList 0 := rfl
theorem ty24 : TyA Tryd.prog 24 true 2 := ⟨⟨_, Tryd.underlying24, rfl⟩, by kernel_rfl⟩
theorem sz24 : (Tryd.prog.info? 24).map (·.size) = some 2 := by kernel_rfl
theorem zr24 : (Tryd.prog.info? 24).bind (·.zero) = some (.agg #[.int .i32 0, .int .i32 0]) := by kernel_rfl
theorem ti24 : TI Tryd.prog 24 2 8 (.agg #[.int .i32 0, .int .i32 0]) := ⟨by kernel_rfl⟩
theorem zp24 (H : Hp) : (k_radomeref39_Spot).rep H (Value.cells (.agg #[.int .i32 0, .int .i32 0])).toList (⟨0, 0⟩ : radomeref39_Spot) := k_radomeref39_Spot_in (x := ⟨0, 0⟩)
theorem ty27 : TyA Tryd.prog 27 false 1 := ⟨⟨_, Tryd.underlying27, rfl⟩, by kernel_rfl⟩
theorem sz27 : (Tryd.prog.info? 27).map (·.size) = some 1 := by kernel_rfl
theorem zr27 : (Tryd.prog.info? 27).bind (·.zero) = some (.slice none 0 0) := by kernel_rfl
theorem ti27 : TI Tryd.prog 27 1 24 (.slice none 0 0) := ⟨by kernel_rfl⟩
theorem zp27 (H : Hp) : ((Kd.slice k_radomeref39_Spot)).rep H (Value.cells (.slice none 0 0)).toList [] := ⟨_, rfl, ro_nil _ _⟩
theorem ty29 : TyA Tryd.prog 29 true 2 := ⟨⟨_, Tryd.underlying29, rfl⟩, by kernel_rfl⟩
theorem sz29 : (Tryd.prog.info? 29).map (·.size) = some 2 := by kernel_rfl
theorem zr29 : (Tryd.prog.info? 29).bind (·.zero) = some (.agg #[.string ⟨#[]⟩, .slice none 0 0]) := by kernel_rfl
theorem ti29 : TI Tryd.prog 29 2 40 (.agg #[.string ⟨#[]⟩, .slice none 0 0]) := ⟨by kernel_rfl⟩
theorem zp29 (H : Hp) : (k_radomeref39_Zone).rep H (Value.cells (.agg #[.string ⟨#[]⟩, .slice none 0 0])).toList (⟨ByteArray.empty, []⟩ : radomeref39_Zone) := k_radomeref39_Zone_in (x := ⟨ByteArray.empty, []⟩) (ro_nil _ _)
theorem ty30 : TyA Tryd.prog 30 false 1 := ⟨⟨_, Tryd.underlying30, rfl⟩, by kernel_rfl⟩
theorem sz30 : (Tryd.prog.info? 30).map (·.size) = some 1 := by kernel_rfl
theorem zr30 : (Tryd.prog.info? 30).bind (·.zero) = some (.slice none 0 0) := by kernel_rfl
theorem ti30 : TI Tryd.prog 30 1 24 (.slice none 0 0) := ⟨by kernel_rfl⟩
theorem zp30 (H : Hp) : ((Kd.slice k_zone_Spot)).rep H (Value.cells (.slice none 0 0)).toList [] := ⟨_, rfl, ro_nil _ _⟩
theorem ty32 : TyA Tryd.prog 32 true 2 := ⟨⟨_, Tryd.underlying32, rfl⟩, by kernel_rfl⟩
theorem sz32 : (Tryd.prog.info? 32).map (·.size) = some 2 := by kernel_rfl
theorem zr32 : (Tryd.prog.info? 32).bind (·.zero) = some (.agg #[.string ⟨#[]⟩, .slice none 0 0]) := by kernel_rfl
theorem ti32 : TI Tryd.prog 32 2 40 (.agg #[.string ⟨#[]⟩, .slice none 0 0]) := ⟨by kernel_rfl⟩
theorem zp32 (H : Hp) : (k_zone_Zone).rep H (Value.cells (.agg #[.string ⟨#[]⟩, .slice none 0 0])).toList (⟨ByteArray.empty, []⟩ : zone_Zone) := k_zone_Zone_in (x := ⟨ByteArray.empty, []⟩) (ro_nil _ _)
theorem ty36 : TyA Tryd.prog 36 false 1 := ⟨⟨_, Tryd.underlying36, rfl⟩, by kernel_rfl⟩
theorem sz36 : (Tryd.prog.info? 36).map (·.size) = some 1 := by kernel_rfl
theorem zr36 : (Tryd.prog.info? 36).bind (·.zero) = some (.nilIface) := by kernel_rfl
theorem ti36 : TI Tryd.prog 36 1 16 (.nilIface) := ⟨by kernel_rfl⟩
theorem zp36 (H : Hp) : ((Kd.err 99)).rep H (Value.cells (.nilIface)).toList none := rfl
theorem ty39 : TyA Tryd.prog 39 true 2 := ⟨⟨_, Tryd.underlying39, rfl⟩, by kernel_rfl⟩
theorem sz39 : (Tryd.prog.info? 39).map (·.size) = some 2 := by kernel_rfl
theorem zr39 : (Tryd.prog.info? 39).bind (·.zero) = some (.agg #[.int .i32 0, .int .i32 0]) := by kernel_rfl
theorem ti39 : TI Tryd.prog 39 2 8 (.agg #[.int .i32 0, .int .i32 0]) := ⟨by kernel_rfl⟩
theorem zp39 (H : Hp) : (k_zone_Spot).rep H (Value.cells (.agg #[.int .i32 0, .int .i32 0])).toList (⟨0, 0⟩ : zone_Spot) := k_zone_Spot_in (x := ⟨0, 0⟩)
theorem co9 : CallOk Tryd.prog 9 := ⟨_, Tryd.func9, by decide, rfl⟩
theorem co10 : CallOk Tryd.prog 10 := ⟨_, Tryd.func10, by decide, rfl⟩
theorem co11 : CallOk Tryd.prog 11 := ⟨_, Tryd.func11, by decide, rfl⟩
theorem co12 : CallOk Tryd.prog 12 := ⟨_, Tryd.func12, by decide, rfl⟩
theorem co13 : CallOk Tryd.prog 13 := ⟨_, Tryd.func13, by decide, rfl⟩
theorem co14 : CallOk Tryd.prog 14 := ⟨_, Tryd.func14, by decide, rfl⟩
theorem co15 : CallOk Tryd.prog 15 := ⟨_, Tryd.func15, by decide, rfl⟩
theorem co17 : CallOk Tryd.prog 17 := ⟨_, Tryd.func17, by decide, rfl⟩
theorem co18 : CallOk Tryd.prog 18 := ⟨_, Tryd.func18, by decide, rfl⟩
theorem co19 : CallOk Tryd.prog 19 := ⟨_, Tryd.func19, by decide, rfl⟩
theorem co41 : CallOk Tryd.prog 41 := ⟨_, Tryd.func41, by decide, rfl⟩
theorem co43 : CallOk Tryd.prog 43 := ⟨_, Tryd.func43, by decide, rfl⟩
theorem co44 : CallOk Tryd.prog 44 := ⟨_, Tryd.func44, by decide, rfl⟩
theorem co45 : CallOk Tryd.prog 45 := ⟨_, Tryd.func45, by decide, rfl⟩
theorem co60 : CallOk Tryd.prog 60 := ⟨_, Tryd.func60, by decide, rfl⟩
theorem fn_3 : Tryd.prog.funcs[3]? = some Tryd.f3 := Tryd.func3
theorem rs_3 : Tryd.f3.results = ⟨[.tmp 4]⟩ := rfl
theorem nt_3 : Tryd.f3.ntmps = 86 := rfl
theorem fn_9 : Tryd.prog.funcs[9]? = some Tryd.f9 := Tryd.func9
theorem rs_9 : Tryd.f9.results = ⟨[.tmp 0]⟩ := rfl
theorem nt_9 : Tryd.f9.ntmps = 77 := rfl
theorem fn_10 : Tryd.prog.funcs[10]? = some Tryd.f10 := Tryd.func10
theorem rs_10 : Tryd.f10.results = ⟨[.cell 2 32]⟩ := rfl
theorem nt_10 : Tryd.f10.ntmps = 26 := rfl
theorem fn_11 : Tryd.prog.funcs[11]? = some Tryd.f11 := Tryd.func11
theorem rs_11 : Tryd.f11.results = ⟨[.tmp 4, .tmp 5]⟩ := rfl
theorem nt_11 : Tryd.f11.ntmps = 41 := rfl
theorem fn_12 : Tryd.prog.funcs[12]? = some Tryd.f12 := Tryd.func12
theorem rs_12 : Tryd.f12.results = ⟨[.tmp 4, .tmp 5]⟩ := rfl
theorem nt_12 : Tryd.f12.ntmps = 63 := rfl
theorem fn_14 : Tryd.prog.funcs[14]? = some Tryd.f14 := Tryd.func14
theorem rs_14 : Tryd.f14.results = ⟨[.cell 4 3, .cell 5 36]⟩ := rfl
theorem nt_14 : Tryd.f14.ntmps = 30 := rfl
theorem fn_15 : Tryd.prog.funcs[15]? = some Tryd.f15 := Tryd.func15
theorem rs_15 : Tryd.f15.results = ⟨[.tmp 2, .tmp 3]⟩ := rfl
theorem nt_15 : Tryd.f15.ntmps = 38 := rfl
theorem fn_17 : Tryd.prog.funcs[17]? = some Tryd.f17 := Tryd.func17
theorem rs_17 : Tryd.f17.results = ⟨[.tmp 2]⟩ := rfl
theorem nt_17 : Tryd.f17.ntmps = 55 := rfl
theorem fn_18 : Tryd.prog.funcs[18]? = some Tryd.f18 := Tryd.func18
theorem rs_18 : Tryd.f18.results = ⟨[.tmp 2]⟩ := rfl
theorem nt_18 : Tryd.f18.ntmps = 62 := rfl
theorem fn_19 : Tryd.prog.funcs[19]? = some Tryd.f19 := Tryd.func19
theorem rs_19 : Tryd.f19.results = ⟨[.tmp 4]⟩ := rfl
theorem nt_19 : Tryd.f19.ntmps = 117 := rfl
theorem fn_41 : Tryd.prog.funcs[41]? = some Tryd.f41 := Tryd.func41
theorem rs_41 : Tryd.f41.results = ⟨[.tmp 2]⟩ := rfl
theorem nt_41 : Tryd.f41.ntmps = 37 := rfl
theorem fn_43 : Tryd.prog.funcs[43]? = some Tryd.f43 := Tryd.func43
theorem rs_43 : Tryd.f43.results = ⟨[]⟩ := rfl
theorem nt_43 : Tryd.f43.ntmps = 29 := rfl
theorem fn_44 : Tryd.prog.funcs[44]? = some Tryd.f44 := Tryd.func44
theorem rs_44 : Tryd.f44.results = ⟨[.tmp 6]⟩ := rfl
theorem nt_44 : Tryd.f44.ntmps = 52 := rfl
theorem fn_45 : Tryd.prog.funcs[45]? = some Tryd.f45 := Tryd.func45
theorem rs_45 : Tryd.f45.results = ⟨[.tmp 6]⟩ := rfl
theorem nt_45 : Tryd.f45.ntmps = 43 := rfl
theorem fn_60 : Tryd.prog.funcs[60]? = some Tryd.f60 := Tryd.func60
theorem rs_60 : Tryd.f60.results = ⟨[.tmp 6]⟩ := rfl
theorem nt_60 : Tryd.f60.ntmps = 38 := rfl
theorem mixed : Tryd.prog.follows .mixedOrders = true := by kernel_rfl
def GH (H : Hp) : Prop := ∃ o, H.at_ 0 = some o ∧ ∀ w : World, w.heap[0]? = some o → GG w
theorem GH.mono {H H' : Hp} (h : GH H) (hle : H.le H') : GH H' := let ⟨o, h1, h2⟩ := h; ⟨o, hle.at_ 0 o h1, h2⟩
theorem gh_of {W : World} (h : GG W) : GH (snap W) := by
 unfold GG at h
 have h1 := h
 unfold World.cell? at h1
 split at h1
 · rename_i c1 T fz hh
   refine ⟨_, hh, fun w hw => ?_⟩
   show w.cell? _ = _
   unfold World.cell?
   rw [hw]; exact h1
 · cases h1
def errN (e : Option Int) : Int := e.getD 0
theorem num13.calls {H : Hp} {L : Items} {e : Option Int} (hG : GH H) (he : some (errN e) = some (errN e)) : Ct Tryd.prog 13 ⟨[errV 99 e]⟩ H L (fun v H' L' => L = L' ∧ H = H' ∧ v = .int .i64 (errN e)) := Ct.of_calls fun w hw => by
 obtain ⟨o, h1, h2⟩ := hG
 have hg := h2 w (hw.good 0 o h1)
 have this : Calls Tryd.prog 13 #[errV 99 e] w fun ev w' => ev = .returned (.int .i64 (e.getD 0)) ∧ Below w.heap.size w w' := by
  cases e with
  | none => exact num13_any none w hg
  | some c => exact num13_any (some c) w hg
 refine this.mono ?_
 rintro ev w' ⟨rfl, hb⟩
 exact ⟨_, _, _, rfl, hw.below hb, rfl, rfl, rfl⟩
theorem num25.calls {H : Hp} {L : Items} {e : Option Int} (hG : GH H) (he : some (errN e) = some (errN e)) : Ct Tryd.prog 25 ⟨[errV 99 e]⟩ H L (fun v H' L' => L = L' ∧ H = H' ∧ v = .int .i64 (errN e)) := Ct.of_calls fun w hw => by
 obtain ⟨o, h1, h2⟩ := hG
 have hg := h2 w (hw.good 0 o h1)
 have this : Calls Tryd.prog 25 #[errV 99 e] w fun ev w' => ev = .returned (.int .i64 (e.getD 0)) ∧ Below w.heap.size w w' := by
  cases e with
  | none => exact num25_any none w hg
  | some c => exact num25_any (some c) w hg
 refine this.mono ?_
 rintro ev w' ⟨rfl, hb⟩
 exact ⟨_, _, _, rfl, hw.below hb, rfl, rfl, rfl⟩
theorem num35.calls {H : Hp} {L : Items} {e : Option Int} (hG : GH H) (he : some (errN e) = some (errN e)) : Ct Tryd.prog 35 ⟨[errV 99 e]⟩ H L (fun v H' L' => L = L' ∧ H = H' ∧ v = .int .i64 (errN e)) := Ct.of_calls fun w hw => by
 obtain ⟨o, h1, h2⟩ := hG
 have hg := h2 w (hw.good 0 o h1)
 have this : Calls Tryd.prog 35 #[errV 99 e] w fun ev w' => ev = .returned (.int .i64 (e.getD 0)) ∧ Below w.heap.size w w' := by
  cases e with
  | none => exact num35_any none w hg
  | some c => exact num35_any (some c) w hg
 refine this.mono ?_
 rintro ev w' ⟨rfl, hb⟩
 exact ⟨_, _, _, rfl, hw.below hb, rfl, rfl, rfl⟩

end Go.Proofs.YtoijknggnlbopaaDoor.GZH
