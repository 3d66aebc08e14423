/- printed by gen.py -/
import Derived.Test.YtacbficpehmlnaaDoorGBNk15
import Derived.Test.YtacbficpehmlnaaDoorAs
namespace Go.Proofs.YtacbficpehmlnaaDoor.GBN
open Go Go.RowKit Go.Proofs.YtacbficpehmlnaaDoorK Go.Proofs.YtacbficpehmlnaaDoor
set_option linter.unusedVariables false
set_option linter.unusedSimpArgs false
def str_0 : ByteArray := ⟨#[99, 97, 110, 110, 111, 116, 32, 98, 101, 32, 110, 101, 103, 97, 116, 105, 118, 101]⟩
def str_1 : ByteArray := ⟨#[116, 104, 101, 32, 114, 101, 115, 117, 108, 116, 32, 111, 102, 32, 40, 108, 101, 110, 40, 120, 41, 32, 42, 32, 99, 111, 117, 110, 116, 41, 32, 111, 118, 101, 114, 102, 108, 111, 119, 115]⟩
structure radomeref20_Costs where
 f_Rows : List (List Int)
 f_Miss : Int
instance : Inhabited radomeref20_Costs := ⟨⟨[], 0⟩⟩
def k_radomeref20_Costs : Kd radomeref20_Costs := Kd.map (fun s => (s.f_Rows, s.f_Miss)) (Kd.pair (Kd.slice (Kd.slice kI64)) kI64)
theorem k_radomeref20_Costs_out {H : Hp} {cs : List Value} {x : radomeref20_Costs} (h : k_radomeref20_Costs.rep H cs x) : ∃ v0, cs = [v0, .int .i64 x.f_Miss] ∧ Ro (Kd.slice kI64) H v0 x.f_Rows := by
 obtain ⟨_, _, rfl, ⟨v0, rfl, h0⟩, rfl⟩ := (show ((Kd.pair (Kd.slice (Kd.slice kI64)) kI64)).rep H cs ((x.f_Rows, x.f_Miss)) from h)
 exact ⟨v0, rfl, h0⟩
theorem k_radomeref20_Costs_in {H : Hp} {v0 : Value} {x : radomeref20_Costs} (h0 : Ro (Kd.slice kI64) H v0 x.f_Rows) : k_radomeref20_Costs.rep H [v0, .int .i64 x.f_Miss] x :=
 (show ((Kd.pair (Kd.slice (Kd.slice kI64)) kI64)).rep H _ ((x.f_Rows, x.f_Miss)) from ⟨[v0], [.int .i64 x.f_Miss], rfl, ⟨v0, rfl, h0⟩, rfl⟩)
structure cost_Costs where
 f_Rows : List (List Int)
 f_Miss : Int
instance : Inhabited cost_Costs := ⟨⟨[], 0⟩⟩
def k_cost_Costs : Kd cost_Costs := Kd.map (fun s => (s.f_Rows, s.f_Miss)) (Kd.pair (Kd.slice (Kd.slice kI64)) kI64)
theorem k_cost_Costs_out {H : Hp} {cs : List Value} {x : cost_Costs} (h : k_cost_Costs.rep H cs x) : ∃ v0, cs = [v0, .int .i64 x.f_Miss] ∧ Ro (Kd.slice kI64) H v0 x.f_Rows := by
 obtain ⟨_, _, rfl, ⟨v0, rfl, h0⟩, rfl⟩ := (show ((Kd.pair (Kd.slice (Kd.slice kI64)) kI64)).rep H cs ((x.f_Rows, x.f_Miss)) from h)
 exact ⟨v0, rfl, h0⟩
theorem k_cost_Costs_in {H : Hp} {v0 : Value} {x : cost_Costs} (h0 : Ro (Kd.slice kI64) H v0 x.f_Rows) : k_cost_Costs.rep H [v0, .int .i64 x.f_Miss] x :=
 (show ((Kd.pair (Kd.slice (Kd.slice kI64)) kI64)).rep H _ ((x.f_Rows, x.f_Miss)) from ⟨[v0], [.int .i64 x.f_Miss], rfl, ⟨v0, rfl, h0⟩, rfl⟩)
structure best_search where
 f_c : cost_Costs
 f_tracks : Int
 f_plots : Int
 f_u : List Int
 f_v : List Int
 f_owner : List Int
instance : Inhabited best_search := ⟨⟨(⟨[], 0⟩ : cost_Costs), 0, 0, [], [], []⟩⟩
def k_best_search : Kd best_search := Kd.map (fun s => (s.f_c, (s.f_tracks, (s.f_plots, (s.f_u, (s.f_v, s.f_owner)))))) (Kd.pair k_cost_Costs (Kd.pair kI64 (Kd.pair kI64 (Kd.pair (Kd.slice kI64) (Kd.pair (Kd.slice kI64) (Kd.slice kI64))))))
theorem k_best_search_out {H : Hp} {cs : List Value} {x : best_search} (h : k_best_search.rep H cs x) : ∃ v0, ∃ v1, ∃ v2, ∃ v3, cs = [v0, .int .i64 x.f_c.f_Miss, .int .i64 x.f_tracks, .int .i64 x.f_plots, v1, v2, v3] ∧ Ro (Kd.slice kI64) H v0 x.f_c.f_Rows ∧ Ro kI64 H v1 x.f_u ∧ Ro kI64 H v2 x.f_v ∧ Ro kI64 H v3 x.f_owner := by
 obtain ⟨_, _, rfl, q1, ⟨_, _, rfl, rfl, ⟨_, _, rfl, rfl, ⟨_, _, rfl, ⟨v1, rfl, h1⟩, ⟨_, _, rfl, ⟨v2, rfl, h2⟩, ⟨v3, rfl, h3⟩⟩⟩⟩⟩⟩ := (show ((Kd.pair k_cost_Costs (Kd.pair kI64 (Kd.pair kI64 (Kd.pair (Kd.slice kI64) (Kd.pair (Kd.slice kI64) (Kd.slice kI64))))))).rep H cs ((x.f_c, (x.f_tracks, (x.f_plots, (x.f_u, (x.f_v, x.f_owner)))))) from h)
 obtain ⟨v0, rfl, h0⟩ := k_cost_Costs_out q1
 exact ⟨v0, v1, v2, v3, rfl, h0, h1, h2, h3⟩
theorem k_best_search_in {H : Hp} {v0 : Value} {v1 : Value} {v2 : Value} {v3 : Value} {x : best_search} (h0 : Ro (Kd.slice kI64) H v0 x.f_c.f_Rows) (h1 : Ro kI64 H v1 x.f_u) (h2 : Ro kI64 H v2 x.f_v) (h3 : Ro kI64 H v3 x.f_owner) : k_best_search.rep H [v0, .int .i64 x.f_c.f_Miss, .int .i64 x.f_tracks, .int .i64 x.f_plots, v1, v2, v3] x :=
 (show ((Kd.pair k_cost_Costs (Kd.pair kI64 (Kd.pair kI64 (Kd.pair (Kd.slice kI64) (Kd.pair (Kd.slice kI64) (Kd.slice kI64))))))).rep H _ ((x.f_c, (x.f_tracks, (x.f_plots, (x.f_u, (x.f_v, x.f_owner)))))) from ⟨[v0, .int .i64 x.f_c.f_Miss], [.int .i64 x.f_tracks, .int .i64 x.f_plots, v1, v2, v3], rfl, (k_cost_Costs_in h0), ⟨[.int .i64 x.f_tracks], [.int .i64 x.f_plots, v1, v2, v3], rfl, rfl, ⟨[.int .i64 x.f_plots], [v1, v2, v3], rfl, rfl, ⟨[v1], [v2, v3], rfl, ⟨v1, rfl, h1⟩, ⟨[v2], [v3], rfl, ⟨v2, rfl, h2⟩, ⟨v3, rfl, h3⟩⟩⟩⟩⟩⟩)
structure best_way where
 f_far : List Int
 f_from : List Int
 f_done : List Bool
instance : Inhabited best_way := ⟨⟨[], [], []⟩⟩
def k_best_way : Kd best_way := Kd.map (fun s => (s.f_far, (s.f_from, s.f_done))) (Kd.pair (Kd.slice kI64) (Kd.pair (Kd.slice kI64) (Kd.slice Kd.bool)))
theorem k_best_way_out {H : Hp} {cs : List Value} {x : best_way} (h : k_best_way.rep H cs x) : ∃ v0, ∃ v1, ∃ v2, cs = [v0, v1, v2] ∧ Ro kI64 H v0 x.f_far ∧ Ro kI64 H v1 x.f_from ∧ Ro Kd.bool H v2 x.f_done := by
 obtain ⟨_, _, rfl, ⟨v0, rfl, h0⟩, ⟨_, _, rfl, ⟨v1, rfl, h1⟩, ⟨v2, rfl, h2⟩⟩⟩ := (show ((Kd.pair (Kd.slice kI64) (Kd.pair (Kd.slice kI64) (Kd.slice Kd.bool)))).rep H cs ((x.f_far, (x.f_from, x.f_done))) from h)
 exact ⟨v0, v1, v2, rfl, h0, h1, h2⟩
theorem k_best_way_in {H : Hp} {v0 : Value} {v1 : Value} {v2 : Value} {x : best_way} (h0 : Ro kI64 H v0 x.f_far) (h1 : Ro kI64 H v1 x.f_from) (h2 : Ro Kd.bool H v2 x.f_done) : k_best_way.rep H [v0, v1, v2] x :=
 (show ((Kd.pair (Kd.slice kI64) (Kd.pair (Kd.slice kI64) (Kd.slice Kd.bool)))).rep H _ ((x.f_far, (x.f_from, x.f_done))) from ⟨[v0], [v1, v2], rfl, ⟨v0, rfl, h0⟩, ⟨[v1], [v2], rfl, ⟨v1, rfl, h1⟩, ⟨v2, rfl, h2⟩⟩⟩)
theorem ty2 : TyA Tryd.prog 2 false 1 := ⟨⟨_, Tryd.underlying2, rfl⟩, by kernel_rfl⟩
theorem sz2 : (Tryd.prog.info? 2).map (·.size) = some 1 := by kernel_rfl
theorem zr2 : (Tryd.prog.info? 2).bind (·.zero) = some (.int .i64 0) := by kernel_rfl
theorem ti2 : TI Tryd.prog 2 1 8 (.int .i64 0) := ⟨by kernel_rfl⟩
theorem zp2 (H : Hp) : (kI64).rep H (Value.cells (.int .i64 0)).toList 0 := rfl
theorem ty3 : TyA Tryd.prog 3 false 1 := ⟨⟨_, Tryd.underlying3, rfl⟩, by kernel_rfl⟩
theorem sz3 : (Tryd.prog.info? 3).map (·.size) = some 1 := by kernel_rfl
theorem zr3 : (Tryd.prog.info? 3).bind (·.zero) = some (.int .i64 0) := by kernel_rfl
theorem ti3 : TI Tryd.prog 3 1 8 (.int .i64 0) := ⟨by kernel_rfl⟩
theorem zp3 (H : Hp) : (kI64).rep H (Value.cells (.int .i64 0)).toList 0 := rfl
theorem ty4 : TyA Tryd.prog 4 false 1 := ⟨⟨_, Tryd.underlying4, rfl⟩, by kernel_rfl⟩
theorem sz4 : (Tryd.prog.info? 4).map (·.size) = some 1 := by kernel_rfl
theorem zr4 : (Tryd.prog.info? 4).bind (·.zero) = some (.bool false) := by kernel_rfl
theorem ti4 : TI Tryd.prog 4 1 1 (.bool false) := ⟨by kernel_rfl⟩
theorem zp4 (H : Hp) : (Kd.bool).rep H (Value.cells (.bool false)).toList false := rfl
theorem ty22 : TyA Tryd.prog 22 false 1 := ⟨⟨_, Tryd.underlying22, rfl⟩, by kernel_rfl⟩
theorem sz22 : (Tryd.prog.info? 22).map (·.size) = some 1 := by kernel_rfl
theorem zr22 : (Tryd.prog.info? 22).bind (·.zero) = some (.slice none 0 0) := by kernel_rfl
theorem ti22 : TI Tryd.prog 22 1 24 (.slice none 0 0) := ⟨by kernel_rfl⟩
theorem zp22 (H : Hp) : ((Kd.slice (Kd.slice kI64))).rep H (Value.cells (.slice none 0 0)).toList [] := ⟨_, rfl, ro_nil _ _⟩
theorem ty24 : TyA Tryd.prog 24 true 2 := ⟨⟨_, Tryd.underlying24, rfl⟩, by kernel_rfl⟩
theorem sz24 : (Tryd.prog.info? 24).map (·.size) = some 2 := by kernel_rfl
theorem zr24 : (Tryd.prog.info? 24).bind (·.zero) = some (.agg #[.slice none 0 0, .int .i64 0]) := by kernel_rfl
theorem ti24 : TI Tryd.prog 24 2 32 (.agg #[.slice none 0 0, .int .i64 0]) := ⟨by kernel_rfl⟩
theorem zp24 (H : Hp) : (k_radomeref20_Costs).rep H (Value.cells (.agg #[.slice none 0 0, .int .i64 0])).toList (⟨[], 0⟩ : radomeref20_Costs) := k_radomeref20_Costs_in (x := ⟨[], 0⟩) (ro_nil _ _)
theorem ty32 : TyA Tryd.prog 32 false 1 := ⟨⟨_, Tryd.underlying32, rfl⟩, by kernel_rfl⟩
theorem sz32 : (Tryd.prog.info? 32).map (·.size) = some 1 := by kernel_rfl
theorem zr32 : (Tryd.prog.info? 32).bind (·.zero) = some (.slice none 0 0) := by kernel_rfl
theorem ti32 : TI Tryd.prog 32 1 24 (.slice none 0 0) := ⟨by kernel_rfl⟩
theorem zp32 (H : Hp) : ((Kd.slice kI64)).rep H (Value.cells (.slice none 0 0)).toList [] := ⟨_, rfl, ro_nil _ _⟩
theorem ty34 : TyA Tryd.prog 34 false 1 := ⟨⟨_, Tryd.underlying34, rfl⟩, by kernel_rfl⟩
theorem sz34 : (Tryd.prog.info? 34).map (·.size) = some 1 := by kernel_rfl
theorem zr34 : (Tryd.prog.info? 34).bind (·.zero) = some (.slice none 0 0) := by kernel_rfl
theorem ti34 : TI Tryd.prog 34 1 24 (.slice none 0 0) := ⟨by kernel_rfl⟩
theorem zp34 (H : Hp) : ((Kd.slice kI64)).rep H (Value.cells (.slice none 0 0)).toList [] := ⟨_, rfl, ro_nil _ _⟩
theorem ty37 : TyA Tryd.prog 37 true 2 := ⟨⟨_, Tryd.underlying37, rfl⟩, by kernel_rfl⟩
theorem sz37 : (Tryd.prog.info? 37).map (·.size) = some 2 := by kernel_rfl
theorem zr37 : (Tryd.prog.info? 37).bind (·.zero) = some (.agg #[.slice none 0 0, .int .i64 0]) := by kernel_rfl
theorem ti37 : TI Tryd.prog 37 2 32 (.agg #[.slice none 0 0, .int .i64 0]) := ⟨by kernel_rfl⟩
theorem zp37 (H : Hp) : (k_cost_Costs).rep H (Value.cells (.agg #[.slice none 0 0, .int .i64 0])).toList (⟨[], 0⟩ : cost_Costs) := k_cost_Costs_in (x := ⟨[], 0⟩) (ro_nil _ _)
theorem ty67 : TyA Tryd.prog 67 true 7 := ⟨⟨_, Tryd.underlying67, rfl⟩, by kernel_rfl⟩
theorem sz67 : (Tryd.prog.info? 67).map (·.size) = some 7 := by kernel_rfl
theorem zr67 : (Tryd.prog.info? 67).bind (·.zero) = some (.agg #[.slice none 0 0, .int .i64 0, .int .i64 0, .int .i64 0, .slice none 0 0, .slice none 0 0, .slice none 0 0]) := by kernel_rfl
theorem ti67 : TI Tryd.prog 67 7 120 (.agg #[.slice none 0 0, .int .i64 0, .int .i64 0, .int .i64 0, .slice none 0 0, .slice none 0 0, .slice none 0 0]) := ⟨by kernel_rfl⟩
theorem zp67 (H : Hp) : (k_best_search).rep H (Value.cells (.agg #[.slice none 0 0, .int .i64 0, .int .i64 0, .int .i64 0, .slice none 0 0, .slice none 0 0, .slice none 0 0])).toList (⟨(⟨[], 0⟩ : cost_Costs), 0, 0, [], [], []⟩ : best_search) := k_best_search_in (x := ⟨⟨[], 0⟩, 0, 0, [], [], []⟩) (ro_nil _ _) (ro_nil _ _) (ro_nil _ _) (ro_nil _ _)
theorem ty70 : TyA Tryd.prog 70 false 1 := ⟨⟨_, Tryd.underlying70, rfl⟩, by kernel_rfl⟩
theorem sz70 : (Tryd.prog.info? 70).map (·.size) = some 1 := by kernel_rfl
theorem zr70 : (Tryd.prog.info? 70).bind (·.zero) = some (.slice none 0 0) := by kernel_rfl
theorem ti70 : TI Tryd.prog 70 1 24 (.slice none 0 0) := ⟨by kernel_rfl⟩
theorem zp70 (H : Hp) : ((Kd.slice Kd.bool)).rep H (Value.cells (.slice none 0 0)).toList [] := ⟨_, rfl, ro_nil _ _⟩
theorem ty121 : TyA Tryd.prog 121 true 3 := ⟨⟨_, Tryd.underlying121, rfl⟩, by kernel_rfl⟩
theorem sz121 : (Tryd.prog.info? 121).map (·.size) = some 3 := by kernel_rfl
theorem zr121 : (Tryd.prog.info? 121).bind (·.zero) = some (.agg #[.slice none 0 0, .slice none 0 0, .slice none 0 0]) := by kernel_rfl
theorem ti121 : TI Tryd.prog 121 3 72 (.agg #[.slice none 0 0, .slice none 0 0, .slice none 0 0]) := ⟨by kernel_rfl⟩
theorem zp121 (H : Hp) : (k_best_way).rep H (Value.cells (.agg #[.slice none 0 0, .slice none 0 0, .slice none 0 0])).toList (⟨[], [], []⟩ : best_way) := k_best_way_in (x := ⟨[], [], []⟩) (ro_nil _ _) (ro_nil _ _) (ro_nil _ _)
theorem co8 : CallOk Tryd.prog 8 := ⟨_, Tryd.func8, by decide, rfl⟩
theorem co13 : CallOk Tryd.prog 13 := ⟨_, Tryd.func13, by decide, rfl⟩
theorem co14 : CallOk Tryd.prog 14 := ⟨_, Tryd.func14, by decide, rfl⟩
theorem co15 : CallOk Tryd.prog 15 := ⟨_, Tryd.func15, by decide, rfl⟩
theorem co16 : CallOk Tryd.prog 16 := ⟨_, Tryd.func16, by decide, rfl⟩
theorem co17 : CallOk Tryd.prog 17 := ⟨_, Tryd.func17, by decide, rfl⟩
theorem co18 : CallOk Tryd.prog 18 := ⟨_, Tryd.func18, by decide, rfl⟩
theorem co21 : CallOk Tryd.prog 21 := ⟨_, Tryd.func21, by decide, rfl⟩
theorem co24 : CallOk Tryd.prog 24 := ⟨_, Tryd.func24, by decide, rfl⟩
theorem co25 : CallOk Tryd.prog 25 := ⟨_, Tryd.func25, by decide, rfl⟩
theorem co26 : CallOk Tryd.prog 26 := ⟨_, Tryd.func26, by decide, rfl⟩
theorem co27 : CallOk Tryd.prog 27 := ⟨_, Tryd.func27, by decide, rfl⟩
theorem co28 : CallOk Tryd.prog 28 := ⟨_, Tryd.func28, by decide, rfl⟩
theorem co29 : CallOk Tryd.prog 29 := ⟨_, Tryd.func29, by decide, rfl⟩
theorem co30 : CallOk Tryd.prog 30 := ⟨_, Tryd.func30, by decide, rfl⟩
theorem co31 : CallOk Tryd.prog 31 := ⟨_, Tryd.func31, by decide, rfl⟩
theorem co40 : CallOk Tryd.prog 40 := ⟨_, Tryd.func40, by decide, rfl⟩
theorem co41 : CallOk Tryd.prog 41 := ⟨_, Tryd.func41, by decide, rfl⟩
theorem co42 : CallOk Tryd.prog 42 := ⟨_, Tryd.func42, by decide, rfl⟩
theorem co43 : CallOk Tryd.prog 43 := ⟨_, Tryd.func43, by decide, rfl⟩
theorem co44 : CallOk Tryd.prog 44 := ⟨_, Tryd.func44, by decide, rfl⟩
theorem co54 : CallOk Tryd.prog 54 := ⟨_, Tryd.func54, by decide, rfl⟩
theorem co55 : CallOk Tryd.prog 55 := ⟨_, Tryd.func55, by decide, rfl⟩
theorem co56 : CallOk Tryd.prog 56 := ⟨_, Tryd.func56, by decide, rfl⟩
theorem co57 : CallOk Tryd.prog 57 := ⟨_, Tryd.func57, by decide, rfl⟩
theorem co59 : CallOk Tryd.prog 59 := ⟨_, Tryd.func59, by decide, rfl⟩
theorem co60 : CallOk Tryd.prog 60 := ⟨_, Tryd.func60, by decide, rfl⟩
theorem co63 : CallOk Tryd.prog 63 := ⟨_, Tryd.func63, by decide, rfl⟩
theorem fn_4 : Tryd.prog.funcs[4]? = some Tryd.f4 := Tryd.func4
theorem rs_4 : Tryd.f4.results = ⟨[.tmp 2]⟩ := rfl
theorem nt_4 : Tryd.f4.ntmps = 83 := rfl
theorem fn_8 : Tryd.prog.funcs[8]? = some Tryd.f8 := Tryd.func8
theorem rs_8 : Tryd.f8.results = ⟨[.tmp 2]⟩ := rfl
theorem nt_8 : Tryd.f8.ntmps = 77 := rfl
theorem fn_13 : Tryd.prog.funcs[13]? = some Tryd.f13 := Tryd.func13
theorem rs_13 : Tryd.f13.results = ⟨[.tmp 0]⟩ := rfl
theorem nt_13 : Tryd.f13.ntmps = 78 := rfl
theorem fn_14 : Tryd.prog.funcs[14]? = some Tryd.f14 := Tryd.func14
theorem rs_14 : Tryd.f14.results = ⟨[.tmp 2, .tmp 3, .tmp 4]⟩ := rfl
theorem nt_14 : Tryd.f14.ntmps = 56 := rfl
theorem fn_16 : Tryd.prog.funcs[16]? = some Tryd.f16 := Tryd.func16
theorem rs_16 : Tryd.f16.results = ⟨[.tmp 4, .tmp 5]⟩ := rfl
theorem nt_16 : Tryd.f16.ntmps = 82 := rfl
theorem fn_17 : Tryd.prog.funcs[17]? = some Tryd.f17 := Tryd.func17
theorem rs_17 : Tryd.f17.results = ⟨[.tmp 2]⟩ := rfl
theorem nt_17 : Tryd.f17.ntmps = 8 := rfl
theorem fn_18 : Tryd.prog.funcs[18]? = some Tryd.f18 := Tryd.func18
theorem rs_18 : Tryd.f18.results = ⟨[.tmp 8, .tmp 9]⟩ := rfl
theorem nt_18 : Tryd.f18.ntmps = 82 := rfl
theorem fn_21 : Tryd.prog.funcs[21]? = some Tryd.f21 := Tryd.func21
theorem rs_21 : Tryd.f21.results = ⟨[.tmp 2]⟩ := rfl
theorem nt_21 : Tryd.f21.ntmps = 58 := rfl
theorem fn_24 : Tryd.prog.funcs[24]? = some Tryd.f24 := Tryd.func24
theorem rs_24 : Tryd.f24.results = ⟨[.tmp 2, .tmp 3, .tmp 4]⟩ := rfl
theorem nt_24 : Tryd.f24.ntmps = 30 := rfl
theorem fn_25 : Tryd.prog.funcs[25]? = some Tryd.f25 := Tryd.func25
theorem rs_25 : Tryd.f25.results = ⟨[.tmp 2, .tmp 3]⟩ := rfl
theorem nt_25 : Tryd.f25.ntmps = 26 := rfl
theorem fn_26 : Tryd.prog.funcs[26]? = some Tryd.f26 := Tryd.func26
theorem rs_26 : Tryd.f26.results = ⟨[.tmp 4]⟩ := rfl
theorem nt_26 : Tryd.f26.ntmps = 48 := rfl
theorem fn_27 : Tryd.prog.funcs[27]? = some Tryd.f27 := Tryd.func27
theorem rs_27 : Tryd.f27.results = ⟨[.tmp 6]⟩ := rfl
theorem nt_27 : Tryd.f27.ntmps = 74 := rfl
theorem fn_28 : Tryd.prog.funcs[28]? = some Tryd.f28 := Tryd.func28
theorem rs_28 : Tryd.f28.results = ⟨[.tmp 2]⟩ := rfl
theorem nt_28 : Tryd.f28.ntmps = 12 := rfl
theorem fn_29 : Tryd.prog.funcs[29]? = some Tryd.f29 := Tryd.func29
theorem rs_29 : Tryd.f29.results = ⟨[.tmp 2]⟩ := rfl
theorem nt_29 : Tryd.f29.ntmps = 59 := rfl
theorem fn_30 : Tryd.prog.funcs[30]? = some Tryd.f30 := Tryd.func30
theorem rs_30 : Tryd.f30.results = ⟨[.tmp 4]⟩ := rfl
theorem nt_30 : Tryd.f30.ntmps = 9 := rfl
theorem fn_31 : Tryd.prog.funcs[31]? = some Tryd.f31 := Tryd.func31
theorem rs_31 : Tryd.f31.results = ⟨[.tmp 6]⟩ := rfl
theorem nt_31 : Tryd.f31.ntmps = 45 := rfl
theorem fn_40 : Tryd.prog.funcs[40]? = some Tryd.f40 := Tryd.func40
theorem rs_40 : Tryd.f40.results = ⟨[.tmp 2]⟩ := rfl
theorem nt_40 : Tryd.f40.ntmps = 8 := rfl
theorem fn_41 : Tryd.prog.funcs[41]? = some Tryd.f41 := Tryd.func41
theorem rs_41 : Tryd.f41.results = ⟨[]⟩ := rfl
theorem nt_41 : Tryd.f41.ntmps = 110 := rfl
theorem fn_42 : Tryd.prog.funcs[42]? = some Tryd.f42 := Tryd.func42
theorem rs_42 : Tryd.f42.results = ⟨[.tmp 4, .tmp 5]⟩ := rfl
theorem nt_42 : Tryd.f42.ntmps = 30 := rfl
theorem fn_43 : Tryd.prog.funcs[43]? = some Tryd.f43 := Tryd.func43
theorem rs_43 : Tryd.f43.results = ⟨[.tmp 4]⟩ := rfl
theorem nt_43 : Tryd.f43.ntmps = 9 := rfl
theorem fn_44 : Tryd.prog.funcs[44]? = some Tryd.f44 := Tryd.func44
theorem rs_44 : Tryd.f44.results = ⟨[.tmp 3]⟩ := rfl
theorem nt_44 : Tryd.f44.ntmps = 11 := rfl
theorem fn_54 : Tryd.prog.funcs[54]? = some Tryd.f54 := Tryd.func54
theorem rs_54 : Tryd.f54.results = ⟨[.tmp 4]⟩ := rfl
theorem nt_54 : Tryd.f54.ntmps = 48 := rfl
theorem fn_55 : Tryd.prog.funcs[55]? = some Tryd.f55 := Tryd.func55
theorem rs_55 : Tryd.f55.results = ⟨[]⟩ := rfl
theorem nt_55 : Tryd.f55.ntmps = 83 := rfl
theorem fn_56 : Tryd.prog.funcs[56]? = some Tryd.f56 := Tryd.func56
theorem rs_56 : Tryd.f56.results = ⟨[.tmp 2]⟩ := rfl
theorem nt_56 : Tryd.f56.ntmps = 42 := rfl
theorem fn_57 : Tryd.prog.funcs[57]? = some Tryd.f57 := Tryd.func57
theorem rs_57 : Tryd.f57.results = ⟨[]⟩ := rfl
theorem nt_57 : Tryd.f57.ntmps = 74 := rfl
theorem fn_58 : Tryd.prog.funcs[58]? = some Tryd.f58 := Tryd.func58
theorem rs_58 : Tryd.f58.results = ⟨[.tmp 4, .tmp 5]⟩ := rfl
theorem nt_58 : Tryd.f58.ntmps = 17 := rfl
theorem fn_59 : Tryd.prog.funcs[59]? = some Tryd.f59 := Tryd.func59
theorem rs_59 : Tryd.f59.results = ⟨[.tmp 4, .tmp 5]⟩ := rfl
theorem nt_59 : Tryd.f59.ntmps = 51 := rfl
theorem fn_60 : Tryd.prog.funcs[60]? = some Tryd.f60 := Tryd.func60
theorem rs_60 : Tryd.f60.results = ⟨[.tmp 4]⟩ := rfl
theorem nt_60 : Tryd.f60.ntmps = 19 := rfl
theorem fn_63 : Tryd.prog.funcs[63]? = some Tryd.f63 := Tryd.func63
theorem rs_63 : Tryd.f63.results = ⟨[.tmp 6, .tmp 7]⟩ := rfl
theorem nt_63 : Tryd.f63.ntmps = 52 := rfl
theorem mixed : Tryd.prog.follows .mixedOrders = true := by kernel_rfl
def GH (H : Hp) : Prop := ∃ o, H.at_ 0 = some o ∧ ∀ w : World, w.heap[0]? = some o → GG w
theorem GH.mono {H H' : Hp} (h : GH H) (hle : H.le H') : GH H' := let ⟨o, h1, h2⟩ := h; ⟨o, hle.at_ 0 o h1, h2⟩
theorem gh_of {W : World} (h : GG W) : GH (snap W) := by
 unfold GG at h
 have h1 := h
 unfold World.cell? at h1
 split at h1
 · rename_i c1 T fz hh
   refine ⟨_, hh, fun w hw => ?_⟩
   show w.cell? _ = _
   unfold World.cell?
   rw [hw]; exact h1
 · cases h1
def errN (e : Option Int) : Int := e.getD 0
theorem num7.calls {H : Hp} {L : Items} {e : Option Int} (hG : GH H) (he : some (errN e) = some (errN e)) : Ct Tryd.prog 7 ⟨[errV 51 e]⟩ H L (fun v H' L' => L = L' ∧ H = H' ∧ v = .int .i64 (errN e)) := Ct.of_calls fun w hw => by
 obtain ⟨o, h1, h2⟩ := hG
 have hg := h2 w (hw.good 0 o h1)
 have this : Calls Tryd.prog 7 #[errV 51 e] w fun ev w' => ev = .returned (.int .i64 (e.getD 0)) ∧ Below w.heap.size w w' := by
  cases e with
  | none => exact num7_any none w hg
  | some c => exact num7_any (some c) w hg
 refine this.mono ?_
 rintro ev w' ⟨rfl, hb⟩
 exact ⟨_, _, _, rfl, hw.below hb, rfl, rfl, rfl⟩
theorem num15.calls {H : Hp} {L : Items} {e : Option Int} (hG : GH H) (he : some (errN e) = some (errN e)) : Ct Tryd.prog 15 ⟨[errV 51 e]⟩ H L (fun v H' L' => L = L' ∧ H = H' ∧ v = .int .i64 (errN e)) := Ct.of_calls fun w hw => by
 obtain ⟨o, h1, h2⟩ := hG
 have hg := h2 w (hw.good 0 o h1)
 have this : Calls Tryd.prog 15 #[errV 51 e] w fun ev w' => ev = .returned (.int .i64 (e.getD 0)) ∧ Below w.heap.size w w' := by
  cases e with
  | none => exact num15_any none w hg
  | some c => exact num15_any (some c) w hg
 refine this.mono ?_
 rintro ev w' ⟨rfl, hb⟩
 exact ⟨_, _, _, rfl, hw.below hb, rfl, rfl, rfl⟩

end Go.Proofs.YtacbficpehmlnaaDoor.GBN
