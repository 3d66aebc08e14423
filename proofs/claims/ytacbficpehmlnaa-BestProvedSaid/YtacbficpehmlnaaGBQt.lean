/- printed by gen.py -/
import Derived.Test.YtacbficpehmlnaaGBQk15
namespace Go.Proofs.Ytacbficpehmlnaa.GBQ
open Go Go.RowKit Go.Proofs.YtacbficpehmlnaaK Go.Proofs.Ytacbficpehmlnaa
set_option linter.unusedVariables false
set_option linter.unusedSimpArgs false
def str_0 : ByteArray := ⟨#[99, 97, 110, 110, 111, 116, 32, 98, 101, 32, 110, 101, 103, 97, 116, 105, 118, 101]⟩
def str_1 : ByteArray := ⟨#[116, 104, 101, 32, 114, 101, 115, 117, 108, 116, 32, 111, 102, 32, 40, 108, 101, 110, 40, 120, 41, 32, 42, 32, 99, 111, 117, 110, 116, 41, 32, 111, 118, 101, 114, 102, 108, 111, 119, 115]⟩
structure cost_Costs where
 f_Rows : List (List Int)
 f_Miss : Int
instance : Inhabited cost_Costs := ⟨⟨[], 0⟩⟩
def k_cost_Costs : Kd cost_Costs := Kd.map (fun s => (s.f_Rows, s.f_Miss)) (Kd.pair (Kd.slice (Kd.slice kI64)) kI64)
theorem k_cost_Costs_out {H : Hp} {cs : List Value} {x : cost_Costs} (h : k_cost_Costs.rep H cs x) : ∃ v0, cs = [v0, .int .i64 x.f_Miss] ∧ Ro (Kd.slice kI64) H v0 x.f_Rows := by
 obtain ⟨_, _, rfl, ⟨v0, rfl, h0⟩, rfl⟩ := (show ((Kd.pair (Kd.slice (Kd.slice kI64)) kI64)).rep H cs ((x.f_Rows, x.f_Miss)) from h)
 exact ⟨v0, rfl, h0⟩
theorem k_cost_Costs_in {H : Hp} {v0 : Value} {x : cost_Costs} (h0 : Ro (Kd.slice kI64) H v0 x.f_Rows) : k_cost_Costs.rep H [v0, .int .i64 x.f_Miss] x :=
 (show ((Kd.pair (Kd.slice (Kd.slice kI64)) kI64)).rep H _ ((x.f_Rows, x.f_Miss)) from ⟨[v0], [.int .i64 x.f_Miss], rfl, ⟨v0, rfl, h0⟩, rfl⟩)
structure best_search where
 f_c : cost_Costs
 f_tracks : Int
 f_plots : Int
 f_u : List Int
 f_v : List Int
 f_owner : List Int
instance : Inhabited best_search := ⟨⟨(⟨[], 0⟩ : cost_Costs), 0, 0, [], [], []⟩⟩
def k_best_search : Kd best_search := Kd.map (fun s => (s.f_c, (s.f_tracks, (s.f_plots, (s.f_u, (s.f_v, s.f_owner)))))) (Kd.pair k_cost_Costs (Kd.pair kI64 (Kd.pair kI64 (Kd.pair (Kd.slice kI64) (Kd.pair (Kd.slice kI64) (Kd.slice kI64))))))
theorem k_best_search_out {H : Hp} {cs : List Value} {x : best_search} (h : k_best_search.rep H cs x) : ∃ v0, ∃ v1, ∃ v2, ∃ v3, cs = [v0, .int .i64 x.f_c.f_Miss, .int .i64 x.f_tracks, .int .i64 x.f_plots, v1, v2, v3] ∧ Ro (Kd.slice kI64) H v0 x.f_c.f_Rows ∧ Ro kI64 H v1 x.f_u ∧ Ro kI64 H v2 x.f_v ∧ Ro kI64 H v3 x.f_owner := by
 obtain ⟨_, _, rfl, q1, ⟨_, _, rfl, rfl, ⟨_, _, rfl, rfl, ⟨_, _, rfl, ⟨v1, rfl, h1⟩, ⟨_, _, rfl, ⟨v2, rfl, h2⟩, ⟨v3, rfl, h3⟩⟩⟩⟩⟩⟩ := (show ((Kd.pair k_cost_Costs (Kd.pair kI64 (Kd.pair kI64 (Kd.pair (Kd.slice kI64) (Kd.pair (Kd.slice kI64) (Kd.slice kI64))))))).rep H cs ((x.f_c, (x.f_tracks, (x.f_plots, (x.f_u, (x.f_v, x.f_owner)))))) from h)
 obtain ⟨v0, rfl, h0⟩ := k_cost_Costs_out q1
 exact ⟨v0, v1, v2, v3, rfl, h0, h1, h2, h3⟩
theorem k_best_search_in {H : Hp} {v0 : Value} {v1 : Value} {v2 : Value} {v3 : Value} {x : best_search} (h0 : Ro (Kd.slice kI64) H v0 x.f_c.f_Rows) (h1 : Ro kI64 H v1 x.f_u) (h2 : Ro kI64 H v2 x.f_v) (h3 : Ro kI64 H v3 x.f_owner) : k_best_search.rep H [v0, .int .i64 x.f_c.f_Miss, .int .i64 x.f_tracks, .int .i64 x.f_plots, v1, v2, v3] x :=
 (show ((Kd.pair k_cost_Costs (Kd.pair kI64 (Kd.pair kI64 (Kd.pair (Kd.slice kI64) (Kd.pair (Kd.slice kI64) (Kd.slice kI64))))))).rep H _ ((x.f_c, (x.f_tracks, (x.f_plots, (x.f_u, (x.f_v, x.f_owner)))))) from ⟨[v0, .int .i64 x.f_c.f_Miss], [.int .i64 x.f_tracks, .int .i64 x.f_plots, v1, v2, v3], rfl, (k_cost_Costs_in h0), ⟨[.int .i64 x.f_tracks], [.int .i64 x.f_plots, v1, v2, v3], rfl, rfl, ⟨[.int .i64 x.f_plots], [v1, v2, v3], rfl, rfl, ⟨[v1], [v2, v3], rfl, ⟨v1, rfl, h1⟩, ⟨[v2], [v3], rfl, ⟨v2, rfl, h2⟩, ⟨v3, rfl, h3⟩⟩⟩⟩⟩⟩)
structure best_way where
 f_far : List Int
 f_from : List Int
 f_done : List Bool
instance : Inhabited best_way := ⟨⟨[], [], []⟩⟩
def k_best_way : Kd best_way := Kd.map (fun s => (s.f_far, (s.f_from, s.f_done))) (Kd.pair (Kd.slice kI64) (Kd.pair (Kd.slice kI64) (Kd.slice Kd.bool)))
theorem k_best_way_out {H : Hp} {cs : List Value} {x : best_way} (h : k_best_way.rep H cs x) : ∃ v0, ∃ v1, ∃ v2, cs = [v0, v1, v2] ∧ Ro kI64 H v0 x.f_far ∧ Ro kI64 H v1 x.f_from ∧ Ro Kd.bool H v2 x.f_done := by
 obtain ⟨_, _, rfl, ⟨v0, rfl, h0⟩, ⟨_, _, rfl, ⟨v1, rfl, h1⟩, ⟨v2, rfl, h2⟩⟩⟩ := (show ((Kd.pair (Kd.slice kI64) (Kd.pair (Kd.slice kI64) (Kd.slice Kd.bool)))).rep H cs ((x.f_far, (x.f_from, x.f_done))) from h)
 exact ⟨v0, v1, v2, rfl, h0, h1, h2⟩
theorem k_best_way_in {H : Hp} {v0 : Value} {v1 : Value} {v2 : Value} {x : best_way} (h0 : Ro kI64 H v0 x.f_far) (h1 : Ro kI64 H v1 x.f_from) (h2 : Ro Kd.bool H v2 x.f_done) : k_best_way.rep H [v0, v1, v2] x :=
 (show ((Kd.pair (Kd.slice kI64) (Kd.pair (Kd.slice kI64) (Kd.slice Kd.bool)))).rep H _ ((x.f_far, (x.f_from, x.f_done))) from ⟨[v0], [v1, v2], rfl, ⟨v0, rfl, h0⟩, ⟨[v1], [v2], rfl, ⟨v1, rfl, h1⟩, ⟨v2, rfl, h2⟩⟩⟩)
structure radomeref20_Costs where
 f_Rows : List (List Int)
 f_Miss : Int
instance : Inhabited radomeref20_Costs := ⟨⟨[], 0⟩⟩
def k_radomeref20_Costs : Kd radomeref20_Costs := Kd.map (fun s => (s.f_Rows, s.f_Miss)) (Kd.pair (Kd.slice (Kd.slice kI64)) kI64)
theorem k_radomeref20_Costs_out {H : Hp} {cs : List Value} {x : radomeref20_Costs} (h : k_radomeref20_Costs.rep H cs x) : ∃ v0, cs = [v0, .int .i64 x.f_Miss] ∧ Ro (Kd.slice kI64) H v0 x.f_Rows := by
 obtain ⟨_, _, rfl, ⟨v0, rfl, h0⟩, rfl⟩ := (show ((Kd.pair (Kd.slice (Kd.slice kI64)) kI64)).rep H cs ((x.f_Rows, x.f_Miss)) from h)
 exact ⟨v0, rfl, h0⟩
theorem k_radomeref20_Costs_in {H : Hp} {v0 : Value} {x : radomeref20_Costs} (h0 : Ro (Kd.slice kI64) H v0 x.f_Rows) : k_radomeref20_Costs.rep H [v0, .int .i64 x.f_Miss] x :=
 (show ((Kd.pair (Kd.slice (Kd.slice kI64)) kI64)).rep H _ ((x.f_Rows, x.f_Miss)) from ⟨[v0], [.int .i64 x.f_Miss], rfl, ⟨v0, rfl, h0⟩, rfl⟩)
structure radomeref01_Num where
 f_Neg : Bool
 f_D : List Int
instance : Inhabited radomeref01_Num := ⟨⟨false, []⟩⟩
def k_radomeref01_Num : Kd radomeref01_Num := Kd.map (fun s => (s.f_Neg, s.f_D)) (Kd.pair Kd.bool (Kd.slice kI64))
theorem k_radomeref01_Num_out {H : Hp} {cs : List Value} {x : radomeref01_Num} (h : k_radomeref01_Num.rep H cs x) : ∃ v0, cs = [.bool x.f_Neg, v0] ∧ Ro kI64 H v0 x.f_D := by
 obtain ⟨_, _, rfl, rfl, ⟨v0, rfl, h0⟩⟩ := (show ((Kd.pair Kd.bool (Kd.slice kI64))).rep H cs ((x.f_Neg, x.f_D)) from h)
 exact ⟨v0, rfl, h0⟩
theorem k_radomeref01_Num_in {H : Hp} {v0 : Value} {x : radomeref01_Num} (h0 : Ro kI64 H v0 x.f_D) : k_radomeref01_Num.rep H [.bool x.f_Neg, v0] x :=
 (show ((Kd.pair Kd.bool (Kd.slice kI64))).rep H _ ((x.f_Neg, x.f_D)) from ⟨[.bool x.f_Neg], [v0], rfl, rfl, ⟨v0, rfl, h0⟩⟩)
structure auction_sale where
 f_c : cost_Costs
 f_scale : Int
 f_prices : List Int
 f_owners : List Int
 f_has : List Int
 f_waits : List Int
 f_bids : Int
instance : Inhabited auction_sale := ⟨⟨(⟨[], 0⟩ : cost_Costs), 0, [], [], [], [], 0⟩⟩
def k_auction_sale : Kd auction_sale := Kd.map (fun s => (s.f_c, (s.f_scale, (s.f_prices, (s.f_owners, (s.f_has, (s.f_waits, s.f_bids))))))) (Kd.pair k_cost_Costs (Kd.pair kI64 (Kd.pair (Kd.slice kI64) (Kd.pair (Kd.slice kI64) (Kd.pair (Kd.slice kI64) (Kd.pair (Kd.slice kI64) kI64))))))
theorem k_auction_sale_out {H : Hp} {cs : List Value} {x : auction_sale} (h : k_auction_sale.rep H cs x) : ∃ v0, ∃ v1, ∃ v2, ∃ v3, ∃ v4, cs = [v0, .int .i64 x.f_c.f_Miss, .int .i64 x.f_scale, v1, v2, v3, v4, .int .i64 x.f_bids] ∧ Ro (Kd.slice kI64) H v0 x.f_c.f_Rows ∧ Ro kI64 H v1 x.f_prices ∧ Ro kI64 H v2 x.f_owners ∧ Ro kI64 H v3 x.f_has ∧ Ro kI64 H v4 x.f_waits := by
 obtain ⟨_, _, rfl, q1, ⟨_, _, rfl, rfl, ⟨_, _, rfl, ⟨v1, rfl, h1⟩, ⟨_, _, rfl, ⟨v2, rfl, h2⟩, ⟨_, _, rfl, ⟨v3, rfl, h3⟩, ⟨_, _, rfl, ⟨v4, rfl, h4⟩, rfl⟩⟩⟩⟩⟩⟩ := (show ((Kd.pair k_cost_Costs (Kd.pair kI64 (Kd.pair (Kd.slice kI64) (Kd.pair (Kd.slice kI64) (Kd.pair (Kd.slice kI64) (Kd.pair (Kd.slice kI64) kI64))))))).rep H cs ((x.f_c, (x.f_scale, (x.f_prices, (x.f_owners, (x.f_has, (x.f_waits, x.f_bids))))))) from h)
 obtain ⟨v0, rfl, h0⟩ := k_cost_Costs_out q1
 exact ⟨v0, v1, v2, v3, v4, rfl, h0, h1, h2, h3, h4⟩
theorem k_auction_sale_in {H : Hp} {v0 : Value} {v1 : Value} {v2 : Value} {v3 : Value} {v4 : Value} {x : auction_sale} (h0 : Ro (Kd.slice kI64) H v0 x.f_c.f_Rows) (h1 : Ro kI64 H v1 x.f_prices) (h2 : Ro kI64 H v2 x.f_owners) (h3 : Ro kI64 H v3 x.f_has) (h4 : Ro kI64 H v4 x.f_waits) : k_auction_sale.rep H [v0, .int .i64 x.f_c.f_Miss, .int .i64 x.f_scale, v1, v2, v3, v4, .int .i64 x.f_bids] x :=
 (show ((Kd.pair k_cost_Costs (Kd.pair kI64 (Kd.pair (Kd.slice kI64) (Kd.pair (Kd.slice kI64) (Kd.pair (Kd.slice kI64) (Kd.pair (Kd.slice kI64) kI64))))))).rep H _ ((x.f_c, (x.f_scale, (x.f_prices, (x.f_owners, (x.f_has, (x.f_waits, x.f_bids))))))) from ⟨[v0, .int .i64 x.f_c.f_Miss], [.int .i64 x.f_scale, v1, v2, v3, v4, .int .i64 x.f_bids], rfl, (k_cost_Costs_in h0), ⟨[.int .i64 x.f_scale], [v1, v2, v3, v4, .int .i64 x.f_bids], rfl, rfl, ⟨[v1], [v2, v3, v4, .int .i64 x.f_bids], rfl, ⟨v1, rfl, h1⟩, ⟨[v2], [v3, v4, .int .i64 x.f_bids], rfl, ⟨v2, rfl, h2⟩, ⟨[v3], [v4, .int .i64 x.f_bids], rfl, ⟨v3, rfl, h3⟩, ⟨[v4], [.int .i64 x.f_bids], rfl, ⟨v4, rfl, h4⟩, rfl⟩⟩⟩⟩⟩⟩)
theorem ty2 : TyA Try.prog 2 false 1 := ⟨⟨_, Try.underlying2, rfl⟩, by kernel_rfl⟩
theorem sz2 : (Try.prog.info? 2).map (·.size) = some 1 := by kernel_rfl
theorem zr2 : (Try.prog.info? 2).bind (·.zero) = some (.int .i64 0) := by kernel_rfl
theorem ti2 : TI Try.prog 2 1 8 (.int .i64 0) := ⟨by kernel_rfl⟩
theorem zp2 (H : Hp) : (kI64).rep H (Value.cells (.int .i64 0)).toList 0 := rfl
theorem ty3 : TyA Try.prog 3 false 1 := ⟨⟨_, Try.underlying3, rfl⟩, by kernel_rfl⟩
theorem sz3 : (Try.prog.info? 3).map (·.size) = some 1 := by kernel_rfl
theorem zr3 : (Try.prog.info? 3).bind (·.zero) = some (.int .i64 0) := by kernel_rfl
theorem ti3 : TI Try.prog 3 1 8 (.int .i64 0) := ⟨by kernel_rfl⟩
theorem zp3 (H : Hp) : (kI64).rep H (Value.cells (.int .i64 0)).toList 0 := rfl
theorem ty4 : TyA Try.prog 4 false 1 := ⟨⟨_, Try.underlying4, rfl⟩, by kernel_rfl⟩
theorem sz4 : (Try.prog.info? 4).map (·.size) = some 1 := by kernel_rfl
theorem zr4 : (Try.prog.info? 4).bind (·.zero) = some (.bool false) := by kernel_rfl
theorem ti4 : TI Try.prog 4 1 1 (.bool false) := ⟨by kernel_rfl⟩
theorem zp4 (H : Hp) : (Kd.bool).rep H (Value.cells (.bool false)).toList false := rfl
theorem ty22 : TyA Try.prog 22 false 1 := ⟨⟨_, Try.underlying22, rfl⟩, by kernel_rfl⟩
theorem sz22 : (Try.prog.info? 22).map (·.size) = some 1 := by kernel_rfl
theorem zr22 : (Try.prog.info? 22).bind (·.zero) = some (.slice none 0 0) := by kernel_rfl
theorem ti22 : TI Try.prog 22 1 24 (.slice none 0 0) := ⟨by kernel_rfl⟩
theorem zp22 (H : Hp) : ((Kd.slice (Kd.slice kI64))).rep H (Value.cells (.slice none 0 0)).toList [] := ⟨_, rfl, ro_nil _ _⟩
theorem ty24 : TyA Try.prog 24 true 2 := ⟨⟨_, Try.underlying24, rfl⟩, by kernel_rfl⟩
theorem sz24 : (Try.prog.info? 24).map (·.size) = some 2 := by kernel_rfl
theorem zr24 : (Try.prog.info? 24).bind (·.zero) = some (.agg #[.slice none 0 0, .int .i64 0]) := by kernel_rfl
theorem ti24 : TI Try.prog 24 2 32 (.agg #[.slice none 0 0, .int .i64 0]) := ⟨by kernel_rfl⟩
theorem zp24 (H : Hp) : (k_radomeref20_Costs).rep H (Value.cells (.agg #[.slice none 0 0, .int .i64 0])).toList (⟨[], 0⟩ : radomeref20_Costs) := k_radomeref20_Costs_in (x := ⟨[], 0⟩) (ro_nil _ _)
theorem ty25 : TyA Try.prog 25 true 2 := ⟨⟨_, Try.underlying25, rfl⟩, by kernel_rfl⟩
theorem sz25 : (Try.prog.info? 25).map (·.size) = some 2 := by kernel_rfl
theorem zr25 : (Try.prog.info? 25).bind (·.zero) = some (.agg #[.slice none 0 0, .int .i64 0]) := by kernel_rfl
theorem ti25 : TI Try.prog 25 2 32 (.agg #[.slice none 0 0, .int .i64 0]) := ⟨by kernel_rfl⟩
theorem zp25 (H : Hp) : (k_cost_Costs).rep H (Value.cells (.agg #[.slice none 0 0, .int .i64 0])).toList (⟨[], 0⟩ : cost_Costs) := k_cost_Costs_in (x := ⟨[], 0⟩) (ro_nil _ _)
theorem ty29 : TyA Try.prog 29 false 1 := ⟨⟨_, Try.underlying29, rfl⟩, by kernel_rfl⟩
theorem sz29 : (Try.prog.info? 29).map (·.size) = some 1 := by kernel_rfl
theorem zr29 : (Try.prog.info? 29).bind (·.zero) = some (.slice none 0 0) := by kernel_rfl
theorem ti29 : TI Try.prog 29 1 24 (.slice none 0 0) := ⟨by kernel_rfl⟩
theorem zp29 (H : Hp) : ((Kd.slice kI64)).rep H (Value.cells (.slice none 0 0)).toList [] := ⟨_, rfl, ro_nil _ _⟩
theorem ty31 : TyA Try.prog 31 false 1 := ⟨⟨_, Try.underlying31, rfl⟩, by kernel_rfl⟩
theorem sz31 : (Try.prog.info? 31).map (·.size) = some 1 := by kernel_rfl
theorem zr31 : (Try.prog.info? 31).bind (·.zero) = some (.slice none 0 0) := by kernel_rfl
theorem ti31 : TI Try.prog 31 1 24 (.slice none 0 0) := ⟨by kernel_rfl⟩
theorem zp31 (H : Hp) : ((Kd.slice kI64)).rep H (Value.cells (.slice none 0 0)).toList [] := ⟨_, rfl, ro_nil _ _⟩
theorem ty38 : TyA Try.prog 38 false 1 := ⟨⟨_, Try.underlying38, rfl⟩, by kernel_rfl⟩
theorem sz38 : (Try.prog.info? 38).map (·.size) = some 1 := by kernel_rfl
theorem zr38 : (Try.prog.info? 38).bind (·.zero) = some (.slice none 0 0) := by kernel_rfl
theorem ti38 : TI Try.prog 38 1 24 (.slice none 0 0) := ⟨by kernel_rfl⟩
theorem zp38 (H : Hp) : ((Kd.slice Kd.bool)).rep H (Value.cells (.slice none 0 0)).toList [] := ⟨_, rfl, ro_nil _ _⟩
theorem ty53 : TyA Try.prog 53 true 8 := ⟨⟨_, Try.underlying53, rfl⟩, by kernel_rfl⟩
theorem sz53 : (Try.prog.info? 53).map (·.size) = some 8 := by kernel_rfl
theorem zr53 : (Try.prog.info? 53).bind (·.zero) = some (.agg #[.slice none 0 0, .int .i64 0, .int .i64 0, .slice none 0 0, .slice none 0 0, .slice none 0 0, .slice none 0 0, .int .i64 0]) := by kernel_rfl
theorem ti53 : TI Try.prog 53 8 144 (.agg #[.slice none 0 0, .int .i64 0, .int .i64 0, .slice none 0 0, .slice none 0 0, .slice none 0 0, .slice none 0 0, .int .i64 0]) := ⟨by kernel_rfl⟩
theorem zp53 (H : Hp) : (k_auction_sale).rep H (Value.cells (.agg #[.slice none 0 0, .int .i64 0, .int .i64 0, .slice none 0 0, .slice none 0 0, .slice none 0 0, .slice none 0 0, .int .i64 0])).toList (⟨(⟨[], 0⟩ : cost_Costs), 0, [], [], [], [], 0⟩ : auction_sale) := k_auction_sale_in (x := ⟨⟨[], 0⟩, 0, [], [], [], [], 0⟩) (ro_nil _ _) (ro_nil _ _) (ro_nil _ _) (ro_nil _ _) (ro_nil _ _)
theorem ty61 : TyA Try.prog 61 true 7 := ⟨⟨_, Try.underlying61, rfl⟩, by kernel_rfl⟩
theorem sz61 : (Try.prog.info? 61).map (·.size) = some 7 := by kernel_rfl
theorem zr61 : (Try.prog.info? 61).bind (·.zero) = some (.agg #[.slice none 0 0, .int .i64 0, .int .i64 0, .int .i64 0, .slice none 0 0, .slice none 0 0, .slice none 0 0]) := by kernel_rfl
theorem ti61 : TI Try.prog 61 7 120 (.agg #[.slice none 0 0, .int .i64 0, .int .i64 0, .int .i64 0, .slice none 0 0, .slice none 0 0, .slice none 0 0]) := ⟨by kernel_rfl⟩
theorem zp61 (H : Hp) : (k_best_search).rep H (Value.cells (.agg #[.slice none 0 0, .int .i64 0, .int .i64 0, .int .i64 0, .slice none 0 0, .slice none 0 0, .slice none 0 0])).toList (⟨(⟨[], 0⟩ : cost_Costs), 0, 0, [], [], []⟩ : best_search) := k_best_search_in (x := ⟨⟨[], 0⟩, 0, 0, [], [], []⟩) (ro_nil _ _) (ro_nil _ _) (ro_nil _ _) (ro_nil _ _)
theorem ty65 : TyA Try.prog 65 true 2 := ⟨⟨_, Try.underlying65, rfl⟩, by kernel_rfl⟩
theorem sz65 : (Try.prog.info? 65).map (·.size) = some 2 := by kernel_rfl
theorem zr65 : (Try.prog.info? 65).bind (·.zero) = some (.agg #[.bool false, .slice none 0 0]) := by kernel_rfl
theorem ti65 : TI Try.prog 65 2 32 (.agg #[.bool false, .slice none 0 0]) := ⟨by kernel_rfl⟩
theorem zp65 (H : Hp) : (k_radomeref01_Num).rep H (Value.cells (.agg #[.bool false, .slice none 0 0])).toList (⟨false, []⟩ : radomeref01_Num) := k_radomeref01_Num_in (x := ⟨false, []⟩) (ro_nil _ _)
theorem ty86 : TyA Try.prog 86 true 3 := ⟨⟨_, Try.underlying86, rfl⟩, by kernel_rfl⟩
theorem sz86 : (Try.prog.info? 86).map (·.size) = some 3 := by kernel_rfl
theorem zr86 : (Try.prog.info? 86).bind (·.zero) = some (.agg #[.slice none 0 0, .slice none 0 0, .slice none 0 0]) := by kernel_rfl
theorem ti86 : TI Try.prog 86 3 72 (.agg #[.slice none 0 0, .slice none 0 0, .slice none 0 0]) := ⟨by kernel_rfl⟩
theorem zp86 (H : Hp) : (k_best_way).rep H (Value.cells (.agg #[.slice none 0 0, .slice none 0 0, .slice none 0 0])).toList (⟨[], [], []⟩ : best_way) := k_best_way_in (x := ⟨[], [], []⟩) (ro_nil _ _) (ro_nil _ _) (ro_nil _ _)
theorem co6 : CallOk Try.prog 6 := ⟨_, Try.func6, by decide, rfl⟩
theorem co8 : CallOk Try.prog 8 := ⟨_, Try.func8, by decide, rfl⟩
theorem co9 : CallOk Try.prog 9 := ⟨_, Try.func9, by decide, rfl⟩
theorem co12 : CallOk Try.prog 12 := ⟨_, Try.func12, by decide, rfl⟩
theorem co13 : CallOk Try.prog 13 := ⟨_, Try.func13, by decide, rfl⟩
theorem co14 : CallOk Try.prog 14 := ⟨_, Try.func14, by decide, rfl⟩
theorem co15 : CallOk Try.prog 15 := ⟨_, Try.func15, by decide, rfl⟩
theorem co16 : CallOk Try.prog 16 := ⟨_, Try.func16, by decide, rfl⟩
theorem co18 : CallOk Try.prog 18 := ⟨_, Try.func18, by decide, rfl⟩
theorem co19 : CallOk Try.prog 19 := ⟨_, Try.func19, by decide, rfl⟩
theorem co20 : CallOk Try.prog 20 := ⟨_, Try.func20, by decide, rfl⟩
theorem co21 : CallOk Try.prog 21 := ⟨_, Try.func21, by decide, rfl⟩
theorem co22 : CallOk Try.prog 22 := ⟨_, Try.func22, by decide, rfl⟩
theorem co23 : CallOk Try.prog 23 := ⟨_, Try.func23, by decide, rfl⟩
theorem co24 : CallOk Try.prog 24 := ⟨_, Try.func24, by decide, rfl⟩
theorem co25 : CallOk Try.prog 25 := ⟨_, Try.func25, by decide, rfl⟩
theorem co26 : CallOk Try.prog 26 := ⟨_, Try.func26, by decide, rfl⟩
theorem co27 : CallOk Try.prog 27 := ⟨_, Try.func27, by decide, rfl⟩
theorem co28 : CallOk Try.prog 28 := ⟨_, Try.func28, by decide, rfl⟩
theorem co29 : CallOk Try.prog 29 := ⟨_, Try.func29, by decide, rfl⟩
theorem co30 : CallOk Try.prog 30 := ⟨_, Try.func30, by decide, rfl⟩
theorem co31 : CallOk Try.prog 31 := ⟨_, Try.func31, by decide, rfl⟩
theorem co32 : CallOk Try.prog 32 := ⟨_, Try.func32, by decide, rfl⟩
theorem co33 : CallOk Try.prog 33 := ⟨_, Try.func33, by decide, rfl⟩
theorem co34 : CallOk Try.prog 34 := ⟨_, Try.func34, by decide, rfl⟩
theorem co35 : CallOk Try.prog 35 := ⟨_, Try.func35, by decide, rfl⟩
theorem co36 : CallOk Try.prog 36 := ⟨_, Try.func36, by decide, rfl⟩
theorem co37 : CallOk Try.prog 37 := ⟨_, Try.func37, by decide, rfl⟩
theorem co38 : CallOk Try.prog 38 := ⟨_, Try.func38, by decide, rfl⟩
theorem co39 : CallOk Try.prog 39 := ⟨_, Try.func39, by decide, rfl⟩
theorem co40 : CallOk Try.prog 40 := ⟨_, Try.func40, by decide, rfl⟩
theorem co41 : CallOk Try.prog 41 := ⟨_, Try.func41, by decide, rfl⟩
theorem co42 : CallOk Try.prog 42 := ⟨_, Try.func42, by decide, rfl⟩
theorem co43 : CallOk Try.prog 43 := ⟨_, Try.func43, by decide, rfl⟩
theorem co44 : CallOk Try.prog 44 := ⟨_, Try.func44, by decide, rfl⟩
theorem co46 : CallOk Try.prog 46 := ⟨_, Try.func46, by decide, rfl⟩
theorem co47 : CallOk Try.prog 47 := ⟨_, Try.func47, by decide, rfl⟩
theorem co48 : CallOk Try.prog 48 := ⟨_, Try.func48, by decide, rfl⟩
theorem co49 : CallOk Try.prog 49 := ⟨_, Try.func49, by decide, rfl⟩
theorem co50 : CallOk Try.prog 50 := ⟨_, Try.func50, by decide, rfl⟩
theorem fn_5 : Try.prog.funcs[5]? = some Try.f5 := Try.func5
theorem rs_5 : Try.f5.results = ⟨[.tmp 4]⟩ := rfl
theorem nt_5 : Try.f5.ntmps = 128 := rfl
theorem fn_6 : Try.prog.funcs[6]? = some Try.f6 := Try.func6
theorem rs_6 : Try.f6.results = ⟨[.tmp 2]⟩ := rfl
theorem nt_6 : Try.f6.ntmps = 58 := rfl
theorem fn_8 : Try.prog.funcs[8]? = some Try.f8 := Try.func8
theorem rs_8 : Try.f8.results = ⟨[.tmp 2, .tmp 3, .tmp 4]⟩ := rfl
theorem nt_8 : Try.f8.ntmps = 46 := rfl
theorem fn_9 : Try.prog.funcs[9]? = some Try.f9 := Try.func9
theorem rs_9 : Try.f9.results = ⟨[.tmp 4, .tmp 5]⟩ := rfl
theorem nt_9 : Try.f9.ntmps = 82 := rfl
theorem fn_12 : Try.prog.funcs[12]? = some Try.f12 := Try.func12
theorem rs_12 : Try.f12.results = ⟨[.tmp 0]⟩ := rfl
theorem nt_12 : Try.f12.ntmps = 78 := rfl
theorem fn_13 : Try.prog.funcs[13]? = some Try.f13 := Try.func13
theorem rs_13 : Try.f13.results = ⟨[.tmp 2, .tmp 3, .tmp 4]⟩ := rfl
theorem nt_13 : Try.f13.ntmps = 56 := rfl
theorem fn_14 : Try.prog.funcs[14]? = some Try.f14 := Try.func14
theorem rs_14 : Try.f14.results = ⟨[.tmp 2, .tmp 3, .tmp 4]⟩ := rfl
theorem nt_14 : Try.f14.ntmps = 30 := rfl
theorem fn_15 : Try.prog.funcs[15]? = some Try.f15 := Try.func15
theorem rs_15 : Try.f15.results = ⟨[.tmp 8]⟩ := rfl
theorem nt_15 : Try.f15.ntmps = 123 := rfl
theorem fn_16 : Try.prog.funcs[16]? = some Try.f16 := Try.func16
theorem rs_16 : Try.f16.results = ⟨[.tmp 8, .tmp 9]⟩ := rfl
theorem nt_16 : Try.f16.ntmps = 82 := rfl
theorem fn_18 : Try.prog.funcs[18]? = some Try.f18 := Try.func18
theorem rs_18 : Try.f18.results = ⟨[.tmp 2]⟩ := rfl
theorem nt_18 : Try.f18.ntmps = 69 := rfl
theorem fn_19 : Try.prog.funcs[19]? = some Try.f19 := Try.func19
theorem rs_19 : Try.f19.results = ⟨[]⟩ := rfl
theorem nt_19 : Try.f19.ntmps = 76 := rfl
theorem fn_20 : Try.prog.funcs[20]? = some Try.f20 := Try.func20
theorem rs_20 : Try.f20.results = ⟨[.tmp 2, .tmp 3]⟩ := rfl
theorem nt_20 : Try.f20.ntmps = 26 := rfl
theorem fn_21 : Try.prog.funcs[21]? = some Try.f21 := Try.func21
theorem rs_21 : Try.f21.results = ⟨[.tmp 4]⟩ := rfl
theorem nt_21 : Try.f21.ntmps = 48 := rfl
theorem fn_22 : Try.prog.funcs[22]? = some Try.f22 := Try.func22
theorem rs_22 : Try.f22.results = ⟨[.tmp 2]⟩ := rfl
theorem nt_22 : Try.f22.ntmps = 8 := rfl
theorem fn_23 : Try.prog.funcs[23]? = some Try.f23 := Try.func23
theorem rs_23 : Try.f23.results = ⟨[.tmp 2]⟩ := rfl
theorem nt_23 : Try.f23.ntmps = 12 := rfl
theorem fn_24 : Try.prog.funcs[24]? = some Try.f24 := Try.func24
theorem rs_24 : Try.f24.results = ⟨[.cell 4 65]⟩ := rfl
theorem nt_24 : Try.f24.ntmps = 39 := rfl
theorem fn_25 : Try.prog.funcs[25]? = some Try.f25 := Try.func25
theorem rs_25 : Try.f25.results = ⟨[.cell 2 65]⟩ := rfl
theorem nt_25 : Try.f25.ntmps = 25 := rfl
theorem fn_26 : Try.prog.funcs[26]? = some Try.f26 := Try.func26
theorem rs_26 : Try.f26.results = ⟨[.tmp 4]⟩ := rfl
theorem nt_26 : Try.f26.ntmps = 9 := rfl
theorem fn_27 : Try.prog.funcs[27]? = some Try.f27 := Try.func27
theorem rs_27 : Try.f27.results = ⟨[.tmp 2]⟩ := rfl
theorem nt_27 : Try.f27.ntmps = 59 := rfl
theorem fn_28 : Try.prog.funcs[28]? = some Try.f28 := Try.func28
theorem rs_28 : Try.f28.results = ⟨[.tmp 4]⟩ := rfl
theorem nt_28 : Try.f28.ntmps = 9 := rfl
theorem fn_29 : Try.prog.funcs[29]? = some Try.f29 := Try.func29
theorem rs_29 : Try.f29.results = ⟨[.tmp 6]⟩ := rfl
theorem nt_29 : Try.f29.ntmps = 45 := rfl
theorem fn_30 : Try.prog.funcs[30]? = some Try.f30 := Try.func30
theorem rs_30 : Try.f30.results = ⟨[.tmp 4, .tmp 5, .tmp 6]⟩ := rfl
theorem nt_30 : Try.f30.ntmps = 83 := rfl
theorem fn_31 : Try.prog.funcs[31]? = some Try.f31 := Try.func31
theorem rs_31 : Try.f31.results = ⟨[]⟩ := rfl
theorem nt_31 : Try.f31.ntmps = 110 := rfl
theorem fn_32 : Try.prog.funcs[32]? = some Try.f32 := Try.func32
theorem rs_32 : Try.f32.results = ⟨[.tmp 4, .tmp 5]⟩ := rfl
theorem nt_32 : Try.f32.ntmps = 30 := rfl
theorem fn_33 : Try.prog.funcs[33]? = some Try.f33 := Try.func33
theorem rs_33 : Try.f33.results = ⟨[.cell 4 65]⟩ := rfl
theorem nt_33 : Try.f33.ntmps = 13 := rfl
theorem fn_34 : Try.prog.funcs[34]? = some Try.f34 := Try.func34
theorem rs_34 : Try.f34.results = ⟨[.tmp 4]⟩ := rfl
theorem nt_34 : Try.f34.ntmps = 52 := rfl
theorem fn_35 : Try.prog.funcs[35]? = some Try.f35 := Try.func35
theorem rs_35 : Try.f35.results = ⟨[.tmp 4]⟩ := rfl
theorem nt_35 : Try.f35.ntmps = 41 := rfl
theorem fn_36 : Try.prog.funcs[36]? = some Try.f36 := Try.func36
theorem rs_36 : Try.f36.results = ⟨[.tmp 4]⟩ := rfl
theorem nt_36 : Try.f36.ntmps = 41 := rfl
theorem fn_37 : Try.prog.funcs[37]? = some Try.f37 := Try.func37
theorem rs_37 : Try.f37.results = ⟨[.tmp 2]⟩ := rfl
theorem nt_37 : Try.f37.ntmps = 9 := rfl
theorem fn_38 : Try.prog.funcs[38]? = some Try.f38 := Try.func38
theorem rs_38 : Try.f38.results = ⟨[.cell 4 65]⟩ := rfl
theorem nt_38 : Try.f38.ntmps = 9 := rfl
theorem fn_39 : Try.prog.funcs[39]? = some Try.f39 := Try.func39
theorem rs_39 : Try.f39.results = ⟨[.tmp 4]⟩ := rfl
theorem nt_39 : Try.f39.ntmps = 9 := rfl
theorem fn_40 : Try.prog.funcs[40]? = some Try.f40 := Try.func40
theorem rs_40 : Try.f40.results = ⟨[.tmp 3]⟩ := rfl
theorem nt_40 : Try.f40.ntmps = 11 := rfl
theorem fn_41 : Try.prog.funcs[41]? = some Try.f41 := Try.func41
theorem rs_41 : Try.f41.results = ⟨[.tmp 4]⟩ := rfl
theorem nt_41 : Try.f41.ntmps = 48 := rfl
theorem fn_42 : Try.prog.funcs[42]? = some Try.f42 := Try.func42
theorem rs_42 : Try.f42.results = ⟨[]⟩ := rfl
theorem nt_42 : Try.f42.ntmps = 83 := rfl
theorem fn_43 : Try.prog.funcs[43]? = some Try.f43 := Try.func43
theorem rs_43 : Try.f43.results = ⟨[.tmp 2]⟩ := rfl
theorem nt_43 : Try.f43.ntmps = 42 := rfl
theorem fn_44 : Try.prog.funcs[44]? = some Try.f44 := Try.func44
theorem rs_44 : Try.f44.results = ⟨[]⟩ := rfl
theorem nt_44 : Try.f44.ntmps = 74 := rfl
theorem fn_45 : Try.prog.funcs[45]? = some Try.f45 := Try.func45
theorem rs_45 : Try.f45.results = ⟨[.tmp 4, .tmp 5]⟩ := rfl
theorem nt_45 : Try.f45.ntmps = 17 := rfl
theorem fn_46 : Try.prog.funcs[46]? = some Try.f46 := Try.func46
theorem rs_46 : Try.f46.results = ⟨[.tmp 4, .tmp 5]⟩ := rfl
theorem nt_46 : Try.f46.ntmps = 51 := rfl
theorem fn_47 : Try.prog.funcs[47]? = some Try.f47 := Try.func47
theorem rs_47 : Try.f47.results = ⟨[.tmp 2]⟩ := rfl
theorem nt_47 : Try.f47.ntmps = 21 := rfl
theorem fn_48 : Try.prog.funcs[48]? = some Try.f48 := Try.func48
theorem rs_48 : Try.f48.results = ⟨[.cell 2 65]⟩ := rfl
theorem nt_48 : Try.f48.ntmps = 9 := rfl
theorem fn_49 : Try.prog.funcs[49]? = some Try.f49 := Try.func49
theorem rs_49 : Try.f49.results = ⟨[.tmp 4]⟩ := rfl
theorem nt_49 : Try.f49.ntmps = 19 := rfl
theorem fn_50 : Try.prog.funcs[50]? = some Try.f50 := Try.func50
theorem rs_50 : Try.f50.results = ⟨[.tmp 6, .tmp 7]⟩ := rfl
theorem nt_50 : Try.f50.ntmps = 52 := rfl
theorem mixed : Try.prog.follows .mixedOrders = true := by kernel_rfl


end Go.Proofs.Ytacbficpehmlnaa.GBQ
