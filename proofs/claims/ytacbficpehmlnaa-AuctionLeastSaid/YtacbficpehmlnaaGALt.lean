/- printed by gen.py -/
import Derived.Test.YtacbficpehmlnaaGALk15
namespace Go.Proofs.Ytacbficpehmlnaa.GAL
open Go Go.RowKit Go.Proofs.YtacbficpehmlnaaK Go.Proofs.Ytacbficpehmlnaa
set_option linter.unusedVariables false
set_option linter.unusedSimpArgs false
structure cost_Costs where
 f_Rows : List (List Int)
 f_Miss : Int
instance : Inhabited cost_Costs := ⟨⟨[], 0⟩⟩
def k_cost_Costs : Kd cost_Costs := Kd.map (fun s => (s.f_Rows, s.f_Miss)) (Kd.pair (Kd.slice (Kd.slice kI64)) kI64)
theorem k_cost_Costs_out {H : Hp} {cs : List Value} {x : cost_Costs} (h : k_cost_Costs.rep H cs x) : ∃ v0, cs = [v0, .int .i64 x.f_Miss] ∧ Ro (Kd.slice kI64) H v0 x.f_Rows := by
 obtain ⟨_, _, rfl, ⟨v0, rfl, h0⟩, rfl⟩ := (show ((Kd.pair (Kd.slice (Kd.slice kI64)) kI64)).rep H cs ((x.f_Rows, x.f_Miss)) from h)
 exact ⟨v0, rfl, h0⟩
theorem k_cost_Costs_in {H : Hp} {v0 : Value} {x : cost_Costs} (h0 : Ro (Kd.slice kI64) H v0 x.f_Rows) : k_cost_Costs.rep H [v0, .int .i64 x.f_Miss] x :=
 (show ((Kd.pair (Kd.slice (Kd.slice kI64)) kI64)).rep H _ ((x.f_Rows, x.f_Miss)) from ⟨[v0], [.int .i64 x.f_Miss], rfl, ⟨v0, rfl, h0⟩, rfl⟩)
structure auction_sale where
 f_c : cost_Costs
 f_scale : Int
 f_prices : List Int
 f_owners : List Int
 f_has : List Int
 f_waits : List Int
 f_bids : Int
instance : Inhabited auction_sale := ⟨⟨(⟨[], 0⟩ : cost_Costs), 0, [], [], [], [], 0⟩⟩
def k_auction_sale : Kd auction_sale := Kd.map (fun s => (s.f_c, (s.f_scale, (s.f_prices, (s.f_owners, (s.f_has, (s.f_waits, s.f_bids))))))) (Kd.pair k_cost_Costs (Kd.pair kI64 (Kd.pair (Kd.slice kI64) (Kd.pair (Kd.slice kI64) (Kd.pair (Kd.slice kI64) (Kd.pair (Kd.slice kI64) kI64))))))
theorem k_auction_sale_out {H : Hp} {cs : List Value} {x : auction_sale} (h : k_auction_sale.rep H cs x) : ∃ v0, ∃ v1, ∃ v2, ∃ v3, ∃ v4, cs = [v0, .int .i64 x.f_c.f_Miss, .int .i64 x.f_scale, v1, v2, v3, v4, .int .i64 x.f_bids] ∧ Ro (Kd.slice kI64) H v0 x.f_c.f_Rows ∧ Ro kI64 H v1 x.f_prices ∧ Ro kI64 H v2 x.f_owners ∧ Ro kI64 H v3 x.f_has ∧ Ro kI64 H v4 x.f_waits := by
 obtain ⟨_, _, rfl, q1, ⟨_, _, rfl, rfl, ⟨_, _, rfl, ⟨v1, rfl, h1⟩, ⟨_, _, rfl, ⟨v2, rfl, h2⟩, ⟨_, _, rfl, ⟨v3, rfl, h3⟩, ⟨_, _, rfl, ⟨v4, rfl, h4⟩, rfl⟩⟩⟩⟩⟩⟩ := (show ((Kd.pair k_cost_Costs (Kd.pair kI64 (Kd.pair (Kd.slice kI64) (Kd.pair (Kd.slice kI64) (Kd.pair (Kd.slice kI64) (Kd.pair (Kd.slice kI64) kI64))))))).rep H cs ((x.f_c, (x.f_scale, (x.f_prices, (x.f_owners, (x.f_has, (x.f_waits, x.f_bids))))))) from h)
 obtain ⟨v0, rfl, h0⟩ := k_cost_Costs_out q1
 exact ⟨v0, v1, v2, v3, v4, rfl, h0, h1, h2, h3, h4⟩
theorem k_auction_sale_in {H : Hp} {v0 : Value} {v1 : Value} {v2 : Value} {v3 : Value} {v4 : Value} {x : auction_sale} (h0 : Ro (Kd.slice kI64) H v0 x.f_c.f_Rows) (h1 : Ro kI64 H v1 x.f_prices) (h2 : Ro kI64 H v2 x.f_owners) (h3 : Ro kI64 H v3 x.f_has) (h4 : Ro kI64 H v4 x.f_waits) : k_auction_sale.rep H [v0, .int .i64 x.f_c.f_Miss, .int .i64 x.f_scale, v1, v2, v3, v4, .int .i64 x.f_bids] x :=
 (show ((Kd.pair k_cost_Costs (Kd.pair kI64 (Kd.pair (Kd.slice kI64) (Kd.pair (Kd.slice kI64) (Kd.pair (Kd.slice kI64) (Kd.pair (Kd.slice kI64) kI64))))))).rep H _ ((x.f_c, (x.f_scale, (x.f_prices, (x.f_owners, (x.f_has, (x.f_waits, x.f_bids))))))) from ⟨[v0, .int .i64 x.f_c.f_Miss], [.int .i64 x.f_scale, v1, v2, v3, v4, .int .i64 x.f_bids], rfl, (k_cost_Costs_in h0), ⟨[.int .i64 x.f_scale], [v1, v2, v3, v4, .int .i64 x.f_bids], rfl, rfl, ⟨[v1], [v2, v3, v4, .int .i64 x.f_bids], rfl, ⟨v1, rfl, h1⟩, ⟨[v2], [v3, v4, .int .i64 x.f_bids], rfl, ⟨v2, rfl, h2⟩, ⟨[v3], [v4, .int .i64 x.f_bids], rfl, ⟨v3, rfl, h3⟩, ⟨[v4], [.int .i64 x.f_bids], rfl, ⟨v4, rfl, h4⟩, rfl⟩⟩⟩⟩⟩⟩)
structure radomeref20_Costs where
 f_Rows : List (List Int)
 f_Miss : Int
instance : Inhabited radomeref20_Costs := ⟨⟨[], 0⟩⟩
def k_radomeref20_Costs : Kd radomeref20_Costs := Kd.map (fun s => (s.f_Rows, s.f_Miss)) (Kd.pair (Kd.slice (Kd.slice kI64)) kI64)
theorem k_radomeref20_Costs_out {H : Hp} {cs : List Value} {x : radomeref20_Costs} (h : k_radomeref20_Costs.rep H cs x) : ∃ v0, cs = [v0, .int .i64 x.f_Miss] ∧ Ro (Kd.slice kI64) H v0 x.f_Rows := by
 obtain ⟨_, _, rfl, ⟨v0, rfl, h0⟩, rfl⟩ := (show ((Kd.pair (Kd.slice (Kd.slice kI64)) kI64)).rep H cs ((x.f_Rows, x.f_Miss)) from h)
 exact ⟨v0, rfl, h0⟩
theorem k_radomeref20_Costs_in {H : Hp} {v0 : Value} {x : radomeref20_Costs} (h0 : Ro (Kd.slice kI64) H v0 x.f_Rows) : k_radomeref20_Costs.rep H [v0, .int .i64 x.f_Miss] x :=
 (show ((Kd.pair (Kd.slice (Kd.slice kI64)) kI64)).rep H _ ((x.f_Rows, x.f_Miss)) from ⟨[v0], [.int .i64 x.f_Miss], rfl, ⟨v0, rfl, h0⟩, rfl⟩)
theorem ty2 : TyA Try.prog 2 false 1 := ⟨⟨_, Try.underlying2, rfl⟩, by kernel_rfl⟩
theorem sz2 : (Try.prog.info? 2).map (·.size) = some 1 := by kernel_rfl
theorem zr2 : (Try.prog.info? 2).bind (·.zero) = some (.int .i64 0) := by kernel_rfl
theorem ti2 : TI Try.prog 2 1 8 (.int .i64 0) := ⟨by kernel_rfl⟩
theorem zp2 (H : Hp) : (kI64).rep H (Value.cells (.int .i64 0)).toList 0 := rfl
theorem ty3 : TyA Try.prog 3 false 1 := ⟨⟨_, Try.underlying3, rfl⟩, by kernel_rfl⟩
theorem sz3 : (Try.prog.info? 3).map (·.size) = some 1 := by kernel_rfl
theorem zr3 : (Try.prog.info? 3).bind (·.zero) = some (.int .i64 0) := by kernel_rfl
theorem ti3 : TI Try.prog 3 1 8 (.int .i64 0) := ⟨by kernel_rfl⟩
theorem zp3 (H : Hp) : (kI64).rep H (Value.cells (.int .i64 0)).toList 0 := rfl
theorem ty4 : TyA Try.prog 4 false 1 := ⟨⟨_, Try.underlying4, rfl⟩, by kernel_rfl⟩
theorem sz4 : (Try.prog.info? 4).map (·.size) = some 1 := by kernel_rfl
theorem zr4 : (Try.prog.info? 4).bind (·.zero) = some (.bool false) := by kernel_rfl
theorem ti4 : TI Try.prog 4 1 1 (.bool false) := ⟨by kernel_rfl⟩
theorem zp4 (H : Hp) : (Kd.bool).rep H (Value.cells (.bool false)).toList false := rfl
theorem ty22 : TyA Try.prog 22 false 1 := ⟨⟨_, Try.underlying22, rfl⟩, by kernel_rfl⟩
theorem sz22 : (Try.prog.info? 22).map (·.size) = some 1 := by kernel_rfl
theorem zr22 : (Try.prog.info? 22).bind (·.zero) = some (.slice none 0 0) := by kernel_rfl
theorem ti22 : TI Try.prog 22 1 24 (.slice none 0 0) := ⟨by kernel_rfl⟩
theorem zp22 (H : Hp) : ((Kd.slice (Kd.slice kI64))).rep H (Value.cells (.slice none 0 0)).toList [] := ⟨_, rfl, ro_nil _ _⟩
theorem ty24 : TyA Try.prog 24 true 2 := ⟨⟨_, Try.underlying24, rfl⟩, by kernel_rfl⟩
theorem sz24 : (Try.prog.info? 24).map (·.size) = some 2 := by kernel_rfl
theorem zr24 : (Try.prog.info? 24).bind (·.zero) = some (.agg #[.slice none 0 0, .int .i64 0]) := by kernel_rfl
theorem ti24 : TI Try.prog 24 2 32 (.agg #[.slice none 0 0, .int .i64 0]) := ⟨by kernel_rfl⟩
theorem zp24 (H : Hp) : (k_radomeref20_Costs).rep H (Value.cells (.agg #[.slice none 0 0, .int .i64 0])).toList (⟨[], 0⟩ : radomeref20_Costs) := k_radomeref20_Costs_in (x := ⟨[], 0⟩) (ro_nil _ _)
theorem ty25 : TyA Try.prog 25 true 2 := ⟨⟨_, Try.underlying25, rfl⟩, by kernel_rfl⟩
theorem sz25 : (Try.prog.info? 25).map (·.size) = some 2 := by kernel_rfl
theorem zr25 : (Try.prog.info? 25).bind (·.zero) = some (.agg #[.slice none 0 0, .int .i64 0]) := by kernel_rfl
theorem ti25 : TI Try.prog 25 2 32 (.agg #[.slice none 0 0, .int .i64 0]) := ⟨by kernel_rfl⟩
theorem zp25 (H : Hp) : (k_cost_Costs).rep H (Value.cells (.agg #[.slice none 0 0, .int .i64 0])).toList (⟨[], 0⟩ : cost_Costs) := k_cost_Costs_in (x := ⟨[], 0⟩) (ro_nil _ _)
theorem ty29 : TyA Try.prog 29 false 1 := ⟨⟨_, Try.underlying29, rfl⟩, by kernel_rfl⟩
theorem sz29 : (Try.prog.info? 29).map (·.size) = some 1 := by kernel_rfl
theorem zr29 : (Try.prog.info? 29).bind (·.zero) = some (.slice none 0 0) := by kernel_rfl
theorem ti29 : TI Try.prog 29 1 24 (.slice none 0 0) := ⟨by kernel_rfl⟩
theorem zp29 (H : Hp) : ((Kd.slice kI64)).rep H (Value.cells (.slice none 0 0)).toList [] := ⟨_, rfl, ro_nil _ _⟩
theorem ty31 : TyA Try.prog 31 false 1 := ⟨⟨_, Try.underlying31, rfl⟩, by kernel_rfl⟩
theorem sz31 : (Try.prog.info? 31).map (·.size) = some 1 := by kernel_rfl
theorem zr31 : (Try.prog.info? 31).bind (·.zero) = some (.slice none 0 0) := by kernel_rfl
theorem ti31 : TI Try.prog 31 1 24 (.slice none 0 0) := ⟨by kernel_rfl⟩
theorem zp31 (H : Hp) : ((Kd.slice kI64)).rep H (Value.cells (.slice none 0 0)).toList [] := ⟨_, rfl, ro_nil _ _⟩
theorem ty53 : TyA Try.prog 53 true 8 := ⟨⟨_, Try.underlying53, rfl⟩, by kernel_rfl⟩
theorem sz53 : (Try.prog.info? 53).map (·.size) = some 8 := by kernel_rfl
theorem zr53 : (Try.prog.info? 53).bind (·.zero) = some (.agg #[.slice none 0 0, .int .i64 0, .int .i64 0, .slice none 0 0, .slice none 0 0, .slice none 0 0, .slice none 0 0, .int .i64 0]) := by kernel_rfl
theorem ti53 : TI Try.prog 53 8 144 (.agg #[.slice none 0 0, .int .i64 0, .int .i64 0, .slice none 0 0, .slice none 0 0, .slice none 0 0, .slice none 0 0, .int .i64 0]) := ⟨by kernel_rfl⟩
theorem zp53 (H : Hp) : (k_auction_sale).rep H (Value.cells (.agg #[.slice none 0 0, .int .i64 0, .int .i64 0, .slice none 0 0, .slice none 0 0, .slice none 0 0, .slice none 0 0, .int .i64 0])).toList (⟨(⟨[], 0⟩ : cost_Costs), 0, [], [], [], [], 0⟩ : auction_sale) := k_auction_sale_in (x := ⟨⟨[], 0⟩, 0, [], [], [], [], 0⟩) (ro_nil _ _) (ro_nil _ _) (ro_nil _ _) (ro_nil _ _) (ro_nil _ _)
theorem co6 : CallOk Try.prog 6 := ⟨_, Try.func6, by decide, rfl⟩
theorem co7 : CallOk Try.prog 7 := ⟨_, Try.func7, by decide, rfl⟩
theorem co8 : CallOk Try.prog 8 := ⟨_, Try.func8, by decide, rfl⟩
theorem co9 : CallOk Try.prog 9 := ⟨_, Try.func9, by decide, rfl⟩
theorem co10 : CallOk Try.prog 10 := ⟨_, Try.func10, by decide, rfl⟩
theorem co11 : CallOk Try.prog 11 := ⟨_, Try.func11, by decide, rfl⟩
theorem co17 : CallOk Try.prog 17 := ⟨_, Try.func17, by decide, rfl⟩
theorem co18 : CallOk Try.prog 18 := ⟨_, Try.func18, by decide, rfl⟩
theorem co19 : CallOk Try.prog 19 := ⟨_, Try.func19, by decide, rfl⟩
theorem co30 : CallOk Try.prog 30 := ⟨_, Try.func30, by decide, rfl⟩
theorem fn_3 : Try.prog.funcs[3]? = some Try.f3 := Try.func3
theorem rs_3 : Try.f3.results = ⟨[.tmp 2]⟩ := rfl
theorem nt_3 : Try.f3.ntmps = 101 := rfl
theorem fn_6 : Try.prog.funcs[6]? = some Try.f6 := Try.func6
theorem rs_6 : Try.f6.results = ⟨[.tmp 2]⟩ := rfl
theorem nt_6 : Try.f6.ntmps = 58 := rfl
theorem fn_7 : Try.prog.funcs[7]? = some Try.f7 := Try.func7
theorem rs_7 : Try.f7.results = ⟨[.tmp 0]⟩ := rfl
theorem nt_7 : Try.f7.ntmps = 43 := rfl
theorem fn_8 : Try.prog.funcs[8]? = some Try.f8 := Try.func8
theorem rs_8 : Try.f8.results = ⟨[.tmp 2, .tmp 3, .tmp 4]⟩ := rfl
theorem nt_8 : Try.f8.ntmps = 46 := rfl
theorem fn_9 : Try.prog.funcs[9]? = some Try.f9 := Try.func9
theorem rs_9 : Try.f9.results = ⟨[.tmp 4, .tmp 5]⟩ := rfl
theorem nt_9 : Try.f9.ntmps = 82 := rfl
theorem fn_10 : Try.prog.funcs[10]? = some Try.f10 := Try.func10
theorem rs_10 : Try.f10.results = ⟨[.tmp 6, .tmp 7]⟩ := rfl
theorem nt_10 : Try.f10.ntmps = 40 := rfl
theorem fn_11 : Try.prog.funcs[11]? = some Try.f11 := Try.func11
theorem rs_11 : Try.f11.results = ⟨[.tmp 6]⟩ := rfl
theorem nt_11 : Try.f11.ntmps = 74 := rfl
theorem fn_17 : Try.prog.funcs[17]? = some Try.f17 := Try.func17
theorem rs_17 : Try.f17.results = ⟨[.tmp 4]⟩ := rfl
theorem nt_17 : Try.f17.ntmps = 26 := rfl
theorem fn_18 : Try.prog.funcs[18]? = some Try.f18 := Try.func18
theorem rs_18 : Try.f18.results = ⟨[.tmp 2]⟩ := rfl
theorem nt_18 : Try.f18.ntmps = 69 := rfl
theorem fn_19 : Try.prog.funcs[19]? = some Try.f19 := Try.func19
theorem rs_19 : Try.f19.results = ⟨[]⟩ := rfl
theorem nt_19 : Try.f19.ntmps = 76 := rfl
theorem fn_30 : Try.prog.funcs[30]? = some Try.f30 := Try.func30
theorem rs_30 : Try.f30.results = ⟨[.tmp 4, .tmp 5, .tmp 6]⟩ := rfl
theorem nt_30 : Try.f30.ntmps = 83 := rfl
theorem mixed : Try.prog.follows .mixedOrders = true := by kernel_rfl


end Go.Proofs.Ytacbficpehmlnaa.GAL
