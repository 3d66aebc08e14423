/- printed by gen.py -/
import Derived.Test.YtacbficpehmlnaaDoorGARk13
import Derived.Test.YtacbficpehmlnaaDoorAs
namespace Go.Proofs.YtacbficpehmlnaaDoor.GAR
open Go Go.RowKit Go.Proofs.YtacbficpehmlnaaDoorK Go.Proofs.YtacbficpehmlnaaDoor
set_option linter.unusedVariables false
set_option linter.unusedSimpArgs false
structure radomeref20_Costs where
 f_Rows : List (List Int)
 f_Miss : Int
instance : Inhabited radomeref20_Costs := ⟨⟨[], 0⟩⟩
def k_radomeref20_Costs : Kd radomeref20_Costs := Kd.map (fun s => (s.f_Rows, s.f_Miss)) (Kd.pair (Kd.slice (Kd.slice kI64)) kI64)
theorem k_radomeref20_Costs_out {H : Hp} {cs : List Value} {x : radomeref20_Costs} (h : k_radomeref20_Costs.rep H cs x) : ∃ v0, cs = [v0, .int .i64 x.f_Miss] ∧ Ro (Kd.slice kI64) H v0 x.f_Rows := by
 obtain ⟨_, _, rfl, ⟨v0, rfl, h0⟩, rfl⟩ := (show ((Kd.pair (Kd.slice (Kd.slice kI64)) kI64)).rep H cs ((x.f_Rows, x.f_Miss)) from h)
 exact ⟨v0, rfl, h0⟩
theorem k_radomeref20_Costs_in {H : Hp} {v0 : Value} {x : radomeref20_Costs} (h0 : Ro (Kd.slice kI64) H v0 x.f_Rows) : k_radomeref20_Costs.rep H [v0, .int .i64 x.f_Miss] x :=
 (show ((Kd.pair (Kd.slice (Kd.slice kI64)) kI64)).rep H _ ((x.f_Rows, x.f_Miss)) from ⟨[v0], [.int .i64 x.f_Miss], rfl, ⟨v0, rfl, h0⟩, rfl⟩)
structure cost_Costs where
 f_Rows : List (List Int)
 f_Miss : Int
instance : Inhabited cost_Costs := ⟨⟨[], 0⟩⟩
def k_cost_Costs : Kd cost_Costs := Kd.map (fun s => (s.f_Rows, s.f_Miss)) (Kd.pair (Kd.slice (Kd.slice kI64)) kI64)
theorem k_cost_Costs_out {H : Hp} {cs : List Value} {x : cost_Costs} (h : k_cost_Costs.rep H cs x) : ∃ v0, cs = [v0, .int .i64 x.f_Miss] ∧ Ro (Kd.slice kI64) H v0 x.f_Rows := by
 obtain ⟨_, _, rfl, ⟨v0, rfl, h0⟩, rfl⟩ := (show ((Kd.pair (Kd.slice (Kd.slice kI64)) kI64)).rep H cs ((x.f_Rows, x.f_Miss)) from h)
 exact ⟨v0, rfl, h0⟩
theorem k_cost_Costs_in {H : Hp} {v0 : Value} {x : cost_Costs} (h0 : Ro (Kd.slice kI64) H v0 x.f_Rows) : k_cost_Costs.rep H [v0, .int .i64 x.f_Miss] x :=
 (show ((Kd.pair (Kd.slice (Kd.slice kI64)) kI64)).rep H _ ((x.f_Rows, x.f_Miss)) from ⟨[v0], [.int .i64 x.f_Miss], rfl, ⟨v0, rfl, h0⟩, rfl⟩)
structure auction_sale where
 f_c : cost_Costs
 f_scale : Int
 f_prices : List Int
 f_owners : List Int
 f_has : List Int
 f_waits : List Int
 f_bids : Int
instance : Inhabited auction_sale := ⟨⟨(⟨[], 0⟩ : cost_Costs), 0, [], [], [], [], 0⟩⟩
def k_auction_sale : Kd auction_sale := Kd.map (fun s => (s.f_c, (s.f_scale, (s.f_prices, (s.f_owners, (s.f_has, (s.f_waits, s.f_bids))))))) (Kd.pair k_cost_Costs (Kd.pair kI64 (Kd.pair (Kd.slice kI64) (Kd.pair (Kd.slice kI64) (Kd.pair (Kd.slice kI64) (Kd.pair (Kd.slice kI64) kI64))))))
theorem k_auction_sale_out {H : Hp} {cs : List Value} {x : auction_sale} (h : k_auction_sale.rep H cs x) : ∃ v0, ∃ v1, ∃ v2, ∃ v3, ∃ v4, cs = [v0, .int .i64 x.f_c.f_Miss, .int .i64 x.f_scale, v1, v2, v3, v4, .int .i64 x.f_bids] ∧ Ro (Kd.slice kI64) H v0 x.f_c.f_Rows ∧ Ro kI64 H v1 x.f_prices ∧ Ro kI64 H v2 x.f_owners ∧ Ro kI64 H v3 x.f_has ∧ Ro kI64 H v4 x.f_waits := by
 obtain ⟨_, _, rfl, q1, ⟨_, _, rfl, rfl, ⟨_, _, rfl, ⟨v1, rfl, h1⟩, ⟨_, _, rfl, ⟨v2, rfl, h2⟩, ⟨_, _, rfl, ⟨v3, rfl, h3⟩, ⟨_, _, rfl, ⟨v4, rfl, h4⟩, rfl⟩⟩⟩⟩⟩⟩ := (show ((Kd.pair k_cost_Costs (Kd.pair kI64 (Kd.pair (Kd.slice kI64) (Kd.pair (Kd.slice kI64) (Kd.pair (Kd.slice kI64) (Kd.pair (Kd.slice kI64) kI64))))))).rep H cs ((x.f_c, (x.f_scale, (x.f_prices, (x.f_owners, (x.f_has, (x.f_waits, x.f_bids))))))) from h)
 obtain ⟨v0, rfl, h0⟩ := k_cost_Costs_out q1
 exact ⟨v0, v1, v2, v3, v4, rfl, h0, h1, h2, h3, h4⟩
theorem k_auction_sale_in {H : Hp} {v0 : Value} {v1 : Value} {v2 : Value} {v3 : Value} {v4 : Value} {x : auction_sale} (h0 : Ro (Kd.slice kI64) H v0 x.f_c.f_Rows) (h1 : Ro kI64 H v1 x.f_prices) (h2 : Ro kI64 H v2 x.f_owners) (h3 : Ro kI64 H v3 x.f_has) (h4 : Ro kI64 H v4 x.f_waits) : k_auction_sale.rep H [v0, .int .i64 x.f_c.f_Miss, .int .i64 x.f_scale, v1, v2, v3, v4, .int .i64 x.f_bids] x :=
 (show ((Kd.pair k_cost_Costs (Kd.pair kI64 (Kd.pair (Kd.slice kI64) (Kd.pair (Kd.slice kI64) (Kd.pair (Kd.slice kI64) (Kd.pair (Kd.slice kI64) kI64))))))).rep H _ ((x.f_c, (x.f_scale, (x.f_prices, (x.f_owners, (x.f_has, (x.f_waits, x.f_bids))))))) from ⟨[v0, .int .i64 x.f_c.f_Miss], [.int .i64 x.f_scale, v1, v2, v3, v4, .int .i64 x.f_bids], rfl, (k_cost_Costs_in h0), ⟨[.int .i64 x.f_scale], [v1, v2, v3, v4, .int .i64 x.f_bids], rfl, rfl, ⟨[v1], [v2, v3, v4, .int .i64 x.f_bids], rfl, ⟨v1, rfl, h1⟩, ⟨[v2], [v3, v4, .int .i64 x.f_bids], rfl, ⟨v2, rfl, h2⟩, ⟨[v3], [v4, .int .i64 x.f_bids], rfl, ⟨v3, rfl, h3⟩, ⟨[v4], [.int .i64 x.f_bids], rfl, ⟨v4, rfl, h4⟩, rfl⟩⟩⟩⟩⟩⟩)
structure T25 where
 e0 : Int
 e1 : Int
instance : Inhabited T25 := ⟨⟨0, 0⟩⟩
def k_T25 : Kd T25 := Kd.map (fun s => (s.e0, s.e1)) (Kd.pair kI64 kI64)
theorem k_T25_out {H : Hp} {cs : List Value} {x : T25} (h : k_T25.rep H cs x) : cs = [.int .i64 x.e0, .int .i64 x.e1] := by
 obtain ⟨_, _, rfl, rfl, rfl⟩ := (show ((Kd.pair kI64 kI64)).rep H cs ((x.e0, x.e1)) from h)
 rfl
theorem k_T25_in {H : Hp} {x : T25} : k_T25.rep H [.int .i64 x.e0, .int .i64 x.e1] x :=
 (show ((Kd.pair kI64 kI64)).rep H _ ((x.e0, x.e1)) from ⟨[.int .i64 x.e0], [.int .i64 x.e1], rfl, rfl, rfl⟩)
theorem ty2 : TyA Tryd.prog 2 false 1 := ⟨⟨_, Tryd.underlying2, rfl⟩, by kernel_rfl⟩
theorem sz2 : (Tryd.prog.info? 2).map (·.size) = some 1 := by kernel_rfl
theorem zr2 : (Tryd.prog.info? 2).bind (·.zero) = some (.int .i64 0) := by kernel_rfl
theorem ti2 : TI Tryd.prog 2 1 8 (.int .i64 0) := ⟨by kernel_rfl⟩
theorem zp2 (H : Hp) : (kI64).rep H (Value.cells (.int .i64 0)).toList 0 := rfl
theorem ty3 : TyA Tryd.prog 3 false 1 := ⟨⟨_, Tryd.underlying3, rfl⟩, by kernel_rfl⟩
theorem sz3 : (Tryd.prog.info? 3).map (·.size) = some 1 := by kernel_rfl
theorem zr3 : (Tryd.prog.info? 3).bind (·.zero) = some (.int .i64 0) := by kernel_rfl
theorem ti3 : TI Tryd.prog 3 1 8 (.int .i64 0) := ⟨by kernel_rfl⟩
theorem zp3 (H : Hp) : (kI64).rep H (Value.cells (.int .i64 0)).toList 0 := rfl
theorem ty22 : TyA Tryd.prog 22 false 1 := ⟨⟨_, Tryd.underlying22, rfl⟩, by kernel_rfl⟩
theorem sz22 : (Tryd.prog.info? 22).map (·.size) = some 1 := by kernel_rfl
theorem zr22 : (Tryd.prog.info? 22).bind (·.zero) = some (.slice none 0 0) := by kernel_rfl
theorem ti22 : TI Tryd.prog 22 1 24 (.slice none 0 0) := ⟨by kernel_rfl⟩
theorem zp22 (H : Hp) : ((Kd.slice (Kd.slice kI64))).rep H (Value.cells (.slice none 0 0)).toList [] := ⟨_, rfl, ro_nil _ _⟩
theorem ty24 : TyA Tryd.prog 24 true 2 := ⟨⟨_, Tryd.underlying24, rfl⟩, by kernel_rfl⟩
theorem sz24 : (Tryd.prog.info? 24).map (·.size) = some 2 := by kernel_rfl
theorem zr24 : (Tryd.prog.info? 24).bind (·.zero) = some (.agg #[.slice none 0 0, .int .i64 0]) := by kernel_rfl
theorem ti24 : TI Tryd.prog 24 2 32 (.agg #[.slice none 0 0, .int .i64 0]) := ⟨by kernel_rfl⟩
theorem zp24 (H : Hp) : (k_radomeref20_Costs).rep H (Value.cells (.agg #[.slice none 0 0, .int .i64 0])).toList (⟨[], 0⟩ : radomeref20_Costs) := k_radomeref20_Costs_in (x := ⟨[], 0⟩) (ro_nil _ _)
theorem ty32 : TyA Tryd.prog 32 false 1 := ⟨⟨_, Tryd.underlying32, rfl⟩, by kernel_rfl⟩
theorem sz32 : (Tryd.prog.info? 32).map (·.size) = some 1 := by kernel_rfl
theorem zr32 : (Tryd.prog.info? 32).bind (·.zero) = some (.slice none 0 0) := by kernel_rfl
theorem ti32 : TI Tryd.prog 32 1 24 (.slice none 0 0) := ⟨by kernel_rfl⟩
theorem zp32 (H : Hp) : ((Kd.slice kI64)).rep H (Value.cells (.slice none 0 0)).toList [] := ⟨_, rfl, ro_nil _ _⟩
theorem ty34 : TyA Tryd.prog 34 false 1 := ⟨⟨_, Tryd.underlying34, rfl⟩, by kernel_rfl⟩
theorem sz34 : (Tryd.prog.info? 34).map (·.size) = some 1 := by kernel_rfl
theorem zr34 : (Tryd.prog.info? 34).bind (·.zero) = some (.slice none 0 0) := by kernel_rfl
theorem ti34 : TI Tryd.prog 34 1 24 (.slice none 0 0) := ⟨by kernel_rfl⟩
theorem zp34 (H : Hp) : ((Kd.slice kI64)).rep H (Value.cells (.slice none 0 0)).toList [] := ⟨_, rfl, ro_nil _ _⟩
theorem ty37 : TyA Tryd.prog 37 true 2 := ⟨⟨_, Tryd.underlying37, rfl⟩, by kernel_rfl⟩
theorem sz37 : (Tryd.prog.info? 37).map (·.size) = some 2 := by kernel_rfl
theorem zr37 : (Tryd.prog.info? 37).bind (·.zero) = some (.agg #[.slice none 0 0, .int .i64 0]) := by kernel_rfl
theorem ti37 : TI Tryd.prog 37 2 32 (.agg #[.slice none 0 0, .int .i64 0]) := ⟨by kernel_rfl⟩
theorem zp37 (H : Hp) : (k_cost_Costs).rep H (Value.cells (.agg #[.slice none 0 0, .int .i64 0])).toList (⟨[], 0⟩ : cost_Costs) := k_cost_Costs_in (x := ⟨[], 0⟩) (ro_nil _ _)
theorem ty58 : TyA Tryd.prog 58 true 8 := ⟨⟨_, Tryd.underlying58, rfl⟩, by kernel_rfl⟩
theorem sz58 : (Tryd.prog.info? 58).map (·.size) = some 8 := by kernel_rfl
theorem zr58 : (Tryd.prog.info? 58).bind (·.zero) = some (.agg #[.slice none 0 0, .int .i64 0, .int .i64 0, .slice none 0 0, .slice none 0 0, .slice none 0 0, .slice none 0 0, .int .i64 0]) := by kernel_rfl
theorem ti58 : TI Tryd.prog 58 8 144 (.agg #[.slice none 0 0, .int .i64 0, .int .i64 0, .slice none 0 0, .slice none 0 0, .slice none 0 0, .slice none 0 0, .int .i64 0]) := ⟨by kernel_rfl⟩
theorem zp58 (H : Hp) : (k_auction_sale).rep H (Value.cells (.agg #[.slice none 0 0, .int .i64 0, .int .i64 0, .slice none 0 0, .slice none 0 0, .slice none 0 0, .slice none 0 0, .int .i64 0])).toList (⟨(⟨[], 0⟩ : cost_Costs), 0, [], [], [], [], 0⟩ : auction_sale) := k_auction_sale_in (x := ⟨⟨[], 0⟩, 0, [], [], [], [], 0⟩) (ro_nil _ _) (ro_nil _ _) (ro_nil _ _) (ro_nil _ _) (ro_nil _ _)
theorem co6 : CallOk Tryd.prog 6 := ⟨_, Tryd.func6, by decide, rfl⟩
theorem co7 : CallOk Tryd.prog 7 := ⟨_, Tryd.func7, by decide, rfl⟩
theorem co8 : CallOk Tryd.prog 8 := ⟨_, Tryd.func8, by decide, rfl⟩
theorem co9 : CallOk Tryd.prog 9 := ⟨_, Tryd.func9, by decide, rfl⟩
theorem co10 : CallOk Tryd.prog 10 := ⟨_, Tryd.func10, by decide, rfl⟩
theorem co11 : CallOk Tryd.prog 11 := ⟨_, Tryd.func11, by decide, rfl⟩
theorem co12 : CallOk Tryd.prog 12 := ⟨_, Tryd.func12, by decide, rfl⟩
theorem co21 : CallOk Tryd.prog 21 := ⟨_, Tryd.func21, by decide, rfl⟩
theorem co22 : CallOk Tryd.prog 22 := ⟨_, Tryd.func22, by decide, rfl⟩
theorem co23 : CallOk Tryd.prog 23 := ⟨_, Tryd.func23, by decide, rfl⟩
theorem co39 : CallOk Tryd.prog 39 := ⟨_, Tryd.func39, by decide, rfl⟩
theorem fn_3 : Tryd.prog.funcs[3]? = some Tryd.f3 := Tryd.func3
theorem rs_3 : Tryd.f3.results = ⟨[.tmp 4]⟩ := rfl
theorem nt_3 : Tryd.f3.ntmps = 143 := rfl
theorem fn_6 : Tryd.prog.funcs[6]? = some Tryd.f6 := Tryd.func6
theorem rs_6 : Tryd.f6.results = ⟨[.tmp 6, .tmp 7]⟩ := rfl
theorem nt_6 : Tryd.f6.ntmps = 40 := rfl
theorem fn_8 : Tryd.prog.funcs[8]? = some Tryd.f8 := Tryd.func8
theorem rs_8 : Tryd.f8.results = ⟨[.tmp 2]⟩ := rfl
theorem nt_8 : Tryd.f8.ntmps = 77 := rfl
theorem fn_9 : Tryd.prog.funcs[9]? = some Tryd.f9 := Tryd.func9
theorem rs_9 : Tryd.f9.results = ⟨[.tmp 0]⟩ := rfl
theorem nt_9 : Tryd.f9.ntmps = 43 := rfl
theorem fn_10 : Tryd.prog.funcs[10]? = some Tryd.f10 := Tryd.func10
theorem rs_10 : Tryd.f10.results = ⟨[.tmp 2, .tmp 3, .tmp 4]⟩ := rfl
theorem nt_10 : Tryd.f10.ntmps = 46 := rfl
theorem fn_11 : Tryd.prog.funcs[11]? = some Tryd.f11 := Tryd.func11
theorem rs_11 : Tryd.f11.results = ⟨[.tmp 2, .tmp 3]⟩ := rfl
theorem nt_11 : Tryd.f11.ntmps = 166 := rfl
theorem fn_12 : Tryd.prog.funcs[12]? = some Tryd.f12 := Tryd.func12
theorem rs_12 : Tryd.f12.results = ⟨[.tmp 4]⟩ := rfl
theorem nt_12 : Tryd.f12.ntmps = 26 := rfl
theorem fn_21 : Tryd.prog.funcs[21]? = some Tryd.f21 := Tryd.func21
theorem rs_21 : Tryd.f21.results = ⟨[.tmp 2]⟩ := rfl
theorem nt_21 : Tryd.f21.ntmps = 58 := rfl
theorem fn_22 : Tryd.prog.funcs[22]? = some Tryd.f22 := Tryd.func22
theorem rs_22 : Tryd.f22.results = ⟨[.tmp 2]⟩ := rfl
theorem nt_22 : Tryd.f22.ntmps = 69 := rfl
theorem fn_23 : Tryd.prog.funcs[23]? = some Tryd.f23 := Tryd.func23
theorem rs_23 : Tryd.f23.results = ⟨[]⟩ := rfl
theorem nt_23 : Tryd.f23.ntmps = 76 := rfl
theorem fn_39 : Tryd.prog.funcs[39]? = some Tryd.f39 := Tryd.func39
theorem rs_39 : Tryd.f39.results = ⟨[.tmp 4, .tmp 5, .tmp 6]⟩ := rfl
theorem nt_39 : Tryd.f39.ntmps = 83 := rfl
theorem mixed : Tryd.prog.follows .mixedOrders = true := by kernel_rfl
def GH (H : Hp) : Prop := ∃ o, H.at_ 0 = some o ∧ ∀ w : World, w.heap[0]? = some o → GG w
theorem GH.mono {H H' : Hp} (h : GH H) (hle : H.le H') : GH H' := let ⟨o, h1, h2⟩ := h; ⟨o, hle.at_ 0 o h1, h2⟩
theorem gh_of {W : World} (h : GG W) : GH (snap W) := by
 unfold GG at h
 have h1 := h
 unfold World.cell? at h1
 split at h1
 · rename_i c1 T fz hh
   refine ⟨_, hh, fun w hw => ?_⟩
   show w.cell? _ = _
   unfold World.cell?
   rw [hw]; exact h1
 · cases h1
def errN (e : Option Int) : Int := e.getD 0
theorem num7.calls {H : Hp} {L : Items} {e : Option Int} (hG : GH H) (he : some (errN e) = some (errN e)) : Ct Tryd.prog 7 ⟨[errV 51 e]⟩ H L (fun v H' L' => L = L' ∧ H = H' ∧ v = .int .i64 (errN e)) := Ct.of_calls fun w hw => by
 obtain ⟨o, h1, h2⟩ := hG
 have hg := h2 w (hw.good 0 o h1)
 have this : Calls Tryd.prog 7 #[errV 51 e] w fun ev w' => ev = .returned (.int .i64 (e.getD 0)) ∧ Below w.heap.size w w' := by
  cases e with
  | none => exact num7_any none w hg
  | some c => exact num7_any (some c) w hg
 refine this.mono ?_
 rintro ev w' ⟨rfl, hb⟩
 exact ⟨_, _, _, rfl, hw.below hb, rfl, rfl, rfl⟩
theorem num15.calls {H : Hp} {L : Items} {e : Option Int} (hG : GH H) (he : some (errN e) = some (errN e)) : Ct Tryd.prog 15 ⟨[errV 51 e]⟩ H L (fun v H' L' => L = L' ∧ H = H' ∧ v = .int .i64 (errN e)) := Ct.of_calls fun w hw => by
 obtain ⟨o, h1, h2⟩ := hG
 have hg := h2 w (hw.good 0 o h1)
 have this : Calls Tryd.prog 15 #[errV 51 e] w fun ev w' => ev = .returned (.int .i64 (e.getD 0)) ∧ Below w.heap.size w w' := by
  cases e with
  | none => exact num15_any none w hg
  | some c => exact num15_any (some c) w hg
 refine this.mono ?_
 rintro ev w' ⟨rfl, hb⟩
 exact ⟨_, _, _, rfl, hw.below hb, rfl, rfl, rfl⟩

end Go.Proofs.YtacbficpehmlnaaDoor.GAR
