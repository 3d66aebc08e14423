/- printed by gen.py -/
import Derived.Test.YtoijknggnlbopaaDoorGCRk13
import Derived.Test.YtoijknggnlbopaaDoorAs
namespace Go.Proofs.YtoijknggnlbopaaDoor.GCR
open Go Go.RowKit Go.Proofs.YtoijknggnlbopaaDoorK Go.Proofs.YtoijknggnlbopaaDoor
set_option linter.unusedVariables false
set_option linter.unusedSimpArgs false
def str_0 : ByteArray := ⟨#[0, 1, 1, 2, 1, 2, 2, 3, 1, 2, 2, 3, 2, 3, 3, 4, 1, 2, 2, 3, 2, 3, 3, 4, 2, 3, 3, 4, 3, 4, 4, 5, 1, 2, 2, 3, 2, 3, 3, 4, 2, 3, 3, 4, 3, 4, 4, 5, 2, 3, 3, 4, 3, 4, 4, 5, 3, 4, 4, 5, 4, 5, 5, 6, 1, 2, 2, 3, 2, 3, 3, 4, 2, 3, 3, 4, 3, 4, 4, 5, 2, 3, 3, 4, 3, 4, 4, 5, 3, 4, 4, 5, 4, 5, 5, 6, 2, 3, 3, 4, 3, 4, 4, 5, 3, 4, 4, 5, 4, 5, 5, 6, 3, 4, 4, 5, 4, 5, 5, 6, 4, 5, 5, 6, 5, 6, 6, 7, 1, 2, 2, 3, 2, 3, 3, 4, 2, 3, 3, 4, 3, 4, 4, 5, 2, 3, 3, 4, 3, 4, 4, 5, 3, 4, 4, 5, 4, 5, 5, 6, 2, 3, 3, 4, 3, 4, 4, 5, 3, 4, 4, 5, 4, 5, 5, 6, 3, 4, 4, 5, 4, 5, 5, 6, 4, 5, 5, 6, 5, 6, 6, 7, 2, 3, 3, 4, 3, 4, 4, 5, 3, 4, 4, 5, 4, 5, 5, 6, 3, 4, 4, 5, 4, 5, 5, 6, 4, 5, 5, 6, 5, 6, 6, 7, 3, 4, 4, 5, 4, 5, 5, 6, 4, 5, 5, 6, 5, 6, 6, 7, 4, 5, 5, 6, 5, 6, 6, 7, 5, 6, 6, 7, 6, 7, 7, 8]⟩
structure clutter_Map where
 f_rings : Int
 f_parts : Int
 f_wide : Int
 f_cells : List Int
instance : Inhabited clutter_Map := ⟨⟨0, 0, 0, []⟩⟩
def k_clutter_Map : Kd clutter_Map := Kd.map (fun s => (s.f_rings, (s.f_parts, (s.f_wide, s.f_cells)))) (Kd.pair kI64 (Kd.pair kI64 (Kd.pair kI64 (Kd.slice kI64))))
theorem k_clutter_Map_out {H : Hp} {cs : List Value} {x : clutter_Map} (h : k_clutter_Map.rep H cs x) : ∃ v0, cs = [.int .i64 x.f_rings, .int .i64 x.f_parts, .int .i64 x.f_wide, v0] ∧ Ro kI64 H v0 x.f_cells := by
 obtain ⟨_, _, rfl, rfl, ⟨_, _, rfl, rfl, ⟨_, _, rfl, rfl, ⟨v0, rfl, h0⟩⟩⟩⟩ := (show ((Kd.pair kI64 (Kd.pair kI64 (Kd.pair kI64 (Kd.slice kI64))))).rep H cs ((x.f_rings, (x.f_parts, (x.f_wide, x.f_cells)))) from h)
 exact ⟨v0, rfl, h0⟩
theorem k_clutter_Map_in {H : Hp} {v0 : Value} {x : clutter_Map} (h0 : Ro kI64 H v0 x.f_cells) : k_clutter_Map.rep H [.int .i64 x.f_rings, .int .i64 x.f_parts, .int .i64 x.f_wide, v0] x :=
 (show ((Kd.pair kI64 (Kd.pair kI64 (Kd.pair kI64 (Kd.slice kI64))))).rep H _ ((x.f_rings, (x.f_parts, (x.f_wide, x.f_cells)))) from ⟨[.int .i64 x.f_rings], [.int .i64 x.f_parts, .int .i64 x.f_wide, v0], rfl, rfl, ⟨[.int .i64 x.f_parts], [.int .i64 x.f_wide, v0], rfl, rfl, ⟨[.int .i64 x.f_wide], [v0], rfl, rfl, ⟨v0, rfl, h0⟩⟩⟩⟩)
structure api_Plot where
 f_Range : Int
 f_Azimuth : Int
 f_Time : Int
instance : Inhabited api_Plot := ⟨⟨0, 0, 0⟩⟩
def k_api_Plot : Kd api_Plot := Kd.map (fun s => (s.f_Range, (s.f_Azimuth, s.f_Time))) (Kd.pair kI64 (Kd.pair (Kd.int .u16) kI64))
theorem k_api_Plot_out {H : Hp} {cs : List Value} {x : api_Plot} (h : k_api_Plot.rep H cs x) : cs = [.int .i64 x.f_Range, .int .u16 x.f_Azimuth, .int .i64 x.f_Time] := by
 obtain ⟨_, _, rfl, rfl, ⟨_, _, rfl, rfl, rfl⟩⟩ := (show ((Kd.pair kI64 (Kd.pair (Kd.int .u16) kI64))).rep H cs ((x.f_Range, (x.f_Azimuth, x.f_Time))) from h)
 rfl
theorem k_api_Plot_in {H : Hp} {x : api_Plot} : k_api_Plot.rep H [.int .i64 x.f_Range, .int .u16 x.f_Azimuth, .int .i64 x.f_Time] x :=
 (show ((Kd.pair kI64 (Kd.pair (Kd.int .u16) kI64))).rep H _ ((x.f_Range, (x.f_Azimuth, x.f_Time))) from ⟨[.int .i64 x.f_Range], [.int .u16 x.f_Azimuth, .int .i64 x.f_Time], rfl, rfl, ⟨[.int .u16 x.f_Azimuth], [.int .i64 x.f_Time], rfl, rfl, rfl⟩⟩)
structure radomeref10_Plot where
 f_Range : Int
 f_Azimuth : Int
 f_Time : Int
instance : Inhabited radomeref10_Plot := ⟨⟨0, 0, 0⟩⟩
def k_radomeref10_Plot : Kd radomeref10_Plot := Kd.map (fun s => (s.f_Range, (s.f_Azimuth, s.f_Time))) (Kd.pair kI64 (Kd.pair (Kd.int .u16) kI64))
theorem k_radomeref10_Plot_out {H : Hp} {cs : List Value} {x : radomeref10_Plot} (h : k_radomeref10_Plot.rep H cs x) : cs = [.int .i64 x.f_Range, .int .u16 x.f_Azimuth, .int .i64 x.f_Time] := by
 obtain ⟨_, _, rfl, rfl, ⟨_, _, rfl, rfl, rfl⟩⟩ := (show ((Kd.pair kI64 (Kd.pair (Kd.int .u16) kI64))).rep H cs ((x.f_Range, (x.f_Azimuth, x.f_Time))) from h)
 rfl
theorem k_radomeref10_Plot_in {H : Hp} {x : radomeref10_Plot} : k_radomeref10_Plot.rep H [.int .i64 x.f_Range, .int .u16 x.f_Azimuth, .int .i64 x.f_Time] x :=
 (show ((Kd.pair kI64 (Kd.pair (Kd.int .u16) kI64))).rep H _ ((x.f_Range, (x.f_Azimuth, x.f_Time))) from ⟨[.int .i64 x.f_Range], [.int .u16 x.f_Azimuth, .int .i64 x.f_Time], rfl, rfl, ⟨[.int .u16 x.f_Azimuth], [.int .i64 x.f_Time], rfl, rfl, rfl⟩⟩)
structure T55 where
 e0 : Int
 e1 : Int
instance : Inhabited T55 := ⟨⟨0, 0⟩⟩
def k_T55 : Kd T55 := Kd.map (fun s => (s.e0, s.e1)) (Kd.pair kI64 kI64)
theorem k_T55_out {H : Hp} {cs : List Value} {x : T55} (h : k_T55.rep H cs x) : cs = [.int .i64 x.e0, .int .i64 x.e1] := by
 obtain ⟨_, _, rfl, rfl, rfl⟩ := (show ((Kd.pair kI64 kI64)).rep H cs ((x.e0, x.e1)) from h)
 rfl
theorem k_T55_in {H : Hp} {x : T55} : k_T55.rep H [.int .i64 x.e0, .int .i64 x.e1] x :=
 (show ((Kd.pair kI64 kI64)).rep H _ ((x.e0, x.e1)) from ⟨[.int .i64 x.e0], [.int .i64 x.e1], rfl, rfl, rfl⟩)
structure radomelaw37_Act where
 f_Kind : Int
 f_P : radomeref10_Plot
instance : Inhabited radomelaw37_Act := ⟨⟨0, (⟨0, 0, 0⟩ : radomeref10_Plot)⟩⟩
def k_radomelaw37_Act : Kd radomelaw37_Act := Kd.map (fun s => (s.f_Kind, s.f_P)) (Kd.pair kI64 k_radomeref10_Plot)
theorem k_radomelaw37_Act_out {H : Hp} {cs : List Value} {x : radomelaw37_Act} (h : k_radomelaw37_Act.rep H cs x) : cs = [.int .i64 x.f_Kind, .int .i64 x.f_P.f_Range, .int .u16 x.f_P.f_Azimuth, .int .i64 x.f_P.f_Time] := by
 obtain ⟨_, _, rfl, rfl, q1⟩ := (show ((Kd.pair kI64 k_radomeref10_Plot)).rep H cs ((x.f_Kind, x.f_P)) from h)
 obtain ⟨rfl⟩ := k_radomeref10_Plot_out q1
 rfl
theorem k_radomelaw37_Act_in {H : Hp} {x : radomelaw37_Act} : k_radomelaw37_Act.rep H [.int .i64 x.f_Kind, .int .i64 x.f_P.f_Range, .int .u16 x.f_P.f_Azimuth, .int .i64 x.f_P.f_Time] x :=
 (show ((Kd.pair kI64 k_radomeref10_Plot)).rep H _ ((x.f_Kind, x.f_P)) from ⟨[.int .i64 x.f_Kind], [.int .i64 x.f_P.f_Range, .int .u16 x.f_P.f_Azimuth, .int .i64 x.f_P.f_Time], rfl, rfl, (k_radomeref10_Plot_in)⟩)
theorem ty2 : TyA Tryd.prog 2 false 1 := ⟨⟨_, Tryd.underlying2, rfl⟩, by kernel_rfl⟩
theorem sz2 : (Tryd.prog.info? 2).map (·.size) = some 1 := by kernel_rfl
theorem zr2 : (Tryd.prog.info? 2).bind (·.zero) = some (.int .i64 0) := by kernel_rfl
theorem ti2 : TI Tryd.prog 2 1 8 (.int .i64 0) := ⟨by kernel_rfl⟩
theorem zp2 (H : Hp) : (kI64).rep H (Value.cells (.int .i64 0)).toList 0 := rfl
theorem ty3 : TyA Tryd.prog 3 false 1 := ⟨⟨_, Tryd.underlying3, rfl⟩, by kernel_rfl⟩
theorem sz3 : (Tryd.prog.info? 3).map (·.size) = some 1 := by kernel_rfl
theorem zr3 : (Tryd.prog.info? 3).bind (·.zero) = some (.int .i64 0) := by kernel_rfl
theorem ti3 : TI Tryd.prog 3 1 8 (.int .i64 0) := ⟨by kernel_rfl⟩
theorem zp3 (H : Hp) : (kI64).rep H (Value.cells (.int .i64 0)).toList 0 := rfl
theorem ty60 : TyA Tryd.prog 60 false 1 := ⟨⟨_, Tryd.underlying60, rfl⟩, by kernel_rfl⟩
theorem sz60 : (Tryd.prog.info? 60).map (·.size) = some 1 := by kernel_rfl
theorem zr60 : (Tryd.prog.info? 60).bind (·.zero) = some (.int .u16 0) := by kernel_rfl
theorem ti60 : TI Tryd.prog 60 1 2 (.int .u16 0) := ⟨by kernel_rfl⟩
theorem zp60 (H : Hp) : ((Kd.int .u16)).rep H (Value.cells (.int .u16 0)).toList 0 := rfl
theorem ty62 : TyA Tryd.prog 62 true 3 := ⟨⟨_, Tryd.underlying62, rfl⟩, by kernel_rfl⟩
theorem sz62 : (Tryd.prog.info? 62).map (·.size) = some 3 := by kernel_rfl
theorem zr62 : (Tryd.prog.info? 62).bind (·.zero) = some (.agg #[.int .i64 0, .int .u16 0, .int .i64 0]) := by kernel_rfl
theorem ti62 : TI Tryd.prog 62 3 24 (.agg #[.int .i64 0, .int .u16 0, .int .i64 0]) := ⟨by kernel_rfl⟩
theorem zp62 (H : Hp) : (k_api_Plot).rep H (Value.cells (.agg #[.int .i64 0, .int .u16 0, .int .i64 0])).toList (⟨0, 0, 0⟩ : api_Plot) := k_api_Plot_in (x := ⟨0, 0, 0⟩)
theorem ty71 : TyA Tryd.prog 71 false 1 := ⟨⟨_, Tryd.underlying71, rfl⟩, by kernel_rfl⟩
theorem sz71 : (Tryd.prog.info? 71).map (·.size) = some 1 := by kernel_rfl
theorem zr71 : (Tryd.prog.info? 71).bind (·.zero) = some (.slice none 0 0) := by kernel_rfl
theorem ti71 : TI Tryd.prog 71 1 24 (.slice none 0 0) := ⟨by kernel_rfl⟩
theorem zp71 (H : Hp) : ((Kd.slice kI64)).rep H (Value.cells (.slice none 0 0)).toList [] := ⟨_, rfl, ro_nil _ _⟩
theorem ty72 : TyA Tryd.prog 72 true 3 := ⟨⟨_, Tryd.underlying72, rfl⟩, by kernel_rfl⟩
theorem sz72 : (Tryd.prog.info? 72).map (·.size) = some 3 := by kernel_rfl
theorem zr72 : (Tryd.prog.info? 72).bind (·.zero) = some (.agg #[.int .i64 0, .int .u16 0, .int .i64 0]) := by kernel_rfl
theorem ti72 : TI Tryd.prog 72 3 24 (.agg #[.int .i64 0, .int .u16 0, .int .i64 0]) := ⟨by kernel_rfl⟩
theorem zp72 (H : Hp) : (k_radomeref10_Plot).rep H (Value.cells (.agg #[.int .i64 0, .int .u16 0, .int .i64 0])).toList (⟨0, 0, 0⟩ : radomeref10_Plot) := k_radomeref10_Plot_in (x := ⟨0, 0, 0⟩)
theorem ty74 : TyA Tryd.prog 74 true 4 := ⟨⟨_, Tryd.underlying74, rfl⟩, by kernel_rfl⟩
theorem sz74 : (Tryd.prog.info? 74).map (·.size) = some 4 := by kernel_rfl
theorem zr74 : (Tryd.prog.info? 74).bind (·.zero) = some (.agg #[.int .i64 0, .int .i64 0, .int .u16 0, .int .i64 0]) := by kernel_rfl
theorem ti74 : TI Tryd.prog 74 4 32 (.agg #[.int .i64 0, .int .i64 0, .int .u16 0, .int .i64 0]) := ⟨by kernel_rfl⟩
theorem zp74 (H : Hp) : (k_radomelaw37_Act).rep H (Value.cells (.agg #[.int .i64 0, .int .i64 0, .int .u16 0, .int .i64 0])).toList (⟨0, (⟨0, 0, 0⟩ : radomeref10_Plot)⟩ : radomelaw37_Act) := k_radomelaw37_Act_in (x := ⟨0, ⟨0, 0, 0⟩⟩)
theorem ty105 : TyA Tryd.prog 105 true 4 := ⟨⟨_, Tryd.underlying105, rfl⟩, by kernel_rfl⟩
theorem sz105 : (Tryd.prog.info? 105).map (·.size) = some 4 := by kernel_rfl
theorem zr105 : (Tryd.prog.info? 105).bind (·.zero) = some (.agg #[.int .i64 0, .int .i64 0, .int .i64 0, .slice none 0 0]) := by kernel_rfl
theorem ti105 : TI Tryd.prog 105 4 48 (.agg #[.int .i64 0, .int .i64 0, .int .i64 0, .slice none 0 0]) := ⟨by kernel_rfl⟩
theorem zp105 (H : Hp) : (k_clutter_Map).rep H (Value.cells (.agg #[.int .i64 0, .int .i64 0, .int .i64 0, .slice none 0 0])).toList (⟨0, 0, 0, []⟩ : clutter_Map) := k_clutter_Map_in (x := ⟨0, 0, 0, []⟩) (ro_nil _ _)
theorem co21 : CallOk Tryd.prog 21 := ⟨_, Tryd.func21, by decide, rfl⟩
theorem co22 : CallOk Tryd.prog 22 := ⟨_, Tryd.func22, by decide, rfl⟩
theorem co23 : CallOk Tryd.prog 23 := ⟨_, Tryd.func23, by decide, rfl⟩
theorem co24 : CallOk Tryd.prog 24 := ⟨_, Tryd.func24, by decide, rfl⟩
theorem co25 : CallOk Tryd.prog 25 := ⟨_, Tryd.func25, by decide, rfl⟩
theorem co26 : CallOk Tryd.prog 26 := ⟨_, Tryd.func26, by decide, rfl⟩
theorem co27 : CallOk Tryd.prog 27 := ⟨_, Tryd.func27, by decide, rfl⟩
theorem co28 : CallOk Tryd.prog 28 := ⟨_, Tryd.func28, by decide, rfl⟩
theorem co29 : CallOk Tryd.prog 29 := ⟨_, Tryd.func29, by decide, rfl⟩
theorem co30 : CallOk Tryd.prog 30 := ⟨_, Tryd.func30, by decide, rfl⟩
theorem co31 : CallOk Tryd.prog 31 := ⟨_, Tryd.func31, by decide, rfl⟩
theorem co46 : CallOk Tryd.prog 46 := ⟨_, Tryd.func46, by decide, rfl⟩
theorem co47 : CallOk Tryd.prog 47 := ⟨_, Tryd.func47, by decide, rfl⟩
theorem co62 : CallOk Tryd.prog 62 := ⟨_, Tryd.func62, by decide, rfl⟩
theorem fn_5 : Tryd.prog.funcs[5]? = some Tryd.f5 := Tryd.func5
theorem rs_5 : Tryd.f5.results = ⟨[.tmp 6]⟩ := rfl
theorem nt_5 : Tryd.f5.ntmps = 297 := rfl
theorem fn_21 : Tryd.prog.funcs[21]? = some Tryd.f21 := Tryd.func21
theorem rs_21 : Tryd.f21.results = ⟨[.tmp 4, .tmp 5, .tmp 6]⟩ := rfl
theorem nt_21 : Tryd.f21.ntmps = 46 := rfl
theorem fn_22 : Tryd.prog.funcs[22]? = some Tryd.f22 := Tryd.func22
theorem rs_22 : Tryd.f22.results = ⟨[.tmp 6, .tmp 7]⟩ := rfl
theorem nt_22 : Tryd.f22.ntmps = 49 := rfl
theorem fn_23 : Tryd.prog.funcs[23]? = some Tryd.f23 := Tryd.func23
theorem rs_23 : Tryd.f23.results = ⟨[.tmp 6, .tmp 7]⟩ := rfl
theorem nt_23 : Tryd.f23.ntmps = 30 := rfl
theorem fn_24 : Tryd.prog.funcs[24]? = some Tryd.f24 := Tryd.func24
theorem rs_24 : Tryd.f24.results = ⟨[]⟩ := rfl
theorem nt_24 : Tryd.f24.ntmps = 23 := rfl
theorem fn_26 : Tryd.prog.funcs[26]? = some Tryd.f26 := Tryd.func26
theorem rs_26 : Tryd.f26.results = ⟨[.tmp 4]⟩ := rfl
theorem nt_26 : Tryd.f26.ntmps = 31 := rfl
theorem fn_27 : Tryd.prog.funcs[27]? = some Tryd.f27 := Tryd.func27
theorem rs_27 : Tryd.f27.results = ⟨[.tmp 2]⟩ := rfl
theorem nt_27 : Tryd.f27.ntmps = 22 := rfl
theorem fn_28 : Tryd.prog.funcs[28]? = some Tryd.f28 := Tryd.func28
theorem rs_28 : Tryd.f28.results = ⟨[.tmp 6, .tmp 7]⟩ := rfl
theorem nt_28 : Tryd.f28.ntmps = 46 := rfl
theorem fn_29 : Tryd.prog.funcs[29]? = some Tryd.f29 := Tryd.func29
theorem rs_29 : Tryd.f29.results = ⟨[.tmp 6]⟩ := rfl
theorem nt_29 : Tryd.f29.ntmps = 36 := rfl
theorem fn_30 : Tryd.prog.funcs[30]? = some Tryd.f30 := Tryd.func30
theorem rs_30 : Tryd.f30.results = ⟨[.tmp 0]⟩ := rfl
theorem nt_30 : Tryd.f30.ntmps = 86 := rfl
theorem fn_31 : Tryd.prog.funcs[31]? = some Tryd.f31 := Tryd.func31
theorem rs_31 : Tryd.f31.results = ⟨[.tmp 8, .tmp 9, .tmp 10]⟩ := rfl
theorem nt_31 : Tryd.f31.ntmps = 32 := rfl
theorem fn_46 : Tryd.prog.funcs[46]? = some Tryd.f46 := Tryd.func46
theorem rs_46 : Tryd.f46.results = ⟨[.tmp 4, .tmp 5]⟩ := rfl
theorem nt_46 : Tryd.f46.ntmps = 27 := rfl
theorem fn_47 : Tryd.prog.funcs[47]? = some Tryd.f47 := Tryd.func47
theorem rs_47 : Tryd.f47.results = ⟨[.tmp 2]⟩ := rfl
theorem nt_47 : Tryd.f47.ntmps = 8 := rfl
theorem fn_61 : Tryd.prog.funcs[61]? = some Tryd.f61 := Tryd.func61
theorem rs_61 : Tryd.f61.results = ⟨[.tmp 2]⟩ := rfl
theorem nt_61 : Tryd.f61.ntmps = 21 := rfl
theorem fn_62 : Tryd.prog.funcs[62]? = some Tryd.f62 := Tryd.func62
theorem rs_62 : Tryd.f62.results = ⟨[.tmp 2]⟩ := rfl
theorem nt_62 : Tryd.f62.ntmps = 35 := rfl
theorem mixed : Tryd.prog.follows .mixedOrders = true := by kernel_rfl
def GH (H : Hp) : Prop := ∃ o, H.at_ 0 = some o ∧ ∀ w : World, w.heap[0]? = some o → GG w
theorem GH.mono {H H' : Hp} (h : GH H) (hle : H.le H') : GH H' := let ⟨o, h1, h2⟩ := h; ⟨o, hle.at_ 0 o h1, h2⟩
theorem gh_of {W : World} (h : GG W) : GH (snap W) := by
 unfold GG at h
 have h1 := h
 unfold World.cell? at h1
 split at h1
 · rename_i c1 T fz hh
   refine ⟨_, hh, fun w hw => ?_⟩
   show w.cell? _ = _
   unfold World.cell?
   rw [hw]; exact h1
 · cases h1
def errN (e : Option Int) : Int := e.getD 0
theorem num13.calls {H : Hp} {L : Items} {e : Option Int} (hG : GH H) (he : some (errN e) = some (errN e)) : Ct Tryd.prog 13 ⟨[errV 99 e]⟩ H L (fun v H' L' => L = L' ∧ H = H' ∧ v = .int .i64 (errN e)) := Ct.of_calls fun w hw => by
 obtain ⟨o, h1, h2⟩ := hG
 have hg := h2 w (hw.good 0 o h1)
 have this : Calls Tryd.prog 13 #[errV 99 e] w fun ev w' => ev = .returned (.int .i64 (e.getD 0)) ∧ Below w.heap.size w w' := by
  cases e with
  | none => exact num13_any none w hg
  | some c => exact num13_any (some c) w hg
 refine this.mono ?_
 rintro ev w' ⟨rfl, hb⟩
 exact ⟨_, _, _, rfl, hw.below hb, rfl, rfl, rfl⟩
theorem num25.calls {H : Hp} {L : Items} {e : Option Int} (hG : GH H) (he : some (errN e) = some (errN e)) : Ct Tryd.prog 25 ⟨[errV 99 e]⟩ H L (fun v H' L' => L = L' ∧ H = H' ∧ v = .int .i64 (errN e)) := Ct.of_calls fun w hw => by
 obtain ⟨o, h1, h2⟩ := hG
 have hg := h2 w (hw.good 0 o h1)
 have this : Calls Tryd.prog 25 #[errV 99 e] w fun ev w' => ev = .returned (.int .i64 (e.getD 0)) ∧ Below w.heap.size w w' := by
  cases e with
  | none => exact num25_any none w hg
  | some c => exact num25_any (some c) w hg
 refine this.mono ?_
 rintro ev w' ⟨rfl, hb⟩
 exact ⟨_, _, _, rfl, hw.below hb, rfl, rfl, rfl⟩
theorem num35.calls {H : Hp} {L : Items} {e : Option Int} (hG : GH H) (he : some (errN e) = some (errN e)) : Ct Tryd.prog 35 ⟨[errV 99 e]⟩ H L (fun v H' L' => L = L' ∧ H = H' ∧ v = .int .i64 (errN e)) := Ct.of_calls fun w hw => by
 obtain ⟨o, h1, h2⟩ := hG
 have hg := h2 w (hw.good 0 o h1)
 have this : Calls Tryd.prog 35 #[errV 99 e] w fun ev w' => ev = .returned (.int .i64 (e.getD 0)) ∧ Below w.heap.size w w' := by
  cases e with
  | none => exact num35_any none w hg
  | some c => exact num35_any (some c) w hg
 refine this.mono ?_
 rintro ev w' ⟨rfl, hb⟩
 exact ⟨_, _, _, rfl, hw.below hb, rfl, rfl, rfl⟩

end Go.Proofs.YtoijknggnlbopaaDoor.GCR
