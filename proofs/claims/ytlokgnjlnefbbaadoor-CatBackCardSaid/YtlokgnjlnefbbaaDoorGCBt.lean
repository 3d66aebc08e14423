/- printed by gen.py -/
import Derived.Test.YtlokgnjlnefbbaaDoorGCBk15
import Derived.Test.YtlokgnjlnefbbaaDoorAs
namespace Go.Proofs.YtlokgnjlnefbbaaDoor.GCB
open Go Go.RowKit Go.Proofs.YtlokgnjlnefbbaaDoorK Go.Proofs.YtlokgnjlnefbbaaDoor
set_option linter.unusedVariables false
set_option linter.unusedSimpArgs false
def str_0 : ByteArray := ⟨#[48, 0, 13, 208, 1, 2, 0, 0, 128, 1, 0, 0, 3]⟩
structure radomeref10_Plot where
 f_Range : Int
 f_Azimuth : Int
 f_Time : Int
instance : Inhabited radomeref10_Plot := ⟨⟨0, 0, 0⟩⟩
def k_radomeref10_Plot : Kd radomeref10_Plot := Kd.map (fun s => (s.f_Range, (s.f_Azimuth, s.f_Time))) (Kd.pair kI64 (Kd.pair (Kd.int .u16) kI64))
theorem k_radomeref10_Plot_out {H : Hp} {cs : List Value} {x : radomeref10_Plot} (h : k_radomeref10_Plot.rep H cs x) : cs = [.int .i64 x.f_Range, .int .u16 x.f_Azimuth, .int .i64 x.f_Time] := by
 obtain ⟨_, _, rfl, rfl, ⟨_, _, rfl, rfl, rfl⟩⟩ := (show ((Kd.pair kI64 (Kd.pair (Kd.int .u16) kI64))).rep H cs ((x.f_Range, (x.f_Azimuth, x.f_Time))) from h)
 rfl
theorem k_radomeref10_Plot_in {H : Hp} {x : radomeref10_Plot} : k_radomeref10_Plot.rep H [.int .i64 x.f_Range, .int .u16 x.f_Azimuth, .int .i64 x.f_Time] x :=
 (show ((Kd.pair kI64 (Kd.pair (Kd.int .u16) kI64))).rep H _ ((x.f_Range, (x.f_Azimuth, x.f_Time))) from ⟨[.int .i64 x.f_Range], [.int .u16 x.f_Azimuth, .int .i64 x.f_Time], rfl, rfl, ⟨[.int .u16 x.f_Azimuth], [.int .i64 x.f_Time], rfl, rfl, rfl⟩⟩)
structure radomeref28_Record where
 f_Source : Int
 f_Plot : radomeref10_Plot
 f_Is : Bool
instance : Inhabited radomeref28_Record := ⟨⟨0, (⟨0, 0, 0⟩ : radomeref10_Plot), false⟩⟩
def k_radomeref28_Record : Kd radomeref28_Record := Kd.map (fun s => (s.f_Source, (s.f_Plot, s.f_Is))) (Kd.pair (Kd.int .u16) (Kd.pair k_radomeref10_Plot Kd.bool))
theorem k_radomeref28_Record_out {H : Hp} {cs : List Value} {x : radomeref28_Record} (h : k_radomeref28_Record.rep H cs x) : cs = [.int .u16 x.f_Source, .int .i64 x.f_Plot.f_Range, .int .u16 x.f_Plot.f_Azimuth, .int .i64 x.f_Plot.f_Time, .bool x.f_Is] := by
 obtain ⟨_, _, rfl, rfl, ⟨_, _, rfl, q1, rfl⟩⟩ := (show ((Kd.pair (Kd.int .u16) (Kd.pair k_radomeref10_Plot Kd.bool))).rep H cs ((x.f_Source, (x.f_Plot, x.f_Is))) from h)
 obtain ⟨rfl⟩ := k_radomeref10_Plot_out q1
 rfl
theorem k_radomeref28_Record_in {H : Hp} {x : radomeref28_Record} : k_radomeref28_Record.rep H [.int .u16 x.f_Source, .int .i64 x.f_Plot.f_Range, .int .u16 x.f_Plot.f_Azimuth, .int .i64 x.f_Plot.f_Time, .bool x.f_Is] x :=
 (show ((Kd.pair (Kd.int .u16) (Kd.pair k_radomeref10_Plot Kd.bool))).rep H _ ((x.f_Source, (x.f_Plot, x.f_Is))) from ⟨[.int .u16 x.f_Source], [.int .i64 x.f_Plot.f_Range, .int .u16 x.f_Plot.f_Azimuth, .int .i64 x.f_Plot.f_Time, .bool x.f_Is], rfl, rfl, ⟨[.int .i64 x.f_Plot.f_Range, .int .u16 x.f_Plot.f_Azimuth, .int .i64 x.f_Plot.f_Time], [.bool x.f_Is], rfl, (k_radomeref10_Plot_in), rfl⟩⟩)
structure api_Plot where
 f_Range : Int
 f_Azimuth : Int
 f_Time : Int
instance : Inhabited api_Plot := ⟨⟨0, 0, 0⟩⟩
def k_api_Plot : Kd api_Plot := Kd.map (fun s => (s.f_Range, (s.f_Azimuth, s.f_Time))) (Kd.pair kI64 (Kd.pair (Kd.int .u16) kI64))
theorem k_api_Plot_out {H : Hp} {cs : List Value} {x : api_Plot} (h : k_api_Plot.rep H cs x) : cs = [.int .i64 x.f_Range, .int .u16 x.f_Azimuth, .int .i64 x.f_Time] := by
 obtain ⟨_, _, rfl, rfl, ⟨_, _, rfl, rfl, rfl⟩⟩ := (show ((Kd.pair kI64 (Kd.pair (Kd.int .u16) kI64))).rep H cs ((x.f_Range, (x.f_Azimuth, x.f_Time))) from h)
 rfl
theorem k_api_Plot_in {H : Hp} {x : api_Plot} : k_api_Plot.rep H [.int .i64 x.f_Range, .int .u16 x.f_Azimuth, .int .i64 x.f_Time] x :=
 (show ((Kd.pair kI64 (Kd.pair (Kd.int .u16) kI64))).rep H _ ((x.f_Range, (x.f_Azimuth, x.f_Time))) from ⟨[.int .i64 x.f_Range], [.int .u16 x.f_Azimuth, .int .i64 x.f_Time], rfl, rfl, ⟨[.int .u16 x.f_Azimuth], [.int .i64 x.f_Time], rfl, rfl, rfl⟩⟩)
structure cat048_Record where
 f_Source : Int
 f_Plot : api_Plot
 f_Is : Bool
instance : Inhabited cat048_Record := ⟨⟨0, (⟨0, 0, 0⟩ : api_Plot), false⟩⟩
def k_cat048_Record : Kd cat048_Record := Kd.map (fun s => (s.f_Source, (s.f_Plot, s.f_Is))) (Kd.pair (Kd.int .u16) (Kd.pair k_api_Plot Kd.bool))
theorem k_cat048_Record_out {H : Hp} {cs : List Value} {x : cat048_Record} (h : k_cat048_Record.rep H cs x) : cs = [.int .u16 x.f_Source, .int .i64 x.f_Plot.f_Range, .int .u16 x.f_Plot.f_Azimuth, .int .i64 x.f_Plot.f_Time, .bool x.f_Is] := by
 obtain ⟨_, _, rfl, rfl, ⟨_, _, rfl, q1, rfl⟩⟩ := (show ((Kd.pair (Kd.int .u16) (Kd.pair k_api_Plot Kd.bool))).rep H cs ((x.f_Source, (x.f_Plot, x.f_Is))) from h)
 obtain ⟨rfl⟩ := k_api_Plot_out q1
 rfl
theorem k_cat048_Record_in {H : Hp} {x : cat048_Record} : k_cat048_Record.rep H [.int .u16 x.f_Source, .int .i64 x.f_Plot.f_Range, .int .u16 x.f_Plot.f_Azimuth, .int .i64 x.f_Plot.f_Time, .bool x.f_Is] x :=
 (show ((Kd.pair (Kd.int .u16) (Kd.pair k_api_Plot Kd.bool))).rep H _ ((x.f_Source, (x.f_Plot, x.f_Is))) from ⟨[.int .u16 x.f_Source], [.int .i64 x.f_Plot.f_Range, .int .u16 x.f_Plot.f_Azimuth, .int .i64 x.f_Plot.f_Time, .bool x.f_Is], rfl, rfl, ⟨[.int .i64 x.f_Plot.f_Range, .int .u16 x.f_Plot.f_Azimuth, .int .i64 x.f_Plot.f_Time], [.bool x.f_Is], rfl, (k_api_Plot_in), rfl⟩⟩)
structure fspec_Head where
 f_Items : List Int
 f_Bytes : Int
instance : Inhabited fspec_Head := ⟨⟨[], 0⟩⟩
def k_fspec_Head : Kd fspec_Head := Kd.map (fun s => (s.f_Items, s.f_Bytes)) (Kd.pair (Kd.slice kI64) kI64)
theorem k_fspec_Head_out {H : Hp} {cs : List Value} {x : fspec_Head} (h : k_fspec_Head.rep H cs x) : ∃ v0, cs = [v0, .int .i64 x.f_Bytes] ∧ Ro kI64 H v0 x.f_Items := by
 obtain ⟨_, _, rfl, ⟨v0, rfl, h0⟩, rfl⟩ := (show ((Kd.pair (Kd.slice kI64) kI64)).rep H cs ((x.f_Items, x.f_Bytes)) from h)
 exact ⟨v0, rfl, h0⟩
theorem k_fspec_Head_in {H : Hp} {v0 : Value} {x : fspec_Head} (h0 : Ro kI64 H v0 x.f_Items) : k_fspec_Head.rep H [v0, .int .i64 x.f_Bytes] x :=
 (show ((Kd.pair (Kd.slice kI64) kI64)).rep H _ ((x.f_Items, x.f_Bytes)) from ⟨[v0], [.int .i64 x.f_Bytes], rfl, ⟨v0, rfl, h0⟩, rfl⟩)
structure T144 where
 e0 : Int
 e1 : Int
 e2 : Int
 e3 : Int
 e4 : Int
 e5 : Int
 e6 : Int
 e7 : Int
 e8 : Int
 e9 : Int
 e10 : Int
 e11 : Int
 e12 : Int
 e13 : Int
 e14 : Int
 e15 : Int
 e16 : Int
 e17 : Int
 e18 : Int
 e19 : Int
 e20 : Int
 e21 : Int
 e22 : Int
 e23 : Int
 e24 : Int
 e25 : Int
 e26 : Int
 e27 : Int
 e28 : Int
instance : Inhabited T144 := ⟨⟨0, 0, 0, 0, 0, 0, 0, 0, 0, 0, 0, 0, 0, 0, 0, 0, 0, 0, 0, 0, 0, 0, 0, 0, 0, 0, 0, 0, 0⟩⟩
def k_T144 : Kd T144 := Kd.map (fun s => (s.e0, (s.e1, (s.e2, (s.e3, (s.e4, (s.e5, (s.e6, (s.e7, (s.e8, (s.e9, (s.e10, (s.e11, (s.e12, (s.e13, (s.e14, (s.e15, (s.e16, (s.e17, (s.e18, (s.e19, (s.e20, (s.e21, (s.e22, (s.e23, (s.e24, (s.e25, (s.e26, (s.e27, s.e28))))))))))))))))))))))))))))) (Kd.pair kI64 (Kd.pair kI64 (Kd.pair kI64 (Kd.pair kI64 (Kd.pair kI64 (Kd.pair kI64 (Kd.pair kI64 (Kd.pair kI64 (Kd.pair kI64 (Kd.pair kI64 (Kd.pair kI64 (Kd.pair kI64 (Kd.pair kI64 (Kd.pair kI64 (Kd.pair kI64 (Kd.pair kI64 (Kd.pair kI64 (Kd.pair kI64 (Kd.pair kI64 (Kd.pair kI64 (Kd.pair kI64 (Kd.pair kI64 (Kd.pair kI64 (Kd.pair kI64 (Kd.pair kI64 (Kd.pair kI64 (Kd.pair kI64 (Kd.pair kI64 kI64))))))))))))))))))))))))))))
theorem k_T144_out {H : Hp} {cs : List Value} {x : T144} (h : k_T144.rep H cs x) : cs = [.int .i64 x.e0, .int .i64 x.e1, .int .i64 x.e2, .int .i64 x.e3, .int .i64 x.e4, .int .i64 x.e5, .int .i64 x.e6, .int .i64 x.e7, .int .i64 x.e8, .int .i64 x.e9, .int .i64 x.e10, .int .i64 x.e11, .int .i64 x.e12, .int .i64 x.e13, .int .i64 x.e14, .int .i64 x.e15, .int .i64 x.e16, .int .i64 x.e17, .int .i64 x.e18, .int .i64 x.e19, .int .i64 x.e20, .int .i64 x.e21, .int .i64 x.e22, .int .i64 x.e23, .int .i64 x.e24, .int .i64 x.e25, .int .i64 x.e26, .int .i64 x.e27, .int .i64 x.e28] := by
 obtain ⟨_, _, rfl, rfl, ⟨_, _, rfl, rfl, ⟨_, _, rfl, rfl, ⟨_, _, rfl, rfl, ⟨_, _, rfl, rfl, ⟨_, _, rfl, rfl, ⟨_, _, rfl, rfl, ⟨_, _, rfl, rfl, ⟨_, _, rfl, rfl, ⟨_, _, rfl, rfl, ⟨_, _, rfl, rfl, ⟨_, _, rfl, rfl, ⟨_, _, rfl, rfl, ⟨_, _, rfl, rfl, ⟨_, _, rfl, rfl, ⟨_, _, rfl, rfl, ⟨_, _, rfl, rfl, ⟨_, _, rfl, rfl, ⟨_, _, rfl, rfl, ⟨_, _, rfl, rfl, ⟨_, _, rfl, rfl, ⟨_, _, rfl, rfl, ⟨_, _, rfl, rfl, ⟨_, _, rfl, rfl, ⟨_, _, rfl, rfl, ⟨_, _, rfl, rfl, ⟨_, _, rfl, rfl, ⟨_, _, rfl, rfl, rfl⟩⟩⟩⟩⟩⟩⟩⟩⟩⟩⟩⟩⟩⟩⟩⟩⟩⟩⟩⟩⟩⟩⟩⟩⟩⟩⟩⟩ := (show ((Kd.pair kI64 (Kd.pair kI64 (Kd.pair kI64 (Kd.pair kI64 (Kd.pair kI64 (Kd.pair kI64 (Kd.pair kI64 (Kd.pair kI64 (Kd.pair kI64 (Kd.pair kI64 (Kd.pair kI64 (Kd.pair kI64 (Kd.pair kI64 (Kd.pair kI64 (Kd.pair kI64 (Kd.pair kI64 (Kd.pair kI64 (Kd.pair kI64 (Kd.pair kI64 (Kd.pair kI64 (Kd.pair kI64 (Kd.pair kI64 (Kd.pair kI64 (Kd.pair kI64 (Kd.pair kI64 (Kd.pair kI64 (Kd.pair kI64 (Kd.pair kI64 kI64))))))))))))))))))))))))))))).rep H cs ((x.e0, (x.e1, (x.e2, (x.e3, (x.e4, (x.e5, (x.e6, (x.e7, (x.e8, (x.e9, (x.e10, (x.e11, (x.e12, (x.e13, (x.e14, (x.e15, (x.e16, (x.e17, (x.e18, (x.e19, (x.e20, (x.e21, (x.e22, (x.e23, (x.e24, (x.e25, (x.e26, (x.e27, x.e28))))))))))))))))))))))))))))) from h)
 rfl
theorem k_T144_in {H : Hp} {x : T144} : k_T144.rep H [.int .i64 x.e0, .int .i64 x.e1, .int .i64 x.e2, .int .i64 x.e3, .int .i64 x.e4, .int .i64 x.e5, .int .i64 x.e6, .int .i64 x.e7, .int .i64 x.e8, .int .i64 x.e9, .int .i64 x.e10, .int .i64 x.e11, .int .i64 x.e12, .int .i64 x.e13, .int .i64 x.e14, .int .i64 x.e15, .int .i64 x.e16, .int .i64 x.e17, .int .i64 x.e18, .int .i64 x.e19, .int .i64 x.e20, .int .i64 x.e21, .int .i64 x.e22, .int .i64 x.e23, .int .i64 x.e24, .int .i64 x.e25, .int .i64 x.e26, .int .i64 x.e27, .int .i64 x.e28] x :=
 (show ((Kd.pair kI64 (Kd.pair kI64 (Kd.pair kI64 (Kd.pair kI64 (Kd.pair kI64 (Kd.pair kI64 (Kd.pair kI64 (Kd.pair kI64 (Kd.pair kI64 (Kd.pair kI64 (Kd.pair kI64 (Kd.pair kI64 (Kd.pair kI64 (Kd.pair kI64 (Kd.pair kI64 (Kd.pair kI64 (Kd.pair kI64 (Kd.pair kI64 (Kd.pair kI64 (Kd.pair kI64 (Kd.pair kI64 (Kd.pair kI64 (Kd.pair kI64 (Kd.pair kI64 (Kd.pair kI64 (Kd.pair kI64 (Kd.pair kI64 (Kd.pair kI64 kI64))))))))))))))))))))))))))))).rep H _ ((x.e0, (x.e1, (x.e2, (x.e3, (x.e4, (x.e5, (x.e6, (x.e7, (x.e8, (x.e9, (x.e10, (x.e11, (x.e12, (x.e13, (x.e14, (x.e15, (x.e16, (x.e17, (x.e18, (x.e19, (x.e20, (x.e21, (x.e22, (x.e23, (x.e24, (x.e25, (x.e26, (x.e27, x.e28))))))))))))))))))))))))))))) from ⟨[.int .i64 x.e0], [.int .i64 x.e1, .int .i64 x.e2, .int .i64 x.e3, .int .i64 x.e4, .int .i64 x.e5, .int .i64 x.e6, .int .i64 x.e7, .int .i64 x.e8, .int .i64 x.e9, .int .i64 x.e10, .int .i64 x.e11, .int .i64 x.e12, .int .i64 x.e13, .int .i64 x.e14, .int .i64 x.e15, .int .i64 x.e16, .int .i64 x.e17, .int .i64 x.e18, .int .i64 x.e19, .int .i64 x.e20, .int .i64 x.e21, .int .i64 x.e22, .int .i64 x.e23, .int .i64 x.e24, .int .i64 x.e25, .int .i64 x.e26, .int .i64 x.e27, .int .i64 x.e28], rfl, rfl, ⟨[.int .i64 x.e1], [.int .i64 x.e2, .int .i64 x.e3, .int .i64 x.e4, .int .i64 x.e5, .int .i64 x.e6, .int .i64 x.e7, .int .i64 x.e8, .int .i64 x.e9, .int .i64 x.e10, .int .i64 x.e11, .int .i64 x.e12, .int .i64 x.e13, .int .i64 x.e14, .int .i64 x.e15, .int .i64 x.e16, .int .i64 x.e17, .int .i64 x.e18, .int .i64 x.e19, .int .i64 x.e20, .int .i64 x.e21, .int .i64 x.e22, .int .i64 x.e23, .int .i64 x.e24, .int .i64 x.e25, .int .i64 x.e26, .int .i64 x.e27, .int .i64 x.e28], rfl, rfl, ⟨[.int .i64 x.e2], [.int .i64 x.e3, .int .i64 x.e4, .int .i64 x.e5, .int .i64 x.e6, .int .i64 x.e7, .int .i64 x.e8, .int .i64 x.e9, .int .i64 x.e10, .int .i64 x.e11, .int .i64 x.e12, .int .i64 x.e13, .int .i64 x.e14, .int .i64 x.e15, .int .i64 x.e16, .int .i64 x.e17, .int .i64 x.e18, .int .i64 x.e19, .int .i64 x.e20, .int .i64 x.e21, .int .i64 x.e22, .int .i64 x.e23, .int .i64 x.e24, .int .i64 x.e25, .int .i64 x.e26, .int .i64 x.e27, .int .i64 x.e28], rfl, rfl, ⟨[.int .i64 x.e3], [.int .i64 x.e4, .int .i64 x.e5, .int .i64 x.e6, .int .i64 x.e7, .int .i64 x.e8, .int .i64 x.e9, .int .i64 x.e10, .int .i64 x.e11, .int .i64 x.e12, .int .i64 x.e13, .int .i64 x.e14, .int .i64 x.e15, .int .i64 x.e16, .int .i64 x.e17, .int .i64 x.e18, .int .i64 x.e19, .int .i64 x.e20, .int .i64 x.e21, .int .i64 x.e22, .int .i64 x.e23, .int .i64 x.e24, .int .i64 x.e25, .int .i64 x.e26, .int .i64 x.e27, .int .i64 x.e28], rfl, rfl, ⟨[.int .i64 x.e4], [.int .i64 x.e5, .int .i64 x.e6, .int .i64 x.e7, .int .i64 x.e8, .int .i64 x.e9, .int .i64 x.e10, .int .i64 x.e11, .int .i64 x.e12, .int .i64 x.e13, .int .i64 x.e14, .int .i64 x.e15, .int .i64 x.e16, .int .i64 x.e17, .int .i64 x.e18, .int .i64 x.e19, .int .i64 x.e20, .int .i64 x.e21, .int .i64 x.e22, .int .i64 x.e23, .int .i64 x.e24, .int .i64 x.e25, .int .i64 x.e26, .int .i64 x.e27, .int .i64 x.e28], rfl, rfl, ⟨[.int .i64 x.e5], [.int .i64 x.e6, .int .i64 x.e7, .int .i64 x.e8, .int .i64 x.e9, .int .i64 x.e10, .int .i64 x.e11, .int .i64 x.e12, .int .i64 x.e13, .int .i64 x.e14, .int .i64 x.e15, .int .i64 x.e16, .int .i64 x.e17, .int .i64 x.e18, .int .i64 x.e19, .int .i64 x.e20, .int .i64 x.e21, .int .i64 x.e22, .int .i64 x.e23, .int .i64 x.e24, .int .i64 x.e25, .int .i64 x.e26, .int .i64 x.e27, .int .i64 x.e28], rfl, rfl, ⟨[.int .i64 x.e6], [.int .i64 x.e7, .int .i64 x.e8, .int .i64 x.e9, .int .i64 x.e10, .int .i64 x.e11, .int .i64 x.e12, .int .i64 x.e13, .int .i64 x.e14, .int .i64 x.e15, .int .i64 x.e16, .int .i64 x.e17, .int .i64 x.e18, .int .i64 x.e19, .int .i64 x.e20, .int .i64 x.e21, .int .i64 x.e22, .int .i64 x.e23, .int .i64 x.e24, .int .i64 x.e25, .int .i64 x.e26, .int .i64 x.e27, .int .i64 x.e28], rfl, rfl, ⟨[.int .i64 x.e7], [.int .i64 x.e8, .int .i64 x.e9, .int .i64 x.e10, .int .i64 x.e11, .int .i64 x.e12, .int .i64 x.e13, .int .i64 x.e14, .int .i64 x.e15, .int .i64 x.e16, .int .i64 x.e17, .int .i64 x.e18, .int .i64 x.e19, .int .i64 x.e20, .int .i64 x.e21, .int .i64 x.e22, .int .i64 x.e23, .int .i64 x.e24, .int .i64 x.e25, .int .i64 x.e26, .int .i64 x.e27, .int .i64 x.e28], rfl, rfl, ⟨[.int .i64 x.e8], [.int .i64 x.e9, .int .i64 x.e10, .int .i64 x.e11, .int .i64 x.e12, .int .i64 x.e13, .int .i64 x.e14, .int .i64 x.e15, .int .i64 x.e16, .int .i64 x.e17, .int .i64 x.e18, .int .i64 x.e19, .int .i64 x.e20, .int .i64 x.e21, .int .i64 x.e22, .int .i64 x.e23, .int .i64 x.e24, .int .i64 x.e25, .int .i64 x.e26, .int .i64 x.e27, .int .i64 x.e28], rfl, rfl, ⟨[.int .i64 x.e9], [.int .i64 x.e10, .int .i64 x.e11, .int .i64 x.e12, .int .i64 x.e13, .int .i64 x.e14, .int .i64 x.e15, .int .i64 x.e16, .int .i64 x.e17, .int .i64 x.e18, .int .i64 x.e19, .int .i64 x.e20, .int .i64 x.e21, .int .i64 x.e22, .int .i64 x.e23, .int .i64 x.e24, .int .i64 x.e25, .int .i64 x.e26, .int .i64 x.e27, .int .i64 x.e28], rfl, rfl, ⟨[.int .i64 x.e10], [.int .i64 x.e11, .int .i64 x.e12, .int .i64 x.e13, .int .i64 x.e14, .int .i64 x.e15, .int .i64 x.e16, .int .i64 x.e17, .int .i64 x.e18, .int .i64 x.e19, .int .i64 x.e20, .int .i64 x.e21, .int .i64 x.e22, .int .i64 x.e23, .int .i64 x.e24, .int .i64 x.e25, .int .i64 x.e26, .int .i64 x.e27, .int .i64 x.e28], rfl, rfl, ⟨[.int .i64 x.e11], [.int .i64 x.e12, .int .i64 x.e13, .int .i64 x.e14, .int .i64 x.e15, .int .i64 x.e16, .int .i64 x.e17, .int .i64 x.e18, .int .i64 x.e19, .int .i64 x.e20, .int .i64 x.e21, .int .i64 x.e22, .int .i64 x.e23, .int .i64 x.e24, .int .i64 x.e25, .int .i64 x.e26, .int .i64 x.e27, .int .i64 x.e28], rfl, rfl, ⟨[.int .i64 x.e12], [.int .i64 x.e13, .int .i64 x.e14, .int .i64 x.e15, .int .i64 x.e16, .int .i64 x.e17, .int .i64 x.e18, .int .i64 x.e19, .int .i64 x.e20, .int .i64 x.e21, .int .i64 x.e22, .int .i64 x.e23, .int .i64 x.e24, .int .i64 x.e25, .int .i64 x.e26, .int .i64 x.e27, .int .i64 x.e28], rfl, rfl, ⟨[.int .i64 x.e13], [.int .i64 x.e14, .int .i64 x.e15, .int .i64 x.e16, .int .i64 x.e17, .int .i64 x.e18, .int .i64 x.e19, .int .i64 x.e20, .int .i64 x.e21, .int .i64 x.e22, .int .i64 x.e23, .int .i64 x.e24, .int .i64 x.e25, .int .i64 x.e26, .int .i64 x.e27, .int .i64 x.e28], rfl, rfl, ⟨[.int .i64 x.e14], [.int .i64 x.e15, .int .i64 x.e16, .int .i64 x.e17, .int .i64 x.e18, .int .i64 x.e19, .int .i64 x.e20, .int .i64 x.e21, .int .i64 x.e22, .int .i64 x.e23, .int .i64 x.e24, .int .i64 x.e25, .int .i64 x.e26, .int .i64 x.e27, .int .i64 x.e28], rfl, rfl, ⟨[.int .i64 x.e15], [.int .i64 x.e16, .int .i64 x.e17, .int .i64 x.e18, .int .i64 x.e19, .int .i64 x.e20, .int .i64 x.e21, .int .i64 x.e22, .int .i64 x.e23, .int .i64 x.e24, .int .i64 x.e25, .int .i64 x.e26, .int .i64 x.e27, .int .i64 x.e28], rfl, rfl, ⟨[.int .i64 x.e16], [.int .i64 x.e17, .int .i64 x.e18, .int .i64 x.e19, .int .i64 x.e20, .int .i64 x.e21, .int .i64 x.e22, .int .i64 x.e23, .int .i64 x.e24, .int .i64 x.e25, .int .i64 x.e26, .int .i64 x.e27, .int .i64 x.e28], rfl, rfl, ⟨[.int .i64 x.e17], [.int .i64 x.e18, .int .i64 x.e19, .int .i64 x.e20, .int .i64 x.e21, .int .i64 x.e22, .int .i64 x.e23, .int .i64 x.e24, .int .i64 x.e25, .int .i64 x.e26, .int .i64 x.e27, .int .i64 x.e28], rfl, rfl, ⟨[.int .i64 x.e18], [.int .i64 x.e19, .int .i64 x.e20, .int .i64 x.e21, .int .i64 x.e22, .int .i64 x.e23, .int .i64 x.e24, .int .i64 x.e25, .int .i64 x.e26, .int .i64 x.e27, .int .i64 x.e28], rfl, rfl, ⟨[.int .i64 x.e19], [.int .i64 x.e20, .int .i64 x.e21, .int .i64 x.e22, .int .i64 x.e23, .int .i64 x.e24, .int .i64 x.e25, .int .i64 x.e26, .int .i64 x.e27, .int .i64 x.e28], rfl, rfl, ⟨[.int .i64 x.e20], [.int .i64 x.e21, .int .i64 x.e22, .int .i64 x.e23, .int .i64 x.e24, .int .i64 x.e25, .int .i64 x.e26, .int .i64 x.e27, .int .i64 x.e28], rfl, rfl, ⟨[.int .i64 x.e21], [.int .i64 x.e22, .int .i64 x.e23, .int .i64 x.e24, .int .i64 x.e25, .int .i64 x.e26, .int .i64 x.e27, .int .i64 x.e28], rfl, rfl, ⟨[.int .i64 x.e22], [.int .i64 x.e23, .int .i64 x.e24, .int .i64 x.e25, .int .i64 x.e26, .int .i64 x.e27, .int .i64 x.e28], rfl, rfl, ⟨[.int .i64 x.e23], [.int .i64 x.e24, .int .i64 x.e25, .int .i64 x.e26, .int .i64 x.e27, .int .i64 x.e28], rfl, rfl, ⟨[.int .i64 x.e24], [.int .i64 x.e25, .int .i64 x.e26, .int .i64 x.e27, .int .i64 x.e28], rfl, rfl, ⟨[.int .i64 x.e25], [.int .i64 x.e26, .int .i64 x.e27, .int .i64 x.e28], rfl, rfl, ⟨[.int .i64 x.e26], [.int .i64 x.e27, .int .i64 x.e28], rfl, rfl, ⟨[.int .i64 x.e27], [.int .i64 x.e28], rfl, rfl, rfl⟩⟩⟩⟩⟩⟩⟩⟩⟩⟩⟩⟩⟩⟩⟩⟩⟩⟩⟩⟩⟩⟩⟩⟩⟩⟩⟩⟩)
theorem ty2 : TyA Tryd.prog 2 false 1 := ⟨⟨_, Tryd.underlying2, rfl⟩, by kernel_rfl⟩
theorem sz2 : (Tryd.prog.info? 2).map (·.size) = some 1 := by kernel_rfl
theorem zr2 : (Tryd.prog.info? 2).bind (·.zero) = some (.int .i64 0) := by kernel_rfl
theorem ti2 : TI Tryd.prog 2 1 8 (.int .i64 0) := ⟨by kernel_rfl⟩
theorem zp2 (H : Hp) : (kI64).rep H (Value.cells (.int .i64 0)).toList 0 := rfl
theorem ty3 : TyA Tryd.prog 3 false 1 := ⟨⟨_, Tryd.underlying3, rfl⟩, by kernel_rfl⟩
theorem sz3 : (Tryd.prog.info? 3).map (·.size) = some 1 := by kernel_rfl
theorem zr3 : (Tryd.prog.info? 3).bind (·.zero) = some (.int .i64 0) := by kernel_rfl
theorem ti3 : TI Tryd.prog 3 1 8 (.int .i64 0) := ⟨by kernel_rfl⟩
theorem zp3 (H : Hp) : (kI64).rep H (Value.cells (.int .i64 0)).toList 0 := rfl
theorem ty4 : TyA Tryd.prog 4 false 1 := ⟨⟨_, Tryd.underlying4, rfl⟩, by kernel_rfl⟩
theorem sz4 : (Tryd.prog.info? 4).map (·.size) = some 1 := by kernel_rfl
theorem zr4 : (Tryd.prog.info? 4).bind (·.zero) = some (.bool false) := by kernel_rfl
theorem ti4 : TI Tryd.prog 4 1 1 (.bool false) := ⟨by kernel_rfl⟩
theorem zp4 (H : Hp) : (Kd.bool).rep H (Value.cells (.bool false)).toList false := rfl
theorem ty5 : TyA Tryd.prog 5 false 1 := ⟨⟨_, Tryd.underlying5, rfl⟩, by kernel_rfl⟩
theorem sz5 : (Tryd.prog.info? 5).map (·.size) = some 1 := by kernel_rfl
theorem zr5 : (Tryd.prog.info? 5).bind (·.zero) = some (.int .u8 0) := by kernel_rfl
theorem ti5 : TI Tryd.prog 5 1 1 (.int .u8 0) := ⟨by kernel_rfl⟩
theorem zp5 (H : Hp) : (kU8).rep H (Value.cells (.int .u8 0)).toList 0 := rfl
theorem ty22 : TyA Tryd.prog 22 false 1 := ⟨⟨_, Tryd.underlying22, rfl⟩, by kernel_rfl⟩
theorem sz22 : (Tryd.prog.info? 22).map (·.size) = some 1 := by kernel_rfl
theorem zr22 : (Tryd.prog.info? 22).bind (·.zero) = some (.int .u16 0) := by kernel_rfl
theorem ti22 : TI Tryd.prog 22 1 2 (.int .u16 0) := ⟨by kernel_rfl⟩
theorem zp22 (H : Hp) : ((Kd.int .u16)).rep H (Value.cells (.int .u16 0)).toList 0 := rfl
theorem ty41 : TyA Tryd.prog 41 false 1 := ⟨⟨_, Tryd.underlying41, rfl⟩, by kernel_rfl⟩
theorem sz41 : (Tryd.prog.info? 41).map (·.size) = some 1 := by kernel_rfl
theorem zr41 : (Tryd.prog.info? 41).bind (·.zero) = some (.slice none 0 0) := by kernel_rfl
theorem ti41 : TI Tryd.prog 41 1 24 (.slice none 0 0) := ⟨by kernel_rfl⟩
theorem zp41 (H : Hp) : ((Kd.slice kI64)).rep H (Value.cells (.slice none 0 0)).toList [] := ⟨_, rfl, ro_nil _ _⟩
theorem ty43 : TyA Tryd.prog 43 true 2 := ⟨⟨_, Tryd.underlying43, rfl⟩, by kernel_rfl⟩
theorem sz43 : (Tryd.prog.info? 43).map (·.size) = some 2 := by kernel_rfl
theorem zr43 : (Tryd.prog.info? 43).bind (·.zero) = some (.agg #[.slice none 0 0, .int .i64 0]) := by kernel_rfl
theorem ti43 : TI Tryd.prog 43 2 32 (.agg #[.slice none 0 0, .int .i64 0]) := ⟨by kernel_rfl⟩
theorem zp43 (H : Hp) : (k_fspec_Head).rep H (Value.cells (.agg #[.slice none 0 0, .int .i64 0])).toList (⟨[], 0⟩ : fspec_Head) := k_fspec_Head_in (x := ⟨[], 0⟩) (ro_nil _ _)
theorem ty65 : TyA Tryd.prog 65 true 3 := ⟨⟨_, Tryd.underlying65, rfl⟩, by kernel_rfl⟩
theorem sz65 : (Tryd.prog.info? 65).map (·.size) = some 3 := by kernel_rfl
theorem zr65 : (Tryd.prog.info? 65).bind (·.zero) = some (.agg #[.int .i64 0, .int .u16 0, .int .i64 0]) := by kernel_rfl
theorem ti65 : TI Tryd.prog 65 3 24 (.agg #[.int .i64 0, .int .u16 0, .int .i64 0]) := ⟨by kernel_rfl⟩
theorem zp65 (H : Hp) : (k_api_Plot).rep H (Value.cells (.agg #[.int .i64 0, .int .u16 0, .int .i64 0])).toList (⟨0, 0, 0⟩ : api_Plot) := k_api_Plot_in (x := ⟨0, 0, 0⟩)
theorem ty67 : TyA Tryd.prog 67 true 5 := ⟨⟨_, Tryd.underlying67, rfl⟩, by kernel_rfl⟩
theorem sz67 : (Tryd.prog.info? 67).map (·.size) = some 5 := by kernel_rfl
theorem zr67 : (Tryd.prog.info? 67).bind (·.zero) = some (.agg #[.int .u16 0, .int .i64 0, .int .u16 0, .int .i64 0, .bool false]) := by kernel_rfl
theorem ti67 : TI Tryd.prog 67 5 40 (.agg #[.int .u16 0, .int .i64 0, .int .u16 0, .int .i64 0, .bool false]) := ⟨by kernel_rfl⟩
theorem zp67 (H : Hp) : (k_cat048_Record).rep H (Value.cells (.agg #[.int .u16 0, .int .i64 0, .int .u16 0, .int .i64 0, .bool false])).toList (⟨0, (⟨0, 0, 0⟩ : api_Plot), false⟩ : cat048_Record) := k_cat048_Record_in (x := ⟨0, ⟨0, 0, 0⟩, false⟩)
theorem ty92 : TyA Tryd.prog 92 true 3 := ⟨⟨_, Tryd.underlying92, rfl⟩, by kernel_rfl⟩
theorem sz92 : (Tryd.prog.info? 92).map (·.size) = some 3 := by kernel_rfl
theorem zr92 : (Tryd.prog.info? 92).bind (·.zero) = some (.agg #[.int .i64 0, .int .u16 0, .int .i64 0]) := by kernel_rfl
theorem ti92 : TI Tryd.prog 92 3 24 (.agg #[.int .i64 0, .int .u16 0, .int .i64 0]) := ⟨by kernel_rfl⟩
theorem zp92 (H : Hp) : (k_radomeref10_Plot).rep H (Value.cells (.agg #[.int .i64 0, .int .u16 0, .int .i64 0])).toList (⟨0, 0, 0⟩ : radomeref10_Plot) := k_radomeref10_Plot_in (x := ⟨0, 0, 0⟩)
theorem ty94 : TyA Tryd.prog 94 true 5 := ⟨⟨_, Tryd.underlying94, rfl⟩, by kernel_rfl⟩
theorem sz94 : (Tryd.prog.info? 94).map (·.size) = some 5 := by kernel_rfl
theorem zr94 : (Tryd.prog.info? 94).bind (·.zero) = some (.agg #[.int .u16 0, .int .i64 0, .int .u16 0, .int .i64 0, .bool false]) := by kernel_rfl
theorem ti94 : TI Tryd.prog 94 5 40 (.agg #[.int .u16 0, .int .i64 0, .int .u16 0, .int .i64 0, .bool false]) := ⟨by kernel_rfl⟩
theorem zp94 (H : Hp) : (k_radomeref28_Record).rep H (Value.cells (.agg #[.int .u16 0, .int .i64 0, .int .u16 0, .int .i64 0, .bool false])).toList (⟨0, (⟨0, 0, 0⟩ : radomeref10_Plot), false⟩ : radomeref28_Record) := k_radomeref28_Record_in (x := ⟨0, ⟨0, 0, 0⟩, false⟩)
theorem ty144 : TyA Tryd.prog 144 true 29 := ⟨⟨_, Tryd.underlying144, rfl⟩, by kernel_rfl⟩
theorem sz144 : (Tryd.prog.info? 144).map (·.size) = some 29 := by kernel_rfl
theorem zr144 : (Tryd.prog.info? 144).bind (·.zero) = some (.agg #[.int .i64 0, .int .i64 0, .int .i64 0, .int .i64 0, .int .i64 0, .int .i64 0, .int .i64 0, .int .i64 0, .int .i64 0, .int .i64 0, .int .i64 0, .int .i64 0, .int .i64 0, .int .i64 0, .int .i64 0, .int .i64 0, .int .i64 0, .int .i64 0, .int .i64 0, .int .i64 0, .int .i64 0, .int .i64 0, .int .i64 0, .int .i64 0, .int .i64 0, .int .i64 0, .int .i64 0, .int .i64 0, .int .i64 0]) := by kernel_rfl
theorem ti144 : TI Tryd.prog 144 29 232 (.agg #[.int .i64 0, .int .i64 0, .int .i64 0, .int .i64 0, .int .i64 0, .int .i64 0, .int .i64 0, .int .i64 0, .int .i64 0, .int .i64 0, .int .i64 0, .int .i64 0, .int .i64 0, .int .i64 0, .int .i64 0, .int .i64 0, .int .i64 0, .int .i64 0, .int .i64 0, .int .i64 0, .int .i64 0, .int .i64 0, .int .i64 0, .int .i64 0, .int .i64 0, .int .i64 0, .int .i64 0, .int .i64 0, .int .i64 0]) := ⟨by kernel_rfl⟩
theorem zp144 (H : Hp) : (k_T144).rep H (Value.cells (.agg #[.int .i64 0, .int .i64 0, .int .i64 0, .int .i64 0, .int .i64 0, .int .i64 0, .int .i64 0, .int .i64 0, .int .i64 0, .int .i64 0, .int .i64 0, .int .i64 0, .int .i64 0, .int .i64 0, .int .i64 0, .int .i64 0, .int .i64 0, .int .i64 0, .int .i64 0, .int .i64 0, .int .i64 0, .int .i64 0, .int .i64 0, .int .i64 0, .int .i64 0, .int .i64 0, .int .i64 0, .int .i64 0, .int .i64 0])).toList (⟨0, 0, 0, 0, 0, 0, 0, 0, 0, 0, 0, 0, 0, 0, 0, 0, 0, 0, 0, 0, 0, 0, 0, 0, 0, 0, 0, 0, 0⟩ : T144) := k_T144_in (x := ⟨0, 0, 0, 0, 0, 0, 0, 0, 0, 0, 0, 0, 0, 0, 0, 0, 0, 0, 0, 0, 0, 0, 0, 0, 0, 0, 0, 0, 0⟩)
theorem co16 : CallOk Tryd.prog 16 := ⟨_, Tryd.func16, by decide, rfl⟩
theorem co21 : CallOk Tryd.prog 21 := ⟨_, Tryd.func21, by decide, rfl⟩
theorem co24 : CallOk Tryd.prog 24 := ⟨_, Tryd.func24, by decide, rfl⟩
theorem co25 : CallOk Tryd.prog 25 := ⟨_, Tryd.func25, by decide, rfl⟩
theorem co26 : CallOk Tryd.prog 26 := ⟨_, Tryd.func26, by decide, rfl⟩
theorem co28 : CallOk Tryd.prog 28 := ⟨_, Tryd.func28, by decide, rfl⟩
theorem co29 : CallOk Tryd.prog 29 := ⟨_, Tryd.func29, by decide, rfl⟩
theorem co30 : CallOk Tryd.prog 30 := ⟨_, Tryd.func30, by decide, rfl⟩
theorem co43 : CallOk Tryd.prog 43 := ⟨_, Tryd.func43, by decide, rfl⟩
theorem co44 : CallOk Tryd.prog 44 := ⟨_, Tryd.func44, by decide, rfl⟩
theorem co45 : CallOk Tryd.prog 45 := ⟨_, Tryd.func45, by decide, rfl⟩
theorem co46 : CallOk Tryd.prog 46 := ⟨_, Tryd.func46, by decide, rfl⟩
theorem co47 : CallOk Tryd.prog 47 := ⟨_, Tryd.func47, by decide, rfl⟩
theorem co49 : CallOk Tryd.prog 49 := ⟨_, Tryd.func49, by decide, rfl⟩
theorem co50 : CallOk Tryd.prog 50 := ⟨_, Tryd.func50, by decide, rfl⟩
theorem co62 : CallOk Tryd.prog 62 := ⟨_, Tryd.func62, by decide, rfl⟩
theorem co63 : CallOk Tryd.prog 63 := ⟨_, Tryd.func63, by decide, rfl⟩
theorem co64 : CallOk Tryd.prog 64 := ⟨_, Tryd.func64, by decide, rfl⟩
theorem co65 : CallOk Tryd.prog 65 := ⟨_, Tryd.func65, by decide, rfl⟩
theorem co66 : CallOk Tryd.prog 66 := ⟨_, Tryd.func66, by decide, rfl⟩
theorem co67 : CallOk Tryd.prog 67 := ⟨_, Tryd.func67, by decide, rfl⟩
theorem co79 : CallOk Tryd.prog 79 := ⟨_, Tryd.func79, by decide, rfl⟩
theorem co80 : CallOk Tryd.prog 80 := ⟨_, Tryd.func80, by decide, rfl⟩
theorem co81 : CallOk Tryd.prog 81 := ⟨_, Tryd.func81, by decide, rfl⟩
theorem co82 : CallOk Tryd.prog 82 := ⟨_, Tryd.func82, by decide, rfl⟩
theorem co83 : CallOk Tryd.prog 83 := ⟨_, Tryd.func83, by decide, rfl⟩
theorem fn_7 : Tryd.prog.funcs[7]? = some Tryd.f7 := Tryd.func7
theorem rs_7 : Tryd.f7.results = ⟨[.tmp 6]⟩ := rfl
theorem nt_7 : Tryd.f7.ntmps = 136 := rfl
theorem fn_16 : Tryd.prog.funcs[16]? = some Tryd.f16 := Tryd.func16
theorem rs_16 : Tryd.f16.results = ⟨[.cell 4 43, .tmp 5]⟩ := rfl
theorem nt_16 : Tryd.f16.ntmps = 58 := rfl
theorem fn_21 : Tryd.prog.funcs[21]? = some Tryd.f21 := Tryd.func21
theorem rs_21 : Tryd.f21.results = ⟨[.tmp 4]⟩ := rfl
theorem nt_21 : Tryd.f21.ntmps = 9 := rfl
theorem fn_24 : Tryd.prog.funcs[24]? = some Tryd.f24 := Tryd.func24
theorem rs_24 : Tryd.f24.results = ⟨[.tmp 0]⟩ := rfl
theorem nt_24 : Tryd.f24.ntmps = 57 := rfl
theorem fn_25 : Tryd.prog.funcs[25]? = some Tryd.f25 := Tryd.func25
theorem rs_25 : Tryd.f25.results = ⟨[.tmp 2, .tmp 3]⟩ := rfl
theorem nt_25 : Tryd.f25.ntmps = 44 := rfl
theorem fn_26 : Tryd.prog.funcs[26]? = some Tryd.f26 := Tryd.func26
theorem rs_26 : Tryd.f26.results = ⟨[.tmp 2]⟩ := rfl
theorem nt_26 : Tryd.f26.ntmps = 31 := rfl
theorem fn_29 : Tryd.prog.funcs[29]? = some Tryd.f29 := Tryd.func29
theorem rs_29 : Tryd.f29.results = ⟨[.tmp 2, .tmp 3]⟩ := rfl
theorem nt_29 : Tryd.f29.ntmps = 42 := rfl
theorem fn_30 : Tryd.prog.funcs[30]? = some Tryd.f30 := Tryd.func30
theorem rs_30 : Tryd.f30.results = ⟨[.tmp 4]⟩ := rfl
theorem nt_30 : Tryd.f30.ntmps = 54 := rfl
theorem fn_43 : Tryd.prog.funcs[43]? = some Tryd.f43 := Tryd.func43
theorem rs_43 : Tryd.f43.results = ⟨[.tmp 4]⟩ := rfl
theorem nt_43 : Tryd.f43.ntmps = 25 := rfl
theorem fn_44 : Tryd.prog.funcs[44]? = some Tryd.f44 := Tryd.func44
theorem rs_44 : Tryd.f44.results = ⟨[.tmp 4]⟩ := rfl
theorem nt_44 : Tryd.f44.ntmps = 9 := rfl
theorem fn_45 : Tryd.prog.funcs[45]? = some Tryd.f45 := Tryd.func45
theorem rs_45 : Tryd.f45.results = ⟨[.tmp 4, .tmp 5]⟩ := rfl
theorem nt_45 : Tryd.f45.ntmps = 36 := rfl
theorem fn_46 : Tryd.prog.funcs[46]? = some Tryd.f46 := Tryd.func46
theorem rs_46 : Tryd.f46.results = ⟨[.tmp 2]⟩ := rfl
theorem nt_46 : Tryd.f46.ntmps = 35 := rfl
theorem fn_47 : Tryd.prog.funcs[47]? = some Tryd.f47 := Tryd.func47
theorem rs_47 : Tryd.f47.results = ⟨[.tmp 2]⟩ := rfl
theorem nt_47 : Tryd.f47.ntmps = 42 := rfl
theorem fn_49 : Tryd.prog.funcs[49]? = some Tryd.f49 := Tryd.func49
theorem rs_49 : Tryd.f49.results = ⟨[.tmp 2]⟩ := rfl
theorem nt_49 : Tryd.f49.ntmps = 32 := rfl
theorem fn_50 : Tryd.prog.funcs[50]? = some Tryd.f50 := Tryd.func50
theorem rs_50 : Tryd.f50.results = ⟨[.cell 2 67, .tmp 3, .tmp 4]⟩ := rfl
theorem nt_50 : Tryd.f50.ntmps = 80 := rfl
theorem fn_62 : Tryd.prog.funcs[62]? = some Tryd.f62 := Tryd.func62
theorem rs_62 : Tryd.f62.results = ⟨[.tmp 4]⟩ := rfl
theorem nt_62 : Tryd.f62.ntmps = 19 := rfl
theorem fn_63 : Tryd.prog.funcs[63]? = some Tryd.f63 := Tryd.func63
theorem rs_63 : Tryd.f63.results = ⟨[.tmp 2]⟩ := rfl
theorem nt_63 : Tryd.f63.ntmps = 6 := rfl
theorem fn_64 : Tryd.prog.funcs[64]? = some Tryd.f64 := Tryd.func64
theorem rs_64 : Tryd.f64.results = ⟨[.tmp 4, .tmp 5]⟩ := rfl
theorem nt_64 : Tryd.f64.ntmps = 37 := rfl
theorem fn_65 : Tryd.prog.funcs[65]? = some Tryd.f65 := Tryd.func65
theorem rs_65 : Tryd.f65.results = ⟨[.tmp 2]⟩ := rfl
theorem nt_65 : Tryd.f65.ntmps = 19 := rfl
theorem fn_67 : Tryd.prog.funcs[67]? = some Tryd.f67 := Tryd.func67
theorem rs_67 : Tryd.f67.results = ⟨[.tmp 6]⟩ := rfl
theorem nt_67 : Tryd.f67.ntmps = 46 := rfl
theorem fn_79 : Tryd.prog.funcs[79]? = some Tryd.f79 := Tryd.func79
theorem rs_79 : Tryd.f79.results = ⟨[.tmp 2, .tmp 3]⟩ := rfl
theorem nt_79 : Tryd.f79.ntmps = 20 := rfl
theorem fn_80 : Tryd.prog.funcs[80]? = some Tryd.f80 := Tryd.func80
theorem rs_80 : Tryd.f80.results = ⟨[.tmp 2, .tmp 3]⟩ := rfl
theorem nt_80 : Tryd.f80.ntmps = 39 := rfl
theorem fn_81 : Tryd.prog.funcs[81]? = some Tryd.f81 := Tryd.func81
theorem rs_81 : Tryd.f81.results = ⟨[.tmp 4, .tmp 5]⟩ := rfl
theorem nt_81 : Tryd.f81.ntmps = 17 := rfl
theorem fn_82 : Tryd.prog.funcs[82]? = some Tryd.f82 := Tryd.func82
theorem rs_82 : Tryd.f82.results = ⟨[.tmp 2, .tmp 3]⟩ := rfl
theorem nt_82 : Tryd.f82.ntmps = 44 := rfl
theorem fn_83 : Tryd.prog.funcs[83]? = some Tryd.f83 := Tryd.func83
theorem rs_83 : Tryd.f83.results = ⟨[.tmp 2, .tmp 3]⟩ := rfl
theorem nt_83 : Tryd.f83.ntmps = 19 := rfl
theorem mixed : Tryd.prog.follows .mixedOrders = true := by kernel_rfl
def GH (H : Hp) : Prop := ∃ o, H.at_ 0 = some o ∧ ∀ w : World, w.heap[0]? = some o → GG w
theorem GH.mono {H H' : Hp} (h : GH H) (hle : H.le H') : GH H' := let ⟨o, h1, h2⟩ := h; ⟨o, hle.at_ 0 o h1, h2⟩
theorem gh_of {W : World} (h : GG W) : GH (snap W) := by
 unfold GG at h
 have h1 := h
 unfold World.cell? at h1
 split at h1
 · rename_i c1 T fz hh
   refine ⟨_, hh, fun w hw => ?_⟩
   show w.cell? _ = _
   unfold World.cell?
   rw [hw]; exact h1
 · cases h1
def errN (e : Option Int) : Int := e.getD 0
theorem num12.calls {H : Hp} {L : Items} {e : Option Int} (hG : GH H) (he : some (errN e) = some (errN e)) : Ct Tryd.prog 12 ⟨[errV 73 e]⟩ H L (fun v H' L' => L = L' ∧ H = H' ∧ v = .int .i64 (errN e)) := Ct.of_calls fun w hw => by
 obtain ⟨o, h1, h2⟩ := hG
 have hg := h2 w (hw.good 0 o h1)
 have this : Calls Tryd.prog 12 #[errV 73 e] w fun ev w' => ev = .returned (.int .i64 (e.getD 0)) ∧ Below w.heap.size w w' := by
  cases e with
  | none => exact num12_any none w hg
  | some c => exact num12_any (some c) w hg
 refine this.mono ?_
 rintro ev w' ⟨rfl, hb⟩
 exact ⟨_, _, _, rfl, hw.below hb, rfl, rfl, rfl⟩
theorem num23.calls {H : Hp} {L : Items} {e : Option Int} (hG : GH H) (he : some (errN e) = some (errN e)) : Ct Tryd.prog 23 ⟨[errV 73 e]⟩ H L (fun v H' L' => L = L' ∧ H = H' ∧ v = .int .i64 (errN e)) := Ct.of_calls fun w hw => by
 obtain ⟨o, h1, h2⟩ := hG
 have hg := h2 w (hw.good 0 o h1)
 have this : Calls Tryd.prog 23 #[errV 73 e] w fun ev w' => ev = .returned (.int .i64 (e.getD 0)) ∧ Below w.heap.size w w' := by
  cases e with
  | none => exact num23_any none w hg
  | some c => exact num23_any (some c) w hg
 refine this.mono ?_
 rintro ev w' ⟨rfl, hb⟩
 exact ⟨_, _, _, rfl, hw.below hb, rfl, rfl, rfl⟩
theorem num28.calls {H : Hp} {L : Items} {e : Option Int} (hG : GH H) (he : some (errN e) = some (errN e)) : Ct Tryd.prog 28 ⟨[errV 73 e]⟩ H L (fun v H' L' => L = L' ∧ H = H' ∧ v = .int .i64 (errN e)) := Ct.of_calls fun w hw => by
 obtain ⟨o, h1, h2⟩ := hG
 have hg := h2 w (hw.good 0 o h1)
 have this : Calls Tryd.prog 28 #[errV 73 e] w fun ev w' => ev = .returned (.int .i64 (e.getD 0)) ∧ Below w.heap.size w w' := by
  cases e with
  | none => exact num28_any none w hg
  | some c => exact num28_any (some c) w hg
 refine this.mono ?_
 rintro ev w' ⟨rfl, hb⟩
 exact ⟨_, _, _, rfl, hw.below hb, rfl, rfl, rfl⟩
theorem is66.calls {H : Hp} {L : Items} {e : Option Int} {b : Int} : Ct Tryd.prog 66 ⟨[errV 73 e, errV 73 (some b)]⟩ H L (fun v H' L' => L = L' ∧ H = H' ∧ v = .bool (decide (e = some b))) := Ct.of_calls fun w hw => by
 cases e with
 | none => refine (is_nil b w).mono ?_; rintro ev w' ⟨rfl, rfl⟩; exact ⟨_, _, _, rfl, hw, rfl, rfl, by simp⟩
 | some a => refine (is_num a b w).mono ?_; rintro ev w' ⟨rfl, rfl⟩; exact ⟨_, _, _, rfl, hw, rfl, rfl, by simp⟩

end Go.Proofs.YtlokgnjlnefbbaaDoor.GCB
