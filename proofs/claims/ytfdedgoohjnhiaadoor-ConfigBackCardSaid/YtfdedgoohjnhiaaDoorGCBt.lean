/- A text of this session, written by a program (wip/k/gen.py): Go functions as Lean functions, and proofs that the code comes to them. -/
import Derived.Test.YtfdedgoohjnhiaaDoorGCBk16
import Derived.Test.YtfdedgoohjnhiaaDoorAs
namespace Go.Proofs.YtfdedgoohjnhiaaDoor.GCB
open Go Go.RowKit Go.Proofs.YtfdedgoohjnhiaaDoorK Go.Proofs.YtfdedgoohjnhiaaDoor
set_option linter.unusedVariables false
set_option linter.unusedSimpArgs false
def str_0 : ByteArray := ⟨#[99, 97, 110, 110, 111, 116, 32, 98, 101, 32, 110, 101, 103, 97, 116, 105, 118, 101]⟩
def str_1 : ByteArray := ⟨#[116, 104, 101, 32, 114, 101, 115, 117, 108, 116, 32, 111, 102, 32, 40, 108, 101, 110, 40, 120, 41, 32, 42, 32, 99, 111, 117, 110, 116, 41, 32, 111, 118, 101, 114, 102, 108, 111, 119, 115]⟩
def str_2 : ByteArray := ⟨#[]⟩
def str_3 : ByteArray := ⟨#[115, 116, 105, 108, 108]⟩
def str_4 : ByteArray := ⟨#[112, 117, 115, 104, 101, 100]⟩
def str_5 : ByteArray := ⟨#[108, 101, 102, 116]⟩
def str_6 : ByteArray := ⟨#[114, 105, 103, 104, 116]⟩
structure radomeref10_Sensor where
 f_Range : Int
 f_Turn : Int
instance : Inhabited radomeref10_Sensor := ⟨⟨0, 0⟩⟩
def k_radomeref10_Sensor : Kd radomeref10_Sensor := Kd.map (fun s => (s.f_Range, s.f_Turn)) (Kd.pair (Kd.int .i64) (Kd.int .i64))
theorem k_radomeref10_Sensor_out {H : Hp} {cs : List Value} {x : radomeref10_Sensor} (h : k_radomeref10_Sensor.rep H cs x) : cs = [.int .i64 x.f_Range, .int .i64 x.f_Turn] := by
 obtain ⟨_, _, rfl, rfl, rfl⟩ := (show ((Kd.pair (Kd.int .i64) (Kd.int .i64))).rep H cs ((x.f_Range, x.f_Turn)) from h)
 rfl
theorem k_radomeref10_Sensor_in {H : Hp} {x : radomeref10_Sensor} : k_radomeref10_Sensor.rep H [.int .i64 x.f_Range, .int .i64 x.f_Turn] x :=
 (show ((Kd.pair (Kd.int .i64) (Kd.int .i64))).rep H _ ((x.f_Range, x.f_Turn)) from ⟨[.int .i64 x.f_Range], [.int .i64 x.f_Turn], rfl, rfl, rfl⟩)
structure radomeref11_Model where
 f_Kind : Int
 f_Rate : Int
 f_Noise : Int
instance : Inhabited radomeref11_Model := ⟨⟨0, 0, 0⟩⟩
def k_radomeref11_Model : Kd radomeref11_Model := Kd.map (fun s => (s.f_Kind, (s.f_Rate, s.f_Noise))) (Kd.pair (Kd.int .i64) (Kd.pair (Kd.int .i64) (Kd.int .i64)))
theorem k_radomeref11_Model_out {H : Hp} {cs : List Value} {x : radomeref11_Model} (h : k_radomeref11_Model.rep H cs x) : cs = [.int .i64 x.f_Kind, .int .i64 x.f_Rate, .int .i64 x.f_Noise] := by
 obtain ⟨_, _, rfl, rfl, ⟨_, _, rfl, rfl, rfl⟩⟩ := (show ((Kd.pair (Kd.int .i64) (Kd.pair (Kd.int .i64) (Kd.int .i64)))).rep H cs ((x.f_Kind, (x.f_Rate, x.f_Noise))) from h)
 rfl
theorem k_radomeref11_Model_in {H : Hp} {x : radomeref11_Model} : k_radomeref11_Model.rep H [.int .i64 x.f_Kind, .int .i64 x.f_Rate, .int .i64 x.f_Noise] x :=
 (show ((Kd.pair (Kd.int .i64) (Kd.pair (Kd.int .i64) (Kd.int .i64)))).rep H _ ((x.f_Kind, (x.f_Rate, x.f_Noise))) from ⟨[.int .i64 x.f_Kind], [.int .i64 x.f_Rate, .int .i64 x.f_Noise], rfl, rfl, ⟨[.int .i64 x.f_Rate], [.int .i64 x.f_Noise], rfl, rfl, rfl⟩⟩)
structure radomeref17_Conf where
 f_Models : List radomeref11_Model
 f_Rows : List (List Int)
 f_Floor : Int
instance : Inhabited radomeref17_Conf := ⟨⟨[], [], 0⟩⟩
def k_radomeref17_Conf : Kd radomeref17_Conf := Kd.map (fun s => (s.f_Models, (s.f_Rows, s.f_Floor))) (Kd.pair (Kd.slice k_radomeref11_Model) (Kd.pair (Kd.slice (Kd.slice (Kd.int .i64))) (Kd.int .i64)))
theorem k_radomeref17_Conf_out {H : Hp} {cs : List Value} {x : radomeref17_Conf} (h : k_radomeref17_Conf.rep H cs x) : ∃ v0, ∃ v1, cs = [v0, v1, .int .i64 x.f_Floor] ∧ Ro k_radomeref11_Model H v0 x.f_Models ∧ Ro (Kd.slice (Kd.int .i64)) H v1 x.f_Rows := by
 obtain ⟨_, _, rfl, ⟨v0, rfl, h0⟩, ⟨_, _, rfl, ⟨v1, rfl, h1⟩, rfl⟩⟩ := (show ((Kd.pair (Kd.slice k_radomeref11_Model) (Kd.pair (Kd.slice (Kd.slice (Kd.int .i64))) (Kd.int .i64)))).rep H cs ((x.f_Models, (x.f_Rows, x.f_Floor))) from h)
 exact ⟨v0, v1, rfl, h0, h1⟩
theorem k_radomeref17_Conf_in {H : Hp} {v0 : Value} {v1 : Value} {x : radomeref17_Conf} (h0 : Ro k_radomeref11_Model H v0 x.f_Models) (h1 : Ro (Kd.slice (Kd.int .i64)) H v1 x.f_Rows) : k_radomeref17_Conf.rep H [v0, v1, .int .i64 x.f_Floor] x :=
 (show ((Kd.pair (Kd.slice k_radomeref11_Model) (Kd.pair (Kd.slice (Kd.slice (Kd.int .i64))) (Kd.int .i64)))).rep H _ ((x.f_Models, (x.f_Rows, x.f_Floor))) from ⟨[v0], [v1, .int .i64 x.f_Floor], rfl, ⟨v0, rfl, h0⟩, ⟨[v1], [.int .i64 x.f_Floor], rfl, ⟨v1, rfl, h1⟩, rfl⟩⟩)
structure radomeref23_Rule where
 f_Hits : Int
 f_Window : Int
 f_Misses : Int
instance : Inhabited radomeref23_Rule := ⟨⟨0, 0, 0⟩⟩
def k_radomeref23_Rule : Kd radomeref23_Rule := Kd.map (fun s => (s.f_Hits, (s.f_Window, s.f_Misses))) (Kd.pair (Kd.int .i64) (Kd.pair (Kd.int .i64) (Kd.int .i64)))
theorem k_radomeref23_Rule_out {H : Hp} {cs : List Value} {x : radomeref23_Rule} (h : k_radomeref23_Rule.rep H cs x) : cs = [.int .i64 x.f_Hits, .int .i64 x.f_Window, .int .i64 x.f_Misses] := by
 obtain ⟨_, _, rfl, rfl, ⟨_, _, rfl, rfl, rfl⟩⟩ := (show ((Kd.pair (Kd.int .i64) (Kd.pair (Kd.int .i64) (Kd.int .i64)))).rep H cs ((x.f_Hits, (x.f_Window, x.f_Misses))) from h)
 rfl
theorem k_radomeref23_Rule_in {H : Hp} {x : radomeref23_Rule} : k_radomeref23_Rule.rep H [.int .i64 x.f_Hits, .int .i64 x.f_Window, .int .i64 x.f_Misses] x :=
 (show ((Kd.pair (Kd.int .i64) (Kd.pair (Kd.int .i64) (Kd.int .i64)))).rep H _ ((x.f_Hits, (x.f_Window, x.f_Misses))) from ⟨[.int .i64 x.f_Hits], [.int .i64 x.f_Window, .int .i64 x.f_Misses], rfl, rfl, ⟨[.int .i64 x.f_Window], [.int .i64 x.f_Misses], rfl, rfl, rfl⟩⟩)
structure radomeref30_Config where
 f_Sensor : radomeref10_Sensor
 f_Imm : radomeref17_Conf
 f_Rule : radomeref23_Rule
 f_Gate : Int
 f_Miss : Int
 f_Merge : Int
 f_Fast : Int
 f_Push : Int
 f_Tracks : Int
 f_From : Int
 f_Least : Int
 f_Most : Int
 f_Source : Int
instance : Inhabited radomeref30_Config := ⟨⟨(⟨0, 0⟩ : radomeref10_Sensor), (⟨[], [], 0⟩ : radomeref17_Conf), (⟨0, 0, 0⟩ : radomeref23_Rule), 0, 0, 0, 0, 0, 0, 0, 0, 0, 0⟩⟩
def k_radomeref30_Config : Kd radomeref30_Config := Kd.map (fun s => (s.f_Sensor, (s.f_Imm, (s.f_Rule, (s.f_Gate, (s.f_Miss, (s.f_Merge, (s.f_Fast, (s.f_Push, (s.f_Tracks, (s.f_From, (s.f_Least, (s.f_Most, s.f_Source))))))))))))) (Kd.pair k_radomeref10_Sensor (Kd.pair k_radomeref17_Conf (Kd.pair k_radomeref23_Rule (Kd.pair (Kd.int .i64) (Kd.pair (Kd.int .i64) (Kd.pair (Kd.int .i64) (Kd.pair (Kd.int .i64) (Kd.pair (Kd.int .i64) (Kd.pair (Kd.int .i64) (Kd.pair (Kd.int .i64) (Kd.pair (Kd.int .i64) (Kd.pair (Kd.int .i64) (Kd.int .u16)))))))))))))
theorem k_radomeref30_Config_out {H : Hp} {cs : List Value} {x : radomeref30_Config} (h : k_radomeref30_Config.rep H cs x) : ∃ v0, ∃ v1, cs = [.int .i64 x.f_Sensor.f_Range, .int .i64 x.f_Sensor.f_Turn, v0, v1, .int .i64 x.f_Imm.f_Floor, .int .i64 x.f_Rule.f_Hits, .int .i64 x.f_Rule.f_Window, .int .i64 x.f_Rule.f_Misses, .int .i64 x.f_Gate, .int .i64 x.f_Miss, .int .i64 x.f_Merge, .int .i64 x.f_Fast, .int .i64 x.f_Push, .int .i64 x.f_Tracks, .int .i64 x.f_From, .int .i64 x.f_Least, .int .i64 x.f_Most, .int .u16 x.f_Source] ∧ Ro k_radomeref11_Model H v0 x.f_Imm.f_Models ∧ Ro (Kd.slice (Kd.int .i64)) H v1 x.f_Imm.f_Rows := by
 obtain ⟨_, _, rfl, q1, ⟨_, _, rfl, q2, ⟨_, _, rfl, q3, ⟨_, _, rfl, rfl, ⟨_, _, rfl, rfl, ⟨_, _, rfl, rfl, ⟨_, _, rfl, rfl, ⟨_, _, rfl, rfl, ⟨_, _, rfl, rfl, ⟨_, _, rfl, rfl, ⟨_, _, rfl, rfl, ⟨_, _, rfl, rfl, rfl⟩⟩⟩⟩⟩⟩⟩⟩⟩⟩⟩⟩ := (show ((Kd.pair k_radomeref10_Sensor (Kd.pair k_radomeref17_Conf (Kd.pair k_radomeref23_Rule (Kd.pair (Kd.int .i64) (Kd.pair (Kd.int .i64) (Kd.pair (Kd.int .i64) (Kd.pair (Kd.int .i64) (Kd.pair (Kd.int .i64) (Kd.pair (Kd.int .i64) (Kd.pair (Kd.int .i64) (Kd.pair (Kd.int .i64) (Kd.pair (Kd.int .i64) (Kd.int .u16)))))))))))))).rep H cs ((x.f_Sensor, (x.f_Imm, (x.f_Rule, (x.f_Gate, (x.f_Miss, (x.f_Merge, (x.f_Fast, (x.f_Push, (x.f_Tracks, (x.f_From, (x.f_Least, (x.f_Most, x.f_Source))))))))))))) from h)
 obtain ⟨rfl⟩ := k_radomeref10_Sensor_out q1
 obtain ⟨v0, v1, rfl, h0, h1⟩ := k_radomeref17_Conf_out q2
 obtain ⟨rfl⟩ := k_radomeref23_Rule_out q3
 exact ⟨v0, v1, rfl, h0, h1⟩
theorem k_radomeref30_Config_in {H : Hp} {v0 : Value} {v1 : Value} {x : radomeref30_Config} (h0 : Ro k_radomeref11_Model H v0 x.f_Imm.f_Models) (h1 : Ro (Kd.slice (Kd.int .i64)) H v1 x.f_Imm.f_Rows) : k_radomeref30_Config.rep H [.int .i64 x.f_Sensor.f_Range, .int .i64 x.f_Sensor.f_Turn, v0, v1, .int .i64 x.f_Imm.f_Floor, .int .i64 x.f_Rule.f_Hits, .int .i64 x.f_Rule.f_Window, .int .i64 x.f_Rule.f_Misses, .int .i64 x.f_Gate, .int .i64 x.f_Miss, .int .i64 x.f_Merge, .int .i64 x.f_Fast, .int .i64 x.f_Push, .int .i64 x.f_Tracks, .int .i64 x.f_From, .int .i64 x.f_Least, .int .i64 x.f_Most, .int .u16 x.f_Source] x :=
 (show ((Kd.pair k_radomeref10_Sensor (Kd.pair k_radomeref17_Conf (Kd.pair k_radomeref23_Rule (Kd.pair (Kd.int .i64) (Kd.pair (Kd.int .i64) (Kd.pair (Kd.int .i64) (Kd.pair (Kd.int .i64) (Kd.pair (Kd.int .i64) (Kd.pair (Kd.int .i64) (Kd.pair (Kd.int .i64) (Kd.pair (Kd.int .i64) (Kd.pair (Kd.int .i64) (Kd.int .u16)))))))))))))).rep H _ ((x.f_Sensor, (x.f_Imm, (x.f_Rule, (x.f_Gate, (x.f_Miss, (x.f_Merge, (x.f_Fast, (x.f_Push, (x.f_Tracks, (x.f_From, (x.f_Least, (x.f_Most, x.f_Source))))))))))))) from ⟨[.int .i64 x.f_Sensor.f_Range, .int .i64 x.f_Sensor.f_Turn], [v0, v1, .int .i64 x.f_Imm.f_Floor, .int .i64 x.f_Rule.f_Hits, .int .i64 x.f_Rule.f_Window, .int .i64 x.f_Rule.f_Misses, .int .i64 x.f_Gate, .int .i64 x.f_Miss, .int .i64 x.f_Merge, .int .i64 x.f_Fast, .int .i64 x.f_Push, .int .i64 x.f_Tracks, .int .i64 x.f_From, .int .i64 x.f_Least, .int .i64 x.f_Most, .int .u16 x.f_Source], rfl, (k_radomeref10_Sensor_in), ⟨[v0, v1, .int .i64 x.f_Imm.f_Floor], [.int .i64 x.f_Rule.f_Hits, .int .i64 x.f_Rule.f_Window, .int .i64 x.f_Rule.f_Misses, .int .i64 x.f_Gate, .int .i64 x.f_Miss, .int .i64 x.f_Merge, .int .i64 x.f_Fast, .int .i64 x.f_Push, .int .i64 x.f_Tracks, .int .i64 x.f_From, .int .i64 x.f_Least, .int .i64 x.f_Most, .int .u16 x.f_Source], rfl, (k_radomeref17_Conf_in h0 h1), ⟨[.int .i64 x.f_Rule.f_Hits, .int .i64 x.f_Rule.f_Window, .int .i64 x.f_Rule.f_Misses], [.int .i64 x.f_Gate, .int .i64 x.f_Miss, .int .i64 x.f_Merge, .int .i64 x.f_Fast, .int .i64 x.f_Push, .int .i64 x.f_Tracks, .int .i64 x.f_From, .int .i64 x.f_Least, .int .i64 x.f_Most, .int .u16 x.f_Source], rfl, (k_radomeref23_Rule_in), ⟨[.int .i64 x.f_Gate], [.int .i64 x.f_Miss, .int .i64 x.f_Merge, .int .i64 x.f_Fast, .int .i64 x.f_Push, .int .i64 x.f_Tracks, .int .i64 x.f_From, .int .i64 x.f_Least, .int .i64 x.f_Most, .int .u16 x.f_Source], rfl, rfl, ⟨[.int .i64 x.f_Miss], [.int .i64 x.f_Merge, .int .i64 x.f_Fast, .int .i64 x.f_Push, .int .i64 x.f_Tracks, .int .i64 x.f_From, .int .i64 x.f_Least, .int .i64 x.f_Most, .int .u16 x.f_Source], rfl, rfl, ⟨[.int .i64 x.f_Merge], [.int .i64 x.f_Fast, .int .i64 x.f_Push, .int .i64 x.f_Tracks, .int .i64 x.f_From, .int .i64 x.f_Least, .int .i64 x.f_Most, .int .u16 x.f_Source], rfl, rfl, ⟨[.int .i64 x.f_Fast], [.int .i64 x.f_Push, .int .i64 x.f_Tracks, .int .i64 x.f_From, .int .i64 x.f_Least, .int .i64 x.f_Most, .int .u16 x.f_Source], rfl, rfl, ⟨[.int .i64 x.f_Push], [.int .i64 x.f_Tracks, .int .i64 x.f_From, .int .i64 x.f_Least, .int .i64 x.f_Most, .int .u16 x.f_Source], rfl, rfl, ⟨[.int .i64 x.f_Tracks], [.int .i64 x.f_From, .int .i64 x.f_Least, .int .i64 x.f_Most, .int .u16 x.f_Source], rfl, rfl, ⟨[.int .i64 x.f_From], [.int .i64 x.f_Least, .int .i64 x.f_Most, .int .u16 x.f_Source], rfl, rfl, ⟨[.int .i64 x.f_Least], [.int .i64 x.f_Most, .int .u16 x.f_Source], rfl, rfl, ⟨[.int .i64 x.f_Most], [.int .u16 x.f_Source], rfl, rfl, rfl⟩⟩⟩⟩⟩⟩⟩⟩⟩⟩⟩⟩)
structure model_Model where
 f_Kind : Int
 f_Rate : Int
 f_Noise : Int
instance : Inhabited model_Model := ⟨⟨0, 0, 0⟩⟩
def k_model_Model : Kd model_Model := Kd.map (fun s => (s.f_Kind, (s.f_Rate, s.f_Noise))) (Kd.pair (Kd.int .i64) (Kd.pair (Kd.int .i64) (Kd.int .i64)))
theorem k_model_Model_out {H : Hp} {cs : List Value} {x : model_Model} (h : k_model_Model.rep H cs x) : cs = [.int .i64 x.f_Kind, .int .i64 x.f_Rate, .int .i64 x.f_Noise] := by
 obtain ⟨_, _, rfl, rfl, ⟨_, _, rfl, rfl, rfl⟩⟩ := (show ((Kd.pair (Kd.int .i64) (Kd.pair (Kd.int .i64) (Kd.int .i64)))).rep H cs ((x.f_Kind, (x.f_Rate, x.f_Noise))) from h)
 rfl
theorem k_model_Model_in {H : Hp} {x : model_Model} : k_model_Model.rep H [.int .i64 x.f_Kind, .int .i64 x.f_Rate, .int .i64 x.f_Noise] x :=
 (show ((Kd.pair (Kd.int .i64) (Kd.pair (Kd.int .i64) (Kd.int .i64)))).rep H _ ((x.f_Kind, (x.f_Rate, x.f_Noise))) from ⟨[.int .i64 x.f_Kind], [.int .i64 x.f_Rate, .int .i64 x.f_Noise], rfl, rfl, ⟨[.int .i64 x.f_Rate], [.int .i64 x.f_Noise], rfl, rfl, rfl⟩⟩)
structure polar_Sensor where
 f_Range : Int
 f_Turn : Int
instance : Inhabited polar_Sensor := ⟨⟨0, 0⟩⟩
def k_polar_Sensor : Kd polar_Sensor := Kd.map (fun s => (s.f_Range, s.f_Turn)) (Kd.pair (Kd.int .i64) (Kd.int .i64))
theorem k_polar_Sensor_out {H : Hp} {cs : List Value} {x : polar_Sensor} (h : k_polar_Sensor.rep H cs x) : cs = [.int .i64 x.f_Range, .int .i64 x.f_Turn] := by
 obtain ⟨_, _, rfl, rfl, rfl⟩ := (show ((Kd.pair (Kd.int .i64) (Kd.int .i64))).rep H cs ((x.f_Range, x.f_Turn)) from h)
 rfl
theorem k_polar_Sensor_in {H : Hp} {x : polar_Sensor} : k_polar_Sensor.rep H [.int .i64 x.f_Range, .int .i64 x.f_Turn] x :=
 (show ((Kd.pair (Kd.int .i64) (Kd.int .i64))).rep H _ ((x.f_Range, x.f_Turn)) from ⟨[.int .i64 x.f_Range], [.int .i64 x.f_Turn], rfl, rfl, rfl⟩)
structure imm_Conf where
 f_Models : List model_Model
 f_Rows : List (List Int)
 f_Floor : Int
instance : Inhabited imm_Conf := ⟨⟨[], [], 0⟩⟩
def k_imm_Conf : Kd imm_Conf := Kd.map (fun s => (s.f_Models, (s.f_Rows, s.f_Floor))) (Kd.pair (Kd.slice k_model_Model) (Kd.pair (Kd.slice (Kd.slice (Kd.int .i64))) (Kd.int .i64)))
theorem k_imm_Conf_out {H : Hp} {cs : List Value} {x : imm_Conf} (h : k_imm_Conf.rep H cs x) : ∃ v0, ∃ v1, cs = [v0, v1, .int .i64 x.f_Floor] ∧ Ro k_model_Model H v0 x.f_Models ∧ Ro (Kd.slice (Kd.int .i64)) H v1 x.f_Rows := by
 obtain ⟨_, _, rfl, ⟨v0, rfl, h0⟩, ⟨_, _, rfl, ⟨v1, rfl, h1⟩, rfl⟩⟩ := (show ((Kd.pair (Kd.slice k_model_Model) (Kd.pair (Kd.slice (Kd.slice (Kd.int .i64))) (Kd.int .i64)))).rep H cs ((x.f_Models, (x.f_Rows, x.f_Floor))) from h)
 exact ⟨v0, v1, rfl, h0, h1⟩
theorem k_imm_Conf_in {H : Hp} {v0 : Value} {v1 : Value} {x : imm_Conf} (h0 : Ro k_model_Model H v0 x.f_Models) (h1 : Ro (Kd.slice (Kd.int .i64)) H v1 x.f_Rows) : k_imm_Conf.rep H [v0, v1, .int .i64 x.f_Floor] x :=
 (show ((Kd.pair (Kd.slice k_model_Model) (Kd.pair (Kd.slice (Kd.slice (Kd.int .i64))) (Kd.int .i64)))).rep H _ ((x.f_Models, (x.f_Rows, x.f_Floor))) from ⟨[v0], [v1, .int .i64 x.f_Floor], rfl, ⟨v0, rfl, h0⟩, ⟨[v1], [.int .i64 x.f_Floor], rfl, ⟨v1, rfl, h1⟩, rfl⟩⟩)
structure life_Rule where
 f_Hits : Int
 f_Window : Int
 f_Misses : Int
instance : Inhabited life_Rule := ⟨⟨0, 0, 0⟩⟩
def k_life_Rule : Kd life_Rule := Kd.map (fun s => (s.f_Hits, (s.f_Window, s.f_Misses))) (Kd.pair (Kd.int .i64) (Kd.pair (Kd.int .i64) (Kd.int .i64)))
theorem k_life_Rule_out {H : Hp} {cs : List Value} {x : life_Rule} (h : k_life_Rule.rep H cs x) : cs = [.int .i64 x.f_Hits, .int .i64 x.f_Window, .int .i64 x.f_Misses] := by
 obtain ⟨_, _, rfl, rfl, ⟨_, _, rfl, rfl, rfl⟩⟩ := (show ((Kd.pair (Kd.int .i64) (Kd.pair (Kd.int .i64) (Kd.int .i64)))).rep H cs ((x.f_Hits, (x.f_Window, x.f_Misses))) from h)
 rfl
theorem k_life_Rule_in {H : Hp} {x : life_Rule} : k_life_Rule.rep H [.int .i64 x.f_Hits, .int .i64 x.f_Window, .int .i64 x.f_Misses] x :=
 (show ((Kd.pair (Kd.int .i64) (Kd.pair (Kd.int .i64) (Kd.int .i64)))).rep H _ ((x.f_Hits, (x.f_Window, x.f_Misses))) from ⟨[.int .i64 x.f_Hits], [.int .i64 x.f_Window, .int .i64 x.f_Misses], rfl, rfl, ⟨[.int .i64 x.f_Window], [.int .i64 x.f_Misses], rfl, rfl, rfl⟩⟩)
structure config_Config where
 f_Sensor : polar_Sensor
 f_Imm : imm_Conf
 f_Rule : life_Rule
 f_Gate : Int
 f_Miss : Int
 f_Merge : Int
 f_Fast : Int
 f_Push : Int
 f_Tracks : Int
 f_From : Int
 f_Least : Int
 f_Most : Int
 f_Source : Int
instance : Inhabited config_Config := ⟨⟨(⟨0, 0⟩ : polar_Sensor), (⟨[], [], 0⟩ : imm_Conf), (⟨0, 0, 0⟩ : life_Rule), 0, 0, 0, 0, 0, 0, 0, 0, 0, 0⟩⟩
def k_config_Config : Kd config_Config := Kd.map (fun s => (s.f_Sensor, (s.f_Imm, (s.f_Rule, (s.f_Gate, (s.f_Miss, (s.f_Merge, (s.f_Fast, (s.f_Push, (s.f_Tracks, (s.f_From, (s.f_Least, (s.f_Most, s.f_Source))))))))))))) (Kd.pair k_polar_Sensor (Kd.pair k_imm_Conf (Kd.pair k_life_Rule (Kd.pair (Kd.int .i64) (Kd.pair (Kd.int .i64) (Kd.pair (Kd.int .i64) (Kd.pair (Kd.int .i64) (Kd.pair (Kd.int .i64) (Kd.pair (Kd.int .i64) (Kd.pair (Kd.int .i64) (Kd.pair (Kd.int .i64) (Kd.pair (Kd.int .i64) (Kd.int .u16)))))))))))))
theorem k_config_Config_out {H : Hp} {cs : List Value} {x : config_Config} (h : k_config_Config.rep H cs x) : ∃ v0, ∃ v1, cs = [.int .i64 x.f_Sensor.f_Range, .int .i64 x.f_Sensor.f_Turn, v0, v1, .int .i64 x.f_Imm.f_Floor, .int .i64 x.f_Rule.f_Hits, .int .i64 x.f_Rule.f_Window, .int .i64 x.f_Rule.f_Misses, .int .i64 x.f_Gate, .int .i64 x.f_Miss, .int .i64 x.f_Merge, .int .i64 x.f_Fast, .int .i64 x.f_Push, .int .i64 x.f_Tracks, .int .i64 x.f_From, .int .i64 x.f_Least, .int .i64 x.f_Most, .int .u16 x.f_Source] ∧ Ro k_model_Model H v0 x.f_Imm.f_Models ∧ Ro (Kd.slice (Kd.int .i64)) H v1 x.f_Imm.f_Rows := by
 obtain ⟨_, _, rfl, q1, ⟨_, _, rfl, q2, ⟨_, _, rfl, q3, ⟨_, _, rfl, rfl, ⟨_, _, rfl, rfl, ⟨_, _, rfl, rfl, ⟨_, _, rfl, rfl, ⟨_, _, rfl, rfl, ⟨_, _, rfl, rfl, ⟨_, _, rfl, rfl, ⟨_, _, rfl, rfl, ⟨_, _, rfl, rfl, rfl⟩⟩⟩⟩⟩⟩⟩⟩⟩⟩⟩⟩ := (show ((Kd.pair k_polar_Sensor (Kd.pair k_imm_Conf (Kd.pair k_life_Rule (Kd.pair (Kd.int .i64) (Kd.pair (Kd.int .i64) (Kd.pair (Kd.int .i64) (Kd.pair (Kd.int .i64) (Kd.pair (Kd.int .i64) (Kd.pair (Kd.int .i64) (Kd.pair (Kd.int .i64) (Kd.pair (Kd.int .i64) (Kd.pair (Kd.int .i64) (Kd.int .u16)))))))))))))).rep H cs ((x.f_Sensor, (x.f_Imm, (x.f_Rule, (x.f_Gate, (x.f_Miss, (x.f_Merge, (x.f_Fast, (x.f_Push, (x.f_Tracks, (x.f_From, (x.f_Least, (x.f_Most, x.f_Source))))))))))))) from h)
 obtain ⟨rfl⟩ := k_polar_Sensor_out q1
 obtain ⟨v0, v1, rfl, h0, h1⟩ := k_imm_Conf_out q2
 obtain ⟨rfl⟩ := k_life_Rule_out q3
 exact ⟨v0, v1, rfl, h0, h1⟩
theorem k_config_Config_in {H : Hp} {v0 : Value} {v1 : Value} {x : config_Config} (h0 : Ro k_model_Model H v0 x.f_Imm.f_Models) (h1 : Ro (Kd.slice (Kd.int .i64)) H v1 x.f_Imm.f_Rows) : k_config_Config.rep H [.int .i64 x.f_Sensor.f_Range, .int .i64 x.f_Sensor.f_Turn, v0, v1, .int .i64 x.f_Imm.f_Floor, .int .i64 x.f_Rule.f_Hits, .int .i64 x.f_Rule.f_Window, .int .i64 x.f_Rule.f_Misses, .int .i64 x.f_Gate, .int .i64 x.f_Miss, .int .i64 x.f_Merge, .int .i64 x.f_Fast, .int .i64 x.f_Push, .int .i64 x.f_Tracks, .int .i64 x.f_From, .int .i64 x.f_Least, .int .i64 x.f_Most, .int .u16 x.f_Source] x :=
 (show ((Kd.pair k_polar_Sensor (Kd.pair k_imm_Conf (Kd.pair k_life_Rule (Kd.pair (Kd.int .i64) (Kd.pair (Kd.int .i64) (Kd.pair (Kd.int .i64) (Kd.pair (Kd.int .i64) (Kd.pair (Kd.int .i64) (Kd.pair (Kd.int .i64) (Kd.pair (Kd.int .i64) (Kd.pair (Kd.int .i64) (Kd.pair (Kd.int .i64) (Kd.int .u16)))))))))))))).rep H _ ((x.f_Sensor, (x.f_Imm, (x.f_Rule, (x.f_Gate, (x.f_Miss, (x.f_Merge, (x.f_Fast, (x.f_Push, (x.f_Tracks, (x.f_From, (x.f_Least, (x.f_Most, x.f_Source))))))))))))) from ⟨[.int .i64 x.f_Sensor.f_Range, .int .i64 x.f_Sensor.f_Turn], [v0, v1, .int .i64 x.f_Imm.f_Floor, .int .i64 x.f_Rule.f_Hits, .int .i64 x.f_Rule.f_Window, .int .i64 x.f_Rule.f_Misses, .int .i64 x.f_Gate, .int .i64 x.f_Miss, .int .i64 x.f_Merge, .int .i64 x.f_Fast, .int .i64 x.f_Push, .int .i64 x.f_Tracks, .int .i64 x.f_From, .int .i64 x.f_Least, .int .i64 x.f_Most, .int .u16 x.f_Source], rfl, (k_polar_Sensor_in), ⟨[v0, v1, .int .i64 x.f_Imm.f_Floor], [.int .i64 x.f_Rule.f_Hits, .int .i64 x.f_Rule.f_Window, .int .i64 x.f_Rule.f_Misses, .int .i64 x.f_Gate, .int .i64 x.f_Miss, .int .i64 x.f_Merge, .int .i64 x.f_Fast, .int .i64 x.f_Push, .int .i64 x.f_Tracks, .int .i64 x.f_From, .int .i64 x.f_Least, .int .i64 x.f_Most, .int .u16 x.f_Source], rfl, (k_imm_Conf_in h0 h1), ⟨[.int .i64 x.f_Rule.f_Hits, .int .i64 x.f_Rule.f_Window, .int .i64 x.f_Rule.f_Misses], [.int .i64 x.f_Gate, .int .i64 x.f_Miss, .int .i64 x.f_Merge, .int .i64 x.f_Fast, .int .i64 x.f_Push, .int .i64 x.f_Tracks, .int .i64 x.f_From, .int .i64 x.f_Least, .int .i64 x.f_Most, .int .u16 x.f_Source], rfl, (k_life_Rule_in), ⟨[.int .i64 x.f_Gate], [.int .i64 x.f_Miss, .int .i64 x.f_Merge, .int .i64 x.f_Fast, .int .i64 x.f_Push, .int .i64 x.f_Tracks, .int .i64 x.f_From, .int .i64 x.f_Least, .int .i64 x.f_Most, .int .u16 x.f_Source], rfl, rfl, ⟨[.int .i64 x.f_Miss], [.int .i64 x.f_Merge, .int .i64 x.f_Fast, .int .i64 x.f_Push, .int .i64 x.f_Tracks, .int .i64 x.f_From, .int .i64 x.f_Least, .int .i64 x.f_Most, .int .u16 x.f_Source], rfl, rfl, ⟨[.int .i64 x.f_Merge], [.int .i64 x.f_Fast, .int .i64 x.f_Push, .int .i64 x.f_Tracks, .int .i64 x.f_From, .int .i64 x.f_Least, .int .i64 x.f_Most, .int .u16 x.f_Source], rfl, rfl, ⟨[.int .i64 x.f_Fast], [.int .i64 x.f_Push, .int .i64 x.f_Tracks, .int .i64 x.f_From, .int .i64 x.f_Least, .int .i64 x.f_Most, .int .u16 x.f_Source], rfl, rfl, ⟨[.int .i64 x.f_Push], [.int .i64 x.f_Tracks, .int .i64 x.f_From, .int .i64 x.f_Least, .int .i64 x.f_Most, .int .u16 x.f_Source], rfl, rfl, ⟨[.int .i64 x.f_Tracks], [.int .i64 x.f_From, .int .i64 x.f_Least, .int .i64 x.f_Most, .int .u16 x.f_Source], rfl, rfl, ⟨[.int .i64 x.f_From], [.int .i64 x.f_Least, .int .i64 x.f_Most, .int .u16 x.f_Source], rfl, rfl, ⟨[.int .i64 x.f_Least], [.int .i64 x.f_Most, .int .u16 x.f_Source], rfl, rfl, ⟨[.int .i64 x.f_Most], [.int .u16 x.f_Source], rfl, rfl, rfl⟩⟩⟩⟩⟩⟩⟩⟩⟩⟩⟩⟩)
structure config_reader where
 f_b : List Int
instance : Inhabited config_reader := ⟨⟨[]⟩⟩
def k_config_reader : Kd config_reader := Kd.map (fun s => s.f_b) (Kd.slice (Kd.int .u8))
theorem k_config_reader_out {H : Hp} {cs : List Value} {x : config_reader} (h : k_config_reader.rep H cs x) : ∃ v0, cs = [v0] ∧ Ro (Kd.int .u8) H v0 x.f_b := by
 obtain ⟨v0, rfl, h0⟩ := (show ((Kd.slice (Kd.int .u8))).rep H cs (x.f_b) from h)
 exact ⟨v0, rfl, h0⟩
theorem k_config_reader_in {H : Hp} {v0 : Value} {x : config_reader} (h0 : Ro (Kd.int .u8) H v0 x.f_b) : k_config_reader.rep H [v0] x :=
 (show ((Kd.slice (Kd.int .u8))).rep H _ (x.f_b) from ⟨v0, rfl, h0⟩)
theorem ty2 : TyA Tryd.prog 2 false 1 := ⟨⟨_, Tryd.underlying2, rfl⟩, by kernel_rfl⟩
theorem sz2 : (Tryd.prog.info? 2).map (·.size) = some 1 := by kernel_rfl
theorem zr2 : (Tryd.prog.info? 2).bind (·.zero) = some (.int .i64 0) := by kernel_rfl
theorem ti2 : TI Tryd.prog 2 1 8 (.int .i64 0) := ⟨by kernel_rfl⟩
theorem zp2 (H : Hp) : ((Kd.int .i64)).rep H (Value.cells (.int .i64 0)).toList 0 := rfl
theorem ty3 : TyA Tryd.prog 3 false 1 := ⟨⟨_, Tryd.underlying3, rfl⟩, by kernel_rfl⟩
theorem sz3 : (Tryd.prog.info? 3).map (·.size) = some 1 := by kernel_rfl
theorem zr3 : (Tryd.prog.info? 3).bind (·.zero) = some (.int .i64 0) := by kernel_rfl
theorem ti3 : TI Tryd.prog 3 1 8 (.int .i64 0) := ⟨by kernel_rfl⟩
theorem zp3 (H : Hp) : ((Kd.int .i64)).rep H (Value.cells (.int .i64 0)).toList 0 := rfl
theorem ty5 : TyA Tryd.prog 5 false 1 := ⟨⟨_, Tryd.underlying5, rfl⟩, by kernel_rfl⟩
theorem sz5 : (Tryd.prog.info? 5).map (·.size) = some 1 := by kernel_rfl
theorem zr5 : (Tryd.prog.info? 5).bind (·.zero) = some (.int .u8 0) := by kernel_rfl
theorem ti5 : TI Tryd.prog 5 1 1 (.int .u8 0) := ⟨by kernel_rfl⟩
theorem zp5 (H : Hp) : ((Kd.int .u8)).rep H (Value.cells (.int .u8 0)).toList 0 := rfl
theorem ty23 : TyA Tryd.prog 23 true 2 := ⟨⟨_, Tryd.underlying23, rfl⟩, by kernel_rfl⟩
theorem sz23 : (Tryd.prog.info? 23).map (·.size) = some 2 := by kernel_rfl
theorem zr23 : (Tryd.prog.info? 23).bind (·.zero) = some (.agg #[.int .i64 0, .int .i64 0]) := by kernel_rfl
theorem ti23 : TI Tryd.prog 23 2 16 (.agg #[.int .i64 0, .int .i64 0]) := ⟨by kernel_rfl⟩
theorem zp23 (H : Hp) : (k_radomeref10_Sensor).rep H (Value.cells (.agg #[.int .i64 0, .int .i64 0])).toList (⟨0, 0⟩ : radomeref10_Sensor) := k_radomeref10_Sensor_in (x := ⟨0, 0⟩)
theorem ty24 : TyA Tryd.prog 24 false 1 := ⟨⟨_, Tryd.underlying24, rfl⟩, by kernel_rfl⟩
theorem sz24 : (Tryd.prog.info? 24).map (·.size) = some 1 := by kernel_rfl
theorem zr24 : (Tryd.prog.info? 24).bind (·.zero) = some (.slice none 0 0) := by kernel_rfl
theorem ti24 : TI Tryd.prog 24 1 24 (.slice none 0 0) := ⟨by kernel_rfl⟩
theorem zp24 (H : Hp) : ((Kd.slice k_radomeref11_Model)).rep H (Value.cells (.slice none 0 0)).toList [] := ⟨_, rfl, ro_nil _ _⟩
theorem ty25 : TyA Tryd.prog 25 false 1 := ⟨⟨_, Tryd.underlying25, rfl⟩, by kernel_rfl⟩
theorem sz25 : (Tryd.prog.info? 25).map (·.size) = some 1 := by kernel_rfl
theorem zr25 : (Tryd.prog.info? 25).bind (·.zero) = some (.slice none 0 0) := by kernel_rfl
theorem ti25 : TI Tryd.prog 25 1 24 (.slice none 0 0) := ⟨by kernel_rfl⟩
theorem zp25 (H : Hp) : ((Kd.slice (Kd.slice (Kd.int .i64)))).rep H (Value.cells (.slice none 0 0)).toList [] := ⟨_, rfl, ro_nil _ _⟩
theorem ty27 : TyA Tryd.prog 27 true 3 := ⟨⟨_, Tryd.underlying27, rfl⟩, by kernel_rfl⟩
theorem sz27 : (Tryd.prog.info? 27).map (·.size) = some 3 := by kernel_rfl
theorem zr27 : (Tryd.prog.info? 27).bind (·.zero) = some (.agg #[.slice none 0 0, .slice none 0 0, .int .i64 0]) := by kernel_rfl
theorem ti27 : TI Tryd.prog 27 3 56 (.agg #[.slice none 0 0, .slice none 0 0, .int .i64 0]) := ⟨by kernel_rfl⟩
theorem zp27 (H : Hp) : (k_radomeref17_Conf).rep H (Value.cells (.agg #[.slice none 0 0, .slice none 0 0, .int .i64 0])).toList (⟨[], [], 0⟩ : radomeref17_Conf) := k_radomeref17_Conf_in (x := ⟨[], [], 0⟩) (ro_nil _ _) (ro_nil _ _)
theorem ty29 : TyA Tryd.prog 29 true 3 := ⟨⟨_, Tryd.underlying29, rfl⟩, by kernel_rfl⟩
theorem sz29 : (Tryd.prog.info? 29).map (·.size) = some 3 := by kernel_rfl
theorem zr29 : (Tryd.prog.info? 29).bind (·.zero) = some (.agg #[.int .i64 0, .int .i64 0, .int .i64 0]) := by kernel_rfl
theorem ti29 : TI Tryd.prog 29 3 24 (.agg #[.int .i64 0, .int .i64 0, .int .i64 0]) := ⟨by kernel_rfl⟩
theorem zp29 (H : Hp) : (k_radomeref23_Rule).rep H (Value.cells (.agg #[.int .i64 0, .int .i64 0, .int .i64 0])).toList (⟨0, 0, 0⟩ : radomeref23_Rule) := k_radomeref23_Rule_in (x := ⟨0, 0, 0⟩)
theorem ty30 : TyA Tryd.prog 30 false 1 := ⟨⟨_, Tryd.underlying30, rfl⟩, by kernel_rfl⟩
theorem sz30 : (Tryd.prog.info? 30).map (·.size) = some 1 := by kernel_rfl
theorem zr30 : (Tryd.prog.info? 30).bind (·.zero) = some (.int .u16 0) := by kernel_rfl
theorem ti30 : TI Tryd.prog 30 1 2 (.int .u16 0) := ⟨by kernel_rfl⟩
theorem zp30 (H : Hp) : ((Kd.int .u16)).rep H (Value.cells (.int .u16 0)).toList 0 := rfl
theorem ty32 : TyA Tryd.prog 32 true 18 := ⟨⟨_, Tryd.underlying32, rfl⟩, by kernel_rfl⟩
theorem sz32 : (Tryd.prog.info? 32).map (·.size) = some 18 := by kernel_rfl
theorem zr32 : (Tryd.prog.info? 32).bind (·.zero) = some (.agg #[.int .i64 0, .int .i64 0, .slice none 0 0, .slice none 0 0, .int .i64 0, .int .i64 0, .int .i64 0, .int .i64 0, .int .i64 0, .int .i64 0, .int .i64 0, .int .i64 0, .int .i64 0, .int .i64 0, .int .i64 0, .int .i64 0, .int .i64 0, .int .u16 0]) := by kernel_rfl
theorem ti32 : TI Tryd.prog 32 18 176 (.agg #[.int .i64 0, .int .i64 0, .slice none 0 0, .slice none 0 0, .int .i64 0, .int .i64 0, .int .i64 0, .int .i64 0, .int .i64 0, .int .i64 0, .int .i64 0, .int .i64 0, .int .i64 0, .int .i64 0, .int .i64 0, .int .i64 0, .int .i64 0, .int .u16 0]) := ⟨by kernel_rfl⟩
theorem zp32 (H : Hp) : (k_radomeref30_Config).rep H (Value.cells (.agg #[.int .i64 0, .int .i64 0, .slice none 0 0, .slice none 0 0, .int .i64 0, .int .i64 0, .int .i64 0, .int .i64 0, .int .i64 0, .int .i64 0, .int .i64 0, .int .i64 0, .int .i64 0, .int .i64 0, .int .i64 0, .int .i64 0, .int .i64 0, .int .u16 0])).toList (⟨(⟨0, 0⟩ : radomeref10_Sensor), (⟨[], [], 0⟩ : radomeref17_Conf), (⟨0, 0, 0⟩ : radomeref23_Rule), 0, 0, 0, 0, 0, 0, 0, 0, 0, 0⟩ : radomeref30_Config) := k_radomeref30_Config_in (x := ⟨⟨0, 0⟩, ⟨[], [], 0⟩, ⟨0, 0, 0⟩, 0, 0, 0, 0, 0, 0, 0, 0, 0, 0⟩) (ro_nil _ _) (ro_nil _ _)
theorem ty34 : TyA Tryd.prog 34 false 1 := ⟨⟨_, Tryd.underlying34, rfl⟩, by kernel_rfl⟩
theorem sz34 : (Tryd.prog.info? 34).map (·.size) = some 1 := by kernel_rfl
theorem zr34 : (Tryd.prog.info? 34).bind (·.zero) = some (.slice none 0 0) := by kernel_rfl
theorem ti34 : TI Tryd.prog 34 1 24 (.slice none 0 0) := ⟨by kernel_rfl⟩
theorem zp34 (H : Hp) : ((Kd.slice (Kd.int .i64))).rep H (Value.cells (.slice none 0 0)).toList [] := ⟨_, rfl, ro_nil _ _⟩
theorem ty35 : TyA Tryd.prog 35 true 2 := ⟨⟨_, Tryd.underlying35, rfl⟩, by kernel_rfl⟩
theorem sz35 : (Tryd.prog.info? 35).map (·.size) = some 2 := by kernel_rfl
theorem zr35 : (Tryd.prog.info? 35).bind (·.zero) = some (.agg #[.int .i64 0, .int .i64 0]) := by kernel_rfl
theorem ti35 : TI Tryd.prog 35 2 16 (.agg #[.int .i64 0, .int .i64 0]) := ⟨by kernel_rfl⟩
theorem zp35 (H : Hp) : (k_polar_Sensor).rep H (Value.cells (.agg #[.int .i64 0, .int .i64 0])).toList (⟨0, 0⟩ : polar_Sensor) := k_polar_Sensor_in (x := ⟨0, 0⟩)
theorem ty36 : TyA Tryd.prog 36 false 1 := ⟨⟨_, Tryd.underlying36, rfl⟩, by kernel_rfl⟩
theorem sz36 : (Tryd.prog.info? 36).map (·.size) = some 1 := by kernel_rfl
theorem zr36 : (Tryd.prog.info? 36).bind (·.zero) = some (.slice none 0 0) := by kernel_rfl
theorem ti36 : TI Tryd.prog 36 1 24 (.slice none 0 0) := ⟨by kernel_rfl⟩
theorem zp36 (H : Hp) : ((Kd.slice k_model_Model)).rep H (Value.cells (.slice none 0 0)).toList [] := ⟨_, rfl, ro_nil _ _⟩
theorem ty38 : TyA Tryd.prog 38 true 3 := ⟨⟨_, Tryd.underlying38, rfl⟩, by kernel_rfl⟩
theorem sz38 : (Tryd.prog.info? 38).map (·.size) = some 3 := by kernel_rfl
theorem zr38 : (Tryd.prog.info? 38).bind (·.zero) = some (.agg #[.slice none 0 0, .slice none 0 0, .int .i64 0]) := by kernel_rfl
theorem ti38 : TI Tryd.prog 38 3 56 (.agg #[.slice none 0 0, .slice none 0 0, .int .i64 0]) := ⟨by kernel_rfl⟩
theorem zp38 (H : Hp) : (k_imm_Conf).rep H (Value.cells (.agg #[.slice none 0 0, .slice none 0 0, .int .i64 0])).toList (⟨[], [], 0⟩ : imm_Conf) := k_imm_Conf_in (x := ⟨[], [], 0⟩) (ro_nil _ _) (ro_nil _ _)
theorem ty39 : TyA Tryd.prog 39 true 3 := ⟨⟨_, Tryd.underlying39, rfl⟩, by kernel_rfl⟩
theorem sz39 : (Tryd.prog.info? 39).map (·.size) = some 3 := by kernel_rfl
theorem zr39 : (Tryd.prog.info? 39).bind (·.zero) = some (.agg #[.int .i64 0, .int .i64 0, .int .i64 0]) := by kernel_rfl
theorem ti39 : TI Tryd.prog 39 3 24 (.agg #[.int .i64 0, .int .i64 0, .int .i64 0]) := ⟨by kernel_rfl⟩
theorem zp39 (H : Hp) : (k_life_Rule).rep H (Value.cells (.agg #[.int .i64 0, .int .i64 0, .int .i64 0])).toList (⟨0, 0, 0⟩ : life_Rule) := k_life_Rule_in (x := ⟨0, 0, 0⟩)
theorem ty41 : TyA Tryd.prog 41 true 18 := ⟨⟨_, Tryd.underlying41, rfl⟩, by kernel_rfl⟩
theorem sz41 : (Tryd.prog.info? 41).map (·.size) = some 18 := by kernel_rfl
theorem zr41 : (Tryd.prog.info? 41).bind (·.zero) = some (.agg #[.int .i64 0, .int .i64 0, .slice none 0 0, .slice none 0 0, .int .i64 0, .int .i64 0, .int .i64 0, .int .i64 0, .int .i64 0, .int .i64 0, .int .i64 0, .int .i64 0, .int .i64 0, .int .i64 0, .int .i64 0, .int .i64 0, .int .i64 0, .int .u16 0]) := by kernel_rfl
theorem ti41 : TI Tryd.prog 41 18 176 (.agg #[.int .i64 0, .int .i64 0, .slice none 0 0, .slice none 0 0, .int .i64 0, .int .i64 0, .int .i64 0, .int .i64 0, .int .i64 0, .int .i64 0, .int .i64 0, .int .i64 0, .int .i64 0, .int .i64 0, .int .i64 0, .int .i64 0, .int .i64 0, .int .u16 0]) := ⟨by kernel_rfl⟩
theorem zp41 (H : Hp) : (k_config_Config).rep H (Value.cells (.agg #[.int .i64 0, .int .i64 0, .slice none 0 0, .slice none 0 0, .int .i64 0, .int .i64 0, .int .i64 0, .int .i64 0, .int .i64 0, .int .i64 0, .int .i64 0, .int .i64 0, .int .i64 0, .int .i64 0, .int .i64 0, .int .i64 0, .int .i64 0, .int .u16 0])).toList (⟨(⟨0, 0⟩ : polar_Sensor), (⟨[], [], 0⟩ : imm_Conf), (⟨0, 0, 0⟩ : life_Rule), 0, 0, 0, 0, 0, 0, 0, 0, 0, 0⟩ : config_Config) := k_config_Config_in (x := ⟨⟨0, 0⟩, ⟨[], [], 0⟩, ⟨0, 0, 0⟩, 0, 0, 0, 0, 0, 0, 0, 0, 0, 0⟩) (ro_nil _ _) (ro_nil _ _)
theorem ty43 : TyA Tryd.prog 43 false 1 := ⟨⟨_, Tryd.underlying43, rfl⟩, by kernel_rfl⟩
theorem sz43 : (Tryd.prog.info? 43).map (·.size) = some 1 := by kernel_rfl
theorem zr43 : (Tryd.prog.info? 43).bind (·.zero) = some (.slice none 0 0) := by kernel_rfl
theorem ti43 : TI Tryd.prog 43 1 24 (.slice none 0 0) := ⟨by kernel_rfl⟩
theorem zp43 (H : Hp) : ((Kd.slice (Kd.int .u8))).rep H (Value.cells (.slice none 0 0)).toList [] := ⟨_, rfl, ro_nil _ _⟩
theorem ty66 : TyA Tryd.prog 66 true 3 := ⟨⟨_, Tryd.underlying66, rfl⟩, by kernel_rfl⟩
theorem sz66 : (Tryd.prog.info? 66).map (·.size) = some 3 := by kernel_rfl
theorem zr66 : (Tryd.prog.info? 66).bind (·.zero) = some (.agg #[.int .i64 0, .int .i64 0, .int .i64 0]) := by kernel_rfl
theorem ti66 : TI Tryd.prog 66 3 24 (.agg #[.int .i64 0, .int .i64 0, .int .i64 0]) := ⟨by kernel_rfl⟩
theorem zp66 (H : Hp) : (k_model_Model).rep H (Value.cells (.agg #[.int .i64 0, .int .i64 0, .int .i64 0])).toList (⟨0, 0, 0⟩ : model_Model) := k_model_Model_in (x := ⟨0, 0, 0⟩)
theorem ty67 : TyA Tryd.prog 67 true 3 := ⟨⟨_, Tryd.underlying67, rfl⟩, by kernel_rfl⟩
theorem sz67 : (Tryd.prog.info? 67).map (·.size) = some 3 := by kernel_rfl
theorem zr67 : (Tryd.prog.info? 67).bind (·.zero) = some (.agg #[.int .i64 0, .int .i64 0, .int .i64 0]) := by kernel_rfl
theorem ti67 : TI Tryd.prog 67 3 24 (.agg #[.int .i64 0, .int .i64 0, .int .i64 0]) := ⟨by kernel_rfl⟩
theorem zp67 (H : Hp) : (k_radomeref11_Model).rep H (Value.cells (.agg #[.int .i64 0, .int .i64 0, .int .i64 0])).toList (⟨0, 0, 0⟩ : radomeref11_Model) := k_radomeref11_Model_in (x := ⟨0, 0, 0⟩)
theorem ty82 : TyA Tryd.prog 82 true 1 := ⟨⟨_, Tryd.underlying82, rfl⟩, by kernel_rfl⟩
theorem sz82 : (Tryd.prog.info? 82).map (·.size) = some 1 := by kernel_rfl
theorem zr82 : (Tryd.prog.info? 82).bind (·.zero) = some (.agg #[.slice none 0 0]) := by kernel_rfl
theorem ti82 : TI Tryd.prog 82 1 24 (.agg #[.slice none 0 0]) := ⟨by kernel_rfl⟩
theorem zp82 (H : Hp) : (k_config_reader).rep H (Value.cells (.agg #[.slice none 0 0])).toList (⟨[]⟩ : config_reader) := k_config_reader_in (x := ⟨[]⟩) (ro_nil _ _)
theorem co6 : CallOk Tryd.prog 6 := ⟨_, Tryd.func6, by decide, rfl⟩
theorem co7 : CallOk Tryd.prog 7 := ⟨_, Tryd.func7, by decide, rfl⟩
theorem co8 : CallOk Tryd.prog 8 := ⟨_, Tryd.func8, by decide, rfl⟩
theorem co9 : CallOk Tryd.prog 9 := ⟨_, Tryd.func9, by decide, rfl⟩
theorem co10 : CallOk Tryd.prog 10 := ⟨_, Tryd.func10, by decide, rfl⟩
theorem co11 : CallOk Tryd.prog 11 := ⟨_, Tryd.func11, by decide, rfl⟩
theorem co12 : CallOk Tryd.prog 12 := ⟨_, Tryd.func12, by decide, rfl⟩
theorem co14 : CallOk Tryd.prog 14 := ⟨_, Tryd.func14, by decide, rfl⟩
theorem co15 : CallOk Tryd.prog 15 := ⟨_, Tryd.func15, by decide, rfl⟩
theorem co17 : CallOk Tryd.prog 17 := ⟨_, Tryd.func17, by decide, rfl⟩
theorem co18 : CallOk Tryd.prog 18 := ⟨_, Tryd.func18, by decide, rfl⟩
theorem co19 : CallOk Tryd.prog 19 := ⟨_, Tryd.func19, by decide, rfl⟩
theorem co20 : CallOk Tryd.prog 20 := ⟨_, Tryd.func20, by decide, rfl⟩
theorem co21 : CallOk Tryd.prog 21 := ⟨_, Tryd.func21, by decide, rfl⟩
theorem co22 : CallOk Tryd.prog 22 := ⟨_, Tryd.func22, by decide, rfl⟩
theorem co23 : CallOk Tryd.prog 23 := ⟨_, Tryd.func23, by decide, rfl⟩
theorem co24 : CallOk Tryd.prog 24 := ⟨_, Tryd.func24, by decide, rfl⟩
theorem co25 : CallOk Tryd.prog 25 := ⟨_, Tryd.func25, by decide, rfl⟩
theorem co26 : CallOk Tryd.prog 26 := ⟨_, Tryd.func26, by decide, rfl⟩
theorem co27 : CallOk Tryd.prog 27 := ⟨_, Tryd.func27, by decide, rfl⟩
theorem co28 : CallOk Tryd.prog 28 := ⟨_, Tryd.func28, by decide, rfl⟩
theorem co30 : CallOk Tryd.prog 30 := ⟨_, Tryd.func30, by decide, rfl⟩
theorem co31 : CallOk Tryd.prog 31 := ⟨_, Tryd.func31, by decide, rfl⟩
theorem co32 : CallOk Tryd.prog 32 := ⟨_, Tryd.func32, by decide, rfl⟩
theorem co33 : CallOk Tryd.prog 33 := ⟨_, Tryd.func33, by decide, rfl⟩
theorem co36 : CallOk Tryd.prog 36 := ⟨_, Tryd.func36, by decide, rfl⟩
theorem co37 : CallOk Tryd.prog 37 := ⟨_, Tryd.func37, by decide, rfl⟩
theorem co38 : CallOk Tryd.prog 38 := ⟨_, Tryd.func38, by decide, rfl⟩
theorem co39 : CallOk Tryd.prog 39 := ⟨_, Tryd.func39, by decide, rfl⟩
theorem co40 : CallOk Tryd.prog 40 := ⟨_, Tryd.func40, by decide, rfl⟩
theorem co45 : CallOk Tryd.prog 45 := ⟨_, Tryd.func45, by decide, rfl⟩
theorem co46 : CallOk Tryd.prog 46 := ⟨_, Tryd.func46, by decide, rfl⟩
theorem co47 : CallOk Tryd.prog 47 := ⟨_, Tryd.func47, by decide, rfl⟩
theorem co48 : CallOk Tryd.prog 48 := ⟨_, Tryd.func48, by decide, rfl⟩
theorem co49 : CallOk Tryd.prog 49 := ⟨_, Tryd.func49, by decide, rfl⟩
theorem co54 : CallOk Tryd.prog 54 := ⟨_, Tryd.func54, by decide, rfl⟩
theorem fn_5 : Tryd.prog.funcs[5]? = some Tryd.f5 := Tryd.func5
theorem rs_5 : Tryd.f5.results = ⟨[.tmp 6]⟩ := rfl
theorem nt_5 : Tryd.f5.ntmps = 140 := rfl
theorem fn_6 : Tryd.prog.funcs[6]? = some Tryd.f6 := Tryd.func6
theorem rs_6 : Tryd.f6.results = ⟨[.tmp 0]⟩ := rfl
theorem nt_6 : Tryd.f6.ntmps = 45 := rfl
theorem fn_7 : Tryd.prog.funcs[7]? = some Tryd.f7 := Tryd.func7
theorem rs_7 : Tryd.f7.results = ⟨[.cell 2 41]⟩ := rfl
theorem nt_7 : Tryd.f7.ntmps = 60 := rfl
theorem fn_8 : Tryd.prog.funcs[8]? = some Tryd.f8 := Tryd.func8
theorem rs_8 : Tryd.f8.results = ⟨[.tmp 2, .tmp 3]⟩ := rfl
theorem nt_8 : Tryd.f8.ntmps = 35 := rfl
theorem fn_9 : Tryd.prog.funcs[9]? = some Tryd.f9 := Tryd.func9
theorem rs_9 : Tryd.f9.results = ⟨[.tmp 2]⟩ := rfl
theorem nt_9 : Tryd.f9.ntmps = 102 := rfl
theorem fn_10 : Tryd.prog.funcs[10]? = some Tryd.f10 := Tryd.func10
theorem rs_10 : Tryd.f10.results = ⟨[.tmp 2]⟩ := rfl
theorem nt_10 : Tryd.f10.ntmps = 84 := rfl
theorem fn_12 : Tryd.prog.funcs[12]? = some Tryd.f12 := Tryd.func12
theorem rs_12 : Tryd.f12.results = ⟨[.tmp 4]⟩ := rfl
theorem nt_12 : Tryd.f12.ntmps = 10 := rfl
theorem fn_14 : Tryd.prog.funcs[14]? = some Tryd.f14 := Tryd.func14
theorem rs_14 : Tryd.f14.results = ⟨[.tmp 2]⟩ := rfl
theorem nt_14 : Tryd.f14.ntmps = 101 := rfl
theorem fn_15 : Tryd.prog.funcs[15]? = some Tryd.f15 := Tryd.func15
theorem rs_15 : Tryd.f15.results = ⟨[.cell 2 41, .tmp 3]⟩ := rfl
theorem nt_15 : Tryd.f15.ntmps = 73 := rfl
theorem fn_17 : Tryd.prog.funcs[17]? = some Tryd.f17 := Tryd.func17
theorem rs_17 : Tryd.f17.results = ⟨[.tmp 4]⟩ := rfl
theorem nt_17 : Tryd.f17.ntmps = 26 := rfl
theorem fn_18 : Tryd.prog.funcs[18]? = some Tryd.f18 := Tryd.func18
theorem rs_18 : Tryd.f18.results = ⟨[.tmp 2]⟩ := rfl
theorem nt_18 : Tryd.f18.ntmps = 126 := rfl
theorem fn_19 : Tryd.prog.funcs[19]? = some Tryd.f19 := Tryd.func19
theorem rs_19 : Tryd.f19.results = ⟨[.cell 0 41]⟩ := rfl
theorem nt_19 : Tryd.f19.ntmps = 38 := rfl
theorem fn_20 : Tryd.prog.funcs[20]? = some Tryd.f20 := Tryd.func20
theorem rs_20 : Tryd.f20.results = ⟨[.cell 0 32]⟩ := rfl
theorem nt_20 : Tryd.f20.ntmps = 53 := rfl
theorem fn_21 : Tryd.prog.funcs[21]? = some Tryd.f21 := Tryd.func21
theorem rs_21 : Tryd.f21.results = ⟨[.tmp 2]⟩ := rfl
theorem nt_21 : Tryd.f21.ntmps = 88 := rfl
theorem fn_22 : Tryd.prog.funcs[22]? = some Tryd.f22 := Tryd.func22
theorem rs_22 : Tryd.f22.results = ⟨[.tmp 2]⟩ := rfl
theorem nt_22 : Tryd.f22.ntmps = 21 := rfl
theorem fn_23 : Tryd.prog.funcs[23]? = some Tryd.f23 := Tryd.func23
theorem rs_23 : Tryd.f23.results = ⟨[.tmp 2]⟩ := rfl
theorem nt_23 : Tryd.f23.ntmps = 62 := rfl
theorem fn_24 : Tryd.prog.funcs[24]? = some Tryd.f24 := Tryd.func24
theorem rs_24 : Tryd.f24.results = ⟨[.tmp 2]⟩ := rfl
theorem nt_24 : Tryd.f24.ntmps = 33 := rfl
theorem fn_25 : Tryd.prog.funcs[25]? = some Tryd.f25 := Tryd.func25
theorem rs_25 : Tryd.f25.results = ⟨[.tmp 2]⟩ := rfl
theorem nt_25 : Tryd.f25.ntmps = 22 := rfl
theorem fn_26 : Tryd.prog.funcs[26]? = some Tryd.f26 := Tryd.func26
theorem rs_26 : Tryd.f26.results = ⟨[.tmp 2]⟩ := rfl
theorem nt_26 : Tryd.f26.ntmps = 65 := rfl
theorem fn_27 : Tryd.prog.funcs[27]? = some Tryd.f27 := Tryd.func27
theorem rs_27 : Tryd.f27.results = ⟨[.tmp 2]⟩ := rfl
theorem nt_27 : Tryd.f27.ntmps = 29 := rfl
theorem fn_28 : Tryd.prog.funcs[28]? = some Tryd.f28 := Tryd.func28
theorem rs_28 : Tryd.f28.results = ⟨[.tmp 6]⟩ := rfl
theorem nt_28 : Tryd.f28.ntmps = 15 := rfl
theorem fn_30 : Tryd.prog.funcs[30]? = some Tryd.f30 := Tryd.func30
theorem rs_30 : Tryd.f30.results = ⟨[.tmp 4]⟩ := rfl
theorem nt_30 : Tryd.f30.ntmps = 26 := rfl
theorem fn_31 : Tryd.prog.funcs[31]? = some Tryd.f31 := Tryd.func31
theorem rs_31 : Tryd.f31.results = ⟨[.tmp 2]⟩ := rfl
theorem nt_31 : Tryd.f31.ntmps = 31 := rfl
theorem fn_32 : Tryd.prog.funcs[32]? = some Tryd.f32 := Tryd.func32
theorem rs_32 : Tryd.f32.results = ⟨[.cell 4 38]⟩ := rfl
theorem nt_32 : Tryd.f32.ntmps = 49 := rfl
theorem fn_33 : Tryd.prog.funcs[33]? = some Tryd.f33 := Tryd.func33
theorem rs_33 : Tryd.f33.results = ⟨[.tmp 4]⟩ := rfl
theorem nt_33 : Tryd.f33.ntmps = 76 := rfl
theorem fn_36 : Tryd.prog.funcs[36]? = some Tryd.f36 := Tryd.func36
theorem rs_36 : Tryd.f36.results = ⟨[.tmp 4]⟩ := rfl
theorem nt_36 : Tryd.f36.ntmps = 48 := rfl
theorem fn_37 : Tryd.prog.funcs[37]? = some Tryd.f37 := Tryd.func37
theorem rs_37 : Tryd.f37.results = ⟨[.tmp 2]⟩ := rfl
theorem nt_37 : Tryd.f37.ntmps = 35 := rfl
theorem fn_38 : Tryd.prog.funcs[38]? = some Tryd.f38 := Tryd.func38
theorem rs_38 : Tryd.f38.results = ⟨[.tmp 4]⟩ := rfl
theorem nt_38 : Tryd.f38.ntmps = 51 := rfl
theorem fn_39 : Tryd.prog.funcs[39]? = some Tryd.f39 := Tryd.func39
theorem rs_39 : Tryd.f39.results = ⟨[.tmp 2]⟩ := rfl
theorem nt_39 : Tryd.f39.ntmps = 36 := rfl
theorem fn_40 : Tryd.prog.funcs[40]? = some Tryd.f40 := Tryd.func40
theorem rs_40 : Tryd.f40.results = ⟨[.tmp 4]⟩ := rfl
theorem nt_40 : Tryd.f40.ntmps = 40 := rfl
theorem fn_45 : Tryd.prog.funcs[45]? = some Tryd.f45 := Tryd.func45
theorem rs_45 : Tryd.f45.results = ⟨[.tmp 4, .tmp 5]⟩ := rfl
theorem nt_45 : Tryd.f45.ntmps = 30 := rfl
theorem fn_46 : Tryd.prog.funcs[46]? = some Tryd.f46 := Tryd.func46
theorem rs_46 : Tryd.f46.results = ⟨[.tmp 2]⟩ := rfl
theorem nt_46 : Tryd.f46.ntmps = 11 := rfl
theorem fn_47 : Tryd.prog.funcs[47]? = some Tryd.f47 := Tryd.func47
theorem rs_47 : Tryd.f47.results = ⟨[.tmp 2]⟩ := rfl
theorem nt_47 : Tryd.f47.ntmps = 12 := rfl
theorem fn_48 : Tryd.prog.funcs[48]? = some Tryd.f48 := Tryd.func48
theorem rs_48 : Tryd.f48.results = ⟨[.tmp 2]⟩ := rfl
theorem nt_48 : Tryd.f48.ntmps = 9 := rfl
theorem fn_49 : Tryd.prog.funcs[49]? = some Tryd.f49 := Tryd.func49
theorem rs_49 : Tryd.f49.results = ⟨[.tmp 2]⟩ := rfl
theorem nt_49 : Tryd.f49.ntmps = 9 := rfl
theorem fn_53 : Tryd.prog.funcs[53]? = some Tryd.f53 := Tryd.func53
theorem rs_53 : Tryd.f53.results = ⟨[.tmp 4, .tmp 5]⟩ := rfl
theorem nt_53 : Tryd.f53.ntmps = 17 := rfl
theorem fn_54 : Tryd.prog.funcs[54]? = some Tryd.f54 := Tryd.func54
theorem rs_54 : Tryd.f54.results = ⟨[.tmp 4, .tmp 5]⟩ := rfl
theorem nt_54 : Tryd.f54.ntmps = 51 := rfl
theorem mixed : Tryd.prog.follows .mixedOrders = true := by kernel_rfl
def GH (H : Hp) : Prop := ∃ o, H.at_ 0 = some o ∧ ∀ w : World, w.heap[0]? = some o → GG w
theorem GH.mono {H H' : Hp} (h : GH H) (hle : H.le H') : GH H' := let ⟨o, h1, h2⟩ := h; ⟨o, hle.at_ 0 o h1, h2⟩
theorem gh_of {W : World} (h : GG W) : GH (snap W) := by
 unfold GG at h
 have h1 := h
 unfold World.cell? at h1
 split at h1
 · rename_i c1 T fz hh
   refine ⟨_, hh, fun w hw => ?_⟩
   show w.cell? _ = _
   unfold World.cell?
   rw [hw]; exact h1
 · cases h1
def errN (e : Option Int) : Int := e.getD 0
theorem num11.calls {H : Hp} {L : Items} {e : Option Int} (hG : GH H) (he : some (errN e) = some (errN e)) : Ct Tryd.prog 11 ⟨[errV 76 e]⟩ H L (fun v H' L' => L = L' ∧ H = H' ∧ v = .int .i64 (errN e)) := Ct.of_calls fun w hw => by
 obtain ⟨o, h1, h2⟩ := hG
 have hg := h2 w (hw.good 0 o h1)
 have this : Calls Tryd.prog 11 #[errV 76 e] w fun ev w' => ev = .returned (.int .i64 (e.getD 0)) ∧ Below w.heap.size w w' := by
  cases e with
  | none => exact num11_any none w hg
  | some c => exact num11_any (some c) w hg
 refine this.mono ?_
 rintro ev w' ⟨rfl, hb⟩
 exact ⟨_, _, _, rfl, hw.below hb, rfl, rfl, rfl⟩

end Go.Proofs.YtfdedgoohjnhiaaDoor.GCB
