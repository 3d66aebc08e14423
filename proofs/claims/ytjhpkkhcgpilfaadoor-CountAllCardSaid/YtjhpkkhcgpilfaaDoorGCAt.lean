/- A text of this session, written by a program (wip/k/gen.py): Go functions as Lean functions, and proofs that the code comes to them. -/
import Derived.Test.YtjhpkkhcgpilfaaDoorGCAk20
import Derived.Test.YtjhpkkhcgpilfaaDoorAs
import Derived.Conc.MuLone
import Derived.RegionTactic
import Derived.RegionCalls
namespace Go.Proofs.YtjhpkkhcgpilfaaDoor.GCA
open Go Go.RowKit Go.Proofs.YtjhpkkhcgpilfaaDoorK Go.Proofs.YtjhpkkhcgpilfaaDoor
set_option linter.unusedVariables false
set_option linter.unusedSimpArgs false
def str_0 : ByteArray := ⟨#[]⟩
def str_1 : ByteArray := ⟨#[115, 99, 97, 110, 115]⟩
def str_2 : ByteArray := ⟨#[98, 97, 100]⟩
def str_3 : ByteArray := ⟨#[101, 97, 114, 108, 121]⟩
def str_4 : ByteArray := ⟨#[103, 97, 112, 115]⟩
def str_5 : ByteArray := ⟨#[98, 101, 103, 117, 110]⟩
def str_6 : ByteArray := ⟨#[102, 117, 108, 108]⟩
def str_7 : ByteArray := ⟨#[101, 110, 100, 101, 100]⟩
def str_8 : ByteArray := ⟨#[115, 112, 105, 108, 116]⟩
def str_9 : ByteArray := ⟨#[115, 121, 110, 99, 58, 32, 117, 110, 108, 111, 99, 107, 32, 111, 102, 32, 117, 110, 108, 111, 99, 107, 101, 100, 32, 109, 117, 116, 101, 120]⟩
structure atomic_Int64 where
 f_v : Int
instance : Inhabited atomic_Int64 := ⟨⟨0⟩⟩
def k_atomic_Int64 : Kd atomic_Int64 := Kd.map (fun s => s.f_v) (Kd.int .i64)
theorem k_atomic_Int64_out {H : Hp} {cs : List Value} {x : atomic_Int64} (h : k_atomic_Int64.rep H cs x) : cs = [.int .i64 x.f_v] := by
 obtain rfl := (show ((Kd.int .i64)).rep H cs (x.f_v) from h)
 rfl
theorem k_atomic_Int64_in {H : Hp} {x : atomic_Int64} : k_atomic_Int64.rep H [.int .i64 x.f_v] x :=
 (show ((Kd.int .i64)).rep H _ (x.f_v) from rfl)
structure T117 where
 e0 : atomic_Int64
 e1 : atomic_Int64
 e2 : atomic_Int64
 e3 : atomic_Int64
 e4 : atomic_Int64
 e5 : atomic_Int64
 e6 : atomic_Int64
 e7 : atomic_Int64
instance : Inhabited T117 := ⟨⟨(⟨0⟩ : atomic_Int64), (⟨0⟩ : atomic_Int64), (⟨0⟩ : atomic_Int64), (⟨0⟩ : atomic_Int64), (⟨0⟩ : atomic_Int64), (⟨0⟩ : atomic_Int64), (⟨0⟩ : atomic_Int64), (⟨0⟩ : atomic_Int64)⟩⟩
def T117.toL (x : T117) : List Int := [x.e0.f_v, x.e1.f_v, x.e2.f_v, x.e3.f_v, x.e4.f_v, x.e5.f_v, x.e6.f_v, x.e7.f_v]
def T117.ofL (l : List Int) : T117 := ⟨(⟨rd l 0⟩ : atomic_Int64), (⟨rd l 1⟩ : atomic_Int64), (⟨rd l 2⟩ : atomic_Int64), (⟨rd l 3⟩ : atomic_Int64), (⟨rd l 4⟩ : atomic_Int64), (⟨rd l 5⟩ : atomic_Int64), (⟨rd l 6⟩ : atomic_Int64), (⟨rd l 7⟩ : atomic_Int64)⟩
theorem T117.toL_ofL {l : List Int} (h : l.length = 8) : T117.toL (T117.ofL l) = l := (show T117.toL (T117.ofL l) = (List.range 8).map (fun i : Nat => rd l (i : Int)) from rfl).trans (rd_all h)
def k_T117 : Kd T117 := Kd.map (fun s => (s.e0, (s.e1, (s.e2, (s.e3, (s.e4, (s.e5, (s.e6, s.e7)))))))) (Kd.pair k_atomic_Int64 (Kd.pair k_atomic_Int64 (Kd.pair k_atomic_Int64 (Kd.pair k_atomic_Int64 (Kd.pair k_atomic_Int64 (Kd.pair k_atomic_Int64 (Kd.pair k_atomic_Int64 k_atomic_Int64)))))))
theorem k_T117_out {H : Hp} {cs : List Value} {x : T117} (h : k_T117.rep H cs x) : cs = [.int .i64 x.e0.f_v, .int .i64 x.e1.f_v, .int .i64 x.e2.f_v, .int .i64 x.e3.f_v, .int .i64 x.e4.f_v, .int .i64 x.e5.f_v, .int .i64 x.e6.f_v, .int .i64 x.e7.f_v] := by
 obtain ⟨_, _, rfl, q1, ⟨_, _, rfl, q2, ⟨_, _, rfl, q3, ⟨_, _, rfl, q4, ⟨_, _, rfl, q5, ⟨_, _, rfl, q6, ⟨_, _, rfl, q7, q8⟩⟩⟩⟩⟩⟩⟩ := (show ((Kd.pair k_atomic_Int64 (Kd.pair k_atomic_Int64 (Kd.pair k_atomic_Int64 (Kd.pair k_atomic_Int64 (Kd.pair k_atomic_Int64 (Kd.pair k_atomic_Int64 (Kd.pair k_atomic_Int64 k_atomic_Int64)))))))).rep H cs ((x.e0, (x.e1, (x.e2, (x.e3, (x.e4, (x.e5, (x.e6, x.e7)))))))) from h)
 obtain ⟨rfl⟩ := k_atomic_Int64_out q1
 obtain ⟨rfl⟩ := k_atomic_Int64_out q2
 obtain ⟨rfl⟩ := k_atomic_Int64_out q3
 obtain ⟨rfl⟩ := k_atomic_Int64_out q4
 obtain ⟨rfl⟩ := k_atomic_Int64_out q5
 obtain ⟨rfl⟩ := k_atomic_Int64_out q6
 obtain ⟨rfl⟩ := k_atomic_Int64_out q7
 obtain ⟨rfl⟩ := k_atomic_Int64_out q8
 rfl
theorem k_T117_in {H : Hp} {x : T117} : k_T117.rep H [.int .i64 x.e0.f_v, .int .i64 x.e1.f_v, .int .i64 x.e2.f_v, .int .i64 x.e3.f_v, .int .i64 x.e4.f_v, .int .i64 x.e5.f_v, .int .i64 x.e6.f_v, .int .i64 x.e7.f_v] x :=
 (show ((Kd.pair k_atomic_Int64 (Kd.pair k_atomic_Int64 (Kd.pair k_atomic_Int64 (Kd.pair k_atomic_Int64 (Kd.pair k_atomic_Int64 (Kd.pair k_atomic_Int64 (Kd.pair k_atomic_Int64 k_atomic_Int64)))))))).rep H _ ((x.e0, (x.e1, (x.e2, (x.e3, (x.e4, (x.e5, (x.e6, x.e7)))))))) from ⟨[.int .i64 x.e0.f_v], [.int .i64 x.e1.f_v, .int .i64 x.e2.f_v, .int .i64 x.e3.f_v, .int .i64 x.e4.f_v, .int .i64 x.e5.f_v, .int .i64 x.e6.f_v, .int .i64 x.e7.f_v], rfl, (k_atomic_Int64_in), ⟨[.int .i64 x.e1.f_v], [.int .i64 x.e2.f_v, .int .i64 x.e3.f_v, .int .i64 x.e4.f_v, .int .i64 x.e5.f_v, .int .i64 x.e6.f_v, .int .i64 x.e7.f_v], rfl, (k_atomic_Int64_in), ⟨[.int .i64 x.e2.f_v], [.int .i64 x.e3.f_v, .int .i64 x.e4.f_v, .int .i64 x.e5.f_v, .int .i64 x.e6.f_v, .int .i64 x.e7.f_v], rfl, (k_atomic_Int64_in), ⟨[.int .i64 x.e3.f_v], [.int .i64 x.e4.f_v, .int .i64 x.e5.f_v, .int .i64 x.e6.f_v, .int .i64 x.e7.f_v], rfl, (k_atomic_Int64_in), ⟨[.int .i64 x.e4.f_v], [.int .i64 x.e5.f_v, .int .i64 x.e6.f_v, .int .i64 x.e7.f_v], rfl, (k_atomic_Int64_in), ⟨[.int .i64 x.e5.f_v], [.int .i64 x.e6.f_v, .int .i64 x.e7.f_v], rfl, (k_atomic_Int64_in), ⟨[.int .i64 x.e6.f_v], [.int .i64 x.e7.f_v], rfl, (k_atomic_Int64_in), (k_atomic_Int64_in)⟩⟩⟩⟩⟩⟩⟩)
structure atomic_Bool where
 f_v : Int
instance : Inhabited atomic_Bool := ⟨⟨0⟩⟩
def k_atomic_Bool : Kd atomic_Bool := Kd.map (fun s => s.f_v) (Kd.int .u32)
theorem k_atomic_Bool_out {H : Hp} {cs : List Value} {x : atomic_Bool} (h : k_atomic_Bool.rep H cs x) : cs = [.int .u32 x.f_v] := by
 obtain rfl := (show ((Kd.int .u32)).rep H cs (x.f_v) from h)
 rfl
theorem k_atomic_Bool_in {H : Hp} {x : atomic_Bool} : k_atomic_Bool.rep H [.int .u32 x.f_v] x :=
 (show ((Kd.int .u32)).rep H _ (x.f_v) from rfl)
structure sync_Mutex where
 f_state : Int
 f_sema : Int
instance : Inhabited sync_Mutex := ⟨⟨0, 0⟩⟩
def k_sync_Mutex : Kd sync_Mutex := Kd.map (fun s => (s.f_state, s.f_sema)) (Kd.pair (Kd.int .i32) (Kd.int .u32))
theorem k_sync_Mutex_out {H : Hp} {cs : List Value} {x : sync_Mutex} (h : k_sync_Mutex.rep H cs x) : cs = [.int .i32 x.f_state, .int .u32 x.f_sema] := by
 obtain ⟨_, _, rfl, rfl, rfl⟩ := (show ((Kd.pair (Kd.int .i32) (Kd.int .u32))).rep H cs ((x.f_state, x.f_sema)) from h)
 rfl
theorem k_sync_Mutex_in {H : Hp} {x : sync_Mutex} : k_sync_Mutex.rep H [.int .i32 x.f_state, .int .u32 x.f_sema] x :=
 (show ((Kd.pair (Kd.int .i32) (Kd.int .u32))).rep H _ ((x.f_state, x.f_sema)) from ⟨[.int .i32 x.f_state], [.int .u32 x.f_sema], rfl, rfl, rfl⟩)
structure sync_Mutex_124 where
 f_mu : sync_Mutex
instance : Inhabited sync_Mutex_124 := ⟨⟨(⟨0, 0⟩ : sync_Mutex)⟩⟩
def k_sync_Mutex_124 : Kd sync_Mutex_124 := Kd.map (fun s => s.f_mu) k_sync_Mutex
theorem k_sync_Mutex_124_out {H : Hp} {cs : List Value} {x : sync_Mutex_124} (h : k_sync_Mutex_124.rep H cs x) : cs = [.int .i32 x.f_mu.f_state, .int .u32 x.f_mu.f_sema] := by
 obtain q1 := (show (k_sync_Mutex).rep H cs (x.f_mu) from h)
 obtain ⟨rfl⟩ := k_sync_Mutex_out q1
 rfl
theorem k_sync_Mutex_124_in {H : Hp} {x : sync_Mutex_124} : k_sync_Mutex_124.rep H [.int .i32 x.f_mu.f_state, .int .u32 x.f_mu.f_sema] x :=
 (show (k_sync_Mutex).rep H _ (x.f_mu) from (k_sync_Mutex_in))
structure sync_Once where
 f_done : atomic_Bool
 f_m : sync_Mutex_124
instance : Inhabited sync_Once := ⟨⟨(⟨0⟩ : atomic_Bool), (⟨(⟨0, 0⟩ : sync_Mutex)⟩ : sync_Mutex_124)⟩⟩
def k_sync_Once : Kd sync_Once := Kd.map (fun s => (s.f_done, s.f_m)) (Kd.pair k_atomic_Bool k_sync_Mutex_124)
theorem k_sync_Once_out {H : Hp} {cs : List Value} {x : sync_Once} (h : k_sync_Once.rep H cs x) : cs = [.int .u32 x.f_done.f_v, .int .i32 x.f_m.f_mu.f_state, .int .u32 x.f_m.f_mu.f_sema] := by
 obtain ⟨_, _, rfl, q1, q2⟩ := (show ((Kd.pair k_atomic_Bool k_sync_Mutex_124)).rep H cs ((x.f_done, x.f_m)) from h)
 obtain ⟨rfl⟩ := k_atomic_Bool_out q1
 obtain ⟨rfl⟩ := k_sync_Mutex_124_out q2
 rfl
theorem k_sync_Once_in {H : Hp} {x : sync_Once} : k_sync_Once.rep H [.int .u32 x.f_done.f_v, .int .i32 x.f_m.f_mu.f_state, .int .u32 x.f_m.f_mu.f_sema] x :=
 (show ((Kd.pair k_atomic_Bool k_sync_Mutex_124)).rep H _ ((x.f_done, x.f_m)) from ⟨[.int .u32 x.f_done.f_v], [.int .i32 x.f_m.f_mu.f_state, .int .u32 x.f_m.f_mu.f_sema], rfl, (k_atomic_Bool_in), (k_sync_Mutex_124_in)⟩)
structure count_Counts where
 f_l : T117
 f_once : sync_Once
 f_kinds : List (ByteArray × Int)
instance : Inhabited count_Counts := ⟨⟨(⟨(⟨0⟩ : atomic_Int64), (⟨0⟩ : atomic_Int64), (⟨0⟩ : atomic_Int64), (⟨0⟩ : atomic_Int64), (⟨0⟩ : atomic_Int64), (⟨0⟩ : atomic_Int64), (⟨0⟩ : atomic_Int64), (⟨0⟩ : atomic_Int64)⟩ : T117), (⟨(⟨0⟩ : atomic_Bool), (⟨(⟨0, 0⟩ : sync_Mutex)⟩ : sync_Mutex_124)⟩ : sync_Once), []⟩⟩
structure radomelaw32_Act where
 f_Kind : Int
 f_N : Int
instance : Inhabited radomelaw32_Act := ⟨⟨0, 0⟩⟩
def k_radomelaw32_Act : Kd radomelaw32_Act := Kd.map (fun s => (s.f_Kind, s.f_N)) (Kd.pair (Kd.int .i64) (Kd.int .i64))
theorem k_radomelaw32_Act_out {H : Hp} {cs : List Value} {x : radomelaw32_Act} (h : k_radomelaw32_Act.rep H cs x) : cs = [.int .i64 x.f_Kind, .int .i64 x.f_N] := by
 obtain ⟨_, _, rfl, rfl, rfl⟩ := (show ((Kd.pair (Kd.int .i64) (Kd.int .i64))).rep H cs ((x.f_Kind, x.f_N)) from h)
 rfl
theorem k_radomelaw32_Act_in {H : Hp} {x : radomelaw32_Act} : k_radomelaw32_Act.rep H [.int .i64 x.f_Kind, .int .i64 x.f_N] x :=
 (show ((Kd.pair (Kd.int .i64) (Kd.int .i64))).rep H _ ((x.f_Kind, x.f_N)) from ⟨[.int .i64 x.f_Kind], [.int .i64 x.f_N], rfl, rfl, rfl⟩)
structure T132 where
 e0 : ByteArray
 e1 : ByteArray
 e2 : ByteArray
 e3 : ByteArray
 e4 : ByteArray
 e5 : ByteArray
 e6 : ByteArray
 e7 : ByteArray
instance : Inhabited T132 := ⟨⟨ByteArray.empty, ByteArray.empty, ByteArray.empty, ByteArray.empty, ByteArray.empty, ByteArray.empty, ByteArray.empty, ByteArray.empty⟩⟩
def k_T132 : Kd T132 := Kd.map (fun s => (s.e0, (s.e1, (s.e2, (s.e3, (s.e4, (s.e5, (s.e6, s.e7)))))))) (Kd.pair Kd.str (Kd.pair Kd.str (Kd.pair Kd.str (Kd.pair Kd.str (Kd.pair Kd.str (Kd.pair Kd.str (Kd.pair Kd.str Kd.str)))))))
theorem k_T132_out {H : Hp} {cs : List Value} {x : T132} (h : k_T132.rep H cs x) : cs = [.string x.e0, .string x.e1, .string x.e2, .string x.e3, .string x.e4, .string x.e5, .string x.e6, .string x.e7] := by
 obtain ⟨_, _, rfl, rfl, ⟨_, _, rfl, rfl, ⟨_, _, rfl, rfl, ⟨_, _, rfl, rfl, ⟨_, _, rfl, rfl, ⟨_, _, rfl, rfl, ⟨_, _, rfl, rfl, rfl⟩⟩⟩⟩⟩⟩⟩ := (show ((Kd.pair Kd.str (Kd.pair Kd.str (Kd.pair Kd.str (Kd.pair Kd.str (Kd.pair Kd.str (Kd.pair Kd.str (Kd.pair Kd.str Kd.str)))))))).rep H cs ((x.e0, (x.e1, (x.e2, (x.e3, (x.e4, (x.e5, (x.e6, x.e7)))))))) from h)
 rfl
theorem k_T132_in {H : Hp} {x : T132} : k_T132.rep H [.string x.e0, .string x.e1, .string x.e2, .string x.e3, .string x.e4, .string x.e5, .string x.e6, .string x.e7] x :=
 (show ((Kd.pair Kd.str (Kd.pair Kd.str (Kd.pair Kd.str (Kd.pair Kd.str (Kd.pair Kd.str (Kd.pair Kd.str (Kd.pair Kd.str Kd.str)))))))).rep H _ ((x.e0, (x.e1, (x.e2, (x.e3, (x.e4, (x.e5, (x.e6, x.e7)))))))) from ⟨[.string x.e0], [.string x.e1, .string x.e2, .string x.e3, .string x.e4, .string x.e5, .string x.e6, .string x.e7], rfl, rfl, ⟨[.string x.e1], [.string x.e2, .string x.e3, .string x.e4, .string x.e5, .string x.e6, .string x.e7], rfl, rfl, ⟨[.string x.e2], [.string x.e3, .string x.e4, .string x.e5, .string x.e6, .string x.e7], rfl, rfl, ⟨[.string x.e3], [.string x.e4, .string x.e5, .string x.e6, .string x.e7], rfl, rfl, ⟨[.string x.e4], [.string x.e5, .string x.e6, .string x.e7], rfl, rfl, ⟨[.string x.e5], [.string x.e6, .string x.e7], rfl, rfl, ⟨[.string x.e6], [.string x.e7], rfl, rfl, rfl⟩⟩⟩⟩⟩⟩⟩)
theorem ty2 : TyA Tryd.prog 2 false 1 := ⟨⟨_, Tryd.underlying2, rfl⟩, by kernel_rfl⟩
theorem sz2 : (Tryd.prog.info? 2).map (·.size) = some 1 := by kernel_rfl
theorem zr2 : (Tryd.prog.info? 2).bind (·.zero) = some (.int .i64 0) := by kernel_rfl
theorem ti2 : TI Tryd.prog 2 1 8 (.int .i64 0) := ⟨by kernel_rfl⟩
theorem zp2 (H : Hp) : ((Kd.int .i64)).rep H (Value.cells (.int .i64 0)).toList 0 := rfl
theorem ty3 : TyA Tryd.prog 3 false 1 := ⟨⟨_, Tryd.underlying3, rfl⟩, by kernel_rfl⟩
theorem sz3 : (Tryd.prog.info? 3).map (·.size) = some 1 := by kernel_rfl
theorem zr3 : (Tryd.prog.info? 3).bind (·.zero) = some (.int .i64 0) := by kernel_rfl
theorem ti3 : TI Tryd.prog 3 1 8 (.int .i64 0) := ⟨by kernel_rfl⟩
theorem zp3 (H : Hp) : ((Kd.int .i64)).rep H (Value.cells (.int .i64 0)).toList 0 := rfl
theorem ty9 : TyA Tryd.prog 9 false 1 := ⟨⟨_, Tryd.underlying9, rfl⟩, by kernel_rfl⟩
theorem sz9 : (Tryd.prog.info? 9).map (·.size) = some 1 := by kernel_rfl
theorem zr9 : (Tryd.prog.info? 9).bind (·.zero) = some (.string ⟨#[]⟩) := by kernel_rfl
theorem ti9 : TI Tryd.prog 9 1 16 (.string ⟨#[]⟩) := ⟨by kernel_rfl⟩
theorem zp9 (H : Hp) : (Kd.str).rep H (Value.cells (.string ⟨#[]⟩)).toList ByteArray.empty := rfl
theorem ty21 : TyA Tryd.prog 21 false 1 := ⟨⟨_, Tryd.underlying21, rfl⟩, by kernel_rfl⟩
theorem sz21 : (Tryd.prog.info? 21).map (·.size) = some 1 := by kernel_rfl
theorem zr21 : (Tryd.prog.info? 21).bind (·.zero) = some (.int .i32 0) := by kernel_rfl
theorem ti21 : TI Tryd.prog 21 1 4 (.int .i32 0) := ⟨by kernel_rfl⟩
theorem zp21 (H : Hp) : ((Kd.int .i32)).rep H (Value.cells (.int .i32 0)).toList 0 := rfl
theorem ty48 : TyA Tryd.prog 48 true 2 := ⟨⟨_, Tryd.underlying48, rfl⟩, by kernel_rfl⟩
theorem sz48 : (Tryd.prog.info? 48).map (·.size) = some 2 := by kernel_rfl
theorem zr48 : (Tryd.prog.info? 48).bind (·.zero) = some (.agg #[.int .i64 0, .int .i64 0]) := by kernel_rfl
theorem ti48 : TI Tryd.prog 48 2 16 (.agg #[.int .i64 0, .int .i64 0]) := ⟨by kernel_rfl⟩
theorem zp48 (H : Hp) : (k_radomelaw32_Act).rep H (Value.cells (.agg #[.int .i64 0, .int .i64 0])).toList (⟨0, 0⟩ : radomelaw32_Act) := k_radomelaw32_Act_in (x := ⟨0, 0⟩)
theorem ty74 : TyA Tryd.prog 74 false 1 := ⟨⟨_, Tryd.underlying74, rfl⟩, by kernel_rfl⟩
theorem sz74 : (Tryd.prog.info? 74).map (·.size) = some 1 := by kernel_rfl
theorem zr74 : (Tryd.prog.info? 74).bind (·.zero) = some (.int .u32 0) := by kernel_rfl
theorem ti74 : TI Tryd.prog 74 1 4 (.int .u32 0) := ⟨by kernel_rfl⟩
theorem zp74 (H : Hp) : ((Kd.int .u32)).rep H (Value.cells (.int .u32 0)).toList 0 := rfl
theorem ty111 : TyA Tryd.prog 111 true 1 := ⟨⟨_, Tryd.underlying111, rfl⟩, by kernel_rfl⟩
theorem sz111 : (Tryd.prog.info? 111).map (·.size) = some 1 := by kernel_rfl
theorem zr111 : (Tryd.prog.info? 111).bind (·.zero) = some (.agg #[.int .i64 0]) := by kernel_rfl
theorem ti111 : TI Tryd.prog 111 1 8 (.agg #[.int .i64 0]) := ⟨by kernel_rfl⟩
theorem zp111 (H : Hp) : (k_atomic_Int64).rep H (Value.cells (.agg #[.int .i64 0])).toList (⟨0⟩ : atomic_Int64) := k_atomic_Int64_in (x := ⟨0⟩)
theorem ty117 : TyA Tryd.prog 117 true 8 := ⟨⟨_, Tryd.underlying117, rfl⟩, by kernel_rfl⟩
theorem sz117 : (Tryd.prog.info? 117).map (·.size) = some 8 := by kernel_rfl
theorem zr117 : (Tryd.prog.info? 117).bind (·.zero) = some (.agg #[.int .i64 0, .int .i64 0, .int .i64 0, .int .i64 0, .int .i64 0, .int .i64 0, .int .i64 0, .int .i64 0]) := by kernel_rfl
theorem ti117 : TI Tryd.prog 117 8 64 (.agg #[.int .i64 0, .int .i64 0, .int .i64 0, .int .i64 0, .int .i64 0, .int .i64 0, .int .i64 0, .int .i64 0]) := ⟨by kernel_rfl⟩
theorem zp117 (H : Hp) : (k_T117).rep H (Value.cells (.agg #[.int .i64 0, .int .i64 0, .int .i64 0, .int .i64 0, .int .i64 0, .int .i64 0, .int .i64 0, .int .i64 0])).toList (⟨(⟨0⟩ : atomic_Int64), (⟨0⟩ : atomic_Int64), (⟨0⟩ : atomic_Int64), (⟨0⟩ : atomic_Int64), (⟨0⟩ : atomic_Int64), (⟨0⟩ : atomic_Int64), (⟨0⟩ : atomic_Int64), (⟨0⟩ : atomic_Int64)⟩ : T117) := k_T117_in (x := ⟨⟨0⟩, ⟨0⟩, ⟨0⟩, ⟨0⟩, ⟨0⟩, ⟨0⟩, ⟨0⟩, ⟨0⟩⟩)
theorem ty120 : TyA Tryd.prog 120 true 1 := ⟨⟨_, Tryd.underlying120, rfl⟩, by kernel_rfl⟩
theorem sz120 : (Tryd.prog.info? 120).map (·.size) = some 1 := by kernel_rfl
theorem zr120 : (Tryd.prog.info? 120).bind (·.zero) = some (.agg #[.int .u32 0]) := by kernel_rfl
theorem ti120 : TI Tryd.prog 120 1 4 (.agg #[.int .u32 0]) := ⟨by kernel_rfl⟩
theorem zp120 (H : Hp) : (k_atomic_Bool).rep H (Value.cells (.agg #[.int .u32 0])).toList (⟨0⟩ : atomic_Bool) := k_atomic_Bool_in (x := ⟨0⟩)
theorem ty122 : TyA Tryd.prog 122 true 2 := ⟨⟨_, Tryd.underlying122, rfl⟩, by kernel_rfl⟩
theorem sz122 : (Tryd.prog.info? 122).map (·.size) = some 2 := by kernel_rfl
theorem zr122 : (Tryd.prog.info? 122).bind (·.zero) = some (.agg #[.int .i32 0, .int .u32 0]) := by kernel_rfl
theorem ti122 : TI Tryd.prog 122 2 8 (.agg #[.int .i32 0, .int .u32 0]) := ⟨by kernel_rfl⟩
theorem zp122 (H : Hp) : (k_sync_Mutex).rep H (Value.cells (.agg #[.int .i32 0, .int .u32 0])).toList (⟨0, 0⟩ : sync_Mutex) := k_sync_Mutex_in (x := ⟨0, 0⟩)
theorem ty124 : TyA Tryd.prog 124 true 2 := ⟨⟨_, Tryd.underlying124, rfl⟩, by kernel_rfl⟩
theorem sz124 : (Tryd.prog.info? 124).map (·.size) = some 2 := by kernel_rfl
theorem zr124 : (Tryd.prog.info? 124).bind (·.zero) = some (.agg #[.int .i32 0, .int .u32 0]) := by kernel_rfl
theorem ti124 : TI Tryd.prog 124 2 8 (.agg #[.int .i32 0, .int .u32 0]) := ⟨by kernel_rfl⟩
theorem zp124 (H : Hp) : (k_sync_Mutex_124).rep H (Value.cells (.agg #[.int .i32 0, .int .u32 0])).toList (⟨(⟨0, 0⟩ : sync_Mutex)⟩ : sync_Mutex_124) := k_sync_Mutex_124_in (x := ⟨⟨0, 0⟩⟩)
theorem ty126 : TyA Tryd.prog 126 true 3 := ⟨⟨_, Tryd.underlying126, rfl⟩, by kernel_rfl⟩
theorem sz126 : (Tryd.prog.info? 126).map (·.size) = some 3 := by kernel_rfl
theorem zr126 : (Tryd.prog.info? 126).bind (·.zero) = some (.agg #[.int .u32 0, .int .i32 0, .int .u32 0]) := by kernel_rfl
theorem ti126 : TI Tryd.prog 126 3 12 (.agg #[.int .u32 0, .int .i32 0, .int .u32 0]) := ⟨by kernel_rfl⟩
theorem zp126 (H : Hp) : (k_sync_Once).rep H (Value.cells (.agg #[.int .u32 0, .int .i32 0, .int .u32 0])).toList (⟨(⟨0⟩ : atomic_Bool), (⟨(⟨0, 0⟩ : sync_Mutex)⟩ : sync_Mutex_124)⟩ : sync_Once) := k_sync_Once_in (x := ⟨⟨0⟩, ⟨⟨0, 0⟩⟩⟩)
theorem ty127 : TyA Tryd.prog 127 false 1 := ⟨⟨_, Tryd.underlying127, rfl⟩, by kernel_rfl⟩
theorem sz127 : (Tryd.prog.info? 127).map (·.size) = some 1 := by kernel_rfl
theorem zr127 : (Tryd.prog.info? 127).bind (·.zero) = some (.map none) := by kernel_rfl
theorem ti127 : TI Tryd.prog 127 1 8 (.map none) := ⟨by kernel_rfl⟩
theorem ty129 : TyA Tryd.prog 129 true 12 := ⟨⟨_, Tryd.underlying129, rfl⟩, by kernel_rfl⟩
theorem sz129 : (Tryd.prog.info? 129).map (·.size) = some 12 := by kernel_rfl
theorem zr129 : (Tryd.prog.info? 129).bind (·.zero) = some (.agg #[.int .i64 0, .int .i64 0, .int .i64 0, .int .i64 0, .int .i64 0, .int .i64 0, .int .i64 0, .int .i64 0, .int .u32 0, .int .i32 0, .int .u32 0, .map none]) := by kernel_rfl
theorem ti129 : TI Tryd.prog 129 12 88 (.agg #[.int .i64 0, .int .i64 0, .int .i64 0, .int .i64 0, .int .i64 0, .int .i64 0, .int .i64 0, .int .i64 0, .int .u32 0, .int .i32 0, .int .u32 0, .map none]) := ⟨by kernel_rfl⟩
theorem ty132 : TyA Tryd.prog 132 true 8 := ⟨⟨_, Tryd.underlying132, rfl⟩, by kernel_rfl⟩
theorem sz132 : (Tryd.prog.info? 132).map (·.size) = some 8 := by kernel_rfl
theorem zr132 : (Tryd.prog.info? 132).bind (·.zero) = some (.agg #[.string ⟨#[]⟩, .string ⟨#[]⟩, .string ⟨#[]⟩, .string ⟨#[]⟩, .string ⟨#[]⟩, .string ⟨#[]⟩, .string ⟨#[]⟩, .string ⟨#[]⟩]) := by kernel_rfl
theorem ti132 : TI Tryd.prog 132 8 128 (.agg #[.string ⟨#[]⟩, .string ⟨#[]⟩, .string ⟨#[]⟩, .string ⟨#[]⟩, .string ⟨#[]⟩, .string ⟨#[]⟩, .string ⟨#[]⟩, .string ⟨#[]⟩]) := ⟨by kernel_rfl⟩
theorem zp132 (H : Hp) : (k_T132).rep H (Value.cells (.agg #[.string ⟨#[]⟩, .string ⟨#[]⟩, .string ⟨#[]⟩, .string ⟨#[]⟩, .string ⟨#[]⟩, .string ⟨#[]⟩, .string ⟨#[]⟩, .string ⟨#[]⟩])).toList (⟨ByteArray.empty, ByteArray.empty, ByteArray.empty, ByteArray.empty, ByteArray.empty, ByteArray.empty, ByteArray.empty, ByteArray.empty⟩ : T132) := k_T132_in (x := ⟨ByteArray.empty, ByteArray.empty, ByteArray.empty, ByteArray.empty, ByteArray.empty, ByteArray.empty, ByteArray.empty, ByteArray.empty⟩)
theorem co17 : CallOk Tryd.prog 17 := ⟨_, Tryd.func17, by decide, rfl⟩
theorem co18 : CallOk Tryd.prog 18 := ⟨_, Tryd.func18, by decide, rfl⟩
theorem co19 : CallOk Tryd.prog 19 := ⟨_, Tryd.func19, by decide, rfl⟩
theorem co20 : CallOk Tryd.prog 20 := ⟨_, Tryd.func20, by decide, rfl⟩
theorem co21 : CallOk Tryd.prog 21 := ⟨_, Tryd.func21, by decide, rfl⟩
theorem co23 : CallOk Tryd.prog 23 := ⟨_, Tryd.func23, by decide, rfl⟩
theorem co25 : CallOk Tryd.prog 25 := ⟨_, Tryd.func25, by decide, rfl⟩
theorem co26 : CallOk Tryd.prog 26 := ⟨_, Tryd.func26, by decide, rfl⟩
theorem co28 : CallOk Tryd.prog 28 := ⟨_, Tryd.func28, by decide, rfl⟩
theorem co49 : CallOk Tryd.prog 49 := ⟨_, Tryd.func49, by decide, rfl⟩
theorem co50 : CallOk Tryd.prog 50 := ⟨_, Tryd.func50, by decide, rfl⟩
theorem co52 : CallOk Tryd.prog 52 := ⟨_, Tryd.func52, by decide, rfl⟩
theorem co53 : CallOk Tryd.prog 53 := ⟨_, Tryd.func53, by decide, rfl⟩
theorem co102 : CallOk Tryd.prog 102 := ⟨_, Tryd.func102, by decide, rfl⟩
theorem fn_6 : Tryd.prog.funcs[6]? = some Tryd.f6 := Tryd.func6
theorem rs_6 : Tryd.f6.results = ⟨[.tmp 2]⟩ := rfl
theorem nt_6 : Tryd.f6.ntmps = 128 := rfl
theorem fn_17 : Tryd.prog.funcs[17]? = some Tryd.f17 := Tryd.func17
theorem rs_17 : Tryd.f17.results = ⟨[.tmp 4, .tmp 5]⟩ := rfl
theorem nt_17 : Tryd.f17.ntmps = 20 := rfl
theorem fn_18 : Tryd.prog.funcs[18]? = some Tryd.f18 := Tryd.func18
theorem rs_18 : Tryd.f18.results = ⟨[.tmp 4, .tmp 5]⟩ := rfl
theorem nt_18 : Tryd.f18.ntmps = 34 := rfl
theorem fn_20 : Tryd.prog.funcs[20]? = some Tryd.f20 := Tryd.func20
theorem rs_20 : Tryd.f20.results = ⟨[.tmp 6]⟩ := rfl
theorem nt_20 : Tryd.f20.ntmps = 45 := rfl
theorem fn_21 : Tryd.prog.funcs[21]? = some Tryd.f21 := Tryd.func21
theorem rs_21 : Tryd.f21.results = ⟨[.tmp 2]⟩ := rfl
theorem nt_21 : Tryd.f21.ntmps = 22 := rfl
theorem fn_23 : Tryd.prog.funcs[23]? = some Tryd.f23 := Tryd.func23
theorem rs_23 : Tryd.f23.results = ⟨[.tmp 0]⟩ := rfl
theorem nt_23 : Tryd.f23.ntmps = 3 := rfl
theorem fn_25 : Tryd.prog.funcs[25]? = some Tryd.f25 := Tryd.func25
theorem rs_25 : Tryd.f25.results = ⟨[.tmp 4]⟩ := rfl
theorem nt_25 : Tryd.f25.ntmps = 26 := rfl
theorem fn_26 : Tryd.prog.funcs[26]? = some Tryd.f26 := Tryd.func26
theorem rs_26 : Tryd.f26.results = ⟨[.tmp 2]⟩ := rfl
theorem nt_26 : Tryd.f26.ntmps = 9 := rfl
theorem fn_28 : Tryd.prog.funcs[28]? = some Tryd.f28 := Tryd.func28
theorem rs_28 : Tryd.f28.results = ⟨[.tmp 0]⟩ := rfl
theorem nt_28 : Tryd.f28.ntmps = 51 := rfl
theorem fn_49 : Tryd.prog.funcs[49]? = some Tryd.f49 := Tryd.func49
theorem rs_49 : Tryd.f49.results = ⟨[.tmp 2]⟩ := rfl
theorem nt_49 : Tryd.f49.ntmps = 7 := rfl
theorem fn_50 : Tryd.prog.funcs[50]? = some Tryd.f50 := Tryd.func50
theorem rs_50 : Tryd.f50.results = ⟨[.tmp 6]⟩ := rfl
theorem nt_50 : Tryd.f50.ntmps = 13 := rfl
theorem fn_52 : Tryd.prog.funcs[52]? = some Tryd.f52 := Tryd.func52
theorem rs_52 : Tryd.f52.results = ⟨[.tmp 2]⟩ := rfl
theorem nt_52 : Tryd.f52.ntmps = 9 := rfl
theorem fn_53 : Tryd.prog.funcs[53]? = some Tryd.f53 := Tryd.func53
theorem rs_53 : Tryd.f53.results = ⟨[]⟩ := rfl
theorem nt_53 : Tryd.f53.ntmps = 12 := rfl
theorem fn_54 : Tryd.prog.funcs[54]? = some Tryd.f54 := Tryd.func54
theorem rs_54 : Tryd.f54.results = ⟨[]⟩ := rfl
theorem nt_54 : Tryd.f54.ntmps = 18 := rfl
theorem fn_102 : Tryd.prog.funcs[102]? = some Tryd.f102 := Tryd.func102
theorem rs_102 : Tryd.f102.results = ⟨[.tmp 2]⟩ := rfl
theorem nt_102 : Tryd.f102.ntmps = 4 := rfl
theorem mixed : Tryd.prog.follows .mixedOrders = true := by kernel_rfl
def GH (H : Hp) : Prop := ∃ o, H.at_ 0 = some o ∧ ∀ w : World, w.heap[0]? = some o → GG w
theorem GH.mono {H H' : Hp} (h : GH H) (hle : H.le H') : GH H' := let ⟨o, h1, h2⟩ := h; ⟨o, hle.at_ 0 o h1, h2⟩
theorem gh_of {W : World} (h : GG W) : GH (snap W) := by
 unfold GG at h
 have h1 := h
 unfold World.cell? at h1
 split at h1
 · rename_i c1 T fz hh
   refine ⟨_, hh, fun w hw => ?_⟩
   show w.cell? _ = _
   unfold World.cell?
   rw [hw]; exact h1
 · cases h1
def errN (e : Option Int) : Int := e.getD 0
theorem num10.calls {H : Hp} {L : Items} {e : Option Int} (hG : GH H) (he : some (errN e) = some (errN e)) : Ct Tryd.prog 10 ⟨[errV 106 e]⟩ H L (fun v H' L' => L = L' ∧ H = H' ∧ v = .int .i64 (errN e)) := Ct.of_calls fun w hw => by
 obtain ⟨o, h1, h2⟩ := hG
 have hg := h2 w (hw.good 0 o h1)
 have this : Calls Tryd.prog 10 #[errV 106 e] w fun ev w' => ev = .returned (.int .i64 (e.getD 0)) ∧ Below w.heap.size w w' := by
  cases e with
  | none => exact num10_any none w hg
  | some c => exact num10_any (some c) w hg
 refine this.mono ?_
 rintro ev w' ⟨rfl, hb⟩
 exact ⟨_, _, _, rfl, hw.below hb, rfl, rfl, rfl⟩
theorem num19.calls {H : Hp} {L : Items} {e : Option Int} (hG : GH H) (he : some (errN e) = some (errN e)) : Ct Tryd.prog 19 ⟨[errV 106 e]⟩ H L (fun v H' L' => L = L' ∧ H = H' ∧ v = .int .i64 (errN e)) := Ct.of_calls fun w hw => by
 obtain ⟨o, h1, h2⟩ := hG
 have hg := h2 w (hw.good 0 o h1)
 have this : Calls Tryd.prog 19 #[errV 106 e] w fun ev w' => ev = .returned (.int .i64 (e.getD 0)) ∧ Below w.heap.size w w' := by
  cases e with
  | none => exact num19_any none w hg
  | some c => exact num19_any (some c) w hg
 refine this.mono ?_
 rintro ev w' ⟨rfl, hb⟩
 exact ⟨_, _, _, rfl, hw.below hb, rfl, rfl, rfl⟩
theorem num33.calls {H : Hp} {L : Items} {e : Option Int} (hG : GH H) (he : some (errN e) = some (errN e)) : Ct Tryd.prog 33 ⟨[errV 106 e]⟩ H L (fun v H' L' => L = L' ∧ H = H' ∧ v = .int .i64 (errN e)) := Ct.of_calls fun w hw => by
 obtain ⟨o, h1, h2⟩ := hG
 have hg := h2 w (hw.good 0 o h1)
 have this : Calls Tryd.prog 33 #[errV 106 e] w fun ev w' => ev = .returned (.int .i64 (e.getD 0)) ∧ Below w.heap.size w w' := by
  cases e with
  | none => exact num33_any none w hg
  | some c => exact num33_any (some c) w hg
 refine this.mono ?_
 rintro ev w' ⟨rfl, hb⟩
 exact ⟨_, _, _, rfl, hw.below hb, rfl, rfl, rfl⟩
theorem ext71 : ExtOk Tryd.prog 71 (Extern.Atomic.loadT (.int .i64)) := ⟨_, Tryd.func71, by decide, rfl, by kernel_rfl, by kernel_rfl⟩
theorem at49.calls {H : Hp} {L : Items} {b off : Nat} {x : Int} (hl : Lies H L ⟨b, off, none⟩ [.int .i64 x]) : Ct Tryd.prog 49 ⟨[.pointer (some ⟨b, off, none⟩)]⟩ H L (fun v H' L' => L = L' ∧ H = H' ∧ v = .int .i64 x) := by
 refine ct_outs (O := fun _ v => v = .int .i64 x) (fun _ _ h => h) <| ct_enter (args := [.pointer (some ⟨b, off, none⟩)]) fn_49 rfl nt_49 rfl <| w_seq <| w_region rfl <| w_d rfl (d_assign (v := .int .i64 0) rfl) <| w_done <| w_seq <| w_region rfl <| w_d rfl (d_move (v := .pointer (some ⟨b, off, none⟩)) rfl) <| w_d rfl (d_nilCheck (p := ⟨b, off, none⟩) rfl) <| w_d rfl (d_fld (o' := off) Tryd.underlying111 rfl sz2 rfl rfl rfl) <| w_d rfl (d_aload ext71 rfl hl) ?_
 refine w_d rfl (d_assign (v := .int .i64 x) rfl) <| w_done <| w_return fn_49 rs_49 (.tmp (v := .int .i64 x) rfl .nil) <| ⟨⟨[], rfl⟩, .refl _, rfl⟩
theorem ext72 : ExtOk Tryd.prog 72 (Extern.Atomic.casT (.int .i64)) := ⟨_, Tryd.func72, by decide, rfl, by kernel_rfl, by kernel_rfl⟩
theorem at50.calls {H : Hp} {L L1 : Items} {b off : Nat} {cs cs' : List Value} {T : TypeId} {c old new z : Int} (hu : Upd L (some (b, .cells ⟨cs⟩ T (0, 0))) (some (b, .cells ⟨cs'⟩ T (0, 0))) L1) (hc : cs[off]? = some (.int .i64 c)) (hz : z = if c = old then new else c) (hs : SetL cs off [.int .i64 z] cs') : Ct Tryd.prog 50 ⟨[.pointer (some ⟨b, off, none⟩), .int .i64 old, .int .i64 new]⟩ H L (fun v H' L' => v = .bool (decide (c = old)) ∧ H = H' ∧ L' = L1) := by
 subst hz
 refine ct_enter (args := [.pointer (some ⟨b, off, none⟩), .int .i64 old, .int .i64 new]) fn_50 rfl nt_50 rfl <| w_seq <| w_region rfl <| w_d rfl (d_assign (v := .bool false) rfl) <| w_done <| w_seq <| w_region rfl <| w_d rfl (d_move (v := .pointer (some ⟨b, off, none⟩)) rfl) <| w_d rfl (d_nilCheck (p := ⟨b, off, none⟩) rfl) <| w_d rfl (d_fld (o' := off) Tryd.underlying111 rfl sz2 rfl rfl rfl) <| w_d rfl (d_move (v := .int .i64 old) rfl) <| w_d rfl (d_move (v := .int .i64 new) rfl) ?_
 refine w_a rfl (o_acas ext72 rfl rfl rfl hu hc hs) ?_
 rintro _ _ _ ⟨rfl, rfl, rfl⟩
 refine w_d rfl (d_assign (v := .bool (decide (c = old))) rfl) <| w_done <| w_return fn_50 rs_50 (.tmp (v := .bool (decide (c = old))) rfl .nil) <| ⟨rfl, rfl, rfl⟩
end Go.Proofs.YtjhpkkhcgpilfaaDoor.GCA
