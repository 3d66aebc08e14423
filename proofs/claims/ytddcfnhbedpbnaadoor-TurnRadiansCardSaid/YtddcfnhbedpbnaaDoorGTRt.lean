/- A text of this session, written by a program (wip/k/gen.py): Go functions as Lean functions, and proofs that the code comes to them. -/
import Derived.Test.YtddcfnhbedpbnaaDoorK8
import Derived.Test.YtddcfnhbedpbnaaDoorAs
namespace Go.Proofs.YtddcfnhbedpbnaaDoor.GTR
open Go Go.RowKit Go.Proofs.YtddcfnhbedpbnaaDoorK Go.Proofs.YtddcfnhbedpbnaaDoor
set_option linter.unusedVariables false
set_option linter.unusedSimpArgs false
def str_0 : ByteArray := ⟨#[0, 1, 1, 2, 1, 2, 2, 3, 1, 2, 2, 3, 2, 3, 3, 4, 1, 2, 2, 3, 2, 3, 3, 4, 2, 3, 3, 4, 3, 4, 4, 5, 1, 2, 2, 3, 2, 3, 3, 4, 2, 3, 3, 4, 3, 4, 4, 5, 2, 3, 3, 4, 3, 4, 4, 5, 3, 4, 4, 5, 4, 5, 5, 6, 1, 2, 2, 3, 2, 3, 3, 4, 2, 3, 3, 4, 3, 4, 4, 5, 2, 3, 3, 4, 3, 4, 4, 5, 3, 4, 4, 5, 4, 5, 5, 6, 2, 3, 3, 4, 3, 4, 4, 5, 3, 4, 4, 5, 4, 5, 5, 6, 3, 4, 4, 5, 4, 5, 5, 6, 4, 5, 5, 6, 5, 6, 6, 7, 1, 2, 2, 3, 2, 3, 3, 4, 2, 3, 3, 4, 3, 4, 4, 5, 2, 3, 3, 4, 3, 4, 4, 5, 3, 4, 4, 5, 4, 5, 5, 6, 2, 3, 3, 4, 3, 4, 4, 5, 3, 4, 4, 5, 4, 5, 5, 6, 3, 4, 4, 5, 4, 5, 5, 6, 4, 5, 5, 6, 5, 6, 6, 7, 2, 3, 3, 4, 3, 4, 4, 5, 3, 4, 4, 5, 4, 5, 5, 6, 3, 4, 4, 5, 4, 5, 5, 6, 4, 5, 5, 6, 5, 6, 6, 7, 3, 4, 4, 5, 4, 5, 5, 6, 4, 5, 5, 6, 5, 6, 6, 7, 4, 5, 5, 6, 5, 6, 6, 7, 5, 6, 6, 7, 6, 7, 7, 8]⟩
structure radomeref01_Num where
 f_Neg : Bool
 f_D : List Int
instance : Inhabited radomeref01_Num := ⟨⟨false, []⟩⟩
def k_radomeref01_Num : Kd radomeref01_Num := Kd.map (fun s => (s.f_Neg, s.f_D)) (Kd.pair Kd.bool (Kd.slice (Kd.int .i64)))
theorem k_radomeref01_Num_out {H : Hp} {cs : List Value} {x : radomeref01_Num} (h : k_radomeref01_Num.rep H cs x) : ∃ v0, cs = [.bool x.f_Neg, v0] ∧ Ro (Kd.int .i64) H v0 x.f_D := by
 obtain ⟨_, _, rfl, rfl, ⟨v0, rfl, h0⟩⟩ := (show ((Kd.pair Kd.bool (Kd.slice (Kd.int .i64)))).rep H cs ((x.f_Neg, x.f_D)) from h)
 exact ⟨v0, rfl, h0⟩
theorem k_radomeref01_Num_in {H : Hp} {v0 : Value} {x : radomeref01_Num} (h0 : Ro (Kd.int .i64) H v0 x.f_D) : k_radomeref01_Num.rep H [.bool x.f_Neg, v0] x :=
 (show ((Kd.pair Kd.bool (Kd.slice (Kd.int .i64)))).rep H _ ((x.f_Neg, x.f_D)) from ⟨[.bool x.f_Neg], [v0], rfl, rfl, ⟨v0, rfl, h0⟩⟩)
structure life_Rule where
 f_Hits : Int
 f_Window : Int
 f_Misses : Int
instance : Inhabited life_Rule := ⟨⟨0, 0, 0⟩⟩
def k_life_Rule : Kd life_Rule := Kd.map (fun s => (s.f_Hits, (s.f_Window, s.f_Misses))) (Kd.pair (Kd.int .i64) (Kd.pair (Kd.int .i64) (Kd.int .i64)))
theorem k_life_Rule_out {H : Hp} {cs : List Value} {x : life_Rule} (h : k_life_Rule.rep H cs x) : cs = [.int .i64 x.f_Hits, .int .i64 x.f_Window, .int .i64 x.f_Misses] := by
 obtain ⟨_, _, rfl, rfl, ⟨_, _, rfl, rfl, rfl⟩⟩ := (show ((Kd.pair (Kd.int .i64) (Kd.pair (Kd.int .i64) (Kd.int .i64)))).rep H cs ((x.f_Hits, (x.f_Window, x.f_Misses))) from h)
 rfl
theorem k_life_Rule_in {H : Hp} {x : life_Rule} : k_life_Rule.rep H [.int .i64 x.f_Hits, .int .i64 x.f_Window, .int .i64 x.f_Misses] x :=
 (show ((Kd.pair (Kd.int .i64) (Kd.pair (Kd.int .i64) (Kd.int .i64)))).rep H _ ((x.f_Hits, (x.f_Window, x.f_Misses))) from ⟨[.int .i64 x.f_Hits], [.int .i64 x.f_Window, .int .i64 x.f_Misses], rfl, rfl, ⟨[.int .i64 x.f_Window], [.int .i64 x.f_Misses], rfl, rfl, rfl⟩⟩)
structure life_Life where
 f_Kind : Int
 f_Seen : Int
 f_Age : Int
 f_Missed : Int
instance : Inhabited life_Life := ⟨⟨0, 0, 0, 0⟩⟩
def k_life_Life : Kd life_Life := Kd.map (fun s => (s.f_Kind, (s.f_Seen, (s.f_Age, s.f_Missed)))) (Kd.pair (Kd.int .i64) (Kd.pair (Kd.int .u32) (Kd.pair (Kd.int .i64) (Kd.int .i64))))
theorem k_life_Life_out {H : Hp} {cs : List Value} {x : life_Life} (h : k_life_Life.rep H cs x) : cs = [.int .i64 x.f_Kind, .int .u32 x.f_Seen, .int .i64 x.f_Age, .int .i64 x.f_Missed] := by
 obtain ⟨_, _, rfl, rfl, ⟨_, _, rfl, rfl, ⟨_, _, rfl, rfl, rfl⟩⟩⟩ := (show ((Kd.pair (Kd.int .i64) (Kd.pair (Kd.int .u32) (Kd.pair (Kd.int .i64) (Kd.int .i64))))).rep H cs ((x.f_Kind, (x.f_Seen, (x.f_Age, x.f_Missed)))) from h)
 rfl
theorem k_life_Life_in {H : Hp} {x : life_Life} : k_life_Life.rep H [.int .i64 x.f_Kind, .int .u32 x.f_Seen, .int .i64 x.f_Age, .int .i64 x.f_Missed] x :=
 (show ((Kd.pair (Kd.int .i64) (Kd.pair (Kd.int .u32) (Kd.pair (Kd.int .i64) (Kd.int .i64))))).rep H _ ((x.f_Kind, (x.f_Seen, (x.f_Age, x.f_Missed)))) from ⟨[.int .i64 x.f_Kind], [.int .u32 x.f_Seen, .int .i64 x.f_Age, .int .i64 x.f_Missed], rfl, rfl, ⟨[.int .u32 x.f_Seen], [.int .i64 x.f_Age, .int .i64 x.f_Missed], rfl, rfl, ⟨[.int .i64 x.f_Age], [.int .i64 x.f_Missed], rfl, rfl, rfl⟩⟩⟩)
structure radomeref23_Rule where
 f_Hits : Int
 f_Window : Int
 f_Misses : Int
instance : Inhabited radomeref23_Rule := ⟨⟨0, 0, 0⟩⟩
def k_radomeref23_Rule : Kd radomeref23_Rule := Kd.map (fun s => (s.f_Hits, (s.f_Window, s.f_Misses))) (Kd.pair (Kd.int .i64) (Kd.pair (Kd.int .i64) (Kd.int .i64)))
theorem k_radomeref23_Rule_out {H : Hp} {cs : List Value} {x : radomeref23_Rule} (h : k_radomeref23_Rule.rep H cs x) : cs = [.int .i64 x.f_Hits, .int .i64 x.f_Window, .int .i64 x.f_Misses] := by
 obtain ⟨_, _, rfl, rfl, ⟨_, _, rfl, rfl, rfl⟩⟩ := (show ((Kd.pair (Kd.int .i64) (Kd.pair (Kd.int .i64) (Kd.int .i64)))).rep H cs ((x.f_Hits, (x.f_Window, x.f_Misses))) from h)
 rfl
theorem k_radomeref23_Rule_in {H : Hp} {x : radomeref23_Rule} : k_radomeref23_Rule.rep H [.int .i64 x.f_Hits, .int .i64 x.f_Window, .int .i64 x.f_Misses] x :=
 (show ((Kd.pair (Kd.int .i64) (Kd.pair (Kd.int .i64) (Kd.int .i64)))).rep H _ ((x.f_Hits, (x.f_Window, x.f_Misses))) from ⟨[.int .i64 x.f_Hits], [.int .i64 x.f_Window, .int .i64 x.f_Misses], rfl, rfl, ⟨[.int .i64 x.f_Window], [.int .i64 x.f_Misses], rfl, rfl, rfl⟩⟩)
structure radomeref23_Life where
 f_Kind : Int
 f_Seen : List Bool
 f_Missed : Int
instance : Inhabited radomeref23_Life := ⟨⟨0, [], 0⟩⟩
def k_radomeref23_Life : Kd radomeref23_Life := Kd.map (fun s => (s.f_Kind, (s.f_Seen, s.f_Missed))) (Kd.pair (Kd.int .i64) (Kd.pair (Kd.slice Kd.bool) (Kd.int .i64)))
theorem k_radomeref23_Life_out {H : Hp} {cs : List Value} {x : radomeref23_Life} (h : k_radomeref23_Life.rep H cs x) : ∃ v0, cs = [.int .i64 x.f_Kind, v0, .int .i64 x.f_Missed] ∧ Ro Kd.bool H v0 x.f_Seen := by
 obtain ⟨_, _, rfl, rfl, ⟨_, _, rfl, ⟨v0, rfl, h0⟩, rfl⟩⟩ := (show ((Kd.pair (Kd.int .i64) (Kd.pair (Kd.slice Kd.bool) (Kd.int .i64)))).rep H cs ((x.f_Kind, (x.f_Seen, x.f_Missed))) from h)
 exact ⟨v0, rfl, h0⟩
theorem k_radomeref23_Life_in {H : Hp} {v0 : Value} {x : radomeref23_Life} (h0 : Ro Kd.bool H v0 x.f_Seen) : k_radomeref23_Life.rep H [.int .i64 x.f_Kind, v0, .int .i64 x.f_Missed] x :=
 (show ((Kd.pair (Kd.int .i64) (Kd.pair (Kd.slice Kd.bool) (Kd.int .i64)))).rep H _ ((x.f_Kind, (x.f_Seen, x.f_Missed))) from ⟨[.int .i64 x.f_Kind], [v0, .int .i64 x.f_Missed], rfl, rfl, ⟨[v0], [.int .i64 x.f_Missed], rfl, ⟨v0, rfl, h0⟩, rfl⟩⟩)
structure T68 where
 e0 : Int
 e1 : Int
instance : Inhabited T68 := ⟨⟨0, 0⟩⟩
def k_T68 : Kd T68 := Kd.map (fun s => (s.e0, s.e1)) (Kd.pair (Kd.int .i64) (Kd.int .i64))
theorem k_T68_out {H : Hp} {cs : List Value} {x : T68} (h : k_T68.rep H cs x) : cs = [.int .i64 x.e0, .int .i64 x.e1] := by
 obtain ⟨_, _, rfl, rfl, rfl⟩ := (show ((Kd.pair (Kd.int .i64) (Kd.int .i64))).rep H cs ((x.e0, x.e1)) from h)
 rfl
theorem k_T68_in {H : Hp} {x : T68} : k_T68.rep H [.int .i64 x.e0, .int .i64 x.e1] x :=
 (show ((Kd.pair (Kd.int .i64) (Kd.int .i64))).rep H _ ((x.e0, x.e1)) from ⟨[.int .i64 x.e0], [.int .i64 x.e1], rfl, rfl, rfl⟩)
theorem ty3 : TyA Tryd.prog 3 false 1 := ⟨⟨_, Tryd.underlying3, rfl⟩, by kernel_rfl⟩
theorem sz3 : (Tryd.prog.info? 3).map (·.size) = some 1 := by kernel_rfl
theorem zr3 : (Tryd.prog.info? 3).bind (·.zero) = some (.int .i64 0) := by kernel_rfl
theorem ti3 : TI Tryd.prog 3 1 8 (.int .i64 0) := ⟨by kernel_rfl⟩
theorem zp3 (H : Hp) : ((Kd.int .i64)).rep H (Value.cells (.int .i64 0)).toList 0 := rfl
theorem ty4 : TyA Tryd.prog 4 false 1 := ⟨⟨_, Tryd.underlying4, rfl⟩, by kernel_rfl⟩
theorem sz4 : (Tryd.prog.info? 4).map (·.size) = some 1 := by kernel_rfl
theorem zr4 : (Tryd.prog.info? 4).bind (·.zero) = some (.bool false) := by kernel_rfl
theorem ti4 : TI Tryd.prog 4 1 1 (.bool false) := ⟨by kernel_rfl⟩
theorem zp4 (H : Hp) : (Kd.bool).rep H (Value.cells (.bool false)).toList false := rfl
theorem ty37 : TyA Tryd.prog 37 false 1 := ⟨⟨_, Tryd.underlying37, rfl⟩, by kernel_rfl⟩
theorem sz37 : (Tryd.prog.info? 37).map (·.size) = some 1 := by kernel_rfl
theorem zr37 : (Tryd.prog.info? 37).bind (·.zero) = some (.int .u32 0) := by kernel_rfl
theorem ti37 : TI Tryd.prog 37 1 4 (.int .u32 0) := ⟨by kernel_rfl⟩
theorem zp37 (H : Hp) : ((Kd.int .u32)).rep H (Value.cells (.int .u32 0)).toList 0 := rfl
theorem ty41 : TyA Tryd.prog 41 false 1 := ⟨⟨_, Tryd.underlying41, rfl⟩, by kernel_rfl⟩
theorem sz41 : (Tryd.prog.info? 41).map (·.size) = some 1 := by kernel_rfl
theorem zr41 : (Tryd.prog.info? 41).bind (·.zero) = some (.slice none 0 0) := by kernel_rfl
theorem ti41 : TI Tryd.prog 41 1 24 (.slice none 0 0) := ⟨by kernel_rfl⟩
theorem zp41 (H : Hp) : ((Kd.slice (Kd.int .i64))).rep H (Value.cells (.slice none 0 0)).toList [] := ⟨_, rfl, ro_nil _ _⟩
theorem ty43 : TyA Tryd.prog 43 true 2 := ⟨⟨_, Tryd.underlying43, rfl⟩, by kernel_rfl⟩
theorem sz43 : (Tryd.prog.info? 43).map (·.size) = some 2 := by kernel_rfl
theorem zr43 : (Tryd.prog.info? 43).bind (·.zero) = some (.agg #[.bool false, .slice none 0 0]) := by kernel_rfl
theorem ti43 : TI Tryd.prog 43 2 32 (.agg #[.bool false, .slice none 0 0]) := ⟨by kernel_rfl⟩
theorem zp43 (H : Hp) : (k_radomeref01_Num).rep H (Value.cells (.agg #[.bool false, .slice none 0 0])).toList (⟨false, []⟩ : radomeref01_Num) := k_radomeref01_Num_in (x := (⟨false, []⟩ : radomeref01_Num)) (ro_nil _ _)
theorem ty49 : TyA Tryd.prog 49 true 3 := ⟨⟨_, Tryd.underlying49, rfl⟩, by kernel_rfl⟩
theorem sz49 : (Tryd.prog.info? 49).map (·.size) = some 3 := by kernel_rfl
theorem zr49 : (Tryd.prog.info? 49).bind (·.zero) = some (.agg #[.int .i64 0, .int .i64 0, .int .i64 0]) := by kernel_rfl
theorem ti49 : TI Tryd.prog 49 3 24 (.agg #[.int .i64 0, .int .i64 0, .int .i64 0]) := ⟨by kernel_rfl⟩
theorem zp49 (H : Hp) : (k_radomeref23_Rule).rep H (Value.cells (.agg #[.int .i64 0, .int .i64 0, .int .i64 0])).toList (⟨0, 0, 0⟩ : radomeref23_Rule) := k_radomeref23_Rule_in (x := (⟨0, 0, 0⟩ : radomeref23_Rule))
theorem ty50 : TyA Tryd.prog 50 false 1 := ⟨⟨_, Tryd.underlying50, rfl⟩, by kernel_rfl⟩
theorem sz50 : (Tryd.prog.info? 50).map (·.size) = some 1 := by kernel_rfl
theorem zr50 : (Tryd.prog.info? 50).bind (·.zero) = some (.slice none 0 0) := by kernel_rfl
theorem ti50 : TI Tryd.prog 50 1 24 (.slice none 0 0) := ⟨by kernel_rfl⟩
theorem zp50 (H : Hp) : ((Kd.slice Kd.bool)).rep H (Value.cells (.slice none 0 0)).toList [] := ⟨_, rfl, ro_nil _ _⟩
theorem ty52 : TyA Tryd.prog 52 true 4 := ⟨⟨_, Tryd.underlying52, rfl⟩, by kernel_rfl⟩
theorem sz52 : (Tryd.prog.info? 52).map (·.size) = some 4 := by kernel_rfl
theorem zr52 : (Tryd.prog.info? 52).bind (·.zero) = some (.agg #[.int .i64 0, .int .u32 0, .int .i64 0, .int .i64 0]) := by kernel_rfl
theorem ti52 : TI Tryd.prog 52 4 32 (.agg #[.int .i64 0, .int .u32 0, .int .i64 0, .int .i64 0]) := ⟨by kernel_rfl⟩
theorem zp52 (H : Hp) : (k_life_Life).rep H (Value.cells (.agg #[.int .i64 0, .int .u32 0, .int .i64 0, .int .i64 0])).toList (⟨0, 0, 0, 0⟩ : life_Life) := k_life_Life_in (x := (⟨0, 0, 0, 0⟩ : life_Life))
theorem ty55 : TyA Tryd.prog 55 true 3 := ⟨⟨_, Tryd.underlying55, rfl⟩, by kernel_rfl⟩
theorem sz55 : (Tryd.prog.info? 55).map (·.size) = some 3 := by kernel_rfl
theorem zr55 : (Tryd.prog.info? 55).bind (·.zero) = some (.agg #[.int .i64 0, .int .i64 0, .int .i64 0]) := by kernel_rfl
theorem ti55 : TI Tryd.prog 55 3 24 (.agg #[.int .i64 0, .int .i64 0, .int .i64 0]) := ⟨by kernel_rfl⟩
theorem zp55 (H : Hp) : (k_life_Rule).rep H (Value.cells (.agg #[.int .i64 0, .int .i64 0, .int .i64 0])).toList (⟨0, 0, 0⟩ : life_Rule) := k_life_Rule_in (x := (⟨0, 0, 0⟩ : life_Rule))
theorem ty60 : TyA Tryd.prog 60 true 3 := ⟨⟨_, Tryd.underlying60, rfl⟩, by kernel_rfl⟩
theorem sz60 : (Tryd.prog.info? 60).map (·.size) = some 3 := by kernel_rfl
theorem zr60 : (Tryd.prog.info? 60).bind (·.zero) = some (.agg #[.int .i64 0, .slice none 0 0, .int .i64 0]) := by kernel_rfl
theorem ti60 : TI Tryd.prog 60 3 40 (.agg #[.int .i64 0, .slice none 0 0, .int .i64 0]) := ⟨by kernel_rfl⟩
theorem zp60 (H : Hp) : (k_radomeref23_Life).rep H (Value.cells (.agg #[.int .i64 0, .slice none 0 0, .int .i64 0])).toList (⟨0, [], 0⟩ : radomeref23_Life) := k_radomeref23_Life_in (x := (⟨0, [], 0⟩ : radomeref23_Life)) (ro_nil _ _)
theorem co16 : CallOk Tryd.prog 16 := ⟨_, Tryd.func16, by decide, rfl⟩
theorem co17 : CallOk Tryd.prog 17 := ⟨_, Tryd.func17, by decide, rfl⟩
theorem co18 : CallOk Tryd.prog 18 := ⟨_, Tryd.func18, by decide, rfl⟩
theorem co19 : CallOk Tryd.prog 19 := ⟨_, Tryd.func19, by decide, rfl⟩
theorem co20 : CallOk Tryd.prog 20 := ⟨_, Tryd.func20, by decide, rfl⟩
theorem co21 : CallOk Tryd.prog 21 := ⟨_, Tryd.func21, by decide, rfl⟩
theorem co22 : CallOk Tryd.prog 22 := ⟨_, Tryd.func22, by decide, rfl⟩
theorem co23 : CallOk Tryd.prog 23 := ⟨_, Tryd.func23, by decide, rfl⟩
theorem co24 : CallOk Tryd.prog 24 := ⟨_, Tryd.func24, by decide, rfl⟩
theorem co25 : CallOk Tryd.prog 25 := ⟨_, Tryd.func25, by decide, rfl⟩
theorem co26 : CallOk Tryd.prog 26 := ⟨_, Tryd.func26, by decide, rfl⟩
theorem co27 : CallOk Tryd.prog 27 := ⟨_, Tryd.func27, by decide, rfl⟩
theorem co28 : CallOk Tryd.prog 28 := ⟨_, Tryd.func28, by decide, rfl⟩
theorem co29 : CallOk Tryd.prog 29 := ⟨_, Tryd.func29, by decide, rfl⟩
theorem co30 : CallOk Tryd.prog 30 := ⟨_, Tryd.func30, by decide, rfl⟩
theorem co31 : CallOk Tryd.prog 31 := ⟨_, Tryd.func31, by decide, rfl⟩
theorem co32 : CallOk Tryd.prog 32 := ⟨_, Tryd.func32, by decide, rfl⟩
theorem co33 : CallOk Tryd.prog 33 := ⟨_, Tryd.func33, by decide, rfl⟩
theorem co34 : CallOk Tryd.prog 34 := ⟨_, Tryd.func34, by decide, rfl⟩
theorem co37 : CallOk Tryd.prog 37 := ⟨_, Tryd.func37, by decide, rfl⟩
theorem co38 : CallOk Tryd.prog 38 := ⟨_, Tryd.func38, by decide, rfl⟩
theorem co39 : CallOk Tryd.prog 39 := ⟨_, Tryd.func39, by decide, rfl⟩
theorem co40 : CallOk Tryd.prog 40 := ⟨_, Tryd.func40, by decide, rfl⟩
theorem co41 : CallOk Tryd.prog 41 := ⟨_, Tryd.func41, by decide, rfl⟩
theorem co42 : CallOk Tryd.prog 42 := ⟨_, Tryd.func42, by decide, rfl⟩
theorem co43 : CallOk Tryd.prog 43 := ⟨_, Tryd.func43, by decide, rfl⟩
theorem co44 : CallOk Tryd.prog 44 := ⟨_, Tryd.func44, by decide, rfl⟩
theorem co45 : CallOk Tryd.prog 45 := ⟨_, Tryd.func45, by decide, rfl⟩
theorem co46 : CallOk Tryd.prog 46 := ⟨_, Tryd.func46, by decide, rfl⟩
theorem co47 : CallOk Tryd.prog 47 := ⟨_, Tryd.func47, by decide, rfl⟩
theorem co48 : CallOk Tryd.prog 48 := ⟨_, Tryd.func48, by decide, rfl⟩
theorem co49 : CallOk Tryd.prog 49 := ⟨_, Tryd.func49, by decide, rfl⟩
theorem co54 : CallOk Tryd.prog 54 := ⟨_, Tryd.func54, by decide, rfl⟩
theorem co55 : CallOk Tryd.prog 55 := ⟨_, Tryd.func55, by decide, rfl⟩
theorem co56 : CallOk Tryd.prog 56 := ⟨_, Tryd.func56, by decide, rfl⟩
theorem co57 : CallOk Tryd.prog 57 := ⟨_, Tryd.func57, by decide, rfl⟩
theorem co58 : CallOk Tryd.prog 58 := ⟨_, Tryd.func58, by decide, rfl⟩
theorem co59 : CallOk Tryd.prog 59 := ⟨_, Tryd.func59, by decide, rfl⟩
theorem co60 : CallOk Tryd.prog 60 := ⟨_, Tryd.func60, by decide, rfl⟩
theorem co64 : CallOk Tryd.prog 64 := ⟨_, Tryd.func64, by decide, rfl⟩
theorem co65 : CallOk Tryd.prog 65 := ⟨_, Tryd.func65, by decide, rfl⟩
theorem co66 : CallOk Tryd.prog 66 := ⟨_, Tryd.func66, by decide, rfl⟩
theorem co67 : CallOk Tryd.prog 67 := ⟨_, Tryd.func67, by decide, rfl⟩
theorem co68 : CallOk Tryd.prog 68 := ⟨_, Tryd.func68, by decide, rfl⟩
theorem fn_37 : Tryd.prog.funcs[37]? = some Tryd.f37 := Tryd.func37
theorem rs_37 : Tryd.f37.results = ⟨[.tmp 4, .tmp 5]⟩ := rfl
theorem nt_37 : Tryd.f37.ntmps = 51 := rfl
theorem fn_38 : Tryd.prog.funcs[38]? = some Tryd.f38 := Tryd.func38
theorem rs_38 : Tryd.f38.results = ⟨[.tmp 6]⟩ := rfl
theorem nt_38 : Tryd.f38.ntmps = 67 := rfl
theorem fn_16 : Tryd.prog.funcs[16]? = some Tryd.f16 := Tryd.func16
theorem rs_16 : Tryd.f16.results = ⟨[.tmp 4, .tmp 5]⟩ := rfl
theorem nt_16 : Tryd.f16.ntmps = 27 := rfl
theorem fn_39 : Tryd.prog.funcs[39]? = some Tryd.f39 := Tryd.func39
theorem rs_39 : Tryd.f39.results = ⟨[.tmp 2]⟩ := rfl
theorem nt_39 : Tryd.f39.ntmps = 6 := rfl
theorem fn_40 : Tryd.prog.funcs[40]? = some Tryd.f40 := Tryd.func40
theorem rs_40 : Tryd.f40.results = ⟨[.tmp 4]⟩ := rfl
theorem nt_40 : Tryd.f40.ntmps = 9 := rfl
theorem fn_41 : Tryd.prog.funcs[41]? = some Tryd.f41 := Tryd.func41
theorem rs_41 : Tryd.f41.results = ⟨[.tmp 6]⟩ := rfl
theorem nt_41 : Tryd.f41.ntmps = 14 := rfl
theorem fn_42 : Tryd.prog.funcs[42]? = some Tryd.f42 := Tryd.func42
theorem rs_42 : Tryd.f42.results = ⟨[.tmp 4]⟩ := rfl
theorem nt_42 : Tryd.f42.ntmps = 11 := rfl
theorem fn_18 : Tryd.prog.funcs[18]? = some Tryd.f18 := Tryd.func18
theorem rs_18 : Tryd.f18.results = ⟨[.tmp 0]⟩ := rfl
theorem nt_18 : Tryd.f18.ntmps = 28 := rfl
theorem fn_22 : Tryd.prog.funcs[22]? = some Tryd.f22 := Tryd.func22
theorem rs_22 : Tryd.f22.results = ⟨[.cell 2 43]⟩ := rfl
theorem nt_22 : Tryd.f22.ntmps = 25 := rfl
theorem fn_58 : Tryd.prog.funcs[58]? = some Tryd.f58 := Tryd.func58
theorem rs_58 : Tryd.f58.results = ⟨[.tmp 2]⟩ := rfl
theorem nt_58 : Tryd.f58.ntmps = 21 := rfl
theorem fn_57 : Tryd.prog.funcs[57]? = some Tryd.f57 := Tryd.func57
theorem rs_57 : Tryd.f57.results = ⟨[.cell 4 43]⟩ := rfl
theorem nt_57 : Tryd.f57.ntmps = 13 := rfl
theorem fn_44 : Tryd.prog.funcs[44]? = some Tryd.f44 := Tryd.func44
theorem rs_44 : Tryd.f44.results = ⟨[.cell 4 43]⟩ := rfl
theorem nt_44 : Tryd.f44.ntmps = 76 := rfl
theorem fn_67 : Tryd.prog.funcs[67]? = some Tryd.f67 := Tryd.func67
theorem rs_67 : Tryd.f67.results = ⟨[.tmp 4]⟩ := rfl
theorem nt_67 : Tryd.f67.ntmps = 52 := rfl
theorem fn_64 : Tryd.prog.funcs[64]? = some Tryd.f64 := Tryd.func64
theorem rs_64 : Tryd.f64.results = ⟨[.tmp 4]⟩ := rfl
theorem nt_64 : Tryd.f64.ntmps = 41 := rfl
theorem fn_65 : Tryd.prog.funcs[65]? = some Tryd.f65 := Tryd.func65
theorem rs_65 : Tryd.f65.results = ⟨[.tmp 4]⟩ := rfl
theorem nt_65 : Tryd.f65.ntmps = 41 := rfl
theorem fn_56 : Tryd.prog.funcs[56]? = some Tryd.f56 := Tryd.func56
theorem rs_56 : Tryd.f56.results = ⟨[.cell 4 43]⟩ := rfl
theorem nt_56 : Tryd.f56.ntmps = 39 := rfl
theorem fn_45 : Tryd.prog.funcs[45]? = some Tryd.f45 := Tryd.func45
theorem rs_45 : Tryd.f45.results = ⟨[.cell 2 43]⟩ := rfl
theorem nt_45 : Tryd.f45.ntmps = 26 := rfl
theorem fn_68 : Tryd.prog.funcs[68]? = some Tryd.f68 := Tryd.func68
theorem rs_68 : Tryd.f68.results = ⟨[.cell 2 43]⟩ := rfl
theorem nt_68 : Tryd.f68.ntmps = 9 := rfl
theorem fn_66 : Tryd.prog.funcs[66]? = some Tryd.f66 := Tryd.func66
theorem rs_66 : Tryd.f66.results = ⟨[.cell 4 43]⟩ := rfl
theorem nt_66 : Tryd.f66.ntmps = 9 := rfl
theorem fn_54 : Tryd.prog.funcs[54]? = some Tryd.f54 := Tryd.func54
theorem rs_54 : Tryd.f54.results = ⟨[.cell 4 43, .cell 5 43]⟩ := rfl
theorem nt_54 : Tryd.f54.ntmps = 79 := rfl
theorem fn_21 : Tryd.prog.funcs[21]? = some Tryd.f21 := Tryd.func21
theorem rs_21 : Tryd.f21.results = ⟨[.tmp 2]⟩ := rfl
theorem nt_21 : Tryd.f21.ntmps = 9 := rfl
theorem fn_55 : Tryd.prog.funcs[55]? = some Tryd.f55 := Tryd.func55
theorem rs_55 : Tryd.f55.results = ⟨[.tmp 4]⟩ := rfl
theorem nt_55 : Tryd.f55.ntmps = 9 := rfl
theorem fn_43 : Tryd.prog.funcs[43]? = some Tryd.f43 := Tryd.func43
theorem rs_43 : Tryd.f43.results = ⟨[.cell 4 43]⟩ := rfl
theorem nt_43 : Tryd.f43.ntmps = 42 := rfl
theorem fn_20 : Tryd.prog.funcs[20]? = some Tryd.f20 := Tryd.func20
theorem rs_20 : Tryd.f20.results = ⟨[.cell 4 43]⟩ := rfl
theorem nt_20 : Tryd.f20.ntmps = 13 := rfl
theorem fn_19 : Tryd.prog.funcs[19]? = some Tryd.f19 := Tryd.func19
theorem rs_19 : Tryd.f19.results = ⟨[.tmp 2]⟩ := rfl
theorem nt_19 : Tryd.f19.ntmps = 26 := rfl
theorem fn_4 : Tryd.prog.funcs[4]? = some Tryd.f4 := Tryd.func4
theorem rs_4 : Tryd.f4.results = ⟨[.tmp 4]⟩ := rfl
theorem nt_4 : Tryd.f4.ntmps = 49 := rfl
theorem fn_27 : Tryd.prog.funcs[27]? = some Tryd.f27 := Tryd.func27
theorem rs_27 : Tryd.f27.results = ⟨[.tmp 2]⟩ := rfl
theorem nt_27 : Tryd.f27.ntmps = 29 := rfl
theorem fn_23 : Tryd.prog.funcs[23]? = some Tryd.f23 := Tryd.func23
theorem rs_23 : Tryd.f23.results = ⟨[.cell 2 52, .tmp 3]⟩ := rfl
theorem nt_23 : Tryd.f23.ntmps = 24 := rfl
theorem fn_24 : Tryd.prog.funcs[24]? = some Tryd.f24 := Tryd.func24
theorem rs_24 : Tryd.f24.results = ⟨[.tmp 2]⟩ := rfl
theorem nt_24 : Tryd.f24.ntmps = 33 := rfl
theorem fn_49 : Tryd.prog.funcs[49]? = some Tryd.f49 := Tryd.func49
theorem rs_49 : Tryd.f49.results = ⟨[.tmp 4]⟩ := rfl
theorem nt_49 : Tryd.f49.ntmps = 44 := rfl
theorem fn_34 : Tryd.prog.funcs[34]? = some Tryd.f34 := Tryd.func34
theorem rs_34 : Tryd.f34.results = ⟨[.tmp 4]⟩ := rfl
theorem nt_34 : Tryd.f34.ntmps = 35 := rfl
theorem fn_31 : Tryd.prog.funcs[31]? = some Tryd.f31 := Tryd.func31
theorem rs_31 : Tryd.f31.results = ⟨[.tmp 2]⟩ := rfl
theorem nt_31 : Tryd.f31.ntmps = 11 := rfl
theorem fn_59 : Tryd.prog.funcs[59]? = some Tryd.f59 := Tryd.func59
theorem rs_59 : Tryd.f59.results = ⟨[.tmp 2]⟩ := rfl
theorem nt_59 : Tryd.f59.ntmps = 21 := rfl
theorem fn_60 : Tryd.prog.funcs[60]? = some Tryd.f60 := Tryd.func60
theorem rs_60 : Tryd.f60.results = ⟨[.tmp 4]⟩ := rfl
theorem nt_60 : Tryd.f60.ntmps = 13 := rfl
theorem fn_46 : Tryd.prog.funcs[46]? = some Tryd.f46 := Tryd.func46
theorem rs_46 : Tryd.f46.results = ⟨[.tmp 4]⟩ := rfl
theorem nt_46 : Tryd.f46.ntmps = 33 := rfl
theorem fn_25 : Tryd.prog.funcs[25]? = some Tryd.f25 := Tryd.func25
theorem rs_25 : Tryd.f25.results = ⟨[.cell 6 52, .tmp 7]⟩ := rfl
theorem nt_25 : Tryd.f25.ntmps = 54 := rfl
theorem fn_28 : Tryd.prog.funcs[28]? = some Tryd.f28 := Tryd.func28
theorem rs_28 : Tryd.f28.results = ⟨[.tmp 0]⟩ := rfl
theorem nt_28 : Tryd.f28.ntmps = 61 := rfl
theorem fn_29 : Tryd.prog.funcs[29]? = some Tryd.f29 := Tryd.func29
theorem rs_29 : Tryd.f29.results = ⟨[.cell 2 60]⟩ := rfl
theorem nt_29 : Tryd.f29.ntmps = 15 := rfl
theorem fn_47 : Tryd.prog.funcs[47]? = some Tryd.f47 := Tryd.func47
theorem rs_47 : Tryd.f47.results = ⟨[.tmp 2]⟩ := rfl
theorem nt_47 : Tryd.f47.ntmps = 20 := rfl
theorem fn_30 : Tryd.prog.funcs[30]? = some Tryd.f30 := Tryd.func30
theorem rs_30 : Tryd.f30.results = ⟨[.tmp 4]⟩ := rfl
theorem nt_30 : Tryd.f30.ntmps = 33 := rfl
theorem fn_32 : Tryd.prog.funcs[32]? = some Tryd.f32 := Tryd.func32
theorem rs_32 : Tryd.f32.results = ⟨[.tmp 2]⟩ := rfl
theorem nt_32 : Tryd.f32.ntmps = 11 := rfl
theorem fn_48 : Tryd.prog.funcs[48]? = some Tryd.f48 := Tryd.func48
theorem rs_48 : Tryd.f48.results = ⟨[.tmp 2]⟩ := rfl
theorem nt_48 : Tryd.f48.ntmps = 18 := rfl
theorem fn_33 : Tryd.prog.funcs[33]? = some Tryd.f33 := Tryd.func33
theorem rs_33 : Tryd.f33.results = ⟨[.cell 6 60]⟩ := rfl
theorem nt_33 : Tryd.f33.ntmps = 75 := rfl
theorem fn_5 : Tryd.prog.funcs[5]? = some Tryd.f5 := Tryd.func5
theorem rs_5 : Tryd.f5.results = ⟨[.tmp 4]⟩ := rfl
theorem nt_5 : Tryd.f5.ntmps = 125 := rfl
theorem fn_6 : Tryd.prog.funcs[6]? = some Tryd.f6 := Tryd.func6
theorem rs_6 : Tryd.f6.results = ⟨[.tmp 6]⟩ := rfl
theorem nt_6 : Tryd.f6.ntmps = 146 := rfl
theorem mixed : Tryd.prog.follows .mixedOrders = true := by kernel_rfl
def GH (H : Hp) : Prop := ∃ o, H.at_ 0 = some o ∧ ∀ w : World, w.heap[0]? = some o → GG w
theorem GH.mono {H H' : Hp} (h : GH H) (hle : H.le H') : GH H' := let ⟨o, h1, h2⟩ := h; ⟨o, hle.at_ 0 o h1, h2⟩
theorem gh_of {W : World} (h : GG W) : GH (snap W) := by
 unfold GG at h
 have h1 := h
 unfold World.cell? at h1
 split at h1
 · rename_i c1 T fz hh
   refine ⟨_, hh, fun w hw => ?_⟩
   show w.cell? _ = _
   unfold World.cell?
   rw [hw]; exact h1
 · cases h1
def errN (e : Option Int) : Int := e.getD 0
theorem num12.calls {H : Hp} {L : Items} {e : Option Int} (hG : GH H) (he : some (errN e) = some (errN e)) : Ct Tryd.prog 12 ⟨[errV 70 e]⟩ H L (fun v H' L' => L = L' ∧ H = H' ∧ v = .int .i64 (errN e)) := Ct.of_calls fun w hw => by
 obtain ⟨o, h1, h2⟩ := hG
 have hg := h2 w (hw.good 0 o h1)
 have this : Calls Tryd.prog 12 #[errV 70 e] w fun ev w' => ev = .returned (.int .i64 (e.getD 0)) ∧ Below w.heap.size w w' := by
  cases e with
  | none => exact num12_any none w hg
  | some c => exact num12_any (some c) w hg
 refine this.mono ?_
 rintro ev w' ⟨rfl, hb⟩
 exact ⟨_, _, _, rfl, hw.below hb, rfl, rfl, rfl⟩
theorem num17.calls {H : Hp} {L : Items} {e : Option Int} (hG : GH H) (he : some (errN e) = some (errN e)) : Ct Tryd.prog 17 ⟨[errV 70 e]⟩ H L (fun v H' L' => L = L' ∧ H = H' ∧ v = .int .i64 (errN e)) := Ct.of_calls fun w hw => by
 obtain ⟨o, h1, h2⟩ := hG
 have hg := h2 w (hw.good 0 o h1)
 have this : Calls Tryd.prog 17 #[errV 70 e] w fun ev w' => ev = .returned (.int .i64 (e.getD 0)) ∧ Below w.heap.size w w' := by
  cases e with
  | none => exact num17_any none w hg
  | some c => exact num17_any (some c) w hg
 refine this.mono ?_
 rintro ev w' ⟨rfl, hb⟩
 exact ⟨_, _, _, rfl, hw.below hb, rfl, rfl, rfl⟩
theorem num26.calls {H : Hp} {L : Items} {e : Option Int} (hG : GH H) (he : some (errN e) = some (errN e)) : Ct Tryd.prog 26 ⟨[errV 70 e]⟩ H L (fun v H' L' => L = L' ∧ H = H' ∧ v = .int .i64 (errN e)) := Ct.of_calls fun w hw => by
 obtain ⟨o, h1, h2⟩ := hG
 have hg := h2 w (hw.good 0 o h1)
 have this : Calls Tryd.prog 26 #[errV 70 e] w fun ev w' => ev = .returned (.int .i64 (e.getD 0)) ∧ Below w.heap.size w w' := by
  cases e with
  | none => exact num26_any none w hg
  | some c => exact num26_any (some c) w hg
 refine this.mono ?_
 rintro ev w' ⟨rfl, hb⟩
 exact ⟨_, _, _, rfl, hw.below hb, rfl, rfl, rfl⟩
end Go.Proofs.YtddcfnhbedpbnaaDoor.GTR
