/- A text of this session, written by a program (wip/k/gen.py): Go functions as Lean functions, and proofs that the code comes to them. -/
import Derived.Test.YtddcfnhbedpbnaaK8
namespace Go.Proofs.Ytddcfnhbedpbnaa.GLL
open Go Go.RowKit Go.Proofs.YtddcfnhbedpbnaaK Go.Proofs.Ytddcfnhbedpbnaa
set_option linter.unusedVariables false
set_option linter.unusedSimpArgs false
def str_0 : ByteArray := ⟨#[0, 1, 1, 2, 1, 2, 2, 3, 1, 2, 2, 3, 2, 3, 3, 4, 1, 2, 2, 3, 2, 3, 3, 4, 2, 3, 3, 4, 3, 4, 4, 5, 1, 2, 2, 3, 2, 3, 3, 4, 2, 3, 3, 4, 3, 4, 4, 5, 2, 3, 3, 4, 3, 4, 4, 5, 3, 4, 4, 5, 4, 5, 5, 6, 1, 2, 2, 3, 2, 3, 3, 4, 2, 3, 3, 4, 3, 4, 4, 5, 2, 3, 3, 4, 3, 4, 4, 5, 3, 4, 4, 5, 4, 5, 5, 6, 2, 3, 3, 4, 3, 4, 4, 5, 3, 4, 4, 5, 4, 5, 5, 6, 3, 4, 4, 5, 4, 5, 5, 6, 4, 5, 5, 6, 5, 6, 6, 7, 1, 2, 2, 3, 2, 3, 3, 4, 2, 3, 3, 4, 3, 4, 4, 5, 2, 3, 3, 4, 3, 4, 4, 5, 3, 4, 4, 5, 4, 5, 5, 6, 2, 3, 3, 4, 3, 4, 4, 5, 3, 4, 4, 5, 4, 5, 5, 6, 3, 4, 4, 5, 4, 5, 5, 6, 4, 5, 5, 6, 5, 6, 6, 7, 2, 3, 3, 4, 3, 4, 4, 5, 3, 4, 4, 5, 4, 5, 5, 6, 3, 4, 4, 5, 4, 5, 5, 6, 4, 5, 5, 6, 5, 6, 6, 7, 3, 4, 4, 5, 4, 5, 5, 6, 4, 5, 5, 6, 5, 6, 6, 7, 4, 5, 5, 6, 5, 6, 6, 7, 5, 6, 6, 7, 6, 7, 7, 8]⟩
structure radomeref23_Rule where
 f_Hits : Int
 f_Window : Int
 f_Misses : Int
instance : Inhabited radomeref23_Rule := ⟨⟨0, 0, 0⟩⟩
def k_radomeref23_Rule : Kd radomeref23_Rule := Kd.map (fun s => (s.f_Hits, (s.f_Window, s.f_Misses))) (Kd.pair (Kd.int .i64) (Kd.pair (Kd.int .i64) (Kd.int .i64)))
theorem k_radomeref23_Rule_out {H : Hp} {cs : List Value} {x : radomeref23_Rule} (h : k_radomeref23_Rule.rep H cs x) : cs = [.int .i64 x.f_Hits, .int .i64 x.f_Window, .int .i64 x.f_Misses] := by
 obtain ⟨_, _, rfl, rfl, ⟨_, _, rfl, rfl, rfl⟩⟩ := (show ((Kd.pair (Kd.int .i64) (Kd.pair (Kd.int .i64) (Kd.int .i64)))).rep H cs ((x.f_Hits, (x.f_Window, x.f_Misses))) from h)
 rfl
theorem k_radomeref23_Rule_in {H : Hp} {x : radomeref23_Rule} : k_radomeref23_Rule.rep H [.int .i64 x.f_Hits, .int .i64 x.f_Window, .int .i64 x.f_Misses] x :=
 (show ((Kd.pair (Kd.int .i64) (Kd.pair (Kd.int .i64) (Kd.int .i64)))).rep H _ ((x.f_Hits, (x.f_Window, x.f_Misses))) from ⟨[.int .i64 x.f_Hits], [.int .i64 x.f_Window, .int .i64 x.f_Misses], rfl, rfl, ⟨[.int .i64 x.f_Window], [.int .i64 x.f_Misses], rfl, rfl, rfl⟩⟩)
structure life_Rule where
 f_Hits : Int
 f_Window : Int
 f_Misses : Int
instance : Inhabited life_Rule := ⟨⟨0, 0, 0⟩⟩
def k_life_Rule : Kd life_Rule := Kd.map (fun s => (s.f_Hits, (s.f_Window, s.f_Misses))) (Kd.pair (Kd.int .i64) (Kd.pair (Kd.int .i64) (Kd.int .i64)))
theorem k_life_Rule_out {H : Hp} {cs : List Value} {x : life_Rule} (h : k_life_Rule.rep H cs x) : cs = [.int .i64 x.f_Hits, .int .i64 x.f_Window, .int .i64 x.f_Misses] := by
 obtain ⟨_, _, rfl, rfl, ⟨_, _, rfl, rfl, rfl⟩⟩ := (show ((Kd.pair (Kd.int .i64) (Kd.pair (Kd.int .i64) (Kd.int .i64)))).rep H cs ((x.f_Hits, (x.f_Window, x.f_Misses))) from h)
 rfl
theorem k_life_Rule_in {H : Hp} {x : life_Rule} : k_life_Rule.rep H [.int .i64 x.f_Hits, .int .i64 x.f_Window, .int .i64 x.f_Misses] x :=
 (show ((Kd.pair (Kd.int .i64) (Kd.pair (Kd.int .i64) (Kd.int .i64)))).rep H _ ((x.f_Hits, (x.f_Window, x.f_Misses))) from ⟨[.int .i64 x.f_Hits], [.int .i64 x.f_Window, .int .i64 x.f_Misses], rfl, rfl, ⟨[.int .i64 x.f_Window], [.int .i64 x.f_Misses], rfl, rfl, rfl⟩⟩)
structure life_Life where
 f_Kind : Int
 f_Seen : Int
 f_Age : Int
 f_Missed : Int
instance : Inhabited life_Life := ⟨⟨0, 0, 0, 0⟩⟩
def k_life_Life : Kd life_Life := Kd.map (fun s => (s.f_Kind, (s.f_Seen, (s.f_Age, s.f_Missed)))) (Kd.pair (Kd.int .i64) (Kd.pair (Kd.int .u32) (Kd.pair (Kd.int .i64) (Kd.int .i64))))
theorem k_life_Life_out {H : Hp} {cs : List Value} {x : life_Life} (h : k_life_Life.rep H cs x) : cs = [.int .i64 x.f_Kind, .int .u32 x.f_Seen, .int .i64 x.f_Age, .int .i64 x.f_Missed] := by
 obtain ⟨_, _, rfl, rfl, ⟨_, _, rfl, rfl, ⟨_, _, rfl, rfl, rfl⟩⟩⟩ := (show ((Kd.pair (Kd.int .i64) (Kd.pair (Kd.int .u32) (Kd.pair (Kd.int .i64) (Kd.int .i64))))).rep H cs ((x.f_Kind, (x.f_Seen, (x.f_Age, x.f_Missed)))) from h)
 rfl
theorem k_life_Life_in {H : Hp} {x : life_Life} : k_life_Life.rep H [.int .i64 x.f_Kind, .int .u32 x.f_Seen, .int .i64 x.f_Age, .int .i64 x.f_Missed] x :=
 (show ((Kd.pair (Kd.int .i64) (Kd.pair (Kd.int .u32) (Kd.pair (Kd.int .i64) (Kd.int .i64))))).rep H _ ((x.f_Kind, (x.f_Seen, (x.f_Age, x.f_Missed)))) from ⟨[.int .i64 x.f_Kind], [.int .u32 x.f_Seen, .int .i64 x.f_Age, .int .i64 x.f_Missed], rfl, rfl, ⟨[.int .u32 x.f_Seen], [.int .i64 x.f_Age, .int .i64 x.f_Missed], rfl, rfl, ⟨[.int .i64 x.f_Age], [.int .i64 x.f_Missed], rfl, rfl, rfl⟩⟩⟩)
theorem ty3 : TyA Try.prog 3 false 1 := ⟨⟨_, Try.underlying3, rfl⟩, by kernel_rfl⟩
theorem sz3 : (Try.prog.info? 3).map (·.size) = some 1 := by kernel_rfl
theorem zr3 : (Try.prog.info? 3).bind (·.zero) = some (.int .i64 0) := by kernel_rfl
theorem ti3 : TI Try.prog 3 1 8 (.int .i64 0) := ⟨by kernel_rfl⟩
theorem zp3 (H : Hp) : ((Kd.int .i64)).rep H (Value.cells (.int .i64 0)).toList 0 := rfl
theorem ty4 : TyA Try.prog 4 false 1 := ⟨⟨_, Try.underlying4, rfl⟩, by kernel_rfl⟩
theorem sz4 : (Try.prog.info? 4).map (·.size) = some 1 := by kernel_rfl
theorem zr4 : (Try.prog.info? 4).bind (·.zero) = some (.bool false) := by kernel_rfl
theorem ti4 : TI Try.prog 4 1 1 (.bool false) := ⟨by kernel_rfl⟩
theorem zp4 (H : Hp) : (Kd.bool).rep H (Value.cells (.bool false)).toList false := rfl
theorem ty29 : TyA Try.prog 29 false 1 := ⟨⟨_, Try.underlying29, rfl⟩, by kernel_rfl⟩
theorem sz29 : (Try.prog.info? 29).map (·.size) = some 1 := by kernel_rfl
theorem zr29 : (Try.prog.info? 29).bind (·.zero) = some (.int .u32 0) := by kernel_rfl
theorem ti29 : TI Try.prog 29 1 4 (.int .u32 0) := ⟨by kernel_rfl⟩
theorem zp29 (H : Hp) : ((Kd.int .u32)).rep H (Value.cells (.int .u32 0)).toList 0 := rfl
theorem ty43 : TyA Try.prog 43 true 3 := ⟨⟨_, Try.underlying43, rfl⟩, by kernel_rfl⟩
theorem sz43 : (Try.prog.info? 43).map (·.size) = some 3 := by kernel_rfl
theorem zr43 : (Try.prog.info? 43).bind (·.zero) = some (.agg #[.int .i64 0, .int .i64 0, .int .i64 0]) := by kernel_rfl
theorem ti43 : TI Try.prog 43 3 24 (.agg #[.int .i64 0, .int .i64 0, .int .i64 0]) := ⟨by kernel_rfl⟩
theorem zp43 (H : Hp) : (k_radomeref23_Rule).rep H (Value.cells (.agg #[.int .i64 0, .int .i64 0, .int .i64 0])).toList (⟨0, 0, 0⟩ : radomeref23_Rule) := k_radomeref23_Rule_in (x := (⟨0, 0, 0⟩ : radomeref23_Rule))
theorem ty47 : TyA Try.prog 47 true 4 := ⟨⟨_, Try.underlying47, rfl⟩, by kernel_rfl⟩
theorem sz47 : (Try.prog.info? 47).map (·.size) = some 4 := by kernel_rfl
theorem zr47 : (Try.prog.info? 47).bind (·.zero) = some (.agg #[.int .i64 0, .int .u32 0, .int .i64 0, .int .i64 0]) := by kernel_rfl
theorem ti47 : TI Try.prog 47 4 32 (.agg #[.int .i64 0, .int .u32 0, .int .i64 0, .int .i64 0]) := ⟨by kernel_rfl⟩
theorem zp47 (H : Hp) : (k_life_Life).rep H (Value.cells (.agg #[.int .i64 0, .int .u32 0, .int .i64 0, .int .i64 0])).toList (⟨0, 0, 0, 0⟩ : life_Life) := k_life_Life_in (x := (⟨0, 0, 0, 0⟩ : life_Life))
theorem ty50 : TyA Try.prog 50 true 3 := ⟨⟨_, Try.underlying50, rfl⟩, by kernel_rfl⟩
theorem sz50 : (Try.prog.info? 50).map (·.size) = some 3 := by kernel_rfl
theorem zr50 : (Try.prog.info? 50).bind (·.zero) = some (.agg #[.int .i64 0, .int .i64 0, .int .i64 0]) := by kernel_rfl
theorem ti50 : TI Try.prog 50 3 24 (.agg #[.int .i64 0, .int .i64 0, .int .i64 0]) := ⟨by kernel_rfl⟩
theorem zp50 (H : Hp) : (k_life_Rule).rep H (Value.cells (.agg #[.int .i64 0, .int .i64 0, .int .i64 0])).toList (⟨0, 0, 0⟩ : life_Rule) := k_life_Rule_in (x := (⟨0, 0, 0⟩ : life_Rule))
theorem co20 : CallOk Try.prog 20 := ⟨_, Try.func20, by decide, rfl⟩
theorem co21 : CallOk Try.prog 21 := ⟨_, Try.func21, by decide, rfl⟩
theorem co22 : CallOk Try.prog 22 := ⟨_, Try.func22, by decide, rfl⟩
theorem co23 : CallOk Try.prog 23 := ⟨_, Try.func23, by decide, rfl⟩
theorem co24 : CallOk Try.prog 24 := ⟨_, Try.func24, by decide, rfl⟩
theorem co30 : CallOk Try.prog 30 := ⟨_, Try.func30, by decide, rfl⟩
theorem co31 : CallOk Try.prog 31 := ⟨_, Try.func31, by decide, rfl⟩
theorem co32 : CallOk Try.prog 32 := ⟨_, Try.func32, by decide, rfl⟩
theorem co35 : CallOk Try.prog 35 := ⟨_, Try.func35, by decide, rfl⟩
theorem co36 : CallOk Try.prog 36 := ⟨_, Try.func36, by decide, rfl⟩
theorem co37 : CallOk Try.prog 37 := ⟨_, Try.func37, by decide, rfl⟩
theorem fn_20 : Try.prog.funcs[20]? = some Try.f20 := Try.func20
theorem rs_20 : Try.f20.results = ⟨[.tmp 2]⟩ := rfl
theorem nt_20 : Try.f20.ntmps = 33 := rfl
theorem fn_30 : Try.prog.funcs[30]? = some Try.f30 := Try.func30
theorem rs_30 : Try.f30.results = ⟨[.tmp 2]⟩ := rfl
theorem nt_30 : Try.f30.ntmps = 29 := rfl
theorem fn_22 : Try.prog.funcs[22]? = some Try.f22 := Try.func22
theorem rs_22 : Try.f22.results = ⟨[.cell 2 47, .tmp 3]⟩ := rfl
theorem nt_22 : Try.f22.ntmps = 24 := rfl
theorem fn_35 : Try.prog.funcs[35]? = some Try.f35 := Try.func35
theorem rs_35 : Try.f35.results = ⟨[.tmp 4]⟩ := rfl
theorem nt_35 : Try.f35.ntmps = 44 := rfl
theorem fn_31 : Try.prog.funcs[31]? = some Try.f31 := Try.func31
theorem rs_31 : Try.f31.results = ⟨[.tmp 4]⟩ := rfl
theorem nt_31 : Try.f31.ntmps = 35 := rfl
theorem fn_23 : Try.prog.funcs[23]? = some Try.f23 := Try.func23
theorem rs_23 : Try.f23.results = ⟨[.tmp 2]⟩ := rfl
theorem nt_23 : Try.f23.ntmps = 11 := rfl
theorem fn_36 : Try.prog.funcs[36]? = some Try.f36 := Try.func36
theorem rs_36 : Try.f36.results = ⟨[.tmp 2]⟩ := rfl
theorem nt_36 : Try.f36.ntmps = 21 := rfl
theorem fn_37 : Try.prog.funcs[37]? = some Try.f37 := Try.func37
theorem rs_37 : Try.f37.results = ⟨[.tmp 4]⟩ := rfl
theorem nt_37 : Try.f37.ntmps = 13 := rfl
theorem fn_32 : Try.prog.funcs[32]? = some Try.f32 := Try.func32
theorem rs_32 : Try.f32.results = ⟨[.tmp 4]⟩ := rfl
theorem nt_32 : Try.f32.ntmps = 33 := rfl
theorem fn_24 : Try.prog.funcs[24]? = some Try.f24 := Try.func24
theorem rs_24 : Try.f24.results = ⟨[.cell 6 47, .tmp 7]⟩ := rfl
theorem nt_24 : Try.f24.ntmps = 54 := rfl
theorem fn_21 : Try.prog.funcs[21]? = some Try.f21 := Try.func21
theorem rs_21 : Try.f21.results = ⟨[.tmp 0]⟩ := rfl
theorem nt_21 : Try.f21.ntmps = 61 := rfl
theorem fn_6 : Try.prog.funcs[6]? = some Try.f6 := Try.func6
theorem rs_6 : Try.f6.results = ⟨[.tmp 4]⟩ := rfl
theorem nt_6 : Try.f6.ntmps = 198 := rfl
theorem mixed : Try.prog.follows .mixedOrders = true := by kernel_rfl

end Go.Proofs.Ytddcfnhbedpbnaa.GLL
