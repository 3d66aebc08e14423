/- A text of this session, written by a program (wip/k/gen.py): Go functions as Lean functions, and proofs that the code comes to them. -/
import Derived.Test.YtjhpkkhcgpilfaaDoorGTOk20
import Derived.Test.YtjhpkkhcgpilfaaDoorAs
namespace Go.Proofs.YtjhpkkhcgpilfaaDoor.GTO
open Go Go.RowKit Go.Proofs.YtjhpkkhcgpilfaaDoorK Go.Proofs.YtjhpkkhcgpilfaaDoor
set_option linter.unusedVariables false
set_option linter.unusedSimpArgs false
def str_0 : ByteArray := ⟨#[0, 1, 1, 2, 1, 2, 2, 3, 1, 2, 2, 3, 2, 3, 3, 4, 1, 2, 2, 3, 2, 3, 3, 4, 2, 3, 3, 4, 3, 4, 4, 5, 1, 2, 2, 3, 2, 3, 3, 4, 2, 3, 3, 4, 3, 4, 4, 5, 2, 3, 3, 4, 3, 4, 4, 5, 3, 4, 4, 5, 4, 5, 5, 6, 1, 2, 2, 3, 2, 3, 3, 4, 2, 3, 3, 4, 3, 4, 4, 5, 2, 3, 3, 4, 3, 4, 4, 5, 3, 4, 4, 5, 4, 5, 5, 6, 2, 3, 3, 4, 3, 4, 4, 5, 3, 4, 4, 5, 4, 5, 5, 6, 3, 4, 4, 5, 4, 5, 5, 6, 4, 5, 5, 6, 5, 6, 6, 7, 1, 2, 2, 3, 2, 3, 3, 4, 2, 3, 3, 4, 3, 4, 4, 5, 2, 3, 3, 4, 3, 4, 4, 5, 3, 4, 4, 5, 4, 5, 5, 6, 2, 3, 3, 4, 3, 4, 4, 5, 3, 4, 4, 5, 4, 5, 5, 6, 3, 4, 4, 5, 4, 5, 5, 6, 4, 5, 5, 6, 5, 6, 6, 7, 2, 3, 3, 4, 3, 4, 4, 5, 3, 4, 4, 5, 4, 5, 5, 6, 3, 4, 4, 5, 4, 5, 5, 6, 4, 5, 5, 6, 5, 6, 6, 7, 3, 4, 4, 5, 4, 5, 5, 6, 4, 5, 5, 6, 5, 6, 6, 7, 4, 5, 5, 6, 5, 6, 6, 7, 5, 6, 6, 7, 6, 7, 7, 8]⟩
structure life_Rule where
 f_Hits : Int
 f_Window : Int
 f_Misses : Int
instance : Inhabited life_Rule := ⟨⟨0, 0, 0⟩⟩
def k_life_Rule : Kd life_Rule := Kd.map (fun s => (s.f_Hits, (s.f_Window, s.f_Misses))) (Kd.pair (Kd.int .i64) (Kd.pair (Kd.int .i64) (Kd.int .i64)))
theorem k_life_Rule_out {H : Hp} {cs : List Value} {x : life_Rule} (h : k_life_Rule.rep H cs x) : cs = [.int .i64 x.f_Hits, .int .i64 x.f_Window, .int .i64 x.f_Misses] := by
 obtain ⟨_, _, rfl, rfl, ⟨_, _, rfl, rfl, rfl⟩⟩ := (show ((Kd.pair (Kd.int .i64) (Kd.pair (Kd.int .i64) (Kd.int .i64)))).rep H cs ((x.f_Hits, (x.f_Window, x.f_Misses))) from h)
 rfl
theorem k_life_Rule_in {H : Hp} {x : life_Rule} : k_life_Rule.rep H [.int .i64 x.f_Hits, .int .i64 x.f_Window, .int .i64 x.f_Misses] x :=
 (show ((Kd.pair (Kd.int .i64) (Kd.pair (Kd.int .i64) (Kd.int .i64)))).rep H _ ((x.f_Hits, (x.f_Window, x.f_Misses))) from ⟨[.int .i64 x.f_Hits], [.int .i64 x.f_Window, .int .i64 x.f_Misses], rfl, rfl, ⟨[.int .i64 x.f_Window], [.int .i64 x.f_Misses], rfl, rfl, rfl⟩⟩)
structure atomic_Int64 where
 f_v : Int
instance : Inhabited atomic_Int64 := ⟨⟨0⟩⟩
def k_atomic_Int64 : Kd atomic_Int64 := Kd.map (fun s => s.f_v) (Kd.int .i64)
theorem k_atomic_Int64_out {H : Hp} {cs : List Value} {x : atomic_Int64} (h : k_atomic_Int64.rep H cs x) : cs = [.int .i64 x.f_v] := by
 obtain rfl := (show ((Kd.int .i64)).rep H cs (x.f_v) from h)
 rfl
theorem k_atomic_Int64_in {H : Hp} {x : atomic_Int64} : k_atomic_Int64.rep H [.int .i64 x.f_v] x :=
 (show ((Kd.int .i64)).rep H _ (x.f_v) from rfl)
structure names_Names where
 f_from : Int
 f_to : Int
 f_given : atomic_Int64
instance : Inhabited names_Names := ⟨⟨0, 0, (⟨0⟩ : atomic_Int64)⟩⟩
def k_names_Names : Kd names_Names := Kd.map (fun s => (s.f_from, (s.f_to, s.f_given))) (Kd.pair (Kd.int .i64) (Kd.pair (Kd.int .i64) k_atomic_Int64))
theorem k_names_Names_out {H : Hp} {cs : List Value} {x : names_Names} (h : k_names_Names.rep H cs x) : cs = [.int .i64 x.f_from, .int .i64 x.f_to, .int .i64 x.f_given.f_v] := by
 obtain ⟨_, _, rfl, rfl, ⟨_, _, rfl, rfl, q1⟩⟩ := (show ((Kd.pair (Kd.int .i64) (Kd.pair (Kd.int .i64) k_atomic_Int64))).rep H cs ((x.f_from, (x.f_to, x.f_given))) from h)
 obtain ⟨rfl⟩ := k_atomic_Int64_out q1
 rfl
theorem k_names_Names_in {H : Hp} {x : names_Names} : k_names_Names.rep H [.int .i64 x.f_from, .int .i64 x.f_to, .int .i64 x.f_given.f_v] x :=
 (show ((Kd.pair (Kd.int .i64) (Kd.pair (Kd.int .i64) k_atomic_Int64))).rep H _ ((x.f_from, (x.f_to, x.f_given))) from ⟨[.int .i64 x.f_from], [.int .i64 x.f_to, .int .i64 x.f_given.f_v], rfl, rfl, ⟨[.int .i64 x.f_to], [.int .i64 x.f_given.f_v], rfl, rfl, (k_atomic_Int64_in)⟩⟩)
structure life_Life where
 f_Kind : Int
 f_Seen : Int
 f_Age : Int
 f_Missed : Int
instance : Inhabited life_Life := ⟨⟨0, 0, 0, 0⟩⟩
def k_life_Life : Kd life_Life := Kd.map (fun s => (s.f_Kind, (s.f_Seen, (s.f_Age, s.f_Missed)))) (Kd.pair (Kd.int .i64) (Kd.pair (Kd.int .u32) (Kd.pair (Kd.int .i64) (Kd.int .i64))))
theorem k_life_Life_out {H : Hp} {cs : List Value} {x : life_Life} (h : k_life_Life.rep H cs x) : cs = [.int .i64 x.f_Kind, .int .u32 x.f_Seen, .int .i64 x.f_Age, .int .i64 x.f_Missed] := by
 obtain ⟨_, _, rfl, rfl, ⟨_, _, rfl, rfl, ⟨_, _, rfl, rfl, rfl⟩⟩⟩ := (show ((Kd.pair (Kd.int .i64) (Kd.pair (Kd.int .u32) (Kd.pair (Kd.int .i64) (Kd.int .i64))))).rep H cs ((x.f_Kind, (x.f_Seen, (x.f_Age, x.f_Missed)))) from h)
 rfl
theorem k_life_Life_in {H : Hp} {x : life_Life} : k_life_Life.rep H [.int .i64 x.f_Kind, .int .u32 x.f_Seen, .int .i64 x.f_Age, .int .i64 x.f_Missed] x :=
 (show ((Kd.pair (Kd.int .i64) (Kd.pair (Kd.int .u32) (Kd.pair (Kd.int .i64) (Kd.int .i64))))).rep H _ ((x.f_Kind, (x.f_Seen, (x.f_Age, x.f_Missed)))) from ⟨[.int .i64 x.f_Kind], [.int .u32 x.f_Seen, .int .i64 x.f_Age, .int .i64 x.f_Missed], rfl, rfl, ⟨[.int .u32 x.f_Seen], [.int .i64 x.f_Age, .int .i64 x.f_Missed], rfl, rfl, ⟨[.int .i64 x.f_Age], [.int .i64 x.f_Missed], rfl, rfl, rfl⟩⟩⟩)
structure T172 where
 e0 : Int
 e1 : Int
 e2 : Int
 e3 : Int
 e4 : Int
 e5 : Int
instance : Inhabited T172 := ⟨⟨0, 0, 0, 0, 0, 0⟩⟩
def T172.toL (x : T172) : List Int := [x.e0, x.e1, x.e2, x.e3, x.e4, x.e5]
def T172.ofL (l : List Int) : T172 := ⟨rd l 0, rd l 1, rd l 2, rd l 3, rd l 4, rd l 5⟩
theorem T172.toL_ofL {l : List Int} (h : l.length = 6) : T172.toL (T172.ofL l) = l := (show T172.toL (T172.ofL l) = (List.range 6).map (fun i : Nat => rd l (i : Int)) from rfl).trans (rd_all h)
def k_T172 : Kd T172 where
 sz := 6
 rep _ cs x := cs = x.toL.map (Value.int .i64)
 len := by rintro _ _ x rfl; rfl
 mono := fun _ h => h
 one := by rintro _ _ x rfl v hv; obtain ⟨z, _, rfl⟩ := List.mem_map.1 hv; rfl
theorem k_T172_out {H : Hp} {cs : List Value} {x : T172} (h : k_T172.rep H cs x) : cs = [.int .i64 x.e0, .int .i64 x.e1, .int .i64 x.e2, .int .i64 x.e3, .int .i64 x.e4, .int .i64 x.e5] := h
theorem k_T172_in {H : Hp} {x : T172} : k_T172.rep H [.int .i64 x.e0, .int .i64 x.e1, .int .i64 x.e2, .int .i64 x.e3, .int .i64 x.e4, .int .i64 x.e5] x := (show [.int .i64 x.e0, .int .i64 x.e1, .int .i64 x.e2, .int .i64 x.e3, .int .i64 x.e4, .int .i64 x.e5] = x.toL.map (Value.int .i64) from rfl)
structure T173 where
 e0 : Int
 e1 : Int
 e2 : Int
 e3 : Int
 e4 : Int
 e5 : Int
 e6 : Int
 e7 : Int
 e8 : Int
 e9 : Int
 e10 : Int
 e11 : Int
 e12 : Int
 e13 : Int
 e14 : Int
 e15 : Int
 e16 : Int
 e17 : Int
 e18 : Int
 e19 : Int
 e20 : Int
 e21 : Int
 e22 : Int
 e23 : Int
 e24 : Int
 e25 : Int
 e26 : Int
 e27 : Int
 e28 : Int
 e29 : Int
 e30 : Int
 e31 : Int
 e32 : Int
 e33 : Int
 e34 : Int
 e35 : Int
instance : Inhabited T173 := ⟨⟨0, 0, 0, 0, 0, 0, 0, 0, 0, 0, 0, 0, 0, 0, 0, 0, 0, 0, 0, 0, 0, 0, 0, 0, 0, 0, 0, 0, 0, 0, 0, 0, 0, 0, 0, 0⟩⟩
def T173.toL (x : T173) : List Int := (x.e0 :: x.e1 :: x.e2 :: x.e3 :: x.e4 :: x.e5 :: x.e6 :: x.e7 :: x.e8 :: x.e9 :: x.e10 :: x.e11 :: x.e12 :: x.e13 :: x.e14 :: x.e15 :: x.e16 :: x.e17 :: x.e18 :: x.e19 :: x.e20 :: x.e21 :: x.e22 :: x.e23 :: x.e24 :: x.e25 :: x.e26 :: x.e27 :: x.e28 :: x.e29 :: x.e30 :: x.e31 :: x.e32 :: x.e33 :: x.e34 :: x.e35 :: [])
def T173.ofL (l : List Int) : T173 := ⟨rd l 0, rd l 1, rd l 2, rd l 3, rd l 4, rd l 5, rd l 6, rd l 7, rd l 8, rd l 9, rd l 10, rd l 11, rd l 12, rd l 13, rd l 14, rd l 15, rd l 16, rd l 17, rd l 18, rd l 19, rd l 20, rd l 21, rd l 22, rd l 23, rd l 24, rd l 25, rd l 26, rd l 27, rd l 28, rd l 29, rd l 30, rd l 31, rd l 32, rd l 33, rd l 34, rd l 35⟩
theorem T173.toL_ofL {l : List Int} (h : l.length = 36) : T173.toL (T173.ofL l) = l := (show T173.toL (T173.ofL l) = (List.range 36).map (fun i : Nat => rd l (i : Int)) from rfl).trans (rd_all h)
def k_T173 : Kd T173 where
 sz := 36
 rep _ cs x := cs = x.toL.map (Value.int .i64)
 len := by rintro _ _ x rfl; rfl
 mono := fun _ h => h
 one := by rintro _ _ x rfl v hv; obtain ⟨z, _, rfl⟩ := List.mem_map.1 hv; rfl
theorem k_T173_out {H : Hp} {cs : List Value} {x : T173} (h : k_T173.rep H cs x) : cs = (.int .i64 x.e0 :: .int .i64 x.e1 :: .int .i64 x.e2 :: .int .i64 x.e3 :: .int .i64 x.e4 :: .int .i64 x.e5 :: .int .i64 x.e6 :: .int .i64 x.e7 :: .int .i64 x.e8 :: .int .i64 x.e9 :: .int .i64 x.e10 :: .int .i64 x.e11 :: .int .i64 x.e12 :: .int .i64 x.e13 :: .int .i64 x.e14 :: .int .i64 x.e15 :: .int .i64 x.e16 :: .int .i64 x.e17 :: .int .i64 x.e18 :: .int .i64 x.e19 :: .int .i64 x.e20 :: .int .i64 x.e21 :: .int .i64 x.e22 :: .int .i64 x.e23 :: .int .i64 x.e24 :: .int .i64 x.e25 :: .int .i64 x.e26 :: .int .i64 x.e27 :: .int .i64 x.e28 :: .int .i64 x.e29 :: .int .i64 x.e30 :: .int .i64 x.e31 :: .int .i64 x.e32 :: .int .i64 x.e33 :: .int .i64 x.e34 :: .int .i64 x.e35 :: []) := h
theorem k_T173_in {H : Hp} {x : T173} : k_T173.rep H (.int .i64 x.e0 :: .int .i64 x.e1 :: .int .i64 x.e2 :: .int .i64 x.e3 :: .int .i64 x.e4 :: .int .i64 x.e5 :: .int .i64 x.e6 :: .int .i64 x.e7 :: .int .i64 x.e8 :: .int .i64 x.e9 :: .int .i64 x.e10 :: .int .i64 x.e11 :: .int .i64 x.e12 :: .int .i64 x.e13 :: .int .i64 x.e14 :: .int .i64 x.e15 :: .int .i64 x.e16 :: .int .i64 x.e17 :: .int .i64 x.e18 :: .int .i64 x.e19 :: .int .i64 x.e20 :: .int .i64 x.e21 :: .int .i64 x.e22 :: .int .i64 x.e23 :: .int .i64 x.e24 :: .int .i64 x.e25 :: .int .i64 x.e26 :: .int .i64 x.e27 :: .int .i64 x.e28 :: .int .i64 x.e29 :: .int .i64 x.e30 :: .int .i64 x.e31 :: .int .i64 x.e32 :: .int .i64 x.e33 :: .int .i64 x.e34 :: .int .i64 x.e35 :: []) x := (show (.int .i64 x.e0 :: .int .i64 x.e1 :: .int .i64 x.e2 :: .int .i64 x.e3 :: .int .i64 x.e4 :: .int .i64 x.e5 :: .int .i64 x.e6 :: .int .i64 x.e7 :: .int .i64 x.e8 :: .int .i64 x.e9 :: .int .i64 x.e10 :: .int .i64 x.e11 :: .int .i64 x.e12 :: .int .i64 x.e13 :: .int .i64 x.e14 :: .int .i64 x.e15 :: .int .i64 x.e16 :: .int .i64 x.e17 :: .int .i64 x.e18 :: .int .i64 x.e19 :: .int .i64 x.e20 :: .int .i64 x.e21 :: .int .i64 x.e22 :: .int .i64 x.e23 :: .int .i64 x.e24 :: .int .i64 x.e25 :: .int .i64 x.e26 :: .int .i64 x.e27 :: .int .i64 x.e28 :: .int .i64 x.e29 :: .int .i64 x.e30 :: .int .i64 x.e31 :: .int .i64 x.e32 :: .int .i64 x.e33 :: .int .i64 x.e34 :: .int .i64 x.e35 :: []) = x.toL.map (Value.int .i64) from rfl)
structure mat_Mat where
 f_Rows : Int
 f_Cols : Int
 f_A : T173
instance : Inhabited mat_Mat := ⟨⟨0, 0, (⟨0, 0, 0, 0, 0, 0, 0, 0, 0, 0, 0, 0, 0, 0, 0, 0, 0, 0, 0, 0, 0, 0, 0, 0, 0, 0, 0, 0, 0, 0, 0, 0, 0, 0, 0, 0⟩ : T173)⟩⟩
def k_mat_Mat : Kd mat_Mat := Kd.map (fun s => (s.f_Rows, (s.f_Cols, s.f_A))) (Kd.pair (Kd.int .i64) (Kd.pair (Kd.int .i64) k_T173))
theorem k_mat_Mat_out {H : Hp} {cs : List Value} {x : mat_Mat} (h : k_mat_Mat.rep H cs x) : cs = (.int .i64 x.f_Rows :: .int .i64 x.f_Cols :: .int .i64 x.f_A.e0 :: .int .i64 x.f_A.e1 :: .int .i64 x.f_A.e2 :: .int .i64 x.f_A.e3 :: .int .i64 x.f_A.e4 :: .int .i64 x.f_A.e5 :: .int .i64 x.f_A.e6 :: .int .i64 x.f_A.e7 :: .int .i64 x.f_A.e8 :: .int .i64 x.f_A.e9 :: .int .i64 x.f_A.e10 :: .int .i64 x.f_A.e11 :: .int .i64 x.f_A.e12 :: .int .i64 x.f_A.e13 :: .int .i64 x.f_A.e14 :: .int .i64 x.f_A.e15 :: .int .i64 x.f_A.e16 :: .int .i64 x.f_A.e17 :: .int .i64 x.f_A.e18 :: .int .i64 x.f_A.e19 :: .int .i64 x.f_A.e20 :: .int .i64 x.f_A.e21 :: .int .i64 x.f_A.e22 :: .int .i64 x.f_A.e23 :: .int .i64 x.f_A.e24 :: .int .i64 x.f_A.e25 :: .int .i64 x.f_A.e26 :: .int .i64 x.f_A.e27 :: .int .i64 x.f_A.e28 :: .int .i64 x.f_A.e29 :: .int .i64 x.f_A.e30 :: .int .i64 x.f_A.e31 :: .int .i64 x.f_A.e32 :: .int .i64 x.f_A.e33 :: .int .i64 x.f_A.e34 :: .int .i64 x.f_A.e35 :: []) := by
 obtain ⟨_, _, rfl, rfl, ⟨_, _, rfl, rfl, q1⟩⟩ := (show ((Kd.pair (Kd.int .i64) (Kd.pair (Kd.int .i64) k_T173))).rep H cs ((x.f_Rows, (x.f_Cols, x.f_A))) from h)
 obtain ⟨rfl⟩ := k_T173_out q1
 rfl
theorem k_mat_Mat_in {H : Hp} {x : mat_Mat} : k_mat_Mat.rep H (.int .i64 x.f_Rows :: .int .i64 x.f_Cols :: .int .i64 x.f_A.e0 :: .int .i64 x.f_A.e1 :: .int .i64 x.f_A.e2 :: .int .i64 x.f_A.e3 :: .int .i64 x.f_A.e4 :: .int .i64 x.f_A.e5 :: .int .i64 x.f_A.e6 :: .int .i64 x.f_A.e7 :: .int .i64 x.f_A.e8 :: .int .i64 x.f_A.e9 :: .int .i64 x.f_A.e10 :: .int .i64 x.f_A.e11 :: .int .i64 x.f_A.e12 :: .int .i64 x.f_A.e13 :: .int .i64 x.f_A.e14 :: .int .i64 x.f_A.e15 :: .int .i64 x.f_A.e16 :: .int .i64 x.f_A.e17 :: .int .i64 x.f_A.e18 :: .int .i64 x.f_A.e19 :: .int .i64 x.f_A.e20 :: .int .i64 x.f_A.e21 :: .int .i64 x.f_A.e22 :: .int .i64 x.f_A.e23 :: .int .i64 x.f_A.e24 :: .int .i64 x.f_A.e25 :: .int .i64 x.f_A.e26 :: .int .i64 x.f_A.e27 :: .int .i64 x.f_A.e28 :: .int .i64 x.f_A.e29 :: .int .i64 x.f_A.e30 :: .int .i64 x.f_A.e31 :: .int .i64 x.f_A.e32 :: .int .i64 x.f_A.e33 :: .int .i64 x.f_A.e34 :: .int .i64 x.f_A.e35 :: []) x :=
 (show ((Kd.pair (Kd.int .i64) (Kd.pair (Kd.int .i64) k_T173))).rep H _ ((x.f_Rows, (x.f_Cols, x.f_A))) from ⟨[.int .i64 x.f_Rows], (.int .i64 x.f_Cols :: .int .i64 x.f_A.e0 :: .int .i64 x.f_A.e1 :: .int .i64 x.f_A.e2 :: .int .i64 x.f_A.e3 :: .int .i64 x.f_A.e4 :: .int .i64 x.f_A.e5 :: .int .i64 x.f_A.e6 :: .int .i64 x.f_A.e7 :: .int .i64 x.f_A.e8 :: .int .i64 x.f_A.e9 :: .int .i64 x.f_A.e10 :: .int .i64 x.f_A.e11 :: .int .i64 x.f_A.e12 :: .int .i64 x.f_A.e13 :: .int .i64 x.f_A.e14 :: .int .i64 x.f_A.e15 :: .int .i64 x.f_A.e16 :: .int .i64 x.f_A.e17 :: .int .i64 x.f_A.e18 :: .int .i64 x.f_A.e19 :: .int .i64 x.f_A.e20 :: .int .i64 x.f_A.e21 :: .int .i64 x.f_A.e22 :: .int .i64 x.f_A.e23 :: .int .i64 x.f_A.e24 :: .int .i64 x.f_A.e25 :: .int .i64 x.f_A.e26 :: .int .i64 x.f_A.e27 :: .int .i64 x.f_A.e28 :: .int .i64 x.f_A.e29 :: .int .i64 x.f_A.e30 :: .int .i64 x.f_A.e31 :: .int .i64 x.f_A.e32 :: .int .i64 x.f_A.e33 :: .int .i64 x.f_A.e34 :: .int .i64 x.f_A.e35 :: []), rfl, rfl, ⟨[.int .i64 x.f_Cols], (.int .i64 x.f_A.e0 :: .int .i64 x.f_A.e1 :: .int .i64 x.f_A.e2 :: .int .i64 x.f_A.e3 :: .int .i64 x.f_A.e4 :: .int .i64 x.f_A.e5 :: .int .i64 x.f_A.e6 :: .int .i64 x.f_A.e7 :: .int .i64 x.f_A.e8 :: .int .i64 x.f_A.e9 :: .int .i64 x.f_A.e10 :: .int .i64 x.f_A.e11 :: .int .i64 x.f_A.e12 :: .int .i64 x.f_A.e13 :: .int .i64 x.f_A.e14 :: .int .i64 x.f_A.e15 :: .int .i64 x.f_A.e16 :: .int .i64 x.f_A.e17 :: .int .i64 x.f_A.e18 :: .int .i64 x.f_A.e19 :: .int .i64 x.f_A.e20 :: .int .i64 x.f_A.e21 :: .int .i64 x.f_A.e22 :: .int .i64 x.f_A.e23 :: .int .i64 x.f_A.e24 :: .int .i64 x.f_A.e25 :: .int .i64 x.f_A.e26 :: .int .i64 x.f_A.e27 :: .int .i64 x.f_A.e28 :: .int .i64 x.f_A.e29 :: .int .i64 x.f_A.e30 :: .int .i64 x.f_A.e31 :: .int .i64 x.f_A.e32 :: .int .i64 x.f_A.e33 :: .int .i64 x.f_A.e34 :: .int .i64 x.f_A.e35 :: []), rfl, rfl, (k_T173_in)⟩⟩)
structure predict_State where
 f_X : T172
 f_P : mat_Mat
instance : Inhabited predict_State := ⟨⟨(⟨0, 0, 0, 0, 0, 0⟩ : T172), (⟨0, 0, (⟨0, 0, 0, 0, 0, 0, 0, 0, 0, 0, 0, 0, 0, 0, 0, 0, 0, 0, 0, 0, 0, 0, 0, 0, 0, 0, 0, 0, 0, 0, 0, 0, 0, 0, 0, 0⟩ : T173)⟩ : mat_Mat)⟩⟩
def k_predict_State : Kd predict_State := Kd.map (fun s => (s.f_X, s.f_P)) (Kd.pair k_T172 k_mat_Mat)
theorem k_predict_State_out {H : Hp} {cs : List Value} {x : predict_State} (h : k_predict_State.rep H cs x) : cs = (.int .i64 x.f_X.e0 :: .int .i64 x.f_X.e1 :: .int .i64 x.f_X.e2 :: .int .i64 x.f_X.e3 :: .int .i64 x.f_X.e4 :: .int .i64 x.f_X.e5 :: .int .i64 x.f_P.f_Rows :: .int .i64 x.f_P.f_Cols :: .int .i64 x.f_P.f_A.e0 :: .int .i64 x.f_P.f_A.e1 :: .int .i64 x.f_P.f_A.e2 :: .int .i64 x.f_P.f_A.e3 :: .int .i64 x.f_P.f_A.e4 :: .int .i64 x.f_P.f_A.e5 :: .int .i64 x.f_P.f_A.e6 :: .int .i64 x.f_P.f_A.e7 :: .int .i64 x.f_P.f_A.e8 :: .int .i64 x.f_P.f_A.e9 :: .int .i64 x.f_P.f_A.e10 :: .int .i64 x.f_P.f_A.e11 :: .int .i64 x.f_P.f_A.e12 :: .int .i64 x.f_P.f_A.e13 :: .int .i64 x.f_P.f_A.e14 :: .int .i64 x.f_P.f_A.e15 :: .int .i64 x.f_P.f_A.e16 :: .int .i64 x.f_P.f_A.e17 :: .int .i64 x.f_P.f_A.e18 :: .int .i64 x.f_P.f_A.e19 :: .int .i64 x.f_P.f_A.e20 :: .int .i64 x.f_P.f_A.e21 :: .int .i64 x.f_P.f_A.e22 :: .int .i64 x.f_P.f_A.e23 :: .int .i64 x.f_P.f_A.e24 :: .int .i64 x.f_P.f_A.e25 :: .int .i64 x.f_P.f_A.e26 :: .int .i64 x.f_P.f_A.e27 :: .int .i64 x.f_P.f_A.e28 :: .int .i64 x.f_P.f_A.e29 :: .int .i64 x.f_P.f_A.e30 :: .int .i64 x.f_P.f_A.e31 :: .int .i64 x.f_P.f_A.e32 :: .int .i64 x.f_P.f_A.e33 :: .int .i64 x.f_P.f_A.e34 :: .int .i64 x.f_P.f_A.e35 :: []) := by
 obtain ⟨_, _, rfl, q1, q2⟩ := (show ((Kd.pair k_T172 k_mat_Mat)).rep H cs ((x.f_X, x.f_P)) from h)
 obtain ⟨rfl⟩ := k_T172_out q1
 obtain ⟨rfl⟩ := k_mat_Mat_out q2
 rfl
theorem k_predict_State_in {H : Hp} {x : predict_State} : k_predict_State.rep H (.int .i64 x.f_X.e0 :: .int .i64 x.f_X.e1 :: .int .i64 x.f_X.e2 :: .int .i64 x.f_X.e3 :: .int .i64 x.f_X.e4 :: .int .i64 x.f_X.e5 :: .int .i64 x.f_P.f_Rows :: .int .i64 x.f_P.f_Cols :: .int .i64 x.f_P.f_A.e0 :: .int .i64 x.f_P.f_A.e1 :: .int .i64 x.f_P.f_A.e2 :: .int .i64 x.f_P.f_A.e3 :: .int .i64 x.f_P.f_A.e4 :: .int .i64 x.f_P.f_A.e5 :: .int .i64 x.f_P.f_A.e6 :: .int .i64 x.f_P.f_A.e7 :: .int .i64 x.f_P.f_A.e8 :: .int .i64 x.f_P.f_A.e9 :: .int .i64 x.f_P.f_A.e10 :: .int .i64 x.f_P.f_A.e11 :: .int .i64 x.f_P.f_A.e12 :: .int .i64 x.f_P.f_A.e13 :: .int .i64 x.f_P.f_A.e14 :: .int .i64 x.f_P.f_A.e15 :: .int .i64 x.f_P.f_A.e16 :: .int .i64 x.f_P.f_A.e17 :: .int .i64 x.f_P.f_A.e18 :: .int .i64 x.f_P.f_A.e19 :: .int .i64 x.f_P.f_A.e20 :: .int .i64 x.f_P.f_A.e21 :: .int .i64 x.f_P.f_A.e22 :: .int .i64 x.f_P.f_A.e23 :: .int .i64 x.f_P.f_A.e24 :: .int .i64 x.f_P.f_A.e25 :: .int .i64 x.f_P.f_A.e26 :: .int .i64 x.f_P.f_A.e27 :: .int .i64 x.f_P.f_A.e28 :: .int .i64 x.f_P.f_A.e29 :: .int .i64 x.f_P.f_A.e30 :: .int .i64 x.f_P.f_A.e31 :: .int .i64 x.f_P.f_A.e32 :: .int .i64 x.f_P.f_A.e33 :: .int .i64 x.f_P.f_A.e34 :: .int .i64 x.f_P.f_A.e35 :: []) x :=
 (show ((Kd.pair k_T172 k_mat_Mat)).rep H _ ((x.f_X, x.f_P)) from ⟨[.int .i64 x.f_X.e0, .int .i64 x.f_X.e1, .int .i64 x.f_X.e2, .int .i64 x.f_X.e3, .int .i64 x.f_X.e4, .int .i64 x.f_X.e5], (.int .i64 x.f_P.f_Rows :: .int .i64 x.f_P.f_Cols :: .int .i64 x.f_P.f_A.e0 :: .int .i64 x.f_P.f_A.e1 :: .int .i64 x.f_P.f_A.e2 :: .int .i64 x.f_P.f_A.e3 :: .int .i64 x.f_P.f_A.e4 :: .int .i64 x.f_P.f_A.e5 :: .int .i64 x.f_P.f_A.e6 :: .int .i64 x.f_P.f_A.e7 :: .int .i64 x.f_P.f_A.e8 :: .int .i64 x.f_P.f_A.e9 :: .int .i64 x.f_P.f_A.e10 :: .int .i64 x.f_P.f_A.e11 :: .int .i64 x.f_P.f_A.e12 :: .int .i64 x.f_P.f_A.e13 :: .int .i64 x.f_P.f_A.e14 :: .int .i64 x.f_P.f_A.e15 :: .int .i64 x.f_P.f_A.e16 :: .int .i64 x.f_P.f_A.e17 :: .int .i64 x.f_P.f_A.e18 :: .int .i64 x.f_P.f_A.e19 :: .int .i64 x.f_P.f_A.e20 :: .int .i64 x.f_P.f_A.e21 :: .int .i64 x.f_P.f_A.e22 :: .int .i64 x.f_P.f_A.e23 :: .int .i64 x.f_P.f_A.e24 :: .int .i64 x.f_P.f_A.e25 :: .int .i64 x.f_P.f_A.e26 :: .int .i64 x.f_P.f_A.e27 :: .int .i64 x.f_P.f_A.e28 :: .int .i64 x.f_P.f_A.e29 :: .int .i64 x.f_P.f_A.e30 :: .int .i64 x.f_P.f_A.e31 :: .int .i64 x.f_P.f_A.e32 :: .int .i64 x.f_P.f_A.e33 :: .int .i64 x.f_P.f_A.e34 :: .int .i64 x.f_P.f_A.e35 :: []), rfl, (k_T172_in), (k_mat_Mat_in)⟩)
structure imm_Imm where
 f_States : List predict_State
 f_Chances : List Int
instance : Inhabited imm_Imm := ⟨⟨[], []⟩⟩
def k_imm_Imm : Kd imm_Imm := Kd.map (fun s => (s.f_States, s.f_Chances)) (Kd.pair (Kd.slice k_predict_State) (Kd.slice (Kd.int .i64)))
theorem k_imm_Imm_out {H : Hp} {cs : List Value} {x : imm_Imm} (h : k_imm_Imm.rep H cs x) : ∃ v0, ∃ v1, cs = [v0, v1] ∧ Ro k_predict_State H v0 x.f_States ∧ Ro (Kd.int .i64) H v1 x.f_Chances := by
 obtain ⟨_, _, rfl, ⟨v0, rfl, h0⟩, ⟨v1, rfl, h1⟩⟩ := (show ((Kd.pair (Kd.slice k_predict_State) (Kd.slice (Kd.int .i64)))).rep H cs ((x.f_States, x.f_Chances)) from h)
 exact ⟨v0, v1, rfl, h0, h1⟩
theorem k_imm_Imm_in {H : Hp} {v0 : Value} {v1 : Value} {x : imm_Imm} (h0 : Ro k_predict_State H v0 x.f_States) (h1 : Ro (Kd.int .i64) H v1 x.f_Chances) : k_imm_Imm.rep H [v0, v1] x :=
 (show ((Kd.pair (Kd.slice k_predict_State) (Kd.slice (Kd.int .i64)))).rep H _ ((x.f_States, x.f_Chances)) from ⟨[v0], [v1], rfl, ⟨v0, rfl, h0⟩, ⟨v1, rfl, h1⟩⟩)
structure table_Track where
 f_ID : Int
 f_Life : life_Life
 f_Imm : imm_Imm
 f_Time : Int
instance : Inhabited table_Track := ⟨⟨0, (⟨0, 0, 0, 0⟩ : life_Life), (⟨[], []⟩ : imm_Imm), 0⟩⟩
def k_table_Track : Kd table_Track := Kd.map (fun s => (s.f_ID, (s.f_Life, (s.f_Imm, s.f_Time)))) (Kd.pair (Kd.int .i64) (Kd.pair k_life_Life (Kd.pair k_imm_Imm (Kd.int .i64))))
theorem k_table_Track_out {H : Hp} {cs : List Value} {x : table_Track} (h : k_table_Track.rep H cs x) : ∃ v0, ∃ v1, cs = [.int .i64 x.f_ID, .int .i64 x.f_Life.f_Kind, .int .u32 x.f_Life.f_Seen, .int .i64 x.f_Life.f_Age, .int .i64 x.f_Life.f_Missed, v0, v1, .int .i64 x.f_Time] ∧ Ro k_predict_State H v0 x.f_Imm.f_States ∧ Ro (Kd.int .i64) H v1 x.f_Imm.f_Chances := by
 obtain ⟨_, _, rfl, rfl, ⟨_, _, rfl, q1, ⟨_, _, rfl, q2, rfl⟩⟩⟩ := (show ((Kd.pair (Kd.int .i64) (Kd.pair k_life_Life (Kd.pair k_imm_Imm (Kd.int .i64))))).rep H cs ((x.f_ID, (x.f_Life, (x.f_Imm, x.f_Time)))) from h)
 obtain ⟨rfl⟩ := k_life_Life_out q1
 obtain ⟨v0, v1, rfl, h0, h1⟩ := k_imm_Imm_out q2
 exact ⟨v0, v1, rfl, h0, h1⟩
theorem k_table_Track_in {H : Hp} {v0 : Value} {v1 : Value} {x : table_Track} (h0 : Ro k_predict_State H v0 x.f_Imm.f_States) (h1 : Ro (Kd.int .i64) H v1 x.f_Imm.f_Chances) : k_table_Track.rep H [.int .i64 x.f_ID, .int .i64 x.f_Life.f_Kind, .int .u32 x.f_Life.f_Seen, .int .i64 x.f_Life.f_Age, .int .i64 x.f_Life.f_Missed, v0, v1, .int .i64 x.f_Time] x :=
 (show ((Kd.pair (Kd.int .i64) (Kd.pair k_life_Life (Kd.pair k_imm_Imm (Kd.int .i64))))).rep H _ ((x.f_ID, (x.f_Life, (x.f_Imm, x.f_Time)))) from ⟨[.int .i64 x.f_ID], [.int .i64 x.f_Life.f_Kind, .int .u32 x.f_Life.f_Seen, .int .i64 x.f_Life.f_Age, .int .i64 x.f_Life.f_Missed, v0, v1, .int .i64 x.f_Time], rfl, rfl, ⟨[.int .i64 x.f_Life.f_Kind, .int .u32 x.f_Life.f_Seen, .int .i64 x.f_Life.f_Age, .int .i64 x.f_Life.f_Missed], [v0, v1, .int .i64 x.f_Time], rfl, (k_life_Life_in), ⟨[v0, v1], [.int .i64 x.f_Time], rfl, (k_imm_Imm_in h0 h1), rfl⟩⟩⟩)
structure table_Table where
 f_rule : life_Rule
 f_most : Int
 f_names : names_Names
 f_l : List table_Track
instance : Inhabited table_Table := ⟨⟨(⟨0, 0, 0⟩ : life_Rule), 0, (⟨0, 0, (⟨0⟩ : atomic_Int64)⟩ : names_Names), []⟩⟩
structure radomeref12_State where
 f_X : List Int
 f_P : List (List Int)
instance : Inhabited radomeref12_State := ⟨⟨[], []⟩⟩
def k_radomeref12_State : Kd radomeref12_State := Kd.map (fun s => (s.f_X, s.f_P)) (Kd.pair (Kd.slice (Kd.int .i64)) (Kd.slice (Kd.slice (Kd.int .i64))))
theorem k_radomeref12_State_out {H : Hp} {cs : List Value} {x : radomeref12_State} (h : k_radomeref12_State.rep H cs x) : ∃ v0, ∃ v1, cs = [v0, v1] ∧ Ro (Kd.int .i64) H v0 x.f_X ∧ Ro (Kd.slice (Kd.int .i64)) H v1 x.f_P := by
 obtain ⟨_, _, rfl, ⟨v0, rfl, h0⟩, ⟨v1, rfl, h1⟩⟩ := (show ((Kd.pair (Kd.slice (Kd.int .i64)) (Kd.slice (Kd.slice (Kd.int .i64))))).rep H cs ((x.f_X, x.f_P)) from h)
 exact ⟨v0, v1, rfl, h0, h1⟩
theorem k_radomeref12_State_in {H : Hp} {v0 : Value} {v1 : Value} {x : radomeref12_State} (h0 : Ro (Kd.int .i64) H v0 x.f_X) (h1 : Ro (Kd.slice (Kd.int .i64)) H v1 x.f_P) : k_radomeref12_State.rep H [v0, v1] x :=
 (show ((Kd.pair (Kd.slice (Kd.int .i64)) (Kd.slice (Kd.slice (Kd.int .i64))))).rep H _ ((x.f_X, x.f_P)) from ⟨[v0], [v1], rfl, ⟨v0, rfl, h0⟩, ⟨v1, rfl, h1⟩⟩)
structure radomeref17_Imm where
 f_States : List radomeref12_State
 f_Chances : List Int
instance : Inhabited radomeref17_Imm := ⟨⟨[], []⟩⟩
def k_radomeref17_Imm : Kd radomeref17_Imm := Kd.map (fun s => (s.f_States, s.f_Chances)) (Kd.pair (Kd.slice k_radomeref12_State) (Kd.slice (Kd.int .i64)))
theorem k_radomeref17_Imm_out {H : Hp} {cs : List Value} {x : radomeref17_Imm} (h : k_radomeref17_Imm.rep H cs x) : ∃ v0, ∃ v1, cs = [v0, v1] ∧ Ro k_radomeref12_State H v0 x.f_States ∧ Ro (Kd.int .i64) H v1 x.f_Chances := by
 obtain ⟨_, _, rfl, ⟨v0, rfl, h0⟩, ⟨v1, rfl, h1⟩⟩ := (show ((Kd.pair (Kd.slice k_radomeref12_State) (Kd.slice (Kd.int .i64)))).rep H cs ((x.f_States, x.f_Chances)) from h)
 exact ⟨v0, v1, rfl, h0, h1⟩
theorem k_radomeref17_Imm_in {H : Hp} {v0 : Value} {v1 : Value} {x : radomeref17_Imm} (h0 : Ro k_radomeref12_State H v0 x.f_States) (h1 : Ro (Kd.int .i64) H v1 x.f_Chances) : k_radomeref17_Imm.rep H [v0, v1] x :=
 (show ((Kd.pair (Kd.slice k_radomeref12_State) (Kd.slice (Kd.int .i64)))).rep H _ ((x.f_States, x.f_Chances)) from ⟨[v0], [v1], rfl, ⟨v0, rfl, h0⟩, ⟨v1, rfl, h1⟩⟩)
structure radomelaw25_Act where
 f_Kind : Int
 f_At : Int
 f_Hit : Bool
 f_Time : Int
instance : Inhabited radomelaw25_Act := ⟨⟨0, 0, false, 0⟩⟩
def k_radomelaw25_Act : Kd radomelaw25_Act := Kd.map (fun s => (s.f_Kind, (s.f_At, (s.f_Hit, s.f_Time)))) (Kd.pair (Kd.int .i64) (Kd.pair (Kd.int .i64) (Kd.pair Kd.bool (Kd.int .i64))))
theorem k_radomelaw25_Act_out {H : Hp} {cs : List Value} {x : radomelaw25_Act} (h : k_radomelaw25_Act.rep H cs x) : cs = [.int .i64 x.f_Kind, .int .i64 x.f_At, .bool x.f_Hit, .int .i64 x.f_Time] := by
 obtain ⟨_, _, rfl, rfl, ⟨_, _, rfl, rfl, ⟨_, _, rfl, rfl, rfl⟩⟩⟩ := (show ((Kd.pair (Kd.int .i64) (Kd.pair (Kd.int .i64) (Kd.pair Kd.bool (Kd.int .i64))))).rep H cs ((x.f_Kind, (x.f_At, (x.f_Hit, x.f_Time)))) from h)
 rfl
theorem k_radomelaw25_Act_in {H : Hp} {x : radomelaw25_Act} : k_radomelaw25_Act.rep H [.int .i64 x.f_Kind, .int .i64 x.f_At, .bool x.f_Hit, .int .i64 x.f_Time] x :=
 (show ((Kd.pair (Kd.int .i64) (Kd.pair (Kd.int .i64) (Kd.pair Kd.bool (Kd.int .i64))))).rep H _ ((x.f_Kind, (x.f_At, (x.f_Hit, x.f_Time)))) from ⟨[.int .i64 x.f_Kind], [.int .i64 x.f_At, .bool x.f_Hit, .int .i64 x.f_Time], rfl, rfl, ⟨[.int .i64 x.f_At], [.bool x.f_Hit, .int .i64 x.f_Time], rfl, rfl, ⟨[.bool x.f_Hit], [.int .i64 x.f_Time], rfl, rfl, rfl⟩⟩⟩)
theorem ty2 : TyA Tryd.prog 2 false 1 := ⟨⟨_, Tryd.underlying2, rfl⟩, by kernel_rfl⟩
theorem sz2 : (Tryd.prog.info? 2).map (·.size) = some 1 := by kernel_rfl
theorem zr2 : (Tryd.prog.info? 2).bind (·.zero) = some (.int .i64 0) := by kernel_rfl
theorem ti2 : TI Tryd.prog 2 1 8 (.int .i64 0) := ⟨by kernel_rfl⟩
theorem zp2 (H : Hp) : ((Kd.int .i64)).rep H (Value.cells (.int .i64 0)).toList 0 := rfl
theorem ty3 : TyA Tryd.prog 3 false 1 := ⟨⟨_, Tryd.underlying3, rfl⟩, by kernel_rfl⟩
theorem sz3 : (Tryd.prog.info? 3).map (·.size) = some 1 := by kernel_rfl
theorem zr3 : (Tryd.prog.info? 3).bind (·.zero) = some (.int .i64 0) := by kernel_rfl
theorem ti3 : TI Tryd.prog 3 1 8 (.int .i64 0) := ⟨by kernel_rfl⟩
theorem zp3 (H : Hp) : ((Kd.int .i64)).rep H (Value.cells (.int .i64 0)).toList 0 := rfl
theorem ty4 : TyA Tryd.prog 4 false 1 := ⟨⟨_, Tryd.underlying4, rfl⟩, by kernel_rfl⟩
theorem sz4 : (Tryd.prog.info? 4).map (·.size) = some 1 := by kernel_rfl
theorem zr4 : (Tryd.prog.info? 4).bind (·.zero) = some (.bool false) := by kernel_rfl
theorem ti4 : TI Tryd.prog 4 1 1 (.bool false) := ⟨by kernel_rfl⟩
theorem zp4 (H : Hp) : (Kd.bool).rep H (Value.cells (.bool false)).toList false := rfl
theorem ty22 : TyA Tryd.prog 22 false 1 := ⟨⟨_, Tryd.underlying22, rfl⟩, by kernel_rfl⟩
theorem sz22 : (Tryd.prog.info? 22).map (·.size) = some 1 := by kernel_rfl
theorem zr22 : (Tryd.prog.info? 22).bind (·.zero) = some (.pointer none) := by kernel_rfl
theorem ti22 : TI Tryd.prog 22 1 8 (.pointer none) := ⟨by kernel_rfl⟩
theorem ty43 : TyA Tryd.prog 43 false 1 := ⟨⟨_, Tryd.underlying43, rfl⟩, by kernel_rfl⟩
theorem sz43 : (Tryd.prog.info? 43).map (·.size) = some 1 := by kernel_rfl
theorem zr43 : (Tryd.prog.info? 43).bind (·.zero) = some (.slice none 0 0) := by kernel_rfl
theorem ti43 : TI Tryd.prog 43 1 24 (.slice none 0 0) := ⟨by kernel_rfl⟩
theorem zp43 (H : Hp) : ((Kd.slice (Kd.int .i64))).rep H (Value.cells (.slice none 0 0)).toList [] := ⟨_, rfl, ro_nil _ _⟩
theorem ty60 : TyA Tryd.prog 60 true 3 := ⟨⟨_, Tryd.underlying60, rfl⟩, by kernel_rfl⟩
theorem sz60 : (Tryd.prog.info? 60).map (·.size) = some 3 := by kernel_rfl
theorem zr60 : (Tryd.prog.info? 60).bind (·.zero) = some (.agg #[.int .i64 0, .int .i64 0, .int .i64 0]) := by kernel_rfl
theorem ti60 : TI Tryd.prog 60 3 24 (.agg #[.int .i64 0, .int .i64 0, .int .i64 0]) := ⟨by kernel_rfl⟩
theorem zp60 (H : Hp) : (k_life_Rule).rep H (Value.cells (.agg #[.int .i64 0, .int .i64 0, .int .i64 0])).toList (⟨0, 0, 0⟩ : life_Rule) := k_life_Rule_in (x := ⟨0, 0, 0⟩)
theorem ty61 : TyA Tryd.prog 61 false 1 := ⟨⟨_, Tryd.underlying61, rfl⟩, by kernel_rfl⟩
theorem sz61 : (Tryd.prog.info? 61).map (·.size) = some 1 := by kernel_rfl
theorem zr61 : (Tryd.prog.info? 61).bind (·.zero) = some (.slice none 0 0) := by kernel_rfl
theorem ti61 : TI Tryd.prog 61 1 24 (.slice none 0 0) := ⟨by kernel_rfl⟩
theorem zp61 (H : Hp) : ((Kd.slice k_predict_State)).rep H (Value.cells (.slice none 0 0)).toList [] := ⟨_, rfl, ro_nil _ _⟩
theorem ty63 : TyA Tryd.prog 63 true 2 := ⟨⟨_, Tryd.underlying63, rfl⟩, by kernel_rfl⟩
theorem sz63 : (Tryd.prog.info? 63).map (·.size) = some 2 := by kernel_rfl
theorem zr63 : (Tryd.prog.info? 63).bind (·.zero) = some (.agg #[.slice none 0 0, .slice none 0 0]) := by kernel_rfl
theorem ti63 : TI Tryd.prog 63 2 48 (.agg #[.slice none 0 0, .slice none 0 0]) := ⟨by kernel_rfl⟩
theorem zp63 (H : Hp) : (k_imm_Imm).rep H (Value.cells (.agg #[.slice none 0 0, .slice none 0 0])).toList (⟨[], []⟩ : imm_Imm) := k_imm_Imm_in (x := ⟨[], []⟩) (ro_nil _ _) (ro_nil _ _)
theorem ty65 : TyA Tryd.prog 65 false 1 := ⟨⟨_, Tryd.underlying65, rfl⟩, by kernel_rfl⟩
theorem sz65 : (Tryd.prog.info? 65).map (·.size) = some 1 := by kernel_rfl
theorem zr65 : (Tryd.prog.info? 65).bind (·.zero) = some (.slice none 0 0) := by kernel_rfl
theorem ti65 : TI Tryd.prog 65 1 24 (.slice none 0 0) := ⟨by kernel_rfl⟩
theorem zp65 (H : Hp) : ((Kd.slice k_radomeref12_State)).rep H (Value.cells (.slice none 0 0)).toList [] := ⟨_, rfl, ro_nil _ _⟩
theorem ty67 : TyA Tryd.prog 67 true 2 := ⟨⟨_, Tryd.underlying67, rfl⟩, by kernel_rfl⟩
theorem sz67 : (Tryd.prog.info? 67).map (·.size) = some 2 := by kernel_rfl
theorem zr67 : (Tryd.prog.info? 67).bind (·.zero) = some (.agg #[.slice none 0 0, .slice none 0 0]) := by kernel_rfl
theorem ti67 : TI Tryd.prog 67 2 48 (.agg #[.slice none 0 0, .slice none 0 0]) := ⟨by kernel_rfl⟩
theorem zp67 (H : Hp) : (k_radomeref17_Imm).rep H (Value.cells (.agg #[.slice none 0 0, .slice none 0 0])).toList (⟨[], []⟩ : radomeref17_Imm) := k_radomeref17_Imm_in (x := ⟨[], []⟩) (ro_nil _ _) (ro_nil _ _)
theorem ty70 : TyA Tryd.prog 70 true 4 := ⟨⟨_, Tryd.underlying70, rfl⟩, by kernel_rfl⟩
theorem sz70 : (Tryd.prog.info? 70).map (·.size) = some 4 := by kernel_rfl
theorem zr70 : (Tryd.prog.info? 70).bind (·.zero) = some (.agg #[.int .i64 0, .int .i64 0, .bool false, .int .i64 0]) := by kernel_rfl
theorem ti70 : TI Tryd.prog 70 4 32 (.agg #[.int .i64 0, .int .i64 0, .bool false, .int .i64 0]) := ⟨by kernel_rfl⟩
theorem zp70 (H : Hp) : (k_radomelaw25_Act).rep H (Value.cells (.agg #[.int .i64 0, .int .i64 0, .bool false, .int .i64 0])).toList (⟨0, 0, false, 0⟩ : radomelaw25_Act) := k_radomelaw25_Act_in (x := ⟨0, 0, false, 0⟩)
theorem ty72 : TyA Tryd.prog 72 false 1 := ⟨⟨_, Tryd.underlying72, rfl⟩, by kernel_rfl⟩
theorem sz72 : (Tryd.prog.info? 72).map (·.size) = some 1 := by kernel_rfl
theorem zr72 : (Tryd.prog.info? 72).bind (·.zero) = some (.slice none 0 0) := by kernel_rfl
theorem ti72 : TI Tryd.prog 72 1 24 (.slice none 0 0) := ⟨by kernel_rfl⟩
theorem zp72 (H : Hp) : ((Kd.slice k_table_Track)).rep H (Value.cells (.slice none 0 0)).toList [] := ⟨_, rfl, ro_nil _ _⟩
theorem ty74 : TyA Tryd.prog 74 false 1 := ⟨⟨_, Tryd.underlying74, rfl⟩, by kernel_rfl⟩
theorem sz74 : (Tryd.prog.info? 74).map (·.size) = some 1 := by kernel_rfl
theorem zr74 : (Tryd.prog.info? 74).bind (·.zero) = some (.int .u32 0) := by kernel_rfl
theorem ti74 : TI Tryd.prog 74 1 4 (.int .u32 0) := ⟨by kernel_rfl⟩
theorem zp74 (H : Hp) : ((Kd.int .u32)).rep H (Value.cells (.int .u32 0)).toList 0 := rfl
theorem ty76 : TyA Tryd.prog 76 true 4 := ⟨⟨_, Tryd.underlying76, rfl⟩, by kernel_rfl⟩
theorem sz76 : (Tryd.prog.info? 76).map (·.size) = some 4 := by kernel_rfl
theorem zr76 : (Tryd.prog.info? 76).bind (·.zero) = some (.agg #[.int .i64 0, .int .u32 0, .int .i64 0, .int .i64 0]) := by kernel_rfl
theorem ti76 : TI Tryd.prog 76 4 32 (.agg #[.int .i64 0, .int .u32 0, .int .i64 0, .int .i64 0]) := ⟨by kernel_rfl⟩
theorem zp76 (H : Hp) : (k_life_Life).rep H (Value.cells (.agg #[.int .i64 0, .int .u32 0, .int .i64 0, .int .i64 0])).toList (⟨0, 0, 0, 0⟩ : life_Life) := k_life_Life_in (x := ⟨0, 0, 0, 0⟩)
theorem ty78 : TyA Tryd.prog 78 true 8 := ⟨⟨_, Tryd.underlying78, rfl⟩, by kernel_rfl⟩
theorem sz78 : (Tryd.prog.info? 78).map (·.size) = some 8 := by kernel_rfl
theorem zr78 : (Tryd.prog.info? 78).bind (·.zero) = some (.agg #[.int .i64 0, .int .i64 0, .int .u32 0, .int .i64 0, .int .i64 0, .slice none 0 0, .slice none 0 0, .int .i64 0]) := by kernel_rfl
theorem ti78 : TI Tryd.prog 78 8 96 (.agg #[.int .i64 0, .int .i64 0, .int .u32 0, .int .i64 0, .int .i64 0, .slice none 0 0, .slice none 0 0, .int .i64 0]) := ⟨by kernel_rfl⟩
theorem zp78 (H : Hp) : (k_table_Track).rep H (Value.cells (.agg #[.int .i64 0, .int .i64 0, .int .u32 0, .int .i64 0, .int .i64 0, .slice none 0 0, .slice none 0 0, .int .i64 0])).toList (⟨0, (⟨0, 0, 0, 0⟩ : life_Life), (⟨[], []⟩ : imm_Imm), 0⟩ : table_Track) := k_table_Track_in (x := ⟨0, ⟨0, 0, 0, 0⟩, ⟨[], []⟩, 0⟩) (ro_nil _ _) (ro_nil _ _)
theorem ty111 : TyA Tryd.prog 111 true 1 := ⟨⟨_, Tryd.underlying111, rfl⟩, by kernel_rfl⟩
theorem sz111 : (Tryd.prog.info? 111).map (·.size) = some 1 := by kernel_rfl
theorem zr111 : (Tryd.prog.info? 111).bind (·.zero) = some (.agg #[.int .i64 0]) := by kernel_rfl
theorem ti111 : TI Tryd.prog 111 1 8 (.agg #[.int .i64 0]) := ⟨by kernel_rfl⟩
theorem zp111 (H : Hp) : (k_atomic_Int64).rep H (Value.cells (.agg #[.int .i64 0])).toList (⟨0⟩ : atomic_Int64) := k_atomic_Int64_in (x := ⟨0⟩)
theorem ty113 : TyA Tryd.prog 113 true 3 := ⟨⟨_, Tryd.underlying113, rfl⟩, by kernel_rfl⟩
theorem sz113 : (Tryd.prog.info? 113).map (·.size) = some 3 := by kernel_rfl
theorem zr113 : (Tryd.prog.info? 113).bind (·.zero) = some (.agg #[.int .i64 0, .int .i64 0, .int .i64 0]) := by kernel_rfl
theorem ti113 : TI Tryd.prog 113 3 24 (.agg #[.int .i64 0, .int .i64 0, .int .i64 0]) := ⟨by kernel_rfl⟩
theorem zp113 (H : Hp) : (k_names_Names).rep H (Value.cells (.agg #[.int .i64 0, .int .i64 0, .int .i64 0])).toList (⟨0, 0, (⟨0⟩ : atomic_Int64)⟩ : names_Names) := k_names_Names_in (x := ⟨0, 0, ⟨0⟩⟩)
theorem ty135 : TyA Tryd.prog 135 true 6 := ⟨⟨_, Tryd.underlying135, rfl⟩, by kernel_rfl⟩
theorem sz135 : (Tryd.prog.info? 135).map (·.size) = some 6 := by kernel_rfl
theorem zr135 : (Tryd.prog.info? 135).bind (·.zero) = some (.agg #[.int .i64 0, .int .i64 0, .int .i64 0, .int .i64 0, .pointer none, .slice none 0 0]) := by kernel_rfl
theorem ti135 : TI Tryd.prog 135 6 64 (.agg #[.int .i64 0, .int .i64 0, .int .i64 0, .int .i64 0, .pointer none, .slice none 0 0]) := ⟨by kernel_rfl⟩
theorem ty137 : TyA Tryd.prog 137 false 1 := ⟨⟨_, Tryd.underlying137, rfl⟩, by kernel_rfl⟩
theorem sz137 : (Tryd.prog.info? 137).map (·.size) = some 1 := by kernel_rfl
theorem zr137 : (Tryd.prog.info? 137).bind (·.zero) = some (.slice none 0 0) := by kernel_rfl
theorem ti137 : TI Tryd.prog 137 1 24 (.slice none 0 0) := ⟨by kernel_rfl⟩
theorem zp137 (H : Hp) : ((Kd.slice (Kd.slice (Kd.int .i64)))).rep H (Value.cells (.slice none 0 0)).toList [] := ⟨_, rfl, ro_nil _ _⟩
theorem ty139 : TyA Tryd.prog 139 true 2 := ⟨⟨_, Tryd.underlying139, rfl⟩, by kernel_rfl⟩
theorem sz139 : (Tryd.prog.info? 139).map (·.size) = some 2 := by kernel_rfl
theorem zr139 : (Tryd.prog.info? 139).bind (·.zero) = some (.agg #[.slice none 0 0, .slice none 0 0]) := by kernel_rfl
theorem ti139 : TI Tryd.prog 139 2 48 (.agg #[.slice none 0 0, .slice none 0 0]) := ⟨by kernel_rfl⟩
theorem zp139 (H : Hp) : (k_radomeref12_State).rep H (Value.cells (.agg #[.slice none 0 0, .slice none 0 0])).toList (⟨[], []⟩ : radomeref12_State) := k_radomeref12_State_in (x := ⟨[], []⟩) (ro_nil _ _) (ro_nil _ _)
theorem ty172 : TyA Tryd.prog 172 true 6 := ⟨⟨_, Tryd.underlying172, rfl⟩, by kernel_rfl⟩
theorem sz172 : (Tryd.prog.info? 172).map (·.size) = some 6 := by kernel_rfl
theorem zr172 : (Tryd.prog.info? 172).bind (·.zero) = some (.agg #[.int .i64 0, .int .i64 0, .int .i64 0, .int .i64 0, .int .i64 0, .int .i64 0]) := by kernel_rfl
theorem ti172 : TI Tryd.prog 172 6 48 (.agg #[.int .i64 0, .int .i64 0, .int .i64 0, .int .i64 0, .int .i64 0, .int .i64 0]) := ⟨by kernel_rfl⟩
theorem zp172 (H : Hp) : (k_T172).rep H (Value.cells (.agg #[.int .i64 0, .int .i64 0, .int .i64 0, .int .i64 0, .int .i64 0, .int .i64 0])).toList (⟨0, 0, 0, 0, 0, 0⟩ : T172) := k_T172_in (x := ⟨0, 0, 0, 0, 0, 0⟩)
theorem ty173 : TyA Tryd.prog 173 true 36 := ⟨⟨_, Tryd.underlying173, rfl⟩, by kernel_rfl⟩
theorem sz173 : (Tryd.prog.info? 173).map (·.size) = some 36 := by kernel_rfl
theorem zr173 : (Tryd.prog.info? 173).bind (·.zero) = some (.agg ⟨(.int .i64 0 :: .int .i64 0 :: .int .i64 0 :: .int .i64 0 :: .int .i64 0 :: .int .i64 0 :: .int .i64 0 :: .int .i64 0 :: .int .i64 0 :: .int .i64 0 :: .int .i64 0 :: .int .i64 0 :: .int .i64 0 :: .int .i64 0 :: .int .i64 0 :: .int .i64 0 :: .int .i64 0 :: .int .i64 0 :: .int .i64 0 :: .int .i64 0 :: .int .i64 0 :: .int .i64 0 :: .int .i64 0 :: .int .i64 0 :: .int .i64 0 :: .int .i64 0 :: .int .i64 0 :: .int .i64 0 :: .int .i64 0 :: .int .i64 0 :: .int .i64 0 :: .int .i64 0 :: .int .i64 0 :: .int .i64 0 :: .int .i64 0 :: .int .i64 0 :: [])⟩) := by kernel_rfl
theorem ti173 : TI Tryd.prog 173 36 288 (.agg ⟨(.int .i64 0 :: .int .i64 0 :: .int .i64 0 :: .int .i64 0 :: .int .i64 0 :: .int .i64 0 :: .int .i64 0 :: .int .i64 0 :: .int .i64 0 :: .int .i64 0 :: .int .i64 0 :: .int .i64 0 :: .int .i64 0 :: .int .i64 0 :: .int .i64 0 :: .int .i64 0 :: .int .i64 0 :: .int .i64 0 :: .int .i64 0 :: .int .i64 0 :: .int .i64 0 :: .int .i64 0 :: .int .i64 0 :: .int .i64 0 :: .int .i64 0 :: .int .i64 0 :: .int .i64 0 :: .int .i64 0 :: .int .i64 0 :: .int .i64 0 :: .int .i64 0 :: .int .i64 0 :: .int .i64 0 :: .int .i64 0 :: .int .i64 0 :: .int .i64 0 :: [])⟩) := ⟨by kernel_rfl⟩
theorem zp173 (H : Hp) : (k_T173).rep H (Value.cells (.agg ⟨(.int .i64 0 :: .int .i64 0 :: .int .i64 0 :: .int .i64 0 :: .int .i64 0 :: .int .i64 0 :: .int .i64 0 :: .int .i64 0 :: .int .i64 0 :: .int .i64 0 :: .int .i64 0 :: .int .i64 0 :: .int .i64 0 :: .int .i64 0 :: .int .i64 0 :: .int .i64 0 :: .int .i64 0 :: .int .i64 0 :: .int .i64 0 :: .int .i64 0 :: .int .i64 0 :: .int .i64 0 :: .int .i64 0 :: .int .i64 0 :: .int .i64 0 :: .int .i64 0 :: .int .i64 0 :: .int .i64 0 :: .int .i64 0 :: .int .i64 0 :: .int .i64 0 :: .int .i64 0 :: .int .i64 0 :: .int .i64 0 :: .int .i64 0 :: .int .i64 0 :: [])⟩)).toList (⟨0, 0, 0, 0, 0, 0, 0, 0, 0, 0, 0, 0, 0, 0, 0, 0, 0, 0, 0, 0, 0, 0, 0, 0, 0, 0, 0, 0, 0, 0, 0, 0, 0, 0, 0, 0⟩ : T173) := k_T173_in (x := ⟨0, 0, 0, 0, 0, 0, 0, 0, 0, 0, 0, 0, 0, 0, 0, 0, 0, 0, 0, 0, 0, 0, 0, 0, 0, 0, 0, 0, 0, 0, 0, 0, 0, 0, 0, 0⟩)
theorem ty175 : TyA Tryd.prog 175 true 38 := ⟨⟨_, Tryd.underlying175, rfl⟩, by kernel_rfl⟩
theorem sz175 : (Tryd.prog.info? 175).map (·.size) = some 38 := by kernel_rfl
theorem zr175 : (Tryd.prog.info? 175).bind (·.zero) = some (.agg ⟨(.int .i64 0 :: .int .i64 0 :: .int .i64 0 :: .int .i64 0 :: .int .i64 0 :: .int .i64 0 :: .int .i64 0 :: .int .i64 0 :: .int .i64 0 :: .int .i64 0 :: .int .i64 0 :: .int .i64 0 :: .int .i64 0 :: .int .i64 0 :: .int .i64 0 :: .int .i64 0 :: .int .i64 0 :: .int .i64 0 :: .int .i64 0 :: .int .i64 0 :: .int .i64 0 :: .int .i64 0 :: .int .i64 0 :: .int .i64 0 :: .int .i64 0 :: .int .i64 0 :: .int .i64 0 :: .int .i64 0 :: .int .i64 0 :: .int .i64 0 :: .int .i64 0 :: .int .i64 0 :: .int .i64 0 :: .int .i64 0 :: .int .i64 0 :: .int .i64 0 :: .int .i64 0 :: .int .i64 0 :: [])⟩) := by kernel_rfl
theorem ti175 : TI Tryd.prog 175 38 304 (.agg ⟨(.int .i64 0 :: .int .i64 0 :: .int .i64 0 :: .int .i64 0 :: .int .i64 0 :: .int .i64 0 :: .int .i64 0 :: .int .i64 0 :: .int .i64 0 :: .int .i64 0 :: .int .i64 0 :: .int .i64 0 :: .int .i64 0 :: .int .i64 0 :: .int .i64 0 :: .int .i64 0 :: .int .i64 0 :: .int .i64 0 :: .int .i64 0 :: .int .i64 0 :: .int .i64 0 :: .int .i64 0 :: .int .i64 0 :: .int .i64 0 :: .int .i64 0 :: .int .i64 0 :: .int .i64 0 :: .int .i64 0 :: .int .i64 0 :: .int .i64 0 :: .int .i64 0 :: .int .i64 0 :: .int .i64 0 :: .int .i64 0 :: .int .i64 0 :: .int .i64 0 :: .int .i64 0 :: .int .i64 0 :: [])⟩) := ⟨by kernel_rfl⟩
theorem zp175 (H : Hp) : (k_mat_Mat).rep H (Value.cells (.agg ⟨(.int .i64 0 :: .int .i64 0 :: .int .i64 0 :: .int .i64 0 :: .int .i64 0 :: .int .i64 0 :: .int .i64 0 :: .int .i64 0 :: .int .i64 0 :: .int .i64 0 :: .int .i64 0 :: .int .i64 0 :: .int .i64 0 :: .int .i64 0 :: .int .i64 0 :: .int .i64 0 :: .int .i64 0 :: .int .i64 0 :: .int .i64 0 :: .int .i64 0 :: .int .i64 0 :: .int .i64 0 :: .int .i64 0 :: .int .i64 0 :: .int .i64 0 :: .int .i64 0 :: .int .i64 0 :: .int .i64 0 :: .int .i64 0 :: .int .i64 0 :: .int .i64 0 :: .int .i64 0 :: .int .i64 0 :: .int .i64 0 :: .int .i64 0 :: .int .i64 0 :: .int .i64 0 :: .int .i64 0 :: [])⟩)).toList (⟨0, 0, (⟨0, 0, 0, 0, 0, 0, 0, 0, 0, 0, 0, 0, 0, 0, 0, 0, 0, 0, 0, 0, 0, 0, 0, 0, 0, 0, 0, 0, 0, 0, 0, 0, 0, 0, 0, 0⟩ : T173)⟩ : mat_Mat) := k_mat_Mat_in (x := ⟨0, 0, ⟨0, 0, 0, 0, 0, 0, 0, 0, 0, 0, 0, 0, 0, 0, 0, 0, 0, 0, 0, 0, 0, 0, 0, 0, 0, 0, 0, 0, 0, 0, 0, 0, 0, 0, 0, 0⟩⟩)
theorem ty177 : TyA Tryd.prog 177 true 44 := ⟨⟨_, Tryd.underlying177, rfl⟩, by kernel_rfl⟩
theorem sz177 : (Tryd.prog.info? 177).map (·.size) = some 44 := by kernel_rfl
theorem zr177 : (Tryd.prog.info? 177).bind (·.zero) = some (.agg ⟨(.int .i64 0 :: .int .i64 0 :: .int .i64 0 :: .int .i64 0 :: .int .i64 0 :: .int .i64 0 :: .int .i64 0 :: .int .i64 0 :: .int .i64 0 :: .int .i64 0 :: .int .i64 0 :: .int .i64 0 :: .int .i64 0 :: .int .i64 0 :: .int .i64 0 :: .int .i64 0 :: .int .i64 0 :: .int .i64 0 :: .int .i64 0 :: .int .i64 0 :: .int .i64 0 :: .int .i64 0 :: .int .i64 0 :: .int .i64 0 :: .int .i64 0 :: .int .i64 0 :: .int .i64 0 :: .int .i64 0 :: .int .i64 0 :: .int .i64 0 :: .int .i64 0 :: .int .i64 0 :: .int .i64 0 :: .int .i64 0 :: .int .i64 0 :: .int .i64 0 :: .int .i64 0 :: .int .i64 0 :: .int .i64 0 :: .int .i64 0 :: .int .i64 0 :: .int .i64 0 :: .int .i64 0 :: .int .i64 0 :: [])⟩) := by kernel_rfl
theorem ti177 : TI Tryd.prog 177 44 352 (.agg ⟨(.int .i64 0 :: .int .i64 0 :: .int .i64 0 :: .int .i64 0 :: .int .i64 0 :: .int .i64 0 :: .int .i64 0 :: .int .i64 0 :: .int .i64 0 :: .int .i64 0 :: .int .i64 0 :: .int .i64 0 :: .int .i64 0 :: .int .i64 0 :: .int .i64 0 :: .int .i64 0 :: .int .i64 0 :: .int .i64 0 :: .int .i64 0 :: .int .i64 0 :: .int .i64 0 :: .int .i64 0 :: .int .i64 0 :: .int .i64 0 :: .int .i64 0 :: .int .i64 0 :: .int .i64 0 :: .int .i64 0 :: .int .i64 0 :: .int .i64 0 :: .int .i64 0 :: .int .i64 0 :: .int .i64 0 :: .int .i64 0 :: .int .i64 0 :: .int .i64 0 :: .int .i64 0 :: .int .i64 0 :: .int .i64 0 :: .int .i64 0 :: .int .i64 0 :: .int .i64 0 :: .int .i64 0 :: .int .i64 0 :: [])⟩) := ⟨by kernel_rfl⟩
theorem zp177 (H : Hp) : (k_predict_State).rep H (Value.cells (.agg ⟨(.int .i64 0 :: .int .i64 0 :: .int .i64 0 :: .int .i64 0 :: .int .i64 0 :: .int .i64 0 :: .int .i64 0 :: .int .i64 0 :: .int .i64 0 :: .int .i64 0 :: .int .i64 0 :: .int .i64 0 :: .int .i64 0 :: .int .i64 0 :: .int .i64 0 :: .int .i64 0 :: .int .i64 0 :: .int .i64 0 :: .int .i64 0 :: .int .i64 0 :: .int .i64 0 :: .int .i64 0 :: .int .i64 0 :: .int .i64 0 :: .int .i64 0 :: .int .i64 0 :: .int .i64 0 :: .int .i64 0 :: .int .i64 0 :: .int .i64 0 :: .int .i64 0 :: .int .i64 0 :: .int .i64 0 :: .int .i64 0 :: .int .i64 0 :: .int .i64 0 :: .int .i64 0 :: .int .i64 0 :: .int .i64 0 :: .int .i64 0 :: .int .i64 0 :: .int .i64 0 :: .int .i64 0 :: .int .i64 0 :: [])⟩)).toList (⟨(⟨0, 0, 0, 0, 0, 0⟩ : T172), (⟨0, 0, (⟨0, 0, 0, 0, 0, 0, 0, 0, 0, 0, 0, 0, 0, 0, 0, 0, 0, 0, 0, 0, 0, 0, 0, 0, 0, 0, 0, 0, 0, 0, 0, 0, 0, 0, 0, 0⟩ : T173)⟩ : mat_Mat)⟩ : predict_State) := k_predict_State_in (x := ⟨⟨0, 0, 0, 0, 0, 0⟩, ⟨0, 0, ⟨0, 0, 0, 0, 0, 0, 0, 0, 0, 0, 0, 0, 0, 0, 0, 0, 0, 0, 0, 0, 0, 0, 0, 0, 0, 0, 0, 0, 0, 0, 0, 0, 0, 0, 0, 0⟩⟩⟩)
theorem co9 : CallOk Tryd.prog 9 := ⟨_, Tryd.func9, by decide, rfl⟩
theorem co11 : CallOk Tryd.prog 11 := ⟨_, Tryd.func11, by decide, rfl⟩
theorem co14 : CallOk Tryd.prog 14 := ⟨_, Tryd.func14, by decide, rfl⟩
theorem co29 : CallOk Tryd.prog 29 := ⟨_, Tryd.func29, by decide, rfl⟩
theorem co30 : CallOk Tryd.prog 30 := ⟨_, Tryd.func30, by decide, rfl⟩
theorem co31 : CallOk Tryd.prog 31 := ⟨_, Tryd.func31, by decide, rfl⟩
theorem co32 : CallOk Tryd.prog 32 := ⟨_, Tryd.func32, by decide, rfl⟩
theorem co33 : CallOk Tryd.prog 33 := ⟨_, Tryd.func33, by decide, rfl⟩
theorem co34 : CallOk Tryd.prog 34 := ⟨_, Tryd.func34, by decide, rfl⟩
theorem co35 : CallOk Tryd.prog 35 := ⟨_, Tryd.func35, by decide, rfl⟩
theorem co36 : CallOk Tryd.prog 36 := ⟨_, Tryd.func36, by decide, rfl⟩
theorem co37 : CallOk Tryd.prog 37 := ⟨_, Tryd.func37, by decide, rfl⟩
theorem co38 : CallOk Tryd.prog 38 := ⟨_, Tryd.func38, by decide, rfl⟩
theorem co41 : CallOk Tryd.prog 41 := ⟨_, Tryd.func41, by decide, rfl⟩
theorem co49 : CallOk Tryd.prog 49 := ⟨_, Tryd.func49, by decide, rfl⟩
theorem co50 : CallOk Tryd.prog 50 := ⟨_, Tryd.func50, by decide, rfl⟩
theorem co55 : CallOk Tryd.prog 55 := ⟨_, Tryd.func55, by decide, rfl⟩
theorem co56 : CallOk Tryd.prog 56 := ⟨_, Tryd.func56, by decide, rfl⟩
theorem co57 : CallOk Tryd.prog 57 := ⟨_, Tryd.func57, by decide, rfl⟩
theorem co58 : CallOk Tryd.prog 58 := ⟨_, Tryd.func58, by decide, rfl⟩
theorem co59 : CallOk Tryd.prog 59 := ⟨_, Tryd.func59, by decide, rfl⟩
theorem co60 : CallOk Tryd.prog 60 := ⟨_, Tryd.func60, by decide, rfl⟩
theorem co61 : CallOk Tryd.prog 61 := ⟨_, Tryd.func61, by decide, rfl⟩
theorem co62 : CallOk Tryd.prog 62 := ⟨_, Tryd.func62, by decide, rfl⟩
theorem co79 : CallOk Tryd.prog 79 := ⟨_, Tryd.func79, by decide, rfl⟩
theorem co80 : CallOk Tryd.prog 80 := ⟨_, Tryd.func80, by decide, rfl⟩
theorem co81 : CallOk Tryd.prog 81 := ⟨_, Tryd.func81, by decide, rfl⟩
theorem co82 : CallOk Tryd.prog 82 := ⟨_, Tryd.func82, by decide, rfl⟩
theorem co83 : CallOk Tryd.prog 83 := ⟨_, Tryd.func83, by decide, rfl⟩
theorem co94 : CallOk Tryd.prog 94 := ⟨_, Tryd.func94, by decide, rfl⟩
theorem co95 : CallOk Tryd.prog 95 := ⟨_, Tryd.func95, by decide, rfl⟩
theorem co96 : CallOk Tryd.prog 96 := ⟨_, Tryd.func96, by decide, rfl⟩
theorem co97 : CallOk Tryd.prog 97 := ⟨_, Tryd.func97, by decide, rfl⟩
theorem co103 : CallOk Tryd.prog 103 := ⟨_, Tryd.func103, by decide, rfl⟩
theorem co114 : CallOk Tryd.prog 114 := ⟨_, Tryd.func114, by decide, rfl⟩
theorem fn_7 : Tryd.prog.funcs[7]? = some Tryd.f7 := Tryd.func7
theorem rs_7 : Tryd.f7.results = ⟨[.tmp 4]⟩ := rfl
theorem nt_7 : Tryd.f7.ntmps = 233 := rfl
theorem fn_9 : Tryd.prog.funcs[9]? = some Tryd.f9 := Tryd.func9
theorem rs_9 : Tryd.f9.results = ⟨[.tmp 2, .tmp 3]⟩ := rfl
theorem nt_9 : Tryd.f9.ntmps = 37 := rfl
theorem fn_11 : Tryd.prog.funcs[11]? = some Tryd.f11 := Tryd.func11
theorem rs_11 : Tryd.f11.results = ⟨[.tmp 2]⟩ := rfl
theorem nt_11 : Tryd.f11.ntmps = 9 := rfl
theorem fn_14 : Tryd.prog.funcs[14]? = some Tryd.f14 := Tryd.func14
theorem rs_14 : Tryd.f14.results = ⟨[.tmp 4, .tmp 5]⟩ := rfl
theorem nt_14 : Tryd.f14.ntmps = 22 := rfl
theorem fn_29 : Tryd.prog.funcs[29]? = some Tryd.f29 := Tryd.func29
theorem rs_29 : Tryd.f29.results = ⟨[.tmp 6, .tmp 7]⟩ := rfl
theorem nt_29 : Tryd.f29.ntmps = 45 := rfl
theorem fn_30 : Tryd.prog.funcs[30]? = some Tryd.f30 := Tryd.func30
theorem rs_30 : Tryd.f30.results = ⟨[.cell 2 63]⟩ := rfl
theorem nt_30 : Tryd.f30.ntmps = 9 := rfl
theorem fn_31 : Tryd.prog.funcs[31]? = some Tryd.f31 := Tryd.func31
theorem rs_31 : Tryd.f31.results = ⟨[.cell 2 67]⟩ := rfl
theorem nt_31 : Tryd.f31.ntmps = 28 := rfl
theorem fn_32 : Tryd.prog.funcs[32]? = some Tryd.f32 := Tryd.func32
theorem rs_32 : Tryd.f32.results = ⟨[.tmp 6, .tmp 7]⟩ := rfl
theorem nt_32 : Tryd.f32.ntmps = 72 := rfl
theorem fn_34 : Tryd.prog.funcs[34]? = some Tryd.f34 := Tryd.func34
theorem rs_34 : Tryd.f34.results = ⟨[.tmp 2]⟩ := rfl
theorem nt_34 : Tryd.f34.ntmps = 24 := rfl
theorem fn_35 : Tryd.prog.funcs[35]? = some Tryd.f35 := Tryd.func35
theorem rs_35 : Tryd.f35.results = ⟨[.cell 4 78, .tmp 5]⟩ := rfl
theorem nt_35 : Tryd.f35.ntmps = 30 := rfl
theorem fn_36 : Tryd.prog.funcs[36]? = some Tryd.f36 := Tryd.func36
theorem rs_36 : Tryd.f36.results = ⟨[.cell 10 76, .tmp 11]⟩ := rfl
theorem nt_36 : Tryd.f36.ntmps = 86 := rfl
theorem fn_37 : Tryd.prog.funcs[37]? = some Tryd.f37 := Tryd.func37
theorem rs_37 : Tryd.f37.results = ⟨[.tmp 2]⟩ := rfl
theorem nt_37 : Tryd.f37.ntmps = 11 := rfl
theorem fn_38 : Tryd.prog.funcs[38]? = some Tryd.f38 := Tryd.func38
theorem rs_38 : Tryd.f38.results = ⟨[.tmp 0]⟩ := rfl
theorem nt_38 : Tryd.f38.ntmps = 101 := rfl
theorem fn_41 : Tryd.prog.funcs[41]? = some Tryd.f41 := Tryd.func41
theorem rs_41 : Tryd.f41.results = ⟨[.tmp 2]⟩ := rfl
theorem nt_41 : Tryd.f41.ntmps = 10 := rfl
theorem fn_49 : Tryd.prog.funcs[49]? = some Tryd.f49 := Tryd.func49
theorem rs_49 : Tryd.f49.results = ⟨[.tmp 2]⟩ := rfl
theorem nt_49 : Tryd.f49.ntmps = 7 := rfl
theorem fn_50 : Tryd.prog.funcs[50]? = some Tryd.f50 := Tryd.func50
theorem rs_50 : Tryd.f50.results = ⟨[.tmp 6]⟩ := rfl
theorem nt_50 : Tryd.f50.ntmps = 13 := rfl
theorem fn_55 : Tryd.prog.funcs[55]? = some Tryd.f55 := Tryd.func55
theorem rs_55 : Tryd.f55.results = ⟨[.tmp 2]⟩ := rfl
theorem nt_55 : Tryd.f55.ntmps = 29 := rfl
theorem fn_56 : Tryd.prog.funcs[56]? = some Tryd.f56 := Tryd.func56
theorem rs_56 : Tryd.f56.results = ⟨[.tmp 2]⟩ := rfl
theorem nt_56 : Tryd.f56.ntmps = 20 := rfl
theorem fn_57 : Tryd.prog.funcs[57]? = some Tryd.f57 := Tryd.func57
theorem rs_57 : Tryd.f57.results = ⟨[.cell 2 76, .tmp 3]⟩ := rfl
theorem nt_57 : Tryd.f57.ntmps = 24 := rfl
theorem fn_58 : Tryd.prog.funcs[58]? = some Tryd.f58 := Tryd.func58
theorem rs_58 : Tryd.f58.results = ⟨[.cell 2 63]⟩ := rfl
theorem nt_58 : Tryd.f58.ntmps = 10 := rfl
theorem fn_59 : Tryd.prog.funcs[59]? = some Tryd.f59 := Tryd.func59
theorem rs_59 : Tryd.f59.results = ⟨[.cell 2 78]⟩ := rfl
theorem nt_59 : Tryd.f59.ntmps = 8 := rfl
theorem fn_60 : Tryd.prog.funcs[60]? = some Tryd.f60 := Tryd.func60
theorem rs_60 : Tryd.f60.results = ⟨[.tmp 4, .tmp 5]⟩ := rfl
theorem nt_60 : Tryd.f60.ntmps = 14 := rfl
theorem fn_61 : Tryd.prog.funcs[61]? = some Tryd.f61 := Tryd.func61
theorem rs_61 : Tryd.f61.results = ⟨[.cell 6 76, .tmp 7]⟩ := rfl
theorem nt_61 : Tryd.f61.ntmps = 54 := rfl
theorem fn_62 : Tryd.prog.funcs[62]? = some Tryd.f62 := Tryd.func62
theorem rs_62 : Tryd.f62.results = ⟨[.tmp 6]⟩ := rfl
theorem nt_62 : Tryd.f62.ntmps = 33 := rfl
theorem fn_79 : Tryd.prog.funcs[79]? = some Tryd.f79 := Tryd.func79
theorem rs_79 : Tryd.f79.results = ⟨[.cell 2 177]⟩ := rfl
theorem nt_79 : Tryd.f79.ntmps = 27 := rfl
theorem fn_80 : Tryd.prog.funcs[80]? = some Tryd.f80 := Tryd.func80
theorem rs_80 : Tryd.f80.results = ⟨[.tmp 6, .tmp 7]⟩ := rfl
theorem nt_80 : Tryd.f80.ntmps = 49 := rfl
theorem fn_81 : Tryd.prog.funcs[81]? = some Tryd.f81 := Tryd.func81
theorem rs_81 : Tryd.f81.results = ⟨[.tmp 4]⟩ := rfl
theorem nt_81 : Tryd.f81.ntmps = 15 := rfl
theorem fn_82 : Tryd.prog.funcs[82]? = some Tryd.f82 := Tryd.func82
theorem rs_82 : Tryd.f82.results = ⟨[.tmp 4]⟩ := rfl
theorem nt_82 : Tryd.f82.ntmps = 35 := rfl
theorem fn_83 : Tryd.prog.funcs[83]? = some Tryd.f83 := Tryd.func83
theorem rs_83 : Tryd.f83.results = ⟨[.tmp 4]⟩ := rfl
theorem nt_83 : Tryd.f83.ntmps = 33 := rfl
theorem fn_94 : Tryd.prog.funcs[94]? = some Tryd.f94 := Tryd.func94
theorem rs_94 : Tryd.f94.results = ⟨[.cell 2 175]⟩ := rfl
theorem nt_94 : Tryd.f94.ntmps = 14 := rfl
theorem fn_95 : Tryd.prog.funcs[95]? = some Tryd.f95 := Tryd.func95
theorem rs_95 : Tryd.f95.results = ⟨[.tmp 4]⟩ := rfl
theorem nt_95 : Tryd.f95.ntmps = 44 := rfl
theorem fn_96 : Tryd.prog.funcs[96]? = some Tryd.f96 := Tryd.func96
theorem rs_96 : Tryd.f96.results = ⟨[.tmp 2]⟩ := rfl
theorem nt_96 : Tryd.f96.ntmps = 21 := rfl
theorem fn_97 : Tryd.prog.funcs[97]? = some Tryd.f97 := Tryd.func97
theorem rs_97 : Tryd.f97.results = ⟨[.tmp 4]⟩ := rfl
theorem nt_97 : Tryd.f97.ntmps = 13 := rfl
theorem fn_103 : Tryd.prog.funcs[103]? = some Tryd.f103 := Tryd.func103
theorem rs_103 : Tryd.f103.results = ⟨[.cell 2 175, .tmp 3]⟩ := rfl
theorem nt_103 : Tryd.f103.ntmps = 52 := rfl
theorem fn_114 : Tryd.prog.funcs[114]? = some Tryd.f114 := Tryd.func114
theorem rs_114 : Tryd.f114.results = ⟨[.tmp 2]⟩ := rfl
theorem nt_114 : Tryd.f114.ntmps = 9 := rfl
theorem mixed : Tryd.prog.follows .mixedOrders = true := by kernel_rfl
abbrev kf_table_Track : Kf table_Track Value where
 raw := {
  sz := 8
  rep := fun H cs p => (∃ v0 : Value, cs = [.int .i64 p.1.f_ID, .int .i64 p.1.f_Life.f_Kind, .int .u32 p.1.f_Life.f_Seen, .int .i64 p.1.f_Life.f_Age, .int .i64 p.1.f_Life.f_Missed, v0, p.2, .int .i64 p.1.f_Time] ∧ Ro k_predict_State H v0 p.1.f_Imm.f_States) ∧ (p.2).oneCell' = true
  len := by rintro H _ p ⟨⟨v0, rfl, h0⟩, o0⟩; rfl
  mono := by rintro H H' _ p hle ⟨⟨v0, rfl, h0⟩, o0⟩; exact ⟨⟨v0, rfl, h0.mono hle⟩, o0⟩
  one := by
   rintro H _ p ⟨⟨v0, rfl, h0⟩, o0⟩ c hc
   simp only [List.mem_cons, List.not_mem_nil, or_false] at hc
   rcases hc with rfl | rfl | rfl | rfl | rfl | rfl | rfl | rfl
   · rfl
   · rfl
   · rfl
   · rfl
   · rfl
   · exact h0.one
   · exact o0
   · rfl }
 ro := k_table_Track
 fam := fun H its a b => ∃ j0 : Item', its = [j0] ∧ Sl (Kd.int .i64) H 2 j0 b a.f_Imm.f_Chances
 mono := by rintro H H' its a b hle ⟨j0, rfl, g0⟩; exact ⟨j0, rfl, g0.mono hle⟩
 fr := by
  rintro H w its L cs a b ho ⟨j0, rfl, g0⟩ ⟨⟨v0, rfl, h0⟩, o0⟩
  obtain ⟨H0, l0, ho, q0⟩ := ho.freezeSl g0 .here
  replace ho := ho.tail
  exact ⟨_, l0, ho, k_table_Track_in (h0.mono l0) q0⟩
 sz := rfl
theorem kf_table_Track_s0 {H : Hp} {a : table_Track} {b0 v : Value} (h : v.oneCell' = true) : ∀ cs, kf_table_Track.raw.rep H cs (a, b0) → kf_table_Track.raw.rep H (cs.take 6 ++ [v] ++ cs.drop (6 + [v].length)) (a, v) := by
 rintro _ ⟨⟨v0, rfl, h0⟩, o0⟩
 exact ⟨⟨v0, rfl, h0⟩, h⟩
def GH (H : Hp) : Prop := ∃ o, H.at_ 0 = some o ∧ ∀ w : World, w.heap[0]? = some o → GG w
theorem GH.mono {H H' : Hp} (h : GH H) (hle : H.le H') : GH H' := let ⟨o, h1, h2⟩ := h; ⟨o, hle.at_ 0 o h1, h2⟩
theorem gh_of {W : World} (h : GG W) : GH (snap W) := by
 unfold GG at h
 have h1 := h
 unfold World.cell? at h1
 split at h1
 · rename_i c1 T fz hh
   refine ⟨_, hh, fun w hw => ?_⟩
   show w.cell? _ = _
   unfold World.cell?
   rw [hw]; exact h1
 · cases h1
def errN (e : Option Int) : Int := e.getD 0
theorem num10.calls {H : Hp} {L : Items} {e : Option Int} (hG : GH H) (he : some (errN e) = some (errN e)) : Ct Tryd.prog 10 ⟨[errV 106 e]⟩ H L (fun v H' L' => L = L' ∧ H = H' ∧ v = .int .i64 (errN e)) := Ct.of_calls fun w hw => by
 obtain ⟨o, h1, h2⟩ := hG
 have hg := h2 w (hw.good 0 o h1)
 have this : Calls Tryd.prog 10 #[errV 106 e] w fun ev w' => ev = .returned (.int .i64 (e.getD 0)) ∧ Below w.heap.size w w' := by
  cases e with
  | none => exact num10_any none w hg
  | some c => exact num10_any (some c) w hg
 refine this.mono ?_
 rintro ev w' ⟨rfl, hb⟩
 exact ⟨_, _, _, rfl, hw.below hb, rfl, rfl, rfl⟩
theorem num19.calls {H : Hp} {L : Items} {e : Option Int} (hG : GH H) (he : some (errN e) = some (errN e)) : Ct Tryd.prog 19 ⟨[errV 106 e]⟩ H L (fun v H' L' => L = L' ∧ H = H' ∧ v = .int .i64 (errN e)) := Ct.of_calls fun w hw => by
 obtain ⟨o, h1, h2⟩ := hG
 have hg := h2 w (hw.good 0 o h1)
 have this : Calls Tryd.prog 19 #[errV 106 e] w fun ev w' => ev = .returned (.int .i64 (e.getD 0)) ∧ Below w.heap.size w w' := by
  cases e with
  | none => exact num19_any none w hg
  | some c => exact num19_any (some c) w hg
 refine this.mono ?_
 rintro ev w' ⟨rfl, hb⟩
 exact ⟨_, _, _, rfl, hw.below hb, rfl, rfl, rfl⟩
theorem num33.calls {H : Hp} {L : Items} {e : Option Int} (hG : GH H) (he : some (errN e) = some (errN e)) : Ct Tryd.prog 33 ⟨[errV 106 e]⟩ H L (fun v H' L' => L = L' ∧ H = H' ∧ v = .int .i64 (errN e)) := Ct.of_calls fun w hw => by
 obtain ⟨o, h1, h2⟩ := hG
 have hg := h2 w (hw.good 0 o h1)
 have this : Calls Tryd.prog 33 #[errV 106 e] w fun ev w' => ev = .returned (.int .i64 (e.getD 0)) ∧ Below w.heap.size w w' := by
  cases e with
  | none => exact num33_any none w hg
  | some c => exact num33_any (some c) w hg
 refine this.mono ?_
 rintro ev w' ⟨rfl, hb⟩
 exact ⟨_, _, _, rfl, hw.below hb, rfl, rfl, rfl⟩
theorem ext71 : ExtOk Tryd.prog 71 (Extern.Atomic.loadT (.int .i64)) := ⟨_, Tryd.func71, by decide, rfl, by kernel_rfl, by kernel_rfl⟩
theorem at49.calls {H : Hp} {L : Items} {b off : Nat} {x : Int} (hl : Lies H L ⟨b, off, none⟩ [.int .i64 x]) : Ct Tryd.prog 49 ⟨[.pointer (some ⟨b, off, none⟩)]⟩ H L (fun v H' L' => L = L' ∧ H = H' ∧ v = .int .i64 x) := by
 refine ct_outs (O := fun _ v => v = .int .i64 x) (fun _ _ h => h) <| ct_enter (args := [.pointer (some ⟨b, off, none⟩)]) fn_49 rfl nt_49 rfl <| w_seq <| w_region rfl <| w_d rfl (d_assign (v := .int .i64 0) rfl) <| w_done <| w_seq <| w_region rfl <| w_d rfl (d_move (v := .pointer (some ⟨b, off, none⟩)) rfl) <| w_d rfl (d_nilCheck (p := ⟨b, off, none⟩) rfl) <| w_d rfl (d_fld (o' := off) Tryd.underlying111 rfl sz2 rfl rfl rfl) <| w_d rfl (d_aload ext71 rfl hl) ?_
 refine w_d rfl (d_assign (v := .int .i64 x) rfl) <| w_done <| w_return fn_49 rs_49 (.tmp (v := .int .i64 x) rfl .nil) <| ⟨⟨[], rfl⟩, .refl _, rfl⟩
theorem ext72 : ExtOk Tryd.prog 72 (Extern.Atomic.casT (.int .i64)) := ⟨_, Tryd.func72, by decide, rfl, by kernel_rfl, by kernel_rfl⟩
theorem at50.calls {H : Hp} {L L1 : Items} {b off : Nat} {cs cs' : List Value} {T : TypeId} {c old new z : Int} (hu : Upd L (some (b, .cells ⟨cs⟩ T (0, 0))) (some (b, .cells ⟨cs'⟩ T (0, 0))) L1) (hc : cs[off]? = some (.int .i64 c)) (hz : z = if c = old then new else c) (hs : SetL cs off [.int .i64 z] cs') : Ct Tryd.prog 50 ⟨[.pointer (some ⟨b, off, none⟩), .int .i64 old, .int .i64 new]⟩ H L (fun v H' L' => v = .bool (decide (c = old)) ∧ H = H' ∧ L' = L1) := by
 subst hz
 refine ct_enter (args := [.pointer (some ⟨b, off, none⟩), .int .i64 old, .int .i64 new]) fn_50 rfl nt_50 rfl <| w_seq <| w_region rfl <| w_d rfl (d_assign (v := .bool false) rfl) <| w_done <| w_seq <| w_region rfl <| w_d rfl (d_move (v := .pointer (some ⟨b, off, none⟩)) rfl) <| w_d rfl (d_nilCheck (p := ⟨b, off, none⟩) rfl) <| w_d rfl (d_fld (o' := off) Tryd.underlying111 rfl sz2 rfl rfl rfl) <| w_d rfl (d_move (v := .int .i64 old) rfl) <| w_d rfl (d_move (v := .int .i64 new) rfl) ?_
 refine w_a rfl (o_acas ext72 rfl rfl rfl hu hc hs) ?_
 rintro _ _ _ ⟨rfl, rfl, rfl⟩
 refine w_d rfl (d_assign (v := .bool (decide (c = old))) rfl) <| w_done <| w_return fn_50 rs_50 (.tmp (v := .bool (decide (c = old))) rfl .nil) <| ⟨rfl, rfl, rfl⟩
end Go.Proofs.YtjhpkkhcgpilfaaDoor.GTO
