/- A text of this session, written by a program (wip/k/gen.py): Go functions as Lean functions, and proofs that the code comes to them. -/
import Derived.Test.YtoijknggnlbopaaDoorGCPk17
import Derived.Test.YtoijknggnlbopaaDoorAs
namespace Go.Proofs.YtoijknggnlbopaaDoor.GCP
open Go Go.RowKit Go.Proofs.YtoijknggnlbopaaDoorK Go.Proofs.YtoijknggnlbopaaDoor
set_option linter.unusedVariables false
set_option linter.unusedSimpArgs false
structure cluster_Group where
 f_Tracks : List Int
 f_Plots : List Int
instance : Inhabited cluster_Group := ⟨⟨[], []⟩⟩
def k_cluster_Group : Kd cluster_Group := Kd.map (fun s => (s.f_Tracks, s.f_Plots)) (Kd.pair (Kd.slice (Kd.int .i64)) (Kd.slice (Kd.int .i64)))
theorem k_cluster_Group_out {H : Hp} {cs : List Value} {x : cluster_Group} (h : k_cluster_Group.rep H cs x) : ∃ v0, ∃ v1, cs = [v0, v1] ∧ Ro (Kd.int .i64) H v0 x.f_Tracks ∧ Ro (Kd.int .i64) H v1 x.f_Plots := by
 obtain ⟨_, _, rfl, ⟨v0, rfl, h0⟩, ⟨v1, rfl, h1⟩⟩ := (show ((Kd.pair (Kd.slice (Kd.int .i64)) (Kd.slice (Kd.int .i64)))).rep H cs ((x.f_Tracks, x.f_Plots)) from h)
 exact ⟨v0, v1, rfl, h0, h1⟩
theorem k_cluster_Group_in {H : Hp} {v0 : Value} {v1 : Value} {x : cluster_Group} (h0 : Ro (Kd.int .i64) H v0 x.f_Tracks) (h1 : Ro (Kd.int .i64) H v1 x.f_Plots) : k_cluster_Group.rep H [v0, v1] x :=
 (show ((Kd.pair (Kd.slice (Kd.int .i64)) (Kd.slice (Kd.int .i64)))).rep H _ ((x.f_Tracks, x.f_Plots)) from ⟨[v0], [v1], rfl, ⟨v0, rfl, h0⟩, ⟨v1, rfl, h1⟩⟩)
theorem ty3 : TyA Tryd.prog 3 false 1 := ⟨⟨_, Tryd.underlying3, rfl⟩, by kernel_rfl⟩
theorem sz3 : (Tryd.prog.info? 3).map (·.size) = some 1 := by kernel_rfl
theorem zr3 : (Tryd.prog.info? 3).bind (·.zero) = some (.int .i64 0) := by kernel_rfl
theorem ti3 : TI Tryd.prog 3 1 8 (.int .i64 0) := ⟨by kernel_rfl⟩
theorem zp3 (H : Hp) : ((Kd.int .i64)).rep H (Value.cells (.int .i64 0)).toList 0 := rfl
theorem ty85 : TyA Tryd.prog 85 false 1 := ⟨⟨_, Tryd.underlying85, rfl⟩, by kernel_rfl⟩
theorem sz85 : (Tryd.prog.info? 85).map (·.size) = some 1 := by kernel_rfl
theorem zr85 : (Tryd.prog.info? 85).bind (·.zero) = some (.slice none 0 0) := by kernel_rfl
theorem ti85 : TI Tryd.prog 85 1 24 (.slice none 0 0) := ⟨by kernel_rfl⟩
theorem zp85 (H : Hp) : ((Kd.slice (Kd.int .i64))).rep H (Value.cells (.slice none 0 0)).toList [] := ⟨_, rfl, ro_nil _ _⟩
theorem ty95 : TyA Tryd.prog 95 true 2 := ⟨⟨_, Tryd.underlying95, rfl⟩, by kernel_rfl⟩
theorem sz95 : (Tryd.prog.info? 95).map (·.size) = some 2 := by kernel_rfl
theorem zr95 : (Tryd.prog.info? 95).bind (·.zero) = some (.agg #[.slice none 0 0, .slice none 0 0]) := by kernel_rfl
theorem ti95 : TI Tryd.prog 95 2 48 (.agg #[.slice none 0 0, .slice none 0 0]) := ⟨by kernel_rfl⟩
theorem zp95 (H : Hp) : (k_cluster_Group).rep H (Value.cells (.agg #[.slice none 0 0, .slice none 0 0])).toList (⟨[], []⟩ : cluster_Group) := k_cluster_Group_in (x := ⟨[], []⟩) (ro_nil _ _) (ro_nil _ _)
theorem co32 : CallOk Tryd.prog 32 := ⟨_, Tryd.func32, by decide, rfl⟩
theorem co33 : CallOk Tryd.prog 33 := ⟨_, Tryd.func33, by decide, rfl⟩
theorem co35 : CallOk Tryd.prog 35 := ⟨_, Tryd.func35, by decide, rfl⟩
theorem co36 : CallOk Tryd.prog 36 := ⟨_, Tryd.func36, by decide, rfl⟩
theorem co37 : CallOk Tryd.prog 37 := ⟨_, Tryd.func37, by decide, rfl⟩
theorem co39 : CallOk Tryd.prog 39 := ⟨_, Tryd.func39, by decide, rfl⟩
theorem co48 : CallOk Tryd.prog 48 := ⟨_, Tryd.func48, by decide, rfl⟩
theorem co49 : CallOk Tryd.prog 49 := ⟨_, Tryd.func49, by decide, rfl⟩
theorem co50 : CallOk Tryd.prog 50 := ⟨_, Tryd.func50, by decide, rfl⟩
theorem co51 : CallOk Tryd.prog 51 := ⟨_, Tryd.func51, by decide, rfl⟩
theorem co52 : CallOk Tryd.prog 52 := ⟨_, Tryd.func52, by decide, rfl⟩
theorem co53 : CallOk Tryd.prog 53 := ⟨_, Tryd.func53, by decide, rfl⟩
theorem co63 : CallOk Tryd.prog 63 := ⟨_, Tryd.func63, by decide, rfl⟩
theorem co64 : CallOk Tryd.prog 64 := ⟨_, Tryd.func64, by decide, rfl⟩
theorem fn_8 : Tryd.prog.funcs[8]? = some Tryd.f8 := Tryd.func8
theorem rs_8 : Tryd.f8.results = ⟨[.tmp 4]⟩ := rfl
theorem nt_8 : Tryd.f8.ntmps = 209 := rfl
theorem fn_32 : Tryd.prog.funcs[32]? = some Tryd.f32 := Tryd.func32
theorem rs_32 : Tryd.f32.results = ⟨[.tmp 4, .tmp 5]⟩ := rfl
theorem nt_32 : Tryd.f32.ntmps = 123 := rfl
theorem fn_33 : Tryd.prog.funcs[33]? = some Tryd.f33 := Tryd.func33
theorem rs_33 : Tryd.f33.results = ⟨[.tmp 4, .tmp 5]⟩ := rfl
theorem nt_33 : Tryd.f33.ntmps = 29 := rfl
theorem fn_36 : Tryd.prog.funcs[36]? = some Tryd.f36 := Tryd.func36
theorem rs_36 : Tryd.f36.results = ⟨[.tmp 4]⟩ := rfl
theorem nt_36 : Tryd.f36.ntmps = 56 := rfl
theorem fn_37 : Tryd.prog.funcs[37]? = some Tryd.f37 := Tryd.func37
theorem rs_37 : Tryd.f37.results = ⟨[.tmp 0]⟩ := rfl
theorem nt_37 : Tryd.f37.ntmps = 61 := rfl
theorem fn_39 : Tryd.prog.funcs[39]? = some Tryd.f39 := Tryd.func39
theorem rs_39 : Tryd.f39.results = ⟨[.tmp 4]⟩ := rfl
theorem nt_39 : Tryd.f39.ntmps = 26 := rfl
theorem fn_48 : Tryd.prog.funcs[48]? = some Tryd.f48 := Tryd.func48
theorem rs_48 : Tryd.f48.results = ⟨[.tmp 2]⟩ := rfl
theorem nt_48 : Tryd.f48.ntmps = 18 := rfl
theorem fn_49 : Tryd.prog.funcs[49]? = some Tryd.f49 := Tryd.func49
theorem rs_49 : Tryd.f49.results = ⟨[]⟩ := rfl
theorem nt_49 : Tryd.f49.ntmps = 20 := rfl
theorem fn_50 : Tryd.prog.funcs[50]? = some Tryd.f50 := Tryd.func50
theorem rs_50 : Tryd.f50.results = ⟨[.tmp 4]⟩ := rfl
theorem nt_50 : Tryd.f50.ntmps = 26 := rfl
theorem fn_51 : Tryd.prog.funcs[51]? = some Tryd.f51 := Tryd.func51
theorem rs_51 : Tryd.f51.results = ⟨[.tmp 4]⟩ := rfl
theorem nt_51 : Tryd.f51.ntmps = 9 := rfl
theorem fn_52 : Tryd.prog.funcs[52]? = some Tryd.f52 := Tryd.func52
theorem rs_52 : Tryd.f52.results = ⟨[.tmp 3]⟩ := rfl
theorem nt_52 : Tryd.f52.ntmps = 7 := rfl
theorem fn_53 : Tryd.prog.funcs[53]? = some Tryd.f53 := Tryd.func53
theorem rs_53 : Tryd.f53.results = ⟨[.tmp 4]⟩ := rfl
theorem nt_53 : Tryd.f53.ntmps = 9 := rfl
theorem fn_63 : Tryd.prog.funcs[63]? = some Tryd.f63 := Tryd.func63
theorem rs_63 : Tryd.f63.results = ⟨[.tmp 4]⟩ := rfl
theorem nt_63 : Tryd.f63.ntmps = 19 := rfl
theorem fn_64 : Tryd.prog.funcs[64]? = some Tryd.f64 := Tryd.func64
theorem rs_64 : Tryd.f64.results = ⟨[.tmp 4]⟩ := rfl
theorem nt_64 : Tryd.f64.ntmps = 19 := rfl
theorem mixed : Tryd.prog.follows .mixedOrders = true := by kernel_rfl
abbrev kf_cluster_Group : Kf cluster_Group (Value × Value) where
 raw := {
  sz := 2
  rep := fun H cs p => (cs = [p.2.1, p.2.2]) ∧ (p.2.1).oneCell' = true ∧ (p.2.2).oneCell' = true
  len := by rintro H _ p ⟨⟨rfl⟩, o0, o1⟩; rfl
  mono := by rintro H H' _ p hle ⟨⟨rfl⟩, o0, o1⟩; exact ⟨rfl, o0, o1⟩
  one := by
   rintro H _ p ⟨⟨rfl⟩, o0, o1⟩ c hc
   simp only [List.mem_cons, List.not_mem_nil, or_false] at hc
   rcases hc with rfl | rfl
   · exact o0
   · exact o1 }
 ro := k_cluster_Group
 fam := fun H its a b => ∃ j0 j1 : Item', its = [j0, j1] ∧ Sl (Kd.int .i64) H 3 j0 b.1 a.f_Tracks ∧ Sl (Kd.int .i64) H 3 j1 b.2 a.f_Plots
 mono := by rintro H H' its a b hle ⟨j0, j1, rfl, g0, g1⟩; exact ⟨j0, j1, rfl, g0.mono hle, g1.mono hle⟩
 fr := by
  rintro H w its L cs a b ho ⟨j0, j1, rfl, g0, g1⟩ ⟨⟨rfl⟩, o0, o1⟩
  obtain ⟨H0, l0, ho, q0⟩ := ho.freezeSl g0 .here
  replace ho := ho.tail
  obtain ⟨H1, l1, ho, q1⟩ := ho.freezeSl (g1.mono l0) .here
  replace ho := ho.tail
  exact ⟨_, (l0.trans l1), ho, k_cluster_Group_in (q0.mono l1) q1⟩
 sz := rfl
theorem kf_cluster_Group_s0 {H : Hp} {a : cluster_Group} {b0 b1 v : Value} (h : v.oneCell' = true) : ∀ cs, kf_cluster_Group.raw.rep H cs (a, (b0, b1)) → kf_cluster_Group.raw.rep H (cs.take 0 ++ [v] ++ cs.drop (0 + [v].length)) (a, (v, b1)) := by
 rintro _ ⟨⟨rfl⟩, o0, o1⟩
 exact ⟨rfl, h, o1⟩
theorem kf_cluster_Group_s1 {H : Hp} {a : cluster_Group} {b0 b1 v : Value} (h : v.oneCell' = true) : ∀ cs, kf_cluster_Group.raw.rep H cs (a, (b0, b1)) → kf_cluster_Group.raw.rep H (cs.take 1 ++ [v] ++ cs.drop (1 + [v].length)) (a, (b0, v)) := by
 rintro _ ⟨⟨rfl⟩, o0, o1⟩
 exact ⟨rfl, o0, h⟩
def GH (H : Hp) : Prop := ∃ o, H.at_ 0 = some o ∧ ∀ w : World, w.heap[0]? = some o → GG w
theorem GH.mono {H H' : Hp} (h : GH H) (hle : H.le H') : GH H' := let ⟨o, h1, h2⟩ := h; ⟨o, hle.at_ 0 o h1, h2⟩
theorem gh_of {W : World} (h : GG W) : GH (snap W) := by
 unfold GG at h
 have h1 := h
 unfold World.cell? at h1
 split at h1
 · rename_i c1 T fz hh
   refine ⟨_, hh, fun w hw => ?_⟩
   show w.cell? _ = _
   unfold World.cell?
   rw [hw]; exact h1
 · cases h1
def errN (e : Option Int) : Int := e.getD 0
theorem num13.calls {H : Hp} {L : Items} {e : Option Int} (hG : GH H) (he : some (errN e) = some (errN e)) : Ct Tryd.prog 13 ⟨[errV 99 e]⟩ H L (fun v H' L' => L = L' ∧ H = H' ∧ v = .int .i64 (errN e)) := Ct.of_calls fun w hw => by
 obtain ⟨o, h1, h2⟩ := hG
 have hg := h2 w (hw.good 0 o h1)
 have this : Calls Tryd.prog 13 #[errV 99 e] w fun ev w' => ev = .returned (.int .i64 (e.getD 0)) ∧ Below w.heap.size w w' := by
  cases e with
  | none => exact num13_any none w hg
  | some c => exact num13_any (some c) w hg
 refine this.mono ?_
 rintro ev w' ⟨rfl, hb⟩
 exact ⟨_, _, _, rfl, hw.below hb, rfl, rfl, rfl⟩
theorem num25.calls {H : Hp} {L : Items} {e : Option Int} (hG : GH H) (he : some (errN e) = some (errN e)) : Ct Tryd.prog 25 ⟨[errV 99 e]⟩ H L (fun v H' L' => L = L' ∧ H = H' ∧ v = .int .i64 (errN e)) := Ct.of_calls fun w hw => by
 obtain ⟨o, h1, h2⟩ := hG
 have hg := h2 w (hw.good 0 o h1)
 have this : Calls Tryd.prog 25 #[errV 99 e] w fun ev w' => ev = .returned (.int .i64 (e.getD 0)) ∧ Below w.heap.size w w' := by
  cases e with
  | none => exact num25_any none w hg
  | some c => exact num25_any (some c) w hg
 refine this.mono ?_
 rintro ev w' ⟨rfl, hb⟩
 exact ⟨_, _, _, rfl, hw.below hb, rfl, rfl, rfl⟩
theorem num35.calls {H : Hp} {L : Items} {e : Option Int} (hG : GH H) (he : some (errN e) = some (errN e)) : Ct Tryd.prog 35 ⟨[errV 99 e]⟩ H L (fun v H' L' => L = L' ∧ H = H' ∧ v = .int .i64 (errN e)) := Ct.of_calls fun w hw => by
 obtain ⟨o, h1, h2⟩ := hG
 have hg := h2 w (hw.good 0 o h1)
 have this : Calls Tryd.prog 35 #[errV 99 e] w fun ev w' => ev = .returned (.int .i64 (e.getD 0)) ∧ Below w.heap.size w w' := by
  cases e with
  | none => exact num35_any none w hg
  | some c => exact num35_any (some c) w hg
 refine this.mono ?_
 rintro ev w' ⟨rfl, hb⟩
 exact ⟨_, _, _, rfl, hw.below hb, rfl, rfl, rfl⟩

end Go.Proofs.YtoijknggnlbopaaDoor.GCP
