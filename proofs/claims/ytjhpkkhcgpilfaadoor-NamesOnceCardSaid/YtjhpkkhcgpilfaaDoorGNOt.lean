/- printed by gen.py -/
import Derived.Test.YtjhpkkhcgpilfaaDoorGNOk13
import Derived.Test.YtjhpkkhcgpilfaaDoorAs
namespace Go.Proofs.YtjhpkkhcgpilfaaDoor.GNO
open Go Go.RowKit Go.Proofs.YtjhpkkhcgpilfaaDoorK Go.Proofs.YtjhpkkhcgpilfaaDoor
set_option linter.unusedVariables false
set_option linter.unusedSimpArgs false
structure atomic_Int64 where
 f_v : Int
instance : Inhabited atomic_Int64 := ⟨⟨0⟩⟩
def k_atomic_Int64 : Kd atomic_Int64 := Kd.map (fun s => s.f_v) kI64
theorem k_atomic_Int64_out {H : Hp} {cs : List Value} {x : atomic_Int64} (h : k_atomic_Int64.rep H cs x) : cs = [.int .i64 x.f_v] := by
 obtain rfl := (show (kI64).rep H cs (x.f_v) from h)
 rfl
theorem k_atomic_Int64_in {H : Hp} {x : atomic_Int64} : k_atomic_Int64.rep H [.int .i64 x.f_v] x :=
 (show (kI64).rep H _ (x.f_v) from rfl)
structure names_Names where
 f_from : Int
 f_to : Int
 f_given : atomic_Int64
instance : Inhabited names_Names := ⟨⟨0, 0, (⟨0⟩ : atomic_Int64)⟩⟩
def k_names_Names : Kd names_Names := Kd.map (fun s => (s.f_from, (s.f_to, s.f_given))) (Kd.pair kI64 (Kd.pair kI64 k_atomic_Int64))
theorem k_names_Names_out {H : Hp} {cs : List Value} {x : names_Names} (h : k_names_Names.rep H cs x) : cs = [.int .i64 x.f_from, .int .i64 x.f_to, .int .i64 x.f_given.f_v] := by
 obtain ⟨_, _, rfl, rfl, ⟨_, _, rfl, rfl, q1⟩⟩ := (show ((Kd.pair kI64 (Kd.pair kI64 k_atomic_Int64))).rep H cs ((x.f_from, (x.f_to, x.f_given))) from h)
 obtain ⟨rfl⟩ := k_atomic_Int64_out q1
 rfl
theorem k_names_Names_in {H : Hp} {x : names_Names} : k_names_Names.rep H [.int .i64 x.f_from, .int .i64 x.f_to, .int .i64 x.f_given.f_v] x :=
 (show ((Kd.pair kI64 (Kd.pair kI64 k_atomic_Int64))).rep H _ ((x.f_from, (x.f_to, x.f_given))) from ⟨[.int .i64 x.f_from], [.int .i64 x.f_to, .int .i64 x.f_given.f_v], rfl, rfl, ⟨[.int .i64 x.f_to], [.int .i64 x.f_given.f_v], rfl, rfl, (k_atomic_Int64_in)⟩⟩)
theorem ty2 : TyA Tryd.prog 2 false 1 := ⟨⟨_, Tryd.underlying2, rfl⟩, by kernel_rfl⟩
theorem sz2 : (Tryd.prog.info? 2).map (·.size) = some 1 := by kernel_rfl
theorem zr2 : (Tryd.prog.info? 2).bind (·.zero) = some (.int .i64 0) := by kernel_rfl
theorem ti2 : TI Tryd.prog 2 1 8 (.int .i64 0) := ⟨by kernel_rfl⟩
theorem zp2 (H : Hp) : (kI64).rep H (Value.cells (.int .i64 0)).toList 0 := rfl
theorem ty111 : TyA Tryd.prog 111 true 1 := ⟨⟨_, Tryd.underlying111, rfl⟩, by kernel_rfl⟩
theorem sz111 : (Tryd.prog.info? 111).map (·.size) = some 1 := by kernel_rfl
theorem zr111 : (Tryd.prog.info? 111).bind (·.zero) = some (.agg #[.int .i64 0]) := by kernel_rfl
theorem ti111 : TI Tryd.prog 111 1 8 (.agg #[.int .i64 0]) := ⟨by kernel_rfl⟩
theorem zp111 (H : Hp) : (k_atomic_Int64).rep H (Value.cells (.agg #[.int .i64 0])).toList (⟨0⟩ : atomic_Int64) := k_atomic_Int64_in (x := ⟨0⟩)
theorem ty113 : TyA Tryd.prog 113 true 3 := ⟨⟨_, Tryd.underlying113, rfl⟩, by kernel_rfl⟩
theorem sz113 : (Tryd.prog.info? 113).map (·.size) = some 3 := by kernel_rfl
theorem zr113 : (Tryd.prog.info? 113).bind (·.zero) = some (.agg #[.int .i64 0, .int .i64 0, .int .i64 0]) := by kernel_rfl
theorem ti113 : TI Tryd.prog 113 3 24 (.agg #[.int .i64 0, .int .i64 0, .int .i64 0]) := ⟨by kernel_rfl⟩
theorem zp113 (H : Hp) : (k_names_Names).rep H (Value.cells (.agg #[.int .i64 0, .int .i64 0, .int .i64 0])).toList (⟨0, 0, (⟨0⟩ : atomic_Int64)⟩ : names_Names) := k_names_Names_in (x := ⟨0, 0, ⟨0⟩⟩)
theorem co9 : CallOk Tryd.prog 9 := ⟨_, Tryd.func9, by decide, rfl⟩
theorem co10 : CallOk Tryd.prog 10 := ⟨_, Tryd.func10, by decide, rfl⟩
theorem co11 : CallOk Tryd.prog 11 := ⟨_, Tryd.func11, by decide, rfl⟩
theorem co12 : CallOk Tryd.prog 12 := ⟨_, Tryd.func12, by decide, rfl⟩
theorem co13 : CallOk Tryd.prog 13 := ⟨_, Tryd.func13, by decide, rfl⟩
theorem co14 : CallOk Tryd.prog 14 := ⟨_, Tryd.func14, by decide, rfl⟩
theorem co16 : CallOk Tryd.prog 16 := ⟨_, Tryd.func16, by decide, rfl⟩
theorem co49 : CallOk Tryd.prog 49 := ⟨_, Tryd.func49, by decide, rfl⟩
theorem co50 : CallOk Tryd.prog 50 := ⟨_, Tryd.func50, by decide, rfl⟩
theorem fn_4 : Tryd.prog.funcs[4]? = some Tryd.f4 := Tryd.func4
theorem rs_4 : Tryd.f4.results = ⟨[.tmp 4]⟩ := rfl
theorem nt_4 : Tryd.f4.ntmps = 94 := rfl
theorem fn_9 : Tryd.prog.funcs[9]? = some Tryd.f9 := Tryd.func9
theorem rs_9 : Tryd.f9.results = ⟨[.tmp 2, .tmp 3]⟩ := rfl
theorem nt_9 : Tryd.f9.ntmps = 37 := rfl
theorem fn_11 : Tryd.prog.funcs[11]? = some Tryd.f11 := Tryd.func11
theorem rs_11 : Tryd.f11.results = ⟨[.tmp 2]⟩ := rfl
theorem nt_11 : Tryd.f11.ntmps = 9 := rfl
theorem fn_12 : Tryd.prog.funcs[12]? = some Tryd.f12 := Tryd.func12
theorem rs_12 : Tryd.f12.results = ⟨[.tmp 2]⟩ := rfl
theorem nt_12 : Tryd.f12.ntmps = 18 := rfl
theorem fn_13 : Tryd.prog.funcs[13]? = some Tryd.f13 := Tryd.func13
theorem rs_13 : Tryd.f13.results = ⟨[.tmp 4]⟩ := rfl
theorem nt_13 : Tryd.f13.ntmps = 26 := rfl
theorem fn_14 : Tryd.prog.funcs[14]? = some Tryd.f14 := Tryd.func14
theorem rs_14 : Tryd.f14.results = ⟨[.tmp 4, .tmp 5]⟩ := rfl
theorem nt_14 : Tryd.f14.ntmps = 22 := rfl
theorem fn_16 : Tryd.prog.funcs[16]? = some Tryd.f16 := Tryd.func16
theorem rs_16 : Tryd.f16.results = ⟨[.tmp 0]⟩ := rfl
theorem nt_16 : Tryd.f16.ntmps = 72 := rfl
theorem fn_49 : Tryd.prog.funcs[49]? = some Tryd.f49 := Tryd.func49
theorem rs_49 : Tryd.f49.results = ⟨[.tmp 2]⟩ := rfl
theorem nt_49 : Tryd.f49.ntmps = 7 := rfl
theorem fn_50 : Tryd.prog.funcs[50]? = some Tryd.f50 := Tryd.func50
theorem rs_50 : Tryd.f50.results = ⟨[.tmp 6]⟩ := rfl
theorem nt_50 : Tryd.f50.ntmps = 13 := rfl
theorem mixed : Tryd.prog.follows .mixedOrders = true := by kernel_rfl
def GH (H : Hp) : Prop := ∃ o, H.at_ 0 = some o ∧ ∀ w : World, w.heap[0]? = some o → GG w
theorem GH.mono {H H' : Hp} (h : GH H) (hle : H.le H') : GH H' := let ⟨o, h1, h2⟩ := h; ⟨o, hle.at_ 0 o h1, h2⟩
theorem gh_of {W : World} (h : GG W) : GH (snap W) := by
 unfold GG at h
 have h1 := h
 unfold World.cell? at h1
 split at h1
 · rename_i c1 T fz hh
   refine ⟨_, hh, fun w hw => ?_⟩
   show w.cell? _ = _
   unfold World.cell?
   rw [hw]; exact h1
 · cases h1
def errN (e : Option Int) : Int := e.getD 0
theorem num10.calls {H : Hp} {L : Items} {e : Option Int} (hG : GH H) (he : some (errN e) = some (errN e)) : Ct Tryd.prog 10 ⟨[errV 106 e]⟩ H L (fun v H' L' => L = L' ∧ H = H' ∧ v = .int .i64 (errN e)) := Ct.of_calls fun w hw => by
 obtain ⟨o, h1, h2⟩ := hG
 have hg := h2 w (hw.good 0 o h1)
 have this : Calls Tryd.prog 10 #[errV 106 e] w fun ev w' => ev = .returned (.int .i64 (e.getD 0)) ∧ Below w.heap.size w w' := by
  cases e with
  | none => exact num10_any none w hg
  | some c => exact num10_any (some c) w hg
 refine this.mono ?_
 rintro ev w' ⟨rfl, hb⟩
 exact ⟨_, _, _, rfl, hw.below hb, rfl, rfl, rfl⟩
theorem num19.calls {H : Hp} {L : Items} {e : Option Int} (hG : GH H) (he : some (errN e) = some (errN e)) : Ct Tryd.prog 19 ⟨[errV 106 e]⟩ H L (fun v H' L' => L = L' ∧ H = H' ∧ v = .int .i64 (errN e)) := Ct.of_calls fun w hw => by
 obtain ⟨o, h1, h2⟩ := hG
 have hg := h2 w (hw.good 0 o h1)
 have this : Calls Tryd.prog 19 #[errV 106 e] w fun ev w' => ev = .returned (.int .i64 (e.getD 0)) ∧ Below w.heap.size w w' := by
  cases e with
  | none => exact num19_any none w hg
  | some c => exact num19_any (some c) w hg
 refine this.mono ?_
 rintro ev w' ⟨rfl, hb⟩
 exact ⟨_, _, _, rfl, hw.below hb, rfl, rfl, rfl⟩
theorem num33.calls {H : Hp} {L : Items} {e : Option Int} (hG : GH H) (he : some (errN e) = some (errN e)) : Ct Tryd.prog 33 ⟨[errV 106 e]⟩ H L (fun v H' L' => L = L' ∧ H = H' ∧ v = .int .i64 (errN e)) := Ct.of_calls fun w hw => by
 obtain ⟨o, h1, h2⟩ := hG
 have hg := h2 w (hw.good 0 o h1)
 have this : Calls Tryd.prog 33 #[errV 106 e] w fun ev w' => ev = .returned (.int .i64 (e.getD 0)) ∧ Below w.heap.size w w' := by
  cases e with
  | none => exact num33_any none w hg
  | some c => exact num33_any (some c) w hg
 refine this.mono ?_
 rintro ev w' ⟨rfl, hb⟩
 exact ⟨_, _, _, rfl, hw.below hb, rfl, rfl, rfl⟩
theorem ext71 : ExtOk Tryd.prog 71 (Extern.Atomic.loadT (.int .i64)) := ⟨_, Tryd.func71, by decide, rfl, by kernel_rfl, by kernel_rfl⟩
theorem at49.calls {H : Hp} {L : Items} {b off : Nat} {x : Int} (hl : Lies H L ⟨b, off, none⟩ [.int .i64 x]) : Ct Tryd.prog 49 ⟨[.pointer (some ⟨b, off, none⟩)]⟩ H L (fun v H' L' => L = L' ∧ H = H' ∧ v = .int .i64 x) := by
 refine ct_outs (O := fun _ v => v = .int .i64 x) (fun _ _ h => h) <| ct_enter (args := [.pointer (some ⟨b, off, none⟩)]) fn_49 rfl nt_49 rfl <| wR rfl <| wA (.int .i64 0) rfl rfl <| wQ rfl <| wM (.pointer (some ⟨b, off, none⟩)) rfl rfl <| w_d rfl (d_nilCheck (p := ⟨b, off, none⟩) rfl) <| w_d rfl (d_fld (o' := off) Tryd.underlying111 rfl sz2 rfl rfl rfl) <| w_d rfl (d_aload ext71 rfl hl) ?_
 refine wA (.int .i64 x) rfl rfl <| w_done <| w_return fn_49 rs_49 (.tmp (v := .int .i64 x) rfl .nil) <| ⟨⟨[], rfl⟩, .refl _, rfl⟩
theorem ext72 : ExtOk Tryd.prog 72 (Extern.Atomic.casT (.int .i64)) := ⟨_, Tryd.func72, by decide, rfl, by kernel_rfl, by kernel_rfl⟩
theorem at50.calls {H : Hp} {L L1 : Items} {b off : Nat} {cs cs' : List Value} {T : TypeId} {c old new z : Int} (hu : Upd L (some (b, .cells ⟨cs⟩ T (0, 0))) (some (b, .cells ⟨cs'⟩ T (0, 0))) L1) (hc : cs[off]? = some (.int .i64 c)) (hz : z = if c = old then new else c) (hs : SetL cs off [.int .i64 z] cs') : Ct Tryd.prog 50 ⟨[.pointer (some ⟨b, off, none⟩), .int .i64 old, .int .i64 new]⟩ H L (fun v H' L' => v = .bool (decide (c = old)) ∧ H = H' ∧ L' = L1) := by
 subst hz
 refine ct_enter (args := [.pointer (some ⟨b, off, none⟩), .int .i64 old, .int .i64 new]) fn_50 rfl nt_50 rfl <| wR rfl <| wA (.bool false) rfl rfl <| wQ rfl <| wM (.pointer (some ⟨b, off, none⟩)) rfl rfl <| w_d rfl (d_nilCheck (p := ⟨b, off, none⟩) rfl) <| w_d rfl (d_fld (o' := off) Tryd.underlying111 rfl sz2 rfl rfl rfl) <| wM (.int .i64 old) rfl rfl <| wM (.int .i64 new) rfl rfl ?_
 refine w_a rfl (o_acas ext72 rfl rfl rfl hu hc hs) ?_
 rintro _ _ _ ⟨rfl, rfl, rfl⟩
 refine wA (.bool (decide (c = old))) rfl rfl <| w_done <| w_return fn_50 rs_50 (.tmp (v := .bool (decide (c = old))) rfl .nil) <| ⟨rfl, rfl, rfl⟩
end Go.Proofs.YtjhpkkhcgpilfaaDoor.GNO
