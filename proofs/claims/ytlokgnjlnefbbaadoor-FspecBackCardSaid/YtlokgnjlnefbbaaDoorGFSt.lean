/- A text of this session, written by a program (wip/k/gen.py): Go functions as Lean functions, and proofs that the code comes to them. -/
import Derived.Test.YtlokgnjlnefbbaaDoorK8
import Derived.Test.YtlokgnjlnefbbaaDoorAs
namespace Go.Proofs.YtlokgnjlnefbbaaDoor.GFS
open Go Go.RowKit Go.Proofs.YtlokgnjlnefbbaaDoorK Go.Proofs.YtlokgnjlnefbbaaDoor
set_option linter.unusedVariables false
set_option linter.unusedSimpArgs false
def str_0 : ByteArray := ⟨#[129, 64]⟩
structure fspec_Head where
 f_Items : List Int
 f_Bytes : Int
instance : Inhabited fspec_Head := ⟨⟨[], 0⟩⟩
def k_fspec_Head : Kd fspec_Head := Kd.map (fun s => (s.f_Items, s.f_Bytes)) (Kd.pair (Kd.slice (Kd.int .i64)) (Kd.int .i64))
theorem k_fspec_Head_out {H : Hp} {cs : List Value} {x : fspec_Head} (h : k_fspec_Head.rep H cs x) : ∃ v0, cs = [v0, .int .i64 x.f_Bytes] ∧ Ro (Kd.int .i64) H v0 x.f_Items := by
 obtain ⟨_, _, rfl, ⟨v0, rfl, h0⟩, rfl⟩ := (show ((Kd.pair (Kd.slice (Kd.int .i64)) (Kd.int .i64))).rep H cs ((x.f_Items, x.f_Bytes)) from h)
 exact ⟨v0, rfl, h0⟩
theorem k_fspec_Head_in {H : Hp} {v0 : Value} {x : fspec_Head} (h0 : Ro (Kd.int .i64) H v0 x.f_Items) : k_fspec_Head.rep H [v0, .int .i64 x.f_Bytes] x :=
 (show ((Kd.pair (Kd.slice (Kd.int .i64)) (Kd.int .i64))).rep H _ ((x.f_Items, x.f_Bytes)) from ⟨[v0], [.int .i64 x.f_Bytes], rfl, ⟨v0, rfl, h0⟩, rfl⟩)
theorem ty3 : TyA Tryd.prog 3 false 1 := ⟨⟨_, Tryd.underlying3, rfl⟩, by kernel_rfl⟩
theorem sz3 : (Tryd.prog.info? 3).map (·.size) = some 1 := by kernel_rfl
theorem zr3 : (Tryd.prog.info? 3).bind (·.zero) = some (.int .i64 0) := by kernel_rfl
theorem ti3 : TI Tryd.prog 3 1 8 (.int .i64 0) := ⟨by kernel_rfl⟩
theorem zp3 (H : Hp) : ((Kd.int .i64)).rep H (Value.cells (.int .i64 0)).toList 0 := rfl
theorem ty5 : TyA Tryd.prog 5 false 1 := ⟨⟨_, Tryd.underlying5, rfl⟩, by kernel_rfl⟩
theorem sz5 : (Tryd.prog.info? 5).map (·.size) = some 1 := by kernel_rfl
theorem zr5 : (Tryd.prog.info? 5).bind (·.zero) = some (.int .u8 0) := by kernel_rfl
theorem ti5 : TI Tryd.prog 5 1 1 (.int .u8 0) := ⟨by kernel_rfl⟩
theorem zp5 (H : Hp) : ((Kd.int .u8)).rep H (Value.cells (.int .u8 0)).toList 0 := rfl
theorem ty41 : TyA Tryd.prog 41 false 1 := ⟨⟨_, Tryd.underlying41, rfl⟩, by kernel_rfl⟩
theorem sz41 : (Tryd.prog.info? 41).map (·.size) = some 1 := by kernel_rfl
theorem zr41 : (Tryd.prog.info? 41).bind (·.zero) = some (.slice none 0 0) := by kernel_rfl
theorem ti41 : TI Tryd.prog 41 1 24 (.slice none 0 0) := ⟨by kernel_rfl⟩
theorem zp41 (H : Hp) : ((Kd.slice (Kd.int .i64))).rep H (Value.cells (.slice none 0 0)).toList [] := ⟨_, rfl, ro_nil _ _⟩
theorem ty43 : TyA Tryd.prog 43 true 2 := ⟨⟨_, Tryd.underlying43, rfl⟩, by kernel_rfl⟩
theorem sz43 : (Tryd.prog.info? 43).map (·.size) = some 2 := by kernel_rfl
theorem zr43 : (Tryd.prog.info? 43).bind (·.zero) = some (.agg #[.slice none 0 0, .int .i64 0]) := by kernel_rfl
theorem ti43 : TI Tryd.prog 43 2 32 (.agg #[.slice none 0 0, .int .i64 0]) := ⟨by kernel_rfl⟩
theorem zp43 (H : Hp) : (k_fspec_Head).rep H (Value.cells (.agg #[.slice none 0 0, .int .i64 0])).toList (⟨[], 0⟩ : fspec_Head) := k_fspec_Head_in (x := (⟨[], 0⟩ : fspec_Head)) (ro_nil _ _)
theorem co16 : CallOk Tryd.prog 16 := ⟨_, Tryd.func16, by decide, rfl⟩
theorem co17 : CallOk Tryd.prog 17 := ⟨_, Tryd.func17, by decide, rfl⟩
theorem co18 : CallOk Tryd.prog 18 := ⟨_, Tryd.func18, by decide, rfl⟩
theorem co19 : CallOk Tryd.prog 19 := ⟨_, Tryd.func19, by decide, rfl⟩
theorem co20 : CallOk Tryd.prog 20 := ⟨_, Tryd.func20, by decide, rfl⟩
theorem co21 : CallOk Tryd.prog 21 := ⟨_, Tryd.func21, by decide, rfl⟩
theorem co22 : CallOk Tryd.prog 22 := ⟨_, Tryd.func22, by decide, rfl⟩
theorem co23 : CallOk Tryd.prog 23 := ⟨_, Tryd.func23, by decide, rfl⟩
theorem co43 : CallOk Tryd.prog 43 := ⟨_, Tryd.func43, by decide, rfl⟩
theorem co44 : CallOk Tryd.prog 44 := ⟨_, Tryd.func44, by decide, rfl⟩
theorem co62 : CallOk Tryd.prog 62 := ⟨_, Tryd.func62, by decide, rfl⟩
theorem fn_18 : Tryd.prog.funcs[18]? = some Tryd.f18 := Tryd.func18
theorem rs_18 : Tryd.f18.results = ⟨[.tmp 2, .tmp 3]⟩ := rfl
theorem nt_18 : Tryd.f18.ntmps = 69 := rfl
theorem fn_43 : Tryd.prog.funcs[43]? = some Tryd.f43 := Tryd.func43
theorem rs_43 : Tryd.f43.results = ⟨[.tmp 4]⟩ := rfl
theorem nt_43 : Tryd.f43.ntmps = 25 := rfl
theorem fn_16 : Tryd.prog.funcs[16]? = some Tryd.f16 := Tryd.func16
theorem rs_16 : Tryd.f16.results = ⟨[.cell 4 43, .tmp 5]⟩ := rfl
theorem nt_16 : Tryd.f16.ntmps = 58 := rfl
theorem fn_22 : Tryd.prog.funcs[22]? = some Tryd.f22 := Tryd.func22
theorem rs_22 : Tryd.f22.results = ⟨[.tmp 4]⟩ := rfl
theorem nt_22 : Tryd.f22.ntmps = 26 := rfl
theorem fn_62 : Tryd.prog.funcs[62]? = some Tryd.f62 := Tryd.func62
theorem rs_62 : Tryd.f62.results = ⟨[.tmp 4]⟩ := rfl
theorem nt_62 : Tryd.f62.ntmps = 19 := rfl
theorem fn_44 : Tryd.prog.funcs[44]? = some Tryd.f44 := Tryd.func44
theorem rs_44 : Tryd.f44.results = ⟨[.tmp 4]⟩ := rfl
theorem nt_44 : Tryd.f44.ntmps = 9 := rfl
theorem fn_21 : Tryd.prog.funcs[21]? = some Tryd.f21 := Tryd.func21
theorem rs_21 : Tryd.f21.results = ⟨[.tmp 4]⟩ := rfl
theorem nt_21 : Tryd.f21.ntmps = 9 := rfl
theorem fn_20 : Tryd.prog.funcs[20]? = some Tryd.f20 := Tryd.func20
theorem rs_20 : Tryd.f20.results = ⟨[.tmp 0]⟩ := rfl
theorem nt_20 : Tryd.f20.ntmps = 46 := rfl
theorem fn_5 : Tryd.prog.funcs[5]? = some Tryd.f5 := Tryd.func5
theorem rs_5 : Tryd.f5.results = ⟨[.tmp 4]⟩ := rfl
theorem nt_5 : Tryd.f5.ntmps = 114 := rfl
theorem fn_17 : Tryd.prog.funcs[17]? = some Tryd.f17 := Tryd.func17
theorem rs_17 : Tryd.f17.results = ⟨[.tmp 4, .tmp 5, .tmp 6]⟩ := rfl
theorem nt_17 : Tryd.f17.ntmps = 62 := rfl
theorem fn_19 : Tryd.prog.funcs[19]? = some Tryd.f19 := Tryd.func19
theorem rs_19 : Tryd.f19.results = ⟨[.tmp 2, .tmp 3]⟩ := rfl
theorem nt_19 : Tryd.f19.ntmps = 78 := rfl
theorem fn_4 : Tryd.prog.funcs[4]? = some Tryd.f4 := Tryd.func4
theorem rs_4 : Tryd.f4.results = ⟨[.tmp 6]⟩ := rfl
theorem nt_4 : Tryd.f4.ntmps = 102 := rfl
theorem mixed : Tryd.prog.follows .mixedOrders = true := by kernel_rfl
def GH (H : Hp) : Prop := ∃ o, H.at_ 0 = some o ∧ ∀ w : World, w.heap[0]? = some o → GG w
theorem GH.mono {H H' : Hp} (h : GH H) (hle : H.le H') : GH H' := let ⟨o, h1, h2⟩ := h; ⟨o, hle.at_ 0 o h1, h2⟩
theorem gh_of {W : World} (h : GG W) : GH (snap W) := by
 unfold GG at h
 have h1 := h
 unfold World.cell? at h1
 split at h1
 · rename_i c1 T fz hh
   refine ⟨_, hh, fun w hw => ?_⟩
   show w.cell? _ = _
   unfold World.cell?
   rw [hw]; exact h1
 · cases h1
def errN (e : Option Int) : Int := e.getD 0
theorem num12.calls {H : Hp} {L : Items} {e : Option Int} (hG : GH H) (he : some (errN e) = some (errN e)) : Ct Tryd.prog 12 ⟨[errV 73 e]⟩ H L (fun v H' L' => L = L' ∧ H = H' ∧ v = .int .i64 (errN e)) := Ct.of_calls fun w hw => by
 obtain ⟨o, h1, h2⟩ := hG
 have hg := h2 w (hw.good 0 o h1)
 have this : Calls Tryd.prog 12 #[errV 73 e] w fun ev w' => ev = .returned (.int .i64 (e.getD 0)) ∧ Below w.heap.size w w' := by
  cases e with
  | none => exact num12_any none w hg
  | some c => exact num12_any (some c) w hg
 refine this.mono ?_
 rintro ev w' ⟨rfl, hb⟩
 exact ⟨_, _, _, rfl, hw.below hb, rfl, rfl, rfl⟩
theorem num23.calls {H : Hp} {L : Items} {e : Option Int} (hG : GH H) (he : some (errN e) = some (errN e)) : Ct Tryd.prog 23 ⟨[errV 73 e]⟩ H L (fun v H' L' => L = L' ∧ H = H' ∧ v = .int .i64 (errN e)) := Ct.of_calls fun w hw => by
 obtain ⟨o, h1, h2⟩ := hG
 have hg := h2 w (hw.good 0 o h1)
 have this : Calls Tryd.prog 23 #[errV 73 e] w fun ev w' => ev = .returned (.int .i64 (e.getD 0)) ∧ Below w.heap.size w w' := by
  cases e with
  | none => exact num23_any none w hg
  | some c => exact num23_any (some c) w hg
 refine this.mono ?_
 rintro ev w' ⟨rfl, hb⟩
 exact ⟨_, _, _, rfl, hw.below hb, rfl, rfl, rfl⟩
theorem num28.calls {H : Hp} {L : Items} {e : Option Int} (hG : GH H) (he : some (errN e) = some (errN e)) : Ct Tryd.prog 28 ⟨[errV 73 e]⟩ H L (fun v H' L' => L = L' ∧ H = H' ∧ v = .int .i64 (errN e)) := Ct.of_calls fun w hw => by
 obtain ⟨o, h1, h2⟩ := hG
 have hg := h2 w (hw.good 0 o h1)
 have this : Calls Tryd.prog 28 #[errV 73 e] w fun ev w' => ev = .returned (.int .i64 (e.getD 0)) ∧ Below w.heap.size w w' := by
  cases e with
  | none => exact num28_any none w hg
  | some c => exact num28_any (some c) w hg
 refine this.mono ?_
 rintro ev w' ⟨rfl, hb⟩
 exact ⟨_, _, _, rfl, hw.below hb, rfl, rfl, rfl⟩
end Go.Proofs.YtlokgnjlnefbbaaDoor.GFS
