/- Numbers held against one another by their texts. -/
import Derived.Test.YtmnhbbckndlnkaaGreatDoorPureW11L02
namespace Go.Proofs.YtmnhbbckndlnkaaGreatDoor.Pure
open Go.RowKit Go.Proofs.YtmnhbbckndlnkaaGreatDoorK Go.Proofs.YtmnhbbckndlnkaaGreatDoor.GRN
set_option linter.unusedVariables false
set_option linter.unusedSimpArgs false
namespace L02
theorem is_ev {x : Int} (hl : Ln x < 1000000) (hw : Wl x < 1000000) : Ev (fun k => radomelaw02_is.f k (Wb x) (Nb x)) true := by
  unfold radomelaw02_is.f
  have eta : ∀ y : Int, (⟨(Nb y).f_Neg, (Nb y).f_D⟩ : radomeref01_Num) = Nb y := fun _ => rfl
  simp only [eta, Wb_eta]
  have := Ev.bind (K := fun k (y3 : ByteArray) => (radomeref01_Text.f k (Nb x)).bind fun y9 => some (decide (y3 = y9))) (WText_ev hl hw) (Ev.bind (RText_ev hl) Ev.now)
  simpa using this
theorem sure_ev : Ev (fun k => radomelaw02_sure.f k) true := Ev.of (radomelaw02_sure.mono) (k := 400) (by decide +kernel)
end L02
end Go.Proofs.YtmnhbbckndlnkaaGreatDoor.Pure
