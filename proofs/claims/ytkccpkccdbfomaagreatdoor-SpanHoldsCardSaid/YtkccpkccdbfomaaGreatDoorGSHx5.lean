/- printed by gen.py -/
import Derived.Test.YtkccpkccdbfomaaGreatDoorGSHx4
namespace Go.Proofs.YtkccpkccdbfomaaGreatDoor.GSH
open Go Go.RowKit Go.Proofs.YtkccpkccdbfomaaGreatDoorK Go.Proofs.YtkccpkccdbfomaaGreatDoor
set_option maxRecDepth 100000
set_option maxHeartbeats 2000000
set_option linter.unusedVariables false
set_option linter.unusedSimpArgs false
noncomputable def ratio_Ratio_cross.C : Code := (Tryz.f106.body).getD .skip
def ratio_Ratio_cross.out (r : wide_Int × wide_Int × (Option Int)) (H : Hp) (v : Value) : Prop := ∃ v0, ∃ v1, v = .tuple ⟨[.agg ⟨[.bool r.1.f_neg, v0]⟩, .agg ⟨[.bool r.2.1.f_neg, v1]⟩, errV 104 r.2.2]⟩ ∧ Ro kU32 H v0 r.1.f_w ∧ Ro kU32 H v1 r.2.1.f_w
theorem ratio_Ratio_cross.out_mono (r : wide_Int × wide_Int × (Option Int)) {H H' : Hp} {v : Value} (hle : H.le H') (h : ratio_Ratio_cross.out r H v) : ratio_Ratio_cross.out r H' v := by
 obtain ⟨v0, v1, rfl, h0, h1⟩ := h; exact ⟨v0, v1, rfl, h0.mono hle, h1.mono hle⟩
noncomputable def ratio_Ratio_cross.f (k : Nat) (a : ratio_Ratio) (b : ratio_Ratio) : Option (wide_Int × wide_Int × (Option Int)) := (ratio_Ratio_under.f k b).bind fun y5 => (wide_Int_Mul.f k a.f_n y5).bind fun y11 => if y11.2.isSome = true then (some (y11.1, y11.1, y11.2)) else ((ratio_Ratio_under.f k a).bind fun y31 => (wide_Int_Mul.f k b.f_n y31).bind fun y37 => some (y11.1, y37.1, y37.2))
theorem ratio_Ratio_cross.mono : ∀ k y0 y1, LeO (ratio_Ratio_cross.f k y0 y1) (ratio_Ratio_cross.f (k + 1) y0 y1) := fun k _ _ => by unfold ratio_Ratio_cross.f; exact (LeO.bind (ratio_Ratio_under.mono k _) fun _ => LeO.bind (wide_Int_Mul.mono k _ _) fun _ => LeO.ite (LeO.refl _) (LeO.bind (ratio_Ratio_under.mono k _) fun _ => LeO.bind (wide_Int_Mul.mono k _ _) fun _ => LeO.refl _))
theorem ratio_Ratio_cross.calls (k : Nat) {H : Hp} {L : Items} {a : ratio_Ratio} {b : ratio_Ratio} {v0_a : Value} {v1_a : Value} {v2_b : Value} {v3_b : Value} {r : wide_Int × wide_Int × (Option Int)} (he : ratio_Ratio_cross.f k a b = some r) (h0_a : Ro kU32 H v0_a a.f_n.f_w) (h1_a : Ro kU32 H v1_a a.f_d.f_w) (h2_b : Ro kU32 H v2_b b.f_n.f_w) (h3_b : Ro kU32 H v3_b b.f_d.f_w) : Ct Tryz.prog 106 ⟨[.agg ⟨[.bool a.f_n.f_neg, v0_a, .bool a.f_d.f_neg, v1_a]⟩, .agg ⟨[.bool b.f_n.f_neg, v2_b, .bool b.f_d.f_neg, v3_b]⟩]⟩ H L (cR H L (ratio_Ratio_cross.out r)) := by
 refine ct_out (O := ratio_Ratio_cross.out r) ?_
 have hle : H.le H := .refl _
 unfold ratio_Ratio_cross.f at he
 refine ct_enter (args := [.agg ⟨[.bool a.f_n.f_neg, v0_a, .bool a.f_d.f_neg, v1_a]⟩, .agg ⟨[.bool b.f_n.f_neg, v2_b, .bool b.f_d.f_neg, v3_b]⟩]) fn_106 rfl nt_106 rfl <| wR rfl <| w_a rfl (o_box (v := .agg ⟨[.bool a.f_n.f_neg, v0_a, .bool a.f_d.f_neg, v1_a]⟩) rfl rfl) ?_
 rintro _ _ _ ⟨b1, rfl, rfl, rfl⟩
 refine w_a rfl (o_box (v := .agg ⟨[.bool b.f_n.f_neg, v2_b, .bool b.f_d.f_neg, v3_b]⟩) rfl rfl) ?_
 rintro _ _ _ ⟨b2, rfl, rfl, rfl⟩
 refine w_a rfl (o_alloc zr24 rfl) ?_
 rintro _ _ _ ⟨b3, rfl, rfl, rfl⟩
 refine w_a rfl (o_alloc zr24 rfl) ?_
 rintro _ _ _ ⟨b4, rfl, rfl, rfl⟩
 refine wA (errV 104 none) rfl rfl <| wE ?_
 obtain ⟨y5, hy6, he⟩ := bs he
 obtain ⟨y11, hy12, he⟩ := bs he
 refine w_none (?_)
 refine w_drawn (p := 10) (tl := [10]) [[], [(0, some 11)], [], [(2, some 13)], [(1, some 12), (3, some 14)], [(4, some 15)], [(5, some 10)], [(5, some 10)], [], [(6, some 16), (8, some 7)]] [some 11, some 12, some 13, some 14, some 15, some 10, some 16, some 17, some 7, none] (fctF (.is (.pointer (some ⟨b1, 0, none⟩)) :: .is (.agg ⟨[.bool a.f_n.f_neg, v0_a]⟩) :: .is (.agg ⟨[.bool b.f_n.f_neg, v2_b, .bool b.f_d.f_neg, v3_b]⟩) :: .of (ratio_Ratio_under.out y5) (ratio_Ratio_under.out_mono _) :: .of (wide_Int_Mul.out y11) (wide_Int_Mul.out_mono _) :: .of (fun H v => ∃ v17, v = .tuple ⟨[.agg ⟨[.bool y11.1.f_neg, v17]⟩, errV 104 y11.2]⟩ ∧ Ro kU32 H v17 y11.1.f_w) (by rintro _ _ _ hle ⟨v17, rfl, h18⟩; exact ⟨v17, rfl, h18.mono hle⟩) :: .of (fun H v => ∃ v19, v = .agg ⟨[.bool y11.1.f_neg, v19]⟩ ∧ Ro kU32 H v19 y11.1.f_w) (by rintro _ _ _ hle ⟨v19, rfl, h20⟩; exact ⟨v19, rfl, h20.mono hle⟩) :: .is (errV 104 y11.2) :: .box 24 [.bool false, .slice none 0 0] :: .st 8 (fun H bq_ itq_ => ∃ v22, itq_ = some (bq_, .cells ⟨[.bool y11.1.f_neg, v22]⟩ 24 (0, 0)) ∧ Ro kU32 H v22 y11.1.f_w) (by rintro _ _ _ _ hle ⟨v22, rfl, h23⟩; exact ⟨v22, rfl, h23.mono hle⟩) :: [])) (fun m_ => pk (m_ 9) (m_ 8) :: some (b4, .cells ⟨[.bool false, .slice none 0 0]⟩ 24 (0, 0)) :: some (b3, .cells ⟨[.bool false, .slice none 0 0]⟩ 24 (0, 0)) :: some (b2, .cells ⟨[.bool b.f_n.f_neg, v2_b, .bool b.f_d.f_neg, v3_b]⟩ 26 (0, 0)) :: some (b1, .cells ⟨[.bool a.f_n.f_neg, v0_a, .bool a.f_d.f_neg, v1_a]⟩ 26 (0, 0)) :: L) (fun _ => none) mixed (by kernel_rfl) (by kernel_rfl) rfl (fct_mono (by kernel_rfl)) ⟨(fun H' m_ hH hm_ hu_ => dn <| s_d (m_ 0) rfl (d_fld (o' := 0) Tryz.underlying26 rfl sz24 rfl rfl rfl) (by exact rfl) rfl), (by rintro H' m_ hH hm_ hu_ _ rfl; exact dn <| s_d (m_ 1) rfl (d_loado (v := .agg ⟨[.bool a.f_n.f_neg, v0_a]⟩) ty24 rfl (.there (.there (.there (.there .here)))) rfl rfl rfl rfl) (by exact rfl) rfl), (fun H' m_ hH hm_ hu_ => dn <| s_d (m_ 2) rfl (d_loado (v := .agg ⟨[.bool b.f_n.f_neg, v2_b, .bool b.f_d.f_neg, v3_b]⟩) ty26 rfl (.there (.there (.there .here))) rfl rfl rfl rfl) (by exact rfl) rfl), (by rintro H' m_ hH hm_ hu_ _ rfl; exact dn <| s_k (m_ 3) rfl (o_call co78 (vs := [.agg ⟨[.bool b.f_n.f_neg, v2_b, .bool b.f_d.f_neg, v3_b]⟩]) rfl (ratio_Ratio_under.calls k (a := b) hy6 (h2_b.mono hH) (h3_b.mono hH))) rfl (by rintro v_ H_ _ ⟨rfl, e_, h_⟩; exact ⟨rfl, e_, h_⟩)), (by rintro H' m_ hH hm_ hu_ _ rfl _ ⟨v9, rfl, h10⟩; exact dn <| s_k (m_ 4) rfl (o_call co128 (vs := [.agg ⟨[.bool a.f_n.f_neg, v0_a]⟩, .agg ⟨[.bool y5.f_neg, v9]⟩]) rfl (wide_Int_Mul.calls k (a := a.f_n) (b := y5) hy12 (h0_a.mono hH) h10)) rfl (by rintro v_ H_ _ ⟨rfl, e_, h_⟩; exact ⟨rfl, e_, h_⟩)), (by rintro H' m_ hH hm_ hu_ _ ⟨v15, rfl, h16⟩; exact dn <| s_d (m_ 5) rfl (d_move (v := .tuple ⟨[.agg ⟨[.bool y11.1.f_neg, v15]⟩, errV 104 y11.2]⟩) rfl) (by exact ⟨v15, rfl, h16⟩) rfl), (by rintro H' m_ hH hm_ hu_ _ ⟨v17, rfl, h18⟩; exact dn <| s_d (m_ 6) rfl (d_ext (vs := [.agg ⟨[.bool y11.1.f_neg, v17]⟩, errV 104 y11.2]) rfl rfl) (by exact ⟨v17, rfl, h18⟩) rfl), (by rintro H' m_ hH hm_ hu_ _ ⟨v17, rfl, h18⟩; exact dn <| s_d (m_ 7) rfl (d_ext (vs := [.agg ⟨[.bool y11.1.f_neg, v17]⟩, errV 104 y11.2]) rfl rfl) (by exact rfl) rfl), (fun H' m_ hH hm_ hu_ => dn <| s_box hm_ rfl rfl (o_alloc zr24 rfl) rfl (fun _ => (pk_upd (hu_ 9 (by kernel_rfl)))) (by exact fun b_ => ⟨b_, rfl, rfl⟩)), (by rintro H' m_ hH hm_ hu_ _ ⟨v19, rfl, h20⟩ _ ⟨b21, rfl, hb21_⟩; exact dn <| s_store2 (Λ' := fun z_ => z_ :: some (b4, .cells ⟨[.bool false, .slice none 0 0]⟩ 24 (0, 0)) :: some (b3, .cells ⟨[.bool false, .slice none 0 0]⟩ 24 (0, 0)) :: some (b2, .cells ⟨[.bool b.f_n.f_neg, v2_b, .bool b.f_d.f_neg, v3_b]⟩ 26 (0, 0)) :: some (b1, .cells ⟨[.bool a.f_n.f_neg, v0_a, .bool a.f_d.f_neg, v1_a]⟩ 26 (0, 0)) :: L) (some (b21, .cells ⟨[.bool y11.1.f_neg, v19]⟩ 24 (0, 0))) hm_ rfl hb21_ rfl (o_store (v := .agg ⟨[.bool y11.1.f_neg, v19]⟩) sz24 rfl rfl rfl rfl (oc rfl (oc (h20.one) oz)) .here u2) rfl rfl (by exact ⟨rfl, v19, congrArg (fun b_ => (some (b_, Obj.cells ⟨[.bool y11.1.f_neg, v19]⟩ 24 (0, 0)) : Item')) (bof_eq hb21_).symm, h20⟩)), trivial⟩ ?_
 intro H26 e27
 rintro _ _ rfl _ _ rfl _ _ rfl _ _ ⟨v9, rfl, h10⟩ _ _ ⟨v15, rfl, h16⟩ _ _ ⟨v17, rfl, h18⟩ _ _ ⟨v19, rfl, h20⟩ _ _ rfl _ _ ⟨b21, rfl, rfl⟩ _ i24 ⟨rfl, v22, h25, h23⟩
 replace h25 : i24 = some (b21, .cells ⟨[.bool y11.1.f_neg, v22]⟩ 24 (0, 0)) := h25
 subst h25
 refine w_it (L' := some (b21, .cells ⟨[.bool y11.1.f_neg, v22]⟩ 24 (0, 0)) :: some (b4, .cells ⟨[.bool false, .slice none 0 0]⟩ 24 (0, 0)) :: some (b3, .cells ⟨[.bool false, .slice none 0 0]⟩ 24 (0, 0)) :: some (b2, .cells ⟨[.bool b.f_n.f_neg, v2_b, .bool b.f_d.f_neg, v3_b]⟩ 26 (0, 0)) :: some (b1, .cells ⟨[.bool a.f_n.f_neg, v0_a, .bool a.f_d.f_neg, v1_a]⟩ 26 (0, 0)) :: L) rfl <| wA (errV 104 y11.2) rfl rfl <| wE <| wR rfl <| wM (errV 104 y11.2) rfl rfl <| w_d rfl (d_nenil (e := y11.2) Tryz.underlying30 rfl) <| w_done ?_
 rcases its he with ⟨c28, he⟩ | ⟨c28, he⟩
 ·
  refine w_then rfl c28 <| w_seq <| w_drawn (p := 5) (tl := [5]) [[], [], [], [(0, some 20)], [(1, some 21)]] [some 20, some 21, some 22, none, none] (fctF (.is (.agg ⟨[.bool y11.1.f_neg, v22]⟩) :: .is (.agg ⟨[.bool y11.1.f_neg, v22]⟩) :: .is (errV 104 y11.2) :: .itm (fun H itq_ => itq_ = some (b3, .cells ⟨[.bool y11.1.f_neg, v22]⟩ 24 (0, 0))) (by rintro _ _ _ hle rfl; exact rfl) :: .itm (fun H itq_ => itq_ = some (b4, .cells ⟨[.bool y11.1.f_neg, v22]⟩ 24 (0, 0))) (by rintro _ _ _ hle rfl; exact rfl) :: [])) (fun m_ => some (b21, .cells ⟨[.bool y11.1.f_neg, v22]⟩ 24 (0, 0)) :: m_ 4 :: m_ 3 :: some (b2, .cells ⟨[.bool b.f_n.f_neg, v2_b, .bool b.f_d.f_neg, v3_b]⟩ 26 (0, 0)) :: some (b1, .cells ⟨[.bool a.f_n.f_neg, v0_a, .bool a.f_d.f_neg, v1_a]⟩ 26 (0, 0)) :: L) (fun i_ => if i_ = 3 then some (b3, .cells ⟨[.bool false, .slice none 0 0]⟩ 24 (0, 0)) else if i_ = 4 then some (b4, .cells ⟨[.bool false, .slice none 0 0]⟩ 24 (0, 0)) else none) mixed (by kernel_rfl) (by kernel_rfl) rfl (fct_mono (by kernel_rfl)) ⟨(fun H' m_ hH hm_ hu_ => dn <| s_d (m_ 0) rfl (d_loado (v := .agg ⟨[.bool y11.1.f_neg, v22]⟩) ty24 rfl .here rfl rfl rfl rfl) (by exact rfl) rfl), (fun H' m_ hH hm_ hu_ => dn <| s_d (m_ 1) rfl (d_loado (v := .agg ⟨[.bool y11.1.f_neg, v22]⟩) ty24 rfl .here rfl rfl rfl rfl) (by exact rfl) rfl), (fun H' m_ hH hm_ hu_ => dn <| s_d (m_ 2) rfl (d_move (v := errV 104 y11.2) rfl) (by exact rfl) rfl), (by rintro H' m_ hH hm_ hu_ _ rfl; exact dn <| s_store (some (b3, .cells ⟨[.bool y11.1.f_neg, v22]⟩ 24 (0, 0))) hm_ rfl (o_store (v := .agg ⟨[.bool y11.1.f_neg, v22]⟩) sz24 rfl rfl rfl rfl (oc rfl (oc (h23.one) oz)) (.there (.there .here)) u2) rfl (by exact ⟨rfl, rfl⟩)), (by rintro H' m_ hH hm_ hu_ _ rfl; exact dn <| s_store (some (b4, .cells ⟨[.bool y11.1.f_neg, v22]⟩ 24 (0, 0))) hm_ rfl (o_store (v := .agg ⟨[.bool y11.1.f_neg, v22]⟩) sz24 rfl rfl rfl rfl (oc rfl (oc (h23.one) oz)) (.there .here) u2) rfl (by exact ⟨rfl, rfl⟩)), trivial⟩ ?_
  intro H29 e30
  rintro _ _ rfl _ _ rfl _ _ rfl _ _ ⟨rfl, rfl⟩ _ _ ⟨rfl, rfl⟩
  refine w_it (L' := some (b21, .cells ⟨[.bool y11.1.f_neg, v22]⟩ 24 (0, 0)) :: some (b4, .cells ⟨[.bool y11.1.f_neg, v22]⟩ 24 (0, 0)) :: some (b3, .cells ⟨[.bool y11.1.f_neg, v22]⟩ 24 (0, 0)) :: some (b2, .cells ⟨[.bool b.f_n.f_neg, v2_b, .bool b.f_d.f_neg, v3_b]⟩ 26 (0, 0)) :: some (b1, .cells ⟨[.bool a.f_n.f_neg, v0_a, .bool a.f_d.f_neg, v1_a]⟩ 26 (0, 0)) :: L) rfl <| wA (errV 104 y11.2) rfl rfl <| w_done ?_
  obtain rfl := sj he
  refine w_return fn_106 rs_106 (.box (v := .agg ⟨[.bool y11.1.f_neg, v22]⟩) rfl ty24 rfl rfl (.there (.there .here)) rfl (.box (v := .agg ⟨[.bool y11.1.f_neg, v22]⟩) rfl ty24 rfl rfl (.there .here) rfl (.tmp (v := errV 104 y11.2) rfl .nil))) <| ⟨⟨[_, _, _, _, _], rfl⟩, hle.trans (e27.trans e30), ⟨v22, v22, rfl, (h23.mono e30), (h23.mono e30)⟩⟩
 ·
  refine w_else rfl (Bool.eq_false_iff.2 c28) <| w_skip <| w_seq ?_
  obtain ⟨y31, hy32, he⟩ := bs he
  obtain ⟨y37, hy38, he⟩ := bs he
  refine w_none (?_)
  refine w_drawn (p := 10) (tl := [10]) [[], [(0, some 24)], [], [(2, some 26)], [(1, some 25), (3, some 27)], [(4, some 28)], [(5, some 23)], [(5, some 23)], [], [(6, some 29), (8, some 9)]] [some 24, some 25, some 26, some 27, some 28, some 23, some 29, some 30, some 9, none] (fctF (.is (.pointer (some ⟨b2, 0, none⟩)) :: .is (.agg ⟨[.bool b.f_n.f_neg, v2_b]⟩) :: .is (.agg ⟨[.bool a.f_n.f_neg, v0_a, .bool a.f_d.f_neg, v1_a]⟩) :: .of (ratio_Ratio_under.out y31) (ratio_Ratio_under.out_mono _) :: .of (wide_Int_Mul.out y37) (wide_Int_Mul.out_mono _) :: .of (fun H v => ∃ v43, v = .tuple ⟨[.agg ⟨[.bool y37.1.f_neg, v43]⟩, errV 104 y37.2]⟩ ∧ Ro kU32 H v43 y37.1.f_w) (by rintro _ _ _ hle ⟨v43, rfl, h44⟩; exact ⟨v43, rfl, h44.mono hle⟩) :: .of (fun H v => ∃ v45, v = .agg ⟨[.bool y37.1.f_neg, v45]⟩ ∧ Ro kU32 H v45 y37.1.f_w) (by rintro _ _ _ hle ⟨v45, rfl, h46⟩; exact ⟨v45, rfl, h46.mono hle⟩) :: .is (errV 104 y37.2) :: .box 24 [.bool false, .slice none 0 0] :: .st 8 (fun H bq_ itq_ => ∃ v48, itq_ = some (bq_, .cells ⟨[.bool y37.1.f_neg, v48]⟩ 24 (0, 0)) ∧ Ro kU32 H v48 y37.1.f_w) (by rintro _ _ _ _ hle ⟨v48, rfl, h49⟩; exact ⟨v48, rfl, h49.mono hle⟩) :: [])) (fun m_ => pk (m_ 9) (m_ 8) :: some (b21, .cells ⟨[.bool y11.1.f_neg, v22]⟩ 24 (0, 0)) :: some (b4, .cells ⟨[.bool false, .slice none 0 0]⟩ 24 (0, 0)) :: some (b3, .cells ⟨[.bool false, .slice none 0 0]⟩ 24 (0, 0)) :: some (b2, .cells ⟨[.bool b.f_n.f_neg, v2_b, .bool b.f_d.f_neg, v3_b]⟩ 26 (0, 0)) :: some (b1, .cells ⟨[.bool a.f_n.f_neg, v0_a, .bool a.f_d.f_neg, v1_a]⟩ 26 (0, 0)) :: L) (fun _ => none) mixed (by kernel_rfl) (by kernel_rfl) rfl (fct_mono (by kernel_rfl)) ⟨(fun H' m_ hH hm_ hu_ => dn <| s_d (m_ 0) rfl (d_fld (o' := 0) Tryz.underlying26 rfl sz24 rfl rfl rfl) (by exact rfl) rfl), (by rintro H' m_ hH hm_ hu_ _ rfl; exact dn <| s_d (m_ 1) rfl (d_loado (v := .agg ⟨[.bool b.f_n.f_neg, v2_b]⟩) ty24 rfl (.there (.there (.there (.there .here)))) rfl rfl rfl rfl) (by exact rfl) rfl), (fun H' m_ hH hm_ hu_ => dn <| s_d (m_ 2) rfl (d_loado (v := .agg ⟨[.bool a.f_n.f_neg, v0_a, .bool a.f_d.f_neg, v1_a]⟩) ty26 rfl (.there (.there (.there (.there (.there .here))))) rfl rfl rfl rfl) (by exact rfl) rfl), (by rintro H' m_ hH hm_ hu_ _ rfl; exact dn <| s_k (m_ 3) rfl (o_call co78 (vs := [.agg ⟨[.bool a.f_n.f_neg, v0_a, .bool a.f_d.f_neg, v1_a]⟩]) rfl (ratio_Ratio_under.calls k (a := a) hy32 (h0_a.mono (e27.trans hH)) (h1_a.mono (e27.trans hH)))) rfl (by rintro v_ H_ _ ⟨rfl, e_, h_⟩; exact ⟨rfl, e_, h_⟩)), (by rintro H' m_ hH hm_ hu_ _ rfl _ ⟨v35, rfl, h36⟩; exact dn <| s_k (m_ 4) rfl (o_call co128 (vs := [.agg ⟨[.bool b.f_n.f_neg, v2_b]⟩, .agg ⟨[.bool y31.f_neg, v35]⟩]) rfl (wide_Int_Mul.calls k (a := b.f_n) (b := y31) hy38 (h2_b.mono (e27.trans hH)) h36)) rfl (by rintro v_ H_ _ ⟨rfl, e_, h_⟩; exact ⟨rfl, e_, h_⟩)), (by rintro H' m_ hH hm_ hu_ _ ⟨v41, rfl, h42⟩; exact dn <| s_d (m_ 5) rfl (d_move (v := .tuple ⟨[.agg ⟨[.bool y37.1.f_neg, v41]⟩, errV 104 y37.2]⟩) rfl) (by exact ⟨v41, rfl, h42⟩) rfl), (by rintro H' m_ hH hm_ hu_ _ ⟨v43, rfl, h44⟩; exact dn <| s_d (m_ 6) rfl (d_ext (vs := [.agg ⟨[.bool y37.1.f_neg, v43]⟩, errV 104 y37.2]) rfl rfl) (by exact ⟨v43, rfl, h44⟩) rfl), (by rintro H' m_ hH hm_ hu_ _ ⟨v43, rfl, h44⟩; exact dn <| s_d (m_ 7) rfl (d_ext (vs := [.agg ⟨[.bool y37.1.f_neg, v43]⟩, errV 104 y37.2]) rfl rfl) (by exact rfl) rfl), (fun H' m_ hH hm_ hu_ => dn <| s_box hm_ rfl rfl (o_alloc zr24 rfl) rfl (fun _ => (pk_upd (hu_ 9 (by kernel_rfl)))) (by exact fun b_ => ⟨b_, rfl, rfl⟩)), (by rintro H' m_ hH hm_ hu_ _ ⟨v45, rfl, h46⟩ _ ⟨b47, rfl, hb47_⟩; exact dn <| s_store2 (Λ' := fun z_ => z_ :: some (b21, .cells ⟨[.bool y11.1.f_neg, v22]⟩ 24 (0, 0)) :: some (b4, .cells ⟨[.bool false, .slice none 0 0]⟩ 24 (0, 0)) :: some (b3, .cells ⟨[.bool false, .slice none 0 0]⟩ 24 (0, 0)) :: some (b2, .cells ⟨[.bool b.f_n.f_neg, v2_b, .bool b.f_d.f_neg, v3_b]⟩ 26 (0, 0)) :: some (b1, .cells ⟨[.bool a.f_n.f_neg, v0_a, .bool a.f_d.f_neg, v1_a]⟩ 26 (0, 0)) :: L) (some (b47, .cells ⟨[.bool y37.1.f_neg, v45]⟩ 24 (0, 0))) hm_ rfl hb47_ rfl (o_store (v := .agg ⟨[.bool y37.1.f_neg, v45]⟩) sz24 rfl rfl rfl rfl (oc rfl (oc (h46.one) oz)) .here u2) rfl rfl (by exact ⟨rfl, v45, congrArg (fun b_ => (some (b_, Obj.cells ⟨[.bool y37.1.f_neg, v45]⟩ 24 (0, 0)) : Item')) (bof_eq hb47_).symm, h46⟩)), trivial⟩ ?_
  intro H52 e53
  rintro _ _ rfl _ _ rfl _ _ rfl _ _ ⟨v35, rfl, h36⟩ _ _ ⟨v41, rfl, h42⟩ _ _ ⟨v43, rfl, h44⟩ _ _ ⟨v45, rfl, h46⟩ _ _ rfl _ _ ⟨b47, rfl, rfl⟩ _ i50 ⟨rfl, v48, h51, h49⟩
  replace h51 : i50 = some (b47, .cells ⟨[.bool y37.1.f_neg, v48]⟩ 24 (0, 0)) := h51
  subst h51
  refine w_it (L' := some (b47, .cells ⟨[.bool y37.1.f_neg, v48]⟩ 24 (0, 0)) :: some (b21, .cells ⟨[.bool y11.1.f_neg, v22]⟩ 24 (0, 0)) :: some (b4, .cells ⟨[.bool false, .slice none 0 0]⟩ 24 (0, 0)) :: some (b3, .cells ⟨[.bool false, .slice none 0 0]⟩ 24 (0, 0)) :: some (b2, .cells ⟨[.bool b.f_n.f_neg, v2_b, .bool b.f_d.f_neg, v3_b]⟩ 26 (0, 0)) :: some (b1, .cells ⟨[.bool a.f_n.f_neg, v0_a, .bool a.f_d.f_neg, v1_a]⟩ 26 (0, 0)) :: L) rfl <| wA (errV 104 y37.2) rfl rfl <| wE <| w_drawn (p := 5) (tl := [5]) [[], [], [], [(0, some 31)], [(1, some 32)]] [some 31, some 32, some 33, none, none] (fctF (.is (.agg ⟨[.bool y11.1.f_neg, v22]⟩) :: .is (.agg ⟨[.bool y37.1.f_neg, v48]⟩) :: .is (errV 104 y37.2) :: .itm (fun H itq_ => itq_ = some (b3, .cells ⟨[.bool y11.1.f_neg, v22]⟩ 24 (0, 0))) (by rintro _ _ _ hle rfl; exact rfl) :: .itm (fun H itq_ => itq_ = some (b4, .cells ⟨[.bool y37.1.f_neg, v48]⟩ 24 (0, 0))) (by rintro _ _ _ hle rfl; exact rfl) :: [])) (fun m_ => some (b47, .cells ⟨[.bool y37.1.f_neg, v48]⟩ 24 (0, 0)) :: some (b21, .cells ⟨[.bool y11.1.f_neg, v22]⟩ 24 (0, 0)) :: m_ 4 :: m_ 3 :: some (b2, .cells ⟨[.bool b.f_n.f_neg, v2_b, .bool b.f_d.f_neg, v3_b]⟩ 26 (0, 0)) :: some (b1, .cells ⟨[.bool a.f_n.f_neg, v0_a, .bool a.f_d.f_neg, v1_a]⟩ 26 (0, 0)) :: L) (fun i_ => if i_ = 3 then some (b3, .cells ⟨[.bool false, .slice none 0 0]⟩ 24 (0, 0)) else if i_ = 4 then some (b4, .cells ⟨[.bool false, .slice none 0 0]⟩ 24 (0, 0)) else none) mixed (by kernel_rfl) (by kernel_rfl) rfl (fct_mono (by kernel_rfl)) ⟨(fun H' m_ hH hm_ hu_ => dn <| s_d (m_ 0) rfl (d_loado (v := .agg ⟨[.bool y11.1.f_neg, v22]⟩) ty24 rfl (.there .here) rfl rfl rfl rfl) (by exact rfl) rfl), (fun H' m_ hH hm_ hu_ => dn <| s_d (m_ 1) rfl (d_loado (v := .agg ⟨[.bool y37.1.f_neg, v48]⟩) ty24 rfl .here rfl rfl rfl rfl) (by exact rfl) rfl), (fun H' m_ hH hm_ hu_ => dn <| s_d (m_ 2) rfl (d_move (v := errV 104 y37.2) rfl) (by exact rfl) rfl), (by rintro H' m_ hH hm_ hu_ _ rfl; exact dn <| s_store (some (b3, .cells ⟨[.bool y11.1.f_neg, v22]⟩ 24 (0, 0))) hm_ rfl (o_store (v := .agg ⟨[.bool y11.1.f_neg, v22]⟩) sz24 rfl rfl rfl rfl (oc rfl (oc (h23.one) oz)) (.there (.there (.there .here))) u2) rfl (by exact ⟨rfl, rfl⟩)), (by rintro H' m_ hH hm_ hu_ _ rfl; exact dn <| s_store (some (b4, .cells ⟨[.bool y37.1.f_neg, v48]⟩ 24 (0, 0))) hm_ rfl (o_store (v := .agg ⟨[.bool y37.1.f_neg, v48]⟩) sz24 rfl rfl rfl rfl (oc rfl (oc (h49.one) oz)) (.there (.there .here)) u2) rfl (by exact ⟨rfl, rfl⟩)), trivial⟩ ?_
  intro H54 e55
  rintro _ _ rfl _ _ rfl _ _ rfl _ _ ⟨rfl, rfl⟩ _ _ ⟨rfl, rfl⟩
  refine w_it (L' := some (b47, .cells ⟨[.bool y37.1.f_neg, v48]⟩ 24 (0, 0)) :: some (b21, .cells ⟨[.bool y11.1.f_neg, v22]⟩ 24 (0, 0)) :: some (b4, .cells ⟨[.bool y37.1.f_neg, v48]⟩ 24 (0, 0)) :: some (b3, .cells ⟨[.bool y11.1.f_neg, v22]⟩ 24 (0, 0)) :: some (b2, .cells ⟨[.bool b.f_n.f_neg, v2_b, .bool b.f_d.f_neg, v3_b]⟩ 26 (0, 0)) :: some (b1, .cells ⟨[.bool a.f_n.f_neg, v0_a, .bool a.f_d.f_neg, v1_a]⟩ 26 (0, 0)) :: L) rfl <| wA (errV 104 y37.2) rfl rfl <| w_done ?_
  obtain rfl := sj he
  refine w_return fn_106 rs_106 (.box (v := .agg ⟨[.bool y11.1.f_neg, v22]⟩) rfl ty24 rfl rfl (.there (.there (.there .here))) rfl (.box (v := .agg ⟨[.bool y37.1.f_neg, v48]⟩) rfl ty24 rfl rfl (.there (.there .here)) rfl (.tmp (v := errV 104 y37.2) rfl .nil))) <| ⟨⟨[_, _, _, _, _, _], rfl⟩, hle.trans ((e27.trans e53).trans e55), ⟨v22, v48, rfl, (h23.mono (e53.trans e55)), (h49.mono e55)⟩⟩
noncomputable def ratio_Ratio_joined.C : Code := (Tryz.f76.body).getD .skip
def ratio_Ratio_joined.out (r : ratio_Ratio × (Option Int)) (H : Hp) (v : Value) : Prop := ∃ v0, ∃ v1, v = .tuple ⟨[.agg ⟨[.bool r.1.f_n.f_neg, v0, .bool r.1.f_d.f_neg, v1]⟩, errV 104 r.2]⟩ ∧ Ro kU32 H v0 r.1.f_n.f_w ∧ Ro kU32 H v1 r.1.f_d.f_w
theorem ratio_Ratio_joined.out_mono (r : ratio_Ratio × (Option Int)) {H H' : Hp} {v : Value} (hle : H.le H') (h : ratio_Ratio_joined.out r H v) : ratio_Ratio_joined.out r H' v := by
 obtain ⟨v0, v1, rfl, h0, h1⟩ := h; exact ⟨v0, v1, rfl, h0.mono hle, h1.mono hle⟩
abbrev ratio_Ratio_joined.R (H0 : Hp) (L : Items) (r : ratio_Ratio × (Option Int)) := fR H0 L (ratio_Ratio_joined.out r)
noncomputable def ratio_Ratio_joined.j1 (k : Nat)  (a_0 : Bool) (a_1 : List Int) (a_2 : Bool) (a_3 : List Int) (b_0 : Bool) (b_1 : List Int) (b_2 : Bool) (b_3 : List Int) (x_0 : Bool) (x_1 : List Int) (y_0 : Bool) (y_1 : List Int) : Option (ratio_Ratio × (Option Int)) := (wide_Int_Add.f k (⟨x_0, x_1⟩ : wide_Int) (⟨y_0, y_1⟩ : wide_Int)).bind fun y22 => if y22.2.isSome = true then (some ((⟨(⟨false, []⟩ : wide_Int), (⟨false, []⟩ : wide_Int)⟩ : ratio_Ratio), y22.2)) else ((ratio_Ratio_under.f k (⟨(⟨a_0, a_1⟩ : wide_Int), (⟨a_2, a_3⟩ : wide_Int)⟩ : ratio_Ratio)).bind fun y30 => (ratio_Ratio_under.f k (⟨(⟨b_0, b_1⟩ : wide_Int), (⟨b_2, b_3⟩ : wide_Int)⟩ : ratio_Ratio)).bind fun y36 => (wide_Int_Mul.f k y30 y36).bind fun y42 => if y42.2.isSome = true then (some ((⟨(⟨false, []⟩ : wide_Int), (⟨false, []⟩ : wide_Int)⟩ : ratio_Ratio), y42.2)) else ((ratio_Of.f k y22.1 y42.1).bind fun y60 => some (y60.1, y60.2)))
noncomputable def ratio_Ratio_joined.f (k : Nat) (a : ratio_Ratio) (b : ratio_Ratio) (less : Bool) : Option (ratio_Ratio × (Option Int)) := (ratio_Ratio_cross.f k a b).bind fun y4 => if y4.2.2.isSome = true then (some ((⟨(⟨false, []⟩ : wide_Int), (⟨false, []⟩ : wide_Int)⟩ : ratio_Ratio), y4.2.2)) else (if less = true then ((wide_Int_Neg.f k y4.2.1).bind fun y16 => ratio_Ratio_joined.j1 k a.f_n.f_neg a.f_n.f_w a.f_d.f_neg a.f_d.f_w b.f_n.f_neg b.f_n.f_w b.f_d.f_neg b.f_d.f_w y4.1.f_neg y4.1.f_w y16.f_neg y16.f_w) else (ratio_Ratio_joined.j1 k a.f_n.f_neg a.f_n.f_w a.f_d.f_neg a.f_d.f_w b.f_n.f_neg b.f_n.f_w b.f_d.f_neg b.f_d.f_w y4.1.f_neg y4.1.f_w y4.2.1.f_neg y4.2.1.f_w))
theorem ratio_Ratio_joined.j1_mono {k : Nat} : ∀ y0 y1 y2 y3 y4 y5 y6 y7 y8 y9 y10 y11, LeO (ratio_Ratio_joined.j1 k y0 y1 y2 y3 y4 y5 y6 y7 y8 y9 y10 y11) (ratio_Ratio_joined.j1 (k + 1) y0 y1 y2 y3 y4 y5 y6 y7 y8 y9 y10 y11) := fun _ _ _ _ _ _ _ _ _ _ _ _ => (LeO.bind (wide_Int_Add.mono k _ _) fun _ => LeO.ite (LeO.refl _) (LeO.bind (ratio_Ratio_under.mono k _) fun _ => LeO.bind (ratio_Ratio_under.mono k _) fun _ => LeO.bind (wide_Int_Mul.mono k _ _) fun _ => LeO.ite (LeO.refl _) (LeO.bind (ratio_Of.mono k _ _) fun _ => LeO.refl _)))
theorem ratio_Ratio_joined.mono : ∀ k y0 y1 y2, LeO (ratio_Ratio_joined.f k y0 y1 y2) (ratio_Ratio_joined.f (k + 1) y0 y1 y2) := fun k _ _ _ => by unfold ratio_Ratio_joined.f; exact (LeO.bind (ratio_Ratio_cross.mono k _ _) fun _ => LeO.ite (LeO.refl _) (LeO.ite (LeO.bind (wide_Int_Neg.mono k _) fun _ => ratio_Ratio_joined.j1_mono (k := k)  _ _ _ _ _ _ _ _ _ _ _ _) (ratio_Ratio_joined.j1_mono (k := k)  _ _ _ _ _ _ _ _ _ _ _ _)))
noncomputable def ratio_Ratio_joined.Kj1 : List Item := .code (seqR (seqR (seqR (seqR ratio_Ratio_joined.C)))) :: []
theorem ratio_Ratio_joined.j1_ok {k : Nat} {H0 H : Hp} {L : Items} {r : ratio_Ratio × (Option Int)} {jk_ : Nat → Value} {a_0 : Bool} {a_1 : List Int} {a_2 : Bool} {a_3 : List Int} {b_0 : Bool} {b_1 : List Int} {b_2 : Bool} {b_3 : List Int} {x_0 : Bool} {x_1 : List Int} {y_0 : Bool} {y_1 : List Int} {v_a_1 : Value} {v_a_3 : Value} {v_b_1 : Value} {v_b_3 : Value} {v_x_1 : Value} {v_y_1 : Value} {b_a : Nat} {b_b : Nat} {b_t6 : Nat} {b_x : Nat} {b_y : Nat} (hle : H0.le H) (he : ratio_Ratio_joined.j1 k a_0 a_1 a_2 a_3 b_0 b_1 b_2 b_3 x_0 x_1 y_0 y_1 = some r) (h_a_1 : Ro kU32 H v_a_1 a_1) (h_a_3 : Ro kU32 H v_a_3 a_3) (h_b_1 : Ro kU32 H v_b_1 b_1) (h_b_3 : Ro kU32 H v_b_3 b_3) (h_x_1 : Ro kU32 H v_x_1 x_1) (h_y_1 : Ro kU32 H v_y_1 y_1) : Wp Tryz.prog 76 54 ratio_Ratio_joined.Kj1 (upd (upd (upd (upd (upd (upd jk_ 3 (.pointer (some ⟨b_a, 0, none⟩))) 4 (.pointer (some ⟨b_b, 0, none⟩))) 6 (.pointer (some ⟨b_t6, 0, none⟩))) 7 (errV 104 none)) 8 (.pointer (some ⟨b_x, 0, none⟩))) 9 (.pointer (some ⟨b_y, 0, none⟩))) H (some (b_y, .cells ⟨[.bool y_0, v_y_1]⟩ 24 (0, 0)) :: some (b_x, .cells ⟨[.bool x_0, v_x_1]⟩ 24 (0, 0)) :: some (b_t6, .cells ⟨[.bool false, .slice none 0 0, .bool false, .slice none 0 0]⟩ 26 (0, 0)) :: some (b_b, .cells ⟨[.bool b_0, v_b_1, .bool b_2, v_b_3]⟩ 26 (0, 0)) :: some (b_a, .cells ⟨[.bool a_0, v_a_1, .bool a_2, v_a_3]⟩ 26 (0, 0)) :: L) (ratio_Ratio_joined.R H0 L r) := by
 unfold ratio_Ratio_joined.j1 at he
 unfold ratio_Ratio_joined.Kj1
 refine wR rfl <| wL (.agg ⟨[.bool x_0, v_x_1]⟩) ty24 rfl rfl (.there .here) rfl rfl <| wL (.agg ⟨[.bool y_0, v_y_1]⟩) ty24 rfl rfl .here rfl rfl ?_
 obtain ⟨y22, hy23, he⟩ := bs he
 refine w_a rfl (o_call co127 (vs := [.agg ⟨[.bool x_0, v_x_1]⟩, .agg ⟨[.bool y_0, v_y_1]⟩]) rfl (wide_Int_Add.calls k (a := ⟨x_0, x_1⟩) (b := ⟨y_0, y_1⟩) hy23 h_x_1 h_y_1)) ?_
 rintro _ H24 _ ⟨rfl, e25, ⟨v26, rfl, h27⟩⟩
 refine wM (.tuple ⟨[.agg ⟨[.bool y22.1.f_neg, v26]⟩, errV 104 y22.2]⟩) rfl rfl <| w_d rfl (d_ext (vs := [.agg ⟨[.bool y22.1.f_neg, v26]⟩, errV 104 y22.2]) rfl rfl) <| w_d rfl (d_ext (vs := [.agg ⟨[.bool y22.1.f_neg, v26]⟩, errV 104 y22.2]) rfl rfl) <| w_a rfl (o_alloc zr24 rfl) ?_
 rintro _ _ _ ⟨b28, rfl, rfl, rfl⟩
 refine w_a0 rfl (o_store (v := .agg ⟨[.bool y22.1.f_neg, v26]⟩) sz24 rfl rfl rfl rfl (oc rfl (oc (h27.one) oz)) .here u2) ?_
 rintro _ _ _ ⟨rfl, rfl, rfl⟩
 refine wA (errV 104 y22.2) rfl rfl <| wE <| wR rfl <| wM (errV 104 y22.2) rfl rfl <| w_d rfl (d_nenil (e := y22.2) Tryz.underlying30 rfl) <| w_done ?_
 rcases its he with ⟨c29, he⟩ | ⟨c29, he⟩
 ·
  refine w_then rfl c29 <| wR rfl <| w_d rfl (d_build (cs' := [.bool false, .slice none 0 0, .bool false, .slice none 0 0]) Tryz.underlying26 zr26 rfl (by kernel_rfl) (parts := []) rfl .nil) <| wM (errV 104 y22.2) rfl rfl <| w_a0 rfl (o_store (v := .agg ⟨[.bool false, .slice none 0 0, .bool false, .slice none 0 0]⟩) sz26 rfl rfl rfl rfl (oc rfl (oc rfl (oc rfl (oc rfl oz)))) (.there (.there (.there .here))) u4) ?_
  rintro _ _ _ ⟨rfl, rfl, rfl⟩
  refine wA (errV 104 y22.2) rfl rfl <| w_done ?_
  obtain rfl := sj he
  refine w_return fn_76 rs_76 (.box (v := .agg ⟨[.bool false, .slice none 0 0, .bool false, .slice none 0 0]⟩) rfl ty26 rfl rfl (.there (.there (.there .here))) rfl (.tmp (v := errV 104 y22.2) rfl .nil)) <| ⟨⟨[_, _, _, _, _, _], rfl⟩, hle.trans e25, ⟨.slice none 0 0, .slice none 0 0, rfl, (ro_nil _ _), (ro_nil _ _)⟩⟩
 ·
  refine w_else rfl (Bool.eq_false_iff.2 c29) <| w_skip <| w_seq ?_
  obtain ⟨y30, hy31, he⟩ := bs he
  obtain ⟨y36, hy37, he⟩ := bs he
  obtain ⟨y42, hy43, he⟩ := bs he
  refine w_none (?_)
  refine w_drawn (p := 10) (tl := [10]) [[], [(0, some 38)], [], [(2, some 40)], [(1, some 39), (3, some 41)], [(4, some 42)], [(5, some 37)], [(5, some 37)], [], [(6, some 43), (8, some 12)]] [some 38, some 39, some 40, some 41, some 42, some 37, some 43, some 44, some 12, none] (fctF (.is (.agg ⟨[.bool a_0, v_a_1, .bool a_2, v_a_3]⟩) :: .of (ratio_Ratio_under.out y30) (ratio_Ratio_under.out_mono _) :: .is (.agg ⟨[.bool b_0, v_b_1, .bool b_2, v_b_3]⟩) :: .of (ratio_Ratio_under.out y36) (ratio_Ratio_under.out_mono _) :: .of (wide_Int_Mul.out y42) (wide_Int_Mul.out_mono _) :: .of (fun H v => ∃ v48, v = .tuple ⟨[.agg ⟨[.bool y42.1.f_neg, v48]⟩, errV 104 y42.2]⟩ ∧ Ro kU32 H v48 y42.1.f_w) (by rintro _ _ _ hle ⟨v48, rfl, h49⟩; exact ⟨v48, rfl, h49.mono hle⟩) :: .of (fun H v => ∃ v50, v = .agg ⟨[.bool y42.1.f_neg, v50]⟩ ∧ Ro kU32 H v50 y42.1.f_w) (by rintro _ _ _ hle ⟨v50, rfl, h51⟩; exact ⟨v50, rfl, h51.mono hle⟩) :: .is (errV 104 y42.2) :: .box 24 [.bool false, .slice none 0 0] :: .st 8 (fun H bq_ itq_ => ∃ v53, itq_ = some (bq_, .cells ⟨[.bool y42.1.f_neg, v53]⟩ 24 (0, 0)) ∧ Ro kU32 H v53 y42.1.f_w) (by rintro _ _ _ _ hle ⟨v53, rfl, h54⟩; exact ⟨v53, rfl, h54.mono hle⟩) :: [])) (fun m_ => pk (m_ 9) (m_ 8) :: some (b28, .cells ⟨[.bool y22.1.f_neg, v26]⟩ 24 (0, 0)) :: some (b_y, .cells ⟨[.bool y_0, v_y_1]⟩ 24 (0, 0)) :: some (b_x, .cells ⟨[.bool x_0, v_x_1]⟩ 24 (0, 0)) :: some (b_t6, .cells ⟨[.bool false, .slice none 0 0, .bool false, .slice none 0 0]⟩ 26 (0, 0)) :: some (b_b, .cells ⟨[.bool b_0, v_b_1, .bool b_2, v_b_3]⟩ 26 (0, 0)) :: some (b_a, .cells ⟨[.bool a_0, v_a_1, .bool a_2, v_a_3]⟩ 26 (0, 0)) :: L) (fun _ => none) mixed (by kernel_rfl) (by kernel_rfl) rfl (fct_mono (by kernel_rfl)) ⟨(fun H' m_ hH hm_ hu_ => dn <| s_d (m_ 0) rfl (d_loado (v := .agg ⟨[.bool a_0, v_a_1, .bool a_2, v_a_3]⟩) ty26 rfl (.there (.there (.there (.there (.there (.there .here)))))) rfl rfl rfl rfl) (by exact rfl) rfl), (by rintro H' m_ hH hm_ hu_ _ rfl; exact dn <| s_k (m_ 1) rfl (o_call co78 (vs := [.agg ⟨[.bool a_0, v_a_1, .bool a_2, v_a_3]⟩]) rfl (ratio_Ratio_under.calls k (a := ⟨⟨a_0, a_1⟩, ⟨a_2, a_3⟩⟩) hy31 (h_a_1.mono (e25.trans hH)) (h_a_3.mono (e25.trans hH)))) rfl (by rintro v_ H_ _ ⟨rfl, e_, h_⟩; exact ⟨rfl, e_, h_⟩)), (fun H' m_ hH hm_ hu_ => dn <| s_d (m_ 2) rfl (d_loado (v := .agg ⟨[.bool b_0, v_b_1, .bool b_2, v_b_3]⟩) ty26 rfl (.there (.there (.there (.there (.there .here))))) rfl rfl rfl rfl) (by exact rfl) rfl), (by rintro H' m_ hH hm_ hu_ _ rfl; exact dn <| s_k (m_ 3) rfl (o_call co78 (vs := [.agg ⟨[.bool b_0, v_b_1, .bool b_2, v_b_3]⟩]) rfl (ratio_Ratio_under.calls k (a := ⟨⟨b_0, b_1⟩, ⟨b_2, b_3⟩⟩) hy37 (h_b_1.mono (e25.trans hH)) (h_b_3.mono (e25.trans hH)))) rfl (by rintro v_ H_ _ ⟨rfl, e_, h_⟩; exact ⟨rfl, e_, h_⟩)), (by rintro H' m_ hH hm_ hu_ _ ⟨v34, rfl, h35⟩ _ ⟨v40, rfl, h41⟩; exact dn <| s_k (m_ 4) rfl (o_call co128 (vs := [.agg ⟨[.bool y30.f_neg, v34]⟩, .agg ⟨[.bool y36.f_neg, v40]⟩]) rfl (wide_Int_Mul.calls k (a := y30) (b := y36) hy43 h35 h41)) rfl (by rintro v_ H_ _ ⟨rfl, e_, h_⟩; exact ⟨rfl, e_, h_⟩)), (by rintro H' m_ hH hm_ hu_ _ ⟨v46, rfl, h47⟩; exact dn <| s_d (m_ 5) rfl (d_move (v := .tuple ⟨[.agg ⟨[.bool y42.1.f_neg, v46]⟩, errV 104 y42.2]⟩) rfl) (by exact ⟨v46, rfl, h47⟩) rfl), (by rintro H' m_ hH hm_ hu_ _ ⟨v48, rfl, h49⟩; exact dn <| s_d (m_ 6) rfl (d_ext (vs := [.agg ⟨[.bool y42.1.f_neg, v48]⟩, errV 104 y42.2]) rfl rfl) (by exact ⟨v48, rfl, h49⟩) rfl), (by rintro H' m_ hH hm_ hu_ _ ⟨v48, rfl, h49⟩; exact dn <| s_d (m_ 7) rfl (d_ext (vs := [.agg ⟨[.bool y42.1.f_neg, v48]⟩, errV 104 y42.2]) rfl rfl) (by exact rfl) rfl), (fun H' m_ hH hm_ hu_ => dn <| s_box hm_ rfl rfl (o_alloc zr24 rfl) rfl (fun _ => (pk_upd (hu_ 9 (by kernel_rfl)))) (by exact fun b_ => ⟨b_, rfl, rfl⟩)), (by rintro H' m_ hH hm_ hu_ _ ⟨v50, rfl, h51⟩ _ ⟨b52, rfl, hb52_⟩; exact dn <| s_store2 (Λ' := fun z_ => z_ :: some (b28, .cells ⟨[.bool y22.1.f_neg, v26]⟩ 24 (0, 0)) :: some (b_y, .cells ⟨[.bool y_0, v_y_1]⟩ 24 (0, 0)) :: some (b_x, .cells ⟨[.bool x_0, v_x_1]⟩ 24 (0, 0)) :: some (b_t6, .cells ⟨[.bool false, .slice none 0 0, .bool false, .slice none 0 0]⟩ 26 (0, 0)) :: some (b_b, .cells ⟨[.bool b_0, v_b_1, .bool b_2, v_b_3]⟩ 26 (0, 0)) :: some (b_a, .cells ⟨[.bool a_0, v_a_1, .bool a_2, v_a_3]⟩ 26 (0, 0)) :: L) (some (b52, .cells ⟨[.bool y42.1.f_neg, v50]⟩ 24 (0, 0))) hm_ rfl hb52_ rfl (o_store (v := .agg ⟨[.bool y42.1.f_neg, v50]⟩) sz24 rfl rfl rfl rfl (oc rfl (oc (h51.one) oz)) .here u2) rfl rfl (by exact ⟨rfl, v50, congrArg (fun b_ => (some (b_, Obj.cells ⟨[.bool y42.1.f_neg, v50]⟩ 24 (0, 0)) : Item')) (bof_eq hb52_).symm, h51⟩)), trivial⟩ ?_
  intro H57 e58
  rintro _ _ rfl _ _ ⟨v34, rfl, h35⟩ _ _ rfl _ _ ⟨v40, rfl, h41⟩ _ _ ⟨v46, rfl, h47⟩ _ _ ⟨v48, rfl, h49⟩ _ _ ⟨v50, rfl, h51⟩ _ _ rfl _ _ ⟨b52, rfl, rfl⟩ _ i55 ⟨rfl, v53, h56, h54⟩
  replace h56 : i55 = some (b52, .cells ⟨[.bool y42.1.f_neg, v53]⟩ 24 (0, 0)) := h56
  subst h56
  refine w_it (L' := some (b52, .cells ⟨[.bool y42.1.f_neg, v53]⟩ 24 (0, 0)) :: some (b28, .cells ⟨[.bool y22.1.f_neg, v26]⟩ 24 (0, 0)) :: some (b_y, .cells ⟨[.bool y_0, v_y_1]⟩ 24 (0, 0)) :: some (b_x, .cells ⟨[.bool x_0, v_x_1]⟩ 24 (0, 0)) :: some (b_t6, .cells ⟨[.bool false, .slice none 0 0, .bool false, .slice none 0 0]⟩ 26 (0, 0)) :: some (b_b, .cells ⟨[.bool b_0, v_b_1, .bool b_2, v_b_3]⟩ 26 (0, 0)) :: some (b_a, .cells ⟨[.bool a_0, v_a_1, .bool a_2, v_a_3]⟩ 26 (0, 0)) :: L) rfl <| wA (errV 104 y42.2) rfl rfl <| wE <| wR rfl <| wM (errV 104 y42.2) rfl rfl <| w_d rfl (d_nenil (e := y42.2) Tryz.underlying30 rfl) <| w_done ?_
  rcases its he with ⟨c59, he⟩ | ⟨c59, he⟩
  ·
   refine w_then rfl c59 <| wR rfl <| w_d rfl (d_build (cs' := [.bool false, .slice none 0 0, .bool false, .slice none 0 0]) Tryz.underlying26 zr26 rfl (by kernel_rfl) (parts := []) rfl .nil) <| wM (errV 104 y42.2) rfl rfl <| w_a0 rfl (o_store (v := .agg ⟨[.bool false, .slice none 0 0, .bool false, .slice none 0 0]⟩) sz26 rfl rfl rfl rfl (oc rfl (oc rfl (oc rfl (oc rfl oz)))) (.there (.there (.there (.there .here)))) u4) ?_
   rintro _ _ _ ⟨rfl, rfl, rfl⟩
   refine wA (errV 104 y42.2) rfl rfl <| w_done ?_
   obtain rfl := sj he
   refine w_return fn_76 rs_76 (.box (v := .agg ⟨[.bool false, .slice none 0 0, .bool false, .slice none 0 0]⟩) rfl ty26 rfl rfl (.there (.there (.there (.there .here)))) rfl (.tmp (v := errV 104 y42.2) rfl .nil)) <| ⟨⟨[_, _, _, _, _, _, _], rfl⟩, hle.trans (e25.trans e58), ⟨.slice none 0 0, .slice none 0 0, rfl, (ro_nil _ _), (ro_nil _ _)⟩⟩
  ·
   refine w_else rfl (Bool.eq_false_iff.2 c59) <| w_skip <| wR rfl <| wL (.agg ⟨[.bool y22.1.f_neg, v26]⟩) ty24 rfl rfl (.there .here) rfl rfl <| wL (.agg ⟨[.bool y42.1.f_neg, v53]⟩) ty24 rfl rfl .here rfl rfl ?_
   obtain ⟨y60, hy61, he⟩ := bs he
   refine w_a rfl (o_call co73 (vs := [.agg ⟨[.bool y22.1.f_neg, v26]⟩, .agg ⟨[.bool y42.1.f_neg, v53]⟩]) rfl (ratio_Of.calls k (n := y22.1) (d := y42.1) hy61 (h27.mono e58) h54)) ?_
   rintro _ H62 _ ⟨rfl, e63, ⟨v64, v66, rfl, h65, h67⟩⟩
   refine w_d rfl (d_ext (vs := [.agg ⟨[.bool y60.1.f_n.f_neg, v64, .bool y60.1.f_d.f_neg, v66]⟩, errV 104 y60.2]) rfl rfl) <| w_d rfl (d_ext (vs := [.agg ⟨[.bool y60.1.f_n.f_neg, v64, .bool y60.1.f_d.f_neg, v66]⟩, errV 104 y60.2]) rfl rfl) <| w_a0 rfl (o_store (v := .agg ⟨[.bool y60.1.f_n.f_neg, v64, .bool y60.1.f_d.f_neg, v66]⟩) sz26 rfl rfl rfl rfl (oc rfl (oc (h65.one) (oc rfl (oc (h67.one) oz)))) (.there (.there (.there (.there .here)))) u4) ?_
   rintro _ _ _ ⟨rfl, rfl, rfl⟩
   refine wA (errV 104 y60.2) rfl rfl <| w_done ?_
   obtain rfl := sj he
   refine w_return fn_76 rs_76 (.box (v := .agg ⟨[.bool y60.1.f_n.f_neg, v64, .bool y60.1.f_d.f_neg, v66]⟩) rfl ty26 rfl rfl (.there (.there (.there (.there .here)))) rfl (.tmp (v := errV 104 y60.2) rfl .nil)) <| ⟨⟨[_, _, _, _, _, _, _], rfl⟩, hle.trans ((e25.trans e58).trans e63), ⟨v64, v66, rfl, h65, h67⟩⟩
theorem ratio_Ratio_joined.calls (k : Nat) {H : Hp} {L : Items} {a : ratio_Ratio} {b : ratio_Ratio} {less : Bool} {v0_a : Value} {v1_a : Value} {v2_b : Value} {v3_b : Value} {r : ratio_Ratio × (Option Int)} (he : ratio_Ratio_joined.f k a b less = some r) (h0_a : Ro kU32 H v0_a a.f_n.f_w) (h1_a : Ro kU32 H v1_a a.f_d.f_w) (h2_b : Ro kU32 H v2_b b.f_n.f_w) (h3_b : Ro kU32 H v3_b b.f_d.f_w) : Ct Tryz.prog 76 ⟨[.agg ⟨[.bool a.f_n.f_neg, v0_a, .bool a.f_d.f_neg, v1_a]⟩, .agg ⟨[.bool b.f_n.f_neg, v2_b, .bool b.f_d.f_neg, v3_b]⟩, .bool less]⟩ H L (cR H L (ratio_Ratio_joined.out r)) := by
 refine ct_out (O := ratio_Ratio_joined.out r) ?_
 have hle : H.le H := .refl _
 unfold ratio_Ratio_joined.f at he
 refine ct_enter (args := [.agg ⟨[.bool a.f_n.f_neg, v0_a, .bool a.f_d.f_neg, v1_a]⟩, .agg ⟨[.bool b.f_n.f_neg, v2_b, .bool b.f_d.f_neg, v3_b]⟩, .bool less]) fn_76 rfl nt_76 rfl <| wR rfl <| w_a rfl (o_box (v := .agg ⟨[.bool a.f_n.f_neg, v0_a, .bool a.f_d.f_neg, v1_a]⟩) rfl rfl) ?_
 rintro _ _ _ ⟨b1, rfl, rfl, rfl⟩
 refine w_a rfl (o_box (v := .agg ⟨[.bool b.f_n.f_neg, v2_b, .bool b.f_d.f_neg, v3_b]⟩) rfl rfl) ?_
 rintro _ _ _ ⟨b2, rfl, rfl, rfl⟩
 refine w_a rfl (o_alloc zr26 rfl) ?_
 rintro _ _ _ ⟨b3, rfl, rfl, rfl⟩
 refine wA (errV 104 none) rfl rfl <| wQ rfl <| wL (.agg ⟨[.bool a.f_n.f_neg, v0_a, .bool a.f_d.f_neg, v1_a]⟩) ty26 rfl rfl (.there (.there .here)) rfl rfl <| wL (.agg ⟨[.bool b.f_n.f_neg, v2_b, .bool b.f_d.f_neg, v3_b]⟩) ty26 rfl rfl (.there .here) rfl rfl ?_
 obtain ⟨y4, hy5, he⟩ := bs he
 refine w_a rfl (o_call co106 (vs := [.agg ⟨[.bool a.f_n.f_neg, v0_a, .bool a.f_d.f_neg, v1_a]⟩, .agg ⟨[.bool b.f_n.f_neg, v2_b, .bool b.f_d.f_neg, v3_b]⟩]) rfl (ratio_Ratio_cross.calls k (a := a) (b := b) hy5 h0_a h1_a h2_b h3_b)) ?_
 rintro _ H6 _ ⟨rfl, e7, ⟨v8, v10, rfl, h9, h11⟩⟩
 refine wM (.tuple ⟨[.agg ⟨[.bool y4.1.f_neg, v8]⟩, .agg ⟨[.bool y4.2.1.f_neg, v10]⟩, errV 104 y4.2.2]⟩) rfl rfl <| w_d rfl (d_ext (vs := [.agg ⟨[.bool y4.1.f_neg, v8]⟩, .agg ⟨[.bool y4.2.1.f_neg, v10]⟩, errV 104 y4.2.2]) rfl rfl) <| w_d rfl (d_ext (vs := [.agg ⟨[.bool y4.1.f_neg, v8]⟩, .agg ⟨[.bool y4.2.1.f_neg, v10]⟩, errV 104 y4.2.2]) rfl rfl) <| w_d rfl (d_ext (vs := [.agg ⟨[.bool y4.1.f_neg, v8]⟩, .agg ⟨[.bool y4.2.1.f_neg, v10]⟩, errV 104 y4.2.2]) rfl rfl) <| w_a rfl (o_alloc zr24 rfl) ?_
 rintro _ _ _ ⟨b12, rfl, rfl, rfl⟩
 refine w_a rfl (o_alloc zr24 rfl) ?_
 rintro _ _ _ ⟨b13, rfl, rfl, rfl⟩
 refine w_a0 rfl (o_store (v := .agg ⟨[.bool y4.1.f_neg, v8]⟩) sz24 rfl rfl rfl rfl (oc rfl (oc (h9.one) oz)) (.there .here) u2) ?_
 rintro _ _ _ ⟨rfl, rfl, rfl⟩
 refine w_a0 rfl (o_store (v := .agg ⟨[.bool y4.2.1.f_neg, v10]⟩) sz24 rfl rfl rfl rfl (oc rfl (oc (h11.one) oz)) .here u2) ?_
 rintro _ _ _ ⟨rfl, rfl, rfl⟩
 refine wA (errV 104 y4.2.2) rfl rfl <| wE <| wR rfl <| wM (errV 104 y4.2.2) rfl rfl <| w_d rfl (d_nenil (e := y4.2.2) Tryz.underlying30 rfl) <| w_done ?_
 rcases its he with ⟨c14, he⟩ | ⟨c14, he⟩
 ·
  refine w_then rfl c14 <| wR rfl <| w_d rfl (d_build (cs' := [.bool false, .slice none 0 0, .bool false, .slice none 0 0]) Tryz.underlying26 zr26 rfl (by kernel_rfl) (parts := []) rfl .nil) <| wM (errV 104 y4.2.2) rfl rfl <| w_a0 rfl (o_store (v := .agg ⟨[.bool false, .slice none 0 0, .bool false, .slice none 0 0]⟩) sz26 rfl rfl rfl rfl (oc rfl (oc rfl (oc rfl (oc rfl oz)))) (.there (.there .here)) u4) ?_
  rintro _ _ _ ⟨rfl, rfl, rfl⟩
  refine wA (errV 104 y4.2.2) rfl rfl <| w_done ?_
  obtain rfl := sj he
  refine w_return fn_76 rs_76 (.box (v := .agg ⟨[.bool false, .slice none 0 0, .bool false, .slice none 0 0]⟩) rfl ty26 rfl rfl (.there (.there .here)) rfl (.tmp (v := errV 104 y4.2.2) rfl .nil)) <| ⟨⟨[_, _, _, _, _], rfl⟩, hle.trans e7, ⟨.slice none 0 0, .slice none 0 0, rfl, (ro_nil _ _), (ro_nil _ _)⟩⟩
 ·
  refine w_else rfl (Bool.eq_false_iff.2 c14) <| w_skip <| w_seq <| wR rfl <| wM (.bool less) rfl rfl <| w_done ?_
  rcases its he with ⟨c15, he⟩ | ⟨c15, he⟩
  ·
   refine w_then rfl c15 <| w_region rfl <| wL (.agg ⟨[.bool y4.2.1.f_neg, v10]⟩) ty24 rfl rfl .here rfl rfl ?_
   obtain ⟨y16, hy17, he⟩ := bs he
   refine w_a rfl (o_call co121 (vs := [.agg ⟨[.bool y4.2.1.f_neg, v10]⟩]) rfl (wide_Int_Neg.calls k (a := y4.2.1) hy17 h11)) ?_
   rintro _ H18 _ ⟨rfl, e19, ⟨v20, rfl, h21⟩⟩
   refine w_a0 rfl (o_store (v := .agg ⟨[.bool y16.f_neg, v20]⟩) sz24 rfl rfl rfl rfl (oc rfl (oc (h21.one) oz)) .here u2) ?_
   rintro _ _ _ ⟨rfl, rfl, rfl⟩
   refine w_done <| w_sl 3 (.pointer (some ⟨b1, 0, none⟩)) rfl <| w_sl 4 (.pointer (some ⟨b2, 0, none⟩)) rfl <| w_sl 6 (.pointer (some ⟨b3, 0, none⟩)) rfl <| w_sl 7 (errV 104 none) rfl <| w_sl 8 (.pointer (some ⟨b12, 0, none⟩)) rfl <| w_sl 9 (.pointer (some ⟨b13, 0, none⟩)) rfl <| ratio_Ratio_joined.j1_ok (k := k) (hle.trans (e7.trans e19)) he (h0_a.mono (e7.trans e19)) (h1_a.mono (e7.trans e19)) (h2_b.mono (e7.trans e19)) (h3_b.mono (e7.trans e19)) (h9.mono e19) h21
  ·
   refine w_else rfl (Bool.eq_false_iff.2 c15) <| w_skip <| w_sl 3 (.pointer (some ⟨b1, 0, none⟩)) rfl <| w_sl 4 (.pointer (some ⟨b2, 0, none⟩)) rfl <| w_sl 6 (.pointer (some ⟨b3, 0, none⟩)) rfl <| w_sl 7 (errV 104 none) rfl <| w_sl 8 (.pointer (some ⟨b12, 0, none⟩)) rfl <| w_sl 9 (.pointer (some ⟨b13, 0, none⟩)) rfl <| ratio_Ratio_joined.j1_ok (k := k) (hle.trans e7) he (h0_a.mono e7) (h1_a.mono e7) (h2_b.mono e7) (h3_b.mono e7) h9 h11
noncomputable def ratio_Ratio_Add.C : Code := (Tryz.f23.body).getD .skip
def ratio_Ratio_Add.out (r : ratio_Ratio × (Option Int)) (H : Hp) (v : Value) : Prop := ∃ v0, ∃ v1, v = .tuple ⟨[.agg ⟨[.bool r.1.f_n.f_neg, v0, .bool r.1.f_d.f_neg, v1]⟩, errV 104 r.2]⟩ ∧ Ro kU32 H v0 r.1.f_n.f_w ∧ Ro kU32 H v1 r.1.f_d.f_w
theorem ratio_Ratio_Add.out_mono (r : ratio_Ratio × (Option Int)) {H H' : Hp} {v : Value} (hle : H.le H') (h : ratio_Ratio_Add.out r H v) : ratio_Ratio_Add.out r H' v := by
 obtain ⟨v0, v1, rfl, h0, h1⟩ := h; exact ⟨v0, v1, rfl, h0.mono hle, h1.mono hle⟩
noncomputable def ratio_Ratio_Add.f (k : Nat) (a : ratio_Ratio) (b : ratio_Ratio) : Option (ratio_Ratio × (Option Int)) := (ratio_Ratio_joined.f k a b false).bind fun y4 => some (y4.1, y4.2)
theorem ratio_Ratio_Add.mono : ∀ k y0 y1, LeO (ratio_Ratio_Add.f k y0 y1) (ratio_Ratio_Add.f (k + 1) y0 y1) := fun k _ _ => by unfold ratio_Ratio_Add.f; exact (LeO.bind (ratio_Ratio_joined.mono k _ _ _) fun _ => LeO.refl _)
theorem ratio_Ratio_Add.calls (k : Nat) {H : Hp} {L : Items} {a : ratio_Ratio} {b : ratio_Ratio} {v0_a : Value} {v1_a : Value} {v2_b : Value} {v3_b : Value} {r : ratio_Ratio × (Option Int)} (he : ratio_Ratio_Add.f k a b = some r) (h0_a : Ro kU32 H v0_a a.f_n.f_w) (h1_a : Ro kU32 H v1_a a.f_d.f_w) (h2_b : Ro kU32 H v2_b b.f_n.f_w) (h3_b : Ro kU32 H v3_b b.f_d.f_w) : Ct Tryz.prog 23 ⟨[.agg ⟨[.bool a.f_n.f_neg, v0_a, .bool a.f_d.f_neg, v1_a]⟩, .agg ⟨[.bool b.f_n.f_neg, v2_b, .bool b.f_d.f_neg, v3_b]⟩]⟩ H L (cR H L (ratio_Ratio_Add.out r)) := by
 refine ct_out (O := ratio_Ratio_Add.out r) ?_
 have hle : H.le H := .refl _
 unfold ratio_Ratio_Add.f at he
 refine ct_enter (args := [.agg ⟨[.bool a.f_n.f_neg, v0_a, .bool a.f_d.f_neg, v1_a]⟩, .agg ⟨[.bool b.f_n.f_neg, v2_b, .bool b.f_d.f_neg, v3_b]⟩]) fn_23 rfl nt_23 rfl <| wR rfl <| w_a rfl (o_box (v := .agg ⟨[.bool a.f_n.f_neg, v0_a, .bool a.f_d.f_neg, v1_a]⟩) rfl rfl) ?_
 rintro _ _ _ ⟨b1, rfl, rfl, rfl⟩
 refine w_a rfl (o_box (v := .agg ⟨[.bool b.f_n.f_neg, v2_b, .bool b.f_d.f_neg, v3_b]⟩) rfl rfl) ?_
 rintro _ _ _ ⟨b2, rfl, rfl, rfl⟩
 refine w_a rfl (o_alloc zr26 rfl) ?_
 rintro _ _ _ ⟨b3, rfl, rfl, rfl⟩
 refine wA (errV 104 none) rfl rfl <| wQ rfl <| wL (.agg ⟨[.bool a.f_n.f_neg, v0_a, .bool a.f_d.f_neg, v1_a]⟩) ty26 rfl rfl (.there (.there .here)) rfl rfl <| wL (.agg ⟨[.bool b.f_n.f_neg, v2_b, .bool b.f_d.f_neg, v3_b]⟩) ty26 rfl rfl (.there .here) rfl rfl ?_
 obtain ⟨y4, hy5, he⟩ := bs he
 refine w_a rfl (o_call co76 (vs := [.agg ⟨[.bool a.f_n.f_neg, v0_a, .bool a.f_d.f_neg, v1_a]⟩, .agg ⟨[.bool b.f_n.f_neg, v2_b, .bool b.f_d.f_neg, v3_b]⟩, .bool false]) rfl (ratio_Ratio_joined.calls k (a := a) (b := b) hy5 h0_a h1_a h2_b h3_b)) ?_
 rintro _ H6 _ ⟨rfl, e7, ⟨v8, v10, rfl, h9, h11⟩⟩
 refine w_d rfl (d_ext (vs := [.agg ⟨[.bool y4.1.f_n.f_neg, v8, .bool y4.1.f_d.f_neg, v10]⟩, errV 104 y4.2]) rfl rfl) <| w_d rfl (d_ext (vs := [.agg ⟨[.bool y4.1.f_n.f_neg, v8, .bool y4.1.f_d.f_neg, v10]⟩, errV 104 y4.2]) rfl rfl) <| w_a0 rfl (o_store (v := .agg ⟨[.bool y4.1.f_n.f_neg, v8, .bool y4.1.f_d.f_neg, v10]⟩) sz26 rfl rfl rfl rfl (oc rfl (oc (h9.one) (oc rfl (oc (h11.one) oz)))) .here u4) ?_
 rintro _ _ _ ⟨rfl, rfl, rfl⟩
 refine wA (errV 104 y4.2) rfl rfl <| w_done ?_
 obtain rfl := sj he
 refine w_return fn_23 rs_23 (.box (v := .agg ⟨[.bool y4.1.f_n.f_neg, v8, .bool y4.1.f_d.f_neg, v10]⟩) rfl ty26 rfl rfl .here rfl (.tmp (v := errV 104 y4.2) rfl .nil)) <| ⟨⟨[_, _, _], rfl⟩, hle.trans e7, ⟨v8, v10, rfl, h9, h11⟩⟩
noncomputable def ratio_product.C : Code := (Tryz.f77.body).getD .skip
def ratio_product.out (r : ratio_Ratio × (Option Int)) (H : Hp) (v : Value) : Prop := ∃ v0, ∃ v1, v = .tuple ⟨[.agg ⟨[.bool r.1.f_n.f_neg, v0, .bool r.1.f_d.f_neg, v1]⟩, errV 104 r.2]⟩ ∧ Ro kU32 H v0 r.1.f_n.f_w ∧ Ro kU32 H v1 r.1.f_d.f_w
theorem ratio_product.out_mono (r : ratio_Ratio × (Option Int)) {H H' : Hp} {v : Value} (hle : H.le H') (h : ratio_product.out r H v) : ratio_product.out r H' v := by
 obtain ⟨v0, v1, rfl, h0, h1⟩ := h; exact ⟨v0, v1, rfl, h0.mono hle, h1.mono hle⟩
noncomputable def ratio_product.f (k : Nat) (n : wide_Int) (m : wide_Int) (d : wide_Int) (e_ : wide_Int) : Option (ratio_Ratio × (Option Int)) := (wide_Int_Mul.f k n m).bind fun y6 => if y6.2.isSome = true then (some ((⟨(⟨false, []⟩ : wide_Int), (⟨false, []⟩ : wide_Int)⟩ : ratio_Ratio), y6.2)) else ((wide_Int_Mul.f k d e_).bind fun y14 => if y14.2.isSome = true then (some ((⟨(⟨false, []⟩ : wide_Int), (⟨false, []⟩ : wide_Int)⟩ : ratio_Ratio), y14.2)) else ((ratio_Of.f k y6.1 y14.1).bind fun y22 => some (y22.1, y22.2)))
theorem ratio_product.calls (k : Nat) {H : Hp} {L : Items} {n : wide_Int} {m : wide_Int} {d : wide_Int} {e_ : wide_Int} {v0_n : Value} {v1_m : Value} {v2_d : Value} {v3_e_ : Value} {r : ratio_Ratio × (Option Int)} (he : ratio_product.f k n m d e_ = some r) (h0_n : Ro kU32 H v0_n n.f_w) (h1_m : Ro kU32 H v1_m m.f_w) (h2_d : Ro kU32 H v2_d d.f_w) (h3_e_ : Ro kU32 H v3_e_ e_.f_w) : Ct Tryz.prog 77 ⟨[.agg ⟨[.bool n.f_neg, v0_n]⟩, .agg ⟨[.bool m.f_neg, v1_m]⟩, .agg ⟨[.bool d.f_neg, v2_d]⟩, .agg ⟨[.bool e_.f_neg, v3_e_]⟩]⟩ H L (cR H L (ratio_product.out r)) := by
 refine ct_out (O := ratio_product.out r) ?_
 have hle : H.le H := .refl _
 unfold ratio_product.f at he
 refine ct_enter (args := [.agg ⟨[.bool n.f_neg, v0_n]⟩, .agg ⟨[.bool m.f_neg, v1_m]⟩, .agg ⟨[.bool d.f_neg, v2_d]⟩, .agg ⟨[.bool e_.f_neg, v3_e_]⟩]) fn_77 rfl nt_77 rfl <| wR rfl <| w_a rfl (o_box (v := .agg ⟨[.bool n.f_neg, v0_n]⟩) rfl rfl) ?_
 rintro _ _ _ ⟨b1, rfl, rfl, rfl⟩
 refine w_a rfl (o_box (v := .agg ⟨[.bool m.f_neg, v1_m]⟩) rfl rfl) ?_
 rintro _ _ _ ⟨b2, rfl, rfl, rfl⟩
 refine w_a rfl (o_box (v := .agg ⟨[.bool d.f_neg, v2_d]⟩) rfl rfl) ?_
 rintro _ _ _ ⟨b3, rfl, rfl, rfl⟩
 refine w_a rfl (o_box (v := .agg ⟨[.bool e_.f_neg, v3_e_]⟩) rfl rfl) ?_
 rintro _ _ _ ⟨b4, rfl, rfl, rfl⟩
 refine w_a rfl (o_alloc zr26 rfl) ?_
 rintro _ _ _ ⟨b5, rfl, rfl, rfl⟩
 refine wA (errV 104 none) rfl rfl <| wQ rfl <| wL (.agg ⟨[.bool n.f_neg, v0_n]⟩) ty24 rfl rfl (.there (.there (.there (.there .here)))) rfl rfl <| wL (.agg ⟨[.bool m.f_neg, v1_m]⟩) ty24 rfl rfl (.there (.there (.there .here))) rfl rfl ?_
 obtain ⟨y6, hy7, he⟩ := bs he
 refine w_a rfl (o_call co128 (vs := [.agg ⟨[.bool n.f_neg, v0_n]⟩, .agg ⟨[.bool m.f_neg, v1_m]⟩]) rfl (wide_Int_Mul.calls k (a := n) (b := m) hy7 h0_n h1_m)) ?_
 rintro _ H8 _ ⟨rfl, e9, ⟨v10, rfl, h11⟩⟩
 refine wM (.tuple ⟨[.agg ⟨[.bool y6.1.f_neg, v10]⟩, errV 104 y6.2]⟩) rfl rfl <| w_d rfl (d_ext (vs := [.agg ⟨[.bool y6.1.f_neg, v10]⟩, errV 104 y6.2]) rfl rfl) <| w_d rfl (d_ext (vs := [.agg ⟨[.bool y6.1.f_neg, v10]⟩, errV 104 y6.2]) rfl rfl) <| w_a rfl (o_alloc zr24 rfl) ?_
 rintro _ _ _ ⟨b12, rfl, rfl, rfl⟩
 refine w_a0 rfl (o_store (v := .agg ⟨[.bool y6.1.f_neg, v10]⟩) sz24 rfl rfl rfl rfl (oc rfl (oc (h11.one) oz)) .here u2) ?_
 rintro _ _ _ ⟨rfl, rfl, rfl⟩
 refine wA (errV 104 y6.2) rfl rfl <| wE <| wR rfl <| wM (errV 104 y6.2) rfl rfl <| w_d rfl (d_nenil (e := y6.2) Tryz.underlying30 rfl) <| w_done ?_
 rcases its he with ⟨c13, he⟩ | ⟨c13, he⟩
 ·
  refine w_then rfl c13 <| wR rfl <| w_d rfl (d_build (cs' := [.bool false, .slice none 0 0, .bool false, .slice none 0 0]) Tryz.underlying26 zr26 rfl (by kernel_rfl) (parts := []) rfl .nil) <| wM (errV 104 y6.2) rfl rfl <| w_a0 rfl (o_store (v := .agg ⟨[.bool false, .slice none 0 0, .bool false, .slice none 0 0]⟩) sz26 rfl rfl rfl rfl (oc rfl (oc rfl (oc rfl (oc rfl oz)))) (.there .here) u4) ?_
  rintro _ _ _ ⟨rfl, rfl, rfl⟩
  refine wA (errV 104 y6.2) rfl rfl <| w_done ?_
  obtain rfl := sj he
  refine w_return fn_77 rs_77 (.box (v := .agg ⟨[.bool false, .slice none 0 0, .bool false, .slice none 0 0]⟩) rfl ty26 rfl rfl (.there .here) rfl (.tmp (v := errV 104 y6.2) rfl .nil)) <| ⟨⟨[_, _, _, _, _, _], rfl⟩, hle.trans e9, ⟨.slice none 0 0, .slice none 0 0, rfl, (ro_nil _ _), (ro_nil _ _)⟩⟩
 ·
  refine w_else rfl (Bool.eq_false_iff.2 c13) <| w_skip <| wR rfl <| wL (.agg ⟨[.bool d.f_neg, v2_d]⟩) ty24 rfl rfl (.there (.there (.there .here))) rfl rfl <| wL (.agg ⟨[.bool e_.f_neg, v3_e_]⟩) ty24 rfl rfl (.there (.there .here)) rfl rfl ?_
  obtain ⟨y14, hy15, he⟩ := bs he
  refine w_a rfl (o_call co128 (vs := [.agg ⟨[.bool d.f_neg, v2_d]⟩, .agg ⟨[.bool e_.f_neg, v3_e_]⟩]) rfl (wide_Int_Mul.calls k (a := d) (b := e_) hy15 (h2_d.mono e9) (h3_e_.mono e9))) ?_
  rintro _ H16 _ ⟨rfl, e17, ⟨v18, rfl, h19⟩⟩
  refine wM (.tuple ⟨[.agg ⟨[.bool y14.1.f_neg, v18]⟩, errV 104 y14.2]⟩) rfl rfl <| w_d rfl (d_ext (vs := [.agg ⟨[.bool y14.1.f_neg, v18]⟩, errV 104 y14.2]) rfl rfl) <| w_d rfl (d_ext (vs := [.agg ⟨[.bool y14.1.f_neg, v18]⟩, errV 104 y14.2]) rfl rfl) <| w_a rfl (o_alloc zr24 rfl) ?_
  rintro _ _ _ ⟨b20, rfl, rfl, rfl⟩
  refine w_a0 rfl (o_store (v := .agg ⟨[.bool y14.1.f_neg, v18]⟩) sz24 rfl rfl rfl rfl (oc rfl (oc (h19.one) oz)) .here u2) ?_
  rintro _ _ _ ⟨rfl, rfl, rfl⟩
  refine wA (errV 104 y14.2) rfl rfl <| wE <| wR rfl <| wM (errV 104 y14.2) rfl rfl <| w_d rfl (d_nenil (e := y14.2) Tryz.underlying30 rfl) <| w_done ?_
  rcases its he with ⟨c21, he⟩ | ⟨c21, he⟩
  ·
   refine w_then rfl c21 <| wR rfl <| w_d rfl (d_build (cs' := [.bool false, .slice none 0 0, .bool false, .slice none 0 0]) Tryz.underlying26 zr26 rfl (by kernel_rfl) (parts := []) rfl .nil) <| wM (errV 104 y14.2) rfl rfl <| w_a0 rfl (o_store (v := .agg ⟨[.bool false, .slice none 0 0, .bool false, .slice none 0 0]⟩) sz26 rfl rfl rfl rfl (oc rfl (oc rfl (oc rfl (oc rfl oz)))) (.there (.there .here)) u4) ?_
   rintro _ _ _ ⟨rfl, rfl, rfl⟩
   refine wA (errV 104 y14.2) rfl rfl <| w_done ?_
   obtain rfl := sj he
   refine w_return fn_77 rs_77 (.box (v := .agg ⟨[.bool false, .slice none 0 0, .bool false, .slice none 0 0]⟩) rfl ty26 rfl rfl (.there (.there .here)) rfl (.tmp (v := errV 104 y14.2) rfl .nil)) <| ⟨⟨[_, _, _, _, _, _, _], rfl⟩, hle.trans (e9.trans e17), ⟨.slice none 0 0, .slice none 0 0, rfl, (ro_nil _ _), (ro_nil _ _)⟩⟩
  ·
   refine w_else rfl (Bool.eq_false_iff.2 c21) <| w_skip <| wR rfl <| wL (.agg ⟨[.bool y6.1.f_neg, v10]⟩) ty24 rfl rfl (.there .here) rfl rfl <| wL (.agg ⟨[.bool y14.1.f_neg, v18]⟩) ty24 rfl rfl .here rfl rfl ?_
   obtain ⟨y22, hy23, he⟩ := bs he
   refine w_a rfl (o_call co73 (vs := [.agg ⟨[.bool y6.1.f_neg, v10]⟩, .agg ⟨[.bool y14.1.f_neg, v18]⟩]) rfl (ratio_Of.calls k (n := y6.1) (d := y14.1) hy23 (h11.mono e17) h19)) ?_
   rintro _ H24 _ ⟨rfl, e25, ⟨v26, v28, rfl, h27, h29⟩⟩
   refine w_d rfl (d_ext (vs := [.agg ⟨[.bool y22.1.f_n.f_neg, v26, .bool y22.1.f_d.f_neg, v28]⟩, errV 104 y22.2]) rfl rfl) <| w_d rfl (d_ext (vs := [.agg ⟨[.bool y22.1.f_n.f_neg, v26, .bool y22.1.f_d.f_neg, v28]⟩, errV 104 y22.2]) rfl rfl) <| w_a0 rfl (o_store (v := .agg ⟨[.bool y22.1.f_n.f_neg, v26, .bool y22.1.f_d.f_neg, v28]⟩) sz26 rfl rfl rfl rfl (oc rfl (oc (h27.one) (oc rfl (oc (h29.one) oz)))) (.there (.there .here)) u4) ?_
   rintro _ _ _ ⟨rfl, rfl, rfl⟩
   refine wA (errV 104 y22.2) rfl rfl <| w_done ?_
   obtain rfl := sj he
   refine w_return fn_77 rs_77 (.box (v := .agg ⟨[.bool y22.1.f_n.f_neg, v26, .bool y22.1.f_d.f_neg, v28]⟩) rfl ty26 rfl rfl (.there (.there .here)) rfl (.tmp (v := errV 104 y22.2) rfl .nil)) <| ⟨⟨[_, _, _, _, _, _, _], rfl⟩, hle.trans ((e9.trans e17).trans e25), ⟨v26, v28, rfl, h27, h29⟩⟩
noncomputable def ratio_Ratio_Mul.C : Code := (Tryz.f24.body).getD .skip
def ratio_Ratio_Mul.out (r : ratio_Ratio × (Option Int)) (H : Hp) (v : Value) : Prop := ∃ v0, ∃ v1, v = .tuple ⟨[.agg ⟨[.bool r.1.f_n.f_neg, v0, .bool r.1.f_d.f_neg, v1]⟩, errV 104 r.2]⟩ ∧ Ro kU32 H v0 r.1.f_n.f_w ∧ Ro kU32 H v1 r.1.f_d.f_w
theorem ratio_Ratio_Mul.out_mono (r : ratio_Ratio × (Option Int)) {H H' : Hp} {v : Value} (hle : H.le H') (h : ratio_Ratio_Mul.out r H v) : ratio_Ratio_Mul.out r H' v := by
 obtain ⟨v0, v1, rfl, h0, h1⟩ := h; exact ⟨v0, v1, rfl, h0.mono hle, h1.mono hle⟩
noncomputable def ratio_Ratio_Mul.f (k : Nat) (a : ratio_Ratio) (b : ratio_Ratio) : Option (ratio_Ratio × (Option Int)) := (ratio_Ratio_under.f k a).bind fun y4 => (ratio_Ratio_under.f k b).bind fun y10 => (ratio_product.f k a.f_n b.f_n y4 y10).bind fun y16 => some (y16.1, y16.2)
theorem ratio_Ratio_Mul.calls (k : Nat) {H : Hp} {L : Items} {a : ratio_Ratio} {b : ratio_Ratio} {v0_a : Value} {v1_a : Value} {v2_b : Value} {v3_b : Value} {r : ratio_Ratio × (Option Int)} (he : ratio_Ratio_Mul.f k a b = some r) (h0_a : Ro kU32 H v0_a a.f_n.f_w) (h1_a : Ro kU32 H v1_a a.f_d.f_w) (h2_b : Ro kU32 H v2_b b.f_n.f_w) (h3_b : Ro kU32 H v3_b b.f_d.f_w) : Ct Tryz.prog 24 ⟨[.agg ⟨[.bool a.f_n.f_neg, v0_a, .bool a.f_d.f_neg, v1_a]⟩, .agg ⟨[.bool b.f_n.f_neg, v2_b, .bool b.f_d.f_neg, v3_b]⟩]⟩ H L (cR H L (ratio_Ratio_Mul.out r)) := by
 refine ct_out (O := ratio_Ratio_Mul.out r) ?_
 have hle : H.le H := .refl _
 unfold ratio_Ratio_Mul.f at he
 refine ct_enter (args := [.agg ⟨[.bool a.f_n.f_neg, v0_a, .bool a.f_d.f_neg, v1_a]⟩, .agg ⟨[.bool b.f_n.f_neg, v2_b, .bool b.f_d.f_neg, v3_b]⟩]) fn_24 rfl nt_24 rfl <| wR rfl <| w_a rfl (o_box (v := .agg ⟨[.bool a.f_n.f_neg, v0_a, .bool a.f_d.f_neg, v1_a]⟩) rfl rfl) ?_
 rintro _ _ _ ⟨b1, rfl, rfl, rfl⟩
 refine w_a rfl (o_box (v := .agg ⟨[.bool b.f_n.f_neg, v2_b, .bool b.f_d.f_neg, v3_b]⟩) rfl rfl) ?_
 rintro _ _ _ ⟨b2, rfl, rfl, rfl⟩
 refine w_a rfl (o_alloc zr26 rfl) ?_
 rintro _ _ _ ⟨b3, rfl, rfl, rfl⟩
 refine wA (errV 104 none) rfl rfl <| wE ?_
 obtain ⟨y4, hy5, he⟩ := bs he
 obtain ⟨y10, hy11, he⟩ := bs he
 obtain ⟨y16, hy17, he⟩ := bs he
 refine w_drawn (p := 11) (tl := [11, 12]) [[], [(0, some 6)], [], [(2, some 8)], [], [(4, some 10)], [], [(6, some 12)], [(1, some 7), (3, some 9), (5, some 11), (7, some 13)], [(8, some 14)], [(8, some 14)]] [some 6, some 7, some 8, some 9, some 10, some 11, some 12, some 13, some 14, some 15, some 16] (fctF (.is (.pointer (some ⟨b1, 0, none⟩)) :: .is (.agg ⟨[.bool a.f_n.f_neg, v0_a]⟩) :: .is (.pointer (some ⟨b2, 0, none⟩)) :: .is (.agg ⟨[.bool b.f_n.f_neg, v2_b]⟩) :: .is (.agg ⟨[.bool a.f_n.f_neg, v0_a, .bool a.f_d.f_neg, v1_a]⟩) :: .of (ratio_Ratio_under.out y4) (ratio_Ratio_under.out_mono _) :: .is (.agg ⟨[.bool b.f_n.f_neg, v2_b, .bool b.f_d.f_neg, v3_b]⟩) :: .of (ratio_Ratio_under.out y10) (ratio_Ratio_under.out_mono _) :: .of (ratio_product.out y16) (ratio_product.out_mono _) :: .of (fun H v => ∃ v24, ∃ v26, v = .agg ⟨[.bool y16.1.f_n.f_neg, v24, .bool y16.1.f_d.f_neg, v26]⟩ ∧ Ro kU32 H v24 y16.1.f_n.f_w ∧ Ro kU32 H v26 y16.1.f_d.f_w) (by rintro _ _ _ hle ⟨v24, v26, rfl, h25, h27⟩; exact ⟨v24, v26, rfl, h25.mono hle, h27.mono hle⟩) :: .is (errV 104 y16.2) :: [])) (fun m_ => some (b3, .cells ⟨[.bool false, .slice none 0 0, .bool false, .slice none 0 0]⟩ 26 (0, 0)) :: some (b2, .cells ⟨[.bool b.f_n.f_neg, v2_b, .bool b.f_d.f_neg, v3_b]⟩ 26 (0, 0)) :: some (b1, .cells ⟨[.bool a.f_n.f_neg, v0_a, .bool a.f_d.f_neg, v1_a]⟩ 26 (0, 0)) :: L) (fun _ => none) mixed (by kernel_rfl) (by kernel_rfl) rfl (fct_mono (by kernel_rfl)) ⟨(fun H' m_ hH hm_ hu_ => dn <| s_d (m_ 0) rfl (d_fld (o' := 0) Tryz.underlying26 rfl sz24 rfl rfl rfl) (by exact rfl) rfl), (by rintro H' m_ hH hm_ hu_ _ rfl; exact dn <| s_d (m_ 1) rfl (d_loado (v := .agg ⟨[.bool a.f_n.f_neg, v0_a]⟩) ty24 rfl (.there (.there .here)) rfl rfl rfl rfl) (by exact rfl) rfl), (fun H' m_ hH hm_ hu_ => dn <| s_d (m_ 2) rfl (d_fld (o' := 0) Tryz.underlying26 rfl sz24 rfl rfl rfl) (by exact rfl) rfl), (by rintro H' m_ hH hm_ hu_ _ rfl; exact dn <| s_d (m_ 3) rfl (d_loado (v := .agg ⟨[.bool b.f_n.f_neg, v2_b]⟩) ty24 rfl (.there .here) rfl rfl rfl rfl) (by exact rfl) rfl), (fun H' m_ hH hm_ hu_ => dn <| s_d (m_ 4) rfl (d_loado (v := .agg ⟨[.bool a.f_n.f_neg, v0_a, .bool a.f_d.f_neg, v1_a]⟩) ty26 rfl (.there (.there .here)) rfl rfl rfl rfl) (by exact rfl) rfl), (by rintro H' m_ hH hm_ hu_ _ rfl; exact dn <| s_k (m_ 5) rfl (o_call co78 (vs := [.agg ⟨[.bool a.f_n.f_neg, v0_a, .bool a.f_d.f_neg, v1_a]⟩]) rfl (ratio_Ratio_under.calls k (a := a) hy5 (h0_a.mono hH) (h1_a.mono hH))) rfl (by rintro v_ H_ _ ⟨rfl, e_, h_⟩; exact ⟨rfl, e_, h_⟩)), (fun H' m_ hH hm_ hu_ => dn <| s_d (m_ 6) rfl (d_loado (v := .agg ⟨[.bool b.f_n.f_neg, v2_b, .bool b.f_d.f_neg, v3_b]⟩) ty26 rfl (.there .here) rfl rfl rfl rfl) (by exact rfl) rfl), (by rintro H' m_ hH hm_ hu_ _ rfl; exact dn <| s_k (m_ 7) rfl (o_call co78 (vs := [.agg ⟨[.bool b.f_n.f_neg, v2_b, .bool b.f_d.f_neg, v3_b]⟩]) rfl (ratio_Ratio_under.calls k (a := b) hy11 (h2_b.mono hH) (h3_b.mono hH))) rfl (by rintro v_ H_ _ ⟨rfl, e_, h_⟩; exact ⟨rfl, e_, h_⟩)), (by rintro H' m_ hH hm_ hu_ _ rfl _ rfl _ ⟨v8, rfl, h9⟩ _ ⟨v14, rfl, h15⟩; exact dn <| s_k (m_ 8) rfl (o_call co77 (vs := [.agg ⟨[.bool a.f_n.f_neg, v0_a]⟩, .agg ⟨[.bool b.f_n.f_neg, v2_b]⟩, .agg ⟨[.bool y4.f_neg, v8]⟩, .agg ⟨[.bool y10.f_neg, v14]⟩]) rfl (ratio_product.calls k (n := a.f_n) (m := b.f_n) (d := y4) (e_ := y10) hy17 (h0_a.mono hH) (h2_b.mono hH) h9 h15)) rfl (by rintro v_ H_ _ ⟨rfl, e_, h_⟩; exact ⟨rfl, e_, h_⟩)), (by rintro H' m_ hH hm_ hu_ _ ⟨v20, v22, rfl, h21, h23⟩; exact dn <| s_d (m_ 9) rfl (d_ext (vs := [.agg ⟨[.bool y16.1.f_n.f_neg, v20, .bool y16.1.f_d.f_neg, v22]⟩, errV 104 y16.2]) rfl rfl) (by exact ⟨v20, v22, rfl, h21, h23⟩) rfl), (by rintro H' m_ hH hm_ hu_ _ ⟨v20, v22, rfl, h21, h23⟩; exact dn <| s_d (m_ 10) rfl (d_ext (vs := [.agg ⟨[.bool y16.1.f_n.f_neg, v20, .bool y16.1.f_d.f_neg, v22]⟩, errV 104 y16.2]) rfl rfl) (by exact rfl) rfl), trivial⟩ ?_
 intro H28 e29
 rintro _ _ rfl _ _ rfl _ _ rfl _ _ rfl _ _ rfl _ _ ⟨v8, rfl, h9⟩ _ _ rfl _ _ ⟨v14, rfl, h15⟩ _ _ ⟨v20, v22, rfl, h21, h23⟩ _ _ ⟨v24, v26, rfl, h25, h27⟩ _ _ rfl
 refine w_a0 rfl (o_store (v := .agg ⟨[.bool y16.1.f_n.f_neg, v24, .bool y16.1.f_d.f_neg, v26]⟩) sz26 rfl rfl rfl rfl (oc rfl (oc (h25.one) (oc rfl (oc (h27.one) oz)))) .here u4) ?_
 rintro _ _ _ ⟨rfl, rfl, rfl⟩
 refine wA (errV 104 y16.2) rfl rfl <| w_done ?_
 obtain rfl := sj he
 refine w_return fn_24 rs_24 (.box (v := .agg ⟨[.bool y16.1.f_n.f_neg, v24, .bool y16.1.f_d.f_neg, v26]⟩) rfl ty26 rfl rfl .here rfl (.tmp (v := errV 104 y16.2) rfl .nil)) <| ⟨⟨[_, _, _], rfl⟩, hle.trans e29, ⟨v24, v26, rfl, h25, h27⟩⟩
noncomputable def wide_Int_Cmp.C : Code := (Tryz.f107.body).getD .skip
def wide_Int_Cmp.out (r : Int) (H : Hp) (v : Value) : Prop := v = .int .i64 r
noncomputable def wide_Int_Cmp.f (k : Nat) (a : wide_Int) (b : wide_Int) : Option Int := (wide_Int_Sign.f k a).bind fun y3 => (wide_Int_Sign.f k b).bind fun y9 => (cmp_Compare_int.f k y3 y9).bind fun y13 => if ((!decide (y13 = 0)) || (!(a.f_neg == b.f_neg))) = true then (some (y13)) else (if a.f_neg = true then ((wide_less.f k b.f_w a.f_w).bind fun y24 => some (y24)) else ((wide_less.f k a.f_w b.f_w).bind fun y28 => some (y28)))
theorem wide_Int_Cmp.mono : ∀ k y0 y1, LeO (wide_Int_Cmp.f k y0 y1) (wide_Int_Cmp.f (k + 1) y0 y1) := fun k _ _ => by unfold wide_Int_Cmp.f; exact (LeO.bind (wide_Int_Sign.mono k _) fun _ => LeO.bind (wide_Int_Sign.mono k _) fun _ => LeO.bind (cmp_Compare_int.mono k _ _) fun _ => LeO.ite (LeO.refl _) (LeO.ite (LeO.bind (wide_less.mono k _ _) fun _ => LeO.refl _) (LeO.bind (wide_less.mono k _ _) fun _ => LeO.refl _)))
theorem wide_Int_Cmp.calls (k : Nat) {H : Hp} {L : Items} {a : wide_Int} {b : wide_Int} {v0_a : Value} {v1_b : Value} {r : Int} (he : wide_Int_Cmp.f k a b = some r) (h0_a : Ro kU32 H v0_a a.f_w) (h1_b : Ro kU32 H v1_b b.f_w) : Ct Tryz.prog 107 ⟨[.agg ⟨[.bool a.f_neg, v0_a]⟩, .agg ⟨[.bool b.f_neg, v1_b]⟩]⟩ H L (fun v H' L' => L = L' ∧ H = H' ∧ v = .int .i64 r) := by
 refine ct_outs (O := wide_Int_Cmp.out r) (fun _ _ h => h) ?_
 have hle : H.le H := .refl _
 unfold wide_Int_Cmp.f at he
 refine ct_enter (args := [.agg ⟨[.bool a.f_neg, v0_a]⟩, .agg ⟨[.bool b.f_neg, v1_b]⟩]) fn_107 rfl nt_107 rfl <| wR rfl <| w_a rfl (o_box (v := .agg ⟨[.bool a.f_neg, v0_a]⟩) rfl rfl) ?_
 rintro _ _ _ ⟨b1, rfl, rfl, rfl⟩
 refine w_a rfl (o_box (v := .agg ⟨[.bool b.f_neg, v1_b]⟩) rfl rfl) ?_
 rintro _ _ _ ⟨b2, rfl, rfl, rfl⟩
 refine wA (.int .i64 0) rfl rfl <| wE <| w_seq ?_
 obtain ⟨y3, hy4, he⟩ := bs he
 refine w_drawn (p := 3) (tl := [3, 4, 5]) [[], [(0, some 6)], []] [some 6, some 7, some 8] (fctF (.is (.agg ⟨[.bool a.f_neg, v0_a]⟩) :: .is (.int .i64 y3) :: .is (.agg ⟨[.bool b.f_neg, v1_b]⟩) :: [])) (fun m_ => some (b2, .cells ⟨[.bool b.f_neg, v1_b]⟩ 24 (0, 0)) :: some (b1, .cells ⟨[.bool a.f_neg, v0_a]⟩ 24 (0, 0)) :: L) (fun _ => none) mixed (by kernel_rfl) (by kernel_rfl) rfl (fct_mono (by kernel_rfl)) ⟨(fun H' m_ hH hm_ hu_ => dn <| s_d (m_ 0) rfl (d_loado (v := .agg ⟨[.bool a.f_neg, v0_a]⟩) ty24 rfl (.there .here) rfl rfl rfl rfl) (by exact rfl) rfl), (by rintro H' m_ hH hm_ hu_ _ rfl; exact dn <| s_d (m_ 1) rfl (call_d (o_call co84 (vs := [.agg ⟨[.bool a.f_neg, v0_a]⟩]) rfl (wide_Int_Sign.calls k (a := a) hy4 (h0_a.mono hH)))) (by exact rfl) rfl), (fun H' m_ hH hm_ hu_ => dn <| s_d (m_ 2) rfl (d_loado (v := .agg ⟨[.bool b.f_neg, v1_b]⟩) ty24 rfl .here rfl rfl rfl rfl) (by exact rfl) rfl), trivial⟩ ?_
 intro H7 e8
 rintro _ _ rfl _ _ rfl _ _ rfl
 obtain ⟨y9, hy10, he⟩ := bs he
 refine w_d rfl (call_d (o_call co84 (vs := [.agg ⟨[.bool b.f_neg, v1_b]⟩]) rfl (wide_Int_Sign.calls k (a := b) hy10 (h1_b.mono e8)))) ?_
 obtain ⟨y13, hy14, he⟩ := bs he
 refine w_d rfl (call_d (o_call co136 (vs := [.int .i64 y3, .int .i64 y9]) rfl (cmp_Compare_int.calls k hy14))) <| wA (.int .i64 y13) rfl rfl <| wQ rfl <| wM (.int .i64 y13) rfl rfl <| w_d rfl (d_neq rfl rfl) <| wM (.bool (!decide (y13 = 0))) rfl rfl <| w_g (g := !(!decide (y13 = 0))) rfl rfl rfl wn_f (fun g17 => d_fld (o' := 0) Tryz.underlying24 rfl sz4 rfl rfl rfl) <| w_g (g := !(!decide (y13 = 0))) rfl rfl rfl wn_f (fun g18 => d_loado (v := .bool a.f_neg) ty4 (cvt g18) (.there .here) rfl rfl rfl rfl) <| w_g (g := !(!decide (y13 = 0))) rfl rfl rfl wn_f (fun g19 => d_fld (o' := 0) Tryz.underlying24 rfl sz4 rfl rfl rfl) <| w_g (g := !(!decide (y13 = 0))) rfl rfl rfl wn_f (fun g20 => d_loado (v := .bool b.f_neg) ty4 (cvt g20) .here rfl rfl rfl rfl) ?_
 refine w_g (g := !(!decide (y13 = 0))) rfl rfl rfl wn_f (fun g21 => d_neb (a := a.f_neg) (b := b.f_neg) Tryz.underlying4 (cvt g21) (cvt g21)) <| w_d rfl (d_or' (b := (!decide (y13 = 0))) (p := (!(a.f_neg == b.f_neg))) rfl rfl rfl) <| w_done ?_
 rcases its he with ⟨c22, he⟩ | ⟨c22, he⟩
 ·
  refine w_then rfl c22 <| wR rfl <| wM (.int .i64 y13) rfl rfl <| wA (.int .i64 y13) rfl rfl <| w_done ?_
  obtain rfl := sj he
  refine w_return fn_107 rs_107 (.tmp (v := .int .i64 y13) rfl .nil) <| ⟨⟨[_, _], rfl⟩, hle.trans e8, rfl⟩
 ·
  refine w_else rfl (Bool.eq_false_iff.2 c22) <| w_skip <| w_seq <| wR rfl <| w_d rfl (d_fld (o' := 0) Tryz.underlying24 rfl sz4 rfl rfl rfl) <| wL (.bool a.f_neg) ty4 rfl rfl (.there .here) rfl rfl <| w_done ?_
  rcases its he with ⟨c23, he⟩ | ⟨c23, he⟩
  ·
   refine w_then rfl c23 <| wR rfl <| w_d rfl (d_fld (o' := 1) Tryz.underlying24 rfl sz22 rfl rfl rfl) <| wL v1_b ty22 rfl rfl .here rfl rfl <| w_d rfl (d_fld (o' := 1) Tryz.underlying24 rfl sz22 rfl rfl rfl) <| wL v0_a ty22 rfl rfl (.there .here) rfl rfl ?_
   obtain ⟨y24, hy25, he⟩ := bs he
   refine w_d rfl (call_d (o_call co137 (vs := [v1_b, v0_a]) rfl (wide_less.calls k hy25 ((h1_b.mono e8).src) ((h0_a.mono e8).src)))) <| wA (.int .i64 y24) rfl rfl <| w_done ?_
   obtain rfl := sj he
   refine w_return fn_107 rs_107 (.tmp (v := .int .i64 y24) rfl .nil) <| ⟨⟨[_, _], rfl⟩, hle.trans e8, rfl⟩
  ·
   refine w_else rfl (Bool.eq_false_iff.2 c23) <| w_skip <| wR rfl <| w_d rfl (d_fld (o' := 1) Tryz.underlying24 rfl sz22 rfl rfl rfl) <| wL v0_a ty22 rfl rfl (.there .here) rfl rfl <| w_d rfl (d_fld (o' := 1) Tryz.underlying24 rfl sz22 rfl rfl rfl) <| wL v1_b ty22 rfl rfl .here rfl rfl ?_
   obtain ⟨y28, hy29, he⟩ := bs he
   refine w_d rfl (call_d (o_call co137 (vs := [v0_a, v1_b]) rfl (wide_less.calls k hy29 ((h0_a.mono e8).src) ((h1_b.mono e8).src)))) <| wA (.int .i64 y28) rfl rfl <| w_done ?_
   obtain rfl := sj he
   refine w_return fn_107 rs_107 (.tmp (v := .int .i64 y28) rfl .nil) <| ⟨⟨[_, _], rfl⟩, hle.trans e8, rfl⟩
noncomputable def ratio_Ratio_Cmp.C : Code := (Tryz.f56.body).getD .skip
def ratio_Ratio_Cmp.out (r : Int × (Option Int)) (H : Hp) (v : Value) : Prop := v = .tuple ⟨[.int .i64 r.1, errV 104 r.2]⟩
noncomputable def ratio_Ratio_Cmp.f (k : Nat) (a : ratio_Ratio) (b : ratio_Ratio) : Option (Int × (Option Int)) := (ratio_Ratio_cross.f k a b).bind fun y3 => if y3.2.2.isSome = true then (some (0, y3.2.2)) else ((wide_Int_Cmp.f k y3.1 y3.2.1).bind fun y14 => some (y14, none))
theorem ratio_Ratio_Cmp.mono : ∀ k y0 y1, LeO (ratio_Ratio_Cmp.f k y0 y1) (ratio_Ratio_Cmp.f (k + 1) y0 y1) := fun k _ _ => by unfold ratio_Ratio_Cmp.f; exact (LeO.bind (ratio_Ratio_cross.mono k _ _) fun _ => LeO.ite (LeO.refl _) (LeO.bind (wide_Int_Cmp.mono k _ _) fun _ => LeO.refl _))
theorem ratio_Ratio_Cmp.calls (k : Nat) {H : Hp} {L : Items} {a : ratio_Ratio} {b : ratio_Ratio} {v0_a : Value} {v1_a : Value} {v2_b : Value} {v3_b : Value} {r : Int × (Option Int)} (he : ratio_Ratio_Cmp.f k a b = some r) (h0_a : Ro kU32 H v0_a a.f_n.f_w) (h1_a : Ro kU32 H v1_a a.f_d.f_w) (h2_b : Ro kU32 H v2_b b.f_n.f_w) (h3_b : Ro kU32 H v3_b b.f_d.f_w) : Ct Tryz.prog 56 ⟨[.agg ⟨[.bool a.f_n.f_neg, v0_a, .bool a.f_d.f_neg, v1_a]⟩, .agg ⟨[.bool b.f_n.f_neg, v2_b, .bool b.f_d.f_neg, v3_b]⟩]⟩ H L (fun v H' L' => L = L' ∧ H = H' ∧ v = .tuple ⟨[.int .i64 r.1, errV 104 r.2]⟩) := by
 refine ct_outs (O := ratio_Ratio_Cmp.out r) (fun _ _ h => h) ?_
 have hle : H.le H := .refl _
 unfold ratio_Ratio_Cmp.f at he
 refine ct_enter (args := [.agg ⟨[.bool a.f_n.f_neg, v0_a, .bool a.f_d.f_neg, v1_a]⟩, .agg ⟨[.bool b.f_n.f_neg, v2_b, .bool b.f_d.f_neg, v3_b]⟩]) fn_56 rfl nt_56 rfl <| wR rfl <| w_a rfl (o_box (v := .agg ⟨[.bool a.f_n.f_neg, v0_a, .bool a.f_d.f_neg, v1_a]⟩) rfl rfl) ?_
 rintro _ _ _ ⟨b1, rfl, rfl, rfl⟩
 refine w_a rfl (o_box (v := .agg ⟨[.bool b.f_n.f_neg, v2_b, .bool b.f_d.f_neg, v3_b]⟩) rfl rfl) ?_
 rintro _ _ _ ⟨b2, rfl, rfl, rfl⟩
 refine wA (.int .i64 0) rfl rfl <| wA (errV 104 none) rfl rfl <| wQ rfl <| wL (.agg ⟨[.bool a.f_n.f_neg, v0_a, .bool a.f_d.f_neg, v1_a]⟩) ty26 rfl rfl (.there .here) rfl rfl <| wL (.agg ⟨[.bool b.f_n.f_neg, v2_b, .bool b.f_d.f_neg, v3_b]⟩) ty26 rfl rfl .here rfl rfl ?_
 obtain ⟨y3, hy4, he⟩ := bs he
 refine w_a rfl (o_call co106 (vs := [.agg ⟨[.bool a.f_n.f_neg, v0_a, .bool a.f_d.f_neg, v1_a]⟩, .agg ⟨[.bool b.f_n.f_neg, v2_b, .bool b.f_d.f_neg, v3_b]⟩]) rfl (ratio_Ratio_cross.calls k (a := a) (b := b) hy4 h0_a h1_a h2_b h3_b)) ?_
 rintro _ H5 _ ⟨rfl, e6, ⟨v7, v9, rfl, h8, h10⟩⟩
 refine wM (.tuple ⟨[.agg ⟨[.bool y3.1.f_neg, v7]⟩, .agg ⟨[.bool y3.2.1.f_neg, v9]⟩, errV 104 y3.2.2]⟩) rfl rfl <| w_d rfl (d_ext (vs := [.agg ⟨[.bool y3.1.f_neg, v7]⟩, .agg ⟨[.bool y3.2.1.f_neg, v9]⟩, errV 104 y3.2.2]) rfl rfl) <| w_d rfl (d_ext (vs := [.agg ⟨[.bool y3.1.f_neg, v7]⟩, .agg ⟨[.bool y3.2.1.f_neg, v9]⟩, errV 104 y3.2.2]) rfl rfl) <| w_d rfl (d_ext (vs := [.agg ⟨[.bool y3.1.f_neg, v7]⟩, .agg ⟨[.bool y3.2.1.f_neg, v9]⟩, errV 104 y3.2.2]) rfl rfl) <| w_a rfl (o_alloc zr24 rfl) ?_
 rintro _ _ _ ⟨b11, rfl, rfl, rfl⟩
 refine w_a rfl (o_alloc zr24 rfl) ?_
 rintro _ _ _ ⟨b12, rfl, rfl, rfl⟩
 refine w_a0 rfl (o_store (v := .agg ⟨[.bool y3.1.f_neg, v7]⟩) sz24 rfl rfl rfl rfl (oc rfl (oc (h8.one) oz)) (.there .here) u2) ?_
 rintro _ _ _ ⟨rfl, rfl, rfl⟩
 refine w_a0 rfl (o_store (v := .agg ⟨[.bool y3.2.1.f_neg, v9]⟩) sz24 rfl rfl rfl rfl (oc rfl (oc (h10.one) oz)) .here u2) ?_
 rintro _ _ _ ⟨rfl, rfl, rfl⟩
 refine wA (errV 104 y3.2.2) rfl rfl <| wE <| wR rfl <| wM (errV 104 y3.2.2) rfl rfl <| w_d rfl (d_nenil (e := y3.2.2) Tryz.underlying30 rfl) <| w_done ?_
 rcases its he with ⟨c13, he⟩ | ⟨c13, he⟩
 ·
  refine w_then rfl c13 <| wR rfl <| wM (errV 104 y3.2.2) rfl rfl <| wA (.int .i64 0) rfl rfl <| wA (errV 104 y3.2.2) rfl rfl <| w_done ?_
  obtain rfl := sj he
  refine w_return fn_56 rs_56 (.tmp (v := .int .i64 0) rfl (.tmp (v := errV 104 y3.2.2) rfl .nil)) <| ⟨⟨[_, _, _, _], rfl⟩, hle.trans e6, rfl⟩
 ·
  refine w_else rfl (Bool.eq_false_iff.2 c13) <| w_skip <| wR rfl <| wL (.agg ⟨[.bool y3.1.f_neg, v7]⟩) ty24 rfl rfl (.there .here) rfl rfl <| wL (.agg ⟨[.bool y3.2.1.f_neg, v9]⟩) ty24 rfl rfl .here rfl rfl ?_
  obtain ⟨y14, hy15, he⟩ := bs he
  refine w_d rfl (call_d (o_call co107 (vs := [.agg ⟨[.bool y3.1.f_neg, v7]⟩, .agg ⟨[.bool y3.2.1.f_neg, v9]⟩]) rfl (wide_Int_Cmp.calls k (a := y3.1) (b := y3.2.1) hy15 h8 h10))) <| wA (.int .i64 y14) rfl rfl <| wA (errV 104 none) rfl rfl <| w_done ?_
  obtain rfl := sj he
  refine w_return fn_56 rs_56 (.tmp (v := .int .i64 y14) rfl (.tmp (v := errV 104 none) rfl .nil)) <| ⟨⟨[_, _, _, _], rfl⟩, hle.trans e6, rfl⟩
noncomputable def interval_Of.C : Code := (Tryz.f31.body).getD .skip
def interval_Of.out (r : interval_Span × (Option Int)) (H : Hp) (v : Value) : Prop := ∃ v0, ∃ v1, ∃ v2, ∃ v3, v = .tuple ⟨[.agg ⟨[.bool r.1.f_Low.f_n.f_neg, v0, .bool r.1.f_Low.f_d.f_neg, v1, .bool r.1.f_High.f_n.f_neg, v2, .bool r.1.f_High.f_d.f_neg, v3]⟩, errV 104 r.2]⟩ ∧ Ro kU32 H v0 r.1.f_Low.f_n.f_w ∧ Ro kU32 H v1 r.1.f_Low.f_d.f_w ∧ Ro kU32 H v2 r.1.f_High.f_n.f_w ∧ Ro kU32 H v3 r.1.f_High.f_d.f_w
theorem interval_Of.out_mono (r : interval_Span × (Option Int)) {H H' : Hp} {v : Value} (hle : H.le H') (h : interval_Of.out r H v) : interval_Of.out r H' v := by
 obtain ⟨v0, v1, v2, v3, rfl, h0, h1, h2, h3⟩ := h; exact ⟨v0, v1, v2, v3, rfl, h0.mono hle, h1.mono hle, h2.mono hle, h3.mono hle⟩
noncomputable def interval_Of.f (k : Nat) (low : ratio_Ratio) (high : ratio_Ratio) : Option (interval_Span × (Option Int)) := (ratio_Ratio_Cmp.f k low high).bind fun y4 => if y4.2.isSome = true then (some ((⟨(⟨(⟨false, []⟩ : wide_Int), (⟨false, []⟩ : wide_Int)⟩ : ratio_Ratio), (⟨(⟨false, []⟩ : wide_Int), (⟨false, []⟩ : wide_Int)⟩ : ratio_Ratio)⟩ : interval_Span), y4.2)) else (if 0 < y4.1 then (some ((⟨(⟨(⟨false, []⟩ : wide_Int), (⟨false, []⟩ : wide_Int)⟩ : ratio_Ratio), (⟨(⟨false, []⟩ : wide_Int), (⟨false, []⟩ : wide_Int)⟩ : ratio_Ratio)⟩ : interval_Span), some 1)) else (some ((⟨low, high⟩ : interval_Span), none)))
theorem interval_Of.mono : ∀ k y0 y1, LeO (interval_Of.f k y0 y1) (interval_Of.f (k + 1) y0 y1) := fun k _ _ => by unfold interval_Of.f; exact (LeO.bind (ratio_Ratio_Cmp.mono k _ _) fun _ => LeO.ite (LeO.refl _) (LeO.ite (LeO.refl _) (LeO.refl _)))
theorem interval_Of.calls (k : Nat) {H : Hp} {L : Items} {low : ratio_Ratio} {high : ratio_Ratio} {v0_low : Value} {v1_low : Value} {v2_high : Value} {v3_high : Value} {r : interval_Span × (Option Int)} (he : interval_Of.f k low high = some r) (h0_low : Ro kU32 H v0_low low.f_n.f_w) (h1_low : Ro kU32 H v1_low low.f_d.f_w) (h2_high : Ro kU32 H v2_high high.f_n.f_w) (h3_high : Ro kU32 H v3_high high.f_d.f_w) : Ct Tryz.prog 31 ⟨[.agg ⟨[.bool low.f_n.f_neg, v0_low, .bool low.f_d.f_neg, v1_low]⟩, .agg ⟨[.bool high.f_n.f_neg, v2_high, .bool high.f_d.f_neg, v3_high]⟩]⟩ H L (cR H L (interval_Of.out r)) := by
 refine ct_out (O := interval_Of.out r) ?_
 have hle : H.le H := .refl _
 unfold interval_Of.f at he
 refine ct_enter (args := [.agg ⟨[.bool low.f_n.f_neg, v0_low, .bool low.f_d.f_neg, v1_low]⟩, .agg ⟨[.bool high.f_n.f_neg, v2_high, .bool high.f_d.f_neg, v3_high]⟩]) fn_31 rfl nt_31 rfl <| wR rfl <| w_a rfl (o_box (v := .agg ⟨[.bool low.f_n.f_neg, v0_low, .bool low.f_d.f_neg, v1_low]⟩) rfl rfl) ?_
 rintro _ _ _ ⟨b1, rfl, rfl, rfl⟩
 refine w_a rfl (o_box (v := .agg ⟨[.bool high.f_n.f_neg, v2_high, .bool high.f_d.f_neg, v3_high]⟩) rfl rfl) ?_
 rintro _ _ _ ⟨b2, rfl, rfl, rfl⟩
 refine w_a rfl (o_alloc zr28 rfl) ?_
 rintro _ _ _ ⟨b3, rfl, rfl, rfl⟩
 refine wA (errV 104 none) rfl rfl <| wQ rfl <| wL (.agg ⟨[.bool low.f_n.f_neg, v0_low, .bool low.f_d.f_neg, v1_low]⟩) ty26 rfl rfl (.there (.there .here)) rfl rfl <| wL (.agg ⟨[.bool high.f_n.f_neg, v2_high, .bool high.f_d.f_neg, v3_high]⟩) ty26 rfl rfl (.there .here) rfl rfl ?_
 obtain ⟨y4, hy5, he⟩ := bs he
 refine w_d rfl (call_d (o_call co56 (vs := [.agg ⟨[.bool low.f_n.f_neg, v0_low, .bool low.f_d.f_neg, v1_low]⟩, .agg ⟨[.bool high.f_n.f_neg, v2_high, .bool high.f_d.f_neg, v3_high]⟩]) rfl (ratio_Ratio_Cmp.calls k (a := low) (b := high) hy5 h0_low h1_low h2_high h3_high))) <| wM (.tuple ⟨[.int .i64 y4.1, errV 104 y4.2]⟩) rfl rfl <| w_d rfl (d_ext (vs := [.int .i64 y4.1, errV 104 y4.2]) rfl rfl) <| w_d rfl (d_ext (vs := [.int .i64 y4.1, errV 104 y4.2]) rfl rfl) <| wA (.int .i64 y4.1) rfl rfl <| wA (errV 104 y4.2) rfl rfl <| wE <| w_block <| wR rfl <| wM (errV 104 y4.2) rfl rfl ?_
 refine w_d rfl (d_nenil (e := y4.2) Tryz.underlying30 rfl) <| wA (.bool y4.2.isSome) rfl rfl <| w_done ?_
 rcases its he with ⟨c8, he⟩ | ⟨c8, he⟩
 ·
  refine w_then rfl c8 <| wR rfl <| w_d rfl (d_build (cs' := [.bool false, .slice none 0 0, .bool false, .slice none 0 0, .bool false, .slice none 0 0, .bool false, .slice none 0 0]) Tryz.underlying28 zr28 rfl (by kernel_rfl) (parts := []) rfl .nil) <| wM (errV 104 y4.2) rfl rfl <| w_a0 rfl (o_store (v := .agg ⟨[.bool false, .slice none 0 0, .bool false, .slice none 0 0, .bool false, .slice none 0 0, .bool false, .slice none 0 0]⟩) sz28 rfl rfl rfl rfl (oc rfl (oc rfl (oc rfl (oc rfl (oc rfl (oc rfl (oc rfl (oc rfl oz)))))))) .here (.here (.here (.here (.here u4))))) ?_
  rintro _ _ _ ⟨rfl, rfl, rfl⟩
  refine wA (errV 104 y4.2) rfl rfl <| w_done ?_
  obtain rfl := sj he
  refine w_return fn_31 rs_31 (.box (v := .agg ⟨[.bool false, .slice none 0 0, .bool false, .slice none 0 0, .bool false, .slice none 0 0, .bool false, .slice none 0 0]⟩) rfl ty28 rfl rfl .here rfl (.tmp (v := errV 104 y4.2) rfl .nil)) <| ⟨⟨[_, _, _], rfl⟩, hle, ⟨.slice none 0 0, .slice none 0 0, .slice none 0 0, .slice none 0 0, rfl, (ro_nil _ _), (ro_nil _ _), (ro_nil _ _), (ro_nil _ _)⟩⟩
 ·
  refine w_else rfl (Bool.eq_false_iff.2 c8) <| wR rfl <| wM (.int .i64 y4.1) rfl rfl <| w_d rfl (d_gtr rfl rfl) <| wA (.bool (decide (0 < y4.1))) rfl rfl <| w_done ?_
  rcases its he with ⟨c9, he⟩ | ⟨c9, he⟩
  ·
   refine w_then rfl (dt c9) <| wR rfl <| w_d rfl (d_build (cs' := [.bool false, .slice none 0 0, .bool false, .slice none 0 0, .bool false, .slice none 0 0, .bool false, .slice none 0 0]) Tryz.underlying28 zr28 rfl (by kernel_rfl) (parts := []) rfl .nil) <| w_d rfl (d_iface (v := .int .i64 1) Tryz.underlying104 rfl rfl) <| w_a0 rfl (o_store (v := .agg ⟨[.bool false, .slice none 0 0, .bool false, .slice none 0 0, .bool false, .slice none 0 0, .bool false, .slice none 0 0]⟩) sz28 rfl rfl rfl rfl (oc rfl (oc rfl (oc rfl (oc rfl (oc rfl (oc rfl (oc rfl (oc rfl oz)))))))) .here (.here (.here (.here (.here u4))))) ?_
   rintro _ _ _ ⟨rfl, rfl, rfl⟩
   refine wA (errV 104 (some 1)) rfl rfl <| w_done ?_
   obtain rfl := sj he
   refine w_return fn_31 rs_31 (.box (v := .agg ⟨[.bool false, .slice none 0 0, .bool false, .slice none 0 0, .bool false, .slice none 0 0, .bool false, .slice none 0 0]⟩) rfl ty28 rfl rfl .here rfl (.tmp (v := errV 104 (some 1)) rfl .nil)) <| ⟨⟨[_, _, _], rfl⟩, hle, ⟨.slice none 0 0, .slice none 0 0, .slice none 0 0, .slice none 0 0, rfl, (ro_nil _ _), (ro_nil _ _), (ro_nil _ _), (ro_nil _ _)⟩⟩
  ·
   refine w_else rfl (df c9) <| w_skip <| w_inBlock <| wR rfl <| wL (.agg ⟨[.bool low.f_n.f_neg, v0_low, .bool low.f_d.f_neg, v1_low]⟩) ty26 rfl rfl (.there (.there .here)) rfl rfl <| wL (.agg ⟨[.bool high.f_n.f_neg, v2_high, .bool high.f_d.f_neg, v3_high]⟩) ty26 rfl rfl (.there .here) rfl rfl <| w_d rfl (d_build (cs' := [.bool low.f_n.f_neg, v0_low, .bool low.f_d.f_neg, v1_low, .bool high.f_n.f_neg, v2_high, .bool high.f_d.f_neg, v3_high]) Tryz.underlying28 zr28 rfl (by kernel_rfl) (parts := [(0, .agg ⟨[.bool low.f_n.f_neg, v0_low, .bool low.f_d.f_neg, v1_low]⟩), (1, .agg ⟨[.bool high.f_n.f_neg, v2_high, .bool high.f_d.f_neg, v3_high]⟩)]) rfl (.cons (place_of rfl sz26 rfl) rfl rfl u4 (.cons (place_of rfl sz26 rfl) rfl rfl (.there (.there (.there (.there u4)))) .nil))) <| w_a0 rfl (o_store (v := .agg ⟨[.bool low.f_n.f_neg, v0_low, .bool low.f_d.f_neg, v1_low, .bool high.f_n.f_neg, v2_high, .bool high.f_d.f_neg, v3_high]⟩) sz28 rfl rfl rfl rfl (oc rfl (oc (h0_low.one) (oc rfl (oc (h1_low.one) (oc rfl (oc (h2_high.one) (oc rfl (oc (h3_high.one) oz)))))))) .here (.here (.here (.here (.here u4))))) ?_
   rintro _ _ _ ⟨rfl, rfl, rfl⟩
   refine wA (errV 104 none) rfl rfl <| w_done ?_
   obtain rfl := sj he
   refine w_return fn_31 rs_31 (.box (v := .agg ⟨[.bool low.f_n.f_neg, v0_low, .bool low.f_d.f_neg, v1_low, .bool high.f_n.f_neg, v2_high, .bool high.f_d.f_neg, v3_high]⟩) rfl ty28 rfl rfl .here rfl (.tmp (v := errV 104 none) rfl .nil)) <| ⟨⟨[_, _, _], rfl⟩, hle, ⟨v0_low, v1_low, v2_high, v3_high, rfl, h0_low, h1_low, h2_high, h3_high⟩⟩
noncomputable def interval_check.C : Code := (Tryz.f79.body).getD .skip
def interval_check.out (r : (Option Int)) (H : Hp) (v : Value) : Prop := v = errV 104 r
abbrev interval_check.R (H0 : Hp) (L : Items) (r : (Option Int)) := fR H0 L (interval_check.out r)
structure interval_check.Hs where
 l0 : (Option Int) → (List interval_Span) → Int → Int → Option (Option Int)
noncomputable def interval_check.b0 (k : Nat) (h : interval_check.Hs)  (t2 : Option Int) (t7 : List interval_Span) (t8 : Int) (t9 : Int) : Option (Option Int) := if t9 < t8 then (if (0 : Int) ≤ t9 ∧ t9 < (t7.length : Int) then ((interval_Of.f k ((rd t7 t9).f_Low) ((rd t7 t9).f_High)).bind fun y14 => if y14.2.isSome = true then (some (some 1)) else (h.l0 t2 t7 t8 (w64 (t9 + 1)))) else none) else (some (none))
noncomputable def interval_check.hs : Nat → interval_check.Hs
 | 0 => ⟨fun _ _ _ _ => none⟩
 | k + 1 => ⟨fun x0 x1 x2 x3 => interval_check.b0 k (interval_check.hs k) x0 x1 x2 x3⟩
noncomputable def interval_check.f (k : Nat) (l : List interval_Span) : Option (Option Int) := (fun h : interval_check.Hs => h.l0 none l (l.length : Int) 0) (interval_check.hs k)
structure interval_check.LE (h h' : interval_check.Hs) : Prop where
 l0 : ∀ y0 y1 y2 y3, LeO (h.l0 y0 y1 y2 y3) (h'.l0 y0 y1 y2 y3)
theorem interval_check.b0_mono {k : Nat} {h h' : interval_check.Hs} (hl : interval_check.LE h h') : ∀ y0 y1 y2 y3, LeO (interval_check.b0 k h y0 y1 y2 y3) (interval_check.b0 (k + 1) h' y0 y1 y2 y3) := fun _ _ _ _ => (LeO.ite (LeO.ite (LeO.bind (interval_Of.mono k _ _) fun _ => LeO.ite (LeO.refl _) (hl.l0 _ _ _ _)) (LeO.refl _)) (LeO.refl _))
theorem interval_check.hs_mono : ∀ k, interval_check.LE (interval_check.hs k) (interval_check.hs (k + 1))
 | 0 => ⟨fun _ _ _ _ => LeO.none _⟩
 | k + 1 => ⟨interval_check.b0_mono (k := k) (interval_check.hs_mono k)⟩
theorem interval_check.mono : ∀ k y0, LeO (interval_check.f k y0) (interval_check.f (k + 1) y0) := fun k _ => have hl := interval_check.hs_mono k; by unfold interval_check.f; exact (hl.l0 _ _ _ _)
noncomputable def interval_check.Kl0 : List Item := .code (lopB (blkB (seqR (seqL (seqR interval_check.C))))) :: .inLoop (lopB (blkB (seqR (seqL (seqR interval_check.C))))) :: .inBlock 0 :: .code (seqR (seqR interval_check.C)) :: []
structure interval_check.OK (h : interval_check.Hs) : Prop where
 l0 : ∀ {H0 H : Hp} {L : Items} {r : (Option Int)} {jk_ : Nat → Value} {t2 : Option Int} {t7 : List interval_Span} {t8 : Int} {t9 : Int} {v_t7 : Value} (_ : H0.le H) (_he : h.l0 t2 t7 t8 t9 = some r) (_h_t7 : Src k_interval_Span H L v_t7 t7), Wp Tryz.prog 79 25 interval_check.Kl0 (upd (upd (upd (upd jk_ 2 (errV 104 t2)) 7 (v_t7)) 8 (.int .i64 t8)) 9 (.int .i64 t9)) H (L) (interval_check.R H0 L r)
theorem interval_check.b0_ok {k : Nat} {h : interval_check.Hs} (hh : interval_check.OK h) {H0 H : Hp} {L : Items} {r : (Option Int)} {jk_ : Nat → Value} {t2 : Option Int} {t7 : List interval_Span} {t8 : Int} {t9 : Int} {v_t7 : Value} (hle : H0.le H) (he : interval_check.b0 k h t2 t7 t8 t9 = some r) (h_t7 : Src k_interval_Span H L v_t7 t7) : Wp Tryz.prog 79 25 interval_check.Kl0 (upd (upd (upd (upd jk_ 2 (errV 104 t2)) 7 (v_t7)) 8 (.int .i64 t8)) 9 (.int .i64 t9)) H (L) (interval_check.R H0 L r) := by
 unfold interval_check.b0 at he
 unfold interval_check.Kl0
 refine wR rfl <| w_d rfl (d_lss rfl rfl) <| wE ?_
 rcases its he with ⟨c1, he⟩ | ⟨c1, he⟩
 ·
  refine w_then rfl (dt c1) <| w_skip <| w_seq <| w_block <| wR rfl ?_
  obtain ⟨c2, he⟩ := rq he
  refine w_d rfl (d_index (sz := 8) Tryz.underlying178 sz28 rfl h_t7 rfl c2) ?_
  obtain ⟨_, l3, r4⟩ := el_of (kd := k_interval_Span) h_t7 c2
  obtain ⟨v5, v7, v9, v11, rfl, h6, h8, h10, h12⟩ := k_interval_Span_out r4
  refine w_d rfl (d_load (v := .agg ⟨[.bool ((((rd t7 t9).f_Low).f_n).f_neg), v5, .bool ((((rd t7 t9).f_Low).f_d).f_neg), v7, .bool ((((rd t7 t9).f_High).f_n).f_neg), v9, .bool ((((rd t7 t9).f_High).f_d).f_neg), v11]⟩) (cs := [.bool ((((rd t7 t9).f_Low).f_n).f_neg), v5, .bool ((((rd t7 t9).f_Low).f_d).f_neg), v7, .bool ((((rd t7 t9).f_High).f_n).f_neg), v9, .bool ((((rd t7 t9).f_High).f_d).f_neg), v11]) ty28 rfl rfl (by decide) l3 rfl) <| w_a rfl (o_alloc zr28 rfl) ?_
  rintro _ _ _ ⟨b13, rfl, rfl, rfl⟩
  refine w_a0 rfl (o_store (v := .agg ⟨[.bool ((((rd t7 t9).f_Low).f_n).f_neg), v5, .bool ((((rd t7 t9).f_Low).f_d).f_neg), v7, .bool ((((rd t7 t9).f_High).f_n).f_neg), v9, .bool ((((rd t7 t9).f_High).f_d).f_neg), v11]⟩) sz28 rfl rfl rfl rfl (oc rfl (oc (h6.one) (oc rfl (oc (h8.one) (oc rfl (oc (h10.one) (oc rfl (oc (h12.one) oz)))))))) .here (.here (.here (.here (.here u4))))) ?_
  rintro _ _ _ ⟨rfl, rfl, rfl⟩
  refine wQ rfl <| w_d rfl (d_fld (o' := 0) Tryz.underlying28 rfl sz26 rfl rfl rfl) <| w_d rfl (d_loado (v := .agg ⟨[.bool ((((rd t7 t9).f_Low).f_n).f_neg), v5, .bool ((((rd t7 t9).f_Low).f_d).f_neg), v7]⟩) ty26 rfl .here rfl rfl rfl rfl) <| w_d rfl (d_fld (o' := 4) Tryz.underlying28 rfl sz26 rfl rfl rfl) <| w_d rfl (d_loado (v := .agg ⟨[.bool ((((rd t7 t9).f_High).f_n).f_neg), v9, .bool ((((rd t7 t9).f_High).f_d).f_neg), v11]⟩) ty26 rfl .here rfl rfl rfl rfl) ?_
  obtain ⟨y14, hy15, he⟩ := bs he
  refine w_a rfl (o_call co31 (vs := [.agg ⟨[.bool ((((rd t7 t9).f_Low).f_n).f_neg), v5, .bool ((((rd t7 t9).f_Low).f_d).f_neg), v7]⟩, .agg ⟨[.bool ((((rd t7 t9).f_High).f_n).f_neg), v9, .bool ((((rd t7 t9).f_High).f_d).f_neg), v11]⟩]) rfl (interval_Of.calls k (low := ((rd t7 t9).f_Low)) (high := ((rd t7 t9).f_High)) hy15 h6 h8 h10 h12)) ?_
  rintro _ H16 _ ⟨rfl, e17, ⟨v18, v20, v22, v24, rfl, h19, h21, h23, h25⟩⟩
  refine wM (.tuple ⟨[.agg ⟨[.bool y14.1.f_Low.f_n.f_neg, v18, .bool y14.1.f_Low.f_d.f_neg, v20, .bool y14.1.f_High.f_n.f_neg, v22, .bool y14.1.f_High.f_d.f_neg, v24]⟩, errV 104 y14.2]⟩) rfl rfl <| w_d rfl (d_ext (vs := [.agg ⟨[.bool y14.1.f_Low.f_n.f_neg, v18, .bool y14.1.f_Low.f_d.f_neg, v20, .bool y14.1.f_High.f_n.f_neg, v22, .bool y14.1.f_High.f_d.f_neg, v24]⟩, errV 104 y14.2]) rfl rfl) <| w_d rfl (d_ext (vs := [.agg ⟨[.bool y14.1.f_Low.f_n.f_neg, v18, .bool y14.1.f_Low.f_d.f_neg, v20, .bool y14.1.f_High.f_n.f_neg, v22, .bool y14.1.f_High.f_d.f_neg, v24]⟩, errV 104 y14.2]) rfl rfl) <| w_a rfl (o_alloc zr28 rfl) ?_
  rintro _ _ _ ⟨b26, rfl, rfl, rfl⟩
  refine w_a0 rfl (o_store (v := .agg ⟨[.bool y14.1.f_Low.f_n.f_neg, v18, .bool y14.1.f_Low.f_d.f_neg, v20, .bool y14.1.f_High.f_n.f_neg, v22, .bool y14.1.f_High.f_d.f_neg, v24]⟩) sz28 rfl rfl rfl rfl (oc rfl (oc (h19.one) (oc rfl (oc (h21.one) (oc rfl (oc (h23.one) (oc rfl (oc (h25.one) oz)))))))) .here (.here (.here (.here (.here u4))))) ?_
  rintro _ _ _ ⟨rfl, rfl, rfl⟩
  refine wA (errV 104 y14.2) rfl rfl <| wQ rfl <| wM (errV 104 y14.2) rfl rfl <| w_d rfl (d_nenil (e := y14.2) Tryz.underlying30 rfl) <| w_done ?_
  rcases its he with ⟨c27, he⟩ | ⟨c27, he⟩
  ·
   refine w_then rfl c27 <| wR rfl <| w_d rfl (d_iface (v := .int .i64 1) Tryz.underlying104 rfl rfl) <| wA (errV 104 (some 1)) rfl rfl <| w_done ?_
   obtain rfl := sj he
   refine w_return fn_79 rs_79 (.tmp (v := errV 104 (some 1)) rfl .nil) <| ⟨⟨[_, _], rfl⟩, hle.trans e17, rfl⟩
  ·
   refine w_else rfl (Bool.eq_false_iff.2 c27) <| w_skip <| w_inBlock <| w_region rfl <| w_d rfl (d_add (c := w64 (t9 + 1)) rfl rfl rfl) <| wM (.int .i64 (w64 (t9 + 1))) rfl rfl <| w_done <| w_inLoop <| w_del (.there .here) <| w_del .here <| w_sl 2 (errV 104 t2) rfl <| w_sl 7 (v_t7) rfl ?_
   refine w_sl 8 (.int .i64 t8) rfl <| w_sl 9 (.int .i64 (w64 (t9 + 1))) rfl <| hh.l0 (hle.trans e17) he (h_t7.mono e17)
 ·
  refine w_else rfl (df c1) <| w_exit rfl <| wR rfl <| wA (errV 104 none) rfl rfl <| w_done ?_
  obtain rfl := sj he
  refine w_return fn_79 rs_79 (.tmp (v := errV 104 none) rfl .nil) <| ⟨⟨[], rfl⟩, hle, rfl⟩
theorem interval_check.ok : ∀ k, interval_check.OK (interval_check.hs k)
 | 0 => ⟨(by intros; exact nomatch (show none = some _ from by assumption))⟩
 | k + 1 => ⟨interval_check.b0_ok (k := k) (interval_check.ok k)⟩
theorem interval_check.calls (k : Nat) {H : Hp} {L : Items} {l : List interval_Span} {v0_l : Value} {r : (Option Int)} (he : interval_check.f k l = some r) (h0_l : Src k_interval_Span H L v0_l l) : Ct Tryz.prog 79 ⟨[v0_l]⟩ H L (fun v H' L' => L = L' ∧ H = H' ∧ v = errV 104 r) := by
 refine ct_outs (O := interval_check.out r) (fun _ _ h => h) ?_
 have hle : H.le H := .refl _
 have hh := interval_check.ok k
 unfold interval_check.f at he
 refine ct_enter (args := [v0_l]) fn_79 rfl nt_79 rfl <| wR rfl <| wA (errV 104 none) rfl rfl <| wE <| wR rfl <| wM v0_l rfl rfl <| w_d rfl (d_len Tryz.underlying178 rfl h0_l) <| wM (.int .i64 0) rfl rfl <| w_done ?_
 refine w_block <| w_loop <| w_sl 2 (errV 104 none) rfl <| w_sl 7 (v0_l) rfl <| w_sl 8 (.int .i64 (l.length : Int)) rfl <| w_sl 9 (.int .i64 0) rfl <| hh.l0 hle he h0_l
noncomputable def errors_Join.C : Code := (Tryz.f129.body).getD .skip
def errors_Join.out (r : (Option Int)) (H : Hp) (v : Value) : Prop := v = errV 104 r
abbrev errors_Join.R (H0 : Hp) (L : Items) (r : (Option Int)) := fR H0 L (errors_Join.out r)
structure errors_Join.Hs where
 l0 : (List (Option Int)) → Int → (List (Option Int)) → Int → Int → Option (Option Int)
 l1 : (List (Option Int)) → (List (Option Int)) → Int → Int → Option (Option Int)
noncomputable def errors_Join.b0 (k : Nat) (h : errors_Join.Hs)  (errs : List (Option Int)) (n : Int) (t9 : List (Option Int)) (t10 : Int) (t11 : Int) : Option (Option Int) := if t11 < t10 then (if (0 : Int) ≤ t11 ∧ t11 < (t9.length : Int) then (if ((rd t9 t11).isSome) = true then (h.l0 errs (w64 (n + 1)) t9 t10 (w64 (t11 + 1))) else (h.l0 errs n t9 t10 (w64 (t11 + 1)))) else none) else (if n = 0 then (some (none)) else (if 0 ≤ 0 ∧ 0 ≤ n ∧ n ≤ 17592186044416 then (h.l1 (List.replicate (0 : Int).toNat none) errs (errs.length : Int) 0) else none))
noncomputable def errors_Join.b1 (k : Nat) (h : errors_Join.Hs)  (e__1 : List (Option Int)) (t26 : List (Option Int)) (t27 : Int) (t28 : Int) : Option (Option Int) := if t28 < t27 then (if (0 : Int) ≤ t28 ∧ t28 < (t26.length : Int) then (if ((rd t26 t28).isSome) = true then (none) else (h.l1 e__1 t26 t27 (w64 (t28 + 1)))) else none) else (none)
noncomputable def errors_Join.hs : Nat → errors_Join.Hs
 | 0 => ⟨fun _ _ _ _ _ => none, fun _ _ _ _ => none⟩
 | k + 1 => ⟨fun x0 x1 x2 x3 x4 => errors_Join.b0 k (errors_Join.hs k) x0 x1 x2 x3 x4, fun x0 x1 x2 x3 => errors_Join.b1 k (errors_Join.hs k) x0 x1 x2 x3⟩
noncomputable def errors_Join.f (k : Nat) (errs : List (Option Int)) : Option (Option Int) := (fun h : errors_Join.Hs => h.l0 errs 0 errs (errs.length : Int) 0) (errors_Join.hs k)
structure errors_Join.LE (h h' : errors_Join.Hs) : Prop where
 l0 : ∀ y0 y1 y2 y3 y4, LeO (h.l0 y0 y1 y2 y3 y4) (h'.l0 y0 y1 y2 y3 y4)
 l1 : ∀ y0 y1 y2 y3, LeO (h.l1 y0 y1 y2 y3) (h'.l1 y0 y1 y2 y3)
theorem errors_Join.b0_mono {k : Nat} {h h' : errors_Join.Hs} (hl : errors_Join.LE h h') : ∀ y0 y1 y2 y3 y4, LeO (errors_Join.b0 k h y0 y1 y2 y3 y4) (errors_Join.b0 (k + 1) h' y0 y1 y2 y3 y4) := fun _ _ _ _ _ => (LeO.ite (LeO.ite (LeO.ite (hl.l0 _ _ _ _ _) (hl.l0 _ _ _ _ _)) (LeO.refl _)) (LeO.ite (LeO.refl _) (LeO.ite (hl.l1 _ _ _ _) (LeO.refl _))))
theorem errors_Join.b1_mono {k : Nat} {h h' : errors_Join.Hs} (hl : errors_Join.LE h h') : ∀ y0 y1 y2 y3, LeO (errors_Join.b1 k h y0 y1 y2 y3) (errors_Join.b1 (k + 1) h' y0 y1 y2 y3) := fun _ _ _ _ => (LeO.ite (LeO.ite (LeO.ite (LeO.refl _) (hl.l1 _ _ _ _)) (LeO.refl _)) (LeO.refl _))
theorem errors_Join.hs_mono : ∀ k, errors_Join.LE (errors_Join.hs k) (errors_Join.hs (k + 1))
 | 0 => ⟨fun _ _ _ _ _ => LeO.none _, fun _ _ _ _ => LeO.none _⟩
 | k + 1 => ⟨errors_Join.b0_mono (k := k) (errors_Join.hs_mono k), errors_Join.b1_mono (k := k) (errors_Join.hs_mono k)⟩
theorem errors_Join.mono : ∀ k y0, LeO (errors_Join.f k y0) (errors_Join.f (k + 1) y0) := fun k _ => have hl := errors_Join.hs_mono k; by unfold errors_Join.f; exact (hl.l0 _ _ _ _ _)
noncomputable def errors_Join.Kl0 : List Item := .code (lopB (blkB (seqR (seqL (seqR (seqR errors_Join.C)))))) :: .inLoop (lopB (blkB (seqR (seqL (seqR (seqR errors_Join.C)))))) :: .inBlock 0 :: .code (seqR (seqR (seqR errors_Join.C))) :: []
noncomputable def errors_Join.Kl1 : List Item := .code (lopB (blkB (seqR (seqL (seqR (seqR (seqR (seqR (seqR errors_Join.C))))))))) :: .inLoop (lopB (blkB (seqR (seqL (seqR (seqR (seqR (seqR (seqR errors_Join.C))))))))) :: .inBlock 2 :: .code (seqR (seqR (seqR (seqR (seqR (seqR errors_Join.C)))))) :: []
structure errors_Join.OK (h : errors_Join.Hs) : Prop where
 l0 : ∀ {H0 H : Hp} {L : Items} {r : (Option Int)} {jk_ : Nat → Value} {errs : List (Option Int)} {n : Int} {t9 : List (Option Int)} {t10 : Int} {t11 : Int} {v_errs : Value} {v_t9 : Value} (_ : H0.le H) (_he : h.l0 errs n t9 t10 t11 = some r) (_h_errs : Src (Kd.err 104) H L v_errs errs) (_h_t9 : Src (Kd.err 104) H L v_t9 t9), Wp Tryz.prog 129 47 errors_Join.Kl0 (upd (upd (upd (upd (upd (upd jk_ 0 (v_errs)) 2 (errV 104 none)) 3 (.int .i64 n)) 9 (v_t9)) 10 (.int .i64 t10)) 11 (.int .i64 t11)) H (L) (errors_Join.R H0 L r)
 l1 : ∀ {H0 H : Hp} {L : Items} {r : (Option Int)} {jk_ : Nat → Value} {e__1 : List (Option Int)} {t26 : List (Option Int)} {t27 : Int} {t28 : Int} {v_e__1 : Value} {v_t26 : Value} {b_e_ : Nat} (_ : H0.le H) (_he : h.l1 e__1 t26 t27 t28 = some r) (_h_e__1 : Ro (Kd.err 104) H v_e__1 e__1) (_h_t26 : Src (Kd.err 104) H L v_t26 t26), Wp Tryz.prog 129 47 errors_Join.Kl1 (upd (upd (upd (upd (upd jk_ 2 (errV 104 none)) 6 (.pointer (some ⟨b_e_, 0, none⟩))) 26 (v_t26)) 27 (.int .i64 t27)) 28 (.int .i64 t28)) H (some (b_e_, .cells ⟨[v_e__1]⟩ 212 (0, 0)) :: L) (errors_Join.R H0 L r)
theorem errors_Join.b0_ok {k : Nat} {h : errors_Join.Hs} (hh : errors_Join.OK h) {H0 H : Hp} {L : Items} {r : (Option Int)} {jk_ : Nat → Value} {errs : List (Option Int)} {n : Int} {t9 : List (Option Int)} {t10 : Int} {t11 : Int} {v_errs : Value} {v_t9 : Value} (hle : H0.le H) (he : errors_Join.b0 k h errs n t9 t10 t11 = some r) (h_errs : Src (Kd.err 104) H L v_errs errs) (h_t9 : Src (Kd.err 104) H L v_t9 t9) : Wp Tryz.prog 129 47 errors_Join.Kl0 (upd (upd (upd (upd (upd (upd jk_ 0 (v_errs)) 2 (errV 104 none)) 3 (.int .i64 n)) 9 (v_t9)) 10 (.int .i64 t10)) 11 (.int .i64 t11)) H (L) (errors_Join.R H0 L r) := by
 unfold errors_Join.b0 at he
 unfold errors_Join.Kl0
 refine wR rfl <| w_d rfl (d_lss rfl rfl) <| wE ?_
 rcases its he with ⟨c1, he⟩ | ⟨c1, he⟩
 ·
  refine w_then rfl (dt c1) <| w_skip <| w_seq <| w_block <| wR rfl ?_
  obtain ⟨c2, he⟩ := rq he
  refine w_d rfl (d_index (sz := 1) Tryz.underlying204 sz30 rfl h_t9 rfl c2) ?_
  obtain ⟨_, l3, r4⟩ := el_of (kd := (Kd.err 104)) h_t9 c2
  obtain rfl := r4
  refine w_d rfl (d_load (v := errV 104 (rd t9 t11)) (cs := [errV 104 (rd t9 t11)]) ty30 rfl rfl (by decide) l3 rfl) <| wA (errV 104 (rd t9 t11)) rfl rfl <| wQ rfl <| wM (errV 104 (rd t9 t11)) rfl rfl <| w_d rfl (d_nenil (e := (rd t9 t11)) Tryz.underlying30 rfl) <| w_done ?_
  rcases its he with ⟨c5, he⟩ | ⟨c5, he⟩
  ·
   refine w_then rfl c5 <| w_region rfl <| wM (.int .i64 n) rfl rfl <| w_d rfl (d_add (c := w64 (n + 1)) rfl rfl rfl) <| wA (.int .i64 (w64 (n + 1))) rfl rfl <| w_done <| w_inBlock <| w_region rfl <| w_d rfl (d_add (c := w64 (t11 + 1)) rfl rfl rfl) <| wM (.int .i64 (w64 (t11 + 1))) rfl rfl <| w_done <| w_inLoop ?_
   refine w_sl 0 (v_errs) rfl <| w_sl 2 (errV 104 none) rfl <| w_sl 3 (.int .i64 (w64 (n + 1))) rfl <| w_sl 9 (v_t9) rfl <| w_sl 10 (.int .i64 t10) rfl <| w_sl 11 (.int .i64 (w64 (t11 + 1))) rfl <| hh.l0 hle he h_errs h_t9
  ·
   refine w_else rfl (Bool.eq_false_iff.2 c5) <| w_skip <| w_inBlock <| w_region rfl <| w_d rfl (d_add (c := w64 (t11 + 1)) rfl rfl rfl) <| wM (.int .i64 (w64 (t11 + 1))) rfl rfl <| w_done <| w_inLoop <| w_sl 0 (v_errs) rfl <| w_sl 2 (errV 104 none) rfl <| w_sl 3 (.int .i64 n) rfl <| w_sl 9 (v_t9) rfl ?_
   refine w_sl 10 (.int .i64 t10) rfl <| w_sl 11 (.int .i64 (w64 (t11 + 1))) rfl <| hh.l0 hle he h_errs h_t9
 ·
  refine w_else rfl (df c1) <| w_exit rfl <| w_seq <| wR rfl <| wM (.int .i64 n) rfl rfl <| w_d rfl (d_eql rfl rfl) <| w_done ?_
  rcases its he with ⟨c6, he⟩ | ⟨c6, he⟩
  ·
   refine w_then rfl (dt c6) <| wR rfl <| wA (errV 104 none) rfl rfl <| w_done ?_
   obtain rfl := sj he
   refine w_return fn_129 rs_129 (.tmp (v := errV 104 none) rfl .nil) <| ⟨⟨[], rfl⟩, hle, rfl⟩
  ·
   refine w_else rfl (df c6) <| w_skip <| wR rfl <| wM (.int .i64 n) rfl rfl ?_
   obtain ⟨c7, he⟩ := rq he
   refine w_a rfl (o_make' (kd := (Kd.err 104)) (z0 := none) Tryz.underlying204 ti30 (zp30 _) rfl rfl (by omega) (by omega) (by omega)) ?_
   rintro v8 _ _ ⟨i9, rfl, rfl, h10⟩
   refine w_freeze h10 .here ?_
   intro H11 e12 h13
   refine w_d rfl (d_build (cs' := [v8]) Tryz.underlying212 zr212 rfl (by kernel_rfl) (parts := [(0, v8)]) rfl (.cons (place_of rfl sz204 rfl) h13.cells rfl u1 .nil)) <| w_a rfl (o_box (v := .agg ⟨[v8]⟩) rfl rfl) ?_
   rintro _ _ _ ⟨b14, rfl, rfl, rfl⟩
   refine wA (.pointer (some ⟨b14, 0, none⟩)) rfl rfl <| wE <| wR rfl <| wM v_errs rfl rfl <| w_d rfl (d_len Tryz.underlying204 rfl (h_errs.mono e12).th.th) <| wM (.int .i64 0) rfl rfl <| w_done <| w_block <| w_loop <| w_del (.there .here) ?_
   refine w_sl 2 (errV 104 none) rfl <| w_sl 6 (.pointer (some ⟨b14, 0, none⟩)) rfl <| w_sl 26 (v_errs) rfl <| w_sl 27 (.int .i64 (errs.length : Int)) rfl <| w_sl 28 (.int .i64 0) rfl <| hh.l1 (hle.trans e12) he h13 (h_errs.mono e12)
theorem errors_Join.b1_ok {k : Nat} {h : errors_Join.Hs} (hh : errors_Join.OK h) {H0 H : Hp} {L : Items} {r : (Option Int)} {jk_ : Nat → Value} {e__1 : List (Option Int)} {t26 : List (Option Int)} {t27 : Int} {t28 : Int} {v_e__1 : Value} {v_t26 : Value} {b_e_ : Nat} (hle : H0.le H) (he : errors_Join.b1 k h e__1 t26 t27 t28 = some r) (h_e__1 : Ro (Kd.err 104) H v_e__1 e__1) (h_t26 : Src (Kd.err 104) H L v_t26 t26) : Wp Tryz.prog 129 47 errors_Join.Kl1 (upd (upd (upd (upd (upd jk_ 2 (errV 104 none)) 6 (.pointer (some ⟨b_e_, 0, none⟩))) 26 (v_t26)) 27 (.int .i64 t27)) 28 (.int .i64 t28)) H (some (b_e_, .cells ⟨[v_e__1]⟩ 212 (0, 0)) :: L) (errors_Join.R H0 L r) := by
 unfold errors_Join.b1 at he
 unfold errors_Join.Kl1
 refine wR rfl <| w_d rfl (d_lss rfl rfl) <| wE ?_
 rcases its he with ⟨c15, he⟩ | ⟨c15, he⟩
 ·
  refine w_then rfl (dt c15) <| w_skip <| w_seq <| w_block <| wR rfl ?_
  obtain ⟨c16, he⟩ := rq he
  refine w_d rfl (d_index (sz := 1) Tryz.underlying204 sz30 rfl h_t26.th rfl c16) ?_
  obtain ⟨_, l17, r18⟩ := el_of (kd := (Kd.err 104)) h_t26.th c16
  obtain rfl := r18
  refine w_d rfl (d_load (v := errV 104 (rd t26 t28)) (cs := [errV 104 (rd t26 t28)]) ty30 rfl rfl (by decide) l17 rfl) <| wA (errV 104 (rd t26 t28)) rfl rfl <| wQ rfl <| wM (errV 104 (rd t26 t28)) rfl rfl <| w_d rfl (d_nenil (e := (rd t26 t28)) Tryz.underlying30 rfl) <| w_done ?_
  rcases its he with ⟨c19, he⟩ | ⟨c19, he⟩
  ·
   refine w_then rfl c19 <| absurd he (by simp)
  ·
   refine w_else rfl (Bool.eq_false_iff.2 c19) <| w_skip <| w_inBlock <| w_region rfl <| w_d rfl (d_add (c := w64 (t28 + 1)) rfl rfl rfl) <| wM (.int .i64 (w64 (t28 + 1))) rfl rfl <| w_done <| w_inLoop <| w_sl 2 (errV 104 none) rfl <| w_sl 6 (.pointer (some ⟨b_e_, 0, none⟩)) rfl <| w_sl 26 (v_t26) rfl <| w_sl 27 (.int .i64 t27) rfl ?_
   refine w_sl 28 (.int .i64 (w64 (t28 + 1))) rfl <| hh.l1 hle he h_e__1 h_t26
 ·
  refine w_else rfl (df c15) <| absurd he (by simp)
theorem errors_Join.ok : ∀ k, errors_Join.OK (errors_Join.hs k)
 | 0 => ⟨(by intros; exact nomatch (show none = some _ from by assumption)), (by intros; exact nomatch (show none = some _ from by assumption))⟩
 | k + 1 => ⟨errors_Join.b0_ok (k := k) (errors_Join.ok k), errors_Join.b1_ok (k := k) (errors_Join.ok k)⟩
theorem errors_Join.calls (k : Nat) {H : Hp} {L : Items} {errs : List (Option Int)} {v0_errs : Value} {r : (Option Int)} (he : errors_Join.f k errs = some r) (h0_errs : Src (Kd.err 104) H L v0_errs errs) : Ct Tryz.prog 129 ⟨[v0_errs]⟩ H L (fun v H' L' => L = L' ∧ H = H' ∧ v = errV 104 r) := by
 refine ct_outs (O := errors_Join.out r) (fun _ _ h => h) ?_
 have hle : H.le H := .refl _
 have hh := errors_Join.ok k
 unfold errors_Join.f at he
 refine ct_enter (args := [v0_errs]) fn_129 rfl nt_129 rfl <| wR rfl <| wA (errV 104 none) rfl rfl <| wQ rfl <| wA (.int .i64 0) rfl rfl <| wE <| wR rfl ?_
 refine wM v0_errs rfl rfl <| w_d rfl (d_len Tryz.underlying204 rfl h0_errs) <| wM (.int .i64 0) rfl rfl <| w_done <| w_block <| w_loop <| w_sl 0 (v0_errs) rfl <| w_sl 2 (errV 104 none) rfl <| w_sl 3 (.int .i64 0) rfl <| w_sl 9 (v0_errs) rfl <| w_sl 10 (.int .i64 (errs.length : Int)) rfl <| w_sl 11 (.int .i64 0) rfl <| hh.l0 hle he h0_errs h0_errs
noncomputable def interval_made.C : Code := (Tryz.f80.body).getD .skip
def interval_made.out (r : interval_Span × (Option Int)) (H : Hp) (v : Value) : Prop := ∃ v0, ∃ v1, ∃ v2, ∃ v3, v = .tuple ⟨[.agg ⟨[.bool r.1.f_Low.f_n.f_neg, v0, .bool r.1.f_Low.f_d.f_neg, v1, .bool r.1.f_High.f_n.f_neg, v2, .bool r.1.f_High.f_d.f_neg, v3]⟩, errV 104 r.2]⟩ ∧ Ro kU32 H v0 r.1.f_Low.f_n.f_w ∧ Ro kU32 H v1 r.1.f_Low.f_d.f_w ∧ Ro kU32 H v2 r.1.f_High.f_n.f_w ∧ Ro kU32 H v3 r.1.f_High.f_d.f_w
theorem interval_made.out_mono (r : interval_Span × (Option Int)) {H H' : Hp} {v : Value} (hle : H.le H') (h : interval_made.out r H v) : interval_made.out r H' v := by
 obtain ⟨v0, v1, v2, v3, rfl, h0, h1, h2, h3⟩ := h; exact ⟨v0, v1, v2, v3, rfl, h0.mono hle, h1.mono hle, h2.mono hle, h3.mono hle⟩
noncomputable def interval_made.f (k : Nat) (low : ratio_Ratio) (one_ : Option Int) (high : ratio_Ratio) (two_ : Option Int) : Option (interval_Span × (Option Int)) := (errors_Join.f k [one_, two_]).bind fun y7 => if y7.isSome = true then (some ((⟨(⟨(⟨false, []⟩ : wide_Int), (⟨false, []⟩ : wide_Int)⟩ : ratio_Ratio), (⟨(⟨false, []⟩ : wide_Int), (⟨false, []⟩ : wide_Int)⟩ : ratio_Ratio)⟩ : interval_Span), some 12)) else (some ((⟨low, high⟩ : interval_Span), none))
theorem interval_made.mono : ∀ k y0 y1 y2 y3, LeO (interval_made.f k y0 y1 y2 y3) (interval_made.f (k + 1) y0 y1 y2 y3) := fun k _ _ _ _ => by unfold interval_made.f; exact (LeO.bind (errors_Join.mono k _) fun _ => LeO.ite (LeO.refl _) (LeO.refl _))
theorem interval_made.calls (k : Nat) {H : Hp} {L : Items} {low : ratio_Ratio} {one_ : Option Int} {high : ratio_Ratio} {two_ : Option Int} {v0_low : Value} {v1_low : Value} {v2_high : Value} {v3_high : Value} {r : interval_Span × (Option Int)} (he : interval_made.f k low one_ high two_ = some r) (h0_low : Ro kU32 H v0_low low.f_n.f_w) (h1_low : Ro kU32 H v1_low low.f_d.f_w) (h2_high : Ro kU32 H v2_high high.f_n.f_w) (h3_high : Ro kU32 H v3_high high.f_d.f_w) : Ct Tryz.prog 80 ⟨[.agg ⟨[.bool low.f_n.f_neg, v0_low, .bool low.f_d.f_neg, v1_low]⟩, errV 104 one_, .agg ⟨[.bool high.f_n.f_neg, v2_high, .bool high.f_d.f_neg, v3_high]⟩, errV 104 two_]⟩ H L (cR H L (interval_made.out r)) := by
 refine ct_out (O := interval_made.out r) ?_
 have hle : H.le H := .refl _
 unfold interval_made.f at he
 refine ct_enter (args := [.agg ⟨[.bool low.f_n.f_neg, v0_low, .bool low.f_d.f_neg, v1_low]⟩, errV 104 one_, .agg ⟨[.bool high.f_n.f_neg, v2_high, .bool high.f_d.f_neg, v3_high]⟩, errV 104 two_]) fn_80 rfl nt_80 rfl <| wR rfl <| w_a rfl (o_box (v := .agg ⟨[.bool low.f_n.f_neg, v0_low, .bool low.f_d.f_neg, v1_low]⟩) rfl rfl) ?_
 rintro _ _ _ ⟨b1, rfl, rfl, rfl⟩
 refine w_a rfl (o_box (v := .agg ⟨[.bool high.f_n.f_neg, v2_high, .bool high.f_d.f_neg, v3_high]⟩) rfl rfl) ?_
 rintro _ _ _ ⟨b2, rfl, rfl, rfl⟩
 refine w_a rfl (o_alloc zr28 rfl) ?_
 rintro _ _ _ ⟨b3, rfl, rfl, rfl⟩
 refine wA (errV 104 none) rfl rfl <| wE <| wR rfl <| wM (errV 104 one_) rfl rfl <| wM (errV 104 two_) rfl rfl <| w_a rfl (o_buildSlice' (kd := (Kd.err 104)) (css := [[errV 104 one_], [errV 104 two_]]) (xs := [one_, two_]) (parts := [(0, errV 104 one_), (1, errV 104 two_)]) Tryz.underlying204 ti30 rfl ⟨_, _, rfl, (errV_cells _ _), ⟨_, _, rfl, (errV_cells _ _), rfl⟩⟩ ⟨rfl, ⟨rfl, trivial⟩⟩ rfl (by decide)) ?_
 rintro v4 _ _ ⟨i5, rfl, rfl, h6⟩
 obtain ⟨y7, hy8, he⟩ := bs he
 refine w_d rfl (call_d (o_call co129 (vs := [v4]) rfl (errors_Join.calls k hy8 (h6.src .here)))) <| wA (errV 104 y7) rfl rfl <| wQ rfl <| wM (errV 104 y7) rfl rfl <| w_d rfl (d_nenil (e := y7) Tryz.underlying30 rfl) <| w_done ?_
 rcases its he with ⟨c11, he⟩ | ⟨c11, he⟩
 ·
  refine w_then rfl c11 <| wR rfl <| w_d rfl (d_build (cs' := [.bool false, .slice none 0 0, .bool false, .slice none 0 0, .bool false, .slice none 0 0, .bool false, .slice none 0 0]) Tryz.underlying28 zr28 rfl (by kernel_rfl) (parts := []) rfl .nil) <| w_d rfl (d_iface (v := .int .i64 12) Tryz.underlying104 rfl rfl) <| w_a0 rfl (o_store (v := .agg ⟨[.bool false, .slice none 0 0, .bool false, .slice none 0 0, .bool false, .slice none 0 0, .bool false, .slice none 0 0]⟩) sz28 rfl rfl rfl rfl (oc rfl (oc rfl (oc rfl (oc rfl (oc rfl (oc rfl (oc rfl (oc rfl oz)))))))) (.there .here) (.here (.here (.here (.here u4))))) ?_
  rintro _ _ _ ⟨rfl, rfl, rfl⟩
  refine wA (errV 104 (some 12)) rfl rfl <| w_done ?_
  obtain rfl := sj he
  refine w_return fn_80 rs_80 (.box (v := .agg ⟨[.bool false, .slice none 0 0, .bool false, .slice none 0 0, .bool false, .slice none 0 0, .bool false, .slice none 0 0]⟩) rfl ty28 rfl rfl (.there .here) rfl (.tmp (v := errV 104 (some 12)) rfl .nil)) <| ⟨⟨[_, _, _, _], rfl⟩, hle, ⟨.slice none 0 0, .slice none 0 0, .slice none 0 0, .slice none 0 0, rfl, (ro_nil _ _), (ro_nil _ _), (ro_nil _ _), (ro_nil _ _)⟩⟩
 ·
  refine w_else rfl (Bool.eq_false_iff.2 c11) <| w_skip <| wR rfl <| wL (.agg ⟨[.bool low.f_n.f_neg, v0_low, .bool low.f_d.f_neg, v1_low]⟩) ty26 rfl rfl (.there (.there (.there .here))) rfl rfl <| wL (.agg ⟨[.bool high.f_n.f_neg, v2_high, .bool high.f_d.f_neg, v3_high]⟩) ty26 rfl rfl (.there (.there .here)) rfl rfl <| w_d rfl (d_build (cs' := [.bool low.f_n.f_neg, v0_low, .bool low.f_d.f_neg, v1_low, .bool high.f_n.f_neg, v2_high, .bool high.f_d.f_neg, v3_high]) Tryz.underlying28 zr28 rfl (by kernel_rfl) (parts := [(0, .agg ⟨[.bool low.f_n.f_neg, v0_low, .bool low.f_d.f_neg, v1_low]⟩), (1, .agg ⟨[.bool high.f_n.f_neg, v2_high, .bool high.f_d.f_neg, v3_high]⟩)]) rfl (.cons (place_of rfl sz26 rfl) rfl rfl u4 (.cons (place_of rfl sz26 rfl) rfl rfl (.there (.there (.there (.there u4)))) .nil))) <| w_a0 rfl (o_store (v := .agg ⟨[.bool low.f_n.f_neg, v0_low, .bool low.f_d.f_neg, v1_low, .bool high.f_n.f_neg, v2_high, .bool high.f_d.f_neg, v3_high]⟩) sz28 rfl rfl rfl rfl (oc rfl (oc (h0_low.one) (oc rfl (oc (h1_low.one) (oc rfl (oc (h2_high.one) (oc rfl (oc (h3_high.one) oz)))))))) (.there .here) (.here (.here (.here (.here u4))))) ?_
  rintro _ _ _ ⟨rfl, rfl, rfl⟩
  refine wA (errV 104 none) rfl rfl <| w_done ?_
  obtain rfl := sj he
  refine w_return fn_80 rs_80 (.box (v := .agg ⟨[.bool low.f_n.f_neg, v0_low, .bool low.f_d.f_neg, v1_low, .bool high.f_n.f_neg, v2_high, .bool high.f_d.f_neg, v3_high]⟩) rfl ty28 rfl rfl (.there .here) rfl (.tmp (v := errV 104 none) rfl .nil)) <| ⟨⟨[_, _, _, _], rfl⟩, hle, ⟨v0_low, v1_low, v2_high, v3_high, rfl, h0_low, h1_low, h2_high, h3_high⟩⟩
noncomputable def interval_Add.C : Code := (Tryz.f25.body).getD .skip
def interval_Add.out (r : interval_Span × (Option Int)) (H : Hp) (v : Value) : Prop := ∃ v0, ∃ v1, ∃ v2, ∃ v3, v = .tuple ⟨[.agg ⟨[.bool r.1.f_Low.f_n.f_neg, v0, .bool r.1.f_Low.f_d.f_neg, v1, .bool r.1.f_High.f_n.f_neg, v2, .bool r.1.f_High.f_d.f_neg, v3]⟩, errV 104 r.2]⟩ ∧ Ro kU32 H v0 r.1.f_Low.f_n.f_w ∧ Ro kU32 H v1 r.1.f_Low.f_d.f_w ∧ Ro kU32 H v2 r.1.f_High.f_n.f_w ∧ Ro kU32 H v3 r.1.f_High.f_d.f_w
theorem interval_Add.out_mono (r : interval_Span × (Option Int)) {H H' : Hp} {v : Value} (hle : H.le H') (h : interval_Add.out r H v) : interval_Add.out r H' v := by
 obtain ⟨v0, v1, v2, v3, rfl, h0, h1, h2, h3⟩ := h; exact ⟨v0, v1, v2, v3, rfl, h0.mono hle, h1.mono hle, h2.mono hle, h3.mono hle⟩
noncomputable def interval_Add.f (k : Nat) (a : interval_Span) (b : interval_Span) : Option (interval_Span × (Option Int)) := (interval_check.f k [a, b]).bind fun y7 => if y7.isSome = true then (some ((⟨(⟨(⟨false, []⟩ : wide_Int), (⟨false, []⟩ : wide_Int)⟩ : ratio_Ratio), (⟨(⟨false, []⟩ : wide_Int), (⟨false, []⟩ : wide_Int)⟩ : ratio_Ratio)⟩ : interval_Span), y7)) else ((ratio_Ratio_Add.f k a.f_Low b.f_Low).bind fun y12 => (ratio_Ratio_Add.f k a.f_High b.f_High).bind fun y21 => (interval_made.f k y12.1 y12.2 y21.1 y21.2).bind fun y30 => some (y30.1, y30.2))
theorem interval_Add.mono : ∀ k y0 y1, LeO (interval_Add.f k y0 y1) (interval_Add.f (k + 1) y0 y1) := fun k _ _ => by unfold interval_Add.f; exact (LeO.bind (interval_check.mono k _) fun _ => LeO.ite (LeO.refl _) (LeO.bind (ratio_Ratio_Add.mono k _ _) fun _ => LeO.bind (ratio_Ratio_Add.mono k _ _) fun _ => LeO.bind (interval_made.mono k _ _ _ _) fun _ => LeO.refl _))
theorem interval_Add.calls (k : Nat) {H : Hp} {L : Items} {a : interval_Span} {b : interval_Span} {v0_a : Value} {v1_a : Value} {v2_a : Value} {v3_a : Value} {v4_b : Value} {v5_b : Value} {v6_b : Value} {v7_b : Value} {r : interval_Span × (Option Int)} (he : interval_Add.f k a b = some r) (h0_a : Ro kU32 H v0_a a.f_Low.f_n.f_w) (h1_a : Ro kU32 H v1_a a.f_Low.f_d.f_w) (h2_a : Ro kU32 H v2_a a.f_High.f_n.f_w) (h3_a : Ro kU32 H v3_a a.f_High.f_d.f_w) (h4_b : Ro kU32 H v4_b b.f_Low.f_n.f_w) (h5_b : Ro kU32 H v5_b b.f_Low.f_d.f_w) (h6_b : Ro kU32 H v6_b b.f_High.f_n.f_w) (h7_b : Ro kU32 H v7_b b.f_High.f_d.f_w) : Ct Tryz.prog 25 ⟨[.agg ⟨[.bool a.f_Low.f_n.f_neg, v0_a, .bool a.f_Low.f_d.f_neg, v1_a, .bool a.f_High.f_n.f_neg, v2_a, .bool a.f_High.f_d.f_neg, v3_a]⟩, .agg ⟨[.bool b.f_Low.f_n.f_neg, v4_b, .bool b.f_Low.f_d.f_neg, v5_b, .bool b.f_High.f_n.f_neg, v6_b, .bool b.f_High.f_d.f_neg, v7_b]⟩]⟩ H L (cR H L (interval_Add.out r)) := by
 refine ct_out (O := interval_Add.out r) ?_
 have hle : H.le H := .refl _
 unfold interval_Add.f at he
 refine ct_enter (args := [.agg ⟨[.bool a.f_Low.f_n.f_neg, v0_a, .bool a.f_Low.f_d.f_neg, v1_a, .bool a.f_High.f_n.f_neg, v2_a, .bool a.f_High.f_d.f_neg, v3_a]⟩, .agg ⟨[.bool b.f_Low.f_n.f_neg, v4_b, .bool b.f_Low.f_d.f_neg, v5_b, .bool b.f_High.f_n.f_neg, v6_b, .bool b.f_High.f_d.f_neg, v7_b]⟩]) fn_25 rfl nt_25 rfl <| wR rfl <| w_a rfl (o_box (v := .agg ⟨[.bool a.f_Low.f_n.f_neg, v0_a, .bool a.f_Low.f_d.f_neg, v1_a, .bool a.f_High.f_n.f_neg, v2_a, .bool a.f_High.f_d.f_neg, v3_a]⟩) rfl rfl) ?_
 rintro _ _ _ ⟨b1, rfl, rfl, rfl⟩
 refine w_a rfl (o_box (v := .agg ⟨[.bool b.f_Low.f_n.f_neg, v4_b, .bool b.f_Low.f_d.f_neg, v5_b, .bool b.f_High.f_n.f_neg, v6_b, .bool b.f_High.f_d.f_neg, v7_b]⟩) rfl rfl) ?_
 rintro _ _ _ ⟨b2, rfl, rfl, rfl⟩
 refine w_a rfl (o_alloc zr28 rfl) ?_
 rintro _ _ _ ⟨b3, rfl, rfl, rfl⟩
 refine wA (errV 104 none) rfl rfl <| wE <| wR rfl <| wL (.agg ⟨[.bool a.f_Low.f_n.f_neg, v0_a, .bool a.f_Low.f_d.f_neg, v1_a, .bool a.f_High.f_n.f_neg, v2_a, .bool a.f_High.f_d.f_neg, v3_a]⟩) ty28 rfl rfl (.there (.there .here)) rfl rfl <| wL (.agg ⟨[.bool b.f_Low.f_n.f_neg, v4_b, .bool b.f_Low.f_d.f_neg, v5_b, .bool b.f_High.f_n.f_neg, v6_b, .bool b.f_High.f_d.f_neg, v7_b]⟩) ty28 rfl rfl (.there .here) rfl rfl <| w_a rfl (o_buildSlice' (kd := k_interval_Span) (css := [[.bool a.f_Low.f_n.f_neg, v0_a, .bool a.f_Low.f_d.f_neg, v1_a, .bool a.f_High.f_n.f_neg, v2_a, .bool a.f_High.f_d.f_neg, v3_a], [.bool b.f_Low.f_n.f_neg, v4_b, .bool b.f_Low.f_d.f_neg, v5_b, .bool b.f_High.f_n.f_neg, v6_b, .bool b.f_High.f_d.f_neg, v7_b]]) (xs := [a, b]) (parts := [(0, .agg ⟨[.bool a.f_Low.f_n.f_neg, v0_a, .bool a.f_Low.f_d.f_neg, v1_a, .bool a.f_High.f_n.f_neg, v2_a, .bool a.f_High.f_d.f_neg, v3_a]⟩), (1, .agg ⟨[.bool b.f_Low.f_n.f_neg, v4_b, .bool b.f_Low.f_d.f_neg, v5_b, .bool b.f_High.f_n.f_neg, v6_b, .bool b.f_High.f_d.f_neg, v7_b]⟩)]) Tryz.underlying178 ti28 rfl ⟨_, _, rfl, rfl, ⟨_, _, rfl, rfl, rfl⟩⟩ ⟨(k_interval_Span_in (x := a) h0_a h1_a h2_a h3_a), ⟨(k_interval_Span_in (x := b) h4_b h5_b h6_b h7_b), trivial⟩⟩ rfl (by decide)) ?_
 rintro v4 _ _ ⟨i5, rfl, rfl, h6⟩
 obtain ⟨y7, hy8, he⟩ := bs he
 refine w_d rfl (call_d (o_call co79 (vs := [v4]) rfl (interval_check.calls k hy8 (h6.src .here)))) <| wA (errV 104 y7) rfl rfl <| wQ rfl <| wM (errV 104 y7) rfl rfl <| w_d rfl (d_nenil (e := y7) Tryz.underlying30 rfl) <| w_done ?_
 rcases its he with ⟨c11, he⟩ | ⟨c11, he⟩
 ·
  refine w_then rfl c11 <| wR rfl <| w_d rfl (d_build (cs' := [.bool false, .slice none 0 0, .bool false, .slice none 0 0, .bool false, .slice none 0 0, .bool false, .slice none 0 0]) Tryz.underlying28 zr28 rfl (by kernel_rfl) (parts := []) rfl .nil) <| wM (errV 104 y7) rfl rfl <| w_a0 rfl (o_store (v := .agg ⟨[.bool false, .slice none 0 0, .bool false, .slice none 0 0, .bool false, .slice none 0 0, .bool false, .slice none 0 0]⟩) sz28 rfl rfl rfl rfl (oc rfl (oc rfl (oc rfl (oc rfl (oc rfl (oc rfl (oc rfl (oc rfl oz)))))))) (.there .here) (.here (.here (.here (.here u4))))) ?_
  rintro _ _ _ ⟨rfl, rfl, rfl⟩
  refine wA (errV 104 y7) rfl rfl <| w_done ?_
  obtain rfl := sj he
  refine w_return fn_25 rs_25 (.box (v := .agg ⟨[.bool false, .slice none 0 0, .bool false, .slice none 0 0, .bool false, .slice none 0 0, .bool false, .slice none 0 0]⟩) rfl ty28 rfl rfl (.there .here) rfl (.tmp (v := errV 104 y7) rfl .nil)) <| ⟨⟨[_, _, _, _], rfl⟩, hle, ⟨.slice none 0 0, .slice none 0 0, .slice none 0 0, .slice none 0 0, rfl, (ro_nil _ _), (ro_nil _ _), (ro_nil _ _), (ro_nil _ _)⟩⟩
 ·
  refine w_else rfl (Bool.eq_false_iff.2 c11) <| w_skip <| wR rfl <| w_d rfl (d_fld (o' := 0) Tryz.underlying28 rfl sz26 rfl rfl rfl) <| wL (.agg ⟨[.bool a.f_Low.f_n.f_neg, v0_a, .bool a.f_Low.f_d.f_neg, v1_a]⟩) ty26 rfl rfl (.there (.there (.there .here))) rfl rfl <| w_d rfl (d_fld (o' := 0) Tryz.underlying28 rfl sz26 rfl rfl rfl) <| wL (.agg ⟨[.bool b.f_Low.f_n.f_neg, v4_b, .bool b.f_Low.f_d.f_neg, v5_b]⟩) ty26 rfl rfl (.there (.there .here)) rfl rfl ?_
  obtain ⟨y12, hy13, he⟩ := bs he
  refine w_a rfl (o_call co23 (vs := [.agg ⟨[.bool a.f_Low.f_n.f_neg, v0_a, .bool a.f_Low.f_d.f_neg, v1_a]⟩, .agg ⟨[.bool b.f_Low.f_n.f_neg, v4_b, .bool b.f_Low.f_d.f_neg, v5_b]⟩]) rfl (ratio_Ratio_Add.calls k (a := a.f_Low) (b := b.f_Low) hy13 h0_a h1_a h4_b h5_b)) ?_
  rintro _ H14 _ ⟨rfl, e15, ⟨v16, v18, rfl, h17, h19⟩⟩
  refine wM (.tuple ⟨[.agg ⟨[.bool y12.1.f_n.f_neg, v16, .bool y12.1.f_d.f_neg, v18]⟩, errV 104 y12.2]⟩) rfl rfl <| w_d rfl (d_ext (vs := [.agg ⟨[.bool y12.1.f_n.f_neg, v16, .bool y12.1.f_d.f_neg, v18]⟩, errV 104 y12.2]) rfl rfl) <| w_d rfl (d_ext (vs := [.agg ⟨[.bool y12.1.f_n.f_neg, v16, .bool y12.1.f_d.f_neg, v18]⟩, errV 104 y12.2]) rfl rfl) <| w_a rfl (o_alloc zr26 rfl) ?_
  rintro _ _ _ ⟨b20, rfl, rfl, rfl⟩
  refine w_a0 rfl (o_store (v := .agg ⟨[.bool y12.1.f_n.f_neg, v16, .bool y12.1.f_d.f_neg, v18]⟩) sz26 rfl rfl rfl rfl (oc rfl (oc (h17.one) (oc rfl (oc (h19.one) oz)))) .here u4) ?_
  rintro _ _ _ ⟨rfl, rfl, rfl⟩
  refine wA (errV 104 y12.2) rfl rfl <| wQ rfl <| w_d rfl (d_fld (o' := 4) Tryz.underlying28 rfl sz26 rfl rfl rfl) <| wL (.agg ⟨[.bool a.f_High.f_n.f_neg, v2_a, .bool a.f_High.f_d.f_neg, v3_a]⟩) ty26 rfl rfl (.there (.there (.there (.there .here)))) rfl rfl <| w_d rfl (d_fld (o' := 4) Tryz.underlying28 rfl sz26 rfl rfl rfl) <| wL (.agg ⟨[.bool b.f_High.f_n.f_neg, v6_b, .bool b.f_High.f_d.f_neg, v7_b]⟩) ty26 rfl rfl (.there (.there (.there .here))) rfl rfl ?_
  obtain ⟨y21, hy22, he⟩ := bs he
  refine w_a rfl (o_call co23 (vs := [.agg ⟨[.bool a.f_High.f_n.f_neg, v2_a, .bool a.f_High.f_d.f_neg, v3_a]⟩, .agg ⟨[.bool b.f_High.f_n.f_neg, v6_b, .bool b.f_High.f_d.f_neg, v7_b]⟩]) rfl (ratio_Ratio_Add.calls k (a := a.f_High) (b := b.f_High) hy22 (h2_a.mono e15) (h3_a.mono e15) (h6_b.mono e15) (h7_b.mono e15))) ?_
  rintro _ H23 _ ⟨rfl, e24, ⟨v25, v27, rfl, h26, h28⟩⟩
  refine wM (.tuple ⟨[.agg ⟨[.bool y21.1.f_n.f_neg, v25, .bool y21.1.f_d.f_neg, v27]⟩, errV 104 y21.2]⟩) rfl rfl <| w_d rfl (d_ext (vs := [.agg ⟨[.bool y21.1.f_n.f_neg, v25, .bool y21.1.f_d.f_neg, v27]⟩, errV 104 y21.2]) rfl rfl) <| w_d rfl (d_ext (vs := [.agg ⟨[.bool y21.1.f_n.f_neg, v25, .bool y21.1.f_d.f_neg, v27]⟩, errV 104 y21.2]) rfl rfl) <| w_a rfl (o_alloc zr26 rfl) ?_
  rintro _ _ _ ⟨b29, rfl, rfl, rfl⟩
  refine w_a0 rfl (o_store (v := .agg ⟨[.bool y21.1.f_n.f_neg, v25, .bool y21.1.f_d.f_neg, v27]⟩) sz26 rfl rfl rfl rfl (oc rfl (oc (h26.one) (oc rfl (oc (h28.one) oz)))) .here u4) ?_
  rintro _ _ _ ⟨rfl, rfl, rfl⟩
  refine wA (errV 104 y21.2) rfl rfl <| wQ rfl <| wL (.agg ⟨[.bool y12.1.f_n.f_neg, v16, .bool y12.1.f_d.f_neg, v18]⟩) ty26 rfl rfl (.there .here) rfl rfl <| wM (errV 104 y12.2) rfl rfl <| wL (.agg ⟨[.bool y21.1.f_n.f_neg, v25, .bool y21.1.f_d.f_neg, v27]⟩) ty26 rfl rfl .here rfl rfl <| wM (errV 104 y21.2) rfl rfl ?_
  obtain ⟨y30, hy31, he⟩ := bs he
  refine w_a rfl (o_call co80 (vs := [.agg ⟨[.bool y12.1.f_n.f_neg, v16, .bool y12.1.f_d.f_neg, v18]⟩, errV 104 y12.2, .agg ⟨[.bool y21.1.f_n.f_neg, v25, .bool y21.1.f_d.f_neg, v27]⟩, errV 104 y21.2]) rfl (interval_made.calls k (low := y12.1) (high := y21.1) hy31 (h17.mono e24) (h19.mono e24) h26 h28)) ?_
  rintro _ H32 _ ⟨rfl, e33, ⟨v34, v36, v38, v40, rfl, h35, h37, h39, h41⟩⟩
  refine w_d rfl (d_ext (vs := [.agg ⟨[.bool y30.1.f_Low.f_n.f_neg, v34, .bool y30.1.f_Low.f_d.f_neg, v36, .bool y30.1.f_High.f_n.f_neg, v38, .bool y30.1.f_High.f_d.f_neg, v40]⟩, errV 104 y30.2]) rfl rfl) <| w_d rfl (d_ext (vs := [.agg ⟨[.bool y30.1.f_Low.f_n.f_neg, v34, .bool y30.1.f_Low.f_d.f_neg, v36, .bool y30.1.f_High.f_n.f_neg, v38, .bool y30.1.f_High.f_d.f_neg, v40]⟩, errV 104 y30.2]) rfl rfl) <| w_a0 rfl (o_store (v := .agg ⟨[.bool y30.1.f_Low.f_n.f_neg, v34, .bool y30.1.f_Low.f_d.f_neg, v36, .bool y30.1.f_High.f_n.f_neg, v38, .bool y30.1.f_High.f_d.f_neg, v40]⟩) sz28 rfl rfl rfl rfl (oc rfl (oc (h35.one) (oc rfl (oc (h37.one) (oc rfl (oc (h39.one) (oc rfl (oc (h41.one) oz)))))))) (.there (.there (.there .here))) (.here (.here (.here (.here u4))))) ?_
  rintro _ _ _ ⟨rfl, rfl, rfl⟩
  refine wA (errV 104 y30.2) rfl rfl <| w_done ?_
  obtain rfl := sj he
  refine w_return fn_25 rs_25 (.box (v := .agg ⟨[.bool y30.1.f_Low.f_n.f_neg, v34, .bool y30.1.f_Low.f_d.f_neg, v36, .bool y30.1.f_High.f_n.f_neg, v38, .bool y30.1.f_High.f_d.f_neg, v40]⟩) rfl ty28 rfl rfl (.there (.there (.there .here))) rfl (.tmp (v := errV 104 y30.2) rfl .nil)) <| ⟨⟨[_, _, _, _, _, _], rfl⟩, hle.trans ((e15.trans e24).trans e33), ⟨v34, v36, v38, v40, rfl, h35, h37, h39, h41⟩⟩
end Go.Proofs.YtkccpkccdbfomaaGreatDoor.GSH
