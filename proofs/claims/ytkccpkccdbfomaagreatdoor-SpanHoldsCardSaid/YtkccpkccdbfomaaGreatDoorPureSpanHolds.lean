/- The law SpanHolds: what is reckoned of the ends of two Spans lies in what is reckoned of the Spans. -/
import Derived.Test.YtkccpkccdbfomaaGreatDoorPureI2L34
namespace Go.Proofs.YtkccpkccdbfomaaGreatDoor.Pure
open Go.RowKit Go.Proofs.YtkccpkccdbfomaaGreatDoorK Go.Proofs.YtkccpkccdbfomaaGreatDoor.GSH
set_option linter.unusedVariables false
set_option linter.unusedSimpArgs false
set_option maxRecDepth 100000
def T60 : Nat := 10 ^ 60
def B60 : Nat := 2 * (2 * (T60 * T60) * T60 * T60)
theorem B60_lim : 2 * (B60 * B60) < LIM ∧ B60 * B60 * (B60 * B60) < LIM := by decide +kernel
theorem le60 : T60 ≤ B60 ∧ T60 * T60 ≤ B60 ∧ 2 * (T60 * T60) ≤ B60 ∧ 2 * (T60 * T60) * T60 ≤ B60 ∧ 2 * (T60 * T60) * T60 * T60 ≤ B60 ∧ 2 * (2 * (T60 * T60) * T60 * T60) ≤ B60 ∧ max 9223372036854775808 (2 ^ 1) ≤ T60 ∧ B60 < LIM := by decide +kernel
theorem half_eq : mkRat 1 (2 ^ 1) = (1 / 2 : Rat) := by decide +kernel
theorem pure_SpanHolds (p q : radomelaw34_Ends) (h0 : ∀ x ∈ p.f_L.e0, (Lit.int .u8 x).wf = true) (h0' : p.f_L.e0.length < 9000000000000000000) (h1 : ∀ x ∈ p.f_L.e1, (Lit.int .u8 x).wf = true) (h1' : p.f_L.e1.length < 9000000000000000000) (h2 : ∀ x ∈ p.f_L.e2, (Lit.int .u8 x).wf = true) (h2' : p.f_L.e2.length < 9000000000000000000) (h3 : ∀ x ∈ p.f_L.e3, (Lit.int .u8 x).wf = true) (h3' : p.f_L.e3.length < 9000000000000000000)
    (g0 : ∀ x ∈ q.f_L.e0, (Lit.int .u8 x).wf = true) (g0' : q.f_L.e0.length < 9000000000000000000) (g1 : ∀ x ∈ q.f_L.e1, (Lit.int .u8 x).wf = true) (g1' : q.f_L.e1.length < 9000000000000000000) (g2 : ∀ x ∈ q.f_L.e2, (Lit.int .u8 x).wf = true) (g2' : q.f_L.e2.length < 9000000000000000000) (g3 : ∀ x ∈ q.f_L.e3, (Lit.int .u8 x).wf = true) (g3' : q.f_L.e3.length < 9000000000000000000) : Ev (fun k => radomelaw34_SpanHolds.f k p q) true := by
  obtain ⟨a, b, wp, ra, rb, ab⟩ := spanOf_ev (order := true) h0 h0' h1 h1' h2 h2' h3 h3'
  obtain ⟨c, d, wq, rc, rd_, cd⟩ := spanOf_ev (order := true) g0 g0' g1 g1' g2 g2' g3 g3'
  have ab := ab rfl; have cd := cd rfl
  have h1200 : 10 ^ 60 < 10 ^ 1200 := by decide +kernel
  have GP := giveSpan_ev ra rb h1200
  have GQ := giveSpan_ev rc rd_ h1200
  have H := RBits_ev (n := 1) (bits := 1) (by decide) (by decide)
  rw [half_eq, show ((1 : Nat) : Int) = 1 from rfl] at H
  obtain ⟨H1, H2⟩ := H
  obtain ⟨l1, l2, l3, l4, l5, l6, l7, l8⟩ := le60
  obtain ⟨k1, k2⟩ := B60_lim
  have k3 : B60 * B60 < LIM := by omega
  change Rs T60 a at ra; change Rs T60 b at rb; change Rs T60 c at rc; change Rs T60 d at rd_
  have rh := H2.mono l7
  have Ba := ra.mono l1; have Bb := rb.mono l1; have Bc := rc.mono l1; have Bd := rd_.mono l1; have Bh := rh.mono l1
  have s1 := Rs_add ra rb
  have s2 := Rs_mul s1 rh
  have Bs := s1.mono l3
  have Bm := s2.mono l4
  have sx := (Rs_add s2 rd_).mono l6
  have sy := (Rs_mul s2 rc).mono l5
  have su1 := (Rs_add ra rc).mono l3
  have su2 := (Rs_add rb rd_).mono l3
  obtain ⟨f1, f2⟩ := four_Rs ra rb rc rd_
  have f1 := f1.mono l2; have f2 := f2.mono l2
  -- the widest of both
  have wR : Rs T60 (wid a a [b, c, d]).1 ∧ Rs T60 (wid a a [b, c, d]).2 := by
    obtain ⟨m1, m2⟩ := wid_mem [b, c, d] a a
    have key : ∀ w, (w = a ∨ w ∈ [b, c, d]) → Rs T60 w := fun w h => by
      simp at h; rcases h with rfl | rfl | rfl | rfl <;> assumption
    exact ⟨key _ m1, key _ m2⟩
  obtain ⟨⟨w1, w2⟩, w3⟩ := wid_le [b, c, d] a a
  have wb := w3 b (by simp)
  have IJ := IJoin_ev Ba Bb Bc Bd k3 ab cd
  generalize wid a a [b, c, d] = W at *
  obtain ⟨lo, hi⟩ := W
  simp only at wR w1 w2 wb IJ
  obtain ⟨rlo, rhi⟩ := wR
  have lohi : lo ≤ hi := Rat.le_trans w1 w2
  obtain ⟨e1, e2⟩ := four_Rs rlo rhi rc rd_
  have e1 := e1.mono l2; have e2 := e2.mono l2
  have Blo := rlo.mono l1; have Bhi := rhi.mono l1
  -- what lies in what
  have hm : a ≤ (a + b) * (1 / 2) ∧ (a + b) * (1 / 2) ≤ b := by grind
  have in1 : a + c ≤ (a + b) * (1 / 2) + d ∧ (a + b) * (1 / 2) + d ≤ b + d := by grind
  have in2 := four_in hm.1 hm.2 (Rat.le_refl (a := c)) cd
  have pp : (four a b c d).1 ≤ (four a b c d).2 := Rat.le_trans in2.1 in2.2
  have mm : (four lo hi c d).1 ≤ (four lo hi c d).2 := by
    have := four_in (Rat.le_refl (a := lo)) lohi (Rat.le_refl (a := c)) cd
    exact Rat.le_trans this.1 this.2
  have in3 : ∀ v, (v = (four a b c d).1 ∨ v = (four a b c d).2) → (four lo hi c d).1 ≤ v ∧ v ≤ (four lo hi c d).2 := fun v hv => by
    have ha := Rat.le_trans ab wb.2
    have hb := Rat.le_trans w1 ab
    rcases four_mem a b c d v hv with rfl | rfl | rfl | rfl
    · exact four_in w1 ha (Rat.le_refl (a := c)) cd
    · exact four_in w1 ha cd (Rat.le_refl (a := d))
    · exact four_in hb wb.2 (Rat.le_refl (a := c)) cd
    · exact four_in hb wb.2 cd (Rat.le_refl (a := d))
  have sumle : a + c ≤ b + d := by grind
  -- the run
  unfold radomelaw34_SpanHolds.f
  refine Ev.bind wp (Ev.bind GP (Ev.bind wq (Ev.bind GQ (Ev.bind H1 ?_))))
  simp only [Sb_l, Sb_h]
  refine Ev.bind (RAdd_ev Ba Bb k1) (Ev.bind (RMul_ev Bs Bh k3) (Ev.bind (IAdd_ev Ba Bb Bc Bd k1 ab cd) (Ev.bind (IMul_ev Ba Bb Bc Bd k2 ab cd) (Ev.bind IJ (Ev.bind (IMul_ev Blo Bhi Bc Bd k2 lohi cd) ?_)))))
  simp only [Option.isSome_none, Bool.or_false, Bool.false_eq_true, if_false]
  refine Ev.bind (RAdd_ev Bm Bd k1) (Ev.bind (RMul_ev Bm Bc k3) (Ev.bind (In_ev sx su1 su2 k3 sumle) (Ev.bind (In_ev sy f1 f2 k3 pp) (Ev.bind (Within_ev f1 f2 e1 e2 k3 pp mm) (Ev.bind (Within_ev Ba Bb Blo Bhi k3 ab lohi) ?_)))))
  simp only [decide_eq_true in1, decide_eq_true in2, decide_eq_true (show (four lo hi c d).1 ≤ (four a b c d).1 ∧ (four a b c d).2 ≤ (four lo hi c d).2 from ⟨(in3 _ (.inl rfl)).1, (in3 _ (.inr rfl)).2⟩), decide_eq_true (show lo ≤ a ∧ b ≤ hi from ⟨w1, wb.2⟩), Option.isNone_none, Bool.and_self, gdt, Bool.true_and]
  exact Ev.bind L34.sure_ev Ev.now
theorem SpanHolds : radomelaw34_SpanHolds.Pure := fun p q h h' => by
  obtain ⟨⟨⟨⟨-, a0⟩, w0⟩, ⟨⟨-, a1⟩, w1⟩, ⟨⟨-, a2⟩, w2⟩, ⟨⟨-, a3⟩, w3⟩⟩, -⟩ := h
  obtain ⟨⟨⟨⟨-, b0⟩, v0⟩, ⟨⟨-, b1⟩, v1⟩, ⟨⟨-, b2⟩, v2⟩, ⟨⟨-, b3⟩, v3⟩⟩, -⟩ := h'
  exact (pure_SpanHolds p q w0 (by omega) w1 (by omega) w2 (by omega) w3 (by omega) v0 (by omega) v1 (by omega) v2 (by omega) v3 (by omega)).ex
end Go.Proofs.YtkccpkccdbfomaaGreatDoor.Pure
