/- Pairs by search: a track is paired by the shortest way. -/
import Derived.Test.YtacbficpehmlnaaPureHU1
namespace Go.Proofs.Ytacbficpehmlnaa.Pure
open Go.RowKit Go.Proofs.YtacbficpehmlnaaK Go.Proofs.Ytacbficpehmlnaa.GBQ
set_option linter.unusedVariables false
set_option linter.unusedSimpArgs false
set_option maxRecDepth 100000
def INF : Int := 9223372036854775807
/-- Numbers and owners, when m tracks are paired. -/
structure HI (rows : List (List Int)) (miss : Int) (P m : Nat) (u v ow : List Int) : Prop where
  lu : u.length = rows.length
  lv : v.length = P + rows.length
  lo : ow.length = P + rows.length
  u0 : ∀ t : Nat, t < rows.length → 0 ≤ rd u (t : Int)
  v0 : ∀ k : Nat, k < P + rows.length → rd v (k : Int) ≤ 0
  vz : ∀ k : Nat, k < P + rows.length → (P ≤ k ∨ rd ow (k : Int) = -1) → rd v (k : Int) = 0
  ho : ∀ k : Nat, k < P + rows.length → rd ow (k : Int) = -1 ∨ ∃ t : Nat, t < m ∧ rd ow (k : Int) = (t : Int)
  un : ∀ k k' : Nat, k < P + rows.length → k' < P + rows.length → rd ow (k : Int) = rd ow (k' : Int) → rd ow (k : Int) ≠ -1 → k = k'
  al : ∀ k t : Nat, k < P + rows.length → rd ow (k : Int) = (t : Int) → (pc rows miss P t k).2 = true ∧ rd u (t : Int) + rd v (k : Int) = (pc rows miss P t k).1
  fe : ∀ t k : Nat, t < rows.length → k < P + rows.length → (pc rows miss P t k).2 = true → rd u (t : Int) + rd v (k : Int) ≤ (pc rows miss P t k).1
  uz : ∀ t : Nat, m ≤ t → t < rows.length → rd u (t : Int) = 0
  all : ∀ t : Nat, t < m → ∃ k : Nat, k < P + rows.length ∧ rd ow (k : Int) = (t : Int)
theorem pc_own (rows : List (List Int)) (miss : Int) (P t s : Nat) : pc rows miss P t (P + s) = (miss, decide (s = t)) := by
  unfold pc; rw [if_pos (by omega)]
  congr 1; rw [decide_eq_decide]; omega
section
variable {rows : List (List Int)} {miss : Int} {P m : Nat} {u v ow : List Int}
theorem HI.ub (hi : HI rows miss P m u v ow) {t : Nat} (ht : t < rows.length) : rd u (t : Int) ≤ miss := by
  have h1 := hi.fe t (P + t) ht (by omega) (by rw [pc_own]; simp)
  have h2 := hi.vz (P + t) (by omega) (.inl (by omega))
  rw [pc_own] at h1; simp only at h1; omega
theorem HI.vb (h : COk rows miss P) (hi : HI rows miss P m u v ow) (hm : m ≤ rows.length) {k : Nat} (hk : k < P + rows.length) : -4096 ≤ rd v (k : Int) ∧ rd v (k : Int) ≤ 0 := by
  refine ⟨?_, hi.v0 k hk⟩
  rcases hi.ho k hk with e | ⟨t, ht, e⟩
  · rw [hi.vz k hk (.inr e)]; decide
  · have h1 := (hi.al k t hk e).2
    have h2 := hi.ub (t := t) (by omega)
    have h3 := pc_bd h (t := t) (k := k) (by omega)
    have h4 := h.m
    omega
/-- The columns that were gone to, the last one first: each comes from one of those ahead of it. -/
def Chn (g : List Int) : List Nat → Prop
  | [] => True
  | a :: D => (rd g (a : Int) = -1 ∨ ∃ b ∈ D, rd g (a : Int) = ((b : Nat) : Int)) ∧ a ∉ D ∧ Chn g D
theorem Chn.congr {g g' : List Int} : ∀ {D : List Nat}, (∀ a ∈ D, rd g' (a : Int) = rd g (a : Int)) → Chn g D → Chn g' D
  | [], _, _ => trivial
  | a :: D, h, ⟨h1, h2, h3⟩ => ⟨by rw [h a (by simp)]; exact h1, h2, Chn.congr (fun b hb => h b (by simp [hb])) h3⟩
theorem Chn.cut {g : List Int} : ∀ {D : List Nat} {a : Nat}, Chn g D → a ∈ D → ∃ D', Chn g D' ∧ D'.length < D.length ∧ a ∉ D' ∧ (rd g (a : Int) = -1 ∨ ∃ b ∈ D', rd g (a : Int) = ((b : Nat) : Int)) ∧ ∀ x ∈ D', x ∈ D
  | b :: D, a, ⟨h1, h2, h3⟩, ha => by
    by_cases e : a = b
    · subst e; exact ⟨D, h3, by simp, h2, h1, fun x hx => by simp [hx]⟩
    · obtain ⟨D', q1, q2, q3, q4, q5⟩ := Chn.cut h3 (by simpa [e] using ha)
      exact ⟨D', q1, by simp; omega, q3, q4, fun x hx => by simp [q5 x hx]⟩
/-- How a column is come to. -/
def Sr (rows : List (List Int)) (miss : Int) (P T : Nat) (u v ow f g : List Int) (D : List Nat) (k : Nat) : Prop :=
  (rd g (k : Int) = -1 ∧ (pc rows miss P T k).2 = true ∧ rd f (k : Int) = (pc rows miss P T k).1 - rd u (T : Int) - rd v (k : Int)) ∨
  ∃ a t : Nat, a ∈ D ∧ a ≠ k ∧ rd g (k : Int) = (a : Int) ∧ rd ow (a : Int) = (t : Int) ∧ (pc rows miss P t k).2 = true ∧ rd f (k : Int) = rd f (a : Int) + (pc rows miss P t k).1 - rd u (t : Int) - rd v (k : Int)
structure SI (rows : List (List Int)) (miss : Int) (P T : Nat) (u v ow f g : List Int) (dn : List Bool) (D : List Nat) : Prop where
  lf : f.length = P + rows.length
  lg : g.length = P + rows.length
  ld : dn.length = P + rows.length
  dD : ∀ k : Nat, k < P + rows.length → (rd dn (k : Int) = true ↔ k ∈ D)
  D1 : ∀ a ∈ D, a < P + rows.length ∧ (∃ t : Nat, t < T ∧ rd ow (a : Int) = (t : Int)) ∧ 0 ≤ rd f (a : Int) ∧ rd f (a : Int) ≤ miss
  s2 : ∀ k : Nat, k < P + rows.length → (pc rows miss P T k).2 = true → rd f (k : Int) ≤ (pc rows miss P T k).1 - rd u (T : Int) - rd v (k : Int)
  s3 : ∀ a ∈ D, ∀ t : Nat, rd ow (a : Int) = (t : Int) → ∀ k : Nat, k < P + rows.length → (pc rows miss P t k).2 = true → rd f (k : Int) ≤ rd f (a : Int) + (pc rows miss P t k).1 - rd u (t : Int) - rd v (k : Int)
  s4 : ∀ k : Nat, k < P + rows.length → rd f (k : Int) = INF ∨ (0 ≤ rd f (k : Int) ∧ Sr rows miss P T u v ow f g D k)
  s5 : ∀ a ∈ D, ∀ k : Nat, k < P + rows.length → k ∉ D → rd f (a : Int) ≤ rd f (k : Int)
  ch : Chn g D
variable {T : Nat} {f g : List Int} {dn : List Bool} {D : List Nat}
theorem SI.free (hi : HI rows miss P T u v ow) (hs : SI rows miss P T u v ow f g dn D) (hT : T < rows.length) : P + T ∉ D := fun hd => by
  obtain ⟨h1, ⟨t, h2, h3⟩, _⟩ := hs.D1 _ hd
  have := (hi.al _ t h1 h3).1
  rw [pc_own] at this; simp at this; omega
theorem SI.near (h : COk rows miss P) (hi : HI rows miss P T u v ow) (hs : SI rows miss P T u v ow f g dn D) (hT : T < rows.length) {b : Nat} (hb : b < P + rows.length) (hm : ∀ k : Nat, k < P + rows.length → k ∉ D → rd f (b : Int) ≤ rd f (k : Int)) : 0 ≤ rd f (b : Int) ∧ rd f (b : Int) ≤ miss ∧ Sr rows miss P T u v ow f g D b := by
  have h1 := hm (P + T) (by omega) (hs.free hi hT)
  have h2 := hs.s2 (P + T) (by omega) (by rw [pc_own]; simp)
  have h3 := hi.vz (P + T) (by omega) (.inl (by omega))
  have h4 := hi.u0 T hT
  have h5 := h.m
  rw [pc_own] at h2; simp only at h2
  rcases hs.s4 b hb with e | ⟨e1, e2⟩
  · unfold INF at e; omega
  · exact ⟨e1, by omega, e2⟩
theorem si_step (h : COk rows miss P) (hi : HI rows miss P T u v ow) (hs : SI rows miss P T u v ow f g dn D) (hT : T < rows.length) {b t : Nat} (hb : b < P + rows.length) (hbD : b ∉ D) (hm : ∀ k : Nat, k < P + rows.length → k ∉ D → rd f (b : Int) ≤ rd f (k : Int)) (ho : rd ow (b : Int) = (t : Int)) (htT : t < T)
    {f' g' : List Int} (lf' : f'.length = P + rows.length) (lg' : g'.length = P + rows.length) (hf : ∀ k : Nat, k < P + rows.length → rd f' (k : Int) = if Upw rows miss P u v (rd f (b : Int)) t f (dn.set b true) k then nw rows miss P u v (rd f (b : Int)) t k else rd f (k : Int)) (hg : ∀ k : Nat, k < P + rows.length → rd g' (k : Int) = if Upw rows miss P u v (rd f (b : Int)) t f (dn.set b true) k then (b : Int) else rd g (k : Int)) : SI rows miss P T u v ow f' g' (dn.set b true) (b :: D) := by
  obtain ⟨n1, n2, n3⟩ := hs.near h hi hT hb hm
  have ht : t < rows.length := by omega
  have dD' : ∀ k : Nat, k < P + rows.length → (rd (dn.set b true) (k : Int) = true ↔ k ∈ b :: D) := fun k hk => by
    rw [rdset (by have := hs.ld; omega) (by have := hs.ld; omega)]
    by_cases e : b = k
    · subst e; simp
    · rw [if_neg e, hs.dD k hk]; simp [Ne.symm e]
  have old : ∀ k, k < P + rows.length → k ∈ b :: D → rd f' (k : Int) = rd f (k : Int) ∧ rd g' (k : Int) = rd g (k : Int) := fun k hk hkD => by
    have hn : ¬ Upw rows miss P u v (rd f (b : Int)) t f (dn.set b true) k := fun z => by
      have := (dD' k hk).2 hkD; rw [z.2.1] at this; cases this
    rw [hf k hk, hg k hk, if_neg hn, if_neg hn]; exact ⟨rfl, rfl⟩
  have red : ∀ k : Nat, k < P + rows.length → (pc rows miss P t k).2 = true → 0 ≤ (pc rows miss P t k).1 - rd u (t : Int) - rd v (k : Int) := fun k hk ha => by have := hi.fe t k ht hk ha; omega
  have le : ∀ k : Nat, k < P + rows.length → rd f' (k : Int) ≤ rd f (k : Int) := fun k hk => by
    rw [hf k hk]; split
    · rename_i z; exact Int.le_of_lt z.2.2
    · exact Int.le_refl _
  have Dlt : ∀ a ∈ D, a < P + rows.length := fun a ha => (hs.D1 a ha).1
  have fb : rd f' (b : Int) = rd f (b : Int) := (old b hb (by simp)).1
  have fD : ∀ a ∈ D, rd f' (a : Int) = rd f (a : Int) := fun a ha => (old a (Dlt a ha) (by simp [ha])).1
  refine ⟨lf', lg', by simpa using hs.ld, dD', fun a ha => ?_, fun k hk ha => ?_, fun a ha s hsa k hk hak => ?_, fun k hk => ?_, fun a ha k hk hkD => ?_, ?_⟩
  · rcases List.mem_cons.1 ha with rfl | ha
    · rw [fb]; exact ⟨hb, ⟨t, htT, ho⟩, n1, n2⟩
    · rw [fD a ha]; exact hs.D1 a ha
  · have := hs.s2 k hk ha; have := le k hk; omega
  · rcases List.mem_cons.1 ha with rfl | ha
    · have est : s = t := by rw [ho] at hsa; omega
      subst est
      rw [fb]
      by_cases hkD : k ∈ a :: D
      · rw [(old k hk hkD).1]
        have := red k hk hak
        rcases List.mem_cons.1 hkD with rfl | hkD
        · omega
        · have := hs.s5 k hkD a hb hbD; omega
      · rw [hf k hk]
        by_cases z : Upw rows miss P u v (rd f (a : Int)) s f (dn.set a true) k
        · rw [if_pos z]; unfold nw; exact Int.le_refl _
        · rw [if_neg z]
          have : ¬ nw rows miss P u v (rd f (a : Int)) s k < rd f (k : Int) := fun w => z ⟨hak, by
            cases e : rd (dn.set a true) (k : Int) with
            | false => rfl
            | true => exact absurd ((dD' k hk).1 e) hkD, w⟩
          unfold nw at this; omega
    · rw [fD a ha]
      have := hs.s3 a ha s hsa k hk hak; have := le k hk; omega
  · by_cases z : Upw rows miss P u v (rd f (b : Int)) t f (dn.set b true) k
    · right
      have e1 : rd f' (k : Int) = nw rows miss P u v (rd f (b : Int)) t k := by rw [hf k hk, if_pos z]
      have := red k hk z.1
      refine ⟨by rw [e1]; unfold nw; omega, .inr ⟨b, t, by simp, fun e => ?_, by rw [hg k hk, if_pos z], ho, z.1, by rw [e1, fb]; rfl⟩⟩
      subst e
      have := (dD' b hk).2 (by simp); rw [z.2.1] at this; cases this
    · have e1 : rd f' (k : Int) = rd f (k : Int) := by rw [hf k hk, if_neg z]
      have e2 : rd g' (k : Int) = rd g (k : Int) := by rw [hg k hk, if_neg z]
      rcases hs.s4 k hk with e | ⟨q1, q2⟩
      · exact .inl (by rw [e1]; exact e)
      · refine .inr ⟨by rw [e1]; exact q1, ?_⟩
        rcases q2 with ⟨w1, w2, w3⟩ | ⟨a, s, w1, w2, w3, w4, w5, w6⟩
        · exact .inl ⟨by rw [e2]; exact w1, w2, by rw [e1]; exact w3⟩
        · exact .inr ⟨a, s, by simp [w1], w2, by rw [e2]; exact w3, w4, w5, by rw [e1, fD a w1]; exact w6⟩
  · have hkD' : k ∉ D := fun z => hkD (by simp [z])
    have hfa : rd f' (a : Int) ≤ rd f (b : Int) := by
      rcases List.mem_cons.1 ha with rfl | ha
      · rw [fb]; exact Int.le_refl _
      · rw [fD a ha]; exact hs.s5 a ha b hb hbD
    rw [hf k hk]
    by_cases z : Upw rows miss P u v (rd f (b : Int)) t f (dn.set b true) k
    · rw [if_pos z]; have := red k hk z.1; unfold nw; omega
    · rw [if_neg z]; have := hm k hk hkD'; omega
  · have gD : ∀ a ∈ D, rd g' (a : Int) = rd g (a : Int) := fun a ha => (old a (Dlt a ha) (by simp [ha])).2
    have gb : rd g' (b : Int) = rd g (b : Int) := (old b hb (by simp)).2
    refine ⟨?_, hbD, hs.ch.congr gD⟩
    rw [gb]
    rcases n3 with ⟨w1, _⟩ | ⟨a, s, w1, w2, w3, _⟩
    · exact .inl w1
    · exact .inr ⟨a, w1, w3⟩
theorem si_zero (h : COk rows miss P) (hi : HI rows miss P T u v ow) (hT : T < rows.length) {f' g' : List Int} (lf' : f'.length = P + rows.length) (lg' : g'.length = P + rows.length) (hf : ∀ k : Nat, k < P + rows.length → rd f' (k : Int) = if Upw rows miss P u v 0 T (List.replicate (P + rows.length) INF) (List.replicate (P + rows.length) false) k then nw rows miss P u v 0 T k else rd (List.replicate (P + rows.length) INF) (k : Int)) (hg : ∀ k : Nat, k < P + rows.length → rd g' (k : Int) = if Upw rows miss P u v 0 T (List.replicate (P + rows.length) INF) (List.replicate (P + rows.length) false) k then (-1 : Int) else rd (List.replicate (P + rows.length) (-1)) (k : Int)) : SI rows miss P T u v ow f' g' (List.replicate (P + rows.length) false) [] := by
  have r1 : ∀ k : Nat, k < P + rows.length → rd (List.replicate (P + rows.length) INF) (k : Int) = INF := fun k hk => (List.mem_replicate.1 (rd_mem (L := List.replicate (P + rows.length) INF) (x := (k : Int)) (by simp; omega))).2
  have r2 : ∀ k : Nat, k < P + rows.length → rd (List.replicate (P + rows.length) false) (k : Int) = false := fun k hk => (List.mem_replicate.1 (rd_mem (L := List.replicate (P + rows.length) false) (x := (k : Int)) (by simp; omega))).2
  have r3 : ∀ k : Nat, k < P + rows.length → rd (List.replicate (P + rows.length) (-1 : Int)) (k : Int) = -1 := fun k hk => (List.mem_replicate.1 (rd_mem (L := List.replicate (P + rows.length) (-1 : Int)) (x := (k : Int)) (by simp; omega))).2
  have u4 : rd u (T : Int) ≤ 4096 := by have := hi.ub hT; have := h.m; omega
  have bd : ∀ k : Nat, k < P + rows.length → nw rows miss P u v 0 T k < INF := fun k hk => by
    have h1 := pc_bd h (t := T) (k := k) hT; have h2 := hi.vb h (by omega) hk; have h3 := hi.u0 T hT
    unfold nw INF; omega
  have gm : ∀ k : Nat, k < P + rows.length → rd g' (k : Int) = -1 := fun k hk => by
    rw [hg k hk]; split
    · rfl
    · exact r3 k hk
  refine ⟨lf', lg', by simp, fun k hk => ?_, (fun a ha => by cases ha), fun k hk ha => ?_, (fun a ha => by cases ha), fun k hk => ?_, (fun a ha => by cases ha), trivial⟩
  · rw [r2 k hk]; simp
  · have z : Upw rows miss P u v 0 T (List.replicate (P + rows.length) INF) (List.replicate (P + rows.length) false) k := ⟨ha, r2 k hk, by rw [r1 k hk]; exact bd k hk⟩
    rw [hf k hk, if_pos z]; unfold nw; omega
  · by_cases z : Upw rows miss P u v 0 T (List.replicate (P + rows.length) INF) (List.replicate (P + rows.length) false) k
    · right
      have e : rd f' (k : Int) = (pc rows miss P T k).1 - rd u (T : Int) - rd v (k : Int) := by rw [hf k hk, if_pos z]; unfold nw; omega
      have := hi.fe T k hT hk z.1
      exact ⟨by omega, .inl ⟨gm k hk, z.1, e⟩⟩
    · left; rw [hf k hk, if_neg z]; exact r1 k hk
end
end Go.Proofs.Ytacbficpehmlnaa.Pure
