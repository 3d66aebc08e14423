/- Operations that touch no memory, or only read it. -/
import Derived.Test.YtjhpkkhcgpilfaaDoorGTOk2
import Derived.Laws.Entries
import Derived.Laws.Rows
namespace Go.Proofs.YtjhpkkhcgpilfaaDoorK
open Go Go.RowKit
set_option linter.unusedVariables false
set_option linter.unusedSimpArgs false
section
variable {P : Program} {f : FB} {n : Nat} {k : List Item} {σ : Nat → Value} {H : Hp} {L : Items} {R : Value → Hp → Items → Prop}
theorem w_a {ops : Array Oper} {i : Nat} {rest : List Nat} {op : Op} {d : Nat} {Ψ} (hi : opAt ops i = some (op, some d, none)) (h : OpA P n σ H L op Ψ)
    (hk : ∀ v H' L', Ψ v H' L' → Wp P f n (.inRegion ops rest :: k) (upd σ d v) H' L' R) : Wp P f n (.inRegion ops (i :: rest) :: k) σ H L R := by
  obtain ⟨o, ho, h1, h2, h3⟩ := opAt_eq hi
  refine w_op ho h3 (h o h1) fun v H' L' x => ?_
  rw [h2]; exact hk v H' L' x
theorem w_a0 {ops : Array Oper} {i : Nat} {rest : List Nat} {op : Op} {Ψ} (hi : opAt ops i = some (op, none, none)) (h : OpA P n σ H L op Ψ)
    (hk : ∀ v H' L', Ψ v H' L' → Wp P f n (.inRegion ops rest :: k) σ H' L' R) : Wp P f n (.inRegion ops (i :: rest) :: k) σ H L R := by
  obtain ⟨o, ho, h1, h2, h3⟩ := opAt_eq hi
  refine w_op ho h3 (h o h1) fun v H' L' x => ?_
  rw [h2]; exact hk v H' L' x
theorem w_d {ops : Array Oper} {i : Nat} {rest : List Nat} {op : Op} {d : Nat} {v : Value} (hi : opAt ops i = some (op, some d, none)) (h : OpA P n σ H L op (Is v H L))
    (hk : Wp P f n (.inRegion ops rest :: k) (upd σ d v) H L R) : Wp P f n (.inRegion ops (i :: rest) :: k) σ H L R :=
  w_a hi h fun _ _ _ ⟨a, b, c⟩ => by subst a; subst b; subst c; exact hk
/-- Under a guard. -/
theorem w_ga {ops : Array Oper} {i : Nat} {rest : List Nat} {op : Op} {d j dj : Nat} {want g : Bool} {Ψ} (hi : opAt ops i = some (op, some d, some (j, want))) (hj : (nth ops.toList j).bind (·.dst) = some dj) (hd : Nat.blt dj n = true) (hw : wants (σ dj) want = g)
    (h : g = true → OpA P n σ H L op Ψ) (hk : ∀ v H' L', (g = true → Ψ v H' L') → (g = false → v = undef ∧ H' = H ∧ L' = L) → Wp P f n (.inRegion ops rest :: k) (upd σ d v) H' L' R) : Wp P f n (.inRegion ops (i :: rest) :: k) σ H L R := by
  obtain ⟨o, ho, h1, h2, h3⟩ := opAt_eq hi
  subst hw
  refine w_gop ho h3 (d := dj) (by rw [nth_eq, Array.getElem?_toList] at hj; exact hj) hd (fun e => h e o h1) fun v H' L' a b => ?_
  rw [h2]; exact hk v H' L' a b
/-- A guarded operation that only computes: its value stands under the guard. -/
theorem w_g {ops : Array Oper} {i : Nat} {rest : List Nat} {op : Op} {d j dj : Nat} {want g : Bool} {v : Value} (hi : opAt ops i = some (op, some d, some (j, want))) (hj : (nth ops.toList j).bind (·.dst) = some dj) (hd : Nat.blt dj n = true) (hw : wants (σ dj) want = g)
    (h : g = true → OpA P n σ H L op (Is v H L)) (hk : Wp P f n (.inRegion ops rest :: k) (upd σ d (cond g v undef)) H L R) : Wp P f n (.inRegion ops (i :: rest) :: k) σ H L R := by
  refine w_ga hi hj hd hw h fun v' H' L' a b => ?_
  cases g with
  | true => obtain ⟨rfl, rfl, rfl⟩ := a rfl; exact hk
  | false => obtain ⟨rfl, rfl, rfl⟩ := b rfl; exact hk
/-- A guarded call that makes something. -/
theorem w_gk {ops : Array Oper} {i : Nat} {rest : List Nat} {op : Op} {d j dj : Nat} {want g : Bool} {O : Hp → Value → Prop} (hi : opAt ops i = some (op, some d, some (j, want))) (hj : (nth ops.toList j).bind (·.dst) = some dj) (hd : Nat.blt dj n = true) (hw : wants (σ dj) want = g)
    (h : g = true → OpA P n σ H L op (fun v H' L' => L = L' ∧ H.le H' ∧ O H' v)) (hk : ∀ v H', H.le H' → (g = true → O H' v) → (g = false → v = undef) → Wp P f n (.inRegion ops rest :: k) (upd σ d v) H' L R) : Wp P f n (.inRegion ops (i :: rest) :: k) σ H L R := by
  refine w_ga hi hj hd hw h fun v' H' L' a b => ?_
  cases g with
  | true => obtain ⟨rfl, h1, h2⟩ := a rfl; exact hk v' H' h1 (fun _ => h2) (fun e => by cases e)
  | false => obtain ⟨rfl, rfl, rfl⟩ := b rfl; exact hk _ _ (.refl _) (fun e => by cases e) (fun _ => rfl)
theorem gk1 {α : Type} [Inhabited α] {g : Bool} {v : Value} {T : α → Value} {Q : α → Prop} (hp : g = true → ∃ x, v = T x ∧ Q x) (hq : g = false → v = undef) : ∃ x, v = cond g (T x) undef ∧ (g = true → Q x) := by
  cases g with
  | true => obtain ⟨x, h1, h2⟩ := hp rfl; exact ⟨x, h1, fun _ => h2⟩
  | false => exact ⟨default, hq rfl, fun e => by cases e⟩
theorem wn_t {g : Bool} : wants (.bool g) true = g := by cases g <;> rfl
theorem wn_f {g : Bool} : wants (.bool g) false = !g := by cases g <;> rfl
theorem wn_gt {g b : Bool} : wants (cond g (.bool b) undef) true = (g && b) := by cases g <;> cases b <;> rfl
theorem cvt {g : Bool} {v u : Value} (h : g = true) : cond g v u = v := by rw [h]; rfl
/-- Under two guards, the first of which holds. -/
theorem cva {g b : Bool} {v u : Value} (h : g = true) : cond (g && b) v u = cond b v u := by rw [h]; rfl
theorem opA_det {op : Op} {v : Value} (h : ∀ o : Oper, o.op = op → ∀ w, Own H w L → (execOp (ev n σ) o).run P w = .ok (.value v) w) : OpA P n σ H L op (Is v H L) :=
  fun o ho => opr_run fun w hw => ⟨v, w, H, L, .inl (h o ho w hw), hw, rfl, rfl, rfl⟩
/-- The same where the world is as it was, but nothing is asked of it. -/
theorem opA_any {op : Op} {v : Value} (h : ∀ o : Oper, o.op = op → ∀ w, (execOp (ev n σ) o).run P w = .ok (.value v) w) : OpA P n σ H L op (Is v H L) := opA_det fun o ho w _ => h o ho w

/-! ### values -/
theorem d_move {x : Operand} {v : Value} (hx : ev n σ x = v) : OpA P n σ H L (.move x) (Is v H L) := opA_any fun o ho w => by
  unfold execOp; rw [ho]; simp [hx]
theorem d_assign {x : Operand} {v : Value} (hx : ev n σ x = v) : OpA P n σ H L (.assign x) (Is v H L) := opA_any fun o ho w => by
  unfold execOp; rw [ho]; simp [hx]
/-- '&&', '||': what stands under a guard is asked only where the guard holds. -/
theorem d_and' {c x y : Operand} {b p : Bool} {u : Value} (hc : ev n σ c = .bool b) (hx : ev n σ x = cond b (.bool p) u) (hy : ev n σ y = .bool false) : OpA P n σ H L (.pick c x y) (Is (.bool (b && p)) H L) := opA_any fun o ho w => by
  unfold execOp; rw [ho]; cases b <;> simp [hc, hx, hy, asBool]
theorem d_or' {c x y : Operand} {b p : Bool} {u : Value} (hc : ev n σ c = .bool b) (hx : ev n σ x = .bool true) (hy : ev n σ y = cond (!b) (.bool p) u) : OpA P n σ H L (.pick c x y) (Is (.bool (b || p)) H L) := opA_any fun o ho w => by
  unfold execOp; rw [ho]; cases b <;> simp [hc, hx, hy, asBool]
def w64 (x : Int) : Int := IntKind.i64.wrap x
theorem wrap_u32 (x : Int) : IntKind.u32.wrap x = x % 4294967296 := rfl
theorem w64_eq (x : Int) : w64 x = if 9223372036854775808 ≤ x % 18446744073709551616 then x % 18446744073709551616 - 18446744073709551616 else x % 18446744073709551616 := by
  simp only [w64, IntKind.wrap, IntKind.bits, IntKind.signed, Bool.true_and, decide_eq_true_eq, ge_iff_le, show (2 : Int) ^ 64 = 18446744073709551616 by decide, show (2 : Int) ^ (64 - 1) = 9223372036854775808 by decide]
theorem w64_id {x : Int} (h : -9223372036854775808 ≤ x ∧ x ≤ 9223372036854775807) : w64 x = x := by
  rw [w64_eq]; split <;> omega
section ints
variable {t ty : TypeId} {x y : Operand} {K : IntKind} {a b c : Int}
theorem run_eqGuard_int (op : BinOp) (t : TypeId) (x y : Operand) (K K' : IntKind) (a b : Int) (w : World) : (eqGuard op t x y (.int K a) (.int K' b)).run P w = .ok () w := by
  cases op <;> rfl
theorem d_arith {op : BinOp} {v : Value} (hx : ev n σ x = .int K a) (hy : ev n σ y = .int K b) (h : ∀ w, (binOp op t (.int K a) (.int K b)).run P w = .ok v w) : OpA P n σ H L (.binOp op t x y ty) (Is v H L) := opA_any fun o ho w => by
  unfold execOp; rw [ho]; simp [hx, hy, run_eqGuard_int, h w]
theorem d_add (hx : ev n σ x = .int K a) (hy : ev n σ y = .int K b) (hw : K.wrap (a + b) = c) : OpA P n σ H L (.binOp .add t x y ty) (Is (.int K c) H L) := d_arith hx hy fun w => by rw [← hw]; simp [binOp, Op.intArith]
theorem d_sub (hx : ev n σ x = .int K a) (hy : ev n σ y = .int K b) (hw : K.wrap (a - b) = c) : OpA P n σ H L (.binOp .sub t x y ty) (Is (.int K c) H L) := d_arith hx hy fun w => by rw [← hw]; simp [binOp, Op.intArith]
theorem d_mul (hx : ev n σ x = .int K a) (hy : ev n σ y = .int K b) (hw : K.wrap (a * b) = c) : OpA P n σ H L (.binOp .mul t x y ty) (Is (.int K c) H L) := d_arith hx hy fun w => by rw [← hw]; simp [binOp, Op.intArith]
theorem d_rem (hx : ev n σ x = .int K a) (hy : ev n σ y = .int K b) (h0 : b ≠ 0) : OpA P n σ H L (.binOp .rem t x y ty) (Is (.int K (a.tmod b)) H L) := d_arith hx hy fun w => by simp [binOp, Op.intDiv, h0]
def iand (K : IntKind) (a b : Int) : Int := K.wrap (BitVec.ofInt K.bits a &&& BitVec.ofInt K.bits b).toNat
def ior (K : IntKind) (a b : Int) : Int := K.wrap (BitVec.ofInt K.bits a ||| BitVec.ofInt K.bits b).toNat
theorem d_band (hx : ev n σ x = .int K a) (hy : ev n σ y = .int K b) : OpA P n σ H L (.binOp .and t x y ty) (Is (.int K (iand K a b)) H L) := d_arith hx hy fun w => by simp [binOp, Op.intBits, iand]
theorem d_bor (hx : ev n σ x = .int K a) (hy : ev n σ y = .int K b) : OpA P n σ H L (.binOp .or t x y ty) (Is (.int K (ior K a b)) H L) := d_arith hx hy fun w => by simp [binOp, Op.intBits, ior]
/-- Shifts: the count as a natural number, cut at the kind's bits. -/
def shn (K : IntKind) (b : Int) : Nat := min b.toNat K.bits
theorem d_shl {K' : IntKind} (hx : ev n σ x = .int K a) (hy : ev n σ y = .int K' b) (h0 : 0 ≤ b) (hw : K.wrap (a * 2 ^ shn K b) = c) : OpA P n σ H L (.binOp .shl t x y ty) (Is (.int K c) H L) := opA_any fun o ho w => by
  unfold execOp; rw [ho]; rw [← hw]; have : ¬ b < 0 := by omega
  simp [hx, hy, run_eqGuard_int, binOp, Op.shift, this, shn]
theorem d_shr {K' : IntKind} (hx : ev n σ x = .int K a) (hy : ev n σ y = .int K' b) (h0 : 0 ≤ b) (hw : a / (2 ^ shn K b) = c) : OpA P n σ H L (.binOp .shr t x y ty) (Is (.int K c) H L) := opA_any fun o ho w => by
  unfold execOp; rw [ho]; rw [← hw, ← Int.fdiv_eq_ediv_of_nonneg a (Int.le_of_lt (Int.pow_pos (by decide)))]; have : ¬ b < 0 := by omega
  simp [hx, hy, run_eqGuard_int, binOp, Op.shift, this, shn]
theorem d_eql (hx : ev n σ x = .int K a) (hy : ev n σ y = .int K b) : OpA P n σ H L (.binOp .eql t x y ty) (Is (.bool (decide (a = b))) H L) := d_arith hx hy fun w => by simp [binOp, Op.intCmp]; rfl
theorem d_neq (hx : ev n σ x = .int K a) (hy : ev n σ y = .int K b) : OpA P n σ H L (.binOp .neq t x y ty) (Is (.bool (!decide (a = b))) H L) := d_arith hx hy fun w => by simp [binOp, Op.intCmp]; rfl
theorem d_lss (hx : ev n σ x = .int K a) (hy : ev n σ y = .int K b) : OpA P n σ H L (.binOp .lss t x y ty) (Is (.bool (decide (a < b))) H L) := d_arith hx hy fun w => by simp [binOp, Op.intCmp]
theorem d_leq (hx : ev n σ x = .int K a) (hy : ev n σ y = .int K b) : OpA P n σ H L (.binOp .leq t x y ty) (Is (.bool (decide (a ≤ b))) H L) := d_arith hx hy fun w => by simp [binOp, Op.intCmp]
theorem d_gtr (hx : ev n σ x = .int K a) (hy : ev n σ y = .int K b) : OpA P n σ H L (.binOp .gtr t x y ty) (Is (.bool (decide (b < a))) H L) := d_arith hx hy fun w => by simp [binOp, Op.intCmp]
theorem d_geq (hx : ev n σ x = .int K a) (hy : ev n σ y = .int K b) : OpA P n σ H L (.binOp .geq t x y ty) (Is (.bool (decide (b ≤ a))) H L) := d_arith hx hy fun w => by simp [binOp, Op.intCmp]
theorem d_not {b : Bool} (hx : ev n σ x = .bool b) : OpA P n σ H L (.unOp .not t x) (Is (.bool (!b)) H L) := opA_any fun o ho w => by
  unfold execOp; rw [ho]; simp [hx, Op.unary]
theorem d_conv {src dst : TypeId} {K' : IntKind} {D : TypeDesc} (hs : P.underlying src = some D) (hd : P.underlying dst = some (.int K')) (hx : ev n σ x = .int K a) (hw : K'.wrap a = c) : OpA P n σ H L (.convert src dst x) (Is (.int K' c) H L) := opA_any fun o ho w => by
  unfold execOp; rw [ho]; rw [← hw]; simp [hx, convert, run_underlying hs, run_underlying hd, Conv.intToInt]
theorem d_iface {T : TypeId} {v : Value} {D : TypeDesc} (ht : P.underlying T = some D) (hD : (match D with | .interface _ => false | _ => true) = true) (hx : ev n σ x = v) : OpA P n σ H L (.makeInterface T x) (Is (.iface T v) H L) := opA_any fun o ho w => by
  unfold execOp; rw [ho]; simp [hx, Instr.makeInterface, run_underlying ht]; cases D <;> simp_all
theorem d_extract {i : Nat} {vs : List Value} {v : Value} (hx : ev n σ x = .tuple vs.toArray) (hv : vs[i]? = some v) : OpA P n σ H L (.extract x i) (Is v H L) := opA_any fun o ho w => by
  unfold execOp; rw [ho]; simp [hx, Instr.extract, hv]
theorem d_nilCheck {p : Addr} (hx : ev n σ x = .pointer (some p)) : OpA P n σ H L (.nilCheck x) (Is (.pointer (some p)) H L) := opA_any fun o ho w => by
  unfold execOp; rw [ho]; simp [hx]
end ints
end
end Go.Proofs.YtjhpkkhcgpilfaaDoorK
