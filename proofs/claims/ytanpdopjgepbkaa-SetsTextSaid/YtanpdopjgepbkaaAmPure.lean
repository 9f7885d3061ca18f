/-
  Operations whose value hangs on their operands alone: what the machine answers is what the model answers.
-/
import Derived.Test.YtanpdopjgepbkaaAmSt
import Derived.WideLaws
import Derived.Laws.StructEq
set_option linter.unusedVariables false
set_option linter.unusedSimpArgs false
namespace Go.Proofs.Ytanpdopjgepbkaa.AM
open Go

variable {P : Program} {ρ : Rho} {lm : Nat → Option Nat} {fr : Fr} {ev : Operand → Value} {w : World}

/-! ### 1. What stands behind a value -/
theorem VRelF.vrel {v u : Value} (h : VRelF ρ lm v u) (h1 : ∀ a, v ≠ .pointer (some a)) (h2 : ∀ a n e, v ≠ .slice (some a) n e) : VRel ρ v u := by
  rcases h with h | ⟨nm, o, c, h, _⟩ | ⟨nm, n, e, c, h, _⟩
  · exact h
  · exact absurd h (h1 _)
  · exact absurd h (h2 _ _ _)
theorem VRelF.int {k : IntKind} {n : Int} {u : Value} (h : VRelF ρ lm (.int k n) u) : u = .int k n := by
  have := h.vrel (by simp) (by simp); cases this; rfl
theorem VRelF.bool {b : Bool} {u : Value} (h : VRelF ρ lm (.bool b) u) : u = .bool b := by
  have := h.vrel (by simp) (by simp); cases this; rfl
theorem VRelF.string {s : ByteArray} {u : Value} (h : VRelF ρ lm (.string s) u) : u = .string s := by
  have := h.vrel (by simp) (by simp); cases this; rfl
theorem VRelF.agg {cs : Array Value} {u : Value} (h : VRelF ρ lm (.agg cs) u) : ∃ ds, u = .agg ds ∧ cs.size = ds.size ∧ ∀ (i : Nat) x y, cs[i]? = some x → ds[i]? = some y → VRel ρ x y := by
  have := h.vrel (by simp) (by simp); cases this with | agg _ ds h1 h2 => exact ⟨ds, rfl, h1, h2⟩
theorem VRelF.pnil {u : Value} (h : VRelF ρ lm (.pointer none) u) : u = .pointer none := by
  have := h.vrel (by simp) (by simp); cases this; rfl
theorem VRelF.psome {p : Addr} {u : Value} (h : VRelF ρ lm (.pointer (some p)) u) : ∃ p' : Addr, u = .pointer (some p') ∧ p'.spot = none := by
  rcases h with h | ⟨nm, o, c, h1, h2, h3⟩ | ⟨nm, n, e, c, h1, _⟩
  · cases h; exact ⟨_, rfl, rfl⟩
  · exact ⟨_, h3, rfl⟩
  · cases h1
theorem VRelF.snil {n e : Nat} {u : Value} (h : VRelF ρ lm (.slice none n e) u) : u = .slice none 0 0 ∧ n = 0 ∧ e = 0 := by
  have := h.vrel (by simp) (by simp); cases this; exact ⟨rfl, rfl, rfl⟩
theorem VRelF.ssome {p : Addr} {n e : Nat} {u : Value} (h : VRelF ρ lm (.slice (some p) n e) u) : ∃ p' k, u = .slice (some p') n k := by
  rcases h with h | ⟨nm, o, c, h1, h2, h3⟩ | ⟨nm, n', e', c, h1, h2, h3⟩
  · cases h with
    | sl b o c δ N n e k h h1 h2 => exact ⟨_, _, rfl⟩
    | slZ a a' e => exact ⟨_, _, rfl⟩
  · cases h1
  · injection h1 with g1 g2 g3; subst g2; exact ⟨_, _, h3⟩
theorem VRelF.mnil {u : Value} (h : VRelF ρ lm (.map none) u) : u = .map none := by
  have := h.vrel (by simp) (by simp); cases this; rfl
theorem VRelF.msome {b : Nat} {u : Value} (h : VRelF ρ lm (.map (some b)) u) : ∃ c δ N, u = .map (some c) ∧ ρ[b]? = some (c, δ, N) := by
  have := h.vrel (by simp) (by simp); cases this with | map _ c δ N h' => exact ⟨c, δ, N, rfl, h'⟩

/-- The operands of the machine and of the model. -/
def OpdRel (P : Program) (ρ : Rho) (lm : Nat → Option Nat) (fr : Fr) (ev : Operand → Value) : Prop :=
  ∀ x y, liftOpd P x = some y → VRelF ρ lm (opd fr y) (ev x)

theorem opdRel_act {B nt : Nat} {E : Ent} {D : List Nat} {m : Mem} {a : Act} (s : SR P B nt E D ρ lm (fget fr) m a w) : OpdRel P ρ lm fr a.eval := by
  intro x y h
  cases x with
  | tmp t => simp only [liftOpd, Option.some.injEq] at h; subst h; exact s.val t
  | const v =>
    simp only [liftOpd] at h
    split at h
    · rename_i hf; injection h with h; subst h; exact .inl (VRel.flatV hf)
    · cases h
  | global g =>
    simp only [liftOpd] at h
    split at h
    · rename_i hg
      injection h with h
      subst h
      obtain ⟨N, hN⟩ := s.heap.glob g hg
      exact .inl (.ptr g 0 g 0 N hN)
    · cases h
  | func f => simp only [liftOpd, Option.some.injEq] at h; subst h; exact .inl (.func _ _ _ _ _ rfl rfl (by simp) (by simp))

theorem liftOpds_rel (hr : OpdRel P ρ lm fr ev) : ∀ (xs : List Operand) (ys : List Opd), xs.mapM (liftOpd P) = some ys → All2 (VRelF ρ lm) (opds fr ys) (xs.map ev)
  | [], ys, h => by simp at h; subst h; exact .nil
  | x :: xs, ys, h => by
    simp only [List.mapM_cons, Option.bind_eq_bind] at h
    obtain ⟨y, hy, h⟩ := Option.bind_eq_some_iff.1 h
    obtain ⟨l, hl, h⟩ := Option.bind_eq_some_iff.1 h
    simp at h
    subst h
    exact .cons (hr x y hy) (liftOpds_rel hr xs l hl)

theorem All2.okVs {xs ys : List Value} (h : All2 (VRelF ρ lm) xs ys) (hk : xs.all okV = true) : VRels ρ xs ys := by
  induction h with
  | nil => exact .nil
  | cons h _ ih =>
    simp only [List.all_cons, Bool.and_eq_true] at hk
    exact .cons (h.ok hk.1) (ih hk.2)

theorem run_und {t : TypeId} {d : TypeDesc} (h : P.underlying t = some d) (w : World) : (underlying t).run P w = .ok d w := by
  simp [underlying, h]
theorem run_szOf {t : TypeId} {n : Nat} (h : szOf P t = some n) (w : World) : (sizeOf t).run P w = .ok n w := by
  unfold szOf at h
  obtain ⟨i, hi, rfl⟩ := Option.map_eq_some_iff.1 h
  simp [sizeOf, typeInfo, hi]

/-! ### 2. Binary operations -/
theorem run_intBin {op : BinOp} {k : IntKind} {x y : Int} {v : Value} (h : intBin op k x y = some v) (t : TypeId) : (binOp op t (.int k x) (.int k y)).run P w = .ok v w := by
  cases op <;> simp only [intBin, Option.some.injEq] at h <;>
    first
      | (subst h; simp [binOp, Op.intArith, Op.intBits, Op.intCmp]; done)
      | (split at h
         · cases h
         · rename_i h0; simp only [Option.some.injEq] at h; subst h; simp [binOp, Op.intDiv, h0])
      | cases h

theorem run_strBin {op : BinOp} {x y : ByteArray} {v : Value} (h : strBin op x y = some v) (t : TypeId) : (binOp op t (.string x) (.string y)).run P w = .ok v w := by
  cases op <;> simp only [strBin, Option.some.injEq] at h <;>
    first
      | (subst h; simp [binOp, Op.stringOp]; done)
      | (split at h
         · rename_i h0
           simp only [Option.some.injEq] at h
           subst h
           have : ¬ (((x.size + y.size : Nat) : Int) > IntKind.i64.max) := by
             have e : IntKind.i64.max = 9223372036854775807 := by decide
             rw [e]; omega
           simp [binOp, Op.stringOp]
           omega
         · cases h)
      | cases h

theorem run_shiftBin {op : BinOp} {k k' : IntKind} {x y : Int} {v : Value} (ho : op = .shl ∨ op = .shr) (h : shiftBin op k x y = some v) (t : TypeId) :
    (binOp op t (.int k x) (.int k' y)).run P w = .ok v w := by
  unfold shiftBin at h
  split at h
  · cases h
  · rename_i h0
    rcases ho with rfl | rfl
    · simp only [Option.some.injEq] at h; subst h; simp [binOp, Op.shift, h0]
    · simp only [Option.some.injEq] at h; subst h; simp [binOp, Op.shift, h0]


/-! ### 3. '==' -/
def eqKOf : TypeDesc → Option EqK
  | .bool => some .bool
  | .pointer _ => some .ptr
  | .slice _ => some .sl
  | .map _ _ => some .map
  | .func _ _ _ => some .func
  | _ => none

theorem run_eqNil' (dp : Nat) {k : EqK} {d : TypeDesc} {t : TypeId} (ht : P.underlying t = some d) (hd : eqKOf d = some k) {x y x' y' : Value} (hx : VRelF ρ lm x x') (hy : VRelF ρ lm y y') {b : Bool}
    (h : eqNil k x y = some b) : (Op.equalIn (dp + 1) t x' y').run P w = .ok b w := by
  have hu := run_und ht
  simp only [Op.equalIn, Sem.run_bind, hu, Result.andThen_ok]
  unfold eqNil at h
  split at h
  · obtain rfl := hx.bool; obtain rfl := hy.bool
    injection h with h; subst h
    cases d <;> simp [eqKOf] at hd
    simp
  · obtain rfl := hx.pnil
    injection h with h; subst h
    cases d <;> simp [eqKOf] at hd
    rename_i b _
    cases b with
    | none => obtain rfl := hy.pnil; simp
    | some p => obtain ⟨p', rfl, _⟩ := hy.psome; simp
  · obtain ⟨p', rfl, _⟩ := hx.psome; obtain rfl := hy.pnil
    injection h with h; subst h
    cases d <;> simp [eqKOf] at hd
    simp
  · obtain ⟨rfl, _, _⟩ := hx.snil
    injection h with h; subst h
    cases d <;> simp [eqKOf] at hd
    rename_i b _ _ _ _ _
    cases b with
    | none => obtain ⟨rfl, _, _⟩ := hy.snil; simp
    | some p => obtain ⟨p', k, rfl⟩ := hy.ssome; simp
  · obtain ⟨p', k, rfl⟩ := hx.ssome; obtain ⟨rfl, _, _⟩ := hy.snil
    injection h with h; subst h
    cases d <;> simp [eqKOf] at hd
    simp
  · obtain rfl := hx.mnil
    injection h with h; subst h
    cases d <;> simp [eqKOf] at hd
    rename_i b _ _
    cases b with
    | none => obtain rfl := hy.mnil; simp
    | some p => obtain ⟨c, δ, N, rfl, _⟩ := hy.msome; simp
  · obtain ⟨c, δ, N, rfl, _⟩ := hx.msome; obtain rfl := hy.mnil
    injection h with h; subst h
    cases d <;> simp [eqKOf] at hd
    simp
  · have hx := hx.vrel (by simp) (by simp); have hy := hy.vrel (by simp) (by simp)
    injection h with h; subst h
    cases d <;> simp [eqKOf] at hd
    cases hx <;> cases hy <;> simp
  · have hx := hx.vrel (by simp) (by simp); have hy := hy.vrel (by simp) (by simp)
    injection h with h; subst h
    cases d <;> simp [eqKOf] at hd
    cases hx <;> cases hy <;> simp
  · have hx := hx.vrel (by simp) (by simp); have hy := hy.vrel (by simp) (by simp)
    injection h with h; subst h
    cases d <;> simp [eqKOf] at hd
    cases hx; cases hy; simp
  · cases h

theorem run_eqNil {k : EqK} {d : TypeDesc} {t : TypeId} (ht : P.underlying t = some d) (hd : eqKOf d = some k) {x y x' y' : Value} (hx : VRelF ρ lm x x') (hy : VRelF ρ lm y y') {b : Bool}
    (h : eqNil k x y = some b) : (Op.equal t x' y').run P w = .ok b w := run_eqNil' 9999 ht hd hx hy h

theorem fk_int {t : TypeId} (h : fkOf P t = some .int) : ∃ k, P.underlying t = some (.int k) := by
  unfold fkOf at h
  split at h <;> first | (rename_i hu; exact ⟨_, hu⟩) | (injection h with h; cases h; done) | (cases h; done)
theorem fk_bool {t : TypeId} (h : fkOf P t = some .bool) : P.underlying t = some .bool := by
  unfold fkOf at h
  split at h <;> first | assumption | (injection h with h; cases h; done) | (cases h; done)
theorem fk_string {t : TypeId} (h : fkOf P t = some .string) : P.underlying t = some .string := by
  unfold fkOf at h
  split at h <;> first | assumption | (injection h with h; cases h; done) | (cases h; done)

theorem run_part_flat {t : TypeId} {k : FK} (ht : fkOf P t = some k) {cs : Array Value} {i : Nat} {v : Value} (h : cs[i]? = some v) (w : World) : (part t cs i).run P w = .ok v w := by
  unfold fkOf at ht
  unfold part isAgg
  split at ht <;> first | (rename_i hu; have hu' := run_und hu w; simp only [Sem.run_bind, hu', Result.andThen_ok, h]; simp; done) | cases ht

/-- Cells of one kind, compared. -/
theorem run_eqCell (dp : Nat) {t : TypeId} {k : FK} (ht : fkOf P t = some k) {ks : List FK} {x y x' y' : Value} {xs ys : List Value} {b : Bool} (hx : VRel ρ x x') (hy : VRel ρ y y')
    (h : eqCells (k :: ks) (x :: xs) (y :: ys) = some b) : ∃ r, (Op.equalIn (dp + 1) t x' y').run P w = .ok r w ∧ (if r = true then eqCells ks xs ys else some false) = some b := by
  cases k with
  | int =>
    obtain ⟨kk, hu⟩ := fk_int ht
    cases x <;> cases y <;> simp only [eqCells] at h <;> first | cases h | skip
    cases hx; cases hy
    split at h
    · rename_i hk
      subst hk
      exact ⟨_, by simp [Op.equalIn, run_und hu], h⟩
    · cases h
  | bool =>
    have hu := fk_bool ht
    cases x <;> cases y <;> simp only [eqCells] at h <;> first | cases h | skip
    cases hx; cases hy
    exact ⟨_, by simp [Op.equalIn, run_und hu], h⟩
  | string =>
    have hu := fk_string ht
    cases x <;> cases y <;> simp only [eqCells] at h <;> first | cases h | skip
    cases hx; cases hy
    exact ⟨_, by simp [Op.equalIn, run_und hu], h⟩

theorem eqCells_cons {k : FK} {ks : List FK} {xs ys : List Value} {b : Bool} (h : eqCells (k :: ks) xs ys = some b) : ∃ x xs' y ys', xs = x :: xs' ∧ ys = y :: ys' := by
  cases xs with
  | nil => cases k <;> simp [eqCells] at h
  | cons x xs =>
    cases ys with
    | nil => cases k <;> cases x <;> simp [eqCells] at h
    | cons y ys => exact ⟨x, xs, y, ys, rfl, rfl⟩

theorem run_eqFlat (dp : Nat) : ∀ (fs : List Field) (i : Nat) (ks : List FK), flatFields P fs i = some ks → ∀ (xs ys xs' ys' : Array Value), xs.size = xs'.size → ys.size = ys'.size →
    (∀ (i : Nat) x y, xs[i]? = some x → xs'[i]? = some y → VRel ρ x y) → (∀ (i : Nat) x y, ys[i]? = some x → ys'[i]? = some y → VRel ρ x y) →
    ∀ b, eqCells ks (xs.toList.drop i) (ys.toList.drop i) = some b → (Op.eqFields (dp + 1) xs' ys' fs).run P w = .ok b w
  | [], i, ks, hf, xs, ys, xs', ys', hx, hy, rx, ry, b, he => by
    simp only [flatFields, Option.some.injEq] at hf
    subst hf
    cases h1 : xs.toList.drop i <;> cases h2 : ys.toList.drop i <;> rw [h1, h2] at he <;> simp [eqCells] at he
    subst he
    simp [Op.eqFields]
  | f :: fs, i, ks, hf, xs, ys, xs', ys', hx, hy, rx, ry, b, he => by
    simp only [flatFields] at hf
    split at hf
    · rename_i hn
      obtain ⟨hn, ho⟩ := hn
      split at hf
      · rename_i k l hk hl
        injection hf with hf
        subst hf
        obtain ⟨x, xl, y, yl, ex, ey⟩ := eqCells_cons he
        rw [ex, ey] at he
        have gx : xs[i]? = some x := by
          have : (xs.toList.drop i)[0]? = some x := by rw [ex]; rfl
          simpa using this
        have gy : ys[i]? = some y := by
          have : (ys.toList.drop i)[0]? = some y := by rw [ey]; rfl
          simpa using this
        have ex2 : xs.toList.drop (i + 1) = xl := by rw [← List.drop_drop, ex]; simp
        have ey2 : ys.toList.drop (i + 1) = yl := by rw [← List.drop_drop, ey]; simp
        obtain ⟨px, hpx⟩ : ∃ p, xs'[i]? = some p := by
          have := (Array.getElem?_eq_some_iff.1 gx).1
          exact ⟨xs'[i], by simp [← hx, this]⟩
        obtain ⟨py, hpy⟩ : ∃ p, ys'[i]? = some p := by
          have := (Array.getElem?_eq_some_iff.1 gy).1
          exact ⟨ys'[i], by simp [← hy, this]⟩
        obtain ⟨r, hr, hb⟩ := run_eqCell (w := w) dp hk (rx i x px gx hpx) (ry i y py gy hpy) he
        have h1 := run_part_flat hk hpx w
        have h2 := run_part_flat hk hpy w
        rw [Op.eqFields]
        simp only [if_pos hn, Sem.run_bind, ho, h1, h2, hr, Result.andThen_ok]
        cases r with
        | false => simp only [Bool.false_eq_true, if_false, Option.some.injEq] at hb; subst hb; simp
        | true =>
          simp only [if_true] at hb
          have := run_eqFlat dp fs (i + 1) l hl xs ys xs' ys' hx hy rx ry b (by rw [ex2, ey2]; exact hb)
          simpa using this
      · cases hf
    · cases hf

theorem run_eqStruct (dp : Nat) {t : TypeId} {fs : Array Field} (hu : P.underlying t = some (.struct fs)) (hp : P.stoodInHeld t = false) {ks : List FK} (hf : flatFields P fs.toList 0 = some ks)
    {xs ys xs' ys' : Array Value} (hx : xs.size = xs'.size) (hy : ys.size = ys'.size)
    (rx : ∀ (i : Nat) x y, xs[i]? = some x → xs'[i]? = some y → VRel ρ x y) (ry : ∀ (i : Nat) x y, ys[i]? = some x → ys'[i]? = some y → VRel ρ x y) {b : Bool} (he : eqCells ks xs.toList ys.toList = some b) :
    (Op.equalIn (dp + 2) t (.agg xs') (.agg ys')).run P w = .ok b w := by
  have hfs : P.fieldsOf t = fs := by simp [Program.fieldsOf, hu]
  rw [run_equalIn_struct (P := P) w (dp + 1) t xs' ys' (by rw [hfs]; exact hu) hp, hfs]
  exact run_eqFlat dp fs.toList 0 ks hf xs ys xs' ys' hx hy rx ry b (by simpa using he)

end Go.Proofs.Ytanpdopjgepbkaa.AM
