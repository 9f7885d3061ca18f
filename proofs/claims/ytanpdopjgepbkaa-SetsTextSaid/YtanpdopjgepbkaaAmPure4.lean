/-
  Operations whose value hangs on their operands alone: aggregates that are built; all of them together.
-/
import Derived.Test.YtanpdopjgepbkaaAmPure3
import Derived.Laws.Tables
import Derived.Great.BuildSlice
set_option linter.unusedVariables false
set_option linter.unusedSimpArgs false
namespace Go.Proofs.Ytanpdopjgepbkaa.AM
open Go

variable {P : Program} {ρ : Rho} {lm : Nat → Option Nat} {fr : Fr} {ev : Operand → Value} {w : World}

theorem vcells_eq (v : Value) : vcells v = v.cells.toList := by cases v <;> rfl

theorem cellOk_okV {v : Value} (h : cellOk v = true) : okV v = true := by
  cases v <;> first | exact h | cases h

theorem VRel.one {v u : Value} (h : VRel ρ v u) (hk : cellOk v = true) : u.oneCell' = true := by
  cases h <;> first | rfl | simp [cellOk] at hk

theorem VRel.cells1 {v u : Value} (h : VRel ρ v u) (hk : cellOk v = true) : u.cells = #[u] := by
  cases h <;> first | rfl | simp [cellOk] at hk

theorem vcells_scalar {v : Value} (h : ∀ cs, v ≠ .agg cs) : vcells v = [v] := by
  cases v <;> first | rfl | exact absurd rfl (h _)

theorem cells_rel {v u : Value} (h : VRelF ρ lm v u) (hk : (vcells v).all cellOk = true) : VRels ρ (vcells v) u.cells.toList := by
  by_cases hv : ∃ cs, v = .agg cs
  · obtain ⟨cs, rfl⟩ := hv
    obtain ⟨ds, rfl, h1, h2⟩ := h.agg
    exact All2.of_get (by simpa [vcells, Value.cells] using h1) fun i x y hx hy => h2 i x y (by simpa [vcells] using hx) (by simpa [Value.cells] using hy)
  · have hv' : ∀ cs, v ≠ .agg cs := fun cs e => hv ⟨cs, e⟩
    rw [vcells_scalar hv'] at hk ⊢
    simp only [List.all_cons, List.all_nil, Bool.and_true] at hk
    have h1 := h.ok (cellOk_okV hk)
    rw [h1.cells1 hk]
    exact .cons h1 .nil

theorem cells_one {v u : Value} (h : VRels ρ (vcells v) u.cells.toList) (hk : (vcells v).all cellOk = true) : ∀ x ∈ u.cells.toList, x.oneCell' = true := by
  generalize vcells v = vs at *
  generalize u.cells.toList = us at *
  induction h with
  | nil => intro x hx; cases hx
  | cons h _ ih =>
    simp only [List.all_cons, Bool.and_eq_true] at hk
    intro x hx
    rcases List.mem_cons.1 hx with rfl | hx
    · exact h.one hk.1
    · exact ih hk.2 x hx

theorem All2.set {α β : Type} {R : α → β → Prop} {xs : List α} {ys : List β} (h : All2 R xs ys) {x : α} {y : β} (hxy : R x y) : ∀ i, All2 R (xs.set i x) (ys.set i y) := by
  induction h with
  | nil => intro i; exact .nil
  | cons h t ih =>
    intro i
    cases i with
    | zero => exact .cons hxy t
    | succ i => exact .cons h (ih i)

theorem setAll_rel {xs ys vs us : List Value} (h : VRels ρ xs ys) (hv : VRels ρ vs us) : ∀ i, VRels ρ (setAll xs i vs) (setAll ys i us) := by
  induction hv generalizing xs ys with
  | nil => intro i; exact h
  | cons h1 _ ih => intro i; exact ih (h.set h1 i) (i + 1)

theorem setAll_length : ∀ (vs xs : List Value) (i : Nat), (setAll xs i vs).length = xs.length
  | [], _, _ => rfl
  | v :: vs, xs, i => by rw [setAll, setAll_length vs]; simp

theorem fold_set (off : Nat) : ∀ (l : List Value) (k : Nat) (cs : Array Value), ((l.zipIdx k).foldl (fun cs (p : Value × Nat) => cs.setIfInBounds (off + p.2) p.1) cs).toList = setAll cs.toList (off + k) l
  | [], k, cs => rfl
  | v :: l, k, cs => by
    simp only [List.zipIdx_cons, List.foldl_cons, setAll]
    rw [fold_set off l (k + 1)]
    simp [Nat.add_assoc]

theorem fill_rel (hr : OpdRel P ρ lm fr ev) {place : Nat → Option (Nat × Nat)} : ∀ (ps : List (Nat × Operand)) (l : List (Nat × Nat × Opd)), liftParts P place ps = some l → ∀ (zs : List Value) (zc : Array Value), VRels ρ zs zc.toList → ∀ cs, fillA zs (evParts fr l) = some cs →
    ∃ ds, Instr.fill place zc (ps.map fun p => (p.1, ev p.2)) = some ds ∧ VRels ρ cs ds.toList
  | [], l, hl, zs, zc, hz, cs, hf => by
    simp only [liftParts, Option.some.injEq] at hl
    subst hl
    simp only [evParts, List.map_nil, fillA, Option.some.injEq] at hf
    subst hf
    exact ⟨zc, rfl, hz⟩
  | (i, x) :: r, l, hl, zs, zc, hz, cs, hf => by
    simp only [liftParts] at hl
    split at hl
    · rename_i off size y l' hp hy hl'
      injection hl with hl
      subst hl
      simp only [evParts, List.map_cons, fillA] at hf
      split at hf
      · rename_i hb
        obtain ⟨b1, b2, b3⟩ := hb
        have hxy := hr x y hy
        have hc := cells_rel hxy b3
        have hsz : (ev x).cells.size = size := by rw [← Array.length_toList, ← hc.length]; exact b1
        have hzl : zc.size = zs.length := by rw [hz.length]; simp
        obtain ⟨ds, h1, h2⟩ := fill_rel hr r l' hl' _ ((ev x).cells.zipIdx.foldl (fun cs (p : Value × Nat) => cs.setIfInBounds (off + p.2) p.1) zc) (by
          rw [← Array.foldl_toList, Array.toList_zipIdx, fold_set]
          exact setAll_rel hz hc off) cs hf
        refine ⟨ds, ?_, h2⟩
        simp only [List.map_cons, Instr.fill, hp]
        rw [if_neg (by simp [hsz]; omega)]
        exact h1
      · cases hf
    · cases hl

theorem p_build (hr : OpdRel P ρ lm fr ev) {t : TypeId} {parts : Array (Nat × Operand)} {lo : List Nat} {o : Oper} (ho : o.op = .build t parts) {po : POp} (hl : liftOp P lo o = some (.p po)) {v : Value} (hv : po.ev fr = some v) :
    ∃ u, (Instr.build t (parts.map fun (i, x) => (i, ev x))).run P w = .ok u w ∧ VRelF ρ lm v u := by
  have hparts : (parts.map fun (i, x) => (i, ev x)).toList = parts.toList.map fun p => (p.1, ev p.2) := by simp
  simp only [liftOp, ho] at hl
  have zz : ∀ z, zeroOf P t = some z → ∃ it zv, P.info? t = some it ∧ it.zero = some zv ∧ VRels ρ z zv.cells.toList := fun z hz => by
    unfold zeroOf at hz
    split at hz
    · rename_i zv hzv
      obtain ⟨it, hi, hz2⟩ := Option.bind_eq_some_iff.1 hzv
      split at hz
      · rename_i hall
        injection hz with hz
        subst hz
        refine ⟨it, zv, hi, hz2, ?_⟩
        rw [vcells_eq] at hall ⊢
        refine All2.of_get rfl fun i x y hx hy => ?_
        rw [hx] at hy
        injection hy with hy
        subst hy
        exact .flat0 (List.all_eq_true.1 hall x (List.mem_of_getElem? hx))
      · cases hz
    · cases hz
  split at hl
  · rename_i z fs hz hu
    obtain ⟨it, zv, hi, hzv, hzr⟩ := zz z hz
    split at hl
    · rename_i places hpl
      obtain ⟨l, hll, hl2⟩ := Option.map_eq_some_iff.1 hl
      injection hl2 with hl2
      subst hl2
      simp only [POp.ev] at hv
      obtain ⟨cs, hcs, rfl⟩ := Option.map_eq_some_iff.1 hv
      obtain ⟨ds, h1, h2⟩ := fill_rel hr _ _ hll z zv.cells hzr cs hcs
      refine ⟨.agg ds, run_build w t _ ds ?_, .inl (.agg _ _ (by simpa using h2.length) fun i x y hx hy => ?_)⟩
      · unfold Program.built
        simp only [hi, hu, hzv, hpl]
        rw [hparts]
        simpa using h1
      · obtain ⟨y', hy', hrel⟩ := All2.get h2 i x (by simpa using hx)
        have : y = y' := by
          have h3 : ds[i]? = some y' := by simpa using hy'
          rw [hy] at h3; injection h3
        subst this
        exact hrel
    · cases hl
  · rename_i z n e hz hu
    obtain ⟨it, zv, hi, hzv, hzr⟩ := zz z hz
    split at hl
    · rename_i sz hs
      obtain ⟨l, hll, hl2⟩ := Option.map_eq_some_iff.1 hl
      injection hl2 with hl2
      subst hl2
      simp only [POp.ev] at hv
      obtain ⟨cs, hcs, rfl⟩ := Option.map_eq_some_iff.1 hv
      obtain ⟨ds, h1, h2⟩ := fill_rel hr _ _ hll z zv.cells hzr cs hcs
      unfold szOf at hs
      obtain ⟨ie, hie, rfl⟩ := Option.map_eq_some_iff.1 hs
      refine ⟨.agg ds, run_build w t _ ds ?_, .inl (.agg _ _ (by simpa using h2.length) fun i x y hx hy => ?_)⟩
      · unfold Program.built
        simp only [hi, hu, hzv, hie]
        rw [hparts]
        exact h1
      · obtain ⟨y', hy', hrel⟩ := All2.get h2 i x (by simpa using hx)
        have : y = y' := by
          have h3 : ds[i]? = some y' := by simpa using hy'
          rw [hy] at h3; injection h3
        subst this
        exact hrel
    · cases hl
  · cases hl

theorem p_mkfn (hr : OpdRel P ρ lm fr ev) {fn : Fn} {xs ys : Array Operand} {xs' ys' : List Opd} (hx : liftOpds P xs = some xs') (hy : liftOpds P ys = some ys') {v : Value} (hv : (POp.mkfn fn xs' ys').ev fr = some v) :
    VRelF ρ lm v (.func fn (xs.map ev) (ys.map ev)) := by
  simp only [POp.ev] at hv
  split at hv
  · split at hv
    · rename_i hb
      simp only [Bool.and_eq_true] at hb
      injection hv with hv; subst hv
      have h1 := (liftOpds_rel hr _ _ hx).okVs hb.1
      have h2 := (liftOpds_rel hr _ _ hy).okVs hb.2
      have conv : ∀ {ls : List Value} {zs : Array Operand}, VRels ρ ls (zs.toList.map ev) → ls.toArray.size = (zs.map ev).size ∧ ∀ (i : Nat) x y, ls.toArray[i]? = some x → (zs.map ev)[i]? = some y → VRel ρ x y := fun {ls zs} h => by
        refine ⟨by simpa using h.length, fun i x y hx hy => ?_⟩
        obtain ⟨y', hy', hrel⟩ := All2.get h i x (by simpa using hx)
        have e : (zs.map ev)[i]? = (zs.toList.map ev)[i]? := by rw [← Array.getElem?_toList]; simp
        rw [e, hy'] at hy
        injection hy with hy
        subst hy
        exact hrel
      exact .inl (.func _ _ _ _ _ (conv h1).1 (conv h2).1 (conv h1).2 (conv h2).2)
    · cases hv
  · cases hv

end Go.Proofs.Ytanpdopjgepbkaa.AM
