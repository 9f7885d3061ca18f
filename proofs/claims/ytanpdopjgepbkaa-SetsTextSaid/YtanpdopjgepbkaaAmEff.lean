/-
  Operations that turn memory: new objects, stores, appends.
-/
import Derived.Test.YtanpdopjgepbkaaAmRead
import Derived.Laws.AppendOwn
import Derived.Laws.IdiomStrings
set_option linter.unusedVariables false
set_option linter.unusedSimpArgs false
namespace Go.Proofs.Ytanpdopjgepbkaa.AM
open Go

variable {P : Program} {B nt : Nat} {E : Ent} {D : List Nat} {ρ : Rho} {lm : Nat → Option Nat} {fr : Fr} {m : Mem} {a : Act} {w : World} {g : Nat → Value}

/-- What is asked of an operation that turns memory and calls nothing. -/
def EOk (P : Program) (B nt : Nat) (E : Ent) (D : List Nat) (g : Nat → Value) (m' : Mem) (a : Act) (v : Value) (r : Result Next) : Prop :=
  ∃ x u w' ρ' lm', r = .ok x w' ∧ (x = .value u ∨ (x = .skip ∧ u = undef)) ∧ SR P B nt E D ρ' lm' g m' a w' ∧ VRelF ρ' lm' v u

theorem EOk.val {m' : Mem} {v u : Value} {s : Sem Value} {w' : World} {ρ' : Rho} {lm' : Nat → Option Nat} {ev : Operand → Value} {o : Oper} (he : execOp ev o = (do pure (Next.value (← s)) : Sem Next)) (h : s.run P w = .ok u w')
    (hs : SR P B nt E D ρ' lm' g m' a w') (hv : VRelF ρ' lm' v u) : EOk P B nt E D g m' a v ((execOp ev o).run P w) :=
  ⟨.value u, u, w', ρ', lm', by rw [he]; simp only [Sem.run_bind, h, Result.andThen_ok]; rfl, .inl rfl, hs, hv⟩

theorem unfrozen0 (N : Nat) : ∀ i, i < N → ¬ (((0, 0) : Nat × Nat).1 ≤ i ∧ i < ((0, 0) : Nat × Nat).2) := fun i _ h => by simp at h

/-- New cells. -/
theorem mkCells {xs us rest : List Value} (h : VRels ρ xs us) (hk : xs.all cellOk = true) {cs : Array Value} (hc : cs.toList = us ++ rest) {t : TypeId} {fz : Nat × Nat} (hz : ∀ i, i < cs.size → ¬ (fz.1 ≤ i ∧ i < fz.2)) :
    ORel P ρ 0 cs.size (.cells false xs) (.cells cs t fz) := by
  have hl := h.length
  have hcl : cs.size = us.length + rest.length := by rw [← Array.length_toList, hc]; simp
  refine ⟨rfl, by omega, fun _ => hz, fun i v hv => ⟨?_, ?_⟩⟩
  · exact List.all_eq_true.1 hk v (List.mem_of_getElem? hv)
  · obtain ⟨u, hu, hrel⟩ := All2.get h i v hv
    refine ⟨u, ?_, hrel⟩
    have : cs.toList[0 + i]? = some u := by
      rw [hc, Nat.zero_add, List.getElem?_append_left (List.getElem?_eq_some_iff.1 hu).1]; exact hu
    simpa using this

theorem zero_rel {t : TypeId} {z : List Value} (h : zeroOf P t = some z) : ∃ it zv, P.info? t = some it ∧ it.zero = some zv ∧ z = zv.cells.toList ∧ z.all flat0 = true := by
  unfold zeroOf at h
  split at h
  · rename_i zv hzv
    obtain ⟨it, hi, hz2⟩ := Option.bind_eq_some_iff.1 hzv
    split at h
    · rename_i hall
      injection h with h
      subst h
      exact ⟨it, zv, hi, hz2, vcells_eq zv, hall⟩
    · cases h
  · cases h

theorem flat0_cellOk {v : Value} (h : flat0 v = true) : cellOk v = true := by
  unfold flat0 at h
  split at h <;> first | rfl | cases h
theorem all_flat {z : List Value} (h : z.all flat0 = true) : VRels ρ z z ∧ z.all cellOk = true := by
  refine ⟨All2.of_get rfl fun i x y hx hy => ?_, List.all_eq_true.2 fun v hv => flat0_cellOk (List.all_eq_true.1 h v hv)⟩
  rw [hx] at hy
  injection hy with hy
  subst hy
  exact .flat0 (List.all_eq_true.1 h x (List.mem_of_getElem? hx))

theorem run_zero {t : TypeId} {it : TypeInfo} {zv : Value} (hi : P.info? t = some it) (hz : it.zero = some zv) (w : World) : (zeroValue t).run P w = .ok zv w := by
  simp [zeroValue, typeInfo, hi, hz]

theorem so_alloc (w : World) (o : Obj) : SameOut w (w.alloc o) := ⟨rfl, rfl, rfl, by first | exact Nat.le_refl _ | exact Nat.le_add_right _ _⟩

/-- A new object in a new block of cells, its address handed back. -/
theorem SR.newH (s : SR P B nt E D ρ lm g m a w) {xs us rest : List Value} (h : VRels ρ xs us) (hk : xs.all cellOk = true) {cs : Array Value} (hc : cs.toList = us ++ rest) {t : TypeId} {fz : Nat × Nat}
    (hz : ∀ i, i < cs.size → ¬ (fz.1 ≤ i ∧ i < fz.2)) {w' : World} (e : w'.heap = w.heap.push (.cells cs t fz)) (so : SameOut w w') :
    SR P B nt E D (ρ ++ [(w.heap.size, 0, cs.size)]) lm g { m with h := m.h.push (.cells false xs) } a w' ∧ (ρ ++ [(w.heap.size, 0, cs.size)])[m.h.n]? = some (w.heap.size, 0, cs.size) :=
  ⟨s.push rfl e (mkCells (h.mono (.snoc _ _)) hk hc hz) so, by rw [← s.heap.len]; exact get_snoc_eq _ _⟩

theorem newLoc_inv {t : Nat} {o : AObj} {m' : Mem} (h : m.newLoc t o = some m') : lget m.lc (2 * t + 1) = none ∧ m' = { m with lc := (2 * t + 1, o) :: m.lc } := by
  unfold Mem.newLoc at h
  split at h
  · rename_i hn; injection h with h; exact ⟨hn, h.symm⟩
  · cases h

theorem e_new {loH : Bool} (s : SR P B nt E D ρ lm (fget fr) m a w) {o : Oper} {t : TypeId} (ho : o.op = .alloc t) {z : List Value} (hz : zeroOf P t = some z) {d : Nat} {call : CallF} {yld : YieldF} {v : Value} {m' : Mem}
    (hv : (if loH then EOp.newL d z else EOp.newH z).ev call yld fr m = some (v, m')) : EOk P B nt E D (fget fr) m' a v ((execOp a.eval o).run P w) := by
  obtain ⟨it, zv, hi, hzv, rfl, hfl⟩ := zero_rel hz
  obtain ⟨h1, h2⟩ := all_flat (ρ := ρ) hfl
  have hrun : (Instr.alloc t true (.tuple #[])).run P w = .ok (.pointer (some ⟨w.heap.size, 0, none⟩)) (w.alloc (.cells zv.cells t)) := by
    simp [Instr.alloc, run_zero hi hzv, newVar, newRow]
  have he : execOp a.eval o = (do pure (Next.value (← Instr.alloc t true (.tuple #[]))) : Sem Next) := by simp only [execOp, ho]
  cases loH with
  | true =>
    simp only [if_true, EOp.ev] at hv
    obtain ⟨m1, hm1, hv⟩ := Option.map_eq_some_iff.1 hv
    injection hv with e1 e2
    subst e1 e2
    obtain ⟨hn, rfl⟩ := newLoc_inv hm1
    have hs := s.newLoc hn (o := .cells false zv.cells.toList) rfl (x := .cells zv.cells t) (w' := w.alloc (.cells zv.cells t)) rfl (mkCells h1 h2 (rest := []) (by simp) (unfrozen0 _)) (so_alloc _ _)
    exact .val he hrun hs (.inr (.inl ⟨2 * d + 1, 0, w.heap.size, rfl, by simp [setLm], rfl⟩))
  | false =>
    simp only [Bool.false_eq_true, if_false, EOp.ev] at hv
    injection hv with hv
    injection hv with e1 e2
    subst e1 e2
    obtain ⟨hs, hg⟩ := s.newH h1 h2 (rest := []) (cs := zv.cells) (t := t) (fz := (0, 0)) (by simp) (unfrozen0 _) (w' := w.alloc (.cells zv.cells t)) rfl (so_alloc _ _)
    exact .val he hrun hs (.inl (.ptr _ _ _ _ _ hg))

theorem e_box {loH : Bool} (s : SR P B nt E D ρ lm (fget fr) m a w) {o : Oper} {t : TypeId} {x : Operand} {x' : Opd} (ho : o.op = .box t x) (hx : liftOpd P x = some x') {d n : Nat} {call : CallF} {yld : YieldF} {v : Value} {m' : Mem}
    (hv : (if loH then EOp.boxL d n x' else EOp.boxH n x').ev call yld fr m = some (v, m')) : EOk P B nt E D (fget fr) m' a v ((execOp a.eval o).run P w) := by
  have hr := opdRel_act s x x' hx
  have hrun : (Instr.box t (a.eval x)).run P w = .ok (.pointer (some ⟨w.heap.size, 0, none⟩)) (w.alloc (.cells (a.eval x).cells t)) := by
    simp [Instr.box, newVar, newRow]
  have he : execOp a.eval o = (do pure (Next.value (← Instr.box t (a.eval x))) : Sem Next) := by simp only [execOp, ho]
  cases loH with
  | true =>
    simp only [if_true, EOp.ev] at hv
    split at hv
    · rename_i hb
      have h1 := cells_rel hr hb.2
      obtain ⟨m1, hm1, hv⟩ := Option.map_eq_some_iff.1 hv
      injection hv with e1 e2
      subst e1 e2
      obtain ⟨hn, rfl⟩ := newLoc_inv hm1
      have hs := s.newLoc hn (o := .cells false (vcells (opd fr x'))) rfl (x := .cells (a.eval x).cells t) (w' := w.alloc (.cells (a.eval x).cells t)) rfl (mkCells h1 hb.2 (rest := []) (by simp) (unfrozen0 _)) (so_alloc _ _)
      exact .val he hrun hs (.inr (.inl ⟨2 * d + 1, 0, w.heap.size, rfl, by simp [setLm], rfl⟩))
    · cases hv
  | false =>
    simp only [Bool.false_eq_true, if_false, EOp.ev] at hv
    split at hv
    · rename_i hb
      have h1 := cells_rel hr hb.2
      injection hv with hv
      injection hv with e1 e2
      subst e1 e2
      obtain ⟨hs, hg⟩ := s.newH h1 hb.2 (rest := []) (cs := (a.eval x).cells) (t := t) (fz := (0, 0)) (by simp) (unfrozen0 _) (w' := w.alloc (.cells (a.eval x).cells t)) rfl (so_alloc _ _)
      exact .val he hrun hs (.inl (.ptr _ _ _ _ _ hg))
    · cases hv

theorem litCells_eq (len : Nat) (z : Array Value) : (((Array.range (len * z.size)).map (z[· % z.size]!))).toList = litCells len z.toList := by
  apply List.ext_getElem?
  intro i
  unfold litCells
  by_cases h : i < len * z.size
  · have hz : 0 < z.size := by
      rcases Nat.eq_zero_or_pos z.size with h0 | h0
      · rw [h0] at h; simp at h
      · exact h0
    have hm := Nat.mod_lt i hz
    have h1 : (((Array.range (len * z.size)).map (z[· % z.size]!))).toList[i]? = some z[i % z.size] := by
      simp [h, getElem!_pos z (i % z.size) hm]
    rw [h1]
    symm
    clear h1
    induction len generalizing i with
    | zero => simp at h
    | succ len ih =>
      rw [List.replicate_succ, List.flatten_cons]
      by_cases hi : i < z.size
      · rw [List.getElem?_append_left (by simpa using hi)]
        simp [Nat.mod_eq_of_lt hi, hi]
      · have hi' : z.size ≤ i := Nat.le_of_not_lt hi
        rw [List.getElem?_append_right (by simpa using hi')]
        have h2 : i - z.size < len * z.size := by rw [Nat.succ_mul] at h; omega
        have h3 : (i - z.size) % z.size = i % z.size := by rw [Nat.mod_eq_sub_mod hi']
        have := ih (i - z.size) h2 (Nat.mod_lt _ hz)
        simp only [Array.length_toList]
        rw [this]
        simp [h3]
  · have h1 : len * z.size ≤ i := Nat.le_of_not_lt h
    rw [List.getElem?_eq_none (by simpa using h1), List.getElem?_eq_none]
    simp [List.length_flatten]
    simpa using h1

theorem litCells_flat {z : List Value} (h : z.all flat0 = true) (n : Nat) : (litCells n z).all flat0 = true := by
  unfold litCells
  refine List.all_eq_true.2 fun v hv => ?_
  obtain ⟨l, hl, hv⟩ := List.mem_flatten.1 hv
  rw [(List.mem_replicate.1 hl).2] at hv
  exact List.all_eq_true.1 h v hv

theorem setAll_all {p : Value → Bool} : ∀ (vs xs : List Value) (i : Nat), xs.all p = true → vs.all p = true → (setAll xs i vs).all p = true
  | [], xs, i, h, _ => h
  | v :: vs, xs, i, h, hv => by
    simp only [List.all_cons, Bool.and_eq_true] at hv
    refine setAll_all vs _ (i + 1) (List.all_eq_true.2 fun x hx => ?_) hv.2
    rcases List.mem_or_eq_of_mem_set hx with h1 | h1
    · exact List.all_eq_true.1 h x h1
    · rw [h1]; exact hv.1

theorem fillA_ok : ∀ (ps : List (Nat × Nat × Value)) (zs cs : List Value), fillA zs ps = some cs → zs.all cellOk = true → cs.all cellOk = true ∧ cs.length = zs.length
  | [], zs, cs, h, hz => by simp only [fillA, Option.some.injEq] at h; subst h; exact ⟨hz, rfl⟩
  | (off, size, v) :: r, zs, cs, h, hz => by
    simp only [fillA] at h
    split at h
    · rename_i hb
      obtain ⟨h1, h2⟩ := fillA_ok r _ cs h (setAll_all _ _ _ hz hb.2.2)
      exact ⟨h1, by rw [h2, setAll_length]⟩
    · cases h

theorem e_lit {loH : Bool} (s : SR P B nt E D ρ lm (fget fr) m a w) {o : Oper} {t e : TypeId} {len : Nat} {parts : Array (Nat × Operand)} (ho : o.op = .buildSlice t len parts) (hu : P.underlying t = some (.slice e)) {n : Nat} (hs : szOf P e = some n)
    {z : List Value} (hz : zeroOf P e = some z) (hb : z.length = n ∧ 0 < len * n ∧ len * n ≤ 16777216) {l : List (Nat × Nat × Opd)} (hl : liftParts P (fun i => some (i * n, n)) parts.toList = some l) {d : Nat} {call : CallF} {yld : YieldF} {v : Value} {m' : Mem}
    (hv : (if loH then EOp.litL d len n z l else EOp.litH len n z l).ev call yld fr m = some (v, m')) : EOk P B nt E D (fget fr) m' a v ((execOp a.eval o).run P w) := by
  obtain ⟨it, zv, hi, hzv, rfl, hfl⟩ := zero_rel hz
  have hr := opdRel_act s
  have hit : it.size = n := by unfold szOf at hs; rw [hi] at hs; simpa using hs
  have hzs : zv.cells.size = n := by simpa using hb.1
  have hlf := litCells_flat hfl len
  obtain ⟨r1, r2⟩ := all_flat (ρ := ρ) hlf
  have key : ∀ cs, fillA (litCells len zv.cells.toList) (evParts fr l) = some cs → ∃ ds : Array Value, VRels ρ cs ds.toList ∧ cs.all cellOk = true ∧
      (Instr.buildSlice t len (parts.map fun (i, x) => (i, a.eval x))).run P w = .ok (.slice (some ⟨w.heap.size, 0, none⟩) len len) (w.alloc (.cells ds e)) ∧ ds.size = len * n := fun cs hcs => by
    obtain ⟨ds, h1, h2⟩ := fill_rel hr _ _ hl (litCells len zv.cells.toList) ((Array.range (len * n)).map (zv.cells[· % zv.cells.size]!)) (by rw [← hzs, litCells_eq]; exact r1) cs hcs
    obtain ⟨h3, h4⟩ := fillA_ok _ _ _ hcs r2
    have hds : ds.size = len * n := by
      have h5 := h2.length
      rw [h4] at h5
      rw [← litCells_eq] at h5
      simpa [hzs] using h5.symm
    have hparts : (parts.map fun (i, x) => (i, a.eval x)).toList = parts.toList.map fun p => (p.1, a.eval p.2) := by simp
    refine ⟨ds, h2, h3, ?_, hds⟩
    have h0 : ¬ len * n = 0 := by omega
    have := run_buildSlice (P := P) w t e len (parts.map fun (i, x) => (i, a.eval x)) ds it zv hu hi hzv (by rw [hit]; have := hb.2.2; omega) (by rw [hit]; exact h0) (by
        rw [hit, hparts]; exact h1)
    exact this
  have he : execOp a.eval o = (do pure (Next.value (← Instr.buildSlice t len (parts.map fun (i, x) => (i, a.eval x)))) : Sem Next) := by simp only [execOp, ho]
  cases loH with
  | true =>
    simp only [if_true, EOp.ev] at hv
    split at hv
    · rename_i cs hcs
      obtain ⟨m1, hm1, hv⟩ := Option.map_eq_some_iff.1 hv
      injection hv with e1 e2
      subst e1 e2
      obtain ⟨hn, rfl⟩ := newLoc_inv hm1
      obtain ⟨ds, k1, k2, k3, k4⟩ := key cs hcs
      have hs := s.newLoc hn (o := .cells false cs) rfl (x := .cells ds e) (w' := w.alloc (.cells ds e)) rfl (mkCells k1 k2 (rest := []) (by simp) (unfrozen0 _)) (so_alloc _ _)
      exact .val he k3 hs (.inr (.inr ⟨2 * d + 1, len, n, w.heap.size, rfl, by simp [setLm], rfl⟩))
    · cases hv
  | false =>
    simp only [Bool.false_eq_true, if_false, EOp.ev] at hv
    split at hv
    · rename_i cs hcs
      injection hv with hv
      injection hv with e1 e2
      subst e1 e2
      obtain ⟨ds, k1, k2, k3, k4⟩ := key cs hcs
      obtain ⟨hs, hg⟩ := s.newH k1 k2 (rest := []) (cs := ds) (t := e) (fz := (0, 0)) (by simp) (unfrozen0 _) (w' := w.alloc (.cells ds e)) rfl (so_alloc _ _)
      have := VRel.sl (ρ := ρ ++ [(w.heap.size, 0, ds.size)]) m.h.n 0 w.heap.size 0 ds.size len n len hg (Nat.le_refl _) (by rw [k4]; omega)
      exact .val he k3 hs (.inl this)
    · cases hv

end Go.Proofs.Ytanpdopjgepbkaa.AM
