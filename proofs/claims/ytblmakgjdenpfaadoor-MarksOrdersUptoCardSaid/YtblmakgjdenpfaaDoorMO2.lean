/- Parts of the proof of MarksOrders: its lemmas, joined. -/
import Derived.Test.YtblmakgjdenpfaaDoorMO1
import Derived.Laws.AppendOwn
import Derived.Laws.IdiomStrings
import Derived.Laws.Append
import Derived.OrdersIn
import Derived.ControlIn
import Derived.RangeFuncRecord
import Derived.Scope
set_option linter.unusedVariables false
set_option linter.unusedSimpArgs false
set_option linter.unusedSectionVars false
namespace Go.Proofs.YtblmakgjdenpfaaDoor.AM
open Go
variable {P : Program} {B nt : Nat} {E : Ent} {D : List Nat} {ρ : Rho} {lm : Nat → Option Nat} {fr : Fr} {m : Mem} {a : Act} {w : World} {g : Nat → Value}
def EOk (P : Program) (B nt : Nat) (E : Ent) (D : List Nat) (g : Nat → Value) (m' : Mem) (a : Act) (v : Value) (r : Result Next) : Prop :=
  ∃ x u w' ρ' lm', r = .ok x w' ∧ (x = .value u ∨ (x = .skip ∧ u = undef)) ∧ SR P B nt E D ρ' lm' g m' a w' ∧ VRelF ρ' lm' v u
theorem EOk.val {m' : Mem} {v u : Value} {s : Sem Value} {w' : World} {ρ' : Rho} {lm' : Nat → Option Nat} {ev : Operand → Value} {o : Oper} (he : execOp ev o = (do pure (Next.value (← s)) : Sem Next)) (h : s.run P w = .ok u w')
    (hs : SR P B nt E D ρ' lm' g m' a w') (hv : VRelF ρ' lm' v u) : EOk P B nt E D g m' a v ((execOp ev o).run P w) :=
  ⟨.value u, u, w', ρ', lm', by rw [he]; simp only [Sem.run_bind, h, Result.andThen_ok]; rfl, .inl rfl, hs, hv⟩
theorem unfrozen0 (N : Nat) : ∀ i, i < N → ¬ (((0, 0) : Nat × Nat).1 ≤ i ∧ i < ((0, 0) : Nat × Nat).2) := fun i _ h => by simp at h
theorem mkCells {xs us rest : List Value} (h : VRels ρ xs us) (hk : xs.all cellOk = true) {cs : Array Value} (hc : cs.toList = us ++ rest) {t : TypeId} {fz : Nat × Nat} (hz : ∀ i, i < cs.size + frzX → ¬ (fz.1 ≤ i ∧ i < fz.2)) :
    ORel P ρ 0 cs.size (.cells false xs) (.cells cs t fz) := by
  have hl := h.length
  have hcl : cs.size = us.length + rest.length := by rw [← Array.length_toList, hc]; simp
  refine ⟨rfl, by omega, fun _ => hz, fun i v hv => ⟨?_, ?_⟩⟩
  · exact List.all_eq_true.1 hk v (List.mem_of_getElem? hv)
  · obtain ⟨u, hu, hrel⟩ := All2.get h i v hv
    refine ⟨u, ?_, hrel⟩
    have : cs.toList[0 + i]? = some u := by
      rw [hc, Nat.zero_add, List.getElem?_append_left (List.getElem?_eq_some_iff.1 hu).1]; exact hu
    simpa using this
theorem zero_rel {t : TypeId} {z : List Value} (h : zeroOf P t = some z) : ∃ it zv, P.info? t = some it ∧ it.zero = some zv ∧ z = zv.cells.toList ∧ z.all flat0 = true := by
  unfold zeroOf at h
  split at h
  · rename_i zv hzv
    obtain ⟨it, hi, hz2⟩ := Option.bind_eq_some_iff.1 hzv
    split at h
    · rename_i hall
      injection h with h
      subst h
      exact ⟨it, zv, hi, hz2, vcells_eq zv, hall⟩
    · cases h
  · cases h
theorem flat0_cellOk {v : Value} (h : flat0 v = true) : cellOk v = true := by
  unfold flat0 at h
  split at h <;> first | rfl | cases h
theorem all_flat {z : List Value} (h : z.all flat0 = true) : VRels ρ z z ∧ z.all cellOk = true := by
  refine ⟨All2.of_get rfl fun i x y hx hy => ?_, List.all_eq_true.2 fun v hv => flat0_cellOk (List.all_eq_true.1 h v hv)⟩
  rw [hx] at hy
  injection hy with hy
  subst hy
  exact .flat0 (List.all_eq_true.1 h x (List.mem_of_getElem? hx))
theorem run_zero {t : TypeId} {it : TypeInfo} {zv : Value} (hi : P.info? t = some it) (hz : it.zero = some zv) (w : World) : (zeroValue t).run P w = .ok zv w := by
  simp [zeroValue, typeInfo, hi, hz]
theorem so_alloc (w : World) (o : Obj) : SameOut w (w.alloc o) := ⟨rfl, rfl, rfl, by first | exact Nat.le_refl _ | exact Nat.le_add_right _ _⟩
theorem SR.newH (s : SR P B nt E D ρ lm g m a w) {xs us rest : List Value} (h : VRels ρ xs us) (hk : xs.all cellOk = true) {cs : Array Value} (hc : cs.toList = us ++ rest) {t : TypeId} {fz : Nat × Nat}
    (hz : ∀ i, i < cs.size + frzX → ¬ (fz.1 ≤ i ∧ i < fz.2)) {w' : World} (e : w'.heap = w.heap.push (.cells cs t fz)) (so : SameOut w w') :
    SR P B nt E D (ρ ++ [(w.heap.size, 0, cs.size)]) lm g { m with h := m.h.push (.cells false xs) } a w' ∧ (ρ ++ [(w.heap.size, 0, cs.size)])[m.h.n]? = some (w.heap.size, 0, cs.size) :=
  ⟨s.push rfl e (mkCells (h.mono (.snoc _ _)) hk hc hz) so, by rw [← s.heap.len]; exact get_snoc_eq _ _⟩
theorem newLoc_inv {t : Nat} {o : AObj} {m' : Mem} (h : m.newLoc t o = some m') : lget m.lc (2 * t + 1) = none ∧ m' = { m with lc := (2 * t + 1, o) :: m.lc } := by
  unfold Mem.newLoc at h
  split at h
  · rename_i hn; injection h with h; exact ⟨hn, h.symm⟩
  · cases h
theorem e_new {loH : Bool} (s : SR P B nt E D ρ lm (fget fr) m a w) {o : Oper} {t : TypeId} (ho : o.op = .alloc t) {z : List Value} (hz : zeroOf P t = some z) {d : Nat} {call : CallF} {yld : YieldF} {v : Value} {m' : Mem}
    (hv : (if loH then EOp.newL d z else EOp.newH z).ev call yld fr m = some (v, m')) : EOk P B nt E D (fget fr) m' a v ((execOp a.eval o).run P w) := by
  obtain ⟨it, zv, hi, hzv, rfl, hfl⟩ := zero_rel hz
  obtain ⟨h1, h2⟩ := all_flat (ρ := ρ) hfl
  have hrun : (Instr.alloc t true (.tuple #[])).run P w = .ok (.pointer (some ⟨w.heap.size, 0, none⟩)) (w.alloc (.cells zv.cells t)) := by
    simp [Instr.alloc, run_zero hi hzv, newVar, newRow]
  have he : execOp a.eval o = (do pure (Next.value (← Instr.alloc t true (.tuple #[]))) : Sem Next) := by simp only [execOp, ho]
  cases loH with
  | true =>
    simp only [if_true, EOp.ev] at hv
    obtain ⟨m1, hm1, hv⟩ := Option.map_eq_some_iff.1 hv
    injection hv with e1 e2
    subst e1 e2
    obtain ⟨hn, rfl⟩ := newLoc_inv hm1
    have hs := s.newLoc hn (o := .cells false zv.cells.toList) rfl (x := .cells zv.cells t) (w' := w.alloc (.cells zv.cells t)) rfl (mkCells h1 h2 (rest := []) (by simp) (unfrozen0 _)) (so_alloc _ _)
    exact .val he hrun hs (.inr (.inl ⟨2 * d + 1, 0, w.heap.size, rfl, by simp [setLm], rfl⟩))
  | false =>
    simp only [Bool.false_eq_true, if_false, EOp.ev] at hv
    injection hv with hv
    injection hv with e1 e2
    subst e1 e2
    obtain ⟨hs, hg⟩ := s.newH h1 h2 (rest := []) (cs := zv.cells) (t := t) (fz := (0, 0)) (by simp) (unfrozen0 _) (w' := w.alloc (.cells zv.cells t)) rfl (so_alloc _ _)
    exact .val he hrun hs (.inl (.ptr _ _ _ _ _ hg))
theorem e_box {loH : Bool} (s : SR P B nt E D ρ lm (fget fr) m a w) {o : Oper} {t : TypeId} {x : Operand} {x' : Opd} (ho : o.op = .box t x) (hx : liftOpd P x = some x') {d n : Nat} {call : CallF} {yld : YieldF} {v : Value} {m' : Mem}
    (hv : (if loH then EOp.boxL d n x' else EOp.boxH n x').ev call yld fr m = some (v, m')) : EOk P B nt E D (fget fr) m' a v ((execOp a.eval o).run P w) := by
  have hr := opdRel_act s x x' hx
  have hrun : (Instr.box t (a.eval x)).run P w = .ok (.pointer (some ⟨w.heap.size, 0, none⟩)) (w.alloc (.cells (a.eval x).cells t)) := by
    simp [Instr.box, newVar, newRow]
  have he : execOp a.eval o = (do pure (Next.value (← Instr.box t (a.eval x))) : Sem Next) := by simp only [execOp, ho]
  cases loH with
  | true =>
    simp only [if_true, EOp.ev] at hv
    split at hv
    · rename_i hb
      have h1 := cells_rel hr hb.2
      obtain ⟨m1, hm1, hv⟩ := Option.map_eq_some_iff.1 hv
      injection hv with e1 e2
      subst e1 e2
      obtain ⟨hn, rfl⟩ := newLoc_inv hm1
      have hs := s.newLoc hn (o := .cells false (vcells (opd fr x'))) rfl (x := .cells (a.eval x).cells t) (w' := w.alloc (.cells (a.eval x).cells t)) rfl (mkCells h1 hb.2 (rest := []) (by simp) (unfrozen0 _)) (so_alloc _ _)
      exact .val he hrun hs (.inr (.inl ⟨2 * d + 1, 0, w.heap.size, rfl, by simp [setLm], rfl⟩))
    · cases hv
  | false =>
    simp only [Bool.false_eq_true, if_false, EOp.ev] at hv
    split at hv
    · rename_i hb
      have h1 := cells_rel hr hb.2
      injection hv with hv
      injection hv with e1 e2
      subst e1 e2
      obtain ⟨hs, hg⟩ := s.newH h1 hb.2 (rest := []) (cs := (a.eval x).cells) (t := t) (fz := (0, 0)) (by simp) (unfrozen0 _) (w' := w.alloc (.cells (a.eval x).cells t)) rfl (so_alloc _ _)
      exact .val he hrun hs (.inl (.ptr _ _ _ _ _ hg))
    · cases hv
theorem litCells_eq (len : Nat) (z : Array Value) : (((Array.range (len * z.size)).map (z[· % z.size]!))).toList = litCells len z.toList := by
  apply List.ext_getElem?
  intro i
  unfold litCells
  by_cases h : i < len * z.size
  · have hz : 0 < z.size := by
      rcases Nat.eq_zero_or_pos z.size with h0 | h0
      · rw [h0] at h; simp at h
      · exact h0
    have hm := Nat.mod_lt i hz
    have h1 : (((Array.range (len * z.size)).map (z[· % z.size]!))).toList[i]? = some z[i % z.size] := by
      simp [h, getElem!_pos z (i % z.size) hm]
    rw [h1]
    symm
    clear h1
    induction len generalizing i with
    | zero => simp at h
    | succ len ih =>
      rw [List.replicate_succ, List.flatten_cons]
      by_cases hi : i < z.size
      · rw [List.getElem?_append_left (by simpa using hi)]
        simp [Nat.mod_eq_of_lt hi, hi]
      · have hi' : z.size ≤ i := Nat.le_of_not_lt hi
        rw [List.getElem?_append_right (by simpa using hi')]
        have h2 : i - z.size < len * z.size := by rw [Nat.succ_mul] at h; omega
        have h3 : (i - z.size) % z.size = i % z.size := by rw [Nat.mod_eq_sub_mod hi']
        have := ih (i - z.size) h2 (Nat.mod_lt _ hz)
        simp only [Array.length_toList]
        rw [this]
        simp [h3]
  · have h1 : len * z.size ≤ i := Nat.le_of_not_lt h
    rw [List.getElem?_eq_none (by simpa using h1), List.getElem?_eq_none]
    simp [List.length_flatten]
    simpa using h1
theorem litCells_flat {z : List Value} (h : z.all flat0 = true) (n : Nat) : (litCells n z).all flat0 = true := by
  unfold litCells
  refine List.all_eq_true.2 fun v hv => ?_
  obtain ⟨l, hl, hv⟩ := List.mem_flatten.1 hv
  rw [(List.mem_replicate.1 hl).2] at hv
  exact List.all_eq_true.1 h v hv
theorem setAll_all {p : Value → Bool} : ∀ (vs xs : List Value) (i : Nat), xs.all p = true → vs.all p = true → (setAll xs i vs).all p = true
  | [], xs, i, h, _ => h
  | v :: vs, xs, i, h, hv => by
    simp only [List.all_cons, Bool.and_eq_true] at hv
    refine setAll_all vs _ (i + 1) (List.all_eq_true.2 fun x hx => ?_) hv.2
    rcases List.mem_or_eq_of_mem_set hx with h1 | h1
    · exact List.all_eq_true.1 h x h1
    · rw [h1]; exact hv.1
theorem fillA_ok : ∀ (ps : List (Nat × Nat × Value)) (zs cs : List Value), fillA zs ps = some cs → zs.all cellOk = true → cs.all cellOk = true ∧ cs.length = zs.length
  | [], zs, cs, h, hz => by simp only [fillA, Option.some.injEq] at h; subst h; exact ⟨hz, rfl⟩
  | (off, size, v) :: r, zs, cs, h, hz => by
    simp only [fillA] at h
    split at h
    · rename_i hb
      obtain ⟨h1, h2⟩ := fillA_ok r _ cs h (setAll_all _ _ _ hz hb.2.2)
      exact ⟨h1, by rw [h2, setAll_length]⟩
    · cases h
theorem e_lit {loH : Bool} (s : SR P B nt E D ρ lm (fget fr) m a w) {o : Oper} {t e : TypeId} {len : Nat} {parts : Array (Nat × Operand)} (ho : o.op = .buildSlice t len parts) (hu : P.underlying t = some (.slice e)) {n : Nat} (hs : szOf P e = some n)
    {z : List Value} (hz : zeroOf P e = some z) (hb : z.length = n ∧ 0 < len * n ∧ len * n ≤ 16777216) {l : List (Nat × Nat × Opd)} (hl : liftParts P (fun i => some (i * n, n)) parts.toList = some l) {d : Nat} {call : CallF} {yld : YieldF} {v : Value} {m' : Mem}
    (hv : (if loH then EOp.litL d len n z l else EOp.litH len n z l).ev call yld fr m = some (v, m')) : EOk P B nt E D (fget fr) m' a v ((execOp a.eval o).run P w) := by
  obtain ⟨it, zv, hi, hzv, rfl, hfl⟩ := zero_rel hz
  have hr := opdRel_act s
  have hit : it.size = n := by unfold szOf at hs; rw [hi] at hs; simpa using hs
  have hzs : zv.cells.size = n := by simpa using hb.1
  have hlf := litCells_flat hfl len
  obtain ⟨r1, r2⟩ := all_flat (ρ := ρ) hlf
  have key : ∀ cs, fillA (litCells len zv.cells.toList) (evParts fr l) = some cs → ∃ ds : Array Value, VRels ρ cs ds.toList ∧ cs.all cellOk = true ∧
      (Instr.buildSlice t len (parts.map fun (i, x) => (i, a.eval x))).run P w = .ok (.slice (some ⟨w.heap.size, 0, none⟩) len len) (w.alloc (.cells ds e)) ∧ ds.size = len * n := fun cs hcs => by
    obtain ⟨ds, h1, h2⟩ := fill_rel hr _ _ hl (litCells len zv.cells.toList) ((Array.range (len * n)).map (zv.cells[· % zv.cells.size]!)) (by rw [← hzs, litCells_eq]; exact r1) cs hcs
    obtain ⟨h3, h4⟩ := fillA_ok _ _ _ hcs r2
    have hds : ds.size = len * n := by
      have h5 := h2.length
      rw [h4] at h5
      rw [← litCells_eq] at h5
      simpa [hzs] using h5.symm
    have hparts : (parts.map fun (i, x) => (i, a.eval x)).toList = parts.toList.map fun p => (p.1, a.eval p.2) := by simp
    refine ⟨ds, h2, h3, ?_, hds⟩
    have h0 : ¬ len * n = 0 := by omega
    have := run_buildSlice (P := P) w t e len (parts.map fun (i, x) => (i, a.eval x)) ds it zv hu hi hzv (by rw [hit]; have := hb.2.2; omega) (by rw [hit]; exact h0) (by
        rw [hit, hparts]; exact h1)
    exact this
  have he : execOp a.eval o = (do pure (Next.value (← Instr.buildSlice t len (parts.map fun (i, x) => (i, a.eval x)))) : Sem Next) := by simp only [execOp, ho]
  cases loH with
  | true =>
    simp only [if_true, EOp.ev] at hv
    split at hv
    · rename_i cs hcs
      obtain ⟨m1, hm1, hv⟩ := Option.map_eq_some_iff.1 hv
      injection hv with e1 e2
      subst e1 e2
      obtain ⟨hn, rfl⟩ := newLoc_inv hm1
      obtain ⟨ds, k1, k2, k3, k4⟩ := key cs hcs
      have hs := s.newLoc hn (o := .cells false cs) rfl (x := .cells ds e) (w' := w.alloc (.cells ds e)) rfl (mkCells k1 k2 (rest := []) (by simp) (unfrozen0 _)) (so_alloc _ _)
      exact .val he k3 hs (.inr (.inr ⟨2 * d + 1, len, n, w.heap.size, rfl, by simp [setLm], rfl⟩))
    · cases hv
  | false =>
    simp only [Bool.false_eq_true, if_false, EOp.ev] at hv
    split at hv
    · rename_i cs hcs
      injection hv with hv
      injection hv with e1 e2
      subst e1 e2
      obtain ⟨ds, k1, k2, k3, k4⟩ := key cs hcs
      obtain ⟨hs, hg⟩ := s.newH k1 k2 (rest := []) (cs := ds) (t := e) (fz := (0, 0)) (by simp) (unfrozen0 _) (w' := w.alloc (.cells ds e)) rfl (so_alloc _ _)
      have := VRel.sl (ρ := ρ ++ [(w.heap.size, 0, ds.size)]) m.h.n 0 w.heap.size 0 ds.size len n len hg (Nat.le_refl _) (by rw [k4]; omega)
      exact .val he k3 hs (.inl this)
    · cases hv
end Go.Proofs.YtblmakgjdenpfaaDoor.AM
namespace Go.Proofs.YtblmakgjdenpfaaDoor.AM
open Go
variable {P : Program} {B nt : Nat} {E : Ent} {D : List Nat} {ρ : Rho} {lm : Nat → Option Nat} {fr : Fr} {m : Mem} {a : Act} {w : World} {g : Nat → Value}
def setBlk (w : World) (c : Nat) (x : Obj) : World := { w with heap := w.heap.setIfInBounds c x }
theorem so_setBlk (w : World) (c : Nat) (x : Obj) : SameOut w (setBlk w c x) := ⟨rfl, rfl, rfl, by first | exact Nat.le_refl _ | exact Nat.le_add_right _ _⟩
theorem setCell_blk {w : World} {c o : Nat} {cur : Array Value} {t : TypeId} {fz : Nat × Nat} (h : w.heap[c]? = some (.cells cur t fz)) (v : Value) :
    w.setCell ⟨c, o, none⟩ v = setBlk w c (.cells (cur.setIfInBounds o v) t fz) := by
  unfold World.setCell setBlk
  congr 1
  apply Array.ext_getElem?
  intro i
  have hlt := (Array.getElem?_eq_some_iff.1 h).1
  rw [Array.getElem?_modify, getElem?_setIfInBounds_cases _ _ _ _ hlt]
  by_cases e : i = c
  · subst e; simp [h]
  · simp [e, Ne.symm e]
theorem setBlk_get {w : World} {c : Nat} {x y : Obj} (h : w.heap[c]? = some y) : (setBlk w c x).heap[c]? = some x := by
  have hlt := (Array.getElem?_eq_some_iff.1 h).1
  unfold setBlk
  simp [hlt]
theorem setBlk_set (w : World) (c : Nat) (x y : Obj) : setBlk (setBlk w c x) c y = setBlk w c y := by
  unfold setBlk
  simp
theorem setBlk_self {w : World} {c : Nat} {x : Obj} (h : w.heap[c]? = some x) : setBlk w c x = w := by
  unfold setBlk
  have : w.heap.setIfInBounds c x = w.heap := by
    apply Array.ext_getElem?
    intro i
    have hlt := (Array.getElem?_eq_some_iff.1 h).1
    rw [getElem?_setIfInBounds_cases _ _ _ _ hlt]
    by_cases e : i = c
    · subst e; simp [h]
    · simp [e]
  rw [this]
theorem run_storeCells (P : Program) (c o : Nat) (t : TypeId) (fz : Nat × Nat) : ∀ (vs : List Value) (i : Nat) (cur : Array Value) (w : World), w.heap[c]? = some (.cells cur t fz) → o + i + vs.length ≤ cur.size →
    (∀ j, j < cur.size → ¬ (fz.1 ≤ j ∧ j < fz.2)) → (∀ v ∈ vs, v.oneCell' = true) → (storeCells ⟨c, o, none⟩ vs i).run P w = .ok () (setBlk w c (.cells (setAll cur.toList (o + i) vs).toArray t fz))
  | [], i, cur, w, hg, _, _, _ => by
    simp only [storeCells, setAll, Array.toArray_toList]
    rw [setBlk_self hg]
    rfl
  | v :: rest, i, cur, w, hg, hl, hz, h1 => by
    have hi : o + i < cur.size := by simp at hl; omega
    have hadd : (⟨c, o, none⟩ : Addr).add i = ⟨c, o + i, none⟩ := by rw [add_off _ rfl]; rfl
    have hcell : w.cell? ⟨c, o + i, none⟩ = some cur[o + i] := by simp [World.cell?, hg, hi]
    have hfro : w.frozen? ⟨c, o + i, none⟩ = false := by
      have := hz (o + i) hi
      simp only [World.frozen?, hg]
      simp only [Bool.and_eq_false_iff, decide_eq_false_iff_not]
      omega
    have hst : (store ((⟨c, o, none⟩ : Addr).add i) v).run P w = .ok () (setBlk w c (.cells (cur.setIfInBounds (o + i) v) t fz)) := by
      rw [hadd, run_store P w _ v _ (h1 v (by simp)), hcell]
      simp only [hfro, Bool.false_eq_true, if_false]
      rw [setCell_blk hg]
    have ih := run_storeCells P c o t fz rest (i + 1) (cur.setIfInBounds (o + i) v) (setBlk w c (.cells (cur.setIfInBounds (o + i) v) t fz)) (setBlk_get hg) (by simp at hl ⊢; omega) (by simpa using hz) (fun x hx => h1 x (by simp [hx]))
    simp only [storeCells, Sem.run_bind, hst, Result.andThen_ok, ih, setBlk_set, setAll]
    simp [Nat.add_assoc]
theorem setAll_get : ∀ (vs xs : List Value) (i j : Nat), i + vs.length ≤ xs.length → (setAll xs i vs)[j]? = if i ≤ j ∧ j < i + vs.length then vs[j - i]? else xs[j]?
  | [], xs, i, j, _ => by simp only [setAll, List.length_nil, Nat.add_zero]; rw [if_neg (by omega)]
  | v :: vs, xs, i, j, h => by
    rw [setAll, setAll_get vs _ (i + 1) j (by simp at h ⊢; omega)]
    simp only [List.length_cons] at h ⊢
    by_cases h1 : i + 1 ≤ j ∧ j < i + 1 + vs.length
    · rw [if_pos h1, if_pos (by omega)]
      have : j - i = (j - (i + 1)) + 1 := by omega
      rw [this]; simp
    · rw [if_neg h1]
      by_cases h2 : j = i
      · subst h2; rw [if_pos (by omega)]; simp; rw [List.getElem?_set_self (by omega)]
      · rw [if_neg (by omega)]; simp [Ne.symm h2]
theorem cells_wr {cs : Array Value} {δ : Nat} {xs vs us : List Value} (h : CellRel ρ cs δ xs) (hv : VRels ρ vs us) (hk : vs.all cellOk = true) {off : Nat} (hle : off + vs.length ≤ xs.length) (hN : δ + xs.length ≤ cs.size) :
    CellRel ρ (setAll cs.toList (δ + off) us).toArray δ (setAll xs off vs) := by
  intro i v hi
  have hl := hv.length
  rw [setAll_get _ _ _ _ hle] at hi
  have hg : (setAll cs.toList (δ + off) us).toArray[δ + i]? = (setAll cs.toList (δ + off) us)[δ + i]? := by simp
  rw [hg, setAll_get _ _ _ _ (by simp; omega)]
  by_cases h1 : off ≤ i ∧ i < off + vs.length
  · rw [if_pos h1] at hi
    rw [if_pos (by omega)]
    obtain ⟨u, hu, hrel⟩ := All2.get hv _ v hi
    have : δ + i - (δ + off) = i - off := by omega
    rw [this]
    exact ⟨List.all_eq_true.1 hk v (List.mem_of_getElem? hi), u, hu, hrel⟩
  · rw [if_neg h1] at hi
    rw [if_neg (by omega)]
    obtain ⟨k1, u, k2, k3⟩ := h i v hi
    exact ⟨k1, u, by simpa using k2, k3⟩
theorem SR.wr (s : SR P B nt E D ρ lm g m a w) {p p' : Addr} (hp : VRelF ρ lm (.pointer (some p)) (.pointer (some p'))) {vs us : List Value} (hv : VRels ρ vs us) (hk : vs.all cellOk = true) (h1 : ∀ u ∈ us, u.oneCell' = true) {m' : Mem} (h : m.wr p vs = some m') :
    ∃ w', (storeCells p' us).run P w = .ok () w' ∧ SR P B nt E D ρ lm g m' a w' := by
  unfold Mem.wr at h
  split at h
  · rename_i xs ho
    split at h
    · rename_i hle
      injection h with h
      subst h
      obtain ⟨δ, N, x, hx, hrel, hp'⟩ := s.objAt hp ho
      have hrel0 := hrel
      cases x <;> simp only [ORel] at hrel <;> first | exact hrel.elim | skip
      rename_i cs t fz
      obtain ⟨e1, e2, e3, e4⟩ := hrel
      have hl := hv.length
      have hst := run_storeCells P p'.block (δ + p.off) t fz us 0 cs w hx (by omega) (fun j hj => e3 trivial j (by omega)) h1
      refine ⟨_, by rw [hp']; exact hst, s.putObj hp ho rfl rfl hx hrel0 (x' := .cells (setAll cs.toList (δ + p.off) us).toArray t fz) (fun δ' N' hd hr => ?_) (by simp [setBlk]) (so_setBlk _ _ _)⟩
      have : δ' = δ := by rw [hp'] at hd; simp at hd; omega
      subst this
      simp only [ORel] at hr ⊢
      obtain ⟨f1, f2, f3, f4⟩ := hr
      exact ⟨by simp [setAll_length]; exact f1, by rw [setAll_length]; exact f2, f3, cells_wr f4 hv hk hle (by omega)⟩
    · cases h
  · cases h
theorem e_store (s : SR P B nt E D ρ lm (fget fr) m a w) {o : Oper} {t : TypeId} {x y : Operand} {x' y' : Opd} (ho : o.op = .store t x y) (hx : liftOpd P x = some x') (hy : liftOpd P y = some y') {n : Nat} (hn : szOf P t = some n) {call : CallF} {yld : YieldF} {v : Value} {m' : Mem}
    (hv : (EOp.store n x' y').ev call yld fr m = some (v, m')) : EOk P B nt E D (fget fr) m' a v ((execOp a.eval o).run P w) := by
  have h1 := opdRel_act s x x' hx
  have h2 := opdRel_act s y y' hy
  simp only [EOp.ev] at hv
  split at hv
  · rename_i p e
    rw [e] at h1
    obtain ⟨p', e2, hsp⟩ := h1.psome
    rw [e2] at h1
    split at hv
    · rename_i hb
      obtain ⟨m1, hm1, hv⟩ := Option.map_eq_some_iff.1 hv
      injection hv with g1 g2
      subst g1 g2
      have hc := cells_rel h2 hb.2
      have hone := cells_one hc hb.2
      obtain ⟨w', hrun, hs⟩ := s.wr h1 hc hb.2 hone hm1
      have hsz : (a.eval y).cells.size = n := by rw [← Array.length_toList, ← hc.length]; exact hb.1
      refine ⟨.skip, undef, w', ρ, lm, ?_, .inr ⟨rfl, rfl⟩, hs, .undef _⟩
      simp only [execOp, ho, Instr.storeAt, e2, Instr.sureAddr, storeVar, Sem.run_bind, Sem.run_pure, Result.andThen_ok, run_szOf hn, hsz]
      simp [hrun]
    · cases hv
  · cases hv
theorem bytes_rel (s : ByteArray) : VRels ρ (s.data.toList.map fun b => Value.int .u8 b.toNat) (s.data.toList.map fun b => Value.int .u8 b.toNat) ∧ (s.data.toList.map fun b => Value.int .u8 (b.toNat : Int)).all cellOk = true := by
  constructor
  · exact All2.of_get rfl fun i x y hx hy => by
      rw [hx] at hy
      injection hy with hy
      subst hy
      rw [List.getElem?_map] at hx
      obtain ⟨b, _, rfl⟩ := Option.map_eq_some_iff.1 hx
      exact .int _ _
  · refine List.all_eq_true.2 fun v hv => ?_
    obtain ⟨b, _, rfl⟩ := List.mem_map.1 hv
    rfl
theorem run_bytes_of {w : World} {src dst e : TypeId} {s : ByteArray} (hs : P.underlying src = some .string) (hd : P.underlying dst = some (.slice e)) (he : P.underlying e = some (.int .u8)) :
    ∃ (k : Nat) (cs : Array Value) (rest : List Value) (fz : Nat × Nat), s.size ≤ k ∧ cs.size = k ∧ cs.toList = (s.data.toList.map fun b => Value.int .u8 b.toNat) ++ rest ∧ (∀ i, i < cs.size → ¬ (fz.1 ≤ i ∧ i < fz.2)) ∧
      (convert src dst (.string s)).run P w = .ok (.slice (some ⟨w.heap.size, 0, none⟩) s.size k) (w.drew.alloc (.cells cs e fz)) := by
  have h := run_bytes_of_string (P := P) w src dst e s hs hd he
  have hge := grownCap_ge w s.size 0 e
  refine ⟨grownCap w s.size 0 e, bytesRow s (grownCap w s.size 0 e), List.replicate (grownCap w s.size 0 e - s.size) (.int .u8 0), _, hge, ?_, ?_, ?_, h⟩
  · simp [bytesRow]; omega
  · simp [bytesRow]
  · intro i hi hh; simp only at hh; omega
theorem e_s2b (s : SR P B nt E D ρ lm (fget fr) m a w) {o : Oper} {src dst e : TypeId} {x : Operand} {x' : Opd} (ho : o.op = .convert src dst x) (hx : liftOpd P x = some x') (hs : P.underlying src = some .string) (hd : P.underlying dst = some (.slice e))
    (he : P.underlying e = some (.int .u8)) {call : CallF} {yld : YieldF} {v : Value} {m' : Mem} (hv : (EOp.s2b x').ev call yld fr m = some (v, m')) : EOk P B nt E D (fget fr) m' a v ((execOp a.eval o).run P w) := by
  have h1 := opdRel_act s x x' hx
  simp only [EOp.ev] at hv
  split at hv
  · rename_i st e1
    rw [e1] at h1
    have h2 := h1.string
    split at hv
    · injection hv with hv
      injection hv with g1 g2
      subst g1 g2
      obtain ⟨k, cs, rest, fz, k1, k2, k3, k4, k5⟩ := run_bytes_of (P := P) (w := w) (s := st) hs hd he
      obtain ⟨r1, r2⟩ := bytes_rel (ρ := ρ) st
      obtain ⟨hs', hg⟩ := s.newH r1 r2 k3 (t := e) (fun i hi => k4 i (Nat.lt_of_lt_of_le hi (Nat.le_of_eq (by rw [(‹frzX = 0 ∧ st.size ≤ 9223372036854775807›).1, Nat.add_zero])))) (w' := w.drew.alloc (.cells cs e fz)) rfl ⟨rfl, rfl, rfl, by first | exact Nat.le_refl _ | exact Nat.le_add_right _ _⟩
      have := VRel.sl (ρ := ρ ++ [(w.heap.size, 0, cs.size)]) m.h.n 0 w.heap.size 0 cs.size st.size 1 k hg k1 (by omega)
      exact .val (s := convert src dst (a.eval x)) (by simp only [execOp, ho]) (by rw [h2]; exact k5) hs' (.inl this)
    · cases hv
  · cases hv
theorem runes_ints (s : ByteArray) : ∀ (n i : Nat) (acc : Array Value), (∀ v ∈ acc.toList, ∃ k, v = .int .i32 k) → ∀ v ∈ (Conv.runesFrom s n i acc).toList, ∃ k, v = .int .i32 k
  | 0, i, acc, h => by simpa [Conv.runesFrom] using h
  | n + 1, i, acc, h => by
    unfold Conv.runesFrom
    split
    · refine runes_ints s n _ _ ?_
      intro v hv
      simp only [Array.toList_push, List.mem_append, List.mem_singleton] at hv
      rcases hv with hv | hv
      · exact h v hv
      · exact ⟨_, hv⟩
    · exact h
theorem size_runes (s : ByteArray) : (Conv.runesFrom s s.size 0 #[]).size ≤ s.size := by
  have := size_runesFrom s s.size 0 #[]
  simpa using this
theorem e_s2r (s : SR P B nt E D ρ lm (fget fr) m a w) {o : Oper} {src dst e : TypeId} {x : Operand} {x' : Opd} (ho : o.op = .convert src dst x) (hx : liftOpd P x = some x') (hs : P.underlying src = some .string) (hd : P.underlying dst = some (.slice e))
    (he : P.underlying e = some (.int .i32)) {call : CallF} {yld : YieldF} {v : Value} {m' : Mem} (hv : (EOp.s2r x').ev call yld fr m = some (v, m')) : EOk P B nt E D (fget fr) m' a v ((execOp a.eval o).run P w) := by
  have h1 := opdRel_act s x x' hx
  simp only [EOp.ev] at hv
  split at hv
  · rename_i st e1
    rw [e1] at h1
    have h2 := h1.string
    split at hv
    · rename_i hle
      injection hv with hv
      injection hv with g1 g2
      subst g1 g2
      have hsz := size_runes st
      have hint := runes_ints st st.size 0 #[] (by simp)
      have hrun := run_runes_of_string (P := P) w src dst e st hs hd he (by omega)
      generalize hR : Conv.runesFrom st st.size 0 #[] = R at *
      have hge := grownCap_ge w R.size 0 e
      have r1 : VRels ρ R.toList R.toList := All2.of_get rfl fun i x y hx hy => by
        rw [hx] at hy
        injection hy with hy
        subst hy
        obtain ⟨k, rfl⟩ := hint x (List.mem_of_getElem? hx)
        exact .int _ _
      have r2 : R.toList.all cellOk = true := List.all_eq_true.2 fun v hv => by obtain ⟨k, rfl⟩ := hint v hv; rfl
      obtain ⟨hs', hg⟩ := s.newH r1 r2 (cs := R ++ Array.replicate (grownCap w R.size 0 e - R.size) (.int .i32 0)) (rest := List.replicate (grownCap w R.size 0 e - R.size) (.int .i32 0)) (by simp) (t := e) (fz := (0, 0)) (unfrozen0 _)
        (w' := w.drew.alloc (.cells (R ++ Array.replicate (grownCap w R.size 0 e - R.size) (.int .i32 0)) e)) rfl ⟨rfl, rfl, rfl, by first | exact Nat.le_refl _ | exact Nat.le_add_right _ _⟩
      have := VRel.sl m.h.n 0 w.heap.size 0 _ R.size 1 (grownCap w R.size 0 e) hg hge (by simp; omega)
      exact .val (s := convert src dst (a.eval x)) (by simp only [execOp, ho]) (by rw [h2]; exact hrun) hs' (.inl this)
    · cases hv
  · cases hv
theorem e_rng (s : SR P B nt E D ρ lm (fget fr) m a w) {o : Oper} {t : TypeId} {x : Operand} {x' : Opd} (ho : o.op = .range t x) (hx : liftOpd P x = some x') (ht : P.underlying t = some .string) {d : Nat} {call : CallF} {yld : YieldF} {v : Value} {m' : Mem}
    (hv : (EOp.rngS d x').ev call yld fr m = some (v, m')) : EOk P B nt E D (fget fr) m' a v ((execOp a.eval o).run P w) := by
  have h1 := opdRel_act s x x' hx
  simp only [EOp.ev] at hv
  split at hv
  · rename_i st e1
    rw [e1] at h1
    have h2 := h1.string
    obtain ⟨m1, hm1, hv⟩ := Option.map_eq_some_iff.1 hv
    injection hv with g1 g2
    subst g1 g2
    obtain ⟨hn, rfl⟩ := newLoc_inv hm1
    have hs := s.newLoc hn (o := .siter st 0) rfl (x := .stringIter st 0) (N := 0) (w' := w.alloc (.stringIter st 0)) rfl ⟨rfl, rfl⟩ (so_alloc _ _)
    refine .val (s := Instr.range t (a.eval x)) (u := .pointer (some ⟨w.heap.size, 0, none⟩)) (by simp only [execOp, ho]) ?_ hs (.inr (.inl ⟨2 * d + 1, 0, w.heap.size, rfl, by simp [setLm], rfl⟩))
    rw [h2]
    simp [Instr.range, run_und ht]
  · cases hv
theorem run_getObj_of {w : World} {c : Nat} {x : Obj} (h : w.heap[c]? = some x) (hx : ∀ cs t fz, x ≠ .cells cs t fz) : (getObj c).run P w = .ok x w := by
  cases x <;> first | exact absurd rfl (hx _ _ _) | simp [getObj, Sem.run, h]
theorem run_setObj_of {w : World} {c : Nat} {x : Obj} (y : Obj) (h : w.heap[c]? = some x) (hx : ∀ cs t fz, x ≠ .cells cs t fz) : (setObj c y).run P w = .ok () (setBlk w c y) := by
  cases x <;> first | exact absurd rfl (hx _ _ _) | simp [setObj, Sem.run, h, setBlk]
theorem e_nxt (s : SR P B nt E D ρ lm (fget fr) m a w) {o : Oper} {x : Operand} {x' : Opd} (ho : o.op = .next x true) (hx : liftOpd P x = some x') {call : CallF} {yld : YieldF} {v : Value} {m' : Mem}
    (hv : (EOp.nxtS x').ev call yld fr m = some (v, m')) : EOk P B nt E D (fget fr) m' a v ((execOp a.eval o).run P w) := by
  have h1 := opdRel_act s x x' hx
  simp only [EOp.ev] at hv
  split at hv
  · rename_i p e1
    rw [e1] at h1
    obtain ⟨p', e2, hsp⟩ := h1.psome
    rw [e2] at h1
    split at hv
    · rename_i hoff
      split at hv
      · rename_i st pos hobj
        obtain ⟨δ, N, ob, k1, k2, k3⟩ := s.objAt h1 hobj
        have k2' := k2
        cases ob <;> simp only [ORel] at k2 <;> first | exact k2.elim | skip
        obtain ⟨rfl, rfl⟩ := k2
        rcases h1 with h | ⟨nm, of, c, g1, g2, g3⟩ | ⟨_, _, _, _, g, _⟩
        · cases h; simp at hoff
        · injection g1 with g1; injection g1 with g1; injection g3 with g3; injection g3 with g3
          subst g1 g3
          have hof : of = 0 := hoff.1
          subst hof
          split at hv
          · rename_i hlt
            injection hv with hv
            injection hv with g1 g4
            subst g1 g4
            have hs := s.putObj (.inr (.inl ⟨nm, 0, c, rfl, g2, rfl⟩)) hobj rfl (o' := .siter st (pos + (Utf8.decode st pos).2)) rfl k1 k2' (x' := .stringIter st (pos + (Utf8.decode st pos).2)) (fun _ _ _ _ => ⟨rfl, rfl⟩) (w' := setBlk w c (.stringIter st (pos + (Utf8.decode st pos).2))) rfl (so_setBlk _ _ _)
            refine .val (s := Instr.next (a.eval x) true o.type) (u := .tuple #[.bool true, .int .i64 pos, .int .i32 (Utf8.decode st pos).1]) (by simp only [execOp, ho]) ?_ hs (.inl (.tuple _ _ rfl fun i x y hx hy => ?_))
            · rw [e2]
              have hget := run_getObj_of (P := P) k1 (by simp)
              have hset := run_setObj_of (P := P) (.stringIter st (pos + (Utf8.decode st pos).2)) k1 (by simp)
              simp only [Instr.next, Sem.run_bind, hget, Result.andThen_ok, hlt, if_true, hset]
              rfl
            · rw [hx] at hy
              injection hy with hy
              subst hy
              match i, hx with
              | 0, hx => simp at hx; subst hx; exact .bool _
              | 1, hx => simp at hx; subst hx; exact .int _ _
              | 2, hx => simp at hx; subst hx; exact .int _ _
              | i + 3, hx => simp at hx
          · rename_i hlt
            injection hv with hv
            injection hv with g1 g4
            subst g1 g4
            refine .val (s := Instr.next (a.eval x) true o.type) (u := .tuple #[.bool false]) (by simp only [execOp, ho]) ?_ s (.inl (.tuple _ _ rfl fun i x y hx hy => ?_))
            · rw [e2]
              have hget := run_getObj_of (P := P) k1 (by simp)
              simp only [Instr.next, Sem.run_bind, hget, Result.andThen_ok, hlt, if_false]
              rfl
            · rw [hx] at hy
              injection hy with hy
              subst hy
              match i, hx with
              | 0, hx => simp at hx; subst hx; exact .bool _
              | i + 1, hx => simp at hx
        · cases g
      · cases hv
    · cases hv
  · cases hv
end Go.Proofs.YtblmakgjdenpfaaDoor.AM
namespace Go.Proofs.YtblmakgjdenpfaaDoor.AM
open Go
variable {P : Program} {B nt : Nat} {E : Ent} {D : List Nat} {ρ : Rho} {lm : Nat → Option Nat} {fr : Fr} {m : Mem} {a : Act} {w : World} {g : Nat → Value}
theorem cell_heap {w w2 : World} (h : w2.heap = w.heap) (p : Addr) : w2.cell? p = w.cell? p := by unfold World.cell?; rw [h]
theorem SR.source (s : SR P B nt E D ρ lm g m a w) {y u : Value} (h : VRelF ρ lm y u) {esz k : Nat} {ys : List Value} (hk : lenV y = some k) (hy : rdSlice m esz y = some ys) (hl : ys.length = k * esz) :
    (Builtin.lenOf u).run P w = .ok k w ∧ ∀ j, j ≤ k → ∃ us : List Value, us.length = j * esz ∧ VRels ρ (ys.take (j * esz)) us ∧ ys.all cellOk = true ∧ (∀ w2 : World, w2.heap = w.heap → (Builtin.firstCells esz j u).run P w2 = .ok us.toArray w2) := by
  cases y <;> try (cases hk; done)
  case string st =>
    simp only [lenV, Option.some.injEq] at hk
    subst hk
    obtain rfl := h.string
    simp only [rdSlice, Option.some.injEq] at hy
    subst hy
    have hb : st.data.size = st.size := rfl
    refine ⟨by simp [Builtin.lenOf], fun j hj => ?_⟩
    obtain ⟨r1, r2⟩ := bytes_rel (ρ := ρ) st
    have hesz : esz = 1 ∨ st.size = 0 := by
      simp [hb] at hl
      rcases Nat.eq_zero_or_pos st.size with h0 | h0
      · exact .inr h0
      · left
        have : st.size * 1 = st.size * esz := by omega
        exact (Nat.eq_of_mul_eq_mul_left h0 this).symm
    have hje : j * esz = j := by
      rcases hesz with rfl | h0
      · simp
      · have : j = 0 := by omega
        subst this; simp
    rw [hje]
    have h3 : VRels ρ ((st.data.toList.map fun b => Value.int .u8 (b.toNat : Int)).take j) ((st.data.toList.map fun b => Value.int .u8 (b.toNat : Int)).take j) := All2.take r1 j
    refine ⟨_, by simp [hb]; omega, h3, r2, ?_⟩
    have e : ((st.extract 0 j).data.map fun b => Value.int .u8 (b.toNat : Int)) = ((st.data.toList.map fun b => Value.int .u8 (b.toNat : Int)).take j).toArray := by
      rw [← Array.toList_inj]
      simp [ByteArray.data_extract]
    intro w2 _
    simp only [Builtin.firstCells, e]
    rfl
  case slice p n e =>
    simp only [lenV, Option.some.injEq] at hk
    subst hk
    cases p with
    | none =>
      obtain ⟨rfl, rfl, rfl⟩ := h.snil
      simp only [rdSlice, Option.some.injEq] at hy
      subst hy
      refine ⟨by simp [Builtin.lenOf], fun j hj => ?_⟩
      have : j = 0 := by omega
      subst this
      exact ⟨[], by simp, by simp; exact .nil, rfl, fun w2 _ => by simp [Builtin.firstCells]⟩
    | some p =>
      simp only [rdSlice] at hy
      by_cases hn0 : n = 0
      · subst hn0
        simp only [if_true, Option.some.injEq] at hy
        subst hy
        have hu : ∃ q kk, u = .slice (some q) 0 kk := by
          rcases h with h | ⟨nm, o, c, h1, _⟩ | ⟨nm, n', e', c, h1, h2, h3⟩
          · cases h with
            | sl b o c δ N n e k h h1 h2 => exact ⟨_, _, rfl⟩
            | slZ a a' e => exact ⟨_, _, rfl⟩
          · cases h1
          · injection h1 with h1 h4 h5
            subst h4
            exact ⟨_, _, h3⟩
        obtain ⟨q, kk, rfl⟩ := hu
        refine ⟨by simp [Builtin.lenOf], fun j hj => ?_⟩
        have : j = 0 := by omega
        subst this
        refine ⟨[], by simp, by simp; exact .nil, rfl, fun w2 _ => ?_⟩
        have := run_loadCells_list (P := P) w2 q [] (fun i v hv => by simp at hv)
        simpa [Builtin.firstCells] using this
      rw [if_neg hn0] at hy
      obtain ⟨p', c, rfl, us, g1, g2, g3, g4, g5⟩ := s.slice h hy (fun h => by simp [h])
      refine ⟨by simp [Builtin.lenOf], fun j hj => ?_⟩
      refine ⟨us.take (j * esz), ?_, All2.take g2 _, g3, ?_⟩
      · have : j * esz ≤ n * esz := Nat.mul_le_mul_right _ hj
        simp; omega
      · intro w2 hw2
        have := run_loadCells_list (P := P) w2 p' (us.take (j * esz)) (fun i v hv => by
          rw [cell_heap hw2]
          have hi : i < j * esz := by
            have := (List.getElem?_eq_some_iff.1 hv).1
            simp at this; omega
          rw [List.getElem?_take_of_lt hi] at hv
          exact g5 i v hv)
        have hlen : (us.take (j * esz)).length = j * esz := by
          have : j * esz ≤ n * esz := Nat.mul_le_mul_right _ hj
          simp; omega
        rw [hlen] at this
        simpa [Builtin.firstCells] using this
theorem run_app_room {w : World} {t u ty e : TypeId} {d : TypeDesc} {i : TypeInfo} (ht : P.underlying t = some (.slice e)) (hu : P.underlying u = some d) (hd : d = .string ∨ ∃ e, d = .slice e) (hi : P.info? e = some i) {base : Option Addr} {n k cap : Nat} {y : Value}
    (hl : (Builtin.lenOf y).run P w = .ok k w) {us : List Value} (hf : (Builtin.firstCells i.size k y).run P w = .ok us.toArray w) (hroom : n + k ≤ cap) :
    (Builtin.append_ #[t, u] ty #[.slice base n cap, y]).run P w = (match base with
      | some p => (storeCells (p.add (n * i.size)) us).run P w
      | none => .ok () w).andThen fun _ w' => .ok (.slice base (n + k) cap) w' := by
  have hs := run_szOf (P := P) (t := e) (n := i.size) (by simp [szOf, hi]) w
  unfold Builtin.append_
  rcases hd with rfl | ⟨e', rfl⟩ <;> cases base <;> simp [run_und ht, run_und hu, hs, hl, hf, hroom]
theorem size_zeroCells (z : Array Value) (n : Nat) : (Builtin.zeroCells z n).size = n * z.size := by simp [Builtin.zeroCells]
theorem run_app_grow {w : World} {t u ty e : TypeId} {d : TypeDesc} {i : TypeInfo} {z : Value} (ht : P.underlying t = some (.slice e)) (hu : P.underlying u = some d) (hd : d = .string ∨ ∃ e, d = .slice e) (hi : P.info? e = some i) (hz : i.zero = some z)
    {base : Option Addr} {n k cap : Nat} {y : Value} (hl : (Builtin.lenOf y).run P w = .ok k w) {us olds : List Value} (hf : (Builtin.firstCells i.size k y).run P w.drew = .ok us.toArray w.drew)
    (ho : (Builtin.firstCells i.size n (.slice base n cap)).run P w.drew = .ok olds.toArray w.drew) (hroom : ¬ n + k ≤ cap) (hb : (n + k) * i.bytes ≤ 140737488355328) (hb0 : 0 < i.bytes) :
    ∃ (c : Nat) (cs : Array Value) (rest : List Value), n + k ≤ c ∧ cs.toList = (olds ++ us) ++ rest ∧ rest.length = (c - (n + k)) * z.cells.size ∧
      (Builtin.append_ #[t, u] ty #[.slice base n cap, y]).run P w = .ok (.slice (some ⟨w.heap.size, 0, none⟩) (n + k) c) (w.drew.alloc (.cells cs e)) := by
  have hs := run_szOf (P := P) (t := e) (n := i.size) (by simp [szOf, hi]) w
  have hfit := growslice_fits (need := n + k) (old := cap) (bytes := i.bytes) (by omega) hb
  have hge := grownCap_ge w (n + k) cap e
  have hti : ∀ w : World, (typeInfo e).run P w = .ok i w := fun w => by simp [typeInfo, hi]
  refine ⟨grownCap w (n + k) cap e, olds.toArray ++ (us.toArray ++ Builtin.zeroCells z.cells (grownCap w (n + k) cap e - (n + k))), (Builtin.zeroCells z.cells (grownCap w (n + k) cap e - (n + k))).toList, hge, by simp, by simp [size_zeroCells], ?_⟩
  have hzr : ∀ w : World, (zeroValue e).run P w = .ok z w := fun w => run_zero hi hz w
  have h2 : ¬ (Builtin.nextslicecap (n + k) cap * i.bytes > 2 ^ 48) := by omega
  have hroomRun : ∀ (q : Nat) (w : World), (askRoom q).run P w = .ok () w := fun q w => by
    unfold askRoom
    split
    · simp [mark, Sem.run]
    · rfl
  unfold Builtin.append_
  rcases hd with rfl | ⟨e', rfl⟩ <;> simp [run_und ht, run_und hu, hs, hl, hroom, hti, hzr, hroomRun, hf, ho, Question.forced, newRow, grownCap, show i.bytes ≠ 0 by omega, show ¬ (281474976710656 < Builtin.nextslicecap (n + k) cap * i.bytes) by omega, Array.append_assoc] <;> simp
theorem SR.source_all (s : SR P B nt E D ρ lm g m a w) {y u : Value} (h : VRelF ρ lm y u) {esz k : Nat} {ys : List Value} (hk : lenV y = some k) (hy : rdSlice m esz y = some ys) (hl : ys.length = k * esz) :
    (Builtin.lenOf u).run P w = .ok k w ∧ ∃ us : List Value, us.length = k * esz ∧ VRels ρ ys us ∧ ys.all cellOk = true ∧ ∀ w2 : World, w2.heap = w.heap → (Builtin.firstCells esz k u).run P w2 = .ok us.toArray w2 := by
  obtain ⟨h1, h2⟩ := s.source h hk hy hl
  obtain ⟨us, k1, k2, k3, k4⟩ := h2 k (Nat.le_refl _)
  rw [List.take_of_length_le (by omega)] at k2
  exact ⟨h1, us, k1, k2, k3, k4⟩
theorem rels_one {xs us : List Value} (h : VRels ρ xs us) (hk : xs.all cellOk = true) : ∀ u ∈ us, u.oneCell' = true := by
  induction h with
  | nil => intro x hx; cases hx
  | cons h _ ih =>
    simp only [List.all_cons, Bool.and_eq_true] at hk
    intro x hx
    rcases List.mem_cons.1 hx with rfl | hx
    · exact h.one hk.1
    · exact ih hk.2 x hx
theorem e_append (s : SR P B nt E D ρ lm (fget fr) m a w) {t u e : TypeId} {d : TypeDesc} {i : TypeInfo} (ht : P.underlying t = some (.slice e)) (hu : P.underlying u = some d) (hd : d = .string ∨ ∃ e, d = .slice e) (hi : P.info? e = some i)
    (hz : (i.zero.map fun z => z.cells.size) = some i.size) {x y : Operand} {x' y' : Opd} (hx : liftOpd P x = some x') (hy : liftOpd P y = some y') (ty : TypeId) {v : Value} {m' : Mem} (hv : appendA i.size i.bytes m (opd fr x') (opd fr y') = some (v, m')) :
    ∃ r w' ρ', (Builtin.append_ #[t, u] ty #[a.eval x, a.eval y]).run P w = .ok r w' ∧ SR P B nt E D ρ' lm (fget fr) m' a w' ∧ VRelF ρ' lm v r := by
  have h1 := opdRel_act s x x' hx
  have h2 := opdRel_act s y y' hy
  obtain ⟨z, hz1, hz2⟩ := Option.map_eq_some_iff.1 hz
  unfold appendA at hv
  split at hv
  · rename_i k ys hk hys
    split at hv
    · rename_i hlen
      obtain ⟨hlo, us, u1, u2, u3, u4⟩ := s.source_all h2 hk hys hlen
      have hone := rels_one u2 u3
      split at hv
      ·
        rename_i n e0 ex
        rw [ex] at h1
        obtain ⟨e1, rfl, _⟩ := h1.snil
        rw [e1]
        simp only [if_true] at hv
        split at hv
        · rename_i hk0
          subst hk0
          injection hv with hv
          injection hv with g1 g2
          subst g1 g2
          refine ⟨.slice none 0 0, w, ρ, ?_, s, .inl .slNil⟩
          rw [run_app_room ht hu hd hi hlo (u4 w rfl) (by omega)]
          simp
        · rename_i hk0
          split at hv
          · rename_i hb
            injection hv with hv
            injection hv with g1 g2
            subst g1 g2
            obtain ⟨c, cs, rest, c1, c2, c3, c4⟩ := run_app_grow (P := P) (w := w) (ty := ty) (base := none) (n := 0) (cap := 0) ht hu hd hi hz1 hlo (u4 w.drew rfl) (olds := []) (by simp [Builtin.firstCells]) (by omega) (by simpa using hb.1) hb.2.1
            obtain ⟨hs', hg⟩ := s.newH u2 u3 (cs := cs) (rest := rest) (by simpa using c2) (t := e) (fz := (0, 0)) (unfrozen0 _) (w' := w.drew.alloc (.cells cs e)) rfl ⟨rfl, rfl, rfl, by first | exact Nat.le_refl _ | exact Nat.le_add_right _ _⟩
            have hcs : cs.size = c * i.size := by
              rw [← Array.length_toList, c2]
              simp only [List.nil_append, List.length_append, u1, c3, hz2]
              rw [← Nat.add_mul]; congr 1; omega
            have := VRel.sl m.h.n 0 w.heap.size 0 _ k i.size c hg (by omega) (by rw [hcs]; simp)
            refine ⟨_, _, _, c4, hs', .inl ?_⟩
            simpa using this
          · cases hv
      ·
        rename_i p n e0 ex
        rw [ex] at h1
        split at hv
        · rename_i hk0
          obtain ⟨rfl, hsp⟩ := hk0
          injection hv with hv
          injection hv with g1 g2
          subst g1 g2
          have us0 : us = [] := List.eq_nil_of_length_eq_zero (by simpa using u1)
          subst us0
          obtain ⟨p', c, e1⟩ := h1.ssome
          have hnc : n ≤ c := by
            rw [e1] at h1
            rcases h1 with h | ⟨_, _, _, h, _⟩ | ⟨nm, n', e', c', h, _⟩
            · cases h with
              | sl b o c δ N n e k h h1 h2 => exact h1
              | slZ => exact Nat.le_refl _
            · cases h
            · injection h with h _ _; injection h with h; subst h; simp [loc] at hsp
          refine ⟨.slice (some p') n c, w, ρ, ?_, s, by rw [← e1]; exact h1⟩
          rw [e1, run_app_room ht hu hd hi hlo (u4 w rfl) (by omega)]
          simp [storeCells]
        · split at hv
          · rename_i hk0 _ _ xs hsp hob
            split at hv
            · rename_i hb
              obtain ⟨b1, b2, b3, b4, rfl⟩ := hb
              injection hv with hv
              injection hv with g1 g2
              subst g1 g2
              have hkpos : 0 < k := by
                rcases Nat.eq_zero_or_pos k with h0 | h0
                · exact absurd ⟨h0, by rw [hsp]; rfl⟩ hk0
                · exact h0
              obtain ⟨b, o, sp⟩ := p
              simp only at hsp hob b1
              subst hsp
              have hrel : VRel ρ (.slice (some ⟨b, o, none⟩) n i.size) (a.eval x) := by
                rcases h1 with h | ⟨_, _, _, h, _⟩ | ⟨nm, n', e', c', h, _⟩
                · exact h
                · cases h
                · injection h with h _ _; injection h with h; cases h
              have skill := s.kill b
              obtain ⟨c0, δ, N, ob, r1, r2, r3, r4, _⟩ := s.heap.live b _ hob
              cases ob <;> simp only [ORel] at r3 <;> first | exact r3.elim | skip
              rename_i cur tt fz
              obtain ⟨f1, f2, f3, f4⟩ := r3
              generalize hax : a.eval x = ax at hrel
              cases hrel with
              | sl _ _ c1 δ1 N1 _ _ cap g1 g2 g3 =>
                rw [r1] at g1
                injection g1 with g1
                injection g1 with g1 g4
                injection g4 with g4 g5
                subst g1 g4 g5
                by_cases hroom : n + k ≤ cap
                ·
                  have hadd : (⟨c0, δ + o, none⟩ : Addr).add (n * i.size) = ⟨c0, δ + o + n * i.size, none⟩ := by rw [add_off _ rfl]; rfl
                  have hcap : n * i.size + k * i.size ≤ cap * i.size := by rw [← Nat.add_mul]; exact Nat.mul_le_mul_right _ hroom
                  have hst := run_storeCells P c0 (δ + o + n * i.size) tt fz us 0 cur w r2 (by omega) (by rw [f1]; exact fun j hj => f3 trivial j (by omega)) hone
                  refine ⟨.slice (some ⟨c0, δ + o, none⟩) (n + k) cap, setBlk w c0 (.cells (setAll cur.toList (δ + o + n * i.size) us).toArray tt fz), ρ ++ [(c0, δ + o, N)], ?_, ?_, .inl ?_⟩
                  · rw [run_app_room ht hu hd hi hlo (u4 w rfl) hroom]
                    simp only [hadd, hst, Result.andThen_ok]
                    rfl
                  · have hmut : Mut ρ m.h c0 := ⟨b, _, δ, N, hob, rfl, r1⟩
                    have hlt := (Array.getElem?_eq_some_iff.1 r2).1
                    refine skill.pushAt rfl (by simp [setBlk]) (setBlk_get r2) ?_ (r4 rfl) (fun b1 o1 c1 δ1 N1 q1 q2 => ?_) (fun hc => s.tr.img c0 hc hmut) (fun nm hn => ?_) (fun hd' => (s.marks c0 hd').2.2.1 hmut) (fun c' hne hlt' => ?_) (so_setBlk _ _ _)
                    · have hext := Ext.snoc ρ (c0, δ + o, N)
                      refine ⟨by simp [setAll_length]; exact f1, by simp [u2.length.trans u1]; omega, fun _ => f3 trivial, ?_⟩
                      have hrels := u2.mono hext
                      intro j v hj
                      have hj : (xs.drop o ++ ys)[j]? = some v := hj
                      have hdl : (xs.drop o).length = n * i.size := by simp; omega
                      have hg : (setAll cur.toList (δ + o + n * i.size) us).toArray[δ + o + j]? = (setAll cur.toList (δ + o + n * i.size) us)[δ + o + j]? := by simp
                      rw [hg, setAll_get _ _ _ _ (by simp; omega)]
                      by_cases hjn : j < n * i.size
                      · rw [List.getElem?_append_left (by omega), List.getElem?_drop] at hj
                        rw [if_neg (by omega)]
                        obtain ⟨q1, q2, q3, q4⟩ := f4 (o + j) v hj
                        exact ⟨q1, q2, by simpa [Nat.add_assoc] using q3, q4.mono hext⟩
                      · rw [List.getElem?_append_right (by omega), hdl] at hj
                        obtain ⟨uu, q1, q2⟩ := All2.get hrels _ v hj
                        have hlt2 := (List.getElem?_eq_some_iff.1 q1).1
                        rw [if_pos (by omega)]
                        have : δ + o + j - (δ + o + n * i.size) = j - n * i.size := by omega
                        rw [this]
                        exact ⟨List.all_eq_true.1 u3 v (List.mem_of_getElem? hj), uu, q1, q2⟩
                    · have hne : b1 ≠ b := fun hh => by subst hh; rw [AH.get_kill_same] at q1; cases q1
                      rw [AH.get_kill_ne hne] at q1
                      exact fun hc => s.heap.inj b b1 _ o1 c0 δ N c1 δ1 N1 hob q1 (Ne.symm hne) rfl r1 q2 hc.symm
                    · have hl := s.lcs nm
                      cases hlg : lget m.lc nm with
                      | none => rw [hlg] at hl; simp only at hl; rw [hl] at hn; cases hn
                      | some o1 =>
                        rw [hlg] at hl
                        obtain ⟨c1, x1, k1, _, k3, _⟩ := hl
                        rw [hn] at k1
                        injection k1 with k1
                        subst k1
                        exact k3 hmut
                    · unfold setBlk
                      simp [Array.getElem?_setIfInBounds_ne (Ne.symm hne)]
                  · have hg : (ρ ++ [(c0, δ + o, N)])[m.h.n]? = some (c0, δ + o, N) := by rw [← s.heap.len]; exact get_snoc_eq _ _
                    have := VRel.sl m.h.n 0 c0 (δ + o) N (n + k) i.size cap hg hroom (by omega)
                    simpa using this
                ·
                  have hrd : m.rd ⟨b, o, none⟩ (n * i.size) = some (xs.drop o) := by
                    unfold Mem.rd Mem.obj
                    simp only [hob]
                    rw [if_pos (by omega)]
                    rw [List.take_of_length_le (by simp; omega)]
                  have s2 : SR P B nt E D ρ lm (fget fr) m a w.drew := s.world rfl ⟨rfl, rfl, rfl, by first | exact Nat.le_refl _ | exact Nat.le_add_right _ _⟩
                  obtain ⟨olds, o1, o2, o3, o4, _⟩ := s2.rd (.inl (.ptr b o c0 δ N r1)) hrd
                  obtain ⟨c, cs, rest, c1, c2, c3, c4⟩ := run_app_grow (P := P) (w := w) (ty := ty) (base := some ⟨c0, δ + o, none⟩) (n := n) (cap := cap) ht hu hd hi hz1 hlo (u4 w.drew rfl) (olds := olds) (by simpa [Builtin.firstCells] using o4) hroom b2 b3
                  obtain ⟨hs', hg⟩ := skill.newH (All2.append o2 u2) (by rw [List.all_append, o3, u3]; rfl) (cs := cs) (rest := rest) c2 (t := e) (fz := (0, 0)) (unfrozen0 _) (w' := w.drew.alloc (.cells cs e)) rfl ⟨rfl, rfl, rfl, by first | exact Nat.le_refl _ | exact Nat.le_add_right _ _⟩
                  have hcs : cs.size = c * i.size := by
                    rw [← Array.length_toList, c2]
                    simp only [List.length_append, u1, o1, c3, hz2]
                    rw [← Nat.add_mul, ← Nat.add_mul]; congr 1; omega
                  have := VRel.sl m.h.n 0 w.heap.size 0 _ (n + k) i.size c hg (by omega) (by rw [hcs]; simp)
                  refine ⟨_, _, _, c4, hs', .inl ?_⟩
                  simpa using this
              | slZ a0 a1 e1 =>
                obtain ⟨c, cs, rest, c1, c2, c3, c4⟩ := run_app_grow (P := P) (w := w) (ty := ty) (base := some a1) (n := 0) (cap := 0) ht hu hd hi hz1 hlo (u4 w.drew rfl) (olds := []) (by simp [Builtin.firstCells, loadCells, loadCellsFrom]) (by omega) b2 b3
                have hd0 : xs.drop o = [] := by
                  apply List.eq_nil_of_length_eq_zero
                  simp; omega
                obtain ⟨hs', hg⟩ := skill.newH u2 u3 (cs := cs) (rest := rest) (by simpa using c2) (t := e) (fz := (0, 0)) (unfrozen0 _) (w' := w.drew.alloc (.cells cs e)) rfl ⟨rfl, rfl, rfl, by first | exact Nat.le_refl _ | exact Nat.le_add_right _ _⟩
                have hcs : cs.size = c * i.size := by
                  rw [← Array.length_toList, c2]
                  simp only [List.nil_append, List.length_append, u1, c3, hz2]
                  rw [← Nat.add_mul]; congr 1; omega
                have := VRel.sl m.h.n 0 w.heap.size 0 _ k i.size c hg (by omega) (by rw [hcs]; simp)
                refine ⟨_, _, _, c4, by rw [hd0]; exact hs', .inl ?_⟩
                simpa using this
            · cases hv
          · cases hv
      · cases hv
    · cases hv
  · cases hv
theorem e_copy (s : SR P B nt E D ρ lm (fget fr) m a w) {t e : TypeId} {n : Nat} (ht : P.underlying t = some (.slice e)) (hn : szOf P e = some n) {x y : Operand} {x' y' : Opd} (hx : liftOpd P x = some x') (hy : liftOpd P y = some y') (ats : Array TypeId) (hat : ats[0]? = some t) (ty : TypeId) {call : CallF} {yld : YieldF} {v : Value} {m' : Mem}
    (hv : (EOp.copy n x' y').ev call yld fr m = some (v, m')) :
    ∃ r w', (Builtin.copy_ ats ty #[a.eval x, a.eval y]).run P w = .ok r w' ∧ SR P B nt E D ρ lm (fget fr) m' a w' ∧ VRelF ρ lm v r := by
  have h1 := opdRel_act s x x' hx
  have h2 := opdRel_act s y y' hy
  simp only [EOp.ev] at hv
  split at hv
  · rename_i p dn e0 k ys ex hk hys
    rw [ex] at h1
    split at hv
    · rename_i hlen
      obtain ⟨hlo, hsrc⟩ := s.source h2 hk hys hlen
      obtain ⟨us, u1, u2, u3, u4⟩ := hsrc (min k dn) (Nat.min_le_left _ _)
      have hs := run_szOf hn w
      have hmin : Nat.min k dn = min k dn := rfl
      split at hv
      · rename_i h0
        injection hv with hv
        injection hv with g1 g2
        subst g1 g2
        rw [h0] at u1 u4
        have us0 : us = [] := List.eq_nil_of_length_eq_zero (by simpa using u1)
        subst us0
        refine ⟨.int .i64 0, w, ?_, s, .inl (.int _ _)⟩
        cases p with
        | none =>
          obtain ⟨e1, _, _⟩ := h1.snil
          obtain ⟨_, rfl, _⟩ := h1.snil
          rw [e1]
          have h00 : Nat.min k 0 = 0 := Nat.min_zero k
          simp [Builtin.copy_, hat, run_und ht, hlo, hs, h00, u4 w rfl, goInt]
        | some p =>
          obtain ⟨p', c, e1⟩ := h1.ssome
          rw [e1]
          have h00 : Nat.min k dn = 0 := h0
          simp [Builtin.copy_, hat, run_und ht, hlo, hs, h00, u4 w rfl, goInt, storeCells]
      · rename_i h0
        split at hv
        · rename_i p
          obtain ⟨m1, hm1, hv⟩ := Option.map_eq_some_iff.1 hv
          injection hv with g1 g2
          subst g1 g2
          have hadr : ∃ p' c, a.eval x = .slice (some p') dn c ∧ VRelF ρ lm (.pointer (some p)) (.pointer (some p')) := by
            rcases h1 with h | ⟨_, _, _, h, _⟩ | ⟨nm, n', e', c', h, g2, g3⟩
            · generalize a.eval x = ax at h
              cases h with
              | sl b o c δ N n e k h h1 h2 => exact ⟨_, _, rfl, .inl (.ptr b o c δ N h)⟩
              | slZ a0 a1 e1 => simp at h0
            · cases h
            · injection h with q1 q2 q3
              injection q1 with q1
              subst q1 q2 q3
              exact ⟨_, _, g3, .inr (.inl ⟨nm, 0, c', rfl, g2, rfl⟩)⟩
          obtain ⟨p', c, e1, hp⟩ := hadr
          have u3' : (ys.take (min k dn * n)).all cellOk = true := List.all_eq_true.2 fun v hv => List.all_eq_true.1 u3 v (List.mem_of_mem_take hv)
          obtain ⟨w', hst, hs'⟩ := s.wr hp u2 u3' (rels_one u2 u3') hm1
          refine ⟨.int .i64 (min k dn : Nat), w', ?_, hs', .inl (.int _ _)⟩
          rw [e1]
          have hmm : (Builtin.firstCells n (Nat.min k dn) (a.eval y)).run P w = .ok us.toArray w := u4 w rfl
          simp [Builtin.copy_, hat, run_und ht, hlo, hs, hmm, hst, goInt]
        · cases hv
    · cases hv
  · cases hv
theorem e_mks (s : SR P B nt E D ρ lm (fget fr) m a w) {t e : TypeId} {i : TypeInfo} (ht : P.underlying t = some (.slice e)) (hi : P.info? e = some i) {z : List Value} (hz : zeroOf P e = some z) {x y : Operand} {x' y' : Opd} (hx : liftOpd P x = some x') (hy : liftOpd P y = some y') {call : CallF} {yld : YieldF} {v : Value} {m' : Mem}
    (hv : (EOp.mks i.size i.bytes z x' y').ev call yld fr m = some (v, m')) :
    ∃ r w' ρ', (Instr.makeSlice t (a.eval x) (a.eval y)).run P w = .ok r w' ∧ SR P B nt E D ρ' lm (fget fr) m' a w' ∧ VRelF ρ' lm v r := by
  have h1 := opdRel_act s x x' hx
  have h2 := opdRel_act s y y' hy
  obtain ⟨it, zv, hi', hzv, rfl, hfl⟩ := zero_rel hz
  rw [hi] at hi'
  injection hi' with hi'
  subst hi'
  simp only [EOp.ev] at hv
  split at hv
  · rename_i l c el ec
    rw [el] at h1; rw [ec] at h2
    split at hv
    · rename_i hb
      obtain ⟨b0, b1, b2, b3, b4, b5⟩ := hb
      injection hv with hv
      injection hv with g1 g2
      subst g1 g2
      have hwl : IntKind.i64.wrap l = l := by
        unfold IntKind.wrap; simp [IntKind.bits, IntKind.signed]; omega
      have hwc : IntKind.i64.wrap c = c := by
        unfold IntKind.wrap; simp [IntKind.bits, IntKind.signed]; omega
      have hzs : zv.cells.size = i.size := by simpa using b4
      have hti : (typeInfo e).run P w = .ok i w := by simp [typeInfo, hi]
      have hroomRun : ∀ (q : Nat) (w : World), (askRoom q).run P w = .ok () w := fun q w => by
        unfold askRoom
        split
        · simp [mark, Sem.run]
        · rfl
      have hs := run_szOf (P := P) (t := e) (n := i.size) (by simp [szOf, hi]) w
      have hf := litCells_flat hfl c.toNat
      obtain ⟨r1, r2⟩ := all_flat (ρ := ρ) hf
      have hf2 := litCells_flat hfl l.toNat
      obtain ⟨r3, r4⟩ := all_flat (ρ := ρ) hf2
      have hsplit : litCells c.toNat zv.cells.toList = litCells l.toNat zv.cells.toList ++ litCells (c.toNat - l.toNat) zv.cells.toList := by
        unfold litCells
        rw [← List.flatten_append, List.replicate_append_replicate]
        congr 2
        omega
      let cs : Array Value := (Array.range (c.toNat * i.size)).map (zv.cells[· % zv.cells.size]!)
      have hcs : cs.toList = litCells c.toNat zv.cells.toList := by simp only [cs, ← hzs]; exact litCells_eq _ _
      have hsz : cs.size = c.toNat * i.size := by simp [cs]
      obtain ⟨hs', hg⟩ := s.newH r3 r4 (cs := cs) (rest := litCells (c.toNat - l.toNat) zv.cells.toList) (by rw [hcs, hsplit]) (t := e) (fz := (0, 0)) (unfrozen0 _) (w' := w.alloc (.cells cs e)) rfl (so_alloc _ _)
      have := VRel.sl m.h.n 0 w.heap.size 0 _ l.toNat i.size c.toNat hg (by omega) (by rw [hsz]; simp)
      refine ⟨.slice (some ⟨w.heap.size, 0, none⟩) l.toNat c.toNat, _, _, ?_, hs', .inl (by simpa using this)⟩
      rw [h1.int, h2.int]
      have hbig : ¬ (281474976710656 < (i.bytes : Int) * c) := by rw [Int.mul_comm]; omega
      have hzr := run_zero hi hzv w
      by_cases h0 : c.toNat * i.size = 0
      · have hc0 : c.toNat = 0 := by
          rcases Nat.mul_eq_zero.1 h0 with h | h
          · exact h
          · omega
        have hcs0 : cs = #[] := by rw [← Array.toList_inj, hcs, hc0]; rfl
        rw [hcs0]
        simp [Instr.makeSlice, run_und ht, asInt, asIntOf, hti, hwl, hwc, hroomRun, hs, hc0, newRow, show ¬ (c < 0) by omega, show ¬ (l < 0) by omega, show ¬ (c < l) by omega, hbig]
        congr 2
        exact Array.eq_empty_of_size_eq_zero (by simp)
      · simp [Instr.makeSlice, run_und ht, asInt, asIntOf, hti, hwl, hwc, hroomRun, hs, h0, newRow, show ¬ (c < 0) by omega, show ¬ (l < 0) by omega, show ¬ (c < l) by omega, hbig, hzr, cs]
    · cases hv
  · cases hv
end Go.Proofs.YtblmakgjdenpfaaDoor.AM
namespace Go.Proofs.YtblmakgjdenpfaaDoor.AM
open Go
variable {P : Program} {B nt : Nat} {E : Ent} {D : List Nat} {ρ : Rho} {lm : Nat → Option Nat} {fr : Fr} {m : Mem} {a : Act} {w : World} {g : Nat → Value}
def WF (r : Option Nat) : Fence := { Fence.wide with round := r }
def CallPost (P : Program) (B : Nat) (ρ : Rho) (h : AH) (w : World) (v : Value) (h' : AH) (e : Ending) (w' : World) : Prop :=
  ∃ u ρ', e = .returned u ∧ HRel P B ρ' h' w' ∧ Trans ⟨ρ, h, w⟩ ρ' h' w' ∧ VRel ρ' v u
def FnOk (P : Program) (f : FuncId) : Prop := ∃ fn, P.funcs[f]? = some fn ∧ (fn.name == "runtime.NumGoroutine") = false ∧ fn.body.isSome = true
def CallSound (P : Program) (B : Nat) (call : CallF) : Prop := ∀ f args h v h', call f args h = some (v, h') → FnOk P f ∧
  ∀ ρ w argsC n, B ≤ w.heap.size → HRel P B ρ h w → VRels ρ args argsC.toList → CallsIn Fence.wide n P f argsC w (CallPost P B ρ h w v h')
def YieldSound (P : Program) (B : Nat) (yld : YieldF) : Prop := ∀ l args h v h', yld l args h = some (v, h') →
  ∀ ρ w argsC n c δ N, B ≤ w.heap.size → HRel P B ρ h w → VRels ρ args argsC.toList → ρ[l]? = some (c, δ, N) →
    ∃ f tmps assign body, (Instr.yield c argsC).run P w = .ok (.round c f tmps assign body) w ∧ RoundIn Fence.wide n P c f tmps assign body w (CallPost P B ρ h w v h')
theorem SR.called (s : SR P B nt E D ρ lm g m a w) {ρ' : Rho} {h' : AH} {w' : World} (hh : HRel P B ρ' h' w') (ht : Trans ⟨ρ, m.h, w⟩ ρ' h' w') : SR P B nt E D ρ' lm g { m with h := h' } a w' where
  base := s.base
  heap := hh
  tr := s.tr.trans ht
  val := fun i => (s.val i).mono ht.ext (fun _ _ h => h)
  lcs := fun nm => by
    have hl := s.lcs nm
    revert hl
    show (match lget m.lc nm with | none => _ | some o => _) → (match lget m.lc nm with | none => _ | some o => _)
    cases lget m.lc nm with
    | none => exact id
    | some o1 =>
      rintro ⟨c1, x1, k1, k2, k3, k4, ⟨N1, k5⟩, k6⟩
      have hlt := (Array.getElem?_eq_some_iff.1 k4).1
      exact ⟨c1, x1, k1, k2, fun hm => k3 (ht.img c1 hlt hm), (ht.keep c1 hlt k3).trans k4, ⟨N1, k5.mono ht.ext⟩, k6⟩
  linj := s.linj
  dfs := s.dfs
  marks := fun r hr => by
    obtain ⟨k1, k2, k3, k4⟩ := s.marks r hr
    have hlt := (Array.getElem?_eq_some_iff.1 k1).1
    exact ⟨(ht.keep r hlt k3).trans k1, k2, fun hm => k3 (ht.img r hlt hm), k4⟩
  dnd := s.dnd
  room := s.room
theorem wpIn_res {o : Oper} {r : Option Nat} {n : Nat} {next : Act → World → Prop} {Q : Exit → Act → World → Prop} (hd : ∀ c, o.op ≠ .defer c) {x : Next} {u : Value} {w' : World}
    (h : (execOp a.eval o).run P w = .ok x w') (hx : x = .value u ∨ (x = .skip ∧ u = undef)) (hn : next (a.put o.dst u) w') : o.wpIn (WF r) n P a w next Q := by
  refine ⟨fun _ _ => trivial, ?_⟩
  rw [Oper.semAt_eq _ _ _ hd, h]
  rcases hx with rfl | ⟨rfl, rfl⟩
  · exact hn
  · exact hn
theorem callsIn_wf {r : Option Nat} {n : Nat} {f : FuncId} {args : Array Value} {R : Ending → World → Prop} (h : CallsIn Fence.wide n P f args w R) : CallsIn (WF r) n P f args w R := h
theorem roundIn_wf {r : Option Nat} {n : Nat} {l : Nat} {f : FuncId} {tmps : Array Value} {asx body : Code} {R : Ending → World → Prop} (h : RoundIn Fence.wide n P l f tmps asx body w R) : RoundIn (WF r) n P l f tmps asx body w R := h
theorem wpIn_enter {o : Oper} {r : Option Nat} {n : Nat} {next : Act → World → Prop} {Q : Exit → Act → World → Prop} (hd : ∀ c, o.op ≠ .defer c) {f : FuncId} {args : Array Value} {v : Value} {h h' : AH} (hrun : (execOp a.eval o).run P w = .ok (.enter f args) w)
    (hc : ∀ n, CallsIn Fence.wide n P f args w (CallPost P B ρ h w v h')) (hn : ∀ u ρ' w', HRel P B ρ' h' w' → Trans ⟨ρ, h, w⟩ ρ' h' w' → VRel ρ' v u → next (a.put o.dst u) w') : o.wpIn (WF r) n P a w next Q := by
  refine ⟨fun _ _ => trivial, ?_⟩
  rw [Oper.semAt_eq _ _ _ hd, hrun]
  refine ⟨fun h => by simp [WF, Fence.wide] at h, callsIn_wf ((hc (n - 1)).mono fun e w' he => ?_)⟩
  obtain ⟨u, ρ', rfl, g1, g2, g3⟩ := he
  exact hn u ρ' w' g1 g2 g3
theorem wpIn_yield {o : Oper} {r : Option Nat} {n : Nat} {next : Act → World → Prop} {Q : Exit → Act → World → Prop} (hd : ∀ c, o.op ≠ .defer c) {l f : FuncId} {tmps : Array Value} {asx body : Code} {v : Value} {h h' : AH} (hrun : (execOp a.eval o).run P w = .ok (.round l f tmps asx body) w)
    (hc : RoundIn Fence.wide (n - 1) P l f tmps asx body w (CallPost P B ρ h w v h')) (hn : ∀ u ρ' w', HRel P B ρ' h' w' → Trans ⟨ρ, h, w⟩ ρ' h' w' → VRel ρ' v u → next (a.put o.dst u) w') : o.wpIn (WF r) n P a w next Q := by
  refine ⟨fun _ _ => trivial, ?_⟩
  rw [Oper.semAt_eq _ _ _ hd, hrun]
  refine ⟨fun h => by simp [WF, Fence.wide] at h, roundIn_wf (hc.mono fun e w' he => ?_)⟩
  obtain ⟨u, ρ', rfl, g1, g2, g3⟩ := he
  exact hn u ρ' w' g1 g2 g3
theorem run_newObjM (x : Obj) : (newObj x).run P w = .ok w.heap.size (w.alloc x) := rfl
theorem e_mkmap (s : SR P B nt E D ρ lm (fget fr) m a w) {o : Oper} {t : TypeId} {r : Option Operand} (ho : o.op = .makeMap t r) {kt et : TypeId} (hu : P.underlying t = some (.map kt et)) (hr : r = none ∨ ∃ k n, r = some (.const (.int k n))) {call : CallF} {yld : YieldF} {v : Value} {m' : Mem}
    (hv : EOp.mkmap.ev call yld fr m = some (v, m')) : EOk P B nt E D (fget fr) m' a v ((execOp a.eval o).run P w) := by
  simp only [EOp.ev] at hv
  injection hv with hv
  injection hv with e1 e2
  subst e1 e2
  have hrun : (Instr.makeMap t (r.map a.eval)).run P w = .ok (.map (some w.heap.size)) (w.alloc (.map #[] 0)) := by
    rcases hr with rfl | ⟨k, n, rfl⟩
    · simp only [Option.map_none, Instr.makeMap, Sem.run_bind, run_newObjM, Result.andThen_ok, Sem.run_pure]
    · simp only [Option.map_some, Instr.makeMap, Sem.run_bind, run_und hu, run_newObjM, Result.andThen_ok, Sem.run_pure]
      rfl
  have he : execOp a.eval o = (do pure (Next.value (← Instr.makeMap t (r.map a.eval))) : Sem Next) := by simp only [execOp, ho]
  have hs := s.push (o := .map []) rfl (N := 0) (x := .map #[] 0) (w' := w.alloc (.map #[] 0)) rfl (by show All2 _ _ _ ∧ _ ∧ _; exact ⟨.nil, rfl, by simp⟩) (so_alloc _ _)
  exact .val he hrun hs (.inl (.map _ _ 0 0 (by rw [← s.heap.len]; exact get_snoc_eq _ _)))
theorem All2.modify {ρ : Rho} {es : List (Value × Value)} {ms : Array MapEntry} (h : All2 (ERel ρ) es ms.toList) {j : Nat} {e : MapEntry} (he : ms[j]? = some e) {p : Value × Value} {f : MapEntry → MapEntry} (hr : ERel ρ p (f e)) :
    All2 (ERel ρ) (es.set j p) (ms.modify j f).toList := by
  have : (ms.modify j f).toList = ms.toList.set j (f e) := by
    apply List.ext_getElem?
    intro i
    rw [List.getElem?_set]
    by_cases hij : j = i
    · subst hij
      have hlt := (Array.getElem?_eq_some_iff.1 he).1
      have hg := (Array.getElem?_eq_some_iff.1 he).2
      rw [if_pos rfl]
      simp [Array.getElem?_modify, he, hlt, hg]
    · rw [if_neg hij]
      simp [Array.getElem?_modify, hij]
  rw [this]
  exact h.set hr j
theorem born_modify {ms : Array MapEntry} (h : ∀ (i : Nat) (e : MapEntry), ms[i]? = some e → e.born = i) {j : Nat} {f : MapEntry → MapEntry} (hf : ∀ e, (f e).born = e.born) : ∀ (i : Nat) (e : MapEntry), (ms.modify j f)[i]? = some e → e.born = i := fun i e he => by
  rw [Array.getElem?_modify] at he
  split at he
  · obtain ⟨e', h1, rfl⟩ := Option.map_eq_some_iff.1 he
    rw [hf]; exact h i e' h1
  · exact h i e he
theorem e_mapup (s : SR P B nt E D ρ lm (fget fr) m a w) {o : Oper} {t : TypeId} {x k y : Operand} (ho : o.op = .mapUpdate t x k y) (hd : o.dst.isNone = true) {kk : KK} {e : TypeId} (hm : mapOf P t = some (kk, e)) {x' k' y' : Opd} (hx : liftOpd P x = some x') (hk : liftOpd P k = some k') (hy : liftOpd P y = some y')
    {call : CallF} {yld : YieldF} {v : Value} {m' : Mem} (hv : (EOp.mapup kk x' k' y').ev call yld fr m = some (v, m')) : EOk P B nt E D (fget fr) m' a v ((execOp a.eval o).run P w) := by
  have h1 := opdRel_act s x x' hx
  have h2 := opdRel_act s k k' hk
  have h3 := opdRel_act s y y' hy
  obtain ⟨kt, hu, hkt⟩ := mapOf_spec hm
  simp only [EOp.ev] at hv
  split at hv
  · rename_i b e0
    rw [e0] at h1
    split at hv
    · rename_i es he
      split at hv
      · rename_i r hf
        split at hv
        · rename_i hok
          obtain ⟨hok, hself⟩ := hok
          injection hv with hv
          injection hv with q1 q2
          subst q1 q2
          obtain ⟨c, δ, N, e2, hc⟩ := h1.msome
          obtain ⟨ms, cl, hh, hr, hcl, hbn⟩ := s.mapAt he hc
          have hkv := keyEq_self hkt hself
          have hui := hkv.rel h2
          have hck := run_checkKey (w := w) hkt hkv false
          obtain ⟨r', g1, g2⟩ := run_findKey (w := w) hkt hkv hr hf
          have hval : VRel ρ (opd fr y') (a.eval y) := h3.ok hok
          have hp : VRelF ρ lm (.pointer (some ⟨b, 0, none⟩)) (.pointer (some ⟨c, δ + 0, none⟩)) := .inl (.ptr b 0 c δ N hc)
          have hgo : m.obj ⟨b, 0, none⟩ = some (.map es) := he
          have he' : execOp a.eval o = (do Instr.mapUpdate t (a.eval x) (a.eval k) (a.eval y); pure Next.skip : Sem Next) := by simp only [execOp, ho]
          have done : ∀ (es' : List (Value × Value)) (ms' : Array MapEntry) (cl' : Nat), (All2 (ERel ρ) es' ms'.toList ∧ cl' = ms'.size ∧ ∀ (i : Nat) (e : MapEntry), ms'[i]? = some e → e.born = i) → (Instr.mapUpdate t (a.eval x) (a.eval k) (a.eval y)).run P w = .ok () (setBlk w c (.map ms' cl')) →
              EOk P B nt E D (fget fr) { m with h := m.h.set b (.map es') } a undef ((execOp a.eval o).run P w) := fun es' ms' cl' hr' hrun => by
            have hs := s.putObj (o' := .map es') hp hgo rfl rfl (δ := 0) (N := 0) (x := .map ms cl) (x' := .map ms' cl') hh ⟨hr, hcl, hbn⟩ (fun _ _ _ _ => hr') (w' := setBlk w c (.map ms' cl')) rfl (so_setBlk _ _ _)
            exact ⟨.skip, undef, _, ρ, lm, by rw [he']; simp [hrun], .inr ⟨rfl, rfl⟩, hs, .inl (.undef _)⟩
          have hset : ∀ y, (setObj c y).run P w = .ok () (setBlk w c y) := fun y => by simp [setObj, Sem.run, hh, setBlk]
          cases r with
          | none =>
            obtain ⟨rfl, g3⟩ := g2
            rw [keySet_none g3]
            refine done _ (ms.push { key := opd fr k', val := a.eval y, born := cl }) (cl + 1) ⟨?_, by simp [hcl], fun i e hi => ?_⟩ ?_
            · rw [Array.toList_push]
              exact All2.append hr (.cons ⟨rfl, hkv.flat, hval⟩ .nil)
            · rw [Array.getElem?_push] at hi
              split at hi
              · rename_i hi2; injection hi with hi; subst hi; rw [hi2]; exact hcl
              · exact hbn i e hi
            · rw [e2, hui]
              simp [Instr.mapUpdate, run_und hu, run_getObjM hh, hck, g1, hset]
          | some u =>
            obtain ⟨j, p, en, q1, q2, q3, q4, rfl, q6⟩ := g2
            rw [keySet_some q1 q4 q6]
            have q2' : ms[j]? = some en := by simpa using q2
            have hpk : p.1 = opd fr k' := (keyEq_same hkv q4).symm
            have hek : en.key = opd fr k' := by
              obtain ⟨e2', he2, hrel⟩ := All2.get hr j p q1
              rw [q2] at he2
              injection he2 with he2
              subst he2
              rw [← hrel.1, hpk]
            have hstay : (Instr.keyThatStays (opd fr k') (opd fr k')).run P w = .ok (opd fr k') w := by simp [Instr.keyThatStays, hkv.bits]
            refine done _ (ms.modify j fun e => { e with key := opd fr k', val := a.eval y }) cl ⟨All2.modify hr q2' ⟨hpk, by rw [hpk]; exact hkv.flat, hval⟩, by simp [hcl], born_modify hbn (fun _ => rfl)⟩ ?_
            rw [e2, hui]
            simp only [Nat.zero_add] at g1
            simp [Instr.mapUpdate, run_und hu, run_getObjM hh, hck, g1, q2', hek, hstay, hset]
        · cases hv
      · cases hv
    · cases hv
  · cases hv
theorem keyIx_found {kk : KK} {k : Value} : ∀ {es : List (Value × Value)} {j : Nat}, keyIx kk k es = some j → ∃ r, keyFind kk k es = some r ∧ j ≤ es.length ∧ (∀ q ∈ es.take j, keyEq kk k q.1 = some false) ∧ match es[j]? with
    | some p => r = some p.2 ∧ keyEq kk k p.1 = some true
    | none => r = none
  | [], j, h => by
    simp only [keyIx, Option.some.injEq] at h
    subst h
    exact ⟨none, rfl, by simp, by simp, rfl⟩
  | (x, u) :: es, j, h => by
    unfold keyIx at h
    split at h
    · rename_i hq
      injection h with h; subst h
      exact ⟨some u, by simp [keyFind, hq], by simp, by simp, rfl, hq⟩
    · rename_i hq
      obtain ⟨j', h1, rfl⟩ := Option.map_eq_some_iff.1 h
      obtain ⟨r, g1, g2, g3, g4⟩ := keyIx_found h1
      refine ⟨r, by simp [keyFind, hq, g1], by simp; omega, fun q hq' => ?_, by simpa using g4⟩
      rw [List.take_succ_cons] at hq'
      rcases List.mem_cons.1 hq' with rfl | hq'
      · exact hq
      · exact g3 q hq'
    · cases h
theorem first_unique {kk : KK} {k : Value} {es : List (Value × Value)} {i j : Nat} {p q : Value × Value} (h1 : es[i]? = some p) (h2 : keyEq kk k p.1 = some true) (h3 : ∀ x ∈ es.take i, keyEq kk k x.1 = some false)
    (g1 : es[j]? = some q) (g2 : keyEq kk k q.1 = some true) (g3 : ∀ x ∈ es.take j, keyEq kk k x.1 = some false) : i = j := by
  rcases Nat.lt_trichotomy i j with h | h | h
  · have := g3 p (List.mem_of_getElem? (by rw [List.getElem?_take_of_lt h]; exact h1))
    rw [h2] at this; cases this
  · exact h
  · have := h3 q (List.mem_of_getElem? (by rw [List.getElem?_take_of_lt h]; exact g1))
    rw [g2] at this; cases this
theorem Mut.hcongr {h h' : AH} (hg : ∀ b, h'.get b = h.get b) {c : Nat} : Mut ρ h' c ↔ Mut ρ h c := by
  unfold Mut
  simp only [hg]
theorem SR.hcongr (s : SR P B nt E D ρ lm g m a w) {h' : AH} (hn : h'.n = m.h.n) (hg : ∀ b, h'.get b = m.h.get b) : SR P B nt E D ρ lm g { m with h := h' } a w where
  base := s.base
  heap := ⟨by simp [hn, s.heap.len], fun b o h => s.heap.live b o (by rw [← hg b]; exact h), s.heap.glob, fun b b' o o' c δ N c' δ' N' h h' => s.heap.inj b b' o o' c δ N c' δ' N' (by rw [← hg b]; exact h) (by rw [← hg b']; exact h')⟩
  tr := ⟨s.tr.ext, s.tr.size, s.tr.os, s.tr.tape, s.tr.output, s.tr.drawn, s.tr.keep, fun c hc hm => s.tr.img c hc ((Mut.hcongr hg).1 hm)⟩
  val := s.val
  lcs := fun nm => by
    have hl := s.lcs nm
    revert hl
    show (match lget m.lc nm with | none => _ | some o => _) → (match lget m.lc nm with | none => _ | some o => _)
    cases lget m.lc nm with
    | none => exact id
    | some o1 => rintro ⟨c1, x1, k1, k2, k3, k⟩; exact ⟨c1, x1, k1, k2, fun hm => k3 ((Mut.hcongr hg).1 hm), k⟩
  linj := s.linj
  dfs := s.dfs
  marks := fun r hr => by
    obtain ⟨k1, k2, k3, k4⟩ := s.marks r hr
    exact ⟨k1, k2, fun hm => k3 ((Mut.hcongr hg).1 hm), k4⟩
  dnd := s.dnd
  room := s.room
theorem e_mapent (s : SR P B nt E D ρ lm (fget fr) m a w) {o : Oper} {t : TypeId} {x k : Operand} (ho : o.op = .mapEntry t x k) {kk : KK} {e : TypeId} (hm : mapOf P t = some (kk, e)) {z : Value} (hz : zvOf P e = some z) {x' k' : Opd} (hx : liftOpd P x = some x') (hk : liftOpd P k = some k')
    {call : CallF} {yld : YieldF} {v : Value} {m' : Mem} (hv : (EOp.mapent kk z x' k').ev call yld fr m = some (v, m')) : EOk P B nt E D (fget fr) m' a v ((execOp a.eval o).run P w) := by
  have h1 := opdRel_act s x x' hx
  have h2 := opdRel_act s k k' hk
  obtain ⟨kt, hu, hkt⟩ := mapOf_spec hm
  obtain ⟨hzr, hzf⟩ := run_zv (w := w) hz
  simp only [EOp.ev] at hv
  split at hv
  · rename_i b e0
    rw [e0] at h1
    split at hv
    · rename_i es he
      split at hv
      · rename_i hself
        obtain ⟨c, δ, N, e2, hc⟩ := h1.msome
        obtain ⟨ms, cl, hh, hr, hcl, hbn⟩ := s.mapAt he hc
        have hkv := keyEq_self hkt hself
        have hui := hkv.rel h2
        have hck := run_checkKey (w := w) hkt hkv false
        have he' : execOp a.eval o = (do pure (Next.value (← Instr.mapEntry t (a.eval x) (a.eval k))) : Sem Next) := by simp only [execOp, ho]
        have hp : VRelF ρ lm (.pointer (some ⟨b, 0, none⟩)) (.pointer (some ⟨c, δ + 0, none⟩)) := .inl (.ptr b 0 c δ N hc)
        have hgo : m.obj ⟨b, 0, none⟩ = some (.map es) := he
        have hset : ∀ y, (setObj c y).run P w = .ok () (setBlk w c y) := fun y => by simp [setObj, Sem.run, hh, setBlk]
        have hlen := hr.length_eq
        split at hv
        · rename_i j hj
          obtain ⟨r, g1, g2, g3, g4⟩ := keyIx_found hj
          obtain ⟨r', f1, f2⟩ := run_findKey (w := w) hkt hkv hr g1
          split at hv
          · rename_i p hp2
            rw [hp2] at g4
            obtain ⟨rfl, g5⟩ := g4
            injection hv with hv
            injection hv with q1 q2
            subst q1 q2
            obtain ⟨j2, p2, en, y1, y2, y3, y4, rfl, y6⟩ := f2
            have hjj := first_unique hp2 g5 g3 y1 y4 y6
            subst hjj
            have y2' : ms[j]? = some en := by simpa using y2
            obtain ⟨en2, z1, z2⟩ := All2.get hr j p hp2
            rw [y2] at z1
            injection z1 with z1
            subst z1
            have hek : en.key = opd fr k' := by rw [← z2.1]; exact (keyEq_same hkv g5).symm
            have hstay : (Instr.keyThatStays (opd fr k') (opd fr k')).run P w = .ok (opd fr k') w := by simp [Instr.keyThatStays, hkv.bits]
            have hborn := hbn j en y2'
            have hpk : p.1 = opd fr k' := (keyEq_same hkv g5).symm
            have hset2 : es.set j (p.1, p.2) = es := by
              apply List.ext_getElem?
              intro i
              rw [List.getElem?_set]
              split
              · rename_i hij
                subst hij
                split
                · exact hp2.symm
                · rename_i hlt; rw [List.getElem?_eq_none (by omega)]
              · rfl
            have hs := s.putObj (o' := .map es) hp hgo rfl rfl (δ := 0) (N := 0) (x := .map ms cl) (x' := .map (ms.modify j fun e => { e with key := opd fr k' }) cl) hh ⟨hr, hcl, hbn⟩ (fun _ _ _ _ => by
              have hA := All2.modify (f := fun e => { e with key := opd fr k' }) hr y2' (p := (p.1, p.2)) ⟨hpk, by rw [hpk]; exact hkv.flat, z2.2.2⟩
              rw [hset2] at hA
              exact ⟨hA, by simp [hcl], born_modify hbn (fun _ => rfl)⟩) (w' := setBlk w c (.map (ms.modify j fun e => { e with key := opd fr k' }) cl)) rfl (so_setBlk _ _ _)
            have hmm : m.putObj ⟨b, 0, none⟩ (.map es) = { m with h := m.h.set b (.map es) } := rfl
            have hs2 : SR P B nt E D ρ lm (fget fr) m a (setBlk w c (.map (ms.modify j fun e => { e with key := opd fr k' }) cl)) := by
              have hget : ∀ b', (m.h.set b (.map es)).get b' = m.h.get b' := fun b' => by
                by_cases hbb : b' = b
                · subst hbb; rw [AH.get_set_same _ (AH.get_lt he), he]
                · exact AH.get_set_ne _ hbb
              exact hs.hcongr (h' := m.h) rfl (fun b' => (hget b').symm)
            refine EOk.val he' (u := .tuple #[en.val, goInt en.born]) ?_ hs2 (.inl (.tuple _ _ rfl fun n y y' hy hy' => ?_))
            · rw [e2, hui]
              simp only [Nat.zero_add] at f1
              simp [Instr.mapEntry, run_und hu, run_getObjM hh, hck, f1, y2', hek, hstay, hset]
            · match n with
              | 0 => simp at hy hy'; subst hy hy'; exact z2.2.2
              | 1 => simp [goInt] at hy hy'; subst hy hy'; rw [hborn]; exact .int _ _
              | n + 2 => simp at hy
          · rename_i hp2
            rw [hp2] at g4
            subst g4
            injection hv with hv
            injection hv with q1 q2
            subst q1 q2
            obtain ⟨rfl, y6⟩ := f2
            have hs := s.putObj (o' := .map (es ++ [(opd fr k', z)])) hp hgo rfl rfl (δ := 0) (N := 0) (x := .map ms cl) (x' := .map (ms.push { key := opd fr k', val := z, born := cl }) (cl + 1)) hh ⟨hr, hcl, hbn⟩ (fun _ _ _ _ => by
              refine ⟨?_, by simp [hcl], fun i e hi => ?_⟩
              · rw [Array.toList_push]
                exact All2.append hr (.cons ⟨rfl, hkv.flat, .flatV hzf⟩ .nil)
              · rw [Array.getElem?_push] at hi
                split at hi
                · rename_i hi2; injection hi with hi; subst hi; rw [hi2]; exact hcl
                · exact hbn i e hi) (w' := setBlk w c (.map (ms.push { key := opd fr k', val := z, born := cl }) (cl + 1))) rfl (so_setBlk _ _ _)
            refine EOk.val he' (u := .tuple #[z, goInt cl]) ?_ hs (.inl (.tuple _ _ rfl fun n y y' hy hy' => ?_))
            · rw [e2, hui]
              simp [Instr.mapEntry, run_und hu, run_getObjM hh, hck, f1, hzr, hset]
            · match n with
              | 0 => simp at hy hy'; subst hy hy'; exact .flatV hzf
              | 1 =>
                simp [goInt] at hy hy'; subst hy hy'
                rw [hcl, hlen]
                simp only [Array.length_toList]
                exact .int _ _
              | n + 2 => simp at hy
        · cases hv
      · cases hv
    · cases hv
  · cases hv
theorem find_born {ms : Array MapEntry} (h : ∀ (i : Nat) (e : MapEntry), ms[i]? = some e → e.born = i) {j : Nat} (hj : j < ms.size) : ms.findIdx? (fun e => (e.born : Int) == (j : Int)) = some j := by
  rw [Array.findIdx?_eq_some_iff_getElem]
  refine ⟨hj, ?_, fun i hi => ?_⟩
  · have := h j ms[j] (by simp [hj])
    simp [this]
  · have := h i (ms[i]'(by omega)) (by simp)
    simp [this]; omega
theorem e_mapst (s : SR P B nt E D ρ lm (fget fr) m a w) {o : Oper} {t : TypeId} {x i y : Operand} (ho : o.op = .entryStore t x i y) {x' i' y' : Opd} (hx : liftOpd P x = some x') (hi : liftOpd P i = some i') (hy : liftOpd P y = some y')
    {call : CallF} {yld : YieldF} {v : Value} {m' : Mem} (hv : (EOp.mapst x' i' y').ev call yld fr m = some (v, m')) : EOk P B nt E D (fget fr) m' a v ((execOp a.eval o).run P w) := by
  have h1 := opdRel_act s x x' hx
  have h2 := opdRel_act s i i' hi
  have h3 := opdRel_act s y y' hy
  simp only [EOp.ev] at hv
  split at hv
  · rename_i b j e0 e1
    simp only [e0] at h1
    simp only [e1] at h2
    split at hv
    · rename_i es he
      split at hv
      · rename_i p hp2
        split at hv
        · rename_i hok
          injection hv with hv
          injection hv with q1 q2
          subst q1 q2
          obtain ⟨c, δ, N, e2, hc⟩ := h1.msome
          obtain ⟨ms, cl, hh, hr, hcl, hbn⟩ := s.mapAt he hc
          have hval : VRel ρ (opd fr y') (a.eval y) := h3.ok hok.2
          obtain ⟨en, z1, z2⟩ := All2.get hr j.toNat p hp2
          have z1' : ms[j.toNat]? = some en := by simpa using z1
          have hjl : j.toNat < ms.size := (Array.getElem?_eq_some_iff.1 z1').1
          have hfb := find_born hbn hjl
          have hjj : ((j.toNat : Nat) : Int) = j := Int.toNat_of_nonneg hok.1
          rw [hjj] at hfb
          have hp : VRelF ρ lm (.pointer (some ⟨b, 0, none⟩)) (.pointer (some ⟨c, δ + 0, none⟩)) := .inl (.ptr b 0 c δ N hc)
          have hgo : m.obj ⟨b, 0, none⟩ = some (.map es) := he
          have he' : execOp a.eval o = (do Instr.entryStore t (a.eval x) (a.eval i) (a.eval y); pure Next.skip : Sem Next) := by simp only [execOp, ho]
          have hset : ∀ y, (setObj c y).run P w = .ok () (setBlk w c y) := fun y => by simp [setObj, Sem.run, hh, setBlk]
          have hs := s.putObj (o' := .map (es.set j.toNat (p.1, opd fr y'))) hp hgo rfl rfl (δ := 0) (N := 0) (x := .map ms cl) (x' := .map (ms.modify j.toNat fun e => { e with val := a.eval y }) cl) hh ⟨hr, hcl, hbn⟩ (fun _ _ _ _ =>
            ⟨All2.modify hr z1' ⟨z2.1, z2.2.1, hval⟩, by simp [hcl], born_modify hbn (fun _ => rfl)⟩) (w' := setBlk w c (.map (ms.modify j.toNat fun e => { e with val := a.eval y }) cl)) rfl (so_setBlk _ _ _)
          refine ⟨.skip, undef, _, ρ, lm, ?_, .inr ⟨rfl, rfl⟩, hs, .inl (.undef _)⟩
          rw [he', e2, h2.int]
          have hasI : (asInt (.int .i64 j)).run P w = .ok j w := rfl
          simp [Instr.entryStore, run_getObjM hh, hasI, hfb, hset]
        · cases hv
      · cases hv
    · cases hv
  · cases hv
theorem e_lit0 (s : SR P B nt E D ρ lm (fget fr) m a w) {o : Oper} {t e : TypeId} (ho : o.op = .buildSlice t 0 #[]) (hu : P.underlying t = some (.slice e)) {n : Nat} (hs : szOf P e = some n) {call : CallF} {yld : YieldF} {v : Value} {m' : Mem}
    (hv : (EOp.litH 0 n [] []).ev call yld fr m = some (v, m')) : EOk P B nt E D (fget fr) m' a v ((execOp a.eval o).run P w) := by
  simp only [EOp.ev, litCells, List.replicate_zero, List.flatten_nil, evParts, List.map_nil, fillA] at hv
  injection hv with hv
  injection hv with e1 e2
  subst e1 e2
  have hrun : (Instr.buildSlice t 0 #[]).run P w = .ok (.slice (some ⟨w.heap.size, 0, none⟩) 0 0) (w.alloc (.cells #[] e)) := by
    have hsz := run_szOf hs w
    have h0 : Array.range 0 = #[] := by decide
    simp [Instr.buildSlice, run_und hu, hsz, Instr.fill, newRow, h0]
  have he : execOp a.eval o = (do pure (Next.value (← Instr.buildSlice t 0 #[])) : Sem Next) := by
    simp only [execOp, ho, List.map_toArray, List.map_nil]
  obtain ⟨hs2, hg⟩ := s.newH (xs := []) (us := []) (rest := []) .nil rfl (cs := #[]) (t := e) (fz := (0, 0)) rfl (unfrozen0 _) (w' := w.alloc (.cells #[] e)) rfl (so_alloc _ _)
  have := VRel.sl (ρ := ρ ++ [(w.heap.size, 0, 0)]) m.h.n 0 w.heap.size 0 0 0 n 0 hg (Nat.le_refl _) (by omega)
  exact .val he hrun hs2 (.inl this)
theorem run_callFunc {f : FuncId} (hf : FnOk P f) (args : Array Value) (w : World) : (callFunc f args).run P w = .ok (.enter f args) w := by
  obtain ⟨fn, h1, h2, h3⟩ := hf
  obtain ⟨b, hb⟩ := Option.isSome_iff_exists.1 h3
  have h2' : ¬ fn.name = "runtime.NumGoroutine" := by simpa using h2
  simp [callFunc, h1, h2', hb]
theorem sim_e (s : SR P B nt E D ρ lm (fget fr) m a w) {o : Oper} {lo : List Nat} {eo : EOp} (hl : liftOp P lo o = some (.e eo)) (hnc : (∀ f xs, eo ≠ .call f xs) ∧ ∀ x xs, eo ≠ .callv x xs) {call : CallF} {yld : YieldF} {v : Value} {m' : Mem} (hv : eo.ev call yld fr m = some (v, m')) :
    EOk P B nt E D (fget fr) m' a v ((execOp a.eval o).run P w) := by
  cases hop : o.op
  case alloc t =>
    simp only [liftOp, hop] at hl
    split at hl
    · rename_i z d hz hd
      split at hl
      · injection hl with hl; injection hl with hl; subst hl
        exact e_new (loH := true) s hop hz hv
      · injection hl with hl; injection hl with hl; subst hl
        exact e_new (loH := false) (d := d) s hop hz hv
    · cases hl
  case box t x =>
    simp only [liftOp, hop] at hl
    split at hl
    · rename_i n x' d hn hx hd
      split at hl
      · injection hl with hl; injection hl with hl; subst hl
        exact e_box (loH := true) s hop hx hv
      · injection hl with hl; injection hl with hl; subst hl
        exact e_box (loH := false) (d := d) s hop hx hv
    · cases hl
  case buildSlice t len parts =>
    simp only [liftOp, hop] at hl
    split at hl
    · rename_i e d hu hd
      split at hl
      · rename_i n z hn hz
        split at hl
        · rename_i hb
          obtain ⟨l, hll, hl2⟩ := Option.map_eq_some_iff.1 hl
          split at hl2
          · injection hl2 with hl2; subst hl2
            exact e_lit (loH := true) s hop hu hn hz hb hll hv
          · injection hl2 with hl2; subst hl2
            exact e_lit (loH := false) (d := d) s hop hu hn hz hb hll hv
        · split at hl
          · rename_i hb0
            injection hl with hl; injection hl with hl; subst hl
            obtain ⟨rfl, rfl, _⟩ := hb0
            exact e_lit0 s hop hu hn hv
          · cases hl
      · cases hl
    · cases hl
  case store t x y =>
    simp only [liftOp, hop] at hl
    split at hl
    · rename_i n x' y' hn hx hy
      split at hl
      · injection hl with hl; injection hl with hl; subst hl
        exact e_store s hop hx hy hn hv
      · cases hl
    · cases hl
  case convert src dst x =>
    simp only [liftOp, hop] at hl
    split at hl
    · injection hl with hl; injection hl
    · injection hl with hl; injection hl
    · injection hl with hl; injection hl
    · rename_i e x' hs hd hx
      split at hl
      · rename_i he _
        injection hl with hl; injection hl with hl; subst hl
        exact e_s2b s hop hx hs hd he hv
      · rename_i he _
        injection hl with hl; injection hl with hl; subst hl
        exact e_s2r s hop hx hs hd he hv
      · cases hl
    · split at hl <;> first | (injection hl with hl; injection hl; done) | cases hl
    · cases hl
  case range t x =>
    simp only [liftOp, hop] at hl
    split at hl
    · rename_i x' d hu hx hd
      split at hl
      · injection hl with hl; injection hl with hl; subst hl
        exact e_rng s hop hx hu hv
      · cases hl
    · cases hl
  case next x b =>
    cases b
    · simp only [liftOp, hop] at hl; cases hl
    · simp only [liftOp, hop] at hl
      obtain ⟨x', hx, h⟩ := Option.map_eq_some_iff.1 hl
      injection h with h; subst h
      exact e_nxt s hop hx hv
  case makeSlice t l c =>
    simp only [liftOp, hop] at hl
    split at hl
    · rename_i e hu
      split at hl
      · rename_i i z l' c' hi hz hl' hc'
        injection hl with hl; injection hl with hl; subst hl
        obtain ⟨r, w', ρ', h1, h2, h3⟩ := e_mks s hu hi hz hl' hc' hv
        exact .val (s := Instr.makeSlice t (a.eval l) (a.eval c)) (by simp only [execOp, hop]) h1 h2 h3
      · cases hl
    · cases hl
  case makeMap t r =>
    simp only [liftOp, hop] at hl
    split at hl
    · rename_i hu
      injection hl with hl; injection hl with hl; subst hl
      exact e_mkmap s hop hu (.inl rfl) hv
    · rename_i hu
      injection hl with hl; injection hl with hl; subst hl
      exact e_mkmap s hop hu (.inr ⟨_, _, rfl⟩) hv
    · cases hl
  case mapEntry t x k =>
    simp only [liftOp, hop] at hl
    split at hl
    · rename_i kk e x' k' hm hx hk
      split at hl
      · rename_i z hz
        injection hl with hl; injection hl with hl; subst hl
        exact e_mapent s hop hm hz hx hk hv
      · cases hl
    · cases hl
  case entryStore t x i y =>
    simp only [liftOp, hop] at hl
    split at hl
    · rename_i x' i' y' hx hi hy
      split at hl
      · injection hl with hl; injection hl with hl; subst hl
        exact e_mapst s hop hx hi hy hv
      · cases hl
    · cases hl
  case mapUpdate t x k y =>
    simp only [liftOp, hop] at hl
    split at hl
    · rename_i kk e x' k' y' hm hx hk hy
      split at hl
      · rename_i hdn
        injection hl with hl; injection hl with hl; subst hl
        exact e_mapup s hop hdn hm hx hk hy hv
      · cases hl
    · cases hl
  case call c =>
    simp only [liftOp, hop] at hl
    unfold liftCall at hl
    split at hl
    · (repeat' split at hl) <;> first | (injection hl with hl; injection hl with hl; exact absurd hl.symm (hnc.1 _ _)) | (injection hl with hl; injection hl; done) | cases hl
    · split at hl
      · injection hl with hl; injection hl with hl; exact absurd hl.symm (hnc.2 _ _)
      · cases hl
    · cases hl
    · rename_i b hb
      obtain ⟨consts, hrun⟩ := run_builtin (P := P) (w := w) (ev := a.eval) hop hb
      rw [hrun]
      split at hl
      · split at hl <;> first | (injection hl with hl; injection hl; done) | cases hl
      · injection hl with hl; injection hl
      · injection hl with hl; injection hl
      · rename_i x y t u hx ht
        have hat : c.argTypes = #[t, u] := by rw [← Array.toList_inj]; simpa using ht
        obtain ⟨x0, y0, ha, hx0, hy0⟩ := liftOpds_two hx
        rw [hat, ha]
        split at hl
        · rename_i e d hte hud
          have hcase : ∃ i, P.info? e = some i ∧ (i.zero.map fun z => z.cells.size) = some i.size ∧ (d = .string ∨ ∃ e, d = .slice e) ∧ eo = .append i.size i.bytes x y := by
            split at hl
            · rename_i i e' hi
              split at hl
              · rename_i hz; injection hl with hl; injection hl with hl; exact ⟨i, hi, hz, .inr ⟨_, rfl⟩, hl.symm⟩
              · cases hl
            · rename_i i hi
              split at hl
              · rename_i hz; injection hl with hl; injection hl with hl; exact ⟨i, hi, hz, .inl rfl, hl.symm⟩
              · cases hl
            · cases hl
          obtain ⟨i, hi, hz, hd, rfl⟩ := hcase
          obtain ⟨r, w', ρ', h1, h2, h3⟩ := e_append s hte hud hd hi hz hx0 hy0 o.type hv
          exact ⟨.value r, r, w', ρ', lm, by simp [builtin, h1], .inl rfl, h2, h3⟩
        · cases hl
      · rename_i x y t ts hx ht
        obtain ⟨x0, y0, ha, hx0, hy0⟩ := liftOpds_two hx
        rw [ha]
        split at hl
        · rename_i e hte
          obtain ⟨n, hn, h⟩ := Option.map_eq_some_iff.1 hl
          injection h with h; subst h
          have hat : c.argTypes[0]? = some t := by
            have : c.argTypes.toList[0]? = some t := by rw [ht]; rfl
            simpa using this
          obtain ⟨r, w', h1, h2, h3⟩ := e_copy s hte hn hx0 hy0 c.argTypes hat o.type hv
          exact ⟨.value r, r, w', ρ, lm, by simp [builtin, h1], .inl rfl, h2, h3⟩
        · cases hl
      · cases hl
  all_goals simp only [liftOp, hop] at hl
  case move x => obtain ⟨_, _, h⟩ := Option.map_eq_some_iff.1 hl; injection h
  case assign x => obtain ⟨_, _, h⟩ := Option.map_eq_some_iff.1 hl; injection h
  case nilCheck x => obtain ⟨_, _, h⟩ := Option.map_eq_some_iff.1 hl; injection h
  case unOp x => obtain ⟨_, _, h⟩ := Option.map_eq_some_iff.1 hl; injection h
  case extract x => obtain ⟨_, _, h⟩ := Option.map_eq_some_iff.1 hl; injection h
  case build t ps =>
    (repeat' split at hl) <;> first | cases hl | (obtain ⟨_, _, h⟩ := Option.map_eq_some_iff.1 hl; injection h)
  case slice t x l h mx =>
    (repeat' split at hl) <;> first | cases hl | (injection hl with hl; injection hl; done) | (obtain ⟨_, _, h⟩ := Option.map_eq_some_iff.1 hl; injection h)
  case field t x i =>
    (repeat' split at hl) <;> first | cases hl | (obtain ⟨_, _, h⟩ := Option.map_eq_some_iff.1 hl; injection h)
  case indexAddr t x i =>
    (repeat' split at hl) <;> first | cases hl | (obtain ⟨_, _, h⟩ := Option.map_eq_some_iff.1 hl; injection h)
  all_goals first | cases hl | ((repeat' split at hl) <;> first | (injection hl with hl; injection hl; done) | cases hl)
theorem all2_args {xs : List Value} {ys : Array Operand} (h : All2 (VRelF ρ lm) xs (ys.toList.map a.eval)) (hk : xs.all okV = true) : VRels ρ xs (ys.map a.eval).toList := by
  have := h.okVs hk
  simpa using this
theorem sim_op {call : CallF} {yld : YieldF} (hcs : CallSound P B call) (hys : YieldSound P B yld) (s : SR P B nt E D ρ lm (fget fr) m a w) {o : Oper} {lo : List Nat} {op : LOp} (hl : liftOp P lo o = some op) {v : Value} {m' : Mem}
    (hv : LInstr.ev call yld { dst := o.dst, op, guard := none } fr m = some (v, m')) {r : Option Nat} {n : Nat} {next : Act → World → Prop} {Q : Exit → Act → World → Prop}
    (hn : ∀ ρ' lm' u w', SR P B nt E D ρ' lm' (fget fr) m' a w' → VRelF ρ' lm' v u → next (a.put o.dst u) w') : o.wpIn (WF r) n P a w next Q := by
  have hd : ∀ c, o.op ≠ .defer c := fun c hc => by rw [liftOp, hc] at hl; cases hl
  cases op with
  | p po =>
    simp only [LInstr.ev] at hv
    obtain ⟨v', h1, h2⟩ := Option.map_eq_some_iff.1 hv
    injection h2 with h2 h3
    subst h2 h3
    obtain ⟨u, g1, g2⟩ := sim_p (P := P) (w := w) (opdRel_act s) hl h1
    exact wpIn_res hd g1 (.inl rfl) (hn ρ lm u w s g2)
  | r ro =>
    simp only [LInstr.ev] at hv
    obtain ⟨v', h1, h2⟩ := Option.map_eq_some_iff.1 hv
    injection h2 with h2 h3
    subst h2 h3
    obtain ⟨u, g1, g2⟩ := sim_r s hl h1
    exact wpIn_res hd g1 (.inl rfl) (hn ρ lm u w s g2)
  | e eo =>
    simp only [LInstr.ev] at hv
    by_cases hc : (∃ f xs, eo = .call f xs) ∨ ∃ x xs, eo = .callv x xs
    · have hB : B ≤ w.heap.size := Nat.le_trans s.base s.tr.size
      have hop : ∃ c, o.op = .call c := by
        cases hop : o.op
        case call c => exact ⟨c, rfl⟩
        all_goals
          exfalso
          simp only [liftOp, hop] at hl
          rcases hc with ⟨f, xs, rfl⟩ | ⟨f, xs, rfl⟩
          all_goals
            first
              | (cases hl; done)
              | ((repeat' split at hl) <;> first | (cases hl; done) | (obtain ⟨_, _, h⟩ := Option.map_eq_some_iff.1 hl; first | (cases h; done) | (split at h <;> cases h)) | (rename_i heq; cases heq; done))
      obtain ⟨c, hop⟩ := hop
      simp only [liftOp, hop] at hl
      unfold liftCall at hl
      have hrel := opdRel_act s
      split at hl
      · rename_i f hcal
        obtain ⟨xs, hxs, h⟩ : ∃ xs, liftOpds P c.args = some xs ∧ eo = .call f xs := by
          (repeat' split at hl) <;> first | (injection hl with hl; injection hl with hl; exact ⟨_, by assumption, hl.symm⟩) | (injection hl with hl; injection hl; done) | cases hl
        subst h
        simp only [EOp.ev] at hv
        split at hv
        · rename_i hok
          obtain ⟨⟨v1, h1⟩, hcall, h2⟩ := Option.map_eq_some_iff.1 hv
          injection h2 with h2 h3
          subst h2 h3
          obtain ⟨hfn, hcon⟩ := hcs f _ _ _ _ hcall
          have hargs := all2_args (liftOpds_rel hrel _ _ hxs) hok
          have hrun : (execOp a.eval o).run P w = .ok (.enter f (c.args.map a.eval)) w := by
            simp only [execOp, hop, resolve, hcal, Act.eval, Deferred.ofValue, Sem.run_bind, Sem.run_pure, Result.andThen_ok, invoke]
            simp only [Array.empty_append, Array.append_empty]
            exact run_callFunc hfn _ w
          exact wpIn_enter (P := P) (B := B) hd hrun (fun n => hcon ρ w _ n hB s.heap hargs) fun u ρ' w' g1 g2 g3 => hn ρ' lm u w' (s.called g1 g2) (.inl g3)
        · cases hv
      · rename_i x hne hcal
        split at hl
        · rename_i y xs hy hxs
          injection hl with hl; injection hl with hl; subst hl
          simp only [EOp.ev] at hv
          split at hv
          · rename_i hok
            have hargs := all2_args (liftOpds_rel hrel _ _ hxs) hok
            have hx := hrel x y hy
            split at hv
            · rename_i f first captured e
              rw [e] at hx
              have hx2 := hx.vrel (by simp) (by simp)
              obtain ⟨⟨v1, h1⟩, hcall, h2⟩ := Option.map_eq_some_iff.1 hv
              injection h2 with h2 h3
              subst h2 h3
              obtain ⟨hfn, hcon⟩ := hcs f _ _ _ _ hcall
              generalize hax : a.eval x = ax at hx2
              cases hx2 with
              | func _ _ _ fi ca q1 q2 q3 q4 =>
                have hrun : (execOp a.eval o).run P w = .ok (.enter f (fi ++ c.args.map a.eval ++ ca)) w := by
                  simp only [execOp, hop, resolve, hcal, hax, Deferred.ofValue, Sem.run_bind, Sem.run_pure, Result.andThen_ok, invoke]
                  exact run_callFunc hfn _ w
                have r1 : VRels ρ first.toList fi.toList := All2.of_get (by simpa using q1) fun i x y hx hy => q3 i x y (by simpa using hx) (by simpa using hy)
                have r2 : VRels ρ captured.toList ca.toList := All2.of_get (by simpa using q2) fun i x y hx hy => q4 i x y (by simpa using hx) (by simpa using hy)
                have hall : VRels ρ (first.toList ++ opds fr xs ++ captured.toList) (fi ++ c.args.map a.eval ++ ca).toList := by
                  simp only [Array.toList_append]
                  exact All2.append (All2.append r1 hargs) r2
                exact wpIn_enter (P := P) (B := B) hd hrun (fun n => hcon ρ w _ n hB s.heap hall) fun u ρ' w' g1 g2 g3 => hn ρ' lm u w' (s.called g1 g2) (.inl g3)
            · rename_i l first captured e
              rw [e] at hx
              have hx2 := hx.vrel (by simp) (by simp)
              split at hv
              · obtain ⟨⟨v1, h1⟩, hcall, h2⟩ := Option.map_eq_some_iff.1 hv
                injection h2 with h2 h3
                subst h2 h3
                generalize hax : a.eval x = ax at hx2
                cases hx2 with
                | yield _ cc δ N q1 =>
                  obtain ⟨ff, tmps, asx, body, y1, y2⟩ := hys l _ _ _ _ hcall ρ w (c.args.map a.eval) (n - 1) cc δ N hB s.heap hargs q1
                  have hrun : (execOp a.eval o).run P w = .ok (.round cc ff tmps asx body) w := by
                    simp only [execOp, hop, resolve, hcal, hax, Deferred.ofValue, Sem.run_bind, Sem.run_pure, Result.andThen_ok, invoke, Array.empty_append]
                    exact y1
                  exact wpIn_yield (P := P) (B := B) hd hrun y2 fun u ρ' w' g1 g2 g3 => hn ρ' lm u w' (s.called g1 g2) (.inl g3)
              · cases hv
            · cases hv
          · cases hv
        · cases hl
      · cases hl
      · rcases hc with ⟨f, xs, rfl⟩ | ⟨f, xs, rfl⟩
        all_goals
          (repeat' split at hl) <;> first | (cases hl; done) | (obtain ⟨_, _, h⟩ := Option.map_eq_some_iff.1 hl; cases h)
    · have hnc : (∀ f xs, eo ≠ .call f xs) ∧ ∀ x xs, eo ≠ .callv x xs := ⟨fun f xs e => hc (.inl ⟨f, xs, e⟩), fun x xs e => hc (.inr ⟨x, xs, e⟩)⟩
      obtain ⟨x, u, w', ρ', lm', h1, h2, h3, h4⟩ := sim_e s hl hnc hv
      exact wpIn_res hd h1 h2 (hn ρ' lm' u w' h3 h4)
end Go.Proofs.YtblmakgjdenpfaaDoor.AM
namespace Go.Proofs.YtblmakgjdenpfaaDoor.AM
open Go
section
variable {fr fr' : Fr}
def Agree (fr fr' : Fr) (l : List Nat) : Prop := ∀ s ∈ l, fget fr s = fget fr' s
theorem Agree.left {a b : List Nat} (h : Agree fr fr' (a ++ b)) : Agree fr fr' a := fun s hs => h s (List.mem_append_left _ hs)
theorem Agree.right {a b : List Nat} (h : Agree fr fr' (a ++ b)) : Agree fr fr' b := fun s hs => h s (List.mem_append_right _ hs)
theorem opd_congr {x : Opd} (h : Agree fr fr' (opdSlots x)) : opd fr x = opd fr' x := by
  cases x with
  | s n => exact h n (by simp [opdSlots])
  | c v => rfl
theorem opds_congr {xs : List Opd} (h : Agree fr fr' (opdsSlots xs)) : opds fr xs = opds fr' xs := by
  unfold opds
  refine List.map_congr_left fun x hx => opd_congr fun s hs => h s ?_
  exact List.mem_flatMap.2 ⟨x, hx, hs⟩
theorem evParts_congr {ps : List (Nat × Nat × Opd)} (h : Agree fr fr' (partSlots ps)) : evParts fr ps = evParts fr' ps := by
  unfold evParts
  refine List.map_congr_left fun p hp => ?_
  rw [opd_congr fun s hs => h s (List.mem_flatMap.2 ⟨p, hp, hs⟩)]
theorem optInt_congr {o : Option Opd} {d : Int} (h : Agree fr fr' (optSlots o)) : optInt fr o d = optInt fr' o d := by
  cases o with
  | none => rfl
  | some x => simp only [optInt]; rw [opd_congr (x := x) h]
theorem POp.ev_congr {o : POp} (h : Agree fr fr' o.slots) : o.ev fr = o.ev fr' := by
  cases o <;> simp only [POp.slots] at h
  case mv x => simp only [POp.ev, opd_congr h]
  case pick c a b => simp only [POp.ev, opd_congr h.left.left, opd_congr h.left.right, opd_congr h.right]
  case bin op x y => simp only [POp.ev, opd_congr h.left, opd_congr h.right]
  case un op x => simp only [POp.ev, opd_congr h]
  case conv k x => simp only [POp.ev, opd_congr h]
  case i2s x => simp only [POp.ev, opd_congr h]
  case build z ps => simp only [POp.ev, evParts_congr h]
  case nilck x => simp only [POp.ev, opd_congr h]
  case slS x lo hi => simp only [POp.ev, opd_congr h.left.left, optInt_congr h.left.right, optInt_congr h.right]
  case sl e x lo hi mx => simp only [POp.ev, opd_congr h.left.left.left, optInt_congr h.left.left.right, optInt_congr h.left.right, optInt_congr h.right]
  case faddr o x => simp only [POp.ev, opd_congr h]
  case fld o n x => simp only [POp.ev, opd_congr h]
  case iaddr e x i => simp only [POp.ev, opd_congr h.left, opd_congr h.right]
  case iaddrA n e x i => simp only [POp.ev, opd_congr h.left, opd_congr h.right]
  case idxS x i => simp only [POp.ev, opd_congr h.left, opd_congr h.right]
  case idxA n e k x i => simp only [POp.ev, opd_congr h.left, opd_congr h.right]
  case ext i x => simp only [POp.ev, opd_congr h]
  case len x => simp only [POp.ev, opd_congr h]
  case idxB x c => simp only [POp.ev, opd_congr h.left, opd_congr h.right]
  case slen x => simp only [POp.ev, opd_congr h]
  case mm b xs => simp only [POp.ev, opds_congr h]
  case mkfn f a b => simp only [POp.ev, opds_congr h.left, opds_congr h.right]
  case mkif t x => simp only [POp.ev, opd_congr h]
  case eqA n ks x y => simp only [POp.ev, opd_congr h.left, opd_congr h.right]
  case eqk n k x y => simp only [POp.ev, opd_congr h.left, opd_congr h.right]
theorem ROp.ev_congr {o : ROp} {m : Mem} (h : Agree fr fr' o.slots) : o.ev fr m = o.ev fr' m := by
  cases o <;> simp only [ROp.slots] at h
  case load n x => cases n <;> simp only [ROp.ev, opd_congr h]
  case b2s x => simp only [ROp.ev, opd_congr h]
  case r2s x => simp only [ROp.ev, opd_congr h]
  case maplen x => simp only [ROp.ev, opd_congr h]
  case lookup kk z ok x k => simp only [ROp.ev, opd_congr h.left, opd_congr h.right]
theorem EOp.ev_congr {o : EOp} {call : CallF} {yld : YieldF} {m : Mem} (h : Agree fr fr' o.slots) : o.ev call yld fr m = o.ev call yld fr' m := by
  cases o <;> simp only [EOp.slots] at h
  case newL t z => rfl
  case newH z => rfl
  case boxL t n x => simp only [EOp.ev, opd_congr h]
  case boxH n x => simp only [EOp.ev, opd_congr h]
  case litL t n e z ps => simp only [EOp.ev, evParts_congr h]
  case litH n e z ps => simp only [EOp.ev, evParts_congr h]
  case store n a x => simp only [EOp.ev, opd_congr h.left, opd_congr h.right]
  case s2b x => simp only [EOp.ev, opd_congr h]
  case s2r x => simp only [EOp.ev, opd_congr h]
  case rngS t x => simp only [EOp.ev, opd_congr h]
  case nxtS x => simp only [EOp.ev, opd_congr h]
  case call f xs => simp only [EOp.ev, opds_congr h]
  case callv f xs => simp only [EOp.ev, opds_congr h.right, opd_congr h.left]
  case append e b x y => simp only [EOp.ev, opd_congr h.left, opd_congr h.right]
  case copy e x y => simp only [EOp.ev, opd_congr h.left, opd_congr h.right]
  case mks e b z l c => simp only [EOp.ev, opd_congr h.left, opd_congr h.right]
  case mkmap => rfl
  case mapup kk x k v => simp only [EOp.ev, opd_congr h.left.left, opd_congr h.left.right, opd_congr h.right]
  case mapent kk z x k => simp only [EOp.ev, opd_congr h.left, opd_congr h.right]
  case mapst x i v => simp only [EOp.ev, opd_congr h.left.left, opd_congr h.left.right, opd_congr h.right]
theorem LInstr.ev_congr {i : LInstr} {call : CallF} {yld : YieldF} {m : Mem} (h : Agree fr fr' i.slots) : i.ev call yld fr m = i.ev call yld fr' m := by
  obtain ⟨d, op, gd⟩ := i
  unfold LInstr.slots at h
  cases op <;> simp only at h <;> simp only [LInstr.ev]
  · rw [POp.ev_congr h.left]
  · rw [ROp.ev_congr h.left]
  · rw [EOp.ev_congr h.left]
theorem wantedA_congr {i : LInstr} (h : Agree fr fr' i.slots) : wantedA fr i.guard = wantedA fr' i.guard := by
  obtain ⟨d, op, gd⟩ := i
  cases gd with
  | none => rfl
  | some p =>
    obtain ⟨s, b⟩ := p
    have : fget fr s = fget fr' s := h s (List.mem_append_right _ (by simp))
    simp only [wantedA, this]
theorem LInstr.step_congr {i : LInstr} {call : CallF} {yld : YieldF} {m : Mem} (h : Agree fr fr' i.slots) : i.step call yld fr m = i.step call yld fr' m := by
  unfold LInstr.step
  rw [wantedA_congr h, LInstr.ev_congr h]
end
theorem vsame0_eq {a b : Value} (h : vsame0 a b = true) : a = b := by
  unfold vsame0 at h
  split at h
  case h_3 => rw [bytes_beq h]
  all_goals simp_all
theorem vsameL_eq : ∀ {xs ys : List Value}, vsameL xs ys = true → xs = ys
  | [], [], _ => rfl
  | x :: xs, y :: ys, h => by
    simp only [vsameL, Bool.and_eq_true] at h
    rw [vsame0_eq h.1, vsameL_eq h.2]
  | [], _ :: _, h => by simp [vsameL] at h
  | _ :: _, [], h => by simp [vsameL] at h
theorem vsame1_eq {a b : Value} (h : vsame1 a b = true) : a = b := by
  unfold vsame1 at h
  split at h
  · rename_i xs ys
    have := vsameL_eq h
    simp only [Array.toList_inj] at this
    rw [this]
  · rename_i f x y f' x' y'
    simp only [Bool.and_eq_true, decide_eq_true_eq] at h
    have h1 := vsameL_eq h.1.2
    have h2 := vsameL_eq h.2
    simp only [Array.toList_inj] at h1 h2
    rw [h.1.1, h1, h2]
  · exact vsame0_eq h
theorem vsameT_eq : ∀ {xs ys : List Value}, vsameT xs ys = true → xs = ys
  | [], [], _ => rfl
  | x :: xs, y :: ys, h => by
    simp only [vsameT, Bool.and_eq_true] at h
    rw [vsame1_eq h.1, vsameT_eq h.2]
  | [], _ :: _, h => by simp [vsameT] at h
  | _ :: _, [], h => by simp [vsameT] at h
theorem vsame_eq {a b : Value} (h : vsame a b = true) : a = b := by
  unfold vsame at h
  split at h
  · rename_i xs ys
    have := vsameT_eq h
    simp only [Array.toList_inj] at this
    rw [this]
  · exact vsame1_eq h
end Go.Proofs.YtblmakgjdenpfaaDoor.AM
namespace Go.Proofs.YtblmakgjdenpfaaDoor.AM
open Go
variable {P : Program} {B nt : Nat} {E : Ent} {D : List Nat} {ρ : Rho} {lm : Nat → Option Nat} {fr : Fr} {m : Mem} {a : Act} {w : World} {g : Nat → Value}
variable {call : CallF} {yld : YieldF}
theorem liftIs_get {lo : List Nat} {ops : Array Oper} : ∀ {os : List Oper} {ls : List LInstr}, liftIs P nt lo ops os = some ls →
    ls.length = os.length ∧ ∀ (i : Nat) (o : Oper), os[i]? = some o → ∃ l, ls[i]? = some l ∧ liftI P nt lo ops o = some l
  | [], ls, h => by
    simp only [liftIs] at h
    injection h with h
    subst h
    exact ⟨rfl, fun i o h => by simp at h⟩
  | o :: r, ls, h => by
    simp only [liftIs] at h
    split at h
    · rename_i i l hi hl
      injection h with h
      subst h
      obtain ⟨h1, h2⟩ := liftIs_get hl
      refine ⟨by simp [h1], fun k x hx => ?_⟩
      cases k with
      | zero => simp only [List.getElem?_cons_zero, Option.some.injEq] at hx; subst hx; exact ⟨i, rfl, hi⟩
      | succ k => simp only [List.getElem?_cons_succ] at hx ⊢; exact h2 k x hx
    · cases h
theorem liftI_spec {lo : List Nat} {ops : Array Oper} {o : Oper} {l : LInstr} (h : liftI P nt lo ops o = some l) :
    l.dst = o.dst ∧ liftOp P lo o = some l.op ∧ liftGuard ops o.guard = some l.guard ∧ ∀ d, o.dst = some d → d < nt := by
  unfold liftI at h
  split at h
  · rename_i op gd h1 h2
    split at h
    · rename_i h3
      injection h with h
      subst h
      refine ⟨rfl, h1, h2, fun d hd => ?_⟩
      rw [hd] at h3
      simpa using h3
    · cases h
  · cases h
theorem wanted_of {ops : Array Oper} {o : Oper} {gd : Option (Nat × Bool)} (hg : liftGuard ops o.guard = some gd) (hv : ∀ s, VRelF ρ lm (fget fr s) (a.tmps.getD s undef)) {b : Bool}
    (h : wantedA fr gd = some b) : Region.wanted o (yielded ops a.tmps) = b := by
  unfold Region.wanted
  cases hog : o.guard with
  | none =>
    rw [hog] at hg
    simp only [liftGuard] at hg
    injection hg with hg
    subst hg
    simp only [wantedA] at h
    injection h
  | some p =>
    obtain ⟨j, want⟩ := p
    rw [hog] at hg
    simp only [liftGuard] at hg
    split at hg
    · rename_i s hs
      injection hg with hg
      subst hg
      simp only [wantedA] at h
      split at h
      · rename_i t ht
        injection h with h
        have hsv := hv s
        rw [ht] at hsv
        have h2 : a.tmps.getD s undef = .bool t := by
          have h3 := hsv.ok (by simp [okV, isLoc])
          generalize hu : a.tmps.getD s undef = u at h3
          cases h3
          rfl
        have h4 : a.tmps[s]? = some (.bool t) := by
          cases h5 : a.tmps[s]? with
          | none => simp [Array.getD_eq_getD_getElem?, h5, undef] at h2
          | some x => simp [Array.getD_eq_getD_getElem?, h5] at h2; rw [h2]
        simp only [yielded, hs, Option.bind_some, h4, ← h]
        cases t <;> cases want <;> rfl
      · rename_i hc
        injection h with h
        have hsv := hv s
        rw [hc] at hsv
        have h3 := hsv.ok (by simp [okV, isLoc])
        have h2 : a.tmps.getD s undef = .tuple #[] := by
          generalize hu : a.tmps.getD s undef = u at h3
          cases h3
          rfl
        subst h
        simp only [yielded, hs, Option.bind_some]
        cases h5 : a.tmps[s]? with
        | none => rfl
        | some x =>
          have : x = .tuple #[] := by simpa [Array.getD_eq_getD_getElem?, h5] using h2
          subst this
          rfl
      · cases h
    · cases hg
theorem fget_pushD (fr : Fr) (d : Option Nat) (v : Value) (s : Nat) : fget (pushD fr d v) s = updG (fget fr) d v s := by
  cases d with
  | none => simp [pushD, updG]
  | some d =>
    simp only [pushD, updG, Option.some.injEq, fget]
    by_cases h : s = d
    · subst h; simp
    · have h' : ¬ (d = s) := fun e => h e.symm
      simp [h, h']
theorem SR.congr (s : SR P B nt E D ρ lm g m a w) {g' : Nat → Value} (h : ∀ i, g' i = g i) : SR P B nt E D ρ lm g' m a w := s.weaken fun i => by rw [h i]; exact s.val i
theorem step_sound (hcs : CallSound P B call) (hys : YieldSound P B yld) (s : SR P B nt E D ρ lm (fget fr) m a w) {ops : Array Oper} {lo : List Nat} {i : Nat} {o : Oper} (ho : ops[i]? = some o)
    {l : LInstr} (hl : liftI P nt lo ops o = some l) {v : Value} {m' : Mem} (hv : l.step call yld fr m = some (v, m')) {r : Option Nat} {n : Nat} {K : Act → World → Prop} {Q : Exit → Act → World → Prop}
    (hn : ∀ ρ' lm' a' w', SR P B nt E D ρ' lm' (fget (pushD fr l.dst v)) m' a' w' → K a' w') : wpOpIn (WF r) n P ops Q i K a w := by
  obtain ⟨hd, hop, hg, hlt⟩ := liftI_spec hl
  unfold wpOpIn
  rw [ho]
  simp only
  unfold LInstr.step at hv
  split at hv
  · rename_i hw
    rw [wanted_of hg s.val hw]
    simp only [if_true]
    refine sim_op hcs hys s hop (v := v) (m' := m') (by simpa [LInstr.ev] using hv) fun ρ' lm' u w' s' hu => ?_
    exact hn ρ' lm' _ w' ((s'.put (d := o.dst) hlt hu).congr fun i => by rw [fget_pushD, hd])
  · rename_i hw
    rw [wanted_of hg s.val hw]
    injection hv with hv
    injection hv with h1 h2
    subst h1 h2
    simp only [Bool.false_eq_true, if_false]
    refine ⟨fun _ _ => trivial, hn ρ lm _ w ((s.put (d := o.dst) hlt (v := skV) (u := undef) (.inl .skip)).congr fun i => by rw [fget_pushD, hd])⟩
  · cases hv
structure TextRun (call : CallF) (yld : YieldF) (ls : List LInstr) (fr : Fr) (m : Mem) (T : Nat → Fr × Mem) (V : Nat → Value) : Prop where
  zero : T 0 = (fr, m)
  step : ∀ (i : Nat) (l : LInstr), ls[i]? = some l → l.step call yld (T i).1 (T i).2 = some (V i, (T (i + 1)).2) ∧ (T (i + 1)).1 = pushD (T i).1 l.dst (V i)
  tr : ∀ i, i ≤ ls.length → (trace call yld ls fr m)[i]? = some (T i)
theorem textRun : ∀ {ls : List LInstr} {fr : Fr} {m : Mem} {fr' : Fr} {m' : Mem}, runOps call yld ls fr m = some (fr', m') → ∃ T V, TextRun call yld ls fr m T V ∧ T ls.length = (fr', m')
  | [], fr, m, fr', m', h => by
    simp only [runOps] at h
    injection h with h
    refine ⟨fun _ => (fr, m), fun _ => undef, ⟨rfl, fun i l h => by simp at h, fun i hi => ?_⟩, h⟩
    have : i = 0 := by simpa using hi
    subst this
    simp [trace]
  | l :: r, fr, m, fr', m', h => by
    simp only [runOps] at h
    split at h
    · rename_i v m1 hv
      obtain ⟨T, V, ⟨h0, h1, h2⟩, h3⟩ := textRun h
      refine ⟨fun i => match i with | 0 => (fr, m) | i + 1 => T i, fun i => match i with | 0 => v | i + 1 => V i, ⟨rfl, fun i x hx => ?_, fun i hi => ?_⟩, h3⟩
      · cases i with
        | zero =>
          simp only [List.getElem?_cons_zero, Option.some.injEq] at hx
          subst hx
          simp only [h0]
          exact ⟨hv, trivial⟩
        | succ i => simp only [List.getElem?_cons_succ] at hx; exact h1 i x hx
      · cases i with
        | zero => simp [trace]
        | succ i => simp only [trace, hv, List.getElem?_cons_succ]; exact h2 i (by simpa using hi)
    · cases h
theorem wpOps_text (hcs : CallSound P B call) (hys : YieldSound P B yld) {ops : Array Oper} {lo : List Nat} {ls : List LInstr} (hls : liftIs P nt lo ops ops.toList = some ls)
    {T : Nat → Fr × Mem} {V : Nat → Value} (ht : TextRun call yld ls fr m T V) {r : Option Nat} {n : Nat} {Q : Exit → Act → World → Prop}
    (hn : ∀ ρ' lm' a' w', SR P B nt E D ρ' lm' (fget (T ls.length).1) (T ls.length).2 a' w' → Q .normal a' w') :
    ∀ (k j : Nat), k + j = ls.length → ∀ ρ lm a w, SR P B nt E D ρ lm (fget (T k).1) (T k).2 a w → wpOpsIn (WF r) n P ops Q (List.range' k j) a w := by
  obtain ⟨hlen, hget⟩ := liftIs_get hls
  intro k j
  induction j generalizing k with
  | zero =>
    intro hk ρ lm a w s
    simp only [Nat.add_zero] at hk
    subst hk
    exact hn ρ lm a w s
  | succ j ih =>
    intro hk ρ lm a w s
    have hlt : k < ops.size := by simp at hlen; omega
    have ho : ops[k]? = some ops[k] := by simp [hlt]
    obtain ⟨l, h1, h2⟩ := hget k ops[k] (by simp [hlt])
    obtain ⟨h3, h4⟩ := ht.step k l h1
    rw [List.range'_succ, wpOpsIn_cons]
    refine step_sound hcs hys s ho h2 h3 fun ρ' lm' a' w' s' => ?_
    exact ih (k + 1) (by omega) ρ' lm' a' w' (by rw [h4]; exact s')
theorem wpIn_text (hcs : CallSound P B call) (hys : YieldSound P B yld) (s : SR P B nt E D ρ lm (fget fr) m a w) {ops : Array Oper} {lo : List Nat} {ls : List LInstr} (hls : liftIs P nt lo ops ops.toList = some ls)
    {fr' : Fr} {m' : Mem} (hr : runOps call yld ls fr m = some (fr', m')) {r : Option Nat} {n id : Nat} {Q : Exit → Act → World → Prop}
    (hn : ∀ ρ' lm' a' w', SR P B nt E D ρ' lm' (fget fr') m' a' w' → Q .normal a' w') : (Code.region id ops false).wpIn (WF r) n P Q a w := by
  obtain ⟨T, V, ht, hT⟩ := textRun hr
  obtain ⟨hlen, _⟩ := liftIs_get hls
  refine wpIn_region ?_
  rw [List.range_eq_range']
  exact wpOps_text hcs hys hls ht (fun ρ' lm' a' w' s' => hn ρ' lm' a' w' (by rw [hT] at s'; exact s')) 0 ops.size (by simpa using hlen.symm) ρ lm a w (by rw [ht.zero]; exact s)
end Go.Proofs.YtblmakgjdenpfaaDoor.AM
namespace Go.Proofs.YtblmakgjdenpfaaDoor.AM
open Go
variable {P : Program} {B nt : Nat} {E : Ent} {D : List Nat} {ρ : Rho} {lm : Nat → Option Nat} {fr : Fr} {m : Mem} {a : Act} {w : World} {g : Nat → Value}
variable {call : CallF} {yld : YieldF}
def lookFr (fr : Fr) (ls : List LInstr) (V : Nat → Value) (L : Nat → Bool) : Nat → Fr
  | 0 => fr
  | k + 1 => match ls[k]? with
    | some l => if L k = true then pushD (lookFr fr ls V L k) l.dst (V k) else lookFr fr ls V L k
    | none => lookFr fr ls V L k
def upto (j : Nat) : Nat → Bool := fun i => decide (i < j)
theorem lookFr_text {ls : List LInstr} {T : Nat → Fr × Mem} {V : Nat → Value} (ht : TextRun call yld ls fr m T V) (j : Nat) : ∀ k, k ≤ ls.length → k ≤ j → (T k).1 = lookFr fr ls V (upto j) k
  | 0, _, _ => by rw [ht.zero]; rfl
  | k + 1, h, hj => by
    have hl : ls[k]? = some ls[k] := by simp
    rw [(ht.step k _ hl).2, lookFr_text ht j k (by omega) (by omega)]
    simp only [lookFr, hl]
    simp [upto, show k < j by omega]
theorem lookFr_above {ls : List LInstr} {V : Nat → Value} (j : Nat) : ∀ n, j ≤ n → lookFr fr ls V (upto j) n = lookFr fr ls V (upto j) j
  | 0, h => by have : j = 0 := by omega
               subst this; rfl
  | n + 1, h => by
    by_cases e : j = n + 1
    · rw [e]
    · rw [← lookFr_above j n (by omega)]
      simp only [lookFr]
      cases ls[n]? with
      | none => rfl
      | some l => simp [upto, show ¬ n < j by omega]
theorem lookFr_agree {ls : List LInstr} {V : Nat → Value} {L L' : Nat → Bool} {s : Nat} : ∀ n, (∀ (i : Nat) (l : LInstr), i < n → ls[i]? = some l → l.dst = some s → L i = L' i) →
    fget (lookFr fr ls V L n) s = fget (lookFr fr ls V L' n) s
  | 0, _ => rfl
  | n + 1, h => by
    have ih := lookFr_agree (V := V) n fun i l hi => h i l (by omega)
    simp only [lookFr]
    cases hl : ls[n]? with
    | none => exact ih
    | some l =>
      by_cases hd : l.dst = some s
      · rw [h n l (by omega) hl hd]
        cases L' n
        · simpa using ih
        · simp only [if_true, fget_pushD, updG, hd]
      · have key : ∀ (b : Bool) (f : Fr), fget (if b = true then pushD f l.dst (V n) else f) s = fget f s := fun b f => by
          cases b
          · simp
          · simp only [if_true, fget_pushD, updG, hd, if_false]
        show fget (if L n = true then _ else _) s = fget (if L' n = true then _ else _) s
        rw [key, key]
        exact ih
theorem lookFr_take {ls : List LInstr} {V : Nat → Value} {L L' : Nat → Bool} {j : Nat} {l : LInstr} (hj : ls[j]? = some l) (hL : L j = false) (hL' : L' j = true) (hne : ∀ i, i ≠ j → L' i = L i) {s : Nat}
    (hab : ∀ (i : Nat) (x : LInstr), ls[i]? = some x → j < i → x.dst = l.dst → x.dst.isSome → L i = false) : ∀ n, j < n →
    fget (lookFr fr ls V L' n) s = updG (fget (lookFr fr ls V L n)) l.dst (V j) s
  | 0, h => by omega
  | n + 1, h => by
    by_cases e : n = j
    · subst e
      have hlow : fget (lookFr fr ls V L' n) s = fget (lookFr fr ls V L n) s := lookFr_agree n fun i _ hi _ _ => hne i (by omega)
      simp only [lookFr, hj, hL', hL, if_true, fget_pushD, updG, hlow, Bool.false_eq_true, if_false]
    · have ih := lookFr_take (V := V) (s := s) hj hL hL' hne hab n (by omega)
      simp only [lookFr]
      cases hn : ls[n]? with
      | none => exact ih
      | some x =>
        simp only [hne n e]
        cases hLn : L n with
        | false => simpa using ih
        | true =>
          simp only [if_true]
          rw [fget_pushD]
          unfold updG
          by_cases h1 : x.dst = some s
          · have h2 : ¬ (l.dst = some s) := fun h2 => by
              have := hab n x hn (by omega) (by rw [h1, h2]) (by rw [h1]; rfl)
              rw [hLn] at this
              cases this
            simp only [h1, if_true, h2, if_false, fget_pushD, updG]
          · simp only [h1, if_false]
            rw [ih]
            unfold updG
            simp only [fget_pushD, updG, h1, if_false]
theorem LInstr.step_mem {l : LInstr} (hE : l.isE = false) {v : Value} {m' : Mem} (h : l.step call yld fr m = some (v, m')) : m' = m := by
  unfold LInstr.step at h
  split at h
  · obtain ⟨d, op, gd⟩ := l
    unfold LInstr.isE at hE
    cases op <;> simp only at hE
    · simp only [LInstr.ev] at h
      obtain ⟨x, _, h2⟩ := Option.map_eq_some_iff.1 h
      injection h2 with _ h2
      exact h2.symm
    · simp only [LInstr.ev] at h
      obtain ⟨x, _, h2⟩ := Option.map_eq_some_iff.1 h
      injection h2 with _ h2
      exact h2.symm
    · cases hE
  · injection h with h
    injection h with _ h
    exact h.symm
  · cases h
theorem mem_const {ls : List LInstr} {T : Nat → Fr × Mem} {V : Nat → Value} (ht : TextRun call yld ls fr m T V) (x : Nat) : ∀ k, x + k ≤ ls.length →
    (∀ (i : Nat) (l : LInstr), ls[i]? = some l → l.isE = true → x ≤ i → i < x + k → False) → (T (x + k)).2 = (T x).2
  | 0, _, _ => rfl
  | k + 1, h, hn => by
    have hl : ls[x + k]? = some ls[x + k] := by simp
    have hE : ls[x + k].isE = false := by
      cases he : ls[x + k].isE with
      | false => rfl
      | true => exact (hn (x + k) _ hl he (by omega) (by omega)).elim
    have := LInstr.step_mem hE (ht.step _ _ hl).1
    rw [show x + (k + 1) = x + k + 1 by omega, this]
    exact mem_const ht x k (by omega) fun i l h1 h2 h3 h4 => hn i l h1 h2 h3 (by omega)
theorem mem_eq {ls : List LInstr} {T : Nat → Fr × Mem} {V : Nat → Value} (ht : TextRun call yld ls fr m T V) {x y : Nat} (hx : x ≤ ls.length) (hy : y ≤ ls.length)
    (h : ∀ (i : Nat) (l : LInstr), ls[i]? = some l → l.isE = true → (i < x ↔ i < y)) : (T x).2 = (T y).2 := by
  rcases Nat.le_total x y with hxy | hxy
  · have := mem_const ht x (y - x) (by omega) fun i l h1 h2 h3 h4 => by have := h i l h1 h2; omega
    rw [show x + (y - x) = y by omega] at this
    exact this.symm
  · have := mem_const ht y (x - y) (by omega) fun i l h1 h2 h3 h4 => by have := h i l h1 h2; omega
    rw [show y + (x - y) = x by omega] at this
    exact this
def MGood (os : List Oper) (ms : List Nat) : Prop := ∀ j k, (ms.getD j 0).testBit k = true → ∃ o, os[j]? = some o ∧ ∃ e ∈ o.after, Region.binds .any e = true ∧ (k = e.on ∨ (ms.getD e.on 0).testBit k = true)
theorem foldMask (acc : List Nat) (k : Nat) : ∀ (l : List Edge) (s : Nat), (l.foldl (fun s e => if Region.binds .any e then s ||| 2 ^ e.on ||| acc.getD e.on 0 else s) s).testBit k = true →
    s.testBit k = true ∨ ∃ e ∈ l, Region.binds .any e = true ∧ (k = e.on ∨ (acc.getD e.on 0).testBit k = true)
  | [], s, h => .inl h
  | e :: r, s, h => by
    simp only [List.foldl_cons] at h
    rcases foldMask acc k r _ h with h | ⟨e', h1, h2⟩
    · by_cases hb : Region.binds .any e = true
      · simp only [hb, if_true, Nat.testBit_or, Nat.testBit_two_pow, Bool.or_eq_true, decide_eq_true_eq] at h
        rcases h with (h | h) | h
        · exact .inl h
        · exact .inr ⟨e, by simp, hb, .inl h.symm⟩
        · exact .inr ⟨e, by simp, hb, .inr h⟩
      · simp only [hb, Bool.false_eq_true, if_false] at h
        exact .inl h
    · exact .inr ⟨e', by simp [h1], h2⟩
theorem masks_good : ∀ (os don : List Oper) (acc : List Nat), acc.length = don.length → MGood don acc → MGood (don ++ os) (masks acc os)
  | [], don, acc, _, h => by simpa [masks] using h
  | o :: r, don, acc, hlen, h => by
    simp only [masks]
    have := masks_good r (don ++ [o]) (acc ++ [edgeMask acc o]) (by simp [hlen]) ?_
    · simpa using this
    · have lift : ∀ i k, (acc.getD i 0).testBit k = true → ((acc ++ [edgeMask acc o]).getD i 0).testBit k = true := fun i k hk => by
        by_cases hi : i < acc.length
        · simpa [List.getD_eq_getElem?_getD, List.getElem?_append_left hi] using hk
        · simp [List.getD_eq_getElem?_getD, List.getElem?_eq_none (Nat.le_of_not_lt hi)] at hk
      intro j k hk
      by_cases hj : j < acc.length
      · have hk' : (acc.getD j 0).testBit k = true := by simpa [List.getD_eq_getElem?_getD, List.getElem?_append_left hj] using hk
        obtain ⟨o', h1, e, h2, h3, h4⟩ := h j k hk'
        exact ⟨o', by rw [List.getElem?_append_left (by omega)]; exact h1, e, h2, h3, h4.imp_right (lift _ _)⟩
      · by_cases hj2 : j = acc.length
        · subst hj2
          have hk' : (edgeMask acc o).testBit k = true := by simpa using hk
          rcases foldMask acc k _ 0 hk' with h0 | ⟨e, h1, h2, h3⟩
          · simp at h0
          · exact ⟨o, by rw [hlen]; simp, e, Array.mem_toList_iff.1 h1, h2, h3.imp_right (lift _ _)⟩
        · have : (acc ++ [edgeMask acc o])[j]? = none := List.getElem?_eq_none (by simp; omega)
          simp [List.getD_eq_getElem?_getD, this] at hk
theorem masks_spec (os : List Oper) : MGood os (masks [] os) := masks_good os [] [] rfl fun j k h => by simp at h
theorem pairsOk_spec {ms : List Nat} {ls : List LInstr} (h : pairsOk ms ls = true) {i j : Nat} {x y : LInstr} (hij : i < j) (hx : ls[i]? = some x) (hy : ls[j]? = some y)
    (hc : clash x y = true ∨ (x.isE = true ∧ y.isE = true)) : (ms.getD j 0).testBit i = true := by
  unfold pairsOk at h
  have hj : j < ls.length := (List.getElem?_eq_some_iff.1 hy).1
  have h1 := List.all_eq_true.1 h j (List.mem_range.2 hj)
  have h2 := List.all_eq_true.1 h1 i (List.mem_range.2 hij)
  simp only [hx, hy, Bool.or_eq_true, Bool.not_eq_true', Bool.or_eq_false_iff] at h2
  rcases h2 with h2 | h2
  · rcases hc with hc | ⟨hc, hc'⟩
    · rw [h2.1] at hc; cases hc
    · simp [hc, hc'] at h2
  · exact h2
theorem backEdges_spec : ∀ {os : List Oper} {k : Nat}, backEdges k os = true → ∀ (i : Nat) (o : Oper), os[i]? = some o → ∀ e ∈ o.after, Region.binds .any e = true → e.on < k + i
  | [], k, _, i, o, h => by simp at h
  | o' :: r, k, hb, i, o, h => by
    simp only [backEdges, Bool.and_eq_true] at hb
    cases i with
    | zero =>
      simp only [List.getElem?_cons_zero, Option.some.injEq] at h
      subst h
      intro e he hbd
      have := Array.all_eq_true_iff_forall_mem.1 hb.1 e he
      simp only [hbd, Bool.not_true, Bool.false_or, decide_eq_true_eq] at this
      omega
    | succ i =>
      simp only [List.getElem?_cons_succ] at h
      intro e he hbd
      have := backEdges_spec hb.2 i o h e he hbd
      omega
theorem effs_mem {ls : List LInstr} {i : Nat} : i ∈ effs ls ↔ ∃ l, ls[i]? = some l ∧ l.isE = true := by
  unfold effs
  rw [List.mem_filter, List.mem_range]
  constructor
  · rintro ⟨h1, h2⟩
    have hl : ls[i]? = some ls[i] := by simp [h1]
    rw [hl] at h2
    exact ⟨_, hl, h2⟩
  · rintro ⟨l, h1, h2⟩
    exact ⟨(List.getElem?_eq_some_iff.1 h1).1, by rw [h1]; exact h2⟩
theorem chkOf_mem {ms : List Nat} {ls : List LInstr} {i K : Nat} {l : LInstr} (hl : ls[i]? = some l) (hR : l.isR = true) (hK : K = 0 ∨ ∃ x, ls[K - 1]? = some x ∧ x.isE = true ∧ 0 < K)
    (h1 : K = 0 ∨ (ms.getD (K - 1) 0).testBit i = false) (h2 : ∀ e ∈ effs ls, e < K ∨ (ms.getD i 0).testBit e = false)
    (h3 : ¬ ∀ e ∈ effs ls, (e < K ↔ e < i)) : (i, K) ∈ chkOf ms ls := by
  unfold chkOf
  refine List.mem_flatMap.2 ⟨i, List.mem_range.2 (List.getElem?_eq_some_iff.1 hl).1, ?_⟩
  simp only [hl, hR, if_true]
  refine List.mem_filterMap.2 ⟨K, ?_, ?_⟩
  · rcases hK with rfl | ⟨x, hx, he, hp⟩
    · simp
    · refine List.mem_cons_of_mem _ (List.mem_map.2 ⟨K - 1, effs_mem.2 ⟨x, hx, he⟩, by omega⟩)
  · rw [if_pos]
    refine ⟨?_, ?_, ?_⟩
    · rcases h1 with h1 | h1
      · exact .inl h1
      · exact .inr (by rw [h1]; rfl)
    · refine List.all_eq_true.2 fun e he => ?_
      rcases h2 e he with h | h
      · simp [h]
      · rw [h]; simp
    · intro hall
      refine h3 fun e he => ?_
      have := List.all_eq_true.1 hall e he
      simpa using this
end Go.Proofs.YtblmakgjdenpfaaDoor.AM
namespace Go.Proofs.YtblmakgjdenpfaaDoor.AM
open Go
variable {P : Program} {B nt : Nat} {E : Ent} {D : List Nat} {ρ : Rho} {lm : Nat → Option Nat} {fr : Fr} {m : Mem} {a : Act} {w : World} {g : Nat → Value}
variable {call : CallF} {yld : YieldF}
theorem getD_eq {xs : Array Bool} {i : Nat} (h : i < xs.size) (d d' : Bool) : xs.getD i d = xs.getD i d' := by
  simp [Array.getD, h]
theorem setD {xs : Array Bool} {i j : Nat} (hi : i < xs.size) : (xs.setIfInBounds i true).getD j false = if j = i then true else xs.getD j false := by
  by_cases h : j = i
  · subst h; simp [Array.getD_eq_getD_getElem?, hi]
  · simp [Array.getD_eq_getD_getElem?, h, Array.getElem?_setIfInBounds_ne (Ne.symm h)]
structure AnyInv (P : Program) (B nt : Nat) (E : Ent) (D : List Nat) (ops : Array Oper) (ls : List LInstr) (fr : Fr) (T : Nat → Fr × Mem) (V : Nat → Value) (listed : Array Bool) (K : Nat)
    (ρ : Rho) (lm : Nat → Option Nat) (a : Act) (w : World) : Prop where
  size : listed.size = ops.size
  closed : ∀ j k, listed.getD j false = true → ((masks [] ops.toList).getD j 0).testBit k = true → listed.getD k false = true
  bound : K ≤ ls.length
  place : K = 0 ∨ ∃ x, ls[K - 1]? = some x ∧ x.isE = true ∧ 0 < K
  effs : ∀ (i : Nat) (l : LInstr), ls[i]? = some l → l.isE = true → (listed.getD i false = true ↔ i < K)
  sr : SR P B nt E D ρ lm (fget (lookFr fr ls V (fun i => listed.getD i false) ls.length)) (T K).2 a w
theorem clash_fst {x y : LInstr} {d : Nat} (h : x.dst = some d) (hs : d ∈ y.slots) : clash x y = true := by
  unfold clash
  simp [h, hs]
theorem clash_dst {x y : LInstr} {d : Nat} (h : x.dst = some d) (hs : y.dst = some d) : clash x y = true := by
  unfold clash
  simp [h, hs]
theorem clash_snd {x y : LInstr} {d : Nat} (h : y.dst = some d) (hs : d ∈ x.slots) : clash x y = true := by
  unfold clash
  simp [h, hs]
theorem any_step (hcs : CallSound P B call) (hys : YieldSound P B yld) {ops : Array Oper} {lo : List Nat} {ls : List LInstr} (hls : liftIs P nt lo ops ops.toList = some ls)
    {T : Nat → Fr × Mem} {V : Nat → Value} (ht : TextRun call yld ls fr m T V) (hp : pairsOk (masks [] ops.toList) ls = true)
    (hchk : (chkOf (masks [] ops.toList) ls).all (chk1 ls (trace call yld ls fr m)) = true)
    {listed : Array Bool} {K : Nat} (I : AnyInv P B nt E D ops ls fr T V listed K ρ lm a w) {j : Nat} (hj : j ∈ Region.ready .any ops listed)
    {r : Option Nat} {n : Nat} {Kont : Act → World → Prop} {Q : Exit → Act → World → Prop}
    (hn : ∀ K' ρ' lm' a' w', AnyInv P B nt E D ops ls fr T V (listed.setIfInBounds j true) K' ρ' lm' a' w' → Kont a' w') : wpOpIn (WF r) n P ops Q j Kont a w := by
  obtain ⟨hlen, hget⟩ := liftIs_get hls
  obtain ⟨hun, o, ho, haf⟩ := mem_ready.1 hj
  have hlt : j < ops.size := (Array.getElem?_eq_some_iff.1 ho).1
  have hltl : j < listed.size := by rw [I.size]; exact hlt
  have hun' : listed.getD j false = false := by rw [getD_eq hltl false true]; exact hun
  have hjl : j < ls.length := by simp at hlen; omega
  obtain ⟨l, hl, hli⟩ := hget j o (by simpa using ho)
  have hcl : ∀ k, ((masks [] ops.toList).getD j 0).testBit k = true → listed.getD k false = true := fun k hk => by
    obtain ⟨o', h1, e, h2, h3, h4⟩ := masks_spec ops.toList j k hk
    have : o' = o := by
      have h5 : ops[j]? = some o' := by simpa using h1
      rw [ho] at h5
      injection h5 with h5
      exact h5.symm
    subst this
    have h6 := haf e h2 h3
    rcases h4 with rfl | h4
    · exact h6
    · exact I.closed _ _ h6 h4
  have ahead : ∀ (i : Nat) (x : LInstr), i < j → ls[i]? = some x → (clash x l = true ∨ (x.isE = true ∧ l.isE = true)) → listed.getD i false = true := fun i x hi hx hc => hcl i (pairsOk_spec hp hi hx hl hc)
  have behind : ∀ (i : Nat) (x : LInstr), j < i → ls[i]? = some x → (clash l x = true ∨ (l.isE = true ∧ x.isE = true)) → listed.getD i false = false := fun i x hi hx hc => by
    cases h : listed.getD i false with
    | false => rfl
    | true =>
      have := I.closed i j h (pairsOk_spec hp hi hl hx hc)
      rw [hun'] at this
      cases this
  have agree : Agree (lookFr fr ls V (fun i => listed.getD i false) ls.length) (T j).1 l.slots := fun s hs => by
    rw [lookFr_text ht j j (by omega) (Nat.le_refl _), ← lookFr_above j ls.length (by omega)]
    refine lookFr_agree _ fun i x hi hx hd => ?_
    rcases Nat.lt_trichotomy i j with h | h | h
    · rw [ahead i x h hx (.inl (clash_fst hd hs))]; simp [upto, h]
    · subst h; rw [hun']; simp [upto]
    · rw [behind i x h hx (.inl (clash_snd hd hs))]; simp [upto]; omega
  obtain ⟨st, _⟩ := ht.step j l hl
  have memE : l.isE = true → (T K).2 = (T j).2 := fun hE => mem_eq ht I.bound (by omega) fun i x hx hxE => by
    have := I.effs i x hx hxE
    rcases Nat.lt_trichotomy i j with h | h | h
    · have := this.1 (ahead i x h hx (.inr ⟨hxE, hE⟩)); exact ⟨fun _ => h, fun _ => this⟩
    · subst h; rw [hun'] at this; simp at this; omega
    · have h2 := behind i x h hx (.inr ⟨hE, hxE⟩)
      rw [h2] at this
      simp at this
      omega
  have stp : l.step call yld (lookFr fr ls V (fun i => listed.getD i false) ls.length) (T K).2 = some (V j, if l.isE = true then (T (j + 1)).2 else (T K).2) := by
    rw [LInstr.step_congr agree]
    by_cases hE : l.isE = true
    · rw [if_pos hE, memE hE]; exact st
    · rw [if_neg hE]
      have hE' : l.isE = false := by simpa using hE
      unfold LInstr.step at st ⊢
      split at st
      · rename_i hw
        unfold LInstr.ev at st ⊢
        cases hop : l.op with
        | p po =>
          rw [hop] at st
          obtain ⟨x, h1, h2⟩ := Option.map_eq_some_iff.1 st
          injection h2 with h2 _
          simp only [h1, Option.map_some, h2]
        | r ro =>
          rw [hop] at st
          simp only at st
          obtain ⟨x, h1, h2⟩ := Option.map_eq_some_iff.1 st
          injection h2 with h2 _
          by_cases h3 : ∀ e ∈ AM.effs ls, (e < K ↔ e < j)
          · have : (T K).2 = (T j).2 := mem_eq ht I.bound (by omega) fun i x hx hxE => h3 i (effs_mem.2 ⟨x, hx, hxE⟩)
            rw [this]
            simp only [h1, Option.map_some, h2]
          · have hR : l.isR = true := by unfold LInstr.isR; rw [hop]
            have hmem := chkOf_mem (ms := masks [] ops.toList) hl hR I.place
              (by
                rcases I.place with h | ⟨x, hx, hxE, hpos⟩
                · exact .inl h
                · refine .inr ?_
                  have hk : listed.getD (K - 1) false = true := (I.effs _ x hx hxE).2 (by omega)
                  cases hb : ((masks [] ops.toList).getD (K - 1) 0).testBit j with
                  | false => rfl
                  | true => have := I.closed _ _ hk hb; rw [hun'] at this; cases this)
              (fun e he => by
                obtain ⟨x, hx, hxE⟩ := effs_mem.1 he
                cases hb : ((masks [] ops.toList).getD j 0).testBit e with
                | false => exact .inr rfl
                | true => exact .inl ((I.effs e x hx hxE).1 (hcl e hb))) h3
            have hc := List.all_eq_true.1 hchk _ hmem
            unfold chk1 at hc
            simp only [hl, ht.tr j (by omega), ht.tr K I.bound, hw, hop, h1] at hc
            split at hc
            · rename_i u v hu hv
              have huv := vsame_eq hc
              injection hu with hu
              simp only [hv, Option.map_some, ← huv, ← hu, h2]
            · cases hc
        | e eo => unfold LInstr.isE at hE; rw [hop] at hE; simp at hE
      · rename_i hw
        injection st with st
        injection st with st _
        rw [st]
      · cases st
  have frm : ∀ s, fget (lookFr fr ls V (fun i => (listed.setIfInBounds j true).getD i false) ls.length) s = fget (pushD (lookFr fr ls V (fun i => listed.getD i false) ls.length) l.dst (V j)) s := fun s => by
    rw [fget_pushD]
    refine lookFr_take hl hun' (by simp only [setD hltl]; simp) (fun i hi => by simp only [setD hltl]; simp [hi]) (fun i x hx hij hd hs => ?_) _ hjl
    obtain ⟨d, hxd⟩ := Option.isSome_iff_exists.1 hs
    exact behind i x hij hx (.inl (clash_dst (hd ▸ hxd) hxd))
  refine step_sound hcs hys I.sr ho hli stp fun ρ' lm' a' w' s' => ?_
  have s2 := s'.congr frm
  have size' : (listed.setIfInBounds j true).size = ops.size := by simp [I.size]
  have closed' : ∀ x k, (listed.setIfInBounds j true).getD x false = true → ((masks [] ops.toList).getD x 0).testBit k = true → (listed.setIfInBounds j true).getD k false = true := fun x k hx hk => by
    rw [setD hltl] at hx ⊢
    have : listed.getD k false = true := by
      by_cases h : x = j
      · subst h; exact hcl k hk
      · simp only [h, if_false] at hx; exact I.closed x k hx hk
    simp [this]
  by_cases hE : l.isE = true
  · rw [if_pos hE] at s2
    refine hn (j + 1) ρ' lm' a' w' ⟨size', closed', by omega, .inr ⟨l, hl, hE, by omega⟩, fun i x hx hxE => ?_, s2⟩
    rw [setD hltl]
    rcases Nat.lt_trichotomy i j with h | h | h
    · have := ahead i x h hx (.inr ⟨hxE, hE⟩)
      simp only [this]
      simp; omega
    · subst h; simp
    · have := behind i x h hx (.inr ⟨hE, hxE⟩)
      rw [this]
      simp only [show ¬ i = j by omega, if_false]
      simp; omega
  · rw [if_neg hE] at s2
    refine hn K ρ' lm' a' w' ⟨size', closed', I.bound, I.place, fun i x hx hxE => ?_, s2⟩
    have hij : ¬ i = j := fun h => by
      subst h
      rw [hl] at hx
      injection hx with hx
      subst hx
      exact hE hxE
    rw [setD hltl]
    simp only [hij, if_false]
    exact I.effs i x hx hxE
def undone (listed : Array Bool) (n : Nat) : Nat := (List.range n).countP fun i => !listed.getD i false
theorem undone_set {listed : Array Bool} {j : Nat} (hj : j < listed.size) (hu : listed.getD j false = false) : ∀ n, undone (listed.setIfInBounds j true) n + (if j < n then 1 else 0) = undone listed n
  | 0 => by simp [undone]
  | n + 1 => by
    have ih := undone_set hj hu n
    unfold undone at ih ⊢
    rw [List.range_succ, List.countP_append, List.countP_append, List.countP_singleton, List.countP_singleton]
    have e1 := setD (j := n) hj
    by_cases h : n = j
    · subst h
      simp only [Nat.lt_irrefl, if_false, Nat.add_zero] at ih
      rw [ih, e1, hu]
      simp
    · have : (if j < n + 1 then 1 else 0) = (if j < n then 1 else 0) := by
        by_cases h2 : j < n
        · rw [if_pos h2, if_pos (by omega)]
        · rw [if_neg h2, if_neg (by omega)]
      rw [this, e1, if_neg h]
      omega
theorem undone_zero {listed : Array Bool} {n : Nat} (h : undone listed n = 0) : ∀ i, i < n → listed.getD i false = true := fun i hi => by
  have := (List.countP_eq_zero.1 h) i (List.mem_range.2 hi)
  simpa using this
theorem done_of_ready {ops : Array Oper} {listed : Array Bool} (hs : listed.size = ops.size) (hb : backEdges 0 ops.toList = true) (hr : Region.ready .any ops listed = []) : ∀ i, i < ops.size → listed.getD i false = true := by
  intro i
  induction i using Nat.strongRecOn with
  | ind i ih =>
    intro hi
    cases h : listed.getD i false with
    | true => rfl
    | false =>
      exfalso
      have : i ∈ Region.ready .any ops listed := mem_ready.2 ⟨by rw [getD_eq (by omega) true false]; exact h, ops[i], by simp [hi], fun e he hbd => by
        have := backEdges_spec hb i ops[i] (by simp [hi]) e he hbd
        exact ih e.on (by omega) (by omega)⟩
      rw [hr] at this
      cases this
theorem any_all (hcs : CallSound P B call) (hys : YieldSound P B yld) {ops : Array Oper} {lo : List Nat} {ls : List LInstr} (hls : liftIs P nt lo ops ops.toList = some ls)
    {T : Nat → Fr × Mem} {V : Nat → Value} (ht : TextRun call yld ls fr m T V) (hp : pairsOk (masks [] ops.toList) ls = true) (hb : backEdges 0 ops.toList = true)
    (hchk : (chkOf (masks [] ops.toList) ls).all (chk1 ls (trace call yld ls fr m)) = true) {r : Option Nat} {n : Nat} {Q : Exit → Act → World → Prop}
    (hn : ∀ ρ' lm' a' w', SR P B nt E D ρ' lm' (fget (T ls.length).1) (T ls.length).2 a' w' → Q .normal a' w') :
    ∀ (fuel : Nat) (listed : Array Bool) (K : Nat) (ρ : Rho) (lm : Nat → Option Nat) (a : Act) (w : World), undone listed ops.size ≤ fuel → AnyInv P B nt E D ops ls fr T V listed K ρ lm a w →
      wpAnyIn (WF r) n P .any ops Q fuel listed a w := by
  obtain ⟨hlen, hget⟩ := liftIs_get hls
  have fin : ∀ (listed : Array Bool) (K : Nat) (ρ : Rho) (lm : Nat → Option Nat) (a : Act) (w : World), AnyInv P B nt E D ops ls fr T V listed K ρ lm a w → (∀ i, i < ops.size → listed.getD i false = true) → Q .normal a w := by
    intro listed K ρ lm a w I hall
    have hall' : ∀ i, i < ls.length → listed.getD i false = true := fun i hi => hall i (by simp at hlen; omega)
    have hm : (T K).2 = (T ls.length).2 := mem_eq ht I.bound (Nat.le_refl _) fun i x hx hxE => by
      have hi := (List.getElem?_eq_some_iff.1 hx).1
      have := (I.effs i x hx hxE).1 (hall' i hi)
      exact ⟨fun _ => hi, fun _ => this⟩
    have s := I.sr
    rw [hm] at s
    refine hn ρ lm a w (s.congr fun i => ?_)
    rw [lookFr_text ht ls.length ls.length (Nat.le_refl _) (Nat.le_refl _)]
    exact lookFr_agree _ fun i x hi hx hd => by simp only [hall' i hi]; simp [upto, hi]
  intro fuel
  induction fuel with
  | zero =>
    intro listed K ρ lm a w hu I
    have hall := undone_zero (Nat.le_zero.1 hu)
    refine ⟨?_, fin listed K ρ lm a w I hall⟩
    refine List.eq_nil_iff_forall_not_mem.2 fun i hi => ?_
    obtain ⟨h1, o, ho, _⟩ := mem_ready.1 hi
    have hlt := (Array.getElem?_eq_some_iff.1 ho).1
    have := hall i hlt
    rw [getD_eq (by rw [I.size]; exact hlt) false true, h1] at this
    cases this
  | succ fuel ih =>
    intro listed K ρ lm a w hu I
    refine ⟨fun hr => fin listed K ρ lm a w I (done_of_ready I.size hb hr), fun j hj => ?_⟩
    refine any_step hcs hys hls ht hp hchk I hj fun K' ρ' lm' a' w' I' => ih _ K' ρ' lm' a' w' ?_ I'
    obtain ⟨h1, o, ho, _⟩ := mem_ready.1 hj
    have hlt := (Array.getElem?_eq_some_iff.1 ho).1
    have hls' : j < listed.size := by rw [I.size]; exact hlt
    have := undone_set hls' (by rw [getD_eq hls' false true]; exact h1) ops.size
    rw [if_pos hlt] at this
    omega
theorem wpIn_anyOrder (hm : P.follows .mixedOrders = true) (hcs : CallSound P B call) (hys : YieldSound P B yld) (s : SR P B nt E D ρ lm (fget fr) m a w) {ops : Array Oper} {lo : List Nat} {ls : List LInstr} (hls : liftIs P nt lo ops ops.toList = some ls)
    (hp : pairsOk (masks [] ops.toList) ls = true) (hb : backEdges 0 ops.toList = true)
    {fr' : Fr} {m' : Mem} (hr : runOps call yld ls fr m = some (fr', m')) (hchk : (chkOf (masks [] ops.toList) ls).all (chk1 ls (trace call yld ls fr m)) = true)
    {r : Option Nat} {n id : Nat} {Q : Exit → Act → World → Prop}
    (hn : ∀ ρ' lm' a' w', SR P B nt E D ρ' lm' (fget fr') m' a' w' → Q .normal a' w') : (Code.region id ops true).wpIn (WF r) n P Q a w := by
  obtain ⟨T, V, ht, hT⟩ := textRun hr
  have fls : ∀ i, (Array.replicate ops.size false).getD i false = false := fun i => by
    simp only [Array.getD_eq_getD_getElem?, Array.getElem?_replicate]
    split <;> rfl
  have hlook0 : ∀ (L : Nat → Bool), (∀ i, L i = false) → ∀ k, lookFr fr ls V L k = fr := fun L hL k => by
    induction k with
    | zero => rfl
    | succ k ih => simp only [lookFr, hL, Bool.false_eq_true, if_false, ih]; split <;> rfl
  have hlook : ∀ k, lookFr fr ls V (fun i => (Array.replicate ops.size false).getD i false) k = fr := hlook0 _ fls
  refine wpIn_region_any hm (any_all hcs hys hls ht hp hb hchk (fun ρ' lm' a' w' s' => hn ρ' lm' a' w' (by rw [hT] at s'; exact s')) ops.size _ 0 ρ lm a _ ?_ ⟨by simp, (fun j k h => by rw [fls] at h; cases h), Nat.zero_le _, .inl rfl, (fun i l _ _ => by rw [fls]; simp), ?_⟩)
  · exact Nat.le_trans (List.countP_le_length) (by simp)
  · rw [hlook, ht.zero]
    exact s.world rfl ⟨rfl, rfl, rfl, by first | exact Nat.le_refl _ | exact Nat.le_add_right _ _⟩
theorem keepFr_get : ∀ {keep : List Nat} {l : Fr}, keepFr fr keep = some l → ∀ s, (s ∈ keep → settle1 s (fget fr s) = some (fget l s)) ∧ (s ∉ keep → fget l s = undef)
  | [], l, h, s => by
    simp only [keepFr] at h
    injection h with h
    subst h
    exact ⟨fun h => by simp at h, fun _ => rfl⟩
  | t :: r, l, h, s => by
    simp only [keepFr] at h
    split at h
    · rename_i v l' hv hl
      injection h with h
      subst h
      obtain ⟨h1, h2⟩ := keepFr_get hl s
      by_cases e : s = t
      · subst e
        exact ⟨fun _ => by simp [fget, hv], fun h => by simp at h⟩
      · exact ⟨fun h => by simp only [fget, e, if_false]; exact h1 (by simpa [e] using h), fun h => by simp only [fget, e, if_false]; exact h2 fun h' => h (by simp [h'])⟩
    · cases h
def nameOf (fr : Fr) (lc : List (Nat × AObj)) (s : Nat) : Option (Nat × AObj) :=
  match fget fr s with
  | .pointer (some a) => match a.spot, lget lc a.block with
    | some _, some o => some (a.block, o)
    | _, _ => none
  | _ => none
theorem keepLc_get (fr : Fr) (lc : List (Nat × AObj)) : ∀ (keep : List Nat) (nm : Nat),
    lget (keepLc fr lc keep) nm = if nm % 2 = 0 ∧ nm / 2 ∈ keep then (nameOf fr lc (nm / 2)).map (·.2) else none
  | [], nm => by simp [keepLc, lget]
  | s :: r, nm => by
    have ih := keepLc_get fr lc r nm
    have hk : keepLc fr lc (s :: r) = match nameOf fr lc s with
        | some p => (2 * s, p.2) :: keepLc fr lc r
        | none => keepLc fr lc r := by
      simp only [keepLc, nameOf]
      cases hv : fget fr s <;> try rfl
      rename_i p
      cases p with
      | none => rfl
      | some a =>
        cases h1 : a.spot <;> cases h2 : lget lc a.block <;> simp only [h1, h2]
    rw [hk]
    by_cases e : nm = 2 * s
    · subst e
      cases hn : nameOf fr lc s with
      | none =>
        simp only [ih]
        simp [hn]
      | some p => simp [lget, hn]
    · have e2 : ¬ (nm % 2 = 0 ∧ nm / 2 = s) := by omega
      have e3 : (nm % 2 = 0 ∧ nm / 2 ∈ s :: r) ↔ (nm % 2 = 0 ∧ nm / 2 ∈ r) := by
        simp only [List.mem_cons]
        constructor
        · rintro ⟨h1, h2 | h2⟩
          · exact (e2 ⟨h1, h2⟩).elim
          · exact ⟨h1, h2⟩
        · exact fun h => ⟨h.1, .inr h.2⟩
      simp only [e3]
      cases hn : nameOf fr lc s with
      | none => exact ih
      | some p => simp only [lget, e, if_false]; exact ih
theorem SR.keep (s : SR P B nt E D ρ lm (fget fr) m a w) {keep : List Nat} {fr' : Fr} (hk : keepFr fr keep = some fr') :
    ∃ lm', SR P B nt E D ρ lm' (fget fr') { m with lc := keepLc fr m.lc keep } a w := by
  have hset : ∀ t, t ∈ keep → ∀ a', fget fr t = .pointer (some a') → a'.spot.isSome = true → (a'.block = 2 * t + 1 ∨ a'.block = 2 * t) ∧ a'.off = 0 ∧ fget fr' t = .pointer (some (loc (2 * t) 0)) := fun t ht a' h1 h2 => by
    have := (keepFr_get hk t).1 ht
    rw [h1] at this
    unfold settle1 at this
    have hloc : isLoc (.pointer (some a')) = true := by
      cases a' with | mk b of sp => cases sp with
        | none => cases h2
        | some x => simp [isLoc]
    rw [if_pos hloc] at this
    simp only at this
    split at this
    · rename_i h3
      injection this with this
      exact ⟨h3.1, h3.2, this.symm⟩
    · cases this
  let lm' : Nat → Option Nat := fun nm => if nm % 2 = 0 ∧ nm / 2 ∈ keep then (nameOf fr m.lc (nm / 2)).bind fun p => lm p.1 else none
  refine ⟨lm', s.base, s.heap, s.tr, fun t => ?_, fun nm => ?_, fun n1 n2 c h1 h2 => ?_, s.dfs, fun r hr => ?_, s.dnd, s.room⟩
  · by_cases ht : t ∈ keep
    · have h1 := (keepFr_get hk t).1 ht
      have hv := s.val t
      unfold settle1 at h1
      split at h1
      · split at h1
        · rename_i hloc v a' hv'
          split at h1
          · rename_i hc
            injection h1 with h1
            rw [hv'] at hv hloc
            rcases hv with hv | ⟨nm, of, c, e1, e2, e3⟩ | ⟨_, _, _, _, e1, _⟩
            · generalize hu : a.tmps.getD t undef = u at hv
              cases hv <;> simp [isLoc, undef] at hloc
            · injection e1 with e1
              injection e1 with e1
              subst e1
              have hnm : nameOf fr m.lc t = (lget m.lc nm).map fun o => (nm, o) := by
                unfold nameOf
                rw [hv']
                simp only [loc]
                cases lget m.lc nm <;> rfl
              have hl := s.lcs nm
              cases hg : lget m.lc nm with
              | none => rw [hg] at hl; simp only at hl; rw [hl] at e2; cases e2
              | some o =>
                refine .inr (.inl ⟨2 * t, 0, c, h1.symm, ?_, ?_⟩)
                · have h9 : (2 * t) % 2 = 0 ∧ (2 * t) / 2 ∈ keep := ⟨by omega, by rw [show 2 * t / 2 = t by omega]; exact ht⟩
                  refine (if_pos h9).trans ?_
                  rw [show 2 * t / 2 = t by omega, hnm, hg]
                  exact e2
                · rw [e3]
                  have : of = 0 := hc.2
                  rw [this]
            · cases e1
          · cases h1
        · cases h1
      · rename_i hloc
        injection h1 with h1
        rw [← h1]
        exact .inl (hv.ok (by simpa [okV] using hloc))
    · rw [(keepFr_get hk t).2 ht]
      exact VRelF.undef _
  · have hgl := keepLc_get fr m.lc keep nm
    by_cases hc : nm % 2 = 0 ∧ nm / 2 ∈ keep
    · rw [if_pos hc] at hgl
      have hlmv : lm' nm = (nameOf fr m.lc (nm / 2)).bind fun p => lm p.1 := if_pos hc
      cases hn : nameOf fr m.lc (nm / 2) with
      | none =>
        rw [hn] at hgl hlmv
        simp only [Option.map_none] at hgl
        simp only [hgl]
        exact hlmv
      | some p =>
        rw [hn] at hgl hlmv
        simp only [Option.map_some] at hgl
        simp only [hgl]
        have hp : lget m.lc p.1 = some p.2 := by
          unfold nameOf at hn
          split at hn
          · split at hn
            · rename_i h1 h2
              injection hn with hn
              rw [← hn]
              exact h2
            · cases hn
          · cases hn
        have hl := s.lcs p.1
        rw [hp] at hl
        obtain ⟨c, x, k1, k2⟩ := hl
        exact ⟨c, x, hlmv.trans k1, k2⟩
    · rw [if_neg hc] at hgl
      simp only [hgl]
      exact if_neg hc
  · have key : ∀ nm, lm' nm = some c → nm % 2 = 0 ∧ ∃ b, lm b = some c ∧ (b = 2 * (nm / 2) + 1 ∨ b = 2 * (nm / 2)) := fun nm hnm => by
      have hnm : (if nm % 2 = 0 ∧ nm / 2 ∈ keep then (nameOf fr m.lc (nm / 2)).bind fun p => lm p.1 else none) = some c := hnm
      split at hnm
      · rename_i hc
        obtain ⟨p, hp, hlm⟩ := Option.bind_eq_some_iff.1 hnm
        refine ⟨hc.1, p.1, hlm, ?_⟩
        unfold nameOf at hp
        split at hp
        · rename_i a' ha'
          split at hp
          · rename_i h1 h2
            injection hp with hp
            rw [← hp]
            exact (hset _ hc.2 a' ha' (by rw [h1]; rfl)).1
          · cases hp
        · cases hp
      · cases hnm
    obtain ⟨g1, b1, g2, g3⟩ := key n1 h1
    obtain ⟨g4, b2, g5, g6⟩ := key n2 h2
    have := s.linj b1 b2 c g2 g5
    omega
  · obtain ⟨k1, k2, k3, k4⟩ := s.marks r hr
    refine ⟨k1, k2, k3, fun nm hnm => ?_⟩
    have hnm : (if nm % 2 = 0 ∧ nm / 2 ∈ keep then (nameOf fr m.lc (nm / 2)).bind fun p => lm p.1 else none) = some r := hnm
    split at hnm
    · obtain ⟨p, hp, hlm⟩ := Option.bind_eq_some_iff.1 hnm
      exact k4 _ hlm
    · cases hnm
end Go.Proofs.YtblmakgjdenpfaaDoor.AM
namespace Go.Proofs.YtblmakgjdenpfaaDoor.AM
open Go
variable {P : Program} {B nt : Nat} {E : Ent} {D : List Nat} {ρ : Rho} {lm : Nat → Option Nat} {fr : Fr} {m : Mem} {a : Act} {w : World} {g : Nat → Value}
variable {call : CallF} {yld : YieldF}
theorem least (I : Nat → Prop) (h : ∃ j, I j) : ∃ j, I j ∧ ∀ k, I k → j ≤ k := by
  obtain ⟨j, hj⟩ := h
  induction j using Nat.strongRecOn with
  | ind j ih =>
    by_cases hk : ∃ k, k < j ∧ I k
    · obtain ⟨k, h1, h2⟩ := hk
      exact ih k h1 h2
    · exact ⟨j, hj, fun k h => Nat.le_of_not_lt fun hlt => hk ⟨k, hlt, h⟩⟩
open Classical in
noncomputable def leastOf (I : Nat → Prop) : Nat := if h : ∃ j, I j then Classical.choose (least I h) else 0
theorem leastOf_spec {I : Nat → Prop} (h : ∃ j, I j) : I (leastOf I) ∧ ∀ k, I k → leastOf I ≤ k := by
  unfold leastOf
  rw [dif_pos h]
  exact Classical.choose_spec (least I h)
theorem wpIn_loop_fuel {F : Fence} {n : Nat} {c : Code} {Q : Exit → Act → World → Prop} (I : Nat → Act → World → Prop) (no0 : ∀ a w, ¬ I 0 a w)
    (round : ∀ j a w, I (j + 1) a w → c.wpIn F n P (Exit.then (I j) Q) a w) {j : Nat} (h : I j a w) : (Code.loop c).wpIn F n P Q a w := by
  refine wpIn_loop (fun a w => ∃ j, I j a w) (fun a w => leastOf fun j => I j a w) ⟨j, h⟩ fun a w hI => ?_
  obtain ⟨h1, h2⟩ := leastOf_spec hI
  generalize leastOf (fun j => I j a w) = l at h1 h2
  cases l with
  | zero => exact (no0 a w h1).elim
  | succ l =>
    refine wpIn_mono (round l a w h1) fun e a' w' he => ?_
    cases e <;> simp only [Exit.then] at he ⊢ <;> try exact he
    exact ⟨⟨l, he⟩, Nat.lt_succ_of_le ((leastOf_spec (I := fun j => I j a' w') ⟨l, he⟩).2 l he)⟩
theorem stepR_scopeA {b : Frame} {k : List Item} {cs : List Frame} {c : Code} : step P (lone (b.atR a (.code (.scope c) :: k)) cs w) = .next (lone (b.atR a (.code c :: .inScope c :: k)) cs w) :=
  step_lone_go (by simp [stepG, stepG.exec, Frame.atR])
theorem stepR_inScopeA {b : Frame} {k : List Item} {cs : List Frame} {c : Code} : step P (lone (b.atR a (.inScope c :: k)) cs w) = .next (lone (b.atR a k) cs w) :=
  step_lone_go (by simp [stepG, stepG.exec, Frame.atR])
theorem wpIn_scopeA {F : Fence} {n : Nat} {Q : Exit → Act → World → Prop} {c : Code} (h : c.wpIn F n P (Exit.noGoto Q) a w) : (Code.scope c).wpIn F n P Q a w := by
  intro b k cs hro hb hr
  have h0 : (lone (b.atR a (.code (.scope c) :: k)) cs w).fenced P F := fenced_calm hb hr rfl
  obtain ⟨e, a₁, w₁, hq, harr⟩ := h b (.inScope c :: k) cs hro hb hr
  cases e with
  | normal => exact ⟨.normal, a₁, w₁, hq, .head h0 stepR_scopeA (StepsIn.trans harr (.one (fenced_calm hb hr rfl) stepR_inScopeA))⟩
  | exit id =>
    have hx : exitTo id (.inScope c :: k) = exitTo id k := by simp [exitTo]
    exact ⟨.exit id, a₁, w₁, hq, fun k' hk => .head h0 stepR_scopeA (harr.1 k' (by rw [hx]; exact hk)),
      fun hr' hk => let ⟨k₁, h1, h2⟩ := harr.2 hr' (by rw [hx]; exact hk); ⟨k₁, h1, .head h0 stepR_scopeA h2⟩⟩
  | goto l => exact hq.elim
  | ret => exact ⟨_, a₁, w₁, hq, .of_steps (.one h0 stepR_scopeA) harr⟩
  | panic ch => exact ⟨_, a₁, w₁, hq, .of_steps (.one h0 stepR_scopeA) harr⟩
  | outgrown => exact ⟨_, a₁, w₁, hq, .of_steps (.one h0 stepR_scopeA) harr⟩
theorem SR.mark (s : SR P B nt E D ρ lm g m a w) {w' : World} (e : w'.heap = w.heap.push (.deferred (some []))) (so : SameOut w w') :
    SR P B nt E (w.heap.size :: D) ρ lm g m { a with defers := { target := .collected w.heap.size, args := #[] } :: a.defers } w' := by
  have hget : ∀ c', c' < w.heap.size → w'.heap[c']? = w.heap[c']? := fun c' hlt => by
    rw [e, Array.getElem?_push]; simp [show ¬ (c' = w.heap.size) by omega]
  have hlive : ∀ b1 o1 c2 δ2 N2, m.h.get b1 = some o1 → ρ[b1]? = some (c2, δ2, N2) → c2 < w.heap.size := fun b1 o1 c2 δ2 N2 h1 h2 => by
    obtain ⟨c3, δ3, N3, x3, f1, f2, _⟩ := s.heap.live b1 o1 h1
    rw [h2] at f1
    injection f1 with f1
    injection f1 with f1 _
    subst f1
    exact (Array.getElem?_eq_some_iff.1 f2).1
  have hlmlt : ∀ nm' c, lm nm' = some c → c < w.heap.size := fun nm' c hc => by
    have hl := s.lcs nm'
    cases hlg : lget m.lc nm' with
    | none => rw [hlg] at hl; simp only at hl; rw [hl] at hc; cases hc
    | some o1 =>
      rw [hlg] at hl
      obtain ⟨c1, x1, k1, _, _, k4, _⟩ := hl
      rw [hc] at k1
      injection k1 with k1
      subst k1
      exact (Array.getElem?_eq_some_iff.1 k4).1
  refine ⟨s.base, ⟨s.heap.len, fun b1 o1 h1 => ?_, s.heap.glob, s.heap.inj⟩,
    ⟨s.tr.ext, Nat.le_trans s.tr.size (by rw [e]; simp), so.os.trans s.tr.os, so.tape.trans s.tr.tape, so.output.trans s.tr.output, Nat.le_trans s.tr.drawn so.drawn, fun c1 hc hm => by rw [hget c1 (Nat.lt_of_lt_of_le hc s.tr.size)]; exact s.tr.keep c1 hc hm, s.tr.img⟩,
    s.val, fun nm' => ?_, s.linj, ?_, fun r hr => ?_, ?_, s.room⟩
  · obtain ⟨c2, δ2, N2, x2, e1, e2, e3, e4⟩ := s.heap.live b1 o1 h1
    exact ⟨c2, δ2, N2, x2, e1, by rw [hget c2 (hlive b1 o1 c2 δ2 N2 h1 e1)]; exact e2, e3, e4⟩
  · have hl := s.lcs nm'
    revert hl
    cases lget m.lc nm' with
    | none => exact id
    | some o1 =>
      rintro ⟨c1, x1, f1, f2, f3, f4, f5, f6⟩
      exact ⟨c1, x1, f1, f2, f3, by rw [hget c1 (Array.getElem?_eq_some_iff.1 f4).1]; exact f4, f5, f6⟩
  · simp [s.dfs]
  · rcases List.mem_cons.1 hr with rfl | hr
    · exact ⟨by rw [e]; simp, s.tr.size, fun ⟨b1, o1, δ1, N1, h1, _, h3⟩ => absurd (hlive b1 o1 _ δ1 N1 h1 h3) (Nat.lt_irrefl _), fun nm hn => absurd (hlmlt nm _ hn) (Nat.lt_irrefl _)⟩
    · obtain ⟨f1, f2, f3, f4⟩ := s.marks r hr
      exact ⟨by rw [hget r (Array.getElem?_eq_some_iff.1 f1).1]; exact f1, f2, f3, f4⟩
  · refine List.nodup_cons.2 ⟨fun hd => ?_, s.dnd⟩
    exact absurd (Array.getElem?_eq_some_iff.1 (s.marks _ hd).1).1 (Nat.lt_irrefl _)
theorem SR.unmark {r : Nat} (s : SR P B nt E (r :: D) ρ lm g m a w) {w' : World} {x : Obj} (e : w'.heap = w.heap.setIfInBounds r x) (so : SameOut w w') :
    SR P B nt E D ρ lm g m { a with defers := D.map fun r => { target := .collected r, args := #[] } } w' := by
  obtain ⟨k1, k2, k3, k4⟩ := s.marks r (by simp)
  have hlt := (Array.getElem?_eq_some_iff.1 k1).1
  have hget : ∀ c, c ≠ r → w'.heap[c]? = w.heap[c]? := fun c hc => by rw [e, getElem?_setIfInBounds_cases _ _ _ _ hlt]; simp [hc]
  have hlive : ∀ b1 o1 c2 δ2 N2, m.h.get b1 = some o1 → ρ[b1]? = some (c2, δ2, N2) → c2 ≠ r := fun b1 o1 c2 δ2 N2 e1 e2 hc => by
    subst hc
    cases hro : o1.ro with
    | false => exact k3 ⟨b1, o1, δ2, N2, e1, hro, e2⟩
    | true =>
      obtain ⟨c3, δ3, N3, x3, f1, _, _, _, f2⟩ := s.heap.live b1 o1 e1
      rw [e2] at f1
      injection f1 with f1
      injection f1 with f3 _
      have := f2 hro
      have := s.base
      omega
  have hnd := List.nodup_cons.1 s.dnd
  refine ⟨s.base, ⟨s.heap.len, fun b1 o1 h1 => ?_, s.heap.glob, s.heap.inj⟩,
    ⟨s.tr.ext, Nat.le_trans s.tr.size (by rw [e]; simp), so.os.trans s.tr.os, so.tape.trans s.tr.tape, so.output.trans s.tr.output, Nat.le_trans s.tr.drawn so.drawn, fun c1 hc hm => by rw [hget c1 (by omega)]; exact s.tr.keep c1 hc hm, s.tr.img⟩,
    s.val, fun nm' => ?_, s.linj, rfl, fun r' hr => ?_, hnd.2, s.room⟩
  · obtain ⟨c2, δ2, N2, x2, e1, e2, e3, e4⟩ := s.heap.live b1 o1 h1
    exact ⟨c2, δ2, N2, x2, e1, by rw [hget c2 (hlive b1 o1 c2 δ2 N2 h1 e1)]; exact e2, e3, e4⟩
  · have hl := s.lcs nm'
    revert hl
    cases lget m.lc nm' with
    | none => exact id
    | some o1 =>
      rintro ⟨c1, x1, f1, f2, f3, f4, f5, f6⟩
      exact ⟨c1, x1, f1, f2, f3, by rw [hget c1 (fun hc => k4 nm' (hc ▸ f1))]; exact f4, f5, f6⟩
  · obtain ⟨f1, f2, f3, f4⟩ := s.marks r' (by simp [hr])
    exact ⟨by rw [hget r' (fun hc => hnd.1 (hc ▸ hr))]; exact f1, f2, f3, f4⟩
theorem okFr_get (fr : Fr) (s : Nat) : fget (okFr fr) s = if okV (fget fr s) = true then fget fr s else undef := by
  induction fr with
  | nil => exact (ite_self _).symm
  | cons p r ih =>
    obtain ⟨k, v⟩ := p
    simp only [okFr, List.map_cons] at ih ⊢
    by_cases hv : okV v = true
    · simp only [hv, if_true, fget]
      by_cases h : s = k
      · simp [h, hv]
      · simp only [h, if_false]; exact ih
    · simp only [hv, Bool.false_eq_true, if_false, fget]
      by_cases h : s = k
      · simp [h, hv]
      · simp only [h, if_false]; exact ih
def exitOf : Ex → Exit
  | .norm => .normal
  | .exit id => .exit id
  | .ret => .ret
def jumpE : Option Jump → Ex
  | none => .norm
  | some .ret => .ret
  | some (.exit id) => .exit id
end Go.Proofs.YtblmakgjdenpfaaDoor.AM
namespace Go.Proofs.YtblmakgjdenpfaaDoor.AM
open Go
variable {P : Program} {B nt : Nat} {E : Ent} {D : List Nat} {ρ : Rho} {lm : Nat → Option Nat} {fr : Fr} {m : Mem} {a : Act} {w : World} {g : Nat → Value}
variable {call : CallF} {yld : YieldF}
def ExecOk (P : Program) (B nt : Nat) (E : Ent) (call : CallF) (yld : YieldF) (r : Option Nat) (f : CodeF) (c : Code) : Prop :=
  ∀ (D : List Nat) (ρ : Rho) (lm : Nat → Option Nat) (fr : Fr) (m : Mem) (a : Act) (w : World) (ex : Ex) (fr' : Fr) (m' : Mem), f fr m = some (ex, fr', m') →
    SR P B nt E D ρ lm (fget fr) m a w → ∀ (n : Nat) (Q : Exit → Act → World → Prop),
      (∀ D' ρ' lm' a' w', SR P B nt E D' ρ' lm' (fget fr') m' a' w' → (r.isSome = true → D' = D) → Q (exitOf ex) a' w') → c.wpIn (WF r) n P Q a w
theorem exec_region (hm : P.follows .mixedOrders = true) (hcs : CallSound P B call) (hys : YieldSound P B yld) {r : Option Nat} {hs : Hints} {id : Nat} {ops : Array Oper} {draw : Bool} {lc : LCode} {k : Nat}
    (hl : liftRegion P nt hs id ops draw = some lc) : ExecOk P B nt E call yld r (execC call yld k lc) (.region id ops draw) := by
  intro D ρ lm fr m a w ex fr' m' hx s n Q hq
  unfold liftRegion at hl
  split at hl
  · rename_i ls keep hls hkeep
    have key : ∀ chk, execC call yld k (.region ls keep chk) fr m = some (ex, fr', m') → ∃ fr1 m1, runOps call yld ls fr m = some (fr1, m1) ∧ chk.all (chk1 ls (trace call yld ls fr m)) = true ∧ ex = .norm ∧
        ∀ D ρ lm a w, SR P B nt E D ρ lm (fget fr1) m1 a w → ∃ lm', SR P B nt E D ρ lm' (fget fr') m' a w := fun chk hx => by
      simp only [execC, runRegion] at hx
      split at hx
      · rename_i fr1 m1 hrun
        split at hx
        · rename_i hchk
          split at hx
          · rename_i fr2 hk
            injection hx with hx
            injection hx with h1 hx
            injection hx with h2 h3
            subst h1 h2 h3
            exact ⟨fr1, m1, hrun, hchk, rfl, fun D ρ lm a w s => s.keep hk⟩
          · cases hx
        · cases hx
      · cases hx
    split at hl
    · rename_i hd
      split at hl
      · rename_i hb
        injection hl with hl
        subst hl
        subst hd
        simp only [Bool.and_eq_true] at hb
        obtain ⟨fr1, m1, hrun, hchk, rfl, hkp⟩ := key _ hx
        refine wpIn_anyOrder hm hcs hys s hls hb.2 hb.1 hrun hchk fun ρ' lm' a' w' s' => ?_
        obtain ⟨lm2, s2⟩ := hkp _ _ _ _ _ s'
        exact hq D ρ' lm2 a' w' s2 fun _ => rfl
      · cases hl
    · rename_i hd
      injection hl with hl
      subst hl
      have hd' : draw = false := by simpa using hd
      subst hd'
      obtain ⟨fr1, m1, hrun, hchk, rfl, hkp⟩ := key _ hx
      refine wpIn_text hcs hys s hls hrun fun ρ' lm' a' w' s' => ?_
      obtain ⟨lm2, s2⟩ := hkp _ _ _ _ _ s'
      exact hq D ρ' lm2 a' w' s2 fun _ => rfl
  · cases hl
theorem exec_range (hcs : CallSound P B call) {f : Operand} {f' : Opd} {ps : Array Tmp} {asx body : Code} {asx' body' : LCode} {hs : Hints} {k : Nat}
    (hf : liftOpd P f = some f') (has : liftC P nt hs asx = some asx') (hbody : liftC P nt hs body = some body') (hps : ∀ s ∈ ps.toList, s < nt) (hn1 : asx'.noR = true) (hn2 : body'.noR = true) :
    ExecOk P B nt E call yld none (execC call yld k (.rangeF f' ps.toList asx' body')) (.rangeFunc f ps asx body) := by
  intro D ρ lm fr m a w ex fr' m' hx s n Q hq
  simp only [execC, runRange] at hx
  split at hx
  · rename_i gf first captured hfv
    split at hx
    · rename_i vr h2 hcall
      split at hx
      · rename_i r2 hget2
        have hout : r2.state ≠ .busy ∧ ex = jumpE r2.pend ∧ fr' = fr ∧ m' = { m with h := h2.kill m.h.n } := by
          split at hx
          · cases hx
          · rename_i hb
            refine ⟨hb, ?_⟩
            split at hx <;> rename_i hp <;> injection hx with hx <;> injection hx with e1 hx <;> injection hx with e2 e3 <;> subst e1 e2 e3 <;> simp [hp, jumpE]
        obtain ⟨hbusy, rfl, rfl, rfl⟩ := hout
        clear hx
        refine wpIn_rangeFunc fun fn _ => ?_
        have s1 := s.mark (w' := w.alloc (.deferred (some []))) rfl ⟨rfl, rfl, rfl, by first | exact Nat.le_refl _ | exact Nat.le_add_right _ _⟩
        have hsz : (w.alloc (.deferred (some []))).heap.size = w.heap.size + 1 := Array.size_push _
        have s2 := s1.push (o := .loop { state := .ready, pend := none, fr := okFr fr', params := ps.toList, assign := asx', body := body' }) rfl (N := 0)
          (x := .loop { state := .ready, pending := none, fn, tmps := a.tmps, params := ps, assign := asx, body, defers := w.heap.size })
          (w' := (w.alloc (.deferred (some []))).alloc (.loop { state := .ready, pending := none, fn, tmps := a.tmps, params := ps, assign := asx, body, defers := w.heap.size })) rfl
          ⟨rfl, rfl, rfl, fun t => by
            rw [okFr_get]
            by_cases hv : okV (fget fr' t) = true
            · rw [if_pos hv]; exact ((s.val t).ok hv).mono (Ext.snoc _ _)
            · rw [if_neg hv]; exact .undef _, nt, hs, s.room, hps, has, hbody, hn1, hn2⟩ ⟨rfl, rfl, rfl, by first | exact Nat.le_refl _ | exact Nat.le_add_right _ _⟩
        rw [hsz] at s2
        generalize hw2 : (w.alloc (.deferred (some []))).alloc (.loop { state := .ready, pending := none, fn, tmps := a.tmps, params := ps, assign := asx, body, defers := w.heap.size }) = w2 at s2
        generalize hρ2 : ρ ++ [(w.heap.size + 1, 0, 0)] = ρ2 at s2
        have hρl : ρ2[m.h.n]? = some (w.heap.size + 1, 0, 0) := by rw [← hρ2, ← s.heap.len]; exact get_snoc_eq _ _
        have hext : Ext ρ ρ2 := by rw [← hρ2]; exact Ext.snoc _ _
        have hfrel := (opdRel_act s) f f' hf
        rw [hfv] at hfrel
        obtain ⟨hfn, hcon⟩ := hcs gf _ _ _ _ hcall
        have hfrel2 := hfrel.vrel (by simp) (by simp)
        generalize hax : a.eval f = ax at hfrel2
        cases hfrel2 with
        | func _ _ _ fi ca q1 q2 q3 q4 =>
          have r1 : VRels ρ2 first.toList fi.toList := All2.of_get (by simpa using q1) fun i x y hx hy => (q3 i x y (by simpa using hx) (by simpa using hy)).mono hext
          have r2' : VRels ρ2 captured.toList ca.toList := All2.of_get (by simpa using q2) fun i x y hx hy => (q4 i x y (by simpa using hx) (by simpa using hy)).mono hext
          have hall : VRels ρ2 (first.toList ++ [Value.func (.yield m.h.n) #[] #[]] ++ captured.toList) (fi ++ #[Value.func (.yield (w.heap.size + 1)) #[] #[]] ++ ca).toList := by
            simp only [Array.toList_append]
            exact All2.append (All2.append r1 (.cons (.yield _ _ 0 0 hρl) .nil)) r2'
          have hB2 : B ≤ w2.heap.size := Nat.le_trans s2.base s2.tr.size
          refine ⟨w.heap.size + 1, [{ target := .collected w.heap.size, args := #[] }], w2, ⟨.fn (.func gf) ca, fi ++ #[Value.func (.yield (w.heap.size + 1)) #[] #[]]⟩, w2, gf, fi ++ #[Value.func (.yield (w.heap.size + 1)) #[] #[]] ++ ca, w2, ?_, ?_, fun _ _ => trivial, ?_, fun h => by simp [WF, Fence.wide] at h, ?_⟩
          · rw [← hw2]; exact run_enterLoop_outer fn a.tmps ps asx body
          · simp only [resolve, hax, Deferred.ofValue, Sem.run_pure]
            simp [Act.eval]
          · simp only [invoke]
            exact run_callFunc hfn _ w2
          · refine callsIn_wf ((hcon ρ2 w2 _ (n - 1) hB2 s2.heap hall).mono fun e w3 he => ?_)
            obtain ⟨u, ρ3, rfl, g1, g2, g3⟩ := he
            have s3 := s2.called g1 g2
            obtain ⟨c, δ, N, x, k1, k2, k3, _⟩ := s3.heap.live m.h.n _ hget2
            have hc := g2.ext _ _ hρl
            rw [k1] at hc
            injection hc with hc
            injection hc with hc1 hc2
            injection hc2 with hc2 hc3
            subst hc1 hc2 hc3
            cases x with
            | loop R =>
              have hst : R.state = r2.state := k3.1
              have hpend : R.pending = r2.pend.map jumpC := k3.2.1
              refine ⟨R.pending, w3.putObj (w.heap.size + 1) (.loop { R with state := .exhausted }), run_endLoop k2 (by rw [hst]; exact hbusy), ?_⟩
              have s4 := s3.putObj (p := ⟨m.h.n, 0, none⟩) (p' := ⟨w.heap.size + 1, 0, none⟩) (.inl (.ptr m.h.n 0 _ 0 0 k1)) (o := .loop r2) (o' := .loop { r2 with state := .exhausted }) hget2 rfl rfl (x := .loop R)
                (x' := .loop { R with state := .exhausted }) k2 k3 (fun δ' N' _ hh => ⟨rfl, hh.2⟩) (w' := w3.putObj (w.heap.size + 1) (.loop { R with state := .exhausted })) rfl ⟨rfl, rfl, rfl, by first | exact Nat.le_refl _ | exact Nat.le_add_right _ _⟩
              have s5 := (s4.kill m.h.n).hcongr (h' := h2.kill m.h.n) rfl (fun b => by
                show (h2.kill m.h.n).get b = ((h2.set m.h.n (.loop { r2 with state := .exhausted })).kill m.h.n).get b
                by_cases hb : b = m.h.n
                · subst hb; rw [AH.get_kill_same, AH.get_kill_same]
                · rw [AH.get_kill_ne hb, AH.get_kill_ne hb, AH.get_set_ne _ hb])
              have hq' := hq _ _ _ _ _ s5 (fun h => by cases h)
              rw [hpend] at hq' ⊢
              cases hp : r2.pend with
              | none => rw [hp] at hq'; exact hq'
              | some j =>
                rw [hp] at hq'
                cases j with
                | ret => exact wpIn_ret hq'
                | exit id => exact wpIn_exit hq'
            | _ => exact k3.elim
      · cases hx
    · cases hx
  · cases hx
end Go.Proofs.YtblmakgjdenpfaaDoor.AM
namespace Go.Proofs.YtblmakgjdenpfaaDoor.AM
open Go
variable {P : Program} {B nt : Nat} {E : Ent} {D : List Nat} {ρ : Rho} {lm : Nat → Option Nat} {fr : Fr} {m : Mem} {a : Act} {w : World} {g : Nat → Value}
variable {call : CallF} {yld : YieldF}
theorem exec_bad {r : Option Nat} {k : Nat} {c : Code} : ExecOk P B nt E call yld r (execC call yld k .bad) c := by
  intro D ρ lm fr m a w ex fr' m' hx
  simp only [execC] at hx
  cases hx
theorem exec_sound (hm : P.follows .mixedOrders = true) (hcs : CallSound P B call) (hys : YieldSound P B yld) (k : Nat) (hs : Hints) (r : Option Nat) :
    ∀ (c : Code) (lc : LCode), liftC P nt hs c = some lc → (r = none ∨ lc.noR = true) → ExecOk P B nt E call yld r (execC call yld k lc) c := by
  intro c
  induction c with
  | skip =>
    intro lc hl _
    simp only [liftC] at hl
    injection hl with hl
    subst hl
    intro D ρ lm fr m a w ex fr' m' hx s n Q hq
    simp only [execC] at hx
    injection hx with hx
    injection hx with h1 hx
    injection hx with h2 h3
    subst h1 h2 h3
    exact wpIn_skip (hq D ρ lm a w s fun _ => rfl)
  | region id ops draw =>
    intro lc hl _
    simp only [liftC] at hl
    split at hl
    · rename_i c hc
      injection hl with hl
      subst hl
      exact exec_region hm hcs hys hc
    · injection hl with hl
      subst hl
      exact exec_bad
  | seq x y ihx ihy =>
    intro lc hl hr
    simp only [liftC] at hl
    split at hl
    · rename_i lx ly hlx hly
      injection hl with hl
      subst hl
      have hrx : r = none ∨ lx.noR = true := hr.imp_right fun h => (by simp only [LCode.noR, Bool.and_eq_true] at h; exact h.1)
      have hry : r = none ∨ ly.noR = true := hr.imp_right fun h => (by simp only [LCode.noR, Bool.and_eq_true] at h; exact h.2)
      intro D ρ lm fr m a w ex fr' m' hx s n Q hq
      simp only [execC] at hx
      refine wpIn_seq ?_
      cases hfx : execC call yld k lx fr m with
      | none => rw [hfx] at hx; cases hx
      | some t =>
        obtain ⟨ex1, fr1, m1⟩ := t
        rw [hfx] at hx
        refine ihx lx hlx hrx D ρ lm fr m a w ex1 fr1 m1 hfx s n _ fun D' ρ' lm' a' w' s' hD => ?_
        cases ex1 with
        | norm => exact ihy ly hly hry D' ρ' lm' fr1 m1 a' w' ex fr' m' hx s' n Q fun D2 ρ2 lm2 a2 w2 s2 hD2 => hq D2 ρ2 lm2 a2 w2 s2 fun h => (hD2 h).trans (hD h)
        | exit id =>
          injection hx with hx
          injection hx with h1 hx
          injection hx with h2 h3
          subst h1 h2 h3
          exact hq D' ρ' lm' a' w' s' hD
        | ret =>
          injection hx with hx
          injection hx with h1 hx
          injection hx with h2 h3
          subst h1 h2 h3
          exact hq D' ρ' lm' a' w' s' hD
    · cases hl
  | cond c x y ihx ihy =>
    intro lc hl hr
    simp only [liftC] at hl
    split at hl
    · rename_i c' lx ly hc hlx hly
      injection hl with hl
      subst hl
      have hrx : r = none ∨ lx.noR = true := hr.imp_right fun h => (by simp only [LCode.noR, Bool.and_eq_true] at h; exact h.1)
      have hry : r = none ∨ ly.noR = true := hr.imp_right fun h => (by simp only [LCode.noR, Bool.and_eq_true] at h; exact h.2)
      intro D ρ lm fr m a w ex fr' m' hx s n Q hq
      simp only [execC] at hx
      split at hx
      · rename_i t ht
        have hv := (opdRel_act s) c c' hc
        rw [ht] at hv
        have hv2 := hv.vrel (by simp) (by simp)
        have hev : a.eval c = .bool t := by
          generalize hu : a.eval c = u at hv2
          cases hv2
          rfl
        refine wpIn_cond hev ?_
        cases t with
        | true => exact ihx lx hlx hrx D ρ lm fr m a w ex fr' m' (by simpa using hx) s n Q hq
        | false => exact ihy ly hly hry D ρ lm fr m a w ex fr' m' (by simpa using hx) s n Q hq
      · cases hx
    · injection hl with hl
      subst hl
      exact exec_bad
  | block id x ih =>
    intro lc hl hr
    simp only [liftC] at hl
    obtain ⟨lx, hlx, hl⟩ := Option.map_eq_some_iff.1 hl
    subst hl
    have hrx : r = none ∨ lx.noR = true := hr.imp_right fun h => (by simpa only [LCode.noR] using h)
    intro D ρ lm fr m a w ex fr' m' hx s n Q hq
    simp only [execC] at hx
    refine wpIn_block ?_
    cases hfx : execC call yld k lx fr m with
    | none => rw [hfx] at hx; cases hx
    | some t =>
      obtain ⟨ex1, fr1, m1⟩ := t
      rw [hfx] at hx
      refine ih lx hlx hrx D ρ lm fr m a w ex1 fr1 m1 hfx s n _ fun D' ρ' lm' a' w' s' hD => ?_
      cases ex1 with
      | norm =>
        injection hx with hx
        injection hx with h1 hx
        injection hx with h2 h3
        subst h1 h2 h3
        exact hq D' ρ' lm' a' w' s' hD
      | exit i =>
        simp only at hx
        by_cases hi : i = id
        · rw [if_pos hi] at hx
          injection hx with hx
          injection hx with h1 hx
          injection hx with h2 h3
          subst h1 h2 h3
          show (if i = id then _ else _)
          rw [if_pos hi]
          exact hq D' ρ' lm' a' w' s' hD
        · rw [if_neg hi] at hx
          injection hx with hx
          injection hx with h1 hx
          injection hx with h2 h3
          subst h1 h2 h3
          show (if i = id then _ else _)
          rw [if_neg hi]
          exact hq D' ρ' lm' a' w' s' hD
      | ret =>
        injection hx with hx
        injection hx with h1 hx
        injection hx with h2 h3
        subst h1 h2 h3
        exact hq D' ρ' lm' a' w' s' hD
  | loop x ih =>
    intro lc hl hr
    simp only [liftC] at hl
    obtain ⟨lx, hlx, hl⟩ := Option.map_eq_some_iff.1 hl
    subst hl
    have hrx : r = none ∨ lx.noR = true := hr.imp_right fun h => (by simpa only [LCode.noR] using h)
    intro D ρ lm fr m a w ex fr' m' hx s n Q hq
    simp only [execC] at hx
    refine wpIn_loop_fuel (j := k) (fun j a w => ∃ D1 ρ1 lm1 fr1 m1, loopN j (execC call yld k lx) fr1 m1 = some (ex, fr', m') ∧ SR P B nt E D1 ρ1 lm1 (fget fr1) m1 a w ∧ (r.isSome = true → D1 = D)) ?_ ?_ ⟨D, ρ, lm, fr, m, hx, s, fun _ => rfl⟩
    · rintro a w ⟨D1, ρ1, lm1, fr1, m1, h, _⟩
      simp only [loopN] at h
      cases h
    · rintro j a w ⟨D1, ρ1, lm1, fr1, m1, h, s1, hD1⟩
      simp only [loopN] at h
      cases hfx : execC call yld k lx fr1 m1 with
      | none => rw [hfx] at h; cases h
      | some t =>
        obtain ⟨ex2, fr2, m2⟩ := t
        rw [hfx] at h
        refine ih lx hlx hrx D1 ρ1 lm1 fr1 m1 a w ex2 fr2 m2 hfx s1 n _ fun D' ρ' lm' a' w' s' hD => ?_
        cases ex2 with
        | norm => exact ⟨D', ρ', lm', fr2, m2, h, s', fun hh => (hD hh).trans (hD1 hh)⟩
        | exit i =>
          injection h with h
          injection h with h1 h
          injection h with h2 h3
          subst h1 h2 h3
          exact hq D' ρ' lm' a' w' s' fun hh => (hD hh).trans (hD1 hh)
        | ret =>
          injection h with h
          injection h with h1 h
          injection h with h2 h3
          subst h1 h2 h3
          exact hq D' ρ' lm' a' w' s' fun hh => (hD hh).trans (hD1 hh)
  | exit id =>
    intro lc hl _
    simp only [liftC] at hl
    injection hl with hl
    subst hl
    intro D ρ lm fr m a w ex fr' m' hx s n Q hq
    simp only [execC] at hx
    injection hx with hx
    injection hx with h1 hx
    injection hx with h2 h3
    subst h1 h2 h3
    exact wpIn_exit (hq D ρ lm a w s fun _ => rfl)
  | ret =>
    intro lc hl _
    simp only [liftC] at hl
    injection hl with hl
    subst hl
    intro D ρ lm fr m a w ex fr' m' hx s n Q hq
    simp only [execC] at hx
    injection hx with hx
    injection hx with h1 hx
    injection hx with h2 h3
    subst h1 h2 h3
    exact wpIn_ret (hq D ρ lm a w s fun _ => rfl)
  | rangeFunc f ps asx body ih1 ih2 =>
    intro lc hl hr
    simp only [liftC] at hl
    split at hl
    · rename_i f' asx' body' hf has hbody
      split at hl
      · rename_i hc
        injection hl with hl
        subst hl
        simp only [Bool.and_eq_true] at hc
        have hr' : r = none := hr.resolve_right (by simp [LCode.noR])
        subst hr'
        refine exec_range hcs hf has hbody (fun s hs => ?_) hc.1.2 hc.2
        have := Array.all_eq_true_iff_forall_mem.1 hc.1.1 s (Array.mem_toList_iff.1 hs)
        simpa using this
      · injection hl with hl
        subst hl
        exact exec_bad
    · injection hl with hl
      subst hl
      exact exec_bad
  | label l =>
    intro lc hl _
    simp only [liftC] at hl
    injection hl with hl
    subst hl
    intro D ρ lm fr m a w ex fr' m' hx s n Q hq
    simp only [execC] at hx
    injection hx with hx
    injection hx with h1 hx
    injection hx with h2 h3
    subst h1 h2 h3
    exact wpIn_label (hq D ρ lm a w s fun _ => rfl)
  | scope x ih =>
    intro lc hl hr
    simp only [liftC] at hl
    intro D ρ lm fr m a w ex fr' m' hx s n Q hq
    refine wpIn_scopeA (ih lc hl hr D ρ lm fr m a w ex fr' m' hx s n _ fun D' ρ' lm' a' w' s' hD => ?_)
    have := hq D' ρ' lm' a' w' s' hD
    cases ex <;> exact this
  | _ =>
    intro lc hl _
    simp only [liftC] at hl
    injection hl with hl
    subst hl
    exact exec_bad
end Go.Proofs.YtblmakgjdenpfaaDoor.AM
namespace Go.Proofs.YtblmakgjdenpfaaDoor.AM
open Go
variable {P : Program} {B nt : Nat} {E : Ent} {D : List Nat} {ρ : Rho} {lm : Nat → Option Nat} {fr : Fr} {m : Mem} {a : Act} {w : World} {g : Nat → Value}
variable {call : CallF} {yld : YieldF}
def resSem (tmps : Array Value) : ResultVar → Sem Value
  | .tmp t => pure (tmps.getD t undef)
  | .cell a t => do loadVar t (← asAddr (tmps.getD a undef))
theorem results_eq (fn : Func) (tmps : Array Value) : results fn tmps = (do
    let vs ← fn.results.mapM (resSem tmps)
    pure (if h : vs.size = 1 then vs[0] else .tuple vs)) := by
  unfold results
  congr 1
theorem resA_sound (s : SR P B nt E D ρ lm (fget fr) m a w) {rv : ResultVar} {lr : LRes} (hl : liftRes P rv = some lr) {v : Value} (hv : resA fr m lr = some v) :
    ∃ u, (resSem a.tmps rv).run P w = .ok u w ∧ VRel ρ v u := by
  cases rv with
  | tmp t =>
    simp only [liftRes] at hl
    injection hl with hl
    subst hl
    simp only [resA] at hv
    split at hv
    · rename_i hok
      injection hv with hv
      subst hv
      exact ⟨_, rfl, (s.val t).ok hok⟩
    · cases hv
  | cell x t =>
    simp only [liftRes] at hl
    obtain ⟨n, hn, hl⟩ := Option.map_eq_some_iff.1 hl
    subst hl
    simp only [resA] at hv
    have h1 : VRelF ρ lm (opd fr (.s x)) (a.tmps.getD x undef) := s.val x
    obtain ⟨ha, k, hk, hj⟩ := run_isAgg hn w
    cases n with
    | none =>
      simp only [ROp.ev] at hv
      split at hv
      · rename_i p e
        rw [e] at h1
        obtain ⟨p', e2, hsp⟩ := h1.psome
        split at hv
        · rename_i v' hrd
          injection hv with hv; subst hv
          rw [e2] at h1
          obtain ⟨us, g1, g2, _, _, g5⟩ := s.rd h1 hrd
          cases g2 with
          | @cons _ u _ us' k1 k2 =>
            cases k2
            have hc := g5 0 u rfl
            have hp0 : p'.add 0 = p' := by simp [Addr.add]
            rw [hp0] at hc
            refine ⟨u, ?_, k1⟩
            simp only [Option.isSome_none] at ha
            have hld : (load p').run P w = .ok u w := by rw [run_load]; simp [hc]
            simp only [resSem, e2, asAddr, loadVar, Sem.run_bind, Sem.run_pure, Result.andThen_ok, ha, Bool.false_eq_true, if_false]
            exact hld
        · cases hv
      · cases hv
    | some n =>
      simp only [ROp.ev] at hv
      split at hv
      · rename_i p e
        rw [e] at h1
        obtain ⟨p', e2, hsp⟩ := h1.psome
        obtain ⟨l, hrd, rfl⟩ := Option.map_eq_some_iff.1 hv
        rw [e2] at h1
        obtain ⟨us, g1, g2, _, g4, _⟩ := s.rd h1 hrd
        obtain rfl := hj n rfl
        simp only [Option.isSome_some] at ha
        refine ⟨.agg us.toArray, ?_, .agg _ _ (by simpa using g2.length) fun i x y hx hy => ?_⟩
        · simp only [resSem, e2, asAddr, loadVar, Sem.run_bind, Sem.run_pure, Result.andThen_ok, ha, if_true, run_szOf hk, g4]
        · obtain ⟨y', hy', hrel⟩ := All2.get g2 i x (by simpa using hx)
          have : y = y' := by
            have h3 : us.toArray[i]? = some y' := by simpa using hy'
            rw [hy] at h3; injection h3
          subst this
          exact hrel
      · cases hv
theorem resAll_sound (s : SR P B nt E D ρ lm (fget fr) m a w) : ∀ {rvs : List ResultVar} {rs : List LRes}, rvs.mapM (liftRes P) = some rs → ∀ {vs : List Value}, resAll fr m rs = some vs →
    ∃ us, (rvs.mapM (resSem a.tmps)).run P w = .ok us w ∧ VRels ρ vs us
  | [], rs, hl, vs, hv => by
    simp at hl
    subst hl
    simp only [resAll] at hv
    injection hv with hv
    subst hv
    exact ⟨[], rfl, .nil⟩
  | rv :: r, rs, hl, vs, hv => by
    rw [List.mapM_cons] at hl
    obtain ⟨lr, h1, hl⟩ := Option.bind_eq_some_iff.1 hl
    obtain ⟨lrs, h2, hl⟩ := Option.bind_eq_some_iff.1 hl
    injection hl with hl
    subst hl
    simp only [resAll] at hv
    split at hv
    · rename_i v vs' hv1 hv2
      injection hv with hv
      subst hv
      obtain ⟨u, g1, g2⟩ := resA_sound s h1 hv1
      obtain ⟨us, g3, g4⟩ := resAll_sound s h2 hv2
      refine ⟨u :: us, ?_, .cons g2 g4⟩
      rw [List.mapM_cons]
      simp only [Sem.run_bind, g1, Result.andThen_ok, g3, Sem.run_pure]
    · cases hv
theorem retV_sound (s : SR P B nt E D ρ lm (fget fr) m a w) {fn : Func} {rs : List LRes} (hl : fn.results.toList.mapM (liftRes P) = some rs) {v : Value} (hv : retV fr m rs = some v) :
    ∃ u, (results fn a.tmps).run P w = .ok u w ∧ VRel ρ v u := by
  unfold retV at hv
  have key : ∃ vs, resAll fr m rs = some vs ∧ ((∃ x, vs = [x] ∧ v = x) ∨ ((∀ x, vs ≠ [x]) ∧ v = .tuple vs.toArray)) := by
    split at hv
    · rename_i x hx
      injection hv with hv
      exact ⟨_, hx, .inl ⟨x, rfl, hv.symm⟩⟩
    · rename_i vs hne hx
      injection hv with hv
      exact ⟨vs, hx, .inr ⟨fun x hh => hne x (by rw [hh]), hv.symm⟩⟩
    · cases hv
  obtain ⟨vs, h1, h2⟩ := key
  obtain ⟨us, g1, g2⟩ := resAll_sound s hl h1
  have hrun : (fn.results.mapM (resSem a.tmps)).run P w = .ok us.toArray w := by
    rw [Array.mapM_eq_mapM_toList, map_eq_pure_bind]
    simp only [Sem.run_bind, g1, Result.andThen_ok, Sem.run_pure]
  rw [results_eq]
  simp only [Sem.run_bind, hrun, Result.andThen_ok, Sem.run_pure]
  rcases h2 with ⟨x, rfl, rfl⟩ | ⟨hne, rfl⟩
  · cases g2 with
    | @cons _ u _ us' k1 k2 =>
      cases k2
      exact ⟨u, by simp, k1⟩
  · have hsz : us.toArray.size ≠ 1 := fun h => by
      have hl := g2.length
      have h3 : vs.length = 1 := by rw [hl]; simpa using h
      match vs, h3 with
      | [x], _ => exact hne x rfl
    refine ⟨.tuple us.toArray, by rw [dif_neg hsz], .tuple _ _ (by simpa using g2.length) fun i x y hx hy => ?_⟩
    obtain ⟨y', hy', hrel⟩ := All2.get g2 i x (by simpa using hx)
    have : y = y' := by
      have h3 : us.toArray[i]? = some y' := by simpa using hy'
      rw [hy] at h3; injection h3
    subst this
    exact hrel
theorem leaves_sound {fn : Func} {rs : List LRes} (hl : fn.results.toList.mapM (liftRes P) = some rs) {v : Value} (hv : retV fr m rs = some v) {n : Nat} :
    ∀ (D : List Nat) (a : Act) (w : World), SR P B nt E D ρ lm (fget fr) m a w → LeavesInM Fence.wide n P fn a.tmps (CallPost P B E.ρ E.h E.w v m.h) a.defers .returning w
  | [], a, w, s => by
    have hd := s.dfs
    simp only [List.map_nil] at hd
    rw [hd]
    obtain ⟨u, h1, h2⟩ := retV_sound s hl hv
    exact ⟨u, h1, u, ρ, rfl, s.heap, s.tr, h2⟩
  | r :: D, a, w, s => by
    have hd := s.dfs
    simp only [List.map_cons] at hd
    rw [hd]
    refine ⟨by simp, .inl ⟨r, w.putObj r (.deferred none), rfl, run_takeDeferred (s.marks r (by simp)).1, ?_⟩⟩
    have s' := s.unmark (w' := w.putObj r (.deferred none)) rfl ⟨rfl, rfl, rfl, by first | exact Nat.le_refl _ | exact Nat.le_add_right _ _⟩
    exact leaves_sound hl hv D _ _ s'
theorem argFr_get (s : Nat) : ∀ (args : List Value) (i : Nat), fget (argFr i args) s = if i ≤ s then args.getD (s - i) undef else undef
  | [], i => by simp [argFr, fget]
  | v :: r, i => by
    simp only [argFr, fget]
    by_cases h : s = i
    · subst h; simp
    · rw [if_neg h, argFr_get s r (i + 1)]
      by_cases h2 : i + 1 ≤ s
      · rw [if_pos h2, if_pos (by omega), show s - i = (s - (i + 1)) + 1 by omega]
        simp
      · rw [if_neg h2, if_neg (by omega)]
theorem start_sound {h : AH} (hB : B ≤ w.heap.size) (hh : HRel P B ρ h w) {fr : Fr} {a : Act} (hv : ∀ s, VRel ρ (fget fr s) (a.tmps.getD s undef)) (hd : a.defers = []) (hnt : nt ≤ a.tmps.size) :
    SR P B nt ⟨ρ, h, w⟩ [] ρ (fun _ => none) (fget fr) { lc := [], h } a w where
  base := hB
  heap := hh
  tr := .refl ρ h w
  val := fun s => .inl (hv s)
  lcs := fun nm => rfl
  linj := fun _ _ _ h => by cases h
  dfs := hd
  marks := fun r hr => by cases hr
  dnd := .nil
  room := hnt
theorem callBody_sound (hm : P.follows .mixedOrders = true) (hcs : CallSound P B call) (hys : YieldSound P B yld) {k : Nat} {f : FuncId} {fn : Func} {hs : Hints} {lf : LFunc} (hf : P.funcs[f]? = some fn) (hl : liftF P hs fn = some lf)
    {args : List Value} {h : AH} {v : Value} {h' : AH} (hx : callBody call yld k lf args h = some (v, h')) :
    FnOk P f ∧ ∀ ρ w argsC n, B ≤ w.heap.size → HRel P B ρ h w → VRels ρ args argsC.toList → CallsIn Fence.wide n P f argsC w (CallPost P B ρ h w v h') := by
  unfold liftF at hl
  split at hl
  · rename_i c hbody
    split at hl
    · rename_i b rs hb hrs
      split at hl
      · cases hl
      · rename_i hname
        injection hl with hl
        subst hl
        refine ⟨⟨fn, hf, by simpa using hname, by rw [hbody]; rfl⟩, fun ρ w argsC n hB hh hargs => ?_⟩
        unfold callBody at hx
        simp only at hx
        split at hx
        · refine callsIn_of_wp_marks hf hbody trivial ?_
          have s0 : SR P B fn.ntmps ⟨ρ, h, w⟩ [] ρ (fun _ => none) (fget (argFr 0 args)) { lc := [], h } { tmps := argsC ++ Array.replicate (fn.ntmps - argsC.size) undef, defers := [] } w := by
            refine start_sound hB hh (fun s => ?_) rfl (by simp; omega)
            rw [argFr_get]
            simp only [Nat.zero_le, if_true, Nat.sub_zero]
            by_cases hlt : s < args.length
            · have hlen := hargs.length
              simp only [Array.length_toList] at hlen
              obtain ⟨u, hu, hrel⟩ := All2.get hargs s args[s] (by simp [hlt])
              have : (argsC ++ Array.replicate (fn.ntmps - argsC.size) undef).getD s undef = u := by
                have hlt2 : s < argsC.size := by omega
                have hu' : argsC[s]? = some u := by simpa using hu
                simp [Array.getD_eq_getD_getElem?, Array.getElem?_append, hlt2, hu']
                simpa [hlt2] using hu'
              rw [this]
              simpa [List.getD_eq_getElem?_getD, hlt] using hrel
            · rw [List.getD_eq_getElem?_getD, List.getElem?_eq_none (by omega)]
              exact .undef _
          cases hex : execC call yld k b (argFr 0 args) { lc := [], h } with
          | none => rw [hex] at hx; cases hx
          | some t =>
            obtain ⟨ex, fr', m'⟩ := t
            rw [hex] at hx
            refine exec_sound hm hcs hys k hs none c b hb (.inl rfl) [] ρ _ _ _ _ w ex fr' m' hex s0 n _ fun D' ρ' lm' a' w' s' _ => ?_
            have fin : (retV fr' m' rs).map (fun v => (v, m'.h)) = some (v, h') → LeavesInM Fence.wide n P fn a'.tmps (CallPost P B ρ h w v h') a'.defers .returning w' := fun hx => by
              obtain ⟨v', hv, hx⟩ := Option.map_eq_some_iff.1 hx
              injection hx with h1 h2
              subst h1 h2
              exact leaves_sound hrs hv D' a' w' s'
            cases ex with
            | norm => exact fin hx
            | ret => exact fin hx
            | exit id => cases hx
        · cases hx
    · cases hl
  · cases hl
end Go.Proofs.YtblmakgjdenpfaaDoor.AM
namespace Go.Proofs.YtblmakgjdenpfaaDoor.AM
open Go
variable {P : Program} {B nt : Nat} {E : Ent} {D : List Nat} {ρ : Rho} {lm : Nat → Option Nat} {fr : Fr} {m : Mem} {a : Act} {w : World} {g : Nat → Value}
variable {call : CallF} {yld : YieldF}
theorem params_rel {r : Fr} : ∀ {ps : List Nat} {args us : List Value}, VRels ρ args us → ps.length = args.length → (∀ s ∈ ps, s < nt) → ∀ {tmps : Array Value}, nt ≤ tmps.size →
    ∀ (l : Fr), (∀ s, VRel ρ (fget (l ++ r) s) (tmps.getD s undef)) →
    nt ≤ ((ps.zip us).foldl (fun tmps (t, a) => tmps.setIfInBounds t a) tmps).size ∧
    ∀ s, VRel ρ (fget ((ps.zip args).reverse ++ (l ++ r)) s) (((ps.zip us).foldl (fun tmps (t, a) => tmps.setIfInBounds t a) tmps).getD s undef)
  | [], args, us, hr, hlen, hps, tmps, hnt, l, h => by
    simp only [List.zip_nil_left, List.foldl_nil, List.reverse_nil, List.nil_append]
    exact ⟨hnt, h⟩
  | p :: ps, [], us, hr, hlen, _, _, _, _, _ => by simp at hlen
  | p :: ps, x :: args, us, hr, hlen, hps, tmps, hnt, l, h => by
    cases hr with
    | @cons _ u _ us' h1 h2 =>
      simp only [List.zip_cons_cons, List.foldl_cons, List.reverse_cons, List.append_assoc, List.singleton_append]
      have := params_rel (r := r) h2 (by simpa using hlen) (fun s hs => hps s (by simp [hs])) (tmps := tmps.setIfInBounds p u) (by simpa using hnt) ((p, x) :: l) (fun s => by
        have hlt : p < tmps.size := Nat.lt_of_lt_of_le (hps p (by simp)) hnt
        simp only [List.cons_append, fget]
        by_cases e : s = p
        · subst e; simp [hlt]; exact h1
        · have e' : ¬ (p = s) := fun h => e h.symm
          rw [if_neg e]
          have := h s
          simpa [Array.getElem?_setIfInBounds_ne e'] using this)
      simpa using this
theorem endRec_spec (r2 : LRec) (R : Loop) (ex : Ex) {ρ : Rho} {δ N : Nat} (h : ORel P ρ δ N (.loop r2) (.loop R)) :
    ∃ jump : Option Code, (∀ Rr : Ending → World → Prop, ∀ (l : Nat) (a : Act) (w : World), (∃ v w', (Instr.endRound l jump).run P w = .ok v w' ∧ Rr (.returned v) w') → roundPost P l Rr (exitOf ex) a w) ∧
      (endRec r2 ex).1 = .bool jump.isNone ∧ ∀ δ N, ORel P ρ δ N (.loop (endRec r2 ex).2) (.loop { R with state := if jump.isNone then .ready else .done, pending := jump }) := by
  obtain ⟨h1, h2, h3⟩ := h
  cases ex with
  | norm => exact ⟨none, fun _ _ _ _ h => h, rfl, fun _ _ => ⟨rfl, rfl, h3⟩⟩
  | ret => exact ⟨some .ret, fun _ _ _ _ h => h, rfl, fun _ _ => ⟨rfl, rfl, h3⟩⟩
  | exit id => exact ⟨some (.exit id), fun _ _ _ _ h => h, rfl, fun _ _ => ⟨rfl, rfl, h3⟩⟩
theorem yieldBody_sound (hm : P.follows .mixedOrders = true) (hcs : CallSound P B call) (hys : YieldSound P B yld) (k : Nat) : YieldSound P B (yieldBody call yld k) := by
  intro l args h v h' hx ρ w argsC n c δ N hB hh hargs hρ
  unfold yieldBody at hx
  split at hx
  · rename_i r hget
    split at hx
    · rename_i hlen
      split at hx
      · rename_i fr1 m1 hex1
        split at hx
        · rename_i r1 hget1
          split at hx
          · rename_i hready
            split at hx
            · rename_i ex fr2 m2 hex2
              split at hx
              · rename_i r2 hget2
                injection hx with hx
                injection hx with hv hh'
                subst hv hh'
                obtain ⟨c0, δ0, N0, x, k1, k2, k3, _⟩ := hh.live l _ hget
                rw [hρ] at k1
                injection k1 with k1
                injection k1 with e1 k1
                injection k1 with e2 e3
                subst e1 e2 e3
                cases x with
                | loop R =>
                  obtain ⟨q1, q2, q3, q4, nt, hs, q5, q6, q7, q8, q9, q10⟩ := k3
                  have hsz : argsC.size = R.params.size := by
                    have h1 := hargs.length
                    have h2 : R.params.size = r.params.length := by rw [← q3]; simp
                    simp only [Array.length_toList] at h1
                    omega
                  refine ⟨R.fn, _, R.assign, R.body, run_yield k2 hsz, ?_⟩
                  have hfold : ((R.params.zip argsC).foldl (fun tmps (t, a) => tmps.setIfInBounds t a) R.tmps) = ((r.params.zip argsC.toList).foldl (fun tmps (t, a) => tmps.setIfInBounds t a) R.tmps) := by
                    rw [← Array.foldl_toList, Array.toList_zip, q3]
                  rw [hfold]
                  obtain ⟨g1, g2⟩ := params_rel (r := r.fr) (l := []) hargs hlen.symm q6 q5 (fun s => q4 s)
                  generalize (r.params.zip argsC.toList).foldl (fun tmps (t, a) => tmps.setIfInBounds t a) R.tmps = tmps at g1 g2
                  refine roundIn_of_wpIn (F := Fence.wide) trivial ?_
                  have s0 : SR P B nt ⟨ρ, h, w⟩ [] ρ (fun _ => none) (fget ((r.params.zip args).reverse ++ r.fr)) { lc := [], h } { tmps := tmps, defers := [] } w :=
                    start_sound hB hh g2 rfl g1
                  refine exec_sound hm hcs hys k hs (some c) R.assign r.assign q7 (.inr q9) [] ρ _ _ _ _ w .norm fr1 m1 hex1 s0 n _ fun D1 ρ1 lm1 a1 w1 s1 hD1 => ?_
                  obtain rfl := hD1 rfl
                  obtain ⟨c1, δ1, N1, x1, p1, p2, p3, _⟩ := s1.heap.live l _ hget1
                  have p4 := s1.tr.ext _ _ hρ
                  rw [p1] at p4
                  injection p4 with p4
                  injection p4 with e1 p4
                  injection p4 with e2 e3
                  subst e1 e2 e3
                  cases x1 with
                  | loop R1 =>
                    refine ⟨_, run_beginRound p2 (p3.1.trans hready), ?_⟩
                    have s2 := s1.putObj (p := ⟨l, 0, none⟩) (p' := ⟨c1, δ1, none⟩) (.inl (.ptr l 0 _ _ _ p1)) (o := .loop r1) (o' := .loop { r1 with state := .busy }) hget1 rfl rfl (x := .loop R1)
                      (x' := .loop { R1 with state := .busy }) p2 p3 (fun δ' N' _ hh => ⟨rfl, hh.2⟩) (w' := w1.putObj c1 (.loop { R1 with state := .busy })) rfl ⟨rfl, rfl, rfl, by first | exact Nat.le_refl _ | exact Nat.le_add_right _ _⟩
                    have hmo : m1.putObj ⟨l, 0, none⟩ (.loop { r1 with state := .busy }) = { m1 with h := m1.h.set l (.loop { r1 with state := .busy }) } := rfl
                    rw [hmo] at s2
                    refine exec_sound hm hcs hys k hs (some c1) R.body r.body q8 (.inr q10) [] ρ1 lm1 fr1 _ a1 _ ex fr2 m2 hex2 s2 n _ fun D2 ρ2 lm2 a2 w2 s3 hD2 => ?_
                    obtain ⟨c2, δ2, N2, x2, z1, z2, z3, _⟩ := s3.heap.live l _ hget2
                    have z4 := s3.tr.ext _ _ hρ
                    rw [z1] at z4
                    injection z4 with z4
                    injection z4 with e1 z4
                    injection z4 with e2 e3
                    subst e1 e2 e3
                    cases x2 with
                    | loop R2 =>
                      obtain ⟨jump, y1, y2, y3⟩ := endRec_spec r2 R2 ex z3
                      refine y1 _ _ _ _ ⟨_, _, run_endRound jump z2, .bool jump.isNone, ρ2, rfl, ?_⟩
                      have s4 := s3.putObj (p := ⟨l, 0, none⟩) (p' := ⟨c2, δ2, none⟩) (.inl (.ptr l 0 _ _ _ z1)) (o := .loop r2) (o' := .loop (endRec r2 ex).2) hget2 rfl rfl (x := .loop R2)
                        (x' := .loop { R2 with state := if jump.isNone then .ready else .done, pending := jump }) z2 z3 (fun δ' N' _ _ => y3 δ' N') (w' := w2.putObj c2 (.loop { R2 with state := if jump.isNone then .ready else .done, pending := jump })) rfl ⟨rfl, rfl, rfl, by first | exact Nat.le_refl _ | exact Nat.le_add_right _ _⟩
                      exact ⟨s4.heap, s4.tr, by rw [y2]; exact .bool _⟩
                    | _ => exact z3.elim
                  | _ => exact p3.elim
                | _ => exact k3.elim
              · cases hx
            · cases hx
          · cases hx
        · cases hx
      · cases hx
    · cases hx
  · cases hx
structure PrgOk (P : Program) (B : Nat) (p : Prg) : Prop where
  fn : ∀ f lf, p.fn f = some lf → ∃ fn hs, P.funcs[f]? = some fn ∧ liftF P hs fn = some lf
  ext : ∀ f g, p.ext f = some g → ∀ args h v h', g args h = some (v, h') → FnOk P f ∧
    ∀ ρ w argsC n, B ≤ w.heap.size → HRel P B ρ h w → VRels ρ args argsC.toList → CallsIn Fence.wide n P f argsC w (CallPost P B ρ h w v h')
theorem runN_sound (hm : P.follows .mixedOrders = true) {p : Prg} (hp : PrgOk P B p) : ∀ k, CallSound P B (runN p k).1 ∧ YieldSound P B (runN p k).2
  | 0 => ⟨(fun f args h v h' hx => by cases hx), (fun l args h v h' hx => by cases hx)⟩
  | k + 1 => by
    obtain ⟨h1, h2⟩ := runN_sound hm hp k
    refine ⟨fun f args h v h' hx => ?_, yieldBody_sound hm h1 h2 k⟩
    simp only [runN] at hx
    split at hx
    · rename_i g hg
      exact hp.ext f g hg args h v h' hx
    · split at hx
      · rename_i lf hlf
        obtain ⟨fn, hs, hf, hl⟩ := hp.fn f lf hlf
        exact callBody_sound hm h1 h2 hf hl hx
      · cases hx
theorem run_sound (hm : P.follows .mixedOrders = true) {p : Prg} (hp : PrgOk P B p) {k : Nat} {f : FuncId} {args : List Value} {h h' : AH} {v : Value} (hx : (runN p k).1 f args h = some (v, h'))
    {ρ : Rho} {w : World} {argsC : Array Value} (hB : B ≤ w.heap.size) (hh : HRel P B ρ h w) (ha : VRels ρ args argsC.toList) (n : Nat) :
    CallsIn Fence.wide n P f argsC w (CallPost P B ρ h w v h') := ((runN_sound hm hp k).1 f args h v h' hx).2 ρ w argsC n hB hh ha
end Go.Proofs.YtblmakgjdenpfaaDoor.AM
