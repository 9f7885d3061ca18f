/-
  Operations that turn memory: stores, strings' bytes and runes, iterators, appends, copies.
-/
import Derived.Test.YtanpdopjgepbkaaAmEff
set_option linter.unusedVariables false
set_option linter.unusedSimpArgs false
namespace Go.Proofs.Ytanpdopjgepbkaa.AM
open Go

variable {P : Program} {B nt : Nat} {E : Ent} {D : List Nat} {ρ : Rho} {lm : Nat → Option Nat} {fr : Fr} {m : Mem} {a : Act} {w : World} {g : Nat → Value}

def setBlk (w : World) (c : Nat) (x : Obj) : World := { w with heap := w.heap.setIfInBounds c x }
theorem so_setBlk (w : World) (c : Nat) (x : Obj) : SameOut w (setBlk w c x) := ⟨rfl, rfl, rfl, by first | exact Nat.le_refl _ | exact Nat.le_add_right _ _⟩

theorem setCell_blk {w : World} {c o : Nat} {cur : Array Value} {t : TypeId} {fz : Nat × Nat} (h : w.heap[c]? = some (.cells cur t fz)) (v : Value) :
    w.setCell ⟨c, o, none⟩ v = setBlk w c (.cells (cur.setIfInBounds o v) t fz) := by
  unfold World.setCell setBlk
  congr 1
  apply Array.ext_getElem?
  intro i
  have hlt := (Array.getElem?_eq_some_iff.1 h).1
  rw [Array.getElem?_modify, getElem?_setIfInBounds_cases _ _ _ _ hlt]
  by_cases e : i = c
  · subst e; simp [h]
  · simp [e, Ne.symm e]

theorem setBlk_get {w : World} {c : Nat} {x y : Obj} (h : w.heap[c]? = some y) : (setBlk w c x).heap[c]? = some x := by
  have hlt := (Array.getElem?_eq_some_iff.1 h).1
  unfold setBlk
  simp [hlt]
theorem setBlk_set (w : World) (c : Nat) (x y : Obj) : setBlk (setBlk w c x) c y = setBlk w c y := by
  unfold setBlk
  simp
theorem setBlk_self {w : World} {c : Nat} {x : Obj} (h : w.heap[c]? = some x) : setBlk w c x = w := by
  unfold setBlk
  have : w.heap.setIfInBounds c x = w.heap := by
    apply Array.ext_getElem?
    intro i
    have hlt := (Array.getElem?_eq_some_iff.1 h).1
    rw [getElem?_setIfInBounds_cases _ _ _ _ hlt]
    by_cases e : i = c
    · subst e; simp [h]
    · simp [e]
  rw [this]

theorem run_storeCells (P : Program) (c o : Nat) (t : TypeId) (fz : Nat × Nat) : ∀ (vs : List Value) (i : Nat) (cur : Array Value) (w : World), w.heap[c]? = some (.cells cur t fz) → o + i + vs.length ≤ cur.size →
    (∀ j, j < cur.size → ¬ (fz.1 ≤ j ∧ j < fz.2)) → (∀ v ∈ vs, v.oneCell' = true) → (storeCells ⟨c, o, none⟩ vs i).run P w = .ok () (setBlk w c (.cells (setAll cur.toList (o + i) vs).toArray t fz))
  | [], i, cur, w, hg, _, _, _ => by
    simp only [storeCells, setAll, Array.toArray_toList]
    rw [setBlk_self hg]
    rfl
  | v :: rest, i, cur, w, hg, hl, hz, h1 => by
    have hi : o + i < cur.size := by simp at hl; omega
    have hadd : (⟨c, o, none⟩ : Addr).add i = ⟨c, o + i, none⟩ := by rw [add_off _ rfl]; rfl
    have hcell : w.cell? ⟨c, o + i, none⟩ = some cur[o + i] := by simp [World.cell?, hg, hi]
    have hfro : w.frozen? ⟨c, o + i, none⟩ = false := by
      have := hz (o + i) hi
      simp only [World.frozen?, hg]
      simp only [Bool.and_eq_false_iff, decide_eq_false_iff_not]
      omega
    have hst : (store ((⟨c, o, none⟩ : Addr).add i) v).run P w = .ok () (setBlk w c (.cells (cur.setIfInBounds (o + i) v) t fz)) := by
      rw [hadd, run_store P w _ v _ (h1 v (by simp)), hcell]
      simp only [hfro, Bool.false_eq_true, if_false]
      rw [setCell_blk hg]
    have ih := run_storeCells P c o t fz rest (i + 1) (cur.setIfInBounds (o + i) v) (setBlk w c (.cells (cur.setIfInBounds (o + i) v) t fz)) (setBlk_get hg) (by simp at hl ⊢; omega) (by simpa using hz) (fun x hx => h1 x (by simp [hx]))
    simp only [storeCells, Sem.run_bind, hst, Result.andThen_ok, ih, setBlk_set, setAll]
    simp [Nat.add_assoc]

theorem setAll_get : ∀ (vs xs : List Value) (i j : Nat), i + vs.length ≤ xs.length → (setAll xs i vs)[j]? = if i ≤ j ∧ j < i + vs.length then vs[j - i]? else xs[j]?
  | [], xs, i, j, _ => by simp only [setAll, List.length_nil, Nat.add_zero]; rw [if_neg (by omega)]
  | v :: vs, xs, i, j, h => by
    rw [setAll, setAll_get vs _ (i + 1) j (by simp at h ⊢; omega)]
    simp only [List.length_cons] at h ⊢
    by_cases h1 : i + 1 ≤ j ∧ j < i + 1 + vs.length
    · rw [if_pos h1, if_pos (by omega)]
      have : j - i = (j - (i + 1)) + 1 := by omega
      rw [this]; simp
    · rw [if_neg h1]
      by_cases h2 : j = i
      · subst h2; rw [if_pos (by omega)]; simp; rw [List.getElem?_set_self (by omega)]
      · rw [if_neg (by omega)]; simp [Ne.symm h2]

/-- Cells written. -/
theorem cells_wr {cs : Array Value} {δ : Nat} {xs vs us : List Value} (h : CellRel ρ cs δ xs) (hv : VRels ρ vs us) (hk : vs.all cellOk = true) {off : Nat} (hle : off + vs.length ≤ xs.length) (hN : δ + xs.length ≤ cs.size) :
    CellRel ρ (setAll cs.toList (δ + off) us).toArray δ (setAll xs off vs) := by
  intro i v hi
  have hl := hv.length
  rw [setAll_get _ _ _ _ hle] at hi
  have hg : (setAll cs.toList (δ + off) us).toArray[δ + i]? = (setAll cs.toList (δ + off) us)[δ + i]? := by simp
  rw [hg, setAll_get _ _ _ _ (by simp; omega)]
  by_cases h1 : off ≤ i ∧ i < off + vs.length
  · rw [if_pos h1] at hi
    rw [if_pos (by omega)]
    obtain ⟨u, hu, hrel⟩ := All2.get hv _ v hi
    have : δ + i - (δ + off) = i - off := by omega
    rw [this]
    exact ⟨List.all_eq_true.1 hk v (List.mem_of_getElem? hi), u, hu, hrel⟩
  · rw [if_neg h1] at hi
    rw [if_neg (by omega)]
    obtain ⟨k1, u, k2, k3⟩ := h i v hi
    exact ⟨k1, u, by simpa using k2, k3⟩

/-- Cells are written through an address. -/
theorem SR.wr (s : SR P B nt E D ρ lm g m a w) {p p' : Addr} (hp : VRelF ρ lm (.pointer (some p)) (.pointer (some p'))) {vs us : List Value} (hv : VRels ρ vs us) (hk : vs.all cellOk = true) (h1 : ∀ u ∈ us, u.oneCell' = true) {m' : Mem} (h : m.wr p vs = some m') :
    ∃ w', (storeCells p' us).run P w = .ok () w' ∧ SR P B nt E D ρ lm g m' a w' := by
  unfold Mem.wr at h
  split at h
  · rename_i xs ho
    split at h
    · rename_i hle
      injection h with h
      subst h
      obtain ⟨δ, N, x, hx, hrel, hp'⟩ := s.objAt hp ho
      have hrel0 := hrel
      cases x <;> simp only [ORel] at hrel <;> first | exact hrel.elim | skip
      rename_i cs t fz
      obtain ⟨e1, e2, e3, e4⟩ := hrel
      have hl := hv.length
      have hst := run_storeCells P p'.block (δ + p.off) t fz us 0 cs w hx (by omega) (by rw [e1]; exact e3 trivial) h1
      refine ⟨_, by rw [hp']; exact hst, s.putObj hp ho rfl rfl hx hrel0 (x' := .cells (setAll cs.toList (δ + p.off) us).toArray t fz) (fun δ' N' hd hr => ?_) (by simp [setBlk]) (so_setBlk _ _ _)⟩
      have : δ' = δ := by rw [hp'] at hd; simp at hd; omega
      subst this
      simp only [ORel] at hr ⊢
      obtain ⟨f1, f2, f3, f4⟩ := hr
      exact ⟨by simp [setAll_length]; exact f1, by rw [setAll_length]; exact f2, f3, cells_wr f4 hv hk hle (by omega)⟩
    · cases h
  · cases h

theorem e_store (s : SR P B nt E D ρ lm (fget fr) m a w) {o : Oper} {t : TypeId} {x y : Operand} {x' y' : Opd} (ho : o.op = .store t x y) (hx : liftOpd P x = some x') (hy : liftOpd P y = some y') {n : Nat} (hn : szOf P t = some n) {call : CallF} {yld : YieldF} {v : Value} {m' : Mem}
    (hv : (EOp.store n x' y').ev call yld fr m = some (v, m')) : EOk P B nt E D (fget fr) m' a v ((execOp a.eval o).run P w) := by
  have h1 := opdRel_act s x x' hx
  have h2 := opdRel_act s y y' hy
  simp only [EOp.ev] at hv
  split at hv
  · rename_i p e
    rw [e] at h1
    obtain ⟨p', e2, hsp⟩ := h1.psome
    rw [e2] at h1
    split at hv
    · rename_i hb
      obtain ⟨m1, hm1, hv⟩ := Option.map_eq_some_iff.1 hv
      injection hv with g1 g2
      subst g1 g2
      have hc := cells_rel h2 hb.2
      have hone := cells_one hc hb.2
      obtain ⟨w', hrun, hs⟩ := s.wr h1 hc hb.2 hone hm1
      have hsz : (a.eval y).cells.size = n := by rw [← Array.length_toList, ← hc.length]; exact hb.1
      refine ⟨.skip, undef, w', ρ, lm, ?_, .inr ⟨rfl, rfl⟩, hs, .undef _⟩
      simp only [execOp, ho, Instr.storeAt, e2, Instr.sureAddr, storeVar, Sem.run_bind, Sem.run_pure, Result.andThen_ok, run_szOf hn, hsz]
      simp [hrun]
    · cases hv
  · cases hv

theorem bytes_rel (s : ByteArray) : VRels ρ (s.data.toList.map fun b => Value.int .u8 b.toNat) (s.data.toList.map fun b => Value.int .u8 b.toNat) ∧ (s.data.toList.map fun b => Value.int .u8 (b.toNat : Int)).all cellOk = true := by
  constructor
  · exact All2.of_get rfl fun i x y hx hy => by
      rw [hx] at hy
      injection hy with hy
      subst hy
      rw [List.getElem?_map] at hx
      obtain ⟨b, _, rfl⟩ := Option.map_eq_some_iff.1 hx
      exact .int _ _
  · refine List.all_eq_true.2 fun v hv => ?_
    obtain ⟨b, _, rfl⟩ := List.mem_map.1 hv
    rfl

theorem run_bytes_of {w : World} {src dst e : TypeId} {s : ByteArray} (hs : P.underlying src = some .string) (hd : P.underlying dst = some (.slice e)) (he : P.underlying e = some (.int .u8)) :
    ∃ (k : Nat) (cs : Array Value) (rest : List Value) (fz : Nat × Nat), s.size ≤ k ∧ cs.size = k ∧ cs.toList = (s.data.toList.map fun b => Value.int .u8 b.toNat) ++ rest ∧ (∀ i, i < cs.size → ¬ (fz.1 ≤ i ∧ i < fz.2)) ∧
      (convert src dst (.string s)).run P w = .ok (.slice (some ⟨w.heap.size, 0, none⟩) s.size k) (w.drew.alloc (.cells cs e fz)) := by
  have h := run_bytes_of_string (P := P) w src dst e s hs hd he
  have hge := grownCap_ge w s.size 0 e
  refine ⟨grownCap w s.size 0 e, bytesRow s (grownCap w s.size 0 e), List.replicate (grownCap w s.size 0 e - s.size) (.int .u8 0), _, hge, ?_, ?_, ?_, h⟩
  · simp [bytesRow]; omega
  · simp [bytesRow]
  · intro i hi hh; simp only at hh; omega

theorem e_s2b (s : SR P B nt E D ρ lm (fget fr) m a w) {o : Oper} {src dst e : TypeId} {x : Operand} {x' : Opd} (ho : o.op = .convert src dst x) (hx : liftOpd P x = some x') (hs : P.underlying src = some .string) (hd : P.underlying dst = some (.slice e))
    (he : P.underlying e = some (.int .u8)) {call : CallF} {yld : YieldF} {v : Value} {m' : Mem} (hv : (EOp.s2b x').ev call yld fr m = some (v, m')) : EOk P B nt E D (fget fr) m' a v ((execOp a.eval o).run P w) := by
  have h1 := opdRel_act s x x' hx
  simp only [EOp.ev] at hv
  split at hv
  · rename_i st e1
    rw [e1] at h1
    have h2 := h1.string
    split at hv
    · injection hv with hv
      injection hv with g1 g2
      subst g1 g2
      obtain ⟨k, cs, rest, fz, k1, k2, k3, k4, k5⟩ := run_bytes_of (P := P) (w := w) (s := st) hs hd he
      obtain ⟨r1, r2⟩ := bytes_rel (ρ := ρ) st
      obtain ⟨hs', hg⟩ := s.newH r1 r2 k3 (t := e) k4 (w' := w.drew.alloc (.cells cs e fz)) rfl ⟨rfl, rfl, rfl, by first | exact Nat.le_refl _ | exact Nat.le_add_right _ _⟩
      have := VRel.sl (ρ := ρ ++ [(w.heap.size, 0, cs.size)]) m.h.n 0 w.heap.size 0 cs.size st.size 1 k hg k1 (by omega)
      exact .val (s := convert src dst (a.eval x)) (by simp only [execOp, ho]) (by rw [h2]; exact k5) hs' (.inl this)
    · cases hv
  · cases hv

theorem runes_ints (s : ByteArray) : ∀ (n i : Nat) (acc : Array Value), (∀ v ∈ acc.toList, ∃ k, v = .int .i32 k) → ∀ v ∈ (Conv.runesFrom s n i acc).toList, ∃ k, v = .int .i32 k
  | 0, i, acc, h => by simpa [Conv.runesFrom] using h
  | n + 1, i, acc, h => by
    unfold Conv.runesFrom
    split
    · refine runes_ints s n _ _ ?_
      intro v hv
      simp only [Array.toList_push, List.mem_append, List.mem_singleton] at hv
      rcases hv with hv | hv
      · exact h v hv
      · exact ⟨_, hv⟩
    · exact h

theorem size_runes (s : ByteArray) : (Conv.runesFrom s s.size 0 #[]).size ≤ s.size := by
  have := size_runesFrom s s.size 0 #[]
  simpa using this

theorem e_s2r (s : SR P B nt E D ρ lm (fget fr) m a w) {o : Oper} {src dst e : TypeId} {x : Operand} {x' : Opd} (ho : o.op = .convert src dst x) (hx : liftOpd P x = some x') (hs : P.underlying src = some .string) (hd : P.underlying dst = some (.slice e))
    (he : P.underlying e = some (.int .i32)) {call : CallF} {yld : YieldF} {v : Value} {m' : Mem} (hv : (EOp.s2r x').ev call yld fr m = some (v, m')) : EOk P B nt E D (fget fr) m' a v ((execOp a.eval o).run P w) := by
  have h1 := opdRel_act s x x' hx
  simp only [EOp.ev] at hv
  split at hv
  · rename_i st e1
    rw [e1] at h1
    have h2 := h1.string
    split at hv
    · rename_i hle
      injection hv with hv
      injection hv with g1 g2
      subst g1 g2
      have hsz := size_runes st
      have hint := runes_ints st st.size 0 #[] (by simp)
      have hrun := run_runes_of_string (P := P) w src dst e st hs hd he (by omega)
      generalize hR : Conv.runesFrom st st.size 0 #[] = R at *
      have hge := grownCap_ge w R.size 0 e
      have r1 : VRels ρ R.toList R.toList := All2.of_get rfl fun i x y hx hy => by
        rw [hx] at hy
        injection hy with hy
        subst hy
        obtain ⟨k, rfl⟩ := hint x (List.mem_of_getElem? hx)
        exact .int _ _
      have r2 : R.toList.all cellOk = true := List.all_eq_true.2 fun v hv => by obtain ⟨k, rfl⟩ := hint v hv; rfl
      obtain ⟨hs', hg⟩ := s.newH r1 r2 (cs := R ++ Array.replicate (grownCap w R.size 0 e - R.size) (.int .i32 0)) (rest := List.replicate (grownCap w R.size 0 e - R.size) (.int .i32 0)) (by simp) (t := e) (fz := (0, 0)) (unfrozen0 _)
        (w' := w.drew.alloc (.cells (R ++ Array.replicate (grownCap w R.size 0 e - R.size) (.int .i32 0)) e)) rfl ⟨rfl, rfl, rfl, by first | exact Nat.le_refl _ | exact Nat.le_add_right _ _⟩
      have := VRel.sl m.h.n 0 w.heap.size 0 _ R.size 1 (grownCap w R.size 0 e) hg hge (by simp; omega)
      exact .val (s := convert src dst (a.eval x)) (by simp only [execOp, ho]) (by rw [h2]; exact hrun) hs' (.inl this)
    · cases hv
  · cases hv

theorem e_rng (s : SR P B nt E D ρ lm (fget fr) m a w) {o : Oper} {t : TypeId} {x : Operand} {x' : Opd} (ho : o.op = .range t x) (hx : liftOpd P x = some x') (ht : P.underlying t = some .string) {d : Nat} {call : CallF} {yld : YieldF} {v : Value} {m' : Mem}
    (hv : (EOp.rngS d x').ev call yld fr m = some (v, m')) : EOk P B nt E D (fget fr) m' a v ((execOp a.eval o).run P w) := by
  have h1 := opdRel_act s x x' hx
  simp only [EOp.ev] at hv
  split at hv
  · rename_i st e1
    rw [e1] at h1
    have h2 := h1.string
    obtain ⟨m1, hm1, hv⟩ := Option.map_eq_some_iff.1 hv
    injection hv with g1 g2
    subst g1 g2
    obtain ⟨hn, rfl⟩ := newLoc_inv hm1
    have hs := s.newLoc hn (o := .siter st 0) rfl (x := .stringIter st 0) (N := 0) (w' := w.alloc (.stringIter st 0)) rfl ⟨rfl, rfl⟩ (so_alloc _ _)
    refine .val (s := Instr.range t (a.eval x)) (u := .pointer (some ⟨w.heap.size, 0, none⟩)) (by simp only [execOp, ho]) ?_ hs (.inr (.inl ⟨2 * d + 1, 0, w.heap.size, rfl, by simp [setLm], rfl⟩))
    rw [h2]
    simp [Instr.range, run_und ht]
  · cases hv

theorem run_getObj_of {w : World} {c : Nat} {x : Obj} (h : w.heap[c]? = some x) (hx : ∀ cs t fz, x ≠ .cells cs t fz) : (getObj c).run P w = .ok x w := by
  cases x <;> first | exact absurd rfl (hx _ _ _) | simp [getObj, Sem.run, h]
theorem run_setObj_of {w : World} {c : Nat} {x : Obj} (y : Obj) (h : w.heap[c]? = some x) (hx : ∀ cs t fz, x ≠ .cells cs t fz) : (setObj c y).run P w = .ok () (setBlk w c y) := by
  cases x <;> first | exact absurd rfl (hx _ _ _) | simp [setObj, Sem.run, h, setBlk]

theorem e_nxt (s : SR P B nt E D ρ lm (fget fr) m a w) {o : Oper} {x : Operand} {x' : Opd} (ho : o.op = .next x true) (hx : liftOpd P x = some x') {call : CallF} {yld : YieldF} {v : Value} {m' : Mem}
    (hv : (EOp.nxtS x').ev call yld fr m = some (v, m')) : EOk P B nt E D (fget fr) m' a v ((execOp a.eval o).run P w) := by
  have h1 := opdRel_act s x x' hx
  simp only [EOp.ev] at hv
  split at hv
  · rename_i p e1
    rw [e1] at h1
    obtain ⟨p', e2, hsp⟩ := h1.psome
    rw [e2] at h1
    split at hv
    · rename_i hoff
      split at hv
      · rename_i st pos hobj
        obtain ⟨δ, N, ob, k1, k2, k3⟩ := s.objAt h1 hobj
        have k2' := k2
        cases ob <;> simp only [ORel] at k2 <;> first | exact k2.elim | skip
        obtain ⟨rfl, rfl⟩ := k2
        rcases h1 with h | ⟨nm, of, c, g1, g2, g3⟩ | ⟨_, _, _, _, g, _⟩
        · cases h; simp at hoff
        · injection g1 with g1; injection g1 with g1; injection g3 with g3; injection g3 with g3
          subst g1 g3
          have hof : of = 0 := hoff.1
          subst hof
          split at hv
          · rename_i hlt
            injection hv with hv
            injection hv with g1 g4
            subst g1 g4
            have hs := s.putObj (.inr (.inl ⟨nm, 0, c, rfl, g2, rfl⟩)) hobj rfl (o' := .siter st (pos + (Utf8.decode st pos).2)) rfl k1 k2' (x' := .stringIter st (pos + (Utf8.decode st pos).2)) (fun _ _ _ _ => ⟨rfl, rfl⟩) (w' := setBlk w c (.stringIter st (pos + (Utf8.decode st pos).2))) rfl (so_setBlk _ _ _)
            refine .val (s := Instr.next (a.eval x) true o.type) (u := .tuple #[.bool true, .int .i64 pos, .int .i32 (Utf8.decode st pos).1]) (by simp only [execOp, ho]) ?_ hs (.inl (.tuple _ _ rfl fun i x y hx hy => ?_))
            · rw [e2]
              have hget := run_getObj_of (P := P) k1 (by simp)
              have hset := run_setObj_of (P := P) (.stringIter st (pos + (Utf8.decode st pos).2)) k1 (by simp)
              simp only [Instr.next, Sem.run_bind, hget, Result.andThen_ok, hlt, if_true, hset]
              rfl
            · rw [hx] at hy
              injection hy with hy
              subst hy
              match i, hx with
              | 0, hx => simp at hx; subst hx; exact .bool _
              | 1, hx => simp at hx; subst hx; exact .int _ _
              | 2, hx => simp at hx; subst hx; exact .int _ _
              | i + 3, hx => simp at hx
          · rename_i hlt
            injection hv with hv
            injection hv with g1 g4
            subst g1 g4
            refine .val (s := Instr.next (a.eval x) true o.type) (u := .tuple #[.bool false]) (by simp only [execOp, ho]) ?_ s (.inl (.tuple _ _ rfl fun i x y hx hy => ?_))
            · rw [e2]
              have hget := run_getObj_of (P := P) k1 (by simp)
              simp only [Instr.next, Sem.run_bind, hget, Result.andThen_ok, hlt, if_false]
              rfl
            · rw [hx] at hy
              injection hy with hy
              subst hy
              match i, hx with
              | 0, hx => simp at hx; subst hx; exact .bool _
              | i + 1, hx => simp at hx
        · cases g
      · cases hv
    · cases hv
  · cases hv

end Go.Proofs.Ytanpdopjgepbkaa.AM
