/-
  Operations that turn memory: append, copy, make.
-/
import Derived.Test.YtanpdopjgepbkaaAmEff2
import Derived.Laws.Append
set_option linter.unusedVariables false
set_option linter.unusedSimpArgs false
namespace Go.Proofs.Ytanpdopjgepbkaa.AM
open Go

variable {P : Program} {B nt : Nat} {E : Ent} {D : List Nat} {ρ : Rho} {lm : Nat → Option Nat} {fr : Fr} {m : Mem} {a : Act} {w : World} {g : Nat → Value}

theorem cell_heap {w w2 : World} (h : w2.heap = w.heap) (p : Addr) : w2.cell? p = w.cell? p := by unfold World.cell?; rw [h]

/-- What is appended or copied. -/
theorem SR.source (s : SR P B nt E D ρ lm g m a w) {y u : Value} (h : VRelF ρ lm y u) {esz k : Nat} {ys : List Value} (hk : lenV y = some k) (hy : rdSlice m esz y = some ys) (hl : ys.length = k * esz) :
    (Builtin.lenOf u).run P w = .ok k w ∧ ∀ j, j ≤ k → ∃ us : List Value, us.length = j * esz ∧ VRels ρ (ys.take (j * esz)) us ∧ ys.all cellOk = true ∧ (∀ w2 : World, w2.heap = w.heap → (Builtin.firstCells esz j u).run P w2 = .ok us.toArray w2) := by
  cases y <;> try (cases hk; done)
  case string st =>
    simp only [lenV, Option.some.injEq] at hk
    subst hk
    obtain rfl := h.string
    simp only [rdSlice, Option.some.injEq] at hy
    subst hy
    have hb : st.data.size = st.size := rfl
    refine ⟨by simp [Builtin.lenOf], fun j hj => ?_⟩
    obtain ⟨r1, r2⟩ := bytes_rel (ρ := ρ) st
    have hesz : esz = 1 ∨ st.size = 0 := by
      simp [hb] at hl
      rcases Nat.eq_zero_or_pos st.size with h0 | h0
      · exact .inr h0
      · left
        have : st.size * 1 = st.size * esz := by omega
        exact (Nat.eq_of_mul_eq_mul_left h0 this).symm
    have hje : j * esz = j := by
      rcases hesz with rfl | h0
      · simp
      · have : j = 0 := by omega
        subst this; simp
    rw [hje]
    have h3 : VRels ρ ((st.data.toList.map fun b => Value.int .u8 (b.toNat : Int)).take j) ((st.data.toList.map fun b => Value.int .u8 (b.toNat : Int)).take j) := All2.take r1 j
    refine ⟨_, by simp [hb]; omega, h3, r2, ?_⟩
    have e : ((st.extract 0 j).data.map fun b => Value.int .u8 (b.toNat : Int)) = ((st.data.toList.map fun b => Value.int .u8 (b.toNat : Int)).take j).toArray := by
      rw [← Array.toList_inj]
      simp [ByteArray.data_extract]
    intro w2 _
    simp only [Builtin.firstCells, e]
    rfl
  case slice p n e =>
    simp only [lenV, Option.some.injEq] at hk
    subst hk
    cases p with
    | none =>
      obtain ⟨rfl, rfl, rfl⟩ := h.snil
      simp only [rdSlice, Option.some.injEq] at hy
      subst hy
      refine ⟨by simp [Builtin.lenOf], fun j hj => ?_⟩
      have : j = 0 := by omega
      subst this
      exact ⟨[], by simp, by simp; exact .nil, rfl, fun w2 _ => by simp [Builtin.firstCells]⟩
    | some p =>
      simp only [rdSlice] at hy
      by_cases hn0 : n = 0
      · subst hn0
        simp only [if_true, Option.some.injEq] at hy
        subst hy
        have hu : ∃ q kk, u = .slice (some q) 0 kk := by
          rcases h with h | ⟨nm, o, c, h1, _⟩ | ⟨nm, n', e', c, h1, h2, h3⟩
          · cases h with
            | sl b o c δ N n e k h h1 h2 => exact ⟨_, _, rfl⟩
            | slZ a a' e => exact ⟨_, _, rfl⟩
          · cases h1
          · injection h1 with h1 h4 h5
            subst h4
            exact ⟨_, _, h3⟩
        obtain ⟨q, kk, rfl⟩ := hu
        refine ⟨by simp [Builtin.lenOf], fun j hj => ?_⟩
        have : j = 0 := by omega
        subst this
        refine ⟨[], by simp, by simp; exact .nil, rfl, fun w2 _ => ?_⟩
        have := run_loadCells_list (P := P) w2 q [] (fun i v hv => by simp at hv)
        simpa [Builtin.firstCells] using this
      rw [if_neg hn0] at hy
      obtain ⟨p', c, rfl, us, g1, g2, g3, g4, g5⟩ := s.slice h hy (fun h => by simp [h])
      refine ⟨by simp [Builtin.lenOf], fun j hj => ?_⟩
      refine ⟨us.take (j * esz), ?_, All2.take g2 _, g3, ?_⟩
      · have : j * esz ≤ n * esz := Nat.mul_le_mul_right _ hj
        simp; omega
      · intro w2 hw2
        have := run_loadCells_list (P := P) w2 p' (us.take (j * esz)) (fun i v hv => by
          rw [cell_heap hw2]
          have hi : i < j * esz := by
            have := (List.getElem?_eq_some_iff.1 hv).1
            simp at this; omega
          rw [List.getElem?_take_of_lt hi] at hv
          exact g5 i v hv)
        have hlen : (us.take (j * esz)).length = j * esz := by
          have : j * esz ≤ n * esz := Nat.mul_le_mul_right _ hj
          simp; omega
        rw [hlen] at this
        simpa [Builtin.firstCells] using this

theorem notInt {d : TypeDesc} (h : d = .string ∨ ∃ e, d = .slice e) : (match d with | .int _ => true | _ => false) = false := by
  rcases h with rfl | ⟨e, rfl⟩ <;> rfl

/-- append where there is room. -/
theorem run_app_room {w : World} {t u ty e : TypeId} {d : TypeDesc} {i : TypeInfo} (ht : P.underlying t = some (.slice e)) (hu : P.underlying u = some d) (hd : d = .string ∨ ∃ e, d = .slice e) (hi : P.info? e = some i) {base : Option Addr} {n k cap : Nat} {y : Value}
    (hl : (Builtin.lenOf y).run P w = .ok k w) {us : List Value} (hf : (Builtin.firstCells i.size k y).run P w = .ok us.toArray w) (hroom : n + k ≤ cap) :
    (Builtin.append_ #[t, u] ty #[.slice base n cap, y]).run P w = (match base with
      | some p => (storeCells (p.add (n * i.size)) us).run P w
      | none => .ok () w).andThen fun _ w' => .ok (.slice base (n + k) cap) w' := by
  have hs := run_szOf (P := P) (t := e) (n := i.size) (by simp [szOf, hi]) w
  unfold Builtin.append_
  rcases hd with rfl | ⟨e', rfl⟩ <;> cases base <;> simp [run_und ht, run_und hu, hs, hl, hf, hroom]

theorem size_zeroCells (z : Array Value) (n : Nat) : (Builtin.zeroCells z n).size = n * z.size := by simp [Builtin.zeroCells]

/-- append where a new row is laid. -/
theorem run_app_grow {w : World} {t u ty e : TypeId} {d : TypeDesc} {i : TypeInfo} {z : Value} (ht : P.underlying t = some (.slice e)) (hu : P.underlying u = some d) (hd : d = .string ∨ ∃ e, d = .slice e) (hi : P.info? e = some i) (hz : i.zero = some z)
    {base : Option Addr} {n k cap : Nat} {y : Value} (hl : (Builtin.lenOf y).run P w = .ok k w) {us olds : List Value} (hf : (Builtin.firstCells i.size k y).run P w.drew = .ok us.toArray w.drew)
    (ho : (Builtin.firstCells i.size n (.slice base n cap)).run P w.drew = .ok olds.toArray w.drew) (hroom : ¬ n + k ≤ cap) (hb : (n + k) * i.bytes ≤ 140737488355328) (hb0 : 0 < i.bytes) :
    ∃ (c : Nat) (cs : Array Value) (rest : List Value), n + k ≤ c ∧ cs.toList = (olds ++ us) ++ rest ∧ rest.length = (c - (n + k)) * z.cells.size ∧
      (Builtin.append_ #[t, u] ty #[.slice base n cap, y]).run P w = .ok (.slice (some ⟨w.heap.size, 0, none⟩) (n + k) c) (w.drew.alloc (.cells cs e)) := by
  have hs := run_szOf (P := P) (t := e) (n := i.size) (by simp [szOf, hi]) w
  have hfit := growslice_fits (need := n + k) (old := cap) (bytes := i.bytes) (by omega) hb
  have hge := grownCap_ge w (n + k) cap e
  have hti : ∀ w : World, (typeInfo e).run P w = .ok i w := fun w => by simp [typeInfo, hi]
  refine ⟨grownCap w (n + k) cap e, olds.toArray ++ (us.toArray ++ Builtin.zeroCells z.cells (grownCap w (n + k) cap e - (n + k))), (Builtin.zeroCells z.cells (grownCap w (n + k) cap e - (n + k))).toList, hge, by simp, by simp [size_zeroCells], ?_⟩
  have hzr : ∀ w : World, (zeroValue e).run P w = .ok z w := fun w => run_zero hi hz w
  have h2 : ¬ (Builtin.nextslicecap (n + k) cap * i.bytes > 2 ^ 48) := by omega
  have hroomRun : ∀ (q : Nat) (w : World), (askRoom q).run P w = .ok () w := fun q w => by
    unfold askRoom
    split
    · simp [mark, Sem.run]
    · rfl
  unfold Builtin.append_
  rcases hd with rfl | ⟨e', rfl⟩ <;> simp [run_und ht, run_und hu, hs, hl, hroom, hti, hzr, hroomRun, hf, ho, Question.forced, newRow, grownCap, show i.bytes ≠ 0 by omega, show ¬ (281474976710656 < Builtin.nextslicecap (n + k) cap * i.bytes) by omega, Array.append_assoc] <;> simp

theorem SR.source_all (s : SR P B nt E D ρ lm g m a w) {y u : Value} (h : VRelF ρ lm y u) {esz k : Nat} {ys : List Value} (hk : lenV y = some k) (hy : rdSlice m esz y = some ys) (hl : ys.length = k * esz) :
    (Builtin.lenOf u).run P w = .ok k w ∧ ∃ us : List Value, us.length = k * esz ∧ VRels ρ ys us ∧ ys.all cellOk = true ∧ ∀ w2 : World, w2.heap = w.heap → (Builtin.firstCells esz k u).run P w2 = .ok us.toArray w2 := by
  obtain ⟨h1, h2⟩ := s.source h hk hy hl
  obtain ⟨us, k1, k2, k3, k4⟩ := h2 k (Nat.le_refl _)
  rw [List.take_of_length_le (by omega)] at k2
  exact ⟨h1, us, k1, k2, k3, k4⟩

theorem rels_one {xs us : List Value} (h : VRels ρ xs us) (hk : xs.all cellOk = true) : ∀ u ∈ us, u.oneCell' = true := by
  induction h with
  | nil => intro x hx; cases hx
  | cons h _ ih =>
    simp only [List.all_cons, Bool.and_eq_true] at hk
    intro x hx
    rcases List.mem_cons.1 hx with rfl | hx
    · exact h.one hk.1
    · exact ih hk.2 x hx

theorem e_append (s : SR P B nt E D ρ lm (fget fr) m a w) {t u e : TypeId} {d : TypeDesc} {i : TypeInfo} (ht : P.underlying t = some (.slice e)) (hu : P.underlying u = some d) (hd : d = .string ∨ ∃ e, d = .slice e) (hi : P.info? e = some i)
    (hz : (i.zero.map fun z => z.cells.size) = some i.size) {x y : Operand} {x' y' : Opd} (hx : liftOpd P x = some x') (hy : liftOpd P y = some y') (ty : TypeId) {v : Value} {m' : Mem} (hv : appendA i.size i.bytes m (opd fr x') (opd fr y') = some (v, m')) :
    ∃ r w' ρ', (Builtin.append_ #[t, u] ty #[a.eval x, a.eval y]).run P w = .ok r w' ∧ SR P B nt E D ρ' lm (fget fr) m' a w' ∧ VRelF ρ' lm v r := by
  have h1 := opdRel_act s x x' hx
  have h2 := opdRel_act s y y' hy
  obtain ⟨z, hz1, hz2⟩ := Option.map_eq_some_iff.1 hz
  unfold appendA at hv
  split at hv
  · rename_i k ys hk hys
    split at hv
    · rename_i hlen
      obtain ⟨hlo, us, u1, u2, u3, u4⟩ := s.source_all h2 hk hys hlen
      have hone := rels_one u2 u3
      split at hv
      · -- nil
        rename_i n e0 ex
        rw [ex] at h1
        obtain ⟨e1, rfl, _⟩ := h1.snil
        rw [e1]
        simp only [if_true] at hv
        split at hv
        · rename_i hk0
          subst hk0
          injection hv with hv
          injection hv with g1 g2
          subst g1 g2
          refine ⟨.slice none 0 0, w, ρ, ?_, s, .inl .slNil⟩
          rw [run_app_room ht hu hd hi hlo (u4 w rfl) (by omega)]
          simp
        · rename_i hk0
          split at hv
          · rename_i hb
            injection hv with hv
            injection hv with g1 g2
            subst g1 g2
            obtain ⟨c, cs, rest, c1, c2, c3, c4⟩ := run_app_grow (P := P) (w := w) (ty := ty) (base := none) (n := 0) (cap := 0) ht hu hd hi hz1 hlo (u4 w.drew rfl) (olds := []) (by simp [Builtin.firstCells]) (by omega) (by simpa using hb.1) hb.2.1
            obtain ⟨hs', hg⟩ := s.newH u2 u3 (cs := cs) (rest := rest) (by simpa using c2) (t := e) (fz := (0, 0)) (unfrozen0 _) (w' := w.drew.alloc (.cells cs e)) rfl ⟨rfl, rfl, rfl, by first | exact Nat.le_refl _ | exact Nat.le_add_right _ _⟩
            have hcs : cs.size = c * i.size := by
              rw [← Array.length_toList, c2]
              simp only [List.nil_append, List.length_append, u1, c3, hz2]
              rw [← Nat.add_mul]; congr 1; omega
            have := VRel.sl m.h.n 0 w.heap.size 0 _ k i.size c hg (by omega) (by rw [hcs]; simp)
            refine ⟨_, _, _, c4, hs', .inl ?_⟩
            simpa using this
          · cases hv
      · -- not nil
        rename_i p n e0 ex
        rw [ex] at h1
        split at hv
        · rename_i hk0
          obtain ⟨rfl, hsp⟩ := hk0
          injection hv with hv
          injection hv with g1 g2
          subst g1 g2
          have us0 : us = [] := List.eq_nil_of_length_eq_zero (by simpa using u1)
          subst us0
          obtain ⟨p', c, e1⟩ := h1.ssome
          have hnc : n ≤ c := by
            rw [e1] at h1
            rcases h1 with h | ⟨_, _, _, h, _⟩ | ⟨nm, n', e', c', h, _⟩
            · cases h with
              | sl b o c δ N n e k h h1 h2 => exact h1
              | slZ => exact Nat.le_refl _
            · cases h
            · injection h with h _ _; injection h with h; subst h; simp [loc] at hsp
          refine ⟨.slice (some p') n c, w, ρ, ?_, s, by rw [← e1]; exact h1⟩
          rw [e1, run_app_room ht hu hd hi hlo (u4 w rfl) (by omega)]
          simp [storeCells]
        · split at hv
          · rename_i hk0 _ _ xs hsp hob
            split at hv
            · rename_i hb
              obtain ⟨b1, b2, b3, b4, rfl⟩ := hb
              injection hv with hv
              injection hv with g1 g2
              subst g1 g2
              have hkpos : 0 < k := by
                rcases Nat.eq_zero_or_pos k with h0 | h0
                · exact absurd ⟨h0, by rw [hsp]; rfl⟩ hk0
                · exact h0
              obtain ⟨b, o, sp⟩ := p
              simp only at hsp hob b1
              subst hsp
              have hrel : VRel ρ (.slice (some ⟨b, o, none⟩) n i.size) (a.eval x) := by
                rcases h1 with h | ⟨_, _, _, h, _⟩ | ⟨nm, n', e', c', h, _⟩
                · exact h
                · cases h
                · injection h with h _ _; injection h with h; cases h
              have skill := s.kill b
              obtain ⟨c0, δ, N, ob, r1, r2, r3, r4, _⟩ := s.heap.live b _ hob
              cases ob <;> simp only [ORel] at r3 <;> first | exact r3.elim | skip
              rename_i cur tt fz
              obtain ⟨f1, f2, f3, f4⟩ := r3
              generalize hax : a.eval x = ax at hrel
              cases hrel with
              | sl _ _ c1 δ1 N1 _ _ cap g1 g2 g3 =>
                rw [r1] at g1
                injection g1 with g1
                injection g1 with g1 g4
                injection g4 with g4 g5
                subst g1 g4 g5
                by_cases hroom : n + k ≤ cap
                · -- in place
                  have hadd : (⟨c0, δ + o, none⟩ : Addr).add (n * i.size) = ⟨c0, δ + o + n * i.size, none⟩ := by rw [add_off _ rfl]; rfl
                  have hcap : n * i.size + k * i.size ≤ cap * i.size := by rw [← Nat.add_mul]; exact Nat.mul_le_mul_right _ hroom
                  have hst := run_storeCells P c0 (δ + o + n * i.size) tt fz us 0 cur w r2 (by omega) (by rw [f1]; exact f3 trivial) hone
                  refine ⟨.slice (some ⟨c0, δ + o, none⟩) (n + k) cap, setBlk w c0 (.cells (setAll cur.toList (δ + o + n * i.size) us).toArray tt fz), ρ ++ [(c0, δ + o, N)], ?_, ?_, .inl ?_⟩
                  · rw [run_app_room ht hu hd hi hlo (u4 w rfl) hroom]
                    simp only [hadd, hst, Result.andThen_ok]
                    rfl
                  · have hmut : Mut ρ m.h c0 := ⟨b, _, δ, N, hob, rfl, r1⟩
                    have hlt := (Array.getElem?_eq_some_iff.1 r2).1
                    refine skill.pushAt rfl (by simp [setBlk]) (setBlk_get r2) ?_ (r4 rfl) (fun b1 o1 c1 δ1 N1 q1 q2 => ?_) (fun hc => s.tr.img c0 hc hmut) (fun nm hn => ?_) (fun hd' => (s.marks c0 hd').2.2.1 hmut) (fun c' hne hlt' => ?_) (so_setBlk _ _ _)
                    · have hext := Ext.snoc ρ (c0, δ + o, N)
                      refine ⟨by simp [setAll_length]; exact f1, by simp [u2.length.trans u1]; omega, fun _ => f3 trivial, ?_⟩
                      have hrels := u2.mono hext
                      intro j v hj
                      have hj : (xs.drop o ++ ys)[j]? = some v := hj
                      have hdl : (xs.drop o).length = n * i.size := by simp; omega
                      have hg : (setAll cur.toList (δ + o + n * i.size) us).toArray[δ + o + j]? = (setAll cur.toList (δ + o + n * i.size) us)[δ + o + j]? := by simp
                      rw [hg, setAll_get _ _ _ _ (by simp; omega)]
                      by_cases hjn : j < n * i.size
                      · rw [List.getElem?_append_left (by omega), List.getElem?_drop] at hj
                        rw [if_neg (by omega)]
                        obtain ⟨q1, q2, q3, q4⟩ := f4 (o + j) v hj
                        exact ⟨q1, q2, by simpa [Nat.add_assoc] using q3, q4.mono hext⟩
                      · rw [List.getElem?_append_right (by omega), hdl] at hj
                        obtain ⟨uu, q1, q2⟩ := All2.get hrels _ v hj
                        have hlt2 := (List.getElem?_eq_some_iff.1 q1).1
                        rw [if_pos (by omega)]
                        have : δ + o + j - (δ + o + n * i.size) = j - n * i.size := by omega
                        rw [this]
                        exact ⟨List.all_eq_true.1 u3 v (List.mem_of_getElem? hj), uu, q1, q2⟩
                    · have hne : b1 ≠ b := fun hh => by subst hh; rw [AH.get_kill_same] at q1; cases q1
                      rw [AH.get_kill_ne hne] at q1
                      exact fun hc => s.heap.inj b b1 _ o1 c0 δ N c1 δ1 N1 hob q1 (Ne.symm hne) rfl r1 q2 hc.symm
                    · have hl := s.lcs nm
                      cases hlg : lget m.lc nm with
                      | none => rw [hlg] at hl; simp only at hl; rw [hl] at hn; cases hn
                      | some o1 =>
                        rw [hlg] at hl
                        obtain ⟨c1, x1, k1, _, k3, _⟩ := hl
                        rw [hn] at k1
                        injection k1 with k1
                        subst k1
                        exact k3 hmut
                    · unfold setBlk
                      simp [Array.getElem?_setIfInBounds_ne (Ne.symm hne)]
                  · have hg : (ρ ++ [(c0, δ + o, N)])[m.h.n]? = some (c0, δ + o, N) := by rw [← s.heap.len]; exact get_snoc_eq _ _
                    have := VRel.sl m.h.n 0 c0 (δ + o) N (n + k) i.size cap hg hroom (by omega)
                    simpa using this
                · -- a new row
                  have hrd : m.rd ⟨b, o, none⟩ (n * i.size) = some (xs.drop o) := by
                    unfold Mem.rd Mem.obj
                    simp only [hob]
                    rw [if_pos (by omega)]
                    rw [List.take_of_length_le (by simp; omega)]
                  have s2 : SR P B nt E D ρ lm (fget fr) m a w.drew := s.world rfl ⟨rfl, rfl, rfl, by first | exact Nat.le_refl _ | exact Nat.le_add_right _ _⟩
                  obtain ⟨olds, o1, o2, o3, o4, _⟩ := s2.rd (.inl (.ptr b o c0 δ N r1)) hrd
                  obtain ⟨c, cs, rest, c1, c2, c3, c4⟩ := run_app_grow (P := P) (w := w) (ty := ty) (base := some ⟨c0, δ + o, none⟩) (n := n) (cap := cap) ht hu hd hi hz1 hlo (u4 w.drew rfl) (olds := olds) (by simpa [Builtin.firstCells] using o4) hroom b2 b3
                  obtain ⟨hs', hg⟩ := skill.newH (All2.append o2 u2) (by rw [List.all_append, o3, u3]; rfl) (cs := cs) (rest := rest) c2 (t := e) (fz := (0, 0)) (unfrozen0 _) (w' := w.drew.alloc (.cells cs e)) rfl ⟨rfl, rfl, rfl, by first | exact Nat.le_refl _ | exact Nat.le_add_right _ _⟩
                  have hcs : cs.size = c * i.size := by
                    rw [← Array.length_toList, c2]
                    simp only [List.length_append, u1, o1, c3, hz2]
                    rw [← Nat.add_mul, ← Nat.add_mul]; congr 1; omega
                  have := VRel.sl m.h.n 0 w.heap.size 0 _ (n + k) i.size c hg (by omega) (by rw [hcs]; simp)
                  refine ⟨_, _, _, c4, hs', .inl ?_⟩
                  simpa using this
              | slZ a0 a1 e1 =>
                obtain ⟨c, cs, rest, c1, c2, c3, c4⟩ := run_app_grow (P := P) (w := w) (ty := ty) (base := some a1) (n := 0) (cap := 0) ht hu hd hi hz1 hlo (u4 w.drew rfl) (olds := []) (by simp [Builtin.firstCells, loadCells, loadCellsFrom]) (by omega) b2 b3
                have hd0 : xs.drop o = [] := by
                  apply List.eq_nil_of_length_eq_zero
                  simp; omega
                obtain ⟨hs', hg⟩ := skill.newH u2 u3 (cs := cs) (rest := rest) (by simpa using c2) (t := e) (fz := (0, 0)) (unfrozen0 _) (w' := w.drew.alloc (.cells cs e)) rfl ⟨rfl, rfl, rfl, by first | exact Nat.le_refl _ | exact Nat.le_add_right _ _⟩
                have hcs : cs.size = c * i.size := by
                  rw [← Array.length_toList, c2]
                  simp only [List.nil_append, List.length_append, u1, c3, hz2]
                  rw [← Nat.add_mul]; congr 1; omega
                have := VRel.sl m.h.n 0 w.heap.size 0 _ k i.size c hg (by omega) (by rw [hcs]; simp)
                refine ⟨_, _, _, c4, by rw [hd0]; exact hs', .inl ?_⟩
                simpa using this
            · cases hv
          · cases hv
      · cases hv
    · cases hv
  · cases hv

theorem e_copy (s : SR P B nt E D ρ lm (fget fr) m a w) {t e : TypeId} {n : Nat} (ht : P.underlying t = some (.slice e)) (hn : szOf P e = some n) {x y : Operand} {x' y' : Opd} (hx : liftOpd P x = some x') (hy : liftOpd P y = some y') (ats : Array TypeId) (hat : ats[0]? = some t) (ty : TypeId) {call : CallF} {yld : YieldF} {v : Value} {m' : Mem}
    (hv : (EOp.copy n x' y').ev call yld fr m = some (v, m')) :
    ∃ r w', (Builtin.copy_ ats ty #[a.eval x, a.eval y]).run P w = .ok r w' ∧ SR P B nt E D ρ lm (fget fr) m' a w' ∧ VRelF ρ lm v r := by
  have h1 := opdRel_act s x x' hx
  have h2 := opdRel_act s y y' hy
  simp only [EOp.ev] at hv
  split at hv
  · rename_i p dn e0 k ys ex hk hys
    rw [ex] at h1
    split at hv
    · rename_i hlen
      obtain ⟨hlo, hsrc⟩ := s.source h2 hk hys hlen
      obtain ⟨us, u1, u2, u3, u4⟩ := hsrc (min k dn) (Nat.min_le_left _ _)
      have hs := run_szOf hn w
      have hmin : Nat.min k dn = min k dn := rfl
      split at hv
      · rename_i h0
        injection hv with hv
        injection hv with g1 g2
        subst g1 g2
        rw [h0] at u1 u4
        have us0 : us = [] := List.eq_nil_of_length_eq_zero (by simpa using u1)
        subst us0
        refine ⟨.int .i64 0, w, ?_, s, .inl (.int _ _)⟩
        cases p with
        | none =>
          obtain ⟨e1, _, _⟩ := h1.snil
          obtain ⟨_, rfl, _⟩ := h1.snil
          rw [e1]
          have h00 : Nat.min k 0 = 0 := Nat.min_zero k
          simp [Builtin.copy_, hat, run_und ht, hlo, hs, h00, u4 w rfl, goInt]
        | some p =>
          obtain ⟨p', c, e1⟩ := h1.ssome
          rw [e1]
          have h00 : Nat.min k dn = 0 := h0
          simp [Builtin.copy_, hat, run_und ht, hlo, hs, h00, u4 w rfl, goInt, storeCells]
      · rename_i h0
        split at hv
        · rename_i p
          obtain ⟨m1, hm1, hv⟩ := Option.map_eq_some_iff.1 hv
          injection hv with g1 g2
          subst g1 g2
          have hadr : ∃ p' c, a.eval x = .slice (some p') dn c ∧ VRelF ρ lm (.pointer (some p)) (.pointer (some p')) := by
            rcases h1 with h | ⟨_, _, _, h, _⟩ | ⟨nm, n', e', c', h, g2, g3⟩
            · generalize a.eval x = ax at h
              cases h with
              | sl b o c δ N n e k h h1 h2 => exact ⟨_, _, rfl, .inl (.ptr b o c δ N h)⟩
              | slZ a0 a1 e1 => simp at h0
            · cases h
            · injection h with q1 q2 q3
              injection q1 with q1
              subst q1 q2 q3
              exact ⟨_, _, g3, .inr (.inl ⟨nm, 0, c', rfl, g2, rfl⟩)⟩
          obtain ⟨p', c, e1, hp⟩ := hadr
          have u3' : (ys.take (min k dn * n)).all cellOk = true := List.all_eq_true.2 fun v hv => List.all_eq_true.1 u3 v (List.mem_of_mem_take hv)
          obtain ⟨w', hst, hs'⟩ := s.wr hp u2 u3' (rels_one u2 u3') hm1
          refine ⟨.int .i64 (min k dn : Nat), w', ?_, hs', .inl (.int _ _)⟩
          rw [e1]
          have hmm : (Builtin.firstCells n (Nat.min k dn) (a.eval y)).run P w = .ok us.toArray w := u4 w rfl
          simp [Builtin.copy_, hat, run_und ht, hlo, hs, hmm, hst, goInt]
        · cases hv
    · cases hv
  · cases hv

theorem e_mks (s : SR P B nt E D ρ lm (fget fr) m a w) {t e : TypeId} {i : TypeInfo} (ht : P.underlying t = some (.slice e)) (hi : P.info? e = some i) {z : List Value} (hz : zeroOf P e = some z) {x y : Operand} {x' y' : Opd} (hx : liftOpd P x = some x') (hy : liftOpd P y = some y') {call : CallF} {yld : YieldF} {v : Value} {m' : Mem}
    (hv : (EOp.mks i.size i.bytes z x' y').ev call yld fr m = some (v, m')) :
    ∃ r w' ρ', (Instr.makeSlice t (a.eval x) (a.eval y)).run P w = .ok r w' ∧ SR P B nt E D ρ' lm (fget fr) m' a w' ∧ VRelF ρ' lm v r := by
  have h1 := opdRel_act s x x' hx
  have h2 := opdRel_act s y y' hy
  obtain ⟨it, zv, hi', hzv, rfl, hfl⟩ := zero_rel hz
  rw [hi] at hi'
  injection hi' with hi'
  subst hi'
  simp only [EOp.ev] at hv
  split at hv
  · rename_i l c el ec
    rw [el] at h1; rw [ec] at h2
    split at hv
    · rename_i hb
      obtain ⟨b0, b1, b2, b3, b4, b5⟩ := hb
      injection hv with hv
      injection hv with g1 g2
      subst g1 g2
      have hwl : IntKind.i64.wrap l = l := by
        unfold IntKind.wrap; simp [IntKind.bits, IntKind.signed]; omega
      have hwc : IntKind.i64.wrap c = c := by
        unfold IntKind.wrap; simp [IntKind.bits, IntKind.signed]; omega
      have hzs : zv.cells.size = i.size := by simpa using b4
      have hti : (typeInfo e).run P w = .ok i w := by simp [typeInfo, hi]
      have hroomRun : ∀ (q : Nat) (w : World), (askRoom q).run P w = .ok () w := fun q w => by
        unfold askRoom
        split
        · simp [mark, Sem.run]
        · rfl
      have hs := run_szOf (P := P) (t := e) (n := i.size) (by simp [szOf, hi]) w
      have hf := litCells_flat hfl c.toNat
      obtain ⟨r1, r2⟩ := all_flat (ρ := ρ) hf
      have hf2 := litCells_flat hfl l.toNat
      obtain ⟨r3, r4⟩ := all_flat (ρ := ρ) hf2
      have hsplit : litCells c.toNat zv.cells.toList = litCells l.toNat zv.cells.toList ++ litCells (c.toNat - l.toNat) zv.cells.toList := by
        unfold litCells
        rw [← List.flatten_append, List.replicate_append_replicate]
        congr 2
        omega
      let cs : Array Value := (Array.range (c.toNat * i.size)).map (zv.cells[· % zv.cells.size]!)
      have hcs : cs.toList = litCells c.toNat zv.cells.toList := by simp only [cs, ← hzs]; exact litCells_eq _ _
      have hsz : cs.size = c.toNat * i.size := by simp [cs]
      obtain ⟨hs', hg⟩ := s.newH r3 r4 (cs := cs) (rest := litCells (c.toNat - l.toNat) zv.cells.toList) (by rw [hcs, hsplit]) (t := e) (fz := (0, 0)) (unfrozen0 _) (w' := w.alloc (.cells cs e)) rfl (so_alloc _ _)
      have := VRel.sl m.h.n 0 w.heap.size 0 _ l.toNat i.size c.toNat hg (by omega) (by rw [hsz]; simp)
      refine ⟨.slice (some ⟨w.heap.size, 0, none⟩) l.toNat c.toNat, _, _, ?_, hs', .inl (by simpa using this)⟩
      rw [h1.int, h2.int]
      have hbig : ¬ (281474976710656 < (i.bytes : Int) * c) := by rw [Int.mul_comm]; omega
      have hzr := run_zero hi hzv w
      by_cases h0 : c.toNat * i.size = 0
      · have hc0 : c.toNat = 0 := by
          rcases Nat.mul_eq_zero.1 h0 with h | h
          · exact h
          · omega
        have hcs0 : cs = #[] := by rw [← Array.toList_inj, hcs, hc0]; rfl
        rw [hcs0]
        simp [Instr.makeSlice, run_und ht, asInt, asIntOf, hti, hwl, hwc, hroomRun, hs, hc0, newRow, show ¬ (c < 0) by omega, show ¬ (l < 0) by omega, show ¬ (c < l) by omega, hbig]
        congr 2
        exact Array.eq_empty_of_size_eq_zero (by simp)
      · simp [Instr.makeSlice, run_und ht, asInt, asIntOf, hti, hwl, hwc, hroomRun, hs, h0, newRow, show ¬ (c < 0) by omega, show ¬ (l < 0) by omega, show ¬ (c < l) by omega, hbig, hzr, cs]
    · cases hv
  · cases hv

end Go.Proofs.Ytanpdopjgepbkaa.AM
