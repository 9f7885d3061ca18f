/-
  Operations that read memory: what the machine reads is what the model reads.
-/
import Derived.Test.YtanpdopjgepbkaaAmPure5
import Derived.Laws.BytesArg
import Derived.Laws.Cover4
set_option linter.unusedVariables false
set_option linter.unusedSimpArgs false
namespace Go.Proofs.Ytanpdopjgepbkaa.AM
open Go

variable {P : Program} {B nt : Nat} {E : Ent} {D : List Nat} {ρ : Rho} {lm : Nat → Option Nat} {fr : Fr} {m : Mem} {a : Act} {w : World} {g : Nat → Value}

/-- Cells that are read. -/
theorem SR.rd (s : SR P B nt E D ρ lm g m a w) {p p' : Addr} (hp : VRelF ρ lm (.pointer (some p)) (.pointer (some p'))) {n : Nat} {l : List Value} (h : m.rd p n = some l) :
    ∃ us : List Value, us.length = n ∧ VRels ρ l us ∧ l.all cellOk = true ∧ (loadCells p' n).run P w = .ok us.toArray w ∧ ∀ j u, us[j]? = some u → w.cell? (p'.add j) = some u := by
  unfold Mem.rd at h
  split at h
  · rename_i ro xs ho
    split at h
    · rename_i hle
      injection h with h
      subst h
      obtain ⟨δ, N, x, h1, h2, h3⟩ := s.objAt hp ho
      cases x <;> simp only [ORel] at h2 <;> first | exact h2.elim | skip
      rename_i cs t fz
      obtain ⟨e1, e2, e3, e4⟩ := h2
      have hcell : ∀ j, j < n → ∃ v u, xs[p.off + j]? = some v ∧ cs[δ + (p.off + j)]? = some u ∧ VRel ρ v u ∧ cellOk v = true := fun j hj => by
        have hlt : p.off + j < xs.length := by omega
        obtain ⟨k1, u, k2, k3⟩ := e4 (p.off + j) xs[p.off + j] (by simp [hlt])
        exact ⟨_, u, by simp [hlt], k2, k3, k1⟩
      have hcsl : δ + p.off + n ≤ cs.size := by omega
      let us := ((cs.toList.drop (δ + p.off)).take n)
      have hus : us.length = n := by simp [us]; omega
      have hget : ∀ j, j < n → us[j]? = cs[δ + (p.off + j)]? := fun j hj => by
        simp only [us]
        rw [List.getElem?_take_of_lt hj, List.getElem?_drop]
        simp [Nat.add_assoc]
      have hrel : VRels ρ ((xs.drop p.off).take n) us := All2.of_get (by simp; omega) fun i v u hv hu => by
        have hi : i < n := by
          have := (List.getElem?_eq_some_iff.1 hv).1
          simp at this; omega
        obtain ⟨v', u', k1, k2, k3, _⟩ := hcell i hi
        rw [List.getElem?_take_of_lt hi, List.getElem?_drop, k1] at hv
        rw [hget i hi, k2] at hu
        injection hv with hv; injection hu with hu
        subst hv hu
        exact k3
      have hw : ∀ j u, us[j]? = some u → w.cell? (p'.add j) = some u := fun j u hu => by
        have hj : j < n := by rw [← hus]; exact (List.getElem?_eq_some_iff.1 hu).1
        rw [h3, add_off _ rfl]
        rw [hget j hj] at hu
        simp only [World.cell?, ptrOff, h1]
        rw [Nat.add_assoc]
        simpa using hu
      refine ⟨us, hus, hrel, List.all_eq_true.2 fun v hv => ?_, ?_, hw⟩
      · obtain ⟨i, hi⟩ := List.getElem?_of_mem hv
        have hin : i < n := by
          have := (List.getElem?_eq_some_iff.1 hi).1
          simp at this; omega
        obtain ⟨v', u', k1, _, _, k4⟩ := hcell i hin
        rw [List.getElem?_take_of_lt hin, List.getElem?_drop, k1] at hi
        injection hi with hi
        subst hi
        exact k4
      · have := run_loadCells_list (P := P) w p' us hw
        rw [hus] at this
        exact this
    · cases h
  · cases h

theorem bytesOf_ints : ∀ {l us : List Value} {bs : List UInt8}, VRels ρ l us → bytesOf l = some bs → ∃ ns : List Int, us = ns.map (Value.int .u8) ∧ bs = ns.map fun n => UInt8.ofNat n.toNat
  | [], us, bs, h, hb => by cases h; simp only [bytesOf, Option.some.injEq] at hb; subst hb; exact ⟨[], rfl, rfl⟩
  | x :: l, us, bs, h, hb => by
    cases h with
    | @cons _ u _ us' h1 h2 =>
      unfold bytesOf at hb
      split at hb
      · rename_i e; cases e
      · rename_i n r e
        injection e with e1 e2
        subst e1 e2
        obtain ⟨bs', hb', rfl⟩ := Option.map_eq_some_iff.1 hb
        obtain ⟨ns, rfl, rfl⟩ := bytesOf_ints h2 hb'
        cases h1
        exact ⟨n :: ns, rfl, rfl⟩
      · cases hb

theorem runesOf_ints : ∀ {l us : List Value} {rs : List Int}, VRels ρ l us → runesOf l = some rs → us = rs.map (Value.int .i32)
  | [], us, rs, h, hb => by cases h; simp only [runesOf, Option.some.injEq] at hb; subst hb; rfl
  | x :: l, us, rs, h, hb => by
    cases h with
    | @cons _ u _ us' h1 h2 =>
      unfold runesOf at hb
      split at hb
      · rename_i e; cases e
      · rename_i n r e
        injection e with e1 e2
        subst e1 e2
        obtain ⟨rs', hb', rfl⟩ := Option.map_eq_some_iff.1 hb
        rw [runesOf_ints h2 hb']
        cases h1
        rfl
      · cases hb

theorem encAll_eq : ∀ (rs : List Int) (acc : ByteArray), encAll rs acc = rs.foldl (fun r n => r ++ Utf8.encode n) acc
  | [], _ => rfl
  | n :: r, acc => by rw [encAll, encAll_eq r]; rfl

/-- A slice that is read whole. -/
theorem SR.slice (s : SR P B nt E D ρ lm g m a w) {p : Addr} {n e : Nat} {u : Value} (hp : VRelF ρ lm (.slice (some p) n e) u) {k : Nat} {l : List Value} (h : m.rd p k = some l) (hk : n = 0 → k = 0) :
    ∃ p' c, u = .slice (some p') n c ∧ ∃ us : List Value, us.length = k ∧ VRels ρ l us ∧ l.all cellOk = true ∧ (loadCells p' k).run P w = .ok us.toArray w ∧ ∀ j u, us[j]? = some u → w.cell? (p'.add j) = some u := by
  rcases hp with hv | ⟨nm, of, c, h1, _⟩ | ⟨nm, n', e', c, h1, h2, h3⟩
  · cases hv with
    | sl b o c δ N n e k h' h1 h2 => exact ⟨_, k, rfl, s.rd (.inl (.ptr b o c δ N h')) h⟩
    | slZ a0 a' e =>
      obtain rfl := hk rfl
      refine ⟨a', 0, rfl, [], rfl, ?_, ?_, by simp [loadCells, loadCellsFrom], by simp⟩
      all_goals
        unfold Mem.rd at h
        split at h
        · split at h
          · injection h with h; subst h; first | exact .nil | simp
          · cases h
        · cases h
  · cases h1
  · injection h1 with g1 g2 g3
    injection g1 with g1
    subst g1 g2 g3
    exact ⟨_, _, h3, s.rd (.inr (.inl ⟨nm, 0, c, rfl, h2, rfl⟩)) h⟩

theorem sim_r (s : SR P B nt E D ρ lm (fget fr) m a w) {o : Oper} {lo : List Nat} {ro : ROp} (hl : liftOp P lo o = some (.r ro)) {v : Value} (hv : ro.ev fr m = some v) :
    ∃ u, (execOp a.eval o).run P w = .ok (.value u) w ∧ VRelF ρ lm v u := by
  have hr := opdRel_act s
  cases hop : o.op
  case load t x =>
    simp only [liftOp, hop] at hl
    split at hl
    · rename_i n x' hn hx
      injection hl with hl; injection hl with hl; subst hl
      have h1 := hr x x' hx
      obtain ⟨ha, k, hk, hj⟩ := run_isAgg hn w
      cases n with
      | none =>
        simp only [ROp.ev] at hv
        split at hv
        · rename_i p e
          rw [e] at h1
          obtain ⟨p', e2, hsp⟩ := h1.psome
          split at hv
          · rename_i v' hrd
            injection hv with hv; subst hv
            rw [e2] at h1
            obtain ⟨us, g1, g2, _, _, g5⟩ := s.rd h1 hrd
            cases g2 with
            | @cons _ u _ us' k1 k2 =>
              cases k2
              have hc := g5 0 u rfl
              have hp0 : p'.add 0 = p' := by simp [Addr.add]
              rw [hp0] at hc
              refine ⟨u, ?_, .inl k1⟩
              simp only [Option.isSome_none] at ha
              have hld : (load p').run P w = .ok u w := by rw [run_load]; simp [hc]
              have : (Instr.loadAt t (a.eval x)).run P w = .ok u w := by
                simp only [Instr.loadAt, e2, Instr.sureAddr, loadVar, Sem.run_bind, Sem.run_pure, Result.andThen_ok, ha, Bool.false_eq_true, if_false]
                exact hld
              simp only [execOp, hop]
              exact runV this
          · cases hv
        · cases hv
      | some n =>
        simp only [ROp.ev] at hv
        split at hv
        · rename_i p e
          rw [e] at h1
          obtain ⟨p', e2, hsp⟩ := h1.psome
          obtain ⟨l, hrd, rfl⟩ := Option.map_eq_some_iff.1 hv
          rw [e2] at h1
          obtain ⟨us, g1, g2, _, g4, _⟩ := s.rd h1 hrd
          obtain rfl := hj n rfl
          simp only [Option.isSome_some] at ha
          have : (Instr.loadAt t (a.eval x)).run P w = .ok (.agg us.toArray) w := by
            simp only [Instr.loadAt, e2, Instr.sureAddr, loadVar, Sem.run_bind, Sem.run_pure, Result.andThen_ok, ha, if_true, run_szOf hk, g4]
          refine ⟨.agg us.toArray, by simp only [execOp, hop]; exact runV this, .inl (.agg _ _ (by simpa using g2.length) fun i x y hx hy => ?_)⟩
          obtain ⟨y', hy', hrel⟩ := All2.get g2 i x (by simpa using hx)
          have : y = y' := by
            have h3 : us.toArray[i]? = some y' := by simpa using hy'
            rw [hy] at h3; injection h3
          subst this
          exact hrel
        · cases hv
    · cases hl
  case convert src dst x =>
    simp only [liftOp, hop] at hl
    split at hl
    · injection hl with hl; injection hl
    · injection hl with hl; injection hl
    · injection hl with hl; injection hl
    · split at hl <;> first | (injection hl with hl; injection hl; done) | cases hl
    · rename_i e x' hs hd hx
      have h1 := hr x x' hx
      split at hl
      · rename_i he
        injection hl with hl; injection hl with hl; subst hl
        simp only [ROp.ev] at hv
        split at hv
        · rename_i n c e0
          rw [e0] at h1
          injection hv with hv; subst hv
          obtain ⟨e2, _, _⟩ := h1.snil
          refine ev_s2v (s := convert src dst (a.eval x)) (u := .string ⟨#[]⟩) ?_ o (by simp only [execOp, hop]) (.inl (.string _))
          rw [e2, run_convert_bytes_string w src dst e _ _ _ hs he hd]
          first | (simp [Conv.bytesToString, ByteArray.empty, ByteArray.emptyWithCapacity]; done) | (simp [Conv.bytesToString, ByteArray.empty, ByteArray.emptyWithCapacity]; rfl)
        · rename_i p n c e0
          rw [e0] at h1
          split at hv
          · rename_i l hrd
            obtain ⟨bs, hbs, rfl⟩ := Option.map_eq_some_iff.1 hv
            obtain ⟨p', c', e2, us, g1, g2, _, g4, _⟩ := s.slice h1 hrd (fun h => h)
            obtain ⟨ns, rfl, rfl⟩ := bytesOf_ints g2 hbs
            refine ev_s2v (s := convert src dst (a.eval x)) (u := .string ⟨(ns.map fun n => UInt8.ofNat n.toNat).toArray⟩) ?_ o (by simp only [execOp, hop]) (.inl (.string _))
            rw [e2, run_convert_bytes_string w src dst e _ _ _ hs he hd, run_bytesToString w _ _ _ ns g4, foldl_push_bytes]
            first | (simp [ByteArray.empty, ByteArray.emptyWithCapacity]; done) | (simp [ByteArray.empty, ByteArray.emptyWithCapacity]; rfl)
          · cases hv
        · cases hv
      · rename_i he
        injection hl with hl; injection hl with hl; subst hl
        simp only [ROp.ev] at hv
        split at hv
        · rename_i n c e0
          rw [e0] at h1
          injection hv with hv; subst hv
          obtain ⟨e2, _, _⟩ := h1.snil
          refine ev_s2v (s := convert src dst (a.eval x)) (u := .string ⟨#[]⟩) ?_ o (by simp only [execOp, hop]) (.inl (.string _))
          rw [e2, run_convert_runes_string w src dst e _ _ _ hs he hd]
          first | (simp [Conv.runesToString, ByteArray.empty, ByteArray.emptyWithCapacity]; done) | (simp [Conv.runesToString, ByteArray.empty, ByteArray.emptyWithCapacity]; rfl)
        · rename_i p n c e0
          rw [e0] at h1
          split at hv
          · rename_i l hrd
            obtain ⟨rs, hrs, rfl⟩ := Option.map_eq_some_iff.1 hv
            obtain ⟨p', c', e2, us, g1, g2, _, g4, _⟩ := s.slice h1 hrd (fun h => h)
            obtain rfl := runesOf_ints g2 hrs
            refine ev_s2v (s := convert src dst (a.eval x)) (u := .string (encAll rs ⟨#[]⟩)) ?_ o (by simp only [execOp, hop]) (.inl (.string _))
            rw [e2, run_convert_runes_string w src dst e _ _ _ hs he hd, run_runesToString w _ _ _ rs g4, runesBytes, encAll_eq]
            first | (simp [ByteArray.empty, ByteArray.emptyWithCapacity]; done) | (simp [ByteArray.empty, ByteArray.emptyWithCapacity]; rfl)
          · cases hv
        · cases hv
      · cases hl
    · cases hl
  case call c =>
    simp only [liftOp, hop] at hl
    unfold liftCall at hl
    split at hl
    · obtain ⟨_, _, h⟩ := Option.map_eq_some_iff.1 hl; injection h
    · split at hl
      · injection hl with hl; injection hl
      · cases hl
    · cases hl
    · split at hl
      · split at hl <;> first | (injection hl with hl; injection hl; done) | cases hl
      · injection hl with hl; injection hl
      · injection hl with hl; injection hl
      · (repeat' split at hl) <;> first | (injection hl with hl; injection hl; done) | cases hl
      · split at hl
        · obtain ⟨_, _, h⟩ := Option.map_eq_some_iff.1 hl; injection h
        · cases hl
      · cases hl
  all_goals simp only [liftOp, hop] at hl
  case move x => obtain ⟨_, _, h⟩ := Option.map_eq_some_iff.1 hl; injection h
  case assign x => obtain ⟨_, _, h⟩ := Option.map_eq_some_iff.1 hl; injection h
  case nilCheck x => obtain ⟨_, _, h⟩ := Option.map_eq_some_iff.1 hl; injection h
  case unOp x => obtain ⟨_, _, h⟩ := Option.map_eq_some_iff.1 hl; injection h
  case extract x => obtain ⟨_, _, h⟩ := Option.map_eq_some_iff.1 hl; injection h
  case next x b =>
    cases b
    · cases hl
    · obtain ⟨_, _, h⟩ := Option.map_eq_some_iff.1 hl; injection h
  case build t ps =>
    (repeat' split at hl) <;> first | cases hl | (obtain ⟨_, _, h⟩ := Option.map_eq_some_iff.1 hl; injection h)
  case buildSlice t n ps =>
    (repeat' split at hl) <;> first | cases hl | (obtain ⟨_, _, h⟩ := Option.map_eq_some_iff.1 hl; first | injection h | (split at h <;> injection h))
  case slice t x l h mx =>
    (repeat' split at hl) <;> first | cases hl | (injection hl with hl; injection hl; done) | (obtain ⟨_, _, h⟩ := Option.map_eq_some_iff.1 hl; injection h)
  case field t x i =>
    (repeat' split at hl) <;> first | cases hl | (obtain ⟨_, _, h⟩ := Option.map_eq_some_iff.1 hl; injection h)
  case indexAddr t x i =>
    (repeat' split at hl) <;> first | cases hl | (obtain ⟨_, _, h⟩ := Option.map_eq_some_iff.1 hl; injection h)
  all_goals first | cases hl | ((repeat' split at hl) <;> first | (injection hl with hl; injection hl; done) | cases hl)

end Go.Proofs.Ytanpdopjgepbkaa.AM
