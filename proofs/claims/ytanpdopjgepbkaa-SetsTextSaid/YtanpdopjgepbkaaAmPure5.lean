/-
  Operations whose value hangs on their operands alone: all of them.
-/
import Derived.Test.YtanpdopjgepbkaaAmPure4
set_option linter.unusedVariables false
set_option linter.unusedSimpArgs false
namespace Go.Proofs.Ytanpdopjgepbkaa.AM
open Go

variable {P : Program} {ρ : Rho} {lm : Nat → Option Nat} {fr : Fr} {ev : Operand → Value} {w : World}

theorem ev_s2v {s : Sem Value} {u : Value} (h : s.run P w = .ok u w) (o : Oper) (he : execOp ev o = (do pure (Next.value (← s)) : Sem Next)) {v : Value} (hv : VRelF ρ lm v u) :
    ∃ u, (execOp ev o).run P w = .ok (.value u) w ∧ VRelF ρ lm v u := ⟨u, by rw [he]; exact runV h, hv⟩

theorem liftOpds_one {xs : Array Operand} {y : Opd} (h : liftOpds P xs = some [y]) : ∃ x, xs = #[x] ∧ liftOpd P x = some y := by
  unfold liftOpds at h
  cases hlist : xs.toList with
  | nil => rw [hlist] at h; simp at h
  | cons x0 r =>
    rw [hlist] at h
    simp only [List.mapM_cons, Option.bind_eq_bind] at h
    obtain ⟨y, hy, h⟩ := Option.bind_eq_some_iff.1 h
    obtain ⟨l, hl, h⟩ := Option.bind_eq_some_iff.1 h
    simp at h
    obtain ⟨rfl, rfl⟩ := h
    cases r with
    | nil => exact ⟨x0, by rw [← Array.toList_inj]; simpa using hlist, hy⟩
    | cons a r =>
      simp only [List.mapM_cons, Option.bind_eq_bind] at hl
      obtain ⟨_, _, hl⟩ := Option.bind_eq_some_iff.1 hl
      obtain ⟨_, _, hl⟩ := Option.bind_eq_some_iff.1 hl
      simp at hl

theorem liftOpds_two {xs : Array Operand} {y z : Opd} (h : liftOpds P xs = some [y, z]) : ∃ x x', xs = #[x, x'] ∧ liftOpd P x = some y ∧ liftOpd P x' = some z := by
  unfold liftOpds at h
  cases hlist : xs.toList with
  | nil => rw [hlist] at h; simp at h
  | cons x0 r =>
    rw [hlist] at h
    simp only [List.mapM_cons, Option.bind_eq_bind] at h
    obtain ⟨y, hy, h⟩ := Option.bind_eq_some_iff.1 h
    obtain ⟨l, hl, h⟩ := Option.bind_eq_some_iff.1 h
    simp at h
    obtain ⟨rfl, rfl⟩ := h
    obtain ⟨x1, e1, e2⟩ := liftOpds_one (xs := r.toArray) (by simpa [liftOpds] using hl)
    have : r = [x1] := by simpa using congrArg Array.toList e1
    subst this
    exact ⟨x0, x1, by rw [← Array.toList_inj]; simpa using hlist, hy, e2⟩

theorem run_builtin {o : Oper} {c : Call} (ho : o.op = .call c) {b : Builtin} (hb : c.callee = .builtin b) :
    ∃ consts, (execOp ev o).run P w = (builtin b c.argTypes o.type consts (c.args.map ev)).run P w := by
  refine ⟨c.args.map fun | .const _ => true | _ => false, ?_⟩
  simp only [execOp, ho, resolve, hb, Sem.run_bind, Sem.run_pure, Result.andThen_ok, invoke]
  rfl

theorem sim_call (hr : OpdRel P ρ lm fr ev) {o : Oper} {c : Call} (ho : o.op = .call c) {po : POp} (hl : liftCall P c = some (.p po)) {v : Value} (hv : po.ev fr = some v) :
    ∃ u, (execOp ev o).run P w = .ok (.value u) w ∧ VRelF ρ lm v u := by
  unfold liftCall at hl
  split at hl
  · obtain ⟨_, _, h⟩ := Option.map_eq_some_iff.1 hl; injection h
  · split at hl
    · injection hl with hl; injection hl
    · cases hl
  · cases hl
  · rename_i b hb
    obtain ⟨consts, hrun⟩ := run_builtin (P := P) (w := w) (ev := ev) ho hb
    rw [hrun]
    split at hl
    · rename_i x t hx ht
      have hat : c.argTypes = #[t] := by rw [← Array.toList_inj]; simpa using ht
      obtain ⟨x0, ha, hx0⟩ := liftOpds_one hx
      rw [hat, ha]
      split at hl
      · rename_i hd
        injection hl with hl; injection hl with hl; subst hl
        obtain ⟨u, h1, h2⟩ := p_slen (P := P) (w := w) (u := o.type) hr hx0 hd hv
        exact ⟨u, by simpa [builtin] using runV h1, h2⟩
      · rename_i e hd
        injection hl with hl; injection hl with hl; subst hl
        obtain ⟨u, h1, h2⟩ := p_len (P := P) (w := w) (u := o.type) hr hx0 hd hv
        exact ⟨u, by simpa [builtin] using runV h1, h2⟩
      · cases hl
    · injection hl with hl; injection hl with hl; subst hl
      obtain ⟨u, h1, h2⟩ := p_mm (P := P) (w := w) hr (by assumption) hv c.argTypes o.type
      exact ⟨u, by simpa [builtin] using runV h1, h2⟩
    · injection hl with hl; injection hl with hl; subst hl
      obtain ⟨u, h1, h2⟩ := p_mm (P := P) (w := w) hr (by assumption) hv c.argTypes o.type
      exact ⟨u, by simpa [builtin] using runV h1, h2⟩
    · (repeat' split at hl) <;> first | (injection hl with hl; injection hl; done) | cases hl
    · split at hl
      · obtain ⟨_, _, h⟩ := Option.map_eq_some_iff.1 hl; injection h
      · cases hl
    · cases hl

/-- **What the machine answers is what the model answers.** -/
theorem sim_p (hr : OpdRel P ρ lm fr ev) {o : Oper} {lo : List Nat} {po : POp} (hl : liftOp P lo o = some (.p po)) {v : Value} (hv : po.ev fr = some v) :
    ∃ u, (execOp ev o).run P w = .ok (.value u) w ∧ VRelF ρ lm v u := by
  cases hop : o.op
  case call c => exact sim_call hr hop (by simpa only [liftOp, hop] using hl) hv
  case nilCheck x =>
    simp only [liftOp, hop] at hl
    obtain ⟨x', hx, h⟩ := Option.map_eq_some_iff.1 hl
    injection h with h; subst h
    exact p_nilck hr hx hv hop
  case build t parts =>
    obtain ⟨u, h1, h2⟩ := p_build (w := w) hr hop hl hv
    exact ev_s2v h1 o (by simp only [execOp, hop]) h2
  all_goals simp only [liftOp, hop] at hl
  case move x =>
    obtain ⟨x', hx, h⟩ := Option.map_eq_some_iff.1 hl
    injection h with h; subst h
    simp only [POp.ev, Option.some.injEq] at hv; subst hv
    exact ⟨_, by simp [execOp, hop], hr x x' hx⟩
  case assign x =>
    obtain ⟨x', hx, h⟩ := Option.map_eq_some_iff.1 hl
    injection h with h; subst h
    simp only [POp.ev, Option.some.injEq] at hv; subst hv
    exact ⟨_, by simp [execOp, hop], hr x x' hx⟩
  case pick c a b =>
    split at hl
    · rename_i c' a' b' hc ha hb
      injection hl with hl; injection hl with hl; subst hl
      obtain ⟨u, h1, h2⟩ := p_pick (P := P) (w := w) hr hc ha hb hv
      exact ⟨_, by simp only [execOp, hop, Sem.run_bind, h1, Result.andThen_ok]; rfl, h2⟩
    · cases hl
  case alloc t => (repeat' split at hl) <;> first | (injection hl with hl; injection hl; done) | cases hl
  case box t x => (repeat' split at hl) <;> first | (injection hl with hl; injection hl; done) | cases hl
  case buildSlice t n ps =>
    split at hl
    · split at hl
      · split at hl
        · obtain ⟨_, _, h⟩ := Option.map_eq_some_iff.1 hl
          split at h <;> injection h
        · cases hl
      · cases hl
    · cases hl
  case load t x => split at hl <;> first | (injection hl with hl; injection hl; done) | cases hl
  case store t x y => (repeat' split at hl) <;> first | (injection hl with hl; injection hl; done) | cases hl
  case binOp op t x y t2 =>
    split at hl
    · rename_i x' y' hx hy
      split at hl
      · rename_i fs hu
        split at hl
        · rename_i ks hf
          split at hl
          · rename_i hg
            split at hl
            · injection hl with hl; injection hl with hl; subst hl
              obtain ⟨u, h1, h2⟩ := p_eqA (P := P) (w := w) hr hx hy hu hf hg.1 hg.2 hv
              exact ev_s2v (s := do eqGuard .eql t x y (ev x) (ev y); binOp .eql t (ev x) (ev y)) h1 o (by simp only [execOp, hop]) h2
            · injection hl with hl; injection hl with hl; subst hl
              obtain ⟨u, h1, h2⟩ := p_eqA (P := P) (w := w) hr hx hy hu hf hg.1 hg.2 hv
              exact ev_s2v (s := do eqGuard .neq t x y (ev x) (ev y); binOp .neq t (ev x) (ev y)) h1 o (by simp only [execOp, hop]) h2
            · cases hl
          · cases hl
        · cases hl
      · injection hl with hl; injection hl with hl; subst hl
        obtain ⟨u, h1, h2⟩ := p_bin (P := P) (w := w) hr hx hy t hv
        exact ev_s2v h1 o (by simp only [execOp, hop]) h2
      · injection hl with hl; injection hl with hl; subst hl
        obtain ⟨u, h1, h2⟩ := p_bin (P := P) (w := w) hr hx hy t hv
        exact ev_s2v h1 o (by simp only [execOp, hop]) h2
      · rename_i d _ _ _ hu
        have hk : ∀ k, (match d with
          | .bool => some EqK.bool
          | .pointer _ => some EqK.ptr
          | .slice _ => some EqK.sl
          | .map _ _ => some EqK.map
          | .func _ _ _ => some EqK.func
          | _ => none : Option EqK) = some k → eqKOf d = some k := fun k h => by cases d <;> first | exact h | cases h
        split at hl
        · rename_i k hkk
          injection hl with hl; injection hl with hl; subst hl
          obtain ⟨u, h1, h2⟩ := p_eqk (P := P) (w := w) hr hx hy hu (hk _ hkk) hv
          exact ev_s2v (s := do eqGuard .eql t x y (ev x) (ev y); binOp .eql t (ev x) (ev y)) h1 o (by simp only [execOp, hop]) h2
        · rename_i k hkk
          injection hl with hl; injection hl with hl; subst hl
          obtain ⟨u, h1, h2⟩ := p_eqk (P := P) (w := w) hr hx hy hu (hk _ hkk) hv
          exact ev_s2v (s := do eqGuard .neq t x y (ev x) (ev y); binOp .neq t (ev x) (ev y)) h1 o (by simp only [execOp, hop]) h2
        · cases hl
      · cases hl
    · cases hl
  case unOp op t x =>
    obtain ⟨x', hx, h⟩ := Option.map_eq_some_iff.1 hl
    injection h with h; subst h
    obtain ⟨u, h1, h2⟩ := p_un (P := P) (w := w) hr hx hv
    exact ev_s2v h1 o (by simp only [execOp, hop]) h2
  case convert src dst x =>
    split at hl
    · rename_i k0 k x' hs hd hx
      injection hl with hl; injection hl with hl; subst hl
      obtain ⟨u, h1, h2⟩ := p_conv (P := P) (w := w) hr hx hs hd hv
      exact ev_s2v h1 o (by simp only [execOp, hop]) h2
    · rename_i k0 x' hs hd hx
      injection hl with hl; injection hl with hl; subst hl
      obtain ⟨u, h1, h2⟩ := p_i2s (P := P) (w := w) hr hx hs hd hv
      exact ev_s2v h1 o (by simp only [execOp, hop]) h2
    · rename_i x' hs hd hx
      injection hl with hl; injection hl with hl; subst hl
      obtain ⟨u, h1, h2⟩ := p_s2s (P := P) (w := w) hr hx hs hd hv
      exact ev_s2v h1 o (by simp only [execOp, hop]) h2
    · split at hl <;> first | (injection hl with hl; injection hl; done) | cases hl
    · split at hl <;> first | (injection hl with hl; injection hl; done) | cases hl
    · cases hl
  case makeInterface t x =>
    split at hl
    · cases hl
    · rename_i d x' hne hu hx
      injection hl with hl; injection hl with hl; subst hl
      simp only [POp.ev] at hv
      split at hv
      · rename_i hk
        injection hv with hv; subst hv
        refine ev_s2v (s := Instr.makeInterface t (ev x)) (u := .iface t (ev x)) ?_ o (by simp only [execOp, hop]) (.inl (.iface _ _ _ ((hr x x' hx).ok hk)))
        have hu' := run_und hu w
        unfold Instr.makeInterface
        simp only [Sem.run_bind, hu', Result.andThen_ok]
        cases d with
        | interface ms => exact (hne ms (by first | rfl | assumption)).elim
        | _ => rfl
      · cases hv
    · cases hl
  case makeFunc fn first captured =>
    split at hl
    · rename_i a b ha hb
      injection hl with hl; injection hl with hl; subst hl
      exact ev_s2v (s := Instr.makeFunc fn (first.map ev) (captured.map ev)) (u := .func fn (first.map ev) (captured.map ev)) (by simp [Instr.makeFunc]) o (by simp only [execOp, hop]) (p_mkfn hr ha hb hv)
    · cases hl
  case makeSlice t l c => (repeat' split at hl) <;> first | (injection hl with hl; injection hl; done) | cases hl
  case slice t x lo hi mx =>
    split at hl
    · rename_i x' lo' hi' hu hx h1 h2 h3
      injection hl with hl; injection hl with hl; subst hl
      have hmx : mx = none := by cases mx with
        | none => rfl
        | some m => simp only [liftO] at h3; obtain ⟨_, _, h3⟩ := Option.map_eq_some_iff.1 h3; cases h3
      subst hmx
      obtain ⟨u, g1, g2⟩ := p_slS (P := P) (w := w) hr hx h1 h2 hu hv
      exact ev_s2v g1 o (by simp only [execOp, hop]; rfl) g2
    · rename_i e x' lo' hi' mx' hu hx h1 h2 h3
      split at hl
      · cases hl
      · rename_i hne
        obtain ⟨n, hn, h⟩ := Option.map_eq_some_iff.1 hl
        injection h with h; subst h
        have hm : mx'.isSome = true → hi'.isSome = true := fun hm => by
          cases hi' with
          | some _ => rfl
          | none =>
            cases mx' with
            | none => cases hm
            | some m => exact (hne m rfl rfl).elim
        obtain ⟨u, g1, g2⟩ := p_sl (P := P) (w := w) hr hx h1 h2 h3 hm hu hn hv
        exact ev_s2v g1 o (by simp only [execOp, hop]) g2
    · cases hl
  case fieldAddr t x i =>
    split at hl
    · rename_i fs x' hu hx
      split at hl
      · rename_i f hf
        split at hl
        · rename_i n hn
          split at hl
          · cases hl
          · rename_i h0
            injection hl with hl; injection hl with hl; subst hl
            obtain ⟨u, g1, g2⟩ := p_faddr (P := P) (w := w) hr hx hu hf hn h0 hv
            exact ev_s2v g1 o (by simp only [execOp, hop]) g2
        · cases hl
      · cases hl
    · cases hl
  case field t x i =>
    split at hl
    · rename_i fs x' hu hx
      split at hl
      · rename_i f hf
        obtain ⟨n, hn, h⟩ := Option.map_eq_some_iff.1 hl
        injection h with h; subst h
        obtain ⟨u, g1, g2⟩ := p_fld (P := P) (w := w) hr hx hu hf hn hv
        exact ev_s2v g1 o (by simp only [execOp, hop]) g2
      · cases hl
    · cases hl
  case indexAddr t x i =>
    split at hl
    · rename_i e x' i' hu hx hi
      obtain ⟨n, hn, h⟩ := Option.map_eq_some_iff.1 hl
      injection h with h; subst h
      obtain ⟨u, g1, g2⟩ := p_iaddr (P := P) (w := w) hr hx hi hu hn hv trivial
      exact ev_s2v g1 o (by simp only [execOp, hop]) g2
    · rename_i len e x' i' hu hx hi
      obtain ⟨n, hn, h⟩ := Option.map_eq_some_iff.1 hl
      injection h with h; subst h
      obtain ⟨u, g1, g2⟩ := p_iaddrA (P := P) (w := w) hr hx hi hu hn hv
      exact ev_s2v g1 o (by simp only [execOp, hop]) g2
    · cases hl
  case index t x i =>
    split at hl
    · rename_i x' i' hu hx hi
      injection hl with hl; injection hl with hl; subst hl
      obtain ⟨u, g1, g2⟩ := p_idxS (P := P) (w := w) hr hx hi hu hv
      exact ev_s2v g1 o (by simp only [execOp, hop]) g2
    · rename_i len e x' i' hu hx hi
      split at hl
      · rename_i n a hn ha
        injection hl with hl; injection hl with hl; subst hl
        obtain ⟨u, g1, g2⟩ := p_idxA (P := P) (w := w) hr hx hi hu hn ha hv
        exact ev_s2v g1 o (by simp only [execOp, hop]) g2
      · cases hl
    · cases hl
  case range t x => (repeat' split at hl) <;> first | (injection hl with hl; injection hl; done) | cases hl
  case next x b =>
    cases b
    · cases hl
    · obtain ⟨_, _, h⟩ := Option.map_eq_some_iff.1 hl; injection h
  case extract x i =>
    obtain ⟨x', hx, h⟩ := Option.map_eq_some_iff.1 hl
    injection h with h; subst h
    obtain ⟨u, g1, g2⟩ := p_ext (P := P) (w := w) hr hx hv
    exact ev_s2v g1 o (by simp only [execOp, hop]) g2
  all_goals cases hl

end Go.Proofs.Ytanpdopjgepbkaa.AM
