/-
  One instruction: what the machine does the model does, calls by their contracts.
-/
import Derived.Test.YtanpdopjgepbkaaAmEff3
import Derived.OrdersIn
set_option linter.unusedVariables false
set_option linter.unusedSimpArgs false
namespace Go.Proofs.Ytanpdopjgepbkaa.AM
open Go

variable {P : Program} {B nt : Nat} {E : Ent} {D : List Nat} {ρ : Rho} {lm : Nat → Option Nat} {fr : Fr} {m : Mem} {a : Act} {w : World} {g : Nat → Value}

/-- The fence that lets everything by; the frames are of a round, or not. -/
def WF (r : Option Nat) : Fence := { Fence.wide with round := r }

def CallPost (P : Program) (B : Nat) (ρ : Rho) (h : AH) (w : World) (v : Value) (h' : AH) (e : Ending) (w' : World) : Prop :=
  ∃ u ρ', e = .returned u ∧ HRel P B ρ' h' w' ∧ Trans ⟨ρ, h, w⟩ ρ' h' w' ∧ VRel ρ' v u

def FnOk (P : Program) (f : FuncId) : Prop := ∃ fn, P.funcs[f]? = some fn ∧ (fn.name == "runtime.NumGoroutine") = false ∧ fn.body.isSome = true

def CallSound (P : Program) (B : Nat) (call : CallF) : Prop := ∀ f args h v h', call f args h = some (v, h') → FnOk P f ∧
  ∀ ρ w argsC n, B ≤ w.heap.size → HRel P B ρ h w → VRels ρ args argsC.toList → CallsIn Fence.wide n P f argsC w (CallPost P B ρ h w v h')

def YieldSound (P : Program) (B : Nat) (yld : YieldF) : Prop := ∀ l args h v h', yld l args h = some (v, h') →
  ∀ ρ w argsC n c δ N, B ≤ w.heap.size → HRel P B ρ h w → VRels ρ args argsC.toList → ρ[l]? = some (c, δ, N) →
    ∃ f tmps assign body, (Instr.yield c argsC).run P w = .ok (.round c f tmps assign body) w ∧ RoundIn Fence.wide n P c f tmps assign body w (CallPost P B ρ h w v h')

/-- Behind a call. -/
theorem SR.called (s : SR P B nt E D ρ lm g m a w) {ρ' : Rho} {h' : AH} {w' : World} (hh : HRel P B ρ' h' w') (ht : Trans ⟨ρ, m.h, w⟩ ρ' h' w') : SR P B nt E D ρ' lm g { m with h := h' } a w' where
  base := s.base
  heap := hh
  tr := s.tr.trans ht
  val := fun i => (s.val i).mono ht.ext (fun _ _ h => h)
  lcs := fun nm => by
    have hl := s.lcs nm
    revert hl
    show (match lget m.lc nm with | none => _ | some o => _) → (match lget m.lc nm with | none => _ | some o => _)
    cases lget m.lc nm with
    | none => exact id
    | some o1 =>
      rintro ⟨c1, x1, k1, k2, k3, k4, ⟨N1, k5⟩, k6⟩
      have hlt := (Array.getElem?_eq_some_iff.1 k4).1
      exact ⟨c1, x1, k1, k2, fun hm => k3 (ht.img c1 hlt hm), (ht.keep c1 hlt k3).trans k4, ⟨N1, k5.mono ht.ext⟩, k6⟩
  linj := s.linj
  dfs := s.dfs
  marks := fun r hr => by
    obtain ⟨k1, k2, k3, k4⟩ := s.marks r hr
    have hlt := (Array.getElem?_eq_some_iff.1 k1).1
    exact ⟨(ht.keep r hlt k3).trans k1, k2, fun hm => k3 (ht.img r hlt hm), k4⟩
  dnd := s.dnd
  room := s.room

theorem wpIn_res {o : Oper} {r : Option Nat} {n : Nat} {next : Act → World → Prop} {Q : Exit → Act → World → Prop} (hd : ∀ c, o.op ≠ .defer c) {x : Next} {u : Value} {w' : World}
    (h : (execOp a.eval o).run P w = .ok x w') (hx : x = .value u ∨ (x = .skip ∧ u = undef)) (hn : next (a.put o.dst u) w') : o.wpIn (WF r) n P a w next Q := by
  refine ⟨fun _ _ => trivial, ?_⟩
  rw [Oper.semAt_eq _ _ _ hd, h]
  rcases hx with rfl | ⟨rfl, rfl⟩
  · exact hn
  · exact hn

theorem callsIn_wf {r : Option Nat} {n : Nat} {f : FuncId} {args : Array Value} {R : Ending → World → Prop} (h : CallsIn Fence.wide n P f args w R) : CallsIn (WF r) n P f args w R := h
theorem roundIn_wf {r : Option Nat} {n : Nat} {l : Nat} {f : FuncId} {tmps : Array Value} {as body : Code} {R : Ending → World → Prop} (h : RoundIn Fence.wide n P l f tmps as body w R) : RoundIn (WF r) n P l f tmps as body w R := h

theorem wpIn_enter {o : Oper} {r : Option Nat} {n : Nat} {next : Act → World → Prop} {Q : Exit → Act → World → Prop} (hd : ∀ c, o.op ≠ .defer c) {f : FuncId} {args : Array Value} {v : Value} {h h' : AH} (hrun : (execOp a.eval o).run P w = .ok (.enter f args) w)
    (hc : ∀ n, CallsIn Fence.wide n P f args w (CallPost P B ρ h w v h')) (hn : ∀ u ρ' w', HRel P B ρ' h' w' → Trans ⟨ρ, h, w⟩ ρ' h' w' → VRel ρ' v u → next (a.put o.dst u) w') : o.wpIn (WF r) n P a w next Q := by
  refine ⟨fun _ _ => trivial, ?_⟩
  rw [Oper.semAt_eq _ _ _ hd, hrun]
  refine ⟨fun h => by simp [WF, Fence.wide] at h, callsIn_wf ((hc (n - 1)).mono fun e w' he => ?_)⟩
  obtain ⟨u, ρ', rfl, g1, g2, g3⟩ := he
  exact hn u ρ' w' g1 g2 g3

theorem wpIn_yield {o : Oper} {r : Option Nat} {n : Nat} {next : Act → World → Prop} {Q : Exit → Act → World → Prop} (hd : ∀ c, o.op ≠ .defer c) {l f : FuncId} {tmps : Array Value} {as body : Code} {v : Value} {h h' : AH} (hrun : (execOp a.eval o).run P w = .ok (.round l f tmps as body) w)
    (hc : RoundIn Fence.wide (n - 1) P l f tmps as body w (CallPost P B ρ h w v h')) (hn : ∀ u ρ' w', HRel P B ρ' h' w' → Trans ⟨ρ, h, w⟩ ρ' h' w' → VRel ρ' v u → next (a.put o.dst u) w') : o.wpIn (WF r) n P a w next Q := by
  refine ⟨fun _ _ => trivial, ?_⟩
  rw [Oper.semAt_eq _ _ _ hd, hrun]
  refine ⟨fun h => by simp [WF, Fence.wide] at h, roundIn_wf (hc.mono fun e w' he => ?_)⟩
  obtain ⟨u, ρ', rfl, g1, g2, g3⟩ := he
  exact hn u ρ' w' g1 g2 g3

theorem run_callFunc {f : FuncId} (hf : FnOk P f) (args : Array Value) (w : World) : (callFunc f args).run P w = .ok (.enter f args) w := by
  obtain ⟨fn, h1, h2, h3⟩ := hf
  obtain ⟨b, hb⟩ := Option.isSome_iff_exists.1 h3
  have h2' : ¬ fn.name = "runtime.NumGoroutine" := by simpa using h2
  simp [callFunc, h1, h2', hb]

/-- Operations that turn memory and call nothing. -/
theorem sim_e (s : SR P B nt E D ρ lm (fget fr) m a w) {o : Oper} {lo : List Nat} {eo : EOp} (hl : liftOp P lo o = some (.e eo)) (hnc : (∀ f xs, eo ≠ .call f xs) ∧ ∀ x xs, eo ≠ .callv x xs) {call : CallF} {yld : YieldF} {v : Value} {m' : Mem} (hv : eo.ev call yld fr m = some (v, m')) :
    EOk P B nt E D (fget fr) m' a v ((execOp a.eval o).run P w) := by
  cases hop : o.op
  case alloc t =>
    simp only [liftOp, hop] at hl
    split at hl
    · rename_i z d hz hd
      split at hl
      · injection hl with hl; injection hl with hl; subst hl
        exact e_new (loH := true) s hop hz hv
      · injection hl with hl; injection hl with hl; subst hl
        exact e_new (loH := false) (d := d) s hop hz hv
    · cases hl
  case box t x =>
    simp only [liftOp, hop] at hl
    split at hl
    · rename_i n x' d hn hx hd
      split at hl
      · injection hl with hl; injection hl with hl; subst hl
        exact e_box (loH := true) s hop hx hv
      · injection hl with hl; injection hl with hl; subst hl
        exact e_box (loH := false) (d := d) s hop hx hv
    · cases hl
  case buildSlice t len parts =>
    simp only [liftOp, hop] at hl
    split at hl
    · rename_i e d hu hd
      split at hl
      · rename_i n z hn hz
        split at hl
        · rename_i hb
          obtain ⟨l, hll, hl2⟩ := Option.map_eq_some_iff.1 hl
          split at hl2
          · injection hl2 with hl2; subst hl2
            exact e_lit (loH := true) s hop hu hn hz hb hll hv
          · injection hl2 with hl2; subst hl2
            exact e_lit (loH := false) (d := d) s hop hu hn hz hb hll hv
        · cases hl
      · cases hl
    · cases hl
  case store t x y =>
    simp only [liftOp, hop] at hl
    split at hl
    · rename_i n x' y' hn hx hy
      split at hl
      · injection hl with hl; injection hl with hl; subst hl
        exact e_store s hop hx hy hn hv
      · cases hl
    · cases hl
  case convert src dst x =>
    simp only [liftOp, hop] at hl
    split at hl
    · injection hl with hl; injection hl
    · injection hl with hl; injection hl
    · injection hl with hl; injection hl
    · rename_i e x' hs hd hx
      split at hl
      · rename_i he _
        injection hl with hl; injection hl with hl; subst hl
        exact e_s2b s hop hx hs hd he hv
      · rename_i he _
        injection hl with hl; injection hl with hl; subst hl
        exact e_s2r s hop hx hs hd he hv
      · cases hl
    · split at hl <;> first | (injection hl with hl; injection hl; done) | cases hl
    · cases hl
  case range t x =>
    simp only [liftOp, hop] at hl
    split at hl
    · rename_i x' d hu hx hd
      split at hl
      · injection hl with hl; injection hl with hl; subst hl
        exact e_rng s hop hx hu hv
      · cases hl
    · cases hl
  case next x b =>
    cases b
    · simp only [liftOp, hop] at hl; cases hl
    · simp only [liftOp, hop] at hl
      obtain ⟨x', hx, h⟩ := Option.map_eq_some_iff.1 hl
      injection h with h; subst h
      exact e_nxt s hop hx hv
  case makeSlice t l c =>
    simp only [liftOp, hop] at hl
    split at hl
    · rename_i e hu
      split at hl
      · rename_i i z l' c' hi hz hl' hc'
        injection hl with hl; injection hl with hl; subst hl
        obtain ⟨r, w', ρ', h1, h2, h3⟩ := e_mks s hu hi hz hl' hc' hv
        exact .val (s := Instr.makeSlice t (a.eval l) (a.eval c)) (by simp only [execOp, hop]) h1 h2 h3
      · cases hl
    · cases hl
  case call c =>
    simp only [liftOp, hop] at hl
    unfold liftCall at hl
    split at hl
    · obtain ⟨_, _, h⟩ := Option.map_eq_some_iff.1 hl; injection h with h; exact absurd h.symm (hnc.1 _ _)
    · split at hl
      · injection hl with hl; injection hl with hl; exact absurd hl.symm (hnc.2 _ _)
      · cases hl
    · cases hl
    · rename_i b hb
      obtain ⟨consts, hrun⟩ := run_builtin (P := P) (w := w) (ev := a.eval) hop hb
      rw [hrun]
      split at hl
      · split at hl <;> first | (injection hl with hl; injection hl; done) | cases hl
      · injection hl with hl; injection hl
      · injection hl with hl; injection hl
      · rename_i x y t u hx ht
        have hat : c.argTypes = #[t, u] := by rw [← Array.toList_inj]; simpa using ht
        obtain ⟨x0, y0, ha, hx0, hy0⟩ := liftOpds_two hx
        rw [hat, ha]
        split at hl
        · rename_i e d hte hud
          have hcase : ∃ i, P.info? e = some i ∧ (i.zero.map fun z => z.cells.size) = some i.size ∧ (d = .string ∨ ∃ e, d = .slice e) ∧ eo = .append i.size i.bytes x y := by
            split at hl
            · rename_i i e' hi
              split at hl
              · rename_i hz; injection hl with hl; injection hl with hl; exact ⟨i, hi, hz, .inr ⟨_, rfl⟩, hl.symm⟩
              · cases hl
            · rename_i i hi
              split at hl
              · rename_i hz; injection hl with hl; injection hl with hl; exact ⟨i, hi, hz, .inl rfl, hl.symm⟩
              · cases hl
            · cases hl
          obtain ⟨i, hi, hz, hd, rfl⟩ := hcase
          obtain ⟨r, w', ρ', h1, h2, h3⟩ := e_append s hte hud hd hi hz hx0 hy0 o.type hv
          exact ⟨.value r, r, w', ρ', lm, by simp [builtin, h1], .inl rfl, h2, h3⟩
        · cases hl
      · rename_i x y t ts hx ht
        obtain ⟨x0, y0, ha, hx0, hy0⟩ := liftOpds_two hx
        rw [ha]
        split at hl
        · rename_i e hte
          obtain ⟨n, hn, h⟩ := Option.map_eq_some_iff.1 hl
          injection h with h; subst h
          have hat : c.argTypes[0]? = some t := by
            have : c.argTypes.toList[0]? = some t := by rw [ht]; rfl
            simpa using this
          obtain ⟨r, w', h1, h2, h3⟩ := e_copy s hte hn hx0 hy0 c.argTypes hat o.type hv
          exact ⟨.value r, r, w', ρ, lm, by simp [builtin, h1], .inl rfl, h2, h3⟩
        · cases hl
      · cases hl
  all_goals simp only [liftOp, hop] at hl
  case move x => obtain ⟨_, _, h⟩ := Option.map_eq_some_iff.1 hl; injection h
  case assign x => obtain ⟨_, _, h⟩ := Option.map_eq_some_iff.1 hl; injection h
  case nilCheck x => obtain ⟨_, _, h⟩ := Option.map_eq_some_iff.1 hl; injection h
  case unOp x => obtain ⟨_, _, h⟩ := Option.map_eq_some_iff.1 hl; injection h
  case extract x => obtain ⟨_, _, h⟩ := Option.map_eq_some_iff.1 hl; injection h
  case build t ps =>
    (repeat' split at hl) <;> first | cases hl | (obtain ⟨_, _, h⟩ := Option.map_eq_some_iff.1 hl; injection h)
  case slice t x l h mx =>
    (repeat' split at hl) <;> first | cases hl | (injection hl with hl; injection hl; done) | (obtain ⟨_, _, h⟩ := Option.map_eq_some_iff.1 hl; injection h)
  case field t x i =>
    (repeat' split at hl) <;> first | cases hl | (obtain ⟨_, _, h⟩ := Option.map_eq_some_iff.1 hl; injection h)
  case indexAddr t x i =>
    (repeat' split at hl) <;> first | cases hl | (obtain ⟨_, _, h⟩ := Option.map_eq_some_iff.1 hl; injection h)
  all_goals first | cases hl | ((repeat' split at hl) <;> first | (injection hl with hl; injection hl; done) | cases hl)

theorem all2_args {xs : List Value} {ys : Array Operand} (h : All2 (VRelF ρ lm) xs (ys.toList.map a.eval)) (hk : xs.all okV = true) : VRels ρ xs (ys.map a.eval).toList := by
  have := h.okVs hk
  simpa using this

/-- **One operation.** -/
theorem sim_op {call : CallF} {yld : YieldF} (hcs : CallSound P B call) (hys : YieldSound P B yld) (s : SR P B nt E D ρ lm (fget fr) m a w) {o : Oper} {lo : List Nat} {op : LOp} (hl : liftOp P lo o = some op) {v : Value} {m' : Mem}
    (hv : LInstr.ev call yld { dst := o.dst, op, guard := none } fr m = some (v, m')) {r : Option Nat} {n : Nat} {next : Act → World → Prop} {Q : Exit → Act → World → Prop}
    (hn : ∀ ρ' lm' u w', SR P B nt E D ρ' lm' (fget fr) m' a w' → VRelF ρ' lm' v u → next (a.put o.dst u) w') : o.wpIn (WF r) n P a w next Q := by
  have hd : ∀ c, o.op ≠ .defer c := fun c hc => by rw [liftOp, hc] at hl; cases hl
  cases op with
  | p po =>
    simp only [LInstr.ev] at hv
    obtain ⟨v', h1, h2⟩ := Option.map_eq_some_iff.1 hv
    injection h2 with h2 h3
    subst h2 h3
    obtain ⟨u, g1, g2⟩ := sim_p (P := P) (w := w) (opdRel_act s) hl h1
    exact wpIn_res hd g1 (.inl rfl) (hn ρ lm u w s g2)
  | r ro =>
    simp only [LInstr.ev] at hv
    obtain ⟨v', h1, h2⟩ := Option.map_eq_some_iff.1 hv
    injection h2 with h2 h3
    subst h2 h3
    obtain ⟨u, g1, g2⟩ := sim_r s hl h1
    exact wpIn_res hd g1 (.inl rfl) (hn ρ lm u w s g2)
  | e eo =>
    simp only [LInstr.ev] at hv
    by_cases hc : (∃ f xs, eo = .call f xs) ∨ ∃ x xs, eo = .callv x xs
    · have hB : B ≤ w.heap.size := Nat.le_trans s.base s.tr.size
      have hop : ∃ c, o.op = .call c := by
        cases hop : o.op
        case call c => exact ⟨c, rfl⟩
        all_goals
          exfalso
          simp only [liftOp, hop] at hl
          rcases hc with ⟨f, xs, rfl⟩ | ⟨f, xs, rfl⟩
          all_goals
            first
              | (cases hl; done)
              | ((repeat' split at hl) <;> first | (cases hl; done) | (obtain ⟨_, _, h⟩ := Option.map_eq_some_iff.1 hl; first | (cases h; done) | (split at h <;> cases h)) | (rename_i heq; cases heq; done))
      obtain ⟨c, hop⟩ := hop
      simp only [liftOp, hop] at hl
      unfold liftCall at hl
      have hrel := opdRel_act s
      split at hl
      · rename_i f hcal
        obtain ⟨xs, hxs, h⟩ := Option.map_eq_some_iff.1 hl
        injection h with h
        subst h
        simp only [EOp.ev] at hv
        split at hv
        · rename_i hok
          obtain ⟨⟨v1, h1⟩, hcall, h2⟩ := Option.map_eq_some_iff.1 hv
          injection h2 with h2 h3
          subst h2 h3
          obtain ⟨hfn, hcon⟩ := hcs f _ _ _ _ hcall
          have hargs := all2_args (liftOpds_rel hrel _ _ hxs) hok
          have hrun : (execOp a.eval o).run P w = .ok (.enter f (c.args.map a.eval)) w := by
            simp only [execOp, hop, resolve, hcal, Act.eval, Deferred.ofValue, Sem.run_bind, Sem.run_pure, Result.andThen_ok, invoke]
            simp only [Array.empty_append, Array.append_empty]
            exact run_callFunc hfn _ w
          exact wpIn_enter (P := P) (B := B) hd hrun (fun n => hcon ρ w _ n hB s.heap hargs) fun u ρ' w' g1 g2 g3 => hn ρ' lm u w' (s.called g1 g2) (.inl g3)
        · cases hv
      · rename_i x hne hcal
        split at hl
        · rename_i y xs hy hxs
          injection hl with hl; injection hl with hl; subst hl
          simp only [EOp.ev] at hv
          split at hv
          · rename_i hok
            have hargs := all2_args (liftOpds_rel hrel _ _ hxs) hok
            have hx := hrel x y hy
            split at hv
            · rename_i f first captured e
              rw [e] at hx
              have hx2 := hx.vrel (by simp) (by simp)
              obtain ⟨⟨v1, h1⟩, hcall, h2⟩ := Option.map_eq_some_iff.1 hv
              injection h2 with h2 h3
              subst h2 h3
              obtain ⟨hfn, hcon⟩ := hcs f _ _ _ _ hcall
              generalize hax : a.eval x = ax at hx2
              cases hx2 with
              | func _ _ _ fi ca q1 q2 q3 q4 =>
                have hrun : (execOp a.eval o).run P w = .ok (.enter f (fi ++ c.args.map a.eval ++ ca)) w := by
                  simp only [execOp, hop, resolve, hcal, hax, Deferred.ofValue, Sem.run_bind, Sem.run_pure, Result.andThen_ok, invoke]
                  exact run_callFunc hfn _ w
                have r1 : VRels ρ first.toList fi.toList := All2.of_get (by simpa using q1) fun i x y hx hy => q3 i x y (by simpa using hx) (by simpa using hy)
                have r2 : VRels ρ captured.toList ca.toList := All2.of_get (by simpa using q2) fun i x y hx hy => q4 i x y (by simpa using hx) (by simpa using hy)
                have hall : VRels ρ (first.toList ++ opds fr xs ++ captured.toList) (fi ++ c.args.map a.eval ++ ca).toList := by
                  simp only [Array.toList_append]
                  exact All2.append (All2.append r1 hargs) r2
                exact wpIn_enter (P := P) (B := B) hd hrun (fun n => hcon ρ w _ n hB s.heap hall) fun u ρ' w' g1 g2 g3 => hn ρ' lm u w' (s.called g1 g2) (.inl g3)
            · rename_i l first captured e
              rw [e] at hx
              have hx2 := hx.vrel (by simp) (by simp)
              split at hv
              · obtain ⟨⟨v1, h1⟩, hcall, h2⟩ := Option.map_eq_some_iff.1 hv
                injection h2 with h2 h3
                subst h2 h3
                generalize hax : a.eval x = ax at hx2
                cases hx2 with
                | yield _ cc δ N q1 =>
                  obtain ⟨ff, tmps, as, body, y1, y2⟩ := hys l _ _ _ _ hcall ρ w (c.args.map a.eval) (n - 1) cc δ N hB s.heap hargs q1
                  have hrun : (execOp a.eval o).run P w = .ok (.round cc ff tmps as body) w := by
                    simp only [execOp, hop, resolve, hcal, hax, Deferred.ofValue, Sem.run_bind, Sem.run_pure, Result.andThen_ok, invoke, Array.empty_append]
                    exact y1
                  exact wpIn_yield (P := P) (B := B) hd hrun y2 fun u ρ' w' g1 g2 g3 => hn ρ' lm u w' (s.called g1 g2) (.inl g3)
              · cases hv
            · cases hv
          · cases hv
        · cases hl
      · cases hl
      · rcases hc with ⟨f, xs, rfl⟩ | ⟨f, xs, rfl⟩
        all_goals
          (repeat' split at hl) <;> first | (cases hl; done) | (obtain ⟨_, _, h⟩ := Option.map_eq_some_iff.1 hl; cases h)
    · have hnc : (∀ f xs, eo ≠ .call f xs) ∧ ∀ x xs, eo ≠ .callv x xs := ⟨fun f xs e => hc (.inl ⟨f, xs, e⟩), fun x xs e => hc (.inr ⟨x, xs, e⟩)⟩
      obtain ⟨x, u, w', ρ', lm', h1, h2, h3, h4⟩ := sim_e s hl hnc hv
      exact wpIn_res hd h1 h2 (hn ρ' lm' u w' h3 h4)

end Go.Proofs.Ytanpdopjgepbkaa.AM
