/-
  Code: the walk of a lifted code; rounds of a range over a function.
-/
import Derived.Test.YtanpdopjgepbkaaAmCode
set_option linter.unusedVariables false
set_option linter.unusedSimpArgs false
namespace Go.Proofs.Ytanpdopjgepbkaa.AM
open Go

variable {P : Program} {B nt : Nat} {E : Ent} {D : List Nat} {ρ : Rho} {lm : Nat → Option Nat} {fr : Fr} {m : Mem} {a : Act} {w : World} {g : Nat → Value}
variable {call : CallF} {yld : YieldF}

/-- What a walk hands on: the state behind it. -/
def ExecOk (P : Program) (B nt : Nat) (E : Ent) (call : CallF) (yld : YieldF) (r : Option Nat) (f : CodeF) (c : Code) : Prop :=
  ∀ (D : List Nat) (ρ : Rho) (lm : Nat → Option Nat) (fr : Fr) (m : Mem) (a : Act) (w : World) (ex : Ex) (fr' : Fr) (m' : Mem), f fr m = some (ex, fr', m') →
    SR P B nt E D ρ lm (fget fr) m a w → ∀ (n : Nat) (Q : Exit → Act → World → Prop),
      (∀ D' ρ' lm' a' w', SR P B nt E D' ρ' lm' (fget fr') m' a' w' → (r.isSome = true → D' = D) → Q (exitOf ex) a' w') → c.wpIn (WF r) n P Q a w

theorem exec_region (hm : P.follows .mixedOrders = true) (hcs : CallSound P B call) (hys : YieldSound P B yld) {r : Option Nat} {hs : Hints} {id : Nat} {ops : Array Oper} {draw : Bool} {lc : LCode} {k : Nat}
    (hl : liftRegion P nt hs id ops draw = some lc) : ExecOk P B nt E call yld r (execC call yld k lc) (.region id ops draw) := by
  intro D ρ lm fr m a w ex fr' m' hx s n Q hq
  unfold liftRegion at hl
  split at hl
  · rename_i ls keep hls hkeep
    have key : ∀ chk, execC call yld k (.region ls keep chk) fr m = some (ex, fr', m') → ∃ fr1 m1, runOps call yld ls fr m = some (fr1, m1) ∧ chk.all (chk1 ls (trace call yld ls fr m)) = true ∧ ex = .norm ∧
        ∀ D ρ lm a w, SR P B nt E D ρ lm (fget fr1) m1 a w → ∃ lm', SR P B nt E D ρ lm' (fget fr') m' a w := fun chk hx => by
      simp only [execC, runRegion] at hx
      split at hx
      · rename_i fr1 m1 hrun
        split at hx
        · rename_i hchk
          split at hx
          · rename_i fr2 hk
            injection hx with hx
            injection hx with h1 hx
            injection hx with h2 h3
            subst h1 h2 h3
            exact ⟨fr1, m1, hrun, hchk, rfl, fun D ρ lm a w s => s.keep hk⟩
          · cases hx
        · cases hx
      · cases hx
    split at hl
    · rename_i hd
      split at hl
      · rename_i hb
        injection hl with hl
        subst hl
        subst hd
        simp only [Bool.and_eq_true] at hb
        obtain ⟨fr1, m1, hrun, hchk, rfl, hkp⟩ := key _ hx
        refine wpIn_anyOrder hm hcs hys s hls hb.2 hb.1 hrun hchk fun ρ' lm' a' w' s' => ?_
        obtain ⟨lm2, s2⟩ := hkp _ _ _ _ _ s'
        exact hq D ρ' lm2 a' w' s2 fun _ => rfl
      · cases hl
    · rename_i hd
      injection hl with hl
      subst hl
      have hd' : draw = false := by simpa using hd
      subst hd'
      obtain ⟨fr1, m1, hrun, hchk, rfl, hkp⟩ := key _ hx
      refine wpIn_text hcs hys s hls hrun fun ρ' lm' a' w' s' => ?_
      obtain ⟨lm2, s2⟩ := hkp _ _ _ _ _ s'
      exact hq D ρ' lm2 a' w' s2 fun _ => rfl
  · cases hl

theorem exec_range (hcs : CallSound P B call) {f : Operand} {f' : Opd} {ps : Array Tmp} {as body : Code} {as' body' : LCode} {hs : Hints} {k : Nat}
    (hf : liftOpd P f = some f') (has : liftC P nt hs as = some as') (hbody : liftC P nt hs body = some body') (hps : ∀ s ∈ ps.toList, s < nt) (hn1 : as'.noR = true) (hn2 : body'.noR = true) :
    ExecOk P B nt E call yld none (execC call yld k (.rangeF f' ps.toList as' body')) (.rangeFunc f ps as body) := by
  intro D ρ lm fr m a w ex fr' m' hx s n Q hq
  simp only [execC, runRange] at hx
  split at hx
  · rename_i gf first captured hfv
    split at hx
    · rename_i vr h2 hcall
      split at hx
      · rename_i r2 hget2
        -- the outcome
        have hout : r2.state ≠ .busy ∧ ex = jumpE r2.pend ∧ fr' = fr ∧ m' = { m with h := h2.kill m.h.n } := by
          split at hx
          · cases hx
          · rename_i hb
            refine ⟨hb, ?_⟩
            split at hx <;> rename_i hp <;> injection hx with hx <;> injection hx with e1 hx <;> injection hx with e2 e3 <;> subst e1 e2 e3 <;> simp [hp, jumpE]
        obtain ⟨hbusy, rfl, rfl, rfl⟩ := hout
        clear hx
        refine wpIn_rangeFunc fun fn _ => ?_
        -- two blocks are laid
        have s1 := s.mark (w' := w.alloc (.deferred (some []))) rfl ⟨rfl, rfl, rfl, by first | exact Nat.le_refl _ | exact Nat.le_add_right _ _⟩
        have hsz : (w.alloc (.deferred (some []))).heap.size = w.heap.size + 1 := Array.size_push _
        have s2 := s1.push (o := .loop { state := .ready, pend := none, fr := okFr fr', params := ps.toList, assign := as', body := body' }) rfl (N := 0)
          (x := .loop { state := .ready, pending := none, fn, tmps := a.tmps, params := ps, assign := as, body, defers := w.heap.size })
          (w' := (w.alloc (.deferred (some []))).alloc (.loop { state := .ready, pending := none, fn, tmps := a.tmps, params := ps, assign := as, body, defers := w.heap.size })) rfl
          ⟨rfl, rfl, rfl, fun t => by
            rw [okFr_get]
            by_cases hv : okV (fget fr' t) = true
            · rw [if_pos hv]; exact ((s.val t).ok hv).mono (Ext.snoc _ _)
            · rw [if_neg hv]; exact .undef _, nt, hs, s.room, hps, has, hbody, hn1, hn2⟩ ⟨rfl, rfl, rfl, by first | exact Nat.le_refl _ | exact Nat.le_add_right _ _⟩
        rw [hsz] at s2
        generalize hw2 : (w.alloc (.deferred (some []))).alloc (.loop { state := .ready, pending := none, fn, tmps := a.tmps, params := ps, assign := as, body, defers := w.heap.size }) = w2 at s2
        generalize hρ2 : ρ ++ [(w.heap.size + 1, 0, 0)] = ρ2 at s2
        have hρl : ρ2[m.h.n]? = some (w.heap.size + 1, 0, 0) := by rw [← hρ2, ← s.heap.len]; exact get_snoc_eq _ _
        have hext : Ext ρ ρ2 := by rw [← hρ2]; exact Ext.snoc _ _
        -- the function that is called
        have hfrel := (opdRel_act s) f f' hf
        rw [hfv] at hfrel
        obtain ⟨hfn, hcon⟩ := hcs gf _ _ _ _ hcall
        have hfrel2 := hfrel.vrel (by simp) (by simp)
        generalize hax : a.eval f = ax at hfrel2
        cases hfrel2 with
        | func _ _ _ fi ca q1 q2 q3 q4 =>
          have r1 : VRels ρ2 first.toList fi.toList := All2.of_get (by simpa using q1) fun i x y hx hy => (q3 i x y (by simpa using hx) (by simpa using hy)).mono hext
          have r2' : VRels ρ2 captured.toList ca.toList := All2.of_get (by simpa using q2) fun i x y hx hy => (q4 i x y (by simpa using hx) (by simpa using hy)).mono hext
          have hall : VRels ρ2 (first.toList ++ [Value.func (.yield m.h.n) #[] #[]] ++ captured.toList) (fi ++ #[Value.func (.yield (w.heap.size + 1)) #[] #[]] ++ ca).toList := by
            simp only [Array.toList_append]
            exact All2.append (All2.append r1 (.cons (.yield _ _ 0 0 hρl) .nil)) r2'
          have hB2 : B ≤ w2.heap.size := Nat.le_trans s2.base s2.tr.size
          refine ⟨w.heap.size + 1, [{ target := .collected w.heap.size, args := #[] }], w2, ⟨.fn (.func gf) ca, fi ++ #[Value.func (.yield (w.heap.size + 1)) #[] #[]]⟩, w2, gf, fi ++ #[Value.func (.yield (w.heap.size + 1)) #[] #[]] ++ ca, w2, ?_, ?_, fun _ _ => trivial, ?_, fun h => by simp [WF, Fence.wide] at h, ?_⟩
          · rw [← hw2]; exact run_enterLoop_outer fn a.tmps ps as body
          · simp only [resolve, hax, Deferred.ofValue, Sem.run_pure]
            simp [Act.eval]
          · simp only [invoke]
            exact run_callFunc hfn _ w2
          · refine callsIn_wf ((hcon ρ2 w2 _ (n - 1) hB2 s2.heap hall).mono fun e w3 he => ?_)
            obtain ⟨u, ρ3, rfl, g1, g2, g3⟩ := he
            have s3 := s2.called g1 g2
            obtain ⟨c, δ, N, x, k1, k2, k3, _⟩ := s3.heap.live m.h.n _ hget2
            have hc := g2.ext _ _ hρl
            rw [k1] at hc
            injection hc with hc
            injection hc with hc1 hc2
            injection hc2 with hc2 hc3
            subst hc1 hc2 hc3
            cases x with
            | loop R =>
              have hst : R.state = r2.state := k3.1
              have hpend : R.pending = r2.pend.map jumpC := k3.2.1
              refine ⟨R.pending, w3.putObj (w.heap.size + 1) (.loop { R with state := .exhausted }), run_endLoop k2 (by rw [hst]; exact hbusy), ?_⟩
              have s4 := s3.putObj (p := ⟨m.h.n, 0, none⟩) (p' := ⟨w.heap.size + 1, 0, none⟩) (.inl (.ptr m.h.n 0 _ 0 0 k1)) (o := .loop r2) (o' := .loop { r2 with state := .exhausted }) hget2 rfl rfl (x := .loop R)
                (x' := .loop { R with state := .exhausted }) k2 k3 (fun δ' N' _ hh => ⟨rfl, hh.2⟩) (w' := w3.putObj (w.heap.size + 1) (.loop { R with state := .exhausted })) rfl ⟨rfl, rfl, rfl, by first | exact Nat.le_refl _ | exact Nat.le_add_right _ _⟩
              have s5 := (s4.kill m.h.n).hcongr (h' := h2.kill m.h.n) rfl (fun b => by
                show (h2.kill m.h.n).get b = ((h2.set m.h.n (.loop { r2 with state := .exhausted })).kill m.h.n).get b
                by_cases hb : b = m.h.n
                · subst hb; rw [AH.get_kill_same, AH.get_kill_same]
                · rw [AH.get_kill_ne hb, AH.get_kill_ne hb, AH.get_set_ne _ hb])
              have hq' := hq _ _ _ _ _ s5 (fun h => by cases h)
              rw [hpend] at hq' ⊢
              cases hp : r2.pend with
              | none => rw [hp] at hq'; exact hq'
              | some j =>
                rw [hp] at hq'
                cases j with
                | ret => exact wpIn_ret hq'
                | exit id => exact wpIn_exit hq'
            | _ => exact k3.elim
      · cases hx
    · cases hx
  · cases hx

end Go.Proofs.Ytanpdopjgepbkaa.AM
