/-
  Code: functions; rounds; the program.
-/
import Derived.Test.YtanpdopjgepbkaaAmCode3
set_option linter.unusedVariables false
set_option linter.unusedSimpArgs false
namespace Go.Proofs.Ytanpdopjgepbkaa.AM
open Go

variable {P : Program} {B nt : Nat} {E : Ent} {D : List Nat} {ρ : Rho} {lm : Nat → Option Nat} {fr : Fr} {m : Mem} {a : Act} {w : World} {g : Nat → Value}
variable {call : CallF} {yld : YieldF}

/-! ### 1. Results -/

def resSem (tmps : Array Value) : ResultVar → Sem Value
  | .tmp t => pure (tmps.getD t undef)
  | .cell a t => do loadVar t (← asAddr (tmps.getD a undef))

theorem results_eq (fn : Func) (tmps : Array Value) : results fn tmps = (do
    let vs ← fn.results.mapM (resSem tmps)
    pure (if h : vs.size = 1 then vs[0] else .tuple vs)) := by
  unfold results
  congr 1

theorem resA_sound (s : SR P B nt E D ρ lm (fget fr) m a w) {rv : ResultVar} {lr : LRes} (hl : liftRes P rv = some lr) {v : Value} (hv : resA fr m lr = some v) :
    ∃ u, (resSem a.tmps rv).run P w = .ok u w ∧ VRel ρ v u := by
  cases rv with
  | tmp t =>
    simp only [liftRes] at hl
    injection hl with hl
    subst hl
    simp only [resA] at hv
    split at hv
    · rename_i hok
      injection hv with hv
      subst hv
      exact ⟨_, rfl, (s.val t).ok hok⟩
    · cases hv
  | cell x t =>
    simp only [liftRes] at hl
    obtain ⟨n, hn, hl⟩ := Option.map_eq_some_iff.1 hl
    subst hl
    simp only [resA] at hv
    have h1 : VRelF ρ lm (opd fr (.s x)) (a.tmps.getD x undef) := s.val x
    obtain ⟨ha, k, hk, hj⟩ := run_isAgg hn w
    cases n with
    | none =>
      simp only [ROp.ev] at hv
      split at hv
      · rename_i p e
        rw [e] at h1
        obtain ⟨p', e2, hsp⟩ := h1.psome
        split at hv
        · rename_i v' hrd
          injection hv with hv; subst hv
          rw [e2] at h1
          obtain ⟨us, g1, g2, _, _, g5⟩ := s.rd h1 hrd
          cases g2 with
          | @cons _ u _ us' k1 k2 =>
            cases k2
            have hc := g5 0 u rfl
            have hp0 : p'.add 0 = p' := by simp [Addr.add]
            rw [hp0] at hc
            refine ⟨u, ?_, k1⟩
            simp only [Option.isSome_none] at ha
            have hld : (load p').run P w = .ok u w := by rw [run_load]; simp [hc]
            simp only [resSem, e2, asAddr, loadVar, Sem.run_bind, Sem.run_pure, Result.andThen_ok, ha, Bool.false_eq_true, if_false]
            exact hld
        · cases hv
      · cases hv
    | some n =>
      simp only [ROp.ev] at hv
      split at hv
      · rename_i p e
        rw [e] at h1
        obtain ⟨p', e2, hsp⟩ := h1.psome
        obtain ⟨l, hrd, rfl⟩ := Option.map_eq_some_iff.1 hv
        rw [e2] at h1
        obtain ⟨us, g1, g2, _, g4, _⟩ := s.rd h1 hrd
        obtain rfl := hj n rfl
        simp only [Option.isSome_some] at ha
        refine ⟨.agg us.toArray, ?_, .agg _ _ (by simpa using g2.length) fun i x y hx hy => ?_⟩
        · simp only [resSem, e2, asAddr, loadVar, Sem.run_bind, Sem.run_pure, Result.andThen_ok, ha, if_true, run_szOf hk, g4]
        · obtain ⟨y', hy', hrel⟩ := All2.get g2 i x (by simpa using hx)
          have : y = y' := by
            have h3 : us.toArray[i]? = some y' := by simpa using hy'
            rw [hy] at h3; injection h3
          subst this
          exact hrel
      · cases hv

theorem resAll_sound (s : SR P B nt E D ρ lm (fget fr) m a w) : ∀ {rvs : List ResultVar} {rs : List LRes}, rvs.mapM (liftRes P) = some rs → ∀ {vs : List Value}, resAll fr m rs = some vs →
    ∃ us, (rvs.mapM (resSem a.tmps)).run P w = .ok us w ∧ VRels ρ vs us
  | [], rs, hl, vs, hv => by
    simp at hl
    subst hl
    simp only [resAll] at hv
    injection hv with hv
    subst hv
    exact ⟨[], rfl, .nil⟩
  | rv :: r, rs, hl, vs, hv => by
    rw [List.mapM_cons] at hl
    obtain ⟨lr, h1, hl⟩ := Option.bind_eq_some_iff.1 hl
    obtain ⟨lrs, h2, hl⟩ := Option.bind_eq_some_iff.1 hl
    injection hl with hl
    subst hl
    simp only [resAll] at hv
    split at hv
    · rename_i v vs' hv1 hv2
      injection hv with hv
      subst hv
      obtain ⟨u, g1, g2⟩ := resA_sound s h1 hv1
      obtain ⟨us, g3, g4⟩ := resAll_sound s h2 hv2
      refine ⟨u :: us, ?_, .cons g2 g4⟩
      rw [List.mapM_cons]
      simp only [Sem.run_bind, g1, Result.andThen_ok, g3, Sem.run_pure]
    · cases hv

theorem retV_sound (s : SR P B nt E D ρ lm (fget fr) m a w) {fn : Func} {rs : List LRes} (hl : fn.results.toList.mapM (liftRes P) = some rs) {v : Value} (hv : retV fr m rs = some v) :
    ∃ u, (results fn a.tmps).run P w = .ok u w ∧ VRel ρ v u := by
  unfold retV at hv
  have key : ∃ vs, resAll fr m rs = some vs ∧ ((∃ x, vs = [x] ∧ v = x) ∨ ((∀ x, vs ≠ [x]) ∧ v = .tuple vs.toArray)) := by
    split at hv
    · rename_i x hx
      injection hv with hv
      exact ⟨_, hx, .inl ⟨x, rfl, hv.symm⟩⟩
    · rename_i vs hne hx
      injection hv with hv
      exact ⟨vs, hx, .inr ⟨fun x hh => hne x (by rw [hh]), hv.symm⟩⟩
    · cases hv
  obtain ⟨vs, h1, h2⟩ := key
  obtain ⟨us, g1, g2⟩ := resAll_sound s hl h1
  have hrun : (fn.results.mapM (resSem a.tmps)).run P w = .ok us.toArray w := by
    rw [Array.mapM_eq_mapM_toList, map_eq_pure_bind]
    simp only [Sem.run_bind, g1, Result.andThen_ok, Sem.run_pure]
  rw [results_eq]
  simp only [Sem.run_bind, hrun, Result.andThen_ok, Sem.run_pure]
  rcases h2 with ⟨x, rfl, rfl⟩ | ⟨hne, rfl⟩
  · cases g2 with
    | @cons _ u _ us' k1 k2 =>
      cases k2
      exact ⟨u, by simp, k1⟩
  · have hsz : us.toArray.size ≠ 1 := fun h => by
      have hl := g2.length
      have h3 : vs.length = 1 := by rw [hl]; simpa using h
      match vs, h3 with
      | [x], _ => exact hne x rfl
    refine ⟨.tuple us.toArray, by rw [dif_neg hsz], .tuple _ _ (by simpa using g2.length) fun i x y hx hy => ?_⟩
    obtain ⟨y', hy', hrel⟩ := All2.get g2 i x (by simpa using hx)
    have : y = y' := by
      have h3 : us.toArray[i]? = some y' := by simpa using hy'
      rw [hy] at h3; injection h3
    subst this
    exact hrel

/-! ### 2. Functions -/

theorem leaves_sound {fn : Func} {rs : List LRes} (hl : fn.results.toList.mapM (liftRes P) = some rs) {v : Value} (hv : retV fr m rs = some v) {n : Nat} :
    ∀ (D : List Nat) (a : Act) (w : World), SR P B nt E D ρ lm (fget fr) m a w → LeavesInM Fence.wide n P fn a.tmps (CallPost P B E.ρ E.h E.w v m.h) a.defers .returning w
  | [], a, w, s => by
    have hd := s.dfs
    simp only [List.map_nil] at hd
    rw [hd]
    obtain ⟨u, h1, h2⟩ := retV_sound s hl hv
    exact ⟨u, h1, u, ρ, rfl, s.heap, s.tr, h2⟩
  | r :: D, a, w, s => by
    have hd := s.dfs
    simp only [List.map_cons] at hd
    rw [hd]
    refine ⟨by simp, .inl ⟨r, w.putObj r (.deferred none), rfl, run_takeDeferred (s.marks r (by simp)).1, ?_⟩⟩
    have s' := s.unmark (w' := w.putObj r (.deferred none)) rfl ⟨rfl, rfl, rfl, by first | exact Nat.le_refl _ | exact Nat.le_add_right _ _⟩
    exact leaves_sound hl hv D _ _ s'

theorem argFr_get (s : Nat) : ∀ (args : List Value) (i : Nat), fget (argFr i args) s = if i ≤ s then args.getD (s - i) undef else undef
  | [], i => by simp [argFr, fget]
  | v :: r, i => by
    simp only [argFr, fget]
    by_cases h : s = i
    · subst h; simp
    · rw [if_neg h, argFr_get s r (i + 1)]
      by_cases h2 : i + 1 ≤ s
      · rw [if_pos h2, if_pos (by omega), show s - i = (s - (i + 1)) + 1 by omega]
        simp
      · rw [if_neg h2, if_neg (by omega)]

theorem start_sound {h : AH} (hB : B ≤ w.heap.size) (hh : HRel P B ρ h w) {fr : Fr} {a : Act} (hv : ∀ s, VRel ρ (fget fr s) (a.tmps.getD s undef)) (hd : a.defers = []) (hnt : nt ≤ a.tmps.size) :
    SR P B nt ⟨ρ, h, w⟩ [] ρ (fun _ => none) (fget fr) { lc := [], h } a w where
  base := hB
  heap := hh
  tr := .refl ρ h w
  val := fun s => .inl (hv s)
  lcs := fun nm => rfl
  linj := fun _ _ _ h => by cases h
  dfs := hd
  marks := fun r hr => by cases hr
  dnd := .nil
  room := hnt

theorem callBody_sound (hm : P.follows .mixedOrders = true) (hcs : CallSound P B call) (hys : YieldSound P B yld) {k : Nat} {f : FuncId} {fn : Func} {hs : Hints} {lf : LFunc} (hf : P.funcs[f]? = some fn) (hl : liftF P hs fn = some lf)
    {args : List Value} {h : AH} {v : Value} {h' : AH} (hx : callBody call yld k lf args h = some (v, h')) :
    FnOk P f ∧ ∀ ρ w argsC n, B ≤ w.heap.size → HRel P B ρ h w → VRels ρ args argsC.toList → CallsIn Fence.wide n P f argsC w (CallPost P B ρ h w v h') := by
  unfold liftF at hl
  split at hl
  · rename_i c hbody
    split at hl
    · rename_i b rs hb hrs
      split at hl
      · cases hl
      · rename_i hname
        injection hl with hl
        subst hl
        refine ⟨⟨fn, hf, by simpa using hname, by rw [hbody]; rfl⟩, fun ρ w argsC n hB hh hargs => ?_⟩
        unfold callBody at hx
        simp only at hx
        split at hx
        · refine callsIn_of_wp_marks hf hbody trivial ?_
          have s0 : SR P B fn.ntmps ⟨ρ, h, w⟩ [] ρ (fun _ => none) (fget (argFr 0 args)) { lc := [], h } { tmps := argsC ++ Array.replicate (fn.ntmps - argsC.size) undef, defers := [] } w := by
            refine start_sound hB hh (fun s => ?_) rfl (by simp; omega)
            rw [argFr_get]
            simp only [Nat.zero_le, if_true, Nat.sub_zero]
            by_cases hlt : s < args.length
            · have hlen := hargs.length
              simp only [Array.length_toList] at hlen
              obtain ⟨u, hu, hrel⟩ := All2.get hargs s args[s] (by simp [hlt])
              have : (argsC ++ Array.replicate (fn.ntmps - argsC.size) undef).getD s undef = u := by
                have hlt2 : s < argsC.size := by omega
                have hu' : argsC[s]? = some u := by simpa using hu
                simp [Array.getD_eq_getD_getElem?, Array.getElem?_append, hlt2, hu']
                simpa [hlt2] using hu'
              rw [this]
              simpa [List.getD_eq_getElem?_getD, hlt] using hrel
            · rw [List.getD_eq_getElem?_getD, List.getElem?_eq_none (by omega)]
              exact .undef _
          cases hex : execC call yld k b (argFr 0 args) { lc := [], h } with
          | none => rw [hex] at hx; cases hx
          | some t =>
            obtain ⟨ex, fr', m'⟩ := t
            rw [hex] at hx
            refine exec_sound hm hcs hys k hs none c b hb (.inl rfl) [] ρ _ _ _ _ w ex fr' m' hex s0 n _ fun D' ρ' lm' a' w' s' _ => ?_
            have fin : (retV fr' m' rs).map (fun v => (v, m'.h)) = some (v, h') → LeavesInM Fence.wide n P fn a'.tmps (CallPost P B ρ h w v h') a'.defers .returning w' := fun hx => by
              obtain ⟨v', hv, hx⟩ := Option.map_eq_some_iff.1 hx
              injection hx with h1 h2
              subst h1 h2
              exact leaves_sound hrs hv D' a' w' s'
            cases ex with
            | norm => exact fin hx
            | ret => exact fin hx
            | exit id => cases hx
        · cases hx
    · cases hl
  · cases hl

end Go.Proofs.Ytanpdopjgepbkaa.AM
