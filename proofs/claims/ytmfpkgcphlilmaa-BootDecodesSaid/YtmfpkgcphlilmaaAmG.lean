/-
  Sequences that keep nothing of their own in memory, and loops over them.
-/
import Derived.Test.YtmfpkgcphlilmaaAmF
set_option linter.unusedVariables false
set_option linter.unusedSimpArgs false
namespace Go.Proofs.Ytmfpkgcphlilmaa.AM
open Go

variable {p : Prg} {fr : Fr} {lc : Lc} {h : AH} {Q : Post}

/-- A function value that hands out xs, one by one, and turns nothing itself. D: what it needs all the time. -/
def SeqP {α : Type} (p : Prg) (fv : Value) (xs : List α) (enc : α → List Value) (D : AH → Prop) : Prop :=
  ∀ (yv : Value) (I : Nat → AH → Prop) (E : AH → Prop) (h : AH), IsF yv → vsame yv yv = true →
    (∀ (i : Nat) (hi : i < xs.length) h, I i h → WpV p yv (enc xs[i]) h fun v h' => (v = .bool true ∧ I (i + 1) h') ∨ (v = .bool false ∧ E h')) →
    (∀ i h, I i h → D h) → I 0 h → WpV p fv [yv] h fun _ h' => I xs.length h' ∨ E h'

/-- All blocks but one are the same. -/
structure Same (l : Nat) (h h' : AH) : Prop where
  n : h'.n = h.n
  get : ∀ b, b ≠ l → h'.get b = h.get b

theorem Same.set (l : Nat) (h : AH) (o : AObj) : Same l h (h.set l o) := ⟨rfl, fun b hb => AH.get_set_ne _ hb⟩
theorem Same.kill (l : Nat) (h : AH) : Same l h (h.kill l) := ⟨rfl, fun b hb => AH.get_kill_ne hb⟩
theorem Same.reads {l : Nat} {h h' : AH} (k : Same l h h') {e : Nat} {s : Sl} {xss : List (List Value)} (r : Reads h e s xss) (hb : s.blk ≠ some l) : Reads h' e s xss := by
  refine ⟨r.1, r.2.1, ?_⟩
  have := r.2.2
  cases s with
  | nil => trivial
  | «at» b o n => exact this.imp id fun ⟨ro, pre, post, h1, h2⟩ => ⟨ro, pre, post, by rw [k.get b (fun e => hb (by rw [e]; rfl))]; exact h1, h2⟩
theorem Same.own {l : Nat} {h h' : AH} (k : Same l h h') {e : Nat} {s : Sl} {xss : List (List Value)} (r : Own h e s xss) (hb : s.blk ≠ some l) : Own h' e s xss := by
  refine ⟨r.1, r.2.1, ?_⟩
  have := r.2.2
  cases s with
  | nil => trivial
  | «at» b o n => obtain ⟨pre, h1, h2⟩ := this; exact ⟨pre, by rw [k.get b (fun e => hb (by rw [e]; rfl))]; exact h1, h2⟩
theorem Own.keep {h h' : AH} {e : Nat} {s : Sl} {xss : List (List Value)} (r : Own h e s xss) (hk : ∀ b, s.blk = some b → h'.get b = h.get b) : Own h' e s xss := by
  refine ⟨r.1, r.2.1, ?_⟩
  have := r.2.2
  cases s with
  | nil => trivial
  | «at» b o n => obtain ⟨pre, h1, h2⟩ := this; exact ⟨pre, by rw [hk b rfl]; exact h1, h2⟩
theorem Reads.keep {h h' : AH} {e : Nat} {s : Sl} {xss : List (List Value)} (r : Reads h e s xss) (hk : ∀ b, s.blk = some b → h'.get b = h.get b) : Reads h' e s xss := by
  refine ⟨r.1, r.2.1, ?_⟩
  have := r.2.2
  cases s with
  | nil => trivial
  | «at» b o n => exact this.imp id fun ⟨ro, pre, post, h1, h2⟩ => ⟨ro, pre, post, by rw [hk b rfl]; exact h1, h2⟩
theorem Own.lt {h : AH} {e : Nat} {s : Sl} {xss : List (List Value)} (r : Own h e s xss) {b : Nat} (hb : s.blk = some b) : b < h.n := by
  cases s with
  | nil => cases hb
  | «at» c o n => injection hb with hb; subst hb; obtain ⟨pre, h1, _⟩ := r.2.2; exact AH.get_lt h1

theorem wp_rangeP {α : Type} {xs : List α} {enc : α → List Value} {D : AH → Prop} {fo : Opd} {params : List Nat} {assign body : LCode} {g : FuncId} {ca cb : Array Value} (hf : opd fr fo = .func (.func g) ca cb)
    (hs : SeqP p (.func (.func g) ca cb) xs enc D) (hn : ∀ x, (enc x).length = params.length)
    (F : Nat → AH → Prop) (G : Ex → AH → Prop) (A : α → Fr) (L : α → Lc)
    (stF : ∀ i h1 h2, F i h1 → Same h.n h1 h2 → F i h2) (stG : ∀ ex h1 h2, G ex h1 → Same h.n h1 h2 → G ex h2)
    (hD : ∀ i h1, F i h1 → D h1)
    (asg : ∀ x h1, Wp p assign ((params.zip (enc x)).reverse ++ okFr fr) [] h1 fun ex fr1 lc1 h2 => ex = .norm ∧ h2 = h1 ∧ fr1 = A x ∧ lc1 = L x)
    (init : ∀ o, F 0 (h.push o))
    (step : ∀ (i : Nat) (hi : i < xs.length) h1 o, F i h1 → h1.get h.n = some o →
      Wp p body (A xs[i]) (L xs[i]) h1 fun ex _ _ h3 => h3.get h.n = some o ∧ match ex with
        | .norm => F (i + 1) h3
        | ex => G ex h3)
    (fin : ∀ h1, F xs.length h1 → Q .norm fr lc h1)
    (early : ∀ ex h1, ex ≠ .norm → G ex h1 → Q ex fr lc h1) : Wp p (.rangeF fo params assign body) fr lc h Q := by
  obtain ⟨R, hR⟩ : ∃ R : LRec, R = { state := .ready, pend := none, fr := okFr fr, params, assign, body } := ⟨_, rfl⟩
  have hc := hs (.func (.yield h.n) #[] #[])
    (fun i h1 => F i h1 ∧ h1.get h.n = some (.loop R))
    (fun h1 => ∃ ex, ex ≠ .norm ∧ G ex h1 ∧ h1.get h.n = some (.loop (endRec R ex).2))
    (h.push (.loop R)) ⟨_, _, _, rfl⟩ (by simp [vsame, vsame1, vsameL]) ?_ (fun i h1 hi => hD i h1 hi.1) ⟨init _, AH.get_push_same _ _⟩
  · obtain ⟨v, h', e1, hor⟩ := hc
    have ht : execO p (.rangeF fo params assign body) fr ⟨lc, h⟩ = runRange (callO p) (.func (.func g) ca cb) params assign body fr ⟨lc, h⟩ := by rw [execO_rangeF, hf]
    have e2 : callO p g (ca.toList ++ [.func (.yield h.n) #[] #[]] ++ cb.toList) (h.push (.loop { state := .ready, pend := none, fr := okFr fr, params, assign, body })) = some (v, h') := by
      rw [← hR]; exact e1
    rcases hor with ⟨a1, a4⟩ | ⟨ex, a0, a1, a4⟩
    · refine ⟨.norm, fr, lc, h'.kill h.n, ?_, fin _ (stF _ _ _ a1 (Same.kill _ _))⟩
      rw [ht]
      unfold runRange
      simp only [e2, a4]
      rw [hR]
    · refine ⟨ex, fr, lc, h'.kill h.n, ?_, early ex _ a0 (stG _ _ _ a1 (Same.kill _ _))⟩
      rw [ht]
      unfold runRange
      simp only [e2, a4]
      cases ex with
      | norm => exact absurd rfl a0
      | ret => rfl
      | exit id => rfl
  · rintro i hi h1 ⟨b1, b4⟩
    have b3 := AH.get_lt b4
    obtain ⟨ex0, fr1, lc1, h2, c1, rfl, rfl, rfl, rfl⟩ := (asg xs[i] h1).out
    have b1' := stF _ _ _ b1 (Same.set h.n h2 (.loop { R with state := .busy }))
    obtain ⟨ex, fr2, lc2, h3, d1, d2, d5⟩ := (step i hi _ _ b1' (AH.get_set_same _ b3)).out
    have hy := yieldO_run (p := p) (args := enc xs[i]) (r := R) (r1 := R) (ex := ex) (fr1 := A xs[i]) (lc1 := L xs[i]) (h1 := h2) (fr2 := fr2) (m2 := ⟨lc2, h3⟩) (r2 := { R with state := .busy }) b4
      (by rw [hR]; exact hn _) (by rw [hR]; exact c1) b4 (by rw [hR]) (by rw [hR]; rw [hR] at d1; exact d1) d2 rfl
    have hln := AH.get_lt d2
    refine ⟨_, _, hy, ?_⟩
    cases ex with
    | norm => exact .inl ⟨rfl, stF _ _ _ d5 (Same.set _ _ _), by rw [AH.get_set_same _ hln, hR]; rfl⟩
    | ret => exact .inr ⟨rfl, .ret, by simp, stG _ _ _ d5 (Same.set _ _ _), by rw [AH.get_set_same _ hln]; rfl⟩
    | exit id => exact .inr ⟨rfl, .exit id, by simp, stG _ _ _ d5 (Same.set _ _ _), by rw [AH.get_set_same _ hln]; rfl⟩

/-! ### Calls of known function values -/

def callvR (fr : Fr) (f : Opd) (xs : List Opd) : Option (FuncId × List Value) :=
  match opd fr f with
  | .func (.func g) a b => if (opds fr xs).all okV = true then some (g, a.toList ++ opds fr xs ++ b.toList) else none
  | _ => none
section
variable {p : Prg} {fr : Fr} {lc : Lc} {h : AH}
variable {T : List (Fr × Mem) → Prop} {keep : List Nat} {r : List LInstr} {tr : List (Fr × Mem)} {K : Fr → Lc → AH → Prop} {d : Nat}
theorem wpr_callvA {f : Opd} {xs : List Opd} {g : FuncId} {vs : List Value} (ha : callvR fr f xs = some (g, vs)) (hq : WpC p g vs h fun v h' => WpR p T keep r ((d, v) :: fr) lc h' ((fr, ⟨lc, h⟩) :: tr) K) :
    WpR p T keep (⟨some d, .e (.callv f xs), none⟩ :: r) fr lc h tr K := by
  unfold callvR at ha
  split at ha
  · rename_i g' a b hf
    split at ha
    · rename_i hok
      injection ha with ha
      injection ha with e1 e2
      subst e1 e2
      exact wpr_callv hf rfl hok hq
    · cases ha
  · cases ha
end
attribute [push_cast] callvR

theorem AH.get_push_eq {h : AH} {j : Nat} {o : AObj} (hj : j = h.n) : (h.push o).get j = some o := by rw [hj]; exact AH.get_push_same h o
theorem AH.get_set_eq {h : AH} {b j : Nat} {o : AObj} (hj : j = b) (hb : b < h.n) : (h.set b o).get j = some o := by rw [hj]; exact AH.get_set_same o hb

/- The same as equations of their own: a discharger's proof by a definition's unfolding is not taken. -/
theorem AH.nn_push {h : AH} {o : AObj} : (h.push o).n = h.n + 1 := by cases h; exact Eq.refl _
theorem AH.nn_set {h : AH} {b : Nat} {o : AObj} : (h.set b o).n = h.n := by cases h; exact Eq.refl _
theorem AH.nn_kill {h : AH} {b : Nat} : (h.kill b).n = h.n := by cases h; exact Eq.refl _

end Go.Proofs.Ytmfpkgcphlilmaa.AM
