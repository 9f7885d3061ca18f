/-
  Loops over iterators: what a sequence is, what a loop over one comes to. Function values that are called.
-/
import Derived.Test.YtmfpkgcphlilmaaAmE
set_option linter.unusedVariables false
set_option linter.unusedSimpArgs false
namespace Go.Proofs.Ytmfpkgcphlilmaa.AM
open Go

variable {p : Prg} {fr : Fr} {lc : Lc} {h : AH} {Q : Post}
variable {T : List (Fr × Mem) → Prop} {keep : List Nat} {r : List LInstr} {tr : List (Fr × Mem)} {K : Fr → Lc → AH → Prop} {d : Nat} {v : Value}

/-! ### 1. Calls of values -/

noncomputable def callV (p : Prg) (f : Value) (args : List Value) (h : AH) : Option (Value × AH) :=
  match f with
  | .func (.func g) first captured => callO p g (first.toList ++ args ++ captured.toList) h
  | .func (.yield l) first _ => if first.size = 0 then yieldO p l args h else none
  | _ => none

structure WpV (p : Prg) (f : Value) (args : List Value) (h : AH) (Q : Value → AH → Prop) : Prop where
  out : ∃ v h', callV p f args h = some (v, h') ∧ Q v h'

theorem WpV.mono {f : Value} {args : List Value} {C C' : Value → AH → Prop} (hq : WpV p f args h C) (hm : ∀ v h', C v h' → C' v h') : WpV p f args h C' :=
  let ⟨v, h', h1, h2⟩ := hq
  ⟨v, h', h1, hm _ _ h2⟩
theorem wpV_fn {g : FuncId} {a b : Array Value} {args : List Value} {C : Value → AH → Prop} (hq : WpC p g (a.toList ++ args ++ b.toList) h C) : WpV p (.func (.func g) a b) args h C :=
  let ⟨v, h', h1, h2⟩ := hq
  ⟨v, h', h1, h2⟩
theorem WpV.fn {g : FuncId} {a b : Array Value} {args : List Value} {C : Value → AH → Prop} (hq : WpV p (.func (.func g) a b) args h C) : WpC p g (a.toList ++ args ++ b.toList) h C :=
  let ⟨v, h', h1, h2⟩ := hq
  ⟨v, h', h1, h2⟩

theorem ev_callV {f : Opd} {xs : List Opd} {fv : Value} {as : List Value} {v : Value} {h' : AH} (hf : opd fr f = fv) (ha : opds fr xs = as) (hok : as.all okV = true) (hc : callV p fv as h = some (v, h')) :
    (EOp.callv f xs).ev (callO p) (yieldO p) fr ⟨lc, h⟩ = some (v, ⟨lc, h'⟩) := by
  simp only [EOp.ev, ha, hok, if_true, hf]
  unfold callV at hc
  split at hc
  · simp only [hc, Option.map_some]
  · rename_i l first x
    split at hc
    · rename_i h0; simp only [h0, if_true, hc, Option.map_some]
    · cases hc
  · cases hc

theorem wpr_callV {f : Opd} {xs : List Opd} {fv : Value} {as : List Value} (hf : opd fr f = fv) (ha : opds fr xs = as) (hok : as.all okV = true)
    (hq : WpV p fv as h fun v h' => WpR p T keep r ((d, v) :: fr) lc h' ((fr, ⟨lc, h⟩) :: tr) K) :
    WpR p T keep (⟨some d, .e (.callv f xs), none⟩ :: r) fr lc h tr K := by
  obtain ⟨v, h', h1, h2⟩ := hq
  exact wpr_e (ev_callV hf ha hok h1) h2
theorem wpr_callV0 {f : Opd} {xs : List Opd} {fv : Value} {as : List Value} (hf : opd fr f = fv) (ha : opds fr xs = as) (hok : as.all okV = true)
    (hq : WpV p fv as h fun v h' => WpR p T keep r fr lc h' ((fr, ⟨lc, h⟩) :: tr) K) :
    WpR p T keep (⟨none, .e (.callv f xs), none⟩ :: r) fr lc h tr K := by
  obtain ⟨v, h', h1, h2⟩ := hq
  exact wpr_e0 (ev_callV hf ha hok h1) h2

theorem settle_ok {v : Value} (hv : isLoc v = false) (i : Nat) : settle1 i v = some v := by unfold settle1; rw [if_neg (by rw [hv]; decide)]
theorem lc1_ok {v : Value} (hv : isLoc v = false) (lc : Lc) (i : Nat) (r : Lc) : lc1 lc i v r = r := by
  unfold lc1
  split
  · rename_i a
    simp only [isLoc] at hv
    cases hs : a.spot with
    | none => rfl
    | some k => rw [hs] at hv; cases hv
  · rfl
theorem ev_mkfn {g : FuncId} {a b : List Opd} : (POp.mkfn (.func g) a b).ev fr = if ((opds fr a).all okV && (opds fr b).all okV) = true then some (.func (.func g) (opds fr a).toArray (opds fr b).toArray) else none := rfl
theorem ev_mkif {t : TypeId} {x : Opd} : (POp.mkif t x).ev fr = if okV (opd fr x) = true then some (.iface t (opd fr x)) else none := rfl
attribute [push_cast] ev_mkfn ev_mkif okV_eq
theorem okFr_nil : okFr [] = [] := rfl
theorem okFr_cons {s : Nat} {v : Value} {r : Fr} : okFr ((s, v) :: r) = (if okV v then (s, v) else (s, undef)) :: okFr r := rfl

/-- A function value. -/
def IsF (v : Value) : Prop := ∃ fn a b, v = .func fn a b
theorem IsF.loc {v : Value} (h : IsF v) : isLoc v = false := by obtain ⟨_, _, _, rfl⟩ := h; rfl
theorem IsF.cell {v : Value} (h : IsF v) : cellOk v = true := by obtain ⟨_, _, _, rfl⟩ := h; rfl
theorem IsF.vc {v : Value} (h : IsF v) : vcells v = [v] := by obtain ⟨_, _, _, rfl⟩ := h; rfl
theorem IsF.set {v : Value} (h : IsF v) (i : Nat) : settle1 i v = some v := settle_ok h.loc i
theorem IsF.lc1 {v : Value} (h : IsF v) (lc : Lc) (i : Nat) (r : Lc) : lc1 lc i v r = r := lc1_ok h.loc lc i r

/-! ### 2. A loop's code, called back -/

/-- The blocks in T, and those that are new, may turn. -/
structure PF (T : Nat → Prop) (h h' : AH) : Prop where
  n : h.n ≤ h'.n
  keep : ∀ b, b < h.n → ¬ T b → h'.get b = h.get b
/-- ... and the block l. -/
structure Fm (l : Nat) (T : Nat → Prop) (h h' : AH) : Prop where
  n : h.n ≤ h'.n
  keep : ∀ b, b < h.n → ¬ T b → b ≠ l → h'.get b = h.get b

theorem AH.set_n {h : AH} {b : Nat} {o : AObj} : (h.set b o).n = h.n := rfl
theorem AH.kill_n {h : AH} {b : Nat} : (h.kill b).n = h.n := rfl
theorem AH.push_n {h : AH} {o : AObj} : (h.push o).n = h.n + 1 := rfl

theorem Fm.set {l : Nat} {T : Nat → Prop} {h : AH} (o : AObj) : Fm l T h (h.set l o) := ⟨Nat.le_refl _, fun b _ _ hb => AH.get_set_ne o hb⟩
theorem Fm.kill {l : Nat} {T : Nat → Prop} {h : AH} : Fm l T h (h.kill l) := ⟨Nat.le_refl _, fun b _ _ hb => AH.get_kill_ne hb⟩
theorem Fm.push {l : Nat} {T : Nat → Prop} {h : AH} (o : AObj) : Fm l T h (h.push o) := ⟨by rw [AH.push_n]; omega, fun b hb _ _ => AH.get_push_ne o (by omega)⟩
theorem PF.fm {l : Nat} {T : Nat → Prop} {h h' : AH} (f : PF T h h') : Fm l T h h' := ⟨f.n, fun b h1 h2 _ => f.keep b h1 h2⟩
theorem Kp.pf {T : Nat → Prop} {h h' : AH} (k : Kp h h') : PF T h h' := ⟨k.1, fun b hb _ => k.2 b hb⟩
theorem Kp.fm {l : Nat} {T : Nat → Prop} {h h' : AH} (k : Kp h h') : Fm l T h h' := k.pf.fm

theorem Reads.ag {h h' : AH} {e : Nat} {s : Sl} {xss : List (List Value)} (r : Reads h e s xss) (k : ∀ b, b < h.n → h'.get b = h.get b) : Reads h' e s xss := by
  refine ⟨r.1, r.2.1, ?_⟩
  have := r.2.2
  cases s with
  | nil => trivial
  | «at» b o n => exact this.imp id fun ⟨ro, pre, post, h1, h2⟩ => ⟨ro, pre, post, by rw [k _ (AH.get_lt h1)]; exact h1, h2⟩
theorem Reads.setNe {h : AH} {e : Nat} {s : Sl} {xss : List (List Value)} (r : Reads h e s xss) {c : Nat} (o : AObj) (k : ∀ b, s.blk = some b → b ≠ c) : Reads (h.set c o) e s xss := by
  refine ⟨r.1, r.2.1, ?_⟩
  have := r.2.2
  cases s with
  | nil => trivial
  | «at» b o' n => exact this.imp id fun ⟨ro, pre, post, h1, h2⟩ => ⟨ro, pre, post, by rw [AH.get_set_ne o (k b rfl)]; exact h1, h2⟩
theorem Kp.push {h0 h : AH} (k : Kp h0 h) (o : AObj) : Kp h0 (h.push o) := ⟨by have := k.1; rw [AH.push_n]; omega, fun b hb => by have := k.1; rw [AH.get_push_ne _ (by omega)]; exact k.2 b hb⟩
theorem Kp.setNew {h0 h : AH} (k : Kp h0 h) {c : Nat} (o : AObj) (hc : h0.n ≤ c) : Kp h0 (h.set c o) := ⟨k.1, fun b hb => by rw [AH.get_set_ne _ (by omega)]; exact k.2 b hb⟩

theorem yieldO_run {l : Nat} {args : List Value} {r : LRec} {fr1 : Fr} {lc1 : Lc} {h1 : AH} {r1 : LRec} {ex : Ex} {fr2 : Fr} {m2 : Mem} {r2 : LRec} (h0 : h.get l = some (.loop r)) (hn : args.length = r.params.length)
    (ha : execO p r.assign ((r.params.zip args).reverse ++ r.fr) { lc := [], h } = some (.norm, fr1, ⟨lc1, h1⟩)) (hr1 : h1.get l = some (.loop r1)) (hst : r1.state = .ready)
    (hb : execO p r1.body fr1 ⟨lc1, h1.set l (.loop { r1 with state := .busy })⟩ = some (ex, fr2, m2)) (hr2 : m2.h.get l = some (.loop r2)) (hbody : r1.body = r.body) :
    yieldO p l args h = some ((endRec r2 ex).1, m2.h.set l (.loop (endRec r2 ex).2)) := by
  obtain ⟨k1, e1⟩ := execO_iff.1 ha
  obtain ⟨k2, e2⟩ := execO_iff.1 hb
  have e1' := exec_rising p _ _ _ k1 (max k1 k2) _ (Nat.le_max_left _ _) e1
  have e2' := exec_rising p _ _ _ k2 (max k1 k2) _ (Nat.le_max_right _ _) e2
  refine yieldO_iff.2 ⟨max k1 k2 + 1, ?_⟩
  rw [hbody] at e2'
  show yieldBody (runN p (max k1 k2)).1 (runN p (max k1 k2)).2 (max k1 k2) l args h = _
  unfold yieldBody
  simp only [h0, hn, if_true, e1', hr1, hst]
  cases r1 with
  | mk s pd f ps a b =>
    simp only at hbody hst e2'
    subst hbody hst
    simp only [e2', hr2]

/-! ### 3. Sequences -/

/-- Who is called with one thing after another. T: blocks of the one who calls. -/
structure Cons {α : Type} (p : Prg) (yv : Value) (xs : List α) (enc : α → List Value) (I : Nat → (Nat → Prop) → AH → Prop) (E : (Nat → Prop) → AH → Prop) : Prop where
  step : ∀ (i : Nat) (hi : i < xs.length) T h, I i T h → WpV p yv (enc xs[i]) h fun v h' => ((v = .bool true ∧ I (i + 1) T h') ∨ (v = .bool false ∧ E T h')) ∧ h.n ≤ h'.n ∧ ∀ b, T b → h'.get b = h.get b
  frI : ∀ i T T' h h', I i T h → PF T h h' → (∀ b, T' b → b < h'.n ∧ (T b ∨ h.n ≤ b)) → I i T' h'
  frE : ∀ T T' h h', E T h → PF T h h' → (∀ b, T' b → b < h'.n ∧ (T b ∨ h.n ≤ b)) → E T' h'

/-- A function value that hands out xs, one by one. D: what it needs all the time. -/
def Seq {α : Type} (p : Prg) (fv : Value) (xs : List α) (enc : α → List Value) (D : AH → Prop) : Prop :=
  ∀ (yv : Value) (I : Nat → (Nat → Prop) → AH → Prop) (E : (Nat → Prop) → AH → Prop) (h : AH), IsF yv → vsame yv yv = true → Cons p yv xs enc I E → (∀ i T h, I i T h → D h) →
    I 0 (fun _ => False) h → WpV p fv [yv] h fun _ h' => ∃ T, I xs.length T h' ∨ E T h'

theorem wp_range {α : Type} {xs : List α} {enc : α → List Value} {D : AH → Prop} {fo : Opd} {params : List Nat} {assign body : LCode} {g : FuncId} {ca cb : Array Value} (hf : opd fr fo = .func (.func g) ca cb)
    (hs : Seq p (.func (.func g) ca cb) xs enc D) (hn : ∀ x, (enc x).length = params.length)
    (F : Nat → (Nat → Prop) → AH → Prop) (G : Ex → (Nat → Prop) → AH → Prop) (A : α → Fr) (L : α → Lc)
    (frF : ∀ i T T' h1 h2, F i T h1 → (∀ b, T b → h.n < b ∧ b < h1.n) → Fm h.n T h1 h2 → (∀ b, T' b → h.n < b ∧ b < h2.n ∧ (T b ∨ h1.n ≤ b)) → F i T' h2)
    (frG : ∀ ex T T' h1 h2, G ex T h1 → (∀ b, T b → h.n < b ∧ b < h1.n) → Fm h.n T h1 h2 → (∀ b, T' b → h.n < b ∧ b < h2.n ∧ (T b ∨ h1.n ≤ b)) → G ex T' h2)
    (hD : ∀ i T h1, F i T h1 → D h1)
    (asg : ∀ x h1, Wp p assign ((params.zip (enc x)).reverse ++ okFr fr) [] h1 fun ex fr1 lc1 h2 => ex = .norm ∧ h2 = h1 ∧ fr1 = A x ∧ lc1 = L x)
    (init : F 0 (fun _ => False) h)
    (step : ∀ (i : Nat) (hi : i < xs.length) T h1 o, F i T h1 → (∀ b, T b → h.n < b ∧ b < h1.n) → h.n < h1.n → h1.get h.n = some o →
      Wp p body (A xs[i]) (L xs[i]) h1 fun ex _ _ h3 => h3.get h.n = some o ∧ h1.n ≤ h3.n ∧ (∀ b, T b → h3.get b = h1.get b) ∧ match ex with
        | .norm => F (i + 1) T h3
        | ex => G ex T h3)
    (fin : ∀ T h1, F xs.length T h1 → (∀ b, T b → h.n < b ∧ b < h1.n) → h.n < h1.n → Q .norm fr lc h1)
    (early : ∀ ex T h1, ex ≠ .norm → G ex T h1 → (∀ b, T b → h.n < b ∧ b < h1.n) → h.n < h1.n → Q ex fr lc h1) : Wp p (.rangeF fo params assign body) fr lc h Q := by
  obtain ⟨R, hR⟩ : ∃ R : LRec, R = { state := .ready, pend := none, fr := okFr fr, params, assign, body } := ⟨_, rfl⟩
  have hc := hs (.func (.yield h.n) #[] #[])
    (fun i T h1 => F i T h1 ∧ (∀ b, T b → h.n < b ∧ b < h1.n) ∧ h.n < h1.n ∧ h1.get h.n = some (.loop R))
    (fun T h1 => ∃ ex, ex ≠ .norm ∧ G ex T h1 ∧ (∀ b, T b → h.n < b ∧ b < h1.n) ∧ h.n < h1.n ∧ h1.get h.n = some (.loop (endRec R ex).2))
    (h.push (.loop R)) ⟨_, _, _, rfl⟩ (by simp [vsame, vsame1, vsameL]) ⟨?_, ?_, ?_⟩ (fun i T h1 hi => hD i T h1 hi.1) ⟨frF _ _ _ _ _ init (fun b hb => hb.elim) (Fm.push _) (fun b hb => hb.elim), fun b hb => hb.elim, by rw [AH.push_n]; omega, AH.get_push_same _ _⟩
  · obtain ⟨v, h', e1, T, hor⟩ := hc
    have ht : execO p (.rangeF fo params assign body) fr ⟨lc, h⟩ = runRange (callO p) (.func (.func g) ca cb) params assign body fr ⟨lc, h⟩ := by rw [execO_rangeF, hf]
    have e2 : callO p g (ca.toList ++ [.func (.yield h.n) #[] #[]] ++ cb.toList) (h.push (.loop { state := .ready, pend := none, fr := okFr fr, params, assign, body })) = some (v, h') := by
      rw [← hR]; exact e1
    rcases hor with ⟨a1, a2, a3, a4⟩ | ⟨ex, a0, a1, a2, a3, a4⟩
    · refine ⟨.norm, fr, lc, h'.kill h.n, ?_, fin T _ (frF _ _ _ _ _ a1 a2 Fm.kill fun b hb => ⟨(a2 b hb).1, (a2 b hb).2, .inl hb⟩) (fun b hb => a2 b hb) a3⟩
      rw [ht]
      unfold runRange
      simp only [e2, a4]
      rw [hR]
    · refine ⟨ex, fr, lc, h'.kill h.n, ?_, early ex T _ a0 (frG _ _ _ _ _ a1 a2 Fm.kill fun b hb => ⟨(a2 b hb).1, (a2 b hb).2, .inl hb⟩) (fun b hb => a2 b hb) a3⟩
      rw [ht]
      unfold runRange
      simp only [e2, a4]
      cases ex with
      | norm => exact absurd rfl a0
      | ret => rfl
      | exit id => rfl
  · rintro i hi T h1 ⟨b1, b2, b3, b4⟩
    obtain ⟨ex0, fr1, lc1, h2, c1, rfl, rfl, rfl, rfl⟩ := (asg xs[i] h1).out
    have b1' := frF _ _ T _ _ b1 b2 (Fm.set (.loop { R with state := .busy })) (fun b hb => ⟨(b2 b hb).1, (b2 b hb).2, .inl hb⟩)
    obtain ⟨ex, fr2, lc2, h3, d1, d2, d3, d4, d5⟩ := (step i hi T _ _ b1' (fun b hb => b2 b hb) b3 (AH.get_set_same _ b3)).out
    have hy := yieldO_run (p := p) (args := enc xs[i]) (r := R) (r1 := R) (ex := ex) (fr1 := A xs[i]) (lc1 := L xs[i]) (h1 := h2) (fr2 := fr2) (m2 := ⟨lc2, h3⟩) (r2 := { R with state := .busy }) b4
      (by rw [hR]; exact hn _) (by rw [hR]; exact c1) b4 (by rw [hR]) (by rw [hR]; rw [hR] at d1; exact d1) d2 rfl
    have hln : h.n < h3.n := Nat.lt_of_lt_of_le b3 d3
    have hkeep : ∀ o b, T b → (h3.set h.n o).get b = h2.get b := fun o b hb => by
      rw [AH.get_set_ne _ (by have := (b2 b hb).1; omega), d4 b hb, AH.get_set_ne _ (by have := (b2 b hb).1; omega)]
    have hT3 : ∀ b, T b → h.n < b ∧ b < h3.n := fun b hb => ⟨(b2 b hb).1, Nat.lt_of_lt_of_le (b2 b hb).2 d3⟩
    refine ⟨_, _, hy, ?_, d3, hkeep _⟩
    cases ex with
    | norm => exact .inl ⟨rfl, frF _ _ T _ _ d5 hT3 (Fm.set _) (fun b hb => ⟨(hT3 b hb).1, (hT3 b hb).2, .inl hb⟩), hT3, hln, by rw [AH.get_set_same _ hln, hR]; rfl⟩
    | ret => exact .inr ⟨rfl, .ret, by simp, frG _ _ T _ _ d5 hT3 (Fm.set _) (fun b hb => ⟨(hT3 b hb).1, (hT3 b hb).2, .inl hb⟩), hT3, hln, by rw [AH.get_set_same _ hln]; rfl⟩
    | exit id => exact .inr ⟨rfl, .exit id, by simp, frG _ _ T _ _ d5 hT3 (Fm.set _) (fun b hb => ⟨(hT3 b hb).1, (hT3 b hb).2, .inl hb⟩), hT3, hln, by rw [AH.get_set_same _ hln]; rfl⟩
  · rintro i T T' h1 h2 ⟨b1, b2, b3, b4⟩ hp hT
    have hT2 : ∀ b, T' b → h.n < b ∧ b < h2.n := fun b hb => ⟨(hT b hb).2.elim (fun h => (b2 b h).1) (fun h => by omega), (hT b hb).1⟩
    exact ⟨frF _ _ _ _ _ b1 b2 hp.fm (fun b hb => ⟨(hT2 b hb).1, (hT2 b hb).2, (hT b hb).2⟩), hT2, Nat.lt_of_lt_of_le b3 hp.n, by rw [hp.keep _ b3 (fun h => by have := (b2 _ h).1; omega)]; exact b4⟩
  · rintro T T' h1 h2 ⟨ex, b0, b1, b2, b3, b4⟩ hp hT
    have hT2 : ∀ b, T' b → h.n < b ∧ b < h2.n := fun b hb => ⟨(hT b hb).2.elim (fun h => (b2 b h).1) (fun h => by omega), (hT b hb).1⟩
    exact ⟨ex, b0, frG _ _ _ _ _ b1 b2 hp.fm (fun b hb => ⟨(hT2 b hb).1, (hT2 b hb).2, (hT b hb).2⟩), hT2, Nat.lt_of_lt_of_le b3 hp.n, by rw [hp.keep _ b3 (fun h => by have := (b2 _ h).1; omega)]; exact b4⟩

end Go.Proofs.Ytmfpkgcphlilmaa.AM
