/-
  Rules: what a run of the machine's comes to, step by step.
-/
import Derived.Test.YtanpdopjgepbkaaAmLim
set_option linter.unusedVariables false
set_option linter.unusedSimpArgs false
namespace Go.Proofs.Ytanpdopjgepbkaa.AM
open Go

abbrev Lc := List (Nat × AObj)
abbrev Post := Ex → Fr → Lc → AH → Prop

/-- The code ends, and so. -/
structure Wp (p : Prg) (c : LCode) (fr : Fr) (lc : Lc) (h : AH) (Q : Post) : Prop where
  out : ∃ ex fr' lc' h', execO p c fr ⟨lc, h⟩ = some (ex, fr', ⟨lc', h'⟩) ∧ Q ex fr' lc' h'
/-- The call ends, and so. -/
structure WpC (p : Prg) (f : FuncId) (args : List Value) (h : AH) (Q : Value → AH → Prop) : Prop where
  out : ∃ v h', callO p f args h = some (v, h') ∧ Q v h'

structure thenQ (p : Prg) (b : LCode) (Q : Post) (ex : Ex) (fr : Fr) (lc : Lc) (h : AH) : Prop where
  out : match ex with
    | .norm => Wp p b fr lc h Q
    | ex => Q ex fr lc h
structure blockQ (id : Nat) (Q : Post) (ex : Ex) (fr : Fr) (lc : Lc) (h : AH) : Prop where
  out : match ex with
    | .exit i => if i = id then Q .norm fr lc h else Q (.exit i) fr lc h
    | ex => Q ex fr lc h
structure loopQ (K : Fr → Lc → AH → Prop) (Q : Post) (ex : Ex) (fr : Fr) (lc : Lc) (h : AH) : Prop where
  out : match ex with
    | .norm => K fr lc h
    | ex => Q ex fr lc h
structure retQ (rs : List LRes) (Q : Value → AH → Prop) (ex : Ex) (fr : Fr) (lc : Lc) (h : AH) : Prop where
  out : match ex with
    | .exit _ => False
    | _ => ∃ v, retV fr ⟨lc, h⟩ rs = some v ∧ Q v h

variable {p : Prg} {fr : Fr} {lc : Lc} {h : AH} {Q : Post}

theorem wp_skip (hq : Q .norm fr lc h) : Wp p .skip fr lc h Q := ⟨_, _, _, _, execO_skip, hq⟩
theorem wp_exit {id : Nat} (hq : Q (.exit id) fr lc h) : Wp p (.exit id) fr lc h Q := ⟨_, _, _, _, execO_exit, hq⟩
theorem wp_ret (hq : Q .ret fr lc h) : Wp p .ret fr lc h Q := ⟨_, _, _, _, execO_ret, hq⟩
theorem wp_seq {a b : LCode} (hq : Wp p a fr lc h (thenQ p b Q)) : Wp p (.seq a b) fr lc h Q := by
  obtain ⟨ex, fr', lc', h', h1, h2⟩ := hq
  cases ex with
  | norm =>
    obtain ⟨ex, fr2, lc2, h2', h3, h4⟩ := h2.out
    exact ⟨ex, fr2, lc2, h2', by rw [execO_seq, h1, andThen_norm, h3], h4⟩
  | exit i => exact ⟨_, _, _, _, by rw [execO_seq, h1, andThen_exit], h2.out⟩
  | ret => exact ⟨_, _, _, _, by rw [execO_seq, h1, andThen_ret], h2.out⟩
theorem wp_block {id : Nat} {a : LCode} (hq : Wp p a fr lc h (blockQ id Q)) : Wp p (.block id a) fr lc h Q := by
  obtain ⟨ex, fr', lc', h', h1, h2⟩ := hq
  cases ex with
  | norm => exact ⟨_, _, _, _, by rw [execO_block, h1, catchEx_norm], h2.out⟩
  | exit i =>
    have h2 := h2.out
    simp only at h2
    by_cases hi : i = id
    · rw [if_pos hi] at h2
      exact ⟨_, _, _, _, by rw [execO_block, h1, catchEx_exit, if_pos hi], h2⟩
    · rw [if_neg hi] at h2
      exact ⟨_, _, _, _, by rw [execO_block, h1, catchEx_exit, if_neg hi], h2⟩
  | ret => exact ⟨_, _, _, _, by rw [execO_block, h1, catchEx_ret], h2.out⟩
theorem wp_cond_t {c : Opd} {a b : LCode} (hc : opd fr c = .bool true) (hq : Wp p a fr lc h Q) : Wp p (.cond c a b) fr lc h Q := by
  obtain ⟨ex, fr', lc', h', h1, h2⟩ := hq
  exact ⟨_, _, _, _, by rw [execO_cond hc, if_pos rfl, h1], h2⟩
theorem wp_cond_f {c : Opd} {a b : LCode} (hc : opd fr c = .bool false) (hq : Wp p b fr lc h Q) : Wp p (.cond c a b) fr lc h Q := by
  obtain ⟨ex, fr', lc', h', h1, h2⟩ := hq
  exact ⟨_, _, _, _, by rw [execO_cond hc, if_neg (by decide), h1], h2⟩
theorem wp_mono {c : LCode} {Q' : Post} (hq : Wp p c fr lc h Q) (hm : ∀ ex fr lc h, Q ex fr lc h → Q' ex fr lc h) : Wp p c fr lc h Q' :=
  let ⟨ex, fr', lc', h', h1, h2⟩ := hq
  ⟨ex, fr', lc', h', h1, hm _ _ _ _ h2⟩

/-- A loop, by an invariant and a number that falls. -/
theorem wp_loop {a : LCode} (I : Nat → Fr → Lc → AH → Prop) (n : Nat) (h0 : I n fr lc h)
    (hs : ∀ n fr lc h, I n fr lc h → Wp p a fr lc h (loopQ (fun fr lc h => ∃ n', n' < n ∧ I n' fr lc h) Q)) : Wp p (.loop a) fr lc h Q := by
  induction n using Nat.strongRecOn generalizing fr lc h with
  | ind n ih =>
    obtain ⟨ex, fr', lc', h', h1, h2⟩ := hs n fr lc h h0
    cases ex with
    | norm =>
      obtain ⟨n', hn, hI⟩ := h2.out
      obtain ⟨ex, fr2, lc2, h2', h3, h4⟩ := ih n' hn hI
      exact ⟨_, _, _, _, by rw [execO_loop, h1, andThen_norm, h3], h4⟩
    | exit i => exact ⟨_, _, _, _, by rw [execO_loop, h1, andThen_exit], h2.out⟩
    | ret => exact ⟨_, _, _, _, by rw [execO_loop, h1, andThen_ret], h2.out⟩

theorem thenQ_norm {b : LCode} (hq : Wp p b fr lc h Q) : thenQ p b Q .norm fr lc h := ⟨hq⟩
theorem thenQ_ret {b : LCode} (hq : Q .ret fr lc h) : thenQ p b Q .ret fr lc h := ⟨hq⟩
theorem thenQ_exit {b : LCode} {i : Nat} (hq : Q (.exit i) fr lc h) : thenQ p b Q (.exit i) fr lc h := ⟨hq⟩
theorem blockQ_norm {id : Nat} (hq : Q .norm fr lc h) : blockQ id Q .norm fr lc h := ⟨hq⟩
theorem blockQ_ret {id : Nat} (hq : Q .ret fr lc h) : blockQ id Q .ret fr lc h := ⟨hq⟩
theorem blockQ_same {id : Nat} (hq : Q .norm fr lc h) : blockQ id Q (.exit id) fr lc h := ⟨by simpa only [if_true] using hq⟩
theorem blockQ_ne {id i : Nat} (hi : (i == id) = false) (hq : Q (.exit i) fr lc h) : blockQ id Q (.exit i) fr lc h := by
  have : ¬ i = id := by simpa using hi
  exact ⟨by simpa only [if_neg this] using hq⟩
theorem loopQ_norm {K : Fr → Lc → AH → Prop} (hq : K fr lc h) : loopQ K Q .norm fr lc h := ⟨hq⟩
theorem loopQ_ret {K : Fr → Lc → AH → Prop} (hq : Q .ret fr lc h) : loopQ K Q .ret fr lc h := ⟨hq⟩
theorem loopQ_exit {K : Fr → Lc → AH → Prop} {i : Nat} (hq : Q (.exit i) fr lc h) : loopQ K Q (.exit i) fr lc h := ⟨hq⟩
theorem retQ_ret {rs : List LRes} {C : Value → AH → Prop} {v : Value} (hv : retV fr ⟨lc, h⟩ rs = some v) (hq : C v h) : retQ rs C .ret fr lc h := ⟨⟨v, hv, hq⟩⟩
theorem retQ_norm {rs : List LRes} {C : Value → AH → Prop} {v : Value} (hv : retV fr ⟨lc, h⟩ rs = some v) (hq : C v h) : retQ rs C .norm fr lc h := ⟨⟨v, hv, hq⟩⟩

/-! ### Calls -/

theorem WpC.mono {f : FuncId} {args : List Value} {C C' : Value → AH → Prop} (hq : WpC p f args h C) (hm : ∀ v h', C v h' → C' v h') : WpC p f args h C' :=
  let ⟨v, h', h1, h2⟩ := hq
  ⟨v, h', h1, hm _ _ h2⟩
theorem wpc_of {f : FuncId} {args : List Value} {C : Value → AH → Prop} {v : Value} {h' : AH} (hc : callO p f args h = some (v, h')) (hq : C v h') : WpC p f args h C := ⟨v, h', hc, hq⟩
theorem WpC.eqn {f : FuncId} {args : List Value} {v : Value} {h' : AH} (hq : WpC p f args h fun v' h1 => v' = v ∧ h1 = h') : callO p f args h = some (v, h') := by
  obtain ⟨v', h1, e, rfl, rfl⟩ := hq
  exact e
theorem wpc_fn {f : FuncId} {args : List Value} {C : Value → AH → Prop} {lf : LFunc} (he : p.ext f = none) (hf : p.fn f = some lf) (hn : args.length = lf.nargs)
    (hq : Wp p lf.body (argFr 0 args) [] h (retQ lf.results C)) : WpC p f args h C := by
  obtain ⟨ex, fr', lc', h', h1, h2⟩ := hq
  have hc := callO_fn (h := h) he hf hn
  rw [h1] at hc
  cases ex with
  | norm =>
    obtain ⟨v, h3, h4⟩ := h2.out
    exact ⟨v, h', by rw [hc, giveBack_norm, h3]; rfl, h4⟩
  | exit i => exact h2.out.elim
  | ret =>
    obtain ⟨v, h3, h4⟩ := h2.out
    exact ⟨v, h', by rw [hc, giveBack_ret, h3]; rfl, h4⟩

/-! ### Regions -/

def chkT (ops : List LInstr) (chk : List (Nat × Nat)) (tr : List (Fr × Mem)) : Prop := chk.all (chk1 ops tr) = true

/-- The rest of a region: operations, checks, what is kept. -/
structure WpR (p : Prg) (T : List (Fr × Mem) → Prop) (keep : List Nat) (rest : List LInstr) (fr : Fr) (lc : Lc) (h : AH) (tr : List (Fr × Mem)) (Q : Fr → Lc → AH → Prop) : Prop where
  out : ∃ fr1 lc1 h1 fr2, runOps (callO p) (yieldO p) rest fr ⟨lc, h⟩ = some (fr1, ⟨lc1, h1⟩) ∧ T (tr.reverse ++ trace (callO p) (yieldO p) rest fr ⟨lc, h⟩) ∧ keepFr fr1 keep = some fr2 ∧ Q fr2 (keepLc fr1 lc1 keep) h1

variable {T : List (Fr × Mem) → Prop} {keep : List Nat} {r : List LInstr} {tr : List (Fr × Mem)} {K : Fr → Lc → AH → Prop} {d : Nat} {v : Value}

theorem wp_region {ops : List LInstr} {chk : List (Nat × Nat)} (hq : WpR p (chkT ops chk) keep ops fr lc h [] (Q .norm)) : Wp p (.region ops keep chk) fr lc h Q := by
  obtain ⟨fr1, lc1, h1, fr2, e1, e2, e3, e4⟩ := hq
  refine ⟨_, _, _, _, ?_, e4⟩
  rw [execO_region]
  unfold runRegion
  rw [e1]
  simp only [chkT, List.reverse_nil, List.nil_append] at e2
  simp only [e2, if_true, e3]

theorem wpr_nil {fr2 : Fr} {lc2 : Lc} (hT : T ((fr, ⟨lc, h⟩) :: tr).reverse) (hk : keepFr fr keep = some fr2) (hl : keepLc fr lc keep = lc2) (hq : K fr2 lc2 h) : WpR p T keep [] fr lc h tr K :=
  ⟨fr, lc, h, fr2, rfl, by simpa [trace] using hT, hk, by rw [hl]; exact hq⟩

theorem chkT_nil {ops : List LInstr} {tr : List (Fr × Mem)} : chkT ops [] tr := rfl

theorem wpr_step {i : LInstr} {lc' : Lc} {h' : AH} (hv : i.step (callO p) (yieldO p) fr ⟨lc, h⟩ = some (v, ⟨lc', h'⟩)) (hq : WpR p T keep r (pushD fr i.dst v) lc' h' ((fr, ⟨lc, h⟩) :: tr) K) :
    WpR p T keep (i :: r) fr lc h tr K := by
  obtain ⟨fr1, lc1, h1, fr2, e1, e2, e3, e4⟩ := hq
  refine ⟨fr1, lc1, h1, fr2, by simp only [runOps, hv, e1], ?_, e3, e4⟩
  simpa only [trace, hv, List.reverse_cons, List.append_assoc, List.singleton_append] using e2

theorem wpr_p {o : POp} (hv : o.ev fr = some v) (hq : WpR p T keep r ((d, v) :: fr) lc h ((fr, ⟨lc, h⟩) :: tr) K) : WpR p T keep (⟨some d, .p o, none⟩ :: r) fr lc h tr K :=
  wpr_step (v := v) (by simp only [LInstr.step, wantedA, LInstr.ev, hv, Option.map_some]) hq
theorem wpr_p0 {o : POp} (hv : o.ev fr = some v) (hq : WpR p T keep r fr lc h ((fr, ⟨lc, h⟩) :: tr) K) : WpR p T keep (⟨none, .p o, none⟩ :: r) fr lc h tr K :=
  wpr_step (v := v) (by simp only [LInstr.step, wantedA, LInstr.ev, hv, Option.map_some]) hq
theorem wpr_r {o : ROp} (hv : o.ev fr ⟨lc, h⟩ = some v) (hq : WpR p T keep r ((d, v) :: fr) lc h ((fr, ⟨lc, h⟩) :: tr) K) : WpR p T keep (⟨some d, .r o, none⟩ :: r) fr lc h tr K :=
  wpr_step (v := v) (by simp only [LInstr.step, wantedA, LInstr.ev, hv, Option.map_some]) hq
theorem wpr_e {o : EOp} {lc' : Lc} {h' : AH} (hv : o.ev (callO p) (yieldO p) fr ⟨lc, h⟩ = some (v, ⟨lc', h'⟩)) (hq : WpR p T keep r ((d, v) :: fr) lc' h' ((fr, ⟨lc, h⟩) :: tr) K) :
    WpR p T keep (⟨some d, .e o, none⟩ :: r) fr lc h tr K :=
  wpr_step (v := v) (by simp only [LInstr.step, wantedA, LInstr.ev, hv]) hq
theorem wpr_e0 {o : EOp} {lc' : Lc} {h' : AH} (hv : o.ev (callO p) (yieldO p) fr ⟨lc, h⟩ = some (v, ⟨lc', h'⟩)) (hq : WpR p T keep r fr lc' h' ((fr, ⟨lc, h⟩) :: tr) K) :
    WpR p T keep (⟨none, .e o, none⟩ :: r) fr lc h tr K :=
  wpr_step (v := v) (by simp only [LInstr.step, wantedA, LInstr.ev, hv]) hq
theorem wpr_call {f : FuncId} {xs : List Opd} {as : List Value} (ha : opds fr xs = as) (hok : as.all okV = true) (hq : WpC p f as h fun v h' => WpR p T keep r ((d, v) :: fr) lc h' ((fr, ⟨lc, h⟩) :: tr) K) :
    WpR p T keep (⟨some d, .e (.call f xs), none⟩ :: r) fr lc h tr K := by
  obtain ⟨v, h', h1, h2⟩ := hq
  exact wpr_e (by simp only [EOp.ev, ha, hok, if_true, h1, Option.map_some]) h2
theorem wpr_call0 {f : FuncId} {xs : List Opd} {as : List Value} (ha : opds fr xs = as) (hok : as.all okV = true) (hq : WpC p f as h fun v h' => WpR p T keep r fr lc h' ((fr, ⟨lc, h⟩) :: tr) K) :
    WpR p T keep (⟨none, .e (.call f xs), none⟩ :: r) fr lc h tr K := by
  obtain ⟨v, h', h1, h2⟩ := hq
  exact wpr_e0 (by simp only [EOp.ev, ha, hok, if_true, h1, Option.map_some]; rfl) h2
theorem wpr_callv {f : Opd} {g : FuncId} {a b : Array Value} {xs : List Opd} {as : List Value} (hf : opd fr f = .func (.func g) a b) (ha : opds fr xs = as) (hok : as.all okV = true)
    (hq : WpC p g (a.toList ++ as ++ b.toList) h fun v h' => WpR p T keep r ((d, v) :: fr) lc h' ((fr, ⟨lc, h⟩) :: tr) K) :
    WpR p T keep (⟨some d, .e (.callv f xs), none⟩ :: r) fr lc h tr K := by
  obtain ⟨v, h', h1, h2⟩ := hq
  exact wpr_e (by simp only [EOp.ev, ha, hok, if_true, hf, h1, Option.map_some]) h2

/-! guards -/
theorem wpr_run {dd : Option Nat} {op : LOp} {g : Nat} {b : Bool} (hg : fget fr g = .bool b) (hq : WpR p T keep (⟨dd, op, none⟩ :: r) fr lc h tr K) : WpR p T keep (⟨dd, op, some (g, b)⟩ :: r) fr lc h tr K := by
  obtain ⟨fr1, lc1, h1, fr2, e1, e2, e3, e4⟩ := hq
  have hs : LInstr.step (callO p) (yieldO p) ⟨dd, op, some (g, b)⟩ fr ⟨lc, h⟩ = LInstr.step (callO p) (yieldO p) ⟨dd, op, none⟩ fr ⟨lc, h⟩ := by
    simp only [LInstr.step, wantedA, hg, beq_self_eq_true, LInstr.ev]
  refine ⟨fr1, lc1, h1, fr2, ?_, ?_, e3, e4⟩
  · simp only [runOps, hs] at e1 ⊢; exact e1
  · simp only [trace, hs] at e2 ⊢; exact e2
theorem wpr_pass {op : LOp} {g : Nat} {b t : Bool} (hg : fget fr g = .bool t) (ht : (t == b) = false) (hq : WpR p T keep r ((d, skV) :: fr) lc h ((fr, ⟨lc, h⟩) :: tr) K) :
    WpR p T keep (⟨some d, op, some (g, b)⟩ :: r) fr lc h tr K :=
  wpr_step (v := skV) (by simp only [LInstr.step, wantedA, hg, ht]) hq
theorem wpr_passS {op : LOp} {g : Nat} {b : Bool} (hg : fget fr g = .chan none) (hq : WpR p T keep r ((d, skV) :: fr) lc h ((fr, ⟨lc, h⟩) :: tr) K) :
    WpR p T keep (⟨some d, op, some (g, b)⟩ :: r) fr lc h tr K :=
  wpr_step (v := skV) (by simp only [LInstr.step, wantedA, hg]) hq
theorem wpr_pass0 {op : LOp} {g : Nat} {b t : Bool} (hg : fget fr g = .bool t) (ht : (t == b) = false) (hq : WpR p T keep r fr lc h ((fr, ⟨lc, h⟩) :: tr) K) :
    WpR p T keep (⟨none, op, some (g, b)⟩ :: r) fr lc h tr K :=
  wpr_step (v := skV) (by simp only [LInstr.step, wantedA, hg, ht]) hq
theorem wpr_pass0S {op : LOp} {g : Nat} {b : Bool} (hg : fget fr g = .chan none) (hq : WpR p T keep r fr lc h ((fr, ⟨lc, h⟩) :: tr) K) :
    WpR p T keep (⟨none, op, some (g, b)⟩ :: r) fr lc h tr K :=
  wpr_step (v := skV) (by simp only [LInstr.step, wantedA, hg]) hq

/-- A truth value that is just born: both cases. -/
theorem wpr_fork {c : Prop} {hd : Decidable c} (h1 : c → WpR p T keep r ((d, .bool true) :: fr) lc h tr K) (h2 : ¬ c → WpR p T keep r ((d, .bool false) :: fr) lc h tr K) :
    WpR p T keep r ((d, .bool (decide c)) :: fr) lc h tr K := by
  by_cases hc : c
  · simpa [hc] using h1 hc
  · simpa [hc] using h2 hc
theorem wpr_forkN {c : Prop} {hd : Decidable c} (h1 : c → WpR p T keep r ((d, .bool false) :: fr) lc h tr K) (h2 : ¬ c → WpR p T keep r ((d, .bool true) :: fr) lc h tr K) :
    WpR p T keep r ((d, .bool (!decide c)) :: fr) lc h tr K := by
  by_cases hc : c
  · simpa [hc] using h1 hc
  · simpa [hc] using h2 hc

end Go.Proofs.Ytanpdopjgepbkaa.AM
