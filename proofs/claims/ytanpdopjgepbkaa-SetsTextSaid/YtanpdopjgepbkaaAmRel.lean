/-
  The abstract machine's states and the model's worlds: how they belong together, and what steps keep of that.
-/
import Derived.Test.YtanpdopjgepbkaaAmLift
set_option linter.unusedVariables false
set_option linter.unusedSimpArgs false
namespace Go.Proofs.Ytanpdopjgepbkaa.AM
open Go

/-! ### 0. Two lists, place by place -/

inductive All2 {α β : Type} (R : α → β → Prop) : List α → List β → Prop
  | nil : All2 R [] []
  | cons {x : α} {y : β} {xs : List α} {ys : List β} (h : R x y) (t : All2 R xs ys) : All2 R (x :: xs) (y :: ys)

theorem All2.length_eq {α β : Type} {R : α → β → Prop} {xs : List α} {ys : List β} (h : All2 R xs ys) : xs.length = ys.length := by
  induction h with
  | nil => rfl
  | cons _ _ ih => simp [ih]
theorem All2.imp {α β : Type} {R S : α → β → Prop} {xs : List α} {ys : List β} (f : ∀ x y, R x y → S x y) (h : All2 R xs ys) : All2 S xs ys := by
  induction h with
  | nil => exact .nil
  | cons h _ ih => exact .cons (f _ _ h) ih
theorem All2.get {α β : Type} {R : α → β → Prop} {xs : List α} {ys : List β} (h : All2 R xs ys) : ∀ (i : Nat) x, xs[i]? = some x → ∃ y, ys[i]? = some y ∧ R x y := by
  induction h with
  | nil => intro i x hx; simp at hx
  | cons h _ ih =>
    intro i x hx
    cases i with
    | zero => simp at hx; subst hx; exact ⟨_, rfl, h⟩
    | succ i => simpa using ih i x (by simpa using hx)
theorem All2.of_get {α β : Type} {R : α → β → Prop} : ∀ {xs : List α} {ys : List β}, xs.length = ys.length → (∀ (i : Nat) x y, xs[i]? = some x → ys[i]? = some y → R x y) → All2 R xs ys
  | [], [], _, _ => .nil
  | x :: xs, y :: ys, hl, h => .cons (h 0 x y rfl rfl) (All2.of_get (by simpa using hl) fun i x y hx hy => h (i + 1) x y (by simpa using hx) (by simpa using hy))
  | [], _ :: _, hl, _ => by simp at hl
  | _ :: _, [], hl, _ => by simp at hl
theorem All2.append {α β : Type} {R : α → β → Prop} {xs xs' : List α} {ys ys' : List β} (h : All2 R xs ys) (h' : All2 R xs' ys') : All2 R (xs ++ xs') (ys ++ ys') := by
  induction h with
  | nil => exact h'
  | cons h _ ih => exact .cons h ih
theorem All2.take {α β : Type} {R : α → β → Prop} {xs : List α} {ys : List β} (h : All2 R xs ys) : ∀ n, All2 R (xs.take n) (ys.take n) := by
  induction h with
  | nil => intro n; simp; exact .nil
  | cons h _ ih =>
    intro n
    cases n with
    | zero => simp; exact .nil
    | succ n => simpa using .cons h (ih n)
theorem All2.drop {α β : Type} {R : α → β → Prop} {xs : List α} {ys : List β} (h : All2 R xs ys) : ∀ n, All2 R (xs.drop n) (ys.drop n) := by
  induction h with
  | nil => intro n; simp; exact .nil
  | cons h t ih =>
    intro n
    cases n with
    | zero => exact .cons h t
    | succ n => simpa using ih n

/-! ### 1. The heap as a map -/

theorem Tr.get_set (f : Nat) : ∀ (t : Tr) (k j : Nat) (x : Option AObj), k < f → (Tr.set f t k x).get j = if j = k then x else t.get j := by
  induction f with
  | zero => intro t k j x h; omega
  | succ f ih =>
    intro t k j x h
    have h1 : k / 2 < f ∨ k = 0 := by omega
    have h2 : k / 2 - 1 < f ∨ k = 0 := by omega
    cases t with
    | e =>
      simp only [Tr.set]
      by_cases hk : k = 0
      · subst hk
        by_cases hj : j = 0
        · subst hj; simp [Tr.get]
        · simp only [if_true, Tr.get, hj, if_false]; split <;> rfl
      · have h1' : k / 2 < f := h1.resolve_right hk
        have h2' : k / 2 - 1 < f := h2.resolve_right hk
        simp only [hk, if_false]
        by_cases ho : k % 2 = 1
        · simp only [ho, if_true, Tr.get]
          by_cases hj : j = 0
          · subst hj; simp [show ¬ (0 = k) from fun e => hk e.symm]
          · simp only [hj, if_false]
            by_cases hjo : j % 2 = 1
            · simp only [hjo, if_true]; rw [ih _ _ _ _ h1']
              by_cases he : j = k
              · subst he; simp
              · have : ¬ (j / 2 = k / 2) := by omega
                simp [he, this, Tr.get]
            · have : ¬ (j = k) := by omega
              simp [hjo, this]
        · simp only [ho, if_false, Tr.get]
          by_cases hj : j = 0
          · subst hj; simp [show ¬ (0 = k) from fun e => hk e.symm]
          · simp only [hj, if_false]
            by_cases hjo : j % 2 = 1
            · have : ¬ (j = k) := by omega
              simp [hjo, this]
            · simp only [hjo, if_false]; rw [ih _ _ _ _ h2']
              by_cases he : j = k
              · subst he; simp
              · have : ¬ (j / 2 - 1 = k / 2 - 1) := by omega
                simp [he, this, Tr.get]
    | n l v r =>
      simp only [Tr.set]
      by_cases hk : k = 0
      · subst hk
        by_cases hj : j = 0
        · subst hj; simp [Tr.get]
        · simp only [if_true, Tr.get, hj, if_false]
      · have h1' : k / 2 < f := h1.resolve_right hk
        have h2' : k / 2 - 1 < f := h2.resolve_right hk
        simp only [hk, if_false]
        by_cases ho : k % 2 = 1
        · simp only [ho, if_true, Tr.get]
          by_cases hj : j = 0
          · subst hj; simp [show ¬ (0 = k) from fun e => hk e.symm]
          · simp only [hj, if_false]
            by_cases hjo : j % 2 = 1
            · simp only [hjo, if_true]; rw [ih _ _ _ _ h1']
              by_cases he : j = k
              · subst he; simp
              · have : ¬ (j / 2 = k / 2) := by omega
                simp [he, this]
            · have : ¬ (j = k) := by omega
              simp [hjo, this]
        · simp only [ho, if_false, Tr.get]
          by_cases hj : j = 0
          · subst hj; simp [show ¬ (0 = k) from fun e => hk e.symm]
          · simp only [hj, if_false]
            by_cases hjo : j % 2 = 1
            · have : ¬ (j = k) := by omega
              simp [hjo, this]
            · simp only [hjo, if_false]; rw [ih _ _ _ _ h2']
              by_cases he : j = k
              · subst he; simp
              · have : ¬ (j / 2 - 1 = k / 2 - 1) := by omega
                simp [he, this]

theorem AH.get_lt {h : AH} {b : Nat} {o : AObj} (e : h.get b = some o) : b < h.n := by
  unfold AH.get at e
  split at e
  · assumption
  · cases e
theorem AH.get_put (h : AH) (b j : Nat) (x : Option AObj) : (h.put b x).get j = if j < h.n then (if j = b then x else h.get j) else none := by
  unfold AH.get AH.put
  simp only [Tr.get_set (b + 1) h.m b j x (by omega)]
  split <;> rfl
theorem AH.get_set_same {h : AH} {b : Nat} (o : AObj) (hb : b < h.n) : (h.set b o).get b = some o := by
  unfold AH.set; rw [AH.get_put]; simp [hb]
theorem AH.get_set_ne {h : AH} {b j : Nat} (o : AObj) (hb : j ≠ b) : (h.set b o).get j = h.get j := by
  unfold AH.set; rw [AH.get_put]
  by_cases hj : j < h.n
  · simp [hj, hb]
  · simp [hj, AH.get]
theorem AH.get_kill_same (h : AH) (b : Nat) : (h.kill b).get b = none := by
  unfold AH.kill; rw [AH.get_put]; split <;> simp
theorem AH.get_kill_ne {h : AH} {b j : Nat} (hb : j ≠ b) : (h.kill b).get j = h.get j := by
  unfold AH.kill; rw [AH.get_put]
  by_cases hj : j < h.n
  · simp [hj, hb]
  · simp [hj, AH.get]
theorem AH.get_push_same (h : AH) (o : AObj) : (h.push o).get h.n = some o := by
  unfold AH.get AH.push
  simp only [Tr.get_set (h.n + 1) h.m h.n h.n _ (by omega)]
  simp
theorem AH.get_push_ne {h : AH} {j : Nat} (o : AObj) (hj : j ≠ h.n) : (h.push o).get j = h.get j := by
  unfold AH.get AH.push
  simp only [Tr.get_set (h.n + 1) h.m h.n j _ (by omega), hj, if_false]
  by_cases h1 : j < h.n
  · simp [h1, show j < h.n + 1 by omega]
  · simp [h1, show ¬ (j < h.n + 1) by omega]
@[simp] theorem AH.n_set (h : AH) (b : Nat) (o : AObj) : (h.set b o).n = h.n := rfl
@[simp] theorem AH.n_kill (h : AH) (b : Nat) : (h.kill b).n = h.n := rfl
@[simp] theorem AH.n_push (h : AH) (o : AObj) : (h.push o).n = h.n + 1 := rfl

/-! ### 2. Values -/

/-- Where each abstract block lies: the model's block, where it begins in it, how many cells that block has. -/
abbrev Rho := List (Nat × Nat × Nat)

inductive VRel (ρ : Rho) : Value → Value → Prop
  | undef (v : Value) : VRel ρ (.tuple #[]) v
  | skip : VRel ρ (.chan none) (.tuple #[])
  | bool (b : Bool) : VRel ρ (.bool b) (.bool b)
  | int (k : IntKind) (n : Int) : VRel ρ (.int k n) (.int k n)
  | string (s : ByteArray) : VRel ρ (.string s) (.string s)
  | ptrNil : VRel ρ (.pointer none) (.pointer none)
  | ptr (b o c δ N : Nat) (h : ρ[b]? = some (c, δ, N)) : VRel ρ (.pointer (some ⟨b, o, none⟩)) (.pointer (some ⟨c, δ + o, none⟩))
  | slNil : VRel ρ (.slice none 0 0) (.slice none 0 0)
  | sl (b o c δ N n e k : Nat) (h : ρ[b]? = some (c, δ, N)) (h1 : n ≤ k) (h2 : δ + o + k * e ≤ N) : VRel ρ (.slice (some ⟨b, o, none⟩) n e) (.slice (some ⟨c, δ + o, none⟩) n k)
  | slZ (a a' : Addr) (e : Nat) : VRel ρ (.slice (some a) 0 e) (.slice (some a') 0 0)
  | mapNil : VRel ρ (.map none) (.map none)
  | map (b c δ N : Nat) (h : ρ[b]? = some (c, δ, N)) : VRel ρ (.map (some b)) (.map (some c))
  | func (f : FuncId) (a b a' b' : Array Value) (h1 : a.size = a'.size) (h2 : b.size = b'.size) (h3 : ∀ (i : Nat) x y, a[i]? = some x → a'[i]? = some y → VRel ρ x y)
      (h4 : ∀ (i : Nat) x y, b[i]? = some x → b'[i]? = some y → VRel ρ x y) : VRel ρ (.func (.func f) a b) (.func (.func f) a' b')
  | yield (l c δ N : Nat) (h : ρ[l]? = some (c, δ, N)) : VRel ρ (.func (.yield l) #[] #[]) (.func (.yield c) #[] #[])
  | nilFunc : VRel ρ .nilFunc .nilFunc
  | nilIface : VRel ρ .nilIface .nilIface
  | iface (t : TypeId) (v u : Value) (h : VRel ρ v u) : VRel ρ (.iface t v) (.iface t u)
  | agg (cs ds : Array Value) (h1 : cs.size = ds.size) (h2 : ∀ (i : Nat) x y, cs[i]? = some x → ds[i]? = some y → VRel ρ x y) : VRel ρ (.agg cs) (.agg ds)
  | tuple (cs ds : Array Value) (h1 : cs.size = ds.size) (h2 : ∀ (i : Nat) x y, cs[i]? = some x → ds[i]? = some y → VRel ρ x y) : VRel ρ (.tuple cs) (.tuple ds)

def Ext (ρ ρ' : Rho) : Prop := ∀ (b : Nat) x, ρ[b]? = some x → ρ'[b]? = some x

theorem Ext.refl (ρ : Rho) : Ext ρ ρ := fun _ _ h => h
theorem Ext.trans {ρ ρ' ρ'' : Rho} (h : Ext ρ ρ') (h' : Ext ρ' ρ'') : Ext ρ ρ'' := fun b x e => h' b x (h b x e)
theorem Ext.snoc (ρ : Rho) (x : Nat × Nat × Nat) : Ext ρ (ρ ++ [x]) := fun b y e => by
  rw [List.getElem?_append_left (List.getElem?_eq_some_iff.1 e).1]; exact e

theorem VRel.mono {ρ ρ' : Rho} (he : Ext ρ ρ') {v u : Value} (h : VRel ρ v u) : VRel ρ' v u := by
  induction h with
  | undef v => exact .undef v
  | skip => exact .skip
  | bool b => exact .bool b
  | int k n => exact .int k n
  | string s => exact .string s
  | ptrNil => exact .ptrNil
  | ptr b o c δ N h => exact .ptr b o c δ N (he _ _ h)
  | slNil => exact .slNil
  | sl b o c δ N n e k h h1 h2 => exact .sl b o c δ N n e k (he _ _ h) h1 h2
  | slZ a a' e => exact .slZ a a' e
  | mapNil => exact .mapNil
  | map b c δ N h => exact .map b c δ N (he _ _ h)
  | func f a b a' b' h1 h2 h3 h4 i3 i4 => exact .func f a b a' b' h1 h2 i3 i4
  | yield l c δ N h => exact .yield l c δ N (he _ _ h)
  | nilFunc => exact .nilFunc
  | nilIface => exact .nilIface
  | iface t v u h ih => exact .iface t v u ih
  | agg cs ds h1 h2 ih => exact .agg cs ds h1 ih
  | tuple cs ds h1 h2 ih => exact .tuple cs ds h1 ih

theorem VRel.flat0 {ρ : Rho} {v : Value} (h : flat0 v = true) : VRel ρ v v := by
  unfold AM.flat0 at h
  split at h
  · exact .bool _
  · exact .int _ _
  · exact .string _
  · exact .ptrNil
  · exact .slNil
  · exact .mapNil
  · exact .nilFunc
  · exact .nilIface
  · rename_i a b
    simp only [Bool.and_eq_true, beq_iff_eq] at h
    have ha : a = #[] := Array.eq_empty_of_size_eq_zero h.1
    have hb : b = #[] := Array.eq_empty_of_size_eq_zero h.2
    subst ha hb
    exact .func _ _ _ _ _ rfl rfl (by simp) (by simp)
  · cases h
theorem VRel.flatV {ρ : Rho} {v : Value} (h : flatV v = true) : VRel ρ v v := by
  unfold AM.flatV at h
  split at h
  · rename_i cs
    refine .agg cs cs rfl fun i x y hx hy => ?_
    rw [hx] at hy
    injection hy with hy
    subst hy
    exact .flat0 (List.all_eq_true.1 h x (Array.mem_toList_iff.2 (Array.mem_of_getElem? hx)))
  · exact .flat0 h

/-- Lists of values, place by place. -/
def VRels (ρ : Rho) (xs ys : List Value) : Prop := All2 (VRel ρ) xs ys

theorem VRels.length {ρ : Rho} {xs ys : List Value} (h : VRels ρ xs ys) : xs.length = ys.length := h.length_eq
theorem VRels.mono {ρ ρ' : Rho} (he : Ext ρ ρ') {xs ys : List Value} (h : VRels ρ xs ys) : VRels ρ' xs ys := h.imp fun _ _ h => h.mono he

/-! ### 3. Objects -/

def jumpC : Jump → Code
  | .ret => .ret
  | .exit id => .exit id

/-- A cell that holds. -/
def CellRel (ρ : Rho) (cs : Array Value) (δ : Nat) (xs : List Value) : Prop :=
  ∀ (i : Nat) v, xs[i]? = some v → cellOk v = true ∧ ∃ u, cs[δ + i]? = some u ∧ VRel ρ v u

def ORel (P : Program) (ρ : Rho) (δ N : Nat) : AObj → Obj → Prop
  | .cells ro xs, .cells cs _ fz => cs.size = N ∧ δ + xs.length ≤ N ∧ (ro = false → ∀ i, i < N → ¬ (fz.1 ≤ i ∧ i < fz.2)) ∧ CellRel ρ cs δ xs
  | .map es, .map entries _ => All2 (fun (p : Value × Value) (e : MapEntry) => p.1 = e.key ∧ flatV p.1 = true ∧ VRel ρ p.2 e.val) es entries.toList
  | .siter s p, .stringIter s' p' => s = s' ∧ p = p'
  | .loop r, .loop R => R.state = r.state ∧ R.pending = r.pend.map jumpC ∧ R.params.toList = r.params ∧ (∀ s, VRel ρ (fget r.fr s) (R.tmps.getD s undef)) ∧
      ∃ nt hs, nt ≤ R.tmps.size ∧ (∀ s ∈ r.params, s < nt) ∧ liftC P nt hs R.assign = some r.assign ∧ liftC P nt hs R.body = some r.body ∧ r.assign.noR = true ∧ r.body.noR = true
  | _, _ => False

theorem CellRel.mono {ρ ρ' : Rho} (he : Ext ρ ρ') {cs : Array Value} {δ : Nat} {xs : List Value} (h : CellRel ρ cs δ xs) : CellRel ρ' cs δ xs :=
  fun i v hv => let ⟨a, u, b, c⟩ := h i v hv; ⟨a, u, b, c.mono he⟩
theorem ORel.mono {P : Program} {ρ ρ' : Rho} (he : Ext ρ ρ') {δ N : Nat} {o : AObj} {x : Obj} (h : ORel P ρ δ N o x) : ORel P ρ' δ N o x := by
  cases o <;> cases x <;> simp only [ORel] at h ⊢
  · exact ⟨h.1, h.2.1, h.2.2.1, h.2.2.2.mono he⟩
  · exact h.imp fun _ _ h => ⟨h.1, h.2.1, h.2.2.mono he⟩
  · exact h
  · exact ⟨h.1, h.2.1, h.2.2.1, fun s => (h.2.2.2.1 s).mono he, h.2.2.2.2⟩

structure HRel (P : Program) (B : Nat) (ρ : Rho) (h : AH) (w : World) : Prop where
  len : ρ.length = h.n
  live : ∀ b o, h.get b = some o → ∃ c δ N x, ρ[b]? = some (c, δ, N) ∧ w.heap[c]? = some x ∧ ORel P ρ δ N o x ∧ (o.ro = false → B ≤ c) ∧ (o.ro = true → c < B)
  glob : ∀ g, g < P.globals.size → ∃ N, ρ[g]? = some (g, 0, N)
  inj : ∀ b b' o o' c δ N c' δ' N', h.get b = some o → h.get b' = some o' → b ≠ b' → o.ro = false → ρ[b]? = some (c, δ, N) → ρ[b']? = some (c', δ', N') → c ≠ c'

/-- A block of the model's that the abstract heap may write. -/
def Mut (ρ : Rho) (h : AH) (c : Nat) : Prop := ∃ b o δ N, h.get b = some o ∧ o.ro = false ∧ ρ[b]? = some (c, δ, N)

/-- The state where a call began. -/
structure Ent where
  ρ : Rho
  h : AH
  w : World

structure Trans (E : Ent) (ρ : Rho) (h : AH) (w : World) : Prop where
  ext : Ext E.ρ ρ
  size : E.w.heap.size ≤ w.heap.size
  os : w.os = E.w.os
  tape : w.tape = E.w.tape
  output : w.output = E.w.output
  drawn : E.w.drawn ≤ w.drawn
  keep : ∀ c, c < E.w.heap.size → ¬ Mut E.ρ E.h c → w.heap[c]? = E.w.heap[c]?
  img : ∀ c, c < E.w.heap.size → Mut ρ h c → Mut E.ρ E.h c

theorem Trans.refl (ρ : Rho) (h : AH) (w : World) : Trans ⟨ρ, h, w⟩ ρ h w := ⟨.refl ρ, Nat.le_refl _, rfl, rfl, rfl, Nat.le_refl _, fun _ _ _ => rfl, fun _ _ h => h⟩
theorem Trans.trans {E : Ent} {ρ : Rho} {h : AH} {w : World} (t : Trans E ρ h w) {ρ' : Rho} {h' : AH} {w' : World} (t' : Trans ⟨ρ, h, w⟩ ρ' h' w') : Trans E ρ' h' w' where
  ext := t.ext.trans t'.ext
  size := Nat.le_trans t.size t'.size
  os := t'.os.trans t.os
  tape := t'.tape.trans t.tape
  output := t'.output.trans t.output
  drawn := Nat.le_trans t.drawn t'.drawn
  keep := fun c hc hm => (t'.keep c (Nat.lt_of_lt_of_le hc t.size) (fun hm' => hm (t.img c hc hm'))).trans (t.keep c hc hm)
  img := fun c hc hm => t.img c hc (t'.img c (Nat.lt_of_lt_of_le hc t.size) hm)

/-! ### 4. Frames -/

def VRelF (ρ : Rho) (lm : Nat → Option Nat) (v u : Value) : Prop :=
  VRel ρ v u ∨ (∃ nm o c, v = .pointer (some (loc nm o)) ∧ lm nm = some c ∧ u = .pointer (some ⟨c, o, none⟩)) ∨
  (∃ nm n e c, v = .slice (some (loc nm 0)) n e ∧ lm nm = some c ∧ u = .slice (some ⟨c, 0, none⟩) n n)

theorem VRelF.mono {ρ ρ' : Rho} {lm lm' : Nat → Option Nat} (he : Ext ρ ρ') (hl : ∀ nm c, lm nm = some c → lm' nm = some c) {v u : Value} (h : VRelF ρ lm v u) : VRelF ρ' lm' v u := by
  rcases h with h | ⟨nm, o, c, h1, h2, h3⟩ | ⟨nm, n, e, c, h1, h2, h3⟩
  · exact .inl (h.mono he)
  · exact .inr (.inl ⟨nm, o, c, h1, hl _ _ h2, h3⟩)
  · exact .inr (.inr ⟨nm, n, e, c, h1, hl _ _ h2, h3⟩)
theorem VRelF.ok {ρ : Rho} {lm : Nat → Option Nat} {v u : Value} (h : VRelF ρ lm v u) (hv : okV v = true) : VRel ρ v u := by
  rcases h with h | ⟨nm, o, c, rfl, _⟩ | ⟨nm, n, e, c, rfl, _⟩
  · exact h
  · simp [okV, isLoc, loc] at hv
  · simp [okV, isLoc, loc] at hv

structure SR (P : Program) (B nt : Nat) (E : Ent) (D : List Nat) (ρ : Rho) (lm : Nat → Option Nat) (g : Nat → Value) (m : Mem) (a : Act) (w : World) : Prop where
  base : B ≤ E.w.heap.size
  heap : HRel P B ρ m.h w
  tr : Trans E ρ m.h w
  val : ∀ s, VRelF ρ lm (g s) (a.tmps.getD s undef)
  lcs : ∀ nm, match lget m.lc nm with
    | none => lm nm = none
    | some o => ∃ c x, lm nm = some c ∧ E.w.heap.size ≤ c ∧ ¬ Mut ρ m.h c ∧ w.heap[c]? = some x ∧ (∃ N, ORel P ρ 0 N o x) ∧ o.ro = false
  linj : ∀ nm nm' c, lm nm = some c → lm nm' = some c → nm = nm'
  dfs : a.defers = D.map fun r => { target := .collected r, args := #[] }
  marks : ∀ r ∈ D, w.heap[r]? = some (.deferred (some [])) ∧ E.w.heap.size ≤ r ∧ ¬ Mut ρ m.h r ∧ ∀ nm, lm nm ≠ some r
  dnd : D.Nodup
  room : nt ≤ a.tmps.size

end Go.Proofs.Ytanpdopjgepbkaa.AM
