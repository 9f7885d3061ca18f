/- A list that is sorted in its place: the heap with it; how it is read and written. -/
import Derived.Test.YtmfpkgcphlilmaaAmF
set_option linter.unusedVariables false
set_option linter.unusedSimpArgs false
set_option linter.unusedSectionVars false
namespace Go.Proofs.Ytmfpkgcphlilmaa.AM
open Go

theorem Tr.set_set : ∀ (f : Nat) (t : Tr) (k : Nat) (x y : Option AObj), Tr.set f (Tr.set f t k x) k y = Tr.set f t k y
  | 0, t, k, x, y => by simp only [Tr.set]
  | f + 1, .e, k, x, y => by
    by_cases h0 : k = 0
    · simp only [Tr.set, h0, if_true]
    · by_cases h1 : k % 2 = 1
      · simp only [Tr.set, if_neg h0, if_pos h1, Tr.set_set f]
      · simp only [Tr.set, if_neg h0, if_neg h1, Tr.set_set f]
  | f + 1, .n l v r, k, x, y => by
    by_cases h0 : k = 0
    · simp only [Tr.set, h0, if_true]
    · by_cases h1 : k % 2 = 1
      · simp only [Tr.set, if_neg h0, if_pos h1, Tr.set_set f]
      · simp only [Tr.set, if_neg h0, if_neg h1, Tr.set_set f]
theorem AH.set_set (h : AH) (b : Nat) (o o' : AObj) : (h.set b o).set b o' = h.set b o' := by
  simp only [AH.set, AH.put, Tr.set_set]

/-- Where the list lies: the block, what stands ahead of it and behind it. -/
structure Pl where
  h0 : AH
  b : Nat
  pre : List Value
  post : List Value
  lt : b < h0.n

variable {α : Type} [Inhabited α]
def Pl.H (q : Pl) (enc : α → List Value) (D : List α) : AH := q.h0.set q.b (.cells false (q.pre ++ (D.map enc).flatten ++ q.post))
def Pl.s (q : Pl) (n : Nat) : Sl := .at q.b q.pre.length n
def ati (D : List α) (i : Int) : α := D.getD i.toNat default

theorem ati_mid {P S : List α} {x : α} {i : Int} (h : i = P.length) : ati (P ++ x :: S) i = x := by
  subst h
  simp [ati]
theorem set_mid {P S : List α} {x y : α} {i : Int} (h : i = P.length) : (P ++ x :: S).set i.toNat y = P ++ y :: S := by
  subst h
  simp
theorem ati_get {D : List α} {i : Int} (h0 : 0 ≤ i) (h : i < D.length) : ∃ hi : i.toNat < D.length, ati D i = D[i.toNat] := ⟨by omega, by
  simp only [ati, List.getD_eq_getElem?_getD]
  rw [List.getElem?_eq_getElem (by omega), Option.getD_some]⟩

theorem Pl.get (q : Pl) (enc : α → List Value) (D : List α) : (q.H enc D).get q.b = some (.cells false (q.pre ++ (D.map enc).flatten ++ q.post)) := AH.get_set_same _ q.lt
theorem Pl.n (q : Pl) (enc : α → List Value) (D : List α) : (q.H enc D).n = q.h0.n := rfl
theorem Pl.reads (q : Pl) {enc : α → List Value} {e : Nat} (he : ∀ x, (enc x).length = e) (D : List α) : Reads (q.H enc D) e (q.s D.length) (D.map enc) :=
  ⟨by simp [Pl.s, Sl.len], fun x hx => by obtain ⟨y, _, rfl⟩ := List.mem_map.1 hx; exact he y, .inr ⟨false, _, _, q.get enc D, rfl⟩⟩
theorem Pl.rd (q : Pl) {enc : α → List Value} {e : Nat} (he : ∀ x, (enc x).length = e) {D : List α} {n : Nat} (hn : D.length = n) {lc : Lc} {i : Int} (h0 : 0 ≤ i) (h : i < n) :
    Mem.rd ⟨lc, q.H enc D⟩ ((q.s n).adr e i.toNat) e = some (enc (ati D i)) := by
  subst hn
  obtain ⟨hi, e1⟩ := ati_get h0 h
  rw [e1]
  exact rd_map (q.reads he D) hi
theorem Pl.wr (q : Pl) {enc : α → List Value} {e : Nat} (he : ∀ x, (enc x).length = e) {D : List α} {n : Nat} (hn : D.length = n) {lc : Lc} {i : Int} (h0 : 0 ≤ i) (h : i < n) (x : α) :
    Mem.wr ⟨lc, q.H enc D⟩ ((q.s n).adr e i.toNat) (enc x) = some ⟨lc, q.H enc (D.set i.toNat x)⟩ := by
  subst hn
  have hi : i.toNat < D.length := by omega
  have hl : ∀ l : List α, ((l.map enc).flatten).length = l.length * e := fun l => by
    rw [flatten_len (e := e) (fun x hx => by obtain ⟨y, _, rfl⟩ := List.mem_map.1 hx; exact he y), List.length_map]
  show Mem.wr ⟨lc, q.H enc D⟩ ⟨q.b, q.pre.length + i.toNat * e, none⟩ (enc x) = _
  rw [wr_heap, q.get enc D]
  have hie : i.toNat * e + e ≤ D.length * e := by
    have : (i.toNat + 1) * e ≤ D.length * e := Nat.mul_le_mul_right e hi
    rw [Nat.add_mul] at this; omega
  simp only [List.length_append, hl, he]
  rw [if_pos (by omega)]
  have hD : D = D.take i.toNat ++ D[i.toNat] :: D.drop (i.toNat + 1) := by rw [← List.drop_eq_getElem_cons hi, List.take_append_drop]
  have hset : D.set i.toNat x = D.take i.toNat ++ x :: D.drop (i.toNat + 1) := by rw [List.set_eq_take_append_cons_drop, if_pos hi]
  have htl : (D.take i.toNat).length = i.toNat := by rw [List.length_take]; omega
  have h1 : q.pre ++ (D.map enc).flatten ++ q.post = (q.pre ++ ((D.take i.toNat).map enc).flatten) ++ enc D[i.toNat] ++ (((D.drop (i.toNat + 1)).map enc).flatten ++ q.post) := by
    conv => lhs; rw [hD]
    simp only [List.map_append, List.map_cons, List.flatten_append, List.flatten_cons, List.append_assoc]
  have h2 : q.pre ++ ((D.set i.toNat x).map enc).flatten ++ q.post = (q.pre ++ ((D.take i.toNat).map enc).flatten) ++ enc x ++ (((D.drop (i.toNat + 1)).map enc).flatten ++ q.post) := by
    rw [hset]
    simp only [List.map_append, List.map_cons, List.flatten_append, List.flatten_cons, List.append_assoc]
  have h3 : (q.pre ++ ((D.take i.toNat).map enc).flatten).length = q.pre.length + i.toNat * e := by rw [List.length_append, hl, htl]
  have := setAll_eq (enc x) (q.pre ++ ((D.take i.toNat).map enc).flatten) (enc D[i.toNat]) (((D.drop (i.toNat + 1)).map enc).flatten ++ q.post) (by rw [he, he])
  rw [← h1, h3, ← h2] at this
  rw [this]
  simp only [Pl.H, AH.set_set]

/-- What is compared: the key; the order with the places that things had. -/
def ltK (key : α → Int) (idx : α → Int) (x y : α) : Prop := key x < key y ∨ (key x = key y ∧ idx x < idx y)

/-- How two things are compared, and what a thing's value is. -/
structure Cmp (p : Prg) (q : Pl) (enc : α → List Value) (e : Nat) (val : α → Value) (cv : Value) (key : α → Int) : Prop where
  len : ∀ x, (enc x).length = e
  cells : ∀ x, vcells (val x) = enc x
  ok : ∀ x, (enc x).all cellOk = true
  okv : ∀ x, okV (val x) = true
  cvf : ∃ g, cv = .func (.func g) #[] #[] ∨ ∃ b o, cv = .func (.func g) #[] #[.pointer (some ⟨b, o, none⟩)]
  run : ∀ x y D, ∃ n : Int, callV p cv [val x, val y] (q.H enc D) = some (.int .i64 n, q.H enc D) ∧ (n < 0 ↔ key x < key y) ∧ -9223372036854775808 ≤ n ∧ n < 9223372036854775808

end Go.Proofs.Ytmfpkgcphlilmaa.AM
