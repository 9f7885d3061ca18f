/-
  Regions in any order that the edges let through: every order yields what the text's order yields.
-/
import Derived.Test.YtanpdopjgepbkaaAmReg2
set_option linter.unusedVariables false
set_option linter.unusedSimpArgs false
namespace Go.Proofs.Ytanpdopjgepbkaa.AM
open Go

variable {P : Program} {B nt : Nat} {E : Ent} {D : List Nat} {ρ : Rho} {lm : Nat → Option Nat} {fr : Fr} {m : Mem} {a : Act} {w : World} {g : Nat → Value}
variable {call : CallF} {yld : YieldF}

/-! ### 1. Frames of the operations that were taken -/

def lookFr (fr : Fr) (ls : List LInstr) (V : Nat → Value) (L : Nat → Bool) : Nat → Fr
  | 0 => fr
  | k + 1 => match ls[k]? with
    | some l => if L k = true then pushD (lookFr fr ls V L k) l.dst (V k) else lookFr fr ls V L k
    | none => lookFr fr ls V L k

def upto (j : Nat) : Nat → Bool := fun i => decide (i < j)

theorem lookFr_text {ls : List LInstr} {T : Nat → Fr × Mem} {V : Nat → Value} (ht : TextRun call yld ls fr m T V) (j : Nat) : ∀ k, k ≤ ls.length → k ≤ j → (T k).1 = lookFr fr ls V (upto j) k
  | 0, _, _ => by rw [ht.zero]; rfl
  | k + 1, h, hj => by
    have hl : ls[k]? = some ls[k] := by simp
    rw [(ht.step k _ hl).2, lookFr_text ht j k (by omega) (by omega)]
    simp only [lookFr, hl]
    simp [upto, show k < j by omega]

theorem lookFr_above {ls : List LInstr} {V : Nat → Value} (j : Nat) : ∀ n, j ≤ n → lookFr fr ls V (upto j) n = lookFr fr ls V (upto j) j
  | 0, h => by have : j = 0 := by omega
               subst this; rfl
  | n + 1, h => by
    by_cases e : j = n + 1
    · rw [e]
    · rw [← lookFr_above j n (by omega)]
      simp only [lookFr]
      cases ls[n]? with
      | none => rfl
      | some l => simp [upto, show ¬ n < j by omega]

theorem lookFr_agree {ls : List LInstr} {V : Nat → Value} {L L' : Nat → Bool} {s : Nat} : ∀ n, (∀ (i : Nat) (l : LInstr), i < n → ls[i]? = some l → l.dst = some s → L i = L' i) →
    fget (lookFr fr ls V L n) s = fget (lookFr fr ls V L' n) s
  | 0, _ => rfl
  | n + 1, h => by
    have ih := lookFr_agree (V := V) n fun i l hi => h i l (by omega)
    simp only [lookFr]
    cases hl : ls[n]? with
    | none => exact ih
    | some l =>
      by_cases hd : l.dst = some s
      · rw [h n l (by omega) hl hd]
        cases L' n
        · simpa using ih
        · simp only [if_true, fget_pushD, updG, hd]
      · have key : ∀ (b : Bool) (f : Fr), fget (if b = true then pushD f l.dst (V n) else f) s = fget f s := fun b f => by
          cases b
          · simp
          · simp only [if_true, fget_pushD, updG, hd, if_false]
        show fget (if L n = true then _ else _) s = fget (if L' n = true then _ else _) s
        rw [key, key]
        exact ih

theorem lookFr_take {ls : List LInstr} {V : Nat → Value} {L L' : Nat → Bool} {j : Nat} {l : LInstr} (hj : ls[j]? = some l) (hL : L j = false) (hL' : L' j = true) (hne : ∀ i, i ≠ j → L' i = L i) {s : Nat}
    (hab : ∀ (i : Nat) (x : LInstr), ls[i]? = some x → j < i → x.dst = l.dst → x.dst.isSome → L i = false) : ∀ n, j < n →
    fget (lookFr fr ls V L' n) s = updG (fget (lookFr fr ls V L n)) l.dst (V j) s
  | 0, h => by omega
  | n + 1, h => by
    by_cases e : n = j
    · subst e
      have hlow : fget (lookFr fr ls V L' n) s = fget (lookFr fr ls V L n) s := lookFr_agree n fun i _ hi _ _ => hne i (by omega)
      simp only [lookFr, hj, hL', hL, if_true, fget_pushD, updG, hlow, Bool.false_eq_true, if_false]
    · have ih := lookFr_take (V := V) (s := s) hj hL hL' hne hab n (by omega)
      simp only [lookFr]
      cases hn : ls[n]? with
      | none => exact ih
      | some x =>
        simp only [hne n e]
        cases hLn : L n with
        | false => simpa using ih
        | true =>
          simp only [if_true]
          rw [fget_pushD]
          unfold updG
          by_cases h1 : x.dst = some s
          · have h2 : ¬ (l.dst = some s) := fun h2 => by
              have := hab n x hn (by omega) (by rw [h1, h2]) (by rw [h1]; rfl)
              rw [hLn] at this
              cases this
            simp only [h1, if_true, h2, if_false, fget_pushD, updG]
          · simp only [h1, if_false]
            rw [ih]
            unfold updG
            simp only [fget_pushD, updG, h1, if_false]

/-! ### 2. Memories of the text's run -/

theorem LInstr.step_mem {l : LInstr} (hE : l.isE = false) {v : Value} {m' : Mem} (h : l.step call yld fr m = some (v, m')) : m' = m := by
  unfold LInstr.step at h
  split at h
  · obtain ⟨d, op, gd⟩ := l
    unfold LInstr.isE at hE
    cases op <;> simp only at hE
    · simp only [LInstr.ev] at h
      obtain ⟨x, _, h2⟩ := Option.map_eq_some_iff.1 h
      injection h2 with _ h2
      exact h2.symm
    · simp only [LInstr.ev] at h
      obtain ⟨x, _, h2⟩ := Option.map_eq_some_iff.1 h
      injection h2 with _ h2
      exact h2.symm
    · cases hE
  · injection h with h
    injection h with _ h
    exact h.symm
  · cases h

theorem mem_const {ls : List LInstr} {T : Nat → Fr × Mem} {V : Nat → Value} (ht : TextRun call yld ls fr m T V) (x : Nat) : ∀ k, x + k ≤ ls.length →
    (∀ (i : Nat) (l : LInstr), ls[i]? = some l → l.isE = true → x ≤ i → i < x + k → False) → (T (x + k)).2 = (T x).2
  | 0, _, _ => rfl
  | k + 1, h, hn => by
    have hl : ls[x + k]? = some ls[x + k] := by simp
    have hE : ls[x + k].isE = false := by
      cases he : ls[x + k].isE with
      | false => rfl
      | true => exact (hn (x + k) _ hl he (by omega) (by omega)).elim
    have := LInstr.step_mem hE (ht.step _ _ hl).1
    rw [show x + (k + 1) = x + k + 1 by omega, this]
    exact mem_const ht x k (by omega) fun i l h1 h2 h3 h4 => hn i l h1 h2 h3 (by omega)

theorem mem_eq {ls : List LInstr} {T : Nat → Fr × Mem} {V : Nat → Value} (ht : TextRun call yld ls fr m T V) {x y : Nat} (hx : x ≤ ls.length) (hy : y ≤ ls.length)
    (h : ∀ (i : Nat) (l : LInstr), ls[i]? = some l → l.isE = true → (i < x ↔ i < y)) : (T x).2 = (T y).2 := by
  rcases Nat.le_total x y with hxy | hxy
  · have := mem_const ht x (y - x) (by omega) fun i l h1 h2 h3 h4 => by have := h i l h1 h2; omega
    rw [show x + (y - x) = y by omega] at this
    exact this.symm
  · have := mem_const ht y (x - y) (by omega) fun i l h1 h2 h3 h4 => by have := h i l h1 h2; omega
    rw [show y + (x - y) = x by omega] at this
    exact this

/-! ### 3. Masks -/

def MGood (os : List Oper) (ms : List Nat) : Prop := ∀ j k, (ms.getD j 0).testBit k = true → ∃ o, os[j]? = some o ∧ ∃ e ∈ o.after, Region.binds .any e = true ∧ (k = e.on ∨ (ms.getD e.on 0).testBit k = true)

theorem foldMask (acc : List Nat) (k : Nat) : ∀ (l : List Edge) (s : Nat), (l.foldl (fun s e => if Region.binds .any e then s ||| 2 ^ e.on ||| acc.getD e.on 0 else s) s).testBit k = true →
    s.testBit k = true ∨ ∃ e ∈ l, Region.binds .any e = true ∧ (k = e.on ∨ (acc.getD e.on 0).testBit k = true)
  | [], s, h => .inl h
  | e :: r, s, h => by
    simp only [List.foldl_cons] at h
    rcases foldMask acc k r _ h with h | ⟨e', h1, h2⟩
    · by_cases hb : Region.binds .any e = true
      · simp only [hb, if_true, Nat.testBit_or, Nat.testBit_two_pow, Bool.or_eq_true, decide_eq_true_eq] at h
        rcases h with (h | h) | h
        · exact .inl h
        · exact .inr ⟨e, by simp, hb, .inl h.symm⟩
        · exact .inr ⟨e, by simp, hb, .inr h⟩
      · simp only [hb, Bool.false_eq_true, if_false] at h
        exact .inl h
    · exact .inr ⟨e', by simp [h1], h2⟩

theorem masks_good : ∀ (os don : List Oper) (acc : List Nat), acc.length = don.length → MGood don acc → MGood (don ++ os) (masks acc os)
  | [], don, acc, _, h => by simpa [masks] using h
  | o :: r, don, acc, hlen, h => by
    simp only [masks]
    have := masks_good r (don ++ [o]) (acc ++ [edgeMask acc o]) (by simp [hlen]) ?_
    · simpa using this
    · have lift : ∀ i k, (acc.getD i 0).testBit k = true → ((acc ++ [edgeMask acc o]).getD i 0).testBit k = true := fun i k hk => by
        by_cases hi : i < acc.length
        · simpa [List.getD_eq_getElem?_getD, List.getElem?_append_left hi] using hk
        · simp [List.getD_eq_getElem?_getD, List.getElem?_eq_none (Nat.le_of_not_lt hi)] at hk
      intro j k hk
      by_cases hj : j < acc.length
      · have hk' : (acc.getD j 0).testBit k = true := by simpa [List.getD_eq_getElem?_getD, List.getElem?_append_left hj] using hk
        obtain ⟨o', h1, e, h2, h3, h4⟩ := h j k hk'
        exact ⟨o', by rw [List.getElem?_append_left (by omega)]; exact h1, e, h2, h3, h4.imp_right (lift _ _)⟩
      · by_cases hj2 : j = acc.length
        · subst hj2
          have hk' : (edgeMask acc o).testBit k = true := by simpa using hk
          rcases foldMask acc k _ 0 hk' with h0 | ⟨e, h1, h2, h3⟩
          · simp at h0
          · exact ⟨o, by rw [hlen]; simp, e, Array.mem_toList_iff.1 h1, h2, h3.imp_right (lift _ _)⟩
        · have : (acc ++ [edgeMask acc o])[j]? = none := List.getElem?_eq_none (by simp; omega)
          simp [List.getD_eq_getElem?_getD, this] at hk

theorem masks_spec (os : List Oper) : MGood os (masks [] os) := masks_good os [] [] rfl fun j k h => by simp at h

theorem pairsOk_spec {ms : List Nat} {ls : List LInstr} (h : pairsOk ms ls = true) {i j : Nat} {x y : LInstr} (hij : i < j) (hx : ls[i]? = some x) (hy : ls[j]? = some y)
    (hc : clash x y = true ∨ (x.isE = true ∧ y.isE = true)) : (ms.getD j 0).testBit i = true := by
  unfold pairsOk at h
  have hj : j < ls.length := (List.getElem?_eq_some_iff.1 hy).1
  have h1 := List.all_eq_true.1 h j (List.mem_range.2 hj)
  have h2 := List.all_eq_true.1 h1 i (List.mem_range.2 hij)
  simp only [hx, hy, Bool.or_eq_true, Bool.not_eq_true', Bool.or_eq_false_iff] at h2
  rcases h2 with h2 | h2
  · rcases hc with hc | ⟨hc, hc'⟩
    · rw [h2.1] at hc; cases hc
    · simp [hc, hc'] at h2
  · exact h2

theorem backEdges_spec : ∀ {os : List Oper} {k : Nat}, backEdges k os = true → ∀ (i : Nat) (o : Oper), os[i]? = some o → ∀ e ∈ o.after, Region.binds .any e = true → e.on < k + i
  | [], k, _, i, o, h => by simp at h
  | o' :: r, k, hb, i, o, h => by
    simp only [backEdges, Bool.and_eq_true] at hb
    cases i with
    | zero =>
      simp only [List.getElem?_cons_zero, Option.some.injEq] at h
      subst h
      intro e he hbd
      have := Array.all_eq_true_iff_forall_mem.1 hb.1 e he
      simp only [hbd, Bool.not_true, Bool.false_or, decide_eq_true_eq] at this
      omega
    | succ i =>
      simp only [List.getElem?_cons_succ] at h
      intro e he hbd
      have := backEdges_spec hb.2 i o h e he hbd
      omega

theorem effs_mem {ls : List LInstr} {i : Nat} : i ∈ effs ls ↔ ∃ l, ls[i]? = some l ∧ l.isE = true := by
  unfold effs
  rw [List.mem_filter, List.mem_range]
  constructor
  · rintro ⟨h1, h2⟩
    have hl : ls[i]? = some ls[i] := by simp [h1]
    rw [hl] at h2
    exact ⟨_, hl, h2⟩
  · rintro ⟨l, h1, h2⟩
    exact ⟨(List.getElem?_eq_some_iff.1 h1).1, by rw [h1]; exact h2⟩

theorem chkOf_mem {ms : List Nat} {ls : List LInstr} {i K : Nat} {l : LInstr} (hl : ls[i]? = some l) (hR : l.isR = true) (hK : K = 0 ∨ ∃ x, ls[K - 1]? = some x ∧ x.isE = true ∧ 0 < K)
    (h1 : K = 0 ∨ (ms.getD (K - 1) 0).testBit i = false) (h2 : ∀ e ∈ effs ls, e < K ∨ (ms.getD i 0).testBit e = false)
    (h3 : ¬ ∀ e ∈ effs ls, (e < K ↔ e < i)) : (i, K) ∈ chkOf ms ls := by
  unfold chkOf
  refine List.mem_flatMap.2 ⟨i, List.mem_range.2 (List.getElem?_eq_some_iff.1 hl).1, ?_⟩
  simp only [hl, hR, if_true]
  refine List.mem_filterMap.2 ⟨K, ?_, ?_⟩
  · rcases hK with rfl | ⟨x, hx, he, hp⟩
    · simp
    · refine List.mem_cons_of_mem _ (List.mem_map.2 ⟨K - 1, effs_mem.2 ⟨x, hx, he⟩, by omega⟩)
  · rw [if_pos]
    refine ⟨?_, ?_, ?_⟩
    · rcases h1 with h1 | h1
      · exact .inl h1
      · exact .inr (by rw [h1]; rfl)
    · refine List.all_eq_true.2 fun e he => ?_
      rcases h2 e he with h | h
      · simp [h]
      · rw [h]; simp
    · intro hall
      refine h3 fun e he => ?_
      have := List.all_eq_true.1 hall e he
      simpa using this

end Go.Proofs.Ytanpdopjgepbkaa.AM
