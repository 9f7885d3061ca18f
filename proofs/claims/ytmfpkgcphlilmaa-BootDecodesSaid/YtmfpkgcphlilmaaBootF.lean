/- Plain law of bootstrings: whole texts. -/
import Derived.Test.YtmfpkgcphlilmaaBootP
set_option linter.unusedVariables false
set_option linter.unusedSimpArgs false
namespace Go.Proofs.Ytmfpkgcphlilmaa.AM
open Go

/-! ### Sorted lists -/

theorem sorted_eq {α : Type} {r : α → α → Prop} (ha : ∀ x y, r x y → ¬ r y x) : ∀ {l m : List α}, l.Pairwise r → m.Pairwise r → (∀ x, x ∈ l ↔ x ∈ m) → l = m
  | [], [], _, _, _ => rfl
  | [], b :: m, _, _, h => absurd ((h b).2 (by simp)) (by simp)
  | a :: l, [], _, _, h => absurd ((h a).1 (by simp)) (by simp)
  | a :: l, b :: m, h1, h2, h => by
    have p1 := List.pairwise_cons.1 h1
    have p2 := List.pairwise_cons.1 h2
    have hab : a = b := by
      rcases List.mem_cons.1 ((h a).1 (by simp)) with e | e
      · exact e
      · rcases List.mem_cons.1 ((h b).2 (by simp)) with e2 | e2
        · exact e2.symm
        · exact absurd (p1.1 b e2) (ha _ _ (p2.1 a e))
    subst hab
    rw [sorted_eq ha p1.2 p2.2 fun x => ⟨fun hx => ?_, fun hx => ?_⟩]
    · rcases List.mem_cons.1 ((h x).1 (by simp [hx])) with e | e
      · subst e; exact absurd (p1.1 x hx) (ha _ _ (p1.1 x hx))
      · exact e
    · rcases List.mem_cons.1 ((h x).2 (by simp [hx])) with e | e
      · subst e; exact absurd (p2.1 x hx) (ha _ _ (p2.1 x hx))
      · exact e

theorem lt_asym (x y : Nat) (h : x < y) : ¬ y < x := by omega
theorem lex_asym (x y : Nat × Nat) (h : lexlt x y) : ¬ lexlt y x := by unfold lexlt at *; omega
theorem lex_trans {x y z : Nat × Nat} (h : lexlt x y) (g : lexlt y z) : lexlt x z := by unfold lexlt at *; omega

theorem foldl_ins : ∀ {hs : List (Nat × Nat)} {there : List Nat}, there.Pairwise (· < ·) → (∀ x ∈ hs, x.2 ∉ there) → hs.Pairwise (fun x y => x.2 ≠ y.2) →
    (hs.foldl (fun t x => ins t x.2) there).Pairwise (· < ·) ∧ ∀ k, k ∈ hs.foldl (fun t x => ins t x.2) there ↔ k ∈ there ∨ ∃ x ∈ hs, x.2 = k
  | [], there, h, _, _ => ⟨h, fun k => by simp⟩
  | x :: hs, there, h, hn, hp => by
    have hp1 := List.pairwise_cons.1 hp
    obtain ⟨a, b⟩ := foldl_ins (hs := hs) (there := ins there x.2) (ins_sorted x.2 h (hn x (by simp))) (fun y hy hm => by
      rcases (mem_ins _ _ _).1 hm with e | e
      · exact hp1.1 y hy e.symm
      · exact hn y (by simp [hy]) e) hp1.2
    refine ⟨a, fun k => ?_⟩
    rw [List.foldl_cons, b k, mem_ins]
    constructor
    · rintro ((rfl | h) | ⟨y, hy, rfl⟩)
      · exact .inr ⟨x, by simp, rfl⟩
      · exact .inl h
      · exact .inr ⟨y, by simp [hy], rfl⟩
    · rintro (h | ⟨y, hy, rfl⟩)
      · exact .inl (.inr h)
      · rcases List.mem_cons.1 hy with rfl | hy
        · exact .inl (.inl rfl)
        · exact .inr ⟨y, hy, rfl⟩

/-! ### The parts of a text -/

def basicN (c : Nat) : Bool := c == 45 || decide (97 ≤ c ∧ c ≤ 122) || decide (48 ≤ c ∧ c ≤ 57)
theorem basic_lt {c : Nat} (h : basicN c = true) : c < 128 := by
  unfold basicN at h
  simp only [Bool.or_eq_true, beq_iff_eq, decide_eq_true_eq] at h
  omega
abbrev isBad := isBad2
def scanE (p : BP) : Nat → List (Nat × Nat) → Nat
  | _, [] => 0
  | i, x :: r => if 4096 ≤ i then 4 else if isBad x then 10 else if p.first ≤ x.1 then scanE p (i + 1) r else if basicN x.1 then scanE p (i + 1) r else 50
def highsOf (first : Nat) : Nat → List Nat → List (Nat × Nat)
  | _, [] => []
  | i, c :: r => if first ≤ c then (c, i) :: highsOf first (i + 1) r else highsOf first (i + 1) r
def lowsOf (first : Nat) : Nat → List Nat → List Nat
  | _, [] => []
  | i, c :: r => if first ≤ c then lowsOf first (i + 1) r else i :: lowsOf first (i + 1) r
def lowB (first : Nat) : List Nat → Bytes
  | [] => []
  | c :: r => if first ≤ c then lowB first r else UInt8.ofNat c :: lowB first r

theorem scanE_zero {p : BP} (ok : p.Ok) : ∀ (l : List (Nat × Nat)) (i : Nat), scanE p i l = 0 ↔ (l = [] ∨ i + l.length ≤ 4096) ∧ ∀ x ∈ l, isBad x = false ∧ (p.first ≤ x.1 ∨ basicN x.1 = true)
  | [], i => by simp [scanE]
  | x :: r, i => by
    have ih := scanE_zero ok r (i + 1)
    simp only [scanE]
    by_cases h1 : 4096 ≤ i
    · rw [if_pos h1]
      simp only [List.length_cons]
      constructor
      · intro h; omega
      · rintro ⟨h | h, _⟩
        · cases h
        · omega
    · rw [if_neg h1]
      by_cases h2 : isBad x = true
      · rw [if_pos h2]
        constructor
        · intro h; omega
        · rintro ⟨_, h⟩; have := (h x (by simp)).1; rw [h2] at this; cases this
      · rw [if_neg h2]
        have h2' : isBad x = false := by simpa using h2
        have key : scanE p (i + 1) r = 0 → (p.first ≤ x.1 ∨ basicN x.1 = true) → ((x :: r = [] ∨ i + (x :: r).length ≤ 4096) ∧ ∀ y ∈ x :: r, isBad y = false ∧ (p.first ≤ y.1 ∨ basicN y.1 = true)) := fun h hx => by
          obtain ⟨g1, g2⟩ := ih.1 h
          refine ⟨.inr ?_, fun y hy => ?_⟩
          · rcases g1 with rfl | g1
            · simp; omega
            · simp only [List.length_cons]; omega
          · rcases List.mem_cons.1 hy with rfl | hy
            · exact ⟨h2', hx⟩
            · exact g2 y hy
        have back : ((x :: r = [] ∨ i + (x :: r).length ≤ 4096) ∧ ∀ y ∈ x :: r, isBad y = false ∧ (p.first ≤ y.1 ∨ basicN y.1 = true)) → scanE p (i + 1) r = 0 := fun ⟨g1, g2⟩ => by
          refine ih.2 ⟨.inr ?_, fun y hy => g2 y (by simp [hy])⟩
          rcases g1 with g1 | g1
          · cases g1
          · simp only [List.length_cons] at g1; omega
        by_cases h3 : p.first ≤ x.1
        · rw [if_pos h3]
          exact ⟨fun h => key h (.inl h3), back⟩
        · rw [if_neg h3]
          by_cases h4 : basicN x.1 = true
          · rw [if_pos h4]
            exact ⟨fun h => key h (.inr h4), back⟩
          · rw [if_neg h4]
            constructor
            · intro h; omega
            · rintro ⟨_, g⟩
              rcases (g x (by simp)).2 with h | h
              · exact absurd h h3
              · exact absurd h h4

theorem highs_mem {first : Nat} : ∀ {l : List Nat} {i : Nat} {x : Nat × Nat}, x ∈ highsOf first i l ↔ ∃ k, k < l.length ∧ x = (l.getD k 0, i + k) ∧ first ≤ l.getD k 0
  | [], i, x => by simp [highsOf]
  | c :: r, i, x => by
    have ih := @highs_mem first r (i + 1) x
    have hs : (∃ k, k < r.length ∧ x = (r.getD k 0, i + 1 + k) ∧ first ≤ r.getD k 0) ↔ ∃ k, k + 1 < (c :: r).length ∧ x = ((c :: r).getD (k + 1) 0, i + (k + 1)) ∧ first ≤ (c :: r).getD (k + 1) 0 :=
      ⟨fun ⟨k, a, b, d⟩ => ⟨k, by simpa using a, by rw [b]; simp; omega, by simpa using d⟩, fun ⟨k, a, b, d⟩ => ⟨k, by simpa using a, by rw [b]; simp; omega, by simpa using d⟩⟩
    simp only [highsOf]
    split
    · rename_i g
      rw [List.mem_cons, ih, hs]
      constructor
      · rintro (rfl | ⟨k, h⟩)
        · exact ⟨0, by simp, by simp, by simpa using g⟩
        · exact ⟨k + 1, h⟩
      · rintro ⟨k, h⟩
        cases k with
        | zero => exact .inl (by simpa using h.2.1)
        | succ k => exact .inr ⟨k, h⟩
    · rename_i g
      rw [ih, hs]
      constructor
      · rintro ⟨k, h⟩; exact ⟨k + 1, h⟩
      · rintro ⟨k, h⟩
        cases k with
        | zero => exact absurd (by simpa using h.2.2) g
        | succ k => exact ⟨k, h⟩
theorem lows_mem {first : Nat} : ∀ {l : List Nat} {i x : Nat}, x ∈ lowsOf first i l ↔ ∃ k, k < l.length ∧ x = i + k ∧ l.getD k 0 < first
  | [], i, x => by simp [lowsOf]
  | c :: r, i, x => by
    have ih := @lows_mem first r (i + 1) x
    have hs : (∃ k, k < r.length ∧ x = i + 1 + k ∧ r.getD k 0 < first) ↔ ∃ k, k + 1 < (c :: r).length ∧ x = i + (k + 1) ∧ (c :: r).getD (k + 1) 0 < first :=
      ⟨fun ⟨k, a, b, d⟩ => ⟨k, by simpa using a, by omega, by simpa using d⟩, fun ⟨k, a, b, d⟩ => ⟨k, by simpa using a, by omega, by simpa using d⟩⟩
    simp only [lowsOf]
    split
    · rename_i g
      rw [ih, hs]
      constructor
      · rintro ⟨k, h⟩; exact ⟨k + 1, h⟩
      · rintro ⟨k, h⟩
        cases k with
        | zero => exact absurd (by simpa using h.2.2) (by omega)
        | succ k => exact ⟨k, h⟩
    · rename_i g
      rw [List.mem_cons, ih, hs]
      constructor
      · rintro (rfl | ⟨k, h⟩)
        · exact ⟨0, by simp, by simp, by simp; omega⟩
        · exact ⟨k + 1, h⟩
      · rintro ⟨k, h⟩
        cases k with
        | zero => exact .inl (by simpa using h.2.1)
        | succ k => exact .inr ⟨k, h⟩
theorem highs_sorted (first : Nat) : ∀ (l : List Nat) (i : Nat), (highsOf first i l).Pairwise (fun x y => x.2 < y.2)
  | [], i => List.Pairwise.nil
  | c :: r, i => by
    have ih := highs_sorted first r (i + 1)
    simp only [highsOf]
    split
    · refine List.pairwise_cons.2 ⟨fun x hx => ?_, ih⟩
      obtain ⟨k, _, rfl, _⟩ := highs_mem.1 hx
      simp only; omega
    · exact ih
theorem lows_sorted (first : Nat) : ∀ (l : List Nat) (i : Nat), (lowsOf first i l).Pairwise (· < ·)
  | [], i => List.Pairwise.nil
  | c :: r, i => by
    have ih := lows_sorted first r (i + 1)
    simp only [lowsOf]
    split
    · exact ih
    · refine List.pairwise_cons.2 ⟨fun x hx => ?_, ih⟩
      obtain ⟨k, _, rfl, _⟩ := lows_mem.1 hx
      omega
theorem lows_bytes (first : Nat) : ∀ (l : List Nat) (i : Nat), (lowsOf first i l).length = (lowB first l).length
  | [], i => rfl
  | c :: r, i => by have := lows_bytes first r (i + 1); simp only [lowsOf, lowB]; split <;> simp [this]
theorem lows_map {first : Nat} (hf : ∀ c, c < first → c < 256 ∨ True) (L : Nat → Nat) : ∀ (l : List Nat) (i : Nat), (∀ k, k < l.length → L (i + k) = l.getD k 0) → (lowsOf first i l).map (fun k => UInt8.ofNat (L k)) = lowB first l
  | [], i, _ => rfl
  | c :: r, i, h => by
    have ih := lows_map hf L r (i + 1) (fun k hk => by have := h (k + 1) (by simpa using hk); rw [show i + 1 + k = i + (k + 1) by omega, this]; simp)
    have h0 := h 0 (by simp)
    simp only [Nat.add_zero, List.getD_cons_zero] at h0
    simp only [lowsOf, lowB]
    split
    · exact ih
    · rw [List.map_cons, ih, h0]

theorem parts_len (first : Nat) : ∀ (l : List Nat) (i : Nat), (lowsOf first i l).length + (highsOf first i l).length = l.length
  | [], i => rfl
  | c :: r, i => by have := parts_len first r (i + 1); simp only [lowsOf, highsOf]; split <;> simp only [List.length_cons] <;> omega

def lexle (x y : Nat × Nat) : Bool := decide (x.1 < y.1) || (x.1 == y.1 && decide (x.2 ≤ y.2))
def sortH (l : List (Nat × Nat)) : List (Nat × Nat) := l.mergeSort lexle
theorem sortH_perm (l : List (Nat × Nat)) : (sortH l).Perm l := List.mergeSort_perm l _
theorem sortH_sorted {l : List (Nat × Nat)} (h : l.Pairwise (fun x y => x.2 < y.2)) : (sortH l).Pairwise lexlt := by
  have h1 : (sortH l).Pairwise (fun x y => lexle x y = true) := List.pairwise_mergeSort (le := lexle) (fun x y z => by
    unfold lexle; simp only [Bool.or_eq_true, Bool.and_eq_true, beq_iff_eq, decide_eq_true_eq]; omega) (fun x y => by
    unfold lexle; simp only [Bool.or_eq_true, Bool.and_eq_true, beq_iff_eq, decide_eq_true_eq]; omega) l
  have h2 : (sortH l).Pairwise (fun x y => x.2 ≠ y.2) := (List.Perm.pairwise_iff (R := fun x y : Nat × Nat => x.2 ≠ y.2) (fun h => Ne.symm h) (sortH_perm l)).2 (h.imp fun h => Nat.ne_of_lt h)
  refine (h1.and h2).imp ?_
  rintro x y ⟨a, b⟩
  unfold lexle at a
  simp only [Bool.or_eq_true, Bool.and_eq_true, beq_iff_eq, decide_eq_true_eq] at a
  unfold lexlt
  omega

/-! ### Whole texts -/

def bodyE (p : BP) (l : List Nat) : Bytes :=
  lowB p.first l ++ (if lowB p.first l = [] then [] else [45]) ++ encH p (lowsOf p.first 0 l) p.first 0 p.bias true (sortH (highsOf p.first 0 l))
theorem body_nil {p : BP} {l : List Nat} (h : lowB p.first l = []) : bodyE p l = encH p (lowsOf p.first 0 l) p.first 0 p.bias true (sortH (highsOf p.first 0 l)) := by
  unfold bodyE
  rw [h, if_pos rfl, List.nil_append, List.nil_append]
theorem body_ne {p : BP} {l : List Nat} (h : lowB p.first l ≠ []) : bodyE p l = lowB p.first l ++ 45 :: encH p (lowsOf p.first 0 l) p.first 0 p.bias true (sortH (highsOf p.first 0 l)) := by
  unfold bodyE
  rw [if_neg h, List.append_assoc]; rfl
/-- What Encode answers: the form; the number of the refusal. -/
def encF (p : BP) (s : Bytes) : Bytes × Nat :=
  if 65536 < s.length then ([], 3) else if scanE p 0 (spots s) = 0 then (if 65536 < (bodyE p (runesB s)).length then ([], 3) else (bodyE p (runesB s), 0)) else ([], scanE p 0 (spots s))

def lastH : Bytes → Option Nat
  | [] => none
  | c :: r => match lastH r with
    | some k => some (k + 1)
    | none => if c = 45 then some 0 else none
def scanD : Nat → Bytes → Option (Nat × Nat)
  | _, [] => none
  | i, c :: r => if 4096 ≤ i then some (i, 4) else if basicN c.toNat then scanD (i + 1) r else some (i, 50)
def lowN : Option Nat → Nat
  | none => 0
  | some k => k
def fromN : Option Nat → Nat
  | none => 0
  | some k => k + 1
/-- What Decode answers. -/
def decF (p : BP) (a : Bytes) : DecR :=
  if 65536 < a.length then .bad 0 3 else if lastH a = some 0 then .bad 0 52 else
  match scanD 0 (a.take (lowN (lastH a))) with
  | some x => .bad x.1 x.2
  | none => decL p a.length ((a.take (lowN (lastH a))).map (·.toNat)) p.first 0 p.bias true (fromN (lastH a)) (a.drop (fromN (lastH a)))

theorem lastH_none : ∀ {a : Bytes}, (45 : UInt8) ∉ a → lastH a = none
  | [], _ => rfl
  | c :: r, h => by
    simp only [List.mem_cons, not_or] at h
    simp only [lastH, lastH_none h.2]
    rw [if_neg (fun e => h.1 e.symm)]
theorem lastH_append : ∀ (x : Bytes) {t : Bytes}, (45 : UInt8) ∉ t → lastH (x ++ 45 :: t) = some x.length
  | [], t, h => by simp [lastH, lastH_none h]
  | c :: x, t, h => by simp [lastH, lastH_append x h]
theorem lastH_some : ∀ {a : Bytes} {k : Nat}, lastH a = some k → k < a.length ∧ a = a.take k ++ 45 :: a.drop (k + 1)
  | [], k, h => by simp [lastH] at h
  | c :: r, k, h => by
    simp only [lastH] at h
    split at h
    · rename_i j hj
      injection h with h
      subst h
      obtain ⟨h1, h2⟩ := lastH_some hj
      refine ⟨by simpa using h1, ?_⟩
      simp only [List.take_succ_cons, List.drop_succ_cons, List.cons_append]
      rw [← h2]
    · split at h
      · rename_i e
        injection h with h
        subst h e
        simp
      · cases h
theorem scanD_none : ∀ {a : Bytes} {i : Nat}, scanD i a = none ↔ (a = [] ∨ i + a.length ≤ 4096) ∧ ∀ c ∈ a, basicN c.toNat = true
  | [], i => by simp [scanD]
  | c :: r, i => by
    have ih := @scanD_none r (i + 1)
    simp only [scanD]
    by_cases h1 : 4096 ≤ i
    · rw [if_pos h1]
      simp only [List.length_cons]
      constructor
      · intro h; cases h
      · rintro ⟨h | h, _⟩
        · cases h
        · omega
    · rw [if_neg h1]
      by_cases h2 : basicN c.toNat = true
      · rw [if_pos h2, ih]
        constructor
        · rintro ⟨g1, g2⟩
          refine ⟨.inr ?_, fun x hx => ?_⟩
          · rcases g1 with rfl | g1
            · simp; omega
            · simp only [List.length_cons]; omega
          · rcases List.mem_cons.1 hx with rfl | hx
            · exact h2
            · exact g2 x hx
        · rintro ⟨g1, g2⟩
          refine ⟨.inr ?_, fun x hx => g2 x (by simp [hx])⟩
          rcases g1 with g1 | g1
          · cases g1
          · simp only [List.length_cons] at g1; omega
      · rw [if_neg h2]
        constructor
        · intro h; cases h
        · rintro ⟨_, g⟩; exact absurd (g c (by simp)) h2

theorem digC_low {d : Nat} (h : d < 36) : (97 ≤ (digC d).toNat ∧ (digC d).toNat ≤ 122) ∨ (48 ≤ (digC d).toNat ∧ (digC d).toNat ≤ 57) := by
  rw [digC_nat h]; split <;> omega
theorem encH_digits {p : BP} (ok : p.Ok) : ∀ (hs : List (Nat × Nat)) (there : List Nat) (n j bias : Nat) (fst : Bool), ∀ c ∈ encH p there n j bias fst hs, (97 ≤ c.toNat ∧ c.toNat ≤ 122) ∨ (48 ≤ c.toNat ∧ c.toNat ≤ 57)
  | [], _, _, _, _, _, c, h => by simp [encH] at h
  | x :: hs, there, n, j, bias, fst, c, h => by
    simp only [encH, List.mem_append, List.mem_map] at h
    rcases h with ⟨d, hd, rfl⟩ | h
    · have := wrd_digit ok bias _ 1 _ (Nat.le_refl _) d hd
      have := ok.b2
      exact digC_low (by omega)
    · exact encH_digits ok hs _ _ _ _ _ c h
theorem not45 {c : UInt8} (h : (97 ≤ c.toNat ∧ c.toNat ≤ 122) ∨ (48 ≤ c.toNat ∧ c.toNat ≤ 57)) : c ≠ 45 := by
  rintro rfl
  revert h
  decide

theorem spots_bad (l : Bytes) : validB l = true ↔ ∀ x ∈ spots l, isBad x = false := by
  unfold validB
  rw [List.all_eq_true]
  constructor
  · intro h x hx; exact Eq.mp (Bool.not_eq_true' _) (h x hx)
  · intro h x hx; exact Eq.mpr (Bool.not_eq_true' _) (h x hx)

/-- **What is written is read.** -/
theorem dec_of_enc {p : BP} (ok : p.Ok) {s a : Bytes} (h : encF p s = (a, 0)) : decF p a = .ok (runesB s) ∧ validB s = true ∧ scanE p 0 (spots s) = 0 ∧ a = bodyE p (runesB s) := by
  unfold encF at h
  split at h
  · cases h
  · split at h
    · rename_i hs hz
      split at h
      · cases h
      · rename_i hb
        injection h with h _
        obtain ⟨z1, z2⟩ := (scanE_zero ok _ _).1 hz
        have hl : (runesB s).length = (spots s).length := by simp [runesB]
        have hn : (runesB s).length ≤ 4096 := by
          rcases z1 with e | e
          · rw [hl, e]; simp
          · omega
        have hv : validB s = true := (spots_bad s).2 fun x hx => (z2 x hx).1
        have hr : ∀ c ∈ runesB s, RuneN c ∧ (p.first ≤ c ∨ basicN c = true) := fun c hc => ⟨runesB_rune s c hc, by
          obtain ⟨x, hx, rfl⟩ := List.mem_map.1 hc
          exact (z2 x hx).2⟩
        refine ⟨?_, hv, hz, h.symm⟩
        generalize runesB s = l at *
        subst h
        have hf1 := ok.f1
        have hget : ∀ k, k < l.length → l.getD k 0 ∈ l := fun k hk => by rw [List.getD_eq_getElem?_getD, List.getElem?_eq_getElem hk, Option.getD_some]; exact List.getElem_mem hk
        have hlows : ∀ k ∈ lowsOf p.first 0 l, k < l.length ∧ l.getD k 0 < p.first ∧ basicN (l.getD k 0) = true := fun k hk => by
          obtain ⟨j, h1, h2, h3⟩ := lows_mem.1 hk
          have : k = j := by omega
          subst this
          refine ⟨h1, h3, ?_⟩
          rcases (hr _ (hget k h1)).2 with g | g
          · omega
          · exact g
        have hmapB : (lowsOf p.first 0 l).map (fun k => UInt8.ofNat (l.getD k 0)) = lowB p.first l := lows_map (fun _ _ => .inr trivial) _ l 0 (fun k _ => by rw [Nat.zero_add])
        have hlowB : ∀ c ∈ lowB p.first l, basicN c.toNat = true := fun c hc => by
          rw [← hmapB] at hc
          obtain ⟨k, hk, rfl⟩ := List.mem_map.1 hc
          have := (hlows k hk).2.2
          rw [of_small (by have := basic_lt this; omega)]
          exact this
        have hmapN : (lowB p.first l).map (·.toNat) = (lowsOf p.first 0 l).map (l.getD · 0) := by
          rw [← hmapB, List.map_map]
          apply List.map_congr_left
          intro k hk
          have := (hlows k hk).2.2
          simp only [Function.comp]
          rw [of_small (by have := basic_lt this; omega)]
        have hll := lows_bytes p.first l 0
        have hperm := sortH_perm (highsOf p.first 0 l)
        have hsorted := sortH_sorted (highs_sorted p.first l 0)
        have hsh : ∀ x, x ∈ sortH (highsOf p.first 0 l) ↔ ∃ k, k < l.length ∧ x = (l.getD k 0, k) ∧ p.first ≤ l.getD k 0 := fun x => by
          rw [hperm.mem_iff, highs_mem]
          simp only [Nat.zero_add]
        have hne2 : (sortH (highsOf p.first 0 l)).Pairwise (fun x y => x.2 ≠ y.2) :=
          (List.Perm.pairwise_iff (R := fun x y : Nat × Nat => x.2 ≠ y.2) (fun h => Ne.symm h) hperm).2 ((highs_sorted p.first l 0).imp fun h => Nat.ne_of_lt h)
        have hcnt : (lowsOf p.first 0 l).length + (sortH (highsOf p.first 0 l)).length = l.length := by
          rw [hperm.length_eq, parts_len]
        obtain ⟨f1, f2⟩ := foldl_ins (hs := sortH (highsOf p.first 0 l)) (lows_sorted p.first l 0) (fun x hx hm => by
          obtain ⟨k, h1, rfl, h3⟩ := (hsh x).1 hx
          have := (hlows _ hm).2.1
          simp only at this; omega) hne2
        have hfin : (sortH (highsOf p.first 0 l)).foldl (fun t x => ins t x.2) (lowsOf p.first 0 l) = List.range l.length := by
          refine sorted_eq lt_asym f1 List.pairwise_lt_range fun k => ?_
          rw [f2, List.mem_range]
          constructor
          · rintro (h | ⟨x, hx, rfl⟩)
            · exact (hlows k h).1
            · obtain ⟨k, h1, rfl, h3⟩ := (hsh x).1 hx; exact h1
          · intro hk
            by_cases g : p.first ≤ l.getD k 0
            · exact .inr ⟨_, (hsh _).2 ⟨k, hk, rfl, g⟩, rfl⟩
            · exact .inl (lows_mem.2 ⟨k, hk, by omega, by omega⟩)
        have hrange : (List.range l.length).map (l.getD · 0) = l := by
          apply List.ext_getElem
          · simp
          · intro i h1 h2; simp [h2]
        have hdec := decL_encH ok (l.getD · 0) (sortH (highsOf p.first 0 l)) (bodyE p l).length (lowsOf p.first 0 l) p.first 0 p.bias true (fromN (lastH (bodyE p l))) hsorted (fun x hx => by
          obtain ⟨k, h1, rfl, h3⟩ := (hsh x).1 hx
          exact ⟨rfl, (hr _ (hget k h1)).1, fun hm => by have := (hlows _ hm).2.1; simp only at this; omega, h3, fun _ => Nat.zero_le _⟩) (Nat.zero_le _) (by omega) (by unfold bodyE; simp only [List.length_append]; omega)
        rw [hfin, hrange, ← hmapN] at hdec
        have hno : ∀ bias fst, (45 : UInt8) ∉ encH p (lowsOf p.first 0 l) p.first 0 bias fst (sortH (highsOf p.first 0 l)) := fun bias fst hm => not45 (encH_digits ok _ _ _ _ _ _ _ hm) rfl
        unfold decF
        rw [if_neg hb]
        by_cases he : lowB p.first l = []
        · have hla : lastH (bodyE p l) = none := by
            unfold bodyE
            rw [he, if_pos rfl, List.nil_append, List.nil_append]
            exact lastH_none (hno _ _)
          have hbd : bodyE p l = encH p (lowsOf p.first 0 l) p.first 0 p.bias true (sortH (highsOf p.first 0 l)) := by
            unfold bodyE
            rw [he, if_pos rfl, List.nil_append, List.nil_append]
          rw [hla] at hdec ⊢
          rw [if_neg (by simp)]
          simp only [lowN, fromN, List.take_zero, scanD, List.map_nil, List.drop_zero]
          rw [he] at hdec
          rw [← hbd] at hdec
          exact hdec
        · have hbd : bodyE p l = lowB p.first l ++ 45 :: encH p (lowsOf p.first 0 l) p.first 0 p.bias true (sortH (highsOf p.first 0 l)) := by
            unfold bodyE
            rw [if_neg he, List.append_assoc]; rfl
          have hla : lastH (bodyE p l) = some (lowB p.first l).length := by rw [hbd]; exact lastH_append _ (hno _ _)
          have hpos : 0 < (lowB p.first l).length := List.length_pos_iff.2 he
          rw [hla] at hdec ⊢
          rw [if_neg (by simp; exact he)]
          simp only [lowN, fromN]
          have ht : (bodyE p l).take (lowB p.first l).length = lowB p.first l := by rw [hbd, List.take_left]
          have hd : (bodyE p l).drop ((lowB p.first l).length + 1) = encH p (lowsOf p.first 0 l) p.first 0 p.bias true (sortH (highsOf p.first 0 l)) := by
            rw [hbd, List.drop_length_add_append]; rfl
          rw [ht, hd, scanD_none.2 ⟨.inr (by omega), hlowB⟩]
          exact hdec
    · rename_i hs hz
      injection h with _ h
      exact absurd h hz

theorem encs_len : ∀ l : List Nat, (encs l).length ≤ 4 * l.length
  | [] => by simp [encs]
  | c :: r => by
    have := encs_len r
    have := encN_len c
    rw [encs_cons, List.length_append, List.length_cons]
    omega

/-- **What is read is written so.** -/
theorem enc_of_dec {p : BP} (ok : p.Ok) {a : Bytes} {L : List Nat} (h : decF p a = .ok L) : (∀ c ∈ L, RuneN c) ∧ encF p (encs L) = (a, 0) := by
  unfold decF at h
  split at h
  · cases h
  · rename_i hlen
    split at h
    · cases h
    · rename_i h0
      split at h
      · cases h
      · rename_i hsc
        obtain ⟨s1, s2⟩ := scanD_none.1 hsc
        have hf1 := ok.f1
        have hBl : ((a.take (lowN (lastH a))).map (·.toNat)).length ≤ 4096 := by
          rw [List.length_map]
          rcases s1 with e | e
          · rw [e]; simp
          · omega
        obtain ⟨there, hs, a1, a2, a3, a4, a5, a6, a7, a8⟩ := encH_decL ok _ _ _ _ _ _ _ _ h (by rw [List.length_drop]; omega) hBl (Nat.zero_le _)
        have hthere : ∀ k ∈ there, basicN (L.getD k 0) = true := fun k hk => by
          have : L.getD k 0 ∈ (a.take (lowN (lastH a))).map (·.toNat) := by rw [← a2]; exact List.mem_map.2 ⟨k, hk, rfl⟩
          obtain ⟨c, hc, e⟩ := List.mem_map.1 this
          rw [← e]
          exact s2 c hc
        have hrune : ∀ k, k < L.length → RuneN (L.getD k 0) ∧ (p.first ≤ L.getD k 0 ∨ basicN (L.getD k 0) = true) := fun k hk => by
          rcases a6 k hk with g | ⟨x, hx, rfl⟩
          · have := hthere k g
            have h2 := basic_lt this
            exact ⟨.inl (by omega), .inr this⟩
          · have := (a5 x hx).2
            have e : x.1 = L.getD x.2 0 := this.rune
            rw [← e]
            exact ⟨this.ok, .inl this.le⟩
        have hall : ∀ c ∈ L, RuneN c ∧ (p.first ≤ c ∨ basicN c = true) := fun c hc => by
          obtain ⟨k, hk, rfl⟩ := List.getElem_of_mem hc
          have := hrune k hk
          rwa [List.getD_eq_getElem?_getD, List.getElem?_eq_getElem hk, Option.getD_some] at this
        refine ⟨fun c hc => (hall c hc).1, ?_⟩
        have hru := runesB_of_encs fun c hc => (hall c hc).1
        have hva := valid_encs fun c hc => (hall c hc).1
        have hlows : lowsOf p.first 0 L = there := by
          refine sorted_eq lt_asym (lows_sorted _ _ _) a1 fun k => ?_
          rw [lows_mem]
          constructor
          · rintro ⟨j, g1, g2, g3⟩
            have : k = j := by omega
            subst this
            rcases a6 k g1 with g | ⟨x, hx, rfl⟩
            · exact g
            · have := (a5 x hx).2
              have e : x.1 = L.getD x.2 0 := this.rune
              have := this.le
              omega
          · intro hk
            have := basic_lt (hthere k hk)
            exact ⟨k, a3 k hk, by omega, by omega⟩
        have hhigh : sortH (highsOf p.first 0 L) = hs := by
          refine sorted_eq lex_asym (sortH_sorted (highs_sorted _ _ _)) a4 fun x => ?_
          rw [(sortH_perm _).mem_iff, highs_mem]
          constructor
          · rintro ⟨k, g1, rfl, g3⟩
            rcases a6 k g1 with g | ⟨x, hx, rfl⟩
            · have := basic_lt (hthere k g); omega
            · have e : x.1 = L.getD x.2 0 := (a5 x hx).2.rune
              rw [Nat.zero_add, ← e]
              exact hx
          · intro hx
            obtain ⟨g1, g2⟩ := a5 x hx
            have e : x.1 = L.getD x.2 0 := g2.rune
            exact ⟨x.2, g1, by rw [← e, Nat.zero_add], by rw [← e]; exact g2.le⟩
        have hmapB : there.map (fun k => UInt8.ofNat (L.getD k 0)) = lowB p.first L := by
          rw [← hlows]
          exact lows_map (fun _ _ => .inr trivial) _ L 0 (fun k _ => by rw [Nat.zero_add])
        have hB : lowB p.first L = a.take (lowN (lastH a)) := by
          rw [← hmapB]
          have := congrArg (List.map UInt8.ofNat) a2
          rw [List.map_map, List.map_map] at this
          rw [show (fun k => UInt8.ofNat (L.getD k 0)) = UInt8.ofNat ∘ (L.getD · 0) from rfl, this]
          conv => rhs; rw [← List.map_id (a.take (lowN (lastH a)))]
          apply List.map_congr_left
          intro c _
          exact u8_eq rfl
        have hbody : bodyE p L = a := by
          cases hla : lastH a with
          | none =>
            rw [hla] at hB a7
            rw [body_nil hB, hlows, hhigh, ← a7]
            rfl
          | some k =>
            rw [hla] at hB a7
            obtain ⟨k1, k2⟩ := lastH_some hla
            have hk0 : k ≠ 0 := fun e => h0 (by rw [hla, e])
            have hBn : lowB p.first L ≠ [] := fun e => by
              rw [hB] at e
              have := congrArg List.length e
              simp only [lowN, List.length_take, List.length_nil] at this
              omega
            rw [body_ne hBn, hlows, hhigh, ← a7, hB]
            exact k2.symm
        have hsp : (spots (encs L)).length = L.length := by
          have := congrArg List.length hru
          simpa [runesB] using this
        have hz : scanE p 0 (spots (encs L)) = 0 := by
          refine (scanE_zero ok _ _).2 ⟨.inr (by rw [hsp]; omega), fun x hx => ⟨(spots_bad _).1 hva x hx, (hall x.1 ?_).2⟩⟩
          rw [← hru]
          exact List.mem_map.2 ⟨x, hx, rfl⟩
        have hsl := encs_len L
        unfold encF
        rw [if_neg (by omega), if_pos hz, hru, hbody, if_neg hlen]

end Go.Proofs.Ytmfpkgcphlilmaa.AM
