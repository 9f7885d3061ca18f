/- Parts of proofs: lemmas, joined. -/
import Derived.Test.YtfiaggbgplmmeaaGreatDoorPb5934a9b
set_option linter.unusedVariables false
set_option linter.unusedSimpArgs false
set_option linter.unusedSectionVars false
namespace Go.Proofs.YtfiaggbgplmmeaaGreatDoor.AM
open Go
def LF_guiseref8_Bad : LFunc :=
  .mk 2 [.tmp 4] (.seq (R 999 [0, 1] [.set 4 (.cv (.bool false))]) (.seq (.seq (R 7 [0, 1, 10] [.tmp 10 (.op (.e (.rngS 10 (.s 0))) (.op (.p (.slS (.s 0) (some (.s 1)) none)) (.cons
  (.va 0) (.va 1))))]) (.block 0 (.loop (.seq (R 11 [0, 1, 11, 12] [.tmp 11 (.op (.e (.nxtS (.s 0))) (.sl 10)), .tmp 12 (xex 0 (.sl 11))]) (.seq (.cond (.s 12) .skip (.exit 0))
  (.block 1 (.seq (R 13 [0, 1, 6] [.set 6 (xex 2 (.sl 11))]) (.seq (R 14 [4] [.set 4 (.and (xb .eql (.va 6) (xr 65533)) (.or (xb .lss (xb .sub (xsl (.va 0)) (.va 1)) (xi 3)) (xb
  .neq (.op (.p (.slS (.s 0) (some (.s 1)) (some (.s 2)))) (.cons (.va 0) (.cons (.va 1) (xb .add (.va 1) (xi 3))))) (.cv (.string ⟨#[239, 191, 189]⟩)))))]) .ret)))))))) (.seq (R
  999 [4] [.set 4 (.cv (.bool false))]) .ret)))
theorem fn_guiseref8_Bad : (autoPrg Tryz.prog).fn 52 = some LF_guiseref8_Bad := by kernel_rfl
def LF_guiseref9_Open : LFunc :=
  .mk 2 [.tmp 4] (.seq (R 2 [1, 2] [.tmp 2 (xbl 2 8 (.sl 0)), .set 4 (.cv (.slice none 0 0))]) (.seq (R 999 [1, 2, 5] [.set 5 (.cv (.slice none 0 0))]) (.seq (.seq (R 8 [2, 5, 9]
  [.tmp 9 (.op (.e (.rngS 9 (.s 0))) (.va 1))]) (.block 0 (.loop (.seq (R 10 [2, 5, 9, 10, 11] [.tmp 10 (.op (.e (.nxtS (.s 0))) (.sl 9)), .tmp 11 (xex 0 (.sl 10))]) (.seq (.cond
  (.s 11) .skip (.exit 0)) (.block 1 (.seq (R 12 [2, 5, 7, 9] [.set 7 (xex 2 (.sl 10))]) (R 13 [2, 5, 9] [.set 5 (xap 1 4 (.va 5) (xc2 53 (xln 8 (.sl 2)) (.va
  7)))])))))))) (.seq (R 18 [4] [.set 4 (xc2 54 (xln 8 (.sl 2)) (.va 5))]) .ret))))
theorem fn_guiseref9_Open : (autoPrg Tryz.prog).fn 24 = some LF_guiseref9_Open := by kernel_rfl
end Go.Proofs.YtfiaggbgplmmeaaGreatDoor.AM
namespace Go.Proofs.YtfiaggbgplmmeaaGreatDoor.AM
open Go
theorem scanL_hit {α β : Type} {l : List α} {g : Nat → α → Option β} {i : Nat} (hi : i < l.length) (h : ∀ j (hj : j < l.length), j < i → g j l[j] = none) {w : β} (hw : g i l[i] = some w) : scanL l g = some w :=
  scan_hit (fun j hj => by rw [List.getElem?_eq_getElem (by omega)]; exact h j (by omega) hj) hi (by rw [List.getElem?_eq_getElem hi]; exact hw)
theorem isBad_iff (x : Nat × Nat) : isBad2 x = true ↔ badP x := by simp [isBad2, badP]
end Go.Proofs.YtfiaggbgplmmeaaGreatDoor.AM
namespace Go.Proofs.YtfiaggbgplmmeaaGreatDoor.AM
open Go
def joinN (T : Tab) (b m : Nat) : Option Nat := (joinO T b m).map Int.toNat
structure Lay where
  pre : List Nat
  seat : Option Nat
  beh : List Nat
def Lay.out (s : Lay) : List Nat := s.pre ++ s.seat.toList ++ s.beh
def blocks (T : Tab) (K : List Nat) (c : Nat) : Prop := ∃ k, K.getLast? = some k ∧ clT T c ≤ clT T k
instance (T : Tab) (K : List Nat) (c : Nat) : Decidable (blocks T K c) := by
  unfold blocks
  cases K.getLast? with
  | none => exact .isFalse (by simp)
  | some k => exact if h : clT T c ≤ clT T k then .isTrue ⟨k, rfl, h⟩ else .isFalse (by rintro ⟨k', e, h'⟩; injection e with e; subst e; exact h h')
def layS (T : Tab) (s : Lay) (c : Nat) : Lay :=
  if clT T c = 0 then ⟨s.out, some c, []⟩
  else match s.seat with
    | none => ⟨s.pre, none, s.beh ++ [c]⟩
    | some b => if blocks T s.beh c then ⟨s.pre, some b, s.beh ++ [c]⟩ else
      match joinN T b c with
      | some w => ⟨s.pre, some w, s.beh⟩
      | none => ⟨s.pre, some b, s.beh ++ [c]⟩
def layL (T : Tab) (B : List Nat) : Lay := B.foldl (layS T) ⟨[], none, []⟩
def laid (T : Tab) (B : List Nat) : List Nat := (layL T B).out
theorem join_mem {T : Tab} {b m w : Int} (h : joinO T b m = some w) : (w, b, m) ∈ T.pairs := by
  obtain ⟨i, hi, e⟩ := scanL_some h
  split at e
  · rename_i q
    injection e with e
    have : T.pairs[i] = (w, b, m) := Prod.ext e (Prod.ext q.1 q.2)
    rw [← this]
    exact List.getElem_mem hi
  · cases e
theorem pairs_once {T : Tab} (h : goodB T = true) {i j : Nat} (hi : i < T.pairs.length) (hj : j < T.pairs.length) (e : (T.pairs[i]).1 = (T.pairs[j]).1) : i = j := by
  have hf := (checkW_none (good_check h)).2.2.1
  unfold twiceW at hf
  simp only [Option.or_eq_none_iff] at hf
  have key : ∀ {i j : Nat} (hi : i < T.pairs.length) (hj : j < T.pairs.length), (T.pairs[i]).1 = (T.pairs[j]).1 → ¬ i < j := fun {i j} hi hj e hlt => by
    have := scanL_none hf.2.2.1 j hj
    rw [if_pos ⟨T.pairs[i], List.mem_take_iff_getElem.2 ⟨i, by omega, rfl⟩, .inl e.symm⟩] at this
    cases this
  have h1 := key hi hj e
  have h2 := key hj hi e.symm
  omega
theorem pair_of_mem {T : Tab} (h : goodB T = true) {w b m : Int} (hm : (w, b, m) ∈ T.pairs) : pairI T w = some (b, m) := by
  obtain ⟨i, hi, e⟩ := List.mem_iff_getElem.1 hm
  unfold pairI
  cases hw : wholeO T w with
  | none => exact absurd (by rw [e]) (whole_none hw _ (List.getElem_mem hi))
  | some j =>
    obtain ⟨hj, e2⟩ := whole_mem hw
    have : i = j := pairs_once h hi hj (by rw [e, e2])
    subst this
    simp [List.getD_eq_getElem?_getD, List.getElem?_eq_getElem hi, e]
theorem join_opN {T : Tab} (h : goodB T = true) {b m w : Nat} (hb : RuneN b) (hj : joinN T b m = some w) : RuneN w ∧ clT T w = 0 ∧ opN T w = opN T b ++ [m] := by
  unfold joinN at hj
  obtain ⟨v, hv, e⟩ := Option.map_eq_some_iff.1 hj
  have hm := join_mem hv
  obtain ⟨g1, g2, g3, g4, g5, g6⟩ := good_pairs h _ hm
  simp only at g1 g2 g3 g4 g5 g6
  have hr := rune_iff.1 g4
  have hvw : (w : Int) = v := by omega
  have hp := pair_of_mem h hm
  refine ⟨by rw [← e]; exact hr.2, ?_, ?_⟩
  · show classI T (w : Int) = 0
    have := class_range h (w : Int)
    have hn : ¬ 0 < classI T (w : Int) := fun q => by rw [class_mark h, hvw, g1] at q; cases q
    omega
  · unfold opN
    have h1 := op_all h (w : Int)
    rw [hvw] at h1 ⊢
    have h2 : Op T v (opI T 5 (b : Int) ++ [(m : Int)]) := .more hp (op_all h _)
    rw [h1.eq h2, List.map_append]
    simp
theorem ord_push {cl : Nat → Int} {X : List Nat} {c : Nat} (h : ∀ a, (ord cl X).getLast? = some a → ¬ (0 < cl c ∧ cl c < cl a)) : ord cl (X ++ [c]) = ord cl X ++ [c] := by
  rw [ord_snoc]
  have e : insR cl (ord cl X).reverse c = c :: (ord cl X).reverse := by
    cases hr : (ord cl X).reverse with
    | nil => rfl
    | cons a t =>
      simp only [insR]
      rw [if_neg (h a (by rw [← List.head?_reverse, hr]; rfl))]
  rw [e]
  simp
theorem ord_past {cl : Nat → Int} {c : Nat} : ∀ (K p : List Nat), (∀ k ∈ K, 0 < cl k ∧ cl k < cl c) → ord cl (p ++ c :: K) = ord cl (p ++ K ++ [c])
  | [], p, _ => by simp
  | k :: K, p, h => by
    have hk := h k (by simp)
    rw [ord_swap hk.1 hk.2 p K]
    have := ord_past K (p ++ [k]) fun x hx => h x (by simp [hx])
    simpa using this
structure LayOk (T : Tab) (P : List Nat) (s : Lay) : Prop where
  run : ∀ x ∈ s.out, RuneN x
  beh : ∀ x ∈ s.beh, 0 < clT T x
  len : s.out.length ≤ P.length
  up : s.beh.Pairwise fun a c => clT T a ≤ clT T c
  le : ∀ x ∈ s.beh, ∀ c, P.getLast? = some c → clT T x ≤ clT T c
  cs : (s.seat = none ∧ s.pre = [] ∧ s.beh = P) ∨ ∃ b P0 P1, s.seat = some b ∧ clT T b = 0 ∧ P = P0 ++ P1 ∧ P1 ≠ [] ∧ openL T s.pre = P0 ∧ ord (clT T) (opN T b ++ s.beh) = P1
theorem ordered_last {cl : Nat → Int} : ∀ {P : List Nat} {c : Nat}, Ordered cl (P ++ [c]) → ∀ a, P.getLast? = some a → ¬ (0 < cl c ∧ cl c < cl a)
  | [a], c, h, x, hx => by simp at hx; subst hx; exact h.1
  | a :: b :: P, c, h, x, hx => ordered_last (P := b :: P) h.2 x (by rw [List.getLast?_cons_cons] at hx; exact hx)
theorem ordered_init {cl : Nat → Int} : ∀ {P Q : List Nat}, Ordered cl (P ++ Q) → Ordered cl P
  | [], _, _ => trivial
  | [a], _, _ => trivial
  | a :: b :: P, Q, h => ⟨h.1, ordered_init (P := b :: P) h.2⟩
theorem lay_step {T : Tab} (h : goodB T = true) {P : List Nat} {c : Nat} {s : Lay} (ho : Ordered (clT T) (P ++ [c])) (hop : ∀ x ∈ P ++ [c], isOp T x) (hrn : RuneN c) (k : LayOk T P s) : LayOk T (P ++ [c]) (layS T s c) := by
  have hoc := hop c (by simp)
  have hlast := ordered_last ho
  have h0c : 0 ≤ clT T c := (class_range h _).1
  unfold layS
  by_cases h0 : clT T c = 0
  · rw [if_pos h0]
    refine ⟨fun x hx => ?_, by simp, ?_, by simp, by simp, .inr ⟨c, P, [c], rfl, h0, rfl, by simp, ?_, ?_⟩⟩
    · simp only [Lay.out, Option.toList_some, List.append_nil] at hx
      rcases List.mem_append.1 hx with hx | hx
      · exact k.run x hx
      · rw [List.mem_singleton.1 hx]; exact hrn
    · have := k.len
      simp only [Lay.out, Option.toList_some, List.append_nil, List.length_append, List.length_singleton] at this ⊢
      omega
    · rcases k.cs with ⟨e1, e2, e3⟩ | ⟨b, P0, P1, e1, e2, e3, e4, e5, e6⟩
      · show openL T (s.pre ++ s.seat.toList ++ s.beh) = P
        rw [e1, e2, e3]
        exact openL_open (fun x hx => hop x (by simpa using .inl hx)) (by simpa using ordered_init ho)
      · show openL T (s.pre ++ s.seat.toList ++ s.beh) = P
        have hrb : RuneN b := k.run b (by simp [Lay.out, e1])
        obtain ⟨a, ms, q1, q2, _⟩ := opN_facts h hrb
        have hbeh : openF T s.beh = s.beh := openF_open fun x hx => mark_whole h ((class_mark h _).1 (k.beh x hx))
        unfold openL
        rw [openF_append, openF_append, e1, hbeh]
        have hb : openF T (some b).toList = opN T b := by simp [openF]
        rw [hb, List.append_assoc, ord_append (.inr (.inr (.inr ⟨a, ms ++ s.beh, by rw [q1]; rfl, by omega⟩))), e6, e3]
        congr 1
    · have : opN T c ++ [] = [c] := by rw [List.append_nil]; exact opN_open hoc
      rw [this]
      exact ord_of_ordered (l := [c]) trivial
  · rw [if_neg h0]
    have hc : 0 < clT T c := by omega
    rcases k.cs with ⟨e1, e2, e3⟩ | ⟨b, P0, P1, e1, e2, e3, e4, e5, e6⟩
    · rw [e1]
      simp only
      have hbl : ∀ x ∈ s.beh, clT T x ≤ clT T c := fun x hx => by
        have hne : P ≠ [] := fun q => by rw [e3, q] at hx; cases hx
        have hl := k.le x hx _ (List.getLast?_eq_some_getLast hne)
        have := hlast _ (List.getLast?_eq_some_getLast hne)
        omega
      refine ⟨fun x hx => ?_, fun x hx => ?_, ?_, ?_, fun x hx d hd => ?_, .inl ⟨rfl, e2, by rw [e3]⟩⟩
      · simp only [Lay.out, Option.toList_none, List.append_nil] at hx
        rcases List.mem_append.1 hx with hx | hx
        · exact k.run x (by simp [Lay.out, hx])
        · rcases List.mem_append.1 hx with hx | hx
          · exact k.run x (by simp [Lay.out, hx])
          · rw [List.mem_singleton.1 hx]; exact hrn
      · rcases List.mem_append.1 hx with hx | hx
        · exact k.beh x hx
        · rw [List.mem_singleton.1 hx]; exact hc
      · simp only [Lay.out, e2, e3, Option.toList_none, List.append_nil, List.nil_append, List.length_append, List.length_singleton]
        omega
      · refine List.pairwise_append.2 ⟨k.up, by simp, fun x hx d hd => ?_⟩
        rw [List.mem_singleton.1 hd]
        exact hbl x hx
      · rw [List.getLast?_concat] at hd
        injection hd with hd
        subst hd
        rcases List.mem_append.1 hx with hx | hx
        · exact hbl x hx
        · rw [List.mem_singleton.1 hx]; exact Int.le_refl _
    · rw [e1]
      simp only
      have hrb : RuneN b := k.run b (by simp [Lay.out, e1])
      have hPl : P.getLast? = P1.getLast? := by
        rw [e3, List.getLast?_append]
        cases hg : P1.getLast? with
        | none => exact absurd (List.getLast?_eq_none_iff.1 hg) e4
        | some a => simp
      have hbl : ∀ x ∈ s.beh, clT T x ≤ clT T c := fun x hx => by
        have hne : P ≠ [] := fun q => by rw [e3] at q; exact e4 (List.append_eq_nil_iff.1 q).2
        have hl := k.le x hx _ (List.getLast?_eq_some_getLast hne)
        have := hlast _ (List.getLast?_eq_some_getLast hne)
        omega
      have hpush : ∀ X, ord (clT T) X = P1 → ord (clT T) (X ++ [c]) = P1 ++ [c] := fun X e => by
        rw [ord_push fun a ha => hlast a (by rw [hPl, ← e]; exact ha), e]
      have plain : LayOk T (P ++ [c]) ⟨s.pre, some b, s.beh ++ [c]⟩ := by
        refine ⟨fun x hx => ?_, fun x hx => ?_, ?_, ?_, fun x hx d hd => ?_, .inr ⟨b, P0, P1 ++ [c], rfl, e2, by rw [e3, List.append_assoc], by simp, e5, ?_⟩⟩
        · have hx : x ∈ s.out ++ [c] := by simpa [Lay.out, e1] using hx
          rcases List.mem_append.1 hx with hx | hx
          · exact k.run x hx
          · rw [List.mem_singleton.1 hx]; exact hrn
        · rcases List.mem_append.1 hx with hx | hx
          · exact k.beh x hx
          · rw [List.mem_singleton.1 hx]; exact hc
        · have := k.len
          simp only [Lay.out, e1, Option.toList_some, List.length_append, List.length_singleton] at this ⊢
          omega
        · refine List.pairwise_append.2 ⟨k.up, by simp, fun x hx d hd => ?_⟩
          rw [List.mem_singleton.1 hd]
          exact hbl x hx
        · rw [List.getLast?_concat] at hd
          injection hd with hd
          subst hd
          rcases List.mem_append.1 hx with hx | hx
          · exact hbl x hx
          · rw [List.mem_singleton.1 hx]; exact Int.le_refl _
        · rw [← List.append_assoc]
          exact hpush _ e6
      split
      · exact plain
      · rename_i hnb
        split
        · rename_i w hw
          obtain ⟨j1, j2, j3⟩ := join_opN h hrb hw
          have hlt : ∀ x ∈ s.beh, 0 < clT T x ∧ clT T x < clT T c := fun x hx => by
            refine ⟨k.beh x hx, ?_⟩
            have hne : s.beh ≠ [] := fun q => by rw [q] at hx; cases hx
            have hgl := List.getLast?_eq_some_getLast hne
            have h1 : ¬ clT T c ≤ clT T (s.beh.getLast hne) := fun q => hnb ⟨_, hgl, q⟩
            have h2 : clT T x ≤ clT T (s.beh.getLast hne) := by
              have hd := List.dropLast_concat_getLast hne
              have hu := k.up
              rw [← hd] at hu hx
              rcases List.mem_append.1 hx with hx | hx
              · exact (List.pairwise_append.1 hu).2.2 x hx _ (by simp)
              · rw [List.mem_singleton.1 hx]; exact Int.le_refl _
            omega
          refine ⟨fun x hx => ?_, k.beh, ?_, k.up, fun x hx d hd => ?_, .inr ⟨w, P0, P1 ++ [c], rfl, j2, by rw [e3, List.append_assoc], by simp, e5, ?_⟩⟩
          · have hx : x ∈ s.pre ∨ x = w ∨ x ∈ s.beh := by simpa [Lay.out] using hx
            rcases hx with hx | rfl | hx
            · exact k.run x (by simp [Lay.out, hx])
            · exact j1
            · exact k.run x (by simp [Lay.out, hx])
          · have := k.len
            simp only [Lay.out, e1, Option.toList_some, List.length_append, List.length_singleton] at this ⊢
            omega
          · rw [List.getLast?_concat] at hd
            injection hd with hd
            subst hd
            exact hbl x hx
          · rw [j3, List.append_assoc, List.singleton_append, ord_past _ _ hlt]
            exact hpush _ e6
        · exact plain
theorem lay_all {T : Tab} (h : goodB T = true) : ∀ (Q P : List Nat) (s : Lay), Ordered (clT T) (P ++ Q) → (∀ x ∈ P ++ Q, isOp T x ∧ RuneN x) → LayOk T P s → LayOk T (P ++ Q) (Q.foldl (layS T) s)
  | [], P, s, _, _, k => by rw [List.append_nil]; exact k
  | c :: Q, P, s, ho, hop, k => by
    have e : P ++ c :: Q = (P ++ [c]) ++ Q := by simp
    rw [e] at ho hop ⊢
    exact lay_all h Q (P ++ [c]) _ ho hop (lay_step h (ordered_init ho) (fun x hx => (hop x (List.mem_append_left _ hx)).1) (hop c (by simp)).2 k)
theorem lay_ok {T : Tab} (h : goodB T = true) {P : List Nat} (ho : Ordered (clT T) P) (hop : ∀ x ∈ P, isOp T x ∧ RuneN x) : LayOk T P (layL T P) :=
  lay_all h P [] ⟨[], none, []⟩ ho hop ⟨by simp [Lay.out], by simp, by simp [Lay.out], by simp, by simp, .inl ⟨rfl, rfl, rfl⟩⟩
theorem laid_back {T : Tab} (h : goodB T = true) {P : List Nat} (ho : Ordered (clT T) P) (hop : ∀ x ∈ P, isOp T x ∧ RuneN x) : openL T (laid T P) = P ∧ (∀ x ∈ laid T P, RuneN x) ∧ (laid T P).length ≤ P.length := by
  have k := lay_ok h ho hop
  refine ⟨?_, k.run, k.len⟩
  rcases k.cs with ⟨e1, e2, e3⟩ | ⟨b, P0, P1, e1, e2, e3, e4, e5, e6⟩
  · unfold laid Lay.out
    rw [e1, e2, e3]
    exact openL_open (fun x hx => (hop x (by simpa using hx)).1) (by simpa using ho)
  · have hrb : RuneN b := k.run b (by simp [Lay.out, e1])
    obtain ⟨a, ms, q1, q2, _⟩ := opN_facts h hrb
    have hbeh : openF T (layL T P).beh = (layL T P).beh := openF_open fun x hx => mark_whole h ((class_mark h _).1 (k.beh x hx))
    unfold laid Lay.out openL
    rw [openF_append, openF_append, e1, hbeh]
    have hb : openF T (some b).toList = opN T b := by simp [openF]
    rw [hb, List.append_assoc, ord_append (.inr (.inr (.inr ⟨a, ms ++ (layL T P).beh, by rw [q1]; rfl, by omega⟩))), e6, show ord (clT T) (openF T (layL T P).pre) = P0 from e5]
    exact e3.symm
def shutB (T : Tab) (l : Bytes) : Bytes := encs (laid T (openL T (runesB l)))
theorem shut_facts {T : Tab} (h : goodB T = true) (l : Bytes) : openL T (laid T (openL T (runesB l))) = openL T (runesB l) ∧ (∀ x ∈ laid T (openL T (runesB l)), RuneN x) ∧ (laid T (openL T (runesB l))).length ≤ (openL T (runesB l)).length :=
  laid_back h (ord_ordered _) fun x hx => (openL_all h (runesB_rune l) x hx).symm
end Go.Proofs.YtfiaggbgplmmeaaGreatDoor.AM
namespace Go.Proofs.YtfiaggbgplmmeaaGreatDoor.AM
open Go
def LF_shut_Shut : LFunc :=
  .mk 2 [.tmp 4] (.seq (R 999 [0, 1] [.set 4 (.cv (.string ⟨#[]⟩))]) (.seq (.seq (R 14 [0, 1, 15] [.tmp 15 (.op (.p (.eqk false .ptr (.s 0) (.s 1))) (.cons (.va 0) (.cv (.pointer
  none))))]) (.cond (.s 15) (.seq (R 999 [4] [.set 4 (.cv (.string ⟨#[]⟩))]) .ret) .skip)) (.seq (R 999 [0, 1, 5] [.set 5 (.cv (.slice none 0 0))]) (.seq (R 999 [0, 1, 5, 6] [.set 6
  (xi (-1))]) (.seq (.seq (R 16 [0, 5, 6, 19] [.tmp 19 (.op (.e (.rngS 19 (.s 0))) (xc2 19 (.va 0) (.va 1)))]) (.block 0 (.loop (.seq (R 20 [0, 5, 6, 19, 20, 21] [.tmp 20
  (.op (.e (.nxtS (.s 0))) (.sl 19)), .tmp 21 (xex 0 (.sl 20))]) (.seq (.cond (.s 21) .skip (.exit 0)) (.block 1 (.seq (R 22 [0, 5, 6, 8, 19] [.set 8 (xex 2 (.sl 20))]) (.seq (R 23
  [0, 5, 6, 8, 9, 19] [.set 9 (xc2 33 (.va 0) (.va 8))]) (.seq (.seq (R 26 [0, 5, 6, 8, 9, 19, 27] [.tmp 27 (xb .eql (.va 9) (xi 0))]) (.cond (.s 27) (.seq (R
  28 [0, 5, 19] [.set 5 (xap 1 4 (.va 5) (.op (.e (.litL 30 1 1 [.int .i32 0] [(0, 1, .s 0)])) (.va 8)))]) (.seq (R 32 [0, 5, 6, 19] [.set 6 (xb .sub (xlen (.va 5)) (xi 1))]) (.exit
  1))) .skip)) (.seq (R 35 [0, 5, 6, 8, 9, 10, 19] [.set 10 (.op (.p (.sl 1 (.s 0) (some (.s 1)) (some (.s 2)) (some (.s 3)))) (.cons (.va 5) (.cons (xb .add (.va 6) (xi 1)) (.cons
  (xlen (.va 5)) (xlen (.va 5))))))]) (.seq (R 43 [0, 5, 6, 8, 11, 19] [.set 11 (.or (xb .lss (.va 6) (xi 0)) (.and (xb .gtr (xlen (.va 10)) (xi 0)) (xb .geq (xc2
  33 (.va 0) (xld (xia 1 (.va 10) (xb .sub (xlen (.va 10)) (xi 1))))) (.va 9))))]) (.seq (.seq (R 62 [0, 5, 6, 8, 19, 63] [.tmp 63 (xu .not (.va 11))]) (.cond
  (.s 63) (.seq (R 65 [0, 5, 6, 8, 12, 13, 19] [.set 64 (xc3 58 (.va 0) (xld (xia 1 (.va 5) (.va 6))) (.va 8)), .tmp 72 (xex 0 (.sl 64)), .tmp 73 (xex 1 (.sl
  64)), .set 12 (.sl 72), .set 13 (.sl 73)]) (.seq (R 74 [0, 5, 6, 8, 12, 19, 74] [.tmp 74 (.va 13)]) (.cond (.s 74) (.seq (R 75 [0, 5, 6, 19] [.tmp 75 (.va 5), .tmp 76 (.va 6),
  .tmp 77 (.va 12), .run (xst 1 (xia 1 (.sl 75) (.sl 76)) (.sl 77))]) (.exit 1)) .skip))) .skip)) (R 79 [0, 5, 6, 19] [.set 5 (xap 1 4 (.va 5) (.op (.e (.litL 81 1 1 [.int .i32 0]
  [(0, 1, .s 0)])) (.va 8)))]))))))))))))) (.seq (R 83 [4] [.set 4 (.op (.r (.r2s (.s 0))) (.va 5))]) .ret))))))
theorem fn_shut_Shut : (autoPrg Tryz.prog).fn 35 = some LF_shut_Shut := by kernel_rfl
def LF_tables_Book_Joined : LFunc :=
  .mk 3 [.tmp 6, .tmp 7] (.seq (R 999 [0, 1, 2] [.set 6 (xr 0), .set 7 (.cv (.bool false))]) (.seq (R 11 [8, 9] [.set 10 (.op (.r (.lookup (.agg [.int, .int]) (.int .i32 0) true (.s
  0) (.s 1))) (.cons (xld (xfa 10 (xnk (.va 0)))) (.op (.p (.build [.int .i32 0, .int .i32 0] [(0, 1, .s 0), (1, 1, .s 1)])) (.cons (.va 1) (.va 2))))), .tmp 19 (xex 0 (.sl 10)),
  .tmp 20 (xex 1 (.sl 10)), .set 8 (.sl 19), .set 9 (.sl 20)]) (.seq (R 21 [6, 7] [.tmp 21 (.va 8), .tmp 22 (.va 9), .set 6 (.sl 21), .set 7 (.sl 22)]) .ret)))
theorem fn_tables_Book_Joined : (autoPrg Tryz.prog).fn 58 = some LF_tables_Book_Joined := by kernel_rfl
def LF_guiselaw10_known : LFunc :=
  .mk 0 [.tmp 0] (.seq (R 999 [] [.set 0 (.cv (.bool false))]) (.seq (R 5 [1, 2] [.set 4 (xc1 12 (xc0 34)), .tmp 7 (xex 0 (.sl 4)), .tmp 8 (xex 1
  (.sl 4)), .tmp 9 (xex 2 (.sl 4)), .set 1 (.sl 7), .set 2 (.sl 8), .set 3 (.sl 9)]) (.seq (.seq (R 10 [1, 11] [.tmp 11 (xu .not (.va 2))]) (.cond (.s 11) (.seq (R 999 [0] [.set 0
  (.cv (.bool false))]) .ret) .skip)) (.seq (R 12 [0] [.set 0 (.and (.and (xb .eql (xc2 35 (.va 1) (.cv (.string ⟨#[101, 204, 130, 204, 129]⟩))) (.cv (.string ⟨#[225,
  186, 191]⟩))) (xb .eql (xc2 35 (.va 1) (.cv (.string ⟨#[101, 204, 129, 204, 163]⟩))) (.cv (.string ⟨#[225, 186, 185, 204, 129]⟩)))) (xb .eql (xc2 35 (.va 1)
  (.cv (.string ⟨#[101, 204, 129, 204, 129]⟩))) (.cv (.string ⟨#[195, 169, 204, 129]⟩))))]) .ret))))
theorem fn_guiselaw10_known : (autoPrg Tryz.prog).fn 37 = some LF_guiselaw10_known := by kernel_rfl
def LF_guiselaw10_house : LFunc :=
  .mk 0 [.cell 0 (some 8)] (.seq (R 0 [0] [.tmp 0 (xnl 0 [.slice none 0 0, .slice none 0 0, .slice none 0 0, .slice none 0 0, .slice none 0 0, .slice none 0 0, .slice none 0 0,
  .slice none 0 0])]) (.seq (R 1 [0] [.run (xst 8 (.sl 0) (xc0 47))]) .ret))
theorem fn_guiselaw10_house : (autoPrg Tryz.prog).fn 34 = some LF_guiselaw10_house := by kernel_rfl
end Go.Proofs.YtfiaggbgplmmeaaGreatDoor.AM
namespace Go.Proofs.YtfiaggbgplmmeaaGreatDoor.AM
open Go
theorem bookJoined_eq {h : AH} {k B : Nat} {s6 : Sl} {T : Tab} (bk : BkAt h k B s6 T) (b m : Int) : callO PX 58 [.pointer (some ⟨k, 0, none⟩), .int .i32 b, .int .i32 m] h = some (.tuple (List.toArray [.int .i32 ((joinO T b m).getD 0), .bool (joinO T b m).isSome]), h) := by
  obtain ⟨x0, x1, x2, x3, x4, x5, x7, hb⟩ := bk.b
  have m2 := m_join bk.mp b m
  generalize (joinO T b m).getD 0 = x at m2 ⊢
  generalize (joinO T b m).isSome = y at m2 ⊢
  apply WpC.eqn
  refine wpc_fn (px_ext rfl) (px_fn fn_tables_Book_Joined) rfl ?_
  unfold LF_tables_Book_Joined
  simp only [argFr]
  (refine W_x (Aj hb m2) ?_; (repeat' first | apply Cj.mk | exact Nl.nl) <;> intros)
  exact ⟨rfl, rfl⟩
theorem sl3_drop {s : Sl} {i j m : Int} (h0 : 0 ≤ i) (h1 : i ≤ s.len) (h2 : j = s.len) (h3 : m = s.len) : sl3 1 (s.val 1) (.int .i64 i) (.int .i64 j) (.int .i64 m) = some ((s.drop 1 i.toNat).val 1) := by
  subst h2 h3
  cases s with
  | nil =>
    have : i = 0 := by simp [Sl.len] at h1; omega
    subst this
    rfl
  | «at» b o n =>
    simp only [Sl.len] at h1
    have := sl3_val (bk := b) (o := o) (n := n) (i := i) (j := n) (m := n) h0 h1 (by omega) (by omega)
    show sl3 1 ((Sl.at b o n).val 1) _ (.int .i64 (n : Int)) (.int .i64 (n : Int)) = _
    rw [this]
    simp only [Sl.drop, Nat.mul_one]
    congr 3
    omega
theorem drop_len {s : Sl} {e i : Nat} : (s.drop e i).len = s.len - i := by cases s <;> simp [Sl.drop, Sl.len]
def seatI (s : Lay) : Int := match s.seat with
  | some _ => s.pre.length
  | none => -1
theorem layL_snoc {T : Tab} {P : List Nat} {i : Nat} (hi : i < P.length) : layL T (P.take (i + 1)) = layS T (layL T (P.take i)) P[i] := by
  unfold layL
  rw [take_snoc hi, List.foldl_append]
  rfl
set_option maxHeartbeats 1000000 in
theorem shutShut_spec {h : AH} {k B : Nat} {s6 : Sl} {T : Tab} (gd : goodB T = true) (bk : BkAt h k B s6 T) (s : ByteArray) (hs : s.size ≤ 1048576) : WpC PX 35 [.pointer (some ⟨k, 0, none⟩), .string s] h fun v h' => v = .string (bs (shutB T s.data.toList)) ∧ Kp h h' := by
  have hz : s.data.toList.length = s.size := rfl
  have hn := spots_len s.data.toList
  have hrl := runesB_len s.data.toList
  have hrr := runesB_rune s.data.toList
  obtain ⟨_, g1, e1, rfl, k1⟩ := openOpen_spec gd bk s hs
  have hor := openB_runes gd s.data.toList
  have hol := openF_len gd hrr
  have hF := (shut_facts gd s.data.toList).2.1
  have hPr := openL_all gd hrr
  have hlay : ∀ i, LayOk T ((openL T (runesB s.data.toList)).take i) (layL T ((openL T (runesB s.data.toList)).take i)) := fun i => lay_ok gd (ordered_init (Q := (openL T (runesB s.data.toList)).drop i) (by rw [List.take_append_drop]; exact ord_ordered _)) fun x hx => (hPr x (List.mem_of_mem_take hx)).symm
  have hP : (openL T (runesB s.data.toList)).length ≤ 6291456 := by unfold openL; rw [ord_length]; omega
  unfold shutB laid at *
  generalize hO : bs (openB T s.data.toList) = O at e1
  have hOl : O.data.toList = openB T s.data.toList := by rw [← hO, bs_l]
  rw [← hOl] at hor
  generalize openL T (runesB s.data.toList) = P at *
  have hsp : (spots O.data.toList).length = P.length := by rw [← runesB_len, hor]
  have bk1 := bk.kp k1
  refine wpc_fn (px_ext rfl) (px_fn fn_shut_Shut) rfl ?_
  unfold LF_shut_Shut
  simp only [argFr]
  (refine W_x (Aj e1 @ev_rngS) ?_; (repeat' first | apply Cj.mk | exact Nl.nl) <;> intros)
  refine wp_spotsS (fun i sl => [(0, .pointer (some ⟨k, 0, none⟩)), (5, sl.val 1), (6, .int .i64 (seatI (layL T (P.take i)))), (19, .pointer (some ⟨38, 0, some 1⟩))]) (fun n _ => [(38, .siter O n)]) O O.data.toList (fun i sl h' => FOwn g1 h' 1 sl ((layL T (P.take i)).out.map rnV)) (fun _ _ => (none : Option Unit)) Sl.nil rfl (by repeat' first | exact True.intro | refine And.intro rfl ?_) (fun _ _ => rfl) rfl (FOwn.nil (Kp.refl g1))
    (fun i hi sl h1 fo hit => ?_) fun sl h1 fo fin => ?_
  · (refine W_x trivial ?_; (repeat' first | apply Cj.mk | exact Nl.nl) <;> intros)
    refine wo_next rfl rfl hi ?_
    have hi2 : i < P.length := by omega
    have hx : ((spots O.data.toList)[i]).1 = P[i] := by
      have := runesB_get hi
      rw [← this]
      simp only [hor]
    rw [hx]
    have hsn := layL_snoc (T := T) hi2
    have hrc := (hPr _ (List.getElem_mem hi2)).1
    have ok := hlay i
    have hlen := ok.len
    rw [List.length_take] at hlen
    generalize P[i] = c at hsn hrc ⊢
    generalize layL T (P.take i) = st at hsn ok fo hlen ⊢
    rw [hsn]
    have sll := fo.own.1
    rw [List.length_map] at sll
    have ec := class_eq (bk1.kp fo.kp)
    have e2 := ec (c : Nat)
    rw [show classI T (c : Nat) = clT T c from rfl] at e2
    have hcn : 0 ≤ clT T c := (class_range gd _).1
    by_cases h0 : clT T c = 0
    · have hst : layS T st c = ⟨st.out, some c, []⟩ := by unfold layS; rw [if_pos h0]
      rw [hst]
      (refine W_x e2 ?_; (repeat' first | apply Cj.mk | exact Nl.nl) <;> intros)
      refine wo_app1 (cs := rnV c) fo rfl rfl (by decide) (by decide) (by rw [List.length_map]; omega) fun s2 h2 f2 => ?_
      have s2l := f2.own.1
      rw [List.length_append, List.length_map, List.length_singleton] at s2l
      (refine W_x s2l ?_; (repeat' first | apply Cj.mk | exact Nl.nl) <;> intros)
      rw [show ((st.out.length : Int) + 1 - 1) = seatI ⟨st.out, some c, []⟩ from by simp only [seatI]; omega]
      exact ⟨rfl, s2, (by repeat' first | exact True.intro | refine And.intro rfl ?_), rfl, by simpa [Lay.out] using f2⟩
    · have hc0 : 0 < clT T c := by omega
      have happ : ∀ (s2 : Sl) (h2 : AH), FOwn g1 h2 1 s2 (st.out.map rnV ++ [rnV c]) → FOwn g1 h2 1 s2 ((Lay.out ⟨st.pre, st.seat, st.beh ++ [c]⟩).map rnV) := fun s2 h2 f => by
        have : Lay.out ⟨st.pre, st.seat, st.beh ++ [c]⟩ = st.out ++ [c] := by simp [Lay.out]
        rw [this, List.map_append]
        exact f
      cases hseat : st.seat with
      | none =>
        have hsI : seatI st = -1 := by unfold seatI; rw [hseat]
        have hst : layS T st c = ⟨st.pre, st.seat, st.beh ++ [c]⟩ := by unfold layS; rw [if_neg h0, hseat]
        have hsI2 : seatI ⟨st.pre, st.seat, st.beh ++ [c]⟩ = -1 := by unfold seatI; simp only [hseat]
        have e3 := sl3_drop (s := sl) (i := 0) (j := st.out.length) (m := st.out.length) (by omega) (by omega) (by omega) (by omega)
        have hm1 : (-1 + 1 : Int) = 0 := rfl
        rw [hst, hsI, hsI2]
        (refine W_x (Aj e2 (Aj sll e3)) ?_; (repeat' first | apply Cj.mk | exact Nl.nl) <;> intros)
        refine wo_app1 (cs := rnV c) fo rfl rfl (by decide) (by decide) (by rw [List.length_map]; omega) fun s2 h2 f2 => ?_
        (refine W_x trivial ?_; (repeat' first | apply Cj.mk | exact Nl.nl) <;> intros)
        exact ⟨rfl, s2, (by repeat' first | exact True.intro | refine And.intro rfl ?_), rfl, happ _ _ f2⟩
      | some b =>
        have hsI : seatI st = st.pre.length := by unfold seatI; rw [hseat]
        have hout : st.out = st.pre ++ b :: st.beh := by simp [Lay.out, hseat]
        have hol2 : st.out.length = st.pre.length + 1 + st.beh.length := by rw [hout]; simp; omega
        have e3 := sl3_drop (s := sl) (i := (st.pre.length : Int) + 1) (j := st.out.length) (m := st.out.length) (by omega) (by omega) (by omega) (by omega)
        have hti : ((st.pre.length : Int) + 1).toNat = st.pre.length + 1 := by omega
        rw [hti] at e3
        have hdl : (sl.drop 1 (st.pre.length + 1)).len = st.beh.length := by rw [drop_len]; omega
        have rdd := fo.reads.drop (k := st.pre.length + 1) (by rw [List.length_map]; omega)
        have hdr : (st.out.map rnV).drop (st.pre.length + 1) = st.beh.map rnV := by rw [hout, ← List.map_drop]; simp
        rw [hdr] at rdd
        have hi3 : st.pre.length < st.out.length := by omega
        have gb := fun lc => rd_map (lc := lc) fo.reads hi3
        have hgb : st.out[st.pre.length] = b := by simp [hout]
        rw [hgb] at gb
        have hrb : RuneN b := ok.run b (by rw [hout]; simp)
        have ej := bookJoined_eq (bk1.kp fo.kp) (b : Nat) (c : Nat)
        have hplain : layS T st c = ⟨st.pre, st.seat, st.beh ++ [c]⟩ → seatI (layS T st c) = st.pre.length := fun e => by rw [e]; unfold seatI; simp only [hseat]
        have hbl : (st.beh = [] ∧ ¬ blocks T st.beh c) ∨ ∃ z, (∀ lc, Mem.rd ⟨lc, h1⟩ ((sl.drop 1 (st.pre.length + 1)).adr 1 (st.beh.length - 1)) 1 = some (rnV z)) ∧ 0 < st.beh.length ∧ (blocks T st.beh c ↔ clT T c ≤ clT T z) := by
          rcases Nat.eq_zero_or_pos st.beh.length with hz0 | hz0
          · have : st.beh = [] := List.eq_nil_of_length_eq_zero hz0
            exact .inl ⟨this, by rw [this]; simp [blocks]⟩
          · have hlt : st.beh.length - 1 < st.beh.length := by omega
            refine .inr ⟨st.beh[st.beh.length - 1], fun lc => rd_map (lc := lc) rdd hlt, hz0, ?_⟩
            have hgl : st.beh.getLast? = some st.beh[st.beh.length - 1] := by rw [List.getLast?_eq_getElem?, List.getElem?_eq_getElem hlt]
            unfold blocks
            rw [hgl]
            simp
        unfold rnV at gb
        by_cases hB : blocks T st.beh c
        · have hst : layS T st c = ⟨st.pre, st.seat, st.beh ++ [c]⟩ := by unfold layS; rw [if_neg h0, hseat]; simp only; rw [if_pos hB]
          have hs2 := hplain hst
          rcases hbl with ⟨_, q⟩ | ⟨z, q1, q2, q3⟩
          · exact absurd hB q
          · have q4 := q3.1 hB
            have e5 := ec (z : Nat)
            rw [show classI T (z : Nat) = clT T z from rfl] at e5
            unfold rnV at q1
            have hx1 : ((st.beh.length : Int) - 1).toNat = st.beh.length - 1 := by omega
            rw [hs2, hst, hsI]
            (refine W_x (Aj e2 (Aj sll (Aj e3 (Aj hdl (Aj hx1 (Aj q1 e5)))))) ?_; (repeat' first | apply Cj.mk | exact Nl.nl) <;> intros)
            refine wo_app1 (cs := rnV c) fo rfl rfl (by decide) (by decide) (by rw [List.length_map]; omega) fun s2 h2 f2 => ?_
            (refine W_x trivial ?_; (repeat' first | apply Cj.mk | exact Nl.nl) <;> intros)
            exact ⟨rfl, s2, (by repeat' first | exact True.intro | refine And.intro rfl ?_), rfl, happ _ _ f2⟩
        · cases hj : joinO T b c with
          | none =>
            have hst : layS T st c = ⟨st.pre, st.seat, st.beh ++ [c]⟩ := by
              unfold layS; rw [if_neg h0, hseat]; simp only; rw [if_neg hB]
              unfold joinN; rw [hj]; rfl
            have hs2 := hplain hst
            rw [hj] at ej
            simp only [Option.getD_none, Option.isSome_none] at ej
            rw [hs2, hst, hsI]
            rcases hbl with ⟨q, _⟩ | ⟨z, q1, q2, q3⟩
            · rw [q, List.length_nil] at hdl
              (refine W_x (Aj e2 (Aj sll (Aj e3 (Aj hdl (Aj gb ej))))) ?_; (repeat' first | apply Cj.mk | exact Nl.nl) <;> intros)
              refine wo_app1 (cs := rnV c) fo rfl rfl (by decide) (by decide) (by rw [List.length_map]; omega) fun s2 h2 f2 => ?_
              (refine W_x trivial ?_; (repeat' first | apply Cj.mk | exact Nl.nl) <;> intros)
              exact ⟨rfl, s2, (by repeat' first | exact True.intro | refine And.intro rfl ?_), rfl, happ _ _ f2⟩
            · have q4 : ¬ clT T c ≤ clT T z := fun q => hB (q3.2 q)
              have e5 := ec (z : Nat)
              rw [show classI T (z : Nat) = clT T z from rfl] at e5
              unfold rnV at q1
              have hx1 : ((st.beh.length : Int) - 1).toNat = st.beh.length - 1 := by omega
              (refine W_x (Aj e2 (Aj sll (Aj e3 (Aj hdl (Aj hx1 (Aj q1 (Aj e5 (Aj gb ej)))))))) ?_; (repeat' first | apply Cj.mk | exact Nl.nl) <;> intros)
              refine wo_app1 (cs := rnV c) fo rfl rfl (by decide) (by decide) (by rw [List.length_map]; omega) fun s2 h2 f2 => ?_
              (refine W_x trivial ?_; (repeat' first | apply Cj.mk | exact Nl.nl) <;> intros)
              exact ⟨rfl, s2, (by repeat' first | exact True.intro | refine And.intro rfl ?_), rfl, happ _ _ f2⟩
          | some w =>
            have hw0 := (rune_iff.1 (good_pairs gd _ (join_mem hj)).2.2.2.1).1
            simp only at hw0
            have hwn : ((w.toNat : Nat) : Int) = w := by omega
            have hst : layS T st c = ⟨st.pre, some w.toNat, st.beh⟩ := by
              unfold layS; rw [if_neg h0, hseat]; simp only; rw [if_neg hB]
              unfold joinN; rw [hj]; rfl
            have hs2 : seatI ⟨st.pre, some w.toNat, st.beh⟩ = st.pre.length := rfl
            rw [hj] at ej
            simp only [Option.getD_some, Option.isSome_some] at ej
            rw [hst, hs2, hsI]
            obtain ⟨h2, hw1, f2⟩ := fo.set (i := st.pre.length) (by rw [List.length_map]; exact hi3) (vs := rnV w.toNat) rfl
            have hset : (st.out.map rnV).set st.pre.length (rnV w.toNat) = (Lay.out ⟨st.pre, some w.toNat, st.beh⟩).map rnV := by
              rw [← List.map_set, hout]
              simp [Lay.out]
            rw [hset] at f2
            unfold rnV at hw1
            rw [hwn] at hw1
            rcases hbl with ⟨q, _⟩ | ⟨z, q1, q2, q3⟩
            · rw [q, List.length_nil] at hdl
              (refine W_x (Aj e2 (Aj sll (Aj e3 (Aj hdl (Aj gb (Aj ej hw1)))))) ?_; (repeat' first | apply Cj.mk | exact Nl.nl) <;> intros)
              exact ⟨rfl, sl, (by repeat' first | exact True.intro | refine And.intro rfl ?_), rfl, f2⟩
            · have q4 : ¬ clT T c ≤ clT T z := fun q => hB (q3.2 q)
              have e5 := ec (z : Nat)
              rw [show classI T (z : Nat) = clT T z from rfl] at e5
              unfold rnV at q1
              have hx1 : ((st.beh.length : Int) - 1).toNat = st.beh.length - 1 := by omega
              (refine W_x (Aj e2 (Aj sll (Aj e3 (Aj hdl (Aj hx1 (Aj q1 (Aj e5 (Aj gb (Aj ej hw1))))))))) ?_; (repeat' first | apply Cj.mk | exact Nl.nl) <;> intros)
              exact ⟨rfl, sl, (by repeat' first | exact True.intro | refine And.intro rfl ?_), rfl, f2⟩
  · (refine W_x trivial ?_; (repeat' first | apply Cj.mk | exact Nl.nl) <;> intros)
    refine wo_nextE rfl rfl ?_
    rw [hsp, List.take_length] at fo
    have hg := fun lc => r2s_own (lc := lc) fo.own hF
    (refine W_x hg ?_; (repeat' first | apply Cj.mk | exact Nl.nl) <;> intros)
    exact ⟨rfl, k1.trans fo.kp⟩
end Go.Proofs.YtfiaggbgplmmeaaGreatDoor.AM
namespace Go.Proofs.YtfiaggbgplmmeaaGreatDoor.AM
open Go
def LF_shut_First : LFunc :=
  .mk 2 [.cell 4 (some 2), .tmp 5] (.seq (R 4 [0, 1, 4] [.tmp 4 (xnl 4 [.int .i64 0, .int .i64 0]), .set 5 (.cv (.bool false))]) (.seq (.seq (R 6 [0, 1, 4, 7] [.tmp 7 (.op (.p (.eqk
  false .ptr (.s 0) (.s 1))) (.cons (.va 0) (.cv (.pointer none))))]) (.cond (.s 7) (.seq (R 8 [4, 5] [.run (xst 2 (.sl 4) (.op (.p (.build [.int .i64 0, .int .i64 0] [])) .nil)),
  .set 5 (.cv (.bool false))]) .ret) .skip)) (.seq (R 9 [4, 5] [.tmp 13 (xc2 59 (.va 1) (xc2 35 (.va 0) (.va 1))), .tmp 14 (xex 0 (.sl 13)), .tmp 15 (xex 1
  (.sl 13)), .run (xst 2 (.sl 4) (.sl 14)), .set 5 (.sl 15)]) .ret)))
theorem fn_shut_First : (autoPrg Tryz.prog).fn 36 = some LF_shut_First := by kernel_rfl
def LF_shut_unlike : LFunc :=
  .mk 2 [.cell 4 (some 2), .cell 5 none] (.seq (R 2 [2, 3, 4, 5] [.tmp 2 (xbh 1 (.sl 0)), .tmp 3 (xbh 1 (.sl 1)), .tmp 4 (xnh [.int .i64 0, .int .i64 0]), .tmp 5 (xnh [.bool
  false])]) (.seq (R 6 [2, 3, 4, 5, 6] [.tmp 6 (xnh [.int .i64 0]), .run (xst 1 (.sl 6) (xi 0))]) (.seq (.seq (R 10 [2, 3, 4, 5, 6, 11] [.tmp 11 (xc1 49 (xld (.sl 2)))])
  (.block 0 (.rangeF (.s 11) [12, 13] (.seq (R 7 [2, 3, 4, 5, 6, 7, 13] [.tmp 7 (.va 12)]) (R 8 [2, 3, 4, 5, 6, 7, 8] [.tmp 8 (xnl 8 [.int .i32 0, .int .i64 0, .bool false]), .run
  (xst 3 (.sl 8) (.sl 13))])) (.block 1 (.seq (R 14 [2, 3, 4, 5, 6, 7, 8, 9] [.set 9 (xb .add (.va 7) (xld (xfa 1 (.sl 8))))]) (.seq (.seq (R 18 [4, 5, 6, 7, 36] [.tmp 36 (.or (.or
  (xld (xfa 2 (.sl 8))) (xb .gtr (.va 9) (xsl (xld (.sl 3))))) (xb .neq (.op (.p (.slS (.s 0) (some (.s 1)) (some (.s 2)))) (.cons (xld (.sl 2)) (.cons (.va 7) (.va 9)))) (.op (.p
  (.slS (.s 0) (some (.s 1)) (some (.s 2)))) (.cons (xld (.sl 3)) (.cons (.va 7) (.va 9))))))]) (.cond (.s 36) (.seq (R 37 [] [.run (xst 2 (.sl 4) (.op (.p (.build [.int .i64 0,
  .int .i64 0] [(0, 1, .s 0), (1, 1, .s 1)])) (.cons (.va 7) (xld (.sl 6))))), .run (xst 1 (.sl 5) (.cv (.bool true)))]) .ret) .skip)) (R 40 [] [.run (xst 1 (.sl 6) (xb .add (xld
  (.sl 6)) (xi 1)))]))))))) (.seq (R 42 [4, 5] [.run (xst 2 (.sl 4) (.op (.p (.build [.int .i64 0, .int .i64 0] [])) .nil)), .run (xst 1 (.sl 5) (.cv (.bool false)))]) .ret))))
theorem fn_shut_unlike : (autoPrg Tryz.prog).fn 59 = some LF_shut_unlike := by kernel_rfl
def LF_guiseref10_Laid : LFunc :=
  .mk 2 [.tmp 4] (.seq (R 2 [1, 2] [.tmp 2 (xbl 2 8 (.sl 0)), .set 4 (.cv (.slice none 0 0))]) (.seq (R 14 [2, 5] [.set 5 (xc2 24 (xln 8 (.sl 2)) (.va 1))]) (.seq (R
  999 [2, 5, 6] [.set 6 (.cv (.slice none 0 0))]) (.seq (R 999 [2, 5, 6, 7] [.set 7 (xi (-1))]) (.seq (.seq (R 999 [2, 5, 6, 7, 8] [.set 8 (xi 0)]) (.block 0 (.loop (.seq (.seq (R
  17 [2, 5, 6, 7, 8, 20] [.tmp 20 (xb .lss (.va 8) (xlen (.va 5)))]) (.cond (.s 20) .skip (.exit 0))) (.seq (.block 1 (.seq (R 23 [2, 5, 6, 7, 8, 9] [.set 9 (xc2 50
  (xln 8 (.sl 2)) (xld (xia 1 (.va 5) (.va 8))))]) (.seq (.seq (R 29 [2, 5, 6, 7, 8, 9, 30] [.tmp 30 (xb .eql (.va 9) (xi 0))]) (.cond (.s 30) (.seq (R 31 [2, 5, 6, 7, 8] [.set 7
  (xlen (.va 6))]) (.seq (R 33 [2, 5, 6, 7, 8] [.set 6 (xap 1 4 (.va 6) (.op (.e (.litL 38 1 1 [.int .i32 0] [(0, 1, .s 0)])) (xld (xia 1 (.va 5) (.va 8)))))]) (.exit 1))) .skip))
  (.seq (R 40 [2, 5, 6, 7, 8, 9, 10] [.set 10 (xb .lss (.va 7) (xi 0))]) (.seq (.seq (R 42 [2, 5, 6, 7, 8, 10, 58] [.tmp 58 (.and (xb .gtr (xb .sub (xlen (.va 6)) (xi 1)) (.va 7))
  (xb .geq (xc2 50 (xln 8 (.sl 2)) (xld (xia 1 (.va 6) (xb .sub (xlen (.va 6)) (xi 1))))) (.va 9)))]) (.cond (.s 58) (R 999 [2, 5, 6, 7, 8, 10] [.set 10 (.cv (.bool
  true))]) .skip)) (.seq (R 999 [2, 5, 6, 7, 8, 10, 11] [.set 11 (.cv (.bool false))]) (.seq (.seq (R 59 [2, 5, 6, 7, 8, 11, 60] [.tmp 60 (xu .not (.va 10))]) (.cond (.s 60) (.seq
  (R 62 [2, 5, 6, 7, 8, 11, 12, 13] [.set 61 (xc3 87 (xln 8 (.sl 2)) (xld (xia 1 (.va 6) (.va 7))) (xld (xia 1 (.va 5) (.va 8)))), .tmp 72 (xex 0 (.sl 61)), .tmp
  73 (xex 1 (.sl 61)), .set 12 (.sl 72), .set 13 (.sl 73)]) (.seq (R 74 [2, 5, 6, 7, 8, 11, 12, 74] [.tmp 74 (.va 13)]) (.cond (.s 74) (.seq (R 75 [2, 5, 6, 7, 8] [.tmp 75 (.va 6),
  .tmp 76 (.va 7), .tmp 77 (.va 12), .run (xst 1 (xia 1 (.sl 75) (.sl 76)) (.sl 77))]) (R 999 [2, 5, 6, 7, 8, 11] [.set 11 (.cv (.bool true))])) .skip))) .skip)) (.seq (R 79 [2, 5,
  6, 7, 8, 80] [.tmp 80 (xu .not (.va 11))]) (.cond (.s 80) (R 81 [2, 5, 6, 7, 8] [.set 6 (xap 1 4 (.va 6) (.op (.e (.litL 86 1 1 [.int .i32 0] [(0, 1, .s 0)])) (xld (xia 1 (.va 5)
  (.va 8)))))]) .skip))))))))) (R 21 [2, 5, 6, 7, 8] [.set 8 (xb .add (.va 8) (xi 1))])))))) (.seq (R 88 [4] [.set 4 (.va 6)]) .ret))))))
theorem fn_guiseref10_Laid : (autoPrg Tryz.prog).fn 61 = some LF_guiseref10_Laid := by kernel_rfl
def LF_guiseref10_Shut : LFunc :=
  .mk 2 [.tmp 4] (.seq (R 2 [1, 2] [.tmp 2 (xbl 2 8 (.sl 0)), .set 4 (.cv (.string ⟨#[]⟩))]) (.seq (R 5 [4] [.set 4 (xc1 25 (xc2 61 (xln 8 (.sl 2))
  (.va 1)))]) .ret))
theorem fn_guiseref10_Shut : (autoPrg Tryz.prog).fn 40 = some LF_guiseref10_Shut := by kernel_rfl
def LF_guiseref10_Unlike : LFunc :=
  .mk 2 [.cell 4 (some 2), .tmp 5] (.seq (R 4 [0, 1, 4] [.tmp 4 (xnl 4 [.int .i64 0, .int .i64 0]), .set 5 (.cv (.bool false))]) (.seq (R 999 [0, 1, 4, 6] [.set 6 (xi 0)]) (.seq
  (.seq (R 10 [0, 1, 4, 6, 11] [.tmp 11 (.op (.e (.rngS 11 (.s 0))) (.va 0))]) (.block 0 (.loop (.seq (R 12 [0, 1, 4, 6, 11, 12, 13] [.tmp 12 (.op (.e (.nxtS (.s 0))) (.sl 11)),
  .tmp 13 (xex 0 (.sl 12))]) (.seq (.cond (.s 13) .skip (.exit 0)) (.block 1 (.seq (R 14 [0, 1, 4, 6, 7, 8, 11] [.tmp 14 (xex 1 (.sl 12)), .tmp 15 (xex 2 (.sl 12)), .set 7 (.sl 14),
  .set 8 (.sl 15)]) (.seq (.seq (R 16 [0, 1, 4, 6, 7, 8, 11, 18] [.tmp 18 (xc2 52 (.va 0) (.va 7))]) (.cond (.s 18) (.seq (R 19 [4, 5] [.run (xst 2 (.sl 4) (.op (.p
  (.build [.int .i64 0, .int .i64 0] [(0, 1, .s 0), (1, 1, .s 1)])) (.cons (.va 7) (.va 6)))), .set 5 (.cv (.bool true))]) .ret) .skip)) (.seq (R 22 [0, 1, 4, 6, 7, 9, 11] [.set 9
  (xsl (.op (.p (.i2s (.s 0))) (.va 8)))]) (.seq (.seq (R 25 [0, 1, 4, 6, 7, 11, 45] [.tmp 45 (.or (xb .lss (xsl (.va 1)) (xb .add (.va 7) (.va 9))) (xb .neq (.op (.p (.slS (.s 0)
  (some (.s 1)) (some (.s 2)))) (.cons (.va 1) (.cons (.va 7) (xb .add (.va 7) (.va 9))))) (.op (.p (.slS (.s 0) (some (.s 1)) (some (.s 2)))) (.cons (.va 0) (.cons (.va 7) (xb .add
  (.va 7) (.va 9)))))))]) (.cond (.s 45) (.seq (R 46 [4, 5] [.run (xst 2 (.sl 4) (.op (.p (.build [.int .i64 0, .int .i64 0] [(0, 1, .s 0), (1, 1, .s 1)])) (.cons (.va 7) (.va
  6)))), .set 5 (.cv (.bool true))]) .ret) .skip)) (R 49 [0, 1, 4, 6, 11] [.set 6 (xb .add (.va 6) (xi 1))]))))))))))) (.seq (R 51 [4, 5] [.run (xst 2 (.sl 4) (.op (.p (.build [.int
  .i64 0, .int .i64 0] [])) .nil)), .set 5 (.cv (.bool false))]) .ret))))
theorem fn_guiseref10_Unlike : (autoPrg Tryz.prog).fn 60 = some LF_guiseref10_Unlike := by kernel_rfl
def LF_guiseref10_First : LFunc :=
  .mk 2 [.cell 4 (some 2), .tmp 5] (.seq (R 2 [1, 2, 4] [.tmp 2 (xbl 2 8 (.sl 0)), .at 4, .tmp 4 (xnl 4 [.int .i64 0, .int .i64 0]), .set 5 (.cv (.bool false))]) (.seq (R 6 [4, 5]
  [.tmp 10 (xc2 60 (.va 1) (xc2 40 (xln 8 (.sl 2)) (.va 1))), .tmp 11 (xex 0 (.sl 10)), .tmp 12 (xex 1 (.sl 10)), .run (xst 2 (.sl 4) (.sl 11)),
  .set 5 (.sl 12)]) .ret))
theorem fn_guiseref10_First : (autoPrg Tryz.prog).fn 39 = some LF_guiseref10_First := by kernel_rfl
def LF_guiseref6_Joined : LFunc :=
  .mk 3 [.tmp 6, .tmp 7] (.seq (R 3 [1, 2, 3] [.tmp 3 (xbl 3 8 (.sl 0)), .set 6 (xr 0), .set 7 (.cv (.bool false))]) (.seq (.seq (R 999 [1, 2, 3, 8] [.set 8 (xi 0)]) (.block 0
  (.loop (.seq (.seq (R 9 [1, 2, 3, 8, 13] [.tmp 13 (xb .lss (.va 8) (xlen (xld (xfa 3 (.sl 3)))))]) (.cond (.s 13) .skip (.exit 0))) (.seq (.block 1 (.seq (R 16 [1, 2, 3, 8, 33]
  [.tmp 33 (.and (xb .eql (xld (xfa 1 (xia 3 (xld (xfa 3 (.sl 3))) (.va 8)))) (.va 1)) (xb .eql (xld (xfa 2 (xia 3 (xld (xfa 3 (.sl 3))) (.va 8)))) (.va 2)))]) (.cond (.s 33) (.seq
  (R 34 [6, 7] [.set 6 (xld (xfa 0 (xia 3 (xld (xfa 3 (.sl 3))) (.va 8)))), .set 7 (.cv (.bool true))]) .ret) .skip))) (R 14 [1, 2, 3, 8] [.set 8 (xb .add (.va 8) (xi 1))]))))))
  (.seq (R 999 [6, 7] [.set 6 (xr 0), .set 7 (.cv (.bool false))]) .ret)))
theorem fn_guiseref6_Joined : (autoPrg Tryz.prog).fn 87 = some LF_guiseref6_Joined := by kernel_rfl
end Go.Proofs.YtfiaggbgplmmeaaGreatDoor.AM
namespace Go.Proofs.YtfiaggbgplmmeaaGreatDoor.AM
open Go
def bdU (s t : ByteArray) (p : Nat) (x : Nat × Nat) : Prop := badP x ∨ t.size < p + x.2 ∨ s.extract p (p + x.2) ≠ t.extract p (p + x.2)
instance (s t : ByteArray) (p : Nat) (x : Nat × Nat) : Decidable (bdU s t p x) := by unfold bdU; infer_instance
def unlikeO (s t : ByteArray) : Option (Nat × Nat) := scanL (spots s.data.toList) fun i x => if bdU s t (posn s.data.toList i) x then some (posn s.data.toList i, i) else none
theorem unlike_spec {h : AH} (s t : ByteArray) (hs : s.size ≤ 1048576) (ht : t.size ≤ 100000000) : WpC PX 59 [.string s, .string t] h fun v h' => v = plV (unlikeO s t) ∧ Kp h h' := by
  have hz : s.data.toList.length = s.size := rfl
  have hn := spots_len s.data.toList
  have e1 := fun h => spotsMk_eq s h
  refine wpc_fn (px_ext rfl) (px_fn fn_shut_unlike) rfl ?_
  unfold LF_shut_unlike
  simp only [argFr]
  (refine W_x e1 ?_; (repeat' first | apply Cj.mk | exact Nl.nl) <;> intros)
  generalize hH0 : ((((((h.push (.cells false [.string s])).push (.cells false [.string t])).push (.cells false [.int .i64 0, .int .i64 0])).push (.cells false [.bool false])).push (.cells false [.int .i64 0])).set (h.n + 1 + 1 + 1 + 1) (.cells false [.int .i64 0])).push (.cells false [.string s]) = H0
  simp only [Nat.add_assoc, Nat.reduceAdd] at hH0 ⊢
  have n0 : H0.n = h.n + 6 := by rw [← hH0]; simp only [AH.push_n, AH.set_n]
  have a0 : H0.get h.n = some (.cells false [.string s]) := by rw [← hH0]; simp (disch := first | omega | (simp only [AH.nn_push, AH.nn_set, AH.nn_kill]; omega) | (simp only [AH.nn_push, AH.nn_set, AH.nn_kill]; done) | fail) only [AH.get_push_eq, AH.get_push_ne, AH.get_set_eq, AH.get_set_ne]
  have a1 : H0.get (h.n + 1) = some (.cells false [.string t]) := by rw [← hH0]; simp (disch := first | omega | (simp only [AH.nn_push, AH.nn_set, AH.nn_kill]; omega) | (simp only [AH.nn_push, AH.nn_set, AH.nn_kill]; done) | fail) only [AH.get_push_eq, AH.get_push_ne, AH.get_set_eq, AH.get_set_ne]
  have a2 : H0.get (h.n + 2) = some (.cells false [.int .i64 0, .int .i64 0]) := by rw [← hH0]; simp (disch := first | omega | (simp only [AH.nn_push, AH.nn_set, AH.nn_kill]; omega) | (simp only [AH.nn_push, AH.nn_set, AH.nn_kill]; done) | fail) only [AH.get_push_eq, AH.get_push_ne, AH.get_set_eq, AH.get_set_ne]
  have a3 : H0.get (h.n + 3) = some (.cells false [.bool false]) := by rw [← hH0]; simp (disch := first | omega | (simp only [AH.nn_push, AH.nn_set, AH.nn_kill]; omega) | (simp only [AH.nn_push, AH.nn_set, AH.nn_kill]; done) | fail) only [AH.get_push_eq, AH.get_push_ne, AH.get_set_eq, AH.get_set_ne]
  have a4 : H0.get (h.n + 4) = some (.cells false [.int .i64 0]) := by rw [← hH0]; simp (disch := first | omega | (simp only [AH.nn_push, AH.nn_set, AH.nn_kill]; omega) | (simp only [AH.nn_push, AH.nn_set, AH.nn_kill]; done) | fail) only [AH.get_push_eq, AH.get_push_ne, AH.get_set_eq, AH.get_set_ne]
  have a5 : H0.get (h.n + 5) = some (.cells false [.string s]) := by rw [← hH0]; simp (disch := first | omega | (simp only [AH.nn_push, AH.nn_set, AH.nn_kill]; omega) | (simp only [AH.nn_push, AH.nn_set, AH.nn_kill]; done) | fail) only [AH.get_push_eq, AH.get_push_ne, AH.get_set_eq, AH.get_set_ne]
  have ak : ∀ b, b < h.n → H0.get b = h.get b := fun b hb => by rw [← hH0]; simp (disch := first | omega | (simp only [AH.nn_push, AH.nn_set, AH.nn_kill]; omega) | (simp only [AH.nn_push, AH.nn_set, AH.nn_kill]; done) | fail) only [AH.get_push_eq, AH.get_push_ne, AH.get_set_eq, AH.get_set_ne]
  clear hH0
  refine wp_rangeP (xs := spotsL s.data.toList) (enc := spotE) (D := fun h1 => h1.get (h.n + 5) = some (.cells false [.string s])) rfl (spots_seq s (h.n + 5) (by omega)) (fun _ => rfl)
    (fun i h1 => (∀ b, b < h.n → h1.get b = h.get b) ∧ h.n + 6 ≤ h1.n ∧ h1.get h.n = some (.cells false [.string s]) ∧ h1.get (h.n + 1) = some (.cells false [.string t]) ∧ h1.get (h.n + 2) = some (.cells false [.int .i64 0, .int .i64 0]) ∧ h1.get (h.n + 3) = some (.cells false [.bool false]) ∧
      h1.get (h.n + 4) = some (.cells false [.int .i64 i]) ∧ h1.get (h.n + 5) = some (.cells false [.string s]) ∧ ∀ j (hj : j < (spots s.data.toList).length), j < i → ¬ bdU s t (posn s.data.toList j) (spots s.data.toList)[j])
    (fun ex h1 => ex = .ret ∧ (∀ b, b < h.n → h1.get b = h.get b) ∧ h.n + 6 ≤ h1.n ∧ ∃ a b : Nat, unlikeO s t = some (a, b) ∧ h1.get (h.n + 2) = some (.cells false [.int .i64 a, .int .i64 b]) ∧ h1.get (h.n + 3) = some (.cells false [.bool true]))
    (fun y => [(2, .pointer (some ⟨h.n, 0, none⟩)), (3, .pointer (some ⟨h.n + 1, 0, none⟩)), (4, .pointer (some ⟨h.n + 2, 0, none⟩)), (5, .pointer (some ⟨h.n + 3, 0, none⟩)), (6, .pointer (some ⟨h.n + 4, 0, none⟩)), (7, .int .i64 y.1), (8, .pointer (some ⟨16, 0, some 1⟩))])
    (fun y => [(16, .cells false [.int .i32 y.2.1, .int .i64 y.2.2, .bool (isBad2 y.2)])]) ?_ ?_ ?_ ?_ ?_ ?_ ?_ ?_
  · rw [n0]
    rintro i h1 h2 ⟨f0, fn, f1, f2, f3, f4, f5, f6, f7⟩ k
    exact ⟨fun b hb => by rw [k.get b (by omega)]; exact f0 b hb, by rw [k.n]; exact fn, by rw [k.get _ (by omega)]; exact f1, by rw [k.get _ (by omega)]; exact f2, by rw [k.get _ (by omega)]; exact f3, by rw [k.get _ (by omega)]; exact f4, by rw [k.get _ (by omega)]; exact f5, by rw [k.get _ (by omega)]; exact f6, f7⟩
  · rw [n0]
    rintro ex h1 h2 ⟨rfl, f0, fn, a, b, q, f1, f2⟩ k
    exact ⟨rfl, fun b hb => by rw [k.get b (by omega)]; exact f0 b hb, by rw [k.n]; exact fn, a, b, q, by rw [k.get _ (by omega)]; exact f1, by rw [k.get _ (by omega)]; exact f2⟩
  · exact fun i h1 f => f.2.2.2.2.2.2.2.1
  · intro y h1
    unfold spotE spotV
    simp only [List.zip_cons_cons, List.zip_nil_right, List.reverse_cons, List.reverse_nil, List.nil_append, List.cons_append, okFr_cons, okFr_nil, okV_eq, isLoc_ptr, isLoc_func, Bool.not_false, if_true]
    (refine W_x trivial ?_; (repeat' first | apply Cj.mk | exact Nl.nl) <;> intros)
    exact ⟨rfl, rfl, rfl, rfl⟩
  · intro o
    have k : ∀ b, b < h.n + 6 → (H0.push o).get b = H0.get b := fun b hb => AH.get_push_ne _ (by omega)
    exact ⟨fun b hb => (k b (by omega)).trans (ak b hb), by rw [AH.push_n, n0]; omega, (k _ (by omega)).trans a0, (k _ (by omega)).trans a1, (k _ (by omega)).trans a2, (k _ (by omega)).trans a3, (k _ (by omega)).trans a4, (k _ (by omega)).trans a5, fun j hj hlt => absurd hlt (by omega)⟩
  · rw [n0]
    rintro i hi h1 o ⟨f0, fn, f1, f2, f3, f4, f5, f6, f7⟩ ho
    have l4 := AH.get_lt ho
    have hil : i < (spots s.data.toList).length := by rw [← spotsL_len]; exact hi
    rw [spotsL_get hi]
    have hps := posn_lt hil
    have hpn := posn_succ hil
    have hpl := (spots_drop s.data.toList (i + 1) (by omega)).2
    have hhit : ∀ (_ : bdU s t (posn s.data.toList i) (spots s.data.toList)[i]), unlikeO s t = some (posn s.data.toList i, i) := fun hb => scanL_hit hil (fun j hj hlt => if_neg (f7 j hj hlt)) (if_pos hb)
    have hnx : ¬ bdU s t (posn s.data.toList i) (spots s.data.toList)[i] → ∀ j (hj : j < (spots s.data.toList).length), j < i + 1 → ¬ bdU s t (posn s.data.toList j) (spots s.data.toList)[j] := fun hb j hj hlt => by
      rcases Nat.lt_or_ge j i with q | q
      · exact f7 j hj q
      · obtain rfl : j = i := by omega
        exact hb
    generalize hx : (spots s.data.toList)[i] = x at *
    have hbi := isBad_iff x
    unfold bdU at hhit hnx
    generalize isBad2 x = ib at hbi
    dsimp only
    have hte : ((posn s.data.toList i : Int) + x.2).toNat = posn s.data.toList i + x.2 := by omega
    have hsl : (posn s.data.toList i : Int) + x.2 ≤ s.size := by omega
    have hret : (badP x ∨ t.size < posn s.data.toList i + x.2 ∨ s.extract (posn s.data.toList i) (posn s.data.toList i + x.2) ≠ t.extract (posn s.data.toList i) (posn s.data.toList i + x.2)) → ∀ (h2 : AH), h2 = (h1.set (h.n + 2) (.cells false [.int .i64 (posn s.data.toList i), .int .i64 i])).set (h.n + 3) (.cells false [.bool true]) → h2.get (h.n + 6) = some o ∧ (∀ b, b < h.n → h2.get b = h.get b) ∧ h.n + 6 ≤ h2.n ∧ ∃ a b : Nat, unlikeO s t = some (a, b) ∧ h2.get (h.n + 2) = some (.cells false [.int .i64 a, .int .i64 b]) ∧ h2.get (h.n + 3) = some (.cells false [.bool true]) := by
      rintro hb h2 rfl
      refine ⟨by rw [AH.get_set_ne _ (by omega), AH.get_set_ne _ (by omega)]; exact ho, fun b hb => by rw [AH.get_set_ne _ (by omega), AH.get_set_ne _ (by omega)]; exact f0 b hb, by rw [AH.set_n, AH.set_n]; exact fn, _, _, hhit hb, ?_, ?_⟩
      · rw [AH.get_set_ne _ (by omega), AH.get_set_same _ (by omega)]
      · exact AH.get_set_same _ (by rw [AH.set_n]; omega)
    have hnorm : ¬ (badP x ∨ t.size < posn s.data.toList i + x.2 ∨ s.extract (posn s.data.toList i) (posn s.data.toList i + x.2) ≠ t.extract (posn s.data.toList i) (posn s.data.toList i + x.2)) → ∀ (h2 : AH), h2 = h1.set (h.n + 4) (.cells false [.int .i64 ((i : Int) + 1)]) → h2.get (h.n + 6) = some o ∧ (∀ b, b < h.n → h2.get b = h.get b) ∧ h.n + 6 ≤ h2.n ∧ h2.get h.n = some (.cells false [.string s]) ∧ h2.get (h.n + 1) = some (.cells false [.string t]) ∧ h2.get (h.n + 2) = some (.cells false [.int .i64 0, .int .i64 0]) ∧ h2.get (h.n + 3) = some (.cells false [.bool false]) ∧
        h2.get (h.n + 4) = some (.cells false [.int .i64 ((i + 1 : Nat) : Int)]) ∧ h2.get (h.n + 5) = some (.cells false [.string s]) ∧ ∀ j (hj : j < (spots s.data.toList).length), j < i + 1 → ¬ bdU s t (posn s.data.toList j) (spots s.data.toList)[j] := by
      rintro hb h2 rfl
      refine ⟨by rw [AH.get_set_ne _ (by omega)]; exact ho, fun b hb => by rw [AH.get_set_ne _ (by omega)]; exact f0 b hb, by rw [AH.set_n]; exact fn, ?_, ?_, ?_, ?_, ?_, ?_, hnx hb⟩
      · rw [AH.get_set_ne _ (by omega)]; exact f1
      · rw [AH.get_set_ne _ (by omega)]; exact f2
      · rw [AH.get_set_ne _ (by omega)]; exact f3
      · rw [AH.get_set_ne _ (by omega)]; exact f4
      · exact AH.get_set_same _ (by omega)
      · rw [AH.get_set_ne _ (by omega)]; exact f6
    have hle : i < 1048576 := by omega
    cases ib with
    | true =>
      have hr := hret (.inl (hbi.1 rfl)) _ rfl
      (refine W_x (Aj f1 (Aj f2 (Aj f3 (Aj f4 (Aj f5 hte))))) ?_; (repeat' first | apply Cj.mk | exact Nl.nl) <;> intros)
      exact ⟨hr.1, rfl, hr.2⟩
    | false =>
      have hnb : ¬ badP x := fun q => by have := hbi.2 q; cases this
      by_cases c1 : t.size < posn s.data.toList i + x.2
      · have hr := hret (.inr (.inl c1)) _ rfl
        have c1' : (t.size : Int) < posn s.data.toList i + x.2 := by omega
        (refine W_x (Aj f1 (Aj f2 (Aj f3 (Aj f4 (Aj f5 (Aj hte c1')))))) ?_; (repeat' first | apply Cj.mk | exact Nl.nl) <;> intros)
        exact ⟨hr.1, rfl, hr.2⟩
      · have c1' : ¬ ((t.size : Int) < posn s.data.toList i + x.2) := by omega
        have c1'' : (posn s.data.toList i : Int) + x.2 ≤ t.size := by omega
        by_cases c2 : s.extract (posn s.data.toList i) (posn s.data.toList i + x.2) = t.extract (posn s.data.toList i) (posn s.data.toList i + x.2)
        · have hr := hnorm (by rintro (q | q | q); exact hnb q; exact c1 q; exact q c2) _ rfl
          (refine W_x (Aj f1 (Aj f2 (Aj f3 (Aj f4 (Aj f5 (Aj hte (Aj c1' (Aj c1'' (Aj hsl c2))))))))) ?_; (repeat' first | apply Cj.mk | exact Nl.nl) <;> intros)
          exact hr
        · have hr := hret (.inr (.inr c2)) _ rfl
          (refine W_x (Aj f1 (Aj f2 (Aj f3 (Aj f4 (Aj f5 (Aj hte (Aj c1' (Aj c1'' (Aj hsl c2))))))))) ?_; (repeat' first | apply Cj.mk | exact Nl.nl) <;> intros)
          exact ⟨hr.1, rfl, hr.2⟩
  · rintro h1 ⟨f0, fn, f1, f2, f3, f4, f5, f6, f7⟩
    rw [spotsL_len] at f7
    have hno : unlikeO s t = none := scanL_end fun j hj => if_neg (f7 j hj hj)
    rw [hno]
    (refine W_x (Aj f3 f4) ?_; (repeat' first | apply Cj.mk | exact Nl.nl) <;> intros)
    refine ⟨rfl, by rw [AH.set_n, AH.set_n]; omega, fun b hb => ?_⟩
    rw [AH.get_set_ne _ (by omega), AH.get_set_ne _ (by omega)]
    exact f0 b hb
  · rintro ex h1 hne ⟨rfl, f0, fn, a, b, q, f1, f2⟩
    rw [q]
    (refine W_x (Aj f1 f2) ?_; (repeat' first | apply Cj.mk | exact Nl.nl) <;> intros)
    exact ⟨rfl, by omega, f0⟩
end Go.Proofs.YtfiaggbgplmmeaaGreatDoor.AM
namespace Go.Proofs.YtfiaggbgplmmeaaGreatDoor.AM
open Go
theorem bad_at {l : Bytes} {i : Nat} (hil : i < (spots l).length) : badP (spots l)[i] ↔ ((spots l)[i]).1 = 65533 ∧ ¬ (3 ≤ l.length - posn l i ∧ (l.drop (posn l i)).take 3 = [239, 191, 189]) := by
  obtain ⟨p1, p2, p3⟩ := posn_lt hil
  have hdc := dec_cases p3
  have e3 : encN 65533 = [239, 191, 189] := by decide
  generalize hx : (spots l)[i] = x at *
  rw [← List.length_drop]
  generalize l.drop (posn l i) = m at *
  unfold badP
  rcases hdc with ⟨c, rest, hc, e1, e2⟩ | ⟨e1, e2⟩
  · rw [p2] at e2
    subst e2
    refine ⟨fun ⟨a, b⟩ => ?_, fun ⟨a, b⟩ => ?_⟩
    · simp only at a b
      subst a
      rw [encN_bad] at b
      cases b
    · simp only at a
      subst a
      exfalso
      apply b
      rw [e1, e3]
      simp
  · rw [p2] at e1
    subst e1
    refine ⟨fun _ => ⟨rfl, fun ⟨a, b⟩ => ?_⟩, fun _ => ⟨rfl, rfl⟩⟩
    refine e2 65533 (m.drop 3) rune_bad ?_
    rw [e3, ← b, List.take_append_drop]
theorem bad_eq (s : ByteArray) (hs : s.size ≤ 1048576) {i : Nat} (hil : i < (spots s.data.toList).length) (h : AH) : callO PX 52 [.string s, .int .i64 (posn s.data.toList i)] h = some (.bool (decide (badP (spots s.data.toList)[i])), h) := by
  have hz : s.data.toList.length = s.size := rfl
  obtain ⟨p1, p2, p3⟩ := posn_lt hil
  have hb := bad_at hil
  have hpl : ((posn s.data.toList i : Nat) : Int) ≤ (s.size : Int) := by omega
  have hd := (spots_drop s.data.toList i (by omega)).1
  obtain ⟨z, hze⟩ : ∃ z, z = s.extract (posn s.data.toList i) s.size := ⟨_, rfl⟩
  have hzl : z.data.toList = s.data.toList.drop (posn s.data.toList i) := by
    rw [hze, ba_extract _ _ _ (Nat.le_refl _), ← hz, ← List.length_drop, List.take_length]
  have h0 : 0 < (spots z.data.toList).length := by rw [hzl, hd, List.length_drop]; omega
  have hx0 : (spots z.data.toList)[0] = (spots s.data.toList)[i] := by simp only [hzl, hd, List.getElem_drop, Nat.add_zero]
  apply WpC.eqn
  refine wpc_fn (px_ext rfl) (px_fn fn_guiseref8_Bad) rfl ?_
  unfold LF_guiseref8_Bad
  simp only [argFr]
  (refine W_x (Aj @ev_rngS (Aj hpl hze.symm)) ?_; (repeat' first | apply Cj.mk | exact Nl.nl) <;> intros)
  refine wp_spotsG (fun _ => [(0, .string s), (1, .int .i64 (posn s.data.toList i)), (10, .pointer (some ⟨20, 0, some 1⟩))]) 20 z z.data.toList (fun j h' => j = 0 ∧ h' = h)
    (fun _ _ => (none : Option Unit)) rfl (by repeat' first | exact True.intro | refine And.intro rfl ?_) (fun _ => rfl) (by intro n; simp only [setL, push_cast, Nat.reduceEqDiff, ↓reduceIte, reduceCtorEq, Nat.reduceAdd, Nat.reduceMul, Nat.reduceLeDiff]; rfl) rfl ⟨rfl, rfl⟩ (fun j hj h1 hh hit => ?_) fun h1 hh fin => ?_
  · obtain ⟨rfl, rfl⟩ := hh
    (refine W_x trivial ?_; (repeat' first | apply Cj.mk | exact Nl.nl) <;> intros)
    refine wo_next rfl rfl hj ?_
    rw [hx0]
    have hq : posn s.data.toList i + 3 ≤ s.size → (s.extract (posn s.data.toList i) (posn s.data.toList i + 3) = ⟨#[239, 191, 189]⟩ ↔ (s.data.toList.drop (posn s.data.toList i)).take 3 = [239, 191, 189]) := fun h3 => by
      have e : (s.extract (posn s.data.toList i) (posn s.data.toList i + 3)).data.toList = (s.data.toList.drop (posn s.data.toList i)).take 3 := by
        rw [ba_extract _ _ _ (by omega)]
        congr 1
        omega
      rw [← e]
      exact ⟨fun q => by rw [q], fun q => ba_ext q⟩
    rw [hz] at hb
    generalize hx : (spots s.data.toList)[i] = x at *
    generalize posn s.data.toList i = p at *
    have ht : ((p : Int) + 3).toNat = p + 3 := by omega
    by_cases c1 : x.1 = 65533
    · have c1' : (x.1 : Int) = 65533 := by omega
      by_cases c2 : 3 ≤ s.size - p
      · have c3 : (p : Int) + 3 ≤ s.size := by omega
        have hq := hq (by omega)
        by_cases c4 : (s.data.toList.drop p).take 3 = [239, 191, 189]
        · have hd := decide_eq_false (show ¬ badP x from fun q => (hb.1 q).2 ⟨c2, c4⟩)
          have c5 := hq.2 c4
          rw [hd]
          (refine W_x (Aj c1' (Aj c3 (Aj ht c5))) ?_; (repeat' first | apply Cj.mk | exact Nl.nl) <;> intros)
          exact ⟨rfl, rfl⟩
        · have hd := decide_eq_true (show badP x from hb.2 ⟨c1, fun q => c4 q.2⟩)
          have c5 : ¬ s.extract p (p + 3) = ⟨#[239, 191, 189]⟩ := fun q => c4 (hq.1 q)
          rw [hd]
          (refine W_x (Aj c1' (Aj c3 (Aj ht c5))) ?_; (repeat' first | apply Cj.mk | exact Nl.nl) <;> intros)
          exact ⟨rfl, rfl⟩
      · have hd := decide_eq_true (show badP x from hb.2 ⟨c1, fun q => c2 q.1⟩)
        rw [hd]
        (refine W_x c1' ?_; (repeat' first | apply Cj.mk | exact Nl.nl) <;> intros)
        exact ⟨rfl, rfl⟩
    · have hd := decide_eq_false (show ¬ badP x from fun q => c1 (hb.1 q).1)
      have c1' : ¬ (x.1 : Int) = 65533 := by omega
      rw [hd]
      (refine W_x c1' ?_; (repeat' first | apply Cj.mk | exact Nl.nl) <;> intros)
      exact ⟨rfl, rfl⟩
  · exact absurd hh.1 (by omega)
end Go.Proofs.YtfiaggbgplmmeaaGreatDoor.AM
namespace Go.Proofs.YtfiaggbgplmmeaaGreatDoor.AM
open Go
def LFfew : LFunc :=
  .mk 2 [.tmp 4] (.seq (R 999 [0, 1] [.set 4 (.cv (.string ⟨#[]⟩))]) (.seq (.seq (R 5 [0, 1, 8] [.tmp 8 (xb .gtr (xsl (.va 0)) (.va 1))]) (.cond (.s 8) (.seq (R 9 [4] [.set 4 (.op
  (.p (.slS (.s 0) none (some (.s 1)))) (.cons (.va 0) (.va 1)))]) .ret) .skip)) (.seq (R 12 [4] [.set 4 (.va 0)]) .ret)))
theorem fewG_eq {f : FuncId} (hf : PX.fn f = some LFfew) (hx : PX.ext f = none) (s : ByteArray) (hs : s.size ≤ 1048576) {m : Int} (n : Nat) (hm : m = n) (hn : n ≤ 1048576) (h : AH) : callO PX f [.string s, .int .i64 m] h = some (.string (fewB s n), h) := by
  subst hm
  apply WpC.eqn
  refine wpc_fn hx hf rfl ?_
  unfold LFfew
  simp only [argFr]
  unfold fewB
  (refine W_x trivial ?_; (repeat' first | apply Cj.mk | exact Nl.nl) <;> intros)
  · rw [if_pos (by omega)]
    exact ⟨rfl, rfl⟩
  · rw [if_neg (by omega)]
    exact ⟨rfl, rfl⟩
end Go.Proofs.YtfiaggbgplmmeaaGreatDoor.AM
namespace Go.Proofs.YtfiaggbgplmmeaaGreatDoor.AM
open Go
end Go.Proofs.YtfiaggbgplmmeaaGreatDoor.AM
namespace Go.Proofs.YtfiaggbgplmmeaaGreatDoor.AM
open Go
theorem FOwn.older {h0 h1 h : AH} {e : Nat} {s : Sl} {xss : List (List Value)} (f : FOwn h1 h e s xss) (k : Kp h0 h1) : FOwn h0 h e s xss := ⟨f.own, k.trans f.kp, fun b hb => Nat.le_trans k.1 (f.new b hb)⟩
theorem ref9Open_spec {h : AH} {S : TS} {T : Tab} (gd : goodB T = true) (t : TabAt h S T) (s : ByteArray) (hs : s.size ≤ 1048576) : WpC PX 24 [.agg S.vs.toArray, .string s] h fun v h' => ∃ sl, v = sl.val 1 ∧ FOwn h h' 1 sl ((openL T (runesB s.data.toList)).map rnV) := by
  have hz : s.data.toList.length = s.size := rfl
  have hn := spots_len s.data.toList
  have hrl := runesB_len s.data.toList
  have hrr := runesB_rune s.data.toList
  refine wpc_fn (px_ext rfl) (px_fn fn_guiseref9_Open) rfl ?_
  unfold LF_guiseref9_Open
  simp only [argFr]
  unfold TS.vs
  (refine W_x @ev_rngS ?_; (repeat' first | apply Cj.mk | exact Nl.nl) <;> intros)
  refine wp_spotsS (fun i sl => [(2, .pointer (some ⟨4, 0, some 1⟩)), (5, sl.val 1), (9, .pointer (some ⟨18, 0, some 1⟩))]) (fun n _ => [(4, .cells false [S.s0.val 2, S.s1.val 2, S.s2.val 2, S.s3.val 3, S.s4.val 2, S.s5.val 2, S.s6.val 2, S.s7.val 2]), (18, .siter s n)]) s s.data.toList (fun i sl h' => FOwn h h' 1 sl ((openF T ((runesB s.data.toList).take i)).map rnV)) (fun _ _ => (none : Option Unit)) Sl.nil rfl (by repeat' first | exact True.intro | refine And.intro rfl ?_) (fun _ _ => rfl) rfl (by simpa [openF] using FOwn.nil (Kp.refl h))
    (fun i hi sl h1 fo hit => ?_) fun sl h1 fo fin => ?_
  · (refine W_x trivial ?_; (repeat' first | apply Cj.mk | exact Nl.nl) <;> intros)
    refine wo_next rfl rfl hi ?_
    have hi2 : i < (runesB s.data.toList).length := by omega
    have hx := runesB_get hi
    have hr := hrr _ (List.getElem_mem hi2)
    have hsn := openF_snoc (T := T) hi2
    have hle := openF_take_len gd hrr i
    rw [hx] at hr hsn
    generalize (spots s.data.toList)[i] = x at hr hsn
    obtain ⟨_, g, e, s2, rfl, f2⟩ := refRune_spec gd (t.kp fo.kp) (x.1 : Nat)
    rw [rI_rnV gd hr] at f2
    obtain ⟨b0, ms, q1, _, _, _, q5, _⟩ := opN_facts gd hr
    unfold TS.vs at e
    (refine W_x e ?_; (repeat' first | apply Cj.mk | exact Nl.nl) <;> intros)
    refine wo_appL (fo.later f2.kp) f2.reads (by decide) (by decide) (by rw [List.length_map, List.length_map, q1, List.length_cons]; omega) fun s3 h3 f3 => ?_
    (refine W_x trivial ?_; (repeat' first | apply Cj.mk | exact Nl.nl) <;> intros)
    refine ⟨rfl, s3, (by repeat' first | exact True.intro | refine And.intro rfl ?_), rfl, ?_⟩
    rw [hsn, List.map_append]
    exact f3
  · (refine W_x trivial ?_; (repeat' first | apply Cj.mk | exact Nl.nl) <;> intros)
    refine wo_nextE rfl rfl ?_
    rw [← hrl, List.take_length] at fo
    have hl := openF_len gd hrr
    obtain ⟨_, g2, e2, s2, rfl, f2⟩ := ref8Sorted_spec (t.kp fo.kp) fo.reads (by omega)
    unfold TS.vs at e2
    (refine W_x e2 ?_; (repeat' first | apply Cj.mk | exact Nl.nl) <;> intros)
    refine ⟨s2, rfl, ?_⟩
    exact f2.older fo.kp
end Go.Proofs.YtfiaggbgplmmeaaGreatDoor.AM
namespace Go.Proofs.YtfiaggbgplmmeaaGreatDoor.AM
open Go
theorem joined6_eq {S : TS} {T : Tab} {h : AH} (t : TabAt h S T) (b m : Int) : callO PX 87 [.agg S.vs.toArray, .int .i32 b, .int .i32 m] h = some (.tuple (List.toArray [.int .i32 ((joinO T b m).getD 0), .bool (joinO T b m).isSome]), h) := by
  have rd := t.r3
  have hn := t.fits.n3
  have hs := rd.len
  apply WpC.eqn
  refine wpc_fn (px_ext rfl) (px_fn fn_guiseref6_Joined) rfl ?_
  unfold LF_guiseref6_Joined
  simp only [argFr]
  unfold joinO TS.vs
  (refine W_x trivial ?_; (repeat' first | apply Cj.mk | exact Nl.nl) <;> intros)
  refine wp_scanF 8 T.pairs (fun _ x => if x.2.1 = b ∧ x.2.2 = m then some x.1 else none) (by intro n; simp only [setF, push_cast, Nat.reduceEqDiff, ↓reduceIte, reduceCtorEq, Nat.reduceAdd, Nat.reduceMul, Nat.reduceLeDiff]; rfl) rfl (fun i hi hit => ?_) fun fin => ?_
  · have g0 := fun lc => rd_mapc (lc := lc) rd hi (k := 0) (by decide)
    have g1 := fun lc => rd_mapc (lc := lc) rd hi (k := 1) (by decide)
    have g2 := fun lc => rd_mapc (lc := lc) rd hi (k := 2) (by decide)
    generalize T.pairs[i] = x at hit g0 g1 g2
    unfold tripV at g0 g1 g2
    by_cases c1 : x.2.1 = b
    · by_cases c2 : x.2.2 = m
      · (refine W_x (Aj hs (Aj g0 (Aj g1 (Aj g2 (Aj c1 c2))))) ?_; (repeat' first | apply Cj.mk | exact Nl.nl) <;> intros)
        rw [hit _ (if_pos ⟨c1, c2⟩)]; exact ⟨rfl, rfl⟩
      · (refine W_x (Aj hs (Aj g0 (Aj g1 (Aj g2 (Aj c1 c2))))) ?_; (repeat' first | apply Cj.mk | exact Nl.nl) <;> intros)
        exact ⟨if_neg fun q => c2 q.2, rfl, rfl, rfl⟩
    · (refine W_x (Aj hs (Aj g0 (Aj g1 (Aj g2 c1)))) ?_; (repeat' first | apply Cj.mk | exact Nl.nl) <;> intros)
      exact ⟨if_neg fun q => c1 q.1, rfl, rfl, rfl⟩
  · rw [fin]
    (refine W_x hs ?_; (repeat' first | apply Cj.mk | exact Nl.nl) <;> intros)
    exact ⟨rfl, rfl⟩
set_option maxHeartbeats 1000000 in
theorem laid10_spec {h : AH} {S : TS} {T : Tab} (gd : goodB T = true) (t : TabAt h S T) (s : ByteArray) (hs : s.size ≤ 1048576) : WpC PX 61 [.agg S.vs.toArray, .string s] h fun v h' => ∃ sl, v = sl.val 1 ∧ FOwn h h' 1 sl ((laid T (openL T (runesB s.data.toList))).map rnV) := by
  have hz : s.data.toList.length = s.size := rfl
  have hn := spots_len s.data.toList
  have hrl := runesB_len s.data.toList
  have hrr := runesB_rune s.data.toList
  obtain ⟨_, g1, e1, si, rfl, f1⟩ := ref9Open_spec gd t s hs
  have hol := openF_len gd hrr
  have hPr := openL_all gd hrr
  have hlay : ∀ i, LayOk T ((openL T (runesB s.data.toList)).take i) (layL T ((openL T (runesB s.data.toList)).take i)) := fun i => lay_ok gd (ordered_init (Q := (openL T (runesB s.data.toList)).drop i) (by rw [List.take_append_drop]; exact ord_ordered _)) fun x hx => (hPr x (List.mem_of_mem_take hx)).symm
  have hP : (openL T (runesB s.data.toList)).length ≤ 6291456 := by unfold openL; rw [ord_length]; omega
  unfold laid at *
  generalize openL T (runesB s.data.toList) = P at *
  have sil := f1.own.1
  rw [List.length_map] at sil
  unfold TS.vs at *
  refine wpc_fn (px_ext rfl) (px_fn fn_guiseref10_Laid) rfl ?_
  unfold LF_guiseref10_Laid
  simp only [argFr]
  (refine W_x e1 ?_; (repeat' first | apply Cj.mk | exact Nl.nl) <;> intros)
  refine wp_forS (fun i sl => [(2, .pointer (some ⟨4, 0, some 1⟩)), (5, si.val 1), (6, sl.val 1), (7, .int .i64 (seatI (layL T (P.take i)))), (8, .int .i64 i)]) (fun _ _ => [(4, .cells false [S.s0.val 2, S.s1.val 2, S.s2.val 2, S.s3.val 3, S.s4.val 2, S.s5.val 2, S.s6.val 2, S.s7.val 2])]) P (fun i sl h' => FOwn g1 h' 1 sl ((layL T (P.take i)).out.map rnV)) (fun _ _ => (none : Option Unit)) Sl.nil rfl rfl (FOwn.nil (Kp.refl g1))
    (fun i hi sl h1 fo hit => ?_) fun sl h1 fo fin => ?_
  · have gi := fun lc => rd_map (lc := lc) (f1.reads.kp fo.kp) hi
    have hsn := layL_snoc (T := T) hi
    have hrc := (hPr _ (List.getElem_mem hi)).1
    have ok := hlay i
    have hlen := ok.len
    rw [List.length_take] at hlen
    unfold rnV at gi
    generalize P[i] = c at hsn hrc gi
    generalize layL T (P.take i) = st at hsn ok fo hlen ⊢
    rw [hsn]
    have sll := fo.own.1
    rw [List.length_map] at sll
    have ec := class6_eq ((t.kp f1.kp).kp fo.kp)
    unfold TS.vs at ec
    have e2 := ec (c : Nat)
    rw [show classI T (c : Nat) = clT T c from rfl] at e2
    have hcn : 0 ≤ clT T c := (class_range gd _).1
    by_cases h0 : clT T c = 0
    · have hst : layS T st c = ⟨st.out, some c, []⟩ := by unfold layS; rw [if_pos h0]
      rw [hst]
      (refine W_x (Aj sil (Aj gi (Aj e2 sll))) ?_; (repeat' first | apply Cj.mk | exact Nl.nl) <;> intros)
      refine wo_app1 (cs := rnV c) fo rfl rfl (by decide) (by decide) (by rw [List.length_map]; omega) fun s2 h2 f2 => ?_
      (refine W_x trivial ?_; (repeat' first | apply Cj.mk | exact Nl.nl) <;> intros)
      exact ⟨rfl, s2, rfl, rfl, by simpa [Lay.out] using f2⟩
    · have hc0 : 0 < clT T c := by omega
      have happ : ∀ (s2 : Sl) (h2 : AH), FOwn g1 h2 1 s2 (st.out.map rnV ++ [rnV c]) → FOwn g1 h2 1 s2 ((Lay.out ⟨st.pre, st.seat, st.beh ++ [c]⟩).map rnV) := fun s2 h2 f => by
        have : Lay.out ⟨st.pre, st.seat, st.beh ++ [c]⟩ = st.out ++ [c] := by simp [Lay.out]
        rw [this, List.map_append]
        exact f
      have hx1 : ((st.out.length : Int) - 1).toNat = st.out.length - 1 := by omega
      cases hseat : st.seat with
      | none =>
        have hsI : seatI st = -1 := by unfold seatI; rw [hseat]
        have hst : layS T st c = ⟨st.pre, st.seat, st.beh ++ [c]⟩ := by unfold layS; rw [if_neg h0, hseat]
        have hsI2 : seatI ⟨st.pre, st.seat, st.beh ++ [c]⟩ = -1 := by unfold seatI; simp only [hseat]
        rw [hst, hsI, hsI2]
        rcases Nat.eq_zero_or_pos st.out.length with hz0 | hz0
        · (refine W_x (Aj sil (Aj gi (Aj e2 (Aj sll hz0)))) ?_; (repeat' first | apply Cj.mk | exact Nl.nl) <;> intros)
          refine wo_app1 (cs := rnV c) fo rfl rfl (by decide) (by decide) (by rw [List.length_map]; omega) fun s2 h2 f2 => ?_
          (refine W_x trivial ?_; (repeat' first | apply Cj.mk | exact Nl.nl) <;> intros)
          exact ⟨rfl, s2, rfl, rfl, happ _ _ f2⟩
        · have gz := fun lc => rd_map (lc := lc) fo.reads (show st.out.length - 1 < st.out.length by omega)
          generalize st.out[st.out.length - 1] = z at gz
          have ez := ec (z : Nat)
          rw [show classI T (z : Nat) = clT T z from rfl] at ez
          unfold rnV at gz
          by_cases cz : clT T c ≤ clT T z
          all_goals
            (refine W_x (Aj sil (Aj gi (Aj e2 (Aj sll (Aj hx1 (Aj gz ez)))))) ?_; (repeat' first | apply Cj.mk | exact Nl.nl) <;> intros)
            refine wo_app1 (cs := rnV c) fo rfl rfl (by decide) (by decide) (by rw [List.length_map]; omega) fun s2 h2 f2 => ?_
            (refine W_x trivial ?_; (repeat' first | apply Cj.mk | exact Nl.nl) <;> intros)
            exact ⟨rfl, s2, rfl, rfl, happ _ _ f2⟩
      | some b =>
        have hsI : seatI st = st.pre.length := by unfold seatI; rw [hseat]
        have hout : st.out = st.pre ++ b :: st.beh := by simp [Lay.out, hseat]
        have hol2 : st.out.length = st.pre.length + 1 + st.beh.length := by rw [hout]; simp; omega
        have hi3 : st.pre.length < st.out.length := by omega
        have gb := fun lc => rd_map (lc := lc) fo.reads hi3
        have hgb : st.out[st.pre.length] = b := by simp [hout]
        rw [hgb] at gb
        have hrb : RuneN b := ok.run b (by rw [hout]; simp)
        have ej := joined6_eq ((t.kp f1.kp).kp fo.kp) (b : Nat) (c : Nat)
        unfold TS.vs at ej
        have hplain : layS T st c = ⟨st.pre, st.seat, st.beh ++ [c]⟩ → seatI (layS T st c) = st.pre.length := fun e => by rw [e]; unfold seatI; simp only [hseat]
        have hbl : (st.beh = [] ∧ ¬ blocks T st.beh c) ∨ ∃ z, (∀ lc, Mem.rd ⟨lc, h1⟩ (sl.adr 1 (st.out.length - 1)) 1 = some (rnV z)) ∧ 0 < st.beh.length ∧ (blocks T st.beh c ↔ clT T c ≤ clT T z) := by
          rcases Nat.eq_zero_or_pos st.beh.length with hz0 | hz0
          · have : st.beh = [] := List.eq_nil_of_length_eq_zero hz0
            exact .inl ⟨this, by rw [this]; simp [blocks]⟩
          · have hlt2 : st.out.length - 1 < st.out.length := by omega
            refine .inr ⟨st.out[st.out.length - 1], fun lc => rd_map (lc := lc) fo.reads hlt2, hz0, ?_⟩
            have hgl : st.beh.getLast? = some st.out[st.out.length - 1] := by
              rw [← List.getElem?_eq_getElem hlt2, ← List.getLast?_eq_getElem?, hout, List.getLast?_append, List.getLast?_cons]
              have : st.beh ≠ [] := fun e => by rw [e] at hz0; cases hz0
              rw [List.getLast?_eq_some_getLast this]
              simp
            unfold blocks
            rw [hgl]
            simp
        unfold rnV at gb
        by_cases hB : blocks T st.beh c
        · have hst : layS T st c = ⟨st.pre, st.seat, st.beh ++ [c]⟩ := by unfold layS; rw [if_neg h0, hseat]; simp only; rw [if_pos hB]
          have hs2 := hplain hst
          rcases hbl with ⟨_, q⟩ | ⟨z, q1, q2, q3⟩
          · exact absurd hB q
          · have q4 := q3.1 hB
            have e5 := ec (z : Nat)
            rw [show classI T (z : Nat) = clT T z from rfl] at e5
            unfold rnV at q1
            rw [hs2, hst, hsI]
            (refine W_x (Aj sil (Aj gi (Aj e2 (Aj sll (Aj hx1 (Aj q1 e5)))))) ?_; (repeat' first | apply Cj.mk | exact Nl.nl) <;> intros)
            refine wo_app1 (cs := rnV c) fo rfl rfl (by decide) (by decide) (by rw [List.length_map]; omega) fun s2 h2 f2 => ?_
            (refine W_x trivial ?_; (repeat' first | apply Cj.mk | exact Nl.nl) <;> intros)
            exact ⟨rfl, s2, rfl, rfl, happ _ _ f2⟩
        · cases hj : joinO T b c with
          | none =>
            have hst : layS T st c = ⟨st.pre, st.seat, st.beh ++ [c]⟩ := by
              unfold layS; rw [if_neg h0, hseat]; simp only; rw [if_neg hB]
              unfold joinN; rw [hj]; rfl
            have hs2 := hplain hst
            rw [hj] at ej
            simp only [Option.getD_none, Option.isSome_none] at ej
            rw [hs2, hst, hsI]
            rcases hbl with ⟨q, _⟩ | ⟨z, q1, q2, q3⟩
            · rw [q, List.length_nil] at hol2
              (refine W_x (Aj sil (Aj gi (Aj e2 (Aj sll (Aj gb ej))))) ?_; (repeat' first | apply Cj.mk | exact Nl.nl) <;> intros)
              refine wo_app1 (cs := rnV c) fo rfl rfl (by decide) (by decide) (by rw [List.length_map]; omega) fun s2 h2 f2 => ?_
              (refine W_x trivial ?_; (repeat' first | apply Cj.mk | exact Nl.nl) <;> intros)
              exact ⟨rfl, s2, rfl, rfl, happ _ _ f2⟩
            · have q4 : ¬ clT T c ≤ clT T z := fun q => hB (q3.2 q)
              have e5 := ec (z : Nat)
              rw [show classI T (z : Nat) = clT T z from rfl] at e5
              unfold rnV at q1
              (refine W_x (Aj sil (Aj gi (Aj e2 (Aj sll (Aj hx1 (Aj q1 (Aj e5 (Aj gb ej)))))))) ?_; (repeat' first | apply Cj.mk | exact Nl.nl) <;> intros)
              refine wo_app1 (cs := rnV c) fo rfl rfl (by decide) (by decide) (by rw [List.length_map]; omega) fun s2 h2 f2 => ?_
              (refine W_x trivial ?_; (repeat' first | apply Cj.mk | exact Nl.nl) <;> intros)
              exact ⟨rfl, s2, rfl, rfl, happ _ _ f2⟩
          | some w =>
            have hw0 := (rune_iff.1 (good_pairs gd _ (join_mem hj)).2.2.2.1).1
            simp only at hw0
            have hwn : ((w.toNat : Nat) : Int) = w := by omega
            have hst : layS T st c = ⟨st.pre, some w.toNat, st.beh⟩ := by
              unfold layS; rw [if_neg h0, hseat]; simp only; rw [if_neg hB]
              unfold joinN; rw [hj]; rfl
            have hs2 : seatI ⟨st.pre, some w.toNat, st.beh⟩ = st.pre.length := rfl
            rw [hj] at ej
            simp only [Option.getD_some, Option.isSome_some] at ej
            rw [hst, hs2, hsI]
            obtain ⟨h2, hw1, f2⟩ := fo.set (i := st.pre.length) (by rw [List.length_map]; exact hi3) (vs := rnV w.toNat) rfl
            have hset : (st.out.map rnV).set st.pre.length (rnV w.toNat) = (Lay.out ⟨st.pre, some w.toNat, st.beh⟩).map rnV := by
              rw [← List.map_set, hout]
              simp [Lay.out]
            rw [hset] at f2
            unfold rnV at hw1
            rw [hwn] at hw1
            rcases hbl with ⟨q, _⟩ | ⟨z, q1, q2, q3⟩
            · rw [q, List.length_nil] at hol2
              (refine W_x (Aj sil (Aj gi (Aj e2 (Aj sll (Aj gb (Aj ej hw1)))))) ?_; (repeat' first | apply Cj.mk | exact Nl.nl) <;> intros)
              exact ⟨rfl, sl, rfl, rfl, f2⟩
            · have q4 : ¬ clT T c ≤ clT T z := fun q => hB (q3.2 q)
              have e5 := ec (z : Nat)
              rw [show classI T (z : Nat) = clT T z from rfl] at e5
              unfold rnV at q1
              (refine W_x (Aj sil (Aj gi (Aj e2 (Aj sll (Aj hx1 (Aj q1 (Aj e5 (Aj gb (Aj ej hw1))))))))) ?_; (repeat' first | apply Cj.mk | exact Nl.nl) <;> intros)
              exact ⟨rfl, sl, rfl, rfl, f2⟩
  · (refine W_x sil ?_; (repeat' first | apply Cj.mk | exact Nl.nl) <;> intros)
    rw [List.take_length] at fo
    exact ⟨sl, rfl, fo.older f1.kp⟩
end Go.Proofs.YtfiaggbgplmmeaaGreatDoor.AM
namespace Go.Proofs.YtfiaggbgplmmeaaGreatDoor.AM
open Go
theorem house10_spec (h : AH) : WpC PX 34 [] h fun v h' => ∃ S, v = .agg S.vs.toArray ∧ TabAt h' S houseT ∧ Kp h h' := by
  obtain ⟨_, g, e, S, rfl, t, k⟩ := house_spec h
  unfold TS.vs at e
  refine wpc_fn (px_ext rfl) (px_fn fn_guiselaw10_house) rfl ?_
  unfold LF_guiselaw10_house
  simp only [argFr]
  (refine W_x e ?_; (repeat' first | apply Cj.mk | exact Nl.nl) <;> intros)
  exact ⟨S, rfl, t, k⟩
theorem few10_eq (s : ByteArray) (hs : s.size ≤ 1048576) {m : Int} (n : Nat) (hm : m = n) (hn : n ≤ 1048576) (h : AH) : callO PX 38 [.string s, .int .i64 m] h = some (.string (fewB s n), h) := fewG_eq (px_fn (by kernel_rfl)) (px_ext rfl) s hs n hm hn h
set_option maxRecDepth 100000 in
theorem known10_a : shutB houseT [101, 204, 130, 204, 129] = [225, 186, 191] := by decide +kernel
set_option maxRecDepth 100000 in
theorem known10_b : shutB houseT [101, 204, 129, 204, 163] = [225, 186, 185, 204, 129] := by decide +kernel
set_option maxRecDepth 100000 in
theorem known10_c : shutB houseT [101, 204, 129, 204, 129] = [195, 169, 204, 129] := by decide +kernel
theorem known10_spec {h : AH} (u : U8T h) (hg : 2 ≤ h.n) : WpC PX 37 [] h fun v h' => v = .bool true ∧ Kp h h' := by
  obtain ⟨_, g, e, S, rfl, t, k⟩ := house10_spec h
  obtain ⟨_, g1, e1, k1, kk, B, S1, rfl, bk, _, _⟩ := of_house t (u.kp k) (Nat.le_trans hg k.1)
  obtain ⟨_, g2, e2, rfl, k2⟩ := shutShut_spec house_good bk.bk ⟨#[101, 204, 130, 204, 129]⟩ (by decide)
  obtain ⟨_, g3, e3, rfl, k3⟩ := shutShut_spec house_good (bk.kp k2).bk ⟨#[101, 204, 129, 204, 163]⟩ (by decide)
  obtain ⟨_, g4, e4, rfl, k4⟩ := shutShut_spec house_good ((bk.kp k2).kp k3).bk ⟨#[101, 204, 129, 204, 129]⟩ (by decide)
  have q2 : bs (shutB houseT [101, 204, 130, 204, 129]) = ⟨#[225, 186, 191]⟩ := by rw [known10_a]; rfl
  have q3 : bs (shutB houseT [101, 204, 129, 204, 163]) = ⟨#[225, 186, 185, 204, 129]⟩ := by rw [known10_b]; rfl
  have q4 : bs (shutB houseT [101, 204, 129, 204, 129]) = ⟨#[195, 169, 204, 129]⟩ := by rw [known10_c]; rfl
  simp only [q2] at e2
  simp only [q3] at e3
  simp only [q4] at e4
  unfold TS.vs at *
  refine wpc_fn (px_ext rfl) (px_fn fn_guiselaw10_known) rfl ?_
  unfold LF_guiselaw10_known
  simp only [argFr]
  (refine W_x (Aj e (Aj e1 (Aj e2 (Aj e3 e4)))) ?_; (repeat' first | apply Cj.mk | exact Nl.nl) <;> intros)
  exact ⟨rfl, (((k.trans k1).trans k2).trans k3).trans k4⟩
end Go.Proofs.YtfiaggbgplmmeaaGreatDoor.AM
namespace Go.Proofs.YtfiaggbgplmmeaaGreatDoor.AM
open Go
end Go.Proofs.YtfiaggbgplmmeaaGreatDoor.AM
namespace Go.Proofs.YtfiaggbgplmmeaaGreatDoor.AM
open Go
end Go.Proofs.YtfiaggbgplmmeaaGreatDoor.AM
namespace Go.Proofs.YtfiaggbgplmmeaaGreatDoor.AM
open Go
end Go.Proofs.YtfiaggbgplmmeaaGreatDoor.AM
namespace Go.Proofs.YtfiaggbgplmmeaaGreatDoor.AM
open Go
end Go.Proofs.YtfiaggbgplmmeaaGreatDoor.AM
namespace Go.Proofs.YtfiaggbgplmmeaaGreatDoor.AM
open Go
end Go.Proofs.YtfiaggbgplmmeaaGreatDoor.AM
namespace Go.Proofs.YtfiaggbgplmmeaaGreatDoor.AM
open Go
theorem shutFirst_spec {h : AH} {k B : Nat} {s6 : Sl} {T : Tab} (gd : goodB T = true) (bk : BkAt h k B s6 T) (s : ByteArray) (hs : s.size ≤ 1048576) : WpC PX 36 [.pointer (some ⟨k, 0, none⟩), .string s] h fun v h' => v = plV (unlikeO s (bs (shutB T s.data.toList))) ∧ Kp h h' := by
  have hz : s.data.toList.length = s.size := rfl
  have hn := spots_len s.data.toList
  have hrl := runesB_len s.data.toList
  have hol := openF_len gd (runesB_rune s.data.toList)
  have hF := shut_facts gd s.data.toList
  have hno : (openL T (runesB s.data.toList)).length = (openF T (runesB s.data.toList)).length := by unfold openL; rw [ord_length]
  have hen := encs_lenle (laid T (openL T (runesB s.data.toList)))
  obtain ⟨_, g1, e1, rfl, k1⟩ := shutShut_spec gd bk s hs
  obtain ⟨_, g2, e2, rfl, k2⟩ := unlike_spec (h := g1) s (bs (shutB T s.data.toList)) hs (by rw [bs_size]; unfold shutB; omega)
  refine wpc_fn (px_ext rfl) (px_fn fn_shut_First) rfl ?_
  unfold LF_shut_First
  simp only [argFr]
  cases hu : unlikeO s (bs (shutB T s.data.toList)) with
  | none =>
    rw [hu] at e2
    simp only [plV] at e2 ⊢
    (refine W_x (Aj e1 e2) ?_; (repeat' first | apply Cj.mk | exact Nl.nl) <;> intros)
    exact ⟨rfl, k1.trans k2⟩
  | some p =>
    obtain ⟨a, b⟩ := p
    rw [hu] at e2
    simp only [plV] at e2 ⊢
    (refine W_x (Aj e1 e2) ?_; (repeat' first | apply Cj.mk | exact Nl.nl) <;> intros)
    exact ⟨rfl, k1.trans k2⟩
end Go.Proofs.YtfiaggbgplmmeaaGreatDoor.AM
namespace Go.Proofs.YtfiaggbgplmmeaaGreatDoor.AM
open Go
def LF_guiselaw10_ShutShuts : LFunc :=
  .mk 2 [.tmp 4] (.seq (R 2 [1, 2] [.tmp 2 (xbl 2 8 (.sl 0)), .set 4 (.cv (.bool false))]) (.seq (R 13 [1, 2, 5, 6, 7] [.set 12 (xc1 12 (xln 8 (.sl 2))), .tmp 15 (xex
  0 (.sl 12)), .tmp 16 (xex 1 (.sl 12)), .tmp 17 (xex 2 (.sl 12)), .set 5 (.sl 15), .set 6 (.sl 16), .set 7 (.sl 17)]) (.seq (.seq (R 18 [1, 2, 5, 7, 19] [.tmp 19 (xu .not (.va
  6))]) (.cond (.s 19) (.seq (R 20 [4] [.set 4 (.and (.va 7) (xc0 37))]) .ret) .skip)) (.seq (R 24 [1, 2, 5] [.set 1 (xc2 38 (.va 1) (xi 2000))])
  (.seq (R 27 [1, 2, 5, 8, 9] [.set 26 (xc2 36 (.va 5) (.va 1)), .tmp 30 (xex 0 (.sl 26)), .tmp 31 (xex 1 (.sl 26)), .at 8, .tmp 8 (xnl 8 [.int .i64 0, .int .i64 0]),
  .run (xst 2 (.sl 8) (.sl 30)), .tmp 9 (.va 31)]) (.seq (R 33 [1, 2, 5, 8, 9, 10, 11] [.set 32 (xc2 39 (xln 8 (.sl 2)) (.va 1)), .tmp 36 (xex 0 (.sl 32)), .tmp 37
  (xex 1 (.sl 32)), .at 10, .tmp 10 (xnl 10 [.int .i64 0, .int .i64 0]), .run (xst 2 (.sl 10) (.sl 36)), .tmp 11 (.va 37)]) (.seq (.region [.mk (some 38) (.p (.mv (.s 5))) none, .mk
  (some 39) (.p (.mv (.s 1))) none, .mk (some 40) (.e (.call 35 [.s 38, .s 39])) none, .mk (some 41) (.r (.load (some 8) (.s 2))) none, .mk (some 42) (.p (.mv (.s 1)))
  none, .mk (some 43) (.e (.call 40 [.s 41, .s 42])) none, .mk (some 44) (.p (.bin .eql (.s 40) (.s 43))) none, .mk (some 45) (.p (.mv (.s 44))) none, .mk (some 46)
  (.r (.load (some 2) (.s 8))) (some (45, true)), .mk (some 47) (.r (.load (some 2) (.s 10))) (some (45, true)), .mk (some 48) (.p (.eqA false [.int, .int] (.s 46) (.s 47))) (some
  (45, true)), .mk (some 49) (.p (.pick (.s 45) (.s 48) (.c (.bool false)))) none, .mk (some 50) (.p (.mv (.s 49))) none, .mk (some 51) (.p (.mv (.s 9))) (some (50, true)), .mk
  (some 52) (.p (.mv (.s 11))) (some (50, true)), .mk (some 53) (.p (.eqk false .bool (.s 51) (.s 52))) (some (50, true)), .mk (some 54) (.p (.pick (.s 50) (.s 53) (.c (.bool
  false)))) none, .mk (some 55) (.p (.mv (.s 54))) none, .mk (some 56) (.e (.call 37 [])) (some (55, true)), .mk (some 57) (.p (.pick (.s 55) (.s 56) (.c (.bool
  false)))) none, .mk (some 4) (.p (.mv (.s 57))) none] [4] [(3, 0)]) .ret)))))))
theorem fn_guiselaw10_ShutShuts : (autoPrg Tryz.prog).fn 9 = some LF_guiselaw10_ShutShuts := by kernel_rfl
end Go.Proofs.YtfiaggbgplmmeaaGreatDoor.AM
namespace Go.Proofs.YtfiaggbgplmmeaaGreatDoor.AM
open Go
theorem good_len {l : Bytes} {i : Nat} (hil : i < (spots l).length) (hb : ¬ badP (spots l)[i]) : RuneN ((spots l)[i]).1 ∧ (encN ((spots l)[i]).1).length = ((spots l)[i]).2 := by
  obtain ⟨p1, p2, p3⟩ := posn_lt hil
  rcases dec_cases p3 with ⟨c, rest, hc, e1, e2⟩ | ⟨e1, e2⟩
  · rw [p2] at e2
    rw [e2]
    exact ⟨hc, rfl⟩
  · rw [p2] at e1
    rw [e1] at hb
    exact absurd ⟨rfl, rfl⟩ hb
theorem refUnlike_eq (s t : ByteArray) (hs : s.size ≤ 1048576) (ht : t.size ≤ 100000000) (h : AH) : callO PX 60 [.string s, .string t] h = some (plV (unlikeO s t), h) := by
  have hz : s.data.toList.length = s.size := rfl
  have hn := spots_len s.data.toList
  apply WpC.eqn
  refine wpc_fn (px_ext rfl) (px_fn fn_guiseref10_Unlike) rfl ?_
  unfold LF_guiseref10_Unlike
  simp only [argFr]
  (refine W_x @ev_rngS ?_; (repeat' first | apply Cj.mk | exact Nl.nl) <;> intros)
  refine wp_spotsG (fun i => [(0, .string s), (1, .string t), (4, .pointer (some ⟨8, 0, some 1⟩)), (6, .int .i64 i), (11, .pointer (some ⟨22, 0, some 1⟩))]) 22 s s.data.toList (fun _ h' => h' = h)
    (fun i x => if bdU s t (posn s.data.toList i) x then some (posn s.data.toList i, i) else none) rfl (by repeat' first | exact True.intro | refine And.intro rfl ?_) (fun _ => rfl) (by intro n; simp only [setL, push_cast, Nat.reduceEqDiff, ↓reduceIte, reduceCtorEq, Nat.reduceAdd, Nat.reduceMul, Nat.reduceLeDiff]; rfl) rfl rfl (fun i hi h1 hh hit => ?_) fun h1 hh fin => ?_
  · subst hh
    (refine W_x trivial ?_; (repeat' first | apply Cj.mk | exact Nl.nl) <;> intros)
    refine wo_next rfl rfl hi ?_
    have hps := posn_lt hi
    have hpn := posn_succ hi
    have hpl := (spots_drop s.data.toList (i + 1) (by omega)).2
    have hgd := good_len hi
    have eb := bad_eq s hs hi h1
    have hle : i < 1048576 := by omega
    unfold unlikeO
    generalize (spots s.data.toList)[i] = x at *
    by_cases hb : badP x
    · rw [decide_eq_true hb] at eb
      rw [hit _ (if_pos (.inl hb))]
      (refine W_x eb ?_; (repeat' first | apply Cj.mk | exact Nl.nl) <;> intros)
      exact ⟨rfl, rfl⟩
    · rw [decide_eq_false hb] at eb
      obtain ⟨hru, hgl⟩ := hgd hb
      have hsz : (Utf8.encode (x.1 : Int)).size = x.2 := by rw [ba_size, encode_eq hru, hgl]
      have hte : ((posn s.data.toList i : Int) + x.2).toNat = posn s.data.toList i + x.2 := by omega
      have hsl : (posn s.data.toList i : Int) + x.2 ≤ s.size := by omega
      by_cases c1 : t.size < posn s.data.toList i + x.2
      · rw [hit _ (if_pos (.inr (.inl c1)))]
        have c1' : (t.size : Int) < posn s.data.toList i + x.2 := by omega
        (refine W_x (Aj eb (Aj hsz (Aj hte c1'))) ?_; (repeat' first | apply Cj.mk | exact Nl.nl) <;> intros)
        exact ⟨rfl, rfl⟩
      · have c1' : ¬ ((t.size : Int) < posn s.data.toList i + x.2) := by omega
        have c1'' : (posn s.data.toList i : Int) + x.2 ≤ t.size := by omega
        by_cases c2 : s.extract (posn s.data.toList i) (posn s.data.toList i + x.2) = t.extract (posn s.data.toList i) (posn s.data.toList i + x.2)
        · have hno : ¬ bdU s t (posn s.data.toList i) x := by
            rintro (q | q | q)
            · exact hb q
            · exact c1 q
            · exact q c2
          (refine W_x (Aj eb (Aj hsz (Aj hte (Aj c1' (Aj c1'' (Aj hsl c2)))))) ?_; (repeat' first | apply Cj.mk | exact Nl.nl) <;> intros)
          exact ⟨if_neg hno, (by repeat' first | exact True.intro | refine And.intro rfl ?_), rfl, rfl⟩
        · rw [hit _ (if_pos (.inr (.inr c2)))]
          have c2' : ¬ t.extract (posn s.data.toList i) (posn s.data.toList i + x.2) = s.extract (posn s.data.toList i) (posn s.data.toList i + x.2) := fun q => c2 q.symm
          (refine W_x (Aj eb (Aj hsz (Aj hte (Aj c1' (Aj c1'' (Aj hsl (Aj c2 c2'))))))) ?_; (repeat' first | apply Cj.mk | exact Nl.nl) <;> intros)
          exact ⟨rfl, rfl⟩
  · subst hh
    (refine W_x trivial ?_; (repeat' first | apply Cj.mk | exact Nl.nl) <;> intros)
    refine wo_nextE rfl rfl ?_
    (refine W_x trivial ?_; (repeat' first | apply Cj.mk | exact Nl.nl) <;> intros)
    have : unlikeO s t = none := fin
    rw [this]
    exact ⟨rfl, rfl⟩
theorem ref10Shut_spec {h : AH} {S : TS} {T : Tab} (gd : goodB T = true) (t : TabAt h S T) (s : ByteArray) (hs : s.size ≤ 1048576) : WpC PX 40 [.agg S.vs.toArray, .string s] h fun v h' => v = .string (bs (shutB T s.data.toList)) ∧ Kp h h' := by
  have hz : s.data.toList.length = s.size := rfl
  have hn := spots_len s.data.toList
  have hrl := runesB_len s.data.toList
  have hol := openF_len gd (runesB_rune s.data.toList)
  have hF := shut_facts gd s.data.toList
  have hno : (openL T (runesB s.data.toList)).length = (openF T (runesB s.data.toList)).length := by unfold openL; rw [ord_length]
  obtain ⟨_, g1, e1, sl, rfl, f1⟩ := laid10_spec gd t s hs
  obtain ⟨_, g2, e2, rfl, k2⟩ := ref8Text_spec f1.reads hF.2.1 (by omega)
  unfold TS.vs at *
  refine wpc_fn (px_ext rfl) (px_fn fn_guiseref10_Shut) rfl ?_
  unfold LF_guiseref10_Shut
  simp only [argFr]
  (refine W_x (Aj e1 e2) ?_; (repeat' first | apply Cj.mk | exact Nl.nl) <;> intros)
  exact ⟨rfl, f1.kp.trans k2⟩
theorem ref10First_spec {h : AH} {S : TS} {T : Tab} (gd : goodB T = true) (t : TabAt h S T) (s : ByteArray) (hs : s.size ≤ 1048576) : WpC PX 39 [.agg S.vs.toArray, .string s] h fun v h' => v = plV (unlikeO s (bs (shutB T s.data.toList))) ∧ Kp h h' := by
  have hz : s.data.toList.length = s.size := rfl
  have hn := spots_len s.data.toList
  have hrl := runesB_len s.data.toList
  have hol := openF_len gd (runesB_rune s.data.toList)
  have hF := shut_facts gd s.data.toList
  have hno : (openL T (runesB s.data.toList)).length = (openF T (runesB s.data.toList)).length := by unfold openL; rw [ord_length]
  have hen := encs_lenle (laid T (openL T (runesB s.data.toList)))
  obtain ⟨_, g1, e1, rfl, k1⟩ := ref10Shut_spec gd t s hs
  have e2 := refUnlike_eq s (bs (shutB T s.data.toList)) hs (by rw [bs_size]; unfold shutB; omega) g1
  unfold TS.vs at *
  refine wpc_fn (px_ext rfl) (px_fn fn_guiseref10_First) rfl ?_
  unfold LF_guiseref10_First
  simp only [argFr]
  cases hu : unlikeO s (bs (shutB T s.data.toList)) with
  | none =>
    rw [hu] at e2
    simp only [plV] at e2 ⊢
    (refine W_x (Aj e1 e2) ?_; (repeat' first | apply Cj.mk | exact Nl.nl) <;> intros)
    exact ⟨rfl, k1⟩
  | some p =>
    obtain ⟨a, b⟩ := p
    rw [hu] at e2
    simp only [plV] at e2 ⊢
    (refine W_x (Aj e1 e2) ?_; (repeat' first | apply Cj.mk | exact Nl.nl) <;> intros)
    exact ⟨rfl, k1⟩
theorem shutShuts_run {h : AH} (u : U8T h) (hg : 2 ≤ h.n) {S : TS} {T : Tab} (t : TabAt h S T) (x : ByteArray) (hx : x.size ≤ 1048576) :
    WpC PX 9 [.agg S.vs.toArray, .string x] h fun v _ => v = .bool true := by
  obtain ⟨_, g1, e1, k1, q⟩ := of_spec t u hg
  by_cases hb : goodB T = true
  · rw [if_pos hb] at q
    obtain ⟨k, B, S1, rfl, bk, _, _⟩ := q
    have e2 := few10_eq x hx (m := 2000) 2000 rfl (by decide) g1
    have fx := few_le x 2000
    generalize fewB x 2000 = a at e2 fx
    obtain ⟨_, g2, e3, rfl, k2⟩ := shutFirst_spec hb bk.bk a (by omega)
    have t2 := (t.kp k1).kp k2
    obtain ⟨_, g3, e4, rfl, k3⟩ := ref10First_spec hb t2 a (by omega)
    obtain ⟨_, g4, e5, rfl, k4⟩ := shutShut_spec hb ((bk.kp k2).kp k3).bk a (by omega)
    obtain ⟨_, g5, e6, rfl, k5⟩ := ref10Shut_spec hb ((t2.kp k3).kp k4) a (by omega)
    have kk := (((k1.trans k2).trans k3).trans k4).trans k5
    obtain ⟨_, g6, e7, rfl, k6⟩ := known10_spec (u.kp kk) (Nat.le_trans hg kk.1)
    generalize bs (shutB T a.data.toList) = o at *
    unfold TS.vs at *
    refine wpc_fn (px_ext rfl) (px_fn fn_guiselaw10_ShutShuts) rfl ?_
    unfold LF_guiselaw10_ShutShuts
    simp only [argFr]
    cases hf : unlikeO a o with
    | none =>
      rw [hf] at e3 e4
      simp only [plV] at e3 e4
      (refine W_y (Aj e1 (Aj e2 (Aj e3 (Aj e4 (Aj e5 (Aj e6 e7)))))) ?_; (repeat' first | apply Cj.mk | exact Nl.nl) <;> intros)
      rfl
    | some p =>
      rw [hf] at e3 e4
      obtain ⟨a1, b1⟩ := p
      simp only [plV] at e3 e4
      (refine W_y (Aj e1 (Aj e2 (Aj e3 (Aj e4 (Aj e5 (Aj e6 e7)))))) ?_; (repeat' first | apply Cj.mk | exact Nl.nl) <;> intros)
      rfl
  · rw [if_neg hb] at q
    subst q
    obtain ⟨_, g4, e7, rfl, k4⟩ := known10_spec (u.kp k1) (Nat.le_trans hg k1.1)
    unfold TS.vs at *
    refine wpc_fn (px_ext rfl) (px_fn fn_guiselaw10_ShutShuts) rfl ?_
    unfold LF_guiselaw10_ShutShuts
    simp only [argFr]
    (refine W_x (Aj e1 e7) ?_; (repeat' first | apply Cj.mk | exact Nl.nl) <;> intros)
    rfl
end Go.Proofs.YtfiaggbgplmmeaaGreatDoor.AM
