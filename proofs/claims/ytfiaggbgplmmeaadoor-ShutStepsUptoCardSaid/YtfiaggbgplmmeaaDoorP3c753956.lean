/- Parts of proofs: lemmas, joined. -/
import Derived.Test.YtfiaggbgplmmeaaDoorP8f643940
set_option linter.unusedVariables false
set_option linter.unusedSimpArgs false
set_option linter.unusedSectionVars false
namespace Go.Proofs.YtfiaggbgplmmeaaDoor.AM
open Go
def joinN (T : Tab) (b m : Nat) : Option Nat := (joinO T b m).map Int.toNat
structure Lay where
  pre : List Nat
  seat : Option Nat
  beh : List Nat
def Lay.out (s : Lay) : List Nat := s.pre ++ s.seat.toList ++ s.beh
def blocks (T : Tab) (K : List Nat) (c : Nat) : Prop := ∃ k, K.getLast? = some k ∧ clT T c ≤ clT T k
instance (T : Tab) (K : List Nat) (c : Nat) : Decidable (blocks T K c) := by
  unfold blocks
  cases K.getLast? with
  | none => exact .isFalse (by simp)
  | some k => exact if h : clT T c ≤ clT T k then .isTrue ⟨k, rfl, h⟩ else .isFalse (by rintro ⟨k', e, h'⟩; injection e with e; subst e; exact h h')
def layS (T : Tab) (s : Lay) (c : Nat) : Lay :=
  if clT T c = 0 then ⟨s.out, some c, []⟩
  else match s.seat with
    | none => ⟨s.pre, none, s.beh ++ [c]⟩
    | some b => if blocks T s.beh c then ⟨s.pre, some b, s.beh ++ [c]⟩ else
      match joinN T b c with
      | some w => ⟨s.pre, some w, s.beh⟩
      | none => ⟨s.pre, some b, s.beh ++ [c]⟩
def layL (T : Tab) (B : List Nat) : Lay := B.foldl (layS T) ⟨[], none, []⟩
def laid (T : Tab) (B : List Nat) : List Nat := (layL T B).out
theorem join_mem {T : Tab} {b m w : Int} (h : joinO T b m = some w) : (w, b, m) ∈ T.pairs := by
  obtain ⟨i, hi, e⟩ := scanL_some h
  split at e
  · rename_i q
    injection e with e
    have : T.pairs[i] = (w, b, m) := Prod.ext e (Prod.ext q.1 q.2)
    rw [← this]
    exact List.getElem_mem hi
  · cases e
theorem pairs_once {T : Tab} (h : goodB T = true) {i j : Nat} (hi : i < T.pairs.length) (hj : j < T.pairs.length) (e : (T.pairs[i]).1 = (T.pairs[j]).1) : i = j := by
  have hf := (checkW_none (good_check h)).2.2.1
  unfold twiceW at hf
  simp only [Option.or_eq_none_iff] at hf
  have key : ∀ {i j : Nat} (hi : i < T.pairs.length) (hj : j < T.pairs.length), (T.pairs[i]).1 = (T.pairs[j]).1 → ¬ i < j := fun {i j} hi hj e hlt => by
    have := scanL_none hf.2.2.1 j hj
    rw [if_pos ⟨T.pairs[i], List.mem_take_iff_getElem.2 ⟨i, by omega, rfl⟩, .inl e.symm⟩] at this
    cases this
  have h1 := key hi hj e
  have h2 := key hj hi e.symm
  omega
theorem pair_of_mem {T : Tab} (h : goodB T = true) {w b m : Int} (hm : (w, b, m) ∈ T.pairs) : pairI T w = some (b, m) := by
  obtain ⟨i, hi, e⟩ := List.mem_iff_getElem.1 hm
  unfold pairI
  cases hw : wholeO T w with
  | none => exact absurd (by rw [e]) (whole_none hw _ (List.getElem_mem hi))
  | some j =>
    obtain ⟨hj, e2⟩ := whole_mem hw
    have : i = j := pairs_once h hi hj (by rw [e, e2])
    subst this
    simp [List.getD_eq_getElem?_getD, List.getElem?_eq_getElem hi, e]
theorem join_opN {T : Tab} (h : goodB T = true) {b m w : Nat} (hb : RuneN b) (hj : joinN T b m = some w) : RuneN w ∧ clT T w = 0 ∧ opN T w = opN T b ++ [m] := by
  unfold joinN at hj
  obtain ⟨v, hv, e⟩ := Option.map_eq_some_iff.1 hj
  have hm := join_mem hv
  obtain ⟨g1, g2, g3, g4, g5, g6⟩ := good_pairs h _ hm
  simp only at g1 g2 g3 g4 g5 g6
  have hr := rune_iff.1 g4
  have hvw : (w : Int) = v := by omega
  have hp := pair_of_mem h hm
  refine ⟨by rw [← e]; exact hr.2, ?_, ?_⟩
  · show classI T (w : Int) = 0
    have := class_range h (w : Int)
    have hn : ¬ 0 < classI T (w : Int) := fun q => by rw [class_mark h, hvw, g1] at q; cases q
    omega
  · unfold opN
    have h1 := op_all h (w : Int)
    rw [hvw] at h1 ⊢
    have h2 : Op T v (opI T 5 (b : Int) ++ [(m : Int)]) := .more hp (op_all h _)
    rw [h1.eq h2, List.map_append]
    simp
theorem ord_push {cl : Nat → Int} {X : List Nat} {c : Nat} (h : ∀ a, (ord cl X).getLast? = some a → ¬ (0 < cl c ∧ cl c < cl a)) : ord cl (X ++ [c]) = ord cl X ++ [c] := by
  rw [ord_snoc]
  have e : insR cl (ord cl X).reverse c = c :: (ord cl X).reverse := by
    cases hr : (ord cl X).reverse with
    | nil => rfl
    | cons a t =>
      simp only [insR]
      rw [if_neg (h a (by rw [← List.head?_reverse, hr]; rfl))]
  rw [e]
  simp
theorem ord_past {cl : Nat → Int} {c : Nat} : ∀ (K p : List Nat), (∀ k ∈ K, 0 < cl k ∧ cl k < cl c) → ord cl (p ++ c :: K) = ord cl (p ++ K ++ [c])
  | [], p, _ => by simp
  | k :: K, p, h => by
    have hk := h k (by simp)
    rw [ord_swap hk.1 hk.2 p K]
    have := ord_past K (p ++ [k]) fun x hx => h x (by simp [hx])
    simpa using this
structure LayOk (T : Tab) (P : List Nat) (s : Lay) : Prop where
  run : ∀ x ∈ s.out, RuneN x
  beh : ∀ x ∈ s.beh, 0 < clT T x
  len : s.out.length ≤ P.length
  up : s.beh.Pairwise fun a c => clT T a ≤ clT T c
  le : ∀ x ∈ s.beh, ∀ c, P.getLast? = some c → clT T x ≤ clT T c
  cs : (s.seat = none ∧ s.pre = [] ∧ s.beh = P) ∨ ∃ b P0 P1, s.seat = some b ∧ clT T b = 0 ∧ P = P0 ++ P1 ∧ P1 ≠ [] ∧ openL T s.pre = P0 ∧ ord (clT T) (opN T b ++ s.beh) = P1
theorem ordered_last {cl : Nat → Int} : ∀ {P : List Nat} {c : Nat}, Ordered cl (P ++ [c]) → ∀ a, P.getLast? = some a → ¬ (0 < cl c ∧ cl c < cl a)
  | [a], c, h, x, hx => by simp at hx; subst hx; exact h.1
  | a :: b :: P, c, h, x, hx => ordered_last (P := b :: P) h.2 x (by rw [List.getLast?_cons_cons] at hx; exact hx)
theorem ordered_init {cl : Nat → Int} : ∀ {P Q : List Nat}, Ordered cl (P ++ Q) → Ordered cl P
  | [], _, _ => trivial
  | [a], _, _ => trivial
  | a :: b :: P, Q, h => ⟨h.1, ordered_init (P := b :: P) h.2⟩
theorem lay_step {T : Tab} (h : goodB T = true) {P : List Nat} {c : Nat} {s : Lay} (ho : Ordered (clT T) (P ++ [c])) (hop : ∀ x ∈ P ++ [c], isOp T x) (hrn : RuneN c) (k : LayOk T P s) : LayOk T (P ++ [c]) (layS T s c) := by
  have hoc := hop c (by simp)
  have hlast := ordered_last ho
  have h0c : 0 ≤ clT T c := (class_range h _).1
  unfold layS
  by_cases h0 : clT T c = 0
  · rw [if_pos h0]
    refine ⟨fun x hx => ?_, by simp, ?_, by simp, by simp, .inr ⟨c, P, [c], rfl, h0, rfl, by simp, ?_, ?_⟩⟩
    · simp only [Lay.out, Option.toList_some, List.append_nil] at hx
      rcases List.mem_append.1 hx with hx | hx
      · exact k.run x hx
      · rw [List.mem_singleton.1 hx]; exact hrn
    · have := k.len
      simp only [Lay.out, Option.toList_some, List.append_nil, List.length_append, List.length_singleton] at this ⊢
      omega
    · rcases k.cs with ⟨e1, e2, e3⟩ | ⟨b, P0, P1, e1, e2, e3, e4, e5, e6⟩
      · show openL T (s.pre ++ s.seat.toList ++ s.beh) = P
        rw [e1, e2, e3]
        exact openL_open (fun x hx => hop x (by simpa using .inl hx)) (by simpa using ordered_init ho)
      · show openL T (s.pre ++ s.seat.toList ++ s.beh) = P
        have hrb : RuneN b := k.run b (by simp [Lay.out, e1])
        obtain ⟨a, ms, q1, q2, _⟩ := opN_facts h hrb
        have hbeh : openF T s.beh = s.beh := openF_open fun x hx => mark_whole h ((class_mark h _).1 (k.beh x hx))
        unfold openL
        rw [openF_append, openF_append, e1, hbeh]
        have hb : openF T (some b).toList = opN T b := by simp [openF]
        rw [hb, List.append_assoc, ord_append (.inr (.inr (.inr ⟨a, ms ++ s.beh, by rw [q1]; rfl, by omega⟩))), e6, e3]
        congr 1
    · have : opN T c ++ [] = [c] := by rw [List.append_nil]; exact opN_open hoc
      rw [this]
      exact ord_of_ordered (l := [c]) trivial
  · rw [if_neg h0]
    have hc : 0 < clT T c := by omega
    rcases k.cs with ⟨e1, e2, e3⟩ | ⟨b, P0, P1, e1, e2, e3, e4, e5, e6⟩
    · rw [e1]
      simp only
      have hbl : ∀ x ∈ s.beh, clT T x ≤ clT T c := fun x hx => by
        have hne : P ≠ [] := fun q => by rw [e3, q] at hx; cases hx
        have hl := k.le x hx _ (List.getLast?_eq_some_getLast hne)
        have := hlast _ (List.getLast?_eq_some_getLast hne)
        omega
      refine ⟨fun x hx => ?_, fun x hx => ?_, ?_, ?_, fun x hx d hd => ?_, .inl ⟨rfl, e2, by rw [e3]⟩⟩
      · simp only [Lay.out, Option.toList_none, List.append_nil] at hx
        rcases List.mem_append.1 hx with hx | hx
        · exact k.run x (by simp [Lay.out, hx])
        · rcases List.mem_append.1 hx with hx | hx
          · exact k.run x (by simp [Lay.out, hx])
          · rw [List.mem_singleton.1 hx]; exact hrn
      · rcases List.mem_append.1 hx with hx | hx
        · exact k.beh x hx
        · rw [List.mem_singleton.1 hx]; exact hc
      · simp only [Lay.out, e2, e3, Option.toList_none, List.append_nil, List.nil_append, List.length_append, List.length_singleton]
        omega
      · refine List.pairwise_append.2 ⟨k.up, by simp, fun x hx d hd => ?_⟩
        rw [List.mem_singleton.1 hd]
        exact hbl x hx
      · rw [List.getLast?_concat] at hd
        injection hd with hd
        subst hd
        rcases List.mem_append.1 hx with hx | hx
        · exact hbl x hx
        · rw [List.mem_singleton.1 hx]; exact Int.le_refl _
    · rw [e1]
      simp only
      have hrb : RuneN b := k.run b (by simp [Lay.out, e1])
      have hPl : P.getLast? = P1.getLast? := by
        rw [e3, List.getLast?_append]
        cases hg : P1.getLast? with
        | none => exact absurd (List.getLast?_eq_none_iff.1 hg) e4
        | some a => simp
      have hbl : ∀ x ∈ s.beh, clT T x ≤ clT T c := fun x hx => by
        have hne : P ≠ [] := fun q => by rw [e3] at q; exact e4 (List.append_eq_nil_iff.1 q).2
        have hl := k.le x hx _ (List.getLast?_eq_some_getLast hne)
        have := hlast _ (List.getLast?_eq_some_getLast hne)
        omega
      have hpush : ∀ X, ord (clT T) X = P1 → ord (clT T) (X ++ [c]) = P1 ++ [c] := fun X e => by
        rw [ord_push fun a ha => hlast a (by rw [hPl, ← e]; exact ha), e]
      have plain : LayOk T (P ++ [c]) ⟨s.pre, some b, s.beh ++ [c]⟩ := by
        refine ⟨fun x hx => ?_, fun x hx => ?_, ?_, ?_, fun x hx d hd => ?_, .inr ⟨b, P0, P1 ++ [c], rfl, e2, by rw [e3, List.append_assoc], by simp, e5, ?_⟩⟩
        · have hx : x ∈ s.out ++ [c] := by simpa [Lay.out, e1] using hx
          rcases List.mem_append.1 hx with hx | hx
          · exact k.run x hx
          · rw [List.mem_singleton.1 hx]; exact hrn
        · rcases List.mem_append.1 hx with hx | hx
          · exact k.beh x hx
          · rw [List.mem_singleton.1 hx]; exact hc
        · have := k.len
          simp only [Lay.out, e1, Option.toList_some, List.length_append, List.length_singleton] at this ⊢
          omega
        · refine List.pairwise_append.2 ⟨k.up, by simp, fun x hx d hd => ?_⟩
          rw [List.mem_singleton.1 hd]
          exact hbl x hx
        · rw [List.getLast?_concat] at hd
          injection hd with hd
          subst hd
          rcases List.mem_append.1 hx with hx | hx
          · exact hbl x hx
          · rw [List.mem_singleton.1 hx]; exact Int.le_refl _
        · rw [← List.append_assoc]
          exact hpush _ e6
      split
      · exact plain
      · rename_i hnb
        split
        · rename_i w hw
          obtain ⟨j1, j2, j3⟩ := join_opN h hrb hw
          have hlt : ∀ x ∈ s.beh, 0 < clT T x ∧ clT T x < clT T c := fun x hx => by
            refine ⟨k.beh x hx, ?_⟩
            have hne : s.beh ≠ [] := fun q => by rw [q] at hx; cases hx
            have hgl := List.getLast?_eq_some_getLast hne
            have h1 : ¬ clT T c ≤ clT T (s.beh.getLast hne) := fun q => hnb ⟨_, hgl, q⟩
            have h2 : clT T x ≤ clT T (s.beh.getLast hne) := by
              have hd := List.dropLast_concat_getLast hne
              have hu := k.up
              rw [← hd] at hu hx
              rcases List.mem_append.1 hx with hx | hx
              · exact (List.pairwise_append.1 hu).2.2 x hx _ (by simp)
              · rw [List.mem_singleton.1 hx]; exact Int.le_refl _
            omega
          refine ⟨fun x hx => ?_, k.beh, ?_, k.up, fun x hx d hd => ?_, .inr ⟨w, P0, P1 ++ [c], rfl, j2, by rw [e3, List.append_assoc], by simp, e5, ?_⟩⟩
          · have hx : x ∈ s.pre ∨ x = w ∨ x ∈ s.beh := by simpa [Lay.out] using hx
            rcases hx with hx | rfl | hx
            · exact k.run x (by simp [Lay.out, hx])
            · exact j1
            · exact k.run x (by simp [Lay.out, hx])
          · have := k.len
            simp only [Lay.out, e1, Option.toList_some, List.length_append, List.length_singleton] at this ⊢
            omega
          · rw [List.getLast?_concat] at hd
            injection hd with hd
            subst hd
            exact hbl x hx
          · rw [j3, List.append_assoc, List.singleton_append, ord_past _ _ hlt]
            exact hpush _ e6
        · exact plain
theorem lay_all {T : Tab} (h : goodB T = true) : ∀ (Q P : List Nat) (s : Lay), Ordered (clT T) (P ++ Q) → (∀ x ∈ P ++ Q, isOp T x ∧ RuneN x) → LayOk T P s → LayOk T (P ++ Q) (Q.foldl (layS T) s)
  | [], P, s, _, _, k => by rw [List.append_nil]; exact k
  | c :: Q, P, s, ho, hop, k => by
    have e : P ++ c :: Q = (P ++ [c]) ++ Q := by simp
    rw [e] at ho hop ⊢
    exact lay_all h Q (P ++ [c]) _ ho hop (lay_step h (ordered_init ho) (fun x hx => (hop x (List.mem_append_left _ hx)).1) (hop c (by simp)).2 k)
theorem lay_ok {T : Tab} (h : goodB T = true) {P : List Nat} (ho : Ordered (clT T) P) (hop : ∀ x ∈ P, isOp T x ∧ RuneN x) : LayOk T P (layL T P) :=
  lay_all h P [] ⟨[], none, []⟩ ho hop ⟨by simp [Lay.out], by simp, by simp [Lay.out], by simp, by simp, .inl ⟨rfl, rfl, rfl⟩⟩
theorem laid_back {T : Tab} (h : goodB T = true) {P : List Nat} (ho : Ordered (clT T) P) (hop : ∀ x ∈ P, isOp T x ∧ RuneN x) : openL T (laid T P) = P ∧ (∀ x ∈ laid T P, RuneN x) ∧ (laid T P).length ≤ P.length := by
  have k := lay_ok h ho hop
  refine ⟨?_, k.run, k.len⟩
  rcases k.cs with ⟨e1, e2, e3⟩ | ⟨b, P0, P1, e1, e2, e3, e4, e5, e6⟩
  · unfold laid Lay.out
    rw [e1, e2, e3]
    exact openL_open (fun x hx => (hop x (by simpa using hx)).1) (by simpa using ho)
  · have hrb : RuneN b := k.run b (by simp [Lay.out, e1])
    obtain ⟨a, ms, q1, q2, _⟩ := opN_facts h hrb
    have hbeh : openF T (layL T P).beh = (layL T P).beh := openF_open fun x hx => mark_whole h ((class_mark h _).1 (k.beh x hx))
    unfold laid Lay.out openL
    rw [openF_append, openF_append, e1, hbeh]
    have hb : openF T (some b).toList = opN T b := by simp [openF]
    rw [hb, List.append_assoc, ord_append (.inr (.inr (.inr ⟨a, ms ++ (layL T P).beh, by rw [q1]; rfl, by omega⟩))), e6, show ord (clT T) (openF T (layL T P).pre) = P0 from e5]
    exact e3.symm
def shutB (T : Tab) (l : Bytes) : Bytes := encs (laid T (openL T (runesB l)))
theorem shut_facts {T : Tab} (h : goodB T = true) (l : Bytes) : openL T (laid T (openL T (runesB l))) = openL T (runesB l) ∧ (∀ x ∈ laid T (openL T (runesB l)), RuneN x) ∧ (laid T (openL T (runesB l))).length ≤ (openL T (runesB l)).length :=
  laid_back h (ord_ordered _) fun x hx => (openL_all h (runesB_rune l) x hx).symm
theorem shutB_runes {T : Tab} (h : goodB T = true) (l : Bytes) : runesB (shutB T l) = laid T (openL T (runesB l)) := runesB_of_encs (shut_facts h l).2.1
theorem open_shut {T : Tab} (h : goodB T = true) (l : Bytes) : openB T (shutB T l) = openB T l := by
  show encs (openL T (runesB (shutB T l))) = _
  rw [shutB_runes h, (shut_facts h l).1]
  rfl
theorem shut_of_open {T : Tab} {l m : Bytes} (h : goodB T = true) (e : openB T l = openB T m) : shutB T l = shutB T m := by
  have : openL T (runesB l) = openL T (runesB m) := by rw [← openB_runes h, ← openB_runes h, e]
  unfold shutB
  rw [this]
theorem shut_twins {T : Tab} (h : goodB T = true) (l m : Bytes) : shutB T l = shutB T m ↔ openB T l = openB T m := ⟨fun e => by rw [← open_shut h l, ← open_shut h m, e], shut_of_open h⟩
end Go.Proofs.YtfiaggbgplmmeaaDoor.AM
namespace Go.Proofs.YtfiaggbgplmmeaaDoor.AM
open Go
def LF_shut_Shut : LFunc :=
  .mk 2 [.tmp 4] (.seq (R 999 [0, 1] [.set 4 (.cv (.string ⟨#[]⟩))]) (.seq (.seq (R 14 [0, 1, 15] [.tmp 15 (.op (.p (.eqk false .ptr (.s 0) (.s 1))) (.cons (.va 0) (.cv (.pointer
  none))))]) (.cond (.s 15) (.seq (R 999 [4] [.set 4 (.cv (.string ⟨#[]⟩))]) .ret) .skip)) (.seq (R 999 [0, 1, 5] [.set 5 (.cv (.slice none 0 0))]) (.seq (R 999 [0, 1, 5, 6] [.set 6
  (xi (-1))]) (.seq (.seq (R 16 [0, 5, 6, 19] [.tmp 19 (.op (.e (.rngS 19 (.s 0))) (xc2 16 (.va 0) (.va 1)))]) (.block 0 (.loop (.seq (R 20 [0, 5, 6, 19, 20, 21] [.tmp 20
  (.op (.e (.nxtS (.s 0))) (.sl 19)), .tmp 21 (xex 0 (.sl 20))]) (.seq (.cond (.s 21) .skip (.exit 0)) (.block 1 (.seq (R 22 [0, 5, 6, 8, 19] [.set 8 (xex 2 (.sl 20))]) (.seq (R 23
  [0, 5, 6, 8, 9, 19] [.set 9 (xc2 18 (.va 0) (.va 8))]) (.seq (.seq (R 26 [0, 5, 6, 8, 9, 19, 27] [.tmp 27 (xb .eql (.va 9) (xi 0))]) (.cond (.s 27) (.seq (R
  28 [0, 5, 19] [.set 5 (xap 1 4 (.va 5) (.op (.e (.litL 30 1 1 [.int .i32 0] [(0, 1, .s 0)])) (.va 8)))]) (.seq (R 32 [0, 5, 6, 19] [.set 6 (xb .sub (xlen (.va 5)) (xi 1))]) (.exit
  1))) .skip)) (.seq (R 35 [0, 5, 6, 8, 9, 10, 19] [.set 10 (.op (.p (.sl 1 (.s 0) (some (.s 1)) (some (.s 2)) (some (.s 3)))) (.cons (.va 5) (.cons (xb .add (.va 6) (xi 1)) (.cons
  (xlen (.va 5)) (xlen (.va 5))))))]) (.seq (R 43 [0, 5, 6, 8, 11, 19] [.set 11 (.or (xb .lss (.va 6) (xi 0)) (.and (xb .gtr (xlen (.va 10)) (xi 0)) (xb .geq (xc2
  18 (.va 0) (xld (xia 1 (.va 10) (xb .sub (xlen (.va 10)) (xi 1))))) (.va 9))))]) (.seq (.seq (R 62 [0, 5, 6, 8, 19, 63] [.tmp 63 (xu .not (.va 11))]) (.cond
  (.s 63) (.seq (R 65 [0, 5, 6, 8, 12, 13, 19] [.set 64 (xc3 19 (.va 0) (xld (xia 1 (.va 5) (.va 6))) (.va 8)), .tmp 72 (xex 0 (.sl 64)), .tmp 73 (xex 1 (.sl
  64)), .set 12 (.sl 72), .set 13 (.sl 73)]) (.seq (R 74 [0, 5, 6, 8, 12, 19, 74] [.tmp 74 (.va 13)]) (.cond (.s 74) (.seq (R 75 [0, 5, 6, 19] [.tmp 75 (.va 5), .tmp 76 (.va 6),
  .tmp 77 (.va 12), .run (xst 1 (xia 1 (.sl 75) (.sl 76)) (.sl 77))]) (.exit 1)) .skip))) .skip)) (R 79 [0, 5, 6, 19] [.set 5 (xap 1 4 (.va 5) (.op (.e (.litL 81 1 1 [.int .i32 0]
  [(0, 1, .s 0)])) (.va 8)))]))))))))))))) (.seq (R 83 [4] [.set 4 (.op (.r (.r2s (.s 0))) (.va 5))]) .ret))))))
theorem fn_shut_Shut : (autoPrg Tryd.prog).fn 13 = some LF_shut_Shut := by kernel_rfl
def LF_tables_Book_Joined : LFunc :=
  .mk 3 [.tmp 6, .tmp 7] (.seq (R 999 [0, 1, 2] [.set 6 (xr 0), .set 7 (.cv (.bool false))]) (.seq (R 11 [8, 9] [.set 10 (.op (.r (.lookup (.agg [.int, .int]) (.int .i32 0) true (.s
  0) (.s 1))) (.cons (xld (xfa 10 (xnk (.va 0)))) (.op (.p (.build [.int .i32 0, .int .i32 0] [(0, 1, .s 0), (1, 1, .s 1)])) (.cons (.va 1) (.va 2))))), .tmp 19 (xex 0 (.sl 10)),
  .tmp 20 (xex 1 (.sl 10)), .set 8 (.sl 19), .set 9 (.sl 20)]) (.seq (R 21 [6, 7] [.tmp 21 (.va 8), .tmp 22 (.va 9), .set 6 (.sl 21), .set 7 (.sl 22)]) .ret)))
theorem fn_tables_Book_Joined : (autoPrg Tryd.prog).fn 19 = some LF_tables_Book_Joined := by kernel_rfl
def LF_guiselaw10_known : LFunc :=
  .mk 0 [.tmp 0] (.seq (R 999 [] [.set 0 (.cv (.bool false))]) (.seq (R 5 [1, 2] [.set 4 (xc1 6 (xc0 27)), .tmp 7 (xex 0 (.sl 4)), .tmp 8 (xex 1
  (.sl 4)), .tmp 9 (xex 2 (.sl 4)), .set 1 (.sl 7), .set 2 (.sl 8), .set 3 (.sl 9)]) (.seq (.seq (R 10 [1, 11] [.tmp 11 (xu .not (.va 2))]) (.cond (.s 11) (.seq (R 999 [0] [.set 0
  (.cv (.bool false))]) .ret) .skip)) (.seq (R 12 [0] [.set 0 (.and (.and (xb .eql (xc2 13 (.va 1) (.cv (.string ⟨#[101, 204, 130, 204, 129]⟩))) (.cv (.string ⟨#[225,
  186, 191]⟩))) (xb .eql (xc2 13 (.va 1) (.cv (.string ⟨#[101, 204, 129, 204, 163]⟩))) (.cv (.string ⟨#[225, 186, 185, 204, 129]⟩)))) (xb .eql (xc2 13 (.va 1)
  (.cv (.string ⟨#[101, 204, 129, 204, 129]⟩))) (.cv (.string ⟨#[195, 169, 204, 129]⟩))))]) .ret))))
theorem fn_guiselaw10_known : (autoPrg Tryd.prog).fn 11 = some LF_guiselaw10_known := by kernel_rfl
def LF_guiselaw10_house : LFunc :=
  .mk 0 [.cell 0 (some 8)] (.seq (R 0 [0] [.tmp 0 (xnl 0 [.slice none 0 0, .slice none 0 0, .slice none 0 0, .slice none 0 0, .slice none 0 0, .slice none 0 0, .slice none 0 0,
  .slice none 0 0])]) (.seq (R 1 [0] [.run (xst 8 (.sl 0) (xc0 46))]) .ret))
theorem fn_guiselaw10_house : (autoPrg Tryd.prog).fn 27 = some LF_guiselaw10_house := by kernel_rfl
end Go.Proofs.YtfiaggbgplmmeaaDoor.AM
namespace Go.Proofs.YtfiaggbgplmmeaaDoor.AM
open Go
theorem bookJoined_eq {h : AH} {k B : Nat} {s6 : Sl} {T : Tab} (bk : BkAt h k B s6 T) (b m : Int) : callO PX 19 [.pointer (some ⟨k, 0, none⟩), .int .i32 b, .int .i32 m] h = some (.tuple (List.toArray [.int .i32 ((joinO T b m).getD 0), .bool (joinO T b m).isSome]), h) := by
  obtain ⟨x0, x1, x2, x3, x4, x5, x7, hb⟩ := bk.b
  have m2 := m_join bk.mp b m
  generalize (joinO T b m).getD 0 = x at m2 ⊢
  generalize (joinO T b m).isSome = y at m2 ⊢
  apply WpC.eqn
  refine wpc_fn (px_ext rfl) (px_fn fn_tables_Book_Joined) rfl ?_
  unfold LF_tables_Book_Joined
  simp only [argFr]
  (refine W_x (Aj hb m2) ?_; (repeat' first | apply Cj.mk | exact Nl.nl) <;> intros)
  exact ⟨rfl, rfl⟩
theorem sl3_drop {s : Sl} {i j m : Int} (h0 : 0 ≤ i) (h1 : i ≤ s.len) (h2 : j = s.len) (h3 : m = s.len) : sl3 1 (s.val 1) (.int .i64 i) (.int .i64 j) (.int .i64 m) = some ((s.drop 1 i.toNat).val 1) := by
  subst h2 h3
  cases s with
  | nil =>
    have : i = 0 := by simp [Sl.len] at h1; omega
    subst this
    rfl
  | «at» b o n =>
    simp only [Sl.len] at h1
    have := sl3_val (bk := b) (o := o) (n := n) (i := i) (j := n) (m := n) h0 h1 (by omega) (by omega)
    show sl3 1 ((Sl.at b o n).val 1) _ (.int .i64 (n : Int)) (.int .i64 (n : Int)) = _
    rw [this]
    simp only [Sl.drop, Nat.mul_one]
    congr 3
    omega
theorem drop_len {s : Sl} {e i : Nat} : (s.drop e i).len = s.len - i := by cases s <;> simp [Sl.drop, Sl.len]
def seatI (s : Lay) : Int := match s.seat with
  | some _ => s.pre.length
  | none => -1
theorem layL_snoc {T : Tab} {P : List Nat} {i : Nat} (hi : i < P.length) : layL T (P.take (i + 1)) = layS T (layL T (P.take i)) P[i] := by
  unfold layL
  rw [take_snoc hi, List.foldl_append]
  rfl
set_option maxHeartbeats 1000000 in
theorem shutShut_spec {h : AH} {k B : Nat} {s6 : Sl} {T : Tab} (gd : goodB T = true) (bk : BkAt h k B s6 T) (s : ByteArray) (hs : s.size ≤ 1048576) : WpC PX 13 [.pointer (some ⟨k, 0, none⟩), .string s] h fun v h' => v = .string (bs (shutB T s.data.toList)) ∧ Kp h h' := by
  have hz : s.data.toList.length = s.size := rfl
  have hn := spots_len s.data.toList
  have hrl := runesB_len s.data.toList
  have hrr := runesB_rune s.data.toList
  obtain ⟨_, g1, e1, rfl, k1⟩ := openOpen_spec gd bk s hs
  have hor := openB_runes gd s.data.toList
  have hol := openF_len gd hrr
  have hF := (shut_facts gd s.data.toList).2.1
  have hPr := openL_all gd hrr
  have hlay : ∀ i, LayOk T ((openL T (runesB s.data.toList)).take i) (layL T ((openL T (runesB s.data.toList)).take i)) := fun i => lay_ok gd (ordered_init (Q := (openL T (runesB s.data.toList)).drop i) (by rw [List.take_append_drop]; exact ord_ordered _)) fun x hx => (hPr x (List.mem_of_mem_take hx)).symm
  have hP : (openL T (runesB s.data.toList)).length ≤ 6291456 := by unfold openL; rw [ord_length]; omega
  unfold shutB laid at *
  generalize hO : bs (openB T s.data.toList) = O at e1
  have hOl : O.data.toList = openB T s.data.toList := by rw [← hO, bs_l]
  rw [← hOl] at hor
  generalize openL T (runesB s.data.toList) = P at *
  have hsp : (spots O.data.toList).length = P.length := by rw [← runesB_len, hor]
  have bk1 := bk.kp k1
  refine wpc_fn (px_ext rfl) (px_fn fn_shut_Shut) rfl ?_
  unfold LF_shut_Shut
  simp only [argFr]
  (refine W_x (Aj e1 @ev_rngS) ?_; (repeat' first | apply Cj.mk | exact Nl.nl) <;> intros)
  refine wp_spotsS (fun i sl => [(0, .pointer (some ⟨k, 0, none⟩)), (5, sl.val 1), (6, .int .i64 (seatI (layL T (P.take i)))), (19, .pointer (some ⟨38, 0, some 1⟩))]) (fun n _ => [(38, .siter O n)]) O O.data.toList (fun i sl h' => FOwn g1 h' 1 sl ((layL T (P.take i)).out.map rnV)) (fun _ _ => (none : Option Unit)) Sl.nil rfl (by repeat' first | exact True.intro | refine And.intro rfl ?_) (fun _ _ => rfl) rfl (FOwn.nil (Kp.refl g1))
    (fun i hi sl h1 fo hit => ?_) fun sl h1 fo fin => ?_
  · (refine W_x trivial ?_; (repeat' first | apply Cj.mk | exact Nl.nl) <;> intros)
    refine wo_next rfl rfl hi ?_
    have hi2 : i < P.length := by omega
    have hx : ((spots O.data.toList)[i]).1 = P[i] := by
      have := runesB_get hi
      rw [← this]
      simp only [hor]
    rw [hx]
    have hsn := layL_snoc (T := T) hi2
    have hrc := (hPr _ (List.getElem_mem hi2)).1
    have ok := hlay i
    have hlen := ok.len
    rw [List.length_take] at hlen
    generalize P[i] = c at hsn hrc ⊢
    generalize layL T (P.take i) = st at hsn ok fo hlen ⊢
    rw [hsn]
    have sll := fo.own.1
    rw [List.length_map] at sll
    have ec := class_eq (bk1.kp fo.kp)
    have e2 := ec (c : Nat)
    rw [show classI T (c : Nat) = clT T c from rfl] at e2
    have hcn : 0 ≤ clT T c := (class_range gd _).1
    by_cases h0 : clT T c = 0
    · have hst : layS T st c = ⟨st.out, some c, []⟩ := by unfold layS; rw [if_pos h0]
      rw [hst]
      (refine W_x e2 ?_; (repeat' first | apply Cj.mk | exact Nl.nl) <;> intros)
      refine wo_app1 (cs := rnV c) fo rfl rfl (by decide) (by decide) (by rw [List.length_map]; omega) fun s2 h2 f2 => ?_
      have s2l := f2.own.1
      rw [List.length_append, List.length_map, List.length_singleton] at s2l
      (refine W_x s2l ?_; (repeat' first | apply Cj.mk | exact Nl.nl) <;> intros)
      rw [show ((st.out.length : Int) + 1 - 1) = seatI ⟨st.out, some c, []⟩ from by simp only [seatI]; omega]
      exact ⟨rfl, s2, (by repeat' first | exact True.intro | refine And.intro rfl ?_), rfl, by simpa [Lay.out] using f2⟩
    · have hc0 : 0 < clT T c := by omega
      have happ : ∀ (s2 : Sl) (h2 : AH), FOwn g1 h2 1 s2 (st.out.map rnV ++ [rnV c]) → FOwn g1 h2 1 s2 ((Lay.out ⟨st.pre, st.seat, st.beh ++ [c]⟩).map rnV) := fun s2 h2 f => by
        have : Lay.out ⟨st.pre, st.seat, st.beh ++ [c]⟩ = st.out ++ [c] := by simp [Lay.out]
        rw [this, List.map_append]
        exact f
      cases hseat : st.seat with
      | none =>
        have hsI : seatI st = -1 := by unfold seatI; rw [hseat]
        have hst : layS T st c = ⟨st.pre, st.seat, st.beh ++ [c]⟩ := by unfold layS; rw [if_neg h0, hseat]
        have hsI2 : seatI ⟨st.pre, st.seat, st.beh ++ [c]⟩ = -1 := by unfold seatI; simp only [hseat]
        have e3 := sl3_drop (s := sl) (i := 0) (j := st.out.length) (m := st.out.length) (by omega) (by omega) (by omega) (by omega)
        have hm1 : (-1 + 1 : Int) = 0 := rfl
        rw [hst, hsI, hsI2]
        (refine W_x (Aj e2 (Aj sll e3)) ?_; (repeat' first | apply Cj.mk | exact Nl.nl) <;> intros)
        refine wo_app1 (cs := rnV c) fo rfl rfl (by decide) (by decide) (by rw [List.length_map]; omega) fun s2 h2 f2 => ?_
        (refine W_x trivial ?_; (repeat' first | apply Cj.mk | exact Nl.nl) <;> intros)
        exact ⟨rfl, s2, (by repeat' first | exact True.intro | refine And.intro rfl ?_), rfl, happ _ _ f2⟩
      | some b =>
        have hsI : seatI st = st.pre.length := by unfold seatI; rw [hseat]
        have hout : st.out = st.pre ++ b :: st.beh := by simp [Lay.out, hseat]
        have hol2 : st.out.length = st.pre.length + 1 + st.beh.length := by rw [hout]; simp; omega
        have e3 := sl3_drop (s := sl) (i := (st.pre.length : Int) + 1) (j := st.out.length) (m := st.out.length) (by omega) (by omega) (by omega) (by omega)
        have hti : ((st.pre.length : Int) + 1).toNat = st.pre.length + 1 := by omega
        rw [hti] at e3
        have hdl : (sl.drop 1 (st.pre.length + 1)).len = st.beh.length := by rw [drop_len]; omega
        have rdd := fo.reads.drop (k := st.pre.length + 1) (by rw [List.length_map]; omega)
        have hdr : (st.out.map rnV).drop (st.pre.length + 1) = st.beh.map rnV := by rw [hout, ← List.map_drop]; simp
        rw [hdr] at rdd
        have hi3 : st.pre.length < st.out.length := by omega
        have gb := fun lc => rd_map (lc := lc) fo.reads hi3
        have hgb : st.out[st.pre.length] = b := by simp [hout]
        rw [hgb] at gb
        have hrb : RuneN b := ok.run b (by rw [hout]; simp)
        have ej := bookJoined_eq (bk1.kp fo.kp) (b : Nat) (c : Nat)
        have hplain : layS T st c = ⟨st.pre, st.seat, st.beh ++ [c]⟩ → seatI (layS T st c) = st.pre.length := fun e => by rw [e]; unfold seatI; simp only [hseat]
        have hbl : (st.beh = [] ∧ ¬ blocks T st.beh c) ∨ ∃ z, (∀ lc, Mem.rd ⟨lc, h1⟩ ((sl.drop 1 (st.pre.length + 1)).adr 1 (st.beh.length - 1)) 1 = some (rnV z)) ∧ 0 < st.beh.length ∧ (blocks T st.beh c ↔ clT T c ≤ clT T z) := by
          rcases Nat.eq_zero_or_pos st.beh.length with hz0 | hz0
          · have : st.beh = [] := List.eq_nil_of_length_eq_zero hz0
            exact .inl ⟨this, by rw [this]; simp [blocks]⟩
          · have hlt : st.beh.length - 1 < st.beh.length := by omega
            refine .inr ⟨st.beh[st.beh.length - 1], fun lc => rd_map (lc := lc) rdd hlt, hz0, ?_⟩
            have hgl : st.beh.getLast? = some st.beh[st.beh.length - 1] := by rw [List.getLast?_eq_getElem?, List.getElem?_eq_getElem hlt]
            unfold blocks
            rw [hgl]
            simp
        unfold rnV at gb
        by_cases hB : blocks T st.beh c
        · have hst : layS T st c = ⟨st.pre, st.seat, st.beh ++ [c]⟩ := by unfold layS; rw [if_neg h0, hseat]; simp only; rw [if_pos hB]
          have hs2 := hplain hst
          rcases hbl with ⟨_, q⟩ | ⟨z, q1, q2, q3⟩
          · exact absurd hB q
          · have q4 := q3.1 hB
            have e5 := ec (z : Nat)
            rw [show classI T (z : Nat) = clT T z from rfl] at e5
            unfold rnV at q1
            have hx1 : ((st.beh.length : Int) - 1).toNat = st.beh.length - 1 := by omega
            rw [hs2, hst, hsI]
            (refine W_x (Aj e2 (Aj sll (Aj e3 (Aj hdl (Aj hx1 (Aj q1 e5)))))) ?_; (repeat' first | apply Cj.mk | exact Nl.nl) <;> intros)
            refine wo_app1 (cs := rnV c) fo rfl rfl (by decide) (by decide) (by rw [List.length_map]; omega) fun s2 h2 f2 => ?_
            (refine W_x trivial ?_; (repeat' first | apply Cj.mk | exact Nl.nl) <;> intros)
            exact ⟨rfl, s2, (by repeat' first | exact True.intro | refine And.intro rfl ?_), rfl, happ _ _ f2⟩
        · cases hj : joinO T b c with
          | none =>
            have hst : layS T st c = ⟨st.pre, st.seat, st.beh ++ [c]⟩ := by
              unfold layS; rw [if_neg h0, hseat]; simp only; rw [if_neg hB]
              unfold joinN; rw [hj]; rfl
            have hs2 := hplain hst
            rw [hj] at ej
            simp only [Option.getD_none, Option.isSome_none] at ej
            rw [hs2, hst, hsI]
            rcases hbl with ⟨q, _⟩ | ⟨z, q1, q2, q3⟩
            · rw [q, List.length_nil] at hdl
              (refine W_x (Aj e2 (Aj sll (Aj e3 (Aj hdl (Aj gb ej))))) ?_; (repeat' first | apply Cj.mk | exact Nl.nl) <;> intros)
              refine wo_app1 (cs := rnV c) fo rfl rfl (by decide) (by decide) (by rw [List.length_map]; omega) fun s2 h2 f2 => ?_
              (refine W_x trivial ?_; (repeat' first | apply Cj.mk | exact Nl.nl) <;> intros)
              exact ⟨rfl, s2, (by repeat' first | exact True.intro | refine And.intro rfl ?_), rfl, happ _ _ f2⟩
            · have q4 : ¬ clT T c ≤ clT T z := fun q => hB (q3.2 q)
              have e5 := ec (z : Nat)
              rw [show classI T (z : Nat) = clT T z from rfl] at e5
              unfold rnV at q1
              have hx1 : ((st.beh.length : Int) - 1).toNat = st.beh.length - 1 := by omega
              (refine W_x (Aj e2 (Aj sll (Aj e3 (Aj hdl (Aj hx1 (Aj q1 (Aj e5 (Aj gb ej)))))))) ?_; (repeat' first | apply Cj.mk | exact Nl.nl) <;> intros)
              refine wo_app1 (cs := rnV c) fo rfl rfl (by decide) (by decide) (by rw [List.length_map]; omega) fun s2 h2 f2 => ?_
              (refine W_x trivial ?_; (repeat' first | apply Cj.mk | exact Nl.nl) <;> intros)
              exact ⟨rfl, s2, (by repeat' first | exact True.intro | refine And.intro rfl ?_), rfl, happ _ _ f2⟩
          | some w =>
            have hw0 := (rune_iff.1 (good_pairs gd _ (join_mem hj)).2.2.2.1).1
            simp only at hw0
            have hwn : ((w.toNat : Nat) : Int) = w := by omega
            have hst : layS T st c = ⟨st.pre, some w.toNat, st.beh⟩ := by
              unfold layS; rw [if_neg h0, hseat]; simp only; rw [if_neg hB]
              unfold joinN; rw [hj]; rfl
            have hs2 : seatI ⟨st.pre, some w.toNat, st.beh⟩ = st.pre.length := rfl
            rw [hj] at ej
            simp only [Option.getD_some, Option.isSome_some] at ej
            rw [hst, hs2, hsI]
            obtain ⟨h2, hw1, f2⟩ := fo.set (i := st.pre.length) (by rw [List.length_map]; exact hi3) (vs := rnV w.toNat) rfl
            have hset : (st.out.map rnV).set st.pre.length (rnV w.toNat) = (Lay.out ⟨st.pre, some w.toNat, st.beh⟩).map rnV := by
              rw [← List.map_set, hout]
              simp [Lay.out]
            rw [hset] at f2
            unfold rnV at hw1
            rw [hwn] at hw1
            rcases hbl with ⟨q, _⟩ | ⟨z, q1, q2, q3⟩
            · rw [q, List.length_nil] at hdl
              (refine W_x (Aj e2 (Aj sll (Aj e3 (Aj hdl (Aj gb (Aj ej hw1)))))) ?_; (repeat' first | apply Cj.mk | exact Nl.nl) <;> intros)
              exact ⟨rfl, sl, (by repeat' first | exact True.intro | refine And.intro rfl ?_), rfl, f2⟩
            · have q4 : ¬ clT T c ≤ clT T z := fun q => hB (q3.2 q)
              have e5 := ec (z : Nat)
              rw [show classI T (z : Nat) = clT T z from rfl] at e5
              unfold rnV at q1
              have hx1 : ((st.beh.length : Int) - 1).toNat = st.beh.length - 1 := by omega
              (refine W_x (Aj e2 (Aj sll (Aj e3 (Aj hdl (Aj hx1 (Aj q1 (Aj e5 (Aj gb (Aj ej hw1))))))))) ?_; (repeat' first | apply Cj.mk | exact Nl.nl) <;> intros)
              exact ⟨rfl, sl, (by repeat' first | exact True.intro | refine And.intro rfl ?_), rfl, f2⟩
  · (refine W_x trivial ?_; (repeat' first | apply Cj.mk | exact Nl.nl) <;> intros)
    refine wo_nextE rfl rfl ?_
    rw [hsp, List.take_length] at fo
    have hg := fun lc => r2s_own (lc := lc) fo.own hF
    (refine W_x hg ?_; (repeat' first | apply Cj.mk | exact Nl.nl) <;> intros)
    exact ⟨rfl, k1.trans fo.kp⟩
end Go.Proofs.YtfiaggbgplmmeaaDoor.AM
namespace Go.Proofs.YtfiaggbgplmmeaaDoor.AM
open Go
def LFfew : LFunc :=
  .mk 2 [.tmp 4] (.seq (R 999 [0, 1] [.set 4 (.cv (.string ⟨#[]⟩))]) (.seq (.seq (R 5 [0, 1, 8] [.tmp 8 (xb .gtr (xsl (.va 0)) (.va 1))]) (.cond (.s 8) (.seq (R 9 [4] [.set 4 (.op
  (.p (.slS (.s 0) none (some (.s 1)))) (.cons (.va 0) (.va 1)))]) .ret) .skip)) (.seq (R 12 [4] [.set 4 (.va 0)]) .ret)))
theorem fewG_eq {f : FuncId} (hf : PX.fn f = some LFfew) (hx : PX.ext f = none) (s : ByteArray) (hs : s.size ≤ 1048576) {m : Int} (n : Nat) (hm : m = n) (hn : n ≤ 1048576) (h : AH) : callO PX f [.string s, .int .i64 m] h = some (.string (fewB s n), h) := by
  subst hm
  apply WpC.eqn
  refine wpc_fn hx hf rfl ?_
  unfold LFfew
  simp only [argFr]
  unfold fewB
  (refine W_x trivial ?_; (repeat' first | apply Cj.mk | exact Nl.nl) <;> intros)
  · rw [if_pos (by omega)]
    exact ⟨rfl, rfl⟩
  · rw [if_neg (by omega)]
    exact ⟨rfl, rfl⟩
end Go.Proofs.YtfiaggbgplmmeaaDoor.AM
namespace Go.Proofs.YtfiaggbgplmmeaaDoor.AM
open Go
theorem house10_spec (h : AH) : WpC PX 27 [] h fun v h' => ∃ S, v = .agg S.vs.toArray ∧ TabAt h' S houseT ∧ Kp h h' := by
  obtain ⟨_, g, e, S, rfl, t, k⟩ := house_spec h
  unfold TS.vs at e
  refine wpc_fn (px_ext rfl) (px_fn fn_guiselaw10_house) rfl ?_
  unfold LF_guiselaw10_house
  simp only [argFr]
  (refine W_x e ?_; (repeat' first | apply Cj.mk | exact Nl.nl) <;> intros)
  exact ⟨S, rfl, t, k⟩
theorem few10_eq (s : ByteArray) (hs : s.size ≤ 1048576) {m : Int} (n : Nat) (hm : m = n) (hn : n ≤ 1048576) (h : AH) : callO PX 12 [.string s, .int .i64 m] h = some (.string (fewB s n), h) := fewG_eq (px_fn (by kernel_rfl)) (px_ext rfl) s hs n hm hn h
set_option maxRecDepth 100000 in
theorem known10_a : shutB houseT [101, 204, 130, 204, 129] = [225, 186, 191] := by decide +kernel
set_option maxRecDepth 100000 in
theorem known10_b : shutB houseT [101, 204, 129, 204, 163] = [225, 186, 185, 204, 129] := by decide +kernel
set_option maxRecDepth 100000 in
theorem known10_c : shutB houseT [101, 204, 129, 204, 129] = [195, 169, 204, 129] := by decide +kernel
theorem known10_spec {h : AH} (u : U8T h) (hg : 2 ≤ h.n) : WpC PX 11 [] h fun v h' => v = .bool true ∧ Kp h h' := by
  obtain ⟨_, g, e, S, rfl, t, k⟩ := house10_spec h
  obtain ⟨_, g1, e1, k1, kk, B, S1, rfl, bk, _, _⟩ := of_house t (u.kp k) (Nat.le_trans hg k.1)
  obtain ⟨_, g2, e2, rfl, k2⟩ := shutShut_spec house_good bk.bk ⟨#[101, 204, 130, 204, 129]⟩ (by decide)
  obtain ⟨_, g3, e3, rfl, k3⟩ := shutShut_spec house_good (bk.kp k2).bk ⟨#[101, 204, 129, 204, 163]⟩ (by decide)
  obtain ⟨_, g4, e4, rfl, k4⟩ := shutShut_spec house_good ((bk.kp k2).kp k3).bk ⟨#[101, 204, 129, 204, 129]⟩ (by decide)
  have q2 : bs (shutB houseT [101, 204, 130, 204, 129]) = ⟨#[225, 186, 191]⟩ := by rw [known10_a]; rfl
  have q3 : bs (shutB houseT [101, 204, 129, 204, 163]) = ⟨#[225, 186, 185, 204, 129]⟩ := by rw [known10_b]; rfl
  have q4 : bs (shutB houseT [101, 204, 129, 204, 129]) = ⟨#[195, 169, 204, 129]⟩ := by rw [known10_c]; rfl
  simp only [q2] at e2
  simp only [q3] at e3
  simp only [q4] at e4
  unfold TS.vs at *
  refine wpc_fn (px_ext rfl) (px_fn fn_guiselaw10_known) rfl ?_
  unfold LF_guiselaw10_known
  simp only [argFr]
  (refine W_x (Aj e (Aj e1 (Aj e2 (Aj e3 e4)))) ?_; (repeat' first | apply Cj.mk | exact Nl.nl) <;> intros)
  exact ⟨rfl, (((k.trans k1).trans k2).trans k3).trans k4⟩
end Go.Proofs.YtfiaggbgplmmeaaDoor.AM
namespace Go.Proofs.YtfiaggbgplmmeaaDoor.AM
open Go
def LF_guiselaw10_ShutSteps : LFunc :=
  .mk 3 [.tmp 6] (.seq (R 3 [1, 2, 3] [.tmp 3 (xbl 3 8 (.sl 0)), .set 6 (.cv (.bool false))]) (.seq (R 20 [1, 2, 7, 8, 9] [.set 19 (xc1 6 (xln 8 (.sl 3))), .tmp 22
  (xex 0 (.sl 19)), .tmp 23 (xex 1 (.sl 19)), .tmp 24 (xex 2 (.sl 19)), .set 7 (.sl 22), .set 8 (.sl 23), .set 9 (.sl 24)]) (.seq (.seq (R 25 [1, 2, 7, 9, 26] [.tmp 26 (xu .not (.va
  8))]) (.cond (.s 26) (.seq (R 27 [6] [.set 6 (.and (.va 9) (xc0 11))]) .ret) .skip)) (.seq (R 31 [2, 7, 10] [.set 10 (xc1 15 (xc2 16 (.va
  7) (xc2 12 (.va 1) (xi 1000))))]) (.seq (.seq (R 36 [2, 7, 10, 38] [.tmp 38 (xb .eql (xlen (.va 10)) (xi 0))]) (.cond (.s 38) (.seq (R 39 [6] [.set 6 (xc0
  11)]) .ret) .skip)) (.seq (R 40 [2, 7, 10] [.set 2 (xc3 17 (.va 2) (xi 0) (xb .sub (xlen (.va 10)) (xi 1)))]) (.seq (R 45 [2, 7, 10, 11] [.set
  11 (xc1 15 (xc2 13 (.va 7) (.op (.r (.r2s (.s 0))) (.op (.p (.sl 1 (.s 0) none (some (.s 1)) none)) (.cons (.va 10) (.va 2))))))]) (.seq (R 52 [2, 7, 10, 11,
  12] [.set 12 (xld (xia 1 (.va 10) (.va 2)))]) (.seq (R 999 [2, 7, 10, 11, 12, 13] [.set 13 (xi (-1))]) (.seq (.seq (R 999 [2, 7, 10, 11, 12, 13, 14] [.set 14 (xi 0)]) (.block 0
  (.loop (.seq (.seq (R 56 [2, 7, 10, 11, 12, 13, 14, 59] [.tmp 59 (xb .lss (.va 14) (xlen (.va 11)))]) (.cond (.s 59) .skip (.exit 0))) (.seq (.block 1 (.seq (R 62 [2, 7, 10, 11,
  12, 13, 14, 68] [.tmp 68 (xb .eql (xc2 18 (.va 7) (xld (xia 1 (.va 11) (.va 14)))) (xi 0))]) (.cond (.s 68) (R 69 [2, 7, 10, 11, 12, 13, 14] [.set 13 (.va
  14)]) .skip))) (R 60 [2, 7, 10, 11, 12, 13, 14] [.set 14 (xb .add (.va 14) (xi 1))])))))) (.seq (R 70 [2, 7, 10, 11, 12, 13, 15] [.set 15 (xc2 18 (.va 7)
  (.va 12))]) (.seq (R 73 [2, 7, 10, 11, 12, 13, 15, 16] [.set 16 (xap 1 4 (xap 1 4 (.op (.e (.litH 0 1 [] [])) .nil) (.va 11)) (.op (.e (.litL 77 1 1 [.int .i32 0] [(0, 1, .s 0)]))
  (.va 12)))]) (.seq (.seq (R 79 [2, 7, 10, 11, 12, 13, 16, 103] [.tmp 103 (.and (.and (xb .gtr (.va 15) (xi 0)) (xb .geq (.va 13) (xi 0))) (.or (xb .eql (.va 13) (xb .sub (xlen
  (.va 11)) (xi 1))) (xb .lss (xc2 18 (.va 7) (xld (xia 1 (.va 11) (xb .sub (xlen (.va 11)) (xi 1))))) (.va 15))))]) (.cond (.s 103) (.seq (R 105 [2, 7, 10,
  11, 13, 16, 17, 18] [.set 104 (xc3 19 (.va 7) (xld (xia 1 (.va 11) (.va 13))) (.va 12)), .tmp 112 (xex 0 (.sl 104)), .tmp 113 (xex 1 (.sl 104)), .set 17
  (.sl 112), .set 18 (.sl 113)]) (.seq (R 114 [2, 7, 10, 11, 13, 16, 17, 114] [.tmp 114 (.va 18)]) (.cond (.s 114) (.seq (R 115 [2, 7, 10, 13, 16, 17] [.set 16 (xap 1 4 (.op (.e
  (.litH 0 1 [] [])) .nil) (.va 11))]) (R 118 [2, 7, 10, 16] [.tmp 118 (.va 16), .tmp 119 (.va 13), .tmp 120 (.va 17), .run (xst 1 (xia 1 (.sl 118) (.sl 119)) (.sl 120))])) .skip)))
  .skip)) (.seq (.region [.mk (some 122) (.p (.mv (.s 7))) none, .mk (some 123) (.p (.mv (.s 10))) none, .mk (some 124) (.p (.mv (.s 2))) none, .mk (some 125) (.p (.bin .add (.s
  124) (.c (.int .i64 1)))) none, .mk (some 126) (.p (.sl 1 (.s 123) none (some (.s 125)) none)) none, .mk (some 127) (.r (.r2s (.s 126))) none, .mk (some 128) (.e (.call
  13 [.s 122, .s 127])) none, .mk (some 129) (.p (.mv (.s 16))) none, .mk (some 130) (.r (.r2s (.s 129))) none, .mk (some 131) (.p (.bin .eql (.s 128) (.s 130))) none,
  .mk (some 132) (.p (.mv (.s 131))) none, .mk (some 133) (.e (.call 11 [])) (some (132, true)), .mk (some 134) (.p (.pick (.s 132) (.s 133) (.c (.bool false))))
  none, .mk (some 6) (.p (.mv (.s 134))) none] [6] [(8, 0)]) .ret))))))))))))))
theorem fn_guiselaw10_ShutSteps : (autoPrg Tryd.prog).fn 5 = some LF_guiselaw10_ShutSteps := by kernel_rfl
end Go.Proofs.YtfiaggbgplmmeaaDoor.AM
namespace Go.Proofs.YtfiaggbgplmmeaaDoor.AM
open Go
theorem r2s_take {h : AH} {lc : Lc} {s : Sl} {B : List Nat} (r : Own h 1 s (B.map rnV)) (hB : ∀ c ∈ B, RuneN c) {k : Nat} (hk : k ≤ B.length) : r2sP ⟨lc, h⟩ ((s.take k).val 1) = some (.string (bs (encs (B.take k)))) := by
  cases s with
  | nil =>
    have : B = [] := by have := r.1; simp [Sl.len] at this; exact List.eq_nil_of_length_eq_zero this.symm
    subst this
    simp [Sl.take, encs]
    rfl
  | «at» b o n =>
    obtain ⟨pre, h1, h2⟩ := r.2.2
    have hl := flatten_len (e := 1) (xss := B.map rnV) r.2.1
    rw [List.length_map, Nat.mul_one] at hl
    have e : Mem.rd ⟨lc, h⟩ ⟨b, o, none⟩ k = some ((B.take k).map rnV).flatten := by
      simp only [Mem.rd, Mem.obj, h1]
      rw [if_pos (by rw [List.length_append]; omega), ← h2, List.drop_left]
      have hf := congrArg List.flatten (List.take_append_drop k (B.map rnV))
      rw [List.flatten_append] at hf
      have ht : ((B.map rnV).take k).flatten.length = k := by
        rw [flatten_len (e := 1) fun x hx => r.2.1 x (List.mem_of_mem_take hx), List.length_take, List.length_map]; omega
      rw [← hf]
      conv => lhs; rw [show k = ((B.map rnV).take k).flatten.length from ht.symm]
      rw [List.map_take, ht, List.take_append_of_le_length (by omega), List.take_of_length_le (by omega)]
    simp only [r2sP, ROp.ev, opd, Sl.val, Sl.take, e, runesOf_map, Option.map_some]
    congr 2
    apply ba_ext
    rw [encAll_nat _ _ fun c hc => hB c (List.mem_of_mem_take hc), bs_l]
    simp
def lastZ (T : Tab) (M : List Nat) : Nat → Int
  | 0 => -1
  | i + 1 => if clT T (M.getD i 0) = 0 then (i : Int) else lastZ T M i
theorem lastZ_none {T : Tab} {M : List Nat} (h : ∀ x ∈ M, 0 < clT T x) : ∀ i, i ≤ M.length → lastZ T M i = -1
  | 0, _ => rfl
  | i + 1, hi => by
    have hx := h _ (List.getElem_mem (show i < M.length by omega))
    unfold lastZ
    rw [List.getD_eq_getElem?_getD, List.getElem?_eq_getElem (show i < M.length by omega), Option.getD_some, if_neg (by omega), lastZ_none h i (by omega)]
theorem lastZ_some {T : Tab} {P K : List Nat} {b : Nat} (hb : clT T b = 0) (h : ∀ x ∈ K, 0 < clT T x) : ∀ k, k ≤ K.length → lastZ T (P ++ b :: K) (P.length + 1 + k) = P.length
  | 0, _ => by
    show lastZ T (P ++ b :: K) (P.length + 1) = _
    unfold lastZ
    rw [if_pos (by simp [List.getD_eq_getElem?_getD, hb])]
  | k + 1, hk => by
    have hx := h _ (List.getElem_mem (show k < K.length by omega))
    show lastZ T (P ++ b :: K) ((P.length + 1 + k) + 1) = _
    unfold lastZ
    have hg : (P ++ b :: K).getD (P.length + 1 + k) 0 = K[k] := by
      rw [List.getD_eq_getElem?_getD, List.getElem?_append_right (by omega), show P.length + 1 + k - P.length = k + 1 by omega, List.getElem?_cons_succ, List.getElem?_eq_getElem (show k < K.length by omega), Option.getD_some]
    rw [hg, if_neg (by omega), lastZ_some hb h k (by omega)]
theorem lastZ_lay {T : Tab} {P : List Nat} {s : Lay} (ok : LayOk T P s) : lastZ T s.out s.out.length = seatI s := by
  rcases ok.cs with ⟨e1, e2, e3⟩ | ⟨b, P0, P1, e1, e2, _⟩
  · rw [show seatI s = -1 by unfold seatI; rw [e1]]
    refine lastZ_none (fun x hx => ?_) _ (Nat.le_refl _)
    have : x ∈ s.beh := by simpa [Lay.out, e1, e2] using hx
    exact ok.beh x this
  · have hout : s.out = s.pre ++ b :: s.beh := by simp [Lay.out, e1]
    rw [show seatI s = s.pre.length by unfold seatI; rw [e1]]
    have := lastZ_some (P := s.pre) e2 ok.beh s.beh.length (Nat.le_refl _)
    rw [hout, show (s.pre ++ b :: s.beh).length = s.pre.length + 1 + s.beh.length by simp; omega]
    exact this
set_option maxHeartbeats 1000000 in
theorem shutSteps_run {h : AH} (u : U8T h) (hg : 2 ≤ h.n) {S : TS} {T : Tab} (t : TabAt h S T) (x : ByteArray) (hx : x.size ≤ 1048576) (n : Int) (hn1 : -9223372036854775808 ≤ n) (hn2 : n < 9223372036854775808) :
    WpC PX 5 [.agg S.vs.toArray, .string x, .int .i64 n] h fun v _ => v = .bool true := by
  obtain ⟨_, g1, e1, k1, q⟩ := of_spec t u hg
  unfold TS.vs at *
  by_cases hb : goodB T = true
  · rw [if_pos hb] at q
    obtain ⟨k, B, S1, rfl, bk, _, _⟩ := q
    have e2 := few10_eq x hx (m := 1000) 1000 rfl (by decide) g1
    have fl := few_le x 1000
    generalize fewB x 1000 = y at e2 fl
    obtain ⟨_, g2, e3, rfl, k2⟩ := openOpen_spec hb bk.bk y (by omega)
    have hz : y.data.toList.length = y.size := rfl
    have hsn := spots_len y.data.toList
    have hrl := runesB_len y.data.toList
    have hol := openF_len hb (runesB_rune y.data.toList)
    have hPr := openL_all hb (runesB_rune y.data.toList)
    have hPo : Ordered (clT T) (openL T (runesB y.data.toList)) := ord_ordered _
    have hPl : (openL T (runesB y.data.toList)).length ≤ 6000 := by unfold openL; rw [ord_length]; omega
    have hoB : openB T y.data.toList = encs (openL T (runesB y.data.toList)) := rfl
    rw [hoB] at e3
    generalize openL T (runesB y.data.toList) = P at *
    have hPR : ∀ c ∈ P, RuneN c := fun c hc => (hPr c hc).1
    have hen := encs_lenle P
    obtain ⟨_, g3, e4, sl, rfl, fo⟩ := utfRunes_spec (bs (encs P)) (by rw [bs_size]; omega) g2
    rw [bs_l, runesB_of_encs hPR] at fo
    have bk3 := (bk.kp k2).kp fo.kp
    have k03 := (k1.trans k2).trans fo.kp
    have sll := fo.own.1
    rw [List.length_map] at sll
    by_cases hlen : P.length = 0
    · obtain ⟨_, g4, e7, rfl, k4⟩ := known10_spec (u.kp k03) (Nat.le_trans hg k03.1)
      refine wpc_fn (px_ext rfl) (px_fn fn_guiselaw10_ShutSteps) rfl ?_
      unfold LF_guiselaw10_ShutSteps
      simp only [argFr]
      (refine W_x (Aj e1 (Aj e2 (Aj e3 (Aj e4 (Aj sll e7))))) ?_; (repeat' first | apply Cj.mk | exact Nl.nl) <;> intros)
      rfl
    have ew := within_eq n 0 ((P.length : Int) - 1) (by omega) (by omega) (by omega) g3
    obtain ⟨w1, w2⟩ := within_range (n := n) (lo := 0) (hi := (P.length : Int) - 1) (by omega)
    generalize withinI n 0 ((P.length : Int) - 1) = w at ew w1 w2
    obtain ⟨i, rfl⟩ := Int.eq_ofNat_of_zero_le w1
    have hi : i < P.length := by omega
    have o1 : openL T (P.take i) = P.take i := openL_open (fun x hx => (hPr x (List.mem_of_mem_take hx)).2) (ordered_init (Q := P.drop i) (by rw [List.take_append_drop]; exact hPo))
    have o2 : openL T (P.take (i + 1)) = P.take (i + 1) := openL_open (fun x hx => (hPr x (List.mem_of_mem_take hx)).2) (ordered_init (Q := P.drop (i + 1)) (by rw [List.take_append_drop]; exact hPo))
    have r1 : ∀ c ∈ P.take i, RuneN c := fun c hc => hPR c (List.mem_of_mem_take hc)
    have r2 : ∀ c ∈ P.take (i + 1), RuneN c := fun c hc => hPR c (List.mem_of_mem_take hc)
    have s1 : shutB T (encs (P.take i)) = encs (laid T (P.take i)) := by unfold shutB; rw [runesB_of_encs r1, o1]
    have s2 : shutB T (encs (P.take (i + 1))) = encs (laid T (P.take (i + 1))) := by unfold shutB; rw [runesB_of_encs r2, o2]
    have ok := lay_ok hb (P := P.take i) (ordered_init (Q := P.drop i) (by rw [List.take_append_drop]; exact hPo)) fun x hx => (hPr x (List.mem_of_mem_take hx)).symm
    have hstep := layL_snoc (T := T) hi
    have hl2 : laid T (P.take (i + 1)) = (layS T (layL T (P.take i)) P[i]).out := by unfold laid; rw [hstep]
    have hl1 : laid T (P.take i) = (layL T (P.take i)).out := rfl
    rw [hl1] at s1
    rw [hl2] at s2
    have hseat := lastZ_lay ok
    have hen1 := encs_lenle (P.take i)
    have hen2 := encs_lenle (P.take (i + 1))
    rw [List.length_take] at hen1 hen2
    have olen := ok.len
    rw [List.length_take] at olen
    have orun := ok.run
    have gr := fun lc => rd_map (lc := lc) fo.reads hi
    have ht1 : ∀ lc, r2sP ⟨lc, g3⟩ ((sl.take i).val 1) = some (.string (bs (encs (P.take i)))) := fun lc => r2s_take fo.own hPR (by omega)
    have hs1 : slHi 1 (sl.val 1) (.int .i64 (i : Nat)) = some ((sl.take i).val 1) := by have := Sl.slHi_val (e := 1) (s := sl) (k := .i64) (j := (i : Int)) (by omega) (by omega); simpa using this
    have hs2 : slHi 1 (sl.val 1) (.int .i64 ((i : Int) + 1)) = some ((sl.take (i + 1)).val 1) := by
      have := Sl.slHi_val (e := 1) (s := sl) (k := .i64) (j := (i : Int) + 1) (by omega) (by omega)
      rw [this]
      rfl
    obtain ⟨_, g4, e5, rfl, k4⟩ := shutShut_spec hb bk3.bk (bs (encs (P.take i))) (by rw [bs_size]; omega)
    rw [bs_l, s1] at e5
    have hen3 := encs_lenle (layL T (P.take i)).out
    obtain ⟨_, g5, e6, sm, rfl, fm⟩ := utfRunes_spec (bs (encs (layL T (P.take i)).out)) (by rw [bs_size]; omega) g4
    rw [bs_l, runesB_of_encs orun] at fm
    have gr5 := fun lc => rd_map (lc := lc) ((fo.reads.kp k4).kp fm.kp) hi
    have rr := hPR _ (List.getElem_mem hi)
    unfold rnV at gr gr5
    generalize P[i] = r at *
    generalize layL T (P.take i) = st at *
    have bk5 := (bk3.kp k4).kp fm.kp
    have sml := fm.own.1
    rw [List.length_map] at sml
    refine wpc_fn (px_ext rfl) (px_fn fn_guiselaw10_ShutSteps) rfl ?_
    unfold LF_guiselaw10_ShutSteps
    simp only [argFr]
    (refine W_x (Aj e1 (Aj e2 (Aj e3 (Aj e4 (Aj sll (Aj ew (Aj hs1 (Aj ht1 (Aj e5 (Aj e6 gr5)))))))))) ?_; (repeat' first | apply Cj.mk | exact Nl.nl) <;> intros)
    have ok2 := lay_ok hb (P := P.take (i + 1)) (ordered_init (Q := P.drop (i + 1)) (by rw [List.take_append_drop]; exact hPo)) fun x hx => (hPr x (List.mem_of_mem_take hx)).symm
    rw [hstep] at ok2
    have orun2 := ok2.run
    have fin : ∀ g6 sw, FOwn g5 g6 1 sw ((layS T st r).out.map rnV) → ∃ g7 g8, (∀ lc, r2sP ⟨lc, g6⟩ ((sl.take (i + 1)).val 1) = some (.string (bs (encs (P.take (i + 1)))))) ∧ callO PX 13 [.pointer (some ⟨k, 0, none⟩), .string (bs (encs (P.take (i + 1))))] g6 = some (.string (bs (encs (layS T st r).out)), g7) ∧
        (∀ lc, r2sP ⟨lc, g6⟩ (sw.val 1) = some (.string (bs (encs (layS T st r).out)))) ∧ (∀ lc, r2sP ⟨lc, g7⟩ (sw.val 1) = some (.string (bs (encs (layS T st r).out)))) ∧ callO PX 11 [] g7 = some (.bool true, g8) := fun g6 sw fw => by
      have os : Own g6 1 sl (P.map rnV) := fo.own.keep fun b hb => (((k4.trans fm.kp).trans fw.kp).2 b (fo.own.lt hb))
      obtain ⟨_, g7, e8, rfl, k7⟩ := shutShut_spec hb (bk5.kp fw.kp).bk (bs (encs (P.take (i + 1)))) (by rw [bs_size]; omega)
      rw [bs_l, s2] at e8
      have ow : Own g7 1 sw ((layS T st r).out.map rnV) := fw.own.keep fun b hb => k7.2 b (fw.own.lt hb)
      have kk := (((k03.trans k4).trans fm.kp).trans fw.kp).trans k7
      obtain ⟨_, g8, e9, rfl, k8⟩ := known10_spec (u.kp kk) (Nat.le_trans hg kk.1)
      exact ⟨g7, g8, fun lc => r2s_take os hPR (by omega), e8, fun lc => r2s_own fw.own orun2, fun lc => r2s_own ow orun2, e9⟩
    have ec := class_eq bk5.bk
    have e7 := ec (r : Nat)
    rw [show classI T (r : Nat) = clT T r from rfl] at e7
    refine wp_forS (fun j (_ : Unit) => [(2, .int .i64 i), (7, .pointer (some ⟨k, 0, none⟩)), (10, sl.val 1), (11, sm.val 1), (12, .int .i32 r), (13, .int .i64 (lastZ T st.out j)), (14, .int .i64 j)]) (fun _ _ => []) st.out (fun _ _ h' => h' = g5) (fun _ _ => (none : Option Unit)) () rfl rfl rfl (fun j hj _ h1 hh hit => ?_) fun _ h1 hh fin' => ?_
    · subst hh
      have gj := fun lc => rd_map (lc := lc) fm.reads hj
      have hl : lastZ T st.out (j + 1) = if clT T st.out[j] = 0 then (j : Int) else lastZ T st.out j := by
        show (if clT T (st.out.getD j 0) = 0 then (j : Int) else lastZ T st.out j) = _
        rw [List.getD_eq_getElem?_getD, List.getElem?_eq_getElem hj, Option.getD_some]
      rw [hl]
      have e8 := ec (st.out[j] : Nat)
      unfold rnV at gj
      rw [show classI T (st.out[j] : Nat) = clT T st.out[j] from rfl] at e8
      generalize st.out[j] = z at gj e8 ⊢
      by_cases hz0 : clT T z = 0
      · rw [if_pos hz0]
        (refine W_x (Aj sml (Aj gj e8)) ?_; (repeat' first | apply Cj.mk | exact Nl.nl) <;> intros)
        exact ⟨rfl, (), rfl, rfl, rfl⟩
      · rw [if_neg hz0]
        (refine W_x (Aj sml (Aj gj e8)) ?_; (repeat' first | apply Cj.mk | exact Nl.nl) <;> intros)
        exact ⟨rfl, (), rfl, rfl, rfl⟩
    · subst hh
      rw [hseat]
      have rm := fm.reads
      have hcn : 0 ≤ clT T r := (class_range hb _).1
      have kout : st.out.length ≤ 6000 := by omega
      (refine W_x (Aj sml e7) ?_; (repeat' first | apply Cj.mk | exact Nl.nl) <;> intros)
      refine wo_appL (h0 := h1) (s := .at h1.n 0 0) (t := sm) (xss := []) (yss := st.out.map rnV) (FOwn.make (n := 0) (z := List.replicate 1 undef) (Kp.refl h1) (by simp)) (rm.kp ((Kp.refl h1).push _)) (by decide) (by decide) (by simp; omega) fun s3 h3 f3 => ?_
      rw [List.nil_append] at f3
      (refine W_x trivial ?_; (repeat' first | apply Cj.mk | exact Nl.nl) <;> intros)
      refine wo_app1 (cs := rnV r) f3 rfl rfl (by decide) (by decide) (by rw [List.length_map]; omega) fun s4 h4 f4 => ?_
      have f4' : FOwn h1 h4 1 s4 ((st.out ++ [r]).map rnV) := by rw [List.map_append]; exact f4
      have ec4 := class_eq (bk5.kp f4.kp).bk
      by_cases h0 : clT T r = 0
      · have hst : layS T st r = ⟨st.out, some r, []⟩ := by unfold layS; rw [if_pos h0]
        have hout : (layS T st r).out = st.out ++ [r] := by rw [hst]; simp [Lay.out]
        rw [← hout] at f4'
        obtain ⟨g7, g8, q1, q2, q3, q4, q5⟩ := fin h4 s4 f4'
        (refine W_y (Aj h0 (Aj sml (Aj hs2 (Aj q1 (Aj q2 (Aj q3 (Aj q4 q5))))))) ?_; (repeat' first | apply Cj.mk | exact Nl.nl) <;> intros)
        rfl
      have hc0 : 0 < clT T r := by omega
      have hsn : ∀ (e : layS T st r = ⟨st.pre, st.seat, st.beh ++ [r]⟩), (layS T st r).out = st.out ++ [r] := fun e => by rw [e]; simp [Lay.out]
      cases hseat2 : st.seat with
      | none =>
        have hsI : seatI st = -1 := by unfold seatI; rw [hseat2]
        have hst : layS T st r = ⟨st.pre, st.seat, st.beh ++ [r]⟩ := by unfold layS; rw [if_neg h0, hseat2]
        rw [← hsn hst] at f4'
        obtain ⟨g7, g8, q1, q2, q3, q4, q5⟩ := fin h4 s4 f4'
        rw [hsI]
        (refine W_y (Aj sml (Aj hs2 (Aj q1 (Aj q2 (Aj q3 (Aj q4 q5)))))) ?_; (repeat' first | apply Cj.mk | exact Nl.nl) <;> intros)
        rfl
      | some b =>
        have hsI : seatI st = st.pre.length := by unfold seatI; rw [hseat2]
        have hout : st.out = st.pre ++ b :: st.beh := by simp [Lay.out, hseat2]
        have hol2 : st.out.length = st.pre.length + 1 + st.beh.length := by rw [hout]; simp; omega
        have hi3 : st.pre.length < st.out.length := by omega
        have gb := fun lc => rd_map (lc := lc) (rm.kp f4.kp) hi3
        have hgb : st.out[st.pre.length] = b := by simp [hout]
        rw [hgb] at gb
        unfold rnV at gb
        have hrb : RuneN b := orun b (by rw [hout]; simp)
        have ej := bookJoined_eq (bk5.kp f4.kp).bk (b : Nat) (r : Nat)
        have hx1 : ((st.out.length : Int) - 1).toNat = st.out.length - 1 := by omega
        rw [hsI]
        have hbl : (st.beh = [] ∧ ¬ blocks T st.beh r) ∨ ∃ z, (∀ lc, Mem.rd ⟨lc, h4⟩ (sm.adr 1 (st.out.length - 1)) 1 = some (rnV z)) ∧ 0 < st.beh.length ∧ (blocks T st.beh r ↔ clT T r ≤ clT T z) := by
          rcases Nat.eq_zero_or_pos st.beh.length with hz0 | hz0
          · have : st.beh = [] := List.eq_nil_of_length_eq_zero hz0
            exact .inl ⟨this, by rw [this]; simp [blocks]⟩
          · have hlt : st.beh.length - 1 < st.beh.length := by omega
            have hlt2 : st.out.length - 1 < st.out.length := by omega
            refine .inr ⟨st.out[st.out.length - 1], fun lc => rd_map (lc := lc) (rm.kp f4.kp) hlt2, hz0, ?_⟩
            have hgl : st.beh.getLast? = some st.out[st.out.length - 1] := by
              rw [← List.getElem?_eq_getElem hlt2, ← List.getLast?_eq_getElem?, hout, List.getLast?_append, List.getLast?_cons]
              have : st.beh ≠ [] := fun e => by rw [e] at hz0; cases hz0
              rw [List.getLast?_eq_some_getLast this]
              simp
            unfold blocks
            rw [hgl]
            simp
        by_cases hB : blocks T st.beh r
        · have hst : layS T st r = ⟨st.pre, st.seat, st.beh ++ [r]⟩ := by unfold layS; rw [if_neg h0, hseat2]; simp only; rw [if_pos hB]
          rcases hbl with ⟨_, q⟩ | ⟨z, q1, q2, q3⟩
          · exact absurd hB q
          · have z4 := q3.1 hB
            have e5' := ec4 (z : Nat)
            rw [show classI T (z : Nat) = clT T z from rfl] at e5'
            unfold rnV at q1
            rw [← hsn hst] at f4'
            obtain ⟨g7, g8, p1, p2, p3, p4, p5⟩ := fin h4 s4 f4'
            (refine W_y (Aj sml (Aj hx1 (Aj q1 (Aj e5' (Aj hs2 (Aj p1 (Aj p2 (Aj p3 (Aj p4 p5))))))))) ?_; (repeat' first | apply Cj.mk | exact Nl.nl) <;> intros)
            rfl
        · cases hj : joinO T b r with
          | none =>
            have hst : layS T st r = ⟨st.pre, st.seat, st.beh ++ [r]⟩ := by
              unfold layS; rw [if_neg h0, hseat2]; simp only; rw [if_neg hB]
              unfold joinN; rw [hj]; rfl
            rw [hj] at ej
            simp only [Option.getD_none, Option.isSome_none] at ej
            rw [← hsn hst] at f4'
            obtain ⟨g7, g8, p1, p2, p3, p4, p5⟩ := fin h4 s4 f4'
            rcases hbl with ⟨q, _⟩ | ⟨z, q1, q2, q3⟩
            · rw [q, List.length_nil] at hol2
              (refine W_y (Aj sml (Aj gb (Aj ej (Aj hs2 (Aj p1 (Aj p2 (Aj p3 (Aj p4 p5)))))))) ?_; (repeat' first | apply Cj.mk | exact Nl.nl) <;> intros)
              rfl
            · have z4 : ¬ clT T r ≤ clT T z := fun q => hB (q3.2 q)
              have e5' := ec4 (z : Nat)
              rw [show classI T (z : Nat) = clT T z from rfl] at e5'
              unfold rnV at q1
              (refine W_y (Aj sml (Aj hx1 (Aj q1 (Aj e5' (Aj gb (Aj ej (Aj hs2 (Aj p1 (Aj p2 (Aj p3 (Aj p4 p5))))))))))) ?_; (repeat' first | apply Cj.mk | exact Nl.nl) <;> intros)
              rfl
          | some w =>
            have hw0 := (rune_iff.1 (good_pairs hb _ (join_mem hj)).2.2.2.1).1
            simp only at hw0
            have hwn : ((w.toNat : Nat) : Int) = w := by omega
            have hst : layS T st r = ⟨st.pre, some w.toNat, st.beh⟩ := by
              unfold layS; rw [if_neg h0, hseat2]; simp only; rw [if_neg hB]
              unfold joinN; rw [hj]; rfl
            rw [hj] at ej
            simp only [Option.getD_some, Option.isSome_some] at ej
            have tail : ∀ (s5 : Sl) (h5 : AH), FOwn h1 h5 1 s5 (st.out.map rnV) → s5.len = st.out.length ∧ ∃ h6, (∀ lc, Mem.wr ⟨lc, h5⟩ (s5.adr 1 st.pre.length) [.int .i32 w] = some ⟨lc, h6⟩) ∧ FOwn h1 h6 1 s5 ((layS T st r).out.map rnV) := fun s5 h5 f5 => by
              obtain ⟨h6, hw1, f6⟩ := f5.set (i := st.pre.length) (by rw [List.length_map]; exact hi3) (vs := rnV w.toNat) rfl
              have hset : (st.out.map rnV).set st.pre.length (rnV w.toNat) = (layS T st r).out.map rnV := by
                rw [hst, ← List.map_set, hout]
                simp [Lay.out]
              rw [hset] at f6
              unfold rnV at hw1
              rw [hwn] at hw1
              have := f5.own.1
              rw [List.length_map] at this
              exact ⟨this, h6, hw1, f6⟩
            rcases hbl with ⟨q, _⟩ | ⟨z, q1, q2, q3⟩
            · rw [q, List.length_nil] at hol2
              (refine W_x (Aj sml (Aj gb ej)) ?_; (repeat' first | apply Cj.mk | exact Nl.nl) <;> intros)
              refine wo_appL (h0 := h1) (s := .at h4.n 0 0) (t := sm) (xss := []) (yss := st.out.map rnV) (FOwn.make (n := 0) (z := List.replicate 1 undef) f4.kp (by simp)) (rm.kp (f4.kp.push _)) (by decide) (by decide) (by simp; omega) fun s5 h5 f5 => ?_
              rw [List.nil_append] at f5
              obtain ⟨l5, h6, hw1, f6⟩ := tail s5 h5 f5
              obtain ⟨g7, g8, p1, p2, p3, p4, p5⟩ := fin h6 s5 f6
              (refine W_y (Aj l5 (Aj hw1 (Aj hs2 (Aj p1 (Aj p2 (Aj p3 (Aj p4 p5))))))) ?_; (repeat' first | apply Cj.mk | exact Nl.nl) <;> intros)
              rfl
            · have z4 : ¬ clT T r ≤ clT T z := fun q => hB (q3.2 q)
              have e5' := ec4 (z : Nat)
              rw [show classI T (z : Nat) = clT T z from rfl] at e5'
              unfold rnV at q1
              (refine W_x (Aj sml (Aj hx1 (Aj q1 (Aj e5' (Aj gb ej))))) ?_; (repeat' first | apply Cj.mk | exact Nl.nl) <;> intros)
              refine wo_appL (h0 := h1) (s := .at h4.n 0 0) (t := sm) (xss := []) (yss := st.out.map rnV) (FOwn.make (n := 0) (z := List.replicate 1 undef) f4.kp (by simp)) (rm.kp (f4.kp.push _)) (by decide) (by decide) (by simp; omega) fun s5 h5 f5 => ?_
              rw [List.nil_append] at f5
              obtain ⟨l5, h6, hw1, f6⟩ := tail s5 h5 f5
              obtain ⟨g7, g8, p1, p2, p3, p4, p5⟩ := fin h6 s5 f6
              (refine W_y (Aj l5 (Aj hw1 (Aj hs2 (Aj p1 (Aj p2 (Aj p3 (Aj p4 p5))))))) ?_; (repeat' first | apply Cj.mk | exact Nl.nl) <;> intros)
              rfl
  · rw [if_neg hb] at q
    subst q
    obtain ⟨_, g4, e7, rfl, k4⟩ := known10_spec (u.kp k1) (Nat.le_trans hg k1.1)
    refine wpc_fn (px_ext rfl) (px_fn fn_guiselaw10_ShutSteps) rfl ?_
    unfold LF_guiselaw10_ShutSteps
    simp only [argFr]
    (refine W_x (Aj e1 e7) ?_; (repeat' first | apply Cj.mk | exact Nl.nl) <;> intros)
    rfl
end Go.Proofs.YtfiaggbgplmmeaaDoor.AM
