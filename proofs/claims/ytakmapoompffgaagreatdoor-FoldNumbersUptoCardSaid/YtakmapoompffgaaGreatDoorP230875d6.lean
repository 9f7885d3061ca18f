/- Parts of proofs: lemmas, joined. -/
import Derived.Test.YtakmapoompffgaaGreatDoorP824ad742
import Derived.Deep.DeepHandedRow
import Derived.OpenShut
import Derived.LaidLaws
set_option linter.unusedVariables false
set_option linter.unusedSimpArgs false
set_option linter.unusedSectionVars false
namespace Go.Proofs.YtakmapoompffgaaGreatDoor.AM
open Go
def spanF (x : Span) : Option Int := if runeI x.1 = false ∨ runeI x.2 = false then some 12 else if x.2 < x.1 then some 11 else none
theorem setsWrong_eq (x : Span) (h : AH) : callO PX 133 [.agg (pairV x).toArray] h = some (.int .i64 ((spanF x).getD 0), h) := by
  have e1 := validRune_eq
  apply WpC.eqn
  refine wpc_fn (px_ext rfl) (px_fn fn_sets_wrong) rfl ?_
  unfold LF_sets_wrong
  simp only [argFr]
  unfold spanF pairV
  have e2 := e1 x.1
  have e3 := e1 x.2
  generalize runeI x.1 = b1 at e2
  generalize runeI x.2 = b2 at e3
  cases b1
  · (refine W_x e2 ?_; (repeat' first | apply Cj.mk | exact Nl.nl) <;> intros)
    rw [if_pos (.inl rfl)]
    exact ⟨rfl, rfl⟩
  cases b2
  · (refine W_x (Aj e2 e3) ?_; (repeat' first | apply Cj.mk | exact Nl.nl) <;> intros)
    rw [if_pos (.inr rfl)]
    exact ⟨rfl, rfl⟩
  · (refine W_x (Aj e2 e3) ?_; (repeat' first | apply Cj.mk | exact Nl.nl) <;> intros)
    · rw [if_neg (by simp), if_pos (by omega)]; exact ⟨rfl, rfl⟩
    · rw [if_neg (by simp), if_neg (by omega)]; exact ⟨rfl, rfl⟩
theorem spanE_F (l : List Span) (i : Nat) (x : Span) : spanE l i x = (spanF x).or (if 0 < i ∧ x.1 ≤ (l.getD (i - 1) (0, 0)).2 then some 13 else none) := by
  unfold spanE spanF
  repeat' split
  all_goals rfl
theorem spanF_pos {x : Span} {e : Int} (h : spanF x = some e) : e ≠ 0 := by
  unfold spanF at h
  repeat' split at h
  all_goals first | (injection h with h; omega) | cases h
theorem setsRight_eq {s : Sl} {l : List Span} {h : AH} (rd : Reads h 2 s (l.map pairV)) (hl : l.length < 100000000) :
    callO PX 94 [s.val 2] h = some (.tuple (List.toArray (match spansE l with | some (e, i) => [.int .i64 i, .int .i64 e] | none => [.int .i64 0, .int .i64 0])), h) := by
  have hs := rd.len
  have e1 := fun x h => setsWrong_eq x h
  apply WpC.eqn
  refine wpc_fn (px_ext rfl) (px_fn fn_sets_Right) rfl ?_
  unfold LF_sets_Right
  simp only [argFr]
  unfold spansE
  (refine W_x hs ?_; (repeat' first | apply Cj.mk | exact Nl.nl) <;> intros)
  refine wp_scanF 9 l (fun i x => (spanE l i x).map fun e => (e, i)) (by intro n; simp only [setF, push_cast, Nat.reduceEqDiff, ↓reduceIte, reduceCtorEq, Nat.reduceAdd, Nat.reduceMul, Nat.reduceLeDiff]; rfl) rfl (fun i hi hit => ?_) fun fin => ?_
  · have g0 := fun lc => rd_map (lc := lc) rd hi
    have gp : 0 < i → ∀ lc, Mem.rd ⟨lc, h⟩ (ptrOff (s.adr 2 (i - 1)) 1) 1 = some [.int .i32 (l.getD (i - 1) (0, 0)).2] := fun h0 lc => by
      have := rd_mapc (lc := lc) rd (i := i - 1) (by omega) (k := 1) (by decide)
      rw [this, List.getD_eq_getElem?_getD, List.getElem?_eq_getElem (by omega : i - 1 < l.length), Option.getD_some]
      rfl
    have t1 : ((i : Int) - 1).toNat = i - 1 := by omega
    generalize l[i] = x at g0 hit
    rw [spanE_F] at hit ⊢
    generalize l.getD (i - 1) (0, 0) = y at gp hit
    have e2 := e1 x
    have hp := fun e => spanF_pos (x := x) (e := e)
    unfold pairV at e2 g0
    generalize spanF x = o at e2 hit hp
    cases o with
    | some e =>
      have := hp e rfl
      simp only [Option.getD_some] at e2
      rw [hit (e, i) rfl]
      (refine W_x (Aj hs (Aj g0 e2)) ?_; (repeat' first | apply Cj.mk | exact Nl.nl) <;> intros)
      exact ⟨rfl, rfl⟩
    | none =>
      simp only [Option.getD_none, Option.none_or] at e2 hit ⊢
      by_cases h0 : 0 < i
      · have gp := gp h0
        (refine W_x (Aj hs (Aj g0 (Aj e2 (Aj gp t1)))) ?_; (repeat' first | apply Cj.mk | exact Nl.nl) <;> intros)
        · rw [hit (13, i) (by rw [if_pos (by omega)]; rfl)]
          exact ⟨rfl, rfl⟩
        · exact ⟨by rw [if_neg (by omega)]; rfl, rfl, rfl, rfl⟩
      · (refine W_x (Aj hs (Aj g0 e2)) ?_; (repeat' first | apply Cj.mk | exact Nl.nl) <;> intros)
        exact ⟨by rw [if_neg (by omega)]; rfl, rfl, rfl, rfl⟩
  · rw [fin]
    (refine W_x hs ?_; (repeat' first | apply Cj.mk | exact Nl.nl) <;> intros)
    exact ⟨rfl, rfl⟩
structure SpOk (l : List Span) : Prop where
  rune : ∀ x ∈ l, runeI x.1 = true ∧ runeI x.2 = true ∧ x.1 ≤ x.2
  ord : ∀ i j (hi : i < j) (hj : j < l.length), (l[i]'(by omega)).2 < (l[j]).1
theorem spOk_of {l : List Span} (h : spansE l = none) : SpOk l := by
  unfold spansE at h
  have hx : ∀ i (hi : i < l.length), spanE l i l[i] = none := fun i hi => by
    have := scanL_none h i hi
    rwa [Option.map_eq_none_iff] at this
  have h1 : ∀ i (hi : i < l.length), runeI (l[i]).1 = true ∧ runeI (l[i]).2 = true ∧ (l[i]).1 ≤ (l[i]).2 := fun i hi => by
    have := hx i hi
    unfold spanE at this
    split at this
    · cases this
    · rename_i hr
      split at this
      · cases this
      · rename_i h2
        exact ⟨by cases hb : runeI (l[i]).1; exact absurd (.inl hb) hr; rfl, by cases hb : runeI (l[i]).2; exact absurd (.inr hb) hr; rfl, by omega⟩
  have h2 : ∀ i (hi : i + 1 < l.length), (l[i]'(by omega)).2 < (l[i + 1]).1 := fun i hi => by
    have := hx (i + 1) hi
    unfold spanE at this
    split at this
    · cases this
    · split at this
      · cases this
      · split at this
        · cases this
        · rename_i h3
          rw [Nat.add_sub_cancel, List.getD_eq_getElem?_getD, List.getElem?_eq_getElem (by omega : i < l.length), Option.getD_some] at h3
          omega
  refine ⟨fun x hx => ?_, fun i j hi hj => ?_⟩
  · obtain ⟨i, hi, rfl⟩ := List.mem_iff_getElem.1 hx
    exact h1 i hi
  · induction j with
    | zero => omega
    | succ j ih =>
      rcases Nat.lt_or_ge i j with h3 | h3
      · have h4 := ih h3 (by omega)
        have h5 := (h1 j (by omega)).2.2
        have h6 := h2 j hj
        omega
      · have : i = j := by omega
        subst this
        exact h2 i hj
theorem of1_eq (x : Span) (r : Int) (h : AH) (h1 : runeI x.1 = true) (h2 : runeI r = true) : callO PX 136 [.agg (pairV x).toArray, .int .i32 r] h = some (.int .i64 (x.1 - r), h) := by
  have a1 := of_decide_eq_true h1
  have a2 := of_decide_eq_true h2
  apply WpC.eqn
  refine wpc_fn (px_ext rfl) (px_fn fn_tables_of_1) rfl ?_
  unfold LF_tables_of_1
  simp only [argFr]
  unfold pairV
  (refine W_x trivial ?_; (repeat' first | apply Cj.mk | exact Nl.nl) <;> intros)
  exact ⟨rfl, rfl⟩
set_option maxHeartbeats 1000000 in
theorem bsf_eq {s : Sl} {l : List Span} {h : AH} (rd : Reads h 2 s (l.map pairV)) (hl : l.length < 100000000) (ok : SpOk l) (r : Int) (hr : runeI r = true) :
    ∃ k : Nat, k ≤ l.length ∧ (∀ j (hj : j < k) (hjl : j < l.length), (l[j]).1 < r) ∧ (∀ j (hj : j < l.length), k ≤ j → r ≤ (l[j]).1) ∧
      callO PX 135 [s.val 2, .int .i32 r, .func (.func 136) #[] #[]] h = some (.tuple (List.toArray [.int .i64 k, .bool (decide (k < l.length ∧ (l.getD k (0, 0)).1 = r))]), h) := by
  have hs := rd.len
  have ho := ok.ord
  have hm : ∀ i j (hi : i ≤ j) (hj : j < l.length), (l[i]'(by omega)).1 ≤ (l[j]).1 := fun i j hi hj => by
    rcases Nat.eq_or_lt_of_le hi with h1 | h1
    · subst h1; exact Int.le_refl _
    · have := ho i j h1 hj
      have := (ok.rune _ (List.getElem_mem (show i < l.length by omega))).2.2
      omega
  have main : WpC PX 135 [s.val 2, .int .i32 r, .func (.func 136) #[] #[]] h fun v h' => ∃ k : Nat, k ≤ l.length ∧ (∀ j (hj : j < k) (hjl : j < l.length), (l[j]).1 < r) ∧ (∀ j (hj : j < l.length), k ≤ j → r ≤ (l[j]).1) ∧
      v = .tuple (List.toArray [.int .i64 k, .bool (decide (k < l.length ∧ (l.getD k (0, 0)).1 = r))]) ∧ h' = h := by
    refine wpc_fn (px_ext rfl) (px_fn fn_slices_BinarySearchFunc_api_Span_api_Span_rune) rfl ?_
    unfold LF_slices_BinarySearchFunc_api_Span_api_Span_rune
    simp only [argFr]
    (refine W_x hs ?_; (repeat' first | apply Cj.mk | exact Nl.nl) <;> intros)
    refine wp_loop (fun w fr lc h1 => ∃ i j : Nat, w = j - i ∧ i ≤ j ∧ j ≤ l.length ∧ (∀ m (hm : m < i) (hml : m < l.length), (l[m]).1 < r) ∧ (∀ m (hm : m < l.length), j ≤ m → r ≤ (l[m]).1) ∧ h1 = h ∧ lc = [] ∧
      fr = [(0, s.val 2), (1, .int .i32 r), (2, .func (.func 136) #[] #[]), (8, .int .i64 l.length), (9, .int .i64 i), (10, .int .i64 j)]) l.length
      ⟨0, l.length, rfl, Nat.zero_le _, Nat.le_refl _, fun m h => absurd h (Nat.not_lt_zero _), fun m h1 h2 => by omega, rfl, rfl, rfl⟩ ?_
    rintro w fr lc h1 ⟨i, j, rfl, hij, hjl, hlo, hhi, rfl, rfl, rfl⟩
    rcases Nat.lt_or_ge i j with hlt | hge
    · obtain ⟨m, hm2⟩ : ∃ m : Nat, ((i : Int) + j) / 2 = m := ⟨(i + j) / 2, by omega⟩
      have hml : m < l.length := by omega
      have g0 := fun lc => rd_map (lc := lc) rd hml
      have hx := ok.rune _ (List.getElem_mem hml)
      have e1 := fun h => of1_eq l[m] r h hx.1 hr
      have ha : ∀ q (hq : q ≤ m), (l[q]'(by omega)).1 ≤ (l[m]).1 := fun q hq => hm q m hq hml
      have hb : ∀ q (hq : m ≤ q) (hql : q < l.length), (l[m]).1 ≤ (l[q]).1 := fun q hq hql => hm m q hq hql
      have r1 := of_decide_eq_true hx.1
      have r2 := of_decide_eq_true hr
      generalize l[m] = x at g0 e1 ha hb r1
      unfold pairV at g0 e1
      (refine W_x (Aj hs (Aj hm2 (Aj g0 e1))) ?_; (repeat' first | apply Cj.mk | exact Nl.nl) <;> intros)
      · exact ⟨_, by omega, m + 1, j, rfl, by omega, hjl, fun q hq hql => by have := ha q (by omega); omega, hhi, rfl, rfl, by simp only [Int.natCast_add]; rfl⟩
      · exact ⟨_, by omega, i, m, rfl, by omega, by omega, hlo, fun q hq hmq => by have := hb q hmq hq; omega, rfl, rfl, rfl⟩
    · have hie : i = j := by omega
      subst hie
      rcases Nat.lt_or_ge i l.length with hil | hil
      · have g0 := fun lc => rd_map (lc := lc) rd hil
        have hx := ok.rune _ (List.getElem_mem hil)
        have e1 := fun h => of1_eq l[i] r h hx.1 hr
        have hgd : l.getD i (0, 0) = l[i] := by rw [List.getD_eq_getElem?_getD, List.getElem?_eq_getElem hil, Option.getD_some]
        have fact : ∀ b, decide (i < l.length ∧ (l.getD i (0, 0)).1 = r) = b → ∃ k : Nat, k ≤ l.length ∧ (∀ j (hj : j < k) (hjl : j < l.length), (l[j]).1 < r) ∧ (∀ j (hj : j < l.length), k ≤ j → r ≤ (l[j]).1) ∧
            Value.tuple (List.toArray [.int .i64 i, .bool b]) = .tuple (List.toArray [.int .i64 k, .bool (decide (k < l.length ∧ (l.getD k (0, 0)).1 = r))]) ∧ h1 = h1 := fun b hb => ⟨i, hjl, hlo, hhi, by rw [hb], rfl⟩
        rw [hgd] at fact
        generalize l[i] = x at g0 e1 fact
        unfold pairV at g0 e1
        (refine W_x (Aj hs (Aj g0 e1)) ?_; (repeat' first | apply Cj.mk | exact Nl.nl) <;> intros)
        · exact fact true (decide_eq_true ⟨hil, by omega⟩)
        · exact fact false (decide_eq_false (by omega))
      · (refine W_x hs ?_; (repeat' first | apply Cj.mk | exact Nl.nl) <;> intros)
        exact ⟨i, hjl, hlo, hhi, by rw [decide_eq_false (by omega)], rfl⟩
  obtain ⟨v, h', e, k, h1, h2, h3, rfl, rfl⟩ := main
  exact ⟨k, h1, h2, h3, e⟩
theorem of_eq {s : Sl} {l : List Span} {h : AH} (rd : Reads h 2 s (l.map pairV)) (hl : l.length < 100000000) (ok : SpOk l) (r : Int) : callO PX 99 [.int .i32 r, s.val 2] h = some (.bool (ofI r l), h) := by
  have hs := rd.len
  have e1 := validRune_eq r
  unfold ofI
  apply WpC.eqn
  refine wpc_fn (px_ext rfl) (px_fn fn_tables_of) rfl ?_
  unfold LF_tables_of
  simp only [argFr]
  cases hr : runeI r with
  | false =>
    rw [hr] at e1
    (refine W_x e1 ?_; (repeat' first | apply Cj.mk | exact Nl.nl) <;> intros)
    exact ⟨rfl, rfl⟩
  | true =>
    rw [hr] at e1
    obtain ⟨k, h1, h2, h3, e2⟩ := bsf_eq rd hl ok r hr
    have hany : ∀ b, (b = true ↔ ∃ x ∈ l, x.1 ≤ r ∧ r ≤ x.2) → (l.any fun s => decide (s.1 ≤ r ∧ r ≤ s.2)) = b := fun b hb => by
      rw [Bool.eq_iff_iff, hb, List.any_eq_true]
      simp only [decide_eq_true_eq]
    have hk : (∃ x ∈ l, x.1 ≤ r ∧ r ≤ x.2) ↔ (k < l.length ∧ (l.getD k (0, 0)).1 = r) ∨ (0 < k ∧ r ≤ (l.getD (k - 1) (0, 0)).2) := by
      constructor
      · rintro ⟨x, hx, hx1, hx2⟩
        obtain ⟨i, hi, rfl⟩ := List.mem_iff_getElem.1 hx
        rcases Nat.lt_or_ge i k with hik | hik
        · right
          refine ⟨by omega, ?_⟩
          rw [List.getD_eq_getElem?_getD, List.getElem?_eq_getElem (by omega : k - 1 < l.length), Option.getD_some]
          rcases Nat.eq_or_lt_of_le (show i ≤ k - 1 by omega) with h | h
          · subst h; exact hx2
          · have := ok.ord i (k - 1) h (by omega)
            have := h2 (k - 1) (by omega) (by omega)
            omega
        · left
          have a1 := h3 i hi hik
          have hkl : k < l.length := by omega
          refine ⟨hkl, ?_⟩
          rw [List.getD_eq_getElem?_getD, List.getElem?_eq_getElem hkl, Option.getD_some]
          have a2 := h3 k hkl (Nat.le_refl _)
          rcases Nat.eq_or_lt_of_le hik with h | h
          · subst h; omega
          · have := ok.ord k i h hi
            have := (ok.rune _ (List.getElem_mem hkl)).2.2
            omega
      · rintro (⟨hkl, he⟩ | ⟨h0, he⟩)
        · rw [List.getD_eq_getElem?_getD, List.getElem?_eq_getElem hkl, Option.getD_some] at he
          have := (ok.rune _ (List.getElem_mem hkl)).2.2
          exact ⟨_, List.getElem_mem hkl, by omega, by omega⟩
        · rw [List.getD_eq_getElem?_getD, List.getElem?_eq_getElem (by omega : k - 1 < l.length), Option.getD_some] at he
          have := h2 (k - 1) (by omega) (by omega)
          exact ⟨_, List.getElem_mem (by omega : k - 1 < l.length), by omega, he⟩
    have gp : 0 < k → ∀ lc, Mem.rd ⟨lc, h⟩ (ptrOff (s.adr 2 (k - 1)) 1) 1 = some [.int .i32 (l.getD (k - 1) (0, 0)).2] := fun h0 lc => by
      have := rd_mapc (lc := lc) rd (i := k - 1) (by omega) (k := 1) (by decide)
      rw [this, List.getD_eq_getElem?_getD, List.getElem?_eq_getElem (by omega : k - 1 < l.length), Option.getD_some]
      rfl
    have t1 : ((k : Int) - 1).toNat = k - 1 := by omega
    rw [Bool.true_and]
    by_cases hd : k < l.length ∧ (l.getD k (0, 0)).1 = r
    · rw [decide_eq_true hd] at e2
      rw [hany true (by rw [hk]; exact iff_of_true rfl (.inl hd))]
      (refine W_x (Aj e1 e2) ?_; (repeat' first | apply Cj.mk | exact Nl.nl) <;> intros)
      exact ⟨rfl, rfl⟩
    · rw [decide_eq_false hd] at e2
      by_cases h0 : 0 < k
      · have gp := gp h0
        (refine W_x (Aj hs (Aj e1 (Aj e2 (Aj gp t1)))) ?_; (repeat' first | apply Cj.mk | exact Nl.nl) <;> intros)
        · rw [hany true (by rw [hk]; exact iff_of_true rfl (.inr ⟨h0, by omega⟩))]
          exact ⟨rfl, rfl⟩
        · rw [hany false (by rw [hk]; exact iff_of_false (by decide) (fun q => q.elim hd (fun q => by omega)))]
          exact ⟨rfl, rfl⟩
      · (refine W_x (Aj hs (Aj e1 e2)) ?_; (repeat' first | apply Cj.mk | exact Nl.nl) <;> intros)
        rw [hany false (by rw [hk]; exact iff_of_false (by decide) (fun q => q.elim hd (fun q => h0 q.1)))]
        exact ⟨rfl, rfl⟩
end Go.Proofs.YtakmapoompffgaaGreatDoor.AM
namespace Go.Proofs.YtakmapoompffgaaGreatDoor.AM
open Go
theorem runeCount_eq (s : ByteArray) (h : AH) (hsz : s.size < 100000000) : callO PX 96 [.string s] h = some (.int .i64 (spots s.data.toList).length, h) := by
  apply WpC.eqn
  obtain ⟨l, hl⟩ : ∃ l, l = s.data.toList := ⟨_, rfl⟩
  have hll : l.length = s.size := by rw [hl]; rfl
  have hsp := spots_len l
  rw [← hl]
  refine wpc_fn (px_ext rfl) (px_fn fn_utf8_RuneCountInString) rfl ?_
  unfold LF_utf8_RuneCountInString
  simp only [argFr]
  (refine W_x @ev_rngS ?_; (repeat' first | apply Cj.mk | exact Nl.nl) <;> intros)
  refine wp_spots (some 2) 8 s l (fun h' => h' = h) (fun i x => (none : Option Unit)) hl (by intro n; simp only [setF, push_cast, Nat.reduceEqDiff, ↓reduceIte, reduceCtorEq, Nat.reduceAdd, Nat.reduceMul, Nat.reduceLeDiff]; rfl) (by repeat' first | exact True.intro | refine And.intro rfl ?_) (fun _ => rfl) (by intro n; simp only [setL, push_cast, Nat.reduceEqDiff, ↓reduceIte, reduceCtorEq, Nat.reduceAdd, Nat.reduceMul, Nat.reduceLeDiff]; rfl) rfl rfl (fun i hi h1 hj hit => ?_) fun h1 hj fin => ?_
  · subst hj
    (refine W_x trivial ?_; (repeat' first | apply Cj.mk | exact Nl.nl) <;> intros)
    refine wo_next hl rfl hi ?_
    (refine W_x trivial ?_; (repeat' first | apply Cj.mk | exact Nl.nl) <;> intros)
    exact ⟨rfl, (by repeat' first | exact True.intro | refine And.intro rfl ?_), rfl, rfl⟩
  · subst hj
    (refine W_x trivial ?_; (repeat' first | apply Cj.mk | exact Nl.nl) <;> intros)
    refine wo_nextE hl rfl ?_
    (refine W_x trivial ?_; (repeat' first | apply Cj.mk | exact Nl.nl) <;> intros)
    exact ⟨rfl, rfl⟩
def fixB (s : ByteArray) : Bool := (runesB s.data.toList).any fun c => setI (c : Nat)
theorem any_runes {l : Bytes} {P : Nat → Bool} : (runesB l).any P = (scanL (spots l) fun i x => if P x.1 = true then some i else none).isSome := by
  unfold runesB
  rw [List.any_map]
  cases h : scanL (spots l) fun i x => if P x.1 = true then some i else none with
  | some w =>
    obtain ⟨i, hi, hw⟩ := scanL_some h
    rw [List.any_eq_true.2 ⟨_, List.getElem_mem hi, by by_cases hp : P (spots l)[i].1 = true; exact hp; rw [if_neg hp] at hw; cases hw⟩]; rfl
  | none =>
    rw [List.any_eq_false.2 fun x hx hp => ?_]; rfl
    obtain ⟨i, hi, rfl⟩ := List.mem_iff_getElem.1 hx
    have := scanL_none h i hi
    rw [if_pos (show P (spots l)[i].1 = true from hp)] at this
    cases this
theorem containsFixed_eq (s : ByteArray) (h : AH) (hsz : s.size < 100000000) : callO PX 102 [.string s, .func (.func 103) #[] #[]] h = some (.bool (fixB s), h) := by
  obtain ⟨l, hl⟩ : ∃ l, l = s.data.toList := ⟨_, rfl⟩
  have hll : l.length = s.size := by rw [hl]; rfl
  have e0 := fixed_eq
  have e1 : callO PX 147 [.string s, .func (.func 103) #[] #[], .bool true] h = some (.int .i64 (match scanL (spots l) fun i x => if setI (x.1 : Nat) = true then some i else none with | some i => (posn l i : Nat) | none => -1), h) := by
    apply WpC.eqn
    refine wpc_fn (px_ext rfl) (px_fn fn_strings_indexFunc) rfl ?_
    unfold LF_strings_indexFunc
    simp only [argFr]
    (refine W_x @ev_rngS ?_; (repeat' first | apply Cj.mk | exact Nl.nl) <;> intros)
    refine wp_spots none 20 s l (fun h' => h' = h) (fun i x => if setI (x.1 : Nat) = true then some i else none) hl (fun _ => rfl) (by repeat' first | exact True.intro | refine And.intro rfl ?_) (fun _ => rfl) (by intro n; simp only [setL, push_cast, Nat.reduceEqDiff, ↓reduceIte, reduceCtorEq, Nat.reduceAdd, Nat.reduceMul, Nat.reduceLeDiff]; rfl) rfl rfl (fun i hi h1 hj hit => ?_) fun h1 hj fin => ?_
    · subst hj
      (refine W_x trivial ?_; (repeat' first | apply Cj.mk | exact Nl.nl) <;> intros)
      refine wo_next hl rfl hi ?_
      generalize (spots l)[i] = x at hit
      have e2 := e0 (x.1 : Nat)
      generalize setI (x.1 : Nat) = b at e2 hit
      cases b
      · (refine W_x e2 ?_; (repeat' first | apply Cj.mk | exact Nl.nl) <;> intros)
        exact ⟨rfl, (by repeat' first | exact True.intro | refine And.intro rfl ?_), rfl, rfl⟩
      · rw [hit i rfl]
        (refine W_x e2 ?_; (repeat' first | apply Cj.mk | exact Nl.nl) <;> intros)
        exact ⟨rfl, rfl⟩
    · subst hj
      rw [fin]
      (refine W_x trivial ?_; (repeat' first | apply Cj.mk | exact Nl.nl) <;> intros)
      refine wo_nextE hl rfl ?_
      (refine W_x trivial ?_; (repeat' first | apply Cj.mk | exact Nl.nl) <;> intros)
      exact ⟨rfl, rfl⟩
  have e2 : callO PX 138 [.string s, .func (.func 103) #[] #[]] h = some (.int .i64 (match scanL (spots l) fun i x => if setI (x.1 : Nat) = true then some i else none with | some i => (posn l i : Nat) | none => -1), h) := by
    apply WpC.eqn
    refine wpc_fn (px_ext rfl) (px_fn fn_strings_IndexFunc) rfl ?_
    unfold LF_strings_IndexFunc
    simp only [argFr]
    (refine W_x e1 ?_; (repeat' first | apply Cj.mk | exact Nl.nl) <;> intros)
    exact ⟨rfl, rfl⟩
  apply WpC.eqn
  refine wpc_fn (px_ext rfl) (px_fn fn_strings_ContainsFunc) rfl ?_
  unfold LF_strings_ContainsFunc
  simp only [argFr]
  unfold fixB
  rw [← hl, any_runes]
  cases hc : scanL (spots l) fun i x => if setI (x.1 : Nat) = true then some i else none with
  | none =>
    rw [hc] at e2
    simp only at e2
    (refine W_x e2 ?_; (repeat' first | apply Cj.mk | exact Nl.nl) <;> intros)
    exact ⟨rfl, rfl⟩
  | some i =>
    rw [hc] at e2
    simp only at e2
    (refine W_x e2 ?_; (repeat' first | apply Cj.mk | exact Nl.nl) <;> intros)
    exact ⟨rfl, rfl⟩
def lettS : ByteArray := ⟨#[45, 48, 49, 50, 51, 52, 53, 54, 55, 56, 57, 97, 98, 99, 100, 101, 102, 103, 104, 105, 106, 107, 108, 109, 110, 111, 112, 113, 114, 115, 116, 117, 118, 119, 120, 121, 122]⟩
def idxBI (s : ByteArray) (n : Nat) : Int := match (List.range s.size).find? fun i => s[i]! == UInt8.ofNat n with
  | some i => (i : Int)
  | none => -1
set_option maxRecDepth 100000 in
theorem lett_idx : ∀ n : Fin 128, decide (0 ≤ idxBI lettS n.val) = lettI ((n.val : Nat) : Int) := by decide
def idxBP (v w : Value) : Option Value := (POp.idxB (.c v) (.c w)).ev []
theorem ev_idxBP {fr : Fr} {x c : Opd} : (POp.idxB x c).ev fr = idxBP (opd fr x) (opd fr c) := rfl
theorem idxBP_mk {s : ByteArray} {n : Int} : idxBP (.string s) (.int .u8 n) = some (.int .i64 (idxBI s n.toNat)) := rfl
theorem containsLett_eq (r : Int) (h : AH) (h0 : 0 ≤ r) (h1 : r < 128) : callO PX 104 [.string lettS, .int .i32 r] h = some (.bool (lettI r), h) := by
  obtain ⟨n, rfl⟩ : ∃ n : Nat, r = n := ⟨r.toNat, by omega⟩
  have e0 : callO PX 152 [.string lettS, .int .u8 n] h = some (.int .i64 (idxBI lettS n), h) := by
    apply WpC.eqn
    refine wpc_fn (px_ext rfl) (px_fn fn_internal_stringslite_IndexByte) rfl ?_
    unfold LF_internal_stringslite_IndexByte
    simp only [argFr]
    (refine W_x (Aj @ev_idxBP @idxBP_mk) ?_; (repeat' first | apply Cj.mk | exact Nl.nl) <;> intros)
    exact ⟨rfl, rfl⟩
  have e1 : callO PX 148 [.string lettS, .int .u8 n] h = some (.int .i64 (idxBI lettS n), h) := by
    apply WpC.eqn
    refine wpc_fn (px_ext rfl) (px_fn fn_strings_IndexByte) rfl ?_
    unfold LF_strings_IndexByte
    simp only [argFr]
    (refine W_x e0 ?_; (repeat' first | apply Cj.mk | exact Nl.nl) <;> intros)
    exact ⟨rfl, rfl⟩
  have e2 : callO PX 139 [.string lettS, .int .i32 n] h = some (.int .i64 (idxBI lettS n), h) := by
    apply WpC.eqn
    refine wpc_fn (px_ext rfl) (px_fn fn_strings_IndexRune) rfl ?_
    unfold LF_strings_IndexRune
    simp only [argFr]
    (refine W_x e1 ?_; (repeat' first | apply Cj.mk | exact Nl.nl) <;> intros)
    exact ⟨rfl, rfl⟩
  apply WpC.eqn
  refine wpc_fn (px_ext rfl) (px_fn fn_strings_ContainsRune) rfl ?_
  unfold LF_strings_ContainsRune
  simp only [argFr]
  rw [← lett_idx ⟨n, by omega⟩]
  generalize idxBI lettS n = z at e2
  (refine W_x e2 ?_; (repeat' first | apply Cj.mk | exact Nl.nl) <;> intros)
  all_goals (refine ⟨?_, rfl⟩; congr 1; symm; first | (exact decide_eq_true (by assumption)) | (exact decide_eq_false (by assumption)))
end Go.Proofs.YtakmapoompffgaaGreatDoor.AM
namespace Go.Proofs.YtakmapoompffgaaGreatDoor.AM
open Go
theorem or64 {a b : Nat} (ha : a < 18446744073709551616) (hb : b < 18446744073709551616) : binA .or (.int .u64 a) (.int .u64 b) = some (.int .u64 ((a ||| b : Nat) : Int)) ∧ (a ||| b) < 18446744073709551616 := by
  have hl : (a ||| b) < 2 ^ 64 := Nat.or_lt_two_pow ha hb
  refine ⟨?_, hl⟩
  show some (Value.int .u64 (IntKind.u64.wrap (BitVec.ofInt 64 (a : Int) ||| BitVec.ofInt 64 (b : Int)).toNat)) = _
  have e : (BitVec.ofInt 64 (a : Int) ||| BitVec.ofInt 64 (b : Int)).toNat = a ||| b := by
    rw [BitVec.toNat_or, show BitVec.ofInt 64 (a : Int) = BitVec.ofNat 64 a from BitVec.ofInt_natCast .., show BitVec.ofInt 64 (b : Int) = BitVec.ofNat 64 b from BitVec.ofInt_natCast .., BitVec.toNat_ofNat, BitVec.toNat_ofNat, Nat.mod_eq_of_lt ha, Nat.mod_eq_of_lt hb]
  rw [e, wrap_u64 (by omega) (by omega)]
theorem and64 {a b : Nat} (ha : a < 18446744073709551616) (hb : b < 18446744073709551616) : binA .and (.int .u64 a) (.int .u64 b) = some (.int .u64 ((a &&& b : Nat) : Int)) := by
  have hl : (a &&& b) < 2 ^ 64 := Nat.and_lt_two_pow a hb
  show some (Value.int .u64 (IntKind.u64.wrap (BitVec.ofInt 64 (a : Int) &&& BitVec.ofInt 64 (b : Int)).toNat)) = _
  have e : (BitVec.ofInt 64 (a : Int) &&& BitVec.ofInt 64 (b : Int)).toNat = a &&& b := by
    rw [BitVec.toNat_and, show BitVec.ofInt 64 (a : Int) = BitVec.ofNat 64 a from BitVec.ofInt_natCast .., show BitVec.ofInt 64 (b : Int) = BitVec.ofNat 64 b from BitVec.ofInt_natCast .., BitVec.toNat_ofNat, BitVec.toNat_ofNat, Nat.mod_eq_of_lt ha, Nat.mod_eq_of_lt hb]
  rw [e, wrap_u64 (by omega) (by omega)]
theorem shl64 {b : Nat} (hb : b < 256) (k : Nat) (hk : k ≤ 56) : ∃ m : Nat, binA .shl (.int .u64 b) (.int .u64 k) = some (.int .u64 m) ∧ m = b <<< k ∧ m < 18446744073709551616 := by
  have hp : 2 ^ k ≤ 2 ^ 56 := Nat.pow_le_pow_right (by decide) hk
  have hm : b * 2 ^ k < 18446744073709551616 := by
    have : b * 2 ^ k ≤ 255 * 2 ^ 56 := Nat.mul_le_mul (by omega) hp
    omega
  refine ⟨b <<< k, ?_, rfl, by rw [Nat.shiftLeft_eq]; exact hm⟩
  have e0 : binA .shl (.int .u64 b) (.int .u64 k) = if (k : Int) < 0 then none else some (Value.int .u64 (IntKind.u64.wrap ((b : Int) * 2 ^ (min (k : Int).toNat 64)))) := rfl
  rw [e0, if_neg (by omega), Nat.shiftLeft_eq]
  have e : min ((k : Int).toNat) 64 = k := by omega
  have e2 : ((b * 2 ^ k : Nat) : Int) = (b : Int) * 2 ^ k := by rw [Int.natCast_mul, Int.natCast_pow]; rfl
  rw [e, ← e2]
  generalize b * 2 ^ k = z at hm
  rw [wrap_u64 (by omega) (by omega)]
def wordN (l : Bytes) : Nat := ((((((bat l 0 ||| bat l 1 <<< 8) ||| bat l 2 <<< 16) ||| bat l 3 <<< 24) ||| bat l 4 <<< 32) ||| bat l 5 <<< 40) ||| bat l 6 <<< 48) ||| bat l 7 <<< 56
def hiC : Nat := 9259542123273814144
set_option maxRecDepth 10000 in
theorem byte_low {b : Nat} (hb : b < 256) (h : b.testBit 7 = false) : b < 128 := by
  have : ∀ x : Fin 256, x.val.testBit 7 = false → x.val < 128 := by decide
  exact this ⟨b, hb⟩ h
theorem word_low {l : Bytes} (h : wordN l &&& hiC = 0) : ∀ k, k < 8 → bat l k < 128 := by
  have hb := fun k => bat_lt l k
  have ht : ∀ i, (wordN l).testBit i = true → hiC.testBit i = true → False := fun i h1 h2 => by
    have := congrArg (fun n => Nat.testBit n i) h
    simp only [Nat.testBit_and, h1, h2, Nat.zero_testBit, Bool.and_self] at this
    cases this
  have hw : ∀ k, k < 8 → (bat l k).testBit 7 = true → (wordN l).testBit (8 * k + 7) = true := fun k hk h7 => by
    unfold wordN
    simp only [Nat.testBit_or, Nat.testBit_shiftLeft]
    rcases (show k = 0 ∨ k = 1 ∨ k = 2 ∨ k = 3 ∨ k = 4 ∨ k = 5 ∨ k = 6 ∨ k = 7 by omega) with rfl | rfl | rfl | rfl | rfl | rfl | rfl | rfl <;> simp [h7]
  have hc : ∀ k, k < 8 → hiC.testBit (8 * k + 7) = true := by decide
  intro k hk
  refine byte_low (hb k) ?_
  cases h7 : (bat l k).testBit 7 with
  | false => rfl
  | true => exact (ht _ (hw k hk h7) (hc k hk)).elim
theorem or_zero {a b : Nat} (h : (a ||| b) &&& hiC = 0) : a &&& hiC = 0 ∧ b &&& hiC = 0 := by
  rw [Nat.and_or_distrib_right] at h
  exact Nat.or_eq_zero_iff.1 h
theorem word_eq (s : ByteArray) (h : AH) (hs : 8 ≤ s.size) : callO PX 134 [.string s] h = some (.int .u64 (wordN s.data.toList), h) ∧ wordN s.data.toList < 18446744073709551616 := by
  obtain ⟨l, hl⟩ : ∃ l, l = s.data.toList := ⟨_, rfl⟩
  rw [← hl]
  have hb := fun k => bat_lt l k
  unfold wordN
  obtain ⟨b0, q0⟩ : ∃ x, bat l 0 = x := ⟨_, rfl⟩
  obtain ⟨b1, q1⟩ : ∃ x, bat l 1 = x := ⟨_, rfl⟩
  obtain ⟨b2, q2⟩ : ∃ x, bat l 2 = x := ⟨_, rfl⟩
  obtain ⟨b3, q3⟩ : ∃ x, bat l 3 = x := ⟨_, rfl⟩
  obtain ⟨b4, q4⟩ : ∃ x, bat l 4 = x := ⟨_, rfl⟩
  obtain ⟨b5, q5⟩ : ∃ x, bat l 5 = x := ⟨_, rfl⟩
  obtain ⟨b6, q6⟩ : ∃ x, bat l 6 = x := ⟨_, rfl⟩
  obtain ⟨b7, q7⟩ : ∃ x, bat l 7 = x := ⟨_, rfl⟩
  have c0 := hb 0; have c1 := hb 1; have c2 := hb 2; have c3 := hb 3; have c4 := hb 4; have c5 := hb 5; have c6 := hb 6; have c7 := hb 7
  rw [q0] at c0; rw [q1] at c1; rw [q2] at c2; rw [q3] at c3; rw [q4] at c4; rw [q5] at c5; rw [q6] at c6; rw [q7] at c7
  rw [q0, q1, q2, q3, q4, q5, q6, q7]
  obtain ⟨m1, s1, r1, d1⟩ := shl64 c1 8 (by decide)
  obtain ⟨m2, s2, r2, d2⟩ := shl64 c2 16 (by decide)
  obtain ⟨m3, s3, r3, d3⟩ := shl64 c3 24 (by decide)
  obtain ⟨m4, s4, r4, d4⟩ := shl64 c4 32 (by decide)
  obtain ⟨m5, s5, r5, d5⟩ := shl64 c5 40 (by decide)
  obtain ⟨m6, s6, r6, d6⟩ := shl64 c6 48 (by decide)
  obtain ⟨m7, s7, r7, d7⟩ := shl64 c7 56 (by decide)
  rw [← r1, ← r2, ← r3, ← r4, ← r5, ← r6, ← r7]
  obtain ⟨o1, p1⟩ := or64 (show b0 < 18446744073709551616 by omega) d1
  generalize b0 ||| m1 = n1 at o1 p1
  obtain ⟨o2, p2⟩ := or64 p1 d2
  generalize n1 ||| m2 = n2 at o2 p2
  obtain ⟨o3, p3⟩ := or64 p2 d3
  generalize n2 ||| m3 = n3 at o3 p3
  obtain ⟨o4, p4⟩ := or64 p3 d4
  generalize n3 ||| m4 = n4 at o4 p4
  obtain ⟨o5, p5⟩ := or64 p4 d5
  generalize n4 ||| m5 = n5 at o5 p5
  obtain ⟨o6, p6⟩ := or64 p5 d6
  generalize n5 ||| m6 = n6 at o6 p6
  obtain ⟨o7, p7⟩ := or64 p6 d7
  generalize n6 ||| m7 = n7 at o7 p7
  refine ⟨?_, p7⟩
  clear r1 r2 r3 r4 r5 r6 r7
  push_cast at s1 s2 s3 s4 s5 s6 s7
  apply WpC.eqn
  refine wpc_fn (px_ext rfl) (px_fn fn_utf8_word_string) rfl ?_
  unfold LF_utf8_word_string
  simp only [argFr]
  (refine W_x (Aj hl.symm (Aj q0 (Aj q1 (Aj q2 (Aj q3 (Aj q4 (Aj q5 (Aj q6 (Aj q7 (Aj s1 (Aj s2 (Aj s3 (Aj s4 (Aj s5 (Aj s6 (Aj s7 (Aj o1 (Aj o2 (Aj o3 (Aj o4 (Aj o5 (Aj o6 o7)))))))))))))))))))))) ?_; (repeat' first | apply Cj.mk | exact Nl.nl) <;> intros)
  exact ⟨rfl, rfl⟩
end Go.Proofs.YtakmapoompffgaaGreatDoor.AM
namespace Go.Proofs.YtakmapoompffgaaGreatDoor.AM
open Go
structure U8T (h : AH) : Prop where
  f : h.get 0 = some (.cells true firstV)
  a : h.get 1 = some (.cells true acceptV)
theorem U8T.kp {h h' : AH} (t : U8T h) (k : Kp h h') : U8T h' := ⟨k.get t.f, k.get t.a⟩
def fstN (x : Nat) : Nat := Go.Pinned.utf8FirstZ.getD x 0
set_option maxRecDepth 100000 in
theorem fst_len : Go.Pinned.utf8FirstZ.length = 256 := by decide
set_option maxRecDepth 100000 in
theorem fst_cls : ∀ x : Fin 256, 128 ≤ x.val → (194 ≤ x.val ∧ x.val ≤ 223 ∧ fstN x.val = 2) ∨ (x.val = 224 ∧ fstN x.val = 19) ∨ (x.val = 237 ∧ fstN x.val = 35) ∨ (225 ≤ x.val ∧ x.val ≤ 239 ∧ x.val ≠ 237 ∧ fstN x.val = 3) ∨ (x.val = 240 ∧ fstN x.val = 52) ∨ (x.val = 244 ∧ fstN x.val = 68) ∨
    (241 ≤ x.val ∧ x.val ≤ 243 ∧ fstN x.val = 4) ∨ ((x.val < 194 ∨ 244 < x.val) ∧ fstN x.val = 241) := by decide
theorem rd_first {h : AH} (t : U8T h) (lc : Lc) {x : Nat} (hx : x < 256) : Mem.rd ⟨lc, h⟩ ⟨0, x, none⟩ 1 = some [.int .u8 (fstN x)] := by
  have hl : firstV.length = 256 := by unfold firstV; rw [List.length_map, fst_len]
  rw [rd_heap, t.f]
  simp only [hl]
  rw [if_pos (by omega)]
  congr 1
  rw [List.drop_eq_getElem_cons (by omega), List.take_succ_cons, List.take_zero]
  unfold firstV fstN
  rw [List.getElem_map, List.getD_eq_getElem?_getD, List.getElem?_eq_getElem (by rw [fst_len]; exact hx), Option.getD_some]
theorem rd_accept {h : AH} (t : U8T h) (lc : Lc) (j : Fin 16) : Mem.rd ⟨lc, h⟩ ⟨1, 2 * j.val, none⟩ 2 = some [.int .u8 (acceptZ.getD j.val (0, 0)).1, .int .u8 (acceptZ.getD j.val (0, 0)).2] := by
  rw [rd_heap, t.a]
  obtain ⟨j, hj⟩ := j
  rcases (show j = 0 ∨ j = 1 ∨ j = 2 ∨ j = 3 ∨ j = 4 ∨ j = 5 ∨ j = 6 ∨ j = 7 ∨ j = 8 ∨ j = 9 ∨ j = 10 ∨ j = 11 ∨ j = 12 ∨ j = 13 ∨ j = 14 ∨ j = 15 by omega) with rfl | rfl | rfl | rfl | rfl | rfl | rfl | rfl | rfl | rfl | rfl | rfl | rfl | rfl | rfl | rfl <;> rfl
theorem rn_some {l : Bytes} : (rnB l).isSome = validB l := by
  unfold rnB
  split
  · rename_i h; rw [h]; rfl
  · rename_i h; rw [Bool.eq_false_iff.2 h]; rfl
theorem rn_skip : ∀ (k : Nat) {l : Bytes}, k ≤ l.length → (∀ i, i < k → bat l i < 128) → (rnB l).isSome = (rnB (l.drop k)).isSome
  | 0, l, _, _ => by rw [List.drop_zero]
  | k + 1, l, hk, h => by
    have hne : l ≠ [] := fun e => by rw [e] at hk; simp at hk
    have h0 := h 0 (by omega)
    have e : (rnB l).isSome = (rnB (l.drop 1)).isSome := by
      rcases seq1 hne with ⟨_, e⟩ | ⟨a, _⟩ | ⟨a, _⟩ | ⟨a, _⟩ | ⟨_, hh, _⟩
      · rw [e]; simp
      all_goals omega
    rw [e, rn_skip k (by rw [List.length_drop]; omega) (fun i hi => by rw [bat_drop]; exact h (1 + i) (by omega)), List.drop_drop]
    congr 3
    omega
theorem ext_drop (s : ByteArray) (i : Nat) (hi : i ≤ s.size) : (s.extract i s.size).data.toList = s.data.toList.drop i ∧ (s.extract i s.size).size = s.size - i := by
  have e := ba_extract s i s.size (Nat.le_refl _)
  have hz : s.size = s.data.toList.length := rfl
  rw [List.take_of_length_le (by rw [List.length_drop]; omega)] at e
  refine ⟨e, ?_⟩
  show (s.extract i s.size).data.size = _
  rw [← Array.length_toList, e, List.length_drop]
  omega
theorem u8a (z r : Int) (h : (z, r) ∈ [((2 : Int), (2 : Int)), (19, 3), (35, 3), (3, 3), (52, 4), (68, 4), (4, 4), (241, 1)]) : binA .and (.int .u8 z) (.int .u8 7) = some (.int .u8 r) := by
  simp only [List.mem_cons, List.mem_nil_iff, or_false, Prod.mk.injEq] at h
  rcases h with ⟨rfl, rfl⟩ | ⟨rfl, rfl⟩ | ⟨rfl, rfl⟩ | ⟨rfl, rfl⟩ | ⟨rfl, rfl⟩ | ⟨rfl, rfl⟩ | ⟨rfl, rfl⟩ | ⟨rfl, rfl⟩ <;> rfl
theorem u8s (z r : Int) (h : (z, r) ∈ [((2 : Int), (0 : Int)), (19, 1), (35, 2), (3, 0), (52, 3), (68, 4), (4, 0), (241, 15)]) : binA .shr (.int .u8 z) (.int .u64 4) = some (.int .u8 r) := by
  simp only [List.mem_cons, List.mem_nil_iff, or_false, Prod.mk.injEq] at h
  rcases h with ⟨rfl, rfl⟩ | ⟨rfl, rfl⟩ | ⟨rfl, rfl⟩ | ⟨rfl, rfl⟩ | ⟨rfl, rfl⟩ | ⟨rfl, rfl⟩ | ⟨rfl, rfl⟩ | ⟨rfl, rfl⟩ <;> rfl
set_option maxHeartbeats 4000000 in
theorem validString_eq (s : ByteArray) (h : AH) (hT : U8T h) (hsz : s.size < 100000000) : callO PX 97 [.string s] h = some (.bool (validB s.data.toList), h) := by
  apply WpC.eqn
  rw [← rn_some]
  obtain ⟨V, hV⟩ : ∃ V, V = (rnB s.data.toList).isSome := ⟨_, rfl⟩
  rw [← hV]
  refine wpc_fn (px_ext rfl) (px_fn fn_utf8_ValidString) rfl ?_
  unfold LF_utf8_ValidString
  simp only [argFr]
  (refine W_x trivial ?_; (repeat' first | apply Cj.mk | exact Nl.nl) <;> intros)
  refine wp_loopB (fun w fr lc h1 => ∃ t : ByteArray, w = t.size ∧ t.size < 100000000 ∧ V = (rnB t.data.toList).isSome ∧ h1 = h ∧ fr = [(0, .string t)] ∧ lc = []) s.size [(0, .string s)] (by repeat' first | exact True.intro | refine And.intro rfl ?_) ⟨s, rfl, hsz, hV, rfl, rfl, rfl⟩ (by rintro _ _ _ _ ⟨t, _, _, _, _, rfl, _⟩; rfl) ?_
  rintro w fr lc h1 ⟨t, rfl, htz, hV, rfl, rfl, rfl⟩
  obtain ⟨l, hl⟩ : ∃ l, l = t.data.toList := ⟨_, rfl⟩
  have hll : l.length = t.size := by rw [hl]; rfl
  rw [← hl] at hV
  rcases Nat.eq_zero_or_pos t.size with h0 | h0
  · have hn : l = [] := List.eq_nil_of_length_eq_zero (by omega)
    rw [hn, rnB_nil] at hV
    (refine W_x trivial ?_; (repeat' first | apply Cj.mk | exact Nl.nl) <;> intros)
    exact ⟨by rw [hV]; rfl, rfl⟩
  have hne : l ≠ [] := fun e => by rw [e] at hll; simp at hll; omega
  have cut : ∀ k : Nat, k ≤ t.size → ∃ u : ByteArray, t.extract k t.size = u ∧ u.data.toList = l.drop k ∧ u.size = t.size - k := fun k hk => by
    obtain ⟨a, b⟩ := ext_drop t k hk
    exact ⟨_, rfl, by rw [a, hl], b⟩
  obtain ⟨x0, q0⟩ : ∃ x, bat l 0 = x := ⟨_, rfl⟩
  have c0 := bat_lt l 0
  rw [q0] at c0
  by_cases hx : x0 < 128
  · obtain ⟨u, hu, ul, uz⟩ := cut 1 (by omega)
    have hV1 : V = (rnB u.data.toList).isSome := by rw [hV, ul]; exact rn_skip 1 (by omega) (fun i hi => by rw [show i = 0 by omega, q0]; exact hx)
    have hlt : u.size < t.size := by omega
    clear hV cut
    have ec : ((hiC : Nat) : Int) = 9259542123273814144 := rfl
    have fin : ∀ (w : ByteArray) (f : Fr), V = (rnB w.data.toList).isSome → w.size < t.size → AgF [(0, Value.string w)] f → ∃ n', n' < t.size ∧ ∃ f1 : Fr, AgF f1 f ∧ ∃ t1 : ByteArray, n' = t1.size ∧ t1.size < 100000000 ∧ V = (rnB t1.data.toList).isSome ∧ h1 = h1 ∧ f1 = [(0, .string t1)] ∧ ([] : Lc) = [] := fun w f a b c => ⟨_, b, _, c, w, rfl, by omega, a, rfl, rfl, rfl⟩
    have skip : ∀ (w : ByteArray) (k : Nat), V = (rnB w.data.toList).isSome → w.size < t.size → k ≤ w.size → (∀ i, i < k → bat w.data.toList i < 128) → ∃ w', w.extract k w.size = w' ∧ V = (rnB w'.data.toList).isSome ∧ w'.size < t.size ∧ w'.size = w.size - k := fun w k a b c d => by
      obtain ⟨e1, e2⟩ := ext_drop w k c
      exact ⟨_, rfl, by rw [e1, a]; exact rn_skip k (by rw [Array.length_toList]; exact c) d, by omega, e2⟩
    by_cases c8 : 8 < u.size
    · obtain ⟨w1, v1⟩ := word_eq u h1 (by omega)
      have ec1 := and64 v1 (show hiC < 18446744073709551616 by decide)
      rw [ec] at ec1
      by_cases z1 : wordN u.data.toList &&& hiC = 0
      · rw [z1] at ec1
        obtain ⟨u2, hu2, hV2, lt2, uz2⟩ := skip u 8 hV1 hlt (by omega) (word_low z1)
        by_cases c16 : 16 < u2.size
        · obtain ⟨w2, v2⟩ := word_eq u2 h1 (by omega)
          obtain ⟨d3, d3z⟩ := ext_drop u2 8 (by omega)
          obtain ⟨w3, v3⟩ := word_eq (u2.extract 8 u2.size) h1 (by omega)
          obtain ⟨o1, o2⟩ := or64 v2 v3
          have ec2 := and64 o2 (show hiC < 18446744073709551616 by decide)
          rw [ec] at ec2
          by_cases z2 : (wordN u2.data.toList ||| wordN (u2.extract 8 u2.size).data.toList) &&& hiC = 0
          · rw [z2] at ec2
            obtain ⟨y1, y2⟩ := or_zero z2
            have y1 := word_low y1
            have y2 := word_low y2
            obtain ⟨u3, hu3, hV3, lt3, uz3⟩ := skip u2 16 hV2 lt2 (by omega) (fun i hi => by
              rcases Nat.lt_or_ge i 8 with h8 | h8
              · exact y1 i h8
              · have := y2 (i - 8) (by omega)
                rw [d3, bat_drop, show 8 + (i - 8) = i by omega] at this
                exact this)
            (refine W_x (Aj hl.symm (Aj q0 (Aj hu (Aj w1 (Aj ec1 (Aj hu2 (Aj w2 (Aj w3 (Aj o1 (Aj ec2 hu3)))))))))) ?_; (repeat' first | apply Cj.mk | exact Nl.nl) <;> intros)
            clear hV1 hV2 w1 w2 w3 o1 o2 ec1 ec2 hu hu2 hu3 d3 d3z v1 v2 v3 z1 z2 y1 y2 c8 c16 uz uz2 uz3 ul hlt lt2
            refine wp_loopB (fun w fr lc h2 => ∃ t1 : ByteArray, w = t1.size ∧ V = (rnB t1.data.toList).isSome ∧ t1.size < t.size ∧ h2 = h1 ∧ fr = [(0, .string t1)] ∧ lc = []) u3.size [(0, .string u3)] (by repeat' first | exact True.intro | refine And.intro rfl ?_) ⟨u3, rfl, hV3, lt3, rfl, rfl, rfl⟩ (by rintro _ _ _ _ ⟨t, _, _, _, _, rfl, _⟩; rfl) ?_
            rintro w fr lc h2 ⟨t1, rfl, hV4, lt4, rfl, rfl, rfl⟩
            by_cases c32 : 32 < t1.size
            · obtain ⟨w1, v1⟩ := word_eq t1 h2 (by omega)
              obtain ⟨d2, d2z⟩ := ext_drop t1 8 (by omega)
              obtain ⟨w2, v2⟩ := word_eq (t1.extract 8 t1.size) h2 (by omega)
              obtain ⟨d3, d3z⟩ := ext_drop t1 16 (by omega)
              obtain ⟨w3, v3⟩ := word_eq (t1.extract 16 t1.size) h2 (by omega)
              obtain ⟨d4, d4z⟩ := ext_drop t1 24 (by omega)
              obtain ⟨w4, v4⟩ := word_eq (t1.extract 24 t1.size) h2 (by omega)
              obtain ⟨o1, o2⟩ := or64 v1 v2
              obtain ⟨o3, o4⟩ := or64 v3 v4
              obtain ⟨o5, o6⟩ := or64 o2 o4
              have ec2 := and64 o6 (show hiC < 18446744073709551616 by decide)
              rw [ec] at ec2
              by_cases z2 : ((wordN t1.data.toList ||| wordN (t1.extract 8 t1.size).data.toList) ||| (wordN (t1.extract 16 t1.size).data.toList ||| wordN (t1.extract 24 t1.size).data.toList)) &&& hiC = 0
              · rw [z2] at ec2
                obtain ⟨y12, y34⟩ := or_zero z2
                obtain ⟨y1, y2⟩ := or_zero y12
                obtain ⟨y3, y4⟩ := or_zero y34
                have y1 := word_low y1
                have y2 := word_low y2
                have y3 := word_low y3
                have y4 := word_low y4
                obtain ⟨u4, hu4, hV5, lt5, uz5⟩ := skip t1 32 hV4 lt4 (by omega) (fun i hi => by
                  rcases Nat.lt_or_ge i 8 with h8 | h8
                  · exact y1 i h8
                  rcases Nat.lt_or_ge i 16 with h16 | h16
                  · have := y2 (i - 8) (by omega)
                    rw [d2, bat_drop, show 8 + (i - 8) = i by omega] at this
                    exact this
                  rcases Nat.lt_or_ge i 24 with h24 | h24
                  · have := y3 (i - 16) (by omega)
                    rw [d3, bat_drop, show 16 + (i - 16) = i by omega] at this
                    exact this
                  · have := y4 (i - 24) (by omega)
                    rw [d4, bat_drop, show 24 + (i - 24) = i by omega] at this
                    exact this)
                (refine W_x (Aj w1 (Aj w2 (Aj w3 (Aj w4 (Aj o1 (Aj o3 (Aj o5 (Aj ec2 hu4)))))))) ?_; (repeat' first | apply Cj.mk | exact Nl.nl) <;> intros)
                exact ⟨_, by omega, _, (by repeat' first | exact True.intro | refine And.intro rfl ?_), u4, rfl, hV5, lt5, rfl, rfl, rfl⟩
              · generalize ((wordN t1.data.toList ||| wordN (t1.extract 8 t1.size).data.toList) ||| (wordN (t1.extract 16 t1.size).data.toList ||| wordN (t1.extract 24 t1.size).data.toList)) &&& hiC = zz at ec2 z2
                (refine W_x (Aj w1 (Aj w2 (Aj w3 (Aj w4 (Aj o1 (Aj o3 (Aj o5 ec2))))))) ?_; (repeat' first | apply Cj.mk | exact Nl.nl) <;> intros)
                exact fin t1 _ hV4 lt4 (by repeat' first | exact True.intro | refine And.intro rfl ?_)
            · (refine W_x trivial ?_; (repeat' first | apply Cj.mk | exact Nl.nl) <;> intros)
              exact fin t1 _ hV4 lt4 (by repeat' first | exact True.intro | refine And.intro rfl ?_)
          · generalize (wordN u2.data.toList ||| wordN (u2.extract 8 u2.size).data.toList) &&& hiC = zz at ec2 z2
            (refine W_x (Aj hl.symm (Aj q0 (Aj hu (Aj w1 (Aj ec1 (Aj hu2 (Aj w2 (Aj w3 (Aj o1 ec2))))))))) ?_; (repeat' first | apply Cj.mk | exact Nl.nl) <;> intros)
            exact fin u2 _ hV2 lt2 (by repeat' first | exact True.intro | refine And.intro rfl ?_)
        · (refine W_x (Aj hl.symm (Aj q0 (Aj hu (Aj w1 (Aj ec1 hu2))))) ?_; (repeat' first | apply Cj.mk | exact Nl.nl) <;> intros)
          exact fin u2 _ hV2 lt2 (by repeat' first | exact True.intro | refine And.intro rfl ?_)
      · generalize wordN u.data.toList &&& hiC = zz at ec1 z1
        (refine W_x (Aj hl.symm (Aj q0 (Aj hu (Aj w1 ec1)))) ?_; (repeat' first | apply Cj.mk | exact Nl.nl) <;> intros)
        exact fin u _ hV1 hlt (by repeat' first | exact True.intro | refine And.intro rfl ?_)
    · (refine W_x (Aj hl.symm (Aj q0 hu)) ?_; (repeat' first | apply Cj.mk | exact Nl.nl) <;> intros)
      exact fin u _ hV1 hlt (by repeat' first | exact True.intro | refine And.intro rfl ?_)
  ·
    obtain ⟨x1, q1⟩ : ∃ x, bat l 1 = x := ⟨_, rfl⟩
    obtain ⟨x2, q2⟩ : ∃ x, bat l 2 = x := ⟨_, rfl⟩
    obtain ⟨x3, q3⟩ : ∃ x, bat l 3 = x := ⟨_, rfl⟩
    have c1 := bat_lt l 1
    have c2 := bat_lt l 2
    have c3 := bat_lt l 3
    rw [q1] at c1
    rw [q2] at c2
    rw [q3] at c3
    have rf := fun lc => rd_first hT lc c0
    have ra := fun j lc => rd_accept hT lc j
    have fin : ∀ (k : Nat) (c : Nat) (f : Fr), 0 < k → k ≤ t.size → rnB l = (rnB (l.drop k)).map (c :: ·) → AgF [(0, Value.string (t.extract k t.size))] f → ∃ n', n' < t.size ∧ ∃ f1 : Fr, AgF f1 f ∧ ∃ t1 : ByteArray, n' = t1.size ∧ t1.size < 100000000 ∧ V = (rnB t1.data.toList).isSome ∧ h1 = h1 ∧ f1 = [(0, .string t1)] ∧ ([] : Lc) = [] := fun k c f h0 hk e ha => by
      obtain ⟨u, hu, ul, uz⟩ := cut k hk
      rw [hu] at ha
      exact ⟨_, by omega, _, ha, u, rfl, by omega, by rw [hV, e, ul]; simp, rfl, rfl, rfl⟩
    have badV : rnB l = none → V = false := fun e => by rw [hV, e]; rfl
    have g2 := seq1 hne
    clear hV cut
    simp only [acceptZ] at ra
    rcases fst_cls ⟨x0, c0⟩ (by simp only; omega) with ⟨a1, a2, hz⟩ | ⟨a1, hz⟩ | ⟨a1, hz⟩ | ⟨a1, a2, a3, hz⟩ | ⟨a1, hz⟩ | ⟨a1, hz⟩ | ⟨a1, a2, hz⟩ | ⟨a1, hz⟩
    all_goals simp only at hz
    · have rf : ∀ lc, Mem.rd ⟨lc, h1⟩ ⟨0, x0, none⟩ 1 = some [.int .u8 2] := fun lc => by rw [rf lc, hz]; rfl
      have e1 := u8a 2 2 (by simp)
      have e2 := u8s 2 0 (by simp)
      have r0 : ∀ lc, Mem.rd ⟨lc, h1⟩ ⟨1, 0, none⟩ 2 = some [.int .u8 128, .int .u8 191] := fun lc => ra 0 lc
      simp only at a1 a2
      rcases g2 with ⟨a, e⟩ | ⟨a, b, n, d1, r, e⟩ | ⟨a, b, n, d1, d2, r, v, e⟩ | ⟨a, b, n, d1, d2, d3, r, v, e⟩ | ⟨e, hh, b2, b3, b4⟩
      · rw [q0] at a; omega
      · simp only [q0, q1] at a b d1 r e
        (refine W_x (Aj hl.symm (Aj q0 (Aj q1 (Aj q2 (Aj q3 (Aj rf (Aj e1 (Aj e2 r0)))))))) ?_; (repeat' first | apply Cj.mk | exact Nl.nl) <;> intros)
        exact fin 2 _ _ (by decide) (by omega) e (by repeat' first | exact True.intro | refine And.intro rfl ?_)
      · simp only [q0, q1, q2] at a b d1 d2 r v e
        omega
      · simp only [q0, q1, q2, q3] at a b d1 d2 d3 r v e
        omega
      · have hVf := badV e
        simp only [q0, q1, q2, q3] at hh b2 b3 b4
        unfold RuneN at b3 b4
        (refine W_x (Aj hl.symm (Aj q0 (Aj q1 (Aj q2 (Aj q3 (Aj rf (Aj e1 (Aj e2 r0)))))))) ?_; (repeat' first | apply Cj.mk | exact Nl.nl) <;> intros)
        all_goals exact ⟨by rw [hVf], rfl⟩
    · have rf : ∀ lc, Mem.rd ⟨lc, h1⟩ ⟨0, x0, none⟩ 1 = some [.int .u8 19] := fun lc => by rw [rf lc, hz]; rfl
      have e1 := u8a 19 3 (by simp)
      have e2 := u8s 19 1 (by simp)
      have r0 : ∀ lc, Mem.rd ⟨lc, h1⟩ ⟨1, 2, none⟩ 2 = some [.int .u8 160, .int .u8 191] := fun lc => ra 1 lc
      simp only at a1
      rcases g2 with ⟨a, e⟩ | ⟨a, b, n, d1, r, e⟩ | ⟨a, b, n, d1, d2, r, v, e⟩ | ⟨a, b, n, d1, d2, d3, r, v, e⟩ | ⟨e, hh, b2, b3, b4⟩
      · rw [q0] at a; omega
      · simp only [q0, q1] at a b d1 r e
        omega
      · simp only [q0, q1, q2] at a b d1 d2 r v e
        unfold RuneN at v
        (refine W_x (Aj hl.symm (Aj q0 (Aj q1 (Aj q2 (Aj q3 (Aj rf (Aj e1 (Aj e2 r0)))))))) ?_; (repeat' first | apply Cj.mk | exact Nl.nl) <;> intros)
        exact fin 3 _ _ (by decide) (by omega) e (by repeat' first | exact True.intro | refine And.intro rfl ?_)
      · simp only [q0, q1, q2, q3] at a b d1 d2 d3 r v e
        omega
      · have hVf := badV e
        simp only [q0, q1, q2, q3] at hh b2 b3 b4
        unfold RuneN at b3 b4
        (refine W_x (Aj hl.symm (Aj q0 (Aj q1 (Aj q2 (Aj q3 (Aj rf (Aj e1 (Aj e2 r0)))))))) ?_; (repeat' first | apply Cj.mk | exact Nl.nl) <;> intros)
        all_goals exact ⟨by rw [hVf], rfl⟩
    · have rf : ∀ lc, Mem.rd ⟨lc, h1⟩ ⟨0, x0, none⟩ 1 = some [.int .u8 35] := fun lc => by rw [rf lc, hz]; rfl
      have e1 := u8a 35 3 (by simp)
      have e2 := u8s 35 2 (by simp)
      have r0 : ∀ lc, Mem.rd ⟨lc, h1⟩ ⟨1, 4, none⟩ 2 = some [.int .u8 128, .int .u8 159] := fun lc => ra 2 lc
      simp only at a1
      rcases g2 with ⟨a, e⟩ | ⟨a, b, n, d1, r, e⟩ | ⟨a, b, n, d1, d2, r, v, e⟩ | ⟨a, b, n, d1, d2, d3, r, v, e⟩ | ⟨e, hh, b2, b3, b4⟩
      · rw [q0] at a; omega
      · simp only [q0, q1] at a b d1 r e
        omega
      · simp only [q0, q1, q2] at a b d1 d2 r v e
        unfold RuneN at v
        (refine W_x (Aj hl.symm (Aj q0 (Aj q1 (Aj q2 (Aj q3 (Aj rf (Aj e1 (Aj e2 r0)))))))) ?_; (repeat' first | apply Cj.mk | exact Nl.nl) <;> intros)
        exact fin 3 _ _ (by decide) (by omega) e (by repeat' first | exact True.intro | refine And.intro rfl ?_)
      · simp only [q0, q1, q2, q3] at a b d1 d2 d3 r v e
        omega
      · have hVf := badV e
        simp only [q0, q1, q2, q3] at hh b2 b3 b4
        unfold RuneN at b3 b4
        (refine W_x (Aj hl.symm (Aj q0 (Aj q1 (Aj q2 (Aj q3 (Aj rf (Aj e1 (Aj e2 r0)))))))) ?_; (repeat' first | apply Cj.mk | exact Nl.nl) <;> intros)
        all_goals exact ⟨by rw [hVf], rfl⟩
    · have rf : ∀ lc, Mem.rd ⟨lc, h1⟩ ⟨0, x0, none⟩ 1 = some [.int .u8 3] := fun lc => by rw [rf lc, hz]; rfl
      have e1 := u8a 3 3 (by simp)
      have e2 := u8s 3 0 (by simp)
      have r0 : ∀ lc, Mem.rd ⟨lc, h1⟩ ⟨1, 0, none⟩ 2 = some [.int .u8 128, .int .u8 191] := fun lc => ra 0 lc
      simp only at a1 a2 a3
      rcases g2 with ⟨a, e⟩ | ⟨a, b, n, d1, r, e⟩ | ⟨a, b, n, d1, d2, r, v, e⟩ | ⟨a, b, n, d1, d2, d3, r, v, e⟩ | ⟨e, hh, b2, b3, b4⟩
      · rw [q0] at a; omega
      · simp only [q0, q1] at a b d1 r e
        omega
      · simp only [q0, q1, q2] at a b d1 d2 r v e
        unfold RuneN at v
        (refine W_x (Aj hl.symm (Aj q0 (Aj q1 (Aj q2 (Aj q3 (Aj rf (Aj e1 (Aj e2 r0)))))))) ?_; (repeat' first | apply Cj.mk | exact Nl.nl) <;> intros)
        exact fin 3 _ _ (by decide) (by omega) e (by repeat' first | exact True.intro | refine And.intro rfl ?_)
      · simp only [q0, q1, q2, q3] at a b d1 d2 d3 r v e
        omega
      · have hVf := badV e
        simp only [q0, q1, q2, q3] at hh b2 b3 b4
        unfold RuneN at b3 b4
        (refine W_x (Aj hl.symm (Aj q0 (Aj q1 (Aj q2 (Aj q3 (Aj rf (Aj e1 (Aj e2 r0)))))))) ?_; (repeat' first | apply Cj.mk | exact Nl.nl) <;> intros)
        all_goals exact ⟨by rw [hVf], rfl⟩
    · have rf : ∀ lc, Mem.rd ⟨lc, h1⟩ ⟨0, x0, none⟩ 1 = some [.int .u8 52] := fun lc => by rw [rf lc, hz]; rfl
      have e1 := u8a 52 4 (by simp)
      have e2 := u8s 52 3 (by simp)
      have r0 : ∀ lc, Mem.rd ⟨lc, h1⟩ ⟨1, 6, none⟩ 2 = some [.int .u8 144, .int .u8 191] := fun lc => ra 3 lc
      simp only at a1
      rcases g2 with ⟨a, e⟩ | ⟨a, b, n, d1, r, e⟩ | ⟨a, b, n, d1, d2, r, v, e⟩ | ⟨a, b, n, d1, d2, d3, r, v, e⟩ | ⟨e, hh, b2, b3, b4⟩
      · rw [q0] at a; omega
      · simp only [q0, q1] at a b d1 r e
        omega
      · simp only [q0, q1, q2] at a b d1 d2 r v e
        omega
      · simp only [q0, q1, q2, q3] at a b d1 d2 d3 r v e
        unfold RuneN at v
        (refine W_x (Aj hl.symm (Aj q0 (Aj q1 (Aj q2 (Aj q3 (Aj rf (Aj e1 (Aj e2 r0)))))))) ?_; (repeat' first | apply Cj.mk | exact Nl.nl) <;> intros)
        exact fin 4 _ _ (by decide) (by omega) e (by repeat' first | exact True.intro | refine And.intro rfl ?_)
      · have hVf := badV e
        simp only [q0, q1, q2, q3] at hh b2 b3 b4
        unfold RuneN at b3 b4
        (refine W_x (Aj hl.symm (Aj q0 (Aj q1 (Aj q2 (Aj q3 (Aj rf (Aj e1 (Aj e2 r0)))))))) ?_; (repeat' first | apply Cj.mk | exact Nl.nl) <;> intros)
        all_goals exact ⟨by rw [hVf], rfl⟩
    · have rf : ∀ lc, Mem.rd ⟨lc, h1⟩ ⟨0, x0, none⟩ 1 = some [.int .u8 68] := fun lc => by rw [rf lc, hz]; rfl
      have e1 := u8a 68 4 (by simp)
      have e2 := u8s 68 4 (by simp)
      have r0 : ∀ lc, Mem.rd ⟨lc, h1⟩ ⟨1, 8, none⟩ 2 = some [.int .u8 128, .int .u8 143] := fun lc => ra 4 lc
      simp only at a1
      rcases g2 with ⟨a, e⟩ | ⟨a, b, n, d1, r, e⟩ | ⟨a, b, n, d1, d2, r, v, e⟩ | ⟨a, b, n, d1, d2, d3, r, v, e⟩ | ⟨e, hh, b2, b3, b4⟩
      · rw [q0] at a; omega
      · simp only [q0, q1] at a b d1 r e
        omega
      · simp only [q0, q1, q2] at a b d1 d2 r v e
        omega
      · simp only [q0, q1, q2, q3] at a b d1 d2 d3 r v e
        unfold RuneN at v
        (refine W_x (Aj hl.symm (Aj q0 (Aj q1 (Aj q2 (Aj q3 (Aj rf (Aj e1 (Aj e2 r0)))))))) ?_; (repeat' first | apply Cj.mk | exact Nl.nl) <;> intros)
        exact fin 4 _ _ (by decide) (by omega) e (by repeat' first | exact True.intro | refine And.intro rfl ?_)
      · have hVf := badV e
        simp only [q0, q1, q2, q3] at hh b2 b3 b4
        unfold RuneN at b3 b4
        (refine W_x (Aj hl.symm (Aj q0 (Aj q1 (Aj q2 (Aj q3 (Aj rf (Aj e1 (Aj e2 r0)))))))) ?_; (repeat' first | apply Cj.mk | exact Nl.nl) <;> intros)
        all_goals exact ⟨by rw [hVf], rfl⟩
    · have rf : ∀ lc, Mem.rd ⟨lc, h1⟩ ⟨0, x0, none⟩ 1 = some [.int .u8 4] := fun lc => by rw [rf lc, hz]; rfl
      have e1 := u8a 4 4 (by simp)
      have e2 := u8s 4 0 (by simp)
      have r0 : ∀ lc, Mem.rd ⟨lc, h1⟩ ⟨1, 0, none⟩ 2 = some [.int .u8 128, .int .u8 191] := fun lc => ra 0 lc
      simp only at a1 a2
      rcases g2 with ⟨a, e⟩ | ⟨a, b, n, d1, r, e⟩ | ⟨a, b, n, d1, d2, r, v, e⟩ | ⟨a, b, n, d1, d2, d3, r, v, e⟩ | ⟨e, hh, b2, b3, b4⟩
      · rw [q0] at a; omega
      · simp only [q0, q1] at a b d1 r e
        omega
      · simp only [q0, q1, q2] at a b d1 d2 r v e
        omega
      · simp only [q0, q1, q2, q3] at a b d1 d2 d3 r v e
        unfold RuneN at v
        (refine W_x (Aj hl.symm (Aj q0 (Aj q1 (Aj q2 (Aj q3 (Aj rf (Aj e1 (Aj e2 r0)))))))) ?_; (repeat' first | apply Cj.mk | exact Nl.nl) <;> intros)
        exact fin 4 _ _ (by decide) (by omega) e (by repeat' first | exact True.intro | refine And.intro rfl ?_)
      · have hVf := badV e
        simp only [q0, q1, q2, q3] at hh b2 b3 b4
        unfold RuneN at b3 b4
        (refine W_x (Aj hl.symm (Aj q0 (Aj q1 (Aj q2 (Aj q3 (Aj rf (Aj e1 (Aj e2 r0)))))))) ?_; (repeat' first | apply Cj.mk | exact Nl.nl) <;> intros)
        all_goals exact ⟨by rw [hVf], rfl⟩
    · have rf : ∀ lc, Mem.rd ⟨lc, h1⟩ ⟨0, x0, none⟩ 1 = some [.int .u8 241] := fun lc => by rw [rf lc, hz]; rfl
      have e1 := u8a 241 1 (by simp)
      have e2 := u8s 241 15 (by simp)
      have r0 : ∀ lc, Mem.rd ⟨lc, h1⟩ ⟨1, 30, none⟩ 2 = some [.int .u8 0, .int .u8 0] := fun lc => ra 15 lc
      simp only at a1
      rcases g2 with ⟨a, e⟩ | ⟨a, b, n, d1, r, e⟩ | ⟨a, b, n, d1, d2, r, v, e⟩ | ⟨a, b, n, d1, d2, d3, r, v, e⟩ | ⟨e, hh, b2, b3, b4⟩
      · rw [q0] at a; omega
      · simp only [q0, q1] at a b d1 r e
        omega
      · simp only [q0, q1, q2] at a b d1 d2 r v e
        omega
      · simp only [q0, q1, q2, q3] at a b d1 d2 d3 r v e
        unfold RuneN at v; omega
      · have hVf := badV e
        simp only [q0, q1, q2, q3] at hh b2 b3 b4
        unfold RuneN at b3 b4
        (refine W_x (Aj hl.symm (Aj q0 (Aj q1 (Aj q2 (Aj q3 (Aj rf (Aj e1 (Aj e2 r0)))))))) ?_; (repeat' first | apply Cj.mk | exact Nl.nl) <;> intros)
        all_goals exact ⟨by rw [hVf], rfl⟩
end Go.Proofs.YtakmapoompffgaaGreatDoor.AM
namespace Go.Proofs.YtakmapoompffgaaGreatDoor.AM
open Go Go.ChangeShapes Go.WideShapes Go.ChangeAt Go.RowKit
abbrev laidL : List (String × DataW Unit) := [("unicode/utf8.acceptRanges", Rows.laid_unicode_utf8_acceptRanges), ("unicode/utf8.first", Rows.laid_unicode_utf8_first)]
def laidV : List (Nat × List Value) := [(0, firstV), (1, acceptV)]
theorem g_first : Tryz.prog.globalNamed "unicode/utf8.first" = some 0 := by kernel_rfl
theorem g_accept : Tryz.prog.globalNamed "unicode/utf8.acceptRanges" = some 1 := by kernel_rfl
set_option maxRecDepth 100000 in
theorem laid_start {W : World} (hL : laidMetH Tryz.prog laidL W) : HRel Tryz.prog W.heap.size (laidR Tryz.prog laidV) (laidH Tryz.prog laidV) W ∧ RO (laidH Tryz.prog laidV) ∧ U8T (laidH Tryz.prog laidV) ∧ 2 ≤ (laidH Tryz.prog laidV).n := by
  have hm : laidMet Tryz.prog laidL W := hL
  have gs : Tryz.prog.globals.size = 3 := by kernel_rfl
  have v1 : VarIs W 0 firstV := first_is (Lib.laidMet.reads hm (n := "unicode/utf8.first") (d := Rows.laid_unicode_utf8_first) (by simp [laidL])) g_first (t := 196) (e := 5) (by kernel_rfl) Tryz.underlying196 Tryz.underlying5 (by kernel_rfl) (by kernel_rfl)
  have v2 : VarIs W 1 acceptV := accept_is (Lib.laidMet.reads hm (n := "unicode/utf8.acceptRanges") (d := Rows.laid_unicode_utf8_acceptRanges) (by simp [laidL])) g_accept (t := 199) (e := 198) (by kernel_rfl) Tryz.underlying199 Tryz.underlying198 ⟨Tryz.underlying5, rfl, by kernel_rfl⟩ ⟨Tryz.underlying5, rfl, by kernel_rfl⟩ (by kernel_rfl) (by kernel_rfl)
  have hg : ∀ x ∈ laidV, x.1 < Tryz.prog.globals.size := fun x hx => by
    rw [gs]
    simp only [laidV, List.mem_cons, List.mem_nil_iff, or_false] at hx
    rcases hx with rfl | rfl <;> decide
  have hl := hrel_laid (P := Tryz.prog) (L := laidV) (w := W) hg (fun x hx => by
    simp only [laidV, List.mem_cons, List.mem_nil_iff, or_false] at hx
    rcases hx with rfl | rfl <;> decide) (fun x hx => by
    simp only [laidV, List.mem_cons, List.mem_nil_iff, or_false] at hx
    rcases hx with rfl | rfl
    · exact v1
    · exact v2)
  have hn := laidH_n Tryz.prog laidV
  rw [gs] at hn
  refine ⟨hl.1, hl.2, ⟨?_, ?_⟩, by omega⟩
  · simp only [laidH, laidV, List.foldr_cons, List.foldr_nil]
    exact AH.get_set_same _ (by rw [AH.set_n, gs]; decide)
  · simp only [laidH, laidV, List.foldr_cons, List.foldr_nil]
    rw [AH.get_set_ne _ (by decide)]
    exact AH.get_set_same _ (by rw [gs]; decide)
end Go.Proofs.YtakmapoompffgaaGreatDoor.AM
namespace Go.Proofs.YtakmapoompffgaaGreatDoor.AM
open Go Go.ChangeShapes Go.WideShapes Go.ChangeAt Go.RowKit
theorem own : ownKnob Tryz.prog.godebug = none := by kernel_rfl
theorem mixed : Tryz.prog.follows .mixedOrders = true := by kernel_rfl
theorem laidOut : laidOutB Tryz.prog = true := by kernel_rfl
def setO (xs : List Value) : Obj → Obj
  | .cells _ t frozen => .cells xs.toArray t frozen
  | o => o
noncomputable def laidWorld (os : Os) : World :=
  { World.holding Tryz.prog os ⟨#[], #[], []⟩ with heap := ((World.holding Tryz.prog os ⟨#[], #[], []⟩).heap.modify 0 (setO firstV)).modify 1 (setO acceptV) }
set_option maxRecDepth 100000 in
theorem laid_met (os : Os) (args : Array Value) : laidMet Tryz.prog laidL ((laidWorld os).forCall (fun _ _ => 0) ⟨#[], args, []⟩).memory :=
  laidMet_of_run' 8 (by kernel_rfl) (by kernel_rfl)
end Go.Proofs.YtakmapoompffgaaGreatDoor.AM
