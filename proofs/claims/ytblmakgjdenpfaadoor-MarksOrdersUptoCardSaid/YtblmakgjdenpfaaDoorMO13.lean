/- Parts of the proof of MarksOrders: its lemmas, joined. -/
import Derived.Test.YtblmakgjdenpfaaDoorMO12
set_option linter.unusedVariables false
set_option linter.unusedSimpArgs false
set_option linter.unusedSectionVars false
namespace Go.Proofs.YtblmakgjdenpfaaDoor.AM
section
variable (cl : Nat → Int)
def insR : List Nat → Nat → List Nat
  | [], r => [r]
  | x :: rs, r => if 0 < cl r ∧ cl r < cl x then x :: insR rs r else r :: x :: rs
def ord (l : List Nat) : List Nat := (l.foldl (insR cl) []).reverse
def Ordered : List Nat → Prop
  | a :: c :: t => ¬ (0 < cl c ∧ cl c < cl a) ∧ Ordered (c :: t)
  | _ => True
def inv : List Nat → Nat
  | [] => 0
  | a :: t => t.countP (fun c => decide (0 < cl c ∧ cl c < cl a)) + inv t
variable {cl}
theorem insR_perm : ∀ (rs : List Nat) (r : Nat), (insR cl rs r).Perm (r :: rs)
  | [], r => .refl _
  | x :: rs, r => by
    simp only [insR]
    split
    · exact ((insR_perm rs r).cons x).trans (.swap _ _ _)
    · exact .refl _
theorem foldl_perm : ∀ (l acc : List Nat), (l.foldl (insR cl) acc).Perm (l ++ acc)
  | [], acc => .refl _
  | r :: l, acc => (foldl_perm l (insR cl acc r)).trans (((insR_perm acc r).append_left l).trans List.perm_middle)
theorem ord_perm (l : List Nat) : (ord cl l).Perm l := (List.reverse_perm _).trans (by simpa using foldl_perm (cl := cl) l [])
theorem ord_length (l : List Nat) : (ord cl l).length = l.length := (ord_perm l).length_eq
theorem ord_mem {l : List Nat} {r : Nat} : r ∈ ord cl l ↔ r ∈ l := (ord_perm l).mem_iff
theorem ord_nil : ord cl [] = [] := rfl
theorem insR_wall {x : Nat} (hx : cl x ≤ 0) (ts : List Nat) : ∀ (A : List Nat) (r : Nat), insR cl (A ++ x :: ts) r = insR cl A r ++ x :: ts
  | [], r => by
    simp only [List.nil_append, insR]
    rw [if_neg (by omega)]
    rfl
  | a :: A, r => by
    simp only [List.cons_append, insR]
    split
    · rw [insR_wall hx ts A r]; rfl
    · rfl
theorem foldl_wall {x : Nat} (hx : cl x ≤ 0) (ts : List Nat) : ∀ (l A : List Nat), l.foldl (insR cl) (A ++ x :: ts) = l.foldl (insR cl) A ++ x :: ts
  | [], A => rfl
  | r :: l, A => by
    simp only [List.foldl_cons]
    rw [insR_wall hx, foldl_wall hx ts l]
theorem insR_base {r : Nat} (hr : cl r ≤ 0) (rs : List Nat) : insR cl rs r = r :: rs := by
  cases rs with
  | nil => rfl
  | cons x rs => simp only [insR]; rw [if_neg (by omega)]
theorem ord_base {r : Nat} (hr : cl r ≤ 0) (p q : List Nat) : ord cl (p ++ r :: q) = ord cl p ++ r :: ord cl q := by
  unfold ord
  rw [List.foldl_append, List.foldl_cons, insR_base hr]
  have := foldl_wall hr (p.foldl (insR cl) []) q []
  rw [List.nil_append] at this
  rw [this]
  simp
theorem ord_base0 {r : Nat} (hr : cl r ≤ 0) (q : List Nat) : ord cl (r :: q) = r :: ord cl q := by
  have := ord_base hr [] q
  rw [List.nil_append, ord_nil, List.nil_append] at this
  exact this
theorem ord_append {p q : List Nat} (h : p = [] ∨ q = [] ∨ (∃ a p', p = p' ++ [a] ∧ cl a ≤ 0) ∨ (∃ a q', q = a :: q' ∧ cl a ≤ 0)) : ord cl (p ++ q) = ord cl p ++ ord cl q := by
  rcases h with rfl | rfl | ⟨a, p', rfl, ha⟩ | ⟨a, q', rfl, ha⟩
  · simp [ord_nil]
  · simp [ord_nil]
  · rw [List.append_assoc, List.singleton_append, ord_base ha, ord_base ha, ord_nil]; simp
  · rw [ord_base ha, ord_base0 ha]
theorem ordered_tail {a : Nat} {t : List Nat} (h : Ordered cl (a :: t)) : Ordered cl t := by
  cases t with
  | nil => trivial
  | cons c t => exact h.2
theorem ordered_foldl : ∀ (l acc : List Nat), Ordered cl l → (∀ a c, acc.head? = some a → l.head? = some c → ¬ (0 < cl c ∧ cl c < cl a)) → l.foldl (insR cl) acc = l.reverse ++ acc
  | [], acc, _, _ => rfl
  | r :: l, acc, h, hh => by
    have hi : insR cl acc r = r :: acc := by
      cases acc with
      | nil => rfl
      | cons a acc =>
        simp only [insR]
        rw [if_neg (hh a r rfl rfl)]
    rw [List.foldl_cons, hi, ordered_foldl l (r :: acc) (ordered_tail h) (fun a c ha hc => by
      injection ha with ha
      subst ha
      cases l with
      | nil => cases hc
      | cons c' l => injection hc with hc; subst hc; exact h.1)]
    simp
theorem ord_of_ordered {l : List Nat} (h : Ordered cl l) : ord cl l = l := by
  unfold ord
  rw [ordered_foldl l [] h (fun a c ha => by cases ha)]
  simp
theorem insR_comm {a c : Nat} (hc : 0 < cl c) (ha : cl c < cl a) : ∀ rs : List Nat, insR cl (insR cl rs a) c = insR cl (insR cl rs c) a
  | [] => by simp only [insR]; rw [if_pos ⟨hc, ha⟩, if_neg (by omega)]
  | x :: rs => by
    have ih := insR_comm hc ha rs
    by_cases h1 : cl a < cl x
    · have h2 : cl c < cl x := by omega
      simp only [insR, if_pos (show 0 < cl a ∧ cl a < cl x from ⟨by omega, h1⟩), if_pos (show 0 < cl c ∧ cl c < cl x from ⟨hc, h2⟩), ih]
    · by_cases h2 : cl c < cl x
      · simp only [insR, if_neg (show ¬ (0 < cl a ∧ cl a < cl x) by omega), if_pos (show 0 < cl c ∧ cl c < cl x from ⟨hc, h2⟩), if_pos (show 0 < cl c ∧ cl c < cl a from ⟨hc, ha⟩)]
      · simp only [insR, if_neg (show ¬ (0 < cl a ∧ cl a < cl x) by omega), if_neg (show ¬ (0 < cl c ∧ cl c < cl x) by omega), if_pos (show 0 < cl c ∧ cl c < cl a from ⟨hc, ha⟩), if_neg (show ¬ (0 < cl a ∧ cl a < cl c) by omega)]
theorem ord_swap {a c : Nat} (hc : 0 < cl c) (ha : cl c < cl a) (p q : List Nat) : ord cl (p ++ a :: c :: q) = ord cl (p ++ c :: a :: q) := by
  unfold ord
  rw [List.foldl_append, List.foldl_append, List.foldl_cons, List.foldl_cons, List.foldl_cons, List.foldl_cons, insR_comm hc ha]
theorem inv_swap {a c : Nat} (hc : 0 < cl c) (ha : cl c < cl a) (q : List Nat) : ∀ p, inv cl (p ++ a :: c :: q) = inv cl (p ++ c :: a :: q) + 1
  | [] => by
    simp only [List.nil_append, inv, List.countP_cons]
    rw [if_pos (decide_eq_true ⟨hc, ha⟩), if_neg (by simp; omega)]
    omega
  | x :: p => by
    have ih := inv_swap hc ha q p
    simp only [List.cons_append, inv]
    have : (p ++ a :: c :: q).Perm (p ++ c :: a :: q) := (List.Perm.swap c a q).append_left p
    rw [this.countP_eq, ih]
    omega
def OrdR : List Nat → Prop
  | c :: a :: t => ¬ (0 < cl c ∧ cl c < cl a) ∧ OrdR (a :: t)
  | _ => True
theorem insR_ordR : ∀ (rs : List Nat) (r : Nat), OrdR (cl := cl) rs → OrdR (cl := cl) (insR cl rs r)
  | [], r, _ => trivial
  | x :: rs, r, h => by
    simp only [insR]
    split
    · rename_i hc
      have ht : OrdR (cl := cl) rs := by
        cases rs with
        | nil => trivial
        | cons y rs => exact h.2
      have ih := insR_ordR rs r ht
      cases rs with
      | nil => exact ⟨by omega, trivial⟩
      | cons y rs =>
        simp only [insR] at ih ⊢
        split at ih
        · rename_i h2; rw [if_pos h2]; exact ⟨h.1, ih⟩
        · rename_i h2; rw [if_neg h2]; exact ⟨by omega, ih⟩
    · rename_i hc
      exact ⟨hc, h⟩
theorem foldl_ordR : ∀ (l acc : List Nat), OrdR (cl := cl) acc → OrdR (cl := cl) (l.foldl (insR cl) acc)
  | [], acc, h => h
  | r :: l, acc, h => foldl_ordR l _ (insR_ordR acc r h)
theorem ordered_snoc : ∀ (l : List Nat) (c : Nat), Ordered cl l → (∀ a, l.getLast? = some a → ¬ (0 < cl c ∧ cl c < cl a)) → Ordered cl (l ++ [c])
  | [], c, _, _ => trivial
  | [a], c, _, h => ⟨h a rfl, trivial⟩
  | a :: b :: l, c, h, hl => ⟨h.1, ordered_snoc (b :: l) c h.2 fun x hx => hl x (by rw [List.getLast?_cons_cons]; exact hx)⟩
theorem ordered_reverse : ∀ (l : List Nat), OrdR (cl := cl) l → Ordered cl l.reverse
  | [], _ => trivial
  | [a], _ => trivial
  | c :: a :: t, h => by
    rw [List.reverse_cons]
    refine ordered_snoc _ _ (ordered_reverse (a :: t) h.2) fun x hx => ?_
    rw [List.reverse_cons, List.getLast?_append] at hx
    simp at hx
    subst hx
    exact h.1
theorem ord_ordered (l : List Nat) : Ordered cl (ord cl l) := ordered_reverse _ (foldl_ordR l [] trivial)
theorem ord_ord (l : List Nat) : ord cl (ord cl l) = ord cl l := ord_of_ordered (ord_ordered l)
end
end Go.Proofs.YtblmakgjdenpfaaDoor.AM
namespace Go.Proofs.YtblmakgjdenpfaaDoor.AM
open Go
section
variable {p : Prg} {fr : Fr} {lc : Lc} {h : AH} {Q : Post}
theorem wp_spotsG {β : Type} {n : Nat} {keep : List Nat} {sts : List St} {b : LCode} {L : Nat → Lc} (F : Nat → Fr) (K : Nat) (s : ByteArray) (l : Bytes) (J : Nat → AH → Prop) (g : Nat → Nat × Nat → Option β) (hl : l = s.data.toList)
    (hf0 : AgF (F 0) fr) (hk : ∀ i, okS keep ((F i).map (·.1)) n sts = true) (hL : ∀ n, setL lc K (.siter s n) = L n) (h0 : lc = L 0) (hJ : J 0 h)
    (more : ∀ i (hi : i < (spots l).length) h, J i h → (∀ w, g i (spots l)[i] = some w → scanL (spots l) g = some w) →
      WpS p keep sts (F i) (L (posn l i)) h (thenQ p b (loopQ (fun fr' lc' h' => g i (spots l)[i] = none ∧ AgF (F (i + 1)) fr' ∧ lc' = L (posn l (i + 1)) ∧ J (i + 1) h') Q) .norm))
    (fin : ∀ h, J (spots l).length h → scanL (spots l) g = none → WpS p keep sts (F (spots l).length) (L l.length) h (thenQ p b (loopQ (fun _ _ _ => False) Q) .norm)) : Wp p (.loop (.seq (R n keep sts) b)) fr lc h Q := by
  refine wp_scanL (spots l) g (fun i fr lc' h => AgF (F i) fr ∧ lc' = L (posn l i) ∧ J i h) ⟨hf0, by rw [posn_zero]; exact h0, hJ⟩ ?_ ?_
  · rintro fr _ h ⟨ha, rfl, hj⟩ fn
    rw [posn_all]
    exact wp_seq (wp_RA ha (hk _) (fin h hj fn))
  · rintro i hi fr _ h ⟨ha, rfl, hj⟩ hit
    refine wp_mono (wp_seq (wp_RA ha (hk _) (more i hi h hj hit))) fun ex fr lc h hq => ?_
    have hq := hq.out
    cases ex with
    | norm => exact ⟨⟨hq.1, hq.2.1, hq.2.2.1, hq.2.2.2⟩⟩
    | exit j => exact ⟨hq⟩
    | ret => exact ⟨hq⟩
end
abbrev clT (T : Tab) (c : Nat) : Int := classI T c
def prevC (T : Tab) (l : Bytes) : Nat → Int
  | 0 => 0
  | i + 1 => clT T ((spots l).getD i (0, 0)).1
theorem prevC_succ {T : Tab} {l : Bytes} {i : Nat} (hi : i < (spots l).length) : prevC T l (i + 1) = clT T ((spots l)[i]).1 := by
  simp only [prevC, List.getD_eq_getElem?_getD, List.getElem?_eq_getElem hi, Option.getD_some]
def firstM (T : Tab) (l : Bytes) : Option (Nat × Nat) := scanL (spots l) fun i x => if 0 < clT T x.1 ∧ clT T x.1 < prevC T l i then some (posn l i, i) else none
def plV : Option (Nat × Nat) → Value
  | some (a, b) => .tuple (List.toArray [.agg (List.toArray [.int .i64 a, .int .i64 b]), .bool true])
  | none => .tuple (List.toArray [.agg (List.toArray [.int .i64 0, .int .i64 0]), .bool false])
theorem marksFirst_eq {h : AH} {k B : Nat} {s6 : Sl} {T : Tab} (bk : BkAt h k B s6 T) (s : ByteArray) (hs : s.size ≤ 1048576) : callO PX 26 [.pointer (some ⟨k, 0, none⟩), .string s] h = some (plV (firstM T s.data.toList), h) := by
  have e1 := class_eq bk
  obtain ⟨l, hl⟩ : ∃ l, l = s.data.toList := ⟨_, rfl⟩
  have hz : l.length = s.size := by rw [hl]; rfl
  have hn := spots_len l
  rw [← hl]
  apply WpC.eqn
  refine wpc_fn (px_ext rfl) (px_fn fn_marks_First) rfl ?_
  unfold LF_marks_First
  simp only [argFr]
  unfold firstM
  (refine W_x @ev_rngS ?_; (repeat' first | apply Cj.mk | exact Nl.nl) <;> intros)
  refine wp_spotsG (fun i => [(0, .pointer (some ⟨k, 0, none⟩)), (4, .pointer (some ⟨8, 0, some 1⟩)), (6, .int .i64 (prevC T l i)), (7, .int .i64 i), (15, .pointer (some ⟨30, 0, some 1⟩))]) 30 s l (fun _ h' => h' = h)
    (fun i x => if 0 < clT T x.1 ∧ clT T x.1 < prevC T l i then some (posn l i, i) else none) hl (by repeat' first | exact True.intro | refine And.intro rfl ?_) (fun _ => rfl) (by intro n; simp only [setL, push_cast, Nat.reduceEqDiff, ↓reduceIte, reduceCtorEq, Nat.reduceAdd, Nat.reduceMul, Nat.reduceLeDiff]; rfl) rfl rfl (fun i hi h1 hh hit => ?_) fun h1 hh fin => ?_
  · subst hh
    (refine W_x trivial ?_; (repeat' first | apply Cj.mk | exact Nl.nl) <;> intros)
    refine wo_next hl rfl hi ?_
    have hp := prevC_succ (T := T) hi
    have hpn : posn l i ≤ 1048576 := by have := (posn_lt hi).1; omega
    generalize (spots l)[i] = y at hit hp
    have e2 := e1 (y.1 : Nat)
    rw [show classI T (y.1 : Nat) = clT T y.1 from rfl] at e2
    (refine W_x e2 ?_; (repeat' first | apply Cj.mk | exact Nl.nl) <;> intros)
    · rw [hit _ (if_pos (by omega))]
      exact ⟨rfl, rfl⟩
    all_goals exact ⟨if_neg (by omega), by rw [hp]; exact (by repeat' first | exact True.intro | refine And.intro rfl ?_), rfl, rfl⟩
  · subst hh
    (refine W_x trivial ?_; (repeat' first | apply Cj.mk | exact Nl.nl) <;> intros)
    refine wo_nextE hl rfl ?_
    (refine W_x trivial ?_; (repeat' first | apply Cj.mk | exact Nl.nl) <;> intros)
    rw [fin]
    exact ⟨rfl, rfl⟩
theorem ref8First_eq {S : TS} {T : Tab} {h : AH} (t : TabAt h S T) (s : ByteArray) (hs : s.size ≤ 1048576) : callO PX 27 [.agg S.vs.toArray, .string s] h = some (plV (firstM T s.data.toList), h) := by
  have e1 := class6_eq t
  obtain ⟨l, hl⟩ : ∃ l, l = s.data.toList := ⟨_, rfl⟩
  have hz : l.length = s.size := by rw [hl]; rfl
  have hn := spots_len l
  rw [← hl]
  apply WpC.eqn
  refine wpc_fn (px_ext rfl) (px_fn fn_guiseref8_First) rfl ?_
  unfold LF_guiseref8_First
  simp only [argFr]
  unfold firstM
  unfold TS.vs at e1 ⊢
  (refine W_x @ev_rngS ?_; (repeat' first | apply Cj.mk | exact Nl.nl) <;> intros)
  refine wp_spotsG (fun i => [(2, .pointer (some ⟨4, 0, some 1⟩)), (4, .pointer (some ⟨8, 0, some 1⟩)), (6, .int .i64 (prevC T l i)), (7, .int .i64 i), (12, .pointer (some ⟨24, 0, some 1⟩))]) 24 s l (fun _ h' => h' = h)
    (fun i x => if 0 < clT T x.1 ∧ clT T x.1 < prevC T l i then some (posn l i, i) else none) hl (by repeat' first | exact True.intro | refine And.intro rfl ?_) (fun _ => rfl) (by intro n; simp only [setL, push_cast, Nat.reduceEqDiff, ↓reduceIte, reduceCtorEq, Nat.reduceAdd, Nat.reduceMul, Nat.reduceLeDiff]; rfl) rfl rfl (fun i hi h1 hh hit => ?_) fun h1 hh fin => ?_
  · subst hh
    (refine W_x trivial ?_; (repeat' first | apply Cj.mk | exact Nl.nl) <;> intros)
    refine wo_next hl rfl hi ?_
    have hp := prevC_succ (T := T) hi
    have hpn : posn l i ≤ 1048576 := by have := (posn_lt hi).1; omega
    generalize (spots l)[i] = y at hit hp
    have e2 := e1 (y.1 : Nat)
    rw [show classI T (y.1 : Nat) = clT T y.1 from rfl] at e2
    (refine W_x e2 ?_; (repeat' first | apply Cj.mk | exact Nl.nl) <;> intros)
    · rw [hit _ (if_pos (by omega))]
      exact ⟨rfl, rfl⟩
    all_goals exact ⟨if_neg (by omega), by rw [hp]; exact (by repeat' first | exact True.intro | refine And.intro rfl ?_), rfl, rfl⟩
  · subst hh
    (refine W_x trivial ?_; (repeat' first | apply Cj.mk | exact Nl.nl) <;> intros)
    refine wo_nextE hl rfl ?_
    (refine W_x trivial ?_; (repeat' first | apply Cj.mk | exact Nl.nl) <;> intros)
    rw [fin]
    exact ⟨rfl, rfl⟩
end Go.Proofs.YtblmakgjdenpfaaDoor.AM
namespace Go.Proofs.YtblmakgjdenpfaaDoor.AM
open Go
section
variable {p : Prg} {fr : Fr} {lc : Lc} {h : AH} {Q : Post}
theorem wp_spotsS {σ β : Type} {n : Nat} {keep : List Nat} {sts : List St} {b : LCode} (F : Nat → σ → Fr) (L : Nat → σ → Lc) (s : ByteArray) (l : Bytes) (J : Nat → σ → AH → Prop) (g : Nat → Nat × Nat → Option β) (st0 : σ) (hl : l = s.data.toList)
    (hf0 : AgF (F 0 st0) fr) (hk : ∀ i st, okS keep ((F i st).map (·.1)) n sts = true) (h0 : lc = L 0 st0) (hJ : J 0 st0 h)
    (more : ∀ i (hi : i < (spots l).length) st h, J i st h → (∀ w, g i (spots l)[i] = some w → scanL (spots l) g = some w) →
      WpS p keep sts (F i st) (L (posn l i) st) h (thenQ p b (loopQ (fun fr' lc' h' => g i (spots l)[i] = none ∧ ∃ st', AgF (F (i + 1) st') fr' ∧ lc' = L (posn l (i + 1)) st' ∧ J (i + 1) st' h') Q) .norm))
    (fin : ∀ st h, J (spots l).length st h → scanL (spots l) g = none → WpS p keep sts (F (spots l).length st) (L l.length st) h (thenQ p b (loopQ (fun _ _ _ => False) Q) .norm)) : Wp p (.loop (.seq (R n keep sts) b)) fr lc h Q := by
  refine wp_scanL (spots l) g (fun i fr lc' h => ∃ st, AgF (F i st) fr ∧ lc' = L (posn l i) st ∧ J i st h) ⟨st0, hf0, by rw [posn_zero]; exact h0, hJ⟩ ?_ ?_
  · rintro fr _ h ⟨st, ha, rfl, hj⟩ fn
    rw [posn_all]
    exact wp_seq (wp_RA ha (hk _ _) (fin st h hj fn))
  · rintro i hi fr _ h ⟨st, ha, rfl, hj⟩ hit
    refine wp_mono (wp_seq (wp_RA ha (hk _ _) (more i hi st h hj hit))) fun ex fr lc h hq => ?_
    have hq := hq.out
    cases ex with
    | norm => exact ⟨⟨hq.1, hq.2⟩⟩
    | exit j => exact ⟨hq⟩
    | ret => exact ⟨hq⟩
theorem wp_forS {σ α β : Type} {a : LCode} (F : Nat → σ → Fr) (L : Nat → σ → Lc) (l : List α) (J : Nat → σ → AH → Prop) (g : Nat → α → Option β) (st0 : σ) (h0 : fr = F 0 st0) (hc : lc = L 0 st0) (hJ : J 0 st0 h)
    (more : ∀ i (hi : i < l.length) st h, J i st h → (∀ w, g i l[i] = some w → scanL l g = some w) → Wp p a (F i st) (L i st) h (loopQ (fun fr' lc' h' => g i l[i] = none ∧ ∃ st', fr' = F (i + 1) st' ∧ lc' = L (i + 1) st' ∧ J (i + 1) st' h') Q))
    (fin : ∀ st h, J l.length st h → scanL l g = none → Wp p a (F l.length st) (L l.length st) h (loopQ (fun _ _ _ => False) Q)) : Wp p (.loop a) fr lc h Q := by
  refine wp_scanL l g (fun i fr lc' h => ∃ st, fr = F i st ∧ lc' = L i st ∧ J i st h) ⟨st0, h0, hc, hJ⟩ ?_ ?_
  · rintro _ _ h ⟨st, rfl, rfl, hj⟩ fn
    exact fin st h hj fn
  · rintro i hi _ _ h ⟨st, rfl, rfl, hj⟩ hit
    refine wp_mono (more i hi st h hj hit) fun ex fr lc h hq => ?_
    have hq := hq.out
    cases ex with
    | norm => exact ⟨⟨hq.1, hq.2⟩⟩
    | exit j => exact ⟨hq⟩
    | ret => exact ⟨hq⟩
end
theorem runesB_take {l : Bytes} {i : Nat} (hi : i < (spots l).length) : (runesB l).take (i + 1) = (runesB l).take i ++ [((spots l)[i]).1] := by
  have hl : i < (runesB l).length := by rw [runesB, List.length_map]; exact hi
  rw [take_snoc hl]
  simp [runesB]
theorem runesB_len (l : Bytes) : (runesB l).length = (spots l).length := by rw [runesB, List.length_map]
theorem ref8Runes_spec (s : ByteArray) (hs : s.size ≤ 1048576) (h : AH) : WpC PX 53 [.string s] h fun v h' => ∃ sl, v = sl.val 1 ∧ FOwn h h' 1 sl ((runesB s.data.toList).map rnV) := by
  obtain ⟨l, hl⟩ : ∃ l, l = s.data.toList := ⟨_, rfl⟩
  have hz : l.length = s.size := by rw [hl]; rfl
  have hn := spots_len l
  rw [← hl]
  refine wpc_fn (px_ext rfl) (px_fn fn_guiseref8_Runes) rfl ?_
  unfold LF_guiseref8_Runes
  simp only [argFr]
  (refine W_x @ev_rngS ?_; (repeat' first | apply Cj.mk | exact Nl.nl) <;> intros)
  refine wp_spotsS (fun i sl => [(3, sl.val 1), (7, .pointer (some ⟨14, 0, some 1⟩))]) (fun n _ => [(14, .siter s n)]) s l (fun i sl h' => FOwn h h' 1 sl (((runesB l).take i).map rnV)) (fun _ _ => (none : Option Unit)) Sl.nil hl (by repeat' first | exact True.intro | refine And.intro rfl ?_) (fun _ _ => rfl) rfl (FOwn.nil (Kp.refl h))
    (fun i hi sl h1 fo hit => ?_) fun sl h1 fo fin => ?_
  · (refine W_x trivial ?_; (repeat' first | apply Cj.mk | exact Nl.nl) <;> intros)
    refine wo_next hl rfl hi ?_
    have ht := runesB_take hi
    generalize (spots l)[i] = y at ht
    (refine W_x trivial ?_; (repeat' first | apply Cj.mk | exact Nl.nl) <;> intros)
    refine wo_app1 (cs := rnV y.1) fo rfl rfl (by decide) (by decide) (by rw [List.length_map, List.length_take]; omega) fun s2 h2 f2 => ?_
    (refine W_x trivial ?_; (repeat' first | apply Cj.mk | exact Nl.nl) <;> intros)
    refine ⟨rfl, s2, (by repeat' first | exact True.intro | refine And.intro rfl ?_), rfl, ?_⟩
    rw [ht, List.map_append]
    exact f2
  · (refine W_x trivial ?_; (repeat' first | apply Cj.mk | exact Nl.nl) <;> intros)
    refine wo_nextE hl rfl ?_
    (refine W_x trivial ?_; (repeat' first | apply Cj.mk | exact Nl.nl) <;> intros)
    refine ⟨sl, rfl, ?_⟩
    rw [← runesB_len, List.take_length] at fo
    exact fo
theorem encs_snoc (B : List Nat) (c : Nat) : encs (B ++ [c]) = encs B ++ encN c := by
  rw [encs_append]
  simp [encs]
theorem encs_lenle (L : List Nat) : (encs L).length ≤ 4 * L.length := by
  induction L with
  | nil => simp [encs]
  | cons c L ih =>
    have := (encN_len c).2
    rw [encs_cons, List.length_append, List.length_cons]
    omega
theorem ref8Text_spec {s : Sl} {B : List Nat} {h : AH} (rd : Reads h 1 s (B.map rnV)) (hB : ∀ c ∈ B, RuneN c) (hn : B.length ≤ 10000000) : WpC PX 51 [s.val 1] h fun v h' => v = .string (bs (encs B)) ∧ Kp h h' := by
  have hs := rd.len
  refine wpc_fn (px_ext rfl) (px_fn fn_guiseref8_Text) rfl ?_
  unfold LF_guiseref8_Text
  simp only [argFr]
  (refine W_x hs ?_; (repeat' first | apply Cj.mk | exact Nl.nl) <;> intros)
  refine wp_forS (fun i sl => [(0, s.val 1), (3, sl.val 1), (4, .int .i64 i)]) (fun _ _ => []) B (fun i sl h' => FOwn h h' 1 sl ((encs (B.take i)).map byteV)) (fun _ _ => (none : Option Unit)) Sl.nil rfl rfl (by simpa [encs] using FOwn.nil (Kp.refl h)) (fun i hi sl h1 fo hit => ?_) fun sl h1 fo fin => ?_
  · have g0 := fun lc => rd_map (lc := lc) (rd.kp fo.kp) hi
    have hr := hB _ (List.getElem_mem hi)
    have ht := take_snoc hi
    generalize B[i] = c at g0 hr ht
    unfold rnV at g0
    have hl := encs_lenle (B.take i)
    rw [List.length_take] at hl
    obtain ⟨e, he⟩ : ∃ e, e = Utf8.encode (c : Int) := ⟨_, rfl⟩
    have he1 : e = bs (encN c) := he.trans (enc_bs hr)
    have he2 : e.size ≤ 4 := by rw [he1, bs_size]; exact (encN_len c).2
    have he3 : e.data.toList = encN c := by rw [he1, bs_l]
    clear he1
    (refine W_x (Aj hs (Aj g0 he.symm)) ?_; (repeat' first | apply Cj.mk | exact Nl.nl) <;> intros)
    refine wo_appT fo (by decide) (by rw [List.length_map]; omega) fun s2 h2 f2 => ?_
    rw [he3] at f2
    (refine W_x trivial ?_; (repeat' first | apply Cj.mk | exact Nl.nl) <;> intros)
    refine ⟨rfl, s2, rfl, rfl, ?_⟩
    rw [ht, encs_snoc, List.map_append]
    exact f2
  · have hb := fun lc => b2s_own (lc := lc) fo.own
    (refine W_x (Aj hs hb) ?_; (repeat' first | apply Cj.mk | exact Nl.nl) <;> intros)
    rw [List.take_length]
    exact ⟨rfl, fo.kp⟩
end Go.Proofs.YtblmakgjdenpfaaDoor.AM
namespace Go.Proofs.YtblmakgjdenpfaaDoor.AM
open Go
theorem ordered_of {cl : Nat → Int} : ∀ {l : List Nat}, (∀ j (hj : j + 1 < l.length), ¬ (0 < cl l[j + 1] ∧ cl l[j + 1] < cl (l[j]'(by omega)))) → Ordered cl l
  | [], _ => trivial
  | [a], _ => trivial
  | a :: c :: t, h => ⟨h 0 (by simp), ordered_of (l := c :: t) fun j hj => h (j + 1) (by simpa using hj)⟩
theorem swap_at {D : List Nat} {j : Nat} (hj : j + 1 < D.length) : D = D.take j ++ D[j] :: D[j + 1] :: D.drop (j + 2) ∧ (D.set (j + 1) D[j]).set j D[j + 1] = D.take j ++ D[j + 1] :: D[j] :: D.drop (j + 2) := by
  have h1 : D = D.take j ++ D[j] :: D[j + 1] :: D.drop (j + 2) := by
    conv => lhs; rw [← List.take_append_drop j D, List.drop_eq_getElem_cons (by omega), List.drop_eq_getElem_cons hj]
  refine ⟨h1, ?_⟩
  generalize hx : D[j] = x at h1 ⊢
  generalize hy : D[j + 1] = y at h1 ⊢
  have hp : (D.take j).length = j := by rw [List.length_take]; omega
  generalize D.take j = P at h1 hp ⊢
  generalize D.drop (j + 2) = S at h1 ⊢
  subst h1
  subst hp
  simp
theorem ref8Sorted_spec {S : TS} {T : Tab} {h : AH} (t : TabAt h S T) {s : Sl} {B : List Nat} (rd : Reads h 1 s (B.map rnV)) (hn : B.length ≤ 10000000) :
    WpC PX 52 [.agg S.vs.toArray, s.val 1] h fun v h' => ∃ sl, v = sl.val 1 ∧ FOwn h h' 1 sl ((ord (clT T) B).map rnV) := by
  refine wpc_fn (px_ext rfl) (px_fn fn_guiseref8_Sorted) rfl ?_
  unfold LF_guiseref8_Sorted
  simp only [argFr]
  unfold TS.vs
  (refine W_x trivial ?_; (repeat' first | apply Cj.mk | exact Nl.nl) <;> intros)
  refine wo_appL (s := .at h.n 0 0) (t := s) (xss := []) (yss := B.map rnV) (FOwn.make (n := 0) (z := List.replicate 1 undef) (Kp.refl h) (by simp)) (rd.kp ((Kp.refl h).push _)) (by decide) (by decide) (by simp; omega) fun sl h1 fo => ?_
  rw [List.nil_append] at fo
  (refine W_x trivial ?_; (repeat' first | apply Cj.mk | exact Nl.nl) <;> intros)
  refine wp_loopB (fun w fr lc g => ∃ (D : List Nat) (again : Bool), w = (if again then inv (clT T) D + 1 else 0) ∧ D.length = B.length ∧ ord (clT T) D = ord (clT T) B ∧ (again = false → Ordered (clT T) D) ∧ FOwn h g 1 sl (D.map rnV) ∧
    fr = [(2, .pointer (some ⟨4, 0, some 1⟩)), (5, sl.val 1), (6, .bool again)] ∧ lc = [(4, .cells false [S.s0.val 2, S.s1.val 2, S.s2.val 2, S.s3.val 3, S.s4.val 2, S.s5.val 2, S.s6.val 2, S.s7.val 2])]) (inv (clT T) B + 1) _ (by repeat' first | exact True.intro | refine And.intro rfl ?_) ⟨B, true, rfl, rfl, rfl, (fun q => by cases q), fo, rfl, rfl⟩ (fun w f0 lc h ⟨_, _, _, _, _, _, _, e, _⟩ => by rw [e]; rfl) ?_
  rintro w fr lc g ⟨D, again, rfl, hD, ho, hf, fo, rfl, rfl⟩
  cases again
  · (refine W_x trivial ?_; (repeat' first | apply Cj.mk | exact Nl.nl) <;> intros)
    refine ⟨sl, rfl, ?_⟩
    rw [← ho, ord_of_ordered (hf rfl)]
    exact fo
  · have sll := fo.own.1
    rw [List.length_map] at sll
    (refine W_x trivial ?_; (repeat' first | apply Cj.mk | exact Nl.nl) <;> intros)
    refine wp_loop (fun w fr lc g => ∃ (j : Nat) (E : List Nat) (again : Bool), w = D.length - j ∧ E.length = D.length ∧ ord (clT T) E = ord (clT T) D ∧ (again = false → E = D ∧ ∀ i (hi : i + 1 < D.length), i < j → ¬ (0 < clT T D[i + 1] ∧ clT T D[i + 1] < clT T (D[i]'(by omega)))) ∧ (again = true → inv (clT T) E < inv (clT T) D) ∧ FOwn h g 1 sl (E.map rnV) ∧
      fr = [(2, .pointer (some ⟨4, 0, some 1⟩)), (5, sl.val 1), (6, .bool again), (7, .int .i64 ((j : Int) + 1))] ∧ lc = [(4, .cells false [S.s0.val 2, S.s1.val 2, S.s2.val 2, S.s3.val 3, S.s4.val 2, S.s5.val 2, S.s6.val 2, S.s7.val 2])]) D.length
      ⟨0, D, false, rfl, rfl, rfl, fun _ => ⟨rfl, fun i hi h0 => by omega⟩, (fun q => by cases q), fo, rfl, rfl⟩ ?_
    rintro w fr lc g ⟨j, E, again, rfl, hE, hoE, hf1, hf2, fo, rfl, rfl⟩
    by_cases hj : j + 1 < E.length
    · have rdE := fo.reads
      have g0 := fun lc => rd_map (lc := lc) rdE (i := j) (by omega)
      have g1 := fun lc => rd_map (lc := lc) rdE hj
      have tt := t.kp fo.kp
      have e1 := class6_eq tt
      unfold TS.vs at e1
      obtain ⟨hs1, hs2⟩ := swap_at hj
      have hj0 : j < E.length := by omega
      have sw := fun (h1 : 0 < clT T E[j + 1]) (h2 : clT T E[j + 1] < clT T E[j]) => ord_swap (cl := clT T) (a := E[j]) (c := E[j + 1]) h1 h2 (E.take j) (E.drop (j + 2))
      have iw := fun (h1 : 0 < clT T E[j + 1]) (h2 : clT T E[j + 1] < clT T E[j]) => inv_swap (cl := clT T) (a := E[j]) (c := E[j + 1]) h1 h2 (E.drop (j + 2)) (E.take j)
      rw [← hs1, ← hs2] at sw iw
      have e2 := e1 (E[j] : Nat)
      have e3 := e1 (E[j + 1] : Nat)
      rw [show classI T (E[j] : Nat) = clT T E[j] from rfl] at e2
      rw [show classI T (E[j + 1] : Nat) = clT T E[j + 1] from rfl] at e3
      obtain ⟨g2, hw1, f1⟩ := fo.set (i := j + 1) (by rw [List.length_map]; exact hj) (vs := rnV E[j]) rfl
      obtain ⟨g3, hw2, f2⟩ := f1.set (i := j) (by rw [List.length_set, List.length_map]; omega) (vs := rnV E[j + 1]) rfl
      rw [← List.map_set, ← List.map_set] at f2
      have hix : ((j : Int) + 1 - 1).toNat = j := by omega
      have hix1 : ((j : Int) + 1).toNat = j + 1 := by omega
      have hEj : again = false → ∀ hi : j + 1 < D.length, E[j + 1] = D[j + 1] ∧ E[j] = D[j]'(by omega) := fun q hi => by
        have := (hf1 q).1
        subst this
        exact ⟨rfl, rfl⟩
      generalize E[j] = x at *
      generalize E[j + 1] = y at *
      unfold rnV at g0 g1 hw1 hw2
      (refine W_x (Aj sll (Aj hix (Aj hix1 (Aj g0 (Aj g1 (Aj e2 (Aj e3 (Aj hw1 hw2)))))))) ?_; (repeat' first | apply Cj.mk | exact Nl.nl) <;> intros)
      · have hs := sw (by omega) (by omega)
        have hi := iw (by omega) (by omega)
        refine ⟨_, by omega, j + 1, (E.set (j + 1) x).set j y, true, rfl, by rw [List.length_set, List.length_set]; exact hE, by rw [← hs]; exact hoE, (fun q => by cases q), fun _ => ?_, f2, by simp only [Int.natCast_add]; rfl, rfl⟩
        cases again with
        | true => have := hf2 rfl; omega
        | false => rw [← (hf1 rfl).1]; omega
      all_goals
        refine ⟨_, by omega, j + 1, E, again, rfl, hE, hoE, fun q => ⟨(hf1 q).1, fun i hi hij => ?_⟩, hf2, fo, by simp only [Int.natCast_add]; rfl, rfl⟩
        rcases Nat.lt_or_ge i j with h5 | h5
        · exact (hf1 q).2 i hi h5
        · have h6 : i = j := by omega
          subst h6
          rw [← (hEj q hi).1, ← (hEj q hi).2]
          omega
    · (refine W_x sll ?_; (repeat' first | apply Cj.mk | exact Nl.nl) <;> intros)
      refine ⟨_, ?_, _, (by repeat' first | exact True.intro | refine And.intro rfl ?_), E, again, rfl, by omega, by rw [hoE, ho], fun q => ?_, fo, rfl, rfl⟩
      · cases again with
        | true => have := hf2 rfl; simp only [if_true]; omega
        | false => simp
      · rw [(hf1 q).1]
        exact ordered_of fun i hi => (hf1 q).2 i hi (by omega)
theorem ord_rune {cl : Nat → Int} {L : List Nat} (h : ∀ c ∈ L, RuneN c) : ∀ c ∈ ord cl L, RuneN c := fun c hc => h c (ord_mem.1 hc)
def orderB (T : Tab) (l : Bytes) : Bytes := encs (ord (clT T) (runesB l))
theorem ref8Order_spec {S : TS} {T : Tab} {h : AH} (t : TabAt h S T) (s : ByteArray) (hs : s.size ≤ 1048576) : WpC PX 28 [.agg S.vs.toArray, .string s] h fun v h' => v = .string (bs (orderB T s.data.toList)) ∧ Kp h h' := by
  have hz : s.data.toList.length = s.size := rfl
  have hn := spots_len s.data.toList
  have hl := runesB_len s.data.toList
  obtain ⟨_, g1, e1, s1, rfl, f1⟩ := ref8Runes_spec s hs h
  obtain ⟨_, g2, e2, s2, rfl, f2⟩ := ref8Sorted_spec (t.kp f1.kp) f1.reads (by omega)
  obtain ⟨_, g3, e3, rfl, k3⟩ := ref8Text_spec f2.reads (ord_rune (runesB_rune _)) (by rw [ord_length]; omega)
  refine wpc_fn (px_ext rfl) (px_fn fn_guiseref8_Order) rfl ?_
  unfold LF_guiseref8_Order
  simp only [argFr]
  unfold TS.vs at *
  (refine W_y (Aj e1 (Aj e2 e3)) ?_; (repeat' first | apply Cj.mk | exact Nl.nl) <;> intros)
  exact ⟨rfl, (f1.kp.trans f2.kp).trans k3⟩
end Go.Proofs.YtblmakgjdenpfaaDoor.AM
namespace Go.Proofs.YtblmakgjdenpfaaDoor.AM
open Go
theorem Tr.set_set : ∀ (f : Nat) (t : Tr) (k : Nat) (x y : Option AObj), Tr.set f (Tr.set f t k x) k y = Tr.set f t k y
  | 0, t, k, x, y => by simp only [Tr.set]
  | f + 1, .e, k, x, y => by
    by_cases h0 : k = 0
    · simp only [Tr.set, h0, if_true]
    · by_cases h1 : k % 2 = 1
      · simp only [Tr.set, if_neg h0, if_pos h1, Tr.set_set f]
      · simp only [Tr.set, if_neg h0, if_neg h1, Tr.set_set f]
  | f + 1, .n l v r, k, x, y => by
    by_cases h0 : k = 0
    · simp only [Tr.set, h0, if_true]
    · by_cases h1 : k % 2 = 1
      · simp only [Tr.set, if_neg h0, if_pos h1, Tr.set_set f]
      · simp only [Tr.set, if_neg h0, if_neg h1, Tr.set_set f]
theorem AH.set_set (h : AH) (b : Nat) (o o' : AObj) : (h.set b o).set b o' = h.set b o' := by
  simp only [AH.set, AH.put, Tr.set_set]
structure Pl where
  h0 : AH
  b : Nat
  pre : List Value
  post : List Value
  lt : b < h0.n
variable {α : Type} [Inhabited α]
def Pl.H (q : Pl) (enc : α → List Value) (D : List α) : AH := q.h0.set q.b (.cells false (q.pre ++ (D.map enc).flatten ++ q.post))
def Pl.s (q : Pl) (n : Nat) : Sl := .at q.b q.pre.length n
def ati (D : List α) (i : Int) : α := D.getD i.toNat default
theorem ati_mid {P S : List α} {x : α} {i : Int} (h : i = P.length) : ati (P ++ x :: S) i = x := by
  subst h
  simp [ati]
theorem set_mid {P S : List α} {x y : α} {i : Int} (h : i = P.length) : (P ++ x :: S).set i.toNat y = P ++ y :: S := by
  subst h
  simp
theorem ati_get {D : List α} {i : Int} (h0 : 0 ≤ i) (h : i < D.length) : ∃ hi : i.toNat < D.length, ati D i = D[i.toNat] := ⟨by omega, by
  simp only [ati, List.getD_eq_getElem?_getD]
  rw [List.getElem?_eq_getElem (by omega), Option.getD_some]⟩
theorem Pl.get (q : Pl) (enc : α → List Value) (D : List α) : (q.H enc D).get q.b = some (.cells false (q.pre ++ (D.map enc).flatten ++ q.post)) := AH.get_set_same _ q.lt
theorem Pl.n (q : Pl) (enc : α → List Value) (D : List α) : (q.H enc D).n = q.h0.n := rfl
theorem Pl.reads (q : Pl) {enc : α → List Value} {e : Nat} (he : ∀ x, (enc x).length = e) (D : List α) : Reads (q.H enc D) e (q.s D.length) (D.map enc) :=
  ⟨by simp [Pl.s, Sl.len], fun x hx => by obtain ⟨y, _, rfl⟩ := List.mem_map.1 hx; exact he y, .inr ⟨false, _, _, q.get enc D, rfl⟩⟩
theorem Pl.rd (q : Pl) {enc : α → List Value} {e : Nat} (he : ∀ x, (enc x).length = e) {D : List α} {n : Nat} (hn : D.length = n) {lc : Lc} {i : Int} (h0 : 0 ≤ i) (h : i < n) :
    Mem.rd ⟨lc, q.H enc D⟩ ((q.s n).adr e i.toNat) e = some (enc (ati D i)) := by
  subst hn
  obtain ⟨hi, e1⟩ := ati_get h0 h
  rw [e1]
  exact rd_map (q.reads he D) hi
theorem Pl.wr (q : Pl) {enc : α → List Value} {e : Nat} (he : ∀ x, (enc x).length = e) {D : List α} {n : Nat} (hn : D.length = n) {lc : Lc} {i : Int} (h0 : 0 ≤ i) (h : i < n) (x : α) :
    Mem.wr ⟨lc, q.H enc D⟩ ((q.s n).adr e i.toNat) (enc x) = some ⟨lc, q.H enc (D.set i.toNat x)⟩ := by
  subst hn
  have hi : i.toNat < D.length := by omega
  have hl : ∀ l : List α, ((l.map enc).flatten).length = l.length * e := fun l => by
    rw [flatten_len (e := e) (fun x hx => by obtain ⟨y, _, rfl⟩ := List.mem_map.1 hx; exact he y), List.length_map]
  show Mem.wr ⟨lc, q.H enc D⟩ ⟨q.b, q.pre.length + i.toNat * e, none⟩ (enc x) = _
  rw [wr_heap, q.get enc D]
  have hie : i.toNat * e + e ≤ D.length * e := by
    have : (i.toNat + 1) * e ≤ D.length * e := Nat.mul_le_mul_right e hi
    rw [Nat.add_mul] at this; omega
  simp only [List.length_append, hl, he]
  rw [if_pos (by omega)]
  have hD : D = D.take i.toNat ++ D[i.toNat] :: D.drop (i.toNat + 1) := by rw [← List.drop_eq_getElem_cons hi, List.take_append_drop]
  have hset : D.set i.toNat x = D.take i.toNat ++ x :: D.drop (i.toNat + 1) := by rw [List.set_eq_take_append_cons_drop, if_pos hi]
  have htl : (D.take i.toNat).length = i.toNat := by rw [List.length_take]; omega
  have h1 : q.pre ++ (D.map enc).flatten ++ q.post = (q.pre ++ ((D.take i.toNat).map enc).flatten) ++ enc D[i.toNat] ++ (((D.drop (i.toNat + 1)).map enc).flatten ++ q.post) := by
    conv => lhs; rw [hD]
    simp only [List.map_append, List.map_cons, List.flatten_append, List.flatten_cons, List.append_assoc]
  have h2 : q.pre ++ ((D.set i.toNat x).map enc).flatten ++ q.post = (q.pre ++ ((D.take i.toNat).map enc).flatten) ++ enc x ++ (((D.drop (i.toNat + 1)).map enc).flatten ++ q.post) := by
    rw [hset]
    simp only [List.map_append, List.map_cons, List.flatten_append, List.flatten_cons, List.append_assoc]
  have h3 : (q.pre ++ ((D.take i.toNat).map enc).flatten).length = q.pre.length + i.toNat * e := by rw [List.length_append, hl, htl]
  have := setAll_eq (enc x) (q.pre ++ ((D.take i.toNat).map enc).flatten) (enc D[i.toNat]) (((D.drop (i.toNat + 1)).map enc).flatten ++ q.post) (by rw [he, he])
  rw [← h1, h3, ← h2] at this
  rw [this]
  simp only [Pl.H, AH.set_set]
def ltK (key : α → Int) (idx : α → Int) (x y : α) : Prop := key x < key y ∨ (key x = key y ∧ idx x < idx y)
structure Cmp (p : Prg) (q : Pl) (enc : α → List Value) (e : Nat) (val : α → Value) (cv : Value) (key : α → Int) : Prop where
  len : ∀ x, (enc x).length = e
  cells : ∀ x, vcells (val x) = enc x
  ok : ∀ x, (enc x).all cellOk = true
  okv : ∀ x, okV (val x) = true
  cvf : ∃ g, cv = .func (.func g) #[] #[] ∨ ∃ b o, cv = .func (.func g) #[] #[.pointer (some ⟨b, o, none⟩)]
  run : ∀ x y D, ∃ n : Int, callV p cv [val x, val y] (q.H enc D) = some (.int .i64 n, q.H enc D) ∧ (n < 0 ↔ key x < key y) ∧ -9223372036854775808 ≤ n ∧ n < 9223372036854775808
end Go.Proofs.YtblmakgjdenpfaaDoor.AM
namespace Go.Proofs.YtblmakgjdenpfaaDoor.AM
open Go
section
variable {cl : Nat → Int}
theorem insR_split {r : Nat} : ∀ (A B : List Nat), (∀ s ∈ A, 0 < cl r ∧ cl r < cl s) → (∀ b ∈ B, ¬ (0 < cl r ∧ cl r < cl b)) → insR cl (A ++ B) r = A ++ r :: B
  | [], [], _, _ => rfl
  | [], b :: B, _, h => by simp only [List.nil_append, insR]; rw [if_neg (h b (by simp))]
  | a :: A, B, h, g => by
    simp only [List.cons_append, insR]
    rw [if_pos (h a (by simp)), insR_split A B (fun s hs => h s (by simp [hs])) g]
theorem ord_snoc (l : List Nat) (r : Nat) : ord cl (l ++ [r]) = (insR cl (ord cl l).reverse r).reverse := by
  unfold ord
  rw [List.foldl_append, List.foldl_cons, List.foldl_nil, List.reverse_reverse]
theorem sorted_ord : ∀ (n : Nat) (O Z : List (Nat × Nat)), O.length = n → O.Pairwise (fun x y => (x.2 : Int) < y.2) → Z.Perm O → Z.Pairwise (ltK (fun x => cl x.1) fun x => (x.2 : Int)) → (∀ x ∈ O, 0 < cl x.1) → Z.map (·.1) = ord cl (O.map (·.1))
  | 0, O, Z, hn, _, hp, _, _ => by
    have : O = [] := List.eq_nil_of_length_eq_zero hn
    subst this
    rw [hp.eq_nil]
    rfl
  | n + 1, O, Z, hn, ho, hp, hz, hc => by
    rcases List.eq_nil_or_concat O with rfl | ⟨O', x, rfl⟩
    · simp at hn
    · rw [List.concat_eq_append] at *
      rw [List.length_append, List.length_singleton] at hn
      have hx : x ∈ Z := hp.mem_iff.2 (by simp)
      obtain ⟨P, S, rfl⟩ := List.append_of_mem hx
      have hp' : (P ++ S).Perm O' := by
        have h1 := hp.symm.trans List.perm_middle
        have h2 : (O' ++ [x]).Perm (x :: O') := List.perm_append_singleton x O'
        exact (List.Perm.cons_inv (h2.symm.trans h1)).symm
      have ho' := List.pairwise_append.1 ho
      have hz1 := List.pairwise_append.1 hz
      have hz2 := List.pairwise_cons.1 hz1.2.1
      have ih := sorted_ord n O' (P ++ S) (by omega) ho'.1 hp' (hz.sublist (by simp)) fun y hy => hc y (by simp [hy])
      have hcx := hc x (by simp)
      rw [List.map_append, List.map_cons, List.map_append, List.map_cons, List.map_nil, ord_snoc, ← ih, List.map_append, List.reverse_append]
      rw [insR_split]
      · simp
      · intro s hs
        rw [List.mem_reverse] at hs
        obtain ⟨y, hy, rfl⟩ := List.mem_map.1 hs
        have h1 := hz2.1 y hy
        have h2 := ho'.2.2 y (hp'.mem_iff.1 (by simp [hy])) x (by simp)
        unfold ltK at h1
        simp only at h1
        omega
      · intro s hs
        rw [List.mem_reverse] at hs
        obtain ⟨y, hy, rfl⟩ := List.mem_map.1 hs
        have h1 := hz1.2.2 y hy x (by simp)
        unfold ltK at h1
        simp only at h1
        omega
theorem ordered_append : ∀ {A B : List Nat}, Ordered cl A → Ordered cl B → (∀ a b, A.getLast? = some a → B.head? = some b → ¬ (0 < cl b ∧ cl b < cl a)) → Ordered cl (A ++ B)
  | [], B, _, hB, _ => hB
  | [a], [], _, _, _ => trivial
  | [a], b :: B, _, hB, h => ⟨h a b rfl rfl, hB⟩
  | a :: c :: A, B, hA, hB, h => ⟨hA.1, ordered_append (A := c :: A) hA.2 hB fun x y hx hy => h x y (by rw [List.getLast?_cons_cons]; exact hx) hy⟩
end
theorem Tr.set_self : ∀ (f : Nat) (t : Tr) (k : Nat) (o : AObj), k < f → t.get k = some o → Tr.set f t k (some o) = t
  | 0, t, k, o, h, _ => by omega
  | f + 1, .e, k, o, _, h => by simp [Tr.get] at h
  | f + 1, .n l v r, k, o, hk, h => by
    simp only [Tr.get] at h
    by_cases h0 : k = 0
    · rw [if_pos h0] at h
      simp only [Tr.set, if_pos h0, h]
    · rw [if_neg h0] at h
      by_cases h1 : k % 2 = 1
      · rw [if_pos h1] at h
        simp only [Tr.set, if_neg h0, if_pos h1, Tr.set_self f l (k / 2) o (by omega) h]
      · rw [if_neg h1] at h
        simp only [Tr.set, if_neg h0, if_neg h1, Tr.set_self f r (k / 2 - 1) o (by omega) h]
theorem AH.set_self {h : AH} {b : Nat} {o : AObj} (e : h.get b = some o) : h.set b o = h := by
  have hb := AH.get_lt e
  simp only [AH.get, hb, if_true] at e
  simp only [AH.set, AH.put, Tr.set_self (b + 1) h.m b o (by omega) e]
end Go.Proofs.YtblmakgjdenpfaaDoor.AM
namespace Go.Proofs.YtblmakgjdenpfaaDoor.AM
open Go
def LF_slices_SortStableFunc_rune_rune : LFunc :=
  .mk 2 [] (.region [.mk (some 4) (.p (.mv (.s 0))) none, .mk (some 5) (.p (.mv (.s 0))) none, .mk (some 6) (.p (.len (.s 5))) none, .mk (some 7) (.p (.mv (.s 1))) none, .mk (some
  8) (.e (.call 80 [.s 4, .s 6, .s 7])) none] [] [])
theorem fn_slices_SortStableFunc_rune_rune : (autoPrg Tryd.prog).fn 47 = some LF_slices_SortStableFunc_rune_rune := by kernel_rfl
def LF_slices_stableCmpFunc_rune : LFunc :=
  .mk 3 [] (.seq (.region [.mk (some 6) (.p (.mv (.c (.int .i64 20)))) none] [0, 1, 2, 6] []) (.seq (.region [.mk (some 10) (.p (.mv (.s 6))) none, .mk (some 7) (.p (.mv (.c (.int
  .i64 0)))) none, .mk (some 8) (.p (.mv (.s 10))) none] [0, 1, 2, 6, 7, 8] []) (.seq (.block 0 (.loop (.seq (.seq (.region [.mk (some 11) (.p (.mv (.s 8))) none, .mk (some 12) (.p
  (.mv (.s 1))) none, .mk (some 13) (.p (.bin .leq (.s 11) (.s 12))) none] [0, 1, 2, 6, 7, 8, 13] []) (.cond (.s 13) .skip (.exit 0))) (.block 1 (.seq (.region [.mk (some 14) (.p
  (.mv (.s 0))) none, .mk (some 15) (.p (.mv (.s 7))) none, .mk (some 16) (.p (.mv (.s 8))) none, .mk (some 17) (.p (.mv (.s 2))) none, .mk (some 18) (.e (.call
  121 [.s 14, .s 15, .s 16, .s 17])) none] [0, 1, 2, 6, 8] []) (.seq (.region [.mk (some 19) (.p (.mv (.s 8))) none, .mk (some 7) (.p (.mv (.s
  19))) none] [0, 1, 2, 6, 7, 8] []) (.region [.mk (some 20) (.p (.mv (.s 8))) none, .mk (some 21) (.p (.mv (.s 6))) none, .mk (some 22) (.p (.bin .add (.s 20) (.s 21))) none, .mk
  (some 8) (.p (.mv (.s 22))) none] [0, 1, 2, 6, 7, 8] []))))))) (.seq (.region [.mk (some 23) (.p (.mv (.s 0))) none, .mk (some 24) (.p (.mv (.s 7))) none, .mk (some 25) (.p (.mv
  (.s 1))) none, .mk (some 26) (.p (.mv (.s 2))) none, .mk (some 27) (.e (.call 121 [.s 23, .s 24, .s 25, .s 26])) none] [0, 1, 2, 6] []) (.block 2
  (.loop (.seq (.seq (.region [.mk (some 28) (.p (.mv (.s 6))) none, .mk (some 29) (.p (.mv (.s 1))) none, .mk (some 30) (.p (.bin .lss (.s 28) (.s 29))) none] [0, 1, 2, 6, 30] [])
  (.cond (.s 30) .skip (.exit 2))) (.block 3 (.seq (.region [.mk (some 31) (.p (.mv (.s 6))) none, .mk (some 32) (.p (.bin .mul (.c (.int .i64 2)) (.s 31))) none, .mk (some 7) (.p
  (.mv (.c (.int .i64 0)))) none, .mk (some 8) (.p (.mv (.s 32))) none] [0, 1, 2, 6, 7, 8] []) (.seq (.block 4 (.loop (.seq (.seq (.region [.mk (some 33) (.p (.mv (.s 8))) none, .mk
  (some 34) (.p (.mv (.s 1))) none, .mk (some 35) (.p (.bin .leq (.s 33) (.s 34))) none] [0, 1, 2, 6, 7, 8, 35] []) (.cond (.s 35) .skip (.exit 4))) (.block 5 (.seq (.region [.mk
  (some 36) (.p (.mv (.s 0))) none, .mk (some 37) (.p (.mv (.s 7))) none, .mk (some 38) (.p (.mv (.s 7))) none, .mk (some 39) (.p (.mv (.s 6))) none, .mk (some 40) (.p (.bin .add
  (.s 38) (.s 39))) none, .mk (some 41) (.p (.mv (.s 8))) none, .mk (some 42) (.p (.mv (.s 2))) none, .mk (some 43) (.e (.call 122 [.s 36, .s 37, .s 40,
  .s 41, .s 42])) none] [0, 1, 2, 6, 8] []) (.seq (.region [.mk (some 44) (.p (.mv (.s 8))) none, .mk (some 7) (.p (.mv (.s 44))) none] [0, 1, 2, 6, 7, 8] []) (.region [.mk (some
  45) (.p (.mv (.s 8))) none, .mk (some 46) (.p (.mv (.s 6))) none, .mk (some 47) (.p (.bin .mul (.c (.int .i64 2)) (.s 46))) none, .mk (some 48) (.p (.bin .add (.s 45) (.s 47)))
  none, .mk (some 8) (.p (.mv (.s 48))) none] [0, 1, 2, 6, 7, 8] []))))))) (.seq (.seq (.region [.mk (some 49) (.p (.mv (.s 7))) none, .mk (some 50) (.p (.mv (.s 6))) none, .mk
  (some 51) (.p (.bin .add (.s 49) (.s 50))) none, .mk (some 9) (.p (.mv (.s 51))) none] [0, 1, 2, 6, 7, 9] []) (.seq (.region [.mk (some 52) (.p (.mv (.s 9))) none, .mk (some 53)
  (.p (.mv (.s 1))) none, .mk (some 54) (.p (.bin .lss (.s 52) (.s 53))) none] [0, 1, 2, 6, 7, 9, 54] []) (.cond (.s 54) (.region [.mk (some 55) (.p (.mv (.s 0))) none, .mk (some
  56) (.p (.mv (.s 7))) none, .mk (some 57) (.p (.mv (.s 9))) none, .mk (some 58) (.p (.mv (.s 1))) none, .mk (some 59) (.p (.mv (.s 2))) none, .mk (some 60) (.e (.call
  122 [.s 55, .s 56, .s 57, .s 58, .s 59])) none] [0, 1, 2, 6] []) .skip))) (.region [.mk (some 61) (.p (.mv (.s 6))) none, .mk (some 62) (.p (.bin .mul
  (.s 61) (.c (.int .i64 2)))) none, .mk (some 6) (.p (.mv (.s 62))) none] [0, 1, 2, 6] []))))))))))))
theorem fn_slices_stableCmpFunc_rune : (autoPrg Tryd.prog).fn 80 = some LF_slices_stableCmpFunc_rune := by kernel_rfl
def LF_slices_insertionSortCmpFunc_rune : LFunc :=
  .mk 4 [] (.seq (.region [.mk (some 10) (.p (.mv (.s 1))) none, .mk (some 11) (.p (.bin .add (.s 10) (.c (.int .i64 1)))) none, .mk (some 8) (.p (.mv (.s 11))) none] [0, 1, 2, 3,
  8] []) (.block 0 (.loop (.seq (.seq (.region [.mk (some 12) (.p (.mv (.s 8))) none, .mk (some 13) (.p (.mv (.s 2))) none, .mk (some 14) (.p (.bin .lss (.s 12) (.s 13))) none] [0,
  1, 2, 3, 8, 14] []) (.cond (.s 14) .skip (.exit 0))) (.seq (.block 1 (.seq (.region [.mk (some 17) (.p (.mv (.s 8))) none, .mk (some 9) (.p (.mv (.s 17))) none] [0, 1, 2, 3, 8, 9]
  []) (.block 2 (.loop (.seq (.seq (.region [.mk (some 18) (.p (.mv (.s 9))) none, .mk (some 19) (.p (.mv (.s 1))) none, .mk (some 20) (.p (.bin .gtr (.s 18) (.s 19))) none, .mk
  (some 21) (.p (.mv (.s 20))) none, .mk (some 22) (.p (.mv (.s 3))) (some (21, true)), .mk (some 23) (.p (.mv (.s 0))) (some (21, true)), .mk (some 24) (.p (.mv (.s 9))) (some (21,
  true)), .mk (some 25) (.p (.iaddr 1 (.s 23) (.s 24))) (some (21, true)), .mk (some 26) (.r (.load none (.s 25))) (some (21, true)), .mk (some 27) (.p (.mv (.s 0))) (some (21,
  true)), .mk (some 28) (.p (.mv (.s 9))) (some (21, true)), .mk (some 29) (.p (.bin .sub (.s 28) (.c (.int .i64 1)))) (some (21, true)), .mk (some 30) (.p (.iaddr 1 (.s 27) (.s
  29))) (some (21, true)), .mk (some 31) (.r (.load none (.s 30))) (some (21, true)), .mk (some 32) (.e (.callv (.s 22) [.s 26, .s 31])) (some (21, true)), .mk (some 33) (.p (.bin
  .lss (.s 32) (.c (.int .i64 0)))) (some (21, true)), .mk (some 34) (.p (.pick (.s 21) (.s 33) (.c (.bool false)))) none] [0, 1, 2, 3, 8, 9, 34] []) (.cond (.s 34) .skip (.exit
  2))) (.seq (.block 3 (.region [.mk (some 37) (.p (.mv (.s 0))) none, .mk (some 38) (.p (.mv (.s 9))) none, .mk (some 39) (.p (.mv (.s 0))) none, .mk (some 40) (.p (.mv (.s 9)))
  none, .mk (some 41) (.p (.bin .sub (.s 40) (.c (.int .i64 1)))) none, .mk (some 42) (.p (.mv (.s 0))) none, .mk (some 43) (.p (.mv (.s 9))) none, .mk (some 44) (.p (.bin .sub (.s
  43) (.c (.int .i64 1)))) none, .mk (some 45) (.p (.iaddr 1 (.s 42) (.s 44))) none, .mk (some 46) (.r (.load none (.s 45))) none, .mk (some 47) (.p (.mv (.s 0))) none, .mk (some
  48) (.p (.mv (.s 9))) none, .mk (some 49) (.p (.iaddr 1 (.s 47) (.s 48))) none, .mk (some 50) (.r (.load none (.s 49))) none, .mk (some 51) (.p (.iaddr 1 (.s 37) (.s 38))) none,
  .mk none (.e (.store 1 (.s 51) (.s 46))) none, .mk (some 52) (.p (.iaddr 1 (.s 39) (.s 41))) none, .mk none (.e (.store 1 (.s 52) (.s 50))) none] [0, 1, 2, 3, 8, 9] [])) (.region
  [.mk (some 35) (.p (.mv (.s 9))) none, .mk (some 36) (.p (.bin .sub (.s 35) (.c (.int .i64 1)))) none, .mk (some 9) (.p (.mv (.s 36))) none] [0, 1, 2, 3, 8, 9] []))))))) (.region
  [.mk (some 15) (.p (.mv (.s 8))) none, .mk (some 16) (.p (.bin .add (.s 15) (.c (.int .i64 1)))) none, .mk (some 8) (.p (.mv (.s 16))) none] [0, 1, 2, 3, 8] []))))))
theorem fn_slices_insertionSortCmpFunc_rune : (autoPrg Tryd.prog).fn 121 = some LF_slices_insertionSortCmpFunc_rune := by kernel_rfl
def LF_slices_symMergeCmpFunc_rune : LFunc :=
  .mk 5 [] (.seq (.seq (.region [.mk (some 25) (.p (.mv (.s 2))) none, .mk (some 26) (.p (.mv (.s 1))) none, .mk (some 27) (.p (.bin .sub (.s 25) (.s 26))) none, .mk (some 28) (.p
  (.bin .eql (.s 27) (.c (.int .i64 1)))) none] [0, 1, 2, 3, 4, 28] []) (.cond (.s 28) (.seq (.region [.mk (some 29) (.p (.mv (.s 2))) none, .mk (some 10) (.p (.mv (.s 29))) none]
  [0, 1, 3, 4, 10] []) (.seq (.region [.mk (some 30) (.p (.mv (.s 3))) none, .mk (some 11) (.p (.mv (.s 30))) none] [0, 1, 4, 10, 11] []) (.seq (.block 0 (.loop (.seq (.seq (.region
  [.mk (some 31) (.p (.mv (.s 10))) none, .mk (some 32) (.p (.mv (.s 11))) none, .mk (some 33) (.p (.bin .lss (.s 31) (.s 32))) none] [0, 1, 4, 10, 11, 33] []) (.cond (.s 33) .skip
  (.exit 0))) (.block 1 (.seq (.region [.mk (some 34) (.p (.mv (.s 10))) none, .mk (some 35) (.p (.mv (.s 11))) none, .mk (some 36) (.p (.bin .add (.s 34) (.s 35))) none, .mk (some
  37) (.p (.conv .u64 (.s 36))) none, .mk (some 38) (.p (.bin .shr (.s 37) (.c (.int .u64 1)))) none, .mk (some 39) (.p (.conv .i64 (.s 38))) none, .mk (some 12) (.p (.mv (.s 39)))
  none] [0, 1, 4, 10, 11, 12] []) (.seq (.region [.mk (some 40) (.p (.mv (.s 4))) none, .mk (some 41) (.p (.mv (.s 0))) none, .mk (some 42) (.p (.mv (.s 12))) none, .mk (some 43)
  (.p (.iaddr 1 (.s 41) (.s 42))) none, .mk (some 44) (.r (.load none (.s 43))) none, .mk (some 45) (.p (.mv (.s 0))) none, .mk (some 46) (.p (.mv (.s 1))) none, .mk (some 47) (.p
  (.iaddr 1 (.s 45) (.s 46))) none, .mk (some 48) (.r (.load none (.s 47))) none, .mk (some 49) (.e (.callv (.s 40) [.s 44, .s 48])) none, .mk (some 50) (.p (.bin .lss (.s 49) (.c
  (.int .i64 0)))) none] [0, 1, 4, 10, 11, 12, 50] []) (.cond (.s 50) (.region [.mk (some 51) (.p (.mv (.s 12))) none, .mk (some 52) (.p (.bin .add (.s 51) (.c (.int .i64 1))))
  none, .mk (some 10) (.p (.mv (.s 52))) none] [0, 1, 4, 10, 11] []) (.region [.mk (some 53) (.p (.mv (.s 12))) none, .mk (some 11) (.p (.mv (.s 53))) none] [0, 1, 4, 10, 11]
  [])))))))) (.seq (.seq (.region [.mk (some 54) (.p (.mv (.s 1))) none, .mk (some 13) (.p (.mv (.s 54))) none] [0, 10, 13] []) (.block 2 (.loop (.seq (.seq (.region [.mk (some 55)
  (.p (.mv (.s 13))) none, .mk (some 56) (.p (.mv (.s 10))) none, .mk (some 57) (.p (.bin .sub (.s 56) (.c (.int .i64 1)))) none, .mk (some 58) (.p (.bin .lss (.s 55) (.s 57)))
  none] [0, 10, 13, 58] []) (.cond (.s 58) .skip (.exit 2))) (.seq (.block 3 (.region [.mk (some 61) (.p (.mv (.s 0))) none, .mk (some 62) (.p (.mv (.s 13))) none, .mk (some 63) (.p
  (.mv (.s 0))) none, .mk (some 64) (.p (.mv (.s 13))) none, .mk (some 65) (.p (.bin .add (.s 64) (.c (.int .i64 1)))) none, .mk (some 66) (.p (.mv (.s 0))) none, .mk (some 67) (.p
  (.mv (.s 13))) none, .mk (some 68) (.p (.bin .add (.s 67) (.c (.int .i64 1)))) none, .mk (some 69) (.p (.iaddr 1 (.s 66) (.s 68))) none, .mk (some 70) (.r (.load none (.s 69)))
  none, .mk (some 71) (.p (.mv (.s 0))) none, .mk (some 72) (.p (.mv (.s 13))) none, .mk (some 73) (.p (.iaddr 1 (.s 71) (.s 72))) none, .mk (some 74) (.r (.load none (.s 73)))
  none, .mk (some 75) (.p (.iaddr 1 (.s 61) (.s 62))) none, .mk none (.e (.store 1 (.s 75) (.s 70))) none, .mk (some 76) (.p (.iaddr 1 (.s 63) (.s 65))) none, .mk none (.e (.store 1
  (.s 76) (.s 74))) none] [0, 10, 13] [])) (.region [.mk (some 59) (.p (.mv (.s 13))) none, .mk (some 60) (.p (.bin .add (.s 59) (.c (.int .i64 1)))) none, .mk (some 13) (.p (.mv
  (.s 60))) none] [0, 10, 13] [])))))) .ret)))) .skip)) (.seq (.seq (.region [.mk (some 77) (.p (.mv (.s 3))) none, .mk (some 78) (.p (.mv (.s 2))) none, .mk (some 79) (.p (.bin
  .sub (.s 77) (.s 78))) none, .mk (some 80) (.p (.bin .eql (.s 79) (.c (.int .i64 1)))) none] [0, 1, 2, 3, 4, 80] []) (.cond (.s 80) (.seq (.region [.mk (some 81) (.p (.mv (.s 1)))
  none, .mk (some 14) (.p (.mv (.s 81))) none] [0, 2, 4, 14] []) (.seq (.region [.mk (some 82) (.p (.mv (.s 2))) none, .mk (some 15) (.p (.mv (.s 82))) none] [0, 2, 4, 14, 15] [])
  (.seq (.block 4 (.loop (.seq (.seq (.region [.mk (some 83) (.p (.mv (.s 14))) none, .mk (some 84) (.p (.mv (.s 15))) none, .mk (some 85) (.p (.bin .lss (.s 83) (.s 84))) none] [0,
  2, 4, 14, 15, 85] []) (.cond (.s 85) .skip (.exit 4))) (.block 5 (.seq (.region [.mk (some 86) (.p (.mv (.s 14))) none, .mk (some 87) (.p (.mv (.s 15))) none, .mk (some 88) (.p
  (.bin .add (.s 86) (.s 87))) none, .mk (some 89) (.p (.conv .u64 (.s 88))) none, .mk (some 90) (.p (.bin .shr (.s 89) (.c (.int .u64 1)))) none, .mk (some 91) (.p (.conv .i64 (.s
  90))) none, .mk (some 16) (.p (.mv (.s 91))) none] [0, 2, 4, 14, 15, 16] []) (.seq (.region [.mk (some 92) (.p (.mv (.s 4))) none, .mk (some 93) (.p (.mv (.s 0))) none, .mk (some
  94) (.p (.mv (.s 2))) none, .mk (some 95) (.p (.iaddr 1 (.s 93) (.s 94))) none, .mk (some 96) (.r (.load none (.s 95))) none, .mk (some 97) (.p (.mv (.s 0))) none, .mk (some 98)
  (.p (.mv (.s 16))) none, .mk (some 99) (.p (.iaddr 1 (.s 97) (.s 98))) none, .mk (some 100) (.r (.load none (.s 99))) none, .mk (some 101) (.e (.callv (.s 92) [.s 96, .s 100]))
  none, .mk (some 102) (.p (.bin .lss (.s 101) (.c (.int .i64 0)))) none, .mk (some 103) (.p (.un .not (.s 102))) none] [0, 2, 4, 14, 15, 16, 103] []) (.cond (.s 103) (.region [.mk
  (some 104) (.p (.mv (.s 16))) none, .mk (some 105) (.p (.bin .add (.s 104) (.c (.int .i64 1)))) none, .mk (some 14) (.p (.mv (.s 105))) none] [0, 2, 4, 14, 15] []) (.region [.mk
  (some 106) (.p (.mv (.s 16))) none, .mk (some 15) (.p (.mv (.s 106))) none] [0, 2, 4, 14, 15] [])))))))) (.seq (.seq (.region [.mk (some 107) (.p (.mv (.s 2))) none, .mk (some 17)
  (.p (.mv (.s 107))) none] [0, 14, 17] []) (.block 6 (.loop (.seq (.seq (.region [.mk (some 108) (.p (.mv (.s 17))) none, .mk (some 109) (.p (.mv (.s 14))) none, .mk (some 110) (.p
  (.bin .gtr (.s 108) (.s 109))) none] [0, 14, 17, 110] []) (.cond (.s 110) .skip (.exit 6))) (.seq (.block 7 (.region [.mk (some 113) (.p (.mv (.s 0))) none, .mk (some 114) (.p
  (.mv (.s 17))) none, .mk (some 115) (.p (.mv (.s 0))) none, .mk (some 116) (.p (.mv (.s 17))) none, .mk (some 117) (.p (.bin .sub (.s 116) (.c (.int .i64 1)))) none, .mk (some
  118) (.p (.mv (.s 0))) none, .mk (some 119) (.p (.mv (.s 17))) none, .mk (some 120) (.p (.bin .sub (.s 119) (.c (.int .i64 1)))) none, .mk (some 121) (.p (.iaddr 1 (.s 118) (.s
  120))) none, .mk (some 122) (.r (.load none (.s 121))) none, .mk (some 123) (.p (.mv (.s 0))) none, .mk (some 124) (.p (.mv (.s 17))) none, .mk (some 125) (.p (.iaddr 1 (.s 123)
  (.s 124))) none, .mk (some 126) (.r (.load none (.s 125))) none, .mk (some 127) (.p (.iaddr 1 (.s 113) (.s 114))) none, .mk none (.e (.store 1 (.s 127) (.s 122))) none, .mk (some
  128) (.p (.iaddr 1 (.s 115) (.s 117))) none, .mk none (.e (.store 1 (.s 128) (.s 126))) none] [0, 14, 17] [])) (.region [.mk (some 111) (.p (.mv (.s 17))) none, .mk (some 112) (.p
  (.bin .sub (.s 111) (.c (.int .i64 1)))) none, .mk (some 17) (.p (.mv (.s 112))) none] [0, 14, 17] [])))))) .ret)))) .skip)) (.seq (.region [.mk (some 129) (.p (.mv (.s 1))) none,
  .mk (some 130) (.p (.mv (.s 3))) none, .mk (some 131) (.p (.bin .add (.s 129) (.s 130))) none, .mk (some 132) (.p (.conv .u64 (.s 131))) none, .mk (some 133) (.p (.bin .shr (.s
  132) (.c (.int .u64 1)))) none, .mk (some 134) (.p (.conv .i64 (.s 133))) none, .mk (some 18) (.p (.mv (.s 134))) none] [0, 1, 2, 3, 4, 18] []) (.seq (.region [.mk (some 135) (.p
  (.mv (.s 18))) none, .mk (some 136) (.p (.mv (.s 2))) none, .mk (some 137) (.p (.bin .add (.s 135) (.s 136))) none, .mk (some 19) (.p (.mv (.s 137))) none] [0, 1, 2, 3, 4, 18, 19]
  []) (.seq (.region [.mk (some 20) (.p (.mv (.c (.int .i64 0)))) none, .mk (some 21) (.p (.mv (.c (.int .i64 0)))) none] [0, 1, 2, 3, 4, 18, 19] []) (.seq (.seq (.region [.mk (some
  138) (.p (.mv (.s 2))) none, .mk (some 139) (.p (.mv (.s 18))) none, .mk (some 140) (.p (.bin .gtr (.s 138) (.s 139))) none] [0, 1, 2, 3, 4, 18, 19, 140] []) (.cond (.s 140) (.seq
  (.region [.mk (some 141) (.p (.mv (.s 19))) none, .mk (some 142) (.p (.mv (.s 3))) none, .mk (some 143) (.p (.bin .sub (.s 141) (.s 142))) none, .mk (some 20) (.p (.mv (.s 143)))
  none] [0, 1, 2, 3, 4, 18, 19, 20] []) (.region [.mk (some 144) (.p (.mv (.s 18))) none, .mk (some 21) (.p (.mv (.s 144))) none] [0, 1, 2, 3, 4, 18, 19, 20, 21] [])) (.seq (.region
  [.mk (some 145) (.p (.mv (.s 1))) none, .mk (some 20) (.p (.mv (.s 145))) none] [0, 1, 2, 3, 4, 18, 19, 20] []) (.region [.mk (some 146) (.p (.mv (.s 2))) none, .mk (some 21) (.p
  (.mv (.s 146))) none] [0, 1, 2, 3, 4, 18, 19, 20, 21] [])))) (.seq (.region [.mk (some 147) (.p (.mv (.s 19))) none, .mk (some 148) (.p (.bin .sub (.s 147) (.c (.int .i64 1))))
  none, .mk (some 22) (.p (.mv (.s 148))) none] [0, 1, 2, 3, 4, 18, 19, 20, 21, 22] []) (.seq (.block 8 (.loop (.seq (.seq (.region [.mk (some 149) (.p (.mv (.s 20))) none, .mk
  (some 150) (.p (.mv (.s 21))) none, .mk (some 151) (.p (.bin .lss (.s 149) (.s 150))) none] [0, 1, 2, 3, 4, 18, 19, 20, 21, 22, 151] []) (.cond (.s 151) .skip (.exit 8))) (.block
  9 (.seq (.region [.mk (some 152) (.p (.mv (.s 20))) none, .mk (some 153) (.p (.mv (.s 21))) none, .mk (some 154) (.p (.bin .add (.s 152) (.s 153))) none, .mk (some 155) (.p (.conv
  .u64 (.s 154))) none, .mk (some 156) (.p (.bin .shr (.s 155) (.c (.int .u64 1)))) none, .mk (some 157) (.p (.conv .i64 (.s 156))) none, .mk (some 23) (.p (.mv (.s 157))) none] [0,
  1, 2, 3, 4, 18, 19, 20, 21, 22, 23] []) (.seq (.region [.mk (some 158) (.p (.mv (.s 4))) none, .mk (some 159) (.p (.mv (.s 0))) none, .mk (some 160) (.p (.mv (.s 22))) none, .mk
  (some 161) (.p (.mv (.s 23))) none, .mk (some 162) (.p (.bin .sub (.s 160) (.s 161))) none, .mk (some 163) (.p (.iaddr 1 (.s 159) (.s 162))) none, .mk (some 164) (.r (.load none
  (.s 163))) none, .mk (some 165) (.p (.mv (.s 0))) none, .mk (some 166) (.p (.mv (.s 23))) none, .mk (some 167) (.p (.iaddr 1 (.s 165) (.s 166))) none, .mk (some 168) (.r (.load
  none (.s 167))) none, .mk (some 169) (.e (.callv (.s 158) [.s 164, .s 168])) none, .mk (some 170) (.p (.bin .lss (.s 169) (.c (.int .i64 0)))) none, .mk (some 171) (.p (.un .not
  (.s 170))) none] [0, 1, 2, 3, 4, 18, 19, 20, 21, 22, 23, 171] []) (.cond (.s 171) (.region [.mk (some 172) (.p (.mv (.s 23))) none, .mk (some 173) (.p (.bin .add (.s 172) (.c
  (.int .i64 1)))) none, .mk (some 20) (.p (.mv (.s 173))) none] [0, 1, 2, 3, 4, 18, 19, 20, 21, 22] []) (.region [.mk (some 174) (.p (.mv (.s 23))) none, .mk (some 21) (.p (.mv (.s
  174))) none] [0, 1, 2, 3, 4, 18, 19, 20, 21, 22] [])))))))) (.seq (.region [.mk (some 175) (.p (.mv (.s 19))) none, .mk (some 176) (.p (.mv (.s 20))) none, .mk (some 177) (.p
  (.bin .sub (.s 175) (.s 176))) none, .mk (some 24) (.p (.mv (.s 177))) none] [0, 1, 2, 3, 4, 18, 20, 24] []) (.seq (.seq (.region [.mk (some 178) (.p (.mv (.s 20))) none, .mk
  (some 179) (.p (.mv (.s 2))) none, .mk (some 180) (.p (.bin .lss (.s 178) (.s 179))) none, .mk (some 181) (.p (.mv (.s 180))) none, .mk (some 182) (.p (.mv (.s 2))) (some (181,
  true)), .mk (some 183) (.p (.mv (.s 24))) (some (181, true)), .mk (some 184) (.p (.bin .lss (.s 182) (.s 183))) (some (181, true)), .mk (some 185) (.p (.pick (.s 181) (.s 184) (.c
  (.bool false)))) none] [0, 1, 2, 3, 4, 18, 20, 24, 185] []) (.cond (.s 185) (.region [.mk (some 186) (.p (.mv (.s 0))) none, .mk (some 187) (.p (.mv (.s 20))) none, .mk (some 188)
  (.p (.mv (.s 2))) none, .mk (some 189) (.p (.mv (.s 24))) none, .mk (some 190) (.p (.mv (.s 4))) none, .mk (some 191) (.e (.call 135 [.s 186, .s 187, .s
  188, .s 189, .s 190])) none] [0, 1, 3, 4, 18, 20, 24] []) .skip)) (.seq (.seq (.region [.mk (some 192) (.p (.mv (.s 1))) none, .mk (some 193) (.p (.mv (.s 20))) none, .mk (some
  194) (.p (.bin .lss (.s 192) (.s 193))) none, .mk (some 195) (.p (.mv (.s 194))) none, .mk (some 196) (.p (.mv (.s 20))) (some (195, true)), .mk (some 197) (.p (.mv (.s 18)))
  (some (195, true)), .mk (some 198) (.p (.bin .lss (.s 196) (.s 197))) (some (195, true)), .mk (some 199) (.p (.pick (.s 195) (.s 198) (.c (.bool false)))) none] [0, 1, 3, 4, 18,
  20, 24, 199] []) (.cond (.s 199) (.region [.mk (some 200) (.p (.mv (.s 0))) none, .mk (some 201) (.p (.mv (.s 1))) none, .mk (some 202) (.p (.mv (.s 20))) none, .mk (some 203) (.p
  (.mv (.s 18))) none, .mk (some 204) (.p (.mv (.s 4))) none, .mk (some 205) (.e (.call 122 [.s 200, .s 201, .s 202, .s 203, .s 204])) none] [0, 3, 4,
  18, 24] []) .skip)) (.seq (.region [.mk (some 206) (.p (.mv (.s 18))) none, .mk (some 207) (.p (.mv (.s 24))) none, .mk (some 208) (.p (.bin .lss (.s 206) (.s 207))) none, .mk
  (some 209) (.p (.mv (.s 208))) none, .mk (some 210) (.p (.mv (.s 24))) (some (209, true)), .mk (some 211) (.p (.mv (.s 3))) (some (209, true)), .mk (some 212) (.p (.bin .lss (.s
  210) (.s 211))) (some (209, true)), .mk (some 213) (.p (.pick (.s 209) (.s 212) (.c (.bool false)))) none] [0, 3, 4, 18, 24, 213] []) (.cond (.s 213) (.region [.mk (some 214) (.p
  (.mv (.s 0))) none, .mk (some 215) (.p (.mv (.s 18))) none, .mk (some 216) (.p (.mv (.s 24))) none, .mk (some 217) (.p (.mv (.s 3))) none, .mk (some 218) (.p (.mv (.s 4))) none,
  .mk (some 219) (.e (.call 122 [.s 214, .s 215, .s 216, .s 217, .s 218])) none] [] []) .skip)))))))))))))
theorem fn_slices_symMergeCmpFunc_rune : (autoPrg Tryd.prog).fn 122 = some LF_slices_symMergeCmpFunc_rune := by kernel_rfl
def LF_slices_rotateCmpFunc_rune : LFunc :=
  .mk 5 [] (.seq (.region [.mk (some 12) (.p (.mv (.s 2))) none, .mk (some 13) (.p (.mv (.s 1))) none, .mk (some 14) (.p (.bin .sub (.s 12) (.s 13))) none, .mk (some 10) (.p (.mv
  (.s 14))) none] [0, 2, 3, 4, 10] []) (.seq (.region [.mk (some 15) (.p (.mv (.s 3))) none, .mk (some 16) (.p (.mv (.s 2))) none, .mk (some 17) (.p (.bin .sub (.s 15) (.s 16)))
  none, .mk (some 11) (.p (.mv (.s 17))) none] [0, 2, 4, 10, 11] []) (.seq (.block 0 (.loop (.seq (.seq (.region [.mk (some 18) (.p (.mv (.s 10))) none, .mk (some 19) (.p (.mv (.s
  11))) none, .mk (some 20) (.p (.bin .neq (.s 18) (.s 19))) none] [0, 2, 4, 10, 11, 20] []) (.cond (.s 20) .skip (.exit 0))) (.block 1 (.seq (.region [.mk (some 21) (.p (.mv (.s
  10))) none, .mk (some 22) (.p (.mv (.s 11))) none, .mk (some 23) (.p (.bin .gtr (.s 21) (.s 22))) none] [0, 2, 4, 10, 11, 23] []) (.cond (.s 23) (.seq (.region [.mk (some 24) (.p
  (.mv (.s 0))) none, .mk (some 25) (.p (.mv (.s 2))) none, .mk (some 26) (.p (.mv (.s 10))) none, .mk (some 27) (.p (.bin .sub (.s 25) (.s 26))) none, .mk (some 28) (.p (.mv (.s
  2))) none, .mk (some 29) (.p (.mv (.s 11))) none, .mk (some 30) (.p (.mv (.s 4))) none, .mk (some 31) (.e (.call 140 [.s 24, .s 27, .s 28, .s 29, .s
  30])) none] [0, 2, 4, 10, 11] []) (.region [.mk (some 32) (.p (.mv (.s 10))) none, .mk (some 33) (.p (.mv (.s 11))) none, .mk (some 34) (.p (.bin .sub (.s 32) (.s 33))) none, .mk
  (some 10) (.p (.mv (.s 34))) none] [0, 2, 4, 10, 11] [])) (.seq (.region [.mk (some 35) (.p (.mv (.s 0))) none, .mk (some 36) (.p (.mv (.s 2))) none, .mk (some 37) (.p (.mv (.s
  10))) none, .mk (some 38) (.p (.bin .sub (.s 36) (.s 37))) none, .mk (some 39) (.p (.mv (.s 2))) none, .mk (some 40) (.p (.mv (.s 11))) none, .mk (some 41) (.p (.bin .add (.s 39)
  (.s 40))) none, .mk (some 42) (.p (.mv (.s 10))) none, .mk (some 43) (.p (.bin .sub (.s 41) (.s 42))) none, .mk (some 44) (.p (.mv (.s 10))) none, .mk (some 45) (.p (.mv (.s 4)))
  none, .mk (some 46) (.e (.call 140 [.s 35, .s 38, .s 43, .s 44, .s 45])) none] [0, 2, 4, 10, 11] []) (.region [.mk (some 47) (.p (.mv (.s 11))) none,
  .mk (some 48) (.p (.mv (.s 10))) none, .mk (some 49) (.p (.bin .sub (.s 47) (.s 48))) none, .mk (some 11) (.p (.mv (.s 49))) none] [0, 2, 4, 10, 11] [])))))))) (.region [.mk (some
  50) (.p (.mv (.s 0))) none, .mk (some 51) (.p (.mv (.s 2))) none, .mk (some 52) (.p (.mv (.s 10))) none, .mk (some 53) (.p (.bin .sub (.s 51) (.s 52))) none, .mk (some 54) (.p
  (.mv (.s 2))) none, .mk (some 55) (.p (.mv (.s 10))) none, .mk (some 56) (.p (.mv (.s 4))) none, .mk (some 57) (.e (.call 140 [.s 50, .s 53, .s 54,
  .s 55, .s 56])) none] [] []))))
theorem fn_slices_rotateCmpFunc_rune : (autoPrg Tryd.prog).fn 135 = some LF_slices_rotateCmpFunc_rune := by kernel_rfl
def LF_slices_swapRangeCmpFunc_rune : LFunc :=
  .mk 5 [] (.seq (.region [.mk (some 10) (.p (.mv (.c (.int .i64 0)))) none] [0, 1, 2, 3, 10] []) (.block 0 (.loop (.seq (.seq (.region [.mk (some 11) (.p (.mv (.s 10))) none, .mk
  (some 12) (.p (.mv (.s 3))) none, .mk (some 13) (.p (.bin .lss (.s 11) (.s 12))) none] [0, 1, 2, 3, 10, 13] []) (.cond (.s 13) .skip (.exit 0))) (.seq (.block 1 (.region [.mk
  (some 16) (.p (.mv (.s 0))) none, .mk (some 17) (.p (.mv (.s 1))) none, .mk (some 18) (.p (.mv (.s 10))) none, .mk (some 19) (.p (.bin .add (.s 17) (.s 18))) none, .mk (some 20)
  (.p (.mv (.s 0))) none, .mk (some 21) (.p (.mv (.s 2))) none, .mk (some 22) (.p (.mv (.s 10))) none, .mk (some 23) (.p (.bin .add (.s 21) (.s 22))) none, .mk (some 24) (.p (.mv
  (.s 0))) none, .mk (some 25) (.p (.mv (.s 2))) none, .mk (some 26) (.p (.mv (.s 10))) none, .mk (some 27) (.p (.bin .add (.s 25) (.s 26))) none, .mk (some 28) (.p (.iaddr 1 (.s
  24) (.s 27))) none, .mk (some 29) (.r (.load none (.s 28))) none, .mk (some 30) (.p (.mv (.s 0))) none, .mk (some 31) (.p (.mv (.s 1))) none, .mk (some 32) (.p (.mv (.s 10)))
  none, .mk (some 33) (.p (.bin .add (.s 31) (.s 32))) none, .mk (some 34) (.p (.iaddr 1 (.s 30) (.s 33))) none, .mk (some 35) (.r (.load none (.s 34))) none, .mk (some 36) (.p
  (.iaddr 1 (.s 16) (.s 19))) none, .mk none (.e (.store 1 (.s 36) (.s 29))) none, .mk (some 37) (.p (.iaddr 1 (.s 20) (.s 23))) none, .mk none (.e (.store 1 (.s 37) (.s 35))) none]
  [0, 1, 2, 3, 10] [])) (.region [.mk (some 14) (.p (.mv (.s 10))) none, .mk (some 15) (.p (.bin .add (.s 14) (.c (.int .i64 1)))) none, .mk (some 10) (.p (.mv (.s 15))) none] [0,
  1, 2, 3, 10] []))))))
theorem fn_slices_swapRangeCmpFunc_rune : (autoPrg Tryd.prog).fn 140 = some LF_slices_swapRangeCmpFunc_rune := by kernel_rfl
variable {α : Type} [Inhabited α] {q : Pl} {enc : α → List Value} {val : α → Value} {cv : Value} {key : α → Int}
theorem Cmp.isF {p : Prg} {e : Nat} (hc : Cmp p q enc e val cv key) : IsF cv := by
  obtain ⟨g, h | ⟨b, o, h⟩⟩ := hc.cvf
  · exact ⟨_, _, _, h⟩
  · exact ⟨_, _, _, h⟩
structure CmpS (q : Pl) (enc : α → List Value) (val : α → Value) (cv : Value) (key : α → Int) : Prop extends Cmp PX q enc 1 val cv key where
  vw : ∀ x, val x = val x
  rdw : ∀ x, enc x = [val x]
theorem CmpS.rd (hc : CmpS q enc val cv key) {D : List α} {n : Nat} (hn : D.length = n) : ∀ lc (i : Int), 0 ≤ i → i < n → Mem.rd ⟨lc, q.H enc D⟩ ((q.s n).adr 1 i.toNat) 1 = some [val (ati D i)] := fun lc i h0 h => by
  have h1 := q.rd hc.len hn (lc := lc) h0 h
  rw [h1, hc.rdw]
theorem CmpS.wr (hc : CmpS q enc val cv key) {D : List α} {n : Nat} (hn : D.length = n) : ∀ lc (i : Int) x, 0 ≤ i → i < n → Mem.wr ⟨lc, q.H enc D⟩ ((q.s n).adr 1 i.toNat) (enc x) = some ⟨lc, q.H enc (D.set i.toNat x)⟩ := fun lc i x h0 h => q.wr hc.len hn h0 h x
theorem CmpS.wr2 (hc : CmpS q enc val cv key) {D : List α} {n : Nat} (hn : D.length = n) : ∀ lc (k : Nat) y (i : Int) x, 0 ≤ i → i < n → Mem.wr ⟨lc, q.H enc (D.set k y)⟩ ((q.s n).adr 1 i.toNat) (enc x) = some ⟨lc, q.H enc ((D.set k y).set i.toNat x)⟩ := fun lc k y i x h0 h =>
  q.wr hc.len (by rw [List.length_set]; exact hn) h0 h x
theorem swap_down {P R : List α} {x y : α} {j : Int} (h : j = P.length + 1) : ati (P ++ y :: x :: R) j = x ∧ ati (P ++ y :: x :: R) (j - 1) = y ∧ ((P ++ y :: x :: R).set j.toNat y).set (j - 1).toNat x = P ++ x :: y :: R := by
  have e : P ++ y :: x :: R = (P ++ [y]) ++ x :: R := by simp
  refine ⟨?_, ati_mid (by omega), ?_⟩
  · rw [e]; exact ati_mid (by simp; omega)
  · rw [e, set_mid (by simp; omega)]
    rw [List.append_assoc]
    exact set_mid (by omega)
theorem swap_up {P R : List α} {x y : α} {k : Int} (h : k = P.length) : ati (P ++ x :: y :: R) k = x ∧ ati (P ++ x :: y :: R) (k + 1) = y ∧ ((P ++ x :: y :: R).set k.toNat y).set (k + 1).toNat x = P ++ y :: x :: R := by
  have e : ∀ z, P ++ z :: y :: R = (P ++ [z]) ++ y :: R := fun z => by simp
  refine ⟨ati_mid h, ?_, ?_⟩
  · rw [e]; exact ati_mid (by simp; omega)
  · rw [set_mid h, e, set_mid (by simp; omega)]
    simp
theorem swapRange_eq (hc : CmpS q enc val cv key) {P A M B S : List α} {n : Nat} {a b k : Int} (hn : (P ++ A ++ M ++ B ++ S).length = n) (hn2 : n < 1000000000000) (ha : a = P.length) (hb : b = P.length + A.length + M.length) (hk : k = A.length) (hk2 : A.length = B.length) :
    callO PX 140 [(q.s n).val 1, .int .i64 a, .int .i64 b, .int .i64 k, cv] (q.H enc (P ++ A ++ M ++ B ++ S)) = some (.tuple #[], q.H enc (P ++ B ++ M ++ A ++ S)) := by
  have hlen : (q.s n).len = n := rfl
  have hset := hc.isF.set
  have hlc1 := hc.isF.lc1
  have hloc := hc.isF.loc
  apply WpC.eqn
  refine wpc_fn (px_ext rfl) (px_fn fn_slices_swapRangeCmpFunc_rune) rfl ?_
  unfold LF_slices_swapRangeCmpFunc_rune
  simp only [argFr]
  simp only [List.length_append] at hn
  (repeat' first
    | (show WpR _ _ _ _ _ _ _ _ _
       first
       | refine wpr_drop ?_
       | refine wpr_p (o := .mv _) (by simp only [ev_mv, opd_s, opd_c, fget, Nat.reduceEqDiff, Nat.one_ne_zero, Nat.zero_ne_one, reduceCtorEq, ↓reduceIte]; rfl) ?_
       | (refine wpr_fork (fun _ => ?_) (fun _ => ?_) <;> try (exfalso; omega))
       | (refine wpr_forkN (fun _ => ?_) (fun _ => ?_) <;> try (exfalso; omega))
       | refine wpr_run rfl ?_
       | refine wpr_pass rfl rfl ?_
       | refine wpr_passS rfl ?_
       | ((first | apply wpr_p | apply wpr_r | apply wpr_callA | apply wpr_callA0 | apply wpr_e0 | apply wpr_e | apply wpr_end0); focus ((try simp (disch := omega) only [push_cast, Nat.reduceEqDiff, ↓reduceIte, reduceCtorEq, Nat.reduceAdd, Nat.reduceMul, Nat.reduceLeDiff,  hset, hlc1, hloc]); rfl))
       | refine wpr_pass0 rfl rfl ?_
       | refine wpr_pass0S rfl ?_
       | (apply wpr_end; (focus ((try simp (disch := omega) only [push_cast, Nat.reduceEqDiff, ↓reduceIte, reduceCtorEq, Nat.reduceAdd, Nat.reduceMul, Nat.reduceLeDiff,  hset, hlc1, hloc]); rfl)); (focus (simp (disch := omega) only [push_cast, Nat.reduceEqDiff, ↓reduceIte, reduceCtorEq, Nat.reduceAdd, Nat.reduceMul, Nat.reduceLeDiff,  hset, hlc1, hloc]; done)))
       | fail)
    | (show Wp _ _ _ _ _ _
       first
       | refine wp_seq ?_
       | refine wp_region0 ?_
       | refine wp_region ?_
       | refine wp_cond_t rfl ?_
       | refine wp_cond_f rfl ?_
       | refine wp_ret ?_
       | refine wp_skip ?_
       | refine wp_exit ?_
       | refine wp_block ?_
       | fail)
    | refine thenQ_norm ?_
    | refine thenQ_ret ?_
    | refine thenQ_exit ?_
    | refine blockQ_norm ?_
    | refine blockQ_ret ?_
    | refine blockQ_same ?_
    | refine blockQ_ne rfl ?_
    | refine loopQ_norm ?_
    | refine loopQ_ret ?_
    | refine loopQ_exit ?_
    | ((first | apply retQ_ret | apply retQ_norm | apply wpc_of); focus ((try simp (disch := omega) only [push_cast, Nat.reduceEqDiff, ↓reduceIte, reduceCtorEq, Nat.reduceAdd, Nat.reduceMul, Nat.reduceLeDiff,  hset, hlc1, hloc]); rfl))
    | fail)
  refine wp_loop (fun m fr lc h1 => ∃ (i : Nat) (D : List α), m = A.length - i ∧ i ≤ A.length ∧ fr = [(0, (q.s n).val 1), (1, .int .i64 a), (2, .int .i64 b), (3, .int .i64 k), (10, .int .i64 i)] ∧ lc = [] ∧ h1 = q.H enc D ∧ D = P ++ (B.take i ++ A.drop i) ++ M ++ (A.take i ++ B.drop i) ++ S)
    A.length ⟨0, _, rfl, Nat.zero_le _, rfl, rfl, rfl, by simp⟩ ?_
  rintro m fr lc h1 ⟨i, D, rfl, hi, rfl, rfl, rfl, hD⟩
  rcases Nat.lt_or_ge i A.length with hil | hil
  · have hDl : D.length = n := by rw [hD]; simp only [List.length_append, List.length_take, List.length_drop]; omega
    have hr := hc.rd hDl
    have hw := hc.wr hDl
    have hw2 := hc.wr2 hDl
    have hcl := hc.cells
    have hvw := hc.vw
    have hl1 := hc.len
    have hok := hc.ok
    (repeat' first
    | (show WpR _ _ _ _ _ _ _ _ _
       first
       | refine wpr_drop ?_
       | refine wpr_p (o := .mv _) (by simp only [ev_mv, opd_s, opd_c, fget, Nat.reduceEqDiff, Nat.one_ne_zero, Nat.zero_ne_one, reduceCtorEq, ↓reduceIte]; rfl) ?_
       | (refine wpr_fork (fun _ => ?_) (fun _ => ?_) <;> try (exfalso; omega))
       | (refine wpr_forkN (fun _ => ?_) (fun _ => ?_) <;> try (exfalso; omega))
       | refine wpr_run rfl ?_
       | refine wpr_pass rfl rfl ?_
       | refine wpr_passS rfl ?_
       | ((first | apply wpr_p | apply wpr_r | apply wpr_callA | apply wpr_callA0 | apply wpr_e0 | apply wpr_e | apply wpr_end0); focus ((try simp (disch := omega) only [push_cast, Nat.reduceEqDiff, ↓reduceIte, reduceCtorEq, Nat.reduceAdd, Nat.reduceMul, Nat.reduceLeDiff,  hset, hlc1, hloc, hlen, hr, hw, hw2, hl1, hok, hcl]); rfl))
       | refine wpr_pass0 rfl rfl ?_
       | refine wpr_pass0S rfl ?_
       | (apply wpr_end; (focus ((try simp (disch := omega) only [push_cast, Nat.reduceEqDiff, ↓reduceIte, reduceCtorEq, Nat.reduceAdd, Nat.reduceMul, Nat.reduceLeDiff,  hset, hlc1, hloc, hlen, hr, hw, hw2, hl1, hok, hcl]); rfl)); (focus (simp (disch := omega) only [push_cast, Nat.reduceEqDiff, ↓reduceIte, reduceCtorEq, Nat.reduceAdd, Nat.reduceMul, Nat.reduceLeDiff,  hset, hlc1, hloc, hlen, hr, hw, hw2, hl1, hok, hcl]; done)))
       | fail)
    | (show Wp _ _ _ _ _ _
       first
       | refine wp_seq ?_
       | refine wp_region0 ?_
       | refine wp_region ?_
       | refine wp_cond_t rfl ?_
       | refine wp_cond_f rfl ?_
       | refine wp_ret ?_
       | refine wp_skip ?_
       | refine wp_exit ?_
       | refine wp_block ?_
       | fail)
    | refine thenQ_norm ?_
    | refine thenQ_ret ?_
    | refine thenQ_exit ?_
    | refine blockQ_norm ?_
    | refine blockQ_ret ?_
    | refine blockQ_same ?_
    | refine blockQ_ne rfl ?_
    | refine loopQ_norm ?_
    | refine loopQ_ret ?_
    | refine loopQ_exit ?_
    | ((first | apply retQ_ret | apply retQ_norm | apply wpc_of); focus ((try simp (disch := omega) only [push_cast, Nat.reduceEqDiff, ↓reduceIte, reduceCtorEq, Nat.reduceAdd, Nat.reduceMul, Nat.reduceLeDiff,  hset, hlc1, hloc, hlen, hr, hw, hw2, hl1, hok, hcl]); rfl))
    | fail)
    refine ⟨A.length - (i + 1), by omega, i + 1, _, rfl, by omega, by simp only [Int.natCast_add]; rfl, rfl, rfl, ?_⟩
    have hiB : i < B.length := by omega
    have e1 : D = (P ++ B.take i) ++ A[i] :: (A.drop (i + 1) ++ M ++ (A.take i ++ B.drop i) ++ S) := by
      rw [hD, List.drop_eq_getElem_cons hil]; simp only [List.append_assoc, List.cons_append]
    have e2 : D = (P ++ (B.take i ++ A.drop i) ++ M ++ A.take i) ++ B[i] :: (B.drop (i + 1) ++ S) := by
      rw [hD]; conv => lhs; rw [List.drop_eq_getElem_cons hiB]
      simp only [List.append_assoc, List.cons_append]
    have t1 : ((P ++ B.take i).length : Int) = a + i := by simp only [List.length_append, List.length_take]; omega
    have t2 : ((P ++ (B.take i ++ A.drop i) ++ M ++ A.take i).length : Int) = b + i := by simp only [List.length_append, List.length_take, List.length_drop]; omega
    have t3 : ((P ++ B.take i ++ B[i] :: (A.drop (i + 1) ++ M ++ A.take i)).length : Int) = b + i := by simp only [List.length_append, List.length_cons, List.length_take, List.length_drop]; omega
    have r1 : ati D (a + i) = A[i] := by rw [e1]; exact ati_mid t1.symm
    have r2 : ati D (b + i) = B[i] := by rw [e2]; exact ati_mid t2.symm
    rw [r1, r2]
    have s1 : D.set (a + i).toNat B[i] = (P ++ B.take i) ++ B[i] :: (A.drop (i + 1) ++ M ++ (A.take i ++ B.drop i) ++ S) := by rw [e1]; exact set_mid t1.symm
    have s2 : (P ++ B.take i) ++ B[i] :: (A.drop (i + 1) ++ M ++ (A.take i ++ B.drop i) ++ S) = (P ++ B.take i ++ B[i] :: (A.drop (i + 1) ++ M ++ A.take i)) ++ B[i] :: (B.drop (i + 1) ++ S) := by
      rw [List.drop_eq_getElem_cons hiB]; simp only [List.append_assoc, List.cons_append]
    rw [s1, s2, set_mid t3.symm]
    have u1 : B.take (i + 1) = B.take i ++ [B[i]] := List.take_succ_eq_append_getElem hiB
    have u2 : A.take (i + 1) = A.take i ++ [A[i]] := List.take_succ_eq_append_getElem hil
    rw [u1, u2]
    simp only [List.append_assoc, List.cons_append, List.nil_append]
  · have e : i = A.length := by omega
    (repeat' first
    | (show WpR _ _ _ _ _ _ _ _ _
       first
       | refine wpr_drop ?_
       | refine wpr_p (o := .mv _) (by simp only [ev_mv, opd_s, opd_c, fget, Nat.reduceEqDiff, Nat.one_ne_zero, Nat.zero_ne_one, reduceCtorEq, ↓reduceIte]; rfl) ?_
       | (refine wpr_fork (fun _ => ?_) (fun _ => ?_) <;> try (exfalso; omega))
       | (refine wpr_forkN (fun _ => ?_) (fun _ => ?_) <;> try (exfalso; omega))
       | refine wpr_run rfl ?_
       | refine wpr_pass rfl rfl ?_
       | refine wpr_passS rfl ?_
       | ((first | apply wpr_p | apply wpr_r | apply wpr_callA | apply wpr_callA0 | apply wpr_e0 | apply wpr_e | apply wpr_end0); focus ((try simp (disch := omega) only [push_cast, Nat.reduceEqDiff, ↓reduceIte, reduceCtorEq, Nat.reduceAdd, Nat.reduceMul, Nat.reduceLeDiff,  hset, hlc1, hloc]); rfl))
       | refine wpr_pass0 rfl rfl ?_
       | refine wpr_pass0S rfl ?_
       | (apply wpr_end; (focus ((try simp (disch := omega) only [push_cast, Nat.reduceEqDiff, ↓reduceIte, reduceCtorEq, Nat.reduceAdd, Nat.reduceMul, Nat.reduceLeDiff,  hset, hlc1, hloc]); rfl)); (focus (simp (disch := omega) only [push_cast, Nat.reduceEqDiff, ↓reduceIte, reduceCtorEq, Nat.reduceAdd, Nat.reduceMul, Nat.reduceLeDiff,  hset, hlc1, hloc]; done)))
       | fail)
    | (show Wp _ _ _ _ _ _
       first
       | refine wp_seq ?_
       | refine wp_region0 ?_
       | refine wp_region ?_
       | refine wp_cond_t rfl ?_
       | refine wp_cond_f rfl ?_
       | refine wp_ret ?_
       | refine wp_skip ?_
       | refine wp_exit ?_
       | refine wp_block ?_
       | fail)
    | refine thenQ_norm ?_
    | refine thenQ_ret ?_
    | refine thenQ_exit ?_
    | refine blockQ_norm ?_
    | refine blockQ_ret ?_
    | refine blockQ_same ?_
    | refine blockQ_ne rfl ?_
    | refine loopQ_norm ?_
    | refine loopQ_ret ?_
    | refine loopQ_exit ?_
    | ((first | apply retQ_ret | apply retQ_norm | apply wpc_of); focus ((try simp (disch := omega) only [push_cast, Nat.reduceEqDiff, ↓reduceIte, reduceCtorEq, Nat.reduceAdd, Nat.reduceMul, Nat.reduceLeDiff,  hset, hlc1, hloc]); rfl))
    | fail)
    refine ⟨rfl, ?_⟩
    rw [hD, e]
    congr 1
    simp only [List.take_length, List.drop_length, List.append_nil]
    rw [hk2, List.take_length, List.drop_length]
    simp
theorem rotate_eq (hc : CmpS q enc val cv key) {P U V S : List α} {n : Nat} {a m b : Int} (hn : (P ++ U ++ V ++ S).length = n) (hn2 : n < 1000000000000) (ha : a = P.length) (hm : m = P.length + U.length) (hb : b = P.length + U.length + V.length) (hU : 0 < U.length) (hV : 0 < V.length) :
    callO PX 135 [(q.s n).val 1, .int .i64 a, .int .i64 m, .int .i64 b, cv] (q.H enc (P ++ U ++ V ++ S)) = some (.tuple #[], q.H enc (P ++ V ++ U ++ S)) := by
  have hlen : (q.s n).len = n := rfl
  have hset := hc.isF.set
  have hlc1 := hc.isF.lc1
  have hloc := hc.isF.loc
  apply WpC.eqn
  refine wpc_fn (px_ext rfl) (px_fn fn_slices_rotateCmpFunc_rune) rfl ?_
  unfold LF_slices_rotateCmpFunc_rune
  simp only [argFr]
  have hn' := hn
  simp only [List.length_append] at hn'
  obtain ⟨D0, hD0⟩ : ∃ D0, D0 = P ++ U ++ V ++ S := ⟨_, rfl⟩
  rw [← hD0]
  (repeat' first
    | (show WpR _ _ _ _ _ _ _ _ _
       first
       | refine wpr_drop ?_
       | refine wpr_p (o := .mv _) (by simp only [ev_mv, opd_s, opd_c, fget, Nat.reduceEqDiff, Nat.one_ne_zero, Nat.zero_ne_one, reduceCtorEq, ↓reduceIte]; rfl) ?_
       | (refine wpr_fork (fun _ => ?_) (fun _ => ?_) <;> try (exfalso; omega))
       | (refine wpr_forkN (fun _ => ?_) (fun _ => ?_) <;> try (exfalso; omega))
       | refine wpr_run rfl ?_
       | refine wpr_pass rfl rfl ?_
       | refine wpr_passS rfl ?_
       | ((first | apply wpr_p | apply wpr_r | apply wpr_callA | apply wpr_callA0 | apply wpr_e0 | apply wpr_e | apply wpr_end0); focus ((try simp (disch := omega) only [push_cast, Nat.reduceEqDiff, ↓reduceIte, reduceCtorEq, Nat.reduceAdd, Nat.reduceMul, Nat.reduceLeDiff,  hset, hlc1, hloc]); rfl))
       | refine wpr_pass0 rfl rfl ?_
       | refine wpr_pass0S rfl ?_
       | (apply wpr_end; (focus ((try simp (disch := omega) only [push_cast, Nat.reduceEqDiff, ↓reduceIte, reduceCtorEq, Nat.reduceAdd, Nat.reduceMul, Nat.reduceLeDiff,  hset, hlc1, hloc]); rfl)); (focus (simp (disch := omega) only [push_cast, Nat.reduceEqDiff, ↓reduceIte, reduceCtorEq, Nat.reduceAdd, Nat.reduceMul, Nat.reduceLeDiff,  hset, hlc1, hloc]; done)))
       | fail)
    | (show Wp _ _ _ _ _ _
       first
       | refine wp_seq ?_
       | refine wp_region0 ?_
       | refine wp_region ?_
       | refine wp_cond_t rfl ?_
       | refine wp_cond_f rfl ?_
       | refine wp_ret ?_
       | refine wp_skip ?_
       | refine wp_exit ?_
       | refine wp_block ?_
       | fail)
    | refine thenQ_norm ?_
    | refine thenQ_ret ?_
    | refine thenQ_exit ?_
    | refine blockQ_norm ?_
    | refine blockQ_ret ?_
    | refine blockQ_same ?_
    | refine blockQ_ne rfl ?_
    | refine loopQ_norm ?_
    | refine loopQ_ret ?_
    | refine loopQ_exit ?_
    | ((first | apply retQ_ret | apply retQ_norm | apply wpc_of); focus ((try simp (disch := omega) only [push_cast, Nat.reduceEqDiff, ↓reduceIte, reduceCtorEq, Nat.reduceAdd, Nat.reduceMul, Nat.reduceLeDiff,  hset, hlc1, hloc]); rfl))
    | fail)
  refine wp_loop (fun w fr lc h1 => ∃ (L A B R D : List α), w = A.length + B.length ∧ D = L ++ A ++ B ++ R ∧ L ++ B ++ A ++ R = P ++ V ++ U ++ S ∧ m = L.length + A.length ∧ 0 < A.length ∧ 0 < B.length ∧ L.length + A.length + B.length + R.length = n ∧
      fr = [(0, (q.s n).val 1), (2, .int .i64 m), (4, cv), (10, .int .i64 A.length), (11, .int .i64 B.length)] ∧ lc = [] ∧ h1 = q.H enc D) (U.length + V.length)
    ⟨P, U, V, S, D0, rfl, hD0, rfl, hm, hU, hV, hn', by rw [show m - a = (U.length : Int) by omega, show b - m = (V.length : Int) by omega], rfl, rfl⟩ ?_
  rintro w fr lc h1 ⟨L, A, B, R, D, rfl, hD, hT, hm2, hA, hB, hl, rfl, rfl, rfl⟩
  rcases Nat.lt_trichotomy A.length B.length with hlt | heq | hgt
  · have hs : callO PX 140 [(q.s n).val 1, .int .i64 (m - A.length), .int .i64 (m + B.length - A.length), .int .i64 A.length, cv] (q.H enc D) = some (.tuple #[], q.H enc (L ++ B.drop (B.length - A.length) ++ B.take (B.length - A.length) ++ A ++ R)) := by
      have e : D = L ++ A ++ B.take (B.length - A.length) ++ B.drop (B.length - A.length) ++ R := by rw [hD]; simp only [List.append_assoc]; rw [← List.append_assoc (List.take _ B), List.take_append_drop]
      rw [e]
      exact swapRange_eq hc (by simp only [List.length_append, List.length_take, List.length_drop]; omega) hn2 (by omega) (by simp only [List.length_take]; omega) rfl (by simp only [List.length_drop]; omega)
    (repeat' first
    | (show WpR _ _ _ _ _ _ _ _ _
       first
       | refine wpr_drop ?_
       | refine wpr_p (o := .mv _) (by simp only [ev_mv, opd_s, opd_c, fget, Nat.reduceEqDiff, Nat.one_ne_zero, Nat.zero_ne_one, reduceCtorEq, ↓reduceIte]; rfl) ?_
       | (refine wpr_fork (fun _ => ?_) (fun _ => ?_) <;> try (exfalso; omega))
       | (refine wpr_forkN (fun _ => ?_) (fun _ => ?_) <;> try (exfalso; omega))
       | refine wpr_run rfl ?_
       | refine wpr_pass rfl rfl ?_
       | refine wpr_passS rfl ?_
       | ((first | apply wpr_p | apply wpr_r | apply wpr_callA | apply wpr_callA0 | apply wpr_e0 | apply wpr_e | apply wpr_end0); focus ((try simp (disch := omega) only [push_cast, Nat.reduceEqDiff, ↓reduceIte, reduceCtorEq, Nat.reduceAdd, Nat.reduceMul, Nat.reduceLeDiff,  hset, hlc1, hloc, hs]); rfl))
       | refine wpr_pass0 rfl rfl ?_
       | refine wpr_pass0S rfl ?_
       | (apply wpr_end; (focus ((try simp (disch := omega) only [push_cast, Nat.reduceEqDiff, ↓reduceIte, reduceCtorEq, Nat.reduceAdd, Nat.reduceMul, Nat.reduceLeDiff,  hset, hlc1, hloc, hs]); rfl)); (focus (simp (disch := omega) only [push_cast, Nat.reduceEqDiff, ↓reduceIte, reduceCtorEq, Nat.reduceAdd, Nat.reduceMul, Nat.reduceLeDiff,  hset, hlc1, hloc, hs]; done)))
       | fail)
    | (show Wp _ _ _ _ _ _
       first
       | refine wp_seq ?_
       | refine wp_region0 ?_
       | refine wp_region ?_
       | refine wp_cond_t rfl ?_
       | refine wp_cond_f rfl ?_
       | refine wp_ret ?_
       | refine wp_skip ?_
       | refine wp_exit ?_
       | refine wp_block ?_
       | fail)
    | refine thenQ_norm ?_
    | refine thenQ_ret ?_
    | refine thenQ_exit ?_
    | refine blockQ_norm ?_
    | refine blockQ_ret ?_
    | refine blockQ_same ?_
    | refine blockQ_ne rfl ?_
    | refine loopQ_norm ?_
    | refine loopQ_ret ?_
    | refine loopQ_exit ?_
    | ((first | apply retQ_ret | apply retQ_norm | apply wpc_of); focus ((try simp (disch := omega) only [push_cast, Nat.reduceEqDiff, ↓reduceIte, reduceCtorEq, Nat.reduceAdd, Nat.reduceMul, Nat.reduceLeDiff,  hset, hlc1, hloc, hs]); rfl))
    | fail)
    refine ⟨(B.drop (B.length - A.length)).length + (B.take (B.length - A.length)).length, by simp only [List.length_take, List.length_drop]; omega, L, B.drop (B.length - A.length), B.take (B.length - A.length), A ++ R, _, rfl, rfl, ?_, by simp only [List.length_drop]; omega, by simp only [List.length_drop]; omega, by simp only [List.length_take]; omega, by simp only [List.length_append, List.length_take, List.length_drop]; omega, ?_, rfl, ?_⟩
    · rw [← hT]; simp only [List.append_assoc]; rw [← List.append_assoc (List.take _ B), List.take_append_drop]
    · simp only [List.length_drop, List.length_take]
      rw [show ((B.length - (B.length - A.length) : Nat) : Int) = A.length by omega, show ((min (B.length - A.length) B.length : Nat) : Int) = (B.length : Int) - A.length by omega]
    · simp only [List.append_assoc]
  · have hs : callO PX 140 [(q.s n).val 1, .int .i64 (m - A.length), .int .i64 m, .int .i64 A.length, cv] (q.H enc D) = some (.tuple #[], q.H enc (L ++ B ++ [] ++ A ++ R)) := by
      have e : D = L ++ A ++ [] ++ B ++ R := by rw [hD]; simp
      rw [e]
      exact swapRange_eq hc (by simp only [List.length_append, List.length_nil]; omega) hn2 (by omega) (by simp; omega) rfl heq
    (repeat' first
    | (show WpR _ _ _ _ _ _ _ _ _
       first
       | refine wpr_drop ?_
       | refine wpr_p (o := .mv _) (by simp only [ev_mv, opd_s, opd_c, fget, Nat.reduceEqDiff, Nat.one_ne_zero, Nat.zero_ne_one, reduceCtorEq, ↓reduceIte]; rfl) ?_
       | (refine wpr_fork (fun _ => ?_) (fun _ => ?_) <;> try (exfalso; omega))
       | (refine wpr_forkN (fun _ => ?_) (fun _ => ?_) <;> try (exfalso; omega))
       | refine wpr_run rfl ?_
       | refine wpr_pass rfl rfl ?_
       | refine wpr_passS rfl ?_
       | ((first | apply wpr_p | apply wpr_r | apply wpr_callA | apply wpr_callA0 | apply wpr_e0 | apply wpr_e | apply wpr_end0); focus ((try simp (disch := omega) only [push_cast, Nat.reduceEqDiff, ↓reduceIte, reduceCtorEq, Nat.reduceAdd, Nat.reduceMul, Nat.reduceLeDiff,  hset, hlc1, hloc, hs]); rfl))
       | refine wpr_pass0 rfl rfl ?_
       | refine wpr_pass0S rfl ?_
       | (apply wpr_end; (focus ((try simp (disch := omega) only [push_cast, Nat.reduceEqDiff, ↓reduceIte, reduceCtorEq, Nat.reduceAdd, Nat.reduceMul, Nat.reduceLeDiff,  hset, hlc1, hloc, hs]); rfl)); (focus (simp (disch := omega) only [push_cast, Nat.reduceEqDiff, ↓reduceIte, reduceCtorEq, Nat.reduceAdd, Nat.reduceMul, Nat.reduceLeDiff,  hset, hlc1, hloc, hs]; done)))
       | fail)
    | (show Wp _ _ _ _ _ _
       first
       | refine wp_seq ?_
       | refine wp_region0 ?_
       | refine wp_region ?_
       | refine wp_cond_t rfl ?_
       | refine wp_cond_f rfl ?_
       | refine wp_ret ?_
       | refine wp_skip ?_
       | refine wp_exit ?_
       | refine wp_block ?_
       | fail)
    | refine thenQ_norm ?_
    | refine thenQ_ret ?_
    | refine thenQ_exit ?_
    | refine blockQ_norm ?_
    | refine blockQ_ret ?_
    | refine blockQ_same ?_
    | refine blockQ_ne rfl ?_
    | refine loopQ_norm ?_
    | refine loopQ_ret ?_
    | refine loopQ_exit ?_
    | ((first | apply retQ_ret | apply retQ_norm | apply wpc_of); focus ((try simp (disch := omega) only [push_cast, Nat.reduceEqDiff, ↓reduceIte, reduceCtorEq, Nat.reduceAdd, Nat.reduceMul, Nat.reduceLeDiff,  hset, hlc1, hloc, hs]); rfl))
    | fail)
    exact ⟨rfl, by rw [← hT]⟩
  · have hs : callO PX 140 [(q.s n).val 1, .int .i64 (m - A.length), .int .i64 m, .int .i64 B.length, cv] (q.H enc D) = some (.tuple #[], q.H enc (L ++ B ++ A.drop B.length ++ A.take B.length ++ R)) := by
      have e : D = L ++ A.take B.length ++ A.drop B.length ++ B ++ R := by rw [hD]; simp only [List.append_assoc]; rw [← List.append_assoc (List.take _ A), List.take_append_drop]
      rw [e]
      exact swapRange_eq hc (by simp only [List.length_append, List.length_take, List.length_drop]; omega) hn2 (by omega) (by simp only [List.length_take, List.length_drop]; omega) (by simp only [List.length_take]; omega) (by simp only [List.length_take]; omega)
    (repeat' first
    | (show WpR _ _ _ _ _ _ _ _ _
       first
       | refine wpr_drop ?_
       | refine wpr_p (o := .mv _) (by simp only [ev_mv, opd_s, opd_c, fget, Nat.reduceEqDiff, Nat.one_ne_zero, Nat.zero_ne_one, reduceCtorEq, ↓reduceIte]; rfl) ?_
       | (refine wpr_fork (fun _ => ?_) (fun _ => ?_) <;> try (exfalso; omega))
       | (refine wpr_forkN (fun _ => ?_) (fun _ => ?_) <;> try (exfalso; omega))
       | refine wpr_run rfl ?_
       | refine wpr_pass rfl rfl ?_
       | refine wpr_passS rfl ?_
       | ((first | apply wpr_p | apply wpr_r | apply wpr_callA | apply wpr_callA0 | apply wpr_e0 | apply wpr_e | apply wpr_end0); focus ((try simp (disch := omega) only [push_cast, Nat.reduceEqDiff, ↓reduceIte, reduceCtorEq, Nat.reduceAdd, Nat.reduceMul, Nat.reduceLeDiff,  hset, hlc1, hloc, hs]); rfl))
       | refine wpr_pass0 rfl rfl ?_
       | refine wpr_pass0S rfl ?_
       | (apply wpr_end; (focus ((try simp (disch := omega) only [push_cast, Nat.reduceEqDiff, ↓reduceIte, reduceCtorEq, Nat.reduceAdd, Nat.reduceMul, Nat.reduceLeDiff,  hset, hlc1, hloc, hs]); rfl)); (focus (simp (disch := omega) only [push_cast, Nat.reduceEqDiff, ↓reduceIte, reduceCtorEq, Nat.reduceAdd, Nat.reduceMul, Nat.reduceLeDiff,  hset, hlc1, hloc, hs]; done)))
       | fail)
    | (show Wp _ _ _ _ _ _
       first
       | refine wp_seq ?_
       | refine wp_region0 ?_
       | refine wp_region ?_
       | refine wp_cond_t rfl ?_
       | refine wp_cond_f rfl ?_
       | refine wp_ret ?_
       | refine wp_skip ?_
       | refine wp_exit ?_
       | refine wp_block ?_
       | fail)
    | refine thenQ_norm ?_
    | refine thenQ_ret ?_
    | refine thenQ_exit ?_
    | refine blockQ_norm ?_
    | refine blockQ_ret ?_
    | refine blockQ_same ?_
    | refine blockQ_ne rfl ?_
    | refine loopQ_norm ?_
    | refine loopQ_ret ?_
    | refine loopQ_exit ?_
    | ((first | apply retQ_ret | apply retQ_norm | apply wpc_of); focus ((try simp (disch := omega) only [push_cast, Nat.reduceEqDiff, ↓reduceIte, reduceCtorEq, Nat.reduceAdd, Nat.reduceMul, Nat.reduceLeDiff,  hset, hlc1, hloc, hs]); rfl))
    | fail)
    refine ⟨(A.drop B.length).length + (A.take B.length).length, by simp only [List.length_take, List.length_drop]; omega, L ++ B, A.drop B.length, A.take B.length, R, _, rfl, rfl, ?_, by simp only [List.length_append, List.length_drop]; omega, by simp only [List.length_drop]; omega, by simp only [List.length_take]; omega, by simp only [List.length_append, List.length_take, List.length_drop]; omega, ?_, rfl, rfl⟩
    · rw [← hT]; simp only [List.append_assoc]; rw [← List.append_assoc (List.take _ A), List.take_append_drop]
    · simp only [List.length_drop, List.length_take]
      rw [show ((A.length - B.length : Nat) : Int) = (A.length : Int) - B.length by omega, show ((min B.length A.length : Nat) : Int) = (B.length : Int) by omega]
end Go.Proofs.YtblmakgjdenpfaaDoor.AM
