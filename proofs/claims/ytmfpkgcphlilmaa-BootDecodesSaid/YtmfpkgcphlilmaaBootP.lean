/- Plain law of bootstrings: places; what is written is read, what is read is written so. -/
import Derived.Test.YtmfpkgcphlilmaaBootM
set_option linter.unusedVariables false
set_option linter.unusedSimpArgs false
namespace Go.Proofs.Ytmfpkgcphlilmaa.AM
open Go

instance (c : Nat) : Decidable (RuneN c) := by unfold RuneN; infer_instance

/-! ### Places -/

def rank : List Nat → Nat → Nat
  | [], _ => 0
  | a :: l, x => if a < x then rank l x + 1 else 0
def ins : List Nat → Nat → List Nat
  | [], x => [x]
  | a :: l, x => if a < x then a :: ins l x else x :: a :: l

theorem rank_le (x : Nat) : ∀ l : List Nat, rank l x ≤ l.length
  | [] => Nat.le_refl _
  | a :: l => by have := rank_le x l; simp only [rank, List.length_cons]; split <;> omega
theorem ins_len (x : Nat) : ∀ l : List Nat, (ins l x).length = l.length + 1
  | [] => rfl
  | a :: l => by have := ins_len x l; simp only [ins]; split <;> simp [this]
theorem mem_ins (x y : Nat) : ∀ l : List Nat, y ∈ ins l x ↔ y = x ∨ y ∈ l
  | [] => by simp [ins]
  | a :: l => by
    have := mem_ins x y l
    simp only [ins]
    split
    · simp only [List.mem_cons, this]
      constructor
      · rintro (h | h | h)
        · exact .inr (.inl h)
        · exact .inl h
        · exact .inr (.inr h)
      · rintro (h | h | h)
        · exact .inr (.inl h)
        · exact .inl h
        · exact .inr (.inr h)
    · simp only [List.mem_cons]
theorem ins_sorted (x : Nat) : ∀ {l : List Nat}, l.Pairwise (· < ·) → x ∉ l → (ins l x).Pairwise (· < ·)
  | [], _, _ => by simp [ins]
  | a :: l, h, hx => by
    have h1 := List.pairwise_cons.1 h
    simp only [ins]
    simp only [List.mem_cons, not_or] at hx
    split
    · rename_i g
      refine List.pairwise_cons.2 ⟨fun y hy => ?_, ins_sorted x h1.2 hx.2⟩
      rcases (mem_ins x y l).1 hy with rfl | hy
      · exact g
      · exact h1.1 y hy
    · rename_i g
      refine List.pairwise_cons.2 ⟨fun y hy => ?_, h⟩
      rcases List.mem_cons.1 hy with rfl | hy
      · omega
      · have := h1.1 y hy; omega
theorem ins_map (f : Nat → Nat) (x : Nat) : ∀ l : List Nat, (l.map f).insertIdx (rank l x) (f x) = (ins l x).map f
  | [] => rfl
  | a :: l => by
    have := ins_map f x l
    simp only [rank, ins]
    split
    · simp only [List.map_cons, List.insertIdx_succ_cons, this]
    · simp only [List.map_cons, List.insertIdx_zero]
theorem rank_ins {x y : Nat} (h : x < y) : ∀ l : List Nat, rank l x + 1 ≤ rank (ins l x) y
  | [] => by simp [rank, ins, h]
  | a :: l => by
    have := rank_ins h l
    simp only [rank, ins]
    by_cases g : a < x
    · rw [if_pos g, if_pos g]
      simp only [rank]
      rw [if_pos (by omega)]
      omega
    · rw [if_neg g, if_neg g]
      simp only [rank]
      rw [if_pos h]
      omega
theorem rank_mono {x y : Nat} (h : x ≤ y) : ∀ l : List Nat, rank l x ≤ rank l y
  | [] => Nat.le_refl _
  | a :: l => by
    have := rank_mono h l
    simp only [rank]
    by_cases g : a < x
    · rw [if_pos g, if_pos (by omega)]; omega
    · rw [if_neg g]; omega
/-- What stands ahead of a rank is below. -/
theorem rank_lt {y : Nat} : ∀ {l : List Nat} {i : Nat} (hi : i < l.length), i < rank l y → l[i] < y
  | a :: l, i, hi, h => by
    simp only [rank] at h
    split at h
    · rename_i g
      cases i with
      | zero => exact g
      | succ i => exact rank_lt (l := l) (by simpa using hi) (by omega)
    · omega
theorem map_erase (f : Nat → Nat) (l : List Nat) (i : Nat) : (l.eraseIdx i).map f = (l.map f).eraseIdx i := by
  rw [List.eraseIdx_eq_take_drop_succ, List.eraseIdx_eq_take_drop_succ, List.map_append, List.map_take, List.map_drop]
/-- A sorted list without one of its things: that thing's rank, and the list again. -/
theorem rank_erase : ∀ {l : List Nat} {i : Nat} (hi : i < l.length), l.Pairwise (· < ·) → rank (l.eraseIdx i) l[i] = i ∧ ins (l.eraseIdx i) l[i] = l
  | a :: l, 0, hi, h => by
    simp only [List.eraseIdx_zero, List.tail_cons, List.getElem_cons_zero]
    have h1 := List.pairwise_cons.1 h
    cases l with
    | nil => exact ⟨rfl, rfl⟩
    | cons b l =>
      have := h1.1 b (by simp)
      simp only [rank, ins]
      rw [if_neg (by omega), if_neg (by omega)]
      exact ⟨rfl, rfl⟩
  | a :: l, i + 1, hi, h => by
    have h1 := List.pairwise_cons.1 h
    have hil : i < l.length := by simpa using hi
    obtain ⟨e1, e2⟩ := rank_erase hil h1.2
    have := h1.1 l[i] (List.getElem_mem hil)
    simp only [List.eraseIdx_cons_succ, List.getElem_cons_succ, rank, ins]
    rw [if_pos this, if_pos this, e1, e2]
    exact ⟨rfl, rfl⟩

/-! ### Writing -/

def lexlt (x y : Nat × Nat) : Prop := x.1 < y.1 ∨ (x.1 = y.1 ∧ x.2 < y.2)

def encV (there : List Nat) (n j : Nat) (x : Nat × Nat) : Nat := (x.1 - n) * (there.length + 1) + rank there x.2 - j
def encH (p : BP) : List Nat → Nat → Nat → Nat → Bool → List (Nat × Nat) → Bytes
  | _, _, _, _, _, [] => []
  | there, n, j, bias, fst, x :: hs =>
    (wrd p bias 1 (encV there n j x)).map digC ++ encH p (ins there x.2) x.1 (rank there x.2 + 1) (adapt p fst (encV there n j x) (there.length + 1)) false hs

inductive DecR where
  | ok (out : List Nat)
  | bad (pos why : Nat)

def decL (p : BP) : Nat → List Nat → Nat → Nat → Nat → Bool → Nat → Bytes → DecR
  | 0, out, _, _, _, _, _, _ => .ok out
  | f + 1, out, n, j, bias, fst, pos, rest =>
    if rest = [] then .ok out else if 4096 ≤ out.length then .bad pos 4 else
    match rdB p bias n j out.length 1 1 0 pos rest with
    | .bad q e => .bad q e
    | .ok v fin =>
      if ¬ RuneN (n + (j + v) / (out.length + 1)) then .bad (fin - 1) 12
      else decL p f (out.insertIdx ((j + v) % (out.length + 1)) (n + (j + v) / (out.length + 1))) (n + (j + v) / (out.length + 1)) ((j + v) % (out.length + 1) + 1) (adapt p fst v (out.length + 1)) false fin (rest.drop (fin - pos))

/-- What is asked of the high runes that are to come. -/
structure Hi (L : Nat → Nat) (there : List Nat) (n j : Nat) (x : Nat × Nat) : Prop where
  rune : x.1 = L x.2
  ok : RuneN x.1
  new : x.2 ∉ there
  le : n ≤ x.1
  same : x.1 = n → j ≤ rank there x.2

theorem Hi.step {L : Nat → Nat} {there : List Nat} {n j : Nat} {x y : Nat × Nat} (hx : Hi L there n j x) (hy : Hi L there n j y) (hl : lexlt x y) : Hi L (ins there x.2) x.1 (rank there x.2 + 1) y where
  rune := hy.rune
  ok := hy.ok
  new := fun h => by
    rcases (mem_ins _ _ _).1 h with h | h
    · rcases hl with hl | hl
      · have h1 := hx.rune; have h2 := hy.rune; rw [h] at h2; omega
      · omega
    · exact hy.new h
  le := by rcases hl with hl | hl <;> omega
  same := fun e => by
    rcases hl with hl | hl
    · omega
    · exact rank_ins hl.2 _

/-- **What is written is read.** -/
theorem decL_encH {p : BP} (ok : p.Ok) (L : Nat → Nat) : ∀ (hs : List (Nat × Nat)) (f : Nat) (there : List Nat) (n j bias : Nat) (fst : Bool) (pos : Nat), hs.Pairwise lexlt → (∀ x ∈ hs, Hi L there n j x) → j ≤ there.length →
    there.length + hs.length ≤ 4096 → (encH p there n j bias fst hs).length ≤ f →
    decL p f (there.map L) n j bias fst pos (encH p there n j bias fst hs) = .ok ((hs.foldl (fun t x => ins t x.2) there).map L)
  | [], f, there, n, j, bias, fst, pos, _, _, _, _, _ => by
    cases f <;> simp [decL, encH]
  | x :: hs, f, there, n, j, bias, fst, pos, hp, hH, hj, hn, hf => by
    have hp1 := List.pairwise_cons.1 hp
    have hx := hH x (by simp)
    have hne := wrd_ne ok bias 1 (encV there n j x)
    have hlen : 0 < (wrd p bias 1 (encV there n j x)).length := List.length_pos_iff.2 hne
    simp only [List.length_cons] at hn
    have hr := rank_le x.2 there
    -- the number tells the rune and its place
    have hv : j + encV there n j x = (x.1 - n) * (there.length + 1) + rank there x.2 := by
      unfold encV
      rcases Nat.eq_or_lt_of_le hx.le with e | e
      · have := hx.same e.symm
        rw [← e, Nat.sub_self, Nat.zero_mul]
        omega
      · have : there.length + 1 ≤ (x.1 - n) * (there.length + 1) := Nat.le_mul_of_pos_left _ (by omega)
        omega
    have hdiv : (j + encV there n j x) / (there.length + 1) = x.1 - n := by
      rw [hv, Nat.mul_comm, Nat.mul_add_div (by omega), Nat.div_eq_of_lt (by omega)]
      omega
    have hmod : (j + encV there n j x) % (there.length + 1) = rank there x.2 := by
      rw [hv, Nat.mul_comm, Nat.mul_add_mod, Nat.mod_eq_of_lt (by omega)]
    have hru : n + (x.1 - n) = x.1 := by have := hx.le; omega
    have hR : x.1 ≤ 0x10ffff := by have := hx.ok; unfold RuneN at this; omega
    simp only [encH, List.length_append, List.length_map] at hf ⊢
    match f, hf with
    | 0, hf => omega
    | f + 1, hf =>
      have hrd := rd_wr ok (bias := bias) (n := n) (j := j) (cnt := there.length) (encH p (ins there x.2) x.1 (rank there x.2 + 1) (adapt p fst (encV there n j x) (there.length + 1)) false hs) _ 1 (encV there n j x) 1 0 pos (Nat.le_refl _)
        (by rw [Nat.zero_add, Nat.mul_one, hdiv, hru]; omega)
      rw [Nat.zero_add, Nat.mul_one] at hrd
      have hne2 : ¬ (wrd p bias 1 (encV there n j x)).map digC ++ encH p (ins there x.2) x.1 (rank there x.2 + 1) (adapt p fst (encV there n j x) (there.length + 1)) false hs = [] := by
        intro h
        have := congrArg List.length h
        simp only [List.length_append, List.length_map, List.length_nil] at this
        omega
      simp only [decL]
      rw [if_neg hne2, List.length_map, if_neg (by omega), hrd]
      simp only [hdiv, hmod, hru]
      rw [if_neg (by simpa using hx.ok)]
      have hdrop : ((wrd p bias 1 (encV there n j x)).map digC ++ encH p (ins there x.2) x.1 (rank there x.2 + 1) (adapt p fst (encV there n j x) (there.length + 1)) false hs).drop (pos + (wrd p bias 1 (encV there n j x)).length - pos) =
          encH p (ins there x.2) x.1 (rank there x.2 + 1) (adapt p fst (encV there n j x) (there.length + 1)) false hs := by
        rw [show pos + (wrd p bias 1 (encV there n j x)).length - pos = ((wrd p bias 1 (encV there n j x)).map digC).length by rw [List.length_map]; omega, List.drop_left]
      have hins : (there.map L).insertIdx (rank there x.2) x.1 = (ins there x.2).map L := by rw [hx.rune]; exact ins_map L x.2 there
      rw [hdrop, hins, List.foldl_cons]
      exact decL_encH ok L hs f (ins there x.2) x.1 (rank there x.2 + 1) _ false _ hp1.2 (fun y hy => hx.step (hH y (by simp [hy])) (hp1.1 y hy)) (by rw [ins_len]; omega) (by rw [ins_len]; omega) (by omega)

/-- **What is read is written so.** -/
theorem encH_decL {p : BP} (ok : p.Ok) {L : List Nat} : ∀ (f : Nat) (out : List Nat) (n j bias : Nat) (fst : Bool) (pos : Nat) (rest : Bytes), decL p f out n j bias fst pos rest = .ok L → rest.length ≤ f → out.length ≤ 4096 → j ≤ out.length →
    ∃ there hs, there.Pairwise (· < ·) ∧ there.map (L.getD · 0) = out ∧ (∀ k ∈ there, k < L.length) ∧ hs.Pairwise lexlt ∧ (∀ x ∈ hs, x.2 < L.length ∧ Hi (L.getD · 0) there n j x) ∧ (∀ k, k < L.length → k ∈ there ∨ ∃ x ∈ hs, x.2 = k) ∧
      rest = encH p there n j bias fst hs ∧ L.length ≤ 4096
  | f, out, n, j, bias, fst, pos, [], h, _, h4, _ => by
    have hL : L = out := by
      cases f with
      | zero => simp only [decL, DecR.ok.injEq] at h; exact h.symm
      | succ f => simp only [decL, if_true, DecR.ok.injEq] at h; exact h.symm
    subst hL
    refine ⟨List.range L.length, [], List.pairwise_lt_range, ?_, fun k hk => List.mem_range.1 hk, List.Pairwise.nil, fun x hx => (by cases hx), fun k hk => .inl (List.mem_range.2 hk), rfl, h4⟩
    apply List.ext_getElem
    · simp
    · intro i h1 h2
      simp [h2]
  | 0, out, n, j, bias, fst, pos, c :: r, h, hf, _, _ => by simp at hf
  | f + 1, out, n, j, bias, fst, pos, c :: r, h, hf, h4, hj => by
    simp only [decL] at h
    rw [if_neg (by simp)] at h
    split at h
    · cases h
    · rename_i hlen
      split at h
      · cases h
      · rename_i v fin hrd
        obtain ⟨u, rest2, e1, e2, e3, e4⟩ := wr_rd ok _ _ _ _ _ _ _ hrd
        rw [Nat.zero_add, Nat.mul_one] at e1
        subst e1
        split at h
        · cases h
        · rename_i hru
          simp only [Decidable.not_not] at hru
          have hne := wrd_ne ok bias 1 v
          have hl : 0 < (wrd p bias 1 v).length := List.length_pos_iff.2 hne
          have hdrop : (c :: r).drop (fin - pos) = rest2 := by
            rw [e2, e3, show pos + (wrd p bias 1 v).length - pos = ((wrd p bias 1 v).map digC).length by rw [List.length_map]; omega, List.drop_left]
          rw [hdrop] at h
          have hrl : rest2.length ≤ f := by
            have := congrArg List.length e2
            simp only [List.length_cons, List.length_append, List.length_map] at this hf
            omega
          have hi : (j + v) % (out.length + 1) < out.length + 1 := Nat.mod_lt _ (by omega)
          have hdm := Nat.div_add_mod (j + v) (out.length + 1)
          generalize hI : (j + v) % (out.length + 1) = i at h hi hdm
          generalize hQ : (j + v) / (out.length + 1) = q at h hru hdm
          have hol : (out.insertIdx i (n + q)).length = out.length + 1 := List.length_insertIdx_of_le_length (by omega) _
          obtain ⟨there', hs', a1, a2, a3, a4, a5, a6, a7, a8⟩ := encH_decL ok f _ _ _ _ _ _ rest2 h hrl (by rw [hol]; omega) (by rw [hol]; omega)
          have htl : there'.length = out.length + 1 := by have := congrArg List.length a2; rw [List.length_map, hol] at this; exact this
          have hit : i < there'.length := by omega
          obtain ⟨r1, r2⟩ := rank_erase hit a1
          have hel : (there'.eraseIdx i).length = out.length := by rw [List.length_eraseIdx_of_lt hit]; omega
          have hpos : L.getD there'[i] 0 = n + q := by
            have : (there'.map (L.getD · 0))[i]'(by simpa using hit) = (out.insertIdx i (n + q))[i]'(by rw [hol]; exact hi) := by simp only [a2]
            rw [List.getElem_map, List.getElem_insertIdx_self] at this
            exact this
          have hmem : ∀ k, k ∈ there' ↔ k = there'[i] ∨ k ∈ there'.eraseIdx i := fun k => by
            rw [← mem_ins, r2]
          have hnin : there'[i] ∉ there'.eraseIdx i := fun hk => by
            have hs1 : (there'.eraseIdx i).Pairwise (· < ·) := a1.sublist (List.eraseIdx_sublist _ _)
            have hc : there'.Nodup := a1.imp (fun h => Nat.ne_of_lt h)
            rw [List.mem_eraseIdx_iff_getElem] at hk
            obtain ⟨k, hk1, hk2, hk3⟩ := hk
            exact hk2 (by
              rcases Nat.lt_trichotomy k i with h | h | h
              · have := List.pairwise_iff_getElem.1 a1 _ _ hk1 hit h; omega
              · exact h
              · have := List.pairwise_iff_getElem.1 a1 _ _ hit hk1 h; omega)
          have hv2 : j + v = q * (out.length + 1) + i := by rw [Nat.mul_comm]; omega
          have hsame : q = 0 → j ≤ i := fun e => by rw [e, Nat.zero_mul] at hv2; omega
          have henc : encV (there'.eraseIdx i) n j (n + q, there'[i]) = v := by
            unfold encV
            simp only [hel, r1, Nat.add_sub_cancel_left]
            omega
          refine ⟨there'.eraseIdx i, (n + q, there'[i]) :: hs', a1.sublist (List.eraseIdx_sublist _ _), ?_, fun k hk => a3 k ((hmem k).2 (.inr hk)), List.pairwise_cons.2 ⟨fun x hx => ?_, a4⟩, fun x hx => ?_, fun k hk => ?_, ?_, a8⟩
          · rw [map_erase, a2, List.eraseIdx_insertIdx_self]
          · have hx2 := (a5 x hx).2
            rcases Nat.eq_or_lt_of_le hx2.le with e | e
            · exact .inr ⟨e, rank_lt hit (by have := hx2.same e.symm; omega)⟩
            · exact .inl e
          · rcases List.mem_cons.1 hx with rfl | hx
            · exact ⟨a3 _ (List.getElem_mem hit), hpos.symm, hru, hnin, Nat.le_add_right _ _, fun e => by rw [r1]; exact hsame (by simp only at e; omega)⟩
            · obtain ⟨b1, b2⟩ := a5 x hx
              refine ⟨b1, b2.rune, b2.ok, fun hk => b2.new ((hmem _).2 (.inr hk)), by have := b2.le; omega, fun e => ?_⟩
              have h3 := b2.le
              have h4 := b2.same (by omega)
              have h5 : there'[i] < x.2 := rank_lt hit (by omega)
              have h6 := rank_mono (Nat.le_of_lt h5) (there'.eraseIdx i)
              rw [r1] at h6
              have := hsame (by omega)
              omega
          · rcases a6 k hk with h1 | ⟨x, h1, h2⟩
            · rcases (hmem k).1 h1 with h1 | h1
              · exact .inr ⟨_, List.mem_cons_self, h1.symm⟩
              · exact .inl h1
            · exact .inr ⟨x, List.mem_cons_of_mem _ h1, h2⟩
          · simp only [encH]
            rw [henc, hel, r1, r2, e2, a7]

end Go.Proofs.Ytmfpkgcphlilmaa.AM
