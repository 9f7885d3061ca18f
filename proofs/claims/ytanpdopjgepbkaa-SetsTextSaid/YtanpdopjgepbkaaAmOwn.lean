/-
  Slices of one's own: made, written, grown.
-/
import Derived.Test.YtanpdopjgepbkaaAmSl
set_option linter.unusedVariables false
set_option linter.unusedSimpArgs false
namespace Go.Proofs.Ytanpdopjgepbkaa.AM
open Go

theorem rd_map {α : Type} {f : α → List Value} {l : List α} {lc : Lc} {h : AH} {e : Nat} {s : Sl} (r : Reads h e s (l.map f)) {i : Nat} (hi : i < l.length) : Mem.rd ⟨lc, h⟩ (s.adr e i) e = some (f l[i]) := by
  have := rd_reads (lc := lc) r (i := i) (by simpa using hi)
  simpa using this
theorem rd_mapc {α : Type} {f : α → List Value} {l : List α} {lc : Lc} {h : AH} {e : Nat} {s : Sl} (r : Reads h e s (l.map f)) {i k : Nat} (hi : i < l.length) (hk : k < e) :
    Mem.rd ⟨lc, h⟩ (ptrOff (s.adr e i) k) 1 = some (((f l[i]).drop k).take 1) := by
  have hl : (f l[i]).length = e := r.2.1 _ (List.mem_map.2 ⟨l[i], List.getElem_mem hi, rfl⟩)
  have := rd_cell (lc := lc) r (i := i) (f := k) (by simpa using hi) (by simpa [hl] using hk)
  rw [this]
  simp only [List.getElem_map]
  rw [List.drop_eq_getElem_cons (by omega), List.take_succ_cons, List.take_zero]
theorem Reads.len {α : Type} {f : α → List Value} {l : List α} {h : AH} {e : Nat} {s : Sl} (r : Reads h e s (l.map f)) : s.len = l.length := by simpa using r.1

/-! ### 1. Splits of a flat list -/

theorem setAll_eq : ∀ (vs pre old post : List Value), vs.length = old.length → setAll (pre ++ old ++ post) pre.length vs = pre ++ vs ++ post
  | [], pre, [], post, _ => by simp [setAll]
  | v :: vs, pre, o :: old, post, h => by
    have h' : vs.length = old.length := by simpa using h
    simp only [setAll, List.append_assoc, List.cons_append]
    rw [List.set_append_right _ _ (Nat.le_refl _), Nat.sub_self, List.set_cons_zero]
    have := setAll_eq vs (pre ++ [v]) old post h'
    simp only [List.length_append, List.length_singleton, List.append_assoc, List.singleton_append] at this
    exact this
  | [], _, _ :: _, _, h => by simp at h
  | _ :: _, _, [], _, h => by simp at h

theorem flatten_split {e : Nat} {xss : List (List Value)} (h : ∀ x ∈ xss, x.length = e) {i : Nat} (hi : i < xss.length) :
    xss.flatten = (xss.take i).flatten ++ xss[i] ++ (xss.drop (i + 1)).flatten ∧ (xss.take i).flatten.length = i * e := by
  constructor
  · have hx : xss = xss.take i ++ xss[i] :: xss.drop (i + 1) := by rw [← List.drop_eq_getElem_cons hi, List.take_append_drop]
    have := congrArg List.flatten hx
    simp only [List.flatten_append, List.flatten_cons] at this
    rw [this]
    simp only [List.append_assoc]
  · rw [flatten_len (fun x hx => h x (List.mem_of_mem_take hx)), List.length_take, Nat.min_eq_left (by omega)]

theorem set_flatten {e : Nat} {xss : List (List Value)} (h : ∀ x ∈ xss, x.length = e) {i : Nat} (hi : i < xss.length) {vs : List Value} :
    (xss.set i vs).flatten = (xss.take i).flatten ++ vs ++ (xss.drop (i + 1)).flatten := by
  rw [List.set_eq_take_append_cons_drop, if_pos hi]
  simp

/-! ### 2. Memory -/

theorem own_set {h : AH} {e : Nat} {s : Sl} {xss : List (List Value)} (ho : Own h e s xss) {i : Nat} (hi : i < xss.length) {vs : List Value} (hv : vs.length = e) :
    ∃ h', (∀ lc, Mem.wr ⟨lc, h⟩ (s.adr e i) vs = some ⟨lc, h'⟩) ∧ Own h' e s (xss.set i vs) ∧ h'.n = h.n ∧ ∀ b, s.blk ≠ some b → h'.get b = h.get b := by
  obtain ⟨h1, h2, h3⟩ := ho
  cases s with
  | nil => simp [Sl.len] at h1; omega
  | «at» b o n =>
    obtain ⟨pre, h4, h5⟩ := h3
    obtain ⟨f1, f2⟩ := flatten_split h2 hi
    have hl := flatten_len h2
    have hie : i * e + e ≤ xss.length * e := by
      have : (i + 1) * e ≤ xss.length * e := Nat.mul_le_mul_right e hi
      rw [Nat.add_mul] at this; omega
    refine ⟨h.set b (.cells false (pre ++ (xss.set i vs).flatten)), fun lc => ?_, ⟨by simpa using h1, ?_, pre, AH.get_set_same _ (AH.get_lt h4), h5⟩, rfl, fun b' hb => AH.get_set_ne _ (fun e => hb (by rw [e]; rfl))⟩
    · show Mem.wr ⟨lc, h⟩ ⟨b, o + i * e, none⟩ vs = _
      rw [wr_heap, h4]
      simp only [List.length_append, hl, h5]
      rw [if_pos (by omega), set_flatten h2 hi, f1]
      have hel : (xss[i]).length = e := h2 _ (List.getElem_mem hi)
      have := setAll_eq vs (pre ++ (xss.take i).flatten) xss[i] (xss.drop (i + 1)).flatten (by omega)
      simp only [List.length_append, f2, h5, List.append_assoc] at this
      simp only [List.append_assoc, this]
    · intro x hx
      rcases List.mem_or_eq_of_mem_set hx with h' | h'
      · exact h2 x h'
      · rw [h', hv]

theorem own_append {h : AH} {e by' : Nat} {s : Sl} {xss yss : List (List Value)} (ho : Own h e s xss) {y : Value} {lc : Lc} {k : Nat} (hk : lenV y = some k) (hy : rdSlice ⟨lc, h⟩ e y = some yss.flatten)
    (hyl : yss.length = k) (hye : ∀ x ∈ yss, x.length = e) (k0 : 0 < k) (he : 0 < e) (hb : 0 < by') (hn : (xss.length + k) * by' ≤ 140737488355328) :
    ∃ s' h', appendA e by' ⟨lc, h⟩ (s.val e) y = some (s'.val e, ⟨lc, h'⟩) ∧ Own h' e s' (xss ++ yss) ∧ s'.blk = some h.n ∧ h'.n = h.n + 1 ∧ ∀ b, b < h.n → s.blk ≠ some b → h'.get b = h.get b := by
  obtain ⟨h1, h2, h3⟩ := ho
  have hyf : yss.flatten.length = k * e := by rw [flatten_len hye, hyl]
  have hall : ∀ x ∈ xss ++ yss, x.length = e := fun x hx => (List.mem_append.1 hx).elim (h2 x) (hye x)
  cases s with
  | nil =>
    have hx : xss = [] := List.eq_nil_of_length_eq_zero (by simpa [Sl.len] using h1.symm)
    subst hx
    simp only [List.length_nil, Nat.zero_add] at hn
    refine ⟨.at h.n 0 k, h.push (.cells false yss.flatten), ?_, ⟨by simp [Sl.len, hyl], hall, [], by simpa using AH.get_push_same h _, rfl⟩, rfl, rfl, fun b hb' _ => AH.get_push_ne _ (by omega)⟩
    simp only [appendA, hk, hy, hyf, if_true, Sl.val]
    rw [if_neg (by omega), if_pos ⟨hn, hb, he⟩]
  | «at» b o n =>
    obtain ⟨pre, h4, h5⟩ := h3
    simp only [Sl.len] at h1
    subst h1
    have hl := flatten_len h2
    have hbn := AH.get_lt h4
    refine ⟨.at h.n 0 (xss.length + k), (h.kill b).push (.cells false (xss.flatten ++ yss.flatten)), ?_, ⟨by simp [Sl.len, hyl], hall, [], by simpa using AH.get_push_same (h.kill b) _, rfl⟩, rfl, rfl, fun b' hb' hne => ?_⟩
    · simp only [appendA, hk, hy, hyf, if_true, Sl.val]
      rw [if_neg (by omega)]
      simp only [h4]
      rw [if_pos ⟨by simp only [List.length_append, hl, h5], hn, hb, he, trivial⟩, ← h5, List.drop_left]
    · rw [AH.get_push_ne _ (by simpa using Nat.ne_of_lt hb'), AH.get_kill_ne (fun e => hne (by rw [e]; rfl))]

/-! ### 3. Fresh since a heap -/

structure FOwn (h0 h : AH) (e : Nat) (s : Sl) (xss : List (List Value)) : Prop where
  own : Own h e s xss
  kp : Kp h0 h
  new : ∀ b, s.blk = some b → h0.n ≤ b

theorem FOwn.reads {h0 h : AH} {e : Nat} {s : Sl} {xss : List (List Value)} (f : FOwn h0 h e s xss) : Reads h e s xss := f.own.reads
theorem FOwn.nil {h0 h : AH} {e : Nat} (k : Kp h0 h) : FOwn h0 h e .nil [] := ⟨⟨rfl, by simp, trivial⟩, k, fun b hb => by cases hb⟩
theorem FOwn.set {h0 h : AH} {e : Nat} {s : Sl} {xss : List (List Value)} (f : FOwn h0 h e s xss) {i : Nat} (hi : i < xss.length) {vs : List Value} (hv : vs.length = e) :
    ∃ h', (∀ lc, Mem.wr ⟨lc, h⟩ (s.adr e i) vs = some ⟨lc, h'⟩) ∧ FOwn h0 h' e s (xss.set i vs) := by
  obtain ⟨h', a, b, c, d⟩ := own_set f.own hi hv
  exact ⟨h', a, b, ⟨by rw [c]; exact f.kp.1, fun b' hb => (d b' (fun e => by have := f.new _ e; omega)).trans (f.kp.2 b' hb)⟩, f.new⟩
theorem FOwn.append {h0 h : AH} {e by' : Nat} {s : Sl} {xss yss : List (List Value)} (f : FOwn h0 h e s xss) {y : Value} {lc : Lc} {k : Nat} (hk : lenV y = some k) (hy : rdSlice ⟨lc, h⟩ e y = some yss.flatten)
    (hyl : yss.length = k) (hye : ∀ x ∈ yss, x.length = e) (k0 : 0 < k) (he : 0 < e) (hb : 0 < by') (hn : (xss.length + k) * by' ≤ 140737488355328) :
    ∃ s' h', appendA e by' ⟨lc, h⟩ (s.val e) y = some (s'.val e, ⟨lc, h'⟩) ∧ FOwn h0 h' e s' (xss ++ yss) := by
  obtain ⟨s', h', a, b, c, d, g⟩ := own_append f.own hk hy hyl hye k0 he hb hn
  exact ⟨s', h', a, b, ⟨by have := f.kp.1; omega, fun b' hb => (g b' (by have := f.kp.1; omega) (fun e => by have := f.new _ e; omega)).trans (f.kp.2 b' hb)⟩, fun b' hb => by
    rw [c] at hb; injection hb with hb; have := f.kp.1; omega⟩
theorem FOwn.make {h0 h : AH} {e : Nat} (k : Kp h0 h) {n : Nat} {z : List Value} (hz : z.length = e) : FOwn h0 (h.push (.cells false (litCells n z))) e (.at h.n 0 n) (List.replicate n z) where
  own := ⟨by rw [List.length_replicate]; rfl, fun x hx => by rw [(List.mem_replicate.1 hx).2]; exact hz, [], by simpa only [litCells, List.nil_append] using AH.get_push_same h _, rfl⟩
  kp := ⟨by have := k.1; simp; omega, fun b hb => (AH.get_push_ne _ (by have := k.1; omega)).trans (k.2 b hb)⟩
  new := fun b hb => by injection hb with hb; have := k.1; omega

/-! ### 4. The rules -/

variable {p : Prg} {fr : Fr} {lc : Lc} {h h0 : AH}
variable {T : List (Fr × Mem) → Prop} {keep : List Nat} {r : List LInstr} {tr : List (Fr × Mem)} {K : Fr → Lc → AH → Prop} {d : Nat} {v : Value}

theorem wpr_storeS {n e i : Nat} {a x : Opd} {s : Sl} {xss : List (List Value)} {vs : List Value} (f : FOwn h0 h e s xss) (ha : opd fr a = .pointer (some (s.adr e i))) (hx : vcells (opd fr x) = vs) (hn : vs.length = n) (hne : n = e)
    (hok : vs.all cellOk = true) (hi : i < xss.length) (hq : ∀ h', FOwn h0 h' e s (xss.set i vs) → WpR p T keep r fr lc h' ((fr, ⟨lc, h⟩) :: tr) K) : WpR p T keep (⟨none, .e (.store n a x), none⟩ :: r) fr lc h tr K := by
  obtain ⟨h', h1, h2⟩ := f.set hi (vs := vs) (by omega)
  refine wpr_e0 (v := undef) (lc' := lc) (h' := h') ?_ (hq h' h2)
  rw [ev_store, ha]
  simp only [hx, hn, hok, and_self, if_true, h1, Option.map_some]

theorem wpr_appendS {e by' : Nat} {x y : Opd} {s : Sl} {xss yss : List (List Value)} {k : Nat} (f : FOwn h0 h e s xss) (hx : opd fr x = s.val e) (hk : lenV (opd fr y) = some k) (hy : rdSlice ⟨lc, h⟩ e (opd fr y) = some yss.flatten)
    (hyl : yss.length = k) (hye : ∀ x ∈ yss, x.length = e) (k0 : 0 < k) (he : 0 < e) (hb : 0 < by') (hn : (xss.length + k) * by' ≤ 140737488355328)
    (hq : ∀ s' h', FOwn h0 h' e s' (xss ++ yss) → WpR p T keep r ((d, s'.val e) :: fr) lc h' ((fr, ⟨lc, h⟩) :: tr) K) : WpR p T keep (⟨some d, .e (.append e by' x y), none⟩ :: r) fr lc h tr K := by
  obtain ⟨s', h', h1, h2⟩ := f.append hk hy hyl hye k0 he hb hn
  refine wpr_e (v := s'.val e) (lc' := lc) (h' := h') ?_ (hq s' h' h2)
  simp only [EOp.ev, hx, h1]

theorem wpr_mksS {e by' n : Nat} {z : List Value} {x y : Opd} (kp : Kp h0 h) (hx : opd fr x = .int .i64 n) (hy : opd fr y = .int .i64 n) (hz : z.length = e) (he : 0 < e) (hn : n * by' ≤ 281474976710656) (hn' : n ≤ 9223372036854775807)
    (hq : ∀ s h', FOwn h0 h' e s (List.replicate n z) → WpR p T keep r ((d, s.val e) :: fr) lc h' ((fr, ⟨lc, h⟩) :: tr) K) : WpR p T keep (⟨some d, .e (.mks e by' z x y), none⟩ :: r) fr lc h tr K := by
  refine wpr_e (v := (Sl.at h.n 0 n).val e) (lc' := lc) (h' := h.push (.cells false (litCells n z))) ?_ (hq _ _ (FOwn.make kp hz))
  simp only [EOp.ev, hx, hy]
  have hc : (0 : Int) ≤ (n : Int) ∧ (n : Int) ≤ n ∧ (n : Int) * by' ≤ 281474976710656 ∧ (n : Int) ≤ 9223372036854775807 ∧ z.length = e ∧ 0 < e := ⟨by omega, by omega, by rw [← Int.natCast_mul]; omega, by omega, hz, he⟩
  rw [if_pos hc]
  simp [Sl.val]

theorem own_copy {h : AH} {e : Nat} {s : Sl} {xss yss : List (List Value)} (ho : Own h e s xss) (hy : ∀ x ∈ yss, x.length = e) (hl : yss.length ≤ xss.length) (h0 : 0 < yss.length) :
    ∃ h', (∀ lc, ∃ b o, s = .at b o xss.length ∧ Mem.wr ⟨lc, h⟩ ⟨b, o, none⟩ yss.flatten = some ⟨lc, h'⟩) ∧ Own h' e s (yss ++ xss.drop yss.length) ∧ h'.n = h.n ∧ ∀ b, s.blk ≠ some b → h'.get b = h.get b := by
  obtain ⟨h1, h2, h3⟩ := ho
  cases s with
  | nil => simp [Sl.len] at h1; omega
  | «at» b o n =>
    obtain ⟨pre, h4, h5⟩ := h3
    simp only [Sl.len] at h1
    subst h1
    have hlx := flatten_len h2
    have hly := flatten_len hy
    have hle : yss.length * e ≤ xss.length * e := Nat.mul_le_mul_right e hl
    refine ⟨h.set b (.cells false (pre ++ (yss ++ xss.drop yss.length).flatten)), fun lc => ⟨b, o, rfl, ?_⟩, ⟨?_, ?_, pre, AH.get_set_same _ (AH.get_lt h4), h5⟩, rfl, fun b' hb => AH.get_set_ne _ (fun e => hb (by rw [e]; rfl))⟩
    · rw [wr_heap, h4]
      simp only [List.length_append, hlx, hly, h5]
      rw [if_pos (by omega)]
      have hx := congrArg List.flatten (List.take_append_drop yss.length xss)
      rw [List.flatten_append] at hx
      have ht : (xss.take yss.length).flatten.length = yss.length * e := by
        rw [flatten_len (fun x hx => h2 x (List.mem_of_mem_take hx)), List.length_take, Nat.min_eq_left hl]
      have := setAll_eq yss.flatten pre (xss.take yss.length).flatten (xss.drop yss.length).flatten (by omega)
      rw [List.append_assoc, hx, h5] at this
      rw [this, List.flatten_append, List.append_assoc]
    · simp only [Sl.len, List.length_append, List.length_drop]; omega
    · intro x hx
      rcases List.mem_append.1 hx with h' | h'
      · exact hy x h'
      · exact h2 x (List.mem_of_mem_drop h')
theorem FOwn.copy {h0 h : AH} {e : Nat} {s : Sl} {xss yss : List (List Value)} (f : FOwn h0 h e s xss) (hy : ∀ x ∈ yss, x.length = e) (hl : yss.length ≤ xss.length) (hp : 0 < yss.length) :
    ∃ h', (∀ lc, ∃ b o, s = .at b o xss.length ∧ Mem.wr ⟨lc, h⟩ ⟨b, o, none⟩ yss.flatten = some ⟨lc, h'⟩) ∧ FOwn h0 h' e s (yss ++ xss.drop yss.length) := by
  obtain ⟨h', a, b, c, d⟩ := own_copy f.own hy hl hp
  exact ⟨h', a, b, ⟨by rw [c]; exact f.kp.1, fun b' hb => (d b' (fun e => by have := f.new _ e; omega)).trans (f.kp.2 b' hb)⟩, f.new⟩

theorem wpr_copyS {e : Nat} {x y : Opd} {s t : Sl} {xss yss : List (List Value)} (f : FOwn h0 h e s xss) (rt : Reads h e t yss) (hx : opd fr x = s.val e) (hy : opd fr y = t.val e) (hl : yss.length ≤ xss.length)
    (hq : ∀ h', FOwn h0 h' e s (yss ++ xss.drop yss.length) → WpR p T keep r ((d, .int .i64 (yss.length : Nat)) :: fr) lc h' ((fr, ⟨lc, h⟩) :: tr) K) : WpR p T keep (⟨some d, .e (.copy e x y), none⟩ :: r) fr lc h tr K := by
  have h1 := rdSlice_reads (lc := lc) rt
  have hyl := flatten_len rt.2.1
  have htl : t.len = yss.length := rt.1
  have hsl : s.len = xss.length := f.own.1
  rcases Nat.eq_zero_or_pos yss.length with h0' | h0'
  · have hyn : yss = [] := List.eq_nil_of_length_eq_zero h0'
    subst hyn
    refine wpr_e (v := .int .i64 0) (lc' := lc) (h' := h) ?_ (by simpa using hq h (by simpa using f))
    simp only [EOp.ev, hx, hy, h1, Sl.lenV_val, htl]
    cases s <;> simp [Sl.val]
  · obtain ⟨h', a, b⟩ := f.copy rt.2.1 hl h0'
    obtain ⟨bb, o, e1, e2⟩ := a lc
    refine wpr_e (v := .int .i64 (yss.length : Nat)) (lc' := lc) (h' := h') ?_ (hq h' b)
    subst e1
    have hv : (Sl.at bb o xss.length).val e = .slice (some ⟨bb, o, none⟩) xss.length e := rfl
    simp only [EOp.ev, hx, hy, h1, Sl.lenV_val, htl, hv, hyl, if_true]
    rw [if_neg (by omega), Nat.min_eq_left hl, ← hyl, List.take_length, e2]
    rfl

theorem own_set1 {h : AH} {e : Nat} {s : Sl} {xss : List (List Value)} (ho : Own h e s xss) {i k : Nat} (hi : i < xss.length) (hk : k < e) (v : Value) :
    ∃ h', (∀ lc, Mem.wr ⟨lc, h⟩ (ptrOff (s.adr e i) k) [v] = some ⟨lc, h'⟩) ∧ Own h' e s (xss.set i ((xss[i]).set k v)) ∧ h'.n = h.n ∧ ∀ b, s.blk ≠ some b → h'.get b = h.get b := by
  have hel : (xss[i]).length = e := ho.2.1 _ (List.getElem_mem hi)
  obtain ⟨h', a, b, c, d⟩ := own_set ho hi (vs := (xss[i]).set k v) (by simpa using hel)
  refine ⟨h', fun lc => ?_, b, c, d⟩
  have ha := a lc
  obtain ⟨h1, h2, h3⟩ := ho
  cases s with
  | nil => simp [Sl.len] at h1; omega
  | «at» bb o n =>
    obtain ⟨pre, h4, h5⟩ := h3
    obtain ⟨f1, f2⟩ := flatten_split h2 hi
    have hl := flatten_len h2
    have hie : i * e + e ≤ xss.length * e := by
      have : (i + 1) * e ≤ xss.length * e := Nat.mul_le_mul_right e hi
      rw [Nat.add_mul] at this; omega
    have ha' : Mem.wr ⟨lc, h⟩ ⟨bb, o + i * e, none⟩ ((xss[i]).set k v) = some ⟨lc, h'⟩ := ha
    show Mem.wr ⟨lc, h⟩ ⟨bb, o + i * e + k, none⟩ [v] = _
    rw [wr_heap, h4] at ha' ⊢
    simp only [List.length_append, hl, h5, List.length_set, hel, List.length_singleton] at ha' ⊢
    rw [if_pos (by omega)] at ha' ⊢
    rw [← ha']
    congr 4
    have hx : (xss[i]).take k ++ ((xss[i])[k] :: (xss[i]).drop (k + 1)) = xss[i] := by
      rw [← List.drop_eq_getElem_cons (by omega), List.take_append_drop]
    have s1 := setAll_eq [v] (pre ++ (xss.take i).flatten ++ (xss[i]).take k) [(xss[i])[k]] ((xss[i]).drop (k + 1) ++ (xss.drop (i + 1)).flatten) rfl
    have s2 := setAll_eq ((xss[i]).set k v) (pre ++ (xss.take i).flatten) xss[i] (xss.drop (i + 1)).flatten (by simp)
    simp only [List.length_append, f2, h5, List.length_take, hel] at s1 s2
    rw [Nat.min_eq_left (by omega)] at s1
    have e1 : pre ++ xss.flatten = pre ++ (xss.take i).flatten ++ (xss[i]).take k ++ [(xss[i])[k]] ++ ((xss[i]).drop (k + 1) ++ (xss.drop (i + 1)).flatten) := by
      rw [f1]
      conv => lhs; rw [← hx]
      simp only [List.append_assoc, List.cons_append, List.nil_append]
    have e2 : pre ++ xss.flatten = pre ++ (xss.take i).flatten ++ xss[i] ++ (xss.drop (i + 1)).flatten := by
      rw [f1]; simp only [List.append_assoc]
    rw [show o + i * e + k = o + i * e + k from rfl, e1, s1, ← e1, e2, s2]
    rw [List.set_eq_take_append_cons_drop, if_pos (by omega)]
    simp only [List.append_assoc, List.cons_append, List.nil_append]

theorem wpr_appendR {e by' : Nat} {x y : Opd} {s : Sl} {xss yss : List (List Value)} {k : Nat} (f : Own h e s xss) (hx : opd fr x = s.val e) (hk : lenV (opd fr y) = some k) (hy : rdSlice ⟨lc, h⟩ e (opd fr y) = some yss.flatten)
    (hyl : yss.length = k) (hye : ∀ x ∈ yss, x.length = e) (k0 : 0 < k) (he : 0 < e) (hb : 0 < by') (hn : (xss.length + k) * by' ≤ 140737488355328)
    (hq : ∀ s' h', Own h' e s' (xss ++ yss) → s'.blk = some h.n → h'.n = h.n + 1 → (∀ b, b < h.n → s.blk ≠ some b → h'.get b = h.get b) → WpR p T keep r ((d, s'.val e) :: fr) lc h' ((fr, ⟨lc, h⟩) :: tr) K) :
    WpR p T keep (⟨some d, .e (.append e by' x y), none⟩ :: r) fr lc h tr K := by
  obtain ⟨s', h', h1, h2, h3, h4, h5⟩ := own_append f hk hy hyl hye k0 he hb hn
  refine wpr_e (v := s'.val e) (lc' := lc) (h' := h') ?_ (hq s' h' h2 h3 h4 h5)
  simp only [EOp.ev, hx, h1]

theorem wpr_store1R {e i k : Nat} {a x : Opd} {s : Sl} {xss : List (List Value)} {v : Value} (f : Own h e s xss) (ha : opd fr a = .pointer (some (ptrOff (s.adr e i) k))) (hx : vcells (opd fr x) = [v]) (hok : cellOk v = true) (hi : i < xss.length) (hk : k < e)
    (hq : ∀ h', Own h' e s (xss.set i ((xss[i]).set k v)) → h'.n = h.n → (∀ b, s.blk ≠ some b → h'.get b = h.get b) → WpR p T keep r fr lc h' ((fr, ⟨lc, h⟩) :: tr) K) :
    WpR p T keep (⟨none, .e (.store 1 a x), none⟩ :: r) fr lc h tr K := by
  obtain ⟨h', h1, h2, h3, h4⟩ := own_set1 f hi hk v
  refine wpr_e0 (v := undef) (lc' := lc) (h' := h') ?_ (hq h' h2 h3 h4)
  rw [ev_store, ha]
  simp only [hx, List.length_singleton, List.all_cons, List.all_nil, hok, Bool.and_self, and_self, if_true, h1, Option.map_some]

theorem wpr_storeR {n e i : Nat} {a x : Opd} {s : Sl} {xss : List (List Value)} {vs : List Value} (f : Own h e s xss) (ha : opd fr a = .pointer (some (s.adr e i))) (hx : vcells (opd fr x) = vs) (hn : vs.length = n) (hne : n = e)
    (hok : vs.all cellOk = true) (hi : i < xss.length) (hq : ∀ h', Own h' e s (xss.set i vs) → h'.n = h.n → (∀ b, s.blk ≠ some b → h'.get b = h.get b) → WpR p T keep r fr lc h' ((fr, ⟨lc, h⟩) :: tr) K) :
    WpR p T keep (⟨none, .e (.store n a x), none⟩ :: r) fr lc h tr K := by
  obtain ⟨h', h1, h2, h3, h4⟩ := own_set f hi (vs := vs) (by omega)
  refine wpr_e0 (v := undef) (lc' := lc) (h' := h') ?_ (hq h' h2 h3 h4)
  rw [ev_store, ha]
  simp only [hx, hn, hok, and_self, if_true, h1, Option.map_some]

/-- append to no list: a copy. -/
theorem wpr_appendNil {e by' : Nat} {x y : Opd} {t : Sl} {yss : List (List Value)} (rt : Reads h e t yss) (hx : opd fr x = .slice none 0 0) (hy : opd fr y = t.val e) (he : 0 < e) (hb : 0 < by') (hn : yss.length * by' ≤ 140737488355328)
    (hq : ∀ s' h', FOwn h h' e s' yss → (s' = .nil ∨ 0 < yss.length) → WpR p T keep r ((d, s'.val e) :: fr) lc h' ((fr, ⟨lc, h⟩) :: tr) K) : WpR p T keep (⟨some d, .e (.append e by' x y), none⟩ :: r) fr lc h tr K := by
  have hr1 := rdSlice_reads (lc := lc) rt
  have htl : t.len = yss.length := rt.1
  rcases Nat.eq_zero_or_pos yss.length with h0 | h0
  · have hyn : yss = [] := List.eq_nil_of_length_eq_zero h0
    subst hyn
    refine wpr_e (v := Sl.val e .nil) (lc' := lc) (h' := h) ?_ (hq .nil h (FOwn.nil (Kp.refl h)) (.inl rfl))
    have hyl : lenV (t.val e) = some 0 := by rw [Sl.lenV_val, htl]; rfl
    simp only [EOp.ev, hx, hy, appendA, hyl, hr1, List.flatten_nil, List.length_nil, Nat.zero_mul, if_true]
    rfl
  · obtain ⟨s', h', h1, h2⟩ := (FOwn.nil (e := e) (Kp.refl h)).append (by' := by') (k := yss.length) (lc := lc) (y := t.val e) (by rw [Sl.lenV_val, htl]) hr1 rfl rt.2.1 h0 he hb (by simpa using hn)
    refine wpr_e (v := s'.val e) (lc' := lc) (h' := h') ?_ (hq s' h' (by simpa using h2) (.inr h0))
    simp only [EOp.ev, hx, hy]
    exact h1

end Go.Proofs.Ytanpdopjgepbkaa.AM
