/- Parts of proofs: lemmas, joined. -/
import Derived.Test.YtblmakgjdenpfaaGreatDoorP9401aef5
set_option linter.unusedVariables false
set_option linter.unusedSimpArgs false
set_option linter.unusedSectionVars false
namespace Go.Proofs.YtblmakgjdenpfaaGreatDoor.AM
open Go
def Clu.bare (c : Clu) : Clu := { c with t := ⟨#[]⟩ }
def refL (T : Tab) (s : ByteArray) : Nat → List Clu
  | 0 => []
  | i + 1 => ((cluS T s (i + 1)).1 ++ [(cluS T s (i + 1)).2]).map Clu.bare
theorem refL_new {T : Tab} {s : ByteArray} {i : Nat} (hi : i < (spots s.data.toList).length) (hr : clT T ((spots s.data.toList)[i]).1 = 0) :
    refL T s (i + 1) = refL T s i ++ [⟨posn s.data.toList i, i, ⟨#[]⟩, 1, 0, ((spots s.data.toList)[i]).1, true⟩] := by
  show ((cluS T s (i + 1)).1 ++ [(cluS T s (i + 1)).2]).map Clu.bare = _
  rw [cluS_open hi, if_pos hr]
  cases i with
  | zero =>
    rw [cluS_stay hi (fun q => by have := q.2; simp [cluS, Clu.z] at this)]
    rfl
  | succ i =>
    rw [(cluS_out hi hr (cluS_pos (by omega))).1, List.map_append]
    rfl
theorem refL_mark {T : Tab} {s : ByteArray} {i : Nat} (hi : i < (spots s.data.toList).length) (hr : ¬ clT T ((spots s.data.toList)[i]).1 = 0) (h0 : 0 < i) :
    ∃ A c, refL T s i = A ++ [c] ∧ refL T s (i + 1) = A ++ [⟨c.b, c.n, c.t, c.k + 1, c.m + 1, c.r, c.bd⟩] ∧ c.k ≤ i ∧ c.m ≤ i ∧ A.length ≤ i := by
  cases i with
  | zero => omega
  | succ i =>
    have hle := cluS_le (T := T) (s := s) (i + 1) (by omega)
    refine ⟨(cluS T s (i + 1)).1.map Clu.bare, (cluS T s (i + 1)).2.bare, by simp [refL], ?_, hle.2.1, hle.2.2.1, ?_⟩
    · show ((cluS T s (i + 1 + 1)).1 ++ [(cluS T s (i + 1 + 1)).2]).map Clu.bare = _
      rw [cluS_open hi, if_neg hr, cluS_stay hi (fun q => hr q.1), List.map_append]
      rfl
    · rw [List.length_map]
      have : ∀ j, (cluS T s j).1.length ≤ j := fun j => by
        induction j with
        | zero => simp [cluS]
        | succ j ih =>
          simp only [cluS]
          split
          · rw [List.length_append, List.length_singleton]; omega
          · omega
      exact this _
theorem refL_first {T : Tab} {s : ByteArray} (hi : 0 < (spots s.data.toList).length) (hr : ¬ clT T ((spots s.data.toList)[0]).1 = 0) : refL T s 1 = [⟨0, 0, ⟨#[]⟩, 1, 1, 0, false⟩] := by
  show ((cluS T s 1).1 ++ [(cluS T s 1).2]).map Clu.bare = _
  rw [cluS_open hi, if_neg hr, cluS_stay hi (fun q => hr q.1)]
  rfl
theorem refL_len {T : Tab} {s : ByteArray} : ∀ i, (refL T s i).length ≤ i
  | 0 => by simp [refL]
  | i + 1 => by
    have : ∀ j, (0 < (cluS T s j).2.k → (cluS T s j).1.length + 1 ≤ j) ∧ (cluS T s j).1.length ≤ j := fun j => by
      induction j with
      | zero => simp [cluS, Clu.z]
      | succ j ih =>
        simp only [cluS]
        split
        · rename_i q
          have := ih.1 q.2
          rw [List.length_append, List.length_singleton]
          exact ⟨fun _ => by omega, by omega⟩
        · exact ⟨fun _ => by omega, by omega⟩
    have h := (this (i + 1)).1 (cluS_pos (by omega))
    simp only [refL, List.length_map, List.length_append, List.length_singleton]
    exact h
theorem refL_end {T : Tab} {s : ByteArray} : (refL T s (spots s.data.toList).length) = (clusL T s).map Clu.bare := by
  rcases clusL_end (T := T) (s := s) with ⟨h1, h2⟩ | ⟨h1, h2⟩
  · rw [h1, h2]; rfl
  · rw [h2]
    cases hn : (spots s.data.toList).length with
    | zero => rw [hn] at h1; simp [cluS, Clu.z] at h1
    | succ n => rfl
theorem cluS_text {T : Tab} {s : ByteArray} : ∀ i, i < (spots s.data.toList).length → ∀ j (hj : j < ((cluS T s (i + 1)).1 ++ [(cluS T s (i + 1)).2]).length),
    (((cluS T s (i + 1)).1 ++ [(cluS T s (i + 1)).2])[j]).t = s.extract (((cluS T s (i + 1)).1 ++ [(cluS T s (i + 1)).2])[j]).b (if h : j + 1 < ((cluS T s (i + 1)).1 ++ [(cluS T s (i + 1)).2]).length then (((cluS T s (i + 1)).1 ++ [(cluS T s (i + 1)).2])[j + 1]).b else posn s.data.toList (i + 1))
  | 0, hi, j, hj => by
    have hs : (cluS T s 1).1 = [] := cluS_stay (T := T) hi (fun q => by have := q.2; simp [cluS, Clu.z] at this)
    have ho := cluS_open (T := T) hi
    rw [Nat.zero_add] at *
    simp only [hs, List.nil_append, List.length_singleton] at hj ⊢
    have : j = 0 := by omega
    subst this
    simp only [List.getElem_cons_zero, ho]
    rw [dif_neg (by omega)]
    split <;> rfl
  | i + 1, hi, j, hj => by
    have ih := cluS_text (T := T) (s := s) i (by omega)
    have ho := cluS_open (T := T) hi
    by_cases hr : clT T ((spots s.data.toList)[i + 1]).1 = 0
    · have h1 := (cluS_out hi hr (cluS_pos (by omega))).1
      rw [if_pos hr] at ho
      simp only [h1, ho] at hj ⊢
      rw [List.length_append, List.length_singleton] at hj
      generalize hL : (cluS T s (i + 1)).1 ++ [(cluS T s (i + 1)).2] = L at *
      rcases Nat.lt_or_ge j L.length with h | h
      · have := ih j h
        rw [List.getElem_append_left h, this]
        congr 1
        rcases Nat.lt_or_ge (j + 1) L.length with h2 | h2
        · rw [dif_pos h2, dif_pos (by rw [List.length_append, List.length_singleton]; omega), List.getElem_append_left h2]
        · rw [dif_neg (by omega), dif_pos (by rw [List.length_append, List.length_singleton]; omega), List.getElem_append_right (by omega)]
          simp [show j + 1 - L.length = 0 by omega]
      · rw [List.getElem_append_right h, dif_neg (by rw [List.length_append, List.length_singleton]; omega)]
        simp [show j - L.length = 0 by omega]
    · have h1 := cluS_stay hi (fun q => hr q.1)
      rw [if_neg hr] at ho
      simp only [h1, ho] at hj ⊢
      rw [List.length_append, List.length_singleton] at hj
      generalize (cluS T s (i + 1)).1 = A at *
      generalize (cluS T s (i + 1)).2 = c at *
      rcases Nat.lt_or_ge j A.length with h | h
      · have := ih j (by rw [List.length_append, List.length_singleton]; omega)
        rw [List.getElem_append_left h] at this ⊢
        rw [this]
        congr 1
        rw [dif_pos (by rw [List.length_append, List.length_singleton]; omega), dif_pos (by rw [List.length_append, List.length_singleton]; omega)]
        rcases Nat.lt_or_ge (j + 1) A.length with h2 | h2
        · rw [List.getElem_append_left h2, List.getElem_append_left h2]
        · rw [List.getElem_append_right h2, List.getElem_append_right h2]
          simp [show j + 1 - A.length = 0 by omega]
      · rw [List.getElem_append_right h, dif_neg (by rw [List.length_append, List.length_singleton]; omega)]
        simp [show j - A.length = 0 by omega]
theorem cluS_all {T : Tab} {s : ByteArray} : ∀ i, i ≤ (spots s.data.toList).length → ∀ c ∈ (cluS T s i).1 ++ [(cluS T s i).2], c.b ≤ posn s.data.toList i ∧ c.n ≤ i ∧ c.k ≤ i ∧ c.m ≤ i
  | 0, _, c, hc => by
    simp [cluS] at hc
    subst hc
    simp [Clu.z]
  | i + 1, hi, c, hc => by
    have ih := cluS_all (T := T) (s := s) i (by omega)
    have hp := posn_succ (l := s.data.toList) (i := i) (by omega)
    rcases List.mem_append.1 hc with hc | hc
    · have : c ∈ (cluS T s i).1 ++ [(cluS T s i).2] := by
        simp only [cluS] at hc
        split at hc
        · exact hc
        · exact List.mem_append_left _ hc
      have := ih c this
      omega
    · rw [List.mem_singleton.1 hc]
      have := cluS_le (T := T) (s := s) (i + 1) hi
      omega
theorem cluS_ord {T : Tab} {s : ByteArray} : ∀ i, i < (spots s.data.toList).length → ((cluS T s (i + 1)).1 ++ [(cluS T s (i + 1)).2]).Pairwise (fun a c => a.b ≤ c.b)
  | 0, hi => by
    have hs : (cluS T s 1).1 = [] := cluS_stay (T := T) hi (fun q => by have := q.2; simp [cluS, Clu.z] at this)
    rw [Nat.zero_add, hs]
    simp
  | i + 1, hi => by
    have ih := cluS_ord (T := T) (s := s) i (by omega)
    have ha := cluS_all (T := T) (s := s) (i + 1) (by omega)
    have ho := cluS_open (T := T) hi
    by_cases hr : clT T ((spots s.data.toList)[i + 1]).1 = 0
    · have h1 := (cluS_out hi hr (cluS_pos (by omega))).1
      rw [if_pos hr] at ho
      rw [h1, ho]
      refine List.pairwise_append.2 ⟨ih, by simp, fun a haa c hc => ?_⟩
      rw [List.mem_singleton.1 hc]
      exact (ha a haa).1
    · have h1 := cluS_stay hi (fun q => hr q.1)
      rw [if_neg hr] at ho
      rw [h1, ho]
      have p := List.pairwise_append.1 ih
      refine List.pairwise_append.2 ⟨p.1, by simp, fun a haa c hc => ?_⟩
      rw [List.mem_singleton.1 hc]
      exact p.2.2 a haa (cluS T s (i + 1)).2 (by simp)
theorem clusL_all {T : Tab} {s : ByteArray} : (∀ c ∈ clusL T s, c.b ≤ s.data.toList.length ∧ c.n ≤ s.data.toList.length ∧ c.k ≤ s.data.toList.length ∧ c.m ≤ s.data.toList.length) ∧ (clusL T s).Pairwise (fun a c => a.b ≤ c.b) ∧ (clusL T s).length ≤ s.data.toList.length := by
  have hn := spots_len s.data.toList
  have hl := refL_len (T := T) (s := s) (spots s.data.toList).length
  rw [refL_end, List.length_map] at hl
  rcases clusL_end (T := T) (s := s) with ⟨h1, h2⟩ | ⟨h1, h2⟩
  · rw [h2]; simp
  · obtain ⟨n, hn1⟩ : ∃ n, (spots s.data.toList).length = n + 1 := by
      cases hn : (spots s.data.toList).length with
      | zero => rw [hn] at h1; simp [cluS, Clu.z] at h1
      | succ n => exact ⟨n, rfl⟩
    refine ⟨fun c hc => ?_, ?_, by omega⟩
    · rw [h2] at hc
      have := cluS_all (T := T) (s := s) _ (Nat.le_refl _) c hc
      rw [posn_all] at this
      omega
    · rw [h2]
      have := cluS_ord (T := T) (s := s) n (by omega)
      rw [← hn1] at this
      exact this
theorem clusL_text {T : Tab} {s : ByteArray} (j : Nat) (hj : j < (clusL T s).length) : ((clusL T s)[j]).t = s.extract ((clusL T s)[j]).b (if h : j + 1 < (clusL T s).length then ((clusL T s)[j + 1]).b else s.data.toList.length) := by
  rcases clusL_end (T := T) (s := s) with ⟨h1, h2⟩ | ⟨h1, h2⟩
  · rw [h2] at hj; simp at hj
  · obtain ⟨n, hn⟩ : ∃ n, (spots s.data.toList).length = n + 1 := by
      cases hn : (spots s.data.toList).length with
      | zero => rw [hn] at h1; simp [cluS, Clu.z] at h1
      | succ n => exact ⟨n, rfl⟩
    have := cluS_text (T := T) (s := s) n (by omega)
    rw [← hn] at this
    rw [posn_all] at this
    simp only [h2] at hj ⊢
    exact this j hj
end Go.Proofs.YtblmakgjdenpfaaGreatDoor.AM
namespace Go.Proofs.YtblmakgjdenpfaaGreatDoor.AM
open Go
theorem clu_set {h g : AH} {sl : Sl} {A B : List Clu} {c : Clu} (fo : FOwn h g 7 sl ((A ++ c :: B).map Clu.vs)) {j k : Nat} (hj : j = A.length) (hk : k < 7) (v : Value) (c' : Clu) (hc : c.vs.set k v = c'.vs) :
    ∃ g', (∀ lc, Mem.wr ⟨lc, g⟩ (ptrOff (sl.adr 7 j) k) [v] = some ⟨lc, g'⟩) ∧ FOwn h g' 7 sl ((A ++ c' :: B).map Clu.vs) := by
  subst hj
  obtain ⟨g', h1, h2⟩ := fo.set1 (i := A.length) (k := k) (by simp) hk v
  refine ⟨g', h1, ?_⟩
  have e : ((A ++ c :: B).map Clu.vs).set A.length ((((A ++ c :: B).map Clu.vs)[A.length]'(by simp)).set k v) = (A ++ c' :: B).map Clu.vs := by
    have : ((A ++ c :: B).map Clu.vs)[A.length]'(by simp) = c.vs := by simp
    rw [this, hc, List.map_append, List.map_cons, List.set_append_right _ _ (by simp)]
    simp
  rw [← e]
  exact h2
theorem clu_get {h g : AH} {sl : Sl} {L : List Clu} (fo : FOwn h g 7 sl (L.map Clu.vs)) {j k : Nat} (hj : j < L.length) (hk : k < 7) : ∀ lc, Mem.rd ⟨lc, g⟩ (ptrOff (sl.adr 7 j) k) 1 = some (((L[j]).vs.drop k).take 1) :=
  fun lc => rd_mapc (lc := lc) fo.reads hj hk
theorem isLoc_adr {s : Sl} {e j : Nat} : isLoc (.pointer (some (s.adr e j))) = false := by cases s <;> rfl
theorem settle_adr {s : Sl} {e j i : Nat} : settle1 i (.pointer (some (s.adr e j))) = some (.pointer (some (s.adr e j))) := by cases s <;> rfl
theorem lc1_adr {s : Sl} {e j : Nat} {lc : Lc} {i : Nat} {r : Lc} : lc1 lc i (.pointer (some (s.adr e j))) r = r := lc1_ok isLoc_adr _ _ _
attribute [push_cast] isLoc_adr settle_adr lc1_adr
set_option maxHeartbeats 4000000 in
theorem ref8Clusters_spec {S : TS} {T : Tab} {h : AH} (gd : goodB T = true) (t : TabAt h S T) (s : ByteArray) (hs : s.size ≤ 1048576) : WpC PX 27 [.agg S.vs.toArray, .string s] h fun v h' => ∃ sl, v = sl.val 7 ∧ FOwn h h' 7 sl ((clusL T s).map Clu.vs) := by
  have hz : s.data.toList.length = s.size := rfl
  have hn := spots_len s.data.toList
  have hcr := class_range gd
  refine wpc_fn (px_ext rfl) (px_fn fn_guiseref8_Clusters) rfl ?_
  unfold LF_guiseref8_Clusters
  simp only [argFr]
  unfold TS.vs
  (refine W_x @ev_rngS ?_; (repeat' first | apply Cj.mk | exact Nl.nl) <;> intros)
  refine wp_spotsS (fun i sl => [(1, .string s), (2, .pointer (some ⟨4, 0, some 1⟩)), (5, sl.val 7), (6, .int .i64 i), (15, .pointer (some ⟨30, 0, some 1⟩))])
    (fun n _ => [(4, .cells false [S.s0.val 2, S.s1.val 2, S.s2.val 2, S.s3.val 3, S.s4.val 2, S.s5.val 2, S.s6.val 2, S.s7.val 2]), (30, .siter s n)]) s s.data.toList (fun i sl h' => FOwn h h' 7 sl ((refL T s i).map Clu.vs)) (fun _ _ => (none : Option Unit)) Sl.nil rfl (by repeat' first | exact True.intro | refine And.intro rfl ?_) (fun _ _ => rfl) rfl (FOwn.nil (Kp.refl h))
    (fun i hi sl h1 fo hit => ?_) fun sl h1 fo fin => ?_
  · (refine W_x trivial ?_; (repeat' first | apply Cj.mk | exact Nl.nl) <;> intros)
    refine wo_next rfl rfl hi ?_
    have tt := t.kp fo.kp
    have e1 := class6_eq tt
    unfold TS.vs at e1
    have sll := fo.own.1
    rw [List.length_map] at sll
    have hrl := refL_len (T := T) (s := s) i
    have hpl := (posn_lt hi).1
    have hnew := refL_new (T := T) hi
    have hmk := refL_mark (T := T) hi
    have hfi : i = 0 → ¬ clT T ((spots s.data.toList)[i]).1 = 0 → refL T s (i + 1) = [⟨0, 0, ⟨#[]⟩, 1, 1, 0, false⟩] := fun e => by subst e; exact refL_first hi
    generalize hx : (spots s.data.toList)[i] = x at *
    have e2 := e1 (x.1 : Nat)
    rw [show classI T (x.1 : Nat) = clT T x.1 from rfl] at e2
    have hspot : ∀ (A : List Clu) (c : Clu) (s2 : Sl) (h2 : AH), FOwn h h2 7 s2 ((A ++ [c]).map Clu.vs) → s2.len = A.length + 1 ∧ (∀ lc, Mem.rd ⟨lc, h2⟩ (ptrOff (s2.adr 7 A.length) 3) 1 = some [.int .i64 c.k]) ∧
        ∃ g', (∀ lc, Mem.wr ⟨lc, h2⟩ (ptrOff (s2.adr 7 A.length) 3) [.int .i64 ((c.k : Int) + 1)] = some ⟨lc, g'⟩) ∧ FOwn h g' 7 s2 ((A ++ [(⟨c.b, c.n, c.t, c.k + 1, c.m, c.r, c.bd⟩ : Clu)]).map Clu.vs) := fun A c s2 h2 f => by
      obtain ⟨g', a1, a2⟩ := clu_set f rfl (k := 3) (by decide) (.int .i64 ((c.k : Int) + 1)) ⟨c.b, c.n, c.t, c.k + 1, c.m, c.r, c.bd⟩ rfl
      have hl := f.own.1
      rw [List.length_map, List.length_append, List.length_singleton] at hl
      exact ⟨hl, fun lc => (clu_get f (j := A.length) (by simp) (by decide) lc).trans (by simp [Clu.vs]), g', a1, a2⟩
    have hmark : ∀ (A : List Clu) (c : Clu) (s2 : Sl) (h2 : AH), FOwn h h2 7 s2 ((A ++ [c]).map Clu.vs) → (∀ lc, Mem.rd ⟨lc, h2⟩ (ptrOff (s2.adr 7 A.length) 4) 1 = some [.int .i64 c.m]) ∧
        ∃ g', (∀ lc, Mem.wr ⟨lc, h2⟩ (ptrOff (s2.adr 7 A.length) 4) [.int .i64 ((c.m : Int) + 1)] = some ⟨lc, g'⟩) ∧ FOwn h g' 7 s2 ((A ++ [(⟨c.b, c.n, c.t, c.k, c.m + 1, c.r, c.bd⟩ : Clu)]).map Clu.vs) := fun A c s2 h2 f => by
      obtain ⟨g', a1, a2⟩ := clu_set f rfl (k := 4) (by decide) (.int .i64 ((c.m : Int) + 1)) ⟨c.b, c.n, c.t, c.k, c.m + 1, c.r, c.bd⟩ rfl
      exact ⟨fun lc => (clu_get f (j := A.length) (by simp) (by decide) lc).trans (by simp [Clu.vs]), g', a1, a2⟩
    have hcx := hcr (x.1 : Nat)
    by_cases hr : clT T x.1 = 0
    · (refine W_x (Aj e2 sll) ?_; (repeat' first | apply Cj.mk | exact Nl.nl) <;> intros)
      refine wo_app1 (cs := (⟨posn s.data.toList i, i, ⟨#[]⟩, 0, 0, x.1, true⟩ : Clu).vs) fo rfl rfl (by decide) (by decide) (by rw [List.length_map]; omega) fun s2 h2 f2 => ?_
      have f2 : FOwn h h2 7 s2 ((refL T s i ++ [(⟨posn s.data.toList i, i, ⟨#[]⟩, 0, 0, x.1, true⟩ : Clu)]).map Clu.vs) := by rw [List.map_append]; exact f2
      obtain ⟨b1, b2, g', b3, f3⟩ := hspot _ _ _ _ f2
      have b3 : ∀ lc, Mem.wr ⟨lc, h2⟩ (ptrOff (s2.adr 7 (refL T s i).length) 3) [.int .i64 1] = some ⟨lc, g'⟩ := b3
      have b2 : ∀ lc, Mem.rd ⟨lc, h2⟩ (ptrOff (s2.adr 7 (refL T s i).length) 3) 1 = some [.int .i64 0] := b2
      have hidx : (((refL T s i).length : Int) + 1 - 1).toNat = (refL T s i).length := by omega
      (refine W_x (Aj b1 (Aj hidx (Aj b2 b3))) ?_; (repeat' first | apply Cj.mk | exact Nl.nl) <;> intros)
      refine ⟨rfl, s2, (by repeat' first | exact True.intro | refine And.intro rfl ?_), rfl, ?_⟩
      rw [hnew hr]
      exact f3
    · have hcp : 0 < clT T x.1 := by
        have : 0 ≤ clT T x.1 := (hcr _).1
        omega
      rcases Nat.eq_zero_or_pos i with h0 | h0
      · have hl0 : (refL T s i).length = 0 := by omega
        have hle : refL T s i = [] := List.eq_nil_of_length_eq_zero hl0
        have hfi := hfi h0 hr
        rw [hl0] at sll
        rw [hle] at fo
        have hp0 : posn s.data.toList i = 0 := by rw [h0, posn_zero]
        (refine W_x (Aj e2 sll) ?_; (repeat' first | apply Cj.mk | exact Nl.nl) <;> intros)
        refine wo_app1 (cs := (⟨posn s.data.toList i, i, ⟨#[]⟩, 0, 0, 0, false⟩ : Clu).vs) fo rfl rfl (by decide) (by decide) (by simp) fun s2 h2 f2 => ?_
        have f2 : FOwn h h2 7 s2 (([] ++ [(⟨posn s.data.toList i, i, ⟨#[]⟩, 0, 0, 0, false⟩ : Clu)]).map Clu.vs) := by rw [List.map_append]; exact f2
        obtain ⟨b1, b2, g', b3, f3⟩ := hspot _ _ _ _ f2
        obtain ⟨b4, g2, b5, f4⟩ := hmark _ _ _ _ f3
        have b1 : s2.len = 1 := b1
        have b2 : ∀ lc, Mem.rd ⟨lc, h2⟩ (ptrOff (s2.adr 7 0) 3) 1 = some [.int .i64 0] := b2
        have b3 : ∀ lc, Mem.wr ⟨lc, h2⟩ (ptrOff (s2.adr 7 0) 3) [.int .i64 1] = some ⟨lc, g'⟩ := b3
        have b4 : ∀ lc, Mem.rd ⟨lc, g'⟩ (ptrOff (s2.adr 7 0) 4) 1 = some [.int .i64 0] := b4
        have b5 : ∀ lc, Mem.wr ⟨lc, g'⟩ (ptrOff (s2.adr 7 0) 4) [.int .i64 1] = some ⟨lc, g2⟩ := b5
        (refine W_x (Aj b1 (Aj b2 (Aj b3 (Aj b4 b5)))) ?_; (repeat' first | apply Cj.mk | exact Nl.nl) <;> intros)
        refine ⟨rfl, s2, (by repeat' first | exact True.intro | refine And.intro rfl ?_), rfl, ?_⟩
        rw [hfi]
        rw [hp0, h0] at f4
        exact f4
      · obtain ⟨A, c, a1, a2, a3, a4, a5⟩ := hmk hr h0
        rw [a1] at fo
        rw [a1, List.length_append, List.length_singleton] at sll
        obtain ⟨b1, b2, g', b3, f3⟩ := hspot _ _ _ _ fo
        obtain ⟨b4, g2, b5, f4⟩ := hmark _ _ _ _ f3
        have hidx : ((A.length : Int) + 1 - 1).toNat = A.length := by omega
        (refine W_x (Aj e2 (Aj b1 (Aj hidx (Aj b2 (Aj b3 (Aj b4 b5)))))) ?_; (repeat' first | apply Cj.mk | exact Nl.nl) <;> intros)
        refine ⟨rfl, sl, (by repeat' first | exact True.intro | refine And.intro rfl ?_), rfl, ?_⟩
        rw [a2]
        exact f4
  · (refine W_x trivial ?_; (repeat' first | apply Cj.mk | exact Nl.nl) <;> intros)
    refine wo_nextE rfl rfl ?_
    rw [refL_end] at fo
    obtain ⟨ca, co, cl⟩ := clusL_all (T := T) (s := s)
    (refine W_x trivial ?_; (repeat' first | apply Cj.mk | exact Nl.nl) <;> intros)
    refine wp_loop (fun w fr lc g => ∃ (A B : List Clu), clusL T s = A ++ B ∧ w = B.length ∧ FOwn h g 7 sl ((A ++ B.map Clu.bare).map Clu.vs) ∧ fr = [(1, .string s), (5, sl.val 7), (12, .int .i64 A.length)] ∧ lc = []) (clusL T s).length ⟨[], clusL T s, rfl, rfl, fo, rfl, rfl⟩ ?_
    rintro w fr lc g ⟨A, B, hAB, rfl, fo, rfl, rfl⟩
    have sll := fo.own.1
    rw [List.length_map, List.length_append, List.length_map] at sll
    rw [hAB, List.length_append] at cl
    cases B with
    | nil =>
      rw [List.length_nil] at sll
      (refine W_x sll ?_; (repeat' first | apply Cj.mk | exact Nl.nl) <;> intros)
      rw [List.map_nil, List.append_nil] at fo
      rw [List.append_nil] at hAB
      rw [hAB]
      exact ⟨sl, rfl, fo⟩
    | cons c B =>
      rw [List.length_cons] at sll cl
      have hc := ca c (by rw [hAB]; simp)
      have hgj : (clusL T s)[A.length]'(by rw [hAB]; simp) = c := by simp [hAB]
      have ht := clusL_text (T := T) (s := s) A.length (by rw [hAB]; simp)
      rw [hgj] at ht
      have b1 : ∀ lc, Mem.rd ⟨lc, g⟩ (ptrOff (ptrOff (sl.adr 7 A.length) 0) 0) 1 = some [.int .i64 c.b] := fun lc => (clu_get fo (j := A.length) (by simp) (by decide) lc).trans (by simp [Clu.vs, Clu.bare])
      obtain ⟨g', b2, f2⟩ := clu_set (c := c.bare) (B := B.map Clu.bare) fo rfl (k := 2) (by decide) (.string c.t) c rfl
      have hfin : FOwn h g' 7 sl (((A ++ [c]) ++ B.map Clu.bare).map Clu.vs) := by rw [List.append_assoc]; exact f2
      cases B with
      | nil =>
        have ht : c.t = s.extract c.b s.size := by
          rw [ht, dif_neg (by rw [hAB]; simp), hz]
        rw [ht] at b2
        rw [List.length_nil] at sll
        (refine W_x (Aj sll (Aj b1 b2)) ?_; (repeat' first | apply Cj.mk | exact Nl.nl) <;> intros)
        exact ⟨_, by simp, A ++ [c], [], by rw [hAB, List.append_assoc]; rfl, rfl, hfin, by simp, rfl⟩
      | cons d B =>
        have hd := ca d (by rw [hAB]; simp)
        have hcd : c.b ≤ d.b := by
          have := co
          rw [hAB] at this
          exact (List.pairwise_cons.1 (List.pairwise_append.1 this).2.1).1 d (by simp)
        have ht : c.t = s.extract c.b d.b := by
          rw [ht, dif_pos (by rw [hAB]; simp)]
          simp [hAB]
        rw [ht] at b2
        have b3 : ∀ lc, Mem.rd ⟨lc, g⟩ (ptrOff (ptrOff (sl.adr 7 (A.length + 1)) 0) 0) 1 = some [.int .i64 d.b] := fun lc => (clu_get fo (j := A.length + 1) (by simp) (by decide) lc).trans (by simp [Clu.vs, Clu.bare])
        have hix : ((A.length : Int) + 1).toNat = A.length + 1 := by omega
        rw [List.length_cons] at sll cl
        (refine W_x (Aj sll (Aj hix (Aj b1 (Aj b2 b3)))) ?_; (repeat' first | apply Cj.mk | exact Nl.nl) <;> intros)
        exact ⟨_, by simp, A ++ [c], d :: B, by rw [hAB, List.append_assoc]; rfl, rfl, hfin, by simp, rfl⟩
end Go.Proofs.YtblmakgjdenpfaaGreatDoor.AM
namespace Go.Proofs.YtblmakgjdenpfaaGreatDoor.AM
open Go
theorem clusters_eq (q : Value) (s : ByteArray) (h : AH) (hq : ∃ o, q = .pointer o ∧ ∀ a, o = some a → ∃ k, a = ⟨k, 0, none⟩) : callO PX 28 [q, .string s] h = some (.func (.func 53) #[] #[.pointer (some ⟨h.n, 0, none⟩), .pointer (some ⟨h.n + 1, 0, none⟩)], (h.push (.cells false [q])).push (.cells false [.string s])) := by
  obtain ⟨o, rfl, ho⟩ := hq
  apply WpC.eqn
  cases o with
  | none =>
    refine wpc_fn (px_ext rfl) (px_fn fn_marks_Clusters) rfl ?_
    unfold LF_marks_Clusters
    simp only [argFr]
    (refine W_x trivial ?_; (repeat' first | apply Cj.mk | exact Nl.nl) <;> intros)
    exact ⟨rfl, rfl⟩
  | some a =>
    obtain ⟨k, rfl⟩ := ho a rfl
    refine wpc_fn (px_ext rfl) (px_fn fn_marks_Clusters) rfl ?_
    unfold LF_marks_Clusters
    simp only [argFr]
    (refine W_x trivial ?_; (repeat' first | apply Cj.mk | exact Nl.nl) <;> intros)
    exact ⟨rfl, rfl⟩
theorem PF.push {T : Nat → Prop} (h : AH) (o : AObj) : PF T h (h.push o) := ⟨by rw [AH.push_n]; omega, fun b hb _ => AH.get_push_ne _ (by omega)⟩
end Go.Proofs.YtblmakgjdenpfaaGreatDoor.AM
namespace Go.Proofs.YtblmakgjdenpfaaGreatDoor.AM
open Go
structure KpB (b0 : Nat) (h h' : AH) : Prop where
  n : h.n ≤ h'.n
  keep : ∀ b, b < h.n → b ≠ b0 → h'.get b = h.get b
theorem KpB.fm {b0 : Nat} {h h1 h2 : AH} {T : Nat → Prop} (k : KpB b0 h h1) (hT : ∀ b, T b → h.n < b ∧ b < h1.n) (f : Fm h.n T h1 h2) : KpB b0 h h2 :=
  ⟨Nat.le_trans k.n f.n, fun b hb hb0 => by rw [f.keep b (by have := k.n; omega) (fun t => by have := hT b t; omega) (by omega), k.keep b hb hb0]⟩
theorem KpB.get {b0 : Nat} {h h' : AH} (k : KpB b0 h h') {b : Nat} {o : AObj} (e : h.get b = some o) (hb : b ≠ b0) : h'.get b = some o := by rw [k.keep b (AH.get_lt e) hb, e]
theorem KpB.kp {b0 : Nat} {h0 h h' : AH} (q : Kp h0 h) (k : KpB b0 h h') (hb : h0.n ≤ b0) : Kp h0 h' := ⟨Nat.le_trans q.1 k.n, fun b hb' => by rw [k.keep b (by have := q.1; omega) (by omega), q.2 b hb']⟩
theorem KpB.set {b0 : Nat} {h h' : AH} (k : KpB b0 h h') (o : AObj) : KpB b0 h (h'.set b0 o) := ⟨k.n, fun b hb hb0 => by rw [AH.get_set_ne _ hb0, k.keep b hb hb0]⟩
theorem KpB.refl (b0 : Nat) (h : AH) : KpB b0 h h := ⟨Nat.le_refl _, fun _ _ _ => rfl⟩
theorem reads_setOne {h : AH} {e c : Nat} {s : Sl} {xss : List (List Value)} {ro : Bool} {v : Value} {o : AObj} (r : Reads h e s xss) (hc : h.get c = some (.cells ro [v])) (he : 2 ≤ e) : Reads (h.set c o) e s xss := by
  refine ⟨r.1, r.2.1, ?_⟩
  have h1 := r.1
  have h2 := r.2.1
  have := r.2.2
  cases s with
  | nil => trivial
  | «at» b o' n =>
    rcases this with h0 | ⟨ro', pre, post, h3, h4⟩
    · exact .inl h0
    · by_cases hb : b = c
      · subst hb
        rw [hc] at h3
        injection h3 with h3
        injection h3 with _ h3
        have hl := congrArg List.length h3
        have hf := flatten_len h2
        simp only [List.length_append, List.length_singleton, hf] at hl
        have : xss.length = 0 := by
          rcases Nat.eq_zero_or_pos xss.length with q | q
          · exact q
          · have := Nat.mul_le_mul q he
            omega
        exact .inl (by simp only [Sl.len] at h1; omega)
      · exact .inr ⟨ro', pre, post, by rw [AH.get_set_ne _ hb]; exact h3, h4⟩
theorem same8_eq (c : Clu) (h : AH) : callO PX 29 [.agg c.vs.toArray, .agg c.vs.toArray] h = some (.bool true, h) := by
  obtain ⟨b, n, t, k, m, r, bd⟩ := c
  have e1 : eqCells [.int, .int] [.int .i64 b, .int .i64 n] [.int .i64 b, .int .i64 n] = some true := by simp [eqCells]
  apply WpC.eqn
  refine wpc_fn (px_ext rfl) (px_fn fn_guiselaw8_same) rfl ?_
  unfold LF_guiselaw8_same
  simp only [argFr]
  unfold Clu.vs
  (refine W_x e1 ?_; (repeat' first | apply Cj.mk | exact Nl.nl) <;> intros)
  all_goals first | exact ⟨rfl, rfl⟩ | (exfalso; rename_i q; exact q rfl)
set_option maxHeartbeats 4000000 in
theorem marksClusters_run {h : AH} (u : U8T h) (hg : 2 ≤ h.n) {S : TS} {T : Tab} (t : TabAt h S T) (x : ByteArray) (hx : x.size ≤ 1048576) (n : Int) (hn1 : -9223372036854775808 ≤ n) (hn2 : n < 9223372036854775808) :
    WpC PX 6 [.agg S.vs.toArray, .string x, .int .i64 n] h fun v _ => v = .bool true := by
  have k0 : Kp h ((h.push (.cells false [.int .i64 n])).push (.cells false [.bool false])) := ((Kp.refl h).push _).push _
  have b5 : ((h.push (.cells false [.int .i64 n])).push (.cells false [.bool false])).get h.n = some (.cells false [.int .i64 n]) := by simp (disch := first | omega | (simp only [AH.nn_push, AH.nn_set, AH.nn_kill]; omega) | (simp only [AH.nn_push, AH.nn_set, AH.nn_kill]; done) | fail) only [AH.get_push_eq, AH.get_push_ne, AH.get_set_eq, AH.get_set_ne]
  have b6 : ((h.push (.cells false [.int .i64 n])).push (.cells false [.bool false])).get (h.n + 1) = some (.cells false [.bool false]) := by simp (disch := first | omega | (simp only [AH.nn_push, AH.nn_set, AH.nn_kill]; omega) | (simp only [AH.nn_push, AH.nn_set, AH.nn_kill]; done) | fail) only [AH.get_push_eq, AH.get_push_ne, AH.get_set_eq, AH.get_set_ne, AH.push_n]
  have n0 : ((h.push (.cells false [.int .i64 n])).push (.cells false [.bool false])).n = h.n + 2 := rfl
  refine wpc_fn (px_ext rfl) (px_fn fn_guiselaw8_MarksClusters) rfl ?_
  unfold LF_guiselaw8_MarksClusters
  simp only [argFr]
  unfold TS.vs
  (refine W_x trivial ?_; (repeat' first | apply Cj.mk | exact Nl.nl) <;> intros)
  generalize ((h.push (.cells false [.int .i64 n])).push (.cells false [.bool false])) = h0 at *
  obtain ⟨_, g1, e1, k1, q⟩ := of_spec (t.kp k0) (u.kp k0) (Nat.le_trans hg k0.1)
  unfold TS.vs at e1
  by_cases hb : goodB T = true
  · rw [if_pos hb] at q
    obtain ⟨k, B, S1, rfl, bk, _, _⟩ := q
    have e2 : callO PX 26 [.string x, .int .i64 3000] g1 = some (.string (fewB x 3000), g1) := few_eq x hx 3000 (by decide) g1
    have fl := few_le x 3000
    generalize fewB x 3000 = y at e2 fl
    obtain ⟨_, g2, e3, sl, rfl, fo⟩ := ref8Clusters_spec hb ((t.kp k0).kp k1) y (by omega)
    unfold TS.vs at e3
    (refine W_x (Aj e1 (Aj e2 e3)) ?_; (repeat' first | apply Cj.mk | exact Nl.nl) <;> intros)
    have k3 : Kp g2 ((g2.push (.cells false [.slice none 0 0])).set g2.n (.cells false [sl.val 7])) := ((Kp.refl g2).push _).setNew _ (Nat.le_refl _)
    have b10 : ((g2.push (.cells false [.slice none 0 0])).set g2.n (.cells false [sl.val 7])).get g2.n = some (.cells false [sl.val 7]) := AH.get_set_same _ (by rw [AH.push_n]; omega)
    generalize ((g2.push (.cells false [.slice none 0 0])).set g2.n (.cells false [sl.val 7])) = g3 at *
    have e4 := clusters_eq (.pointer (some ⟨k, 0, none⟩)) y g3 ⟨_, rfl, fun a ha => by injection ha with ha; exact ⟨k, ha.symm⟩⟩
    have k4 : Kp g3 ((g3.push (.cells false [.pointer (some ⟨k, 0, none⟩)])).push (.cells false [.string y])) := ((Kp.refl _).push _).push _
    have d1 : ((g3.push (.cells false [.pointer (some ⟨k, 0, none⟩)])).push (.cells false [.string y])).get g3.n = some (.cells false [.pointer (some ⟨k, 0, none⟩)]) := by simp (disch := first | omega | (simp only [AH.nn_push, AH.nn_set, AH.nn_kill]; omega) | (simp only [AH.nn_push, AH.nn_set, AH.nn_kill]; done) | fail) only [AH.get_push_eq, AH.get_push_ne, AH.get_set_eq, AH.get_set_ne]
    have d2 : ((g3.push (.cells false [.pointer (some ⟨k, 0, none⟩)])).push (.cells false [.string y])).get (g3.n + 1) = some (.cells false [.string y]) := by simp (disch := first | omega | (simp only [AH.nn_push, AH.nn_set, AH.nn_kill]; omega) | (simp only [AH.nn_push, AH.nn_set, AH.nn_kill]; done) | fail) only [AH.get_push_eq, AH.get_push_ne, AH.get_set_eq, AH.get_set_ne, AH.push_n]
    generalize ((g3.push (.cells false [.pointer (some ⟨k, 0, none⟩)])).push (.cells false [.string y])) = g4 at *
    have k24 := k3.trans k4
    have k14 := fo.kp.trans k24
    have k04 := k1.trans k14
    have dd : CluD g3.n (g3.n + 1) k B S1.s6 T y g4 := ⟨d1, d2, (bk.kp k14).bk⟩
    have rd4 := fo.reads.kp k24
    have hseq := clusters_seq (p2 := g3.n) (p3 := g3.n + 1) (k := k) (B := B) (s6 := S1.s6) hb y (by omega)
    have b5' := k04.get b5
    have b6' := k04.get b6
    have b10' := k4.get b10
    have sll := rd4.1
    rw [List.length_map] at sll
    have hcl := (clusL_all (T := T) (s := y)).2.2
    have hyz : y.data.toList.length = y.size := rfl
    generalize clusL T y = L at *
    (refine W_x e4 ?_; (repeat' first | apply Cj.mk | exact Nl.nl) <;> intros)
    refine wp_loop (fun w fr lc g => ∃ i : Nat, w = 2 - i ∧ i ≤ 2 ∧ Kp g4 g ∧ fr = [(5, .pointer (some ⟨h.n, 0, none⟩)), (6, .pointer (some ⟨h.n + 1, 0, none⟩)), (10, .pointer (some ⟨g2.n, 0, none⟩)), (11, .func (.func 53) #[] #[.pointer (some ⟨g3.n, 0, none⟩), .pointer (some ⟨g3.n + 1, 0, none⟩)]), (12, .int .i64 i)] ∧ lc = []) 2
      ⟨0, rfl, by omega, Kp.refl _, rfl, rfl⟩ ?_
    rintro w fr lc g ⟨i, rfl, hi, kg, rfl, rfl⟩
    have ln2 : g2.n < g4.n := AH.get_lt b10'
    have kn := kg.1
    by_cases hi2 : i < 2
    · (refine W_x trivial ?_; (repeat' first | apply Cj.mk | exact Nl.nl) <;> intros)
      have c1 : ((g.push (.cells false [.int .i64 0])).set g.n (.cells false [.int .i64 0])).get g.n = some (.cells false [.int .i64 0]) := AH.get_set_same _ (by rw [AH.push_n]; omega)
      have c2 : Kp g ((g.push (.cells false [.int .i64 0])).set g.n (.cells false [.int .i64 0])) := ((Kp.refl g).push _).setNew _ (Nat.le_refl _)
      have c3 : ((g.push (.cells false [.int .i64 0])).set g.n (.cells false [.int .i64 0])).n = g.n + 1 := rfl
      generalize ((g.push (.cells false [.int .i64 0])).set g.n (.cells false [.int .i64 0])) = g5 at *
      have k5 := kg.trans c2
      refine wp_range (enc := cluE) rfl hseq (fun _ => rfl)
        (fun i T' h1 => KpB g.n g5 h1 ∧ h1.get g.n = some (.cells false [.int .i64 i]))
        (fun ex T' h1 => False)
        (fun c => [(6, .pointer (some ⟨h.n + 1, 0, none⟩)), (10, .pointer (some ⟨g2.n, 0, none⟩)), (13, .pointer (some ⟨g.n, 0, none⟩)), (14, .pointer (some ⟨28, 0, some 1⟩))]) (fun c => [(28, .cells false c.vs)]) ?_ ?_ ?_ ?_ ?_ ?_ ?_ ?_
      · rintro j T1 T2 h1 h2 ⟨f1, f2⟩ hT fm _
        exact ⟨f1.fm hT fm, by rw [fm.keep _ (AH.get_lt f2) (fun q => by have := hT _ q; omega) (by omega)]; exact f2⟩
      · exact fun _ _ _ _ _ q _ _ _ => q
      · rintro j T1 h1 ⟨f1, _⟩
        have hn3 := AH.get_lt d1
        have hn4 := AH.get_lt d2
        have kk := KpB.kp k5 f1 kn
        exact ⟨kk.get d1, kk.get d2, dd.bk.kp kk⟩
      · intro c h1
        unfold cluE
        simp only [List.zip_cons_cons, List.zip_nil_right, List.reverse_cons, List.reverse_nil, List.nil_append, List.cons_append, okFr_cons, okFr_nil, okV_eq, isLoc_ptr, isLoc_func, Bool.not_false, if_true]
        unfold Clu.vs
        (refine W_x trivial ?_; (repeat' first | apply Cj.mk | exact Nl.nl) <;> intros)
        exact ⟨rfl, rfl, rfl, rfl⟩
      · exact ⟨KpB.refl _ _, c1⟩
      · rintro j hj T1 h1 o ⟨f1, f2⟩ hT hlt ho
        have kk := KpB.kp k5 f1 kn
        have f6 := kk.get b6'
        have f10 := kk.get b10'
        have hr := fun lc => rd_map (lc := lc) (rd4.kp kk) hj
        have es := same8_eq L[j]
        generalize L[j] = c at hr es ⊢
        unfold Clu.vs at hr es ⊢
        have hln := AH.get_lt f2
        (refine W_x (Aj f2 (Aj f6 (Aj f10 (Aj sll (Aj hr es))))) ?_; (repeat' first | apply Cj.mk | exact Nl.nl) <;> intros)
        exact ⟨by rw [AH.get_set_ne _ (by omega)]; exact ho, Nat.le_refl _, fun b hb => AH.get_set_ne _ (by have := hT b hb; omega), f1.set _, AH.get_set_same _ hln⟩
      · rintro T1 h1 ⟨f1, f2⟩ hT hlt
        have kk := KpB.kp k5 f1 kn
        have f10 := kk.get b10'
        (refine W_x (Aj f2 (Aj f10 sll)) ?_; (repeat' first | apply Cj.mk | exact Nl.nl) <;> intros)
        exact ⟨_, by omega, i + 1, rfl, by omega, kk, rfl, rfl⟩
      · exact fun _ _ _ _ q => q.elim
    · have f5 := kg.get b5'
      have ew := within_eq n 0 20 (by decide) (by decide) (by decide) g
      obtain ⟨w1, w2⟩ := within_range (n := n) (lo := 0) (hi := 20) (by decide)
      generalize withinI n 0 20 = w at ew w1 w2
      have hl5 := AH.get_lt f5
      (refine W_x (Aj f5 ew) ?_; (repeat' first | apply Cj.mk | exact Nl.nl) <;> intros)
      have r5 := reads_setOne (o := .cells false [.int .i64 w]) (rd4.kp kg) f5 (by decide)
      have hBk : BkAt (g.set h.n (.cells false [.int .i64 w])) k B S1.s6 T := by
        have bg := dd.bk.kp kg
        obtain ⟨x0, x1, x2, x3, x4, x5, x7, eb⟩ := bg.b
        exact ⟨⟨x0, x1, x2, x3, x4, x5, x7, by rw [AH.get_set_ne _ (by omega)]; exact eb⟩, ⟨by rw [AH.get_set_ne _ (by omega)]; exact bg.mp.m1, by rw [AH.get_set_ne _ (by omega)]; exact bg.mp.m2, by rw [AH.get_set_ne _ (by omega)]; exact bg.mp.m3, by rw [AH.get_set_ne _ (by omega)]; exact bg.mp.m4, by rw [AH.get_set_ne _ (by omega)]; exact bg.mp.m5⟩,
          reads_setOne bg.r6 f5 (by decide), bg.n6, bg.ok, bg.cl⟩
      have k04n := k04.1
      have hn3 : h.n < g3.n := by have := k3.1; have := fo.kp.1; have := k1.1; omega
      have hn2 : h.n < g2.n := by have := fo.kp.1; have := k1.1; omega
      have dA : CluD g3.n (g3.n + 1) k B S1.s6 T y (g.set h.n (.cells false [.int .i64 w])) := ⟨by rw [AH.get_set_ne _ (by omega)]; exact kg.get d1, by rw [AH.get_set_ne _ (by omega)]; exact kg.get d2, hBk⟩
      have b5A : (g.set h.n (.cells false [.int .i64 w])).get h.n = some (.cells false [.int .i64 w]) := AH.get_set_same _ hl5
      have b6A : (g.set h.n (.cells false [.int .i64 w])).get (h.n + 1) = some (.cells false [.bool false]) := by rw [AH.get_set_ne _ (by omega)]; exact kg.get b6'
      have b10A : (g.set h.n (.cells false [.int .i64 w])).get g2.n = some (.cells false [sl.val 7]) := by rw [AH.get_set_ne _ (by omega)]; exact kg.get b10'
      have kA : Kp h (g.set h.n (.cells false [.int .i64 w])) := ((k0.trans k04).trans kg).setNew _ (Nat.le_refl _)
      have nA : (g.set h.n (.cells false [.int .i64 w])).n = g.n := rfl
      generalize (g.set h.n (.cells false [.int .i64 w])) = gA at *
      have c1 : ((gA.push (.cells false [.int .i64 0])).set g.n (.cells false [.int .i64 0])).get g.n = some (.cells false [.int .i64 0]) := AH.get_set_same _ (by rw [AH.push_n]; omega)
      have c2 : Kp gA ((gA.push (.cells false [.int .i64 0])).set g.n (.cells false [.int .i64 0])) := ((Kp.refl gA).push _).setNew _ (by omega)
      have c3 : ((gA.push (.cells false [.int .i64 0])).set g.n (.cells false [.int .i64 0])).n = g.n + 1 := by rw [AH.set_n, AH.push_n]; omega
      generalize ((gA.push (.cells false [.int .i64 0])).set g.n (.cells false [.int .i64 0])) = g5 at *
      have fin : ∀ h1, KpB g.n g5 h1 → Wp PX (.seq (R 86 [6] [.run (xst 1 (.sl 6) (xc0 25))]) .ret) [(5, .pointer (some ⟨h.n, 0, none⟩)), (6, .pointer (some ⟨h.n + 1, 0, none⟩)), (10, .pointer (some ⟨g2.n, 0, none⟩)), (15, .pointer (some ⟨g.n, 0, none⟩)), (66, .func (.func 53) #[] #[.pointer (some ⟨g3.n, 0, none⟩), .pointer (some ⟨g3.n + 1, 0, none⟩)])] [] h1 (retQ [.cell 6 none] fun v x => v = .bool true) := fun h1 f1 => by
        have kk := KpB.kp c2 f1 (by omega)
        have kkh := kA.trans kk
        obtain ⟨_, g9, e9, rfl, k9⟩ := known8_spec (u.kp kkh) (Nat.le_trans hg kkh.1)
        have f6 := (kk.trans k9).get b6A
        have hl6 := AH.get_lt f6
        (refine W_x (Aj e9 f6) ?_; (repeat' first | apply Cj.mk | exact Nl.nl) <;> intros)
        rfl
      refine wp_range (enc := cluE) rfl hseq (fun _ => rfl)
        (fun i T' h1 => KpB g.n g5 h1 ∧ h1.get g.n = some (.cells false [.int .i64 i]))
        (fun ex T' h1 => ex = .exit 4 ∧ KpB g.n g5 h1)
        (fun c => [(5, .pointer (some ⟨h.n, 0, none⟩)), (6, .pointer (some ⟨h.n + 1, 0, none⟩)), (10, .pointer (some ⟨g2.n, 0, none⟩)), (15, .pointer (some ⟨g.n, 0, none⟩)), (16, .pointer (some ⟨32, 0, some 1⟩))]) (fun c => [(32, .cells false c.vs)]) ?_ ?_ ?_ ?_ ?_ ?_ ?_ ?_
      · rintro j T1 T2 h1 h2 ⟨f1, f2⟩ hT fm _
        exact ⟨f1.fm hT fm, by rw [fm.keep _ (AH.get_lt f2) (fun q => by have := hT _ q; omega) (by omega)]; exact f2⟩
      · rintro ex T1 T2 h1 h2 ⟨rfl, f1⟩ hT fm _
        exact ⟨rfl, f1.fm hT fm⟩
      · rintro j T1 h1 ⟨f1, _⟩
        have kk := KpB.kp c2 f1 (by omega)
        exact ⟨kk.get dA.a, kk.get dA.b, dA.bk.kp kk⟩
      · intro c h1
        unfold cluE
        simp only [List.zip_cons_cons, List.zip_nil_right, List.reverse_cons, List.reverse_nil, List.nil_append, List.cons_append, okFr_cons, okFr_nil, okV_eq, isLoc_ptr, isLoc_func, Bool.not_false, if_true]
        unfold Clu.vs
        (refine W_x trivial ?_; (repeat' first | apply Cj.mk | exact Nl.nl) <;> intros)
        exact ⟨rfl, rfl, rfl, rfl⟩
      · exact ⟨KpB.refl _ _, c1⟩
      · rintro j hj T1 h1 o ⟨f1, f2⟩ hT hlt ho
        have kk := KpB.kp c2 f1 (by omega)
        have q5 := kk.get b5A
        have q6 := kk.get b6A
        have q10 := kk.get b10A
        have hr := fun lc => rd_map (lc := lc) (r5.kp kk) hj
        have es := same8_eq L[j]
        generalize L[j] = c at hr es ⊢
        unfold Clu.vs at hr es ⊢
        have hln := AH.get_lt f2
        (refine W_x (Aj f2 (Aj q5 (Aj q6 (Aj q10 (Aj sll (Aj hr es)))))) ?_; (repeat' first | apply Cj.mk | exact Nl.nl) <;> intros)
        · exact ⟨ho, Nat.le_refl _, fun b _ => rfl, rfl, f1⟩
        · exact ⟨by rw [AH.get_set_ne _ (by omega)]; exact ho, Nat.le_refl _, fun b hb => AH.get_set_ne _ (by have := hT b hb; omega), f1.set _, AH.get_set_same _ hln⟩
      · rintro T1 h1 ⟨f1, f2⟩ hT hlt
        exact blockQ_norm (thenQ_norm (fin _ f1))
      · rintro ex T1 h1 _ ⟨rfl, f1⟩ hT hlt
        exact blockQ_same (thenQ_norm (fin _ f1))
  · rw [if_neg hb] at q
    subst q
    obtain ⟨_, g4, e7, rfl, k4⟩ := known8_spec (u.kp (k0.trans k1)) (Nat.le_trans hg (k0.trans k1).1)
    have c6 := (k1.trans k4).get b6
    have hl6 := AH.get_lt c6
    (refine W_x (Aj e1 (Aj e7 c6)) ?_; (repeat' first | apply Cj.mk | exact Nl.nl) <;> intros)
    rfl
end Go.Proofs.YtblmakgjdenpfaaGreatDoor.AM
