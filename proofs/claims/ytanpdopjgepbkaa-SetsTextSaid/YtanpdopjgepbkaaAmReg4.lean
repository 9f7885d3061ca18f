/-
  Regions in any order: the step, the whole, and what is kept behind a region.
-/
import Derived.Test.YtanpdopjgepbkaaAmReg3
set_option linter.unusedVariables false
set_option linter.unusedSimpArgs false
namespace Go.Proofs.Ytanpdopjgepbkaa.AM
open Go

variable {P : Program} {B nt : Nat} {E : Ent} {D : List Nat} {ρ : Rho} {lm : Nat → Option Nat} {fr : Fr} {m : Mem} {a : Act} {w : World} {g : Nat → Value}
variable {call : CallF} {yld : YieldF}

theorem getD_eq {xs : Array Bool} {i : Nat} (h : i < xs.size) (d d' : Bool) : xs.getD i d = xs.getD i d' := by
  simp [Array.getD, h]

theorem setD {xs : Array Bool} {i j : Nat} (hi : i < xs.size) : (xs.setIfInBounds i true).getD j false = if j = i then true else xs.getD j false := by
  by_cases h : j = i
  · subst h; simp [Array.getD_eq_getD_getElem?, hi]
  · simp [Array.getD_eq_getD_getElem?, h, Array.getElem?_setIfInBounds_ne (Ne.symm h)]

structure AnyInv (P : Program) (B nt : Nat) (E : Ent) (D : List Nat) (ops : Array Oper) (ls : List LInstr) (fr : Fr) (T : Nat → Fr × Mem) (V : Nat → Value) (listed : Array Bool) (K : Nat)
    (ρ : Rho) (lm : Nat → Option Nat) (a : Act) (w : World) : Prop where
  size : listed.size = ops.size
  closed : ∀ j k, listed.getD j false = true → ((masks [] ops.toList).getD j 0).testBit k = true → listed.getD k false = true
  bound : K ≤ ls.length
  place : K = 0 ∨ ∃ x, ls[K - 1]? = some x ∧ x.isE = true ∧ 0 < K
  effs : ∀ (i : Nat) (l : LInstr), ls[i]? = some l → l.isE = true → (listed.getD i false = true ↔ i < K)
  sr : SR P B nt E D ρ lm (fget (lookFr fr ls V (fun i => listed.getD i false) ls.length)) (T K).2 a w

theorem clash_fst {x y : LInstr} {d : Nat} (h : x.dst = some d) (hs : d ∈ y.slots) : clash x y = true := by
  unfold clash
  simp [h, hs]
theorem clash_dst {x y : LInstr} {d : Nat} (h : x.dst = some d) (hs : y.dst = some d) : clash x y = true := by
  unfold clash
  simp [h, hs]
theorem clash_snd {x y : LInstr} {d : Nat} (h : y.dst = some d) (hs : d ∈ x.slots) : clash x y = true := by
  unfold clash
  simp [h, hs]

theorem any_step (hcs : CallSound P B call) (hys : YieldSound P B yld) {ops : Array Oper} {lo : List Nat} {ls : List LInstr} (hls : liftIs P nt lo ops ops.toList = some ls)
    {T : Nat → Fr × Mem} {V : Nat → Value} (ht : TextRun call yld ls fr m T V) (hp : pairsOk (masks [] ops.toList) ls = true)
    (hchk : (chkOf (masks [] ops.toList) ls).all (chk1 ls (trace call yld ls fr m)) = true)
    {listed : Array Bool} {K : Nat} (I : AnyInv P B nt E D ops ls fr T V listed K ρ lm a w) {j : Nat} (hj : j ∈ Region.ready .any ops listed)
    {r : Option Nat} {n : Nat} {Kont : Act → World → Prop} {Q : Exit → Act → World → Prop}
    (hn : ∀ K' ρ' lm' a' w', AnyInv P B nt E D ops ls fr T V (listed.setIfInBounds j true) K' ρ' lm' a' w' → Kont a' w') : wpOpIn (WF r) n P ops Q j Kont a w := by
  obtain ⟨hlen, hget⟩ := liftIs_get hls
  obtain ⟨hun, o, ho, haf⟩ := mem_ready.1 hj
  have hlt : j < ops.size := (Array.getElem?_eq_some_iff.1 ho).1
  have hltl : j < listed.size := by rw [I.size]; exact hlt
  have hun' : listed.getD j false = false := by rw [getD_eq hltl false true]; exact hun
  have hjl : j < ls.length := by simp at hlen; omega
  obtain ⟨l, hl, hli⟩ := hget j o (by simpa using ho)
  -- what must come ahead has come
  have hcl : ∀ k, ((masks [] ops.toList).getD j 0).testBit k = true → listed.getD k false = true := fun k hk => by
    obtain ⟨o', h1, e, h2, h3, h4⟩ := masks_spec ops.toList j k hk
    have : o' = o := by
      have h5 : ops[j]? = some o' := by simpa using h1
      rw [ho] at h5
      injection h5 with h5
      exact h5.symm
    subst this
    have h6 := haf e h2 h3
    rcases h4 with rfl | h4
    · exact h6
    · exact I.closed _ _ h6 h4
  have ahead : ∀ (i : Nat) (x : LInstr), i < j → ls[i]? = some x → (clash x l = true ∨ (x.isE = true ∧ l.isE = true)) → listed.getD i false = true := fun i x hi hx hc => hcl i (pairsOk_spec hp hi hx hl hc)
  have behind : ∀ (i : Nat) (x : LInstr), j < i → ls[i]? = some x → (clash l x = true ∨ (l.isE = true ∧ x.isE = true)) → listed.getD i false = false := fun i x hi hx hc => by
    cases h : listed.getD i false with
    | false => rfl
    | true =>
      have := I.closed i j h (pairsOk_spec hp hi hl hx hc)
      rw [hun'] at this
      cases this
  have agree : Agree (lookFr fr ls V (fun i => listed.getD i false) ls.length) (T j).1 l.slots := fun s hs => by
    rw [lookFr_text ht j j (by omega) (Nat.le_refl _), ← lookFr_above j ls.length (by omega)]
    refine lookFr_agree _ fun i x hi hx hd => ?_
    rcases Nat.lt_trichotomy i j with h | h | h
    · rw [ahead i x h hx (.inl (clash_fst hd hs))]; simp [upto, h]
    · subst h; rw [hun']; simp [upto]
    · rw [behind i x h hx (.inl (clash_snd hd hs))]; simp [upto]; omega
  obtain ⟨st, _⟩ := ht.step j l hl
  -- where memory stands
  have memE : l.isE = true → (T K).2 = (T j).2 := fun hE => mem_eq ht I.bound (by omega) fun i x hx hxE => by
    have := I.effs i x hx hxE
    rcases Nat.lt_trichotomy i j with h | h | h
    · have := this.1 (ahead i x h hx (.inr ⟨hxE, hE⟩)); exact ⟨fun _ => h, fun _ => this⟩
    · subst h; rw [hun'] at this; simp at this; omega
    · have h2 := behind i x h hx (.inr ⟨hE, hxE⟩)
      rw [h2] at this
      simp at this
      omega
  -- the step as it is met here
  have stp : l.step call yld (lookFr fr ls V (fun i => listed.getD i false) ls.length) (T K).2 = some (V j, if l.isE = true then (T (j + 1)).2 else (T K).2) := by
    rw [LInstr.step_congr agree]
    by_cases hE : l.isE = true
    · rw [if_pos hE, memE hE]; exact st
    · rw [if_neg hE]
      have hE' : l.isE = false := by simpa using hE
      unfold LInstr.step at st ⊢
      split at st
      · rename_i hw
        unfold LInstr.ev at st ⊢
        cases hop : l.op with
        | p po =>
          rw [hop] at st
          obtain ⟨x, h1, h2⟩ := Option.map_eq_some_iff.1 st
          injection h2 with h2 _
          simp only [h1, Option.map_some, h2]
        | r ro =>
          rw [hop] at st
          simp only at st
          obtain ⟨x, h1, h2⟩ := Option.map_eq_some_iff.1 st
          injection h2 with h2 _
          by_cases h3 : ∀ e ∈ AM.effs ls, (e < K ↔ e < j)
          · have : (T K).2 = (T j).2 := mem_eq ht I.bound (by omega) fun i x hx hxE => h3 i (effs_mem.2 ⟨x, hx, hxE⟩)
            rw [this]
            simp only [h1, Option.map_some, h2]
          · have hR : l.isR = true := by unfold LInstr.isR; rw [hop]
            have hmem := chkOf_mem (ms := masks [] ops.toList) hl hR I.place
              (by
                rcases I.place with h | ⟨x, hx, hxE, hpos⟩
                · exact .inl h
                · refine .inr ?_
                  have hk : listed.getD (K - 1) false = true := (I.effs _ x hx hxE).2 (by omega)
                  cases hb : ((masks [] ops.toList).getD (K - 1) 0).testBit j with
                  | false => rfl
                  | true => have := I.closed _ _ hk hb; rw [hun'] at this; cases this)
              (fun e he => by
                obtain ⟨x, hx, hxE⟩ := effs_mem.1 he
                cases hb : ((masks [] ops.toList).getD j 0).testBit e with
                | false => exact .inr rfl
                | true => exact .inl ((I.effs e x hx hxE).1 (hcl e hb))) h3
            have hc := List.all_eq_true.1 hchk _ hmem
            unfold chk1 at hc
            simp only [hl, ht.tr j (by omega), ht.tr K I.bound, hw, hop, h1] at hc
            split at hc
            · rename_i u v hu hv
              have huv := vsame_eq hc
              injection hu with hu
              simp only [hv, Option.map_some, ← huv, ← hu, h2]
            · cases hc
        | e eo => unfold LInstr.isE at hE; rw [hop] at hE; simp at hE
      · rename_i hw
        injection st with st
        injection st with st _
        rw [st]
      · cases st
  -- the frames that follow
  have frm : ∀ s, fget (lookFr fr ls V (fun i => (listed.setIfInBounds j true).getD i false) ls.length) s = fget (pushD (lookFr fr ls V (fun i => listed.getD i false) ls.length) l.dst (V j)) s := fun s => by
    rw [fget_pushD]
    refine lookFr_take hl hun' (by simp only [setD hltl]; simp) (fun i hi => by simp only [setD hltl]; simp [hi]) (fun i x hx hij hd hs => ?_) _ hjl
    obtain ⟨d, hxd⟩ := Option.isSome_iff_exists.1 hs
    exact behind i x hij hx (.inl (clash_dst (hd ▸ hxd) hxd))
  refine step_sound hcs hys I.sr ho hli stp fun ρ' lm' a' w' s' => ?_
  have s2 := s'.congr frm
  have size' : (listed.setIfInBounds j true).size = ops.size := by simp [I.size]
  have closed' : ∀ x k, (listed.setIfInBounds j true).getD x false = true → ((masks [] ops.toList).getD x 0).testBit k = true → (listed.setIfInBounds j true).getD k false = true := fun x k hx hk => by
    rw [setD hltl] at hx ⊢
    have : listed.getD k false = true := by
      by_cases h : x = j
      · subst h; exact hcl k hk
      · simp only [h, if_false] at hx; exact I.closed x k hx hk
    simp [this]
  by_cases hE : l.isE = true
  · rw [if_pos hE] at s2
    refine hn (j + 1) ρ' lm' a' w' ⟨size', closed', by omega, .inr ⟨l, hl, hE, by omega⟩, fun i x hx hxE => ?_, s2⟩
    rw [setD hltl]
    rcases Nat.lt_trichotomy i j with h | h | h
    · have := ahead i x h hx (.inr ⟨hxE, hE⟩)
      simp only [this]
      simp; omega
    · subst h; simp
    · have := behind i x h hx (.inr ⟨hE, hxE⟩)
      rw [this]
      simp only [show ¬ i = j by omega, if_false]
      simp; omega
  · rw [if_neg hE] at s2
    refine hn K ρ' lm' a' w' ⟨size', closed', I.bound, I.place, fun i x hx hxE => ?_, s2⟩
    have hij : ¬ i = j := fun h => by
      subst h
      rw [hl] at hx
      injection hx with hx
      subst hx
      exact hE hxE
    rw [setD hltl]
    simp only [hij, if_false]
    exact I.effs i x hx hxE

def undone (listed : Array Bool) (n : Nat) : Nat := (List.range n).countP fun i => !listed.getD i false

theorem undone_set {listed : Array Bool} {j : Nat} (hj : j < listed.size) (hu : listed.getD j false = false) : ∀ n, undone (listed.setIfInBounds j true) n + (if j < n then 1 else 0) = undone listed n
  | 0 => by simp [undone]
  | n + 1 => by
    have ih := undone_set hj hu n
    unfold undone at ih ⊢
    rw [List.range_succ, List.countP_append, List.countP_append, List.countP_singleton, List.countP_singleton]
    have e1 := setD (j := n) hj
    by_cases h : n = j
    · subst h
      simp only [Nat.lt_irrefl, if_false, Nat.add_zero] at ih
      rw [ih, e1, hu]
      simp
    · have : (if j < n + 1 then 1 else 0) = (if j < n then 1 else 0) := by
        by_cases h2 : j < n
        · rw [if_pos h2, if_pos (by omega)]
        · rw [if_neg h2, if_neg (by omega)]
      rw [this, e1, if_neg h]
      omega

theorem undone_zero {listed : Array Bool} {n : Nat} (h : undone listed n = 0) : ∀ i, i < n → listed.getD i false = true := fun i hi => by
  have := (List.countP_eq_zero.1 h) i (List.mem_range.2 hi)
  simpa using this

theorem done_of_ready {ops : Array Oper} {listed : Array Bool} (hs : listed.size = ops.size) (hb : backEdges 0 ops.toList = true) (hr : Region.ready .any ops listed = []) : ∀ i, i < ops.size → listed.getD i false = true := by
  intro i
  induction i using Nat.strongRecOn with
  | ind i ih =>
    intro hi
    cases h : listed.getD i false with
    | true => rfl
    | false =>
      exfalso
      have : i ∈ Region.ready .any ops listed := mem_ready.2 ⟨by rw [getD_eq (by omega) true false]; exact h, ops[i], by simp [hi], fun e he hbd => by
        have := backEdges_spec hb i ops[i] (by simp [hi]) e he hbd
        exact ih e.on (by omega) (by omega)⟩
      rw [hr] at this
      cases this

theorem any_all (hcs : CallSound P B call) (hys : YieldSound P B yld) {ops : Array Oper} {lo : List Nat} {ls : List LInstr} (hls : liftIs P nt lo ops ops.toList = some ls)
    {T : Nat → Fr × Mem} {V : Nat → Value} (ht : TextRun call yld ls fr m T V) (hp : pairsOk (masks [] ops.toList) ls = true) (hb : backEdges 0 ops.toList = true)
    (hchk : (chkOf (masks [] ops.toList) ls).all (chk1 ls (trace call yld ls fr m)) = true) {r : Option Nat} {n : Nat} {Q : Exit → Act → World → Prop}
    (hn : ∀ ρ' lm' a' w', SR P B nt E D ρ' lm' (fget (T ls.length).1) (T ls.length).2 a' w' → Q .normal a' w') :
    ∀ (fuel : Nat) (listed : Array Bool) (K : Nat) (ρ : Rho) (lm : Nat → Option Nat) (a : Act) (w : World), undone listed ops.size ≤ fuel → AnyInv P B nt E D ops ls fr T V listed K ρ lm a w →
      wpAnyIn (WF r) n P .any ops Q fuel listed a w := by
  obtain ⟨hlen, hget⟩ := liftIs_get hls
  have fin : ∀ (listed : Array Bool) (K : Nat) (ρ : Rho) (lm : Nat → Option Nat) (a : Act) (w : World), AnyInv P B nt E D ops ls fr T V listed K ρ lm a w → (∀ i, i < ops.size → listed.getD i false = true) → Q .normal a w := by
    intro listed K ρ lm a w I hall
    have hall' : ∀ i, i < ls.length → listed.getD i false = true := fun i hi => hall i (by simp at hlen; omega)
    have hm : (T K).2 = (T ls.length).2 := mem_eq ht I.bound (Nat.le_refl _) fun i x hx hxE => by
      have hi := (List.getElem?_eq_some_iff.1 hx).1
      have := (I.effs i x hx hxE).1 (hall' i hi)
      exact ⟨fun _ => hi, fun _ => this⟩
    have s := I.sr
    rw [hm] at s
    refine hn ρ lm a w (s.congr fun i => ?_)
    rw [lookFr_text ht ls.length ls.length (Nat.le_refl _) (Nat.le_refl _)]
    exact lookFr_agree _ fun i x hi hx hd => by simp only [hall' i hi]; simp [upto, hi]
  intro fuel
  induction fuel with
  | zero =>
    intro listed K ρ lm a w hu I
    have hall := undone_zero (Nat.le_zero.1 hu)
    refine ⟨?_, fin listed K ρ lm a w I hall⟩
    refine List.eq_nil_iff_forall_not_mem.2 fun i hi => ?_
    obtain ⟨h1, o, ho, _⟩ := mem_ready.1 hi
    have hlt := (Array.getElem?_eq_some_iff.1 ho).1
    have := hall i hlt
    rw [getD_eq (by rw [I.size]; exact hlt) false true, h1] at this
    cases this
  | succ fuel ih =>
    intro listed K ρ lm a w hu I
    refine ⟨fun hr => fin listed K ρ lm a w I (done_of_ready I.size hb hr), fun j hj => ?_⟩
    refine any_step hcs hys hls ht hp hchk I hj fun K' ρ' lm' a' w' I' => ih _ K' ρ' lm' a' w' ?_ I'
    obtain ⟨h1, o, ho, _⟩ := mem_ready.1 hj
    have hlt := (Array.getElem?_eq_some_iff.1 ho).1
    have hls' : j < listed.size := by rw [I.size]; exact hlt
    have := undone_set hls' (by rw [getD_eq hls' false true]; exact h1) ops.size
    rw [if_pos hlt] at this
    omega

theorem wpIn_anyOrder (hm : P.follows .mixedOrders = true) (hcs : CallSound P B call) (hys : YieldSound P B yld) (s : SR P B nt E D ρ lm (fget fr) m a w) {ops : Array Oper} {lo : List Nat} {ls : List LInstr} (hls : liftIs P nt lo ops ops.toList = some ls)
    (hp : pairsOk (masks [] ops.toList) ls = true) (hb : backEdges 0 ops.toList = true)
    {fr' : Fr} {m' : Mem} (hr : runOps call yld ls fr m = some (fr', m')) (hchk : (chkOf (masks [] ops.toList) ls).all (chk1 ls (trace call yld ls fr m)) = true)
    {r : Option Nat} {n id : Nat} {Q : Exit → Act → World → Prop}
    (hn : ∀ ρ' lm' a' w', SR P B nt E D ρ' lm' (fget fr') m' a' w' → Q .normal a' w') : (Code.region id ops true).wpIn (WF r) n P Q a w := by
  obtain ⟨T, V, ht, hT⟩ := textRun hr
  have fls : ∀ i, (Array.replicate ops.size false).getD i false = false := fun i => by
    simp only [Array.getD_eq_getD_getElem?, Array.getElem?_replicate]
    split <;> rfl
  have hlook0 : ∀ (L : Nat → Bool), (∀ i, L i = false) → ∀ k, lookFr fr ls V L k = fr := fun L hL k => by
    induction k with
    | zero => rfl
    | succ k ih => simp only [lookFr, hL, Bool.false_eq_true, if_false, ih]; split <;> rfl
  have hlook : ∀ k, lookFr fr ls V (fun i => (Array.replicate ops.size false).getD i false) k = fr := hlook0 _ fls
  refine wpIn_region_any hm (any_all hcs hys hls ht hp hb hchk (fun ρ' lm' a' w' s' => hn ρ' lm' a' w' (by rw [hT] at s'; exact s')) ops.size _ 0 ρ lm a _ ?_ ⟨by simp, (fun j k h => by rw [fls] at h; cases h), Nat.zero_le _, .inl rfl, (fun i l _ _ => by rw [fls]; simp), ?_⟩)
  · exact Nat.le_trans (List.countP_le_length) (by simp)
  · rw [hlook, ht.zero]
    exact s.world rfl ⟨rfl, rfl, rfl, by first | exact Nat.le_refl _ | exact Nat.le_add_right _ _⟩

/-! ### Behind a region -/

theorem keepFr_get : ∀ {keep : List Nat} {l : Fr}, keepFr fr keep = some l → ∀ s, (s ∈ keep → settle1 s (fget fr s) = some (fget l s)) ∧ (s ∉ keep → fget l s = undef)
  | [], l, h, s => by
    simp only [keepFr] at h
    injection h with h
    subst h
    exact ⟨fun h => by simp at h, fun _ => rfl⟩
  | t :: r, l, h, s => by
    simp only [keepFr] at h
    split at h
    · rename_i v l' hv hl
      injection h with h
      subst h
      obtain ⟨h1, h2⟩ := keepFr_get hl s
      by_cases e : s = t
      · subst e
        exact ⟨fun _ => by simp [fget, hv], fun h => by simp at h⟩
      · exact ⟨fun h => by simp only [fget, e, if_false]; exact h1 (by simpa [e] using h), fun h => by simp only [fget, e, if_false]; exact h2 fun h' => h (by simp [h'])⟩
    · cases h

/-- The name under which a slot's local place lived. -/
def nameOf (fr : Fr) (lc : List (Nat × AObj)) (s : Nat) : Option (Nat × AObj) :=
  match fget fr s with
  | .pointer (some a) => match a.spot, lget lc a.block with
    | some _, some o => some (a.block, o)
    | _, _ => none
  | _ => none

theorem keepLc_get (fr : Fr) (lc : List (Nat × AObj)) : ∀ (keep : List Nat) (nm : Nat),
    lget (keepLc fr lc keep) nm = if nm % 2 = 0 ∧ nm / 2 ∈ keep then (nameOf fr lc (nm / 2)).map (·.2) else none
  | [], nm => by simp [keepLc, lget]
  | s :: r, nm => by
    have ih := keepLc_get fr lc r nm
    have hk : keepLc fr lc (s :: r) = match nameOf fr lc s with
        | some p => (2 * s, p.2) :: keepLc fr lc r
        | none => keepLc fr lc r := by
      simp only [keepLc, nameOf]
      cases hv : fget fr s <;> try rfl
      rename_i p
      cases p with
      | none => rfl
      | some a =>
        cases h1 : a.spot <;> cases h2 : lget lc a.block <;> simp only [h1, h2]
    rw [hk]
    by_cases e : nm = 2 * s
    · subst e
      cases hn : nameOf fr lc s with
      | none =>
        simp only [ih]
        simp [hn]
      | some p => simp [lget, hn]
    · have e2 : ¬ (nm % 2 = 0 ∧ nm / 2 = s) := by omega
      have e3 : (nm % 2 = 0 ∧ nm / 2 ∈ s :: r) ↔ (nm % 2 = 0 ∧ nm / 2 ∈ r) := by
        simp only [List.mem_cons]
        constructor
        · rintro ⟨h1, h2 | h2⟩
          · exact (e2 ⟨h1, h2⟩).elim
          · exact ⟨h1, h2⟩
        · exact fun h => ⟨h.1, .inr h.2⟩
      simp only [e3]
      cases hn : nameOf fr lc s with
      | none => exact ih
      | some p => simp only [lget, e, if_false]; exact ih

/-- What is kept behind a region. -/
theorem SR.keep (s : SR P B nt E D ρ lm (fget fr) m a w) {keep : List Nat} {fr' : Fr} (hk : keepFr fr keep = some fr') :
    ∃ lm', SR P B nt E D ρ lm' (fget fr') { m with lc := keepLc fr m.lc keep } a w := by
  have hset : ∀ t, t ∈ keep → ∀ a', fget fr t = .pointer (some a') → a'.spot.isSome = true → (a'.block = 2 * t + 1 ∨ a'.block = 2 * t) ∧ a'.off = 0 ∧ fget fr' t = .pointer (some (loc (2 * t) 0)) := fun t ht a' h1 h2 => by
    have := (keepFr_get hk t).1 ht
    rw [h1] at this
    unfold settle1 at this
    have hloc : isLoc (.pointer (some a')) = true := by
      cases a' with | mk b of sp => cases sp with
        | none => cases h2
        | some x => simp [isLoc]
    rw [if_pos hloc] at this
    simp only at this
    split at this
    · rename_i h3
      injection this with this
      exact ⟨h3.1, h3.2, this.symm⟩
    · cases this
  let lm' : Nat → Option Nat := fun nm => if nm % 2 = 0 ∧ nm / 2 ∈ keep then (nameOf fr m.lc (nm / 2)).bind fun p => lm p.1 else none
  refine ⟨lm', s.base, s.heap, s.tr, fun t => ?_, fun nm => ?_, fun n1 n2 c h1 h2 => ?_, s.dfs, fun r hr => ?_, s.dnd, s.room⟩
  · by_cases ht : t ∈ keep
    · have h1 := (keepFr_get hk t).1 ht
      have hv := s.val t
      unfold settle1 at h1
      split at h1
      · split at h1
        · rename_i hloc v a' hv'
          split at h1
          · rename_i hc
            injection h1 with h1
            rw [hv'] at hv hloc
            rcases hv with hv | ⟨nm, of, c, e1, e2, e3⟩ | ⟨_, _, _, _, e1, _⟩
            · generalize hu : a.tmps.getD t undef = u at hv
              cases hv <;> simp [isLoc, undef] at hloc
            · injection e1 with e1
              injection e1 with e1
              subst e1
              have hnm : nameOf fr m.lc t = (lget m.lc nm).map fun o => (nm, o) := by
                unfold nameOf
                rw [hv']
                simp only [loc]
                cases lget m.lc nm <;> rfl
              have hl := s.lcs nm
              cases hg : lget m.lc nm with
              | none => rw [hg] at hl; simp only at hl; rw [hl] at e2; cases e2
              | some o =>
                refine .inr (.inl ⟨2 * t, 0, c, h1.symm, ?_, ?_⟩)
                · have h9 : (2 * t) % 2 = 0 ∧ (2 * t) / 2 ∈ keep := ⟨by omega, by rw [show 2 * t / 2 = t by omega]; exact ht⟩
                  refine (if_pos h9).trans ?_
                  rw [show 2 * t / 2 = t by omega, hnm, hg]
                  exact e2
                · rw [e3]
                  have : of = 0 := hc.2
                  rw [this]
            · cases e1
          · cases h1
        · cases h1
      · rename_i hloc
        injection h1 with h1
        rw [← h1]
        exact .inl (hv.ok (by simpa [okV] using hloc))
    · rw [(keepFr_get hk t).2 ht]
      exact VRelF.undef _
  · have hgl := keepLc_get fr m.lc keep nm
    by_cases hc : nm % 2 = 0 ∧ nm / 2 ∈ keep
    · rw [if_pos hc] at hgl
      have hlmv : lm' nm = (nameOf fr m.lc (nm / 2)).bind fun p => lm p.1 := if_pos hc
      cases hn : nameOf fr m.lc (nm / 2) with
      | none =>
        rw [hn] at hgl hlmv
        simp only [Option.map_none] at hgl
        simp only [hgl]
        exact hlmv
      | some p =>
        rw [hn] at hgl hlmv
        simp only [Option.map_some] at hgl
        simp only [hgl]
        have hp : lget m.lc p.1 = some p.2 := by
          unfold nameOf at hn
          split at hn
          · split at hn
            · rename_i h1 h2
              injection hn with hn
              rw [← hn]
              exact h2
            · cases hn
          · cases hn
        have hl := s.lcs p.1
        rw [hp] at hl
        obtain ⟨c, x, k1, k2⟩ := hl
        exact ⟨c, x, hlmv.trans k1, k2⟩
    · rw [if_neg hc] at hgl
      simp only [hgl]
      exact if_neg hc
  · have key : ∀ nm, lm' nm = some c → nm % 2 = 0 ∧ ∃ b, lm b = some c ∧ (b = 2 * (nm / 2) + 1 ∨ b = 2 * (nm / 2)) := fun nm hnm => by
      have hnm : (if nm % 2 = 0 ∧ nm / 2 ∈ keep then (nameOf fr m.lc (nm / 2)).bind fun p => lm p.1 else none) = some c := hnm
      split at hnm
      · rename_i hc
        obtain ⟨p, hp, hlm⟩ := Option.bind_eq_some_iff.1 hnm
        refine ⟨hc.1, p.1, hlm, ?_⟩
        unfold nameOf at hp
        split at hp
        · rename_i a' ha'
          split at hp
          · rename_i h1 h2
            injection hp with hp
            rw [← hp]
            exact (hset _ hc.2 a' ha' (by rw [h1]; rfl)).1
          · cases hp
        · cases hp
      · cases hnm
    obtain ⟨g1, b1, g2, g3⟩ := key n1 h1
    obtain ⟨g4, b2, g5, g6⟩ := key n2 h2
    have := s.linj b1 b2 c g2 g5
    omega
  · obtain ⟨k1, k2, k3, k4⟩ := s.marks r hr
    refine ⟨k1, k2, k3, fun nm hnm => ?_⟩
    have hnm : (if nm % 2 = 0 ∧ nm / 2 ∈ keep then (nameOf fr m.lc (nm / 2)).bind fun p => lm p.1 else none) = some r := hnm
    split at hnm
    · obtain ⟨p, hp, hlm⟩ := Option.bind_eq_some_iff.1 hnm
      exact k4 _ hlm
    · cases hnm

end Go.Proofs.Ytanpdopjgepbkaa.AM
