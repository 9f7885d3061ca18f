/-
  From a run of the machine's with contracts to a row: closed calls as contracts; arguments that are lists of structs of two numbers; the end.
-/
import Derived.Test.YtanpdopjgepbkaaAmOwn
import Derived.Deep.SlicePairs
import Derived.SizedLaws
set_option linter.unusedVariables false
set_option linter.unusedSimpArgs false
namespace Go.Proofs.Ytanpdopjgepbkaa.AM
open Go Go.RowKit Go.ChangeShapes Go.WideShapes Go.Deep

/-! ### 1. A closed call -/

/-- A closed call that the machine ends with a truth value, as a contract: it leaves the heap. -/
theorem closed_ext {P : Program} {B : Nat} (hm : P.follows .mixedOrders = true) {k : Nat} {f : FuncId} {b : Bool} (hx : ((runN (autoPrg P) k).1 f [] ⟨P.globals.size, .e⟩).map (·.1) = some (.bool b)) (h : AH) :
    FnOk P f ∧ ∀ ρ w argsC n, B ≤ w.heap.size → HRel P B ρ h w → VRels ρ [] argsC.toList → CallsIn Fence.wide n P f argsC w (CallPost P B ρ h w (.bool b) h) := by
  obtain ⟨⟨v, h1⟩, e1, e2⟩ := Option.map_eq_some_iff.1 hx
  simp only at e2
  subst e2
  obtain ⟨hf, hc⟩ := (runN_sound hm (autoPrg_ok P B) k).1 f [] _ _ _ e1
  refine ⟨hf, fun ρ w argsC n hB hh ha => (hc (varsRho P) w argsC n hB (hrel_empty P B w) (by
    have : argsC.toList = [] := List.eq_nil_of_length_eq_zero (by simpa using ha.length.symm)
    rw [this]; exact .nil)).mono fun e w' he => ?_⟩
  obtain ⟨u, ρ', rfl, g1, g2, g3⟩ := he
  have hkeep : ∀ c, c < w.heap.size → w'.heap[c]? = w.heap[c]? := fun c hc => g2.keep c hc (fun ⟨b', o, δ, N, k1, _⟩ => by
    simp only [AH.get, Tr.get] at k1; split at k1 <;> cases k1)
  refine ⟨u, ρ, rfl, ⟨hh.len, fun b' o ho => ?_, hh.glob, hh.inj⟩, ⟨.refl _, g2.size, g2.os, g2.tape, g2.output, g2.drawn, fun c hc _ => hkeep c hc, fun c _ hm => hm⟩, by cases g3; exact .bool _⟩
  obtain ⟨c, δ, N, x, q1, q2, q3⟩ := hh.live b' o ho
  have hlt : c < w.heap.size := (Array.getElem?_eq_some_iff.1 q2).1
  exact ⟨c, δ, N, x, q1, by rw [hkeep c hlt]; exact q2, q3⟩

/-! ### 2. The end -/

theorem calls_of_wpc {P : Program} (hm : P.follows .mixedOrders = true) {p : Prg} {w : World} (hp : PrgOk P w.heap.size p) {f : FuncId} {args : List Value} {h : AH} {b : Bool}
    (hx : WpC p f args h fun v _ => v = .bool b) {ρ : Rho} {argsC : Array Value} (hh : HRel P w.heap.size ρ h w) (ha : VRels ρ args argsC.toList) (hro : ∀ b o, h.get b = some o → o.ro = true) :
    Calls P f argsC w fun e w' => e = .returned (.bool b) ∧ Below w.heap.size w w' := by
  obtain ⟨v, h', h1, rfl⟩ := hx
  obtain ⟨k, hk⟩ := callO_iff.1 h1
  exact calls_of_run hm hp (k := k) (by rw [hk]; rfl) hh ha hro

/-! ### 3. Arguments -/

/-- A world's block as one that is read alone. -/
theorem HRel.ro {P : Program} {B : Nat} {ρ : Rho} {h : AH} {w : World} (hh : HRel P B ρ h w) {c δ N : Nat} {xs : List Value} {cs : Array Value} {t : TypeId} {fz : Nat × Nat} (hc : w.heap[c]? = some (.cells cs t fz)) (hN : cs.size = N) (hl : δ + xs.length ≤ N)
    (hx : CellRel ρ cs δ xs) (hB : c < B) : HRel P B (ρ ++ [(c, δ, N)]) (h.push (.cells true xs)) w where
  len := by simp [hh.len]
  live := fun b o ho => by
    by_cases hb : b = h.n
    · subst hb
      rw [AH.get_push_same] at ho
      injection ho with ho
      subst ho
      exact ⟨c, δ, N, _, by rw [← hh.len]; simp, hc, ⟨hN, hl, (fun h => by cases h), hx.mono (.snoc _ _)⟩, (fun h => by cases h), fun _ => hB⟩
    · rw [AH.get_push_ne _ hb] at ho
      obtain ⟨c', δ', N', x, q1, q2, q3, q4⟩ := hh.live b o ho
      exact ⟨c', δ', N', x, Ext.snoc _ _ _ _ q1, q2, q3.mono (.snoc _ _), q4⟩
  glob := fun g hg => let ⟨N', hN'⟩ := hh.glob g hg; ⟨N', Ext.snoc _ _ _ _ hN'⟩
  inj := fun b b' o o' c1 δ1 N1 c2 δ2 N2 h1 h2 hne hro e1 e2 => by
    by_cases hb : b = h.n
    · subst hb
      rw [AH.get_push_same] at h1
      injection h1 with h1
      subst h1
      cases hro
    · rw [AH.get_push_ne _ hb] at h1
      have hbl : b < h.n := AH.get_lt h1
      have e1' : ρ[b]? = some (c1, δ1, N1) := by
        rw [List.getElem?_append_left (by rw [hh.len]; exact hbl)] at e1; exact e1
      by_cases hb' : b' = h.n
      · subst hb'
        rw [← hh.len] at e2
        simp only [List.getElem?_append_right (Nat.le_refl _), Nat.sub_self, List.getElem?_cons_zero, Option.some.injEq, Prod.mk.injEq] at e2
        obtain ⟨rfl, rfl, rfl⟩ := e2
        obtain ⟨c', δ', N', x, q1, q2, q3, q4, q5⟩ := hh.live b o h1
        rw [e1'] at q1
        injection q1 with q1
        injection q1 with q1 _
        have := q4 hro
        omega
      · rw [AH.get_push_ne _ hb'] at h2
        have e2' : ρ[b']? = some (c2, δ2, N2) := by
          rw [List.getElem?_append_left (by rw [hh.len]; exact AH.get_lt h2)] at e2; exact e2
        exact hh.inj b b' o o' c1 δ1 N1 c2 δ2 N2 h1 h2 hne hro e1' e2'

theorem pairs_get {f : Int × Int → List Value} (hf : ∀ x, ∃ a b, f x = [a, b]) : ∀ (L : List (Int × Int)) (i : Nat) (v : Value), (L.map f).flatten[i]? = some v → ∃ j, ∃ hj : j < L.length, (i = 2 * j ∧ (f L[j])[0]? = some v) ∨ (i = 2 * j + 1 ∧ (f L[j])[1]? = some v)
  | [], i, v, h => by simp at h
  | x :: L, i, v, h => by
    obtain ⟨a, b, e⟩ := hf x
    simp only [List.map_cons, List.flatten_cons, e] at h
    match i with
    | 0 => exact ⟨0, by simp, .inl ⟨rfl, by simpa [e] using h⟩⟩
    | 1 => exact ⟨0, by simp, .inr ⟨rfl, by simpa [e] using h⟩⟩
    | i + 2 =>
      obtain ⟨j, hj, hh⟩ := pairs_get hf L i v (by simpa using h)
      exact ⟨j + 1, by simpa using hj, by
        rcases hh with ⟨rfl, h2⟩ | ⟨rfl, h2⟩
        · exact .inl ⟨by omega, by simpa using h2⟩
        · exact .inr ⟨by omega, by simpa using h2⟩⟩

def pairV (x : Int × Int) : List Value := [.int .i32 x.1, .int .i32 x.2]

theorem has_i32 {n : Int} (h : (Lit.int .i32 n).wf = true) : -2147483648 ≤ n ∧ n < 2147483648 := by
  simp only [Lit.wf, IntKind.has, IntKind.min, IntKind.max, IntKind.signed, IntKind.bits, Bool.and_eq_true, decide_eq_true_eq, if_true] at h
  omega

/-- A list of structs of two numbers, handed in. -/
theorem pairs_arg {H : Type} {enc : TypeId × Value → H} {P : Program} {W : World} {base : Nat} {t e : TypeId} {f0 f1 : Field} {v : Value} {d : DataW H} {ps : List MemPlace} (ht : P.underlying t = some (.slice e)) (he : P.underlying e = some (.struct #[f0, f1]))
    (ce : P.cellsOf e = 2) (o0 : f0.offset = 0) (o1 : f1.offset = 1) (c0 : P.cellsOf f0.type = 1) (c1 : P.cellsOf f1.type = 1) (u0 : P.underlying f0.type = some (.int .i32)) (u1 : P.underlying f1.type = some (.int .i32))
    (hv : Value.okWide P W .any base t v) (hd : DataW.Trod enc P W 0 (fun _ => true) true t v d ps) (hw : (d.weights P t).all (· ≤ reachBytes) = true) (he8 : P.bytesOf e = 8) :
    ∃ (l : List (Int × Int)), l.length ≤ 17592186043904 ∧ (∀ x ∈ l, (-2147483648 ≤ x.1 ∧ x.1 < 2147483648) ∧ (-2147483648 ≤ x.2 ∧ x.2 < 2147483648)) ∧
      ∀ ρ h, HRel P W.heap.size ρ h W → (∀ b o, h.get b = some o → o.ro = true) → ∃ s ρ' h', HRel P W.heap.size ρ' h' W ∧ Ext ρ ρ' ∧ Kp h h' ∧ Reads h' 2 s (l.map pairV) ∧ VRel ρ' (s.val 2) v ∧ (∀ b o, h'.get b = some o → o.ro = true) := by
  obtain ⟨a0, len0, cap0, rfl⟩ := okWide_slice ht hv
  obtain ⟨fuel, hf⟩ := hd
  simp only [Value.cells] at hf
  rcases open_slice_pairs ht he ce o0 o1 c0 c1 hf with ⟨hcs, hx⟩ | ⟨a, len, cap, m, n, V0, V1, D0, D1, P0, P1, hcs, _, hl, hm, hmm, hx, hall⟩
  · simp only [List.cons.injEq, and_true] at hcs
    rw [hcs]
    exact ⟨[], by simp, by simp, fun ρ h hh hro => ⟨.nil, ρ, h, hh, .refl _, .refl _, ⟨rfl, by simp, trivial⟩, .slNil, hro⟩⟩
  · simp only [List.cons.injEq, and_true] at hcs
    rw [hcs]
    simp only [if_true] at hmm
    subst hmm
    have hD : d = (DataW.slice ((List.range len).map fun i => DataW.agg [D0 i, D1 i]) ((List.range (m - len)).map fun j => DataW.agg [D0 (len + j), D1 (len + j)])) := congrArg Prod.fst hx
    have hlen : len ≤ 17592186043904 := by
      rw [hD] at hw
      simp only [DataW.weights, ht, List.all_cons, Bool.and_eq_true, decide_eq_true_eq, List.length_map, List.length_range, he8] at hw
      have h1 := hw.1
      have : reachBytes = 140737488351232 := rfl
      rw [this] at h1
      omega
    have hcell : ∀ i, i < m → ∃ q : Int × Int, V0 i = .int .i32 q.1 ∧ V1 i = .int .i32 q.2 ∧ (-2147483648 ≤ q.1 ∧ q.1 < 2147483648) ∧ (-2147483648 ≤ q.2 ∧ q.2 < 2147483648) := fun i hi => by
      obtain ⟨_, _, t0, t1⟩ := hall i hi
      obtain ⟨n0, e0, _, w0⟩ := DataW.trod_int u0 t0
      obtain ⟨n1, e1, _, w1⟩ := DataW.trod_int u1 t1
      exact ⟨(n0, n1), by simpa using e0, by simpa using e1, has_i32 w0, has_i32 w1⟩
    obtain ⟨q, hq⟩ := choose_lt hcell
    refine ⟨(List.range len).map q, by simpa using hlen, fun x hx => ?_, fun ρ h hh hro => ?_⟩
    · obtain ⟨i, hi, rfl⟩ := List.mem_map.1 hx
      have := hq i (by have := List.mem_range.1 hi; omega)
      exact this.2.2
    · rcases Nat.eq_zero_or_pos m with hm0 | hm0
      · subst hm0
        have : len = 0 := by omega
        subst this
        exact ⟨.at 0 0 0, ρ, h, hh, .refl _, .refl _, ⟨by simp [Sl.len], by simp, .inl rfl⟩, .slZ _ _ _, hro⟩
      · obtain ⟨c00, _⟩ := hall 0 hm0
        have hblk : ∃ cs t fz, W.heap[a.block]? = some (.cells cs t fz) ∧ a.spot = none := by
          unfold World.cell? at c00
          split at c00
          · rename_i cs t fz hb
            split at c00
            · cases c00
            · rename_i hs
              have ha0 : a.add (0 * 2) = a := by simp [Addr.add]
              rw [ha0] at hb hs
              exact ⟨cs, t, fz, hb, by simpa using hs⟩
          · cases c00
        obtain ⟨cs, tt, fz, hb, hsp⟩ := hblk
        obtain ⟨ab, ao, asp⟩ := a
        simp only at hb hsp
        subst hsp
        have hcl : ∀ i v, W.cell? ((⟨ab, ao, none⟩ : Addr).add i) = some v → cs[ao + i]? = some v := fun i v h => by
          rw [add_plain] at h
          simp only [World.cell?, hb, Option.isSome_none] at h
          simpa using h
        have hlast := hcl _ _ (hall (m - 1) (by omega)).2.1
        have hsz : ao + m * 2 ≤ cs.size := by
          have := (Array.getElem?_eq_some_iff.1 hlast).1
          omega
        have hLl : (((List.range len).map q).map pairV).flatten.length = len * 2 := by
          rw [flatten_len (e := 2) (fun x hx => by obtain ⟨y, _, rfl⟩ := List.mem_map.1 hx; rfl)]
          simp
        refine ⟨.at h.n 0 len, _, _, hh.ro (c := ab) (δ := ao) (N := cs.size) (xs := (((List.range len).map q).map pairV).flatten) (cs := cs) (t := tt) (fz := fz) hb rfl (by omega) ?_ (Array.getElem?_eq_some_iff.1 hb).1, .snoc _ _,
          ⟨by simp, fun b hb => AH.get_push_ne _ (by omega)⟩, ⟨by simp [Sl.len], fun x hx => by obtain ⟨y, _, rfl⟩ := List.mem_map.1 hx; rfl, .inr ⟨true, [], [], by simpa using AH.get_push_same h _, rfl⟩⟩, ?_, fun b o ho => ?_⟩
        · intro i v hv
          obtain ⟨j, hj, hor⟩ := pairs_get (f := pairV) (fun x => ⟨_, _, rfl⟩) _ i v hv
          have hjl : j < len := by simpa using hj
          have hqj := hq j (by omega)
          have hL : ((List.range len).map q)[j] = q j := by simp
          rw [hL] at hor
          obtain ⟨k0, k1, _, _⟩ := hall j (by omega)
          rcases hor with ⟨rfl, h2⟩ | ⟨rfl, h2⟩
          · simp only [pairV, List.getElem?_cons_zero, Option.some.injEq] at h2
            subst h2
            refine ⟨rfl, _, hcl _ _ (by rw [← hqj.1]; rw [Nat.mul_comm] at k0; exact k0), .int _ _⟩
          · simp only [pairV, List.getElem?_cons_succ, List.getElem?_cons_zero, Option.some.injEq] at h2
            subst h2
            refine ⟨rfl, _, ?_, .int _ _⟩
            have := hcl _ _ k1
            rw [hqj.2.1, Nat.mul_comm j 2, ← Nat.add_assoc] at this
            rw [← Nat.add_assoc]
            exact this
        · exact .sl h.n 0 ab ao cs.size len 2 m (by rw [← hh.len]; simp) hl (by omega)
        · by_cases hb' : b = h.n
          · subst hb'
            rw [AH.get_push_same] at ho
            injection ho with ho
            subst ho
            rfl
          · rw [AH.get_push_ne _ hb'] at ho
            exact hro b o ho

end Go.Proofs.Ytanpdopjgepbkaa.AM
