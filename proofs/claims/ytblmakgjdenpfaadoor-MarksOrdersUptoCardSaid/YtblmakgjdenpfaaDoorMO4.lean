/- Parts of the proof of MarksOrders: its lemmas, joined. -/
import Derived.Test.YtblmakgjdenpfaaDoorMO3
import Derived.ProofKit
import Derived.Lib.LaidU8
import Derived.Lib.LaidTab
import GoSem.PinnedTables
set_option linter.unusedVariables false
set_option linter.unusedSimpArgs false
set_option linter.unusedSectionVars false
namespace Go.Proofs.YtblmakgjdenpfaaDoor.AM
open Go Go.ChangeShapes Go.WideShapes Go.ChangeAt Go.RowKit
noncomputable section
variable {H : Type} {enc : TypeId × Value → H} {W : World}
abbrev eI : Elem H enc Tryd.prog W 21 1 Int := .int .i32 Tryd.underlying21
abbrev eN : Elem H enc Tryd.prog W 3 1 Int := .int .i64 Tryd.underlying3
abbrev eS : Elem H enc Tryd.prog W 9 1 ByteArray := .str Tryd.underlying9
theorem ci : Tryd.prog.cellsOf 21 = 1 := by kernel_rfl
theorem cn : Tryd.prog.cellsOf 3 = 1 := by kernel_rfl
theorem cs : Tryd.prog.cellsOf 9 = 1 := by kernel_rfl
theorem csl : Tryd.prog.cellsOf 23 = 1 := by kernel_rfl
def eSpan : Elem H enc Tryd.prog W 120 2 (Int × Int) := .two eI eI Tryd.underlying120 rfl ci ci
def eMark : Elem H enc Tryd.prog W 122 2 (Int × Int) := .two eI eN Tryd.underlying122 rfl ci cn
def ePair : Elem H enc Tryd.prog W 124 3 (Int × Int × Int) := .three eI eI eI Tryd.underlying124 rfl ci ci ci
def eMap : Elem H enc Tryd.prog W 126 2 (Int × ByteArray) := .two eI eS Tryd.underlying126 rfl ci cs
def sSpan : Elem H enc Tryd.prog W 23 1 (List Span) := eSpan.slice Tryd.underlying23 (by kernel_rfl) (by decide)
def eScr : Elem H enc Tryd.prog W 112 2 Scr := .two eS sSpan Tryd.underlying112 rfl cs csl
def sScr : Elem H enc Tryd.prog W 22 1 (List Scr) := eScr.slice Tryd.underlying22 (by kernel_rfl) (by decide)
def sMark : Elem H enc Tryd.prog W 24 1 (List (Int × Int)) := eMark.slice Tryd.underlying24 (by kernel_rfl) (by decide)
def sPair : Elem H enc Tryd.prog W 25 1 (List (Int × Int × Int)) := ePair.slice Tryd.underlying25 (by kernel_rfl) (by decide)
def sMap : Elem H enc Tryd.prog W 26 1 (List (Int × ByteArray)) := eMap.slice Tryd.underlying26 (by kernel_rfl) (by decide)
theorem all2_map {α β : Type} {f : α → List β} {R : α → List β → Prop} (h : ∀ a ys, R a ys → ys = f a) : ∀ {xss : List (List β)} {l : List α}, All2 (fun ys a => R a ys) xss l → xss = l.map f
  | _, _, .nil => rfl
  | _, _, .cons r t => by rw [h _ _ r, all2_map h t]; rfl
theorem rSpan {l : List Span} {h : AH} {xs : List Value} (r : (sSpan (H := H) (enc := enc) (W := W)).R l h xs) : ∃ s : Sl, xs = [s.val 2] ∧ Reads h 2 s (l.map pairV) := by
  obtain ⟨s, e, xss, rd, al⟩ := r
  refine ⟨s, e, ?_⟩
  rw [← all2_map (f := pairV) (fun a ys q => ?_) al]
  · exact rd
  · obtain ⟨x, y, e, q0, q1⟩ := q
    simp only [eI, Elem.int, List.cons.injEq, and_true] at q0 q1
    rw [e, q0, q1]; rfl
theorem rMark {l : List (Int × Int)} {h : AH} {xs : List Value} (r : (sMark (H := H) (enc := enc) (W := W)).R l h xs) : ∃ s : Sl, xs = [s.val 2] ∧ Reads h 2 s (l.map markV) := by
  obtain ⟨s, e, xss, rd, al⟩ := r
  refine ⟨s, e, ?_⟩
  rw [← all2_map (f := markV) (fun a ys q => ?_) al]
  · exact rd
  · obtain ⟨x, y, e, q0, q1⟩ := q
    simp only [eI, eN, Elem.int, List.cons.injEq, and_true] at q0 q1
    rw [e, q0, q1]; rfl
theorem rPair {l : List (Int × Int × Int)} {h : AH} {xs : List Value} (r : (sPair (H := H) (enc := enc) (W := W)).R l h xs) : ∃ s : Sl, xs = [s.val 3] ∧ Reads h 3 s (l.map tripV) := by
  obtain ⟨s, e, xss, rd, al⟩ := r
  refine ⟨s, e, ?_⟩
  rw [← all2_map (f := tripV) (fun a ys q => ?_) al]
  · exact rd
  · obtain ⟨x, y, z, e, q0, q1, q2⟩ := q
    simp only [eI, Elem.int, List.cons.injEq, and_true] at q0 q1 q2
    rw [e, q0, q1, q2]; rfl
theorem rMap {l : List (Int × ByteArray)} {h : AH} {xs : List Value} (r : (sMap (H := H) (enc := enc) (W := W)).R l h xs) : ∃ s : Sl, xs = [s.val 2] ∧ Reads h 2 s (l.map mapV) := by
  obtain ⟨s, e, xss, rd, al⟩ := r
  refine ⟨s, e, ?_⟩
  rw [← all2_map (f := mapV) (fun a ys q => ?_) al]
  · exact rd
  · obtain ⟨x, y, e, q0, q1⟩ := q
    simp only [eI, eS, Elem.int, Elem.str, List.cons.injEq, and_true] at q0 q1
    rw [e, q0, q1]; rfl
theorem rScr {l : List Scr} {h : AH} {xs : List Value} (r : (sScr (H := H) (enc := enc) (W := W)).R l h xs) : ∃ (s : Sl) (Z : List (Scr × Sl)), xs = [s.val 2] ∧ Reads h 2 s (Z.map scrV) ∧ Z.map (·.1) = l ∧ ∀ z ∈ Z, Reads h 2 z.2 (z.1.2.map pairV) := by
  obtain ⟨s, e, xss, rd, al⟩ := r
  have key : ∀ {xss : List (List Value)} {l : List Scr}, All2 (fun ys a => (eScr (H := H) (enc := enc) (W := W)).R a h ys) xss l → ∃ Z : List (Scr × Sl), xss = Z.map scrV ∧ Z.map (·.1) = l ∧ ∀ z ∈ Z, Reads h 2 z.2 (z.1.2.map pairV) := by
    intro xss l al
    induction al with
    | nil => exact ⟨[], rfl, rfl, by simp⟩
    | @cons ys a _ _ q _ ih =>
      obtain ⟨Z, e1, e2, e3⟩ := ih
      obtain ⟨x, y, e, q0, q1⟩ := q
      obtain ⟨s, e4, rd⟩ := rSpan q1
      simp only [eS, Elem.str, List.cons.injEq, and_true] at q0 e4
      refine ⟨(a, s) :: Z, ?_, ?_, ?_⟩
      · rw [e, q0, e4, e1]; rfl
      · rw [← e2]; rfl
      · intro z hz
        rcases List.mem_cons.1 hz with rfl | hz
        · exact rd
        · exact e3 z hz
  obtain ⟨Z, e1, e2, e3⟩ := key al
  exact ⟨s, Z, e, e1 ▸ rd, e2, e3⟩
theorem sum_mem {α : Type} {f : α → Nat} {l : List α} {a : α} (h : a ∈ l) : f a ≤ (l.map f).sum := by
  induction l with
  | nil => cases h
  | cons b l ih =>
    simp only [List.map_cons, List.sum_cons]
    rcases List.mem_cons.1 h with rfl | h
    · omega
    · have := ih h; omega
theorem sum_len {α : Type} {f : α → Nat} {l : List α} (h : ∀ a, 1 ≤ f a) : l.length ≤ (l.map f).sum := by
  induction l with
  | nil => simp
  | cons b l ih =>
    have := h b
    simp only [List.map_cons, List.sum_cons, List.length_cons]
    omega
theorem has_i64' {n : Int} (h : (Lit.int .i64 n).wf = true) : -9223372036854775808 ≤ n ∧ n < 9223372036854775808 := by
  simp only [Lit.wf, IntKind.has, IntKind.min, IntKind.max, IntKind.signed, IntKind.bits, Bool.and_eq_true, decide_eq_true_eq, if_true] at h
  omega
set_option maxRecDepth 100000 in
theorem tables_arg {base : Nat} {v : Value} {d : DataW H} {ps : List MemPlace} (hv : Value.okWide Tryd.prog W .any base 28 v) (hd : DataW.Trod enc Tryd.prog W 0 (fun _ => true) true 28 v d ps) (hb : Rows.uptoBulk d ≤ 1048576) :
    ∃ T : Tab, T.Fits ∧ ∀ ρ h, HRel Tryd.prog W.heap.size ρ h W → RO h → ∃ S ρ' h', HRel Tryd.prog W.heap.size ρ' h' W ∧ Ext ρ ρ' ∧ Kp h h' ∧ RO h' ∧ TabAt h' S T ∧ VRel ρ' (.agg S.vs.toArray) v := by
  obtain ⟨cs, rfl, hsz⟩ := okWide_struct Tryd.underlying28 hv
  rw [show Tryd.prog.cellsOf 28 = 8 by kernel_rfl] at hsz
  obtain ⟨fuel, hf⟩ := hd
  obtain ⟨L⟩ := cs
  match L, hsz with
  | [c0, c1, c2, c3, c4, c5, c6, c7], _ =>
    have hval : (Value.cells (.agg #[c0, c1, c2, c3, c4, c5, c6, c7])).toList = [c0, c1, c2, c3, c4, c5, c6, c7] := rfl
    rw [hval] at hf
    obtain ⟨n, ds, rfl, hdl, hall⟩ := trod_fields Tryd.underlying28 (fun i f hi => by
      match i, hi with
      | 0, hi => simp at hi; subst hi; exact ⟨rfl, by kernel_rfl⟩
      | 1, hi => simp at hi; subst hi; exact ⟨rfl, by kernel_rfl⟩
      | 2, hi => simp at hi; subst hi; exact ⟨rfl, by kernel_rfl⟩
      | 3, hi => simp at hi; subst hi; exact ⟨rfl, by kernel_rfl⟩
      | 4, hi => simp at hi; subst hi; exact ⟨rfl, by kernel_rfl⟩
      | 5, hi => simp at hi; subst hi; exact ⟨rfl, by kernel_rfl⟩
      | 6, hi => simp at hi; subst hi; exact ⟨rfl, by kernel_rfl⟩
      | 7, hi => simp at hi; subst hi; exact ⟨rfl, by kernel_rfl⟩
      | i + 8, hi => simp at hi) rfl hf
    match ds, hdl with
    | [x0, x1, x2, x3, x4, x5, x6, x7], _ =>
      obtain ⟨_, _, p0, e, e', g0⟩ := hall 0 _ rfl
      simp only [List.getElem?_cons_zero, List.getElem?_cons_succ, Option.some.injEq] at e e'
      subst e e'
      obtain ⟨_, _, p1, e, e', g1⟩ := hall 1 _ rfl
      simp only [List.getElem?_cons_zero, List.getElem?_cons_succ, Option.some.injEq] at e e'
      subst e e'
      obtain ⟨_, _, p2, e, e', g2⟩ := hall 2 _ rfl
      simp only [List.getElem?_cons_zero, List.getElem?_cons_succ, Option.some.injEq] at e e'
      subst e e'
      obtain ⟨_, _, p3, e, e', g3⟩ := hall 3 _ rfl
      simp only [List.getElem?_cons_zero, List.getElem?_cons_succ, Option.some.injEq] at e e'
      subst e e'
      obtain ⟨_, _, p4, e, e', g4⟩ := hall 4 _ rfl
      simp only [List.getElem?_cons_zero, List.getElem?_cons_succ, Option.some.injEq] at e e'
      subst e e'
      obtain ⟨_, _, p5, e, e', g5⟩ := hall 5 _ rfl
      simp only [List.getElem?_cons_zero, List.getElem?_cons_succ, Option.some.injEq] at e e'
      subst e e'
      obtain ⟨_, _, p6, e, e', g6⟩ := hall 6 _ rfl
      simp only [List.getElem?_cons_zero, List.getElem?_cons_succ, Option.some.injEq] at e e'
      subst e e'
      obtain ⟨_, _, p7, e, e', g7⟩ := hall 7 _ rfl
      simp only [List.getElem?_cons_zero, List.getElem?_cons_succ, Option.some.injEq] at e e'
      subst e e'
      obtain ⟨l0, o0, z0, A0⟩ := (sScr (H := H) (enc := enc) (W := W)).arg _ _ _ _ rfl g0
      obtain ⟨l1, o1, z1, A1⟩ := (sSpan (H := H) (enc := enc) (W := W)).arg _ _ _ _ rfl g1
      obtain ⟨l2, o2, z2, A2⟩ := (sMark (H := H) (enc := enc) (W := W)).arg _ _ _ _ rfl g2
      obtain ⟨l3, o3, z3, A3⟩ := (sPair (H := H) (enc := enc) (W := W)).arg _ _ _ _ rfl g3
      obtain ⟨l4, o4, z4, A4⟩ := (sMap (H := H) (enc := enc) (W := W)).arg _ _ _ _ rfl g4
      obtain ⟨l5, o5, z5, A5⟩ := (sMap (H := H) (enc := enc) (W := W)).arg _ _ _ _ rfl g5
      obtain ⟨l6, o6, z6, A6⟩ := (sSpan (H := H) (enc := enc) (W := W)).arg _ _ _ _ rfl g6
      obtain ⟨l7, o7, z7, A7⟩ := (sSpan (H := H) (enc := enc) (W := W)).arg _ _ _ _ rfl g7
      have bs : ∀ l : List Span, (sSpan (H := H) (enc := enc) (W := W)).sz l = (l.map fun _ => 2).sum + 1 := fun l => rfl
      have b0 : (sScr (H := H) (enc := enc) (W := W)).sz l0 = (l0.map fun x => x.1.size + 1 + ((x.2.map fun _ => 2).sum + 1)).sum + 1 := rfl
      have b2 : (sMark (H := H) (enc := enc) (W := W)).sz l2 = (l2.map fun _ => 2).sum + 1 := rfl
      have b3 : (sPair (H := H) (enc := enc) (W := W)).sz l3 = (l3.map fun _ => 3).sum + 1 := rfl
      have bm : ∀ l, (sMap (H := H) (enc := enc) (W := W)).sz l = (l.map fun x => 1 + (x.2.size + 1)).sum + 1 := fun l => rfl
      rw [bs] at z1 z6 z7
      rw [bm] at z4 z5
      rw [b0] at z0
      rw [b2] at z2
      rw [b3] at z3
      simp only [Rows.uptoBulk, Rows.uptoBulkAll] at hb
      have len2 : ∀ {α : Type} (l : List α), l.length ≤ (l.map fun _ => 2).sum := fun l => sum_len fun _ => by decide
      have len3 : ∀ {α : Type} (l : List α), l.length ≤ (l.map fun _ => 3).sum := fun l => sum_len fun _ => by decide
      have q0 := sum_len (l := l0) (f := fun x => x.1.size + 1 + ((x.2.map fun _ => 2).sum + 1)) fun _ => by omega
      have q1 := len2 l1; have q2 := len2 l2; have q3 := len3 l3; have q6 := len2 l6; have q7 := len2 l7
      have q4 := sum_len (l := l4) (f := fun x => 1 + (x.2.size + 1)) fun _ => by omega
      have q5 := sum_len (l := l5) (f := fun x => 1 + (x.2.size + 1)) fun _ => by omega
      have i32 : ∀ a : Int, (Lit.int .i32 a).wf = true → r32 a := fun a w => has_i32 w
      have FT : Tab.Fits ⟨l0, l1, l2, l3, l4, l5, l6, l7⟩ := by
       refine ⟨by simp only; omega, fun x hx => ?_, by simp only; omega, by simp only; omega, by simp only; omega, by simp only; omega, by simp only; omega, by simp only; omega, by simp only; omega,
        fun x hx y hy => ?_, fun y hy => ⟨i32 _ (o1 y hy).1, i32 _ (o1 y hy).2⟩, fun y hy => ⟨i32 _ (o2 y hy).1, has_i64' (o2 y hy).2⟩, fun y hy => ⟨i32 _ (o3 y hy).1, i32 _ (o3 y hy).2.1, i32 _ (o3 y hy).2.2⟩,
        fun y hy => ⟨i32 _ (o4 y hy).1, ?_⟩, fun y hy => ⟨i32 _ (o5 y hy).1, ?_⟩, fun y hy => ⟨i32 _ (o6 y hy).1, i32 _ (o6 y hy).2⟩, fun y hy => ⟨i32 _ (o7 y hy).1, i32 _ (o7 y hy).2⟩⟩
       · have := sum_mem (f := fun x : Scr => x.1.size + 1 + ((x.2.map fun _ => 2).sum + 1)) hx
         have := len2 x.2
         simp only at *
         omega
       · have := (o0 x hx).2 y hy
         exact ⟨i32 _ this.1, i32 _ this.2⟩
       · have := sum_mem (f := fun x : Int × ByteArray => 1 + (x.2.size + 1)) hy
         simp only at *
         omega
       · have := sum_mem (f := fun x : Int × ByteArray => 1 + (x.2.size + 1)) hy
         simp only at *
         omega
      refine ⟨_, FT, fun ρ h hh hro => ?_⟩
      obtain ⟨xs, ρ', h', a1, a2, a3, a4, a5, a6, a7⟩ := (A0.append (Elem.mono _ _) (A1.append (Elem.mono _ _) (A2.append (Elem.mono _ _) (A3.append (Elem.mono _ _) (A4.append (Elem.mono _ _) (A5.append (Elem.mono _ _) (A6.append (Elem.mono _ _) A7))))))) ρ h hh hro
      obtain ⟨y0, w0, e0, _, _, r0, k0⟩ := a7
      obtain ⟨y1, w1, e1, _, _, r1, k1⟩ := k0
      obtain ⟨y2, w2, e2, _, _, r2, k2⟩ := k1
      obtain ⟨y3, w3, e3, _, _, r3, k3⟩ := k2
      obtain ⟨y4, w4, e4, _, _, r4, k4⟩ := k3
      obtain ⟨y5, w5, e5, _, _, r5, k5⟩ := k4
      obtain ⟨y6, w6, e6, _, _, r6, k6⟩ := k5
      obtain ⟨s0, Z, f0, d0, zs, rz⟩ := rScr r0
      obtain ⟨s1, f1, d1⟩ := rSpan r1
      obtain ⟨s2, f2, d2⟩ := rMark r2
      obtain ⟨s3, f3, d3⟩ := rPair r3
      obtain ⟨s4, f4, d4⟩ := rMap r4
      obtain ⟨s5, f5, d5⟩ := rMap r5
      obtain ⟨s6, f6, d6⟩ := rSpan r6
      obtain ⟨s7, f7, d7⟩ := rSpan k6
      refine ⟨⟨s0, s1, s2, s3, s4, s5, s6, s7, Z⟩, ρ', h', a1, a2, a3, a4, ⟨FT, d0, zs, rz, d1, d2, d3, d4, d5, d6, d7⟩, ?_⟩
      · have hxs : xs = TS.vs ⟨s0, s1, s2, s3, s4, s5, s6, s7, Z⟩ := by
          rw [e0, e1, e2, e3, e4, e5, e6, f0, f1, f2, f3, f4, f5, f6, f7]; rfl
        rw [← hxs]
        have hl := a6.length
        refine .agg _ _ (by simpa using hl) fun i x y hx hy => ?_
        rw [List.getElem?_toArray] at hx
        obtain ⟨u, hu, hr⟩ := a6.get i x hx
        rw [List.getElem?_toArray] at hy
        have : some u = some y := hu.symm.trans hy
        injection this with this
        exact this ▸ hr
end
end Go.Proofs.YtblmakgjdenpfaaDoor.AM
namespace Go.Proofs.YtblmakgjdenpfaaDoor.AM
open Go
def laidH (P : Program) (L : List (Nat × List Value)) : AH := L.foldr (fun x h => h.set x.1 (.cells true x.2)) ⟨P.globals.size, .e⟩
def laidR (P : Program) (L : List (Nat × List Value)) : Rho := (List.range P.globals.size).map fun g => (g, 0, match L.lookup g with | some xs => xs.length | none => 0)
theorem laidH_n (P : Program) (L : List (Nat × List Value)) : (laidH P L).n = P.globals.size := by
  induction L with
  | nil => rfl
  | cons x L ih => exact ih
theorem laidH_get (P : Program) {b : Nat} {o : AObj} : ∀ {L : List (Nat × List Value)}, (∀ x ∈ L, x.1 < P.globals.size) → (laidH P L).get b = some o → ∃ xs, L.lookup b = some xs ∧ o = .cells true xs ∧ (b, xs) ∈ L
  | [], _, h => by simp only [laidH, List.foldr_nil, AH.get, Tr.get] at h; split at h <;> cases h
  | x :: L, hL, h => by
    have hx := hL x (by simp)
    have e : laidH P (x :: L) = (laidH P L).set x.1 (.cells true x.2) := rfl
    rw [e] at h
    obtain ⟨g, xs⟩ := x
    by_cases hb : b = g
    · subst hb
      rw [AH.get_set_same _ (by rw [laidH_n]; exact hx)] at h
      injection h with h
      exact ⟨xs, by simp [List.lookup], h.symm, by simp⟩
    · rw [AH.get_set_ne _ hb] at h
      obtain ⟨ys, h1, h2, h3⟩ := laidH_get P (fun y hy => hL y (List.mem_cons_of_mem _ hy)) h
      exact ⟨ys, by simp only [List.lookup, beq_false_of_ne hb, h1], h2, List.mem_cons_of_mem _ h3⟩
def VarIs (w : World) (g : Nat) (xs : List Value) : Prop := ∃ cs t fz, w.heap[g]? = some (.cells cs t fz) ∧ cs.toList = xs
theorem hrel_laid {P : Program} {w : World} {L : List (Nat × List Value)} (hg : ∀ x ∈ L, x.1 < P.globals.size) (hf : ∀ x ∈ L, x.2.all flat0 = true) (hL : ∀ x ∈ L, VarIs w x.1 x.2) :
    HRel P w.heap.size (laidR P L) (laidH P L) w ∧ ∀ b o, (laidH P L).get b = some o → o.ro = true := by
  have hget : ∀ b, b < P.globals.size → (laidR P L)[b]? = some (b, 0, match L.lookup b with | some xs => xs.length | none => 0) := fun b hb => by simp [laidR, hb]
  refine ⟨⟨by simp [laidR, laidH_n], fun b o h => ?_, fun g hgg => ⟨_, hget g hgg⟩, fun b b' o o' c δ N c' δ' N' h1 h2 hne hro => ?_⟩, fun b o h => ?_⟩
  · obtain ⟨xs, h1, rfl, h3⟩ := laidH_get P hg h
    obtain ⟨cs, t, fz, h4, h5⟩ := hL _ h3
    have hb := hg _ h3
    simp only at h4 h5 hb
    have hlen : cs.size = xs.length := by rw [← h5]; simp
    refine ⟨b, 0, xs.length, _, by rw [hget b hb, h1], h4, ⟨hlen, by omega, (fun h => by cases h), fun i v hv => ?_⟩, (fun h => by cases h), fun _ => (Array.getElem?_eq_some_iff.1 h4).1⟩
    have hfl := List.all_eq_true.1 (hf _ h3) v (List.mem_of_getElem? hv)
    refine ⟨by (unfold flat0 at hfl; split at hfl <;> first | rfl | cases hfl), v, ?_, VRel.flat0 hfl⟩
    rw [Nat.zero_add, ← Array.getElem?_toList, h5]
    exact hv
  · obtain ⟨xs, _, rfl, _⟩ := laidH_get P hg h1
    cases hro
  · obtain ⟨xs, _, rfl, _⟩ := laidH_get P hg h
    rfl
def firstV : List Value := Go.Pinned.utf8FirstZ.map fun (z : Nat) => Value.int .u8 (z : Int)
def acceptZ : List (Int × Int) := [(128, 191), (160, 191), (128, 159), (144, 191), (128, 143), (0, 0), (0, 0), (0, 0), (0, 0), (0, 0), (0, 0), (0, 0), (0, 0), (0, 0), (0, 0), (0, 0)]
def acceptV : List Value := acceptZ.flatMap fun p => [.int .u8 p.1, .int .u8 p.2]
def acceptD : DataW Unit := .agg (acceptZ.map fun p => .agg [.lit (.int .u8 p.1), .lit (.int .u8 p.2)])
theorem flat_pair : ∀ (L : List (Int × Int)) (j : Nat), j < 2 * L.length → (L.flatMap fun p => [Value.int .u8 p.1, Value.int .u8 p.2])[j]? = ([Value.int .u8 (L.getD (j / 2) (0, 0)).1, Value.int .u8 (L.getD (j / 2) (0, 0)).2] : List Value)[j % 2]?
  | [], j, h => by simp at h
  | p :: L, 0, _ => rfl
  | p :: L, 1, _ => rfl
  | p :: L, j + 2, h => by
    have ih := flat_pair L j (by simp only [List.length_cons] at h; omega)
    have e1 : (j + 2) / 2 = j / 2 + 1 := by omega
    have e2 : (j + 2) % 2 = j % 2 := by omega
    rw [e1, e2]
    simp only [List.flatMap_cons, List.cons_append, List.nil_append, List.getElem?_cons_succ, List.getD_cons_succ]
    exact ih
theorem varIs_of {P : Program} {w : World} {n : String} {g : Nat} {cs : Array Value} (hg : P.globalNamed n = some g) (h : w.var? P n = some cs) : VarIs w g cs.toList := by
  simp only [World.var?, hg, Option.bind_some] at h
  split at h
  · rename_i cs' t fz hh
    injection h with h
    subst h
    exact ⟨_, _, _, hh, rfl⟩
  · cases h
theorem first_is {P : Program} {w : World} (h : Lib.VarReads P w "unicode/utf8.first" Go.Pinned.utf8First) {g : Nat} {t e : TypeId} (hg : P.globalNamed "unicode/utf8.first" = some g) (hty : (P.globals[g]?).map (·.type) = some t)
    (ht : P.underlying t = some (.array 256 e)) (he : P.underlying e = some (.int .u8)) (hce : P.cellsOf e = 1) (hct : P.cellsOf t = 256) : VarIs w g firstV := by
  obtain ⟨g', t', cs, fuel, p, hg', hty', hvar, hd⟩ := h
  obtain rfl := Option.some.inj (hg.symm.trans hg')
  obtain rfl := Option.some.inj (hty.symm.trans hty')
  have hcs := Lib.cells_of_tab (zs := Go.Pinned.utf8FirstZ.map fun (z : Nat) => (z : Int)) ht he hce hct (by
    rw [show Lib.tabData .u8 (Go.Pinned.utf8FirstZ.map fun (z : Nat) => (z : Int)) = Go.Pinned.utf8First by unfold Lib.tabData Go.Pinned.utf8First Go.Pinned.numbers; simp [List.map_map]]
    exact hd)
  have := varIs_of hg hvar
  rw [hcs, List.map_map] at this
  exact this
theorem accept_is {P : Program} {w : World} (h : Lib.VarReads P w "unicode/utf8.acceptRanges" acceptD) {g : Nat} {t e : TypeId} {f0 f1 : Field} (hg : P.globalNamed "unicode/utf8.acceptRanges" = some g) (hty : (P.globals[g]?).map (·.type) = some t)
    (ht : P.underlying t = some (.array 16 e)) (he : P.underlying e = some (.struct #[f0, f1])) (h0 : P.underlying f0.type = some (.int .u8) ∧ f0.offset = 0 ∧ P.cellsOf f0.type = 1) (h1 : P.underlying f1.type = some (.int .u8) ∧ f1.offset = 1 ∧ P.cellsOf f1.type = 1)
    (hce : P.cellsOf e = 2) (hct : P.cellsOf t = 32) : VarIs w g acceptV := by
  obtain ⟨g', t', cs, fuel, p, hg', hty', hvar, hd⟩ := h
  obtain rfl := Option.some.inj (hg.symm.trans hg')
  obtain rfl := Option.some.inj (hty.symm.trans hty')
  have hlen : cs.toList.length = 32 := by
    cases fuel with
    | zero => simp [DataW.trod] at hd
    | succ fuel =>
      simp only [DataW.trod, ht, hce, hct] at hd
      split at hd
      · rename_i hl; simpa using hl
      · cases hd
  have hel : ∀ i (hi : i < 16), (cs.toList.drop (i * 2)).take 2 = [.int .u8 (acceptZ.getD i (0, 0)).1, .int .u8 (acceptZ.getD i (0, 0)).2] := fun i hi => by
    obtain ⟨fuel', d, q, hdi, hde⟩ := Lib.array_elem ht hd i hi
    rw [hce] at hde
    have hd2 : d = .agg ([(acceptZ.getD i (0, 0)).1, (acceptZ.getD i (0, 0)).2].map fun z => .lit (.int .u8 z)) := by
      have : (acceptZ.map fun p => (DataW.agg [.lit (.int .u8 p.1), .lit (.int .u8 p.2)] : DataW Unit))[i]? = some (.agg ([(acceptZ.getD i (0, 0)).1, (acceptZ.getD i (0, 0)).2].map fun z => .lit (.int .u8 z))) := by
        have hi' : i < acceptZ.length := hi
        simp [hi', List.getD]
      rw [this] at hdi
      injection hdi with hdi
      exact hdi.symm
    subst hd2
    have := Lib.ints_of_struct he (fun j f hj => by
      match j, hj with
      | 0, hj => simp at hj; subst hj; exact h0
      | 1, hj => simp at hj; subst hj; exact h1
      | j + 2, hj => simp at hj) (by rw [hce]; rfl) hde
    simpa using this
  have hcs : cs.toList = acceptV := by
    apply List.ext_getElem?
    intro j
    rcases Nat.lt_or_ge j 32 with hj | hj
    · have hd := Nat.div_add_mod j 2
      have hm := Nat.mod_lt j (by decide : 0 < 2)
      have hq : j / 2 < 16 := by omega
      have hx := congrArg (·[j % 2]?) (hel (j / 2) hq)
      simp only [List.getElem?_take_of_lt hm, List.getElem?_drop] at hx
      rw [show j / 2 * 2 + j % 2 = j by omega] at hx
      rw [hx]
      exact (flat_pair acceptZ j hj).symm
    · rw [List.getElem?_eq_none (by omega), List.getElem?_eq_none (by show 32 ≤ j; exact hj)]
  have := varIs_of hg hvar
  rw [hcs] at this
  exact this
end Go.Proofs.YtblmakgjdenpfaaDoor.AM
namespace Go.Proofs.YtblmakgjdenpfaaDoor.AM
open Go
def iaddrAP (nn e : Nat) : Value → Value → Option Value
  | .pointer (some a), .int _ j => if 0 ≤ j ∧ j < nn then some (.pointer (some (ptrOff a (j.toNat * e)))) else none
  | _, _ => none
theorem ev_iaddrA {fr : Fr} {nn e : Nat} {x i : Opd} : (POp.iaddrA nn e x i).ev fr = iaddrAP nn e (opd fr x) (opd fr i) := rfl
theorem iaddrAP_mk {nn e b o : Nat} {sp : Option Nat} {k : IntKind} {j : Int} (h0 : 0 ≤ j) (h1 : j < nn) : iaddrAP nn e (.pointer (some ⟨b, o, sp⟩)) (.int k j) = some (.pointer (some ⟨b, o + j.toNat * e, sp⟩)) := by
  simp only [iaddrAP]
  rw [if_pos ⟨h0, h1⟩]
  rfl
attribute [push_cast] ev_iaddrA iaddrAP_mk Nat.mul_one
theorem vsame_map {m : Option Nat} : vsame (.map m) (.map m) = true := by simp [vsame, vsame1, vsame0]
theorem vsame1_map {m : Option Nat} : vsame1 (.map m) (.map m) = true := by simp [vsame1, vsame0]
attribute [push_cast] vsame_map vsame1_map
def lookV (kk : KK) (z : Value) (ok : Bool) (h : AH) (x k : Value) : Option Value :=
  match (match x with
    | .map none => some []
    | .map (some b) => (match h.get b with
      | some (.map es) => some es
      | _ => none)
    | _ => none : Option (List (Value × Value))) with
  | some es => if keyEq kk k k = some true then
      match keyFind kk k es with
      | some (some v) => some (if ok then .tuple #[v, .bool true] else v)
      | some none => some (if ok then .tuple #[z, .bool false] else z)
      | none => none
    else none
  | none => none
theorem ev_lookup {fr : Fr} {lc : Lc} {h : AH} {kk : KK} {z : Value} {ok : Bool} {x k : Opd} : (ROp.lookup kk z ok x k).ev fr ⟨lc, h⟩ = lookV kk z ok h (opd fr x) (opd fr k) := rfl
def upV (kk : KK) (lc : Lc) (h : AH) (x k v : Value) : Option (Value × Mem) :=
  match x with
  | .map (some b) => match h.get b with
    | some (.map es) =>
      match keyFind kk k es with
      | some _ => if okV v = true ∧ keyEq kk k k = some true then some (undef, ⟨lc, h.set b (.map (keySet kk k v es))⟩) else none
      | none => none
    | _ => none
  | _ => none
theorem ev_mapup {c : CallF} {y : YieldF} {fr : Fr} {lc : Lc} {h : AH} {kk : KK} {m k x : Opd} : (EOp.mapup kk m k x).ev c y fr ⟨lc, h⟩ = upV kk lc h (opd fr m) (opd fr k) (opd fr x) := rfl
def entV (kk : KK) (z : Value) (lc : Lc) (h : AH) (x k : Value) : Option (Value × Mem) :=
  match x with
  | .map (some b) => match h.get b with
    | some (.map es) =>
      if keyEq kk k k = some true then
        match keyIx kk k es with
        | some j => match es[j]? with
          | some p => some (.tuple #[p.2, .int .i64 j], ⟨lc, h⟩)
          | none => some (.tuple #[z, .int .i64 es.length], ⟨lc, h.set b (.map (es ++ [(k, z)]))⟩)
        | none => none
      else none
    | _ => none
  | _ => none
theorem ev_mapent {c : CallF} {y : YieldF} {fr : Fr} {lc : Lc} {h : AH} {kk : KK} {z : Value} {m k : Opd} : (EOp.mapent kk z m k).ev c y fr ⟨lc, h⟩ = entV kk z lc h (opd fr m) (opd fr k) := rfl
def stV (lc : Lc) (h : AH) (x i v : Value) : Option (Value × Mem) :=
  match x, i with
  | .map (some b), .int .i64 j => match h.get b with
    | some (.map es) => match es[j.toNat]? with
      | some p => if 0 ≤ j ∧ okV v = true then some (undef, ⟨lc, h.set b (.map (es.set j.toNat (p.1, v)))⟩) else none
      | none => none
    | _ => none
  | _, _ => none
theorem ev_mapst {c : CallF} {y : YieldF} {fr : Fr} {lc : Lc} {h : AH} {m i x : Opd} : (EOp.mapst m i x).ev c y fr ⟨lc, h⟩ = stV lc h (opd fr m) (opd fr i) (opd fr x) := rfl
theorem ev_mkmap {c : CallF} {y : YieldF} {fr : Fr} {lc : Lc} {h : AH} : EOp.mkmap.ev c y fr ⟨lc, h⟩ = some (.map (some h.n), ⟨lc, h.push (.map [])⟩) := rfl
attribute [push_cast] ev_lookup ev_mapup ev_mapent ev_mapst ev_mkmap
structure KeyOk {K : Type} [DecidableEq K] (kk : KK) (ke : K → Value) : Prop where
  eq : ∀ a b, keyEq kk (ke a) (ke b) = some (decide (a = b))
def kI (r : Int) : Value := .int .i32 r
def kP (p : Int × Int) : Value := .agg (List.toArray [.int .i32 p.1, .int .i32 p.2])
def kS (s : ByteArray) : Value := .string s
theorem kI_ok : KeyOk (.one .int) kI := ⟨fun a b => by
  simp only [keyEq, kI, eqCells, if_true]
  by_cases h : a = b
  · simp [h]
  · simp [h]⟩
theorem kP_ok : KeyOk (.agg [.int, .int]) kP := ⟨fun a b => by
  simp only [keyEq, kP, eqCells_two]
  congr 1
  exact decide_eq_decide.2 ⟨fun h => Prod.ext h.1 h.2, fun h => by rw [h]; exact ⟨rfl, rfl⟩⟩⟩
theorem kS_ok : KeyOk (.one .string) kS := ⟨fun a b => by
  simp only [keyEq, kS, eqCells]
  by_cases h : a = b
  · subst h; simp [bytes_beq_self]
  · have : (a == b) = false := by
      obtain ⟨a⟩ := a; obtain ⟨b⟩ := b
      show (a == b) = false
      rw [beq_eq_false_iff_ne]
      exact fun e => h (by rw [e])
    simp [this, h]⟩
section
variable {K α : Type} [DecidableEq K] {kk : KK} {ke : K → Value} {key : α → K} {val : α → Value}
theorem key_find (ok : KeyOk kk ke) (a : K) : ∀ L : List α, keyFind kk (ke a) (L.map fun x => (ke (key x), val x)) = some ((L.find? fun x => decide (a = key x)).map val)
  | [] => rfl
  | x :: L => by
    simp only [List.map_cons, keyFind, ok.eq, List.find?_cons]
    by_cases h : a = key x
    · simp [h]
    · simp only [h, decide_false]
      exact key_find ok a L
theorem key_self (ok : KeyOk kk ke) (a : K) : keyEq kk (ke a) (ke a) = some true := by rw [ok.eq]; simp
theorem key_set (ok : KeyOk kk ke) (a : K) (v : Value) : ∀ L : List α, (∀ x ∈ L, a ≠ key x) → keySet kk (ke a) v (L.map fun x => (ke (key x), val x)) = (L.map fun x => (ke (key x), val x)) ++ [(ke a, v)]
  | [], _ => rfl
  | x :: L, h => by
    simp only [List.map_cons, keySet, ok.eq, decide_eq_false (h x (by simp)), List.cons_append]
    rw [key_set ok a v L fun y hy => h y (List.mem_cons_of_mem _ hy)]
theorem key_ix (ok : KeyOk kk ke) (a : K) : ∀ L : List α, (∀ x ∈ L, a ≠ key x) → keyIx kk (ke a) (L.map fun x => (ke (key x), val x)) = some L.length
  | [], _ => rfl
  | x :: L, h => by
    simp only [List.map_cons, keyIx, ok.eq, decide_eq_false (h x (by simp)), List.length_cons]
    rw [key_ix ok a L fun y hy => h y (List.mem_cons_of_mem _ hy)]
    rfl
variable {h : AH} {m : Nat} {L : List α}
theorem look_map (ok : KeyOk kk ke) (hm : h.get m = some (.map (L.map fun x => (ke (key x), val x)))) (z : Value) (a : K) :
    lookV kk z false h (.map (some m)) (ke a) = some (((L.find? fun x => decide (a = key x)).map val).getD z) := by
  simp only [lookV, hm, key_self ok, if_true, key_find ok]
  cases L.find? fun x => decide (a = key x) <;> rfl
theorem look_mapOk (ok : KeyOk kk ke) (hm : h.get m = some (.map (L.map fun x => (ke (key x), val x)))) (z : Value) (a : K) :
    lookV kk z true h (.map (some m)) (ke a) = some (.tuple (List.toArray [((L.find? fun x => decide (a = key x)).map val).getD z, .bool (L.find? fun x => decide (a = key x)).isSome])) := by
  simp only [lookV, hm, key_self ok, if_true, key_find ok]
  cases L.find? fun x => decide (a = key x) <;> rfl
theorem up_map (ok : KeyOk kk ke) (hm : h.get m = some (.map (L.map fun x => (ke (key x), val x)))) (lc : Lc) (x : α) (hv : okV (val x) = true) (hn : ∀ y ∈ L, key x ≠ key y) :
    upV kk lc h (.map (some m)) (ke (key x)) (val x) = some (undef, ⟨lc, h.set m (.map ((L ++ [x]).map fun x => (ke (key x), val x)))⟩) := by
  simp only [upV, hm, key_self ok, key_find ok, hv, and_self, if_true, key_set ok (key x) (val x) L hn, List.map_append, List.map_cons, List.map_nil]
theorem ent_map (ok : KeyOk kk ke) (hm : h.get m = some (.map (L.map fun x => (ke (key x), val x)))) (z : Value) (lc : Lc) (a : K) (hn : ∀ y ∈ L, a ≠ key y) :
    entV kk z lc h (.map (some m)) (ke a) = some (.tuple (List.toArray [z, .int .i64 L.length]), ⟨lc, h.set m (.map ((L.map fun x => (ke (key x), val x)) ++ [(ke a, z)]))⟩) := by
  simp only [entV, hm, key_self ok, key_ix ok a L hn, if_true]
  rw [List.getElem?_eq_none (by simp)]
  simp
theorem st_map {z : Value} (lc : Lc) (x : α) (hm : h.get m = some (.map ((L.map fun x => (ke (key x), val x)) ++ [(ke (key x), z)]))) (hv : okV (val x) = true) :
    stV lc h (.map (some m)) (.int .i64 L.length) (val x) = some (undef, ⟨lc, h.set m (.map ((L ++ [x]).map fun x => (ke (key x), val x)))⟩) := by
  simp only [stV, hm, Int.toNat_natCast]
  rw [List.getElem?_append_right (by simp)]
  simp [hv]
end
theorem scanL_find {α β : Type} {L : List α} {P : α → Prop} [DecidablePred P] {val : α → β} : (scanL L fun _ x => if P x then some (val x) else none) = (L.find? fun x => decide (P x)).map val := by
  cases h : L.find? fun x => decide (P x) with
  | none =>
    refine scan_end fun j hj => ?_
    rw [List.getElem?_eq_getElem hj]
    have := List.find?_eq_none.1 h _ (List.getElem_mem hj)
    exact if_neg (by simpa using this)
  | some x =>
    obtain ⟨hp, ps, bs, rfl, hn⟩ := List.find?_eq_some_iff_append.1 h
    refine scan_hit (i := ps.length) (fun j hj => ?_) (by simp) ?_
    · rw [List.getElem?_append_left hj, List.getElem?_eq_getElem hj]
      have := hn _ (List.getElem_mem hj)
      exact if_neg (by simpa using this)
    · rw [List.getElem?_append_right (Nat.le_refl _), Nat.sub_self]
      exact if_pos (of_decide_eq_true hp)
section
variable {p : Prg} {fr : Fr} {lc : Lc} {h : AH} {Q : Post}
theorem wp_scanJ {α β : Type} {a : LCode} {F : Int → Fr} (J : Nat → AH → Prop) (k : Nat) (l : List α) (g : Nat → α → Option β) (hF : ∀ n : Int, setF fr k (.int .i64 n) = F n) (h0 : fr = F 0) (hJ : J 0 h)
    (more : ∀ i (hi : i < l.length) h, J i h → (∀ w, g i l[i] = some w → scanL l g = some w) → Wp p a (F i) lc h (loopQ (fun fr' lc' h' => g i l[i] = none ∧ fr' = F ((i : Int) + 1) ∧ lc' = lc ∧ J (i + 1) h') Q))
    (fin : ∀ h, J l.length h → scanL l g = none → Wp p a (F l.length) lc h (loopQ (fun _ _ _ => False) Q)) : Wp p (.loop a) fr lc h Q := by
  refine wp_scanL l g (fun i fr lc' h => fr = F i ∧ lc' = lc ∧ J i h) ⟨h0, rfl, hJ⟩ ?_ ?_
  · rintro _ _ h ⟨rfl, rfl, hj⟩ fn
    exact fin h hj fn
  · rintro i hi _ _ h ⟨rfl, rfl, hj⟩ hit
    refine wp_mono (more i hi h hj hit) fun ex fr lc h hq => ?_
    have hq := hq.out
    cases ex with
    | norm => exact ⟨⟨hq.1, by rw [hq.2.1]; simp only [Int.natCast_add]; rfl, hq.2.2.1, hq.2.2.2⟩⟩
    | exit j => exact ⟨hq⟩
    | ret => exact ⟨hq⟩
end
section
variable {p : Prg} {fr : Fr} {lc : Lc} {h : AH} {Q : Post} {H : Value → Lc → AH → Prop}
theorem wo_next {b k i : Nat} {s : ByteArray} {l : Bytes} (hl : l = s.data.toList) (hg : lget lc b = some (.siter s (posn l i))) (hi : i < (spots l).length)
    (hq : H (.tuple (List.toArray [.bool true, .int .i64 (posn l i : Nat), .int .i32 ((spots l)[i]).1])) ((b, .siter s (posn l (i + 1))) :: lc) h) : WpO p (.e (.nxtS (.s 0))) [.pointer (some ⟨b, 0, some k⟩)] lc h H := by
  obtain ⟨p1, p2, p3⟩ := posn_lt hi
  have hz : l.length = s.size := by rw [hl]; rfl
  have hd : Utf8.decode s (posn l i) = (spots l)[i] := by rw [decode_list s _ (by omega), ← hl, p2]
  refine wo_next_more hg (by omega) ?_
  rw [hd, ← posn_succ hi]
  exact hq
theorem wo_nextE {b k : Nat} {s : ByteArray} {l : Bytes} (hl : l = s.data.toList) (hg : lget lc b = some (.siter s l.length)) (hq : H (.tuple (List.toArray [.bool false])) lc h) : WpO p (.e (.nxtS (.s 0))) [.pointer (some ⟨b, 0, some k⟩)] lc h H :=
  wo_next_end hg (by have hz : l.length = s.size := by rw [hl]; rfl
                     omega) hq
def setL : Lc → Nat → AObj → Lc
  | [], _, _ => []
  | (k, v) :: r, n, x => if k = n then (k, x) :: r else (k, v) :: setL r n x
attribute [push_cast] setL
theorem wp_spots {β : Type} {n : Nat} {keep : List Nat} {sts : List St} {b : LCode} {L : Nat → Lc} {F : Int → Fr} (k : Option Nat) (K : Nat) (s : ByteArray) (l : Bytes) (J : AH → Prop) (g : Nat → Nat × Nat → Option β) (hl : l = s.data.toList)
    (hF : ∀ m : Int, (match k with | some k => setF fr k (.int .i64 m) | none => fr) = F m) (hf0 : AgF (F 0) fr) (hk : ∀ m : Int, okS keep ((F m).map (·.1)) n sts = true) (hL : ∀ n, setL lc K (.siter s n) = L n) (h0 : lc = L 0) (hJ : J h)
    (more : ∀ i (hi : i < (spots l).length) h, J h → (∀ w, g i (spots l)[i] = some w → scanL (spots l) g = some w) →
      WpS p keep sts (F i) (L (posn l i)) h (thenQ p b (loopQ (fun fr' lc' h' => g i (spots l)[i] = none ∧ AgF (F ((i : Int) + 1)) fr' ∧ lc' = L (posn l (i + 1)) ∧ J h') Q) .norm))
    (fin : ∀ h, J h → scanL (spots l) g = none → WpS p keep sts (F (spots l).length) (L l.length) h (thenQ p b (loopQ (fun _ _ _ => False) Q) .norm)) : Wp p (.loop (.seq (R n keep sts) b)) fr lc h Q := by
  refine wp_scanL (spots l) g (fun i fr lc' h => AgF (F i) fr ∧ lc' = L (posn l i) ∧ J h) ⟨hf0, by rw [posn_zero]; exact h0, hJ⟩ ?_ ?_
  · rintro fr _ h ⟨ha, rfl, hj⟩ fn
    rw [posn_all]
    exact wp_seq (wp_RA ha (hk _) (fin h hj fn))
  · rintro i hi fr _ h ⟨ha, rfl, hj⟩ hit
    refine wp_mono (wp_seq (wp_RA ha (hk _) (more i hi h hj hit))) fun ex fr lc h hq => ?_
    have hq := hq.out
    cases ex with
    | norm => exact ⟨⟨hq.1, by rw [show ((i + 1 : Nat) : Int) = (i : Int) + 1 by omega]; exact hq.2.1, hq.2.2.1, hq.2.2.2⟩⟩
    | exit j => exact ⟨hq⟩
    | ret => exact ⟨hq⟩
theorem wp_loopB {n : Nat} {keep : List Nat} {sts : List St} {c b : LCode} (I : Nat → Fr → Lc → AH → Prop) (w : Nat) (f0 : Fr) (ha : AgF f0 fr) (h0 : I w f0 lc h) (hk : ∀ w f0 lc h, I w f0 lc h → okS keep (f0.map (·.1)) n sts = true)
    (step : ∀ w f0 lc h, I w f0 lc h → WpS p keep sts f0 lc h (thenQ p c (thenQ p b (loopQ (fun fr lc h => ∃ w', w' < w ∧ ∃ f1, AgF f1 fr ∧ I w' f1 lc h) Q)) .norm)) : Wp p (.loop (.seq (.seq (R n keep sts) c) b)) fr lc h Q := by
  refine wp_loop (fun w fr lc h => ∃ f0, AgF f0 fr ∧ I w f0 lc h) w ⟨f0, ha, h0⟩ ?_
  rintro w fr lc h ⟨f0, ha, hI⟩
  exact wp_seq (wp_seq (wp_RA ha (hk _ _ _ _ hI) (step w f0 lc h hI)))
end
end Go.Proofs.YtblmakgjdenpfaaDoor.AM
namespace Go.Proofs.YtblmakgjdenpfaaDoor.AM
open Go
def LF_tables_wrong : LFunc :=
  .mk 3 [.cell 6 (some 3)] (.seq (R 6 [0, 1, 2, 6] [.tmp 6 (xnl 6 [.int .i64 0, .int .i64 0, .int .i64 0])]) (.seq (R 7 [6] [.run (xst 3 (.sl 6) (.op (.p (.build [.int .i64 0, .int
  .i64 0, .int .i64 0] [(0, 1, .s 0), (1, 1, .s 1), (2, 1, .s 2)])) (.cons (.va 0) (.cons (.va 1) (.va 2)))))]) .ret))
theorem fn_tables_wrong : (autoPrg Tryd.prog).fn 85 = some LF_tables_wrong := by kernel_rfl
def LF_tables_name : LFunc :=
  .mk 1 [.tmp 2] (.seq (R 999 [0] [.set 2 (.cv (.bool false))]) (.seq (.seq (R 5 [0, 6] [.tmp 6 (.op (.e (.rngS 6 (.s 0))) (.va 0))]) (.block 0 (.loop (.seq (R 7 [0, 6, 7, 8] [.tmp
  7 (.op (.e (.nxtS (.s 0))) (.sl 6)), .tmp 8 (xex 0 (.sl 7))]) (.seq (.cond (.s 8) .skip (.exit 0)) (.block 1 (.seq (R 9 [0, 3, 4, 6] [.tmp 9 (xex 1 (.sl 7)), .tmp 10 (xex 2 (.sl
  7)), .set 3 (.sl 9), .set 4 (.sl 10)]) (.seq (R 11 [0, 6, 32] [.tmp 32 (.and (.or (xb .lss (.va 4) (xr 97)) (xb .gtr (.va 4) (xr 122))) (.or (xb .eql (.va 3) (xi 0)) (.and (xb
  .neq (.va 4) (xr 45)) (.or (xb .lss (.va 4) (xr 48)) (xb .gtr (.va 4) (xr 57))))))]) (.cond (.s 32) (.seq (R 999 [2] [.set 2 (.cv (.bool false))]) .ret) .skip))))))))) (.seq (R 33
  [2] [.set 2 (.and (xb .neq (.va 0) (.cv (.string ⟨#[]⟩))) (xb .leq (xsl (.va 0)) (xi 32)))]) .ret)))
theorem fn_tables_name : (autoPrg Tryd.prog).fn 86 = some LF_tables_name := by kernel_rfl
def LF_sets_Right : LFunc :=
  .mk 1 [.tmp 2, .tmp 3] (.seq (R 999 [0] [.set 2 (xi 0), .set 3 (xi 0)]) (.seq (.seq (R 7 [0, 7, 8, 9] [.tmp 7 (.va 0), .tmp 8 (xlen (.sl 7)), .set 9 (xi 0)]) (.block 0 (.loop
  (.seq (R 10 [0, 7, 8, 9, 10] [.tmp 10 (xb .lss (.sl 9) (.sl 8))]) (.seq (.cond (.s 10) .skip (.exit 0)) (.seq (.block 1 (.seq (R 11 [0, 4, 5, 7, 8, 9] [.tmp 11 (.va 9), .tmp 13
  (xln 2 (xia 2 (.sl 7) (.sl 9))), .at 5, .tmp 5 (xnl 5 [.int .i32 0, .int .i32 0]), .set 4 (.sl 11), .run (xst 2 (.sl 5) (.sl 13))]) (.seq (.seq (R 14 [0, 4, 5, 6, 7, 8, 9] [.set 6
  (xc1 124 (xln 2 (.sl 5)))]) (.seq (R 16 [0, 4, 5, 6, 7, 8, 9, 17] [.tmp 17 (xb .neq (.va 6) (xi 0))]) (.cond (.s 17) (.seq (R 18 [2, 3] [.tmp 18 (.va 4), .tmp 19 (.va
  6), .set 2 (.sl 18), .set 3 (.sl 19)]) .ret) .skip))) (.seq (R 20 [0, 4, 7, 8, 9, 32] [.tmp 32 (.and (xb .gtr (.va 4) (xi 0)) (xb .leq (xld (xfa 0 (.sl 5))) (xld (xfa 1 (xia 2
  (.va 0) (xb .sub (.va 4) (xi 1)))))))]) (.cond (.s 32) (.seq (R 33 [2, 3] [.set 2 (.va 4), .set 3 (xi 13)]) .ret) .skip))))) (R 34 [0, 7, 8, 9] [.set 9 (xb .add (.sl 9) (xi
  1))]))))))) (.seq (R 999 [2, 3] [.set 2 (xi 0), .set 3 (xi 0)]) .ret)))
theorem fn_sets_Right : (autoPrg Tryd.prog).fn 87 = some LF_sets_Right := by kernel_rfl
def LF_utf8_ValidRune : LFunc :=
  .mk 1 [.tmp 2] (.seq (R 999 [0] [.set 2 (.cv (.bool false))]) (.seq (.block 0 (.seq (R 4 [0, 3] [.set 3 (.and (xb .leq (xr 0) (.va 0)) (xb .lss (.va 0) (xr 55296)))]) (.cond (.s
  3) (.seq (R 999 [2] [.set 2 (.cv (.bool true))]) .ret) (.seq (R 11 [10] [.set 10 (.and (xb .lss (xr 57343) (.va 0)) (xb .leq (.va 0) (xr 1114111)))]) (.cond (.s 10) (.seq (R 999
  [2] [.set 2 (.cv (.bool true))]) .ret) .skip))))) (.seq (R 999 [2] [.set 2 (.cv (.bool false))]) .ret)))
theorem fn_utf8_ValidRune : (autoPrg Tryd.prog).fn 88 = some LF_utf8_ValidRune := by kernel_rfl
def LF_utf8_RuneCountInString : LFunc :=
  .mk 1 [.tmp 2] (.seq (R 999 [0, 2] [.set 2 (xi 0)]) (.seq (.seq (R 3 [2, 4] [.tmp 4 (.op (.e (.rngS 4 (.s 0))) (.va 0))]) (.block 0 (.loop (.seq (R 5 [2, 4, 6] [.tmp 6 (xex 0 (.op
  (.e (.nxtS (.s 0))) (.sl 4)))]) (.seq (.cond (.s 6) .skip (.exit 0)) (.block 1 (R 7 [2, 4] [.set 2 (xb .add (.va 2) (xi 1))]))))))) (.seq (R 9 [2] [.set 2 (.va 2)]) .ret)))
theorem fn_utf8_RuneCountInString : (autoPrg Tryd.prog).fn 89 = some LF_utf8_RuneCountInString := by kernel_rfl
def LF_utf8_ValidString : LFunc :=
  .mk 1 [.tmp 2] (.seq (R 999 [0] [.set 2 (.cv (.bool false))]) (.seq (.block 0 (.loop (.seq (.seq (R 7 [0, 9] [.tmp 9 (xb .gtr (xsl (.va 0)) (xi 0))]) (.cond (.s 9) .skip (.exit
  0))) (.block 1 (.seq (R 10 [0, 3] [.set 3 (xis (.va 0) (xi 0))]) (.seq (.seq (R 12 [0, 3, 13] [.tmp 13 (xb .lss (.va 3) (.cv (.int .u8 128)))]) (.cond (.s 13) (.seq (R 14 [0]
  [.set 0 (.op (.p (.slS (.s 0) (some (.s 1)) none)) (.cons (.va 0) (xi 1)))]) (.seq (.seq (R 16 [0, 24] [.tmp 24 (.and (xb .gtr (xsl (.va 0)) (xi 8)) (xb .eql (xb .and (xc1
  125 (.va 0)) (.cv (.int .u64 9259542123273814144))) (.cv (.int .u64 0))))]) (.cond (.s 24) (.seq (R 25 [0] [.set 0 (.op (.p (.slS (.s 0) (some (.s 1)) none))
  (.cons (.va 0) (xi 8)))]) (.seq (R 27 [0, 39] [.tmp 39 (.and (xb .gtr (xsl (.va 0)) (xi 16)) (xb .eql (xb .and (xb .or (xc1 125 (.va 0)) (xc1
  125 (.op (.p (.slS (.s 0) (some (.s 1)) none)) (.cons (.va 0) (xi 8))))) (.cv (.int .u64 9259542123273814144))) (.cv (.int .u64 0))))]) (.cond (.s 39) (.seq (R
  40 [0] [.set 0 (.op (.p (.slS (.s 0) (some (.s 1)) none)) (.cons (.va 0) (xi 16)))]) (.block 2 (.loop (.seq (.seq (R 42 [0, 62] [.tmp 62 (.and (xb .gtr (xsl (.va 0)) (xi 32)) (xb
  .eql (xb .and (xb .or (xb .or (xc1 125 (.va 0)) (xc1 125 (.op (.p (.slS (.s 0) (some (.s 1)) none)) (.cons (.va 0) (xi 8))))) (xb .or (xc1
  125 (.op (.p (.slS (.s 0) (some (.s 1)) none)) (.cons (.va 0) (xi 16)))) (xc1 125 (.op (.p (.slS (.s 0) (some (.s 1)) none)) (.cons (.va 0) (xi
  24)))))) (.cv (.int .u64 9259542123273814144))) (.cv (.int .u64 0))))]) (.cond (.s 62) .skip (.exit 2))) (.block 3 (R 63 [0] [.set 0 (.op (.p (.slS (.s 0) (some (.s 1)) none))
  (.cons (.va 0) (xi 32)))])))))) .skip))) .skip)) (.exit 1))) .skip)) (.seq (R 65 [0, 4] [.set 4 (xld (.op (.p (.iaddrA 256 1 (.s 0) (.s 1))) (.cons (.cv (.pointer (some (.mk 0 0 none)))) (.va 3))))]) (.seq (R 68 [0, 4, 5] [.set 5 (xcn .i64 (xb .and (.va 4) (.cv (.int .u8 7))))]) (.seq (R 71 [0, 5, 6] [.tmp 74 (xln 2 (.op (.p (.iaddrA 16 2 (.s 0) (.s 1)))
  (.cons (.cv (.pointer (some (.mk 1 0 none)))) (xb .shr (.va 4) (.cv (.int .u64 4)))))), .at 6, .tmp 6 (xnl 6 [.int .u8 0, .int .u8 0]), .run (xst 2 (.sl 6) (.sl 74))]) (.seq (R 75
  [0, 6, 75] [.tmp 75 (.va 5)]) (.block 4 (.seq (R 77 [0, 6, 75, 76] [.set 76 (xb .eql (.sl 75) (xi 2))]) (.cond (.s 76) (.seq (.seq (R 78 [0, 94] [.tmp 94 (.or (.or (xb .lss (xsl
  (.va 0)) (xi 2)) (xb .lss (xis (.va 0) (xi 1)) (xld (xfa 0 (.sl 6))))) (xb .lss (xld (xfa 1 (.sl 6))) (xis (.va 0) (xi 1))))]) (.cond (.s 94) (.seq (R 999 [2] [.set 2 (.cv (.bool
  false))]) .ret) .skip)) (R 95 [0] [.set 0 (.op (.p (.slS (.s 0) (some (.s 1)) none)) (.cons (.va 0) (xi 2)))])) (.seq (R 98 [0, 6, 75, 97] [.set 97 (xb .eql (.sl 75) (xi 3))])
  (.cond (.s 97) (.seq (.seq (R 99 [0, 125] [.tmp 125 (.or (.or (.or (.or (xb .lss (xsl (.va 0)) (xi 3)) (xb .lss (xis (.va 0) (xi 1)) (xld (xfa 0 (.sl 6))))) (xb .lss (xld (xfa 1
  (.sl 6))) (xis (.va 0) (xi 1)))) (xb .lss (xis (.va 0) (xi 2)) (.cv (.int .u8 128)))) (xb .lss (.cv (.int .u8 191)) (xis (.va 0) (xi 2))))]) (.cond (.s 125) (.seq (R 999 [2] [.set
  2 (.cv (.bool false))]) .ret) .skip)) (R 126 [0] [.set 0 (.op (.p (.slS (.s 0) (some (.s 1)) none)) (.cons (.va 0) (xi 3)))])) (.seq (R 129 [0, 6, 128] [.set 128 (xb .eql (.sl 75)
  (xi 4))]) (.cond (.s 128) (.seq (.seq (R 130 [0, 166] [.tmp 166 (.or (.or (.or (.or (.or (.or (xb .lss (xsl (.va 0)) (xi 4)) (xb .lss (xis (.va 0) (xi 1)) (xld (xfa 0 (.sl 6)))))
  (xb .lss (xld (xfa 1 (.sl 6))) (xis (.va 0) (xi 1)))) (xb .lss (xis (.va 0) (xi 2)) (.cv (.int .u8 128)))) (xb .lss (.cv (.int .u8 191)) (xis (.va 0) (xi 2)))) (xb .lss (xis (.va
  0) (xi 3)) (.cv (.int .u8 128)))) (xb .lss (.cv (.int .u8 191)) (xis (.va 0) (xi 3))))]) (.cond (.s 166) (.seq (R 999 [2] [.set 2 (.cv (.bool false))]) .ret) .skip)) (R 167 [0]
  [.set 0 (.op (.p (.slS (.s 0) (some (.s 1)) none)) (.cons (.va 0) (xi 4)))])) (.seq (R 999 [2] [.set 2 (.cv (.bool false))]) .ret)))))))))))))))))) (.seq (R 999 [2] [.set 2 (.cv
  (.bool true))]) .ret)))
theorem fn_utf8_ValidString : (autoPrg Tryd.prog).fn 90 = some LF_utf8_ValidString := by kernel_rfl
def LF_tables_of : LFunc :=
  .mk 2 [.tmp 4] (.seq (R 999 [0, 1] [.set 4 (.cv (.bool false))]) (.seq (.seq (R 7 [0, 1, 9] [.tmp 9 (xu .not (xc1 88 (.va 0)))]) (.cond (.s 9) (.seq (R 999 [4]
  [.set 4 (.cv (.bool false))]) .ret) .skip)) (.seq (R 11 [0, 1, 5, 6] [.set 10 (xc3 126 (.va 1) (.va 0) (.cv (.func (.func
  127) (Array.mk []) (Array.mk [])))), .tmp 14 (xex 0 (.sl 10)), .tmp 15 (xex 1 (.sl 10)), .set 5 (.sl 14), .set 6 (.sl 15)]) (.seq (R 16 [4] [.set 4 (.or (.va 6) (.and
  (xb .gtr (.va 5) (xi 0)) (xb .leq (.va 0) (xld (xfa 1 (xia 2 (.va 1) (xb .sub (.va 5) (xi 1))))))))]) .ret))))
theorem fn_tables_of : (autoPrg Tryd.prog).fn 92 = some LF_tables_of := by kernel_rfl
def LF_tables_low : LFunc :=
  .mk 1 [.tmp 2] (.seq (R 999 [0] [.set 2 (.cv (.bool false))]) (.seq (R 3 [2] [.set 2 (.or (xb .lss (.va 0) (xr 128)) (xb .eql (.va 0) (xr 65533)))]) .ret))
theorem fn_tables_low : (autoPrg Tryd.prog).fn 94 = some LF_tables_low := by kernel_rfl
def LF_strings_ContainsFunc : LFunc :=
  .mk 2 [.tmp 4] (.seq (R 999 [0, 1] [.set 4 (.cv (.bool false))]) (.seq (R 5 [4] [.set 4 (xb .geq (xc2 128 (.va 0) (.va 1)) (xi 0))]) .ret))
theorem fn_strings_ContainsFunc : (autoPrg Tryd.prog).fn 95 = some LF_strings_ContainsFunc := by kernel_rfl
def LF_tables_fixed : LFunc :=
  .mk 1 [.tmp 2] (.seq (R 999 [0] [.set 2 (.cv (.bool false))]) (.seq (R 3 [2] [.set 2 (.or (.or (.or (xb .lss (.va 0) (xr 32)) (xb .eql (.va 0) (xr 45))) (xb .eql (.va 0) (xr 46)))
  (xb .eql (.va 0) (xr 65533)))]) .ret))
theorem fn_tables_fixed : (autoPrg Tryd.prog).fn 96 = some LF_tables_fixed := by kernel_rfl
def LF_strings_ContainsRune : LFunc :=
  .mk 2 [.tmp 4] (.seq (R 999 [0, 1] [.set 4 (.cv (.bool false))]) (.seq (R 5 [4] [.set 4 (xb .geq (xc2 129 (.va 0) (.va 1)) (xi 0))]) .ret))
theorem fn_strings_ContainsRune : (autoPrg Tryd.prog).fn 97 = some LF_strings_ContainsRune := by kernel_rfl
def LF_sets_wrong : LFunc :=
  .mk 1 [.tmp 2] (.seq (R 1 [1] [.tmp 1 (xbl 1 2 (.sl 0)), .set 2 (xi 0)]) (.seq (.block 0 (.seq (R 4 [1, 3] [.set 3 (.or (xu .not (xc1 88 (xld (xfa 0 (.sl 1)))))
  (xu .not (xc1 88 (xld (xfa 1 (.sl 1))))))]) (.cond (.s 3) (.seq (R 999 [2] [.set 2 (xi 12)]) .ret) (.seq (R 15 [14] [.set 14 (xb .gtr (xld (xfa 0 (.sl 1))) (xld
  (xfa 1 (.sl 1))))]) (.cond (.s 14) (.seq (R 999 [2] [.set 2 (xi 11)]) .ret) .skip))))) (.seq (R 999 [2] [.set 2 (xi 0)]) .ret)))
theorem fn_sets_wrong : (autoPrg Tryd.prog).fn 124 = some LF_sets_wrong := by kernel_rfl
def LF_utf8_word_string : LFunc :=
  .mk 1 [.tmp 2] (.seq (R 999 [0] [.set 2 (.cv (.int .u64 0))]) (.seq (.cond (.c (.bool false)) (.seq (R 3 [2] [.set 2 (xb .or (xb .or (xb .or (xcn .u64 (xis (.va 0) (xi 0))) (xb
  .shl (xcn .u64 (xis (.va 0) (xi 1))) (.cv (.int .u64 8)))) (xb .shl (xcn .u64 (xis (.va 0) (xi 2))) (.cv (.int .u64 16)))) (xb .shl (xcn .u64 (xis (.va 0) (xi 3))) (.cv (.int .u64
  24))))]) .ret) .skip) (.seq (R 21 [2] [.set 2 (xb .or (xb .or (xb .or (xb .or (xb .or (xb .or (xb .or (xcn .u64 (xis (.va 0) (xi 0))) (xb .shl (xcn .u64 (xis (.va 0) (xi 1))) (.cv
  (.int .u64 8)))) (xb .shl (xcn .u64 (xis (.va 0) (xi 2))) (.cv (.int .u64 16)))) (xb .shl (xcn .u64 (xis (.va 0) (xi 3))) (.cv (.int .u64 24)))) (xb .shl (xcn .u64 (xis (.va 0)
  (xi 4))) (.cv (.int .u64 32)))) (xb .shl (xcn .u64 (xis (.va 0) (xi 5))) (.cv (.int .u64 40)))) (xb .shl (xcn .u64 (xis (.va 0) (xi 6))) (.cv (.int .u64 48)))) (xb .shl (xcn .u64
  (xis (.va 0) (xi 7))) (.cv (.int .u64 56))))]) .ret)))
theorem fn_utf8_word_string : (autoPrg Tryd.prog).fn 125 = some LF_utf8_word_string := by kernel_rfl
def LF_slices_BinarySearchFunc_api_Span_api_Span_rune : LFunc :=
  .mk 3 [.tmp 6, .tmp 7] (.seq (R 999 [0, 1, 2] [.set 6 (xi 0), .set 7 (.cv (.bool false))]) (.seq (R 12 [0, 1, 2, 8] [.set 8 (xlen (.va 0))]) (.seq (R 14 [0, 1, 2, 8, 9, 10] [.tmp
  14 (.va 8), .set 9 (xi 0), .set 10 (.sl 14)]) (.seq (.block 0 (.loop (.seq (.seq (R 15 [0, 1, 2, 8, 9, 10, 17] [.tmp 17 (xb .lss (.va 9) (.va 10))]) (.cond (.s 17) .skip (.exit
  0))) (.block 1 (.seq (R 18 [0, 1, 2, 8, 9, 10, 11] [.set 11 (xcn .i64 (xb .shr (xcn .u64 (xb .add (.va 9) (.va 10))) (.cv (.int .u64 1))))]) (.seq (R 24 [0, 1, 2, 8, 9, 10, 11,
  31] [.tmp 31 (xb .lss (xv2 (.va 2) (xln 2 (xia 2 (.va 0) (.va 11))) (.va 1)) (xi 0))]) (.cond (.s 31) (R 32 [0, 1, 2, 8, 9, 10] [.set 9 (xb .add (.va 11) (xi 1))]) (R 34 [0, 1, 2,
  8, 9, 10] [.set 10 (.va 11)])))))))) (.seq (R 35 [6, 7] [.tmp 35 (.va 9), .tmp 48 (.and (xb .lss (.va 9) (.va 8)) (xb .eql (xv2 (.va 2) (xln 2 (xia 2 (.va 0) (.va 9))) (.va 1))
  (xi 0))), .set 6 (.sl 35), .set 7 (.sl 48)]) .ret)))))
theorem fn_slices_BinarySearchFunc_api_Span_api_Span_rune : (autoPrg Tryd.prog).fn 126 = some LF_slices_BinarySearchFunc_api_Span_api_Span_rune := by kernel_rfl
def LF_tables_of_1 : LFunc :=
  .mk 2 [.tmp 4] (.seq (R 2 [1, 2] [.tmp 2 (xbl 2 2 (.sl 0)), .set 4 (xi 0)]) (.seq (R 5 [4] [.set 4 (xcn .i64 (xb .sub (xld (xfa 0 (.sl 2))) (.va 1)))]) .ret))
theorem fn_tables_of_1 : (autoPrg Tryd.prog).fn 127 = some LF_tables_of_1 := by kernel_rfl
def LF_strings_IndexFunc : LFunc :=
  .mk 2 [.tmp 4] (.seq (R 999 [0, 1] [.set 4 (xi 0)]) (.seq (R 5 [4] [.set 4 (xc3 136 (.va 0) (.va 1) (.cv (.bool true)))]) .ret))
theorem fn_strings_IndexFunc : (autoPrg Tryd.prog).fn 128 = some LF_strings_IndexFunc := by kernel_rfl
def LF_strings_IndexRune : LFunc :=
  .mk 2 [.tmp 4] (.seq (R 999 [0, 1, 4] [.set 4 (xi 0)]) (.block 0 (.seq (R 161 [0, 1, 4, 160] [.set 160 (.and (xb .leq (xr 0) (.va 1)) (xb .lss (.va 1) (xr 128)))]) (.cond (.s 160)
  (.seq (R 167 [4] [.set 4 (xc2 137 (.va 0) (xcn .u8 (.va 1)))]) .ret) (.seq (R 172 [0, 1, 4, 171] [.set 171 (xb .eql (.va 1) (xr 65533))]) (.cond (.s 171) (.seq
  (.seq (R 174 [175] [.tmp 175 (.op (.e (.rngS 175 (.s 0))) (.va 0))]) (.block 9 (.loop (.seq (R 176 [175, 176, 177] [.tmp 176 (.op (.e (.nxtS (.s 0))) (.sl 175)), .tmp 177 (xex 0
  (.sl 176))]) (.seq (.cond (.s 177) .skip (.exit 9)) (.block 10 (.seq (R 178 [5, 6, 175] [.tmp 178 (xex 1 (.sl 176)), .tmp 179 (xex 2 (.sl 176)), .set 5 (.sl 178), .set 6 (.sl
  179)]) (.seq (R 180 [5, 175, 181] [.tmp 181 (xb .eql (.va 6) (xr 65533))]) (.cond (.s 181) (.seq (R 182 [4] [.set 4 (.va 5)]) .ret) .skip))))))))) (.seq (R 999 [4] [.set 4 (xi
  (-1))]) .ret)) (.seq (R 184 [4, 183] [.set 183 (xu .not (xc1 88 (.va 1)))]) (.cond (.s 183) (.seq (R 999 [4] [.set 4 (xi (-1))]) .ret) (.seq .bad (.seq .bad (.seq .bad
  (.seq .bad (.seq (.block 1 (.loop (.seq (.seq .bad (.cond (.s 26) .skip (.exit 1))) (.block 2 (.seq (.seq .bad (.cond (.s 33) (.seq .bad (.seq (.seq .bad (.cond (.s 43) (.seq .bad
  .ret) .skip)) .bad)) .skip)) (.seq (.seq .bad (.block 3 (.loop (.seq (.seq .bad (.cond (.s 51) .skip (.exit 3))) (.seq (.block 4 (.seq .bad (.cond (.s 64) .bad .skip))) .bad)))))
  (.seq (.seq .bad .ret) (.seq .skip (.seq .bad (.seq .bad (.seq .bad (.cond (.s 98) .bad .skip)))))))))))) (.seq (.seq .bad .ret) (.seq .skip (.seq (.cond (.c (.bool true)) (.seq
  .bad (.seq .bad (.cond (.s 108) (.seq .bad .ret) .skip))) (.seq .bad (.seq .bad (.seq .skip (.block 5 (.loop (.seq (.seq .bad (.cond (.s 124) .skip (.exit 5))) (.seq (.block 6
  (.seq .bad (.cond (.s 139) (.seq (.seq .bad (.block 7 (.loop (.seq (.seq .bad (.cond (.s 143) .skip (.exit 7))) (.seq (.block 8 (.seq .bad (.cond (.s 156) (.exit 6) .skip)))
  .bad))))) (.seq .bad .ret)) .skip))) .bad)))))))) (.seq .bad .ret)))))))))))))))))
theorem fn_strings_IndexRune : (autoPrg Tryd.prog).fn 129 = some LF_strings_IndexRune := by kernel_rfl
def LF_strings_indexFunc : LFunc :=
  .mk 3 [.tmp 6] (.seq (R 999 [0, 1, 2] [.set 6 (xi 0)]) (.seq (.seq (R 9 [1, 2, 10] [.tmp 10 (.op (.e (.rngS 10 (.s 0))) (.va 0))]) (.block 0 (.loop (.seq (R 11 [1, 2, 10, 11, 12]
  [.tmp 11 (.op (.e (.nxtS (.s 0))) (.sl 10)), .tmp 12 (xex 0 (.sl 11))]) (.seq (.cond (.s 12) .skip (.exit 0)) (.block 1 (.seq (R 13 [1, 2, 7, 8, 10] [.tmp 13 (xex 1 (.sl 11)),
  .tmp 14 (xex 2 (.sl 11)), .set 7 (.sl 13), .set 8 (.sl 14)]) (.seq (R 15 [1, 2, 7, 10, 19] [.tmp 19 (.op (.p (.eqk false .bool (.s 0) (.s 1))) (.cons (xv1 (.va 1) (.va 8)) (.va
  2)))]) (.cond (.s 19) (.seq (R 20 [6] [.set 6 (.va 7)]) .ret) .skip))))))))) (.seq (R 999 [6] [.set 6 (xi (-1))]) .ret)))
theorem fn_strings_indexFunc : (autoPrg Tryd.prog).fn 136 = some LF_strings_indexFunc := by kernel_rfl
def LF_strings_IndexByte : LFunc :=
  .mk 2 [.tmp 4] (.seq (R 999 [0, 1] [.set 4 (xi 0)]) (.seq (R 5 [4] [.set 4 (xc2 141 (.va 0) (.va 1))]) .ret))
theorem fn_strings_IndexByte : (autoPrg Tryd.prog).fn 137 = some LF_strings_IndexByte := by kernel_rfl
def LF_internal_stringslite_IndexByte : LFunc :=
  .mk 2 [.tmp 4] (.seq (R 999 [0, 1] [.set 4 (xi 0)]) (.seq (R 5 [4] [.set 4 (.op (.p (.idxB (.s 0) (.s 1))) (.cons (.va 0) (.va 1)))]) .ret))
theorem fn_internal_stringslite_IndexByte : (autoPrg Tryd.prog).fn 141 = some LF_internal_stringslite_IndexByte := by kernel_rfl
end Go.Proofs.YtblmakgjdenpfaaDoor.AM
namespace Go.Proofs.YtblmakgjdenpfaaDoor.AM
open Go
def LF_guiseref6_Rune : LFunc :=
  .mk 1 [.tmp 2] (.seq (R 999 [0] [.set 2 (.cv (.bool false))]) (.seq (R 3 [2] [.set 2 (.and (.and (xb .geq (.va 0) (xr 0)) (xb .leq (.va 0) (xr 1114111))) (.or (xb .lss (.va 0) (xr
  55296)) (xb .gtr (.va 0) (xr 57343))))]) .ret))
theorem fn_guiseref6_Rune : (autoPrg Tryd.prog).fn 74 = some LF_guiseref6_Rune := by kernel_rfl
def LF_guiseref6_Of : LFunc :=
  .mk 2 [.tmp 4] (.seq (R 999 [0, 1] [.set 4 (.cv (.bool false))]) (.seq (.seq (R 999 [0, 1, 5] [.set 5 (xi 0)]) (.block 0 (.loop (.seq (.seq (R 6 [0, 1, 5, 9] [.tmp 9 (xb .lss (.va
  5) (xlen (.va 1)))]) (.cond (.s 9) .skip (.exit 0))) (.seq (.block 1 (.seq (R 12 [0, 1, 5, 31] [.tmp 31 (.and (.and (xc1 74 (.va 0)) (xb .leq (xld (xfa 0 (xia 2
  (.va 1) (.va 5)))) (.va 0))) (xb .leq (.va 0) (xld (xfa 1 (xia 2 (.va 1) (.va 5))))))]) (.cond (.s 31) (.seq (R 999 [4] [.set 4 (.cv (.bool true))]) .ret) .skip))) (R 10 [0, 1, 5]
  [.set 5 (xb .add (.va 5) (xi 1))])))))) (.seq (R 999 [4] [.set 4 (.cv (.bool false))]) .ret)))
theorem fn_guiseref6_Of : (autoPrg Tryd.prog).fn 36 = some LF_guiseref6_Of := by kernel_rfl
def LF_guiseref6_ScriptName : LFunc :=
  .mk 1 [.tmp 2] (.seq (R 999 [0] [.set 2 (.cv (.bool false))]) (.seq (.seq (R 999 [0, 3] [.set 3 (xi 0)]) (.block 0 (.loop (.seq (.seq (R 5 [0, 3, 8] [.tmp 8 (xb .lss (.va 3) (xsl
  (.va 0)))]) (.cond (.s 8) .skip (.exit 0))) (.seq (.block 1 (.seq (R 11 [0, 3, 4] [.set 4 (.and (xb .geq (xis (.va 0) (.va 3)) (.cv (.int .u8 97))) (xb .leq (xis (.va 0) (.va 3))
  (.cv (.int .u8 122))))]) (.seq (R 21 [0, 3, 44] [.tmp 44 (.and (xu .not (.va 4)) (.or (xb .eql (.va 3) (xi 0)) (.and (xb .neq (xis (.va 0) (.va 3)) (.cv (.int .u8 45))) (.or (xb
  .lss (xis (.va 0) (.va 3)) (.cv (.int .u8 48))) (xb .gtr (xis (.va 0) (.va 3)) (.cv (.int .u8 57)))))))]) (.cond (.s 44) (.seq (R 999 [2] [.set 2 (.cv (.bool false))]) .ret)
  .skip)))) (R 9 [0, 3] [.set 3 (xb .add (.va 3) (xi 1))])))))) (.seq (R 45 [2] [.set 2 (.and (xb .geq (xsl (.va 0)) (xi 1)) (xb .leq (xsl (.va 0)) (xi 32)))]) .ret)))
theorem fn_guiseref6_ScriptName : (autoPrg Tryd.prog).fn 130 = some LF_guiseref6_ScriptName := by kernel_rfl
def LF_guiseref6_mark : LFunc :=
  .mk 2 [.tmp 4] (.seq (R 2 [1, 2] [.tmp 2 (xbl 2 8 (.sl 0)), .set 4 (.cv (.bool false))]) (.seq (.seq (R 999 [1, 2, 5] [.set 5 (xi 0)]) (.block 0 (.loop (.seq (.seq (R 6 [1, 2, 5,
  10] [.tmp 10 (xb .lss (.va 5) (xlen (xld (xfa 2 (.sl 2)))))]) (.cond (.s 10) .skip (.exit 0))) (.seq (.block 1 (.seq (R 13 [1, 2, 5, 20] [.tmp 20 (xb .eql (xld (xfa 0 (xia 2 (xld
  (xfa 2 (.sl 2))) (.va 5)))) (.va 1))]) (.cond (.s 20) (.seq (R 999 [4] [.set 4 (.cv (.bool true))]) .ret) .skip))) (R 11 [1, 2, 5] [.set 5 (xb .add (.va 5) (xi 1))])))))) (.seq (R
  999 [4] [.set 4 (.cv (.bool false))]) .ret)))
theorem fn_guiseref6_mark : (autoPrg Tryd.prog).fn 112 = some LF_guiseref6_mark := by kernel_rfl
def LF_guiseref6_Whole : LFunc :=
  .mk 2 [.tmp 4] (.seq (R 2 [1, 2] [.tmp 2 (xbl 2 8 (.sl 0)), .set 4 (xi 0)]) (.seq (.seq (R 999 [1, 2, 5] [.set 5 (xi 0)]) (.block 0 (.loop (.seq (.seq (R 6 [1, 2, 5, 10] [.tmp 10
  (xb .lss (.va 5) (xlen (xld (xfa 3 (.sl 2)))))]) (.cond (.s 10) .skip (.exit 0))) (.seq (.block 1 (.seq (R 13 [1, 2, 5, 20] [.tmp 20 (xb .eql (xld (xfa 0 (xia 3 (xld (xfa 3 (.sl
  2))) (.va 5)))) (.va 1))]) (.cond (.s 20) (.seq (R 21 [4] [.set 4 (.va 5)]) .ret) .skip))) (R 11 [1, 2, 5] [.set 5 (xb .add (.va 5) (xi 1))])))))) (.seq (R 999 [4] [.set 4 (xi
  (-1))]) .ret)))
theorem fn_guiseref6_Whole : (autoPrg Tryd.prog).fn 114 = some LF_guiseref6_Whole := by kernel_rfl
def LF_guiseref6_From : LFunc :=
  .mk 2 [.tmp 4] (.seq (R 999 [0, 1] [.set 4 (xi 0)]) (.seq (.seq (R 999 [0, 1, 5] [.set 5 (xi 0)]) (.block 0 (.loop (.seq (.seq (R 6 [0, 1, 5, 9] [.tmp 9 (xb .lss (.va 5) (xlen
  (.va 0)))]) (.cond (.s 9) .skip (.exit 0))) (.seq (.block 1 (.seq (R 12 [0, 1, 5, 18] [.tmp 18 (xb .eql (xld (xfa 0 (xia 2 (.va 0) (.va 5)))) (.va 1))]) (.cond (.s 18) (.seq (R 19
  [4] [.set 4 (.va 5)]) .ret) .skip))) (R 10 [0, 1, 5] [.set 5 (xb .add (.va 5) (xi 1))])))))) (.seq (R 999 [4] [.set 4 (xi (-1))]) .ret)))
theorem fn_guiseref6_From : (autoPrg Tryd.prog).fn 111 = some LF_guiseref6_From := by kernel_rfl
def LF_guiseref6_Plain : LFunc :=
  .mk 2 [.tmp 4] (.seq (R 2 [1, 2] [.tmp 2 (xbl 2 8 (.sl 0)), .set 4 (.cv (.bool false))]) (.seq (R 5 [4] [.set 4 (.and (.and (.and (.and (xc1 74 (.va 1)) (xu .not
  (xc2 112 (xln 8 (.sl 2)) (.va 1)))) (xb .lss (xc2 114 (xln 8 (.sl 2)) (.va 1)) (xi 0))) (xu .not (xc2 36 (.va 1) (xld (xfa 6 (.sl
  2)))))) (xb .lss (xc2 111 (xld (xfa 4 (.sl 2))) (.va 1)) (xi 0)))]) .ret))
theorem fn_guiseref6_Plain : (autoPrg Tryd.prog).fn 116 = some LF_guiseref6_Plain := by kernel_rfl
def LF_guiseref6_span : LFunc :=
  .mk 2 [.tmp 4] (.seq (R 999 [0, 1] [.set 4 (xi 0)]) (.seq (.seq (R 5 [0, 1, 20] [.tmp 20 (.or (xu .not (xc1 74 (xld (xfa 0 (xia 2 (.va 0) (.va 1)))))) (xu .not
  (xc1 74 (xld (xfa 1 (xia 2 (.va 0) (.va 1)))))))]) (.cond (.s 20) (.seq (R 999 [4] [.set 4 (xi 12)]) .ret) .skip)) (.seq (.seq (R 21 [0, 1, 31] [.tmp 31 (xb .gtr
  (xld (xfa 0 (xia 2 (.va 0) (.va 1)))) (xld (xfa 1 (xia 2 (.va 0) (.va 1)))))]) (.cond (.s 31) (.seq (R 999 [4] [.set 4 (xi 11)]) .ret) .skip)) (.seq (.seq (R 32 [47] [.tmp 47
  (.and (xb .gtr (.va 1) (xi 0)) (xb .leq (xld (xfa 0 (xia 2 (.va 0) (.va 1)))) (xld (xfa 1 (xia 2 (.va 0) (xb .sub (.va 1) (xi 1)))))))]) (.cond (.s 47) (.seq (R 999 [4] [.set 4
  (xi 13)]) .ret) .skip)) (.seq (R 999 [4] [.set 4 (xi 0)]) .ret)))))
theorem fn_guiseref6_span : (autoPrg Tryd.prog).fn 131 = some LF_guiseref6_span := by kernel_rfl
def LF_guiseref6_spans : LFunc :=
  .mk 2 [.cell 4 (some 3)] (.seq (R 4 [0, 1, 4] [.tmp 4 (xnl 4 [.int .i64 0, .int .i64 0, .int .i64 0])]) (.seq (.seq (R 999 [0, 1, 4, 5] [.set 5 (xi 0)]) (.block 0 (.loop (.seq
  (.seq (R 7 [0, 1, 4, 5, 10] [.tmp 10 (xb .lss (.va 5) (xlen (.va 0)))]) (.cond (.s 10) .skip (.exit 0))) (.seq (.block 1 (.seq (R 13 [0, 1, 4, 5, 6] [.set 6 (xc2
  131 (.va 0) (.va 5))]) (.seq (R 16 [0, 1, 4, 5, 6, 17] [.tmp 17 (xb .neq (.va 6) (xi 0))]) (.cond (.s 17) (.seq (R 18 [4] [.run (xst 3 (.sl 4) (.op (.p (.build
  [.int .i64 0, .int .i64 0, .int .i64 0] [(0, 1, .s 0), (1, 1, .s 1), (2, 1, .s 2)])) (.cons (.va 6) (.cons (.va 1) (.va 5)))))]) .ret) .skip)))) (R 11 [0, 1, 4, 5] [.set 5 (xb
  .add (.va 5) (xi 1))])))))) (.seq (R 22 [4] [.run (xst 3 (.sl 4) (.op (.p (.build [.int .i64 0, .int .i64 0, .int .i64 0] [])) .nil))]) .ret)))
theorem fn_guiseref6_spans : (autoPrg Tryd.prog).fn 109 = some LF_guiseref6_spans := by kernel_rfl
def LF_guiseref6_script : LFunc :=
  .mk 1 [.tmp 2] (.seq (R 1 [1] [.tmp 1 (xbl 1 2 (.sl 0)), .set 2 (xi 0)]) (.seq (.seq (R 4 [1, 7] [.tmp 7 (xu .not (xc1 130 (xld (xfa 0 (.sl 1)))))]) (.cond
  (.s 7) (.seq (R 999 [2] [.set 2 (xi 38)]) .ret) .skip)) (.seq (R 8 [3] [.tmp 10 (xc2 109 (xld (xfa 1 (.sl 1))) (xi 1)), .at 3, .tmp 3 (xnl 3 [.int .i64 0, .int
  .i64 0, .int .i64 0]), .run (xst 3 (.sl 3) (.sl 10))]) (.seq (R 11 [2] [.set 2 (xld (xfa 0 (.sl 3)))]) .ret))))
theorem fn_guiseref6_script : (autoPrg Tryd.prog).fn 108 = some LF_guiseref6_script := by kernel_rfl
def LF_guiseref6_maps : LFunc :=
  .mk 2 [.cell 4 (some 3)] (.seq (R 4 [0, 1, 4] [.tmp 4 (xnl 4 [.int .i64 0, .int .i64 0, .int .i64 0])]) (.seq (.seq (R 999 [0, 1, 4, 5] [.set 5 (xi 0)]) (.block 0 (.loop (.seq
  (.seq (R 8 [0, 1, 4, 5, 11] [.tmp 11 (xb .lss (.va 5) (xlen (.va 0)))]) (.cond (.s 11) .skip (.exit 0))) (.seq (.block 1 (.seq (.seq (R 14 [0, 1, 4, 5, 20] [.tmp 20 (xu .not (xc1
  74 (xld (xfa 0 (xia 2 (.va 0) (.va 5))))))]) (.cond (.s 20) (.seq (R 21 [4] [.run (xst 3 (.sl 4) (.op (.p (.build [.int .i64 0, .int .i64 0, .int .i64 0] [(0, 1,
  .s 0), (1, 1, .s 1), (2, 1, .s 2)])) (.cons (xi 12) (.cons (.va 1) (.va 5)))))]) .ret) .skip)) (.seq (R 25 [0, 1, 4, 5, 6, 7] [.set 24 (xc1 115 (xld (xfa 1 (xia 2
  (.va 0) (.va 5))))), .tmp 31 (xex 0 (.sl 24)), .tmp 32 (xex 1 (.sl 24)), .set 6 (.sl 31), .set 7 (.sl 32)]) (.seq (R 33 [0, 1, 4, 5, 44] [.tmp 44 (.or (.or (xu .not (.va 7)) (xb
  .lss (xlen (.va 6)) (xi 1))) (xb .gtr (xlen (.va 6)) (xi 4)))]) (.cond (.s 44) (.seq (R 45 [4] [.run (xst 3 (.sl 4) (.op (.p (.build [.int .i64 0, .int .i64 0, .int .i64 0] [(0,
  1, .s 0), (1, 1, .s 1), (2, 1, .s 2)])) (.cons (xi 35) (.cons (.va 1) (.va 5)))))]) .ret) .skip))))) (R 12 [0, 1, 4, 5] [.set 5 (xb .add (.va 5) (xi 1))])))))) (.seq (R 48 [4]
  [.run (xst 3 (.sl 4) (.op (.p (.build [.int .i64 0, .int .i64 0, .int .i64 0] [])) .nil))]) .ret)))
theorem fn_guiseref6_maps : (autoPrg Tryd.prog).fn 110 = some LF_guiseref6_maps := by kernel_rfl
def LF_guiseref6_Runes : LFunc :=
  .mk 1 [.tmp 2, .tmp 3] (.seq (R 999 [0] [.set 2 (.cv (.slice none 0 0)), .set 3 (.cv (.bool false))]) (.seq (R 999 [0, 4] [.set 4 (.cv (.slice none 0 0))]) (.seq (.seq (R 999 [0,
  4, 5] [.set 5 (xi 0)]) (.block 0 (.loop (.seq (.seq (R 10 [0, 4, 5, 13] [.tmp 13 (xb .lss (.va 5) (xsl (.va 0)))]) (.cond (.s 13) .skip (.exit 0))) (.block 1 (.seq (R 999 [0, 4,
  5] [.set 6 (xi 0)]) (.seq (R 999 [0, 4, 5] [.set 7 (xr 0)]) (.seq (R 14 [0, 4, 5, 8] [.set 8 (xcn .i32 (xis (.va 0) (.va 5)))]) (.seq (.seq (R 18 [0, 4, 5, 8, 19] [.tmp 19 (xb
  .lss (.va 8) (xr 128))]) (.cond (.s 19) (.seq (R 20 [0, 4, 5] [.set 4 (xap 1 4 (.va 4) (.op (.e (.litL 22 1 1 [.int .i32 0] [(0, 1, .s 0)])) (.va 8)))]) (.seq (R 24 [0, 4, 5]
  [.set 5 (xb .add (.va 5) (xi 1))]) (.exit 1))) .skip)) (.seq (.seq (R 26 [0, 4, 5, 8, 31] [.tmp 31 (.and (xb .geq (.va 8) (xr 192)) (xb .lss (.va 8) (xr 224)))]) (.cond (.s 31)
  (.seq (R 999 [0, 4, 5, 6, 8] [.set 6 (xi 1)]) (.seq (R 999 [0, 4, 5, 6, 7, 8] [.set 7 (xr 128)]) (R 32 [0, 4, 5, 6, 7, 8] [.set 8 (xb .sub (.va 8) (xr 192))]))) (.seq (R 34 [0, 4,
  5, 8, 39] [.tmp 39 (.and (xb .geq (.va 8) (xr 224)) (xb .lss (.va 8) (xr 240)))]) (.cond (.s 39) (.seq (R 999 [0, 4, 5, 6, 8] [.set 6 (xi 2)]) (.seq (R 999 [0, 4, 5, 6, 7, 8]
  [.set 7 (xr 2048)]) (R 40 [0, 4, 5, 6, 7, 8] [.set 8 (xb .sub (.va 8) (xr 224))]))) (.seq (R 42 [0, 4, 5, 8, 47] [.tmp 47 (.and (xb .geq (.va 8) (xr 240)) (xb .lss (.va 8) (xr
  248)))]) (.cond (.s 47) (.seq (R 999 [0, 4, 5, 6, 8] [.set 6 (xi 3)]) (.seq (R 999 [0, 4, 5, 6, 7, 8] [.set 7 (xr 65536)]) (R 48 [0, 4, 5, 6, 7, 8] [.set 8 (xb .sub (.va 8) (xr
  240))]))) (.seq (R 999 [2, 3] [.set 2 (.cv (.slice none 0 0)), .set 3 (.cv (.bool false))]) .ret))))))) (.seq (.seq (R 999 [0, 4, 5, 6, 7, 8, 9] [.set 9 (xi 1)]) (.block 2 (.loop
  (.seq (.seq (R 50 [0, 4, 5, 6, 7, 8, 9, 52] [.tmp 52 (xb .leq (.va 9) (.va 6))]) (.cond (.s 52) .skip (.exit 2))) (.seq (.block 3 (.seq (.seq (R 55 [0, 4, 5, 6, 7, 8, 9, 76] [.tmp
  76 (.or (.or (xb .geq (xb .add (.va 5) (.va 9)) (xsl (.va 0))) (xb .lss (xis (.va 0) (xb .add (.va 5) (.va 9))) (.cv (.int .u8 128)))) (xb .geq (xis (.va 0) (xb .add (.va 5) (.va
  9))) (.cv (.int .u8 192))))]) (.cond (.s 76) (.seq (R 999 [2, 3] [.set 2 (.cv (.slice none 0 0)), .set 3 (.cv (.bool false))]) .ret) .skip)) (R 77 [0, 4, 5, 6, 7, 8, 9] [.set 8
  (xb .add (xb .shl (.va 8) (.cv (.int .u64 6))) (xcn .i32 (xb .sub (xis (.va 0) (xb .add (.va 5) (.va 9))) (.cv (.int .u8 128)))))]))) (R 53 [0, 4, 5, 6, 7, 8, 9] [.set 9 (xb .add
  (.va 9) (xi 1))])))))) (.seq (.seq (R 87 [0, 4, 5, 6, 8, 94] [.tmp 94 (.or (xb .lss (.va 8) (.va 7)) (xu .not (xc1 74 (.va 8))))]) (.cond (.s 94) (.seq (R 999 [2,
  3] [.set 2 (.cv (.slice none 0 0)), .set 3 (.cv (.bool false))]) .ret) .skip)) (.seq (R 95 [0, 4, 5, 6] [.set 4 (xap 1 4 (.va 4) (.op (.e (.litL 97 1 1 [.int .i32 0] [(0, 1, .s
  0)])) (.va 8)))]) (R 99 [0, 4, 5] [.set 5 (xb .add (xb .add (.va 5) (.va 6)) (xi 1))])))))))))))))) (.seq (R 103 [2, 3] [.set 2 (.va 4), .set 3 (.cv (.bool true))]) .ret))))
theorem fn_guiseref6_Runes : (autoPrg Tryd.prog).fn 115 = some LF_guiseref6_Runes := by kernel_rfl
def LF_guiseref6_low : LFunc :=
  .mk 1 [.tmp 2] (.seq (R 999 [0] [.set 2 (.cv (.bool false))]) (.seq (R 3 [2] [.set 2 (.or (xb .lss (.va 0) (xr 128)) (xb .eql (.va 0) (xr 65533)))]) .ret))
theorem fn_guiseref6_low : (autoPrg Tryd.prog).fn 132 = some LF_guiseref6_low := by kernel_rfl
def LF_guiseref6_set : LFunc :=
  .mk 1 [.tmp 2] (.seq (R 999 [0] [.set 2 (.cv (.bool false))]) (.seq (R 3 [2] [.set 2 (.or (.or (.or (xb .lss (.va 0) (xr 32)) (xb .eql (.va 0) (xr 45))) (xb .eql (.va 0) (xr 46)))
  (xb .eql (.va 0) (xr 65533)))]) .ret))
theorem fn_guiseref6_set : (autoPrg Tryd.prog).fn 134 = some LF_guiseref6_set := by kernel_rfl
def LF_guiseref6_sets : LFunc :=
  .mk 1 [.tmp 2] (.seq (R 999 [0] [.set 2 (.cv (.bool false))]) (.seq (R 7 [3] [.set 6 (xc1 115 (.va 0)), .tmp 9 (xex 0 (.sl 6)), .tmp 10 (xex 1 (.sl 6)), .set 3
  (.sl 9), .set 4 (.sl 10)]) (.seq (.seq (R 999 [3, 5] [.set 5 (xi 0)]) (.block 0 (.loop (.seq (.seq (R 11 [3, 5, 14] [.tmp 14 (xb .lss (.va 5) (xlen (.va 3)))]) (.cond (.s 14)
  .skip (.exit 0))) (.seq (.block 1 (.seq (R 17 [3, 5, 21] [.tmp 21 (xc1 134 (xld (xia 1 (.va 3) (.va 5))))]) (.cond (.s 21) (.seq (R 999 [2] [.set 2 (.cv (.bool
  true))]) .ret) .skip))) (R 15 [3, 5] [.set 5 (xb .add (.va 5) (xi 1))])))))) (.seq (R 999 [2] [.set 2 (.cv (.bool false))]) .ret))))
theorem fn_guiseref6_sets : (autoPrg Tryd.prog).fn 133 = some LF_guiseref6_sets := by kernel_rfl
def LF_guiseref6_long : LFunc :=
  .mk 1 [.cell 2 (some 3)] (.seq (R 1 [1, 2] [.tmp 1 (xbl 1 8 (.sl 0)), .tmp 2 (xnl 2 [.int .i64 0, .int .i64 0, .int .i64 0])]) (.seq (.seq (R 7 [1, 2, 10] [.tmp 10 (xb .gtr (xlen
  (xld (xfa 0 (.sl 1)))) (xi 64))]) (.cond (.s 10) (.seq (R 11 [2] [.run (xst 3 (.sl 2) (.op (.p (.build [.int .i64 0, .int .i64 0, .int .i64 0] [(0, 1, .s 0), (1, 1, .s 1), (2, 1,
  .s 2)])) (.cons (xi 4) (.cons (xi 1) (xi 64)))))]) .ret) .skip)) (.seq (.seq (R 999 [1, 2, 3] [.set 3 (xi 0)]) (.block 0 (.loop (.seq (.seq (R 12 [1, 2, 3, 16] [.tmp 16 (xb .lss
  (.va 3) (xlen (xld (xfa 0 (.sl 1)))))]) (.cond (.s 16) .skip (.exit 0))) (.seq (.block 1 (.seq (R 19 [1, 2, 3, 26] [.tmp 26 (xb .gtr (xlen (xld (xfa 1 (xia 2 (xld (xfa 0 (.sl 1)))
  (.va 3))))) (xi 1024))]) (.cond (.s 26) (.seq (R 27 [2] [.run (xst 3 (.sl 2) (.op (.p (.build [.int .i64 0, .int .i64 0, .int .i64 0] [(0, 1, .s 0), (1, 1, .s 1), (2, 1, .s 2)]))
  (.cons (xi 4) (.cons (xi 1) (.va 3)))))]) .ret) .skip))) (R 17 [1, 2, 3] [.set 3 (xb .add (.va 3) (xi 1))])))))) (.seq (R 29 [2, 4] [.set 4 (.op (.e (.litH 7 1 [.int .i64 0] [(0,
  1, .s 0), (1, 1, .s 1), (2, 1, .s 2), (3, 1, .s 3), (4, 1, .s 4), (5, 1, .s 5), (6, 1, .s 6)])) (.cons (xlen (xld (xfa 1 (.sl 1)))) (.cons (xlen (xld (xfa 2 (.sl 1)))) (.cons
  (xlen (xld (xfa 3 (.sl 1)))) (.cons (xlen (xld (xfa 4 (.sl 1)))) (.cons (xlen (xld (xfa 5 (.sl 1)))) (.cons (xlen (xld (xfa 6 (.sl 1)))) (xlen (xld (xfa 7 (.sl 1)))))))))))])
  (.seq (R 51 [2, 4, 5] [.set 5 (.op (.e (.litH 7 1 [.int .i64 0] [(0, 1, .s 0), (1, 1, .s 1), (2, 1, .s 2), (3, 1, .s 3), (4, 1, .s 4), (5, 1, .s 5), (6, 1, .s 6)])) (.cons (xi
  1024) (.cons (xi 512) (.cons (xi 4096) (.cons (xi 4096) (.cons (xi 4096) (.cons (xi 1024) (xi 1024))))))))]) (.seq (.seq (R 999 [2, 4, 5, 6] [.set 6 (xi 0)]) (.block 2 (.loop
  (.seq (.seq (R 52 [2, 4, 5, 6, 55] [.tmp 55 (xb .lss (.va 6) (xlen (.va 4)))]) (.cond (.s 55) .skip (.exit 2))) (.seq (.block 3 (.seq (R 58 [2, 4, 5, 6, 66] [.tmp 66 (xb .gtr (xld
  (xia 1 (.va 4) (.va 6))) (xld (xia 1 (.va 5) (.va 6))))]) (.cond (.s 66) (.seq (R 67 [2] [.run (xst 3 (.sl 2) (.op (.p (.build [.int .i64 0, .int .i64 0, .int .i64 0] [(0, 1, .s
  0), (1, 1, .s 1), (2, 1, .s 2)])) (.cons (xi 4) (.cons (xb .add (xi 2) (.va 6)) (xld (xia 1 (.va 5) (.va 6)))))))]) .ret) .skip))) (R 56 [2, 4, 5, 6] [.set 6 (xb .add (.va 6) (xi
  1))])))))) (.seq (R 74 [2] [.run (xst 3 (.sl 2) (.op (.p (.build [.int .i64 0, .int .i64 0, .int .i64 0] [])) .nil))]) .ret)))))))
theorem fn_guiseref6_long : (autoPrg Tryd.prog).fn 66 = some LF_guiseref6_long := by kernel_rfl
def LF_guiseref6_forms : LFunc :=
  .mk 1 [.cell 2 (some 3)] (.seq (R 1 [1, 2] [.tmp 1 (xbl 1 8 (.sl 0)), .tmp 2 (xnl 2 [.int .i64 0, .int .i64 0, .int .i64 0])]) (.seq (.seq (R 999 [1, 2, 3] [.set 3 (xi 0)])
  (.block 0 (.loop (.seq (.seq (R 8 [1, 2, 3, 12] [.tmp 12 (xb .lss (.va 3) (xlen (xld (xfa 0 (.sl 1)))))]) (.cond (.s 12) .skip (.exit 0))) (.seq (.block 1 (.seq (R 15 [1, 2, 3, 4]
  [.set 4 (xc1 108 (xln 2 (xia 2 (xld (xfa 0 (.sl 1))) (.va 3))))]) (.seq (R 21 [1, 2, 3, 4, 22] [.tmp 22 (xb .neq (.va 4) (xi 0))]) (.cond (.s 22) (.seq (R 23 [2]
  [.run (xst 3 (.sl 2) (.op (.p (.build [.int .i64 0, .int .i64 0, .int .i64 0] [(0, 1, .s 0), (1, 1, .s 1), (2, 1, .s 2)])) (.cons (.va 4) (.cons (xi 1) (.va 3)))))]) .ret)
  .skip)))) (R 13 [1, 2, 3] [.set 3 (xb .add (.va 3) (xi 1))])))))) (.seq (R 26 [1, 2, 5] [.tmp 28 (xc2 109 (xld (xfa 1 (.sl 1))) (xi 2)), .at 5, .tmp 5 (xnl 5 [.int
  .i64 0, .int .i64 0, .int .i64 0]), .run (xst 3 (.sl 5) (.sl 28))]) (.seq (.seq (R 29 [1, 2, 5, 31] [.tmp 31 (xb .neq (xld (xfa 0 (.sl 5))) (xi 0))]) (.cond (.s 31) (.seq (R 32
  [2] [.run (xst 3 (.sl 2) (xln 3 (.sl 5)))]) .ret) .skip)) (.seq (.seq (R 999 [1, 2, 5, 6] [.set 6 (xi 0)]) (.block 2 (.loop (.seq (.seq (R 33 [1, 2, 5, 6, 37] [.tmp 37 (xb .lss
  (.va 6) (xlen (xld (xfa 2 (.sl 1)))))]) (.cond (.s 37) .skip (.exit 2))) (.seq (.block 3 (.seq (.seq (R 40 [1, 2, 5, 6, 47] [.tmp 47 (xu .not (xc1 74 (xld (xfa 0
  (xia 2 (xld (xfa 2 (.sl 1))) (.va 6))))))]) (.cond (.s 47) (.seq (R 48 [2] [.run (xst 3 (.sl 2) (.op (.p (.build [.int .i64 0, .int .i64 0, .int .i64 0] [(0, 1, .s 0), (1, 1, .s
  1), (2, 1, .s 2)])) (.cons (xi 12) (.cons (xi 3) (.va 6)))))]) .ret) .skip)) (.seq (R 50 [1, 2, 5, 6, 65] [.tmp 65 (.or (xb .lss (xld (xfa 1 (xia 2 (xld (xfa 2 (.sl 1))) (.va
  6)))) (xi 1)) (xb .gtr (xld (xfa 1 (xia 2 (xld (xfa 2 (.sl 1))) (.va 6)))) (xi 254)))]) (.cond (.s 65) (.seq (R 66 [2] [.run (xst 3 (.sl 2) (.op (.p (.build [.int .i64 0, .int
  .i64 0, .int .i64 0] [(0, 1, .s 0), (1, 1, .s 1), (2, 1, .s 2)])) (.cons (xi 30) (.cons (xi 3) (.va 6)))))]) .ret) .skip)))) (R 38 [1, 2, 5, 6] [.set 6 (xb .add (.va 6) (xi
  1))])))))) (.seq (.seq (R 999 [1, 2, 5, 7] [.set 7 (xi 0)]) (.block 4 (.loop (.seq (.seq (R 68 [1, 2, 5, 7, 72] [.tmp 72 (xb .lss (.va 7) (xlen (xld (xfa 3 (.sl 1)))))]) (.cond
  (.s 72) .skip (.exit 4))) (.seq (.block 5 (.seq (R 75 [1, 2, 5, 7, 102] [.tmp 102 (.or (.or (xu .not (xc1 74 (xld (xfa 0 (xia 3 (xld (xfa 3 (.sl 1))) (.va 7))))))
  (xu .not (xc1 74 (xld (xfa 1 (xia 3 (xld (xfa 3 (.sl 1))) (.va 7))))))) (xu .not (xc1 74 (xld (xfa 2 (xia 3 (xld (xfa 3 (.sl 1))) (.va 7)))))))])
  (.cond (.s 102) (.seq (R 103 [2] [.run (xst 3 (.sl 2) (.op (.p (.build [.int .i64 0, .int .i64 0, .int .i64 0] [(0, 1, .s 0), (1, 1, .s 1), (2, 1, .s 2)])) (.cons (xi 12) (.cons
  (xi 4) (.va 7)))))]) .ret) .skip))) (R 73 [1, 2, 5, 7] [.set 7 (xb .add (.va 7) (xi 1))])))))) (.seq (R 105 [1, 2, 5] [.run (xst 3 (.sl 5) (xc2 110 (xld (xfa 4 (.sl
  1))) (xi 5)))]) (.seq (.seq (R 108 [1, 2, 5, 110] [.tmp 110 (xb .eql (xld (xfa 0 (.sl 5))) (xi 0))]) (.cond (.s 110) (R 111 [1, 2, 5] [.run (xst 3 (.sl 5) (xc2 110
  (xld (xfa 5 (.sl 1))) (xi 6)))]) .skip)) (.seq (.seq (R 114 [1, 2, 5, 116] [.tmp 116 (xb .eql (xld (xfa 0 (.sl 5))) (xi 0))]) (.cond (.s 116) (R 117 [1, 2, 5] [.run (xst 3 (.sl 5)
  (xc2 109 (xld (xfa 6 (.sl 1))) (xi 7)))]) .skip)) (.seq (.seq (R 120 [1, 2, 5, 122] [.tmp 122 (xb .eql (xld (xfa 0 (.sl 5))) (xi 0))]) (.cond (.s 122) (R 123 [2,
  5] [.run (xst 3 (.sl 5) (xc2 109 (xld (xfa 7 (.sl 1))) (xi 8)))]) .skip)) (.seq (R 126 [2] [.run (xst 3 (.sl 2) (xln 3 (.sl 5)))]) .ret)))))))))))
theorem fn_guiseref6_forms : (autoPrg Tryd.prog).fn 67 = some LF_guiseref6_forms := by kernel_rfl
def LF_guiseref6_twice : LFunc :=
  .mk 1 [.cell 2 (some 3)] (.seq (R 1 [1, 2] [.tmp 1 (xbl 1 8 (.sl 0)), .tmp 2 (xnl 2 [.int .i64 0, .int .i64 0, .int .i64 0])]) (.seq (.seq (R 999 [1, 2, 3] [.set 3 (xi 0)])
  (.block 0 (.loop (.seq (.seq (R 13 [1, 2, 3, 17] [.tmp 17 (xb .lss (.va 3) (xlen (xld (xfa 0 (.sl 1)))))]) (.cond (.s 17) .skip (.exit 0))) (.seq (.block 1 (.seq (R 999 [1, 2, 3,
  4] [.set 4 (xi 0)]) (.block 2 (.loop (.seq (.seq (R 20 [1, 2, 3, 4, 22] [.tmp 22 (xb .lss (.va 4) (.va 3))]) (.cond (.s 22) .skip (.exit 2))) (.seq (.block 3 (.seq (R 25 [1, 2, 3,
  4, 37] [.tmp 37 (xb .eql (xld (xfa 0 (xia 2 (xld (xfa 0 (.sl 1))) (.va 3)))) (xld (xfa 0 (xia 2 (xld (xfa 0 (.sl 1))) (.va 4)))))]) (.cond (.s 37) (.seq (R 38 [2] [.run (xst 3
  (.sl 2) (.op (.p (.build [.int .i64 0, .int .i64 0, .int .i64 0] [(0, 1, .s 0), (1, 1, .s 1), (2, 1, .s 2)])) (.cons (xi 14) (.cons (xi 1) (.va 3)))))]) .ret) .skip))) (R 23 [1,
  2, 3, 4] [.set 4 (xb .add (.va 4) (xi 1))]))))))) (R 18 [1, 2, 3] [.set 3 (xb .add (.va 3) (xi 1))])))))) (.seq (.seq (R 999 [1, 2, 5] [.set 5 (xi 0)]) (.block 4 (.loop (.seq
  (.seq (R 40 [1, 2, 5, 44] [.tmp 44 (xb .lss (.va 5) (xlen (xld (xfa 2 (.sl 1)))))]) (.cond (.s 44) .skip (.exit 4))) (.seq (.block 5 (.seq (R 999 [1, 2, 5, 6] [.set 6 (xi 0)])
  (.block 6 (.loop (.seq (.seq (R 47 [1, 2, 5, 6, 49] [.tmp 49 (xb .lss (.va 6) (.va 5))]) (.cond (.s 49) .skip (.exit 6))) (.seq (.block 7 (.seq (R 52 [1, 2, 5, 6, 64] [.tmp 64 (xb
  .eql (xld (xfa 0 (xia 2 (xld (xfa 2 (.sl 1))) (.va 5)))) (xld (xfa 0 (xia 2 (xld (xfa 2 (.sl 1))) (.va 6)))))]) (.cond (.s 64) (.seq (R 65 [2] [.run (xst 3 (.sl 2) (.op (.p
  (.build [.int .i64 0, .int .i64 0, .int .i64 0] [(0, 1, .s 0), (1, 1, .s 1), (2, 1, .s 2)])) (.cons (xi 14) (.cons (xi 3) (.va 5)))))]) .ret) .skip))) (R 50 [1, 2, 5, 6] [.set 6
  (xb .add (.va 6) (xi 1))]))))))) (R 45 [1, 2, 5] [.set 5 (xb .add (.va 5) (xi 1))])))))) (.seq (.seq (R 999 [1, 2, 7] [.set 7 (xi 0)]) (.block 8 (.loop (.seq (.seq (R 67 [1, 2, 7,
  71] [.tmp 71 (xb .lss (.va 7) (xlen (xld (xfa 3 (.sl 1)))))]) (.cond (.s 71) .skip (.exit 8))) (.seq (.block 9 (.seq (R 999 [1, 2, 7, 8] [.set 8 (xi 0)]) (.block 10 (.loop (.seq
  (.seq (R 74 [1, 2, 7, 8, 76] [.tmp 76 (xb .lss (.va 8) (.va 7))]) (.cond (.s 76) .skip (.exit 10))) (.seq (.block 11 (.seq (R 79 [1, 2, 7, 8, 9] [.tmp 83 (xln 3 (xia 3 (xld (xfa 3
  (.sl 1))) (.va 7))), .at 9, .tmp 9 (xnl 9 [.int .i32 0, .int .i32 0, .int .i32 0]), .run (xst 3 (.sl 9) (.sl 83))]) (.seq (R 84 [1, 2, 7, 8, 9, 10] [.tmp 88 (xln 3 (xia 3 (xld
  (xfa 3 (.sl 1))) (.va 8))), .at 10, .tmp 10 (xnl 10 [.int .i32 0, .int .i32 0, .int .i32 0]), .run (xst 3 (.sl 10) (.sl 88))]) (.seq (R 89 [1, 2, 7, 8, 107] [.tmp 107 (.or (xb
  .eql (xld (xfa 0 (.sl 9))) (xld (xfa 0 (.sl 10)))) (.and (xb .eql (xld (xfa 1 (.sl 9))) (xld (xfa 1 (.sl 10)))) (xb .eql (xld (xfa 2 (.sl 9))) (xld (xfa 2 (.sl 10))))))]) (.cond
  (.s 107) (.seq (R 108 [2] [.run (xst 3 (.sl 2) (.op (.p (.build [.int .i64 0, .int .i64 0, .int .i64 0] [(0, 1, .s 0), (1, 1, .s 1), (2, 1, .s 2)])) (.cons (xi 14) (.cons (xi 4)
  (.va 7)))))]) .ret) .skip))))) (R 77 [1, 2, 7, 8] [.set 8 (xb .add (.va 8) (xi 1))]))))))) (R 72 [1, 2, 7] [.set 7 (xb .add (.va 7) (xi 1))])))))) (.seq (.seq (R 999 [1, 2, 11]
  [.set 11 (xi 0)]) (.block 12 (.loop (.seq (.seq (R 110 [1, 2, 11, 114] [.tmp 114 (xb .lss (.va 11) (xlen (xld (xfa 4 (.sl 1)))))]) (.cond (.s 114) .skip (.exit 12))) (.seq (.block
  13 (.seq (R 117 [1, 2, 11, 127] [.tmp 127 (xb .lss (xc2 111 (xld (xfa 4 (.sl 1))) (xld (xfa 0 (xia 2 (xld (xfa 4 (.sl 1))) (.va 11))))) (.va 11))]) (.cond (.s 127)
  (.seq (R 128 [2] [.run (xst 3 (.sl 2) (.op (.p (.build [.int .i64 0, .int .i64 0, .int .i64 0] [(0, 1, .s 0), (1, 1, .s 1), (2, 1, .s 2)])) (.cons (xi 14) (.cons (xi 5) (.va
  11)))))]) .ret) .skip))) (R 115 [1, 2, 11] [.set 11 (xb .add (.va 11) (xi 1))])))))) (.seq (.seq (R 999 [1, 2, 12] [.set 12 (xi 0)]) (.block 14 (.loop (.seq (.seq (R 130 [1, 2,
  12, 134] [.tmp 134 (xb .lss (.va 12) (xlen (xld (xfa 5 (.sl 1)))))]) (.cond (.s 134) .skip (.exit 14))) (.seq (.block 15 (.seq (R 137 [1, 2, 12, 147] [.tmp 147 (xb .lss (xc2
  111 (xld (xfa 5 (.sl 1))) (xld (xfa 0 (xia 2 (xld (xfa 5 (.sl 1))) (.va 12))))) (.va 12))]) (.cond (.s 147) (.seq (R 148 [2] [.run (xst 3 (.sl 2) (.op (.p (.build
  [.int .i64 0, .int .i64 0, .int .i64 0] [(0, 1, .s 0), (1, 1, .s 1), (2, 1, .s 2)])) (.cons (xi 14) (.cons (xi 6) (.va 12)))))]) .ret) .skip))) (R 135 [1, 2, 12] [.set 12 (xb .add
  (.va 12) (xi 1))])))))) (.seq (R 150 [2] [.run (xst 3 (.sl 2) (.op (.p (.build [.int .i64 0, .int .i64 0, .int .i64 0] [])) .nil))]) .ret)))))))
theorem fn_guiseref6_twice : (autoPrg Tryd.prog).fn 68 = some LF_guiseref6_twice := by kernel_rfl
def LF_guiseref6_chain : LFunc :=
  .mk 2 [.tmp 4] (.seq (R 2 [1, 2] [.tmp 2 (xbl 2 8 (.sl 0)), .set 4 (xi 0)]) (.seq (.seq (R 999 [1, 2, 5] [.set 5 (xi 1)]) (.block 0 (.loop (.seq (.seq (R 6 [1, 2, 5, 10] [.tmp 10
  (xb .leq (.va 5) (xlen (xld (xfa 3 (.sl 2)))))]) (.cond (.s 10) .skip (.exit 0))) (.seq (.block 1 (.seq (R 13 [1, 2, 5] [.set 1 (xc2 114 (xln 8 (.sl 2)) (xld (xfa
  1 (xia 3 (xld (xfa 3 (.sl 2))) (.va 1)))))]) (.seq (R 21 [1, 2, 5, 22] [.tmp 22 (xb .lss (.va 1) (xi 0))]) (.cond (.s 22) (.seq (R 23 [4] [.set 4 (.va 5)]) .ret) .skip)))) (R 11
  [1, 2, 5] [.set 5 (xb .add (.va 5) (xi 1))])))))) (.seq (R 999 [4] [.set 4 (xi (-1))]) .ret)))
theorem fn_guiseref6_chain : (autoPrg Tryd.prog).fn 113 = some LF_guiseref6_chain := by kernel_rfl
def LF_guiseref6_pairs : LFunc :=
  .mk 1 [.cell 2 (some 3)] (.seq (R 1 [1, 2] [.tmp 1 (xbl 1 8 (.sl 0)), .tmp 2 (xnl 2 [.int .i64 0, .int .i64 0, .int .i64 0])]) (.seq (.seq (R 999 [1, 2, 3] [.set 3 (xi 0)])
  (.block 0 (.loop (.seq (.seq (R 6 [1, 2, 3, 10] [.tmp 10 (xb .lss (.va 3) (xlen (xld (xfa 3 (.sl 1)))))]) (.cond (.s 10) .skip (.exit 0))) (.seq (.block 1 (.seq (R 13 [1, 2, 3,
  41] [.tmp 41 (.or (.or (xc2 112 (xln 8 (.sl 1)) (xld (xfa 0 (xia 3 (xld (xfa 3 (.sl 1))) (.va 3))))) (xc2 112 (xln 8 (.sl 1)) (xld (xfa 1 (xia 3 (xld
  (xfa 3 (.sl 1))) (.va 3)))))) (xu .not (xc2 112 (xln 8 (.sl 1)) (xld (xfa 2 (xia 3 (xld (xfa 3 (.sl 1))) (.va 3)))))))]) (.cond (.s 41) (.seq (R 42 [2] [.run (xst 3
  (.sl 2) (.op (.p (.build [.int .i64 0, .int .i64 0, .int .i64 0] [(0, 1, .s 0), (1, 1, .s 1), (2, 1, .s 2)])) (.cons (xi 32) (.cons (xi 4) (.va 3)))))]) .ret) .skip))) (R 11 [1,
  2, 3] [.set 3 (xb .add (.va 3) (xi 1))])))))) (.seq (.seq (R 999 [1, 2, 4] [.set 4 (xi 0)]) (.block 2 (.loop (.seq (.seq (R 44 [1, 2, 4, 48] [.tmp 48 (xb .lss (.va 4) (xlen (xld
  (xfa 3 (.sl 1)))))]) (.cond (.s 48) .skip (.exit 2))) (.seq (.block 3 (.seq (R 51 [1, 2, 4, 5] [.set 5 (xc2 113 (xln 8 (.sl 1)) (.va 4))]) (.seq (.seq (R 54 [1, 2,
  4, 5, 55] [.tmp 55 (xb .lss (.va 5) (xi 0))]) (.cond (.s 55) (.seq (R 56 [2] [.run (xst 3 (.sl 2) (.op (.p (.build [.int .i64 0, .int .i64 0, .int .i64 0] [(0, 1, .s 0), (1, 1, .s
  1), (2, 1, .s 2)])) (.cons (xi 33) (.cons (xi 4) (.va 4)))))]) .ret) .skip)) (.seq (R 58 [1, 2, 4, 59] [.tmp 59 (xb .gtr (.va 5) (xi 4))]) (.cond (.s 59) (.seq (R 60 [2] [.run
  (xst 3 (.sl 2) (.op (.p (.build [.int .i64 0, .int .i64 0, .int .i64 0] [(0, 1, .s 0), (1, 1, .s 1), (2, 1, .s 2)])) (.cons (xi 34) (.cons (xi 4) (.va 4)))))]) .ret) .skip))))) (R
  49 [1, 2, 4] [.set 4 (xb .add (.va 4) (xi 1))])))))) (.seq (R 62 [2] [.run (xst 3 (.sl 2) (.op (.p (.build [.int .i64 0, .int .i64 0, .int .i64 0] [])) .nil))]) .ret))))
theorem fn_guiseref6_pairs : (autoPrg Tryd.prog).fn 69 = some LF_guiseref6_pairs := by kernel_rfl
def LF_guiseref6_drops : LFunc :=
  .mk 1 [.cell 2 (some 3)] (.seq (R 1 [1, 2] [.tmp 1 (xbl 1 8 (.sl 0)), .tmp 2 (xnl 2 [.int .i64 0, .int .i64 0, .int .i64 0])]) (.seq (.seq (R 999 [1, 2, 3] [.set 3 (xi 0)])
  (.block 0 (.loop (.seq (.seq (R 7 [1, 2, 3, 11] [.tmp 11 (xb .lss (.va 3) (xlen (xld (xfa 2 (.sl 1)))))]) (.cond (.s 11) .skip (.exit 0))) (.seq (.block 1 (.seq (R 14 [1, 2, 3,
  22] [.tmp 22 (xc2 36 (xld (xfa 0 (xia 2 (xld (xfa 2 (.sl 1))) (.va 3)))) (xld (xfa 6 (.sl 1))))]) (.cond (.s 22) (.seq (R 23 [2] [.run (xst 3 (.sl 2) (.op (.p
  (.build [.int .i64 0, .int .i64 0, .int .i64 0] [(0, 1, .s 0), (1, 1, .s 1), (2, 1, .s 2)])) (.cons (xi 37) (.cons (xi 3) (.va 3)))))]) .ret) .skip))) (R 12 [1, 2, 3] [.set 3 (xb
  .add (.va 3) (xi 1))])))))) (.seq (.seq (R 999 [1, 2, 4] [.set 4 (xi 0)]) (.block 2 (.loop (.seq (.seq (R 25 [1, 2, 4, 29] [.tmp 29 (xb .lss (.va 4) (xlen (xld (xfa 3 (.sl
  1)))))]) (.cond (.s 29) .skip (.exit 2))) (.seq (.block 3 (.seq (R 32 [1, 2, 4, 62] [.tmp 62 (.or (.or (xc2 36 (xld (xfa 0 (xia 3 (xld (xfa 3 (.sl 1))) (.va 4))))
  (xld (xfa 6 (.sl 1)))) (xc2 36 (xld (xfa 1 (xia 3 (xld (xfa 3 (.sl 1))) (.va 4)))) (xld (xfa 6 (.sl 1))))) (xc2 36 (xld (xfa 2 (xia 3 (xld (xfa 3 (.sl
  1))) (.va 4)))) (xld (xfa 6 (.sl 1)))))]) (.cond (.s 62) (.seq (R 63 [2] [.run (xst 3 (.sl 2) (.op (.p (.build [.int .i64 0, .int .i64 0, .int .i64 0] [(0, 1, .s 0), (1, 1, .s 1),
  (2, 1, .s 2)])) (.cons (xi 37) (.cons (xi 4) (.va 4)))))]) .ret) .skip))) (R 30 [1, 2, 4] [.set 4 (xb .add (.va 4) (xi 1))])))))) (.seq (.seq (R 999 [1, 2, 5] [.set 5 (xi 0)])
  (.block 4 (.loop (.seq (.seq (R 65 [1, 2, 5, 69] [.tmp 69 (xb .lss (.va 5) (xlen (xld (xfa 4 (.sl 1)))))]) (.cond (.s 69) .skip (.exit 4))) (.seq (.block 5 (.seq (R 72 [1, 2, 5,
  80] [.tmp 80 (xc2 36 (xld (xfa 0 (xia 2 (xld (xfa 4 (.sl 1))) (.va 5)))) (xld (xfa 6 (.sl 1))))]) (.cond (.s 80) (.seq (R 81 [2] [.run (xst 3 (.sl 2) (.op (.p
  (.build [.int .i64 0, .int .i64 0, .int .i64 0] [(0, 1, .s 0), (1, 1, .s 1), (2, 1, .s 2)])) (.cons (xi 37) (.cons (xi 5) (.va 5)))))]) .ret) .skip))) (R 70 [1, 2, 5] [.set 5 (xb
  .add (.va 5) (xi 1))])))))) (.seq (.seq (R 999 [1, 2, 6] [.set 6 (xi 0)]) (.block 6 (.loop (.seq (.seq (R 83 [1, 2, 6, 87] [.tmp 87 (xb .lss (.va 6) (xlen (xld (xfa 5 (.sl
  1)))))]) (.cond (.s 87) .skip (.exit 6))) (.seq (.block 7 (.seq (R 90 [1, 2, 6, 98] [.tmp 98 (xc2 36 (xld (xfa 0 (xia 2 (xld (xfa 5 (.sl 1))) (.va 6)))) (xld (xfa 6
  (.sl 1))))]) (.cond (.s 98) (.seq (R 99 [2] [.run (xst 3 (.sl 2) (.op (.p (.build [.int .i64 0, .int .i64 0, .int .i64 0] [(0, 1, .s 0), (1, 1, .s 1), (2, 1, .s 2)])) (.cons (xi
  37) (.cons (xi 6) (.va 6)))))]) .ret) .skip))) (R 88 [1, 2, 6] [.set 6 (xb .add (.va 6) (xi 1))])))))) (.seq (R 101 [2] [.run (xst 3 (.sl 2) (.op (.p (.build [.int .i64 0, .int
  .i64 0, .int .i64 0] [])) .nil))]) .ret))))))
theorem fn_guiseref6_drops : (autoPrg Tryd.prog).fn 70 = some LF_guiseref6_drops := by kernel_rfl
def LF_guiseref6_tos : LFunc :=
  .mk 1 [.cell 2 (some 3)] (.seq (R 1 [1, 2] [.tmp 1 (xbl 1 8 (.sl 0)), .tmp 2 (xnl 2 [.int .i64 0, .int .i64 0, .int .i64 0])]) (.seq (.seq (R 999 [1, 2, 3] [.set 3 (xi 0)])
  (.block 0 (.loop (.seq (.seq (R 13 [1, 2, 3, 17] [.tmp 17 (xb .lss (.va 3) (xlen (xld (xfa 4 (.sl 1)))))]) (.cond (.s 17) .skip (.exit 0))) (.seq (.block 1 (.seq (R 20 [1, 2, 3,
  38] [.tmp 38 (.or (xc2 112 (xln 8 (.sl 1)) (xld (xfa 0 (xia 2 (xld (xfa 4 (.sl 1))) (.va 3))))) (xb .geq (xc2 114 (xln 8 (.sl 1)) (xld (xfa 0 (xia 2
  (xld (xfa 4 (.sl 1))) (.va 3))))) (xi 0)))]) (.cond (.s 38) (.seq (R 39 [2] [.run (xst 3 (.sl 2) (.op (.p (.build [.int .i64 0, .int .i64 0, .int .i64 0] [(0, 1, .s 0), (1, 1, .s
  1), (2, 1, .s 2)])) (.cons (xi 31) (.cons (xi 5) (.va 3)))))]) .ret) .skip))) (R 18 [1, 2, 3] [.set 3 (xb .add (.va 3) (xi 1))])))))) (.seq (.seq (R 999 [1, 2, 4] [.set 4 (xi 0)])
  (.block 2 (.loop (.seq (.seq (R 41 [1, 2, 4, 45] [.tmp 45 (xb .lss (.va 4) (xlen (xld (xfa 5 (.sl 1)))))]) (.cond (.s 45) .skip (.exit 2))) (.seq (.block 3 (.seq (R 48 [1, 2, 4,
  66] [.tmp 66 (.or (xc2 112 (xln 8 (.sl 1)) (xld (xfa 0 (xia 2 (xld (xfa 5 (.sl 1))) (.va 4))))) (xb .geq (xc2 114 (xln 8 (.sl 1)) (xld (xfa 0 (xia 2
  (xld (xfa 5 (.sl 1))) (.va 4))))) (xi 0)))]) (.cond (.s 66) (.seq (R 67 [2] [.run (xst 3 (.sl 2) (.op (.p (.build [.int .i64 0, .int .i64 0, .int .i64 0] [(0, 1, .s 0), (1, 1, .s
  1), (2, 1, .s 2)])) (.cons (xi 31) (.cons (xi 6) (.va 4)))))]) .ret) .skip))) (R 46 [1, 2, 4] [.set 4 (xb .add (.va 4) (xi 1))])))))) (.seq (.seq (R 999 [1, 2, 5] [.set 5 (xi 0)])
  (.block 4 (.loop (.seq (.seq (R 69 [1, 2, 5, 73] [.tmp 73 (xb .lss (.va 5) (xlen (xld (xfa 4 (.sl 1)))))]) (.cond (.s 73) .skip (.exit 4))) (.seq (.block 5 (.seq (R 77 [1, 2, 5,
  6] [.set 76 (xc1 115 (xld (xfa 1 (xia 2 (xld (xfa 4 (.sl 1))) (.va 5))))), .tmp 84 (xex 0 (.sl 76)), .tmp 85 (xex 1 (.sl 76)), .set 6 (.sl 84), .set 7 (.sl 85)])
  (.seq (R 999 [1, 2, 5, 6, 8] [.set 8 (xi 0)]) (.block 6 (.loop (.seq (.seq (R 86 [1, 2, 5, 6, 8, 89] [.tmp 89 (xb .lss (.va 8) (xlen (.va 6)))]) (.cond (.s 89) .skip (.exit 6)))
  (.seq (.block 7 (.seq (R 92 [1, 2, 5, 6, 8, 98] [.tmp 98 (xu .not (xc2 116 (xln 8 (.sl 1)) (xld (xia 1 (.va 6) (.va 8)))))]) (.cond (.s 98) (.seq (R 99 [2] [.run
  (xst 3 (.sl 2) (.op (.p (.build [.int .i64 0, .int .i64 0, .int .i64 0] [(0, 1, .s 0), (1, 1, .s 1), (2, 1, .s 2)])) (.cons (xi 35) (.cons (xi 5) (.va 5)))))]) .ret) .skip))) (R
  90 [1, 2, 5, 6, 8] [.set 8 (xb .add (.va 8) (xi 1))])))))))) (R 74 [1, 2, 5] [.set 5 (xb .add (.va 5) (xi 1))])))))) (.seq (.seq (R 999 [1, 2, 9] [.set 9 (xi 0)]) (.block 8 (.loop
  (.seq (.seq (R 101 [1, 2, 9, 105] [.tmp 105 (xb .lss (.va 9) (xlen (xld (xfa 5 (.sl 1)))))]) (.cond (.s 105) .skip (.exit 8))) (.seq (.block 9 (.seq (R 109 [1, 2, 9, 10] [.set 108
  (xc1 115 (xld (xfa 1 (xia 2 (xld (xfa 5 (.sl 1))) (.va 9))))), .tmp 116 (xex 0 (.sl 108)), .tmp 117 (xex 1 (.sl 108)), .set 10 (.sl 116), .set 11 (.sl 117)]) (.seq
  (R 999 [1, 2, 9, 10, 12] [.set 12 (xi 0)]) (.block 10 (.loop (.seq (.seq (R 118 [1, 2, 9, 10, 12, 121] [.tmp 121 (xb .lss (.va 12) (xlen (.va 10)))]) (.cond (.s 121) .skip (.exit
  10))) (.seq (.block 11 (.seq (R 124 [1, 2, 9, 10, 12, 140] [.tmp 140 (.or (xu .not (xc2 116 (xln 8 (.sl 1)) (xld (xia 1 (.va 10) (.va 12))))) (xb .geq (xc2
  111 (xld (xfa 5 (.sl 1))) (xld (xia 1 (.va 10) (.va 12)))) (xi 0)))]) (.cond (.s 140) (.seq (R 141 [2] [.run (xst 3 (.sl 2) (.op (.p (.build [.int .i64 0, .int .i64
  0, .int .i64 0] [(0, 1, .s 0), (1, 1, .s 1), (2, 1, .s 2)])) (.cons (xi 36) (.cons (xi 6) (.va 9)))))]) .ret) .skip))) (R 122 [1, 2, 9, 10, 12] [.set 12 (xb .add (.va 12) (xi
  1))])))))))) (R 106 [1, 2, 9] [.set 9 (xb .add (.va 9) (xi 1))])))))) (.seq (R 143 [2] [.run (xst 3 (.sl 2) (.op (.p (.build [.int .i64 0, .int .i64 0, .int .i64 0] [])) .nil))])
  .ret))))))
theorem fn_guiseref6_tos : (autoPrg Tryd.prog).fn 71 = some LF_guiseref6_tos := by kernel_rfl
def LF_guiseref6_rows : LFunc :=
  .mk 1 [.cell 2 (some 3)] (.seq (R 1 [1, 2] [.tmp 1 (xbl 1 8 (.sl 0)), .tmp 2 (xnl 2 [.int .i64 0, .int .i64 0, .int .i64 0])]) (.seq (.seq (R 999 [1, 2, 3] [.set 3 (xr 45)])
  (.block 0 (.loop (.seq (.seq (R 9 [1, 2, 3, 10] [.tmp 10 (xb .leq (.va 3) (xr 57))]) (.cond (.s 10) .skip (.exit 0))) (.seq (.block 1 (.seq (R 13 [1, 2, 3, 21] [.tmp 21 (.and (xb
  .neq (.va 3) (xr 47)) (xu .not (xc2 36 (.va 3) (xld (xfa 1 (.sl 1))))))]) (.cond (.s 21) (.seq (R 22 [2] [.run (xst 3 (.sl 2) (.op (.p (.build [.int .i64 0, .int
  .i64 0, .int .i64 0] [(0, 1, .s 0), (1, 1, .s 1)])) (.cons (xi 5) (xi 2))))]) .ret) .skip))) (R 11 [1, 2, 3] [.set 3 (xb .add (.va 3) (xr 1))])))))) (.seq (.seq (R 999 [1, 2, 4]
  [.set 4 (xi 0)]) (.block 2 (.loop (.seq (.seq (R 23 [1, 2, 4, 27] [.tmp 27 (xb .lss (.va 4) (xlen (xld (xfa 2 (.sl 1)))))]) (.cond (.s 27) .skip (.exit 2))) (.seq (.block 3 (.seq
  (R 30 [1, 2, 4, 36] [.tmp 36 (xc1 132 (xld (xfa 0 (xia 2 (xld (xfa 2 (.sl 1))) (.va 4)))))]) (.cond (.s 36) (.seq (R 37 [2] [.run (xst 3 (.sl 2) (.op (.p (.build
  [.int .i64 0, .int .i64 0, .int .i64 0] [(0, 1, .s 0), (1, 1, .s 1), (2, 1, .s 2)])) (.cons (xi 5) (.cons (xi 3) (.va 4)))))]) .ret) .skip))) (R 28 [1, 2, 4] [.set 4 (xb .add (.va
  4) (xi 1))])))))) (.seq (.seq (R 999 [1, 2, 5] [.set 5 (xi 0)]) (.block 4 (.loop (.seq (.seq (R 39 [1, 2, 5, 43] [.tmp 43 (xb .lss (.va 5) (xlen (xld (xfa 3 (.sl 1)))))]) (.cond
  (.s 43) .skip (.exit 4))) (.seq (.block 5 (.seq (R 46 [1, 2, 5, 52] [.tmp 52 (xc1 132 (xld (xfa 0 (xia 3 (xld (xfa 3 (.sl 1))) (.va 5)))))]) (.cond (.s 52) (.seq (R
  53 [2] [.run (xst 3 (.sl 2) (.op (.p (.build [.int .i64 0, .int .i64 0, .int .i64 0] [(0, 1, .s 0), (1, 1, .s 1), (2, 1, .s 2)])) (.cons (xi 5) (.cons (xi 4) (.va 5)))))]) .ret)
  .skip))) (R 44 [1, 2, 5] [.set 5 (xb .add (.va 5) (xi 1))])))))) (.seq (.seq (R 999 [1, 2, 6] [.set 6 (xi 0)]) (.block 6 (.loop (.seq (.seq (R 55 [1, 2, 6, 59] [.tmp 59 (xb .lss
  (.va 6) (xlen (xld (xfa 4 (.sl 1)))))]) (.cond (.s 59) .skip (.exit 6))) (.seq (.block 7 (.seq (R 62 [1, 2, 6, 7] [.set 7 (xld (xfa 0 (xia 2 (xld (xfa 4 (.sl 1))) (.va 6))))])
  (.seq (R 68 [1, 2, 6, 86] [.tmp 86 (.or (.and (xc1 132 (.va 7)) (.or (xb .lss (.va 7) (xr 65)) (xb .gtr (.va 7) (xr 90)))) (xc1 133 (xld (xfa 1 (xia 2
  (xld (xfa 4 (.sl 1))) (.va 6))))))]) (.cond (.s 86) (.seq (R 87 [2] [.run (xst 3 (.sl 2) (.op (.p (.build [.int .i64 0, .int .i64 0, .int .i64 0] [(0, 1, .s 0), (1, 1, .s 1), (2,
  1, .s 2)])) (.cons (xi 5) (.cons (xi 5) (.va 6)))))]) .ret) .skip)))) (R 60 [1, 2, 6] [.set 6 (xb .add (.va 6) (xi 1))])))))) (.seq (.seq (R 999 [1, 2, 8] [.set 8 (xi 0)]) (.block
  8 (.loop (.seq (.seq (R 89 [1, 2, 8, 93] [.tmp 93 (xb .lss (.va 8) (xlen (xld (xfa 5 (.sl 1)))))]) (.cond (.s 93) .skip (.exit 8))) (.seq (.block 9 (.seq (R 96 [1, 2, 8, 111]
  [.tmp 111 (.or (xc1 134 (xld (xfa 0 (xia 2 (xld (xfa 5 (.sl 1))) (.va 8))))) (xc1 133 (xld (xfa 1 (xia 2 (xld (xfa 5 (.sl 1))) (.va 8))))))]) (.cond
  (.s 111) (.seq (R 112 [2] [.run (xst 3 (.sl 2) (.op (.p (.build [.int .i64 0, .int .i64 0, .int .i64 0] [(0, 1, .s 0), (1, 1, .s 1), (2, 1, .s 2)])) (.cons (xi 5) (.cons (xi 6)
  (.va 8)))))]) .ret) .skip))) (R 94 [1, 2, 8] [.set 8 (xb .add (.va 8) (xi 1))])))))) (.seq (R 114 [2] [.run (xst 3 (.sl 2) (.op (.p (.build [.int .i64 0, .int .i64 0, .int .i64 0]
  [])) .nil))]) .ret)))))))
theorem fn_guiseref6_rows : (autoPrg Tryd.prog).fn 117 = some LF_guiseref6_rows := by kernel_rfl
def LF_guiseref6_house : LFunc :=
  .mk 1 [.cell 2 (some 3)] (.seq (R 1 [1, 2] [.tmp 1 (xbl 1 8 (.sl 0)), .tmp 2 (xnl 2 [.int .i64 0, .int .i64 0, .int .i64 0])]) (.seq (R 8 [1, 2, 3] [.tmp 9 (xc1 117
  (xln 8 (.sl 1))), .at 3, .tmp 3 (xnl 3 [.int .i64 0, .int .i64 0, .int .i64 0]), .run (xst 3 (.sl 3) (.sl 9))]) (.seq (.seq (R 10 [1, 2, 3, 12] [.tmp 12 (xb .neq (xld (xfa 0 (.sl
  3))) (xi 0))]) (.cond (.s 12) (.seq (R 13 [2] [.run (xst 3 (.sl 2) (xln 3 (.sl 3)))]) .ret) .skip)) (.seq (.seq (R 999 [1, 2, 4] [.set 4 (xi 0)]) (.block 0 (.loop (.seq (.seq (R
  14 [1, 2, 4, 18] [.tmp 18 (xb .lss (.va 4) (xlen (xld (xfa 6 (.sl 1)))))]) (.cond (.s 18) .skip (.exit 0))) (.seq (.block 1 (.seq (R 21 [1, 2, 4, 45] [.tmp 45 (.or (xb .lss (xld
  (xfa 0 (xia 2 (xld (xfa 6 (.sl 1))) (.va 4)))) (xr 128)) (.and (xb .leq (xld (xfa 0 (xia 2 (xld (xfa 6 (.sl 1))) (.va 4)))) (xr 65533)) (xb .leq (xr 65533) (xld (xfa 1 (xia 2 (xld
  (xfa 6 (.sl 1))) (.va 4)))))))]) (.cond (.s 45) (.seq (R 46 [2] [.run (xst 3 (.sl 2) (.op (.p (.build [.int .i64 0, .int .i64 0, .int .i64 0] [(0, 1, .s 0), (1, 1, .s 1), (2, 1,
  .s 2)])) (.cons (xi 5) (.cons (xi 7) (.va 4)))))]) .ret) .skip))) (R 19 [1, 2, 4] [.set 4 (xb .add (.va 4) (xi 1))])))))) (.seq (.seq (R 999 [1, 2, 5] [.set 5 (xi 0)]) (.block 2
  (.loop (.seq (.seq (R 48 [1, 2, 5, 52] [.tmp 52 (xb .lss (.va 5) (xlen (xld (xfa 7 (.sl 1)))))]) (.cond (.s 52) .skip (.exit 2))) (.seq (.block 3 (.seq (R 55 [1, 2, 5, 6] [.set 6
  (xld (xfa 0 (xia 2 (xld (xfa 7 (.sl 1))) (.va 5))))]) (.block 4 (.loop (.seq (.seq (R 61 [1, 2, 5, 6, 72] [.tmp 72 (.and (xb .leq (.va 6) (xld (xfa 1 (xia 2 (xld (xfa 7 (.sl 1)))
  (.va 5))))) (xb .lss (.va 6) (xr 128)))]) (.cond (.s 72) .skip (.exit 4))) (.seq (.block 5 (.seq (R 75 [1, 2, 5, 6, 92] [.tmp 92 (.and (.and (xb .neq (.va 6) (xr 45)) (.or (xb
  .lss (.va 6) (xr 48)) (xb .gtr (.va 6) (xr 57)))) (.or (xb .lss (.va 6) (xr 97)) (xb .gtr (.va 6) (xr 122))))]) (.cond (.s 92) (.seq (R 93 [2] [.run (xst 3 (.sl 2) (.op (.p
  (.build [.int .i64 0, .int .i64 0, .int .i64 0] [(0, 1, .s 0), (1, 1, .s 1), (2, 1, .s 2)])) (.cons (xi 5) (.cons (xi 8) (.va 5)))))]) .ret) .skip))) (R 73 [1, 2, 5, 6] [.set 6
  (xb .add (.va 6) (xr 1))]))))))) (R 53 [1, 2, 5] [.set 5 (xb .add (.va 5) (xi 1))])))))) (.seq (.seq (R 999 [1, 2, 7] [.set 7 (xr 45)]) (.block 6 (.loop (.seq (.seq (R 95 [1, 2,
  7, 96] [.tmp 96 (xb .leq (.va 7) (xr 122))]) (.cond (.s 96) .skip (.exit 6))) (.seq (.block 7 (.seq (R 99 [1, 2, 7, 119] [.tmp 119 (.and (.or (.or (xb .eql (.va 7) (xr 45)) (.and
  (xb .geq (.va 7) (xr 48)) (xb .leq (.va 7) (xr 57)))) (xb .geq (.va 7) (xr 97))) (xu .not (xc2 36 (.va 7) (xld (xfa 7 (.sl 1))))))]) (.cond (.s 119) (.seq (R 120 [2]
  [.run (xst 3 (.sl 2) (.op (.p (.build [.int .i64 0, .int .i64 0, .int .i64 0] [(0, 1, .s 0), (1, 1, .s 1)])) (.cons (xi 5) (xi 8))))]) .ret) .skip))) (R 97 [1, 2, 7] [.set 7 (xb
  .add (.va 7) (xr 1))])))))) (.seq (R 121 [2] [.run (xst 3 (.sl 2) (.op (.p (.build [.int .i64 0, .int .i64 0, .int .i64 0] [])) .nil))]) .ret)))))))
theorem fn_guiseref6_house : (autoPrg Tryd.prog).fn 72 = some LF_guiseref6_house := by kernel_rfl
def LF_guiseref6_Check : LFunc :=
  .mk 1 [.cell 2 (some 3)] (.seq (R 1 [1, 2] [.tmp 1 (xbl 1 8 (.sl 0)), .tmp 2 (xnl 2 [.int .i64 0, .int .i64 0, .int .i64 0])]) (.seq (R 4 [1, 2, 3] [.tmp 5 (xc1 66
  (xln 8 (.sl 1))), .at 3, .tmp 3 (xnl 3 [.int .i64 0, .int .i64 0, .int .i64 0]), .run (xst 3 (.sl 3) (.sl 5))]) (.seq (.seq (R 6 [1, 2, 3, 8] [.tmp 8 (xb .eql (xld (xfa 0 (.sl
  3))) (xi 0))]) (.cond (.s 8) (R 9 [1, 2, 3] [.run (xst 3 (.sl 3) (xc1 67 (xln 8 (.sl 1))))]) .skip)) (.seq (.seq (R 11 [1, 2, 3, 13] [.tmp 13 (xb .eql (xld (xfa 0
  (.sl 3))) (xi 0))]) (.cond (.s 13) (R 14 [1, 2, 3] [.run (xst 3 (.sl 3) (xc1 68 (xln 8 (.sl 1))))]) .skip)) (.seq (.seq (R 16 [1, 2, 3, 18] [.tmp 18 (xb .eql (xld
  (xfa 0 (.sl 3))) (xi 0))]) (.cond (.s 18) (R 19 [1, 2, 3] [.run (xst 3 (.sl 3) (xc1 69 (xln 8 (.sl 1))))]) .skip)) (.seq (.seq (R 21 [1, 2, 3, 23] [.tmp 23 (xb
  .eql (xld (xfa 0 (.sl 3))) (xi 0))]) (.cond (.s 23) (R 24 [1, 2, 3] [.run (xst 3 (.sl 3) (xc1 70 (xln 8 (.sl 1))))]) .skip)) (.seq (.seq (R 26 [1, 2, 3, 28] [.tmp
  28 (xb .eql (xld (xfa 0 (.sl 3))) (xi 0))]) (.cond (.s 28) (R 29 [1, 2, 3] [.run (xst 3 (.sl 3) (xc1 71 (xln 8 (.sl 1))))]) .skip)) (.seq (.seq (R 31 [1, 2, 3, 33]
  [.tmp 33 (xb .eql (xld (xfa 0 (.sl 3))) (xi 0))]) (.cond (.s 33) (R 34 [2, 3] [.run (xst 3 (.sl 3) (xc1 72 (xln 8 (.sl 1))))]) .skip)) (.seq (R 36 [2] [.run (xst
  3 (.sl 2) (xln 3 (.sl 3)))]) .ret)))))))))
theorem fn_guiseref6_Check : (autoPrg Tryd.prog).fn 33 = some LF_guiseref6_Check := by kernel_rfl
end Go.Proofs.YtblmakgjdenpfaaDoor.AM
namespace Go.Proofs.YtblmakgjdenpfaaDoor.AM
open Go
theorem any_scan {α : Type} {l : List α} {P : α → Prop} [DecidablePred P] : (l.any fun x => decide (P x)) = (scanL l fun _ x => if P x then some () else none).isSome := by
  cases h : scanL l fun _ x => if P x then some () else none with
  | some w =>
    obtain ⟨i, hi, hw⟩ := scanL_some h
    rw [List.any_eq_true.2 ⟨l[i], List.getElem_mem hi, by by_cases hp : P l[i]; exact decide_eq_true hp; rw [if_neg hp] at hw; cases hw⟩]; rfl
  | none =>
    rw [List.any_eq_false.2 fun x hx hp => ?_]; rfl
    obtain ⟨i, hi, rfl⟩ := List.mem_iff_getElem.1 hx
    have := scanL_none h i hi
    rw [if_pos (of_decide_eq_true hp)] at this
    cases this
theorem rune6_eq (r : Int) (h : AH) : callO PX 74 [.int .i32 r] h = some (.bool (runeI r), h) := by
  apply WpC.eqn
  refine wpc_fn (px_ext rfl) (px_fn fn_guiseref6_Rune) rfl ?_
  unfold LF_guiseref6_Rune
  simp only [argFr]
  (refine W_x trivial ?_; (repeat' first | apply Cj.mk | exact Nl.nl) <;> intros)
  all_goals (refine ⟨?_, rfl⟩; congr 1; symm; unfold runeI; first | (exact decide_eq_true (by omega)) | (exact decide_eq_false (by omega)))
theorem low6_eq (r : Int) (h : AH) : callO PX 132 [.int .i32 r] h = some (.bool (lowI r), h) := by
  apply WpC.eqn
  refine wpc_fn (px_ext rfl) (px_fn fn_guiseref6_low) rfl ?_
  unfold LF_guiseref6_low
  simp only [argFr]
  (refine W_x trivial ?_; (repeat' first | apply Cj.mk | exact Nl.nl) <;> intros)
  all_goals (refine ⟨?_, rfl⟩; congr 1; symm; unfold lowI; first | (exact decide_eq_true (by omega)) | (exact decide_eq_false (by omega)))
theorem set6_eq (r : Int) (h : AH) : callO PX 134 [.int .i32 r] h = some (.bool (setI r), h) := by
  apply WpC.eqn
  refine wpc_fn (px_ext rfl) (px_fn fn_guiseref6_set) rfl ?_
  unfold LF_guiseref6_set
  simp only [argFr]
  (refine W_x trivial ?_; (repeat' first | apply Cj.mk | exact Nl.nl) <;> intros)
  all_goals (refine ⟨?_, rfl⟩; congr 1; symm; unfold setI; first | (exact decide_eq_true (by omega)) | (exact decide_eq_false (by omega)))
theorem of6_eq {r : Int} {s : Sl} {l : List Span} {h : AH} (rd : Reads h 2 s (l.map pairV)) (hl : l.length < 100000000) : callO PX 36 [.int .i32 r, s.val 2] h = some (.bool (ofI r l), h) := by
  have hs := rd.len
  have e1 := rune6_eq r
  apply WpC.eqn
  refine wpc_fn (px_ext rfl) (px_fn fn_guiseref6_Of) rfl ?_
  unfold LF_guiseref6_Of
  simp only [argFr]
  unfold ofI
  rw [any_scan]
  generalize hb : runeI r = b at e1
  (refine W_x trivial ?_; (repeat' first | apply Cj.mk | exact Nl.nl) <;> intros)
  refine wp_scanF 5 l (fun _ x => if b = true ∧ x.1 ≤ r ∧ r ≤ x.2 then some () else none) (by intro n; simp only [setF, push_cast, Nat.reduceEqDiff, ↓reduceIte, reduceCtorEq, Nat.reduceAdd, Nat.reduceMul, Nat.reduceLeDiff]; rfl) rfl (fun i hi hit => ?_) fun fin => ?_
  · have g0 := fun lc => rd_mapc (lc := lc) rd hi (k := 0) (by decide)
    have g1 := fun lc => rd_mapc (lc := lc) rd hi (k := 1) (by decide)
    generalize l[i] = x at hit g0 g1
    unfold pairV at g0 g1
    cases b
    · (refine W_x (Aj hs (Aj e1 (Aj g0 g1))) ?_; (repeat' first | apply Cj.mk | exact Nl.nl) <;> intros)
      exact ⟨rfl, rfl, rfl, rfl⟩
    · (refine W_x (Aj hs (Aj e1 (Aj g0 g1))) ?_; (repeat' first | apply Cj.mk | exact Nl.nl) <;> intros)
      · simp only [true_and] at hit
        rw [hit () (if_pos (by omega))]
        exact ⟨rfl, rfl⟩
      all_goals exact ⟨if_neg (by omega), rfl, rfl, rfl⟩
  · (refine W_x hs ?_; (repeat' first | apply Cj.mk | exact Nl.nl) <;> intros)
    cases b
    · exact ⟨rfl, rfl⟩
    · simp only [true_and] at fin
      rw [fin]
      exact ⟨rfl, rfl⟩
theorem name6_eq (s : ByteArray) (h : AH) (hsz : s.size < 100000000) : callO PX 130 [.string s] h = some (.bool (nameB s.data.toList), h) := by
  apply WpC.eqn
  obtain ⟨l, hl⟩ : ∃ l, l = s.data.toList := ⟨_, rfl⟩
  have hll : l.length = s.size := by rw [hl]; rfl
  rw [← hl]
  refine wpc_fn (px_ext rfl) (px_fn fn_guiseref6_ScriptName) rfl ?_
  unfold LF_guiseref6_ScriptName
  simp only [argFr]
  unfold nameB
  (refine W_x trivial ?_; (repeat' first | apply Cj.mk | exact Nl.nl) <;> intros)
  refine wp_scanF 3 l (fun i c => if badNm i c then some () else none) (by intro n; simp only [setF, push_cast, Nat.reduceEqDiff, ↓reduceIte, reduceCtorEq, Nat.reduceAdd, Nat.reduceMul, Nat.reduceLeDiff]; rfl) rfl (fun i hi hit => ?_) fun fin => ?_
  · have hb : bat l i = (l[i]).toNat := by unfold bat; rw [List.getD_eq_getElem?_getD, List.getElem?_eq_getElem hi, Option.getD_some]
    generalize l[i] = c at hb hit
    have hc := u8_lt c
    unfold badNm at hit ⊢
    (refine W_x (Aj hl.symm hb) ?_; (repeat' first | apply Cj.mk | exact Nl.nl) <;> intros)
    all_goals first
      | exact ⟨if_neg (by omega), rfl, rfl, rfl⟩
      | (rw [hit () (if_pos (by omega))]; exact ⟨rfl, rfl⟩)
  · rw [fin]
    (refine W_x trivial ?_; (repeat' first | apply Cj.mk | exact Nl.nl) <;> intros)
    all_goals (refine ⟨?_, rfl⟩; congr 1; symm; first | (exact decide_eq_true (by omega)) | (exact decide_eq_false (by omega)))
theorem mark6_eq {S : TS} {T : Tab} {h : AH} (t : TabAt h S T) (r : Int) : callO PX 112 [.agg S.vs.toArray, .int .i32 r] h = some (.bool (isMark T r), h) := by
  have rd := t.r2
  have hn := t.fits.n2
  have hs := rd.len
  apply WpC.eqn
  refine wpc_fn (px_ext rfl) (px_fn fn_guiseref6_mark) rfl ?_
  unfold LF_guiseref6_mark
  simp only [argFr]
  unfold isMark
  rw [any_scan]
  unfold TS.vs
  (refine W_x trivial ?_; (repeat' first | apply Cj.mk | exact Nl.nl) <;> intros)
  refine wp_scanF 5 T.marks (fun _ x => if x.1 = r then some () else none) (by intro n; simp only [setF, push_cast, Nat.reduceEqDiff, ↓reduceIte, reduceCtorEq, Nat.reduceAdd, Nat.reduceMul, Nat.reduceLeDiff]; rfl) rfl (fun i hi hit => ?_) fun fin => ?_
  · have g0 := fun lc => rd_mapc (lc := lc) rd hi (k := 0) (by decide)
    generalize T.marks[i] = x at hit g0
    unfold markV at g0
    (refine W_x (Aj hs g0) ?_; (repeat' first | apply Cj.mk | exact Nl.nl) <;> intros)
    · rw [hit () (if_pos (by omega))]; exact ⟨rfl, rfl⟩
    · exact ⟨if_neg (by omega), rfl, rfl, rfl⟩
  · rw [fin]
    (refine W_x hs ?_; (repeat' first | apply Cj.mk | exact Nl.nl) <;> intros)
    exact ⟨rfl, rfl⟩
theorem whole6_eq {S : TS} {T : Tab} {h : AH} (t : TabAt h S T) (r : Int) : callO PX 114 [.agg S.vs.toArray, .int .i32 r] h = some (.int .i64 (ixI (wholeO T r)), h) := by
  have rd := t.r3
  have hn := t.fits.n3
  have hs := rd.len
  apply WpC.eqn
  refine wpc_fn (px_ext rfl) (px_fn fn_guiseref6_Whole) rfl ?_
  unfold LF_guiseref6_Whole
  simp only [argFr]
  unfold wholeO TS.vs
  (refine W_x trivial ?_; (repeat' first | apply Cj.mk | exact Nl.nl) <;> intros)
  refine wp_scanF 5 T.pairs (fun i x => if x.1 = r then some i else none) (by intro n; simp only [setF, push_cast, Nat.reduceEqDiff, ↓reduceIte, reduceCtorEq, Nat.reduceAdd, Nat.reduceMul, Nat.reduceLeDiff]; rfl) rfl (fun i hi hit => ?_) fun fin => ?_
  · have g0 := fun lc => rd_mapc (lc := lc) rd hi (k := 0) (by decide)
    generalize T.pairs[i] = x at hit g0
    unfold tripV at g0
    (refine W_x (Aj hs g0) ?_; (repeat' first | apply Cj.mk | exact Nl.nl) <;> intros)
    · rw [hit _ (if_pos (by omega))]; exact ⟨rfl, rfl⟩
    · exact ⟨if_neg (by omega), rfl, rfl, rfl⟩
  · rw [fin]
    (refine W_x hs ?_; (repeat' first | apply Cj.mk | exact Nl.nl) <;> intros)
    exact ⟨rfl, rfl⟩
theorem from6_eq {s : Sl} {l : List (Int × ByteArray)} {h : AH} (rd : Reads h 2 s (l.map mapV)) (hn : l.length < 100000000) (r : Int) : callO PX 111 [s.val 2, .int .i32 r] h = some (.int .i64 (ixI (fromO l r)), h) := by
  have hs := rd.len
  apply WpC.eqn
  refine wpc_fn (px_ext rfl) (px_fn fn_guiseref6_From) rfl ?_
  unfold LF_guiseref6_From
  simp only [argFr]
  unfold fromO
  (refine W_x trivial ?_; (repeat' first | apply Cj.mk | exact Nl.nl) <;> intros)
  refine wp_scanF 5 l (fun i x => if x.1 = r then some i else none) (by intro n; simp only [setF, push_cast, Nat.reduceEqDiff, ↓reduceIte, reduceCtorEq, Nat.reduceAdd, Nat.reduceMul, Nat.reduceLeDiff]; rfl) rfl (fun i hi hit => ?_) fun fin => ?_
  · have g0 := fun lc => rd_mapc (lc := lc) rd hi (k := 0) (by decide)
    generalize l[i] = x at hit g0
    unfold mapV at g0
    (refine W_x (Aj hs g0) ?_; (repeat' first | apply Cj.mk | exact Nl.nl) <;> intros)
    · rw [hit _ (if_pos (by omega))]; exact ⟨rfl, rfl⟩
    · exact ⟨if_neg (by omega), rfl, rfl, rfl⟩
  · rw [fin]
    (refine W_x hs ?_; (repeat' first | apply Cj.mk | exact Nl.nl) <;> intros)
    exact ⟨rfl, rfl⟩
theorem ixI_neg {o : Option Nat} : (ixI o < 0) ↔ o.isNone = true := by cases o <;> simp [ixI]
theorem plain6_eq {S : TS} {T : Tab} {h : AH} (t : TabAt h S T) (r : Int) : callO PX 116 [.agg S.vs.toArray, .int .i32 r] h = some (.bool (plainI T r), h) := by
  have e1 := rune6_eq r
  have e2 := mark6_eq t r
  have e3 := whole6_eq t r
  have e4 := of6_eq t.r6 t.fits.n6 (r := r)
  have e5 := from6_eq t.r4 t.fits.n4 r
  have i3 := ixI_neg (o := wholeO T r)
  have i5 := ixI_neg (o := fromO T.folds r)
  apply WpC.eqn
  refine wpc_fn (px_ext rfl) (px_fn fn_guiseref6_Plain) rfl ?_
  unfold LF_guiseref6_Plain
  simp only [argFr]
  unfold plainI TS.vs
  unfold TS.vs at e2 e3
  generalize runeI r = b1 at e1
  generalize isMark T r = b2 at e2
  generalize wholeO T r = o3 at e3 i3
  generalize ofI r T.drops = b4 at e4
  generalize fromO T.folds r = o5 at e5 i5
  cases b1
  · (refine W_x e1 ?_; (repeat' first | apply Cj.mk | exact Nl.nl) <;> intros)
    exact ⟨rfl, rfl⟩
  cases b2
  · (refine W_x (Aj e1 (Aj e2 e3)) ?_; (repeat' first | apply Cj.mk | exact Nl.nl) <;> intros)
    · rw [i3.1 (by assumption)]
      cases b4
      · (refine W_x (Aj e4 e5) ?_; (repeat' first | apply Cj.mk | exact Nl.nl) <;> intros)
        all_goals (refine ⟨?_, rfl⟩; congr 1; symm)
        · rw [i5.1 (by assumption)]; rfl
        · rename_i hh
          cases hq : o5.isNone
          · rfl
          · exact absurd (i5.2 hq) hh
      · (refine W_x e4 ?_; (repeat' first | apply Cj.mk | exact Nl.nl) <;> intros)
        exact ⟨rfl, rfl⟩
    · rename_i hh
      cases hq : o3.isNone
      · exact ⟨rfl, rfl⟩
      · exact absurd (i3.2 hq) hh
  · (refine W_x (Aj e1 e2) ?_; (repeat' first | apply Cj.mk | exact Nl.nl) <;> intros)
    exact ⟨rfl, rfl⟩
end Go.Proofs.YtblmakgjdenpfaaDoor.AM
namespace Go.Proofs.YtblmakgjdenpfaaDoor.AM
open Go
def rnV (c : Nat) : List Value := [.int .i32 c]
def rnB (l : Bytes) : Option (List Nat) := if validB l then some (runesB l) else none
theorem rnB_nil : rnB [] = some [] := rfl
theorem rnB_enc {c : Nat} (hc : RuneN c) (rest : Bytes) : rnB (encN c ++ rest) = (rnB rest).map (c :: ·) := by
  unfold rnB
  rw [validB_enc hc, runesB_enc hc]
  split <;> rfl
theorem rnB_bad {l : Bytes} (hl : l ≠ []) (hd : dec1 l = (0xFFFD, 1)) : rnB l = none := by
  unfold rnB
  rw [validB_bad hl hd]
  rfl
inductive Seq1 (l : Bytes) : Prop
  | one (h : bat l 0 < 128) (e : rnB l = (rnB (l.drop 1)).map (bat l 0 :: ·))
  | two (a : 192 ≤ bat l 0) (b : bat l 0 < 224) (n : 1 < l.length) (c1 : 128 ≤ bat l 1 ∧ bat l 1 < 192) (r : 128 ≤ (bat l 0 - 192) * 64 + (bat l 1 - 128)) (e : rnB l = (rnB (l.drop 2)).map (((bat l 0 - 192) * 64 + (bat l 1 - 128)) :: ·))
  | three (a : 224 ≤ bat l 0) (b : bat l 0 < 240) (n : 2 < l.length) (c1 : 128 ≤ bat l 1 ∧ bat l 1 < 192) (c2 : 128 ≤ bat l 2 ∧ bat l 2 < 192) (r : 2048 ≤ ((bat l 0 - 224) * 64 + (bat l 1 - 128)) * 64 + (bat l 2 - 128))
      (v : RuneN (((bat l 0 - 224) * 64 + (bat l 1 - 128)) * 64 + (bat l 2 - 128))) (e : rnB l = (rnB (l.drop 3)).map ((((bat l 0 - 224) * 64 + (bat l 1 - 128)) * 64 + (bat l 2 - 128)) :: ·))
  | four (a : 240 ≤ bat l 0) (b : bat l 0 < 248) (n : 3 < l.length) (c1 : 128 ≤ bat l 1 ∧ bat l 1 < 192) (c2 : 128 ≤ bat l 2 ∧ bat l 2 < 192) (c3 : 128 ≤ bat l 3 ∧ bat l 3 < 192)
      (r : 65536 ≤ (((bat l 0 - 240) * 64 + (bat l 1 - 128)) * 64 + (bat l 2 - 128)) * 64 + (bat l 3 - 128)) (v : RuneN ((((bat l 0 - 240) * 64 + (bat l 1 - 128)) * 64 + (bat l 2 - 128)) * 64 + (bat l 3 - 128)))
      (e : rnB l = (rnB (l.drop 4)).map (((((bat l 0 - 240) * 64 + (bat l 1 - 128)) * 64 + (bat l 2 - 128)) * 64 + (bat l 3 - 128)) :: ·))
  | bad (e : rnB l = none) (h : 128 ≤ bat l 0)
      (h2 : 192 ≤ bat l 0 → bat l 0 < 224 → 1 < l.length → 128 ≤ bat l 1 → bat l 1 < 192 → (bat l 0 - 192) * 64 + (bat l 1 - 128) < 128)
      (h3 : 224 ≤ bat l 0 → bat l 0 < 240 → 2 < l.length → 128 ≤ bat l 1 → bat l 1 < 192 → 128 ≤ bat l 2 → bat l 2 < 192 → ((bat l 0 - 224) * 64 + (bat l 1 - 128)) * 64 + (bat l 2 - 128) < 2048 ∨ ¬ RuneN (((bat l 0 - 224) * 64 + (bat l 1 - 128)) * 64 + (bat l 2 - 128)))
      (h4 : 240 ≤ bat l 0 → bat l 0 < 248 → 3 < l.length → 128 ≤ bat l 1 → bat l 1 < 192 → 128 ≤ bat l 2 → bat l 2 < 192 → 128 ≤ bat l 3 → bat l 3 < 192 →
        (((bat l 0 - 240) * 64 + (bat l 1 - 128)) * 64 + (bat l 2 - 128)) * 64 + (bat l 3 - 128) < 65536 ∨ ¬ RuneN ((((bat l 0 - 240) * 64 + (bat l 1 - 128)) * 64 + (bat l 2 - 128)) * 64 + (bat l 3 - 128)))
theorem bat_lt (l : Bytes) (k : Nat) : bat l k < 256 := u8_lt _
theorem bcont_iff {l : Bytes} {k : Nat} : bcont l k = true ↔ k < l.length ∧ 128 ≤ bat l k ∧ bat l k < 192 := by
  unfold bcont
  have := bat_lt l k
  simp only [Bool.and_eq_true, decide_eq_true_eq, beq_iff_eq]
  omega
theorem good_of {l : Bytes} {c w : Nat} (hl : l ≠ []) (hd : dec1 l = (c, w)) (hne : ¬ (c = 0xFFFD ∧ w = 1)) : RuneN c ∧ rnB l = (rnB (l.drop w)).map (c :: ·) := by
  rcases dec_cases hl with ⟨c', rest, hc, e, hd'⟩ | ⟨hb, _⟩
  · rw [hd] at hd'
    injection hd' with h1 h2
    subst h1 h2
    refine ⟨hc, ?_⟩
    conv => lhs; rw [e]
    rw [rnB_enc hc, e, List.drop_left]
  · rw [hd] at hb
    injection hb with h1 h2
    exact absurd ⟨h1, h2⟩ hne
theorem seq1 {l : Bytes} (hl : l ≠ []) : Seq1 l := by
  have h0 := bat_lt l 0
  have h1 := bat_lt l 1
  have h2 := bat_lt l 2
  have h3 := bat_lt l 3
  have g1 := bcont_iff (l := l) (k := 1)
  have g2 := bcont_iff (l := l) (k := 2)
  have g3 := bcont_iff (l := l) (k := 3)
  have good := fun c w => good_of (c := c) (w := w) hl
  have bad := fun h => rnB_bad hl h
  have val := fun c => valid_iff c
  unfold dec1 at good bad
  by_cases c0 : bat l 0 < 128
  · exact .one c0 (good _ _ (if_pos c0) (by omega)).2
  simp only [if_neg c0] at good bad
  by_cases c1 : (bat l 0 / 32 == 6 && bcont l 1) = true
  · simp only [if_pos c1] at good bad
    simp only [Bool.and_eq_true, beq_iff_eq, g1] at c1
    by_cases c2 : bat l 0 % 32 * 64 + bat l 1 % 64 ≥ 128
    · simp only [if_pos c2] at good
      have := (good _ _ rfl (by omega)).2
      rw [show bat l 0 % 32 * 64 + bat l 1 % 64 = (bat l 0 - 192) * 64 + (bat l 1 - 128) by omega] at this
      exact .two (by omega) (by omega) (by omega) (by omega) (by omega) this
    · simp only [if_neg c2] at bad
      exact .bad (bad trivial) (by omega) (fun _ _ _ _ _ => by omega) (fun _ _ => by omega) (fun _ _ => by omega)
  simp only [if_neg c1] at good bad
  simp only [Bool.and_eq_true, beq_iff_eq, g1] at c1
  by_cases c2 : (bat l 0 / 16 == 14 && bcont l 1 && bcont l 2) = true
  · simp only [if_pos c2] at good bad
    simp only [Bool.and_eq_true, beq_iff_eq, g1, g2] at c2
    have e : bat l 0 % 16 * 4096 + bat l 1 % 64 * 64 + bat l 2 % 64 = ((bat l 0 - 224) * 64 + (bat l 1 - 128)) * 64 + (bat l 2 - 128) := by omega
    rw [e] at good bad
    by_cases c3 : (decide (((bat l 0 - 224) * 64 + (bat l 1 - 128)) * 64 + (bat l 2 - 128) ≥ 2048) && Utf8.valid ((((bat l 0 - 224) * 64 + (bat l 1 - 128)) * 64 + (bat l 2 - 128) : Nat))) = true
    · simp only [if_pos c3] at good
      obtain ⟨a1, a2⟩ := good _ _ rfl (by omega)
      simp only [Bool.and_eq_true, decide_eq_true_eq] at c3
      exact .three (by omega) (by omega) (by omega) (by omega) (by omega) (by omega) a1 a2
    · simp only [if_neg c3] at bad
      simp only [Bool.and_eq_true, decide_eq_true_eq, val] at c3
      exact .bad (bad trivial) (by omega) (fun _ _ => by omega) (fun _ _ _ _ _ _ _ => by
        by_cases hr : RuneN (((bat l 0 - 224) * 64 + (bat l 1 - 128)) * 64 + (bat l 2 - 128))
        · exact .inl (Nat.lt_of_not_le fun h => c3 ⟨h, hr⟩)
        · exact .inr hr) (fun _ _ => by omega)
  simp only [if_neg c2] at good bad
  simp only [Bool.and_eq_true, beq_iff_eq, g1, g2] at c2
  by_cases c3 : (bat l 0 / 8 == 30 && bcont l 1 && bcont l 2 && bcont l 3) = true
  · simp only [if_pos c3] at good bad
    simp only [Bool.and_eq_true, beq_iff_eq, g1, g2, g3] at c3
    have e : bat l 0 % 8 * 262144 + bat l 1 % 64 * 4096 + bat l 2 % 64 * 64 + bat l 3 % 64 = (((bat l 0 - 240) * 64 + (bat l 1 - 128)) * 64 + (bat l 2 - 128)) * 64 + (bat l 3 - 128) := by omega
    rw [e] at good bad
    by_cases c4 : (decide ((((bat l 0 - 240) * 64 + (bat l 1 - 128)) * 64 + (bat l 2 - 128)) * 64 + (bat l 3 - 128) ≥ 65536) && Utf8.valid (((((bat l 0 - 240) * 64 + (bat l 1 - 128)) * 64 + (bat l 2 - 128)) * 64 + (bat l 3 - 128) : Nat))) = true
    · simp only [if_pos c4] at good
      obtain ⟨a1, a2⟩ := good _ _ rfl (by omega)
      simp only [Bool.and_eq_true, decide_eq_true_eq] at c4
      exact .four (by omega) (by omega) (by omega) (by omega) (by omega) (by omega) (by omega) a1 a2
    · simp only [if_neg c4] at bad
      simp only [Bool.and_eq_true, decide_eq_true_eq, val] at c4
      exact .bad (bad trivial) (by omega) (fun _ _ => by omega) (fun _ _ => by omega) (fun _ _ _ _ _ _ _ _ _ => by
        by_cases hr : RuneN ((((bat l 0 - 240) * 64 + (bat l 1 - 128)) * 64 + (bat l 2 - 128)) * 64 + (bat l 3 - 128))
        · exact .inl (Nat.lt_of_not_le fun h => c4 ⟨h, hr⟩)
        · exact .inr hr)
  simp only [if_neg c3] at good bad
  simp only [Bool.and_eq_true, beq_iff_eq, g1, g2, g3] at c3
  exact .bad (bad trivial) (by omega) (fun _ _ _ _ _ => by omega) (fun _ _ _ _ _ _ _ => by omega) (fun _ _ _ _ _ _ _ _ _ => by omega)
instance (c : Nat) : Decidable (RuneN c) := by unfold RuneN; infer_instance
theorem bat_drop (l : Bytes) (i k : Nat) : bat (l.drop i) k = bat l (i + k) := by
  unfold bat
  rw [List.getD_eq_getElem?_getD, List.getD_eq_getElem?_getD, List.getElem?_drop]
set_option maxHeartbeats 1000000 in
theorem runes6_spec (s : ByteArray) (h : AH) (hsz : s.size < 100000000) :
    WpC PX 115 [.string s] h fun v h' => ∃ s', v = .tuple (List.toArray [s'.val 1, .bool (rnO s).isSome]) ∧ FOwn h h' 1 s' (((rnO s).getD []).map rnV) := by
  obtain ⟨l, hl⟩ : ∃ l, l = s.data.toList := ⟨_, rfl⟩
  have hll : l.length = s.size := by rw [hl]; rfl
  have hr : rnO s = rnB l := by rw [hl]; rfl
  rw [hr]
  refine wpc_fn (px_ext rfl) (px_fn fn_guiseref6_Runes) rfl ?_
  unfold LF_guiseref6_Runes
  simp only [argFr]
  (refine W_x trivial ?_; (repeat' first | apply Cj.mk | exact Nl.nl) <;> intros)
  refine wp_loop (fun n fr lc h1 => ∃ (i : Nat) (R : List Nat) (sl : Sl), n = l.length - i ∧ i ≤ l.length ∧ R.length ≤ i ∧ rnB l = (rnB (l.drop i)).map (R ++ ·) ∧ FOwn h h1 1 sl (R.map rnV) ∧ fr = [(0, .string s), (4, sl.val 1), (5, .int .i64 i)] ∧ lc = []) l.length
    ⟨0, [], .nil, rfl, Nat.zero_le _, Nat.zero_le _, by simp, FOwn.nil (Kp.refl h), rfl, rfl⟩ ?_
  rintro n fr lc h1 ⟨i, R, sl, rfl, hi, hRi, hR, fo, rfl, rfl⟩
  have hst : ∀ c w, 0 < w → i + w ≤ l.length → rnB (l.drop i) = (rnB ((l.drop i).drop w)).map (c :: ·) → ∀ s2 h2 d, FOwn h h2 1 s2 (R.map rnV ++ [d]) → d = rnV c →
      ∃ n', n' < l.length - i ∧ ∃ (i' : Nat) (R' : List Nat) (sl' : Sl), n' = l.length - i' ∧ i' ≤ l.length ∧ R'.length ≤ i' ∧ rnB l = (rnB (l.drop i')).map (R' ++ ·) ∧ FOwn h h2 1 sl' (R'.map rnV) ∧ s2 = sl' ∧ i' = i + w := fun c w hw hle he s2 h2 d f2 hd =>
    ⟨l.length - (i + w), by omega, i + w, R ++ [c], s2, rfl, hle, by simp only [List.length_append, List.length_singleton]; omega, by
      rw [hR, he, List.drop_drop, Option.map_map]
      congr 1
      funext x
      simp, by rw [List.map_append, List.map_singleton, ← hd]; exact f2, rfl, rfl⟩
  rcases Nat.lt_or_ge i l.length with hil | hil
  · have hne : l.drop i ≠ [] := fun e => by have := congrArg List.length e; rw [List.length_drop, List.length_nil] at this; omega
    have t1 : ((i : Int) + 1).toNat = i + 1 := by omega
    have t2 : ((i : Int) + 2).toNat = i + 2 := by omega
    have t3 : ((i : Int) + 3).toNat = i + 3 := by omega
    have b0 := bat_lt l i
    have b1 := bat_lt l (i + 1)
    have b2 := bat_lt l (i + 2)
    have b3 := bat_lt l (i + 3)
    have e6 := fun c : Nat => rune6_eq (c : Int)
    have sq := seq1 hne
    generalize hB : rnB (l.drop i) = B at sq hR hst
    have dl : (l.drop i).length = l.length - i := List.length_drop
    have r6 := fun z h => rune6_eq z h
    obtain ⟨x0, q0⟩ : ∃ x, bat l i = x := ⟨_, rfl⟩
    obtain ⟨x1, q1⟩ : ∃ x, bat l (i + 1) = x := ⟨_, rfl⟩
    obtain ⟨x2, q2⟩ : ∃ x, bat l (i + 2) = x := ⟨_, rfl⟩
    obtain ⟨x3, q3⟩ : ∃ x, bat l (i + 3) = x := ⟨_, rfl⟩
    rw [q0] at b0
    rw [q1] at b1
    rw [q2] at b2
    rw [q3] at b3
    rcases sq with ⟨hh, e⟩ | ⟨a, b, n, c1, r, e⟩ | ⟨a, b, n, c1, c2, r, v, e⟩ | ⟨a, b, n, c1, c2, c3, r, v, e⟩ | ⟨e, hh, g2, g3, g4⟩
    all_goals rw [hB] at e
    · simp only [bat_drop, Nat.add_zero, q0] at hh e
      (refine W_x (Aj hl.symm q0) ?_; (repeat' first | apply Cj.mk | exact Nl.nl) <;> intros)
      refine wo_app1 fo rfl rfl (by decide) (by decide) (by rw [List.length_map]; omega) fun s2 h2 f2 => ?_
      (refine W_x trivial ?_; (repeat' first | apply Cj.mk | exact Nl.nl) <;> intros)
      obtain ⟨n', g1, i', R', sl', g2, g3, g4, g5, g6, rfl, rfl⟩ := hst _ 1 (by decide) (by omega) e s2 h2 _ f2 rfl
      exact ⟨n', g1, _, R', s2, g2, g3, g4, g5, g6, by simp only [Int.natCast_add]; rfl, rfl⟩
    · simp only [bat_drop, Nat.add_zero, q0, q1] at a b c1 r e
      have hv : runeI (((x0 : Int) - 192) * 64 + ((x1 : Int) - 128)) = true := by unfold runeI; exact decide_eq_true (by omega)
      (refine W_x (Aj hl.symm q0) ?_; (repeat' first | apply Cj.mk | exact Nl.nl) <;> intros)
      refine wp_unroll ?_
      (refine W_x (Aj hl.symm (Aj t1 q1)) ?_; (repeat' first | apply Cj.mk | exact Nl.nl) <;> intros)
      refine wp_unroll ?_
      (refine W_x (Aj hl.symm (Aj r6 hv)) ?_; (repeat' first | apply Cj.mk | exact Nl.nl) <;> intros)
      refine wo_app1 fo rfl rfl (by decide) (by decide) (by rw [List.length_map]; omega) fun s2 h2 f2 => ?_
      (refine W_x trivial ?_; (repeat' first | apply Cj.mk | exact Nl.nl) <;> intros)
      obtain ⟨n', g1, i', R', sl', g2, g3, g4, g5, g6, rfl, rfl⟩ := hst _ 2 (by decide) (by omega) e s2 h2 _ f2 (by unfold rnV; congr 2; omega)
      exact ⟨n', g1, _, R', s2, g2, g3, g4, g5, g6, by simp only [Int.natCast_add]; rfl, rfl⟩
    · simp only [bat_drop, Nat.add_zero, q0, q1, q2] at a b c1 c2 r v e
      unfold RuneN at v
      have hv : runeI ((((x0 : Int) - 224) * 64 + ((x1 : Int) - 128)) * 64 + ((x2 : Int) - 128)) = true := by unfold runeI; exact decide_eq_true (by omega)
      (refine W_x (Aj hl.symm q0) ?_; (repeat' first | apply Cj.mk | exact Nl.nl) <;> intros)
      refine wp_unroll ?_
      (refine W_x (Aj hl.symm (Aj t1 q1)) ?_; (repeat' first | apply Cj.mk | exact Nl.nl) <;> intros)
      refine wp_unroll ?_
      (refine W_x (Aj hl.symm (Aj t2 q2)) ?_; (repeat' first | apply Cj.mk | exact Nl.nl) <;> intros)
      refine wp_unroll ?_
      (refine W_x (Aj hl.symm (Aj r6 hv)) ?_; (repeat' first | apply Cj.mk | exact Nl.nl) <;> intros)
      refine wo_app1 fo rfl rfl (by decide) (by decide) (by rw [List.length_map]; omega) fun s2 h2 f2 => ?_
      (refine W_x trivial ?_; (repeat' first | apply Cj.mk | exact Nl.nl) <;> intros)
      obtain ⟨n', g1, i', R', sl', g2, g3, g4, g5, g6, rfl, rfl⟩ := hst _ 3 (by decide) (by omega) e s2 h2 _ f2 (by unfold rnV; congr 2; omega)
      exact ⟨n', g1, _, R', s2, g2, g3, g4, g5, g6, by simp only [Int.natCast_add]; rfl, rfl⟩
    · simp only [bat_drop, Nat.add_zero, q0, q1, q2, q3] at a b c1 c2 c3 r v e
      unfold RuneN at v
      have hv : runeI (((((x0 : Int) - 240) * 64 + ((x1 : Int) - 128)) * 64 + ((x2 : Int) - 128)) * 64 + ((x3 : Int) - 128)) = true := by unfold runeI; exact decide_eq_true (by omega)
      (refine W_x (Aj hl.symm q0) ?_; (repeat' first | apply Cj.mk | exact Nl.nl) <;> intros)
      refine wp_unroll ?_
      (refine W_x (Aj hl.symm (Aj t1 q1)) ?_; (repeat' first | apply Cj.mk | exact Nl.nl) <;> intros)
      refine wp_unroll ?_
      (refine W_x (Aj hl.symm (Aj t2 q2)) ?_; (repeat' first | apply Cj.mk | exact Nl.nl) <;> intros)
      refine wp_unroll ?_
      (refine W_x (Aj hl.symm (Aj t3 q3)) ?_; (repeat' first | apply Cj.mk | exact Nl.nl) <;> intros)
      refine wp_unroll ?_
      (refine W_x (Aj hl.symm (Aj r6 hv)) ?_; (repeat' first | apply Cj.mk | exact Nl.nl) <;> intros)
      refine wo_app1 fo rfl rfl (by decide) (by decide) (by rw [List.length_map]; omega) fun s2 h2 f2 => ?_
      (refine W_x trivial ?_; (repeat' first | apply Cj.mk | exact Nl.nl) <;> intros)
      obtain ⟨n', g1, i', R', sl', g2, g3, g4, g5, g6, rfl, rfl⟩ := hst _ 4 (by decide) (by omega) e s2 h2 _ f2 (by unfold rnV; congr 2; omega)
      exact ⟨n', g1, _, R', s2, g2, g3, g4, g5, g6, by simp only [Int.natCast_add]; rfl, rfl⟩
    · simp only [bat_drop, Nat.add_zero, q0, q1, q2, q3, dl] at hh g2 g3 g4
      unfold RuneN at g3 g4
      rw [e, Option.map_none] at hR
      have fo0 := FOwn.nil (e := 1) fo.kp
      rw [hR]
      by_cases c1 : x0 < 192
      · (refine W_x (Aj hl.symm q0) ?_; (repeat' first | apply Cj.mk | exact Nl.nl) <;> intros)
        exact ⟨.nil, rfl, fo0⟩
      by_cases c2 : x0 < 224
      · (refine W_x (Aj hl.symm q0) ?_; (repeat' first | apply Cj.mk | exact Nl.nl) <;> intros)
        refine wp_unroll ?_
        (refine W_x (Aj hl.symm (Aj t1 q1)) ?_; (repeat' first | apply Cj.mk | exact Nl.nl) <;> intros)
        · exact ⟨.nil, rfl, fo0⟩
        · exact ⟨.nil, rfl, fo0⟩
        · exact ⟨.nil, rfl, fo0⟩
        · refine wp_unroll ?_
          (refine W_x (Aj hl.symm r6) ?_; (repeat' first | apply Cj.mk | exact Nl.nl) <;> intros)
          exact ⟨.nil, rfl, fo0⟩
      by_cases c3 : x0 < 240
      · (refine W_x (Aj hl.symm q0) ?_; (repeat' first | apply Cj.mk | exact Nl.nl) <;> intros)
        refine wp_unroll ?_
        (refine W_x (Aj hl.symm (Aj t1 q1)) ?_; (repeat' first | apply Cj.mk | exact Nl.nl) <;> intros)
        · exact ⟨.nil, rfl, fo0⟩
        · exact ⟨.nil, rfl, fo0⟩
        · exact ⟨.nil, rfl, fo0⟩
        · refine wp_unroll ?_
          (refine W_x (Aj hl.symm (Aj t2 q2)) ?_; (repeat' first | apply Cj.mk | exact Nl.nl) <;> intros)
          · exact ⟨.nil, rfl, fo0⟩
          · exact ⟨.nil, rfl, fo0⟩
          · exact ⟨.nil, rfl, fo0⟩
          · refine wp_unroll ?_
            (refine W_x (Aj hl.symm r6) ?_; (repeat' first | apply Cj.mk | exact Nl.nl) <;> intros)
            · exact ⟨.nil, rfl, fo0⟩
            · have hv : runeI ((((x0 : Int) - 224) * 64 + ((x1 : Int) - 128)) * 64 + ((x2 : Int) - 128)) = false := by unfold runeI; exact decide_eq_false (by omega)
              (refine W_x hv ?_; (repeat' first | apply Cj.mk | exact Nl.nl) <;> intros)
              exact ⟨.nil, rfl, fo0⟩
      by_cases c4 : x0 < 248
      · (refine W_x (Aj hl.symm q0) ?_; (repeat' first | apply Cj.mk | exact Nl.nl) <;> intros)
        refine wp_unroll ?_
        (refine W_x (Aj hl.symm (Aj t1 q1)) ?_; (repeat' first | apply Cj.mk | exact Nl.nl) <;> intros)
        · exact ⟨.nil, rfl, fo0⟩
        · exact ⟨.nil, rfl, fo0⟩
        · exact ⟨.nil, rfl, fo0⟩
        · refine wp_unroll ?_
          (refine W_x (Aj hl.symm (Aj t2 q2)) ?_; (repeat' first | apply Cj.mk | exact Nl.nl) <;> intros)
          · exact ⟨.nil, rfl, fo0⟩
          · exact ⟨.nil, rfl, fo0⟩
          · exact ⟨.nil, rfl, fo0⟩
          · refine wp_unroll ?_
            (refine W_x (Aj hl.symm (Aj t3 q3)) ?_; (repeat' first | apply Cj.mk | exact Nl.nl) <;> intros)
            · exact ⟨.nil, rfl, fo0⟩
            · exact ⟨.nil, rfl, fo0⟩
            · exact ⟨.nil, rfl, fo0⟩
            · refine wp_unroll ?_
              (refine W_x (Aj hl.symm r6) ?_; (repeat' first | apply Cj.mk | exact Nl.nl) <;> intros)
              · exact ⟨.nil, rfl, fo0⟩
              · have hv : runeI (((((x0 : Int) - 240) * 64 + ((x1 : Int) - 128)) * 64 + ((x2 : Int) - 128)) * 64 + ((x3 : Int) - 128)) = false := by unfold runeI; exact decide_eq_false (by omega)
                (refine W_x hv ?_; (repeat' first | apply Cj.mk | exact Nl.nl) <;> intros)
                exact ⟨.nil, rfl, fo0⟩
      · (refine W_x (Aj hl.symm q0) ?_; (repeat' first | apply Cj.mk | exact Nl.nl) <;> intros)
        exact ⟨.nil, rfl, fo0⟩
  · have hie : i = l.length := by omega
    subst hie
    rw [List.drop_length, rnB_nil] at hR
    simp only [Option.map_some, List.append_nil] at hR
    (refine W_x trivial ?_; (repeat' first | apply Cj.mk | exact Nl.nl) <;> intros)
    rw [hR]
    exact ⟨sl, rfl, fo⟩
end Go.Proofs.YtblmakgjdenpfaaDoor.AM
namespace Go.Proofs.YtblmakgjdenpfaaDoor.AM
open Go
theorem span6_eq {s : Sl} {l : List Span} {h : AH} (rd : Reads h 2 s (l.map pairV)) (hl : l.length < 100000000) (i : Nat) (hi : i < l.length) :
    callO PX 131 [s.val 2, .int .i64 i] h = some (.int .i64 ((spanE l i l[i]).getD 0), h) := by
  have hs := rd.len
  have e1 := rune6_eq
  have g0 := fun lc => rd_mapc (lc := lc) rd hi (k := 0) (by decide)
  have g1 := fun lc => rd_mapc (lc := lc) rd hi (k := 1) (by decide)
  have gp : 0 < i → ∀ lc, Mem.rd ⟨lc, h⟩ (ptrOff (s.adr 2 (i - 1)) 1) 1 = some [.int .i32 (l.getD (i - 1) (0, 0)).2] := fun h0 lc => by
    have := rd_mapc (lc := lc) rd (i := i - 1) (by omega) (k := 1) (by decide)
    rw [this, List.getD_eq_getElem?_getD, List.getElem?_eq_getElem (by omega : i - 1 < l.length), Option.getD_some]
    rfl
  have t1 : ((i : Int) - 1).toNat = i - 1 := by omega
  apply WpC.eqn
  refine wpc_fn (px_ext rfl) (px_fn fn_guiseref6_span) rfl ?_
  unfold LF_guiseref6_span
  simp only [argFr]
  unfold spanE
  generalize l.getD (i - 1) (0, 0) = y at gp
  generalize l[i] = x at g0 g1
  unfold pairV at g0 g1
  have e2 := e1 x.1
  have e3 := e1 x.2
  generalize runeI x.1 = b1 at e2
  generalize runeI x.2 = b2 at e3
  cases b1
  · (refine W_x (Aj hs (Aj g0 e2)) ?_; (repeat' first | apply Cj.mk | exact Nl.nl) <;> intros)
    rw [if_pos (.inl rfl)]
    exact ⟨rfl, rfl⟩
  cases b2
  · (refine W_x (Aj hs (Aj g0 (Aj g1 (Aj e2 e3)))) ?_; (repeat' first | apply Cj.mk | exact Nl.nl) <;> intros)
    rw [if_pos (.inr rfl)]
    exact ⟨rfl, rfl⟩
  rw [if_neg (by simp)]
  by_cases h0 : 0 < i
  · have gp := gp h0
    (refine W_x (Aj hs (Aj g0 (Aj g1 (Aj e2 (Aj e3 (Aj gp t1)))))) ?_; (repeat' first | apply Cj.mk | exact Nl.nl) <;> intros)
    · rw [if_pos (by omega)]; exact ⟨rfl, rfl⟩
    · rw [if_neg (by omega), if_pos (by omega)]; exact ⟨rfl, rfl⟩
    · rw [if_neg (by omega), if_neg (by omega)]; exact ⟨rfl, rfl⟩
  · (refine W_x (Aj hs (Aj g0 (Aj g1 (Aj e2 e3)))) ?_; (repeat' first | apply Cj.mk | exact Nl.nl) <;> intros)
    · rw [if_pos (by omega)]; exact ⟨rfl, rfl⟩
    · rw [if_neg (by omega), if_neg (by omega)]; exact ⟨rfl, rfl⟩
theorem spanE_pos {l : List Span} {i : Nat} {x : Span} {e : Int} (h : spanE l i x = some e) : e ≠ 0 := by
  unfold spanE at h
  repeat' split at h
  all_goals first | (injection h with h; omega) | cases h
theorem spans6_eq {s : Sl} {l : List Span} {h : AH} (rd : Reads h 2 s (l.map pairV)) (hl : l.length < 100000000) (n : Int) :
    callO PX 109 [s.val 2, .int .i64 n] h = some (wrV (spansW l n), h) := by
  have hs := rd.len
  have e1 := span6_eq rd hl
  apply WpC.eqn
  refine wpc_fn (px_ext rfl) (px_fn fn_guiseref6_spans) rfl ?_
  unfold LF_guiseref6_spans
  simp only [argFr]
  unfold spansW spansE
  (refine W_x trivial ?_; (repeat' first | apply Cj.mk | exact Nl.nl) <;> intros)
  refine wp_scanF 5 l (fun i x => (spanE l i x).map fun e => (e, i)) (by intro n; simp only [setF, push_cast, Nat.reduceEqDiff, ↓reduceIte, reduceCtorEq, Nat.reduceAdd, Nat.reduceMul, Nat.reduceLeDiff]; rfl) rfl (fun i hi hit => ?_) fun fin => ?_
  · have e2 := e1 i hi
    have hp := fun e => spanE_pos (l := l) (i := i) (x := l[i]) (e := e)
    generalize spanE l i l[i] = o at e2 hit hp
    cases o with
    | none =>
      simp only [Option.getD_none] at e2
      (refine W_x (Aj hs e2) ?_; (repeat' first | apply Cj.mk | exact Nl.nl) <;> intros)
      exact ⟨rfl, rfl, rfl, rfl⟩
    | some e =>
      have := hp e rfl
      simp only [Option.getD_some] at e2
      rw [hit (e, i) rfl]
      (refine W_x (Aj hs e2) ?_; (repeat' first | apply Cj.mk | exact Nl.nl) <;> intros)
      exact ⟨rfl, rfl⟩
  · rw [fin]
    (refine W_x hs ?_; (repeat' first | apply Cj.mk | exact Nl.nl) <;> intros)
    exact ⟨rfl, rfl⟩
theorem script6_eq {z : Scr × Sl} {h : AH} (rd : Reads h 2 z.2 (z.1.2.map pairV)) (hl : z.1.2.length < 100000000) (hsz : z.1.1.size < 100000000) :
    callO PX 108 [.agg (scrV z).toArray] h = some (.int .i64 ((scrE z.1).getD 0), h) := by
  have e1 := fun h => name6_eq z.1.1 h hsz
  have e2 := spans6_eq rd hl 1
  apply WpC.eqn
  refine wpc_fn (px_ext rfl) (px_fn fn_guiseref6_script) rfl ?_
  unfold LF_guiseref6_script
  simp only [argFr]
  unfold scrE scrV
  unfold spansW at e2
  generalize nameB z.1.1.data.toList = b at e1
  cases b
  · (refine W_x e1 ?_; (repeat' first | apply Cj.mk | exact Nl.nl) <;> intros)
    exact ⟨rfl, rfl⟩
  · rw [if_neg (by simp)]
    cases hs : spansE z.1.2 with
    | none =>
      rw [hs] at e2
      simp only [Option.map_none, wrV] at e2
      (refine W_x (Aj e1 e2) ?_; (repeat' first | apply Cj.mk | exact Nl.nl) <;> intros)
      exact ⟨rfl, rfl⟩
    | some e =>
      rw [hs] at e2
      simp only [Option.map_some, wrV] at e2
      (refine W_x (Aj e1 e2) ?_; (repeat' first | apply Cj.mk | exact Nl.nl) <;> intros)
      exact ⟨rfl, rfl⟩
theorem maps6_spec {s : Sl} {l : List (Int × ByteArray)} {h : AH} (rd : Reads h 2 s (l.map mapV)) (hl : l.length < 100000000) (hz : ∀ y ∈ l, r32 y.1 ∧ y.2.size < 100000000) (n : Int) :
    WpC PX 110 [s.val 2, .int .i64 n] h fun v h' => v = wrV (mapsW l n) ∧ Kp h h' := by
  have hs := rd.len
  have e1 := rune6_eq
  refine wpc_fn (px_ext rfl) (px_fn fn_guiseref6_maps) rfl ?_
  unfold LF_guiseref6_maps
  simp only [argFr]
  unfold mapsW
  (refine W_x trivial ?_; (repeat' first | apply Cj.mk | exact Nl.nl) <;> intros)
  refine wp_scanH (Kp h) 5 l (fun i x => if runeI x.1 = false then W 12 n i else if toBad x.2 then W 35 n i else none) (by intro n; simp only [setF, push_cast, Nat.reduceEqDiff, ↓reduceIte, reduceCtorEq, Nat.reduceAdd, Nat.reduceMul, Nat.reduceLeDiff]; rfl) rfl (Kp.refl h) (fun i hi h1 kp hit => ?_) fun h1 kp fin => ?_
  · have hs1 := hs
    have g0 := fun lc => rd_mapc (lc := lc) (rd.kp kp) hi (k := 0) (by decide)
    have g1 := fun lc => rd_mapc (lc := lc) (rd.kp kp) hi (k := 1) (by decide)
    have hx := hz l[i] (List.getElem_mem hi)
    generalize l[i] = x at g0 g1 hit hx
    unfold mapV at g0 g1
    have e2 := e1 x.1
    generalize runeI x.1 = b1 at e2 hit
    cases b1
    · rw [hit _ (if_pos rfl)]
      (refine W_x (Aj hs (Aj g0 e2)) ?_; (repeat' first | apply Cj.mk | exact Nl.nl) <;> intros)
      exact ⟨rfl, kp⟩
    · obtain ⟨v, h2, e3, sr, rfl, fo⟩ := runes6_spec x.2 h1 hx.2
      have hsr : sr.len = ((rnO x.2).getD []).length := by rw [fo.own.1, List.length_map]
      have hlr : ((rnO x.2).getD []).length ≤ x.2.size := by
        unfold rnO
        split
        · exact (List.length_map ..).symm ▸ spots_len _
        · exact Nat.zero_le _
      have hb : toBad x.2 ↔ rnO x.2 = none ∨ ((rnO x.2).getD []).length < 1 ∨ 4 < ((rnO x.2).getD []).length := by
        unfold toBad rnO
        cases validB x.2.data.toList <;> simp
      simp only [Bool.true_eq_false, if_false] at hit ⊢
      cases ho : rnO x.2 with
      | none =>
        rw [ho] at e3 hb
        simp only [Option.isSome_none] at e3
        rw [hit _ (if_pos (hb.2 (.inl rfl)))]
        (refine W_x (Aj hs (Aj g0 (Aj g1 (Aj e2 e3)))) ?_; (repeat' first | apply Cj.mk | exact Nl.nl) <;> intros)
        exact ⟨rfl, kp.trans fo.kp⟩
      | some R =>
        rw [ho] at e3 hb hsr hlr
        simp only [Option.isSome_some, Option.getD_some] at e3 hsr hlr hb
        (refine W_x (Aj hs (Aj g0 (Aj g1 (Aj e2 (Aj e3 hsr))))) ?_; (repeat' first | apply Cj.mk | exact Nl.nl) <;> intros)
        · rw [hit _ (if_pos (hb.2 (.inr (.inl (by omega)))))]
          exact ⟨rfl, kp.trans fo.kp⟩
        · rw [hit _ (if_pos (hb.2 (.inr (.inr (by omega)))))]
          exact ⟨rfl, kp.trans fo.kp⟩
        · exact ⟨if_neg (fun q => by rcases hb.1 q with h | h | h; cases h; omega; omega), rfl, rfl, kp.trans fo.kp⟩
  · rw [fin]
    (refine W_x hs ?_; (repeat' first | apply Cj.mk | exact Nl.nl) <;> intros)
    exact ⟨rfl, kp⟩
theorem sets6_spec (x : ByteArray) (h : AH) (hz : x.size < 100000000) : WpC PX 133 [.string x] h fun v h' => v = .bool (setsB x) ∧ Kp h h' := by
  obtain ⟨v, h2, e3, sr, rfl, fo⟩ := runes6_spec x h hz
  have e4 := set6_eq
  refine wpc_fn (px_ext rfl) (px_fn fn_guiseref6_sets) rfl ?_
  unfold LF_guiseref6_sets
  simp only [argFr]
  have hlr : ((rnO x).getD []).length ≤ x.size := by
    unfold rnO
    split
    · exact (List.length_map ..).symm ▸ spots_len _
    · exact Nat.zero_le _
  unfold setsB
  generalize (rnO x).getD [] = R at fo hlr
  have hs := fo.reads.len
  have ha := any_scan (l := R) (P := fun c => setI (c : Nat) = true)
  simp only [Bool.decide_eq_true] at ha
  rw [ha]
  (refine W_x e3 ?_; (repeat' first | apply Cj.mk | exact Nl.nl) <;> intros)
  refine wp_scanF 5 R (fun _ c => if setI (c : Nat) = true then some () else none) (by intro n; simp only [setF, push_cast, Nat.reduceEqDiff, ↓reduceIte, reduceCtorEq, Nat.reduceAdd, Nat.reduceMul, Nat.reduceLeDiff]; rfl) rfl (fun i hi hit => ?_) fun fin => ?_
  · have g0 := fun lc => rd_map (lc := lc) fo.reads hi
    generalize R[i] = c at g0 hit
    unfold rnV at g0
    have e5 := e4 (c : Nat)
    generalize setI (c : Nat) = b at e5 hit
    cases b
    · (refine W_x (Aj hs (Aj g0 e5)) ?_; (repeat' first | apply Cj.mk | exact Nl.nl) <;> intros)
      exact ⟨rfl, rfl, rfl, rfl⟩
    · rw [hit () rfl]
      (refine W_x (Aj hs (Aj g0 e5)) ?_; (repeat' first | apply Cj.mk | exact Nl.nl) <;> intros)
      exact ⟨rfl, fo.kp⟩
  · rw [fin]
    (refine W_x hs ?_; (repeat' first | apply Cj.mk | exact Nl.nl) <;> intros)
    exact ⟨rfl, fo.kp⟩
end Go.Proofs.YtblmakgjdenpfaaDoor.AM
namespace Go.Proofs.YtblmakgjdenpfaaDoor.AM
open Go
theorem long6_spec {S : TS} {T : Tab} {h : AH} (t : TabAt h S T) : WpC PX 66 [.agg S.vs.toArray] h fun v h' => v = wrV (longW T) ∧ Kp h h' := by
  have f := t.fits
  have n0 := f.n0
  have hz := f.n0s
  rw [← t.zs] at hz n0
  rw [List.length_map] at n0
  have s0 := t.r0.len
  have s1 := t.r1.len; have n1 := f.n1
  have s2 := t.r2.len; have n2 := f.n2
  have s3 := t.r3.len; have n3 := f.n3
  have s4 := t.r4.len; have n4 := f.n4
  have s5 := t.r5.len; have n5 := f.n5
  have s6 := t.r6.len; have n6 := f.n6
  have s7 := t.r7.len; have n7 := f.n7
  refine wpc_fn (px_ext rfl) (px_fn fn_guiseref6_long) rfl ?_
  unfold LF_guiseref6_long
  simp only [argFr]
  unfold longW TS.vs
  rw [← t.zs, scanL_map, List.length_map]
  (refine W_x s0 ?_; (repeat' first | apply Cj.mk | exact Nl.nl) <;> intros)
  · rw [if_pos (by omega)]
    exact ⟨rfl, Kp.refl h⟩
  rw [if_neg (by omega)]
  refine wp_scanF 3 S.z (fun i z => if 1024 < z.1.2.length then W 4 1 i else none) (by intro n; simp only [setF, push_cast, Nat.reduceEqDiff, ↓reduceIte, reduceCtorEq, Nat.reduceAdd, Nat.reduceMul, Nat.reduceLeDiff]; rfl) rfl (fun i hi hit => ?_) fun fin => ?_
  · have g1 := fun lc => rd_mapc (lc := lc) t.r0 hi (k := 1) (by decide)
    have hm := List.getElem_mem hi
    have sz := (t.rz _ hm).len
    have nz := (hz _ (List.mem_map_of_mem hm)).1
    generalize S.z[i] = z at g1 hit sz nz
    unfold scrV at g1
    (refine W_x (Aj s0 (Aj g1 sz)) ?_; (repeat' first | apply Cj.mk | exact Nl.nl) <;> intros)
    · rw [hit _ (if_pos (by omega))]
      exact ⟨rfl, Kp.refl h⟩
    · exact ⟨if_neg (by omega), rfl, rfl, rfl⟩
  · rw [fin, Option.none_or]
    have hk : Kp h ((h.push (.cells false [.int .i64 T.common.length, .int .i64 T.marks.length, .int .i64 T.pairs.length, .int .i64 T.folds.length, .int .i64 T.looks.length, .int .i64 T.drops.length, .int .i64 T.allowed.length])).push
      (.cells false [.int .i64 1024, .int .i64 512, .int .i64 4096, .int .i64 4096, .int .i64 4096, .int .i64 1024, .int .i64 1024])) := ((Kp.refl h).push _).push _
    (refine W_x (Aj s0 (Aj s1 (Aj s2 (Aj s3 (Aj s4 (Aj s5 (Aj s6 s7))))))) ?_; (repeat' first | apply Cj.mk | exact Nl.nl) <;> intros)
    refine wp_unroll ?_
    (refine W_x trivial ?_; (repeat' first | apply Cj.mk | exact Nl.nl) <;> intros)
    · exact ⟨by simp (disch := omega) only [if_pos, if_neg]; rfl, hk⟩
    refine wp_unroll ?_
    (refine W_x trivial ?_; (repeat' first | apply Cj.mk | exact Nl.nl) <;> intros)
    · exact ⟨by simp (disch := omega) only [if_pos, if_neg]; rfl, hk⟩
    refine wp_unroll ?_
    (refine W_x trivial ?_; (repeat' first | apply Cj.mk | exact Nl.nl) <;> intros)
    · exact ⟨by simp (disch := omega) only [if_pos, if_neg]; rfl, hk⟩
    refine wp_unroll ?_
    (refine W_x trivial ?_; (repeat' first | apply Cj.mk | exact Nl.nl) <;> intros)
    · exact ⟨by simp (disch := omega) only [if_pos, if_neg]; rfl, hk⟩
    refine wp_unroll ?_
    (refine W_x trivial ?_; (repeat' first | apply Cj.mk | exact Nl.nl) <;> intros)
    · exact ⟨by simp (disch := omega) only [if_pos, if_neg]; rfl, hk⟩
    refine wp_unroll ?_
    (refine W_x trivial ?_; (repeat' first | apply Cj.mk | exact Nl.nl) <;> intros)
    · exact ⟨by simp (disch := omega) only [if_pos, if_neg]; rfl, hk⟩
    refine wp_unroll ?_
    (refine W_x trivial ?_; (repeat' first | apply Cj.mk | exact Nl.nl) <;> intros)
    · exact ⟨by simp (disch := omega) only [if_pos, if_neg]; rfl, hk⟩
    refine wp_unroll ?_
    (refine W_x trivial ?_; (repeat' first | apply Cj.mk | exact Nl.nl) <;> intros)
    exact ⟨by simp (disch := omega) only [if_pos, if_neg]; rfl, hk⟩
end Go.Proofs.YtblmakgjdenpfaaDoor.AM
namespace Go.Proofs.YtblmakgjdenpfaaDoor.AM
open Go
theorem scrE_pos {x : Scr} {e : Int} (h : scrE x = some e) : e ≠ 0 := by
  unfold scrE at h
  split at h
  · injection h with h; omega
  · unfold spansE at h
    cases hs : scanL x.2 (fun i y => (spanE x.2 i y).map fun e => (e, i)) with
    | none => rw [hs] at h; cases h
    | some w =>
      rw [hs] at h
      obtain ⟨i, hi, hw⟩ := scanL_some hs
      cases he : spanE x.2 i x.2[i] with
      | none => rw [he] at hw; cases hw
      | some e' =>
        rw [he] at hw
        simp only [Option.map_some, Option.some.injEq] at h hw
        subst hw
        have := spanE_pos he
        simp only at h
        omega
theorem spansW_pos {l : List Span} {n a b c : Int} (h : spansW l n = some (a, b, c)) : a ≠ 0 := by
  unfold spansW spansE at h
  cases hs : scanL l (fun i x => (spanE l i x).map fun e => (e, i)) with
  | none => rw [hs] at h; cases h
  | some w =>
    rw [hs] at h
    obtain ⟨i, hi, hw⟩ := scanL_some hs
    cases he : spanE l i l[i] with
    | none => rw [he] at hw; cases hw
    | some e' =>
      rw [he] at hw
      simp only [Option.map_some, Option.some.injEq, Prod.mk.injEq] at h hw
      subst hw
      have := spanE_pos he
      simp only at h
      omega
theorem mapsW_pos {l : List (Int × ByteArray)} {n a b c : Int} (h : mapsW l n = some (a, b, c)) : a ≠ 0 := by
  unfold mapsW at h
  obtain ⟨i, hi, hw⟩ := scanL_some h
  split at hw
  · injection hw with hw; injection hw with hw; omega
  · split at hw
    · injection hw with hw; injection hw with hw; omega
    · cases hw
set_option maxHeartbeats 1000000 in
theorem forms6_spec {S : TS} {T : Tab} {h : AH} (t : TabAt h S T) : WpC PX 67 [.agg S.vs.toArray] h fun v h' => v = wrV (formsW T) ∧ Kp h h' := by
  have f := t.fits
  have n0 := f.n0
  have hz := f.n0s
  rw [← t.zs] at hz n0
  rw [List.length_map] at n0
  have s0 := t.r0.len
  have s2 := t.r2.len; have n2 := f.n2
  have s3 := t.r3.len; have n3 := f.n3
  have e1 := rune6_eq
  have e2 := spans6_eq t.r1 f.n1 2
  refine wpc_fn (px_ext rfl) (px_fn fn_guiseref6_forms) rfl ?_
  unfold LF_guiseref6_forms
  simp only [argFr]
  unfold formsW TS.vs
  rw [← t.zs, scanL_map]
  (refine W_x s0 ?_; (repeat' first | apply Cj.mk | exact Nl.nl) <;> intros)
  refine wp_scanF 3 S.z (fun i z => (scrE z.1).map fun e => ((e, 1, (i : Int)) : W3)) (by intro n; simp only [setF, push_cast, Nat.reduceEqDiff, ↓reduceIte, reduceCtorEq, Nat.reduceAdd, Nat.reduceMul, Nat.reduceLeDiff]; rfl) rfl (fun i hi hit => ?_) fun fin => ?_
  · have g1 := fun lc => rd_map (lc := lc) t.r0 hi
    have hm := List.getElem_mem hi
    have rz := t.rz _ hm
    have nz := hz _ (List.mem_map_of_mem hm)
    generalize S.z[i] = z at g1 hit rz nz
    have e3 := script6_eq rz nz.1 nz.2
    have hp := fun e => scrE_pos (x := z.1) (e := e)
    unfold scrV at g1 e3
    generalize scrE z.1 = o at e3 hit hp
    cases o with
    | none =>
      simp only [Option.getD_none] at e3
      (refine W_x (Aj s0 (Aj g1 e3)) ?_; (repeat' first | apply Cj.mk | exact Nl.nl) <;> intros)
      exact ⟨rfl, rfl, rfl, rfl⟩
    | some e =>
      have := hp e rfl
      simp only [Option.getD_some] at e3
      rw [hit _ rfl]
      (refine W_x (Aj s0 (Aj g1 e3)) ?_; (repeat' first | apply Cj.mk | exact Nl.nl) <;> intros)
      exact ⟨rfl, Kp.refl h⟩
  rw [fin, Option.none_or]
  have hp := fun a b c => spansW_pos (l := T.common) (n := 2) (a := a) (b := b) (c := c)
  generalize spansW T.common 2 = o at e2 hp
  match o, e2, hp with
  | some (a, b, c), e2, hp =>
    have := hp a b c rfl
    simp only [wrV] at e2
    (refine W_x (Aj s0 e2) ?_; (repeat' first | apply Cj.mk | exact Nl.nl) <;> intros)
    exact ⟨rfl, Kp.refl h⟩
  | none, e2, hp =>
  simp only [wrV] at e2
  rw [Option.none_or]
  (refine W_x (Aj s0 e2) ?_; (repeat' first | apply Cj.mk | exact Nl.nl) <;> intros)
  refine wp_scanF 6 T.marks (fun i x => if runeI x.1 = false then W 12 3 i else if x.2 < 1 ∨ 254 < x.2 then W 30 3 i else none) (by intro n; simp only [setF, push_cast, Nat.reduceEqDiff, ↓reduceIte, reduceCtorEq, Nat.reduceAdd, Nat.reduceMul, Nat.reduceLeDiff]; rfl) rfl (fun i hi hit => ?_) fun fin => ?_
  · have g0 := fun lc => rd_mapc (lc := lc) t.r2 hi (k := 0) (by decide)
    have g1 := fun lc => rd_mapc (lc := lc) t.r2 hi (k := 1) (by decide)
    generalize T.marks[i] = x at g0 g1 hit
    unfold markV at g0 g1
    have e3 := e1 x.1
    generalize runeI x.1 = b at e3 hit
    cases b
    · rw [hit _ (if_pos rfl)]
      (refine W_x (Aj s2 (Aj g0 e3)) ?_; (repeat' first | apply Cj.mk | exact Nl.nl) <;> intros)
      exact ⟨rfl, Kp.refl h⟩
    · simp only [Bool.true_eq_false, if_false] at hit ⊢
      (refine W_x (Aj s2 (Aj g0 (Aj g1 e3))) ?_; (repeat' first | apply Cj.mk | exact Nl.nl) <;> intros)
      · rw [hit _ (if_pos (by omega))]
        exact ⟨rfl, Kp.refl h⟩
      · rw [hit _ (if_pos (by omega))]
        exact ⟨rfl, Kp.refl h⟩
      · exact ⟨if_neg (by omega), rfl, rfl, rfl⟩
  rw [fin, Option.none_or]
  (refine W_x s2 ?_; (repeat' first | apply Cj.mk | exact Nl.nl) <;> intros)
  refine wp_scanF 7 T.pairs (fun i x => if runeI x.1 = false ∨ runeI x.2.1 = false ∨ runeI x.2.2 = false then W 12 4 i else none) (by intro n; simp only [setF, push_cast, Nat.reduceEqDiff, ↓reduceIte, reduceCtorEq, Nat.reduceAdd, Nat.reduceMul, Nat.reduceLeDiff]; rfl) rfl (fun i hi hit => ?_) fun fin => ?_
  · have g0 := fun lc => rd_mapc (lc := lc) t.r3 hi (k := 0) (by decide)
    have g1 := fun lc => rd_mapc (lc := lc) t.r3 hi (k := 1) (by decide)
    have g2 := fun lc => rd_mapc (lc := lc) t.r3 hi (k := 2) (by decide)
    generalize T.pairs[i] = x at g0 g1 g2 hit
    unfold tripV at g0 g1 g2
    have e3 := e1 x.1
    have e4 := e1 x.2.1
    have e5 := e1 x.2.2
    generalize runeI x.1 = b1 at e3 hit
    generalize runeI x.2.1 = b2 at e4 hit
    generalize runeI x.2.2 = b3 at e5 hit
    cases b1
    · rw [hit _ (if_pos (.inl rfl))]
      (refine W_x (Aj s3 (Aj g0 e3)) ?_; (repeat' first | apply Cj.mk | exact Nl.nl) <;> intros)
      exact ⟨rfl, Kp.refl h⟩
    cases b2
    · rw [hit _ (if_pos (.inr (.inl rfl)))]
      (refine W_x (Aj s3 (Aj g0 (Aj g1 (Aj e3 e4)))) ?_; (repeat' first | apply Cj.mk | exact Nl.nl) <;> intros)
      exact ⟨rfl, Kp.refl h⟩
    cases b3
    · rw [hit _ (if_pos (.inr (.inr rfl)))]
      (refine W_x (Aj s3 (Aj g0 (Aj g1 (Aj g2 (Aj e3 (Aj e4 e5)))))) ?_; (repeat' first | apply Cj.mk | exact Nl.nl) <;> intros)
      exact ⟨rfl, Kp.refl h⟩
    · (refine W_x (Aj s3 (Aj g0 (Aj g1 (Aj g2 (Aj e3 (Aj e4 e5)))))) ?_; (repeat' first | apply Cj.mk | exact Nl.nl) <;> intros)
      exact ⟨if_neg (by simp), rfl, rfl, rfl⟩
  rw [fin, Option.none_or]
  obtain ⟨v, h1, e3, rfl, k1⟩ := maps6_spec t.r4 f.n4 f.v4 5
  have hp := fun a b c => mapsW_pos (l := T.folds) (n := 5) (a := a) (b := b) (c := c)
  generalize mapsW T.folds 5 = o at e3 hp
  match o, e3, hp with
  | some (a, b, c), e3, hp =>
    have := hp a b c rfl
    simp only [wrV] at e3
    (refine W_x (Aj s3 e3) ?_; (repeat' first | apply Cj.mk | exact Nl.nl) <;> intros)
    exact ⟨rfl, k1⟩
  | none, e3, hp =>
  simp only [wrV] at e3
  rw [Option.none_or]
  obtain ⟨v, h2, e4, rfl, k2⟩ := maps6_spec (t.r5.kp k1) f.n5 f.v5 6
  have k2 := k1.trans k2
  have e5 := spans6_eq (t.r6.kp k2) f.n6 7
  have e6 := spans6_eq (t.r7.kp k2) f.n7 8
  have hp := fun a b c => mapsW_pos (l := T.looks) (n := 6) (a := a) (b := b) (c := c)
  generalize mapsW T.looks 6 = o at e4 hp
  match o, e4, hp with
  | some (a, b, c), e4, hp =>
    have := hp a b c rfl
    simp only [wrV] at e4
    (refine W_x (Aj s3 (Aj e3 e4)) ?_; (repeat' first | apply Cj.mk | exact Nl.nl) <;> intros)
    exact ⟨rfl, k2⟩
  | none, e4, hp =>
  simp only [wrV] at e4
  rw [Option.none_or]
  have hp := fun a b c => spansW_pos (l := T.drops) (n := 7) (a := a) (b := b) (c := c)
  generalize spansW T.drops 7 = o at e5 hp
  match o, e5, hp with
  | some (a, b, c), e5, hp =>
    have := hp a b c rfl
    simp only [wrV] at e5
    (refine W_x (Aj s3 (Aj e3 (Aj e4 e5))) ?_; (repeat' first | apply Cj.mk | exact Nl.nl) <;> intros)
    exact ⟨rfl, k2⟩
  | none, e5, hp =>
  simp only [wrV] at e5
  rw [Option.none_or]
  generalize spansW T.allowed 8 = o at e6
  match o, e6 with
  | some (a, b, c), e6 =>
    simp only [wrV] at e6
    (refine W_x (Aj s3 (Aj e3 (Aj e4 (Aj e5 e6)))) ?_; (repeat' first | apply Cj.mk | exact Nl.nl) <;> intros)
    exact ⟨rfl, k2⟩
  | none, e6 =>
    simp only [wrV] at e6
    (refine W_x (Aj s3 (Aj e3 (Aj e4 (Aj e5 e6)))) ?_; (repeat' first | apply Cj.mk | exact Nl.nl) <;> intros)
    exact ⟨rfl, k2⟩
end Go.Proofs.YtblmakgjdenpfaaDoor.AM
namespace Go.Proofs.YtblmakgjdenpfaaDoor.AM
open Go
theorem scanL_no {α : Type} {l : List α} {P : α → Prop} [DecidablePred P] (h : (scanL l fun _ x => if P x then some () else none) = none) : ¬ ∃ y ∈ l, P y := by
  rintro ⟨y, hy, hp⟩
  obtain ⟨i, hi, rfl⟩ := List.mem_iff_getElem.1 hy
  have := scanL_none h i hi
  rw [if_pos hp] at this
  cases this
set_option maxHeartbeats 1000000 in
theorem twice6_spec {S : TS} {T : Tab} {h : AH} (t : TabAt h S T) : callO PX 68 [.agg S.vs.toArray] h = some (wrV (twiceW T), h) := by
  have f := t.fits
  have n0 := f.n0
  rw [← t.zs, List.length_map] at n0
  have s0 := t.r0.len
  have s2 := t.r2.len; have n2 := f.n2
  have s3 := t.r3.len; have n3 := f.n3
  have s4 := t.r4.len; have n4 := f.n4
  have s5 := t.r5.len; have n5 := f.n5
  have e4 := from6_eq t.r4 n4
  have e5 := from6_eq t.r5 n5
  apply WpC.eqn
  refine wpc_fn (px_ext rfl) (px_fn fn_guiseref6_twice) rfl ?_
  unfold LF_guiseref6_twice
  simp only [argFr]
  unfold twiceW TS.vs
  rw [← t.zs, scanL_map]
  (refine W_x trivial ?_; (repeat' first | apply Cj.mk | exact Nl.nl) <;> intros)
  refine wp_scanF 3 S.z (fun i z => if ∃ y ∈ (S.z.map (·.1)).take i, z.1.1 = y.1 then W 14 1 i else none) (by intro n; simp only [setF, push_cast, Nat.reduceEqDiff, ↓reduceIte, reduceCtorEq, Nat.reduceAdd, Nat.reduceMul, Nat.reduceLeDiff]; rfl) rfl (fun i hi hit => ?_) fun fin => ?_
  · have g0 := fun lc => rd_mapc (lc := lc) t.r0 hi (k := 0) (by decide)
    have gj := fun j (hj : j < S.z.length) lc => rd_mapc (lc := lc) t.r0 hj (k := 0) (by decide)
    obtain ⟨L, hL⟩ : ∃ L, L = (S.z.map (·.1)).take i := ⟨_, rfl⟩
    have hLl : L.length = i := by rw [hL, List.length_take, List.length_map]; omega
    have hLj : ∀ j (hj : j < L.length), L[j] = (S.z[j]'(by omega)).1 := fun j hj => by simp only [hL, List.getElem_take, List.getElem_map]
    rw [← hL] at hit ⊢
    generalize S.z[i] = z at g0 hit
    unfold scrV at g0 gj
    (refine W_x s0 ?_; (repeat' first | apply Cj.mk | exact Nl.nl) <;> intros)
    refine wp_scanF 4 L (fun _ y => if z.1.1 = y.1 then some () else none) (by intro n; simp only [setF, push_cast, Nat.reduceEqDiff, ↓reduceIte, reduceCtorEq, Nat.reduceAdd, Nat.reduceMul, Nat.reduceLeDiff]; rfl) rfl (fun j hj hit2 => ?_) fun fin2 => ?_
    · have g1 := gj j (by omega)
      have hy := List.getElem_mem hj
      rw [← hLj j hj] at g1
      generalize L[j] = y at hit2 g1 hy
      (refine W_x (Aj s0 (Aj g0 g1)) ?_; (repeat' first | apply Cj.mk | exact Nl.nl) <;> intros)
      · rename_i he
        rw [hit _ (if_pos ⟨y, hy, he⟩)]
        exact ⟨rfl, rfl⟩
      · rename_i he
        exact ⟨if_neg he, rfl, rfl, rfl⟩
    · have := scanL_no fin2
      (refine W_x (Aj s0 hLl) ?_; (repeat' first | apply Cj.mk | exact Nl.nl) <;> intros)
      exact ⟨if_neg this, rfl, rfl, rfl⟩
  rw [fin, Option.none_or]
  (refine W_x s0 ?_; (repeat' first | apply Cj.mk | exact Nl.nl) <;> intros)
  refine wp_scanF 5 T.marks (fun i x => if ∃ y ∈ T.marks.take i, x.1 = y.1 then W 14 3 i else none) (by intro n; simp only [setF, push_cast, Nat.reduceEqDiff, ↓reduceIte, reduceCtorEq, Nat.reduceAdd, Nat.reduceMul, Nat.reduceLeDiff]; rfl) rfl (fun i hi hit => ?_) fun fin => ?_
  · have g0 := fun lc => rd_mapc (lc := lc) t.r2 hi (k := 0) (by decide)
    have gj := fun j (hj : j < T.marks.length) lc => rd_mapc (lc := lc) t.r2 hj (k := 0) (by decide)
    obtain ⟨L, hL⟩ : ∃ L, L = T.marks.take i := ⟨_, rfl⟩
    have hLl : L.length = i := by rw [hL, List.length_take]; omega
    have hLj : ∀ j (hj : j < L.length), L[j] = (T.marks[j]'(by omega)) := fun j hj => by simp only [hL, List.getElem_take]
    rw [← hL] at hit ⊢
    generalize T.marks[i] = z at g0 hit
    unfold markV at g0 gj
    (refine W_x s2 ?_; (repeat' first | apply Cj.mk | exact Nl.nl) <;> intros)
    refine wp_scanF 6 L (fun _ y => if z.1 = y.1 then some () else none) (by intro n; simp only [setF, push_cast, Nat.reduceEqDiff, ↓reduceIte, reduceCtorEq, Nat.reduceAdd, Nat.reduceMul, Nat.reduceLeDiff]; rfl) rfl (fun j hj hit2 => ?_) fun fin2 => ?_
    · have g1 := gj j (by omega)
      have hy := List.getElem_mem hj
      rw [← hLj j hj] at g1
      generalize L[j] = y at hit2 g1 hy
      (refine W_x (Aj s2 (Aj g0 g1)) ?_; (repeat' first | apply Cj.mk | exact Nl.nl) <;> intros)
      · rename_i he
        rw [hit _ (if_pos ⟨y, hy, he⟩)]
        exact ⟨rfl, rfl⟩
      · rename_i he
        exact ⟨if_neg he, rfl, rfl, rfl⟩
    · have := scanL_no fin2
      (refine W_x (Aj s2 hLl) ?_; (repeat' first | apply Cj.mk | exact Nl.nl) <;> intros)
      exact ⟨if_neg this, rfl, rfl, rfl⟩
  rw [fin, Option.none_or]
  (refine W_x s2 ?_; (repeat' first | apply Cj.mk | exact Nl.nl) <;> intros)
  refine wp_scanF 7 T.pairs (fun i x => if ∃ y ∈ T.pairs.take i, x.1 = y.1 ∨ (x.2.1 = y.2.1 ∧ x.2.2 = y.2.2) then W 14 4 i else none) (by intro n; simp only [setF, push_cast, Nat.reduceEqDiff, ↓reduceIte, reduceCtorEq, Nat.reduceAdd, Nat.reduceMul, Nat.reduceLeDiff]; rfl) rfl (fun i hi hit => ?_) fun fin => ?_
  · have g0 := fun lc => rd_map (lc := lc) t.r3 hi
    have gj := fun j (hj : j < T.pairs.length) lc => rd_map (lc := lc) t.r3 hj
    obtain ⟨L, hL⟩ : ∃ L, L = T.pairs.take i := ⟨_, rfl⟩
    have hLl : L.length = i := by rw [hL, List.length_take]; omega
    have hLj : ∀ j (hj : j < L.length), L[j] = (T.pairs[j]'(by omega)) := fun j hj => by simp only [hL, List.getElem_take]
    rw [← hL] at hit ⊢
    generalize T.pairs[i] = z at g0 hit
    unfold tripV at g0 gj
    (refine W_x s3 ?_; (repeat' first | apply Cj.mk | exact Nl.nl) <;> intros)
    refine wp_scanF 8 L (fun _ y => if z.1 = y.1 ∨ (z.2.1 = y.2.1 ∧ z.2.2 = y.2.2) then some () else none) (by intro n; simp only [setF, push_cast, Nat.reduceEqDiff, ↓reduceIte, reduceCtorEq, Nat.reduceAdd, Nat.reduceMul, Nat.reduceLeDiff]; rfl) rfl (fun j hj hit2 => ?_) fun fin2 => ?_
    · have g1 := gj j (by omega)
      have hy := List.getElem_mem hj
      rw [← hLj j hj] at g1
      generalize L[j] = y at hit2 g1 hy
      (refine W_x (Aj s3 (Aj g0 g1)) ?_; (repeat' first | apply Cj.mk | exact Nl.nl) <;> intros)
      · rw [hit _ (if_pos ⟨y, hy, by omega⟩)]
        exact ⟨rfl, rfl⟩
      · rw [hit _ (if_pos ⟨y, hy, by omega⟩)]
        exact ⟨rfl, rfl⟩
      all_goals exact ⟨if_neg (by omega), rfl, rfl, rfl⟩
    · have := scanL_no fin2
      (refine W_x (Aj s3 hLl) ?_; (repeat' first | apply Cj.mk | exact Nl.nl) <;> intros)
      exact ⟨if_neg this, rfl, rfl, rfl⟩
  rw [fin, Option.none_or]
  (refine W_x s3 ?_; (repeat' first | apply Cj.mk | exact Nl.nl) <;> intros)
  refine wp_scanF 11 T.folds (fun i x => if ixI (fromO T.folds x.1) < i then W 14 5 i else none) (by intro n; simp only [setF, push_cast, Nat.reduceEqDiff, ↓reduceIte, reduceCtorEq, Nat.reduceAdd, Nat.reduceMul, Nat.reduceLeDiff]; rfl) rfl (fun i hi hit => ?_) fun fin => ?_
  · have g0 := fun lc => rd_mapc (lc := lc) t.r4 hi (k := 0) (by decide)
    generalize T.folds[i] = x at g0 hit
    unfold mapV at g0
    (refine W_x (Aj s4 (Aj g0 e4)) ?_; (repeat' first | apply Cj.mk | exact Nl.nl) <;> intros)
    · rw [hit _ (if_pos (by omega))]
      exact ⟨rfl, rfl⟩
    · exact ⟨if_neg (by omega), rfl, rfl, rfl⟩
  rw [fin, Option.none_or]
  (refine W_x s4 ?_; (repeat' first | apply Cj.mk | exact Nl.nl) <;> intros)
  refine wp_scanF 12 T.looks (fun i x => if ixI (fromO T.looks x.1) < i then W 14 6 i else none) (by intro n; simp only [setF, push_cast, Nat.reduceEqDiff, ↓reduceIte, reduceCtorEq, Nat.reduceAdd, Nat.reduceMul, Nat.reduceLeDiff]; rfl) rfl (fun i hi hit => ?_) fun fin => ?_
  · have g0 := fun lc => rd_mapc (lc := lc) t.r5 hi (k := 0) (by decide)
    generalize T.looks[i] = x at g0 hit
    unfold mapV at g0
    (refine W_x (Aj s5 (Aj g0 e5)) ?_; (repeat' first | apply Cj.mk | exact Nl.nl) <;> intros)
    · rw [hit _ (if_pos (by omega))]
      exact ⟨rfl, rfl⟩
    · exact ⟨if_neg (by omega), rfl, rfl, rfl⟩
  rw [fin]
  (refine W_x s5 ?_; (repeat' first | apply Cj.mk | exact Nl.nl) <;> intros)
  exact ⟨rfl, rfl⟩
theorem wholeO_lt {T : Tab} {r : Int} {j : Nat} (h : wholeO T r = some j) : ∃ hj : j < T.pairs.length, (T.pairs[j]).1 = r := by
  obtain ⟨i, hi, hw⟩ := scanL_some h
  split at hw
  · rename_i he
    injection hw with hw
    subst hw
    exact ⟨hi, he⟩
  · cases hw
theorem chain6_eq {S : TS} {T : Tab} {h : AH} (t : TabAt h S T) (i : Nat) (hi : i < T.pairs.length) : callO PX 113 [.agg S.vs.toArray, .int .i64 i] h = some (.int .i64 (chainN T T.pairs.length 1 (T.pairs[i]).2.1), h) := by
  have s3 := t.r3.len; have n3 := t.fits.n3
  have e1 := whole6_eq t
  apply WpC.eqn
  refine wpc_fn (px_ext rfl) (px_fn fn_guiseref6_chain) rfl ?_
  unfold LF_guiseref6_chain
  simp only [argFr]
  unfold TS.vs
  unfold TS.vs at e1
  (refine W_x trivial ?_; (repeat' first | apply Cj.mk | exact Nl.nl) <;> intros)
  refine wp_loop (fun w fr lc h1 => ∃ (n j : Nat) (hj : j < T.pairs.length), w = T.pairs.length + 1 - n ∧ 1 ≤ n ∧ n ≤ T.pairs.length + 1 ∧ chainN T T.pairs.length 1 (T.pairs[i]).2.1 = chainN T (T.pairs.length + 1 - n) n (T.pairs[j]).2.1 ∧ h1 = h ∧
      fr = [(1, .int .i64 j), (2, .pointer (some ⟨4, 0, some 1⟩)), (5, .int .i64 n)] ∧ lc = [(4, .cells false [S.s0.val 2, S.s1.val 2, S.s2.val 2, S.s3.val 3, S.s4.val 2, S.s5.val 2, S.s6.val 2, S.s7.val 2])]) T.pairs.length
    ⟨1, i, hi, by omega, Nat.le_refl _, by omega, by rw [Nat.add_sub_cancel], rfl, rfl, rfl⟩ ?_
  rintro w fr lc h1 ⟨n, j, hj, rfl, hn1, hn2, he, rfl, rfl, rfl⟩
  have g0 := fun lc => rd_mapc (lc := lc) t.r3 hj (k := 1) (by decide)
  rcases Nat.lt_or_ge T.pairs.length n with hn | hn
  · rw [show T.pairs.length + 1 - n = 0 by omega] at he
    (refine W_x s3 ?_; (repeat' first | apply Cj.mk | exact Nl.nl) <;> intros)
    exact ⟨by rw [he]; rfl, rfl⟩
  · obtain ⟨k, hk⟩ : ∃ k, T.pairs.length + 1 - n = k + 1 := ⟨T.pairs.length - n, by omega⟩
    rw [hk] at he
    simp only [chainN] at he
    generalize T.pairs[j] = x at g0 he
    unfold tripV at g0
    have e2 := e1 x.2.1
    have hlt := fun k => wholeO_lt (T := T) (r := x.2.1) (j := k)
    generalize wholeO T x.2.1 = o at e2 he hlt
    cases o with
    | none =>
      simp only [ixI] at e2
      (refine W_x (Aj s3 (Aj g0 e2)) ?_; (repeat' first | apply Cj.mk | exact Nl.nl) <;> intros)
      exact ⟨by rw [he], rfl⟩
    | some m =>
      obtain ⟨hm, _⟩ := hlt m rfl
      simp only [ixI, List.getD_eq_getElem?_getD, List.getElem?_eq_getElem hm, Option.getD_some] at e2 he
      (refine W_x (Aj s3 (Aj g0 e2)) ?_; (repeat' first | apply Cj.mk | exact Nl.nl) <;> intros)
      exact ⟨_, by omega, n + 1, m, hm, rfl, by omega, by omega, by rw [he, show T.pairs.length + 1 - (n + 1) = k by omega], rfl, by simp only [Int.natCast_add]; rfl, rfl⟩
theorem pairs6_eq {S : TS} {T : Tab} {h : AH} (t : TabAt h S T) : callO PX 69 [.agg S.vs.toArray] h = some (wrV ((pairsW T).or (chainsW T)), h) := by
  have s3 := t.r3.len; have n3 := t.fits.n3
  have e1 := mark6_eq t
  have e2 := chain6_eq t
  apply WpC.eqn
  refine wpc_fn (px_ext rfl) (px_fn fn_guiseref6_pairs) rfl ?_
  unfold LF_guiseref6_pairs
  simp only [argFr]
  unfold pairsW chainsW TS.vs
  unfold TS.vs at e1 e2
  (refine W_x trivial ?_; (repeat' first | apply Cj.mk | exact Nl.nl) <;> intros)
  refine wp_scanF 3 T.pairs (fun i x => if isMark T x.1 = true ∨ isMark T x.2.1 = true ∨ isMark T x.2.2 = false then W 32 4 i else none) (by intro n; simp only [setF, push_cast, Nat.reduceEqDiff, ↓reduceIte, reduceCtorEq, Nat.reduceAdd, Nat.reduceMul, Nat.reduceLeDiff]; rfl) rfl (fun i hi hit => ?_) fun fin => ?_
  · have g0 := fun lc => rd_mapc (lc := lc) t.r3 hi (k := 0) (by decide)
    have g1 := fun lc => rd_mapc (lc := lc) t.r3 hi (k := 1) (by decide)
    have g2 := fun lc => rd_mapc (lc := lc) t.r3 hi (k := 2) (by decide)
    generalize T.pairs[i] = x at g0 g1 g2 hit
    unfold tripV at g0 g1 g2
    have e3 := e1 x.1
    have e4 := e1 x.2.1
    have e5 := e1 x.2.2
    generalize isMark T x.1 = b1 at e3 hit
    generalize isMark T x.2.1 = b2 at e4 hit
    generalize isMark T x.2.2 = b3 at e5 hit
    cases b1
    · cases b2
      · cases b3
        · rw [hit _ (if_pos (.inr (.inr rfl)))]
          (refine W_x (Aj s3 (Aj g0 (Aj g1 (Aj g2 (Aj e3 (Aj e4 e5)))))) ?_; (repeat' first | apply Cj.mk | exact Nl.nl) <;> intros)
          exact ⟨rfl, rfl⟩
        · (refine W_x (Aj s3 (Aj g0 (Aj g1 (Aj g2 (Aj e3 (Aj e4 e5)))))) ?_; (repeat' first | apply Cj.mk | exact Nl.nl) <;> intros)
          exact ⟨if_neg (by simp), rfl, rfl, rfl⟩
      · rw [hit _ (if_pos (.inr (.inl rfl)))]
        (refine W_x (Aj s3 (Aj g0 (Aj g1 (Aj e3 e4)))) ?_; (repeat' first | apply Cj.mk | exact Nl.nl) <;> intros)
        exact ⟨rfl, rfl⟩
    · rw [hit _ (if_pos (.inl rfl))]
      (refine W_x (Aj s3 (Aj g0 e3)) ?_; (repeat' first | apply Cj.mk | exact Nl.nl) <;> intros)
      exact ⟨rfl, rfl⟩
  rw [fin, Option.none_or]
  (refine W_x s3 ?_; (repeat' first | apply Cj.mk | exact Nl.nl) <;> intros)
  refine wp_scanF 4 T.pairs (fun i x => if chainN T T.pairs.length 1 x.2.1 < 0 then W 33 4 i else if 4 < chainN T T.pairs.length 1 x.2.1 then W 34 4 i else none) (by intro n; simp only [setF, push_cast, Nat.reduceEqDiff, ↓reduceIte, reduceCtorEq, Nat.reduceAdd, Nat.reduceMul, Nat.reduceLeDiff]; rfl) rfl (fun i hi hit => ?_) fun fin => ?_
  · have e3 := e2 i hi
    generalize T.pairs[i] = x at hit e3
    (refine W_x (Aj s3 e3) ?_; (repeat' first | apply Cj.mk | exact Nl.nl) <;> intros)
    · rw [hit _ (if_pos (by omega))]
      exact ⟨rfl, rfl⟩
    · rw [if_neg (by omega), if_pos (by omega)] at hit
      rw [hit _ rfl]
      exact ⟨rfl, rfl⟩
    · exact ⟨by rw [if_neg (by omega), if_neg (by omega)], rfl, rfl, rfl⟩
  rw [fin]
  (refine W_x s3 ?_; (repeat' first | apply Cj.mk | exact Nl.nl) <;> intros)
  exact ⟨rfl, rfl⟩
end Go.Proofs.YtblmakgjdenpfaaDoor.AM
namespace Go.Proofs.YtblmakgjdenpfaaDoor.AM
open Go
theorem drops6_eq {S : TS} {T : Tab} {h : AH} (t : TabAt h S T) : callO PX 70 [.agg S.vs.toArray] h = some (wrV (dropsW T), h) := by
  have f := t.fits
  have s2 := t.r2.len; have n2 := f.n2
  have s3 := t.r3.len; have n3 := f.n3
  have s4 := t.r4.len; have n4 := f.n4
  have s5 := t.r5.len; have n5 := f.n5
  have e0 := fun r => of6_eq t.r6 f.n6 (r := r)
  apply WpC.eqn
  refine wpc_fn (px_ext rfl) (px_fn fn_guiseref6_drops) rfl ?_
  unfold LF_guiseref6_drops
  simp only [argFr]
  unfold dropsW TS.vs
  (refine W_x trivial ?_; (repeat' first | apply Cj.mk | exact Nl.nl) <;> intros)
  refine wp_scanF 3 T.marks (fun i x => if ofI x.1 T.drops = true then W 37 3 i else none) (by intro n; simp only [setF, push_cast, Nat.reduceEqDiff, ↓reduceIte, reduceCtorEq, Nat.reduceAdd, Nat.reduceMul, Nat.reduceLeDiff]; rfl) rfl (fun i hi hit => ?_) fun fin => ?_
  · have g0 := fun lc => rd_mapc (lc := lc) t.r2 hi (k := 0) (by decide)
    generalize T.marks[i] = x at g0 hit
    unfold markV at g0
    have e1 := e0 x.1
    generalize ofI x.1 T.drops = b at e1 hit
    cases b
    · (refine W_x (Aj s2 (Aj g0 e1)) ?_; (repeat' first | apply Cj.mk | exact Nl.nl) <;> intros)
      exact ⟨rfl, rfl, rfl, rfl⟩
    · rw [hit _ (if_pos rfl)]
      (refine W_x (Aj s2 (Aj g0 e1)) ?_; (repeat' first | apply Cj.mk | exact Nl.nl) <;> intros)
      exact ⟨rfl, rfl⟩
  rw [fin, Option.none_or]
  (refine W_x s2 ?_; (repeat' first | apply Cj.mk | exact Nl.nl) <;> intros)
  refine wp_scanF 4 T.pairs (fun i x => if ofI x.1 T.drops = true ∨ ofI x.2.1 T.drops = true ∨ ofI x.2.2 T.drops = true then W 37 4 i else none) (by intro n; simp only [setF, push_cast, Nat.reduceEqDiff, ↓reduceIte, reduceCtorEq, Nat.reduceAdd, Nat.reduceMul, Nat.reduceLeDiff]; rfl) rfl (fun i hi hit => ?_) fun fin => ?_
  · have g0 := fun lc => rd_mapc (lc := lc) t.r3 hi (k := 0) (by decide)
    have g1 := fun lc => rd_mapc (lc := lc) t.r3 hi (k := 1) (by decide)
    have g2 := fun lc => rd_mapc (lc := lc) t.r3 hi (k := 2) (by decide)
    generalize T.pairs[i] = x at g0 g1 g2 hit
    unfold tripV at g0 g1 g2
    have e1 := e0 x.1
    have e2 := e0 x.2.1
    have e3 := e0 x.2.2
    generalize ofI x.1 T.drops = b1 at e1 hit
    generalize ofI x.2.1 T.drops = b2 at e2 hit
    generalize ofI x.2.2 T.drops = b3 at e3 hit
    cases b1
    · cases b2
      · cases b3
        · (refine W_x (Aj s3 (Aj g0 (Aj g1 (Aj g2 (Aj e1 (Aj e2 e3)))))) ?_; (repeat' first | apply Cj.mk | exact Nl.nl) <;> intros)
          exact ⟨if_neg (by simp), rfl, rfl, rfl⟩
        · rw [hit _ (if_pos (.inr (.inr rfl)))]
          (refine W_x (Aj s3 (Aj g0 (Aj g1 (Aj g2 (Aj e1 (Aj e2 e3)))))) ?_; (repeat' first | apply Cj.mk | exact Nl.nl) <;> intros)
          exact ⟨rfl, rfl⟩
      · rw [hit _ (if_pos (.inr (.inl rfl)))]
        (refine W_x (Aj s3 (Aj g0 (Aj g1 (Aj e1 e2)))) ?_; (repeat' first | apply Cj.mk | exact Nl.nl) <;> intros)
        exact ⟨rfl, rfl⟩
    · rw [hit _ (if_pos (.inl rfl))]
      (refine W_x (Aj s3 (Aj g0 e1)) ?_; (repeat' first | apply Cj.mk | exact Nl.nl) <;> intros)
      exact ⟨rfl, rfl⟩
  rw [fin, Option.none_or]
  (refine W_x s3 ?_; (repeat' first | apply Cj.mk | exact Nl.nl) <;> intros)
  refine wp_scanF 5 T.folds (fun i x => if ofI x.1 T.drops = true then W 37 5 i else none) (by intro n; simp only [setF, push_cast, Nat.reduceEqDiff, ↓reduceIte, reduceCtorEq, Nat.reduceAdd, Nat.reduceMul, Nat.reduceLeDiff]; rfl) rfl (fun i hi hit => ?_) fun fin => ?_
  · have g0 := fun lc => rd_mapc (lc := lc) t.r4 hi (k := 0) (by decide)
    generalize T.folds[i] = x at g0 hit
    unfold mapV at g0
    have e1 := e0 x.1
    generalize ofI x.1 T.drops = b at e1 hit
    cases b
    · (refine W_x (Aj s4 (Aj g0 e1)) ?_; (repeat' first | apply Cj.mk | exact Nl.nl) <;> intros)
      exact ⟨rfl, rfl, rfl, rfl⟩
    · rw [hit _ (if_pos rfl)]
      (refine W_x (Aj s4 (Aj g0 e1)) ?_; (repeat' first | apply Cj.mk | exact Nl.nl) <;> intros)
      exact ⟨rfl, rfl⟩
  rw [fin, Option.none_or]
  (refine W_x s4 ?_; (repeat' first | apply Cj.mk | exact Nl.nl) <;> intros)
  refine wp_scanF 6 T.looks (fun i x => if ofI x.1 T.drops = true then W 37 6 i else none) (by intro n; simp only [setF, push_cast, Nat.reduceEqDiff, ↓reduceIte, reduceCtorEq, Nat.reduceAdd, Nat.reduceMul, Nat.reduceLeDiff]; rfl) rfl (fun i hi hit => ?_) fun fin => ?_
  · have g0 := fun lc => rd_mapc (lc := lc) t.r5 hi (k := 0) (by decide)
    generalize T.looks[i] = x at g0 hit
    unfold mapV at g0
    have e1 := e0 x.1
    generalize ofI x.1 T.drops = b at e1 hit
    cases b
    · (refine W_x (Aj s5 (Aj g0 e1)) ?_; (repeat' first | apply Cj.mk | exact Nl.nl) <;> intros)
      exact ⟨rfl, rfl, rfl, rfl⟩
    · rw [hit _ (if_pos rfl)]
      (refine W_x (Aj s5 (Aj g0 e1)) ?_; (repeat' first | apply Cj.mk | exact Nl.nl) <;> intros)
      exact ⟨rfl, rfl⟩
  rw [fin]
  (refine W_x s5 ?_; (repeat' first | apply Cj.mk | exact Nl.nl) <;> intros)
  exact ⟨rfl, rfl⟩
theorem ixI_pos {o : Option Nat} : (0 ≤ ixI o) ↔ o.isSome = true := by cases o <;> simp [ixI]
set_option maxHeartbeats 1000000 in
theorem tos6_spec {S : TS} {T : Tab} {h : AH} (t : TabAt h S T) : WpC PX 71 [.agg S.vs.toArray] h fun v h' => v = wrV ((fromsW T).or (tosW T)) ∧ Kp h h' := by
  have f := t.fits
  have s4 := t.r4.len; have n4 := f.n4
  have s5 := t.r5.len; have n5 := f.n5
  have e1 := mark6_eq t
  have e2 := whole6_eq t
  have i2 := fun r => ixI_pos (o := wholeO T r)
  have ep := fun h' (k : Kp h h') => plain6_eq (t.kp k)
  have ef := fun h' (k : Kp h h') => from6_eq (t.kp k).r5 n5
  refine wpc_fn (px_ext rfl) (px_fn fn_guiseref6_tos) rfl ?_
  unfold LF_guiseref6_tos
  simp only [argFr]
  unfold fromsW tosW TS.vs
  unfold TS.vs at e1 e2 ep
  rw [Option.or_assoc]
  (refine W_x trivial ?_; (repeat' first | apply Cj.mk | exact Nl.nl) <;> intros)
  refine wp_scanF 3 T.folds (fun i x => if isMark T x.1 = true ∨ (wholeO T x.1).isSome = true then W 31 5 i else none) (by intro n; simp only [setF, push_cast, Nat.reduceEqDiff, ↓reduceIte, reduceCtorEq, Nat.reduceAdd, Nat.reduceMul, Nat.reduceLeDiff]; rfl) rfl (fun i hi hit => ?_) fun fin => ?_
  · have g0 := fun lc => rd_mapc (lc := lc) t.r4 hi (k := 0) (by decide)
    generalize T.folds[i] = x at g0 hit
    unfold mapV at g0
    have e3 := e1 x.1
    have i3 := i2 x.1
    generalize isMark T x.1 = b at e3 hit
    cases b
    · (refine W_x (Aj s4 (Aj g0 (Aj e3 e2))) ?_; (repeat' first | apply Cj.mk | exact Nl.nl) <;> intros)
      · rw [hit _ (if_pos (.inr (i3.1 (by omega))))]
        exact ⟨rfl, Kp.refl h⟩
      · rename_i hn
        exact ⟨if_neg (fun q => q.elim (by simp) fun q => hn (i3.2 q)), rfl, rfl, rfl⟩
    · rw [hit _ (if_pos (.inl rfl))]
      (refine W_x (Aj s4 (Aj g0 e3)) ?_; (repeat' first | apply Cj.mk | exact Nl.nl) <;> intros)
      exact ⟨rfl, Kp.refl h⟩
  rw [fin, Option.none_or]
  (refine W_x s4 ?_; (repeat' first | apply Cj.mk | exact Nl.nl) <;> intros)
  refine wp_scanF 4 T.looks (fun i x => if isMark T x.1 = true ∨ (wholeO T x.1).isSome = true then W 31 6 i else none) (by intro n; simp only [setF, push_cast, Nat.reduceEqDiff, ↓reduceIte, reduceCtorEq, Nat.reduceAdd, Nat.reduceMul, Nat.reduceLeDiff]; rfl) rfl (fun i hi hit => ?_) fun fin => ?_
  · have g0 := fun lc => rd_mapc (lc := lc) t.r5 hi (k := 0) (by decide)
    generalize T.looks[i] = x at g0 hit
    unfold mapV at g0
    have e3 := e1 x.1
    have i3 := i2 x.1
    generalize isMark T x.1 = b at e3 hit
    cases b
    · (refine W_x (Aj s5 (Aj g0 (Aj e3 e2))) ?_; (repeat' first | apply Cj.mk | exact Nl.nl) <;> intros)
      · rw [hit _ (if_pos (.inr (i3.1 (by omega))))]
        exact ⟨rfl, Kp.refl h⟩
      · rename_i hn
        exact ⟨if_neg (fun q => q.elim (by simp) fun q => hn (i3.2 q)), rfl, rfl, rfl⟩
    · rw [hit _ (if_pos (.inl rfl))]
      (refine W_x (Aj s5 (Aj g0 e3)) ?_; (repeat' first | apply Cj.mk | exact Nl.nl) <;> intros)
      exact ⟨rfl, Kp.refl h⟩
  rw [fin, Option.none_or]
  (refine W_x s5 ?_; (repeat' first | apply Cj.mk | exact Nl.nl) <;> intros)
  refine wp_scanH (Kp h) 5 T.folds (fun i x => if ∃ c ∈ (rnO x.2).getD [], plainI T (c : Nat) = false then W 35 5 i else none) (by intro n; simp only [setF, push_cast, Nat.reduceEqDiff, ↓reduceIte, reduceCtorEq, Nat.reduceAdd, Nat.reduceMul, Nat.reduceLeDiff]; rfl) rfl (Kp.refl h) (fun i hi h1 kp hit => ?_) fun h1 kp fin => ?_
  · have g1 := fun lc => rd_mapc (lc := lc) (t.r4.kp kp) hi (k := 1) (by decide)
    have hx := f.v4 _ (List.getElem_mem hi)
    generalize T.folds[i] = x at g1 hit hx
    unfold mapV at g1
    obtain ⟨v, h2, e3, sr, rfl, fo⟩ := runes6_spec x.2 h1 hx.2
    have hlr : ((rnO x.2).getD []).length ≤ x.2.size := by
      unfold rnO
      split
      · exact (List.length_map ..).symm ▸ spots_len _
      · exact Nat.zero_le _
    have k2 := kp.trans fo.kp
    have ep := ep h2 k2
    generalize (rnO x.2).getD [] = R at fo hlr hit ⊢
    have hs := fo.reads.len
    (refine W_x (Aj s4 (Aj g1 e3)) ?_; (repeat' first | apply Cj.mk | exact Nl.nl) <;> intros)
    refine wp_scanF 8 R (fun _ c => if plainI T (c : Nat) = false then some () else none) (by intro n; simp only [setF, push_cast, Nat.reduceEqDiff, ↓reduceIte, reduceCtorEq, Nat.reduceAdd, Nat.reduceMul, Nat.reduceLeDiff]; rfl) rfl (fun j hj hit2 => ?_) fun fin2 => ?_
    · have g2 := fun lc => rd_map (lc := lc) fo.reads hj
      have hm := List.getElem_mem hj
      generalize R[j] = c at g2 hit2 hm
      unfold rnV at g2
      have ep := ep (c : Nat)
      cases hb : plainI T (c : Nat)
      · rw [hb] at ep
        rw [hit _ (if_pos ⟨c, hm, hb⟩)]
        (refine W_x (Aj hs (Aj g2 ep)) ?_; (repeat' first | apply Cj.mk | exact Nl.nl) <;> intros)
        exact ⟨rfl, k2⟩
      · rw [hb] at ep
        (refine W_x (Aj hs (Aj g2 ep)) ?_; (repeat' first | apply Cj.mk | exact Nl.nl) <;> intros)
        exact ⟨rfl, rfl, rfl, rfl⟩
    · have := scanL_no fin2
      (refine W_x hs ?_; (repeat' first | apply Cj.mk | exact Nl.nl) <;> intros)
      exact ⟨if_neg this, rfl, rfl, k2⟩
  rw [fin, Option.none_or]
  (refine W_x s4 ?_; (repeat' first | apply Cj.mk | exact Nl.nl) <;> intros)
  refine wp_scanH (Kp h) 9 T.looks (fun i x => if ∃ c ∈ (rnO x.2).getD [], plainI T (c : Nat) = false ∨ (fromO T.looks (c : Nat)).isSome = true then W 36 6 i else none) (by intro n; simp only [setF, push_cast, Nat.reduceEqDiff, ↓reduceIte, reduceCtorEq, Nat.reduceAdd, Nat.reduceMul, Nat.reduceLeDiff]; rfl) rfl kp (fun i hi h1 kp hit => ?_) fun h1 kp fin => ?_
  · have g1 := fun lc => rd_mapc (lc := lc) (t.r5.kp kp) hi (k := 1) (by decide)
    have hx := f.v5 _ (List.getElem_mem hi)
    generalize T.looks[i] = x at g1 hit hx
    unfold mapV at g1
    obtain ⟨v, h2, e3, sr, rfl, fo⟩ := runes6_spec x.2 h1 hx.2
    have hlr : ((rnO x.2).getD []).length ≤ x.2.size := by
      unfold rnO
      split
      · exact (List.length_map ..).symm ▸ spots_len _
      · exact Nat.zero_le _
    have k2 := kp.trans fo.kp
    have ep := ep h2 k2
    have ef := ef h2 k2
    generalize (rnO x.2).getD [] = R at fo hlr hit ⊢
    have hs := fo.reads.len
    (refine W_x (Aj s5 (Aj g1 e3)) ?_; (repeat' first | apply Cj.mk | exact Nl.nl) <;> intros)
    refine wp_scanF 12 R (fun _ c => if plainI T (c : Nat) = false ∨ (fromO T.looks (c : Nat)).isSome = true then some () else none) (by intro n; simp only [setF, push_cast, Nat.reduceEqDiff, ↓reduceIte, reduceCtorEq, Nat.reduceAdd, Nat.reduceMul, Nat.reduceLeDiff]; rfl) rfl (fun j hj hit2 => ?_) fun fin2 => ?_
    · have g2 := fun lc => rd_map (lc := lc) fo.reads hj
      have hm := List.getElem_mem hj
      generalize R[j] = c at g2 hit2 hm
      unfold rnV at g2
      have ep := ep (c : Nat)
      have ef := ef (c : Nat)
      have i3 := ixI_pos (o := fromO T.looks (c : Nat))
      cases hb : plainI T (c : Nat)
      · rw [hb] at ep
        rw [hit _ (if_pos ⟨c, hm, .inl hb⟩)]
        (refine W_x (Aj hs (Aj g2 ep)) ?_; (repeat' first | apply Cj.mk | exact Nl.nl) <;> intros)
        exact ⟨rfl, k2⟩
      · rw [hb] at ep
        (refine W_x (Aj hs (Aj g2 (Aj ep ef))) ?_; (repeat' first | apply Cj.mk | exact Nl.nl) <;> intros)
        · rw [hit _ (if_pos ⟨c, hm, .inr (i3.1 (by omega))⟩)]
          exact ⟨rfl, k2⟩
        · rename_i hn
          exact ⟨if_neg (fun q => q.elim (by simp) fun q => hn (i3.2 q)), rfl, rfl, rfl⟩
    · have := scanL_no fin2
      (refine W_x hs ?_; (repeat' first | apply Cj.mk | exact Nl.nl) <;> intros)
      exact ⟨if_neg this, rfl, rfl, k2⟩
  rw [fin]
  (refine W_x s5 ?_; (repeat' first | apply Cj.mk | exact Nl.nl) <;> intros)
  exact ⟨rfl, kp⟩
end Go.Proofs.YtblmakgjdenpfaaDoor.AM
namespace Go.Proofs.YtblmakgjdenpfaaDoor.AM
open Go
set_option maxHeartbeats 1000000 in
theorem rows6_spec {S : TS} {T : Tab} {h : AH} (t : TabAt h S T) : WpC PX 117 [.agg S.vs.toArray] h fun v h' => v = wrV (rowsW T) ∧ Kp h h' := by
  have f := t.fits
  have s2 := t.r2.len; have n2 := f.n2
  have s3 := t.r3.len; have n3 := f.n3
  have s4 := t.r4.len; have n4 := f.n4
  have s5 := t.r5.len; have n5 := f.n5
  have e0 := fun r => of6_eq t.r1 f.n1 (r := r)
  have e1 := low6_eq
  have e2 := set6_eq
  refine wpc_fn (px_ext rfl) (px_fn fn_guiseref6_rows) rfl ?_
  unfold LF_guiseref6_rows
  simp only [argFr]
  unfold rowsW TS.vs
  (refine W_x trivial ?_; (repeat' first | apply Cj.mk | exact Nl.nl) <;> intros)
  refine wp_scanN .i32 45 13 3 (fun i => if i ≠ 2 ∧ ofI ((45 + i : Nat) : Int) T.common = false then W 5 2 0 else none) (by intro n; simp only [setF, push_cast, Nat.reduceEqDiff, ↓reduceIte, reduceCtorEq, Nat.reduceAdd, Nat.reduceMul, Nat.reduceLeDiff]; rfl) rfl (fun i hi hit => ?_) fun fin => ?_
  · have e3 := e0 (45 + (i : Int))
    have hc : ((45 + i : Nat) : Int) = 45 + (i : Int) := by omega
    rw [hc] at hit ⊢
    generalize ofI (45 + (i : Int)) T.common = b at e3 hit
    by_cases h2 : i = 2
    · (refine W_x trivial ?_; (repeat' first | apply Cj.mk | exact Nl.nl) <;> intros)
      exact ⟨if_neg (fun q => q.1 h2), rfl, rfl, rfl⟩
    · cases b
      · rw [hit _ (if_pos ⟨h2, rfl⟩)]
        (refine W_x e3 ?_; (repeat' first | apply Cj.mk | exact Nl.nl) <;> intros)
        exact ⟨rfl, Kp.refl h⟩
      · (refine W_x e3 ?_; (repeat' first | apply Cj.mk | exact Nl.nl) <;> intros)
        exact ⟨if_neg (by simp), rfl, rfl, rfl⟩
  rw [fin, Option.none_or]
  (refine W_x trivial ?_; (repeat' first | apply Cj.mk | exact Nl.nl) <;> intros)
  refine wp_scanF 4 T.marks (fun i x => if lowI x.1 = true then W 5 3 i else none) (by intro n; simp only [setF, push_cast, Nat.reduceEqDiff, ↓reduceIte, reduceCtorEq, Nat.reduceAdd, Nat.reduceMul, Nat.reduceLeDiff]; rfl) rfl (fun i hi hit => ?_) fun fin => ?_
  · have g0 := fun lc => rd_mapc (lc := lc) t.r2 hi (k := 0) (by decide)
    generalize T.marks[i] = x at g0 hit
    unfold markV at g0
    have e3 := e1 x.1
    generalize lowI x.1 = b at e3 hit
    cases b
    · (refine W_x (Aj s2 (Aj g0 e3)) ?_; (repeat' first | apply Cj.mk | exact Nl.nl) <;> intros)
      exact ⟨rfl, rfl, rfl, rfl⟩
    · rw [hit _ (if_pos rfl)]
      (refine W_x (Aj s2 (Aj g0 e3)) ?_; (repeat' first | apply Cj.mk | exact Nl.nl) <;> intros)
      exact ⟨rfl, Kp.refl h⟩
  rw [fin, Option.none_or]
  (refine W_x s2 ?_; (repeat' first | apply Cj.mk | exact Nl.nl) <;> intros)
  refine wp_scanF 5 T.pairs (fun i x => if lowI x.1 = true then W 5 4 i else none) (by intro n; simp only [setF, push_cast, Nat.reduceEqDiff, ↓reduceIte, reduceCtorEq, Nat.reduceAdd, Nat.reduceMul, Nat.reduceLeDiff]; rfl) rfl (fun i hi hit => ?_) fun fin => ?_
  · have g0 := fun lc => rd_mapc (lc := lc) t.r3 hi (k := 0) (by decide)
    generalize T.pairs[i] = x at g0 hit
    unfold tripV at g0
    have e3 := e1 x.1
    generalize lowI x.1 = b at e3 hit
    cases b
    · (refine W_x (Aj s3 (Aj g0 e3)) ?_; (repeat' first | apply Cj.mk | exact Nl.nl) <;> intros)
      exact ⟨rfl, rfl, rfl, rfl⟩
    · rw [hit _ (if_pos rfl)]
      (refine W_x (Aj s3 (Aj g0 e3)) ?_; (repeat' first | apply Cj.mk | exact Nl.nl) <;> intros)
      exact ⟨rfl, Kp.refl h⟩
  rw [fin, Option.none_or]
  (refine W_x s3 ?_; (repeat' first | apply Cj.mk | exact Nl.nl) <;> intros)
  refine wp_scanH (Kp h) 6 T.folds (fun i x => if (lowI x.1 = true ∧ (x.1 < 65 ∨ 90 < x.1)) ∨ setsB x.2 = true then W 5 5 i else none) (by intro n; simp only [setF, push_cast, Nat.reduceEqDiff, ↓reduceIte, reduceCtorEq, Nat.reduceAdd, Nat.reduceMul, Nat.reduceLeDiff]; rfl) rfl (Kp.refl h) (fun i hi h1 kp hit => ?_) fun h1 kp fin => ?_
  · have g0 := fun lc => rd_mapc (lc := lc) (t.r4.kp kp) hi (k := 0) (by decide)
    have g1 := fun lc => rd_mapc (lc := lc) (t.r4.kp kp) hi (k := 1) (by decide)
    have hx := f.v4 _ (List.getElem_mem hi)
    generalize T.folds[i] = x at g0 g1 hit hx
    unfold mapV at g0 g1
    obtain ⟨v, h2, e4, rfl, k2⟩ := sets6_spec x.2 h1 hx.2
    have k2 := kp.trans k2
    have e3 := e1 x.1
    generalize lowI x.1 = b at e3 hit
    generalize setsB x.2 = b2 at e4 hit
    cases b
    · cases b2
      · (refine W_x (Aj s4 (Aj g0 (Aj g1 (Aj e3 e4)))) ?_; (repeat' first | apply Cj.mk | exact Nl.nl) <;> intros)
        exact ⟨if_neg (by simp), rfl, rfl, k2⟩
      · rw [hit _ (if_pos (.inr rfl))]
        (refine W_x (Aj s4 (Aj g0 (Aj g1 (Aj e3 e4)))) ?_; (repeat' first | apply Cj.mk | exact Nl.nl) <;> intros)
        exact ⟨rfl, k2⟩
    · cases b2
      · (refine W_x (Aj s4 (Aj g0 (Aj g1 (Aj e3 e4)))) ?_; (repeat' first | apply Cj.mk | exact Nl.nl) <;> intros)
        · rw [hit _ (if_pos (.inl ⟨rfl, by omega⟩))]
          exact ⟨rfl, kp⟩
        · rw [hit _ (if_pos (.inl ⟨rfl, by omega⟩))]
          exact ⟨rfl, kp⟩
        · exact ⟨if_neg (by simp; omega), rfl, rfl, k2⟩
      · rw [hit _ (if_pos (.inr rfl))]
        (refine W_x (Aj s4 (Aj g0 (Aj g1 (Aj e3 e4)))) ?_; (repeat' first | apply Cj.mk | exact Nl.nl) <;> intros)
        · exact ⟨rfl, kp⟩
        · exact ⟨rfl, kp⟩
        · exact ⟨rfl, k2⟩
  rw [fin, Option.none_or]
  (refine W_x s4 ?_; (repeat' first | apply Cj.mk | exact Nl.nl) <;> intros)
  refine wp_scanH (Kp h) 8 T.looks (fun i x => if setI x.1 = true ∨ setsB x.2 = true then W 5 6 i else none) (by intro n; simp only [setF, push_cast, Nat.reduceEqDiff, ↓reduceIte, reduceCtorEq, Nat.reduceAdd, Nat.reduceMul, Nat.reduceLeDiff]; rfl) rfl kp (fun i hi h1 kp hit => ?_) fun h1 kp fin => ?_
  · have g0 := fun lc => rd_mapc (lc := lc) (t.r5.kp kp) hi (k := 0) (by decide)
    have g1 := fun lc => rd_mapc (lc := lc) (t.r5.kp kp) hi (k := 1) (by decide)
    have hx := f.v5 _ (List.getElem_mem hi)
    generalize T.looks[i] = x at g0 g1 hit hx
    unfold mapV at g0 g1
    obtain ⟨v, h2, e4, rfl, k2⟩ := sets6_spec x.2 h1 hx.2
    have k2 := kp.trans k2
    have e3 := e2 x.1
    generalize setI x.1 = b at e3 hit
    generalize setsB x.2 = b2 at e4 hit
    cases b
    · cases b2
      · (refine W_x (Aj s5 (Aj g0 (Aj g1 (Aj e3 e4)))) ?_; (repeat' first | apply Cj.mk | exact Nl.nl) <;> intros)
        exact ⟨if_neg (by simp), rfl, rfl, k2⟩
      · rw [hit _ (if_pos (.inr rfl))]
        (refine W_x (Aj s5 (Aj g0 (Aj g1 (Aj e3 e4)))) ?_; (repeat' first | apply Cj.mk | exact Nl.nl) <;> intros)
        exact ⟨rfl, k2⟩
    · rw [hit _ (if_pos (.inl rfl))]
      (refine W_x (Aj s5 (Aj g0 e3)) ?_; (repeat' first | apply Cj.mk | exact Nl.nl) <;> intros)
      exact ⟨rfl, kp⟩
  rw [fin]
  (refine W_x s5 ?_; (repeat' first | apply Cj.mk | exact Nl.nl) <;> intros)
  exact ⟨rfl, kp⟩
theorem odd_some {x : Span} {r : Int} (h1 : x.1 ≤ r) (h2 : r ≤ x.2) (h3 : 0 ≤ r) (h4 : r < 128) (h5 : lettI r = false) : oddA x = true := by
  unfold oddA
  have e : ((r.toNat : Nat) : Int) = r := by omega
  exact List.any_eq_true.2 ⟨r.toNat, List.mem_range.2 (by omega), by rw [e, h5]; simp only [Bool.and_eq_true, decide_eq_true_eq]; exact ⟨⟨h1, h2⟩, rfl⟩⟩
theorem odd_none {x : Span} (h : ∀ r : Int, x.1 ≤ r → r ≤ x.2 → 0 ≤ r → r < 128 → lettI r = true) : oddA x = false := by
  unfold oddA
  refine List.any_eq_false.2 fun c hc => ?_
  have := List.mem_range.1 hc
  simp only [Bool.and_eq_true, decide_eq_true_eq, Bool.not_eq_true']
  rintro ⟨⟨h1, h2⟩, h3⟩
  rw [h c h1 h2 (by omega) (by omega)] at h3
  cases h3
theorem rowsW_pos {T : Tab} {a b c : Int} (h : rowsW T = some (a, b, c)) : a ≠ 0 := by
  unfold rowsW at h
  have key : ∀ {β : Type} {l : List β} {P : Nat → β → Prop} [∀ i x, Decidable (P i x)] {m : Int}, ∀ w, (scanL l fun i x => if P i x then W 5 m i else none) = some w → w.1 = 5 := by
    intro β l P _ m w hw
    obtain ⟨i, hi, hw⟩ := scanL_some hw
    split at hw
    · injection hw with hw; rw [← hw]
    · cases hw
  have k0 : ∀ w, (scan 13 fun i => if i ≠ 2 ∧ ofI ((45 + i : Nat) : Int) T.common = false then W 5 2 0 else none) = some w → w.1 = 5 := by
    intro w hw
    obtain ⟨i, hi, hw⟩ := scan_some hw
    split at hw
    · injection hw with hw; rw [← hw]
    · cases hw
  have : (a, b, c).1 = 5 := by
    rcases Option.or_eq_some_iff.1 h with h | ⟨_, h⟩
    · exact k0 _ h
    rcases Option.or_eq_some_iff.1 h with h | ⟨_, h⟩
    · exact key _ h
    rcases Option.or_eq_some_iff.1 h with h | ⟨_, h⟩
    · exact key _ h
    rcases Option.or_eq_some_iff.1 h with h | ⟨_, h⟩
    · exact key _ h
    · exact key _ h
  simp only at this
  omega
set_option maxHeartbeats 1000000 in
theorem house6_spec {S : TS} {T : Tab} {h : AH} (t : TabAt h S T) (ha : ∀ x ∈ T.allowed, 0 ≤ x.1) : WpC PX 72 [.agg S.vs.toArray] h fun v h' => v = wrV (houseW T) ∧ Kp h h' := by
  have f := t.fits
  have n6 := f.n6
  have n7 := f.n7
  obtain ⟨v, h1, e1, rfl, k1⟩ := rows6_spec t
  refine wpc_fn (px_ext rfl) (px_fn fn_guiseref6_house) rfl ?_
  unfold LF_guiseref6_house
  simp only [argFr]
  unfold houseW
  unfold TS.vs at e1 ⊢
  have t := t.kp k1
  have s6 := t.r6.len
  have s7 := t.r7.len
  have e0 := fun r => of6_eq t.r7 n7 (r := r)
  have hp := fun a b c => rowsW_pos (T := T) (a := a) (b := b) (c := c)
  generalize rowsW T = o at e1 hp
  match o, e1, hp with
  | some (a, b, c), e1, hp =>
    have := hp a b c rfl
    simp only [wrV] at e1
    (refine W_x e1 ?_; (repeat' first | apply Cj.mk | exact Nl.nl) <;> intros)
    exact ⟨rfl, k1⟩
  | none, e1, hp =>
  simp only [wrV] at e1
  rw [Option.none_or]
  (refine W_x e1 ?_; (repeat' first | apply Cj.mk | exact Nl.nl) <;> intros)
  refine wp_scanF 4 T.drops (fun i x => if x.1 < 128 ∨ (x.1 ≤ 65533 ∧ 65533 ≤ x.2) then W 5 7 i else none) (by intro n; simp only [setF, push_cast, Nat.reduceEqDiff, ↓reduceIte, reduceCtorEq, Nat.reduceAdd, Nat.reduceMul, Nat.reduceLeDiff]; rfl) rfl (fun i hi hit => ?_) fun fin => ?_
  · have g0 := fun lc => rd_mapc (lc := lc) t.r6 hi (k := 0) (by decide)
    have g1 := fun lc => rd_mapc (lc := lc) t.r6 hi (k := 1) (by decide)
    generalize T.drops[i] = x at g0 g1 hit
    unfold pairV at g0 g1
    (refine W_x (Aj s6 (Aj g0 g1)) ?_; (repeat' first | apply Cj.mk | exact Nl.nl) <;> intros)
    · rw [hit _ (if_pos (by omega))]
      exact ⟨rfl, k1⟩
    · rw [hit _ (if_pos (by omega))]
      exact ⟨rfl, k1⟩
    all_goals exact ⟨if_neg (by omega), rfl, rfl, rfl⟩
  rw [fin, Option.none_or]
  (refine W_x s6 ?_; (repeat' first | apply Cj.mk | exact Nl.nl) <;> intros)
  refine wp_scanF 5 T.allowed (fun i x => if oddA x = true then W 5 8 i else none) (by intro n; simp only [setF, push_cast, Nat.reduceEqDiff, ↓reduceIte, reduceCtorEq, Nat.reduceAdd, Nat.reduceMul, Nat.reduceLeDiff]; rfl) rfl (fun i hi hit => ?_) fun fin => ?_
  · have g0 := fun lc => rd_mapc (lc := lc) t.r7 hi (k := 0) (by decide)
    have g1 := fun lc => rd_mapc (lc := lc) t.r7 hi (k := 1) (by decide)
    have hx := ha _ (List.getElem_mem hi)
    generalize T.allowed[i] = x at g0 g1 hit hx
    unfold pairV at g0 g1
    (refine W_x (Aj s7 g0) ?_; (repeat' first | apply Cj.mk | exact Nl.nl) <;> intros)
    refine wp_loop (fun w fr lc h2 => ∃ r : Int, w = (128 - r).toNat ∧ x.1 ≤ r ∧ (∀ c : Int, x.1 ≤ c → c < r → c ≤ x.2 ∧ c < 128 → lettI c = true) ∧ h2 = h1 ∧ lc = [(2, .cells false [S.s0.val 2, S.s1.val 2, S.s2.val 2, S.s3.val 3, S.s4.val 2, S.s5.val 2, S.s6.val 2, S.s7.val 2]), (4, .cells false [.int .i64 0, .int .i64 0, .int .i64 0])] ∧
      fr = [(1, .pointer (some ⟨2, 0, some 1⟩)), (2, .pointer (some ⟨4, 0, some 1⟩)), (5, .int .i64 i), (6, .int .i32 r)]) (128 - x.1).toNat ⟨x.1, rfl, Int.le_refl _, fun c h1 h2 => by omega, rfl, rfl, rfl⟩ ?_
    rintro w fr lc h2 ⟨r, rfl, hr, hall, rfl, rfl, rfl⟩
    by_cases hin : r ≤ x.2 ∧ r < 128
    · by_cases hl : lettI r = true
      · have hl2 := of_decide_eq_true hl
        (refine W_x (Aj s7 (Aj g0 g1)) ?_; (repeat' first | apply Cj.mk | exact Nl.nl) <;> intros)
        all_goals exact ⟨_, by omega, r + 1, rfl, by omega, fun c h3 h4 h5 => by
          by_cases h6 : c < r
          · exact hall c h3 h6 h5
          · rw [show c = r by omega]; exact hl, rfl, rfl, rfl⟩
      · have hl2 : ¬ (r = 45 ∨ (48 ≤ r ∧ r ≤ 57) ∨ (97 ≤ r ∧ r ≤ 122)) := fun q => hl (decide_eq_true q)
        rw [hit _ (if_pos (odd_some hr hin.1 (by omega) hin.2 (Bool.eq_false_iff.2 hl)))]
        (refine W_x (Aj s7 (Aj g0 g1)) ?_; (repeat' first | apply Cj.mk | exact Nl.nl) <;> intros)
        all_goals exact ⟨rfl, k1⟩
    · have ho : oddA x = false := odd_none fun c h1 h2 h3 h4 => hall c h1 (by omega) ⟨h2, h4⟩
      (refine W_x (Aj s7 (Aj g0 g1)) ?_; (repeat' first | apply Cj.mk | exact Nl.nl) <;> intros)
      all_goals exact ⟨if_neg (by rw [ho]; decide), rfl, rfl, rfl⟩
  rw [fin, Option.none_or]
  (refine W_x s7 ?_; (repeat' first | apply Cj.mk | exact Nl.nl) <;> intros)
  refine wp_scanN .i32 45 78 7 (fun i => if lettI ((45 + i : Nat) : Int) = true ∧ ofI ((45 + i : Nat) : Int) T.allowed = false then W 5 8 0 else none) (by intro n; simp only [setF, push_cast, Nat.reduceEqDiff, ↓reduceIte, reduceCtorEq, Nat.reduceAdd, Nat.reduceMul, Nat.reduceLeDiff]; rfl) rfl (fun i hi hit => ?_) fun fin => ?_
  · have e3 := e0 (45 + (i : Int))
    have hc : ((45 + i : Nat) : Int) = 45 + (i : Int) := by omega
    rw [hc] at hit ⊢
    generalize ofI (45 + (i : Int)) T.allowed = b at e3 hit
    by_cases h2 : lettI (45 + (i : Int)) = true
    · have h3 := of_decide_eq_true h2
      cases b
      · rw [hit _ (if_pos ⟨h2, rfl⟩)]
        (refine W_x e3 ?_; (repeat' first | apply Cj.mk | exact Nl.nl) <;> intros)
        all_goals exact ⟨rfl, k1⟩
      · (refine W_x e3 ?_; (repeat' first | apply Cj.mk | exact Nl.nl) <;> intros)
        all_goals exact ⟨if_neg (by simp), rfl, rfl, rfl⟩
    · have h3 : ¬ (45 + (i : Int) = 45 ∨ (48 ≤ 45 + (i : Int) ∧ 45 + (i : Int) ≤ 57) ∨ (97 ≤ 45 + (i : Int) ∧ 45 + (i : Int) ≤ 122)) := fun q => h2 (decide_eq_true q)
      (refine W_x trivial ?_; (repeat' first | apply Cj.mk | exact Nl.nl) <;> intros)
      all_goals exact ⟨if_neg (fun q => h2 q.1), rfl, rfl, rfl⟩
  rw [fin]
  (refine W_x trivial ?_; (repeat' first | apply Cj.mk | exact Nl.nl) <;> intros)
  exact ⟨rfl, k1⟩
theorem formsW_allowed {T : Tab} (h : formsW T = none) : ∀ x ∈ T.allowed, 0 ≤ x.1 := by
  intro x hx
  unfold formsW at h
  simp only [Option.or_eq_none_iff] at h
  have h7 := h.2.2.2.2.2.2.2
  unfold spansW spansE at h7
  rw [Option.map_eq_none_iff] at h7
  obtain ⟨i, hi, rfl⟩ := List.mem_iff_getElem.1 hx
  have := scanL_none h7 i hi
  rw [Option.map_eq_none_iff] at this
  unfold spanE at this
  split at this
  · cases this
  · rename_i hr
    have h1 : runeI (T.allowed[i]).1 = true := by
      cases hb : runeI (T.allowed[i]).1 with
      | true => rfl
      | false => exact absurd (.inl hb) hr
    have := of_decide_eq_true h1
    omega
def PosW (o : Option W3) : Prop := ∀ a b c, o = some (a, b, c) → a ≠ 0
theorem PosW.or {o p : Option W3} (h1 : PosW o) (h2 : PosW p) : PosW (o.or p) := fun a b c h => by
  rcases Option.or_eq_some_iff.1 h with h | ⟨_, h⟩
  · exact h1 a b c h
  · exact h2 a b c h
theorem PosW.none : PosW none := fun a b c h => by cases h
theorem PosW.mk {a b c : Int} (h : a ≠ 0) : PosW (W a b c) := fun x y z e => by injection e with e; injection e with e; omega
theorem PosW.ite {P : Prop} [Decidable P] {o p : Option W3} (h1 : PosW o) (h2 : PosW p) : PosW (if P then o else p) := by split; exact h1; exact h2
theorem PosW.scan {n : Nat} {f : Nat → Option W3} (h : ∀ i, PosW (f i)) : PosW (scan n f) := fun a b c e => by
  obtain ⟨i, _, hw⟩ := scan_some e
  exact h i a b c hw
theorem PosW.scanL {α : Type} {l : List α} {g : Nat → α → Option W3} (h : ∀ i x, PosW (g i x)) : PosW (scanL l g) := fun a b c e => by
  obtain ⟨i, _, hw⟩ := scanL_some e
  exact h _ _ a b c hw
theorem longW_pos (T : Tab) : PosW (longW T) := by
  unfold longW
  refine .ite (.mk (by decide)) (.or (.scanL fun i x => .ite (.mk (by decide)) .none) ?_)
  repeat' refine .ite (.mk (by decide)) ?_
  exact .none
theorem formsW_pos (T : Tab) : PosW (formsW T) := by
  unfold formsW
  refine .or (.scanL fun i x => fun a b c h => ?_) (.or (fun a b c h => spansW_pos h) (.or (.scanL fun i x => .ite (.mk (by decide)) (.ite (.mk (by decide)) .none)) (.or (.scanL fun i x => .ite (.mk (by decide)) .none)
    (.or (fun a b c h => mapsW_pos h) (.or (fun a b c h => mapsW_pos h) (.or (fun a b c h => spansW_pos h) (fun a b c h => spansW_pos h)))))))
  cases hs : scrE x with
  | none => rw [hs] at h; cases h
  | some e =>
    rw [hs] at h
    injection h with h
    injection h with h
    have := scrE_pos hs
    omega
theorem twiceW_pos (T : Tab) : PosW (twiceW T) := by
  unfold twiceW
  exact .or (.scanL fun i x => .ite (.mk (by decide)) .none) (.or (.scanL fun i x => .ite (.mk (by decide)) .none) (.or (.scanL fun i x => .ite (.mk (by decide)) .none) (.or (.scanL fun i x => .ite (.mk (by decide)) .none) (.scanL fun i x => .ite (.mk (by decide)) .none))))
theorem pairsW_pos (T : Tab) : PosW (pairsW T) := .scanL fun i x => .ite (.mk (by decide)) .none
theorem chainsW_pos (T : Tab) : PosW (chainsW T) := .scanL fun i x => .ite (.mk (by decide)) (.ite (.mk (by decide)) .none)
theorem dropsW_pos (T : Tab) : PosW (dropsW T) := by
  unfold dropsW
  exact .or (.scanL fun i x => .ite (.mk (by decide)) .none) (.or (.scanL fun i x => .ite (.mk (by decide)) .none) (.or (.scanL fun i x => .ite (.mk (by decide)) .none) (.scanL fun i x => .ite (.mk (by decide)) .none)))
theorem fromsW_pos (T : Tab) : PosW (fromsW T) := .or (.scanL fun i x => .ite (.mk (by decide)) .none) (.scanL fun i x => .ite (.mk (by decide)) .none)
theorem tosW_pos (T : Tab) : PosW (tosW T) := .or (.scanL fun i x => .ite (.mk (by decide)) .none) (.scanL fun i x => .ite (.mk (by decide)) .none)
theorem houseW_pos (T : Tab) : PosW (houseW T) := .or (fun a b c h => rowsW_pos h) (.or (.scanL fun i x => .ite (.mk (by decide)) .none) (.or (.scanL fun i x => .ite (.mk (by decide)) .none) (.scan fun i => .ite (.mk (by decide)) .none)))
set_option maxHeartbeats 1000000 in
theorem check6_spec {S : TS} {T : Tab} {h : AH} (t : TabAt h S T) : WpC PX 33 [.agg S.vs.toArray] h fun v h' => v = wrV (checkW T) ∧ Kp h h' := by
  obtain ⟨v, h1, e1, rfl, k1⟩ := long6_spec t
  refine wpc_fn (px_ext rfl) (px_fn fn_guiseref6_Check) rfl ?_
  unfold LF_guiseref6_Check
  simp only [argFr]
  unfold checkW
  have t1 := t.kp k1
  obtain ⟨v, h2, e2, rfl, k2⟩ := forms6_spec t1
  have t2 := t1.kp k2
  have hfa := formsW_allowed (T := T)
  have k2 := k1.trans k2
  have e3 := twice6_spec t2
  have e4 := pairs6_eq t2
  have e5 := drops6_eq t2
  obtain ⟨v, h3, e6, rfl, k3⟩ := tos6_spec t2
  have t3 := t2.kp k3
  have k3 := k2.trans k3
  have hh := fun ha => house6_spec t3 ha
  have hp := longW_pos T
  generalize longW T = o at e1 hp
  unfold TS.vs at e1 e2 e3 e4 e5 e6 hh ⊢
  match o, e1, hp with
  | some (a, b, c), e1, hp =>
    have := hp a b c rfl
    simp only [wrV] at e1
    (refine W_x e1 ?_; (repeat' first | apply Cj.mk | exact Nl.nl) <;> intros)
    exact ⟨rfl, k1⟩
  | none, e1, hp =>
  simp only [wrV] at e1
  rw [Option.none_or]
  have hp := formsW_pos T
  generalize formsW T = o at e2 hp hfa
  match o, e2, hp, hfa with
  | some (a, b, c), e2, hp, _ =>
    have := hp a b c rfl
    simp only [wrV] at e2
    (refine W_x (Aj e1 e2) ?_; (repeat' first | apply Cj.mk | exact Nl.nl) <;> intros)
    exact ⟨rfl, k2⟩
  | none, e2, hp, hfa =>
  simp only [wrV] at e2
  rw [Option.none_or]
  have hp := twiceW_pos T
  generalize twiceW T = o at e3 hp
  match o, e3, hp with
  | some (a, b, c), e3, hp =>
    have := hp a b c rfl
    simp only [wrV] at e3
    (refine W_x (Aj e1 (Aj e2 e3)) ?_; (repeat' first | apply Cj.mk | exact Nl.nl) <;> intros)
    exact ⟨rfl, k2⟩
  | none, e3, hp =>
  simp only [wrV] at e3
  rw [Option.none_or]
  have hp := (pairsW_pos T).or (chainsW_pos T)
  generalize (pairsW T).or (chainsW T) = o at e4 hp
  match o, e4, hp with
  | some (a, b, c), e4, hp =>
    have := hp a b c rfl
    simp only [wrV] at e4
    (refine W_x (Aj e1 (Aj e2 (Aj e3 e4))) ?_; (repeat' first | apply Cj.mk | exact Nl.nl) <;> intros)
    exact ⟨rfl, k2⟩
  | none, e4, hp =>
  simp only [wrV] at e4
  rw [Option.none_or]
  have hp := dropsW_pos T
  generalize dropsW T = o at e5 hp
  match o, e5, hp with
  | some (a, b, c), e5, hp =>
    have := hp a b c rfl
    simp only [wrV] at e5
    (refine W_x (Aj e1 (Aj e2 (Aj e3 (Aj e4 e5)))) ?_; (repeat' first | apply Cj.mk | exact Nl.nl) <;> intros)
    exact ⟨rfl, k2⟩
  | none, e5, hp =>
  simp only [wrV] at e5
  rw [Option.none_or]
  have hp := (fromsW_pos T).or (tosW_pos T)
  generalize (fromsW T).or (tosW T) = o at e6 hp
  match o, e6, hp with
  | some (a, b, c), e6, hp =>
    have := hp a b c rfl
    simp only [wrV] at e6
    (refine W_x (Aj e1 (Aj e2 (Aj e3 (Aj e4 (Aj e5 e6))))) ?_; (repeat' first | apply Cj.mk | exact Nl.nl) <;> intros)
    exact ⟨rfl, k3⟩
  | none, e6, hp =>
  simp only [wrV] at e6
  rw [Option.none_or]
  obtain ⟨v, h4, e7, rfl, k4⟩ := hh (hfa rfl)
  have k4 := k3.trans k4
  generalize houseW T = o at e7
  match o, e7 with
  | some (a, b, c), e7 =>
    simp only [wrV] at e7
    (refine W_x (Aj e1 (Aj e2 (Aj e3 (Aj e4 (Aj e5 (Aj e6 e7)))))) ?_; (repeat' first | apply Cj.mk | exact Nl.nl) <;> intros)
    exact ⟨rfl, k4⟩
  | none, e7 =>
    simp only [wrV] at e7
    (refine W_x (Aj e1 (Aj e2 (Aj e3 (Aj e4 (Aj e5 (Aj e6 e7)))))) ?_; (repeat' first | apply Cj.mk | exact Nl.nl) <;> intros)
    exact ⟨rfl, k4⟩
end Go.Proofs.YtblmakgjdenpfaaDoor.AM
namespace Go.Proofs.YtblmakgjdenpfaaDoor.AM
open Go
theorem wrong_eq (a b c : Int) (h : AH) : callO PX 85 [.int .i64 a, .int .i64 b, .int .i64 c] h = some (wrV (some (a, b, c)), h) := by
  apply WpC.eqn
  refine wpc_fn (px_ext rfl) (px_fn fn_tables_wrong) rfl ?_
  unfold LF_tables_wrong
  simp only [argFr]
  (refine W_x trivial ?_; (repeat' first | apply Cj.mk | exact Nl.nl) <;> intros)
  exact ⟨rfl, rfl⟩
theorem validRune_eq (r : Int) (h : AH) : callO PX 88 [.int .i32 r] h = some (.bool (runeI r), h) := by
  apply WpC.eqn
  refine wpc_fn (px_ext rfl) (px_fn fn_utf8_ValidRune) rfl ?_
  unfold LF_utf8_ValidRune
  simp only [argFr]
  (refine W_x trivial ?_; (repeat' first | apply Cj.mk | exact Nl.nl) <;> intros)
  all_goals (refine ⟨?_, rfl⟩; congr 1; symm; unfold runeI; first | (exact decide_eq_true (by omega)) | (exact decide_eq_false (by omega)))
theorem low_eq (r : Int) (h : AH) : callO PX 94 [.int .i32 r] h = some (.bool (lowI r), h) := by
  apply WpC.eqn
  refine wpc_fn (px_ext rfl) (px_fn fn_tables_low) rfl ?_
  unfold LF_tables_low
  simp only [argFr]
  (refine W_x trivial ?_; (repeat' first | apply Cj.mk | exact Nl.nl) <;> intros)
  all_goals (refine ⟨?_, rfl⟩; congr 1; symm; unfold lowI; first | (exact decide_eq_true (by omega)) | (exact decide_eq_false (by omega)))
theorem fixed_eq (r : Int) (h : AH) : callO PX 96 [.int .i32 r] h = some (.bool (setI r), h) := by
  apply WpC.eqn
  refine wpc_fn (px_ext rfl) (px_fn fn_tables_fixed) rfl ?_
  unfold LF_tables_fixed
  simp only [argFr]
  (refine W_x trivial ?_; (repeat' first | apply Cj.mk | exact Nl.nl) <;> intros)
  all_goals (refine ⟨?_, rfl⟩; congr 1; symm; unfold setI; first | (exact decide_eq_true (by omega)) | (exact decide_eq_false (by omega)))
def badSp (i : Nat) (x : Nat × Nat) : Prop := ¬ (97 ≤ x.1 ∧ x.1 ≤ 122) ∧ (i = 0 ∨ (x.1 ≠ 45 ∧ (x.1 < 48 ∨ 57 < x.1)))
instance (i : Nat) (x : Nat × Nat) : Decidable (badSp i x) := by unfold badSp; infer_instance
theorem dec1_low {l : Bytes} (h : bat l 0 < 128) : dec1 l = (bat l 0, 1) := by unfold dec1; rw [if_pos h]
theorem dec1_high {l : Bytes} (hl : l ≠ []) (h : ¬ bat l 0 < 128) : 128 ≤ (dec1 l).1 := by
  rcases dec_cases hl with ⟨c, rest, hc, e, hd⟩ | ⟨hd, _⟩
  · rw [hd]
    by_cases hc8 : c < 128
    · exfalso
      apply h
      rw [e]
      unfold encN
      rw [if_pos hc8]
      show (UInt8.ofNat c).toNat < 128
      rw [of_small (by omega)]
      exact hc8
    · exact Nat.le_of_not_lt hc8
  · rw [hd]; decide
theorem name_spots (n : Nat) : ∀ (l : Bytes), l.length = n → ∀ (k : Nat), (∃ i, ∃ hi : i < (spots l).length, badSp (k + i) (spots l)[i]) ↔ ∃ i, ∃ hi : i < l.length, badNm (k + i) l[i] := by
  induction n using Nat.strongRecOn with
  | ind n ih =>
    intro l hn k
    match l, hn with
    | [], hn =>
      subst hn
      constructor
      · rintro ⟨i, hi, _⟩; exact absurd hi (Nat.not_lt_zero _)
      · rintro ⟨i, hi, _⟩; exact absurd hi (Nat.not_lt_zero _)
    | a :: t, hn =>
      subst hn
      have hs := spots_cons (l := a :: t) (by simp)
      have hb : bat (a :: t) 0 = a.toNat := rfl
      by_cases ha : a.toNat < 128
      · have hd := dec1_low (l := a :: t) (by rw [hb]; exact ha)
        rw [hd, hb] at hs
        simp only [List.drop_succ_cons, List.drop_zero] at hs
        have ih2 := ih t.length (by simp) t rfl (k + 1)
        constructor
        · rintro ⟨i, hi, h⟩
          simp only [hs] at h hi
          cases i with
          | zero => exact ⟨0, by simp, h⟩
          | succ i =>
            obtain ⟨j, hj, h2⟩ := ih2.1 ⟨i, by simpa using hi, by simpa [Nat.add_assoc, Nat.add_comm 1] using h⟩
            exact ⟨j + 1, by simpa using hj, by simpa [Nat.add_assoc, Nat.add_comm 1] using h2⟩
        · rintro ⟨i, hi, h⟩
          cases i with
          | zero => exact ⟨0, by rw [hs]; simp, by simp only [hs]; exact h⟩
          | succ i =>
            obtain ⟨j, hj, h2⟩ := ih2.2 ⟨i, by simpa using hi, by simpa [Nat.add_assoc, Nat.add_comm 1] using h⟩
            exact ⟨j + 1, by rw [hs]; simpa using hj, by simp only [hs, List.getElem_cons_succ]; simpa [Nat.add_assoc, Nat.add_comm 1] using h2⟩
      · have hh := dec1_high (l := a :: t) (by simp) (by rw [hb]; exact ha)
        constructor
        · intro _
          refine ⟨0, by simp, ?_⟩
          unfold badNm
          simp only [List.getElem_cons_zero]
          omega
        · intro _
          refine ⟨0, by rw [hs]; simp, ?_⟩
          simp only [hs, List.getElem_cons_zero]
          unfold badSp
          omega
theorem scanL_isNone {α : Type} {l : List α} {P : Nat → α → Prop} [∀ i x, Decidable (P i x)] : (scanL l fun i x => if P i x then some () else none).isNone = decide (¬ ∃ i, ∃ hi : i < l.length, P i l[i]) := by
  cases h : scanL l fun i x => if P i x then some () else none with
  | some w =>
    obtain ⟨i, hi, hw⟩ := scanL_some h
    have hp : P i l[i] := by by_cases hp : P i l[i]; exact hp; rw [if_neg hp] at hw; cases hw
    symm
    exact decide_eq_false (fun q => q ⟨i, hi, hp⟩)
  | none =>
    symm
    refine decide_eq_true ?_
    rintro ⟨i, hi, hp⟩
    have := scanL_none h i hi
    rw [if_pos hp] at this
    cases this
theorem nameB_spots (l : Bytes) : nameB l = ((scanL (spots l) fun i x => if badSp i x then some () else none).isNone && decide (l ≠ [] ∧ l.length ≤ 32)) := by
  unfold nameB
  rw [scanL_isNone, scanL_isNone]
  have := name_spots _ l rfl 0
  simp only [Nat.zero_add] at this
  congr 1
  · exact decide_eq_decide.2 (not_congr this.symm)
  · exact decide_eq_decide.2 (by rw [← List.length_pos_iff]; omega)
theorem posn_pos {l : Bytes} {i : Nat} (hi : i ≤ (spots l).length) : posn l i = 0 ↔ i = 0 := by
  constructor
  · intro h
    cases i with
    | zero => rfl
    | succ i =>
      have hil : i < (spots l).length := hi
      have := posn_succ hil
      obtain ⟨p1, p2, p3⟩ := posn_lt hil
      have := dec_width p3
      rw [p2] at this
      omega
  · rintro rfl; exact posn_zero l
theorem name_eq (s : ByteArray) (h : AH) (hsz : s.size < 100000000) : callO PX 86 [.string s] h = some (.bool (nameB s.data.toList), h) := by
  apply WpC.eqn
  obtain ⟨l, hl⟩ : ∃ l, l = s.data.toList := ⟨_, rfl⟩
  have hll : l.length = s.size := by rw [hl]; rfl
  rw [← hl, nameB_spots]
  refine wpc_fn (px_ext rfl) (px_fn fn_tables_name) rfl ?_
  unfold LF_tables_name
  simp only [argFr]
  (refine W_x @ev_rngS ?_; (repeat' first | apply Cj.mk | exact Nl.nl) <;> intros)
  refine wp_spots none 12 s l (fun h' => h' = h) (fun i x => if badSp i x then some () else none) hl (fun _ => rfl) (by repeat' first | exact True.intro | refine And.intro rfl ?_) (fun _ => rfl) (by intro n; simp only [setL, push_cast, Nat.reduceEqDiff, ↓reduceIte, reduceCtorEq, Nat.reduceAdd, Nat.reduceMul, Nat.reduceLeDiff]; rfl) rfl rfl (fun i hi h1 hj hit => ?_) fun h1 hj fin => ?_
  · subst hj
    have pp := posn_pos (l := l) (i := i) (Nat.le_of_lt hi)
    (refine W_x trivial ?_; (repeat' first | apply Cj.mk | exact Nl.nl) <;> intros)
    refine wo_next hl rfl hi ?_
    generalize (spots l)[i] = x at hit
    generalize posn l i = q at pp
    (refine W_x trivial ?_; (repeat' first | apply Cj.mk | exact Nl.nl) <;> intros)
    all_goals first
      | exact ⟨if_neg (by unfold badSp; omega), (by repeat' first | exact True.intro | refine And.intro rfl ?_), rfl, rfl⟩
      | (rw [hit () (if_pos (by unfold badSp; omega))]; exact ⟨rfl, rfl⟩)
  · subst hj
    rw [fin]
    (refine W_x trivial ?_; (repeat' first | apply Cj.mk | exact Nl.nl) <;> intros)
    refine wo_nextE hl rfl ?_
    have hne : s = ⟨#[]⟩ ↔ l = [] := by
      rw [hl]
      obtain ⟨⟨d⟩⟩ := s
      simp
    (refine W_x trivial ?_; (repeat' first | apply Cj.mk | exact Nl.nl) <;> intros)
    all_goals (refine ⟨?_, rfl⟩; congr 1; symm; simp only [Option.isNone_none, Bool.true_and])
    · rename_i h1; exact decide_eq_false (fun q => q.1 (hne.1 h1))
    · rename_i h1 h2; exact decide_eq_true ⟨fun q => h1 (hne.2 q), by omega⟩
    · rename_i h1 h2; exact decide_eq_false (fun q => h2 (by omega))
end Go.Proofs.YtblmakgjdenpfaaDoor.AM
namespace Go.Proofs.YtblmakgjdenpfaaDoor.AM
open Go
def spanF (x : Span) : Option Int := if runeI x.1 = false ∨ runeI x.2 = false then some 12 else if x.2 < x.1 then some 11 else none
theorem setsWrong_eq (x : Span) (h : AH) : callO PX 124 [.agg (pairV x).toArray] h = some (.int .i64 ((spanF x).getD 0), h) := by
  have e1 := validRune_eq
  apply WpC.eqn
  refine wpc_fn (px_ext rfl) (px_fn fn_sets_wrong) rfl ?_
  unfold LF_sets_wrong
  simp only [argFr]
  unfold spanF pairV
  have e2 := e1 x.1
  have e3 := e1 x.2
  generalize runeI x.1 = b1 at e2
  generalize runeI x.2 = b2 at e3
  cases b1
  · (refine W_x e2 ?_; (repeat' first | apply Cj.mk | exact Nl.nl) <;> intros)
    rw [if_pos (.inl rfl)]
    exact ⟨rfl, rfl⟩
  cases b2
  · (refine W_x (Aj e2 e3) ?_; (repeat' first | apply Cj.mk | exact Nl.nl) <;> intros)
    rw [if_pos (.inr rfl)]
    exact ⟨rfl, rfl⟩
  · (refine W_x (Aj e2 e3) ?_; (repeat' first | apply Cj.mk | exact Nl.nl) <;> intros)
    · rw [if_neg (by simp), if_pos (by omega)]; exact ⟨rfl, rfl⟩
    · rw [if_neg (by simp), if_neg (by omega)]; exact ⟨rfl, rfl⟩
theorem spanE_F (l : List Span) (i : Nat) (x : Span) : spanE l i x = (spanF x).or (if 0 < i ∧ x.1 ≤ (l.getD (i - 1) (0, 0)).2 then some 13 else none) := by
  unfold spanE spanF
  repeat' split
  all_goals rfl
theorem spanF_pos {x : Span} {e : Int} (h : spanF x = some e) : e ≠ 0 := by
  unfold spanF at h
  repeat' split at h
  all_goals first | (injection h with h; omega) | cases h
theorem setsRight_eq {s : Sl} {l : List Span} {h : AH} (rd : Reads h 2 s (l.map pairV)) (hl : l.length < 100000000) :
    callO PX 87 [s.val 2] h = some (.tuple (List.toArray (match spansE l with | some (e, i) => [.int .i64 i, .int .i64 e] | none => [.int .i64 0, .int .i64 0])), h) := by
  have hs := rd.len
  have e1 := fun x h => setsWrong_eq x h
  apply WpC.eqn
  refine wpc_fn (px_ext rfl) (px_fn fn_sets_Right) rfl ?_
  unfold LF_sets_Right
  simp only [argFr]
  unfold spansE
  (refine W_x hs ?_; (repeat' first | apply Cj.mk | exact Nl.nl) <;> intros)
  refine wp_scanF 9 l (fun i x => (spanE l i x).map fun e => (e, i)) (by intro n; simp only [setF, push_cast, Nat.reduceEqDiff, ↓reduceIte, reduceCtorEq, Nat.reduceAdd, Nat.reduceMul, Nat.reduceLeDiff]; rfl) rfl (fun i hi hit => ?_) fun fin => ?_
  · have g0 := fun lc => rd_map (lc := lc) rd hi
    have gp : 0 < i → ∀ lc, Mem.rd ⟨lc, h⟩ (ptrOff (s.adr 2 (i - 1)) 1) 1 = some [.int .i32 (l.getD (i - 1) (0, 0)).2] := fun h0 lc => by
      have := rd_mapc (lc := lc) rd (i := i - 1) (by omega) (k := 1) (by decide)
      rw [this, List.getD_eq_getElem?_getD, List.getElem?_eq_getElem (by omega : i - 1 < l.length), Option.getD_some]
      rfl
    have t1 : ((i : Int) - 1).toNat = i - 1 := by omega
    generalize l[i] = x at g0 hit
    rw [spanE_F] at hit ⊢
    generalize l.getD (i - 1) (0, 0) = y at gp hit
    have e2 := e1 x
    have hp := fun e => spanF_pos (x := x) (e := e)
    unfold pairV at e2 g0
    generalize spanF x = o at e2 hit hp
    cases o with
    | some e =>
      have := hp e rfl
      simp only [Option.getD_some] at e2
      rw [hit (e, i) rfl]
      (refine W_x (Aj hs (Aj g0 e2)) ?_; (repeat' first | apply Cj.mk | exact Nl.nl) <;> intros)
      exact ⟨rfl, rfl⟩
    | none =>
      simp only [Option.getD_none, Option.none_or] at e2 hit ⊢
      by_cases h0 : 0 < i
      · have gp := gp h0
        (refine W_x (Aj hs (Aj g0 (Aj e2 (Aj gp t1)))) ?_; (repeat' first | apply Cj.mk | exact Nl.nl) <;> intros)
        · rw [hit (13, i) (by rw [if_pos (by omega)]; rfl)]
          exact ⟨rfl, rfl⟩
        · exact ⟨by rw [if_neg (by omega)]; rfl, rfl, rfl, rfl⟩
      · (refine W_x (Aj hs (Aj g0 e2)) ?_; (repeat' first | apply Cj.mk | exact Nl.nl) <;> intros)
        exact ⟨by rw [if_neg (by omega)]; rfl, rfl, rfl, rfl⟩
  · rw [fin]
    (refine W_x hs ?_; (repeat' first | apply Cj.mk | exact Nl.nl) <;> intros)
    exact ⟨rfl, rfl⟩
structure SpOk (l : List Span) : Prop where
  rune : ∀ x ∈ l, runeI x.1 = true ∧ runeI x.2 = true ∧ x.1 ≤ x.2
  ord : ∀ i j (hi : i < j) (hj : j < l.length), (l[i]'(by omega)).2 < (l[j]).1
theorem spOk_of {l : List Span} (h : spansE l = none) : SpOk l := by
  unfold spansE at h
  have hx : ∀ i (hi : i < l.length), spanE l i l[i] = none := fun i hi => by
    have := scanL_none h i hi
    rwa [Option.map_eq_none_iff] at this
  have h1 : ∀ i (hi : i < l.length), runeI (l[i]).1 = true ∧ runeI (l[i]).2 = true ∧ (l[i]).1 ≤ (l[i]).2 := fun i hi => by
    have := hx i hi
    unfold spanE at this
    split at this
    · cases this
    · rename_i hr
      split at this
      · cases this
      · rename_i h2
        exact ⟨by cases hb : runeI (l[i]).1; exact absurd (.inl hb) hr; rfl, by cases hb : runeI (l[i]).2; exact absurd (.inr hb) hr; rfl, by omega⟩
  have h2 : ∀ i (hi : i + 1 < l.length), (l[i]'(by omega)).2 < (l[i + 1]).1 := fun i hi => by
    have := hx (i + 1) hi
    unfold spanE at this
    split at this
    · cases this
    · split at this
      · cases this
      · split at this
        · cases this
        · rename_i h3
          rw [Nat.add_sub_cancel, List.getD_eq_getElem?_getD, List.getElem?_eq_getElem (by omega : i < l.length), Option.getD_some] at h3
          omega
  refine ⟨fun x hx => ?_, fun i j hi hj => ?_⟩
  · obtain ⟨i, hi, rfl⟩ := List.mem_iff_getElem.1 hx
    exact h1 i hi
  · induction j with
    | zero => omega
    | succ j ih =>
      rcases Nat.lt_or_ge i j with h3 | h3
      · have h4 := ih h3 (by omega)
        have h5 := (h1 j (by omega)).2.2
        have h6 := h2 j hj
        omega
      · have : i = j := by omega
        subst this
        exact h2 i hj
theorem of1_eq (x : Span) (r : Int) (h : AH) (h1 : runeI x.1 = true) (h2 : runeI r = true) : callO PX 127 [.agg (pairV x).toArray, .int .i32 r] h = some (.int .i64 (x.1 - r), h) := by
  have a1 := of_decide_eq_true h1
  have a2 := of_decide_eq_true h2
  apply WpC.eqn
  refine wpc_fn (px_ext rfl) (px_fn fn_tables_of_1) rfl ?_
  unfold LF_tables_of_1
  simp only [argFr]
  unfold pairV
  (refine W_x trivial ?_; (repeat' first | apply Cj.mk | exact Nl.nl) <;> intros)
  exact ⟨rfl, rfl⟩
set_option maxHeartbeats 1000000 in
theorem bsf_eq {s : Sl} {l : List Span} {h : AH} (rd : Reads h 2 s (l.map pairV)) (hl : l.length < 100000000) (ok : SpOk l) (r : Int) (hr : runeI r = true) :
    ∃ k : Nat, k ≤ l.length ∧ (∀ j (hj : j < k) (hjl : j < l.length), (l[j]).1 < r) ∧ (∀ j (hj : j < l.length), k ≤ j → r ≤ (l[j]).1) ∧
      callO PX 126 [s.val 2, .int .i32 r, .func (.func 127) #[] #[]] h = some (.tuple (List.toArray [.int .i64 k, .bool (decide (k < l.length ∧ (l.getD k (0, 0)).1 = r))]), h) := by
  have hs := rd.len
  have ho := ok.ord
  have hm : ∀ i j (hi : i ≤ j) (hj : j < l.length), (l[i]'(by omega)).1 ≤ (l[j]).1 := fun i j hi hj => by
    rcases Nat.eq_or_lt_of_le hi with h1 | h1
    · subst h1; exact Int.le_refl _
    · have := ho i j h1 hj
      have := (ok.rune _ (List.getElem_mem (show i < l.length by omega))).2.2
      omega
  have main : WpC PX 126 [s.val 2, .int .i32 r, .func (.func 127) #[] #[]] h fun v h' => ∃ k : Nat, k ≤ l.length ∧ (∀ j (hj : j < k) (hjl : j < l.length), (l[j]).1 < r) ∧ (∀ j (hj : j < l.length), k ≤ j → r ≤ (l[j]).1) ∧
      v = .tuple (List.toArray [.int .i64 k, .bool (decide (k < l.length ∧ (l.getD k (0, 0)).1 = r))]) ∧ h' = h := by
    refine wpc_fn (px_ext rfl) (px_fn fn_slices_BinarySearchFunc_api_Span_api_Span_rune) rfl ?_
    unfold LF_slices_BinarySearchFunc_api_Span_api_Span_rune
    simp only [argFr]
    (refine W_x hs ?_; (repeat' first | apply Cj.mk | exact Nl.nl) <;> intros)
    refine wp_loop (fun w fr lc h1 => ∃ i j : Nat, w = j - i ∧ i ≤ j ∧ j ≤ l.length ∧ (∀ m (hm : m < i) (hml : m < l.length), (l[m]).1 < r) ∧ (∀ m (hm : m < l.length), j ≤ m → r ≤ (l[m]).1) ∧ h1 = h ∧ lc = [] ∧
      fr = [(0, s.val 2), (1, .int .i32 r), (2, .func (.func 127) #[] #[]), (8, .int .i64 l.length), (9, .int .i64 i), (10, .int .i64 j)]) l.length
      ⟨0, l.length, rfl, Nat.zero_le _, Nat.le_refl _, fun m h => absurd h (Nat.not_lt_zero _), fun m h1 h2 => by omega, rfl, rfl, rfl⟩ ?_
    rintro w fr lc h1 ⟨i, j, rfl, hij, hjl, hlo, hhi, rfl, rfl, rfl⟩
    rcases Nat.lt_or_ge i j with hlt | hge
    · obtain ⟨m, hm2⟩ : ∃ m : Nat, ((i : Int) + j) / 2 = m := ⟨(i + j) / 2, by omega⟩
      have hml : m < l.length := by omega
      have g0 := fun lc => rd_map (lc := lc) rd hml
      have hx := ok.rune _ (List.getElem_mem hml)
      have e1 := fun h => of1_eq l[m] r h hx.1 hr
      have ha : ∀ q (hq : q ≤ m), (l[q]'(by omega)).1 ≤ (l[m]).1 := fun q hq => hm q m hq hml
      have hb : ∀ q (hq : m ≤ q) (hql : q < l.length), (l[m]).1 ≤ (l[q]).1 := fun q hq hql => hm m q hq hql
      have r1 := of_decide_eq_true hx.1
      have r2 := of_decide_eq_true hr
      generalize l[m] = x at g0 e1 ha hb r1
      unfold pairV at g0 e1
      (refine W_x (Aj hs (Aj hm2 (Aj g0 e1))) ?_; (repeat' first | apply Cj.mk | exact Nl.nl) <;> intros)
      · exact ⟨_, by omega, m + 1, j, rfl, by omega, hjl, fun q hq hql => by have := ha q (by omega); omega, hhi, rfl, rfl, by simp only [Int.natCast_add]; rfl⟩
      · exact ⟨_, by omega, i, m, rfl, by omega, by omega, hlo, fun q hq hmq => by have := hb q hmq hq; omega, rfl, rfl, rfl⟩
    · have hie : i = j := by omega
      subst hie
      rcases Nat.lt_or_ge i l.length with hil | hil
      · have g0 := fun lc => rd_map (lc := lc) rd hil
        have hx := ok.rune _ (List.getElem_mem hil)
        have e1 := fun h => of1_eq l[i] r h hx.1 hr
        have hgd : l.getD i (0, 0) = l[i] := by rw [List.getD_eq_getElem?_getD, List.getElem?_eq_getElem hil, Option.getD_some]
        have fact : ∀ b, decide (i < l.length ∧ (l.getD i (0, 0)).1 = r) = b → ∃ k : Nat, k ≤ l.length ∧ (∀ j (hj : j < k) (hjl : j < l.length), (l[j]).1 < r) ∧ (∀ j (hj : j < l.length), k ≤ j → r ≤ (l[j]).1) ∧
            Value.tuple (List.toArray [.int .i64 i, .bool b]) = .tuple (List.toArray [.int .i64 k, .bool (decide (k < l.length ∧ (l.getD k (0, 0)).1 = r))]) ∧ h1 = h1 := fun b hb => ⟨i, hjl, hlo, hhi, by rw [hb], rfl⟩
        rw [hgd] at fact
        generalize l[i] = x at g0 e1 fact
        unfold pairV at g0 e1
        (refine W_x (Aj hs (Aj g0 e1)) ?_; (repeat' first | apply Cj.mk | exact Nl.nl) <;> intros)
        · exact fact true (decide_eq_true ⟨hil, by omega⟩)
        · exact fact false (decide_eq_false (by omega))
      · (refine W_x hs ?_; (repeat' first | apply Cj.mk | exact Nl.nl) <;> intros)
        exact ⟨i, hjl, hlo, hhi, by rw [decide_eq_false (by omega)], rfl⟩
  obtain ⟨v, h', e, k, h1, h2, h3, rfl, rfl⟩ := main
  exact ⟨k, h1, h2, h3, e⟩
theorem of_eq {s : Sl} {l : List Span} {h : AH} (rd : Reads h 2 s (l.map pairV)) (hl : l.length < 100000000) (ok : SpOk l) (r : Int) : callO PX 92 [.int .i32 r, s.val 2] h = some (.bool (ofI r l), h) := by
  have hs := rd.len
  have e1 := validRune_eq r
  unfold ofI
  apply WpC.eqn
  refine wpc_fn (px_ext rfl) (px_fn fn_tables_of) rfl ?_
  unfold LF_tables_of
  simp only [argFr]
  cases hr : runeI r with
  | false =>
    rw [hr] at e1
    (refine W_x e1 ?_; (repeat' first | apply Cj.mk | exact Nl.nl) <;> intros)
    exact ⟨rfl, rfl⟩
  | true =>
    rw [hr] at e1
    obtain ⟨k, h1, h2, h3, e2⟩ := bsf_eq rd hl ok r hr
    have hany : ∀ b, (b = true ↔ ∃ x ∈ l, x.1 ≤ r ∧ r ≤ x.2) → (l.any fun s => decide (s.1 ≤ r ∧ r ≤ s.2)) = b := fun b hb => by
      rw [Bool.eq_iff_iff, hb, List.any_eq_true]
      simp only [decide_eq_true_eq]
    have hk : (∃ x ∈ l, x.1 ≤ r ∧ r ≤ x.2) ↔ (k < l.length ∧ (l.getD k (0, 0)).1 = r) ∨ (0 < k ∧ r ≤ (l.getD (k - 1) (0, 0)).2) := by
      constructor
      · rintro ⟨x, hx, hx1, hx2⟩
        obtain ⟨i, hi, rfl⟩ := List.mem_iff_getElem.1 hx
        rcases Nat.lt_or_ge i k with hik | hik
        · right
          refine ⟨by omega, ?_⟩
          rw [List.getD_eq_getElem?_getD, List.getElem?_eq_getElem (by omega : k - 1 < l.length), Option.getD_some]
          rcases Nat.eq_or_lt_of_le (show i ≤ k - 1 by omega) with h | h
          · subst h; exact hx2
          · have := ok.ord i (k - 1) h (by omega)
            have := h2 (k - 1) (by omega) (by omega)
            omega
        · left
          have a1 := h3 i hi hik
          have hkl : k < l.length := by omega
          refine ⟨hkl, ?_⟩
          rw [List.getD_eq_getElem?_getD, List.getElem?_eq_getElem hkl, Option.getD_some]
          have a2 := h3 k hkl (Nat.le_refl _)
          rcases Nat.eq_or_lt_of_le hik with h | h
          · subst h; omega
          · have := ok.ord k i h hi
            have := (ok.rune _ (List.getElem_mem hkl)).2.2
            omega
      · rintro (⟨hkl, he⟩ | ⟨h0, he⟩)
        · rw [List.getD_eq_getElem?_getD, List.getElem?_eq_getElem hkl, Option.getD_some] at he
          have := (ok.rune _ (List.getElem_mem hkl)).2.2
          exact ⟨_, List.getElem_mem hkl, by omega, by omega⟩
        · rw [List.getD_eq_getElem?_getD, List.getElem?_eq_getElem (by omega : k - 1 < l.length), Option.getD_some] at he
          have := h2 (k - 1) (by omega) (by omega)
          exact ⟨_, List.getElem_mem (by omega : k - 1 < l.length), by omega, he⟩
    have gp : 0 < k → ∀ lc, Mem.rd ⟨lc, h⟩ (ptrOff (s.adr 2 (k - 1)) 1) 1 = some [.int .i32 (l.getD (k - 1) (0, 0)).2] := fun h0 lc => by
      have := rd_mapc (lc := lc) rd (i := k - 1) (by omega) (k := 1) (by decide)
      rw [this, List.getD_eq_getElem?_getD, List.getElem?_eq_getElem (by omega : k - 1 < l.length), Option.getD_some]
      rfl
    have t1 : ((k : Int) - 1).toNat = k - 1 := by omega
    rw [Bool.true_and]
    by_cases hd : k < l.length ∧ (l.getD k (0, 0)).1 = r
    · rw [decide_eq_true hd] at e2
      rw [hany true (by rw [hk]; exact iff_of_true rfl (.inl hd))]
      (refine W_x (Aj e1 e2) ?_; (repeat' first | apply Cj.mk | exact Nl.nl) <;> intros)
      exact ⟨rfl, rfl⟩
    · rw [decide_eq_false hd] at e2
      by_cases h0 : 0 < k
      · have gp := gp h0
        (refine W_x (Aj hs (Aj e1 (Aj e2 (Aj gp t1)))) ?_; (repeat' first | apply Cj.mk | exact Nl.nl) <;> intros)
        · rw [hany true (by rw [hk]; exact iff_of_true rfl (.inr ⟨h0, by omega⟩))]
          exact ⟨rfl, rfl⟩
        · rw [hany false (by rw [hk]; exact iff_of_false (by decide) (fun q => q.elim hd (fun q => by omega)))]
          exact ⟨rfl, rfl⟩
      · (refine W_x (Aj hs (Aj e1 e2)) ?_; (repeat' first | apply Cj.mk | exact Nl.nl) <;> intros)
        rw [hany false (by rw [hk]; exact iff_of_false (by decide) (fun q => q.elim hd (fun q => h0 q.1)))]
        exact ⟨rfl, rfl⟩
end Go.Proofs.YtblmakgjdenpfaaDoor.AM
namespace Go.Proofs.YtblmakgjdenpfaaDoor.AM
open Go
theorem runeCount_eq (s : ByteArray) (h : AH) (hsz : s.size < 100000000) : callO PX 89 [.string s] h = some (.int .i64 (spots s.data.toList).length, h) := by
  apply WpC.eqn
  obtain ⟨l, hl⟩ : ∃ l, l = s.data.toList := ⟨_, rfl⟩
  have hll : l.length = s.size := by rw [hl]; rfl
  have hsp := spots_len l
  rw [← hl]
  refine wpc_fn (px_ext rfl) (px_fn fn_utf8_RuneCountInString) rfl ?_
  unfold LF_utf8_RuneCountInString
  simp only [argFr]
  (refine W_x @ev_rngS ?_; (repeat' first | apply Cj.mk | exact Nl.nl) <;> intros)
  refine wp_spots (some 2) 8 s l (fun h' => h' = h) (fun i x => (none : Option Unit)) hl (by intro n; simp only [setF, push_cast, Nat.reduceEqDiff, ↓reduceIte, reduceCtorEq, Nat.reduceAdd, Nat.reduceMul, Nat.reduceLeDiff]; rfl) (by repeat' first | exact True.intro | refine And.intro rfl ?_) (fun _ => rfl) (by intro n; simp only [setL, push_cast, Nat.reduceEqDiff, ↓reduceIte, reduceCtorEq, Nat.reduceAdd, Nat.reduceMul, Nat.reduceLeDiff]; rfl) rfl rfl (fun i hi h1 hj hit => ?_) fun h1 hj fin => ?_
  · subst hj
    (refine W_x trivial ?_; (repeat' first | apply Cj.mk | exact Nl.nl) <;> intros)
    refine wo_next hl rfl hi ?_
    (refine W_x trivial ?_; (repeat' first | apply Cj.mk | exact Nl.nl) <;> intros)
    exact ⟨rfl, (by repeat' first | exact True.intro | refine And.intro rfl ?_), rfl, rfl⟩
  · subst hj
    (refine W_x trivial ?_; (repeat' first | apply Cj.mk | exact Nl.nl) <;> intros)
    refine wo_nextE hl rfl ?_
    (refine W_x trivial ?_; (repeat' first | apply Cj.mk | exact Nl.nl) <;> intros)
    exact ⟨rfl, rfl⟩
def fixB (s : ByteArray) : Bool := (runesB s.data.toList).any fun c => setI (c : Nat)
theorem any_runes {l : Bytes} {P : Nat → Bool} : (runesB l).any P = (scanL (spots l) fun i x => if P x.1 = true then some i else none).isSome := by
  unfold runesB
  rw [List.any_map]
  cases h : scanL (spots l) fun i x => if P x.1 = true then some i else none with
  | some w =>
    obtain ⟨i, hi, hw⟩ := scanL_some h
    rw [List.any_eq_true.2 ⟨_, List.getElem_mem hi, by by_cases hp : P (spots l)[i].1 = true; exact hp; rw [if_neg hp] at hw; cases hw⟩]; rfl
  | none =>
    rw [List.any_eq_false.2 fun x hx hp => ?_]; rfl
    obtain ⟨i, hi, rfl⟩ := List.mem_iff_getElem.1 hx
    have := scanL_none h i hi
    rw [if_pos (show P (spots l)[i].1 = true from hp)] at this
    cases this
theorem containsFixed_eq (s : ByteArray) (h : AH) (hsz : s.size < 100000000) : callO PX 95 [.string s, .func (.func 96) #[] #[]] h = some (.bool (fixB s), h) := by
  obtain ⟨l, hl⟩ : ∃ l, l = s.data.toList := ⟨_, rfl⟩
  have hll : l.length = s.size := by rw [hl]; rfl
  have e0 := fixed_eq
  have e1 : callO PX 136 [.string s, .func (.func 96) #[] #[], .bool true] h = some (.int .i64 (match scanL (spots l) fun i x => if setI (x.1 : Nat) = true then some i else none with | some i => (posn l i : Nat) | none => -1), h) := by
    apply WpC.eqn
    refine wpc_fn (px_ext rfl) (px_fn fn_strings_indexFunc) rfl ?_
    unfold LF_strings_indexFunc
    simp only [argFr]
    (refine W_x @ev_rngS ?_; (repeat' first | apply Cj.mk | exact Nl.nl) <;> intros)
    refine wp_spots none 20 s l (fun h' => h' = h) (fun i x => if setI (x.1 : Nat) = true then some i else none) hl (fun _ => rfl) (by repeat' first | exact True.intro | refine And.intro rfl ?_) (fun _ => rfl) (by intro n; simp only [setL, push_cast, Nat.reduceEqDiff, ↓reduceIte, reduceCtorEq, Nat.reduceAdd, Nat.reduceMul, Nat.reduceLeDiff]; rfl) rfl rfl (fun i hi h1 hj hit => ?_) fun h1 hj fin => ?_
    · subst hj
      (refine W_x trivial ?_; (repeat' first | apply Cj.mk | exact Nl.nl) <;> intros)
      refine wo_next hl rfl hi ?_
      generalize (spots l)[i] = x at hit
      have e2 := e0 (x.1 : Nat)
      generalize setI (x.1 : Nat) = b at e2 hit
      cases b
      · (refine W_x e2 ?_; (repeat' first | apply Cj.mk | exact Nl.nl) <;> intros)
        exact ⟨rfl, (by repeat' first | exact True.intro | refine And.intro rfl ?_), rfl, rfl⟩
      · rw [hit i rfl]
        (refine W_x e2 ?_; (repeat' first | apply Cj.mk | exact Nl.nl) <;> intros)
        exact ⟨rfl, rfl⟩
    · subst hj
      rw [fin]
      (refine W_x trivial ?_; (repeat' first | apply Cj.mk | exact Nl.nl) <;> intros)
      refine wo_nextE hl rfl ?_
      (refine W_x trivial ?_; (repeat' first | apply Cj.mk | exact Nl.nl) <;> intros)
      exact ⟨rfl, rfl⟩
  have e2 : callO PX 128 [.string s, .func (.func 96) #[] #[]] h = some (.int .i64 (match scanL (spots l) fun i x => if setI (x.1 : Nat) = true then some i else none with | some i => (posn l i : Nat) | none => -1), h) := by
    apply WpC.eqn
    refine wpc_fn (px_ext rfl) (px_fn fn_strings_IndexFunc) rfl ?_
    unfold LF_strings_IndexFunc
    simp only [argFr]
    (refine W_x e1 ?_; (repeat' first | apply Cj.mk | exact Nl.nl) <;> intros)
    exact ⟨rfl, rfl⟩
  apply WpC.eqn
  refine wpc_fn (px_ext rfl) (px_fn fn_strings_ContainsFunc) rfl ?_
  unfold LF_strings_ContainsFunc
  simp only [argFr]
  unfold fixB
  rw [← hl, any_runes]
  cases hc : scanL (spots l) fun i x => if setI (x.1 : Nat) = true then some i else none with
  | none =>
    rw [hc] at e2
    simp only at e2
    (refine W_x e2 ?_; (repeat' first | apply Cj.mk | exact Nl.nl) <;> intros)
    exact ⟨rfl, rfl⟩
  | some i =>
    rw [hc] at e2
    simp only at e2
    (refine W_x e2 ?_; (repeat' first | apply Cj.mk | exact Nl.nl) <;> intros)
    exact ⟨rfl, rfl⟩
def lettS : ByteArray := ⟨#[45, 48, 49, 50, 51, 52, 53, 54, 55, 56, 57, 97, 98, 99, 100, 101, 102, 103, 104, 105, 106, 107, 108, 109, 110, 111, 112, 113, 114, 115, 116, 117, 118, 119, 120, 121, 122]⟩
def idxBI (s : ByteArray) (n : Nat) : Int := match (List.range s.size).find? fun i => s[i]! == UInt8.ofNat n with
  | some i => (i : Int)
  | none => -1
set_option maxRecDepth 100000 in
theorem lett_idx : ∀ n : Fin 128, decide (0 ≤ idxBI lettS n.val) = lettI ((n.val : Nat) : Int) := by decide
def idxBP (v w : Value) : Option Value := (POp.idxB (.c v) (.c w)).ev []
theorem ev_idxBP {fr : Fr} {x c : Opd} : (POp.idxB x c).ev fr = idxBP (opd fr x) (opd fr c) := rfl
theorem idxBP_mk {s : ByteArray} {n : Int} : idxBP (.string s) (.int .u8 n) = some (.int .i64 (idxBI s n.toNat)) := rfl
theorem containsLett_eq (r : Int) (h : AH) (h0 : 0 ≤ r) (h1 : r < 128) : callO PX 97 [.string lettS, .int .i32 r] h = some (.bool (lettI r), h) := by
  obtain ⟨n, rfl⟩ : ∃ n : Nat, r = n := ⟨r.toNat, by omega⟩
  have e0 : callO PX 141 [.string lettS, .int .u8 n] h = some (.int .i64 (idxBI lettS n), h) := by
    apply WpC.eqn
    refine wpc_fn (px_ext rfl) (px_fn fn_internal_stringslite_IndexByte) rfl ?_
    unfold LF_internal_stringslite_IndexByte
    simp only [argFr]
    (refine W_x (Aj @ev_idxBP @idxBP_mk) ?_; (repeat' first | apply Cj.mk | exact Nl.nl) <;> intros)
    exact ⟨rfl, rfl⟩
  have e1 : callO PX 137 [.string lettS, .int .u8 n] h = some (.int .i64 (idxBI lettS n), h) := by
    apply WpC.eqn
    refine wpc_fn (px_ext rfl) (px_fn fn_strings_IndexByte) rfl ?_
    unfold LF_strings_IndexByte
    simp only [argFr]
    (refine W_x e0 ?_; (repeat' first | apply Cj.mk | exact Nl.nl) <;> intros)
    exact ⟨rfl, rfl⟩
  have e2 : callO PX 129 [.string lettS, .int .i32 n] h = some (.int .i64 (idxBI lettS n), h) := by
    apply WpC.eqn
    refine wpc_fn (px_ext rfl) (px_fn fn_strings_IndexRune) rfl ?_
    unfold LF_strings_IndexRune
    simp only [argFr]
    (refine W_x e1 ?_; (repeat' first | apply Cj.mk | exact Nl.nl) <;> intros)
    exact ⟨rfl, rfl⟩
  apply WpC.eqn
  refine wpc_fn (px_ext rfl) (px_fn fn_strings_ContainsRune) rfl ?_
  unfold LF_strings_ContainsRune
  simp only [argFr]
  rw [← lett_idx ⟨n, by omega⟩]
  generalize idxBI lettS n = z at e2
  (refine W_x e2 ?_; (repeat' first | apply Cj.mk | exact Nl.nl) <;> intros)
  all_goals (refine ⟨?_, rfl⟩; congr 1; symm; first | (exact decide_eq_true (by assumption)) | (exact decide_eq_false (by assumption)))
end Go.Proofs.YtblmakgjdenpfaaDoor.AM
namespace Go.Proofs.YtblmakgjdenpfaaDoor.AM
open Go
theorem or64 {a b : Nat} (ha : a < 18446744073709551616) (hb : b < 18446744073709551616) : binA .or (.int .u64 a) (.int .u64 b) = some (.int .u64 ((a ||| b : Nat) : Int)) ∧ (a ||| b) < 18446744073709551616 := by
  have hl : (a ||| b) < 2 ^ 64 := Nat.or_lt_two_pow ha hb
  refine ⟨?_, hl⟩
  show some (Value.int .u64 (IntKind.u64.wrap (BitVec.ofInt 64 (a : Int) ||| BitVec.ofInt 64 (b : Int)).toNat)) = _
  have e : (BitVec.ofInt 64 (a : Int) ||| BitVec.ofInt 64 (b : Int)).toNat = a ||| b := by
    rw [BitVec.toNat_or, show BitVec.ofInt 64 (a : Int) = BitVec.ofNat 64 a from BitVec.ofInt_natCast .., show BitVec.ofInt 64 (b : Int) = BitVec.ofNat 64 b from BitVec.ofInt_natCast .., BitVec.toNat_ofNat, BitVec.toNat_ofNat, Nat.mod_eq_of_lt ha, Nat.mod_eq_of_lt hb]
  rw [e, wrap_u64 (by omega) (by omega)]
theorem and64 {a b : Nat} (ha : a < 18446744073709551616) (hb : b < 18446744073709551616) : binA .and (.int .u64 a) (.int .u64 b) = some (.int .u64 ((a &&& b : Nat) : Int)) := by
  have hl : (a &&& b) < 2 ^ 64 := Nat.and_lt_two_pow a hb
  show some (Value.int .u64 (IntKind.u64.wrap (BitVec.ofInt 64 (a : Int) &&& BitVec.ofInt 64 (b : Int)).toNat)) = _
  have e : (BitVec.ofInt 64 (a : Int) &&& BitVec.ofInt 64 (b : Int)).toNat = a &&& b := by
    rw [BitVec.toNat_and, show BitVec.ofInt 64 (a : Int) = BitVec.ofNat 64 a from BitVec.ofInt_natCast .., show BitVec.ofInt 64 (b : Int) = BitVec.ofNat 64 b from BitVec.ofInt_natCast .., BitVec.toNat_ofNat, BitVec.toNat_ofNat, Nat.mod_eq_of_lt ha, Nat.mod_eq_of_lt hb]
  rw [e, wrap_u64 (by omega) (by omega)]
theorem shl64 {b : Nat} (hb : b < 256) (k : Nat) (hk : k ≤ 56) : ∃ m : Nat, binA .shl (.int .u64 b) (.int .u64 k) = some (.int .u64 m) ∧ m = b <<< k ∧ m < 18446744073709551616 := by
  have hp : 2 ^ k ≤ 2 ^ 56 := Nat.pow_le_pow_right (by decide) hk
  have hm : b * 2 ^ k < 18446744073709551616 := by
    have : b * 2 ^ k ≤ 255 * 2 ^ 56 := Nat.mul_le_mul (by omega) hp
    omega
  refine ⟨b <<< k, ?_, rfl, by rw [Nat.shiftLeft_eq]; exact hm⟩
  have e0 : binA .shl (.int .u64 b) (.int .u64 k) = if (k : Int) < 0 then none else some (Value.int .u64 (IntKind.u64.wrap ((b : Int) * 2 ^ (min (k : Int).toNat 64)))) := rfl
  rw [e0, if_neg (by omega), Nat.shiftLeft_eq]
  have e : min ((k : Int).toNat) 64 = k := by omega
  have e2 : ((b * 2 ^ k : Nat) : Int) = (b : Int) * 2 ^ k := by rw [Int.natCast_mul, Int.natCast_pow]; rfl
  rw [e, ← e2]
  generalize b * 2 ^ k = z at hm
  rw [wrap_u64 (by omega) (by omega)]
def wordN (l : Bytes) : Nat := ((((((bat l 0 ||| bat l 1 <<< 8) ||| bat l 2 <<< 16) ||| bat l 3 <<< 24) ||| bat l 4 <<< 32) ||| bat l 5 <<< 40) ||| bat l 6 <<< 48) ||| bat l 7 <<< 56
def hiC : Nat := 9259542123273814144
set_option maxRecDepth 10000 in
theorem byte_low {b : Nat} (hb : b < 256) (h : b.testBit 7 = false) : b < 128 := by
  have : ∀ x : Fin 256, x.val.testBit 7 = false → x.val < 128 := by decide
  exact this ⟨b, hb⟩ h
theorem word_low {l : Bytes} (h : wordN l &&& hiC = 0) : ∀ k, k < 8 → bat l k < 128 := by
  have hb := fun k => bat_lt l k
  have ht : ∀ i, (wordN l).testBit i = true → hiC.testBit i = true → False := fun i h1 h2 => by
    have := congrArg (fun n => Nat.testBit n i) h
    simp only [Nat.testBit_and, h1, h2, Nat.zero_testBit, Bool.and_self] at this
    cases this
  have hw : ∀ k, k < 8 → (bat l k).testBit 7 = true → (wordN l).testBit (8 * k + 7) = true := fun k hk h7 => by
    unfold wordN
    simp only [Nat.testBit_or, Nat.testBit_shiftLeft]
    rcases (show k = 0 ∨ k = 1 ∨ k = 2 ∨ k = 3 ∨ k = 4 ∨ k = 5 ∨ k = 6 ∨ k = 7 by omega) with rfl | rfl | rfl | rfl | rfl | rfl | rfl | rfl <;> simp [h7]
  have hc : ∀ k, k < 8 → hiC.testBit (8 * k + 7) = true := by decide
  intro k hk
  refine byte_low (hb k) ?_
  cases h7 : (bat l k).testBit 7 with
  | false => rfl
  | true => exact (ht _ (hw k hk h7) (hc k hk)).elim
theorem or_zero {a b : Nat} (h : (a ||| b) &&& hiC = 0) : a &&& hiC = 0 ∧ b &&& hiC = 0 := by
  rw [Nat.and_or_distrib_right] at h
  exact Nat.or_eq_zero_iff.1 h
theorem word_eq (s : ByteArray) (h : AH) (hs : 8 ≤ s.size) : callO PX 125 [.string s] h = some (.int .u64 (wordN s.data.toList), h) ∧ wordN s.data.toList < 18446744073709551616 := by
  obtain ⟨l, hl⟩ : ∃ l, l = s.data.toList := ⟨_, rfl⟩
  rw [← hl]
  have hb := fun k => bat_lt l k
  unfold wordN
  obtain ⟨b0, q0⟩ : ∃ x, bat l 0 = x := ⟨_, rfl⟩
  obtain ⟨b1, q1⟩ : ∃ x, bat l 1 = x := ⟨_, rfl⟩
  obtain ⟨b2, q2⟩ : ∃ x, bat l 2 = x := ⟨_, rfl⟩
  obtain ⟨b3, q3⟩ : ∃ x, bat l 3 = x := ⟨_, rfl⟩
  obtain ⟨b4, q4⟩ : ∃ x, bat l 4 = x := ⟨_, rfl⟩
  obtain ⟨b5, q5⟩ : ∃ x, bat l 5 = x := ⟨_, rfl⟩
  obtain ⟨b6, q6⟩ : ∃ x, bat l 6 = x := ⟨_, rfl⟩
  obtain ⟨b7, q7⟩ : ∃ x, bat l 7 = x := ⟨_, rfl⟩
  have c0 := hb 0; have c1 := hb 1; have c2 := hb 2; have c3 := hb 3; have c4 := hb 4; have c5 := hb 5; have c6 := hb 6; have c7 := hb 7
  rw [q0] at c0; rw [q1] at c1; rw [q2] at c2; rw [q3] at c3; rw [q4] at c4; rw [q5] at c5; rw [q6] at c6; rw [q7] at c7
  rw [q0, q1, q2, q3, q4, q5, q6, q7]
  obtain ⟨m1, s1, r1, d1⟩ := shl64 c1 8 (by decide)
  obtain ⟨m2, s2, r2, d2⟩ := shl64 c2 16 (by decide)
  obtain ⟨m3, s3, r3, d3⟩ := shl64 c3 24 (by decide)
  obtain ⟨m4, s4, r4, d4⟩ := shl64 c4 32 (by decide)
  obtain ⟨m5, s5, r5, d5⟩ := shl64 c5 40 (by decide)
  obtain ⟨m6, s6, r6, d6⟩ := shl64 c6 48 (by decide)
  obtain ⟨m7, s7, r7, d7⟩ := shl64 c7 56 (by decide)
  rw [← r1, ← r2, ← r3, ← r4, ← r5, ← r6, ← r7]
  obtain ⟨o1, p1⟩ := or64 (show b0 < 18446744073709551616 by omega) d1
  generalize b0 ||| m1 = n1 at o1 p1
  obtain ⟨o2, p2⟩ := or64 p1 d2
  generalize n1 ||| m2 = n2 at o2 p2
  obtain ⟨o3, p3⟩ := or64 p2 d3
  generalize n2 ||| m3 = n3 at o3 p3
  obtain ⟨o4, p4⟩ := or64 p3 d4
  generalize n3 ||| m4 = n4 at o4 p4
  obtain ⟨o5, p5⟩ := or64 p4 d5
  generalize n4 ||| m5 = n5 at o5 p5
  obtain ⟨o6, p6⟩ := or64 p5 d6
  generalize n5 ||| m6 = n6 at o6 p6
  obtain ⟨o7, p7⟩ := or64 p6 d7
  generalize n6 ||| m7 = n7 at o7 p7
  refine ⟨?_, p7⟩
  clear r1 r2 r3 r4 r5 r6 r7
  push_cast at s1 s2 s3 s4 s5 s6 s7
  apply WpC.eqn
  refine wpc_fn (px_ext rfl) (px_fn fn_utf8_word_string) rfl ?_
  unfold LF_utf8_word_string
  simp only [argFr]
  (refine W_x (Aj hl.symm (Aj q0 (Aj q1 (Aj q2 (Aj q3 (Aj q4 (Aj q5 (Aj q6 (Aj q7 (Aj s1 (Aj s2 (Aj s3 (Aj s4 (Aj s5 (Aj s6 (Aj s7 (Aj o1 (Aj o2 (Aj o3 (Aj o4 (Aj o5 (Aj o6 o7)))))))))))))))))))))) ?_; (repeat' first | apply Cj.mk | exact Nl.nl) <;> intros)
  exact ⟨rfl, rfl⟩
end Go.Proofs.YtblmakgjdenpfaaDoor.AM
