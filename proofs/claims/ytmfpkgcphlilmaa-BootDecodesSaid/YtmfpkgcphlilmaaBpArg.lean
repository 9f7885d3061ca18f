/- Parameters handed in. -/
import Derived.Test.YtmfpkgcphlilmaaBootJ
import Derived.ChangeArms
import Derived.ProofKit
set_option linter.unusedVariables false
namespace Go.Proofs.Ytmfpkgcphlilmaa.AM
open Go Go.ChangeShapes Go.WideShapes Go.ChangeAt Go.RowKit

theorem has_i64 {n : Int} (h : (Lit.int .i64 n).wf = true) : -9223372036854775808 ≤ n ∧ n < 9223372036854775808 := by
  simp only [Lit.wf, IntKind.has, IntKind.min, IntKind.max, IntKind.signed, IntKind.bits, Bool.and_eq_true, decide_eq_true_eq, if_true] at h
  omega

theorem field_int {H : Type} {enc : TypeId × Value → H} {P : Program} {W : World} {base : Nat} {sp : Nat → Bool} {held : Bool} {fs : Array Field} {n : Nat} {cs : List Value} {xs : List (DataW H × List MemPlace)} (hall : ∀ (i : Nat) (f : Field), fs[i]? = some f → DataW.trod enc P W base sp held n f.type ((cs.drop f.offset).take (P.cellsOf f.type)) = xs[i]?)
    (hl : xs.length = fs.size) {i : Nat} {f : Field} (hi : fs[i]? = some f) {k : IntKind} (hu : P.underlying f.type = some (.int k)) (hc : P.cellsOf f.type = 1) {c : Value} (ho : cs[f.offset]? = some c) : ∃ z, c = .int k z ∧ (Lit.int k z).wf = true := by
  have h := hall i f hi
  have hlt := (Array.getElem?_eq_some_iff.1 hi).1
  rw [List.getElem?_eq_getElem (by omega), hc] at h
  obtain ⟨z, h1, _, h3⟩ := DataW.trod_int hu h
  refine ⟨z, ?_, h3⟩
  have hlc := (List.getElem?_eq_some_iff.1 ho)
  rw [List.drop_eq_getElem_cons hlc.1, hlc.2] at h1
  simpa using h1

theorem bp_arg0 {H : Type} {enc : TypeId × Value → H} {P : Program} {W : World} {base : Nat} {t : TypeId} {f0 f1 f2 f3 f4 f5 f6 : Field} {t0 t1 : TypeId} {v : Value} {d : DataW H} {ps : List MemPlace} (ht : P.underlying t = some (.struct #[f0, f1, f2, f3, f4, f5, f6])) (hs : P.cellsOf t = 7)
    (q : [f0, f1, f2, f3, f4, f5, f6].map (fun f => (f.type, f.offset)) = [(t0, 0), (t0, 1), (t0, 2), (t0, 3), (t0, 4), (t0, 5), (t1, 6)]) (u0 : P.underlying t0 = some (.int .i64)) (c0 : P.cellsOf t0 = 1) (u1 : P.underlying t1 = some (.int .i32)) (c1 : P.cellsOf t1 = 1)
    (hv : Value.okWide P W .any base t v) (hd : DataW.Trod enc P W 0 (fun _ => true) true t v d ps) :
    ∃ b l hi s dd i f : Int, v = .agg (bpV b l hi s dd i f).toArray ∧ (-9223372036854775808 ≤ b ∧ b < 9223372036854775808) ∧ (-2147483648 ≤ f ∧ f < 2147483648) := by
  obtain ⟨cs, rfl, hsz⟩ := okWide_struct ht hv
  rw [hs] at hsz
  obtain ⟨fuel, hf⟩ := hd
  obtain ⟨L⟩ := cs
  simp only [List.map_cons, List.map_nil, List.cons.injEq, Prod.mk.injEq, and_true] at q
  obtain ⟨⟨q0, r0⟩, ⟨q1, r1⟩, ⟨q2, r2⟩, ⟨q3, r3⟩, ⟨q4, r4⟩, ⟨q5, r5⟩, q6, r6⟩ := q
  match L, hsz with
  | [e0, e1, e2, e3, e4, e5, e6], _ =>
    have hval : (Value.cells (.agg #[e0, e1, e2, e3, e4, e5, e6])).toList = [e0, e1, e2, e3, e4, e5, e6] := rfl
    rw [hval] at hf
    obtain ⟨xs, m, _, _, _, hl, hall⟩ := DataW.trod_struct ht hf
    obtain ⟨z0, rfl, w0⟩ := field_int hall hl (i := 0) (f := f0) rfl (by rw [q0]; exact u0) (by rw [q0]; exact c0) (c := e0) (by rw [r0]; rfl)
    obtain ⟨z1, rfl, w1⟩ := field_int hall hl (i := 1) (f := f1) rfl (by rw [q1]; exact u0) (by rw [q1]; exact c0) (c := e1) (by rw [r1]; rfl)
    obtain ⟨z2, rfl, w2⟩ := field_int hall hl (i := 2) (f := f2) rfl (by rw [q2]; exact u0) (by rw [q2]; exact c0) (c := e2) (by rw [r2]; rfl)
    obtain ⟨z3, rfl, w3⟩ := field_int hall hl (i := 3) (f := f3) rfl (by rw [q3]; exact u0) (by rw [q3]; exact c0) (c := e3) (by rw [r3]; rfl)
    obtain ⟨z4, rfl, w4⟩ := field_int hall hl (i := 4) (f := f4) rfl (by rw [q4]; exact u0) (by rw [q4]; exact c0) (c := e4) (by rw [r4]; rfl)
    obtain ⟨z5, rfl, w5⟩ := field_int hall hl (i := 5) (f := f5) rfl (by rw [q5]; exact u0) (by rw [q5]; exact c0) (c := e5) (by rw [r5]; rfl)
    obtain ⟨z6, rfl, w6⟩ := field_int hall hl (i := 6) (f := f6) rfl (by rw [q6]; exact u1) (by rw [q6]; exact c1) (c := e6) (by rw [r6]; rfl)
    exact ⟨z0, z1, z2, z3, z4, z5, z6, rfl, has_i64 w0, has_i32 w6⟩

theorem bp_rel (ρ : Rho) (b l hi s d i f : Int) : VRel ρ (.agg (bpV b l hi s d i f).toArray) (.agg (bpV b l hi s d i f).toArray) := .flatV (by simp [flatV, bpV, flat0])

end Go.Proofs.Ytmfpkgcphlilmaa.AM
