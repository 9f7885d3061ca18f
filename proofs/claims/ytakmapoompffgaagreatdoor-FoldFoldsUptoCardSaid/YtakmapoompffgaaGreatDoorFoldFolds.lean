/- The law FoldFolds, its second form's tied card: the chapter against its reference: Fold, First, Count, Of, Pieces, Twins Where what is read is of the bulk that the form names; no other condition. -/
import Derived.Test.YtakmapoompffgaaGreatDoorP30dcdc0f
import Derived.Test.YtakmapoompffgaaGreatDoorCards
import Derived.Test.YtakmapoompffgaaGreatDoorTie
import Derived.WalkKit
import Derived.ProofKit
import Derived.ChangeMaps5
import Derived.Carry
set_option linter.unusedVariables false
set_option linter.unusedSimpArgs false
set_option linter.unusedSectionVars false
namespace Go.Proofs.YtakmapoompffgaaGreatDoor
open Go Go.ChangeShapes Go.WideShapes Go.ChangeAt Go.RowKit Go.ChangeMaps

set_option maxRecDepth 100000 in
theorem foldFolds_contract (H : Type) (enc : TypeId × Value → H) (W : World) (base : Nat) (args : Array Value) (ds gs : List (DataW H)) (before : List MemPlace)
    (hval0 : ∀ (j : Nat) t v, Tryz.f6.params[j]? = some t → args[j]? = some v → Value.okWide Tryz.prog W .any base t v)
    (hW : DataW.Whole enc Tryz.prog Tryz.f6.params.toList Rows.foldFoldsSpec.vars false W args.toList ds gs before) (hsm : Rows.uptoSmall H (ds ++ gs) = true) (hL : laidMetH Tryz.prog Rows.foldFoldsUptoRow.laid W) :
    Calls Tryz.prog 6 args W fun e W' => ∃ v, e = .returned v ∧ Rows.foldFoldsSpec.post enc Tryz.prog Tryz.f6 false true false false W args v W' := by
  have hW' := hW
  obtain ⟨p, q, hA0, hV, rfl, hfz, hnd⟩ := hW
  have hA : DataW.TrodAll enc Tryz.prog W 0 (fun _ => true) true Tryz.f6.params.toList args.toList ds p := hA0
  have hval := hval0
  rw [Tryz.params6] at hA hval
  obtain ⟨v0, v1, v2, v3, d0, d1, d2, d3, p0, p1, p2, p3, rfl, rfl, rfl, t0, t1, t2, t3⟩ := trodAll_four hA
  obtain ⟨rfl, rfl⟩ := trodVars_none hV
  simp only [List.append_nil] at hW'
  have hb := of_decide_eq_true hsm
  simp only [List.append_nil, Rows.uptoBulkAll] at hb
  have hlt : ∀ x ∈ p0 ++ p1 ++ p2 ++ p3, x.block < W.heap.size := fun x hx => by simpa using hW'.lt x (by simpa using hx)
  obtain ⟨hh, hro, hu, hg⟩ := AM.laid_start hL
  have k0 := t0
  obtain ⟨T, fit, mk⟩ := AM.tables_arg (hval 0 _ v0 rfl rfl) t0 (by omega)
  have k1 := t1
  obtain ⟨x1, rfl, rfl, rfl, hx1⟩ := open_string Tryz.underlying9 (hval 1 _ v1 rfl rfl) t1
  have hn1 : x1.size ≤ 1048576 := by
    have e : x1.data.toList.length = x1.size := rfl
    simp only [Rows.uptoBulk] at hb
    omega
  have k2 := t2
  obtain ⟨x2, rfl, rfl, rfl, hx2⟩ := open_string Tryz.underlying9 (hval 2 _ v2 rfl rfl) t2
  have hn2 : x2.size ≤ 1048576 := by
    have e : x2.data.toList.length = x2.size := rfl
    simp only [Rows.uptoBulk] at hb
    omega
  have k3 := t3
  obtain ⟨n3, rfl, rfl, rfl, hw3⟩ := open_int Tryz.underlying3 (hval 3 _ v3 rfl rfl) t3
  have hn3 := AM.has_i64' hw3
  obtain ⟨S, ρ, h, hh, ex, kp, hro, tab, hv⟩ := mk _ _ hh hro
  have hu := hu.kp kp
  have hg := Nat.le_trans hg kp.1
  refine (AM.calls_of_wpc AM.mixed (AM.px_ok _) (AM.foldFolds_run hu hg tab x1 hn1 x2 hn2 n3 hn3.1 hn3.2) hh (.cons hv (.cons (.string _) (.cons (.string _) (.cons (.int _ _) .nil)))) hro).mono fun e W' ⟨he, hbl⟩ => ?_
  subst he
  exact ⟨_, rfl, ⟨_, _, _, [], _, [], hW', trodAll_mk1 (shut_bool Tryz.underlying4 true), trodAll_mk4 (Below.trod AM.laidOut (by kernel_rfl) (of_decide_eq_true (by kernel_rfl)) k0 hbl (fun x hx => hlt x (by simp [hx]))) (Below.trod AM.laidOut (by kernel_rfl) (of_decide_eq_true (by kernel_rfl)) k1 hbl (fun x hx => by cases hx)) (Below.trod AM.laidOut (by kernel_rfl) (of_decide_eq_true (by kernel_rfl)) k2 hbl (fun x hx => by cases hx)) (Below.trod AM.laidOut (by kernel_rfl) (of_decide_eq_true (by kernel_rfl)) k3 hbl (fun x hx => by cases hx)), rfl, hbl.frame _, fun h => by cases h⟩⟩

theorem foldFolds_reads (os : Os) {H : Type} (enc : TypeId × Value → H) : ∃ places, DataW.whole enc Tryz.prog ((AM.laidWorld os).forCall (fun _ _ => 0) ⟨#[], #[.agg #[.slice none 0 0, .slice none 0 0, .slice none 0 0, .slice none 0 0, .slice none 0 0, .slice none 0 0, .slice none 0 0, .slice none 0 0], .string ⟨#[]⟩, .string ⟨#[]⟩, .int .i64 0], []⟩).memory Tryz.f6.params.toList Rows.foldFoldsSpec.vars false (#[.agg #[.slice none 0 0, .slice none 0 0, .slice none 0 0, .slice none 0 0, .slice none 0 0, .slice none 0 0, .slice none 0 0, .slice none 0 0], .string ⟨#[]⟩, .string ⟨#[]⟩, .int .i64 0] : Array Value).toList 8 = some ([.agg [.nil, .nil, .nil, .nil, .nil, .nil, .nil, .nil], .lit (.string []), .lit (.string []), .lit (.int .i64 0)], [], places) :=
  ⟨[], by kernel_rfl⟩

set_option maxRecDepth 100000 in
theorem foldFolds_lifted (os : Os) (started : os.Started) (H : Type) (enc : TypeId × Value → H) (F : Stop.Interp) :
    ReturnsInHanded {} Tryz.checked os 6 .any ((Rows.OpenSpec.upto Rows.foldFoldsSpec).preRow enc Tryz.prog Tryz.f6 Rows.foldFoldsUptoRow.domain false Rows.foldFoldsUptoRow.laid) (((Rows.OpenSpec.upto Rows.foldFoldsSpec).at F).post enc Tryz.prog Tryz.f6 false true false false) := by
  obtain ⟨places, hx⟩ := foldFolds_reads os enc
  refine returnsInHanded_of_row (C := Tryz.checked) (s := Rows.OpenSpec.upto Rows.foldFoldsSpec) AM.own started (by kernel_rfl) Tryz.func6
    (witness_row_at (enc := enc) (C := Tryz.checked) false (AM.laidWorld os) #[.agg #[.slice none 0 0, .slice none 0 0, .slice none 0 0, .slice none 0 0, .slice none 0 0, .slice none 0 0, .slice none 0 0, .slice none 0 0], .string ⟨#[]⟩, .string ⟨#[]⟩, .int .i64 0] rfl (by kernel_rfl) (by kernel_rfl) (by kernel_rfl)
      (OpenSpec.preRow_of_cond 8 hx (by kernel_rfl) (fun k hk => by cases hk; kernel_rfl) (by kernel_rfl) (AM.laid_met os _))) ?_
  intro W base args ds gs before hval hW _ hcond _ hL _ _
  exact foldFolds_contract H enc W base args ds gs before hval hW (hcond _ rfl) hL

theorem foldFolds_saidUpto : Rows.FoldFoldsUptoSaid :=
  OpenClaim.holds_of_cond 6 Tryz.f6 rfl rfl rfl rfl rfl rfl rfl ⟨rfl, rfl, rfl, rfl, rfl⟩ rfl rfl rfl rfl rfl (by kernel_rfl) Tryz.func6 (by kernel_rfl)
    (of_decide_eq_true (by kernel_rfl)) (by unfold Func.isWrapper; first | (rw [if_pos (by decide +kernel)]; kernel_rfl) | (rw [if_neg (by decide +kernel)]; exact ⟨rfl, rfl⟩))
    (fun os started H enc _ F => by rw [OpenClaim.pre_eq_preRow]; exact foldFolds_lifted os started H enc F)

theorem foldFolds_plain (f : FuncId) (fn : Func) (hf : Tryz.pinned.checked.prog.funcNamed "guise/guiselaw12.FoldFolds" = some f) (hfn : Tryz.pinned.checked.prog.funcs[f]? = some fn) :
    false = Tryz.pinned.checked.prog.looks [] ∧ ∀ (j : Nat) t, fn.params[j]? = some t → Tryz.pinned.checked.prog.wantsStandIn t = false := by
  obtain rfl : f = 6 := Option.some.inj ((show Tryz.prog.funcNamed "guise/guiselaw12.FoldFolds" = some 6 by kernel_rfl).symm.trans hf) |>.symm
  obtain rfl : fn = Tryz.f6 := (Option.some.inj (Tryz.func6.symm.trans hfn)).symm
  refine ⟨by kernel_rfl, fun j t ht => ?_⟩
  rw [Tryz.params6] at ht
  have hm := Array.mem_of_getElem? ht
  simp only [List.mem_toArray, List.mem_cons, List.mem_nil_iff, or_false] at hm
  rcases hm with rfl | rfl | rfl | rfl
  · exact (show Tryz.prog.wantsStandIn 28 = false by kernel_rfl)
  · exact (show Tryz.prog.wantsStandIn 9 = false by kernel_rfl)
  · exact (show Tryz.prog.wantsStandIn 9 = false by kernel_rfl)
  · exact (show Tryz.prog.wantsStandIn 3 = false by kernel_rfl)

theorem foldFolds_holds : Rows.FoldFoldsUptoCardSaid :=
  Claim7.holds_tied_plain_at .later [] _ _ _ _ foldFolds_saidUpto (fun _ h => by cases h) (by kernel_rfl) (fun _ h => by cases h) foldFoldsUpto_row_tie rfl ⟨rfl, rfl⟩ (by kernel_rfl) rfl foldFolds_plain (by kernel_rfl)

#print axioms foldFolds_holds

end Go.Proofs.YtakmapoompffgaaGreatDoor
