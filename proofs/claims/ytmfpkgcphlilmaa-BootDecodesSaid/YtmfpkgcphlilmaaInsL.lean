/- The library's Insert, walked, where a new row is laid (printed by ins.py). -/
import Derived.Test.YtmfpkgcphlilmaaProg
import Derived.Shelf.Spec.SlicesInsertGrow
import Derived.ProofKit
set_option linter.unusedVariables false
set_option linter.unusedSimpArgs false
namespace Go.Proofs.Ytmfpkgcphlilmaa.AM
open Go Go.Shelf Go.RowKit Go.Lib

section
variable (w : World)

theorem infoG41 : (Try.prog.info? 21).map (fun i => (i.zero, i.size, i.bytes)) = some (some (Value.int IntKind.i32 0), 1, 4) := by kernel_rfl
theorem mixedG41 : Try.prog.follows .mixedOrders = true := by kernel_rfl
theorem widthG41 : (Try.prog.info? 21).map (·.size) = some 1 := by kernel_rfl

set_option maxHeartbeats 4000000 in
set_option maxRecDepth 100000 in
/-- Behind the last thing, with no spare room: a new row. -/
theorem ins41_more (base : Option Addr) (n c vb voff m vc : Nat) (L vs : List Value) (hm : 0 < m) (hnc : n ≤ c) (hc : c < n + m) (hbig : (n + m) * 4 ≤ 140737488355328) (hL : L.length = n) (hV : vs.length = m) (hnil : base = none → n = 0)
    (hcs : ∀ a, base = some a → ∀ (j : Nat) v, L[j]? = some v → w.cell? (a.add j) = some v) (hx : ∀ (j : Nat) v, vs[j]? = some v → w.cell? ⟨vb, voff + j, none⟩ = some v) (hx1 : ∀ v ∈ vs, v.oneCell' = true) :
    Calls Try.prog 41 #[.slice base n c, .int .i64 n, .slice (some ⟨vb, voff, none⟩) m vc] w fun e w' =>
      e = .returned (.slice (some ⟨w.heap.size, 0, none⟩) (n + m) (grownCap w (n + m) c 21)) ∧
      w' = w.drew.alloc (.cells ((L ++ vs).toArray ++ Builtin.zeroCells (Value.int .i32 0).cells (grownCap w (n + m) c 21 - (n + m))) 21) := by
  have mixed := mixedG41
  have u0 := run_underlying Try.underlying0
  have u3 := run_underlying Try.underlying3
  have u4 := run_underlying Try.underlying4
  have uS := run_underlying Try.underlying76
  have uE := run_underlying Try.underlying21
  have hz : ¬ ((m : Int) = 0) := by omega
  obtain ⟨i0, hi0, hz0, hs0, hb0⟩ := info_parts infoG41
  have src : Src Try.prog i0.size 76 (.slice (some ⟨vb, voff, none⟩) m vc) m vs w := by
    rw [hs0]
    exact .ofSlice w Try.underlying76 ⟨vb, voff, none⟩ m vc vs (by omega) (fun j u hj => by rw [Addr.add_lit]; exact hx j u hj) hx1
  have old : (Builtin.firstCells i0.size n (.slice base n c)).run Try.prog w.drew = .ok L.toArray w.drew := by
    rw [hs0]
    match base, hnil, hcs with
    | none, hnil, _ =>
      obtain rfl := hnil rfl
      obtain rfl := List.length_eq_zero_iff.1 hL
      exact run_firstCells_none w.drew 1 0 0 c
    | some a, _, hcs => exact run_firstCells_some w.drew 1 n a n c L (by omega) (fun j v hj => hcs a rfl j v hj)
  have app : ∀ ty, (Builtin.append_ #[76, 76] ty #[.slice base n c, .slice (some ⟨vb, voff, none⟩) m vc]).run Try.prog w = _ := fun ty =>
    run_append_grow_src w 76 76 ty 21 i0 _ Try.underlying76 hi0 hz0 base n c L old _ m vs src hc (by omega) (by rw [hb0]; exact growslice_fits hc hbig)
  go_enter Try.func41, Try.ntmps41
  match base, hnil with
  | none, hnil =>
    obtain rfl := hnil rfl
    go_wp2_with (at_builtin; refine Lib.wpList_append_run _ rfl _ _ _ _ rfl _ _ rfl rfl _ _ (app _) ?_)
    go_ret
    exact ⟨rfl, rfl⟩
  | some ⟨ab, ao, sp⟩, _ =>
    go_wp2_with (at_builtin; refine Lib.wpList_append_run _ rfl _ _ _ _ rfl _ _ rfl rfl _ _ (app _) ?_)
    all_goals (go_ret; exact ⟨rfl, rfl⟩)

end
end Go.Proofs.Ytmfpkgcphlilmaa.AM
