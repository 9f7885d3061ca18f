/- The library's Insert, walked, where a new row is laid for a thing in the middle (printed by ins.py). -/
import Derived.Test.YtmfpkgcphlilmaaProg
import Derived.Shelf.Spec.SlicesInsertGrow
import Derived.ProofKit
set_option linter.unusedVariables false
set_option linter.unusedSimpArgs false
namespace Go.Proofs.Ytmfpkgcphlilmaa.AM
open Go Go.Shelf Go.RowKit Go.Lib

section
variable (w : World)

theorem infoH36 : (Try.prog.info? 3).map (fun i => (i.zero, i.size, i.bytes)) = some (some (Value.int IntKind.i64 0), 1, 8) := by kernel_rfl
theorem mixedH36 : Try.prog.follows .mixedOrders = true := by kernel_rfl
theorem widthH36 : (Try.prog.info? 3).map (·.size) = some 1 := by kernel_rfl

/-- The row that the make and the append lay. -/
def rowH36 (L : List Value) (i n m G : Nat) : Array Value := (L.take i).toArray ++ Builtin.zeroCells (Value.int .i64 0).cells (n + m - i) ++ Builtin.zeroCells (Value.int .i64 0).cells (G - (n + m))

set_option maxHeartbeats 4000000 in
set_option maxRecDepth 100000 in
/-- Ahead of thing i, with no spare room: a new row. -/
theorem ins36_amid (b off n c i vb voff m vc : Nat) (L vs : List Value) (hm : 0 < m) (hi : i < n) (hnc : n ≤ c) (hc : c < n + m) (hbig : (n + m) * 8 ≤ 140737488355328) (hL : L.length = n) (hV : vs.length = m)
    (hcs : ∀ (j : Nat) v, L[j]? = some v → w.cell? ⟨b, off + j, none⟩ = some v) (hx : ∀ (j : Nat) v, vs[j]? = some v → w.cell? ⟨vb, voff + j, none⟩ = some v) (hx1 : ∀ v ∈ vs, v.oneCell' = true) (hL1 : ∀ v ∈ L, v.oneCell' = true) :
    Calls Try.prog 36 #[.slice (some ⟨b, off, none⟩) n c, .int .i64 i, .slice (some ⟨vb, voff, none⟩) m vc] w fun e w' =>
      e = .returned (.slice (some ⟨w.heap.size, 0, none⟩) (n + m) (grownCap w (n + m) c 3)) ∧
      w' = (((w.alloc (.cells (rowH36 L i n m (grownCap w (n + m) c 3)) 3)).drew.setCells w.heap.size i vs).drew).setCells w.heap.size (i + m) (L.drop i) := by
  have mixed := mixedH36
  have u0 := run_underlying Try.underlying0
  have u3 := run_underlying Try.underlying3
  have u4 := run_underlying Try.underlying4
  have uS := run_underlying Try.underlying55
  have uE := run_underlying Try.underlying3
  have hz : ¬ ((m : Int) = 0) := by omega
  have hin : ¬ ((i : Int) = (n : Int)) := by omega
  have hlt : (c : Int) < (n : Int) + (m : Int) := by omega
  obtain ⟨i0, hi0, hz0, hs0, hb0⟩ := info_parts infoH36
  have hb : b < w.heap.size := block_lt_of_cell (hcs 0 _ (List.getElem?_eq_getElem (by omega)))
  have hv : vb < w.heap.size := block_lt_of_cell (hx 0 _ (List.getElem?_eq_getElem (by omega)))
  have hbN : b ≠ w.heap.size := by omega
  have dl : (L.drop i).length = n - i := by rw [List.length_drop, hL]
  have app : ∀ ty, (Builtin.append_ #[55, 3] ty #[.slice (some ⟨b, off, none⟩) i c, .int .i64 ((n : Int) + (m : Int) - (i : Int))]).run Try.prog w =
      .ok (.slice (some ⟨w.heap.size, 0, none⟩) (n + m) (grownCap w (n + m) c 3)) (w.drew.alloc (.cells (rowH36 L i n m (grownCap w (n + m) c 3)) 3)) := fun ty => by
    have old : (Builtin.firstCells i0.size i (.slice (some ⟨b, off, none⟩) i c)).run Try.prog w.drew = .ok (L.take i).toArray w.drew := by
      rw [hs0]
      refine run_firstCells_some w.drew 1 i ⟨b, off, none⟩ i c (L.take i) (by rw [List.length_take]; omega) (fun j v hj => ?_)
      rw [Addr.add_lit]
      rw [List.getElem?_take] at hj
      split at hj
      · exact hcs j v hj
      · cases hj
    have h := Lib.run_append_grow_zeros w 55 3 ty 3 i0 _ .i64 .i64 Try.underlying55 Try.underlying3 hi0 hz0 (some ⟨b, off, none⟩) i c (L.take i) old (n + m - i) (by omega) (by omega) (by omega) (by omega) (by rw [hb0]; omega) (by rw [hb0, show i + (n + m - i) = n + m by omega]; exact growslice_fits hc hbig)
    rw [show i + (n + m - i) = n + m by omega] at h
    rw [show (n : Int) + (m : Int) - (i : Int) = ((n + m - i : Nat) : Int) by omega]
    exact h
  have Gge := grownCap_ge w (n + m) c 3
  have Gle := grownCap_le_maxLen w (n + m) c 3 (by unfold maxLen; omega)
  unfold maxLen at Gle
  have rl : n + m ≤ (rowH36 L i n m (grownCap w (n + m) c 3)).size := by
    unfold rowH36
    simp [Builtin.zeroCells, Value.cells]
    omega
  generalize grownCap w (n + m) c 3 = G at app Gge Gle rl ⊢
  generalize rowH36 L i n m G = R at app rl ⊢
  have i1 : ∀ j, j < n + m → ((w.drew.alloc (.cells R 3)).cell? ⟨w.heap.size, j, none⟩).isSome = true := fun j hj => by
    rw [World.cell?_alloc_at (w := w.drew) R _ w.heap.size j rfl, Array.getElem?_eq_getElem (by omega)]
    rfl
  have i2 : ∀ j, (w.drew.alloc (.cells R 3)).frozen? ⟨w.heap.size, j, none⟩ = false := fun j => World.frozen?_alloc_at (w := w.drew) R _ w.heap.size j rfl
  have i3 : ∀ bb j v, bb < w.heap.size → w.cell? ⟨bb, j, none⟩ = some v → (w.drew.alloc (.cells R 3)).cell? ⟨bb, j, none⟩ = some v := fun bb j v hbb h => by
    rw [World.cell?_alloc_past (w := w.drew) _ bb j hbb]
    exact h
  generalize hX : w.drew.alloc (.cells R 3) = X at app i1 i2 i3
  have put : ∀ (W : World), (∀ a, W.cell? a = X.cell? a) → (∀ a, W.frozen? a = X.frozen? a) → ∀ ty dc, (Builtin.copy_ #[55, 55] ty #[.slice (some ⟨w.heap.size, i, none⟩) (n + m - i) dc, .slice (some ⟨vb, voff, none⟩) m vc]).run Try.prog W = .ok (goInt vs.length) (W.setCells w.heap.size i vs) := fun W e1 e2 ty dc => by
    refine run_copy_cells W _ _ ty 3 w.heap.size _ _ dc _ _ vc _ Try.underlying55 widthH36 ?_ ?_ ?_ ?_ hx1
    · rw [hV]; simp only [Nat.min_def]; split <;> omega
    · intro j v hj
      rw [Addr.add_lit, e1]
      exact i3 _ _ _ hv (hx j v hj)
    · intro j hj; rw [e1]; exact i1 _ (by omega)
    · intro j hj; rw [e2]; exact i2 _
  have mv : ∀ (W : World), (∀ a, W.cell? a = (X.setCells w.heap.size i vs).cell? a) → (∀ a, W.frozen? a = (X.setCells w.heap.size i vs).frozen? a) → ∀ ty dc sc, (Builtin.copy_ #[55, 55] ty #[.slice (some ⟨w.heap.size, i + m, none⟩) (n + m - (i + m)) dc, .slice (some ⟨b, off + i, none⟩) (n - i) sc]).run Try.prog W = .ok (goInt (L.drop i).length) (W.setCells w.heap.size (i + m) (L.drop i)) := fun W e1 e2 ty dc sc => by
    refine run_copy_cells W _ _ ty 3 w.heap.size _ _ dc _ _ sc _ Try.underlying55 widthH36 ?_ ?_ ?_ ?_ (fun v hv => hL1 v (List.mem_of_mem_drop hv))
    · rw [dl]; simp only [Nat.min_def]; split <;> omega
    · intro j v hj
      rw [List.getElem?_drop] at hj
      rw [Addr.add_lit, e1, World.cell?_setCells_out _ _ _ _ _ (fun h _ => absurd h hbN), Nat.add_assoc]
      exact i3 _ _ _ hb (hcs _ v hj)
    · intro j hj
      rw [e1]
      exact isSome_setCells _ _ _ _ (fun t ht => i1 _ (by omega)) _ (i1 _ (by omega))
    · intro j hj; rw [e2, World.frozen?_setCells]; exact i2 _
  subst hX
  have q1 : ∀ x, ((w.alloc (.cells R 3)).drew).cell? x = (w.drew.alloc (.cells R 3)).cell? x := fun x => rfl
  have q2 : ∀ x, ((w.alloc (.cells R 3)).drew).frozen? x = (w.drew.alloc (.cells R 3)).frozen? x := fun x => rfl
  have q3 : ∀ x, (((w.alloc (.cells R 3)).drew.setCells w.heap.size i vs).drew).cell? x = ((w.drew.alloc (.cells R 3)).setCells w.heap.size i vs).cell? x := fun x => rfl
  have q4 : ∀ x, (((w.alloc (.cells R 3)).drew.setCells w.heap.size i vs).drew).frozen? x = ((w.drew.alloc (.cells R 3)).setCells w.heap.size i vs).frozen? x := fun x => rfl
  have k1 : ¬ (G = i) := by omega
  have k2 : ¬ (G = i + m) := by omega
  have k3 : ¬ (c = i) := by omega
  have k4 : IntKind.i64.wrap ((i : Int) + (m : Int)) = (i : Int) + (m : Int) := by rw [IntKind.wrap_i64]; omega
  have k5 : (0 : Int) ≤ (i : Int) + (m : Int) := by omega
  have k6 : i ≤ n := by omega
  have k7 : ((i : Int) + (m : Int)).toNat = i + m := by omega
  have k8 : (i : Int) ≤ (n : Int) := by omega
  clear rl
  go_enter Try.func36, Try.ntmps36
  go_wp2_with (first
    | (at_builtin; refine Lib.wpList_append_run _ rfl _ _ _ _ rfl _ _ rfl rfl _ _ (app _) ?_)
    | (at_builtin; refine wpList_copy_runI _ rfl _ _ 55 55 rfl _ _ rfl rfl (put _ q1 q2 _ _) ?_)
    | (at_builtin; refine wpList_copy_runI _ rfl _ _ 55 55 rfl _ _ rfl rfl (mv _ (fun _ => rfl) (fun _ => rfl) _ _ _) ?_))
  go_region_law_o (refine step_copy_runI rfl _ _ 55 55 rfl (.slice (some ⟨w.heap.size, i + m, none⟩) (n + m - (i + m)) (G - (i + m))) (.slice (some ⟨b, off + i, none⟩) (n - i) (c - i)) (by simp [Act.eval, Act.put]) (by simp [Act.eval, Act.put]) (mv _ q3 q4 3 (G - (i + m)) (c - i)) ?_)
  go_wp2
  go_ret
  exact ⟨rfl, rfl⟩

end
end Go.Proofs.Ytmfpkgcphlilmaa.AM
