/- The library's Insert of one thing, walked (printed by ins.py). -/
import Derived.Test.YtmfpkgcphlilmaaProg
import Derived.Shelf.Spec.SlicesInsertGrow
import Derived.ProofKit
set_option linter.unusedVariables false
set_option linter.unusedSimpArgs false
namespace Go.Proofs.Ytmfpkgcphlilmaa.AM
open Go Go.Shelf Go.RowKit Go.Lib

section
variable (w : World)

theorem info36 : (Try.prog.info? 3).map (fun i => (i.zero, i.size, i.bytes)) = some (some (Value.int IntKind.i64 0), 1, 8) := by kernel_rfl
theorem mixed36 : Try.prog.follows .mixedOrders = true := by kernel_rfl
theorem width36 : (Try.prog.info? 3).map (·.size) = some 1 := by kernel_rfl

/-- Behind the last thing, into spare room. -/
theorem ins36_last (b off n c vb voff m vc : Nat) (x : Value) (hm : m = 1) (hn : n + 1 ≤ c) (hroom : (w.cell? ⟨b, off + n, none⟩).isSome = true) (hfree : w.frozen? ⟨b, off + n, none⟩ = false) (hx : w.cell? ⟨vb, voff, none⟩ = some x) (hx1 : x.oneCell' = true) :
    Calls Try.prog 36 #[.slice (some ⟨b, off, none⟩) n c, .int .i64 n, .slice (some ⟨vb, voff, none⟩) m vc] w fun e w' => e = .returned (.slice (some ⟨b, off, none⟩) (n + 1) c) ∧ w' = w.setCells b (off + n) [x] := by
  have mixed := mixed36
  have u0 := run_underlying Try.underlying0
  have u3 := run_underlying Try.underlying3
  have u4 := run_underlying Try.underlying4
  have uS := run_underlying Try.underlying55
  have uE := run_underlying Try.underlying3
  have hz : ¬ ((m : Int) = 0) := by omega
  have src : Src Try.prog 1 55 (.slice (some ⟨vb, voff, none⟩) m vc) m [x] w := .ofSlice w Try.underlying55 ⟨vb, voff, none⟩ m vc [x] (by simp [hm]) (fun j u hj => by
    match j, hj with
    | 0, hj => injection hj with hj; subst hj; exact hx) (fun v hv => by rw [List.mem_singleton.1 hv]; exact hx1)
  have r1 : ∀ j, j < [x].length → (w.cell? ⟨b, off + n + j, none⟩).isSome = true := fun j hj => by
    obtain rfl : j = 0 := by simpa using hj
    exact hroom
  have r2 : ∀ j, j < [x].length → w.frozen? ⟨b, off + n + j, none⟩ = false := fun j hj => by
    obtain rfl : j = 0 := by simpa using hj
    exact hfree
  go_enter Try.func36, Try.ntmps36
  go_wp2_with (at_builtin; refine wpList_append_room1 _ rfl _ _ 55 55 rfl 3 _ _ Try.underlying55 info36 b off n c rfl _ rfl m [x] src (by omega) r1 r2 ?_)
  go_ret
  exact ⟨rfl, rfl⟩

theorem some_setCells (b : Nat) (vs : List Value) (o : Nat) (w : World) (h : ∀ j, j < vs.length → (w.cell? ⟨b, o + j, none⟩).isSome = true) (a : Addr) (ha : (w.cell? a).isSome = true) : ((w.setCells b o vs).cell? a).isSome = true := by
  obtain ⟨ab, ao, sp⟩ := a
  by_cases hin : ab = b ∧ sp = none ∧ o ≤ ao ∧ ao < o + vs.length
  · obtain ⟨rfl, rfl, h1, h2⟩ := hin
    have := World.cell?_setCells_in ab vs o w h (ao - o) (by omega)
    rw [show o + (ao - o) = ao by omega] at this
    rw [this]
    rfl
  · rw [World.cell?_setCells_out b vs o w ⟨ab, ao, sp⟩ (fun h1 h2 => by
      have h1' : ab = b := h1
      have h2' : sp = none := h2
      show ao < o ∨ o + vs.length ≤ ao
      by_cases h3 : ao < o
      · exact .inl h3
      · refine .inr (Nat.le_of_not_lt fun h4 => hin ⟨h1', h2', by omega, h4⟩))]
    exact ha

set_option maxHeartbeats 4000000 in
set_option maxRecDepth 100000 in
/-- Ahead of thing i, with spare room: the rest moves on. -/
theorem ins36_mid (b off n c i vb voff m vc : Nat) (L vs : List Value) (hm : 0 < m) (hi : i < n) (hn : n + m ≤ c) (hbig : n + m ≤ 140737488355328) (hne : vb ≠ b) (hL : L.length = n) (hV : vs.length = m)
    (hcs : ∀ (j : Nat) v, L[j]? = some v → w.cell? ⟨b, off + j, none⟩ = some v) (hroom : ∀ j, j < n + m → (w.cell? ⟨b, off + j, none⟩).isSome = true) (hfree : ∀ j, j < n + m → w.frozen? ⟨b, off + j, none⟩ = false)
    (hx : ∀ (j : Nat) v, vs[j]? = some v → w.cell? ⟨vb, voff + j, none⟩ = some v) (hx1 : ∀ v ∈ vs, v.oneCell' = true) (hL1 : ∀ v ∈ L, v.oneCell' = true)
    (tA tB : TypeId) (kA kB : Nat) (sA : w.shape? vb = some (tA, kA)) (sB : w.shape? b = some (tB, kB)) (kB0 : kB ≠ 0) (zA : w.frozen? ⟨vb, voff, none⟩ = false) (zE : w.frozen? ⟨vb, kA, none⟩ = false) :
    Calls Try.prog 36 #[.slice (some ⟨b, off, none⟩) n c, .int .i64 i, .slice (some ⟨vb, voff, none⟩) m vc] w fun e w' =>
      e = .returned (.slice (some ⟨b, off, none⟩) (n + m) c) ∧ w' = (w.drew.setCells b (off + (i + m)) (L.drop i)).setCells b (off + i) vs := by
  have mixed := mixed36
  have u0 := run_underlying Try.underlying0
  have u3 := run_underlying Try.underlying3
  have u4 := run_underlying Try.underlying4
  have uS := run_underlying Try.underlying55
  have uE := run_underlying Try.underlying3
  have hz : ¬ ((m : Int) = 0) := by omega
  have hin : ¬ ((i : Int) = (n : Int)) := by omega
  have g1 : IntKind.i64.wrap ((i : Int) + (m : Int)) = (i : Int) + (m : Int) := by rw [IntKind.wrap_i64]; omega
  have g2 : (0 : Int) ≤ (i : Int) + (m : Int) := by omega
  have g3 : i ≤ n := by omega
  have g4 : ((i : Int) + (m : Int)).toNat = i + m := by omega
  have g5 : ¬ (c = i + m) := by omega
  have g6 : (i : Int) ≤ (n : Int) + (m : Int) := by omega
  have g7 : ¬ (c = i) := by omega
  have apart : ∀ lb cb, (callFunc 59 #[.slice (some ⟨vb, voff, none⟩) m vc, .slice (some ⟨b, off + (i + m), none⟩) lb cb]).run Try.prog w = .ok (.value (.bool false)) w := fun lb cb => by
    rw [run_callFunc_extern Try.func59 (by kernel_rfl) (by kernel_rfl) (by kernel_rfl) (e := Extern.SlicesOverlaps.overlaps #[55, 55] #[4]) (by kernel_rfl),
      Lib.run_overlaps_apart w 55 4 3 Try.underlying55 1 (fun w => by kernel_rfl) ⟨vb, voff, none⟩ ⟨b, off + (i + m), none⟩ m vc lb cb hne tA tB kA kB sA sB kB0 zA zE]
    rfl
  have dl : (L.drop i).length = n - i := by rw [List.length_drop, hL]
  have move : ∀ ty dc sc, (Builtin.copy_ #[55, 55] ty #[.slice (some ⟨b, off + (i + m), none⟩) (n + m - (i + m)) dc, .slice (some ⟨b, off + i, none⟩) (n + m - i) sc]).run Try.prog w.drew = .ok (goInt (L.drop i).length) (w.drew.setCells b (off + (i + m)) (L.drop i)) := fun ty dc sc => by
    refine run_copy_cells w.drew _ _ ty 3 b _ _ dc _ _ sc _ Try.underlying55 width36 ?_ ?_ ?_ ?_ ?_
    · rw [dl]; simp only [Nat.min_def]; split <;> omega
    · intro j v hj
      rw [List.getElem?_drop] at hj
      rw [Addr.add_lit, Nat.add_assoc]
      exact hcs _ v hj
    · intro j hj; rw [Nat.add_assoc]; exact hroom _ (by omega)
    · intro j hj; rw [Nat.add_assoc]; exact hfree _ (by omega)
    · exact fun v hv => hL1 v (List.mem_of_mem_drop hv)
  generalize hX : w.drew.setCells b (off + (i + m)) (L.drop i) = X at move ⊢
  have there : ∀ j, j < n + m → (X.cell? ⟨b, off + j, none⟩).isSome = true := fun j hj => by
    rw [← hX]
    exact some_setCells b _ _ _ (fun k hk => by rw [Nat.add_assoc]; exact hroom _ (by omega)) _ (hroom j hj)
  have put : ∀ (W : World), (∀ a, W.cell? a = X.cell? a) → (∀ a, W.frozen? a = X.frozen? a) → ∀ ty dc, (Builtin.copy_ #[55, 55] ty #[.slice (some ⟨b, off + i, none⟩) (n + m - i) dc, .slice (some ⟨vb, voff, none⟩) m vc]).run Try.prog W = .ok (goInt vs.length) (W.setCells b (off + i) vs) := fun W e1 e2 ty dc => by
    refine run_copy_cells W _ _ ty 3 b _ _ dc _ _ vc _ Try.underlying55 width36 ?_ ?_ ?_ ?_ hx1
    · rw [hV]; simp only [Nat.min_def]; split <;> omega
    · intro j v hj
      rw [Addr.add_lit, e1, ← hX, World.cell?_setCells_out b _ _ _ _ (fun h _ => absurd h hne)]
      exact hx j v hj
    · intro j hj; rw [e1, Nat.add_assoc]; exact there _ (by omega)
    · intro j hj; rw [e2, ← hX, World.frozen?_setCells, Nat.add_assoc]; exact hfree _ (by omega)
  go_enter Try.func36, Try.ntmps36
  go_wp2_with (simp only [apart])
  go_region_law_o (refine step_copy_runI rfl _ _ 55 55 rfl _ _ (by simp [Act.eval, Act.put]) (by simp [Act.eval, Act.put]) (move _ _ _) ?_)
  go_wp2_with (at_builtin; refine wpList_copy_runI _ rfl _ _ 55 55 rfl _ _ rfl rfl (put _ (fun _ => rfl) (fun _ => rfl) _ _) ?_)
  go_ret
  exact ⟨rfl, rfl⟩

end
end Go.Proofs.Ytmfpkgcphlilmaa.AM
