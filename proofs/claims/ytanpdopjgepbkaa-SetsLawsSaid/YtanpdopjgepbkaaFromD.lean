/- Rows of numbers. -/
import Derived.Test.YtanpdopjgepbkaaSC
set_option linter.unusedVariables false
set_option linter.unusedSimpArgs false
namespace Go.Proofs.Ytanpdopjgepbkaa.AM
open Go

theorem FOwn.grown {h0 h h' : AH} {e : Nat} {s : Sl} {xss : List (List Value)} (f : FOwn h0 h e s xss) (k : Kp h h') : FOwn h0 h' e s xss := ⟨f.own.kp k, f.kp.trans k, f.new⟩

def cellK (k : IntKind) (n : Int) : List Value := [.int k n]
def rowN (n : Int) : Int × Int := (rankF n, rankF n + 1)
def AllRune (l : List Int) : Prop := ∀ n ∈ l, IsRune n
theorem same_row {n : Int} : rowOf (n, n) = rowN n := rfl
theorem map_same (l : List Int) : (l.map fun n => (n, n)).map rowOf = l.map rowN := by rw [List.map_map]; rfl
theorem wrap32_rune {n : Int} (h : IsRune n) : IntKind.i32.wrap n = n := wrap_i32 (by omega) (by omega)
theorem map_wrap {l : List Int} (h : AllRune l) : l.map (fun n => (IntKind.i32.wrap n, IntKind.i32.wrap n)) = l.map fun n => (n, n) :=
  List.map_congr_left fun n hn => by rw [wrap32_rune (h n hn)]
theorem right_same {l : List Int} (h : AllRune l) : ∀ x ∈ l.map (fun n => (n, n)), RightS x := fun x hx => by
  obtain ⟨n, hn, rfl⟩ := List.mem_map.1 hx
  exact ⟨h n hn, h n hn, Int.le_refl _⟩

end Go.Proofs.Ytanpdopjgepbkaa.AM
