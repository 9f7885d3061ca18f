/- The program with its contracts. -/
import Derived.Test.YtmfpkgcphlilmaaAmF
import Derived.Test.YtmfpkgcphlilmaaProg
set_option linter.unusedVariables false
namespace Go.Proofs.Ytmfpkgcphlilmaa.AM
open Go

/-- A closed call that answers true. -/
def aliveX : List Value → AH → Option (Value × AH) := fun args h => if args.isEmpty then some (.bool true, h) else none

/-- The library's Insert of one thing of one cell: behind i things. The list's block is used up. -/
def insX (bytes : Nat) : List Value → AH → Option (Value × AH) := fun args h =>
  match args with
  | [.slice none n e, .int .i64 i, .slice (some ⟨vb, vo, none⟩) m _] =>
    match h.get vb with
    | some (.cells false vs) => match vs[vo]? with
      | some v => if n = 0 ∧ e = 0 ∧ i = 0 ∧ m = 1 ∧ flat0 v = true then some (.slice (some ⟨h.n, 0, none⟩) 1 1, h.push (.cells false [v])) else none
      | none => none
    | _ => none
  | [.slice (some ⟨b, o, none⟩) n e, .int .i64 i, .slice (some ⟨vb, vo, none⟩) m _] =>
    match h.get b, h.get vb with
    | some (.cells false xs), some (.cells false vs) => match vs[vo]? with
      | some v => if e = 1 ∧ 0 ≤ i ∧ i ≤ n ∧ m = 1 ∧ b ≠ vb ∧ o + n = xs.length ∧ (xs.drop o).all flat0 = true ∧ flat0 v = true ∧ (n + 1) * bytes ≤ 140737488355328 then
          some (.slice (some ⟨h.n, 0, none⟩) (n + 1) 1, (h.kill b).push (.cells false (((xs.drop o).take i.toNat) ++ v :: (xs.drop o).drop i.toNat))) else none
      | none => none
    | _, _ => none
  | _ => none

/-- The library's search of a plain rune in a text. -/
def idxRX : List Value → AH → Option (Value × AH) := fun args h =>
  match args with
  | [.string s, .int .i32 r] => if 0 ≤ r ∧ r < 128 then some (.int .i64 (match (List.range s.size).find? fun i => s[i]! == UInt8.ofNat r.toNat with
      | some i => (i : Int)
      | none => -1), h) else none
  | _ => none

def extB : FuncId → Option (List Value → AH → Option (Value × AH)) := fun f =>
  if f = 11 then some aliveX else if f = 36 then some (insX 8) else if f = 41 then some (insX 4) else if f = 71 then some idxRX else none
def withExt (q : Prg) (e : FuncId → Option (List Value → AH → Option (Value × AH))) : Prg := ⟨q.fn, e⟩
theorem withExt_fn (q : Prg) (e : FuncId → Option (List Value → AH → Option (Value × AH))) (f : FuncId) : (withExt q e).fn f = q.fn f := rfl
theorem withExt_ext (q : Prg) (e : FuncId → Option (List Value → AH → Option (Value × AH))) (f : FuncId) : (withExt q e).ext f = e f := rfl
noncomputable def PX : Prg := withExt (autoPrg Try.prog) extB
theorem px_fn {f : FuncId} {lf : LFunc} (hf : (autoPrg Try.prog).fn f = some lf) : PX.fn f = some lf := by
  unfold PX
  rw [withExt_fn]
  exact hf
theorem px_ext {f : FuncId} (hf : (f == 11 || f == 36 || f == 41 || f == 71) = false) : PX.ext f = none := by
  have h1 : ¬ f = 11 := by rintro rfl; cases hf
  have h2 : ¬ f = 36 := by rintro rfl; cases hf
  have h3 : ¬ f = 41 := by rintro rfl; cases hf
  have h4 : ¬ f = 71 := by rintro rfl; cases hf
  unfold PX
  rw [withExt_ext]
  simp only [extB, if_neg h1, if_neg h2, if_neg h3, if_neg h4]
theorem px_at {f : FuncId} {g : List Value → AH → Option (Value × AH)} (hf : extB f = some g) : PX.ext f = some g := by
  unfold PX
  rw [withExt_ext]
  exact hf

end Go.Proofs.Ytmfpkgcphlilmaa.AM
