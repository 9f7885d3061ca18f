/-
  Regions: in the text's order, and in any order that the edges let through.
-/
import Derived.Test.YtanpdopjgepbkaaAmInstr
set_option linter.unusedVariables false
set_option linter.unusedSimpArgs false
namespace Go.Proofs.Ytanpdopjgepbkaa.AM
open Go

/-! ### 1. What an operation's value hangs on -/

section
variable {fr fr' : Fr}

def Agree (fr fr' : Fr) (l : List Nat) : Prop := ∀ s ∈ l, fget fr s = fget fr' s

theorem Agree.left {a b : List Nat} (h : Agree fr fr' (a ++ b)) : Agree fr fr' a := fun s hs => h s (List.mem_append_left _ hs)
theorem Agree.right {a b : List Nat} (h : Agree fr fr' (a ++ b)) : Agree fr fr' b := fun s hs => h s (List.mem_append_right _ hs)

theorem opd_congr {x : Opd} (h : Agree fr fr' (opdSlots x)) : opd fr x = opd fr' x := by
  cases x with
  | s n => exact h n (by simp [opdSlots])
  | c v => rfl

theorem opds_congr {xs : List Opd} (h : Agree fr fr' (opdsSlots xs)) : opds fr xs = opds fr' xs := by
  unfold opds
  refine List.map_congr_left fun x hx => opd_congr fun s hs => h s ?_
  exact List.mem_flatMap.2 ⟨x, hx, hs⟩

theorem evParts_congr {ps : List (Nat × Nat × Opd)} (h : Agree fr fr' (partSlots ps)) : evParts fr ps = evParts fr' ps := by
  unfold evParts
  refine List.map_congr_left fun p hp => ?_
  rw [opd_congr fun s hs => h s (List.mem_flatMap.2 ⟨p, hp, hs⟩)]

theorem optInt_congr {o : Option Opd} {d : Int} (h : Agree fr fr' (optSlots o)) : optInt fr o d = optInt fr' o d := by
  cases o with
  | none => rfl
  | some x => simp only [optInt]; rw [opd_congr (x := x) h]

theorem POp.ev_congr {o : POp} (h : Agree fr fr' o.slots) : o.ev fr = o.ev fr' := by
  cases o <;> simp only [POp.slots] at h
  case mv x => simp only [POp.ev, opd_congr h]
  case pick c a b => simp only [POp.ev, opd_congr h.left.left, opd_congr h.left.right, opd_congr h.right]
  case bin op x y => simp only [POp.ev, opd_congr h.left, opd_congr h.right]
  case un op x => simp only [POp.ev, opd_congr h]
  case conv k x => simp only [POp.ev, opd_congr h]
  case i2s x => simp only [POp.ev, opd_congr h]
  case build z ps => simp only [POp.ev, evParts_congr h]
  case nilck x => simp only [POp.ev, opd_congr h]
  case slS x lo hi => simp only [POp.ev, opd_congr h.left.left, optInt_congr h.left.right, optInt_congr h.right]
  case sl e x lo hi mx => simp only [POp.ev, opd_congr h.left.left.left, optInt_congr h.left.left.right, optInt_congr h.left.right, optInt_congr h.right]
  case faddr o x => simp only [POp.ev, opd_congr h]
  case fld o n x => simp only [POp.ev, opd_congr h]
  case iaddr e x i => simp only [POp.ev, opd_congr h.left, opd_congr h.right]
  case iaddrA n e x i => simp only [POp.ev, opd_congr h.left, opd_congr h.right]
  case idxS x i => simp only [POp.ev, opd_congr h.left, opd_congr h.right]
  case idxA n e k x i => simp only [POp.ev, opd_congr h.left, opd_congr h.right]
  case ext i x => simp only [POp.ev, opd_congr h]
  case len x => simp only [POp.ev, opd_congr h]
  case slen x => simp only [POp.ev, opd_congr h]
  case mm b xs => simp only [POp.ev, opds_congr h]
  case mkfn f a b => simp only [POp.ev, opds_congr h.left, opds_congr h.right]
  case mkif t x => simp only [POp.ev, opd_congr h]
  case eqA n ks x y => simp only [POp.ev, opd_congr h.left, opd_congr h.right]
  case eqk n k x y => simp only [POp.ev, opd_congr h.left, opd_congr h.right]

theorem ROp.ev_congr {o : ROp} {m : Mem} (h : Agree fr fr' o.slots) : o.ev fr m = o.ev fr' m := by
  cases o <;> simp only [ROp.slots] at h
  case load n x => cases n <;> simp only [ROp.ev, opd_congr h]
  case b2s x => simp only [ROp.ev, opd_congr h]
  case r2s x => simp only [ROp.ev, opd_congr h]
  case maplen x => simp only [ROp.ev, opd_congr h]
  case lookup kk z ok x k => simp only [ROp.ev, opd_congr h.left, opd_congr h.right]

theorem EOp.ev_congr {o : EOp} {call : CallF} {yld : YieldF} {m : Mem} (h : Agree fr fr' o.slots) : o.ev call yld fr m = o.ev call yld fr' m := by
  cases o <;> simp only [EOp.slots] at h
  case newL t z => rfl
  case newH z => rfl
  case boxL t n x => simp only [EOp.ev, opd_congr h]
  case boxH n x => simp only [EOp.ev, opd_congr h]
  case litL t n e z ps => simp only [EOp.ev, evParts_congr h]
  case litH n e z ps => simp only [EOp.ev, evParts_congr h]
  case store n a x => simp only [EOp.ev, opd_congr h.left, opd_congr h.right]
  case s2b x => simp only [EOp.ev, opd_congr h]
  case s2r x => simp only [EOp.ev, opd_congr h]
  case rngS t x => simp only [EOp.ev, opd_congr h]
  case nxtS x => simp only [EOp.ev, opd_congr h]
  case call f xs => simp only [EOp.ev, opds_congr h]
  case callv f xs => simp only [EOp.ev, opds_congr h.right, opd_congr h.left]
  case append e b x y => simp only [EOp.ev, opd_congr h.left, opd_congr h.right]
  case copy e x y => simp only [EOp.ev, opd_congr h.left, opd_congr h.right]
  case mks e b z l c => simp only [EOp.ev, opd_congr h.left, opd_congr h.right]
  case mkmap => rfl
  case mapup kk x k v => simp only [EOp.ev, opd_congr h.left.left, opd_congr h.left.right, opd_congr h.right]

theorem LInstr.ev_congr {i : LInstr} {call : CallF} {yld : YieldF} {m : Mem} (h : Agree fr fr' i.slots) : i.ev call yld fr m = i.ev call yld fr' m := by
  obtain ⟨d, op, gd⟩ := i
  unfold LInstr.slots at h
  cases op <;> simp only at h <;> simp only [LInstr.ev]
  · rw [POp.ev_congr h.left]
  · rw [ROp.ev_congr h.left]
  · rw [EOp.ev_congr h.left]

theorem wantedA_congr {i : LInstr} (h : Agree fr fr' i.slots) : wantedA fr i.guard = wantedA fr' i.guard := by
  obtain ⟨d, op, gd⟩ := i
  cases gd with
  | none => rfl
  | some p =>
    obtain ⟨s, b⟩ := p
    have : fget fr s = fget fr' s := h s (List.mem_append_right _ (by simp))
    simp only [wantedA, this]

theorem LInstr.step_congr {i : LInstr} {call : CallF} {yld : YieldF} {m : Mem} (h : Agree fr fr' i.slots) : i.step call yld fr m = i.step call yld fr' m := by
  unfold LInstr.step
  rw [wantedA_congr h, LInstr.ev_congr h]
end

/-- Two values that look the same are the same. -/
theorem bytes_beq {a b : ByteArray} (h : (a == b) = true) : a = b := by
  obtain ⟨a⟩ := a
  obtain ⟨b⟩ := b
  have : (a == b) = true := h
  simp at this
  rw [this]

theorem vsame0_eq {a b : Value} (h : vsame0 a b = true) : a = b := by
  unfold vsame0 at h
  split at h
  case h_3 => rw [bytes_beq h]
  all_goals simp_all

theorem vsameL_eq : ∀ {xs ys : List Value}, vsameL xs ys = true → xs = ys
  | [], [], _ => rfl
  | x :: xs, y :: ys, h => by
    simp only [vsameL, Bool.and_eq_true] at h
    rw [vsame0_eq h.1, vsameL_eq h.2]
  | [], _ :: _, h => by simp [vsameL] at h
  | _ :: _, [], h => by simp [vsameL] at h

theorem vsame_eq {a b : Value} (h : vsame a b = true) : a = b := by
  unfold vsame at h
  split at h
  · rename_i xs ys
    have := vsameL_eq h
    simp only [Array.toList_inj] at this
    rw [this]
  · rename_i f x y f' x' y'
    simp only [Bool.and_eq_true, decide_eq_true_eq] at h
    have h1 := vsameL_eq h.1.2
    have h2 := vsameL_eq h.2
    simp only [Array.toList_inj] at h1 h2
    rw [h.1.1, h1, h2]
  · exact vsame0_eq h

end Go.Proofs.Ytanpdopjgepbkaa.AM
