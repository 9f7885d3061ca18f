/- The ends of the library's Insert (printed by ins.py). -/
import Derived.Test.YtmfpkgcphlilmaaInsW
import Derived.Test.YtmfpkgcphlilmaaInsI
import Derived.Test.YtmfpkgcphlilmaaInsK
import Derived.Test.YtmfpkgcphlilmaaInsM
set_option linter.unusedVariables false
set_option linter.unusedSimpArgs false
namespace Go.Proofs.Ytmfpkgcphlilmaa.AM
open Go Go.Shelf Go.RowKit Go.Lib

theorem insC36 : InsC 36 8 where
  fn := ⟨Try.f36, Try.func36, by decide, rfl⟩
  nil := fun w base vb voff vc x hx hx1 => by
    have h := ins36_more w base 0 0 vb voff 1 vc [] [x] (by omega) (by omega) (by omega) (by omega) rfl rfl (fun _ => rfl) (fun a _ j v hj => by simp at hj) (fun j v hj => by
      match j, hj with
      | 0, hj => injection hj with hj; subst hj; exact hx) (fun v hv => by rw [List.mem_singleton.1 hv]; exact hx1)
    refine h.mono fun e w' he => ?_
    obtain ⟨rfl, rfl⟩ := he
    exact new_more (L := []) _ 3 (grownCap_ge _ _ _ _) (by simp [Builtin.zeroCells, Value.cells]; omega)
  ins := fun w b off c i vb voff vc L x cs t fz cv tv fv hb hL hL1 hi hc hs hz hv hx hx1 hzv hne hbig => by
    have cell : ∀ j, w.cell? ⟨b, j, none⟩ = cs[j]? := fun j => by simp only [World.cell?, hb, Option.isSome_none]; rfl
    have cellv : ∀ j, w.cell? ⟨vb, j, none⟩ = cv[j]? := fun j => by simp only [World.cell?, hv, Option.isSome_none]; rfl
    have fro : ∀ j, j < cs.size → w.frozen? ⟨b, j, none⟩ = false := fun j hj => by
      have := hz j hj
      simp only [World.frozen?, hb, Bool.and_eq_false_iff, decide_eq_false_iff_not]
      omega
    have frov : ∀ j, j < cv.size + 1 → w.frozen? ⟨vb, j, none⟩ = false := fun j hj => by
      have := hzv j hj
      simp only [World.frozen?, hv, Bool.and_eq_false_iff, decide_eq_false_iff_not]
      omega
    have hvx : ∀ (j : Nat) v, [x][j]? = some v → w.cell? ⟨vb, voff + j, none⟩ = some v := fun j v hj => by
      match j, hj with
      | 0, hj => injection hj with hj; subst hj; rw [cellv]; exact hx
    have hv1 : ∀ v ∈ [x], v.oneCell' = true := fun v hv => by rw [List.mem_singleton.1 hv]; exact hx1
    have hcs : ∀ (j : Nat) v, L[j]? = some v → w.cell? ⟨b, off + j, none⟩ = some v := fun j v hj => by rw [cell]; exact hL j v hj
    have hvo := (Array.getElem?_eq_some_iff.1 hx).1
    rcases Nat.lt_or_ge c (L.length + 1) with hlt | hge
    · rcases Nat.lt_or_ge i L.length with hi2 | hi2
      · refine (ins36_amid w b off L.length c i vb voff 1 vc L [x] (by omega) hi2 hc hlt hbig rfl rfl hcs hvx hv1 hL1).mono fun e w' he => ?_
        obtain ⟨rfl, rfl⟩ := he
        have hG := grownCap_ge w (L.length + 1) c 3
        refine .inr (new_mid _ 3 hi2 hG ?_ fun j hj => ?_)
        · unfold rowH36
          simp [Builtin.zeroCells, Value.cells]
          omega
        · unfold rowH36
          rw [Array.append_assoc, Array.getElem?_append_left (by simp; omega)]
          rw [List.getElem?_toArray, List.getElem?_take_of_lt hj]
      · obtain rfl : i = L.length := by omega
        refine (ins36_more w (some ⟨b, off, none⟩) L.length c vb voff 1 vc L [x] (by omega) hc hlt hbig rfl rfl (fun h => by cases h) (fun a ha j v hj => by
          injection ha with ha
          subst ha
          rw [Addr.add_lit]
          exact hcs j v hj) hvx hv1).mono fun e w' he => ?_
        obtain ⟨rfl, rfl⟩ := he
        exact .inr (new_more _ 3 (grownCap_ge _ _ _ _) (by simp [Builtin.zeroCells, Value.cells]; omega))
    · rcases Nat.lt_or_ge i L.length with hi2 | hi2
      · refine (ins36_mid w b off L.length c i vb voff 1 vc L [x] (by omega) hi2 hge (by omega) hne rfl rfl hcs (fun j hj => ?_) (fun j hj => fro _ (by omega)) hvx hv1 hL1 tv t cv.size cs.size ?_ ?_ (by omega) (frov _ (by omega)) (frov _ (by omega))).mono fun e w' he => ?_
        · rw [cell, Array.getElem?_eq_getElem (by omega)]; rfl
        · simp only [World.shape?, hv]
        · simp only [World.shape?, hb]
        · obtain ⟨rfl, rfl⟩ := he
          exact .inl (same_mid hb hL hi2 hge hs)
      · obtain rfl : i = L.length := by omega
        refine (ins36_last w b off L.length c vb voff 1 vc x rfl hge ?_ (fro _ (by omega)) (by rw [cellv]; exact hx) hx1).mono fun e w' he => ?_
        · rw [cell, Array.getElem?_eq_getElem (by omega)]; rfl
        · obtain ⟨rfl, rfl⟩ := he
          exact .inl (same_last hb hL hge hs)

end Go.Proofs.Ytmfpkgcphlilmaa.AM
