/- Spots of a text. -/
import Derived.Test.YtmfpkgcphlilmaaUtfM
set_option linter.unusedVariables false
set_option linter.unusedSimpArgs false
namespace Go.Proofs.Ytmfpkgcphlilmaa.AM
open Go

def spotsN : Nat → Bytes → List (Nat × Nat)
  | 0, _ => []
  | _ + 1, [] => []
  | k + 1, l => dec1 l :: spotsN k (l.drop (dec1 l).2)
/-- The spots: runes and widths. -/
def spots (l : Bytes) : List (Nat × Nat) := spotsN l.length l

theorem spotsN_more : ∀ (k : Nat) (l : Bytes), l.length ≤ k → spotsN k l = spotsN l.length l
  | 0, l, h => by
    have : l = [] := List.eq_nil_of_length_eq_zero (by omega)
    subst this; rfl
  | k + 1, [], _ => rfl
  | k + 1, a :: t, h => by
    have hw := dec_width (l := a :: t) (by simp)
    have hd : ((a :: t).drop (dec1 (a :: t)).2).length ≤ t.length := by rw [List.length_drop]; simp only [List.length_cons]; omega
    have hd2 : ((a :: t).drop (dec1 (a :: t)).2).length ≤ k := by simp only [List.length_cons] at h; omega
    simp only [spotsN, List.length_cons]
    rw [spotsN_more k _ hd2, spotsN_more t.length _ hd]
theorem spots_nil : spots [] = [] := rfl
theorem spots_cons {l : Bytes} (hl : l ≠ []) : spots l = dec1 l :: spots (l.drop (dec1 l).2) := by
  match l, hl with
  | a :: t, _ =>
    have hw := dec_width (l := a :: t) (by simp)
    have hd : ((a :: t).drop (dec1 (a :: t)).2).length ≤ t.length := by rw [List.length_drop]; simp only [List.length_cons]; omega
    unfold spots
    simp only [List.length_cons, spotsN]
    rw [spotsN_more _ _ hd]
theorem spots_enc {c : Nat} (hc : RuneN c) (rest : Bytes) : spots (encN c ++ rest) = (c, (encN c).length) :: spots rest := by
  have hl : encN c ++ rest ≠ [] := by
    have := (encN_len c).1
    intro h
    have h2 := congrArg List.length h
    simp only [List.length_append, List.length_nil] at h2
    omega
  rw [spots_cons hl, dec_enc hc]
  simp only [List.drop_left]

/-- Induction over the spots. -/
theorem spots_ind {p : Bytes → Prop} (h0 : p []) (hg : ∀ c rest, RuneN c → p rest → p (encN c ++ rest)) (hb : ∀ l, l ≠ [] → dec1 l = (0xFFFD, 1) → (∀ c rest, RuneN c → l ≠ encN c ++ rest) → p (l.drop 1) → p l) : ∀ l, p l := by
  intro l
  generalize hn : l.length = n
  induction n using Nat.strongRecOn generalizing l with
  | ind n ih =>
    rcases List.eq_nil_or_concat l with rfl | _
    · exact h0
    · by_cases hl : l = []
      · rw [hl]; exact h0
      · rcases dec_cases hl with ⟨c, rest, hc, rfl, _⟩ | ⟨hd, hno⟩
        · refine hg c rest hc (ih rest.length ?_ rest rfl)
          have := (encN_len c).1
          simp only [List.length_append] at hn
          omega
        · refine hb l hl hd hno (ih (l.drop 1).length ?_ _ rfl)
          have : 0 < l.length := List.length_pos_iff.2 hl
          rw [List.length_drop]; omega

theorem rune_bad : RuneN 0xFFFD := .inr ⟨by decide, by decide⟩
def encs (cs : List Nat) : Bytes := cs.flatMap encN
theorem encs_cons (c : Nat) (cs : List Nat) : encs (c :: cs) = encN c ++ encs cs := by simp [encs]
theorem encs_append (a b : List Nat) : encs (a ++ b) = encs a ++ encs b := by simp [encs]
/-- The runes of the spots. -/
def runesB (l : Bytes) : List Nat := (spots l).map (·.1)
theorem runesB_nil : runesB [] = [] := rfl
theorem runesB_enc {c : Nat} (hc : RuneN c) (rest : Bytes) : runesB (encN c ++ rest) = c :: runesB rest := by unfold runesB; rw [spots_enc hc]; rfl
theorem runesB_bad {l : Bytes} (hl : l ≠ []) (hd : dec1 l = (0xFFFD, 1)) : runesB l = 0xFFFD :: runesB (l.drop 1) := by unfold runesB; rw [spots_cons hl, hd]; rfl
theorem runesB_rune (l : Bytes) : ∀ c ∈ runesB l, RuneN c := by
  refine spots_ind (p := fun l => ∀ c ∈ runesB l, RuneN c) (by simp [runesB_nil]) (fun c rest hc ih => ?_) (fun l hl hd _ ih => ?_) l
  · rw [runesB_enc hc]
    intro x hx
    rcases List.mem_cons.1 hx with rfl | hx
    · exact hc
    · exact ih x hx
  · rw [runesB_bad hl hd]
    intro x hx
    rcases List.mem_cons.1 hx with rfl | hx
    · exact rune_bad
    · exact ih x hx
theorem spots_encs : ∀ {cs : List Nat}, (∀ c ∈ cs, RuneN c) → ∀ rest, spots (encs cs ++ rest) = cs.map (fun c => (c, (encN c).length)) ++ spots rest
  | [], _, _ => rfl
  | c :: cs, h, rest => by
    rw [encs_cons, List.append_assoc, spots_enc (h c (by simp)), spots_encs (fun x hx => h x (List.mem_cons_of_mem _ hx))]
    rfl
theorem runesB_encs {cs : List Nat} (h : ∀ c ∈ cs, RuneN c) (rest : Bytes) : runesB (encs cs ++ rest) = cs ++ runesB rest := by
  unfold runesB
  rw [spots_encs h, List.map_append, List.map_map]
  congr 1
  exact List.map_id' cs
/-- A byte that is none of a rune's. -/
def isBad2 (x : Nat × Nat) : Bool := x.1 == 0xFFFD && x.2 == 1
/-- No spot is bad. -/
def validB (l : Bytes) : Bool := (spots l).all fun x => !(x.1 == 0xFFFD && x.2 == 1)
theorem encN_bad : (encN 0xFFFD).length = 3 := by decide
theorem validB_enc {c : Nat} (hc : RuneN c) (rest : Bytes) : validB (encN c ++ rest) = validB rest := by
  unfold validB
  rw [spots_enc hc]
  simp only [List.all_cons]
  have : (!(c == 0xFFFD && (encN c).length == 1)) = true := by
    by_cases h : c = 0xFFFD
    · subst h; rw [encN_bad]; rfl
    · simp [h]
  rw [this, Bool.true_and]
theorem validB_bad {l : Bytes} (hl : l ≠ []) (hd : dec1 l = (0xFFFD, 1)) : validB l = false := by
  unfold validB
  rw [spots_cons hl, hd]
  rfl
/-- **A text is valid just if it is its runes' bytes.** -/
theorem valid_clean (l : Bytes) : validB l = true ↔ encs (runesB l) = l := by
  refine spots_ind (p := fun l => validB l = true ↔ encs (runesB l) = l) ⟨fun _ => rfl, fun _ => rfl⟩ (fun c rest hc ih => ?_) (fun l hl hd hno ih => ?_) l
  · rw [validB_enc hc, runesB_enc hc, encs_cons, ih]
    exact ⟨fun h => by rw [h], fun h => List.append_cancel_left h⟩
  · rw [validB_bad hl hd, runesB_bad hl hd, encs_cons]
    constructor
    · intro h; cases h
    · intro h; exact absurd h.symm (hno _ _ rune_bad)
theorem valid_encs {cs : List Nat} (h : ∀ c ∈ cs, RuneN c) : validB (encs cs) = true := by
  rw [valid_clean]
  have := runesB_encs h []
  rw [List.append_nil, runesB_nil, List.append_nil] at this
  rw [this]
theorem runesB_of_encs {cs : List Nat} (h : ∀ c ∈ cs, RuneN c) : runesB (encs cs) = cs := by
  have := runesB_encs h []
  rwa [List.append_nil, runesB_nil, List.append_nil] at this
theorem spots_sum (l : Bytes) : ((spots l).map (·.2)).sum = l.length := by
  refine spots_ind (p := fun l => ((spots l).map (·.2)).sum = l.length) rfl (fun c rest hc ih => ?_) (fun l hl hd hno ih => ?_) l
  · rw [spots_enc hc]; simp [ih]
  · rw [spots_cons hl, hd]
    have : 0 < l.length := List.length_pos_iff.2 hl
    simp only [List.map_cons, List.sum_cons, ih, List.length_drop]
    omega
theorem spots_len (l : Bytes) : (spots l).length ≤ l.length := by
  refine spots_ind (p := fun l => (spots l).length ≤ l.length) (Nat.le_refl _) (fun c rest hc ih => ?_) (fun l hl hd hno ih => ?_) l
  · rw [spots_enc hc]
    have := (encN_len c).1
    simp only [List.length_cons, List.length_append]
    omega
  · rw [spots_cons hl, hd]
    have : 0 < l.length := List.length_pos_iff.2 hl
    simp only [List.length_cons]
    rw [List.length_drop] at ih
    omega

end Go.Proofs.Ytmfpkgcphlilmaa.AM
