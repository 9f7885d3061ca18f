/- Plain law of texts: what is decoded, what is encoded; spots. -/
import GoSem.Core.Utf8
set_option linter.unusedVariables false
set_option linter.unusedSimpArgs false
namespace Go.Proofs.Ytmfpkgcphlilmaa.AM
open Go

abbrev Bytes := List UInt8

def bat (l : Bytes) (k : Nat) : Nat := (l.getD k 0).toNat
def bcont (l : Bytes) (k : Nat) : Bool := decide (k < l.length) && bat l k / 64 == 2

/-- What stands at the beginning: the rune and its width. -/
def dec1 (l : Bytes) : Nat × Nat :=
  if bat l 0 < 0x80 then (bat l 0, 1)
  else if bat l 0 / 32 == 6 && bcont l 1 then
    if (bat l 0 % 32) * 64 + bat l 1 % 64 ≥ 0x80 then ((bat l 0 % 32) * 64 + bat l 1 % 64, 2) else (0xFFFD, 1)
  else if bat l 0 / 16 == 14 && bcont l 1 && bcont l 2 then
    if (bat l 0 % 16) * 4096 + (bat l 1 % 64) * 64 + bat l 2 % 64 ≥ 0x800 && Utf8.valid ((bat l 0 % 16) * 4096 + (bat l 1 % 64) * 64 + bat l 2 % 64 : Nat) then ((bat l 0 % 16) * 4096 + (bat l 1 % 64) * 64 + bat l 2 % 64, 3) else (0xFFFD, 1)
  else if bat l 0 / 8 == 30 && bcont l 1 && bcont l 2 && bcont l 3 then
    if (bat l 0 % 8) * 262144 + (bat l 1 % 64) * 4096 + (bat l 2 % 64) * 64 + bat l 3 % 64 ≥ 0x10000 && Utf8.valid ((bat l 0 % 8) * 262144 + (bat l 1 % 64) * 4096 + (bat l 2 % 64) * 64 + bat l 3 % 64 : Nat) then
      ((bat l 0 % 8) * 262144 + (bat l 1 % 64) * 4096 + (bat l 2 % 64) * 64 + bat l 3 % 64, 4) else (0xFFFD, 1)
  else (0xFFFD, 1)

def RuneN (c : Nat) : Prop := c < 0xD800 ∨ (0xE000 ≤ c ∧ c ≤ 0x10FFFF)
theorem valid_iff (c : Nat) : Utf8.valid (c : Int) = true ↔ RuneN c := by
  unfold Utf8.valid RuneN
  simp only [Bool.or_eq_true, Bool.and_eq_true, decide_eq_true_eq]
  omega

/-- A rune's bytes. -/
def encN (c : Nat) : Bytes :=
  if c < 0x80 then [UInt8.ofNat c]
  else if c < 0x800 then [UInt8.ofNat (0xC0 + c / 64), UInt8.ofNat (0x80 + c % 64)]
  else if c < 0x10000 then [UInt8.ofNat (0xE0 + c / 4096), UInt8.ofNat (0x80 + c / 64 % 64), UInt8.ofNat (0x80 + c % 64)]
  else [UInt8.ofNat (0xF0 + c / 262144), UInt8.ofNat (0x80 + c / 4096 % 64), UInt8.ofNat (0x80 + c / 64 % 64), UInt8.ofNat (0x80 + c % 64)]

set_option maxRecDepth 100000 in
theorem encode_eq {c : Nat} (h : RuneN c) : (Utf8.encode (c : Int)).data.toList = encN c := by
  unfold Utf8.encode encN
  rw [if_pos ((valid_iff c).2 h)]
  simp only [Int.toNat_natCast]
  by_cases h1 : c < 0x80
  · rw [if_pos h1, if_pos h1]
  · rw [if_neg h1, if_neg h1]
    by_cases h2 : c < 0x800
    · rw [if_pos h2, if_pos h2]
    · rw [if_neg h2, if_neg h2]
      by_cases h3 : c < 0x10000
      · rw [if_pos h3, if_pos h3]
      · rw [if_neg h3, if_neg h3]

theorem bat_cons0 (a : UInt8) (l : Bytes) : bat (a :: l) 0 = a.toNat := rfl
theorem bat_cons1 (a b : UInt8) (l : Bytes) : bat (a :: b :: l) 1 = b.toNat := rfl
theorem bat_cons2 (a b c : UInt8) (l : Bytes) : bat (a :: b :: c :: l) 2 = c.toNat := rfl
theorem bat_cons3 (a b c d : UInt8) (l : Bytes) : bat (a :: b :: c :: d :: l) 3 = d.toNat := rfl
theorem of_small {n : Nat} (h : n < 256) : (UInt8.ofNat n).toNat = n := by
  rw [UInt8.toNat_ofNat']; exact Nat.mod_eq_of_lt h

/-- **A rune's bytes are read as the rune.** -/
theorem dec_enc {c : Nat} (h : RuneN c) (rest : Bytes) : dec1 (encN c ++ rest) = (c, (encN c).length) := by
  have hv := (valid_iff c).2 h
  have hle : c ≤ 0x10FFFF := by unfold RuneN at h; omega
  unfold encN
  split
  · rename_i h1
    simp only [List.cons_append, List.nil_append, dec1, bat_cons0, of_small (show c < 256 by omega), if_pos h1, List.length_cons, List.length_nil]
  · rename_i h1
    split
    · rename_i h2
      have a1 : 0xC0 + c / 64 < 256 := by omega
      have a2 : 0x80 + c % 64 < 256 := by omega
      have e : (0xC0 + c / 64) % 32 * 64 + (0x80 + c % 64) % 64 = c := by omega
      simp only [List.cons_append, List.nil_append, dec1, bcont, bat_cons0, bat_cons1, of_small a1, of_small a2, List.length_cons, e]
      rw [if_neg (by omega), if_pos (by simp; omega), if_pos (by omega)]
      rfl
    · rename_i h2
      split
      · rename_i h3
        have a1 : 0xE0 + c / 4096 < 256 := by omega
        have a2 : 0x80 + c / 64 % 64 < 256 := by omega
        have a3 : 0x80 + c % 64 < 256 := by omega
        have e : (0xE0 + c / 4096) % 16 * 4096 + (0x80 + c / 64 % 64) % 64 * 64 + (0x80 + c % 64) % 64 = c := by omega
        simp only [List.cons_append, List.nil_append, dec1, bcont, bat_cons0, bat_cons1, bat_cons2, of_small a1, of_small a2, of_small a3, List.length_cons, e, hv]
        rw [if_neg (by omega), if_neg (by simp; omega), if_pos (by simp; omega), if_pos (by simp; omega)]
        rfl
      · rename_i h3
        have a1 : 0xF0 + c / 262144 < 256 := by omega
        have a2 : 0x80 + c / 4096 % 64 < 256 := by omega
        have a3 : 0x80 + c / 64 % 64 < 256 := by omega
        have a4 : 0x80 + c % 64 < 256 := by omega
        have e : (0xF0 + c / 262144) % 8 * 262144 + (0x80 + c / 4096 % 64) % 64 * 4096 + (0x80 + c / 64 % 64) % 64 * 64 + (0x80 + c % 64) % 64 = c := by omega
        simp only [List.cons_append, List.nil_append, dec1, bcont, bat_cons0, bat_cons1, bat_cons2, bat_cons3, of_small a1, of_small a2, of_small a3, of_small a4, List.length_cons, e, hv]
        rw [if_neg (by omega), if_neg (by simp; omega), if_neg (by simp; omega), if_pos (by simp; omega), if_pos (by simp; omega)]
        rfl

theorem u8_eq {a : UInt8} {n : Nat} (h : a.toNat = n) : UInt8.ofNat n = a := by
  rw [← h]; exact UInt8.ofNat_toNat
theorem u8_lt (a : UInt8) : a.toNat < 256 := a.toNat_lt

/-- **What is read is a rune's bytes, or nothing begins there.** -/
theorem dec_cases {l : Bytes} (hl : l ≠ []) : (∃ c rest, RuneN c ∧ l = encN c ++ rest ∧ dec1 l = (c, (encN c).length)) ∨ (dec1 l = (0xFFFD, 1) ∧ ∀ c rest, RuneN c → l ≠ encN c ++ rest) := by
  have bad : dec1 l = (0xFFFD, 1) → (dec1 l = (0xFFFD, 1) ∧ ∀ c rest, RuneN c → l ≠ encN c ++ rest) := fun h => ⟨h, fun c rest hc e => by
    rw [e, dec_enc hc] at h
    injection h with h1 h2
    subst h1
    exact absurd h2 (by decide)⟩
  have good : ∀ c rest, RuneN c → l = encN c ++ rest → (∃ c rest, RuneN c ∧ l = encN c ++ rest ∧ dec1 l = (c, (encN c).length)) := fun c rest hc e => ⟨c, rest, hc, e, by rw [e]; exact dec_enc hc rest⟩
  match l, hl with
  | a :: t, _ =>
    have ha := u8_lt a
    by_cases h1 : a.toNat < 0x80
    · refine .inl (good a.toNat t (.inl (by omega)) ?_)
      unfold encN
      rw [if_pos h1, u8_eq rfl]; rfl
    by_cases h2 : (a.toNat / 32 == 6 && bcont (a :: t) 1) = true
    · have h2' := h2
      simp only [Bool.and_eq_true, beq_iff_eq, bcont, decide_eq_true_eq] at h2
      obtain ⟨g1, g2, g3⟩ := h2
      match t, g2, g3, h2' with
      | b :: t, _, g3, h2' =>
        rw [bat_cons1] at g3
        have hb := u8_lt b
        by_cases hc : (a.toNat % 32) * 64 + b.toNat % 64 ≥ 0x80
        · refine .inl (good ((a.toNat % 32) * 64 + b.toNat % 64) t (.inl (by omega)) ?_)
          unfold encN
          rw [if_neg (by omega), if_pos (by omega), u8_eq (a := a) (by omega), u8_eq (a := b) (by omega)]; rfl
        · refine .inr (bad ?_)
          unfold dec1
          rw [bat_cons0, if_neg h1, if_pos h2', bat_cons1, if_neg hc]
      | [], g2, _, _ => simp at g2
    by_cases h3 : (a.toNat / 16 == 14 && bcont (a :: t) 1 && bcont (a :: t) 2) = true
    · have h3' := h3
      simp only [Bool.and_eq_true, beq_iff_eq, bcont, decide_eq_true_eq] at h3
      obtain ⟨⟨g1, g2, g3⟩, g4, g5⟩ := h3
      match t, g2, g3, g4, g5, h2, h3' with
      | b :: c :: t, _, g3, _, g5, h2, h3' =>
        rw [bat_cons1] at g3
        rw [bat_cons2] at g5
        have hb := u8_lt b
        have hc := u8_lt c
        by_cases hd : ((a.toNat % 16) * 4096 + (b.toNat % 64) * 64 + c.toNat % 64 ≥ 0x800 && Utf8.valid ((a.toNat % 16) * 4096 + (b.toNat % 64) * 64 + c.toNat % 64 : Nat)) = true
        · simp only [Bool.and_eq_true, decide_eq_true_eq] at hd
          refine .inl (good ((a.toNat % 16) * 4096 + (b.toNat % 64) * 64 + c.toNat % 64) t ((valid_iff _).1 hd.2) ?_)
          unfold encN
          rw [if_neg (by omega), if_neg (by omega), if_pos (by omega), u8_eq (a := a) (by omega), u8_eq (a := b) (by omega), u8_eq (a := c) (by omega)]; rfl
        · refine .inr (bad ?_)
          unfold dec1
          rw [bat_cons0, if_neg h1, if_neg h2, if_pos h3', bat_cons1, bat_cons2, if_neg hd]
      | [b], _, _, g4, _, _, _ => simp at g4
      | [], g2, _, _, _, _, _ => simp at g2
    by_cases h4 : (a.toNat / 8 == 30 && bcont (a :: t) 1 && bcont (a :: t) 2 && bcont (a :: t) 3) = true
    · have h4' := h4
      simp only [Bool.and_eq_true, beq_iff_eq, bcont, decide_eq_true_eq] at h4
      obtain ⟨⟨⟨g1, g2, g3⟩, g4, g5⟩, g6, g7⟩ := h4
      match t, g2, g3, g4, g5, g6, g7, h2, h3, h4' with
      | b :: c :: d :: t, _, g3, _, g5, _, g7, h2, h3, h4' =>
        rw [bat_cons1] at g3
        rw [bat_cons2] at g5
        rw [bat_cons3] at g7
        have hb := u8_lt b
        have hc := u8_lt c
        have hdd := u8_lt d
        by_cases hd : ((a.toNat % 8) * 262144 + (b.toNat % 64) * 4096 + (c.toNat % 64) * 64 + d.toNat % 64 ≥ 0x10000 && Utf8.valid ((a.toNat % 8) * 262144 + (b.toNat % 64) * 4096 + (c.toNat % 64) * 64 + d.toNat % 64 : Nat)) = true
        · simp only [Bool.and_eq_true, decide_eq_true_eq] at hd
          refine .inl (good ((a.toNat % 8) * 262144 + (b.toNat % 64) * 4096 + (c.toNat % 64) * 64 + d.toNat % 64) t ((valid_iff _).1 hd.2) ?_)
          unfold encN
          rw [if_neg (by omega), if_neg (by omega), if_neg (by omega), u8_eq (a := a) (by omega), u8_eq (a := b) (by omega), u8_eq (a := c) (by omega), u8_eq (a := d) (by omega)]; rfl
        · refine .inr (bad ?_)
          unfold dec1
          rw [bat_cons0, if_neg h1, if_neg h2, if_neg h3, if_pos h4', bat_cons1, bat_cons2, bat_cons3, if_neg hd]
      | [b, c], _, _, _, _, g6, _, _, _, _ => simp at g6
      | [b], _, _, g4, _, _, _, _, _, _ => simp at g4
      | [], g2, _, _, _, _, _, _, _, _ => simp at g2
    · refine .inr (bad ?_)
      unfold dec1
      rw [bat_cons0, if_neg h1, if_neg h2, if_neg h3, if_neg h4]

theorem encN_len (c : Nat) : 1 ≤ (encN c).length ∧ (encN c).length ≤ 4 := by
  unfold encN
  split
  · simp
  · split
    · simp
    · split <;> simp
theorem dec_width {l : Bytes} (hl : l ≠ []) : 1 ≤ (dec1 l).2 ∧ (dec1 l).2 ≤ l.length := by
  rcases dec_cases hl with ⟨c, rest, hc, e, hd⟩ | ⟨hd, _⟩
  · rw [hd, e]
    have := encN_len c
    simp only [List.length_append]
    omega
  · rw [hd]
    have : 0 < l.length := List.length_pos_iff.2 hl
    simp only
    omega

/-- What the model decodes. -/
theorem decode_list (s : ByteArray) (i : Nat) (hi : i < s.size) : Utf8.decode s i = dec1 (s.data.toList.drop i) := by
  have hat : ∀ k, (s.get! (i + k)).toNat = bat (s.data.toList.drop i) k := fun k => by
    unfold bat
    rw [List.getD_eq_getElem?_getD, List.getElem?_drop]
    simp only [ByteArray.get!, Array.getElem?_toList]
    rw [getElem!_def]
    cases s.data[i + k]? <;> rfl
  have hct : ∀ k, (decide (i + k < s.size) && bat (s.data.toList.drop i) k / 64 == 2) = bcont (s.data.toList.drop i) k := fun k => by
    unfold bcont
    congr 1
    simp only [List.length_drop, Array.length_toList]
    exact decide_eq_decide.2 (by show i + k < s.data.size ↔ _; omega)
  unfold Utf8.decode dec1
  simp only [hat, hct, Utf8.runeError]

end Go.Proofs.Ytmfpkgcphlilmaa.AM
