/- Plain law of bootstrings: numbers by digits, places, both ways. -/
import Derived.Test.YtmfpkgcphlilmaaUtfS
set_option linter.unusedVariables false
set_option linter.unusedSimpArgs false
namespace Go.Proofs.Ytmfpkgcphlilmaa.AM
open Go

structure BP where
  base : Nat
  low : Nat
  high : Nat
  skew : Nat
  damp : Nat
  bias : Nat
  first : Nat

structure BP.Ok (p : BP) : Prop where
  b1 : 3 ≤ p.base
  b2 : p.base ≤ 36
  l1 : 1 ≤ p.low
  l2 : p.low ≤ p.high
  h1 : p.high + 2 ≤ p.base
  s1 : 1 ≤ p.skew
  s2 : p.skew ≤ 1000
  d1 : 2 ≤ p.damp
  d2 : p.damp ≤ 10000
  i1 : p.bias ≤ 1000
  f1 : 128 ≤ p.first
  f2 : RuneN p.first

/-! ### Numbers -/

def thr (p : BP) (bias k : Nat) : Nat := min (max (k * p.base - bias) p.low) p.high

theorem thr_bound {p : BP} (ok : p.Ok) (bias k : Nat) : 1 ≤ thr p bias k ∧ thr p bias k + 2 ≤ p.base := by
  have := ok.l1; have := ok.l2; have := ok.h1
  unfold thr
  omega

/-- A number's digits. -/
def wr (p : BP) (bias : Nat) : Nat → Nat → Nat → List Nat
  | 0, _, v => [v]
  | f + 1, k, v => if v < thr p bias k then [v] else (thr p bias k + (v - thr p bias k) % (p.base - thr p bias k)) :: wr p bias f (k + 1) ((v - thr p bias k) / (p.base - thr p bias k))
def digitsOf (p : BP) (bias v : Nat) : List Nat := wr p bias v 1 v

theorem next_lt {p : BP} (ok : p.Ok) {bias k v : Nat} (h : ¬ v < thr p bias k) : (v - thr p bias k) / (p.base - thr p bias k) < v := by
  have := thr_bound ok bias k
  have h2 : (v - thr p bias k) / (p.base - thr p bias k) ≤ v - thr p bias k := Nat.div_le_self _ _
  omega
/-- More fuel than the number changes nothing. -/
theorem wr_fuel {p : BP} (ok : p.Ok) (bias : Nat) : ∀ (f g k v : Nat), v ≤ f → v ≤ g → wr p bias f k v = wr p bias g k v
  | 0, 0, _, _, _, _ => rfl
  | 0, g + 1, k, v, h1, _ => by
    have := thr_bound ok bias k
    have hv : v < thr p bias k := by omega
    simp only [wr, if_pos hv]
  | f + 1, 0, k, v, _, h2 => by
    have := thr_bound ok bias k
    have hv : v < thr p bias k := by omega
    simp only [wr, if_pos hv]
  | f + 1, g + 1, k, v, h1, h2 => by
    simp only [wr]
    by_cases hv : v < thr p bias k
    · rw [if_pos hv, if_pos hv]
    · have := next_lt ok hv
      rw [if_neg hv, if_neg hv, wr_fuel ok bias f g _ _ (by omega) (by omega)]

def wrd (p : BP) (bias k v : Nat) : List Nat := wr p bias v k v
theorem wrd_lt {p : BP} (ok : p.Ok) {bias k v : Nat} (h : v < thr p bias k) : wrd p bias k v = [v] := by
  unfold wrd
  cases v with
  | zero => rfl
  | succ n => simp only [wr, if_pos h]
theorem wrd_ge {p : BP} (ok : p.Ok) {bias k v : Nat} (h : ¬ v < thr p bias k) :
    wrd p bias k v = (thr p bias k + (v - thr p bias k) % (p.base - thr p bias k)) :: wrd p bias (k + 1) ((v - thr p bias k) / (p.base - thr p bias k)) := by
  have hn := next_lt ok h
  unfold wrd
  cases v with
  | zero => exact absurd hn (Nat.not_lt_zero _)
  | succ n =>
    simp only [wr, if_neg h]
    rw [wr_fuel ok bias n _ _ _ (by omega) (Nat.le_refl _)]
theorem wrd_digit {p : BP} (ok : p.Ok) (bias : Nat) : ∀ (n k v : Nat), v ≤ n → ∀ d ∈ wrd p bias k v, d < p.base
  | n, k, v, hn, d, hd => by
    have := thr_bound ok bias k
    by_cases hv : v < thr p bias k
    · rw [wrd_lt ok hv] at hd
      simp at hd
      omega
    · rw [wrd_ge ok hv] at hd
      have hm : (v - thr p bias k) % (p.base - thr p bias k) < p.base - thr p bias k := Nat.mod_lt _ (by omega)
      rcases List.mem_cons.1 hd with rfl | hd
      · omega
      · have := next_lt ok hv
        match n, hn with
        | 0, hn => omega
        | n + 1, hn => exact wrd_digit ok bias n _ _ (by omega) d hd
theorem wrd_ne {p : BP} (ok : p.Ok) (bias k v : Nat) : wrd p bias k v ≠ [] := by
  by_cases hv : v < thr p bias k
  · rw [wrd_lt ok hv]; simp
  · rw [wrd_ge ok hv]; simp

/-- A digit's letter, a letter's digit. -/
def digC (d : Nat) : UInt8 := if d < 26 then UInt8.ofNat (97 + d) else UInt8.ofNat (48 + (d - 26))
def digV (base : Nat) (c : UInt8) : Option Nat :=
  if 97 ≤ c.toNat ∧ c.toNat ≤ 122 ∧ c.toNat - 97 < base then some (c.toNat - 97)
  else if 48 ≤ c.toNat ∧ c.toNat ≤ 57 ∧ c.toNat - 48 + 26 < base then some (c.toNat - 48 + 26) else none
theorem digC_nat {d : Nat} (h : d < 36) : (digC d).toNat = if d < 26 then 97 + d else 48 + (d - 26) := by
  unfold digC
  split <;> rw [of_small (by omega)]
theorem digV_digC {base d : Nat} (hb : base ≤ 36) (hd : d < base) : digV base (digC d) = some d := by
  have := digC_nat (d := d) (by omega)
  unfold digV
  rw [this]
  by_cases h : d < 26
  · rw [if_pos h, if_pos (by omega)]; congr 1; omega
  · rw [if_neg h, if_neg (by omega), if_pos (by omega)]; congr 1; omega
theorem digV_some {base : Nat} {c : UInt8} {d : Nat} (hb : base ≤ 36) (h : digV base c = some d) : d < base ∧ c = digC d := by
  have hc := u8_lt c
  unfold digV at h
  split at h
  · rename_i g
    injection h with h
    refine ⟨by omega, ?_⟩
    unfold digC
    rw [if_pos (by omega)]
    exact (u8_eq (by omega)).symm
  · split at h
    · rename_i g1 g
      injection h with h
      refine ⟨by omega, ?_⟩
      unfold digC
      rw [if_neg (by omega)]
      exact (u8_eq (by omega)).symm
    · cases h

inductive RdR where
  | ok (v fin : Nat)
  | bad (pos why : Nat)

/-- A number is read. n, j: the last rune, behind its place; cnt: runes that are laid down. -/
def rdB (p : BP) (bias n j cnt : Nat) : Nat → Nat → Nat → Nat → Bytes → RdR
  | _, _, _, pos, [] => .bad pos 21
  | k, w, acc, pos, c :: r => match digV p.base c with
    | none => .bad pos 50
    | some d => if 0x10ffff < n + (j + (acc + d * w)) / (cnt + 1) then .bad pos 51
      else if d < thr p bias k then .ok (acc + d * w) (pos + 1) else rdB p bias n j cnt (k + 1) (w * (p.base - thr p bias k)) (acc + d * w) (pos + 1) r

theorem over_mono {n j cnt a b : Nat} (h : a ≤ b) (ho : ¬ 0x10ffff < n + (j + b) / (cnt + 1)) : ¬ 0x10ffff < n + (j + a) / (cnt + 1) := by
  have : (j + a) / (cnt + 1) ≤ (j + b) / (cnt + 1) := Nat.div_le_div_right (by omega)
  omega

/-- **What is written is read.** -/
theorem rd_wr {p : BP} (ok : p.Ok) {bias n j cnt : Nat} (rest : Bytes) : ∀ (N k v w acc pos : Nat), v ≤ N → ¬ 0x10ffff < n + (j + (acc + v * w)) / (cnt + 1) →
    rdB p bias n j cnt k w acc pos ((wrd p bias k v).map digC ++ rest) = .ok (acc + v * w) (pos + (wrd p bias k v).length)
  | N, k, v, w, acc, pos, hN, ho => by
    have ht := thr_bound ok bias k
    have hb2 := ok.b2
    by_cases hv : v < thr p bias k
    · rw [wrd_lt ok hv]
      simp only [List.map_cons, List.map_nil, List.cons_append, List.nil_append, rdB, digV_digC hb2 (show v < p.base by omega), if_neg ho, if_pos hv, List.length_cons, List.length_nil]
    · have hn := next_lt ok hv
      have hm : (v - thr p bias k) % (p.base - thr p bias k) < p.base - thr p bias k := Nat.mod_lt _ (by omega)
      have hdm := Nat.div_add_mod (v - thr p bias k) (p.base - thr p bias k)
      rw [wrd_ge ok hv]
      generalize hT : thr p bias k = t at *
      generalize hB : p.base - t = B at *
      generalize (v - t) % B = m at *
      generalize (v - t) / B = q at *
      have hval : acc + (t + m) * w + q * (w * B) = acc + v * w := by
        have : v = t + m + B * q := by omega
        have h2 : q * (w * B) = B * q * w := by rw [Nat.mul_comm B q, Nat.mul_assoc, Nat.mul_comm B w]
        rw [this, h2, Nat.add_mul (t + m) (B * q) w]
        omega
      have ho1 : ¬ 0x10ffff < n + (j + (acc + (t + m) * w)) / (cnt + 1) := over_mono (b := acc + v * w) (by omega) ho
      simp only [List.map_cons, List.cons_append, rdB, digV_digC hb2 (show t + m < p.base by omega), if_neg ho1, hT, hB, if_neg (show ¬ t + m < t by omega), List.length_cons]
      match N, hN with
      | 0, hN => omega
      | N + 1, hN =>
        have ih := rd_wr ok (bias := bias) rest N (k + 1) q (w * B) (acc + (t + m) * w) (pos + 1) (by omega) (by rw [hval]; exact ho)
        rw [hval] at ih
        rw [ih]
        congr 1
        omega

/-- **What is read is written so, and no other.** -/
theorem wr_rd {p : BP} (ok : p.Ok) {bias n j cnt : Nat} : ∀ (l : Bytes) (k w acc pos v fin : Nat), rdB p bias n j cnt k w acc pos l = .ok v fin →
    ∃ u rest, v = acc + u * w ∧ l = (wrd p bias k u).map digC ++ rest ∧ fin = pos + (wrd p bias k u).length ∧ ¬ 0x10ffff < n + (j + v) / (cnt + 1)
  | [], k, w, acc, pos, v, fin, h => by simp [rdB] at h
  | c :: r, k, w, acc, pos, v, fin, h => by
    have ht := thr_bound ok bias k
    have hb2 := ok.b2
    unfold rdB at h
    split at h
    · cases h
    · rename_i d hd
      obtain ⟨hdl, rfl⟩ := digV_some hb2 hd
      split at h
      · cases h
      · rename_i ho
        split at h
        · rename_i hdt
          injection h with h1 h2
          refine ⟨d, r, h1.symm, ?_, ?_, by rw [← h1]; exact ho⟩
          · rw [wrd_lt ok hdt]; rfl
          · rw [wrd_lt ok hdt, ← h2]; rfl
        · rename_i hdt
          obtain ⟨u, rest, e1, e2, e3, e4⟩ := wr_rd ok r _ _ _ _ _ _ h
          have hge : ¬ d + u * (p.base - thr p bias k) < thr p bias k := by omega
          have hB : 0 < p.base - thr p bias k := by omega
          have hq : (d + u * (p.base - thr p bias k) - thr p bias k) / (p.base - thr p bias k) = u := by
            rw [show d + u * (p.base - thr p bias k) - thr p bias k = (d - thr p bias k) + u * (p.base - thr p bias k) by omega, Nat.add_mul_div_right _ _ hB, Nat.div_eq_of_lt (by omega)]
            omega
          have hm : (d + u * (p.base - thr p bias k) - thr p bias k) % (p.base - thr p bias k) = d - thr p bias k := by
            rw [show d + u * (p.base - thr p bias k) - thr p bias k = (d - thr p bias k) + u * (p.base - thr p bias k) by omega, Nat.add_mul_mod_self_right, Nat.mod_eq_of_lt (by omega)]
          have hw : wrd p bias k (d + u * (p.base - thr p bias k)) = d :: wrd p bias (k + 1) u := by
            rw [wrd_ge ok hge, hq, hm]
            congr 1
            omega
          refine ⟨d + u * (p.base - thr p bias k), rest, ?_, ?_, ?_, e4⟩
          · rw [e1, Nat.add_mul, Nat.mul_comm w, Nat.mul_assoc]
            omega
          · rw [hw, e2]; rfl
          · rw [hw, e3]; simp only [List.length_cons]; omega

/-! ### The bias -/

def adL (span lim : Nat) : Nat → Nat → Nat → Nat × Nat
  | 0, m, v => (m, v)
  | f + 1, m, v => if lim < v then adL span lim f (m + 1) (v / span) else (m, v)
def adapt (p : BP) (fst : Bool) (v cnt : Nat) : Nat :=
  let v1 := if fst then v / p.damp else v / 2
  let v2 := v1 + v1 / cnt
  let r := adL (p.base - p.low) ((p.base - p.low) * p.high / 2) v2 0 v2
  r.1 * p.base + (p.base - p.low + 1) * r.2 / (r.2 + p.skew)

theorem adL_fuel {span lim : Nat} (hs : 2 ≤ span) : ∀ (f g m v : Nat), v ≤ f → v ≤ g → adL span lim f m v = adL span lim g m v
  | 0, 0, _, _, _, _ => rfl
  | 0, g + 1, m, v, h, _ => by
    have : ¬ lim < v := by omega
    simp only [adL, if_neg this]
  | f + 1, 0, m, v, _, h => by
    have : ¬ lim < v := by omega
    simp only [adL, if_neg this]
  | f + 1, g + 1, m, v, h1, h2 => by
    simp only [adL]
    by_cases hl : lim < v
    · have : v / span < v := Nat.div_lt_self (by omega) (by omega)
      rw [if_pos hl, if_pos hl, adL_fuel hs f g _ _ (by omega) (by omega)]
    · rw [if_neg hl, if_neg hl]
theorem adL_step {span lim : Nat} (hs : 2 ≤ span) {m v : Nat} (h : lim < v) : adL span lim v m v = adL span lim (v / span) (m + 1) (v / span) := by
  have h2 : v / span < v := Nat.div_lt_self (by omega) (by omega)
  cases v with
  | zero => omega
  | succ n =>
    simp only [adL, if_pos h]
    exact adL_fuel hs _ _ _ _ (by omega) (Nat.le_refl _)
theorem adL_end {span lim : Nat} {m v : Nat} (h : ¬ lim < v) : adL span lim v m v = (m, v) := by
  cases v with
  | zero => rfl
  | succ n => simp only [adL, if_neg h]

end Go.Proofs.Ytmfpkgcphlilmaa.AM
