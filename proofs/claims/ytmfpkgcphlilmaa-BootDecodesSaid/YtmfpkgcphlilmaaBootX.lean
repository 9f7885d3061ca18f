/- Bootstrings: bounds; bytes as a text. -/
import Derived.Test.YtmfpkgcphlilmaaBootB
set_option linter.unusedVariables false
set_option linter.unusedSimpArgs false
namespace Go.Proofs.Ytmfpkgcphlilmaa.AM
open Go

theorem wrap_u64b {x : Int} (h1 : 0 ≤ x) (h2 : x < 18446744073709551616) : IntKind.u64.wrap x = x := by
  show (if (false && decide (x % 18446744073709551616 ≥ 9223372036854775808)) = true then x % 18446744073709551616 - 18446744073709551616 else x % 18446744073709551616) = x
  simp only [Bool.false_and, Bool.false_eq_true, if_false]
  omega
theorem shr_oneb {a : Int} (h : 0 ≤ a) : binA .shr (.int .u64 a) (.int .u64 1) = some (.int .u64 (a / 2)) := by
  have e : binA .shr (.int .u64 a) (.int .u64 1) = some (.int .u64 (a.fdiv 2)) := rfl
  rw [e, Int.fdiv_eq_ediv_of_nonneg _ (by decide)]

theorem wrap_u8 {x : Int} (h1 : 0 ≤ x) (h2 : x < 256) : IntKind.u8.wrap x = x := by
  show (if (false && decide (x % 256 ≥ 128)) = true then x % 256 - 256 else x % 256) = x
  simp only [Bool.false_and, Bool.false_eq_true, if_false]
  omega
attribute [push_cast] wrap_u8

theorem wrd_len {p : BP} (ok : p.Ok) (bias : Nat) : ∀ (n k v : Nat), v ≤ n → (wrd p bias k v).length ≤ v + 1
  | n, k, v, hn => by
    have := thr_bound ok bias k
    by_cases hv : v < thr p bias k
    · rw [wrd_lt ok hv]; simp
    · rw [wrd_ge ok hv]
      have h2 := next_lt ok hv
      match n, hn with
      | 0, hn => omega
      | n + 1, hn =>
        have := wrd_len ok bias n (k + 1) _ (show (v - thr p bias k) / (p.base - thr p bias k) ≤ n by omega)
        simp only [List.length_cons]
        omega
theorem adL_bound {span lim : Nat} (hs : 2 ≤ span) : ∀ (f m v : Nat), v ≤ f → (adL span lim f m v).2 ≤ lim ∧ (adL span lim f m v).1 ≤ m + v
  | 0, m, v, h => by simp only [adL]; omega
  | f + 1, m, v, h => by
    simp only [adL]
    by_cases hl : lim < v
    · have : v / span < v := Nat.div_lt_self (by omega) (by omega)
      have ih := adL_bound hs (lim := lim) f (m + 1) (v / span) (by omega)
      rw [if_pos hl]
      omega
    · rw [if_neg hl]; simp only; omega
theorem adapt_bound {p : BP} (ok : p.Ok) (fst : Bool) (v cnt : Nat) (hv : v < 10000000000) : adapt p fst v cnt < 100000000000000 := by
  have h1 := ok.b1; have h2 := ok.b2; have h3 := ok.l1; have h4 := ok.l2; have h5 := ok.h1; have h8 := ok.d1
  unfold adapt
  simp only
  obtain ⟨v1, e1⟩ : ∃ v1, v1 = if fst = true then v / p.damp else v / 2 := ⟨_, rfl⟩
  rw [← e1]
  have hv1 : v1 ≤ v := by
    rw [e1]
    split
    · exact Nat.div_le_self _ _
    · exact Nat.div_le_self _ _
  have hv2 : v1 + v1 / cnt ≤ 2 * v1 := by have := Nat.div_le_self v1 cnt; omega
  generalize v1 + v1 / cnt = v2 at hv2
  have hb := adL_bound (span := p.base - p.low) (lim := (p.base - p.low) * p.high / 2) (by omega) v2 0 v2 (Nat.le_refl _)
  generalize adL (p.base - p.low) ((p.base - p.low) * p.high / 2) v2 0 v2 = r at hb
  have hsh : (p.base - p.low) * p.high ≤ 36 * 36 := Nat.mul_le_mul (by omega) (by omega)
  have a1 : r.1 * p.base ≤ 20000000000 * 36 := Nat.mul_le_mul (by omega) h2
  have a2 : (p.base - p.low + 1) * r.2 / (r.2 + p.skew) ≤ (p.base - p.low + 1) * r.2 := Nat.div_le_self _ _
  have a3 : (p.base - p.low + 1) * r.2 ≤ 37 * 648 := Nat.mul_le_mul (by omega) (by omega)
  omega


def b2sP (m : Mem) (v : Value) : Option Value := (ROp.b2s (.c v)).ev [] m
theorem ev_b2sP {fr : Fr} {m : Mem} {x : Opd} : (ROp.b2s x).ev fr m = b2sP m (opd fr x) := rfl
theorem bytesOf_map : ∀ B : Bytes, bytesOf ((B.map byteV).flatten) = some B
  | [] => rfl
  | c :: r => by
    have ih := bytesOf_map r
    have e : ((c :: r).map byteV).flatten = .int .u8 c.toNat :: (r.map byteV).flatten := rfl
    rw [e]
    simp only [bytesOf, ih, Option.map_some, Int.toNat_natCast]
    rw [u8_eq rfl]
theorem b2s_own {h : AH} {lc : Lc} {s : Sl} {B : Bytes} (r : Own h 1 s (B.map byteV)) : b2sP ⟨lc, h⟩ (s.val 1) = some (.string ⟨B.toArray⟩) := by
  cases s with
  | nil =>
    have : B = [] := by have := r.1; simp [Sl.len] at this; exact List.eq_nil_of_length_eq_zero this.symm
    subst this
    rfl
  | «at» b o n =>
    have hl : n = B.length := by simpa [Sl.len] using r.1
    obtain ⟨pre, h3, h4⟩ := r.2.2
    have hf := flatten_len r.2.1
    rw [List.length_map, Nat.mul_one] at hf
    have e : Mem.rd ⟨lc, h⟩ ⟨b, o, none⟩ n = some (B.map byteV).flatten := by
      rw [rd_heap, h3]
      simp only [List.length_append, hf, h4]
      rw [if_pos (by omega), ← h4, List.drop_left, hl, ← hf, List.take_length]
    simp only [b2sP, ROp.ev, opd, Sl.val, e, bytesOf_map, Option.map_some]


end Go.Proofs.Ytmfpkgcphlilmaa.AM
