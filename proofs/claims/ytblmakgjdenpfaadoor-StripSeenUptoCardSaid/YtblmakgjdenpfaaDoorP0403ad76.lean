/- Parts of proofs: lemmas, joined. -/
import Derived.Test.YtblmakgjdenpfaaDoorP9fbc692d
set_option linter.unusedVariables false
set_option linter.unusedSimpArgs false
set_option linter.unusedSectionVars false
namespace Go.Proofs.YtblmakgjdenpfaaDoor.AM
open Go
variable {α : Type} [Inhabited α] {q : Pl} {enc : α → List Value} {val : α → Value} {cv : Value} {key : α → Int} {idx : α → Int}
def Bl (bs : Nat) : List (List α) → Prop
  | [] => True
  | A :: r => 0 < A.length ∧ A.length ≤ bs ∧ (r ≠ [] → A.length = bs) ∧ Bl bs r
theorem Bl.snoc {bs : Nat} : ∀ {L : List (List α)}, (∀ A ∈ L, A.length = bs) → 0 < bs → ∀ {R : List (List α)}, Bl bs R → Bl bs (L ++ R)
  | [], _, _, _, h => h
  | A :: r, h, hb, R, hR => by
    have h1 := h A (by simp)
    exact ⟨by omega, by omega, fun _ => h1, Bl.snoc (fun B hB => h B (List.mem_cons_of_mem _ hB)) hb hR⟩
end Go.Proofs.YtblmakgjdenpfaaDoor.AM
namespace Go.Proofs.YtblmakgjdenpfaaDoor.AM
open Go
section
variable {p : Prg} {fr : Fr} {lc : Lc} {h : AH} {Q : Post}
end
def plV : Option (Nat × Nat) → Value
  | some (a, b) => .tuple (List.toArray [.agg (List.toArray [.int .i64 a, .int .i64 b]), .bool true])
  | none => .tuple (List.toArray [.agg (List.toArray [.int .i64 0, .int .i64 0]), .bool false])
end Go.Proofs.YtblmakgjdenpfaaDoor.AM
namespace Go.Proofs.YtblmakgjdenpfaaDoor.AM
open Go
section
variable {p : Prg} {fr : Fr} {lc : Lc} {h : AH} {Q : Post}
theorem wp_spotsS {σ β : Type} {n : Nat} {keep : List Nat} {sts : List St} {b : LCode} (F : Nat → σ → Fr) (L : Nat → σ → Lc) (s : ByteArray) (l : Bytes) (J : Nat → σ → AH → Prop) (g : Nat → Nat × Nat → Option β) (st0 : σ) (hl : l = s.data.toList)
    (hf0 : AgF (F 0 st0) fr) (hk : ∀ i st, okS keep ((F i st).map (·.1)) n sts = true) (h0 : lc = L 0 st0) (hJ : J 0 st0 h)
    (more : ∀ i (hi : i < (spots l).length) st h, J i st h → (∀ w, g i (spots l)[i] = some w → scanL (spots l) g = some w) →
      WpS p keep sts (F i st) (L (posn l i) st) h (thenQ p b (loopQ (fun fr' lc' h' => g i (spots l)[i] = none ∧ ∃ st', AgF (F (i + 1) st') fr' ∧ lc' = L (posn l (i + 1)) st' ∧ J (i + 1) st' h') Q) .norm))
    (fin : ∀ st h, J (spots l).length st h → scanL (spots l) g = none → WpS p keep sts (F (spots l).length st) (L l.length st) h (thenQ p b (loopQ (fun _ _ _ => False) Q) .norm)) : Wp p (.loop (.seq (R n keep sts) b)) fr lc h Q := by
  refine wp_scanL (spots l) g (fun i fr lc' h => ∃ st, AgF (F i st) fr ∧ lc' = L (posn l i) st ∧ J i st h) ⟨st0, hf0, by rw [posn_zero]; exact h0, hJ⟩ ?_ ?_
  · rintro fr _ h ⟨st, ha, rfl, hj⟩ fn
    rw [posn_all]
    exact wp_seq (wp_RA ha (hk _ _) (fin st h hj fn))
  · rintro i hi fr _ h ⟨st, ha, rfl, hj⟩ hit
    refine wp_mono (wp_seq (wp_RA ha (hk _ _) (more i hi st h hj hit))) fun ex fr lc h hq => ?_
    have hq := hq.out
    cases ex with
    | norm => exact ⟨⟨hq.1, hq.2⟩⟩
    | exit j => exact ⟨hq⟩
    | ret => exact ⟨hq⟩
theorem wp_forS {σ α β : Type} {a : LCode} (F : Nat → σ → Fr) (L : Nat → σ → Lc) (l : List α) (J : Nat → σ → AH → Prop) (g : Nat → α → Option β) (st0 : σ) (h0 : fr = F 0 st0) (hc : lc = L 0 st0) (hJ : J 0 st0 h)
    (more : ∀ i (hi : i < l.length) st h, J i st h → (∀ w, g i l[i] = some w → scanL l g = some w) → Wp p a (F i st) (L i st) h (loopQ (fun fr' lc' h' => g i l[i] = none ∧ ∃ st', fr' = F (i + 1) st' ∧ lc' = L (i + 1) st' ∧ J (i + 1) st' h') Q))
    (fin : ∀ st h, J l.length st h → scanL l g = none → Wp p a (F l.length st) (L l.length st) h (loopQ (fun _ _ _ => False) Q)) : Wp p (.loop a) fr lc h Q := by
  refine wp_scanL l g (fun i fr lc' h => ∃ st, fr = F i st ∧ lc' = L i st ∧ J i st h) ⟨st0, h0, hc, hJ⟩ ?_ ?_
  · rintro _ _ h ⟨st, rfl, rfl, hj⟩ fn
    exact fin st h hj fn
  · rintro i hi _ _ h ⟨st, rfl, rfl, hj⟩ hit
    refine wp_mono (more i hi st h hj hit) fun ex fr lc h hq => ?_
    have hq := hq.out
    cases ex with
    | norm => exact ⟨⟨hq.1, hq.2⟩⟩
    | exit j => exact ⟨hq⟩
    | ret => exact ⟨hq⟩
end
theorem runesB_len (l : Bytes) : (runesB l).length = (spots l).length := by rw [runesB, List.length_map]
theorem encs_snoc (B : List Nat) (c : Nat) : encs (B ++ [c]) = encs B ++ encN c := by
  rw [encs_append]
  simp [encs]
theorem encs_lenle (L : List Nat) : (encs L).length ≤ 4 * L.length := by
  induction L with
  | nil => simp [encs]
  | cons c L ih =>
    have := (encN_len c).2
    rw [encs_cons, List.length_append, List.length_cons]
    omega
end Go.Proofs.YtblmakgjdenpfaaDoor.AM
namespace Go.Proofs.YtblmakgjdenpfaaDoor.AM
open Go
end Go.Proofs.YtblmakgjdenpfaaDoor.AM
namespace Go.Proofs.YtblmakgjdenpfaaDoor.AM
open Go
section
variable {cl : Nat → Int}
end
end Go.Proofs.YtblmakgjdenpfaaDoor.AM
namespace Go.Proofs.YtblmakgjdenpfaaDoor.AM
open Go
def sl3 (e : Nat) (v a b c : Value) : Option Value := (POp.sl e (.c v) (some (.c a)) (some (.c b)) (some (.c c))).ev []
theorem ev_sl3 {fr : Fr} {e : Nat} {x a b c : Opd} : (POp.sl e x (some a) (some b) (some c)).ev fr = sl3 e (opd fr x) (opd fr a) (opd fr b) (opd fr c) := rfl
attribute [push_cast] ev_sl3
end Go.Proofs.YtblmakgjdenpfaaDoor.AM
namespace Go.Proofs.YtblmakgjdenpfaaDoor.AM
open Go
theorem of_house {h : AH} {S : TS} (t : TabAt h S houseT) (u : U8T h) (hg : 2 ≤ h.n) : WpC PX 9 [.agg S.vs.toArray] h fun v h' => Kp h h' ∧ ∃ k B S, v = .tuple (List.toArray [.pointer (some ⟨k, 0, none⟩), .bool true, .bool true]) ∧ BookAt h' k B S houseT ∧ h.n ≤ B ∧ h.n ≤ k :=
  (of_spec t u hg).mono fun v h' ⟨k, q⟩ => ⟨k, by rwa [if_pos house_good] at q⟩
end Go.Proofs.YtblmakgjdenpfaaDoor.AM
namespace Go.Proofs.YtblmakgjdenpfaaDoor.AM
open Go
theorem good_check {T : Tab} (h : goodB T = true) : checkW T = none := by
  unfold goodB at h
  simp only [Bool.and_eq_true, Option.isNone_iff_eq_none] at h
  exact h.2
section
variable {cl : Nat → Int}
end
end Go.Proofs.YtblmakgjdenpfaaDoor.AM
namespace Go.Proofs.YtblmakgjdenpfaaDoor.AM
open Go
def withinI (n lo hi : Int) : Int := lo + n % (hi - lo + 1)
theorem within_range {n lo hi : Int} (h : lo ≤ hi) : lo ≤ withinI n lo hi ∧ withinI n lo hi ≤ hi := by
  unfold withinI
  have h1 := Int.emod_nonneg n (show hi - lo + 1 ≠ 0 by omega)
  have h2 := Int.emod_lt_of_pos n (show 0 < hi - lo + 1 by omega)
  omega
theorem within_eq (n lo hi : Int) (h1 : lo ≤ hi) (h2 : -1000000000 ≤ lo) (h3 : hi ≤ 1000000000) (h : AH) : callO PX 14 [.int .i64 n, .int .i64 lo, .int .i64 hi] h = some (.int .i64 (withinI n lo hi), h) := by
  have e := Int.tmod_eq_emod (a := n) (b := hi - lo + 1)
  have e1 := Int.emod_nonneg n (show hi - lo + 1 ≠ 0 by omega)
  have e2 := Int.emod_lt_of_pos n (show 0 < hi - lo + 1 by omega)
  have hd : ¬ 0 ≤ n → (hi - lo + 1) ∣ n → n % (hi - lo + 1) = 0 := fun _ q => Int.emod_eq_zero_of_dvd q
  have hz : ¬ 0 ≤ n → ¬ (hi - lo + 1) ∣ n → n % (hi - lo + 1) ≠ 0 := fun _ q z => q (Int.dvd_of_emod_eq_zero z)
  have ab : ((hi - lo + 1).natAbs : Int) = hi - lo + 1 := by omega
  unfold withinI
  generalize n % (hi - lo + 1) = u at *
  have key : (n.tmod (hi - lo + 1) = u) ∨ (n.tmod (hi - lo + 1) = u - (hi - lo + 1) ∧ u ≠ 0) := by
    rw [e]
    by_cases q : 0 ≤ n
    · left; rw [if_pos (.inl q)]; omega
    · by_cases d : (hi - lo + 1) ∣ n
      · left; rw [if_pos (.inr d)]; omega
      · right; rw [if_neg (by simp only [q, d, or_self, not_false_eq_true]), ab]; exact ⟨rfl, hz q d⟩
  clear e hd hz
  have hne : hi - lo + 1 ≠ 0 := by omega
  have hrem : binA .rem (.int .i64 n) (.int .i64 (hi - lo + 1)) = some (.int .i64 (n.tmod (hi - lo + 1))) := binA_remB hne
  apply WpC.eqn
  refine wpc_fn (px_ext rfl) (px_fn fn_guisebook_Within) rfl ?_
  unfold LF_guisebook_Within
  simp only [argFr]
  (refine W_x hrem ?_; (repeat' first | apply Cj.mk | exact Nl.nl) <;> intros)
  · refine ⟨?_, rfl⟩
    congr 1
    omega
  · refine ⟨?_, rfl⟩
    congr 1
    omega
end Go.Proofs.YtblmakgjdenpfaaDoor.AM
namespace Go.Proofs.YtblmakgjdenpfaaDoor.AM
open Go
structure Clu where
  b : Nat
  n : Nat
  t : ByteArray
  k : Nat
  m : Nat
  r : Nat
  bd : Bool
def Clu.z : Clu := ⟨0, 0, ⟨#[]⟩, 0, 0, 0, false⟩
def Clu.vs (c : Clu) : List Value := [.int .i64 c.b, .int .i64 c.n, .string c.t, .int .i64 c.k, .int .i64 c.m, .int .i32 c.r, .bool c.bd]
end Go.Proofs.YtblmakgjdenpfaaDoor.AM
namespace Go.Proofs.YtblmakgjdenpfaaDoor.AM
open Go
def LF_utf_spot : LFunc :=
  .mk 2 [.cell 4 (some 3)] (.seq (R 4 [0, 1, 4] [.tmp 4 (xnl 4 [.int .i32 0, .int .i64 0, .bool false])]) (.seq (R 5 [4] [.run (xst 3 (.sl 4) (.op (.p (.build [.int .i32 0, .int
  .i64 0, .bool false] [(0, 1, .s 0), (1, 1, .s 1), (2, 1, .s 2)])) (.cons (.va 0) (.cons (.va 1) (.and (xb .eql (.va 0) (xr 65533)) (xb .eql (.va 1) (xi 1)))))))]) .ret))
theorem fn_utf_spot : (autoPrg Tryd.prog).fn 45 = some LF_utf_spot := by kernel_rfl
end Go.Proofs.YtblmakgjdenpfaaDoor.AM
namespace Go.Proofs.YtblmakgjdenpfaaDoor.AM
open Go
theorem spot_eq (r n : Nat) (h : AH) : callO PX 45 [.int .i32 r, .int .i64 n] h = some (spotV (r, n), h) := by
  apply WpC.eqn
  refine wpc_fn (px_ext rfl) (px_fn fn_utf_spot) rfl ?_
  unfold LF_utf_spot
  simp only [argFr]
  (refine W_x trivial ?_; (repeat' first | apply Cj.mk | exact Nl.nl) <;> intros)
  all_goals
    refine ⟨?_, rfl⟩
    have hb : ∀ t : Bool, (t = true ↔ (r = 65533 ∧ n = 1)) → isBad2 (r, n) = t := fun t ht => by
      unfold isBad2
      rw [Bool.eq_iff_iff, ht]
      simp only [Bool.and_eq_true, beq_iff_eq]
    unfold spotV
    first
    | (have e : r = 65533 ∧ n = 1 := by omega
       rw [hb true (iff_of_true rfl e)]
       done)
    | (have e : ¬ (r = 65533 ∧ n = 1) := by omega
       rw [hb false (iff_of_false (by decide) e)]
       done)
end Go.Proofs.YtblmakgjdenpfaaDoor.AM
namespace Go.Proofs.YtblmakgjdenpfaaDoor.AM
open Go
end Go.Proofs.YtblmakgjdenpfaaDoor.AM
namespace Go.Proofs.YtblmakgjdenpfaaDoor.AM
open Go
structure CluD (p2 p3 k B : Nat) (s6 : Sl) (T : Tab) (s : ByteArray) (h : AH) : Prop where
  a : h.get p2 = some (.cells false [.pointer (some ⟨k, 0, none⟩)])
  b : h.get p3 = some (.cells false [.string s])
  bk : BkAt h k B s6 T
end Go.Proofs.YtblmakgjdenpfaaDoor.AM
namespace Go.Proofs.YtblmakgjdenpfaaDoor.AM
open Go
def LF_strings_Builder_WriteRune : LFunc :=
  .mk 2 [.tmp 4, .tmp 5] (.seq (R 999 [0, 1] [.set 4 (xi 0), .set 5 (.cv .nilIface)]) (.seq (R 7 [0, 1] [.tmp 8 (xc1 77 (.va 0))]) (.seq (R 9 [0, 1, 6]
  [.set 6 (xlen (xld (xfa 1 (xnk (.va 0)))))]) (.seq (R 14 [0, 6] [.tmp 14 (.va 0), .tmp 20 (xc2 78 (xld (xfa 1 (xnk (.va 0)))) (.va 1)), .run (xst 1 (xfa 1 (xnk
  (.sl 14))) (.sl 20))]) (.seq (R 23 [4, 5] [.set 4 (xb .sub (xlen (xld (xfa 1 (xnk (.va 0))))) (.va 6)), .set 5 (.cv .nilIface)]) .ret)))))
theorem fn_strings_Builder_WriteRune : (autoPrg Tryd.prog).fn 41 = some LF_strings_Builder_WriteRune := by kernel_rfl
def LF_utf8_AppendRune : LFunc :=
  .mk 2 [.tmp 4] (.seq (R 999 [0, 1] [.set 4 (.cv (.slice none 0 0))]) (.seq (.seq (R 5 [0, 1, 7] [.tmp 7 (xb .leq (xcn .u32 (.va 1)) (.cv (.int .u32 127)))]) (.cond (.s 7) (.seq (R
  8 [4] [.set 4 (.op (.e (.appendT 10 1 1 (.s 0) (.s 1))) (.cons (.va 0) (.op (.e (.litL 11 1 1 [.int .u8 0] [(0, 1, .s 0)])) (xcn .u8 (.va 1)))))]) .ret) .skip)) (.seq (R
  13 [4] [.set 4 (xc2 120 (.va 0) (.va 1))]) .ret)))
theorem fn_utf8_AppendRune : (autoPrg Tryd.prog).fn 78 = some LF_utf8_AppendRune := by kernel_rfl
def LF_utf8_appendRuneNonASCII : LFunc :=
  .mk 2 [.tmp 4] (.seq (R 999 [0, 1] [.set 4 (.cv (.slice none 0 0))]) (.seq (R 6 [0, 1, 5] [.set 5 (xcn .u32 (.va 1))]) (.block 0 (.seq (R 12 [0, 1, 5, 11] [.set 11 (xb .leq (.va
  5) (.cv (.int .u32 2047)))]) (.cond (.s 11) (.seq (R 14 [4] [.set 4 (.op (.e (.appendT 10 1 1 (.s 0) (.s 1))) (.cons (.va 0) (.op (.e (.litL 23 2 1 [.int .u8 0] [(0, 1,
  .s 0), (1, 1, .s 1)])) (.cons (xb .or (.cv (.int .u8 192)) (xcn .u8 (xb .shr (.va 1) (.cv (.int .u64 6))))) (xb .or (.cv (.int .u8 128)) (xb .and (xcn .u8 (.va 1)) (.cv (.int .u8
  63))))))))]) .ret) (.seq (.seq (R 26 [0, 1, 5, 25] [.set 25 (xb .lss (.va 5) (.cv (.int .u32 55296)))]) (.cond (.s 25) .skip (R 28 [0, 1, 5, 25] [.set 25 (.and (xb .lss (.cv (.int
  .u32 57343)) (.va 5)) (xb .leq (.va 5) (.cv (.int .u32 65535))))]))) (.cond (.s 25) (.seq (R 34 [4] [.set 4 (.op (.e (.appendT 10 1 1 (.s 0) (.s 1))) (.cons (.va 0) (.op
  (.e (.litL 48 3 1 [.int .u8 0] [(0, 1, .s 0), (1, 1, .s 1), (2, 1, .s 2)])) (.cons (xb .or (.cv (.int .u8 224)) (xcn .u8 (xb .shr (.va 1) (.cv (.int .u64 12))))) (.cons (xb .or
  (.cv (.int .u8 128)) (xb .and (xcn .u8 (xb .shr (.va 1) (.cv (.int .u64 6)))) (.cv (.int .u8 63)))) (xb .or (.cv (.int .u8 128)) (xb .and (xcn .u8 (.va 1)) (.cv (.int .u8
  63)))))))))]) .ret) (.seq (R 51 [0, 1, 50] [.set 50 (.and (xb .gtr (.va 5) (.cv (.int .u32 65535))) (xb .leq (.va 5) (.cv (.int .u32 1114111))))]) (.cond (.s 50) (.seq (R 57 [4]
  [.set 4 (.op (.e (.appendT 10 1 1 (.s 0) (.s 1))) (.cons (.va 0) (.op (.e (.litL 76 4 1 [.int .u8 0] [(0, 1, .s 0), (1, 1, .s 1), (2, 1, .s 2), (3, 1, .s 3)])) (.cons (xb
  .or (.cv (.int .u8 240)) (xcn .u8 (xb .shr (.va 1) (.cv (.int .u64 18))))) (.cons (xb .or (.cv (.int .u8 128)) (xb .and (xcn .u8 (xb .shr (.va 1) (.cv (.int .u64 12)))) (.cv (.int
  .u8 63)))) (.cons (xb .or (.cv (.int .u8 128)) (xb .and (xcn .u8 (xb .shr (.va 1) (.cv (.int .u64 6)))) (.cv (.int .u8 63)))) (xb .or (.cv (.int .u8 128)) (xb .and (xcn .u8 (.va
  1)) (.cv (.int .u8 63))))))))))]) .ret) (.seq (R 8 [4] [.set 4 (.op (.e (.appendT 10 1 1 (.s 0) (.s 1))) (.cons (.va 0) (.op (.e (.litL 9 3 1 [.int .u8 0] [(0, 1, .s 0),
  (1, 1, .s 1), (2, 1, .s 2)])) (.cons (.cv (.int .u8 239)) (.cons (.cv (.int .u8 191)) (.cv (.int .u8 189)))))))]) .ret))))))))))
theorem fn_utf8_appendRuneNonASCII : (autoPrg Tryd.prog).fn 120 = some LF_utf8_appendRuneNonASCII := by kernel_rfl
end Go.Proofs.YtblmakgjdenpfaaDoor.AM
namespace Go.Proofs.YtblmakgjdenpfaaDoor.AM
open Go
theorem ev_newT {c : CallF} {y : YieldF} {fr : Fr} {lc : Lc} {h : AH} {t : Nat} {z : List Value} : (EOp.newT t z).ev c y fr ⟨lc, h⟩ = some (.pointer (some ⟨h.n, 0, none⟩), ⟨lc, h.push (.tc t z)⟩) := rfl
attribute [push_cast] ev_newT
def bufS (g : Option Nat) (n : Nat) : Sl := match g with
  | none => .nil
  | some g => .at g 0 n
def BufAt (h : AH) (g : Option Nat) (X : Bytes) : Prop := match g with
  | none => X = []
  | some g => X ≠ [] ∧ h.get g = some (.tc 10 (bytesV X))
structure BldAt (h : AH) (b : Nat) (g : Option Nat) (X : Bytes) : Prop where
  p : ∃ p, h.get b = some (.tc 169 [p, (bufS g X.length).val 1]) ∧ (p = .pointer none ∨ p = .pointer (some ⟨b, 0, none⟩))
  u : BufAt h g X
  ne : g ≠ some b
structure BFr (h h' : AH) (b : Nat) (g g' : Option Nat) : Prop where
  n : h.n ≤ h'.n
  keep : ∀ c, c < h.n → c ≠ b → g ≠ some c → h'.get c = h.get c
  new : g' = g ∨ ∃ x, g' = some x ∧ h.n ≤ x
def killO (h : AH) : Option Nat → AH
  | none => h
  | some g => h.kill g
theorem killO_n (h : AH) (g : Option Nat) : (killO h g).n = h.n := by cases g <;> rfl
theorem killO_get {h : AH} {g : Option Nat} {c : Nat} (hc : g ≠ some c) : (killO h g).get c = h.get c := by
  cases g with
  | none => rfl
  | some g => exact AH.get_kill_ne (fun e => hc (by rw [e]))
theorem bytesV_app (X Y : Bytes) : bytesV (X ++ Y) = bytesV X ++ bytesV Y := by simp [bytesV]
theorem bytesV_len (X : Bytes) : (bytesV X).length = X.length := by simp [bytesV]
theorem app_buf {h : AH} {lc : Lc} {g : Option Nat} {X Y : Bytes} {y : Value} {k : Nat} (hb : BufAt h g X) (hk : lenV y = some k) (hy : rdSlice ⟨lc, h⟩ 1 y = some (bytesV Y)) (hl : Y.length = k) (h0 : 0 < k) (hn : X.length + k ≤ 140737488355328) :
    appendG (some 10) 1 1 ⟨lc, h⟩ ((bufS g X.length).val 1) y = some (.slice (some ⟨h.n, 0, none⟩) (X.length + k) 1, ⟨lc, (killO h g).push (.tc 10 (bytesV (X ++ Y)))⟩) := by
  have hlen : (bytesV Y).length = k * 1 := by rw [bytesV_len, hl, Nat.mul_one]
  cases g with
  | none =>
    have hX : X = [] := hb
    subst hX
    simp only [List.length_nil, Nat.zero_add] at hn
    simp only [bufS, Sl.val, appendG, hk, hy, hlen, if_true, AObj.mk, killO, List.nil_append, List.length_nil, Nat.zero_add]
    rw [if_neg (by omega), if_pos ⟨by omega, by decide, by decide⟩]
  | some g =>
    obtain ⟨hX, hg⟩ := hb
    simp only [bufS, Sl.val, appendG, hk, hy, hlen, if_true, AObj.mk, killO]
    rw [if_neg (by omega)]
    simp only [hg, AObj.own, if_true]
    rw [if_pos ⟨by rw [bytesV_len]; omega, by omega, by decide, by decide, trivial⟩, bytesV_app]
    rfl
section
variable {p : Prg} {lc : Lc} {h : AH} {H : Value → Lc → AH → Prop}
theorem wo_appB {g : Option Nat} {X Y : Bytes} {b k : Nat} {cs : List Value} (hb : BufAt h g X) (hl : lget lc b = some (.cells false cs)) (hc : cs = bytesV Y) (hk : Y.length = k) (h0 : 0 < k) (hn : X.length + k ≤ 140737488355328)
    (hq : H (.slice (some ⟨h.n, 0, none⟩) (X.length + k) 1) lc ((killO h g).push (.tc 10 (bytesV (X ++ Y))))) : WpO p (.e (.appendT 10 1 1 (.s 0) (.s 1))) [(bufS g X.length).val 1, .slice (some ⟨b, 0, some 1⟩) k 1] lc h H := by
  refine wo_e (v := .slice (some ⟨h.n, 0, none⟩) (X.length + k) 1) (lc' := lc) ?_ hq
  simp only [EOp.ev, opd_s, fg0, fg1]
  refine app_buf hb rfl ?_ hk h0 hn
  subst hc
  simp only [rdSlice, rd_loc, hl, Nat.mul_one]
  rw [if_neg (by omega), if_pos (by rw [bytesV_len]; omega), List.drop_zero, List.take_of_length_le (by rw [bytesV_len]; omega)]
end
theorem copyCheck_spec {h : AH} {b : Nat} {g : Option Nat} {X : Bytes} (bd : BldAt h b g X) :
    ∃ h1, callO PX 77 [.pointer (some ⟨b, 0, none⟩)] h = some (.tuple #[], h1) ∧ h1.n = h.n ∧ (∀ c, c ≠ b → h1.get c = h.get c) ∧ h1.get b = some (.tc 169 [.pointer (some ⟨b, 0, none⟩), (bufS g X.length).val 1]) := by
  obtain ⟨p, hp, hor⟩ := bd.p
  rw [callO_ext (g := cpyX 84) (by unfold PX; rw [withExt_ext]; rfl)]
  unfold cpyX
  rcases hor with rfl | rfl
  · refine ⟨h.set b (.tc 169 [.pointer (some ⟨b, 0, none⟩), (bufS g X.length).val 1]), ?_, rfl, fun c hc => AH.get_set_ne _ hc, AH.get_set_same _ (AH.get_lt hp)⟩
    simp only [hp]
    rfl
  · refine ⟨h, ?_, rfl, fun c _ => rfl, hp⟩
    simp only [hp]
    simp
theorem bldString_spec {h : AH} {b : Nat} {g : Option Nat} {X : Bytes} (bd : BldAt h b g X) (hX : X.length ≤ 140737488355328) :
    callO PX 42 [.pointer (some ⟨b, 0, none⟩)] h = some (.string (bs X), killO h g) := by
  obtain ⟨p, hp, hor⟩ := bd.p
  rw [callO_ext (g := strX 84 5) (by unfold PX; rw [withExt_ext]; rfl)]
  unfold strX
  simp only [hp]
  cases g with
  | none =>
    have : X = [] := bd.u
    subst this
    rfl
  | some g =>
    obtain ⟨h1, h2⟩ := bd.u
    have hpos : 0 < X.length := List.length_pos_iff.2 h1
    simp only [bufS, Sl.val, h2, bytesX_bytesV, if_true]
    rw [if_pos ⟨trivial, trivial, hpos, hX⟩]
    rfl
end Go.Proofs.YtblmakgjdenpfaaDoor.AM
namespace Go.Proofs.YtblmakgjdenpfaaDoor.AM
open Go
theorem u8_fin : (∀ m : Fin 64, IntKind.u8.wrap ((BitVec.ofInt 8 128 ||| BitVec.ofInt 8 ((m.val : Nat) : Int)).toNat : Int) = ((128 + m.val : Nat) : Int)) ∧ (∀ m : Fin 32, IntKind.u8.wrap ((BitVec.ofInt 8 192 ||| BitVec.ofInt 8 ((m.val : Nat) : Int)).toNat : Int) = ((192 + m.val : Nat) : Int)) ∧
    (∀ m : Fin 16, IntKind.u8.wrap ((BitVec.ofInt 8 224 ||| BitVec.ofInt 8 ((m.val : Nat) : Int)).toNat : Int) = ((224 + m.val : Nat) : Int)) ∧ (∀ m : Fin 8, IntKind.u8.wrap ((BitVec.ofInt 8 240 ||| BitVec.ofInt 8 ((m.val : Nat) : Int)).toNat : Int) = ((240 + m.val : Nat) : Int)) := by
  decide
set_option maxRecDepth 10000 in
theorem u8_and : ∀ m : Fin 256, IntKind.u8.wrap ((BitVec.ofInt 8 ((m.val : Nat) : Int) &&& BitVec.ofInt 8 63).toNat : Int) = ((m.val % 64 : Nat) : Int) := by
  decide
theorem oru128 {m : Nat} (h : m < 64) : binA .or (.int .u8 128) (.int .u8 m) = some (.int .u8 ((128 + m : Nat) : Int)) := congrArg (fun z => some (Value.int .u8 z)) (u8_fin.1 ⟨m, h⟩)
theorem oru192 {m : Nat} (h : m < 32) : binA .or (.int .u8 192) (.int .u8 m) = some (.int .u8 ((192 + m : Nat) : Int)) := congrArg (fun z => some (Value.int .u8 z)) (u8_fin.2.1 ⟨m, h⟩)
theorem oru224 {m : Nat} (h : m < 16) : binA .or (.int .u8 224) (.int .u8 m) = some (.int .u8 ((224 + m : Nat) : Int)) := congrArg (fun z => some (Value.int .u8 z)) (u8_fin.2.2.1 ⟨m, h⟩)
theorem oru240 {m : Nat} (h : m < 8) : binA .or (.int .u8 240) (.int .u8 m) = some (.int .u8 ((240 + m : Nat) : Int)) := congrArg (fun z => some (Value.int .u8 z)) (u8_fin.2.2.2 ⟨m, h⟩)
theorem andu63 {q : Nat} : binA .and (.int .u8 ((q % 256 : Nat) : Int)) (.int .u8 63) = some (.int .u8 ((q % 64 : Nat) : Int)) := by
  have h := u8_and ⟨q % 256, Nat.mod_lt _ (by decide)⟩
  simp only [show q % 256 % 64 = q % 64 by omega] at h
  exact congrArg (fun z => some (Value.int .u8 z)) h
theorem shrs {k : Nat} {c m : Nat} (hk : m = 2 ^ (min k 32)) : binA .shr (.int .i32 c) (.int .u64 k) = some (.int .i32 ((c / m : Nat) : Int)) := by
  show (if (k : Int) < 0 then none else some (Value.int .i32 ((c : Int).fdiv (2 ^ (min (k : Int).toNat 32))))) = _
  rw [if_neg (by omega), Int.fdiv_eq_ediv_of_nonneg _ (Int.le_of_lt (Int.pow_pos (by decide))), hk, Int.toNat_natCast]
  congr 2
theorem wrapu8 (q : Nat) : IntKind.u8.wrap (q : Int) = ((q % 256 : Nat) : Int) := by
  unfold IntKind.wrap
  simp [IntKind.signed, IntKind.bits]
theorem wrapu32 {q : Nat} (h : q < 4294967296) : IntKind.u32.wrap (q : Int) = (q : Int) := by
  unfold IntKind.wrap
  simp [IntKind.signed, IntKind.bits]
  omega
theorem bytesV_ofs : ∀ {l : List Nat}, (∀ m ∈ l, m < 256) → bytesV (l.map UInt8.ofNat) = l.map fun m : Nat => Value.int .u8 m
  | [], _ => rfl
  | m :: l, h => by
    rw [List.map_cons, List.map_cons, ← bytesV_ofs (l := l) fun x hx => h x (by simp [hx])]
    show Value.int .u8 (((UInt8.ofNat m).toNat : Nat) : Int) :: _ = _
    rw [of_small (h m (by simp))]
    rfl
set_option maxRecDepth 20000 in
theorem appRune_spec {c : Nat} (hc : RuneN c) {h : AH} {g : Option Nat} {X : Bytes} (hb : BufAt h g X) (hn : X.length ≤ 140737488355000) :
    callO PX 78 [(bufS g X.length).val 1, .int .i32 c] h = some (.slice (some ⟨h.n, 0, none⟩) (X.length + (encN c).length) 1, (killO h g).push (.tc 10 (bytesV (X ++ encN c)))) := by
  have hc2 : c ≤ 1114111 := by unfold RuneN at hc; omega
  have hsur : ¬ (55296 ≤ c ∧ c ≤ 57343) := by unfold RuneN at hc; omega
  clear hc
  have w8 := wrapu8
  have w32 := wrapu32 (q := c) (by omega)
  apply WpC.eqn
  by_cases g1 : c < 128
  · have he : encN c = [c].map UInt8.ofNat := by unfold encN; rw [if_pos g1]; rfl
    have hv := bytesV_ofs (l := [c]) (fun m hm => by simp at hm; omega)
    rw [← he] at hv
    simp only [List.map_cons, List.map_nil] at hv
    have hm : c % 256 = c := Nat.mod_eq_of_lt (by omega)
    have hl : (encN c).length = 1 := by rw [he]; rfl
    generalize encN c = Y at *
    refine wpc_fn (px_ext rfl) (px_fn fn_utf8_AppendRune) rfl ?_
    unfold LF_utf8_AppendRune
    simp only [argFr]
    (refine W_x (Aj w32 (Aj w8 hm)) ?_; (repeat' first | apply Cj.mk | exact Nl.nl) <;> intros)
    refine wo_appB hb rfl hv.symm hl (by decide) (by omega) ?_
    (refine W_x trivial ?_; (repeat' first | apply Cj.mk | exact Nl.nl) <;> intros)
    rw [hl]
    exact ⟨rfl, rfl⟩
  · obtain ⟨q6, e6⟩ : ∃ q, q = c / 64 := ⟨_, rfl⟩
    obtain ⟨q12, e12⟩ : ∃ q, q = c / 4096 := ⟨_, rfl⟩
    obtain ⟨q18, e18⟩ : ∃ q, q = c / 262144 := ⟨_, rfl⟩
    obtain ⟨x0, d0⟩ : ∃ q, q = c % 256 := ⟨_, rfl⟩
    obtain ⟨x6, d6⟩ : ∃ q, q = q6 % 256 := ⟨_, rfl⟩
    obtain ⟨x12, d12⟩ : ∃ q, q = q12 % 256 := ⟨_, rfl⟩
    obtain ⟨x18, d18⟩ : ∃ q, q = q18 % 256 := ⟨_, rfl⟩
    obtain ⟨r0, f0⟩ : ∃ q, q = c % 64 := ⟨_, rfl⟩
    obtain ⟨r6, f6⟩ : ∃ q, q = q6 % 64 := ⟨_, rfl⟩
    obtain ⟨r12, f12⟩ : ∃ q, q = q12 % 64 := ⟨_, rfl⟩
    have s6 : binA .shr (.int .i32 c) (.int .u64 6) = some (.int .i32 (q6 : Int)) := by rw [e6]; exact shrs (k := 6) (m := 64) rfl
    have s12 : binA .shr (.int .i32 c) (.int .u64 12) = some (.int .i32 (q12 : Int)) := by rw [e12]; exact shrs (k := 12) (m := 4096) rfl
    have s18 : binA .shr (.int .i32 c) (.int .u64 18) = some (.int .i32 (q18 : Int)) := by rw [e18]; exact shrs (k := 18) (m := 262144) rfl
    have w0 : IntKind.u8.wrap (c : Int) = (x0 : Int) := by rw [d0]; exact wrapu8 c
    have w6 : IntKind.u8.wrap (q6 : Int) = (x6 : Int) := by rw [d6]; exact wrapu8 q6
    have w12 : IntKind.u8.wrap (q12 : Int) = (x12 : Int) := by rw [d12]; exact wrapu8 q12
    have w18 : IntKind.u8.wrap (q18 : Int) = (x18 : Int) := by rw [d18]; exact wrapu8 q18
    have a0 : binA .and (.int .u8 x0) (.int .u8 63) = some (.int .u8 (r0 : Int)) := by rw [d0, f0]; exact andu63
    have a6 : binA .and (.int .u8 x6) (.int .u8 63) = some (.int .u8 (r6 : Int)) := by rw [d6, f6]; exact andu63
    have a12 : binA .and (.int .u8 x12) (.int .u8 63) = some (.int .u8 (r12 : Int)) := by rw [d12, f12]; exact andu63
    have o0 := oru128 (m := r0) (by omega)
    have o6 := oru128 (m := r6) (by omega)
    have o12 := oru128 (m := r12) (by omega)
    have hE : encN c = if c < 0x800 then [192 + q6, 128 + r0].map UInt8.ofNat else if c < 0x10000 then [224 + q12, 128 + r6, 128 + r0].map UInt8.ofNat else [240 + q18, 128 + r12, 128 + r6, 128 + r0].map UInt8.ofNat := by
      unfold encN
      rw [if_neg g1, e6, e12, e18, f0, f6, f12, e6, e12]
      rfl
    have b0 : r0 < 64 := by omega
    have b6 : r6 < 64 := by omega
    have b12 : r12 < 64 := by omega
    by_cases g2 : c < 2048
    · have hm : x6 = q6 := by omega
      have p1 := oru192 (m := q6) (by omega)
      have hb1 : q6 < 32 := by omega
      rw [hm] at w6
      rw [if_pos g2] at hE
      clear e6 e12 e18 d0 d6 d12 d18 f0 f6 f12
      have hv := bytesV_ofs (l := [192 + q6, 128 + r0]) (fun m hm => by simp at hm; omega)
      rw [← hE] at hv
      simp only [List.map_cons, List.map_nil, Int.natCast_add, Int.cast_ofNat_Int] at hv
      have hl : (encN c).length = 2 := by rw [hE]; rfl
      have e1 : callO PX 120 [(bufS g X.length).val 1, .int .i32 c] h = some (.slice (some ⟨h.n, 0, none⟩) (X.length + (encN c).length) 1, (killO h g).push (.tc 10 (bytesV (X ++ encN c)))) := by
        generalize encN c = Y at *
        apply WpC.eqn
        refine wpc_fn (px_ext rfl) (px_fn fn_utf8_appendRuneNonASCII) rfl ?_
        unfold LF_utf8_appendRuneNonASCII
        simp only [argFr]
        (refine W_x (Aj w32 (Aj w0 (Aj w6 (Aj s6 (Aj a0 (Aj o0 p1)))))) ?_; (repeat' first | apply Cj.mk | exact Nl.nl) <;> intros)
        all_goals first
        | (exfalso; omega)
        | (refine wo_appB hb rfl hv.symm hl (by decide) (by omega) ?_
           (refine W_x trivial ?_; (repeat' first | apply Cj.mk | exact Nl.nl) <;> intros)
           rw [hl]
           exact ⟨rfl, rfl⟩)
      generalize encN c = Y at *
      refine wpc_fn (px_ext rfl) (px_fn fn_utf8_AppendRune) rfl ?_
      unfold LF_utf8_AppendRune
      simp only [argFr]
      (refine W_x (Aj w32 e1) ?_; (repeat' first | apply Cj.mk | exact Nl.nl) <;> intros)
      exact ⟨rfl, rfl⟩
    · by_cases g3 : c < 65536
      · have hm : x12 = q12 := by omega
        have p1 := oru224 (m := q12) (by omega)
        have hb1 : q12 < 16 := by omega
        rw [hm] at w12
        rw [if_neg g2, if_pos g3] at hE
        clear e6 e12 e18 d0 d6 d12 d18 f0 f6 f12
        have hv := bytesV_ofs (l := [224 + q12, 128 + r6, 128 + r0]) (fun m hm => by simp at hm; omega)
        rw [← hE] at hv
        simp only [List.map_cons, List.map_nil, Int.natCast_add, Int.cast_ofNat_Int] at hv
        have hl : (encN c).length = 3 := by rw [hE]; rfl
        have e1 : callO PX 120 [(bufS g X.length).val 1, .int .i32 c] h = some (.slice (some ⟨h.n, 0, none⟩) (X.length + (encN c).length) 1, (killO h g).push (.tc 10 (bytesV (X ++ encN c)))) := by
          generalize encN c = Y at *
          apply WpC.eqn
          refine wpc_fn (px_ext rfl) (px_fn fn_utf8_appendRuneNonASCII) rfl ?_
          unfold LF_utf8_appendRuneNonASCII
          simp only [argFr]
          (refine W_x (Aj w32 (Aj w0 (Aj w6 (Aj w12 (Aj s6 (Aj s12 (Aj a0 (Aj a6 (Aj o0 (Aj o6 p1)))))))))) ?_; (repeat' first | apply Cj.mk | exact Nl.nl) <;> intros)
          all_goals first
          | (exfalso; omega)
          | (refine wo_appB hb rfl hv.symm hl (by decide) (by omega) ?_
             (refine W_x trivial ?_; (repeat' first | apply Cj.mk | exact Nl.nl) <;> intros)
             rw [hl]
             exact ⟨rfl, rfl⟩)
        generalize encN c = Y at *
        refine wpc_fn (px_ext rfl) (px_fn fn_utf8_AppendRune) rfl ?_
        unfold LF_utf8_AppendRune
        simp only [argFr]
        (refine W_x (Aj w32 e1) ?_; (repeat' first | apply Cj.mk | exact Nl.nl) <;> intros)
        exact ⟨rfl, rfl⟩
      · have hm : x18 = q18 := by omega
        have p1 := oru240 (m := q18) (by omega)
        have hb1 : q18 < 8 := by omega
        rw [hm] at w18
        rw [if_neg g2, if_neg g3] at hE
        clear e6 e12 e18 d0 d6 d12 d18 f0 f6 f12
        have hv := bytesV_ofs (l := [240 + q18, 128 + r12, 128 + r6, 128 + r0]) (fun m hm => by simp at hm; omega)
        rw [← hE] at hv
        simp only [List.map_cons, List.map_nil, Int.natCast_add, Int.cast_ofNat_Int] at hv
        have hl : (encN c).length = 4 := by rw [hE]; rfl
        have e1 : callO PX 120 [(bufS g X.length).val 1, .int .i32 c] h = some (.slice (some ⟨h.n, 0, none⟩) (X.length + (encN c).length) 1, (killO h g).push (.tc 10 (bytesV (X ++ encN c)))) := by
          generalize encN c = Y at *
          apply WpC.eqn
          refine wpc_fn (px_ext rfl) (px_fn fn_utf8_appendRuneNonASCII) rfl ?_
          unfold LF_utf8_appendRuneNonASCII
          simp only [argFr]
          (refine W_x (Aj w32 (Aj w0 (Aj w6 (Aj w12 (Aj w18 (Aj s6 (Aj s12 (Aj s18 (Aj a0 (Aj a6 (Aj a12 (Aj o0 (Aj o6 (Aj o12 p1)))))))))))))) ?_; (repeat' first | apply Cj.mk | exact Nl.nl) <;> intros)
          all_goals first
          | (exfalso; omega)
          | (refine wo_appB hb rfl hv.symm hl (by decide) (by omega) ?_
             (refine W_x trivial ?_; (repeat' first | apply Cj.mk | exact Nl.nl) <;> intros)
             rw [hl]
             exact ⟨rfl, rfl⟩)
        generalize encN c = Y at *
        refine wpc_fn (px_ext rfl) (px_fn fn_utf8_AppendRune) rfl ?_
        unfold LF_utf8_AppendRune
        simp only [argFr]
        (refine W_x (Aj w32 e1) ?_; (repeat' first | apply Cj.mk | exact Nl.nl) <;> intros)
        exact ⟨rfl, rfl⟩
theorem writeRune_spec {c : Nat} (hc : RuneN c) {h : AH} {b : Nat} {g : Option Nat} {X : Bytes} (bd : BldAt h b g X) (hn : X.length ≤ 140737488355000) :
    WpC PX 41 [.pointer (some ⟨b, 0, none⟩), .int .i32 c] h fun v h' => ∃ g', BldAt h' b g' (X ++ encN c) ∧ BFr h h' b g g' := by
  obtain ⟨h1, e1, n1, k1, q1⟩ := copyCheck_spec bd
  have hu := bd.u
  have hne := bd.ne
  have hbn := AH.get_lt q1
  have hb1 : BufAt h1 g X := by
    cases g with
    | none => exact hu
    | some g => exact ⟨hu.1, (k1 g (fun e => hne (by rw [e]))).trans hu.2⟩
  have e2 := appRune_spec hc hb1 hn
  have hl := encN_len c
  generalize encN c = Y at *
  have hk : ((killO h1 g).push (.tc 10 (bytesV (X ++ Y)))).get b = some (.tc 169 [.pointer (some ⟨b, 0, none⟩), (bufS g X.length).val 1]) := by
    rw [AH.get_push_ne _ (by rw [killO_n]; omega), killO_get hne]
    exact q1
  have hK : ∀ c, c < h.n → c ≠ b → g ≠ some c → ((killO h1 g).push (.tc 10 (bytesV (X ++ Y)))).get c = h.get c := fun c hc hcb hg => by
    rw [AH.get_push_ne _ (by rw [killO_n]; omega), killO_get hg]
    exact k1 c hcb
  have hN : ((killO h1 g).push (.tc 10 (bytesV (X ++ Y)))).n = h.n + 1 := by rw [AH.push_n, killO_n, n1]
  have hG : ((killO h1 g).push (.tc 10 (bytesV (X ++ Y)))).get h.n = some (.tc 10 (bytesV (X ++ Y))) := by
    rw [← n1, ← killO_n h1 g]; exact AH.get_push_same _ _
  rw [n1] at e2
  generalize (killO h1 g).push (.tc 10 (bytesV (X ++ Y))) = h2 at *
  have hs : (bufS g X.length).len = X.length := by
    cases g with
    | none => have : X = [] := hu; subst this; rfl
    | some g => rfl
  refine wpc_fn (px_ext rfl) (px_fn fn_strings_Builder_WriteRune) rfl ?_
  unfold LF_strings_Builder_WriteRune
  simp only [argFr]
  (refine W_x (Aj e1 (Aj q1 (Aj e2 (Aj hk hs)))) ?_; (repeat' first | apply Cj.mk | exact Nl.nl) <;> intros)
  refine ⟨some h.n, ⟨⟨_, by rw [AH.get_set_same _ (by omega), List.length_append]; rfl, .inr rfl⟩, ⟨?_, ?_⟩, ?_⟩, ?_, ?_, ?_⟩
  · intro e
    have := congrArg List.length e
    rw [List.length_append, List.length_nil] at this
    omega
  · exact (AH.get_set_ne _ (show h.n ≠ b by omega)).trans hG
  · intro e; injection e with e; omega
  · rw [AH.set_n]; omega
  · intro c hc hcb hg
    rw [AH.get_set_ne _ hcb]
    exact hK c hc hcb hg
  · exact .inr ⟨_, rfl, Nat.le_refl _⟩
end Go.Proofs.YtblmakgjdenpfaaDoor.AM
namespace Go.Proofs.YtblmakgjdenpfaaDoor.AM
open Go
def LF_guiseref1_Spots : LFunc :=
  .mk 1 [.tmp 2] (.seq (R 999 [0] [.set 2 (.cv (.slice none 0 0))]) (.seq (R 999 [0, 3] [.set 3 (.cv (.slice none 0 0))]) (.seq (R 999 [0, 3, 4] [.set 4 (xi 0)]) (.seq (.block 0
  (.loop (.seq (.seq (R 8 [0, 3, 4, 11] [.tmp 11 (xb .lss (.va 4) (xsl (.va 0)))]) (.cond (.s 11) .skip (.exit 0))) (.block 1 (.seq (R 13 [0, 3, 4, 5, 6] [.set 12 (xc1
  73 (.op (.p (.slS (.s 0) (some (.s 1)) none)) (.cons (.va 0) (.va 4)))), .tmp 17 (xex 0 (.sl 12)), .tmp 18 (xex 1 (.sl 12)), .set 5 (.sl 17), .set 6 (.sl 18)])
  (.seq (R 19 [0, 3, 4, 5, 7] [.tmp 22 (.op (.p (.build [.int .i32 0, .int .i64 0, .int .i64 0, .bool false] [(0, 1, .s 0), (1, 1, .s 1), (2, 1, .s 2)])) (.cons (.va 6) (.cons (.va
  4) (.va 5)))), .at 7, .tmp 7 (xnl 7 [.int .i32 0, .int .i64 0, .int .i64 0, .bool false]), .run (xst 4 (.sl 7) (.sl 22))]) (.seq (.seq (R 23 [0, 3, 4, 7, 24] [.tmp 24 (xb .eql
  (.va 5) (xi 0))]) (.cond (.s 24) (R 25 [0, 3, 4, 7] [.run (xst 4 (.sl 7) (.op (.p (.build [.int .i32 0, .int .i64 0, .int .i64 0, .bool false] [(0, 1, .s 0), (1, 1, .s 1), (2, 1,
  .s 2), (3, 1, .s 3)])) (.cons (xr 65533) (.cons (.va 4) (.cons (xi 1) (.cv (.bool true)))))))]) .skip)) (.seq (R 27 [0, 3, 4, 7] [.set 3 (xap 4 32 (.va 3) (.op (.e (.litL 29 1 4
  [.int .i32 0, .int .i64 0, .int .i64 0, .bool false] [(0, 4, .s 0)])) (xln 4 (.sl 7))))]) (R 31 [0, 3, 4] [.set 4 (xb .add (.va 4) (xld (xfa 2 (.sl 7))))]))))))))) (.seq (R 35 [2]
  [.set 2 (.va 3)]) .ret)))))
theorem fn_guiseref1_Spots : (autoPrg Tryd.prog).fn 35 = some LF_guiseref1_Spots := by kernel_rfl
def LF_guiseref1_Sequence : LFunc :=
  .mk 1 [.tmp 2, .tmp 3] (.seq (R 999 [0] [.set 2 (xi 0), .set 3 (xr 0)]) (.seq (.seq (R 10 [0, 12] [.tmp 12 (xb .eql (xsl (.va 0)) (xi 0))]) (.cond (.s 12) (.seq (R 999 [2, 3]
  [.set 2 (xi 0), .set 3 (xr 0)]) .ret) .skip)) (.seq (R 13 [0, 4] [.set 4 (xis (.va 0) (xi 0))]) (.seq (.seq (R 15 [0, 4, 16] [.tmp 16 (xb .lss (.va 4) (.cv (.int .u8 128)))])
  (.cond (.s 16) (.seq (R 17 [2, 3] [.tmp 18 (xcn .i32 (.va 4)), .set 2 (xi 1), .set 3 (.sl 18)]) .ret) .skip)) (.seq (R 20 [0, 4, 5, 6] [.set 19 (xc1 118 (.va 4)),
  .tmp 22 (xex 0 (.sl 19)), .tmp 23 (xex 1 (.sl 19)), .set 5 (.sl 22), .set 6 (.sl 23)]) (.seq (.seq (R 24 [0, 4, 42] [.tmp 42 (.or (.or (.or (xb .eql (.va 5) (.cv (.int .u8 0)))
  (xb .lss (xsl (.va 0)) (xi 2))) (xb .lss (xis (.va 0) (xi 1)) (.va 5))) (xb .gtr (xis (.va 0) (xi 1)) (.va 6)))]) (.cond (.s 42) (.seq (R 999 [2, 3] [.set 2 (xi 0), .set 3 (xr
  0)]) .ret) .skip)) (.seq (R 999 [0, 4, 7] [.set 7 (xi 2)]) (.seq (R 43 [0, 4, 7, 8] [.set 8 (xcn .i32 (xb .and (.va 4) (.cv (.int .u8 31))))]) (.seq (.seq (R 46 [0, 4, 7, 8, 47]
  [.tmp 47 (xb .geq (.va 4) (.cv (.int .u8 224)))]) (.cond (.s 47) (.seq (R 999 [0, 4, 7] [.set 7 (xi 3)]) (R 48 [0, 4, 7, 8] [.set 8 (xcn .i32 (xb .and (.va 4) (.cv (.int .u8
  15))))])) .skip)) (.seq (.seq (R 51 [0, 4, 7, 8, 52] [.tmp 52 (xb .geq (.va 4) (.cv (.int .u8 240)))]) (.cond (.s 52) (.seq (R 999 [0, 4, 7] [.set 7 (xi 4)]) (R 53 [0, 7, 8] [.set
  8 (xcn .i32 (xb .and (.va 4) (.cv (.int .u8 7))))])) .skip)) (.seq (.seq (R 999 [0, 7, 8, 9] [.set 9 (xi 1)]) (.block 0 (.loop (.seq (.seq (R 56 [0, 7, 8, 9, 58] [.tmp 58 (xb .lss
  (.va 9) (.va 7))]) (.cond (.s 58) .skip (.exit 0))) (.seq (.block 1 (.seq (.seq (R 61 [0, 7, 8, 9, 76] [.tmp 76 (.or (.or (xb .geq (.va 9) (xsl (.va 0))) (xb .lss (xis (.va 0)
  (.va 9)) (.cv (.int .u8 128)))) (xb .gtr (xis (.va 0) (.va 9)) (.cv (.int .u8 191))))]) (.cond (.s 76) (.seq (R 999 [2, 3] [.set 2 (xi 0), .set 3 (xr 0)]) .ret) .skip)) (R 77 [0,
  7, 8, 9] [.set 8 (xb .or (xb .shl (.va 8) (.cv (.int .u64 6))) (xcn .i32 (xb .and (xis (.va 0) (.va 9)) (.cv (.int .u8 63)))))]))) (R 59 [0, 7, 8, 9] [.set 9 (xb .add (.va 9) (xi
  1))])))))) (.seq (R 85 [2, 3] [.tmp 85 (.va 7), .tmp 86 (.va 8), .set 2 (.sl 85), .set 3 (.sl 86)]) .ret))))))))))))
theorem fn_guiseref1_Sequence : (autoPrg Tryd.prog).fn 73 = some LF_guiseref1_Sequence := by kernel_rfl
def LF_guiseref1_second : LFunc :=
  .mk 1 [.tmp 2, .tmp 3] (.seq (R 999 [0] [.set 2 (.cv (.int .u8 0)), .set 3 (.cv (.int .u8 0))]) (.seq (.block 0 (.seq (.seq (R 5 [0, 4] [.set 4 (.and (xb .geq (.va 0) (.cv (.int
  .u8 194))) (xb .leq (.va 0) (.cv (.int .u8 223))))]) (.cond (.s 4) .skip (.seq (R 11 [0, 4] [.set 4 (.and (xb .geq (.va 0) (.cv (.int .u8 225))) (xb .leq (.va 0) (.cv (.int .u8
  236))))]) (.cond (.s 4) .skip (.seq (R 17 [0, 4] [.set 4 (xb .eql (.va 0) (.cv (.int .u8 238)))]) (.cond (.s 4) .skip (.seq (R 19 [0, 4] [.set 4 (xb .eql (.va 0) (.cv (.int .u8
  239)))]) (.cond (.s 4) .skip (R 21 [0, 4] [.set 4 (.and (xb .geq (.va 0) (.cv (.int .u8 241))) (xb .leq (.va 0) (.cv (.int .u8 243))))]))))))))) (.cond (.s 4) (.seq (R 999 [2, 3]
  [.set 2 (.cv (.int .u8 128)), .set 3 (.cv (.int .u8 191))]) .ret) (.seq (R 28 [0, 27] [.set 27 (xb .eql (.va 0) (.cv (.int .u8 224)))]) (.cond (.s 27) (.seq (R 999 [2, 3] [.set 2
  (.cv (.int .u8 160)), .set 3 (.cv (.int .u8 191))]) .ret) (.seq (R 31 [0, 30] [.set 30 (xb .eql (.va 0) (.cv (.int .u8 237)))]) (.cond (.s 30) (.seq (R 999 [2, 3] [.set 2 (.cv
  (.int .u8 128)), .set 3 (.cv (.int .u8 159))]) .ret) (.seq (R 34 [0, 33] [.set 33 (xb .eql (.va 0) (.cv (.int .u8 240)))]) (.cond (.s 33) (.seq (R 999 [2, 3] [.set 2 (.cv (.int
  .u8 144)), .set 3 (.cv (.int .u8 191))]) .ret) (.seq (R 37 [36] [.set 36 (xb .eql (.va 0) (.cv (.int .u8 244)))]) (.cond (.s 36) (.seq (R 999 [2, 3] [.set 2 (.cv (.int .u8 128)),
  .set 3 (.cv (.int .u8 143))]) .ret) .skip))))))))))) (.seq (R 999 [2, 3] [.set 2 (.cv (.int .u8 0)), .set 3 (.cv (.int .u8 0))]) .ret)))
theorem fn_guiseref1_second : (autoPrg Tryd.prog).fn 118 = some LF_guiseref1_second := by kernel_rfl
end Go.Proofs.YtblmakgjdenpfaaDoor.AM
namespace Go.Proofs.YtblmakgjdenpfaaDoor.AM
open Go
def secN (c : Nat) : Nat × Nat := if c = 0xe0 then (0xa0, 0xbf) else if c = 0xed then (0x80, 0x9f) else if c = 0xf0 then (0x90, 0xbf) else if c = 0xf4 then (0x80, 0x8f) else if 0xc2 ≤ c ∧ c ≤ 0xf4 then (0x80, 0xbf) else (0, 0)
theorem second_eq {c : Nat} (hc : c < 256) (h : AH) : callO PX 118 [.int .u8 c] h = some (.tuple (List.toArray [.int .u8 (secN c).1, .int .u8 (secN c).2]), h) := by
  apply WpC.eqn
  refine wpc_fn (px_ext rfl) (px_fn fn_guiseref1_second) rfl ?_
  unfold LF_guiseref1_second
  simp only [argFr]
  (refine W_x trivial ?_; (repeat' first | apply Cj.mk | exact Nl.nl) <;> intros)
  all_goals
    refine ⟨?_, rfl⟩
    unfold secN
    repeat' split
    all_goals first | rfl | (exfalso; omega)
end Go.Proofs.YtblmakgjdenpfaaDoor.AM
namespace Go.Proofs.YtblmakgjdenpfaaDoor.AM
open Go
def contN (b : Nat) : Prop := 128 ≤ b ∧ b ≤ 191
instance (b : Nat) : Decidable (contN b) := inferInstanceAs (Decidable (_ ∧ _))
def seqC (n b0 b1 b2 b3 : Nat) : Nat × Nat :=
  if b0 < 128 then (1, b0)
  else if (secN b0).1 = 0 ∨ n < 2 ∨ b1 < (secN b0).1 ∨ (secN b0).2 < b1 then (0, 0)
  else if b0 < 224 then (2, b0 % 32 * 64 + b1 % 64)
  else if n < 3 ∨ ¬ contN b2 then (0, 0)
  else if b0 < 240 then (3, (b0 % 16 * 64 + b1 % 64) * 64 + b2 % 64)
  else if n < 4 ∨ ¬ contN b3 then (0, 0)
  else (4, ((b0 % 8 * 64 + b1 % 64) * 64 + b2 % 64) * 64 + b3 % 64)
def seqN (l : Bytes) : Nat × Nat := seqC l.length (bat l 0) (bat l 1) (bat l 2) (bat l 3)
theorem bat_lt' (l : Bytes) (k : Nat) : bat l k < 256 := (l.getD k 0).toNat_lt
def decC (n b0 b1 b2 b3 : Nat) : Nat × Nat :=
  if b0 < 128 then (b0, 1)
  else if b0 / 32 = 6 ∧ 1 < n ∧ b1 / 64 = 2 then
    if 128 ≤ b0 % 32 * 64 + b1 % 64 then (b0 % 32 * 64 + b1 % 64, 2) else (65533, 1)
  else if (b0 / 16 = 14 ∧ 1 < n ∧ b1 / 64 = 2) ∧ 2 < n ∧ b2 / 64 = 2 then
    if 2048 ≤ b0 % 16 * 4096 + b1 % 64 * 64 + b2 % 64 ∧ RuneN (b0 % 16 * 4096 + b1 % 64 * 64 + b2 % 64) then (b0 % 16 * 4096 + b1 % 64 * 64 + b2 % 64, 3) else (65533, 1)
  else if ((b0 / 8 = 30 ∧ 1 < n ∧ b1 / 64 = 2) ∧ 2 < n ∧ b2 / 64 = 2) ∧ 3 < n ∧ b3 / 64 = 2 then
    if 65536 ≤ b0 % 8 * 262144 + b1 % 64 * 4096 + b2 % 64 * 64 + b3 % 64 ∧ RuneN (b0 % 8 * 262144 + b1 % 64 * 4096 + b2 % 64 * 64 + b3 % 64) then
      (b0 % 8 * 262144 + b1 % 64 * 4096 + b2 % 64 * 64 + b3 % 64, 4) else (65533, 1)
  else (65533, 1)
theorem decC_eq (l : Bytes) : dec1 l = decC l.length (bat l 0) (bat l 1) (bat l 2) (bat l 3) := by
  unfold dec1 bcont decC
  have hv : ∀ c : Nat, (Utf8.valid (c : Int) = true) = RuneN c := fun c => propext (valid_iff c)
  simp only [Bool.and_eq_true, beq_iff_eq, decide_eq_true_eq, ge_iff_le, hv]
theorem secN_cases (b0 : Nat) : (secN b0 = (0, 0) ∧ (b0 < 194 ∨ 244 < b0)) ∨ (secN b0 = (128, 191) ∧ 194 ≤ b0 ∧ b0 < 244 ∧ b0 ≠ 224 ∧ b0 ≠ 237 ∧ b0 ≠ 240) ∨ (secN b0 = (160, 191) ∧ b0 = 224) ∨ (secN b0 = (128, 159) ∧ b0 = 237) ∨ (secN b0 = (144, 191) ∧ b0 = 240) ∨ (secN b0 = (128, 143) ∧ b0 = 244) := by
  unfold secN
  repeat' split
  all_goals simp only [true_and, Prod.mk.injEq]
  all_goals omega
theorem seqC_dec {n b0 b1 b2 b3 : Nat} (hn : 0 < n) (h0 : b0 < 256) (h1 : b1 < 256) (h2 : b2 < 256) (h3 : b3 < 256) : seqC n b0 b1 b2 b3 = if isBad2 (decC n b0 b1 b2 b3) = true then (0, 0) else ((decC n b0 b1 b2 b3).2, (decC n b0 b1 b2 b3).1) := by
  have hgood : ∀ {w c : Nat}, seqC n b0 b1 b2 b3 = (w, c) → decC n b0 b1 b2 b3 = (c, w) → w ≠ 1 ∨ c ≠ 65533 → seqC n b0 b1 b2 b3 = if isBad2 (decC n b0 b1 b2 b3) = true then (0, 0) else ((decC n b0 b1 b2 b3).2, (decC n b0 b1 b2 b3).1) := fun hs hd hw => by
    rw [hs, hd, if_neg]
    simp only [isBad2, Bool.and_eq_true, beq_iff_eq]
    omega
  have hbad : seqC n b0 b1 b2 b3 = (0, 0) → decC n b0 b1 b2 b3 = (65533, 1) → seqC n b0 b1 b2 b3 = if isBad2 (decC n b0 b1 b2 b3) = true then (0, 0) else ((decC n b0 b1 b2 b3).2, (decC n b0 b1 b2 b3).1) := fun hs hd => by
    rw [hs, hd]; rfl
  by_cases a : b0 < 128
  · exact hgood (w := 1) (c := b0) (by unfold seqC; rw [if_pos a]) (by unfold decC; rw [if_pos a]) (by omega)
  by_cases b : b0 < 194 ∨ 244 < b0
  · have hs : (secN b0).1 = 0 := by rcases secN_cases b0 with h | h | h | h | h | h <;> first | (rw [h.1]; done) | (exfalso; omega)
    refine hbad (by unfold seqC; rw [if_neg a, if_pos (.inl hs)]) ?_
    unfold decC
    rw [if_neg a]
    by_cases c : b0 / 32 = 6 ∧ 1 < n ∧ b1 / 64 = 2
    · rw [if_pos c, if_neg (by omega)]
    · rw [if_neg c, if_neg (by omega)]
      by_cases d : ((b0 / 8 = 30 ∧ 1 < n ∧ b1 / 64 = 2) ∧ 2 < n ∧ b2 / 64 = 2) ∧ 3 < n ∧ b3 / 64 = 2
      · rw [if_pos d, if_neg (by unfold RuneN; omega)]
      · rw [if_neg d]
  have hz : ¬ (secN b0).1 = 0 := by rcases secN_cases b0 with h | h | h | h | h | h <;> first | (rw [h.1]; decide) | (exfalso; omega)
  by_cases ok1 : 1 < n ∧ (secN b0).1 ≤ b1 ∧ b1 ≤ (secN b0).2
  · have q1 : ¬ ((secN b0).1 = 0 ∨ n < 2 ∨ b1 < (secN b0).1 ∨ (secN b0).2 < b1) := by omega
    have hb1 : b1 / 64 = 2 := by
      rcases secN_cases b0 with h | h | h | h | h | h <;> (rw [h.1] at ok1 hz; simp only at ok1 hz; omega)
    by_cases c : b0 < 224
    · refine hgood (w := 2) (c := b0 % 32 * 64 + b1 % 64) (by unfold seqC; rw [if_neg a, if_neg q1, if_pos c]) ?_ (by omega)
      unfold decC
      rw [if_neg a, if_pos ⟨by omega, ok1.1, hb1⟩, if_pos (by omega)]
    · by_cases d : b0 < 240
      · by_cases e : 2 < n ∧ b2 / 64 = 2
        · have hv : 2048 ≤ b0 % 16 * 4096 + b1 % 64 * 64 + b2 % 64 ∧ RuneN (b0 % 16 * 4096 + b1 % 64 * 64 + b2 % 64) := by
            unfold RuneN
            rcases secN_cases b0 with h | h | h | h | h | h <;> (rw [h.1] at ok1 hz; simp only at ok1 hz; omega)
          refine hgood (w := 3) (c := b0 % 16 * 4096 + b1 % 64 * 64 + b2 % 64) ?_ ?_ (by omega)
          · unfold seqC
            rw [if_neg a, if_neg q1, if_neg c, if_neg (by unfold contN; omega), if_pos d]
            congr 1
            omega
          · unfold decC
            rw [if_neg a, if_neg (by omega), if_pos ⟨⟨by omega, ok1.1, hb1⟩, e⟩, if_pos hv]
        · refine hbad (by unfold seqC; rw [if_neg a, if_neg q1, if_neg c, if_pos (by unfold contN; omega)]) ?_
          unfold decC
          rw [if_neg a, if_neg (by omega), if_neg (by omega), if_neg (by omega)]
      · by_cases e : 2 < n ∧ b2 / 64 = 2
        · by_cases f : 3 < n ∧ b3 / 64 = 2
          · have hv : 65536 ≤ b0 % 8 * 262144 + b1 % 64 * 4096 + b2 % 64 * 64 + b3 % 64 ∧ RuneN (b0 % 8 * 262144 + b1 % 64 * 4096 + b2 % 64 * 64 + b3 % 64) := by
              unfold RuneN
              rcases secN_cases b0 with h | h | h | h | h | h <;> (rw [h.1] at ok1 hz; simp only at ok1 hz; omega)
            refine hgood (w := 4) (c := b0 % 8 * 262144 + b1 % 64 * 4096 + b2 % 64 * 64 + b3 % 64) ?_ ?_ (by omega)
            · unfold seqC
              rw [if_neg a, if_neg q1, if_neg c, if_neg (by unfold contN; omega), if_neg d, if_neg (by unfold contN; omega)]
              congr 1
              omega
            · unfold decC
              rw [if_neg a, if_neg (by omega), if_neg (by omega), if_pos ⟨⟨⟨by omega, ok1.1, hb1⟩, e⟩, f⟩, if_pos hv]
          · refine hbad (by unfold seqC; rw [if_neg a, if_neg q1, if_neg c, if_neg (by unfold contN; omega), if_neg d, if_pos (by unfold contN; omega)]) ?_
            unfold decC
            rw [if_neg a, if_neg (by omega), if_neg (by omega), if_neg (by omega)]
        · refine hbad (by unfold seqC; rw [if_neg a, if_neg q1, if_neg c, if_pos (by unfold contN; omega)]) ?_
          unfold decC
          rw [if_neg a, if_neg (by omega), if_neg (by omega), if_neg (by omega)]
  · refine hbad (by unfold seqC; rw [if_neg a, if_pos (by omega)]) ?_
    unfold decC
    rw [if_neg a]
    by_cases c : b0 / 32 = 6 ∧ 1 < n ∧ b1 / 64 = 2
    · exfalso
      rcases secN_cases b0 with h | h | h | h | h | h <;> (rw [h.1] at ok1 hz; simp only at ok1 hz; omega)
    · rw [if_neg c]
      by_cases d : (b0 / 16 = 14 ∧ 1 < n ∧ b1 / 64 = 2) ∧ 2 < n ∧ b2 / 64 = 2
      · rw [if_pos d, if_neg]
        unfold RuneN
        rcases secN_cases b0 with h | h | h | h | h | h <;> (rw [h.1] at ok1 hz; simp only at ok1 hz; omega)
      · rw [if_neg d]
        by_cases e : ((b0 / 8 = 30 ∧ 1 < n ∧ b1 / 64 = 2) ∧ 2 < n ∧ b2 / 64 = 2) ∧ 3 < n ∧ b3 / 64 = 2
        · rw [if_pos e, if_neg]
          unfold RuneN
          rcases secN_cases b0 with h | h | h | h | h | h <;> (rw [h.1] at ok1 hz; simp only at ok1 hz; omega)
        · rw [if_neg e]
theorem seq_dec {l : Bytes} (hl : l ≠ []) : seqN l = if isBad2 (dec1 l) = true then (0, 0) else ((dec1 l).2, (dec1 l).1) := by
  rw [decC_eq]
  exact seqC_dec (List.length_pos_iff.2 hl) (bat_lt' l 0) (bat_lt' l 1) (bat_lt' l 2) (bat_lt' l 3)
end Go.Proofs.YtblmakgjdenpfaaDoor.AM
namespace Go.Proofs.YtblmakgjdenpfaaDoor.AM
open Go
set_option maxRecDepth 10000 in
theorem u8_lows : (∀ m : Fin 256, IntKind.u8.wrap ((BitVec.ofInt 8 ((m.val : Nat) : Int) &&& BitVec.ofInt 8 31).toNat : Int) = ((m.val % 32 : Nat) : Int)) ∧ (∀ m : Fin 256, IntKind.u8.wrap ((BitVec.ofInt 8 ((m.val : Nat) : Int) &&& BitVec.ofInt 8 15).toNat : Int) = ((m.val % 16 : Nat) : Int)) ∧
    (∀ m : Fin 256, IntKind.u8.wrap ((BitVec.ofInt 8 ((m.val : Nat) : Int) &&& BitVec.ofInt 8 7).toNat : Int) = ((m.val % 8 : Nat) : Int)) := by
  decide
theorem andl31 {q : Nat} (h : q < 256) : binA .and (.int .u8 q) (.int .u8 31) = some (.int .u8 ((q % 32 : Nat) : Int)) := congrArg (fun z => some (Value.int .u8 z)) (u8_lows.1 ⟨q, h⟩)
theorem andl15 {q : Nat} (h : q < 256) : binA .and (.int .u8 q) (.int .u8 15) = some (.int .u8 ((q % 16 : Nat) : Int)) := congrArg (fun z => some (Value.int .u8 z)) (u8_lows.2.1 ⟨q, h⟩)
theorem andl7 {q : Nat} (h : q < 256) : binA .and (.int .u8 q) (.int .u8 7) = some (.int .u8 ((q % 8 : Nat) : Int)) := congrArg (fun z => some (Value.int .u8 z)) (u8_lows.2.2 ⟨q, h⟩)
theorem andl63 {q : Nat} (h : q < 256) : binA .and (.int .u8 q) (.int .u8 63) = some (.int .u8 ((q % 64 : Nat) : Int)) := congrArg (fun z => some (Value.int .u8 z)) (u8_and ⟨q, h⟩)
theorem shls6 {r : Nat} (h : r < 33554432) : binA .shl (.int .i32 r) (.int .u64 6) = some (.int .i32 ((r * 64 : Nat) : Int)) := by
  show (if (6 : Int) < 0 then none else some (Value.int .i32 (IntKind.i32.wrap ((r : Int) * 2 ^ (min (6 : Int).toNat 32))))) = _
  rw [if_neg (by decide), show (r : Int) * 2 ^ (min (6 : Int).toNat 32) = ((r * 64 : Nat) : Int) by rw [Int.natCast_mul]; rfl]
  have : ((r * 64 : Nat) : Int) < 2147483648 := by omega
  generalize r * 64 = x at *
  congr 2
  rw [IntKind.wrap_i32]
  omega
set_option maxRecDepth 10000 in
theorem orl6 {r m : Nat} (hm : m < 64) (h : r < 33554432) : binA .or (.int .i32 ((r * 64 : Nat) : Int)) (.int .i32 m) = some (.int .i32 ((r * 64 + m : Nat) : Int)) := by
  show some (Value.int .i32 (IntKind.i32.wrap (BitVec.ofInt 32 ((r * 64 : Nat) : Int) ||| BitVec.ofInt 32 (m : Int)).toNat)) = _
  have e : (BitVec.ofInt 32 ((r * 64 : Nat) : Int) ||| BitVec.ofInt 32 (m : Int)).toNat = r * 64 + m := by
    rw [BitVec.toNat_or, show BitVec.ofInt 32 ((r * 64 : Nat) : Int) = BitVec.ofNat 32 (r * 64) from BitVec.ofInt_natCast .., show BitVec.ofInt 32 (m : Int) = BitVec.ofNat 32 m from BitVec.ofInt_natCast .., BitVec.toNat_ofNat, BitVec.toNat_ofNat, Nat.mod_eq_of_lt (by omega), Nat.mod_eq_of_lt (by omega)]
    have := Nat.shiftLeft_add_eq_or_of_lt (show m < 2 ^ 6 from hm) r
    rw [Nat.shiftLeft_eq] at this
    exact this.symm
  rw [e]
  have : ((r * 64 + m : Nat) : Int) < 2147483648 := by omega
  generalize r * 64 + m = x at *
  congr 2
  rw [IntKind.wrap_i32]
  omega
theorem shor {r b : Nat} (h : r < 33554432) (hb : b < 256) : ∃ y m z : Nat, binA .shl (.int .i32 r) (.int .u64 6) = some (.int .i32 (y : Int)) ∧ binA .and (.int .u8 b) (.int .u8 63) = some (.int .u8 (m : Int)) ∧ m < 64 ∧
    binA .or (.int .i32 (y : Int)) (.int .i32 (m : Int)) = some (.int .i32 (z : Int)) ∧ z = r * 64 + b % 64 :=
  ⟨_, _, _, shls6 h, andl63 hb, Nat.mod_lt _ (by decide), orl6 (Nat.mod_lt _ (by decide)) h, rfl⟩
set_option maxHeartbeats 1000000 in
theorem seq_eq (t : ByteArray) (hsz : t.size < 100000000) (h0 : 0 < t.size) (h : AH) : callO PX 73 [.string t] h = some (.tuple (List.toArray [.int .i64 (seqN t.data.toList).1, .int .i32 (seqN t.data.toList).2]), h) := by
  obtain ⟨l, hl⟩ : ∃ l, l = t.data.toList := ⟨_, rfl⟩
  have hll : l.length = t.size := by rw [hl]; rfl
  rw [← hl]
  unfold seqN
  rw [hll]
  have k0 := bat_lt' l 0
  have k1 := bat_lt' l 1
  have k2 := bat_lt' l 2
  have k3 := bat_lt' l 3
  obtain ⟨b0, q0⟩ : ∃ x, bat l 0 = x := ⟨_, rfl⟩
  obtain ⟨b1, q1⟩ : ∃ x, bat l 1 = x := ⟨_, rfl⟩
  obtain ⟨b2, q2⟩ : ∃ x, bat l 2 = x := ⟨_, rfl⟩
  obtain ⟨b3, q3⟩ : ∃ x, bat l 3 = x := ⟨_, rfl⟩
  rw [q0, q1, q2, q3]
  rw [q0] at k0
  rw [q1] at k1
  rw [q2] at k2
  rw [q3] at k3
  clear hll
  have es := second_eq k0
  have hse : (secN b0).1 < 256 ∧ (secN b0).2 < 256 := by rcases secN_cases b0 with h | h | h | h | h | h <;> (rw [h.1]; decide)
  unfold seqC
  by_cases g0 : b0 < 128
  · rw [if_pos g0]
    apply WpC.eqn
    refine wpc_fn (px_ext rfl) (px_fn fn_guiseref1_Sequence) rfl ?_
    unfold LF_guiseref1_Sequence
    simp only [argFr]
    (refine W_x (Aj hl.symm q0) ?_; (repeat' first | apply Cj.mk | exact Nl.nl) <;> intros)
    exact ⟨rfl, rfl⟩
  rw [if_neg g0]
  by_cases g1 : (secN b0).1 = 0 ∨ t.size < 2 ∨ b1 < (secN b0).1 ∨ (secN b0).2 < b1
  · rw [if_pos g1]
    generalize (secN b0).1 = lo at *
    generalize (secN b0).2 = hi at *
    apply WpC.eqn
    refine wpc_fn (px_ext rfl) (px_fn fn_guiseref1_Sequence) rfl ?_
    unfold LF_guiseref1_Sequence
    simp only [argFr]
    (refine W_x (Aj hl.symm (Aj q0 (Aj q1 es))) ?_; (repeat' first | apply Cj.mk | exact Nl.nl) <;> intros)
    all_goals first | exact ⟨rfl, rfl⟩ | (exfalso; omega)
  rw [if_neg g1]
  have ok1 : 128 ≤ b1 ∧ b1 ≤ 191 := by
    rcases secN_cases b0 with h | h | h | h | h | h
    · exact absurd (.inl (by rw [h.1])) g1
    all_goals (rw [h.1] at g1; simp only at g1; omega)
  have hb0 : b0 < 245 := by
    rcases secN_cases b0 with h | h | h | h | h | h
    · exact absurd (.inl (by rw [h.1])) g1
    all_goals omega
  generalize (secN b0).1 = lo at *
  generalize (secN b0).2 = hi at *
  obtain ⟨x31, e31⟩ : ∃ x, x = b0 % 32 := ⟨_, rfl⟩
  obtain ⟨x15, e15⟩ : ∃ x, x = b0 % 16 := ⟨_, rfl⟩
  obtain ⟨x7, e7⟩ : ∃ x, x = b0 % 8 := ⟨_, rfl⟩
  have c31 : x31 < 32 := by omega
  have c15 : x15 < 16 := by omega
  have c7 : x7 < 8 := by omega
  have a31 := andl31 k0
  have a15 := andl15 k0
  have a7 := andl7 k0
  rw [← e31] at a31
  rw [← e15] at a15
  rw [← e7] at a7
  by_cases g2 : b0 < 224
  · rw [if_pos g2]
    obtain ⟨y, m, z, s1, s2, s3, s4, s5⟩ := shor (r := x31) (b := b1) (by omega) k1
    rw [← e31, ← s5]
    clear e31 e15 e7
    apply WpC.eqn
    refine wpc_fn (px_ext rfl) (px_fn fn_guiseref1_Sequence) rfl ?_
    unfold LF_guiseref1_Sequence
    simp only [argFr]
    (refine W_x (Aj hl.symm (Aj q0 (Aj q1 (Aj es a31)))) ?_; (repeat' first | apply Cj.mk | exact Nl.nl) <;> intros)
    refine wp_unroll ?_
    (refine W_x (Aj hl.symm (Aj q1 (Aj s1 (Aj s2 s4)))) ?_; (repeat' first | apply Cj.mk | exact Nl.nl) <;> intros)
    refine wp_unroll ?_
    (refine W_x trivial ?_; (repeat' first | apply Cj.mk | exact Nl.nl) <;> intros)
    exact ⟨rfl, rfl⟩
  rw [if_neg g2]
  by_cases g3 : b0 < 240
  · obtain ⟨y, m, z, s1, s2, s3, s4, s5⟩ := shor (r := x15) (b := b1) (by omega) k1
    by_cases g4 : t.size < 3 ∨ ¬ contN b2
    · rw [if_pos g4]
      unfold contN at g4
      clear e31 e15 e7
      apply WpC.eqn
      refine wpc_fn (px_ext rfl) (px_fn fn_guiseref1_Sequence) rfl ?_
      unfold LF_guiseref1_Sequence
      simp only [argFr]
      (refine W_x (Aj hl.symm (Aj q0 (Aj q1 (Aj es (Aj a31 a15))))) ?_; (repeat' first | apply Cj.mk | exact Nl.nl) <;> intros)
      refine wp_unroll ?_
      (refine W_x (Aj hl.symm (Aj q1 (Aj s1 (Aj s2 s4)))) ?_; (repeat' first | apply Cj.mk | exact Nl.nl) <;> intros)
      refine wp_unroll ?_
      (refine W_x (Aj hl.symm q2) ?_; (repeat' first | apply Cj.mk | exact Nl.nl) <;> intros)
      all_goals first | exact ⟨rfl, rfl⟩ | (exfalso; omega)
    · rw [if_neg g4, if_pos g3]
      unfold contN at g4
      obtain ⟨y', m', z', t1, t2, t3, t4, t5⟩ := shor (r := z) (b := b2) (by omega) k2
      rw [← e15, ← s5, ← t5]
      clear e31 e15 e7
      apply WpC.eqn
      refine wpc_fn (px_ext rfl) (px_fn fn_guiseref1_Sequence) rfl ?_
      unfold LF_guiseref1_Sequence
      simp only [argFr]
      (refine W_x (Aj hl.symm (Aj q0 (Aj q1 (Aj es (Aj a31 a15))))) ?_; (repeat' first | apply Cj.mk | exact Nl.nl) <;> intros)
      refine wp_unroll ?_
      (refine W_x (Aj hl.symm (Aj q1 (Aj s1 (Aj s2 s4)))) ?_; (repeat' first | apply Cj.mk | exact Nl.nl) <;> intros)
      refine wp_unroll ?_
      (refine W_x (Aj hl.symm (Aj q2 (Aj t1 (Aj t2 t4)))) ?_; (repeat' first | apply Cj.mk | exact Nl.nl) <;> intros)
      refine wp_unroll ?_
      (refine W_x trivial ?_; (repeat' first | apply Cj.mk | exact Nl.nl) <;> intros)
      exact ⟨rfl, rfl⟩
  · obtain ⟨y, m, z, s1, s2, s3, s4, s5⟩ := shor (r := x7) (b := b1) (by omega) k1
    obtain ⟨y', m', z', t1, t2, t3, t4, t5⟩ := shor (r := z) (b := b2) (by omega) k2
    by_cases g4 : t.size < 3 ∨ ¬ contN b2
    · rw [if_pos g4]
      unfold contN at g4
      clear e31 e15 e7
      apply WpC.eqn
      refine wpc_fn (px_ext rfl) (px_fn fn_guiseref1_Sequence) rfl ?_
      unfold LF_guiseref1_Sequence
      simp only [argFr]
      (refine W_x (Aj hl.symm (Aj q0 (Aj q1 (Aj es (Aj a31 (Aj a15 a7)))))) ?_; (repeat' first | apply Cj.mk | exact Nl.nl) <;> intros)
      refine wp_unroll ?_
      (refine W_x (Aj hl.symm (Aj q1 (Aj s1 (Aj s2 s4)))) ?_; (repeat' first | apply Cj.mk | exact Nl.nl) <;> intros)
      refine wp_unroll ?_
      (refine W_x (Aj hl.symm q2) ?_; (repeat' first | apply Cj.mk | exact Nl.nl) <;> intros)
      all_goals first | exact ⟨rfl, rfl⟩ | (exfalso; omega)
    · rw [if_neg g4, if_neg g3]
      unfold contN at g4
      by_cases g5 : t.size < 4 ∨ ¬ contN b3
      · rw [if_pos g5]
        unfold contN at g5
        clear e31 e15 e7
        apply WpC.eqn
        refine wpc_fn (px_ext rfl) (px_fn fn_guiseref1_Sequence) rfl ?_
        unfold LF_guiseref1_Sequence
        simp only [argFr]
        (refine W_x (Aj hl.symm (Aj q0 (Aj q1 (Aj es (Aj a31 (Aj a15 a7)))))) ?_; (repeat' first | apply Cj.mk | exact Nl.nl) <;> intros)
        refine wp_unroll ?_
        (refine W_x (Aj hl.symm (Aj q1 (Aj s1 (Aj s2 s4)))) ?_; (repeat' first | apply Cj.mk | exact Nl.nl) <;> intros)
        refine wp_unroll ?_
        (refine W_x (Aj hl.symm (Aj q2 (Aj t1 (Aj t2 t4)))) ?_; (repeat' first | apply Cj.mk | exact Nl.nl) <;> intros)
        refine wp_unroll ?_
        (refine W_x (Aj hl.symm q3) ?_; (repeat' first | apply Cj.mk | exact Nl.nl) <;> intros)
        all_goals first | exact ⟨rfl, rfl⟩ | (exfalso; omega)
      · rw [if_neg g5]
        unfold contN at g5
        obtain ⟨y2, m2, z2, u1, u2, u3, u4, u5⟩ := shor (r := z') (b := b3) (by omega) k3
        rw [← e7, ← s5, ← t5, ← u5]
        clear e31 e15 e7
        apply WpC.eqn
        refine wpc_fn (px_ext rfl) (px_fn fn_guiseref1_Sequence) rfl ?_
        unfold LF_guiseref1_Sequence
        simp only [argFr]
        (refine W_x (Aj hl.symm (Aj q0 (Aj q1 (Aj es (Aj a31 (Aj a15 a7)))))) ?_; (repeat' first | apply Cj.mk | exact Nl.nl) <;> intros)
        refine wp_unroll ?_
        (refine W_x (Aj hl.symm (Aj q1 (Aj s1 (Aj s2 s4)))) ?_; (repeat' first | apply Cj.mk | exact Nl.nl) <;> intros)
        refine wp_unroll ?_
        (refine W_x (Aj hl.symm (Aj q2 (Aj t1 (Aj t2 t4)))) ?_; (repeat' first | apply Cj.mk | exact Nl.nl) <;> intros)
        refine wp_unroll ?_
        (refine W_x (Aj hl.symm (Aj q3 (Aj u1 (Aj u2 u4)))) ?_; (repeat' first | apply Cj.mk | exact Nl.nl) <;> intros)
        refine wp_unroll ?_
        (refine W_x trivial ?_; (repeat' first | apply Cj.mk | exact Nl.nl) <;> intros)
        exact ⟨rfl, rfl⟩
end Go.Proofs.YtblmakgjdenpfaaDoor.AM
namespace Go.Proofs.YtblmakgjdenpfaaDoor.AM
open Go
def spot4 (x : Nat × (Nat × Nat)) : List Value := [.int .i32 x.2.1, .int .i64 x.1, .int .i64 x.2.2, .bool (isBad2 x.2)]
theorem spotsL_take {l : Bytes} {i : Nat} (hi : i < (spots l).length) : (spotsL l).take (i + 1) = (spotsL l).take i ++ [(posn l i, (spots l)[i])] := by
  have h : i < (spotsL l).length := by rw [spotsL_len]; exact hi
  rw [take_snoc h, spotsL_get h]
theorem ref1Spots_spec (s : ByteArray) (hs : s.size ≤ 1048576) (h : AH) : WpC PX 35 [.string s] h fun v h' => ∃ sl, v = sl.val 4 ∧ FOwn h h' 4 sl ((spotsL s.data.toList).map spot4) := by
  obtain ⟨l, hl⟩ : ∃ l, l = s.data.toList := ⟨_, rfl⟩
  have hz : l.length = s.size := by rw [hl]; rfl
  have hn := spots_len l
  rw [← hl]
  refine wpc_fn (px_ext rfl) (px_fn fn_guiseref1_Spots) rfl ?_
  unfold LF_guiseref1_Spots
  simp only [argFr]
  (refine W_x trivial ?_; (repeat' first | apply Cj.mk | exact Nl.nl) <;> intros)
  refine wp_forS (fun i sl => [(0, .string s), (3, sl.val 4), (4, .int .i64 (posn l i))]) (fun _ _ => []) (spots l) (fun i sl h' => FOwn h h' 4 sl (((spotsL l).take i).map spot4)) (fun _ _ => (none : Option Unit)) Sl.nil (by rw [posn_zero]; rfl) rfl (FOwn.nil (Kp.refl h)) (fun i hi sl h1 fo hit => ?_) fun sl h1 fo fin => ?_
  · obtain ⟨p1, p2, p3⟩ := posn_lt hi
    have ht := spotsL_take hi
    have hp := posn_succ hi
    have hw := dec_width p3
    rw [p2, List.length_drop] at hw
    have hx : (s.extract (posn l i) s.size).data.toList = l.drop (posn l i) := by
      rw [ba_extract _ _ _ (Nat.le_refl _), ← hl, ← hz, ← List.length_drop, List.take_length]
    have hxs : (s.extract (posn l i) s.size).size = l.length - posn l i := by rw [ba_size, hx, List.length_drop]
    have e1 := seq_eq (s.extract (posn l i) s.size) (by omega) (by omega) h1
    rw [hx, seq_dec p3, p2] at e1
    rw [hp]
    have hcap : (((spotsL l).take i).map spot4).length ≤ 1048576 := by rw [List.length_map, List.length_take, spotsL_len]; omega
    have hbd : isBad2 (spots l)[i] = true → (spots l)[i] = (65533, 1) := fun e => by
      simp only [isBad2, Bool.and_eq_true, beq_iff_eq] at e
      exact Prod.ext e.1 e.2
    generalize (spots l)[i] = y at *
    by_cases hb : isBad2 y = true
    · have hy := hbd hb
      subst hy
      rw [if_pos hb] at e1
      simp only at e1 hw ⊢
      (refine W_x e1 ?_; (repeat' first | apply Cj.mk | exact Nl.nl) <;> intros)
      refine wo_app1 (cs := spot4 (posn l i, (65533, 1))) fo rfl rfl (by decide) (by decide) (by omega) fun s2 h2 f2 => ?_
      (refine W_x trivial ?_; (repeat' first | apply Cj.mk | exact Nl.nl) <;> intros)
      refine ⟨trivial, s2, rfl, rfl, ?_⟩
      rw [ht, List.map_append]
      exact f2
    · rw [if_neg hb] at e1
      have hb' : isBad2 y = false := by simpa using hb
      obtain ⟨c, w⟩ := y
      simp only at e1 hw ⊢
      (refine W_x e1 ?_; (repeat' first | apply Cj.mk | exact Nl.nl) <;> intros)
      refine wo_app1 (cs := spot4 (posn l i, (c, w))) fo (by unfold spot4; simp only [hb']; rfl) rfl (by decide) (by decide) (by omega) fun s2 h2 f2 => ?_
      (refine W_x trivial ?_; (repeat' first | apply Cj.mk | exact Nl.nl) <;> intros)
      refine ⟨trivial, s2, rfl, rfl, ?_⟩
      rw [ht, List.map_append]
      exact f2
  · rw [posn_all]
    (refine W_x trivial ?_; (repeat' first | apply Cj.mk | exact Nl.nl) <;> intros)
    rw [← spotsL_len, List.take_length] at fo
    exact ⟨sl, rfl, fo⟩
end Go.Proofs.YtblmakgjdenpfaaDoor.AM
namespace Go.Proofs.YtblmakgjdenpfaaDoor.AM
open Go
end Go.Proofs.YtblmakgjdenpfaaDoor.AM
namespace Go.Proofs.YtblmakgjdenpfaaDoor.AM
open Go
def LF_strip_Strip : LFunc :=
  .mk 2 [.tmp 4] (.seq (R 999 [0, 1] [.set 4 (.cv (.string ⟨#[]⟩))]) (.seq (R 5 [0, 1, 5] [.tmp 5 (.op (.e (.newT 169 [.pointer none, .slice none 0 0])) .nil)])
  (.seq (R 6 [5] [.tmp 9 (xc3 38 (.va 0) (.va 1) (.op (.p (.mkfn (.func 40) [] [.s 0])) (.sl 5)))]) (.seq (R 10 [4] [.set 4 (xc1
  42 (.sl 5))]) .ret))))
theorem fn_strip_Strip : (autoPrg Tryd.prog).fn 16 = some LF_strip_Strip := by kernel_rfl
def LF_strip_Strip_1 : LFunc :=
  .mk 3 [.tmp 5] (.seq (R 3 [1, 2] [.tmp 3 (xbl 3 2 (.sl 0)), .set 5 (.cv (.bool false))]) (.seq (R 6 [] [.tmp 7 (xc2 41 (.sl 2) (.va 1))]) (.seq (R
  999 [5] [.set 5 (.cv (.bool true))]) .ret)))
theorem fn_strip_Strip_1 : (autoPrg Tryd.prog).fn 40 = some LF_strip_Strip_1 := by kernel_rfl
def LF_strip_Seen : LFunc :=
  .mk 2 [.tmp 4] (.seq (R 2 [2, 3] [.tmp 2 (xbh 1 (.sl 0)), .tmp 3 (xbh 1 (.sl 1)), .set 4 (.cv .nilFunc)]) (.seq (R 5 [4] [.set 4 (.op (.p (.mkfn (.func 37) [] [.s 0,
  .s 1])) (.cons (.sl 2) (.sl 3)))]) .ret))
theorem fn_strip_Seen : (autoPrg Tryd.prog).fn 13 = some LF_strip_Seen := by kernel_rfl
def LF_strip_Seen_1 : LFunc :=
  .mk 3 [] (R 4 [] [.tmp 7 (xc3 38 (xld (.sl 1)) (xld (.sl 2)) (.va 0))])
theorem fn_strip_Seen_1 : (autoPrg Tryd.prog).fn 37 = some LF_strip_Seen_1 := by kernel_rfl
def LF_strip_seen : LFunc :=
  .mk 3 [] (.seq (.seq (R 9 [0, 1, 2, 10] [.tmp 10 (.op (.p (.eqk false .ptr (.s 0) (.s 1))) (.cons (.va 0) (.cv (.pointer none))))]) (.cond (.s 10) .ret .skip)) (.seq (R 999 [0, 1,
  2, 6] [.set 6 (xi (-1))]) (.seq (R 11 [0, 2, 6, 12] [.tmp 12 (.op (.e (.rngS 12 (.s 0))) (.va 1))]) (.block 0 (.loop (.seq (R 13 [0, 2, 6, 12, 13, 14] [.tmp 13 (.op (.e (.nxtS (.s
  0))) (.sl 12)), .tmp 14 (xex 0 (.sl 13))]) (.seq (.cond (.s 14) .skip (.exit 0)) (.block 1 (.seq (R 15 [0, 2, 6, 7, 8, 12] [.tmp 15 (xex 1 (.sl 13)), .tmp 16 (xex 2 (.sl 13)),
  .set 7 (.sl 15), .set 8 (.sl 16)]) (.seq (R 17 [0, 2, 6, 7, 8, 12] [.set 6 (xb .add (.va 6) (xi 1))]) (.seq (R 19 [0, 2, 6, 12, 31] [.tmp 31 (.and (xu .not (xc2
  75 (.va 0) (.va 8))) (xu .not (xv2 (.va 2) (.op (.p (.build [.int .i64 0, .int .i64 0] [(0, 1, .s 0), (1, 1, .s 1)])) (.cons (.va 7) (.va 6))) (.va 8))))])
  (.cond (.s 31) .ret .skip))))))))))))
theorem fn_strip_seen : (autoPrg Tryd.prog).fn 38 = some LF_strip_seen := by kernel_rfl
def LF_strip_Count : LFunc :=
  .mk 2 [.tmp 4] (.seq (R 999 [0, 1] [.set 4 (xi 0)]) (.seq (.seq (R 6 [0, 1, 7] [.tmp 7 (.op (.p (.eqk false .ptr (.s 0) (.s 1))) (.cons (.va 0) (.cv (.pointer none))))]) (.cond
  (.s 7) (.seq (R 999 [4] [.set 4 (xi 0)]) .ret) .skip)) (.seq (R 8 [0, 1, 5] [.tmp 9 (xc1 20 (.va 1)), .at 5, .tmp 5 (xnh [.int .i64 0]), .run (xst 1 (.sl 5) (.sl 9))])
  (.seq (R 10 [5] [.tmp 13 (xc3 38 (.va 0) (.va 1) (.op (.p (.mkfn (.func 43) [] [.s 0])) (.sl 5)))]) (.seq (R 14 [4] [.set 4 (xld (.sl 5))]) .ret)))))
theorem fn_strip_Count : (autoPrg Tryd.prog).fn 17 = some LF_strip_Count := by kernel_rfl
def LF_strip_Count_1 : LFunc :=
  .mk 3 [.tmp 5] (.seq (R 3 [2] [.tmp 3 (xbl 3 2 (.sl 0)), .set 5 (.cv (.bool false))]) (.seq (R 6 [] [.run (xst 1 (.sl 2) (xb .sub (xld (.sl 2)) (xi 1)))]) (.seq (R 999 [5] [.set 5
  (.cv (.bool true))]) .ret)))
theorem fn_strip_Count_1 : (autoPrg Tryd.prog).fn 43 = some LF_strip_Count_1 := by kernel_rfl
def LF_strip_Place : LFunc :=
  .mk 3 [.cell 6 (some 2), .tmp 7] (.seq (R 5 [0, 1, 5, 6] [.tmp 5 (xbh 1 (.sl 2)), .tmp 6 (xnl 6 [.int .i64 0, .int .i64 0]), .set 7 (.cv (.bool false))]) (.seq (.seq (R 10 [0, 1,
  5, 6, 15] [.tmp 15 (.or (.op (.p (.eqk false .ptr (.s 0) (.s 1))) (.cons (.va 0) (.cv (.pointer none)))) (xb .lss (xld (.sl 5)) (xi 0)))]) (.cond (.s 15) (.seq (R 16 [6, 7] [.run
  (xst 2 (.sl 6) (.op (.p (.build [.int .i64 0, .int .i64 0] [])) .nil)), .set 7 (.cv (.bool false))]) .ret) .skip)) (.seq (R 8 [0, 1, 5, 6, 8] [.tmp 8 (xnh [.int .i64 0, .int .i64
  0])]) (.seq (R 9 [0, 1, 5, 6, 8, 9] [.tmp 9 (xnh [.bool false]), .run (xst 1 (.sl 9) (.cv (.bool false)))]) (.seq (R 17 [1, 5, 6, 8, 9] [.tmp 20 (xc3 38 (.va 0) (.va
  1) (.op (.p (.mkfn (.func 44) [] [.s 0, .s 1, .s 2])) (.cons (.sl 5) (.cons (.sl 8) (.sl 9)))))]) (.seq (.block 0 (.seq (R 22 [1, 5, 6, 8, 21] [.set 21 (xld (.sl
  9))]) (.cond (.s 21) (.seq (R 23 [6, 7] [.run (xst 2 (.sl 6) (xln 2 (.sl 8))), .set 7 (.cv (.bool true))]) .ret) (.seq (R 25 [1, 6, 24] [.set 24 (xb .gtr (xld (.sl 5)) (xi 0))])
  (.cond (.s 24) (.seq (R 27 [6, 7] [.run (xst 2 (.sl 6) (.op (.p (.build [.int .i64 0, .int .i64 0] [])) .nil)), .set 7 (.cv (.bool false))]) .ret) .skip))))) (.seq (R 28 [6, 7]
  [.run (xst 2 (.sl 6) (.op (.p (.build [.int .i64 0, .int .i64 0] [(0, 1, .s 0), (1, 1, .s 1)])) (.cons (xsl (.va 1)) (xc1 20 (.va 1))))), .set 7 (.cv (.bool true))])
  .ret)))))))
theorem fn_strip_Place : (autoPrg Tryd.prog).fn 18 = some LF_strip_Place := by kernel_rfl
def LF_strip_Place_1 : LFunc :=
  .mk 5 [.tmp 7] (.seq (R 5 [2, 3, 4, 5] [.tmp 5 (xbl 5 2 (.sl 0)), .set 7 (.cv (.bool false))]) (.seq (.region [.mk (some 8) (.r (.load (some 2) (.s 5))) none, .mk (some 9) (.r
  (.load none (.s 2))) none, .mk (some 10) (.p (.bin .eql (.s 9) (.c (.int .i64 0)))) none, .mk none (.e (.store 2 (.s 3) (.s 8))) none, .mk none (.e (.store 1 (.s 4) (.s 10)))
  none] [2, 4] [(1, 4)]) (.seq (R 11 [4] [.run (xst 1 (.sl 2) (xb .sub (xld (.sl 2)) (xi 1)))]) (.seq (R 13 [7] [.set 7 (xu .not (xld (.sl 4)))]) .ret))))
theorem fn_strip_Place_1 : (autoPrg Tryd.prog).fn 44 = some LF_strip_Place_1 := by kernel_rfl
end Go.Proofs.YtblmakgjdenpfaaDoor.AM
namespace Go.Proofs.YtblmakgjdenpfaaDoor.AM
open Go
theorem posn_cons {l : Bytes} (hl : l ≠ []) (i : Nat) : posn l (i + 1) = (dec1 l).2 + posn (l.drop (dec1 l).2) i := by
  unfold posn
  rw [spots_cons hl, List.take_succ_cons, List.map_cons, List.sum_cons]
theorem spots_take : ∀ (i : Nat) (l : Bytes), i ≤ (spots l).length → spots (l.take (posn l i)) = (spots l).take i
  | 0, l, _ => by rw [posn_zero]; simp [spots_nil]
  | i + 1, l, h => by
    have hl : l ≠ [] := fun e => by subst e; simp [spots_nil] at h
    have h' : i ≤ (spots (l.drop (dec1 l).2)).length := by rw [spots_cons hl, List.length_cons] at h; omega
    have ih := spots_take i (l.drop (dec1 l).2) h'
    rw [posn_cons hl, spots_cons hl, List.take_succ_cons, ← ih]
    rcases dec_cases hl with ⟨c, rest, hc, e1, e2⟩ | ⟨e1, e2⟩
    · have hd : l.drop (dec1 l).2 = rest := by rw [e2, e1]; simp
      rw [hd, e2]
      simp only
      conv => lhs; rw [e1]
      rw [List.take_append, List.take_of_length_le (by omega), show (encN c).length + posn rest i - (encN c).length = posn rest i by omega, spots_enc hc]
    · rw [e1]
      simp only
      have hne : l.take (1 + posn (l.drop 1) i) ≠ [] := by
        cases l with
        | nil => exact absurd rfl hl
        | cons a l => simp [Nat.add_comm]
      have hb : dec1 (l.take (1 + posn (l.drop 1) i)) = (0xFFFD, 1) := by
        rcases dec_cases hne with ⟨c, rest, hc, q1, _⟩ | ⟨q1, _⟩
        · exfalso
          refine e2 c (rest ++ l.drop (1 + posn (l.drop 1) i)) hc ?_
          conv => lhs; rw [← List.take_append_drop (1 + posn (l.drop 1) i) l, q1]
          rw [List.append_assoc]
        · exact q1
      rw [spots_cons hne, hb]
      simp only
      rw [List.drop_take, show 1 + posn (l.drop 1) i - 1 = posn (l.drop 1) i by omega]
theorem posn_drop {l : Bytes} {i : Nat} (hi : i ≤ (spots l).length) (k : Nat) (hk : i + k ≤ (spots l).length) : posn (l.drop (posn l i)) k = posn l (i + k) - posn l i := by
  have h := (spots_drop l i hi).1
  unfold posn at h ⊢
  rw [h, List.take_add, List.map_append, List.sum_append]
  omega
theorem posn_mono {l : Bytes} {i j : Nat} (h : i ≤ j) : posn l i ≤ posn l j := by
  unfold posn
  obtain ⟨d, rfl⟩ := Nat.exists_eq_add_of_le h
  rw [List.take_add, List.map_append, List.sum_append]
  omega
theorem runesB_cut {l : Bytes} {i k : Nat} (h : i + k ≤ (spots l).length) : runesB ((l.drop (posn l i)).take (posn l (i + k) - posn l i)) = ((runesB l).drop i).take k := by
  have h1 := (spots_drop l i (by omega)).1
  have h2 := spots_take k (l.drop (posn l i)) (by rw [h1, List.length_drop]; omega)
  rw [posn_drop (by omega) k h] at h2
  unfold runesB
  rw [h2, h1, List.map_take, List.map_drop]
end Go.Proofs.YtblmakgjdenpfaaDoor.AM
namespace Go.Proofs.YtblmakgjdenpfaaDoor.AM
open Go
theorem filter_range_get {p : Nat → Bool} {n i : Nat} (hi : i < n) (hp : p i = true) : ((List.range n).filter p)[((List.range i).filter p).length]? = some i := by
  rw [show n = i + (1 + (n - i - 1)) by omega, List.range_add, List.filter_append, List.getElem?_append_right (Nat.le_refl _), Nat.sub_self, Nat.add_comm 1, List.range_succ_eq_map]
  simp [hp]
theorem filter_range_succ (p : Nat → Bool) (i : Nat) : ((List.range (i + 1)).filter p).length = ((List.range i).filter p).length + (if p i = true then 1 else 0) := by
  rw [List.range_succ, List.filter_append, List.length_append]
  by_cases h : p i = true <;> simp [h]
theorem filter_range_map {α : Type} (q : α → Bool) : ∀ l : List α, ((List.range l.length).filter fun i => (l[i]?).any q).filterMap (fun i => l[i]?) = l.filter q
  | [] => rfl
  | a :: l => by
    have ih := filter_range_map q l
    rw [List.length_cons, List.range_succ_eq_map, List.filter_cons, List.filter_map]
    have e : (fun i => ((a :: l)[i]?).any q) ∘ Nat.succ = fun i => (l[i]?).any q := by
      funext i; simp
    rw [e]
    by_cases h : q a = true
    · simp only [List.getElem?_cons_zero, Option.any_some, h, if_true, List.filterMap_cons, List.filter_cons]
      rw [List.filterMap_map]
      simp only [Function.comp_def, List.getElem?_cons_succ, ih]
    · simp only [List.getElem?_cons_zero, Option.any_some, h, Bool.false_eq_true, if_false, List.filter_cons]
      rw [List.filterMap_map]
      simp only [Function.comp_def, List.getElem?_cons_succ, ih]
def seenI (D : Nat → Bool) (l : Bytes) : List Nat := (List.range (runesB l).length).filter fun i => ((runesB l)[i]?).any fun c => !D c
def seenL (D : Nat → Bool) (l : Bytes) : List (Nat × Nat × Nat) := (seenI D l).map fun i => (posn l i, i, (runesB l).getD i 0)
def keptR (D : Nat → Bool) (l : Bytes) : List Nat := (runesB l).filter fun c => !D c
def stripB (D : Nat → Bool) (l : Bytes) : Bytes := encs (keptR D l)
def seenN (D : Nat → Bool) (l : Bytes) (i : Nat) : Nat := ((List.range i).filter fun i => ((runesB l)[i]?).any fun c => !D c).length
theorem seenI_map (D : Nat → Bool) (l : Bytes) : (seenL D l).map (·.2.2) = keptR D l := by
  have h := filter_range_map (fun c => !D c) (runesB l)
  unfold seenL keptR
  rw [← h, List.map_map]
  show (seenI D l).map (fun i => (runesB l).getD i 0) = (seenI D l).filterMap fun i => (runesB l)[i]?
  have hk : ∀ i ∈ seenI D l, (runesB l)[i]? = some ((runesB l).getD i 0) := fun i hi => by
    have := (List.mem_filter.1 hi).1
    rw [List.mem_range] at this
    simp [List.getD_eq_getElem?_getD, this]
  generalize seenI D l = L at hk ⊢
  induction L with
  | nil => rfl
  | cons i r ih =>
    rw [List.map_cons, List.filterMap_cons, hk i (by simp)]
    simp only
    rw [ih fun j hj => hk j (by simp [hj])]
theorem seenL_len (D : Nat → Bool) (l : Bytes) : (seenL D l).length = (keptR D l).length := by rw [← seenI_map, List.length_map]
theorem seenN_all (D : Nat → Bool) (l : Bytes) : seenN D l (spots l).length = (seenL D l).length := by
  unfold seenN seenL seenI
  rw [List.length_map, runesB_len]
theorem seenN_drop {D : Nat → Bool} {l : Bytes} {i : Nat} (hi : i < (spots l).length) (h : D (spots l)[i].1 = true) : seenN D l (i + 1) = seenN D l i := by
  unfold seenN
  rw [filter_range_succ]
  have : (runesB l)[i]? = some (spots l)[i].1 := by simp [runesB, hi]
  simp [this, h]
theorem seenN_more {D : Nat → Bool} {l : Bytes} {i : Nat} (hi : i < (spots l).length) (h : D (spots l)[i].1 = false) :
    seenN D l (i + 1) = seenN D l i + 1 ∧ ∃ hj : seenN D l i < (seenL D l).length, (seenL D l)[seenN D l i] = (posn l i, i, (spots l)[i].1) := by
  have e : (runesB l)[i]? = some (spots l)[i].1 := by simp [runesB, hi]
  have hp : (((runesB l)[i]?).any fun c => !D c) = true := by simp [e, h]
  have hi' : i < (runesB l).length := by rw [runesB_len]; exact hi
  have hg := filter_range_get (p := fun i => ((runesB l)[i]?).any fun c => !D c) hi' hp
  constructor
  · unfold seenN
    rw [filter_range_succ, if_pos hp]
  · have hL : (seenL D l)[seenN D l i]? = some (posn l i, i, (spots l)[i].1) := by
      unfold seenL seenI seenN
      rw [List.getElem?_map, hg]
      simp [List.getD_eq_getElem?_getD, e]
    obtain ⟨h1, h2⟩ := List.getElem?_eq_some_iff.1 hL
    exact ⟨h1, h2⟩
def placeD (D : Nat → Bool) (l : Bytes) (n : Nat) : Option (Nat × Nat) :=
  if h : n < (seenL D l).length then some ((seenL D l)[n].1, (seenL D l)[n].2.1) else if n = (seenL D l).length then some (l.length, (spots l).length) else none
variable {D : Nat → Bool}
theorem kept_rune (l : Bytes) : ∀ c ∈ keptR D l, RuneN c := fun c hc => runesB_rune l c (List.mem_filter.1 hc).1
theorem runesB_strip (l : Bytes) : runesB (stripB D l) = keptR D l := runesB_of_encs (kept_rune l)
theorem kept_le (l : Bytes) : (keptR D l).length ≤ (spots l).length := by rw [← runesB_len]; exact List.length_filter_le _ _
theorem runesB_join {a b : Bytes} (h : spots (a ++ b) = spots a ++ spots b) : runesB (a ++ b) = runesB a ++ runesB b := by unfold runesB; rw [h, List.map_append]
theorem strip_join {a b : Bytes} (h : spots (a ++ b) = spots a ++ spots b) : stripB D (a ++ b) = stripB D a ++ stripB D b := by
  unfold stripB keptR
  rw [runesB_join h, List.filter_append]
  simp [encs]
theorem kept_join {a b : Bytes} (h : spots (a ++ b) = spots a ++ spots b) : (keptR D (a ++ b)).length = (keptR D a).length + (keptR D b).length := by
  unfold keptR
  rw [runesB_join h, List.filter_append, List.length_append]
end Go.Proofs.YtblmakgjdenpfaaDoor.AM
namespace Go.Proofs.YtblmakgjdenpfaaDoor.AM
open Go
def LF_utf_Count : LFunc :=
  .mk 1 [.tmp 2] (.seq (R 999 [0] [.set 2 (xi 0)]) (.seq (R 999 [0, 3] [.set 3 (xi 0)]) (.seq (.seq (R 4 [3, 5] [.tmp 5 (.op (.e (.rngS 5 (.s 0))) (.va 0))]) (.block 0 (.loop (.seq
  (R 6 [3, 5, 7] [.tmp 7 (xex 0 (.op (.e (.nxtS (.s 0))) (.sl 5)))]) (.seq (.cond (.s 7) .skip (.exit 0)) (.block 1 (R 8 [3, 5] [.set 3 (xb .add (.va 3) (xi 1))]))))))) (.seq (R 10
  [2] [.set 2 (.va 3)]) .ret))))
theorem fn_utf_Count : (autoPrg Tryd.prog).fn 20 = some LF_utf_Count := by kernel_rfl
end Go.Proofs.YtblmakgjdenpfaaDoor.AM
namespace Go.Proofs.YtblmakgjdenpfaaDoor.AM
open Go
theorem utfCount_eq (s : ByteArray) (hs : s.size ≤ 16777216) (h : AH) : callO PX 20 [.string s] h = some (.int .i64 (spots s.data.toList).length, h) := by
  have hz : s.data.toList.length = s.size := rfl
  have hn := spots_len s.data.toList
  apply WpC.eqn
  refine wpc_fn (px_ext rfl) (px_fn fn_utf_Count) rfl ?_
  unfold LF_utf_Count
  simp only [argFr]
  (refine W_x @ev_rngS ?_; (repeat' first | apply Cj.mk | exact Nl.nl) <;> intros)
  refine wp_spotsS (fun i _ => [(3, .int .i64 i), (5, .pointer (some ⟨10, 0, some 1⟩))]) (fun n _ => [(10, .siter s n)]) s s.data.toList (fun _ _ h' => h' = h) (fun _ _ => (none : Option Unit)) () rfl (by repeat' first | exact True.intro | refine And.intro rfl ?_) (fun _ _ => rfl) rfl rfl (fun i hi _ h1 hh hit => ?_) fun _ h1 hh fin => ?_
  · subst hh
    (refine W_x trivial ?_; (repeat' first | apply Cj.mk | exact Nl.nl) <;> intros)
    refine wo_next rfl rfl hi ?_
    (refine W_x trivial ?_; (repeat' first | apply Cj.mk | exact Nl.nl) <;> intros)
    exact ⟨rfl, (), (by repeat' first | exact True.intro | refine And.intro rfl ?_), rfl, rfl⟩
  · subst hh
    (refine W_x trivial ?_; (repeat' first | apply Cj.mk | exact Nl.nl) <;> intros)
    refine wo_nextE rfl rfl ?_
    (refine W_x trivial ?_; (repeat' first | apply Cj.mk | exact Nl.nl) <;> intros)
    exact ⟨rfl, rfl⟩
end Go.Proofs.YtblmakgjdenpfaaDoor.AM
namespace Go.Proofs.YtblmakgjdenpfaaDoor.AM
open Go
def dropT (T : Tab) (c : Nat) : Bool := ofI (c : Int) T.drops
def placeV (a b : Nat) : Value := .agg (List.toArray [.int .i64 a, .int .i64 b])
def seenE (x : Nat × Nat × Nat) : List Value := [placeV x.1 x.2.1, .int .i32 x.2.2]
theorem seen_spec {k B : Nat} {s6 : Sl} {T : Tab} (s : ByteArray) (hs : s.size ≤ 16777216) {yv : Value} {I : Nat → AH → Prop} {E : AH → Prop} {h : AH} (hyv : IsF yv) (hvs : vsame yv yv = true)
    (hstep : ∀ j (hj : j < (seenL (dropT T) s.data.toList).length) h, I j h → WpV PX yv (seenE (seenL (dropT T) s.data.toList)[j]) h fun v h' => (v = .bool true ∧ I (j + 1) h') ∨ (v = .bool false ∧ E h'))
    (hbk : ∀ j h, I j h → BkAt h k B s6 T) (h0 : I 0 h) : WpC PX 38 [.pointer (some ⟨k, 0, none⟩), .string s, yv] h fun _ h' => I (seenL (dropT T) s.data.toList).length h' ∨ E h' := by
  have hset := hyv.set
  have hlc1 := hyv.lc1
  obtain ⟨l, hl⟩ : ∃ l, l = s.data.toList := ⟨_, rfl⟩
  rw [← hl] at hstep ⊢
  have hll : l.length = s.size := by rw [hl]; rfl
  have hn := spots_len l
  refine wpc_fn (px_ext rfl) (px_fn fn_strip_seen) rfl ?_
  unfold LF_strip_seen
  simp only [argFr]
  (refine W_x (Aj hset (Aj hlc1 @ev_rngS)) ?_; (repeat' first | apply Cj.mk | exact Nl.nl) <;> intros)
  refine wp_spotsS (fun i _ => [(0, .pointer (some ⟨k, 0, none⟩)), (2, yv), (6, .int .i64 ((i : Int) - 1)), (12, .pointer (some ⟨24, 0, some 1⟩))]) (fun n _ => [(24, .siter s n)]) s l (fun i _ h1 => I (seenN (dropT T) l i) h1) (fun _ _ => (none : Option Unit)) () hl (by repeat' first | exact True.intro | refine And.intro rfl ?_) (fun _ _ => rfl) rfl h0 (fun i hil _ h1 hI hit => ?_) fun _ h1 hI fin => ?_
  · have e1 := dropped_eq (hbk _ _ hI) ((spots l)[i].1 : Nat)
    have m0 := seenN_drop (D := dropT T) hil
    have m1 := seenN_more (D := dropT T) hil
    unfold dropT at m0 m1
    have hp : (i : Int) - 1 + 1 = i := by omega
    have hp2 : ((i + 1 : Nat) : Int) - 1 = i := by omega
    (refine W_x (Aj hset hlc1) ?_; (repeat' first | apply Cj.mk | exact Nl.nl) <;> intros)
    refine wo_next hl rfl hil ?_
    generalize (spots l)[i] = x at e1 m0 m1
    cases hd : ofI (x.1 : Int) T.drops
    · obtain ⟨n1, hj, hg⟩ := m1 hd
      have hst := hstep _ hj h1 hI
      unfold dropT at hst
      rw [hg] at hst
      unfold seenE placeV at hst
      rw [hd] at e1
      simp only at hst
      (refine W_x (Aj hset (Aj hlc1 (Aj e1 hp))) ?_; (repeat' first | apply Cj.mk | exact Nl.nl) <;> intros)
      refine wo_callV (fv := yv) rfl rfl rfl ?_
      refine hst.mono ?_
      rintro v h2 (⟨rfl, hI2⟩ | ⟨rfl, hE⟩)
      · (refine W_x (Aj hset hlc1) ?_; (repeat' first | apply Cj.mk | exact Nl.nl) <;> intros)
        exact ⟨rfl, (), by rw [hp2]; exact (by repeat' first | exact True.intro | refine And.intro rfl ?_), rfl, by unfold dropT; rw [n1]; exact hI2⟩
      · (refine W_x (Aj hset hlc1) ?_; (repeat' first | apply Cj.mk | exact Nl.nl) <;> intros)
        exact .inr hE
    · rw [hd] at e1
      (refine W_x (Aj hset (Aj hlc1 (Aj e1 hp))) ?_; (repeat' first | apply Cj.mk | exact Nl.nl) <;> intros)
      exact ⟨rfl, (), by rw [hp2]; exact (by repeat' first | exact True.intro | refine And.intro rfl ?_), rfl, by unfold dropT; rw [m0 hd]; exact hI⟩
  · (refine W_x (Aj hset hlc1) ?_; (repeat' first | apply Cj.mk | exact Nl.nl) <;> intros)
    refine wo_nextE hl rfl ?_
    rw [seenN_all] at hI
    (refine W_x (Aj hset hlc1) ?_; (repeat' first | apply Cj.mk | exact Nl.nl) <;> intros)
    exact .inl hI
end Go.Proofs.YtblmakgjdenpfaaDoor.AM
namespace Go.Proofs.YtblmakgjdenpfaaDoor.AM
open Go
def LF_guiseref11_Seen : LFunc :=
  .mk 2 [.tmp 4, .tmp 5] (.seq (R 2 [1, 2] [.tmp 2 (xbl 2 8 (.sl 0)), .set 4 (.cv (.slice none 0 0)), .set 5 (.cv (.slice none 0 0))]) (.seq (R 999 [1, 2, 6] [.set 6 (.cv (.slice
  none 0 0))]) (.seq (R 999 [1, 2, 6, 7] [.set 7 (.cv (.slice none 0 0))]) (.seq (R 10 [2, 6, 7, 8] [.set 8 (xc1 35 (.va 1))]) (.seq (.seq (R 999 [2, 6, 7, 8, 9]
  [.set 9 (xi 0)]) (.block 0 (.loop (.seq (.seq (R 12 [2, 6, 7, 8, 9, 15] [.tmp 15 (xb .lss (.va 9) (xlen (.va 8)))]) (.cond (.s 15) .skip (.exit 0))) (.seq (.block 1 (.seq (R 18
  [2, 6, 7, 8, 9, 33] [.tmp 33 (.or (xld (xfa 3 (xia 4 (.va 8) (.va 9)))) (xu .not (xc2 36 (xld (xfa 0 (xia 4 (.va 8) (.va 9)))) (xld (xfa 6 (.sl 2))))))]) (.cond (.s
  33) (.seq (R 34 [2, 6, 7, 8, 9] [.set 6 (xap 4 32 (.va 6) (.op (.e (.litL 39 1 4 [.int .i32 0, .int .i64 0, .int .i64 0, .bool false] [(0, 4, .s 0)])) (xln 4 (xia 4 (.va 8) (.va
  9)))))]) (R 41 [2, 6, 7, 8, 9] [.set 7 (xap 1 8 (.va 7) (.op (.e (.litL 43 1 1 [.int .i64 0] [(0, 1, .s 0)])) (.va 9)))])) .skip))) (R 16 [2, 6, 7, 8, 9] [.set 9 (xb .add (.va 9)
  (xi 1))])))))) (.seq (R 45 [4, 5] [.tmp 45 (.va 6), .tmp 46 (.va 7), .set 4 (.sl 45), .set 5 (.sl 46)]) .ret))))))
theorem fn_guiseref11_Seen : (autoPrg Tryd.prog).fn 12 = some LF_guiseref11_Seen := by kernel_rfl
end Go.Proofs.YtblmakgjdenpfaaDoor.AM
namespace Go.Proofs.YtblmakgjdenpfaaDoor.AM
open Go
section
variable {p : Prg} {lc : Lc} {h : AH} {H : Value → Lc → AH → Prop}
theorem wo_appO {e by' : Nat} {s : Sl} {y : Value} {xss yss : List (List Value)} {k : Nat} (o : Own h e s xss) (hk : lenV y = some k) (hy : rdSlice ⟨lc, h⟩ e y = some yss.flatten)
    (hyl : yss.length = k) (hye : ∀ x ∈ yss, x.length = e) (k0 : 0 < k) (he : 0 < e) (hb : 0 < by') (hn : (xss.length + k) * by' ≤ 140737488355328)
    (hq : ∀ s' h', Own h' e s' (xss ++ yss) → s'.blk = some h.n → h'.n = h.n + 1 → (∀ b, b < h.n → s.blk ≠ some b → h'.get b = h.get b) → H (s'.val e) lc h') : WpO p (.e (.append e by' (.s 0) (.s 1))) [s.val e, y] lc h H := by
  obtain ⟨s', h', h1, h2, h3, h4, h5⟩ := own_append o hk hy hyl hye k0 he hb hn
  exact wo_e (by simp only [EOp.ev, opd_s, fg0, fg1, h1]) (hq s' h' h2 h3 h4 h5)
theorem wo_app1O {e by' b : Nat} {s : Sl} {xss : List (List Value)} {cs : List Value} (o : Own h e s xss) (hl : lget lc b = some (.cells false cs)) (hc : cs.length = e) (he : 0 < e) (hb : 0 < by') (hn : (xss.length + 1) * by' ≤ 140737488355328)
    (hq : ∀ s' h', Own h' e s' (xss ++ [cs]) → s'.blk = some h.n → h'.n = h.n + 1 → (∀ b, b < h.n → s.blk ≠ some b → h'.get b = h.get b) → H (s'.val e) lc h') : WpO p (.e (.append e by' (.s 0) (.s 1))) [s.val e, .slice (some ⟨b, 0, some 1⟩) 1 e] lc h H := by
  refine wo_appO (yss := [cs]) (k := 1) o rfl ?_ rfl (fun x hx => by rw [List.mem_singleton.1 hx]; exact hc) (by decide) he hb hn hq
  simp only [rdSlice, Nat.one_ne_zero, if_false, Nat.one_mul, rd_loc, hl, List.flatten_cons, List.flatten_nil, List.append_nil]
  rw [if_pos (by omega), List.drop_zero, ← hc, List.take_length]
end
end Go.Proofs.YtblmakgjdenpfaaDoor.AM
namespace Go.Proofs.YtblmakgjdenpfaaDoor.AM
open Go
theorem drop_bad {T : Tab} (h : goodB T = true) : dropT T 65533 = false := by
  have hf := (checkW_none (good_check h)).2.2.2.2.2.2.2.2
  unfold houseW at hf
  simp only [Option.or_eq_none_iff] at hf
  unfold dropT ofI
  rw [Bool.and_eq_false_iff]
  refine .inr ?_
  rw [Bool.eq_false_iff]
  intro hc
  rw [List.any_eq_true] at hc
  obtain ⟨x, hx, hd⟩ := hc
  have hd := of_decide_eq_true hd
  obtain ⟨i, hi, rfl⟩ := List.mem_iff_getElem.1 hx
  have := scanL_none hf.2.1 i hi
  split at this
  · cases this
  · rename_i hq
    exact hq (.inr (by have h1 := hd.1; have h2 := hd.2; exact ⟨by simpa using h1, by simpa using h2⟩))
def refK (D : Nat → Bool) (l : Bytes) (i : Nat) : List Nat := (List.range i).filter fun i => ((runesB l)[i]?).any fun c => !D c
def spotAt (l : Bytes) (i : Nat) : Nat × (Nat × Nat) := (posn l i, (spots l).getD i (0, 0))
def intV (i : Nat) : List Value := [.int .i64 i]
theorem refK_all (D : Nat → Bool) (l : Bytes) : refK D l (spots l).length = seenI D l := by unfold refK seenI; rw [runesB_len]
theorem refK_succ {D : Nat → Bool} {l : Bytes} {i : Nat} (hi : i < (spots l).length) : refK D l (i + 1) = if D (spots l)[i].1 = true then refK D l i else refK D l i ++ [i] := by
  have e : (runesB l)[i]? = some (spots l)[i].1 := by simp [runesB, hi]
  unfold refK
  rw [List.range_succ, List.filter_append]
  by_cases h : D (spots l)[i].1 = true
  · rw [if_pos h]; simp [e, h]
  · rw [if_neg h]; simp [e, h]
theorem refK_len (D : Nat → Bool) (l : Bytes) (i : Nat) : (refK D l i).length ≤ i := Nat.le_trans (List.length_filter_le _ _) (by simp)
structure Two4 (h h1 : AH) (s : Sl × Sl) (L : List Nat) (l : Bytes) : Prop where
  kp : Kp h h1
  o1 : Own h1 4 s.1 (L.map fun i => spot4 (spotAt l i))
  o2 : Own h1 1 s.2 (L.map intV)
  n1 : ∀ b, s.1.blk = some b → h.n ≤ b
  n2 : ∀ b, s.2.blk = some b → h.n ≤ b ∧ s.1.blk ≠ some b
theorem Two4.start (h : AH) (l : Bytes) : Two4 h h (.nil, .nil) [] l :=
  ⟨Kp.refl _, (FOwn.nil (Kp.refl h)).own, (FOwn.nil (Kp.refl h)).own, (fun b hb => by cases hb), (fun b hb => by cases hb)⟩
theorem ref11Seen_spec {S : TS} {T : Tab} {h : AH} (t : TabAt h S T) (hb : goodB T = true) (s : ByteArray) (hs : s.size ≤ 1048576) :
    WpC PX 12 [.agg S.vs.toArray, .string s] h fun v h' => ∃ s1 s2, v = .tuple (List.toArray [s1.val 4, s2.val 1]) ∧ Two4 h h' (s1, s2) (seenI (dropT T) s.data.toList) s.data.toList := by
  obtain ⟨l, hl⟩ : ∃ l, l = s.data.toList := ⟨_, rfl⟩
  have hz : l.length = s.size := by rw [hl]; rfl
  have hn := spots_len l
  obtain ⟨_, h1, e1, sl, rfl, f1⟩ := ref1Spots_spec s hs h
  rw [← hl] at f1 ⊢
  have sll := f1.own.1
  rw [List.length_map, spotsL_len] at sll
  have hbad := drop_bad hb
  refine wpc_fn (px_ext rfl) (px_fn fn_guiseref11_Seen) rfl ?_
  unfold LF_guiseref11_Seen
  simp only [argFr]
  unfold TS.vs
  (refine W_x e1 ?_; (repeat' first | apply Cj.mk | exact Nl.nl) <;> intros)
  refine wp_forS (fun i (q : Sl × Sl) => [(2, .pointer (some ⟨4, 0, some 1⟩)), (6, q.1.val 4), (7, q.2.val 1), (8, sl.val 4), (9, .int .i64 i)]) (fun _ _ => [(4, .cells false [S.s0.val 2, S.s1.val 2, S.s2.val 2, S.s3.val 3, S.s4.val 2, S.s5.val 2, S.s6.val 2, S.s7.val 2])]) (spots l) (fun i q h' => Two4 h1 h' q (refK (dropT T) l i) l) (fun _ _ => (none : Option Unit)) (Sl.nil, Sl.nil) rfl rfl
    (Two4.start h1 l) (fun i hi q h2 tw hit => ?_) fun q h2 tw fin => ?_
  · obtain ⟨kp, o1, o2, n1, n2⟩ := tw
    have hil : i < (spotsL l).length := by rw [spotsL_len]; exact hi
    have g0 := fun lc => rd_mapc (lc := lc) (f1.reads.kp kp) hil (k := 0) (by decide)
    have g3 := fun lc => rd_mapc (lc := lc) (f1.reads.kp kp) hil (k := 3) (by decide)
    have gg := fun lc => rd_map (lc := lc) (f1.reads.kp kp) hil
    rw [spotsL_get hil] at g0 g3 gg
    have tt := (t.kp f1.kp).kp kp
    have e6 := of6_eq (r := ((spots l)[i].1 : Nat)) tt.r6 tt.fits.n6
    rw [show ofI ((spots l)[i].1 : Nat) T.drops = dropT T (spots l)[i].1 from rfl] at e6
    have hr := refK_succ (D := dropT T) hi
    have hbd : isBad2 (spots l)[i] = true → dropT T (spots l)[i].1 = false := fun e => by
      simp only [isBad2, Bool.and_eq_true, beq_iff_eq] at e
      rw [e.1]; exact hbad
    have hsp : spotAt l i = (posn l i, (spots l)[i]) := by unfold spotAt; rw [List.getD_eq_getElem?_getD, List.getElem?_eq_getElem hi]; rfl
    have hlen := refK_len (dropT T) l i
    generalize (spots l)[i] = x at *
    have hs4 : spot4 (spotAt l i) = [.int .i32 x.1, .int .i64 (posn l i), .int .i64 x.2, .bool (isBad2 x)] := by rw [hsp]; rfl
    unfold spot4 at g0 g3 gg
    simp only [List.drop_succ_cons, List.drop_zero, List.take_succ_cons, List.take_zero] at g0 g3 gg
    generalize isBad2 x = ib at hbd g0 g3 gg hs4
    rw [hr]
    have hcap1 : ((refK (dropT T) l i).map fun i => spot4 (spotAt l i)).length ≤ 1048576 := by rw [List.length_map]; omega
    have hcap2 : ((refK (dropT T) l i).map intV).length ≤ 1048576 := by rw [List.length_map]; omega
    have hfin : ∀ (s1 s2 : Sl) (h3 h4 : AH), Own h3 4 s1 ((refK (dropT T) l i).map (fun i => spot4 (spotAt l i)) ++ [spot4 (spotAt l i)]) → s1.blk = some h2.n → h3.n = h2.n + 1 → (∀ b, b < h2.n → q.1.blk ≠ some b → h3.get b = h2.get b) →
        Own h4 1 s2 ((refK (dropT T) l i).map intV ++ [intV i]) → s2.blk = some h3.n → h4.n = h3.n + 1 → (∀ b, b < h3.n → q.2.blk ≠ some b → h4.get b = h3.get b) → Two4 h1 h4 (s1, s2) (refK (dropT T) l i ++ [i]) l := by
      intro s1 s2 h3 h4 p1 b1 m1 k1 p2 b2 m2 k2
      have hkp1 := kp.1
      refine ⟨⟨by omega, fun b hb => ?_⟩, ?_, ?_, ?_, ?_⟩
      · rw [k2 b (by omega) (fun e => by have := (n2 b e).1; omega), k1 b (by omega) (fun e => by have := n1 b e; omega)]
        exact kp.2 b hb
      · rw [List.map_append]
        refine p1.keep fun b e => ?_
        rw [b1] at e
        injection e with e
        subst e
        exact k2 _ (by omega) (fun e => by have := (o2.lt e); omega)
      · rw [List.map_append]; exact p2
      · intro b e
        simp only at e
        rw [b1] at e
        injection e with e
        omega
      · intro b e
        simp only at e ⊢
        rw [b2] at e
        injection e with e
        refine ⟨by omega, fun e2 => ?_⟩
        rw [b1] at e2
        injection e2 with e2
        omega
    have hmore : ∀ (h3 : AH) (k1 : ∀ b, b < h2.n → q.1.blk ≠ some b → h3.get b = h2.get b) (m1 : h3.n = h2.n + 1), Own h3 1 q.2 ((refK (dropT T) l i).map intV) := fun h3 k1 m1 =>
      o2.keep fun b e => k1 b (o2.lt e) (n2 b e).2
    rw [hs4] at hfin
    obtain ⟨q1, q2⟩ := q
    simp only at *
    cases ib
    · cases hd : dropT T x.1
      · rw [hd] at e6
        (refine W_x (Aj sll (Aj g0 (Aj g3 (Aj gg e6)))) ?_; (repeat' first | apply Cj.mk | exact Nl.nl) <;> intros)
        refine wo_app1O o1 rfl rfl (by decide) (by decide) (by omega) fun s1 h3 p1 b1 m1 k1 => ?_
        (refine W_x trivial ?_; (repeat' first | apply Cj.mk | exact Nl.nl) <;> intros)
        refine wo_app1O (cs := intV i) (hmore h3 k1 m1) rfl rfl (by decide) (by decide) (by omega) fun s2 h4 p2 b2 m2 k2 => ?_
        (refine W_x trivial ?_; (repeat' first | apply Cj.mk | exact Nl.nl) <;> intros)
        refine ⟨trivial, (s1, s2), rfl, rfl, ?_⟩
        rw [if_neg (by simp)]
        exact hfin s1 s2 h3 h4 p1 b1 m1 k1 p2 b2 m2 k2
      · rw [hd] at e6
        (refine W_x (Aj sll (Aj g0 (Aj g3 (Aj gg e6)))) ?_; (repeat' first | apply Cj.mk | exact Nl.nl) <;> intros)
        refine ⟨trivial, (q1, q2), rfl, rfl, ?_⟩
        rw [if_pos rfl]
        exact ⟨kp, o1, o2, n1, n2⟩
    · have hd := hbd rfl
      rw [hd] at e6 ⊢
      (refine W_x (Aj sll (Aj g0 (Aj g3 (Aj gg e6)))) ?_; (repeat' first | apply Cj.mk | exact Nl.nl) <;> intros)
      refine wo_app1O o1 rfl rfl (by decide) (by decide) (by omega) fun s1 h3 p1 b1 m1 k1 => ?_
      (refine W_x trivial ?_; (repeat' first | apply Cj.mk | exact Nl.nl) <;> intros)
      refine wo_app1O (cs := intV i) (hmore h3 k1 m1) rfl rfl (by decide) (by decide) (by omega) fun s2 h4 p2 b2 m2 k2 => ?_
      (refine W_x trivial ?_; (repeat' first | apply Cj.mk | exact Nl.nl) <;> intros)
      refine ⟨trivial, (s1, s2), rfl, rfl, ?_⟩
      rw [if_neg (by simp)]
      exact hfin s1 s2 h3 h4 p1 b1 m1 k1 p2 b2 m2 k2
  · have hR := refK_all (dropT T) l
    rw [hR] at tw
    (refine W_x sll ?_; (repeat' first | apply Cj.mk | exact Nl.nl) <;> intros)
    exact ⟨q.1, q.2, rfl, ⟨f1.kp.trans tw.kp, tw.o1, tw.o2, fun b hb => Nat.le_trans f1.kp.1 (tw.n1 b hb), fun b hb => ⟨Nat.le_trans f1.kp.1 (tw.n2 b hb).1, (tw.n2 b hb).2⟩⟩⟩
end Go.Proofs.YtblmakgjdenpfaaDoor.AM
