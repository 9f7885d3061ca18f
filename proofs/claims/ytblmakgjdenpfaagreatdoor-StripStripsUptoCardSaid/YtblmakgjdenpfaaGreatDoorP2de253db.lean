/- Parts of proofs: lemmas, joined. -/
import Derived.Test.YtblmakgjdenpfaaGreatDoorP99fe4bc4
set_option linter.unusedVariables false
set_option linter.unusedSimpArgs false
set_option linter.unusedSectionVars false
namespace Go.Proofs.YtblmakgjdenpfaaGreatDoor.AM
open Go
variable {α : Type} [Inhabited α] {q : Pl} {enc : α → List Value} {val : α → Value} {cv : Value} {key : α → Int} {idx : α → Int}
def Bl (bs : Nat) : List (List α) → Prop
  | [] => True
  | A :: r => 0 < A.length ∧ A.length ≤ bs ∧ (r ≠ [] → A.length = bs) ∧ Bl bs r
theorem Bl.snoc {bs : Nat} : ∀ {L : List (List α)}, (∀ A ∈ L, A.length = bs) → 0 < bs → ∀ {R : List (List α)}, Bl bs R → Bl bs (L ++ R)
  | [], _, _, _, h => h
  | A :: r, h, hb, R, hR => by
    have h1 := h A (by simp)
    exact ⟨by omega, by omega, fun _ => h1, Bl.snoc (fun B hB => h B (List.mem_cons_of_mem _ hB)) hb hR⟩
end Go.Proofs.YtblmakgjdenpfaaGreatDoor.AM
namespace Go.Proofs.YtblmakgjdenpfaaGreatDoor.AM
open Go
section
variable {p : Prg} {fr : Fr} {lc : Lc} {h : AH} {Q : Post}
end
def plV : Option (Nat × Nat) → Value
  | some (a, b) => .tuple (List.toArray [.agg (List.toArray [.int .i64 a, .int .i64 b]), .bool true])
  | none => .tuple (List.toArray [.agg (List.toArray [.int .i64 0, .int .i64 0]), .bool false])
end Go.Proofs.YtblmakgjdenpfaaGreatDoor.AM
namespace Go.Proofs.YtblmakgjdenpfaaGreatDoor.AM
open Go
section
variable {p : Prg} {fr : Fr} {lc : Lc} {h : AH} {Q : Post}
theorem wp_spotsS {σ β : Type} {n : Nat} {keep : List Nat} {sts : List St} {b : LCode} (F : Nat → σ → Fr) (L : Nat → σ → Lc) (s : ByteArray) (l : Bytes) (J : Nat → σ → AH → Prop) (g : Nat → Nat × Nat → Option β) (st0 : σ) (hl : l = s.data.toList)
    (hf0 : AgF (F 0 st0) fr) (hk : ∀ i st, okS keep ((F i st).map (·.1)) n sts = true) (h0 : lc = L 0 st0) (hJ : J 0 st0 h)
    (more : ∀ i (hi : i < (spots l).length) st h, J i st h → (∀ w, g i (spots l)[i] = some w → scanL (spots l) g = some w) →
      WpS p keep sts (F i st) (L (posn l i) st) h (thenQ p b (loopQ (fun fr' lc' h' => g i (spots l)[i] = none ∧ ∃ st', AgF (F (i + 1) st') fr' ∧ lc' = L (posn l (i + 1)) st' ∧ J (i + 1) st' h') Q) .norm))
    (fin : ∀ st h, J (spots l).length st h → scanL (spots l) g = none → WpS p keep sts (F (spots l).length st) (L l.length st) h (thenQ p b (loopQ (fun _ _ _ => False) Q) .norm)) : Wp p (.loop (.seq (R n keep sts) b)) fr lc h Q := by
  refine wp_scanL (spots l) g (fun i fr lc' h => ∃ st, AgF (F i st) fr ∧ lc' = L (posn l i) st ∧ J i st h) ⟨st0, hf0, by rw [posn_zero]; exact h0, hJ⟩ ?_ ?_
  · rintro fr _ h ⟨st, ha, rfl, hj⟩ fn
    rw [posn_all]
    exact wp_seq (wp_RA ha (hk _ _) (fin st h hj fn))
  · rintro i hi fr _ h ⟨st, ha, rfl, hj⟩ hit
    refine wp_mono (wp_seq (wp_RA ha (hk _ _) (more i hi st h hj hit))) fun ex fr lc h hq => ?_
    have hq := hq.out
    cases ex with
    | norm => exact ⟨⟨hq.1, hq.2⟩⟩
    | exit j => exact ⟨hq⟩
    | ret => exact ⟨hq⟩
theorem wp_forS {σ α β : Type} {a : LCode} (F : Nat → σ → Fr) (L : Nat → σ → Lc) (l : List α) (J : Nat → σ → AH → Prop) (g : Nat → α → Option β) (st0 : σ) (h0 : fr = F 0 st0) (hc : lc = L 0 st0) (hJ : J 0 st0 h)
    (more : ∀ i (hi : i < l.length) st h, J i st h → (∀ w, g i l[i] = some w → scanL l g = some w) → Wp p a (F i st) (L i st) h (loopQ (fun fr' lc' h' => g i l[i] = none ∧ ∃ st', fr' = F (i + 1) st' ∧ lc' = L (i + 1) st' ∧ J (i + 1) st' h') Q))
    (fin : ∀ st h, J l.length st h → scanL l g = none → Wp p a (F l.length st) (L l.length st) h (loopQ (fun _ _ _ => False) Q)) : Wp p (.loop a) fr lc h Q := by
  refine wp_scanL l g (fun i fr lc' h => ∃ st, fr = F i st ∧ lc' = L i st ∧ J i st h) ⟨st0, h0, hc, hJ⟩ ?_ ?_
  · rintro _ _ h ⟨st, rfl, rfl, hj⟩ fn
    exact fin st h hj fn
  · rintro i hi _ _ h ⟨st, rfl, rfl, hj⟩ hit
    refine wp_mono (more i hi st h hj hit) fun ex fr lc h hq => ?_
    have hq := hq.out
    cases ex with
    | norm => exact ⟨⟨hq.1, hq.2⟩⟩
    | exit j => exact ⟨hq⟩
    | ret => exact ⟨hq⟩
end
theorem runesB_len (l : Bytes) : (runesB l).length = (spots l).length := by rw [runesB, List.length_map]
theorem encs_snoc (B : List Nat) (c : Nat) : encs (B ++ [c]) = encs B ++ encN c := by
  rw [encs_append]
  simp [encs]
theorem encs_lenle (L : List Nat) : (encs L).length ≤ 4 * L.length := by
  induction L with
  | nil => simp [encs]
  | cons c L ih =>
    have := (encN_len c).2
    rw [encs_cons, List.length_append, List.length_cons]
    omega
end Go.Proofs.YtblmakgjdenpfaaGreatDoor.AM
namespace Go.Proofs.YtblmakgjdenpfaaGreatDoor.AM
open Go
end Go.Proofs.YtblmakgjdenpfaaGreatDoor.AM
namespace Go.Proofs.YtblmakgjdenpfaaGreatDoor.AM
open Go
section
variable {cl : Nat → Int}
end
end Go.Proofs.YtblmakgjdenpfaaGreatDoor.AM
namespace Go.Proofs.YtblmakgjdenpfaaGreatDoor.AM
open Go
def sl3 (e : Nat) (v a b c : Value) : Option Value := (POp.sl e (.c v) (some (.c a)) (some (.c b)) (some (.c c))).ev []
theorem ev_sl3 {fr : Fr} {e : Nat} {x a b c : Opd} : (POp.sl e x (some a) (some b) (some c)).ev fr = sl3 e (opd fr x) (opd fr a) (opd fr b) (opd fr c) := rfl
attribute [push_cast] ev_sl3
end Go.Proofs.YtblmakgjdenpfaaGreatDoor.AM
namespace Go.Proofs.YtblmakgjdenpfaaGreatDoor.AM
open Go
theorem of_house {h : AH} {S : TS} (t : TabAt h S houseT) (u : U8T h) (hg : 2 ≤ h.n) : WpC PX 8 [.agg S.vs.toArray] h fun v h' => Kp h h' ∧ ∃ k B S, v = .tuple (List.toArray [.pointer (some ⟨k, 0, none⟩), .bool true, .bool true]) ∧ BookAt h' k B S houseT ∧ h.n ≤ B ∧ h.n ≤ k :=
  (of_spec t u hg).mono fun v h' ⟨k, q⟩ => ⟨k, by rwa [if_pos house_good] at q⟩
end Go.Proofs.YtblmakgjdenpfaaGreatDoor.AM
namespace Go.Proofs.YtblmakgjdenpfaaGreatDoor.AM
open Go
theorem good_check {T : Tab} (h : goodB T = true) : checkW T = none := by
  unfold goodB at h
  simp only [Bool.and_eq_true, Option.isNone_iff_eq_none] at h
  exact h.2
section
variable {cl : Nat → Int}
end
end Go.Proofs.YtblmakgjdenpfaaGreatDoor.AM
namespace Go.Proofs.YtblmakgjdenpfaaGreatDoor.AM
open Go
end Go.Proofs.YtblmakgjdenpfaaGreatDoor.AM
namespace Go.Proofs.YtblmakgjdenpfaaGreatDoor.AM
open Go
def LF_strings_Builder_WriteRune : LFunc :=
  .mk 2 [.tmp 4, .tmp 5] (.seq (R 999 [0, 1] [.set 4 (xi 0), .set 5 (.cv .nilIface)]) (.seq (R 7 [0, 1] [.tmp 8 (xc1 74 (.va 0))]) (.seq (R 9 [0, 1, 6]
  [.set 6 (xlen (xld (xfa 1 (xnk (.va 0)))))]) (.seq (R 14 [0, 6] [.tmp 14 (.va 0), .tmp 20 (xc2 75 (xld (xfa 1 (xnk (.va 0)))) (.va 1)), .run (xst 1 (xfa 1 (xnk
  (.sl 14))) (.sl 20))]) (.seq (R 23 [4, 5] [.set 4 (xb .sub (xlen (xld (xfa 1 (xnk (.va 0))))) (.va 6)), .set 5 (.cv .nilIface)]) .ret)))))
theorem fn_strings_Builder_WriteRune : (autoPrg Tryz.prog).fn 41 = some LF_strings_Builder_WriteRune := by kernel_rfl
def LF_utf8_AppendRune : LFunc :=
  .mk 2 [.tmp 4] (.seq (R 999 [0, 1] [.set 4 (.cv (.slice none 0 0))]) (.seq (.seq (R 5 [0, 1, 7] [.tmp 7 (xb .leq (xcn .u32 (.va 1)) (.cv (.int .u32 127)))]) (.cond (.s 7) (.seq (R
  8 [4] [.set 4 (.op (.e (.appendT 10 1 1 (.s 0) (.s 1))) (.cons (.va 0) (.op (.e (.litL 11 1 1 [.int .u8 0] [(0, 1, .s 0)])) (xcn .u8 (.va 1)))))]) .ret) .skip)) (.seq (R
  13 [4] [.set 4 (xc2 120 (.va 0) (.va 1))]) .ret)))
theorem fn_utf8_AppendRune : (autoPrg Tryz.prog).fn 75 = some LF_utf8_AppendRune := by kernel_rfl
def LF_utf8_appendRuneNonASCII : LFunc :=
  .mk 2 [.tmp 4] (.seq (R 999 [0, 1] [.set 4 (.cv (.slice none 0 0))]) (.seq (R 6 [0, 1, 5] [.set 5 (xcn .u32 (.va 1))]) (.block 0 (.seq (R 12 [0, 1, 5, 11] [.set 11 (xb .leq (.va
  5) (.cv (.int .u32 2047)))]) (.cond (.s 11) (.seq (R 14 [4] [.set 4 (.op (.e (.appendT 10 1 1 (.s 0) (.s 1))) (.cons (.va 0) (.op (.e (.litL 23 2 1 [.int .u8 0] [(0, 1,
  .s 0), (1, 1, .s 1)])) (.cons (xb .or (.cv (.int .u8 192)) (xcn .u8 (xb .shr (.va 1) (.cv (.int .u64 6))))) (xb .or (.cv (.int .u8 128)) (xb .and (xcn .u8 (.va 1)) (.cv (.int .u8
  63))))))))]) .ret) (.seq (.seq (R 26 [0, 1, 5, 25] [.set 25 (xb .lss (.va 5) (.cv (.int .u32 55296)))]) (.cond (.s 25) .skip (R 28 [0, 1, 5, 25] [.set 25 (.and (xb .lss (.cv (.int
  .u32 57343)) (.va 5)) (xb .leq (.va 5) (.cv (.int .u32 65535))))]))) (.cond (.s 25) (.seq (R 34 [4] [.set 4 (.op (.e (.appendT 10 1 1 (.s 0) (.s 1))) (.cons (.va 0) (.op
  (.e (.litL 48 3 1 [.int .u8 0] [(0, 1, .s 0), (1, 1, .s 1), (2, 1, .s 2)])) (.cons (xb .or (.cv (.int .u8 224)) (xcn .u8 (xb .shr (.va 1) (.cv (.int .u64 12))))) (.cons (xb .or
  (.cv (.int .u8 128)) (xb .and (xcn .u8 (xb .shr (.va 1) (.cv (.int .u64 6)))) (.cv (.int .u8 63)))) (xb .or (.cv (.int .u8 128)) (xb .and (xcn .u8 (.va 1)) (.cv (.int .u8
  63)))))))))]) .ret) (.seq (R 51 [0, 1, 50] [.set 50 (.and (xb .gtr (.va 5) (.cv (.int .u32 65535))) (xb .leq (.va 5) (.cv (.int .u32 1114111))))]) (.cond (.s 50) (.seq (R 57 [4]
  [.set 4 (.op (.e (.appendT 10 1 1 (.s 0) (.s 1))) (.cons (.va 0) (.op (.e (.litL 76 4 1 [.int .u8 0] [(0, 1, .s 0), (1, 1, .s 1), (2, 1, .s 2), (3, 1, .s 3)])) (.cons (xb
  .or (.cv (.int .u8 240)) (xcn .u8 (xb .shr (.va 1) (.cv (.int .u64 18))))) (.cons (xb .or (.cv (.int .u8 128)) (xb .and (xcn .u8 (xb .shr (.va 1) (.cv (.int .u64 12)))) (.cv (.int
  .u8 63)))) (.cons (xb .or (.cv (.int .u8 128)) (xb .and (xcn .u8 (xb .shr (.va 1) (.cv (.int .u64 6)))) (.cv (.int .u8 63)))) (xb .or (.cv (.int .u8 128)) (xb .and (xcn .u8 (.va
  1)) (.cv (.int .u8 63))))))))))]) .ret) (.seq (R 8 [4] [.set 4 (.op (.e (.appendT 10 1 1 (.s 0) (.s 1))) (.cons (.va 0) (.op (.e (.litL 9 3 1 [.int .u8 0] [(0, 1, .s 0),
  (1, 1, .s 1), (2, 1, .s 2)])) (.cons (.cv (.int .u8 239)) (.cons (.cv (.int .u8 191)) (.cv (.int .u8 189)))))))]) .ret))))))))))
theorem fn_utf8_appendRuneNonASCII : (autoPrg Tryz.prog).fn 120 = some LF_utf8_appendRuneNonASCII := by kernel_rfl
end Go.Proofs.YtblmakgjdenpfaaGreatDoor.AM
namespace Go.Proofs.YtblmakgjdenpfaaGreatDoor.AM
open Go
theorem ev_newT {c : CallF} {y : YieldF} {fr : Fr} {lc : Lc} {h : AH} {t : Nat} {z : List Value} : (EOp.newT t z).ev c y fr ⟨lc, h⟩ = some (.pointer (some ⟨h.n, 0, none⟩), ⟨lc, h.push (.tc t z)⟩) := rfl
attribute [push_cast] ev_newT
def bufS (g : Option Nat) (n : Nat) : Sl := match g with
  | none => .nil
  | some g => .at g 0 n
def BufAt (h : AH) (g : Option Nat) (X : Bytes) : Prop := match g with
  | none => X = []
  | some g => X ≠ [] ∧ h.get g = some (.tc 10 (bytesV X))
structure BldAt (h : AH) (b : Nat) (g : Option Nat) (X : Bytes) : Prop where
  p : ∃ p, h.get b = some (.tc 163 [p, (bufS g X.length).val 1]) ∧ (p = .pointer none ∨ p = .pointer (some ⟨b, 0, none⟩))
  u : BufAt h g X
  ne : g ≠ some b
structure BFr (h h' : AH) (b : Nat) (g g' : Option Nat) : Prop where
  n : h.n ≤ h'.n
  keep : ∀ c, c < h.n → c ≠ b → g ≠ some c → h'.get c = h.get c
  new : g' = g ∨ ∃ x, g' = some x ∧ h.n ≤ x
def killO (h : AH) : Option Nat → AH
  | none => h
  | some g => h.kill g
theorem killO_n (h : AH) (g : Option Nat) : (killO h g).n = h.n := by cases g <;> rfl
theorem killO_get {h : AH} {g : Option Nat} {c : Nat} (hc : g ≠ some c) : (killO h g).get c = h.get c := by
  cases g with
  | none => rfl
  | some g => exact AH.get_kill_ne (fun e => hc (by rw [e]))
theorem bytesV_app (X Y : Bytes) : bytesV (X ++ Y) = bytesV X ++ bytesV Y := by simp [bytesV]
theorem bytesV_len (X : Bytes) : (bytesV X).length = X.length := by simp [bytesV]
theorem app_buf {h : AH} {lc : Lc} {g : Option Nat} {X Y : Bytes} {y : Value} {k : Nat} (hb : BufAt h g X) (hk : lenV y = some k) (hy : rdSlice ⟨lc, h⟩ 1 y = some (bytesV Y)) (hl : Y.length = k) (h0 : 0 < k) (hn : X.length + k ≤ 140737488355328) :
    appendG (some 10) 1 1 ⟨lc, h⟩ ((bufS g X.length).val 1) y = some (.slice (some ⟨h.n, 0, none⟩) (X.length + k) 1, ⟨lc, (killO h g).push (.tc 10 (bytesV (X ++ Y)))⟩) := by
  have hlen : (bytesV Y).length = k * 1 := by rw [bytesV_len, hl, Nat.mul_one]
  cases g with
  | none =>
    have hX : X = [] := hb
    subst hX
    simp only [List.length_nil, Nat.zero_add] at hn
    simp only [bufS, Sl.val, appendG, hk, hy, hlen, if_true, AObj.mk, killO, List.nil_append, List.length_nil, Nat.zero_add]
    rw [if_neg (by omega), if_pos ⟨by omega, by decide, by decide⟩]
  | some g =>
    obtain ⟨hX, hg⟩ := hb
    simp only [bufS, Sl.val, appendG, hk, hy, hlen, if_true, AObj.mk, killO]
    rw [if_neg (by omega)]
    simp only [hg, AObj.own, if_true]
    rw [if_pos ⟨by rw [bytesV_len]; omega, by omega, by decide, by decide, trivial⟩, bytesV_app]
    rfl
section
variable {p : Prg} {lc : Lc} {h : AH} {H : Value → Lc → AH → Prop}
theorem wo_appB {g : Option Nat} {X Y : Bytes} {b k : Nat} {cs : List Value} (hb : BufAt h g X) (hl : lget lc b = some (.cells false cs)) (hc : cs = bytesV Y) (hk : Y.length = k) (h0 : 0 < k) (hn : X.length + k ≤ 140737488355328)
    (hq : H (.slice (some ⟨h.n, 0, none⟩) (X.length + k) 1) lc ((killO h g).push (.tc 10 (bytesV (X ++ Y))))) : WpO p (.e (.appendT 10 1 1 (.s 0) (.s 1))) [(bufS g X.length).val 1, .slice (some ⟨b, 0, some 1⟩) k 1] lc h H := by
  refine wo_e (v := .slice (some ⟨h.n, 0, none⟩) (X.length + k) 1) (lc' := lc) ?_ hq
  simp only [EOp.ev, opd_s, fg0, fg1]
  refine app_buf hb rfl ?_ hk h0 hn
  subst hc
  simp only [rdSlice, rd_loc, hl, Nat.mul_one]
  rw [if_neg (by omega), if_pos (by rw [bytesV_len]; omega), List.drop_zero, List.take_of_length_le (by rw [bytesV_len]; omega)]
end
theorem copyCheck_spec {h : AH} {b : Nat} {g : Option Nat} {X : Bytes} (bd : BldAt h b g X) :
    ∃ h1, callO PX 74 [.pointer (some ⟨b, 0, none⟩)] h = some (.tuple #[], h1) ∧ h1.n = h.n ∧ (∀ c, c ≠ b → h1.get c = h.get c) ∧ h1.get b = some (.tc 163 [.pointer (some ⟨b, 0, none⟩), (bufS g X.length).val 1]) := by
  obtain ⟨p, hp, hor⟩ := bd.p
  rw [callO_ext (g := cpyX 81) (by unfold PX; rw [withExt_ext]; rfl)]
  unfold cpyX
  rcases hor with rfl | rfl
  · refine ⟨h.set b (.tc 163 [.pointer (some ⟨b, 0, none⟩), (bufS g X.length).val 1]), ?_, rfl, fun c hc => AH.get_set_ne _ hc, AH.get_set_same _ (AH.get_lt hp)⟩
    simp only [hp]
    rfl
  · refine ⟨h, ?_, rfl, fun c _ => rfl, hp⟩
    simp only [hp]
    simp
theorem bldString_spec {h : AH} {b : Nat} {g : Option Nat} {X : Bytes} (bd : BldAt h b g X) (hX : X.length ≤ 140737488355328) :
    callO PX 42 [.pointer (some ⟨b, 0, none⟩)] h = some (.string (bs X), killO h g) := by
  obtain ⟨p, hp, hor⟩ := bd.p
  rw [callO_ext (g := strX 81 5) (by unfold PX; rw [withExt_ext]; rfl)]
  unfold strX
  simp only [hp]
  cases g with
  | none =>
    have : X = [] := bd.u
    subst this
    rfl
  | some g =>
    obtain ⟨h1, h2⟩ := bd.u
    have hpos : 0 < X.length := List.length_pos_iff.2 h1
    simp only [bufS, Sl.val, h2, bytesX_bytesV, if_true]
    rw [if_pos ⟨trivial, trivial, hpos, hX⟩]
    rfl
end Go.Proofs.YtblmakgjdenpfaaGreatDoor.AM
namespace Go.Proofs.YtblmakgjdenpfaaGreatDoor.AM
open Go
theorem u8_fin : (∀ m : Fin 64, IntKind.u8.wrap ((BitVec.ofInt 8 128 ||| BitVec.ofInt 8 ((m.val : Nat) : Int)).toNat : Int) = ((128 + m.val : Nat) : Int)) ∧ (∀ m : Fin 32, IntKind.u8.wrap ((BitVec.ofInt 8 192 ||| BitVec.ofInt 8 ((m.val : Nat) : Int)).toNat : Int) = ((192 + m.val : Nat) : Int)) ∧
    (∀ m : Fin 16, IntKind.u8.wrap ((BitVec.ofInt 8 224 ||| BitVec.ofInt 8 ((m.val : Nat) : Int)).toNat : Int) = ((224 + m.val : Nat) : Int)) ∧ (∀ m : Fin 8, IntKind.u8.wrap ((BitVec.ofInt 8 240 ||| BitVec.ofInt 8 ((m.val : Nat) : Int)).toNat : Int) = ((240 + m.val : Nat) : Int)) := by
  decide
set_option maxRecDepth 10000 in
theorem u8_and : ∀ m : Fin 256, IntKind.u8.wrap ((BitVec.ofInt 8 ((m.val : Nat) : Int) &&& BitVec.ofInt 8 63).toNat : Int) = ((m.val % 64 : Nat) : Int) := by
  decide
theorem oru128 {m : Nat} (h : m < 64) : binA .or (.int .u8 128) (.int .u8 m) = some (.int .u8 ((128 + m : Nat) : Int)) := congrArg (fun z => some (Value.int .u8 z)) (u8_fin.1 ⟨m, h⟩)
theorem oru192 {m : Nat} (h : m < 32) : binA .or (.int .u8 192) (.int .u8 m) = some (.int .u8 ((192 + m : Nat) : Int)) := congrArg (fun z => some (Value.int .u8 z)) (u8_fin.2.1 ⟨m, h⟩)
theorem oru224 {m : Nat} (h : m < 16) : binA .or (.int .u8 224) (.int .u8 m) = some (.int .u8 ((224 + m : Nat) : Int)) := congrArg (fun z => some (Value.int .u8 z)) (u8_fin.2.2.1 ⟨m, h⟩)
theorem oru240 {m : Nat} (h : m < 8) : binA .or (.int .u8 240) (.int .u8 m) = some (.int .u8 ((240 + m : Nat) : Int)) := congrArg (fun z => some (Value.int .u8 z)) (u8_fin.2.2.2 ⟨m, h⟩)
theorem andu63 {q : Nat} : binA .and (.int .u8 ((q % 256 : Nat) : Int)) (.int .u8 63) = some (.int .u8 ((q % 64 : Nat) : Int)) := by
  have h := u8_and ⟨q % 256, Nat.mod_lt _ (by decide)⟩
  simp only [show q % 256 % 64 = q % 64 by omega] at h
  exact congrArg (fun z => some (Value.int .u8 z)) h
theorem shrs {k : Nat} {c m : Nat} (hk : m = 2 ^ (min k 32)) : binA .shr (.int .i32 c) (.int .u64 k) = some (.int .i32 ((c / m : Nat) : Int)) := by
  show (if (k : Int) < 0 then none else some (Value.int .i32 ((c : Int).fdiv (2 ^ (min (k : Int).toNat 32))))) = _
  rw [if_neg (by omega), Int.fdiv_eq_ediv_of_nonneg _ (Int.le_of_lt (Int.pow_pos (by decide))), hk, Int.toNat_natCast]
  congr 2
theorem wrapu8 (q : Nat) : IntKind.u8.wrap (q : Int) = ((q % 256 : Nat) : Int) := by
  unfold IntKind.wrap
  simp [IntKind.signed, IntKind.bits]
theorem wrapu32 {q : Nat} (h : q < 4294967296) : IntKind.u32.wrap (q : Int) = (q : Int) := by
  unfold IntKind.wrap
  simp [IntKind.signed, IntKind.bits]
  omega
theorem bytesV_ofs : ∀ {l : List Nat}, (∀ m ∈ l, m < 256) → bytesV (l.map UInt8.ofNat) = l.map fun m : Nat => Value.int .u8 m
  | [], _ => rfl
  | m :: l, h => by
    rw [List.map_cons, List.map_cons, ← bytesV_ofs (l := l) fun x hx => h x (by simp [hx])]
    show Value.int .u8 (((UInt8.ofNat m).toNat : Nat) : Int) :: _ = _
    rw [of_small (h m (by simp))]
    rfl
set_option maxRecDepth 20000 in
theorem appRune_spec {c : Nat} (hc : RuneN c) {h : AH} {g : Option Nat} {X : Bytes} (hb : BufAt h g X) (hn : X.length ≤ 140737488355000) :
    callO PX 75 [(bufS g X.length).val 1, .int .i32 c] h = some (.slice (some ⟨h.n, 0, none⟩) (X.length + (encN c).length) 1, (killO h g).push (.tc 10 (bytesV (X ++ encN c)))) := by
  have hc2 : c ≤ 1114111 := by unfold RuneN at hc; omega
  have hsur : ¬ (55296 ≤ c ∧ c ≤ 57343) := by unfold RuneN at hc; omega
  clear hc
  have w8 := wrapu8
  have w32 := wrapu32 (q := c) (by omega)
  apply WpC.eqn
  by_cases g1 : c < 128
  · have he : encN c = [c].map UInt8.ofNat := by unfold encN; rw [if_pos g1]; rfl
    have hv := bytesV_ofs (l := [c]) (fun m hm => by simp at hm; omega)
    rw [← he] at hv
    simp only [List.map_cons, List.map_nil] at hv
    have hm : c % 256 = c := Nat.mod_eq_of_lt (by omega)
    have hl : (encN c).length = 1 := by rw [he]; rfl
    generalize encN c = Y at *
    refine wpc_fn (px_ext rfl) (px_fn fn_utf8_AppendRune) rfl ?_
    unfold LF_utf8_AppendRune
    simp only [argFr]
    (refine W_x (Aj w32 (Aj w8 hm)) ?_; (repeat' first | apply Cj.mk | exact Nl.nl) <;> intros)
    refine wo_appB hb rfl hv.symm hl (by decide) (by omega) ?_
    (refine W_x trivial ?_; (repeat' first | apply Cj.mk | exact Nl.nl) <;> intros)
    rw [hl]
    exact ⟨rfl, rfl⟩
  · obtain ⟨q6, e6⟩ : ∃ q, q = c / 64 := ⟨_, rfl⟩
    obtain ⟨q12, e12⟩ : ∃ q, q = c / 4096 := ⟨_, rfl⟩
    obtain ⟨q18, e18⟩ : ∃ q, q = c / 262144 := ⟨_, rfl⟩
    obtain ⟨x0, d0⟩ : ∃ q, q = c % 256 := ⟨_, rfl⟩
    obtain ⟨x6, d6⟩ : ∃ q, q = q6 % 256 := ⟨_, rfl⟩
    obtain ⟨x12, d12⟩ : ∃ q, q = q12 % 256 := ⟨_, rfl⟩
    obtain ⟨x18, d18⟩ : ∃ q, q = q18 % 256 := ⟨_, rfl⟩
    obtain ⟨r0, f0⟩ : ∃ q, q = c % 64 := ⟨_, rfl⟩
    obtain ⟨r6, f6⟩ : ∃ q, q = q6 % 64 := ⟨_, rfl⟩
    obtain ⟨r12, f12⟩ : ∃ q, q = q12 % 64 := ⟨_, rfl⟩
    have s6 : binA .shr (.int .i32 c) (.int .u64 6) = some (.int .i32 (q6 : Int)) := by rw [e6]; exact shrs (k := 6) (m := 64) rfl
    have s12 : binA .shr (.int .i32 c) (.int .u64 12) = some (.int .i32 (q12 : Int)) := by rw [e12]; exact shrs (k := 12) (m := 4096) rfl
    have s18 : binA .shr (.int .i32 c) (.int .u64 18) = some (.int .i32 (q18 : Int)) := by rw [e18]; exact shrs (k := 18) (m := 262144) rfl
    have w0 : IntKind.u8.wrap (c : Int) = (x0 : Int) := by rw [d0]; exact wrapu8 c
    have w6 : IntKind.u8.wrap (q6 : Int) = (x6 : Int) := by rw [d6]; exact wrapu8 q6
    have w12 : IntKind.u8.wrap (q12 : Int) = (x12 : Int) := by rw [d12]; exact wrapu8 q12
    have w18 : IntKind.u8.wrap (q18 : Int) = (x18 : Int) := by rw [d18]; exact wrapu8 q18
    have a0 : binA .and (.int .u8 x0) (.int .u8 63) = some (.int .u8 (r0 : Int)) := by rw [d0, f0]; exact andu63
    have a6 : binA .and (.int .u8 x6) (.int .u8 63) = some (.int .u8 (r6 : Int)) := by rw [d6, f6]; exact andu63
    have a12 : binA .and (.int .u8 x12) (.int .u8 63) = some (.int .u8 (r12 : Int)) := by rw [d12, f12]; exact andu63
    have o0 := oru128 (m := r0) (by omega)
    have o6 := oru128 (m := r6) (by omega)
    have o12 := oru128 (m := r12) (by omega)
    have hE : encN c = if c < 0x800 then [192 + q6, 128 + r0].map UInt8.ofNat else if c < 0x10000 then [224 + q12, 128 + r6, 128 + r0].map UInt8.ofNat else [240 + q18, 128 + r12, 128 + r6, 128 + r0].map UInt8.ofNat := by
      unfold encN
      rw [if_neg g1, e6, e12, e18, f0, f6, f12, e6, e12]
      rfl
    have b0 : r0 < 64 := by omega
    have b6 : r6 < 64 := by omega
    have b12 : r12 < 64 := by omega
    by_cases g2 : c < 2048
    · have hm : x6 = q6 := by omega
      have p1 := oru192 (m := q6) (by omega)
      have hb1 : q6 < 32 := by omega
      rw [hm] at w6
      rw [if_pos g2] at hE
      clear e6 e12 e18 d0 d6 d12 d18 f0 f6 f12
      have hv := bytesV_ofs (l := [192 + q6, 128 + r0]) (fun m hm => by simp at hm; omega)
      rw [← hE] at hv
      simp only [List.map_cons, List.map_nil, Int.natCast_add, Int.cast_ofNat_Int] at hv
      have hl : (encN c).length = 2 := by rw [hE]; rfl
      have e1 : callO PX 120 [(bufS g X.length).val 1, .int .i32 c] h = some (.slice (some ⟨h.n, 0, none⟩) (X.length + (encN c).length) 1, (killO h g).push (.tc 10 (bytesV (X ++ encN c)))) := by
        generalize encN c = Y at *
        apply WpC.eqn
        refine wpc_fn (px_ext rfl) (px_fn fn_utf8_appendRuneNonASCII) rfl ?_
        unfold LF_utf8_appendRuneNonASCII
        simp only [argFr]
        (refine W_x (Aj w32 (Aj w0 (Aj w6 (Aj s6 (Aj a0 (Aj o0 p1)))))) ?_; (repeat' first | apply Cj.mk | exact Nl.nl) <;> intros)
        all_goals first
        | (exfalso; omega)
        | (refine wo_appB hb rfl hv.symm hl (by decide) (by omega) ?_
           (refine W_x trivial ?_; (repeat' first | apply Cj.mk | exact Nl.nl) <;> intros)
           rw [hl]
           exact ⟨rfl, rfl⟩)
      generalize encN c = Y at *
      refine wpc_fn (px_ext rfl) (px_fn fn_utf8_AppendRune) rfl ?_
      unfold LF_utf8_AppendRune
      simp only [argFr]
      (refine W_x (Aj w32 e1) ?_; (repeat' first | apply Cj.mk | exact Nl.nl) <;> intros)
      exact ⟨rfl, rfl⟩
    · by_cases g3 : c < 65536
      · have hm : x12 = q12 := by omega
        have p1 := oru224 (m := q12) (by omega)
        have hb1 : q12 < 16 := by omega
        rw [hm] at w12
        rw [if_neg g2, if_pos g3] at hE
        clear e6 e12 e18 d0 d6 d12 d18 f0 f6 f12
        have hv := bytesV_ofs (l := [224 + q12, 128 + r6, 128 + r0]) (fun m hm => by simp at hm; omega)
        rw [← hE] at hv
        simp only [List.map_cons, List.map_nil, Int.natCast_add, Int.cast_ofNat_Int] at hv
        have hl : (encN c).length = 3 := by rw [hE]; rfl
        have e1 : callO PX 120 [(bufS g X.length).val 1, .int .i32 c] h = some (.slice (some ⟨h.n, 0, none⟩) (X.length + (encN c).length) 1, (killO h g).push (.tc 10 (bytesV (X ++ encN c)))) := by
          generalize encN c = Y at *
          apply WpC.eqn
          refine wpc_fn (px_ext rfl) (px_fn fn_utf8_appendRuneNonASCII) rfl ?_
          unfold LF_utf8_appendRuneNonASCII
          simp only [argFr]
          (refine W_x (Aj w32 (Aj w0 (Aj w6 (Aj w12 (Aj s6 (Aj s12 (Aj a0 (Aj a6 (Aj o0 (Aj o6 p1)))))))))) ?_; (repeat' first | apply Cj.mk | exact Nl.nl) <;> intros)
          all_goals first
          | (exfalso; omega)
          | (refine wo_appB hb rfl hv.symm hl (by decide) (by omega) ?_
             (refine W_x trivial ?_; (repeat' first | apply Cj.mk | exact Nl.nl) <;> intros)
             rw [hl]
             exact ⟨rfl, rfl⟩)
        generalize encN c = Y at *
        refine wpc_fn (px_ext rfl) (px_fn fn_utf8_AppendRune) rfl ?_
        unfold LF_utf8_AppendRune
        simp only [argFr]
        (refine W_x (Aj w32 e1) ?_; (repeat' first | apply Cj.mk | exact Nl.nl) <;> intros)
        exact ⟨rfl, rfl⟩
      · have hm : x18 = q18 := by omega
        have p1 := oru240 (m := q18) (by omega)
        have hb1 : q18 < 8 := by omega
        rw [hm] at w18
        rw [if_neg g2, if_neg g3] at hE
        clear e6 e12 e18 d0 d6 d12 d18 f0 f6 f12
        have hv := bytesV_ofs (l := [240 + q18, 128 + r12, 128 + r6, 128 + r0]) (fun m hm => by simp at hm; omega)
        rw [← hE] at hv
        simp only [List.map_cons, List.map_nil, Int.natCast_add, Int.cast_ofNat_Int] at hv
        have hl : (encN c).length = 4 := by rw [hE]; rfl
        have e1 : callO PX 120 [(bufS g X.length).val 1, .int .i32 c] h = some (.slice (some ⟨h.n, 0, none⟩) (X.length + (encN c).length) 1, (killO h g).push (.tc 10 (bytesV (X ++ encN c)))) := by
          generalize encN c = Y at *
          apply WpC.eqn
          refine wpc_fn (px_ext rfl) (px_fn fn_utf8_appendRuneNonASCII) rfl ?_
          unfold LF_utf8_appendRuneNonASCII
          simp only [argFr]
          (refine W_x (Aj w32 (Aj w0 (Aj w6 (Aj w12 (Aj w18 (Aj s6 (Aj s12 (Aj s18 (Aj a0 (Aj a6 (Aj a12 (Aj o0 (Aj o6 (Aj o12 p1)))))))))))))) ?_; (repeat' first | apply Cj.mk | exact Nl.nl) <;> intros)
          all_goals first
          | (exfalso; omega)
          | (refine wo_appB hb rfl hv.symm hl (by decide) (by omega) ?_
             (refine W_x trivial ?_; (repeat' first | apply Cj.mk | exact Nl.nl) <;> intros)
             rw [hl]
             exact ⟨rfl, rfl⟩)
        generalize encN c = Y at *
        refine wpc_fn (px_ext rfl) (px_fn fn_utf8_AppendRune) rfl ?_
        unfold LF_utf8_AppendRune
        simp only [argFr]
        (refine W_x (Aj w32 e1) ?_; (repeat' first | apply Cj.mk | exact Nl.nl) <;> intros)
        exact ⟨rfl, rfl⟩
theorem writeRune_spec {c : Nat} (hc : RuneN c) {h : AH} {b : Nat} {g : Option Nat} {X : Bytes} (bd : BldAt h b g X) (hn : X.length ≤ 140737488355000) :
    WpC PX 41 [.pointer (some ⟨b, 0, none⟩), .int .i32 c] h fun v h' => ∃ g', BldAt h' b g' (X ++ encN c) ∧ BFr h h' b g g' := by
  obtain ⟨h1, e1, n1, k1, q1⟩ := copyCheck_spec bd
  have hu := bd.u
  have hne := bd.ne
  have hbn := AH.get_lt q1
  have hb1 : BufAt h1 g X := by
    cases g with
    | none => exact hu
    | some g => exact ⟨hu.1, (k1 g (fun e => hne (by rw [e]))).trans hu.2⟩
  have e2 := appRune_spec hc hb1 hn
  have hl := encN_len c
  generalize encN c = Y at *
  have hk : ((killO h1 g).push (.tc 10 (bytesV (X ++ Y)))).get b = some (.tc 163 [.pointer (some ⟨b, 0, none⟩), (bufS g X.length).val 1]) := by
    rw [AH.get_push_ne _ (by rw [killO_n]; omega), killO_get hne]
    exact q1
  have hK : ∀ c, c < h.n → c ≠ b → g ≠ some c → ((killO h1 g).push (.tc 10 (bytesV (X ++ Y)))).get c = h.get c := fun c hc hcb hg => by
    rw [AH.get_push_ne _ (by rw [killO_n]; omega), killO_get hg]
    exact k1 c hcb
  have hN : ((killO h1 g).push (.tc 10 (bytesV (X ++ Y)))).n = h.n + 1 := by rw [AH.push_n, killO_n, n1]
  have hG : ((killO h1 g).push (.tc 10 (bytesV (X ++ Y)))).get h.n = some (.tc 10 (bytesV (X ++ Y))) := by
    rw [← n1, ← killO_n h1 g]; exact AH.get_push_same _ _
  rw [n1] at e2
  generalize (killO h1 g).push (.tc 10 (bytesV (X ++ Y))) = h2 at *
  have hs : (bufS g X.length).len = X.length := by
    cases g with
    | none => have : X = [] := hu; subst this; rfl
    | some g => rfl
  refine wpc_fn (px_ext rfl) (px_fn fn_strings_Builder_WriteRune) rfl ?_
  unfold LF_strings_Builder_WriteRune
  simp only [argFr]
  (refine W_x (Aj e1 (Aj q1 (Aj e2 (Aj hk hs)))) ?_; (repeat' first | apply Cj.mk | exact Nl.nl) <;> intros)
  refine ⟨some h.n, ⟨⟨_, by rw [AH.get_set_same _ (by omega), List.length_append]; rfl, .inr rfl⟩, ⟨?_, ?_⟩, ?_⟩, ?_, ?_, ?_⟩
  · intro e
    have := congrArg List.length e
    rw [List.length_append, List.length_nil] at this
    omega
  · exact (AH.get_set_ne _ (show h.n ≠ b by omega)).trans hG
  · intro e; injection e with e; omega
  · rw [AH.set_n]; omega
  · intro c hc hcb hg
    rw [AH.get_set_ne _ hcb]
    exact hK c hc hcb hg
  · exact .inr ⟨_, rfl, Nat.le_refl _⟩
end Go.Proofs.YtblmakgjdenpfaaGreatDoor.AM
namespace Go.Proofs.YtblmakgjdenpfaaGreatDoor.AM
open Go
def LF_guiseref1_Spots : LFunc :=
  .mk 1 [.tmp 2] (.seq (R 999 [0] [.set 2 (.cv (.slice none 0 0))]) (.seq (R 999 [0, 3] [.set 3 (.cv (.slice none 0 0))]) (.seq (R 999 [0, 3, 4] [.set 4 (xi 0)]) (.seq (.block 0
  (.loop (.seq (.seq (R 8 [0, 3, 4, 11] [.tmp 11 (xb .lss (.va 4) (xsl (.va 0)))]) (.cond (.s 11) .skip (.exit 0))) (.block 1 (.seq (R 13 [0, 3, 4, 5, 6] [.set 12 (xc1
  49 (.op (.p (.slS (.s 0) (some (.s 1)) none)) (.cons (.va 0) (.va 4)))), .tmp 17 (xex 0 (.sl 12)), .tmp 18 (xex 1 (.sl 12)), .set 5 (.sl 17), .set 6 (.sl 18)])
  (.seq (R 19 [0, 3, 4, 5, 7] [.tmp 22 (.op (.p (.build [.int .i32 0, .int .i64 0, .int .i64 0, .bool false] [(0, 1, .s 0), (1, 1, .s 1), (2, 1, .s 2)])) (.cons (.va 6) (.cons (.va
  4) (.va 5)))), .at 7, .tmp 7 (xnl 7 [.int .i32 0, .int .i64 0, .int .i64 0, .bool false]), .run (xst 4 (.sl 7) (.sl 22))]) (.seq (.seq (R 23 [0, 3, 4, 7, 24] [.tmp 24 (xb .eql
  (.va 5) (xi 0))]) (.cond (.s 24) (R 25 [0, 3, 4, 7] [.run (xst 4 (.sl 7) (.op (.p (.build [.int .i32 0, .int .i64 0, .int .i64 0, .bool false] [(0, 1, .s 0), (1, 1, .s 1), (2, 1,
  .s 2), (3, 1, .s 3)])) (.cons (xr 65533) (.cons (.va 4) (.cons (xi 1) (.cv (.bool true)))))))]) .skip)) (.seq (R 27 [0, 3, 4, 7] [.set 3 (xap 4 32 (.va 3) (.op (.e (.litL 29 1 4
  [.int .i32 0, .int .i64 0, .int .i64 0, .bool false] [(0, 4, .s 0)])) (xln 4 (.sl 7))))]) (R 31 [0, 3, 4] [.set 4 (xb .add (.va 4) (xld (xfa 2 (.sl 7))))]))))))))) (.seq (R 35 [2]
  [.set 2 (.va 3)]) .ret)))))
theorem fn_guiseref1_Spots : (autoPrg Tryz.prog).fn 22 = some LF_guiseref1_Spots := by kernel_rfl
def LF_guiseref1_Bytes : LFunc :=
  .mk 1 [.tmp 2] (.seq (R 999 [0] [.set 2 (.cv (.slice none 0 0))]) (.seq (.seq (R 3 [0, 4] [.tmp 4 (xc1 81 (.va 0))]) (.block 0 (.seq (R 6 [0, 4, 5] [.set 5 (xb
  .eql (.sl 4) (xi 1))]) (.cond (.s 5) (.seq (R 7 [2] [.set 2 (.op (.e (.litH 1 1 [.int .u8 0] [(0, 1, .s 0)])) (xcn .u8 (.va 0)))]) .ret) (.seq (R 11 [0, 4, 10] [.set 10 (xb .eql
  (.sl 4) (xi 2))]) (.cond (.s 10) (.seq (R 12 [2] [.set 2 (.op (.e (.litH 2 1 [.int .u8 0] [(0, 1, .s 0), (1, 1, .s 1)])) (.cons (xcn .u8 (xb .or (xr 192) (xb .shr (.va 0) (.cv
  (.int .u64 6))))) (xcn .u8 (xb .or (xr 128) (xb .and (.va 0) (xr 63))))))]) .ret) (.seq (R 22 [0, 4, 21] [.set 21 (xb .eql (.sl 4) (xi 3))]) (.cond (.s 21) (.seq (R 23 [2] [.set 2
  (.op (.e (.litH 3 1 [.int .u8 0] [(0, 1, .s 0), (1, 1, .s 1), (2, 1, .s 2)])) (.cons (xcn .u8 (xb .or (xr 224) (xb .shr (.va 0) (.cv (.int .u64 12))))) (.cons (xcn .u8 (xb .or (xr
  128) (xb .and (xb .shr (.va 0) (.cv (.int .u64 6))) (xr 63)))) (xcn .u8 (xb .or (xr 128) (xb .and (.va 0) (xr 63)))))))]) .ret) (.seq (R 38 [0, 37] [.set 37 (xb .eql (.sl 4) (xi
  4))]) (.cond (.s 37) (.seq (R 39 [2] [.set 2 (.op (.e (.litH 4 1 [.int .u8 0] [(0, 1, .s 0), (1, 1, .s 1), (2, 1, .s 2), (3, 1, .s 3)])) (.cons (xcn .u8 (xb .or (xr 240) (xb .shr
  (.va 0) (.cv (.int .u64 18))))) (.cons (xcn .u8 (xb .or (xr 128) (xb .and (xb .shr (.va 0) (.cv (.int .u64 12))) (xr 63)))) (.cons (xcn .u8 (xb .or (xr 128) (xb .and (xb .shr (.va
  0) (.cv (.int .u64 6))) (xr 63)))) (xcn .u8 (xb .or (xr 128) (xb .and (.va 0) (xr 63))))))))]) .ret) .skip)))))))))) (.seq (R 999 [2] [.set 2 (.cv (.slice none 0 0))]) .ret)))
theorem fn_guiseref1_Bytes : (autoPrg Tryz.prog).fn 46 = some LF_guiseref1_Bytes := by kernel_rfl
def LF_guiseref1_Sequence : LFunc :=
  .mk 1 [.tmp 2, .tmp 3] (.seq (R 999 [0] [.set 2 (xi 0), .set 3 (xr 0)]) (.seq (.seq (R 10 [0, 12] [.tmp 12 (xb .eql (xsl (.va 0)) (xi 0))]) (.cond (.s 12) (.seq (R 999 [2, 3]
  [.set 2 (xi 0), .set 3 (xr 0)]) .ret) .skip)) (.seq (R 13 [0, 4] [.set 4 (xis (.va 0) (xi 0))]) (.seq (.seq (R 15 [0, 4, 16] [.tmp 16 (xb .lss (.va 4) (.cv (.int .u8 128)))])
  (.cond (.s 16) (.seq (R 17 [2, 3] [.tmp 18 (xcn .i32 (.va 4)), .set 2 (xi 1), .set 3 (.sl 18)]) .ret) .skip)) (.seq (R 20 [0, 4, 5, 6] [.set 19 (xc1 83 (.va 4)),
  .tmp 22 (xex 0 (.sl 19)), .tmp 23 (xex 1 (.sl 19)), .set 5 (.sl 22), .set 6 (.sl 23)]) (.seq (.seq (R 24 [0, 4, 42] [.tmp 42 (.or (.or (.or (xb .eql (.va 5) (.cv (.int .u8 0)))
  (xb .lss (xsl (.va 0)) (xi 2))) (xb .lss (xis (.va 0) (xi 1)) (.va 5))) (xb .gtr (xis (.va 0) (xi 1)) (.va 6)))]) (.cond (.s 42) (.seq (R 999 [2, 3] [.set 2 (xi 0), .set 3 (xr
  0)]) .ret) .skip)) (.seq (R 999 [0, 4, 7] [.set 7 (xi 2)]) (.seq (R 43 [0, 4, 7, 8] [.set 8 (xcn .i32 (xb .and (.va 4) (.cv (.int .u8 31))))]) (.seq (.seq (R 46 [0, 4, 7, 8, 47]
  [.tmp 47 (xb .geq (.va 4) (.cv (.int .u8 224)))]) (.cond (.s 47) (.seq (R 999 [0, 4, 7] [.set 7 (xi 3)]) (R 48 [0, 4, 7, 8] [.set 8 (xcn .i32 (xb .and (.va 4) (.cv (.int .u8
  15))))])) .skip)) (.seq (.seq (R 51 [0, 4, 7, 8, 52] [.tmp 52 (xb .geq (.va 4) (.cv (.int .u8 240)))]) (.cond (.s 52) (.seq (R 999 [0, 4, 7] [.set 7 (xi 4)]) (R 53 [0, 7, 8] [.set
  8 (xcn .i32 (xb .and (.va 4) (.cv (.int .u8 7))))])) .skip)) (.seq (.seq (R 999 [0, 7, 8, 9] [.set 9 (xi 1)]) (.block 0 (.loop (.seq (.seq (R 56 [0, 7, 8, 9, 58] [.tmp 58 (xb .lss
  (.va 9) (.va 7))]) (.cond (.s 58) .skip (.exit 0))) (.seq (.block 1 (.seq (.seq (R 61 [0, 7, 8, 9, 76] [.tmp 76 (.or (.or (xb .geq (.va 9) (xsl (.va 0))) (xb .lss (xis (.va 0)
  (.va 9)) (.cv (.int .u8 128)))) (xb .gtr (xis (.va 0) (.va 9)) (.cv (.int .u8 191))))]) (.cond (.s 76) (.seq (R 999 [2, 3] [.set 2 (xi 0), .set 3 (xr 0)]) .ret) .skip)) (R 77 [0,
  7, 8, 9] [.set 8 (xb .or (xb .shl (.va 8) (.cv (.int .u64 6))) (xcn .i32 (xb .and (xis (.va 0) (.va 9)) (.cv (.int .u8 63)))))]))) (R 59 [0, 7, 8, 9] [.set 9 (xb .add (.va 9) (xi
  1))])))))) (.seq (R 85 [2, 3] [.tmp 85 (.va 7), .tmp 86 (.va 8), .set 2 (.sl 85), .set 3 (.sl 86)]) .ret))))))))))))
theorem fn_guiseref1_Sequence : (autoPrg Tryz.prog).fn 49 = some LF_guiseref1_Sequence := by kernel_rfl
def LF_guiseref1_Width : LFunc :=
  .mk 1 [.tmp 2] (.seq (R 999 [0] [.set 2 (xi 0)]) (.seq (.block 0 (.seq (R 4 [0, 3] [.set 3 (.or (.or (xb .lss (.va 0) (xr 0)) (xb .gtr (.va 0) (xr 1114111))) (.and (xb .geq (.va
  0) (xr 55296)) (xb .leq (.va 0) (xr 57343))))]) (.cond (.s 3) (.seq (R 999 [2] [.set 2 (xi 0)]) .ret) (.seq (R 19 [0, 18] [.set 18 (xb .lss (.va 0) (xr 128))]) (.cond (.s 18)
  (.seq (R 999 [2] [.set 2 (xi 1)]) .ret) (.seq (R 22 [0, 21] [.set 21 (xb .lss (.va 0) (xr 2048))]) (.cond (.s 21) (.seq (R 999 [2] [.set 2 (xi 2)]) .ret) (.seq (R 25 [24] [.set 24
  (xb .lss (.va 0) (xr 65536))]) (.cond (.s 24) (.seq (R 999 [2] [.set 2 (xi 3)]) .ret) .skip))))))))) (.seq (R 999 [2] [.set 2 (xi 4)]) .ret)))
theorem fn_guiseref1_Width : (autoPrg Tryz.prog).fn 81 = some LF_guiseref1_Width := by kernel_rfl
def LF_guiseref1_second : LFunc :=
  .mk 1 [.tmp 2, .tmp 3] (.seq (R 999 [0] [.set 2 (.cv (.int .u8 0)), .set 3 (.cv (.int .u8 0))]) (.seq (.block 0 (.seq (.seq (R 5 [0, 4] [.set 4 (.and (xb .geq (.va 0) (.cv (.int
  .u8 194))) (xb .leq (.va 0) (.cv (.int .u8 223))))]) (.cond (.s 4) .skip (.seq (R 11 [0, 4] [.set 4 (.and (xb .geq (.va 0) (.cv (.int .u8 225))) (xb .leq (.va 0) (.cv (.int .u8
  236))))]) (.cond (.s 4) .skip (.seq (R 17 [0, 4] [.set 4 (xb .eql (.va 0) (.cv (.int .u8 238)))]) (.cond (.s 4) .skip (.seq (R 19 [0, 4] [.set 4 (xb .eql (.va 0) (.cv (.int .u8
  239)))]) (.cond (.s 4) .skip (R 21 [0, 4] [.set 4 (.and (xb .geq (.va 0) (.cv (.int .u8 241))) (xb .leq (.va 0) (.cv (.int .u8 243))))]))))))))) (.cond (.s 4) (.seq (R 999 [2, 3]
  [.set 2 (.cv (.int .u8 128)), .set 3 (.cv (.int .u8 191))]) .ret) (.seq (R 28 [0, 27] [.set 27 (xb .eql (.va 0) (.cv (.int .u8 224)))]) (.cond (.s 27) (.seq (R 999 [2, 3] [.set 2
  (.cv (.int .u8 160)), .set 3 (.cv (.int .u8 191))]) .ret) (.seq (R 31 [0, 30] [.set 30 (xb .eql (.va 0) (.cv (.int .u8 237)))]) (.cond (.s 30) (.seq (R 999 [2, 3] [.set 2 (.cv
  (.int .u8 128)), .set 3 (.cv (.int .u8 159))]) .ret) (.seq (R 34 [0, 33] [.set 33 (xb .eql (.va 0) (.cv (.int .u8 240)))]) (.cond (.s 33) (.seq (R 999 [2, 3] [.set 2 (.cv (.int
  .u8 144)), .set 3 (.cv (.int .u8 191))]) .ret) (.seq (R 37 [36] [.set 36 (xb .eql (.va 0) (.cv (.int .u8 244)))]) (.cond (.s 36) (.seq (R 999 [2, 3] [.set 2 (.cv (.int .u8 128)),
  .set 3 (.cv (.int .u8 143))]) .ret) .skip))))))))))) (.seq (R 999 [2, 3] [.set 2 (.cv (.int .u8 0)), .set 3 (.cv (.int .u8 0))]) .ret)))
theorem fn_guiseref1_second : (autoPrg Tryz.prog).fn 83 = some LF_guiseref1_second := by kernel_rfl
end Go.Proofs.YtblmakgjdenpfaaGreatDoor.AM
namespace Go.Proofs.YtblmakgjdenpfaaGreatDoor.AM
open Go
def secN (c : Nat) : Nat × Nat := if c = 0xe0 then (0xa0, 0xbf) else if c = 0xed then (0x80, 0x9f) else if c = 0xf0 then (0x90, 0xbf) else if c = 0xf4 then (0x80, 0x8f) else if 0xc2 ≤ c ∧ c ≤ 0xf4 then (0x80, 0xbf) else (0, 0)
theorem second_eq {c : Nat} (hc : c < 256) (h : AH) : callO PX 83 [.int .u8 c] h = some (.tuple (List.toArray [.int .u8 (secN c).1, .int .u8 (secN c).2]), h) := by
  apply WpC.eqn
  refine wpc_fn (px_ext rfl) (px_fn fn_guiseref1_second) rfl ?_
  unfold LF_guiseref1_second
  simp only [argFr]
  (refine W_x trivial ?_; (repeat' first | apply Cj.mk | exact Nl.nl) <;> intros)
  all_goals
    refine ⟨?_, rfl⟩
    unfold secN
    repeat' split
    all_goals first | rfl | (exfalso; omega)
end Go.Proofs.YtblmakgjdenpfaaGreatDoor.AM
namespace Go.Proofs.YtblmakgjdenpfaaGreatDoor.AM
open Go
def contN (b : Nat) : Prop := 128 ≤ b ∧ b ≤ 191
instance (b : Nat) : Decidable (contN b) := inferInstanceAs (Decidable (_ ∧ _))
def seqC (n b0 b1 b2 b3 : Nat) : Nat × Nat :=
  if b0 < 128 then (1, b0)
  else if (secN b0).1 = 0 ∨ n < 2 ∨ b1 < (secN b0).1 ∨ (secN b0).2 < b1 then (0, 0)
  else if b0 < 224 then (2, b0 % 32 * 64 + b1 % 64)
  else if n < 3 ∨ ¬ contN b2 then (0, 0)
  else if b0 < 240 then (3, (b0 % 16 * 64 + b1 % 64) * 64 + b2 % 64)
  else if n < 4 ∨ ¬ contN b3 then (0, 0)
  else (4, ((b0 % 8 * 64 + b1 % 64) * 64 + b2 % 64) * 64 + b3 % 64)
def seqN (l : Bytes) : Nat × Nat := seqC l.length (bat l 0) (bat l 1) (bat l 2) (bat l 3)
theorem bat_lt' (l : Bytes) (k : Nat) : bat l k < 256 := (l.getD k 0).toNat_lt
def decC (n b0 b1 b2 b3 : Nat) : Nat × Nat :=
  if b0 < 128 then (b0, 1)
  else if b0 / 32 = 6 ∧ 1 < n ∧ b1 / 64 = 2 then
    if 128 ≤ b0 % 32 * 64 + b1 % 64 then (b0 % 32 * 64 + b1 % 64, 2) else (65533, 1)
  else if (b0 / 16 = 14 ∧ 1 < n ∧ b1 / 64 = 2) ∧ 2 < n ∧ b2 / 64 = 2 then
    if 2048 ≤ b0 % 16 * 4096 + b1 % 64 * 64 + b2 % 64 ∧ RuneN (b0 % 16 * 4096 + b1 % 64 * 64 + b2 % 64) then (b0 % 16 * 4096 + b1 % 64 * 64 + b2 % 64, 3) else (65533, 1)
  else if ((b0 / 8 = 30 ∧ 1 < n ∧ b1 / 64 = 2) ∧ 2 < n ∧ b2 / 64 = 2) ∧ 3 < n ∧ b3 / 64 = 2 then
    if 65536 ≤ b0 % 8 * 262144 + b1 % 64 * 4096 + b2 % 64 * 64 + b3 % 64 ∧ RuneN (b0 % 8 * 262144 + b1 % 64 * 4096 + b2 % 64 * 64 + b3 % 64) then
      (b0 % 8 * 262144 + b1 % 64 * 4096 + b2 % 64 * 64 + b3 % 64, 4) else (65533, 1)
  else (65533, 1)
theorem decC_eq (l : Bytes) : dec1 l = decC l.length (bat l 0) (bat l 1) (bat l 2) (bat l 3) := by
  unfold dec1 bcont decC
  have hv : ∀ c : Nat, (Utf8.valid (c : Int) = true) = RuneN c := fun c => propext (valid_iff c)
  simp only [Bool.and_eq_true, beq_iff_eq, decide_eq_true_eq, ge_iff_le, hv]
theorem secN_cases (b0 : Nat) : (secN b0 = (0, 0) ∧ (b0 < 194 ∨ 244 < b0)) ∨ (secN b0 = (128, 191) ∧ 194 ≤ b0 ∧ b0 < 244 ∧ b0 ≠ 224 ∧ b0 ≠ 237 ∧ b0 ≠ 240) ∨ (secN b0 = (160, 191) ∧ b0 = 224) ∨ (secN b0 = (128, 159) ∧ b0 = 237) ∨ (secN b0 = (144, 191) ∧ b0 = 240) ∨ (secN b0 = (128, 143) ∧ b0 = 244) := by
  unfold secN
  repeat' split
  all_goals simp only [true_and, Prod.mk.injEq]
  all_goals omega
theorem seqC_dec {n b0 b1 b2 b3 : Nat} (hn : 0 < n) (h0 : b0 < 256) (h1 : b1 < 256) (h2 : b2 < 256) (h3 : b3 < 256) : seqC n b0 b1 b2 b3 = if isBad2 (decC n b0 b1 b2 b3) = true then (0, 0) else ((decC n b0 b1 b2 b3).2, (decC n b0 b1 b2 b3).1) := by
  have hgood : ∀ {w c : Nat}, seqC n b0 b1 b2 b3 = (w, c) → decC n b0 b1 b2 b3 = (c, w) → w ≠ 1 ∨ c ≠ 65533 → seqC n b0 b1 b2 b3 = if isBad2 (decC n b0 b1 b2 b3) = true then (0, 0) else ((decC n b0 b1 b2 b3).2, (decC n b0 b1 b2 b3).1) := fun hs hd hw => by
    rw [hs, hd, if_neg]
    simp only [isBad2, Bool.and_eq_true, beq_iff_eq]
    omega
  have hbad : seqC n b0 b1 b2 b3 = (0, 0) → decC n b0 b1 b2 b3 = (65533, 1) → seqC n b0 b1 b2 b3 = if isBad2 (decC n b0 b1 b2 b3) = true then (0, 0) else ((decC n b0 b1 b2 b3).2, (decC n b0 b1 b2 b3).1) := fun hs hd => by
    rw [hs, hd]; rfl
  by_cases a : b0 < 128
  · exact hgood (w := 1) (c := b0) (by unfold seqC; rw [if_pos a]) (by unfold decC; rw [if_pos a]) (by omega)
  by_cases b : b0 < 194 ∨ 244 < b0
  · have hs : (secN b0).1 = 0 := by rcases secN_cases b0 with h | h | h | h | h | h <;> first | (rw [h.1]; done) | (exfalso; omega)
    refine hbad (by unfold seqC; rw [if_neg a, if_pos (.inl hs)]) ?_
    unfold decC
    rw [if_neg a]
    by_cases c : b0 / 32 = 6 ∧ 1 < n ∧ b1 / 64 = 2
    · rw [if_pos c, if_neg (by omega)]
    · rw [if_neg c, if_neg (by omega)]
      by_cases d : ((b0 / 8 = 30 ∧ 1 < n ∧ b1 / 64 = 2) ∧ 2 < n ∧ b2 / 64 = 2) ∧ 3 < n ∧ b3 / 64 = 2
      · rw [if_pos d, if_neg (by unfold RuneN; omega)]
      · rw [if_neg d]
  have hz : ¬ (secN b0).1 = 0 := by rcases secN_cases b0 with h | h | h | h | h | h <;> first | (rw [h.1]; decide) | (exfalso; omega)
  by_cases ok1 : 1 < n ∧ (secN b0).1 ≤ b1 ∧ b1 ≤ (secN b0).2
  · have q1 : ¬ ((secN b0).1 = 0 ∨ n < 2 ∨ b1 < (secN b0).1 ∨ (secN b0).2 < b1) := by omega
    have hb1 : b1 / 64 = 2 := by
      rcases secN_cases b0 with h | h | h | h | h | h <;> (rw [h.1] at ok1 hz; simp only at ok1 hz; omega)
    by_cases c : b0 < 224
    · refine hgood (w := 2) (c := b0 % 32 * 64 + b1 % 64) (by unfold seqC; rw [if_neg a, if_neg q1, if_pos c]) ?_ (by omega)
      unfold decC
      rw [if_neg a, if_pos ⟨by omega, ok1.1, hb1⟩, if_pos (by omega)]
    · by_cases d : b0 < 240
      · by_cases e : 2 < n ∧ b2 / 64 = 2
        · have hv : 2048 ≤ b0 % 16 * 4096 + b1 % 64 * 64 + b2 % 64 ∧ RuneN (b0 % 16 * 4096 + b1 % 64 * 64 + b2 % 64) := by
            unfold RuneN
            rcases secN_cases b0 with h | h | h | h | h | h <;> (rw [h.1] at ok1 hz; simp only at ok1 hz; omega)
          refine hgood (w := 3) (c := b0 % 16 * 4096 + b1 % 64 * 64 + b2 % 64) ?_ ?_ (by omega)
          · unfold seqC
            rw [if_neg a, if_neg q1, if_neg c, if_neg (by unfold contN; omega), if_pos d]
            congr 1
            omega
          · unfold decC
            rw [if_neg a, if_neg (by omega), if_pos ⟨⟨by omega, ok1.1, hb1⟩, e⟩, if_pos hv]
        · refine hbad (by unfold seqC; rw [if_neg a, if_neg q1, if_neg c, if_pos (by unfold contN; omega)]) ?_
          unfold decC
          rw [if_neg a, if_neg (by omega), if_neg (by omega), if_neg (by omega)]
      · by_cases e : 2 < n ∧ b2 / 64 = 2
        · by_cases f : 3 < n ∧ b3 / 64 = 2
          · have hv : 65536 ≤ b0 % 8 * 262144 + b1 % 64 * 4096 + b2 % 64 * 64 + b3 % 64 ∧ RuneN (b0 % 8 * 262144 + b1 % 64 * 4096 + b2 % 64 * 64 + b3 % 64) := by
              unfold RuneN
              rcases secN_cases b0 with h | h | h | h | h | h <;> (rw [h.1] at ok1 hz; simp only at ok1 hz; omega)
            refine hgood (w := 4) (c := b0 % 8 * 262144 + b1 % 64 * 4096 + b2 % 64 * 64 + b3 % 64) ?_ ?_ (by omega)
            · unfold seqC
              rw [if_neg a, if_neg q1, if_neg c, if_neg (by unfold contN; omega), if_neg d, if_neg (by unfold contN; omega)]
              congr 1
              omega
            · unfold decC
              rw [if_neg a, if_neg (by omega), if_neg (by omega), if_pos ⟨⟨⟨by omega, ok1.1, hb1⟩, e⟩, f⟩, if_pos hv]
          · refine hbad (by unfold seqC; rw [if_neg a, if_neg q1, if_neg c, if_neg (by unfold contN; omega), if_neg d, if_pos (by unfold contN; omega)]) ?_
            unfold decC
            rw [if_neg a, if_neg (by omega), if_neg (by omega), if_neg (by omega)]
        · refine hbad (by unfold seqC; rw [if_neg a, if_neg q1, if_neg c, if_pos (by unfold contN; omega)]) ?_
          unfold decC
          rw [if_neg a, if_neg (by omega), if_neg (by omega), if_neg (by omega)]
  · refine hbad (by unfold seqC; rw [if_neg a, if_pos (by omega)]) ?_
    unfold decC
    rw [if_neg a]
    by_cases c : b0 / 32 = 6 ∧ 1 < n ∧ b1 / 64 = 2
    · exfalso
      rcases secN_cases b0 with h | h | h | h | h | h <;> (rw [h.1] at ok1 hz; simp only at ok1 hz; omega)
    · rw [if_neg c]
      by_cases d : (b0 / 16 = 14 ∧ 1 < n ∧ b1 / 64 = 2) ∧ 2 < n ∧ b2 / 64 = 2
      · rw [if_pos d, if_neg]
        unfold RuneN
        rcases secN_cases b0 with h | h | h | h | h | h <;> (rw [h.1] at ok1 hz; simp only at ok1 hz; omega)
      · rw [if_neg d]
        by_cases e : ((b0 / 8 = 30 ∧ 1 < n ∧ b1 / 64 = 2) ∧ 2 < n ∧ b2 / 64 = 2) ∧ 3 < n ∧ b3 / 64 = 2
        · rw [if_pos e, if_neg]
          unfold RuneN
          rcases secN_cases b0 with h | h | h | h | h | h <;> (rw [h.1] at ok1 hz; simp only at ok1 hz; omega)
        · rw [if_neg e]
theorem seq_dec {l : Bytes} (hl : l ≠ []) : seqN l = if isBad2 (dec1 l) = true then (0, 0) else ((dec1 l).2, (dec1 l).1) := by
  rw [decC_eq]
  exact seqC_dec (List.length_pos_iff.2 hl) (bat_lt' l 0) (bat_lt' l 1) (bat_lt' l 2) (bat_lt' l 3)
end Go.Proofs.YtblmakgjdenpfaaGreatDoor.AM
namespace Go.Proofs.YtblmakgjdenpfaaGreatDoor.AM
open Go
set_option maxRecDepth 10000 in
theorem u8_lows : (∀ m : Fin 256, IntKind.u8.wrap ((BitVec.ofInt 8 ((m.val : Nat) : Int) &&& BitVec.ofInt 8 31).toNat : Int) = ((m.val % 32 : Nat) : Int)) ∧ (∀ m : Fin 256, IntKind.u8.wrap ((BitVec.ofInt 8 ((m.val : Nat) : Int) &&& BitVec.ofInt 8 15).toNat : Int) = ((m.val % 16 : Nat) : Int)) ∧
    (∀ m : Fin 256, IntKind.u8.wrap ((BitVec.ofInt 8 ((m.val : Nat) : Int) &&& BitVec.ofInt 8 7).toNat : Int) = ((m.val % 8 : Nat) : Int)) := by
  decide
theorem andl31 {q : Nat} (h : q < 256) : binA .and (.int .u8 q) (.int .u8 31) = some (.int .u8 ((q % 32 : Nat) : Int)) := congrArg (fun z => some (Value.int .u8 z)) (u8_lows.1 ⟨q, h⟩)
theorem andl15 {q : Nat} (h : q < 256) : binA .and (.int .u8 q) (.int .u8 15) = some (.int .u8 ((q % 16 : Nat) : Int)) := congrArg (fun z => some (Value.int .u8 z)) (u8_lows.2.1 ⟨q, h⟩)
theorem andl7 {q : Nat} (h : q < 256) : binA .and (.int .u8 q) (.int .u8 7) = some (.int .u8 ((q % 8 : Nat) : Int)) := congrArg (fun z => some (Value.int .u8 z)) (u8_lows.2.2 ⟨q, h⟩)
theorem andl63 {q : Nat} (h : q < 256) : binA .and (.int .u8 q) (.int .u8 63) = some (.int .u8 ((q % 64 : Nat) : Int)) := congrArg (fun z => some (Value.int .u8 z)) (u8_and ⟨q, h⟩)
theorem shls6 {r : Nat} (h : r < 33554432) : binA .shl (.int .i32 r) (.int .u64 6) = some (.int .i32 ((r * 64 : Nat) : Int)) := by
  show (if (6 : Int) < 0 then none else some (Value.int .i32 (IntKind.i32.wrap ((r : Int) * 2 ^ (min (6 : Int).toNat 32))))) = _
  rw [if_neg (by decide), show (r : Int) * 2 ^ (min (6 : Int).toNat 32) = ((r * 64 : Nat) : Int) by rw [Int.natCast_mul]; rfl]
  have : ((r * 64 : Nat) : Int) < 2147483648 := by omega
  generalize r * 64 = x at *
  congr 2
  rw [IntKind.wrap_i32]
  omega
set_option maxRecDepth 10000 in
theorem orl6 {r m : Nat} (hm : m < 64) (h : r < 33554432) : binA .or (.int .i32 ((r * 64 : Nat) : Int)) (.int .i32 m) = some (.int .i32 ((r * 64 + m : Nat) : Int)) := by
  show some (Value.int .i32 (IntKind.i32.wrap (BitVec.ofInt 32 ((r * 64 : Nat) : Int) ||| BitVec.ofInt 32 (m : Int)).toNat)) = _
  have e : (BitVec.ofInt 32 ((r * 64 : Nat) : Int) ||| BitVec.ofInt 32 (m : Int)).toNat = r * 64 + m := by
    rw [BitVec.toNat_or, show BitVec.ofInt 32 ((r * 64 : Nat) : Int) = BitVec.ofNat 32 (r * 64) from BitVec.ofInt_natCast .., show BitVec.ofInt 32 (m : Int) = BitVec.ofNat 32 m from BitVec.ofInt_natCast .., BitVec.toNat_ofNat, BitVec.toNat_ofNat, Nat.mod_eq_of_lt (by omega), Nat.mod_eq_of_lt (by omega)]
    have := Nat.shiftLeft_add_eq_or_of_lt (show m < 2 ^ 6 from hm) r
    rw [Nat.shiftLeft_eq] at this
    exact this.symm
  rw [e]
  have : ((r * 64 + m : Nat) : Int) < 2147483648 := by omega
  generalize r * 64 + m = x at *
  congr 2
  rw [IntKind.wrap_i32]
  omega
theorem shor {r b : Nat} (h : r < 33554432) (hb : b < 256) : ∃ y m z : Nat, binA .shl (.int .i32 r) (.int .u64 6) = some (.int .i32 (y : Int)) ∧ binA .and (.int .u8 b) (.int .u8 63) = some (.int .u8 (m : Int)) ∧ m < 64 ∧
    binA .or (.int .i32 (y : Int)) (.int .i32 (m : Int)) = some (.int .i32 (z : Int)) ∧ z = r * 64 + b % 64 :=
  ⟨_, _, _, shls6 h, andl63 hb, Nat.mod_lt _ (by decide), orl6 (Nat.mod_lt _ (by decide)) h, rfl⟩
set_option maxHeartbeats 1000000 in
theorem seq_eq (t : ByteArray) (hsz : t.size < 100000000) (h0 : 0 < t.size) (h : AH) : callO PX 49 [.string t] h = some (.tuple (List.toArray [.int .i64 (seqN t.data.toList).1, .int .i32 (seqN t.data.toList).2]), h) := by
  obtain ⟨l, hl⟩ : ∃ l, l = t.data.toList := ⟨_, rfl⟩
  have hll : l.length = t.size := by rw [hl]; rfl
  rw [← hl]
  unfold seqN
  rw [hll]
  have k0 := bat_lt' l 0
  have k1 := bat_lt' l 1
  have k2 := bat_lt' l 2
  have k3 := bat_lt' l 3
  obtain ⟨b0, q0⟩ : ∃ x, bat l 0 = x := ⟨_, rfl⟩
  obtain ⟨b1, q1⟩ : ∃ x, bat l 1 = x := ⟨_, rfl⟩
  obtain ⟨b2, q2⟩ : ∃ x, bat l 2 = x := ⟨_, rfl⟩
  obtain ⟨b3, q3⟩ : ∃ x, bat l 3 = x := ⟨_, rfl⟩
  rw [q0, q1, q2, q3]
  rw [q0] at k0
  rw [q1] at k1
  rw [q2] at k2
  rw [q3] at k3
  clear hll
  have es := second_eq k0
  have hse : (secN b0).1 < 256 ∧ (secN b0).2 < 256 := by rcases secN_cases b0 with h | h | h | h | h | h <;> (rw [h.1]; decide)
  unfold seqC
  by_cases g0 : b0 < 128
  · rw [if_pos g0]
    apply WpC.eqn
    refine wpc_fn (px_ext rfl) (px_fn fn_guiseref1_Sequence) rfl ?_
    unfold LF_guiseref1_Sequence
    simp only [argFr]
    (refine W_x (Aj hl.symm q0) ?_; (repeat' first | apply Cj.mk | exact Nl.nl) <;> intros)
    exact ⟨rfl, rfl⟩
  rw [if_neg g0]
  by_cases g1 : (secN b0).1 = 0 ∨ t.size < 2 ∨ b1 < (secN b0).1 ∨ (secN b0).2 < b1
  · rw [if_pos g1]
    generalize (secN b0).1 = lo at *
    generalize (secN b0).2 = hi at *
    apply WpC.eqn
    refine wpc_fn (px_ext rfl) (px_fn fn_guiseref1_Sequence) rfl ?_
    unfold LF_guiseref1_Sequence
    simp only [argFr]
    (refine W_x (Aj hl.symm (Aj q0 (Aj q1 es))) ?_; (repeat' first | apply Cj.mk | exact Nl.nl) <;> intros)
    all_goals first | exact ⟨rfl, rfl⟩ | (exfalso; omega)
  rw [if_neg g1]
  have ok1 : 128 ≤ b1 ∧ b1 ≤ 191 := by
    rcases secN_cases b0 with h | h | h | h | h | h
    · exact absurd (.inl (by rw [h.1])) g1
    all_goals (rw [h.1] at g1; simp only at g1; omega)
  have hb0 : b0 < 245 := by
    rcases secN_cases b0 with h | h | h | h | h | h
    · exact absurd (.inl (by rw [h.1])) g1
    all_goals omega
  generalize (secN b0).1 = lo at *
  generalize (secN b0).2 = hi at *
  obtain ⟨x31, e31⟩ : ∃ x, x = b0 % 32 := ⟨_, rfl⟩
  obtain ⟨x15, e15⟩ : ∃ x, x = b0 % 16 := ⟨_, rfl⟩
  obtain ⟨x7, e7⟩ : ∃ x, x = b0 % 8 := ⟨_, rfl⟩
  have c31 : x31 < 32 := by omega
  have c15 : x15 < 16 := by omega
  have c7 : x7 < 8 := by omega
  have a31 := andl31 k0
  have a15 := andl15 k0
  have a7 := andl7 k0
  rw [← e31] at a31
  rw [← e15] at a15
  rw [← e7] at a7
  by_cases g2 : b0 < 224
  · rw [if_pos g2]
    obtain ⟨y, m, z, s1, s2, s3, s4, s5⟩ := shor (r := x31) (b := b1) (by omega) k1
    rw [← e31, ← s5]
    clear e31 e15 e7
    apply WpC.eqn
    refine wpc_fn (px_ext rfl) (px_fn fn_guiseref1_Sequence) rfl ?_
    unfold LF_guiseref1_Sequence
    simp only [argFr]
    (refine W_x (Aj hl.symm (Aj q0 (Aj q1 (Aj es a31)))) ?_; (repeat' first | apply Cj.mk | exact Nl.nl) <;> intros)
    refine wp_unroll ?_
    (refine W_x (Aj hl.symm (Aj q1 (Aj s1 (Aj s2 s4)))) ?_; (repeat' first | apply Cj.mk | exact Nl.nl) <;> intros)
    refine wp_unroll ?_
    (refine W_x trivial ?_; (repeat' first | apply Cj.mk | exact Nl.nl) <;> intros)
    exact ⟨rfl, rfl⟩
  rw [if_neg g2]
  by_cases g3 : b0 < 240
  · obtain ⟨y, m, z, s1, s2, s3, s4, s5⟩ := shor (r := x15) (b := b1) (by omega) k1
    by_cases g4 : t.size < 3 ∨ ¬ contN b2
    · rw [if_pos g4]
      unfold contN at g4
      clear e31 e15 e7
      apply WpC.eqn
      refine wpc_fn (px_ext rfl) (px_fn fn_guiseref1_Sequence) rfl ?_
      unfold LF_guiseref1_Sequence
      simp only [argFr]
      (refine W_x (Aj hl.symm (Aj q0 (Aj q1 (Aj es (Aj a31 a15))))) ?_; (repeat' first | apply Cj.mk | exact Nl.nl) <;> intros)
      refine wp_unroll ?_
      (refine W_x (Aj hl.symm (Aj q1 (Aj s1 (Aj s2 s4)))) ?_; (repeat' first | apply Cj.mk | exact Nl.nl) <;> intros)
      refine wp_unroll ?_
      (refine W_x (Aj hl.symm q2) ?_; (repeat' first | apply Cj.mk | exact Nl.nl) <;> intros)
      all_goals first | exact ⟨rfl, rfl⟩ | (exfalso; omega)
    · rw [if_neg g4, if_pos g3]
      unfold contN at g4
      obtain ⟨y', m', z', t1, t2, t3, t4, t5⟩ := shor (r := z) (b := b2) (by omega) k2
      rw [← e15, ← s5, ← t5]
      clear e31 e15 e7
      apply WpC.eqn
      refine wpc_fn (px_ext rfl) (px_fn fn_guiseref1_Sequence) rfl ?_
      unfold LF_guiseref1_Sequence
      simp only [argFr]
      (refine W_x (Aj hl.symm (Aj q0 (Aj q1 (Aj es (Aj a31 a15))))) ?_; (repeat' first | apply Cj.mk | exact Nl.nl) <;> intros)
      refine wp_unroll ?_
      (refine W_x (Aj hl.symm (Aj q1 (Aj s1 (Aj s2 s4)))) ?_; (repeat' first | apply Cj.mk | exact Nl.nl) <;> intros)
      refine wp_unroll ?_
      (refine W_x (Aj hl.symm (Aj q2 (Aj t1 (Aj t2 t4)))) ?_; (repeat' first | apply Cj.mk | exact Nl.nl) <;> intros)
      refine wp_unroll ?_
      (refine W_x trivial ?_; (repeat' first | apply Cj.mk | exact Nl.nl) <;> intros)
      exact ⟨rfl, rfl⟩
  · obtain ⟨y, m, z, s1, s2, s3, s4, s5⟩ := shor (r := x7) (b := b1) (by omega) k1
    obtain ⟨y', m', z', t1, t2, t3, t4, t5⟩ := shor (r := z) (b := b2) (by omega) k2
    by_cases g4 : t.size < 3 ∨ ¬ contN b2
    · rw [if_pos g4]
      unfold contN at g4
      clear e31 e15 e7
      apply WpC.eqn
      refine wpc_fn (px_ext rfl) (px_fn fn_guiseref1_Sequence) rfl ?_
      unfold LF_guiseref1_Sequence
      simp only [argFr]
      (refine W_x (Aj hl.symm (Aj q0 (Aj q1 (Aj es (Aj a31 (Aj a15 a7)))))) ?_; (repeat' first | apply Cj.mk | exact Nl.nl) <;> intros)
      refine wp_unroll ?_
      (refine W_x (Aj hl.symm (Aj q1 (Aj s1 (Aj s2 s4)))) ?_; (repeat' first | apply Cj.mk | exact Nl.nl) <;> intros)
      refine wp_unroll ?_
      (refine W_x (Aj hl.symm q2) ?_; (repeat' first | apply Cj.mk | exact Nl.nl) <;> intros)
      all_goals first | exact ⟨rfl, rfl⟩ | (exfalso; omega)
    · rw [if_neg g4, if_neg g3]
      unfold contN at g4
      by_cases g5 : t.size < 4 ∨ ¬ contN b3
      · rw [if_pos g5]
        unfold contN at g5
        clear e31 e15 e7
        apply WpC.eqn
        refine wpc_fn (px_ext rfl) (px_fn fn_guiseref1_Sequence) rfl ?_
        unfold LF_guiseref1_Sequence
        simp only [argFr]
        (refine W_x (Aj hl.symm (Aj q0 (Aj q1 (Aj es (Aj a31 (Aj a15 a7)))))) ?_; (repeat' first | apply Cj.mk | exact Nl.nl) <;> intros)
        refine wp_unroll ?_
        (refine W_x (Aj hl.symm (Aj q1 (Aj s1 (Aj s2 s4)))) ?_; (repeat' first | apply Cj.mk | exact Nl.nl) <;> intros)
        refine wp_unroll ?_
        (refine W_x (Aj hl.symm (Aj q2 (Aj t1 (Aj t2 t4)))) ?_; (repeat' first | apply Cj.mk | exact Nl.nl) <;> intros)
        refine wp_unroll ?_
        (refine W_x (Aj hl.symm q3) ?_; (repeat' first | apply Cj.mk | exact Nl.nl) <;> intros)
        all_goals first | exact ⟨rfl, rfl⟩ | (exfalso; omega)
      · rw [if_neg g5]
        unfold contN at g5
        obtain ⟨y2, m2, z2, u1, u2, u3, u4, u5⟩ := shor (r := z') (b := b3) (by omega) k3
        rw [← e7, ← s5, ← t5, ← u5]
        clear e31 e15 e7
        apply WpC.eqn
        refine wpc_fn (px_ext rfl) (px_fn fn_guiseref1_Sequence) rfl ?_
        unfold LF_guiseref1_Sequence
        simp only [argFr]
        (refine W_x (Aj hl.symm (Aj q0 (Aj q1 (Aj es (Aj a31 (Aj a15 a7)))))) ?_; (repeat' first | apply Cj.mk | exact Nl.nl) <;> intros)
        refine wp_unroll ?_
        (refine W_x (Aj hl.symm (Aj q1 (Aj s1 (Aj s2 s4)))) ?_; (repeat' first | apply Cj.mk | exact Nl.nl) <;> intros)
        refine wp_unroll ?_
        (refine W_x (Aj hl.symm (Aj q2 (Aj t1 (Aj t2 t4)))) ?_; (repeat' first | apply Cj.mk | exact Nl.nl) <;> intros)
        refine wp_unroll ?_
        (refine W_x (Aj hl.symm (Aj q3 (Aj u1 (Aj u2 u4)))) ?_; (repeat' first | apply Cj.mk | exact Nl.nl) <;> intros)
        refine wp_unroll ?_
        (refine W_x trivial ?_; (repeat' first | apply Cj.mk | exact Nl.nl) <;> intros)
        exact ⟨rfl, rfl⟩
end Go.Proofs.YtblmakgjdenpfaaGreatDoor.AM
namespace Go.Proofs.YtblmakgjdenpfaaGreatDoor.AM
open Go
def spot4 (x : Nat × (Nat × Nat)) : List Value := [.int .i32 x.2.1, .int .i64 x.1, .int .i64 x.2.2, .bool (isBad2 x.2)]
theorem spotsL_take {l : Bytes} {i : Nat} (hi : i < (spots l).length) : (spotsL l).take (i + 1) = (spotsL l).take i ++ [(posn l i, (spots l)[i])] := by
  have h : i < (spotsL l).length := by rw [spotsL_len]; exact hi
  rw [take_snoc h, spotsL_get h]
theorem ref1Spots_spec (s : ByteArray) (hs : s.size ≤ 1048576) (h : AH) : WpC PX 22 [.string s] h fun v h' => ∃ sl, v = sl.val 4 ∧ FOwn h h' 4 sl ((spotsL s.data.toList).map spot4) := by
  obtain ⟨l, hl⟩ : ∃ l, l = s.data.toList := ⟨_, rfl⟩
  have hz : l.length = s.size := by rw [hl]; rfl
  have hn := spots_len l
  rw [← hl]
  refine wpc_fn (px_ext rfl) (px_fn fn_guiseref1_Spots) rfl ?_
  unfold LF_guiseref1_Spots
  simp only [argFr]
  (refine W_x trivial ?_; (repeat' first | apply Cj.mk | exact Nl.nl) <;> intros)
  refine wp_forS (fun i sl => [(0, .string s), (3, sl.val 4), (4, .int .i64 (posn l i))]) (fun _ _ => []) (spots l) (fun i sl h' => FOwn h h' 4 sl (((spotsL l).take i).map spot4)) (fun _ _ => (none : Option Unit)) Sl.nil (by rw [posn_zero]; rfl) rfl (FOwn.nil (Kp.refl h)) (fun i hi sl h1 fo hit => ?_) fun sl h1 fo fin => ?_
  · obtain ⟨p1, p2, p3⟩ := posn_lt hi
    have ht := spotsL_take hi
    have hp := posn_succ hi
    have hw := dec_width p3
    rw [p2, List.length_drop] at hw
    have hx : (s.extract (posn l i) s.size).data.toList = l.drop (posn l i) := by
      rw [ba_extract _ _ _ (Nat.le_refl _), ← hl, ← hz, ← List.length_drop, List.take_length]
    have hxs : (s.extract (posn l i) s.size).size = l.length - posn l i := by rw [ba_size, hx, List.length_drop]
    have e1 := seq_eq (s.extract (posn l i) s.size) (by omega) (by omega) h1
    rw [hx, seq_dec p3, p2] at e1
    rw [hp]
    have hcap : (((spotsL l).take i).map spot4).length ≤ 1048576 := by rw [List.length_map, List.length_take, spotsL_len]; omega
    have hbd : isBad2 (spots l)[i] = true → (spots l)[i] = (65533, 1) := fun e => by
      simp only [isBad2, Bool.and_eq_true, beq_iff_eq] at e
      exact Prod.ext e.1 e.2
    generalize (spots l)[i] = y at *
    by_cases hb : isBad2 y = true
    · have hy := hbd hb
      subst hy
      rw [if_pos hb] at e1
      simp only at e1 hw ⊢
      (refine W_x e1 ?_; (repeat' first | apply Cj.mk | exact Nl.nl) <;> intros)
      refine wo_app1 (cs := spot4 (posn l i, (65533, 1))) fo rfl rfl (by decide) (by decide) (by omega) fun s2 h2 f2 => ?_
      (refine W_x trivial ?_; (repeat' first | apply Cj.mk | exact Nl.nl) <;> intros)
      refine ⟨trivial, s2, rfl, rfl, ?_⟩
      rw [ht, List.map_append]
      exact f2
    · rw [if_neg hb] at e1
      have hb' : isBad2 y = false := by simpa using hb
      obtain ⟨c, w⟩ := y
      simp only at e1 hw ⊢
      (refine W_x e1 ?_; (repeat' first | apply Cj.mk | exact Nl.nl) <;> intros)
      refine wo_app1 (cs := spot4 (posn l i, (c, w))) fo (by unfold spot4; simp only [hb']; rfl) rfl (by decide) (by decide) (by omega) fun s2 h2 f2 => ?_
      (refine W_x trivial ?_; (repeat' first | apply Cj.mk | exact Nl.nl) <;> intros)
      refine ⟨trivial, s2, rfl, rfl, ?_⟩
      rw [ht, List.map_append]
      exact f2
  · rw [posn_all]
    (refine W_x trivial ?_; (repeat' first | apply Cj.mk | exact Nl.nl) <;> intros)
    rw [← spotsL_len, List.take_length] at fo
    exact ⟨sl, rfl, fo⟩
end Go.Proofs.YtblmakgjdenpfaaGreatDoor.AM
namespace Go.Proofs.YtblmakgjdenpfaaGreatDoor.AM
open Go
theorem andi63 {c : Nat} (hc : c < 2147483648) : binA .and (.int .i32 c) (.int .i32 63) = some (.int .i32 ((c % 64 : Nat) : Int)) := by
  show some (Value.int .i32 (IntKind.i32.wrap (BitVec.ofInt 32 (c : Int) &&& BitVec.ofInt 32 63).toNat)) = _
  have e : (BitVec.ofInt 32 (c : Int) &&& BitVec.ofInt 32 63).toNat = c % 64 := by
    rw [BitVec.toNat_and, show BitVec.ofInt 32 (c : Int) = BitVec.ofNat 32 c from BitVec.ofInt_natCast .., BitVec.toNat_ofNat, Nat.mod_eq_of_lt (by omega)]
    exact Nat.and_two_pow_sub_one_eq_mod c 6
  rw [e]
  congr 2
  have : c % 64 < 64 := Nat.mod_lt _ (by omega)
  rw [IntKind.wrap_i32]
  omega
theorem ori_fin : (∀ m : Fin 64, IntKind.i32.wrap ((BitVec.ofInt 32 128 ||| BitVec.ofInt 32 ((m.val : Nat) : Int)).toNat : Int) = ((128 + m.val : Nat) : Int)) ∧ (∀ m : Fin 32, IntKind.i32.wrap ((BitVec.ofInt 32 192 ||| BitVec.ofInt 32 ((m.val : Nat) : Int)).toNat : Int) = ((192 + m.val : Nat) : Int)) ∧
    (∀ m : Fin 16, IntKind.i32.wrap ((BitVec.ofInt 32 224 ||| BitVec.ofInt 32 ((m.val : Nat) : Int)).toNat : Int) = ((224 + m.val : Nat) : Int)) ∧ (∀ m : Fin 8, IntKind.i32.wrap ((BitVec.ofInt 32 240 ||| BitVec.ofInt 32 ((m.val : Nat) : Int)).toNat : Int) = ((240 + m.val : Nat) : Int)) := by
  decide
theorem ori {m : Nat} : (m < 64 → ∃ x : Nat, x = 128 + m ∧ binA .or (.int .i32 128) (.int .i32 m) = some (.int .i32 (x : Int)) ∧ IntKind.u8.wrap (x : Int) = (x : Int)) ∧ (m < 32 → ∃ x : Nat, x = 192 + m ∧ binA .or (.int .i32 192) (.int .i32 m) = some (.int .i32 (x : Int)) ∧ IntKind.u8.wrap (x : Int) = (x : Int)) ∧
    (m < 16 → ∃ x : Nat, x = 224 + m ∧ binA .or (.int .i32 224) (.int .i32 m) = some (.int .i32 (x : Int)) ∧ IntKind.u8.wrap (x : Int) = (x : Int)) ∧ (m < 8 → ∃ x : Nat, x = 240 + m ∧ binA .or (.int .i32 240) (.int .i32 m) = some (.int .i32 (x : Int)) ∧ IntKind.u8.wrap (x : Int) = (x : Int)) :=
  ⟨fun h => ⟨_, rfl, congrArg (fun z => some (Value.int .i32 z)) (ori_fin.1 ⟨m, h⟩), by rw [wrapu8, Nat.mod_eq_of_lt (by omega)]⟩, fun h => ⟨_, rfl, congrArg (fun z => some (Value.int .i32 z)) (ori_fin.2.1 ⟨m, h⟩), by rw [wrapu8, Nat.mod_eq_of_lt (by omega)]⟩,
    fun h => ⟨_, rfl, congrArg (fun z => some (Value.int .i32 z)) (ori_fin.2.2.1 ⟨m, h⟩), by rw [wrapu8, Nat.mod_eq_of_lt (by omega)]⟩, fun h => ⟨_, rfl, congrArg (fun z => some (Value.int .i32 z)) (ori_fin.2.2.2 ⟨m, h⟩), by rw [wrapu8, Nat.mod_eq_of_lt (by omega)]⟩⟩
def wid (c : Nat) : Nat := if c < 128 then 1 else if c < 2048 then 2 else if c < 65536 then 3 else 4
theorem ref1Width_eq {c : Nat} (hc : RuneN c) (h : AH) : callO PX 81 [.int .i32 c] h = some (.int .i64 (wid c), h) := by
  unfold RuneN at hc
  apply WpC.eqn
  refine wpc_fn (px_ext rfl) (px_fn fn_guiseref1_Width) rfl ?_
  unfold LF_guiseref1_Width
  simp only [argFr]
  (refine W_x trivial ?_; (repeat' first | apply Cj.mk | exact Nl.nl) <;> intros)
  all_goals
    refine ⟨?_, rfl⟩
    unfold wid
    repeat' split
    all_goals first | rfl | (exfalso; omega)
set_option maxRecDepth 20000 in
theorem ref1Bytes_eq {c : Nat} (hc : RuneN c) (h : AH) : callO PX 46 [.int .i32 c] h = some (.slice (some ⟨h.n, 0, none⟩) (encN c).length 1, h.push (.cells false (bytesV (encN c)))) := by
  have hw := ref1Width_eq hc
  have hc2 : c ≤ 1114111 := by unfold RuneN at hc; omega
  clear hc
  obtain ⟨q6, e6⟩ : ∃ q, q = c / 64 := ⟨_, rfl⟩
  obtain ⟨q12, e12⟩ : ∃ q, q = c / 4096 := ⟨_, rfl⟩
  obtain ⟨q18, e18⟩ : ∃ q, q = c / 262144 := ⟨_, rfl⟩
  obtain ⟨r0, f0⟩ : ∃ q, q = c % 64 := ⟨_, rfl⟩
  obtain ⟨r6, f6⟩ : ∃ q, q = q6 % 64 := ⟨_, rfl⟩
  obtain ⟨r12, f12⟩ : ∃ q, q = q12 % 64 := ⟨_, rfl⟩
  have s6 : binA .shr (.int .i32 c) (.int .u64 6) = some (.int .i32 (q6 : Int)) := by rw [e6]; exact shrs (k := 6) (m := 64) rfl
  have s12 : binA .shr (.int .i32 c) (.int .u64 12) = some (.int .i32 (q12 : Int)) := by rw [e12]; exact shrs (k := 12) (m := 4096) rfl
  have s18 : binA .shr (.int .i32 c) (.int .u64 18) = some (.int .i32 (q18 : Int)) := by rw [e18]; exact shrs (k := 18) (m := 262144) rfl
  have a0 : binA .and (.int .i32 c) (.int .i32 63) = some (.int .i32 (r0 : Int)) := by rw [f0]; exact andi63 (by omega)
  have a6 : binA .and (.int .i32 q6) (.int .i32 63) = some (.int .i32 (r6 : Int)) := by rw [f6]; exact andi63 (by omega)
  have a12 : binA .and (.int .i32 q12) (.int .i32 63) = some (.int .i32 (r12 : Int)) := by rw [f12]; exact andi63 (by omega)
  obtain ⟨y0, g0, o0, w0⟩ := (ori (m := r0)).1 (by omega)
  obtain ⟨y6, g6, o6, w6⟩ := (ori (m := r6)).1 (by omega)
  obtain ⟨y12, g12, o12, w12⟩ := (ori (m := r12)).1 (by omega)
  have hE : encN c = if c < 128 then [c].map UInt8.ofNat else if c < 0x800 then [192 + q6, y0].map UInt8.ofNat else if c < 0x10000 then [224 + q12, y6, y0].map UInt8.ofNat else [240 + q18, y12, y6, y0].map UInt8.ofNat := by
    unfold encN
    rw [e6, e12, e18, g0, g6, g12, f0, f6, f12, e6, e12]
    rfl
  unfold wid at hw
  by_cases c1 : c < 128
  · rw [if_pos c1] at hE
    simp only [if_pos c1] at hw
    have hv := bytesV_ofs (l := [c]) (fun m hm => by simp at hm; omega)
    rw [← hE] at hv
    simp only [List.map_cons, List.map_nil] at hv
    have hl : (encN c).length = 1 := by rw [hE]; rfl
    have wc : IntKind.u8.wrap (c : Int) = (c : Int) := by rw [wrapu8, Nat.mod_eq_of_lt (by omega)]
    rw [hl, hv]
    apply WpC.eqn
    refine wpc_fn (px_ext rfl) (px_fn fn_guiseref1_Bytes) rfl ?_
    unfold LF_guiseref1_Bytes
    simp only [argFr]
    (refine W_x (Aj hw wc) ?_; (repeat' first | apply Cj.mk | exact Nl.nl) <;> intros)
    exact ⟨rfl, rfl⟩
  rw [if_neg c1] at hE
  simp only [if_neg c1] at hw
  by_cases c2 : c < 2048
  · rw [if_pos c2] at hE
    simp only [if_pos c2] at hw
    obtain ⟨z, gz, oz, wz⟩ := (ori (m := q6)).2.1 (by omega)
    rw [← gz] at hE
    have hv := bytesV_ofs (l := [z, y0]) (fun m hm => by simp at hm; omega)
    rw [← hE] at hv
    simp only [List.map_cons, List.map_nil] at hv
    have hl : (encN c).length = 2 := by rw [hE]; rfl
    rw [hl, hv]
    apply WpC.eqn
    refine wpc_fn (px_ext rfl) (px_fn fn_guiseref1_Bytes) rfl ?_
    unfold LF_guiseref1_Bytes
    simp only [argFr]
    (refine W_x (Aj hw (Aj s6 (Aj a0 (Aj o0 (Aj w0 (Aj oz wz)))))) ?_; (repeat' first | apply Cj.mk | exact Nl.nl) <;> intros)
    exact ⟨rfl, rfl⟩
  rw [if_neg c2] at hE
  simp only [if_neg c2] at hw
  by_cases c3 : c < 65536
  · rw [if_pos c3] at hE
    simp only [if_pos c3] at hw
    obtain ⟨z, gz, oz, wz⟩ := (ori (m := q12)).2.2.1 (by omega)
    rw [← gz] at hE
    have hv := bytesV_ofs (l := [z, y6, y0]) (fun m hm => by simp at hm; omega)
    rw [← hE] at hv
    simp only [List.map_cons, List.map_nil] at hv
    have hl : (encN c).length = 3 := by rw [hE]; rfl
    rw [hl, hv]
    apply WpC.eqn
    refine wpc_fn (px_ext rfl) (px_fn fn_guiseref1_Bytes) rfl ?_
    unfold LF_guiseref1_Bytes
    simp only [argFr]
    (refine W_x (Aj hw (Aj s6 (Aj s12 (Aj a0 (Aj a6 (Aj o0 (Aj w0 (Aj o6 (Aj w6 (Aj oz wz)))))))))) ?_; (repeat' first | apply Cj.mk | exact Nl.nl) <;> intros)
    exact ⟨rfl, rfl⟩
  · rw [if_neg c3] at hE
    simp only [if_neg c3] at hw
    obtain ⟨z, gz, oz, wz⟩ := (ori (m := q18)).2.2.2 (by omega)
    rw [← gz] at hE
    have hv := bytesV_ofs (l := [z, y12, y6, y0]) (fun m hm => by simp at hm; omega)
    rw [← hE] at hv
    simp only [List.map_cons, List.map_nil] at hv
    have hl : (encN c).length = 4 := by rw [hE]; rfl
    rw [hl, hv]
    apply WpC.eqn
    refine wpc_fn (px_ext rfl) (px_fn fn_guiseref1_Bytes) rfl ?_
    unfold LF_guiseref1_Bytes
    simp only [argFr]
    (refine W_x (Aj hw (Aj s6 (Aj s12 (Aj s18 (Aj a0 (Aj a6 (Aj a12 (Aj o0 (Aj w0 (Aj o6 (Aj w6 (Aj o12 (Aj w12 (Aj oz wz)))))))))))))) ?_; (repeat' first | apply Cj.mk | exact Nl.nl) <;> intros)
    exact ⟨rfl, rfl⟩
end Go.Proofs.YtblmakgjdenpfaaGreatDoor.AM
namespace Go.Proofs.YtblmakgjdenpfaaGreatDoor.AM
open Go
def LF_strip_Strip : LFunc :=
  .mk 2 [.tmp 4] (.seq (R 999 [0, 1] [.set 4 (.cv (.string ⟨#[]⟩))]) (.seq (R 5 [0, 1, 5] [.tmp 5 (.op (.e (.newT 163 [.pointer none, .slice none 0 0])) .nil)])
  (.seq (R 6 [5] [.tmp 9 (xc3 39 (.va 0) (.va 1) (.op (.p (.mkfn (.func 40) [] [.s 0])) (.sl 5)))]) (.seq (R 10 [4] [.set 4 (xc1
  42 (.sl 5))]) .ret))))
theorem fn_strip_Strip : (autoPrg Tryz.prog).fn 10 = some LF_strip_Strip := by kernel_rfl
def LF_strip_Strip_1 : LFunc :=
  .mk 3 [.tmp 5] (.seq (R 3 [1, 2] [.tmp 3 (xbl 3 2 (.sl 0)), .set 5 (.cv (.bool false))]) (.seq (R 6 [] [.tmp 7 (xc2 41 (.sl 2) (.va 1))]) (.seq (R
  999 [5] [.set 5 (.cv (.bool true))]) .ret)))
theorem fn_strip_Strip_1 : (autoPrg Tryz.prog).fn 40 = some LF_strip_Strip_1 := by kernel_rfl
def LF_strip_First : LFunc :=
  .mk 2 [.cell 4 (some 2), .cell 5 none] (.seq (R 2 [1, 2, 4, 5] [.tmp 2 (xbh 1 (.sl 0)), .at 4, .tmp 4 (xnh [.int .i64 0, .int .i64 0]), .tmp 5 (xnh [.bool false])]) (.seq (.seq (R
  9 [1, 2, 4, 5, 10] [.tmp 10 (.op (.p (.eqk false .ptr (.s 0) (.s 1))) (.cons (xld (.sl 2)) (.cv (.pointer none))))]) (.cond (.s 10) (.seq (R 11 [4, 5] [.run (xst 2 (.sl 4) (.op
  (.p (.build [.int .i64 0, .int .i64 0] [])) .nil)), .run (xst 1 (.sl 5) (.cv (.bool false)))]) .ret) .skip)) (.seq (R 6 [1, 2, 4, 5, 6] [.tmp 6 (xnh [.int .i64 0]), .run (xst 1
  (.sl 6) (xi 0))]) (.seq (.seq (R 12 [2, 4, 5, 6, 13] [.tmp 13 (xc1 43 (.va 1))]) (.block 0 (.rangeF (.s 13) [14, 15] (.seq (R 7 [2, 4, 5, 6, 7, 15] [.tmp 7 (.va 14)])
  (R 8 [2, 4, 5, 6, 7, 8] [.tmp 8 (xnl 8 [.int .i32 0, .int .i64 0, .bool false]), .run (xst 3 (.sl 8) (.sl 15))])) (.block 1 (.seq (.seq (R 16 [4, 5, 6, 7, 23] [.tmp 23 (.or (xld
  (xfa 2 (.sl 8))) (xc2 44 (xld (.sl 2)) (xld (xfa 0 (.sl 8)))))]) (.cond (.s 23) (.seq (R 24 [] [.run (xst 2 (.sl 4) (.op (.p (.build [.int .i64 0, .int
  .i64 0] [(0, 1, .s 0), (1, 1, .s 1)])) (.cons (.va 7) (xld (.sl 6))))), .run (xst 1 (.sl 5) (.cv (.bool true)))]) .ret) .skip)) (R 27 [] [.run (xst 1 (.sl 6) (xb .add (xld (.sl
  6)) (xi 1)))])))))) (.seq (R 29 [4, 5] [.run (xst 2 (.sl 4) (.op (.p (.build [.int .i64 0, .int .i64 0] [])) .nil)), .run (xst 1 (.sl 5) (.cv (.bool false)))]) .ret)))))
theorem fn_strip_First : (autoPrg Tryz.prog).fn 12 = some LF_strip_First := by kernel_rfl
def LF_strip_Seen : LFunc :=
  .mk 2 [.tmp 4] (.seq (R 2 [2, 3] [.tmp 2 (xbh 1 (.sl 0)), .tmp 3 (xbh 1 (.sl 1)), .set 4 (.cv .nilFunc)]) (.seq (R 5 [4] [.set 4 (.op (.p (.mkfn (.func 84) [] [.s 0,
  .s 1])) (.cons (.sl 2) (.sl 3)))]) .ret))
theorem fn_strip_Seen : (autoPrg Tryz.prog).fn 50 = some LF_strip_Seen := by kernel_rfl
def LF_strip_Seen_1 : LFunc :=
  .mk 3 [] (R 4 [] [.tmp 7 (xc3 39 (xld (.sl 1)) (xld (.sl 2)) (.va 0))])
theorem fn_strip_Seen_1 : (autoPrg Tryz.prog).fn 84 = some LF_strip_Seen_1 := by kernel_rfl
def LF_strip_seen : LFunc :=
  .mk 3 [] (.seq (.seq (R 9 [0, 1, 2, 10] [.tmp 10 (.op (.p (.eqk false .ptr (.s 0) (.s 1))) (.cons (.va 0) (.cv (.pointer none))))]) (.cond (.s 10) .ret .skip)) (.seq (R 999 [0, 1,
  2, 6] [.set 6 (xi (-1))]) (.seq (R 11 [0, 2, 6, 12] [.tmp 12 (.op (.e (.rngS 12 (.s 0))) (.va 1))]) (.block 0 (.loop (.seq (R 13 [0, 2, 6, 12, 13, 14] [.tmp 13 (.op (.e (.nxtS (.s
  0))) (.sl 12)), .tmp 14 (xex 0 (.sl 13))]) (.seq (.cond (.s 14) .skip (.exit 0)) (.block 1 (.seq (R 15 [0, 2, 6, 7, 8, 12] [.tmp 15 (xex 1 (.sl 13)), .tmp 16 (xex 2 (.sl 13)),
  .set 7 (.sl 15), .set 8 (.sl 16)]) (.seq (R 17 [0, 2, 6, 7, 8, 12] [.set 6 (xb .add (.va 6) (xi 1))]) (.seq (R 19 [0, 2, 6, 12, 31] [.tmp 31 (.and (xu .not (xc2
  44 (.va 0) (.va 8))) (xu .not (xv2 (.va 2) (.op (.p (.build [.int .i64 0, .int .i64 0] [(0, 1, .s 0), (1, 1, .s 1)])) (.cons (.va 7) (.va 6))) (.va 8))))])
  (.cond (.s 31) .ret .skip))))))))))))
theorem fn_strip_seen : (autoPrg Tryz.prog).fn 39 = some LF_strip_seen := by kernel_rfl
def LF_strip_Count : LFunc :=
  .mk 2 [.tmp 4] (.seq (R 999 [0, 1] [.set 4 (xi 0)]) (.seq (.seq (R 6 [0, 1, 7] [.tmp 7 (.op (.p (.eqk false .ptr (.s 0) (.s 1))) (.cons (.va 0) (.cv (.pointer none))))]) (.cond
  (.s 7) (.seq (R 999 [4] [.set 4 (xi 0)]) .ret) .skip)) (.seq (R 8 [0, 1, 5] [.tmp 9 (xc1 14 (.va 1)), .at 5, .tmp 5 (xnh [.int .i64 0]), .run (xst 1 (.sl 5) (.sl 9))])
  (.seq (R 10 [5] [.tmp 13 (xc3 39 (.va 0) (.va 1) (.op (.p (.mkfn (.func 45) [] [.s 0])) (.sl 5)))]) (.seq (R 14 [4] [.set 4 (xld (.sl 5))]) .ret)))))
theorem fn_strip_Count : (autoPrg Tryz.prog).fn 13 = some LF_strip_Count := by kernel_rfl
def LF_strip_Count_1 : LFunc :=
  .mk 3 [.tmp 5] (.seq (R 3 [2] [.tmp 3 (xbl 3 2 (.sl 0)), .set 5 (.cv (.bool false))]) (.seq (R 6 [] [.run (xst 1 (.sl 2) (xb .sub (xld (.sl 2)) (xi 1)))]) (.seq (R 999 [5] [.set 5
  (.cv (.bool true))]) .ret)))
theorem fn_strip_Count_1 : (autoPrg Tryz.prog).fn 45 = some LF_strip_Count_1 := by kernel_rfl
def LF_strip_Place : LFunc :=
  .mk 3 [.cell 6 (some 2), .tmp 7] (.seq (R 5 [0, 1, 5, 6] [.tmp 5 (xbh 1 (.sl 2)), .tmp 6 (xnl 6 [.int .i64 0, .int .i64 0]), .set 7 (.cv (.bool false))]) (.seq (.seq (R 10 [0, 1,
  5, 6, 15] [.tmp 15 (.or (.op (.p (.eqk false .ptr (.s 0) (.s 1))) (.cons (.va 0) (.cv (.pointer none)))) (xb .lss (xld (.sl 5)) (xi 0)))]) (.cond (.s 15) (.seq (R 16 [6, 7] [.run
  (xst 2 (.sl 6) (.op (.p (.build [.int .i64 0, .int .i64 0] [])) .nil)), .set 7 (.cv (.bool false))]) .ret) .skip)) (.seq (R 8 [0, 1, 5, 6, 8] [.tmp 8 (xnh [.int .i64 0, .int .i64
  0])]) (.seq (R 9 [0, 1, 5, 6, 8, 9] [.tmp 9 (xnh [.bool false]), .run (xst 1 (.sl 9) (.cv (.bool false)))]) (.seq (R 17 [1, 5, 6, 8, 9] [.tmp 20 (xc3 39 (.va 0) (.va
  1) (.op (.p (.mkfn (.func 48) [] [.s 0, .s 1, .s 2])) (.cons (.sl 5) (.cons (.sl 8) (.sl 9)))))]) (.seq (.block 0 (.seq (R 22 [1, 5, 6, 8, 21] [.set 21 (xld (.sl
  9))]) (.cond (.s 21) (.seq (R 23 [6, 7] [.run (xst 2 (.sl 6) (xln 2 (.sl 8))), .set 7 (.cv (.bool true))]) .ret) (.seq (R 25 [1, 6, 24] [.set 24 (xb .gtr (xld (.sl 5)) (xi 0))])
  (.cond (.s 24) (.seq (R 27 [6, 7] [.run (xst 2 (.sl 6) (.op (.p (.build [.int .i64 0, .int .i64 0] [])) .nil)), .set 7 (.cv (.bool false))]) .ret) .skip))))) (.seq (R 28 [6, 7]
  [.run (xst 2 (.sl 6) (.op (.p (.build [.int .i64 0, .int .i64 0] [(0, 1, .s 0), (1, 1, .s 1)])) (.cons (xsl (.va 1)) (xc1 14 (.va 1))))), .set 7 (.cv (.bool true))])
  .ret)))))))
theorem fn_strip_Place : (autoPrg Tryz.prog).fn 20 = some LF_strip_Place := by kernel_rfl
def LF_strip_Place_1 : LFunc :=
  .mk 5 [.tmp 7] (.seq (R 5 [2, 3, 4, 5] [.tmp 5 (xbl 5 2 (.sl 0)), .set 7 (.cv (.bool false))]) (.seq (.region [.mk (some 8) (.r (.load (some 2) (.s 5))) none, .mk (some 9) (.r
  (.load none (.s 2))) none, .mk (some 10) (.p (.bin .eql (.s 9) (.c (.int .i64 0)))) none, .mk none (.e (.store 2 (.s 3) (.s 8))) none, .mk none (.e (.store 1 (.s 4) (.s 10)))
  none] [2, 4] [(1, 4)]) (.seq (R 11 [4] [.run (xst 1 (.sl 2) (xb .sub (xld (.sl 2)) (xi 1)))]) (.seq (R 13 [7] [.set 7 (xu .not (xld (.sl 4)))]) .ret))))
theorem fn_strip_Place_1 : (autoPrg Tryz.prog).fn 48 = some LF_strip_Place_1 := by kernel_rfl
def LF_strip_Same : LFunc :=
  .mk 3 [.tmp 6] (.seq (R 999 [0, 1, 2] [.set 6 (.cv (.bool false))]) (.seq (R 7 [6] [.set 6 (.and (.op (.p (.eqk true .ptr (.s 0) (.s 1))) (.cons (.va 0) (.cv (.pointer none))))
  (xb .eql (xc2 10 (.va 0) (.va 1)) (xc2 10 (.va 0) (.va 2))))]) .ret))
theorem fn_strip_Same : (autoPrg Tryz.prog).fn 15 = some LF_strip_Same := by kernel_rfl
end Go.Proofs.YtblmakgjdenpfaaGreatDoor.AM
namespace Go.Proofs.YtblmakgjdenpfaaGreatDoor.AM
open Go
end Go.Proofs.YtblmakgjdenpfaaGreatDoor.AM
namespace Go.Proofs.YtblmakgjdenpfaaGreatDoor.AM
open Go
theorem filter_range_get {p : Nat → Bool} {n i : Nat} (hi : i < n) (hp : p i = true) : ((List.range n).filter p)[((List.range i).filter p).length]? = some i := by
  rw [show n = i + (1 + (n - i - 1)) by omega, List.range_add, List.filter_append, List.getElem?_append_right (Nat.le_refl _), Nat.sub_self, Nat.add_comm 1, List.range_succ_eq_map]
  simp [hp]
theorem filter_range_succ (p : Nat → Bool) (i : Nat) : ((List.range (i + 1)).filter p).length = ((List.range i).filter p).length + (if p i = true then 1 else 0) := by
  rw [List.range_succ, List.filter_append, List.length_append]
  by_cases h : p i = true <;> simp [h]
theorem filter_range_map {α : Type} (q : α → Bool) : ∀ l : List α, ((List.range l.length).filter fun i => (l[i]?).any q).filterMap (fun i => l[i]?) = l.filter q
  | [] => rfl
  | a :: l => by
    have ih := filter_range_map q l
    rw [List.length_cons, List.range_succ_eq_map, List.filter_cons, List.filter_map]
    have e : (fun i => ((a :: l)[i]?).any q) ∘ Nat.succ = fun i => (l[i]?).any q := by
      funext i; simp
    rw [e]
    by_cases h : q a = true
    · simp only [List.getElem?_cons_zero, Option.any_some, h, if_true, List.filterMap_cons, List.filter_cons]
      rw [List.filterMap_map]
      simp only [Function.comp_def, List.getElem?_cons_succ, ih]
    · simp only [List.getElem?_cons_zero, Option.any_some, h, Bool.false_eq_true, if_false, List.filter_cons]
      rw [List.filterMap_map]
      simp only [Function.comp_def, List.getElem?_cons_succ, ih]
def seenI (D : Nat → Bool) (l : Bytes) : List Nat := (List.range (runesB l).length).filter fun i => ((runesB l)[i]?).any fun c => !D c
def seenL (D : Nat → Bool) (l : Bytes) : List (Nat × Nat × Nat) := (seenI D l).map fun i => (posn l i, i, (runesB l).getD i 0)
def keptR (D : Nat → Bool) (l : Bytes) : List Nat := (runesB l).filter fun c => !D c
def stripB (D : Nat → Bool) (l : Bytes) : Bytes := encs (keptR D l)
def seenN (D : Nat → Bool) (l : Bytes) (i : Nat) : Nat := ((List.range i).filter fun i => ((runesB l)[i]?).any fun c => !D c).length
theorem seenI_map (D : Nat → Bool) (l : Bytes) : (seenL D l).map (·.2.2) = keptR D l := by
  have h := filter_range_map (fun c => !D c) (runesB l)
  unfold seenL keptR
  rw [← h, List.map_map]
  show (seenI D l).map (fun i => (runesB l).getD i 0) = (seenI D l).filterMap fun i => (runesB l)[i]?
  have hk : ∀ i ∈ seenI D l, (runesB l)[i]? = some ((runesB l).getD i 0) := fun i hi => by
    have := (List.mem_filter.1 hi).1
    rw [List.mem_range] at this
    simp [List.getD_eq_getElem?_getD, this]
  generalize seenI D l = L at hk ⊢
  induction L with
  | nil => rfl
  | cons i r ih =>
    rw [List.map_cons, List.filterMap_cons, hk i (by simp)]
    simp only
    rw [ih fun j hj => hk j (by simp [hj])]
theorem seenL_len (D : Nat → Bool) (l : Bytes) : (seenL D l).length = (keptR D l).length := by rw [← seenI_map, List.length_map]
theorem seenN_all (D : Nat → Bool) (l : Bytes) : seenN D l (spots l).length = (seenL D l).length := by
  unfold seenN seenL seenI
  rw [List.length_map, runesB_len]
theorem seenN_drop {D : Nat → Bool} {l : Bytes} {i : Nat} (hi : i < (spots l).length) (h : D (spots l)[i].1 = true) : seenN D l (i + 1) = seenN D l i := by
  unfold seenN
  rw [filter_range_succ]
  have : (runesB l)[i]? = some (spots l)[i].1 := by simp [runesB, hi]
  simp [this, h]
theorem seenN_more {D : Nat → Bool} {l : Bytes} {i : Nat} (hi : i < (spots l).length) (h : D (spots l)[i].1 = false) :
    seenN D l (i + 1) = seenN D l i + 1 ∧ ∃ hj : seenN D l i < (seenL D l).length, (seenL D l)[seenN D l i] = (posn l i, i, (spots l)[i].1) := by
  have e : (runesB l)[i]? = some (spots l)[i].1 := by simp [runesB, hi]
  have hp : (((runesB l)[i]?).any fun c => !D c) = true := by simp [e, h]
  have hi' : i < (runesB l).length := by rw [runesB_len]; exact hi
  have hg := filter_range_get (p := fun i => ((runesB l)[i]?).any fun c => !D c) hi' hp
  constructor
  · unfold seenN
    rw [filter_range_succ, if_pos hp]
  · have hL : (seenL D l)[seenN D l i]? = some (posn l i, i, (spots l)[i].1) := by
      unfold seenL seenI seenN
      rw [List.getElem?_map, hg]
      simp [List.getD_eq_getElem?_getD, e]
    obtain ⟨h1, h2⟩ := List.getElem?_eq_some_iff.1 hL
    exact ⟨h1, h2⟩
def firstD (D : Nat → Bool) (l : Bytes) : Option (Nat × Nat) := scanL (spots l) fun i x => if isBad2 x = true ∨ D x.1 = true then some (posn l i, i) else none
def placeD (D : Nat → Bool) (l : Bytes) (n : Nat) : Option (Nat × Nat) :=
  if h : n < (seenL D l).length then some ((seenL D l)[n].1, (seenL D l)[n].2.1) else if n = (seenL D l).length then some (l.length, (spots l).length) else none
variable {D : Nat → Bool}
theorem kept_rune (l : Bytes) : ∀ c ∈ keptR D l, RuneN c := fun c hc => runesB_rune l c (List.mem_filter.1 hc).1
theorem runesB_strip (l : Bytes) : runesB (stripB D l) = keptR D l := runesB_of_encs (kept_rune l)
theorem strip_valid (l : Bytes) : validB (stripB D l) = true := valid_encs (kept_rune l)
theorem strip_strip (l : Bytes) : stripB D (stripB D l) = stripB D l := by
  unfold stripB
  congr 1
  show (runesB (stripB D l)).filter _ = _
  rw [runesB_strip]
  unfold keptR
  rw [List.filter_filter]
  simp
theorem kept_strip (l : Bytes) : keptR D (stripB D l) = keptR D l := by
  show (runesB (stripB D l)).filter _ = _
  rw [runesB_strip]
  unfold keptR
  rw [List.filter_filter]
  simp
theorem kept_all {L : List Nat} : (L.filter fun c => !D c) = L ↔ ∀ c ∈ L, D c = false := by
  rw [List.filter_eq_self]
  simp
theorem strip_len (l : Bytes) : (spots (stripB D l)).length = (keptR D l).length := by rw [← runesB_len, runesB_strip]
theorem kept_le (l : Bytes) : (keptR D l).length ≤ (spots l).length := by rw [← runesB_len]; exact List.length_filter_le _ _
theorem firstD_iff (l : Bytes) : (firstD D l).isSome = true ↔ stripB D l ≠ l := by
  have key : firstD D l = none ↔ stripB D l = l := by
    constructor
    · intro h
      have hn : ∀ x ∈ spots l, isBad2 x = false ∧ D x.1 = false := fun x hx => by
        obtain ⟨i, hi, rfl⟩ := List.mem_iff_getElem.1 hx
        have := scanL_none h i hi
        split at this
        · cases this
        · rename_i hc
          constructor
          · cases hb : isBad2 (spots l)[i]
            · rfl
            · exact absurd (.inl hb) hc
          · cases hb : D (spots l)[i].1
            · rfl
            · exact absurd (.inr hb) hc
      have hv : validB l = true := by
        unfold validB
        rw [List.all_eq_true]
        intro x hx
        have := (hn x hx).1
        unfold isBad2 at this
        simp [this]
      have hk : keptR D l = runesB l := kept_all.2 fun c hc => by
        obtain ⟨x, hx, rfl⟩ := List.mem_map.1 hc
        exact (hn x hx).2
      unfold stripB
      rw [hk]
      exact (valid_clean l).1 hv
    · intro h
      have hv : validB l = true := by rw [← h]; exact strip_valid l
      have hk : keptR D l = runesB l := by
        rw [← runesB_strip, h]
      refine scanL_end fun i hi => if_neg ?_
      rintro (hb | hd)
      · unfold validB at hv
        rw [List.all_eq_true] at hv
        have := hv _ (List.getElem_mem hi)
        unfold isBad2 at hb
        rw [hb] at this
        cases this
      · have := kept_all.1 hk (spots l)[i].1 (List.mem_map.2 ⟨_, List.getElem_mem hi, rfl⟩)
        rw [this] at hd
        cases hd
  rw [← Option.ne_none_iff_isSome]
  exact not_congr key
end Go.Proofs.YtblmakgjdenpfaaGreatDoor.AM
namespace Go.Proofs.YtblmakgjdenpfaaGreatDoor.AM
open Go
def LF_utf_Count : LFunc :=
  .mk 1 [.tmp 2] (.seq (R 999 [0] [.set 2 (xi 0)]) (.seq (R 999 [0, 3] [.set 3 (xi 0)]) (.seq (.seq (R 4 [3, 5] [.tmp 5 (.op (.e (.rngS 5 (.s 0))) (.va 0))]) (.block 0 (.loop (.seq
  (R 6 [3, 5, 7] [.tmp 7 (xex 0 (.op (.e (.nxtS (.s 0))) (.sl 5)))]) (.seq (.cond (.s 7) .skip (.exit 0)) (.block 1 (R 8 [3, 5] [.set 3 (xb .add (.va 3) (xi 1))]))))))) (.seq (R 10
  [2] [.set 2 (.va 3)]) .ret))))
theorem fn_utf_Count : (autoPrg Tryz.prog).fn 14 = some LF_utf_Count := by kernel_rfl
end Go.Proofs.YtblmakgjdenpfaaGreatDoor.AM
namespace Go.Proofs.YtblmakgjdenpfaaGreatDoor.AM
open Go
theorem utfCount_eq (s : ByteArray) (hs : s.size ≤ 16777216) (h : AH) : callO PX 14 [.string s] h = some (.int .i64 (spots s.data.toList).length, h) := by
  have hz : s.data.toList.length = s.size := rfl
  have hn := spots_len s.data.toList
  apply WpC.eqn
  refine wpc_fn (px_ext rfl) (px_fn fn_utf_Count) rfl ?_
  unfold LF_utf_Count
  simp only [argFr]
  (refine W_x @ev_rngS ?_; (repeat' first | apply Cj.mk | exact Nl.nl) <;> intros)
  refine wp_spotsS (fun i _ => [(3, .int .i64 i), (5, .pointer (some ⟨10, 0, some 1⟩))]) (fun n _ => [(10, .siter s n)]) s s.data.toList (fun _ _ h' => h' = h) (fun _ _ => (none : Option Unit)) () rfl (by repeat' first | exact True.intro | refine And.intro rfl ?_) (fun _ _ => rfl) rfl rfl (fun i hi _ h1 hh hit => ?_) fun _ h1 hh fin => ?_
  · subst hh
    (refine W_x trivial ?_; (repeat' first | apply Cj.mk | exact Nl.nl) <;> intros)
    refine wo_next rfl rfl hi ?_
    (refine W_x trivial ?_; (repeat' first | apply Cj.mk | exact Nl.nl) <;> intros)
    exact ⟨rfl, (), (by repeat' first | exact True.intro | refine And.intro rfl ?_), rfl, rfl⟩
  · subst hh
    (refine W_x trivial ?_; (repeat' first | apply Cj.mk | exact Nl.nl) <;> intros)
    refine wo_nextE rfl rfl ?_
    (refine W_x trivial ?_; (repeat' first | apply Cj.mk | exact Nl.nl) <;> intros)
    exact ⟨rfl, rfl⟩
end Go.Proofs.YtblmakgjdenpfaaGreatDoor.AM
namespace Go.Proofs.YtblmakgjdenpfaaGreatDoor.AM
open Go
def LF_utf_Spots : LFunc :=
  .mk 1 [.tmp 2] (.seq (R 1 [1] [.tmp 1 (xbh 1 (.sl 0)), .set 2 (.cv .nilFunc)]) (.seq (R 3 [2] [.set 2 (.op (.p (.mkfn (.func 76) [] [.s 0])) (.sl 1))]) .ret))
theorem fn_utf_Spots : (autoPrg Tryz.prog).fn 43 = some LF_utf_Spots := by kernel_rfl
def LF_utf_Spots_1 : LFunc :=
  .mk 2 [] (.seq (R 6 [0, 1, 7] [.tmp 7 (.op (.e (.rngS 7 (.s 0))) (xld (.sl 1)))]) (.block 0 (.loop (.seq (R 8 [0, 1, 7, 8, 9] [.tmp 8 (.op (.e (.nxtS (.s 0))) (.sl 7)), .tmp 9
  (xex 0 (.sl 8))]) (.seq (.cond (.s 9) .skip (.exit 0)) (.block 1 (.seq (R 10 [0, 1, 3, 4, 7] [.tmp 10 (xex 1 (.sl 8)), .tmp 11 (xex 2 (.sl 8)), .set 3 (.sl 10), .set 4 (.sl 11)])
  (.seq (R 12 [0, 1, 3, 4, 5, 7] [.set 5 (xc1 77 (.va 4))]) (.seq (.seq (R 14 [0, 1, 3, 4, 5, 7, 24] [.tmp 24 (.and (xb .eql (.va 4) (xr 65533)) (xu .not (xc2
  78 (.op (.p (.slS (.s 0) (some (.s 1)) none)) (.cons (xld (.sl 1)) (.va 3))) (.op (.p (.i2s (.s 0))) (.va 4)))))]) (.cond (.s 24) (R 999 [0, 1, 3, 4, 5, 7]
  [.set 5 (xi 1)]) .skip)) (.seq (R 25 [0, 1, 7, 31] [.tmp 31 (xu .not (xv2 (.va 0) (.va 3) (xc2 79 (.va 4) (.va 5))))]) (.cond (.s 31) .ret .skip)))))))))))
theorem fn_utf_Spots_1 : (autoPrg Tryz.prog).fn 76 = some LF_utf_Spots_1 := by kernel_rfl
def LF_utf8_RuneLen : LFunc :=
  .mk 1 [.tmp 2] (.seq (R 999 [0] [.set 2 (xi 0)]) (.seq (.block 0 (.seq (R 4 [0, 3] [.set 3 (xb .lss (.va 0) (xr 0))]) (.cond (.s 3) (.seq (R 999 [2] [.set 2 (xi (-1))]) .ret)
  (.seq (R 7 [0, 6] [.set 6 (xb .leq (.va 0) (xr 127))]) (.cond (.s 6) (.seq (R 999 [2] [.set 2 (xi 1)]) .ret) (.seq (R 10 [0, 9] [.set 9 (xb .leq (.va 0) (xr 2047))]) (.cond (.s 9)
  (.seq (R 999 [2] [.set 2 (xi 2)]) .ret) (.seq (R 13 [0, 12] [.set 12 (.and (xb .leq (xr 55296) (.va 0)) (xb .leq (.va 0) (xr 57343)))]) (.cond (.s 12) (.seq (R 999 [2] [.set 2 (xi
  (-1))]) .ret) (.seq (R 20 [0, 19] [.set 19 (xb .leq (.va 0) (xr 65535))]) (.cond (.s 19) (.seq (R 999 [2] [.set 2 (xi 3)]) .ret) (.seq (R 23 [22] [.set 22 (xb .leq (.va 0) (xr
  1114111))]) (.cond (.s 22) (.seq (R 999 [2] [.set 2 (xi 4)]) .ret) .skip))))))))))))) (.seq (R 999 [2] [.set 2 (xi (-1))]) .ret)))
theorem fn_utf8_RuneLen : (autoPrg Tryz.prog).fn 77 = some LF_utf8_RuneLen := by kernel_rfl
def LF_strings_HasPrefix : LFunc :=
  .mk 2 [.tmp 4] (.seq (R 999 [0, 1] [.set 4 (.cv (.bool false))]) (.seq (R 5 [4] [.set 4 (xc2 121 (.va 0) (.va 1))]) .ret))
theorem fn_strings_HasPrefix : (autoPrg Tryz.prog).fn 78 = some LF_strings_HasPrefix := by kernel_rfl
def LF_internal_stringslite_HasPrefix : LFunc :=
  .mk 2 [.tmp 4] (.seq (R 999 [0, 1] [.set 4 (.cv (.bool false))]) (.seq (R 5 [4] [.set 4 (.and (xb .geq (xsl (.va 0)) (xsl (.va 1))) (xb .eql (.op (.p (.slS (.s 0) none (some (.s
  1)))) (.cons (.va 0) (xsl (.va 1)))) (.va 1)))]) .ret))
theorem fn_internal_stringslite_HasPrefix : (autoPrg Tryz.prog).fn 121 = some LF_internal_stringslite_HasPrefix := by kernel_rfl
def LF_utf_spot : LFunc :=
  .mk 2 [.cell 4 (some 3)] (.seq (R 4 [0, 1, 4] [.tmp 4 (xnl 4 [.int .i32 0, .int .i64 0, .bool false])]) (.seq (R 5 [4] [.run (xst 3 (.sl 4) (.op (.p (.build [.int .i32 0, .int
  .i64 0, .bool false] [(0, 1, .s 0), (1, 1, .s 1), (2, 1, .s 2)])) (.cons (.va 0) (.cons (.va 1) (.and (xb .eql (.va 0) (xr 65533)) (xb .eql (.va 1) (xi 1)))))))]) .ret))
theorem fn_utf_spot : (autoPrg Tryz.prog).fn 79 = some LF_utf_spot := by kernel_rfl
end Go.Proofs.YtblmakgjdenpfaaGreatDoor.AM
namespace Go.Proofs.YtblmakgjdenpfaaGreatDoor.AM
open Go
theorem runeLen_eq (c : Nat) (hc : RuneN c) (h : AH) : callO PX 77 [.int .i32 c] h = some (.int .i64 (encN c).length, h) := by
  have hle : c ≤ 0x10FFFF := by unfold RuneN at hc; omega
  have hl : (encN c).length = if c < 0x80 then 1 else if c < 0x800 then 2 else if c < 0x10000 then 3 else 4 := by
    unfold encN
    split
    · rfl
    · split
      · rfl
      · split <;> rfl
  unfold RuneN at hc
  apply WpC.eqn
  refine wpc_fn (px_ext rfl) (px_fn fn_utf8_RuneLen) rfl ?_
  unfold LF_utf8_RuneLen
  simp only [argFr]
  (refine W_x trivial ?_; (repeat' first | apply Cj.mk | exact Nl.nl) <;> intros)
  all_goals
    refine ⟨?_, rfl⟩
    rw [hl]
    congr 1
    repeat' split
    all_goals first | rfl | omega
theorem hasPrefix0_eq (a b : ByteArray) (h : AH) : callO PX 121 [.string a, .string b] h = some (.bool (decide (b.size ≤ a.size ∧ a.extract 0 b.size = b)), h) := by
  apply WpC.eqn
  refine wpc_fn (px_ext rfl) (px_fn fn_internal_stringslite_HasPrefix) rfl ?_
  unfold LF_internal_stringslite_HasPrefix
  simp only [argFr]
  (refine W_x trivial ?_; (repeat' first | apply Cj.mk | exact Nl.nl) <;> intros)
  all_goals (refine ⟨?_, rfl⟩; congr 1; symm)
  · rename_i g1 g2; exact decide_eq_true ⟨by omega, g2⟩
  · rename_i g1 g2; exact decide_eq_false (fun h => g2 h.2)
  · rename_i g1; exact decide_eq_false (fun h => g1 (by omega))
theorem hasPrefix_eq (a b : ByteArray) (h : AH) : callO PX 78 [.string a, .string b] h = some (.bool (decide (b.size ≤ a.size ∧ a.extract 0 b.size = b)), h) := by
  have e := hasPrefix0_eq a b
  apply WpC.eqn
  refine wpc_fn (px_ext rfl) (px_fn fn_strings_HasPrefix) rfl ?_
  unfold LF_strings_HasPrefix
  simp only [argFr]
  (refine W_x e ?_; (repeat' first | apply Cj.mk | exact Nl.nl) <;> intros)
  all_goals (refine ⟨?_, rfl⟩; congr 1; symm; first | exact decide_eq_true (by assumption) | exact decide_eq_false (by assumption))
theorem spot_eq (r n : Nat) (h : AH) : callO PX 79 [.int .i32 r, .int .i64 n] h = some (spotV (r, n), h) := by
  apply WpC.eqn
  refine wpc_fn (px_ext rfl) (px_fn fn_utf_spot) rfl ?_
  unfold LF_utf_spot
  simp only [argFr]
  (refine W_x trivial ?_; (repeat' first | apply Cj.mk | exact Nl.nl) <;> intros)
  all_goals
    refine ⟨?_, rfl⟩
    have hb : ∀ t : Bool, (t = true ↔ (r = 65533 ∧ n = 1)) → isBad2 (r, n) = t := fun t ht => by
      unfold isBad2
      rw [Bool.eq_iff_iff, ht]
      simp only [Bool.and_eq_true, beq_iff_eq]
    unfold spotV
    first
    | (have e : r = 65533 ∧ n = 1 := by omega
       rw [hb true (iff_of_true rfl e)]
       done)
    | (have e : ¬ (r = 65533 ∧ n = 1) := by omega
       rw [hb false (iff_of_false (by decide) e)]
       done)
theorem spotsMk_eq (s : ByteArray) (h : AH) : callO PX 43 [.string s] h = some (.func (.func 76) #[] #[.pointer (some ⟨h.n, 0, none⟩)], h.push (.cells false [.string s])) := by
  apply WpC.eqn
  refine wpc_fn (px_ext rfl) (px_fn fn_utf_Spots) rfl ?_
  unfold LF_utf_Spots
  simp only [argFr]
  (refine W_x trivial ?_; (repeat' first | apply Cj.mk | exact Nl.nl) <;> intros)
  exact ⟨rfl, rfl⟩
theorem spots_seq (s : ByteArray) (bx : Nat) (hsz : s.size ≤ 140737488351232) :
    SeqP PX (.func (.func 76) #[] #[.pointer (some ⟨bx, 0, none⟩)]) (spotsL s.data.toList) spotE (fun h => h.get bx = some (.cells false [.string s])) := by
  intro yv I E h hyv hvs hstep hD h0
  have d1 : h.get bx = some (.cells false [.string s]) := hD _ _ h0
  have hset := hyv.set
  have hlc1 := hyv.lc1
  refine wpV_fn ?_
  refine wpc_fn (px_ext rfl) (px_fn fn_utf_Spots_1) rfl ?_
  unfold LF_utf_Spots_1
  simp only [argFr, List.nil_append, List.cons_append]
  obtain ⟨l, hl⟩ : ∃ l, l = s.data.toList := ⟨_, rfl⟩
  rw [← hl] at hstep ⊢
  have hll : l.length = s.size := by rw [hl]; rfl
  (refine W_x (Aj d1 (Aj hset (Aj hlc1 @ev_rngS))) ?_; (repeat' first | apply Cj.mk | exact Nl.nl) <;> intros)
  refine wp_spotsS (fun _ _ => [(0, yv), (1, .pointer (some ⟨bx, 0, none⟩)), (7, .pointer (some ⟨14, 0, some 1⟩))]) (fun n _ => [(14, .siter s n)]) s l (fun i _ h1 => I i h1) (fun _ _ => (none : Option Unit)) () hl (by repeat' first | exact True.intro | refine And.intro rfl ?_) (fun _ _ => rfl) rfl h0 (fun i hil _ h1 hI hit => ?_) fun _ h1 hI fin => ?_
  · have d1 : h1.get bx = some (.cells false [.string s]) := hD _ _ hI
    obtain ⟨p1, p2, p3⟩ := posn_lt hil
    have hst := hstep i (by rw [spotsL_len]; exact hil) h1 hI
    rw [spotsL_get (by rw [spotsL_len]; exact hil)] at hst
    have hdc := dec_cases p3
    have hbad : (spots l)[i].1 = 65533 → ((encN 65533).length ≤ (l.drop (posn l i)).length ∧ (l.drop (posn l i)).take (encN 65533).length = encN 65533 ↔ (spots l)[i].2 = 3) := fun e => by
      rcases hdc with ⟨c, rest, hc, e1, e2⟩ | ⟨e1, e2⟩
      · rw [p2] at e2
        rw [e2] at e
        simp only at e
        subst e
        rw [e2, e1, encN_bad, List.take_left' encN_bad]
        simp [encN_bad]
      · rw [p2] at e1
        rw [e1, encN_bad]
        constructor
        · rintro ⟨h1, h2⟩
          exfalso
          refine e2 65533 ((l.drop (posn l i)).drop 3) rune_bad ?_
          rw [← h2, List.take_append_drop]
        · intro h; simp at h
    have hgood : (spots l)[i].1 ≠ 65533 → (spots l)[i].2 = (encN (spots l)[i].1).length := fun e => by
      rcases hdc with ⟨c, rest, hc, e1, e2⟩ | ⟨e1, e2⟩
      · rw [p2] at e2; rw [e2]
      · rw [p2] at e1; rw [e1] at e; exact absurd rfl e
    have hw3 : (spots l)[i].1 = 65533 → (spots l)[i].2 = 3 ∨ (spots l)[i].2 = 1 := fun e => by
      rcases hdc with ⟨c, rest, hc, e1, e2⟩ | ⟨e1, e2⟩
      · rw [p2] at e2
        rw [e2] at e
        simp only at e
        subst e
        rw [e2]; exact .inl encN_bad
      · rw [p2] at e1; rw [e1]; exact .inr rfl
    have hru : RuneN (spots l)[i].1 := runesB_rune l _ (List.mem_map.2 ⟨_, List.getElem_mem hil, rfl⟩)
    (refine W_x (Aj hset hlc1) ?_; (repeat' first | apply Cj.mk | exact Nl.nl) <;> intros)
    refine wo_next hl rfl hil ?_
    generalize (spots l)[i] = x at hst hbad hgood hw3 hru
    have hcast : ((Utf8.encode ((65533 : Nat) : Int))).data.toList = encN 65533 := encode_eq rune_bad
    have hpre : x.1 = 65533 → (decide ((Utf8.encode (x.1 : Int)).size ≤ (s.extract (posn l i) s.size).size ∧ (s.extract (posn l i) s.size).extract 0 (Utf8.encode (x.1 : Int)).size = Utf8.encode (x.1 : Int))) = decide (x.2 = 3) := fun e => by
      refine decide_eq_decide.2 ?_
      rw [← hbad e, e]
      have z1 : (Utf8.encode ((65533 : Nat) : Int)).size = (encN 65533).length := by rw [ba_size, hcast]
      have z2 : (s.extract (posn l i) s.size).data.toList = l.drop (posn l i) := by
        rw [ba_extract _ _ _ (Nat.le_refl _), ← hl, ← hll, ← List.length_drop, List.take_length]
      have z3 : (s.extract (posn l i) s.size).size = (l.drop (posn l i)).length := by rw [ba_size, z2]
      rw [z1, z3]
      constructor
      · rintro ⟨a, b⟩
        refine ⟨a, ?_⟩
        have : ((s.extract (posn l i) s.size).extract 0 (encN 65533).length).data.toList = (Utf8.encode ((65533 : Nat) : Int)).data.toList := by rw [b]
        rw [ba_extract _ _ _ (by omega), z2, hcast] at this
        simpa using this
      · rintro ⟨a, b⟩
        refine ⟨a, ba_ext ?_⟩
        rw [ba_extract _ _ _ (by omega), z2, hcast]
        simpa using b
    have el := runeLen_eq x.1 hru
    have es := fun n => spot_eq x.1 n
    by_cases e : x.1 = 65533
    · have hpre := hpre e
      have hw4 := hw3 e
      obtain ⟨c, w⟩ := x
      simp only at e hpre hw4 hst
      have hci : (c : Int) = 65533 := by omega
      have el2 : ∀ h, callO PX 77 [.int .i32 c] h = some (.int .i64 3, h) := fun h => by
        have := el h
        simp only at this
        rw [this, e, encN_bad]
        rfl
      have eh2 : ∀ h, callO PX 78 [.string (s.extract (posn l i) s.size), .string (Utf8.encode c)] h = some (.bool (decide (w = 3)), h) := fun h => by
        have := hasPrefix_eq (s.extract (posn l i) s.size) (Utf8.encode (c : Int)) h
        rw [hpre] at this
        exact this
      have es2 : ∀ h, callO PX 79 [.int .i32 c, .int .i64 3] h = some (spotV (c, 3), h) := fun h => spot_eq c 3 h
      have es3 : ∀ h, callO PX 79 [.int .i32 c, .int .i64 1] h = some (spotV (c, 1), h) := fun h => spot_eq c 1 h
      have hpl : ((posn l i : Nat) : Int) ≤ (s.size : Int) := by omega
      rcases hw4 with rfl | rfl
      all_goals
        simp only [decide_true, show decide (1 = 3) = false from rfl] at eh2
        (refine W_x (Aj hset (Aj hlc1 (Aj d1 (Aj el2 (Aj eh2 (Aj es2 es3)))))) ?_; (repeat' first | apply Cj.mk | exact Nl.nl) <;> intros)
        refine wo_callV (fv := yv) rfl rfl rfl ?_
        refine hst.mono ?_
        rintro v h2 hor
        rcases hor with ⟨rfl, hI2⟩ | ⟨rfl, hE⟩
        · (refine W_x (Aj hset hlc1) ?_; (repeat' first | apply Cj.mk | exact Nl.nl) <;> intros)
          exact ⟨rfl, (), (by repeat' first | exact True.intro | refine And.intro rfl ?_), rfl, hI2⟩
        · (refine W_x (Aj hset hlc1) ?_; (repeat' first | apply Cj.mk | exact Nl.nl) <;> intros)
          exact .inr hE
    · have hgd := hgood e
      rw [← hgd] at el
      have es2 := es x.2
      have hne : ¬ (x.1 : Int) = 65533 := by omega
      (refine W_x (Aj hset (Aj hlc1 (Aj el es2))) ?_; (repeat' first | apply Cj.mk | exact Nl.nl) <;> intros)
      refine wo_callV (fv := yv) rfl rfl rfl ?_
      refine hst.mono ?_
      rintro v h2 hor
      rcases hor with ⟨rfl, hI2⟩ | ⟨rfl, hE⟩
      · (refine W_x (Aj hset hlc1) ?_; (repeat' first | apply Cj.mk | exact Nl.nl) <;> intros)
        exact ⟨rfl, (), (by repeat' first | exact True.intro | refine And.intro rfl ?_), rfl, hI2⟩
      · (refine W_x (Aj hset hlc1) ?_; (repeat' first | apply Cj.mk | exact Nl.nl) <;> intros)
        exact .inr hE
  · (refine W_x (Aj hset hlc1) ?_; (repeat' first | apply Cj.mk | exact Nl.nl) <;> intros)
    refine wo_nextE hl rfl ?_
    (refine W_x (Aj hset hlc1) ?_; (repeat' first | apply Cj.mk | exact Nl.nl) <;> intros)
    exact .inl (by rw [spotsL_len]; exact hI)
end Go.Proofs.YtblmakgjdenpfaaGreatDoor.AM
