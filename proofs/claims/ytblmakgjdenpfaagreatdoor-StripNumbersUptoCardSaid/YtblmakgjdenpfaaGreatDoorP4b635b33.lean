/- Parts of proofs: lemmas, joined. -/
import Derived.Test.YtblmakgjdenpfaaGreatDoorP867c245c
set_option linter.unusedVariables false
set_option linter.unusedSimpArgs false
set_option linter.unusedSectionVars false
namespace Go.Proofs.YtblmakgjdenpfaaGreatDoor.AM
open Go
variable {α : Type} [Inhabited α] {q : Pl} {enc : α → List Value} {val : α → Value} {cv : Value} {key : α → Int} {idx : α → Int}
def Bl (bs : Nat) : List (List α) → Prop
  | [] => True
  | A :: r => 0 < A.length ∧ A.length ≤ bs ∧ (r ≠ [] → A.length = bs) ∧ Bl bs r
theorem Bl.snoc {bs : Nat} : ∀ {L : List (List α)}, (∀ A ∈ L, A.length = bs) → 0 < bs → ∀ {R : List (List α)}, Bl bs R → Bl bs (L ++ R)
  | [], _, _, _, h => h
  | A :: r, h, hb, R, hR => by
    have h1 := h A (by simp)
    exact ⟨by omega, by omega, fun _ => h1, Bl.snoc (fun B hB => h B (List.mem_cons_of_mem _ hB)) hb hR⟩
end Go.Proofs.YtblmakgjdenpfaaGreatDoor.AM
namespace Go.Proofs.YtblmakgjdenpfaaGreatDoor.AM
open Go
section
variable {p : Prg} {fr : Fr} {lc : Lc} {h : AH} {Q : Post}
end
abbrev clT (T : Tab) (c : Nat) : Int := classI T c
def plV : Option (Nat × Nat) → Value
  | some (a, b) => .tuple (List.toArray [.agg (List.toArray [.int .i64 a, .int .i64 b]), .bool true])
  | none => .tuple (List.toArray [.agg (List.toArray [.int .i64 0, .int .i64 0]), .bool false])
end Go.Proofs.YtblmakgjdenpfaaGreatDoor.AM
namespace Go.Proofs.YtblmakgjdenpfaaGreatDoor.AM
open Go
section
variable {p : Prg} {fr : Fr} {lc : Lc} {h : AH} {Q : Post}
theorem wp_spotsS {σ β : Type} {n : Nat} {keep : List Nat} {sts : List St} {b : LCode} (F : Nat → σ → Fr) (L : Nat → σ → Lc) (s : ByteArray) (l : Bytes) (J : Nat → σ → AH → Prop) (g : Nat → Nat × Nat → Option β) (st0 : σ) (hl : l = s.data.toList)
    (hf0 : AgF (F 0 st0) fr) (hk : ∀ i st, okS keep ((F i st).map (·.1)) n sts = true) (h0 : lc = L 0 st0) (hJ : J 0 st0 h)
    (more : ∀ i (hi : i < (spots l).length) st h, J i st h → (∀ w, g i (spots l)[i] = some w → scanL (spots l) g = some w) →
      WpS p keep sts (F i st) (L (posn l i) st) h (thenQ p b (loopQ (fun fr' lc' h' => g i (spots l)[i] = none ∧ ∃ st', AgF (F (i + 1) st') fr' ∧ lc' = L (posn l (i + 1)) st' ∧ J (i + 1) st' h') Q) .norm))
    (fin : ∀ st h, J (spots l).length st h → scanL (spots l) g = none → WpS p keep sts (F (spots l).length st) (L l.length st) h (thenQ p b (loopQ (fun _ _ _ => False) Q) .norm)) : Wp p (.loop (.seq (R n keep sts) b)) fr lc h Q := by
  refine wp_scanL (spots l) g (fun i fr lc' h => ∃ st, AgF (F i st) fr ∧ lc' = L (posn l i) st ∧ J i st h) ⟨st0, hf0, by rw [posn_zero]; exact h0, hJ⟩ ?_ ?_
  · rintro fr _ h ⟨st, ha, rfl, hj⟩ fn
    rw [posn_all]
    exact wp_seq (wp_RA ha (hk _ _) (fin st h hj fn))
  · rintro i hi fr _ h ⟨st, ha, rfl, hj⟩ hit
    refine wp_mono (wp_seq (wp_RA ha (hk _ _) (more i hi st h hj hit))) fun ex fr lc h hq => ?_
    have hq := hq.out
    cases ex with
    | norm => exact ⟨⟨hq.1, hq.2⟩⟩
    | exit j => exact ⟨hq⟩
    | ret => exact ⟨hq⟩
theorem wp_forS {σ α β : Type} {a : LCode} (F : Nat → σ → Fr) (L : Nat → σ → Lc) (l : List α) (J : Nat → σ → AH → Prop) (g : Nat → α → Option β) (st0 : σ) (h0 : fr = F 0 st0) (hc : lc = L 0 st0) (hJ : J 0 st0 h)
    (more : ∀ i (hi : i < l.length) st h, J i st h → (∀ w, g i l[i] = some w → scanL l g = some w) → Wp p a (F i st) (L i st) h (loopQ (fun fr' lc' h' => g i l[i] = none ∧ ∃ st', fr' = F (i + 1) st' ∧ lc' = L (i + 1) st' ∧ J (i + 1) st' h') Q))
    (fin : ∀ st h, J l.length st h → scanL l g = none → Wp p a (F l.length st) (L l.length st) h (loopQ (fun _ _ _ => False) Q)) : Wp p (.loop a) fr lc h Q := by
  refine wp_scanL l g (fun i fr lc' h => ∃ st, fr = F i st ∧ lc' = L i st ∧ J i st h) ⟨st0, h0, hc, hJ⟩ ?_ ?_
  · rintro _ _ h ⟨st, rfl, rfl, hj⟩ fn
    exact fin st h hj fn
  · rintro i hi _ _ h ⟨st, rfl, rfl, hj⟩ hit
    refine wp_mono (more i hi st h hj hit) fun ex fr lc h hq => ?_
    have hq := hq.out
    cases ex with
    | norm => exact ⟨⟨hq.1, hq.2⟩⟩
    | exit j => exact ⟨hq⟩
    | ret => exact ⟨hq⟩
end
theorem runesB_len (l : Bytes) : (runesB l).length = (spots l).length := by rw [runesB, List.length_map]
theorem encs_snoc (B : List Nat) (c : Nat) : encs (B ++ [c]) = encs B ++ encN c := by
  rw [encs_append]
  simp [encs]
theorem encs_lenle (L : List Nat) : (encs L).length ≤ 4 * L.length := by
  induction L with
  | nil => simp [encs]
  | cons c L ih =>
    have := (encN_len c).2
    rw [encs_cons, List.length_append, List.length_cons]
    omega
end Go.Proofs.YtblmakgjdenpfaaGreatDoor.AM
namespace Go.Proofs.YtblmakgjdenpfaaGreatDoor.AM
open Go
def orderB (T : Tab) (l : Bytes) : Bytes := encs (ord (clT T) (runesB l))
end Go.Proofs.YtblmakgjdenpfaaGreatDoor.AM
namespace Go.Proofs.YtblmakgjdenpfaaGreatDoor.AM
open Go
section
variable {cl : Nat → Int}
end
end Go.Proofs.YtblmakgjdenpfaaGreatDoor.AM
namespace Go.Proofs.YtblmakgjdenpfaaGreatDoor.AM
open Go
def sl3 (e : Nat) (v a b c : Value) : Option Value := (POp.sl e (.c v) (some (.c a)) (some (.c b)) (some (.c c))).ev []
theorem ev_sl3 {fr : Fr} {e : Nat} {x a b c : Opd} : (POp.sl e x (some a) (some b) (some c)).ev fr = sl3 e (opd fr x) (opd fr a) (opd fr b) (opd fr c) := rfl
attribute [push_cast] ev_sl3
end Go.Proofs.YtblmakgjdenpfaaGreatDoor.AM
namespace Go.Proofs.YtblmakgjdenpfaaGreatDoor.AM
open Go
theorem of_house {h : AH} {S : TS} (t : TabAt h S houseT) (u : U8T h) (hg : 2 ≤ h.n) : WpC PX 8 [.agg S.vs.toArray] h fun v h' => Kp h h' ∧ ∃ k B S, v = .tuple (List.toArray [.pointer (some ⟨k, 0, none⟩), .bool true, .bool true]) ∧ BookAt h' k B S houseT ∧ h.n ≤ B ∧ h.n ≤ k :=
  (of_spec t u hg).mono fun v h' ⟨k, q⟩ => ⟨k, by rwa [if_pos house_good] at q⟩
end Go.Proofs.YtblmakgjdenpfaaGreatDoor.AM
namespace Go.Proofs.YtblmakgjdenpfaaGreatDoor.AM
open Go
theorem good_check {T : Tab} (h : goodB T = true) : checkW T = none := by
  unfold goodB at h
  simp only [Bool.and_eq_true, Option.isNone_iff_eq_none] at h
  exact h.2
section
variable {cl : Nat → Int}
end
end Go.Proofs.YtblmakgjdenpfaaGreatDoor.AM
namespace Go.Proofs.YtblmakgjdenpfaaGreatDoor.AM
open Go
def LF_strings_Builder_WriteRune : LFunc :=
  .mk 2 [.tmp 4, .tmp 5] (.seq (R 999 [0, 1] [.set 4 (xi 0), .set 5 (.cv .nilIface)]) (.seq (R 7 [0, 1] [.tmp 8 (xc1 74 (.va 0))]) (.seq (R 9 [0, 1, 6]
  [.set 6 (xlen (xld (xfa 1 (xnk (.va 0)))))]) (.seq (R 14 [0, 6] [.tmp 14 (.va 0), .tmp 20 (xc2 75 (xld (xfa 1 (xnk (.va 0)))) (.va 1)), .run (xst 1 (xfa 1 (xnk
  (.sl 14))) (.sl 20))]) (.seq (R 23 [4, 5] [.set 4 (xb .sub (xlen (xld (xfa 1 (xnk (.va 0))))) (.va 6)), .set 5 (.cv .nilIface)]) .ret)))))
theorem fn_strings_Builder_WriteRune : (autoPrg Tryz.prog).fn 41 = some LF_strings_Builder_WriteRune := by kernel_rfl
def LF_utf8_AppendRune : LFunc :=
  .mk 2 [.tmp 4] (.seq (R 999 [0, 1] [.set 4 (.cv (.slice none 0 0))]) (.seq (.seq (R 5 [0, 1, 7] [.tmp 7 (xb .leq (xcn .u32 (.va 1)) (.cv (.int .u32 127)))]) (.cond (.s 7) (.seq (R
  8 [4] [.set 4 (.op (.e (.appendT 10 1 1 (.s 0) (.s 1))) (.cons (.va 0) (.op (.e (.litL 11 1 1 [.int .u8 0] [(0, 1, .s 0)])) (xcn .u8 (.va 1)))))]) .ret) .skip)) (.seq (R
  13 [4] [.set 4 (xc2 120 (.va 0) (.va 1))]) .ret)))
theorem fn_utf8_AppendRune : (autoPrg Tryz.prog).fn 75 = some LF_utf8_AppendRune := by kernel_rfl
def LF_utf8_appendRuneNonASCII : LFunc :=
  .mk 2 [.tmp 4] (.seq (R 999 [0, 1] [.set 4 (.cv (.slice none 0 0))]) (.seq (R 6 [0, 1, 5] [.set 5 (xcn .u32 (.va 1))]) (.block 0 (.seq (R 12 [0, 1, 5, 11] [.set 11 (xb .leq (.va
  5) (.cv (.int .u32 2047)))]) (.cond (.s 11) (.seq (R 14 [4] [.set 4 (.op (.e (.appendT 10 1 1 (.s 0) (.s 1))) (.cons (.va 0) (.op (.e (.litL 23 2 1 [.int .u8 0] [(0, 1,
  .s 0), (1, 1, .s 1)])) (.cons (xb .or (.cv (.int .u8 192)) (xcn .u8 (xb .shr (.va 1) (.cv (.int .u64 6))))) (xb .or (.cv (.int .u8 128)) (xb .and (xcn .u8 (.va 1)) (.cv (.int .u8
  63))))))))]) .ret) (.seq (.seq (R 26 [0, 1, 5, 25] [.set 25 (xb .lss (.va 5) (.cv (.int .u32 55296)))]) (.cond (.s 25) .skip (R 28 [0, 1, 5, 25] [.set 25 (.and (xb .lss (.cv (.int
  .u32 57343)) (.va 5)) (xb .leq (.va 5) (.cv (.int .u32 65535))))]))) (.cond (.s 25) (.seq (R 34 [4] [.set 4 (.op (.e (.appendT 10 1 1 (.s 0) (.s 1))) (.cons (.va 0) (.op
  (.e (.litL 48 3 1 [.int .u8 0] [(0, 1, .s 0), (1, 1, .s 1), (2, 1, .s 2)])) (.cons (xb .or (.cv (.int .u8 224)) (xcn .u8 (xb .shr (.va 1) (.cv (.int .u64 12))))) (.cons (xb .or
  (.cv (.int .u8 128)) (xb .and (xcn .u8 (xb .shr (.va 1) (.cv (.int .u64 6)))) (.cv (.int .u8 63)))) (xb .or (.cv (.int .u8 128)) (xb .and (xcn .u8 (.va 1)) (.cv (.int .u8
  63)))))))))]) .ret) (.seq (R 51 [0, 1, 50] [.set 50 (.and (xb .gtr (.va 5) (.cv (.int .u32 65535))) (xb .leq (.va 5) (.cv (.int .u32 1114111))))]) (.cond (.s 50) (.seq (R 57 [4]
  [.set 4 (.op (.e (.appendT 10 1 1 (.s 0) (.s 1))) (.cons (.va 0) (.op (.e (.litL 76 4 1 [.int .u8 0] [(0, 1, .s 0), (1, 1, .s 1), (2, 1, .s 2), (3, 1, .s 3)])) (.cons (xb
  .or (.cv (.int .u8 240)) (xcn .u8 (xb .shr (.va 1) (.cv (.int .u64 18))))) (.cons (xb .or (.cv (.int .u8 128)) (xb .and (xcn .u8 (xb .shr (.va 1) (.cv (.int .u64 12)))) (.cv (.int
  .u8 63)))) (.cons (xb .or (.cv (.int .u8 128)) (xb .and (xcn .u8 (xb .shr (.va 1) (.cv (.int .u64 6)))) (.cv (.int .u8 63)))) (xb .or (.cv (.int .u8 128)) (xb .and (xcn .u8 (.va
  1)) (.cv (.int .u8 63))))))))))]) .ret) (.seq (R 8 [4] [.set 4 (.op (.e (.appendT 10 1 1 (.s 0) (.s 1))) (.cons (.va 0) (.op (.e (.litL 9 3 1 [.int .u8 0] [(0, 1, .s 0),
  (1, 1, .s 1), (2, 1, .s 2)])) (.cons (.cv (.int .u8 239)) (.cons (.cv (.int .u8 191)) (.cv (.int .u8 189)))))))]) .ret))))))))))
theorem fn_utf8_appendRuneNonASCII : (autoPrg Tryz.prog).fn 120 = some LF_utf8_appendRuneNonASCII := by kernel_rfl
end Go.Proofs.YtblmakgjdenpfaaGreatDoor.AM
namespace Go.Proofs.YtblmakgjdenpfaaGreatDoor.AM
open Go
theorem ev_newT {c : CallF} {y : YieldF} {fr : Fr} {lc : Lc} {h : AH} {t : Nat} {z : List Value} : (EOp.newT t z).ev c y fr ⟨lc, h⟩ = some (.pointer (some ⟨h.n, 0, none⟩), ⟨lc, h.push (.tc t z)⟩) := rfl
attribute [push_cast] ev_newT
def bufS (g : Option Nat) (n : Nat) : Sl := match g with
  | none => .nil
  | some g => .at g 0 n
def BufAt (h : AH) (g : Option Nat) (X : Bytes) : Prop := match g with
  | none => X = []
  | some g => X ≠ [] ∧ h.get g = some (.tc 10 (bytesV X))
structure BldAt (h : AH) (b : Nat) (g : Option Nat) (X : Bytes) : Prop where
  p : ∃ p, h.get b = some (.tc 163 [p, (bufS g X.length).val 1]) ∧ (p = .pointer none ∨ p = .pointer (some ⟨b, 0, none⟩))
  u : BufAt h g X
  ne : g ≠ some b
structure BFr (h h' : AH) (b : Nat) (g g' : Option Nat) : Prop where
  n : h.n ≤ h'.n
  keep : ∀ c, c < h.n → c ≠ b → g ≠ some c → h'.get c = h.get c
  new : g' = g ∨ ∃ x, g' = some x ∧ h.n ≤ x
def killO (h : AH) : Option Nat → AH
  | none => h
  | some g => h.kill g
theorem killO_n (h : AH) (g : Option Nat) : (killO h g).n = h.n := by cases g <;> rfl
theorem killO_get {h : AH} {g : Option Nat} {c : Nat} (hc : g ≠ some c) : (killO h g).get c = h.get c := by
  cases g with
  | none => rfl
  | some g => exact AH.get_kill_ne (fun e => hc (by rw [e]))
theorem bytesV_app (X Y : Bytes) : bytesV (X ++ Y) = bytesV X ++ bytesV Y := by simp [bytesV]
theorem bytesV_len (X : Bytes) : (bytesV X).length = X.length := by simp [bytesV]
theorem app_buf {h : AH} {lc : Lc} {g : Option Nat} {X Y : Bytes} {y : Value} {k : Nat} (hb : BufAt h g X) (hk : lenV y = some k) (hy : rdSlice ⟨lc, h⟩ 1 y = some (bytesV Y)) (hl : Y.length = k) (h0 : 0 < k) (hn : X.length + k ≤ 140737488355328) :
    appendG (some 10) 1 1 ⟨lc, h⟩ ((bufS g X.length).val 1) y = some (.slice (some ⟨h.n, 0, none⟩) (X.length + k) 1, ⟨lc, (killO h g).push (.tc 10 (bytesV (X ++ Y)))⟩) := by
  have hlen : (bytesV Y).length = k * 1 := by rw [bytesV_len, hl, Nat.mul_one]
  cases g with
  | none =>
    have hX : X = [] := hb
    subst hX
    simp only [List.length_nil, Nat.zero_add] at hn
    simp only [bufS, Sl.val, appendG, hk, hy, hlen, if_true, AObj.mk, killO, List.nil_append, List.length_nil, Nat.zero_add]
    rw [if_neg (by omega), if_pos ⟨by omega, by decide, by decide⟩]
  | some g =>
    obtain ⟨hX, hg⟩ := hb
    simp only [bufS, Sl.val, appendG, hk, hy, hlen, if_true, AObj.mk, killO]
    rw [if_neg (by omega)]
    simp only [hg, AObj.own, if_true]
    rw [if_pos ⟨by rw [bytesV_len]; omega, by omega, by decide, by decide, trivial⟩, bytesV_app]
    rfl
section
variable {p : Prg} {lc : Lc} {h : AH} {H : Value → Lc → AH → Prop}
theorem wo_appB {g : Option Nat} {X Y : Bytes} {b k : Nat} {cs : List Value} (hb : BufAt h g X) (hl : lget lc b = some (.cells false cs)) (hc : cs = bytesV Y) (hk : Y.length = k) (h0 : 0 < k) (hn : X.length + k ≤ 140737488355328)
    (hq : H (.slice (some ⟨h.n, 0, none⟩) (X.length + k) 1) lc ((killO h g).push (.tc 10 (bytesV (X ++ Y))))) : WpO p (.e (.appendT 10 1 1 (.s 0) (.s 1))) [(bufS g X.length).val 1, .slice (some ⟨b, 0, some 1⟩) k 1] lc h H := by
  refine wo_e (v := .slice (some ⟨h.n, 0, none⟩) (X.length + k) 1) (lc' := lc) ?_ hq
  simp only [EOp.ev, opd_s, fg0, fg1]
  refine app_buf hb rfl ?_ hk h0 hn
  subst hc
  simp only [rdSlice, rd_loc, hl, Nat.mul_one]
  rw [if_neg (by omega), if_pos (by rw [bytesV_len]; omega), List.drop_zero, List.take_of_length_le (by rw [bytesV_len]; omega)]
end
theorem copyCheck_spec {h : AH} {b : Nat} {g : Option Nat} {X : Bytes} (bd : BldAt h b g X) :
    ∃ h1, callO PX 74 [.pointer (some ⟨b, 0, none⟩)] h = some (.tuple #[], h1) ∧ h1.n = h.n ∧ (∀ c, c ≠ b → h1.get c = h.get c) ∧ h1.get b = some (.tc 163 [.pointer (some ⟨b, 0, none⟩), (bufS g X.length).val 1]) := by
  obtain ⟨p, hp, hor⟩ := bd.p
  rw [callO_ext (g := cpyX 81) (by unfold PX; rw [withExt_ext]; rfl)]
  unfold cpyX
  rcases hor with rfl | rfl
  · refine ⟨h.set b (.tc 163 [.pointer (some ⟨b, 0, none⟩), (bufS g X.length).val 1]), ?_, rfl, fun c hc => AH.get_set_ne _ hc, AH.get_set_same _ (AH.get_lt hp)⟩
    simp only [hp]
    rfl
  · refine ⟨h, ?_, rfl, fun c _ => rfl, hp⟩
    simp only [hp]
    simp
theorem bldString_spec {h : AH} {b : Nat} {g : Option Nat} {X : Bytes} (bd : BldAt h b g X) (hX : X.length ≤ 140737488355328) :
    callO PX 42 [.pointer (some ⟨b, 0, none⟩)] h = some (.string (bs X), killO h g) := by
  obtain ⟨p, hp, hor⟩ := bd.p
  rw [callO_ext (g := strX 81 5) (by unfold PX; rw [withExt_ext]; rfl)]
  unfold strX
  simp only [hp]
  cases g with
  | none =>
    have : X = [] := bd.u
    subst this
    rfl
  | some g =>
    obtain ⟨h1, h2⟩ := bd.u
    have hpos : 0 < X.length := List.length_pos_iff.2 h1
    simp only [bufS, Sl.val, h2, bytesX_bytesV, if_true]
    rw [if_pos ⟨trivial, trivial, hpos, hX⟩]
    rfl
end Go.Proofs.YtblmakgjdenpfaaGreatDoor.AM
namespace Go.Proofs.YtblmakgjdenpfaaGreatDoor.AM
open Go
theorem u8_fin : (∀ m : Fin 64, IntKind.u8.wrap ((BitVec.ofInt 8 128 ||| BitVec.ofInt 8 ((m.val : Nat) : Int)).toNat : Int) = ((128 + m.val : Nat) : Int)) ∧ (∀ m : Fin 32, IntKind.u8.wrap ((BitVec.ofInt 8 192 ||| BitVec.ofInt 8 ((m.val : Nat) : Int)).toNat : Int) = ((192 + m.val : Nat) : Int)) ∧
    (∀ m : Fin 16, IntKind.u8.wrap ((BitVec.ofInt 8 224 ||| BitVec.ofInt 8 ((m.val : Nat) : Int)).toNat : Int) = ((224 + m.val : Nat) : Int)) ∧ (∀ m : Fin 8, IntKind.u8.wrap ((BitVec.ofInt 8 240 ||| BitVec.ofInt 8 ((m.val : Nat) : Int)).toNat : Int) = ((240 + m.val : Nat) : Int)) := by
  decide
set_option maxRecDepth 10000 in
theorem u8_and : ∀ m : Fin 256, IntKind.u8.wrap ((BitVec.ofInt 8 ((m.val : Nat) : Int) &&& BitVec.ofInt 8 63).toNat : Int) = ((m.val % 64 : Nat) : Int) := by
  decide
theorem oru128 {m : Nat} (h : m < 64) : binA .or (.int .u8 128) (.int .u8 m) = some (.int .u8 ((128 + m : Nat) : Int)) := congrArg (fun z => some (Value.int .u8 z)) (u8_fin.1 ⟨m, h⟩)
theorem oru192 {m : Nat} (h : m < 32) : binA .or (.int .u8 192) (.int .u8 m) = some (.int .u8 ((192 + m : Nat) : Int)) := congrArg (fun z => some (Value.int .u8 z)) (u8_fin.2.1 ⟨m, h⟩)
theorem oru224 {m : Nat} (h : m < 16) : binA .or (.int .u8 224) (.int .u8 m) = some (.int .u8 ((224 + m : Nat) : Int)) := congrArg (fun z => some (Value.int .u8 z)) (u8_fin.2.2.1 ⟨m, h⟩)
theorem oru240 {m : Nat} (h : m < 8) : binA .or (.int .u8 240) (.int .u8 m) = some (.int .u8 ((240 + m : Nat) : Int)) := congrArg (fun z => some (Value.int .u8 z)) (u8_fin.2.2.2 ⟨m, h⟩)
theorem andu63 {q : Nat} : binA .and (.int .u8 ((q % 256 : Nat) : Int)) (.int .u8 63) = some (.int .u8 ((q % 64 : Nat) : Int)) := by
  have h := u8_and ⟨q % 256, Nat.mod_lt _ (by decide)⟩
  simp only [show q % 256 % 64 = q % 64 by omega] at h
  exact congrArg (fun z => some (Value.int .u8 z)) h
theorem shrs {k : Nat} {c m : Nat} (hk : m = 2 ^ (min k 32)) : binA .shr (.int .i32 c) (.int .u64 k) = some (.int .i32 ((c / m : Nat) : Int)) := by
  show (if (k : Int) < 0 then none else some (Value.int .i32 ((c : Int).fdiv (2 ^ (min (k : Int).toNat 32))))) = _
  rw [if_neg (by omega), Int.fdiv_eq_ediv_of_nonneg _ (Int.le_of_lt (Int.pow_pos (by decide))), hk, Int.toNat_natCast]
  congr 2
theorem wrapu8 (q : Nat) : IntKind.u8.wrap (q : Int) = ((q % 256 : Nat) : Int) := by
  unfold IntKind.wrap
  simp [IntKind.signed, IntKind.bits]
theorem wrapu32 {q : Nat} (h : q < 4294967296) : IntKind.u32.wrap (q : Int) = (q : Int) := by
  unfold IntKind.wrap
  simp [IntKind.signed, IntKind.bits]
  omega
theorem bytesV_ofs : ∀ {l : List Nat}, (∀ m ∈ l, m < 256) → bytesV (l.map UInt8.ofNat) = l.map fun m : Nat => Value.int .u8 m
  | [], _ => rfl
  | m :: l, h => by
    rw [List.map_cons, List.map_cons, ← bytesV_ofs (l := l) fun x hx => h x (by simp [hx])]
    show Value.int .u8 (((UInt8.ofNat m).toNat : Nat) : Int) :: _ = _
    rw [of_small (h m (by simp))]
    rfl
set_option maxRecDepth 20000 in
theorem appRune_spec {c : Nat} (hc : RuneN c) {h : AH} {g : Option Nat} {X : Bytes} (hb : BufAt h g X) (hn : X.length ≤ 140737488355000) :
    callO PX 75 [(bufS g X.length).val 1, .int .i32 c] h = some (.slice (some ⟨h.n, 0, none⟩) (X.length + (encN c).length) 1, (killO h g).push (.tc 10 (bytesV (X ++ encN c)))) := by
  have hc2 : c ≤ 1114111 := by unfold RuneN at hc; omega
  have hsur : ¬ (55296 ≤ c ∧ c ≤ 57343) := by unfold RuneN at hc; omega
  clear hc
  have w8 := wrapu8
  have w32 := wrapu32 (q := c) (by omega)
  apply WpC.eqn
  by_cases g1 : c < 128
  · have he : encN c = [c].map UInt8.ofNat := by unfold encN; rw [if_pos g1]; rfl
    have hv := bytesV_ofs (l := [c]) (fun m hm => by simp at hm; omega)
    rw [← he] at hv
    simp only [List.map_cons, List.map_nil] at hv
    have hm : c % 256 = c := Nat.mod_eq_of_lt (by omega)
    have hl : (encN c).length = 1 := by rw [he]; rfl
    generalize encN c = Y at *
    refine wpc_fn (px_ext rfl) (px_fn fn_utf8_AppendRune) rfl ?_
    unfold LF_utf8_AppendRune
    simp only [argFr]
    (refine W_x (Aj w32 (Aj w8 hm)) ?_; (repeat' first | apply Cj.mk | exact Nl.nl) <;> intros)
    refine wo_appB hb rfl hv.symm hl (by decide) (by omega) ?_
    (refine W_x trivial ?_; (repeat' first | apply Cj.mk | exact Nl.nl) <;> intros)
    rw [hl]
    exact ⟨rfl, rfl⟩
  · obtain ⟨q6, e6⟩ : ∃ q, q = c / 64 := ⟨_, rfl⟩
    obtain ⟨q12, e12⟩ : ∃ q, q = c / 4096 := ⟨_, rfl⟩
    obtain ⟨q18, e18⟩ : ∃ q, q = c / 262144 := ⟨_, rfl⟩
    obtain ⟨x0, d0⟩ : ∃ q, q = c % 256 := ⟨_, rfl⟩
    obtain ⟨x6, d6⟩ : ∃ q, q = q6 % 256 := ⟨_, rfl⟩
    obtain ⟨x12, d12⟩ : ∃ q, q = q12 % 256 := ⟨_, rfl⟩
    obtain ⟨x18, d18⟩ : ∃ q, q = q18 % 256 := ⟨_, rfl⟩
    obtain ⟨r0, f0⟩ : ∃ q, q = c % 64 := ⟨_, rfl⟩
    obtain ⟨r6, f6⟩ : ∃ q, q = q6 % 64 := ⟨_, rfl⟩
    obtain ⟨r12, f12⟩ : ∃ q, q = q12 % 64 := ⟨_, rfl⟩
    have s6 : binA .shr (.int .i32 c) (.int .u64 6) = some (.int .i32 (q6 : Int)) := by rw [e6]; exact shrs (k := 6) (m := 64) rfl
    have s12 : binA .shr (.int .i32 c) (.int .u64 12) = some (.int .i32 (q12 : Int)) := by rw [e12]; exact shrs (k := 12) (m := 4096) rfl
    have s18 : binA .shr (.int .i32 c) (.int .u64 18) = some (.int .i32 (q18 : Int)) := by rw [e18]; exact shrs (k := 18) (m := 262144) rfl
    have w0 : IntKind.u8.wrap (c : Int) = (x0 : Int) := by rw [d0]; exact wrapu8 c
    have w6 : IntKind.u8.wrap (q6 : Int) = (x6 : Int) := by rw [d6]; exact wrapu8 q6
    have w12 : IntKind.u8.wrap (q12 : Int) = (x12 : Int) := by rw [d12]; exact wrapu8 q12
    have w18 : IntKind.u8.wrap (q18 : Int) = (x18 : Int) := by rw [d18]; exact wrapu8 q18
    have a0 : binA .and (.int .u8 x0) (.int .u8 63) = some (.int .u8 (r0 : Int)) := by rw [d0, f0]; exact andu63
    have a6 : binA .and (.int .u8 x6) (.int .u8 63) = some (.int .u8 (r6 : Int)) := by rw [d6, f6]; exact andu63
    have a12 : binA .and (.int .u8 x12) (.int .u8 63) = some (.int .u8 (r12 : Int)) := by rw [d12, f12]; exact andu63
    have o0 := oru128 (m := r0) (by omega)
    have o6 := oru128 (m := r6) (by omega)
    have o12 := oru128 (m := r12) (by omega)
    have hE : encN c = if c < 0x800 then [192 + q6, 128 + r0].map UInt8.ofNat else if c < 0x10000 then [224 + q12, 128 + r6, 128 + r0].map UInt8.ofNat else [240 + q18, 128 + r12, 128 + r6, 128 + r0].map UInt8.ofNat := by
      unfold encN
      rw [if_neg g1, e6, e12, e18, f0, f6, f12, e6, e12]
      rfl
    have b0 : r0 < 64 := by omega
    have b6 : r6 < 64 := by omega
    have b12 : r12 < 64 := by omega
    by_cases g2 : c < 2048
    · have hm : x6 = q6 := by omega
      have p1 := oru192 (m := q6) (by omega)
      have hb1 : q6 < 32 := by omega
      rw [hm] at w6
      rw [if_pos g2] at hE
      clear e6 e12 e18 d0 d6 d12 d18 f0 f6 f12
      have hv := bytesV_ofs (l := [192 + q6, 128 + r0]) (fun m hm => by simp at hm; omega)
      rw [← hE] at hv
      simp only [List.map_cons, List.map_nil, Int.natCast_add, Int.cast_ofNat_Int] at hv
      have hl : (encN c).length = 2 := by rw [hE]; rfl
      have e1 : callO PX 120 [(bufS g X.length).val 1, .int .i32 c] h = some (.slice (some ⟨h.n, 0, none⟩) (X.length + (encN c).length) 1, (killO h g).push (.tc 10 (bytesV (X ++ encN c)))) := by
        generalize encN c = Y at *
        apply WpC.eqn
        refine wpc_fn (px_ext rfl) (px_fn fn_utf8_appendRuneNonASCII) rfl ?_
        unfold LF_utf8_appendRuneNonASCII
        simp only [argFr]
        (refine W_x (Aj w32 (Aj w0 (Aj w6 (Aj s6 (Aj a0 (Aj o0 p1)))))) ?_; (repeat' first | apply Cj.mk | exact Nl.nl) <;> intros)
        all_goals first
        | (exfalso; omega)
        | (refine wo_appB hb rfl hv.symm hl (by decide) (by omega) ?_
           (refine W_x trivial ?_; (repeat' first | apply Cj.mk | exact Nl.nl) <;> intros)
           rw [hl]
           exact ⟨rfl, rfl⟩)
      generalize encN c = Y at *
      refine wpc_fn (px_ext rfl) (px_fn fn_utf8_AppendRune) rfl ?_
      unfold LF_utf8_AppendRune
      simp only [argFr]
      (refine W_x (Aj w32 e1) ?_; (repeat' first | apply Cj.mk | exact Nl.nl) <;> intros)
      exact ⟨rfl, rfl⟩
    · by_cases g3 : c < 65536
      · have hm : x12 = q12 := by omega
        have p1 := oru224 (m := q12) (by omega)
        have hb1 : q12 < 16 := by omega
        rw [hm] at w12
        rw [if_neg g2, if_pos g3] at hE
        clear e6 e12 e18 d0 d6 d12 d18 f0 f6 f12
        have hv := bytesV_ofs (l := [224 + q12, 128 + r6, 128 + r0]) (fun m hm => by simp at hm; omega)
        rw [← hE] at hv
        simp only [List.map_cons, List.map_nil, Int.natCast_add, Int.cast_ofNat_Int] at hv
        have hl : (encN c).length = 3 := by rw [hE]; rfl
        have e1 : callO PX 120 [(bufS g X.length).val 1, .int .i32 c] h = some (.slice (some ⟨h.n, 0, none⟩) (X.length + (encN c).length) 1, (killO h g).push (.tc 10 (bytesV (X ++ encN c)))) := by
          generalize encN c = Y at *
          apply WpC.eqn
          refine wpc_fn (px_ext rfl) (px_fn fn_utf8_appendRuneNonASCII) rfl ?_
          unfold LF_utf8_appendRuneNonASCII
          simp only [argFr]
          (refine W_x (Aj w32 (Aj w0 (Aj w6 (Aj w12 (Aj s6 (Aj s12 (Aj a0 (Aj a6 (Aj o0 (Aj o6 p1)))))))))) ?_; (repeat' first | apply Cj.mk | exact Nl.nl) <;> intros)
          all_goals first
          | (exfalso; omega)
          | (refine wo_appB hb rfl hv.symm hl (by decide) (by omega) ?_
             (refine W_x trivial ?_; (repeat' first | apply Cj.mk | exact Nl.nl) <;> intros)
             rw [hl]
             exact ⟨rfl, rfl⟩)
        generalize encN c = Y at *
        refine wpc_fn (px_ext rfl) (px_fn fn_utf8_AppendRune) rfl ?_
        unfold LF_utf8_AppendRune
        simp only [argFr]
        (refine W_x (Aj w32 e1) ?_; (repeat' first | apply Cj.mk | exact Nl.nl) <;> intros)
        exact ⟨rfl, rfl⟩
      · have hm : x18 = q18 := by omega
        have p1 := oru240 (m := q18) (by omega)
        have hb1 : q18 < 8 := by omega
        rw [hm] at w18
        rw [if_neg g2, if_neg g3] at hE
        clear e6 e12 e18 d0 d6 d12 d18 f0 f6 f12
        have hv := bytesV_ofs (l := [240 + q18, 128 + r12, 128 + r6, 128 + r0]) (fun m hm => by simp at hm; omega)
        rw [← hE] at hv
        simp only [List.map_cons, List.map_nil, Int.natCast_add, Int.cast_ofNat_Int] at hv
        have hl : (encN c).length = 4 := by rw [hE]; rfl
        have e1 : callO PX 120 [(bufS g X.length).val 1, .int .i32 c] h = some (.slice (some ⟨h.n, 0, none⟩) (X.length + (encN c).length) 1, (killO h g).push (.tc 10 (bytesV (X ++ encN c)))) := by
          generalize encN c = Y at *
          apply WpC.eqn
          refine wpc_fn (px_ext rfl) (px_fn fn_utf8_appendRuneNonASCII) rfl ?_
          unfold LF_utf8_appendRuneNonASCII
          simp only [argFr]
          (refine W_x (Aj w32 (Aj w0 (Aj w6 (Aj w12 (Aj w18 (Aj s6 (Aj s12 (Aj s18 (Aj a0 (Aj a6 (Aj a12 (Aj o0 (Aj o6 (Aj o12 p1)))))))))))))) ?_; (repeat' first | apply Cj.mk | exact Nl.nl) <;> intros)
          all_goals first
          | (exfalso; omega)
          | (refine wo_appB hb rfl hv.symm hl (by decide) (by omega) ?_
             (refine W_x trivial ?_; (repeat' first | apply Cj.mk | exact Nl.nl) <;> intros)
             rw [hl]
             exact ⟨rfl, rfl⟩)
        generalize encN c = Y at *
        refine wpc_fn (px_ext rfl) (px_fn fn_utf8_AppendRune) rfl ?_
        unfold LF_utf8_AppendRune
        simp only [argFr]
        (refine W_x (Aj w32 e1) ?_; (repeat' first | apply Cj.mk | exact Nl.nl) <;> intros)
        exact ⟨rfl, rfl⟩
theorem writeRune_spec {c : Nat} (hc : RuneN c) {h : AH} {b : Nat} {g : Option Nat} {X : Bytes} (bd : BldAt h b g X) (hn : X.length ≤ 140737488355000) :
    WpC PX 41 [.pointer (some ⟨b, 0, none⟩), .int .i32 c] h fun v h' => ∃ g', BldAt h' b g' (X ++ encN c) ∧ BFr h h' b g g' := by
  obtain ⟨h1, e1, n1, k1, q1⟩ := copyCheck_spec bd
  have hu := bd.u
  have hne := bd.ne
  have hbn := AH.get_lt q1
  have hb1 : BufAt h1 g X := by
    cases g with
    | none => exact hu
    | some g => exact ⟨hu.1, (k1 g (fun e => hne (by rw [e]))).trans hu.2⟩
  have e2 := appRune_spec hc hb1 hn
  have hl := encN_len c
  generalize encN c = Y at *
  have hk : ((killO h1 g).push (.tc 10 (bytesV (X ++ Y)))).get b = some (.tc 163 [.pointer (some ⟨b, 0, none⟩), (bufS g X.length).val 1]) := by
    rw [AH.get_push_ne _ (by rw [killO_n]; omega), killO_get hne]
    exact q1
  have hK : ∀ c, c < h.n → c ≠ b → g ≠ some c → ((killO h1 g).push (.tc 10 (bytesV (X ++ Y)))).get c = h.get c := fun c hc hcb hg => by
    rw [AH.get_push_ne _ (by rw [killO_n]; omega), killO_get hg]
    exact k1 c hcb
  have hN : ((killO h1 g).push (.tc 10 (bytesV (X ++ Y)))).n = h.n + 1 := by rw [AH.push_n, killO_n, n1]
  have hG : ((killO h1 g).push (.tc 10 (bytesV (X ++ Y)))).get h.n = some (.tc 10 (bytesV (X ++ Y))) := by
    rw [← n1, ← killO_n h1 g]; exact AH.get_push_same _ _
  rw [n1] at e2
  generalize (killO h1 g).push (.tc 10 (bytesV (X ++ Y))) = h2 at *
  have hs : (bufS g X.length).len = X.length := by
    cases g with
    | none => have : X = [] := hu; subst this; rfl
    | some g => rfl
  refine wpc_fn (px_ext rfl) (px_fn fn_strings_Builder_WriteRune) rfl ?_
  unfold LF_strings_Builder_WriteRune
  simp only [argFr]
  (refine W_x (Aj e1 (Aj q1 (Aj e2 (Aj hk hs)))) ?_; (repeat' first | apply Cj.mk | exact Nl.nl) <;> intros)
  refine ⟨some h.n, ⟨⟨_, by rw [AH.get_set_same _ (by omega), List.length_append]; rfl, .inr rfl⟩, ⟨?_, ?_⟩, ?_⟩, ?_, ?_, ?_⟩
  · intro e
    have := congrArg List.length e
    rw [List.length_append, List.length_nil] at this
    omega
  · exact (AH.get_set_ne _ (show h.n ≠ b by omega)).trans hG
  · intro e; injection e with e; omega
  · rw [AH.set_n]; omega
  · intro c hc hcb hg
    rw [AH.get_set_ne _ hcb]
    exact hK c hc hcb hg
  · exact .inr ⟨_, rfl, Nat.le_refl _⟩
end Go.Proofs.YtblmakgjdenpfaaGreatDoor.AM
namespace Go.Proofs.YtblmakgjdenpfaaGreatDoor.AM
open Go
def LF_strip_Strip : LFunc :=
  .mk 2 [.tmp 4] (.seq (R 999 [0, 1] [.set 4 (.cv (.string ⟨#[]⟩))]) (.seq (R 5 [0, 1, 5] [.tmp 5 (.op (.e (.newT 163 [.pointer none, .slice none 0 0])) .nil)])
  (.seq (R 6 [5] [.tmp 9 (xc3 39 (.va 0) (.va 1) (.op (.p (.mkfn (.func 40) [] [.s 0])) (.sl 5)))]) (.seq (R 10 [4] [.set 4 (xc1
  42 (.sl 5))]) .ret))))
theorem fn_strip_Strip : (autoPrg Tryz.prog).fn 10 = some LF_strip_Strip := by kernel_rfl
def LF_strip_Strip_1 : LFunc :=
  .mk 3 [.tmp 5] (.seq (R 3 [1, 2] [.tmp 3 (xbl 3 2 (.sl 0)), .set 5 (.cv (.bool false))]) (.seq (R 6 [] [.tmp 7 (xc2 41 (.sl 2) (.va 1))]) (.seq (R
  999 [5] [.set 5 (.cv (.bool true))]) .ret)))
theorem fn_strip_Strip_1 : (autoPrg Tryz.prog).fn 40 = some LF_strip_Strip_1 := by kernel_rfl
def LF_strip_First : LFunc :=
  .mk 2 [.cell 4 (some 2), .cell 5 none] (.seq (R 2 [1, 2, 4, 5] [.tmp 2 (xbh 1 (.sl 0)), .at 4, .tmp 4 (xnh [.int .i64 0, .int .i64 0]), .tmp 5 (xnh [.bool false])]) (.seq (.seq (R
  9 [1, 2, 4, 5, 10] [.tmp 10 (.op (.p (.eqk false .ptr (.s 0) (.s 1))) (.cons (xld (.sl 2)) (.cv (.pointer none))))]) (.cond (.s 10) (.seq (R 11 [4, 5] [.run (xst 2 (.sl 4) (.op
  (.p (.build [.int .i64 0, .int .i64 0] [])) .nil)), .run (xst 1 (.sl 5) (.cv (.bool false)))]) .ret) .skip)) (.seq (R 6 [1, 2, 4, 5, 6] [.tmp 6 (xnh [.int .i64 0]), .run (xst 1
  (.sl 6) (xi 0))]) (.seq (.seq (R 12 [2, 4, 5, 6, 13] [.tmp 13 (xc1 43 (.va 1))]) (.block 0 (.rangeF (.s 13) [14, 15] (.seq (R 7 [2, 4, 5, 6, 7, 15] [.tmp 7 (.va 14)])
  (R 8 [2, 4, 5, 6, 7, 8] [.tmp 8 (xnl 8 [.int .i32 0, .int .i64 0, .bool false]), .run (xst 3 (.sl 8) (.sl 15))])) (.block 1 (.seq (.seq (R 16 [4, 5, 6, 7, 23] [.tmp 23 (.or (xld
  (xfa 2 (.sl 8))) (xc2 44 (xld (.sl 2)) (xld (xfa 0 (.sl 8)))))]) (.cond (.s 23) (.seq (R 24 [] [.run (xst 2 (.sl 4) (.op (.p (.build [.int .i64 0, .int
  .i64 0] [(0, 1, .s 0), (1, 1, .s 1)])) (.cons (.va 7) (xld (.sl 6))))), .run (xst 1 (.sl 5) (.cv (.bool true)))]) .ret) .skip)) (R 27 [] [.run (xst 1 (.sl 6) (xb .add (xld (.sl
  6)) (xi 1)))])))))) (.seq (R 29 [4, 5] [.run (xst 2 (.sl 4) (.op (.p (.build [.int .i64 0, .int .i64 0] [])) .nil)), .run (xst 1 (.sl 5) (.cv (.bool false)))]) .ret)))))
theorem fn_strip_First : (autoPrg Tryz.prog).fn 12 = some LF_strip_First := by kernel_rfl
def LF_strip_Seen : LFunc :=
  .mk 2 [.tmp 4] (.seq (R 2 [2, 3] [.tmp 2 (xbh 1 (.sl 0)), .tmp 3 (xbh 1 (.sl 1)), .set 4 (.cv .nilFunc)]) (.seq (R 5 [4] [.set 4 (.op (.p (.mkfn (.func 84) [] [.s 0,
  .s 1])) (.cons (.sl 2) (.sl 3)))]) .ret))
theorem fn_strip_Seen : (autoPrg Tryz.prog).fn 50 = some LF_strip_Seen := by kernel_rfl
def LF_strip_Seen_1 : LFunc :=
  .mk 3 [] (R 4 [] [.tmp 7 (xc3 39 (xld (.sl 1)) (xld (.sl 2)) (.va 0))])
theorem fn_strip_Seen_1 : (autoPrg Tryz.prog).fn 84 = some LF_strip_Seen_1 := by kernel_rfl
def LF_strip_seen : LFunc :=
  .mk 3 [] (.seq (.seq (R 9 [0, 1, 2, 10] [.tmp 10 (.op (.p (.eqk false .ptr (.s 0) (.s 1))) (.cons (.va 0) (.cv (.pointer none))))]) (.cond (.s 10) .ret .skip)) (.seq (R 999 [0, 1,
  2, 6] [.set 6 (xi (-1))]) (.seq (R 11 [0, 2, 6, 12] [.tmp 12 (.op (.e (.rngS 12 (.s 0))) (.va 1))]) (.block 0 (.loop (.seq (R 13 [0, 2, 6, 12, 13, 14] [.tmp 13 (.op (.e (.nxtS (.s
  0))) (.sl 12)), .tmp 14 (xex 0 (.sl 13))]) (.seq (.cond (.s 14) .skip (.exit 0)) (.block 1 (.seq (R 15 [0, 2, 6, 7, 8, 12] [.tmp 15 (xex 1 (.sl 13)), .tmp 16 (xex 2 (.sl 13)),
  .set 7 (.sl 15), .set 8 (.sl 16)]) (.seq (R 17 [0, 2, 6, 7, 8, 12] [.set 6 (xb .add (.va 6) (xi 1))]) (.seq (R 19 [0, 2, 6, 12, 31] [.tmp 31 (.and (xu .not (xc2
  44 (.va 0) (.va 8))) (xu .not (xv2 (.va 2) (.op (.p (.build [.int .i64 0, .int .i64 0] [(0, 1, .s 0), (1, 1, .s 1)])) (.cons (.va 7) (.va 6))) (.va 8))))])
  (.cond (.s 31) .ret .skip))))))))))))
theorem fn_strip_seen : (autoPrg Tryz.prog).fn 39 = some LF_strip_seen := by kernel_rfl
def LF_strip_Count : LFunc :=
  .mk 2 [.tmp 4] (.seq (R 999 [0, 1] [.set 4 (xi 0)]) (.seq (.seq (R 6 [0, 1, 7] [.tmp 7 (.op (.p (.eqk false .ptr (.s 0) (.s 1))) (.cons (.va 0) (.cv (.pointer none))))]) (.cond
  (.s 7) (.seq (R 999 [4] [.set 4 (xi 0)]) .ret) .skip)) (.seq (R 8 [0, 1, 5] [.tmp 9 (xc1 14 (.va 1)), .at 5, .tmp 5 (xnh [.int .i64 0]), .run (xst 1 (.sl 5) (.sl 9))])
  (.seq (R 10 [5] [.tmp 13 (xc3 39 (.va 0) (.va 1) (.op (.p (.mkfn (.func 45) [] [.s 0])) (.sl 5)))]) (.seq (R 14 [4] [.set 4 (xld (.sl 5))]) .ret)))))
theorem fn_strip_Count : (autoPrg Tryz.prog).fn 13 = some LF_strip_Count := by kernel_rfl
def LF_strip_Count_1 : LFunc :=
  .mk 3 [.tmp 5] (.seq (R 3 [2] [.tmp 3 (xbl 3 2 (.sl 0)), .set 5 (.cv (.bool false))]) (.seq (R 6 [] [.run (xst 1 (.sl 2) (xb .sub (xld (.sl 2)) (xi 1)))]) (.seq (R 999 [5] [.set 5
  (.cv (.bool true))]) .ret)))
theorem fn_strip_Count_1 : (autoPrg Tryz.prog).fn 45 = some LF_strip_Count_1 := by kernel_rfl
def LF_strip_Place : LFunc :=
  .mk 3 [.cell 6 (some 2), .tmp 7] (.seq (R 5 [0, 1, 5, 6] [.tmp 5 (xbh 1 (.sl 2)), .tmp 6 (xnl 6 [.int .i64 0, .int .i64 0]), .set 7 (.cv (.bool false))]) (.seq (.seq (R 10 [0, 1,
  5, 6, 15] [.tmp 15 (.or (.op (.p (.eqk false .ptr (.s 0) (.s 1))) (.cons (.va 0) (.cv (.pointer none)))) (xb .lss (xld (.sl 5)) (xi 0)))]) (.cond (.s 15) (.seq (R 16 [6, 7] [.run
  (xst 2 (.sl 6) (.op (.p (.build [.int .i64 0, .int .i64 0] [])) .nil)), .set 7 (.cv (.bool false))]) .ret) .skip)) (.seq (R 8 [0, 1, 5, 6, 8] [.tmp 8 (xnh [.int .i64 0, .int .i64
  0])]) (.seq (R 9 [0, 1, 5, 6, 8, 9] [.tmp 9 (xnh [.bool false]), .run (xst 1 (.sl 9) (.cv (.bool false)))]) (.seq (R 17 [1, 5, 6, 8, 9] [.tmp 20 (xc3 39 (.va 0) (.va
  1) (.op (.p (.mkfn (.func 48) [] [.s 0, .s 1, .s 2])) (.cons (.sl 5) (.cons (.sl 8) (.sl 9)))))]) (.seq (.block 0 (.seq (R 22 [1, 5, 6, 8, 21] [.set 21 (xld (.sl
  9))]) (.cond (.s 21) (.seq (R 23 [6, 7] [.run (xst 2 (.sl 6) (xln 2 (.sl 8))), .set 7 (.cv (.bool true))]) .ret) (.seq (R 25 [1, 6, 24] [.set 24 (xb .gtr (xld (.sl 5)) (xi 0))])
  (.cond (.s 24) (.seq (R 27 [6, 7] [.run (xst 2 (.sl 6) (.op (.p (.build [.int .i64 0, .int .i64 0] [])) .nil)), .set 7 (.cv (.bool false))]) .ret) .skip))))) (.seq (R 28 [6, 7]
  [.run (xst 2 (.sl 6) (.op (.p (.build [.int .i64 0, .int .i64 0] [(0, 1, .s 0), (1, 1, .s 1)])) (.cons (xsl (.va 1)) (xc1 14 (.va 1))))), .set 7 (.cv (.bool true))])
  .ret)))))))
theorem fn_strip_Place : (autoPrg Tryz.prog).fn 20 = some LF_strip_Place := by kernel_rfl
def LF_strip_Place_1 : LFunc :=
  .mk 5 [.tmp 7] (.seq (R 5 [2, 3, 4, 5] [.tmp 5 (xbl 5 2 (.sl 0)), .set 7 (.cv (.bool false))]) (.seq (.region [.mk (some 8) (.r (.load (some 2) (.s 5))) none, .mk (some 9) (.r
  (.load none (.s 2))) none, .mk (some 10) (.p (.bin .eql (.s 9) (.c (.int .i64 0)))) none, .mk none (.e (.store 2 (.s 3) (.s 8))) none, .mk none (.e (.store 1 (.s 4) (.s 10)))
  none] [2, 4] [(1, 4)]) (.seq (R 11 [4] [.run (xst 1 (.sl 2) (xb .sub (xld (.sl 2)) (xi 1)))]) (.seq (R 13 [7] [.set 7 (xu .not (xld (.sl 4)))]) .ret))))
theorem fn_strip_Place_1 : (autoPrg Tryz.prog).fn 48 = some LF_strip_Place_1 := by kernel_rfl
def LF_strip_Same : LFunc :=
  .mk 3 [.tmp 6] (.seq (R 999 [0, 1, 2] [.set 6 (.cv (.bool false))]) (.seq (R 7 [6] [.set 6 (.and (.op (.p (.eqk true .ptr (.s 0) (.s 1))) (.cons (.va 0) (.cv (.pointer none))))
  (xb .eql (xc2 10 (.va 0) (.va 1)) (xc2 10 (.va 0) (.va 2))))]) .ret))
theorem fn_strip_Same : (autoPrg Tryz.prog).fn 15 = some LF_strip_Same := by kernel_rfl
end Go.Proofs.YtblmakgjdenpfaaGreatDoor.AM
namespace Go.Proofs.YtblmakgjdenpfaaGreatDoor.AM
open Go
end Go.Proofs.YtblmakgjdenpfaaGreatDoor.AM
namespace Go.Proofs.YtblmakgjdenpfaaGreatDoor.AM
open Go
theorem filter_range_get {p : Nat → Bool} {n i : Nat} (hi : i < n) (hp : p i = true) : ((List.range n).filter p)[((List.range i).filter p).length]? = some i := by
  rw [show n = i + (1 + (n - i - 1)) by omega, List.range_add, List.filter_append, List.getElem?_append_right (Nat.le_refl _), Nat.sub_self, Nat.add_comm 1, List.range_succ_eq_map]
  simp [hp]
theorem filter_range_succ (p : Nat → Bool) (i : Nat) : ((List.range (i + 1)).filter p).length = ((List.range i).filter p).length + (if p i = true then 1 else 0) := by
  rw [List.range_succ, List.filter_append, List.length_append]
  by_cases h : p i = true <;> simp [h]
theorem filter_range_map {α : Type} (q : α → Bool) : ∀ l : List α, ((List.range l.length).filter fun i => (l[i]?).any q).filterMap (fun i => l[i]?) = l.filter q
  | [] => rfl
  | a :: l => by
    have ih := filter_range_map q l
    rw [List.length_cons, List.range_succ_eq_map, List.filter_cons, List.filter_map]
    have e : (fun i => ((a :: l)[i]?).any q) ∘ Nat.succ = fun i => (l[i]?).any q := by
      funext i; simp
    rw [e]
    by_cases h : q a = true
    · simp only [List.getElem?_cons_zero, Option.any_some, h, if_true, List.filterMap_cons, List.filter_cons]
      rw [List.filterMap_map]
      simp only [Function.comp_def, List.getElem?_cons_succ, ih]
    · simp only [List.getElem?_cons_zero, Option.any_some, h, Bool.false_eq_true, if_false, List.filter_cons]
      rw [List.filterMap_map]
      simp only [Function.comp_def, List.getElem?_cons_succ, ih]
def seenI (D : Nat → Bool) (l : Bytes) : List Nat := (List.range (runesB l).length).filter fun i => ((runesB l)[i]?).any fun c => !D c
def seenL (D : Nat → Bool) (l : Bytes) : List (Nat × Nat × Nat) := (seenI D l).map fun i => (posn l i, i, (runesB l).getD i 0)
def keptR (D : Nat → Bool) (l : Bytes) : List Nat := (runesB l).filter fun c => !D c
def stripB (D : Nat → Bool) (l : Bytes) : Bytes := encs (keptR D l)
def seenN (D : Nat → Bool) (l : Bytes) (i : Nat) : Nat := ((List.range i).filter fun i => ((runesB l)[i]?).any fun c => !D c).length
theorem seenI_map (D : Nat → Bool) (l : Bytes) : (seenL D l).map (·.2.2) = keptR D l := by
  have h := filter_range_map (fun c => !D c) (runesB l)
  unfold seenL keptR
  rw [← h, List.map_map]
  show (seenI D l).map (fun i => (runesB l).getD i 0) = (seenI D l).filterMap fun i => (runesB l)[i]?
  have hk : ∀ i ∈ seenI D l, (runesB l)[i]? = some ((runesB l).getD i 0) := fun i hi => by
    have := (List.mem_filter.1 hi).1
    rw [List.mem_range] at this
    simp [List.getD_eq_getElem?_getD, this]
  generalize seenI D l = L at hk ⊢
  induction L with
  | nil => rfl
  | cons i r ih =>
    rw [List.map_cons, List.filterMap_cons, hk i (by simp)]
    simp only
    rw [ih fun j hj => hk j (by simp [hj])]
theorem seenL_len (D : Nat → Bool) (l : Bytes) : (seenL D l).length = (keptR D l).length := by rw [← seenI_map, List.length_map]
theorem seenN_all (D : Nat → Bool) (l : Bytes) : seenN D l (spots l).length = (seenL D l).length := by
  unfold seenN seenL seenI
  rw [List.length_map, runesB_len]
theorem seenN_drop {D : Nat → Bool} {l : Bytes} {i : Nat} (hi : i < (spots l).length) (h : D (spots l)[i].1 = true) : seenN D l (i + 1) = seenN D l i := by
  unfold seenN
  rw [filter_range_succ]
  have : (runesB l)[i]? = some (spots l)[i].1 := by simp [runesB, hi]
  simp [this, h]
theorem seenN_more {D : Nat → Bool} {l : Bytes} {i : Nat} (hi : i < (spots l).length) (h : D (spots l)[i].1 = false) :
    seenN D l (i + 1) = seenN D l i + 1 ∧ ∃ hj : seenN D l i < (seenL D l).length, (seenL D l)[seenN D l i] = (posn l i, i, (spots l)[i].1) := by
  have e : (runesB l)[i]? = some (spots l)[i].1 := by simp [runesB, hi]
  have hp : (((runesB l)[i]?).any fun c => !D c) = true := by simp [e, h]
  have hi' : i < (runesB l).length := by rw [runesB_len]; exact hi
  have hg := filter_range_get (p := fun i => ((runesB l)[i]?).any fun c => !D c) hi' hp
  constructor
  · unfold seenN
    rw [filter_range_succ, if_pos hp]
  · have hL : (seenL D l)[seenN D l i]? = some (posn l i, i, (spots l)[i].1) := by
      unfold seenL seenI seenN
      rw [List.getElem?_map, hg]
      simp [List.getD_eq_getElem?_getD, e]
    obtain ⟨h1, h2⟩ := List.getElem?_eq_some_iff.1 hL
    exact ⟨h1, h2⟩
def firstD (D : Nat → Bool) (l : Bytes) : Option (Nat × Nat) := scanL (spots l) fun i x => if isBad2 x = true ∨ D x.1 = true then some (posn l i, i) else none
def placeD (D : Nat → Bool) (l : Bytes) (n : Nat) : Option (Nat × Nat) :=
  if h : n < (seenL D l).length then some ((seenL D l)[n].1, (seenL D l)[n].2.1) else if n = (seenL D l).length then some (l.length, (spots l).length) else none
variable {D : Nat → Bool}
theorem kept_rune (l : Bytes) : ∀ c ∈ keptR D l, RuneN c := fun c hc => runesB_rune l c (List.mem_filter.1 hc).1
theorem runesB_strip (l : Bytes) : runesB (stripB D l) = keptR D l := runesB_of_encs (kept_rune l)
theorem strip_valid (l : Bytes) : validB (stripB D l) = true := valid_encs (kept_rune l)
theorem strip_strip (l : Bytes) : stripB D (stripB D l) = stripB D l := by
  unfold stripB
  congr 1
  show (runesB (stripB D l)).filter _ = _
  rw [runesB_strip]
  unfold keptR
  rw [List.filter_filter]
  simp
theorem kept_strip (l : Bytes) : keptR D (stripB D l) = keptR D l := by
  show (runesB (stripB D l)).filter _ = _
  rw [runesB_strip]
  unfold keptR
  rw [List.filter_filter]
  simp
theorem kept_all {L : List Nat} : (L.filter fun c => !D c) = L ↔ ∀ c ∈ L, D c = false := by
  rw [List.filter_eq_self]
  simp
theorem encs_inj {A B : List Nat} (hA : ∀ c ∈ A, RuneN c) (hB : ∀ c ∈ B, RuneN c) (h : encs A = encs B) : A = B := by
  rw [← runesB_of_encs hA, ← runesB_of_encs hB, h]
theorem strip_len (l : Bytes) : (spots (stripB D l)).length = (keptR D l).length := by rw [← runesB_len, runesB_strip]
theorem kept_le (l : Bytes) : (keptR D l).length ≤ (spots l).length := by rw [← runesB_len]; exact List.length_filter_le _ _
theorem firstD_iff (l : Bytes) : (firstD D l).isSome = true ↔ stripB D l ≠ l := by
  have key : firstD D l = none ↔ stripB D l = l := by
    constructor
    · intro h
      have hn : ∀ x ∈ spots l, isBad2 x = false ∧ D x.1 = false := fun x hx => by
        obtain ⟨i, hi, rfl⟩ := List.mem_iff_getElem.1 hx
        have := scanL_none h i hi
        split at this
        · cases this
        · rename_i hc
          constructor
          · cases hb : isBad2 (spots l)[i]
            · rfl
            · exact absurd (.inl hb) hc
          · cases hb : D (spots l)[i].1
            · rfl
            · exact absurd (.inr hb) hc
      have hv : validB l = true := by
        unfold validB
        rw [List.all_eq_true]
        intro x hx
        have := (hn x hx).1
        unfold isBad2 at this
        simp [this]
      have hk : keptR D l = runesB l := kept_all.2 fun c hc => by
        obtain ⟨x, hx, rfl⟩ := List.mem_map.1 hc
        exact (hn x hx).2
      unfold stripB
      rw [hk]
      exact (valid_clean l).1 hv
    · intro h
      have hv : validB l = true := by rw [← h]; exact strip_valid l
      have hk : keptR D l = runesB l := by
        rw [← runesB_strip, h]
      refine scanL_end fun i hi => if_neg ?_
      rintro (hb | hd)
      · unfold validB at hv
        rw [List.all_eq_true] at hv
        have := hv _ (List.getElem_mem hi)
        unfold isBad2 at hb
        rw [hb] at this
        cases this
      · have := kept_all.1 hk (spots l)[i].1 (List.mem_map.2 ⟨_, List.getElem_mem hi, rfl⟩)
        rw [this] at hd
        cases hd
  rw [← Option.ne_none_iff_isSome]
  exact not_congr key
end Go.Proofs.YtblmakgjdenpfaaGreatDoor.AM
namespace Go.Proofs.YtblmakgjdenpfaaGreatDoor.AM
open Go
def LF_utf_Count : LFunc :=
  .mk 1 [.tmp 2] (.seq (R 999 [0] [.set 2 (xi 0)]) (.seq (R 999 [0, 3] [.set 3 (xi 0)]) (.seq (.seq (R 4 [3, 5] [.tmp 5 (.op (.e (.rngS 5 (.s 0))) (.va 0))]) (.block 0 (.loop (.seq
  (R 6 [3, 5, 7] [.tmp 7 (xex 0 (.op (.e (.nxtS (.s 0))) (.sl 5)))]) (.seq (.cond (.s 7) .skip (.exit 0)) (.block 1 (R 8 [3, 5] [.set 3 (xb .add (.va 3) (xi 1))]))))))) (.seq (R 10
  [2] [.set 2 (.va 3)]) .ret))))
theorem fn_utf_Count : (autoPrg Tryz.prog).fn 14 = some LF_utf_Count := by kernel_rfl
end Go.Proofs.YtblmakgjdenpfaaGreatDoor.AM
namespace Go.Proofs.YtblmakgjdenpfaaGreatDoor.AM
open Go
theorem utfCount_eq (s : ByteArray) (hs : s.size ≤ 16777216) (h : AH) : callO PX 14 [.string s] h = some (.int .i64 (spots s.data.toList).length, h) := by
  have hz : s.data.toList.length = s.size := rfl
  have hn := spots_len s.data.toList
  apply WpC.eqn
  refine wpc_fn (px_ext rfl) (px_fn fn_utf_Count) rfl ?_
  unfold LF_utf_Count
  simp only [argFr]
  (refine W_x @ev_rngS ?_; (repeat' first | apply Cj.mk | exact Nl.nl) <;> intros)
  refine wp_spotsS (fun i _ => [(3, .int .i64 i), (5, .pointer (some ⟨10, 0, some 1⟩))]) (fun n _ => [(10, .siter s n)]) s s.data.toList (fun _ _ h' => h' = h) (fun _ _ => (none : Option Unit)) () rfl (by repeat' first | exact True.intro | refine And.intro rfl ?_) (fun _ _ => rfl) rfl rfl (fun i hi _ h1 hh hit => ?_) fun _ h1 hh fin => ?_
  · subst hh
    (refine W_x trivial ?_; (repeat' first | apply Cj.mk | exact Nl.nl) <;> intros)
    refine wo_next rfl rfl hi ?_
    (refine W_x trivial ?_; (repeat' first | apply Cj.mk | exact Nl.nl) <;> intros)
    exact ⟨rfl, (), (by repeat' first | exact True.intro | refine And.intro rfl ?_), rfl, rfl⟩
  · subst hh
    (refine W_x trivial ?_; (repeat' first | apply Cj.mk | exact Nl.nl) <;> intros)
    refine wo_nextE rfl rfl ?_
    (refine W_x trivial ?_; (repeat' first | apply Cj.mk | exact Nl.nl) <;> intros)
    exact ⟨rfl, rfl⟩
end Go.Proofs.YtblmakgjdenpfaaGreatDoor.AM
namespace Go.Proofs.YtblmakgjdenpfaaGreatDoor.AM
open Go
def LF_utf_Spots : LFunc :=
  .mk 1 [.tmp 2] (.seq (R 1 [1] [.tmp 1 (xbh 1 (.sl 0)), .set 2 (.cv .nilFunc)]) (.seq (R 3 [2] [.set 2 (.op (.p (.mkfn (.func 76) [] [.s 0])) (.sl 1))]) .ret))
theorem fn_utf_Spots : (autoPrg Tryz.prog).fn 43 = some LF_utf_Spots := by kernel_rfl
def LF_utf_Spots_1 : LFunc :=
  .mk 2 [] (.seq (R 6 [0, 1, 7] [.tmp 7 (.op (.e (.rngS 7 (.s 0))) (xld (.sl 1)))]) (.block 0 (.loop (.seq (R 8 [0, 1, 7, 8, 9] [.tmp 8 (.op (.e (.nxtS (.s 0))) (.sl 7)), .tmp 9
  (xex 0 (.sl 8))]) (.seq (.cond (.s 9) .skip (.exit 0)) (.block 1 (.seq (R 10 [0, 1, 3, 4, 7] [.tmp 10 (xex 1 (.sl 8)), .tmp 11 (xex 2 (.sl 8)), .set 3 (.sl 10), .set 4 (.sl 11)])
  (.seq (R 12 [0, 1, 3, 4, 5, 7] [.set 5 (xc1 77 (.va 4))]) (.seq (.seq (R 14 [0, 1, 3, 4, 5, 7, 24] [.tmp 24 (.and (xb .eql (.va 4) (xr 65533)) (xu .not (xc2
  78 (.op (.p (.slS (.s 0) (some (.s 1)) none)) (.cons (xld (.sl 1)) (.va 3))) (.op (.p (.i2s (.s 0))) (.va 4)))))]) (.cond (.s 24) (R 999 [0, 1, 3, 4, 5, 7]
  [.set 5 (xi 1)]) .skip)) (.seq (R 25 [0, 1, 7, 31] [.tmp 31 (xu .not (xv2 (.va 0) (.va 3) (xc2 79 (.va 4) (.va 5))))]) (.cond (.s 31) .ret .skip)))))))))))
theorem fn_utf_Spots_1 : (autoPrg Tryz.prog).fn 76 = some LF_utf_Spots_1 := by kernel_rfl
def LF_utf8_RuneLen : LFunc :=
  .mk 1 [.tmp 2] (.seq (R 999 [0] [.set 2 (xi 0)]) (.seq (.block 0 (.seq (R 4 [0, 3] [.set 3 (xb .lss (.va 0) (xr 0))]) (.cond (.s 3) (.seq (R 999 [2] [.set 2 (xi (-1))]) .ret)
  (.seq (R 7 [0, 6] [.set 6 (xb .leq (.va 0) (xr 127))]) (.cond (.s 6) (.seq (R 999 [2] [.set 2 (xi 1)]) .ret) (.seq (R 10 [0, 9] [.set 9 (xb .leq (.va 0) (xr 2047))]) (.cond (.s 9)
  (.seq (R 999 [2] [.set 2 (xi 2)]) .ret) (.seq (R 13 [0, 12] [.set 12 (.and (xb .leq (xr 55296) (.va 0)) (xb .leq (.va 0) (xr 57343)))]) (.cond (.s 12) (.seq (R 999 [2] [.set 2 (xi
  (-1))]) .ret) (.seq (R 20 [0, 19] [.set 19 (xb .leq (.va 0) (xr 65535))]) (.cond (.s 19) (.seq (R 999 [2] [.set 2 (xi 3)]) .ret) (.seq (R 23 [22] [.set 22 (xb .leq (.va 0) (xr
  1114111))]) (.cond (.s 22) (.seq (R 999 [2] [.set 2 (xi 4)]) .ret) .skip))))))))))))) (.seq (R 999 [2] [.set 2 (xi (-1))]) .ret)))
theorem fn_utf8_RuneLen : (autoPrg Tryz.prog).fn 77 = some LF_utf8_RuneLen := by kernel_rfl
def LF_strings_HasPrefix : LFunc :=
  .mk 2 [.tmp 4] (.seq (R 999 [0, 1] [.set 4 (.cv (.bool false))]) (.seq (R 5 [4] [.set 4 (xc2 121 (.va 0) (.va 1))]) .ret))
theorem fn_strings_HasPrefix : (autoPrg Tryz.prog).fn 78 = some LF_strings_HasPrefix := by kernel_rfl
def LF_internal_stringslite_HasPrefix : LFunc :=
  .mk 2 [.tmp 4] (.seq (R 999 [0, 1] [.set 4 (.cv (.bool false))]) (.seq (R 5 [4] [.set 4 (.and (xb .geq (xsl (.va 0)) (xsl (.va 1))) (xb .eql (.op (.p (.slS (.s 0) none (some (.s
  1)))) (.cons (.va 0) (xsl (.va 1)))) (.va 1)))]) .ret))
theorem fn_internal_stringslite_HasPrefix : (autoPrg Tryz.prog).fn 121 = some LF_internal_stringslite_HasPrefix := by kernel_rfl
def LF_utf_spot : LFunc :=
  .mk 2 [.cell 4 (some 3)] (.seq (R 4 [0, 1, 4] [.tmp 4 (xnl 4 [.int .i32 0, .int .i64 0, .bool false])]) (.seq (R 5 [4] [.run (xst 3 (.sl 4) (.op (.p (.build [.int .i32 0, .int
  .i64 0, .bool false] [(0, 1, .s 0), (1, 1, .s 1), (2, 1, .s 2)])) (.cons (.va 0) (.cons (.va 1) (.and (xb .eql (.va 0) (xr 65533)) (xb .eql (.va 1) (xi 1)))))))]) .ret))
theorem fn_utf_spot : (autoPrg Tryz.prog).fn 79 = some LF_utf_spot := by kernel_rfl
end Go.Proofs.YtblmakgjdenpfaaGreatDoor.AM
namespace Go.Proofs.YtblmakgjdenpfaaGreatDoor.AM
open Go
theorem runeLen_eq (c : Nat) (hc : RuneN c) (h : AH) : callO PX 77 [.int .i32 c] h = some (.int .i64 (encN c).length, h) := by
  have hle : c ≤ 0x10FFFF := by unfold RuneN at hc; omega
  have hl : (encN c).length = if c < 0x80 then 1 else if c < 0x800 then 2 else if c < 0x10000 then 3 else 4 := by
    unfold encN
    split
    · rfl
    · split
      · rfl
      · split <;> rfl
  unfold RuneN at hc
  apply WpC.eqn
  refine wpc_fn (px_ext rfl) (px_fn fn_utf8_RuneLen) rfl ?_
  unfold LF_utf8_RuneLen
  simp only [argFr]
  (refine W_x trivial ?_; (repeat' first | apply Cj.mk | exact Nl.nl) <;> intros)
  all_goals
    refine ⟨?_, rfl⟩
    rw [hl]
    congr 1
    repeat' split
    all_goals first | rfl | omega
theorem hasPrefix0_eq (a b : ByteArray) (h : AH) : callO PX 121 [.string a, .string b] h = some (.bool (decide (b.size ≤ a.size ∧ a.extract 0 b.size = b)), h) := by
  apply WpC.eqn
  refine wpc_fn (px_ext rfl) (px_fn fn_internal_stringslite_HasPrefix) rfl ?_
  unfold LF_internal_stringslite_HasPrefix
  simp only [argFr]
  (refine W_x trivial ?_; (repeat' first | apply Cj.mk | exact Nl.nl) <;> intros)
  all_goals (refine ⟨?_, rfl⟩; congr 1; symm)
  · rename_i g1 g2; exact decide_eq_true ⟨by omega, g2⟩
  · rename_i g1 g2; exact decide_eq_false (fun h => g2 h.2)
  · rename_i g1; exact decide_eq_false (fun h => g1 (by omega))
theorem hasPrefix_eq (a b : ByteArray) (h : AH) : callO PX 78 [.string a, .string b] h = some (.bool (decide (b.size ≤ a.size ∧ a.extract 0 b.size = b)), h) := by
  have e := hasPrefix0_eq a b
  apply WpC.eqn
  refine wpc_fn (px_ext rfl) (px_fn fn_strings_HasPrefix) rfl ?_
  unfold LF_strings_HasPrefix
  simp only [argFr]
  (refine W_x e ?_; (repeat' first | apply Cj.mk | exact Nl.nl) <;> intros)
  all_goals (refine ⟨?_, rfl⟩; congr 1; symm; first | exact decide_eq_true (by assumption) | exact decide_eq_false (by assumption))
theorem spot_eq (r n : Nat) (h : AH) : callO PX 79 [.int .i32 r, .int .i64 n] h = some (spotV (r, n), h) := by
  apply WpC.eqn
  refine wpc_fn (px_ext rfl) (px_fn fn_utf_spot) rfl ?_
  unfold LF_utf_spot
  simp only [argFr]
  (refine W_x trivial ?_; (repeat' first | apply Cj.mk | exact Nl.nl) <;> intros)
  all_goals
    refine ⟨?_, rfl⟩
    have hb : ∀ t : Bool, (t = true ↔ (r = 65533 ∧ n = 1)) → isBad2 (r, n) = t := fun t ht => by
      unfold isBad2
      rw [Bool.eq_iff_iff, ht]
      simp only [Bool.and_eq_true, beq_iff_eq]
    unfold spotV
    first
    | (have e : r = 65533 ∧ n = 1 := by omega
       rw [hb true (iff_of_true rfl e)]
       done)
    | (have e : ¬ (r = 65533 ∧ n = 1) := by omega
       rw [hb false (iff_of_false (by decide) e)]
       done)
theorem spotsMk_eq (s : ByteArray) (h : AH) : callO PX 43 [.string s] h = some (.func (.func 76) #[] #[.pointer (some ⟨h.n, 0, none⟩)], h.push (.cells false [.string s])) := by
  apply WpC.eqn
  refine wpc_fn (px_ext rfl) (px_fn fn_utf_Spots) rfl ?_
  unfold LF_utf_Spots
  simp only [argFr]
  (refine W_x trivial ?_; (repeat' first | apply Cj.mk | exact Nl.nl) <;> intros)
  exact ⟨rfl, rfl⟩
theorem spots_seq (s : ByteArray) (bx : Nat) (hsz : s.size ≤ 140737488351232) :
    SeqP PX (.func (.func 76) #[] #[.pointer (some ⟨bx, 0, none⟩)]) (spotsL s.data.toList) spotE (fun h => h.get bx = some (.cells false [.string s])) := by
  intro yv I E h hyv hvs hstep hD h0
  have d1 : h.get bx = some (.cells false [.string s]) := hD _ _ h0
  have hset := hyv.set
  have hlc1 := hyv.lc1
  refine wpV_fn ?_
  refine wpc_fn (px_ext rfl) (px_fn fn_utf_Spots_1) rfl ?_
  unfold LF_utf_Spots_1
  simp only [argFr, List.nil_append, List.cons_append]
  obtain ⟨l, hl⟩ : ∃ l, l = s.data.toList := ⟨_, rfl⟩
  rw [← hl] at hstep ⊢
  have hll : l.length = s.size := by rw [hl]; rfl
  (refine W_x (Aj d1 (Aj hset (Aj hlc1 @ev_rngS))) ?_; (repeat' first | apply Cj.mk | exact Nl.nl) <;> intros)
  refine wp_spotsS (fun _ _ => [(0, yv), (1, .pointer (some ⟨bx, 0, none⟩)), (7, .pointer (some ⟨14, 0, some 1⟩))]) (fun n _ => [(14, .siter s n)]) s l (fun i _ h1 => I i h1) (fun _ _ => (none : Option Unit)) () hl (by repeat' first | exact True.intro | refine And.intro rfl ?_) (fun _ _ => rfl) rfl h0 (fun i hil _ h1 hI hit => ?_) fun _ h1 hI fin => ?_
  · have d1 : h1.get bx = some (.cells false [.string s]) := hD _ _ hI
    obtain ⟨p1, p2, p3⟩ := posn_lt hil
    have hst := hstep i (by rw [spotsL_len]; exact hil) h1 hI
    rw [spotsL_get (by rw [spotsL_len]; exact hil)] at hst
    have hdc := dec_cases p3
    have hbad : (spots l)[i].1 = 65533 → ((encN 65533).length ≤ (l.drop (posn l i)).length ∧ (l.drop (posn l i)).take (encN 65533).length = encN 65533 ↔ (spots l)[i].2 = 3) := fun e => by
      rcases hdc with ⟨c, rest, hc, e1, e2⟩ | ⟨e1, e2⟩
      · rw [p2] at e2
        rw [e2] at e
        simp only at e
        subst e
        rw [e2, e1, encN_bad, List.take_left' encN_bad]
        simp [encN_bad]
      · rw [p2] at e1
        rw [e1, encN_bad]
        constructor
        · rintro ⟨h1, h2⟩
          exfalso
          refine e2 65533 ((l.drop (posn l i)).drop 3) rune_bad ?_
          rw [← h2, List.take_append_drop]
        · intro h; simp at h
    have hgood : (spots l)[i].1 ≠ 65533 → (spots l)[i].2 = (encN (spots l)[i].1).length := fun e => by
      rcases hdc with ⟨c, rest, hc, e1, e2⟩ | ⟨e1, e2⟩
      · rw [p2] at e2; rw [e2]
      · rw [p2] at e1; rw [e1] at e; exact absurd rfl e
    have hw3 : (spots l)[i].1 = 65533 → (spots l)[i].2 = 3 ∨ (spots l)[i].2 = 1 := fun e => by
      rcases hdc with ⟨c, rest, hc, e1, e2⟩ | ⟨e1, e2⟩
      · rw [p2] at e2
        rw [e2] at e
        simp only at e
        subst e
        rw [e2]; exact .inl encN_bad
      · rw [p2] at e1; rw [e1]; exact .inr rfl
    have hru : RuneN (spots l)[i].1 := runesB_rune l _ (List.mem_map.2 ⟨_, List.getElem_mem hil, rfl⟩)
    (refine W_x (Aj hset hlc1) ?_; (repeat' first | apply Cj.mk | exact Nl.nl) <;> intros)
    refine wo_next hl rfl hil ?_
    generalize (spots l)[i] = x at hst hbad hgood hw3 hru
    have hcast : ((Utf8.encode ((65533 : Nat) : Int))).data.toList = encN 65533 := encode_eq rune_bad
    have hpre : x.1 = 65533 → (decide ((Utf8.encode (x.1 : Int)).size ≤ (s.extract (posn l i) s.size).size ∧ (s.extract (posn l i) s.size).extract 0 (Utf8.encode (x.1 : Int)).size = Utf8.encode (x.1 : Int))) = decide (x.2 = 3) := fun e => by
      refine decide_eq_decide.2 ?_
      rw [← hbad e, e]
      have z1 : (Utf8.encode ((65533 : Nat) : Int)).size = (encN 65533).length := by rw [ba_size, hcast]
      have z2 : (s.extract (posn l i) s.size).data.toList = l.drop (posn l i) := by
        rw [ba_extract _ _ _ (Nat.le_refl _), ← hl, ← hll, ← List.length_drop, List.take_length]
      have z3 : (s.extract (posn l i) s.size).size = (l.drop (posn l i)).length := by rw [ba_size, z2]
      rw [z1, z3]
      constructor
      · rintro ⟨a, b⟩
        refine ⟨a, ?_⟩
        have : ((s.extract (posn l i) s.size).extract 0 (encN 65533).length).data.toList = (Utf8.encode ((65533 : Nat) : Int)).data.toList := by rw [b]
        rw [ba_extract _ _ _ (by omega), z2, hcast] at this
        simpa using this
      · rintro ⟨a, b⟩
        refine ⟨a, ba_ext ?_⟩
        rw [ba_extract _ _ _ (by omega), z2, hcast]
        simpa using b
    have el := runeLen_eq x.1 hru
    have es := fun n => spot_eq x.1 n
    by_cases e : x.1 = 65533
    · have hpre := hpre e
      have hw4 := hw3 e
      obtain ⟨c, w⟩ := x
      simp only at e hpre hw4 hst
      have hci : (c : Int) = 65533 := by omega
      have el2 : ∀ h, callO PX 77 [.int .i32 c] h = some (.int .i64 3, h) := fun h => by
        have := el h
        simp only at this
        rw [this, e, encN_bad]
        rfl
      have eh2 : ∀ h, callO PX 78 [.string (s.extract (posn l i) s.size), .string (Utf8.encode c)] h = some (.bool (decide (w = 3)), h) := fun h => by
        have := hasPrefix_eq (s.extract (posn l i) s.size) (Utf8.encode (c : Int)) h
        rw [hpre] at this
        exact this
      have es2 : ∀ h, callO PX 79 [.int .i32 c, .int .i64 3] h = some (spotV (c, 3), h) := fun h => spot_eq c 3 h
      have es3 : ∀ h, callO PX 79 [.int .i32 c, .int .i64 1] h = some (spotV (c, 1), h) := fun h => spot_eq c 1 h
      have hpl : ((posn l i : Nat) : Int) ≤ (s.size : Int) := by omega
      rcases hw4 with rfl | rfl
      all_goals
        simp only [decide_true, show decide (1 = 3) = false from rfl] at eh2
        (refine W_x (Aj hset (Aj hlc1 (Aj d1 (Aj el2 (Aj eh2 (Aj es2 es3)))))) ?_; (repeat' first | apply Cj.mk | exact Nl.nl) <;> intros)
        refine wo_callV (fv := yv) rfl rfl rfl ?_
        refine hst.mono ?_
        rintro v h2 hor
        rcases hor with ⟨rfl, hI2⟩ | ⟨rfl, hE⟩
        · (refine W_x (Aj hset hlc1) ?_; (repeat' first | apply Cj.mk | exact Nl.nl) <;> intros)
          exact ⟨rfl, (), (by repeat' first | exact True.intro | refine And.intro rfl ?_), rfl, hI2⟩
        · (refine W_x (Aj hset hlc1) ?_; (repeat' first | apply Cj.mk | exact Nl.nl) <;> intros)
          exact .inr hE
    · have hgd := hgood e
      rw [← hgd] at el
      have es2 := es x.2
      have hne : ¬ (x.1 : Int) = 65533 := by omega
      (refine W_x (Aj hset (Aj hlc1 (Aj el es2))) ?_; (repeat' first | apply Cj.mk | exact Nl.nl) <;> intros)
      refine wo_callV (fv := yv) rfl rfl rfl ?_
      refine hst.mono ?_
      rintro v h2 hor
      rcases hor with ⟨rfl, hI2⟩ | ⟨rfl, hE⟩
      · (refine W_x (Aj hset hlc1) ?_; (repeat' first | apply Cj.mk | exact Nl.nl) <;> intros)
        exact ⟨rfl, (), (by repeat' first | exact True.intro | refine And.intro rfl ?_), rfl, hI2⟩
      · (refine W_x (Aj hset hlc1) ?_; (repeat' first | apply Cj.mk | exact Nl.nl) <;> intros)
        exact .inr hE
  · (refine W_x (Aj hset hlc1) ?_; (repeat' first | apply Cj.mk | exact Nl.nl) <;> intros)
    refine wo_nextE hl rfl ?_
    (refine W_x (Aj hset hlc1) ?_; (repeat' first | apply Cj.mk | exact Nl.nl) <;> intros)
    exact .inl (by rw [spotsL_len]; exact hI)
end Go.Proofs.YtblmakgjdenpfaaGreatDoor.AM
namespace Go.Proofs.YtblmakgjdenpfaaGreatDoor.AM
open Go
def dropT (T : Tab) (c : Nat) : Bool := ofI (c : Int) T.drops
def placeV (a b : Nat) : Value := .agg (List.toArray [.int .i64 a, .int .i64 b])
def seenE (x : Nat × Nat × Nat) : List Value := [placeV x.1 x.2.1, .int .i32 x.2.2]
theorem seen_spec {k B : Nat} {s6 : Sl} {T : Tab} (s : ByteArray) (hs : s.size ≤ 16777216) {yv : Value} {I : Nat → AH → Prop} {E : AH → Prop} {h : AH} (hyv : IsF yv) (hvs : vsame yv yv = true)
    (hstep : ∀ j (hj : j < (seenL (dropT T) s.data.toList).length) h, I j h → WpV PX yv (seenE (seenL (dropT T) s.data.toList)[j]) h fun v h' => (v = .bool true ∧ I (j + 1) h') ∨ (v = .bool false ∧ E h'))
    (hbk : ∀ j h, I j h → BkAt h k B s6 T) (h0 : I 0 h) : WpC PX 39 [.pointer (some ⟨k, 0, none⟩), .string s, yv] h fun _ h' => I (seenL (dropT T) s.data.toList).length h' ∨ E h' := by
  have hset := hyv.set
  have hlc1 := hyv.lc1
  obtain ⟨l, hl⟩ : ∃ l, l = s.data.toList := ⟨_, rfl⟩
  rw [← hl] at hstep ⊢
  have hll : l.length = s.size := by rw [hl]; rfl
  have hn := spots_len l
  refine wpc_fn (px_ext rfl) (px_fn fn_strip_seen) rfl ?_
  unfold LF_strip_seen
  simp only [argFr]
  (refine W_x (Aj hset (Aj hlc1 @ev_rngS)) ?_; (repeat' first | apply Cj.mk | exact Nl.nl) <;> intros)
  refine wp_spotsS (fun i _ => [(0, .pointer (some ⟨k, 0, none⟩)), (2, yv), (6, .int .i64 ((i : Int) - 1)), (12, .pointer (some ⟨24, 0, some 1⟩))]) (fun n _ => [(24, .siter s n)]) s l (fun i _ h1 => I (seenN (dropT T) l i) h1) (fun _ _ => (none : Option Unit)) () hl (by repeat' first | exact True.intro | refine And.intro rfl ?_) (fun _ _ => rfl) rfl h0 (fun i hil _ h1 hI hit => ?_) fun _ h1 hI fin => ?_
  · have e1 := dropped_eq (hbk _ _ hI) ((spots l)[i].1 : Nat)
    have m0 := seenN_drop (D := dropT T) hil
    have m1 := seenN_more (D := dropT T) hil
    unfold dropT at m0 m1
    have hp : (i : Int) - 1 + 1 = i := by omega
    have hp2 : ((i + 1 : Nat) : Int) - 1 = i := by omega
    (refine W_x (Aj hset hlc1) ?_; (repeat' first | apply Cj.mk | exact Nl.nl) <;> intros)
    refine wo_next hl rfl hil ?_
    generalize (spots l)[i] = x at e1 m0 m1
    cases hd : ofI (x.1 : Int) T.drops
    · obtain ⟨n1, hj, hg⟩ := m1 hd
      have hst := hstep _ hj h1 hI
      unfold dropT at hst
      rw [hg] at hst
      unfold seenE placeV at hst
      rw [hd] at e1
      simp only at hst
      (refine W_x (Aj hset (Aj hlc1 (Aj e1 hp))) ?_; (repeat' first | apply Cj.mk | exact Nl.nl) <;> intros)
      refine wo_callV (fv := yv) rfl rfl rfl ?_
      refine hst.mono ?_
      rintro v h2 (⟨rfl, hI2⟩ | ⟨rfl, hE⟩)
      · (refine W_x (Aj hset hlc1) ?_; (repeat' first | apply Cj.mk | exact Nl.nl) <;> intros)
        exact ⟨rfl, (), by rw [hp2]; exact (by repeat' first | exact True.intro | refine And.intro rfl ?_), rfl, by unfold dropT; rw [n1]; exact hI2⟩
      · (refine W_x (Aj hset hlc1) ?_; (repeat' first | apply Cj.mk | exact Nl.nl) <;> intros)
        exact .inr hE
    · rw [hd] at e1
      (refine W_x (Aj hset (Aj hlc1 (Aj e1 hp))) ?_; (repeat' first | apply Cj.mk | exact Nl.nl) <;> intros)
      exact ⟨rfl, (), by rw [hp2]; exact (by repeat' first | exact True.intro | refine And.intro rfl ?_), rfl, by unfold dropT; rw [m0 hd]; exact hI⟩
  · (refine W_x (Aj hset hlc1) ?_; (repeat' first | apply Cj.mk | exact Nl.nl) <;> intros)
    refine wo_nextE hl rfl ?_
    rw [seenN_all] at hI
    (refine W_x (Aj hset hlc1) ?_; (repeat' first | apply Cj.mk | exact Nl.nl) <;> intros)
    exact .inl hI
end Go.Proofs.YtblmakgjdenpfaaGreatDoor.AM
namespace Go.Proofs.YtblmakgjdenpfaaGreatDoor.AM
open Go
theorem vsame_fn1 (f : FuncId) (b : Nat) : vsame (.func (.func f) #[] #[.pointer (some ⟨b, 0, none⟩)]) (.func (.func f) #[] #[.pointer (some ⟨b, 0, none⟩)]) = true := by
  simp [vsame, vsame1, vsame0, vsameL]
structure Bld1 (h0 h : AH) (X : Bytes) : Prop where
  kp : Kp h0 h
  bd : ∃ g, BldAt h h0.n g X ∧ (g = none ∨ ∃ x, g = some x ∧ h0.n < x)
theorem Bld1.start (h : AH) : Bld1 h (h.push (.tc 163 [.pointer none, .slice none 0 0])) [] :=
  ⟨(Kp.refl h).push _, none, ⟨⟨_, AH.get_push_same _ _, .inl rfl⟩, rfl, fun e => by cases e⟩, .inl rfl⟩
theorem Bld1.lt {h0 h : AH} {X : Bytes} (b : Bld1 h0 h X) : h0.n < h.n := by
  obtain ⟨g, bd, _⟩ := b.bd
  obtain ⟨p, hp, _⟩ := bd.p
  exact AH.get_lt hp
theorem Bld1.rune {h0 h : AH} {X : Bytes} (b : Bld1 h0 h X) {c : Nat} (hc : RuneN c) (hn : X.length ≤ 140737488355000) :
    ∃ v h', callO PX 41 [.pointer (some ⟨h0.n, 0, none⟩), .int .i32 c] h = some (v, h') ∧ Bld1 h0 h' (X ++ encN c) := by
  have hlt := b.lt
  obtain ⟨kp, g, bd, hg⟩ := b
  obtain ⟨v, h', e, g', bd', fr⟩ := writeRune_spec hc bd hn
  refine ⟨v, h', e, ⟨Nat.le_trans kp.1 fr.n, fun c hc => (fr.keep c (by omega) (by omega) ?_).trans (kp.2 c hc)⟩, g', bd', ?_⟩
  · rcases hg with rfl | ⟨x, rfl, hx⟩
    · intro e; cases e
    · intro e; injection e with e; omega
  · rcases fr.new with rfl | ⟨x, rfl, hx⟩
    · exact hg
    · exact .inr ⟨x, rfl, by omega⟩
theorem Bld1.str {h0 h : AH} {X : Bytes} (b : Bld1 h0 h X) (hn : X.length ≤ 140737488355000) :
    ∃ h', callO PX 42 [.pointer (some ⟨h0.n, 0, none⟩)] h = some (.string (bs X), h') ∧ Kp h0 h' := by
  obtain ⟨kp, g, bd, hg⟩ := b
  refine ⟨_, bldString_spec bd (by omega), by rw [killO_n]; exact kp.1, fun c hc => ?_⟩
  rw [killO_get ?_]
  · exact kp.2 c hc
  · rcases hg with rfl | ⟨x, rfl, hx⟩
    · intro e; cases e
    · intro e; injection e with e; omega
def stripT (T : Tab) (l : Bytes) : Bytes := stripB (dropT T) l
theorem kept_take {D : Nat → Bool} {l : Bytes} {j : Nat} (hj : j < (seenL D l).length) : RuneN ((seenL D l)[j]).2.2 ∧ encs ((keptR D l).take (j + 1)) = encs ((keptR D l).take j) ++ encN ((seenL D l)[j]).2.2 := by
  have h1 : (keptR D l)[j]? = some ((seenL D l)[j]).2.2 := by
    rw [← seenI_map, List.getElem?_map, List.getElem?_eq_getElem hj]
    rfl
  obtain ⟨h2, h3⟩ := List.getElem?_eq_some_iff.1 h1
  rw [← h3]
  exact ⟨kept_rune l _ (List.getElem_mem h2), by rw [take_snoc h2, encs_snoc]⟩
theorem encs_take_le {D : Nat → Bool} (l : Bytes) (j : Nat) : (encs ((keptR D l).take j)).length ≤ 4 * l.length := by
  have h1 := encs_lenle ((keptR D l).take j)
  have h2 := kept_le (D := D) l
  have h3 := spots_len l
  rw [List.length_take] at h1
  omega
theorem strip_spec {h : AH} {k B : Nat} {s6 : Sl} {T : Tab} (bk : BkAt h k B s6 T) (s : ByteArray) (hs : s.size ≤ 16777216) : WpC PX 10 [.pointer (some ⟨k, 0, none⟩), .string s] h fun v h' => v = .string (bs (stripT T s.data.toList)) ∧ Kp h h' := by
  have hll : s.data.toList.length = s.size := rfl
  have hle := fun j => encs_take_le (D := dropT T) s.data.toList j
  obtain ⟨_, h2, e1, hor⟩ := seen_spec (T := T) (k := k) (B := B) (s6 := s6) s hs (yv := .func (.func 40) #[] #[.pointer (some ⟨h.n, 0, none⟩)])
    (I := fun j h1 => Bld1 h h1 (encs ((keptR (dropT T) s.data.toList).take j))) (E := fun _ => False) ⟨_, _, _, rfl⟩ (vsame_fn1 _ _) (fun j hj h1 hI => by
      obtain ⟨hr, ht⟩ := kept_take hj
      generalize (seenL (dropT T) s.data.toList)[j] = x at hr ht
      obtain ⟨_, h2, e, b2⟩ := hI.rune hr (by have := hle j; omega)
      rw [← ht] at b2
      refine wpV_fn ?_
      refine wpc_fn (px_ext rfl) (px_fn fn_strip_Strip_1) rfl ?_
      unfold LF_strip_Strip_1 seenE placeV
      simp only [argFr, List.nil_append, List.cons_append]
      (refine W_x e ?_; (repeat' first | apply Cj.mk | exact Nl.nl) <;> intros)
      exact .inl ⟨rfl, b2⟩) (fun j h1 hI => bk.kp hI.kp) (Bld1.start h)
  have b2 := hor.resolve_right id
  rw [seenL_len, List.take_length] at b2
  obtain ⟨h3, e3, k3⟩ := b2.str (by have := hle (keptR (dropT T) s.data.toList).length; rw [List.take_length] at this; omega)
  refine wpc_fn (px_ext rfl) (px_fn fn_strip_Strip) rfl ?_
  unfold LF_strip_Strip
  simp only [argFr]
  (refine W_x (Aj e1 e3) ?_; (repeat' first | apply Cj.mk | exact Nl.nl) <;> intros)
  exact ⟨rfl, k3⟩
theorem stripNil_eq (s : ByteArray) (h : AH) : ∃ h', callO PX 10 [.pointer none, .string s] h = some (.string ⟨#[]⟩, h') ∧ Kp h h' := by
  have e1 : ∀ yv h, IsF yv → callO PX 39 [.pointer none, .string s, yv] h = some (.tuple #[], h) := fun yv h hy => by
    have hset := hy.set
    have hlc1 := hy.lc1
    apply WpC.eqn
    refine wpc_fn (px_ext rfl) (px_fn fn_strip_seen) rfl ?_
    unfold LF_strip_seen
    simp only [argFr]
    (refine W_x (Aj hset hlc1) ?_; (repeat' first | apply Cj.mk | exact Nl.nl) <;> intros)
    exact ⟨rfl, rfl⟩
  have e2 := e1 (.func (.func 40) #[] #[.pointer (some ⟨h.n, 0, none⟩)]) (h.push (.tc 163 [.pointer none, .slice none 0 0])) ⟨_, _, _, rfl⟩
  obtain ⟨h3, e3, k3⟩ := (Bld1.start h).str (by simp)
  have : WpC PX 10 [.pointer none, .string s] h fun v h' => v = .string ⟨#[]⟩ ∧ Kp h h' := by
    refine wpc_fn (px_ext rfl) (px_fn fn_strip_Strip) rfl ?_
    unfold LF_strip_Strip
    simp only [argFr]
    (refine W_x (Aj e2 e3) ?_; (repeat' first | apply Cj.mk | exact Nl.nl) <;> intros)
    exact ⟨rfl, k3⟩
  obtain ⟨_, h', e, rfl, k⟩ := this
  exact ⟨h', e, k⟩
theorem stripSame_spec {h : AH} {k B : Nat} {s6 : Sl} {T : Tab} (bk : BkAt h k B s6 T) (s t : ByteArray) (hs : s.size ≤ 16777216) (ht : t.size ≤ 16777216) : WpC PX 15 [.pointer (some ⟨k, 0, none⟩), .string s, .string t] h fun v h' => v = .bool (decide (stripT T s.data.toList = stripT T t.data.toList)) ∧ Kp h h' := by
  obtain ⟨_, h1, e1, rfl, k1⟩ := strip_spec bk s hs
  obtain ⟨_, h2, e2, rfl, k2⟩ := strip_spec (bk.kp k1) t ht
  have hb : decide (bs (stripT T s.data.toList) = bs (stripT T t.data.toList)) = decide (stripT T s.data.toList = stripT T t.data.toList) := decide_eq_decide.2 bs_inj
  have hq := str_eql (x := bs (stripT T s.data.toList)) (y := bs (stripT T t.data.toList))
  rw [hb] at hq
  generalize bs (stripT T s.data.toList) = x at *
  generalize bs (stripT T t.data.toList) = y at *
  refine wpc_fn (px_ext rfl) (px_fn fn_strip_Same) rfl ?_
  unfold LF_strip_Same
  simp only [argFr]
  (refine W_x (Aj e1 (Aj e2 hq)) ?_; (repeat' first | apply Cj.mk | exact Nl.nl) <;> intros)
  all_goals exact ⟨by congr 1; symm; simpa using ‹_›, k1.trans k2⟩
theorem stripCount_spec {h : AH} {k B : Nat} {s6 : Sl} {T : Tab} (bk : BkAt h k B s6 T) (s : ByteArray) (hs : s.size ≤ 16777216) : WpC PX 13 [.pointer (some ⟨k, 0, none⟩), .string s] h fun v h' => v = .int .i64 (((spots s.data.toList).length - (keptR (dropT T) s.data.toList).length : Nat) : Int) ∧ Kp h h' := by
  have hll : s.data.toList.length = s.size := rfl
  have hn := spots_len s.data.toList
  have hkl := kept_le (D := dropT T) s.data.toList
  have e0 := utfCount_eq s hs
  have hb0 : ((h.push (.cells false [.int .i64 0])).set h.n (.cells false [.int .i64 (spots s.data.toList).length])).get h.n = some (.cells false [.int .i64 (spots s.data.toList).length]) := AH.get_set_same _ (by rw [AH.push_n]; omega)
  have hk0 : Kp h ((h.push (.cells false [.int .i64 0])).set h.n (.cells false [.int .i64 (spots s.data.toList).length])) := ((Kp.refl h).push _).setNew _ (Nat.le_refl _)
  obtain ⟨_, h2, e1, hor⟩ := seen_spec (T := T) (k := k) (B := B) (s6 := s6) s hs (yv := .func (.func 45) #[] #[.pointer (some ⟨h.n, 0, none⟩)])
    (I := fun j h1 => Kp h h1 ∧ j ≤ (spots s.data.toList).length ∧ h1.get h.n = some (.cells false [.int .i64 ((spots s.data.toList).length - j : Int)])) (E := fun _ => False) ⟨_, _, _, rfl⟩ (vsame_fn1 _ _) (fun j hj h1 hI => by
      obtain ⟨k1, hj1, b1⟩ := hI
      have hj2 : j < (keptR (dropT T) s.data.toList).length := by rw [← seenL_len]; exact hj
      have hlt := AH.get_lt b1
      generalize (seenL (dropT T) s.data.toList)[j] = x
      refine wpV_fn ?_
      refine wpc_fn (px_ext rfl) (px_fn fn_strip_Count_1) rfl ?_
      unfold LF_strip_Count_1 seenE placeV
      simp only [argFr, List.nil_append, List.cons_append]
      have hN : (spots s.data.toList).length ≤ 16777216 := by omega
      generalize (spots s.data.toList).length = N at *
      (refine W_x b1 ?_; (repeat' first | apply Cj.mk | exact Nl.nl) <;> intros)
      refine .inl ⟨rfl, k1.setNew _ (Nat.le_refl _), by omega, ?_⟩
      rw [AH.get_set_same _ hlt, show (N : Int) - (j : Int) - 1 = (N : Int) - ((j + 1 : Nat) : Int) by omega]) (fun j h1 hI => bk.kp hI.1) ⟨hk0, Nat.zero_le _, by rw [hb0]; simp⟩
  obtain ⟨k2, hle, b2⟩ := hor.resolve_right id
  rw [seenL_len] at b2
  have hsub : ((spots s.data.toList).length : Int) - ((keptR (dropT T) s.data.toList).length : Int) = (((spots s.data.toList).length - (keptR (dropT T) s.data.toList).length : Nat) : Int) := by omega
  rw [hsub] at b2
  generalize (spots s.data.toList).length - (keptR (dropT T) s.data.toList).length = r at *
  refine wpc_fn (px_ext rfl) (px_fn fn_strip_Count) rfl ?_
  unfold LF_strip_Count
  simp only [argFr]
  (refine W_x (Aj e0 (Aj e1 b2)) ?_; (repeat' first | apply Cj.mk | exact Nl.nl) <;> intros)
  exact ⟨rfl, k2⟩
end Go.Proofs.YtblmakgjdenpfaaGreatDoor.AM
namespace Go.Proofs.YtblmakgjdenpfaaGreatDoor.AM
open Go
theorem vsame_fn3 (f : FuncId) (a b c : Nat) : vsame (.func (.func f) #[] #[.pointer (some ⟨a, 0, none⟩), .pointer (some ⟨b, 0, none⟩), .pointer (some ⟨c, 0, none⟩)]) (.func (.func f) #[] #[.pointer (some ⟨a, 0, none⟩), .pointer (some ⟨b, 0, none⟩), .pointer (some ⟨c, 0, none⟩)]) = true := by
  simp [vsame, vsame1, vsame0, vsameL]
structure PlI (h h1 : AH) (z : Int) (f : Bool) (a b : Int) : Prop where
  kp : Kp h h1
  b0 : h1.get h.n = some (.cells false [.int .i64 z])
  b1 : h1.get (h.n + 1) = some (.cells false [.int .i64 a, .int .i64 b])
  b2 : h1.get (h.n + 2) = some (.cells false [.bool f])
theorem stripPlace_spec {h : AH} {k B : Nat} {s6 : Sl} {T : Tab} (bk : BkAt h k B s6 T) (s : ByteArray) (hs : s.size ≤ 16777216) (n : Int) (hn1 : -9223372036854775808 ≤ n) (hn2 : n < 9223372036854775808) :
    WpC PX 20 [.pointer (some ⟨k, 0, none⟩), .string s, .int .i64 n] h fun v h' => v = plV (if n < 0 then none else placeD (dropT T) s.data.toList n.toNat) ∧ Kp h h' := by
  have hll : s.data.toList.length = s.size := rfl
  have hkb := spots_len s.data.toList
  have e0 := utfCount_eq s hs
  by_cases hneg : n < 0
  · rw [if_pos hneg]
    refine wpc_fn (px_ext rfl) (px_fn fn_strip_Place) rfl ?_
    unfold LF_strip_Place
    simp only [argFr]
    (refine W_x trivial ?_; (repeat' first | apply Cj.mk | exact Nl.nl) <;> intros)
    exact ⟨rfl, (Kp.refl h).push _⟩
  · rw [if_neg hneg]
    obtain ⟨m, hm⟩ : ∃ m : Nat, n = m := ⟨n.toNat, by omega⟩
    subst hm
    have ht : ((m : Nat) : Int).toNat = m := rfl
    rw [ht]
    generalize hH : ((((h.push (.cells false [.int .i64 m])).push (.cells false [.int .i64 0, .int .i64 0])).push (.cells false [.bool false])).set (h.n + 1 + 1) (.cells false [.bool false])) = H
    have hI0 : PlI h H m false 0 0 := by
      subst hH
      refine ⟨(((Kp.refl h).push _).push _ |>.push _).setNew _ (by omega), ?_, ?_, ?_⟩
      all_goals simp (disch := first | omega | (simp only [AH.nn_push, AH.nn_set, AH.nn_kill]; omega) | (simp only [AH.nn_push, AH.nn_set, AH.nn_kill]; done) | fail) only [AH.get_push_eq, AH.get_push_ne, AH.get_set_eq, AH.get_set_ne]
    obtain ⟨_, h2, e1, hor⟩ := seen_spec (T := T) (k := k) (B := B) (s6 := s6) (h := H) s hs (yv := .func (.func 48) #[] #[.pointer (some ⟨h.n, 0, none⟩), .pointer (some ⟨h.n + 1, 0, none⟩), .pointer (some ⟨h.n + 1 + 1, 0, none⟩)])
      (I := fun j h1 => j ≤ m ∧ ∃ a b : Int, PlI h h1 ((m : Int) - j) false a b) (E := fun h1 => ∃ x, some x = (seenL (dropT T) s.data.toList)[m]? ∧ PlI h h1 (-1) true x.1 x.2.1) ⟨_, _, _, rfl⟩ (vsame_fn3 _ _ _ _) (fun j hj h1 hI => by
        obtain ⟨hjm, a, b, i1⟩ := hI
        obtain ⟨kp, b0, b1, b2⟩ := i1
        have hlt := AH.get_lt b2
        have hE : j = m → (seenL (dropT T) s.data.toList)[j]? = (seenL (dropT T) s.data.toList)[m]? := fun e => by rw [e]
        rw [List.getElem?_eq_getElem hj] at hE
        generalize (seenL (dropT T) s.data.toList)[j] = x at hE
        refine wpV_fn ?_
        refine wpc_fn (px_ext rfl) (px_fn fn_strip_Place_1) rfl ?_
        unfold LF_strip_Place_1 seenE placeV
        simp only [argFr, List.nil_append, List.cons_append]
        by_cases hz : j = m
        · have hz0 : (m : Int) - (j : Int) = 0 := by omega
          have hE2 := hE hz
          rw [hz0] at b0
          (refine W_y (Aj b0 (Aj b1 b2)) ?_; (repeat' first | apply Cj.mk | exact Nl.nl) <;> intros)
          refine .inr ⟨rfl, x, hE2, ⟨?_, ?_, ?_, ?_⟩⟩
          · exact ((kp.setNew _ (by omega)).setNew _ (by omega)).setNew _ (by omega)
          all_goals simp (disch := first | omega | (simp only [AH.nn_push, AH.nn_set, AH.nn_kill]; omega) | (simp only [AH.nn_push, AH.nn_set, AH.nn_kill]; done) | fail) only [AH.get_push_eq, AH.get_push_ne, AH.get_set_eq, AH.get_set_ne]
        · have hz0 : ¬ (m : Int) - (j : Int) = 0 := by omega
          have hz1 : 0 < (m : Int) - (j : Int) := by omega
          have hz2 : (m : Int) - (j : Int) < 9223372036854775808 := by omega
          have hz3 : (m : Int) - ((j + 1 : Nat) : Int) = (m : Int) - (j : Int) - 1 := by omega
          rw [hz3]
          generalize (m : Int) - (j : Int) = z at *
          (refine W_y (Aj b0 (Aj b1 b2)) ?_; (repeat' first | apply Cj.mk | exact Nl.nl) <;> intros)
          refine .inl ⟨rfl, by omega, x.1, x.2.1, ⟨?_, ?_, ?_, ?_⟩⟩
          · exact ((kp.setNew _ (by omega)).setNew _ (by omega)).setNew _ (by omega)
          all_goals simp (disch := first | omega | (simp only [AH.nn_push, AH.nn_set, AH.nn_kill]; omega) | (simp only [AH.nn_push, AH.nn_set, AH.nn_kill]; done) | fail) only [AH.get_push_eq, AH.get_push_ne, AH.get_set_eq, AH.get_set_ne]) (fun j h1 hI => by obtain ⟨_, a, b, i1⟩ := hI; exact bk.kp i1.kp) ⟨Nat.zero_le _, 0, 0, by simpa using hI0⟩
    unfold placeD
    rcases hor with ⟨hle, a, b, i1⟩ | ⟨x, hx, i1⟩
    · obtain ⟨kp, b0, b1, b2⟩ := i1
      rw [dif_neg (by omega)]
      by_cases hq : m = (seenL (dropT T) s.data.toList).length
      · rw [if_pos hq]
        have hz0 : (m : Int) - ((seenL (dropT T) s.data.toList).length : Int) = 0 := by omega
        rw [hz0] at b0
        subst hH
        refine wpc_fn (px_ext rfl) (px_fn fn_strip_Place) rfl ?_
        unfold LF_strip_Place
        simp only [argFr]
        (refine W_x (Aj e0 (Aj e1 (Aj b0 (Aj b1 b2)))) ?_; (repeat' first | apply Cj.mk | exact Nl.nl) <;> intros)
        exact ⟨rfl, kp⟩
      · rw [if_neg hq]
        have hz1 : 0 < (m : Int) - ((seenL (dropT T) s.data.toList).length : Int) := by omega
        generalize (m : Int) - ((seenL (dropT T) s.data.toList).length : Int) = z at *
        subst hH
        refine wpc_fn (px_ext rfl) (px_fn fn_strip_Place) rfl ?_
        unfold LF_strip_Place
        simp only [argFr]
        (refine W_x (Aj e0 (Aj e1 (Aj b0 (Aj b1 b2)))) ?_; (repeat' first | apply Cj.mk | exact Nl.nl) <;> intros)
        exact ⟨rfl, kp⟩
    · obtain ⟨kp, b0, b1, b2⟩ := i1
      obtain ⟨hj, hx⟩ := List.getElem?_eq_some_iff.1 hx.symm
      rw [dif_pos hj, hx]
      subst hH
      refine wpc_fn (px_ext rfl) (px_fn fn_strip_Place) rfl ?_
      unfold LF_strip_Place
      simp only [argFr]
      (refine W_x (Aj e0 (Aj e1 (Aj b0 (Aj b1 b2)))) ?_; (repeat' first | apply Cj.mk | exact Nl.nl) <;> intros)
      exact ⟨rfl, kp⟩
end Go.Proofs.YtblmakgjdenpfaaGreatDoor.AM
namespace Go.Proofs.YtblmakgjdenpfaaGreatDoor.AM
open Go
theorem stripFirst_spec {h : AH} {k B : Nat} {s6 : Sl} {T : Tab} (bk : BkAt h k B s6 T) (s : ByteArray) (hs : s.size ≤ 1048576) : WpC PX 12 [.pointer (some ⟨k, 0, none⟩), .string s] h fun v h' => v = plV (firstD (dropT T) s.data.toList) ∧ Kp h h' := by
  have hz : s.data.toList.length = s.size := rfl
  have hn := spots_len s.data.toList
  have e1 := fun h => spotsMk_eq s h
  refine wpc_fn (px_ext rfl) (px_fn fn_strip_First) rfl ?_
  unfold LF_strip_First
  simp only [argFr]
  (refine W_x e1 ?_; (repeat' first | apply Cj.mk | exact Nl.nl) <;> intros)
  generalize hH0 : ((((((h.push (.cells false [.pointer (some ⟨k, 0, none⟩)])).push (.cells false [.int .i64 0, .int .i64 0])).push (.cells false [.bool false])).push (.cells false [.int .i64 0])).set (h.n + 1 + 1 + 1) (.cells false [.int .i64 0])).push (.cells false [.string s])) = H0
  simp only [Nat.add_assoc, Nat.reduceAdd] at hH0 ⊢
  have n0 : H0.n = h.n + 5 := by rw [← hH0]; simp only [AH.push_n, AH.set_n]
  have a0 : H0.get h.n = some (.cells false [.pointer (some ⟨k, 0, none⟩)]) := by rw [← hH0]; simp (disch := first | omega | (simp only [AH.nn_push, AH.nn_set, AH.nn_kill]; omega) | (simp only [AH.nn_push, AH.nn_set, AH.nn_kill]; done) | fail) only [AH.get_push_eq, AH.get_push_ne, AH.get_set_eq, AH.get_set_ne]
  have a1 : H0.get (h.n + 1) = some (.cells false [.int .i64 0, .int .i64 0]) := by rw [← hH0]; simp (disch := first | omega | (simp only [AH.nn_push, AH.nn_set, AH.nn_kill]; omega) | (simp only [AH.nn_push, AH.nn_set, AH.nn_kill]; done) | fail) only [AH.get_push_eq, AH.get_push_ne, AH.get_set_eq, AH.get_set_ne]
  have a2 : H0.get (h.n + 2) = some (.cells false [.bool false]) := by rw [← hH0]; simp (disch := first | omega | (simp only [AH.nn_push, AH.nn_set, AH.nn_kill]; omega) | (simp only [AH.nn_push, AH.nn_set, AH.nn_kill]; done) | fail) only [AH.get_push_eq, AH.get_push_ne, AH.get_set_eq, AH.get_set_ne]
  have a3 : H0.get (h.n + 3) = some (.cells false [.int .i64 0]) := by rw [← hH0]; simp (disch := first | omega | (simp only [AH.nn_push, AH.nn_set, AH.nn_kill]; omega) | (simp only [AH.nn_push, AH.nn_set, AH.nn_kill]; done) | fail) only [AH.get_push_eq, AH.get_push_ne, AH.get_set_eq, AH.get_set_ne]
  have a5 : H0.get (h.n + 4) = some (.cells false [.string s]) := by rw [← hH0]; simp (disch := first | omega | (simp only [AH.nn_push, AH.nn_set, AH.nn_kill]; omega) | (simp only [AH.nn_push, AH.nn_set, AH.nn_kill]; done) | fail) only [AH.get_push_eq, AH.get_push_ne, AH.get_set_eq, AH.get_set_ne]
  have ak : ∀ b, b < h.n → H0.get b = h.get b := fun b hb => by rw [← hH0]; simp (disch := first | omega | (simp only [AH.nn_push, AH.nn_set, AH.nn_kill]; omega) | (simp only [AH.nn_push, AH.nn_set, AH.nn_kill]; done) | fail) only [AH.get_push_eq, AH.get_push_ne, AH.get_set_eq, AH.get_set_ne]
  clear hH0
  refine wp_rangeP (xs := spotsL s.data.toList) (enc := spotE) (D := fun h1 => h1.get (h.n + 4) = some (.cells false [.string s])) rfl (spots_seq s (h.n + 4) (by omega)) (fun _ => rfl)
    (fun i h1 => (∀ b, b < h.n → h1.get b = h.get b) ∧ h.n + 5 ≤ h1.n ∧ h1.get h.n = some (.cells false [.pointer (some ⟨k, 0, none⟩)]) ∧ h1.get (h.n + 1) = some (.cells false [.int .i64 0, .int .i64 0]) ∧ h1.get (h.n + 2) = some (.cells false [.bool false]) ∧
      h1.get (h.n + 3) = some (.cells false [.int .i64 i]) ∧ h1.get (h.n + 4) = some (.cells false [.string s]) ∧ ∀ j (hj : j < (spots s.data.toList).length), j < i → ¬ (isBad2 (spots s.data.toList)[j] = true ∨ dropT T (spots s.data.toList)[j].1 = true))
    (fun ex h1 => ex = .ret ∧ (∀ b, b < h.n → h1.get b = h.get b) ∧ h.n + 5 ≤ h1.n ∧ ∃ a b : Nat, firstD (dropT T) s.data.toList = some (a, b) ∧ h1.get (h.n + 1) = some (.cells false [.int .i64 a, .int .i64 b]) ∧ h1.get (h.n + 2) = some (.cells false [.bool true]))
    (fun y => [(2, .pointer (some ⟨h.n, 0, none⟩)), (4, .pointer (some ⟨h.n + 1, 0, none⟩)), (5, .pointer (some ⟨h.n + 2, 0, none⟩)), (6, .pointer (some ⟨h.n + 3, 0, none⟩)), (7, .int .i64 y.1), (8, .pointer (some ⟨16, 0, some 1⟩))])
    (fun y => [(16, .cells false [.int .i32 y.2.1, .int .i64 y.2.2, .bool (isBad2 y.2)])]) ?_ ?_ ?_ ?_ ?_ ?_ ?_ ?_
  · rw [n0]
    rintro i h1 h2 ⟨f0, fn, f1, f2, f3, f4, f6, f7⟩ k
    exact ⟨fun b hb => by rw [k.get b (by omega)]; exact f0 b hb, by rw [k.n]; exact fn, by rw [k.get _ (by omega)]; exact f1, by rw [k.get _ (by omega)]; exact f2, by rw [k.get _ (by omega)]; exact f3, by rw [k.get _ (by omega)]; exact f4, by rw [k.get _ (by omega)]; exact f6, f7⟩
  · rw [n0]
    rintro ex h1 h2 ⟨rfl, f0, fn, a, b, q, f1, f2⟩ k
    exact ⟨rfl, fun b hb => by rw [k.get b (by omega)]; exact f0 b hb, by rw [k.n]; exact fn, a, b, q, by rw [k.get _ (by omega)]; exact f1, by rw [k.get _ (by omega)]; exact f2⟩
  · exact fun i h1 f => f.2.2.2.2.2.2.1
  · intro y h1
    unfold spotE spotV
    simp only [List.zip_cons_cons, List.zip_nil_right, List.reverse_cons, List.reverse_nil, List.nil_append, List.cons_append, okFr_cons, okFr_nil, okV_eq, isLoc_ptr, isLoc_func, Bool.not_false, if_true]
    (refine W_x trivial ?_; (repeat' first | apply Cj.mk | exact Nl.nl) <;> intros)
    exact ⟨rfl, rfl, rfl, rfl⟩
  · intro o
    have k : ∀ b, b < h.n + 5 → (H0.push o).get b = H0.get b := fun b hb => AH.get_push_ne _ (by omega)
    exact ⟨fun b hb => (k b (by omega)).trans (ak b hb), by rw [AH.push_n, n0]; omega, (k _ (by omega)).trans a0, (k _ (by omega)).trans a1, (k _ (by omega)).trans a2, (k _ (by omega)).trans a3, (k _ (by omega)).trans a5, fun j hj hlt => absurd hlt (by omega)⟩
  · rw [n0]
    rintro i hi h1 o ⟨f0, fn, f1, f2, f3, f4, f6, f7⟩ ho
    have l4 := AH.get_lt ho
    have hil : i < (spots s.data.toList).length := by rw [← spotsL_len]; exact hi
    rw [spotsL_get hi]
    have bk1 : BkAt h1 k B s6 T := bk.kp ⟨by omega, f0⟩
    have hps := posn_lt hil
    have hhit : ∀ (_ : isBad2 (spots s.data.toList)[i] = true ∨ dropT T (spots s.data.toList)[i].1 = true), firstD (dropT T) s.data.toList = some (posn s.data.toList i, i) := fun hb => scanL_hit hil (fun j hj hlt => if_neg (f7 j hj hlt)) (if_pos hb)
    have hnx : ¬ (isBad2 (spots s.data.toList)[i] = true ∨ dropT T (spots s.data.toList)[i].1 = true) → ∀ j (hj : j < (spots s.data.toList).length), j < i + 1 → ¬ (isBad2 (spots s.data.toList)[j] = true ∨ dropT T (spots s.data.toList)[j].1 = true) := fun hb j hj hlt => by
      rcases Nat.lt_or_ge j i with q | q
      · exact f7 j hj q
      · obtain rfl : j = i := by omega
        exact hb
    generalize hx : (spots s.data.toList)[i] = x at *
    have e2 := dropped_eq bk1 (x.1 : Nat)
    rw [show ofI (x.1 : Nat) T.drops = dropT T x.1 from rfl] at e2
    generalize isBad2 x = ib at hhit hnx
    generalize dropT T x.1 = dr at e2 hhit hnx
    dsimp only
    have hret : (ib = true ∨ dr = true) → ∀ (h2 : AH), h2 = (h1.set (h.n + 1) (.cells false [.int .i64 (posn s.data.toList i), .int .i64 i])).set (h.n + 2) (.cells false [.bool true]) → h2.get (h.n + 5) = some o ∧ (∀ b, b < h.n → h2.get b = h.get b) ∧ h.n + 5 ≤ h2.n ∧ ∃ a b : Nat, firstD (dropT T) s.data.toList = some (a, b) ∧ h2.get (h.n + 1) = some (.cells false [.int .i64 a, .int .i64 b]) ∧ h2.get (h.n + 2) = some (.cells false [.bool true]) := by
      rintro hb h2 rfl
      refine ⟨by rw [AH.get_set_ne _ (by omega), AH.get_set_ne _ (by omega)]; exact ho, fun b hb => by rw [AH.get_set_ne _ (by omega), AH.get_set_ne _ (by omega)]; exact f0 b hb, by rw [AH.set_n, AH.set_n]; exact fn, _, _, hhit hb, ?_, ?_⟩
      · rw [AH.get_set_ne _ (by omega), AH.get_set_same _ (by omega)]
      · exact AH.get_set_same _ (by rw [AH.set_n]; omega)
    cases ib with
    | true =>
      have hr := hret (.inl rfl) _ rfl
      (refine W_x (Aj f1 (Aj f2 (Aj f3 (Aj f4 e2)))) ?_; (repeat' first | apply Cj.mk | exact Nl.nl) <;> intros)
      exact ⟨hr.1, rfl, hr.2⟩
    | false =>
      cases dr with
      | true =>
        have hr := hret (.inr rfl) _ rfl
        (refine W_x (Aj f1 (Aj f2 (Aj f3 (Aj f4 e2)))) ?_; (repeat' first | apply Cj.mk | exact Nl.nl) <;> intros)
        exact ⟨hr.1, rfl, hr.2⟩
      | false =>
        have hle : i < 1048576 := by omega
        (refine W_x (Aj f1 (Aj f2 (Aj f3 (Aj f4 e2)))) ?_; (repeat' first | apply Cj.mk | exact Nl.nl) <;> intros)
        refine ⟨by rw [AH.get_set_ne _ (by omega)]; exact ho, fun b hb => by rw [AH.get_set_ne _ (by omega)]; exact f0 b hb, by rw [AH.set_n]; exact fn, ?_, ?_, ?_, ?_, ?_, hnx (by rintro (q | q) <;> cases q)⟩
        · rw [AH.get_set_ne _ (by omega)]; exact f1
        · rw [AH.get_set_ne _ (by omega)]; exact f2
        · rw [AH.get_set_ne _ (by omega)]; exact f3
        · exact AH.get_set_same _ (by omega)
        · rw [AH.get_set_ne _ (by omega)]; exact f6
  · rintro h1 ⟨f0, fn, f1, f2, f3, f4, f6, f7⟩
    rw [spotsL_len] at f7
    have hno : firstD (dropT T) s.data.toList = none := scanL_end fun j hj => if_neg (f7 j hj hj)
    rw [hno]
    (refine W_x (Aj f1 (Aj f2 f3)) ?_; (repeat' first | apply Cj.mk | exact Nl.nl) <;> intros)
    refine ⟨rfl, by rw [AH.set_n, AH.set_n]; omega, fun b hb => ?_⟩
    rw [AH.get_set_ne _ (by omega), AH.get_set_ne _ (by omega)]
    exact f0 b hb
  · rintro ex h1 hne ⟨rfl, f0, fn, a, b, q, f1, f2⟩
    rw [q]
    (refine W_x (Aj f1 f2) ?_; (repeat' first | apply Cj.mk | exact Nl.nl) <;> intros)
    exact ⟨rfl, by omega, f0⟩
end Go.Proofs.YtblmakgjdenpfaaGreatDoor.AM
namespace Go.Proofs.YtblmakgjdenpfaaGreatDoor.AM
open Go
def LF_guiselaw11_known : LFunc :=
  .mk 0 [.tmp 0] (.seq (R 999 [] [.set 0 (.cv (.bool false))]) (.seq (R 5 [1, 2, 3] [.set 4 (xc1 8 (xc0 23)), .tmp 7 (xex 0 (.sl 4)), .tmp 8 (xex 1
  (.sl 4)), .tmp 9 (xex 2 (.sl 4)), .set 1 (.sl 7), .set 2 (.sl 8), .set 3 (.sl 9)]) (.seq (R 10 [0] [.set 0 (.and (.and (.and (.va 2) (.va 3)) (xb .eql (xc2 10 (.va 1)
  (.cv (.string ⟨#[97, 226, 128, 141, 98, 255]⟩))) (.cv (.string ⟨#[97, 98, 239, 191, 189]⟩)))) (xb .eql (xc2 13 (.va 1) (.cv (.string ⟨#[226, 128, 141, 97, 226, 128,
  141]⟩))) (xi 2)))]) .ret)))
theorem fn_guiselaw11_known : (autoPrg Tryz.prog).fn 9 = some LF_guiselaw11_known := by kernel_rfl
end Go.Proofs.YtblmakgjdenpfaaGreatDoor.AM
namespace Go.Proofs.YtblmakgjdenpfaaGreatDoor.AM
open Go
theorem known11_a : bs (stripT houseT [97, 226, 128, 141, 98, 255]) = ⟨#[97, 98, 239, 191, 189]⟩ := by
  have : stripT houseT [97, 226, 128, 141, 98, 255] = [97, 98, 239, 191, 189] := by decide +kernel
  rw [this]; rfl
theorem known11_b : (spots [226, 128, 141, 97, 226, 128, 141]).length - (keptR (dropT houseT) [226, 128, 141, 97, 226, 128, 141]).length = 2 := by decide +kernel
theorem house11_spec (h : AH) : WpC PX 23 [] h fun v h' => ∃ S, v = .agg S.vs.toArray ∧ TabAt h' S houseT ∧ Kp h h' := house_spec h
theorem known11_spec {h : AH} (u : U8T h) (hg : 2 ≤ h.n) : WpC PX 9 [] h fun v h' => v = .bool true ∧ Kp h h' := by
  obtain ⟨_, g, e, S, rfl, t, k⟩ := house11_spec h
  obtain ⟨_, g1, e1, k1, kk, B, S1, rfl, bk, _, _⟩ := of_house t (u.kp k) (Nat.le_trans hg k.1)
  obtain ⟨_, g2, e2, rfl, k2⟩ := strip_spec bk.bk ⟨#[97, 226, 128, 141, 98, 255]⟩ (by decide)
  obtain ⟨_, g3, e3, rfl, k3⟩ := stripCount_spec (bk.kp k2).bk ⟨#[226, 128, 141, 97, 226, 128, 141]⟩ (by decide)
  have q2 := known11_a
  have q3 := known11_b
  unfold TS.vs at *
  refine wpc_fn (px_ext rfl) (px_fn fn_guiselaw11_known) rfl ?_
  unfold LF_guiselaw11_known
  simp only [argFr]
  simp only [q2] at e2
  simp only [q3] at e3
  (refine W_x (Aj e (Aj e1 (Aj e2 e3))) ?_; (repeat' first | apply Cj.mk | exact Nl.nl) <;> intros)
  exact ⟨rfl, ((k.trans k1).trans k2).trans k3⟩
end Go.Proofs.YtblmakgjdenpfaaGreatDoor.AM
namespace Go.Proofs.YtblmakgjdenpfaaGreatDoor.AM
open Go
def LF_guiselaw11_StripNumbers : LFunc :=
  .mk 0 [.tmp 0] (.seq (R 999 [] [.set 0 (.cv (.bool false))]) (.seq (R 13 [1, 2] [.set 12 (xc1 8 (xc0 23)), .tmp 15 (xex 0 (.sl 12)), .tmp 16 (xex 1
  (.sl 12)), .tmp 17 (xex 2 (.sl 12)), .set 1 (.sl 15), .set 2 (.sl 16), .set 3 (.sl 17)]) (.seq (.seq (R 18 [1, 23] [.tmp 23 (.or (xu .not (.va 2)) (xu .not (xc0
  9)))]) (.cond (.s 23) (.seq (R 999 [0] [.set 0 (.cv (.bool false))]) .ret) .skip)) (.seq (R 25 [1, 4, 5] [.set 24 (xc2 12 (.va 1) (.cv (.string
  ⟨#[195, 169, 255]⟩))), .tmp 27 (xex 0 (.sl 24)), .tmp 28 (xex 1 (.sl 24)), .at 4, .tmp 4 (xnl 4 [.int .i64 0, .int .i64 0]), .run (xst 2 (.sl 4) (.sl 27)), .tmp 5 (.va 28)]) (.seq
  (R 30 [1, 4, 5, 6, 7] [.set 29 (xc3 20 (.va 1) (.cv (.string ⟨#[195, 169, 226, 128, 141, 98]⟩)) (xi 1)), .tmp 32 (xex 0 (.sl 29)), .tmp 33 (xex 1 (.sl 29)), .at 6,
  .tmp 6 (xnl 6 [.int .i64 0, .int .i64 0]), .run (xst 2 (.sl 6) (.sl 32)), .tmp 7 (.va 33)]) (.seq (R 35 [1, 4, 5, 6, 7, 8, 9] [.set 34 (xc3 20 (.va 1) (.cv (.string
  ⟨#[195, 169, 226, 128, 141, 98]⟩)) (xi 2)), .tmp 37 (xex 0 (.sl 34)), .tmp 38 (xex 1 (.sl 34)), .at 8, .tmp 8 (xnl 8 [.int .i64 0, .int .i64 0]), .run (xst 2 (.sl 8) (.sl 37)),
  .tmp 9 (.va 38)]) (.seq (R 40 [1, 4, 5, 6, 7, 8, 9, 11] [.set 39 (xc3 20 (.va 1) (.cv (.string ⟨#[195, 169, 226, 128, 141, 98]⟩)) (xi 3)), .tmp 42 (xex 0 (.sl 39)),
  .tmp 43 (xex 1 (.sl 39)), .at 10, .run (xst 2 (xnl 10 [.int .i64 0, .int .i64 0]) (.sl 42)), .tmp 11 (.va 43)]) (.seq (.seq (R 44 [1, 71] [.tmp 71 (.or (.or (.or (.or (.or (.or
  (xu .not (.va 5)) (xu .not (.va 7))) (xu .not (.va 9))) (.va 11)) (.op (.p (.eqA true [.int, .int] (.s 0) (.s 1))) (.cons (xln 2 (.sl 4)) (.op (.p (.build [.int .i64 0, .int .i64
  0] [(0, 1, .s 0), (1, 1, .s 1)])) (.cons (xi 2) (xi 1)))))) (.op (.p (.eqA true [.int, .int] (.s 0) (.s 1))) (.cons (xln 2 (.sl 6)) (.op (.p (.build [.int .i64 0, .int .i64 0]
  [(0, 1, .s 0), (1, 1, .s 1)])) (.cons (xi 5) (xi 2)))))) (.op (.p (.eqA true [.int, .int] (.s 0) (.s 1))) (.cons (xln 2 (.sl 8)) (.op (.p (.build [.int .i64 0, .int .i64 0] [(0,
  1, .s 0), (1, 1, .s 1)])) (.cons (xi 6) (xi 3))))))]) (.cond (.s 71) (.seq (R 999 [0] [.set 0 (.cv (.bool false))]) .ret) .skip)) (.seq (R 72 [0] [.set 0 (.and (.and (xc3
  15 (.va 1) (.cv (.string ⟨#[97, 226, 128, 141]⟩)) (.cv (.string ⟨#[97]⟩))) (xu .not (xc3 15 (.va 1) (.cv (.string ⟨#[97]⟩)) (.cv (.string ⟨#[98]⟩))))) (xc1
  24 (.cv (.pointer none))))]) .ret)))))))))
theorem fn_guiselaw11_StripNumbers : (autoPrg Tryz.prog).fn 5 = some LF_guiselaw11_StripNumbers := by kernel_rfl
def LF_guiselaw11_none : LFunc :=
  .mk 1 [.cell 2 none] (.seq (R 2 [0, 2] [.tmp 2 (xnh [.bool false])]) (.seq (R 9 [0, 2, 3, 4] [.set 8 (xc2 12 (.va 0) (.cv (.string ⟨#[97, 226, 128, 141, 255]⟩))),
  .tmp 11 (xex 0 (.sl 8)), .tmp 12 (xex 1 (.sl 8)), .at 3, .tmp 3 (xnl 3 [.int .i64 0, .int .i64 0]), .run (xst 2 (.sl 3) (.sl 11)), .tmp 4 (.va 12)]) (.seq (R 14 [0, 2, 3, 4, 5, 6]
  [.set 13 (xc3 20 (.va 0) (.cv (.string ⟨#[97]⟩)) (xi 0)), .tmp 16 (xex 0 (.sl 13)), .tmp 17 (xex 1 (.sl 13)), .at 5, .tmp 5 (xnl 5 [.int .i64 0, .int .i64 0]), .run
  (xst 2 (.sl 5) (.sl 16)), .tmp 6 (.va 17)]) (.seq (R 18 [0, 2, 3, 4, 5, 6, 7] [.set 7 (xc2 50 (.va 0) (.cv (.string ⟨#[97]⟩)))]) (.seq (.seq (R 20 [0, 2, 3, 4, 5, 6,
  7, 21] [.tmp 21 (.op (.p (.eqk false .func (.s 0) (.s 1))) (.cons (.va 7) (.cv .nilFunc)))]) (.cond (.s 21) (.seq (R 999 [2] [.run (xst 1 (.sl 2) (.cv (.bool false)))]) .ret)
  .skip)) (.seq (.seq (R 22 [0, 2, 3, 4, 5, 6, 22] [.tmp 22 (.va 7)]) (.block 0 (.rangeF (.s 22) [23, 24] .skip (.block 1 (.seq (R 999 [] [.run (xst 1 (.sl 2) (.cv (.bool false)))])
  .ret))))) (.seq (R 25 [2] [.run (xst 1 (.sl 2) (.and (.and (.and (.and (.and (.and (xu .not (.va 4)) (xu .not (.va 6))) (.op (.p (.eqA false [.int, .int] (.s 0) (.s 1))) (.cons
  (xln 2 (.sl 3)) (.op (.p (.build [.int .i64 0, .int .i64 0] [])) .nil)))) (.op (.p (.eqA false [.int, .int] (.s 0) (.s 1))) (.cons (xln 2 (.sl 5)) (.op (.p (.build [.int .i64 0,
  .int .i64 0] [])) .nil)))) (xb .eql (xc2 10 (.va 0) (.cv (.string ⟨#[97]⟩))) (.cv (.string ⟨#[]⟩)))) (xb .eql (xc2 13 (.va 0) (.cv (.string ⟨#[226, 128,
  141]⟩))) (xi 0))) (xu .not (xc3 15 (.va 0) (.cv (.string ⟨#[97]⟩)) (.cv (.string ⟨#[97]⟩))))))]) .ret)))))))
theorem fn_guiselaw11_none : (autoPrg Tryz.prog).fn 24 = some LF_guiselaw11_none := by kernel_rfl
end Go.Proofs.YtblmakgjdenpfaaGreatDoor.AM
