/-
  Operations whose value hangs on their operands alone: slices, places, aggregates.
-/
import Derived.Test.YtanpdopjgepbkaaAmPure2
set_option linter.unusedVariables false
set_option linter.unusedSimpArgs false
namespace Go.Proofs.Ytanpdopjgepbkaa.AM
open Go

variable {P : Program} {ρ : Rho} {lm : Nat → Option Nat} {fr : Fr} {ev : Operand → Value} {w : World}

theorem p_un (hr : OpdRel P ρ lm fr ev) {op : UnOp} {x : Operand} {x' : Opd} (hx : liftOpd P x = some x') {v : Value} (hv : (POp.un op x').ev fr = some v) :
    ∃ u, (Op.unary op (ev x)).run P w = .ok u w ∧ VRelF ρ lm v u := by
  simp only [POp.ev] at hv
  have h1 := hr x x' hx
  unfold unA at hv
  split at hv
  · rename_i b e
    rw [e] at h1
    rw [h1.bool]
    injection hv with hv; subst hv
    exact ⟨_, by simp [Op.unary], .inl (.bool _)⟩
  · rename_i k n e
    rw [e] at h1
    rw [h1.int]
    injection hv with hv; subst hv
    exact ⟨_, by simp [Op.unary, Op.intArith], .inl (.int _ _)⟩
  · cases hv

theorem p_conv (hr : OpdRel P ρ lm fr ev) {x : Operand} {x' : Opd} (hx : liftOpd P x = some x') {src dst : TypeId} {k0 k : IntKind} (hs : P.underlying src = some (.int k0)) (hd : P.underlying dst = some (.int k)) {v : Value}
    (hv : (POp.conv k x').ev fr = some v) : ∃ u, (convert src dst (ev x)).run P w = .ok u w ∧ VRelF ρ lm v u := by
  simp only [POp.ev] at hv
  have h1 := hr x x' hx
  split at hv
  · rename_i k n e
    rw [e] at h1
    rw [h1.int]
    injection hv with hv; subst hv
    exact ⟨_, by simp [convert, run_und hs, run_und hd, Conv.intToInt], .inl (.int _ _)⟩
  · cases hv

theorem p_i2s (hr : OpdRel P ρ lm fr ev) {x : Operand} {x' : Opd} (hx : liftOpd P x = some x') {src dst : TypeId} {k0 : IntKind} (hs : P.underlying src = some (.int k0)) (hd : P.underlying dst = some .string) {v : Value}
    (hv : (POp.i2s x').ev fr = some v) : ∃ u, (convert src dst (ev x)).run P w = .ok u w ∧ VRelF ρ lm v u := by
  simp only [POp.ev] at hv
  have h1 := hr x x' hx
  split at hv
  · rename_i k n e
    rw [e] at h1
    rw [h1.int]
    injection hv with hv; subst hv
    exact ⟨_, by simp [convert, run_und hs, run_und hd, Conv.intToString], .inl (.string _)⟩
  · cases hv

theorem p_s2s (hr : OpdRel P ρ lm fr ev) {x : Operand} {x' : Opd} (hx : liftOpd P x = some x') {src dst : TypeId} (hs : P.underlying src = some .string) (hd : P.underlying dst = some .string) {v : Value}
    (hv : (POp.slS x' none none).ev fr = some v) : ∃ u, (convert src dst (ev x)).run P w = .ok u w ∧ VRelF ρ lm v u := by
  simp only [POp.ev] at hv
  have h1 := hr x x' hx
  split at hv
  · rename_i s e
    rw [e] at h1
    rw [h1.string]
    simp only [optInt, Int.natCast_nonneg, Int.le_refl, true_and, if_true, Int.toNat_natCast, Int.toNat_zero] at hv
    injection hv with hv; subst hv
    refine ⟨.string s, by simp [convert, run_und hs, run_und hd], ?_⟩
    have : s.extract (0 : Int).toNat s.size = s := by simp
    first | (rw [this]; exact .inl (.string _)) | (simp; exact .inl (.string _))
  · cases hv

theorem p_nilck (hr : OpdRel P ρ lm fr ev) {x : Operand} {x' : Opd} (hx : liftOpd P x = some x') {v : Value} (hv : (POp.nilck x').ev fr = some v) {o : Oper} (ho : o.op = .nilCheck x) :
    ∃ u, (execOp ev o).run P w = .ok (.value u) w ∧ VRelF ρ lm v u := by
  simp only [POp.ev] at hv
  have h1 := hr x x' hx
  simp only [execOp, ho]
  split at hv
  · rename_i a e
    rw [e] at h1
    obtain ⟨p', e2, _⟩ := h1.psome
    injection hv with hv; subst hv
    rw [e2] at h1 ⊢
    exact ⟨_, rfl, h1⟩
  · rename_i fn first captured e
    rw [e] at h1
    have h2 := h1.vrel (by simp) (by simp)
    clear h1
    generalize ev x = u at h2 ⊢
    split at hv
    · injection hv with hv; subst hv
      cases h2 with
      | func f a b a' b' g1 g2 g3 g4 => exact ⟨_, rfl, .inl (.func _ _ _ _ _ g1 g2 g3 g4)⟩
    · injection hv with hv; subst hv
      cases h2 with
      | yield l c δ N g => exact ⟨_, rfl, .inl (.yield _ _ _ _ g)⟩
    · cases hv
  · cases hv

theorem optInt_rel (hr : OpdRel P ρ lm fr ev) {lo : Option Operand} {lo' : Option Opd} (h : liftO P lo = some lo') {d l : Int} (hl : optInt fr lo' d = some l) :
    (lo = none ∧ lo' = none ∧ l = d) ∨ ∃ x k, lo = some x ∧ lo'.isSome = true ∧ ev x = .int k l := by
  cases lo with
  | none => simp only [liftO, Option.some.injEq] at h; subst h; simp only [optInt, Option.some.injEq] at hl; exact .inl ⟨rfl, rfl, hl.symm⟩
  | some x =>
    simp only [liftO] at h
    obtain ⟨y, hy, rfl⟩ := Option.map_eq_some_iff.1 h
    simp only [optInt] at hl
    have h1 := hr x y hy
    unfold asNat at hl
    split at hl
    · rename_i k n e
      rw [e] at h1
      injection hl with hl; subst hl
      exact .inr ⟨x, k, rfl, rfl, h1.int⟩
    · cases hl

theorem run_sliceBound {k : IntKind} {i : Int} {y : Nat} (h0 : 0 ≤ i) (h1 : i ≤ y) (c : BoundsCode) : (Instr.sliceBound (.int k i) y c).run P w = .ok i.toNat w := by
  simp [Instr.sliceBound, asIntOf, h0, h1]

theorem run_sliceBounds (hr : OpdRel P ρ lm fr ev) (isS : Bool) {len cap : Nat} {lo hi mx : Option Operand} {lo' hi' mx' : Option Opd} (h1 : liftO P lo = some lo') (h2 : liftO P hi = some hi') (h3 : liftO P mx = some mx')
    (hm : mx'.isSome = true → hi'.isSome = true) {l h : Int} {m : Int} (e1 : optInt fr lo' 0 = some l) (e2 : optInt fr hi' len = some h) (e3 : optInt fr mx' len = some m)
    (b0 : 0 ≤ l) (b1 : l ≤ h) (b2 : h ≤ m) (b3 : m ≤ len) (b4 : len ≤ cap) :
    ∃ m' : Nat, (Instr.sliceBounds isS len cap (lo.map ev) (hi.map ev) (mx.map ev)).run P w = .ok (l.toNat, h.toNat, m') w ∧ h.toNat ≤ m' ∧ m' ≤ cap := by
  unfold Instr.sliceBounds
  rcases optInt_rel hr h3 e3 with ⟨rfl, rfl, rfl⟩ | ⟨x, k, rfl, gm, ex⟩
  · refine ⟨cap, ?_, by omega, Nat.le_refl _⟩
    rcases optInt_rel hr h2 e2 with ⟨rfl, _, rfl⟩ | ⟨x, k, rfl, _, ex⟩
    · simp only [Option.map_none, Sem.run_bind, Sem.run_pure, Result.andThen_ok, Option.isSome_none, Bool.false_eq_true, if_false]
      rcases optInt_rel hr h1 e1 with ⟨rfl, _, rfl⟩ | ⟨xl, kl, rfl, _, exl⟩
      · simp
      · simp only [Option.map_some, exl, Sem.run_bind]
        rw [run_sliceBound b0 (by omega)]
        simp
    · simp only [Option.map_none, Option.map_some, Sem.run_bind, Sem.run_pure, Result.andThen_ok, Option.isSome_none, Bool.false_eq_true, if_false, ex]
      rw [run_sliceBound (by omega) (by omega)]
      simp only [Result.andThen_ok]
      rcases optInt_rel hr h1 e1 with ⟨rfl, _, rfl⟩ | ⟨xl, kl, rfl, _, exl⟩
      · simp
      · simp only [Option.map_some, exl, Sem.run_bind]
        rw [run_sliceBound b0 (by omega)]
        simp
  · obtain ⟨y, hy⟩ := Option.isSome_iff_exists.1 (hm gm)
    rcases optInt_rel hr h2 e2 with ⟨_, g, _⟩ | ⟨x2, k2, rfl, _, ex2⟩
    · rw [hy] at g; cases g
    · refine ⟨m.toNat, ?_, by omega, by omega⟩
      simp only [Option.map_some, Sem.run_bind, Result.andThen_ok, Option.isSome_some, if_true, ex, ex2]
      rw [run_sliceBound (by omega) (by omega)]
      simp only [Result.andThen_ok]
      rw [run_sliceBound (by omega) (by omega)]
      simp only [Result.andThen_ok]
      rcases optInt_rel hr h1 e1 with ⟨rfl, _, rfl⟩ | ⟨xl, kl, rfl, _, exl⟩
      · simp
      · simp only [Option.map_some, exl, Sem.run_bind]
        rw [run_sliceBound b0 (by omega)]
        simp

theorem p_slS (hr : OpdRel P ρ lm fr ev) {x : Operand} {x' : Opd} (hx : liftOpd P x = some x') {lo hi : Option Operand} {lo' hi' : Option Opd} (h1 : liftO P lo = some lo') (h2 : liftO P hi = some hi') {t : TypeId}
    (ht : P.underlying t = some .string) {v : Value} (hv : (POp.slS x' lo' hi').ev fr = some v) : ∃ u, (Instr.sliceAt t (ev x) (lo.map ev) (hi.map ev) none).run P w = .ok u w ∧ VRelF ρ lm v u := by
  simp only [POp.ev] at hv
  have hx1 := hr x x' hx
  split at hv
  · rename_i s e
    rw [e] at hx1
    rw [hx1.string]
    split at hv
    · rename_i l h el eh
      split at hv
      · rename_i hb
        injection hv with hv; subst hv
        obtain ⟨m', hm', _⟩ := run_sliceBounds (P := P) (w := w) hr false (cap := s.size) h1 h2 (mx := none) (mx' := none) rfl (by simp) el eh rfl hb.1 hb.2.1 hb.2.2 (Int.le_refl _) (Nat.le_refl _)
        simp only [Option.map_none] at hm'
        exact ⟨_, by simp [Instr.sliceAt, run_und ht, Instr.slice, hm'], .inl (.string _)⟩
      · cases hv
    · cases hv
  · cases hv

theorem add_off (a : Addr) (h : a.spot = none) (n : Nat) : a.add n = ptrOff a n := by
  unfold Addr.add ptrOff
  cases a with
  | mk b o s => simp only at h; subst h; split <;> simp_all

theorem p_sl (hr : OpdRel P ρ lm fr ev) {x : Operand} {x' : Opd} (hx : liftOpd P x = some x') {lo hi mx : Option Operand} {lo' hi' mx' : Option Opd} (h1 : liftO P lo = some lo') (h2 : liftO P hi = some hi') (h3 : liftO P mx = some mx')
    (hm : mx'.isSome = true → hi'.isSome = true) {t e : TypeId} (ht : P.underlying t = some (.slice e)) {esz : Nat} (hs : szOf P e = some esz) {v : Value} (hv : (POp.sl esz x' lo' hi' mx').ev fr = some v) :
    ∃ u, (Instr.sliceAt t (ev x) (lo.map ev) (hi.map ev) (mx.map ev)).run P w = .ok u w ∧ VRelF ρ lm v u := by
  simp only [POp.ev] at hv
  have hx1 := hr x x' hx
  split at hv
  · rename_i a n e0 ea
    rw [ea] at hx1
    split at hv
    · rename_i l h m el eh em
      split at hv
      · rename_i hb
        obtain ⟨b0, b1, b2, b3, rfl, hsp⟩ := hb
        injection hv with hv; subst hv
        have hx2 : VRel ρ (.slice (some a) n e0) (ev x) := by
          rcases hx1 with g | ⟨_, _, _, g, _⟩ | ⟨nm, n1, e1, c, g, _⟩
          · exact g
          · cases g
          · injection g with g _ _; injection g with g; subst g; simp [loc] at hsp
        have hcase : ∃ a' k, ev x = .slice (some a') n k ∧ n ≤ k := by
          generalize ev x = u at hx2
          cases hx2 with
          | sl b o c δ N n e k h h1 h2 => exact ⟨_, k, rfl, h1⟩
          | slZ a a' e => exact ⟨_, 0, rfl, Nat.le_refl _⟩
        obtain ⟨a', k, eu, hnk⟩ := hcase
        rw [eu] at hx2 ⊢
        obtain ⟨m', hm', g1, g2⟩ := run_sliceBounds (P := P) (w := w) hr true (cap := k) h1 h2 h3 hm el eh em b0 b1 b2 b3 hnk
        refine ⟨.slice (if m' = l.toNat then some a' else (some a').map (·.add (l.toNat * e0))) (h.toNat - l.toNat) (m' - l.toNat), by simp [Instr.sliceAt, run_und ht, Instr.slice, hm', run_szOf hs], ?_⟩
        by_cases hz : m' = l.toNat
        · have hl0 : h.toNat - l.toNat = 0 := by omega
          have hm0 : m' - l.toNat = 0 := by omega
          rw [if_pos hz, hl0, hm0]
          exact .inl (.slZ _ _ _)
        · rw [if_neg hz]
          cases hx2 with
          | sl b o c δ N n e k h' h1' h2' =>
            refine .inl ?_
            have hp : ptrOff ⟨b, o, none⟩ (l.toNat * e0) = ⟨b, o + l.toNat * e0, none⟩ := rfl
            have hp2 : (some (⟨c, δ + o, none⟩ : Addr)).map (·.add (l.toNat * e0)) = some ⟨c, δ + (o + l.toNat * e0), none⟩ := by
              simp only [Option.map_some, Option.some.injEq]
              rw [add_off _ rfl]
              simp [ptrOff, Nat.add_assoc]
            rw [hp, hp2]
            refine .sl _ _ _ _ _ _ _ _ h' (by omega) ?_
            have : (m' - l.toNat) * e0 + l.toNat * e0 = m' * e0 := by rw [← Nat.add_mul]; congr 1; omega
            have : m' * e0 ≤ k * e0 := Nat.mul_le_mul_right _ g2
            omega
          | slZ a0 a1 e1 => exfalso; omega
      · cases hv
    · cases hv
  · rename_i n e0 ea
    rw [ea] at hx1
    obtain ⟨eu, rfl, _⟩ := hx1.snil
    rw [eu]
    split at hv
    · rename_i l h m el eh em
      split at hv
      · rename_i hb
        obtain ⟨rfl, rfl, rfl⟩ := hb
        injection hv with hv; subst hv
        obtain ⟨m', hm', g1, g2⟩ := run_sliceBounds (P := P) (w := w) hr true (len := 0) (cap := 0) h1 h2 h3 hm el eh em (Int.le_refl _) (Int.le_refl _) (Int.le_refl _) (Int.le_refl _) (Nat.le_refl _)
        have : m' = 0 := by omega
        subst this
        exact ⟨.slice none 0 0, by simp [Instr.sliceAt, run_und ht, Instr.slice, hm', run_szOf hs], .inl .slNil⟩
      · cases hv
    · cases hv
  · cases hv

theorem VRelF.off {p p' : Addr} (h : VRelF ρ lm (.pointer (some p)) (.pointer (some p'))) (n : Nat) : VRelF ρ lm (.pointer (some (ptrOff p n))) (.pointer (some (p'.add n))) := by
  rcases h with h | ⟨nm, o, c, h1, h2, h3⟩ | ⟨nm, n', e, c, h1, _⟩
  · cases h with
    | ptr b o c δ N h =>
      rw [add_off _ rfl]
      have : ptrOff ⟨c, δ + o, none⟩ n = ⟨c, δ + (o + n), none⟩ := by simp [ptrOff, Nat.add_assoc]
      rw [this]
      exact .inl (.ptr b (o + n) c δ N h)
  · injection h1 with h1; injection h1 with h1; injection h3 with h3; injection h3 with h3
    subst h1 h3
    rw [add_off _ rfl]
    exact .inr (.inl ⟨nm, o + n, c, rfl, h2, rfl⟩)
  · cases h1

theorem p_faddr (hr : OpdRel P ρ lm fr ev) {x : Operand} {x' : Opd} (hx : liftOpd P x = some x') {t : TypeId} {fs : Array Field} (ht : P.underlying t = some (.struct fs)) {i : Nat} {f : Field} (hf : fs[i]? = some f)
    {n : Nat} (hs : szOf P f.type = some n) (hn : n ≠ 0) {v : Value} (hv : (POp.faddr f.offset x').ev fr = some v) : ∃ u, (Instr.fieldAt t (ev x) i).run P w = .ok u w ∧ VRelF ρ lm v u := by
  simp only [POp.ev] at hv
  have h1 := hr x x' hx
  split at hv
  · rename_i a e
    rw [e] at h1
    obtain ⟨p', e2, hsp⟩ := h1.psome
    rw [e2] at h1 ⊢
    injection hv with hv; subst hv
    exact ⟨_, by simp [Instr.fieldAt, run_und ht, hf, Instr.sureAddr, fieldPlace, run_szOf hs, hn], h1.off _⟩
  · cases hv

theorem run_isAgg {t : TypeId} {n : Option Nat} (h : aggN P t = some n) (w : World) : (isAgg t).run P w = .ok n.isSome w ∧ ∃ k, szOf P t = some k ∧ (∀ j, n = some j → k = j) := by
  unfold aggN at h
  split at h
  · rename_i hu hs; injection h with h; subst h; exact ⟨by simp [isAgg, run_und hu], _, hs, fun j e => by injection e⟩
  · rename_i hu hs; injection h with h; subst h; exact ⟨by simp [isAgg, run_und hu], _, hs, fun j e => by injection e⟩
  · rename_i d k h1 h2 hu hs
    injection h with h
    subst h
    refine ⟨?_, _, hs, fun j e => by cases e⟩
    have hu' := run_und hu w
    unfold isAgg
    simp only [Sem.run_bind, hu', Result.andThen_ok]
    cases d with
    | struct fs => exact (h1 fs (by first | rfl | assumption)).elim
    | array l e => exact (h2 l e (by first | rfl | assumption)).elim
    | _ => rfl
  · cases h

theorem run_partA {t : TypeId} {n : Option Nat} (h : aggN P t = some n) {cs ds : Array Value} (hsz : cs.size = ds.size) (hrel : ∀ (i : Nat) x y, cs[i]? = some x → ds[i]? = some y → VRel ρ x y) {off : Nat} {v : Value}
    (hv : partA cs.toList off n = some v) : ∃ u, (part t ds off).run P w = .ok u w ∧ VRel ρ v u := by
  obtain ⟨ha, k, hk, hj⟩ := run_isAgg h w
  unfold part
  cases n with
  | none =>
    simp only [Option.isSome_none] at ha
    simp only [Sem.run_bind, ha, Result.andThen_ok, Bool.false_eq_true, if_false]
    simp only [partA] at hv
    have hlt : off < cs.size := by
      rcases Nat.lt_or_ge off cs.size with h' | h'
      · exact h'
      · rw [List.getElem?_eq_none (by simpa using h')] at hv; cases hv
    have hlt' : off < ds.size := by omega
    have e1 : cs[off]? = some v := by rw [← hv]; simp
    have e2 : ds[off]? = some ds[off] := by simp [hlt']
    exact ⟨ds[off], by rw [e2]; rfl, hrel off v _ e1 e2⟩
  | some n =>
    simp only [Option.isSome_some] at ha
    obtain rfl := hj n rfl
    simp only [Sem.run_bind, ha, Result.andThen_ok, if_true, run_szOf hk]
    simp only [partA] at hv
    split at hv
    · rename_i hle
      injection hv with hv; subst hv
      have hle : off + k ≤ cs.size := by simpa using hle
      refine ⟨_, rfl, .agg _ _ (by simp; omega) fun i x y hx hy => ?_⟩
      have hi : i < k := by
        have := (Array.getElem?_eq_some_iff.1 hx).1
        simp at this; omega
      refine hrel (off + i) x y ?_ ?_
      · have : ((cs.toList.drop off).take k)[i]? = some x := by simpa using hx
        rw [List.getElem?_take_of_lt hi, List.getElem?_drop] at this
        simpa using this
      · rw [Array.getElem?_extract] at hy
        split at hy
        · exact hy
        · cases hy
    · cases hv

theorem p_fld (hr : OpdRel P ρ lm fr ev) {x : Operand} {x' : Opd} (hx : liftOpd P x = some x') {t : TypeId} {fs : Array Field} (ht : P.underlying t = some (.struct fs)) {i : Nat} {f : Field} (hf : fs[i]? = some f)
    {n : Option Nat} (hs : aggN P f.type = some n) {v : Value} (hv : (POp.fld f.offset n x').ev fr = some v) : ∃ u, (Instr.field t (ev x) i).run P w = .ok u w ∧ VRelF ρ lm v u := by
  simp only [POp.ev] at hv
  have h1 := hr x x' hx
  split at hv
  · rename_i cs e
    rw [e] at h1
    obtain ⟨ds, e2, g1, g2⟩ := h1.agg
    rw [e2]
    obtain ⟨u, hu, hrel⟩ := run_partA (w := w) hs g1 g2 hv
    exact ⟨u, by simp [Instr.field, run_und ht, hf, asAgg, hu], .inl hrel⟩
  · cases hv

theorem p_iaddr (hr : OpdRel P ρ lm fr ev) {x i : Operand} {x' i' : Opd} (hx : liftOpd P x = some x') (hi : liftOpd P i = some i') {t e : TypeId} (ht : P.underlying t = some (.slice e)) {esz : Nat} (hs : szOf P e = some esz) {v : Value}
    (hv : (POp.iaddr esz x' i').ev fr = some v) (he : True) : ∃ u, (Instr.indexAt t (ev x) (ev i)).run P w = .ok u w ∧ VRelF ρ lm v u := by
  simp only [POp.ev] at hv
  have h1 := hr x x' hx
  have h2 := hr i i' hi
  split at hv
  · rename_i a n e0 k j e1 e2
    rw [e1] at h1; rw [e2] at h2
    rw [h2.int]
    split at hv
    · rename_i hb
      obtain ⟨b0, b1, hsp⟩ := hb
      injection hv with hv; subst hv
      have hx2 : VRel ρ (.slice (some a) n e0) (ev x) := by
        rcases h1 with g | ⟨_, _, _, g, _⟩ | ⟨nm, n1, e1, c, g, _⟩
        · exact g
        · cases g
        · injection g with g _ _; injection g with g; subst g; simp [loc] at hsp
      generalize ev x = u at hx2
      cases hx2 with
      | sl b o c δ N n e k h h1 h2 =>
        refine ⟨_, by simp [Instr.indexAt, asIntOf, run_und ht, b0, b1, run_szOf hs]; rfl, ?_⟩
        exact VRelF.off (.inl (.ptr b o c δ N h)) _
      | slZ a a' e => omega
    · cases hv
  · cases hv

theorem p_iaddrA (hr : OpdRel P ρ lm fr ev) {x i : Operand} {x' i' : Opd} (hx : liftOpd P x = some x') (hi : liftOpd P i = some i') {t e : TypeId} {len : Nat} (ht : P.underlying t = some (.array len e)) {esz : Nat} (hs : szOf P e = some esz) {v : Value}
    (hv : (POp.iaddrA len esz x' i').ev fr = some v) : ∃ u, (Instr.indexAt t (ev x) (ev i)).run P w = .ok u w ∧ VRelF ρ lm v u := by
  simp only [POp.ev] at hv
  have h1 := hr x x' hx
  have h2 := hr i i' hi
  split at hv
  · rename_i a k j e1 e2
    rw [e1] at h1; rw [e2] at h2
    rw [h2.int]
    obtain ⟨p', e3, hsp⟩ := h1.psome
    rw [e3] at h1 ⊢
    split at hv
    · rename_i hb
      obtain ⟨b0, b1⟩ := hb
      injection hv with hv; subst hv
      exact ⟨_, by simp [Instr.indexAt, asIntOf, run_und ht, b0, b1, run_szOf hs, Instr.sureAddr], h1.off _⟩
    · cases hv
  · cases hv

theorem p_idxS (hr : OpdRel P ρ lm fr ev) {x i : Operand} {x' i' : Opd} (hx : liftOpd P x = some x') (hi : liftOpd P i = some i') {t : TypeId} (ht : P.underlying t = some .string) {v : Value}
    (hv : (POp.idxS x' i').ev fr = some v) : ∃ u, (Instr.index t (ev x) (ev i)).run P w = .ok u w ∧ VRelF ρ lm v u := by
  simp only [POp.ev] at hv
  have h1 := hr x x' hx
  have h2 := hr i i' hi
  split at hv
  · rename_i s k j e1 e2
    rw [e1] at h1; rw [e2] at h2
    rw [h1.string, h2.int]
    split at hv
    · rename_i hb
      obtain ⟨b0, b1⟩ := hb
      injection hv with hv; subst hv
      have hg : s[j.toNat]? = some s[j.toNat] := by simp [b1]
      exact ⟨.int .u8 s[j.toNat].toNat, by simp [Instr.index, asIntOf, run_und ht, b0, hg], .inl (by rw [hg]; exact .int _ _)⟩
    · cases hv
  · cases hv

theorem p_idxA (hr : OpdRel P ρ lm fr ev) {x i : Operand} {x' i' : Opd} (hx : liftOpd P x = some x') (hi : liftOpd P i = some i') {t e : TypeId} {len : Nat} (ht : P.underlying t = some (.array len e)) {esz : Nat} (hs : szOf P e = some esz) {n : Option Nat}
    (ha : aggN P e = some n) {v : Value} (hv : (POp.idxA len esz n x' i').ev fr = some v) : ∃ u, (Instr.index t (ev x) (ev i)).run P w = .ok u w ∧ VRelF ρ lm v u := by
  simp only [POp.ev] at hv
  have h1 := hr x x' hx
  have h2 := hr i i' hi
  split at hv
  · rename_i cs k j e1 e2
    rw [e1] at h1; rw [e2] at h2
    rw [h2.int]
    obtain ⟨ds, e3, g1, g2⟩ := h1.agg
    rw [e3]
    split at hv
    · rename_i hb
      obtain ⟨b0, b1⟩ := hb
      obtain ⟨u, hu, hrel⟩ := run_partA (w := w) ha g1 g2 hv
      exact ⟨u, by simp [Instr.index, asIntOf, run_und ht, b0, b1, run_szOf hs, hu], .inl hrel⟩
    · cases hv
  · cases hv

theorem p_ext (hr : OpdRel P ρ lm fr ev) {x : Operand} {x' : Opd} (hx : liftOpd P x = some x') {i : Nat} {v : Value} (hv : (POp.ext i x').ev fr = some v) :
    ∃ u, (Instr.extract (ev x) i).run P w = .ok u w ∧ VRelF ρ lm v u := by
  simp only [POp.ev] at hv
  have h1 := hr x x' hx
  split at hv
  · rename_i vs e
    rw [e] at h1
    have h2 := h1.vrel (by simp) (by simp)
    generalize ev x = u at h2
    cases h2 with
    | undef => simp at hv
    | tuple cs ds g1 g2 =>
      have hlt := (Array.getElem?_eq_some_iff.1 hv).1
      have e2 : ds[i]? = some (ds[i]'(by omega)) := by simp
      exact ⟨_, by simp [Instr.extract, e2], .inl (g2 i v _ hv e2)⟩
  · cases hv

theorem p_len (hr : OpdRel P ρ lm fr ev) {x : Operand} {x' : Opd} (hx : liftOpd P x = some x') {t u e : TypeId} (ht : P.underlying t = some (.slice e)) {v : Value} (hv : (POp.len x').ev fr = some v) :
    ∃ y, (Builtin.len_ #[t] u #[ev x]).run P w = .ok y w ∧ VRelF ρ lm v y := by
  simp only [POp.ev] at hv
  have h1 := hr x x' hx
  split at hv
  · rename_i a n c e
    rw [e] at h1
    injection hv with hv; subst hv
    cases a with
    | none =>
      obtain ⟨e2, rfl, _⟩ := h1.snil
      rw [e2]
      exact ⟨_, by simp [Builtin.len_, run_und ht, goInt], .inl (.int _ _)⟩
    | some a =>
      obtain ⟨p, k, e2⟩ := h1.ssome
      rw [e2]
      exact ⟨_, by simp [Builtin.len_, run_und ht, goInt], .inl (.int _ _)⟩
  · cases hv
theorem p_slen (hr : OpdRel P ρ lm fr ev) {x : Operand} {x' : Opd} (hx : liftOpd P x = some x') {t u : TypeId} (ht : P.underlying t = some .string) {v : Value} (hv : (POp.slen x').ev fr = some v) :
    ∃ y, (Builtin.len_ #[t] u #[ev x]).run P w = .ok y w ∧ VRelF ρ lm v y := by
  simp only [POp.ev] at hv
  have h1 := hr x x' hx
  split at hv
  · rename_i s e
    rw [e] at h1
    rw [h1.string]
    injection hv with hv; subst hv
    exact ⟨_, by simp [Builtin.len_, run_und ht, goInt], .inl (.int _ _)⟩
  · cases hv

theorem run_mm2 {big : Bool} {x y v : Value} (h : mm2 big x y = some v) : (if big then Builtin.max2 x y else Builtin.min2 x y).run P w = .ok v w ∧ ∃ k n, v = .int k n := by
  unfold mm2 at h
  split at h
  · injection h with h; subst h
    cases big
    · exact ⟨rfl, _, _, rfl⟩
    · exact ⟨rfl, _, _, rfl⟩
  · cases h

theorem run_mmFold (big : Bool) : ∀ (xs xs' : List Value) (x : Value), (∃ k n, x = .int k n) → All2 (VRelF ρ lm) xs xs' → ∀ v, xs.foldlM (mm2 big) x = some v →
    (xs'.foldlM (if big then Builtin.max2 else Builtin.min2) x).run P w = .ok v w ∧ ∃ k n, v = .int k n
  | [], _, x, hx, h, v, hv => by cases h; simp at hv; subst hv; exact ⟨by simp, hx⟩
  | y :: ys, _, x, hx, h, v, hv => by
    cases h with
    | @cons _ y' _ ys' hy ht =>
      simp only [List.foldlM_cons, Option.bind_eq_bind] at hv
      obtain ⟨z, hz, hv2⟩ := Option.bind_eq_some_iff.1 hv
      have hyy : y' = y := by
        unfold mm2 at hz
        split at hz
        · exact hy.int
        · cases hz
      subst hyy
      obtain ⟨h1, h2⟩ := run_mm2 (P := P) (w := w) hz
      obtain ⟨h3, h4⟩ := run_mmFold big ys ys' z h2 ht v hv2
      refine ⟨?_, h4⟩
      simp only [List.foldlM_cons, Sem.run_bind]
      have : ((if big = true then Builtin.max2 else Builtin.min2) x y').run P w = .ok z w := by
        cases big <;> simpa using h1
      rw [this]
      exact h3

theorem p_mm (hr : OpdRel P ρ lm fr ev) {big : Bool} {xs : Array Operand} {ys : List Opd} (hx : liftOpds P xs = some ys) {v : Value} (hv : (POp.mm big ys).ev fr = some v) (ats : Array TypeId) (t : TypeId) :
    ∃ u, (if big then Builtin.max_ ats t (xs.map ev) else Builtin.min_ ats t (xs.map ev)).run P w = .ok u w ∧ VRelF ρ lm v u := by
  simp only [POp.ev] at hv
  have h := liftOpds_rel hr _ _ hx
  have e : (xs.map ev).toList = xs.toList.map ev := by simp
  generalize hl : xs.toList.map ev = l at h
  rw [hl] at e
  unfold mmA at hv
  split at hv
  · rename_i k n r ex
    rw [ex] at h
    cases h with
    | @cons _ x' _ r' hx' ht =>
      obtain rfl := hx'.int
      obtain ⟨h1, k', n', rfl⟩ := run_mmFold (P := P) (w := w) big r r' _ ⟨k, n, rfl⟩ ht v hv
      refine ⟨_, ?_, .inl (.int _ _)⟩
      cases big
      · simp only [Bool.false_eq_true, if_false, Builtin.min_, e] at h1 ⊢; exact h1
      · simp only [if_true, Builtin.max_, e] at h1 ⊢; exact h1
  · cases hv

end Go.Proofs.Ytanpdopjgepbkaa.AM
