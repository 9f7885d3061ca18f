/- Bootstrings: Encode: the rounds over the high runes; the whole. -/
import Derived.Test.YtmfpkgcphlilmaaBootE
set_option linter.unusedVariables false
set_option linter.unusedSimpArgs false
namespace Go.Proofs.Ytmfpkgcphlilmaa.AM
open Go

theorem wrd_len {p : BP} (ok : p.Ok) (bias : Nat) : ∀ (n k v : Nat), v ≤ n → (wrd p bias k v).length ≤ v + 1
  | n, k, v, hn => by
    have := thr_bound ok bias k
    by_cases hv : v < thr p bias k
    · rw [wrd_lt ok hv]; simp
    · rw [wrd_ge ok hv]
      have h2 := next_lt ok hv
      match n, hn with
      | 0, hn => omega
      | n + 1, hn =>
        have := wrd_len ok bias n (k + 1) _ (show (v - thr p bias k) / (p.base - thr p bias k) ≤ n by omega)
        simp only [List.length_cons]
        omega
theorem adL_bound {span lim : Nat} (hs : 2 ≤ span) : ∀ (f m v : Nat), v ≤ f → (adL span lim f m v).2 ≤ lim ∧ (adL span lim f m v).1 ≤ m + v
  | 0, m, v, h => by simp only [adL]; omega
  | f + 1, m, v, h => by
    simp only [adL]
    by_cases hl : lim < v
    · have : v / span < v := Nat.div_lt_self (by omega) (by omega)
      have ih := adL_bound hs (lim := lim) f (m + 1) (v / span) (by omega)
      rw [if_pos hl]
      omega
    · rw [if_neg hl]; simp only; omega
theorem adapt_bound {p : BP} (ok : p.Ok) (fst : Bool) (v cnt : Nat) (hv : v < 10000000000) : adapt p fst v cnt < 100000000000000 := by
  have h1 := ok.b1; have h2 := ok.b2; have h3 := ok.l1; have h4 := ok.l2; have h5 := ok.h1; have h8 := ok.d1
  unfold adapt
  simp only
  obtain ⟨v1, e1⟩ : ∃ v1, v1 = if fst = true then v / p.damp else v / 2 := ⟨_, rfl⟩
  rw [← e1]
  have hv1 : v1 ≤ v := by
    rw [e1]
    split
    · exact Nat.div_le_self _ _
    · exact Nat.div_le_self _ _
  have hv2 : v1 + v1 / cnt ≤ 2 * v1 := by have := Nat.div_le_self v1 cnt; omega
  generalize v1 + v1 / cnt = v2 at hv2
  have hb := adL_bound (span := p.base - p.low) (lim := (p.base - p.low) * p.high / 2) (by omega) v2 0 v2 (Nat.le_refl _)
  generalize adL (p.base - p.low) ((p.base - p.low) * p.high / 2) v2 0 v2 = r at hb
  have hsh : (p.base - p.low) * p.high ≤ 36 * 36 := Nat.mul_le_mul (by omega) (by omega)
  have a1 : r.1 * p.base ≤ 20000000000 * 36 := Nat.mul_le_mul (by omega) h2
  have a2 : (p.base - p.low + 1) * r.2 / (r.2 + p.skew) ≤ (p.base - p.low + 1) * r.2 := Nat.div_le_self _ _
  have a3 : (p.base - p.low + 1) * r.2 ≤ 37 * 648 := Nat.mul_le_mul (by omega) (by omega)
  omega

/-! ### Keys are compared -/

def cmpF (x y : Int) : Int := if x < y then -1 else if y < x then 1 else 0
theorem isNaNr_eq (n : Int) (h : AH) : callO PX 55 [.int .i32 n] h = some (.bool false, h) := by
  apply WpC.eqn
  refine wpc_fn (px_ext rfl) (px_fn fn_cmp_isNaN_rune) rfl ?_
  unfold LF_cmp_isNaN_rune
  simp only [argFr]
  (repeat' first
    | (show WpR _ _ _ _ _ _ _ _ _
       first
       | refine wpr_drop ?_
       | refine wpr_p (o := .mv _) (by simp only [ev_mv, opd_s, opd_c, fget, Nat.reduceEqDiff, Nat.one_ne_zero, Nat.zero_ne_one, reduceCtorEq, ↓reduceIte]; rfl) ?_
       | (refine wpr_fork (fun _ => ?_) (fun _ => ?_) <;> try (exfalso; omega))
       | (refine wpr_forkN (fun _ => ?_) (fun _ => ?_) <;> try (exfalso; omega))
       | refine wpr_run rfl ?_
       | refine wpr_pass rfl rfl ?_
       | refine wpr_passS rfl ?_
       | ((first | apply wpr_p | apply wpr_r | apply wpr_callA | apply wpr_callA0 | apply wpr_e0 | apply wpr_e | apply wpr_end0); focus ((try simp (disch := omega) only [push_cast, Nat.reduceEqDiff, ↓reduceIte, reduceCtorEq, Nat.reduceAdd, Nat.reduceMul, Nat.reduceLeDiff]); rfl))
       | refine wpr_pass0 rfl rfl ?_
       | refine wpr_pass0S rfl ?_
       | (apply wpr_end; (focus ((try simp (disch := omega) only [push_cast, Nat.reduceEqDiff, ↓reduceIte, reduceCtorEq, Nat.reduceAdd, Nat.reduceMul, Nat.reduceLeDiff]); rfl)); (focus (simp (disch := omega) only [push_cast, Nat.reduceEqDiff, ↓reduceIte, reduceCtorEq, Nat.reduceAdd, Nat.reduceMul, Nat.reduceLeDiff]; done)))
       | fail)
    | (show Wp _ _ _ _ _ _
       first
       | refine wp_seq ?_
       | refine wp_region0 ?_
       | refine wp_region ?_
       | refine wp_cond_t rfl ?_
       | refine wp_cond_f rfl ?_
       | refine wp_ret ?_
       | refine wp_skip ?_
       | refine wp_exit ?_
       | refine wp_block ?_
       | fail)
    | refine thenQ_norm ?_
    | refine thenQ_ret ?_
    | refine thenQ_exit ?_
    | refine blockQ_norm ?_
    | refine blockQ_ret ?_
    | refine blockQ_same ?_
    | refine blockQ_ne rfl ?_
    | refine loopQ_norm ?_
    | refine loopQ_ret ?_
    | refine loopQ_exit ?_
    | ((first | apply retQ_ret | apply retQ_norm | apply wpc_of); focus ((try simp (disch := omega) only [push_cast, Nat.reduceEqDiff, ↓reduceIte, reduceCtorEq, Nat.reduceAdd, Nat.reduceMul, Nat.reduceLeDiff]); rfl))
    | fail)
  all_goals exact ⟨rfl, rfl⟩
theorem compareR_eq (x y : Int) (h : AH) : callO PX 32 [.int .i32 x, .int .i32 y] h = some (.int .i64 (cmpF x y), h) := by
  have e := fun n => isNaNr_eq n
  apply WpC.eqn
  refine wpc_fn (px_ext rfl) (px_fn fn_cmp_Compare_rune) rfl ?_
  unfold LF_cmp_Compare_rune
  simp only [argFr]
  (repeat' first
    | (show WpR _ _ _ _ _ _ _ _ _
       first
       | refine wpr_drop ?_
       | refine wpr_p (o := .mv _) (by simp only [ev_mv, opd_s, opd_c, fget, Nat.reduceEqDiff, Nat.one_ne_zero, Nat.zero_ne_one, reduceCtorEq, ↓reduceIte]; rfl) ?_
       | (refine wpr_fork (fun _ => ?_) (fun _ => ?_) <;> try (exfalso; omega))
       | (refine wpr_forkN (fun _ => ?_) (fun _ => ?_) <;> try (exfalso; omega))
       | refine wpr_run rfl ?_
       | refine wpr_pass rfl rfl ?_
       | refine wpr_passS rfl ?_
       | ((first | apply wpr_p | apply wpr_r | apply wpr_callA | apply wpr_callA0 | apply wpr_e0 | apply wpr_e | apply wpr_end0); focus ((try simp (disch := omega) only [push_cast, Nat.reduceEqDiff, ↓reduceIte, reduceCtorEq, Nat.reduceAdd, Nat.reduceMul, Nat.reduceLeDiff, e]); rfl))
       | refine wpr_pass0 rfl rfl ?_
       | refine wpr_pass0S rfl ?_
       | (apply wpr_end; (focus ((try simp (disch := omega) only [push_cast, Nat.reduceEqDiff, ↓reduceIte, reduceCtorEq, Nat.reduceAdd, Nat.reduceMul, Nat.reduceLeDiff, e]); rfl)); (focus (simp (disch := omega) only [push_cast, Nat.reduceEqDiff, ↓reduceIte, reduceCtorEq, Nat.reduceAdd, Nat.reduceMul, Nat.reduceLeDiff, e]; done)))
       | fail)
    | (show Wp _ _ _ _ _ _
       first
       | refine wp_seq ?_
       | refine wp_region0 ?_
       | refine wp_region ?_
       | refine wp_cond_t rfl ?_
       | refine wp_cond_f rfl ?_
       | refine wp_ret ?_
       | refine wp_skip ?_
       | refine wp_exit ?_
       | refine wp_block ?_
       | fail)
    | refine thenQ_norm ?_
    | refine thenQ_ret ?_
    | refine thenQ_exit ?_
    | refine blockQ_norm ?_
    | refine blockQ_ret ?_
    | refine blockQ_same ?_
    | refine blockQ_ne rfl ?_
    | refine loopQ_norm ?_
    | refine loopQ_ret ?_
    | refine loopQ_exit ?_
    | ((first | apply retQ_ret | apply retQ_norm | apply wpc_of); focus ((try simp (disch := omega) only [push_cast, Nat.reduceEqDiff, ↓reduceIte, reduceCtorEq, Nat.reduceAdd, Nat.reduceMul, Nat.reduceLeDiff, e]); rfl))
    | fail)
  all_goals (refine ⟨?_, rfl⟩; unfold cmpF; congr 1; (repeat' split) <;> omega)

theorem cmp_boot (q : Pl) : CmpS q spV (fun x => .agg (spV x).toArray) (.func (.func 31) #[] #[]) (fun x : Nat × Nat => (x.1 : Int)) where
  len := fun x => rfl
  cells := fun x => rfl
  ok := fun x => rfl
  okv := fun x => rfl
  cvf := ⟨_, .inl rfl⟩
  run := fun x y D => by
    refine ⟨cmpF x.1 y.1, ?_, by unfold cmpF; (repeat' split) <;> omega, by unfold cmpF; (repeat' split) <;> omega, by unfold cmpF; (repeat' split) <;> omega⟩
    have e := fun a b => compareR_eq a b
    show callO PX 31 [.agg (spV x).toArray, .agg (spV y).toArray] _ = _
    apply WpC.eqn
    refine wpc_fn (px_ext rfl) (px_fn fn_boot_Encode_1) rfl ?_
    unfold LF_boot_Encode_1 spV
    simp only [argFr]
    (repeat' first
    | (show WpR _ _ _ _ _ _ _ _ _
       first
       | refine wpr_drop ?_
       | refine wpr_p (o := .mv _) (by simp only [ev_mv, opd_s, opd_c, fget, Nat.reduceEqDiff, Nat.one_ne_zero, Nat.zero_ne_one, reduceCtorEq, ↓reduceIte]; rfl) ?_
       | (refine wpr_fork (fun _ => ?_) (fun _ => ?_) <;> try (exfalso; omega))
       | (refine wpr_forkN (fun _ => ?_) (fun _ => ?_) <;> try (exfalso; omega))
       | refine wpr_run rfl ?_
       | refine wpr_pass rfl rfl ?_
       | refine wpr_passS rfl ?_
       | ((first | apply wpr_p | apply wpr_r | apply wpr_callA | apply wpr_callA0 | apply wpr_e0 | apply wpr_e | apply wpr_end0); focus ((try simp (disch := omega) only [push_cast, Nat.reduceEqDiff, ↓reduceIte, reduceCtorEq, Nat.reduceAdd, Nat.reduceMul, Nat.reduceLeDiff, e]); rfl))
       | refine wpr_pass0 rfl rfl ?_
       | refine wpr_pass0S rfl ?_
       | (apply wpr_end; (focus ((try simp (disch := omega) only [push_cast, Nat.reduceEqDiff, ↓reduceIte, reduceCtorEq, Nat.reduceAdd, Nat.reduceMul, Nat.reduceLeDiff, e]); rfl)); (focus (simp (disch := omega) only [push_cast, Nat.reduceEqDiff, ↓reduceIte, reduceCtorEq, Nat.reduceAdd, Nat.reduceMul, Nat.reduceLeDiff, e]; done)))
       | fail)
    | (show Wp _ _ _ _ _ _
       first
       | refine wp_seq ?_
       | refine wp_region0 ?_
       | refine wp_region ?_
       | refine wp_cond_t rfl ?_
       | refine wp_cond_f rfl ?_
       | refine wp_ret ?_
       | refine wp_skip ?_
       | refine wp_exit ?_
       | refine wp_block ?_
       | fail)
    | refine thenQ_norm ?_
    | refine thenQ_ret ?_
    | refine thenQ_exit ?_
    | refine blockQ_norm ?_
    | refine blockQ_ret ?_
    | refine blockQ_same ?_
    | refine blockQ_ne rfl ?_
    | refine loopQ_norm ?_
    | refine loopQ_ret ?_
    | refine loopQ_exit ?_
    | ((first | apply retQ_ret | apply retQ_norm | apply wpc_of); focus ((try simp (disch := omega) only [push_cast, Nat.reduceEqDiff, ↓reduceIte, reduceCtorEq, Nat.reduceAdd, Nat.reduceMul, Nat.reduceLeDiff, e]); rfl))
    | fail)
    exact ⟨rfl, rfl⟩
  vw := fun x => rfl
  rdw := trivial

instance : Inhabited (Nat × Nat) := ⟨(0, 0)⟩

/-- The high runes are put into order. -/
theorem sort_highs {first : Nat} {R : List Nat} {h : AH} {sh : Sl} (ho : Own h 2 sh ((highsOf first 0 R).map spV)) (hl : (highsOf first 0 R).length < 1000000000) (he : highsOf first 0 R = [] → sh = .nil) :
    ∃ h', callO PX 30 [sh.val 2, .func (.func 31) #[] #[]] h = some (.tuple #[], h') ∧ Reads h' 2 sh ((sortH (highsOf first 0 R)).map spV) ∧ h'.n = h.n ∧ ∀ b, sh.blk ≠ some b → h'.get b = h.get b := by
  cases hs : sh with
  | nil =>
    subst hs
    have h0 : highsOf first 0 R = [] := by
      have := ho.1
      simp only [Sl.len, List.length_map] at this
      exact List.eq_nil_of_length_eq_zero this.symm
    rw [h0]
    exact ⟨h, stable_nil ⟨_, _, _, rfl⟩ h, ⟨by simp [sortH, Sl.len], by simp [sortH], trivial⟩, rfl, fun _ _ => rfl⟩
  | «at» b o n =>
    subst hs
    obtain ⟨h1, h2, pre, h3, h4⟩ := ho
    simp only [Sl.len, List.length_map] at h1
    let q : Pl := ⟨h, b, pre, [], AH.get_lt h3⟩
    have hH : q.H spV (highsOf first 0 R) = h := by
      show h.set b (.cells false (pre ++ ((highsOf first 0 R).map spV).flatten ++ [])) = h
      rw [List.append_nil]
      exact AH.set_self h3
    obtain ⟨Z, z1, z2, z3⟩ := sortStable_eq (idx := fun x : Nat × Nat => (x.2 : Int)) (cmp_boot q) (O := highsOf first 0 R) (n := (highsOf first 0 R).length) rfl hl ((highs_sorted first R 0).imp fun h => Int.ofNat_lt.2 h)
    have hZ : Z = sortH (highsOf first 0 R) := by
      refine sorted_eq lex_asym (z2.imp fun h => ?_) (sortH_sorted (highs_sorted _ _ _)) fun x => ?_
      · unfold ltK at h
        simp only at h
        unfold lexlt
        omega
      · rw [(sortH_perm _).mem_iff, z1.mem_iff]
    have hqs : q.s (highsOf first 0 R).length = .at b o n := by
      show Sl.at b pre.length _ = _
      rw [h4, h1]
    rw [hH, hqs, hZ] at z3
    refine ⟨_, z3, ?_, rfl, fun b' hb => AH.get_set_ne _ (fun e => hb (by rw [e]; rfl))⟩
    have hrd := q.reads (enc := spV) (e := 2) (fun x => rfl) (sortH (highsOf first 0 R))
    have hlen : (sortH (highsOf first 0 R)).length = (highsOf first 0 R).length := (sortH_perm _).length_eq
    rw [hlen, hqs] at hrd
    exact hrd

/-! ### The rounds over the high runes -/

/-- What is kept in the second loop. bx: the state's block. -/
structure EncL (h : AH) (p : BP) (L : Nat → Nat) (Z : List (Nat × Nat)) (total : Bytes) (bx : Nat) (sh : Sl) (i : Nat) (B : Bytes) (T : List Nat) (bias n j many : Nat) (h1 : AH) (so st : Sl) : Prop where
  kp : ∀ b, b < h.n → h1.get b = h.get b
  g1 : h1.get (h.n + 1) = some (.cells false [.string ⟨#[]⟩])
  g2 : h1.get (h.n + 2) = some (.cells false [.int .i64 0])
  g3 : h1.get (h.n + 3) = some (.cells false [so.val 1])
  g6 : h1.get (h.n + 6) = some (.cells false [st.val 1])
  gs : h1.get bx = some (.cells false (stV p bias n j many))
  rz : Reads h1 2 sh (Z.map spV)
  o1 : Own h1 1 so (B.map byteV)
  o3 : Own h1 1 st (T.map intV)
  bxn : h.n + 7 < bx
  b1 : ∀ b, so.blk = some b → h.n + 7 < b ∧ b ≠ bx ∧ sh.blk ≠ some b ∧ st.blk ≠ some b
  b2 : ∀ b, sh.blk = some b → h.n + 7 < b ∧ b ≠ bx ∧ b < h1.n
  b3 : ∀ b, st.blk = some b → h.n + 7 < b ∧ b ≠ bx ∧ sh.blk ≠ some b
  eq : B ++ encH p T n j bias (many == 0) (Z.drop i) = total
  hi : ∀ z ∈ Z.drop i, Hi L T n j z
  le : i ≤ Z.length
  Ts : T.Pairwise (· < ·)
  Tl : T.length + (Z.length - i) ≤ 4096
  jl : j ≤ T.length
  nl : n ≤ 0x10ffff
  ml : many ≤ i
  bl : bias < 1000000000000000
  Bl : B.length ≤ 70000

def encFr2 (c bx len : Nat) (sh : Sl) (i : Int) : Fr :=
  [(4, .pointer (some ⟨c + 1, 0, none⟩)), (5, .pointer (some ⟨c + 2, 0, none⟩)), (6, .pointer (some ⟨c + 3, 0, none⟩)), (9, .pointer (some ⟨c + 6, 0, none⟩)), (12, .pointer (some ⟨bx, 0, none⟩)), (75, sh.val 2), (76, .int .i64 len), (77, .int .i64 i)]

def encLoop : LCode := match LF_boot_Encode.body with
  | .seq _ (.seq _ (.seq _ (.seq _ (.seq _ (.seq _ (.seq _ (.seq _ (.seq _ (.seq _ (.seq (.seq _ (.block _ (.loop b))) _)))))))))) => b
  | _ => .skip

set_option maxHeartbeats 8000000 in
theorem enc_turn {p : BP} (ok : p.Ok) {h : AH} {L : Nat → Nat} {Z : List (Nat × Nat)} (hZ : Z.Pairwise lexlt) (hZl : Z.length ≤ 4096) {total : Bytes} {bx : Nat} {sh : Sl} {i : Nat} {B : Bytes} {T : List Nat} {bias n j many : Nat} {h1 : AH} {so st : Sl}
    (e : EncL h p L Z total bx sh i B T bias n j many h1 so st) (hi : i < Z.length) :
    Wp PX encLoop (encFr2 h.n bx Z.length sh i) [] h1 fun ex fr lc h3 => match ex with
      | .norm => lc = [] ∧ fr = encFr2 h.n bx Z.length sh ((i + 1 : Nat) : Int) ∧ ∃ B' T' bias' n' j' many' so' st', EncL h p L Z total bx sh (i + 1) B' T' bias' n' j' many' h3 so' st' ∧ B'.length ≤ 65536
      | ex => ex = .ret ∧ 65536 < total.length ∧ fr = [(4, .pointer (some ⟨h.n + 1, 0, none⟩)), (5, .pointer (some ⟨h.n + 2, 0, none⟩))] ∧ lc = [] ∧ EncG h 3 h3 := by
  obtain ⟨kp, g1, g2, g3, g6, gs, rz, o1, o3, bxn, b1, b2, b3, eq, hiz, le, Ts, Tl, jl, nl, ml, bl, Bl⟩ := e
  have hdr : Z.drop i = Z[i] :: Z.drop (i + 1) := List.drop_eq_getElem_cons hi
  have hshl : sh.len = Z.length := by simpa using rz.1
  have hrz : ∀ lc, Mem.rd ⟨lc, h1⟩ (sh.adr 2 i) 2 = some (spV Z[i]) := fun lc => rd_map rz hi
  have hpz : ∀ z ∈ Z.drop (i + 1), lexlt Z[i] z := by
    have := hZ.sublist (List.drop_sublist i Z)
    rw [hdr] at this
    exact (List.pairwise_cons.1 this).1
  rw [hdr] at eq hiz
  generalize Z[i] = z at hrz eq hiz hpz
  have hz := hiz z (by simp)
  have hzr : z.1 ≤ 0x10ffff := by have := hz.ok; unfold RuneN at this; omega
  have hTl : T.length ≤ 4095 := by omega
  have hrk := rank_le z.2 T
  -- the number
  obtain ⟨M, hM⟩ : ∃ M, M = (z.1 - n) * (T.length + 1) := ⟨_, rfl⟩
  have hMl : M ≤ 1114111 * 4096 := by rw [hM]; exact Nat.mul_le_mul (by omega) (by omega)
  have hzn : ((z.1 : Int) - (n : Int)) = ((z.1 - n : Nat) : Int) := by have := hz.le; omega
  have hMi : ((z.1 : Int) - (n : Int)) * ((T.length : Int) + 1) = (M : Int) := by rw [hzn, hM]; push_cast; first | done | rfl
  have hVge : j ≤ M + rank T z.2 := by
    rcases Nat.eq_or_lt_of_le hz.le with e | e
    · have := hz.same e.symm; omega
    · have : T.length + 1 ≤ M := by rw [hM]; exact Nat.le_mul_of_pos_left _ (by omega)
      omega
  obtain ⟨V, hV⟩ : ∃ V, V = encV T n j z := ⟨_, rfl⟩
  have hV2 : V = M + rank T z.2 - j := by rw [hV, hM]; rfl
  have hVi : (M : Int) + (rank T z.2 : Int) - (j : Int) = (V : Int) := by omega
  have hVl : V < 10000000000 := by omega
  simp only [encH] at eq
  rw [← hV] at eq
  have hsr := search_eq o3.reads Ts (by omega) z.2 hz.new
  have hstl : st.len = T.length := by simpa using o3.1
  unfold stV at gs
  unfold encLoop encFr2
  unfold LF_boot_Encode
  simp only
  unfold spV at hrz
  (repeat' first
    | (show WpR _ _ _ _ _ _ _ _ _
       first
       | refine wpr_drop ?_
       | refine wpr_p (o := .mv _) (by simp only [ev_mv, opd_s, opd_c, fget, Nat.reduceEqDiff, Nat.one_ne_zero, Nat.zero_ne_one, reduceCtorEq, ↓reduceIte]; rfl) ?_
       | (refine wpr_fork (fun _ => ?_) (fun _ => ?_) <;> try (exfalso; omega))
       | (refine wpr_forkN (fun _ => ?_) (fun _ => ?_) <;> try (exfalso; omega))
       | refine wpr_run rfl ?_
       | refine wpr_pass rfl rfl ?_
       | refine wpr_passS rfl ?_
       | ((first | apply wpr_p | apply wpr_r | apply wpr_callA | apply wpr_callA0 | apply wpr_e0 | apply wpr_e | apply wpr_end0); focus ((try simp (disch := first | omega | (simp only [AH.nn_push, AH.nn_set, AH.nn_kill]; omega) | (simp only [AH.nn_push, AH.nn_set, AH.nn_kill]; done) | fail) only [push_cast, Nat.reduceEqDiff, ↓reduceIte, reduceCtorEq, Nat.reduceAdd, Nat.reduceMul, Nat.reduceLeDiff, AH.get_push_eq, AH.get_push_ne, AH.get_set_eq, AH.get_set_ne, AH.push_n, AH.set_n, hshl, hrz, g3, g6, gs, hsr, hstl, hMi, hVi]); rfl))
       | refine wpr_pass0 rfl rfl ?_
       | refine wpr_pass0S rfl ?_
       | (apply wpr_callvA; focus ((try simp (disch := first | omega | (simp only [AH.nn_push, AH.nn_set, AH.nn_kill]; omega) | (simp only [AH.nn_push, AH.nn_set, AH.nn_kill]; done) | fail) only [push_cast, Nat.reduceEqDiff, ↓reduceIte, reduceCtorEq, Nat.reduceAdd, Nat.reduceMul, Nat.reduceLeDiff, AH.get_push_eq, AH.get_push_ne, AH.get_set_eq, AH.get_set_ne, AH.push_n, AH.set_n, hshl, hrz, g3, g6, gs, hsr, hstl, hMi, hVi]); rfl))
       | (apply wpr_end; (focus ((try simp (disch := first | omega | (simp only [AH.nn_push, AH.nn_set, AH.nn_kill]; omega) | (simp only [AH.nn_push, AH.nn_set, AH.nn_kill]; done) | fail) only [push_cast, Nat.reduceEqDiff, ↓reduceIte, reduceCtorEq, Nat.reduceAdd, Nat.reduceMul, Nat.reduceLeDiff, AH.get_push_eq, AH.get_push_ne, AH.get_set_eq, AH.get_set_ne, AH.push_n, AH.set_n, hshl, hrz, g3, g6, gs, hsr, hstl, hMi, hVi]); rfl)); (focus (simp (disch := first | omega | (simp only [AH.nn_push, AH.nn_set, AH.nn_kill]; omega) | (simp only [AH.nn_push, AH.nn_set, AH.nn_kill]; done) | fail) only [push_cast, Nat.reduceEqDiff, ↓reduceIte, reduceCtorEq, Nat.reduceAdd, Nat.reduceMul, Nat.reduceLeDiff, AH.get_push_eq, AH.get_push_ne, AH.get_set_eq, AH.get_set_ne, AH.push_n, AH.set_n, hshl, hrz, g3, g6, gs, hsr, hstl, hMi, hVi]; done)))
       | fail)
    | (show Wp _ _ _ _ _ _
       first
       | refine wp_seq ?_
       | refine wp_region0 ?_
       | refine wp_region ?_
       | refine wp_cond_t rfl ?_
       | refine wp_cond_f rfl ?_
       | refine wp_ret ?_
       | refine wp_skip ?_
       | refine wp_exit ?_
       | refine wp_block ?_
       | fail)
    | refine thenQ_norm ?_
    | refine thenQ_ret ?_
    | refine thenQ_exit ?_
    | refine blockQ_norm ?_
    | refine blockQ_ret ?_
    | refine blockQ_same ?_
    | refine blockQ_ne rfl ?_
    | refine loopQ_norm ?_
    | refine loopQ_ret ?_
    | refine loopQ_exit ?_
    | ((first | apply retQ_ret | apply retQ_norm | apply wpc_of); focus ((try simp (disch := first | omega | (simp only [AH.nn_push, AH.nn_set, AH.nn_kill]; omega) | (simp only [AH.nn_push, AH.nn_set, AH.nn_kill]; done) | fail) only [push_cast, Nat.reduceEqDiff, ↓reduceIte, reduceCtorEq, Nat.reduceAdd, Nat.reduceMul, Nat.reduceLeDiff, AH.get_push_eq, AH.get_push_ne, AH.get_set_eq, AH.get_set_ne, AH.push_n, AH.set_n, hshl, hrz, g3, g6, gs, hsr, hstl, hMi, hVi]); rfl))
    | fail)
  -- the digits
  refine (write_spec ok gs bl hVl o1 (fun g => (b1 _ g).2.1 rfl) (by omega)).mono ?_
  rintro v h2 ⟨so2, rfl, os2, gr, nb, hnb, hnb2⟩
  have l1 := AH.get_lt g1; have l2 := AH.get_lt g2; have l3 := AH.get_lt g3; have l6 := AH.get_lt g6; have ls := AH.get_lt gs
  have nso : ∀ k, k ≤ 7 → so.blk ≠ some (h.n + k) := fun k hk g => by have := (b1 _ g).1; omega
  have nst : ∀ k, k ≤ 7 → st.blk ≠ some (h.n + k) := fun k hk g => by have := (b3 _ g).1; omega
  have k1 := (gr.keep _ l1 (nso 1 (by omega))).trans g1
  have k2 := (gr.keep _ l2 (nso 2 (by omega))).trans g2
  have k3 := (gr.keep _ l3 (nso 3 (by omega))).trans g3
  have k6 := (gr.keep _ l6 (nso 6 (by omega))).trans g6
  have ks := (gr.keep _ ls (fun g => (b1 _ g).2.1 rfl)).trans gs
  have kz : Reads h2 2 sh (Z.map spV) := rz.keep fun b hb => gr.keep b (b2 b hb).2.2 (fun g => (b1 b g).2.2.1 hb)
  have ko3 : Own h2 1 st (T.map intV) := o3.keep fun b hb => gr.keep b (o3.lt hb) (fun g => (b1 b g).2.2.2 hb)
  have hn2 := gr.n
  (repeat' first
    | (show WpR _ _ _ _ _ _ _ _ _
       first
       | refine wpr_drop ?_
       | refine wpr_p (o := .mv _) (by simp only [ev_mv, opd_s, opd_c, fget, Nat.reduceEqDiff, Nat.one_ne_zero, Nat.zero_ne_one, reduceCtorEq, ↓reduceIte]; rfl) ?_
       | (refine wpr_fork (fun _ => ?_) (fun _ => ?_) <;> try (exfalso; omega))
       | (refine wpr_forkN (fun _ => ?_) (fun _ => ?_) <;> try (exfalso; omega))
       | refine wpr_run rfl ?_
       | refine wpr_pass rfl rfl ?_
       | refine wpr_passS rfl ?_
       | ((first | apply wpr_p | apply wpr_r | apply wpr_callA | apply wpr_callA0 | apply wpr_e0 | apply wpr_e | apply wpr_end0); focus ((try simp (disch := first | omega | (simp only [AH.nn_push, AH.nn_set, AH.nn_kill]; omega) | (simp only [AH.nn_push, AH.nn_set, AH.nn_kill]; done) | fail) only [push_cast, Nat.reduceEqDiff, ↓reduceIte, reduceCtorEq, Nat.reduceAdd, Nat.reduceMul, Nat.reduceLeDiff, AH.get_push_eq, AH.get_push_ne, AH.get_set_eq, AH.get_set_ne, AH.push_n, AH.set_n, k3, k6, hstl]); rfl))
       | refine wpr_pass0 rfl rfl ?_
       | refine wpr_pass0S rfl ?_
       | (apply wpr_callvA; focus ((try simp (disch := first | omega | (simp only [AH.nn_push, AH.nn_set, AH.nn_kill]; omega) | (simp only [AH.nn_push, AH.nn_set, AH.nn_kill]; done) | fail) only [push_cast, Nat.reduceEqDiff, ↓reduceIte, reduceCtorEq, Nat.reduceAdd, Nat.reduceMul, Nat.reduceLeDiff, AH.get_push_eq, AH.get_push_ne, AH.get_set_eq, AH.get_set_ne, AH.push_n, AH.set_n, k3, k6, hstl]); rfl))
       | (apply wpr_end; (focus ((try simp (disch := first | omega | (simp only [AH.nn_push, AH.nn_set, AH.nn_kill]; omega) | (simp only [AH.nn_push, AH.nn_set, AH.nn_kill]; done) | fail) only [push_cast, Nat.reduceEqDiff, ↓reduceIte, reduceCtorEq, Nat.reduceAdd, Nat.reduceMul, Nat.reduceLeDiff, AH.get_push_eq, AH.get_push_ne, AH.get_set_eq, AH.get_set_ne, AH.push_n, AH.set_n, k3, k6, hstl]); rfl)); (focus (simp (disch := first | omega | (simp only [AH.nn_push, AH.nn_set, AH.nn_kill]; omega) | (simp only [AH.nn_push, AH.nn_set, AH.nn_kill]; done) | fail) only [push_cast, Nat.reduceEqDiff, ↓reduceIte, reduceCtorEq, Nat.reduceAdd, Nat.reduceMul, Nat.reduceLeDiff, AH.get_push_eq, AH.get_push_ne, AH.get_set_eq, AH.get_set_ne, AH.push_n, AH.set_n, k3, k6, hstl]; done)))
       | fail)
    | (show Wp _ _ _ _ _ _
       first
       | refine wp_seq ?_
       | refine wp_region0 ?_
       | refine wp_region ?_
       | refine wp_cond_t rfl ?_
       | refine wp_cond_f rfl ?_
       | refine wp_ret ?_
       | refine wp_skip ?_
       | refine wp_exit ?_
       | refine wp_block ?_
       | fail)
    | refine thenQ_norm ?_
    | refine thenQ_ret ?_
    | refine thenQ_exit ?_
    | refine blockQ_norm ?_
    | refine blockQ_ret ?_
    | refine blockQ_same ?_
    | refine blockQ_ne rfl ?_
    | refine loopQ_norm ?_
    | refine loopQ_ret ?_
    | refine loopQ_exit ?_
    | ((first | apply retQ_ret | apply retQ_norm | apply wpc_of); focus ((try simp (disch := first | omega | (simp only [AH.nn_push, AH.nn_set, AH.nn_kill]; omega) | (simp only [AH.nn_push, AH.nn_set, AH.nn_kill]; done) | fail) only [push_cast, Nat.reduceEqDiff, ↓reduceIte, reduceCtorEq, Nat.reduceAdd, Nat.reduceMul, Nat.reduceLeDiff, AH.get_push_eq, AH.get_push_ne, AH.get_set_eq, AH.get_set_ne, AH.push_n, AH.set_n, k3, k6, hstl]); rfl))
    | fail)
  -- a place is laid in
  obtain ⟨h3, eh3⟩ : ∃ h3, h3 = (h2.set (h.n + 3) (.cells false [so2.val 1])).push (.cells false [.int .i64 z.2]) := ⟨_, rfl⟩
  have n3 : h3.n = h2.n + 1 := by rw [eh3]; rfl
  have m3 : ∀ b, b < h2.n → b ≠ h.n + 3 → h3.get b = h2.get b := fun b hb hne => by rw [eh3, AH.get_push_ne _ (by rw [AH.set_n]; omega), AH.get_set_ne _ hne]
  have m33 : h3.get (h.n + 3) = some (.cells false [so2.val 1]) := by rw [eh3, AH.get_push_ne _ (by rw [AH.set_n]; omega)]; exact AH.get_set_same _ (by omega)
  have m3v : h3.get h2.n = some (.cells false [.int .i64 z.2]) := by rw [eh3]; exact AH.get_push_eq (by rw [AH.set_n])
  rw [← eh3]
  have ko3' : Own h3 1 st (T.map intV) := ko3.keep fun b hb => m3 b (ko3.lt hb) (by have := (b3 b hb).1; omega)
  obtain ⟨st2, h4, ei, ot2, eb4, n4, lt2, kp4⟩ := ins_spec (f := 36) (bytes := 8) (px_at rfl) (g := fun n => .int .i64 n) (fun n => rfl) (s := st) (l := T) ko3' (i := rank T z.2) hrk z.2 (vb := h2.n) m3v (fun g => by have := ko3.lt g; omega) (by omega)
  have k41 := ((kp4 _ (by omega) (nst 1 (by omega))).trans (m3 _ (by omega) (by omega))).trans k1
  have k42 := ((kp4 _ (by omega) (nst 2 (by omega))).trans (m3 _ (by omega) (by omega))).trans k2
  have k43 := (kp4 _ (by omega) (nst 3 (by omega))).trans m33
  have k46 := ((kp4 _ (by omega) (nst 6 (by omega))).trans (m3 _ (by omega) (by omega))).trans k6
  have k4s := ((kp4 _ (by omega) (fun g => (b3 _ g).2.1 rfl)).trans (m3 _ (by omega) (by omega))).trans ks
  have hins : T.insertIdx (rank T z.2) z.2 = ins T z.2 := by have := ins_map (fun x => x) z.2 T; simpa using this
  rw [hins] at ot2
  (repeat' first
    | (show WpR _ _ _ _ _ _ _ _ _
       first
       | refine wpr_drop ?_
       | refine wpr_p (o := .mv _) (by simp only [ev_mv, opd_s, opd_c, fget, Nat.reduceEqDiff, Nat.one_ne_zero, Nat.zero_ne_one, reduceCtorEq, ↓reduceIte]; rfl) ?_
       | (refine wpr_fork (fun _ => ?_) (fun _ => ?_) <;> try (exfalso; omega))
       | (refine wpr_forkN (fun _ => ?_) (fun _ => ?_) <;> try (exfalso; omega))
       | refine wpr_run rfl ?_
       | refine wpr_pass rfl rfl ?_
       | refine wpr_passS rfl ?_
       | ((first | apply wpr_p | apply wpr_r | apply wpr_callA | apply wpr_callA0 | apply wpr_e0 | apply wpr_e | apply wpr_end0); focus ((try simp (disch := first | omega | (simp only [AH.nn_push, AH.nn_set, AH.nn_kill]; omega) | (simp only [AH.nn_push, AH.nn_set, AH.nn_kill]; done) | fail) only [push_cast, Nat.reduceEqDiff, ↓reduceIte, reduceCtorEq, Nat.reduceAdd, Nat.reduceMul, Nat.reduceLeDiff, AH.get_push_eq, AH.get_push_ne, AH.get_set_eq, AH.get_set_ne, AH.push_n, AH.set_n, k3, k6, ei, hstl, k46]); rfl))
       | refine wpr_pass0 rfl rfl ?_
       | refine wpr_pass0S rfl ?_
       | (apply wpr_callvA; focus ((try simp (disch := first | omega | (simp only [AH.nn_push, AH.nn_set, AH.nn_kill]; omega) | (simp only [AH.nn_push, AH.nn_set, AH.nn_kill]; done) | fail) only [push_cast, Nat.reduceEqDiff, ↓reduceIte, reduceCtorEq, Nat.reduceAdd, Nat.reduceMul, Nat.reduceLeDiff, AH.get_push_eq, AH.get_push_ne, AH.get_set_eq, AH.get_set_ne, AH.push_n, AH.set_n, k3, k6, ei, hstl, k46]); rfl))
       | (apply wpr_end; (focus ((try simp (disch := first | omega | (simp only [AH.nn_push, AH.nn_set, AH.nn_kill]; omega) | (simp only [AH.nn_push, AH.nn_set, AH.nn_kill]; done) | fail) only [push_cast, Nat.reduceEqDiff, ↓reduceIte, reduceCtorEq, Nat.reduceAdd, Nat.reduceMul, Nat.reduceLeDiff, AH.get_push_eq, AH.get_push_ne, AH.get_set_eq, AH.get_set_ne, AH.push_n, AH.set_n, k3, k6, ei, hstl, k46]); rfl)); (focus (simp (disch := first | omega | (simp only [AH.nn_push, AH.nn_set, AH.nn_kill]; omega) | (simp only [AH.nn_push, AH.nn_set, AH.nn_kill]; done) | fail) only [push_cast, Nat.reduceEqDiff, ↓reduceIte, reduceCtorEq, Nat.reduceAdd, Nat.reduceMul, Nat.reduceLeDiff, AH.get_push_eq, AH.get_push_ne, AH.get_set_eq, AH.get_set_ne, AH.push_n, AH.set_n, k3, k6, ei, hstl, k46]; done)))
       | fail)
    | (show Wp _ _ _ _ _ _
       first
       | refine wp_seq ?_
       | refine wp_region0 ?_
       | refine wp_region ?_
       | refine wp_cond_t rfl ?_
       | refine wp_cond_f rfl ?_
       | refine wp_ret ?_
       | refine wp_skip ?_
       | refine wp_exit ?_
       | refine wp_block ?_
       | fail)
    | refine thenQ_norm ?_
    | refine thenQ_ret ?_
    | refine thenQ_exit ?_
    | refine blockQ_norm ?_
    | refine blockQ_ret ?_
    | refine blockQ_same ?_
    | refine blockQ_ne rfl ?_
    | refine loopQ_norm ?_
    | refine loopQ_ret ?_
    | refine loopQ_exit ?_
    | ((first | apply retQ_ret | apply retQ_norm | apply wpc_of); focus ((try simp (disch := first | omega | (simp only [AH.nn_push, AH.nn_set, AH.nn_kill]; omega) | (simp only [AH.nn_push, AH.nn_set, AH.nn_kill]; done) | fail) only [push_cast, Nat.reduceEqDiff, ↓reduceIte, reduceCtorEq, Nat.reduceAdd, Nat.reduceMul, Nat.reduceLeDiff, AH.get_push_eq, AH.get_push_ne, AH.get_set_eq, AH.get_set_ne, AH.push_n, AH.set_n, k3, k6, ei, hstl, k46]); rfl))
    | fail)
  -- the bias
  obtain ⟨h5, eh5⟩ : ∃ h5, h5 = h4.set (h.n + 6) (.cells false [st2.val 1]) := ⟨_, rfl⟩
  rw [← eh5]
  have n5 : h5.n = h4.n := by rw [eh5]; rfl
  have m5 : ∀ b, b ≠ h.n + 6 → h5.get b = h4.get b := fun b hb => by rw [eh5]; exact AH.get_set_ne _ hb
  have m56 : h5.get (h.n + 6) = some (.cells false [st2.val 1]) := by rw [eh5]; exact AH.get_set_same _ (by omega)
  have k5s := (m5 bx (by omega)).trans k4s
  (repeat' first
    | (show WpR _ _ _ _ _ _ _ _ _
       first
       | refine wpr_drop ?_
       | refine wpr_p (o := .mv _) (by simp only [ev_mv, opd_s, opd_c, fget, Nat.reduceEqDiff, Nat.one_ne_zero, Nat.zero_ne_one, reduceCtorEq, ↓reduceIte]; rfl) ?_
       | (refine wpr_fork (fun _ => ?_) (fun _ => ?_) <;> try (exfalso; omega))
       | (refine wpr_forkN (fun _ => ?_) (fun _ => ?_) <;> try (exfalso; omega))
       | refine wpr_run rfl ?_
       | refine wpr_pass rfl rfl ?_
       | refine wpr_passS rfl ?_
       | ((first | apply wpr_p | apply wpr_r | apply wpr_callA | apply wpr_callA0 | apply wpr_e0 | apply wpr_e | apply wpr_end0); focus ((try simp (disch := first | omega | (simp only [AH.nn_push, AH.nn_set, AH.nn_kill]; omega) | (simp only [AH.nn_push, AH.nn_set, AH.nn_kill]; done) | fail) only [push_cast, Nat.reduceEqDiff, ↓reduceIte, reduceCtorEq, Nat.reduceAdd, Nat.reduceMul, Nat.reduceLeDiff, AH.get_push_eq, AH.get_push_ne, AH.get_set_eq, AH.get_set_ne, AH.push_n, AH.set_n, m56, lt2]); rfl))
       | refine wpr_pass0 rfl rfl ?_
       | refine wpr_pass0S rfl ?_
       | (apply wpr_callvA; focus ((try simp (disch := first | omega | (simp only [AH.nn_push, AH.nn_set, AH.nn_kill]; omega) | (simp only [AH.nn_push, AH.nn_set, AH.nn_kill]; done) | fail) only [push_cast, Nat.reduceEqDiff, ↓reduceIte, reduceCtorEq, Nat.reduceAdd, Nat.reduceMul, Nat.reduceLeDiff, AH.get_push_eq, AH.get_push_ne, AH.get_set_eq, AH.get_set_ne, AH.push_n, AH.set_n, m56, lt2]); rfl))
       | (apply wpr_end; (focus ((try simp (disch := first | omega | (simp only [AH.nn_push, AH.nn_set, AH.nn_kill]; omega) | (simp only [AH.nn_push, AH.nn_set, AH.nn_kill]; done) | fail) only [push_cast, Nat.reduceEqDiff, ↓reduceIte, reduceCtorEq, Nat.reduceAdd, Nat.reduceMul, Nat.reduceLeDiff, AH.get_push_eq, AH.get_push_ne, AH.get_set_eq, AH.get_set_ne, AH.push_n, AH.set_n, m56, lt2]); rfl)); (focus (simp (disch := first | omega | (simp only [AH.nn_push, AH.nn_set, AH.nn_kill]; omega) | (simp only [AH.nn_push, AH.nn_set, AH.nn_kill]; done) | fail) only [push_cast, Nat.reduceEqDiff, ↓reduceIte, reduceCtorEq, Nat.reduceAdd, Nat.reduceMul, Nat.reduceLeDiff, AH.get_push_eq, AH.get_push_ne, AH.get_set_eq, AH.get_set_ne, AH.push_n, AH.set_n, m56, lt2]; done)))
       | fail)
    | (show Wp _ _ _ _ _ _
       first
       | refine wp_seq ?_
       | refine wp_region0 ?_
       | refine wp_region ?_
       | refine wp_cond_t rfl ?_
       | refine wp_cond_f rfl ?_
       | refine wp_ret ?_
       | refine wp_skip ?_
       | refine wp_exit ?_
       | refine wp_block ?_
       | fail)
    | refine thenQ_norm ?_
    | refine thenQ_ret ?_
    | refine thenQ_exit ?_
    | refine blockQ_norm ?_
    | refine blockQ_ret ?_
    | refine blockQ_same ?_
    | refine blockQ_ne rfl ?_
    | refine loopQ_norm ?_
    | refine loopQ_ret ?_
    | refine loopQ_exit ?_
    | ((first | apply retQ_ret | apply retQ_norm | apply wpc_of); focus ((try simp (disch := first | omega | (simp only [AH.nn_push, AH.nn_set, AH.nn_kill]; omega) | (simp only [AH.nn_push, AH.nn_set, AH.nn_kill]; done) | fail) only [push_cast, Nat.reduceEqDiff, ↓reduceIte, reduceCtorEq, Nat.reduceAdd, Nat.reduceMul, Nat.reduceLeDiff, AH.get_push_eq, AH.get_push_ne, AH.get_set_eq, AH.get_set_ne, AH.push_n, AH.set_n, m56, lt2]); rfl))
    | fail)
  rw [lt2]
  refine (adapt_spec ok (m := many) (v := V) (cnt := T.length + 1) (by unfold stV; exact k5s) hVl (by omega) (by omega) (by have := ml; omega)).mono ?_
  rintro v h6 ⟨rfl, eh6⟩
  unfold stV at eh6
  have n6 : h6.n = h5.n := by rw [eh6]; rfl
  have m6 : ∀ b, b ≠ bx → h6.get b = h5.get b := fun b hb => by rw [eh6]; exact AH.get_set_ne _ hb
  have m6s := AH.get_set_same (h := h5) (b := bx) (.cells false [.int .i64 p.base, .int .i64 p.low, .int .i64 p.high, .int .i64 p.skew, .int .i64 p.damp, .int .i64 p.bias, .int .i32 p.first, .int .i64 (adapt p (many == 0) V (T.length + 1) : Nat), .int .i32 n, .int .i64 j, .int .i64 ((many : Int) + 1)]) (by omega)
  rw [← eh6] at m6s
  have k63 := ((m6 (h.n + 3) (by omega)).trans (m5 _ (by omega))).trans k43
  have k61 := ((m6 (h.n + 1) (by omega)).trans (m5 _ (by omega))).trans k41
  have k62 := ((m6 (h.n + 2) (by omega)).trans (m5 _ (by omega))).trans k42
  have hso2l : so2.len = (B ++ (wrd p bias 1 V).map digC).length := by simpa using os2.1
  have hwl := wrd_len ok bias _ 1 V (Nat.le_refl _)
  simp only [List.length_append, List.length_map] at hso2l
  (repeat' first
    | (show WpR _ _ _ _ _ _ _ _ _
       first
       | refine wpr_drop ?_
       | refine wpr_p (o := .mv _) (by simp only [ev_mv, opd_s, opd_c, fget, Nat.reduceEqDiff, Nat.one_ne_zero, Nat.zero_ne_one, reduceCtorEq, ↓reduceIte]; rfl) ?_
       | (refine wpr_fork (fun _ => ?_) (fun _ => ?_) <;> try (exfalso; omega))
       | (refine wpr_forkN (fun _ => ?_) (fun _ => ?_) <;> try (exfalso; omega))
       | refine wpr_run rfl ?_
       | refine wpr_pass rfl rfl ?_
       | refine wpr_passS rfl ?_
       | ((first | apply wpr_p | apply wpr_r | apply wpr_callA | apply wpr_callA0 | apply wpr_e0 | apply wpr_e | apply wpr_end0); focus ((try simp (disch := first | omega | (simp only [AH.nn_push, AH.nn_set, AH.nn_kill]; omega) | (simp only [AH.nn_push, AH.nn_set, AH.nn_kill]; done) | fail) only [push_cast, Nat.reduceEqDiff, ↓reduceIte, reduceCtorEq, Nat.reduceAdd, Nat.reduceMul, Nat.reduceLeDiff, AH.get_push_eq, AH.get_push_ne, AH.get_set_eq, AH.get_set_ne, AH.push_n, AH.set_n, m6s, k63, hso2l, k61, k62]); rfl))
       | refine wpr_pass0 rfl rfl ?_
       | refine wpr_pass0S rfl ?_
       | (apply wpr_callvA; focus ((try simp (disch := first | omega | (simp only [AH.nn_push, AH.nn_set, AH.nn_kill]; omega) | (simp only [AH.nn_push, AH.nn_set, AH.nn_kill]; done) | fail) only [push_cast, Nat.reduceEqDiff, ↓reduceIte, reduceCtorEq, Nat.reduceAdd, Nat.reduceMul, Nat.reduceLeDiff, AH.get_push_eq, AH.get_push_ne, AH.get_set_eq, AH.get_set_ne, AH.push_n, AH.set_n, m6s, k63, hso2l, k61, k62]); rfl))
       | (apply wpr_end; (focus ((try simp (disch := first | omega | (simp only [AH.nn_push, AH.nn_set, AH.nn_kill]; omega) | (simp only [AH.nn_push, AH.nn_set, AH.nn_kill]; done) | fail) only [push_cast, Nat.reduceEqDiff, ↓reduceIte, reduceCtorEq, Nat.reduceAdd, Nat.reduceMul, Nat.reduceLeDiff, AH.get_push_eq, AH.get_push_ne, AH.get_set_eq, AH.get_set_ne, AH.push_n, AH.set_n, m6s, k63, hso2l, k61, k62]); rfl)); (focus (simp (disch := first | omega | (simp only [AH.nn_push, AH.nn_set, AH.nn_kill]; omega) | (simp only [AH.nn_push, AH.nn_set, AH.nn_kill]; done) | fail) only [push_cast, Nat.reduceEqDiff, ↓reduceIte, reduceCtorEq, Nat.reduceAdd, Nat.reduceMul, Nat.reduceLeDiff, AH.get_push_eq, AH.get_push_ne, AH.get_set_eq, AH.get_set_ne, AH.push_n, AH.set_n, m6s, k63, hso2l, k61, k62]; done)))
       | fail)
    | (show Wp _ _ _ _ _ _
       first
       | refine wp_seq ?_
       | refine wp_region0 ?_
       | refine wp_region ?_
       | refine wp_cond_t rfl ?_
       | refine wp_cond_f rfl ?_
       | refine wp_ret ?_
       | refine wp_skip ?_
       | refine wp_exit ?_
       | refine wp_block ?_
       | fail)
    | refine thenQ_norm ?_
    | refine thenQ_ret ?_
    | refine thenQ_exit ?_
    | refine blockQ_norm ?_
    | refine blockQ_ret ?_
    | refine blockQ_same ?_
    | refine blockQ_ne rfl ?_
    | refine loopQ_norm ?_
    | refine loopQ_ret ?_
    | refine loopQ_exit ?_
    | ((first | apply retQ_ret | apply retQ_norm | apply wpc_of); focus ((try simp (disch := first | omega | (simp only [AH.nn_push, AH.nn_set, AH.nn_kill]; omega) | (simp only [AH.nn_push, AH.nn_set, AH.nn_kill]; done) | fail) only [push_cast, Nat.reduceEqDiff, ↓reduceIte, reduceCtorEq, Nat.reduceAdd, Nat.reduceMul, Nat.reduceLeDiff, AH.get_push_eq, AH.get_push_ne, AH.get_set_eq, AH.get_set_ne, AH.push_n, AH.set_n, m6s, k63, hso2l, k61, k62]); rfl))
    | fail)
  all_goals
    rename_i g
    generalize hh7 : (AH.set (AH.set h6 bx _) bx _) = h7
    have n7 : h7.n = h6.n := by rw [← hh7]; rfl
    have m7 : ∀ b, b ≠ bx → h7.get b = h6.get b := fun b hb => by rw [← hh7, AH.get_set_ne _ hb, AH.get_set_ne _ hb]
    have m7s : h7.get bx = some (.cells false (stV p (adapt p (many == 0) V (T.length + 1) : Nat) z.1 ((rank T z.2 + 1 : Nat) : Int) ((many + 1 : Nat) : Int))) := by
      rw [← hh7, AH.get_set_same _ (by rw [AH.set_n]; omega)]
      unfold stV
      simp only [Int.natCast_add]
      rfl
    clear hh7
    have kp7 : ∀ b, b < h.n → h7.get b = h.get b := fun b hb => by
      rw [m7 b (by omega), m6 b (by omega), m5 b (by omega), kp4 b (by omega) (fun g => by have := (b3 _ g).1; omega), m3 b (by omega) (by omega), gr.keep b (by omega) (fun g => by have := (b1 _ g).1; omega)]
      exact kp b hb
  · exact ⟨rfl, by rw [← eq]; simp only [List.length_append, List.length_map]; omega, rfl, rfl, encG_of rfl kp7 (by omega)⟩
  · have hb4' : ∀ b, st2.blk = some b → b = h3.n := fun b hb => by rw [eb4] at hb; injection hb with hb; exact hb.symm
    have hb2' : ∀ b, so2.blk = some b → h1.n ≤ b ∧ b < h2.n := fun b hb => by
      rw [hnb] at hb; injection hb with hb; subst hb
      exact ⟨hnb2, os2.lt hnb⟩
    refine ⟨rfl, by simp only [Int.natCast_add]; rfl, B ++ (wrd p bias 1 V).map digC, ins T z.2, adapt p (many == 0) V (T.length + 1), z.1, rank T z.2 + 1, many + 1, so2, st2, ?_, by simp only [List.length_append, List.length_map]; omega⟩
    refine ⟨kp7, ?_, ?_, ?_, ?_, m7s, ?_, ?_, ?_, bxn, fun b hb => ?_, fun b hb => ?_, fun b hb => ?_, ?_, fun y hy => hz.step (hiz y (by simp [hy])) (hpz y hy), by omega, ins_sorted _ Ts hz.new, by rw [ins_len]; omega, by rw [ins_len]; omega, hzr, by omega, by have := adapt_bound ok (many == 0) V (T.length + 1) hVl; omega, by simp only [List.length_append, List.length_map]; omega⟩
    · rw [m7 _ (by omega), m6 _ (by omega), m5 _ (by omega)]; exact k41
    · rw [m7 _ (by omega), m6 _ (by omega), m5 _ (by omega)]; exact k42
    · rw [m7 _ (by omega)]; exact k63
    · rw [m7 _ (by omega), m6 _ (by omega)]; exact m56
    · refine kz.keep fun b hb => ?_
      have h8 := b2 b hb
      rw [m7 b h8.2.1, m6 b h8.2.1, m5 b (by omega), kp4 b (by omega) (fun g => (b3 b g).2.2 hb), m3 b (by omega) (by omega)]
    · refine os2.keep fun b hb => ?_
      have h8 := hb2' b hb
      have h9 := AH.get_lt gs
      have h10 : st.blk ≠ some b := fun g => by have := o3.lt g; omega
      rw [m7 b (by omega), m6 b (by omega), m5 b (by omega), kp4 b (by omega) h10, m3 b (by omega) (by omega)]
    · refine ot2.keep fun b hb => ?_
      rw [hb4' b hb]
      rw [m7 _ (by omega), m6 _ (by omega), m5 _ (by omega)]
    · have h8 := hb2' b hb
      exact ⟨by omega, by omega, fun g => by have := (b2 b g).2.2; omega, fun g => by have := hb4' b g; omega⟩
    · have h8 := b2 b hb
      exact ⟨h8.1, h8.2.1, by omega⟩
    · rw [hb4' b hb]
      exact ⟨by omega, by omega, fun g => by have := (b2 _ g).2.2; omega⟩
    · have : (many + 1 == 0) = false := by simp
      rw [this, ← eq, List.append_assoc]

end Go.Proofs.Ytmfpkgcphlilmaa.AM
