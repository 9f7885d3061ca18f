/- Bootstrings: Encode: the whole. -/
import Derived.Test.YtmfpkgcphlilmaaBootG
set_option linter.unusedVariables false
set_option linter.unusedSimpArgs false
namespace Go.Proofs.Ytmfpkgcphlilmaa.AM
open Go

def b2sP (m : Mem) (v : Value) : Option Value := (ROp.b2s (.c v)).ev [] m
theorem ev_b2sP {fr : Fr} {m : Mem} {x : Opd} : (ROp.b2s x).ev fr m = b2sP m (opd fr x) := rfl
theorem bytesOf_map : ∀ B : Bytes, bytesOf ((B.map byteV).flatten) = some B
  | [] => rfl
  | c :: r => by
    have ih := bytesOf_map r
    have e : ((c :: r).map byteV).flatten = .int .u8 c.toNat :: (r.map byteV).flatten := rfl
    rw [e]
    simp only [bytesOf, ih, Option.map_some, Int.toNat_natCast]
    rw [u8_eq rfl]
theorem b2s_own {h : AH} {lc : Lc} {s : Sl} {B : Bytes} (r : Own h 1 s (B.map byteV)) : b2sP ⟨lc, h⟩ (s.val 1) = some (.string ⟨B.toArray⟩) := by
  cases s with
  | nil =>
    have : B = [] := by have := r.1; simp [Sl.len] at this; exact List.eq_nil_of_length_eq_zero this.symm
    subst this
    rfl
  | «at» b o n =>
    have hl : n = B.length := by simpa [Sl.len] using r.1
    obtain ⟨pre, h3, h4⟩ := r.2.2
    have hf := flatten_len r.2.1
    rw [List.length_map, Nat.mul_one] at hf
    have e : Mem.rd ⟨lc, h⟩ ⟨b, o, none⟩ n = some (B.map byteV).flatten := by
      rw [rd_heap, h3]
      simp only [List.length_append, hf, h4]
      rw [if_pos (by omega), ← h4, List.drop_left, hl, ← hf, List.take_length]
    simp only [b2sP, ROp.ev, opd, Sl.val, e, bytesOf_map, Option.map_some]

/-- What is kept between the loops. -/
structure EncK (h : AH) (p : BP) (R : List Nat) (B : Bytes) (h1 : AH) (so sh st : Sl) : Prop where
  kp : ∀ b, b < h.n → h1.get b = h.get b
  n : h.n + 8 ≤ h1.n
  g0 : h1.get h.n = some (.cells false [.int .i64 p.base, .int .i64 p.low, .int .i64 p.high, .int .i64 p.skew, .int .i64 p.damp, .int .i64 p.bias, .int .i32 p.first])
  g1 : h1.get (h.n + 1) = some (.cells false [.string ⟨#[]⟩])
  g2 : h1.get (h.n + 2) = some (.cells false [.int .i64 0])
  g3 : h1.get (h.n + 3) = some (.cells false [so.val 1])
  g4 : h1.get (h.n + 4) = some (.cells false [sh.val 2])
  g6 : h1.get (h.n + 6) = some (.cells false [st.val 1])
  o1 : Own h1 1 so (B.map byteV)
  o2 : Own h1 2 sh ((highsOf p.first 0 R).map spV)
  o3 : Own h1 1 st ((lowsOf p.first 0 R).map intV)
  b1 : ∀ b, so.blk = some b → h.n + 7 < b
  b2 : ∀ b, sh.blk = some b → h.n + 7 < b
  b3 : ∀ b, st.blk = some b → h.n + 7 < b
  d12 : ∀ b, so.blk = some b → sh.blk ≠ some b
  d13 : ∀ b, so.blk = some b → st.blk ≠ some b
  d23 : ∀ b, sh.blk = some b → st.blk ≠ some b
  e2 : highsOf p.first 0 R = [] → sh = .nil

def encFr6 (c : Nat) : Fr := [(2, .pointer (some ⟨c, 0, none⟩)), (4, .pointer (some ⟨c + 1, 0, none⟩)), (5, .pointer (some ⟨c + 2, 0, none⟩)), (6, .pointer (some ⟨c + 3, 0, none⟩)), (7, .pointer (some ⟨c + 4, 0, none⟩)), (9, .pointer (some ⟨c + 6, 0, none⟩))]

/-! ### The whole -/

theorem encode_spec {p : BP} (ok : p.Ok) (x : ByteArray) (hx : x.size ≤ 140737488351232) (h : AH) :
    WpC PX 16 [.agg (bpN p).toArray, .string x] h fun v h' => v = .tuple (List.toArray [.string ⟨(encF p x.data.toList).1.toArray⟩, .int .i64 (encF p x.data.toList).2]) ∧ h.n ≤ h'.n ∧ ∀ b, b < h.n → h'.get b = h.get b := by
  have e1 := fun h => right_eq p.base p.low p.high p.skew p.damp p.bias p.first h ⟨by omega, by have := ok.b2; omega⟩ ⟨by omega, by have := ok.f2; unfold RuneN at this; omega⟩
  rw [decide_eq_true (rightI_ok ok)] at e1
  have e2 := fun h => spotsMk_eq x h
  unfold bpV at e1
  unfold bpN bpV
  obtain ⟨l, hl⟩ : ∃ l, l = x.data.toList := ⟨_, rfl⟩
  have hll : l.length = x.size := by rw [hl]; rfl
  rw [← hl]
  refine wpc_fn (px_ext rfl) (px_fn fn_boot_Encode) rfl ?_
  unfold LF_boot_Encode
  simp only [argFr]
  by_cases hlong : 65536 < x.size
  · have hE : encF p l = ([], 3) := by unfold encF; rw [if_pos (by omega)]
    rw [hE]
    (repeat' first
    | (show WpR _ _ _ _ _ _ _ _ _
       first
       | refine wpr_drop ?_
       | refine wpr_p (o := .mv _) (by simp only [ev_mv, opd_s, opd_c, fget, Nat.reduceEqDiff, Nat.one_ne_zero, Nat.zero_ne_one, reduceCtorEq, ↓reduceIte]; rfl) ?_
       | (refine wpr_fork (fun _ => ?_) (fun _ => ?_) <;> try (exfalso; omega))
       | (refine wpr_forkN (fun _ => ?_) (fun _ => ?_) <;> try (exfalso; omega))
       | refine wpr_run rfl ?_
       | refine wpr_pass rfl rfl ?_
       | refine wpr_passS rfl ?_
       | ((first | apply wpr_p | apply wpr_r | apply wpr_callA | apply wpr_callA0 | apply wpr_e0 | apply wpr_e | apply wpr_end0); focus ((try simp (disch := first | omega | (simp only [AH.nn_push, AH.nn_set, AH.nn_kill]; omega) | (simp only [AH.nn_push, AH.nn_set, AH.nn_kill]; done) | fail) only [push_cast, Nat.reduceEqDiff, ↓reduceIte, reduceCtorEq, Nat.reduceAdd, Nat.reduceMul, Nat.reduceLeDiff, AH.get_push_eq, AH.get_push_ne, AH.get_set_eq, AH.get_set_ne, AH.push_n, AH.set_n, e1]); rfl))
       | refine wpr_pass0 rfl rfl ?_
       | refine wpr_pass0S rfl ?_
       | (apply wpr_callvA; focus ((try simp (disch := first | omega | (simp only [AH.nn_push, AH.nn_set, AH.nn_kill]; omega) | (simp only [AH.nn_push, AH.nn_set, AH.nn_kill]; done) | fail) only [push_cast, Nat.reduceEqDiff, ↓reduceIte, reduceCtorEq, Nat.reduceAdd, Nat.reduceMul, Nat.reduceLeDiff, AH.get_push_eq, AH.get_push_ne, AH.get_set_eq, AH.get_set_ne, AH.push_n, AH.set_n, e1]); rfl))
       | (apply wpr_end; (focus ((try simp (disch := first | omega | (simp only [AH.nn_push, AH.nn_set, AH.nn_kill]; omega) | (simp only [AH.nn_push, AH.nn_set, AH.nn_kill]; done) | fail) only [push_cast, Nat.reduceEqDiff, ↓reduceIte, reduceCtorEq, Nat.reduceAdd, Nat.reduceMul, Nat.reduceLeDiff, AH.get_push_eq, AH.get_push_ne, AH.get_set_eq, AH.get_set_ne, AH.push_n, AH.set_n, e1]); rfl)); (focus (simp (disch := first | omega | (simp only [AH.nn_push, AH.nn_set, AH.nn_kill]; omega) | (simp only [AH.nn_push, AH.nn_set, AH.nn_kill]; done) | fail) only [push_cast, Nat.reduceEqDiff, ↓reduceIte, reduceCtorEq, Nat.reduceAdd, Nat.reduceMul, Nat.reduceLeDiff, AH.get_push_eq, AH.get_push_ne, AH.get_set_eq, AH.get_set_ne, AH.push_n, AH.set_n, e1]; done)))
       | fail)
    | (show Wp _ _ _ _ _ _
       first
       | refine wp_seq ?_
       | refine wp_region0 ?_
       | refine wp_region ?_
       | refine wp_cond_t rfl ?_
       | refine wp_cond_f rfl ?_
       | refine wp_ret ?_
       | refine wp_skip ?_
       | refine wp_exit ?_
       | refine wp_block ?_
       | fail)
    | refine thenQ_norm ?_
    | refine thenQ_ret ?_
    | refine thenQ_exit ?_
    | refine blockQ_norm ?_
    | refine blockQ_ret ?_
    | refine blockQ_same ?_
    | refine blockQ_ne rfl ?_
    | refine loopQ_norm ?_
    | refine loopQ_ret ?_
    | refine loopQ_exit ?_
    | ((first | apply retQ_ret | apply retQ_norm | apply wpc_of); focus ((try simp (disch := first | omega | (simp only [AH.nn_push, AH.nn_set, AH.nn_kill]; omega) | (simp only [AH.nn_push, AH.nn_set, AH.nn_kill]; done) | fail) only [push_cast, Nat.reduceEqDiff, ↓reduceIte, reduceCtorEq, Nat.reduceAdd, Nat.reduceMul, Nat.reduceLeDiff, AH.get_push_eq, AH.get_push_ne, AH.get_set_eq, AH.get_set_ne, AH.push_n, AH.set_n, e1]); rfl))
    | fail)
    refine ⟨rfl, by simp only [AH.nn_set, AH.nn_push]; omega, fun b hb => ?_⟩
    rw [AH.get_set_ne _ (by omega), AH.get_set_ne _ (by omega), AH.get_push_ne _ (by simp only [AH.nn_push]; omega), AH.get_push_ne _ (by simp only [AH.nn_push]; omega), AH.get_push_ne _ (by omega)]
  · (repeat' first
    | (show WpR _ _ _ _ _ _ _ _ _
       first
       | refine wpr_drop ?_
       | refine wpr_p (o := .mv _) (by simp only [ev_mv, opd_s, opd_c, fget, Nat.reduceEqDiff, Nat.one_ne_zero, Nat.zero_ne_one, reduceCtorEq, ↓reduceIte]; rfl) ?_
       | (refine wpr_fork (fun _ => ?_) (fun _ => ?_) <;> try (exfalso; omega))
       | (refine wpr_forkN (fun _ => ?_) (fun _ => ?_) <;> try (exfalso; omega))
       | refine wpr_run rfl ?_
       | refine wpr_pass rfl rfl ?_
       | refine wpr_passS rfl ?_
       | ((first | apply wpr_p | apply wpr_r | apply wpr_callA | apply wpr_callA0 | apply wpr_e0 | apply wpr_e | apply wpr_end0); focus ((try simp (disch := first | omega | (simp only [AH.nn_push, AH.nn_set, AH.nn_kill]; omega) | (simp only [AH.nn_push, AH.nn_set, AH.nn_kill]; done) | fail) only [push_cast, Nat.reduceEqDiff, ↓reduceIte, reduceCtorEq, Nat.reduceAdd, Nat.reduceMul, Nat.reduceLeDiff, AH.get_push_eq, AH.get_push_ne, AH.get_set_eq, AH.get_set_ne, AH.push_n, AH.set_n, e1, e2]); rfl))
       | refine wpr_pass0 rfl rfl ?_
       | refine wpr_pass0S rfl ?_
       | (apply wpr_callvA; focus ((try simp (disch := first | omega | (simp only [AH.nn_push, AH.nn_set, AH.nn_kill]; omega) | (simp only [AH.nn_push, AH.nn_set, AH.nn_kill]; done) | fail) only [push_cast, Nat.reduceEqDiff, ↓reduceIte, reduceCtorEq, Nat.reduceAdd, Nat.reduceMul, Nat.reduceLeDiff, AH.get_push_eq, AH.get_push_ne, AH.get_set_eq, AH.get_set_ne, AH.push_n, AH.set_n, e1, e2]); rfl))
       | (apply wpr_end; (focus ((try simp (disch := first | omega | (simp only [AH.nn_push, AH.nn_set, AH.nn_kill]; omega) | (simp only [AH.nn_push, AH.nn_set, AH.nn_kill]; done) | fail) only [push_cast, Nat.reduceEqDiff, ↓reduceIte, reduceCtorEq, Nat.reduceAdd, Nat.reduceMul, Nat.reduceLeDiff, AH.get_push_eq, AH.get_push_ne, AH.get_set_eq, AH.get_set_ne, AH.push_n, AH.set_n, e1, e2]); rfl)); (focus (simp (disch := first | omega | (simp only [AH.nn_push, AH.nn_set, AH.nn_kill]; omega) | (simp only [AH.nn_push, AH.nn_set, AH.nn_kill]; done) | fail) only [push_cast, Nat.reduceEqDiff, ↓reduceIte, reduceCtorEq, Nat.reduceAdd, Nat.reduceMul, Nat.reduceLeDiff, AH.get_push_eq, AH.get_push_ne, AH.get_set_eq, AH.get_set_ne, AH.push_n, AH.set_n, e1, e2]; done)))
       | fail)
    | (show Wp _ _ _ _ _ _
       first
       | refine wp_seq ?_
       | refine wp_region0 ?_
       | refine wp_region ?_
       | refine wp_cond_t rfl ?_
       | refine wp_cond_f rfl ?_
       | refine wp_ret ?_
       | refine wp_skip ?_
       | refine wp_exit ?_
       | refine wp_block ?_
       | fail)
    | refine thenQ_norm ?_
    | refine thenQ_ret ?_
    | refine thenQ_exit ?_
    | refine blockQ_norm ?_
    | refine blockQ_ret ?_
    | refine blockQ_same ?_
    | refine blockQ_ne rfl ?_
    | refine loopQ_norm ?_
    | refine loopQ_ret ?_
    | refine loopQ_exit ?_
    | ((first | apply retQ_ret | apply retQ_norm | apply wpc_of); focus ((try simp (disch := first | omega | (simp only [AH.nn_push, AH.nn_set, AH.nn_kill]; omega) | (simp only [AH.nn_push, AH.nn_set, AH.nn_kill]; done) | fail) only [push_cast, Nat.reduceEqDiff, ↓reduceIte, reduceCtorEq, Nat.reduceAdd, Nat.reduceMul, Nat.reduceLeDiff, AH.get_push_eq, AH.get_push_ne, AH.get_set_eq, AH.get_set_ne, AH.push_n, AH.set_n, e1, e2]); rfl))
    | fail)
    have hseq := spots_seq x (h.n + 7) hx
    rw [← hl] at hseq
    generalize hH0 : ((((((((h.push (.cells false [.int .i64 p.base, .int .i64 p.low, .int .i64 p.high, .int .i64 p.skew, .int .i64 p.damp, .int .i64 p.bias, .int .i32 p.first])).push (.cells false [.string ⟨#[]⟩])).push (.cells false [.int .i64 0])).push (.cells false [.slice none 0 0])).push (.cells false [.slice none 0 0])).push (.cells false [.int .i64 0])).set (h.n + 1 + 1 + 1 + 1 + 1) _).push _).push _ = H0
    have n0 : H0.n = h.n + 8 := by rw [← hH0]; simp only [AH.nn_push, AH.nn_set]
    have a0 : H0.get h.n = some (.cells false [.int .i64 p.base, .int .i64 p.low, .int .i64 p.high, .int .i64 p.skew, .int .i64 p.damp, .int .i64 p.bias, .int .i32 p.first]) := by rw [← hH0]; simp (disch := first | omega | (simp only [AH.nn_push, AH.nn_set, AH.nn_kill]; omega) | (simp only [AH.nn_push, AH.nn_set, AH.nn_kill]; done) | fail) only [AH.get_push_eq, AH.get_push_ne, AH.get_set_eq, AH.get_set_ne]
    have a1 : H0.get (h.n + 1) = some (.cells false [.string ⟨#[]⟩]) := by rw [← hH0]; simp (disch := first | omega | (simp only [AH.nn_push, AH.nn_set, AH.nn_kill]; omega) | (simp only [AH.nn_push, AH.nn_set, AH.nn_kill]; done) | fail) only [AH.get_push_eq, AH.get_push_ne, AH.get_set_eq, AH.get_set_ne]
    have a2 : H0.get (h.n + 2) = some (.cells false [.int .i64 0]) := by rw [← hH0]; simp (disch := first | omega | (simp only [AH.nn_push, AH.nn_set, AH.nn_kill]; omega) | (simp only [AH.nn_push, AH.nn_set, AH.nn_kill]; done) | fail) only [AH.get_push_eq, AH.get_push_ne, AH.get_set_eq, AH.get_set_ne]
    have a3 : H0.get (h.n + 3) = some (.cells false [.slice none 0 0]) := by rw [← hH0]; simp (disch := first | omega | (simp only [AH.nn_push, AH.nn_set, AH.nn_kill]; omega) | (simp only [AH.nn_push, AH.nn_set, AH.nn_kill]; done) | fail) only [AH.get_push_eq, AH.get_push_ne, AH.get_set_eq, AH.get_set_ne]
    have a4 : H0.get (h.n + 4) = some (.cells false [.slice none 0 0]) := by rw [← hH0]; simp (disch := first | omega | (simp only [AH.nn_push, AH.nn_set, AH.nn_kill]; omega) | (simp only [AH.nn_push, AH.nn_set, AH.nn_kill]; done) | fail) only [AH.get_push_eq, AH.get_push_ne, AH.get_set_eq, AH.get_set_ne]
    have a5 : H0.get (h.n + 5) = some (.cells false [.int .i64 0]) := by rw [← hH0]; simp (disch := first | omega | (simp only [AH.nn_push, AH.nn_set, AH.nn_kill]; omega) | (simp only [AH.nn_push, AH.nn_set, AH.nn_kill]; done) | fail) only [AH.get_push_eq, AH.get_push_ne, AH.get_set_eq, AH.get_set_ne]
    have a6 : H0.get (h.n + 6) = some (.cells false [.slice none 0 0]) := by rw [← hH0]; simp (disch := first | omega | (simp only [AH.nn_push, AH.nn_set, AH.nn_kill]; omega) | (simp only [AH.nn_push, AH.nn_set, AH.nn_kill]; done) | fail) only [AH.get_push_eq, AH.get_push_ne, AH.get_set_eq, AH.get_set_ne]
    have a7 : H0.get (h.n + 7) = some (.cells false [.string x]) := by rw [← hH0]; simp (disch := first | omega | (simp only [AH.nn_push, AH.nn_set, AH.nn_kill]; omega) | (simp only [AH.nn_push, AH.nn_set, AH.nn_kill]; done) | fail) only [AH.get_push_eq, AH.get_push_ne, AH.get_set_eq, AH.get_set_ne]
    have ak : ∀ b, b < h.n → H0.get b = h.get b := fun b hb => by rw [← hH0]; simp (disch := first | omega | (simp only [AH.nn_push, AH.nn_set, AH.nn_kill]; omega) | (simp only [AH.nn_push, AH.nn_set, AH.nn_kill]; done) | fail) only [AH.get_push_eq, AH.get_push_ne, AH.get_set_eq, AH.get_set_ne]
    clear hH0
    have hspl := spots_len l
    refine wp_rangeP (xs := spotsL l) (enc := spotE) (D := fun h1 => h1.get (h.n + 7) = some (.cells false [.string x])) rfl hseq (fun _ => rfl)
      (fun i h1 => i ≤ (spots l).length ∧ scanE p 0 (spots l) = scanE p i ((spots l).drop i) ∧ ∃ so sh st, EncI h p x ((runesB l).take i) h1 so sh st)
      (fun ex h1 => ex = .ret ∧ scanE p 0 (spots l) ≠ 0 ∧ EncG h (scanE p 0 (spots l)) h1)
      (fun y => encFr h.n ++ [(11, .pointer (some ⟨22, 0, some 1⟩))]) (fun y => [(22, .cells false [.int .i32 y.2.1, .int .i64 y.2.2, .bool (isBad2 y.2)])]) ?_ ?_ ?_ ?_ ?_ ?_ ?_ ?_
    · rw [n0]
      rintro i h1 h2 ⟨f1, f2, so, sh, st, f3⟩ k
      exact ⟨f1, f2, so, sh, st, f3.same k⟩
    · rw [n0]
      rintro ex h1 h2 ⟨f1, f2, f3⟩ k
      exact ⟨f1, f2, fun b hb => by rw [k.get b (by omega)]; exact f3.kp b hb, by rw [k.n]; exact f3.n, by rw [k.get _ (by omega)]; exact f3.g1, by rw [k.get _ (by omega)]; exact f3.g2⟩
    · rintro i h1 ⟨f1, f2, so, sh, st, f3⟩
      exact f3.g7
    · intro y h1
      unfold spotE spotV encFr
      simp only [List.zip_cons_cons, List.zip_nil_right, List.reverse_cons, List.reverse_nil, List.nil_append, List.cons_append, okFr_cons, okFr_nil, okV_eq, isLoc_ptr, isLoc_func, Bool.not_false, if_true]
      (repeat' first
    | (show WpR _ _ _ _ _ _ _ _ _
       first
       | refine wpr_drop ?_
       | refine wpr_p (o := .mv _) (by simp only [ev_mv, opd_s, opd_c, fget, Nat.reduceEqDiff, Nat.one_ne_zero, Nat.zero_ne_one, reduceCtorEq, ↓reduceIte]; rfl) ?_
       | (refine wpr_fork (fun _ => ?_) (fun _ => ?_) <;> try (exfalso; omega))
       | (refine wpr_forkN (fun _ => ?_) (fun _ => ?_) <;> try (exfalso; omega))
       | refine wpr_run rfl ?_
       | refine wpr_pass rfl rfl ?_
       | refine wpr_passS rfl ?_
       | ((first | apply wpr_p | apply wpr_r | apply wpr_callA | apply wpr_callA0 | apply wpr_e0 | apply wpr_e | apply wpr_end0); focus ((try simp (disch := omega) only [push_cast, Nat.reduceEqDiff, ↓reduceIte, reduceCtorEq, Nat.reduceAdd, Nat.reduceMul, Nat.reduceLeDiff]); rfl))
       | refine wpr_pass0 rfl rfl ?_
       | refine wpr_pass0S rfl ?_
       | (apply wpr_end; (focus ((try simp (disch := omega) only [push_cast, Nat.reduceEqDiff, ↓reduceIte, reduceCtorEq, Nat.reduceAdd, Nat.reduceMul, Nat.reduceLeDiff]); rfl)); (focus (simp (disch := omega) only [push_cast, Nat.reduceEqDiff, ↓reduceIte, reduceCtorEq, Nat.reduceAdd, Nat.reduceMul, Nat.reduceLeDiff]; done)))
       | fail)
    | (show Wp _ _ _ _ _ _
       first
       | refine wp_seq ?_
       | refine wp_region0 ?_
       | refine wp_region ?_
       | refine wp_cond_t rfl ?_
       | refine wp_cond_f rfl ?_
       | refine wp_ret ?_
       | refine wp_skip ?_
       | refine wp_exit ?_
       | refine wp_block ?_
       | fail)
    | refine thenQ_norm ?_
    | refine thenQ_ret ?_
    | refine thenQ_exit ?_
    | refine blockQ_norm ?_
    | refine blockQ_ret ?_
    | refine blockQ_same ?_
    | refine blockQ_ne rfl ?_
    | refine loopQ_norm ?_
    | refine loopQ_ret ?_
    | refine loopQ_exit ?_
    | ((first | apply retQ_ret | apply retQ_norm | apply wpc_of); focus ((try simp (disch := omega) only [push_cast, Nat.reduceEqDiff, ↓reduceIte, reduceCtorEq, Nat.reduceAdd, Nat.reduceMul, Nat.reduceLeDiff]); rfl))
    | fail)
      exact ⟨rfl, rfl, rfl, rfl⟩
    · intro o
      have hn : (H0.push o).n = h.n + 9 := by rw [AH.push_n, n0]
      have k : ∀ b, b < h.n + 8 → (H0.push o).get b = H0.get b := fun b hb => AH.get_push_ne _ (by omega)
      refine ⟨Nat.zero_le _, by rw [List.drop_zero], .nil, .nil, .nil, ?_⟩
      refine ⟨fun b hb => (k b (by omega)).trans (ak b hb), .inl (by omega), (k _ (by omega)).trans a0, (k _ (by omega)).trans a1, (k _ (by omega)).trans a2, (k _ (by omega)).trans a3, (k _ (by omega)).trans a4, (k _ (by omega)).trans a5, (k _ (by omega)).trans a6, (k _ (by omega)).trans a7, ⟨rfl, by simp [lowB], trivial⟩, ⟨rfl, by simp [highsOf], trivial⟩, ⟨rfl, by simp [lowsOf], trivial⟩, fun b hb => (by cases hb), fun b hb => (by cases hb), fun b hb => (by cases hb), fun b hb => (by cases hb), fun b hb => (by cases hb), fun b hb => (by cases hb), fun _ => rfl⟩
    · rw [n0]
      rintro i hi h1 o ⟨f1, f2, so, sh, st, f3⟩ ho
      rw [spotsL_get hi]
      rw [spotsL_len] at hi
      have hru : RuneN ((spots l)[i]).1 := runesB_rune l _ (List.mem_map.2 ⟨_, List.getElem_mem hi, rfl⟩)
      have hdr : (spots l).drop i = (spots l)[i] :: (spots l).drop (i + 1) := List.drop_eq_getElem_cons hi
      have hrl : (runesB l).length = (spots l).length := by simp [runesB]
      have htk : (runesB l).take (i + 1) = (runesB l).take i ++ [((spots l)[i]).1] := by
        rw [List.take_succ_eq_append_getElem (by rw [hrl]; exact hi)]
        congr 2
        simp [runesB]
      have htl : ((runesB l).take i).length = i := by rw [List.length_take, hrl]; omega
      rw [hdr] at f2
      generalize (spots l)[i] = y at hru f2 htk
      have hy : y.1 ≤ 0x10ffff := by unfold RuneN at hru; omega
      refine wp_mono (enc_round ok f3 (by rw [htl]; omega) ho y hy) ?_
      rintro ex fr lc h3 ⟨q1, q2⟩
      refine ⟨q1, ?_⟩
      rw [htl] at q2
      cases ex with
      | norm =>
        obtain ⟨r1, r2, r3, so', sh', st', r4⟩ := q2
        simp only
        rw [htk]
        refine ⟨hi, ?_, so', sh', st', r4⟩
        rw [f2]
        have hb : ¬ isBad y = true := by show ¬ isBad2 y = true; rw [r2]; decide
        simp only [scanE]
        rw [if_neg (by omega), if_neg hb]
        rcases r3 with r3 | r3
        · rw [if_pos r3]
        · rw [r3]
          split <;> rfl
      | ret =>
        obtain ⟨_, r2, r3⟩ := q2
        simp only
        have e : scanE p 0 (spots l) = scanE p i [y] := by
          rw [f2]
          simp only [scanE] at r2 ⊢
          split <;> rename_i c1
          · rfl
          · rw [if_neg c1] at r2
            split <;> rename_i c2
            · rfl
            · rw [if_neg c2] at r2
              split <;> rename_i c3
              · rw [if_pos c3] at r2; exact absurd rfl r2
              · rw [if_neg c3] at r2
                split <;> rename_i c4
                · rw [if_pos c4] at r2; exact absurd rfl r2
                · rfl
        rw [e]
        exact ⟨trivial, r2, r3⟩
      | exit id => exact absurd q2.1 (by simp)
    · rintro h1 ⟨f1, f2, so, sh, st, f3⟩
      have hrl : (runesB l).length = (spots l).length := by simp [runesB]
      rw [spotsL_len] at f2 f3
      rw [List.drop_length] at f2
      rw [← hrl, List.take_length] at f3
      have hz : scanE p 0 (spots l) = 0 := f2
      obtain ⟨z1, z2⟩ := (scanE_zero ok _ _).1 hz
      have hR4 : (runesB l).length ≤ 4096 := by
        rw [hrl]
        rcases z1 with e | e
        · rw [e]; simp
        · omega
      have hrune : ∀ c ∈ runesB l, RuneN c := runesB_rune l
      have hlowbas : ∀ k ∈ lowsOf p.first 0 (runesB l), (runesB l).getD k 0 < p.first := fun k hk => by
        obtain ⟨k', h1, h2, h3⟩ := lows_mem.1 hk
        have : k = k' := by omega
        rw [this]; exact h3
      have hE : encF p l = if 65536 < (bodyE p (runesB l)).length then ([], 3) else (bodyE p (runesB l), 0) := by unfold encF; rw [if_neg (by omega), if_pos hz]
      rw [hE]
      generalize runesB l = R at f3 hR4 hrune hlowbas
      have hpl := parts_len p.first R 0
      have hlb := lows_bytes p.first R 0
      have hsl := (sortH_perm (highsOf p.first 0 R)).length_eq
      have hsol : so.len = (lowB p.first R).length := by simpa using f3.o1.1
      have l3 := AH.get_lt f3.g3
      have l2 := AH.get_lt f3.g2
      have l6 := AH.get_lt f3.g6
      have l8 : ∀ k, k ≤ 7 → h.n + k < h1.n := fun k hk => by have := AH.get_lt f3.g7; omega
      refine blockQ_norm ?_
      refine thenQ_norm ?_
      refine wp_seq ?_
      refine wp_mono (Q := fun ex fr lc H3 => ex = .norm ∧ lc = [] ∧ (∃ e, fr = encFr6 h.n ++ e) ∧ ∃ so3, EncK h p R (lowB p.first R ++ (if lowB p.first R = [] then [] else [45])) H3 so3 sh st) ?_ ?_
      · by_cases hB : lowB p.first R = []
        · have hB0 : (lowB p.first R).length = 0 := by rw [hB]; rfl
          have g3 := f3.g3
          have g4 := f3.g4
          (repeat' first
    | (show WpR _ _ _ _ _ _ _ _ _
       first
       | refine wpr_drop ?_
       | refine wpr_p (o := .mv _) (by simp only [ev_mv, opd_s, opd_c, fget, Nat.reduceEqDiff, Nat.one_ne_zero, Nat.zero_ne_one, reduceCtorEq, ↓reduceIte]; rfl) ?_
       | (refine wpr_fork (fun _ => ?_) (fun _ => ?_) <;> try (exfalso; omega))
       | (refine wpr_forkN (fun _ => ?_) (fun _ => ?_) <;> try (exfalso; omega))
       | refine wpr_run rfl ?_
       | refine wpr_pass rfl rfl ?_
       | refine wpr_passS rfl ?_
       | ((first | apply wpr_p | apply wpr_r | apply wpr_callA | apply wpr_callA0 | apply wpr_e0 | apply wpr_e | apply wpr_end0); focus ((try simp (disch := first | omega | (simp only [AH.nn_push, AH.nn_set, AH.nn_kill]; omega) | (simp only [AH.nn_push, AH.nn_set, AH.nn_kill]; done) | fail) only [push_cast, Nat.reduceEqDiff, ↓reduceIte, reduceCtorEq, Nat.reduceAdd, Nat.reduceMul, Nat.reduceLeDiff, AH.get_push_eq, AH.get_push_ne, AH.get_set_eq, AH.get_set_ne, AH.push_n, AH.set_n, g3, g4, hsol]); rfl))
       | refine wpr_pass0 rfl rfl ?_
       | refine wpr_pass0S rfl ?_
       | (apply wpr_callvA; focus ((try simp (disch := first | omega | (simp only [AH.nn_push, AH.nn_set, AH.nn_kill]; omega) | (simp only [AH.nn_push, AH.nn_set, AH.nn_kill]; done) | fail) only [push_cast, Nat.reduceEqDiff, ↓reduceIte, reduceCtorEq, Nat.reduceAdd, Nat.reduceMul, Nat.reduceLeDiff, AH.get_push_eq, AH.get_push_ne, AH.get_set_eq, AH.get_set_ne, AH.push_n, AH.set_n, g3, g4, hsol]); rfl))
       | (apply wpr_end; (focus ((try simp (disch := first | omega | (simp only [AH.nn_push, AH.nn_set, AH.nn_kill]; omega) | (simp only [AH.nn_push, AH.nn_set, AH.nn_kill]; done) | fail) only [push_cast, Nat.reduceEqDiff, ↓reduceIte, reduceCtorEq, Nat.reduceAdd, Nat.reduceMul, Nat.reduceLeDiff, AH.get_push_eq, AH.get_push_ne, AH.get_set_eq, AH.get_set_ne, AH.push_n, AH.set_n, g3, g4, hsol]); rfl)); (focus (simp (disch := first | omega | (simp only [AH.nn_push, AH.nn_set, AH.nn_kill]; omega) | (simp only [AH.nn_push, AH.nn_set, AH.nn_kill]; done) | fail) only [push_cast, Nat.reduceEqDiff, ↓reduceIte, reduceCtorEq, Nat.reduceAdd, Nat.reduceMul, Nat.reduceLeDiff, AH.get_push_eq, AH.get_push_ne, AH.get_set_eq, AH.get_set_ne, AH.push_n, AH.set_n, g3, g4, hsol]; done)))
       | fail)
    | (show Wp _ _ _ _ _ _
       first
       | refine wp_seq ?_
       | refine wp_region0 ?_
       | refine wp_region ?_
       | refine wp_cond_t rfl ?_
       | refine wp_cond_f rfl ?_
       | refine wp_ret ?_
       | refine wp_skip ?_
       | refine wp_exit ?_
       | refine wp_block ?_
       | fail)
    | refine thenQ_norm ?_
    | refine thenQ_ret ?_
    | refine thenQ_exit ?_
    | refine blockQ_norm ?_
    | refine blockQ_ret ?_
    | refine blockQ_same ?_
    | refine blockQ_ne rfl ?_
    | refine loopQ_norm ?_
    | refine loopQ_ret ?_
    | refine loopQ_exit ?_
    | ((first | apply retQ_ret | apply retQ_norm | apply wpc_of); focus ((try simp (disch := first | omega | (simp only [AH.nn_push, AH.nn_set, AH.nn_kill]; omega) | (simp only [AH.nn_push, AH.nn_set, AH.nn_kill]; done) | fail) only [push_cast, Nat.reduceEqDiff, ↓reduceIte, reduceCtorEq, Nat.reduceAdd, Nat.reduceMul, Nat.reduceLeDiff, AH.get_push_eq, AH.get_push_ne, AH.get_set_eq, AH.get_set_ne, AH.push_n, AH.set_n, g3, g4, hsol]); rfl))
    | fail)
          refine ⟨rfl, rfl, ⟨[(67, .bool false)], rfl⟩, so, ?_⟩
          rw [if_pos hB, List.append_nil]
          exact ⟨f3.kp, by have := l8 7 (by omega); omega, f3.g0, f3.g1, f3.g2, f3.g3, f3.g4, f3.g6, f3.o1, f3.o2, f3.o3, fun b hb => by have := f3.b1 b hb; omega, fun b hb => by have := f3.b2 b hb; omega, fun b hb => by have := f3.b3 b hb; omega, f3.d12, f3.d13, f3.d23, f3.e2⟩
        · have hB0 : 0 < (lowB p.first R).length := List.length_pos_iff.2 hB
          have g3 := f3.g3
          (repeat' first
    | (show WpR _ _ _ _ _ _ _ _ _
       first
       | refine wpr_drop ?_
       | refine wpr_p (o := .mv _) (by simp only [ev_mv, opd_s, opd_c, fget, Nat.reduceEqDiff, Nat.one_ne_zero, Nat.zero_ne_one, reduceCtorEq, ↓reduceIte]; rfl) ?_
       | (refine wpr_fork (fun _ => ?_) (fun _ => ?_) <;> try (exfalso; omega))
       | (refine wpr_forkN (fun _ => ?_) (fun _ => ?_) <;> try (exfalso; omega))
       | refine wpr_run rfl ?_
       | refine wpr_pass rfl rfl ?_
       | refine wpr_passS rfl ?_
       | ((first | apply wpr_p | apply wpr_r | apply wpr_callA | apply wpr_callA0 | apply wpr_e0 | apply wpr_e | apply wpr_end0); focus ((try simp (disch := first | omega | (simp only [AH.nn_push, AH.nn_set, AH.nn_kill]; omega) | (simp only [AH.nn_push, AH.nn_set, AH.nn_kill]; done) | fail) only [push_cast, Nat.reduceEqDiff, ↓reduceIte, reduceCtorEq, Nat.reduceAdd, Nat.reduceMul, Nat.reduceLeDiff, AH.get_push_eq, AH.get_push_ne, AH.get_set_eq, AH.get_set_ne, AH.push_n, AH.set_n, g3, hsol]); rfl))
       | refine wpr_pass0 rfl rfl ?_
       | refine wpr_pass0S rfl ?_
       | (apply wpr_callvA; focus ((try simp (disch := first | omega | (simp only [AH.nn_push, AH.nn_set, AH.nn_kill]; omega) | (simp only [AH.nn_push, AH.nn_set, AH.nn_kill]; done) | fail) only [push_cast, Nat.reduceEqDiff, ↓reduceIte, reduceCtorEq, Nat.reduceAdd, Nat.reduceMul, Nat.reduceLeDiff, AH.get_push_eq, AH.get_push_ne, AH.get_set_eq, AH.get_set_ne, AH.push_n, AH.set_n, g3, hsol]); rfl))
       | (apply wpr_end; (focus ((try simp (disch := first | omega | (simp only [AH.nn_push, AH.nn_set, AH.nn_kill]; omega) | (simp only [AH.nn_push, AH.nn_set, AH.nn_kill]; done) | fail) only [push_cast, Nat.reduceEqDiff, ↓reduceIte, reduceCtorEq, Nat.reduceAdd, Nat.reduceMul, Nat.reduceLeDiff, AH.get_push_eq, AH.get_push_ne, AH.get_set_eq, AH.get_set_ne, AH.push_n, AH.set_n, g3, hsol]); rfl)); (focus (simp (disch := first | omega | (simp only [AH.nn_push, AH.nn_set, AH.nn_kill]; omega) | (simp only [AH.nn_push, AH.nn_set, AH.nn_kill]; done) | fail) only [push_cast, Nat.reduceEqDiff, ↓reduceIte, reduceCtorEq, Nat.reduceAdd, Nat.reduceMul, Nat.reduceLeDiff, AH.get_push_eq, AH.get_push_ne, AH.get_set_eq, AH.get_set_ne, AH.push_n, AH.set_n, g3, hsol]; done)))
       | fail)
    | (show Wp _ _ _ _ _ _
       first
       | refine wp_seq ?_
       | refine wp_region0 ?_
       | refine wp_region ?_
       | refine wp_cond_t rfl ?_
       | refine wp_cond_f rfl ?_
       | refine wp_ret ?_
       | refine wp_skip ?_
       | refine wp_exit ?_
       | refine wp_block ?_
       | fail)
    | refine thenQ_norm ?_
    | refine thenQ_ret ?_
    | refine thenQ_exit ?_
    | refine blockQ_norm ?_
    | refine blockQ_ret ?_
    | refine blockQ_same ?_
    | refine blockQ_ne rfl ?_
    | refine loopQ_norm ?_
    | refine loopQ_ret ?_
    | refine loopQ_exit ?_
    | ((first | apply retQ_ret | apply retQ_norm | apply wpc_of); focus ((try simp (disch := first | omega | (simp only [AH.nn_push, AH.nn_set, AH.nn_kill]; omega) | (simp only [AH.nn_push, AH.nn_set, AH.nn_kill]; done) | fail) only [push_cast, Nat.reduceEqDiff, ↓reduceIte, reduceCtorEq, Nat.reduceAdd, Nat.reduceMul, Nat.reduceLeDiff, AH.get_push_eq, AH.get_push_ne, AH.get_set_eq, AH.get_set_ne, AH.push_n, AH.set_n, g3, hsol]); rfl))
    | fail)
          refine wpr_appendR (yss := [byteV 45]) (k := 1) f3.o1 rfl rfl rfl rfl (by simp [byteV]) (by decide) (by decide) (by decide) (by simp; omega) fun so2 h2 oo eb2 hn2 hk2 => ?_
          have nso : ∀ k, k ≤ 7 → so.blk ≠ some (h.n + k) := fun k hk g => by have := f3.b1 _ g; omega
          have q3 := (hk2 _ (l8 3 (by omega)) (nso 3 (by omega))).trans f3.g3
          have q4 := (hk2 _ (l8 4 (by omega)) (nso 4 (by omega))).trans f3.g4
          have hb2' : ∀ b, so2.blk = some b → b = h1.n := fun b hb => by rw [eb2] at hb; injection hb with hb; exact hb.symm
          (repeat' first
    | (show WpR _ _ _ _ _ _ _ _ _
       first
       | refine wpr_drop ?_
       | refine wpr_p (o := .mv _) (by simp only [ev_mv, opd_s, opd_c, fget, Nat.reduceEqDiff, Nat.one_ne_zero, Nat.zero_ne_one, reduceCtorEq, ↓reduceIte]; rfl) ?_
       | (refine wpr_fork (fun _ => ?_) (fun _ => ?_) <;> try (exfalso; omega))
       | (refine wpr_forkN (fun _ => ?_) (fun _ => ?_) <;> try (exfalso; omega))
       | refine wpr_run rfl ?_
       | refine wpr_pass rfl rfl ?_
       | refine wpr_passS rfl ?_
       | ((first | apply wpr_p | apply wpr_r | apply wpr_callA | apply wpr_callA0 | apply wpr_e0 | apply wpr_e | apply wpr_end0); focus ((try simp (disch := first | omega | (simp only [AH.nn_push, AH.nn_set, AH.nn_kill]; omega) | (simp only [AH.nn_push, AH.nn_set, AH.nn_kill]; done) | fail) only [push_cast, Nat.reduceEqDiff, ↓reduceIte, reduceCtorEq, Nat.reduceAdd, Nat.reduceMul, Nat.reduceLeDiff, AH.get_push_eq, AH.get_push_ne, AH.get_set_eq, AH.get_set_ne, AH.push_n, AH.set_n, q3, q4]); rfl))
       | refine wpr_pass0 rfl rfl ?_
       | refine wpr_pass0S rfl ?_
       | (apply wpr_callvA; focus ((try simp (disch := first | omega | (simp only [AH.nn_push, AH.nn_set, AH.nn_kill]; omega) | (simp only [AH.nn_push, AH.nn_set, AH.nn_kill]; done) | fail) only [push_cast, Nat.reduceEqDiff, ↓reduceIte, reduceCtorEq, Nat.reduceAdd, Nat.reduceMul, Nat.reduceLeDiff, AH.get_push_eq, AH.get_push_ne, AH.get_set_eq, AH.get_set_ne, AH.push_n, AH.set_n, q3, q4]); rfl))
       | (apply wpr_end; (focus ((try simp (disch := first | omega | (simp only [AH.nn_push, AH.nn_set, AH.nn_kill]; omega) | (simp only [AH.nn_push, AH.nn_set, AH.nn_kill]; done) | fail) only [push_cast, Nat.reduceEqDiff, ↓reduceIte, reduceCtorEq, Nat.reduceAdd, Nat.reduceMul, Nat.reduceLeDiff, AH.get_push_eq, AH.get_push_ne, AH.get_set_eq, AH.get_set_ne, AH.push_n, AH.set_n, q3, q4]); rfl)); (focus (simp (disch := first | omega | (simp only [AH.nn_push, AH.nn_set, AH.nn_kill]; omega) | (simp only [AH.nn_push, AH.nn_set, AH.nn_kill]; done) | fail) only [push_cast, Nat.reduceEqDiff, ↓reduceIte, reduceCtorEq, Nat.reduceAdd, Nat.reduceMul, Nat.reduceLeDiff, AH.get_push_eq, AH.get_push_ne, AH.get_set_eq, AH.get_set_ne, AH.push_n, AH.set_n, q3, q4]; done)))
       | fail)
    | (show Wp _ _ _ _ _ _
       first
       | refine wp_seq ?_
       | refine wp_region0 ?_
       | refine wp_region ?_
       | refine wp_cond_t rfl ?_
       | refine wp_cond_f rfl ?_
       | refine wp_ret ?_
       | refine wp_skip ?_
       | refine wp_exit ?_
       | refine wp_block ?_
       | fail)
    | refine thenQ_norm ?_
    | refine thenQ_ret ?_
    | refine thenQ_exit ?_
    | refine blockQ_norm ?_
    | refine blockQ_ret ?_
    | refine blockQ_same ?_
    | refine blockQ_ne rfl ?_
    | refine loopQ_norm ?_
    | refine loopQ_ret ?_
    | refine loopQ_exit ?_
    | ((first | apply retQ_ret | apply retQ_norm | apply wpc_of); focus ((try simp (disch := first | omega | (simp only [AH.nn_push, AH.nn_set, AH.nn_kill]; omega) | (simp only [AH.nn_push, AH.nn_set, AH.nn_kill]; done) | fail) only [push_cast, Nat.reduceEqDiff, ↓reduceIte, reduceCtorEq, Nat.reduceAdd, Nat.reduceMul, Nat.reduceLeDiff, AH.get_push_eq, AH.get_push_ne, AH.get_set_eq, AH.get_set_ne, AH.push_n, AH.set_n, q3, q4]); rfl))
    | fail)
          refine ⟨rfl, rfl, ⟨[], rfl⟩, so2, ?_⟩
          rw [if_neg hB]
          refine ⟨fun b hb => ?_, ?_, ?_, ?_, ?_, ?_, ?_, ?_, ?_, ?_, ?_, fun b hb => ?_, fun b hb => by have := f3.b2 b hb; omega, fun b hb => by have := f3.b3 b hb; omega, fun b hb g => ?_, fun b hb g => ?_, f3.d23, f3.e2⟩
          · have := l8 0 (by omega)
            rw [AH.get_set_ne _ (by omega), hk2 b (by omega) (fun g => by have := f3.b1 _ g; omega)]; exact f3.kp b hb
          · have := l8 7 (by omega); rw [AH.set_n]; omega
          · rw [AH.get_set_ne _ (by omega)]; exact (hk2 _ (l8 0 (by omega)) (nso 0 (by omega))).trans f3.g0
          · rw [AH.get_set_ne _ (by omega)]; exact (hk2 _ (l8 1 (by omega)) (nso 1 (by omega))).trans f3.g1
          · rw [AH.get_set_ne _ (by omega)]; exact (hk2 _ (l8 2 (by omega)) (nso 2 (by omega))).trans f3.g2
          · exact AH.get_set_same _ (by have := l8 3 (by omega); omega)
          · rw [AH.get_set_ne _ (by omega)]; exact q4
          · rw [AH.get_set_ne _ (by omega)]; exact (hk2 _ (l8 6 (by omega)) (nso 6 (by omega))).trans f3.g6
          · rw [List.map_append]
            refine oo.keep fun b hb => ?_
            have := l8 3 (by omega)
            rw [hb2' b hb, AH.get_set_ne _ (by omega)]
          · refine f3.o2.keep fun b hb => ?_
            have := f3.b2 b hb
            rw [AH.get_set_ne _ (by omega)]
            exact hk2 b (f3.o2.lt hb) (fun g => f3.d12 b g hb)
          · refine f3.o3.keep fun b hb => ?_
            have := f3.b3 b hb
            rw [AH.get_set_ne _ (by omega)]
            exact hk2 b (f3.o3.lt hb) (fun g => f3.d13 b g hb)
          · have := l8 7 (by omega)
            rw [hb2' b hb]; omega
          · have := f3.o2.lt g; rw [hb2' b hb] at this; omega
          · have := f3.o3.lt g; rw [hb2' b hb] at this; omega
      · rintro ex fr lc H3 ⟨rfl, rfl, ⟨e, rfl⟩, so3, ek⟩
        refine thenQ_norm ?_
        have hB3 : (lowB p.first R ++ (if lowB p.first R = [] then [] else [45])).length ≤ 4097 := by rw [List.length_append]; split <;> simp <;> omega
        have hZl : (sortH (highsOf p.first 0 R)).length ≤ 4096 := by omega
        have hZs := sortH_sorted (highs_sorted p.first R 0)
        have hHi : ∀ z ∈ sortH (highsOf p.first 0 R), Hi (R.getD · 0) (lowsOf p.first 0 R) p.first 0 z := fun z hz => by
          rw [(sortH_perm _).mem_iff, highs_mem] at hz
          obtain ⟨k, k1, rfl, k3⟩ := hz
          rw [Nat.zero_add]
          refine ⟨rfl, hrune _ (by rw [List.getD_eq_getElem?_getD, List.getElem?_eq_getElem k1, Option.getD_some]; exact List.getElem_mem k1), fun hm => ?_, k3, fun _ => Nat.zero_le _⟩
          have := hlowbas _ hm
          simp only at this; omega
        obtain ⟨h4, e4, rz4, n4, k4⟩ := sort_highs ek.o2 (by omega) ek.e2
        have sh8 : ∀ k, k ≤ 7 → sh.blk ≠ some (h.n + k) := fun k hk g => by have := ek.b2 _ g; omega
        have l9 := ek.n
        have q0 := (k4 h.n (sh8 0 (by omega))).trans ek.g0
        have q1 := (k4 _ (sh8 1 (by omega))).trans ek.g1
        have q2 := (k4 _ (sh8 2 (by omega))).trans ek.g2
        have q3 := (k4 _ (sh8 3 (by omega))).trans ek.g3
        have q4 := (k4 _ (sh8 4 (by omega))).trans ek.g4
        have q6 := (k4 _ (sh8 6 (by omega))).trans ek.g6
        have ek4 := ek.g4
        have hshl : sh.len = (sortH (highsOf p.first 0 R)).length := by simpa using rz4.1
        have ebg := fun h => begin_eq p h
        unfold bpN bpV stV at ebg
        unfold encFr6
        simp only [List.cons_append, List.nil_append]
        (repeat' first
    | (show WpR _ _ _ _ _ _ _ _ _
       first
       | refine wpr_drop ?_
       | refine wpr_p (o := .mv _) (by simp only [ev_mv, opd_s, opd_c, fget, Nat.reduceEqDiff, Nat.one_ne_zero, Nat.zero_ne_one, reduceCtorEq, ↓reduceIte]; rfl) ?_
       | (refine wpr_fork (fun _ => ?_) (fun _ => ?_) <;> try (exfalso; omega))
       | (refine wpr_forkN (fun _ => ?_) (fun _ => ?_) <;> try (exfalso; omega))
       | refine wpr_run rfl ?_
       | refine wpr_pass rfl rfl ?_
       | refine wpr_passS rfl ?_
       | ((first | apply wpr_p | apply wpr_r | apply wpr_callA | apply wpr_callA0 | apply wpr_e0 | apply wpr_e | apply wpr_end0); focus ((try simp (disch := first | omega | (simp only [AH.nn_push, AH.nn_set, AH.nn_kill]; omega) | (simp only [AH.nn_push, AH.nn_set, AH.nn_kill]; done) | fail) only [push_cast, Nat.reduceEqDiff, ↓reduceIte, reduceCtorEq, Nat.reduceAdd, Nat.reduceMul, Nat.reduceLeDiff, AH.get_push_eq, AH.get_push_ne, AH.get_set_eq, AH.get_set_ne, AH.push_n, AH.set_n, ek4, e4, q0, q4, ebg, hshl]); rfl))
       | refine wpr_pass0 rfl rfl ?_
       | refine wpr_pass0S rfl ?_
       | (apply wpr_callvA; focus ((try simp (disch := first | omega | (simp only [AH.nn_push, AH.nn_set, AH.nn_kill]; omega) | (simp only [AH.nn_push, AH.nn_set, AH.nn_kill]; done) | fail) only [push_cast, Nat.reduceEqDiff, ↓reduceIte, reduceCtorEq, Nat.reduceAdd, Nat.reduceMul, Nat.reduceLeDiff, AH.get_push_eq, AH.get_push_ne, AH.get_set_eq, AH.get_set_ne, AH.push_n, AH.set_n, ek4, e4, q0, q4, ebg, hshl]); rfl))
       | (apply wpr_end; (focus ((try simp (disch := first | omega | (simp only [AH.nn_push, AH.nn_set, AH.nn_kill]; omega) | (simp only [AH.nn_push, AH.nn_set, AH.nn_kill]; done) | fail) only [push_cast, Nat.reduceEqDiff, ↓reduceIte, reduceCtorEq, Nat.reduceAdd, Nat.reduceMul, Nat.reduceLeDiff, AH.get_push_eq, AH.get_push_ne, AH.get_set_eq, AH.get_set_ne, AH.push_n, AH.set_n, ek4, e4, q0, q4, ebg, hshl]); rfl)); (focus (simp (disch := first | omega | (simp only [AH.nn_push, AH.nn_set, AH.nn_kill]; omega) | (simp only [AH.nn_push, AH.nn_set, AH.nn_kill]; done) | fail) only [push_cast, Nat.reduceEqDiff, ↓reduceIte, reduceCtorEq, Nat.reduceAdd, Nat.reduceMul, Nat.reduceLeDiff, AH.get_push_eq, AH.get_push_ne, AH.get_set_eq, AH.get_set_ne, AH.push_n, AH.set_n, ek4, e4, q0, q4, ebg, hshl]; done)))
       | fail)
    | (show Wp _ _ _ _ _ _
       first
       | refine wp_seq ?_
       | refine wp_region0 ?_
       | refine wp_region ?_
       | refine wp_cond_t rfl ?_
       | refine wp_cond_f rfl ?_
       | refine wp_ret ?_
       | refine wp_skip ?_
       | refine wp_exit ?_
       | refine wp_block ?_
       | fail)
    | refine thenQ_norm ?_
    | refine thenQ_ret ?_
    | refine thenQ_exit ?_
    | refine blockQ_norm ?_
    | refine blockQ_ret ?_
    | refine blockQ_same ?_
    | refine blockQ_ne rfl ?_
    | refine loopQ_norm ?_
    | refine loopQ_ret ?_
    | refine loopQ_exit ?_
    | ((first | apply retQ_ret | apply retQ_norm | apply wpc_of); focus ((try simp (disch := first | omega | (simp only [AH.nn_push, AH.nn_set, AH.nn_kill]; omega) | (simp only [AH.nn_push, AH.nn_set, AH.nn_kill]; done) | fail) only [push_cast, Nat.reduceEqDiff, ↓reduceIte, reduceCtorEq, Nat.reduceAdd, Nat.reduceMul, Nat.reduceLeDiff, AH.get_push_eq, AH.get_push_ne, AH.get_set_eq, AH.get_set_ne, AH.push_n, AH.set_n, ek4, e4, q0, q4, ebg, hshl]); rfl))
    | fail)
        generalize hH5 : (AH.set (AH.push h4 _) _ _) = H5
        have n5 : H5.n = h4.n + 1 := by rw [← hH5]; rfl
        have m5 : ∀ b, b < h4.n → H5.get b = h4.get b := fun b hb => by rw [← hH5, AH.get_set_ne _ (by omega), AH.get_push_ne _ (by omega)]
        have m5s : H5.get h4.n = some (.cells false (stV p p.bias p.first ((0 : Nat) : Int) ((0 : Nat) : Int))) := by rw [← hH5]; exact AH.get_set_same _ (by rw [AH.push_n]; omega)
        clear hH5
        have hgs := AH.get_lt q6
        have hbb := ok.i1
        have hff := ok.f2
        have hfl : p.first ≤ 0x10ffff := by unfold RuneN at hff; omega
        refine wp_loop (fun w fr lc h1 => ∃ (i : Nat) (B : Bytes) (T : List Nat) (bias n j many : Nat) (so st : Sl), w = (sortH (highsOf p.first 0 R)).length - i ∧ fr = encFr2 h.n h4.n (sortH (highsOf p.first 0 R)).length sh (i : Int) ∧ lc = [] ∧
            EncL h p (R.getD · 0) (sortH (highsOf p.first 0 R)) (bodyE p R) h4.n sh i B T bias n j many h1 so st ∧ B.length ≤ 65536) (sortH (highsOf p.first 0 R)).length
          ⟨0, lowB p.first R ++ (if lowB p.first R = [] then [] else [45]), lowsOf p.first 0 R, p.bias, p.first, 0, 0, so3, st, rfl, rfl, rfl, ?_, Nat.le_trans hB3 (by decide)⟩ ?_
        · refine ⟨fun b hb => ?_, (m5 _ (by omega)).trans q1, (m5 _ (by omega)).trans q2, (m5 _ (by omega)).trans q3, (m5 _ (by omega)).trans q6, m5s, ?_, ?_, ?_, by omega, fun b hb => ?_, fun b hb => ?_, fun b hb => ?_, ?_, ?_, Nat.zero_le _, lows_sorted _ _ _, by omega, Nat.zero_le _, hfl, Nat.le_refl _, by omega, by omega⟩
          · rw [m5 b (by omega), k4 b (fun g => by have := ek.b2 _ g; omega)]; exact ek.kp b hb
          · exact rz4.keep fun b hb => m5 b (by rw [n4]; exact ek.o2.lt hb)
          · refine ek.o1.keep fun b hb => ?_
            rw [m5 b (by rw [n4]; exact ek.o1.lt hb)]
            exact k4 b (ek.d12 b hb)
          · refine ek.o3.keep fun b hb => ?_
            rw [m5 b (by rw [n4]; exact ek.o3.lt hb)]
            exact k4 b (fun g => ek.d23 b g hb)
          · have := ek.o1.lt hb
            exact ⟨ek.b1 b hb, by omega, ek.d12 b hb, ek.d13 b hb⟩
          · have := ek.o2.lt hb
            exact ⟨ek.b2 b hb, by omega, by omega⟩
          · have := ek.o3.lt hb
            exact ⟨ek.b3 b hb, by omega, fun g => ek.d23 b g hb⟩
          · rw [List.drop_zero]; rfl
          · rw [List.drop_zero]; exact hHi
        · rintro w fr lc h6 ⟨i, B, T, bias, n, j, many, so, st, rfl, rfl, rfl, el, hBl⟩
          rcases Nat.lt_or_ge i (sortH (highsOf p.first 0 R)).length with hi | hi
          · refine wp_mono (enc_turn ok hZs hZl el hi) ?_
            rintro ex fr lc h7 q
            cases ex with
            | norm =>
              obtain ⟨rfl, rfl, B', T', bias', n', j', many', so', st', el', hBl'⟩ := q
              exact loopQ_norm ⟨_, by omega, i + 1, B', T', bias', n', j', many', so', st', rfl, rfl, rfl, el', hBl'⟩
            | ret =>
              obtain ⟨_, ht, rfl, rfl, eg⟩ := q
              refine loopQ_ret ?_
              have g1 := eg.g1
              have g2 := eg.g2
              (repeat' first
    | (show WpR _ _ _ _ _ _ _ _ _
       first
       | refine wpr_drop ?_
       | refine wpr_p (o := .mv _) (by simp only [ev_mv, opd_s, opd_c, fget, Nat.reduceEqDiff, Nat.one_ne_zero, Nat.zero_ne_one, reduceCtorEq, ↓reduceIte]; rfl) ?_
       | (refine wpr_fork (fun _ => ?_) (fun _ => ?_) <;> try (exfalso; omega))
       | (refine wpr_forkN (fun _ => ?_) (fun _ => ?_) <;> try (exfalso; omega))
       | refine wpr_run rfl ?_
       | refine wpr_pass rfl rfl ?_
       | refine wpr_passS rfl ?_
       | ((first | apply wpr_p | apply wpr_r | apply wpr_callA | apply wpr_callA0 | apply wpr_e0 | apply wpr_e | apply wpr_end0); focus ((try simp (disch := first | omega | (simp only [AH.nn_push, AH.nn_set, AH.nn_kill]; omega) | (simp only [AH.nn_push, AH.nn_set, AH.nn_kill]; done) | fail) only [push_cast, Nat.reduceEqDiff, ↓reduceIte, reduceCtorEq, Nat.reduceAdd, Nat.reduceMul, Nat.reduceLeDiff, AH.get_push_eq, AH.get_push_ne, AH.get_set_eq, AH.get_set_ne, AH.push_n, AH.set_n, g1, g2]); rfl))
       | refine wpr_pass0 rfl rfl ?_
       | refine wpr_pass0S rfl ?_
       | (apply wpr_callvA; focus ((try simp (disch := first | omega | (simp only [AH.nn_push, AH.nn_set, AH.nn_kill]; omega) | (simp only [AH.nn_push, AH.nn_set, AH.nn_kill]; done) | fail) only [push_cast, Nat.reduceEqDiff, ↓reduceIte, reduceCtorEq, Nat.reduceAdd, Nat.reduceMul, Nat.reduceLeDiff, AH.get_push_eq, AH.get_push_ne, AH.get_set_eq, AH.get_set_ne, AH.push_n, AH.set_n, g1, g2]); rfl))
       | (apply wpr_end; (focus ((try simp (disch := first | omega | (simp only [AH.nn_push, AH.nn_set, AH.nn_kill]; omega) | (simp only [AH.nn_push, AH.nn_set, AH.nn_kill]; done) | fail) only [push_cast, Nat.reduceEqDiff, ↓reduceIte, reduceCtorEq, Nat.reduceAdd, Nat.reduceMul, Nat.reduceLeDiff, AH.get_push_eq, AH.get_push_ne, AH.get_set_eq, AH.get_set_ne, AH.push_n, AH.set_n, g1, g2]); rfl)); (focus (simp (disch := first | omega | (simp only [AH.nn_push, AH.nn_set, AH.nn_kill]; omega) | (simp only [AH.nn_push, AH.nn_set, AH.nn_kill]; done) | fail) only [push_cast, Nat.reduceEqDiff, ↓reduceIte, reduceCtorEq, Nat.reduceAdd, Nat.reduceMul, Nat.reduceLeDiff, AH.get_push_eq, AH.get_push_ne, AH.get_set_eq, AH.get_set_ne, AH.push_n, AH.set_n, g1, g2]; done)))
       | fail)
    | (show Wp _ _ _ _ _ _
       first
       | refine wp_seq ?_
       | refine wp_region0 ?_
       | refine wp_region ?_
       | refine wp_cond_t rfl ?_
       | refine wp_cond_f rfl ?_
       | refine wp_ret ?_
       | refine wp_skip ?_
       | refine wp_exit ?_
       | refine wp_block ?_
       | fail)
    | refine thenQ_norm ?_
    | refine thenQ_ret ?_
    | refine thenQ_exit ?_
    | refine blockQ_norm ?_
    | refine blockQ_ret ?_
    | refine blockQ_same ?_
    | refine blockQ_ne rfl ?_
    | refine loopQ_norm ?_
    | refine loopQ_ret ?_
    | refine loopQ_exit ?_
    | ((first | apply retQ_ret | apply retQ_norm | apply wpc_of); focus ((try simp (disch := first | omega | (simp only [AH.nn_push, AH.nn_set, AH.nn_kill]; omega) | (simp only [AH.nn_push, AH.nn_set, AH.nn_kill]; done) | fail) only [push_cast, Nat.reduceEqDiff, ↓reduceIte, reduceCtorEq, Nat.reduceAdd, Nat.reduceMul, Nat.reduceLeDiff, AH.get_push_eq, AH.get_push_ne, AH.get_set_eq, AH.get_set_ne, AH.push_n, AH.set_n, g1, g2]); rfl))
    | fail)
              rw [if_pos ht]
              exact ⟨rfl, eg.n, eg.kp⟩
            | exit id => exact absurd q.1 (by simp)
          · have heq := el.eq
            rw [List.drop_of_length_le hi] at heq
            simp only [encH, List.append_nil] at heq
            have hle := el.le
            have hil : i = (sortH (highsOf p.first 0 R)).length := by omega
            have g1 := el.g1
            have g2 := el.g2
            have g3 := el.g3
            have hb2s := fun lc => b2s_own (lc := lc) el.o1
            have lg := AH.get_lt g2
            unfold encFr2
            (repeat' first
    | (show WpR _ _ _ _ _ _ _ _ _
       first
       | refine wpr_drop ?_
       | refine wpr_p (o := .mv _) (by simp only [ev_mv, opd_s, opd_c, fget, Nat.reduceEqDiff, Nat.one_ne_zero, Nat.zero_ne_one, reduceCtorEq, ↓reduceIte]; rfl) ?_
       | (refine wpr_fork (fun _ => ?_) (fun _ => ?_) <;> try (exfalso; omega))
       | (refine wpr_forkN (fun _ => ?_) (fun _ => ?_) <;> try (exfalso; omega))
       | refine wpr_run rfl ?_
       | refine wpr_pass rfl rfl ?_
       | refine wpr_passS rfl ?_
       | ((first | apply wpr_p | apply wpr_r | apply wpr_callA | apply wpr_callA0 | apply wpr_e0 | apply wpr_e | apply wpr_end0); focus ((try simp (disch := first | omega | (simp only [AH.nn_push, AH.nn_set, AH.nn_kill]; omega) | (simp only [AH.nn_push, AH.nn_set, AH.nn_kill]; done) | fail) only [push_cast, Nat.reduceEqDiff, ↓reduceIte, reduceCtorEq, Nat.reduceAdd, Nat.reduceMul, Nat.reduceLeDiff, AH.get_push_eq, AH.get_push_ne, AH.get_set_eq, AH.get_set_ne, AH.push_n, AH.set_n, g1, g2, g3, ev_b2sP, hb2s]); rfl))
       | refine wpr_pass0 rfl rfl ?_
       | refine wpr_pass0S rfl ?_
       | (apply wpr_callvA; focus ((try simp (disch := first | omega | (simp only [AH.nn_push, AH.nn_set, AH.nn_kill]; omega) | (simp only [AH.nn_push, AH.nn_set, AH.nn_kill]; done) | fail) only [push_cast, Nat.reduceEqDiff, ↓reduceIte, reduceCtorEq, Nat.reduceAdd, Nat.reduceMul, Nat.reduceLeDiff, AH.get_push_eq, AH.get_push_ne, AH.get_set_eq, AH.get_set_ne, AH.push_n, AH.set_n, g1, g2, g3, ev_b2sP, hb2s]); rfl))
       | (apply wpr_end; (focus ((try simp (disch := first | omega | (simp only [AH.nn_push, AH.nn_set, AH.nn_kill]; omega) | (simp only [AH.nn_push, AH.nn_set, AH.nn_kill]; done) | fail) only [push_cast, Nat.reduceEqDiff, ↓reduceIte, reduceCtorEq, Nat.reduceAdd, Nat.reduceMul, Nat.reduceLeDiff, AH.get_push_eq, AH.get_push_ne, AH.get_set_eq, AH.get_set_ne, AH.push_n, AH.set_n, g1, g2, g3, ev_b2sP, hb2s]); rfl)); (focus (simp (disch := first | omega | (simp only [AH.nn_push, AH.nn_set, AH.nn_kill]; omega) | (simp only [AH.nn_push, AH.nn_set, AH.nn_kill]; done) | fail) only [push_cast, Nat.reduceEqDiff, ↓reduceIte, reduceCtorEq, Nat.reduceAdd, Nat.reduceMul, Nat.reduceLeDiff, AH.get_push_eq, AH.get_push_ne, AH.get_set_eq, AH.get_set_ne, AH.push_n, AH.set_n, g1, g2, g3, ev_b2sP, hb2s]; done)))
       | fail)
    | (show Wp _ _ _ _ _ _
       first
       | refine wp_seq ?_
       | refine wp_region0 ?_
       | refine wp_region ?_
       | refine wp_cond_t rfl ?_
       | refine wp_cond_f rfl ?_
       | refine wp_ret ?_
       | refine wp_skip ?_
       | refine wp_exit ?_
       | refine wp_block ?_
       | fail)
    | refine thenQ_norm ?_
    | refine thenQ_ret ?_
    | refine thenQ_exit ?_
    | refine blockQ_norm ?_
    | refine blockQ_ret ?_
    | refine blockQ_same ?_
    | refine blockQ_ne rfl ?_
    | refine loopQ_norm ?_
    | refine loopQ_ret ?_
    | refine loopQ_exit ?_
    | ((first | apply retQ_ret | apply retQ_norm | apply wpc_of); focus ((try simp (disch := first | omega | (simp only [AH.nn_push, AH.nn_set, AH.nn_kill]; omega) | (simp only [AH.nn_push, AH.nn_set, AH.nn_kill]; done) | fail) only [push_cast, Nat.reduceEqDiff, ↓reduceIte, reduceCtorEq, Nat.reduceAdd, Nat.reduceMul, Nat.reduceLeDiff, AH.get_push_eq, AH.get_push_ne, AH.get_set_eq, AH.get_set_ne, AH.push_n, AH.set_n, g1, g2, g3, ev_b2sP, hb2s]); rfl))
    | fail)
            rw [heq] at hBl ⊢
            rw [if_neg (by omega)]
            refine ⟨rfl, by rw [AH.set_n, AH.set_n]; omega, fun b hb => ?_⟩
            rw [AH.get_set_ne _ (by omega), AH.get_set_ne _ (by omega)]
            exact el.kp b hb
    · rintro ex h1 hex ⟨rfl, f2, f3⟩
      have hE : encF p l = ([], scanE p 0 (spots l)) := by unfold encF; rw [if_neg (by omega), if_neg f2]
      have g1 := f3.g1
      have g2 := f3.g2
      rw [hE]
      (repeat' first
    | (show WpR _ _ _ _ _ _ _ _ _
       first
       | refine wpr_drop ?_
       | refine wpr_p (o := .mv _) (by simp only [ev_mv, opd_s, opd_c, fget, Nat.reduceEqDiff, Nat.one_ne_zero, Nat.zero_ne_one, reduceCtorEq, ↓reduceIte]; rfl) ?_
       | (refine wpr_fork (fun _ => ?_) (fun _ => ?_) <;> try (exfalso; omega))
       | (refine wpr_forkN (fun _ => ?_) (fun _ => ?_) <;> try (exfalso; omega))
       | refine wpr_run rfl ?_
       | refine wpr_pass rfl rfl ?_
       | refine wpr_passS rfl ?_
       | ((first | apply wpr_p | apply wpr_r | apply wpr_callA | apply wpr_callA0 | apply wpr_e0 | apply wpr_e | apply wpr_end0); focus ((try simp (disch := first | omega | (simp only [AH.nn_push, AH.nn_set, AH.nn_kill]; omega) | (simp only [AH.nn_push, AH.nn_set, AH.nn_kill]; done) | fail) only [push_cast, Nat.reduceEqDiff, ↓reduceIte, reduceCtorEq, Nat.reduceAdd, Nat.reduceMul, Nat.reduceLeDiff, AH.get_push_eq, AH.get_push_ne, AH.get_set_eq, AH.get_set_ne, AH.push_n, AH.set_n, g1, g2]); rfl))
       | refine wpr_pass0 rfl rfl ?_
       | refine wpr_pass0S rfl ?_
       | (apply wpr_callvA; focus ((try simp (disch := first | omega | (simp only [AH.nn_push, AH.nn_set, AH.nn_kill]; omega) | (simp only [AH.nn_push, AH.nn_set, AH.nn_kill]; done) | fail) only [push_cast, Nat.reduceEqDiff, ↓reduceIte, reduceCtorEq, Nat.reduceAdd, Nat.reduceMul, Nat.reduceLeDiff, AH.get_push_eq, AH.get_push_ne, AH.get_set_eq, AH.get_set_ne, AH.push_n, AH.set_n, g1, g2]); rfl))
       | (apply wpr_end; (focus ((try simp (disch := first | omega | (simp only [AH.nn_push, AH.nn_set, AH.nn_kill]; omega) | (simp only [AH.nn_push, AH.nn_set, AH.nn_kill]; done) | fail) only [push_cast, Nat.reduceEqDiff, ↓reduceIte, reduceCtorEq, Nat.reduceAdd, Nat.reduceMul, Nat.reduceLeDiff, AH.get_push_eq, AH.get_push_ne, AH.get_set_eq, AH.get_set_ne, AH.push_n, AH.set_n, g1, g2]); rfl)); (focus (simp (disch := first | omega | (simp only [AH.nn_push, AH.nn_set, AH.nn_kill]; omega) | (simp only [AH.nn_push, AH.nn_set, AH.nn_kill]; done) | fail) only [push_cast, Nat.reduceEqDiff, ↓reduceIte, reduceCtorEq, Nat.reduceAdd, Nat.reduceMul, Nat.reduceLeDiff, AH.get_push_eq, AH.get_push_ne, AH.get_set_eq, AH.get_set_ne, AH.push_n, AH.set_n, g1, g2]; done)))
       | fail)
    | (show Wp _ _ _ _ _ _
       first
       | refine wp_seq ?_
       | refine wp_region0 ?_
       | refine wp_region ?_
       | refine wp_cond_t rfl ?_
       | refine wp_cond_f rfl ?_
       | refine wp_ret ?_
       | refine wp_skip ?_
       | refine wp_exit ?_
       | refine wp_block ?_
       | fail)
    | refine thenQ_norm ?_
    | refine thenQ_ret ?_
    | refine thenQ_exit ?_
    | refine blockQ_norm ?_
    | refine blockQ_ret ?_
    | refine blockQ_same ?_
    | refine blockQ_ne rfl ?_
    | refine loopQ_norm ?_
    | refine loopQ_ret ?_
    | refine loopQ_exit ?_
    | ((first | apply retQ_ret | apply retQ_norm | apply wpc_of); focus ((try simp (disch := first | omega | (simp only [AH.nn_push, AH.nn_set, AH.nn_kill]; omega) | (simp only [AH.nn_push, AH.nn_set, AH.nn_kill]; done) | fail) only [push_cast, Nat.reduceEqDiff, ↓reduceIte, reduceCtorEq, Nat.reduceAdd, Nat.reduceMul, Nat.reduceLeDiff, AH.get_push_eq, AH.get_push_ne, AH.get_set_eq, AH.get_set_ne, AH.push_n, AH.set_n, g1, g2]); rfl))
    | fail)
      exact ⟨rfl, f3.n, f3.kp⟩

end Go.Proofs.Ytmfpkgcphlilmaa.AM
