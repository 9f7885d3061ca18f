/- Parts of proofs: lemmas, joined. -/
import Derived.Test.YtakmapoompffgaaGreatDoorPae2010d4
set_option linter.unusedVariables false
set_option linter.unusedSimpArgs false
set_option linter.unusedSectionVars false
namespace Go.Proofs.YtakmapoompffgaaGreatDoor.AM
open Go
def iaddrAP (nn e : Nat) : Value → Value → Option Value
  | .pointer (some a), .int _ j => if 0 ≤ j ∧ j < nn then some (.pointer (some (ptrOff a (j.toNat * e)))) else none
  | _, _ => none
theorem ev_iaddrA {fr : Fr} {nn e : Nat} {x i : Opd} : (POp.iaddrA nn e x i).ev fr = iaddrAP nn e (opd fr x) (opd fr i) := rfl
theorem iaddrAP_mk {nn e b o : Nat} {sp : Option Nat} {k : IntKind} {j : Int} (h0 : 0 ≤ j) (h1 : j < nn) : iaddrAP nn e (.pointer (some ⟨b, o, sp⟩)) (.int k j) = some (.pointer (some ⟨b, o + j.toNat * e, sp⟩)) := by
  simp only [iaddrAP]
  rw [if_pos ⟨h0, h1⟩]
  rfl
attribute [push_cast] ev_iaddrA iaddrAP_mk Nat.mul_one
theorem vsame_map {m : Option Nat} : vsame (.map m) (.map m) = true := by simp [vsame, vsame1, vsame0]
theorem vsame1_map {m : Option Nat} : vsame1 (.map m) (.map m) = true := by simp [vsame1, vsame0]
attribute [push_cast] vsame_map vsame1_map
def lookV (kk : KK) (z : Value) (ok : Bool) (h : AH) (x k : Value) : Option Value :=
  match (match x with
    | .map none => some []
    | .map (some b) => (match h.get b with
      | some (.map es) => some es
      | _ => none)
    | _ => none : Option (List (Value × Value))) with
  | some es => if keyEq kk k k = some true then
      match keyFind kk k es with
      | some (some v) => some (if ok then .tuple #[v, .bool true] else v)
      | some none => some (if ok then .tuple #[z, .bool false] else z)
      | none => none
    else none
  | none => none
theorem ev_lookup {fr : Fr} {lc : Lc} {h : AH} {kk : KK} {z : Value} {ok : Bool} {x k : Opd} : (ROp.lookup kk z ok x k).ev fr ⟨lc, h⟩ = lookV kk z ok h (opd fr x) (opd fr k) := rfl
def upV (kk : KK) (lc : Lc) (h : AH) (x k v : Value) : Option (Value × Mem) :=
  match x with
  | .map (some b) => match h.get b with
    | some (.map es) =>
      match keyFind kk k es with
      | some _ => if okV v = true ∧ keyEq kk k k = some true then some (undef, ⟨lc, h.set b (.map (keySet kk k v es))⟩) else none
      | none => none
    | _ => none
  | _ => none
theorem ev_mapup {c : CallF} {y : YieldF} {fr : Fr} {lc : Lc} {h : AH} {kk : KK} {m k x : Opd} : (EOp.mapup kk m k x).ev c y fr ⟨lc, h⟩ = upV kk lc h (opd fr m) (opd fr k) (opd fr x) := rfl
def entV (kk : KK) (z : Value) (lc : Lc) (h : AH) (x k : Value) : Option (Value × Mem) :=
  match x with
  | .map (some b) => match h.get b with
    | some (.map es) =>
      if keyEq kk k k = some true then
        match keyIx kk k es with
        | some j => match es[j]? with
          | some p => some (.tuple #[p.2, .int .i64 j], ⟨lc, h⟩)
          | none => some (.tuple #[z, .int .i64 es.length], ⟨lc, h.set b (.map (es ++ [(k, z)]))⟩)
        | none => none
      else none
    | _ => none
  | _ => none
theorem ev_mapent {c : CallF} {y : YieldF} {fr : Fr} {lc : Lc} {h : AH} {kk : KK} {z : Value} {m k : Opd} : (EOp.mapent kk z m k).ev c y fr ⟨lc, h⟩ = entV kk z lc h (opd fr m) (opd fr k) := rfl
def stV (lc : Lc) (h : AH) (x i v : Value) : Option (Value × Mem) :=
  match x, i with
  | .map (some b), .int .i64 j => match h.get b with
    | some (.map es) => match es[j.toNat]? with
      | some p => if 0 ≤ j ∧ okV v = true then some (undef, ⟨lc, h.set b (.map (es.set j.toNat (p.1, v)))⟩) else none
      | none => none
    | _ => none
  | _, _ => none
theorem ev_mapst {c : CallF} {y : YieldF} {fr : Fr} {lc : Lc} {h : AH} {m i x : Opd} : (EOp.mapst m i x).ev c y fr ⟨lc, h⟩ = stV lc h (opd fr m) (opd fr i) (opd fr x) := rfl
theorem ev_mkmap {c : CallF} {y : YieldF} {fr : Fr} {lc : Lc} {h : AH} : EOp.mkmap.ev c y fr ⟨lc, h⟩ = some (.map (some h.n), ⟨lc, h.push (.map [])⟩) := rfl
attribute [push_cast] ev_lookup ev_mapup ev_mapent ev_mapst ev_mkmap
structure KeyOk {K : Type} [DecidableEq K] (kk : KK) (ke : K → Value) : Prop where
  eq : ∀ a b, keyEq kk (ke a) (ke b) = some (decide (a = b))
def kI (r : Int) : Value := .int .i32 r
def kP (p : Int × Int) : Value := .agg (List.toArray [.int .i32 p.1, .int .i32 p.2])
def kS (s : ByteArray) : Value := .string s
theorem kI_ok : KeyOk (.one .int) kI := ⟨fun a b => by
  simp only [keyEq, kI, eqCells, if_true]
  by_cases h : a = b
  · simp [h]
  · simp [h]⟩
theorem kP_ok : KeyOk (.agg [.int, .int]) kP := ⟨fun a b => by
  simp only [keyEq, kP, eqCells_two]
  congr 1
  exact decide_eq_decide.2 ⟨fun h => Prod.ext h.1 h.2, fun h => by rw [h]; exact ⟨rfl, rfl⟩⟩⟩
theorem kS_ok : KeyOk (.one .string) kS := ⟨fun a b => by
  simp only [keyEq, kS, eqCells]
  by_cases h : a = b
  · subst h; simp [bytes_beq_self]
  · have : (a == b) = false := by
      obtain ⟨a⟩ := a; obtain ⟨b⟩ := b
      show (a == b) = false
      rw [beq_eq_false_iff_ne]
      exact fun e => h (by rw [e])
    simp [this, h]⟩
section
variable {K α : Type} [DecidableEq K] {kk : KK} {ke : K → Value} {key : α → K} {val : α → Value}
theorem key_find (ok : KeyOk kk ke) (a : K) : ∀ L : List α, keyFind kk (ke a) (L.map fun x => (ke (key x), val x)) = some ((L.find? fun x => decide (a = key x)).map val)
  | [] => rfl
  | x :: L => by
    simp only [List.map_cons, keyFind, ok.eq, List.find?_cons]
    by_cases h : a = key x
    · simp [h]
    · simp only [h, decide_false]
      exact key_find ok a L
theorem key_self (ok : KeyOk kk ke) (a : K) : keyEq kk (ke a) (ke a) = some true := by rw [ok.eq]; simp
theorem key_set (ok : KeyOk kk ke) (a : K) (v : Value) : ∀ L : List α, (∀ x ∈ L, a ≠ key x) → keySet kk (ke a) v (L.map fun x => (ke (key x), val x)) = (L.map fun x => (ke (key x), val x)) ++ [(ke a, v)]
  | [], _ => rfl
  | x :: L, h => by
    simp only [List.map_cons, keySet, ok.eq, decide_eq_false (h x (by simp)), List.cons_append]
    rw [key_set ok a v L fun y hy => h y (List.mem_cons_of_mem _ hy)]
theorem key_ix (ok : KeyOk kk ke) (a : K) : ∀ L : List α, (∀ x ∈ L, a ≠ key x) → keyIx kk (ke a) (L.map fun x => (ke (key x), val x)) = some L.length
  | [], _ => rfl
  | x :: L, h => by
    simp only [List.map_cons, keyIx, ok.eq, decide_eq_false (h x (by simp)), List.length_cons]
    rw [key_ix ok a L fun y hy => h y (List.mem_cons_of_mem _ hy)]
    rfl
variable {h : AH} {m : Nat} {L : List α}
theorem look_map (ok : KeyOk kk ke) (hm : h.get m = some (.map (L.map fun x => (ke (key x), val x)))) (z : Value) (a : K) :
    lookV kk z false h (.map (some m)) (ke a) = some (((L.find? fun x => decide (a = key x)).map val).getD z) := by
  simp only [lookV, hm, key_self ok, if_true, key_find ok]
  cases L.find? fun x => decide (a = key x) <;> rfl
theorem look_mapOk (ok : KeyOk kk ke) (hm : h.get m = some (.map (L.map fun x => (ke (key x), val x)))) (z : Value) (a : K) :
    lookV kk z true h (.map (some m)) (ke a) = some (.tuple (List.toArray [((L.find? fun x => decide (a = key x)).map val).getD z, .bool (L.find? fun x => decide (a = key x)).isSome])) := by
  simp only [lookV, hm, key_self ok, if_true, key_find ok]
  cases L.find? fun x => decide (a = key x) <;> rfl
theorem up_map (ok : KeyOk kk ke) (hm : h.get m = some (.map (L.map fun x => (ke (key x), val x)))) (lc : Lc) (x : α) (hv : okV (val x) = true) (hn : ∀ y ∈ L, key x ≠ key y) :
    upV kk lc h (.map (some m)) (ke (key x)) (val x) = some (undef, ⟨lc, h.set m (.map ((L ++ [x]).map fun x => (ke (key x), val x)))⟩) := by
  simp only [upV, hm, key_self ok, key_find ok, hv, and_self, if_true, key_set ok (key x) (val x) L hn, List.map_append, List.map_cons, List.map_nil]
theorem ent_map (ok : KeyOk kk ke) (hm : h.get m = some (.map (L.map fun x => (ke (key x), val x)))) (z : Value) (lc : Lc) (a : K) (hn : ∀ y ∈ L, a ≠ key y) :
    entV kk z lc h (.map (some m)) (ke a) = some (.tuple (List.toArray [z, .int .i64 L.length]), ⟨lc, h.set m (.map ((L.map fun x => (ke (key x), val x)) ++ [(ke a, z)]))⟩) := by
  simp only [entV, hm, key_self ok, key_ix ok a L hn, if_true]
  rw [List.getElem?_eq_none (by simp)]
  simp
theorem st_map {z : Value} (lc : Lc) (x : α) (hm : h.get m = some (.map ((L.map fun x => (ke (key x), val x)) ++ [(ke (key x), z)]))) (hv : okV (val x) = true) :
    stV lc h (.map (some m)) (.int .i64 L.length) (val x) = some (undef, ⟨lc, h.set m (.map ((L ++ [x]).map fun x => (ke (key x), val x)))⟩) := by
  simp only [stV, hm, Int.toNat_natCast]
  rw [List.getElem?_append_right (by simp)]
  simp [hv]
end
theorem scanL_find {α β : Type} {L : List α} {P : α → Prop} [DecidablePred P] {val : α → β} : (scanL L fun _ x => if P x then some (val x) else none) = (L.find? fun x => decide (P x)).map val := by
  cases h : L.find? fun x => decide (P x) with
  | none =>
    refine scan_end fun j hj => ?_
    rw [List.getElem?_eq_getElem hj]
    have := List.find?_eq_none.1 h _ (List.getElem_mem hj)
    exact if_neg (by simpa using this)
  | some x =>
    obtain ⟨hp, ps, bs, rfl, hn⟩ := List.find?_eq_some_iff_append.1 h
    refine scan_hit (i := ps.length) (fun j hj => ?_) (by simp) ?_
    · rw [List.getElem?_append_left hj, List.getElem?_eq_getElem hj]
      have := hn _ (List.getElem_mem hj)
      exact if_neg (by simpa using this)
    · rw [List.getElem?_append_right (Nat.le_refl _), Nat.sub_self]
      exact if_pos (of_decide_eq_true hp)
section
variable {p : Prg} {fr : Fr} {lc : Lc} {h : AH} {Q : Post}
theorem wp_scanJ {α β : Type} {a : LCode} {F : Int → Fr} (J : Nat → AH → Prop) (k : Nat) (l : List α) (g : Nat → α → Option β) (hF : ∀ n : Int, setF fr k (.int .i64 n) = F n) (h0 : fr = F 0) (hJ : J 0 h)
    (more : ∀ i (hi : i < l.length) h, J i h → (∀ w, g i l[i] = some w → scanL l g = some w) → Wp p a (F i) lc h (loopQ (fun fr' lc' h' => g i l[i] = none ∧ fr' = F ((i : Int) + 1) ∧ lc' = lc ∧ J (i + 1) h') Q))
    (fin : ∀ h, J l.length h → scanL l g = none → Wp p a (F l.length) lc h (loopQ (fun _ _ _ => False) Q)) : Wp p (.loop a) fr lc h Q := by
  refine wp_scanL l g (fun i fr lc' h => fr = F i ∧ lc' = lc ∧ J i h) ⟨h0, rfl, hJ⟩ ?_ ?_
  · rintro _ _ h ⟨rfl, rfl, hj⟩ fn
    exact fin h hj fn
  · rintro i hi _ _ h ⟨rfl, rfl, hj⟩ hit
    refine wp_mono (more i hi h hj hit) fun ex fr lc h hq => ?_
    have hq := hq.out
    cases ex with
    | norm => exact ⟨⟨hq.1, by rw [hq.2.1]; simp only [Int.natCast_add]; rfl, hq.2.2.1, hq.2.2.2⟩⟩
    | exit j => exact ⟨hq⟩
    | ret => exact ⟨hq⟩
end
section
variable {p : Prg} {fr : Fr} {lc : Lc} {h : AH} {Q : Post} {H : Value → Lc → AH → Prop}
theorem wo_next {b k i : Nat} {s : ByteArray} {l : Bytes} (hl : l = s.data.toList) (hg : lget lc b = some (.siter s (posn l i))) (hi : i < (spots l).length)
    (hq : H (.tuple (List.toArray [.bool true, .int .i64 (posn l i : Nat), .int .i32 ((spots l)[i]).1])) ((b, .siter s (posn l (i + 1))) :: lc) h) : WpO p (.e (.nxtS (.s 0))) [.pointer (some ⟨b, 0, some k⟩)] lc h H := by
  obtain ⟨p1, p2, p3⟩ := posn_lt hi
  have hz : l.length = s.size := by rw [hl]; rfl
  have hd : Utf8.decode s (posn l i) = (spots l)[i] := by rw [decode_list s _ (by omega), ← hl, p2]
  refine wo_next_more hg (by omega) ?_
  rw [hd, ← posn_succ hi]
  exact hq
theorem wo_nextE {b k : Nat} {s : ByteArray} {l : Bytes} (hl : l = s.data.toList) (hg : lget lc b = some (.siter s l.length)) (hq : H (.tuple (List.toArray [.bool false])) lc h) : WpO p (.e (.nxtS (.s 0))) [.pointer (some ⟨b, 0, some k⟩)] lc h H :=
  wo_next_end hg (by have hz : l.length = s.size := by rw [hl]; rfl
                     omega) hq
def setL : Lc → Nat → AObj → Lc
  | [], _, _ => []
  | (k, v) :: r, n, x => if k = n then (k, x) :: r else (k, v) :: setL r n x
attribute [push_cast] setL
theorem wp_spots {β : Type} {n : Nat} {keep : List Nat} {sts : List St} {b : LCode} {L : Nat → Lc} {F : Int → Fr} (k : Option Nat) (K : Nat) (s : ByteArray) (l : Bytes) (J : AH → Prop) (g : Nat → Nat × Nat → Option β) (hl : l = s.data.toList)
    (hF : ∀ m : Int, (match k with | some k => setF fr k (.int .i64 m) | none => fr) = F m) (hf0 : AgF (F 0) fr) (hk : ∀ m : Int, okS keep ((F m).map (·.1)) n sts = true) (hL : ∀ n, setL lc K (.siter s n) = L n) (h0 : lc = L 0) (hJ : J h)
    (more : ∀ i (hi : i < (spots l).length) h, J h → (∀ w, g i (spots l)[i] = some w → scanL (spots l) g = some w) →
      WpS p keep sts (F i) (L (posn l i)) h (thenQ p b (loopQ (fun fr' lc' h' => g i (spots l)[i] = none ∧ AgF (F ((i : Int) + 1)) fr' ∧ lc' = L (posn l (i + 1)) ∧ J h') Q) .norm))
    (fin : ∀ h, J h → scanL (spots l) g = none → WpS p keep sts (F (spots l).length) (L l.length) h (thenQ p b (loopQ (fun _ _ _ => False) Q) .norm)) : Wp p (.loop (.seq (R n keep sts) b)) fr lc h Q := by
  refine wp_scanL (spots l) g (fun i fr lc' h => AgF (F i) fr ∧ lc' = L (posn l i) ∧ J h) ⟨hf0, by rw [posn_zero]; exact h0, hJ⟩ ?_ ?_
  · rintro fr _ h ⟨ha, rfl, hj⟩ fn
    rw [posn_all]
    exact wp_seq (wp_RA ha (hk _) (fin h hj fn))
  · rintro i hi fr _ h ⟨ha, rfl, hj⟩ hit
    refine wp_mono (wp_seq (wp_RA ha (hk _) (more i hi h hj hit))) fun ex fr lc h hq => ?_
    have hq := hq.out
    cases ex with
    | norm => exact ⟨⟨hq.1, by rw [show ((i + 1 : Nat) : Int) = (i : Int) + 1 by omega]; exact hq.2.1, hq.2.2.1, hq.2.2.2⟩⟩
    | exit j => exact ⟨hq⟩
    | ret => exact ⟨hq⟩
theorem wp_loopB {n : Nat} {keep : List Nat} {sts : List St} {c b : LCode} (I : Nat → Fr → Lc → AH → Prop) (w : Nat) (f0 : Fr) (ha : AgF f0 fr) (h0 : I w f0 lc h) (hk : ∀ w f0 lc h, I w f0 lc h → okS keep (f0.map (·.1)) n sts = true)
    (step : ∀ w f0 lc h, I w f0 lc h → WpS p keep sts f0 lc h (thenQ p c (thenQ p b (loopQ (fun fr lc h => ∃ w', w' < w ∧ ∃ f1, AgF f1 fr ∧ I w' f1 lc h) Q)) .norm)) : Wp p (.loop (.seq (.seq (R n keep sts) c) b)) fr lc h Q := by
  refine wp_loop (fun w fr lc h => ∃ f0, AgF f0 fr ∧ I w f0 lc h) w ⟨f0, ha, h0⟩ ?_
  rintro w fr lc h ⟨f0, ha, hI⟩
  exact wp_seq (wp_seq (wp_RA ha (hk _ _ _ _ hI) (step w f0 lc h hI)))
end
end Go.Proofs.YtakmapoompffgaaGreatDoor.AM
namespace Go.Proofs.YtakmapoompffgaaGreatDoor.AM
open Go
def LF_tables_wrong : LFunc :=
  .mk 3 [.cell 6 (some 3)] (.seq (R 6 [0, 1, 2, 6] [.tmp 6 (xnl 6 [.int .i64 0, .int .i64 0, .int .i64 0])]) (.seq (R 7 [6] [.run (xst 3 (.sl 6) (.op (.p (.build [.int .i64 0, .int
  .i64 0, .int .i64 0] [(0, 1, .s 0), (1, 1, .s 1), (2, 1, .s 2)])) (.cons (.va 0) (.cons (.va 1) (.va 2)))))]) .ret))
theorem fn_tables_wrong : (autoPrg Tryz.prog).fn 92 = some LF_tables_wrong := by kernel_rfl
def LF_tables_name : LFunc :=
  .mk 1 [.tmp 2] (.seq (R 999 [0] [.set 2 (.cv (.bool false))]) (.seq (.seq (R 5 [0, 6] [.tmp 6 (.op (.e (.rngS 6 (.s 0))) (.va 0))]) (.block 0 (.loop (.seq (R 7 [0, 6, 7, 8] [.tmp
  7 (.op (.e (.nxtS (.s 0))) (.sl 6)), .tmp 8 (xex 0 (.sl 7))]) (.seq (.cond (.s 8) .skip (.exit 0)) (.block 1 (.seq (R 9 [0, 3, 4, 6] [.tmp 9 (xex 1 (.sl 7)), .tmp 10 (xex 2 (.sl
  7)), .set 3 (.sl 9), .set 4 (.sl 10)]) (.seq (R 11 [0, 6, 32] [.tmp 32 (.and (.or (xb .lss (.va 4) (xr 97)) (xb .gtr (.va 4) (xr 122))) (.or (xb .eql (.va 3) (xi 0)) (.and (xb
  .neq (.va 4) (xr 45)) (.or (xb .lss (.va 4) (xr 48)) (xb .gtr (.va 4) (xr 57))))))]) (.cond (.s 32) (.seq (R 999 [2] [.set 2 (.cv (.bool false))]) .ret) .skip))))))))) (.seq (R 33
  [2] [.set 2 (.and (xb .neq (.va 0) (.cv (.string ⟨#[]⟩))) (xb .leq (xsl (.va 0)) (xi 32)))]) .ret)))
theorem fn_tables_name : (autoPrg Tryz.prog).fn 93 = some LF_tables_name := by kernel_rfl
def LF_sets_Right : LFunc :=
  .mk 1 [.tmp 2, .tmp 3] (.seq (R 999 [0] [.set 2 (xi 0), .set 3 (xi 0)]) (.seq (.seq (R 7 [0, 7, 8, 9] [.tmp 7 (.va 0), .tmp 8 (xlen (.sl 7)), .set 9 (xi 0)]) (.block 0 (.loop
  (.seq (R 10 [0, 7, 8, 9, 10] [.tmp 10 (xb .lss (.sl 9) (.sl 8))]) (.seq (.cond (.s 10) .skip (.exit 0)) (.seq (.block 1 (.seq (R 11 [0, 4, 5, 7, 8, 9] [.tmp 11 (.va 9), .tmp 13
  (xln 2 (xia 2 (.sl 7) (.sl 9))), .at 5, .tmp 5 (xnl 5 [.int .i32 0, .int .i32 0]), .set 4 (.sl 11), .run (xst 2 (.sl 5) (.sl 13))]) (.seq (.seq (R 14 [0, 4, 5, 6, 7, 8, 9] [.set 6
  (xc1 133 (xln 2 (.sl 5)))]) (.seq (R 16 [0, 4, 5, 6, 7, 8, 9, 17] [.tmp 17 (xb .neq (.va 6) (xi 0))]) (.cond (.s 17) (.seq (R 18 [2, 3] [.tmp 18 (.va 4), .tmp 19 (.va
  6), .set 2 (.sl 18), .set 3 (.sl 19)]) .ret) .skip))) (.seq (R 20 [0, 4, 7, 8, 9, 32] [.tmp 32 (.and (xb .gtr (.va 4) (xi 0)) (xb .leq (xld (xfa 0 (.sl 5))) (xld (xfa 1 (xia 2
  (.va 0) (xb .sub (.va 4) (xi 1)))))))]) (.cond (.s 32) (.seq (R 33 [2, 3] [.set 2 (.va 4), .set 3 (xi 13)]) .ret) .skip))))) (R 34 [0, 7, 8, 9] [.set 9 (xb .add (.sl 9) (xi
  1))]))))))) (.seq (R 999 [2, 3] [.set 2 (xi 0), .set 3 (xi 0)]) .ret)))
theorem fn_sets_Right : (autoPrg Tryz.prog).fn 94 = some LF_sets_Right := by kernel_rfl
def LF_utf8_ValidRune : LFunc :=
  .mk 1 [.tmp 2] (.seq (R 999 [0] [.set 2 (.cv (.bool false))]) (.seq (.block 0 (.seq (R 4 [0, 3] [.set 3 (.and (xb .leq (xr 0) (.va 0)) (xb .lss (.va 0) (xr 55296)))]) (.cond (.s
  3) (.seq (R 999 [2] [.set 2 (.cv (.bool true))]) .ret) (.seq (R 11 [10] [.set 10 (.and (xb .lss (xr 57343) (.va 0)) (xb .leq (.va 0) (xr 1114111)))]) (.cond (.s 10) (.seq (R 999
  [2] [.set 2 (.cv (.bool true))]) .ret) .skip))))) (.seq (R 999 [2] [.set 2 (.cv (.bool false))]) .ret)))
theorem fn_utf8_ValidRune : (autoPrg Tryz.prog).fn 95 = some LF_utf8_ValidRune := by kernel_rfl
def LF_utf8_RuneCountInString : LFunc :=
  .mk 1 [.tmp 2] (.seq (R 999 [0, 2] [.set 2 (xi 0)]) (.seq (.seq (R 3 [2, 4] [.tmp 4 (.op (.e (.rngS 4 (.s 0))) (.va 0))]) (.block 0 (.loop (.seq (R 5 [2, 4, 6] [.tmp 6 (xex 0 (.op
  (.e (.nxtS (.s 0))) (.sl 4)))]) (.seq (.cond (.s 6) .skip (.exit 0)) (.block 1 (R 7 [2, 4] [.set 2 (xb .add (.va 2) (xi 1))]))))))) (.seq (R 9 [2] [.set 2 (.va 2)]) .ret)))
theorem fn_utf8_RuneCountInString : (autoPrg Tryz.prog).fn 96 = some LF_utf8_RuneCountInString := by kernel_rfl
def LF_utf8_ValidString : LFunc :=
  .mk 1 [.tmp 2] (.seq (R 999 [0] [.set 2 (.cv (.bool false))]) (.seq (.block 0 (.loop (.seq (.seq (R 7 [0, 9] [.tmp 9 (xb .gtr (xsl (.va 0)) (xi 0))]) (.cond (.s 9) .skip (.exit
  0))) (.block 1 (.seq (R 10 [0, 3] [.set 3 (xis (.va 0) (xi 0))]) (.seq (.seq (R 12 [0, 3, 13] [.tmp 13 (xb .lss (.va 3) (.cv (.int .u8 128)))]) (.cond (.s 13) (.seq (R 14 [0]
  [.set 0 (.op (.p (.slS (.s 0) (some (.s 1)) none)) (.cons (.va 0) (xi 1)))]) (.seq (.seq (R 16 [0, 24] [.tmp 24 (.and (xb .gtr (xsl (.va 0)) (xi 8)) (xb .eql (xb .and (xc1
  134 (.va 0)) (.cv (.int .u64 9259542123273814144))) (.cv (.int .u64 0))))]) (.cond (.s 24) (.seq (R 25 [0] [.set 0 (.op (.p (.slS (.s 0) (some (.s 1)) none))
  (.cons (.va 0) (xi 8)))]) (.seq (R 27 [0, 39] [.tmp 39 (.and (xb .gtr (xsl (.va 0)) (xi 16)) (xb .eql (xb .and (xb .or (xc1 134 (.va 0)) (xc1
  134 (.op (.p (.slS (.s 0) (some (.s 1)) none)) (.cons (.va 0) (xi 8))))) (.cv (.int .u64 9259542123273814144))) (.cv (.int .u64 0))))]) (.cond (.s 39) (.seq (R
  40 [0] [.set 0 (.op (.p (.slS (.s 0) (some (.s 1)) none)) (.cons (.va 0) (xi 16)))]) (.block 2 (.loop (.seq (.seq (R 42 [0, 62] [.tmp 62 (.and (xb .gtr (xsl (.va 0)) (xi 32)) (xb
  .eql (xb .and (xb .or (xb .or (xc1 134 (.va 0)) (xc1 134 (.op (.p (.slS (.s 0) (some (.s 1)) none)) (.cons (.va 0) (xi 8))))) (xb .or (xc1
  134 (.op (.p (.slS (.s 0) (some (.s 1)) none)) (.cons (.va 0) (xi 16)))) (xc1 134 (.op (.p (.slS (.s 0) (some (.s 1)) none)) (.cons (.va 0) (xi
  24)))))) (.cv (.int .u64 9259542123273814144))) (.cv (.int .u64 0))))]) (.cond (.s 62) .skip (.exit 2))) (.block 3 (R 63 [0] [.set 0 (.op (.p (.slS (.s 0) (some (.s 1)) none))
  (.cons (.va 0) (xi 32)))])))))) .skip))) .skip)) (.exit 1))) .skip)) (.seq (R 65 [0, 4] [.set 4 (xld (.op (.p (.iaddrA 256 1 (.s 0) (.s 1))) (.cons (.cv (.pointer (some (.mk 0 0 none)))) (.va 3))))]) (.seq (R 68 [0, 4, 5] [.set 5 (xcn .i64 (xb .and (.va 4) (.cv (.int .u8 7))))]) (.seq (R 71 [0, 5, 6] [.tmp 74 (xln 2 (.op (.p (.iaddrA 16 2 (.s 0) (.s 1)))
  (.cons (.cv (.pointer (some (.mk 1 0 none)))) (xb .shr (.va 4) (.cv (.int .u64 4)))))), .at 6, .tmp 6 (xnl 6 [.int .u8 0, .int .u8 0]), .run (xst 2 (.sl 6) (.sl 74))]) (.seq (R 75
  [0, 6, 75] [.tmp 75 (.va 5)]) (.block 4 (.seq (R 77 [0, 6, 75, 76] [.set 76 (xb .eql (.sl 75) (xi 2))]) (.cond (.s 76) (.seq (.seq (R 78 [0, 94] [.tmp 94 (.or (.or (xb .lss (xsl
  (.va 0)) (xi 2)) (xb .lss (xis (.va 0) (xi 1)) (xld (xfa 0 (.sl 6))))) (xb .lss (xld (xfa 1 (.sl 6))) (xis (.va 0) (xi 1))))]) (.cond (.s 94) (.seq (R 999 [2] [.set 2 (.cv (.bool
  false))]) .ret) .skip)) (R 95 [0] [.set 0 (.op (.p (.slS (.s 0) (some (.s 1)) none)) (.cons (.va 0) (xi 2)))])) (.seq (R 98 [0, 6, 75, 97] [.set 97 (xb .eql (.sl 75) (xi 3))])
  (.cond (.s 97) (.seq (.seq (R 99 [0, 125] [.tmp 125 (.or (.or (.or (.or (xb .lss (xsl (.va 0)) (xi 3)) (xb .lss (xis (.va 0) (xi 1)) (xld (xfa 0 (.sl 6))))) (xb .lss (xld (xfa 1
  (.sl 6))) (xis (.va 0) (xi 1)))) (xb .lss (xis (.va 0) (xi 2)) (.cv (.int .u8 128)))) (xb .lss (.cv (.int .u8 191)) (xis (.va 0) (xi 2))))]) (.cond (.s 125) (.seq (R 999 [2] [.set
  2 (.cv (.bool false))]) .ret) .skip)) (R 126 [0] [.set 0 (.op (.p (.slS (.s 0) (some (.s 1)) none)) (.cons (.va 0) (xi 3)))])) (.seq (R 129 [0, 6, 128] [.set 128 (xb .eql (.sl 75)
  (xi 4))]) (.cond (.s 128) (.seq (.seq (R 130 [0, 166] [.tmp 166 (.or (.or (.or (.or (.or (.or (xb .lss (xsl (.va 0)) (xi 4)) (xb .lss (xis (.va 0) (xi 1)) (xld (xfa 0 (.sl 6)))))
  (xb .lss (xld (xfa 1 (.sl 6))) (xis (.va 0) (xi 1)))) (xb .lss (xis (.va 0) (xi 2)) (.cv (.int .u8 128)))) (xb .lss (.cv (.int .u8 191)) (xis (.va 0) (xi 2)))) (xb .lss (xis (.va
  0) (xi 3)) (.cv (.int .u8 128)))) (xb .lss (.cv (.int .u8 191)) (xis (.va 0) (xi 3))))]) (.cond (.s 166) (.seq (R 999 [2] [.set 2 (.cv (.bool false))]) .ret) .skip)) (R 167 [0]
  [.set 0 (.op (.p (.slS (.s 0) (some (.s 1)) none)) (.cons (.va 0) (xi 4)))])) (.seq (R 999 [2] [.set 2 (.cv (.bool false))]) .ret)))))))))))))))))) (.seq (R 999 [2] [.set 2 (.cv
  (.bool true))]) .ret)))
theorem fn_utf8_ValidString : (autoPrg Tryz.prog).fn 97 = some LF_utf8_ValidString := by kernel_rfl
def LF_tables_of : LFunc :=
  .mk 2 [.tmp 4] (.seq (R 999 [0, 1] [.set 4 (.cv (.bool false))]) (.seq (.seq (R 7 [0, 1, 9] [.tmp 9 (xu .not (xc1 95 (.va 0)))]) (.cond (.s 9) (.seq (R 999 [4]
  [.set 4 (.cv (.bool false))]) .ret) .skip)) (.seq (R 11 [0, 1, 5, 6] [.set 10 (xc3 135 (.va 1) (.va 0) (.cv (.func (.func
  136) (Array.mk []) (Array.mk [])))), .tmp 14 (xex 0 (.sl 10)), .tmp 15 (xex 1 (.sl 10)), .set 5 (.sl 14), .set 6 (.sl 15)]) (.seq (R 16 [4] [.set 4 (.or (.va 6) (.and
  (xb .gtr (.va 5) (xi 0)) (xb .leq (.va 0) (xld (xfa 1 (xia 2 (.va 1) (xb .sub (.va 5) (xi 1))))))))]) .ret))))
theorem fn_tables_of : (autoPrg Tryz.prog).fn 99 = some LF_tables_of := by kernel_rfl
def LF_tables_low : LFunc :=
  .mk 1 [.tmp 2] (.seq (R 999 [0] [.set 2 (.cv (.bool false))]) (.seq (R 3 [2] [.set 2 (.or (xb .lss (.va 0) (xr 128)) (xb .eql (.va 0) (xr 65533)))]) .ret))
theorem fn_tables_low : (autoPrg Tryz.prog).fn 101 = some LF_tables_low := by kernel_rfl
def LF_strings_ContainsFunc : LFunc :=
  .mk 2 [.tmp 4] (.seq (R 999 [0, 1] [.set 4 (.cv (.bool false))]) (.seq (R 5 [4] [.set 4 (xb .geq (xc2 138 (.va 0) (.va 1)) (xi 0))]) .ret))
theorem fn_strings_ContainsFunc : (autoPrg Tryz.prog).fn 102 = some LF_strings_ContainsFunc := by kernel_rfl
def LF_tables_fixed : LFunc :=
  .mk 1 [.tmp 2] (.seq (R 999 [0] [.set 2 (.cv (.bool false))]) (.seq (R 3 [2] [.set 2 (.or (.or (.or (xb .lss (.va 0) (xr 32)) (xb .eql (.va 0) (xr 45))) (xb .eql (.va 0) (xr 46)))
  (xb .eql (.va 0) (xr 65533)))]) .ret))
theorem fn_tables_fixed : (autoPrg Tryz.prog).fn 103 = some LF_tables_fixed := by kernel_rfl
def LF_strings_ContainsRune : LFunc :=
  .mk 2 [.tmp 4] (.seq (R 999 [0, 1] [.set 4 (.cv (.bool false))]) (.seq (R 5 [4] [.set 4 (xb .geq (xc2 139 (.va 0) (.va 1)) (xi 0))]) .ret))
theorem fn_strings_ContainsRune : (autoPrg Tryz.prog).fn 104 = some LF_strings_ContainsRune := by kernel_rfl
def LF_sets_wrong : LFunc :=
  .mk 1 [.tmp 2] (.seq (R 1 [1] [.tmp 1 (xbl 1 2 (.sl 0)), .set 2 (xi 0)]) (.seq (.block 0 (.seq (R 4 [1, 3] [.set 3 (.or (xu .not (xc1 95 (xld (xfa 0 (.sl 1)))))
  (xu .not (xc1 95 (xld (xfa 1 (.sl 1))))))]) (.cond (.s 3) (.seq (R 999 [2] [.set 2 (xi 12)]) .ret) (.seq (R 15 [14] [.set 14 (xb .gtr (xld (xfa 0 (.sl 1))) (xld
  (xfa 1 (.sl 1))))]) (.cond (.s 14) (.seq (R 999 [2] [.set 2 (xi 11)]) .ret) .skip))))) (.seq (R 999 [2] [.set 2 (xi 0)]) .ret)))
theorem fn_sets_wrong : (autoPrg Tryz.prog).fn 133 = some LF_sets_wrong := by kernel_rfl
def LF_utf8_word_string : LFunc :=
  .mk 1 [.tmp 2] (.seq (R 999 [0] [.set 2 (.cv (.int .u64 0))]) (.seq (.cond (.c (.bool false)) (.seq (R 3 [2] [.set 2 (xb .or (xb .or (xb .or (xcn .u64 (xis (.va 0) (xi 0))) (xb
  .shl (xcn .u64 (xis (.va 0) (xi 1))) (.cv (.int .u64 8)))) (xb .shl (xcn .u64 (xis (.va 0) (xi 2))) (.cv (.int .u64 16)))) (xb .shl (xcn .u64 (xis (.va 0) (xi 3))) (.cv (.int .u64
  24))))]) .ret) .skip) (.seq (R 21 [2] [.set 2 (xb .or (xb .or (xb .or (xb .or (xb .or (xb .or (xb .or (xcn .u64 (xis (.va 0) (xi 0))) (xb .shl (xcn .u64 (xis (.va 0) (xi 1))) (.cv
  (.int .u64 8)))) (xb .shl (xcn .u64 (xis (.va 0) (xi 2))) (.cv (.int .u64 16)))) (xb .shl (xcn .u64 (xis (.va 0) (xi 3))) (.cv (.int .u64 24)))) (xb .shl (xcn .u64 (xis (.va 0)
  (xi 4))) (.cv (.int .u64 32)))) (xb .shl (xcn .u64 (xis (.va 0) (xi 5))) (.cv (.int .u64 40)))) (xb .shl (xcn .u64 (xis (.va 0) (xi 6))) (.cv (.int .u64 48)))) (xb .shl (xcn .u64
  (xis (.va 0) (xi 7))) (.cv (.int .u64 56))))]) .ret)))
theorem fn_utf8_word_string : (autoPrg Tryz.prog).fn 134 = some LF_utf8_word_string := by kernel_rfl
def LF_slices_BinarySearchFunc_api_Span_api_Span_rune : LFunc :=
  .mk 3 [.tmp 6, .tmp 7] (.seq (R 999 [0, 1, 2] [.set 6 (xi 0), .set 7 (.cv (.bool false))]) (.seq (R 12 [0, 1, 2, 8] [.set 8 (xlen (.va 0))]) (.seq (R 14 [0, 1, 2, 8, 9, 10] [.tmp
  14 (.va 8), .set 9 (xi 0), .set 10 (.sl 14)]) (.seq (.block 0 (.loop (.seq (.seq (R 15 [0, 1, 2, 8, 9, 10, 17] [.tmp 17 (xb .lss (.va 9) (.va 10))]) (.cond (.s 17) .skip (.exit
  0))) (.block 1 (.seq (R 18 [0, 1, 2, 8, 9, 10, 11] [.set 11 (xcn .i64 (xb .shr (xcn .u64 (xb .add (.va 9) (.va 10))) (.cv (.int .u64 1))))]) (.seq (R 24 [0, 1, 2, 8, 9, 10, 11,
  31] [.tmp 31 (xb .lss (xv2 (.va 2) (xln 2 (xia 2 (.va 0) (.va 11))) (.va 1)) (xi 0))]) (.cond (.s 31) (R 32 [0, 1, 2, 8, 9, 10] [.set 9 (xb .add (.va 11) (xi 1))]) (R 34 [0, 1, 2,
  8, 9, 10] [.set 10 (.va 11)])))))))) (.seq (R 35 [6, 7] [.tmp 35 (.va 9), .tmp 48 (.and (xb .lss (.va 9) (.va 8)) (xb .eql (xv2 (.va 2) (xln 2 (xia 2 (.va 0) (.va 9))) (.va 1))
  (xi 0))), .set 6 (.sl 35), .set 7 (.sl 48)]) .ret)))))
theorem fn_slices_BinarySearchFunc_api_Span_api_Span_rune : (autoPrg Tryz.prog).fn 135 = some LF_slices_BinarySearchFunc_api_Span_api_Span_rune := by kernel_rfl
def LF_tables_of_1 : LFunc :=
  .mk 2 [.tmp 4] (.seq (R 2 [1, 2] [.tmp 2 (xbl 2 2 (.sl 0)), .set 4 (xi 0)]) (.seq (R 5 [4] [.set 4 (xcn .i64 (xb .sub (xld (xfa 0 (.sl 2))) (.va 1)))]) .ret))
theorem fn_tables_of_1 : (autoPrg Tryz.prog).fn 136 = some LF_tables_of_1 := by kernel_rfl
def LF_strings_IndexFunc : LFunc :=
  .mk 2 [.tmp 4] (.seq (R 999 [0, 1] [.set 4 (xi 0)]) (.seq (R 5 [4] [.set 4 (xc3 147 (.va 0) (.va 1) (.cv (.bool true)))]) .ret))
theorem fn_strings_IndexFunc : (autoPrg Tryz.prog).fn 138 = some LF_strings_IndexFunc := by kernel_rfl
def LF_strings_IndexRune : LFunc :=
  .mk 2 [.tmp 4] (.seq (R 999 [0, 1, 4] [.set 4 (xi 0)]) (.block 0 (.seq (R 161 [0, 1, 4, 160] [.set 160 (.and (xb .leq (xr 0) (.va 1)) (xb .lss (.va 1) (xr 128)))]) (.cond (.s 160)
  (.seq (R 167 [4] [.set 4 (xc2 148 (.va 0) (xcn .u8 (.va 1)))]) .ret) (.seq (R 172 [0, 1, 4, 171] [.set 171 (xb .eql (.va 1) (xr 65533))]) (.cond (.s 171) (.seq
  (.seq (R 174 [175] [.tmp 175 (.op (.e (.rngS 175 (.s 0))) (.va 0))]) (.block 9 (.loop (.seq (R 176 [175, 176, 177] [.tmp 176 (.op (.e (.nxtS (.s 0))) (.sl 175)), .tmp 177 (xex 0
  (.sl 176))]) (.seq (.cond (.s 177) .skip (.exit 9)) (.block 10 (.seq (R 178 [5, 6, 175] [.tmp 178 (xex 1 (.sl 176)), .tmp 179 (xex 2 (.sl 176)), .set 5 (.sl 178), .set 6 (.sl
  179)]) (.seq (R 180 [5, 175, 181] [.tmp 181 (xb .eql (.va 6) (xr 65533))]) (.cond (.s 181) (.seq (R 182 [4] [.set 4 (.va 5)]) .ret) .skip))))))))) (.seq (R 999 [4] [.set 4 (xi
  (-1))]) .ret)) (.seq (R 184 [4, 183] [.set 183 (xu .not (xc1 95 (.va 1)))]) (.cond (.s 183) (.seq (R 999 [4] [.set 4 (xi (-1))]) .ret) (.seq .bad (.seq .bad (.seq .bad
  (.seq .bad (.seq (.block 1 (.loop (.seq (.seq .bad (.cond (.s 26) .skip (.exit 1))) (.block 2 (.seq (.seq .bad (.cond (.s 33) (.seq .bad (.seq (.seq .bad (.cond (.s 43) (.seq .bad
  .ret) .skip)) .bad)) .skip)) (.seq (.seq .bad (.block 3 (.loop (.seq (.seq .bad (.cond (.s 51) .skip (.exit 3))) (.seq (.block 4 (.seq .bad (.cond (.s 64) .bad .skip))) .bad)))))
  (.seq (.seq .bad .ret) (.seq .skip (.seq .bad (.seq .bad (.seq .bad (.cond (.s 98) .bad .skip)))))))))))) (.seq (.seq .bad .ret) (.seq .skip (.seq (.cond (.c (.bool true)) (.seq
  .bad (.seq .bad (.cond (.s 108) (.seq .bad .ret) .skip))) (.seq .bad (.seq .bad (.seq .skip (.block 5 (.loop (.seq (.seq .bad (.cond (.s 124) .skip (.exit 5))) (.seq (.block 6
  (.seq .bad (.cond (.s 139) (.seq (.seq .bad (.block 7 (.loop (.seq (.seq .bad (.cond (.s 143) .skip (.exit 7))) (.seq (.block 8 (.seq .bad (.cond (.s 156) (.exit 6) .skip)))
  .bad))))) (.seq .bad .ret)) .skip))) .bad)))))))) (.seq .bad .ret)))))))))))))))))
theorem fn_strings_IndexRune : (autoPrg Tryz.prog).fn 139 = some LF_strings_IndexRune := by kernel_rfl
def LF_strings_indexFunc : LFunc :=
  .mk 3 [.tmp 6] (.seq (R 999 [0, 1, 2] [.set 6 (xi 0)]) (.seq (.seq (R 9 [1, 2, 10] [.tmp 10 (.op (.e (.rngS 10 (.s 0))) (.va 0))]) (.block 0 (.loop (.seq (R 11 [1, 2, 10, 11, 12]
  [.tmp 11 (.op (.e (.nxtS (.s 0))) (.sl 10)), .tmp 12 (xex 0 (.sl 11))]) (.seq (.cond (.s 12) .skip (.exit 0)) (.block 1 (.seq (R 13 [1, 2, 7, 8, 10] [.tmp 13 (xex 1 (.sl 11)),
  .tmp 14 (xex 2 (.sl 11)), .set 7 (.sl 13), .set 8 (.sl 14)]) (.seq (R 15 [1, 2, 7, 10, 19] [.tmp 19 (.op (.p (.eqk false .bool (.s 0) (.s 1))) (.cons (xv1 (.va 1) (.va 8)) (.va
  2)))]) (.cond (.s 19) (.seq (R 20 [6] [.set 6 (.va 7)]) .ret) .skip))))))))) (.seq (R 999 [6] [.set 6 (xi (-1))]) .ret)))
theorem fn_strings_indexFunc : (autoPrg Tryz.prog).fn 147 = some LF_strings_indexFunc := by kernel_rfl
def LF_strings_IndexByte : LFunc :=
  .mk 2 [.tmp 4] (.seq (R 999 [0, 1] [.set 4 (xi 0)]) (.seq (R 5 [4] [.set 4 (xc2 152 (.va 0) (.va 1))]) .ret))
theorem fn_strings_IndexByte : (autoPrg Tryz.prog).fn 148 = some LF_strings_IndexByte := by kernel_rfl
def LF_internal_stringslite_IndexByte : LFunc :=
  .mk 2 [.tmp 4] (.seq (R 999 [0, 1] [.set 4 (xi 0)]) (.seq (R 5 [4] [.set 4 (.op (.p (.idxB (.s 0) (.s 1))) (.cons (.va 0) (.va 1)))]) .ret))
theorem fn_internal_stringslite_IndexByte : (autoPrg Tryz.prog).fn 152 = some LF_internal_stringslite_IndexByte := by kernel_rfl
end Go.Proofs.YtakmapoompffgaaGreatDoor.AM
namespace Go.Proofs.YtakmapoompffgaaGreatDoor.AM
open Go
def LF_guiseref6_Rune : LFunc :=
  .mk 1 [.tmp 2] (.seq (R 999 [0] [.set 2 (.cv (.bool false))]) (.seq (R 3 [2] [.set 2 (.and (.and (xb .geq (.va 0) (xr 0)) (xb .leq (.va 0) (xr 1114111))) (.or (xb .lss (.va 0) (xr
  55296)) (xb .gtr (.va 0) (xr 57343))))]) .ret))
theorem fn_guiseref6_Rune : (autoPrg Tryz.prog).fn 117 = some LF_guiseref6_Rune := by kernel_rfl
def LF_guiseref6_Of : LFunc :=
  .mk 2 [.tmp 4] (.seq (R 999 [0, 1] [.set 4 (.cv (.bool false))]) (.seq (.seq (R 999 [0, 1, 5] [.set 5 (xi 0)]) (.block 0 (.loop (.seq (.seq (R 6 [0, 1, 5, 9] [.tmp 9 (xb .lss (.va
  5) (xlen (.va 1)))]) (.cond (.s 9) .skip (.exit 0))) (.seq (.block 1 (.seq (R 12 [0, 1, 5, 31] [.tmp 31 (.and (.and (xc1 117 (.va 0)) (xb .leq (xld (xfa 0 (xia 2
  (.va 1) (.va 5)))) (.va 0))) (xb .leq (.va 0) (xld (xfa 1 (xia 2 (.va 1) (.va 5))))))]) (.cond (.s 31) (.seq (R 999 [4] [.set 4 (.cv (.bool true))]) .ret) .skip))) (R 10 [0, 1, 5]
  [.set 5 (xb .add (.va 5) (xi 1))])))))) (.seq (R 999 [4] [.set 4 (.cv (.bool false))]) .ret)))
theorem fn_guiseref6_Of : (autoPrg Tryz.prog).fn 121 = some LF_guiseref6_Of := by kernel_rfl
def LF_guiseref6_ScriptName : LFunc :=
  .mk 1 [.tmp 2] (.seq (R 999 [0] [.set 2 (.cv (.bool false))]) (.seq (.seq (R 999 [0, 3] [.set 3 (xi 0)]) (.block 0 (.loop (.seq (.seq (R 5 [0, 3, 8] [.tmp 8 (xb .lss (.va 3) (xsl
  (.va 0)))]) (.cond (.s 8) .skip (.exit 0))) (.seq (.block 1 (.seq (R 11 [0, 3, 4] [.set 4 (.and (xb .geq (xis (.va 0) (.va 3)) (.cv (.int .u8 97))) (xb .leq (xis (.va 0) (.va 3))
  (.cv (.int .u8 122))))]) (.seq (R 21 [0, 3, 44] [.tmp 44 (.and (xu .not (.va 4)) (.or (xb .eql (.va 3) (xi 0)) (.and (xb .neq (xis (.va 0) (.va 3)) (.cv (.int .u8 45))) (.or (xb
  .lss (xis (.va 0) (.va 3)) (.cv (.int .u8 48))) (xb .gtr (xis (.va 0) (.va 3)) (.cv (.int .u8 57)))))))]) (.cond (.s 44) (.seq (R 999 [2] [.set 2 (.cv (.bool false))]) .ret)
  .skip)))) (R 9 [0, 3] [.set 3 (xb .add (.va 3) (xi 1))])))))) (.seq (R 45 [2] [.set 2 (.and (xb .geq (xsl (.va 0)) (xi 1)) (xb .leq (xsl (.va 0)) (xi 32)))]) .ret)))
theorem fn_guiseref6_ScriptName : (autoPrg Tryz.prog).fn 140 = some LF_guiseref6_ScriptName := by kernel_rfl
def LF_guiseref6_mark : LFunc :=
  .mk 2 [.tmp 4] (.seq (R 2 [1, 2] [.tmp 2 (xbl 2 8 (.sl 0)), .set 4 (.cv (.bool false))]) (.seq (.seq (R 999 [1, 2, 5] [.set 5 (xi 0)]) (.block 0 (.loop (.seq (.seq (R 6 [1, 2, 5,
  10] [.tmp 10 (xb .lss (.va 5) (xlen (xld (xfa 2 (.sl 2)))))]) (.cond (.s 10) .skip (.exit 0))) (.seq (.block 1 (.seq (R 13 [1, 2, 5, 20] [.tmp 20 (xb .eql (xld (xfa 0 (xia 2 (xld
  (xfa 2 (.sl 2))) (.va 5)))) (.va 1))]) (.cond (.s 20) (.seq (R 999 [4] [.set 4 (.cv (.bool true))]) .ret) .skip))) (R 11 [1, 2, 5] [.set 5 (xb .add (.va 5) (xi 1))])))))) (.seq (R
  999 [4] [.set 4 (.cv (.bool false))]) .ret)))
theorem fn_guiseref6_mark : (autoPrg Tryz.prog).fn 119 = some LF_guiseref6_mark := by kernel_rfl
def LF_guiseref6_Whole : LFunc :=
  .mk 2 [.tmp 4] (.seq (R 2 [1, 2] [.tmp 2 (xbl 2 8 (.sl 0)), .set 4 (xi 0)]) (.seq (.seq (R 999 [1, 2, 5] [.set 5 (xi 0)]) (.block 0 (.loop (.seq (.seq (R 6 [1, 2, 5, 10] [.tmp 10
  (xb .lss (.va 5) (xlen (xld (xfa 3 (.sl 2)))))]) (.cond (.s 10) .skip (.exit 0))) (.seq (.block 1 (.seq (R 13 [1, 2, 5, 20] [.tmp 20 (xb .eql (xld (xfa 0 (xia 3 (xld (xfa 3 (.sl
  2))) (.va 5)))) (.va 1))]) (.cond (.s 20) (.seq (R 21 [4] [.set 4 (.va 5)]) .ret) .skip))) (R 11 [1, 2, 5] [.set 5 (xb .add (.va 5) (xi 1))])))))) (.seq (R 999 [4] [.set 4 (xi
  (-1))]) .ret)))
theorem fn_guiseref6_Whole : (autoPrg Tryz.prog).fn 122 = some LF_guiseref6_Whole := by kernel_rfl
def LF_guiseref6_From : LFunc :=
  .mk 2 [.tmp 4] (.seq (R 999 [0, 1] [.set 4 (xi 0)]) (.seq (.seq (R 999 [0, 1, 5] [.set 5 (xi 0)]) (.block 0 (.loop (.seq (.seq (R 6 [0, 1, 5, 9] [.tmp 9 (xb .lss (.va 5) (xlen
  (.va 0)))]) (.cond (.s 9) .skip (.exit 0))) (.seq (.block 1 (.seq (R 12 [0, 1, 5, 18] [.tmp 18 (xb .eql (xld (xfa 0 (xia 2 (.va 0) (.va 5)))) (.va 1))]) (.cond (.s 18) (.seq (R 19
  [4] [.set 4 (.va 5)]) .ret) .skip))) (R 10 [0, 1, 5] [.set 5 (xb .add (.va 5) (xi 1))])))))) (.seq (R 999 [4] [.set 4 (xi (-1))]) .ret)))
theorem fn_guiseref6_From : (autoPrg Tryz.prog).fn 83 = some LF_guiseref6_From := by kernel_rfl
def LF_guiseref6_Plain : LFunc :=
  .mk 2 [.tmp 4] (.seq (R 2 [1, 2] [.tmp 2 (xbl 2 8 (.sl 0)), .set 4 (.cv (.bool false))]) (.seq (R 5 [4] [.set 4 (.and (.and (.and (.and (xc1 117 (.va 1)) (xu .not
  (xc2 119 (xln 8 (.sl 2)) (.va 1)))) (xb .lss (xc2 122 (xln 8 (.sl 2)) (.va 1)) (xi 0))) (xu .not (xc2 121 (.va 1) (xld (xfa 6 (.sl
  2)))))) (xb .lss (xc2 83 (xld (xfa 4 (.sl 2))) (.va 1)) (xi 0)))]) .ret))
theorem fn_guiseref6_Plain : (autoPrg Tryz.prog).fn 123 = some LF_guiseref6_Plain := by kernel_rfl
def LF_guiseref6_span : LFunc :=
  .mk 2 [.tmp 4] (.seq (R 999 [0, 1] [.set 4 (xi 0)]) (.seq (.seq (R 5 [0, 1, 20] [.tmp 20 (.or (xu .not (xc1 117 (xld (xfa 0 (xia 2 (.va 0) (.va 1)))))) (xu .not
  (xc1 117 (xld (xfa 1 (xia 2 (.va 0) (.va 1)))))))]) (.cond (.s 20) (.seq (R 999 [4] [.set 4 (xi 12)]) .ret) .skip)) (.seq (.seq (R 21 [0, 1, 31] [.tmp 31 (xb .gtr
  (xld (xfa 0 (xia 2 (.va 0) (.va 1)))) (xld (xfa 1 (xia 2 (.va 0) (.va 1)))))]) (.cond (.s 31) (.seq (R 999 [4] [.set 4 (xi 11)]) .ret) .skip)) (.seq (.seq (R 32 [47] [.tmp 47
  (.and (xb .gtr (.va 1) (xi 0)) (xb .leq (xld (xfa 0 (xia 2 (.va 0) (.va 1)))) (xld (xfa 1 (xia 2 (.va 0) (xb .sub (.va 1) (xi 1)))))))]) (.cond (.s 47) (.seq (R 999 [4] [.set 4
  (xi 13)]) .ret) .skip)) (.seq (R 999 [4] [.set 4 (xi 0)]) .ret)))))
theorem fn_guiseref6_span : (autoPrg Tryz.prog).fn 141 = some LF_guiseref6_span := by kernel_rfl
def LF_guiseref6_spans : LFunc :=
  .mk 2 [.cell 4 (some 3)] (.seq (R 4 [0, 1, 4] [.tmp 4 (xnl 4 [.int .i64 0, .int .i64 0, .int .i64 0])]) (.seq (.seq (R 999 [0, 1, 4, 5] [.set 5 (xi 0)]) (.block 0 (.loop (.seq
  (.seq (R 7 [0, 1, 4, 5, 10] [.tmp 10 (xb .lss (.va 5) (xlen (.va 0)))]) (.cond (.s 10) .skip (.exit 0))) (.seq (.block 1 (.seq (R 13 [0, 1, 4, 5, 6] [.set 6 (xc2
  141 (.va 0) (.va 5))]) (.seq (R 16 [0, 1, 4, 5, 6, 17] [.tmp 17 (xb .neq (.va 6) (xi 0))]) (.cond (.s 17) (.seq (R 18 [4] [.run (xst 3 (.sl 4) (.op (.p (.build
  [.int .i64 0, .int .i64 0, .int .i64 0] [(0, 1, .s 0), (1, 1, .s 1), (2, 1, .s 2)])) (.cons (.va 6) (.cons (.va 1) (.va 5)))))]) .ret) .skip)))) (R 11 [0, 1, 4, 5] [.set 5 (xb
  .add (.va 5) (xi 1))])))))) (.seq (R 22 [4] [.run (xst 3 (.sl 4) (.op (.p (.build [.int .i64 0, .int .i64 0, .int .i64 0] [])) .nil))]) .ret)))
theorem fn_guiseref6_spans : (autoPrg Tryz.prog).fn 116 = some LF_guiseref6_spans := by kernel_rfl
def LF_guiseref6_script : LFunc :=
  .mk 1 [.tmp 2] (.seq (R 1 [1] [.tmp 1 (xbl 1 2 (.sl 0)), .set 2 (xi 0)]) (.seq (.seq (R 4 [1, 7] [.tmp 7 (xu .not (xc1 140 (xld (xfa 0 (.sl 1)))))]) (.cond
  (.s 7) (.seq (R 999 [2] [.set 2 (xi 38)]) .ret) .skip)) (.seq (R 8 [3] [.tmp 10 (xc2 116 (xld (xfa 1 (.sl 1))) (xi 1)), .at 3, .tmp 3 (xnl 3 [.int .i64 0, .int
  .i64 0, .int .i64 0]), .run (xst 3 (.sl 3) (.sl 10))]) (.seq (R 11 [2] [.set 2 (xld (xfa 0 (.sl 3)))]) .ret))))
theorem fn_guiseref6_script : (autoPrg Tryz.prog).fn 115 = some LF_guiseref6_script := by kernel_rfl
def LF_guiseref6_maps : LFunc :=
  .mk 2 [.cell 4 (some 3)] (.seq (R 4 [0, 1, 4] [.tmp 4 (xnl 4 [.int .i64 0, .int .i64 0, .int .i64 0])]) (.seq (.seq (R 999 [0, 1, 4, 5] [.set 5 (xi 0)]) (.block 0 (.loop (.seq
  (.seq (R 8 [0, 1, 4, 5, 11] [.tmp 11 (xb .lss (.va 5) (xlen (.va 0)))]) (.cond (.s 11) .skip (.exit 0))) (.seq (.block 1 (.seq (.seq (R 14 [0, 1, 4, 5, 20] [.tmp 20 (xu .not (xc1
  117 (xld (xfa 0 (xia 2 (.va 0) (.va 5))))))]) (.cond (.s 20) (.seq (R 21 [4] [.run (xst 3 (.sl 4) (.op (.p (.build [.int .i64 0, .int .i64 0, .int .i64 0] [(0, 1,
  .s 0), (1, 1, .s 1), (2, 1, .s 2)])) (.cons (xi 12) (.cons (.va 1) (.va 5)))))]) .ret) .skip)) (.seq (R 25 [0, 1, 4, 5, 6, 7] [.set 24 (xc1 84 (xld (xfa 1 (xia 2
  (.va 0) (.va 5))))), .tmp 31 (xex 0 (.sl 24)), .tmp 32 (xex 1 (.sl 24)), .set 6 (.sl 31), .set 7 (.sl 32)]) (.seq (R 33 [0, 1, 4, 5, 44] [.tmp 44 (.or (.or (xu .not (.va 7)) (xb
  .lss (xlen (.va 6)) (xi 1))) (xb .gtr (xlen (.va 6)) (xi 4)))]) (.cond (.s 44) (.seq (R 45 [4] [.run (xst 3 (.sl 4) (.op (.p (.build [.int .i64 0, .int .i64 0, .int .i64 0] [(0,
  1, .s 0), (1, 1, .s 1), (2, 1, .s 2)])) (.cons (xi 35) (.cons (.va 1) (.va 5)))))]) .ret) .skip))))) (R 12 [0, 1, 4, 5] [.set 5 (xb .add (.va 5) (xi 1))])))))) (.seq (R 48 [4]
  [.run (xst 3 (.sl 4) (.op (.p (.build [.int .i64 0, .int .i64 0, .int .i64 0] [])) .nil))]) .ret)))
theorem fn_guiseref6_maps : (autoPrg Tryz.prog).fn 118 = some LF_guiseref6_maps := by kernel_rfl
def LF_guiseref6_Runes : LFunc :=
  .mk 1 [.tmp 2, .tmp 3] (.seq (R 999 [0] [.set 2 (.cv (.slice none 0 0)), .set 3 (.cv (.bool false))]) (.seq (R 999 [0, 4] [.set 4 (.cv (.slice none 0 0))]) (.seq (.seq (R 999 [0,
  4, 5] [.set 5 (xi 0)]) (.block 0 (.loop (.seq (.seq (R 10 [0, 4, 5, 13] [.tmp 13 (xb .lss (.va 5) (xsl (.va 0)))]) (.cond (.s 13) .skip (.exit 0))) (.block 1 (.seq (R 999 [0, 4,
  5] [.set 6 (xi 0)]) (.seq (R 999 [0, 4, 5] [.set 7 (xr 0)]) (.seq (R 14 [0, 4, 5, 8] [.set 8 (xcn .i32 (xis (.va 0) (.va 5)))]) (.seq (.seq (R 18 [0, 4, 5, 8, 19] [.tmp 19 (xb
  .lss (.va 8) (xr 128))]) (.cond (.s 19) (.seq (R 20 [0, 4, 5] [.set 4 (xap 1 4 (.va 4) (.op (.e (.litL 22 1 1 [.int .i32 0] [(0, 1, .s 0)])) (.va 8)))]) (.seq (R 24 [0, 4, 5]
  [.set 5 (xb .add (.va 5) (xi 1))]) (.exit 1))) .skip)) (.seq (.seq (R 26 [0, 4, 5, 8, 31] [.tmp 31 (.and (xb .geq (.va 8) (xr 192)) (xb .lss (.va 8) (xr 224)))]) (.cond (.s 31)
  (.seq (R 999 [0, 4, 5, 6, 8] [.set 6 (xi 1)]) (.seq (R 999 [0, 4, 5, 6, 7, 8] [.set 7 (xr 128)]) (R 32 [0, 4, 5, 6, 7, 8] [.set 8 (xb .sub (.va 8) (xr 192))]))) (.seq (R 34 [0, 4,
  5, 8, 39] [.tmp 39 (.and (xb .geq (.va 8) (xr 224)) (xb .lss (.va 8) (xr 240)))]) (.cond (.s 39) (.seq (R 999 [0, 4, 5, 6, 8] [.set 6 (xi 2)]) (.seq (R 999 [0, 4, 5, 6, 7, 8]
  [.set 7 (xr 2048)]) (R 40 [0, 4, 5, 6, 7, 8] [.set 8 (xb .sub (.va 8) (xr 224))]))) (.seq (R 42 [0, 4, 5, 8, 47] [.tmp 47 (.and (xb .geq (.va 8) (xr 240)) (xb .lss (.va 8) (xr
  248)))]) (.cond (.s 47) (.seq (R 999 [0, 4, 5, 6, 8] [.set 6 (xi 3)]) (.seq (R 999 [0, 4, 5, 6, 7, 8] [.set 7 (xr 65536)]) (R 48 [0, 4, 5, 6, 7, 8] [.set 8 (xb .sub (.va 8) (xr
  240))]))) (.seq (R 999 [2, 3] [.set 2 (.cv (.slice none 0 0)), .set 3 (.cv (.bool false))]) .ret))))))) (.seq (.seq (R 999 [0, 4, 5, 6, 7, 8, 9] [.set 9 (xi 1)]) (.block 2 (.loop
  (.seq (.seq (R 50 [0, 4, 5, 6, 7, 8, 9, 52] [.tmp 52 (xb .leq (.va 9) (.va 6))]) (.cond (.s 52) .skip (.exit 2))) (.seq (.block 3 (.seq (.seq (R 55 [0, 4, 5, 6, 7, 8, 9, 76] [.tmp
  76 (.or (.or (xb .geq (xb .add (.va 5) (.va 9)) (xsl (.va 0))) (xb .lss (xis (.va 0) (xb .add (.va 5) (.va 9))) (.cv (.int .u8 128)))) (xb .geq (xis (.va 0) (xb .add (.va 5) (.va
  9))) (.cv (.int .u8 192))))]) (.cond (.s 76) (.seq (R 999 [2, 3] [.set 2 (.cv (.slice none 0 0)), .set 3 (.cv (.bool false))]) .ret) .skip)) (R 77 [0, 4, 5, 6, 7, 8, 9] [.set 8
  (xb .add (xb .shl (.va 8) (.cv (.int .u64 6))) (xcn .i32 (xb .sub (xis (.va 0) (xb .add (.va 5) (.va 9))) (.cv (.int .u8 128)))))]))) (R 53 [0, 4, 5, 6, 7, 8, 9] [.set 9 (xb .add
  (.va 9) (xi 1))])))))) (.seq (.seq (R 87 [0, 4, 5, 6, 8, 94] [.tmp 94 (.or (xb .lss (.va 8) (.va 7)) (xu .not (xc1 117 (.va 8))))]) (.cond (.s 94) (.seq (R 999 [2,
  3] [.set 2 (.cv (.slice none 0 0)), .set 3 (.cv (.bool false))]) .ret) .skip)) (.seq (R 95 [0, 4, 5, 6] [.set 4 (xap 1 4 (.va 4) (.op (.e (.litL 97 1 1 [.int .i32 0] [(0, 1, .s
  0)])) (.va 8)))]) (R 99 [0, 4, 5] [.set 5 (xb .add (xb .add (.va 5) (.va 6)) (xi 1))])))))))))))))) (.seq (R 103 [2, 3] [.set 2 (.va 4), .set 3 (.cv (.bool true))]) .ret))))
theorem fn_guiseref6_Runes : (autoPrg Tryz.prog).fn 84 = some LF_guiseref6_Runes := by kernel_rfl
def LF_guiseref6_low : LFunc :=
  .mk 1 [.tmp 2] (.seq (R 999 [0] [.set 2 (.cv (.bool false))]) (.seq (R 3 [2] [.set 2 (.or (xb .lss (.va 0) (xr 128)) (xb .eql (.va 0) (xr 65533)))]) .ret))
theorem fn_guiseref6_low : (autoPrg Tryz.prog).fn 142 = some LF_guiseref6_low := by kernel_rfl
def LF_guiseref6_set : LFunc :=
  .mk 1 [.tmp 2] (.seq (R 999 [0] [.set 2 (.cv (.bool false))]) (.seq (R 3 [2] [.set 2 (.or (.or (.or (xb .lss (.va 0) (xr 32)) (xb .eql (.va 0) (xr 45))) (xb .eql (.va 0) (xr 46)))
  (xb .eql (.va 0) (xr 65533)))]) .ret))
theorem fn_guiseref6_set : (autoPrg Tryz.prog).fn 144 = some LF_guiseref6_set := by kernel_rfl
def LF_guiseref6_sets : LFunc :=
  .mk 1 [.tmp 2] (.seq (R 999 [0] [.set 2 (.cv (.bool false))]) (.seq (R 7 [3] [.set 6 (xc1 84 (.va 0)), .tmp 9 (xex 0 (.sl 6)), .tmp 10 (xex 1 (.sl 6)), .set 3
  (.sl 9), .set 4 (.sl 10)]) (.seq (.seq (R 999 [3, 5] [.set 5 (xi 0)]) (.block 0 (.loop (.seq (.seq (R 11 [3, 5, 14] [.tmp 14 (xb .lss (.va 5) (xlen (.va 3)))]) (.cond (.s 14)
  .skip (.exit 0))) (.seq (.block 1 (.seq (R 17 [3, 5, 21] [.tmp 21 (xc1 144 (xld (xia 1 (.va 3) (.va 5))))]) (.cond (.s 21) (.seq (R 999 [2] [.set 2 (.cv (.bool
  true))]) .ret) .skip))) (R 15 [3, 5] [.set 5 (xb .add (.va 5) (xi 1))])))))) (.seq (R 999 [2] [.set 2 (.cv (.bool false))]) .ret))))
theorem fn_guiseref6_sets : (autoPrg Tryz.prog).fn 143 = some LF_guiseref6_sets := by kernel_rfl
def LF_guiseref6_long : LFunc :=
  .mk 1 [.cell 2 (some 3)] (.seq (R 1 [1, 2] [.tmp 1 (xbl 1 8 (.sl 0)), .tmp 2 (xnl 2 [.int .i64 0, .int .i64 0, .int .i64 0])]) (.seq (.seq (R 7 [1, 2, 10] [.tmp 10 (xb .gtr (xlen
  (xld (xfa 0 (.sl 1)))) (xi 64))]) (.cond (.s 10) (.seq (R 11 [2] [.run (xst 3 (.sl 2) (.op (.p (.build [.int .i64 0, .int .i64 0, .int .i64 0] [(0, 1, .s 0), (1, 1, .s 1), (2, 1,
  .s 2)])) (.cons (xi 4) (.cons (xi 1) (xi 64)))))]) .ret) .skip)) (.seq (.seq (R 999 [1, 2, 3] [.set 3 (xi 0)]) (.block 0 (.loop (.seq (.seq (R 12 [1, 2, 3, 16] [.tmp 16 (xb .lss
  (.va 3) (xlen (xld (xfa 0 (.sl 1)))))]) (.cond (.s 16) .skip (.exit 0))) (.seq (.block 1 (.seq (R 19 [1, 2, 3, 26] [.tmp 26 (xb .gtr (xlen (xld (xfa 1 (xia 2 (xld (xfa 0 (.sl 1)))
  (.va 3))))) (xi 1024))]) (.cond (.s 26) (.seq (R 27 [2] [.run (xst 3 (.sl 2) (.op (.p (.build [.int .i64 0, .int .i64 0, .int .i64 0] [(0, 1, .s 0), (1, 1, .s 1), (2, 1, .s 2)]))
  (.cons (xi 4) (.cons (xi 1) (.va 3)))))]) .ret) .skip))) (R 17 [1, 2, 3] [.set 3 (xb .add (.va 3) (xi 1))])))))) (.seq (R 29 [2, 4] [.set 4 (.op (.e (.litH 7 1 [.int .i64 0] [(0,
  1, .s 0), (1, 1, .s 1), (2, 1, .s 2), (3, 1, .s 3), (4, 1, .s 4), (5, 1, .s 5), (6, 1, .s 6)])) (.cons (xlen (xld (xfa 1 (.sl 1)))) (.cons (xlen (xld (xfa 2 (.sl 1)))) (.cons
  (xlen (xld (xfa 3 (.sl 1)))) (.cons (xlen (xld (xfa 4 (.sl 1)))) (.cons (xlen (xld (xfa 5 (.sl 1)))) (.cons (xlen (xld (xfa 6 (.sl 1)))) (xlen (xld (xfa 7 (.sl 1)))))))))))])
  (.seq (R 51 [2, 4, 5] [.set 5 (.op (.e (.litH 7 1 [.int .i64 0] [(0, 1, .s 0), (1, 1, .s 1), (2, 1, .s 2), (3, 1, .s 3), (4, 1, .s 4), (5, 1, .s 5), (6, 1, .s 6)])) (.cons (xi
  1024) (.cons (xi 512) (.cons (xi 4096) (.cons (xi 4096) (.cons (xi 4096) (.cons (xi 1024) (xi 1024))))))))]) (.seq (.seq (R 999 [2, 4, 5, 6] [.set 6 (xi 0)]) (.block 2 (.loop
  (.seq (.seq (R 52 [2, 4, 5, 6, 55] [.tmp 55 (xb .lss (.va 6) (xlen (.va 4)))]) (.cond (.s 55) .skip (.exit 2))) (.seq (.block 3 (.seq (R 58 [2, 4, 5, 6, 66] [.tmp 66 (xb .gtr (xld
  (xia 1 (.va 4) (.va 6))) (xld (xia 1 (.va 5) (.va 6))))]) (.cond (.s 66) (.seq (R 67 [2] [.run (xst 3 (.sl 2) (.op (.p (.build [.int .i64 0, .int .i64 0, .int .i64 0] [(0, 1, .s
  0), (1, 1, .s 1), (2, 1, .s 2)])) (.cons (xi 4) (.cons (xb .add (xi 2) (.va 6)) (xld (xia 1 (.va 5) (.va 6)))))))]) .ret) .skip))) (R 56 [2, 4, 5, 6] [.set 6 (xb .add (.va 6) (xi
  1))])))))) (.seq (R 74 [2] [.run (xst 3 (.sl 2) (.op (.p (.build [.int .i64 0, .int .i64 0, .int .i64 0] [])) .nil))]) .ret)))))))
theorem fn_guiseref6_long : (autoPrg Tryz.prog).fn 66 = some LF_guiseref6_long := by kernel_rfl
def LF_guiseref6_forms : LFunc :=
  .mk 1 [.cell 2 (some 3)] (.seq (R 1 [1, 2] [.tmp 1 (xbl 1 8 (.sl 0)), .tmp 2 (xnl 2 [.int .i64 0, .int .i64 0, .int .i64 0])]) (.seq (.seq (R 999 [1, 2, 3] [.set 3 (xi 0)])
  (.block 0 (.loop (.seq (.seq (R 8 [1, 2, 3, 12] [.tmp 12 (xb .lss (.va 3) (xlen (xld (xfa 0 (.sl 1)))))]) (.cond (.s 12) .skip (.exit 0))) (.seq (.block 1 (.seq (R 15 [1, 2, 3, 4]
  [.set 4 (xc1 115 (xln 2 (xia 2 (xld (xfa 0 (.sl 1))) (.va 3))))]) (.seq (R 21 [1, 2, 3, 4, 22] [.tmp 22 (xb .neq (.va 4) (xi 0))]) (.cond (.s 22) (.seq (R 23 [2]
  [.run (xst 3 (.sl 2) (.op (.p (.build [.int .i64 0, .int .i64 0, .int .i64 0] [(0, 1, .s 0), (1, 1, .s 1), (2, 1, .s 2)])) (.cons (.va 4) (.cons (xi 1) (.va 3)))))]) .ret)
  .skip)))) (R 13 [1, 2, 3] [.set 3 (xb .add (.va 3) (xi 1))])))))) (.seq (R 26 [1, 2, 5] [.tmp 28 (xc2 116 (xld (xfa 1 (.sl 1))) (xi 2)), .at 5, .tmp 5 (xnl 5 [.int
  .i64 0, .int .i64 0, .int .i64 0]), .run (xst 3 (.sl 5) (.sl 28))]) (.seq (.seq (R 29 [1, 2, 5, 31] [.tmp 31 (xb .neq (xld (xfa 0 (.sl 5))) (xi 0))]) (.cond (.s 31) (.seq (R 32
  [2] [.run (xst 3 (.sl 2) (xln 3 (.sl 5)))]) .ret) .skip)) (.seq (.seq (R 999 [1, 2, 5, 6] [.set 6 (xi 0)]) (.block 2 (.loop (.seq (.seq (R 33 [1, 2, 5, 6, 37] [.tmp 37 (xb .lss
  (.va 6) (xlen (xld (xfa 2 (.sl 1)))))]) (.cond (.s 37) .skip (.exit 2))) (.seq (.block 3 (.seq (.seq (R 40 [1, 2, 5, 6, 47] [.tmp 47 (xu .not (xc1 117 (xld (xfa 0
  (xia 2 (xld (xfa 2 (.sl 1))) (.va 6))))))]) (.cond (.s 47) (.seq (R 48 [2] [.run (xst 3 (.sl 2) (.op (.p (.build [.int .i64 0, .int .i64 0, .int .i64 0] [(0, 1, .s 0), (1, 1, .s
  1), (2, 1, .s 2)])) (.cons (xi 12) (.cons (xi 3) (.va 6)))))]) .ret) .skip)) (.seq (R 50 [1, 2, 5, 6, 65] [.tmp 65 (.or (xb .lss (xld (xfa 1 (xia 2 (xld (xfa 2 (.sl 1))) (.va
  6)))) (xi 1)) (xb .gtr (xld (xfa 1 (xia 2 (xld (xfa 2 (.sl 1))) (.va 6)))) (xi 254)))]) (.cond (.s 65) (.seq (R 66 [2] [.run (xst 3 (.sl 2) (.op (.p (.build [.int .i64 0, .int
  .i64 0, .int .i64 0] [(0, 1, .s 0), (1, 1, .s 1), (2, 1, .s 2)])) (.cons (xi 30) (.cons (xi 3) (.va 6)))))]) .ret) .skip)))) (R 38 [1, 2, 5, 6] [.set 6 (xb .add (.va 6) (xi
  1))])))))) (.seq (.seq (R 999 [1, 2, 5, 7] [.set 7 (xi 0)]) (.block 4 (.loop (.seq (.seq (R 68 [1, 2, 5, 7, 72] [.tmp 72 (xb .lss (.va 7) (xlen (xld (xfa 3 (.sl 1)))))]) (.cond
  (.s 72) .skip (.exit 4))) (.seq (.block 5 (.seq (R 75 [1, 2, 5, 7, 102] [.tmp 102 (.or (.or (xu .not (xc1 117 (xld (xfa 0 (xia 3 (xld (xfa 3 (.sl 1))) (.va 7))))))
  (xu .not (xc1 117 (xld (xfa 1 (xia 3 (xld (xfa 3 (.sl 1))) (.va 7))))))) (xu .not (xc1 117 (xld (xfa 2 (xia 3 (xld (xfa 3 (.sl 1))) (.va 7)))))))])
  (.cond (.s 102) (.seq (R 103 [2] [.run (xst 3 (.sl 2) (.op (.p (.build [.int .i64 0, .int .i64 0, .int .i64 0] [(0, 1, .s 0), (1, 1, .s 1), (2, 1, .s 2)])) (.cons (xi 12) (.cons
  (xi 4) (.va 7)))))]) .ret) .skip))) (R 73 [1, 2, 5, 7] [.set 7 (xb .add (.va 7) (xi 1))])))))) (.seq (R 105 [1, 2, 5] [.run (xst 3 (.sl 5) (xc2 118 (xld (xfa 4 (.sl
  1))) (xi 5)))]) (.seq (.seq (R 108 [1, 2, 5, 110] [.tmp 110 (xb .eql (xld (xfa 0 (.sl 5))) (xi 0))]) (.cond (.s 110) (R 111 [1, 2, 5] [.run (xst 3 (.sl 5) (xc2 118
  (xld (xfa 5 (.sl 1))) (xi 6)))]) .skip)) (.seq (.seq (R 114 [1, 2, 5, 116] [.tmp 116 (xb .eql (xld (xfa 0 (.sl 5))) (xi 0))]) (.cond (.s 116) (R 117 [1, 2, 5] [.run (xst 3 (.sl 5)
  (xc2 116 (xld (xfa 6 (.sl 1))) (xi 7)))]) .skip)) (.seq (.seq (R 120 [1, 2, 5, 122] [.tmp 122 (xb .eql (xld (xfa 0 (.sl 5))) (xi 0))]) (.cond (.s 122) (R 123 [2,
  5] [.run (xst 3 (.sl 5) (xc2 116 (xld (xfa 7 (.sl 1))) (xi 8)))]) .skip)) (.seq (R 126 [2] [.run (xst 3 (.sl 2) (xln 3 (.sl 5)))]) .ret)))))))))))
theorem fn_guiseref6_forms : (autoPrg Tryz.prog).fn 67 = some LF_guiseref6_forms := by kernel_rfl
def LF_guiseref6_twice : LFunc :=
  .mk 1 [.cell 2 (some 3)] (.seq (R 1 [1, 2] [.tmp 1 (xbl 1 8 (.sl 0)), .tmp 2 (xnl 2 [.int .i64 0, .int .i64 0, .int .i64 0])]) (.seq (.seq (R 999 [1, 2, 3] [.set 3 (xi 0)])
  (.block 0 (.loop (.seq (.seq (R 13 [1, 2, 3, 17] [.tmp 17 (xb .lss (.va 3) (xlen (xld (xfa 0 (.sl 1)))))]) (.cond (.s 17) .skip (.exit 0))) (.seq (.block 1 (.seq (R 999 [1, 2, 3,
  4] [.set 4 (xi 0)]) (.block 2 (.loop (.seq (.seq (R 20 [1, 2, 3, 4, 22] [.tmp 22 (xb .lss (.va 4) (.va 3))]) (.cond (.s 22) .skip (.exit 2))) (.seq (.block 3 (.seq (R 25 [1, 2, 3,
  4, 37] [.tmp 37 (xb .eql (xld (xfa 0 (xia 2 (xld (xfa 0 (.sl 1))) (.va 3)))) (xld (xfa 0 (xia 2 (xld (xfa 0 (.sl 1))) (.va 4)))))]) (.cond (.s 37) (.seq (R 38 [2] [.run (xst 3
  (.sl 2) (.op (.p (.build [.int .i64 0, .int .i64 0, .int .i64 0] [(0, 1, .s 0), (1, 1, .s 1), (2, 1, .s 2)])) (.cons (xi 14) (.cons (xi 1) (.va 3)))))]) .ret) .skip))) (R 23 [1,
  2, 3, 4] [.set 4 (xb .add (.va 4) (xi 1))]))))))) (R 18 [1, 2, 3] [.set 3 (xb .add (.va 3) (xi 1))])))))) (.seq (.seq (R 999 [1, 2, 5] [.set 5 (xi 0)]) (.block 4 (.loop (.seq
  (.seq (R 40 [1, 2, 5, 44] [.tmp 44 (xb .lss (.va 5) (xlen (xld (xfa 2 (.sl 1)))))]) (.cond (.s 44) .skip (.exit 4))) (.seq (.block 5 (.seq (R 999 [1, 2, 5, 6] [.set 6 (xi 0)])
  (.block 6 (.loop (.seq (.seq (R 47 [1, 2, 5, 6, 49] [.tmp 49 (xb .lss (.va 6) (.va 5))]) (.cond (.s 49) .skip (.exit 6))) (.seq (.block 7 (.seq (R 52 [1, 2, 5, 6, 64] [.tmp 64 (xb
  .eql (xld (xfa 0 (xia 2 (xld (xfa 2 (.sl 1))) (.va 5)))) (xld (xfa 0 (xia 2 (xld (xfa 2 (.sl 1))) (.va 6)))))]) (.cond (.s 64) (.seq (R 65 [2] [.run (xst 3 (.sl 2) (.op (.p
  (.build [.int .i64 0, .int .i64 0, .int .i64 0] [(0, 1, .s 0), (1, 1, .s 1), (2, 1, .s 2)])) (.cons (xi 14) (.cons (xi 3) (.va 5)))))]) .ret) .skip))) (R 50 [1, 2, 5, 6] [.set 6
  (xb .add (.va 6) (xi 1))]))))))) (R 45 [1, 2, 5] [.set 5 (xb .add (.va 5) (xi 1))])))))) (.seq (.seq (R 999 [1, 2, 7] [.set 7 (xi 0)]) (.block 8 (.loop (.seq (.seq (R 67 [1, 2, 7,
  71] [.tmp 71 (xb .lss (.va 7) (xlen (xld (xfa 3 (.sl 1)))))]) (.cond (.s 71) .skip (.exit 8))) (.seq (.block 9 (.seq (R 999 [1, 2, 7, 8] [.set 8 (xi 0)]) (.block 10 (.loop (.seq
  (.seq (R 74 [1, 2, 7, 8, 76] [.tmp 76 (xb .lss (.va 8) (.va 7))]) (.cond (.s 76) .skip (.exit 10))) (.seq (.block 11 (.seq (R 79 [1, 2, 7, 8, 9] [.tmp 83 (xln 3 (xia 3 (xld (xfa 3
  (.sl 1))) (.va 7))), .at 9, .tmp 9 (xnl 9 [.int .i32 0, .int .i32 0, .int .i32 0]), .run (xst 3 (.sl 9) (.sl 83))]) (.seq (R 84 [1, 2, 7, 8, 9, 10] [.tmp 88 (xln 3 (xia 3 (xld
  (xfa 3 (.sl 1))) (.va 8))), .at 10, .tmp 10 (xnl 10 [.int .i32 0, .int .i32 0, .int .i32 0]), .run (xst 3 (.sl 10) (.sl 88))]) (.seq (R 89 [1, 2, 7, 8, 107] [.tmp 107 (.or (xb
  .eql (xld (xfa 0 (.sl 9))) (xld (xfa 0 (.sl 10)))) (.and (xb .eql (xld (xfa 1 (.sl 9))) (xld (xfa 1 (.sl 10)))) (xb .eql (xld (xfa 2 (.sl 9))) (xld (xfa 2 (.sl 10))))))]) (.cond
  (.s 107) (.seq (R 108 [2] [.run (xst 3 (.sl 2) (.op (.p (.build [.int .i64 0, .int .i64 0, .int .i64 0] [(0, 1, .s 0), (1, 1, .s 1), (2, 1, .s 2)])) (.cons (xi 14) (.cons (xi 4)
  (.va 7)))))]) .ret) .skip))))) (R 77 [1, 2, 7, 8] [.set 8 (xb .add (.va 8) (xi 1))]))))))) (R 72 [1, 2, 7] [.set 7 (xb .add (.va 7) (xi 1))])))))) (.seq (.seq (R 999 [1, 2, 11]
  [.set 11 (xi 0)]) (.block 12 (.loop (.seq (.seq (R 110 [1, 2, 11, 114] [.tmp 114 (xb .lss (.va 11) (xlen (xld (xfa 4 (.sl 1)))))]) (.cond (.s 114) .skip (.exit 12))) (.seq (.block
  13 (.seq (R 117 [1, 2, 11, 127] [.tmp 127 (xb .lss (xc2 83 (xld (xfa 4 (.sl 1))) (xld (xfa 0 (xia 2 (xld (xfa 4 (.sl 1))) (.va 11))))) (.va 11))]) (.cond (.s 127)
  (.seq (R 128 [2] [.run (xst 3 (.sl 2) (.op (.p (.build [.int .i64 0, .int .i64 0, .int .i64 0] [(0, 1, .s 0), (1, 1, .s 1), (2, 1, .s 2)])) (.cons (xi 14) (.cons (xi 5) (.va
  11)))))]) .ret) .skip))) (R 115 [1, 2, 11] [.set 11 (xb .add (.va 11) (xi 1))])))))) (.seq (.seq (R 999 [1, 2, 12] [.set 12 (xi 0)]) (.block 14 (.loop (.seq (.seq (R 130 [1, 2,
  12, 134] [.tmp 134 (xb .lss (.va 12) (xlen (xld (xfa 5 (.sl 1)))))]) (.cond (.s 134) .skip (.exit 14))) (.seq (.block 15 (.seq (R 137 [1, 2, 12, 147] [.tmp 147 (xb .lss (xc2
  83 (xld (xfa 5 (.sl 1))) (xld (xfa 0 (xia 2 (xld (xfa 5 (.sl 1))) (.va 12))))) (.va 12))]) (.cond (.s 147) (.seq (R 148 [2] [.run (xst 3 (.sl 2) (.op (.p (.build
  [.int .i64 0, .int .i64 0, .int .i64 0] [(0, 1, .s 0), (1, 1, .s 1), (2, 1, .s 2)])) (.cons (xi 14) (.cons (xi 6) (.va 12)))))]) .ret) .skip))) (R 135 [1, 2, 12] [.set 12 (xb .add
  (.va 12) (xi 1))])))))) (.seq (R 150 [2] [.run (xst 3 (.sl 2) (.op (.p (.build [.int .i64 0, .int .i64 0, .int .i64 0] [])) .nil))]) .ret)))))))
theorem fn_guiseref6_twice : (autoPrg Tryz.prog).fn 68 = some LF_guiseref6_twice := by kernel_rfl
def LF_guiseref6_chain : LFunc :=
  .mk 2 [.tmp 4] (.seq (R 2 [1, 2] [.tmp 2 (xbl 2 8 (.sl 0)), .set 4 (xi 0)]) (.seq (.seq (R 999 [1, 2, 5] [.set 5 (xi 1)]) (.block 0 (.loop (.seq (.seq (R 6 [1, 2, 5, 10] [.tmp 10
  (xb .leq (.va 5) (xlen (xld (xfa 3 (.sl 2)))))]) (.cond (.s 10) .skip (.exit 0))) (.seq (.block 1 (.seq (R 13 [1, 2, 5] [.set 1 (xc2 122 (xln 8 (.sl 2)) (xld (xfa
  1 (xia 3 (xld (xfa 3 (.sl 2))) (.va 1)))))]) (.seq (R 21 [1, 2, 5, 22] [.tmp 22 (xb .lss (.va 1) (xi 0))]) (.cond (.s 22) (.seq (R 23 [4] [.set 4 (.va 5)]) .ret) .skip)))) (R 11
  [1, 2, 5] [.set 5 (xb .add (.va 5) (xi 1))])))))) (.seq (R 999 [4] [.set 4 (xi (-1))]) .ret)))
theorem fn_guiseref6_chain : (autoPrg Tryz.prog).fn 120 = some LF_guiseref6_chain := by kernel_rfl
def LF_guiseref6_pairs : LFunc :=
  .mk 1 [.cell 2 (some 3)] (.seq (R 1 [1, 2] [.tmp 1 (xbl 1 8 (.sl 0)), .tmp 2 (xnl 2 [.int .i64 0, .int .i64 0, .int .i64 0])]) (.seq (.seq (R 999 [1, 2, 3] [.set 3 (xi 0)])
  (.block 0 (.loop (.seq (.seq (R 6 [1, 2, 3, 10] [.tmp 10 (xb .lss (.va 3) (xlen (xld (xfa 3 (.sl 1)))))]) (.cond (.s 10) .skip (.exit 0))) (.seq (.block 1 (.seq (R 13 [1, 2, 3,
  41] [.tmp 41 (.or (.or (xc2 119 (xln 8 (.sl 1)) (xld (xfa 0 (xia 3 (xld (xfa 3 (.sl 1))) (.va 3))))) (xc2 119 (xln 8 (.sl 1)) (xld (xfa 1 (xia 3 (xld
  (xfa 3 (.sl 1))) (.va 3)))))) (xu .not (xc2 119 (xln 8 (.sl 1)) (xld (xfa 2 (xia 3 (xld (xfa 3 (.sl 1))) (.va 3)))))))]) (.cond (.s 41) (.seq (R 42 [2] [.run (xst 3
  (.sl 2) (.op (.p (.build [.int .i64 0, .int .i64 0, .int .i64 0] [(0, 1, .s 0), (1, 1, .s 1), (2, 1, .s 2)])) (.cons (xi 32) (.cons (xi 4) (.va 3)))))]) .ret) .skip))) (R 11 [1,
  2, 3] [.set 3 (xb .add (.va 3) (xi 1))])))))) (.seq (.seq (R 999 [1, 2, 4] [.set 4 (xi 0)]) (.block 2 (.loop (.seq (.seq (R 44 [1, 2, 4, 48] [.tmp 48 (xb .lss (.va 4) (xlen (xld
  (xfa 3 (.sl 1)))))]) (.cond (.s 48) .skip (.exit 2))) (.seq (.block 3 (.seq (R 51 [1, 2, 4, 5] [.set 5 (xc2 120 (xln 8 (.sl 1)) (.va 4))]) (.seq (.seq (R 54 [1, 2,
  4, 5, 55] [.tmp 55 (xb .lss (.va 5) (xi 0))]) (.cond (.s 55) (.seq (R 56 [2] [.run (xst 3 (.sl 2) (.op (.p (.build [.int .i64 0, .int .i64 0, .int .i64 0] [(0, 1, .s 0), (1, 1, .s
  1), (2, 1, .s 2)])) (.cons (xi 33) (.cons (xi 4) (.va 4)))))]) .ret) .skip)) (.seq (R 58 [1, 2, 4, 59] [.tmp 59 (xb .gtr (.va 5) (xi 4))]) (.cond (.s 59) (.seq (R 60 [2] [.run
  (xst 3 (.sl 2) (.op (.p (.build [.int .i64 0, .int .i64 0, .int .i64 0] [(0, 1, .s 0), (1, 1, .s 1), (2, 1, .s 2)])) (.cons (xi 34) (.cons (xi 4) (.va 4)))))]) .ret) .skip))))) (R
  49 [1, 2, 4] [.set 4 (xb .add (.va 4) (xi 1))])))))) (.seq (R 62 [2] [.run (xst 3 (.sl 2) (.op (.p (.build [.int .i64 0, .int .i64 0, .int .i64 0] [])) .nil))]) .ret))))
theorem fn_guiseref6_pairs : (autoPrg Tryz.prog).fn 69 = some LF_guiseref6_pairs := by kernel_rfl
def LF_guiseref6_drops : LFunc :=
  .mk 1 [.cell 2 (some 3)] (.seq (R 1 [1, 2] [.tmp 1 (xbl 1 8 (.sl 0)), .tmp 2 (xnl 2 [.int .i64 0, .int .i64 0, .int .i64 0])]) (.seq (.seq (R 999 [1, 2, 3] [.set 3 (xi 0)])
  (.block 0 (.loop (.seq (.seq (R 7 [1, 2, 3, 11] [.tmp 11 (xb .lss (.va 3) (xlen (xld (xfa 2 (.sl 1)))))]) (.cond (.s 11) .skip (.exit 0))) (.seq (.block 1 (.seq (R 14 [1, 2, 3,
  22] [.tmp 22 (xc2 121 (xld (xfa 0 (xia 2 (xld (xfa 2 (.sl 1))) (.va 3)))) (xld (xfa 6 (.sl 1))))]) (.cond (.s 22) (.seq (R 23 [2] [.run (xst 3 (.sl 2) (.op (.p
  (.build [.int .i64 0, .int .i64 0, .int .i64 0] [(0, 1, .s 0), (1, 1, .s 1), (2, 1, .s 2)])) (.cons (xi 37) (.cons (xi 3) (.va 3)))))]) .ret) .skip))) (R 12 [1, 2, 3] [.set 3 (xb
  .add (.va 3) (xi 1))])))))) (.seq (.seq (R 999 [1, 2, 4] [.set 4 (xi 0)]) (.block 2 (.loop (.seq (.seq (R 25 [1, 2, 4, 29] [.tmp 29 (xb .lss (.va 4) (xlen (xld (xfa 3 (.sl
  1)))))]) (.cond (.s 29) .skip (.exit 2))) (.seq (.block 3 (.seq (R 32 [1, 2, 4, 62] [.tmp 62 (.or (.or (xc2 121 (xld (xfa 0 (xia 3 (xld (xfa 3 (.sl 1))) (.va 4))))
  (xld (xfa 6 (.sl 1)))) (xc2 121 (xld (xfa 1 (xia 3 (xld (xfa 3 (.sl 1))) (.va 4)))) (xld (xfa 6 (.sl 1))))) (xc2 121 (xld (xfa 2 (xia 3 (xld (xfa 3 (.sl
  1))) (.va 4)))) (xld (xfa 6 (.sl 1)))))]) (.cond (.s 62) (.seq (R 63 [2] [.run (xst 3 (.sl 2) (.op (.p (.build [.int .i64 0, .int .i64 0, .int .i64 0] [(0, 1, .s 0), (1, 1, .s 1),
  (2, 1, .s 2)])) (.cons (xi 37) (.cons (xi 4) (.va 4)))))]) .ret) .skip))) (R 30 [1, 2, 4] [.set 4 (xb .add (.va 4) (xi 1))])))))) (.seq (.seq (R 999 [1, 2, 5] [.set 5 (xi 0)])
  (.block 4 (.loop (.seq (.seq (R 65 [1, 2, 5, 69] [.tmp 69 (xb .lss (.va 5) (xlen (xld (xfa 4 (.sl 1)))))]) (.cond (.s 69) .skip (.exit 4))) (.seq (.block 5 (.seq (R 72 [1, 2, 5,
  80] [.tmp 80 (xc2 121 (xld (xfa 0 (xia 2 (xld (xfa 4 (.sl 1))) (.va 5)))) (xld (xfa 6 (.sl 1))))]) (.cond (.s 80) (.seq (R 81 [2] [.run (xst 3 (.sl 2) (.op (.p
  (.build [.int .i64 0, .int .i64 0, .int .i64 0] [(0, 1, .s 0), (1, 1, .s 1), (2, 1, .s 2)])) (.cons (xi 37) (.cons (xi 5) (.va 5)))))]) .ret) .skip))) (R 70 [1, 2, 5] [.set 5 (xb
  .add (.va 5) (xi 1))])))))) (.seq (.seq (R 999 [1, 2, 6] [.set 6 (xi 0)]) (.block 6 (.loop (.seq (.seq (R 83 [1, 2, 6, 87] [.tmp 87 (xb .lss (.va 6) (xlen (xld (xfa 5 (.sl
  1)))))]) (.cond (.s 87) .skip (.exit 6))) (.seq (.block 7 (.seq (R 90 [1, 2, 6, 98] [.tmp 98 (xc2 121 (xld (xfa 0 (xia 2 (xld (xfa 5 (.sl 1))) (.va 6)))) (xld (xfa 6
  (.sl 1))))]) (.cond (.s 98) (.seq (R 99 [2] [.run (xst 3 (.sl 2) (.op (.p (.build [.int .i64 0, .int .i64 0, .int .i64 0] [(0, 1, .s 0), (1, 1, .s 1), (2, 1, .s 2)])) (.cons (xi
  37) (.cons (xi 6) (.va 6)))))]) .ret) .skip))) (R 88 [1, 2, 6] [.set 6 (xb .add (.va 6) (xi 1))])))))) (.seq (R 101 [2] [.run (xst 3 (.sl 2) (.op (.p (.build [.int .i64 0, .int
  .i64 0, .int .i64 0] [])) .nil))]) .ret))))))
theorem fn_guiseref6_drops : (autoPrg Tryz.prog).fn 70 = some LF_guiseref6_drops := by kernel_rfl
def LF_guiseref6_tos : LFunc :=
  .mk 1 [.cell 2 (some 3)] (.seq (R 1 [1, 2] [.tmp 1 (xbl 1 8 (.sl 0)), .tmp 2 (xnl 2 [.int .i64 0, .int .i64 0, .int .i64 0])]) (.seq (.seq (R 999 [1, 2, 3] [.set 3 (xi 0)])
  (.block 0 (.loop (.seq (.seq (R 13 [1, 2, 3, 17] [.tmp 17 (xb .lss (.va 3) (xlen (xld (xfa 4 (.sl 1)))))]) (.cond (.s 17) .skip (.exit 0))) (.seq (.block 1 (.seq (R 20 [1, 2, 3,
  38] [.tmp 38 (.or (xc2 119 (xln 8 (.sl 1)) (xld (xfa 0 (xia 2 (xld (xfa 4 (.sl 1))) (.va 3))))) (xb .geq (xc2 122 (xln 8 (.sl 1)) (xld (xfa 0 (xia 2
  (xld (xfa 4 (.sl 1))) (.va 3))))) (xi 0)))]) (.cond (.s 38) (.seq (R 39 [2] [.run (xst 3 (.sl 2) (.op (.p (.build [.int .i64 0, .int .i64 0, .int .i64 0] [(0, 1, .s 0), (1, 1, .s
  1), (2, 1, .s 2)])) (.cons (xi 31) (.cons (xi 5) (.va 3)))))]) .ret) .skip))) (R 18 [1, 2, 3] [.set 3 (xb .add (.va 3) (xi 1))])))))) (.seq (.seq (R 999 [1, 2, 4] [.set 4 (xi 0)])
  (.block 2 (.loop (.seq (.seq (R 41 [1, 2, 4, 45] [.tmp 45 (xb .lss (.va 4) (xlen (xld (xfa 5 (.sl 1)))))]) (.cond (.s 45) .skip (.exit 2))) (.seq (.block 3 (.seq (R 48 [1, 2, 4,
  66] [.tmp 66 (.or (xc2 119 (xln 8 (.sl 1)) (xld (xfa 0 (xia 2 (xld (xfa 5 (.sl 1))) (.va 4))))) (xb .geq (xc2 122 (xln 8 (.sl 1)) (xld (xfa 0 (xia 2
  (xld (xfa 5 (.sl 1))) (.va 4))))) (xi 0)))]) (.cond (.s 66) (.seq (R 67 [2] [.run (xst 3 (.sl 2) (.op (.p (.build [.int .i64 0, .int .i64 0, .int .i64 0] [(0, 1, .s 0), (1, 1, .s
  1), (2, 1, .s 2)])) (.cons (xi 31) (.cons (xi 6) (.va 4)))))]) .ret) .skip))) (R 46 [1, 2, 4] [.set 4 (xb .add (.va 4) (xi 1))])))))) (.seq (.seq (R 999 [1, 2, 5] [.set 5 (xi 0)])
  (.block 4 (.loop (.seq (.seq (R 69 [1, 2, 5, 73] [.tmp 73 (xb .lss (.va 5) (xlen (xld (xfa 4 (.sl 1)))))]) (.cond (.s 73) .skip (.exit 4))) (.seq (.block 5 (.seq (R 77 [1, 2, 5,
  6] [.set 76 (xc1 84 (xld (xfa 1 (xia 2 (xld (xfa 4 (.sl 1))) (.va 5))))), .tmp 84 (xex 0 (.sl 76)), .tmp 85 (xex 1 (.sl 76)), .set 6 (.sl 84), .set 7 (.sl 85)])
  (.seq (R 999 [1, 2, 5, 6, 8] [.set 8 (xi 0)]) (.block 6 (.loop (.seq (.seq (R 86 [1, 2, 5, 6, 8, 89] [.tmp 89 (xb .lss (.va 8) (xlen (.va 6)))]) (.cond (.s 89) .skip (.exit 6)))
  (.seq (.block 7 (.seq (R 92 [1, 2, 5, 6, 8, 98] [.tmp 98 (xu .not (xc2 123 (xln 8 (.sl 1)) (xld (xia 1 (.va 6) (.va 8)))))]) (.cond (.s 98) (.seq (R 99 [2] [.run
  (xst 3 (.sl 2) (.op (.p (.build [.int .i64 0, .int .i64 0, .int .i64 0] [(0, 1, .s 0), (1, 1, .s 1), (2, 1, .s 2)])) (.cons (xi 35) (.cons (xi 5) (.va 5)))))]) .ret) .skip))) (R
  90 [1, 2, 5, 6, 8] [.set 8 (xb .add (.va 8) (xi 1))])))))))) (R 74 [1, 2, 5] [.set 5 (xb .add (.va 5) (xi 1))])))))) (.seq (.seq (R 999 [1, 2, 9] [.set 9 (xi 0)]) (.block 8 (.loop
  (.seq (.seq (R 101 [1, 2, 9, 105] [.tmp 105 (xb .lss (.va 9) (xlen (xld (xfa 5 (.sl 1)))))]) (.cond (.s 105) .skip (.exit 8))) (.seq (.block 9 (.seq (R 109 [1, 2, 9, 10] [.set 108
  (xc1 84 (xld (xfa 1 (xia 2 (xld (xfa 5 (.sl 1))) (.va 9))))), .tmp 116 (xex 0 (.sl 108)), .tmp 117 (xex 1 (.sl 108)), .set 10 (.sl 116), .set 11 (.sl 117)]) (.seq
  (R 999 [1, 2, 9, 10, 12] [.set 12 (xi 0)]) (.block 10 (.loop (.seq (.seq (R 118 [1, 2, 9, 10, 12, 121] [.tmp 121 (xb .lss (.va 12) (xlen (.va 10)))]) (.cond (.s 121) .skip (.exit
  10))) (.seq (.block 11 (.seq (R 124 [1, 2, 9, 10, 12, 140] [.tmp 140 (.or (xu .not (xc2 123 (xln 8 (.sl 1)) (xld (xia 1 (.va 10) (.va 12))))) (xb .geq (xc2
  83 (xld (xfa 5 (.sl 1))) (xld (xia 1 (.va 10) (.va 12)))) (xi 0)))]) (.cond (.s 140) (.seq (R 141 [2] [.run (xst 3 (.sl 2) (.op (.p (.build [.int .i64 0, .int .i64
  0, .int .i64 0] [(0, 1, .s 0), (1, 1, .s 1), (2, 1, .s 2)])) (.cons (xi 36) (.cons (xi 6) (.va 9)))))]) .ret) .skip))) (R 122 [1, 2, 9, 10, 12] [.set 12 (xb .add (.va 12) (xi
  1))])))))))) (R 106 [1, 2, 9] [.set 9 (xb .add (.va 9) (xi 1))])))))) (.seq (R 143 [2] [.run (xst 3 (.sl 2) (.op (.p (.build [.int .i64 0, .int .i64 0, .int .i64 0] [])) .nil))])
  .ret))))))
theorem fn_guiseref6_tos : (autoPrg Tryz.prog).fn 71 = some LF_guiseref6_tos := by kernel_rfl
def LF_guiseref6_rows : LFunc :=
  .mk 1 [.cell 2 (some 3)] (.seq (R 1 [1, 2] [.tmp 1 (xbl 1 8 (.sl 0)), .tmp 2 (xnl 2 [.int .i64 0, .int .i64 0, .int .i64 0])]) (.seq (.seq (R 999 [1, 2, 3] [.set 3 (xr 45)])
  (.block 0 (.loop (.seq (.seq (R 9 [1, 2, 3, 10] [.tmp 10 (xb .leq (.va 3) (xr 57))]) (.cond (.s 10) .skip (.exit 0))) (.seq (.block 1 (.seq (R 13 [1, 2, 3, 21] [.tmp 21 (.and (xb
  .neq (.va 3) (xr 47)) (xu .not (xc2 121 (.va 3) (xld (xfa 1 (.sl 1))))))]) (.cond (.s 21) (.seq (R 22 [2] [.run (xst 3 (.sl 2) (.op (.p (.build [.int .i64 0, .int
  .i64 0, .int .i64 0] [(0, 1, .s 0), (1, 1, .s 1)])) (.cons (xi 5) (xi 2))))]) .ret) .skip))) (R 11 [1, 2, 3] [.set 3 (xb .add (.va 3) (xr 1))])))))) (.seq (.seq (R 999 [1, 2, 4]
  [.set 4 (xi 0)]) (.block 2 (.loop (.seq (.seq (R 23 [1, 2, 4, 27] [.tmp 27 (xb .lss (.va 4) (xlen (xld (xfa 2 (.sl 1)))))]) (.cond (.s 27) .skip (.exit 2))) (.seq (.block 3 (.seq
  (R 30 [1, 2, 4, 36] [.tmp 36 (xc1 142 (xld (xfa 0 (xia 2 (xld (xfa 2 (.sl 1))) (.va 4)))))]) (.cond (.s 36) (.seq (R 37 [2] [.run (xst 3 (.sl 2) (.op (.p (.build
  [.int .i64 0, .int .i64 0, .int .i64 0] [(0, 1, .s 0), (1, 1, .s 1), (2, 1, .s 2)])) (.cons (xi 5) (.cons (xi 3) (.va 4)))))]) .ret) .skip))) (R 28 [1, 2, 4] [.set 4 (xb .add (.va
  4) (xi 1))])))))) (.seq (.seq (R 999 [1, 2, 5] [.set 5 (xi 0)]) (.block 4 (.loop (.seq (.seq (R 39 [1, 2, 5, 43] [.tmp 43 (xb .lss (.va 5) (xlen (xld (xfa 3 (.sl 1)))))]) (.cond
  (.s 43) .skip (.exit 4))) (.seq (.block 5 (.seq (R 46 [1, 2, 5, 52] [.tmp 52 (xc1 142 (xld (xfa 0 (xia 3 (xld (xfa 3 (.sl 1))) (.va 5)))))]) (.cond (.s 52) (.seq (R
  53 [2] [.run (xst 3 (.sl 2) (.op (.p (.build [.int .i64 0, .int .i64 0, .int .i64 0] [(0, 1, .s 0), (1, 1, .s 1), (2, 1, .s 2)])) (.cons (xi 5) (.cons (xi 4) (.va 5)))))]) .ret)
  .skip))) (R 44 [1, 2, 5] [.set 5 (xb .add (.va 5) (xi 1))])))))) (.seq (.seq (R 999 [1, 2, 6] [.set 6 (xi 0)]) (.block 6 (.loop (.seq (.seq (R 55 [1, 2, 6, 59] [.tmp 59 (xb .lss
  (.va 6) (xlen (xld (xfa 4 (.sl 1)))))]) (.cond (.s 59) .skip (.exit 6))) (.seq (.block 7 (.seq (R 62 [1, 2, 6, 7] [.set 7 (xld (xfa 0 (xia 2 (xld (xfa 4 (.sl 1))) (.va 6))))])
  (.seq (R 68 [1, 2, 6, 86] [.tmp 86 (.or (.and (xc1 142 (.va 7)) (.or (xb .lss (.va 7) (xr 65)) (xb .gtr (.va 7) (xr 90)))) (xc1 143 (xld (xfa 1 (xia 2
  (xld (xfa 4 (.sl 1))) (.va 6))))))]) (.cond (.s 86) (.seq (R 87 [2] [.run (xst 3 (.sl 2) (.op (.p (.build [.int .i64 0, .int .i64 0, .int .i64 0] [(0, 1, .s 0), (1, 1, .s 1), (2,
  1, .s 2)])) (.cons (xi 5) (.cons (xi 5) (.va 6)))))]) .ret) .skip)))) (R 60 [1, 2, 6] [.set 6 (xb .add (.va 6) (xi 1))])))))) (.seq (.seq (R 999 [1, 2, 8] [.set 8 (xi 0)]) (.block
  8 (.loop (.seq (.seq (R 89 [1, 2, 8, 93] [.tmp 93 (xb .lss (.va 8) (xlen (xld (xfa 5 (.sl 1)))))]) (.cond (.s 93) .skip (.exit 8))) (.seq (.block 9 (.seq (R 96 [1, 2, 8, 111]
  [.tmp 111 (.or (xc1 144 (xld (xfa 0 (xia 2 (xld (xfa 5 (.sl 1))) (.va 8))))) (xc1 143 (xld (xfa 1 (xia 2 (xld (xfa 5 (.sl 1))) (.va 8))))))]) (.cond
  (.s 111) (.seq (R 112 [2] [.run (xst 3 (.sl 2) (.op (.p (.build [.int .i64 0, .int .i64 0, .int .i64 0] [(0, 1, .s 0), (1, 1, .s 1), (2, 1, .s 2)])) (.cons (xi 5) (.cons (xi 6)
  (.va 8)))))]) .ret) .skip))) (R 94 [1, 2, 8] [.set 8 (xb .add (.va 8) (xi 1))])))))) (.seq (R 114 [2] [.run (xst 3 (.sl 2) (.op (.p (.build [.int .i64 0, .int .i64 0, .int .i64 0]
  [])) .nil))]) .ret)))))))
theorem fn_guiseref6_rows : (autoPrg Tryz.prog).fn 124 = some LF_guiseref6_rows := by kernel_rfl
def LF_guiseref6_house : LFunc :=
  .mk 1 [.cell 2 (some 3)] (.seq (R 1 [1, 2] [.tmp 1 (xbl 1 8 (.sl 0)), .tmp 2 (xnl 2 [.int .i64 0, .int .i64 0, .int .i64 0])]) (.seq (R 8 [1, 2, 3] [.tmp 9 (xc1 124
  (xln 8 (.sl 1))), .at 3, .tmp 3 (xnl 3 [.int .i64 0, .int .i64 0, .int .i64 0]), .run (xst 3 (.sl 3) (.sl 9))]) (.seq (.seq (R 10 [1, 2, 3, 12] [.tmp 12 (xb .neq (xld (xfa 0 (.sl
  3))) (xi 0))]) (.cond (.s 12) (.seq (R 13 [2] [.run (xst 3 (.sl 2) (xln 3 (.sl 3)))]) .ret) .skip)) (.seq (.seq (R 999 [1, 2, 4] [.set 4 (xi 0)]) (.block 0 (.loop (.seq (.seq (R
  14 [1, 2, 4, 18] [.tmp 18 (xb .lss (.va 4) (xlen (xld (xfa 6 (.sl 1)))))]) (.cond (.s 18) .skip (.exit 0))) (.seq (.block 1 (.seq (R 21 [1, 2, 4, 45] [.tmp 45 (.or (xb .lss (xld
  (xfa 0 (xia 2 (xld (xfa 6 (.sl 1))) (.va 4)))) (xr 128)) (.and (xb .leq (xld (xfa 0 (xia 2 (xld (xfa 6 (.sl 1))) (.va 4)))) (xr 65533)) (xb .leq (xr 65533) (xld (xfa 1 (xia 2 (xld
  (xfa 6 (.sl 1))) (.va 4)))))))]) (.cond (.s 45) (.seq (R 46 [2] [.run (xst 3 (.sl 2) (.op (.p (.build [.int .i64 0, .int .i64 0, .int .i64 0] [(0, 1, .s 0), (1, 1, .s 1), (2, 1,
  .s 2)])) (.cons (xi 5) (.cons (xi 7) (.va 4)))))]) .ret) .skip))) (R 19 [1, 2, 4] [.set 4 (xb .add (.va 4) (xi 1))])))))) (.seq (.seq (R 999 [1, 2, 5] [.set 5 (xi 0)]) (.block 2
  (.loop (.seq (.seq (R 48 [1, 2, 5, 52] [.tmp 52 (xb .lss (.va 5) (xlen (xld (xfa 7 (.sl 1)))))]) (.cond (.s 52) .skip (.exit 2))) (.seq (.block 3 (.seq (R 55 [1, 2, 5, 6] [.set 6
  (xld (xfa 0 (xia 2 (xld (xfa 7 (.sl 1))) (.va 5))))]) (.block 4 (.loop (.seq (.seq (R 61 [1, 2, 5, 6, 72] [.tmp 72 (.and (xb .leq (.va 6) (xld (xfa 1 (xia 2 (xld (xfa 7 (.sl 1)))
  (.va 5))))) (xb .lss (.va 6) (xr 128)))]) (.cond (.s 72) .skip (.exit 4))) (.seq (.block 5 (.seq (R 75 [1, 2, 5, 6, 92] [.tmp 92 (.and (.and (xb .neq (.va 6) (xr 45)) (.or (xb
  .lss (.va 6) (xr 48)) (xb .gtr (.va 6) (xr 57)))) (.or (xb .lss (.va 6) (xr 97)) (xb .gtr (.va 6) (xr 122))))]) (.cond (.s 92) (.seq (R 93 [2] [.run (xst 3 (.sl 2) (.op (.p
  (.build [.int .i64 0, .int .i64 0, .int .i64 0] [(0, 1, .s 0), (1, 1, .s 1), (2, 1, .s 2)])) (.cons (xi 5) (.cons (xi 8) (.va 5)))))]) .ret) .skip))) (R 73 [1, 2, 5, 6] [.set 6
  (xb .add (.va 6) (xr 1))]))))))) (R 53 [1, 2, 5] [.set 5 (xb .add (.va 5) (xi 1))])))))) (.seq (.seq (R 999 [1, 2, 7] [.set 7 (xr 45)]) (.block 6 (.loop (.seq (.seq (R 95 [1, 2,
  7, 96] [.tmp 96 (xb .leq (.va 7) (xr 122))]) (.cond (.s 96) .skip (.exit 6))) (.seq (.block 7 (.seq (R 99 [1, 2, 7, 119] [.tmp 119 (.and (.or (.or (xb .eql (.va 7) (xr 45)) (.and
  (xb .geq (.va 7) (xr 48)) (xb .leq (.va 7) (xr 57)))) (xb .geq (.va 7) (xr 97))) (xu .not (xc2 121 (.va 7) (xld (xfa 7 (.sl 1))))))]) (.cond (.s 119) (.seq (R 120 [2]
  [.run (xst 3 (.sl 2) (.op (.p (.build [.int .i64 0, .int .i64 0, .int .i64 0] [(0, 1, .s 0), (1, 1, .s 1)])) (.cons (xi 5) (xi 8))))]) .ret) .skip))) (R 97 [1, 2, 7] [.set 7 (xb
  .add (.va 7) (xr 1))])))))) (.seq (R 121 [2] [.run (xst 3 (.sl 2) (.op (.p (.build [.int .i64 0, .int .i64 0, .int .i64 0] [])) .nil))]) .ret)))))))
theorem fn_guiseref6_house : (autoPrg Tryz.prog).fn 72 = some LF_guiseref6_house := by kernel_rfl
def LF_guiseref6_Check : LFunc :=
  .mk 1 [.cell 2 (some 3)] (.seq (R 1 [1, 2] [.tmp 1 (xbl 1 8 (.sl 0)), .tmp 2 (xnl 2 [.int .i64 0, .int .i64 0, .int .i64 0])]) (.seq (R 4 [1, 2, 3] [.tmp 5 (xc1 66
  (xln 8 (.sl 1))), .at 3, .tmp 3 (xnl 3 [.int .i64 0, .int .i64 0, .int .i64 0]), .run (xst 3 (.sl 3) (.sl 5))]) (.seq (.seq (R 6 [1, 2, 3, 8] [.tmp 8 (xb .eql (xld (xfa 0 (.sl
  3))) (xi 0))]) (.cond (.s 8) (R 9 [1, 2, 3] [.run (xst 3 (.sl 3) (xc1 67 (xln 8 (.sl 1))))]) .skip)) (.seq (.seq (R 11 [1, 2, 3, 13] [.tmp 13 (xb .eql (xld (xfa 0
  (.sl 3))) (xi 0))]) (.cond (.s 13) (R 14 [1, 2, 3] [.run (xst 3 (.sl 3) (xc1 68 (xln 8 (.sl 1))))]) .skip)) (.seq (.seq (R 16 [1, 2, 3, 18] [.tmp 18 (xb .eql (xld
  (xfa 0 (.sl 3))) (xi 0))]) (.cond (.s 18) (R 19 [1, 2, 3] [.run (xst 3 (.sl 3) (xc1 69 (xln 8 (.sl 1))))]) .skip)) (.seq (.seq (R 21 [1, 2, 3, 23] [.tmp 23 (xb
  .eql (xld (xfa 0 (.sl 3))) (xi 0))]) (.cond (.s 23) (R 24 [1, 2, 3] [.run (xst 3 (.sl 3) (xc1 70 (xln 8 (.sl 1))))]) .skip)) (.seq (.seq (R 26 [1, 2, 3, 28] [.tmp
  28 (xb .eql (xld (xfa 0 (.sl 3))) (xi 0))]) (.cond (.s 28) (R 29 [1, 2, 3] [.run (xst 3 (.sl 3) (xc1 71 (xln 8 (.sl 1))))]) .skip)) (.seq (.seq (R 31 [1, 2, 3, 33]
  [.tmp 33 (xb .eql (xld (xfa 0 (.sl 3))) (xi 0))]) (.cond (.s 33) (R 34 [2, 3] [.run (xst 3 (.sl 3) (xc1 72 (xln 8 (.sl 1))))]) .skip)) (.seq (R 36 [2] [.run (xst
  3 (.sl 2) (xln 3 (.sl 3)))]) .ret)))))))))
theorem fn_guiseref6_Check : (autoPrg Tryz.prog).fn 40 = some LF_guiseref6_Check := by kernel_rfl
end Go.Proofs.YtakmapoompffgaaGreatDoor.AM
namespace Go.Proofs.YtakmapoompffgaaGreatDoor.AM
open Go
theorem any_scan {α : Type} {l : List α} {P : α → Prop} [DecidablePred P] : (l.any fun x => decide (P x)) = (scanL l fun _ x => if P x then some () else none).isSome := by
  cases h : scanL l fun _ x => if P x then some () else none with
  | some w =>
    obtain ⟨i, hi, hw⟩ := scanL_some h
    rw [List.any_eq_true.2 ⟨l[i], List.getElem_mem hi, by by_cases hp : P l[i]; exact decide_eq_true hp; rw [if_neg hp] at hw; cases hw⟩]; rfl
  | none =>
    rw [List.any_eq_false.2 fun x hx hp => ?_]; rfl
    obtain ⟨i, hi, rfl⟩ := List.mem_iff_getElem.1 hx
    have := scanL_none h i hi
    rw [if_pos (of_decide_eq_true hp)] at this
    cases this
theorem rune6_eq (r : Int) (h : AH) : callO PX 117 [.int .i32 r] h = some (.bool (runeI r), h) := by
  apply WpC.eqn
  refine wpc_fn (px_ext rfl) (px_fn fn_guiseref6_Rune) rfl ?_
  unfold LF_guiseref6_Rune
  simp only [argFr]
  (refine W_x trivial ?_; (repeat' first | apply Cj.mk | exact Nl.nl) <;> intros)
  all_goals (refine ⟨?_, rfl⟩; congr 1; symm; unfold runeI; first | (exact decide_eq_true (by omega)) | (exact decide_eq_false (by omega)))
theorem low6_eq (r : Int) (h : AH) : callO PX 142 [.int .i32 r] h = some (.bool (lowI r), h) := by
  apply WpC.eqn
  refine wpc_fn (px_ext rfl) (px_fn fn_guiseref6_low) rfl ?_
  unfold LF_guiseref6_low
  simp only [argFr]
  (refine W_x trivial ?_; (repeat' first | apply Cj.mk | exact Nl.nl) <;> intros)
  all_goals (refine ⟨?_, rfl⟩; congr 1; symm; unfold lowI; first | (exact decide_eq_true (by omega)) | (exact decide_eq_false (by omega)))
theorem set6_eq (r : Int) (h : AH) : callO PX 144 [.int .i32 r] h = some (.bool (setI r), h) := by
  apply WpC.eqn
  refine wpc_fn (px_ext rfl) (px_fn fn_guiseref6_set) rfl ?_
  unfold LF_guiseref6_set
  simp only [argFr]
  (refine W_x trivial ?_; (repeat' first | apply Cj.mk | exact Nl.nl) <;> intros)
  all_goals (refine ⟨?_, rfl⟩; congr 1; symm; unfold setI; first | (exact decide_eq_true (by omega)) | (exact decide_eq_false (by omega)))
theorem of6_eq {r : Int} {s : Sl} {l : List Span} {h : AH} (rd : Reads h 2 s (l.map pairV)) (hl : l.length < 100000000) : callO PX 121 [.int .i32 r, s.val 2] h = some (.bool (ofI r l), h) := by
  have hs := rd.len
  have e1 := rune6_eq r
  apply WpC.eqn
  refine wpc_fn (px_ext rfl) (px_fn fn_guiseref6_Of) rfl ?_
  unfold LF_guiseref6_Of
  simp only [argFr]
  unfold ofI
  rw [any_scan]
  generalize hb : runeI r = b at e1
  (refine W_x trivial ?_; (repeat' first | apply Cj.mk | exact Nl.nl) <;> intros)
  refine wp_scanF 5 l (fun _ x => if b = true ∧ x.1 ≤ r ∧ r ≤ x.2 then some () else none) (by intro n; simp only [setF, push_cast, Nat.reduceEqDiff, ↓reduceIte, reduceCtorEq, Nat.reduceAdd, Nat.reduceMul, Nat.reduceLeDiff]; rfl) rfl (fun i hi hit => ?_) fun fin => ?_
  · have g0 := fun lc => rd_mapc (lc := lc) rd hi (k := 0) (by decide)
    have g1 := fun lc => rd_mapc (lc := lc) rd hi (k := 1) (by decide)
    generalize l[i] = x at hit g0 g1
    unfold pairV at g0 g1
    cases b
    · (refine W_x (Aj hs (Aj e1 (Aj g0 g1))) ?_; (repeat' first | apply Cj.mk | exact Nl.nl) <;> intros)
      exact ⟨rfl, rfl, rfl, rfl⟩
    · (refine W_x (Aj hs (Aj e1 (Aj g0 g1))) ?_; (repeat' first | apply Cj.mk | exact Nl.nl) <;> intros)
      · simp only [true_and] at hit
        rw [hit () (if_pos (by omega))]
        exact ⟨rfl, rfl⟩
      all_goals exact ⟨if_neg (by omega), rfl, rfl, rfl⟩
  · (refine W_x hs ?_; (repeat' first | apply Cj.mk | exact Nl.nl) <;> intros)
    cases b
    · exact ⟨rfl, rfl⟩
    · simp only [true_and] at fin
      rw [fin]
      exact ⟨rfl, rfl⟩
theorem name6_eq (s : ByteArray) (h : AH) (hsz : s.size < 100000000) : callO PX 140 [.string s] h = some (.bool (nameB s.data.toList), h) := by
  apply WpC.eqn
  obtain ⟨l, hl⟩ : ∃ l, l = s.data.toList := ⟨_, rfl⟩
  have hll : l.length = s.size := by rw [hl]; rfl
  rw [← hl]
  refine wpc_fn (px_ext rfl) (px_fn fn_guiseref6_ScriptName) rfl ?_
  unfold LF_guiseref6_ScriptName
  simp only [argFr]
  unfold nameB
  (refine W_x trivial ?_; (repeat' first | apply Cj.mk | exact Nl.nl) <;> intros)
  refine wp_scanF 3 l (fun i c => if badNm i c then some () else none) (by intro n; simp only [setF, push_cast, Nat.reduceEqDiff, ↓reduceIte, reduceCtorEq, Nat.reduceAdd, Nat.reduceMul, Nat.reduceLeDiff]; rfl) rfl (fun i hi hit => ?_) fun fin => ?_
  · have hb : bat l i = (l[i]).toNat := by unfold bat; rw [List.getD_eq_getElem?_getD, List.getElem?_eq_getElem hi, Option.getD_some]
    generalize l[i] = c at hb hit
    have hc := u8_lt c
    unfold badNm at hit ⊢
    (refine W_x (Aj hl.symm hb) ?_; (repeat' first | apply Cj.mk | exact Nl.nl) <;> intros)
    all_goals first
      | exact ⟨if_neg (by omega), rfl, rfl, rfl⟩
      | (rw [hit () (if_pos (by omega))]; exact ⟨rfl, rfl⟩)
  · rw [fin]
    (refine W_x trivial ?_; (repeat' first | apply Cj.mk | exact Nl.nl) <;> intros)
    all_goals (refine ⟨?_, rfl⟩; congr 1; symm; first | (exact decide_eq_true (by omega)) | (exact decide_eq_false (by omega)))
theorem mark6_eq {S : TS} {T : Tab} {h : AH} (t : TabAt h S T) (r : Int) : callO PX 119 [.agg S.vs.toArray, .int .i32 r] h = some (.bool (isMark T r), h) := by
  have rd := t.r2
  have hn := t.fits.n2
  have hs := rd.len
  apply WpC.eqn
  refine wpc_fn (px_ext rfl) (px_fn fn_guiseref6_mark) rfl ?_
  unfold LF_guiseref6_mark
  simp only [argFr]
  unfold isMark
  rw [any_scan]
  unfold TS.vs
  (refine W_x trivial ?_; (repeat' first | apply Cj.mk | exact Nl.nl) <;> intros)
  refine wp_scanF 5 T.marks (fun _ x => if x.1 = r then some () else none) (by intro n; simp only [setF, push_cast, Nat.reduceEqDiff, ↓reduceIte, reduceCtorEq, Nat.reduceAdd, Nat.reduceMul, Nat.reduceLeDiff]; rfl) rfl (fun i hi hit => ?_) fun fin => ?_
  · have g0 := fun lc => rd_mapc (lc := lc) rd hi (k := 0) (by decide)
    generalize T.marks[i] = x at hit g0
    unfold markV at g0
    (refine W_x (Aj hs g0) ?_; (repeat' first | apply Cj.mk | exact Nl.nl) <;> intros)
    · rw [hit () (if_pos (by omega))]; exact ⟨rfl, rfl⟩
    · exact ⟨if_neg (by omega), rfl, rfl, rfl⟩
  · rw [fin]
    (refine W_x hs ?_; (repeat' first | apply Cj.mk | exact Nl.nl) <;> intros)
    exact ⟨rfl, rfl⟩
theorem whole6_eq {S : TS} {T : Tab} {h : AH} (t : TabAt h S T) (r : Int) : callO PX 122 [.agg S.vs.toArray, .int .i32 r] h = some (.int .i64 (ixI (wholeO T r)), h) := by
  have rd := t.r3
  have hn := t.fits.n3
  have hs := rd.len
  apply WpC.eqn
  refine wpc_fn (px_ext rfl) (px_fn fn_guiseref6_Whole) rfl ?_
  unfold LF_guiseref6_Whole
  simp only [argFr]
  unfold wholeO TS.vs
  (refine W_x trivial ?_; (repeat' first | apply Cj.mk | exact Nl.nl) <;> intros)
  refine wp_scanF 5 T.pairs (fun i x => if x.1 = r then some i else none) (by intro n; simp only [setF, push_cast, Nat.reduceEqDiff, ↓reduceIte, reduceCtorEq, Nat.reduceAdd, Nat.reduceMul, Nat.reduceLeDiff]; rfl) rfl (fun i hi hit => ?_) fun fin => ?_
  · have g0 := fun lc => rd_mapc (lc := lc) rd hi (k := 0) (by decide)
    generalize T.pairs[i] = x at hit g0
    unfold tripV at g0
    (refine W_x (Aj hs g0) ?_; (repeat' first | apply Cj.mk | exact Nl.nl) <;> intros)
    · rw [hit _ (if_pos (by omega))]; exact ⟨rfl, rfl⟩
    · exact ⟨if_neg (by omega), rfl, rfl, rfl⟩
  · rw [fin]
    (refine W_x hs ?_; (repeat' first | apply Cj.mk | exact Nl.nl) <;> intros)
    exact ⟨rfl, rfl⟩
theorem from6_eq {s : Sl} {l : List (Int × ByteArray)} {h : AH} (rd : Reads h 2 s (l.map mapV)) (hn : l.length < 100000000) (r : Int) : callO PX 83 [s.val 2, .int .i32 r] h = some (.int .i64 (ixI (fromO l r)), h) := by
  have hs := rd.len
  apply WpC.eqn
  refine wpc_fn (px_ext rfl) (px_fn fn_guiseref6_From) rfl ?_
  unfold LF_guiseref6_From
  simp only [argFr]
  unfold fromO
  (refine W_x trivial ?_; (repeat' first | apply Cj.mk | exact Nl.nl) <;> intros)
  refine wp_scanF 5 l (fun i x => if x.1 = r then some i else none) (by intro n; simp only [setF, push_cast, Nat.reduceEqDiff, ↓reduceIte, reduceCtorEq, Nat.reduceAdd, Nat.reduceMul, Nat.reduceLeDiff]; rfl) rfl (fun i hi hit => ?_) fun fin => ?_
  · have g0 := fun lc => rd_mapc (lc := lc) rd hi (k := 0) (by decide)
    generalize l[i] = x at hit g0
    unfold mapV at g0
    (refine W_x (Aj hs g0) ?_; (repeat' first | apply Cj.mk | exact Nl.nl) <;> intros)
    · rw [hit _ (if_pos (by omega))]; exact ⟨rfl, rfl⟩
    · exact ⟨if_neg (by omega), rfl, rfl, rfl⟩
  · rw [fin]
    (refine W_x hs ?_; (repeat' first | apply Cj.mk | exact Nl.nl) <;> intros)
    exact ⟨rfl, rfl⟩
theorem ixI_neg {o : Option Nat} : (ixI o < 0) ↔ o.isNone = true := by cases o <;> simp [ixI]
theorem plain6_eq {S : TS} {T : Tab} {h : AH} (t : TabAt h S T) (r : Int) : callO PX 123 [.agg S.vs.toArray, .int .i32 r] h = some (.bool (plainI T r), h) := by
  have e1 := rune6_eq r
  have e2 := mark6_eq t r
  have e3 := whole6_eq t r
  have e4 := of6_eq t.r6 t.fits.n6 (r := r)
  have e5 := from6_eq t.r4 t.fits.n4 r
  have i3 := ixI_neg (o := wholeO T r)
  have i5 := ixI_neg (o := fromO T.folds r)
  apply WpC.eqn
  refine wpc_fn (px_ext rfl) (px_fn fn_guiseref6_Plain) rfl ?_
  unfold LF_guiseref6_Plain
  simp only [argFr]
  unfold plainI TS.vs
  unfold TS.vs at e2 e3
  generalize runeI r = b1 at e1
  generalize isMark T r = b2 at e2
  generalize wholeO T r = o3 at e3 i3
  generalize ofI r T.drops = b4 at e4
  generalize fromO T.folds r = o5 at e5 i5
  cases b1
  · (refine W_x e1 ?_; (repeat' first | apply Cj.mk | exact Nl.nl) <;> intros)
    exact ⟨rfl, rfl⟩
  cases b2
  · (refine W_x (Aj e1 (Aj e2 e3)) ?_; (repeat' first | apply Cj.mk | exact Nl.nl) <;> intros)
    · rw [i3.1 (by assumption)]
      cases b4
      · (refine W_x (Aj e4 e5) ?_; (repeat' first | apply Cj.mk | exact Nl.nl) <;> intros)
        all_goals (refine ⟨?_, rfl⟩; congr 1; symm)
        · rw [i5.1 (by assumption)]; rfl
        · rename_i hh
          cases hq : o5.isNone
          · rfl
          · exact absurd (i5.2 hq) hh
      · (refine W_x e4 ?_; (repeat' first | apply Cj.mk | exact Nl.nl) <;> intros)
        exact ⟨rfl, rfl⟩
    · rename_i hh
      cases hq : o3.isNone
      · exact ⟨rfl, rfl⟩
      · exact absurd (i3.2 hq) hh
  · (refine W_x (Aj e1 e2) ?_; (repeat' first | apply Cj.mk | exact Nl.nl) <;> intros)
    exact ⟨rfl, rfl⟩
end Go.Proofs.YtakmapoompffgaaGreatDoor.AM
