/- The library's sort with the closure of 'made' keeps the contract 'sortX'. -/
import Derived.Test.YtanpdopjgepbkaaSortL
import Derived.Test.YtanpdopjgepbkaaMkB
set_option linter.unusedVariables false
set_option linter.unusedSimpArgs false
namespace Go.Proofs.Ytanpdopjgepbkaa.AM
open Go Go.Shelf Go.RowKit Go.Lib Go.Sort

theorem mixedOrders : Try.prog.follows .mixedOrders = true := by kernel_rfl

theorem pa_ok (B : Nat) : PrgOk Try.prog B PA where
  fn := fun f lf h => (autoPrg_ok Try.prog B).fn f lf (by unfold PA at h; rw [withExt_fn] at h; exact h)
  ext := fun f g hg => by unfold PA at hg; rw [withExt_ext] at hg; cases hg

theorem world_grow {W w' : World} (h1 : W.heap.size ≤ w'.heap.size) (h2 : ∀ c, c < W.heap.size → w'.heap[c]? = W.heap[c]?) (ho : w'.os = W.os) (ht : w'.tape = W.tape) (hu : w'.output = W.output) (hd : W.drawn ≤ w'.drawn) :
    ∃ q os', w' = grow (W.drewN q) os' := by
  refine ⟨w'.drawn - W.drawn, w'.heap.extract W.heap.size w'.heap.size, ?_⟩
  have hh : w'.heap = W.heap ++ w'.heap.extract W.heap.size w'.heap.size := by
    apply Array.ext_getElem?
    intro i
    by_cases hi : i < W.heap.size
    · rw [h2 i hi, Array.getElem?_append_left hi]
    · rw [Array.getElem?_append_right (by omega)]
      simp only [Array.getElem?_extract]
      by_cases hw : i < w'.heap.size
      · rw [if_pos (by omega), show W.heap.size + (i - W.heap.size) = i by omega]
      · rw [if_neg (by omega), Array.getElem?_eq_none (by omega)]
  obtain ⟨heap, tape, drawn, os, output⟩ := w'
  simp only at *
  subst ho ht hu
  simp only [grow, World.drewN]
  rw [← hh, show W.drawn + (drawn - W.drawn) = drawn by omega]

/-- The closure, in whatever world. -/
theorem closure_calls (x y : Int × Int) (W : World) : Calls Try.prog 88 #[.agg (rowV x).toArray, .agg (rowV y).toArray] W fun e w' => e = .returned (.int .i64 (cmpRow x y)) ∧ ∃ q os', w' = grow (W.drewN q) os' := by
  obtain ⟨v, h', h1, rfl⟩ := closure_spec x y ⟨Try.prog.globals.size, .e⟩
  obtain ⟨k, hk⟩ := callO_iff.1 h1
  have hrow : ∀ x : Int × Int, VRel (varsRho Try.prog) (.agg (rowV x).toArray) (.agg (rowV x).toArray) := fun x => .flatV (by simp [flatV, rowV, flat0])
  refine ((callsIn_wide (n := 0)).1 (run_sound (B := 0) mixedOrders (pa_ok 0) hk (Nat.zero_le _) (hrel_empty Try.prog 0 W) (.cons (hrow x) (.cons (hrow y) .nil)) 0)).mono fun e w' he => ?_
  obtain ⟨u, ρ', rfl, g1, g2, g3⟩ := he
  cases g3
  refine ⟨rfl, world_grow g2.size (fun c hc => g2.keep c hc fun ⟨b', o, δ, N, k1, _⟩ => ?_) g2.os g2.tape g2.output g2.drawn⟩
  simp only [AH.get, Tr.get] at k1
  split at k1 <;> cases k1

theorem rowsOf_inv : ∀ {L : List Value} {ps : List (Int × Int)}, rowsOf L = some ps → L = (ps.map rowV).flatten
  | [], ps, h => by simp only [rowsOf, Option.some.injEq] at h; subst h; rfl
  | [v], ps, h => by cases v <;> simp [rowsOf] at h
  | v :: u :: r, ps, h => by
    unfold rowsOf at h
    split at h
    · cases ‹v :: u :: r = []›
    · rename_i a b r' e
      injection e with e1 e2
      injection e2 with e2 e3
      subst e1 e2 e3
      obtain ⟨q, hq, rfl⟩ := Option.map_eq_some_iff.1 h
      have := rowsOf_inv hq
      simp [rowV, ← this]
    · cases h

theorem cmpRow_lt (x y : Int × Int) : cmpRow x y < 0 ↔ x.1 < y.1 ∨ x.1 = y.1 ∧ x.2 < y.2 := by
  unfold cmpRow cmpF
  split <;> split <;> (try split) <;> omega
theorem ltOf_cmp (x y : Int × Int) : ltOf cmpRow x y = decide (x.1 < y.1 ∨ x.1 = y.1 ∧ x.2 < y.2) := by
  unfold ltOf
  by_cases h : x.1 < y.1 ∨ x.1 = y.1 ∧ x.2 < y.2
  · rw [decide_eq_true h, decide_eq_true ((cmpRow_lt x y).2 h)]
  · rw [decide_eq_false h, decide_eq_false (fun hc => h ((cmpRow_lt x y).1 hc))]
theorem swo_cmp : SWO (ltOf cmpRow) where
  irrefl := fun x => by rw [ltOf_cmp]; simp
  trans := fun x y z h1 h2 => by rw [ltOf_cmp] at *; simp only [decide_eq_true_eq] at *; omega
  ntrans := fun x y z h1 h2 => by rw [ltOf_cmp] at *; simp only [decide_eq_false_iff_not] at *; omega
theorem total_cmp (x y : Int × Int) (h1 : ltOf cmpRow x y = false) (h2 : ltOf cmpRow y x = false) : x = y := by
  rw [ltOf_cmp] at *
  simp only [decide_eq_false_iff_not] at *
  exact Prod.ext (by omega) (by omega)
theorem sort_same (l : List (Int × Int)) : (l.mergeSort fun x y => !(ltOf cmpRow) y x) = sortF l := by
  unfold sortF
  congr 1
  funext x y
  rw [ltOf_cmp]
  unfold leRow
  by_cases h : x.1 < y.1 ∨ x.1 = y.1 ∧ x.2 ≤ y.2
  · rw [decide_eq_true h, decide_eq_false (by omega)]; rfl
  · rw [decide_eq_false h, decide_eq_true (by omega)]; rfl

theorem flatK_get (d : Array (Int × Int)) (j : Nat) (hj : j < d.size * 2) : ((d.toList.map rowV).flatten)[j]? = some (flatK rowV 2 d)[j]! := by
  rw [get_flatK _ _ _ _ hj]
  have hlt : j / 2 < d.size := by omega
  have h := flatten_part (e := 2) (xss := d.toList.map rowV) (fun x hx => by obtain ⟨y, _, rfl⟩ := List.mem_map.1 hx; rfl) (j / 2) (by simpa using hlt) []
  rw [List.append_nil, List.getElem_map] at h
  have h2 : ((d.toList.map rowV).flatten)[j]? = (((d.toList.map rowV).flatten.drop (j / 2 * 2)).take 2)[j % 2]? := by
    rw [List.getElem?_take_of_lt (by omega), List.getElem?_drop]
    congr 1
    omega
  rw [h2, h]
  have hd : d[j / 2]! = d.toList[j / 2]'(by simpa using hlt) := by simp [hlt]
  rw [hd]
  generalize d.toList[j / 2] = x
  have : j % 2 = 0 ∨ j % 2 = 1 := by omega
  rcases this with e | e <;> rw [e] <;> rfl

theorem mapBlock_get (w : World) (blk : Nat) (f : Array Value → Array Value) {c : Array Value} {e : TypeId} {fr : Nat × Nat} (hb : w.heap[blk]? = some (.cells c e fr)) : (mapBlock w blk f).heap[blk]? = some (.cells (f c) e fr) := by
  simp only [mapBlock, Array.getElem?_modify, if_true, hb, Option.map_some, onCells]
theorem mapBlock_ne (w : World) (blk : Nat) (f : Array Value → Array Value) {b : Nat} (h : blk ≠ b) : (mapBlock w blk f).heap[b]? = w.heap[b]? := by
  simp only [mapBlock, Array.getElem?_modify, if_neg h]

theorem sort_ok (B : Nat) : ∀ args h v h', sortX args h = some (v, h') → FnOk Try.prog 87 ∧
    ∀ ρ w argsC n, B ≤ w.heap.size → HRel Try.prog B ρ h w → VRels ρ args argsC.toList → CallsIn Fence.wide n Try.prog 87 argsC w (CallPost Try.prog B ρ h w v h') := by
  intro args h v h' hx
  refine ⟨⟨Try.f87, Try.func87, by decide, rfl⟩, fun ρ w argsC n hB hh ha => ?_⟩
  have eg : ∀ args w, (callFunc 88 args).run Try.prog w = .ok (.enter 88 args) w := enters_of Try.func88 (by kernel_rfl) rfl
  obtain ⟨L⟩ := argsC
  change VRels ρ args L at ha
  unfold sortX at hx
  split at hx
  · -- nil
    rename_i n0 e0 g a b
    split at hx
    · rename_i hc
      obtain ⟨rfl, rfl, rfl, ha1, hb1⟩ := hc
      injection hx with hx
      injection hx with hv hh'
      subst hv hh'
      cases ha with
      | cons hs ha2 =>
        cases ha2 with
        | cons hf hnil =>
          cases hnil
          cases hs
          cases hf with
          | func _ _ _ a' b' q1 q2 _ _ =>
            have ea : a' = #[] := Array.eq_empty_of_size_eq_zero (by omega)
            have eb : b' = #[] := Array.eq_empty_of_size_eq_zero (by omega)
            subst ea eb
            have hcon := AnyF.slices_SortFunc_none sortLays none 0 (.func (.func 88) #[] #[]) w
            refine ((callsIn_wide (n := n)).2 (hcon.mono fun e w' he => ?_))
            obtain ⟨rfl, rfl⟩ := he
            exact ⟨_, ρ, rfl, hh, Trans.refl ρ h _, .tuple _ _ rfl (by simp)⟩
    · cases hx
  · rename_i bk o n0 e0 g a b
    split at hx
    · rename_i xs hget
      split at hx
      · rename_i hc
        obtain ⟨hn0, hn1, rfl, rfl, ha1, hb1, hle⟩ := hc
        split at hx
        · rename_i ps hps
          injection hx with hx
          injection hx with hv hh'
          subst hv hh'
          have hflat := rowsOf_inv hps
          have hpl : ps.length = n0 := by
            have h1 := congrArg List.length hflat
            rw [List.length_take, List.length_drop, flatten_len (e := 2) (fun x hx => by obtain ⟨y, _, rfl⟩ := List.mem_map.1 hx; rfl), List.length_map] at h1
            omega
          cases ha with
          | cons hs ha2 =>
            cases ha2 with
            | cons hf hnil =>
              cases hnil
              cases hf with
              | func _ _ _ a' b' q1 q2 _ _ =>
                have ea : a' = #[] := Array.eq_empty_of_size_eq_zero (by omega)
                have eb : b' = #[] := Array.eq_empty_of_size_eq_zero (by omega)
                subst ea eb
                cases hs with
                | slZ => omega
                | sl _ _ c δ N _ _ k hρ hk hkN =>
                  obtain ⟨c', δ', N', x, r1, r2, r3, r4, r5⟩ := hh.live bk _ hget
                  rw [hρ] at r1
                  injection r1 with r1
                  injection r1 with e1 r1
                  injection r1 with e2 e3
                  subst e1 e2 e3
                  cases x with
                  | cells cs tt fz =>
                    obtain ⟨f1, f2, f3, f4⟩ := r3
                    have hBc := r4 rfl
                    have hcs : c < w.heap.size := (Array.getElem?_eq_some_iff.1 r2).1
                    subst hpl
                    have hlenF : ∀ l : List (Int × Int), ((l.map rowV).flatten).length = l.length * 2 := fun l => by
                      rw [flatten_len (e := 2) (fun x hx => by obtain ⟨y, _, rfl⟩ := List.mem_map.1 hx; rfl), List.length_map]
                    have hint : ∀ (l : List (Int × Int)) (i : Nat) v, ((l.map rowV).flatten)[i]? = some v → ∃ n, v = .int .i64 n := fun l i v hv => by
                      obtain ⟨j, hj, hor⟩ := pairs_get (f := rowV) (fun x => ⟨_, _, rfl⟩) l i v hv
                      rcases hor with ⟨_, h2⟩ | ⟨_, h2⟩
                      · simp only [rowV, List.getElem?_cons_zero, Option.some.injEq] at h2; exact ⟨_, h2.symm⟩
                      · simp only [rowV, List.getElem?_cons_succ, List.getElem?_cons_zero, Option.some.injEq] at h2; exact ⟨_, h2.symm⟩
                    have hxs : ∀ j, j < ps.length * 2 → xs[o + j]? = ((ps.map rowV).flatten)[j]? := fun j hj => by
                      rw [← hflat, List.getElem?_take_of_lt hj, List.getElem?_drop]
                    have hfl : ∀ (l : List (Int × Int)) j, j < l.length * 2 → ((l.map rowV).flatten)[j]? = some (flatK rowV 2 l.toArray)[j]! := fun l j hj => flatK_get l.toArray j (by simpa using hj)
                    have hH : HoldsK rowV 2 w c (δ + o) ps.toArray := fun j hj => by
                      have hj' : j < ps.length * 2 := by simpa using hj
                      have h1 := hfl ps j hj'
                      obtain ⟨m, hm⟩ := hint ps j _ h1
                      obtain ⟨_, u, hu, hvu⟩ := f4 (o + j) _ ((hxs j hj').trans h1)
                      rw [hm] at hvu ⊢
                      cases hvu
                      refine ⟨?_, ?_⟩
                      · simp only [World.cell?, r2, Option.isSome_none]
                        rw [Nat.add_assoc]
                        simpa using hu
                      · simp only [World.frozen?, r2]
                        have := f3 rfl (δ + o + j) (by omega)
                        simp only [Bool.and_eq_false_imp, decide_eq_true_eq, decide_eq_false_iff_not]
                        omega
                    have hcon := AnyQ.slices_SortFunc_total sortLays 2 (fun w => by kernel_rfl) (fun w => by kernel_rfl) rowV (fun x => rfl) (fun x v hv => by simp [rowV] at hv; rcases hv with rfl | rfl <;> rfl) cmpRow swo_cmp 88 #[] c (δ + o) k ps.toArray w eg
                      (fun m os dk hdk x y => closure_calls x y _) hH hcs (by simp; omega) total_cmp
                    have hsz : ps.toArray.size = ps.length := by simp
                    rw [hsz] at hcon
                    refine ((callsIn_wide (n := n)).2 (hcon.mono fun e w' he => ?_))
                    obtain ⟨rfl, n', os, hw'⟩ := he
                    rw [show ps.toArray.toList = ps from rfl, sort_same] at hw'
                    have hSl := sortF_length ps
                    have hF : (flatK rowV 2 (sortF ps).toArray).size = ps.length * 2 := by simp [hSl]
                    have hheap : w'.heap = (mapBlock w c (putCells id (δ + o) (flatK rowV 2 (sortF ps).toArray))).heap ++ os := by
                      rw [hw']; rfl
                    have hms : (mapBlock w c (putCells id (δ + o) (flatK rowV 2 (sortF ps).toArray))).heap.size = w.heap.size := by simp [mapBlock]
                    have hget1 : w'.heap[c]? = some (.cells (putCells id (δ + o) (flatK rowV 2 (sortF ps).toArray) cs) tt fz) := by
                      rw [hheap, Array.getElem?_append_left (by omega), mapBlock_get w c _ r2]
                    have hget2 : ∀ b, b < w.heap.size → b ≠ c → w'.heap[b]? = w.heap[b]? := fun b hb hne => by
                      rw [hheap, Array.getElem?_append_left (by omega), mapBlock_ne w c _ (fun e => hne e.symm)]
                    have hput : ∀ m, (putCells id (δ + o) (flatK rowV 2 (sortF ps).toArray) cs)[m]? = cs[m]?.map fun x => if δ + o ≤ m ∧ m < δ + o + ps.length * 2 then (flatK rowV 2 (sortF ps).toArray)[m - (δ + o)]! else x := fun m => by
                      simp only [putCells, Array.getElem?_mapIdx, hF, id]
                    have hbk := AH.get_lt hget
                    refine ⟨_, ρ, rfl, ⟨hh.len, fun b ob hb => ?_, hh.glob, fun b b' ob ob' c1 δ1 N1 c2 δ2 N2 h1 h2 hne hro e1 e2 => ?_⟩, ⟨.refl ρ, by rw [hheap]; simp [hms], by rw [hw']; rfl, by rw [hw']; rfl, by rw [hw']; rfl, by rw [hw']; exact Nat.le_add_right _ _, fun c0 hc0 hm => ?_, fun c0 hc0 hm => ?_⟩, .tuple _ _ rfl (by simp)⟩
                    · by_cases e : b = bk
                      · subst e
                        rw [AH.get_set_same _ hbk] at hb
                        injection hb with hb
                        subst hb
                        refine ⟨c, δ, N, _, hρ, hget1, ⟨by simp [putCells]; exact f1, ?_, f3, fun i v hv => ?_⟩, fun _ => hBc, fun h => by cases h⟩
                        · simp only [List.length_append, List.length_take, List.length_drop, hlenF, hSl]; omega
                        · have htl : (xs.take o).length = o := by rw [List.length_take]; omega
                          rcases Nat.lt_or_ge i o with hi | hi
                          · rw [List.getElem?_append_left (by omega), List.getElem?_take_of_lt hi] at hv
                            obtain ⟨q1, u, q2, q3⟩ := f4 i v hv
                            exact ⟨q1, u, by rw [hput, q2, Option.map_some, if_neg (by omega)], q3⟩
                          · rw [List.getElem?_append_right (by omega), htl] at hv
                            rcases Nat.lt_or_ge (i - o) (ps.length * 2) with hi2 | hi2
                            · rw [List.getElem?_append_left (by rw [hlenF, hSl]; exact hi2)] at hv
                              obtain ⟨m, rfl⟩ := hint _ _ _ hv
                              have hfv := hfl (sortF ps) (i - o) (by rw [hSl]; exact hi2)
                              rw [hv] at hfv
                              injection hfv with hfv
                              obtain ⟨q1, u, q2, q3⟩ := f4 i xs[i] (List.getElem?_eq_getElem (by omega))
                              refine ⟨rfl, .int .i64 m, ?_, .int _ _⟩
                              rw [hput, q2, Option.map_some, if_pos (by omega), show δ + i - (δ + o) = i - o by omega, ← hfv]
                            · rw [List.getElem?_append_right (by rw [hlenF, hSl]; exact hi2), hlenF, hSl, List.getElem?_drop] at hv
                              rw [show o + ps.length * 2 + (i - o - ps.length * 2) = i by omega] at hv
                              obtain ⟨q1, u, q2, q3⟩ := f4 i v hv
                              exact ⟨q1, u, by rw [hput, q2, Option.map_some, if_neg (by omega)], q3⟩
                      · rw [AH.get_set_ne _ e] at hb
                        obtain ⟨c2, δ2, N2, x2, q1, q2, q3, q4⟩ := hh.live b ob hb
                        have hcc : c2 ≠ c := fun e2 => hh.inj bk b _ ob c δ N c2 δ2 N2 hget hb (fun e3 => e e3.symm) rfl hρ q1 e2.symm
                        exact ⟨c2, δ2, N2, x2, q1, by rw [hget2 c2 (Array.getElem?_eq_some_iff.1 q2).1 hcc]; exact q2, q3, q4⟩
                    · have old : ∀ b ob, (h.set bk (.cells false (xs.take o ++ (((sortF ps).map rowV).flatten ++ xs.drop (o + ps.length * 2))))).get b = some ob → ∃ ob', h.get b = some ob' ∧ ob'.ro = ob.ro := fun b ob hb => by
                        by_cases e : b = bk
                        · subst e
                          rw [AH.get_set_same _ hbk] at hb
                          injection hb with hb
                          subst hb
                          exact ⟨_, hget, rfl⟩
                        · rw [AH.get_set_ne _ e] at hb
                          exact ⟨_, hb, rfl⟩
                      obtain ⟨o1, g1, g2⟩ := old b ob h1
                      obtain ⟨o2, g3, g4⟩ := old b' ob' h2
                      exact hh.inj b b' o1 o2 c1 δ1 N1 c2 δ2 N2 g1 g3 hne (by rw [g2]; exact hro) e1 e2
                    · exact hget2 c0 hc0 (fun e => hm ⟨bk, _, δ, N, hget, rfl, by rw [e]; exact hρ⟩)
                    · obtain ⟨b, ob, δ2, N2, g1, g2, g3⟩ := hm
                      by_cases e : b = bk
                      · subst e
                        exact ⟨b, _, δ2, N2, hget, rfl, g3⟩
                      · rw [AH.get_set_ne _ e] at g1
                        exact ⟨b, ob, δ2, N2, g1, g2, g3⟩
                  | _ => exact r3.elim
        · cases hx
      · cases hx
    · cases hx
  · cases hx

end Go.Proofs.Ytanpdopjgepbkaa.AM
