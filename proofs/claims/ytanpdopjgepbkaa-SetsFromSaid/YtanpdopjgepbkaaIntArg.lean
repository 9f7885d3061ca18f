/- A list of numbers, handed in. -/
import Derived.Test.YtanpdopjgepbkaaAsksB
import Derived.Test.YtanpdopjgepbkaaAmExt
set_option linter.unusedVariables false
set_option linter.unusedSimpArgs false
namespace Go.Proofs.Ytanpdopjgepbkaa.AM
open Go Go.RowKit Go.ChangeShapes Go.WideShapes Go.Deep

theorem ints_arg {H : Type} {enc : TypeId × Value → H} {P : Program} {W : World} {base : Nat} {t e : TypeId} {v : Value} {d : DataW H} {ps : List MemPlace} (ht : P.underlying t = some (.slice e)) (he : P.underlying e = some (.int .i64))
    (ce : P.cellsOf e = 1) (hv : Value.okWide P W .any base t v) (hd : DataW.Trod enc P W 0 (fun _ => true) true t v d ps) (hw : (d.weights P t).all (· ≤ reachBytes) = true) (he8 : P.bytesOf e = 8) :
    ∃ (l : List Int), l.length ≤ 17592186043904 ∧ (∀ n ∈ l, -9223372036854775808 ≤ n ∧ n < 9223372036854775808) ∧
      ∀ ρ h, HRel P W.heap.size ρ h W → (∀ b o, h.get b = some o → o.ro = true) → ∃ s ρ' h', HRel P W.heap.size ρ' h' W ∧ Ext ρ ρ' ∧ Kp h h' ∧ Reads h' 1 s (l.map fun n => [Value.int .i64 n]) ∧ VRel ρ' (s.val 1) v ∧ (∀ b o, h'.get b = some o → o.ro = true) := by
  obtain ⟨a0, len0, cap0, rfl⟩ := okWide_slice ht hv
  obtain ⟨fuel, hf⟩ := hd
  simp only [Value.cells] at hf
  rcases open_slice1 ht ce hf with ⟨hcs, hx⟩ | ⟨a, len, cap, m, n, V, D, Pl, hcs, _, hl, hm, hmm, hx, hall⟩
  · simp only [List.cons.injEq, and_true] at hcs
    rw [hcs]
    exact ⟨[], by simp, by simp, fun ρ h hh hro => ⟨.nil, ρ, h, hh, .refl _, .refl _, ⟨rfl, by simp, trivial⟩, .slNil, hro⟩⟩
  · simp only [List.cons.injEq, and_true] at hcs
    rw [hcs]
    simp only [if_true] at hmm
    subst hmm
    have hD := congrArg Prod.fst hx
    simp only at hD
    have hlen : len ≤ 17592186043904 := by
      rw [hD] at hw
      simp only [DataW.weights, ht, List.all_cons, Bool.and_eq_true, decide_eq_true_eq, List.length_map, List.length_range, he8] at hw
      have h1 := hw.1
      have : reachBytes = 140737488351232 := rfl
      rw [this] at h1
      omega
    have hcell : ∀ i, i < m → ∃ q : Int, V i = .int .i64 q ∧ -9223372036854775808 ≤ q ∧ q < 9223372036854775808 := fun i hi => by
      obtain ⟨_, t0⟩ := hall i hi
      obtain ⟨n0, e0, _, w0⟩ := DataW.trod_int he t0
      exact ⟨n0, by simpa using e0, has_i64 w0⟩
    obtain ⟨q, hq⟩ := choose_lt hcell
    refine ⟨(List.range len).map q, by simpa using hlen, fun x hx => ?_, fun ρ h hh hro => ?_⟩
    · obtain ⟨i, hi, rfl⟩ := List.mem_map.1 hx
      exact (hq i (by have := List.mem_range.1 hi; omega)).2
    · rcases Nat.eq_zero_or_pos m with hm0 | hm0
      · subst hm0
        have : len = 0 := by omega
        subst this
        exact ⟨.at 0 0 0, ρ, h, hh, .refl _, .refl _, ⟨by simp [Sl.len], by simp, .inl rfl⟩, .slZ _ _ _, hro⟩
      · obtain ⟨c00, _⟩ := hall 0 hm0
        have hblk : ∃ cs t fz, W.heap[a.block]? = some (.cells cs t fz) ∧ a.spot = none := by
          unfold World.cell? at c00
          split at c00
          · rename_i cs t fz hb
            split at c00
            · cases c00
            · rename_i hs
              have ha0 : a.add 0 = a := by simp [Addr.add]
              rw [ha0] at hb hs
              exact ⟨cs, t, fz, hb, by simpa using hs⟩
          · cases c00
        obtain ⟨cs, tt, fz, hb, hsp⟩ := hblk
        obtain ⟨ab, ao, asp⟩ := a
        simp only at hb hsp
        subst hsp
        have hcl : ∀ i v, W.cell? ((⟨ab, ao, none⟩ : Addr).add i) = some v → cs[ao + i]? = some v := fun i v h => by
          rw [add_plain] at h
          simp only [World.cell?, hb, Option.isSome_none] at h
          simpa using h
        have hlast := hcl _ _ (hall (m - 1) (by omega)).1
        have hsz : ao + m ≤ cs.size := by
          have := (Array.getElem?_eq_some_iff.1 hlast).1
          omega
        have hfl : (((List.range len).map q).map fun n => [Value.int .i64 n]).flatten = ((List.range len).map q).map (Value.int .i64) := by
          generalize (List.range len).map q = L
          induction L with
          | nil => rfl
          | cons x r ih => simp only [List.map_cons, List.flatten_cons, ih, List.cons_append, List.nil_append]
        refine ⟨.at h.n 0 len, _, _, hh.ro (c := ab) (δ := ao) (N := cs.size) (xs := ((List.range len).map q).map (Value.int .i64)) (cs := cs) (t := tt) (fz := fz) hb rfl (by simp; omega) ?_ (Array.getElem?_eq_some_iff.1 hb).1, .snoc _ _,
          ⟨by simp, fun b hb => AH.get_push_ne _ (by omega)⟩, ⟨by simp [Sl.len], fun x hx => by obtain ⟨y, _, rfl⟩ := List.mem_map.1 hx; rfl, .inr ⟨true, [], [], by rw [hfl]; simpa using AH.get_push_same h _, rfl⟩⟩, ?_, fun b o ho => ?_⟩
        · intro i v hv
          have hil : i < len := by have := (List.getElem?_eq_some_iff.1 hv).1; simpa using this
          rw [List.getElem?_map, List.getElem?_map, List.getElem?_range hil] at hv
          simp only [Option.map_some, Option.some.injEq] at hv
          subst hv
          refine ⟨rfl, _, hcl _ _ (by rw [← (hq i (by omega)).1]; exact (hall i (by omega)).1), .int _ _⟩
        · exact .sl h.n 0 ab ao cs.size len 1 m (by rw [← hh.len]; simp) hl (by omega)
        · by_cases hb' : b = h.n
          · subst hb'
            rw [AH.get_push_same] at ho
            injection ho with ho
            subst ho
            rfl
          · rw [AH.get_push_ne _ hb'] at ho
            exact hro b o ho

end Go.Proofs.Ytanpdopjgepbkaa.AM
