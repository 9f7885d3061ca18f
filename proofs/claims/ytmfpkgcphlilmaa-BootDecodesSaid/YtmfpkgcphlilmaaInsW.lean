/- The library's Insert keeps the contract 'insX', where its ends are known. -/
import Derived.Test.YtmfpkgcphlilmaaInsS
set_option linter.unusedVariables false
set_option linter.unusedSimpArgs false
namespace Go.Proofs.Ytmfpkgcphlilmaa.AM
open Go

theorem vrel_flat {ρ : Rho} {v u : Value} (h : VRel ρ v u) (hf : flat0 v = true) : u = v := by
  cases h with
  | func f a b a' b' h1 h2 h3 h4 =>
    simp only [flat0, Bool.and_eq_true, beq_iff_eq] at hf
    have e1 := Array.eq_empty_of_size_eq_zero hf.1
    have e2 := Array.eq_empty_of_size_eq_zero hf.2
    have e3 := Array.eq_empty_of_size_eq_zero (h1 ▸ hf.1)
    have e4 := Array.eq_empty_of_size_eq_zero (h2 ▸ hf.2)
    rw [e1, e2, e3, e4]
  | _ => first | rfl | (simp [flat0] at hf; done)

/-- What is told of the call. -/
structure InsC (F : FuncId) (k : Nat) : Prop where
  fn : FnOk Try.prog F
  nil : ∀ (w : World) (base : Option Addr) (vb voff vc : Nat) (x : Value), w.cell? ⟨vb, voff, none⟩ = some x → x.oneCell' = true → Calls Try.prog F #[.slice base 0 0, .int .i64 0, .slice (some ⟨vb, voff, none⟩) 1 vc] w (NewP [x] w)
  ins : ∀ (w : World) (b off c i vb voff vc : Nat) (L : List Value) (x : Value) (cs : Array Value) (t : TypeId) (fz : Nat × Nat) (cv : Array Value) (tv : TypeId) (fv : Nat × Nat), w.heap[b]? = some (.cells cs t fz) → Laid cs off L → (∀ v ∈ L, v.oneCell' = true) →
    i ≤ L.length → L.length ≤ c → off + c ≤ cs.size → (∀ j, j < cs.size → ¬ (fz.1 ≤ j ∧ j < fz.2)) → w.heap[vb]? = some (.cells cv tv fv) → cv[voff]? = some x → x.oneCell' = true → (∀ j, j < cv.size + 1 → ¬ (fv.1 ≤ j ∧ j < fv.2)) → vb ≠ b → (L.length + 1) * k ≤ 140737488355328 →
    Calls Try.prog F #[.slice (some ⟨b, off, none⟩) L.length c, .int .i64 (i : Nat), .slice (some ⟨vb, voff, none⟩) 1 vc] w fun e w' => SameP b off c cs t fz (insL L i x) w e w' ∨ NewP (insL L i x) w e w'

theorem flat_one {v : Value} (h : flat0 v = true) : v.oneCell' = true := by
  unfold flat0 at h
  split at h <;> first | rfl | (cases h)

theorem ins_ok {F : FuncId} {k : Nat} (hF : InsC F k) (hx1 : frzX = 1) (B : Nat) : ∀ args h v h', insX k args h = some (v, h') → FnOk Try.prog F ∧
    ∀ ρ w argsC n, B ≤ w.heap.size → HRel Try.prog B ρ h w → VRels ρ args argsC.toList → CallsIn Fence.wide n Try.prog F argsC w (CallPost Try.prog B ρ h w v h') := by
  intro args h v h' hx
  refine ⟨hF.fn, fun ρ w argsC n hB hh ha => ?_⟩
  obtain ⟨A⟩ := argsC
  change VRels ρ args A at ha
  have thing : ∀ (vb vo m e : Nat) (u : Value) (vs : List Value) (y : Value), m = 1 → VRel ρ (.slice (some ⟨vb, vo, none⟩) m e) u → h.get vb = some (.cells false vs) → vs[vo]? = some y → flat0 y = true →
      ∃ c off k cv tv fv, u = .slice (some ⟨c, off, none⟩) 1 k ∧ w.heap[c]? = some (.cells cv tv fv) ∧ cv[off]? = some y ∧ (∀ j, j < cv.size + 1 → ¬ (fv.1 ≤ j ∧ j < fv.2)) ∧ (∃ δ N, ρ[vb]? = some (c, δ, N)) := fun vb vo m e u vs y hm hu hg hy hf => by
    subst hm
    cases hu with
    | sl _ _ c δ N _ _ k hρ hk hN =>
      obtain ⟨c', δ', N', x, r1, r2, r3, r4, r5⟩ := hh.live vb _ hg
      rw [hρ] at r1
      injection r1 with r1
      injection r1 with g1 r1
      injection r1 with g2 g3
      subst g1 g2 g3
      cases x with
      | cells cs tt fz =>
        obtain ⟨f1, f2, f3, f4⟩ := r3
        obtain ⟨_, u, q2, q3⟩ := f4 vo y hy
        rw [vrel_flat q3 hf] at q2
        exact ⟨c, δ + vo, k, cs, tt, fz, rfl, r2, q2, fun j hj => f3 rfl j (by rw [hx1]; omega), δ, N, hρ⟩
      | _ => exact r3.elim
  unfold insX at hx
  split at hx
  · -- nothing yet
    rename_i n0 e0 i vb vo m e1
    split at hx
    · rename_i vs hg
      split at hx
      · rename_i y hy
        split at hx
        · rename_i hc
          obtain ⟨rfl, rfl, rfl, hm, hf⟩ := hc
          injection hx with hx
          injection hx with hv hh'
          subst hv hh'
          cases ha with
          | cons hs ha2 =>
            cases ha2 with
            | cons hi ha3 =>
              cases ha3 with
              | cons hv hnil =>
                cases hnil
                cases hs
                cases hi
                obtain ⟨c, off, kk, cv, tv, fv, rfl, z1, z2, z3, _⟩ := thing vb vo m e1 _ vs y hm hv hg hy hf
                have hcell : w.cell? ⟨c, off, none⟩ = some y := by simp only [World.cell?, z1, Option.isSome_none]; exact z2
                refine (callsIn_wide (n := n)).2 ((hF.nil w none c off kk y hcell (flat_one hf)).mono fun e w' he => ?_)
                obtain ⟨cs, t, G, rfl, hw, k1, k2, k3, k4⟩ := he
                exact post_new hh hB k4 hw none (ys := [y]) (by simp at k1 ⊢; omega) (fun j v hj => by
                  match j, hj with
                  | 0, hj =>
                    injection hj with hj
                    subst hj
                    exact ⟨hf, by have := k3 0 y rfl; rwa [Nat.zero_add] at this⟩) k1 k2
        · cases hx
      · cases hx
    · cases hx
  · rename_i b o n0 e0 i vb vo m e1
    split at hx
    · rename_i xs vs hb hg
      split at hx
      · rename_i y hy
        split at hx
        · rename_i hc
          obtain ⟨he0, hi0, hi1, hm, hne, hlen, hall, hf, hbig⟩ := hc
          injection hx with hx
          injection hx with hv hh'
          subst hv hh'
          obtain ⟨i, rfl⟩ := Int.eq_ofNat_of_zero_le hi0
          have hall' : ∀ (j : Nat) v, (xs.drop o)[j]? = some v → flat0 v = true := fun j v hj => List.all_eq_true.1 hall v (List.mem_of_getElem? hj)
          have hdl : (xs.drop o).length = n0 := by rw [List.length_drop]; omega
          have hin : i ≤ (xs.drop o).length := by omega
          have hins : ((xs.drop o).take (i : Int).toNat) ++ y :: (xs.drop o).drop (i : Int).toNat = insL (xs.drop o) i y := by rw [Int.toNat_natCast]; rfl
          rw [hins]
          have hlf : ∀ (j : Nat) v, (insL (xs.drop o) i y)[j]? = some v → flat0 v = true := fun j v hj => by
            rcases insL_get hin hj with ⟨_, h2⟩ | ⟨_, h2⟩ | ⟨_, _, h2⟩
            · exact hall' _ _ h2
            · rw [h2]; exact hf
            · exact hall' _ _ h2
          have hll := insL_len (xs.drop o) y hin
          have hnew : ∀ e w', NewP (insL (xs.drop o) i y) w e w' → CallPost Try.prog B ρ h w (.slice (some ⟨h.n, 0, none⟩) (n0 + 1) 1) ((h.kill b).push (.cells false (insL (xs.drop o) i y))) e w' := fun e w' he => by
            obtain ⟨cs, t, G, rfl, hw, k1, k2, k3, k4⟩ := he
            have := post_new hh hB k4 hw (some b) (ys := insL (xs.drop o) i y) (by omega) (fun j v hj => ⟨hlf j v hj, by have := k3 j v hj; rwa [Nat.zero_add] at this⟩) k1 k2
            rw [hll, hdl] at this ⊢
            exact this
          cases ha with
          | cons hs ha2 =>
            cases ha2 with
            | cons hi ha3 =>
              cases ha3 with
              | cons hv hnil =>
                cases hnil
                cases hi
                obtain ⟨c2, off2, k2, cv, tv, fv, rfl, z1, z2, z3, δ2, N2, z4⟩ := thing vb vo m e1 _ vs y hm hv hg hy hf
                cases hs with
                | slZ _ a' _ =>
                  have hi00 : i = 0 := by omega
                  subst hi00
                  have hcell : w.cell? ⟨c2, off2, none⟩ = some y := by simp only [World.cell?, z1, Option.isSome_none]; exact z2
                  refine (callsIn_wide (n := n)).2 ((hF.nil w (some a') c2 off2 k2 y hcell (flat_one hf)).mono fun e w' he => hnew e w' ?_)
                  have : xs.drop o = [] := List.length_eq_zero_iff.1 hdl
                  rw [this]
                  exact he
                | sl _ _ c δ N _ _ kk hρ hk hN =>
                  obtain ⟨c', δ', N', x, r1, r2, r3, r4, r5⟩ := hh.live b _ hb
                  rw [hρ] at r1
                  injection r1 with r1
                  injection r1 with g1 r1
                  injection r1 with g2 g3
                  subst g1 g2 g3
                  cases x with
                  | cells cs tt fz =>
                    obtain ⟨f1, f2, f3, f4⟩ := r3
                    have hcc : c2 ≠ c := fun e => hh.inj b vb _ _ c δ N c2 δ2 N2 hb hg hne rfl hρ z4 e.symm
                    have hL : Laid cs (δ + o) (xs.drop o) := fun j v hj => by
                      have hfv := hall' j v hj
                      rw [List.getElem?_drop] at hj
                      obtain ⟨_, u, q2, q3⟩ := f4 _ v hj
                      rw [vrel_flat q3 hfv] at q2
                      rw [← q2, Nat.add_assoc]
                    subst hdl
                    have hcall := hF.ins w c (δ + o) kk i c2 off2 k2 (xs.drop o) y cs tt fz cv tv fv r2 hL (fun v hv => flat_one (List.all_eq_true.1 hall v hv)) hin hk (by rw [he0] at hN; omega) (fun j hj => f3 rfl j (by omega)) z1 z2 (flat_one hf) z3 hcc hbig
                    refine (callsIn_wide (n := n)).2 (hcall.mono fun e w' he => ?_)
                    rcases he with he | he
                    · obtain ⟨cs', rfl, p1, p2, p3, p4, p5, p6, p7⟩ := he
                      have := post_same hh p7 hb hρ r2 p1 p4 p3 p2 (ys := insL (xs.drop o) i y) p5 (by rw [he0] at hN; omega) p5 (fun j v hj => ⟨hlf j v hj, p6 j v hj⟩)
                      rw [hll] at this ⊢
                      exact this
                    · exact hnew e w' he
                  | _ => exact r3.elim
        · cases hx
      · cases hx
    · cases hx
  · cases hx

end Go.Proofs.Ytmfpkgcphlilmaa.AM
