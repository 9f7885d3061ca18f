/- Bootstrings: what Encode's rounds keep. -/
import Derived.Test.YtmfpkgcphlilmaaBootC
import Derived.Test.YtmfpkgcphlilmaaBootX
set_option linter.unusedVariables false
set_option linter.unusedSimpArgs false
namespace Go.Proofs.Ytmfpkgcphlilmaa.AM
open Go

theorem rightI_ok {p : BP} (ok : p.Ok) : RightI p.base p.low p.high p.skew p.damp p.bias p.first := by
  have h1 := ok.b1; have h2 := ok.b2; have h3 := ok.l1; have h4 := ok.l2; have h5 := ok.h1; have h6 := ok.s1; have h7 := ok.s2; have h8 := ok.d1; have h9 := ok.d2; have h10 := ok.i1; have h11 := ok.f1; have h12 := ok.f2
  unfold RuneN at h12
  unfold RightI
  omega
theorem ok_rightI {b l hi s d i f : Int} (h : RightI b l hi s d i f) : ∃ p : BP, p.Ok ∧ b = p.base ∧ l = p.low ∧ hi = p.high ∧ s = p.skew ∧ d = p.damp ∧ i = p.bias ∧ f = p.first := by
  unfold RightI at h
  refine ⟨⟨b.toNat, l.toNat, hi.toNat, s.toNat, d.toNat, i.toNat, f.toNat⟩, ⟨by simp only; omega, by simp only; omega, by simp only; omega, by simp only; omega, by simp only; omega, by simp only; omega, by simp only; omega, by simp only; omega, by simp only; omega, by simp only; omega, by simp only; omega, by unfold RuneN; simp only; omega⟩, ?_⟩
  simp only
  omega

/-- One thing is laid in. -/
theorem ins_spec {f : FuncId} {bytes : Nat} (hf : PX.ext f = some (insX bytes)) {g : Nat → Value} (hg : ∀ n, flat0 (g n) = true) {h : AH} {s : Sl} {l : List Nat} (ho : Own h 1 s (l.map fun n => [g n])) {i : Nat} (hi : i ≤ l.length) (x : Nat) {vb : Nat} (hv : h.get vb = some (.cells false [g x]))
    (hne : s.blk ≠ some vb) (hl : (l.length + 1) * bytes ≤ 140737488355328) :
    ∃ s' h', callO PX f [s.val 1, .int .i64 i, .slice (some ⟨vb, 0, none⟩) 1 1] h = some (s'.val 1, h') ∧ Own h' 1 s' ((l.insertIdx i x).map fun n => [g n]) ∧ s'.blk = some h.n ∧ h'.n = h.n + 1 ∧ s'.len = l.length + 1 ∧ ∀ b, b < h.n → s.blk ≠ some b → h'.get b = h.get b := by
  have hfl : ∀ l : List Nat, (l.map fun n => [g n]).flatten = l.map g := fun l => by induction l with
    | nil => rfl
    | cons a r ih => simp [ih]
  cases s with
  | nil =>
    have hl0 : l = [] := by have := ho.1; simp [Sl.len] at this; exact List.eq_nil_of_length_eq_zero this.symm
    subst hl0
    have hi0 : i = 0 := by simpa using hi
    subst hi0
    refine ⟨.at h.n 0 1, h.push (.cells false [g x]), ?_, ⟨rfl, by simp, [], by rw [List.nil_append]; exact AH.get_push_same _ _, rfl⟩, rfl, rfl, rfl, fun b hb _ => AH.get_push_ne _ (by omega)⟩
    rw [callO_ext hf]
    show insX bytes [.slice none 0 0, .int .i64 ((0 : Nat) : Int), .slice (some ⟨vb, 0, none⟩) 1 1] h = _
    simp only [insX, hv, List.getElem?_cons_zero, hg, and_self, if_true, Int.natCast_zero]
    first | done | rfl
  | «at» b o n =>
    obtain ⟨h1, h2, pre, h3, h4⟩ := ho
    simp only [Sl.len, List.length_map] at h1
    subst h1
    rw [hfl] at h3
    have hvb : b ≠ vb := fun e => hne (by rw [e]; rfl)
    have hlen : (l.insertIdx i x).length = l.length + 1 := List.length_insertIdx_of_le_length hi _
    refine ⟨.at h.n 0 (l.length + 1), (h.kill b).push (.cells false ((l.map g).take i ++ g x :: (l.map g).drop i)), ?_, ⟨by simp [Sl.len, hlen], by simp, [], ?_, rfl⟩, rfl, rfl, rfl, fun b' hb hne' => ?_⟩
    · rw [callO_ext hf]
      show insX bytes [.slice (some ⟨b, o, none⟩) l.length 1, .int .i64 (i : Int), .slice (some ⟨vb, 0, none⟩) 1 1] h = _
      simp only [insX, h3, hv, List.getElem?_cons_zero]
      have hd : (pre ++ l.map g).drop o = l.map g := by rw [← h4, List.drop_left]
      rw [hd, if_pos ⟨trivial, by omega, by omega, trivial, hvb, by rw [List.length_append, List.length_map, h4], by rw [List.all_eq_true]; intro v hv; obtain ⟨n, _, rfl⟩ := List.mem_map.1 hv; exact hg n, hg x, hl⟩, Int.toNat_natCast]
      rfl
    · rw [hfl, List.nil_append]
      have e : (l.insertIdx i x).map g = (l.map g).take i ++ g x :: (l.map g).drop i := by
        have hi2 : i ≤ (l.map g).length := by simpa using hi
        rw [← List.map_take, ← List.map_drop]
        have : l.insertIdx i x = l.take i ++ x :: l.drop i := by
          apply List.ext_getElem?
          intro k
          rw [List.getElem?_insertIdx]
          rcases Nat.lt_trichotomy k i with hk | hk | hk
          · rw [if_pos hk, List.getElem?_append_left (by rw [List.length_take]; omega), List.getElem?_take_of_lt hk]
          · subst hk
            rw [if_neg (Nat.lt_irrefl _), if_pos rfl, if_pos hi, List.getElem?_append_right (by rw [List.length_take]; omega), List.length_take]
            simp [Nat.min_eq_left hi]
          · rw [if_neg (by omega), if_neg (by omega), List.getElem?_append_right (by rw [List.length_take]; omega), List.length_take, Nat.min_eq_left hi]
            obtain ⟨m, hm⟩ : ∃ m, k - i = m + 1 := ⟨k - i - 1, by omega⟩
            rw [hm, List.getElem?_cons_succ, List.getElem?_drop]
            congr 1; omega
        rw [this, List.map_append, List.map_cons]
      rw [e]
      exact AH.get_push_same _ _
    · rw [AH.get_push_ne _ (by simp; omega), AH.get_kill_ne (fun e => hne' (by rw [e]; rfl))]

/-! ### Lists that grow -/

theorem lowB_snoc (first c : Nat) : ∀ R : List Nat, lowB first (R ++ [c]) = lowB first R ++ (if first ≤ c then [] else [UInt8.ofNat c])
  | [] => by simp only [List.nil_append, lowB]
  | a :: r => by
    have := lowB_snoc first c r
    simp only [List.cons_append, lowB, this]
    split <;> simp
theorem highs_snoc (first c : Nat) : ∀ (R : List Nat) (i : Nat), highsOf first i (R ++ [c]) = highsOf first i R ++ (if first ≤ c then [(c, i + R.length)] else [])
  | [], i => by simp only [List.nil_append, highsOf, List.length_nil, Nat.add_zero]
  | a :: r, i => by
    have := highs_snoc first c r (i + 1)
    simp only [List.cons_append, highsOf, this, List.length_cons]
    rw [show i + 1 + r.length = i + (r.length + 1) by omega]
    split <;> simp
theorem lows_snoc (first c : Nat) : ∀ (R : List Nat) (i : Nat), lowsOf first i (R ++ [c]) = lowsOf first i R ++ (if first ≤ c then [] else [i + R.length])
  | [], i => by simp only [List.nil_append, lowsOf, List.length_nil, Nat.add_zero]
  | a :: r, i => by
    have := lows_snoc first c r (i + 1)
    simp only [List.cons_append, lowsOf, this, List.length_cons]
    rw [show i + 1 + r.length = i + (r.length + 1) by omega]
    split <;> simp

theorem Tr.set_self : ∀ (f : Nat) (t : Tr) (k : Nat) (o : AObj), k < f → t.get k = some o → Tr.set f t k (some o) = t
  | 0, t, k, o, h, _ => by omega
  | f + 1, .e, k, o, _, h => by simp [Tr.get] at h
  | f + 1, .n l v r, k, o, hk, h => by
    simp only [Tr.get] at h
    by_cases h0 : k = 0
    · rw [if_pos h0] at h
      simp only [Tr.set, if_pos h0, h]
    · rw [if_neg h0] at h
      by_cases h1 : k % 2 = 1
      · rw [if_pos h1] at h
        simp only [Tr.set, if_neg h0, if_pos h1, Tr.set_self f l (k / 2) o (by omega) h]
      · rw [if_neg h1] at h
        simp only [Tr.set, if_neg h0, if_neg h1, Tr.set_self f r (k / 2 - 1) o (by omega) h]
theorem AH.set_self {h : AH} {b : Nat} {o : AObj} (e : h.get b = some o) : h.set b o = h := by
  have hb := AH.get_lt e
  simp only [AH.get, hb, if_true] at e
  simp only [AH.set, AH.put, Tr.set_self (b + 1) h.m b o (by omega) e]

/-- What stands in boxes is read. -/
theorem box_load {h : AH} {lc : Lc} {b : Nat} {v : Value} (hg : h.get b = some (.cells false [v])) : Mem.rd ⟨lc, h⟩ ⟨b, 0, none⟩ 1 = some [v] := by
  rw [rd_heap, hg]; rfl

def spV (x : Nat × Nat) : List Value := [.int .i32 x.1, .int .i64 x.2]

/-- A round over the spots: what is kept. c: the first box. -/
structure EncI (h : AH) (p : BP) (x : ByteArray) (R : List Nat) (h1 : AH) (so sh st : Sl) : Prop where
  kp : ∀ b, b < h.n → h1.get b = h.get b
  n : h.n + 8 < h1.n ∨ h1.n = h.n + 8
  g0 : h1.get h.n = some (.cells false [.int .i64 p.base, .int .i64 p.low, .int .i64 p.high, .int .i64 p.skew, .int .i64 p.damp, .int .i64 p.bias, .int .i32 p.first])
  g1 : h1.get (h.n + 1) = some (.cells false [.string ⟨#[]⟩])
  g2 : h1.get (h.n + 2) = some (.cells false [.int .i64 0])
  g3 : h1.get (h.n + 3) = some (.cells false [so.val 1])
  g4 : h1.get (h.n + 4) = some (.cells false [sh.val 2])
  g5 : h1.get (h.n + 5) = some (.cells false [.int .i64 (R.length : Nat)])
  g6 : h1.get (h.n + 6) = some (.cells false [st.val 1])
  g7 : h1.get (h.n + 7) = some (.cells false [.string x])
  o1 : Own h1 1 so ((lowB p.first R).map byteV)
  o2 : Own h1 2 sh ((highsOf p.first 0 R).map spV)
  o3 : Own h1 1 st ((lowsOf p.first 0 R).map intV)
  b1 : ∀ b, so.blk = some b → h.n + 8 < b
  b2 : ∀ b, sh.blk = some b → h.n + 8 < b
  b3 : ∀ b, st.blk = some b → h.n + 8 < b
  d12 : ∀ b, so.blk = some b → sh.blk ≠ some b
  d13 : ∀ b, so.blk = some b → st.blk ≠ some b
  d23 : ∀ b, sh.blk = some b → st.blk ≠ some b
  e2 : highsOf p.first 0 R = [] → sh = .nil

theorem EncI.same {h : AH} {p : BP} {x : ByteArray} {R : List Nat} {h1 h2 : AH} {so sh st : Sl} (e : EncI h p x R h1 so sh st) (k : Same (h.n + 8) h1 h2) : EncI h p x R h2 so sh st where
  kp := fun b hb => by rw [k.get b (by omega)]; exact e.kp b hb
  n := by rw [k.n]; exact e.n
  g0 := by rw [k.get _ (by omega)]; exact e.g0
  g1 := by rw [k.get _ (by omega)]; exact e.g1
  g2 := by rw [k.get _ (by omega)]; exact e.g2
  g3 := by rw [k.get _ (by omega)]; exact e.g3
  g4 := by rw [k.get _ (by omega)]; exact e.g4
  g5 := by rw [k.get _ (by omega)]; exact e.g5
  g6 := by rw [k.get _ (by omega)]; exact e.g6
  g7 := by rw [k.get _ (by omega)]; exact e.g7
  o1 := k.own e.o1 (fun g => by have := e.b1 _ g; omega)
  o2 := k.own e.o2 (fun g => by have := e.b2 _ g; omega)
  o3 := k.own e.o3 (fun g => by have := e.b3 _ g; omega)
  b1 := e.b1
  b2 := e.b2
  b3 := e.b3
  d12 := e.d12
  d13 := e.d13
  d23 := e.d23
  e2 := e.e2

end Go.Proofs.Ytmfpkgcphlilmaa.AM
