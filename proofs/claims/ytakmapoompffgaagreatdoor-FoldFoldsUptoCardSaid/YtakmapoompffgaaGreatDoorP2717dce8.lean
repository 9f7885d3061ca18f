/- Parts of proofs: lemmas, joined. -/
import Derived.Test.YtakmapoompffgaaGreatDoorP6a962ffd
import GoSem.Core.Utf8
import Derived.Laws.Strings
import Derived.Test.YtakmapoompffgaaGreatDoorRows
import Derived.Deep.Slices
import Derived.ProofKit
import Derived.Lib.LaidU8
import Derived.Lib.LaidTab
import GoSem.PinnedTables
set_option linter.unusedVariables false
set_option linter.unusedSimpArgs false
set_option linter.unusedSectionVars false
namespace Go.Proofs.YtakmapoompffgaaGreatDoor.AM
open Go
section
variable {p:Prg} {fr:Fr} {lc:Lc} {h:AH} {Q:Post}
theorem wp_unroll {a:LCode} (hq:Wp p a fr lc h (loopQ (fun fr lc h=>Wp p (.loop a) fr lc h Q) Q)):Wp p (.loop a) fr lc h Q:=by
  obtain ⟨ex,fr',lc',h',h1,h2⟩:=hq
  cases ex with
  | norm =>
    obtain ⟨ex,fr2,lc2,h2',h3,h4⟩:=h2.out
    exact ⟨ex,fr2,lc2,h2',by rw [execO_loop,h1,andThen_norm,h3],h4⟩
  | exit i=>exact ⟨_,_,_,_,by rw [execO_loop,h1,andThen_exit],h2.out⟩
  | ret=>exact ⟨_,_,_,_,by rw [execO_loop,h1,andThen_ret],h2.out⟩
theorem wp_for {a:LCode} (n:Nat) (I:Nat→Fr→Lc→AH→Prop) (h0:I 0 fr lc h)
    (hs:∀ i fr lc h,i≤n→I i fr lc h→Wp p a fr lc h (loopQ (fun fr lc h=>i < n∧I (i + 1) fr lc h) Q)):Wp p (.loop a) fr lc h Q:=by
  refine wp_loop (fun k fr lc h => ∃ i,k = n - i∧i≤n∧I i fr lc h) n ⟨0,rfl,Nat.zero_le _,h0⟩ ?_
  rintro k fr lc h ⟨i,rfl,hi,hI⟩
  refine wp_mono (hs i fr lc h hi hI) fun ex fr lc h hq=>?_
  have hq:=hq.out
  cases ex with
  | norm=>exact ⟨⟨n - (i + 1),by omega,i + 1,rfl,by omega,hq.2⟩⟩
  | exit j=>exact ⟨hq⟩
  | ret=>exact ⟨hq⟩
def scan {α:Type} (n:Nat) (f:Nat→Option α):Option α:=(List.range n).findSome? f
theorem scan_hit {α:Type} {n:Nat} {f:Nat→Option α} {i:Nat} {w:α} (h:∀ j,j < i→f j = none) (hi:i < n) (hw:f i = some w):scan n f = some w:=by
  unfold scan
  rw [show n = i + (1 + (n - i - 1)) by omega,List.range_add,List.findSome?_append]
  have:(List.range i).findSome? f = none:=List.findSome?_eq_none_iff.2 fun j hj=>h j (List.mem_range.1 hj)
  rw [this,Nat.add_comm 1,List.range_succ_eq_map]
  simp [hw]
theorem scan_end {α:Type} {n:Nat} {f:Nat→Option α} (h:∀ j,j < n→f j = none):scan n f = none:=by
  unfold scan
  exact List.findSome?_eq_none_iff.2 fun j hj=>h j (List.mem_range.1 hj)
theorem scan_none {α:Type} {n:Nat} {f:Nat→Option α} (h:scan n f = none):∀ j,j < n→f j = none:=fun j hj=>List.findSome?_eq_none_iff.1 h j (List.mem_range.2 hj)
theorem scan_some {α:Type} {n:Nat} {f:Nat→Option α} {w:α} (h:scan n f = some w):∃ i,i < n∧f i = some w:=by
  unfold scan at h
  obtain ⟨i,hi,hw⟩:=List.exists_of_findSome?_eq_some h
  exact ⟨i,List.mem_range.1 hi,hw⟩
theorem scan_congr {α:Type} {n:Nat} {f g:Nat→Option α} (h:∀ j,j < n→f j = g j):scan n f = scan n g:=by
  cases hf:scan n f with
  | none=>exact (scan_end fun j hj=>by rw [← h j hj]; exact scan_none hf j hj).symm
  | some w =>
    have hx:∃ i,i < n∧f i = some w∧∀ j,j < i→f j = none:=by
      unfold scan at hf
      clear h
      induction n with
      | zero=>simp at hf
      | succ n ih =>
        rw [List.range_succ,List.findSome?_append] at hf
        cases hn:(List.range n).findSome? f with
        | some v =>
          rw [hn] at hf
          simp only [Option.some_or,Option.some.injEq] at hf
          subst hf
          obtain ⟨i,h1,h2,h3⟩:=ih hn
          exact ⟨i,by omega,h2,h3⟩
        | none =>
          rw [hn] at hf
          simp only [Option.none_or,List.findSome?_cons,List.findSome?_nil] at hf
          refine ⟨n,Nat.lt_succ_self _, ?_,fun j hj=>List.findSome?_eq_none_iff.1 hn j (List.mem_range.2 hj)⟩
          cases hfn:f n with
          | none=>rw [hfn] at hf; cases hf
          | some v=>rw [hfn] at hf; exact hf
    obtain ⟨i,h1,h2,h3⟩:=hx
    exact (scan_hit (fun j hj=>by rw [← h j (by omega)]; exact h3 j hj) h1 (by rw [← h i h1]; exact h2)).symm
theorem wp_scan {α:Type} {a:LCode} (n:Nat) (f:Nat→Option α) (I:Nat→Fr→Lc→AH→Prop) (h0:I 0 fr lc h)
    (hs:∀ i fr lc h,i≤n→I i fr lc h→(∀ w,i < n→f i = some w→scan n f = some w)→(i = n→scan n f = none)→Wp p a fr lc h (loopQ (fun fr lc h=>i < n∧f i = none∧I (i + 1) fr lc h) Q)):Wp p (.loop a) fr lc h Q:=by
  refine wp_for n (fun i fr lc h=>(∀ j,j < i→f j = none)∧I i fr lc h) ⟨fun j hj=>absurd hj (Nat.not_lt_zero _),h0⟩ ?_
  rintro i fr lc h hi ⟨hn,hI⟩
  refine wp_mono (hs i fr lc h hi hI (fun w h1 h2=>scan_hit hn h1 h2) (fun e=>by subst e; exact scan_end hn)) fun ex fr lc h hq=>?_
  have hq:=hq.out
  cases ex with
  | norm =>
    refine ⟨⟨hq.1,fun j hj=>?_,hq.2.2⟩⟩
    rcases Nat.lt_or_ge j i with h1 | h1
    · exact hn j h1
    · rw [show j = i by omega]; exact hq.2.1
  | exit j=>exact ⟨hq⟩
  | ret=>exact ⟨hq⟩
def scanL {α β:Type} (l:List α) (g:Nat→α→Option β):Option β:=scan l.length fun i=>(l[i]?).bind (g i)
theorem scanL_none {α β:Type} {l:List α} {g:Nat→α→Option β} (h:scanL l g = none) (i:Nat) (hi:i < l.length):g i l[i] = none:=by
  have:=scan_none h i hi
  rwa [List.getElem?_eq_getElem hi] at this
theorem scanL_some {α β:Type} {l:List α} {g:Nat→α→Option β} {w:β} (h:scanL l g = some w):∃ i,∃ hi:i < l.length,g i l[i] = some w:=by
  obtain ⟨i,hi,hw⟩:=scan_some h
  rw [List.getElem?_eq_getElem hi] at hw
  exact ⟨i,hi,hw⟩
theorem scanL_end {α β:Type} {l:List α} {g:Nat→α→Option β} (h:∀ i (hi:i < l.length),g i l[i] = none):scanL l g = none:=scan_end fun j hj=>by rw [List.getElem?_eq_getElem hj]; exact h j hj
theorem scanL_hit {α β:Type} {l:List α} {g:Nat→α→Option β} {i:Nat} (hi:i < l.length) (h:∀ j (hj:j < l.length),j < i→g j l[j] = none) {w:β} (hw:g i l[i] = some w):scanL l g = some w :=
  scan_hit (fun j hj=>by rw [List.getElem?_eq_getElem (by omega)]; exact h j (by omega) hj) hi (by rw [List.getElem?_eq_getElem hi]; exact hw)
theorem wp_scanL {α β:Type} {a:LCode} (l:List α) (g:Nat→α→Option β) (I:Nat→Fr→Lc→AH→Prop) (h0:I 0 fr lc h)
    (fin:∀ fr lc h,I l.length fr lc h→scanL l g = none→Wp p a fr lc h (loopQ (fun _ _ _=>False) Q))
    (more:∀ i (hi:i < l.length) fr lc h,I i fr lc h→(∀ w,g i l[i] = some w→scanL l g = some w)→Wp p a fr lc h (loopQ (fun fr lc h=>g i l[i] = none∧I (i + 1) fr lc h) Q)) :
    Wp p (.loop a) fr lc h Q:=by
  refine wp_scan l.length (fun i=>(l[i]?).bind (g i)) I h0 fun i fr lc h hi hI hit fn=>?_
  rcases Nat.lt_or_ge i l.length with hil | hil
  · refine wp_mono (more i hil fr lc h hI fun w hw=>hit w hil (by rw [List.getElem?_eq_getElem hil]; exact hw)) fun ex fr lc h hq=>?_
    have hq:=hq.out
    cases ex with
    | norm=>exact ⟨⟨hil,by rw [List.getElem?_eq_getElem hil]; exact hq.1,hq.2⟩⟩
    | exit j=>exact ⟨hq⟩
    | ret=>exact ⟨hq⟩
  · have hie:i = l.length:=by omega
    subst hie
    refine wp_mono (fin fr lc h hI (fn rfl)) fun ex fr lc h hq=>?_
    have hq:=hq.out
    cases ex with
    | norm=>exact hq.elim
    | exit j=>exact ⟨hq⟩
    | ret=>exact ⟨hq⟩
def setF:Fr→Nat→Value→Fr
  | [],_,_=>[]
  | (k,v) :: r,n,x=>if k = n then (k,x) :: r else (k,v) :: setF r n x
attribute [push_cast] setF
theorem wp_scanH {α β:Type} {a:LCode} {F:Int→Fr} (J:AH→Prop) (k:Nat) (l:List α) (g:Nat→α→Option β) (hF:∀ n:Int,setF fr k (.int .i64 n) = F n) (h0:fr = F 0) (hJ:J h)
    (more:∀ i (hi:i < l.length) h,J h→(∀ w,g i l[i] = some w→scanL l g = some w)→Wp p a (F i) lc h (loopQ (fun fr' lc' h'=>g i l[i] = none∧fr' = F ((i:Int) + 1)∧lc' = lc∧J h') Q))
    (fin:∀ h,J h→scanL l g = none→Wp p a (F l.length) lc h (loopQ (fun _ _ _=>False) Q)):Wp p (.loop a) fr lc h Q:=by
  refine wp_scanL l g (fun i fr lc' h=>fr = F i∧lc' = lc∧J h) ⟨h0,rfl,hJ⟩ ?_ ?_
  · rintro _ _ h ⟨rfl,rfl,hj⟩ fn
    exact fin h hj fn
  · rintro i hi _ _ h ⟨rfl,rfl,hj⟩ hit
    refine wp_mono (more i hi h hj hit) fun ex fr lc h hq=>?_
    have hq:=hq.out
    cases ex with
    | norm=>exact ⟨⟨hq.1,by rw [hq.2.1]; simp only [Int.natCast_add]; rfl,hq.2.2.1,hq.2.2.2⟩⟩
    | exit j=>exact ⟨hq⟩
    | ret=>exact ⟨hq⟩
theorem wp_scanF {α β:Type} {a:LCode} {F:Int→Fr} (k:Nat) (l:List α) (g:Nat→α→Option β) (hF:∀ n:Int,setF fr k (.int .i64 n) = F n) (h0:fr = F 0)
    (more:∀ i (hi:i < l.length),(∀ w,g i l[i] = some w→scanL l g = some w)→Wp p a (F i) lc h (loopQ (fun fr' lc' h'=>g i l[i] = none∧fr' = F ((i:Int) + 1)∧lc' = lc∧h' = h) Q))
    (fin:scanL l g = none→Wp p a (F l.length) lc h (loopQ (fun _ _ _=>False) Q)):Wp p (.loop a) fr lc h Q :=
  wp_scanH (fun h'=>h' = h) k l g hF h0 rfl (fun i hi h' e=>by subst e; exact more i hi) (fun h' e=>by subst e; exact fin)
theorem wp_scanN {β:Type} {a:LCode} {F:Int→Fr} (K:IntKind) (b:Int) (n k:Nat) (f:Nat→Option β) (hF:∀ m:Int,setF fr k (.int K m) = F m) (h0:fr = F b)
    (more:∀ i,i < n→(∀ w,f i = some w→scan n f = some w)→Wp p a (F (b + i)) lc h (loopQ (fun fr' lc' h'=>f i = none∧fr' = F (b + i + 1)∧lc' = lc∧h' = h) Q))
    (fin:scan n f = none→Wp p a (F (b + n)) lc h (loopQ (fun _ _ _=>False) Q)):Wp p (.loop a) fr lc h Q:=by
  refine wp_scan n f (fun i fr lc' h'=>fr = F (b + i)∧lc' = lc∧h' = h) ⟨by rw [h0]; congr 1; omega,rfl,rfl⟩ ?_
  rintro i _ _ _ hi ⟨rfl,rfl,rfl⟩ hit fn
  rcases Nat.lt_or_ge i n with hil | hil
  · refine wp_mono (more i hil fun w=>hit w hil) fun ex fr lc h hq=>?_
    have hq:=hq.out
    cases ex with
    | norm=>exact ⟨⟨hil,hq.1,by rw [hq.2.1]; congr 1; omega,hq.2.2⟩⟩
    | exit j=>exact ⟨hq⟩
    | ret=>exact ⟨hq⟩
  · have hie:i = n:=by omega
    subst hie
    refine wp_mono (fin (fn rfl)) fun ex fr lc h hq=>?_
    have hq:=hq.out
    cases ex with
    | norm=>exact hq.elim
    | exit j=>exact ⟨hq⟩
    | ret=>exact ⟨hq⟩
theorem scanL_map {α γ β:Type} {l:List γ} {f:γ→α} {g:Nat→α→Option β}:scanL (l.map f) g = scanL l fun i z=>g i (f z):=by
  unfold scanL
  rw [List.length_map]
  refine scan_congr fun i hi=>?_
  rw [List.getElem?_map,List.getElem?_eq_getElem hi]
  rfl
end
end Go.Proofs.YtakmapoompffgaaGreatDoor.AM
namespace Go.Proofs.YtakmapoompffgaaGreatDoor.AM
open Go
abbrev Bytes:=List UInt8
def bat (l:Bytes) (k:Nat):Nat:=(l.getD k 0).toNat
def bcont (l:Bytes) (k:Nat):Bool:=decide (k < l.length) && bat l k / 64 == 2
def dec1 (l:Bytes):Nat × Nat :=
  if bat l 0 < 0x80 then (bat l 0,1)
  else if bat l 0 / 32 == 6 && bcont l 1 then
    if (bat l 0 % 32) * 64 + bat l 1 % 64 ≥ 0x80 then ((bat l 0 % 32) * 64 + bat l 1 % 64,2) else (0xFFFD,1)
  else if bat l 0 / 16 == 14 && bcont l 1 && bcont l 2 then
    if (bat l 0 % 16) * 4096 + (bat l 1 % 64) * 64 + bat l 2 % 64 ≥ 0x800 && Utf8.valid ((bat l 0 % 16) * 4096 + (bat l 1 % 64) * 64 + bat l 2 % 64:Nat) then ((bat l 0 % 16) * 4096 + (bat l 1 % 64) * 64 + bat l 2 % 64,3) else (0xFFFD,1)
  else if bat l 0 / 8 == 30 && bcont l 1 && bcont l 2 && bcont l 3 then
    if (bat l 0 % 8) * 262144 + (bat l 1 % 64) * 4096 + (bat l 2 % 64) * 64 + bat l 3 % 64 ≥ 0x10000 && Utf8.valid ((bat l 0 % 8) * 262144 + (bat l 1 % 64) * 4096 + (bat l 2 % 64) * 64 + bat l 3 % 64:Nat) then
      ((bat l 0 % 8) * 262144 + (bat l 1 % 64) * 4096 + (bat l 2 % 64) * 64 + bat l 3 % 64,4) else (0xFFFD,1)
  else (0xFFFD,1)
def RuneN (c:Nat):Prop:=c < 0xD800∨(0xE000≤c∧c≤0x10FFFF)
theorem valid_iff (c:Nat):Utf8.valid (c:Int) = true↔RuneN c:=by
  unfold Utf8.valid RuneN
  simp only [Bool.or_eq_true,Bool.and_eq_true,decide_eq_true_eq]
  omega
def encN (c:Nat):Bytes :=
  if c < 0x80 then [UInt8.ofNat c]
  else if c < 0x800 then [UInt8.ofNat (0xC0 + c / 64),UInt8.ofNat (0x80 + c % 64)]
  else if c < 0x10000 then [UInt8.ofNat (0xE0 + c / 4096),UInt8.ofNat (0x80 + c / 64 % 64),UInt8.ofNat (0x80 + c % 64)]
  else [UInt8.ofNat (0xF0 + c / 262144),UInt8.ofNat (0x80 + c / 4096 % 64),UInt8.ofNat (0x80 + c / 64 % 64),UInt8.ofNat (0x80 + c % 64)]
set_option maxRecDepth 100000 in
theorem encode_eq {c:Nat} (h:RuneN c):(Utf8.encode (c:Int)).data.toList = encN c:=by
  unfold Utf8.encode encN
  rw [if_pos ((valid_iff c).2 h)]
  simp only [Int.toNat_natCast]
  by_cases h1:c < 0x80
  · rw [if_pos h1,if_pos h1]
  · rw [if_neg h1,if_neg h1]
    by_cases h2:c < 0x800
    · rw [if_pos h2,if_pos h2]
    · rw [if_neg h2,if_neg h2]
      by_cases h3:c < 0x10000
      · rw [if_pos h3,if_pos h3]
      · rw [if_neg h3,if_neg h3]
theorem bat_cons0 (a:UInt8) (l:Bytes):bat (a :: l) 0 = a.toNat:=rfl
theorem bat_cons1 (a b:UInt8) (l:Bytes):bat (a :: b :: l) 1 = b.toNat:=rfl
theorem bat_cons2 (a b c:UInt8) (l:Bytes):bat (a :: b :: c :: l) 2 = c.toNat:=rfl
theorem bat_cons3 (a b c d:UInt8) (l:Bytes):bat (a :: b :: c :: d :: l) 3 = d.toNat:=rfl
theorem of_small {n:Nat} (h:n < 256):(UInt8.ofNat n).toNat = n:=by
  rw [UInt8.toNat_ofNat']; exact Nat.mod_eq_of_lt h
theorem dec_enc {c:Nat} (h:RuneN c) (rest:Bytes):dec1 (encN c ++ rest) = (c,(encN c).length):=by
  have hv:=(valid_iff c).2 h
  have hle:c≤0x10FFFF:=by unfold RuneN at h; omega
  unfold encN
  split
  · rename_i h1
    simp only [List.cons_append,List.nil_append,dec1,bat_cons0,of_small (show c < 256 by omega),if_pos h1,List.length_cons,List.length_nil]
  · rename_i h1
    split
    · rename_i h2
      have a1:0xC0 + c / 64 < 256:=by omega
      have a2:0x80 + c % 64 < 256:=by omega
      have e:(0xC0 + c / 64) % 32 * 64 + (0x80 + c % 64) % 64 = c:=by omega
      simp only [List.cons_append,List.nil_append,dec1,bcont,bat_cons0,bat_cons1,of_small a1,of_small a2,List.length_cons,e]
      rw [if_neg (by omega),if_pos (by simp; omega),if_pos (by omega)]
      rfl
    · rename_i h2
      split
      · rename_i h3
        have a1:0xE0 + c / 4096 < 256:=by omega
        have a2:0x80 + c / 64 % 64 < 256:=by omega
        have a3:0x80 + c % 64 < 256:=by omega
        have e:(0xE0 + c / 4096) % 16 * 4096 + (0x80 + c / 64 % 64) % 64 * 64 + (0x80 + c % 64) % 64 = c:=by omega
        simp only [List.cons_append,List.nil_append,dec1,bcont,bat_cons0,bat_cons1,bat_cons2,of_small a1,of_small a2,of_small a3,List.length_cons,e,hv]
        rw [if_neg (by omega),if_neg (by simp; omega),if_pos (by simp; omega),if_pos (by simp; omega)]
        rfl
      · rename_i h3
        have a1:0xF0 + c / 262144 < 256:=by omega
        have a2:0x80 + c / 4096 % 64 < 256:=by omega
        have a3:0x80 + c / 64 % 64 < 256:=by omega
        have a4:0x80 + c % 64 < 256:=by omega
        have e:(0xF0 + c / 262144) % 8 * 262144 + (0x80 + c / 4096 % 64) % 64 * 4096 + (0x80 + c / 64 % 64) % 64 * 64 + (0x80 + c % 64) % 64 = c:=by omega
        simp only [List.cons_append,List.nil_append,dec1,bcont,bat_cons0,bat_cons1,bat_cons2,bat_cons3,of_small a1,of_small a2,of_small a3,of_small a4,List.length_cons,e,hv]
        rw [if_neg (by omega),if_neg (by simp; omega),if_neg (by simp; omega),if_pos (by simp; omega),if_pos (by simp; omega)]
        rfl
theorem u8_eq {a:UInt8} {n:Nat} (h:a.toNat = n):UInt8.ofNat n = a:=by
  rw [← h]; exact UInt8.ofNat_toNat
theorem u8_lt (a:UInt8):a.toNat < 256:=a.toNat_lt
theorem dec_cases {l:Bytes} (hl:l≠[]):(∃ c rest,RuneN c∧l = encN c ++ rest∧dec1 l = (c,(encN c).length))∨(dec1 l = (0xFFFD,1)∧∀ c rest,RuneN c→l≠encN c ++ rest):=by
  have bad:dec1 l = (0xFFFD,1)→(dec1 l = (0xFFFD,1)∧∀ c rest,RuneN c→l≠encN c ++ rest):=fun h=>⟨h,fun c rest hc e=>by
    rw [e,dec_enc hc] at h
    injection h with h1 h2
    subst h1
    exact absurd h2 (by decide)⟩
  have good:∀ c rest,RuneN c→l = encN c ++ rest→(∃ c rest,RuneN c∧l = encN c ++ rest∧dec1 l = (c,(encN c).length)):=fun c rest hc e=>⟨c,rest,hc,e,by rw [e]; exact dec_enc hc rest⟩
  match l,hl with
  | a :: t,_ =>
    have ha:=u8_lt a
    by_cases h1:a.toNat < 0x80
    · refine .inl (good a.toNat t (.inl (by omega)) ?_)
      unfold encN
      rw [if_pos h1,u8_eq rfl]; rfl
    by_cases h2:(a.toNat / 32 == 6 && bcont (a :: t) 1) = true
    · have h2':=h2
      simp only [Bool.and_eq_true,beq_iff_eq,bcont,decide_eq_true_eq] at h2
      obtain ⟨g1,g2,g3⟩:=h2
      match t,g2,g3,h2' with
      | b :: t,_,g3,h2' =>
        rw [bat_cons1] at g3
        have hb:=u8_lt b
        by_cases hc:(a.toNat % 32) * 64 + b.toNat % 64 ≥ 0x80
        · refine .inl (good ((a.toNat % 32) * 64 + b.toNat % 64) t (.inl (by omega)) ?_)
          unfold encN
          rw [if_neg (by omega),if_pos (by omega),u8_eq (a:=a) (by omega),u8_eq (a:=b) (by omega)]; rfl
        · refine .inr (bad ?_)
          unfold dec1
          rw [bat_cons0,if_neg h1,if_pos h2',bat_cons1,if_neg hc]
      | [],g2,_,_=>simp at g2
    by_cases h3:(a.toNat / 16 == 14 && bcont (a :: t) 1 && bcont (a :: t) 2) = true
    · have h3':=h3
      simp only [Bool.and_eq_true,beq_iff_eq,bcont,decide_eq_true_eq] at h3
      obtain ⟨⟨g1,g2,g3⟩,g4,g5⟩:=h3
      match t,g2,g3,g4,g5,h2,h3' with
      | b :: c :: t,_,g3,_,g5,h2,h3' =>
        rw [bat_cons1] at g3
        rw [bat_cons2] at g5
        have hb:=u8_lt b
        have hc:=u8_lt c
        by_cases hd:((a.toNat % 16) * 4096 + (b.toNat % 64) * 64 + c.toNat % 64 ≥ 0x800 && Utf8.valid ((a.toNat % 16) * 4096 + (b.toNat % 64) * 64 + c.toNat % 64:Nat)) = true
        · simp only [Bool.and_eq_true,decide_eq_true_eq] at hd
          refine .inl (good ((a.toNat % 16) * 4096 + (b.toNat % 64) * 64 + c.toNat % 64) t ((valid_iff _).1 hd.2) ?_)
          unfold encN
          rw [if_neg (by omega),if_neg (by omega),if_pos (by omega),u8_eq (a:=a) (by omega),u8_eq (a:=b) (by omega),u8_eq (a:=c) (by omega)]; rfl
        · refine .inr (bad ?_)
          unfold dec1
          rw [bat_cons0,if_neg h1,if_neg h2,if_pos h3',bat_cons1,bat_cons2,if_neg hd]
      | [b],_,_,g4,_,_,_=>simp at g4
      | [],g2,_,_,_,_,_=>simp at g2
    by_cases h4:(a.toNat / 8 == 30 && bcont (a :: t) 1 && bcont (a :: t) 2 && bcont (a :: t) 3) = true
    · have h4':=h4
      simp only [Bool.and_eq_true,beq_iff_eq,bcont,decide_eq_true_eq] at h4
      obtain ⟨⟨⟨g1,g2,g3⟩,g4,g5⟩,g6,g7⟩:=h4
      match t,g2,g3,g4,g5,g6,g7,h2,h3,h4' with
      | b :: c :: d :: t,_,g3,_,g5,_,g7,h2,h3,h4' =>
        rw [bat_cons1] at g3
        rw [bat_cons2] at g5
        rw [bat_cons3] at g7
        have hb:=u8_lt b
        have hc:=u8_lt c
        have hdd:=u8_lt d
        by_cases hd:((a.toNat % 8) * 262144 + (b.toNat % 64) * 4096 + (c.toNat % 64) * 64 + d.toNat % 64 ≥ 0x10000 && Utf8.valid ((a.toNat % 8) * 262144 + (b.toNat % 64) * 4096 + (c.toNat % 64) * 64 + d.toNat % 64:Nat)) = true
        · simp only [Bool.and_eq_true,decide_eq_true_eq] at hd
          refine .inl (good ((a.toNat % 8) * 262144 + (b.toNat % 64) * 4096 + (c.toNat % 64) * 64 + d.toNat % 64) t ((valid_iff _).1 hd.2) ?_)
          unfold encN
          rw [if_neg (by omega),if_neg (by omega),if_neg (by omega),u8_eq (a:=a) (by omega),u8_eq (a:=b) (by omega),u8_eq (a:=c) (by omega),u8_eq (a:=d) (by omega)]; rfl
        · refine .inr (bad ?_)
          unfold dec1
          rw [bat_cons0,if_neg h1,if_neg h2,if_neg h3,if_pos h4',bat_cons1,bat_cons2,bat_cons3,if_neg hd]
      | [b,c],_,_,_,_,g6,_,_,_,_=>simp at g6
      | [b],_,_,g4,_,_,_,_,_,_=>simp at g4
      | [],g2,_,_,_,_,_,_,_,_=>simp at g2
    · refine .inr (bad ?_)
      unfold dec1
      rw [bat_cons0,if_neg h1,if_neg h2,if_neg h3,if_neg h4]
theorem encN_len (c:Nat):1≤(encN c).length∧(encN c).length≤4:=by
  unfold encN
  split
  · simp
  · split
    · simp
    · split <;> simp
theorem dec_width {l:Bytes} (hl:l≠[]):1≤(dec1 l).2∧(dec1 l).2≤l.length:=by
  rcases dec_cases hl with ⟨c,rest,hc,e,hd⟩ | ⟨hd,_⟩
  · rw [hd,e]
    have:=encN_len c
    simp only [List.length_append]
    omega
  · rw [hd]
    have:0 < l.length:=List.length_pos_iff.2 hl
    simp only
    omega
theorem decode_list (s:ByteArray) (i:Nat) (hi:i < s.size):Utf8.decode s i = dec1 (s.data.toList.drop i):=by
  have hat:∀ k,(s.get! (i + k)).toNat = bat (s.data.toList.drop i) k:=fun k=>by
    unfold bat
    rw [List.getD_eq_getElem?_getD,List.getElem?_drop]
    simp only [ByteArray.get!,Array.getElem?_toList]
    rw [getElem!_def]
    cases s.data[i + k]? <;> rfl
  have hct:∀ k,(decide (i + k < s.size) && bat (s.data.toList.drop i) k / 64 == 2) = bcont (s.data.toList.drop i) k:=fun k=>by
    unfold bcont
    congr 1
    simp only [List.length_drop,Array.length_toList]
    exact decide_eq_decide.2 (by show i + k < s.data.size↔_; omega)
  unfold Utf8.decode dec1
  simp only [hat,hct,Utf8.runeError]
end Go.Proofs.YtakmapoompffgaaGreatDoor.AM
namespace Go.Proofs.YtakmapoompffgaaGreatDoor.AM
open Go
def spotsN:Nat→Bytes→List (Nat × Nat)
  | 0,_=>[]
  | _ + 1,[]=>[]
  | k + 1,l=>dec1 l :: spotsN k (l.drop (dec1 l).2)
def spots (l:Bytes):List (Nat × Nat):=spotsN l.length l
theorem spotsN_more:∀ (k:Nat) (l:Bytes),l.length≤k→spotsN k l = spotsN l.length l
  | 0,l,h=>by
    have:l = []:=List.eq_nil_of_length_eq_zero (by omega)
    subst this; rfl
  | k + 1,[],_=>rfl
  | k + 1,a :: t,h=>by
    have hw:=dec_width (l:=a :: t) (by simp)
    have hd:((a :: t).drop (dec1 (a :: t)).2).length≤t.length:=by rw [List.length_drop]; simp only [List.length_cons]; omega
    have hd2:((a :: t).drop (dec1 (a :: t)).2).length≤k:=by simp only [List.length_cons] at h; omega
    simp only [spotsN,List.length_cons]
    rw [spotsN_more k _ hd2,spotsN_more t.length _ hd]
theorem spots_nil:spots [] = []:=rfl
theorem spots_cons {l:Bytes} (hl:l≠[]):spots l = dec1 l :: spots (l.drop (dec1 l).2):=by
  match l,hl with
  | a :: t,_ =>
    have hw:=dec_width (l:=a :: t) (by simp)
    have hd:((a :: t).drop (dec1 (a :: t)).2).length≤t.length:=by rw [List.length_drop]; simp only [List.length_cons]; omega
    unfold spots
    simp only [List.length_cons,spotsN]
    rw [spotsN_more _ _ hd]
theorem spots_enc {c:Nat} (hc:RuneN c) (rest:Bytes):spots (encN c ++ rest) = (c,(encN c).length) :: spots rest:=by
  have hl:encN c ++ rest≠[]:=by
    have:=(encN_len c).1
    intro h
    have h2:=congrArg List.length h
    simp only [List.length_append,List.length_nil] at h2
    omega
  rw [spots_cons hl,dec_enc hc]
  simp only [List.drop_left]
theorem spots_ind {p:Bytes→Prop} (h0:p []) (hg:∀ c rest,RuneN c→p rest→p (encN c ++ rest)) (hb:∀ l,l≠[]→dec1 l = (0xFFFD,1)→(∀ c rest,RuneN c→l≠encN c ++ rest)→p (l.drop 1)→p l):∀ l,p l:=by
  intro l
  generalize hn:l.length = n
  induction n using Nat.strongRecOn generalizing l with
  | ind n ih =>
    rcases List.eq_nil_or_concat l with rfl | _
    · exact h0
    · by_cases hl:l = []
      · rw [hl]; exact h0
      · rcases dec_cases hl with ⟨c,rest,hc,rfl,_⟩ | ⟨hd,hno⟩
        · refine hg c rest hc (ih rest.length ?_ rest rfl)
          have:=(encN_len c).1
          simp only [List.length_append] at hn
          omega
        · refine hb l hl hd hno (ih (l.drop 1).length ?_ _ rfl)
          have:0 < l.length:=List.length_pos_iff.2 hl
          rw [List.length_drop]; omega
theorem rune_bad:RuneN 0xFFFD:=.inr ⟨by decide,by decide⟩
def encs (cs:List Nat):Bytes:=cs.flatMap encN
theorem encs_cons (c:Nat) (cs:List Nat):encs (c :: cs) = encN c ++ encs cs:=by simp [encs]
theorem encs_append (a b:List Nat):encs (a ++ b) = encs a ++ encs b:=by simp [encs]
def runesB (l:Bytes):List Nat:=(spots l).map (·.1)
theorem runesB_nil:runesB [] = []:=rfl
theorem runesB_enc {c:Nat} (hc:RuneN c) (rest:Bytes):runesB (encN c ++ rest) = c :: runesB rest:=by unfold runesB; rw [spots_enc hc]; rfl
theorem runesB_bad {l:Bytes} (hl:l≠[]) (hd:dec1 l = (0xFFFD,1)):runesB l = 0xFFFD :: runesB (l.drop 1):=by unfold runesB; rw [spots_cons hl,hd]; rfl
theorem runesB_rune (l:Bytes):∀ c∈runesB l,RuneN c:=by
  refine spots_ind (p:=fun l => ∀ c∈runesB l,RuneN c) (by simp [runesB_nil]) (fun c rest hc ih=>?_) (fun l hl hd _ ih=>?_) l
  · rw [runesB_enc hc]
    intro x hx
    rcases List.mem_cons.1 hx with rfl | hx
    · exact hc
    · exact ih x hx
  · rw [runesB_bad hl hd]
    intro x hx
    rcases List.mem_cons.1 hx with rfl | hx
    · exact rune_bad
    · exact ih x hx
theorem spots_encs:∀ {cs:List Nat},(∀ c∈cs,RuneN c)→∀ rest,spots (encs cs ++ rest) = cs.map (fun c=>(c,(encN c).length)) ++ spots rest
  | [],_,_=>rfl
  | c :: cs,h,rest=>by
    rw [encs_cons,List.append_assoc,spots_enc (h c (by simp)),spots_encs (fun x hx=>h x (List.mem_cons_of_mem _ hx))]
    rfl
theorem runesB_encs {cs:List Nat} (h:∀ c∈cs,RuneN c) (rest:Bytes):runesB (encs cs ++ rest) = cs ++ runesB rest:=by
  unfold runesB
  rw [spots_encs h,List.map_append,List.map_map]
  congr 1
  exact List.map_id' cs
def isBad2 (x:Nat × Nat):Bool:=x.1 == 0xFFFD && x.2 == 1
def validB (l:Bytes):Bool:=(spots l).all fun x => !(x.1 == 0xFFFD && x.2 == 1)
theorem encN_bad:(encN 0xFFFD).length = 3:=by decide
theorem validB_enc {c:Nat} (hc:RuneN c) (rest:Bytes):validB (encN c ++ rest) = validB rest:=by
  unfold validB
  rw [spots_enc hc]
  simp only [List.all_cons]
  have:(!(c == 0xFFFD && (encN c).length == 1)) = true:=by
    by_cases h:c = 0xFFFD
    · subst h; rw [encN_bad]; rfl
    · simp [h]
  rw [this,Bool.true_and]
theorem validB_bad {l:Bytes} (hl:l≠[]) (hd:dec1 l = (0xFFFD,1)):validB l = false:=by
  unfold validB
  rw [spots_cons hl,hd]
  rfl
theorem valid_clean (l:Bytes):validB l = true↔encs (runesB l) = l:=by
  refine spots_ind (p:=fun l=>validB l = true↔encs (runesB l) = l) ⟨fun _=>rfl,fun _=>rfl⟩ (fun c rest hc ih=>?_) (fun l hl hd hno ih=>?_) l
  · rw [validB_enc hc,runesB_enc hc,encs_cons,ih]
    exact ⟨fun h=>by rw [h],fun h=>List.append_cancel_left h⟩
  · rw [validB_bad hl hd,runesB_bad hl hd,encs_cons]
    constructor
    · intro h; cases h
    · intro h; exact absurd h.symm (hno _ _ rune_bad)
theorem runesB_of_encs {cs:List Nat} (h:∀ c∈cs,RuneN c):runesB (encs cs) = cs:=by
  have:=runesB_encs h []
  rwa [List.append_nil,runesB_nil,List.append_nil] at this
theorem spots_sum (l:Bytes):((spots l).map (·.2)).sum = l.length:=by
  refine spots_ind (p:=fun l=>((spots l).map (·.2)).sum = l.length) rfl (fun c rest hc ih=>?_) (fun l hl hd hno ih=>?_) l
  · rw [spots_enc hc]; simp [ih]
  · rw [spots_cons hl,hd]
    have:0 < l.length:=List.length_pos_iff.2 hl
    simp only [List.map_cons,List.sum_cons,ih,List.length_drop]
    omega
theorem spots_len (l:Bytes):(spots l).length≤l.length:=by
  refine spots_ind (p:=fun l=>(spots l).length≤l.length) (Nat.le_refl _) (fun c rest hc ih=>?_) (fun l hl hd hno ih=>?_) l
  · rw [spots_enc hc]
    have:=(encN_len c).1
    simp only [List.length_cons,List.length_append]
    omega
  · rw [spots_cons hl,hd]
    have:0 < l.length:=List.length_pos_iff.2 hl
    simp only [List.length_cons]
    rw [List.length_drop] at ih
    omega
end Go.Proofs.YtakmapoompffgaaGreatDoor.AM
namespace Go.Proofs.YtakmapoompffgaaGreatDoor.AM
open Go
abbrev ByteArray.l (s:ByteArray):Bytes:=s.data.toList
theorem ba_size (s:ByteArray):s.size = s.data.toList.length:=rfl
theorem ba_ext {s t:ByteArray} (h:s.data.toList = t.data.toList):s = t:=by
  obtain ⟨s⟩:=s; obtain ⟨t⟩:=t
  congr 1
  exact Array.toList_inj.1 h
theorem ba_extract (s:ByteArray) (i j:Nat) (hj:j≤s.size):(s.extract i j).data.toList = (s.data.toList.drop i).take (j - i):=by
  rw [ByteArray.data_extract,Array.toList_extract,List.extract_eq_take_drop]
def slSH (v w:Value):Option Value:=(POp.slS (.c v) none (some (.c w))).ev []
def slSL (v w:Value):Option Value:=(POp.slS (.c v) (some (.c w)) none).ev []
def slSB (v u w:Value):Option Value:=(POp.slS (.c v) (some (.c u)) (some (.c w))).ev []
def idxSP (v w:Value):Option Value:=(POp.idxS (.c v) (.c w)).ev []
def slenP (v:Value):Option Value:=(POp.slen (.c v)).ev []
def i2sP (v:Value):Option Value:=(POp.i2s (.c v)).ev []
theorem ev_slSHi {fr:Fr} {x c:Opd}:(POp.slS x none (some c)).ev fr = slSH (opd fr x) (opd fr c):=rfl
theorem ev_slSLo {fr:Fr} {x c:Opd}:(POp.slS x (some c) none).ev fr = slSL (opd fr x) (opd fr c):=rfl
theorem ev_slSBo {fr:Fr} {x c e:Opd}:(POp.slS x (some c) (some e)).ev fr = slSB (opd fr x) (opd fr c) (opd fr e):=rfl
theorem ev_idxSP {fr:Fr} {x c:Opd}:(POp.idxS x c).ev fr = idxSP (opd fr x) (opd fr c):=rfl
theorem ev_slenP {fr:Fr} {x:Opd}:(POp.slen x).ev fr = slenP (opd fr x):=rfl
theorem ev_i2sP {fr:Fr} {x:Opd}:(POp.i2s x).ev fr = i2sP (opd fr x):=rfl
theorem slSH_int {s:ByteArray} {k:IntKind} {j:Int} (h0:0≤j) (h:j≤s.size):slSH (.string s) (.int k j) = some (.string (s.extract 0 j.toNat)):=by
  simp only [slSH,POp.ev,opd,optInt,asNat]
  rw [if_pos ⟨by omega,by omega,by omega⟩]
  simp
theorem slSL_int {s:ByteArray} {k:IntKind} {j:Int} (h0:0≤j) (h:j≤s.size):slSL (.string s) (.int k j) = some (.string (s.extract j.toNat s.size)):=by
  simp only [slSL,POp.ev,opd,optInt,asNat]
  rw [if_pos ⟨by omega,by omega,by omega⟩]
  simp
theorem slSB_int {s:ByteArray} {k k':IntKind} {i j:Int} (h0:0≤i) (h1:i≤j) (h:j≤s.size):slSB (.string s) (.int k i) (.int k' j) = some (.string (s.extract i.toNat j.toNat)):=by
  simp only [slSB,POp.ev,opd,optInt,asNat]
  rw [if_pos ⟨by omega,by omega,by omega⟩]
theorem idxSP_int {s:ByteArray} {k:IntKind} {j:Int} (h0:0≤j) (h:j < s.size):idxSP (.string s) (.int k j) = some (.int .u8 (bat s.data.toList j.toNat:Nat)):=by
  simp only [idxSP,POp.ev,opd]
  rw [if_pos ⟨by omega,by omega⟩]
  congr 2
  unfold bat
  rw [List.getD_eq_getElem?_getD,Array.getElem?_toList]
  rfl
theorem slenP_str {s:ByteArray}:slenP (.string s) = some (.int .i64 s.size):=rfl
theorem i2sP_int {k:IntKind} {n:Int}:i2sP (.int k n) = some (.string (Utf8.encode n)):=rfl
theorem str_eql {x y:ByteArray}:binA .eql (.string x) (.string y) = some (.bool (decide (x = y))):=by
  show some (Value.bool (x.toList == y.toList)) = _
  rw [ByteArray.toList_eq,ByteArray.toList_eq]
  congr 2
  by_cases h:x = y
  · subst h; simp
  · rw [decide_eq_false h]
    simp only [beq_eq_false_iff_ne,ne_eq]
    exact fun e=>h (ba_ext e)
theorem str_neq {x y:ByteArray}:binA .neq (.string x) (.string y) = some (.bool (!decide (x = y))):=by
  have:=str_eql (x:=x) (y:=y)
  have e:binA .neq (.string x) (.string y) = (binA .eql (.string x) (.string y)).map fun v=>match v with | .bool b=>.bool (!b) | v=>v:=rfl
  rw [e,this]; rfl
attribute [push_cast] ev_slSHi ev_slSLo ev_slSBo ev_idxSP ev_slenP ev_i2sP slSH_int slSL_int slSB_int idxSP_int slenP_str i2sP_int str_eql str_neq
theorem ev_rngS {c:CallF} {y:YieldF} {fr:Fr} {m:Mem} {t:Nat} {x:Opd}:(EOp.rngS t x).ev c y fr m = match opd fr x with
    | .string s=>(m.newLoc t (.siter s 0)).map fun m'=>(.pointer (some (loc (2 * t + 1) 0)),m')
    | _=>none:=rfl
def posn (l:Bytes) (i:Nat):Nat:=(((spots l).take i).map (·.2)).sum
theorem posn_zero (l:Bytes):posn l 0 = 0:=by simp [posn]
theorem posn_succ {l:Bytes} {i:Nat} (hi:i < (spots l).length):posn l (i + 1) = posn l i + ((spots l)[i]).2:=by
  unfold posn
  rw [List.take_succ_eq_append_getElem hi,List.map_append,List.sum_append]
  simp
theorem spots_drop:∀ (l:Bytes) (i:Nat),i≤(spots l).length→spots (l.drop (posn l i)) = (spots l).drop i∧posn l i≤l.length
  | l,0,_=>by rw [posn_zero]; simp
  | l,i + 1,hi=>by
    obtain ⟨ih,ih2⟩:=spots_drop l i (by omega)
    have hs:=posn_succ (l:=l) (i:=i) hi
    have hne:l.drop (posn l i)≠[]:=fun e=>by
      rw [e,spots_nil] at ih
      have:=congrArg List.length ih
      simp only [List.length_nil,List.length_drop] at this
      omega
    rw [spots_cons hne,List.drop_eq_getElem_cons hi] at ih
    injection ih with h1 h2
    have hw:=dec_width hne
    rw [h1] at h2 hw
    rw [hs]
    rw [List.length_drop] at hw
    refine ⟨?_,by omega⟩
    rw [← h2,List.drop_drop]
theorem posn_lt {l:Bytes} {i:Nat} (hi:i < (spots l).length):posn l i < l.length∧dec1 (l.drop (posn l i)) = (spots l)[i]∧l.drop (posn l i)≠[]:=by
  obtain ⟨ih,ih2⟩:=spots_drop l i (by omega)
  have hne:l.drop (posn l i)≠[]:=fun e=>by
    rw [e,spots_nil] at ih
    have:=congrArg List.length ih
    simp only [List.length_nil,List.length_drop] at this
    omega
  rw [spots_cons hne,List.drop_eq_getElem_cons hi] at ih
  injection ih with h1 h2
  refine ⟨?_,h1,hne⟩
  have:0 < (l.drop (posn l i)).length:=List.length_pos_iff.2 hne
  rw [List.length_drop] at this
  omega
theorem posn_all (l:Bytes):posn l (spots l).length = l.length:=by
  unfold posn
  rw [List.take_length,spots_sum]
def spotV (x:Nat × Nat):Value:=.agg (List.toArray [.int .i32 x.1,.int .i64 x.2,.bool (isBad2 x)])
def spotsL (l:Bytes):List (Nat × (Nat × Nat)):=(List.range (spots l).length).map fun i=>(posn l i,(spots l).getD i (0,0))
def spotE (x:Nat × (Nat × Nat)):List Value:=[.int .i64 x.1,spotV x.2]
theorem spotsL_len (l:Bytes):(spotsL l).length = (spots l).length:=by simp [spotsL]
theorem spotsL_get {l:Bytes} {i:Nat} (hi:i < (spotsL l).length):(spotsL l)[i] = (posn l i,(spots l)[i]'(by rw [← spotsL_len]; exact hi)):=by
  have h2:i < (spots l).length:=by rw [← spotsL_len]; exact hi
  simp only [spotsL,List.getElem_map,List.getElem_range,List.getD_eq_getElem?_getD,List.getElem?_eq_getElem h2,Option.getD_some]
end Go.Proofs.YtakmapoompffgaaGreatDoor.AM
namespace Go.Proofs.YtakmapoompffgaaGreatDoor.AM
open Go
abbrev Span:=Int × Int
abbrev Scr:=ByteArray × List Span
structure Tab where
  scripts:List Scr
  common:List Span
  marks:List (Int × Int)
  pairs:List (Int × Int × Int)
  folds:List (Int × ByteArray)
  looks:List (Int × ByteArray)
  drops:List Span
  allowed:List Span
def runeI (r:Int):Bool:=decide (0≤r∧r≤1114111∧(r < 55296∨57343 < r))
def ofI (r:Int) (l:List Span):Bool:=runeI r && l.any fun s=>decide (s.1≤r∧r≤s.2)
def badNm (i:Nat) (c:UInt8):Prop := ¬ (97≤c.toNat∧c.toNat≤122)∧(i = 0∨(c.toNat≠45∧(c.toNat < 48∨57 < c.toNat)))
instance (i:Nat) (c:UInt8):Decidable (badNm i c):=by unfold badNm; infer_instance
def nameB (l:Bytes):Bool:=(scanL l fun i c=>if badNm i c then some () else none).isNone && decide (1≤l.length∧l.length≤32)
def isMark (T:Tab) (r:Int):Bool:=T.marks.any fun x=>decide (x.1 = r)
def classI (T:Tab) (r:Int):Int:=(scanL T.marks fun _ x=>if x.1 = r then some x.2 else none).getD 0
def wholeO (T:Tab) (r:Int):Option Nat:=scanL T.pairs fun i x=>if x.1 = r then some i else none
def fromO (l:List (Int × ByteArray)) (r:Int):Option Nat:=scanL l fun i x=>if x.1 = r then some i else none
def plainI (T:Tab) (r:Int):Bool:=runeI r && !isMark T r && (wholeO T r).isNone && !ofI r T.drops && (fromO T.folds r).isNone
def ixI:Option Nat→Int
  | some i=>i
  | none => -1
abbrev W3:=Int × Int × Int
abbrev W (a b c:Int):Option W3:=some (a,b,c)
def wrV:Option W3→Value
  | some (a,b,c)=>.agg (List.toArray [.int .i64 a,.int .i64 b,.int .i64 c])
  | none=>.agg (List.toArray [.int .i64 0,.int .i64 0,.int .i64 0])
def longW (T:Tab):Option W3 :=
  if 64 < T.scripts.length then W 4 1 64 else
  (scanL T.scripts fun i x=>if 1024 < x.2.length then W 4 1 i else none).or
  (if 1024 < T.common.length then W 4 2 1024 else if 512 < T.marks.length then W 4 3 512 else if 4096 < T.pairs.length then W 4 4 4096 else if 4096 < T.folds.length then W 4 5 4096 else
    if 4096 < T.looks.length then W 4 6 4096 else if 1024 < T.drops.length then W 4 7 1024 else if 1024 < T.allowed.length then W 4 8 1024 else none)
def spanE (l:List Span) (i:Nat) (x:Span):Option Int :=
  if runeI x.1 = false∨runeI x.2 = false then some 12 else if x.2 < x.1 then some 11 else if 0 < i∧x.1≤(l.getD (i - 1) (0,0)).2 then some 13 else none
def spansE (l:List Span):Option (Int × Nat):=scanL l fun i x=>(spanE l i x).map fun e=>(e,i)
def spansW (l:List Span) (n:Int):Option W3:=(spansE l).map fun e=>(e.1,n,(e.2:Int))
def scrE (x:Scr):Option Int:=if nameB x.1.data.toList = false then some 38 else (spansE x.2).map (·.1)
def rnO (s:ByteArray):Option (List Nat):=if validB s.data.toList then some (runesB s.data.toList) else none
def toBad (s:ByteArray):Prop:=validB s.data.toList = false∨(runesB s.data.toList).length < 1∨4 < (runesB s.data.toList).length
instance (s:ByteArray):Decidable (toBad s):=by unfold toBad; infer_instance
def mapsW (l:List (Int × ByteArray)) (n:Int):Option W3:=scanL l fun i x=>if runeI x.1 = false then some (12,n,(i:Int)) else if toBad x.2 then some (35,n,(i:Int)) else none
def formsW (T:Tab):Option W3 :=
  (scanL T.scripts fun i x=>(scrE x).map fun e=>(e,1,(i:Int))).or ((spansW T.common 2).or
  ((scanL T.marks fun i x=>if runeI x.1 = false then some (12,3,(i:Int)) else if x.2 < 1∨254 < x.2 then some (30,3,(i:Int)) else none).or
  ((scanL T.pairs fun i x=>if runeI x.1 = false∨runeI x.2.1 = false∨runeI x.2.2 = false then some (12,4,(i:Int)) else none).or
  ((mapsW T.folds 5).or ((mapsW T.looks 6).or ((spansW T.drops 7).or (spansW T.allowed 8)))))))
def twiceW (T:Tab):Option W3 :=
  (scanL T.scripts fun i x=>if ∃ y∈T.scripts.take i,x.1 = y.1 then some (14,1,(i:Int)) else none).or
  ((scanL T.marks fun i x=>if ∃ y∈T.marks.take i,x.1 = y.1 then some (14,3,(i:Int)) else none).or
  ((scanL T.pairs fun i x=>if ∃ y∈T.pairs.take i,x.1 = y.1∨(x.2.1 = y.2.1∧x.2.2 = y.2.2) then some (14,4,(i:Int)) else none).or
  ((scanL T.folds fun i x=>if ixI (fromO T.folds x.1) < i then some (14,5,(i:Int)) else none).or
  (scanL T.looks fun i x=>if ixI (fromO T.looks x.1) < i then some (14,6,(i:Int)) else none))))
def chainN (T:Tab):Nat→Nat→Int→Int
  | 0,_,_ => -1
  | f + 1,n,b=>match wholeO T b with
    | none=>n
    | some j=>chainN T f (n + 1) (T.pairs.getD j (0,0,0)).2.1
def pairsW (T:Tab):Option W3:=scanL T.pairs fun i x=>if isMark T x.1 = true∨isMark T x.2.1 = true∨isMark T x.2.2 = false then some (32,4,(i:Int)) else none
def chainsW (T:Tab):Option W3:=scanL T.pairs fun i x=>if chainN T T.pairs.length 1 x.2.1 < 0 then some (33,4,(i:Int)) else if 4 < chainN T T.pairs.length 1 x.2.1 then some (34,4,(i:Int)) else none
def dropsW (T:Tab):Option W3 :=
  (scanL T.marks fun i x=>if ofI x.1 T.drops = true then some (37,3,(i:Int)) else none).or
  ((scanL T.pairs fun i x=>if ofI x.1 T.drops = true∨ofI x.2.1 T.drops = true∨ofI x.2.2 T.drops = true then some (37,4,(i:Int)) else none).or
  ((scanL T.folds fun i x=>if ofI x.1 T.drops = true then some (37,5,(i:Int)) else none).or
  (scanL T.looks fun i x=>if ofI x.1 T.drops = true then some (37,6,(i:Int)) else none)))
def fromsW (T:Tab):Option W3 :=
  (scanL T.folds fun i x=>if isMark T x.1 = true∨(wholeO T x.1).isSome = true then some (31,5,(i:Int)) else none).or
  (scanL T.looks fun i x=>if isMark T x.1 = true∨(wholeO T x.1).isSome = true then some (31,6,(i:Int)) else none)
def tosW (T:Tab):Option W3 :=
  (scanL T.folds fun i x=>if ∃ c∈(rnO x.2).getD [],plainI T (c:Nat) = false then some (35,5,(i:Int)) else none).or
  (scanL T.looks fun i x=>if ∃ c∈(rnO x.2).getD [],plainI T (c:Nat) = false∨(fromO T.looks (c:Nat)).isSome = true then some (36,6,(i:Int)) else none)
def lowI (r:Int):Bool:=decide (r < 128∨r = 65533)
def setI (r:Int):Bool:=decide (r < 32∨r = 45∨r = 46∨r = 65533)
def setsB (s:ByteArray):Bool:=((rnO s).getD []).any fun c=>setI (c:Nat)
def lettI (r:Int):Bool:=decide (r = 45∨(48≤r∧r≤57)∨(97≤r∧r≤122))
def rowsW (T:Tab):Option W3 :=
  (scan 13 fun i=>if i≠2∧ofI ((45 + i:Nat):Int) T.common = false then some (5,2,0) else none).or
  ((scanL T.marks fun i x=>if lowI x.1 = true then some (5,3,(i:Int)) else none).or
  ((scanL T.pairs fun i x=>if lowI x.1 = true then some (5,4,(i:Int)) else none).or
  ((scanL T.folds fun i x=>if (lowI x.1 = true∧(x.1 < 65∨90 < x.1))∨setsB x.2 = true then some (5,5,(i:Int)) else none).or
  (scanL T.looks fun i x=>if setI x.1 = true∨setsB x.2 = true then some (5,6,(i:Int)) else none))))
def oddA (x:Span):Bool:=(List.range 128).any fun c=>decide (x.1≤(c:Nat)∧((c:Nat):Int)≤x.2) && !lettI (c:Nat)
def houseW (T:Tab):Option W3 :=
  (rowsW T).or ((scanL T.drops fun i x=>if x.1 < 128∨(x.1≤65533∧65533≤x.2) then some (5,7,(i:Int)) else none).or
  ((scanL T.allowed fun i x=>if oddA x = true then some (5,8,(i:Int)) else none).or
  (scan 78 fun i=>if lettI ((45 + i:Nat):Int) = true∧ofI ((45 + i:Nat):Int) T.allowed = false then some (5,8,0) else none)))
def checkW (T:Tab):Option W3:=(longW T).or ((formsW T).or ((twiceW T).or (((pairsW T).or (chainsW T)).or ((dropsW T).or (((fromsW T).or (tosW T)).or (houseW T))))))
def markV (x:Int × Int):List Value:=[.int .i32 x.1,.int .i64 x.2]
def tripV (x:Int × Int × Int):List Value:=[.int .i32 x.1,.int .i32 x.2.1,.int .i32 x.2.2]
def mapV (x:Int × ByteArray):List Value:=[.int .i32 x.1,.string x.2]
def scrV (z:Scr × Sl):List Value:=[.string z.1.1,z.2.val 2]
structure TS where
  s0:Sl
  s1:Sl
  s2:Sl
  s3:Sl
  s4:Sl
  s5:Sl
  s6:Sl
  s7:Sl
  z:List (Scr × Sl)
def TS.vs (S:TS):List Value:=[S.s0.val 2,S.s1.val 2,S.s2.val 2,S.s3.val 3,S.s4.val 2,S.s5.val 2,S.s6.val 2,S.s7.val 2]
def r32 (r:Int):Prop := -2147483648≤r∧r < 2147483648
def r64 (r:Int):Prop := -9223372036854775808≤r∧r < 9223372036854775808
structure Tab.Fits (T:Tab):Prop where
  n0:T.scripts.length < 100000000
  n0s:∀ x∈T.scripts,x.2.length < 100000000∧x.1.size < 100000000
  n1:T.common.length < 100000000
  n2:T.marks.length < 100000000
  n3:T.pairs.length < 100000000
  n4:T.folds.length < 100000000
  n5:T.looks.length < 100000000
  n6:T.drops.length < 100000000
  n7:T.allowed.length < 100000000
  v0:∀ x∈T.scripts,∀ y∈x.2,r32 y.1∧r32 y.2
  v1:∀ y∈T.common,r32 y.1∧r32 y.2
  v2:∀ y∈T.marks,r32 y.1∧r64 y.2
  v3:∀ y∈T.pairs,r32 y.1∧r32 y.2.1∧r32 y.2.2
  v4:∀ y∈T.folds,r32 y.1∧y.2.size < 100000000
  v5:∀ y∈T.looks,r32 y.1∧y.2.size < 100000000
  v6:∀ y∈T.drops,r32 y.1∧r32 y.2
  v7:∀ y∈T.allowed,r32 y.1∧r32 y.2
structure TabAt (h:AH) (S:TS) (T:Tab):Prop where
  fits:T.Fits
  r0:Reads h 2 S.s0 (S.z.map scrV)
  zs:S.z.map (·.1) = T.scripts
  rz:∀ z∈S.z,Reads h 2 z.2 (z.1.2.map pairV)
  r1:Reads h 2 S.s1 (T.common.map pairV)
  r2:Reads h 2 S.s2 (T.marks.map markV)
  r3:Reads h 3 S.s3 (T.pairs.map tripV)
  r4:Reads h 2 S.s4 (T.folds.map mapV)
  r5:Reads h 2 S.s5 (T.looks.map mapV)
  r6:Reads h 2 S.s6 (T.drops.map pairV)
  r7:Reads h 2 S.s7 (T.allowed.map pairV)
theorem TabAt.kp {h h':AH} {S:TS} {T:Tab} (t:TabAt h S T) (k:Kp h h'):TabAt h' S T :=
  ⟨t.fits,t.r0.kp k,t.zs,fun z hz=>(t.rz z hz).kp k,t.r1.kp k,t.r2.kp k,t.r3.kp k,t.r4.kp k,t.r5.kp k,t.r6.kp k,t.r7.kp k⟩
end Go.Proofs.YtakmapoompffgaaGreatDoor.AM
namespace Go.Proofs.YtakmapoompffgaaGreatDoor.AM
open Go Go.ChangeShapes Go.WideShapes Go.ChangeAt Go.RowKit
def RO (h:AH):Prop:=∀ b o,h.get b = some o→o.ro = true
def Arg (P:Program) (W:World) (cs:List Value) (R:AH→List Value→Prop):Prop :=
  ∀ ρ h,HRel P W.heap.size ρ h W→RO h→∃ xs ρ' h',HRel P W.heap.size ρ' h' W∧Ext ρ ρ'∧Kp h h'∧RO h'∧(∀ x∈xs,cellOk x = true)∧VRels ρ' xs cs∧R h' xs
def Mono (R:AH→List Value→Prop):Prop:=∀ h h' xs,R h xs→Kp h h'→R h' xs
section
variable {P:Program} {W:World}
theorem Arg.imp {cs:List Value} {R S:AH→List Value→Prop} (a:Arg P W cs R) (i:∀ h xs,xs.length = cs.length→R h xs→S h xs):Arg P W cs S:=fun ρ h h1 h2 =>
  let ⟨xs, ρ',h',a1,a2,a3,a4,a5,a6,a7⟩:=a ρ h h1 h2
  ⟨xs, ρ',h',a1,a2,a3,a4,a5,a6,i _ _ a6.length a7⟩
theorem Arg.flat {cs:List Value} (hf:cs.all flat0 = true):Arg P W cs fun _ xs=>xs = cs:=fun ρ h h1 h2 =>
  ⟨cs, ρ,h,h1,.refl _,.refl _,h2,fun x hx=>by
    have:=List.all_eq_true.1 hf x hx
    unfold flat0 at this
    (split at this <;> first | rfl | cases this),by
    refine All2.of_get rfl fun i x y hx hy=>?_
    rw [hx] at hy
    injection hy with hy
    subst hy
    exact VRel.flat0 (List.all_eq_true.1 hf x (List.mem_of_getElem? hx)),rfl⟩
theorem Arg.append {cs ds:List Value} {R S:AH→List Value→Prop} (a:Arg P W cs R) (m:Mono R) (b:Arg P W ds S):Arg P W (cs ++ ds) fun h xs => ∃ ys zs,xs = ys ++ zs∧ys.length = cs.length∧zs.length = ds.length∧R h ys∧S h zs:=by
  intro ρ h h1 h2
  obtain ⟨xs, ρ',h',a1,a2,a3,a4,a5,a6,a7⟩:=a ρ h h1 h2
  obtain ⟨ys, ρ2,h3,b1,b2,b3,b4,b5,b6,b7⟩:=b ρ' h' a1 a4
  exact ⟨xs ++ ys, ρ2,h3,b1,a2.trans b2,a3.trans b3,b4,fun x hx=>(List.mem_append.1 hx).elim (a5 x) (b5 x),(a6.mono b2).append b6,xs,ys,rfl,a6.length,b6.length,m _ _ _ a7 b3,b7⟩
theorem Arg.all {α:Type} {n:Nat} {R:α→AH→List Value→Prop} (m:∀ a,Mono (R a)):∀ (L:List (α × List Value)),(∀ p∈L,p.2.length = n∧Arg P W p.2 (R p.1)) →
    Arg P W (L.map (·.2)).flatten fun h xs => ∃ xss:List (List Value),xs = xss.flatten∧(∀ ys∈xss,ys.length = n)∧All2 (fun ys a=>R a h ys) xss (L.map (·.1))
  | [],_=>(Arg.flat (cs:=[]) rfl).imp fun h xs _ e=>⟨[],by rw [e]; rfl,by simp,.nil⟩
  | p :: L,hp=>by
    have h1:=hp p (by simp)
    have h2:=Arg.all m L fun q hq=>hp q (List.mem_cons_of_mem _ hq)
    refine (h1.2.append (m p.1) h2).imp fun h xs _ hx=>?_
    obtain ⟨ys,zs,e,l1,_,r1,xss,e2,l2,r2⟩:=hx
    exact ⟨ys :: xss,by rw [e,e2]; rfl,fun y hy=>by
      rcases List.mem_cons.1 hy with rfl | hy
      · rw [l1]; exact h1.1
      · exact l2 y hy,.cons r1 r2⟩
end
structure Elem (H:Type) (enc:TypeId × Value→H) (P:Program) (W:World) (t:TypeId) (n:Nat) (α:Type) where
  R:α→AH→List Value→Prop
  ok:α→Prop
  sz:α→Nat
  mono:∀ a,Mono (R a)
  arg:∀ fuel cs d ps,cs.length = n→DataW.trod enc P W 0 (fun _=>true) true fuel t cs = some (d,ps)→∃ a,ok a∧sz a≤Rows.uptoBulk d∧Arg P W cs (R a)
section
variable {H:Type} {enc:TypeId × Value→H} {P:Program} {W:World}
def Elem.int (k:IntKind) {t:TypeId} (ht:P.underlying t = some (.int k)):Elem H enc P W t 1 Int where
  R a _ xs:=xs = [.int k a]
  ok a:=(Lit.int k a).wf = true
  sz _:=1
  mono _ _ _ _ h _:=h
  arg fuel cs d ps _ h:=by
    obtain ⟨n,rfl,e,w⟩:=DataW.trod_int ht h
    injection e with e
    subst e
    exact ⟨n,w,by simp [Rows.uptoBulk],Arg.flat rfl⟩
def Elem.str {t:TypeId} (ht:P.underlying t = some .string):Elem H enc P W t 1 ByteArray where
  R a _ xs:=xs = [.string a]
  ok _:=True
  sz a:=a.size + 1
  mono _ _ _ _ h _:=h
  arg fuel cs d ps _ h:=by
    obtain ⟨s,rfl,e,w⟩:=DataW.trod_string ht h
    injection e with e
    subst e
    exact ⟨s,trivial,by simp [Rows.uptoBulk],Arg.flat rfl⟩
theorem trod_fields {t:TypeId} {fs:Array Field} {fuel:Nat} {cs:List Value} {d:DataW H} {ps:List MemPlace} (ht:P.underlying t = some (.struct fs)) (hof:∀ (i:Nat) f,fs[i]? = some f→f.offset = i∧P.cellsOf f.type = 1) (hl:cs.length = fs.size)
    (h:DataW.trod enc P W 0 (fun _=>true) true fuel t cs = some (d,ps)):∃ n ds,d = .agg ds∧ds.length = fs.size∧∀ (i:Nat) f,fs[i]? = some f→∃ c x p,cs[i]? = some c∧ds[i]? = some x∧DataW.trod enc P W 0 (fun _=>true) true n f.type [c] = some (x,p):=by
  obtain ⟨xs,n,_,e,_,hxl,hall⟩:=DataW.trod_struct ht h
  injection e with e1 e2
  refine ⟨n,_,e1,by simpa using hxl,fun i f hi=>?_⟩
  obtain ⟨o,c1⟩:=hof i f hi
  have hlt:=(Array.getElem?_eq_some_iff.1 hi).1
  have ha:=hall i f hi
  rw [o,c1,List.getElem?_eq_getElem (by omega)] at ha
  rw [List.drop_eq_getElem_cons (by omega),List.take_succ_cons,List.take_zero] at ha
  exact ⟨cs[i]'(by omega),(xs[i]'(by omega)).1,(xs[i]'(by omega)).2,List.getElem?_eq_getElem _,by rw [List.getElem?_map,List.getElem?_eq_getElem (by omega)]; rfl,ha⟩
def Elem.two {t t0 t1:TypeId} {α β:Type} {f0 f1:Field} (E0:Elem H enc P W t0 1 α) (E1:Elem H enc P W t1 1 β) (ht:P.underlying t = some (.struct #[f0,f1])) (q:[f0,f1].map (fun f=>(f.type,f.offset)) = [(t0,0),(t1,1)]) (c0:P.cellsOf t0 = 1) (c1:P.cellsOf t1 = 1):Elem H enc P W t 2 (α × β) where
  R a h xs:=∃ x y,xs = [x,y]∧E0.R a.1 h [x]∧E1.R a.2 h [y]
  ok a:=E0.ok a.1∧E1.ok a.2
  sz a:=E0.sz a.1 + E1.sz a.2
  mono a h h' xs:=fun ⟨x,y,e,r0,r1⟩ k=>⟨x,y,e,E0.mono _ _ _ _ r0 k,E1.mono _ _ _ _ r1 k⟩
  arg fuel cs d ps hl h:=by
    simp only [List.map_cons,List.map_nil,List.cons.injEq,Prod.mk.injEq,and_true] at q
    obtain ⟨⟨q0,r0⟩,q1,r1⟩:=q
    obtain ⟨n,ds,rfl,hdl,hall⟩:=trod_fields ht (fun i f hi=>by
      match i,hi with
      | 0,hi=>simp at hi; subst hi; exact ⟨r0,by rw [q0]; exact c0⟩
      | 1,hi=>simp at hi; subst hi; exact ⟨r1,by rw [q1]; exact c1⟩
      | i + 2,hi=>simp at hi) (by simpa using hl) h
    match cs,hl,ds,hdl with
    | [u,v],_,[x,y],_ =>
      obtain ⟨_,_,p0,e1,e2,g0⟩:=hall 0 f0 rfl
      obtain ⟨_,_,p1,e3,e4,g1⟩:=hall 1 f1 rfl
      simp only [List.getElem?_cons_zero,List.getElem?_cons_succ,Option.some.injEq] at e1 e2 e3 e4
      subst e1 e2 e3 e4
      rw [q0] at g0; rw [q1] at g1
      obtain ⟨a,o0,z0,A0⟩:=E0.arg _ _ _ _ rfl g0
      obtain ⟨b,o1,z1,A1⟩:=E1.arg _ _ _ _ rfl g1
      refine ⟨(a,b),⟨o0,o1⟩,by simp only [Rows.uptoBulk,Rows.uptoBulkAll]; omega,(A0.append (E0.mono _) A1).imp fun h xs _ hx=>?_⟩
      obtain ⟨ys,zs,e,l1,l2,r0,r1⟩:=hx
      match ys,l1,zs,l2 with
      | [y],_,[z],_=>exact ⟨y,z,e,r0,r1⟩
def Elem.three {t t0 t1 t2:TypeId} {α β γ:Type} {f0 f1 f2:Field} (E0:Elem H enc P W t0 1 α) (E1:Elem H enc P W t1 1 β) (E2:Elem H enc P W t2 1 γ) (ht:P.underlying t = some (.struct #[f0,f1,f2])) (q:[f0,f1,f2].map (fun f=>(f.type,f.offset)) = [(t0,0),(t1,1),(t2,2)])
    (c0:P.cellsOf t0 = 1) (c1:P.cellsOf t1 = 1) (c2:P.cellsOf t2 = 1):Elem H enc P W t 3 (α × β × γ) where
  R a h xs:=∃ x y z,xs = [x,y,z]∧E0.R a.1 h [x]∧E1.R a.2.1 h [y]∧E2.R a.2.2 h [z]
  ok a:=E0.ok a.1∧E1.ok a.2.1∧E2.ok a.2.2
  sz a:=E0.sz a.1 + (E1.sz a.2.1 + E2.sz a.2.2)
  mono a h h' xs:=fun ⟨x,y,z,e,r0,r1,r2⟩ k=>⟨x,y,z,e,E0.mono _ _ _ _ r0 k,E1.mono _ _ _ _ r1 k,E2.mono _ _ _ _ r2 k⟩
  arg fuel cs d ps hl h:=by
    simp only [List.map_cons,List.map_nil,List.cons.injEq,Prod.mk.injEq,and_true] at q
    obtain ⟨⟨q0,r0⟩,⟨q1,r1⟩,q2,r2⟩:=q
    obtain ⟨n,ds,rfl,hdl,hall⟩:=trod_fields ht (fun i f hi=>by
      match i,hi with
      | 0,hi=>simp at hi; subst hi; exact ⟨r0,by rw [q0]; exact c0⟩
      | 1,hi=>simp at hi; subst hi; exact ⟨r1,by rw [q1]; exact c1⟩
      | 2,hi=>simp at hi; subst hi; exact ⟨r2,by rw [q2]; exact c2⟩
      | i + 3,hi=>simp at hi) (by simpa using hl) h
    match cs,hl,ds,hdl with
    | [u,v,w],_,[x,y,z],_ =>
      obtain ⟨_,_,p0,e1,e2,g0⟩:=hall 0 f0 rfl
      obtain ⟨_,_,p1,e3,e4,g1⟩:=hall 1 f1 rfl
      obtain ⟨_,_,p2,e5,e6,g2⟩:=hall 2 f2 rfl
      simp only [List.getElem?_cons_zero,List.getElem?_cons_succ,Option.some.injEq] at e1 e2 e3 e4 e5 e6
      subst e1 e2 e3 e4 e5 e6
      rw [q0] at g0; rw [q1] at g1; rw [q2] at g2
      obtain ⟨a,o0,z0,A0⟩:=E0.arg _ _ _ _ rfl g0
      obtain ⟨b,o1,z1,A1⟩:=E1.arg _ _ _ _ rfl g1
      obtain ⟨c,o2,z2,A2⟩:=E2.arg _ _ _ _ rfl g2
      refine ⟨(a,b,c),⟨o0,o1,o2⟩,by simp only [Rows.uptoBulk,Rows.uptoBulkAll]; omega,(A0.append (E0.mono _) (A1.append (E1.mono _) A2)).imp fun h xs _ hx=>?_⟩
      obtain ⟨ys,zs,e,l1,l2,r0,ys2,zs2,e2,l3,l4,r1,r2⟩:=hx
      match ys,l1,ys2,l3,zs2,l4 with
      | [y],_,[z],_,[w],_=>exact ⟨y,z,w,by rw [e,e2]; rfl,r0,r1,r2⟩
end
end Go.Proofs.YtakmapoompffgaaGreatDoor.AM
namespace Go.Proofs.YtakmapoompffgaaGreatDoor.AM
open Go Go.ChangeShapes Go.WideShapes Go.ChangeAt Go.RowKit
theorem flatten_get {α:Type} {e:Nat} {xss:List (List α)} (h:∀ x∈xss,x.length = e) {i k:Nat} (hi:i < xss.length) (hk:k < e):xss.flatten[i * e + k]? = (xss[i])[k]?:=by
  induction xss generalizing i with
  | nil=>simp at hi
  | cons x r ih =>
    have h1:=h x (by simp)
    cases i with
    | zero=>simp only [Nat.zero_mul,Nat.zero_add,List.flatten_cons,List.getElem_cons_zero]; rw [List.getElem?_append_left (by omega)]
    | succ i =>
      have hr:=ih (fun y hy=>h y (List.mem_cons_of_mem _ hy)) (i:=i) (by simpa using hi)
      simp only [List.flatten_cons,List.getElem_cons_succ]
      rw [List.getElem?_append_right (by rw [Nat.add_mul]; omega),show (i + 1) * e + k - x.length = i * e + k by rw [Nat.add_mul]; omega]
      exact hr
theorem flatten_lenA {α:Type} {e:Nat} {xss:List (List α)} (h:∀ x∈xss,x.length = e):xss.flatten.length = xss.length * e:=by
  induction xss with
  | nil=>simp
  | cons x r ih =>
    have h1:=h x (by simp)
    have h2:=ih fun y hy=>h y (by simp [hy])
    simp only [List.flatten_cons,List.length_append,List.length_cons,h1,h2]
    rw [Nat.add_mul]; omega
theorem bulk_all {H:Type}:∀ (l:List (DataW H)),Rows.uptoBulkAll l = (l.map Rows.uptoBulk).sum
  | []=>by simp [Rows.uptoBulkAll]
  | d :: l=>by simp [Rows.uptoBulkAll,bulk_all l]
theorem sum_le {α:Type} {f g:α→Nat}:∀ (l:List α),(∀ a∈l,f a≤g a)→(l.map f).sum≤(l.map g).sum
  | [],_=>by simp
  | a :: l,h=>by
    have:=h a (by simp)
    have:=sum_le l fun b hb=>h b (List.mem_cons_of_mem _ hb)
    simp only [List.map_cons,List.sum_cons]
    omega
section
variable {H:Type} {enc:TypeId × Value→H} {P:Program} {W:World}
def Elem.slice {t e:TypeId} {n:Nat} {α:Type} [Inhabited α] (E:Elem H enc P W e n α) (ht:P.underlying t = some (.slice e)) (hc:P.cellsOf e = n) (hn:0 < n):Elem H enc P W t 1 (List α) where
  R l h xs:=∃ s:Sl,xs = [s.val n]∧∃ xss,Reads h n s xss∧All2 (fun ys a=>E.R a h ys) xss l
  ok l:=∀ a∈l,E.ok a
  sz l:=(l.map E.sz).sum + 1
  mono l h h' xs:=fun ⟨s,e,xss,r,a⟩ k=>⟨s,e,xss,r.kp k,a.imp fun ys a r=>E.mono _ _ _ _ r k⟩
  arg fuel cs d ps hl h:=by
    rcases Go.Deep.open_slice ht h with ⟨rfl,e⟩ | ⟨a,len,cap,m,k,D,Pl,rfl,_,hlc,_,hm,e,hall⟩
    · injection e with e
      subst e
      refine ⟨[],by simp,by simp [Rows.uptoBulk],fun ρ h h1 h2=>⟨[.slice none 0 0], ρ,h,h1,.refl _,.refl _,h2,fun x hx=>by rw [List.mem_singleton.1 hx]; rfl,.cons .slNil .nil,.nil,rfl,[],⟨rfl,by simp,trivial⟩,.nil⟩⟩
    · simp only [if_true] at hm
      subst hm
      injection e with e
      subst e
      rw [hc] at hall
      have hch:∀ i,i < m→∃ q:List Value × α,q.1.length = n∧(∀ k,k < n→W.cell? ((a.add (i * n)).add k) = q.1[k]?)∧E.ok q.2∧E.sz q.2≤Rows.uptoBulk (D i)∧Arg P W q.1 (E.R q.2):=fun i hi=>by
        obtain ⟨cs',h1,h2⟩:=hall i hi
        obtain ⟨_,hlen,hcell⟩:=World.cells?_some h1
        obtain ⟨x,o,z,A⟩:=E.arg _ _ _ _ hlen h2
        exact ⟨(cs',x),hlen,hcell,o,z,A⟩
      obtain ⟨q,hq⟩:=Go.Deep.choose_lt hch
      refine ⟨(List.range len).map fun i=>(q i).2,fun x hx=>?_, ?_,fun ρ h h1 h2=>?_⟩
      · obtain ⟨i,hi,rfl⟩:=List.mem_map.1 hx
        exact (hq i (by have:=List.mem_range.1 hi; omega)).2.2.1
      · simp only [Rows.uptoBulk,bulk_all,List.map_map]
        have:=sum_le (f:=E.sz ∘ fun i=>(q i).2) (g:=Rows.uptoBulk ∘ D) (List.range len) fun i hi=>(hq i (by have:=List.mem_range.1 hi; omega)).2.2.2.1
        omega
      · have hA := Arg.all (P:=P) (W:=W) (n:=n) (R:=E.R) E.mono ((List.range len).map fun i=>((q i).2,(q i).1)) fun p hp=>by
          obtain ⟨i,hi,rfl⟩:=List.mem_map.1 hp
          have:=hq i (by have:=List.mem_range.1 hi; omega)
          exact ⟨this.1,this.2.2.2.2⟩
        simp only [List.map_map] at hA
        obtain ⟨xs, ρ',h',a1,a2,a3,a4,a5,a6,xss,rfl,a8,a9⟩:=hA ρ h h1 h2
        have hxl:xss.length = len:=by rw [a9.length_eq]; simp
        have hcsl:∀ y∈List.map ((fun x=>x.2) ∘ fun i=>((q i).2,(q i).1)) (List.range len),y.length = n:=fun y hy=>by
          obtain ⟨i,hi,rfl⟩:=List.mem_map.1 hy
          exact (hq i (by have:=List.mem_range.1 hi; omega)).1
        rcases Nat.eq_zero_or_pos m with hm0 | hm0
        · subst hm0
          have:len = 0:=by omega
          subst this
          have hx0:xss = []:=List.eq_nil_of_length_eq_zero hxl
          subst hx0
          exact ⟨[(Sl.at 0 0 0).val n], ρ',h',a1,a2,a3,a4,fun x hx=>by rw [List.mem_singleton.1 hx]; exact Sl.cellOk_val,.cons (.slZ _ _ _) .nil,.at 0 0 0,rfl,[],⟨rfl,by simp,.inl rfl⟩,by simpa using a9⟩
        · have c00:=(hq 0 hm0).2.1 0 hn
          have hblk:∃ cs t fz,W.heap[a.block]? = some (.cells cs t fz)∧a.spot = none:=by
            have h0:=(hq 0 hm0).1
            rw [List.getElem?_eq_getElem (by omega)] at c00
            unfold World.cell? at c00
            split at c00
            · rename_i cs t fz hb
              split at c00
              · cases c00
              · rename_i hs
                have ha0:(a.add (0 * n)).add 0 = a:=by simp [Addr.add]
                rw [ha0] at hb hs
                exact ⟨cs,t,fz,hb,by simpa using hs⟩
            · cases c00
          obtain ⟨cs,tt,fz,hb,hsp⟩:=hblk
          obtain ⟨ab,ao,asp⟩:=a
          simp only at hb hsp
          subst hsp
          have hcl:∀ i k (hi:i < m) (hk:k < n) v,(q i).1[k]? = some v→cs[ao + (i * n + k)]? = some v:=fun i k hi hk v hv=>by
            have:=(hq i hi).2.1 k hk
            rw [hv,add_plain,add_plain] at this
            simp only [World.cell?,hb,Option.isSome_none] at this
            rw [Nat.add_assoc] at this
            simpa using this
          have hsz:ao + m * n≤cs.size:=by
            have hl1:=(hq (m - 1) (by omega)).1
            have:=hcl (m - 1) (n - 1) (by omega) (by omega) _ (List.getElem?_eq_getElem (by omega))
            have:=(Array.getElem?_eq_some_iff.1 this).1
            have e1:(m - 1) * n + n = m * n:=by
              rw [show m = (m - 1) + 1 by omega,Nat.add_mul]
              simp
            omega
          have hfl:=flatten_lenA a8
          have hml:len * n≤m * n:=Nat.mul_le_mul_right n hlc
          refine ⟨[(Sl.at h'.n 0 len).val n],_,_,a1.ro (c:=ab) (δ:=ao) (N:=cs.size) (xs:=xss.flatten) (cs:=cs) (t:=tt) (fz:=fz) hb rfl (by rw [hfl,hxl]; omega) ?_ (Array.getElem?_eq_some_iff.1 hb).1,a2.trans (.snoc _ _),a3.push _,fun b o ho=>?_,
            fun x hx=>by rw [List.mem_singleton.1 hx]; exact Sl.cellOk_val,.cons ?_ .nil,.at h'.n 0 len,rfl,xss,⟨hxl.symm,a8,.inr ⟨true,[],[],by simpa using AH.get_push_same h' _,rfl⟩⟩, ?_⟩
          · intro j v hv
            have hj:j < xss.flatten.length:=(List.getElem?_eq_some_iff.1 hv).1
            have hjn:j < len * n:=by rw [hfl,hxl] at hj; exact hj
            refine ⟨a5 v (List.mem_of_getElem? hv), ?_⟩
            obtain ⟨u,hu,hr⟩:=a6.get j v hv
            refine ⟨u, ?_,hr⟩
            have hd:=Nat.div_add_mod j n
            have hmod:=Nat.mod_lt j hn
            have hdl:j / n < len:=Nat.div_lt_of_lt_mul (by rw [Nat.mul_comm]; exact hjn)
            have hj2:j / n * n + j % n = j:=by rw [Nat.mul_comm]; exact hd
            rw [← hj2,flatten_get hcsl (by simpa using hdl) hmod] at hu
            simp only [List.getElem_map,List.getElem_range,Function.comp] at hu
            have:=hcl (j / n) (j % n) (by omega) hmod u hu
            rw [hj2] at this
            exact this
          · by_cases hb':b = h'.n
            · subst hb'
              rw [AH.get_push_same] at ho
              injection ho with ho
              subst ho
              rfl
            · rw [AH.get_push_ne _ hb'] at ho
              exact a4 b o ho
          · exact .sl h'.n 0 ab ao cs.size len n m (by rw [← a1.len]; simp) hlc (by omega)
          · have:All2 (fun ys a=>E.R a h' ys) xss ((List.range len).map fun i=>(q i).2):=a9
            exact this.imp fun ys a r=>E.mono _ _ _ _ r ((Kp.refl h').push _)
end
end Go.Proofs.YtakmapoompffgaaGreatDoor.AM
namespace Go.Proofs.YtakmapoompffgaaGreatDoor.AM
open Go Go.ChangeShapes Go.WideShapes Go.ChangeAt Go.RowKit
noncomputable section
variable {H:Type} {enc:TypeId × Value→H} {W:World}
abbrev eI:Elem H enc Tryz.prog W 21 1 Int:=.int .i32 Tryz.underlying21
abbrev eN:Elem H enc Tryz.prog W 3 1 Int:=.int .i64 Tryz.underlying3
abbrev eS:Elem H enc Tryz.prog W 9 1 ByteArray:=.str Tryz.underlying9
theorem ci:Tryz.prog.cellsOf 21 = 1:=by kernel_rfl
theorem cn:Tryz.prog.cellsOf 3 = 1:=by kernel_rfl
theorem cs:Tryz.prog.cellsOf 9 = 1:=by kernel_rfl
theorem csl:Tryz.prog.cellsOf 23 = 1:=by kernel_rfl
def eSpan:Elem H enc Tryz.prog W 119 2 (Int × Int):=.two eI eI Tryz.underlying119 rfl ci ci
def eMark:Elem H enc Tryz.prog W 121 2 (Int × Int):=.two eI eN Tryz.underlying121 rfl ci cn
def ePair:Elem H enc Tryz.prog W 123 3 (Int × Int × Int):=.three eI eI eI Tryz.underlying123 rfl ci ci ci
def eMap:Elem H enc Tryz.prog W 125 2 (Int × ByteArray):=.two eI eS Tryz.underlying125 rfl ci cs
def sSpan:Elem H enc Tryz.prog W 23 1 (List Span):=eSpan.slice Tryz.underlying23 (by kernel_rfl) (by decide)
def eScr:Elem H enc Tryz.prog W 127 2 Scr:=.two eS sSpan Tryz.underlying127 rfl cs csl
def sScr:Elem H enc Tryz.prog W 22 1 (List Scr):=eScr.slice Tryz.underlying22 (by kernel_rfl) (by decide)
def sMark:Elem H enc Tryz.prog W 24 1 (List (Int × Int)):=eMark.slice Tryz.underlying24 (by kernel_rfl) (by decide)
def sPair:Elem H enc Tryz.prog W 25 1 (List (Int × Int × Int)):=ePair.slice Tryz.underlying25 (by kernel_rfl) (by decide)
def sMap:Elem H enc Tryz.prog W 26 1 (List (Int × ByteArray)):=eMap.slice Tryz.underlying26 (by kernel_rfl) (by decide)
theorem all2_map {α β:Type} {f:α→List β} {R:α→List β→Prop} (h:∀ a ys,R a ys→ys = f a):∀ {xss:List (List β)} {l:List α},All2 (fun ys a=>R a ys) xss l→xss = l.map f
  | _,_,.nil=>rfl
  | _,_,.cons r t=>by rw [h _ _ r,all2_map h t]; rfl
theorem rSpan {l:List Span} {h:AH} {xs:List Value} (r:(sSpan (H:=H) (enc:=enc) (W:=W)).R l h xs):∃ s:Sl,xs = [s.val 2]∧Reads h 2 s (l.map pairV):=by
  obtain ⟨s,e,xss,rd,al⟩:=r
  refine ⟨s,e, ?_⟩
  rw [← all2_map (f:=pairV) (fun a ys q=>?_) al]
  · exact rd
  · obtain ⟨x,y,e,q0,q1⟩:=q
    simp only [eI,Elem.int,List.cons.injEq,and_true] at q0 q1
    rw [e,q0,q1]; rfl
theorem rMark {l:List (Int × Int)} {h:AH} {xs:List Value} (r:(sMark (H:=H) (enc:=enc) (W:=W)).R l h xs):∃ s:Sl,xs = [s.val 2]∧Reads h 2 s (l.map markV):=by
  obtain ⟨s,e,xss,rd,al⟩:=r
  refine ⟨s,e, ?_⟩
  rw [← all2_map (f:=markV) (fun a ys q=>?_) al]
  · exact rd
  · obtain ⟨x,y,e,q0,q1⟩:=q
    simp only [eI,eN,Elem.int,List.cons.injEq,and_true] at q0 q1
    rw [e,q0,q1]; rfl
theorem rPair {l:List (Int × Int × Int)} {h:AH} {xs:List Value} (r:(sPair (H:=H) (enc:=enc) (W:=W)).R l h xs):∃ s:Sl,xs = [s.val 3]∧Reads h 3 s (l.map tripV):=by
  obtain ⟨s,e,xss,rd,al⟩:=r
  refine ⟨s,e, ?_⟩
  rw [← all2_map (f:=tripV) (fun a ys q=>?_) al]
  · exact rd
  · obtain ⟨x,y,z,e,q0,q1,q2⟩:=q
    simp only [eI,Elem.int,List.cons.injEq,and_true] at q0 q1 q2
    rw [e,q0,q1,q2]; rfl
theorem rMap {l:List (Int × ByteArray)} {h:AH} {xs:List Value} (r:(sMap (H:=H) (enc:=enc) (W:=W)).R l h xs):∃ s:Sl,xs = [s.val 2]∧Reads h 2 s (l.map mapV):=by
  obtain ⟨s,e,xss,rd,al⟩:=r
  refine ⟨s,e, ?_⟩
  rw [← all2_map (f:=mapV) (fun a ys q=>?_) al]
  · exact rd
  · obtain ⟨x,y,e,q0,q1⟩:=q
    simp only [eI,eS,Elem.int,Elem.str,List.cons.injEq,and_true] at q0 q1
    rw [e,q0,q1]; rfl
theorem rScr {l:List Scr} {h:AH} {xs:List Value} (r:(sScr (H:=H) (enc:=enc) (W:=W)).R l h xs):∃ (s:Sl) (Z:List (Scr × Sl)),xs = [s.val 2]∧Reads h 2 s (Z.map scrV)∧Z.map (·.1) = l∧∀ z∈Z,Reads h 2 z.2 (z.1.2.map pairV):=by
  obtain ⟨s,e,xss,rd,al⟩:=r
  have key:∀ {xss:List (List Value)} {l:List Scr},All2 (fun ys a=>(eScr (H:=H) (enc:=enc) (W:=W)).R a h ys) xss l→∃ Z:List (Scr × Sl),xss = Z.map scrV∧Z.map (·.1) = l∧∀ z∈Z,Reads h 2 z.2 (z.1.2.map pairV):=by
    intro xss l al
    induction al with
    | nil=>exact ⟨[],rfl,rfl,by simp⟩
    | @cons ys a _ _ q _ ih =>
      obtain ⟨Z,e1,e2,e3⟩:=ih
      obtain ⟨x,y,e,q0,q1⟩:=q
      obtain ⟨s,e4,rd⟩:=rSpan q1
      simp only [eS,Elem.str,List.cons.injEq,and_true] at q0 e4
      refine ⟨(a,s) :: Z, ?_, ?_, ?_⟩
      · rw [e,q0,e4,e1]; rfl
      · rw [← e2]; rfl
      · intro z hz
        rcases List.mem_cons.1 hz with rfl | hz
        · exact rd
        · exact e3 z hz
  obtain ⟨Z,e1,e2,e3⟩:=key al
  exact ⟨s,Z,e,e1 ▸ rd,e2,e3⟩
theorem sum_mem {α:Type} {f:α→Nat} {l:List α} {a:α} (h:a∈l):f a≤(l.map f).sum:=by
  induction l with
  | nil=>cases h
  | cons b l ih =>
    simp only [List.map_cons,List.sum_cons]
    rcases List.mem_cons.1 h with rfl | h
    · omega
    · have:=ih h; omega
theorem sum_len {α:Type} {f:α→Nat} {l:List α} (h:∀ a,1≤f a):l.length≤(l.map f).sum:=by
  induction l with
  | nil=>simp
  | cons b l ih =>
    have:=h b
    simp only [List.map_cons,List.sum_cons,List.length_cons]
    omega
theorem has_i64' {n:Int} (h:(Lit.int .i64 n).wf = true) : -9223372036854775808≤n∧n < 9223372036854775808:=by
  simp only [Lit.wf,IntKind.has,IntKind.min,IntKind.max,IntKind.signed,IntKind.bits,Bool.and_eq_true,decide_eq_true_eq,if_true] at h
  omega
set_option maxRecDepth 100000 in
theorem tables_arg {base:Nat} {v:Value} {d:DataW H} {ps:List MemPlace} (hv:Value.okWide Tryz.prog W .any base 28 v) (hd:DataW.Trod enc Tryz.prog W 0 (fun _=>true) true 28 v d ps) (hb:Rows.uptoBulk d≤1048576) :
    ∃ T:Tab,T.Fits∧∀ ρ h,HRel Tryz.prog W.heap.size ρ h W→RO h→∃ S ρ' h',HRel Tryz.prog W.heap.size ρ' h' W∧Ext ρ ρ'∧Kp h h'∧RO h'∧TabAt h' S T∧VRel ρ' (.agg S.vs.toArray) v:=by
  obtain ⟨cs,rfl,hsz⟩:=okWide_struct Tryz.underlying28 hv
  rw [show Tryz.prog.cellsOf 28 = 8 by kernel_rfl] at hsz
  obtain ⟨fuel,hf⟩:=hd
  obtain ⟨L⟩:=cs
  match L,hsz with
  | [c0, c1,c2,c3,c4,c5,c6,c7],_ =>
    have hval:(Value.cells (.agg #[c0,c1,c2,c3,c4,c5,c6,c7])).toList = [c0,c1,c2,c3,c4,c5,c6,c7]:=rfl
    rw [hval] at hf
    obtain ⟨n,ds,rfl,hdl,hall⟩:=trod_fields Tryz.underlying28 (fun i f hi=>by
      match i,hi with
      | 0,hi=>simp at hi; subst hi; exact ⟨rfl,by kernel_rfl⟩
      | 1,hi=>simp at hi; subst hi; exact ⟨rfl,by kernel_rfl⟩
      | 2,hi=>simp at hi; subst hi; exact ⟨rfl,by kernel_rfl⟩
      | 3,hi=>simp at hi; subst hi; exact ⟨rfl,by kernel_rfl⟩
      | 4,hi=>simp at hi; subst hi; exact ⟨rfl,by kernel_rfl⟩
      | 5,hi=>simp at hi; subst hi; exact ⟨rfl,by kernel_rfl⟩
      | 6,hi=>simp at hi; subst hi; exact ⟨rfl,by kernel_rfl⟩
      | 7,hi=>simp at hi; subst hi; exact ⟨rfl,by kernel_rfl⟩
      | i + 8,hi=>simp at hi) rfl hf
    match ds,hdl with
    | [x0,x1,x2,x3,x4,x5,x6,x7],_ =>
      obtain ⟨_,_,p0,e,e',g0⟩:=hall 0 _ rfl
      simp only [List.getElem?_cons_zero,List.getElem?_cons_succ,Option.some.injEq] at e e'
      subst e e'
      obtain ⟨_,_,p1,e,e',g1⟩:=hall 1 _ rfl
      simp only [List.getElem?_cons_zero,List.getElem?_cons_succ,Option.some.injEq] at e e'
      subst e e'
      obtain ⟨_,_,p2,e,e',g2⟩:=hall 2 _ rfl
      simp only [List.getElem?_cons_zero,List.getElem?_cons_succ,Option.some.injEq] at e e'
      subst e e'
      obtain ⟨_,_,p3,e,e',g3⟩:=hall 3 _ rfl
      simp only [List.getElem?_cons_zero,List.getElem?_cons_succ,Option.some.injEq] at e e'
      subst e e'
      obtain ⟨_,_,p4,e,e',g4⟩:=hall 4 _ rfl
      simp only [List.getElem?_cons_zero,List.getElem?_cons_succ,Option.some.injEq] at e e'
      subst e e'
      obtain ⟨_,_,p5,e,e',g5⟩:=hall 5 _ rfl
      simp only [List.getElem?_cons_zero,List.getElem?_cons_succ,Option.some.injEq] at e e'
      subst e e'
      obtain ⟨_,_,p6,e,e',g6⟩:=hall 6 _ rfl
      simp only [List.getElem?_cons_zero,List.getElem?_cons_succ,Option.some.injEq] at e e'
      subst e e'
      obtain ⟨_,_,p7,e,e',g7⟩:=hall 7 _ rfl
      simp only [List.getElem?_cons_zero,List.getElem?_cons_succ,Option.some.injEq] at e e'
      subst e e'
      obtain ⟨l0,o0,z0,A0⟩:=(sScr (H:=H) (enc:=enc) (W:=W)).arg _ _ _ _ rfl g0
      obtain ⟨l1,o1,z1,A1⟩:=(sSpan (H:=H) (enc:=enc) (W:=W)).arg _ _ _ _ rfl g1
      obtain ⟨l2,o2,z2,A2⟩:=(sMark (H:=H) (enc:=enc) (W:=W)).arg _ _ _ _ rfl g2
      obtain ⟨l3,o3,z3,A3⟩:=(sPair (H:=H) (enc:=enc) (W:=W)).arg _ _ _ _ rfl g3
      obtain ⟨l4,o4,z4,A4⟩:=(sMap (H:=H) (enc:=enc) (W:=W)).arg _ _ _ _ rfl g4
      obtain ⟨l5,o5,z5,A5⟩:=(sMap (H:=H) (enc:=enc) (W:=W)).arg _ _ _ _ rfl g5
      obtain ⟨l6,o6,z6,A6⟩:=(sSpan (H:=H) (enc:=enc) (W:=W)).arg _ _ _ _ rfl g6
      obtain ⟨l7,o7,z7,A7⟩:=(sSpan (H:=H) (enc:=enc) (W:=W)).arg _ _ _ _ rfl g7
      have bs:∀ l:List Span,(sSpan (H:=H) (enc:=enc) (W:=W)).sz l = (l.map fun _=>2).sum + 1:=fun l=>rfl
      have b0:(sScr (H:=H) (enc:=enc) (W:=W)).sz l0 = (l0.map fun x=>x.1.size + 1 + ((x.2.map fun _=>2).sum + 1)).sum + 1:=rfl
      have b2:(sMark (H:=H) (enc:=enc) (W:=W)).sz l2 = (l2.map fun _=>2).sum + 1:=rfl
      have b3:(sPair (H:=H) (enc:=enc) (W:=W)).sz l3 = (l3.map fun _=>3).sum + 1:=rfl
      have bm:∀ l,(sMap (H:=H) (enc:=enc) (W:=W)).sz l = (l.map fun x=>1 + (x.2.size + 1)).sum + 1:=fun l=>rfl
      rw [bs] at z1 z6 z7
      rw [bm] at z4 z5
      rw [b0] at z0
      rw [b2] at z2
      rw [b3] at z3
      simp only [Rows.uptoBulk,Rows.uptoBulkAll] at hb
      have len2:∀ {α:Type} (l:List α),l.length≤(l.map fun _=>2).sum:=fun l=>sum_len fun _=>by decide
      have len3:∀ {α:Type} (l:List α),l.length≤(l.map fun _=>3).sum:=fun l=>sum_len fun _=>by decide
      have q0:=sum_len (l:=l0) (f:=fun x=>x.1.size + 1 + ((x.2.map fun _=>2).sum + 1)) fun _=>by omega
      have q1:=len2 l1; have q2:=len2 l2; have q3:=len3 l3; have q6:=len2 l6; have q7:=len2 l7
      have q4:=sum_len (l:=l4) (f:=fun x=>1 + (x.2.size + 1)) fun _=>by omega
      have q5:=sum_len (l:=l5) (f:=fun x=>1 + (x.2.size + 1)) fun _=>by omega
      have i32:∀ a:Int,(Lit.int .i32 a).wf = true→r32 a:=fun a w=>has_i32 w
      have FT:Tab.Fits ⟨l0,l1,l2,l3,l4,l5,l6,l7⟩:=by
       refine ⟨by simp only; omega,fun x hx=>?_,by simp only; omega,by simp only; omega,by simp only; omega,by simp only; omega,by simp only; omega,by simp only; omega,by simp only; omega,
        fun x hx y hy=>?_,fun y hy=>⟨i32 _ (o1 y hy).1,i32 _ (o1 y hy).2⟩,fun y hy=>⟨i32 _ (o2 y hy).1,has_i64' (o2 y hy).2⟩,fun y hy=>⟨i32 _ (o3 y hy).1,i32 _ (o3 y hy).2.1,i32 _ (o3 y hy).2.2⟩,
        fun y hy=>⟨i32 _ (o4 y hy).1, ?_⟩,fun y hy=>⟨i32 _ (o5 y hy).1, ?_⟩,fun y hy=>⟨i32 _ (o6 y hy).1,i32 _ (o6 y hy).2⟩,fun y hy=>⟨i32 _ (o7 y hy).1,i32 _ (o7 y hy).2⟩⟩
       · have:=sum_mem (f:=fun x:Scr=>x.1.size + 1 + ((x.2.map fun _=>2).sum + 1)) hx
         have:=len2 x.2
         simp only at *
         omega
       · have:=(o0 x hx).2 y hy
         exact ⟨i32 _ this.1,i32 _ this.2⟩
       · have:=sum_mem (f:=fun x:Int × ByteArray=>1 + (x.2.size + 1)) hy
         simp only at *
         omega
       · have:=sum_mem (f:=fun x:Int × ByteArray=>1 + (x.2.size + 1)) hy
         simp only at *
         omega
      refine ⟨_,FT,fun ρ h hh hro=>?_⟩
      obtain ⟨xs, ρ',h',a1,a2,a3,a4,a5,a6,a7⟩:=(A0.append (Elem.mono _ _) (A1.append (Elem.mono _ _) (A2.append (Elem.mono _ _) (A3.append (Elem.mono _ _) (A4.append (Elem.mono _ _) (A5.append (Elem.mono _ _) (A6.append (Elem.mono _ _) A7))))))) ρ h hh hro
      obtain ⟨y0,w0,e0,_,_,r0,k0⟩:=a7
      obtain ⟨y1,w1,e1,_,_,r1,k1⟩:=k0
      obtain ⟨y2,w2,e2,_,_,r2,k2⟩:=k1
      obtain ⟨y3,w3,e3,_,_,r3,k3⟩:=k2
      obtain ⟨y4,w4,e4,_,_,r4,k4⟩:=k3
      obtain ⟨y5,w5,e5,_,_,r5,k5⟩:=k4
      obtain ⟨y6,w6,e6,_,_,r6,k6⟩:=k5
      obtain ⟨s0,Z,f0,d0,zs,rz⟩:=rScr r0
      obtain ⟨s1,f1,d1⟩:=rSpan r1
      obtain ⟨s2,f2,d2⟩:=rMark r2
      obtain ⟨s3,f3,d3⟩:=rPair r3
      obtain ⟨s4,f4,d4⟩:=rMap r4
      obtain ⟨s5,f5,d5⟩:=rMap r5
      obtain ⟨s6,f6,d6⟩:=rSpan r6
      obtain ⟨s7,f7,d7⟩:=rSpan k6
      refine ⟨⟨s0,s1,s2,s3,s4,s5,s6,s7,Z⟩, ρ',h',a1,a2,a3,a4,⟨FT,d0,zs,rz,d1,d2,d3,d4,d5,d6,d7⟩, ?_⟩
      · have hxs:xs = TS.vs ⟨s0,s1,s2,s3,s4,s5,s6,s7,Z⟩:=by
          rw [e0,e1,e2,e3,e4,e5,e6,f0,f1,f2,f3,f4,f5,f6,f7]; rfl
        rw [← hxs]
        have hl:=a6.length
        refine .agg _ _ (by simpa using hl) fun i x y hx hy=>?_
        rw [List.getElem?_toArray] at hx
        obtain ⟨u,hu,hr⟩:=a6.get i x hx
        rw [List.getElem?_toArray] at hy
        have:some u = some y:=hu.symm.trans hy
        injection this with this
        exact this ▸ hr
end
end Go.Proofs.YtakmapoompffgaaGreatDoor.AM
namespace Go.Proofs.YtakmapoompffgaaGreatDoor.AM
open Go
def laidH (P:Program) (L:List (Nat × List Value)):AH:=L.foldr (fun x h=>h.set x.1 (.cells true x.2)) ⟨P.globals.size,.e⟩
def laidR (P:Program) (L:List (Nat × List Value)):Rho:=(List.range P.globals.size).map fun g=>(g,0,match L.lookup g with | some xs=>xs.length | none=>0)
theorem laidH_n (P:Program) (L:List (Nat × List Value)):(laidH P L).n = P.globals.size:=by
  induction L with
  | nil=>rfl
  | cons x L ih=>exact ih
theorem laidH_get (P:Program) {b:Nat} {o:AObj}:∀ {L:List (Nat × List Value)},(∀ x∈L,x.1 < P.globals.size)→(laidH P L).get b = some o→∃ xs,L.lookup b = some xs∧o = .cells true xs∧(b,xs)∈L
  | [],_,h=>by simp only [laidH,List.foldr_nil,AH.get,Tr.get] at h; split at h <;> cases h
  | x :: L,hL,h=>by
    have hx:=hL x (by simp)
    have e:laidH P (x :: L) = (laidH P L).set x.1 (.cells true x.2):=rfl
    rw [e] at h
    obtain ⟨g,xs⟩:=x
    by_cases hb:b = g
    · subst hb
      rw [AH.get_set_same _ (by rw [laidH_n]; exact hx)] at h
      injection h with h
      exact ⟨xs,by simp [List.lookup],h.symm,by simp⟩
    · rw [AH.get_set_ne _ hb] at h
      obtain ⟨ys,h1,h2,h3⟩:=laidH_get P (fun y hy=>hL y (List.mem_cons_of_mem _ hy)) h
      exact ⟨ys,by simp only [List.lookup,beq_false_of_ne hb,h1],h2,List.mem_cons_of_mem _ h3⟩
def VarIs (w:World) (g:Nat) (xs:List Value):Prop:=∃ cs t fz,w.heap[g]? = some (.cells cs t fz)∧cs.toList = xs
theorem hrel_laid {P:Program} {w:World} {L:List (Nat × List Value)} (hg:∀ x∈L,x.1 < P.globals.size) (hf:∀ x∈L,x.2.all flat0 = true) (hL:∀ x∈L,VarIs w x.1 x.2) :
    HRel P w.heap.size (laidR P L) (laidH P L) w∧∀ b o,(laidH P L).get b = some o→o.ro = true:=by
  have hget:∀ b,b < P.globals.size→(laidR P L)[b]? = some (b,0,match L.lookup b with | some xs=>xs.length | none=>0):=fun b hb=>by simp [laidR,hb]
  refine ⟨⟨by simp [laidR,laidH_n],fun b o h=>?_,fun g hgg=>⟨_,hget g hgg⟩,fun b b' o o' c δ N c' δ' N' h1 h2 hne hro=>?_⟩,fun b o h=>?_⟩
  · obtain ⟨xs,h1,rfl,h3⟩:=laidH_get P hg h
    obtain ⟨cs,t,fz,h4,h5⟩:=hL _ h3
    have hb:=hg _ h3
    simp only at h4 h5 hb
    have hlen:cs.size = xs.length:=by rw [← h5]; simp
    refine ⟨b,0,xs.length,_,by rw [hget b hb,h1],h4,⟨hlen,by omega,(fun h=>by cases h),fun i v hv=>?_⟩,(fun h=>by cases h),fun _=>(Array.getElem?_eq_some_iff.1 h4).1⟩
    have hfl:=List.all_eq_true.1 (hf _ h3) v (List.mem_of_getElem? hv)
    refine ⟨by (unfold flat0 at hfl; split at hfl <;> first | rfl | cases hfl),v, ?_,VRel.flat0 hfl⟩
    rw [Nat.zero_add,← Array.getElem?_toList,h5]
    exact hv
  · obtain ⟨xs,_,rfl,_⟩:=laidH_get P hg h1
    cases hro
  · obtain ⟨xs,_,rfl,_⟩:=laidH_get P hg h
    rfl
def firstV:List Value:=Go.Pinned.utf8FirstZ.map fun (z:Nat)=>Value.int .u8 (z:Int)
def acceptZ:List (Int × Int):=[(128,191),(160,191),(128,159),(144,191),(128,143),(0,0),(0,0),(0,0),(0,0),(0,0),(0,0),(0,0),(0,0),(0,0),(0,0),(0,0)]
def acceptV:List Value:=acceptZ.flatMap fun p=>[.int .u8 p.1,.int .u8 p.2]
def acceptD:DataW Unit:=.agg (acceptZ.map fun p=>.agg [.lit (.int .u8 p.1),.lit (.int .u8 p.2)])
theorem flat_pair:∀ (L:List (Int × Int)) (j:Nat),j < 2 * L.length→(L.flatMap fun p=>[Value.int .u8 p.1,Value.int .u8 p.2])[j]? = ([Value.int .u8 (L.getD (j / 2) (0,0)).1,Value.int .u8 (L.getD (j / 2) (0,0)).2]:List Value)[j % 2]?
  | [],j,h=>by simp at h
  | p :: L,0,_=>rfl
  | p :: L,1,_=>rfl
  | p :: L,j + 2,h=>by
    have ih:=flat_pair L j (by simp only [List.length_cons] at h; omega)
    have e1:(j + 2) / 2 = j / 2 + 1:=by omega
    have e2:(j + 2) % 2 = j % 2:=by omega
    rw [e1,e2]
    simp only [List.flatMap_cons,List.cons_append,List.nil_append,List.getElem?_cons_succ,List.getD_cons_succ]
    exact ih
theorem varIs_of {P:Program} {w:World} {n:String} {g:Nat} {cs:Array Value} (hg:P.globalNamed n = some g) (h:w.var? P n = some cs):VarIs w g cs.toList:=by
  simp only [World.var?,hg,Option.bind_some] at h
  split at h
  · rename_i cs' t fz hh
    injection h with h
    subst h
    exact ⟨_,_,_,hh,rfl⟩
  · cases h
theorem first_is {P : Program} {w : World} (h : Lib.VarReads P w "unicode/utf8.first" Go.Pinned.utf8First) {g : Nat} {t e : TypeId} (hg : P.globalNamed "unicode/utf8.first" = some g) (hty : (P.globals[g]?).map (·.type) = some t)
    (ht:P.underlying t = some (.array 256 e)) (he:P.underlying e = some (.int .u8)) (hce:P.cellsOf e = 1) (hct:P.cellsOf t = 256):VarIs w g firstV:=by
  obtain ⟨g',t',cs,fuel,p,hg',hty',hvar,hd⟩:=h
  obtain rfl:=Option.some.inj (hg.symm.trans hg')
  obtain rfl:=Option.some.inj (hty.symm.trans hty')
  have hcs:=Lib.cells_of_tab (zs:=Go.Pinned.utf8FirstZ.map fun (z:Nat)=>(z:Int)) ht he hce hct (by
    rw [show Lib.tabData .u8 (Go.Pinned.utf8FirstZ.map fun (z:Nat)=>(z:Int)) = Go.Pinned.utf8First by unfold Lib.tabData Go.Pinned.utf8First Go.Pinned.numbers; simp [List.map_map]]
    exact hd)
  have:=varIs_of hg hvar
  rw [hcs,List.map_map] at this
  exact this
theorem accept_is {P : Program} {w : World} (h : Lib.VarReads P w "unicode/utf8.acceptRanges" acceptD) {g : Nat} {t e : TypeId} {f0 f1 : Field} (hg : P.globalNamed "unicode/utf8.acceptRanges" = some g) (hty : (P.globals[g]?).map (·.type) = some t)
    (ht:P.underlying t = some (.array 16 e)) (he:P.underlying e = some (.struct #[f0,f1])) (h0:P.underlying f0.type = some (.int .u8)∧f0.offset = 0∧P.cellsOf f0.type = 1) (h1:P.underlying f1.type = some (.int .u8)∧f1.offset = 1∧P.cellsOf f1.type = 1)
    (hce:P.cellsOf e = 2) (hct:P.cellsOf t = 32):VarIs w g acceptV:=by
  obtain ⟨g',t',cs,fuel,p,hg',hty',hvar,hd⟩:=h
  obtain rfl:=Option.some.inj (hg.symm.trans hg')
  obtain rfl:=Option.some.inj (hty.symm.trans hty')
  have hlen:cs.toList.length = 32:=by
    cases fuel with
    | zero=>simp [DataW.trod] at hd
    | succ fuel =>
      simp only [DataW.trod,ht,hce,hct] at hd
      split at hd
      · rename_i hl; simpa using hl
      · cases hd
  have hel:∀ i (hi:i < 16),(cs.toList.drop (i * 2)).take 2 = [.int .u8 (acceptZ.getD i (0,0)).1,.int .u8 (acceptZ.getD i (0,0)).2]:=fun i hi=>by
    obtain ⟨fuel',d,q,hdi,hde⟩:=Lib.array_elem ht hd i hi
    rw [hce] at hde
    have hd2:d = .agg ([(acceptZ.getD i (0,0)).1,(acceptZ.getD i (0,0)).2].map fun z=>.lit (.int .u8 z)):=by
      have:(acceptZ.map fun p=>(DataW.agg [.lit (.int .u8 p.1),.lit (.int .u8 p.2)]:DataW Unit))[i]? = some (.agg ([(acceptZ.getD i (0,0)).1,(acceptZ.getD i (0,0)).2].map fun z=>.lit (.int .u8 z))):=by
        have hi':i < acceptZ.length:=hi
        simp [hi',List.getD]
      rw [this] at hdi
      injection hdi with hdi
      exact hdi.symm
    subst hd2
    have:=Lib.ints_of_struct he (fun j f hj=>by
      match j,hj with
      | 0,hj=>simp at hj; subst hj; exact h0
      | 1,hj=>simp at hj; subst hj; exact h1
      | j + 2,hj=>simp at hj) (by rw [hce]; rfl) hde
    simpa using this
  have hcs:cs.toList = acceptV:=by
    apply List.ext_getElem?
    intro j
    rcases Nat.lt_or_ge j 32 with hj | hj
    · have hd:=Nat.div_add_mod j 2
      have hm:=Nat.mod_lt j (by decide:0 < 2)
      have hq:j / 2 < 16:=by omega
      have hx:=congrArg (·[j % 2]?) (hel (j / 2) hq)
      simp only [List.getElem?_take_of_lt hm,List.getElem?_drop] at hx
      rw [show j / 2 * 2 + j % 2 = j by omega] at hx
      rw [hx]
      exact (flat_pair acceptZ j hj).symm
    · rw [List.getElem?_eq_none (by omega),List.getElem?_eq_none (by show 32≤j; exact hj)]
  have:=varIs_of hg hvar
  rw [hcs] at this
  exact this
end Go.Proofs.YtakmapoompffgaaGreatDoor.AM
namespace Go.Proofs.YtakmapoompffgaaGreatDoor.AM
open Go
def iaddrAP (nn e:Nat):Value→Value→Option Value
  | .pointer (some a),.int _ j=>if 0≤j∧j < nn then some (.pointer (some (ptrOff a (j.toNat * e)))) else none
  | _,_=>none
theorem ev_iaddrA {fr:Fr} {nn e:Nat} {x i:Opd}:(POp.iaddrA nn e x i).ev fr = iaddrAP nn e (opd fr x) (opd fr i):=rfl
theorem iaddrAP_mk {nn e b o:Nat} {sp:Option Nat} {k:IntKind} {j:Int} (h0:0≤j) (h1:j < nn):iaddrAP nn e (.pointer (some ⟨b,o,sp⟩)) (.int k j) = some (.pointer (some ⟨b,o + j.toNat * e,sp⟩)):=by
  simp only [iaddrAP]
  rw [if_pos ⟨h0,h1⟩]
  rfl
attribute [push_cast] ev_iaddrA iaddrAP_mk Nat.mul_one
theorem vsame_map {m:Option Nat}:vsame (.map m) (.map m) = true:=by simp [vsame,vsame1,vsame0]
theorem vsame1_map {m:Option Nat}:vsame1 (.map m) (.map m) = true:=by simp [vsame1,vsame0]
attribute [push_cast] vsame_map vsame1_map
def lookV (kk:KK) (z:Value) (ok:Bool) (h:AH) (x k:Value):Option Value :=
  match (match x with
    | .map none=>some []
    | .map (some b)=>(match h.get b with
      | some (.map es)=>some es
      | _=>none)
    | _=>none:Option (List (Value × Value))) with
  | some es=>if keyEq kk k k = some true then
      match keyFind kk k es with
      | some (some v)=>some (if ok then .tuple #[v,.bool true] else v)
      | some none=>some (if ok then .tuple #[z,.bool false] else z)
      | none=>none
    else none
  | none=>none
theorem ev_lookup {fr:Fr} {lc:Lc} {h:AH} {kk:KK} {z:Value} {ok:Bool} {x k:Opd}:(ROp.lookup kk z ok x k).ev fr ⟨lc,h⟩ = lookV kk z ok h (opd fr x) (opd fr k):=rfl
def upV (kk:KK) (lc:Lc) (h:AH) (x k v:Value):Option (Value × Mem) :=
  match x with
  | .map (some b)=>match h.get b with
    | some (.map es) =>
      match keyFind kk k es with
      | some _=>if okV v = true∧keyEq kk k k = some true then some (undef,⟨lc,h.set b (.map (keySet kk k v es))⟩) else none
      | none=>none
    | _=>none
  | _=>none
theorem ev_mapup {c:CallF} {y:YieldF} {fr:Fr} {lc:Lc} {h:AH} {kk:KK} {m k x:Opd}:(EOp.mapup kk m k x).ev c y fr ⟨lc,h⟩ = upV kk lc h (opd fr m) (opd fr k) (opd fr x):=rfl
def entV (kk:KK) (z:Value) (lc:Lc) (h:AH) (x k:Value):Option (Value × Mem) :=
  match x with
  | .map (some b)=>match h.get b with
    | some (.map es) =>
      if keyEq kk k k = some true then
        match keyIx kk k es with
        | some j=>match es[j]? with
          | some p=>some (.tuple #[p.2,.int .i64 j],⟨lc,h⟩)
          | none=>some (.tuple #[z,.int .i64 es.length],⟨lc,h.set b (.map (es ++ [(k,z)]))⟩)
        | none=>none
      else none
    | _=>none
  | _=>none
theorem ev_mapent {c:CallF} {y:YieldF} {fr:Fr} {lc:Lc} {h:AH} {kk:KK} {z:Value} {m k:Opd}:(EOp.mapent kk z m k).ev c y fr ⟨lc,h⟩ = entV kk z lc h (opd fr m) (opd fr k):=rfl
def stV (lc:Lc) (h:AH) (x i v:Value):Option (Value × Mem) :=
  match x,i with
  | .map (some b),.int .i64 j=>match h.get b with
    | some (.map es)=>match es[j.toNat]? with
      | some p=>if 0≤j∧okV v = true then some (undef,⟨lc,h.set b (.map (es.set j.toNat (p.1,v)))⟩) else none
      | none=>none
    | _=>none
  | _,_=>none
theorem ev_mapst {c:CallF} {y:YieldF} {fr:Fr} {lc:Lc} {h:AH} {m i x:Opd}:(EOp.mapst m i x).ev c y fr ⟨lc,h⟩ = stV lc h (opd fr m) (opd fr i) (opd fr x):=rfl
theorem ev_mkmap {c:CallF} {y:YieldF} {fr:Fr} {lc:Lc} {h:AH}:EOp.mkmap.ev c y fr ⟨lc,h⟩ = some (.map (some h.n),⟨lc,h.push (.map [])⟩):=rfl
attribute [push_cast] ev_lookup ev_mapup ev_mapent ev_mapst ev_mkmap
structure KeyOk {K:Type} [DecidableEq K] (kk:KK) (ke:K→Value):Prop where
  eq:∀ a b,keyEq kk (ke a) (ke b) = some (decide (a = b))
def kI (r:Int):Value:=.int .i32 r
def kP (p:Int × Int):Value:=.agg (List.toArray [.int .i32 p.1,.int .i32 p.2])
def kS (s:ByteArray):Value:=.string s
theorem kI_ok:KeyOk (.one .int) kI:=⟨fun a b=>by
  simp only [keyEq,kI,eqCells,if_true]
  by_cases h:a = b
  · simp [h]
  · simp [h]⟩
theorem kP_ok:KeyOk (.agg [.int,.int]) kP:=⟨fun a b=>by
  simp only [keyEq,kP,eqCells_two]
  congr 1
  exact decide_eq_decide.2 ⟨fun h=>Prod.ext h.1 h.2,fun h=>by rw [h]; exact ⟨rfl,rfl⟩⟩⟩
theorem kS_ok:KeyOk (.one .string) kS:=⟨fun a b=>by
  simp only [keyEq,kS,eqCells]
  by_cases h:a = b
  · subst h; simp [bytes_beq_self]
  · have:(a == b) = false:=by
      obtain ⟨a⟩:=a; obtain ⟨b⟩:=b
      show (a == b) = false
      rw [beq_eq_false_iff_ne]
      exact fun e=>h (by rw [e])
    simp [this,h]⟩
section
variable {K α:Type} [DecidableEq K] {kk:KK} {ke:K→Value} {key:α→K} {val:α→Value}
theorem key_find (ok:KeyOk kk ke) (a:K):∀ L:List α,keyFind kk (ke a) (L.map fun x=>(ke (key x),val x)) = some ((L.find? fun x=>decide (a = key x)).map val)
  | []=>rfl
  | x :: L=>by
    simp only [List.map_cons,keyFind,ok.eq,List.find?_cons]
    by_cases h:a = key x
    · simp [h]
    · simp only [h,decide_false]
      exact key_find ok a L
theorem key_self (ok:KeyOk kk ke) (a:K):keyEq kk (ke a) (ke a) = some true:=by rw [ok.eq]; simp
theorem key_set (ok:KeyOk kk ke) (a:K) (v:Value):∀ L:List α,(∀ x∈L,a≠key x)→keySet kk (ke a) v (L.map fun x=>(ke (key x),val x)) = (L.map fun x=>(ke (key x),val x)) ++ [(ke a,v)]
  | [],_=>rfl
  | x :: L,h=>by
    simp only [List.map_cons,keySet,ok.eq,decide_eq_false (h x (by simp)),List.cons_append]
    rw [key_set ok a v L fun y hy=>h y (List.mem_cons_of_mem _ hy)]
theorem key_ix (ok:KeyOk kk ke) (a:K):∀ L:List α,(∀ x∈L,a≠key x)→keyIx kk (ke a) (L.map fun x=>(ke (key x),val x)) = some L.length
  | [],_=>rfl
  | x :: L,h=>by
    simp only [List.map_cons,keyIx,ok.eq,decide_eq_false (h x (by simp)),List.length_cons]
    rw [key_ix ok a L fun y hy=>h y (List.mem_cons_of_mem _ hy)]
    rfl
variable {h:AH} {m:Nat} {L:List α}
theorem look_map (ok:KeyOk kk ke) (hm:h.get m = some (.map (L.map fun x=>(ke (key x),val x)))) (z:Value) (a:K) :
    lookV kk z false h (.map (some m)) (ke a) = some (((L.find? fun x=>decide (a = key x)).map val).getD z):=by
  simp only [lookV,hm,key_self ok,if_true,key_find ok]
  cases L.find? fun x=>decide (a = key x) <;> rfl
theorem look_mapOk (ok:KeyOk kk ke) (hm:h.get m = some (.map (L.map fun x=>(ke (key x),val x)))) (z:Value) (a:K) :
    lookV kk z true h (.map (some m)) (ke a) = some (.tuple (List.toArray [((L.find? fun x=>decide (a = key x)).map val).getD z,.bool (L.find? fun x=>decide (a = key x)).isSome])):=by
  simp only [lookV,hm,key_self ok,if_true,key_find ok]
  cases L.find? fun x=>decide (a = key x) <;> rfl
theorem up_map (ok:KeyOk kk ke) (hm:h.get m = some (.map (L.map fun x=>(ke (key x),val x)))) (lc:Lc) (x:α) (hv:okV (val x) = true) (hn:∀ y∈L,key x≠key y) :
    upV kk lc h (.map (some m)) (ke (key x)) (val x) = some (undef,⟨lc,h.set m (.map ((L ++ [x]).map fun x=>(ke (key x),val x)))⟩):=by
  simp only [upV,hm,key_self ok,key_find ok,hv,and_self,if_true,key_set ok (key x) (val x) L hn,List.map_append,List.map_cons,List.map_nil]
theorem ent_map (ok:KeyOk kk ke) (hm:h.get m = some (.map (L.map fun x=>(ke (key x),val x)))) (z:Value) (lc:Lc) (a:K) (hn:∀ y∈L,a≠key y) :
    entV kk z lc h (.map (some m)) (ke a) = some (.tuple (List.toArray [z,.int .i64 L.length]),⟨lc,h.set m (.map ((L.map fun x=>(ke (key x),val x)) ++ [(ke a,z)]))⟩):=by
  simp only [entV,hm,key_self ok,key_ix ok a L hn,if_true]
  rw [List.getElem?_eq_none (by simp)]
  simp
theorem st_map {z:Value} (lc:Lc) (x:α) (hm:h.get m = some (.map ((L.map fun x=>(ke (key x),val x)) ++ [(ke (key x),z)]))) (hv:okV (val x) = true) :
    stV lc h (.map (some m)) (.int .i64 L.length) (val x) = some (undef,⟨lc,h.set m (.map ((L ++ [x]).map fun x=>(ke (key x),val x)))⟩):=by
  simp only [stV,hm,Int.toNat_natCast]
  rw [List.getElem?_append_right (by simp)]
  simp [hv]
end
theorem scanL_find {α β:Type} {L:List α} {P:α→Prop} [DecidablePred P] {val:α→β}:(scanL L fun _ x=>if P x then some (val x) else none) = (L.find? fun x=>decide (P x)).map val:=by
  cases h:L.find? fun x=>decide (P x) with
  | none =>
    refine scan_end fun j hj=>?_
    rw [List.getElem?_eq_getElem hj]
    have:=List.find?_eq_none.1 h _ (List.getElem_mem hj)
    exact if_neg (by simpa using this)
  | some x =>
    obtain ⟨hp,ps,bs,rfl,hn⟩:=List.find?_eq_some_iff_append.1 h
    refine scan_hit (i:=ps.length) (fun j hj=>?_) (by simp) ?_
    · rw [List.getElem?_append_left hj,List.getElem?_eq_getElem hj]
      have:=hn _ (List.getElem_mem hj)
      exact if_neg (by simpa using this)
    · rw [List.getElem?_append_right (Nat.le_refl _),Nat.sub_self]
      exact if_pos (of_decide_eq_true hp)
section
variable {p:Prg} {fr:Fr} {lc:Lc} {h:AH} {Q:Post}
theorem wp_scanJ {α β:Type} {a:LCode} {F:Int→Fr} (J:Nat→AH→Prop) (k:Nat) (l:List α) (g:Nat→α→Option β) (hF:∀ n:Int,setF fr k (.int .i64 n) = F n) (h0:fr = F 0) (hJ:J 0 h)
    (more:∀ i (hi:i < l.length) h,J i h→(∀ w,g i l[i] = some w→scanL l g = some w)→Wp p a (F i) lc h (loopQ (fun fr' lc' h'=>g i l[i] = none∧fr' = F ((i:Int) + 1)∧lc' = lc∧J (i + 1) h') Q))
    (fin:∀ h,J l.length h→scanL l g = none→Wp p a (F l.length) lc h (loopQ (fun _ _ _=>False) Q)):Wp p (.loop a) fr lc h Q:=by
  refine wp_scanL l g (fun i fr lc' h=>fr = F i∧lc' = lc∧J i h) ⟨h0,rfl,hJ⟩ ?_ ?_
  · rintro _ _ h ⟨rfl,rfl,hj⟩ fn
    exact fin h hj fn
  · rintro i hi _ _ h ⟨rfl,rfl,hj⟩ hit
    refine wp_mono (more i hi h hj hit) fun ex fr lc h hq=>?_
    have hq:=hq.out
    cases ex with
    | norm=>exact ⟨⟨hq.1,by rw [hq.2.1]; simp only [Int.natCast_add]; rfl,hq.2.2.1,hq.2.2.2⟩⟩
    | exit j=>exact ⟨hq⟩
    | ret=>exact ⟨hq⟩
end
section
variable {p:Prg} {fr:Fr} {lc:Lc} {h:AH} {Q:Post} {H:Value→Lc→AH→Prop}
theorem wo_next {b k i:Nat} {s:ByteArray} {l:Bytes} (hl:l = s.data.toList) (hg:lget lc b = some (.siter s (posn l i))) (hi:i < (spots l).length)
    (hq:H (.tuple (List.toArray [.bool true,.int .i64 (posn l i:Nat),.int .i32 ((spots l)[i]).1])) ((b,.siter s (posn l (i + 1))) :: lc) h):WpO p (.e (.nxtS (.s 0))) [.pointer (some ⟨b,0,some k⟩)] lc h H:=by
  obtain ⟨p1,p2,p3⟩:=posn_lt hi
  have hz:l.length = s.size:=by rw [hl]; rfl
  have hd:Utf8.decode s (posn l i) = (spots l)[i]:=by rw [decode_list s _ (by omega),← hl,p2]
  refine wo_next_more hg (by omega) ?_
  rw [hd,← posn_succ hi]
  exact hq
theorem wo_nextE {b k:Nat} {s:ByteArray} {l:Bytes} (hl:l = s.data.toList) (hg:lget lc b = some (.siter s l.length)) (hq:H (.tuple (List.toArray [.bool false])) lc h):WpO p (.e (.nxtS (.s 0))) [.pointer (some ⟨b,0,some k⟩)] lc h H :=
  wo_next_end hg (by have hz:l.length = s.size:=by rw [hl]; rfl
                     omega) hq
def setL:Lc→Nat→AObj→Lc
  | [],_,_=>[]
  | (k,v) :: r,n,x=>if k = n then (k,x) :: r else (k,v) :: setL r n x
attribute [push_cast] setL
theorem wp_spots {β:Type} {n:Nat} {keep:List Nat} {sts:List St} {b:LCode} {L:Nat→Lc} {F:Int→Fr} (k:Option Nat) (K:Nat) (s:ByteArray) (l:Bytes) (J:AH→Prop) (g:Nat→Nat × Nat→Option β) (hl:l = s.data.toList)
    (hF:∀ m:Int,(match k with | some k=>setF fr k (.int .i64 m) | none=>fr) = F m) (hf0:AgF (F 0) fr) (hk:∀ m:Int,okS keep ((F m).map (·.1)) n sts = true) (hL:∀ n,setL lc K (.siter s n) = L n) (h0:lc = L 0) (hJ:J h)
    (more:∀ i (hi:i < (spots l).length) h,J h→(∀ w,g i (spots l)[i] = some w→scanL (spots l) g = some w) →
      WpS p keep sts (F i) (L (posn l i)) h (thenQ p b (loopQ (fun fr' lc' h'=>g i (spots l)[i] = none∧AgF (F ((i:Int) + 1)) fr'∧lc' = L (posn l (i + 1))∧J h') Q) .norm))
    (fin:∀ h,J h→scanL (spots l) g = none→WpS p keep sts (F (spots l).length) (L l.length) h (thenQ p b (loopQ (fun _ _ _=>False) Q) .norm)):Wp p (.loop (.seq (R n keep sts) b)) fr lc h Q:=by
  refine wp_scanL (spots l) g (fun i fr lc' h=>AgF (F i) fr∧lc' = L (posn l i)∧J h) ⟨hf0,by rw [posn_zero]; exact h0,hJ⟩ ?_ ?_
  · rintro fr _ h ⟨ha,rfl,hj⟩ fn
    rw [posn_all]
    exact wp_seq (wp_RA ha (hk _) (fin h hj fn))
  · rintro i hi fr _ h ⟨ha,rfl,hj⟩ hit
    refine wp_mono (wp_seq (wp_RA ha (hk _) (more i hi h hj hit))) fun ex fr lc h hq=>?_
    have hq:=hq.out
    cases ex with
    | norm=>exact ⟨⟨hq.1,by rw [show ((i + 1:Nat):Int) = (i:Int) + 1 by omega]; exact hq.2.1,hq.2.2.1,hq.2.2.2⟩⟩
    | exit j=>exact ⟨hq⟩
    | ret=>exact ⟨hq⟩
theorem wp_loopB {n:Nat} {keep:List Nat} {sts:List St} {c b:LCode} (I:Nat→Fr→Lc→AH→Prop) (w:Nat) (f0:Fr) (ha:AgF f0 fr) (h0:I w f0 lc h) (hk:∀ w f0 lc h,I w f0 lc h→okS keep (f0.map (·.1)) n sts = true)
    (step:∀ w f0 lc h,I w f0 lc h→WpS p keep sts f0 lc h (thenQ p c (thenQ p b (loopQ (fun fr lc h => ∃ w',w' < w∧∃ f1,AgF f1 fr∧I w' f1 lc h) Q)) .norm)):Wp p (.loop (.seq (.seq (R n keep sts) c) b)) fr lc h Q:=by
  refine wp_loop (fun w fr lc h => ∃ f0,AgF f0 fr∧I w f0 lc h) w ⟨f0,ha,h0⟩ ?_
  rintro w fr lc h ⟨f0,ha,hI⟩
  exact wp_seq (wp_seq (wp_RA ha (hk _ _ _ _ hI) (step w f0 lc h hI)))
end
end Go.Proofs.YtakmapoompffgaaGreatDoor.AM
