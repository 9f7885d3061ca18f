/- Decode, whatever the parameters. -/
import Derived.Test.YtmfpkgcphlilmaaBootJ
import Derived.Test.YtmfpkgcphlilmaaBootI
set_option linter.unusedVariables false
set_option linter.unusedSimpArgs false
namespace Go.Proofs.Ytmfpkgcphlilmaa.AM
open Go

/-- Decode, whatever the parameters. -/
theorem decode_all (b l hi s d i f : Int) (hb : -9223372036854775808 ≤ b ∧ b < 9223372036854775808) (hf : -2147483648 ≤ f ∧ f < 2147483648) (x : ByteArray) (hx : x.size < 100000000000000) (h : AH) :
    ∃ r h', callO PX 17 [.agg (bpV b l hi s d i f).toArray, .string x] h = some (decV r, h') ∧ h.n ≤ h'.n ∧ (∀ b, b < h.n → h'.get b = h.get b) ∧
      (¬ RightI b l hi s d i f → r = .bad 0 1) ∧ ∀ p : BP, p.Ok → (b = p.base ∧ l = p.low ∧ hi = p.high ∧ s = p.skew ∧ d = p.damp ∧ i = p.bias ∧ f = p.first) → decF p x.data.toList = r := by
  by_cases hr : RightI b l hi s d i f
  · obtain ⟨p, ok, rfl, rfl, rfl, rfl, rfl, rfl, rfl⟩ := ok_rightI hr
    obtain ⟨v, h', e1, rfl, e3, e4⟩ := decode_spec ok x hx h
    refine ⟨_, h', e1, e3, e4, fun hn => absurd hr hn, fun q _ hq => ?_⟩
    obtain ⟨b, l, hi, s, d, i, f⟩ := p
    obtain ⟨b', l', hi', s', d', i', f'⟩ := q
    simp only [Int.natCast_inj] at hq
    obtain ⟨rfl, rfl, rfl, rfl, rfl, rfl, rfl⟩ := hq
    rfl
  · refine ⟨.bad 0 1, h, decode_wrong b l hi s d i f hb hf hr x hx h, Nat.le_refl _, fun _ _ => rfl, fun _ => rfl, fun p ok hq => ?_⟩
    obtain ⟨rfl, rfl, rfl, rfl, rfl, rfl, rfl⟩ := hq
    exact absurd (rightI_ok ok) hr

theorem mk_inj {a b : Bytes} : (⟨a.toArray⟩ : ByteArray) = ⟨b.toArray⟩ ↔ a = b :=
  ⟨fun h => congrArg (fun x : ByteArray => x.data.toList) h, fun h => by rw [h]⟩

end Go.Proofs.Ytmfpkgcphlilmaa.AM
