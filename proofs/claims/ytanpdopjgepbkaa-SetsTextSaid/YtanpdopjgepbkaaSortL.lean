/- The library's sort as it lies in this program. -/
import Derived.Test.YtanpdopjgepbkaaCmpB
import Derived.Shelf.SlSortCmp.NoneTotal
set_option linter.unusedVariables false
namespace Go.Proofs.Ytanpdopjgepbkaa.AM
open Go Go.Shelf Go.RowKit Go.Lib Go.Sort

def sortRen : Ren where
  f := fun n => match n with
    | 6 => 87 | 14 => 93 | 15 => 94 | 20 => 95 | 21 => 96 | 22 => 97 | 23 => 98 | 24 => 99 | 25 => 100 | 26 => 101 | 27 => 102 | 28 => 103 | 29 => 104 | 46 => 105 | 47 => 106 | 48 => 107 | 49 => 108 | 50 => 109 | 57 => 110 | _ => 0
  t := fun n => match n with
    | 0 => 0 | 3 => 3 | 4 => 4 | 5 => 5 | 9 => 9 | 22 => 90 | 24 => 94 | 25 => 120 | 39 => 124 | 45 => 128 | 46 => 129 | 50 => 114 | 53 => 51 | 55 => 136 | 66 => 137 | 70 => 141 | 76 => 143 | 77 => 60 | _ => 0
  g := fun n => n

theorem srt_f6 : Bears Try.prog 87 (SlBodyF.n6 sortRen) := ⟨Try.f87.name, by decide, Try.func87.trans (by kernel_rfl)⟩
theorem srt_f14 : Bears Try.prog 93 (SlBodyF.n14 sortRen) := ⟨Try.f93.name, by decide, Try.func93.trans (by kernel_rfl)⟩
theorem srt_f15 : Try.prog.funcs[94]? = some (SlBodyF.n15 sortRen) := Try.func94.trans (by kernel_rfl)
theorem srt_f20 : Bears Try.prog 95 (SlBodyF.n20 sortRen) := ⟨Try.f95.name, by decide, Try.func95.trans (by kernel_rfl)⟩
theorem srt_f21 : Bears Try.prog 96 (SlBodyF.n21 sortRen) := ⟨Try.f96.name, by decide, Try.func96.trans (by kernel_rfl)⟩
theorem srt_f22 : Bears Try.prog 97 (SlBodyF.n22 sortRen) := ⟨Try.f97.name, by decide, Try.func97.trans (by kernel_rfl)⟩
theorem srt_f23 : Bears Try.prog 98 (SlBodyF.n23 sortRen) := ⟨Try.f98.name, by decide, Try.func98.trans (by kernel_rfl)⟩
theorem srt_f24 : Bears Try.prog 99 (SlBodyF.n24 sortRen) := ⟨Try.f99.name, by decide, Try.func99.trans (by kernel_rfl)⟩
theorem srt_f25 : Bears Try.prog 100 (SlBodyF.n25 sortRen) := ⟨Try.f100.name, by decide, Try.func100.trans (by kernel_rfl)⟩
theorem srt_f26 : Bears Try.prog 101 (SlBodyF.n26 sortRen) := ⟨Try.f101.name, by decide, Try.func101.trans (by kernel_rfl)⟩
theorem srt_f27 : Bears Try.prog 102 (SlBodyF.n27 sortRen) := ⟨Try.f102.name, by decide, Try.func102.trans (by kernel_rfl)⟩
theorem srt_f28 : Try.prog.funcs[103]? = some (SlBodyF.n28 sortRen) := Try.func103.trans (by kernel_rfl)
theorem srt_f29 : Try.prog.funcs[104]? = some (SlBodyF.n29 sortRen) := Try.func104.trans (by kernel_rfl)
theorem srt_f46 : Bears Try.prog 105 (SlBodyF.n46 sortRen) := ⟨Try.f105.name, by decide, Try.func105.trans (by kernel_rfl)⟩
theorem srt_f47 : Try.prog.funcs[106]? = some (SlBodyF.n47 sortRen) := Try.func106.trans (by kernel_rfl)
theorem srt_f48 : Try.prog.funcs[107]? = some (SlBodyF.n48 sortRen) := Try.func107.trans (by kernel_rfl)
theorem srt_f49 : Bears Try.prog 108 (SlBodyF.n49 sortRen) := ⟨Try.f108.name, by decide, Try.func108.trans (by kernel_rfl)⟩
theorem srt_f50 : Bears Try.prog 109 (SlBodyF.n50 sortRen) := ⟨Try.f109.name, by decide, Try.func109.trans (by kernel_rfl)⟩
theorem srt_f57 : Bears Try.prog 110 (SlBodyF.n57 sortRen) := ⟨Try.f110.name, by decide, Try.func110.trans (by kernel_rfl)⟩

theorem sortLays : SlLaysF0.n6 Try.prog sortRen where
  mixed := by kernel_rfl
  f6 := srt_f6
  f14 := srt_f14
  f15 := srt_f15
  f20 := srt_f20
  f21 := srt_f21
  f22 := srt_f22
  f23 := srt_f23
  f24 := srt_f24
  f25 := srt_f25
  f26 := srt_f26
  f27 := srt_f27
  f28 := srt_f28
  f29 := srt_f29
  f46 := srt_f46
  f47 := srt_f47
  f48 := srt_f48
  f49 := srt_f49
  f50 := srt_f50
  f57 := srt_f57
  t0 := Try.underlying0
  a0 := fun w => by kernel_rfl
  z0 := fun w => by kernel_rfl
  v0 := fun w => by kernel_rfl
  t3 := Try.underlying3
  a3 := fun w => by kernel_rfl
  z3 := fun w => by kernel_rfl
  v3 := fun w => by kernel_rfl
  t4 := Try.underlying4
  a4 := fun w => by kernel_rfl
  z4 := fun w => by kernel_rfl
  v4 := fun w => by kernel_rfl
  t5 := Try.underlying5
  a5 := fun w => by kernel_rfl
  z5 := fun w => by kernel_rfl
  v5 := fun w => by kernel_rfl
  t9 := Try.underlying9
  a9 := fun w => by kernel_rfl
  z9 := fun w => by kernel_rfl
  v9 := fun w => by kernel_rfl
  t22 := Try.underlying90
  a22 := fun w => by kernel_rfl
  z22 := fun w => by kernel_rfl
  v22 := fun w => by kernel_rfl
  t25 := Try.underlying120
  a25 := fun w => by kernel_rfl
  z25 := fun w => by kernel_rfl
  v25 := fun w => by kernel_rfl
  t39 := Try.underlying124
  a39 := fun w => by kernel_rfl
  z39 := fun w => by kernel_rfl
  v39 := fun w => by kernel_rfl
  t45 := Try.underlying128
  a45 := fun w => by kernel_rfl
  z45 := fun w => by kernel_rfl
  v45 := fun w => by kernel_rfl
  t46 := Try.underlying129
  a46 := fun w => by kernel_rfl
  z46 := fun w => by kernel_rfl
  v46 := fun w => by kernel_rfl
  t50 := Try.underlying114
  a50 := fun w => by kernel_rfl
  z50 := fun w => by kernel_rfl
  v50 := fun w => by kernel_rfl
  t53 := Try.underlying51
  a53 := fun w => by kernel_rfl
  z53 := fun w => by kernel_rfl
  v53 := fun w => by kernel_rfl
  t55 := Try.underlying136
  a55 := fun w => by kernel_rfl
  z55 := fun w => by kernel_rfl
  v55 := fun w => by kernel_rfl
  t66 := Try.underlying137
  a66 := fun w => by kernel_rfl
  z66 := fun w => by kernel_rfl
  v66 := fun w => by kernel_rfl
  t70 := Try.underlying141
  a70 := fun w => by kernel_rfl
  z70 := fun w => by kernel_rfl
  v70 := fun w => by kernel_rfl
  t76 := Try.underlying143
  a76 := fun w => by kernel_rfl
  z76 := fun w => by kernel_rfl
  v76 := fun w => by kernel_rfl
  t77 := Try.underlying60
  a77 := fun w => by kernel_rfl
  z77 := fun w => by kernel_rfl
  v77 := fun w => by kernel_rfl

end Go.Proofs.Ytanpdopjgepbkaa.AM
