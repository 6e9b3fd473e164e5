import Derived.Test.YtccjhmhkfnnmaaaGreatCodeMayTouch
import Derived.Test.YtccjhmhkfnnmaaaGreatAmShelf2
set_option linter.unusedVariables false
set_option linter.unusedSimpArgs false
namespace Go.Proofs.YtccjhmhkfnnmaaaGreat
open Go.AM Go.Shelf Go.Sort
def lay189_ren : Ren := ⟨fun | 189 => 106 | 125 => 185 | 257 => 184 | 128 => 263 | 129 => 264 | 294 => 254 | 295 => 255 | 296 => 256 | 297 => 257 | 298 => 258 | 299 => 259 | 216 => 260 | 300 => 261 | 301 => 262 | 328 => 311 | 329 => 312 | 330 => 313 | 331 => 314 | 332 => 315 | 215 => 316 | 343 => 326 | n => n, fun | 28 => 75 | 3 => 3 | 46 => 227 | 0 => 0 | 51 => 288 | 53 => 290 | 4 => 4 | 183 => 280 | 182 => 279 | 131 => 285 | 5 => 5 | 9 => 9 | 218 => 323 | 222 => 327 | 228 => 336 | 229 => 337 | n => n, fun | n => n⟩
theorem lay189 : Lays.n189 Tryz.prog lay189_ren := {
  mixed := by kernel_rfl
  f125 := Tryz.func185.trans (congrArg some (by kernel_rfl))
  f128 := Tryz.func263.trans (congrArg some (by kernel_rfl))
  f129 := Tryz.func264.trans (congrArg some (by kernel_rfl))
  f189 := Tryz.func106.trans (congrArg some (by kernel_rfl))
  f215 := Tryz.func316.trans (congrArg some (by kernel_rfl))
  f216 := Tryz.func260.trans (congrArg some (by kernel_rfl))
  f257 := Tryz.func184.trans (congrArg some (by kernel_rfl))
  f294 := Tryz.func254.trans (congrArg some (by kernel_rfl))
  f295 := Tryz.func255.trans (congrArg some (by kernel_rfl))
  f296 := Tryz.func256.trans (congrArg some (by kernel_rfl))
  f297 := Tryz.func257.trans (congrArg some (by kernel_rfl))
  f298 := Tryz.func258.trans (congrArg some (by kernel_rfl))
  f299 := Tryz.func259.trans (congrArg some (by kernel_rfl))
  f300 := Tryz.func261.trans (congrArg some (by kernel_rfl))
  f301 := Tryz.func262.trans (congrArg some (by kernel_rfl))
  f328 := Tryz.func311.trans (congrArg some (by kernel_rfl))
  f329 := Tryz.func312.trans (congrArg some (by kernel_rfl))
  f330 := Tryz.func313.trans (congrArg some (by kernel_rfl))
  f331 := Tryz.func314.trans (congrArg some (by kernel_rfl))
  f332 := Tryz.func315.trans (congrArg some (by kernel_rfl))
  f343 := Tryz.func326.trans (congrArg some (by kernel_rfl))
  t0 := Tryz.underlying0
  a0 := Tryz.isAgg0
  z0 := Tryz.sizeOf0
  v0 := Tryz.zeroValue0
  t3 := Tryz.underlying3
  a3 := Tryz.isAgg3
  z3 := Tryz.sizeOf3
  v3 := Tryz.zeroValue3
  t4 := Tryz.underlying4
  a4 := Tryz.isAgg4
  z4 := Tryz.sizeOf4
  v4 := Tryz.zeroValue4
  t5 := Tryz.underlying5
  a5 := Tryz.isAgg5
  z5 := Tryz.sizeOf5
  v5 := Tryz.zeroValue5
  t9 := Tryz.underlying9
  a9 := Tryz.isAgg9
  z9 := Tryz.sizeOf9
  v9 := Tryz.zeroValue9
  t28 := Tryz.underlying75
  a28 := Tryz.isAgg75
  z28 := Tryz.sizeOf75
  v28 := Tryz.zeroValue75
  t46 := Tryz.underlying227
  a46 := Tryz.isAgg227
  z46 := Tryz.sizeOf227
  v46 := Tryz.zeroValue227
  t51 := Tryz.underlying288
  a51 := Tryz.isAgg288
  z51 := Tryz.sizeOf288
  v51 := Tryz.zeroValue288
  t53 := Tryz.underlying290
  a53 := Tryz.isAgg290
  z53 := Tryz.sizeOf290
  v53 := Tryz.zeroValue290
  t131 := Tryz.underlying285
  a131 := Tryz.isAgg285
  z131 := Tryz.sizeOf285
  v131 := Tryz.zeroValue285
  t182 := Tryz.underlying279
  a182 := Tryz.isAgg279
  z182 := Tryz.sizeOf279
  v182 := Tryz.zeroValue279
  t183 := Tryz.underlying280
  a183 := Tryz.isAgg280
  z183 := Tryz.sizeOf280
  v183 := Tryz.zeroValue280
  t218 := Tryz.underlying323
  a218 := Tryz.isAgg323
  z218 := Tryz.sizeOf323
  v218 := Tryz.zeroValue323
  t222 := Tryz.underlying327
  a222 := Tryz.isAgg327
  z222 := Tryz.sizeOf327
  v222 := Tryz.zeroValue327
  t228 := Tryz.underlying336
  a228 := Tryz.isAgg336
  z228 := Tryz.sizeOf336
  v228 := Tryz.zeroValue336
  t229 := Tryz.underlying337
  a229 := Tryz.isAgg337
  z229 := Tryz.sizeOf337
  v229 := Tryz.zeroValue337 }
def lay20_ren : Ren := ⟨fun | 20 => 107 | n => n, fun | 22 => 75 | 3 => 3 | 4 => 4 | 0 => 0 | n => n, fun | n => n⟩
theorem lay20 : Lays2.n20 Tryz.prog lay20_ren := {
  mixed := by kernel_rfl
  f20 := Tryz.func107.trans (congrArg some (by kernel_rfl))
  t0 := Tryz.underlying0
  a0 := Tryz.isAgg0
  z0 := Tryz.sizeOf0
  v0 := Tryz.zeroValue0
  t3 := Tryz.underlying3
  a3 := Tryz.isAgg3
  z3 := Tryz.sizeOf3
  v3 := Tryz.zeroValue3
  t4 := Tryz.underlying4
  a4 := Tryz.isAgg4
  z4 := Tryz.sizeOf4
  v4 := Tryz.zeroValue4
  t22 := Tryz.underlying75
  a22 := Tryz.isAgg75
  z22 := Tryz.sizeOf75
  v22 := Tryz.zeroValue75
  i3 := by kernel_rfl }
variable {Γ : Glob} {H : AH}
theorem slices_Sort_T {v : AV} {zs : List Int} {fp : List Nat} (hz : zs.length < 4611686018427387904) (o : Own H v (.sl 1 (idata zs)) fp) :
    T Tryz.prog Γ Fn.kbz [v] H fun r h' => r = .tup [] ∧ Own h' v (.sl 1 (idata (srt zs))) fp ∧ h'.length = H.length ∧ ∀ c, c ∉ fp → h'[c]? = H[c]? :=
  sort_own lay189 ⟨Tryz.f106, bodyOf Tryz.f106, Tryz.func106, by kernel_rfl, by kernel_rfl⟩ hz o
theorem slices_Compact_T {v : AV} {zs : List Int} {fp : List Nat} (hz : zs.length ≤ 9223372036854775807) (o : Own H v (.sl 1 (idata zs)) fp) :
    T Tryz.prog Γ Fn.kbx [v] H fun r h' => Own h' r (.sl 1 (idata (Lib.compact zs))) fp ∧ h'.length = H.length ∧ ∀ c, c ∉ fp → h'[c]? = H[c]? :=
  compact_own lay20 ⟨Tryz.f107, bodyOf Tryz.f107, Tryz.func107, by kernel_rfl, by kernel_rfl⟩ hz o
end Go.Proofs.YtccjhmhkfnnmaaaGreat
