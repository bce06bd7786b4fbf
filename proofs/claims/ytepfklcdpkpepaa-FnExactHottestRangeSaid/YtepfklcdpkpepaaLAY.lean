/- What the shelf lays here for its contract 189: a table of numbers and one fact a field. -/
import Derived.Shelf.Sort.Plain
import Derived.Test.YtepfklcdpkpepaaProg
import Derived.KernelRfl
namespace Go.Proofs.Ytepfklcdpkpepaa
open Go Go.Shelf Go.Proofs
set_option maxRecDepth 100000
def lays189_ren : Go.Shelf.Ren := ⟨fun | 189 => 140 | 125 => 170 | 257 => 169 | 128 => 189 | 129 => 190 | 294 => 180 | 295 => 181 | 296 => 182 | 297 => 183 | 298 => 184 | 299 => 185 | 216 => 186 | 300 => 187 | 301 => 188 | 328 => 201 | 329 => 202 | 330 => 203 | 331 => 204 | 332 => 205 | 215 => 176 | 343 => 210 | n => n, fun | 28 => 23 | 3 => 3 | 46 => 189 | 0 => 0 | 51 => 206 | 53 => 208 | 4 => 4 | 183 => 200 | 182 => 199 | 131 => 115 | 5 => 5 | 9 => 9 | 218 => 215 | 222 => 219 | 228 => 223 | 229 => 120 | n => n, fun | n => n⟩
theorem lays189 : Go.Proofs.Lays.n189 Try.prog lays189_ren := {
  mixed := by kernel_rfl
  f125 := Try.func170.trans (congrArg some (by kernel_rfl))
  f128 := Try.func189.trans (congrArg some (by kernel_rfl))
  f129 := Try.func190.trans (congrArg some (by kernel_rfl))
  f189 := Try.func140.trans (congrArg some (by kernel_rfl))
  f215 := Try.func176.trans (congrArg some (by kernel_rfl))
  f216 := Try.func186.trans (congrArg some (by kernel_rfl))
  f257 := Try.func169.trans (congrArg some (by kernel_rfl))
  f294 := Try.func180.trans (congrArg some (by kernel_rfl))
  f295 := Try.func181.trans (congrArg some (by kernel_rfl))
  f296 := Try.func182.trans (congrArg some (by kernel_rfl))
  f297 := Try.func183.trans (congrArg some (by kernel_rfl))
  f298 := Try.func184.trans (congrArg some (by kernel_rfl))
  f299 := Try.func185.trans (congrArg some (by kernel_rfl))
  f300 := Try.func187.trans (congrArg some (by kernel_rfl))
  f301 := Try.func188.trans (congrArg some (by kernel_rfl))
  f328 := Try.func201.trans (congrArg some (by kernel_rfl))
  f329 := Try.func202.trans (congrArg some (by kernel_rfl))
  f330 := Try.func203.trans (congrArg some (by kernel_rfl))
  f331 := Try.func204.trans (congrArg some (by kernel_rfl))
  f332 := Try.func205.trans (congrArg some (by kernel_rfl))
  f343 := Try.func210.trans (congrArg some (by kernel_rfl))
  t0 := Try.underlying0
  a0 := Try.isAgg0
  z0 := Try.sizeOf0
  v0 := Try.zeroValue0
  t3 := Try.underlying3
  a3 := Try.isAgg3
  z3 := Try.sizeOf3
  v3 := Try.zeroValue3
  t4 := Try.underlying4
  a4 := Try.isAgg4
  z4 := Try.sizeOf4
  v4 := Try.zeroValue4
  t5 := Try.underlying5
  a5 := Try.isAgg5
  z5 := Try.sizeOf5
  v5 := Try.zeroValue5
  t9 := Try.underlying9
  a9 := Try.isAgg9
  z9 := Try.sizeOf9
  v9 := Try.zeroValue9
  t28 := Try.underlying23
  a28 := Try.isAgg23
  z28 := Try.sizeOf23
  v28 := Try.zeroValue23
  t46 := Try.underlying189
  a46 := Try.isAgg189
  z46 := Try.sizeOf189
  v46 := Try.zeroValue189
  t51 := Try.underlying206
  a51 := Try.isAgg206
  z51 := Try.sizeOf206
  v51 := Try.zeroValue206
  t53 := Try.underlying208
  a53 := Try.isAgg208
  z53 := Try.sizeOf208
  v53 := Try.zeroValue208
  t131 := Try.underlying115
  a131 := Try.isAgg115
  z131 := Try.sizeOf115
  v131 := Try.zeroValue115
  t182 := Try.underlying199
  a182 := Try.isAgg199
  z182 := Try.sizeOf199
  v182 := Try.zeroValue199
  t183 := Try.underlying200
  a183 := Try.isAgg200
  z183 := Try.sizeOf200
  v183 := Try.zeroValue200
  t218 := Try.underlying215
  a218 := Try.isAgg215
  z218 := Try.sizeOf215
  v218 := Try.zeroValue215
  t222 := Try.underlying219
  a222 := Try.isAgg219
  z222 := Try.sizeOf219
  v222 := Try.zeroValue219
  t228 := Try.underlying223
  a228 := Try.isAgg223
  z228 := Try.sizeOf223
  v228 := Try.zeroValue223
  t229 := Try.underlying120
  a229 := Try.isAgg120
  z229 := Try.sizeOf120
  v229 := Try.zeroValue120 }
end Go.Proofs.Ytepfklcdpkpepaa
