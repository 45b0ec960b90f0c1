/-
  DERIVED: THE SHELF's CONTRACTS AT THIS DUMP, IN PLAIN WORDS (tools/lay-plain.mjs out of 'YtbagliaelolhcaaShelfS.lean', which tools/lay-shelf.mjs wrote): THE SAME DECLARATIONS UNDER THE SAME NAMES: 'import', 'namespace', 'open', 'def', 'theorem' AND NOTHING ELSE: no command of the shelf's: FOR A HAND-IN. Each laying: the table of numbers ('.._ren') and one theorem, a field a fact of the dump's own or the kernel's comparison; each contract: ONE APPLICATION.
-/
import Derived.Test.YtbagliaelolhcaaProg
import Derived.Shelf.Sort.Plain
namespace Go.Proofs
open Go.Shelf
def Try.lays189_ren : Go.Shelf.Ren := ⟨fun | 189 => 154 | 125 => 176 | 257 => 175 | 128 => 193 | 129 => 194 | 294 => 184 | 295 => 185 | 296 => 186 | 297 => 187 | 298 => 188 | 299 => 189 | 216 => 190 | 300 => 191 | 301 => 192 | 328 => 196 | 329 => 197 | 330 => 198 | 331 => 199 | 332 => 200 | 215 => 159 | 343 => 202 | n => n, fun | 28 => 37 | 3 => 3 | 46 => 163 | 0 => 0 | 51 => 176 | 53 => 121 | 4 => 4 | 183 => 170 | 182 => 169 | 131 => 24 | 5 => 5 | 9 => 9 | 218 => 178 | 222 => 182 | 228 => 184 | 229 => 130 | n => n, fun | n => n⟩
theorem Try.lays189 : Go.Proofs.Lays.n189 Try.prog Try.lays189_ren := {
  mixed := by kernel_rfl
  f125 := Try.func176.trans (congrArg some (by kernel_rfl))
  f128 := Try.func193.trans (congrArg some (by kernel_rfl))
  f129 := Try.func194.trans (congrArg some (by kernel_rfl))
  f189 := Try.func154.trans (congrArg some (by kernel_rfl))
  f215 := Try.func159.trans (congrArg some (by kernel_rfl))
  f216 := Try.func190.trans (congrArg some (by kernel_rfl))
  f257 := Try.func175.trans (congrArg some (by kernel_rfl))
  f294 := Try.func184.trans (congrArg some (by kernel_rfl))
  f295 := Try.func185.trans (congrArg some (by kernel_rfl))
  f296 := Try.func186.trans (congrArg some (by kernel_rfl))
  f297 := Try.func187.trans (congrArg some (by kernel_rfl))
  f298 := Try.func188.trans (congrArg some (by kernel_rfl))
  f299 := Try.func189.trans (congrArg some (by kernel_rfl))
  f300 := Try.func191.trans (congrArg some (by kernel_rfl))
  f301 := Try.func192.trans (congrArg some (by kernel_rfl))
  f328 := Try.func196.trans (congrArg some (by kernel_rfl))
  f329 := Try.func197.trans (congrArg some (by kernel_rfl))
  f330 := Try.func198.trans (congrArg some (by kernel_rfl))
  f331 := Try.func199.trans (congrArg some (by kernel_rfl))
  f332 := Try.func200.trans (congrArg some (by kernel_rfl))
  f343 := Try.func202.trans (congrArg some (by kernel_rfl))
  t0 := Try.underlying0
  a0 := Try.isAgg0
  z0 := Try.sizeOf0
  v0 := Try.zeroValue0
  t3 := Try.underlying3
  a3 := Try.isAgg3
  z3 := Try.sizeOf3
  v3 := Try.zeroValue3
  t4 := Try.underlying4
  a4 := Try.isAgg4
  z4 := Try.sizeOf4
  v4 := Try.zeroValue4
  t5 := Try.underlying5
  a5 := Try.isAgg5
  z5 := Try.sizeOf5
  v5 := Try.zeroValue5
  t9 := Try.underlying9
  a9 := Try.isAgg9
  z9 := Try.sizeOf9
  v9 := Try.zeroValue9
  t28 := Try.underlying37
  a28 := Try.isAgg37
  z28 := Try.sizeOf37
  v28 := Try.zeroValue37
  t46 := Try.underlying163
  a46 := Try.isAgg163
  z46 := Try.sizeOf163
  v46 := Try.zeroValue163
  t51 := Try.underlying176
  a51 := Try.isAgg176
  z51 := Try.sizeOf176
  v51 := Try.zeroValue176
  t53 := Try.underlying121
  a53 := Try.isAgg121
  z53 := Try.sizeOf121
  v53 := Try.zeroValue121
  t131 := Try.underlying24
  a131 := Try.isAgg24
  z131 := Try.sizeOf24
  v131 := Try.zeroValue24
  t182 := Try.underlying169
  a182 := Try.isAgg169
  z182 := Try.sizeOf169
  v182 := Try.zeroValue169
  t183 := Try.underlying170
  a183 := Try.isAgg170
  z183 := Try.sizeOf170
  v183 := Try.zeroValue170
  t218 := Try.underlying178
  a218 := Try.isAgg178
  z218 := Try.sizeOf178
  v218 := Try.zeroValue178
  t222 := Try.underlying182
  a222 := Try.isAgg182
  z222 := Try.sizeOf182
  v222 := Try.zeroValue182
  t228 := Try.underlying184
  a228 := Try.isAgg184
  z228 := Try.sizeOf184
  v228 := Try.zeroValue184
  t229 := Try.underlying130
  a229 := Try.isAgg130
  z229 := Try.sizeOf130
  v229 := Try.zeroValue130 }
end Go.Proofs
