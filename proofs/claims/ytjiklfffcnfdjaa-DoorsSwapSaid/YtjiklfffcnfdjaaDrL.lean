/- The library's contracts, laid at this program's numbers. -/
import Derived.Shelf.SlGeneric
import Derived.Shelf.SlicesQ.IndexFunc
import Derived.Shelf.SlSortCmp.WholeK
import Derived.Shelf.SlSortCmp.NoneTotal
import Derived.Ground.SlsfProg
import Derived.Ground.SlgfProg
import Derived.Test.YtjiklfffcnfdjaaProg
namespace Go.Proofs
open Go.Shelf
def Try.lSortDr_ren : Go.Shelf.Ren := ⟨fun | 6 => 99 | 15 => 156 | 14 => 155 | 28 => 192 | 29 => 193 | 20 => 184 | 21 => 185 | 22 => 186 | 23 => 187 | 24 => 188 | 25 => 189 | 26 => 190 | 27 => 191 | 46 => 216 | 47 => 217 | 48 => 218 | 49 => 219 | 50 => 220 | 57 => 227 | n => n, fun | 22 => 30 | 24 => 35 | 25 => 180 | 3 => 3 | 39 => 160 | 0 => 0 | 53 => 287 | 55 => 289 | 4 => 4 | 46 => 281 | 45 => 280 | 50 => 69 | 5 => 5 | 9 => 9 | 66 => 310 | 70 => 314 | 76 => 323 | 77 => 269 | n => n, fun | n => n⟩
theorem Try.lSortDr : Go.Proofs.SlLaysF0.n6 Try.prog Try.lSortDr_ren := {
  mixed := by kernel_rfl
  f6 := ⟨Try.f99.name, by decide, Try.func99.trans (congrArg some (by kernel_rfl))⟩
  f14 := ⟨Try.f155.name, by decide, Try.func155.trans (congrArg some (by kernel_rfl))⟩
  f15 := Try.func156.trans (congrArg some (by kernel_rfl))
  f20 := ⟨Try.f184.name, by decide, Try.func184.trans (congrArg some (by kernel_rfl))⟩
  f21 := ⟨Try.f185.name, by decide, Try.func185.trans (congrArg some (by kernel_rfl))⟩
  f22 := ⟨Try.f186.name, by decide, Try.func186.trans (congrArg some (by kernel_rfl))⟩
  f23 := ⟨Try.f187.name, by decide, Try.func187.trans (congrArg some (by kernel_rfl))⟩
  f24 := ⟨Try.f188.name, by decide, Try.func188.trans (congrArg some (by kernel_rfl))⟩
  f25 := ⟨Try.f189.name, by decide, Try.func189.trans (congrArg some (by kernel_rfl))⟩
  f26 := ⟨Try.f190.name, by decide, Try.func190.trans (congrArg some (by kernel_rfl))⟩
  f27 := ⟨Try.f191.name, by decide, Try.func191.trans (congrArg some (by kernel_rfl))⟩
  f28 := Try.func192.trans (congrArg some (by kernel_rfl))
  f29 := Try.func193.trans (congrArg some (by kernel_rfl))
  f46 := ⟨Try.f216.name, by decide, Try.func216.trans (congrArg some (by kernel_rfl))⟩
  f47 := Try.func217.trans (congrArg some (by kernel_rfl))
  f48 := Try.func218.trans (congrArg some (by kernel_rfl))
  f49 := ⟨Try.f219.name, by decide, Try.func219.trans (congrArg some (by kernel_rfl))⟩
  f50 := ⟨Try.f220.name, by decide, Try.func220.trans (congrArg some (by kernel_rfl))⟩
  f57 := ⟨Try.f227.name, by decide, Try.func227.trans (congrArg some (by kernel_rfl))⟩
  t0 := Try.underlying0
  a0 := Try.isAgg0
  z0 := Try.sizeOf0
  v0 := Try.zeroValue0
  t3 := Try.underlying3
  a3 := Try.isAgg3
  z3 := Try.sizeOf3
  v3 := Try.zeroValue3
  t4 := Try.underlying4
  a4 := Try.isAgg4
  z4 := Try.sizeOf4
  v4 := Try.zeroValue4
  t5 := Try.underlying5
  a5 := Try.isAgg5
  z5 := Try.sizeOf5
  v5 := Try.zeroValue5
  t9 := Try.underlying9
  a9 := Try.isAgg9
  z9 := Try.sizeOf9
  v9 := Try.zeroValue9
  t22 := Try.underlying30
  a22 := Try.isAgg30
  z22 := Try.sizeOf30
  v22 := Try.zeroValue30
  t25 := Try.underlying180
  a25 := Try.isAgg180
  z25 := Try.sizeOf180
  v25 := Try.zeroValue180
  t39 := Try.underlying160
  a39 := Try.isAgg160
  z39 := Try.sizeOf160
  v39 := Try.zeroValue160
  t45 := Try.underlying280
  a45 := Try.isAgg280
  z45 := Try.sizeOf280
  v45 := Try.zeroValue280
  t46 := Try.underlying281
  a46 := Try.isAgg281
  z46 := Try.sizeOf281
  v46 := Try.zeroValue281
  t50 := Try.underlying69
  a50 := Try.isAgg69
  z50 := Try.sizeOf69
  v50 := Try.zeroValue69
  t53 := Try.underlying287
  a53 := Try.isAgg287
  z53 := Try.sizeOf287
  v53 := Try.zeroValue287
  t55 := Try.underlying289
  a55 := Try.isAgg289
  z55 := Try.sizeOf289
  v55 := Try.zeroValue289
  t66 := Try.underlying310
  a66 := Try.isAgg310
  z66 := Try.sizeOf310
  v66 := Try.zeroValue310
  t70 := Try.underlying314
  a70 := Try.isAgg314
  z70 := Try.sizeOf314
  v70 := Try.zeroValue314
  t76 := Try.underlying323
  a76 := Try.isAgg323
  z76 := Try.sizeOf323
  v76 := Try.zeroValue323
  t77 := Try.underlying269
  a77 := Try.isAgg269
  z77 := Try.sizeOf269
  v77 := Try.zeroValue269 }
def Try.lContRct_ren : Go.Shelf.Ren := ⟨fun | 8 => 97 | 6 => 154 | n => n, fun | 22 => 89 | 23 => 26 | 25 => 177 | 4 => 4 | 3 => 3 | 0 => 0 | n => n, fun | n => n⟩
theorem Try.lContRct : Go.Proofs.SlLaysH0.n8 Try.prog Try.lContRct_ren := {
  mixed := by kernel_rfl
  f6 := ⟨Try.f154.name, by decide, Try.func154.trans (congrArg some (by kernel_rfl))⟩
  f8 := ⟨Try.f97.name, by decide, Try.func97.trans (congrArg some (by kernel_rfl))⟩
  t0 := Try.underlying0
  a0 := Try.isAgg0
  z0 := Try.sizeOf0
  v0 := Try.zeroValue0
  t3 := Try.underlying3
  a3 := Try.isAgg3
  z3 := Try.sizeOf3
  v3 := Try.zeroValue3
  t4 := Try.underlying4
  a4 := Try.isAgg4
  z4 := Try.sizeOf4
  v4 := Try.zeroValue4
  t22 := Try.underlying89
  a22 := Try.isAgg89
  z22 := Try.sizeOf89
  v22 := Try.zeroValue89
  t25 := Try.underlying177
  a25 := Try.isAgg177
  z25 := Try.sizeOf177
  v25 := Try.zeroValue177 }
end Go.Proofs
