import Derived.Test.YteaclamkacmhmaaDoorG13
import Derived.Shelf.SlSortCmp.WholeK
import Derived.Ground.SlsfProg
set_option maxRecDepth 100000
set_option linter.unusedSimpArgs false
set_option linter.unusedVariables false

namespace Go.Proofs
open Go.Shelf Go.RowKit Go.Lib Go.Sort
def Tryd.sortCe_ren:Go.Shelf.Ren:=⟨fun | 6=>89 | 15=>97 | 14=>96 | 28=>108 | 29=>109 | 20=>100 | 21=>101 | 22=>102 | 23=>103 | 24=>104 | 25=>105 | 26=>106 | 27=>107 | 46=>110 | 47=>111 | 48=>112 | 49=>113 | 50=>114 | 57=>115 | n=>n,fun | 22=>22 | 24=>58 | 25=>140 | 3=>3 | 39=>120 | 0=>0 | 53=>74 | 55=>154 | 4=>4 | 46=>148 | 45=>147 | 50=>98 | 5=>5 | 9=>9 | 66=>155 | 70=>159 | 76=>161 | 77=>162 | n=>n,fun | n=>n⟩
theorem Tryd.sortCe:Go.Proofs.SlLaysF0.n6 Tryd.prog Tryd.sortCe_ren where
 mixed:=by kernel_rfl
 f6:=⟨"slices.SortFunc[[]chartroom/api.Cell,chartroom/api.Cell]",by decide,Tryd.func89.trans (congrArg some (by kernel_rfl))⟩
 f14:=⟨"slices.pdqsortCmpFunc[chartroom/api.Cell]",by decide,Tryd.func96.trans (congrArg some (by kernel_rfl))⟩
 f15:=Tryd.func97.trans (congrArg some (by kernel_rfl))
 f20:=⟨"slices.insertionSortCmpFunc[chartroom/api.Cell]",by decide,Tryd.func100.trans (congrArg some (by kernel_rfl))⟩
 f21:=⟨"slices.heapSortCmpFunc[chartroom/api.Cell]",by decide,Tryd.func101.trans (congrArg some (by kernel_rfl))⟩
 f22:=⟨"slices.breakPatternsCmpFunc[chartroom/api.Cell]",by decide,Tryd.func102.trans (congrArg some (by kernel_rfl))⟩
 f23:=⟨"slices.choosePivotCmpFunc[chartroom/api.Cell]",by decide,Tryd.func103.trans (congrArg some (by kernel_rfl))⟩
 f24:=⟨"slices.reverseRangeCmpFunc[chartroom/api.Cell]",by decide,Tryd.func104.trans (congrArg some (by kernel_rfl))⟩
 f25:=⟨"slices.partialInsertionSortCmpFunc[chartroom/api.Cell]",by decide,Tryd.func105.trans (congrArg some (by kernel_rfl))⟩
 f26:=⟨"slices.partitionEqualCmpFunc[chartroom/api.Cell]",by decide,Tryd.func106.trans (congrArg some (by kernel_rfl))⟩
 f27:=⟨"slices.partitionCmpFunc[chartroom/api.Cell]",by decide,Tryd.func107.trans (congrArg some (by kernel_rfl))⟩
 f28:=Tryd.func108.trans (congrArg some (by kernel_rfl))
 f29:=Tryd.func109.trans (congrArg some (by kernel_rfl))
 f46:=⟨"slices.siftDownCmpFunc[chartroom/api.Cell]",by decide,Tryd.func110.trans (congrArg some (by kernel_rfl))⟩
 f47:=Tryd.func111.trans (congrArg some (by kernel_rfl))
 f48:=Tryd.func112.trans (congrArg some (by kernel_rfl))
 f49:=⟨"slices.medianAdjacentCmpFunc[chartroom/api.Cell]",by decide,Tryd.func113.trans (congrArg some (by kernel_rfl))⟩
 f50:=⟨"slices.medianCmpFunc[chartroom/api.Cell]",by decide,Tryd.func114.trans (congrArg some (by kernel_rfl))⟩
 f57:=⟨"slices.order2CmpFunc[chartroom/api.Cell]",by decide,Tryd.func115.trans (congrArg some (by kernel_rfl))⟩
 t0:=Tryd.underlying0
 a0:=Tryd.isAgg0
 z0:=Tryd.sizeOf0
 v0:=Tryd.zeroValue0
 t3:=Tryd.underlying3
 a3:=Tryd.isAgg3
 z3:=Tryd.sizeOf3
 v3:=Tryd.zeroValue3
 t4:=Tryd.underlying4
 a4:=Tryd.isAgg4
 z4:=Tryd.sizeOf4
 v4:=Tryd.zeroValue4
 t5:=Tryd.underlying5
 a5:=Tryd.isAgg5
 z5:=Tryd.sizeOf5
 v5:=Tryd.zeroValue5
 t9:=Tryd.underlying9
 a9:=Tryd.isAgg9
 z9:=Tryd.sizeOf9
 v9:=Tryd.zeroValue9
 t22:=Tryd.underlying22
 a22:=Tryd.isAgg22
 z22:=Tryd.sizeOf22
 v22:=Tryd.zeroValue22
 t25:=Tryd.underlying140
 a25:=Tryd.isAgg140
 z25:=Tryd.sizeOf140
 v25:=Tryd.zeroValue140
 t39:=Tryd.underlying120
 a39:=Tryd.isAgg120
 z39:=Tryd.sizeOf120
 v39:=Tryd.zeroValue120
 t45:=Tryd.underlying147
 a45:=Tryd.isAgg147
 z45:=Tryd.sizeOf147
 v45:=Tryd.zeroValue147
 t46:=Tryd.underlying148
 a46:=Tryd.isAgg148
 z46:=Tryd.sizeOf148
 v46:=Tryd.zeroValue148
 t50:=Tryd.underlying98
 a50:=Tryd.isAgg98
 z50:=Tryd.sizeOf98
 v50:=Tryd.zeroValue98
 t53:=Tryd.underlying74
 a53:=Tryd.isAgg74
 z53:=Tryd.sizeOf74
 v53:=Tryd.zeroValue74
 t55:=Tryd.underlying154
 a55:=Tryd.isAgg154
 z55:=Tryd.sizeOf154
 v55:=Tryd.zeroValue154
 t66:=Tryd.underlying155
 a66:=Tryd.isAgg155
 z66:=Tryd.sizeOf155
 v66:=Tryd.zeroValue155
 t70:=Tryd.underlying159
 a70:=Tryd.isAgg159
 z70:=Tryd.sizeOf159
 v70:=Tryd.zeroValue159
 t76:=Tryd.underlying161
 a76:=Tryd.isAgg161
 z76:=Tryd.sizeOf161
 v76:=Tryd.zeroValue161
 t77:=Tryd.underlying162
 a77:=Tryd.isAgg162
 z77:=Tryd.sizeOf162
 v77:=Tryd.zeroValue162
end Go.Proofs
