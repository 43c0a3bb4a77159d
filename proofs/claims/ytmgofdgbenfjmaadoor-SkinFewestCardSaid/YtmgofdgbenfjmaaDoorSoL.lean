/- slices.SortFunc at rectangles: the contract laid at this translation (printed by wip/gen_lay3.py). No conditions. -/
import Derived.Test.YtmgofdgbenfjmaaDoorProg
import Derived.Shelf.SlSortCmp.WholeK
namespace Go.Proofs
open Go.Shelf

def Tryd.sortR_ren : Go.Shelf.Ren :=
  {
    f := fun
      | 6 => 90
      | 15 => 120
      | 14 => 119
      | 28 => 148
      | 29 => 149
      | 20 => 140
      | 21 => 141
      | 22 => 142
      | 23 => 143
      | 24 => 144
      | 25 => 145
      | 26 => 146
      | 27 => 147
      | 46 => 163
      | 47 => 164
      | 48 => 165
      | 49 => 166
      | 50 => 167
      | 57 => 179
      | n => n,
    t := fun
      | 22 => 37
      | 24 => 31
      | 25 => 93
      | 3 => 3
      | 39 => 161
      | 0 => 0
      | 53 => 179
      | 55 => 182
      | 4 => 4
      | 46 => 187
      | 45 => 186
      | 50 => 191
      | 5 => 5
      | 9 => 9
      | 66 => 206
      | 70 => 210
      | 76 => 221
      | 77 => 222
      | n => n,
    g := fun n => n }
theorem Tryd.sortR : Go.Proofs.SlLaysF0.n6 Tryd.prog Tryd.sortR_ren :=
  { mixed := by kernel_rfl,
    f6 := ⟨"slices.SortFunc[[]trank/api.Rect,trank/api.Rect]", of_decide_eq_true (by kernel_rfl), Eq.trans Tryd.func90 (congrArg some (by kernel_rfl))⟩,
    f14 := ⟨"slices.pdqsortCmpFunc[trank/api.Rect]", of_decide_eq_true (by kernel_rfl), Eq.trans Tryd.func119 (congrArg some (by kernel_rfl))⟩,
    f15 := Eq.trans Tryd.func120 (congrArg some (by kernel_rfl)),
    f20 := ⟨"slices.insertionSortCmpFunc[trank/api.Rect]", of_decide_eq_true (by kernel_rfl), Eq.trans Tryd.func140 (congrArg some (by kernel_rfl))⟩,
    f21 := ⟨"slices.heapSortCmpFunc[trank/api.Rect]", of_decide_eq_true (by kernel_rfl), Eq.trans Tryd.func141 (congrArg some (by kernel_rfl))⟩,
    f22 := ⟨"slices.breakPatternsCmpFunc[trank/api.Rect]", of_decide_eq_true (by kernel_rfl), Eq.trans Tryd.func142 (congrArg some (by kernel_rfl))⟩,
    f23 := ⟨"slices.choosePivotCmpFunc[trank/api.Rect]", of_decide_eq_true (by kernel_rfl), Eq.trans Tryd.func143 (congrArg some (by kernel_rfl))⟩,
    f24 := ⟨"slices.reverseRangeCmpFunc[trank/api.Rect]", of_decide_eq_true (by kernel_rfl), Eq.trans Tryd.func144 (congrArg some (by kernel_rfl))⟩,
    f25 := ⟨"slices.partialInsertionSortCmpFunc[trank/api.Rect]", of_decide_eq_true (by kernel_rfl), Eq.trans Tryd.func145 (congrArg some (by kernel_rfl))⟩,
    f26 := ⟨"slices.partitionEqualCmpFunc[trank/api.Rect]", of_decide_eq_true (by kernel_rfl), Eq.trans Tryd.func146 (congrArg some (by kernel_rfl))⟩,
    f27 := ⟨"slices.partitionCmpFunc[trank/api.Rect]", of_decide_eq_true (by kernel_rfl), Eq.trans Tryd.func147 (congrArg some (by kernel_rfl))⟩,
    f28 := Eq.trans Tryd.func148 (congrArg some (by kernel_rfl)), f29 := Eq.trans Tryd.func149 (congrArg some (by kernel_rfl)),
    f46 := ⟨"slices.siftDownCmpFunc[trank/api.Rect]", of_decide_eq_true (by kernel_rfl), Eq.trans Tryd.func163 (congrArg some (by kernel_rfl))⟩,
    f47 := Eq.trans Tryd.func164 (congrArg some (by kernel_rfl)), f48 := Eq.trans Tryd.func165 (congrArg some (by kernel_rfl)),
    f49 := ⟨"slices.medianAdjacentCmpFunc[trank/api.Rect]", of_decide_eq_true (by kernel_rfl), Eq.trans Tryd.func166 (congrArg some (by kernel_rfl))⟩,
    f50 := ⟨"slices.medianCmpFunc[trank/api.Rect]", of_decide_eq_true (by kernel_rfl), Eq.trans Tryd.func167 (congrArg some (by kernel_rfl))⟩,
    f57 := ⟨"slices.order2CmpFunc[trank/api.Rect]", of_decide_eq_true (by kernel_rfl), Eq.trans Tryd.func179 (congrArg some (by kernel_rfl))⟩,
    t0 := Tryd.underlying0, a0 := Tryd.isAgg0, z0 := Tryd.sizeOf0, v0 := Tryd.zeroValue0,
    t3 := Tryd.underlying3, a3 := Tryd.isAgg3, z3 := Tryd.sizeOf3, v3 := Tryd.zeroValue3,
    t4 := Tryd.underlying4, a4 := Tryd.isAgg4, z4 := Tryd.sizeOf4, v4 := Tryd.zeroValue4,
    t5 := Tryd.underlying5, a5 := Tryd.isAgg5, z5 := Tryd.sizeOf5, v5 := Tryd.zeroValue5,
    t9 := Tryd.underlying9, a9 := Tryd.isAgg9, z9 := Tryd.sizeOf9, v9 := Tryd.zeroValue9,
    t22 := Tryd.underlying37, a22 := Tryd.isAgg37, z22 := Tryd.sizeOf37, v22 := Tryd.zeroValue37,
    t25 := Tryd.underlying93, a25 := Tryd.isAgg93, z25 := Tryd.sizeOf93, v25 := Tryd.zeroValue93,
    t39 := Tryd.underlying161, a39 := Tryd.isAgg161, z39 := Tryd.sizeOf161, v39 := Tryd.zeroValue161,
    t45 := Tryd.underlying186, a45 := Tryd.isAgg186, z45 := Tryd.sizeOf186, v45 := Tryd.zeroValue186,
    t46 := Tryd.underlying187, a46 := Tryd.isAgg187, z46 := Tryd.sizeOf187, v46 := Tryd.zeroValue187,
    t50 := Tryd.underlying191, a50 := Tryd.isAgg191, z50 := Tryd.sizeOf191, v50 := Tryd.zeroValue191,
    t53 := Tryd.underlying179, a53 := Tryd.isAgg179, z53 := Tryd.sizeOf179, v53 := Tryd.zeroValue179,
    t55 := Tryd.underlying182, a55 := Tryd.isAgg182, z55 := Tryd.sizeOf182, v55 := Tryd.zeroValue182,
    t66 := Tryd.underlying206, a66 := Tryd.isAgg206, z66 := Tryd.sizeOf206, v66 := Tryd.zeroValue206,
    t70 := Tryd.underlying210, a70 := Tryd.isAgg210, z70 := Tryd.sizeOf210, v70 := Tryd.zeroValue210,
    t76 := Tryd.underlying221, a76 := Tryd.isAgg221, z76 := Tryd.sizeOf221, v76 := Tryd.zeroValue221,
    t77 := Tryd.underlying222, a77 := Tryd.isAgg222, z77 := Tryd.sizeOf222, v77 := Tryd.zeroValue222 }

end Go.Proofs
