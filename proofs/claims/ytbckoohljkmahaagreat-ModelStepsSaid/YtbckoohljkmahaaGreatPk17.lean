/- Contracts and plain facts. -/
import Derived.Shelf.SlIterI.Nil
import Derived.Shelf.SortM.Plain
import Derived.Shelf.SortM.SortNone
import Derived.Test.YtbckoohljkmahaaGreatProg
namespace Go.Proofs.YtbckoohljkmahaaGreat
set_option linter.unusedVariables false
set_option linter.unusedSimpArgs false
set_option maxRecDepth 100000
set_option maxHeartbeats 16000000
open Go.RowKit
section
open Go.Shelf
def keysA_ren : Go.Shelf.Ren := ⟨fun | 7 => 53 | 10 => 81 | n => n, fun | 23 => 114 | 26 => 3 | 3 => 63 | 28 => 127 | 0 => 0 | 27 => 126 | 33 => 152 | 4 => 4 | n => n, fun | n => n⟩
theorem keysA : Go.Proofs.SlLaysZI.n7 Tryz.prog keysA_ren := {
 mixed := by kernel_rfl
 f7 := ⟨Tryz.f53.name, by decide, Tryz.func53.trans (congrArg some (by kernel_rfl))⟩
 f10 := ⟨Tryz.f81.name, by decide, Tryz.func81.trans (congrArg some (by kernel_rfl))⟩
 t0 := Tryz.underlying0
 a0 := Tryz.isAgg0
 z0 := Tryz.sizeOf0
 v0 := Tryz.zeroValue0
 t4 := Tryz.underlying4
 a4 := Tryz.isAgg4
 z4 := Tryz.sizeOf4
 v4 := Tryz.zeroValue4
 t23 := Tryz.underlying114
 a23 := Tryz.isAgg114
 z23 := Tryz.sizeOf114
 v23 := Tryz.zeroValue114
 t26 := Tryz.underlying3
 a26 := Tryz.isAgg3
 z26 := Tryz.sizeOf3
 v26 := Tryz.zeroValue3
 t27 := Tryz.underlying126
 a27 := Tryz.isAgg126
 z27 := Tryz.sizeOf126
 v27 := Tryz.zeroValue126
 t28 := Tryz.underlying127
 a28 := Tryz.isAgg127
 z28 := Tryz.sizeOf127
 v28 := Tryz.zeroValue127
 t33 := Tryz.underlying152
 a33 := Tryz.isAgg152
 z33 := Tryz.sizeOf152
 v33 := Tryz.zeroValue152 }
def sortedA_ren : Go.Shelf.Ren := ⟨fun | 6 => 52 | 8 => 79 | 9 => 80 | 11 => 107 | 13 => 109 | 12 => 108 | 23 => 137 | 24 => 138 | 14 => 128 | 15 => 129 | 16 => 130 | 17 => 131 | 18 => 132 | 19 => 133 | 20 => 134 | 21 => 135 | 22 => 136 | 25 => 143 | 26 => 144 | 27 => 145 | 28 => 146 | 29 => 147 | 30 => 148 | 31 => 149 | n => n, fun | 26 => 3 | 28 => 127 | 24 => 77 | 0 => 0 | 3 => 3 | 37 => 133 | 48 => 25 | 50 => 78 | 4 => 4 | 40 => 191 | 39 => 190 | 45 => 147 | 5 => 5 | 9 => 9 | 51 => 200 | 55 => 204 | 57 => 206 | 58 => 207 | 33 => 152 | n => n, fun | n => n⟩
theorem sortedA : Go.Proofs.SlLaysZI.n6 Tryz.prog sortedA_ren := {
 mixed := by kernel_rfl
 f6 := ⟨Tryz.f52.name, by decide, Tryz.func52.trans (congrArg some (by kernel_rfl))⟩
 f8 := ⟨Tryz.f79.name, by decide, Tryz.func79.trans (congrArg some (by kernel_rfl))⟩
 f11 := ⟨Tryz.f107.name, by decide, Tryz.func107.trans (congrArg some (by kernel_rfl))⟩
 t0 := Tryz.underlying0
 a0 := Tryz.isAgg0
 z0 := Tryz.sizeOf0
 v0 := Tryz.zeroValue0
 t24 := Tryz.underlying77
 a24 := Tryz.isAgg77
 z24 := Tryz.sizeOf77
 v24 := Tryz.zeroValue77
 t26 := Tryz.underlying3
 a26 := Tryz.isAgg3
 z26 := Tryz.sizeOf3
 v26 := Tryz.zeroValue3
 t28 := Tryz.underlying127
 a28 := Tryz.isAgg127
 z28 := Tryz.sizeOf127
 v28 := Tryz.zeroValue127
 i26 := by kernel_rfl }
def sortA_ren : Go.Shelf.Ren := ⟨fun | 5 => 80 | 8 => 109 | 7 => 108 | 19 => 137 | 20 => 138 | 10 => 128 | 11 => 129 | 12 => 130 | 13 => 131 | 14 => 132 | 15 => 133 | 16 => 134 | 17 => 135 | 18 => 136 | 30 => 143 | 31 => 144 | 32 => 145 | 33 => 146 | 34 => 147 | 35 => 148 | 40 => 149 | n => n, fun | 23 => 77 | 25 => 3 | 3 => 3 | 32 => 133 | 22 => 77 | 0 => 0 | 44 => 25 | 46 => 78 | 4 => 4 | 36 => 191 | 35 => 190 | 41 => 147 | 5 => 5 | 9 => 9 | 53 => 200 | 57 => 204 | 63 => 206 | 64 => 207 | n => n, fun | n => n⟩
theorem sortA : Go.Proofs.SlLaysM.n5 Tryz.prog sortA_ren := {
 mixed := by kernel_rfl
 f5 := ⟨Tryz.f80.name, by decide, Tryz.func80.trans (congrArg some (by kernel_rfl))⟩
 f7 := ⟨Tryz.f108.name, by decide, Tryz.func108.trans (congrArg some (by kernel_rfl))⟩
 f8 := Tryz.func109.trans (congrArg some (by kernel_rfl))
 f10 := ⟨Tryz.f128.name, by decide, Tryz.func128.trans (congrArg some (by kernel_rfl))⟩
 f11 := ⟨Tryz.f129.name, by decide, Tryz.func129.trans (congrArg some (by kernel_rfl))⟩
 f12 := ⟨Tryz.f130.name, by decide, Tryz.func130.trans (congrArg some (by kernel_rfl))⟩
 f13 := ⟨Tryz.f131.name, by decide, Tryz.func131.trans (congrArg some (by kernel_rfl))⟩
 f14 := ⟨Tryz.f132.name, by decide, Tryz.func132.trans (congrArg some (by kernel_rfl))⟩
 f15 := ⟨Tryz.f133.name, by decide, Tryz.func133.trans (congrArg some (by kernel_rfl))⟩
 f16 := ⟨Tryz.f134.name, by decide, Tryz.func134.trans (congrArg some (by kernel_rfl))⟩
 f17 := ⟨Tryz.f135.name, by decide, Tryz.func135.trans (congrArg some (by kernel_rfl))⟩
 f18 := ⟨Tryz.f136.name, by decide, Tryz.func136.trans (congrArg some (by kernel_rfl))⟩
 f19 := Tryz.func137.trans (congrArg some (by kernel_rfl))
 f20 := Tryz.func138.trans (congrArg some (by kernel_rfl))
 f30 := ⟨Tryz.f143.name, by decide, Tryz.func143.trans (congrArg some (by kernel_rfl))⟩
 f31 := Tryz.func144.trans (congrArg some (by kernel_rfl))
 f32 := Tryz.func145.trans (congrArg some (by kernel_rfl))
 f33 := ⟨Tryz.f146.name, by decide, Tryz.func146.trans (congrArg some (by kernel_rfl))⟩
 f34 := ⟨Tryz.f147.name, by decide, Tryz.func147.trans (congrArg some (by kernel_rfl))⟩
 f35 := ⟨Tryz.f148.name, by decide, Tryz.func148.trans (congrArg some (by kernel_rfl))⟩
 f40 := ⟨Tryz.f149.name, by decide, Tryz.func149.trans (congrArg some (by kernel_rfl))⟩
 t0 := Tryz.underlying0
 a0 := Tryz.isAgg0
 z0 := Tryz.sizeOf0
 v0 := Tryz.zeroValue0
 t3 := Tryz.underlying3
 a3 := Tryz.isAgg3
 z3 := Tryz.sizeOf3
 v3 := Tryz.zeroValue3
 t4 := Tryz.underlying4
 a4 := Tryz.isAgg4
 z4 := Tryz.sizeOf4
 v4 := Tryz.zeroValue4
 t5 := Tryz.underlying5
 a5 := Tryz.isAgg5
 z5 := Tryz.sizeOf5
 v5 := Tryz.zeroValue5
 t9 := Tryz.underlying9
 a9 := Tryz.isAgg9
 z9 := Tryz.sizeOf9
 v9 := Tryz.zeroValue9
 t22 := Tryz.underlying77
 a22 := Tryz.isAgg77
 z22 := Tryz.sizeOf77
 v22 := Tryz.zeroValue77
 t23 := Tryz.underlying77
 a23 := Tryz.isAgg77
 z23 := Tryz.sizeOf77
 v23 := Tryz.zeroValue77
 t25 := Tryz.underlying3
 a25 := Tryz.isAgg3
 z25 := Tryz.sizeOf3
 v25 := Tryz.zeroValue3
 t32 := Tryz.underlying133
 a32 := Tryz.isAgg133
 z32 := Tryz.sizeOf133
 v32 := Tryz.zeroValue133
 t35 := Tryz.underlying190
 a35 := Tryz.isAgg190
 z35 := Tryz.sizeOf190
 v35 := Tryz.zeroValue190
 t36 := Tryz.underlying191
 a36 := Tryz.isAgg191
 z36 := Tryz.sizeOf191
 v36 := Tryz.zeroValue191
 t41 := Tryz.underlying147
 a41 := Tryz.isAgg147
 z41 := Tryz.sizeOf147
 v41 := Tryz.zeroValue147
 t44 := Tryz.underlying25
 a44 := Tryz.isAgg25
 z44 := Tryz.sizeOf25
 v44 := Tryz.zeroValue25
 t46 := Tryz.underlying78
 a46 := Tryz.isAgg78
 z46 := Tryz.sizeOf78
 v46 := Tryz.zeroValue78
 t53 := Tryz.underlying200
 a53 := Tryz.isAgg200
 z53 := Tryz.sizeOf200
 v53 := Tryz.zeroValue200
 t57 := Tryz.underlying204
 a57 := Tryz.isAgg204
 z57 := Tryz.sizeOf204
 v57 := Tryz.zeroValue204
 t63 := Tryz.underlying206
 a63 := Tryz.isAgg206
 z63 := Tryz.sizeOf206
 v63 := Tryz.zeroValue206
 t64 := Tryz.underlying207
 a64 := Tryz.isAgg207
 z64 := Tryz.sizeOf207
 v64 := Tryz.zeroValue207 }
end
end Go.Proofs.YtbckoohljkmahaaGreat
