/- Some texts in one. -/
import Derived.Shelf.SlIter.Nil
import Derived.Shelf.SortM.Plain
import Derived.Shelf.SortM.SortNone
import Derived.Ground.GgzProg
import Derived.Ground.SlgmProg
import Derived.Test.YtojkkgghndeimaaGreatDoorProg
namespace Go.Proofs
open Go.Shelf
def Tryz.sort88_ren:Go.Shelf.Ren:=⟨fun | 6=>88 | 8=>134 | 9=>133 | 19=>185 | 20=>186 | 21=>176 | 22=>177 | 23=>178 | 24=>179 | 25=>180 | 26=>181 | 27=>182 | 28=>183 | 29=>184 | 36=>216 | 31=>217 | 32=>218 | 37=>219 | 38=>220 | 39=>221 | 41=>246 | n=>n,fun | 27=>25 | 29=>9 | 3=>3 | 32=>22 | 26=>25 | 0=>0 | 44=>65 | 46=>157 | 4=>4 | 36=>231 | 35=>230 | 41=>235 | 5=>5 | 9=>9 | 53=>267 | 57=>271 | 63=>299 | 64=>165 | n=>n,fun | n=>n⟩
theorem Tryz.sort88:Go.Proofs.SlLaysM.n6 Tryz.prog Tryz.sort88_ren:={
 mixed:=by kernel_rfl
 f6:=⟨Tryz.f88.name,by decide,Tryz.func88.trans (congrArg some (by kernel_rfl))⟩
 f8:=Tryz.func134.trans (congrArg some (by kernel_rfl))
 f9:=⟨Tryz.f133.name,by decide,Tryz.func133.trans (congrArg some (by kernel_rfl))⟩
 f19:=Tryz.func185.trans (congrArg some (by kernel_rfl))
 f20:=Tryz.func186.trans (congrArg some (by kernel_rfl))
 f21:=⟨Tryz.f176.name,by decide,Tryz.func176.trans (congrArg some (by kernel_rfl))⟩
 f22:=⟨Tryz.f177.name,by decide,Tryz.func177.trans (congrArg some (by kernel_rfl))⟩
 f23:=⟨Tryz.f178.name,by decide,Tryz.func178.trans (congrArg some (by kernel_rfl))⟩
 f24:=⟨Tryz.f179.name,by decide,Tryz.func179.trans (congrArg some (by kernel_rfl))⟩
 f25:=⟨Tryz.f180.name,by decide,Tryz.func180.trans (congrArg some (by kernel_rfl))⟩
 f26:=⟨Tryz.f181.name,by decide,Tryz.func181.trans (congrArg some (by kernel_rfl))⟩
 f27:=⟨Tryz.f182.name,by decide,Tryz.func182.trans (congrArg some (by kernel_rfl))⟩
 f28:=⟨Tryz.f183.name,by decide,Tryz.func183.trans (congrArg some (by kernel_rfl))⟩
 f29:=⟨Tryz.f184.name,by decide,Tryz.func184.trans (congrArg some (by kernel_rfl))⟩
 f31:=Tryz.func217.trans (congrArg some (by kernel_rfl))
 f32:=Tryz.func218.trans (congrArg some (by kernel_rfl))
 f36:=⟨Tryz.f216.name,by decide,Tryz.func216.trans (congrArg some (by kernel_rfl))⟩
 f37:=⟨Tryz.f219.name,by decide,Tryz.func219.trans (congrArg some (by kernel_rfl))⟩
 f38:=⟨Tryz.f220.name,by decide,Tryz.func220.trans (congrArg some (by kernel_rfl))⟩
 f39:=⟨Tryz.f221.name,by decide,Tryz.func221.trans (congrArg some (by kernel_rfl))⟩
 f41:=⟨Tryz.f246.name,by decide,Tryz.func246.trans (congrArg some (by kernel_rfl))⟩
 t0:=Tryz.underlying0
 a0:=Tryz.isAgg0
 z0:=Tryz.sizeOf0
 v0:=Tryz.zeroValue0
 t3:=Tryz.underlying3
 a3:=Tryz.isAgg3
 z3:=Tryz.sizeOf3
 v3:=Tryz.zeroValue3
 t4:=Tryz.underlying4
 a4:=Tryz.isAgg4
 z4:=Tryz.sizeOf4
 v4:=Tryz.zeroValue4
 t5:=Tryz.underlying5
 a5:=Tryz.isAgg5
 z5:=Tryz.sizeOf5
 v5:=Tryz.zeroValue5
 t9:=Tryz.underlying9
 a9:=Tryz.isAgg9
 z9:=Tryz.sizeOf9
 v9:=Tryz.zeroValue9
 t26:=Tryz.underlying25
 a26:=Tryz.isAgg25
 z26:=Tryz.sizeOf25
 v26:=Tryz.zeroValue25
 t27:=Tryz.underlying25
 a27:=Tryz.isAgg25
 z27:=Tryz.sizeOf25
 v27:=Tryz.zeroValue25
 t29:=Tryz.underlying9
 a29:=Tryz.isAgg9
 z29:=Tryz.sizeOf9
 v29:=Tryz.zeroValue9
 t32:=Tryz.underlying22
 a32:=Tryz.isAgg22
 z32:=Tryz.sizeOf22
 v32:=Tryz.zeroValue22
 t35:=Tryz.underlying230
 a35:=Tryz.isAgg230
 z35:=Tryz.sizeOf230
 v35:=Tryz.zeroValue230
 t36:=Tryz.underlying231
 a36:=Tryz.isAgg231
 z36:=Tryz.sizeOf231
 v36:=Tryz.zeroValue231
 t41:=Tryz.underlying235
 a41:=Tryz.isAgg235
 z41:=Tryz.sizeOf235
 v41:=Tryz.zeroValue235
 t44:=Tryz.underlying65
 a44:=Tryz.isAgg65
 z44:=Tryz.sizeOf65
 v44:=Tryz.zeroValue65
 t46:=Tryz.underlying157
 a46:=Tryz.isAgg157
 z46:=Tryz.sizeOf157
 v46:=Tryz.zeroValue157
 t53:=Tryz.underlying267
 a53:=Tryz.isAgg267
 z53:=Tryz.sizeOf267
 v53:=Tryz.zeroValue267
 t57:=Tryz.underlying271
 a57:=Tryz.isAgg271
 z57:=Tryz.sizeOf271
 v57:=Tryz.zeroValue271
 t63:=Tryz.underlying299
 a63:=Tryz.isAgg299
 z63:=Tryz.sizeOf299
 v63:=Tryz.zeroValue299
 t64:=Tryz.underlying165
 a64:=Tryz.isAgg165
 z64:=Tryz.sizeOf165
 v64:=Tryz.zeroValue165 }
end Go.Proofs
