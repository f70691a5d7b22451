import Derived.Test.YteaclamkacmhmaaDoorG19
import Derived.Shelf.Strings.Builder1
set_option maxRecDepth 100000
set_option linter.unusedSimpArgs false
set_option linter.unusedVariables false

namespace Go.Proofs
open Go.Shelf Go.RowKit
def Tryd.lays166_ren:Go.Shelf.Ren:=⟨fun | 166=>47 | 240=>72 | 276=>86 | n=>n,fun | 70=>86 | 9=>9 | 3=>3 | 75=>91 | 0=>0 | 72=>89 | 37=>87 | 4=>4 | 164=>135 | 80=>94 | 5=>5 | n=>n,fun | n=>n⟩
theorem Tryd.lays166:Go.Proofs.Lays.n166 Tryd.prog Tryd.lays166_ren where
 mixed:=by kernel_rfl
 f166:=Tryd.func47.trans (congrArg some (by kernel_rfl))
 f240:=Tryd.func72.trans (congrArg some (by kernel_rfl))
 f276:=Tryd.func86.trans (congrArg some (by kernel_rfl))
 t0:=Tryd.underlying0
 a0:=Tryd.isAgg0
 z0:=Tryd.sizeOf0
 v0:=Tryd.zeroValue0
 t3:=Tryd.underlying3
 a3:=Tryd.isAgg3
 z3:=Tryd.sizeOf3
 v3:=Tryd.zeroValue3
 t4:=Tryd.underlying4
 a4:=Tryd.isAgg4
 z4:=Tryd.sizeOf4
 v4:=Tryd.zeroValue4
 t9:=Tryd.underlying9
 a9:=Tryd.isAgg9
 z9:=Tryd.sizeOf9
 v9:=Tryd.zeroValue9
 t20:=Tryd.underlying20
 a20:=Tryd.isAgg20
 z20:=Tryd.sizeOf20
 v20:=Tryd.zeroValue20
 t37:=Tryd.underlying87
 a37:=Tryd.isAgg87
 z37:=Tryd.sizeOf87
 v37:=Tryd.zeroValue87
 t70:=Tryd.underlying86
 a70:=Tryd.isAgg86
 z70:=Tryd.sizeOf86
 v70:=Tryd.zeroValue86
 t72:=Tryd.underlying89
 a72:=Tryd.isAgg89
 z72:=Tryd.sizeOf89
 v72:=Tryd.zeroValue89
 t75:=Tryd.underlying91
 a75:=Tryd.isAgg91
 z75:=Tryd.sizeOf91
 v75:=Tryd.zeroValue91
 t164:=Tryd.underlying135
 a164:=Tryd.isAgg135
 z164:=Tryd.sizeOf135
 v164:=Tryd.zeroValue135
theorem Tryd.bex166:Builder.Extra Tryd.prog Tryd.lays166_ren where
 sizeBuilder:=by kernel_rfl
 liesBuilder:=by kernel_rfl
 t5:=Tryd.underlying5
 a5:=Tryd.isAgg5
 z5:=Tryd.sizeOf5
 v5:=Tryd.zeroValue5
 infoByte:=by kernel_rfl
 cellsByte:=by kernel_rfl
 sizeByte:=by kernel_rfl
 neB5:=by decide
def Tryd.lays169_ren:Go.Shelf.Ren:=⟨fun | 169=>48 | n=>n,fun | 70=>86 | 9=>9 | 0=>0 | 72=>89 | 37=>87 | 127=>118 | 3=>3 | 5=>5 | n=>n,fun | n=>n⟩
theorem Tryd.lays169:Go.Proofs.Lays.n169 Tryd.prog Tryd.lays169_ren where
 mixed:=by kernel_rfl
 f169:=Tryd.func48.trans (congrArg some (by kernel_rfl))
 t0:=Tryd.underlying0
 a0:=Tryd.isAgg0
 z0:=Tryd.sizeOf0
 v0:=Tryd.zeroValue0
 t3:=Tryd.underlying3
 a3:=Tryd.isAgg3
 z3:=Tryd.sizeOf3
 v3:=Tryd.zeroValue3
 t9:=Tryd.underlying9
 a9:=Tryd.isAgg9
 z9:=Tryd.sizeOf9
 v9:=Tryd.zeroValue9
 t37:=Tryd.underlying87
 a37:=Tryd.isAgg87
 z37:=Tryd.sizeOf87
 v37:=Tryd.zeroValue87
 t70:=Tryd.underlying86
 a70:=Tryd.isAgg86
 z70:=Tryd.sizeOf86
 v70:=Tryd.zeroValue86
 t72:=Tryd.underlying89
 a72:=Tryd.isAgg89
 z72:=Tryd.sizeOf89
 v72:=Tryd.zeroValue89
 t127:=Tryd.underlying118
 a127:=Tryd.isAgg118
 z127:=Tryd.sizeOf118
 v127:=Tryd.zeroValue118
theorem Tryd.bex169:Builder.Extra Tryd.prog Tryd.lays169_ren where
 sizeBuilder:=by kernel_rfl
 liesBuilder:=by kernel_rfl
 t5:=Tryd.underlying5
 a5:=Tryd.isAgg5
 z5:=Tryd.sizeOf5
 v5:=Tryd.zeroValue5
 infoByte:=by kernel_rfl
 cellsByte:=by kernel_rfl
 sizeByte:=by kernel_rfl
 neB5:=by decide
theorem Tryd.bld_write (B b:Nat) (bs:List Value) (s:ByteArray) (w:World) (h:Lib.IsBuilder 89 5 B b bs w) (hlen:bs.length+s.size≤140737488355328) (hBw:B≤w.heap.size) :
 Calls Tryd.prog 47 #[.pointer (some ⟨b,0,none⟩),.string s] w fun e w'=>e = .returned (.tuple #[.int .i64 s.size,.nilIface])∧(Lib.BuilderAt 89 5 B b (.pointer (some ⟨b,0,none⟩)) (bs++Lib.strCells s) w'∧Below B w w') :=
 Any.Builder_WriteString Tryd.lays166 Tryd.bex166 B b bs s w h hlen hBw
theorem Tryd.bld_string (B b:Nat) (l:List UInt8) (w:World) (h:Lib.IsBuilder 89 5 B b (Lib.byteCells l) w) (hBw:B≤w.heap.size) :
 Calls Tryd.prog 48 #[.pointer (some ⟨b,0,none⟩)] w fun e w'=>e = .returned (.string ⟨l.toArray⟩)∧Below B w w' :=
 Any.Builder_String_any Tryd.lays169 Tryd.bex169 B b l w h hBw
end Go.Proofs
