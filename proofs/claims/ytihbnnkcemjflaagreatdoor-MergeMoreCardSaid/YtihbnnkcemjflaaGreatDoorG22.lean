import Derived.Test.YtihbnnkcemjflaaGreatDoorG21
import Derived.Shelf.SlIterI.Nil
import Derived.Shelf.SortM.Plain
import Derived.Shelf.SortM.SortNone
import Derived.Ground.GgzProg
import Derived.Ground.SlgmProg
import Derived.KernelRfl
set_option maxRecDepth 100000
set_option linter.unusedSimpArgs false
set_option linter.unusedVariables false

namespace Go.Proofs
open Go.Shelf Go.RowKit Go.Lib Go.Sort
def Tryz.keysI_ren:Go.Shelf.Ren:=⟨fun | 7=>44 | 10=>75 | n=>n,fun | 23=>69 | 26=>3 | 3=>3 | 28=>78 | 0=>0 | 27=>77 | 33=>121 | 4=>4 | n=>n,fun | n=>n⟩
theorem Tryz.keysI:Go.Proofs.SlLaysZI.n7 Tryz.prog Tryz.keysI_ren where
 mixed:=by kernel_rfl
 f7:=⟨"maps.Keys[map[int]int,int,int]",by decide,Tryz.func44.trans (congrArg some (by kernel_rfl))⟩
 f10:=⟨"maps.Keys[map[int]int,int,int]$1",by decide,Tryz.func75.trans (congrArg some (by kernel_rfl))⟩
 t0:=Tryz.underlying0
 a0:=Tryz.isAgg0
 z0:=Tryz.sizeOf0
 v0:=Tryz.zeroValue0
 t4:=Tryz.underlying4
 a4:=Tryz.isAgg4
 z4:=Tryz.sizeOf4
 v4:=Tryz.zeroValue4
 t23:=Tryz.underlying69
 a23:=Tryz.isAgg69
 z23:=Tryz.sizeOf69
 v23:=Tryz.zeroValue69
 t26:=Tryz.underlying3
 a26:=Tryz.isAgg3
 z26:=Tryz.sizeOf3
 v26:=Tryz.zeroValue3
 t27:=Tryz.underlying77
 a27:=Tryz.isAgg77
 z27:=Tryz.sizeOf77
 v27:=Tryz.zeroValue77
 t28:=Tryz.underlying78
 a28:=Tryz.isAgg78
 z28:=Tryz.sizeOf78
 v28:=Tryz.zeroValue78
 t33:=Tryz.underlying121
 a33:=Tryz.isAgg121
 z33:=Tryz.sizeOf121
 v33:=Tryz.zeroValue121
def Tryz.sortedI_ren:Go.Shelf.Ren:=⟨fun | 6=>43 | 8=>73 | 9=>74 | 11=>102 | 13=>104 | 12=>103 | 23=>142 | 24=>143 | 14=>133 | 15=>134 | 16=>135 | 17=>136 | 18=>137 | 19=>138 | 20=>139 | 21=>140 | 22=>141 | 25=>177 | 26=>178 | 27=>179 | 28=>180 | 29=>181 | 30=>118 | 31=>208 | n=>n,fun | 26=>3 | 28=>78 | 24=>75 | 0=>0 | 3=>3 | 37=>37 | 48=>197 | 50=>199 | 4=>4 | 40=>190 | 39=>189 | 45=>95 | 5=>5 | 9=>9 | 51=>228 | 55=>232 | 57=>259 | 58=>260 | 33=>121 | n=>n,fun | n=>n⟩
theorem Tryz.sortedI:Go.Proofs.SlLaysZI.n6 Tryz.prog Tryz.sortedI_ren where
 mixed:=by kernel_rfl
 f6:=⟨"slices.Sorted[int]",by decide,Tryz.func43.trans (congrArg some (by kernel_rfl))⟩
 f8:=⟨"slices.Collect[int]",by decide,Tryz.func73.trans (congrArg some (by kernel_rfl))⟩
 f11:=⟨"slices.AppendSeq[[]int,int]",by decide,Tryz.func102.trans (congrArg some (by kernel_rfl))⟩
 t0:=Tryz.underlying0
 a0:=Tryz.isAgg0
 z0:=Tryz.sizeOf0
 v0:=Tryz.zeroValue0
 t24:=Tryz.underlying75
 a24:=Tryz.isAgg75
 z24:=Tryz.sizeOf75
 v24:=Tryz.zeroValue75
 t26:=Tryz.underlying3
 a26:=Tryz.isAgg3
 z26:=Tryz.sizeOf3
 v26:=Tryz.zeroValue3
 t28:=Tryz.underlying78
 a28:=Tryz.isAgg78
 z28:=Tryz.sizeOf78
 v28:=Tryz.zeroValue78
 i26:=by kernel_rfl
def Tryz.sortI_ren:Go.Shelf.Ren:=⟨fun | 5=>74 | 8=>104 | 7=>103 | 19=>142 | 20=>143 | 10=>133 | 11=>134 | 12=>135 | 13=>136 | 14=>137 | 15=>138 | 16=>139 | 17=>140 | 18=>141 | 30=>177 | 31=>178 | 32=>179 | 33=>180 | 34=>181 | 35=>118 | 40=>208 | n=>n,fun | 23=>75 | 25=>3 | 3=>3 | 32=>37 | 22=>75 | 0=>0 | 44=>197 | 46=>199 | 4=>4 | 36=>190 | 35=>189 | 41=>95 | 5=>5 | 9=>9 | 53=>228 | 57=>232 | 63=>259 | 64=>260 | n=>n,fun | n=>n⟩
theorem Tryz.sortI:Go.Proofs.SlLaysM.n5 Tryz.prog Tryz.sortI_ren where
 mixed:=by kernel_rfl
 f5:=⟨"slices.Sort[[]int,int]",by decide,Tryz.func74.trans (congrArg some (by kernel_rfl))⟩
 f7:=⟨"slices.pdqsortOrdered[int]",by decide,Tryz.func103.trans (congrArg some (by kernel_rfl))⟩
 f8:=Tryz.func104.trans (congrArg some (by kernel_rfl))
 f10:=⟨"slices.insertionSortOrdered[int]",by decide,Tryz.func133.trans (congrArg some (by kernel_rfl))⟩
 f11:=⟨"slices.heapSortOrdered[int]",by decide,Tryz.func134.trans (congrArg some (by kernel_rfl))⟩
 f12:=⟨"slices.breakPatternsOrdered[int]",by decide,Tryz.func135.trans (congrArg some (by kernel_rfl))⟩
 f13:=⟨"slices.choosePivotOrdered[int]",by decide,Tryz.func136.trans (congrArg some (by kernel_rfl))⟩
 f14:=⟨"slices.reverseRangeOrdered[int]",by decide,Tryz.func137.trans (congrArg some (by kernel_rfl))⟩
 f15:=⟨"slices.partialInsertionSortOrdered[int]",by decide,Tryz.func138.trans (congrArg some (by kernel_rfl))⟩
 f16:=⟨"cmp.Less[int]",by decide,Tryz.func139.trans (congrArg some (by kernel_rfl))⟩
 f17:=⟨"slices.partitionEqualOrdered[int]",by decide,Tryz.func140.trans (congrArg some (by kernel_rfl))⟩
 f18:=⟨"slices.partitionOrdered[int]",by decide,Tryz.func141.trans (congrArg some (by kernel_rfl))⟩
 f19:=Tryz.func142.trans (congrArg some (by kernel_rfl))
 f20:=Tryz.func143.trans (congrArg some (by kernel_rfl))
 f30:=⟨"slices.siftDownOrdered[int]",by decide,Tryz.func177.trans (congrArg some (by kernel_rfl))⟩
 f31:=Tryz.func178.trans (congrArg some (by kernel_rfl))
 f32:=Tryz.func179.trans (congrArg some (by kernel_rfl))
 f33:=⟨"slices.medianAdjacentOrdered[int]",by decide,Tryz.func180.trans (congrArg some (by kernel_rfl))⟩
 f34:=⟨"slices.medianOrdered[int]",by decide,Tryz.func181.trans (congrArg some (by kernel_rfl))⟩
 f35:=⟨"cmp.isNaN[int]",by decide,Tryz.func118.trans (congrArg some (by kernel_rfl))⟩
 f40:=⟨"slices.order2Ordered[int]",by decide,Tryz.func208.trans (congrArg some (by kernel_rfl))⟩
 t0:=Tryz.underlying0
 a0:=Tryz.isAgg0
 z0:=Tryz.sizeOf0
 v0:=Tryz.zeroValue0
 t3:=Tryz.underlying3
 a3:=Tryz.isAgg3
 z3:=Tryz.sizeOf3
 v3:=Tryz.zeroValue3
 t4:=Tryz.underlying4
 a4:=Tryz.isAgg4
 z4:=Tryz.sizeOf4
 v4:=Tryz.zeroValue4
 t5:=Tryz.underlying5
 a5:=Tryz.isAgg5
 z5:=Tryz.sizeOf5
 v5:=Tryz.zeroValue5
 t9:=Tryz.underlying9
 a9:=Tryz.isAgg9
 z9:=Tryz.sizeOf9
 v9:=Tryz.zeroValue9
 t22:=Tryz.underlying75
 a22:=Tryz.isAgg75
 z22:=Tryz.sizeOf75
 v22:=Tryz.zeroValue75
 t23:=Tryz.underlying75
 a23:=Tryz.isAgg75
 z23:=Tryz.sizeOf75
 v23:=Tryz.zeroValue75
 t25:=Tryz.underlying3
 a25:=Tryz.isAgg3
 z25:=Tryz.sizeOf3
 v25:=Tryz.zeroValue3
 t32:=Tryz.underlying37
 a32:=Tryz.isAgg37
 z32:=Tryz.sizeOf37
 v32:=Tryz.zeroValue37
 t35:=Tryz.underlying189
 a35:=Tryz.isAgg189
 z35:=Tryz.sizeOf189
 v35:=Tryz.zeroValue189
 t36:=Tryz.underlying190
 a36:=Tryz.isAgg190
 z36:=Tryz.sizeOf190
 v36:=Tryz.zeroValue190
 t41:=Tryz.underlying95
 a41:=Tryz.isAgg95
 z41:=Tryz.sizeOf95
 v41:=Tryz.zeroValue95
 t44:=Tryz.underlying197
 a44:=Tryz.isAgg197
 z44:=Tryz.sizeOf197
 v44:=Tryz.zeroValue197
 t46:=Tryz.underlying199
 a46:=Tryz.isAgg199
 z46:=Tryz.sizeOf199
 v46:=Tryz.zeroValue199
 t53:=Tryz.underlying228
 a53:=Tryz.isAgg228
 z53:=Tryz.sizeOf228
 v53:=Tryz.zeroValue228
 t57:=Tryz.underlying232
 a57:=Tryz.isAgg232
 z57:=Tryz.sizeOf232
 v57:=Tryz.zeroValue232
 t63:=Tryz.underlying259
 a63:=Tryz.isAgg259
 z63:=Tryz.sizeOf259
 v63:=Tryz.zeroValue259
 t64:=Tryz.underlying260
 a64:=Tryz.isAgg260
 z64:=Tryz.sizeOf260
 v64:=Tryz.zeroValue260
end Go.Proofs


namespace Go.Mg
open Go Go.Am Go.Proofs Go.Seat Go.Vec Go.Cdc Go.Ops
noncomputable def jN:AObj:=.rng .ready none (slots 70 [(4,.ptr 2 0)]) #[25] (asgAt P 19 0) (rbodyAt P 19 0)
noncomputable def nH (o:OP) (S:List D):List AObj:=[jN,.box (opc o),.box [.mp 3],.map (snE S)]
theorem ny_w (o:OP) (S S':List D) (a b v:Int) (f:Bool) (hG:MapGet P 3 (snE S) (.int .i64 a) (int 0) (int v) f) (hP:MapPut P 3 (snE S) (.int .i64 a) (int (if b > v then b else v)) (snE S')) (h:True):YieldC P G 0 [dot (a,b)] (nH o S) true (nH o S'):=by
 have _:=h
 exact yieldC_of (fun _=>[ko (Orc.mget (int v) f),ko (Orc.mput (snE S')),kp hG,kp hP,kp (show ∀ (e:Value × AV),e∈snE S'→AV.idsLt (List.length (nH o S)) e.2=true from (sn_ids _ _))]) (fun _=>by kernel_rfl)
theorem nz_w (o:OP) (S S':List D) (a b v:Int) (f:Bool) (hG:MapGet P 3 (snE S) (.int .i64 a) (int 0) (int v) f) (hP:MapPut P 3 (snE S) (.int .i64 a) (int (if b > v then b else v)) (snE S')) (h:True):YieldC P G 0 [dot (a,b)] (nH o S++[AObj.box [int a,int b]]) true (nH o S'++[AObj.box [int a,int b]]):=by
 have _:=h
 exact yieldC_of (fun _=>[ko (Orc.mget (int v) f),ko (Orc.mput (snE S')),kp hG,kp hP,kp (show ∀ (e:Value × AV),e∈snE S'→AV.idsLt (List.length (nH o S++[AObj.box [int a,int b]])) e.2=true from (sn_ids _ _))]) (fun _=>by kernel_rfl)
theorem nl_t (o:OP) (S S':List D) (k:Nat) (a b:Int) (hl:o.cx.length≤1000000000) (hk:(k:Int)<(o.cx.length:Int)) (hx:o.cx[k]? = some (a,b)) (hY:YieldC P G 0 [dot (a,b)] (nH o S++[.box [int a,int b]]) true (nH o S'++[.box [int a,int b]])) (ex:AEx) (s':St) (h:Rq 4 71 0 (sM 31 [(0,.yl 0),(1,.ptr 1 0),(6,vec o.cx),(7,int ↑(List.length o.cx)),(8,int ↑(k+1))] [jN,.box (opc o),.box [.mp 3],.map (snE S')]) ex s'):Rq 4 71 0 (ltS o (nH o S) k) ex s':=by
 exact loop_next [ki ((k:Int)<(↑(List.length o.cx):Int)),ko (Orc.elem (Vec.enc (a,b))),ko (Orc.call [] (AOut.ret (Am.bool true)) (nH o S'++[AObj.box [int a,int b]])),kp (show (0:Int)≤(k:Int)∧(encs o.cx)[Int.toNat (k:Int)]? = some (Vec.enc (a,b)) from (el_nat hx)),kp hY,kY,kW 16 (k+1) ↑(k+1),kp (show ∀ (e:Value × AV),e∈snE S'→AV.idsLt 4 e.2=true from (sn_ids _ _))] (others 31 [0,1,6,7,8]) 4 h
theorem nl_e (o:OP) (S:List D) (k:Nat) (hl:o.cx.length≤1000000000) (hk:¬ (k:Int)<(o.cx.length:Int)) (h:True):Rq 4 71 0 (ltS o (nH o S) k) (AEx.exit 0) (St.mk (slots 31 [(0,AV.yl 0),(1,AV.ptr 1 0)]) (nH o S) []):=by
 have _:=h
 exact loop_exit [kj ((k:Int)<(↑(List.length o.cx):Int))] (others 31 [0,1]) 4
theorem na_1 (o:OP) (S S':List D) (hl:o.cx.length≤1000000000) (hs:¬ 1<o.sq) (hL:Rq 4 71 0 (ltS o (nH o S) 0) (.exit 0) { env:=slots 31 [(0,.yl 0),(1,.ptr 1 0)],H:=nH o S' }) (h:True):CallC P G 71 [.yl 0,.ptr 1 0] (nH o S) (AOut.ret (AV.tup [])) (nH o S'):=by
 have _:=h
 exact callC_of [kN 7 (Go.Vec.encs_length o.cx),kl (rG [(2,4),(9,22)]) 4 hL,kj (o.sq > 1)]
theorem na_t (o:OP) (S S' S2:List D) (hl:o.cx.length≤1000000000) (hs:1<o.sq) (hq:o.sq≤1048576) (hY:YieldC P G 0 [dot (o.dv,o.sq - 1)] (nH o S') true (nH o S2)) (hL:Rq 4 71 0 (ltS o (nH o S) 0) (.exit 0) { env:=slots 31 [(0,.yl 0),(1,.ptr 1 0)],H:=nH o S' }) (h:True):CallC P G 71 [.yl 0,.ptr 1 0] (nH o S) (AOut.ret (AV.tup [])) (nH o S2):=by
 have _:=h
 exact callC_of [kN 7 (Go.Vec.encs_length o.cx),kl (rG [(2,4),(9,22)]) 4 hL,ki (o.sq > 1),kW 28 (o.sq - 1) (o.sq - 1),ko (Orc.call [] (AOut.ret (Am.bool true)) (nH o S2)),kp hY]
noncomputable def c19:Code:=loopAt P 19 0
noncomputable def ops19:Array Oper:=opsOf (Code.hd c19)
noncomputable def op19 (i:Nat):Oper:=ops19.toList.getD i default
def mX (W N:List (Value × AV)):St:={ env:=slots 70 [(2,nilS),(3,.md true W),(4,.ptr 1 0)],H:=[.gone,.box [.md true N]],defs:=[.bag 1] }
def mB0 (N:List (Value × AV)):List AObj:=[.gone,.box [.md true N],.gone]
def mB1 (N:List (Value × AV)) (g:Nat) (v:List D):List AObj:=[.gone,.box [.md true N],.gone,.gone,.arr g 2 false (encs v)]
def mE (x:AV) (W:List (Value × AV)) (ks:List Int) (i:Nat):List AV:=slots 70 [(2,x),(3,.md true W),(4,.ptr 1 0),(38,.sl 1 false (ints ks)),(39,int ks.length),(40,int i)]
def mI (x:AV) (W:List (Value × AV)) (ks:List Int) (i p:Nat) (d:Int):List AV:=slots 70 [(2,x),(3,.md true W),(4,.ptr 1 0),(9,int d),(10,.ptr p 0),(38,.sl 1 false (ints ks)),(39,int ks.length),(40,int i)]
theorem m3n0_w (W N:List (Value × AV)) (ks:List Int) (i:Nat) (d sq:Int) (hk:ks.length≤1000000) (hq:sq≤100000000) (hq0:0≤sq) (hG:MapGet P 49 W (.agg #[.int .i64 d,.int .i64 sq]) (.lit zopV) (.lit zopV) false) (h:True):Rq 0 19 2 (St.mk (mI nilS W ks i 3 d) (mB0 N++[AObj.box [int d,int sq]]) [ADef.bag 1]) (AEx.exit 6) (St.mk (mI nilS W ks i 3 d) (mB0 N++[AObj.box [int d,int sq]]) [ADef.bag 1]):=by
 have _:=h
 exact loop_exit [ko (Orc.mget (AV.lit zopV) false),kp hG,kO] (others 70 [2,3,4,9,10,38,39,40]) 4
theorem m3y0_w (W N:List (Value × AV)) (ks:List Int) (i:Nat) (d sq:Int) (hk:ks.length≤1000000) (hq:sq≤100000000) (hq0:0≤sq) (o:OP) (hG:MapGet P 49 W (.agg #[.int .i64 d,.int .i64 sq]) (.lit zopV) (op o) true) (ex:AEx) (s':St) (h:Rq 0 19 2 (St.mk (slots 70 [(2,nilS),(3,AV.md true W),(4,AV.ptr 1 0),(9,int d),(10,AV.ptr 3 0),(38,AV.sl 1 false (ints ks)),(39,int ↑ks.length),(40,int ↑i)]) [AObj.gone,AObj.box [AV.md true N],AObj.gone,AObj.box [int d,int (sq+1)]] [ADef.bag 1]) ex s'):Rq 0 19 2 (St.mk (mI nilS W ks i 3 d) (mB0 N++[AObj.box [int d,int sq]]) [ADef.bag 1]) ex s':=by
 exact loop_next [ko (Orc.mget (op o) true),kp hG,kY,kW 56 (sq+1) (sq+1)] (others 70 [2,3,4,9,10,38,39,40]) 4 h
theorem m2s0_w (W N:List (Value × AV)) (ks:List Int) (i:Nat) (d sq n:Int) (hk:ks.length≤1000000) (hi:(i:Int)<(ks.length:Int)) (hx:ks[i]? = some d) (f:Bool) (hG:MapGet P 3 N (.int .i64 d) (int 0) (int n) f) (hI:Rq 0 19 2 { env:=mI nilS W ks i 3 d,H:=mB0 N++[.box [int d,int 1]],defs:=[.bag 1] } (.exit 6) { env:=mI nilS W ks i 3 d,H:=mB0 N++[.box [int d,int sq]],defs:=[.bag 1] }) (hn:¬ sq≤n) (ex:AEx) (s':St) (h:Rq 0 19 1 (St.mk (slots 70 [(2,nilS),(3,AV.md true W),(4,AV.ptr 1 0),(38,AV.sl 1 false (ints ks)),(39,int ↑ks.length),(40,int ↑(i+1))]) [AObj.gone,AObj.box [AV.md true N],AObj.gone] [ADef.bag 1]) ex s'):Rq 0 19 1 (St.mk (mE nilS W ks i) (mB0 N) [ADef.bag 1]) ex s':=by
 exact loop_next [ki ((i:Int)<ks.length),ke (enc1 d) (ints ks) i (el_nat hx),kl (rG [(41,5)]) 4 hI,ko (Orc.mget (int n) f),kp hG,kj (sq≤n),kW 68 (i+1) ↑(i+1)] (others 70 [2,3,4,38,39,40]) 3 h
theorem m2t0_w (W N:List (Value × AV)) (ks:List Int) (i:Nat) (d sq n:Int) (hk:ks.length≤1000000) (hi:(i:Int)<(ks.length:Int)) (hx:ks[i]? = some d) (f:Bool) (hG:MapGet P 3 N (.int .i64 d) (int 0) (int n) f) (hI:Rq 0 19 2 { env:=mI nilS W ks i 3 d,H:=mB0 N++[.box [int d,int 1]],defs:=[.bag 1] } (.exit 6) { env:=mI nilS W ks i 3 d,H:=mB0 N++[.box [int d,int sq]],defs:=[.bag 1] }) (hn:sq≤n) (ex:AEx) (s':St) (h:Rq 0 19 1 (St.mk (slots 70 [(2,AV.own 4 0 0 (List.length [(d,sq)])),(3,AV.md true W),(4,AV.ptr 1 0),(38,AV.sl 1 false (ints ks)),(39,int ↑ks.length),(40,int ↑(i+1))]) [AObj.gone,AObj.box [AV.md true N],AObj.gone,AObj.box [int d,int sq],AObj.arr 0 2 false (encs [(d,sq)])] [ADef.bag 1]) ex s'):Rq 0 19 1 (St.mk (mE nilS W ks i) (mB0 N) [ADef.bag 1]) ex s':=by
 exact loop_next [ki ((i:Int)<ks.length),ke (enc1 d) (ints ks) i (el_nat hx),kl (rG [(41,5)]) 4 hI,ko (Orc.mget (int n) f),kp hG,ki (sq≤n),kne [int d,int sq],kBd 16,kW 68 (i+1) ↑(i+1)] (others 70 [2,3,4,38,39,40]) 5 h
theorem m2e0_w (W N:List (Value × AV)) (ks:List Int) (i:Nat) (hk:ks.length≤1000000) (hi:¬ (i:Int)<(ks.length:Int)) (ex:AEx) (s':St) (h:(AEx.exit 4=ex)∧(St.mk (slots 70 [(2,nilS)]) [AObj.gone,AObj.box [AV.md true N],AObj.gone] [ADef.bag 1]=s')):Rq 0 19 1 (St.mk (mE nilS W ks i) (mB0 N) [ADef.bag 1]) ex s':=by
 obtain ⟨eX,eS⟩:=h
 exact RunL.to ((show Rq 0 19 1 (St.mk (mE nilS W ks i) (mB0 N) [ADef.bag 1]) (AEx.exit 4) (St.mk (slots 70 [(2,nilS)]) [AObj.gone,AObj.box [AV.md true N],AObj.gone] [ADef.bag 1]) from loop_exit [kj ((i:Int)<ks.length)] (others 70 [2]) 3)) eX (SubS.of_eq eS)
theorem m3n1_w (W N:List (Value × AV)) (ks:List Int) (i:Nat) (g:Nat) (v:List D) (hv:v.length≤1000000) (d sq:Int) (hk:ks.length≤1000000) (hq:sq≤100000000) (hq0:0≤sq) (hG:MapGet P 49 W (.agg #[.int .i64 d,.int .i64 sq]) (.lit zopV) (.lit zopV) false) (h:True):Rq 0 19 2 (St.mk (mI (AV.own 4 g 0 v.length) W ks i 5 d) (mB1 N g v++[AObj.box [int d,int sq]]) [ADef.bag 1]) (AEx.exit 6) (St.mk (mI (AV.own 4 g 0 v.length) W ks i 5 d) (mB1 N g v++[AObj.box [int d,int sq]]) [ADef.bag 1]):=by
 have _:=h
 exact loop_exit [ko (Orc.mget (AV.lit zopV) false),kp hG,kO,kp (Go.Vec.encs_ids v)] (others 70 [2,3,4,9,10,38,39,40]) 6
theorem m3y1_w (W N:List (Value × AV)) (ks:List Int) (i:Nat) (g:Nat) (v:List D) (hv:v.length≤1000000) (d sq:Int) (hk:ks.length≤1000000) (hq:sq≤100000000) (hq0:0≤sq) (o:OP) (hG:MapGet P 49 W (.agg #[.int .i64 d,.int .i64 sq]) (.lit zopV) (op o) true) (ex:AEx) (s':St) (h:Rq 0 19 2 (St.mk (slots 70 [(2,AV.own 4 g 0 v.length),(3,AV.md true W),(4,AV.ptr 1 0),(9,int d),(10,AV.ptr 5 0),(38,AV.sl 1 false (ints ks)),(39,int ↑ks.length),(40,int ↑i)]) [AObj.gone,AObj.box [AV.md true N],AObj.gone,AObj.gone,AObj.arr g 2 false (encs v),AObj.box [int d,int (sq+1)]] [ADef.bag 1]) ex s'):Rq 0 19 2 (St.mk (mI (AV.own 4 g 0 v.length) W ks i 5 d) (mB1 N g v++[AObj.box [int d,int sq]]) [ADef.bag 1]) ex s':=by
 exact loop_next [ko (Orc.mget (op o) true),kp hG,kY,kW 56 (sq+1) (sq+1),kp (Go.Vec.encs_ids v)] (others 70 [2,3,4,9,10,38,39,40]) 6 h
theorem m2s1_w (W N:List (Value × AV)) (ks:List Int) (i:Nat) (g:Nat) (v:List D) (hv:v.length≤1000000) (d sq n:Int) (hk:ks.length≤1000000) (hi:(i:Int)<(ks.length:Int)) (hx:ks[i]? = some d) (f:Bool) (hG:MapGet P 3 N (.int .i64 d) (int 0) (int n) f) (hI:Rq 0 19 2 { env:=mI (.own 4 g 0 v.length) W ks i 5 d,H:=mB1 N g v++[.box [int d,int 1]],defs:=[.bag 1] } (.exit 6) { env:=mI (.own 4 g 0 v.length) W ks i 5 d,H:=mB1 N g v++[.box [int d,int sq]],defs:=[.bag 1] }) (hn:¬ sq≤n) (ex:AEx) (s':St) (h:Rq 0 19 1 (St.mk (slots 70 [(2,AV.own 4 g 0 v.length),(3,AV.md true W),(4,AV.ptr 1 0),(38,AV.sl 1 false (ints ks)),(39,int ↑ks.length),(40,int ↑(i+1))]) [AObj.gone,AObj.box [AV.md true N],AObj.gone,AObj.gone,AObj.arr g 2 false (encs v)] [ADef.bag 1]) ex s'):Rq 0 19 1 (St.mk (mE (AV.own 4 g 0 v.length) W ks i) (mB1 N g v) [ADef.bag 1]) ex s':=by
 exact loop_next [ki ((i:Int)<ks.length),ke (enc1 d) (ints ks) i (el_nat hx),kl (rG [(41,5)]) 6 hI,ko (Orc.mget (int n) f),kp hG,kj (sq≤n),kW 68 (i+1) ↑(i+1),kp (Go.Vec.encs_ids v)] (others 70 [2,3,4,38,39,40]) 5 h
theorem m2t1_w (W N:List (Value × AV)) (ks:List Int) (i:Nat) (g:Nat) (v:List D) (hv:v.length≤1000000) (d sq n:Int) (hk:ks.length≤1000000) (hi:(i:Int)<(ks.length:Int)) (hx:ks[i]? = some d) (f:Bool) (hG:MapGet P 3 N (.int .i64 d) (int 0) (int n) f) (hI:Rq 0 19 2 { env:=mI (.own 4 g 0 v.length) W ks i 5 d,H:=mB1 N g v++[.box [int d,int 1]],defs:=[.bag 1] } (.exit 6) { env:=mI (.own 4 g 0 v.length) W ks i 5 d,H:=mB1 N g v++[.box [int d,int sq]],defs:=[.bag 1] }) (hn:sq≤n) (ex:AEx) (s':St) (h:Rq 0 19 1 (St.mk (slots 70 [(2,AV.own 4 (g+1) 0 (List.length v+1)),(3,AV.md true W),(4,AV.ptr 1 0),(38,AV.sl 1 false (ints ks)),(39,int ↑ks.length),(40,int ↑(i+1))]) [AObj.gone,AObj.box [AV.md true N],AObj.gone,AObj.gone,AObj.arr (g+1) 2 false (encs v++encs [(d,sq)])] [ADef.bag 1]) ex s'):Rq 0 19 1 (St.mk (mE (AV.own 4 g 0 v.length) W ks i) (mB1 N g v) [ADef.bag 1]) ex s':=by
 exact loop_next [ki ((i:Int)<ks.length),ke (enc1 d) (ints ks) i (el_nat hx),kl (rG [(41,5)]) 6 hI,ko (Orc.mget (int n) f),kp hG,ki (sq≤n),kq g,kp (Go.Vec.encs_length v).symm,kBd ((List.length v+1) * 16),kW 68 (i+1) ↑(i+1),kp (show ∀ (x:List AV),x∈encs v++[[int d,int sq]]→AV.idsInL [] x=true from (by exact (Am.allm_append (Go.Vec.encs_ids _) (Am.allm_cons rfl Am.allm_nil))))] (others 70 [2,3,4,38,39,40]) 5 h
theorem m2e1_w (W N:List (Value × AV)) (ks:List Int) (i:Nat) (g:Nat) (v:List D) (hv:v.length≤1000000) (hk:ks.length≤1000000) (hi:¬ (i:Int)<(ks.length:Int)) (ex:AEx) (s':St) (h:(AEx.exit 4=ex)∧(St.mk (slots 70 [(2,AV.own 4 g 0 v.length)]) [AObj.gone,AObj.box [AV.md true N],AObj.gone,AObj.gone,AObj.arr g 2 false (encs v)] [ADef.bag 1]=s')):Rq 0 19 1 (St.mk (mE (AV.own 4 g 0 v.length) W ks i) (mB1 N g v) [ADef.bag 1]) ex s':=by
 obtain ⟨eX,eS⟩:=h
 exact RunL.to ((show Rq 0 19 1 (St.mk (mE (AV.own 4 g 0 v.length) W ks i) (mB1 N g v) [ADef.bag 1]) (AEx.exit 4) (St.mk (slots 70 [(2,AV.own 4 g 0 v.length)]) [AObj.gone,AObj.box [AV.md true N],AObj.gone,AObj.gone,AObj.arr g 2 false (encs v)] [ADef.bag 1]) from loop_exit [kj ((i:Int)<ks.length)] (others 70 [2]) 5)) eX (SubS.of_eq eS)
theorem mx0_w (l:List OP) (W N:List (Value × AV)) (ks:List Int) (hk:Cq 36 [.sl 1 true (lls [l])] (.md true W)) (hR:Rq 0 19 0 { env:=slots 70 [(2,nilS),(3,.md true W),(4,.ptr 1 0),(18,.ptr 2 0)],H:=[.map [],.box [.mp 0],.iter none W],defs:=[.bag 1] } (.exit 0) (mX W N)) (hK:CallC P G 44 [.md true N] [] (.ret (.fn (.func 75) [] [.ptr 0 0])) [.box [.md true N]]) (hS:CallC P G 43 [.fn (.func 75) [] [.ptr 0 0]] [.box [.md true N]] (.ret (.sl 1 false (ints ks))) [.gone]) (hL:Rq 0 19 1 { env:=mE nilS W ks 0,H:=mB0 N,defs:=[.bag 1] } (.exit 4) { env:=slots 70 [(2,nilS)],H:=mB0 N,defs:=[.bag 1] }) (h:True):Cq 19 [opl l] nilS:=by
 have _:=h
 exact callC_of [kc [] hk,ko (Orc.av (AV.tup [AV.ptr 1 0,AV.agg [AV.ptr 1 0]])),kl (rG [(0,2),(5,13),(19,51)]) 3 hR,kc [] hK,kc [2] hS,kN 39 (Go.Vec.ints_length ks),kl [36,37] 3 hL]
theorem mx1_w (l:List OP) (W N:List (Value × AV)) (ks:List Int) (hk:Cq 36 [.sl 1 true (lls [l])] (.md true W)) (hR:Rq 0 19 0 { env:=slots 70 [(2,nilS),(3,.md true W),(4,.ptr 1 0),(18,.ptr 2 0)],H:=[.map [],.box [.mp 0],.iter none W],defs:=[.bag 1] } (.exit 0) (mX W N)) (hK:CallC P G 44 [.md true N] [] (.ret (.fn (.func 75) [] [.ptr 0 0])) [.box [.md true N]]) (hS:CallC P G 43 [.fn (.func 75) [] [.ptr 0 0]] [.box [.md true N]] (.ret (.sl 1 false (ints ks))) [.gone]) (g:Nat) (v:List D) (hL:Rq 0 19 1 { env:=mE nilS W ks 0,H:=mB0 N,defs:=[.bag 1] } (.exit 4) { env:=slots 70 [(2,.own 4 g 0 v.length)],H:=mB1 N g v,defs:=[.bag 1] }) (out:AOut) (H':List AObj) (h:(AOut.ret (AV.own 4 g 0 v.length)=out)∧([AObj.gone,AObj.box [AV.md true N],AObj.gone,AObj.gone,AObj.arr g 2 false (encs v)]=H')):CallC P G 19 [opl l] [] out H':=by
 obtain ⟨e1,eH⟩:=h
 exact CallC.heap (e1 ▸ ((show CallC P G 19 [opl l] [] (AOut.ret (AV.own 4 g 0 v.length)) [AObj.gone,AObj.box [AV.md true N],AObj.gone,AObj.gone,AObj.arr g 2 false (encs v)] from callC_of [kc [] hk,ko (Orc.av (AV.tup [AV.ptr 1 0,AV.agg [AV.ptr 1 0]])),kl (rG [(0,2),(5,13),(19,51)]) 3 hR,kc [] hK,kc [2] hS,kN 39 (Go.Vec.ints_length ks),kl [36,37] 3 hL]))) eH
theorem mk_w (N:List (Value × AV)) (h:True):CallC P G 44 [.md true N] [] (AOut.ret (AV.fn (Fn.func 75) [] [AV.ptr 0 0])) [AObj.box [AV.md true N]]:=by
 have _:=h
 exact callC_of []
end Go.Mg


namespace Go.Mg
open Go Go.Am Go.Proofs Go.Seat Go.Lib Go.Shelf Go.RowKit Go.Sort Go.Maps
theorem sortsI (m:Nat):AnyZI.SortsIn Tryz.prog Tryz.sortedI_ren Fence.wide m :=
 ⟨fun blk off cap ss W hH hblk hsz=>callsIn_wide.2 (AnyM.slices_Sort_int Tryz.sortI blk off cap ss W hH hblk hsz),
  fun p cap W=>callsIn_wide.2 (AnyM.slices_Sort_int_none Tryz.sortI p cap W)⟩
def R0:Value→Option (DataW Nat × List MemPlace):=fun _=>some (.nil,[])
def litI:Lit→Int
 | .int _ a=>a
 | _=>0
theorem keyOfI {a:Int} (h:InR a):keyOf P 3 (.int .i64 a)=some (.int .i64 a):=Maps.keyOf_int_mk Tryz.underlying3 h.wf
theorem rd_entI {l:List Int} (hl:∀ k∈l,InR k) {x:MapEntry} (hx:∃ k∈l,x.key = .int .i64 k):∃ y,WideElems.rd P 3 R0 x=some y:=by
 obtain ⟨k,hk,e⟩:=hx
 obtain ⟨key,val,born⟩:=x
 simp only at e; subst e
 exact ⟨_,WideElems.rd_mk (keyOfI (hl k hk)) (yv:=(.nil,[])) rfl⟩
theorem rg_entsI {l:List Int} (hl:∀ k∈l,InR k):∀ {ents:List MapEntry},ents.map (·.key)=l.map (Value.int .i64)→(ents.map (WideElems.rg P 3 R0)).map (fun p=>litI p.1)=l:=by
 induction l with
 | nil=>intro ents h; cases ents<;>simp at h ⊢
 | cons k t ih =>
  intro ents h
  cases ents with
  | nil=>simp at h
  | cons x r =>
   obtain ⟨key,val,born⟩:=x
   simp only [List.map_cons,List.cons.injEq] at h
   obtain ⟨h1,h2⟩:=h
   subst h1
   have e:=WideElems.rg_of (WideElems.rd_mk (P:=P) (born:=born) (val:=val) (R:=R0) (keyOfI (hl k (List.mem_cons_self ..))) (yv:=(.nil,[])) rfl)
   rw [List.map_cons,List.map_cons,e,ih (fun a ha=>hl a (List.mem_cons_of_mem _ ha)) h2]
   rfl
theorem mergedI {l ys ss:List Int} (hp:ys.Perm l) (hs:ys.Pairwise (·<·)) (h:ss.Perm l):ss.mergeSort (fun x y=>decide (x≤y))=ys:=by
 have h1:(ss.mergeSort (fun x y=>decide (x≤y))).Perm ys:=(List.mergeSort_perm ..).trans (h.trans hp.symm)
 refine h1.eq_of_pairwise (le:=fun a b=>a≤b) (fun a b _ _ k1 k2=>Int.le_antisymm k1 k2) ?_ (hs.imp fun k=>Int.le_of_lt k)
 have:=List.pairwise_mergeSort (le:=fun x y:Int=>decide (x≤y)) (fun a b c k1 k2=>by
  rw [decide_eq_true_iff] at *; exact Int.le_trans k1 k2) (fun a b=>by
  rw [Bool.or_eq_true,decide_eq_true_iff,decide_eq_true_iff]; exact Int.le_total a b) ss
 exact this.imp fun k=>of_decide_eq_true k
set_option maxHeartbeats 1000000 in
theorem sortedI_c (C:List Vec.D) (ys:List Int) (hl:∀ d∈C,InR d.1) (hlen:C.length≤1000000) (hp:ys.Perm (dvs C)) (hs:ys.Pairwise (·<·)) :
 CallC P G 43 [.fn (.func 75) [] [.ptr 0 0]] [.box [.md true (snE C)]] (.ret (.sl 1 false (Vec.ints ys))) [.gone]:=by
 intro V vs hH hG hr
 obtain ⟨v0,rfl⟩:∃ v0,vs=[v0]:=by
  have:=hr.1
  match vs,this with
  | [a],_=>exact ⟨a,rfl⟩
 obtain ⟨us,ws,rfl,hu,hw⟩:=rep_fn hr.head
 obtain rfl:us=[]:=List.eq_nil_of_length_eq_zero hu.1
 obtain ⟨q,rfl⟩:∃ q,ws=[q]:=by
  have:=hw.1
  match ws,this with
  | [a],_=>exact ⟨a,rfl⟩
 obtain ⟨_,rfl⟩:=rep_ptr hw.head
 have hHl:V.H.length=1:=by rw [hH]; rfl
 have h1:V.H[0]? = some (.box [.md true (snE C)]):=by rw [hH]; rfl
 obtain ⟨tb,cs,hbox,hcs⟩:=hG.obj 0 _ h1
 obtain ⟨c0,rfl⟩:∃ c0,cs=[c0]:=by
  have:=hcs.1
  match cs,this with
  | [a],_=>exact ⟨a,rfl⟩
 have hmd:PRep V.w V.M (.md true (snE C)) c0:=rep_md hcs.head
 cases hmd with
 | md _ _ es0 hpe r ents clock hnm hheap hkeys hnd hrr hbn =>
 obtain ⟨hbn1,hbn2⟩:=hbn rfl
 have hlt1:V.ρ 0<V.w.heap.size:=hG.lt 0 (by omega)
 have hltr:r<V.w.heap.size:=(Array.getElem?_eq_some_iff.1 hheap).1
 let l0:List Int:=es0.map fun e=>match e.1 with | .int _ a=>a | _=>0
 have hes:∀ e∈es0,∃ d∈C,e=(.int .i64 d.1,int d.2):=fun e he=>by
  obtain ⟨d,hd,rfl⟩:=List.mem_map.1 (hpe.mem_iff.1 he)
  exact ⟨d,hd,rfl⟩
 have hk:ents.map (·.key)=l0.map (Value.int .i64):=by
  rw [hkeys,List.map_map]
  refine List.map_congr_left fun e he=>?_
  obtain ⟨d,_,rfl⟩:=hes e he
  rfl
 have hl0p:l0.Perm (dvs C):=by
  have:=hpe.map (fun e:Value × AV=>match e.1 with | .int _ a=>a | _=>0)
  have e:(snE C).map (fun e:Value × AV=>match e.1 with | .int _ a=>a | _=>0)=dvs C:=by
   unfold snE dvs
   rw [List.map_map]
   exact List.map_congr_left fun d _=>rfl
  rw [e] at this
  exact this
 have hl0:∀ k∈l0,InR k:=fun k hk=>by
  obtain ⟨d,hd,rfl⟩:=List.mem_map.1 (hl0p.mem_iff.1 hk)
  exact hl d hd
 have hel:ents.length=C.length:=by
  have h2:=congrArg List.length hk
  have h3:=hl0p.length_eq
  simp [dvs] at h2 h3
  omega
 have hmem:∀ x∈ents,∃ k∈l0,x.key = .int .i64 k:=fun x hx=>by
  have:x.key∈ents.map (·.key):=List.mem_map_of_mem hx
  rw [hk] at this
  obtain ⟨k,hk1,hk2⟩:=List.mem_map.1 this
  exact ⟨k,hk1,hk2.symm⟩
 have hown:V.w.ownsMap Tryz.prog 3 R0 r ents.length (.map ((ents.map (WideElems.rg P 3 R0)).foldr DataW.insert [])) :=
  ⟨ents.toArray,clock,hheap,⟨by simp only [List.size_toArray]; unfold maxLen; omega,⟨fun x hx=>hbn2 x (by simpa using hx),hbn1,by rw [show ents.toArray.toList=ents from rfl,hkeys]; exact hnd⟩,fun x hx=>rd_entI hl0 (hmem x (by simpa using hx))⟩,by simp,by simp⟩
 have hD:intKeys (.map ((ents.map (WideElems.rg P 3 R0)).foldr DataW.insert []))=((ents.map (WideElems.rg P 3 R0)).foldr DataW.insert []).map fun p=>litI p.1:=List.map_congr_left fun p _=>(by cases p.1<;>rfl)
 have hperm:(intKeys (.map ((ents.map (WideElems.rg P 3 R0)).foldr DataW.insert []))).Perm l0:=by
  rw [hD]
  have:=(WideShapes.sorted_perm (ents.map (WideElems.rg P 3 R0))).map (fun p=>litI p.1)
  rwa [rg_entsI hl0 hk] at this
 have hsize:Maps.size (.map ((ents.map (WideElems.rg P 3 R0)).foldr DataW.insert []))=C.length:=by
  rw [Maps.size_eq,(WideShapes.sorted_perm _).length_eq,List.length_map]; exact hel
 have hseq:SeqGives Fence.wide 2 Tryz.prog 75 #[.pointer (some ⟨V.ρ 0,0,none⟩)] encZ (fun ss=>ss.Perm (intKeys (.map ((ents.map (WideElems.rg P 3 R0)).foldr DataW.insert [])))) (Maps.size (.map ((ents.map (WideElems.rg P 3 R0)).foldr DataW.insert []))) V.w :=
  AnyZI.keys_gives (ρ:=Tryz.keysI_ren) { Tryz.keysI with } Fence.wide _ trivial rfl (by omega) (V.ρ 0) r _ _ V.w hlt1 (by simp [World.cell?,hbox]) hown
 have hcon:=AnyZI.sorted_in Tryz.sortedI Fence.wide 5 trivial trivial trivial trivial rfl (by omega) (sortsI _) (enters_of Tryz.func74 (by kernel_rfl) rfl) 75 #[.pointer (some ⟨V.ρ 0,0,none⟩)] trivial (enters_of Tryz.func75 (by kernel_rfl) rfl) _ _ (by rw [hsize]; unfold maxLen; omega) (by rw [hsize]; omega) V.w hseq
 refine callsIn_wide.2 ((callsIn_wide.1 hcon).drawn.mono fun e w' he=>?_)
 obtain ⟨⟨v,ss,rfl,hss,hrow,_,hb⟩,hdr⟩:=he
 have hdr:V.w.drawn≤w'.drawn:=hdr.elim (fun h=>by cases h) id
 rw [mergedI (hp.trans hl0p.symm) hs (hss.trans hperm)] at hrow
 have hss2:ss.length=ys.length:=by
  have h1:=(hss.trans hperm).length_eq
  have h2:=hp.length_eq
  have h3:=hl0p.length_eq
  omega
 have hst:Step V { w:=w',M:=fun x=>V.M x∧x<V.w.heap.size,H:=[.gone],ρ:=V.ρ }:={
  os:=hb.os
  tape:=hb.tape
  output:=hb.output
  size:=hb.size
  drawn:=hdr
  keep:=fun b hlt _=>⟨hb.block b hlt,⟨fun h=>h.1,fun h=>⟨h,hlt⟩⟩⟩
  data:=fun b hlt hn=>⟨hb.block b hlt,fun h=>hn h.1⟩
  hlen:=by rw [hHl]; exact Nat.le_refl _
  fresh:=fun id hid=>.inl ⟨by rw [hHl]; exact hid,rfl⟩
  obj:=fun id hid=>by
   unfold ObjStep
   rw [hH]
   match id,hid with
   | 0,_=>exact rfl
   | n+1,hid=>omega }
 refine ⟨_,rfl,hst,?_,rfl,?_⟩
 · exact {
    lt:=fun id hid=>by
     have:id<1:=hid
     exact Nat.lt_of_lt_of_le (hG.lt id (by omega)) hb.size
    obj:=fun id o ho=>by
     match id,ho with
     | 0,ho=>injection ho with ho; subst ho; exact trivial
    inj:=fun i j hi hj e=>hG.inj i j (by have:i<1:=hi; omega) (by have:j<1:=hj; omega) e
    mutb:=fun id o ho hop=>by
     match id,ho with
     | 0,ho=>injection ho with ho; subst ho; cases hop
    glob:=hG.glob_step hst }
 · rcases hrow.2 with ⟨rfl,hz⟩ | ⟨g,cap,cur,rfl,hbase,hg,hncap,hcapm,hcsz,hcur⟩
   · have:ys=[]:=List.eq_nil_of_length_eq_zero (by omega)
     subst this
     exact Sub.nil 1 _ _ (.pure _ _ (.lit _))
   · rw [hss2]
     have hcell:∀ k (hk:k<ys.length),cur[k]? = some (.int .i64 ys[k]):=fun k hk=>by
      have:(cur.toList.take (ss.length * 1))[k]? = some (.int .i64 ys[k]):=by
       rw [hcur,List.getElem?_map,List.getElem?_eq_getElem hk,Option.map_some]
      rw [List.getElem?_take] at this
      split at this
      · simpa using this
      · cases this
     have key:PRep w' (fun x=>V.M x∧x<V.w.heap.size) (.sl 1 false (Vec.ints ys)) (.slice (some ⟨g,0,none⟩) (Vec.ints ys).length cap) :=
      .sl 1 false (Vec.ints ys) (some ⟨g,0,none⟩) cap g 0 (fun k j=>((ys[k]?).map (Value.int .i64)).getD undef) (fun _=>rfl) (fun _ _ h=>by have:=h.2; omega) (by rw [Vec.ints_length]; omega) (fun h=>by cases h)
       (fun x hx=>by obtain ⟨b,_,rfl⟩:=List.mem_map.1 hx; rfl)
       (fun k j hk hj=>by
        rw [Vec.ints_length] at hk
        have:j=0:=by omega
        subst this
        rw [List.getElem?_eq_getElem hk,Nat.zero_add,Nat.mul_one,Nat.add_zero]
        simp only [World.cell?,hg]
        exact hcell k hk)
       (fun k j hk hj=>by
        rw [Vec.ints_length] at hk
        rw [List.getElem?_eq_getElem hk]; rfl)
       (fun k j hk hj=>by
        rw [Vec.ints_length] at hk
        have:j=0:=by omega
        subst this
        rw [List.getElem?_eq_getElem hk]
        have e:(Vec.ints ys).getD k []=Vec.enc1 ys[k]:=by rw [List.getD_eq_getElem?_getD]; simp [Vec.ints,List.getElem?_eq_getElem hk]
        rw [e]
        exact .lit _)
     rw [Vec.ints_length] at key
     exact Rep.pure _ _ key
end Go.Mg


namespace Go.Am
open Go
theorem boxSub_step {G:Nat→Option (List AV)} {V:View} {b j:Nat} {cells:List AV} {x y:AV} (hG:HeapRep G V) (hb:V.H[b]? = some (.box cells)) (hj:cells[j]? = some x) (hxy:Sub x y):∃ V':View,V'.w=V.w∧V'.H=V.H.set b (.box (cells.set j y))∧Step V V'∧HeapRep G V':=by
 obtain ⟨t,vs,h1,h2⟩:=hG.obj b _ hb
 have hjl:=(List.getElem?_eq_some_iff.1 hj).1
 have hx:Rep V x (vs.getD j undef):=by
  have:=h2.2 j hjl
  rwa [show cells.getD j .dead=x by rw [List.getD_eq_getElem?_getD,hj]; rfl] at this
 have hr:Reps V (cells.set j y) vs:=by
  have:=h2.set j (hxy V _ hx)
  have e:vs.set j (vs.getD j undef)=vs:=by
   apply List.ext_getElem?
   intro i
   rw [List.getElem?_set]
   split
   · rename_i e; subst e
     have:j<vs.length:=by rw [h2.1]; exact hjl
     rw [if_pos this,List.getD_eq_getElem?_getD,List.getElem?_eq_getElem this]; rfl
   · rfl
  rwa [e] at this
 obtain ⟨V2,l1,l2,l3,l4⟩:=step_set (obj:=.box cells) (obj':=.box (cells.set j y)) (w':=V.w) hG hb rfl h1 h1 rfl (fun _ _=>rfl) rfl rfl rfl rfl trivial (fun V' hw hs=>⟨t,vs,by rw [hw]; exact h1,hr.step hs⟩)
 exact ⟨V2,l1,l2,l3,l4⟩
theorem Sub.mdPerm {it:Bool} {es es':List (Value × AV)} (h:es.Perm es'):Sub (.md it es) (.md it es'):=fun V v hr=>by
 have:=rep_md hr
 cases this with
 | md _ _ es0 hp r ents clock hb hc hk hd hrr hbn=>exact .pure _ _ (.md it _ es0 (hp.trans h) r ents clock hb hc hk hd hrr hbn)
theorem CallC.frzMapOut {P:Program} {G:Nat→Option (List AV)} {f:FuncId} {args:List AV} {H H':List AObj} {id:Nat} {es:List (Value × AV)} (hp:∀ e∈es,∀ (V:View) (v:Value),Rep V e.2 v→PRep V.w V.M e.2 v) (h:CallC P G f args H (.ret (.mp id)) H') (hH:H'[id]? = some (.map es)):CallC P G f args H (.ret (.md true es)) (H'.set id .gone) :=
 fun V vs hV hG hr=>(h V vs hV hG hr).mono fun e w' he=>by
  obtain ⟨V',rfl,k2,k3,k4,k5⟩:=he
  cases e with
  | returned v =>
   obtain ⟨V1,l1,l2,l3,l4,l5⟩:=frzMap_sound (by rw [k4]; exact hH) hp k3 k5
   exact ⟨V1,l1,k2.trans l3,l4,by rw [l2,k4],l5⟩
  | panicked _=>exact k5.elim
  | outgrown=>exact k5.elim
end Go.Am
namespace Go.Mg
open Go Go.Am Go.Proofs Go.Seat Go.Vec Go.Cdc Go.Ops
theorem nd_if (v b:Int):(if b > v then b else v)=max v b:=by split<;>omega
theorem nd_putM {S:List D} (h:∀ d∈S,InR d.1) {a:Int} (ha:InR a) (b:Int):MapPut P 3 (snE S) (.int .i64 a) (int (if b > Vec.atV a S then b else Vec.atV a S)) (snE (ndPut S (a,b))):=by
 rw [nd_if]; exact sn_put h ha _
theorem ndF_rng:∀ {ds S:List D},(∀ d∈S,InR d.1)→(∀ d∈ds,InR d.1)→∀ d∈ds.foldl ndPut S,InR d.1
 | [],_,h,_=>h
 | x::ds,S,h,k=>ndF_rng (ds:=ds) (snPut_rng h (k x List.mem_cons_self)) fun d hd=>k d (List.mem_cons_of_mem _ hd)
theorem nl_loop (o:OP) (hv:okO o=true) (hl:o.cx.length≤1000000000):∀ n k S,(∀ d∈S,InR d.1)→o.cx.length - k=n→k≤o.cx.length →
 Rq 4 71 0 (ltS o (nH o S) k) (.exit 0) { env:=slots 31 [(0,.yl 0),(1,.ptr 1 0)],H:=nH o ((o.cx.drop k).foldl ndPut S) }:=by
 intro n
 induction n with
 | zero =>
  intro k S _ hn hk
  rw [List.drop_eq_nil_of_le (by omega)]
  exact nl_e o S k hl (by omega) trivial
 | succ n ih =>
  intro k S hS hn hk
  have hlt:k<o.cx.length:=by omega
  have hx:o.cx[k]? = some (o.cx[k].1,o.cx[k].2):=List.getElem?_eq_getElem hlt
  have hr:=cx_rng hv _ (List.getElem_mem hlt)
  have nx:=ih (k+1) (ndPut S (o.cx[k].1,o.cx[k].2)) (snPut_rng hS hr) (by omega) (by omega)
  rw [List.drop_eq_getElem_cons hlt]
  obtain ⟨f,hg⟩:=sn_get hS hr
  exact nl_t o S _ k _ _ hl (by omega) hx (nz_w o S _ _ _ _ f hg (nd_putM hS hr _) trivial) _ _ nx
theorem lat_rng {o:OP} (hv:okO o=true):∀ d∈lat o,InR d.1:=fun d hd=>by
 have:=lat_dev hv d hd
 unfold InR; omega
theorem nlat_c (o:OP) (S:List D) (hv:okO o=true) (hS:∀ d∈S,InR d.1) (hl:o.cx.length≤1000000000):CallC P G 71 [.yl 0,.ptr 1 0] (nH o S) (.ret (.tup [])) (nH o ((lat o).foldl ndPut S)):=by
 have h:=nl_loop o hv hl _ 0 S hS rfl (Nat.zero_le _)
 rw [List.drop_zero] at h
 have hd:=isDot_iff.1 (valid_of hv).1
 simp only at hd
 unfold lat
 rw [List.foldl_append]
 by_cases hs:1<o.sq
 · rw [if_pos hs]
   have hS':=ndF_rng hS (cx_rng hv)
   have hr:InR o.dv:=by unfold InR; omega
   obtain ⟨f,hg⟩:=sn_get hS' hr
   exact na_t o S _ _ hl hs hd.2.2.2 (ny_w o _ _ _ _ _ f hg (nd_putM hS' hr _) trivial) h trivial
 · rw [if_neg hs]
   exact na_1 o S _ hl hs h trivial
def mrE (W:List (Value × AV)):List AV:=slots 70 [(2,nilS),(3,.md true W),(4,.ptr 1 0),(18,.ptr 2 0)]
theorem c19_is:c19 = .seq (.region 4 ops19 false) (Code.tl c19):=by kernel_rfl
theorem ops19_is:ops19.toList=[op19 0,op19 1]:=by kernel_rfl
def Mr (M0:List OP):Type:={ x:Option (Value × AV) × List OP × List (Value × AV) // ∃ lf,x.2.2=lf.map en∧(x.2.1++lf).Perm M0 }
def ndS (dn:List OP):List D:=(lats dn).foldl ndPut []
def mrT (W:List (Value × AV)) {M0:List OP} (σ:Mr M0):St:={ env:=mrE W,H:=[.map (snE (ndS σ.1.2.1)),.box [.mp 0],.iter σ.1.1 σ.1.2.2],defs:=[.bag 1] }
theorem mr_round (W left:List (Value × AV)) (kk:Value) (o:OP) (S S':List D) (hF:CallC P G 71 [.yl 0,.ptr 1 0] (nH o S) (.ret (.tup [])) (nH o S')) :
 PieceC P G none 0 (Code.tl c19) ⟨putA (putA (mrE W) (some 19) (.tup [.lit (.bool true),.lit kk,op o])) (some 20) (Am.bool true),[.map (snE S),.box [.mp 0],.iter (some (kk,op o)) left],[.bag 1]⟩ ⟨mrE W,[.map (snE S'),.box [.mp 0],.iter (some (kk,op o)) left],[.bag 1]⟩ :=
 piece_of [kt (Eq.refl true),kc [] (@latest_w o trivial),ko (Orc.range [2,3,6,18,19,20,21,22,23,24] 0 none AEx.normal [] []),kc [6,4,1,0] hF,kp (show ∀ (e:Value × AV),e∈snE S'→AV.idsIn [] (Prod.snd e)=true from sn_in _),kp (show ∀ (e:Value × AV),e∈snE S→AV.idsIn [] (Prod.snd e)=true from sn_in _),kp (show ∀ (e:Value × AV),e∈snE S'→AV.idsLt 3 (Prod.snd e)=true from sn_ids _ _)] (others 70 [2,3,4,18]) 3 (by kernel_rfl)
theorem mr_exit (W C left:List (Value × AV)) (cur:Option (Value × AV)):runC P G none 0 (Code.tl c19) ⟨putA (putA (mrE W) (some 19) (.tup [.lit (.bool false)])) (some 20) (Am.bool false),[.gone,.box [.md true C],.iter cur left],[.bag 1]⟩ [Orc.br false] =
 some (.exit 0,⟨putA (putA (mrE W) (some 19) (.tup [.lit (.bool false)])) (some 20) (Am.bool false),[.gone,.box [.md true C],.iter cur left],[.bag 1]⟩,[],[(false:Bool)=false]):=by kernel_rfl
theorem mr_weak (W C left:List (Value × AV)) (cur:Option (Value × AV)):weakA 0 (others 70 [2,3,4]) 2 ⟨putA (putA (mrE W) (some 19) (.tup [.lit (.bool false)])) (some 20) (Am.bool false),[.gone,.box [.md true C],.iter cur left],[.bag 1]⟩=some (mX W C,[]):=by kernel_rfl
def cN (M0:List OP):List D:=(i512.filter fun d=>decide (d∈dvs (lats M0))).map fun d=>(d,ndOf d M0)
theorem mem_at:∀ {W:List D} {x:D},(dvs W).Nodup→(x∈W↔x.1∈dvs W∧x.2=Vec.atV x.1 W)
 | [],x,_=>by simp
 | y::W,x,h=>by
  have h':=List.nodup_cons.1 (show (y.1::dvs W).Nodup from h)
  show x∈y::W↔x.1∈y.1::dvs W∧x.2=(if y.1=x.1 then y.2 else Vec.atV x.1 W)
  rw [List.mem_cons,List.mem_cons,mem_at h'.2]
  by_cases e:y.1=x.1
  · rw [if_pos e]
    constructor
    · rintro (rfl | ⟨h1,h2⟩)
      · exact ⟨.inl rfl,rfl⟩
      · exact absurd (e ▸ h1) h'.1
    · rintro ⟨_,h2⟩
      exact .inl (Prod.ext e.symm h2)
  · rw [if_neg e]
    constructor
    · rintro (rfl | ⟨h1,h2⟩)
      · exact absurd rfl e
      · exact ⟨.inr h1,h2⟩
    · rintro ⟨h1 | h1,h2⟩
      · exact absurd h1.symm e
      · exact .inr ⟨h1,h2⟩
theorem lats_perm {a b:List OP} (h:a.Perm b):(lats a).Perm (lats b):=(h.map lat).flatten
theorem lats_mem {M0:List OP} {d:D}:d∈lats M0↔∃ o∈M0,d∈lat o:=by
 unfold lats
 rw [List.mem_flatten]
 constructor
 · rintro ⟨l,hl,hd⟩
   obtain ⟨o,ho,rfl⟩:=List.mem_map.1 hl
   exact ⟨o,ho,hd⟩
 · rintro ⟨o,ho,hd⟩; exact ⟨_,List.mem_map_of_mem ho,hd⟩
theorem keys_rng {M0:List OP} (hv:∀ o∈M0,okO o=true) {d:Int} (h:d∈dvs (lats M0)):0≤d∧d<512:=by
 obtain ⟨x,hx,rfl⟩:=List.mem_map.1 h
 obtain ⟨o,ho,hd⟩:=lats_mem.1 hx
 have:=lat_dev (hv o ho) x hd
 exact ⟨this.1,this.2.1⟩
theorem cN_keys {M0:List OP}:dvs (cN M0)=i512.filter fun d=>decide (d∈dvs (lats M0)):=by
 unfold cN dvs
 rw [List.map_map]
 exact (List.map_congr_left (g:=id) fun _ _=>rfl).trans (List.map_id _)
theorem cN_sorted (M0:List OP):(dvs (cN M0)).Pairwise (·<·):=by rw [cN_keys]; exact i512_sorted.filter _
theorem lt_nodup {l:List Int} (h:l.Pairwise (·<·)):l.Nodup:=h.imp fun h e=>by omega
theorem cN_mem {M0:List OP} (hv:∀ o∈M0,okO o=true) {x:D}:x∈cN M0↔x.1∈dvs (lats M0)∧x.2=ndOf x.1 M0:=by
 unfold cN
 rw [List.mem_map]
 constructor
 · rintro ⟨d,hd,rfl⟩
   exact ⟨of_decide_eq_true (List.mem_filter.1 hd).2,rfl⟩
 · rintro ⟨h1,h2⟩
   exact ⟨x.1,List.mem_filter.2 ⟨mem_i512.2 (keys_rng hv h1),decide_eq_true h1⟩,Prod.ext rfl h2.symm⟩
theorem nodup_keys {W:List D} (h:(dvs W).Nodup):W.Nodup:=by
 unfold dvs List.Nodup at h
 rw [List.pairwise_map] at h
 exact h.imp fun h e=>h (by rw [e])
theorem ndS_perm {dn M0:List OP} (h:dn.Perm M0) (hv:∀ o∈M0,okO o=true):(ndS dn).Perm (cN M0):=by
 have hn:(dvs (ndS dn)).Nodup:=nd_nd (W:=[]) .nil
 refine (List.perm_ext_iff_of_nodup (nodup_keys hn) (nodup_keys (lt_nodup (cN_sorted M0)))).2 fun x=>?_
 rw [mem_at hn,cN_mem hv,ndS,nd_keys,nd_at,ndOf,ndA_perm x.1 (lats_perm h)]
 have:x.1∈dvs (lats dn)↔x.1∈dvs (lats M0):=((lats_perm h).map (·.1)).mem_iff
 rw [this]
 show (x.1∈dvs []∨_)∧_=ndA x.1 (lats M0) 0↔_
 simp [dvs]
theorem atV_cN {M0:List OP} (hv:∀ o∈M0,okO o=true) {d:Int} (h:d∈dvs (cN M0)):Vec.atV d (cN M0)=ndOf d M0:=by
 have h1:d∈dvs (lats M0):=by
  rw [cN_keys] at h
  exact of_decide_eq_true (List.mem_filter.1 h).2
 exact ((mem_at (lt_nodup (cN_sorted M0))).1 ((cN_mem hv (x:=(d,ndOf d M0))).2 ⟨h1,rfl⟩)).2.symm
theorem mr_run (M0:List OP) (hg:Gvs M0) (W:List (Value × AV)):Rq 0 19 0 { env:=slots 70 [(2,nilS),(3,.md true W),(4,.ptr 1 0),(18,.ptr 2 0)],H:=[.map [],.box [.mp 0],.iter none (M0.map en)],defs:=[.bag 1] } (.exit 0) (mX W (snE (cN M0))):=by
 show RunL P G none 0 c19 _ _ _
 rw [c19_is]
 have hv:∀ o∈M0,okO o=true:=fun o ho=>(hg o ho).2
 have key:=RunL.iter (P:=P) (G:=G) (r:=none) (n0:=0) (m0:=4) (ta:=19) (it:=18) (id:=2) (ops:=ops19) (os:=[op19 1]) (o1:=op19 0) (rest:=Code.tl c19) (ex:=.exit 0) (Sg:=Mr M0) (mrT W) (fun σ=>σ.1.2.2) (mX W (snE (cN M0)))
  ops19_is (by kernel_rfl) (by kernel_rfl) (by kernel_rfl) (fun σ=>rfl) (fun σ=>⟨σ.1.1,rfl⟩) ?_ ?_ (fun h=>by cases h)
 · exact key _ ⟨(none,[],M0.map en),M0,rfl,.refl _⟩ rfl
 · intro ⟨⟨cur,dn,left⟩,lf,hlf,hdn⟩ e left' hp
   have hlf:left=lf.map en:=hlf
   have hp:left.Perm (e::left'):=hp
   have hdn:(dn++lf).Perm M0:=hdn
   rw [hlf] at hp
   obtain ⟨lf2,h2,hj⟩:=perm_lift hp
   cases lf2 with
   | nil=>cases h2
   | cons o lf' =>
    rw [List.map_cons] at h2
    injection h2 with h2 h3
    subst h2 h3
    have hdn':((dn++[o])++lf').Perm M0:=by
     refine List.Perm.trans ?_ hdn
     rw [List.append_assoc]
     exact (hj.symm).append_left dn
    have ho:Gv o:=hg o (hdn'.mem_iff.1 (by simp))
    have hS:∀ d∈ndS dn,InR d.1:=ndF_rng (S:=[]) (fun _ h=>(by cases h)) fun d hd=>by
     obtain ⟨x,hx,hdx⟩:=lats_mem.1 hd
     exact lat_rng (hv x (hdn.mem_iff.1 (List.mem_append_left _ hx))) d hdx
    refine ⟨⟨(some (en o),dn++[o],lf'.map en),lf',rfl,hdn'⟩,putA (putA (mrE W) (some 19) (.tup [.lit (.bool true),.lit (kV o),op o])) (some 20) (Am.bool true),rfl,by kernel_rfl,?_⟩
    have h1:=mr_round W (lf'.map en) (kV o) o (ndS dn) _ (nlat_c o (ndS dn) ho.2 hS ho.1.okn.cx)
    have e2:(lat o).foldl ndPut (ndS dn)=ndS (dn++[o]):=by
     unfold ndS lats
     rw [List.map_append,List.flatten_append,List.foldl_append]
     simp
    rw [e2] at h1
    exact h1
 · intro ⟨⟨cur,dn,left⟩,lf,hlf,hdn⟩ h0
   have hlf:left=lf.map en:=hlf
   have h0:left=[]:=h0
   have hdn:(dn++lf).Perm M0:=hdn
   obtain rfl:lf=[]:=by
    rw [h0] at hlf
    cases lf with
    | nil=>rfl
    | cons _ _=>cases hlf
   subst h0
   rw [List.append_nil] at hdn
   refine ⟨putA (putA (mrE W) (some 19) (.tup [.lit (.bool false)])) (some 20) (Am.bool false),by kernel_rfl,?_⟩
   intro V0 V a h0 hst hG hok
   have hH:V.H=[.map (snE (ndS dn)),.box [.mp 0],.iter cur []]:=hok.H
   obtain ⟨V1,k1,k2,k3,k4⟩:=frzBox_step (b:=1) (j:=0) (cells:=[.mp 0]) (x:=.mp 0) (y:=.md true (snE (ndS dn))) (z:=[]) (H1:=[.gone,.box [.mp 0],.iter cur []]) (ps:=[∀ e∈snE (ndS dn),e.2.pureB=true]) hG (by rw [hH]; rfl) rfl rfl (by rw [hH]; rfl) ⟨fun e he=>by obtain ⟨x,_,rfl⟩:=List.mem_map.1 he; rfl,trivial⟩
   obtain ⟨V2,l1,l2,l3,l4⟩:=boxSub_step (b:=1) (j:=0) (cells:=[.md true (snE (ndS dn))]) (x:=.md true (snE (ndS dn))) (y:=.md true (snE (cN M0))) k4 (by rw [k2]; rfl) rfl (Sub.mdPerm ((ndS_perm hdn hv).map _))
   have hok2:StOk V2 ⟨putA (putA (mrE W) (some 19) (.tup [.lit (.bool false)])) (some 20) (Am.bool false),[.gone,.box [.md true (snE (cN M0))],.iter cur []],[.bag 1]⟩ a:=⟨hok.env.step (k3.trans l3),by rw [l2,k2]; rfl,hok.defs.step (k3.trans l3)⟩
   rw [← k1,← l1]
   refine Go.wpIn_mono (runC_sound _ (mr_exit W (snE (cN M0)) [] cur) ⟨rfl,trivial⟩ V0 V2 a h0 (hst.trans (k3.trans l3)) l4 hok2) fun e a2 w2 hE=>?_
   obtain ⟨V3,rfl,m1,m2,m3,m4⟩:=hE
   obtain ⟨V4,n1,n2,n3,n4⟩:=weak_sound (mr_weak W (snE (cN M0)) [] cur) trivial h0 m1 m2 m3
   exact ⟨V4,n1,n2,n3,n4,by cases e<;>first | exact m4.elim | exact m4⟩
end Go.Mg


namespace Go.Mg
open Go Go.Am Go.Proofs Go.Seat Go.Vec Go.Cdc Go.Ops
theorem en_none' {m:List OP} (h:∀ x∈m,Rgd x) {d s:Int} (hd:InR d) (hs:InR s) (hn:has m d s=false) (z:AV):MapGet P 49 (m.map en) (dotV d s) z z false :=
 ⟨keyedD,keyD hd hs,en_keys h,.inr ⟨rfl,rfl,fun e he hq=>by
  obtain ⟨x,hx,rfl⟩:=List.mem_map.1 he
  obtain ⟨h1,h2⟩:=dotV_inj (show dotV x.dv x.sq=dotV d s from hq)
  have:has m d s=true:=has_iff.2 ⟨x,hx,by show (x.dv,x.sq)=_; rw [h1,h2]⟩
  rw [hn] at this; cases this⟩⟩
theorem en_get' {m:List OP} (h:∀ x∈m,Rgd x) {d s:Int} (hd:InR d) (hs:InR s) (hn:has m d s=true) (z:AV):∃ o,MapGet P 49 (m.map en) (dotV d s) z (op o) true:=by
 obtain ⟨o,ho,e⟩:=has_iff.1 hn
 refine ⟨o,keyedD,keyD hd hs,en_keys h,.inl ⟨rfl,List.mem_map.2 ⟨o,ho,?_⟩⟩⟩
 injection e with e1 e2
 subst e1 e2; rfl
section
variable {m:List OP} (hm:∀ x∈m,Rgd x) (N:List (Value × AV)) (ks:List Int) (hk:ks.length≤1000000)
include hm hk
theorem m3_0 (i:Nat) {d:Int} (hd:InR d):∀ (n:Nat) (s:Int),0≤s→s+n≤100000000→has m d (frs m d n s)=false →
 Rq 0 19 2 { env:=mI nilS (m.map en) ks i 3 d,H:=mB0 N++[.box [int d,int s]],defs:=[.bag 1] } (.exit 6) { env:=mI nilS (m.map en) ks i 3 d,H:=mB0 N++[.box [int d,int (frs m d n s)]],defs:=[.bag 1] }
 | 0,s,h0,h1,hf=>m3n0_w _ N ks i d s hk (by omega) h0 (en_none' hm hd (by unfold InR; omega) (by unfold frs at hf; exact hf) _) trivial
 | n+1,s,h0,h1,hf=>by
  unfold frs at hf ⊢
  by_cases hh:has m d s=true
  · rw [if_pos hh] at hf ⊢
    obtain ⟨o,hg⟩:=en_get' hm hd (s:=s) (by unfold InR; omega) hh (.lit zopV)
    exact m3y0_w _ N ks i d s hk (by omega) h0 o hg _ _ (m3_0 i hd n (s+1) (by omega) (by omega) hf)
  · rw [if_neg hh] at hf ⊢
    exact m3n0_w _ N ks i d s hk (by omega) h0 (en_none' hm hd (by unfold InR; omega) (by simpa using hh) _) trivial
theorem m3_1 (i g:Nat) (v:List D) (hv:v.length≤1000000) {d:Int} (hd:InR d):∀ (n:Nat) (s:Int),0≤s→s+n≤100000000→has m d (frs m d n s)=false →
 Rq 0 19 2 { env:=mI (.own 4 g 0 v.length) (m.map en) ks i 5 d,H:=mB1 N g v++[.box [int d,int s]],defs:=[.bag 1] } (.exit 6) { env:=mI (.own 4 g 0 v.length) (m.map en) ks i 5 d,H:=mB1 N g v++[.box [int d,int (frs m d n s)]],defs:=[.bag 1] }
 | 0,s,h0,h1,hf=>m3n1_w _ N ks i g v hv d s hk (by omega) h0 (en_none' hm hd (by unfold InR; omega) (by unfold frs at hf; exact hf) _) trivial
 | n+1,s,h0,h1,hf=>by
  unfold frs at hf ⊢
  by_cases hh:has m d s=true
  · rw [if_pos hh] at hf ⊢
    obtain ⟨o,hg⟩:=en_get' hm hd (s:=s) (by unfold InR; omega) hh (.lit zopV)
    exact m3y1_w _ N ks i g v hv d s hk (by omega) h0 o hg _ _ (m3_1 i g v hv hd n (s+1) (by omega) (by omega) hf)
  · rw [if_neg hh] at hf ⊢
    exact m3n1_w _ N ks i g v hv d s hk (by omega) h0 (en_none' hm hd (by unfold InR; omega) (by simpa using hh) _) trivial
end
def mF0 (N:List (Value × AV)):St:={ env:=slots 70 [(2,nilS)],H:=mB0 N,defs:=[.bag 1] }
def mF1 (N:List (Value × AV)) (g:Nat) (v:List D):St:={ env:=slots 70 [(2,.own 4 g 0 v.length)],H:=mB1 N g v,defs:=[.bag 1] }
section
variable {m:List OP} (hg:Gvs m) (hl:m.length≤1000000) (hk:(dvs (cN m)).length≤1000000)
include hg hl hk
theorem m2_1:∀ n i (g:Nat) (v:List D),(dvs (cN m)).length - i=n→i≤(dvs (cN m)).length→v.length+n≤1000000 →
 ∃ g',Rq 0 19 1 { env:=mE (.own 4 g 0 v.length) (m.map en) (dvs (cN m)) i,H:=mB1 (snE (cN m)) g v,defs:=[.bag 1] } (.exit 4) (mF1 (snE (cN m)) g' (v++((dvs (cN m)).drop i).filterMap (misF m))):=by
 intro n
 induction n with
 | zero =>
  intro i g v hn hi hv
  rw [List.drop_eq_nil_of_le (by omega),List.filterMap_nil,List.append_nil]
  exact ⟨g,m2e1_w _ _ _ i g v (by omega) hk (by omega) _ _ ⟨rfl,rfl⟩⟩
 | succ n ih =>
  intro i g v hn hi hv
  have hlt:i<(dvs (cN m)).length:=by omega
  have hmem:(dvs (cN m))[i]∈dvs (cN m):=List.getElem_mem hlt
  have hx:(dvs (cN m))[i]? = some (dvs (cN m))[i]:=List.getElem?_eq_getElem hlt
  rw [List.drop_eq_getElem_cons hlt,List.filterMap_cons]
  generalize (dvs (cN m))[i]=d at hmem hx ⊢
  have hok:∀ o∈m,okO o=true:=fun o ho=>(hg o ho).2
  have hC:∀ x∈cN m,InR x.1:=fun x hx=>by have:=keys_rng hok ((cN_mem hok).1 hx).1; unfold InR; omega
  have hd:InR d:=by obtain ⟨x,hx',rfl⟩:=List.mem_map.1 hmem; exact hC x hx'
  obtain ⟨f,hG⟩:=sn_get hC hd
  rw [atV_cN hok hmem] at hG
  have hI:=m3_1 (fun x hx=>(hg x hx).1.rng) (snE (cN m)) (dvs (cN m)) hk i g v (by omega) hd (m.length+1) 1 (by omega) (by omega) (frs_free m d 1)
  unfold misF
  by_cases hc:frs m d (m.length+1) 1≤ndOf d m
  · rw [if_pos hc]
    simp only
    obtain ⟨g',nx⟩:=ih (i+1) (g+1) (v++[(d,frs m d (m.length+1) 1)]) (by omega) (by omega) (by simp; omega)
    refine ⟨g',?_⟩
    rw [List.append_assoc] at nx
    have e1:encs v++encs [(d,frs m d (m.length+1) 1)]=encs (v++[(d,frs m d (m.length+1) 1)]):=by simp [encs]
    refine m2t1_w _ _ _ i g v (by omega) d _ _ hk (by omega) hx f hG hI hc _ _ ?_
    rw [e1]
    have e2:(v++[(d,frs m d (m.length+1) 1)]).length=v.length+1:=by simp
    rw [e2] at nx
    exact nx
  · rw [if_neg hc]
    simp only
    obtain ⟨g',nx⟩:=ih (i+1) g v (by omega) (by omega) (by omega)
    exact ⟨g',m2s1_w _ _ _ i g v (by omega) d _ _ hk (by omega) hx f hG hI hc _ _ nx⟩
theorem m2_0:∀ n i,(dvs (cN m)).length - i=n→i≤(dvs (cN m)).length →
 (((dvs (cN m)).drop i).filterMap (misF m)=[]∧Rq 0 19 1 { env:=mE nilS (m.map en) (dvs (cN m)) i,H:=mB0 (snE (cN m)),defs:=[.bag 1] } (.exit 4) (mF0 (snE (cN m)))) ∨
 (((dvs (cN m)).drop i).filterMap (misF m)≠[]∧∃ g',Rq 0 19 1 { env:=mE nilS (m.map en) (dvs (cN m)) i,H:=mB0 (snE (cN m)),defs:=[.bag 1] } (.exit 4) (mF1 (snE (cN m)) g' (((dvs (cN m)).drop i).filterMap (misF m)))):=by
 intro n
 induction n with
 | zero =>
  intro i hn hi
  rw [List.drop_eq_nil_of_le (by omega),List.filterMap_nil]
  exact .inl ⟨rfl,m2e0_w _ _ _ i hk (by omega) _ _ ⟨rfl,rfl⟩⟩
 | succ n ih =>
  intro i hn hi
  have hlt:i<(dvs (cN m)).length:=by omega
  have hmem:(dvs (cN m))[i]∈dvs (cN m):=List.getElem_mem hlt
  have hx:(dvs (cN m))[i]? = some (dvs (cN m))[i]:=List.getElem?_eq_getElem hlt
  rw [List.drop_eq_getElem_cons hlt,List.filterMap_cons]
  generalize (dvs (cN m))[i]=d at hmem hx ⊢
  have hok:∀ o∈m,okO o=true:=fun o ho=>(hg o ho).2
  have hC:∀ x∈cN m,InR x.1:=fun x hx=>by have:=keys_rng hok ((cN_mem hok).1 hx).1; unfold InR; omega
  have hd:InR d:=by obtain ⟨x,hx',rfl⟩:=List.mem_map.1 hmem; exact hC x hx'
  obtain ⟨f,hG⟩:=sn_get hC hd
  rw [atV_cN hok hmem] at hG
  have hI:=m3_0 (fun x hx=>(hg x hx).1.rng) (snE (cN m)) (dvs (cN m)) hk i hd (m.length+1) 1 (by omega) (by omega) (frs_free m d 1)
  unfold misF
  by_cases hc:frs m d (m.length+1) 1≤ndOf d m
  · rw [if_pos hc]
    simp only
    obtain ⟨g',nx⟩:=m2_1 hg hl hk n (i+1) 0 [(d,frs m d (m.length+1) 1)] (by omega) (by omega) (by simp; omega)
    refine .inr ⟨by simp,g',?_⟩
    refine m2t0_w _ _ _ i d _ _ hk (by omega) hx f hG hI hc _ _ ?_
    exact nx.preH (show HSub [AObj.gone,AObj.box [AV.md true (snE (cN m))],AObj.gone,AObj.box [int d,int (frs m d (m.length+1) 1)],AObj.arr 0 2 false (encs [(d,frs m d (m.length+1) 1)])] (mB1 (snE (cN m)) 0 [(d,frs m d (m.length+1) 1)]) from ⟨.inl rfl,.inl rfl,.inl rfl,.inr trivial,.inl rfl,trivial⟩)
  · rw [if_neg hc]
    simp only
    rcases ih (i+1) (by omega) (by omega) with ⟨e,nx⟩ | ⟨e,g',nx⟩
    · exact .inl ⟨e,m2s0_w _ _ _ i d _ _ hk (by omega) hx f hG hI hc _ _ nx⟩
    · exact .inr ⟨e,g',m2s0_w _ _ _ i d _ _ hk (by omega) hx f hG hI hc _ _ nx⟩
end
theorem known_perm {l:List OP} (h:Gds l):(known [] l).Perm (uni l):=by
 have k:=Keeps.nil.known (r:=l) (by simpa using h)
 rw [List.nil_append] at k
 have c:=uni_canon h
 have n1:(known [] l).Nodup:=k.dots.imp fun h e=>h (by rw [e])
 have n2:(uni l).Nodup:=c.sorted.imp fun h e=>by rw [e,cm_self] at h; omega
 exact (List.perm_ext_iff_of_nodup n1 n2).2 fun x=>(k.mem x).trans (c.mem x).symm
theorem has_perm {a b:List OP} (h:a.Perm b) (d s:Int):has a d s=has b d s:=h.any_eq
theorem frs_perm {a b:List OP} (h:a.Perm b) (d:Int):∀ (n:Nat) (s:Int),frs a d n s=frs b d n s
 | 0,_=>rfl
 | n+1,s=>by unfold frs; rw [has_perm h,frs_perm h d n]
theorem mis_perm {a b:List OP} (h:a.Perm b):mis a=mis b:=by
 unfold mis
 refine congrArg (List.filterMap · i512) (funext fun d=>?_)
 unfold misF ndOf
 rw [frs_perm h,h.length_eq,ndA_perm d (lats_perm h)]
theorem mis_cN {m:List OP} (hv:∀ o∈m,okO o=true):(dvs (cN m)).filterMap (misF m)=mis m :=
 mis_keys hv (cN_sorted m) fun x=>by
  rw [cN_keys,List.mem_filter,decide_eq_true_eq]
  exact ⟨fun h=>h.2,fun h=>⟨mem_i512.2 (keys_rng hv h),h⟩⟩
theorem cN_len (m:List OP):(dvs (cN m)).length≤512:=by
 rw [cN_keys]
 exact Nat.le_trans (List.length_filter_le ..) (by simp [i512])
theorem missing_c (l:List OP) (hl:l.length≤400000) (hg:Gds l):Cq 19 [opl l] (vec (mis (uni l))):=by
 have hk:=known_c [l] (by simp) (fun x hx=>by rw [List.mem_singleton.1 hx]; exact ⟨by omega,hg⟩) compare_c
 rw [show [l].flatten=l by simp] at hk
 have hk':Cq 36 [.sl 1 true (lls [l])] (.md true ((known [] l).map en)):=(CallC.frzMapOut (en_pure _) hk rfl).cutOut (H3:=[]) (qs:=[]) rfl trivial
 have hgv:Gvs (known [] l):=known_gd (fun _ h=>(by cases h)) hg
 have hlen:=known_len l []
 have hok:∀ o∈known [] l,okO o=true:=fun o ho=>(hgv o ho).2
 rw [← mis_perm (known_perm hg),← mis_cN hok]
 generalize known [] l=m at *
 simp only [List.length_nil,Nat.zero_add] at hlen
 have hcl:=cN_len m
 have hC:∀ x∈cN m,InR x.1:=fun x hx=>by have:=keys_rng hok ((cN_mem hok).1 hx).1; unfold InR; omega
 have hR:=mr_run m hgv (m.map en)
 have hK:=mk_w (snE (cN m)) trivial
 have hS:=sortedI_c (cN m) (dvs (cN m)) hC (by simpa [dvs] using Nat.le_trans hcl (by omega)) (.refl _) (cN_sorted m)
 have hfl:((dvs (cN m)).filterMap (misF m)).length≤512:=Nat.le_trans (List.length_filterMap_le ..) hcl
 have h2:=m2_0 hgv (by omega) (by omega) _ 0 rfl (Nat.zero_le _)
 rw [List.drop_zero] at h2
 rcases h2 with ⟨e,h2⟩ | ⟨e,g',h2⟩
 · rw [e]
   exact (mx0_w l _ _ _ hk' hR hK hS h2 trivial).out (Sub.nil 2)
 · generalize (dvs (cN m)).filterMap (misF m)=v at *
   have h9:=mx1_w l _ _ _ hk' hR hK hS g' v h2 _ _ ⟨rfl,rfl⟩
   exact (h9.frzOut (z:=encs v) (y:=.sl 2 false (encs v)) (H1:=[.gone,.box [.md true (snE (cN m))],.gone,.gone,.arr g' 2 true (encs v)]) (ps:=[g'=g',List.take v.length (List.drop 0 (encs v))=encs v,(encs v).length=v.length,∀ c∈encs v,c.all AV.pureB=true]) rfl ⟨rfl,by rw [List.drop_zero,List.take_of_length_le (by rw [encs_length]; exact Nat.le_refl _)],encs_length _,encs_pure _,trivial⟩).cutOut (H3:=[]) (qs:=[]) rfl trivial
end Go.Mg


namespace Go.Am
open Go
theorem CallC.frzTup {P:Program} {G:Nat→Option (List AV)} {f:FuncId} {args:List AV} {H H' H1:List AObj} {xs ys:List AV} {z:List (List AV)} {ps:List Prop} (h:CallC P G f args H (.ret (.tup xs)) H') (ha:frzCells H' xs z=some (ys,H1,ps)) (hps:AllP ps):CallC P G f args H (.ret (.tup ys)) H1 :=
 fun V vs hH hG hr=>(h V vs hH hG hr).mono fun e w' he=>by
  obtain ⟨V',rfl,k2,k3,k4,k5⟩:=he
  cases e with
  | returned v =>
   obtain ⟨us,rfl,hu⟩:=rep_tup k5
   obtain ⟨V1,l1,l2,l3,l4,l5⟩:=frzCells_sound (by rw [k4]; exact ha) hps k3 hu
   exact ⟨V1,l1,k2.trans l3,l4,l2,.tup ys us l5.1 l5.2⟩
  | panicked _=>exact k5.elim
  | outgrown=>exact k5.elim
end Go.Am
namespace Go.Mg
open Go Go.Am Go.Proofs Go.Seat Go.Vec Go.Cdc Go.Ops
def cvr (v:List D) (o:OP):Bool:=coversB v (o.dv,o.sq)
def inn (v:List D) (l:List OP):List OP:=l.filter (cvr v)
def oth (v:List D) (l:List OP):List OP:=l.filter fun o=>!cvr v o
theorem inn_y {v:List D} {o:OP} {l:List OP} (h:cvr v o=true):inn v (o::l)=o::inn v l:=by simp [inn,h]
theorem inn_n {v:List D} {o:OP} {l:List OP} (h:cvr v o=false):inn v (o::l)=inn v l:=by simp [inn,h]
theorem oth_y {v:List D} {o:OP} {l:List OP} (h:cvr v o=true):oth v (o::l)=oth v l:=by simp [oth,h]
theorem oth_n {v:List D} {o:OP} {l:List OP} (h:cvr v o=false):oth v (o::l)=o::oth v l:=by simp [oth,h]
theorem ocs_snoc' (a:List OP) (o:OP):ocs a++ocs [o]=ocs (a++[o]):=by simp [ocs]
theorem snoc_len {α:Type} (a:List α) (o:α):(a++[o]).length=a.length+1:=by simp
theorem sub3 {x y x' y' z:AV} (h:Sub x x') (k:Sub y y'):Sub (.tup [x,y,z]) (.tup [x',y',z]):=.tup rfl fun j hj=>by
 match j,hj with
 | 0,_=>exact h
 | 1,_=>exact k
 | 2,_=>exact .refl _
theorem nilO:Sub nilS (opl []):=Sub.nil 17
def upS (a b:List OP) (x y:AV) (H:List AObj):Prop :=
 (a=[]∧b=[]∧x=nilS∧y=nilS∧H=[]) ∨
 (∃ g,b=[]∧x = .own 1 g 0 a.length∧y=nilS∧H=[.gone,.arr g 17 false (ocs a)]) ∨
 (∃ h,a=[]∧x=nilS∧y = .own 1 h 0 b.length∧H=[.gone,.arr h 17 false (ocs b)]) ∨
 (∃ g h,x = .own 1 g 0 a.length∧y = .own 3 h 0 b.length∧H=[.gone,.arr g 17 false (ocs a),.gone,.arr h 17 false (ocs b)]) ∨
 (∃ g h,x = .own 3 g 0 a.length∧y = .own 1 h 0 b.length∧H=[.gone,.arr h 17 false (ocs b),.gone,.arr g 17 false (ocs a)])
section
variable (v:List D) (u:List OP) (hv:v.length≤1000000000) (hu:u.length≤1000000)
include hv hu
theorem up_y {a b:List OP} {x y:AV} {H:List AObj} (hs:upS a b x y H) (ha:a.length≤1000000) (hb:b.length≤1000000) (i:Nat) (o:OP) (hi:(i:Int)<(u.length:Int)) (hx:u[i]? = some o) (hc:cvr v o=true) :
 ∃ x' y' H',upS (a++[o]) b x' y' H'∧∀ ex s',Rq 0 22 0 { env:=pU v u x' y' (i+1),H:=H' } ex s'→Rq 0 22 0 { env:=pU v u x y i,H:=H } ex s':=by
 have hC:=Vec.covers_c v o.dv o.sq hv
 rw [show coversB v (o.dv,o.sq)=true from hc] at hC
 rcases hs with ⟨rfl,rfl,rfl,rfl,rfl⟩ | ⟨g,rfl,rfl,rfl,rfl⟩ | ⟨g',rfl,rfl,rfl,rfl⟩ | ⟨g,g',rfl,rfl,rfl⟩ | ⟨g,g',rfl,rfl,rfl⟩
 · exact ⟨_,_,_,.inr (.inl ⟨0,rfl,rfl,rfl,rfl⟩),fun ex s' h=>pay_w v u hv hu i o hi hx hC ex s' (h.preH (show HSub [AObj.box (opc o),AObj.arr 0 17 false (ocs [o])] [AObj.gone,AObj.arr 0 17 false (ocs [o])] from ⟨.inr trivial,.inl rfl,trivial⟩))⟩
 · exact ⟨_,_,_,.inr (.inl ⟨g+1,rfl,rfl,rfl,rfl⟩),fun ex s' h=>piy_w v u hv hu i g a ha o hi hx hC ex s' (by rw [snoc_len,← ocs_snoc'] at h; exact h)⟩
 · exact ⟨_,_,_,.inr (.inr (.inr (.inr ⟨0,g',rfl,rfl,rfl⟩))),fun ex s' h=>poy_w v u hv hu i g' b hb o hi hx hC ex s' (h.preH (show HSub [AObj.gone,AObj.arr g' 17 false (ocs b),AObj.box (opc o),AObj.arr 0 17 false (ocs [o])] [AObj.gone,AObj.arr g' 17 false (ocs b),AObj.gone,AObj.arr 0 17 false (ocs [o])] from ⟨.inl rfl,.inl rfl,.inr trivial,.inl rfl,trivial⟩))⟩
 · exact ⟨_,_,_,.inr (.inr (.inr (.inl ⟨g+1,g',rfl,rfl,rfl⟩))),fun ex s' h=>pjy_w v u hv hu i g a ha g' b hb o hi hx hC ex s' (by rw [snoc_len,← ocs_snoc'] at h; exact h)⟩
 · exact ⟨_,_,_,.inr (.inr (.inr (.inr ⟨g+1,g',rfl,rfl,rfl⟩))),fun ex s' h=>pky_w v u hv hu i g a ha g' b hb o hi hx hC ex s' (by rw [snoc_len,← ocs_snoc'] at h; exact h)⟩
theorem up_n {a b:List OP} {x y:AV} {H:List AObj} (hs:upS a b x y H) (ha:a.length≤1000000) (hb:b.length≤1000000) (i:Nat) (o:OP) (hi:(i:Int)<(u.length:Int)) (hx:u[i]? = some o) (hc:cvr v o=false) :
 ∃ x' y' H',upS a (b++[o]) x' y' H'∧∀ ex s',Rq 0 22 0 { env:=pU v u x' y' (i+1),H:=H' } ex s'→Rq 0 22 0 { env:=pU v u x y i,H:=H } ex s':=by
 have hC:=Vec.covers_c v o.dv o.sq hv
 rw [show coversB v (o.dv,o.sq)=false from hc] at hC
 rcases hs with ⟨rfl,rfl,rfl,rfl,rfl⟩ | ⟨g,rfl,rfl,rfl,rfl⟩ | ⟨g',rfl,rfl,rfl,rfl⟩ | ⟨g,g',rfl,rfl,rfl⟩ | ⟨g,g',rfl,rfl,rfl⟩
 · exact ⟨_,_,_,.inr (.inr (.inl ⟨0,rfl,rfl,rfl,rfl⟩)),fun ex s' h=>pan_w v u hv hu i o hi hx hC ex s' (h.preH (show HSub [AObj.box (opc o),AObj.arr 0 17 false (ocs [o])] [AObj.gone,AObj.arr 0 17 false (ocs [o])] from ⟨.inr trivial,.inl rfl,trivial⟩))⟩
 · exact ⟨_,_,_,.inr (.inr (.inr (.inl ⟨g,0,rfl,rfl,rfl⟩))),fun ex s' h=>pin_w v u hv hu i g a ha o hi hx hC ex s' (h.preH (show HSub [AObj.gone,AObj.arr g 17 false (ocs a),AObj.box (opc o),AObj.arr 0 17 false (ocs [o])] [AObj.gone,AObj.arr g 17 false (ocs a),AObj.gone,AObj.arr 0 17 false (ocs [o])] from ⟨.inl rfl,.inl rfl,.inr trivial,.inl rfl,trivial⟩))⟩
 · exact ⟨_,_,_,.inr (.inr (.inl ⟨g'+1,rfl,rfl,rfl,rfl⟩)),fun ex s' h=>pon_w v u hv hu i g' b hb o hi hx hC ex s' (by rw [snoc_len,← ocs_snoc'] at h; exact h)⟩
 · exact ⟨_,_,_,.inr (.inr (.inr (.inl ⟨g,g'+1,rfl,rfl,rfl⟩))),fun ex s' h=>pjn_w v u hv hu i g a ha g' b hb o hi hx hC ex s' (by rw [snoc_len,← ocs_snoc'] at h; exact h)⟩
 · exact ⟨_,_,_,.inr (.inr (.inr (.inr ⟨g,g'+1,rfl,rfl,rfl⟩))),fun ex s' h=>pkn_w v u hv hu i g a ha g' b hb o hi hx hC ex s' (by rw [snoc_len,← ocs_snoc'] at h; exact h)⟩
theorem up_loop:∀ k i (a b:List OP) (x y:AV) (H:List AObj),upS a b x y H→u.length - i=k→i≤u.length→a.length+b.length+k≤1000000 →
 ∃ x' y' H',upS (a++inn v (u.drop i)) (b++oth v (u.drop i)) x' y' H'∧Rq 0 22 0 { env:=pU v u x y i,H:=H } (.exit 0) { env:=pX x' y',H:=H' }:=by
 intro k
 induction k with
 | zero =>
  intro i a b x y H hs hk hi hl
  rw [List.drop_eq_nil_of_le (by omega)]
  refine ⟨x,y,H,by simpa [inn,oth] using hs,?_⟩
  have hi':¬ (i:Int)<(u.length:Int):=by omega
  rcases hs with ⟨rfl,rfl,rfl,rfl,rfl⟩ | ⟨g,rfl,rfl,rfl,rfl⟩ | ⟨g',rfl,rfl,rfl,rfl⟩ | ⟨g,g',rfl,rfl,rfl⟩ | ⟨g,g',rfl,rfl,rfl⟩
  · exact pae_w v u hv hu i hi' trivial
  · exact pie_w v u hv hu i g a (by omega) hi' trivial
  · exact poe_w v u hv hu i g' b (by omega) hi' trivial
  · exact pje_w v u hv hu i g a (by omega) g' b (by omega) hi' trivial
  · exact pke_w v u hv hu i g a (by omega) g' b (by omega) hi' trivial
 | succ k ih =>
  intro i a b x y H hs hk hi hl
  have hlt:i<u.length:=by omega
  have hx:u[i]? = some u[i]:=List.getElem?_eq_getElem hlt
  rw [List.drop_eq_getElem_cons hlt]
  cases hc:cvr v u[i] with
  | true =>
   obtain ⟨x',y',H',h1,h2⟩:=up_y v u hv hu hs (by omega) (by omega) i u[i] (by omega) hx hc
   obtain ⟨x2,y2,H2,h3,h4⟩:=ih (i+1) _ _ _ _ _ h1 (by omega) (by omega) (by rw [snoc_len]; omega)
   refine ⟨x2,y2,H2,?_,h2 _ _ h4⟩
   have e1:inn v (u[i]::u.drop (i+1))=u[i]::inn v (u.drop (i+1)):=inn_y hc
   have e2:oth v (u[i]::u.drop (i+1))=oth v (u.drop (i+1)):=oth_y hc
   rw [e1,e2]
   rw [List.append_assoc] at h3
   exact h3
  | false =>
   obtain ⟨x',y',H',h1,h2⟩:=up_n v u hv hu hs (by omega) (by omega) i u[i] (by omega) hx hc
   obtain ⟨x2,y2,H2,h3,h4⟩:=ih (i+1) _ _ _ _ _ h1 (by omega) (by omega) (by rw [snoc_len]; omega)
   refine ⟨x2,y2,H2,?_,h2 _ _ h4⟩
   have e1:inn v (u[i]::u.drop (i+1))=inn v (u.drop (i+1)):=inn_n hc
   have e2:oth v (u[i]::u.drop (i+1))=u[i]::oth v (u.drop (i+1)):=oth_n hc
   rw [e1,e2]
   rw [List.append_assoc] at h3
   exact h3
end
theorem upto_c (l:List OP) (v:List D) (hv:v.length≤1000000000) (hl:l.length≤400000) (hg:Gds l) (h0:checkE v=0):Cq 22 [opl l,vec v] (.tup [opl (inn v (uni l)),opl (oth v (uni l)),int 0]):=by
 have hU:=union_c l [] hl (by simp) hg (fun _ h=>(by cases h))
 rw [List.append_nil] at hU
 have hU:=CallC.args' hU (ys:=[opl l,opl []]) (xs:=[opl l,nilS]) ⟨Sub.refl _,Sub.nil 17,trivial⟩
 have hU:=hU.out (show Sub (oplN (uni l)) (opl (uni l)) by unfold oplN; split; (rename_i e; rw [e]; exact nilO); exact Sub.refl _)
 have hK:=Vec.check_c v hv
 rw [h0] at hK
 have hlen:=uni_len l
 obtain ⟨x,y,H,h1,h2⟩:=up_loop v (uni l) hv (by omega) _ 0 [] [] nilS nilS [] (.inl ⟨rfl,rfl,rfl,rfl,rfl⟩) rfl (Nat.zero_le _) (by simp; omega)
 rw [List.drop_zero,List.nil_append,List.nil_append] at h1
 have ha:(inn v (uni l)).length≤1000000:=Nat.le_trans (List.length_filter_le ..) (by omega)
 have hb:(oth v (uni l)).length≤1000000:=Nat.le_trans (List.length_filter_le ..) (by omega)
 generalize inn v (uni l)=a at *
 generalize oth v (uni l)=b at *
 rcases h1 with ⟨rfl,rfl,rfl,rfl,rfl⟩ | ⟨g,rfl,rfl,rfl,rfl⟩ | ⟨g',rfl,rfl,rfl,rfl⟩ | ⟨g,g',rfl,rfl,rfl⟩ | ⟨g,g',rfl,rfl,rfl⟩
 · exact (paf_w l v _ hK hU h2 trivial).out (sub3 nilO nilO)
 · exact (pif_w l v _ g a ha hK hU h2 trivial).out (sub3 (Sub.refl _) nilO)
 · have h9:=pof_w l v _ g' b hb hK hU h2 _ _ ⟨rfl,rfl⟩
   exact ((h9.frzTup (z:=ocs b) (ys:=[nilS,opl b,int 0]) (H1:=[.gone,.arr g' 17 true (ocs b)]) (ps:=[g'=g',List.take b.length (List.drop 0 (ocs b))=ocs b,(ocs b).length=b.length,∀ c∈ocs b,c.all AV.pureB=true]) rfl ⟨rfl,by rw [List.drop_zero,List.take_of_length_le (by rw [ocs_length]; exact Nat.le_refl _)],ocs_length _,ocs_pure _,trivial⟩).cutOut (H3:=[]) (qs:=[]) rfl trivial).out (sub3 nilO (Sub.refl _))
 · exact pjf_w l v _ g a ha g' b hb hK hU h2 trivial
 · exact pkf_w l v _ g a ha g' b hb hK hU h2 trivial
theorem upto_c' (l:List OP) (v:List D) (hv:v.length≤1000000000) (h0:checkE v≠0):Cq 22 [opl l,vec v] (.tup [opl [],opl [],int (checkE v)]) :=
 (pzf_w l v _ h0 (Vec.check_c v hv) trivial).out (sub3 nilO nilO)
section
variable (v:List D) (u:List OP) (hv:v.length≤1000000000) (hu:u.length≤1000000)
include hv hu
end
end Go.Mg


namespace Go.Am
open Go
theorem Sub.nilT (sz:Nat):Sub (.lit (.slice none 0 0)) (.sl sz true []):=fun V v h=>by
 rw [rep_lit h]
 exact .pure _ _ (.sl sz true [] none 0 0 0 (fun _ _=>undef) (fun h=>absurd rfl h) (fun h=>absurd rfl h) (Nat.le_refl _) (fun _=>rfl) (by simp) (fun k j hk=>absurd hk (by simp)) (fun k j hk=>absurd hk (by simp)) (fun k j hk=>absurd hk (by simp)))
theorem CallC.frzTA {P:Program} {G:Nat→Option (List AV)} {f:FuncId} {args:List AV} {H H' H1:List AObj} {cs ds:List AV} {z0:AV} {z:List (List AV)} {ps:List Prop} (h:CallC P G f args H (.ret (.tup [.agg cs,z0])) H') (ha:frzCells H' cs z=some (ds,H1,ps)) (hps:AllP ps):CallC P G f args H (.ret (.tup [.agg ds,z0])) H1 :=
 fun V vs hH hG hr=>(h V vs hH hG hr).mono fun e w' he=>by
  obtain ⟨V',rfl,k2,k3,k4,k5⟩:=he
  cases e with
  | returned v =>
   obtain ⟨us,rfl,hu⟩:=rep_tup k5
   obtain ⟨a,b,rfl⟩:∃ a b,us=[a,b]:=by
    have:=hu.1
    match us,this with
    | [a,b],_=>exact ⟨a,b,rfl⟩
   obtain ⟨ws,rfl,hw⟩:=rep_agg hu.head
   obtain ⟨V1,l1,l2,l3,l4,l5⟩:=frzCells_sound (by rw [k4]; exact ha) hps k3 hw
   have hR:Reps V1 [.agg ds,z0] [.agg ws.toArray,b]:=.cons (.agg ds ws l5.1 l5.2) (hu.tail.step l3)
   exact ⟨V1,l1,k2.trans l3,l4,l2,.tup _ _ hR.1 hR.2⟩
  | panicked _=>exact k5.elim
  | outgrown=>exact k5.elim
end Go.Am
namespace Go.Mg
open Go Go.Am Go.Proofs Go.Seat Go.Vec Go.Cdc Go.Ops
theorem cov_no {v:List D} {a b:Int} (h:¬ b≤Vec.atV a v):coversB v (a,b)=false:=by
 show (decide (b≥1) && decide (b≤Vec.atV a v))=false
 rw [decide_eq_false h,Bool.and_false]
theorem within_c {d s:Int} (h1:0≤d) (h2:d<512) (h3:1≤s) (h4:s≤1048576):Cq 152 [int d,int s] (Am.bool true):=wi_w d s h1 h2 h3 h4 (decide_eq_true h4)
theorem tk0_c:Cq 112 [nilS] (int 0):=tk0_w (tk0_l trivial) trivial
theorem tk1_c {d s:Int} (n:Int) (h1:0≤d) (h2:d<512) (h3:1≤s) (h4:s≤1048576):Cq 112 [tl1 d s n] (int 0) :=
 tk1_w d s n (tk1_r d s n h1 (within_c h1 h2 h3 h4) _ _ (tk1_e d s n _ trivial)) trivial
theorem one_frz {c:List AV} (h:c.all AV.pureB=true):∀ x∈[c],x.all AV.pureB=true:=fun x hx=>by rw [List.mem_singleton.1 hx]; exact h
theorem clo_c (d s n:Int):CallC P G 84 [tl1 d s n] [] (.ret (.own 0 0 0 1)) [.arr 0 3 false [tal d s n]]:=tc1_w d s n _ _ ⟨rfl,rfl⟩
theorem frz1 {f:FuncId} {args:List AV} {d s n:Int} (h:CallC P G f args [] (.ret (.own 0 0 0 1)) [.arr 0 3 false [tal d s n]]):CallC P G f args [] (.ret (tl1 d s n)) [] :=
 (h.frzOut (z:=[tal d s n]) (y:=tl1 d s n) (H1:=[.arr 0 3 true [tal d s n]]) (ps:=[0=0,List.take 1 (List.drop 0 [tal d s n])=[tal d s n],[tal d s n].length=1,∀ c∈[tal d s n],c.all AV.pureB=true]) rfl ⟨rfl,rfl,rfl,one_frz rfl,trivial⟩).cutOut (H3:=[]) (qs:=[]) rfl trivial
theorem cld_c (d s n:Int):Cq 84 [tl1 d s n] (tl1 d s n):=frz1 (clo_c d s n)
theorem cmpI0 (a:Int):Cq 87 [int a,int a] (int 0):=by
 have h:=ccmp_c a a
 rwa [show Ops.cmpV a a=0 by simp [Ops.cmpV]] at h
theorem tp_c (d s n:Int):CallC P G 286 [.agg (tal d s n),int d,.ptr 0 0] [dvB] (.ret (int 0)) [dvB]:=tp_w d s n (td_w d s n trivial) (cmpI0 d) trivial
theorem tb0_c (d:Int):CallC P G 285 [nilS,int d,plF] [dvB] (.ret (.tup [int 0,Am.bool false])) [dvB]:=tb0_w d (tb_e nilS d 0 0 0 (by omega) rfl trivial) trivial
theorem tb1_c (d s n:Int):CallC P G 285 [tl1 d s n,int d,plF] [dvB] (.ret (.tup [int 0,Am.bool true])) [dvB]:=tb1_w d s n (tp_c d s n) (tb_r1 d s n 1 (tp_c d s n) _ _ (tb_e1 d s n 1 0 0 (by omega) trivial)) trivial
theorem ti_c (d s n:Int):Cq 279 [nilS,int 0,.sl 3 true [tal d s n]] (tl1 d s n) :=
 frz1 (CallC.args' (ti_w d s n _ _ ⟨rfl,rfl⟩) (xs:=[nilS,int 0,.sl 3 true [tal d s n]]) ⟨Sub.nilT 3,Sub.refl _,Sub.refl _,trivial⟩)
theorem add0_c {d s:Int} (n:Int) (h1:0≤d) (h2:d<512) (h3:1≤s) (h4:s≤1048576):Cq 263 [nilS,dot (d,s),int n] (.tup [tl1 d s n,int 0]) :=
 ta0_w d s n tk0_c (within_c h1 h2 h3 h4) (pl0_w d s n (tb0_c d) trivial) (tc0_w trivial) (ti_c d s n) trivial
theorem add1_c {d s s2:Int} (n n2:Int) (h1:0≤d) (h2:d<512) (h3:1≤s) (h4:s≤1048576) (h5:s<s2) (h6:s2≤1048576) (hb : -9223372036854775808≤n+n2) (hb2:n+n2<9223372036854775808):Cq 263 [tl1 d s n,dot (d,s2),int n2] (.tup [tl1 d s2 (n+n2),int 0]) :=
 ((ta1_w d s n s2 n2 (by omega) hb hb2 (tk1_c n h1 h2 h3 h4) (within_c h1 h2 (by omega) h6) (pl1_w d s n (tb1_c d s n) trivial) (clo_c d s n) _ _ ⟨rfl,rfl⟩).frzTup (z:=[tal d s2 (n+n2)]) (ys:=[tl1 d s2 (n+n2),int 0]) (H1:=[.box [int d,int s2],.arr 0 3 true [tal d s2 (n+n2)]]) (ps:=[0=0,List.take 1 (List.drop 0 [tal d s2 (n+n2)])=[tal d s2 (n+n2)],[tal d s2 (n+n2)].length=1,∀ c∈[tal d s2 (n+n2)],c.all AV.pureB=true]) rfl ⟨rfl,rfl,rfl,one_frz rfl,trivial⟩).cutOut (H3:=[]) (qs:=[]) rfl trivial
def cOp (dv sq tm n:Int) (nm:ByteArray):OP:={ dv:=dv,sq:=sq,tm:=tm,cx:=[],pk:=3,pn:=nm,kd:=5,f1:=0,f2:=0,f3:=0,t1:=0,t2:=0,t3:=0,ky:=.empty,vl:=.empty,n:=n,on:=false }
theorem ef0_c {dv sq:Int} (tm n:Int) (nm:ByteArray) (h1:0≤dv) (h2:dv<512) (h3:1≤sq) (h4:sq≤1048576):CallC P G 262 [.apt 0 0 0 0,copA dv sq tm n nm] [.arr 0 7 false [fl nm nilS]] (.ret (int 0)) [.arr 0 7 false [fl nm (tl1 dv sq n)]] :=
 e5_w (cOp dv sq tm n nm) nm (add0_c n h1 h2 h3 h4) (st_w nm nilS dv sq n _ _ ⟨rfl,rfl⟩) _ _ ⟨rfl,rfl⟩
theorem ef1_c {dv s0 sq:Int} (tm n0 n:Int) (nm:ByteArray) (h1:0≤dv) (h2:dv<512) (h3:1≤s0) (h5:s0<sq) (h4:sq≤1048576) (hb : -9223372036854775808≤n0+n) (hb2:n0+n<9223372036854775808):CallC P G 262 [.apt 0 0 0 0,copA dv sq tm n nm] [.arr 0 7 false [fl nm (tl1 dv s0 n0)]] (.ret (int 0)) [.arr 0 7 false [fl nm (tl1 dv sq (n0+n))]] :=
 e6_w (cOp dv sq tm n nm) nm s0 n0 (n0+n) (add1_c n0 n h1 h2 h3 (by omega) h5 h4 hb hb2) (su_w nm dv sq (n0+n) dv s0 n0 _ _ ⟨rfl,rfl⟩) _ _ ⟨rfl,rfl⟩
theorem fi_c (nm:ByteArray):CallC P G 57 [nilS,int 0,.sl 7 true [fl nm nilS]] [] (.ret (.own 0 0 0 1)) [.arr 0 7 false [fl nm nilS]] :=
 CallC.args' (fi_w nm _ _ ⟨rfl,rfl⟩) (xs:=[nilS,int 0,.sl 7 true [fl nm nilS]]) ⟨Sub.nilT 7,Sub.refl _,Sub.refl _,trivial⟩
theorem dk0_c:Cq 50 [d0] (int 0) :=
 dk0_w (CallC.args' (Vec.check_c [] (by simp)) (xs:=[nilS]) ⟨Sub.nil 2,trivial⟩) (dk0_l trivial) trivial
theorem apply0_c {dv:Int} (tm n:Int) (nm:ByteArray) (h1:0≤dv) (h2:dv<512)
 (hO:Cq 31 [copA dv 1 tm n nm] (int 0)) (hW:Cq 29 [nilS,dot (dv,1)] (.tup [vec [(dv,1)],int 0])) :
 Cq 27 [d0,copA dv 1 tm n nm] (.tup [d1 [(dv,1)] nm dv 1 n,int 0]):=by
 have hV:=CallC.args' (Vec.covers_c [] dv 1 (by simp)) (xs:=[nilS,dot (dv,1)]) ⟨Sub.nil 2,Sub.refl _,trivial⟩
 rw [show coversB [] (dv,1)=false from cov_no (show ¬ (1:Int)≤0 by omega)] at hV
 have hA:=CallC.args' (Vec.at_c [] dv (by simp)) (xs:=[nilS,int dv]) ⟨Sub.nil 2,Sub.refl _,trivial⟩
 have h:=ap0_w dv tm n nm dk0_c hO hV hA (cy0_w (iy0_w (iy0_l trivial) trivial) trivial) hW (fb0_w nm (fb_e0 nm 0 0 0 (by omega) trivial) trivial) (fi_c nm) (ef0_c tm n nm h1 h2 (by omega) (by omega)) (ap0_l dv tm n nm trivial) eg5 _ _ ⟨rfl,rfl⟩
 exact (h.frzTA (z:=[fl nm (tl1 dv 1 n)]) (ds:=[vec [(dv,1)],fs1 nm dv 1 n]) (H1:=[.box [nilS,nilS],.box (cop dv 1 tm n nm),.box [vec [(dv,1)],.own 3 0 0 1],.arr 0 7 true [fl nm (tl1 dv 1 n)]]) (ps:=[0=0,List.take 1 (List.drop 0 [fl nm (tl1 dv 1 n)])=[fl nm (tl1 dv 1 n)],[fl nm (tl1 dv 1 n)].length=1,∀ c∈[fl nm (tl1 dv 1 n)],c.all AV.pureB=true]) rfl ⟨rfl,rfl,rfl,one_frz rfl,trivial⟩).cutOut (H3:=[]) (qs:=[]) rfl trivial
theorem bl_irr:∀ l:List UInt8,Op.bytesLess l l=false
 | []=>rfl
 | a::l=>by
  have:=bl_irr l
  simp [Op.bytesLess,this]
theorem cmpS0 (a:ByteArray):Cq 88 [str a,str a] (int 0) :=
 sc_w a 0 (ns_w a false (by simp) ) ⟨fun h=>absurd h (by rw [bl_irr]; simp),fun _=>⟨fun _=>rfl,fun h=>absurd h (by simp)⟩⟩
theorem cpr_c (nm:ByteArray):Cq 56 [pt3 nm,pt3 nm] (int 0) :=
 cp_w nm (cmpI0 3) (cmpS0 nm) (or_f [0,0] 0 (by have:=or_loop [0,0] (by simp) 2 0 rfl (by simp); exact this) ⟨fun _=>rfl,fun _=>trivial⟩) trivial
theorem ap2_c (nm:ByteArray) (d s n:Int):Cq 55 [.agg (fl nm (tl1 d s n)),pt3 nm] (int 0):=a2_w nm nilS d s n (cpr_c nm) trivial
theorem gb_c (nm:ByteArray) (d s n:Int):CallC P G 54 [.own 0 0 0 1,pt3 nm,apF] [.arr 0 7 false [fl nm (tl1 d s n)]] (.ret (.tup [int 0,Am.bool true])) [.arr 0 7 false [fl nm (tl1 d s n)]] :=
 gb_w nm d s n (ap2_c nm d s n) (gb_r nm d s n (ap2_c nm d s n) _ _ (gb_e nm d s n 0 0 (by omega) trivial)) trivial
theorem cov_c {v:List D} {d s:Int} (n:Int) (hv:v.length≤1000000000) (hc:coversB v (d,s)=true):Cq 113 [tl1 d s n,vec v,fnV 114] (Am.bool true):=by
 have hC:=Vec.covers_c v d s hv
 rw [hc] at hC
 exact cv_w v d s n (ct_w v d s n (it_w v d s n (it_r v d s n (cv1_w v d s n (of_w d s n trivial) hC trivial) _ _ (it_e v d s n trivial)) trivial) trivial) trivial
theorem dk1_c {v:List D} {d s:Int} (n:Int) (nm:ByteArray) (hv:v.length≤1000000000) (hk:checkE v=0) (hc:coversB v (d,s)=true) (hn:(nm.size:Int)≤64) (h1:0≤d) (h2:d<512) (h3:1≤s) (h4:s≤1048576):Cq 50 [d1 v nm d s n] (int 0):=by
 have hK:=Vec.check_c v hv
 rw [hk] at hK
 exact dk1_w v nm d s n hK (dk1_r v nm d s n (vl_w nm v d s n hn (tk1_c n h1 h2 h3 h4) (cov_c n hv hc) trivial) _ _ (dk1_e v nm d s n trivial)) trivial
theorem cop_c (nm:ByteArray) (d s n:Int):Cq 53 [.agg (fl nm (tl1 d s n))] (.agg (fl nm (tl1 d s n))) :=
 co_w nm d s n (cld_c d s n) (cc0_w trivial) (cb0_w trivial) (cm0_w trivial) trivial
theorem apply1_c {dv:Int} {v v':List D} {s0 sq:Int} (tm n0 n:Int) (nm:ByteArray) (hv:v.length≤1000000000) (hk:checkE v=0) (hc:coversB v (dv,s0)=true) (hn:(nm.size:Int)≤64) (h1:0≤dv) (h2:dv<512) (h3:1≤s0) (h5:s0<sq) (h4:sq≤1048576) (hb : -9223372036854775808≤n0+n) (hb2:n0+n<9223372036854775808)
 (hat:Vec.atV dv v=sq - 1) (hO:Cq 31 [copA dv sq tm n nm] (int 0)) (hW:Cq 29 [vec v,dot (dv,sq)] (.tup [vec v',int 0])) :
 Cq 27 [d1 v nm dv s0 n0,copA dv sq tm n nm] (.tup [d1 v' nm dv sq (n0+n),int 0]):=by
 have hV:=Vec.covers_c v dv sq hv
 rw [show coversB v (dv,sq)=false from cov_no (by rw [hat]; omega)] at hV
 have hA:=Vec.at_c v dv hv
 rw [hat] at hA
 have hL:Rq 0 27 0 (a1S v v' dv s0 n0 sq tm n nm) (.exit 0) (b1X v v' dv s0 n0 sq tm n nm):=by
  refine ap1_r v v' dv s0 n0 sq tm n nm (cop_c nm dv s0 n0) _ _ ?_
  have h:=ap1_e v v' dv s0 n0 sq tm n nm trivial
  exact RunL.preH h (show HSub [.box [vec v,fs1 nm dv s0 n0],.box (cop dv sq tm n nm),.box [vec v',.own 4 0 0 1],.box (fl nm (tl1 dv s0 n0)),.arr 0 7 false [fl nm (tl1 dv s0 n0)]] (b1H v v' dv s0 n0 sq tm n nm) from ⟨.inl rfl,.inl rfl,.inl rfl,.inr trivial,.inl rfl,trivial⟩)
 have h:=ap1_w v v' dv s0 n0 (n0+n) sq tm n nm (by omega) h4 (dk1_c n0 nm hv hk hc hn h1 h2 h3 (by omega)) hO hV hA (cy1_w v nm dv s0 n0 (iy1_w v nm dv s0 n0 (iy1_l v nm dv s0 n0 trivial) trivial) trivial) hW hL (gb_c nm dv s0 n0) (ef1_c tm n0 n nm h1 h2 h3 h5 h4 hb hb2) eg5 _ _ ⟨rfl,rfl⟩
 exact (h.frzTA (z:=[fl nm (tl1 dv sq (n0+n))]) (ds:=[vec v',fs1 nm dv sq (n0+n)]) (H1:=[.box [vec v,fs1 nm dv s0 n0],.box (cop dv sq tm n nm),.box [vec v',.own 4 0 0 1],.gone,.arr 0 7 true [fl nm (tl1 dv sq (n0+n))]]) (ps:=[0=0,List.take 1 (List.drop 0 [fl nm (tl1 dv sq (n0+n))])=[fl nm (tl1 dv sq (n0+n))],[fl nm (tl1 dv sq (n0+n))].length=1,∀ c∈[fl nm (tl1 dv sq (n0+n))],c.all AV.pureB=true]) rfl ⟨rfl,rfl,rfl,one_frz rfl,trivial⟩).cutOut (H3:=[]) (qs:=[]) rfl trivial
end Go.Mg


namespace Go.Mg
open Go Go.Am Go.Proofs Go.Seat Go.Vec Go.Cdc Go.Ops
def dS (l:List OP) (i:Nat) (d:AObj):St:={ env:=slots 20 [(2,.ptr 0 0),(6,opl l),(7,int l.length),(8,int i)],H:=[d] }
def dX (d:AObj):St:={ env:=slots 20 [(2,.ptr 0 0)],H:=[d] }
abbrev bx0:AObj:=.box [nilS,nilS]
abbrev bx1 (v:List D) (nm:ByteArray) (d s n:Int):AObj:=.box [vec v,fs1 nm d s n]
theorem dr0_w (l:List OP) (o:OP) (i:Nat) (hl:l.length≤1000000) (hi:(i:Int)<(l.length:Int)) (hx:l[i]? = some o) (v:List D) (nm:ByteArray) (d s n:Int) (hA:Cq 27 [d0,op o] (.tup [d1 v nm d s n,int 0])) (ex:AEx) (s':St) (h:Rq 0 25 0 (sM 20 [(2,.ptr 0 0),(6,opl l),(7,int ↑l.length),(8,int ↑(i+1))] [.box [vec v,.sl 7 false [[int 3,str nm,nilS,nilS,.sl 3 false [[int d,int s,int n]],nilS,nilS]]]]) ex s'):Rq 0 25 0 (dS l i bx0) ex s':=by
 exact loop_next [ki ((i:Int)<l.length),ke (opc o) (ocs l) i (el_nat hx),kc [] hA,kW 18 (i+1) ↑(i+1)] (others 20 [2,6,7,8]) 1 h
theorem dr1_w (l:List OP) (o:OP) (i:Nat) (hl:l.length≤1000000) (hi:(i:Int)<(l.length:Int)) (hx:l[i]? = some o) (v:List D) (nm:ByteArray) (d s n:Int) (v2:List D) (s2 n2:Int) (hA:Cq 27 [d1 v nm d s n,op o] (.tup [d1 v2 nm d s2 n2,int 0])) (ex:AEx) (s':St) (h:Rq 0 25 0 (sM 20 [(2,.ptr 0 0),(6,opl l),(7,int ↑l.length),(8,int ↑(i+1))] [.box [vec v2,.sl 7 false [[int 3,str nm,nilS,nilS,.sl 3 false [[int d,int s2,int n2]],nilS,nilS]]]]) ex s'):Rq 0 25 0 (dS l i (bx1 v nm d s n)) ex s':=by
 exact loop_next [ki ((i:Int)<l.length),ke (opc o) (ocs l) i (el_nat hx),kc [] hA,kW 18 (i+1) ↑(i+1)] (others 20 [2,6,7,8]) 1 h
theorem de0_w (l:List OP) (i:Nat) (hi:¬ (i:Int)<(l.length:Int)) (h:True):Rq 0 25 0 (dS l i bx0) (AEx.exit 0) (dX bx0):=by
 have _:=h
 exact loop_exit [kj ((i:Int)<l.length)] (others 20 [2]) 1
theorem de1_w (l:List OP) (i:Nat) (hi:¬ (i:Int)<(l.length:Int)) (v:List D) (nm:ByteArray) (d s n:Int) (h:True):Rq 0 25 0 (dS l i (bx1 v nm d s n)) (AEx.exit 0) (dX (bx1 v nm d s n)):=by
 have _:=h
 exact loop_exit [kj ((i:Int)<l.length)] (others 20 [2]) 1
theorem df0_w (x:AV) (l:List OP) (hR:Cq 16 [opl []] (opl l)) (hL:Rq 0 25 0 (dS l 0 bx0) (.exit 0) (dX bx0)) (h:True):Cq 25 [opl []] d0:=by
 have _:=h
 exact callC_of [kc [] hR,kN 7 (ocs_length l),kl (rG [(0,2),(3,3),(9,11)]) 1 hL]
theorem df1_w (ls l:List OP) (v:List D) (nm:ByteArray) (d s n:Int) (hR:Cq 16 [opl ls] (opl l)) (hL:Rq 0 25 0 (dS l 0 bx0) (.exit 0) (dX (bx1 v nm d s n))) (h:True):Cq 25 [opl ls] (d1 v nm d s n):=by
 have _:=h
 exact callC_of [kc [] hR,kN 7 (ocs_length l),kl (rG [(0,2),(3,3),(9,11)]) 1 hL]
def cNm:ByteArray:=ByteArray.mk #[99]
theorem count_w (d s t n:Int) (out:AOut) (h:AOut.ret (AV.agg [int d,int s,int t,nilS,int 3,str (ByteArray.mk #[99]),int 5,int 0,int 0,int 0,int 0,int 0,int 0,str (ByteArray.mk #[]),str (ByteArray.mk #[]),int n,Am.bool false])=out):CallC P G 33 [int d,int s,int t,int n,nilS] [] out []:=by
 have e1:=h
 exact e1 ▸ ((show Cq 33 [int d,int s,int t,int n,nilS] (.agg [int d,int s,int t,nilS,int 3,str (ByteArray.mk #[99]),int 5,int 0,int 0,int 0,int 0,int 0,int 0,str (ByteArray.mk #[]),str (ByteArray.mk #[]),int n,Am.bool false]) from callC_of []))
abbrev rsS:St:={ env:=slots 40 [(2,.ptr 0 0),(3,.ptr 1 0),(4,Am.bool false),(5,int 0)],H:=[bx0,bx0] }
theorem rs18_l  (h:True):Rq 0 26 0 rsS (AEx.exit 0) (sM 40 [] [bx0,bx0]):=by
 have _:=h
 exact loop_exit [kY] (others 40 []) 2
theorem rs18_w (hS:Cq 18 [nilS,nilS] (Am.bool true)) (hL:Rq 0 26 0 rsS (.exit 0) { env:=slots 40 [],H:=[bx0,bx0] }) (h:True):Cq 26 [d0,d0] (Am.bool true):=by
 have _:=h
 exact callC_of [kc [] hS,kY,kY,kl (rG [(0,2),(6,34)]) 2 hL]
end Go.Mg


namespace Go.Mg
open Go Go.Am Go.Proofs Go.Seat Go.Vec Go.Cdc Go.Ops
end Go.Mg


namespace Go.Mg
open Go Go.Am Go.Proofs Go.Seat Go.Vec Go.Cdc Go.Ops
section
variable {u:List OP} (hg:Gvs u) (hu:u.length≤1000000)
include hg hu
end
end Go.Mg


namespace Go.Mg
open Go Go.Am Go.Proofs Go.Seat Go.Vec Go.Cdc Go.Ops
end Go.Mg


namespace Go.Mg
open Go Go.Am Go.Proofs Go.Seat Go.Vec Go.Cdc Go.Ops
end Go.Mg


namespace Go.Mg
open Go Go.Am Go.Proofs Go.Seat Go.Vec Go.Cdc Go.Ops
def aO:OP:=cOp 5 1 1 3 cNm
def bO:OP:=cOp 5 2 2 4 cNm
def tS (l:List OP):AV:=.sl 17 true (ocs l)
theorem sane_w (c1:Cq 33 [int 5,int 1,int 1,int 3,nilS] (op aO)) (c2:Cq 33 [int 5,int 2,int 2,int 4,nilS] (op bO)) (u:Cq 14 [tS [bO,aO],tS [aO]] (opl [aO,bO])) (r:Cq 16 [tS [bO,aO]] (opl [aO,bO])) (m:Cq 19 [tS [bO]] (vec [(5,1)])) (p:Cq 22 [tS [aO,bO],nilS] (.tup [opl [],opl [aO,bO],int 0])) (q:Cq 22 [nilS,.sl 2 true [[int 1,int 0]]] (.tup [opl [],opl [],int 120])) (s1:Cq 13 [opl [aO,bO],tS [aO,bO]] (Am.bool true)) (z1:Cq 14 [nilS,nilS] (opl [])) (z2:Cq 16 [tS [bO]] (opl [])) (d:Cq 25 [tS [bO,aO]] (d1 [(5,2)] cNm 5 2 7)) (s2:Cq 18 [vec [(5,1)],.sl 2 true [[int 5,int 1]]] (Am.bool true)) (s3:Cq 13 [opl [aO,bO],opl [aO,bO]] (Am.bool true)) (e0:Cq 25 [nilS] d0) (s4:Cq 26 [d0,d0] (Am.bool true)) (t:Cq 32 [vec [(5,2)],int 5] (int 2)) (h:True):Cq 11 [] (Am.bool true):=by
 have _:=h
 exact callC_of [kc [] c1,kc [] c2,kc [] u,kc [] r,kc [] m,kc [] p,kc [] q,kY,kY,kc [] s1,kY,kc [] s1,kY,kc [] z1,kY,kc [] z2,kY,kc [] d,kc [] s2,kO,kO,kc [] s3,kO,kc [] e0,kc [] s4,kO,kc [] t]
end Go.Mg


namespace Go.Am
open Go
theorem Sub.agg {xs ys:List AV} (hl:ys.length=xs.length) (h:∀ j,j<xs.length→Sub (xs.getD j .dead) (ys.getD j .dead)):Sub (.agg xs) (.agg ys):=fun V v hr=>by
 obtain ⟨vs,rfl,h1,h2⟩:=rep_agg hr
 exact .agg ys vs (h1.trans hl.symm) fun j hj=>h j (by omega) V _ (h2 j (by omega))
end Go.Am
namespace Go.Mg
open Go Go.Am Go.Proofs Go.Seat Go.Vec Go.Cdc Go.Ops
theorem ev_1:uni [bO,aO,aO]=[aO,bO]:=by kernel_rfl
theorem ev_2:uni [bO,aO]=[aO,bO]:=by kernel_rfl
theorem ev_3:uni [bO]=[bO]:=by kernel_rfl
theorem ev_4:rdy [aO,bO]=[aO,bO]:=by kernel_rfl
theorem ev_5:rdy [bO]=[]:=by kernel_rfl
theorem ev_6:mis [bO]=[(5,1)]:=by kernel_rfl
theorem ev_7:chkOE aO=0:=by kernel_rfl
theorem ev_8:chkOE bO=0:=by kernel_rfl
theorem ev_9:checkE [((1:Int),(0:Int))]=120:=by kernel_rfl
theorem gdA:Gd aO:=by constructor<;>constructor<;>first | decide | (simp [aO,cOp]; done) | (unfold InR; decide)
theorem tSub (l:List OP):Sub (tS l) (opl l):=Sub.loose 17 true (ocs l)
theorem args1 {f:FuncId} {x y:AV} {out:AOut} (h:CallC P G f [y] [] out []) (hs:Sub x y):CallC P G f [x] [] out []:=CallC.args' h (xs:=[x]) ⟨hs,trivial⟩
theorem args2 {f:FuncId} {x y x' y':AV} {out:AOut} (h:CallC P G f [x',y'] [] out []) (h1:Sub x x') (h2:Sub y y'):CallC P G f [x,y] [] out []:=CallC.args' h (xs:=[x,y]) ⟨h1,h2,trivial⟩
theorem oplN_out {f:FuncId} {args:List AV} {u:List OP} (h:CallC P G f args [] (.ret (oplN u)) []):CallC P G f args [] (.ret (opl u)) [] :=
 h.out (show Sub (oplN u) (opl u) by unfold oplN; split; (rename_i e; rw [e]; exact nilO); exact Sub.refl _)
theorem count_c (d s t n:Int):Cq 33 [int d,int s,int t,int n,nilS] (op (cOp d s t n cNm)) :=
 (count_w d s t n _ rfl).out (Sub.agg rfl fun j hj=>by
  match j,hj with
  | 3,_=>exact Sub.nil 2
  | 0,_ | 1,_ | 2,_ | 4,_ | 5,_ | 6,_ | 7,_ | 8,_ | 9,_ | 10,_ | 11,_ | 12,_ | 13,_ | 14,_ | 15,_ | 16,_=>exact Sub.refl _
  | k+17,hj=>exact absurd hj (by show ¬ k+17<17; omega))
theorem gdB:Gd bO:=by constructor<;>constructor<;>first | decide | (simp [bO,cOp]; done) | (unfold InR; decide)
theorem gdl {l:List OP} (h:∀ o∈l,o=aO∨o=bO):Gds l:=fun o ho=>(h o ho).elim (fun e=>e ▸ gdA) (fun e=>e ▸ gdB)
theorem chkA:Cq 31 [op aO] (int 0):=by have h:=Ops.check_c aO gdA.okn; rwa [ev_7] at h
theorem chkB:Cq 31 [op bO] (int 0):=by have h:=Ops.check_c bO gdB.okn; rwa [ev_8] at h
theorem w_1:Cq 29 [nilS,dot (5,1)] (.tup [vec [(5,1)],int 0]):=by
 have h:=args2 (Vec.with_c [] 5 1 (by simp)) (Sub.nil 2) (Sub.refl _)
 rwa [show joinE [] [((5:Int),(1:Int))]=[(5,1)] by kernel_rfl,show check2E [] [((5:Int),(1:Int))]=0 by kernel_rfl] at h
theorem w_2:Cq 29 [vec [(5,1)],dot (5,2)] (.tup [vec [(5,2)],int 0]):=by
 have h:=Vec.with_c [(5,1)] 5 2 (by simp)
 rwa [show joinE [((5:Int),(1:Int))] [((5:Int),(2:Int))]=[(5,2)] by kernel_rfl,show check2E [((5:Int),(1:Int))] [((5:Int),(2:Int))]=0 by kernel_rfl] at h
theorem ap_a:Cq 27 [d0,op aO] (.tup [d1 [(5,1)] cNm 5 1 3,int 0]):=apply0_c (dv:=5) 1 3 cNm (by omega) (by omega) chkA w_1
theorem ap_b:Cq 27 [d1 [(5,1)] cNm 5 1 3,op bO] (.tup [d1 [(5,2)] cNm 5 2 7,int 0]) :=
 apply1_c (dv:=5) (s0:=1) (sq:=2) 2 3 4 cNm (by simp) (by kernel_rfl) (by kernel_rfl) (by decide) (by omega) (by omega) (by omega) (by omega) (by omega) (by omega) (by omega) (by kernel_rfl) chkB w_2
theorem rdAB:Cq 16 [opl [bO,aO]] (opl [aO,bO]):=by
 have h:=oplN_out (ready_c [bO,aO] (by simp) (gdl (by simp)))
 rwa [ev_2,ev_4] at h
theorem doc_ab:Cq 25 [opl [bO,aO]] (d1 [(5,2)] cNm 5 2 7) :=
 df1_w [bO,aO] [aO,bO] _ _ _ _ _ rdAB (dr0_w [aO,bO] aO 0 (by simp) (by simp) rfl _ _ _ _ _ ap_a _ _ (dr1_w [aO,bO] bO 1 (by simp) (by simp) rfl _ _ _ _ _ _ _ _ ap_b _ _ (de1_w [aO,bO] 2 (by simp) _ _ _ _ _ trivial))) trivial
theorem doc_0:Cq 25 [nilS] d0:=by
 have h:=oplN_out (ready_c [] (by simp) (gdl (by simp)))
 exact args1 (df0_w .dead [] h (de0_w [] 0 (by simp) trivial) trivial) (Sub.nil 17)
theorem cxl {l:List OP} (h:∀ o∈l,o=aO∨o=bO):∀ x∈l,x.cx.length≤1000000000:=fun o ho=>(gdl h o ho).okn.cx
theorem sane_c:Cq 11 [] (Am.bool true):=by
 have u:=union_c [bO,aO] [aO] (by simp) (by simp) (gdl (by simp)) (gdl (by simp))
 rw [show [bO,aO]++[aO]=[bO,aO,aO] from rfl,ev_1] at u
 have m:=missing_c [bO] (by simp) (gdl (by simp))
 rw [ev_3,ev_6] at m
 have p:=upto_c [aO,bO] [] (by simp) (by simp) (gdl (by simp)) (by kernel_rfl)
 rw [show uni [aO,bO]=[aO,bO] by kernel_rfl,show inn [] [aO,bO]=[] by kernel_rfl,show oth [] [aO,bO]=[aO,bO] by kernel_rfl] at p
 have q:=upto_c' [] [(1,0)] (by simp) (by rw [ev_9]; decide)
 rw [ev_9] at q
 have s:=same_c [aO,bO] [aO,bO] (by simp) (cxl (by simp))
 have z1:=union_c [] [] (by simp) (by simp) (gdl (by simp)) (gdl (by simp))
 have z2:=ready_c [bO] (by simp) (gdl (by simp))
 rw [ev_3,ev_5] at z2
 have s2:=Vec.same_c [(5,1)] [(5,1)] (by simp)
 have s4:=Vec.same_c [] [] (by simp)
 have s2':Cq 18 [vec [(5,1)],vec [(5,1)]] (Am.bool true):=by simpa using s2
 have s4':Cq 18 [vec [],vec []] (Am.bool true):=by simpa using s4
 have t:=Vec.at_c [(5,2)] 5 (by simp)
 exact sane_w (count_c 5 1 1 3) (count_c 5 2 2 4) (oplN_out (args2 u (tSub _) (tSub _))) (args1 rdAB (tSub _)) (args1 m (tSub _)) (args2 p (tSub _) (Sub.nil 2)) (args2 q (Sub.nil 17) (Sub.loose 2 true _)) (args2 (by simpa using s) (Sub.refl _) (tSub _)) (oplN_out (args2 z1 (Sub.nil 17) (Sub.nil 17))) (oplN_out (args1 z2 (tSub _))) (args1 doc_ab (tSub _)) (args2 s2' (Sub.refl _) (show Sub (.sl 2 true [[int 5,int 1]]) (vec [(5,1)]) from Sub.loose 2 true _)) (by simpa using s) doc_0 (rs18_w (args2 s4' (Sub.nil 2) (Sub.nil 2)) (rs18_l trivial) trivial) t trivial
end Go.Mg


namespace Go.Mg
open Go Go.Am Go.Proofs Go.Seat Go.Vec Go.Cdc Go.Ops
end Go.Mg


namespace Go.Mg
open Go Go.Am Go.Proofs Go.Seat Go.Vec Go.Cdc Go.Ops
theorem gd_of {o:OP} (hp:Okp o) (hf:fewN o=true):Gd o:=by
 unfold fewN at hf
 simp only [Bool.and_eq_true,decide_eq_true_eq] at hf
 exact ⟨hp,⟨by omega,by omega,by omega,by omega⟩⟩
theorem few_cases {l:List OP} (m:Nat) (hp:∀ o∈l,Okp o) (hl:l.length≤9223372036854775807) :
 Cq 12 [opl l,int m] (Am.bool false)∨(Cq 12 [opl l,int m] (Am.bool true)∧l.length≤m∧Gds l):=by
 have h:=few_c' l m hl
 cases e:(l.all fewN && decide ((l.length:Int)≤m)) with
 | false=>rw [e] at h; exact .inl h
 | true =>
  rw [e] at h
  simp only [Bool.and_eq_true,decide_eq_true_eq] at e
  exact .inr ⟨h,by omega,fun o ho=>gd_of (hp o ho) (List.all_eq_true.1 e.1 o ho)⟩
end Go.Mg


namespace Go.Mg
open Go Go.Am Go.Proofs Go.Seat Go.Vec Go.Cdc Go.Ops
theorem cz3:Tryz.prog.cellsOf 3=1:=by kernel_rfl
theorem cz22:Tryz.prog.cellsOf 22=1:=by kernel_rfl
theorem cz4:Tryz.prog.cellsOf 4=1:=by kernel_rfl
theorem cz9:Tryz.prog.cellsOf 9=1:=by kernel_rfl
theorem cz23:Tryz.prog.cellsOf 49=2:=by kernel_rfl
theorem cz24:Tryz.prog.cellsOf 29=1:=by kernel_rfl
theorem cz26:Tryz.prog.cellsOf 51=2:=by kernel_rfl
theorem cz28:Tryz.prog.cellsOf 53=3:=by kernel_rfl
theorem cz30:Tryz.prog.cellsOf 55=17:=by kernel_rfl
noncomputable def kInt:Cod Tryz.prog 3 Int:=Cod.int Tryz.underlying3 cz3
noncomputable def kStr:Cod Tryz.prog 9 ByteArray:=Cod.str Tryz.underlying9 cz9
noncomputable def kBool:Cod Tryz.prog 4 Bool:=Cod.bool Tryz.underlying4 cz4
noncomputable def kDot:Cod Tryz.prog 49 D:=Cod.struct Tryz.underlying49 (by kernel_rfl) (FCod.cons kInt rfl (FCod.cons kInt (by kernel_rfl) FCod.nil)) (fun a=>(a.1,a.2.1)) Vec.enc (fun _=>rfl) (fun _=>cz23.symm)
noncomputable def kVec:Cod Tryz.prog 29 (List D):=Cod.slice Tryz.underlying29 cz24 (by rw [cz23]; decide) kDot
theorem kVec_enc (v:List D):kVec.enc v=[vec v]:=by
 show [AV.sl (Tryz.prog.cellsOf 49) false (v.map Vec.enc)]=[AV.sl 2 false (v.map Vec.enc)]
 rw [cz23]
noncomputable def kPart:Cod Tryz.prog 51 (Int × ByteArray):=Cod.struct Tryz.underlying51 (by kernel_rfl) (FCod.cons kInt rfl (FCod.cons kStr (by kernel_rfl) FCod.nil)) (fun a=>(a.1,a.2.1)) (fun a=>[Am.int a.1,Am.str a.2]) (fun _=>rfl) (fun _=>cz26.symm)
noncomputable def kID:Cod Tryz.prog 53 (Int × Int × Int):=Cod.struct Tryz.underlying53 (by kernel_rfl) (FCod.cons kInt rfl (FCod.cons kInt (by kernel_rfl) (FCod.cons kInt (by kernel_rfl) FCod.nil))) (fun a=>(a.1,a.2.1,a.2.2.1)) (fun a=>[Am.int a.1,Am.int a.2.1,Am.int a.2.2]) (fun _=>rfl) (fun _=>cz28.symm)
abbrev AO:=D × Int × List D × (Int × ByteArray) × Int × (Int × Int × Int) × (Int × Int × Int) × ByteArray × ByteArray × Int × Bool × Unit
noncomputable def kOp:Cod Tryz.prog 55 OP:=Cod.struct Tryz.underlying55 (by kernel_rfl) (FCod.cons kDot rfl (FCod.cons kInt (by kernel_rfl) (FCod.cons kVec (by kernel_rfl) (FCod.cons kPart (by kernel_rfl) (FCod.cons kInt (by kernel_rfl) (FCod.cons kID (by kernel_rfl) (FCod.cons kID (by kernel_rfl) (FCod.cons kStr (by kernel_rfl) (FCod.cons kStr (by kernel_rfl) (FCod.cons kInt (by kernel_rfl) (FCod.cons kBool (by kernel_rfl) FCod.nil)))))))))))
 (fun a:AO=>⟨a.1.1,a.1.2,a.2.1,a.2.2.1,a.2.2.2.1.1,a.2.2.2.1.2,a.2.2.2.2.1,a.2.2.2.2.2.1.1,a.2.2.2.2.2.1.2.1,a.2.2.2.2.2.1.2.2,a.2.2.2.2.2.2.1.1,a.2.2.2.2.2.2.1.2.1,a.2.2.2.2.2.2.1.2.2,a.2.2.2.2.2.2.2.1,a.2.2.2.2.2.2.2.2.1,a.2.2.2.2.2.2.2.2.2.1,a.2.2.2.2.2.2.2.2.2.2.1⟩) opc
 (fun a:AO=>by
  show opc _=Vec.enc a.1++([Am.int a.2.1]++(kVec.enc a.2.2.1++([Am.int a.2.2.2.1.1,Am.str a.2.2.2.1.2]++([Am.int a.2.2.2.2.1]++([Am.int a.2.2.2.2.2.1.1,Am.int a.2.2.2.2.2.1.2.1,Am.int a.2.2.2.2.2.1.2.2]++([Am.int a.2.2.2.2.2.2.1.1,Am.int a.2.2.2.2.2.2.1.2.1,Am.int a.2.2.2.2.2.2.1.2.2]++([Am.str a.2.2.2.2.2.2.2.1]++([Am.str a.2.2.2.2.2.2.2.2.1]++([Am.int a.2.2.2.2.2.2.2.2.2.1]++([Am.bool a.2.2.2.2.2.2.2.2.2.2.1]++[]))))))))))
  rw [kVec_enc]; rfl) (fun _=>cz30.symm)
theorem kOp_okp {o:OP} (h:kOp.good o):Okp o:=by
 obtain ⟨⟨⟨_,_⟩,_,_,⟨_,_⟩,_,⟨_,_,_⟩,⟨_,_,_⟩,_,_,_,_,_⟩,rfl,⟨⟨_,_,_⟩,ed,d1,d2,_⟩,h1,h2,⟨⟨_,_,_⟩,ep,p1,p2,_⟩,h4,⟨⟨_,_,_,_⟩,ef,f1,f2,f3,_⟩,⟨⟨_,_,_,_⟩,et,t1,t2,t3,_⟩,h7,h8,h9,_⟩:=h
 cases ed; cases ep; cases ef; cases et
 refine ⟨d1,d2,h1,fun x hx=>?_,p1,h4,f1,f2,f3,t1,t2,t3,h9⟩
 obtain ⟨⟨_,_,_⟩,rfl,q1,q2,_⟩:=h2.2 x hx
 exact ⟨q1,q2⟩
noncomputable def kOps:Cod Tryz.prog 22 (List OP):=Cod.slice Tryz.underlying22 cz22 (by rw [cz30]; decide) kOp
theorem kOps_enc (v:List OP):kOps.enc v=[opl v]:=by
 show [AV.sl (Tryz.prog.cellsOf 55) false (v.map opc)]=[AV.sl 17 false (v.map opc)]
 rw [cz30]
theorem reads_ops {H:Type} {enc:TypeId × Value→H} {W:World} {base:Nat} {v:Value} {d:DataW H} {ps:List MemPlace} (hv:Value.okWide Tryz.prog W .any base 22 v) (h:DataW.Trod enc Tryz.prog W 0 (fun _=>true) true 22 v d ps):∃ l:List OP,(l.length≤9223372036854775807∧∀ o∈l,Okp o)∧Rep (view0 W) (opl l) v:=by
 obtain ⟨a,h1,h2⟩:=kOps.one (by kernel_rfl) hv h kOps_enc
 exact ⟨a,⟨h1.1,fun o ho=>kOp_okp (h1.2 o ho)⟩,h2⟩
end Go.Mg


namespace Go.Am
open Go
theorem CallC.frzArrR {P:Program} {G:Nat→Option (List AV)} {f:FuncId} {g sz len:Nat} {ys z:List (List AV)} {out:AOut} {H':List AObj} (h1:ys.take len=z) (h2:z.length=len) (h3:∀ c∈z,c.all AV.pureB=true) (hc:CallC P G f [.sl sz false z] [] out H'):CallC P G f [.own 0 g 0 len] [.arr g sz false ys] (out.ren (upto [] 1)) (.arr g sz true ys::H'.map (AObj.ren (upto [] 1))):=by
 intro V vs hH hG hr
 obtain ⟨v,rfl⟩:∃ v,vs=[v]:=by
  have:=hr.1
  match vs,this with
  | [v],_=>exact ⟨v,rfl⟩
 obtain ⟨V1,k1,k2,k3,k4,k5⟩:=frz_sound (H':=[.arr g sz true ys]) (y:=.sl sz false z) (z:=z) (ps:=[g=g,(ys.drop 0).take len=z,z.length=len,∀ c∈z,c.all AV.pureB=true]) (by rw [hH]; rfl) ⟨rfl,h1,h2,h3,trivial⟩ hG hr.head
 have hx:Reps V1 [.sl sz false z] [v]:=.cons k5 .nil
 have hin:AV.idsInL [] [AV.sl sz false z]=true:=rfl
 have r:=renL_none (at0 []) [AV.sl sz false z] hin
 have:=CallC.frame hc k4 (e:=[]) List.nodup_nil (by simp) rfl (fun i o ho=>by simp at ho) (fun i o ho=>by simp at ho) hx r.1.symm (r.2 _)
 rw [k2,k1] at this
 exact this.mono fun e w' ⟨V2,a1,a2,a3,a4,a5⟩=>⟨V2,a1,k3.trans a2,a3,a4,a5⟩
end Go.Am


namespace Go.Mg
open Go Go.Am Go.Proofs Go.Seat Go.Vec Go.Cdc Go.Ops
def moS (l m u:List OP) (i:Nat):St:={ env:=slots 62 [(0,opl l),(1,opl m),(4,Am.bool false),(5,opl u),(6,int i)],H:=[] }
def moX (l m u:List OP):St:={ env:=slots 62 [(0,opl l),(1,opl m),(4,Am.bool false),(5,opl u)],H:=[] }
theorem mo_y (l m u:List OP) (i:Nat) (o:OP) (hm:m.length≤1000000) (hi:(i:Int)<(m.length:Int)) (hx:m[i]? = some o) (hH:Cq 30 [opl u,dot (o.dv,o.sq)] (Am.bool true)) (ex:AEx) (s':St) (h:(AEx.ret=ex)∧(sM 62 [(4,Am.bool true)] []=s')):Rq 0 10 0 (moS l m u i) ex s':=by
 obtain ⟨eX,eS⟩:=h
 exact RunL.to ((show Rq 0 10 0 (moS l m u i) AEx.ret (sM 62 [(4,Am.bool true)] []) from loop_exit [kN 24 (ocs_length m),ki ((i:Int)<m.length),ke (opc o) (ocs m) i (el_nat hx),kc [] hH,kO] (others 62 [4]) 0)) eX (SubS.of_eq eS)
theorem mo_n (l m u:List OP) (i:Nat) (o:OP) (hm:m.length≤1000000) (hi:(i:Int)<(m.length:Int)) (hx:m[i]? = some o) (hH:Cq 30 [opl u,dot (o.dv,o.sq)] (Am.bool false)) (ex:AEx) (s':St) (h:Rq 0 10 0 (sM 62 [(0,opl l),(1,opl m),(4,Am.bool false),(5,opl u),(6,int ↑(i+1))] []) ex s'):Rq 0 10 0 (moS l m u i) ex s':=by
 exact loop_next [kN 24 (ocs_length m),ki ((i:Int)<m.length),ke (opc o) (ocs m) i (el_nat hx),kc [] hH,kY,kW 27 (i+1) ↑(i+1)] (others 62 [0,1,4,5,6]) 0 h
theorem mo_e (l m u:List OP) (i:Nat) (hm:m.length≤1000000) (hi:¬ (i:Int)<(m.length:Int)) (ex:AEx) (h:AEx.exit 0=ex):Rq 0 10 0 (moS l m u i) ex (moX l m u):=by
 have eX:=h
 exact RunL.to ((show Rq 0 10 0 (moS l m u i) (AEx.exit 0) (sM 62 [(0,.sl 17 false (ocs l)),(1,.sl 17 false (ocs m)),(4,Am.bool false),(5,.sl 17 false (ocs u))] []) from loop_exit [kN 24 (ocs_length m),kj ((i:Int)<m.length)] (others 62 [0,1,4,5]) 0)) eX (SubS.of_eq rfl)
def mpS (b c:List OP) (i:Nat) (H:List AObj):St:={ env:=slots 62 [(4,Am.bool false),(7,opl b),(8,opl c),(9,int i)],H:=H }
theorem mp0_n (b c:List OP) (i:Nat) (o:OP) (hb:b.length≤1000000) (hi:(i:Int)<(b.length:Int)) (hx:b[i]? = some o) (hH:Cq 30 [opl c,dot (o.dv,o.sq)] (Am.bool true)) (ex:AEx) (s':St) (h:Rq 0 10 1 (sM 62 [(4,Am.bool false),(7,opl b),(8,opl c),(9,int ↑(i+1))] []) ex s'):Rq 0 10 1 (mpS b c i []) ex s':=by
 exact loop_next [kN 45 (ocs_length b),ki ((i:Int)<b.length),ke (opc o) (ocs b) i (el_nat hx),kc [] hH,kY,kW 48 (i+1) ↑(i+1)] (others 62 [4,7,8,9]) 0 h
theorem mp1_n (b c:List OP) (i g:Nat) (ys:List OP) (o:OP) (hb:b.length≤1000000) (hi:(i:Int)<(b.length:Int)) (hx:b[i]? = some o) (hH:Cq 30 [opl c,dot (o.dv,o.sq)] (Am.bool true)) (ex:AEx) (s':St) (h:Rq 0 10 1 (sM 62 [(4,Am.bool false),(7,opl b),(8,opl c),(9,int ↑(i+1))] [.arr g 17 true (ocs ys)]) ex s'):Rq 0 10 1 (mpS b c i [AObj.arr g 17 true (ocs ys)]) ex s':=by
 exact loop_next [kN 45 (ocs_length b),ki ((i:Int)<b.length),ke (opc o) (ocs b) i (el_nat hx),kc [] hH,kY,kW 48 (i+1) ↑(i+1)] (others 62 [4,7,8,9]) 1 h
theorem mp0_e (b c:List OP) (i:Nat) (hb:b.length≤1000000) (hi:¬ (i:Int)<(b.length:Int)) (h:True):Rq 0 10 1 (mpS b c i []) (AEx.exit 2) (sM 62 [(4,Am.bool false),(7,opl b),(8,opl c)] []):=by
 have _:=h
 exact loop_exit [kN 45 (ocs_length b),kj ((i:Int)<b.length)] (others 62 [4,7,8]) 0
theorem mp1_e (b c:List OP) (i g:Nat) (ys:List OP) (hb:b.length≤1000000) (hi:¬ (i:Int)<(b.length:Int)) (h:True):Rq 0 10 1 (mpS b c i [AObj.arr g 17 true (ocs ys)]) (AEx.exit 2) (sM 62 [(4,Am.bool false),(7,opl b),(8,opl c)] [.arr g 17 true (ocs ys)]):=by
 have _:=h
 exact loop_exit [kN 45 (ocs_length b),kj ((i:Int)<b.length)] (others 62 [4,7,8]) 1
theorem mf_0 (l m:List OP) (hS:Cq 11 [] (Am.bool true)) (h1:Cq 12 [opl l,int 10] (Am.bool false)) (h:True):Cq 10 [opl l,opl m] (Am.bool true):=by
 have _:=h
 exact callC_of [kc [] hS,kY,kc [] h1,kO,kO]
theorem mf_1 (l m:List OP) (hS:Cq 11 [] (Am.bool true)) (h1:Cq 12 [opl l,int 10] (Am.bool true)) (h2:Cq 12 [opl m,int 6] (Am.bool false)) (h:True):Cq 10 [opl l,opl m] (Am.bool true):=by
 have _:=h
 exact callC_of [kc [] hS,kY,kc [] h1,kY,kc [] h2,kO]
theorem mf_r (l m u:List OP) (hS:Cq 11 [] (Am.bool true)) (h1:Cq 12 [opl l,int 10] (Am.bool true)) (h2:Cq 12 [opl m,int 6] (Am.bool true)) (hU:Cq 14 [opl l,nilS] (opl u)) (hL:Rq 0 10 0 (moS l m u 0) .ret { env:=slots 62 [(4,Am.bool true)],H:=[] }) (h:True):Cq 10 [opl l,opl m] (Am.bool true):=by
 have _:=h
 exact callC_of [kc [] hS,kY,kc [] h1,kY,kc [] h2,kY,kc [] hU,kl (rG [(2,2),(7,55)]) 0 hL]
theorem mf_2 (l m u b c:List OP) (hl:l.length≤1000000) (hm:m.length≤1000000) (h0:¬ ocs l=[]) (hbc:(b.length:Int)≤(c.length:Int)) (hS:Cq 11 [] (Am.bool true)) (h1:Cq 12 [opl l,int 10] (Am.bool true)) (h2:Cq 12 [opl m,int 6] (Am.bool true)) (hU:Cq 14 [opl l,nilS] (opl u)) (hL:Rq 0 10 0 (moS l m u 0) (.exit 0) (moX l m u)) (hR:Cq 16 [opl l] (opl b)) (hQ:CallC P G 16 [.own 0 1 0 (l.length+m.length)] [.arr 1 17 false (ocs l++ocs m)] (.ret (opl c)) [.arr 1 17 true (ocs l++ocs m)]) (hL2:Rq 0 10 1 (mpS b c 0 [.arr 1 17 true (ocs l++ocs m)]) (.exit 2) { env:=slots 62 [(4,Am.bool false),(7,opl b),(8,opl c)],H:=[.arr 1 17 true (ocs l++ocs m)] }) (h:(decide ((c.length:Int)≥(b.length:Int)))=(true)):Cq 10 [opl l,opl m] (Am.bool true):=by
 have hz13:∀ (x:List AV),x∈ocs l++ocs m→AV.idsInL [] x=true:=(by exact (Am.allm_append (ocs_ids _) (ocs_ids _)))
 exact callC_out (Sub.bool_eq h) [kc [] hS,kY,kc [] h1,kY,kc [] h2,kY,kc [] hU,kl (rG [(2,2),(7,55)]) 0 hL,kc [] hR,kv 39 (show Am.Sub (AV.own 0 0 0 (0+List.length (ocs l))) (AV.own 0 0 0 l.length) from (Sub.of_eq (by simp [ocs_length,ocs_ids]))),kp h0,kBd ((0+List.length (ocs l)) * 176) (by simp only [List.length_append,List.length_cons,List.length_nil,List.length_map,ocs_length,ocs_ids]<;>omega),kv 41 (show Am.Sub (AV.own 0 1 0 (List.length l+List.length (ocs m))) (AV.own 0 1 0 (List.length l+List.length m)) from (Sub.of_eq (by simp only [ocs_length]))),kq 0,kp (ocs_length l).symm,kBd ((List.length l+List.length (ocs m)) * 176) (by simp only [List.length_append,List.length_cons,List.length_nil,List.length_map,ocs_length,ocs_ids]<;>omega),kc [0] hQ,kp hz13,kp hz13,kl (rG [(0,2),(5,1),(35,8)]) 1 hL2,kN 58 (ocs_length c),kN 60 (ocs_length b)]
theorem mf_3 (m:List OP) (hm:m.length≤1000000) (h3:¬ ocs m=[]) (u b c:List OP) (hbc:(b.length:Int)≤(c.length:Int)) (hS:Cq 11 [] (Am.bool true)) (h1:Cq 12 [opl [],int 10] (Am.bool true)) (h2:Cq 12 [opl m,int 6] (Am.bool true)) (hU:Cq 14 [opl [],nilS] (opl u)) (hL:Rq 0 10 0 (moS [] m u 0) (.exit 0) (moX [] m u)) (hR:Cq 16 [opl []] (opl b)) (hQ:CallC P G 16 [.own 0 0 0 m.length] [.arr 0 17 false (ocs m)] (.ret (opl c)) [.arr 0 17 true (ocs m)]) (hL2:Rq 0 10 1 (mpS b c 0 [.arr 0 17 true (ocs m)]) (.exit 2) { env:=slots 62 [(4,Am.bool false),(7,opl b),(8,opl c)],H:=[.arr 0 17 true (ocs m)] }) (h:(decide ((c.length:Int)≥(b.length:Int)))=(true)):Cq 10 [opl [],opl m] (Am.bool true):=by
 have hz10:∀ (x:List AV),x∈ocs m→AV.idsInL [] x=true:=(ocs_ids _)
 exact callC_out (Sub.bool_eq h) [kc [] hS,kY,kc [] h1,kY,kc [] h2,kY,kc [] hU,kl (rG [(2,2),(7,55)]) 0 hL,kc [] hR,ko (Orc.emp),kp (show []=[] from (Am.nil_nil)),kv 41 (show Am.Sub (AV.own 0 0 0 (0+List.length (ocs m))) (AV.own 0 0 0 m.length) from (Sub.of_eq (by simp [ocs_length,ocs_ids]))),kp h3,kBd ((0+List.length (ocs m)) * 176) (by simp only [List.length_append,List.length_cons,List.length_nil,List.length_map,ocs_length,ocs_ids]<;>omega),kc [0] hQ,kp hz10,kp hz10,kl (rG [(0,2),(5,1),(35,8)]) 1 hL2,kN 58 (ocs_length c),kN 60 (ocs_length b)]
theorem mf_5 (u b:List OP) (hS:Cq 11 [] (Am.bool true)) (h1:Cq 12 [opl [],int 10] (Am.bool true)) (h2:Cq 12 [opl [],int 6] (Am.bool true)) (hU:Cq 14 [opl [],nilS] (opl u)) (hL:Rq 0 10 0 (moS [] [] u 0) (.exit 0) (moX [] [] u)) (hR:Cq 16 [opl []] (opl b)) (hL2:Rq 0 10 1 (mpS b b 0 []) (.exit 2) { env:=slots 62 [(4,Am.bool false),(7,opl b),(8,opl b)],H:=[] }) (h:(decide ((b.length:Int)≥(b.length:Int)))=(true)):Cq 10 [opl [],opl []] (Am.bool true):=by
 have hz6:[]=[]:=(Am.nil_nil)
 have hz9:=lenS (ocs_length b)
 exact callC_out (Sub.bool_eq h) [kc [] hS,kY,kc [] h1,kY,kc [] h2,kY,kc [] hU,kl (rG [(2,2),(7,55)]) 0 hL,kc [] hR,ko (Orc.emp),ko (Orc.emp),kp hz6,kp hz6,kc [] (show Cq 16 [.sl 17 true []] (.sl 17 false (ocs b)) from (CallC.args' hR ⟨Sub.loose _ _ _,trivial⟩)),kl (rG [(0,2),(5,1),(35,8)]) 0 hL2,kv 58 hz9,kv 60 hz9]
end Go.Mg


namespace Go.Mg
open Go Go.Am Go.Proofs Go.Seat Go.Vec Go.Cdc Go.Ops
theorem uni_sub {l m:List OP} (gl:Gds l) (gm:Gds m) (h:∀ y∈m,has (uni l) y.dv y.sq=false):∀ o∈uni l,o∈uni (l++m):=by
 have hg:Gds (l++m):=fun x hx=>(List.mem_append.1 hx).elim (gl x) (gm x)
 intro o ho
 obtain ⟨h1,h2,h3⟩:=((uni_canon gl).mem o).1 ho
 refine ((uni_canon hg).mem o).2 ⟨List.mem_append_left _ h1,h2,fun y hy hv hd=>?_⟩
 rcases List.mem_append.1 hy with hy | hy
 · exact h3 y hy hv hd
 · have hn:=h y hy
   have:has (uni l) y.dv y.sq=true:=has_iff.2 ⟨o,ho,hd.symm⟩
   rw [hn] at this
   cases this
theorem rdy_sub {l m:List OP} (gl:Gds l) (gm:Gds m) (h:∀ y∈m,has (uni l) y.dv y.sq=false):∀ o∈rdy (uni l),o∈rdy (uni (l++m)):=by
 have hg:Gds (l++m):=fun x hx=>(List.mem_append.1 hx).elim (gl x) (gm x)
 rw [rdy_ref (uni_valid gl) (uni_dots gl)]
 have k:=rdy_is hg
 exact rdy_more (inv0 (uni_valid gl) (uni_dots gl)) (Nat.le_refl _) k (uni_sub gl gm h) k.le
theorem mo_loop {l m u:List OP} (hu:u.length≤1000000) (hm:m.length≤1000000):∀ n k,m.length - k=n→k≤m.length→Rq 0 10 0 (moS l m u k) (if (m.drop k).any (fun y=>has u y.dv y.sq)=true then .ret else .exit 0) (if (m.drop k).any (fun y=>has u y.dv y.sq)=true then { env:=slots 62 [(4,Am.bool true)],H:=[] } else moX l m u):=by
 intro n
 induction n with
 | zero =>
  intro k hk hl
  rw [List.drop_of_length_le (by omega)]
  exact mo_e l m u k hm (by omega) _ rfl
 | succ n ih =>
  intro k hk hl
  have hx:m[k]? = some m[k]:=List.getElem?_eq_getElem (by omega)
  rw [List.drop_eq_getElem_cons (by omega),List.any_cons]
  have hc:=has_c u m[k].dv m[k].sq hu
  cases e:has u m[k].dv m[k].sq with
  | true =>
   rw [e] at hc
   exact mo_y l m u k m[k] hm (by omega) hx hc _ _ ⟨rfl,rfl⟩
  | false =>
   rw [e] at hc
   rw [Bool.false_or]
   exact mo_n l m u k m[k] hm (by omega) hx hc _ _ (ih (k+1) (by omega) (by omega))
theorem mp0_loop {b c:List OP} (hb:b.length≤1000000) (hc:c.length≤1000000) (hs:∀ o∈b,o∈c):∀ n k,b.length - k=n→k≤b.length→Rq 0 10 1 (mpS b c k []) (.exit 2) { env:=slots 62 [(4,Am.bool false),(7,opl b),(8,opl c)],H:=[] }:=by
 intro n
 induction n with
 | zero=>exact fun k hk hl=>mp0_e b c k hb (by omega) trivial
 | succ n ih =>
  intro k hk hl
  have hx:b[k]? = some b[k]:=List.getElem?_eq_getElem (by omega)
  have hh:=has_c c b[k].dv b[k].sq hc
  rw [has_iff.2 ⟨b[k],hs _ (List.getElem_mem _),rfl⟩] at hh
  exact mp0_n b c k b[k] hb (by omega) hx hh _ _ (ih (k+1) (by omega) (by omega))
theorem mp1_loop {b c:List OP} (g:Nat) (ys:List OP) (hb:b.length≤1000000) (hc:c.length≤1000000) (hs:∀ o∈b,o∈c):∀ n k,b.length - k=n→k≤b.length→Rq 0 10 1 (mpS b c k [.arr g 17 true (ocs ys)]) (.exit 2) { env:=slots 62 [(4,Am.bool false),(7,opl b),(8,opl c)],H:=[.arr g 17 true (ocs ys)] }:=by
 intro n
 induction n with
 | zero=>exact fun k hk hl=>mp1_e b c k g ys hb (by omega) trivial
 | succ n ih =>
  intro k hk hl
  have hx:b[k]? = some b[k]:=List.getElem?_eq_getElem (by omega)
  have hh:=has_c c b[k].dv b[k].sq hc
  rw [has_iff.2 ⟨b[k],hs _ (List.getElem_mem _),rfl⟩] at hh
  exact mp1_n b c k g ys b[k] hb (by omega) hx hh _ _ (ih (k+1) (by omega) (by omega))
theorem ready_own {l:List OP} {g:Nat} (hl:l.length≤400000) (hg:Gds l):CallC P G 16 [.own 0 g 0 l.length] [.arr g 17 false (ocs l)] (.ret (opl (rdy (uni l)))) [.arr g 17 true (ocs l)] :=
 CallC.frzArrR (z:=ocs l) (by rw [List.take_of_length_le (by rw [ocs_length]; exact Nat.le_refl _)]) (ocs_length l) (ocs_pure l) (oplN_out (ready_c l hl hg))
theorem moreSpec_h {l m:List OP} (hl:∀ o∈l,Okp o) (hm:∀ o∈m,Okp o) (ll:l.length≤9223372036854775807) (lm:m.length≤9223372036854775807):Cq 10 [opl l,opl m] (Am.bool true):=by
 rcases few_cases 10 hl ll with h1 | ⟨h1,k1,g1⟩
 · exact mf_0 l m sane_c h1 trivial
 rcases few_cases 6 hm lm with h2 | ⟨h2,k2,g2⟩
 · exact mf_1 l m sane_c h1 h2 trivial
 have hg:Gds (l++m):=fun x hx=>(List.mem_append.1 hx).elim (g1 x) (g2 x)
 have hul:=uni_len l
 have hulm:=uni_len (l++m)
 rw [List.length_append] at hulm
 have hU:=oplN_out (union_c l [] (by omega) (by simp) g1 (fun _ h=>(by cases h)))
 rw [List.append_nil] at hU
 have hU:=CallC.args' hU (ys:=[opl l,opl []]) (xs:=[opl l,nilS]) ⟨Sub.refl _,Sub.nil 17,trivial⟩
 have hL:=mo_loop (l:=l) (m:=m) (u:=uni l) (by omega) (by omega) _ 0 rfl (Nat.zero_le _)
 rw [List.drop_zero] at hL
 cases e:m.any (fun y=>has (uni l) y.dv y.sq) with
 | true =>
  rw [e] at hL
  exact mf_r l m (uni l) sane_c h1 h2 hU hL trivial
 | false =>
  rw [e] at hL
  have hn:∀ y∈m,has (uni l) y.dv y.sq=false:=fun y hy=>by
   cases q:has (uni l) y.dv y.sq with
   | false=>rfl
   | true=>exact absurd (List.any_eq_true.2 ⟨y,hy,q⟩) (by rw [e]; decide)
  have hs:=rdy_sub g1 g2 hn
  have hr1:(rdy (uni l)).length≤(uni l).length:=rdyG_length
  have hr2:(rdy (uni (l++m))).length≤(uni (l++m)).length:=rdyG_length
  have hbc:=nd_len dt (rdy_is g1).nd hs
  have hR:=oplN_out (ready_c l (by omega) g1)
  have hQ:=fun g:Nat=>ready_own (l:=l++m) (g:=g) (by rw [List.length_append]; omega) hg
  have hL1:=fun (g:Nat) (ys:List OP)=>mp1_loop (b:=rdy (uni l)) (c:=rdy (uni (l++m))) g ys (by omega) (by omega) hs _ 0 rfl (Nat.zero_le _)
  have hd:decide (((rdy (uni (l++m))).length:Int)≥((rdy (uni l)).length:Int))=true:=decide_eq_true (by omega)
  by_cases el:l=[]
  · subst el
    by_cases em:m=[]
    · subst em
      exact mf_5 (uni []) (rdy (uni [])) sane_c h1 h2 hU hL hR (mp0_loop (by omega) (by omega) (fun _ h=>h) _ 0 rfl (Nat.zero_le _)) (decide_eq_true (Int.le_refl _))
    · have hQ:=hQ 0
      rw [List.nil_append] at hQ hbc hd hL1
      exact mf_3 m (by omega) (ocs_ne em) (uni []) (rdy (uni [])) (rdy (uni m)) (by omega) sane_c h1 h2 hU hL hR hQ (hL1 0 m) hd
  · have hl0:¬ ocs l=[]:=ocs_ne el
    have hQ:=hQ 1
    rw [← ocs_append,List.length_append] at hQ
    have hL1:=hL1 1 (l++m)
    rw [← ocs_append] at hL1
    exact mf_2 l m (uni l) (rdy (uni l)) (rdy (uni (l++m))) (by omega) (by omega) hl0 (by omega) sane_c h1 h2 hU hL hR hQ hL1 hd
end Go.Mg
