import Derived.Test.YteaclamkacmhmaaDoorG10
import Derived.Laws.Strings
set_option maxRecDepth 100000
set_option linter.unusedSimpArgs false
set_option linter.unusedVariables false

namespace Go.Sq
open Go Go.Am Go.Proofs Go.Seat
abbrev ID:=Int × Int × Int
structure CE where
 dv:Int
 sq:Int
 at':Int
 ad:Int
 as':Int
 aa:Int
 tm:Int
 vl:ByteArray
 gn:Bool
 deriving DecidableEq
def enc (c:CE):List AV:=[int c.dv,int c.sq,int c.at',int c.ad,int c.as',int c.aa,int c.tm,str c.vl,bool c.gn]
def encs (v:List CE):List (List AV):=v.map enc
def ces (v:List CE):AV:=.sl 9 false (encs v)
def cel (c:CE):AV:=.agg (enc c)
abbrev ida (a b c:Int):AV:=.agg [int a,int b,int c]
def CE.id (c:CE):ID:=(c.dv,c.sq,c.at')
def CE.after (c:CE):ID:=(c.ad,c.as',c.aa)
abbrev idv (x:ID):AV:=ida x.1 x.2.1 x.2.2
theorem encs_length (v:List CE):(encs v).length=v.length:=by simp [encs]
theorem encs_get? (v:List CE) (k:Nat):(encs v)[k]? = (v[k]?).map enc:=by simp [encs]
theorem encs_append (a b:List CE):encs a++encs b=encs (a++b):=by simp [encs]
theorem encs_one (c:CE):[enc c]=encs [c]:=rfl
theorem encs_mk (a b c d e f t:Int) (s:ByteArray) (g:Bool):[[AV.lit (Value.int IntKind.i64 a),AV.lit (Value.int IntKind.i64 b),AV.lit (Value.int IntKind.i64 c),AV.lit (Value.int IntKind.i64 d),AV.lit (Value.int IntKind.i64 e),AV.lit (Value.int IntKind.i64 f),AV.lit (Value.int IntKind.i64 t),AV.lit (Value.string s),AV.lit (Value.bool g)]]=encs [⟨a,b,c,d,e,f,t,s,g⟩]:=rfl
theorem encs_set (v:List CE) (n:Nat) (c:CE):(encs v).set n (enc c)=encs (v.set n c):=by simp [encs,List.map_set]
theorem encs_pure (v:List CE):∀ c∈encs v,c.all AV.pureB=true:=by
 intro c hc
 obtain ⟨d,_,rfl⟩:=List.mem_map.1 hc
 rfl
theorem encs_ids (v:List CE):∀ c∈encs v,AV.idsInL [] c=true:=by
 intro c hc
 obtain ⟨d,_,rfl⟩:=List.mem_map.1 hc
 rfl
theorem encs_all (v:List CE):List.take v.length (List.drop 0 (encs v))=encs v:=by rw [← encs_length v]; simp
theorem str_eq (a b:ByteArray):(ByteArray.toList a == ByteArray.toList b)=decide (a=b):=by
 rw [ByteArray.toList_eq,ByteArray.toList_eq]
 by_cases h:a=b
 · subst h; simp
 · rw [decide_eq_false h]
   refine beq_eq_false_iff_ne.2 fun e=>h (ByteArray.ext (Array.toList_inj.1 e))
theorem ba_beq (a b:ByteArray):(a == b)=decide (a=b):=by
 obtain ⟨⟨a⟩⟩:=a; obtain ⟨⟨b⟩⟩:=b
 show (a.toArray == b.toArray)=_
 rw [Bool.eq_iff_iff]; simp
end Go.Sq


namespace Go.Seat
end Go.Seat


namespace Go.Vec
open Go Go.Am Go.Proofs Go.Seat
abbrev D:=Int × Int
def enc (d:D):List AV:=[int d.1,int d.2]
def encs (v:List D):List (List AV):=v.map enc
def vec (v:List D):AV:=.sl 2 false (encs v)
def dot (d:D):AV:=.agg (enc d)
theorem encs_length (v:List D):(encs v).length=v.length:=by simp [encs]
theorem encs_get? (v:List D) (k:Nat):(encs v)[k]? = (v[k]?).map enc:=by simp [encs]
theorem encs_one (a b:Int):[[AV.lit (Value.int IntKind.i64 a),AV.lit (Value.int IntKind.i64 b)]]=encs [(a,b)]:=rfl
theorem encs_pure (v:List D):∀ c∈encs v,c.all AV.pureB=true:=by
 intro c hc
 obtain ⟨d,_,rfl⟩:=List.mem_map.1 hc
 rfl
theorem encs_ids (v:List D):∀ c∈encs v,AV.idsInL [] c=true:=by
 intro c hc
 obtain ⟨d,_,rfl⟩:=List.mem_map.1 hc
 rfl
theorem encs_all (v:List D):List.take v.length (List.drop 0 (encs v))=encs v:=by rw [← encs_length v]; simp
def enc1 (n:Int):List AV:=[int n]
def ints (l:List Int):List (List AV):=l.map enc1
theorem ints_length (l:List Int):(ints l).length=l.length:=by simp [ints]
theorem ints_one (a:Int):[[AV.lit (Value.int IntKind.i64 a)]]=ints [a]:=rfl
theorem ints_append (a b:List Int):ints a++ints b=ints (a++b):=by simp [ints]
theorem encs_append (a b:List D):encs a++encs b=encs (a++b):=by simp [encs]
theorem ints_pure (l:List Int):∀ c∈ints l,c.all AV.pureB=true:=by
 intro c hc
 obtain ⟨d,_,rfl⟩:=List.mem_map.1 hc
 rfl
theorem ints_ids (l:List Int):∀ c∈ints l,AV.idsInL [] c=true:=by
 intro c hc
 obtain ⟨d,_,rfl⟩:=List.mem_map.1 hc
 rfl
theorem ints_all (l:List Int):List.take l.length (List.drop 0 (ints l))=ints l:=by rw [← ints_length l]; simp
end Go.Vec


namespace Go.Tx
open Go Go.Am Go.Proofs Go.Seat
def tabB:List Int:=[0,1,28,2,29,14,24,3,30,22,20,15,25,17,4,8,31,27,13,23,21,19,16,7,26,12,18,6,11,5,10,9]
def tab:List AV:=tabB.map fun n=>.lit (.int .u8 n)
def G (g:Nat):Option (List AV):=if g=0 then some tab else none
theorem lift {f:FuncId} {xs:List AV} {H:List AObj} {out:AOut} {H':List AObj} (h:CallC P Seat.G f xs H out H'):CallC P G f xs H out H':=fun V vs hH hG hr =>
 (h V vs hH ⟨hG.lt,hG.obj,hG.inj,hG.mutb,fun g cs hg=>by cases hg⟩ hr).mono fun e w' ⟨V',a1,a2,a3,a4,a5⟩=>⟨V',a1,a2,⟨a3.lt,a3.obj,a3.inj,a3.mutb,hG.glob_step a2⟩,a4,a5⟩
structure MK where
 dv:Int
 sq:Int
 tm:Int
 fd:Int
 fs:Int
 fa:Int
 td:Int
 ts:Int
 ta:Int
 st:Int
 on:Bool
 deriving DecidableEq
def MK.dot (m:MK):Int × Int:=(m.dv,m.sq)
def MK.frm (m:MK):Sq.ID:=(m.fd,m.fs,m.fa)
def MK.upto (m:MK):Sq.ID:=(m.td,m.ts,m.ta)
def enc (m:MK):List AV:=[int m.dv,int m.sq,int m.tm,int m.fd,int m.fs,int m.fa,int m.td,int m.ts,int m.ta,int m.st,bool m.on]
def encs (v:List MK):List (List AV):=v.map enc
def mks (v:List MK):AV:=.sl 11 false (encs v)
def mke (m:MK):AV:=.agg (enc m)
abbrev dta (a b:Int):AV:=.agg [int a,int b]
structure TE where
 cells:List Sq.CE
 marks:List MK
 deriving DecidableEq
abbrev txt (t:TE):AV:=.agg [Sq.ces t.cells,mks t.marks]
theorem encs_length (v:List MK):(encs v).length=v.length:=by simp [encs]
theorem encs_get? (v:List MK) (k:Nat):(encs v)[k]? = (v[k]?).map enc:=by simp [encs]
theorem encs_append (a b:List MK):encs a++encs b=encs (a++b):=by simp [encs]
theorem encs_one (m:MK):[enc m]=encs [m]:=rfl
theorem encs_mk (a b c d e f g h i j:Int) (o:Bool):[[AV.lit (Value.int IntKind.i64 a),AV.lit (Value.int IntKind.i64 b),AV.lit (Value.int IntKind.i64 c),AV.lit (Value.int IntKind.i64 d),AV.lit (Value.int IntKind.i64 e),AV.lit (Value.int IntKind.i64 f),AV.lit (Value.int IntKind.i64 g),AV.lit (Value.int IntKind.i64 h),AV.lit (Value.int IntKind.i64 i),AV.lit (Value.int IntKind.i64 j),AV.lit (Value.bool o)]]=encs [⟨a,b,c,d,e,f,g,h,i,j,o⟩]:=rfl
theorem encs_set (v:List MK) (n:Nat) (m:MK):(encs v).set n (enc m)=encs (v.set n m):=by simp [encs,List.map_set]
theorem encs_pure (v:List MK):∀ c∈encs v,c.all AV.pureB=true:=by
 intro c hc
 obtain ⟨d,_,rfl⟩:=List.mem_map.1 hc
 rfl
theorem encs_ids (v:List MK):∀ c∈encs v,AV.idsInL [] c=true:=by
 intro c hc
 obtain ⟨d,_,rfl⟩:=List.mem_map.1 hc
 rfl
theorem encs_all (v:List MK):List.take v.length (List.drop 0 (encs v))=encs v:=by rw [← encs_length v]; simp
end Go.Tx
