import Derived.Test.YtihbnnkcemjflaaGreatDoorG18
import Derived.Shelf.SlSortCmp.WholeK
import Derived.Ground.SlsfProg
import Derived.KernelRfl
set_option maxRecDepth 100000
set_option linter.unusedSimpArgs false
set_option linter.unusedVariables false

namespace Go.Proofs
open Go.Shelf Go.RowKit Go.Lib Go.Sort
def Tryz.sortOp_ren:Go.Shelf.Ren:=⟨fun | 6=>94 | 15=>104 | 14=>124 | 28=>142 | 29=>143 | 20=>162 | 21=>163 | 22=>164 | 23=>165 | 24=>166 | 25=>167 | 26=>168 | 27=>169 | 46=>197 | 47=>178 | 48=>179 | 49=>198 | 50=>199 | 57=>217 | n=>n,fun | 22=>22 | 24=>55 | 25=>117 | 3=>3 | 39=>37 | 0=>0 | 53=>197 | 55=>199 | 4=>4 | 46=>190 | 45=>189 | 50=>95 | 5=>5 | 9=>9 | 66=>228 | 70=>232 | 76=>259 | 77=>260 | n=>n,fun | n=>n⟩
theorem Tryz.sortOp:Go.Proofs.SlLaysF0.n6 Tryz.prog Tryz.sortOp_ren where
 mixed:=by kernel_rfl
 f6:=⟨"slices.SortFunc[[]chartroom/api.Op,chartroom/api.Op]",by decide,Tryz.func94.trans (congrArg some (by kernel_rfl))⟩
 f14:=⟨"slices.pdqsortCmpFunc[chartroom/api.Op]",by decide,Tryz.func124.trans (congrArg some (by kernel_rfl))⟩
 f15:=Tryz.func104.trans (congrArg some (by kernel_rfl))
 f20:=⟨"slices.insertionSortCmpFunc[chartroom/api.Op]",by decide,Tryz.func162.trans (congrArg some (by kernel_rfl))⟩
 f21:=⟨"slices.heapSortCmpFunc[chartroom/api.Op]",by decide,Tryz.func163.trans (congrArg some (by kernel_rfl))⟩
 f22:=⟨"slices.breakPatternsCmpFunc[chartroom/api.Op]",by decide,Tryz.func164.trans (congrArg some (by kernel_rfl))⟩
 f23:=⟨"slices.choosePivotCmpFunc[chartroom/api.Op]",by decide,Tryz.func165.trans (congrArg some (by kernel_rfl))⟩
 f24:=⟨"slices.reverseRangeCmpFunc[chartroom/api.Op]",by decide,Tryz.func166.trans (congrArg some (by kernel_rfl))⟩
 f25:=⟨"slices.partialInsertionSortCmpFunc[chartroom/api.Op]",by decide,Tryz.func167.trans (congrArg some (by kernel_rfl))⟩
 f26:=⟨"slices.partitionEqualCmpFunc[chartroom/api.Op]",by decide,Tryz.func168.trans (congrArg some (by kernel_rfl))⟩
 f27:=⟨"slices.partitionCmpFunc[chartroom/api.Op]",by decide,Tryz.func169.trans (congrArg some (by kernel_rfl))⟩
 f28:=Tryz.func142.trans (congrArg some (by kernel_rfl))
 f29:=Tryz.func143.trans (congrArg some (by kernel_rfl))
 f46:=⟨"slices.siftDownCmpFunc[chartroom/api.Op]",by decide,Tryz.func197.trans (congrArg some (by kernel_rfl))⟩
 f47:=Tryz.func178.trans (congrArg some (by kernel_rfl))
 f48:=Tryz.func179.trans (congrArg some (by kernel_rfl))
 f49:=⟨"slices.medianAdjacentCmpFunc[chartroom/api.Op]",by decide,Tryz.func198.trans (congrArg some (by kernel_rfl))⟩
 f50:=⟨"slices.medianCmpFunc[chartroom/api.Op]",by decide,Tryz.func199.trans (congrArg some (by kernel_rfl))⟩
 f57:=⟨"slices.order2CmpFunc[chartroom/api.Op]",by decide,Tryz.func217.trans (congrArg some (by kernel_rfl))⟩
 t0:=Tryz.underlying0
 a0:=Tryz.isAgg0
 z0:=Tryz.sizeOf0
 v0:=Tryz.zeroValue0
 t3:=Tryz.underlying3
 a3:=Tryz.isAgg3
 z3:=Tryz.sizeOf3
 v3:=Tryz.zeroValue3
 t4:=Tryz.underlying4
 a4:=Tryz.isAgg4
 z4:=Tryz.sizeOf4
 v4:=Tryz.zeroValue4
 t5:=Tryz.underlying5
 a5:=Tryz.isAgg5
 z5:=Tryz.sizeOf5
 v5:=Tryz.zeroValue5
 t9:=Tryz.underlying9
 a9:=Tryz.isAgg9
 z9:=Tryz.sizeOf9
 v9:=Tryz.zeroValue9
 t22:=Tryz.underlying22
 a22:=Tryz.isAgg22
 z22:=Tryz.sizeOf22
 v22:=Tryz.zeroValue22
 t25:=Tryz.underlying117
 a25:=Tryz.isAgg117
 z25:=Tryz.sizeOf117
 v25:=Tryz.zeroValue117
 t39:=Tryz.underlying37
 a39:=Tryz.isAgg37
 z39:=Tryz.sizeOf37
 v39:=Tryz.zeroValue37
 t45:=Tryz.underlying189
 a45:=Tryz.isAgg189
 z45:=Tryz.sizeOf189
 v45:=Tryz.zeroValue189
 t46:=Tryz.underlying190
 a46:=Tryz.isAgg190
 z46:=Tryz.sizeOf190
 v46:=Tryz.zeroValue190
 t50:=Tryz.underlying95
 a50:=Tryz.isAgg95
 z50:=Tryz.sizeOf95
 v50:=Tryz.zeroValue95
 t53:=Tryz.underlying197
 a53:=Tryz.isAgg197
 z53:=Tryz.sizeOf197
 v53:=Tryz.zeroValue197
 t55:=Tryz.underlying199
 a55:=Tryz.isAgg199
 z55:=Tryz.sizeOf199
 v55:=Tryz.zeroValue199
 t66:=Tryz.underlying228
 a66:=Tryz.isAgg228
 z66:=Tryz.sizeOf228
 v66:=Tryz.zeroValue228
 t70:=Tryz.underlying232
 a70:=Tryz.isAgg232
 z70:=Tryz.sizeOf232
 v70:=Tryz.zeroValue232
 t76:=Tryz.underlying259
 a76:=Tryz.isAgg259
 z76:=Tryz.sizeOf259
 v76:=Tryz.zeroValue259
 t77:=Tryz.underlying260
 a77:=Tryz.isAgg260
 z77:=Tryz.sizeOf260
 v77:=Tryz.zeroValue260
end Go.Proofs


namespace Go.Ops
open Go Go.Am Go.Proofs Go.Seat Go.Vec Go.Cdc
def eqSt (a b:List D) (k:Nat):St:={ env:=slots 26 [(0,vec a),(1,vec b),(4,bool false),(11,vec a),(12,int a.length),(13,int k)],H:=[] }
theorem eq_w (a b:List D) (k:Nat) (ha:a.length≤1000000000) (hb:b.length=a.length) (ex:AEx) (r:Bool) (h:((((k:Int)<(a.length:Int))→(∃ x2:D,(a[k]? = some x2)∧(∃ x4:D,(b[k]? = some x4)∧((((x2.1 == x4.1 && x2.2 == x4.2)=true)→Rq 0 92 0 (sM 26 [(0,vec a),(1,vec b),(4,Am.bool false),(11,vec a),(12,int ↑a.length),(13,int ↑(k+1))] []) ex (sM 26 [(4,Am.bool r)] []))∧(((x2.1 == x4.1 && x2.2 == x4.2)=false)→(AEx.ret=ex)∧((false)=(r)))))))∧((¬(k:Int)<(a.length:Int))→(AEx.exit 0=ex)∧((false)=(r))))):Rq 0 92 0 (eqSt a b k) ex (sM 26 [(4,Am.bool r)] []):=by
 by_cases c1:((k:Int)<(a.length:Int))
 · have h:=h.1 c1
   obtain ⟨x2,o3,h⟩:=h
   obtain ⟨x4,o5,h⟩:=h
   let l1:List Itm:=[kt (qT c1),ko (Orc.elem (Vec.enc x2)),ko (Orc.elem (Vec.enc x4)),kp (show (0:Int)≤(k:Int)∧(encs a)[Int.toNat (k:Int)]? = some (Vec.enc x2) from (el_nat o3)),kp (show (0:Int)≤(k:Int)∧(encs b)[Int.toNat (k:Int)]? = some (Vec.enc x4) from (el_nat o5))]
   rcases Bool.eq_false_or_eq_true ((x2.1 == x4.1 && x2.2 == x4.2)) with c6 | c6
   · have h:=h.1 c6
     exact loop_next (l1++[kf (show (!(x2.1 == x4.1 && x2.2 == x4.2))=false from (congrArg Bool.not (c6))),kW 25 (k+1) ↑(k+1)]) (others 26 [0,1,4,11,12,13]) 0 h
   · have h:=h.2 c6
     obtain ⟨eX,e1⟩:=h
     exact RunL.to ((show Rq 0 92 0 (eqSt a b k) AEx.ret (sM 26 [(4,Am.bool false)] []) from loop_exit (l1++[kt (show (!(x2.1 == x4.1 && x2.2 == x4.2))=true from (congrArg Bool.not (c6)))]) (others 26 [4]) 0)) eX (SubS.slots ⟨rfl,(Sub.bool_eq e1),trivial⟩)
 · have h:=h.2 c1
   obtain ⟨eX,e1⟩:=h
   exact RunL.to ((show Rq 0 92 0 (eqSt a b k) (AEx.exit 0) (sM 26 [(4,Am.bool false)] []) from loop_exit [kf (qF c1)] (others 26 [4]) 0)) eX (SubS.slots ⟨rfl,(Sub.bool_eq e1),trivial⟩)
theorem eq_loop (a b:List D) (ha:a.length≤1000000000) (hb:b.length=a.length):∀ n k,a.length - k=n→k≤a.length →
 Rq 0 92 0 (eqSt a b k) (if a.drop k=b.drop k then .exit 0 else .ret) { env:=slots 26 [(4,bool false)],H:=[] }:=by
 intro n
 induction n with
 | zero =>
  intro k hn hk
  have e:a.drop k=b.drop k:=by rw [List.drop_of_length_le (by omega),List.drop_of_length_le (by omega)]
  exact eq_w a b k ha hb _ _ ⟨fun h=>absurd h (by omega),fun _=>⟨by rw [if_pos e],rfl⟩⟩
 | succ n ih =>
  intro k hn hk
  have hlt:k<a.length:=by omega
  have hlt':k<b.length:=by omega
  have e1:=List.drop_eq_getElem_cons hlt
  have e2:=List.drop_eq_getElem_cons hlt'
  refine eq_w a b k ha hb _ _ ⟨fun h=>⟨a[k],List.getElem?_eq_getElem hlt,b[k],List.getElem?_eq_getElem hlt',⟨fun hq=>?_,fun hq=>?_⟩⟩,fun h=>absurd hlt (by omega)⟩
  · have hab:a[k]=b[k]:=by simp at hq; exact Prod.ext hq.1 hq.2
    have h2:=ih (k+1) (by omega) (by omega)
    by_cases hd:a.drop (k+1)=b.drop (k+1)
    · rw [if_pos hd] at h2
      rw [if_pos (by rw [e1,e2,hab,hd])]
      exact h2
    · rw [if_neg hd] at h2
      rw [if_neg (by rw [e1,e2,hab]; exact fun h=>hd (List.cons.inj h).2)]
      exact h2
  · have hne:¬ a.drop k=b.drop k:=by
     rw [e1,e2]
     intro he
     injection he with h1 _
     rw [h1] at hq
     simp at hq
    rw [if_neg hne]
    exact ⟨rfl,rfl⟩
theorem eq_l (a b:List D) (ha:a.length≤1000000000) (hb:b.length=a.length):Rq 0 92 0 (eqSt a b 0) (if a=b then .exit 0 else .ret) { env:=slots 26 [(4,bool false)],H:=[] } :=
 eq_loop a b ha hb _ 0 rfl (by omega)
theorem eq_f (a b:List D) (ha:a.length≤1000000000) (h:((((a.length:Int)=(b.length:Int))→(((a=b)→(true)=(decide (a=b)))∧((¬a=b)→(false)=(decide (a=b)))))∧((¬(a.length:Int)=(b.length:Int))→(false)=(decide (a=b))))):Cq 92 [vec a,vec b] (Am.bool (decide (a=b))):=by
 have hz0:=lenS (Go.Vec.encs_length a)
 have hz1:=lenS (Go.Vec.encs_length b)
 by_cases c1:((a.length:Int)=(b.length:Int))
 · have h:=h.1 c1
   have hz2:((a.length:Int) != (b.length:Int))=false:=(congrArg Bool.not (qEq.2 c1))
   by_cases c2:(a=b)
   · have h:=h.1 c2
     exact callC_out (Sub.bool_eq h) [kv 7 hz0,kv 9 hz1,kf hz2,kv 12 hz0,kl (rG [(2,2),(5,6),(14,12)]) 0 (show Rq 0 92 0 (sM 26 [(0,.sl 2 false (encs a)),(1,.sl 2 false (encs b)),(4,Am.bool false),(11,.sl 2 false (encs a)),(12,int ↑a.length),(13,int 0)] []) (AEx.exit 0) (sM 26 [(4,Am.bool false)] []) from (by have h0:=(@eq_l (a) (b) (by omega) (by omega)); simp only [if_pos c2] at h0; exact h0))]
   · have h:=h.2 c2
     exact callC_out (Sub.bool_eq h) [kv 7 hz0,kv 9 hz1,kf hz2,kv 12 hz0,kl (rG [(2,2),(5,6),(14,12)]) 0 (show Rq 0 92 0 (sM 26 [(0,.sl 2 false (encs a)),(1,.sl 2 false (encs b)),(4,Am.bool false),(11,.sl 2 false (encs a)),(12,int ↑a.length),(13,int 0)] []) AEx.ret (sM 26 [(4,Am.bool false)] []) from (by have h0:=(@eq_l (a) (b) (by omega) (by omega)); simp only [if_neg c2] at h0; exact h0))]
 · have h:=h.2 c1
   exact callC_out (Sub.bool_eq h) [kv 7 hz0,kv 9 hz1,kt (show ((a.length:Int) != (b.length:Int))=true from (congrArg Bool.not (qN.2 c1)))]
theorem eq_c (a b:List D) (ha:a.length≤1000000000):Cq 92 [vec a,vec b] (bool (decide (a=b))):=by
 refine eq_f a b ha ?_
 constructor
 · intro h
   exact ⟨fun h=>by simp [h],fun h=>by simp [h]⟩
 · intro h
   have:a≠b:=fun e=>h (by rw [e])
   simp [this]
theorem ba_beq (a b:ByteArray):(a == b)=decide (a=b):=by
 obtain ⟨⟨a⟩⟩:=a; obtain ⟨⟨b⟩⟩:=b
 show (a.toArray == b.toArray)=_
 rw [Bool.eq_iff_iff]; simp
theorem bool_beq (a b:Bool):(a == b)=decide (a=b):=by cases a<;>cases b<;>rfl
def sameB (a b:OP):Bool:=(decide (a.dv=b.dv) && decide (a.sq=b.sq)) && decide (a.tm=b.tm) && decide (a.cx=b.cx) && (decide (a.pk=b.pk) && decide (a.pn=b.pn)) && decide (a.kd=b.kd) && (decide (a.f1=b.f1) && decide (a.f2=b.f2) && decide (a.f3=b.f3)) &&
 (decide (a.t1=b.t1) && decide (a.t2=b.t2) && decide (a.t3=b.t3)) && decide (a.ky=b.ky) && decide (a.vl=b.vl) && decide (a.n=b.n) && decide (a.on=b.on)
theorem sameB_eq (a b:OP):sameB a b=decide (a=b):=by
 cases a; cases b
 simp only [sameB,OP.mk.injEq,Bool.decide_and,Bool.and_assoc]
theorem same_w (a b:OP) (ha:a.cx.length≤1000000000) (v:Bool) (h:((((a.dv == b.dv && a.sq == b.sq)=true)→(((a.tm=b.tm)→(((a.cx=b.cx)→((((a.pk == b.pk && a.pn == b.pn)=true)→(((a.kd=b.kd)→((((a.f1 == b.f1 && (a.f2 == b.f2 && a.f3 == b.f3))=true)→((((a.t1 == b.t1 && (a.t2 == b.t2 && a.t3 == b.t3))=true)→(((a.ky=b.ky)→(((a.vl=b.vl)→(((a.n=b.n)→(a.on == b.on)=(v))∧((¬a.n=b.n)→(false)=(v))))∧((¬a.vl=b.vl)→(false)=(v))))∧((¬a.ky=b.ky)→(false)=(v))))∧(((a.t1 == b.t1 && (a.t2 == b.t2 && a.t3 == b.t3))=false)→(false)=(v))))∧(((a.f1 == b.f1 && (a.f2 == b.f2 && a.f3 == b.f3))=false)→(false)=(v))))∧((¬a.kd=b.kd)→(false)=(v))))∧(((a.pk == b.pk && a.pn == b.pn)=false)→(false)=(v))))∧((¬a.cx=b.cx)→(false)=(v))))∧((¬a.tm=b.tm)→(false)=(v))))∧(((a.dv == b.dv && a.sq == b.sq)=false)→(false)=(v)))):Cq 59 [op a,op b] (Am.bool v):=by
 rcases Bool.eq_false_or_eq_true ((a.dv == b.dv && a.sq == b.sq)) with c1 | c1
 · have h:=h.1 c1
   by_cases c2:(a.tm=b.tm)
   · have h:=h.1 c2
     have hz0:=(@eq_c a.cx b.cx (by omega))
     let l1:List Itm:=[kt c1,kt (qEq.2 c2),kc [] hz0]
     by_cases c3:(a.cx=b.cx)
     · have h:=h.1 c3
       let l2:List Itm:=l1++[kt (qT c3)]
       rcases Bool.eq_false_or_eq_true ((a.pk == b.pk && a.pn == b.pn)) with c4 | c4
       · have h:=h.1 c4
         by_cases c5:(a.kd=b.kd)
         · have h:=h.1 c5
           let l3:List Itm:=l2++[kt c4,kt (qEq.2 c5)]
           rcases Bool.eq_false_or_eq_true ((a.f1 == b.f1 && (a.f2 == b.f2 && a.f3 == b.f3))) with c6 | c6
           · have h:=h.1 c6
             rcases Bool.eq_false_or_eq_true ((a.t1 == b.t1 && (a.t2 == b.t2 && a.t3 == b.t3))) with c7 | c7
             · have h:=h.1 c7
               let l4:List Itm:=l3++[kt c6,kt c7,kv 57 (show Am.Sub (Am.bool (ByteArray.toList a.ky == ByteArray.toList b.ky)) (Am.bool (decide (a.ky=b.ky))) from (Sub.of_eq (by simp only [Go.Cdc.str_eq])))]
               by_cases c8:(a.ky=b.ky)
               · have h:=h.1 c8
                 let l5:List Itm:=l4++[kt (qT c8),kv 64 (show Am.Sub (Am.bool (ByteArray.toList a.vl == ByteArray.toList b.vl)) (Am.bool (decide (a.vl=b.vl))) from (Sub.of_eq (by simp only [Go.Cdc.str_eq])))]
                 by_cases c9:(a.vl=b.vl)
                 · have h:=h.1 c9
                   by_cases c10:(a.n=b.n)
                   · have h:=h.1 c10
                     exact callC_out (Sub.bool_eq h) (l5++[kt (qT c9),kt (qEq.2 c10)])
                   · have h:=h.2 c10
                     exact callC_out (Sub.bool_eq h) (l5++[kt (qT c9),kf (qN.2 c10)])
                 · have h:=h.2 c9
                   exact callC_out (Sub.bool_eq h) (l5++[kf (qF c9),kY])
               · have h:=h.2 c8
                 exact callC_out (Sub.bool_eq h) (l4++[kf (qF c8),kY,kY])
             · have h:=h.2 c7
               exact callC_out (Sub.bool_eq h) (l3++[kt c6,kf c7,kY,kY,kY])
           · have h:=h.2 c6
             exact callC_out (Sub.bool_eq h) (l3++[kf c6,kY,kY,kY,kY])
         · have h:=h.2 c5
           exact callC_out (Sub.bool_eq h) (l2++[kt c4,kf (qN.2 c5),kY,kY,kY,kY,kY])
       · have h:=h.2 c4
         exact callC_out (Sub.bool_eq h) (l2++[kf c4,kY,kY,kY,kY,kY,kY])
     · have h:=h.2 c3
       exact callC_out (Sub.bool_eq h) (l1++[kf (qF c3),kY,kY,kY,kY,kY,kY,kY])
   · have h:=h.2 c2
     exact callC_out (Sub.bool_eq h) [kt c1,kf (qN.2 c2),kY,kY,kY,kY,kY,kY,kY,kY]
 · have h:=h.2 c1
   exact callC_out (Sub.bool_eq h) [kf c1,kY,kY,kY,kY,kY,kY,kY,kY,kY]
theorem rsame_w (a b:OP) (ha:a.cx.length≤1000000000) (v:Bool) (h:((((a.dv == b.dv && a.sq == b.sq)=true)→(((a.tm=b.tm)→(((a.cx=b.cx)→((((a.pk == b.pk && a.pn == b.pn)=true)→(((a.kd=b.kd)→((((a.f1 == b.f1 && (a.f2 == b.f2 && a.f3 == b.f3))=true)→((((a.t1 == b.t1 && (a.t2 == b.t2 && a.t3 == b.t3))=true)→(((a.ky=b.ky)→(((a.vl=b.vl)→(((a.n=b.n)→(a.on == b.on)=(v))∧((¬a.n=b.n)→(false)=(v))))∧((¬a.vl=b.vl)→(false)=(v))))∧((¬a.ky=b.ky)→(false)=(v))))∧(((a.t1 == b.t1 && (a.t2 == b.t2 && a.t3 == b.t3))=false)→(false)=(v))))∧(((a.f1 == b.f1 && (a.f2 == b.f2 && a.f3 == b.f3))=false)→(false)=(v))))∧((¬a.kd=b.kd)→(false)=(v))))∧(((a.pk == b.pk && a.pn == b.pn)=false)→(false)=(v))))∧((¬a.cx=b.cx)→(false)=(v))))∧((¬a.tm=b.tm)→(false)=(v))))∧(((a.dv == b.dv && a.sq == b.sq)=false)→(false)=(v)))):Cq 34 [op a,op b] (Am.bool v):=by
 rcases Bool.eq_false_or_eq_true ((a.dv == b.dv && a.sq == b.sq)) with c1 | c1
 · have h:=h.1 c1
   by_cases c2:(a.tm=b.tm)
   · have h:=h.1 c2
     have hz0:=(@Go.Vec.same_c a.cx b.cx (by omega))
     let l1:List Itm:=[kt c1,kt (qEq.2 c2),kc [] hz0]
     by_cases c3:(a.cx=b.cx)
     · have h:=h.1 c3
       let l2:List Itm:=l1++[kt (qT c3)]
       rcases Bool.eq_false_or_eq_true ((a.pk == b.pk && a.pn == b.pn)) with c4 | c4
       · have h:=h.1 c4
         by_cases c5:(a.kd=b.kd)
         · have h:=h.1 c5
           let l3:List Itm:=l2++[kt c4,kt (qEq.2 c5)]
           rcases Bool.eq_false_or_eq_true ((a.f1 == b.f1 && (a.f2 == b.f2 && a.f3 == b.f3))) with c6 | c6
           · have h:=h.1 c6
             rcases Bool.eq_false_or_eq_true ((a.t1 == b.t1 && (a.t2 == b.t2 && a.t3 == b.t3))) with c7 | c7
             · have h:=h.1 c7
               let l4:List Itm:=l3++[kt c6,kt c7,kv 57 (show Am.Sub (Am.bool (ByteArray.toList a.ky == ByteArray.toList b.ky)) (Am.bool (decide (a.ky=b.ky))) from (Sub.of_eq (by simp only [Go.Cdc.str_eq])))]
               by_cases c8:(a.ky=b.ky)
               · have h:=h.1 c8
                 let l5:List Itm:=l4++[kt (qT c8),kv 64 (show Am.Sub (Am.bool (ByteArray.toList a.vl == ByteArray.toList b.vl)) (Am.bool (decide (a.vl=b.vl))) from (Sub.of_eq (by simp only [Go.Cdc.str_eq])))]
                 by_cases c9:(a.vl=b.vl)
                 · have h:=h.1 c9
                   by_cases c10:(a.n=b.n)
                   · have h:=h.1 c10
                     exact callC_out (Sub.bool_eq h) (l5++[kt (qT c9),kt (qEq.2 c10)])
                   · have h:=h.2 c10
                     exact callC_out (Sub.bool_eq h) (l5++[kt (qT c9),kf (qN.2 c10)])
                 · have h:=h.2 c9
                   exact callC_out (Sub.bool_eq h) (l5++[kf (qF c9),kY])
               · have h:=h.2 c8
                 exact callC_out (Sub.bool_eq h) (l4++[kf (qF c8),kY,kY])
             · have h:=h.2 c7
               exact callC_out (Sub.bool_eq h) (l3++[kt c6,kf c7,kY,kY,kY])
           · have h:=h.2 c6
             exact callC_out (Sub.bool_eq h) (l3++[kf c6,kY,kY,kY,kY])
         · have h:=h.2 c5
           exact callC_out (Sub.bool_eq h) (l2++[kt c4,kf (qN.2 c5),kY,kY,kY,kY,kY])
       · have h:=h.2 c4
         exact callC_out (Sub.bool_eq h) (l2++[kf c4,kY,kY,kY,kY,kY,kY])
     · have h:=h.2 c3
       exact callC_out (Sub.bool_eq h) (l1++[kf (qF c3),kY,kY,kY,kY,kY,kY,kY])
   · have h:=h.2 c2
     exact callC_out (Sub.bool_eq h) [kt c1,kf (qN.2 c2),kY,kY,kY,kY,kY,kY,kY,kY]
 · have h:=h.2 c1
   exact callC_out (Sub.bool_eq h) [kf c1,kY,kY,kY,kY,kY,kY,kY,kY,kY]
theorem same_c (a b:OP) (ha:a.cx.length≤1000000000):Cq 59 [op a,op b] (bool (decide (a=b))):=same_w a b ha _ (by
 rw [← sameB_eq]; unfold sameB
 repeat' (first | refine And.intro ?_ ?_ | intro _)
 all_goals simp_all [ba_beq,bool_beq])
theorem rsame_c (a b:OP) (ha:a.cx.length≤1000000000):Cq 34 [op a,op b] (bool (decide (a=b))):=rsame_w a b ha _ (by
 rw [← sameB_eq]; unfold sameB
 repeat' (first | refine And.intro ?_ ?_ | intro _)
 all_goals simp_all [ba_beq,bool_beq])
def zop:OP:=⟨0,0,0,[],0,.empty,0,0,0,0,0,0,0,.empty,.empty,0,false⟩
def restO (o:OP):Int→OP
 | 1=>{ zop with t1:=o.t1,t2:=o.t2,t3:=o.t3,ky:=o.ky,n:=o.n,on:=o.on }
 | 2=>{ zop with t1:=o.t1,t2:=o.t2,t3:=o.t3,ky:=o.ky,vl:=o.vl,n:=o.n,on:=o.on }
 | 3=>{ zop with f1:=o.f1,f2:=o.f2,f3:=o.f3,t1:=o.t1,t2:=o.t2,t3:=o.t3,n:=o.n,on:=o.on }
 | 4=>{ zop with f1:=o.f1,f2:=o.f2,f3:=o.f3,t1:=o.t1,t2:=o.t2,t3:=o.t3,vl:=o.vl,n:=o.n,on:=o.on }
 | 5=>{ zop with f1:=o.f1,f2:=o.f2,f3:=o.f3,t1:=o.t1,t2:=o.t2,t3:=o.t3,ky:=o.ky,vl:=o.vl,on:=o.on }
 | 6=>{ zop with t1:=o.t1,t2:=o.t2,t3:=o.t3,ky:=o.ky,n:=o.n,on:=o.on }
 | 7=>{ zop with t1:=o.t1,t2:=o.t2,t3:=o.t3,ky:=o.ky,vl:=o.vl,on:=o.on }
 | _=>{ zop with ky:=o.ky,vl:=o.vl }
theorem rest1_w (o:OP) (h:True):Cq 60 [opk o 1] (op (restO o 1)):=by
 have _:=h
 exact CallC.out ((show Cq 60 [opk o 1] (.agg [int 0,int 0,int 0,nilS,int 0,str (ByteArray.mk #[]),int 0,int 0,int 0,int 0,int o.t1,int o.t2,int o.t3,str o.ky,str (ByteArray.mk #[]),int o.n,Am.bool o.on]) from callC_of [kY,kY,kY,kO,kO])) (Sub.aggs ⟨Sub.refl _,Sub.refl _,Sub.refl _,(Sub.nil _),Sub.refl _,Sub.refl _,Sub.refl _,Sub.refl _,Sub.refl _,Sub.refl _,Sub.refl _,Sub.refl _,Sub.refl _,Sub.refl _,Sub.refl _,Sub.refl _,Sub.refl _,trivial⟩)
theorem rest2_w (o:OP) (h:True):Cq 60 [opk o 2] (op (restO o 2)):=by
 have _:=h
 exact CallC.out ((show Cq 60 [opk o 2] (.agg [int 0,int 0,int 0,nilS,int 0,str (ByteArray.mk #[]),int 0,int 0,int 0,int 0,int o.t1,int o.t2,int o.t3,str o.ky,str o.vl,int o.n,Am.bool o.on]) from callC_of [kY,kY,kY,kY,kY,kO])) (Sub.aggs ⟨Sub.refl _,Sub.refl _,Sub.refl _,(Sub.nil _),Sub.refl _,Sub.refl _,Sub.refl _,Sub.refl _,Sub.refl _,Sub.refl _,Sub.refl _,Sub.refl _,Sub.refl _,Sub.refl _,Sub.refl _,Sub.refl _,Sub.refl _,trivial⟩)
theorem rest3_w (o:OP) (h:True):Cq 60 [opk o 3] (op (restO o 3)):=by
 have _:=h
 exact CallC.out ((show Cq 60 [opk o 3] (.agg [int 0,int 0,int 0,nilS,int 0,str (ByteArray.mk #[]),int 0,int o.f1,int o.f2,int o.f3,int o.t1,int o.t2,int o.t3,str (ByteArray.mk #[]),str (ByteArray.mk #[]),int o.n,Am.bool o.on]) from callC_of [kY,kY,kY,kY,kY,kY,kO])) (Sub.aggs ⟨Sub.refl _,Sub.refl _,Sub.refl _,(Sub.nil _),Sub.refl _,Sub.refl _,Sub.refl _,Sub.refl _,Sub.refl _,Sub.refl _,Sub.refl _,Sub.refl _,Sub.refl _,Sub.refl _,Sub.refl _,Sub.refl _,Sub.refl _,trivial⟩)
theorem rest4_w (o:OP) (h:True):Cq 60 [opk o 4] (op (restO o 4)):=by
 have _:=h
 exact CallC.out ((show Cq 60 [opk o 4] (.agg [int 0,int 0,int 0,nilS,int 0,str (ByteArray.mk #[]),int 0,int o.f1,int o.f2,int o.f3,int o.t1,int o.t2,int o.t3,str (ByteArray.mk #[]),str o.vl,int o.n,Am.bool o.on]) from callC_of [kY,kY,kY,kY,kY,kY,kY,kO])) (Sub.aggs ⟨Sub.refl _,Sub.refl _,Sub.refl _,(Sub.nil _),Sub.refl _,Sub.refl _,Sub.refl _,Sub.refl _,Sub.refl _,Sub.refl _,Sub.refl _,Sub.refl _,Sub.refl _,Sub.refl _,Sub.refl _,Sub.refl _,Sub.refl _,trivial⟩)
theorem rest5_w (o:OP) (h:True):Cq 60 [opk o 5] (op (restO o 5)):=by
 have _:=h
 exact CallC.out ((show Cq 60 [opk o 5] (.agg [int 0,int 0,int 0,nilS,int 0,str (ByteArray.mk #[]),int 0,int o.f1,int o.f2,int o.f3,int o.t1,int o.t2,int o.t3,str o.ky,str o.vl,int 0,Am.bool o.on]) from callC_of [kY,kY,kO])) (Sub.aggs ⟨Sub.refl _,Sub.refl _,Sub.refl _,(Sub.nil _),Sub.refl _,Sub.refl _,Sub.refl _,Sub.refl _,Sub.refl _,Sub.refl _,Sub.refl _,Sub.refl _,Sub.refl _,Sub.refl _,Sub.refl _,Sub.refl _,Sub.refl _,trivial⟩)
theorem rest6_w (o:OP) (h:True):Cq 60 [opk o 6] (op (restO o 6)):=by
 have _:=h
 exact CallC.out ((show Cq 60 [opk o 6] (.agg [int 0,int 0,int 0,nilS,int 0,str (ByteArray.mk #[]),int 0,int 0,int 0,int 0,int o.t1,int o.t2,int o.t3,str o.ky,str (ByteArray.mk #[]),int o.n,Am.bool o.on]) from callC_of [kY,kY,kY,kY,kO])) (Sub.aggs ⟨Sub.refl _,Sub.refl _,Sub.refl _,(Sub.nil _),Sub.refl _,Sub.refl _,Sub.refl _,Sub.refl _,Sub.refl _,Sub.refl _,Sub.refl _,Sub.refl _,Sub.refl _,Sub.refl _,Sub.refl _,Sub.refl _,Sub.refl _,trivial⟩)
theorem rest7_w (o:OP) (h:True):Cq 60 [opk o 7] (op (restO o 7)):=by
 have _:=h
 exact CallC.out ((show Cq 60 [opk o 7] (.agg [int 0,int 0,int 0,nilS,int 0,str (ByteArray.mk #[]),int 0,int 0,int 0,int 0,int o.t1,int o.t2,int o.t3,str o.ky,str o.vl,int 0,Am.bool o.on]) from callC_of [kY,kO])) (Sub.aggs ⟨Sub.refl _,Sub.refl _,Sub.refl _,(Sub.nil _),Sub.refl _,Sub.refl _,Sub.refl _,Sub.refl _,Sub.refl _,Sub.refl _,Sub.refl _,Sub.refl _,Sub.refl _,Sub.refl _,Sub.refl _,Sub.refl _,Sub.refl _,trivial⟩)
theorem rest8_w (o:OP) (h:True):Cq 60 [opk o 8] (op (restO o 8)):=by
 have _:=h
 exact CallC.out ((show Cq 60 [opk o 8] (.agg [int 0,int 0,int 0,nilS,int 0,str (ByteArray.mk #[]),int 0,int 0,int 0,int 0,int 0,int 0,int 0,str o.ky,str o.vl,int 0,Am.bool false]) from callC_of [kO])) (Sub.aggs ⟨Sub.refl _,Sub.refl _,Sub.refl _,(Sub.nil _),Sub.refl _,Sub.refl _,Sub.refl _,Sub.refl _,Sub.refl _,Sub.refl _,Sub.refl _,Sub.refl _,Sub.refl _,Sub.refl _,Sub.refl _,Sub.refl _,Sub.refl _,trivial⟩)
end Go.Ops


namespace Go.Cdc
open Go Go.Am Go.Proofs Go.Seat
mutual
def wf:CV→Bool
 | .mk k n s l=>if k=1 then decide (s = .empty) && decide (l.length=0) else if k=2 then decide (n=0) && decide (l.length=0) else if k=3 then decide (n=0) && decide (s = .empty) && wfL l else false
def wfL:List CV→Bool
 | []=>true
 | v::l=>wf v && wfL l
end
mutual
def dp:CV→Nat
 | .mk k _ _ l=>if k=3 then dpL l+1 else 0
def dpL:List CV→Nat
 | []=>0
 | v::l=>max (dp v) (dpL l)
end
theorem CV.ind {p:CV→Prop} (h:∀ k n s l,(∀ x∈l,p x)→p (.mk k n s l)) (v:CV):p v :=
 CV.rec (motive_1:=p) (motive_2:=fun l=>∀ x∈l,p x) (fun k n s l ih=>h k n s l ih) (fun _ hx=>by cases hx) (fun a l ha hl x hx=>by
  rcases List.mem_cons.1 hx with rfl | hx
  · exact ha
  · exact hl x hx) v
inductive Okv:CV→Prop
 | mk (k n:Int) (s:ByteArray) (l:List CV) (hn : -9223372036854775808≤n∧n<9223372036854775808) (hs:s.size≤9223372036854775807) (hl:l.length≤9223372036854775807) (h:∀ x∈l,Okv x):Okv (.mk k n s l)
theorem dp_mem {l:List CV} {x:CV} (h:x∈l):dp x≤dpL l:=by
 induction l with
 | nil=>cases h
 | cons a l ih =>
  simp only [dpL]
  rcases List.mem_cons.1 h with rfl | h
  · omega
  · have:=ih h; omega
theorem empty_eq:({ data:=#[] }:ByteArray)=ByteArray.empty:=rfl
def FormedC (v:CV):Prop:=Cq 200 [val v] (.tup [int (if wf v=true then dp v else 0),bool (wf v)])
theorem formed1_w (n:Int) (s:ByteArray) (l:List CV) (a:Int) (b:Bool) (h:(((s=ByteArray.mk #[])→(((n=0)→((((l.length:Int)=0)→(0=a)∧((true)=(b)))∧((¬(l.length:Int)=0)→(0=a)∧((false)=(b)))))∧((¬n=0)→((((l.length:Int)=0)→(0=a)∧((true)=(b)))∧((¬(l.length:Int)=0)→(0=a)∧((false)=(b)))))))∧((¬s=ByteArray.mk #[])→(((n=0)→(0=a)∧((false)=(b)))∧((¬n=0)→(0=a)∧((false)=(b))))))):Cq 200 [vmk 1 n s l] (.tup [int a,Am.bool b]):=by
 have hz0:Am.Sub (Am.bool (ByteArray.toList s == ByteArray.toList (ByteArray.mk #[]))) (Am.bool (decide (s=ByteArray.mk #[]))):=(Sub.of_eq (by simp only [str_eq]))
 by_cases c1:(s=ByteArray.mk #[])
 · have h:=h.1 c1
   have hz1:=lenS (encL_length l)
   let l1:List Itm:=[kv 11 hz0,kt (qT c1),kv 15 hz1]
   by_cases c2:(n=0)
   · have h:=h.1 c2
     have hz2:(0:Int)≤(1:Int)∧(1:Int)<(4:Int):=(by omega)
     let l2:List Itm:=l1++[kt (qEq.2 c2),kv 24 hz1,kt (qEq.2 c2),kv 33 hz0,kY,kY,kp hz2]
     by_cases c3:((l.length:Int)=0)
     · have h:=h.1 c3
       obtain ⟨e1,e2⟩:=h
       exact CallC.out ((show Cq 200 [vmk 1 n s l] (.tup [int 0,Am.bool true]) from callC_of (l2++[kf (show (!(l.length:Int) == 0)=false from (congrArg Bool.not (qEq.2 c3))),kO]))) (Sub.tups ⟨(Sub.int_eq e1),(Sub.bool_eq e2),trivial⟩)
     · have h:=h.2 c3
       obtain ⟨e1,e2⟩:=h
       exact CallC.out ((show Cq 200 [vmk 1 n s l] (.tup [int 0,Am.bool false]) from callC_of (l2++[kt (show (!(l.length:Int) == 0)=true from (congrArg Bool.not (qN.2 c3)))]))) (Sub.tups ⟨(Sub.int_eq e1),(Sub.bool_eq e2),trivial⟩)
   · have h:=h.2 c2
     have hz2:(0:Int)≤(1:Int)∧(1:Int)<(4:Int):=(by omega)
     let l3:List Itm:=l1++[kf (qN.2 c2),kf (qN.2 c2),kY,kY,kp hz2]
     by_cases c4:((l.length:Int)=0)
     · have h:=h.1 c4
       obtain ⟨e1,e2⟩:=h
       exact CallC.out ((show Cq 200 [vmk 1 n s l] (.tup [int 0,Am.bool true]) from callC_of (l3++[kf (show (!(l.length:Int) == 0)=false from (congrArg Bool.not (qEq.2 c4))),kO]))) (Sub.tups ⟨(Sub.int_eq e1),(Sub.bool_eq e2),trivial⟩)
     · have h:=h.2 c4
       obtain ⟨e1,e2⟩:=h
       exact CallC.out ((show Cq 200 [vmk 1 n s l] (.tup [int 0,Am.bool false]) from callC_of (l3++[kt (show (!(l.length:Int) == 0)=true from (congrArg Bool.not (qN.2 c4)))]))) (Sub.tups ⟨(Sub.int_eq e1),(Sub.bool_eq e2),trivial⟩)
 · have h:=h.2 c1
   by_cases c5:(n=0)
   · have h:=h.1 c5
     obtain ⟨e1,e2⟩:=h
     exact CallC.out ((show Cq 200 [vmk 1 n s l] (.tup [int 0,Am.bool false]) from callC_of [kv 11 hz0,kf (qF c1),kt (qEq.2 c5),kN 24 (encL_length l),kt (qEq.2 c5),kv 33 hz0,kY,kY,kR (1:Int) (4:Int),kO])) (Sub.tups ⟨(Sub.int_eq e1),(Sub.bool_eq e2),trivial⟩)
   · have h:=h.2 c5
     obtain ⟨e1,e2⟩:=h
     exact CallC.out ((show Cq 200 [vmk 1 n s l] (.tup [int 0,Am.bool false]) from callC_of [kv 11 hz0,kf (qF c1),kf (qN.2 c5),kf (qN.2 c5),kY,kY,kR (1:Int) (4:Int),kO])) (Sub.tups ⟨(Sub.int_eq e1),(Sub.bool_eq e2),trivial⟩)
theorem formed2_w (n:Int) (s:ByteArray) (l:List CV) (a:Int) (b:Bool) (h:(((s=ByteArray.mk #[])→(((n=0)→((((l.length:Int)=0)→(0=a)∧((true)=(b)))∧((¬(l.length:Int)=0)→(0=a)∧((false)=(b)))))∧((¬n=0)→(0=a)∧((false)=(b)))))∧((¬s=ByteArray.mk #[])→(((n=0)→((((l.length:Int)=0)→(0=a)∧((true)=(b)))∧((¬(l.length:Int)=0)→(0=a)∧((false)=(b)))))∧((¬n=0)→(0=a)∧((false)=(b))))))):Cq 200 [vmk 2 n s l] (.tup [int a,Am.bool b]):=by
 have hz0:Am.Sub (Am.bool (ByteArray.toList s == ByteArray.toList (ByteArray.mk #[]))) (Am.bool (decide (s=ByteArray.mk #[]))):=(Sub.of_eq (by simp only [str_eq]))
 by_cases c1:(s=ByteArray.mk #[])
 · have h:=h.1 c1
   have hz1:=lenS (encL_length l)
   let l1:List Itm:=[kv 11 hz0,kt (qT c1),kv 15 hz1]
   by_cases c2:(n=0)
   · have h:=h.1 c2
     let l2:List Itm:=l1++[kt (qEq.2 c2),kv 24 hz1,kt (qEq.2 c2),kv 33 hz0,kY,kY,kR (2:Int) (4:Int)]
     by_cases c3:((l.length:Int)=0)
     · have h:=h.1 c3
       obtain ⟨e1,e2⟩:=h
       exact CallC.out ((show Cq 200 [vmk 2 n s l] (.tup [int 0,Am.bool true]) from callC_of (l2++[kf (show (!(l.length:Int) == 0)=false from (congrArg Bool.not (qEq.2 c3))),kO]))) (Sub.tups ⟨(Sub.int_eq e1),(Sub.bool_eq e2),trivial⟩)
     · have h:=h.2 c3
       obtain ⟨e1,e2⟩:=h
       exact CallC.out ((show Cq 200 [vmk 2 n s l] (.tup [int 0,Am.bool false]) from callC_of (l2++[kt (show (!(l.length:Int) == 0)=true from (congrArg Bool.not (qN.2 c3)))]))) (Sub.tups ⟨(Sub.int_eq e1),(Sub.bool_eq e2),trivial⟩)
   · have h:=h.2 c2
     obtain ⟨e1,e2⟩:=h
     exact CallC.out ((show Cq 200 [vmk 2 n s l] (.tup [int 0,Am.bool false]) from callC_of (l1++[kf (qN.2 c2),kf (qN.2 c2),kY,kY,kR (2:Int) (4:Int),kO]))) (Sub.tups ⟨(Sub.int_eq e1),(Sub.bool_eq e2),trivial⟩)
 · have h:=h.2 c1
   have hz1:=lenS (encL_length l)
   let l3:List Itm:=[kv 11 hz0,kf (qF c1)]
   by_cases c4:(n=0)
   · have h:=h.1 c4
     let l4:List Itm:=l3++[kt (qEq.2 c4),kv 24 hz1,kt (qEq.2 c4),kv 33 hz0,kY,kY,kR (2:Int) (4:Int)]
     by_cases c5:((l.length:Int)=0)
     · have h:=h.1 c5
       obtain ⟨e1,e2⟩:=h
       exact CallC.out ((show Cq 200 [vmk 2 n s l] (.tup [int 0,Am.bool true]) from callC_of (l4++[kf (show (!(l.length:Int) == 0)=false from (congrArg Bool.not (qEq.2 c5))),kO]))) (Sub.tups ⟨(Sub.int_eq e1),(Sub.bool_eq e2),trivial⟩)
     · have h:=h.2 c5
       obtain ⟨e1,e2⟩:=h
       exact CallC.out ((show Cq 200 [vmk 2 n s l] (.tup [int 0,Am.bool false]) from callC_of (l4++[kt (show (!(l.length:Int) == 0)=true from (congrArg Bool.not (qN.2 c5)))]))) (Sub.tups ⟨(Sub.int_eq e1),(Sub.bool_eq e2),trivial⟩)
   · have h:=h.2 c4
     obtain ⟨e1,e2⟩:=h
     exact CallC.out ((show Cq 200 [vmk 2 n s l] (.tup [int 0,Am.bool false]) from callC_of (l3++[kf (qN.2 c4),kf (qN.2 c4),kY,kY,kR (2:Int) (4:Int),kO]))) (Sub.tups ⟨(Sub.int_eq e1),(Sub.bool_eq e2),trivial⟩)
theorem formedx_w (k n:Int) (s:ByteArray) (l:List CV) (hk:k<1∨3<k) (h:(((s=ByteArray.mk #[])→(((n=0)→(((k<1)→True)∧((¬k<1)→True)))∧((¬n=0)→(((k<1)→True)∧((¬k<1)→True)))))∧((¬s=ByteArray.mk #[])→(((n=0)→(((k<1)→True)∧((¬k<1)→True)))∧((¬n=0)→(((k<1)→True)∧((¬k<1)→True))))))):Cq 200 [vmk k n s l] (.tup [int 0,Am.bool false]):=by
 have hz0:Am.Sub (Am.bool (ByteArray.toList s == ByteArray.toList (ByteArray.mk #[]))) (Am.bool (decide (s=ByteArray.mk #[]))):=(Sub.of_eq (by simp only [str_eq]))
 let l1:List Itm:=[kv 11 hz0]
 by_cases c1:(s=ByteArray.mk #[])
 · have h:=h.1 c1
   have hz1:=lenS (encL_length l)
   let l2:List Itm:=l1++[kt (qT c1),kv 15 hz1]
   by_cases c2:(n=0)
   · have h:=h.1 c2
     let l3:List Itm:=l2++[kt (qEq.2 c2),kv 24 hz1,kt (qEq.2 c2),kv 33 hz0]
     by_cases c3:(k<1)
     · have h:=h.1 c3
       have _:=h
       exact callC_of (l3++[kt (qT c3),kO,kO])
     · have h:=h.2 c3
       have _:=h
       exact callC_of (l3++[kf (qF c3),ki (k > 3),kO])
   · have h:=h.2 c2
     by_cases c5:(k<1)
     · have h:=h.1 c5
       have _:=h
       exact callC_of (l2++[kf (qN.2 c2),kf (qN.2 c2),kt (qT c5),kO,kO])
     · have h:=h.2 c5
       have _:=h
       exact callC_of (l2++[kf (qN.2 c2),kf (qN.2 c2),kf (qF c5),ki (k > 3),kO])
 · have h:=h.2 c1
   have hz1:=lenS (encL_length l)
   let l4:List Itm:=l1++[kf (qF c1)]
   by_cases c7:(n=0)
   · have h:=h.1 c7
     let l5:List Itm:=l4++[kt (qEq.2 c7),kv 24 hz1,kt (qEq.2 c7),kv 33 hz0]
     by_cases c8:(k<1)
     · have h:=h.1 c8
       have _:=h
       exact callC_of (l5++[kt (qT c8),kO,kO])
     · have h:=h.2 c8
       have _:=h
       exact callC_of (l5++[kf (qF c8),ki (k > 3),kO])
   · have h:=h.2 c7
     by_cases c10:(k<1)
     · have h:=h.1 c10
       have _:=h
       exact callC_of (l4++[kf (qN.2 c7),kf (qN.2 c7),kt (qT c10),kO,kO])
     · have h:=h.2 c10
       have _:=h
       exact callC_of (l4++[kf (qN.2 c7),kf (qN.2 c7),kf (qF c10),ki (k > 3),kO])
def frmSt (l:List CV) (d:Int) (i:Nat):St:={ env:=slots 74 [(2,int d),(3,bool false),(55,.sl 4 false (encL l)),(56,int l.length),(57,int i)],H:=[] }
theorem frm_end (l:List CV) (d:Int) (i:Nat) (hi:l.length≤i) (h:True):Rq 0 200 0 (frmSt l d i) (AEx.exit 0) (sM 74 [(2,int d),(3,Am.bool false)] []):=by
 have _:=h
 exact loop_exit [kj ((i:Int)<l.length)] (others 74 [2,3]) 0
theorem frm_step (l:List CV) (d i:Nat) (x:CV) (hi:i<l.length) (hl:l.length≤9223372036854775807) (hx:l[i]? = some x) (hd:dp x≤1000000) (hv:Cq 200 [val x] (.tup [int (if wf x=true then dp x else 0),bool (wf x)])) (ex:AEx) (a:Int) (b:Bool) (h:((((wf x)=true)→Rq 0 200 0 (sM 74 [(2,int (if (if wf x=true then (↑(dp x):Int) else 0) > (d:Int) then if wf x=true then (↑(dp x):Int) else 0 else (d:Int))),(3,Am.bool false),(55,.sl 4 false (encL l)),(56,int ↑l.length),(57,int ↑(i+1))] []) ex (sM 74 [(2,int a),(3,Am.bool b)] []))∧(((wf x)=false)→(AEx.ret=ex)∧(0=a)∧((false)=(b))))):Rq 0 200 0 (frmSt l (d:Int) i) ex (sM 74 [(2,int a),(3,Am.bool b)] []):=by
 have hz0:decide ((i:Int)<(l.length:Int))=true:=(qT (by omega))
 have hz1:(0:Int)≤(i:Int)∧(encL l)[Int.toNat (i:Int)]? = some (enc x):=(by rw [encL_map]; exact el_nat hx)
 rcases Bool.eq_false_or_eq_true ((wf x)) with c2 | c2
 · have h:=h.1 c2
   exact loop_next [kt hz0,ko (Orc.elem (enc x)),kp hz1,kc [] hv,kf (show (!wf x)=false from (congrArg Bool.not (c2))),kW 71 (i+1) ↑(i+1)] (others 74 [2,3,55,56,57]) 0 h
 · have h:=h.2 c2
   obtain ⟨eX,e1,e2⟩:=h
   exact RunL.to ((show Rq 0 200 0 (frmSt l (d:Int) i) AEx.ret (sM 74 [(2,int 0),(3,Am.bool false)] []) from loop_exit [kt hz0,ko (Orc.elem (enc x)),kp hz1,kc [] hv,kt (show (!wf x)=true from (congrArg Bool.not (c2)))] (others 74 [2,3]) 0)) eX (SubS.slots ⟨rfl,(Sub.int_eq e1),rfl,(Sub.bool_eq e2),trivial⟩)
theorem formed3_w (n:Int) (s:ByteArray) (l:List CV) (a:Int) (b:Bool) (hl:l.length≤9223372036854775807) (hd:dpL l≤1000000) (hL:Rq 0 200 0 (frmSt l 0 0) (if wfL l=true then .exit 0 else .ret) { env:=slots 74 [(2,int (if wfL l=true then dpL l else 0)),(3,bool false)],H:=[] }) (h:(((s=ByteArray.mk #[])→(((n=0)→(((wfL l=true)→(((↑(dpL l+1):Int):Int)=(a))∧((true)=(b)))∧((¬wfL l=true)→(0=a)∧((false)=(b)))))∧((¬n=0)→(0=a)∧((false)=(b)))))∧((¬s=ByteArray.mk #[])→(((n=0)→(0=a)∧((false)=(b)))∧((¬n=0)→(0=a)∧((false)=(b))))))):Cq 200 [vmk 3 n s l] (.tup [int a,Am.bool b]):=by
 have hz0:Am.Sub (Am.bool (ByteArray.toList s == ByteArray.toList (ByteArray.mk #[]))) (Am.bool (decide (s=ByteArray.mk #[]))):=(Sub.of_eq (by simp only [str_eq]))
 by_cases c1:(s=ByteArray.mk #[])
 · have h:=h.1 c1
   have hz1:=lenS (encL_length l)
   let l1:List Itm:=[kv 11 hz0,kt (qT c1),kv 15 hz1]
   by_cases c2:(n=0)
   · have h:=h.1 c2
     let l2:List Itm:=l1++[kt (qEq.2 c2),kv 24 hz1,kt (qEq.2 c2),kv 33 hz0,kY,kY,kR (3:Int) (4:Int),kf (show (!decide (s=ByteArray.mk #[]))=false from (congrArg Bool.not (qT c1))),kY,kv 56 hz1]
     by_cases c3:(wfL l=true)
     · have h:=h.1 c3
       obtain ⟨e1,e2⟩:=h
       exact CallC.out ((show Cq 200 [vmk 3 n s l] (.tup [int ↑(dpL l+1),Am.bool true]) from callC_of (l2++[kl (rG [(0,2),(4,51),(58,16)]) 0 (show Rq 0 200 0 (sM 74 [(2,int 0),(3,Am.bool false),(55,.sl 4 false (encL l)),(56,int ↑l.length),(57,int 0)] []) (AEx.exit 0) (sM 74 [(2,int ↑(dpL l)),(3,Am.bool false)] []) from (by have h0:=hL; simp only [if_pos c3] at h0; exact h0)),kW 73 ((↑(dpL l):Int)+1) (↑(dpL l+1):Int)]))) (Sub.tups ⟨(Sub.int_eq e1),(Sub.bool_eq e2),trivial⟩)
     · have h:=h.2 c3
       obtain ⟨e1,e2⟩:=h
       exact CallC.out ((show Cq 200 [vmk 3 n s l] (.tup [int 0,Am.bool false]) from callC_of (l2++[kl (rG [(0,2),(4,51),(58,16)]) 0 (show Rq 0 200 0 (sM 74 [(2,int 0),(3,Am.bool false),(55,.sl 4 false (encL l)),(56,int ↑l.length),(57,int 0)] []) AEx.ret (sM 74 [(2,int 0),(3,Am.bool false)] []) from (by have h0:=hL; simp only [if_neg c3] at h0; exact h0))]))) (Sub.tups ⟨(Sub.int_eq e1),(Sub.bool_eq e2),trivial⟩)
   · have h:=h.2 c2
     obtain ⟨e1,e2⟩:=h
     exact CallC.out ((show Cq 200 [vmk 3 n s l] (.tup [int 0,Am.bool false]) from callC_of (l1++[kf (qN.2 c2),kf (qN.2 c2),kY,kY,kR (3:Int) (4:Int),kO]))) (Sub.tups ⟨(Sub.int_eq e1),(Sub.bool_eq e2),trivial⟩)
 · have h:=h.2 c1
   by_cases c4:(n=0)
   · have h:=h.1 c4
     obtain ⟨e1,e2⟩:=h
     exact CallC.out ((show Cq 200 [vmk 3 n s l] (.tup [int 0,Am.bool false]) from callC_of [kv 11 hz0,kf (qF c1),kt (qEq.2 c4),kN 24 (encL_length l),kt (qEq.2 c4),kv 33 hz0,kY,kY,kR (3:Int) (4:Int),kt (show (!decide (s=ByteArray.mk #[]))=true from (congrArg Bool.not (qF c1)))])) (Sub.tups ⟨(Sub.int_eq e1),(Sub.bool_eq e2),trivial⟩)
   · have h:=h.2 c4
     obtain ⟨e1,e2⟩:=h
     exact CallC.out ((show Cq 200 [vmk 3 n s l] (.tup [int 0,Am.bool false]) from callC_of [kv 11 hz0,kf (qF c1),kf (qN.2 c4),kf (qN.2 c4),kY,kY,kR (3:Int) (4:Int),kO])) (Sub.tups ⟨(Sub.int_eq e1),(Sub.bool_eq e2),trivial⟩)
theorem frm_loop (l:List CV) (hl:l.length≤9223372036854775807) (hd:dpL l≤1000000) (hv:∀ x∈l,FormedC x):∀ (m i d:Nat),l.length - i=m→i≤l.length→d≤1000000 →
 Rq 0 200 0 (frmSt l d i) (if wfL (l.drop i)=true then .exit 0 else .ret) { env:=slots 74 [(2,int (if wfL (l.drop i)=true then ((max d (dpL (l.drop i)):Nat):Int) else 0)),(3,bool false)],H:=[] }:=by
 intro m
 induction m with
 | zero =>
  intro i d hm hi hd'
  rw [List.drop_of_length_le (by omega)]
  simp only [wfL,dpL,if_true,Nat.max_zero]
  exact frm_end l d i (by omega) trivial
 | succ m ih =>
  intro i d hm hi hd'
  have hlt:i<l.length:=by omega
  have hx:l[i]? = some l[i]:=List.getElem?_eq_getElem hlt
  have hmem:l[i]∈l:=List.getElem_mem hlt
  have hdx:=dp_mem hmem
  have e:=List.drop_eq_getElem_cons hlt
  refine frm_step l d i l[i] hlt hl hx (by omega) (hv _ hmem) _ _ _ ⟨fun h=>?_,fun h=>?_⟩
  · have:=ih (i+1) (max d (dp l[i])) (by omega) (by omega) (by omega)
    rw [e]
    simp only [wfL,dpL,h,Bool.true_and,if_true]
    have e2:(if ((dp l[i]:Nat):Int) > (d:Int) then ((dp l[i]:Nat):Int) else (d:Int))=((max d (dp l[i]):Nat):Int):=by
     split<;>omega
    rw [e2]
    unfold frmSt at this
    rw [show max d (max (dp l[i]) (dpL (l.drop (i+1))))=max (max d (dp l[i])) (dpL (l.drop (i+1))) by omega]
    exact this
  · rw [e]
    simp only [wfL,h,Bool.false_and,Bool.false_eq_true,if_false]
    exact ⟨trivial,trivial,trivial⟩
theorem formed_c (v:CV):Okv v→dp v≤1000001→FormedC v:=by
 refine CV.ind (p:=fun v=>Okv v→dp v≤1000001→FormedC v) (fun k n s l ih hok hd=>?_) v
 cases hok with
 | mk _ _ _ _ hn hs hl hall =>
  unfold FormedC
  rw [val_mk]
  by_cases h1:k=1
  · subst h1
    have e:((if wf (.mk 1 n s l)=true then dp (.mk 1 n s l) else 0:Nat):Int)=0:=by simp [dp]
    have e':(if wf (.mk 1 n s l)=true then ((dp (.mk 1 n s l):Nat):Int) else 0)=0:=by simp [dp]
    rw [e']
    have ew:wf (.mk 1 n s l)=(decide (s = .empty) && decide (l.length=0)):=by simp [wf]
    rw [ew]
    have T:s = .empty→(l.length:Int)=0→(0:Int)=0∧true=(decide (s = .empty) && decide (l.length=0)):=fun a b=>⟨rfl,by rw [decide_eq_true a,decide_eq_true (by omega)]; rfl⟩
    have F1:s = .empty→¬ (l.length:Int)=0→(0:Int)=0∧false=(decide (s = .empty) && decide (l.length=0)):=fun a b=>⟨rfl,by rw [decide_eq_true a,decide_eq_false (by omega)]; rfl⟩
    have F2:¬ s = .empty→(0:Int)=0∧false=(decide (s = .empty) && decide (l.length=0)):=fun a=>⟨rfl,by rw [decide_eq_false a]; rfl⟩
    exact formed1_w n s l _ _ ⟨fun a=>⟨fun _=>⟨T a,F1 a⟩,fun _=>⟨T a,F1 a⟩⟩,fun a=>⟨fun _=>F2 a,fun _=>F2 a⟩⟩
  · by_cases h2:k=2
    · subst h2
      have e':(if wf (.mk 2 n s l)=true then ((dp (.mk 2 n s l):Nat):Int) else 0)=0:=by simp [dp]
      rw [e']
      have ew:wf (.mk 2 n s l)=(decide (n=0) && decide (l.length=0)):=by simp [wf]
      rw [ew]
      have T:n=0→(l.length:Int)=0→(0:Int)=0∧true=(decide (n=0) && decide (l.length=0)):=fun a b=>⟨rfl,by rw [decide_eq_true a,decide_eq_true (by omega)]; rfl⟩
      have F1:n=0→¬ (l.length:Int)=0→(0:Int)=0∧false=(decide (n=0) && decide (l.length=0)):=fun a b=>⟨rfl,by rw [decide_eq_true a,decide_eq_false (by omega)]; rfl⟩
      have F2:¬ n=0→(0:Int)=0∧false=(decide (n=0) && decide (l.length=0)):=fun a=>⟨rfl,by rw [decide_eq_false a]; rfl⟩
      exact formed2_w n s l _ _ ⟨fun _=>⟨fun a=>⟨T a,F1 a⟩,F2⟩,fun _=>⟨fun a=>⟨T a,F1 a⟩,F2⟩⟩
    · by_cases h3:k=3
      · subst h3
        have hd3:dpL l≤1000000:=by simp only [dp,if_true] at hd; omega
        have hL:=frm_loop l hl hd3 (fun x hx=>ih x hx (hall x hx) (by have:=dp_mem hx; omega)) l.length 0 0 (by omega) (by omega) (by omega)
        rw [List.drop_zero,Nat.zero_max] at hL
        have ew:wf (.mk 3 n s l)=(decide (n=0) && decide (s = .empty) && wfL l):=by simp [wf]
        have ed:dp (.mk 3 n s l)=dpL l+1:=by simp [dp]
        rw [ew,ed]
        refine formed3_w n s l _ _ hl hd3 hL ⟨fun hs=>⟨fun hn=>⟨fun hw=>?_,fun hw=>?_⟩,fun hn=>?_⟩,fun hs=>⟨fun hn=>?_,fun hn=>?_⟩⟩ <;>
         (rw [empty_eq] at hs; simp [hn,hs])<;>(try simp [hw])
      · have e:wf (.mk k n s l)=false:=by simp [wf,h1,h2,h3]
        rw [e]
        simp only [Bool.false_eq_true,if_false]
        exact formedx_w k n s l (by omega) (by simp)
end Go.Cdc


namespace Go.Ops
open Go Go.Am Go.Proofs Go.Seat Go.Vec Go.Cdc
def cvI (n:Int):CV:=.mk 1 n .empty []
def cvT (s:ByteArray):CV:=.mk 2 0 s []
def cvL (l:List CV):CV:=.mk 3 0 .empty l
theorem num_w (n:Int) (h:True):Cq 126 [int n] (vmk 1 n ByteArray.empty []):=by
 have _:=h
 exact CallC.out ((show Cq 126 [int n] (.agg [int 1,int n,str (ByteArray.mk #[]),nilS]) from callC_of [])) (Sub.aggs ⟨Sub.refl _,Sub.refl _,Sub.refl _,(Sub.nil _),trivial⟩)
theorem text_w (s:ByteArray) (h:True):Cq 128 [str s] (vmk 2 0 s []):=by
 have _:=h
 exact CallC.out ((show Cq 128 [str s] (.agg [int 2,int 0,str s,nilS]) from callC_of [])) (Sub.aggs ⟨Sub.refl _,Sub.refl _,Sub.refl _,(Sub.nil _),trivial⟩)
theorem list_w (t:Bool) (xs:List (List AV)) (h:True):Cq 125 [.sl 4 t xs] (.agg [int 3,int 0,str ByteArray.empty,.sl 4 false xs]):=by
 have _:=h
 exact CallC.out ((show Cq 125 [.sl 4 t xs] (.agg [int 3,int 0,str (ByteArray.mk #[]),.sl 4 t xs]) from callC_of [])) (Sub.aggs ⟨Sub.refl _,Sub.refl _,Sub.refl _,(Sub.loose _ _ _),trivial⟩)
theorem list_0  (h:True):Cq 125 [nilS] (.agg [int 3,int 0,str ByteArray.empty,nilS]):=by
 have _:=h
 exact callC_of []
theorem num_c (n:Int):Cq 126 [int n] (vmk 1 n .empty []):=num_w n trivial
theorem text_c (s:ByteArray):Cq 128 [str s] (vmk 2 0 s []):=text_w s trivial
theorem list_c (t:Bool) (xs:List (List AV)):Cq 125 [.sl 4 t xs] (.agg [int 3,int 0,str .empty,.sl 4 false xs]):=list_w t xs trivial
theorem list0_c:Cq 125 [nilS] (.agg [int 3,int 0,str .empty,nilS]):=list_0 trivial
theorem id_w (a b c:Int) (h:True):Cq 129 [ida a b c] (vmk 3 0 ByteArray.empty [cvI a,cvI b,cvI c]):=by
 have _:=h
 exact callC_of [kc [] (@num_c (a)),kc [] (@num_c (b)),kc [] (@num_c (c)),kc [] (@list_c (true) ([[int 1,int a,str ByteArray.empty,AV.sl 4 false []],[int 1,int b,str ByteArray.empty,AV.sl 4 false []],[int 1,int c,str ByteArray.empty,AV.sl 4 false []]]))]
theorem id_c (a b c:Int):Cq 129 [ida a b c] (vmk 3 0 .empty [cvI a,cvI b,cvI c]):=id_w a b c trivial
def cvD (d:D):CV:=cvL [cvI d.1,cvI d.2]
def encSt0 (o:OP) (k:Nat):St:={ env:=slots 85 [(1,.ptr 0 0),(5,.ptr 1 0),(16,vec o.cx),(17,int o.cx.length),(18,int k)],H:=[.box (opc o),.box [int 3,int 0,str .empty,nilS]] }
def encSt1 (o:OP) (g:Nat) (cs:List CV) (k:Nat):St:={ env:=slots 85 [(1,.ptr 0 0),(5,.ptr 1 0),(16,vec o.cx),(17,int o.cx.length),(18,int k)],H:=[.box (opc o),.box [int 3,int 0,str .empty,.own 3 g 0 cs.length],.gone,.arr g 4 false (encL cs)] }
theorem el0_w (o:OP) (k:Nat) (x y:Int) (hk:k<o.cx.length) (hx:o.cx[k]? = some (x,y)) (hl:o.cx.length≤1000000000) (ex:AEx) (s':St) (h:Rq 0 96 0 (sM 85 [(1,.ptr 0 0),(5,.ptr 1 0),(16,vec o.cx),(17,int ↑(List.length o.cx)),(18,int ↑(k+1))] [.box (opc o),.box [int 3,int 0,str ByteArray.empty,.own 3 0 0 1],.box [int x,int y],.arr 0 4 false [[int 3,int 0,str ByteArray.empty,.sl 4 false [[int 1,int x,str ByteArray.empty,.sl 4 false []],[int 1,int y,str ByteArray.empty,.sl 4 false []]]]]]) ex s'):Rq 0 96 0 (encSt0 o k) ex s':=by
 exact loop_next [ki ((k:Int)<(↑(List.length o.cx):Int)),ke (Vec.enc (x,y)) (encs o.cx) k (el_nat hx),kc [] (@num_c (x)),kc [] (@num_c (y)),kc [] (@list_c (true) ([[int 1,int x,str ByteArray.empty,AV.sl 4 false []],[int 1,int y,str ByteArray.empty,AV.sl 4 false []]])),kne [int 3,int 0,str ByteArray.empty,AV.sl 4 false [[int 1,int x,str ByteArray.empty,AV.sl 4 false []],[int 1,int y,str ByteArray.empty,AV.sl 4 false []]]],kBd 56,kW 35 (k+1) ↑(k+1)] (others 85 [1,5,16,17,18]) 4 h
theorem el1_w (o:OP) (g:Nat) (cs:List CV) (k:Nat) (x y:Int) (hk:k<o.cx.length) (hx:o.cx[k]? = some (x,y)) (hl:o.cx.length≤1000000000) (hcs:cs.length≤1000000000) (ex:AEx) (s':St) (h:((∀ (x_1:List AV),x_1∈encL cs++[[int 3,int 0,str ByteArray.empty,AV.sl 4 false [[int 1,int x,str ByteArray.empty,AV.sl 4 false []],[int 1,int y,str ByteArray.empty,AV.sl 4 false []]]]]→AV.idsLtL 4 x_1=true)∧Rq 0 96 0 (sM 85 [(1,.ptr 0 0),(5,.ptr 1 0),(16,vec o.cx),(17,int ↑(List.length o.cx)),(18,int ↑(k+1))] [.box (opc o),.box [int 3,int 0,str ByteArray.empty,.own 3 (g+1) 0 (List.length cs+1)],.gone,.arr (g+1) 4 false (encL cs++[[int 3,int 0,str ByteArray.empty,.sl 4 false [[int 1,int x,str ByteArray.empty,.sl 4 false []],[int 1,int y,str ByteArray.empty,.sl 4 false []]]]])]) ex s')):Rq 0 96 0 (encSt1 o g cs k) ex s':=by
 obtain ⟨o2,h⟩:=h
 exact loop_next [ki ((k:Int)<(↑(List.length o.cx):Int)),ke (Vec.enc (x,y)) (encs o.cx) k (el_nat hx),kc [] (@num_c (x)),kc [] (@num_c (y)),kc [] (@list_c (true) ([[int 1,int x,str ByteArray.empty,AV.sl 4 false []],[int 1,int y,str ByteArray.empty,AV.sl 4 false []]])),kq g,kp (Go.Cdc.encL_length cs).symm,kBd ((List.length cs+1) * 56),kW 35 (k+1) ↑(k+1),kp o2] (others 85 [1,5,16,17,18]) 4 h
theorem el0_end (o:OP) (k:Nat) (hk:o.cx.length≤k) (h:True):Rq 0 96 0 (encSt0 o k) (AEx.exit 0) (sM 85 [(1,.ptr 0 0),(5,.ptr 1 0)] [.box (opc o),.box [int 3,int 0,str ByteArray.empty,nilS]]):=by
 have _:=h
 exact loop_exit [kj ((k:Int)<(↑(List.length o.cx):Int))] (others 85 [1,5]) 2
theorem el1_end (o:OP) (g:Nat) (cs:List CV) (k:Nat) (hk:o.cx.length≤k) (h:True):Rq 0 96 0 (encSt1 o g cs k) (AEx.exit 0) (sM 85 [(1,.ptr 0 0),(5,.ptr 1 0)] [.box (opc o),.box [int 3,int 0,str ByteArray.empty,.own 3 g 0 cs.length],.gone,.arr g 4 false (encL cs)]):=by
 have _:=h
 exact loop_exit [kj ((k:Int)<(↑(List.length o.cx):Int))] (others 85 [1,5]) 4
theorem encL_snoc (l:List CV) (v:CV):encL l++[enc v]=encL (l++[v]):=by
 rw [encL_map,encL_map,List.map_append]; rfl
theorem encL_idsIn (l:List CV):∀ x∈encL l,AV.idsInL [] x=true:=by
 intro x hx
 rw [encL_map] at hx
 obtain ⟨v,_,rfl⟩:=List.mem_map.1 hx
 cases v; rfl
theorem encL_pure (l:List CV):∀ x∈encL l,x.all AV.pureB=true:=by
 intro x hx
 rw [encL_map] at hx
 obtain ⟨v,_,rfl⟩:=List.mem_map.1 hx
 cases v; rfl
def ctxV (o:OP):CV:=cvL (o.cx.map cvD)
theorem el1_loop (o:OP) (hl:o.cx.length≤1000000000):∀ (m k g:Nat),o.cx.length - k=m→k≤o.cx.length →
 ∃ g',Rq 0 96 0 (encSt1 o g ((o.cx.take k).map cvD) k) (.exit 0) { env:=slots 85 [(1,.ptr 0 0),(5,.ptr 1 0)],H:=[.box (opc o),.box [int 3,int 0,str .empty,.own 3 g' 0 (o.cx.map cvD).length],.gone,.arr g' 4 false (encL (o.cx.map cvD))] }:=by
 intro m
 induction m with
 | zero =>
  intro k g hm hk
  have e:o.cx.take k=o.cx:=List.take_of_length_le (by omega)
  rw [e]
  exact ⟨g,el1_end o g _ k (by omega) trivial⟩
 | succ m ih =>
  intro k g hm hk
  have hlt:k<o.cx.length:=by omega
  obtain ⟨g',h⟩:=ih (k+1) (g+1) (by omega) (by omega)
  refine ⟨g',el1_w o g _ k o.cx[k].1 o.cx[k].2 hlt (by rw [List.getElem?_eq_getElem hlt]) hl (by simp; omega) _ _ ⟨fun x hx=>?_,?_⟩⟩
  · rcases List.mem_append.1 hx with hx | hx
    · exact ids_lt (encL_idsIn _) 4 x hx
    · have:x=enc (cvD o.cx[k]):=List.mem_singleton.1 hx
      subst this; rfl
  · have e:(o.cx.take (k+1)).map cvD=(o.cx.take k).map cvD++[cvD o.cx[k]]:=by
     rw [List.take_add_one,List.getElem?_eq_getElem hlt,List.map_append]; rfl
    rw [e] at h
    unfold encSt1 at h
    rw [← encL_snoc,List.length_append] at h
    exact h
theorem el_loop (o:OP) (hl:o.cx.length≤1000000000) :
 (o.cx=[]∧Rq 0 96 0 (encSt0 o 0) (.exit 0) { env:=slots 85 [(1,.ptr 0 0),(5,.ptr 1 0)],H:=[.box (opc o),.box [int 3,int 0,str .empty,nilS]] }) ∨
 ∃ g',Rq 0 96 0 (encSt0 o 0) (.exit 0) { env:=slots 85 [(1,.ptr 0 0),(5,.ptr 1 0)],H:=[.box (opc o),.box [int 3,int 0,str .empty,.own 3 g' 0 (o.cx.map cvD).length],.gone,.arr g' 4 false (encL (o.cx.map cvD))] }:=by
 by_cases h0:o.cx.length=0
 · exact .inl ⟨List.eq_nil_of_length_eq_zero h0,el0_end o 0 (by omega) trivial⟩
 · have hlt:0<o.cx.length:=by omega
   obtain ⟨g',h⟩:=el1_loop o hl (o.cx.length - 1) 1 0 rfl (by omega)
   refine .inr ⟨g',el0_w o 0 o.cx[0].1 o.cx[0].2 hlt (by rw [List.getElem?_eq_getElem hlt]) hl _ _ ?_⟩
   have e:(o.cx.take 1).map cvD=[cvD o.cx[0]]:=by
    rw [List.take_one,List.head?_eq_getElem?,List.getElem?_eq_getElem hlt]; rfl
   rw [e] at h
   exact RunL.preH h ⟨.inl rfl,.inl rfl,.inr trivial,.inl rfl,trivial⟩
theorem el_c (o:OP) (hl:o.cx.length≤1000000000):(o.cx=[]∧Rq 0 96 0 (encSt0 o 0) (.exit 0) { env:=slots 85 [(1,.ptr 0 0),(5,.ptr 1 0)],H:=[.box (opc o),.box (enc (ctxV o))] }) ∨
 Rq 0 96 0 (encSt0 o 0) (.exit 0) { env:=slots 85 [(1,.ptr 0 0),(5,.ptr 1 0)],H:=[.box (opc o),.box (enc (ctxV o)),.gone,.gone] }:=by
 rcases el_loop o hl with ⟨h0,h⟩ | ⟨g',h⟩
 · refine .inl ⟨h0,RunL.postH h ⟨.inl rfl,.inr ⟨rfl,fun j hj=>?_⟩,trivial⟩⟩
   unfold ctxV
   rw [h0]
   match j,hj with
   | 0,_=>exact Sub.refl _
   | 1,_=>exact Sub.refl _
   | 2,_=>exact Sub.refl _
   | 3,_=>exact Sub.nil 4
 · refine .inr ?_
   have h2:=RunL.frzBox (b:=1) (j:=3) (z:=encL (o.cx.map cvD)) h rfl (H1:=[.box (opc o),.box [int 3,int 0,str .empty,.own 3 g' 0 (o.cx.map cvD).length],.gone,.arr g' 4 true (encL (o.cx.map cvD))]) rfl rfl rfl ⟨rfl,encL_all _,encL_length _,encL_pure _,trivial⟩
   exact RunL.postH h2 ⟨.inl rfl,.inl rfl,.inl rfl,.inr trivial,trivial⟩
def opW (o:OP) (b:Int):CV:=cvL [cvI o.dv,cvI o.sq,cvI o.tm,ctxV o,cvL [cvI o.pk,cvT o.pn],cvI o.kd,cvL [cvI o.f1,cvI o.f2,cvI o.f3],cvL [cvI o.t1,cvI o.t2,cvI o.t3],cvT o.ky,cvT o.vl,cvI o.n,cvI b]
def opV (o:OP):CV:=opW o (if o.on=true then 1 else 0)
theorem enc_t0 (o:OP) (l:List UInt8) (e:Int) (hon:o.on=true) (hc:Cq 31 [op o] (int 0)) (hL:Rq 0 96 0 (encSt0 o 0) (.exit 0) { env:=slots 85 [(1,.ptr 0 0),(5,.ptr 1 0)],H:=[.box (opc o),.box (enc (ctxV o))] }) (he:Cq 127 [val (opW o 1)] (.tup [byt l,int e])) (h:True):Cq 96 [op o] (.tup [byt l,int e]):=by
 have _:=h
 exact callC_of [kc [] hc,kY,kc [] (@list0_c ),kN 17 (Go.Vec.encs_length o.cx),kl (rG [(0,1),(2,3),(6,10),(19,66)]) 2 hL,kt hon,kc [] (@num_c o.dv),kc [] (@num_c o.sq),kc [] (@num_c o.tm),kc [] (@num_c o.pk),kc [] (@text_c o.pn),kc [] (@list_c (true) ([[int 1,int o.pk,str ByteArray.empty,AV.sl 4 false []],[int 2,int 0,str o.pn,AV.sl 4 false []]])),kc [] (@num_c o.kd),kc [] (@id_c o.f1 o.f2 o.f3),kc [] (@id_c o.t1 o.t2 o.t3),kc [] (@text_c o.ky),kc [] (@text_c o.vl),kc [] (@num_c o.n),kc [] (@num_c (1)),kc [] (@list_c (true) ([[int 1,int o.dv,str ByteArray.empty,AV.sl 4 false []],[int 1,int o.sq,str ByteArray.empty,AV.sl 4 false []],[int 1,int o.tm,str ByteArray.empty,AV.sl 4 false []],[int (CV.k (ctxV o)),int (CV.n (ctxV o)),str (CV.s (ctxV o)),AV.sl 4 false (encL (CV.l (ctxV o)))],[int 3,int 0,str ByteArray.empty,AV.sl 4 false [[int 1,int o.pk,str ByteArray.empty,AV.sl 4 false []],[int 2,int 0,str o.pn,AV.sl 4 false []]]],[int 1,int o.kd,str ByteArray.empty,AV.sl 4 false []],[int 3,int 0,str ByteArray.empty,AV.sl 4 false [[int 1,int o.f1,str ByteArray.empty,AV.sl 4 false []],[int 1,int o.f2,str ByteArray.empty,AV.sl 4 false []],[int 1,int o.f3,str ByteArray.empty,AV.sl 4 false []]]],[int 3,int 0,str ByteArray.empty,AV.sl 4 false [[int 1,int o.t1,str ByteArray.empty,AV.sl 4 false []],[int 1,int o.t2,str ByteArray.empty,AV.sl 4 false []],[int 1,int o.t3,str ByteArray.empty,AV.sl 4 false []]]],[int 2,int 0,str o.ky,AV.sl 4 false []],[int 2,int 0,str o.vl,AV.sl 4 false []],[int 1,int o.n,str ByteArray.empty,AV.sl 4 false []],[int 1,int 1,str ByteArray.empty,AV.sl 4 false []]])),kc [] he]
theorem enc_t1 (o:OP) (l:List UInt8) (e:Int) (hon:o.on=true) (hc:Cq 31 [op o] (int 0)) (hL:Rq 0 96 0 (encSt0 o 0) (.exit 0) { env:=slots 85 [(1,.ptr 0 0),(5,.ptr 1 0)],H:=[.box (opc o),.box (enc (ctxV o)),.gone,.gone] }) (he:Cq 127 [val (opW o 1)] (.tup [byt l,int e])) (h:True):Cq 96 [op o] (.tup [byt l,int e]):=by
 have _:=h
 exact callC_of [kc [] hc,kY,kc [] (@list0_c ),kN 17 (Go.Vec.encs_length o.cx),kl (rG [(0,1),(2,3),(6,10),(19,66)]) 2 hL,kt hon,kc [] (@num_c o.dv),kc [] (@num_c o.sq),kc [] (@num_c o.tm),kc [] (@num_c o.pk),kc [] (@text_c o.pn),kc [] (@list_c (true) ([[int 1,int o.pk,str ByteArray.empty,AV.sl 4 false []],[int 2,int 0,str o.pn,AV.sl 4 false []]])),kc [] (@num_c o.kd),kc [] (@id_c o.f1 o.f2 o.f3),kc [] (@id_c o.t1 o.t2 o.t3),kc [] (@text_c o.ky),kc [] (@text_c o.vl),kc [] (@num_c o.n),kc [] (@num_c (1)),kc [] (@list_c (true) ([[int 1,int o.dv,str ByteArray.empty,AV.sl 4 false []],[int 1,int o.sq,str ByteArray.empty,AV.sl 4 false []],[int 1,int o.tm,str ByteArray.empty,AV.sl 4 false []],[int (CV.k (ctxV o)),int (CV.n (ctxV o)),str (CV.s (ctxV o)),AV.sl 4 false (encL (CV.l (ctxV o)))],[int 3,int 0,str ByteArray.empty,AV.sl 4 false [[int 1,int o.pk,str ByteArray.empty,AV.sl 4 false []],[int 2,int 0,str o.pn,AV.sl 4 false []]]],[int 1,int o.kd,str ByteArray.empty,AV.sl 4 false []],[int 3,int 0,str ByteArray.empty,AV.sl 4 false [[int 1,int o.f1,str ByteArray.empty,AV.sl 4 false []],[int 1,int o.f2,str ByteArray.empty,AV.sl 4 false []],[int 1,int o.f3,str ByteArray.empty,AV.sl 4 false []]]],[int 3,int 0,str ByteArray.empty,AV.sl 4 false [[int 1,int o.t1,str ByteArray.empty,AV.sl 4 false []],[int 1,int o.t2,str ByteArray.empty,AV.sl 4 false []],[int 1,int o.t3,str ByteArray.empty,AV.sl 4 false []]]],[int 2,int 0,str o.ky,AV.sl 4 false []],[int 2,int 0,str o.vl,AV.sl 4 false []],[int 1,int o.n,str ByteArray.empty,AV.sl 4 false []],[int 1,int 1,str ByteArray.empty,AV.sl 4 false []]])),kc [] he]
theorem enc_f0 (o:OP) (l:List UInt8) (e:Int) (hon:o.on=false) (hc:Cq 31 [op o] (int 0)) (hL:Rq 0 96 0 (encSt0 o 0) (.exit 0) { env:=slots 85 [(1,.ptr 0 0),(5,.ptr 1 0)],H:=[.box (opc o),.box (enc (ctxV o))] }) (he:Cq 127 [val (opW o 0)] (.tup [byt l,int e])) (h:True):Cq 96 [op o] (.tup [byt l,int e]):=by
 have _:=h
 exact callC_of [kc [] hc,kY,kc [] (@list0_c ),kN 17 (Go.Vec.encs_length o.cx),kl (rG [(0,1),(2,3),(6,10),(19,66)]) 2 hL,kf hon,kc [] (@num_c o.dv),kc [] (@num_c o.sq),kc [] (@num_c o.tm),kc [] (@num_c o.pk),kc [] (@text_c o.pn),kc [] (@list_c (true) ([[int 1,int o.pk,str ByteArray.empty,AV.sl 4 false []],[int 2,int 0,str o.pn,AV.sl 4 false []]])),kc [] (@num_c o.kd),kc [] (@id_c o.f1 o.f2 o.f3),kc [] (@id_c o.t1 o.t2 o.t3),kc [] (@text_c o.ky),kc [] (@text_c o.vl),kc [] (@num_c o.n),kc [] (@num_c (0)),kc [] (@list_c (true) ([[int 1,int o.dv,str ByteArray.empty,AV.sl 4 false []],[int 1,int o.sq,str ByteArray.empty,AV.sl 4 false []],[int 1,int o.tm,str ByteArray.empty,AV.sl 4 false []],[int (CV.k (ctxV o)),int (CV.n (ctxV o)),str (CV.s (ctxV o)),AV.sl 4 false (encL (CV.l (ctxV o)))],[int 3,int 0,str ByteArray.empty,AV.sl 4 false [[int 1,int o.pk,str ByteArray.empty,AV.sl 4 false []],[int 2,int 0,str o.pn,AV.sl 4 false []]]],[int 1,int o.kd,str ByteArray.empty,AV.sl 4 false []],[int 3,int 0,str ByteArray.empty,AV.sl 4 false [[int 1,int o.f1,str ByteArray.empty,AV.sl 4 false []],[int 1,int o.f2,str ByteArray.empty,AV.sl 4 false []],[int 1,int o.f3,str ByteArray.empty,AV.sl 4 false []]]],[int 3,int 0,str ByteArray.empty,AV.sl 4 false [[int 1,int o.t1,str ByteArray.empty,AV.sl 4 false []],[int 1,int o.t2,str ByteArray.empty,AV.sl 4 false []],[int 1,int o.t3,str ByteArray.empty,AV.sl 4 false []]]],[int 2,int 0,str o.ky,AV.sl 4 false []],[int 2,int 0,str o.vl,AV.sl 4 false []],[int 1,int o.n,str ByteArray.empty,AV.sl 4 false []],[int 1,int 0,str ByteArray.empty,AV.sl 4 false []]])),kc [] he]
theorem enc_f1 (o:OP) (l:List UInt8) (e:Int) (hon:o.on=false) (hc:Cq 31 [op o] (int 0)) (hL:Rq 0 96 0 (encSt0 o 0) (.exit 0) { env:=slots 85 [(1,.ptr 0 0),(5,.ptr 1 0)],H:=[.box (opc o),.box (enc (ctxV o)),.gone,.gone] }) (he:Cq 127 [val (opW o 0)] (.tup [byt l,int e])) (h:True):Cq 96 [op o] (.tup [byt l,int e]):=by
 have _:=h
 exact callC_of [kc [] hc,kY,kc [] (@list0_c ),kN 17 (Go.Vec.encs_length o.cx),kl (rG [(0,1),(2,3),(6,10),(19,66)]) 2 hL,kf hon,kc [] (@num_c o.dv),kc [] (@num_c o.sq),kc [] (@num_c o.tm),kc [] (@num_c o.pk),kc [] (@text_c o.pn),kc [] (@list_c (true) ([[int 1,int o.pk,str ByteArray.empty,AV.sl 4 false []],[int 2,int 0,str o.pn,AV.sl 4 false []]])),kc [] (@num_c o.kd),kc [] (@id_c o.f1 o.f2 o.f3),kc [] (@id_c o.t1 o.t2 o.t3),kc [] (@text_c o.ky),kc [] (@text_c o.vl),kc [] (@num_c o.n),kc [] (@num_c (0)),kc [] (@list_c (true) ([[int 1,int o.dv,str ByteArray.empty,AV.sl 4 false []],[int 1,int o.sq,str ByteArray.empty,AV.sl 4 false []],[int 1,int o.tm,str ByteArray.empty,AV.sl 4 false []],[int (CV.k (ctxV o)),int (CV.n (ctxV o)),str (CV.s (ctxV o)),AV.sl 4 false (encL (CV.l (ctxV o)))],[int 3,int 0,str ByteArray.empty,AV.sl 4 false [[int 1,int o.pk,str ByteArray.empty,AV.sl 4 false []],[int 2,int 0,str o.pn,AV.sl 4 false []]]],[int 1,int o.kd,str ByteArray.empty,AV.sl 4 false []],[int 3,int 0,str ByteArray.empty,AV.sl 4 false [[int 1,int o.f1,str ByteArray.empty,AV.sl 4 false []],[int 1,int o.f2,str ByteArray.empty,AV.sl 4 false []],[int 1,int o.f3,str ByteArray.empty,AV.sl 4 false []]]],[int 3,int 0,str ByteArray.empty,AV.sl 4 false [[int 1,int o.t1,str ByteArray.empty,AV.sl 4 false []],[int 1,int o.t2,str ByteArray.empty,AV.sl 4 false []],[int 1,int o.t3,str ByteArray.empty,AV.sl 4 false []]]],[int 2,int 0,str o.ky,AV.sl 4 false []],[int 2,int 0,str o.vl,AV.sl 4 false []],[int 1,int o.n,str ByteArray.empty,AV.sl 4 false []],[int 1,int 0,str ByteArray.empty,AV.sl 4 false []]])),kc [] he]
theorem enc_x (o:OP) (e:Int) (he:¬ e=0) (hc:Cq 31 [op o] (int e)) (h:True):Cq 96 [op o] (.tup [byt [],int e]):=by
 have _:=h
 exact CallC.out ((show Cq 96 [op o] (.tup [nilS,int e]) from callC_of [kc [] hc,kt (show (e != 0)=true from (congrArg Bool.not (qF (by omega))))])) (Sub.tups ⟨(Sub.nil _),Sub.refl _,trivial⟩)
theorem enc_ok (o:OP) (l:List UInt8) (e:Int) (hl:o.cx.length≤1000000000) (hc:Cq 31 [op o] (int 0)) (he:Cq 127 [val (opV o)] (.tup [byt l,int e])):Cq 96 [op o] (.tup [byt l,int e]):=by
 unfold opV at he
 cases hon:o.on with
 | true =>
  rw [hon,if_pos rfl] at he
  rcases el_c o hl with ⟨_,h⟩ | h
  · exact enc_t0 o l e hon hc h he trivial
  · exact enc_t1 o l e hon hc h he trivial
 | false =>
  rw [hon,if_neg (by decide)] at he
  rcases el_c o hl with ⟨_,h⟩ | h
  · exact enc_f0 o l e hon hc h he trivial
  · exact enc_f1 o l e hon hc h he trivial
end Go.Ops


namespace Go.Ops
open Go Go.Am Go.Proofs Go.Seat Go.Vec Go.Cdc
def hd (l:List CV):CV:=l.headD default
def at_ (l:List CV) (i:Nat):CV:=(l.drop i).headD default
end Go.Ops


namespace Go.Ops
open Go Go.Am Go.Proofs Go.Seat Go.Vec Go.Cdc
theorem cmpX:ExtCmp P 130:=⟨_,rfl,by kernel_rfl,by kernel_rfl,by kernel_rfl,by kernel_rfl⟩
theorem bcmp_w (a b:List UInt8) (v:Int) (h:(Lib.compareBytes (Array.toList (List.toArray a)) (Array.toList (List.toArray b)):Int)=(v)):Cq 97 [byt a,byt b] (int v):=by
 exact callC_out (Sub.int_eq h) [ko (Orc.cmpb (ByteArray.mk (List.toArray a)) (ByteArray.mk (List.toArray b))),kp (show ExtCmp P 130 from (cmpX)),kp (show bys a=byteA (ByteArray.mk (List.toArray a)) from (rfl)),kp (show bys b=byteA (ByteArray.mk (List.toArray b)) from (rfl))]
theorem isnan_w (x:Int) (h:(x != x)=(false)):Cq 118 [int x] (Am.bool false):=by
 exact callC_out (Sub.bool_eq h) []
theorem ccmp_w (x y v:Int) (hx:Cq 118 [int x] (bool false)) (hy:Cq 118 [int y] (bool false)) (h:(((x<y)→(-1:Int)=(v))∧((¬x<y)→(((x > y)→1=v)∧((¬x > y)→0=v))))):Cq 87 [int x,int y] (int v):=by
 let l1:List Itm:=[kc [] hx,kc [] hy,kY,kY]
 by_cases c1:(x<y)
 · have h:=h.1 c1
   exact callC_out (Sub.int_eq h) (l1++[kt (qT c1)])
 · have h:=h.2 c1
   by_cases c2:(x > y)
   · have h:=h.1 c2
     exact callC_out (Sub.int_eq h) (l1++[kf (qF c1),kt (qT c2)])
   · have h:=h.2 c2
     exact callC_out (Sub.int_eq h) (l1++[kf (qF c1),kf (qF c2)])
theorem bcmp_c (a b:List UInt8):Cq 97 [byt a,byt b] (int (Lib.compareBytes a b)):=bcmp_w a b _ rfl
def cmpV (x y:Int):Int:=if x<y then -1 else if x > y then 1 else 0
theorem ccmp_c (x y:Int):Cq 87 [int x,int y] (int (cmpV x y)):=ccmp_w x y _ (isnan_w x (by simp)) (isnan_w y (by simp)) (by
 unfold cmpV
 grind)
def orV:List Int→Int
 | []=>0
 | x::t=>if x=0 then orV t else x
def orSt (l:List Int) (k:Nat):St:={ env:=slots 18 [(2,int 0),(3,int 0),(6,.sl 1 true (ints l)),(7,int l.length),(8,int k)],H:=[] }
theorem or_w (l:List Int) (k:Nat) (hl:l.length≤1000000) (ex:AEx) (r:Int) (h:((((k:Int)<(l.length:Int))→(∃ x2:Int,(l[k]? = some x2)∧(((x2=0)→Rq 0 86 0 (sM 18 [(2,int 0),(3,int 0),(6,.sl 1 true (ints l)),(7,int ↑l.length),(8,int ↑(k+1))] []) ex (sM 18 [(2,int r),(3,int 0)] []))∧((¬x2=0)→(AEx.ret=ex)∧((x2:Int)=(r))))))∧((¬(k:Int)<(l.length:Int))→(AEx.exit 0=ex)∧(0=r)))):Rq 0 86 0 (orSt l k) ex (sM 18 [(2,int r),(3,int 0)] []):=by
 by_cases c1:((k:Int)<(l.length:Int))
 · have h:=h.1 c1
   obtain ⟨x2,o3,h⟩:=h
   have hz0:(0:Int)≤(k:Int)∧(ints l)[Int.toNat (k:Int)]? = some (enc1 x2):=(el_nat o3)
   by_cases c4:(x2=0)
   · have h:=h.1 c4
     exact loop_next [kt (qT c1),ko (Orc.elem (enc1 x2)),kp hz0,kf (show (x2 != 0)=false from (congrArg Bool.not (qEq.2 c4))),kW 16 (k+1) ↑(k+1)] (others 18 [2,3,6,7,8]) 0 h
   · have h:=h.2 c4
     obtain ⟨eX,e1⟩:=h
     exact RunL.to ((show Rq 0 86 0 (orSt l k) AEx.ret (sM 18 [(2,int x2),(3,int 0)] []) from loop_exit [kt (qT c1),ko (Orc.elem (enc1 x2)),kp hz0,kt (show (x2 != 0)=true from (congrArg Bool.not (qN.2 c4)))] (others 18 [2,3]) 0)) eX (SubS.slots ⟨rfl,(Sub.int_eq e1),rfl,Sub.refl _,trivial⟩)
 · have h:=h.2 c1
   obtain ⟨eX,e1⟩:=h
   exact RunL.to ((show Rq 0 86 0 (orSt l k) (AEx.exit 0) (sM 18 [(2,int 0),(3,int 0)] []) from loop_exit [kf (qF c1)] (others 18 [2,3]) 0)) eX (SubS.slots ⟨rfl,(Sub.int_eq e1),rfl,Sub.refl _,trivial⟩)
theorem or_loop (l:List Int) (hl:l.length≤1000000):∀ (m k:Nat),l.length - k=m→k≤l.length→Rq 0 86 0 (orSt l k) (if orV (l.drop k)=0 then .exit 0 else .ret) { env:=slots 18 [(2,int (orV (l.drop k))),(3,int 0)],H:=[] }:=by
 intro m
 induction m with
 | zero =>
  intro k hm hk
  have e:l.drop k=[]:=List.drop_of_length_le (by omega)
  rw [e]
  exact or_w l k hl _ _ ⟨fun h=>absurd h (by omega),fun _=>⟨rfl,rfl⟩⟩
 | succ m ih =>
  intro k hm hk
  have hlt:k<l.length:=by omega
  have e:=List.drop_eq_getElem_cons hlt
  refine or_w l k hl _ _ ⟨fun _=>⟨l[k],List.getElem?_eq_getElem hlt,⟨fun h0=>?_,fun h0=>?_⟩⟩,fun h=>absurd hlt (by omega)⟩
  · have:orV (l.drop k)=orV (l.drop (k+1)):=by rw [e,orV,if_pos h0]
    rw [this]
    exact ih (k+1) (by omega) (by omega)
  · have:orV (l.drop k)=l[k]:=by rw [e,orV,if_neg h0]
    rw [this,if_neg h0]
    exact ⟨rfl,rfl⟩
theorem or_f (l:List Int) (r:Int) (hL:Rq 0 86 0 (orSt l 0) (if r=0 then .exit 0 else .ret) { env:=slots 18 [(2,int r),(3,int 0)],H:=[] }) (h:(((r=0)→0=r)∧((¬r=0)→True))):Cq 86 [.sl 1 true (ints l)] (int r):=by
 have hz0:=lenS (Go.Vec.ints_length l)
 by_cases c1:(r=0)
 · have h:=h.1 c1
   exact callC_out (Sub.int_eq h) [kv 7 hz0,kl (rG [(0,2),(4,2),(9,9)]) 0 (show Rq 0 86 0 (sM 18 [(2,int 0),(3,int 0),(6,.sl 1 true (ints l)),(7,int ↑l.length),(8,int 0)] []) (AEx.exit 0) (sM 18 [(2,int r),(3,int 0)] []) from (by have h0:=hL; simp only [if_pos c1] at h0; exact h0))]
 · have h:=h.2 c1
   have _:=h
   exact callC_of [kv 7 hz0,kl (rG [(0,2),(4,2),(9,9)]) 0 (show Rq 0 86 0 (sM 18 [(2,int 0),(3,int 0),(6,.sl 1 true (ints l)),(7,int ↑l.length),(8,int 0)] []) AEx.ret (sM 18 [(2,int r),(3,int 0)] []) from (by have h0:=hL; simp only [if_neg c1] at h0; exact h0))]
theorem or3_c (a b c:Int):Cq 86 [.sl 1 true [[int a],[int b],[int c]]] (int (orV [a,b,c])) :=
 or_f [a,b,c] _ (by have:=or_loop [a,b,c] (by simp) 3 0 rfl (by simp); exact this) ⟨fun h=>h.symm,fun _=>trivial⟩
def cmpOV (a b:OP) (x y:List UInt8):Int :=
 if orV [cmpV a.tm b.tm,cmpV a.dv b.dv,cmpV a.sq b.sq]=0 then Lib.compareBytes x y else orV [cmpV a.tm b.tm,cmpV a.dv b.dv,cmpV a.sq b.sq]
theorem cmp_w (a b:OP) (x y:List UInt8) (e1 e2 v:Int) (hx:Cq 96 [op a] (.tup [byt x,int e1])) (hy:Cq 96 [op b] (.tup [byt y,int e2])) (h:(((orV [cmpV a.tm b.tm,cmpV a.dv b.dv,cmpV a.sq b.sq]=0)→(Lib.compareBytes x y:Int)=(v))∧((¬orV [cmpV a.tm b.tm,cmpV a.dv b.dv,cmpV a.sq b.sq]=0)→(orV [cmpV a.tm b.tm,cmpV a.dv b.dv,cmpV a.sq b.sq]:Int)=(v)))):Cq 65 [op a,op b] (int v):=by
 have hz0:=(@ccmp_c a.tm b.tm)
 have hz1:=(@ccmp_c a.dv b.dv)
 have hz2:=(@ccmp_c a.sq b.sq)
 have hz3:=(@or3_c (cmpV a.tm b.tm) (cmpV a.dv b.dv) (cmpV a.sq b.sq))
 by_cases c1:(orV [cmpV a.tm b.tm,cmpV a.dv b.dv,cmpV a.sq b.sq]=0)
 · have h:=h.1 c1
   exact callC_out (Sub.int_eq h) [kc [] hz0,kc [] hz1,kc [] hz2,kc [] hz3,kt (qEq.2 c1),kc [] hx,kc [] hy,kc [] (@bcmp_c (x) (y))]
 · have h:=h.2 c1
   exact callC_out (Sub.int_eq h) [kc [] hz0,kc [] hz1,kc [] hz2,kc [] hz3,kf (qN.2 c1)]
theorem cmp_c (a b:OP) (x y:List UInt8) (e1 e2:Int) (hx:Cq 96 [op a] (.tup [byt x,int e1])) (hy:Cq 96 [op b] (.tup [byt y,int e2])):Cq 65 [op a,op b] (int (cmpOV a b x y)):=cmp_w a b x y e1 e2 _ hx hy (by
 unfold cmpOV
 exact ⟨fun h=>by rw [if_pos h],fun h=>by rw [if_neg h]⟩)
theorem cmp_eq0:∀ x y:List UInt8,Lib.compareBytes x y=0↔x=y
 | [],[]=>by simp [Lib.compareBytes]
 | [],_::_=>by simp [Lib.compareBytes]
 | _::_,[]=>by simp [Lib.compareBytes]
 | a::xs,b::ys=>by
  have ih:=cmp_eq0 xs ys
  simp only [Lib.compareBytes]
  by_cases h1:a<b
  · simp [h1]
    intro e; subst e
    exact absurd h1 (UInt8.lt_irrefl a)
  · by_cases h2:b<a
    · simp [h1,h2]
      intro e; subst e
      exact absurd h2 (UInt8.lt_irrefl a)
    · have e:a=b:=UInt8.le_antisymm (UInt8.not_lt.1 h2) (UInt8.not_lt.1 h1)
      simp [h1,h2,ih,e]
end Go.Ops


namespace Go.Cdc
open Go Go.Am Go.Proofs Go.Seat
theorem wrap_u64 (n:Nat):IntKind.wrap .u64 (n:Int)=((n % 18446744073709551616:Nat):Int):=by
 show (let m:=(n:Int) % (2 ^ 64:Int); if (IntKind.u64.signed && m≥(2 ^ (64 - 1):Int))=true then m - (2 ^ 64:Int) else m)=_
 simp [IntKind.signed]
theorem wrap_u8 (n:Nat):IntKind.wrap .u8 (n:Int)=((n % 256:Nat):Int):=by
 show (let m:=(n:Int) % (2 ^ 8:Int); if (IntKind.u8.signed && m≥(2 ^ (8 - 1):Int))=true then m - (2 ^ 8:Int) else m)=_
 simp [IntKind.signed]
theorem ofInt_nat (w n:Nat):(BitVec.ofInt w (n:Int)).toNat=n % 2 ^ w:=by simp [BitVec.toNat_ofInt]
theorem wrap64 {n:Nat} (h:n<18446744073709551616):IntKind.wrap .u64 (n:Int)=(n:Int):=by rw [wrap_u64,Nat.mod_eq_of_lt h]
theorem wrap8 {n:Nat} (h:n<256):IntKind.wrap .u8 (n:Int)=(n:Int):=by rw [wrap_u8,Nat.mod_eq_of_lt h]
def numF:List UInt8→Nat→Nat→Bool × Nat × List UInt8
 | [],u,_=>(false,u,[])
 | c::r,u,i=>if (i≠0∧c.toNat=0)∨(9≤i∧1<c.toNat) then (false,u,r)
  else if c.toNat<128 then (true,u+c.toNat % 128 * 2 ^ (7 * i),r) else numF r (u+c.toNat % 128 * 2 ^ (7 * i)) (i+1)
def numOk (l:List UInt8):Bool:=(numF l 0 0).1
def numU (l:List UInt8):Nat:=(numF l 0 0).2.1
def numR (l:List UInt8):List UInt8:=(numF l 0 0).2.2
end Go.Cdc


namespace Go.Cdc
open Go Go.Am Go.Proofs Go.Seat
theorem wrap_u64_int (n:Int):IntKind.wrap .u64 n=n % 18446744073709551616:=by
 show (let m:=n % (2 ^ 64:Int); if (IntKind.u64.signed && m≥(2 ^ (64 - 1):Int))=true then m - (2 ^ 64:Int) else m)=_
 simp [IntKind.signed]
def uns (n:Int):Nat:=if 0≤n then 2 * n.toNat else 2 * (-(n+1)).toNat+1
theorem uns_w_p1 (n:Int):runF P G 203 [int n] [] [] =
 some (AOut.ret (AV.lit (Value.int IntKind.u64 (IntKind.wrap IntKind.u64 (↑(BitVec.toNat (BitVec.ofInt (IntKind.bits IntKind.u64) (IntKind.wrap IntKind.u64 (IntKind.wrap IntKind.u64 n * 2 ^ min (Int.toNat 1) (IntKind.bits IntKind.u64))) ^^^ BitVec.ofInt (IntKind.bits IntKind.u64) (IntKind.wrap IntKind.u64 (Int.fdiv n (2 ^ min (Int.toNat 63) (IntKind.bits IntKind.i64)))))):Int)))),[],[(0:Int)≤(1:Int),(0:Int)≤(63:Int)]):=by kernel_rfl
theorem uns_w (n:Int) (v:Int) (h:(IntKind.wrap IntKind.u64 (↑(BitVec.toNat (BitVec.ofInt (IntKind.bits IntKind.u64) (IntKind.wrap IntKind.u64 (IntKind.wrap IntKind.u64 n * 2 ^ min (Int.toNat 1) (IntKind.bits IntKind.u64))) ^^^ BitVec.ofInt (IntKind.bits IntKind.u64) (IntKind.wrap IntKind.u64 (Int.fdiv n (2 ^ min (Int.toNat 63) (IntKind.bits IntKind.i64)))))):Int):Int)=(v)):Cq 203 [int n] (AV.lit (Value.int IntKind.u64 v)):=by
 have e1:=h
 exact CallC.out (callC_of_run _ (uns_w_p1 n) ⟨(by omega),(by omega),trivial⟩) (Sub.int_eq e1)
theorem uns_lt {n:Int} (hn : -9223372036854775808≤n∧n<9223372036854775808):uns n<18446744073709551616:=by
 unfold uns; split<;>omega
theorem uns_eq {n:Int} (hn : -9223372036854775808≤n∧n<9223372036854775808):IntKind.wrap IntKind.u64 (↑(BitVec.toNat (BitVec.ofInt (IntKind.bits IntKind.u64) (IntKind.wrap IntKind.u64 (IntKind.wrap IntKind.u64 n * 2 ^ min (Int.toNat 1) (IntKind.bits IntKind.u64))) ^^^ BitVec.ofInt (IntKind.bits IntKind.u64) (IntKind.wrap IntKind.u64 (Int.fdiv n (2 ^ min (Int.toNat 63) (IntKind.bits IntKind.i64)))))):Int)=(uns n:Int):=by
 have e1:min (Int.toNat 1) (IntKind.bits IntKind.u64)=1:=by decide
 have e2:min (Int.toNat 63) (IntKind.bits IntKind.i64)=63:=by decide
 have e3:(2:Int) ^ 63=9223372036854775808:=by decide
 rw [e1,e2,e3]
 unfold uns
 by_cases h:0≤n
 · rw [if_pos h]
   have f1:Int.fdiv n 9223372036854775808=((0:Nat):Int):=by rw [Int.fdiv_eq_ediv_of_nonneg _ (by decide)]; omega
   have f2:IntKind.wrap IntKind.u64 n=((n.toNat:Nat):Int):=by rw [wrap_u64_int]; omega
   have f3:IntKind.wrap IntKind.u64 (((n.toNat:Nat):Int) * 2 ^ 1)=((2 * n.toNat:Nat):Int):=by rw [wrap_u64_int]; omega
   have f4:IntKind.wrap IntKind.u64 ((0:Nat):Int)=((0:Nat):Int):=by decide
   rw [f1,f2,f3,f4,BitVec.toNat_xor,ofInt_nat,ofInt_nat]
   have f5:(2 * n.toNat) % 2 ^ IntKind.bits IntKind.u64 ^^^ 0 % 2 ^ IntKind.bits IntKind.u64=2 * n.toNat:=by
    show (2 * n.toNat) % 2 ^ 64 ^^^ 0 % 2 ^ 64=_
    rw [Nat.zero_mod,Nat.xor_zero,Nat.mod_eq_of_lt (by omega)]
   rw [f5,wrap64 (by omega)]
 · rw [if_neg h]
   have f1:Int.fdiv n 9223372036854775808 = -1:=by rw [Int.fdiv_eq_ediv_of_nonneg _ (by decide)]; omega
   have f4:IntKind.wrap IntKind.u64 (-1)=((18446744073709551615:Nat):Int):=by decide
   have f3:IntKind.wrap IntKind.u64 (IntKind.wrap IntKind.u64 n * 2 ^ 1)=((18446744073709551614 - 2 * (-(n+1)).toNat:Nat):Int):=by rw [wrap_u64_int,wrap_u64_int]; omega
   rw [f1,f3,f4]
   have f6:BitVec.ofInt 64 ((18446744073709551615:Nat):Int)=BitVec.allOnes 64:=by decide
   show IntKind.wrap IntKind.u64 ((BitVec.ofInt 64 ((18446744073709551614 - 2 * (-(n+1)).toNat:Nat):Int) ^^^ BitVec.ofInt 64 ((18446744073709551615:Nat):Int)).toNat:Int)=_
   rw [f6,BitVec.xor_allOnes,BitVec.toNat_not,ofInt_nat,Nat.mod_eq_of_lt (by omega)]
   have h7:(2:Nat) ^ 64=18446744073709551616:=by decide
   rw [h7,wrap64 (by omega)]
   omega
theorem uns_c (n:Int) (hn : -9223372036854775808≤n∧n<9223372036854775808):Cq 203 [int n] (u64 (uns n)):=uns_w n _ (uns_eq hn)
def preD:Nat→Nat→List UInt8
 | 0,_=>[]
 | f+1,u=>if u<128 then [] else UInt8.ofNat (u % 128+128)::preD f (u / 128)
def lastD:Nat→Nat→Nat
 | 0,u=>u
 | f+1,u=>if u<128 then u else lastD f (u / 128)
def num (u:Nat):List UInt8:=preD 9 u++[UInt8.ofNat (lastD 9 u)]
theorem lastD_lt:∀ (f u:Nat),u<128 * 128 ^ f→lastD f u<128
 | 0,u,h=>by simpa [lastD] using h
 | f+1,u,h=>by
  simp only [lastD]
  split
  · assumption
  · exact lastD_lt f (u / 128) (by rw [Nat.pow_succ] at h; omega)
theorem preD_len:∀ (f u:Nat),(preD f u).length≤f
 | 0,_=>Nat.le_refl _
 | f+1,u=>by
  simp only [preD]
  split
  · simp
  · have:=preD_len f (u / 128); simp; omega
theorem num_len (u:Nat):(num u).length≤10∧1≤(num u).length:=by
 have:=preD_len 9 u
 simp only [num,List.length_append,List.length_cons,List.length_nil]; omega
def nmSt (xs:List (List AV)) (g u:Nat):St:={ env:=slots 20 [(0,.own 0 g 0 xs.length),(1,u64 u)],H:=[.arr g 1 false xs] }
theorem nm_end_p1 (xs:List (List AV)) (g:Nat) (u:Nat):loopExit P G none 1 (loopAt P 202 0) (nmSt xs g u) [Orc.br false] (others 20 [0,1]) 1 =
 some (AEx.exit 0,{ env:=slots 20 [(0,AV.own 0 g 0 (List.length xs)),(1,AV.lit (Value.int IntKind.u64 (↑u:Int)))],H:=[AObj.arr g 1 false xs] },[decide ((↑u:Int)≥(128:Int))=false]):=by kernel_rfl
theorem nm_end (xs:List (List AV)) (g u:Nat) (hu:u<128) (h:True):Rq 1 202 0 (nmSt xs g u) (AEx.exit 0) { env:=slots 20 [(0,AV.own 0 g 0 (List.length xs)),(1,u64 u)],H:=[AObj.arr g 1 false xs] }:=by
 have _:=h
 exact RunL.exit _ _ _ (nm_end_p1 xs g u) ⟨(decide_eq_false (by omega)),trivial⟩
theorem nm_step_p1 (xs:List (List AV)) (g:Nat) (u:Nat):loopStep P G none 1 (loopAt P 202 0) (nmSt xs g u) [Orc.br true] (others 20 [0,1]) 1 =
 some ({ env:=slots 20 [(0,AV.own 0 (g+1) 0 (List.length xs+1)),(1,AV.lit (Value.int IntKind.u64 (Int.fdiv (↑u:Int) (2 ^ min (Int.toNat 7) (IntKind.bits IntKind.u64)))))],H:=[AObj.arr (g+1) 1 false (xs++[[AV.lit (Value.int IntKind.u8 (IntKind.wrap IntKind.u8 (↑(BitVec.toNat (BitVec.ofInt (IntKind.bits IntKind.u8) (IntKind.wrap IntKind.u8 (↑u:Int)) ||| BitVec.ofInt (IntKind.bits IntKind.u8) 128)):Int)))]])] },[decide ((↑u:Int)≥(128:Int))=true,g=g,List.length xs=List.length xs,(List.length xs+1) * 1≤140737488355328,(0:Int)≤(7:Int)]):=by kernel_rfl
theorem nm_step (xs:List (List AV)) (g u:Nat) (hu:¬ u<128) (hl:xs.length≤1000000000) (hids:∀ x∈xs,AV.idsInL [] x=true) (ex:AEx) (s':St) (h:Rq 1 202 0 { env:=slots 20 [(0,AV.own 0 (g+1) 0 (List.length xs+1)),(1,AV.lit (Value.int IntKind.u64 (Int.fdiv (↑u:Int) (2 ^ min (Int.toNat 7) (IntKind.bits IntKind.u64)))))],H:=[AObj.arr (g+1) 1 false (xs++[[AV.lit (Value.int IntKind.u8 (IntKind.wrap IntKind.u8 (↑(BitVec.toNat (BitVec.ofInt (IntKind.bits IntKind.u8) (IntKind.wrap IntKind.u8 (↑u:Int)) ||| BitVec.ofInt (IntKind.bits IntKind.u8) 128)):Int)))]])] } ex s'):Rq 1 202 0 (nmSt xs g u) ex s':=by
 exact RunL.next _ _ _ (nm_step_p1 xs g u) ⟨(decide_eq_true (by omega)),(rfl),(rfl),(by omega),(by omega),trivial⟩ h
theorem nm_w_p1 (xs:List (List AV)) (ys:List (List AV)) (g:Nat) (g':Nat) (u:Nat) (v:Nat):runF P G 202 [AV.own 0 g 0 (List.length xs),u64 u] [AObj.arr g 1 false xs] [Orc.loop [2,3,4,5,6,7,8,9,10,11,12,13,14,15,16,17,18,19] 1 (AEx.exit 0) [AV.own 0 g' 0 (List.length ys),AV.lit (Value.int IntKind.u64 (↑v:Int)),AV.dead,AV.dead,AV.dead,AV.dead,AV.dead,AV.dead,AV.dead,AV.dead,AV.dead,AV.dead,AV.dead,AV.dead,AV.dead,AV.dead,AV.dead,AV.dead,AV.dead,AV.dead] [AObj.arr g' 1 false ys]] =
 some (AOut.ret (AV.own 0 (g'+1) 0 (List.length ys+1)),[AObj.arr (g'+1) 1 false (ys++[[AV.lit (Value.int IntKind.u8 (IntKind.wrap IntKind.u8 (↑v:Int)))]])],[Rq 1 202 0 { env:=slots 20 [(0,AV.own 0 g 0 (List.length xs)),(1,AV.lit (Value.int IntKind.u64 (↑u:Int)))],H:=[AObj.arr g 1 false xs] } (AEx.exit 0) { env:=slots 20 [(0,AV.own 0 g' 0 (List.length ys)),(1,AV.lit (Value.int IntKind.u64 (↑v:Int)))],H:=[AObj.arr g' 1 false ys] },g'=g',List.length ys=List.length ys,(List.length ys+1) * 1≤140737488355328]):=by kernel_rfl
theorem nm_w (xs ys:List (List AV)) (g g' u v:Nat) (hl:ys.length≤1000000000) (hL:Rq 1 202 0 (nmSt xs g u) (.exit 0) { env:=slots 20 [(0,.own 0 g' 0 ys.length),(1,u64 v)],H:=[.arr g' 1 false ys] }) (b:Int) (hb:IntKind.wrap .u8 (v:Int)=b) (h:[AObj.arr (g'+1) 1 false (ys++[[AV.lit (Value.int IntKind.u8 (IntKind.wrap IntKind.u8 (↑v:Int)))]])]=[AObj.arr (g'+1) 1 false (ys++[[AV.lit (Value.int IntKind.u8 b)]])]):CallC P G 202 [AV.own 0 g 0 (List.length xs),u64 u] [AObj.arr g 1 false xs] (AOut.ret (AV.own 0 (g'+1) 0 (List.length ys+1))) [AObj.arr (g'+1) 1 false (ys++[[AV.lit (Value.int IntKind.u8 b)]])]:=by
 have eH:=h
 exact CallC.heap (callC_of_run _ (nm_w_p1 xs ys g g' u v) ⟨(@hL ),(rfl),(rfl),(by omega),trivial⟩) eH
theorem digit_eq (u:Nat):IntKind.wrap IntKind.u8 (↑(BitVec.toNat (BitVec.ofInt (IntKind.bits IntKind.u8) (IntKind.wrap IntKind.u8 (↑u:Int)) ||| BitVec.ofInt (IntKind.bits IntKind.u8) 128)):Int)=((UInt8.ofNat (u % 128+128)).toNat:Int):=by
 have e0:(128:Int)=((128:Nat):Int):=rfl
 rw [wrap_u8 u,e0,BitVec.toNat_or,ofInt_nat,ofInt_nat]
 show IntKind.wrap IntKind.u8 (((u % 256 % 2 ^ 8) ||| (128 % 2 ^ 8):Nat):Int)=_
 have e1:∀ x:Nat,x<256→(x % 2 ^ 8) ||| (128 % 2 ^ 8)=x % 128+128:=fun x hx=>by
  have a1:x % 2 ^ 8=x:=Nat.mod_eq_of_lt hx
  have a2:(128 % 2 ^ 8:Nat)=2 ^ 7 * 1:=rfl
  have a3:2 ^ 7 * 1 ||| x % 128=2 ^ 7 * 1+x % 128:=(Nat.two_pow_add_eq_or_of_lt (show x % 128<2 ^ 7 from Nat.mod_lt _ (by decide)) 1).symm
  rw [a1,a2]
  rcases Nat.lt_or_ge x 128 with h | h
  · have a4:x=x % 128:=(Nat.mod_eq_of_lt h).symm
    rw [a4,Nat.or_comm,a3,Nat.mod_mod]
    omega
  · have a4:x=2 ^ 7 * 1 ||| x % 128:=by rw [a3]; omega
    have a5:x ||| 2 ^ 7 * 1=2 ^ 7 * 1 ||| x % 128:=by
     conv=>lhs; rw [a4]
     rw [Nat.or_comm,← Nat.or_assoc,Nat.or_self]
    rw [a5,a3]
    omega
 have:=e1 (u % 256) (Nat.mod_lt _ (by decide))
 rw [this,show u % 256 % 128=u % 128 by omega,wrap8 (by omega),UInt8.toNat_ofNat']
 congr 1
 exact (Nat.mod_eq_of_lt (by omega)).symm
theorem byte_last {v:Nat} (h:v<128):IntKind.wrap .u8 (v:Int)=((UInt8.ofNat v).toNat:Int):=by
 rw [wrap8 (by omega),UInt8.toNat_ofNat']
 congr 1
 exact (Nat.mod_eq_of_lt (by omega)).symm
theorem shr7 (u:Nat):Int.fdiv (↑u:Int) (2 ^ min (Int.toNat 7) (IntKind.bits IntKind.u64))=((u / 128:Nat):Int):=by
 show Int.fdiv (u:Int) (2 ^ 7)=_
 rw [show (2:Int) ^ 7=128 from by decide,Int.fdiv_eq_ediv_of_nonneg _ (by decide)]
 omega
theorem nm_loop:∀ (f u g:Nat) (xs:List (List AV)),u<128 * 128 ^ f→xs.length+f≤1000000000→(∀ x∈xs,AV.idsInL [] x=true) →
 Rq 1 202 0 (nmSt xs g u) (.exit 0) { env:=slots 20 [(0,.own 0 (g+(preD f u).length) 0 (xs++bys (preD f u)).length),(1,u64 (lastD f u))],H:=[.arr (g+(preD f u).length) 1 false (xs++bys (preD f u))] }
 | 0,u,g,xs,hu,hl,hx=>by
  have e:xs++bys (preD 0 u)=xs:=by simp [preD,bys]
  rw [e]
  exact nm_end xs g u (by simpa using hu) trivial
 | f+1,u,g,xs,hu,hl,hx=>by
  by_cases h:u<128
  · have e:xs++bys (preD (f+1) u)=xs:=by simp [preD,bys,h]
    rw [e]
    simp only [preD,lastD,h,if_true]
    exact nm_end xs g u h trivial
  · refine nm_step xs g u h (by omega) hx _ _ ?_
    have ih:=nm_loop f (u / 128) (g+1) (xs++[byt1 (UInt8.ofNat (u % 128+128))]) (by rw [Nat.pow_succ] at hu; omega) (by simp; omega) (by
     intro x hx'
     rcases List.mem_append.1 hx' with h' | h'
     · exact hx x h'
     · rw [List.mem_singleton.1 h']; rfl)
    simp only [preD,lastD,h,if_false]
    rw [digit_eq,shr7]
    have e2:xs++bys (UInt8.ofNat (u % 128+128)::preD f (u / 128))=(xs++[byt1 (UInt8.ofNat (u % 128+128))])++bys (preD f (u / 128)):=by simp [bys]
    have e3:g+(UInt8.ofNat (u % 128+128)::preD f (u / 128)).length=g+1+(preD f (u / 128)).length:=by simp; omega
    rw [e2,e3]
    unfold nmSt at ih
    rw [show (xs++[byt1 (UInt8.ofNat (u % 128+128))]).length=xs.length+1 by simp] at ih
    exact ih
theorem numeral_c (xs:List (List AV)) (g u:Nat) (hu:u<18446744073709551616) (hl:xs.length≤100000000) (hx:∀ x∈xs,AV.idsInL [] x=true) :
 CallC P G 202 [.own 0 g 0 xs.length,u64 u] [.arr g 1 false xs] (.ret (.own 0 (g+(num u).length) 0 (xs.length+(num u).length))) [.arr (g+(num u).length) 1 false (xs++bys (num u))]:=by
 have hu':u<128 * 128 ^ 9:=by
  have:(128:Nat) * 128 ^ 9=1180591620717411303424:=by decide
  omega
 have hp:=preD_len 9 u
 have:=nm_w xs (xs++bys (preD 9 u)) g (g+(preD 9 u).length) u (lastD 9 u) (by simp [bys_length]; omega) (nm_loop 9 u g xs hu' (by omega) hx) _ (byte_last (lastD_lt 9 u hu')) (by rw [byte_last (lastD_lt 9 u hu')])
 have e1:g+(num u).length=g+(preD 9 u).length+1:=by simp [num]; omega
 have e2:xs++bys (num u)=(xs++bys (preD 9 u))++[byt1 (UInt8.ofNat (lastD 9 u))]:=by simp [num,bys]
 have e3:xs.length+(num u).length=(xs++bys (preD 9 u)).length+1:=by simp [num,bys_length]; omega
 rw [e1,e2,e3]
 exact this
def numN:Nat→Nat→List UInt8
 | 0,u=>[UInt8.ofNat u]
 | f+1,u=>if u<128 then [UInt8.ofNat u] else UInt8.ofNat (u % 128+128)::numN f (u / 128)
theorem numN_eq:∀ (f u:Nat),numN f u=preD f u++[UInt8.ofNat (lastD f u)]
 | 0,u=>rfl
 | f+1,u=>by
  simp only [numN,preD,lastD]
  split
  · rfl
  · rw [numN_eq f (u / 128)]; rfl
end Go.Cdc


namespace Go.Cdc
open Go Go.Am Go.Proofs Go.Seat
def chkE (v:CV):Int:=if wf v=true then (if 16<dp v then 2 else 0) else 1
theorem check_w (v:CV) (d:Nat) (b:Bool) (e:Int) (hv:Cq 200 [val v] (.tup [int (if b=true then (d:Int) else 0),bool b])) (h:((((b)=true)→((((if b=true then (d:Int) else 0) > 16)→2=e)∧((¬(if b=true then (d:Int) else 0) > 16)→0=e)))∧(((b)=false)→1=e))):Cq 170 [val v] (int e):=by
 rcases Bool.eq_false_or_eq_true ((b)) with c1 | c1
 · have h:=h.1 c1
   have hz1:(!b)=false:=(congrArg Bool.not (c1))
   by_cases c2:((if b=true then (d:Int) else 0) > 16)
   · have h:=h.1 c2
     exact callC_out (Sub.int_eq h) [kc [] hv,kf hz1,kt (qT c2)]
   · have h:=h.2 c2
     exact callC_out (Sub.int_eq h) [kc [] hv,kf hz1,kf (qF c2)]
 · have h:=h.2 c1
   exact callC_out (Sub.int_eq h) [kc [] hv,kt (show (!b)=true from (congrArg Bool.not (c1)))]
theorem check_c (v:CV) (hok:Okv v) (hd:dp v≤1000001):Cq 170 [val v] (int (chkE v)):=by
 have hf:=formed_c v hok hd
 unfold FormedC at hf
 refine check_w v (dp v) (wf v) _ hf ⟨fun h=>⟨fun h2=>?_,fun h2=>?_⟩,fun h=>?_⟩
 · rw [if_pos h] at h2; simp only [chkE,h,if_true]; rw [if_pos (by omega)]
 · rw [if_pos h] at h2; simp only [chkE,h,if_true]; rw [if_neg (by omega)]
 · simp [chkE,h]
end Go.Cdc


namespace Go.Cdc
open Go Go.Am Go.Proofs Go.Seat
theorem numeral_n (xs:List (List AV)) (g u n:Nat) (hn:n=xs.length) (hu:u<18446744073709551616) (hl:xs.length≤100000000) (hx:∀ x∈xs,AV.idsInL [] x=true) :
 CallC P G 202 [.own 0 g 0 n,u64 u] [.arr g 1 false xs] (.ret (.own 0 (g+(num u).length) 0 (n+(num u).length))) [.arr (g+(num u).length) 1 false (xs++bys (num u))]:=by
 subst hn; exact numeral_c xs g u hu hl hx
def kinds (i j:Nat):List AObj:=[.box [.lit .nilFunc,.lit (.func (.func 201) #[] #[]),.lit (.func (.func 204) #[] #[]),.fn (.func 205) [] [.ptr j 0]],.box [.ptr i 0]]
theorem nw_w  (h:True):CallC P G 171 [] [] (AOut.ret (AV.ptr 0 0)) (kinds 0 1):=by
 have _:=h
 exact callC_of [kR (1:Int) (4:Int),kR (2:Int) (4:Int),kR (3:Int) (4:Int)]
mutual
def encB:CV→List UInt8
 | .mk k n s l=>if k=1 then 1::num (uns n) else if k=2 then 2::(num s.size++s.data.toList) else 3::(num l.length++encBL l)
def encBL:List CV→List UInt8
 | []=>[]
 | v::l=>encB v++encBL l
end
mutual
def gens:CV→Nat
 | .mk k n s l=>if k=1 then 1+(num (uns n)).length else if k=2 then 2+(num s.size).length else 1+(num l.length).length+gensL l
def gensL:List CV→Nat
 | []=>0
 | v::l=>gens v+gensL l
end
theorem w1_own (a:List UInt8) (g:Nat) (n:Int) (s:ByteArray) (l:List CV) (hn : -9223372036854775808≤n∧n<9223372036854775808) (hu:uns n<18446744073709551616) (hl:a.length≤10000000) (h:(Sub (AV.own 0 (g+1+List.length (num (uns n))) 0 (List.length a+1+List.length (num (uns n)))) (AV.own 0 (g+(1+List.length (num (uns n)))) 0 (List.length (a++1::num (uns n)))))∧([AObj.arr (g+1+List.length (num (uns n))) 1 false (bys a++[[AV.lit (Value.int IntKind.u8 1)]]++bys (num (uns n)))]=[AObj.arr (g+(1+List.length (num (uns n)))) 1 false (bys (a++1::num (uns n)))])):CallC P G 201 [.own 0 g 0 a.length,vmk 1 n s l] [AObj.arr g 1 false (bys a)] (AOut.ret (AV.own 0 (g+(1+List.length (num (uns n)))) 0 (List.length (a++1::num (uns n))))) [AObj.arr (g+(1+List.length (num (uns n)))) 1 false (bys (a++1::num (uns n)))]:=by
 have hz5:∀ (x:List AV),x∈bys a++[[AV.lit (Value.int IntKind.u8 1)]]++bys (num (uns n))→AV.idsInL [] x=true:=(by exact (Am.allm_append (Am.allm_append (bys_ids _) (Am.allm_cons rfl Am.allm_nil)) (bys_ids _)))
 obtain ⟨e1,eH⟩:=h
 exact CallC.heap (CallC.out ((show CallC P G 201 [.own 0 g 0 a.length,vmk 1 n s l] [AObj.arr g 1 false (bys a)] (AOut.ret (AV.own 0 (g+1+List.length (num (uns n))) 0 (List.length a+1+List.length (num (uns n))))) [AObj.arr (g+1+List.length (num (uns n))) 1 false (bys a++[[AV.lit (Value.int IntKind.u8 1)]]++bys (num (uns n)))] from callC_of [kq g,kp (bys_length a).symm,kBd ((List.length a+1) * 1),kc [] (@uns_c (n) (by omega)),kc [0] (@numeral_n (bys a++[[AV.lit (Value.int IntKind.u8 1)]]) (g+1) (uns n) (List.length a+1) (by simp only [List.length_append,List.length_cons,List.length_nil,List.length_map,bys_length,bys_ids,bys_pure,bdata_length,strB_ids,strB_pure]<;>omega) (by omega) (by simp only [List.length_append,List.length_cons,List.length_nil,List.length_map,bys_length,bys_ids,bys_pure,bdata_length,strB_ids,strB_pure]<;>omega) (by exact (Am.allm_append (bys_ids _) (Am.allm_cons rfl Am.allm_nil)))),kp hz5,kp (show ∀ (x:List AV),x∈bys a++[[AV.lit (Value.int IntKind.u8 1)]]→AV.idsInL [] x=true from (by exact (Am.allm_append (bys_ids _) (Am.allm_cons rfl Am.allm_nil)))),kp hz5])) e1) eH
theorem w1_nil (n:Int) (s:ByteArray) (l:List CV) (hn : -9223372036854775808≤n∧n<9223372036854775808) (hu:uns n<18446744073709551616) (h:True):Cq 201 [nilS,vmk 1 n s l] (byt (1::num (uns n))):=by
 have _:=h
 exact callC_of [kne [AV.lit (Value.int IntKind.u8 1)],kBd 1,kc [] (@uns_c (n) (by omega)),kc [1] (@numeral_n ([[AV.lit (Value.int IntKind.u8 1)]]) (0) (uns n) (1) (rfl) (by omega) (by simp only [List.length_append,List.length_cons,List.length_nil,List.length_map,bys_length,bys_ids,bys_pure,bdata_length,strB_ids,strB_pure]<;>omega) (by exact (Am.allm_cons rfl Am.allm_nil))),ko (Orc.frz ([AV.lit (Value.int IntKind.u8 1)]::bys (num (uns n)))),kp (show ∀ (x:List AV),x∈[[AV.lit (Value.int IntKind.u8 1)]]++bys (num (uns n))→AV.idsInL [] x=true from (by exact (Am.allm_append (Am.allm_cons rfl Am.allm_nil) (bys_ids _)))),kp (show ∀ (x:List AV),x∈[[AV.lit (Value.int IntKind.u8 1)]]→AV.idsInL [] x=true from (by exact (Am.allm_cons rfl Am.allm_nil))),kp (show 0+List.length (num (uns n))=0+List.length (num (uns n)) from (rfl)),kTk (1+List.length (num (uns n))) ([AV.lit (Value.int IntKind.u8 1)]::bys (num (uns n))) (by simp only [List.length_append,List.length_cons,List.length_nil,List.length_map,bys_length,bys_ids,bys_pure,bdata_length,strB_ids,strB_pure]<;>omega),kp (show List.length ([AV.lit (Value.int IntKind.u8 1)]::bys (num (uns n)))=1+List.length (num (uns n)) from (by simp only [List.length_append,List.length_cons,List.length_nil,List.length_map,bys_length,bys_ids,bys_pure,bdata_length,strB_ids,strB_pure]<;>omega)),kp (show ∀ (c:List AV),c∈[AV.lit (Value.int IntKind.u8 1)]::bys (num (uns n))→List.all c AV.pureB=true from (by exact (Am.allm_cons rfl (bys_pure _))))]
theorem w2_own (a:List UInt8) (g:Nat) (n:Int) (s:ByteArray) (l:List CV) (hs:s.size≤10000000) (hl:a.length≤10000000) (h:(((List.length a+1+List.length (num (ByteArray.size s % 18446744073709551616))+List.length (List.map (fun (c:UInt8)=>[AV.lit (Value.int IntKind.u8 (↑(UInt8.toNat c):Int))]) (Array.toList (ByteArray.data s)))) * 1≤140737488355328)∧(Sub (AV.own 0 (g+1+List.length (num (ByteArray.size s % 18446744073709551616))+1) 0 (List.length a+1+List.length (num (ByteArray.size s % 18446744073709551616))+List.length (List.map (fun (c:UInt8)=>[AV.lit (Value.int IntKind.u8 (↑(UInt8.toNat c):Int))]) (Array.toList (ByteArray.data s))))) (AV.own 0 (g+(2+List.length (num (ByteArray.size s)))) 0 (List.length (a++2::(num (ByteArray.size s)++Array.toList (ByteArray.data s))))))∧([AObj.arr (g+1+List.length (num (ByteArray.size s % 18446744073709551616))+1) 1 false (bys a++[[AV.lit (Value.int IntKind.u8 2)]]++bys (num (ByteArray.size s % 18446744073709551616))++List.map (fun (c:UInt8)=>[AV.lit (Value.int IntKind.u8 (↑(UInt8.toNat c):Int))]) (Array.toList (ByteArray.data s)))]=[AObj.arr (g+(2+List.length (num (ByteArray.size s)))) 1 false (bys (a++2::(num (ByteArray.size s)++Array.toList (ByteArray.data s))))]))):CallC P G 204 [.own 0 g 0 a.length,vmk 2 n s l] [AObj.arr g 1 false (bys a)] (AOut.ret (AV.own 0 (g+(2+List.length (num (ByteArray.size s)))) 0 (List.length (a++2::(num (ByteArray.size s)++Array.toList (ByteArray.data s)))))) [AObj.arr (g+(2+List.length (num (ByteArray.size s)))) 1 false (bys (a++2::(num (ByteArray.size s)++Array.toList (ByteArray.data s))))]:=by
 obtain ⟨o1,h⟩:=h
 obtain ⟨e1,eH⟩:=h
 exact CallC.heap (CallC.out ((show CallC P G 204 [.own 0 g 0 a.length,vmk 2 n s l] [AObj.arr g 1 false (bys a)] (AOut.ret (AV.own 0 (g+1+List.length (num (ByteArray.size s % 18446744073709551616))+1) 0 (List.length a+1+List.length (num (ByteArray.size s % 18446744073709551616))+List.length (List.map (fun (c:UInt8)=>[AV.lit (Value.int IntKind.u8 (↑(UInt8.toNat c):Int))]) (Array.toList (ByteArray.data s)))))) [AObj.arr (g+1+List.length (num (ByteArray.size s % 18446744073709551616))+1) 1 false (bys a++[[AV.lit (Value.int IntKind.u8 2)]]++bys (num (ByteArray.size s % 18446744073709551616))++List.map (fun (c:UInt8)=>[AV.lit (Value.int IntKind.u8 (↑(UInt8.toNat c):Int))]) (Array.toList (ByteArray.data s)))] from callC_of [kq g,kp (bys_length a).symm,kBd ((List.length a+1) * 1),kc [0] (@numeral_n (bys a++[[AV.lit (Value.int IntKind.u8 2)]]) (g+1) (ByteArray.size s % 18446744073709551616) (List.length a+1) (by simp only [List.length_append,List.length_cons,List.length_nil,List.length_map,bys_length,bys_ids,bys_pure,bdata_length,strB_ids,strB_pure]<;>omega) (by omega) (by simp only [List.length_append,List.length_cons,List.length_nil,List.length_map,bys_length,bys_ids,bys_pure,bdata_length,strB_ids,strB_pure]<;>omega) (by exact (Am.allm_append (bys_ids _) (Am.allm_cons rfl Am.allm_nil)))),kp (show ∀ (x:List AV),x∈bys a++[[AV.lit (Value.int IntKind.u8 2)]]++bys (num (ByteArray.size s % 18446744073709551616))→AV.idsInL [] x=true from (by exact (Am.allm_append (Am.allm_append (bys_ids _) (Am.allm_cons rfl Am.allm_nil)) (bys_ids _)))),kp (show ∀ (x:List AV),x∈bys a++[[AV.lit (Value.int IntKind.u8 2)]]→AV.idsInL [] x=true from (by exact (Am.allm_append (bys_ids _) (Am.allm_cons rfl Am.allm_nil)))),kp (show g+1+List.length (num (ByteArray.size s % 18446744073709551616))=g+1+List.length (num (ByteArray.size s % 18446744073709551616)) from (rfl)),kp (show List.length a+1+List.length (num (ByteArray.size s % 18446744073709551616))=List.length (bys a++[[AV.lit (Value.int IntKind.u8 2)]]++bys (num (ByteArray.size s % 18446744073709551616))) from (by simp only [List.length_append,List.length_cons,List.length_nil,List.length_map,bys_length,bys_ids,bys_pure,bdata_length,strB_ids,strB_pure]<;>omega)),kp o1,kp (show ∀ (x:List AV),x∈bys a++[[AV.lit (Value.int IntKind.u8 2)]]++bys (num (ByteArray.size s % 18446744073709551616))++List.map (fun (c:UInt8)=>[AV.lit (Value.int IntKind.u8 (↑(UInt8.toNat c):Int))]) (Array.toList (ByteArray.data s))→AV.idsInL [] x=true from (by exact (Am.allm_append (Am.allm_append (Am.allm_append (bys_ids _) (Am.allm_cons rfl Am.allm_nil)) (bys_ids _)) (strB_ids _))))])) e1) eH
theorem w2_nil (n:Int) (s:ByteArray) (l:List CV) (hs:s.size≤10000000) (h:(((1+List.length (num (ByteArray.size s % 18446744073709551616))+List.length (List.map (fun (c:UInt8)=>[AV.lit (Value.int IntKind.u8 (↑(UInt8.toNat c):Int))]) (Array.toList (ByteArray.data s)))) * 1≤140737488355328)∧([AV.lit (Value.int IntKind.u8 2)]::bys (num (ByteArray.size s % 18446744073709551616))++List.map (fun (c:UInt8)=>[AV.lit (Value.int IntKind.u8 (↑(UInt8.toNat c):Int))]) (Array.toList (ByteArray.data s)))=(bys (2::(num (ByteArray.size s)++Array.toList (ByteArray.data s)))))):Cq 204 [nilS,vmk 2 n s l] (byt (2::(num (ByteArray.size s)++Array.toList (ByteArray.data s)))):=by
 obtain ⟨o1,h⟩:=h
 have e1:=h
 exact CallC.out ((show Cq 204 [nilS,vmk 2 n s l] (.sl 1 false ([.lit (Value.int IntKind.u8 2)]::bys (num (ByteArray.size s % 18446744073709551616))++List.map (fun (c:UInt8)=>[.lit (Value.int IntKind.u8 (↑(UInt8.toNat c):Int))]) (Array.toList (ByteArray.data s)))) from callC_of [kne [AV.lit (Value.int IntKind.u8 2)],kBd 1,kc [1] (@numeral_n ([[AV.lit (Value.int IntKind.u8 2)]]) (0) (ByteArray.size s % 18446744073709551616) (1) (rfl) (by omega) (by simp only [List.length_append,List.length_cons,List.length_nil,List.length_map,bys_length,bys_ids,bys_pure,bdata_length,strB_ids,strB_pure]<;>omega) (by exact (Am.allm_cons rfl Am.allm_nil))),ko (Orc.frz ([AV.lit (Value.int IntKind.u8 2)]::bys (num (ByteArray.size s % 18446744073709551616))++List.map (fun (c:UInt8)=>[AV.lit (Value.int IntKind.u8 (↑(UInt8.toNat c):Int))]) (Array.toList (ByteArray.data s)))),kp (show ∀ (x:List AV),x∈[[AV.lit (Value.int IntKind.u8 2)]]++bys (num (ByteArray.size s % 18446744073709551616))→AV.idsInL [] x=true from (by exact (Am.allm_append (Am.allm_cons rfl Am.allm_nil) (bys_ids _)))),kp (show ∀ (x:List AV),x∈[[AV.lit (Value.int IntKind.u8 2)]]→AV.idsInL [] x=true from (by exact (Am.allm_cons rfl Am.allm_nil))),kp (show 0+List.length (num (ByteArray.size s % 18446744073709551616))=0+List.length (num (ByteArray.size s % 18446744073709551616)) from (rfl)),kp (show 1+List.length (num (ByteArray.size s % 18446744073709551616))=List.length ([AV.lit (Value.int IntKind.u8 2)]::bys (num (ByteArray.size s % 18446744073709551616))) from (by simp only [List.length_append,List.length_cons,List.length_nil,List.length_map,bys_length,bys_ids,bys_pure,bdata_length,strB_ids,strB_pure]<;>omega)),kp o1,kp (show 0+List.length (num (ByteArray.size s % 18446744073709551616))+1=0+List.length (num (ByteArray.size s % 18446744073709551616))+1 from (rfl)),kTk (1+List.length (num (ByteArray.size s % 18446744073709551616))+List.length (List.map (fun (c:UInt8)=>[AV.lit (Value.int IntKind.u8 (↑(UInt8.toNat c):Int))]) (Array.toList (ByteArray.data s)))) ([AV.lit (Value.int IntKind.u8 2)]::bys (num (ByteArray.size s % 18446744073709551616))++List.map (fun (c:UInt8)=>[AV.lit (Value.int IntKind.u8 (↑(UInt8.toNat c):Int))]) (Array.toList (ByteArray.data s))) (by simp only [List.length_append,List.length_cons,List.length_nil,List.length_map,bys_length,bys_ids,bys_pure,bdata_length,strB_ids,strB_pure]<;>omega),kp (show List.length ([AV.lit (Value.int IntKind.u8 2)]::bys (num (ByteArray.size s % 18446744073709551616))++List.map (fun (c:UInt8)=>[AV.lit (Value.int IntKind.u8 (↑(UInt8.toNat c):Int))]) (Array.toList (ByteArray.data s)))=1+List.length (num (ByteArray.size s % 18446744073709551616))+List.length (List.map (fun (c:UInt8)=>[AV.lit (Value.int IntKind.u8 (↑(UInt8.toNat c):Int))]) (Array.toList (ByteArray.data s))) from (by simp only [List.length_append,List.length_cons,List.length_nil,List.length_map,bys_length,bys_ids,bys_pure,bdata_length,strB_ids,strB_pure]<;>omega)),kp (show ∀ (c:List AV),c∈[AV.lit (Value.int IntKind.u8 2)]::bys (num (ByteArray.size s % 18446744073709551616))++List.map (fun (c:UInt8)=>[AV.lit (Value.int IntKind.u8 (↑(UInt8.toNat c):Int))]) (Array.toList (ByteArray.data s))→List.all c AV.pureB=true from (by exact (Am.allm_append (Am.allm_cons rfl (bys_pure _)) (strB_pure _))))])) (Sub.list_eq e1)
def wrSt (xs:List (List AV)) (N g:Nat) (n0:Int) (s0:ByteArray) (l:List CV) (i:Nat):St:={ env:=slots 35 [(0,.own 0 g 0 N),(2,.ptr 2 0),(17,.sl 4 false (encL l)),(18,int l.length),(19,int i)],H:=.arr g 1 false xs::(kinds 1 2++[.box [int 3,int n0,str s0,.sl 4 false (encL l)]]) }
theorem wr_end (xs:List (List AV)) (N g:Nat) (n0:Int) (s0:ByteArray) (l:List CV) (i:Nat) (hi:l.length≤i) (h:True):Rq 3 205 0 (wrSt xs N g n0 s0 l i) (AEx.exit 0) (St.mk (slots 35 [(0,AV.own 0 g 0 N)]) (AObj.arr g 1 false xs::(kinds 1 2++[AObj.box [int 3,int n0,str s0,AV.sl 4 false (encL l)]])) []):=by
 have _:=h
 exact loop_exit [kj ((i:Int)<l.length)] (others 35 [0]) 4
theorem wr_step1 (xs ys:List (List AV)) (N M g g':Nat) (n0:Int) (s0:ByteArray) (l:List CV) (i:Nat) (n:Int) (s:ByteArray) (m:List CV) (hi:i<l.length) (hl:l.length≤9223372036854775807) (hx:l[i]? = some (.mk 1 n s m)) (hv:CallC P G 201 [.own 0 g 0 N,vmk 1 n s m] [.arr g 1 false xs] (.ret (.own 0 g' 0 M)) [.arr g' 1 false ys]) (ex:AEx) (s':St) (h:(((0:Int)≤CV.k (CV.mk 1 n s m)∧CV.k (CV.mk 1 n s m)<4)∧((∀ (x:List AV),x∈ys→AV.idsInL [] x=true)∧((∀ (x:List AV),x∈xs→AV.idsInL [] x=true)∧Rq 3 205 0 (sM 35 [(0,.own 0 g' 0 M),(2,.ptr 2 0),(17,.sl 4 false (encL l)),(18,int ↑l.length),(19,int ↑(i+1))] [.arr g' 1 false ys,.box [.lit Value.nilFunc,fnA 201,fnA 204,.fn (Fn.func 205) [] [.ptr 2 0]],.box [.ptr 1 0],.box [int 3,int n0,str s0,.sl 4 false (encL l)]]) ex s')))):Rq 3 205 0 (wrSt xs N g n0 s0 l i) ex s':=by
 obtain ⟨o2,h⟩:=h
 obtain ⟨o3,h⟩:=h
 obtain ⟨o4,h⟩:=h
 exact loop_next [ki ((i:Int)<l.length),ko (Orc.elem (enc (CV.mk 1 n s m))),kp (show (0:Int)≤(i:Int)∧(encL l)[Int.toNat (i:Int)]? = some (enc (CV.mk 1 n s m)) from (by rw [encL_map]; exact el_nat hx)),kp o2,kc [0] hv,kp o3,kp o4,kW 33 (i+1) ↑(i+1),kp (show ∀ (x:List AV),x∈ys→AV.idsInL [] x=true from (by omega))] (others 35 [0,2,17,18,19]) 4 h
theorem wr_step2 (xs ys:List (List AV)) (N M g g':Nat) (n0:Int) (s0:ByteArray) (l:List CV) (i:Nat) (n:Int) (s:ByteArray) (m:List CV) (hi:i<l.length) (hl:l.length≤9223372036854775807) (hx:l[i]? = some (.mk 2 n s m)) (hv:CallC P G 204 [.own 0 g 0 N,vmk 2 n s m] [.arr g 1 false xs] (.ret (.own 0 g' 0 M)) [.arr g' 1 false ys]) (ex:AEx) (s':St) (h:(((0:Int)≤CV.k (CV.mk 2 n s m)∧CV.k (CV.mk 2 n s m)<4)∧((∀ (x:List AV),x∈ys→AV.idsInL [] x=true)∧((∀ (x:List AV),x∈xs→AV.idsInL [] x=true)∧Rq 3 205 0 (sM 35 [(0,.own 0 g' 0 M),(2,.ptr 2 0),(17,.sl 4 false (encL l)),(18,int ↑l.length),(19,int ↑(i+1))] [.arr g' 1 false ys,.box [.lit Value.nilFunc,fnA 201,fnA 204,.fn (Fn.func 205) [] [.ptr 2 0]],.box [.ptr 1 0],.box [int 3,int n0,str s0,.sl 4 false (encL l)]]) ex s')))):Rq 3 205 0 (wrSt xs N g n0 s0 l i) ex s':=by
 obtain ⟨o2,h⟩:=h
 obtain ⟨o3,h⟩:=h
 obtain ⟨o4,h⟩:=h
 exact loop_next [ki ((i:Int)<l.length),ko (Orc.elem (enc (CV.mk 2 n s m))),kp (show (0:Int)≤(i:Int)∧(encL l)[Int.toNat (i:Int)]? = some (enc (CV.mk 2 n s m)) from (by rw [encL_map]; exact el_nat hx)),kp o2,kc [0] hv,kp o3,kp o4,kW 33 (i+1) ↑(i+1),kp (show ∀ (x:List AV),x∈ys→AV.idsInL [] x=true from (by omega))] (others 35 [0,2,17,18,19]) 4 h
theorem wr_step3 (xs ys:List (List AV)) (N M g g':Nat) (n0:Int) (s0:ByteArray) (l:List CV) (i:Nat) (n:Int) (s:ByteArray) (m:List CV) (hi:i<l.length) (hl:l.length≤9223372036854775807) (hx:l[i]? = some (.mk 3 n s m)) (hv:CallC P G 205 [.own 0 g 0 N,vmk 3 n s m,.ptr 2 0] (.arr g 1 false xs::kinds 1 2) (.ret (.own 0 g' 0 M)) (.arr g' 1 false ys::kinds 1 2)) (ex:AEx) (s':St) (h:(((0:Int)≤CV.k (CV.mk 3 n s m)∧CV.k (CV.mk 3 n s m)<4)∧((∀ (x:List AV),x∈ys→AV.idsInL [] x=true)∧((∀ (x:List AV),x∈xs→AV.idsInL [] x=true)∧Rq 3 205 0 (sM 35 [(0,.own 0 g' 0 M),(2,.ptr 2 0),(17,.sl 4 false (encL l)),(18,int ↑l.length),(19,int ↑(i+1))] [.arr g' 1 false ys,.box [.lit Value.nilFunc,fnA 201,fnA 204,.fn (Fn.func 205) [] [.ptr 2 0]],.box [.ptr 1 0],.box [int 3,int n0,str s0,.sl 4 false (encL l)]]) ex s')))):Rq 3 205 0 (wrSt xs N g n0 s0 l i) ex s':=by
 obtain ⟨o2,h⟩:=h
 obtain ⟨o3,h⟩:=h
 obtain ⟨o4,h⟩:=h
 exact loop_next [ki ((i:Int)<l.length),ko (Orc.elem (enc (CV.mk 3 n s m))),kp (show (0:Int)≤(i:Int)∧(encL l)[Int.toNat (i:Int)]? = some (enc (CV.mk 3 n s m)) from (by rw [encL_map]; exact el_nat hx)),kp o2,kc [0,1,2] hv,kp o3,kp o4,kW 33 (i+1) ↑(i+1),kp (show ∀ (x:List AV),x∈ys→AV.idsInL [] x=true from (by omega))] (others 35 [0,2,17,18,19]) 4 h
theorem w3_own (a b:List UInt8) (g g':Nat) (n:Int) (s:ByteArray) (l:List CV) (hs:l.length≤10000000) (hl:a.length≤10000000) (hL:Rq 3 205 0 (wrSt (bys a++[[.lit (.int .u8 3)]]++bys (num (l.length % 18446744073709551616))) (a.length+1+(num (l.length % 18446744073709551616)).length) (g+1+(num (l.length % 18446744073709551616)).length) n s l 0) (.exit 0) { env:=slots 35 [(0,.own 0 g' 0 b.length)],H:=.arr g' 1 false (bys b)::(kinds 1 2++[.box [int 3,int n,str s,.sl 4 false (encL l)]]) }) (h:True):CallC P G 205 [.own 0 g 0 a.length,vmk 3 n s l,.ptr 2 0] (AObj.arr g 1 false (bys a)::kinds 1 2) (AOut.ret (AV.own 0 g' 0 b.length)) (AObj.arr g' 1 false (bys b)::kinds 1 2):=by
 have hz3:=lenS (encL_length l)
 have _:=h
 exact callC_of [kq g,kp (bys_length a).symm,kBd ((List.length a+1) * 1),kv 13 hz3,kc [0] (@numeral_n (bys a++[[AV.lit (Value.int IntKind.u8 3)]]) (g+1) (List.length l % 18446744073709551616) (List.length a+1) (by simp only [List.length_append,List.length_cons,List.length_nil,List.length_map,bys_length,bys_ids,bys_pure,encL_length]<;>omega) (by omega) (by simp only [List.length_append,List.length_cons,List.length_nil,List.length_map,bys_length,bys_ids,bys_pure,encL_length]<;>omega) (by exact (Am.allm_append (bys_ids _) (Am.allm_cons rfl Am.allm_nil)))),kp (show ∀ (x:List AV),x∈bys a++[[AV.lit (Value.int IntKind.u8 3)]]++bys (num (List.length l % 18446744073709551616))→AV.idsInL [] x=true from (by exact (Am.allm_append (Am.allm_append (bys_ids _) (Am.allm_cons rfl Am.allm_nil)) (bys_ids _)))),kp (show ∀ (x:List AV),x∈bys a++[[AV.lit (Value.int IntKind.u8 3)]]→AV.idsInL [] x=true from (by exact (Am.allm_append (bys_ids _) (Am.allm_cons rfl Am.allm_nil)))),kv 18 hz3,kl (rG [(1,1),(3,14),(20,15)]) 4 hL,kp (bys_ids b)]
def wzSt (xs:List (List AV)) (N g:Nat) (n0:Int) (s0:ByteArray) (l:List CV) (i:Nat):St:={ env:=slots 35 [(0,.own 3 g 0 N),(2,.ptr 1 0),(17,.sl 4 false (encL l)),(18,int l.length),(19,int i)],H:=kinds 0 1++[.box [int 3,int n0,str s0,.sl 4 false (encL l)],.arr g 1 false xs] }
theorem wz_end (xs:List (List AV)) (N g:Nat) (n0:Int) (s0:ByteArray) (l:List CV) (i:Nat) (hi:l.length≤i) (h:True):Rq 2 205 0 (wzSt xs N g n0 s0 l i) (AEx.exit 0) (St.mk (slots 35 [(0,AV.own 3 g 0 N)]) (kinds 0 1++[AObj.box [int 3,int n0,str s0,AV.sl 4 false (encL l)],AObj.arr g 1 false xs]) []):=by
 have _:=h
 exact loop_exit [kj ((i:Int)<l.length)] (others 35 [0]) 4
theorem wz_step1 (xs ys:List (List AV)) (N M g g':Nat) (n0:Int) (s0:ByteArray) (l:List CV) (i:Nat) (n:Int) (s:ByteArray) (m:List CV) (hi:i<l.length) (hl:l.length≤9223372036854775807) (hx:l[i]? = some (.mk 1 n s m)) (hv:CallC P G 201 [.own 0 g 0 N,vmk 1 n s m] [.arr g 1 false xs] (.ret (.own 0 g' 0 M)) [.arr g' 1 false ys]) (ex:AEx) (s':St) (h:(((0:Int)≤CV.k (CV.mk 1 n s m)∧CV.k (CV.mk 1 n s m)<4)∧((∀ (x:List AV),x∈ys→AV.idsInL [] x=true)∧((∀ (x:List AV),x∈xs→AV.idsInL [] x=true)∧Rq 2 205 0 (sM 35 [(0,.own 3 g' 0 M),(2,.ptr 1 0),(17,.sl 4 false (encL l)),(18,int ↑l.length),(19,int ↑(i+1))] [.box [.lit Value.nilFunc,fnA 201,fnA 204,.fn (Fn.func 205) [] [.ptr 1 0]],.box [.ptr 0 0],.box [int 3,int n0,str s0,.sl 4 false (encL l)],.arr g' 1 false ys]) ex s')))):Rq 2 205 0 (wzSt xs N g n0 s0 l i) ex s':=by
 obtain ⟨o2,h⟩:=h
 obtain ⟨o3,h⟩:=h
 obtain ⟨o4,h⟩:=h
 exact loop_next [ki ((i:Int)<l.length),ko (Orc.elem (enc (CV.mk 1 n s m))),kp (show (0:Int)≤(i:Int)∧(encL l)[Int.toNat (i:Int)]? = some (enc (CV.mk 1 n s m)) from (by rw [encL_map]; exact el_nat hx)),kp o2,kc [3] hv,kp o3,kp o4,kW 33 (i+1) ↑(i+1),kp (show ∀ (x:List AV),x∈ys→AV.idsInL [] x=true from (by omega))] (others 35 [0,2,17,18,19]) 4 h
theorem wz_step2 (xs ys:List (List AV)) (N M g g':Nat) (n0:Int) (s0:ByteArray) (l:List CV) (i:Nat) (n:Int) (s:ByteArray) (m:List CV) (hi:i<l.length) (hl:l.length≤9223372036854775807) (hx:l[i]? = some (.mk 2 n s m)) (hv:CallC P G 204 [.own 0 g 0 N,vmk 2 n s m] [.arr g 1 false xs] (.ret (.own 0 g' 0 M)) [.arr g' 1 false ys]) (ex:AEx) (s':St) (h:(((0:Int)≤CV.k (CV.mk 2 n s m)∧CV.k (CV.mk 2 n s m)<4)∧((∀ (x:List AV),x∈ys→AV.idsInL [] x=true)∧((∀ (x:List AV),x∈xs→AV.idsInL [] x=true)∧Rq 2 205 0 (sM 35 [(0,.own 3 g' 0 M),(2,.ptr 1 0),(17,.sl 4 false (encL l)),(18,int ↑l.length),(19,int ↑(i+1))] [.box [.lit Value.nilFunc,fnA 201,fnA 204,.fn (Fn.func 205) [] [.ptr 1 0]],.box [.ptr 0 0],.box [int 3,int n0,str s0,.sl 4 false (encL l)],.arr g' 1 false ys]) ex s')))):Rq 2 205 0 (wzSt xs N g n0 s0 l i) ex s':=by
 obtain ⟨o2,h⟩:=h
 obtain ⟨o3,h⟩:=h
 obtain ⟨o4,h⟩:=h
 exact loop_next [ki ((i:Int)<l.length),ko (Orc.elem (enc (CV.mk 2 n s m))),kp (show (0:Int)≤(i:Int)∧(encL l)[Int.toNat (i:Int)]? = some (enc (CV.mk 2 n s m)) from (by rw [encL_map]; exact el_nat hx)),kp o2,kc [3] hv,kp o3,kp o4,kW 33 (i+1) ↑(i+1),kp (show ∀ (x:List AV),x∈ys→AV.idsInL [] x=true from (by omega))] (others 35 [0,2,17,18,19]) 4 h
theorem wz_step3 (xs ys:List (List AV)) (N M g g':Nat) (n0:Int) (s0:ByteArray) (l:List CV) (i:Nat) (n:Int) (s:ByteArray) (m:List CV) (hi:i<l.length) (hl:l.length≤9223372036854775807) (hx:l[i]? = some (.mk 3 n s m)) (hv:CallC P G 205 [.own 0 g 0 N,vmk 3 n s m,.ptr 2 0] (.arr g 1 false xs::kinds 1 2) (.ret (.own 0 g' 0 M)) (.arr g' 1 false ys::kinds 1 2)) (ex:AEx) (s':St) (h:(((0:Int)≤CV.k (CV.mk 3 n s m)∧CV.k (CV.mk 3 n s m)<4)∧((∀ (x:List AV),x∈ys→AV.idsInL [] x=true)∧((∀ (x:List AV),x∈xs→AV.idsInL [] x=true)∧Rq 2 205 0 (sM 35 [(0,.own 3 g' 0 M),(2,.ptr 1 0),(17,.sl 4 false (encL l)),(18,int ↑l.length),(19,int ↑(i+1))] [.box [.lit Value.nilFunc,fnA 201,fnA 204,.fn (Fn.func 205) [] [.ptr 1 0]],.box [.ptr 0 0],.box [int 3,int n0,str s0,.sl 4 false (encL l)],.arr g' 1 false ys]) ex s')))):Rq 2 205 0 (wzSt xs N g n0 s0 l i) ex s':=by
 obtain ⟨o2,h⟩:=h
 obtain ⟨o3,h⟩:=h
 obtain ⟨o4,h⟩:=h
 exact loop_next [ki ((i:Int)<l.length),ko (Orc.elem (enc (CV.mk 3 n s m))),kp (show (0:Int)≤(i:Int)∧(encL l)[Int.toNat (i:Int)]? = some (enc (CV.mk 3 n s m)) from (by rw [encL_map]; exact el_nat hx)),kp o2,kc [3,0,1] hv,kp o3,kp o4,kW 33 (i+1) ↑(i+1),kp (show ∀ (x:List AV),x∈ys→AV.idsInL [] x=true from (by omega))] (others 35 [0,2,17,18,19]) 4 h
theorem w3_nil (b:List UInt8) (g':Nat) (n:Int) (s:ByteArray) (l:List CV) (hs:l.length≤10000000) (hL:Rq 2 205 0 (wzSt ([.lit (.int .u8 3)]::bys (num (l.length % 18446744073709551616))) (1+(num (l.length % 18446744073709551616)).length) (0+(num (l.length % 18446744073709551616)).length) n s l 0) (.exit 0) { env:=slots 35 [(0,.own 3 g' 0 b.length)],H:=kinds 0 1++[.box [int 3,int n,str s,.sl 4 false (encL l)],.arr g' 1 false (bys b)] }) (h:True):CallC P G 205 [nilS,vmk 3 n s l,.ptr 1 0] (kinds 0 1) (AOut.ret (byt b)) (kinds 0 1):=by
 have hz2:=lenS (encL_length l)
 have _:=h
 exact callC_of [kne [AV.lit (Value.int IntKind.u8 3)],kBd 1,kv 13 hz2,kc [3] (@numeral_n ([[AV.lit (Value.int IntKind.u8 3)]]) (0) (List.length l % 18446744073709551616) (1) (rfl) (by omega) (by simp only [List.length_append,List.length_cons,List.length_nil,List.length_map,bys_length,bys_ids,bys_pure,encL_length]<;>omega) (by exact (Am.allm_cons rfl Am.allm_nil))),kp (show ∀ (x:List AV),x∈[[AV.lit (Value.int IntKind.u8 3)]]++bys (num (List.length l % 18446744073709551616))→AV.idsInL [] x=true from (by exact (Am.allm_append (Am.allm_cons rfl Am.allm_nil) (bys_ids _)))),kp (show ∀ (x:List AV),x∈[[AV.lit (Value.int IntKind.u8 3)]]→AV.idsInL [] x=true from (by exact (Am.allm_cons rfl Am.allm_nil))),kv 18 hz2,kl (rG [(1,1),(3,14),(20,15)]) 4 hL,ko (Orc.frz (bys b)),kp (show g'=g' from (rfl)),kTk b.length (bys b) (by simp only [List.length_append,List.length_cons,List.length_nil,List.length_map,bys_length,bys_ids,bys_pure,encL_length]<;>omega),kp (bys_length b),kp (bys_pure b)]
theorem enc_1 (n:Int) (s:ByteArray) (l:List CV) (b:List UInt8) (hv:Cq 170 [vmk 1 n s l] (int 0)) (hw:Cq 201 [nilS,vmk 1 n s l] (byt b)) (h:True):Cq 127 [vmk 1 n s l] (.tup [byt b,int 0]):=by
 have _:=h
 exact callC_of [kc [] hv,kY,kc [] (@nw_w (trivial)),kR (1:Int) (4:Int),kc [] hw]
theorem enc_2 (n:Int) (s:ByteArray) (l:List CV) (b:List UInt8) (hv:Cq 170 [vmk 2 n s l] (int 0)) (hw:Cq 204 [nilS,vmk 2 n s l] (byt b)) (h:True):Cq 127 [vmk 2 n s l] (.tup [byt b,int 0]):=by
 have _:=h
 exact callC_of [kc [] hv,kY,kc [] (@nw_w (trivial)),kR (2:Int) (4:Int),kc [] hw]
theorem enc_3 (n:Int) (s:ByteArray) (l:List CV) (b:List UInt8) (hv:Cq 170 [vmk 3 n s l] (int 0)) (hw:CallC P G 205 [nilS,vmk 3 n s l,.ptr 1 0] (kinds 0 1) (.ret (byt b)) (kinds 0 1)) (h:True):Cq 127 [vmk 3 n s l] (.tup [byt b,int 0]):=by
 have _:=h
 exact callC_of [kc [] hv,kY,kc [] (@nw_w (trivial)),kR (3:Int) (4:Int),kc [1,2] hw]
end Go.Cdc


namespace Go.Cdc
open Go Go.Am Go.Proofs Go.Seat
theorem encBL_cons (v:CV) (l:List CV):encBL (v::l)=encB v++encBL l:=rfl
theorem encB_pos (v:CV):1≤(encB v).length:=by
 cases v; simp only [encB]; split
 · simp
 · split<;>simp
theorem encBL_len:∀ l:List CV,l.length≤(encBL l).length
 | []=>by simp [encBL]
 | v::l=>by
  have:=encBL_len l; have:=encB_pos v
  simp only [encBL,List.length_append,List.length_cons]; omega
theorem own_eq {i g g' n n':Nat} (hg:g=g') (hn:n=n'):Sub (.own i g 0 n) (.own i g' 0 n'):=.of_eq (by rw [hg,hn])
theorem arr_eq {g g':Nat} {xs ys:List (List AV)} (hg:g=g') (hn:xs=ys):[AObj.arr g 1 false xs]=[AObj.arr g' 1 false ys]:=by rw [hg,hn]
theorem bys_cons (c:UInt8) (l:List UInt8):bys (c::l)=[AV.lit (.int .u8 c.toNat)]::bys l:=rfl
theorem bys_app (a b:List UInt8):bys (a++b)=bys a++bys b:=(bys_append a b).symm
def WrC (v:CV):Prop:=∀ (a:List UInt8) (g:Nat),a.length+(encB v).length≤10000000 →
 (v.k=1→CallC P G 201 [.own 0 g 0 a.length,val v] [.arr g 1 false (bys a)] (.ret (.own 0 (g+gens v) 0 (a++encB v).length)) [.arr (g+gens v) 1 false (bys (a++encB v))]) ∧
 (v.k=2→CallC P G 204 [.own 0 g 0 a.length,val v] [.arr g 1 false (bys a)] (.ret (.own 0 (g+gens v) 0 (a++encB v).length)) [.arr (g+gens v) 1 false (bys (a++encB v))]) ∧
 (v.k=3→CallC P G 205 [.own 0 g 0 a.length,val v,.ptr 2 0] (.arr g 1 false (bys a)::kinds 1 2) (.ret (.own 0 (g+gens v) 0 (a++encB v).length)) (.arr (g+gens v) 1 false (bys (a++encB v))::kinds 1 2))
theorem wf_k {v:CV} (h:wf v=true):v.k=1∨v.k=2∨v.k=3:=by
 cases v with
 | mk k n s l =>
  simp only [CV.k]
  by_cases h1:k=1
  · exact .inl h1
  · by_cases h2:k=2
    · exact .inr (.inl h2)
    · by_cases h3:k=3
      · exact .inr (.inr h3)
      · simp [wf,h1,h2,h3] at h
theorem wfL_mem:∀ {l:List CV},wfL l=true→∀ x∈l,wf x=true
 | [],_,x,hx=>by cases hx
 | v::l,h,x,hx=>by
  simp only [wfL,Bool.and_eq_true] at h
  rcases List.mem_cons.1 hx with rfl | hx
  · exact h.1
  · exact wfL_mem h.2 x hx
theorem wr_loop (n0:Int) (s0:ByteArray) (l:List CV) (hl:l.length≤9223372036854775807) (hw:∀ x∈l,wf x=true) (hv:∀ x∈l,WrC x):∀ (m i:Nat) (a:List UInt8) (g:Nat),l.length - i=m→i≤l.length→a.length+(encBL (l.drop i)).length≤10000000 →
 Rq 3 205 0 (wrSt (bys a) a.length g n0 s0 l i) (.exit 0) { env:=slots 35 [(0,.own 0 (g+gensL (l.drop i)) 0 (a++encBL (l.drop i)).length)],H:=.arr (g+gensL (l.drop i)) 1 false (bys (a++encBL (l.drop i)))::(kinds 1 2++[.box [int 3,int n0,str s0,.sl 4 false (encL l)]]) }:=by
 intro m
 induction m with
 | zero =>
  intro i a g hm hi hlen
  rw [List.drop_of_length_le (by omega)]
  simp only [encBL,gensL,Nat.add_zero,List.append_nil]
  exact wr_end (bys a) a.length g n0 s0 l i (by omega) trivial
 | succ m ih =>
  intro i a g hm hi hlen
  have hlt:i<l.length:=by omega
  have e:=List.drop_eq_getElem_cons hlt
  have hx:l[i]? = some l[i]:=List.getElem?_eq_getElem hlt
  have hwx:=hw _ (List.getElem_mem hlt)
  have hvx:=hv _ (List.getElem_mem hlt)
  rw [e] at hlen ⊢
  simp only [encBL,gensL,List.length_append] at hlen ⊢
  have hc:=hvx a g (by omega)
  have hn:=ih (i+1) (a++encB l[i]) (g+gens l[i]) (by omega) (by omega) (by rw [List.length_append]; omega)
  rw [List.append_assoc,Nat.add_assoc] at hn
  simp only [List.length_append] at hn hc
  generalize l[i]=x at *
  cases x with
  | mk k n s q =>
   rcases wf_k hwx with h | h | h
   · simp only [CV.k] at h
     subst h
     exact wr_step1 _ _ _ _ _ _ n0 s0 l i n s q hlt hl hx (hc.1 rfl) _ _ ⟨⟨by simp only [CV.k]; decide,by simp only [CV.k]; decide⟩,bys_ids _,bys_ids _,hn⟩
   · simp only [CV.k] at h
     subst h
     exact wr_step2 _ _ _ _ _ _ n0 s0 l i n s q hlt hl hx (hc.2.1 rfl) _ _ ⟨⟨by simp only [CV.k]; decide,by simp only [CV.k]; decide⟩,bys_ids _,bys_ids _,hn⟩
   · simp only [CV.k] at h
     subst h
     exact wr_step3 _ _ _ _ _ _ n0 s0 l i n s q hlt hl hx (hc.2.2 rfl) _ _ ⟨⟨by simp only [CV.k]; decide,by simp only [CV.k]; decide⟩,bys_ids _,bys_ids _,hn⟩
theorem wz_loop (n0:Int) (s0:ByteArray) (l:List CV) (hl:l.length≤9223372036854775807) (hw:∀ x∈l,wf x=true) (hv:∀ x∈l,WrC x):∀ (m i:Nat) (a:List UInt8) (g:Nat),l.length - i=m→i≤l.length→a.length+(encBL (l.drop i)).length≤10000000 →
 Rq 2 205 0 (wzSt (bys a) a.length g n0 s0 l i) (.exit 0) { env:=slots 35 [(0,.own 3 (g+gensL (l.drop i)) 0 (a++encBL (l.drop i)).length)],H:=kinds 0 1++[.box [int 3,int n0,str s0,.sl 4 false (encL l)],.arr (g+gensL (l.drop i)) 1 false (bys (a++encBL (l.drop i)))] }:=by
 intro m
 induction m with
 | zero =>
  intro i a g hm hi hlen
  rw [List.drop_of_length_le (by omega)]
  simp only [encBL,gensL,Nat.add_zero,List.append_nil]
  exact wz_end (bys a) a.length g n0 s0 l i (by omega) trivial
 | succ m ih =>
  intro i a g hm hi hlen
  have hlt:i<l.length:=by omega
  have e:=List.drop_eq_getElem_cons hlt
  have hx:l[i]? = some l[i]:=List.getElem?_eq_getElem hlt
  have hwx:=hw _ (List.getElem_mem hlt)
  have hvx:=hv _ (List.getElem_mem hlt)
  rw [e] at hlen ⊢
  simp only [encBL,gensL,List.length_append] at hlen ⊢
  have hc:=hvx a g (by omega)
  have hn:=ih (i+1) (a++encB l[i]) (g+gens l[i]) (by omega) (by omega) (by rw [List.length_append]; omega)
  rw [List.append_assoc,Nat.add_assoc] at hn
  simp only [List.length_append] at hn hc
  generalize l[i]=x at *
  cases x with
  | mk k n s q =>
   rcases wf_k hwx with h | h | h
   · simp only [CV.k] at h
     subst h
     exact wz_step1 _ _ _ _ _ _ n0 s0 l i n s q hlt hl hx (hc.1 rfl) _ _ ⟨⟨by simp only [CV.k]; decide,by simp only [CV.k]; decide⟩,bys_ids _,bys_ids _,hn⟩
   · simp only [CV.k] at h
     subst h
     exact wz_step2 _ _ _ _ _ _ n0 s0 l i n s q hlt hl hx (hc.2.1 rfl) _ _ ⟨⟨by simp only [CV.k]; decide,by simp only [CV.k]; decide⟩,bys_ids _,bys_ids _,hn⟩
   · simp only [CV.k] at h
     subst h
     exact wz_step3 _ _ _ _ _ _ n0 s0 l i n s q hlt hl hx (hc.2.2 rfl) _ _ ⟨⟨by simp only [CV.k]; decide,by simp only [CV.k]; decide⟩,bys_ids _,bys_ids _,hn⟩
theorem u64mod {n:Nat} (h:n≤10000000):n % 18446744073709551616=n:=Nat.mod_eq_of_lt (by omega)
theorem wrC_all (v:CV):Okv v→wf v=true→WrC v:=by
 refine CV.ind (p:=fun v=>Okv v→wf v=true→WrC v) (fun k n s l ih hok hwf=>?_) v
 cases hok with
 | mk _ _ _ _ hn hs hl hall =>
  intro a g hlen
  refine ⟨fun hk=>?_,fun hk=>?_,fun hk=>?_⟩
  · simp only [CV.k] at hk
    subst hk
    have e1:encB (.mk 1 n s l)=1::num (uns n):=by simp [encB]
    have e2:gens (.mk 1 n s l)=1+(num (uns n)).length:=by simp [gens]
    rw [e1] at hlen ⊢
    rw [e2]
    refine w1_own a g n s l hn (uns_lt hn) (by omega) ⟨own_eq (by omega) (by simp only [List.length_append,List.length_cons]; omega),arr_eq (by omega) ?_⟩
    rw [bys_app,bys_cons,List.append_assoc]; rfl
  · simp only [CV.k] at hk
    subst hk
    have e1:encB (.mk 2 n s l)=2::(num s.size++s.data.toList):=by simp [encB]
    have e2:gens (.mk 2 n s l)=2+(num s.size).length:=by simp [gens]
    rw [e1] at hlen ⊢
    rw [e2]
    simp only [List.length_append,List.length_cons,bdata_length] at hlen
    have em:=u64mod (n:=s.size) (by omega)
    refine w2_own a g n s l (by omega) (by omega) ⟨?_,own_eq ?_ ?_,arr_eq ?_ ?_⟩<;>rw [em]
    · simp only [List.length_map,bdata_length]; omega
    · omega
    · simp only [List.length_map,bdata_length,List.length_append,List.length_cons]; omega
    · omega
    · rw [bys_app,bys_cons,bys_app]; simp only [List.append_assoc]; rfl
  · simp only [CV.k] at hk
    subst hk
    have e1:encB (.mk 3 n s l)=3::(num l.length++encBL l):=by simp [encB]
    have e2:gens (.mk 3 n s l)=1+(num l.length).length+gensL l:=by simp [gens]
    have ew:wf (.mk 3 n s l)=(decide (n=0) && decide (s = .empty) && wfL l):=by simp [wf]
    rw [ew] at hwf
    simp only [Bool.and_eq_true] at hwf
    rw [e1] at hlen ⊢
    rw [e2]
    simp only [List.length_append,List.length_cons] at hlen
    have hll:=encBL_len l
    have em:=u64mod (n:=l.length) (by omega)
    have hL:=wr_loop n s l hl (wfL_mem hwf.2) (fun x hx=>ih x hx (hall x hx) (wfL_mem hwf.2 x hx)) l.length 0 (a++3::num l.length) (g+1+(num l.length).length) (by omega) (by omega) (by rw [List.drop_zero]; simp only [List.length_append,List.length_cons]; omega)
    rw [List.drop_zero,List.append_assoc,List.cons_append] at hL
    have eg:g+(1+(num l.length).length+gensL l)=g+1+(num l.length).length+gensL l:=by omega
    rw [eg]
    refine w3_own a (a++3::(num l.length++encBL l)) g _ n s l (by omega) (by omega) ?_ trivial
    rw [em]
    have e3:bys a++[[AV.lit (.int .u8 3)]]++bys (num l.length)=bys (a++3::num l.length):=by
     rw [bys_app,bys_cons,List.append_assoc]; rfl
    have e4:a.length+1+(num l.length).length=(a++3::num l.length).length:=by simp only [List.length_append,List.length_cons]; omega
    rw [e3,e4]
    exact hL
theorem encode_ok (v:CV) (hok:Okv v) (hd:dp v≤16) (hwf:wf v=true) (hlen:(encB v).length≤10000000):Cq 127 [val v] (.tup [byt (encB v),int 0]):=by
 have hc:=check_c v hok (by omega)
 have e0:chkE v=0:=by simp only [chkE,hwf,if_true]; rw [if_neg (by omega)]
 rw [e0] at hc
 have hk:=wf_k hwf
 cases v with
 | mk k n s l =>
  cases hok with
  | mk _ _ _ _ hn hs hl hall =>
   simp only [CV.k] at hk
   rcases hk with rfl | rfl | rfl
   · have e1:encB (.mk 1 n s l)=1::num (uns n):=by simp [encB]
     rw [e1]
     exact enc_1 n s l _ hc (w1_nil n s l hn (uns_lt hn) trivial) trivial
   · have e1:encB (.mk 2 n s l)=2::(num s.size++s.data.toList):=by simp [encB]
     rw [e1] at hlen ⊢
     simp only [List.length_append,List.length_cons,bdata_length] at hlen
     have em:=u64mod (n:=s.size) (by omega)
     refine enc_2 n s l _ hc (w2_nil n s l (by omega) ⟨?_,?_⟩) trivial<;>rw [em]
     · simp only [List.length_map,bdata_length]; omega
     · rw [bys_cons,bys_app]; rfl
   · have e1:encB (.mk 3 n s l)=3::(num l.length++encBL l):=by simp [encB]
     have ew:wf (.mk 3 n s l)=(decide (n=0) && decide (s = .empty) && wfL l):=by simp [wf]
     rw [ew] at hwf
     simp only [Bool.and_eq_true] at hwf
     rw [e1] at hlen ⊢
     simp only [List.length_append,List.length_cons] at hlen
     have hll:=encBL_len l
     have em:=u64mod (n:=l.length) (by omega)
     have hL:=wz_loop n s l hl (wfL_mem hwf.2) (fun x hx=>wrC_all x (hall x hx) (wfL_mem hwf.2 x hx)) l.length 0 (3::num l.length) (0+(num l.length).length) (by omega) (by omega) (by rw [List.drop_zero]; simp only [List.length_cons]; omega)
     rw [List.drop_zero,List.cons_append] at hL
     refine enc_3 n s l _ hc (w3_nil (3::(num l.length++encBL l)) (0+(num l.length).length+gensL l) n s l (by omega) ?_ trivial) trivial
     rw [em]
     have e4:1+(num l.length).length=(3::num l.length).length:=by simp only [List.length_cons]; omega
     rw [e4]
     exact hL
end Go.Cdc


namespace Go.Cdc
open Go Go.Am Go.Proofs Go.Seat
end Go.Cdc


namespace Go.Cdc
open Go Go.Am Go.Proofs Go.Seat
end Go.Cdc


namespace Go.Cdc
open Go Go.Am Go.Proofs Go.Seat
end Go.Cdc


namespace Go.Cdc
open Go Go.Am Go.Proofs Go.Seat
end Go.Cdc


namespace Go.Cdc
open Go Go.Am Go.Proofs Go.Seat
def lenOk (l:List UInt8):Bool:=numOk l && decide (numU l≤(numR l).length)
def sgn (u:Nat):Int:=if u % 2=0 then ((u / 2:Nat):Int) else -((u / 2:Nat):Int) - 1
def mkI (n:Int):CV:=.mk 1 n .empty []
def mkT (s:ByteArray):CV:=.mk 2 0 s []
def mkL (l:List CV):CV:=.mk 3 0 .empty l
def lstF (p:List UInt8→Bool × CV × List UInt8):Nat→List UInt8→Bool × List CV × List UInt8
 | 0,r=>(true,[],r)
 | n+1,r=>if (p r).1=true then ((lstF p n (p r).2.2).1,(p r).2.1::(lstF p n (p r).2.2).2.1,(lstF p n (p r).2.2).2.2) else (false,[],[])
end Go.Cdc


namespace Go.Cdc
open Go Go.Am Go.Proofs Go.Seat
def valS (deep:Bool) (p:List UInt8→Bool × CV × List UInt8):List UInt8→Bool × CV × List UInt8
 | []=>(false,default,[])
 | c::r=>if c.toNat=1 then (numOk r,mkI (sgn (numU r)),numR r)
  else if c.toNat=2 then (lenOk r,mkT ⟨((numR r).take (numU r)).toArray⟩,(numR r).drop (numU r))
  else if c.toNat=3 then (if deep=true∧lenOk r=true then ((lstF p (numU r) (numR r)).1,mkL (lstF p (numU r) (numR r)).2.1,(lstF p (numU r) (numR r)).2.2) else (false,default,[]))
  else (false,default,[])
def valF:Nat→List UInt8→Bool × CV × List UInt8
 | 0=>valS false fun _=>(false,default,[])
 | f+1=>valS true (valF f)
theorem valS_1 {deep:Bool} {p:List UInt8→Bool × CV × List UInt8} {c:UInt8} {r:List UInt8} (h:c.toNat=1):valS deep p (c::r)=(numOk r,mkI (sgn (numU r)),numR r):=by
 simp only [valS]; rw [if_pos h]
theorem valS_2 {deep:Bool} {p:List UInt8→Bool × CV × List UInt8} {c:UInt8} {r:List UInt8} (h:c.toNat=2):valS deep p (c::r)=(lenOk r,mkT ⟨((numR r).take (numU r)).toArray⟩,(numR r).drop (numU r)):=by
 simp only [valS]; rw [if_neg (by omega),if_pos h]
theorem valS_3 {deep:Bool} {p:List UInt8→Bool × CV × List UInt8} {c:UInt8} {r:List UInt8} (h:c.toNat=3):valS deep p (c::r)=if deep=true∧lenOk r=true then ((lstF p (numU r) (numR r)).1,mkL (lstF p (numU r) (numR r)).2.1,(lstF p (numU r) (numR r)).2.2) else (false,default,[]):=by
 simp only [valS]; rw [if_neg (by omega),if_neg (by omega),if_pos h]
def decB (l:List UInt8):Bool:=(valF 16 l).1 && (valF 16 l).2.2.isEmpty
def decV (l:List UInt8):CV:=if decB l=true then (valF 16 l).2.1 else default
def decE (l:List UInt8):Int:=if decB l=true then 0 else 10
end Go.Cdc


namespace Go.Cdc
open Go Go.Am Go.Proofs Go.Seat
end Go.Cdc


namespace Go.Cdc
open Go Go.Am Go.Proofs Go.Seat
theorem num_numN (u:Nat):num u=numN 9 u:=(numN_eq 9 u).symm
theorem pow_step (i:Nat):2 ^ (7 * (i+1))=128 * 2 ^ (7 * i):=by rw [Nat.mul_add,Nat.pow_add]; omega
theorem numF_num:∀ (f X u i:Nat) (r:List UInt8),f+i=9→X * 2 ^ (7 * i)<18446744073709551616→(i≠0→X≠0)→numF (numN f X++r) u i=(true,u+X * 2 ^ (7 * i),r)
 | 0,X,u,i,r,hf,hX,h0=>by
  have hi:i=9:=by omega
  subst hi
  have e9:2 ^ (7 * 9)=9223372036854775808:=by decide
  rw [e9] at hX ⊢
  have hc:X<2:=by omega
  have:=h0 (by omega)
  have e:X=1:=by omega
  subst e
  rfl
 | f+1,X,u,i,r,hf,hX,h0=>by
  have hpos:0<2 ^ (7 * i):=Nat.pow_pos (by decide)
  simp only [numN]
  by_cases hc:X<128
  · rw [if_pos hc]
    have e:(UInt8.ofNat X).toNat=X:=by rw [UInt8.toNat_ofNat']; exact Nat.mod_eq_of_lt (by omega)
    simp only [List.cons_append,List.nil_append,numF]
    rw [e,if_neg (by omega),if_pos hc,Nat.mod_eq_of_lt hc]
  · rw [if_neg hc]
    have e:(UInt8.ofNat (X % 128+128)).toNat=X % 128+128:=by rw [UInt8.toNat_ofNat']; exact Nat.mod_eq_of_lt (by omega)
    simp only [List.cons_append,numF]
    have hsplit:X * 2 ^ (7 * i)=X % 128 * 2 ^ (7 * i)+X / 128 * 2 ^ (7 * (i+1)):=by
     rw [pow_step,← Nat.mul_assoc,← Nat.add_mul]
     congr 1
     omega
    rw [e,if_neg (by omega),if_neg (by omega),show (X % 128+128) % 128=X % 128 by omega]
    rw [numF_num f (X / 128) _ (i+1) r (by omega) (by omega) (fun _=>by omega),Nat.add_assoc,← hsplit]
theorem numF_num0 (u:Nat) (hu:u<18446744073709551616) (r:List UInt8):numOk (num u++r)=true∧numU (num u++r)=u∧numR (num u++r)=r:=by
 have:=numF_num 9 u 0 0 r (by omega) (by simpa using hu) (fun h=>absurd rfl h)
 rw [← num_numN] at this
 simp only [numOk,numU,numR,this]
 simp
theorem sgn_uns (n:Int):sgn (uns n)=n:=by
 unfold uns
 split
 · unfold sgn; rw [if_pos (by omega)]; omega
 · unfold sgn; rw [if_neg (by omega)]; omega
theorem wfL_of {l:List CV} (h:∀ x∈l,wf x=true):wfL l=true:=by
 induction l with
 | nil=>rfl
 | cons a l ih=>simp only [wfL,Bool.and_eq_true]; exact ⟨h a List.mem_cons_self,ih fun x hx=>h x (List.mem_cons_of_mem _ hx)⟩
theorem dpL_of {l:List CV} {d:Nat} (h:∀ x∈l,dp x≤d):dpL l≤d:=by
 induction l with
 | nil=>exact Nat.zero_le _
 | cons a l ih =>
  simp only [dpL]
  have:=h a List.mem_cons_self
  have:=ih fun x hx=>h x (List.mem_cons_of_mem _ hx)
  omega
end Go.Cdc


namespace Go.Cdc
open Go Go.Am Go.Proofs Go.Seat
end Go.Cdc


namespace Go.Cdc
open Go Go.Am Go.Proofs Go.Seat
end Go.Cdc


namespace Go.Ops
open Go Go.Am Go.Proofs Go.Seat Go.Vec Go.Cdc
end Go.Ops


namespace Go.Ops
open Go Go.Am Go.Proofs Go.Seat Go.Vec Go.Cdc
def decD (c:CV):D:=((at_ c.l 0).n,(at_ c.l 1).n)
def decO (L:List CV):OP:=⟨(at_ L 0).n,(at_ L 1).n,(at_ L 2).n,(at_ L 3).l.map decD,(at_ (at_ L 4).l 0).n,(at_ (at_ L 4).l 1).s,(at_ L 5).n,(at_ (at_ L 6).l 0).n,(at_ (at_ L 6).l 1).n,(at_ (at_ L 6).l 2).n,
 (at_ (at_ L 7).l 0).n,(at_ (at_ L 7).l 1).n,(at_ (at_ L 7).l 2).n,(at_ L 8).s,(at_ L 9).s,(at_ L 10).n,(at_ L 11).n == 1⟩
end Go.Ops


namespace Go.Vec
open Go Go.Am Go.Proofs Go.Seat
def check2E (a b:List D):Int:=if checkE a=0 then checkE b else checkE a
theorem check2_w (a b:List D) (ha:a.length≤1000000000) (hb:b.length≤1000000000) (h:(((checkE a=0)→(checkE b:Int)=(check2E a b))∧((¬checkE a=0)→(checkE a:Int)=(check2E a b)))):Cq 121 [vec a,vec b] (int (check2E a b)):=by
 have hz0:=(@check_c (a) (by omega))
 by_cases c1:(checkE a=0)
 · have h:=h.1 c1
   exact callC_out (Sub.int_eq h) [kc [] hz0,kf (show (checkE a != 0)=false from (congrArg Bool.not (qEq.2 c1))),kc [] (@check_c (b) (by omega))]
 · have h:=h.2 c1
   exact callC_out (Sub.int_eq h) [kc [] hz0,kt (show (checkE a != 0)=true from (congrArg Bool.not (qN.2 c1)))]
theorem check2_c (a b:List D) (ha:a.length≤1000000000) (hb:b.length≤1000000000):Cq 121 [vec a,vec b] (int (check2E a b)) :=
 check2_w a b ha hb (by unfold check2E; exact ⟨fun h=>by rw [if_pos h],fun h=>by rw [if_neg h]⟩)
def devN:Nat→List D→List D→List Int
 | 0,_,_=>[]
 | _+1,[],[]=>[]
 | n+1,x::a,[]=>x.1::devN n a []
 | n+1,[],y::b=>y.1::devN n [] b
 | n+1,x::a,y::b=>if y.1<x.1 then y.1::devN n (x::a) b else if x.1<y.1 then x.1::devN n a (y::b) else x.1::devN n a b
def devs (a b:List D):List Int:=devN (a.length+b.length) a b
end Go.Vec


namespace Go.Vec
open Go Go.Am Go.Proofs Go.Seat
def gmax (x y:Int):Int:=if y > x then y else x
def rl (f:Nat):AV:=.lit (.func (.func f) #[] #[])
theorem gr_w (d x y:Int) (h:True):Cq 307 [.agg [int d,int x,int y]] (int (gmax x y)):=by
 have _:=h
 exact callC_of []
theorem gr_c (d x y:Int):Cq 307 [.agg [int d,int x,int y]] (int (gmax x y)):=gr_w d x y trivial
noncomputable def jrng:AObj:=.rng .ready none (slots 35 [(3,.ptr 3 0),(6,.ptr 4 0)]) #[20] (asgAt P 91 0) (rbodyAt P 91 0)
noncomputable def q0 (f:Nat) (A B:List D):List AObj:=[jrng,.box [vec A],.box [vec B],.box [rl f],.box [nilS]]
noncomputable def q1 (f:Nat) (A B:List D) (g:Nat) (v:List D):List AObj:=[jrng,.box [vec A],.box [vec B],.box [rl f],.box [.own 7 g 0 v.length],.gone,.gone,.arr g 2 false (encs v)]
def Y0 (f:Nat) (tk:Int→Int→Int) (A B:List D) (d x y:Int):Prop :=
 YieldC P G 0 [.agg [int d,int x,int y]] (q0 f A B++[.box [int d,int x,int y]]) true (if tk x y > 0 then q1 f A B 0 [(d,tk x y)] else q0 f A B++[.box [int d,int x,int y]])
def Y1 (f:Nat) (tk:Int→Int→Int) (A B v:List D) (g:Nat) (d x y:Int):Prop :=
 YieldC P G 0 [.agg [int d,int x,int y]] (q1 f A B g v++[.box [int d,int x,int y]]) true (if tk x y > 0 then q1 f A B (g+1) (v++[(d,tk x y)])++[.box [int d,int x,int y]] else q1 f A B g v++[.box [int d,int x,int y]])
theorem gy0_w (A B:List D) (d x y:Int) (b:Bool) (H':List AObj) (h:(((gmax x y > 0)→(true=b)∧([jrng,AObj.box [vec A],AObj.box [vec B],AObj.box [fnA 307],AObj.box [AV.own 7 0 0 1],AObj.box [int d,int x,int y],AObj.box [int d,int x,int y],AObj.arr 0 2 false (encs [(d,gmax x y)])]=H'))∧((¬gmax x y > 0)→(true=b)∧([jrng,AObj.box [vec A],AObj.box [vec B],AObj.box [fnA 307],AObj.box [nilS],AObj.box [int d,int x,int y]]=H')))):YieldC P G 0 [AV.agg [int d,int x,int y]] (q0 307 A B++[AObj.box [int d,int x,int y]]) b H':=by
 have hz0:=(@gr_c (d) (x) (y))
 by_cases c1:(gmax x y > 0)
 · have h:=h.1 c1
   obtain ⟨e1,e2⟩:=h
   exact YieldC.to ((show YieldC P G 0 [AV.agg [int d,int x,int y]] (q0 307 A B++[AObj.box [int d,int x,int y]]) true [jrng,AObj.box [AV.sl 2 false (encs A)],AObj.box [AV.sl 2 false (encs B)],AObj.box [fnA 307],AObj.box [AV.own 7 0 0 1],AObj.box [int d,int x,int y],AObj.box [int d,int x,int y],AObj.arr 0 2 false (encs [(d,gmax x y)])] from yieldC_of (fun _=>[kc [] hz0,kt (qT c1),kne [int d,int (gmax x y)],kBd 16]) (fun _=>by kernel_rfl))) e1 e2
 · have h:=h.2 c1
   obtain ⟨e1,e2⟩:=h
   exact YieldC.to ((show YieldC P G 0 [AV.agg [int d,int x,int y]] (q0 307 A B++[AObj.box [int d,int x,int y]]) true [jrng,AObj.box [AV.sl 2 false (encs A)],AObj.box [AV.sl 2 false (encs B)],AObj.box [fnA 307],AObj.box [nilS],AObj.box [int d,int x,int y]] from yieldC_of (fun _=>[kc [] hz0,kf (qF c1)]) (fun _=>by kernel_rfl))) e1 e2
theorem gy1_w (A B v:List D) (g:Nat) (d x y:Int) (b:Bool) (H':List AObj) (hv:v.length≤3000000000) (h:(((gmax x y > 0)→(true=b)∧([jrng,AObj.box [vec A],AObj.box [vec B],AObj.box [fnA 307],AObj.box [AV.own 7 (g+1) 0 (List.length (v++[(d,gmax x y)]))],AObj.gone,AObj.gone,AObj.arr (g+1) 2 false (encs (v++[(d,gmax x y)])),AObj.box [int d,int x,int y]]=H'))∧((¬gmax x y > 0)→(true=b)∧([jrng,AObj.box [vec A],AObj.box [vec B],AObj.box [fnA 307],AObj.box [AV.own 7 g 0 v.length],AObj.gone,AObj.gone,AObj.arr g 2 false (encs v),AObj.box [int d,int x,int y]]=H')))):YieldC P G 0 [AV.agg [int d,int x,int y]] (q1 307 A B g v++[AObj.box [int d,int x,int y]]) b H':=by
 have hz0:=(@gr_c (d) (x) (y))
 by_cases c1:(gmax x y > 0)
 · have h:=h.1 c1
   obtain ⟨e1,e2⟩:=h
   exact YieldC.to ((show YieldC P G 0 [AV.agg [int d,int x,int y]] (q1 307 A B g v++[AObj.box [int d,int x,int y]]) true [jrng,AObj.box [AV.sl 2 false (encs A)],AObj.box [AV.sl 2 false (encs B)],AObj.box [fnA 307],AObj.box [AV.own 7 (g+1) 0 (List.length (v++[(d,gmax x y)]))],AObj.gone,AObj.gone,AObj.arr (g+1) 2 false (encs (v++[(d,gmax x y)])),AObj.box [int d,int x,int y]] from yieldC_of (fun _=>[kc [] hz0,kt (qT c1),ko (Orc.hp (some 33) (AV.own 7 (g+1) 0 (List.length (v++[(d,gmax x y)]))) [AObj.rng LoopState.busy none (slots 35 [(3,AV.ptr 3 0),(6,AV.ptr 4 0)]) (Array.mk [20]) (Code.region 5 #[Oper.mk (some 9) (Op.alloc 175) 0 "vector.go:80" #[] none,Oper.mk none (Op.store 175 (Operand.tmp 9) (Operand.tmp 20)) 0 "vector.go:80" #[Edge.mk 0 Ground.data,Edge.mk 0 Ground.phase] none] false) (Code.block 1 (Code.seq (Code.region 6 #[Oper.mk (some 21) (Op.fieldAddr 146 (Operand.tmp 3) 0) 0 "vector.go:81" #[] none,Oper.mk (some 22) (Op.load 144 (Operand.tmp 21)) 144 "vector.go:81" #[Edge.mk 0 Ground.data] none,Oper.mk (some 23) (Op.load 175 (Operand.tmp 9)) 175 "vector.go:81" #[] none,Oper.mk (some 24) (Op.call (Call.mk (Callee.value (Operand.tmp 22)) #[Operand.tmp 23] #[175])) 3 "vector.go:81" #[Edge.mk 1 Ground.data,Edge.mk 2 Ground.data] none,Oper.mk (some 10) (Op.assign (Operand.tmp 24)) 3 "vector.go:81" #[Edge.mk 3 Ground.data,Edge.mk 3 Ground.chain,Edge.mk 0 Ground.phase,Edge.mk 1 Ground.phase,Edge.mk 2 Ground.phase,Edge.mk 3 Ground.phase] none] false) (Code.seq (Code.region 7 #[Oper.mk (some 25) (Op.move (Operand.tmp 10)) 3 "vector.go:81" #[] none,Oper.mk (some 26) (Op.binOp BinOp.gtr 3 (Operand.tmp 25) (Operand.const (Value.int IntKind.i64 0)) 3) 4 "vector.go:81" #[Edge.mk 0 Ground.data] none] false) (Code.cond (Operand.tmp 26) (Code.region 8 #[Oper.mk (some 27) (Op.load 29 (Operand.tmp 6)) 29 "vector.go:82" #[] none,Oper.mk (some 28) (Op.fieldAddr 175 (Operand.tmp 9) 0) 0 "vector.go:82" #[] none,Oper.mk (some 29) (Op.load 3 (Operand.tmp 28)) 3 "vector.go:82" #[Edge.mk 1 Ground.data] none,Oper.mk (some 30) (Op.move (Operand.tmp 10)) 3 "vector.go:82" #[] none,Oper.mk (some 31) (Op.build 49 #[(0,Operand.tmp 29),(1,Operand.tmp 30)]) 49 "vector.go:82" #[Edge.mk 2 Ground.data,Edge.mk 3 Ground.data] none,Oper.mk (some 32) (Op.buildSlice 29 1 #[(0,Operand.tmp 31)]) 29 "vector.go:82" #[Edge.mk 4 Ground.data] none,Oper.mk (some 33) (Op.call (Call.mk (Callee.builtin Builtin.append) #[Operand.tmp 27,Operand.tmp 32] #[29,29])) 29 "vector.go:82" #[Edge.mk 0 Ground.data,Edge.mk 5 Ground.data] none,Oper.mk none (Op.store 29 (Operand.tmp 6) (Operand.tmp 33)) 0 "vector.go:82" #[Edge.mk 6 Ground.data,Edge.mk 6 Ground.chain,Edge.mk 0 Ground.phase,Edge.mk 1 Ground.phase,Edge.mk 2 Ground.phase,Edge.mk 3 Ground.phase,Edge.mk 4 Ground.phase,Edge.mk 5 Ground.phase,Edge.mk 6 Ground.phase] none] false) Code.skip)))),AObj.box [AV.sl 2 false (encs A)],AObj.box [AV.sl 2 false (encs B)],AObj.box [fnA 307],AObj.box [AV.own 7 g 0 v.length],AObj.gone,AObj.gone,AObj.arr (g+1) 2 false (encs (v++[(d,gmax x y)])),AObj.box [int d,int x,int y],AObj.box [int d,int x,int y]]),kp (show Am.Sub (AV.own 7 (g+1) 0 (List.length v+1)) (AV.own 7 (g+1) 0 (List.length (v++[(d,gmax x y)]))) from (Sub.of_eq (by simp [encs_length,encs_ids]))),kp (show Am.HSub [AObj.rng LoopState.busy none (slots 35 [(3,AV.ptr 3 0),(6,AV.ptr 4 0)]) (Array.mk [20]) (Code.region 5 #[Oper.mk (some 9) (Op.alloc 175) 0 "vector.go:80" #[] none,Oper.mk none (Op.store 175 (Operand.tmp 9) (Operand.tmp 20)) 0 "vector.go:80" #[Edge.mk 0 Ground.data,Edge.mk 0 Ground.phase] none] false) (Code.block 1 (Code.seq (Code.region 6 #[Oper.mk (some 21) (Op.fieldAddr 146 (Operand.tmp 3) 0) 0 "vector.go:81" #[] none,Oper.mk (some 22) (Op.load 144 (Operand.tmp 21)) 144 "vector.go:81" #[Edge.mk 0 Ground.data] none,Oper.mk (some 23) (Op.load 175 (Operand.tmp 9)) 175 "vector.go:81" #[] none,Oper.mk (some 24) (Op.call (Call.mk (Callee.value (Operand.tmp 22)) #[Operand.tmp 23] #[175])) 3 "vector.go:81" #[Edge.mk 1 Ground.data,Edge.mk 2 Ground.data] none,Oper.mk (some 10) (Op.assign (Operand.tmp 24)) 3 "vector.go:81" #[Edge.mk 3 Ground.data,Edge.mk 3 Ground.chain,Edge.mk 0 Ground.phase,Edge.mk 1 Ground.phase,Edge.mk 2 Ground.phase,Edge.mk 3 Ground.phase] none] false) (Code.seq (Code.region 7 #[Oper.mk (some 25) (Op.move (Operand.tmp 10)) 3 "vector.go:81" #[] none,Oper.mk (some 26) (Op.binOp BinOp.gtr 3 (Operand.tmp 25) (Operand.const (Value.int IntKind.i64 0)) 3) 4 "vector.go:81" #[Edge.mk 0 Ground.data] none] false) (Code.cond (Operand.tmp 26) (Code.region 8 #[Oper.mk (some 27) (Op.load 29 (Operand.tmp 6)) 29 "vector.go:82" #[] none,Oper.mk (some 28) (Op.fieldAddr 175 (Operand.tmp 9) 0) 0 "vector.go:82" #[] none,Oper.mk (some 29) (Op.load 3 (Operand.tmp 28)) 3 "vector.go:82" #[Edge.mk 1 Ground.data] none,Oper.mk (some 30) (Op.move (Operand.tmp 10)) 3 "vector.go:82" #[] none,Oper.mk (some 31) (Op.build 49 #[(0,Operand.tmp 29),(1,Operand.tmp 30)]) 49 "vector.go:82" #[Edge.mk 2 Ground.data,Edge.mk 3 Ground.data] none,Oper.mk (some 32) (Op.buildSlice 29 1 #[(0,Operand.tmp 31)]) 29 "vector.go:82" #[Edge.mk 4 Ground.data] none,Oper.mk (some 33) (Op.call (Call.mk (Callee.builtin Builtin.append) #[Operand.tmp 27,Operand.tmp 32] #[29,29])) 29 "vector.go:82" #[Edge.mk 0 Ground.data,Edge.mk 5 Ground.data] none,Oper.mk none (Op.store 29 (Operand.tmp 6) (Operand.tmp 33)) 0 "vector.go:82" #[Edge.mk 6 Ground.data,Edge.mk 6 Ground.chain,Edge.mk 0 Ground.phase,Edge.mk 1 Ground.phase,Edge.mk 2 Ground.phase,Edge.mk 3 Ground.phase,Edge.mk 4 Ground.phase,Edge.mk 5 Ground.phase,Edge.mk 6 Ground.phase] none] false) Code.skip)))),AObj.box [AV.sl 2 false (encs A)],AObj.box [AV.sl 2 false (encs B)],AObj.box [fnA 307],AObj.box [AV.own 7 g 0 v.length],AObj.gone,AObj.gone,AObj.arr (g+1) 2 false (encs v++[[int d,int (gmax x y)]]),AObj.box [int d,int x,int y],AObj.box [int d,int x,int y]] [AObj.rng LoopState.busy none (slots 35 [(3,AV.ptr 3 0),(6,AV.ptr 4 0)]) (Array.mk [20]) (Code.region 5 #[Oper.mk (some 9) (Op.alloc 175) 0 "vector.go:80" #[] none,Oper.mk none (Op.store 175 (Operand.tmp 9) (Operand.tmp 20)) 0 "vector.go:80" #[Edge.mk 0 Ground.data,Edge.mk 0 Ground.phase] none] false) (Code.block 1 (Code.seq (Code.region 6 #[Oper.mk (some 21) (Op.fieldAddr 146 (Operand.tmp 3) 0) 0 "vector.go:81" #[] none,Oper.mk (some 22) (Op.load 144 (Operand.tmp 21)) 144 "vector.go:81" #[Edge.mk 0 Ground.data] none,Oper.mk (some 23) (Op.load 175 (Operand.tmp 9)) 175 "vector.go:81" #[] none,Oper.mk (some 24) (Op.call (Call.mk (Callee.value (Operand.tmp 22)) #[Operand.tmp 23] #[175])) 3 "vector.go:81" #[Edge.mk 1 Ground.data,Edge.mk 2 Ground.data] none,Oper.mk (some 10) (Op.assign (Operand.tmp 24)) 3 "vector.go:81" #[Edge.mk 3 Ground.data,Edge.mk 3 Ground.chain,Edge.mk 0 Ground.phase,Edge.mk 1 Ground.phase,Edge.mk 2 Ground.phase,Edge.mk 3 Ground.phase] none] false) (Code.seq (Code.region 7 #[Oper.mk (some 25) (Op.move (Operand.tmp 10)) 3 "vector.go:81" #[] none,Oper.mk (some 26) (Op.binOp BinOp.gtr 3 (Operand.tmp 25) (Operand.const (Value.int IntKind.i64 0)) 3) 4 "vector.go:81" #[Edge.mk 0 Ground.data] none] false) (Code.cond (Operand.tmp 26) (Code.region 8 #[Oper.mk (some 27) (Op.load 29 (Operand.tmp 6)) 29 "vector.go:82" #[] none,Oper.mk (some 28) (Op.fieldAddr 175 (Operand.tmp 9) 0) 0 "vector.go:82" #[] none,Oper.mk (some 29) (Op.load 3 (Operand.tmp 28)) 3 "vector.go:82" #[Edge.mk 1 Ground.data] none,Oper.mk (some 30) (Op.move (Operand.tmp 10)) 3 "vector.go:82" #[] none,Oper.mk (some 31) (Op.build 49 #[(0,Operand.tmp 29),(1,Operand.tmp 30)]) 49 "vector.go:82" #[Edge.mk 2 Ground.data,Edge.mk 3 Ground.data] none,Oper.mk (some 32) (Op.buildSlice 29 1 #[(0,Operand.tmp 31)]) 29 "vector.go:82" #[Edge.mk 4 Ground.data] none,Oper.mk (some 33) (Op.call (Call.mk (Callee.builtin Builtin.append) #[Operand.tmp 27,Operand.tmp 32] #[29,29])) 29 "vector.go:82" #[Edge.mk 0 Ground.data,Edge.mk 5 Ground.data] none,Oper.mk none (Op.store 29 (Operand.tmp 6) (Operand.tmp 33)) 0 "vector.go:82" #[Edge.mk 6 Ground.data,Edge.mk 6 Ground.chain,Edge.mk 0 Ground.phase,Edge.mk 1 Ground.phase,Edge.mk 2 Ground.phase,Edge.mk 3 Ground.phase,Edge.mk 4 Ground.phase,Edge.mk 5 Ground.phase,Edge.mk 6 Ground.phase] none] false) Code.skip)))),AObj.box [AV.sl 2 false (encs A)],AObj.box [AV.sl 2 false (encs B)],AObj.box [fnA 307],AObj.box [AV.own 7 g 0 v.length],AObj.gone,AObj.gone,AObj.arr (g+1) 2 false (encs (v++[(d,gmax x y)])),AObj.box [int d,int x,int y],AObj.box [int d,int x,int y]] from (⟨.inl rfl,.inl rfl,.inl rfl,.inl rfl,.inl rfl,.inl rfl,.inl rfl,.inl (by simp only [encs_append,encs_one]),.inl rfl,.inl rfl,trivial⟩)),kq g,kp (encs_length v).symm,kBd ((List.length v+1) * 16),kp (show ∀ (x_1:List AV),x_1∈encs (v++[(d,gmax x y)])→AV.idsInL [] x_1=true from (encs_ids _))]) (fun _=>by kernel_rfl))) e1 e2
 · have h:=h.2 c1
   obtain ⟨e1,e2⟩:=h
   exact YieldC.to ((show YieldC P G 0 [AV.agg [int d,int x,int y]] (q1 307 A B g v++[AObj.box [int d,int x,int y]]) true [jrng,AObj.box [AV.sl 2 false (encs A)],AObj.box [AV.sl 2 false (encs B)],AObj.box [fnA 307],AObj.box [AV.own 7 g 0 v.length],AObj.gone,AObj.gone,AObj.arr g 2 false (encs v),AObj.box [int d,int x,int y]] from yieldC_of (fun _=>[kc [] hz0,kf (qF c1),kp (encs_ids v)]) (fun _=>by kernel_rfl))) e1 e2
theorem gy0 (A B:List D) (d x y:Int):Y0 307 gmax A B d x y:=by
 unfold Y0
 by_cases h:gmax x y > 0
 · rw [if_pos h]
   exact YieldC.heapSub (gy0_w A B d x y true _ ⟨fun _=>⟨rfl,rfl⟩,fun h'=>absurd h h'⟩) ⟨.inl rfl,.inl rfl,.inl rfl,.inl rfl,.inl rfl,.inr trivial,.inr trivial,.inl rfl,trivial⟩
 · rw [if_neg h]
   exact gy0_w A B d x y true _ ⟨fun h'=>absurd h' h,fun _=>⟨rfl,rfl⟩⟩
theorem gy1 (A B v:List D) (g:Nat) (d x y:Int) (hv:v.length≤3000000000):Y1 307 gmax A B v g d x y:=by
 unfold Y1
 by_cases h:gmax x y > 0
 · rw [if_pos h]
   exact gy1_w A B v g d x y true _ hv ⟨fun _=>⟨rfl,rfl⟩,fun h'=>absurd h h'⟩
 · rw [if_neg h]
   exact gy1_w A B v g d x y true _ hv ⟨fun h'=>absurd h' h,fun _=>⟨rfl,rfl⟩⟩
theorem pairs_w (a b:List D) (h:True):CallC P G 122 [vec a,vec b] [] (AOut.ret (AV.fn (Fn.func 161) [] [AV.ptr 0 0,AV.ptr 1 0])) [AObj.box [vec a],AObj.box [vec b]]:=by
 have _:=h
 exact callC_of []
theorem pairs_c (a b:List D):CallC P G 122 [vec a,vec b] [] (.ret (.fn (.func 161) [] [.ptr 0 0,.ptr 1 0])) [.box [vec a],.box [vec b]]:=pairs_w a b trivial
noncomputable def plSt0 (f:Nat) (A B:List D):St:={ env:=slots 91 [(0,.yl 0),(1,.ptr 1 0),(2,.ptr 2 0)],H:=q0 f A B }
noncomputable def plSt1 (f:Nat) (A B:List D) (g:Nat) (v:List D):St:={ env:=slots 91 [(0,.yl 0),(1,.ptr 1 0),(2,.ptr 2 0)],H:=q1 f A B g v }
theorem pl_w0 (f:Nat) (tk:Int→Int→Int) (A B:List D) (hy:∀ A B d x y,YieldC P G 0 [.agg [int d,int x,int y]] (q0 f A B++[.box [int d,int x,int y]]) true (if tk x y > 0 then q1 f A B 0 [(d,tk x y)] else q0 f A B++[.box [int d,int x,int y]])) (hA:A.length≤1000000000) (hB:B.length≤1000000000) (ex:AEx) (s':St) (h:((((A.length:Int) > 0)→((((B.length:Int)=0)→(∃ x3:D,(A[0]? = some x3)∧(((tk x3.2 0 > 0)→Rq 5 161 0 (sM 91 [(0,.yl 0),(1,.ptr 1 0),(2,.ptr 2 0)] [jrng,.box [vec (List.drop 1 A)],.box [vec B],.box [fnA f],.box [.own 7 0 0 1],.gone,.gone,.arr 0 2 false [[int x3.1,int (tk x3.2 0)]]]) ex s')∧((¬tk x3.2 0 > 0)→Rq 5 161 0 (sM 91 [(0,.yl 0),(1,.ptr 1 0),(2,.ptr 2 0)] [jrng,.box [vec (List.drop 1 A)],.box [vec B],.box [fnA f],.box [nilS]]) ex s'))))∧((¬(B.length:Int)=0)→(∃ x6:D,(A[0]? = some x6)∧(∃ x8:D,(B[0]? = some x8)∧(((x6.1<x8.1)→(((tk x6.2 0 > 0)→Rq 5 161 0 (sM 91 [(0,.yl 0),(1,.ptr 1 0),(2,.ptr 2 0)] [jrng,.box [vec (List.drop 1 A)],.box [vec B],.box [fnA f],.box [.own 7 0 0 1],.gone,.gone,.arr 0 2 false [[int x6.1,int (tk x6.2 0)]]]) ex s')∧((¬tk x6.2 0 > 0)→Rq 5 161 0 (sM 91 [(0,.yl 0),(1,.ptr 1 0),(2,.ptr 2 0)] [jrng,.box [vec (List.drop 1 A)],.box [vec B],.box [fnA f],.box [nilS]]) ex s')))∧((¬x6.1<x8.1)→(((x8.1<x6.1)→(((tk 0 x8.2 > 0)→Rq 5 161 0 (sM 91 [(0,.yl 0),(1,.ptr 1 0),(2,.ptr 2 0)] [jrng,.box [vec A],.box [vec (List.drop 1 B)],.box [fnA f],.box [.own 7 0 0 1],.gone,.gone,.arr 0 2 false [[int x8.1,int (tk 0 x8.2)]]]) ex s')∧((¬tk 0 x8.2 > 0)→Rq 5 161 0 (sM 91 [(0,.yl 0),(1,.ptr 1 0),(2,.ptr 2 0)] [jrng,.box [vec A],.box [vec (List.drop 1 B)],.box [fnA f],.box [nilS]]) ex s')))∧((¬x8.1<x6.1)→(((tk x6.2 x8.2 > 0)→Rq 5 161 0 (sM 91 [(0,.yl 0),(1,.ptr 1 0),(2,.ptr 2 0)] [jrng,.box [vec (List.drop 1 A)],.box [vec (List.drop 1 B)],.box [fnA f],.box [.own 7 0 0 1],.gone,.gone,.arr 0 2 false [[int x6.1,int (tk x6.2 x8.2)]]]) ex s')∧((¬tk x6.2 x8.2 > 0)→Rq 5 161 0 (sM 91 [(0,.yl 0),(1,.ptr 1 0),(2,.ptr 2 0)] [jrng,.box [vec (List.drop 1 A)],.box [vec (List.drop 1 B)],.box [fnA f],.box [nilS]]) ex s')))))))))))∧((¬(A.length:Int) > 0)→((((B.length:Int) > 0)→(∃ x19:D,(B[0]? = some x19)∧(((tk 0 x19.2 > 0)→Rq 5 161 0 (sM 91 [(0,.yl 0),(1,.ptr 1 0),(2,.ptr 2 0)] [jrng,.box [vec A],.box [vec (List.drop 1 B)],.box [fnA f],.box [.own 7 0 0 1],.gone,.gone,.arr 0 2 false [[int x19.1,int (tk 0 x19.2)]]]) ex s')∧((¬tk 0 x19.2 > 0)→Rq 5 161 0 (sM 91 [(0,.yl 0),(1,.ptr 1 0),(2,.ptr 2 0)] [jrng,.box [vec A],.box [vec (List.drop 1 B)],.box [fnA f],.box [nilS]]) ex s'))))∧((¬(B.length:Int) > 0)→(AEx.exit 0=ex)∧(sM 91 [] [jrng,.box [vec A],.box [vec B],.box [fnA f],.box [nilS]]=s')))))):Rq 5 161 0 (plSt0 f A B) ex s':=by
 have hz0:=lenS (encs_length A)
 let l1:List Itm:=[kv 6 hz0]
 by_cases c1:((A.length:Int) > 0)
 · have h:=h.1 c1
   have hz1:=lenS (encs_length B)
   let l2:List Itm:=l1++[kt (qT c1),kO,kv 32 hz1]
   by_cases c2:((B.length:Int)=0)
   · have h:=h.1 c2
     obtain ⟨x3,o4,h⟩:=h
     have hz2:(0:Int)≤(0:Int)∧(encs A)[Int.toNat 0]? = some (enc x3):=(el_nat o4)
     have hz4:(0:Int)≤(1:Int)∧(1:Int)≤(↑(List.length (encs A)):Int)∧(↑(List.length (encs A)):Int)≤(↑(List.length (encs A)):Int):=(by rw [encs_length]; omega)
     let l3:List Itm:=l2++[kt (qEq.2 c2),kO,ko (Orc.elem (enc x3)),ko (Orc.elem (enc x3)),kp hz2,kp hz2,kv 60 (show Am.Sub (AV.sl 2 false (List.drop 1 (List.take (Int.toNat (↑(List.length (encs A)):Int)) (encs A)))) (AV.sl 2 false (encs (List.drop 1 A))) from (Sub.of_eq (by simp only [encs_length,encs_drop,encs_take,Int.toNat_natCast,List.take_length])))]
     by_cases c5:(tk x3.2 0 > 0)
     · have h:=h.1 c5
       exact loop_next (l3++[ko (Orc.call [] (AOut.ret (Am.bool true)) (q1 f (List.drop 1 A) B 0 [(x3.1,tk x3.2 0)])),kp hz4,kp (ypC (hy (List.drop 1 A) B x3.1 x3.2 0) c5),kY]) (others 91 [0,1,2]) 8 h
     · have h:=h.2 c5
       exact loop_next (l3++[ko (Orc.call [] (AOut.ret (Am.bool true)) (q0 f (List.drop 1 A) B++[AObj.box [int x3.1,int x3.2,int 0]])),kp hz4,kp (ynC (hy (List.drop 1 A) B x3.1 x3.2 0) c5),kY]) (others 91 [0,1,2]) 5 h
   · have h:=h.2 c2
     obtain ⟨x6,o7,h⟩:=h
     have hz7:(0:Int)≤(0:Int)∧(encs A)[Int.toNat 0]? = some (enc x6):=(el_nat o7)
     obtain ⟨x8,o9,h⟩:=h
     have hz8:(0:Int)≤(0:Int)∧(encs B)[Int.toNat 0]? = some (enc x8):=(el_nat o9)
     let l4:List Itm:=l2++[kf (qN.2 c2),kv 36 hz0,kt (qT c1),ko (Orc.elem (enc x6)),ko (Orc.elem (enc x8)),kp hz7,kp hz8]
     by_cases c10:(x6.1<x8.1)
     · have h:=h.1 c10
       let l5:List Itm:=l4++[kt (qT c10),ko (Orc.elem (enc x6)),ko (Orc.elem (enc x6)),kp hz7,kp hz7,kv 60 (show Am.Sub (AV.sl 2 false (List.drop 1 (List.take (Int.toNat (↑(List.length (encs A)):Int)) (encs A)))) (AV.sl 2 false (encs (List.drop 1 A))) from (Sub.of_eq (by simp only [encs_length,encs_drop,encs_take,Int.toNat_natCast,List.take_length])))]
       by_cases c11:(tk x6.2 0 > 0)
       · have h:=h.1 c11
         exact loop_next (l5++[ko (Orc.call [] (AOut.ret (Am.bool true)) (q1 f (List.drop 1 A) B 0 [(x6.1,tk x6.2 0)])),kSl (1:Int) (↑(List.length (encs A)):Int) (↑(List.length (encs A)):Int) (by rw [encs_length]; omega),kp (ypC (hy (List.drop 1 A) B x6.1 x6.2 0) c11),kY]) (others 91 [0,1,2]) 8 h
       · have h:=h.2 c11
         exact loop_next (l5++[ko (Orc.call [] (AOut.ret (Am.bool true)) (q0 f (List.drop 1 A) B++[AObj.box [int x6.1,int x6.2,int 0]])),kSl (1:Int) (↑(List.length (encs A)):Int) (↑(List.length (encs A)):Int) (by rw [encs_length]; omega),kp (ynC (hy (List.drop 1 A) B x6.1 x6.2 0) c11),kY]) (others 91 [0,1,2]) 5 h
     · have h:=h.2 c10
       let l6:List Itm:=l4++[kf (qF c10),kv 63 hz0,kf (show ((A.length:Int) == 0)=false from (qF (by omega))),ko (Orc.elem (enc x8)),ko (Orc.elem (enc x6)),kp hz8,kp hz7]
       by_cases c13:(x8.1<x6.1)
       · have h:=h.1 c13
         have hz12:Am.Sub (AV.sl 2 false (List.drop 1 (List.take (Int.toNat (↑(List.length (encs B)):Int)) (encs B)))) (AV.sl 2 false (encs (List.drop 1 B))):=(Sub.of_eq (by simp only [encs_length,encs_drop,encs_take,Int.toNat_natCast,List.take_length]))
         have hz13:(0:Int)≤(1:Int)∧(1:Int)≤(↑(List.length (encs B)):Int)∧(↑(List.length (encs B)):Int)≤(↑(List.length (encs B)):Int):=(by rw [encs_length]; omega)
         let l7:List Itm:=l6++[kt (qT c13),ko (Orc.elem (enc x8)),ko (Orc.elem (enc x8)),kp hz8,kp hz8,kv 86 hz12]
         by_cases c14:(tk 0 x8.2 > 0)
         · have h:=h.1 c14
           exact loop_next (l7++[ko (Orc.call [] (AOut.ret (Am.bool true)) (q1 f A (List.drop 1 B) 0 [(x8.1,tk 0 x8.2)])),kp hz13,kp (ypC (hy A (List.drop 1 B) x8.1 0 x8.2) c14),kY]) (others 91 [0,1,2]) 8 h
         · have h:=h.2 c14
           exact loop_next (l7++[ko (Orc.call [] (AOut.ret (Am.bool true)) (q0 f A (List.drop 1 B)++[AObj.box [int x8.1,int 0,int x8.2]])),kp hz13,kp (ynC (hy A (List.drop 1 B) x8.1 0 x8.2) c14),kY]) (others 91 [0,1,2]) 5 h
       · have h:=h.2 c13
         have hz12:Am.Sub (AV.sl 2 false (List.drop 1 (List.take (Int.toNat (↑(List.length (encs B)):Int)) (encs B)))) (AV.sl 2 false (encs (List.drop 1 B))):=(Sub.of_eq (by simp only [encs_length,encs_drop,encs_take,Int.toNat_natCast,List.take_length]))
         have hz13:(0:Int)≤(1:Int)∧(1:Int)≤(↑(List.length (encs B)):Int)∧(↑(List.length (encs B)):Int)≤(↑(List.length (encs B)):Int):=(by rw [encs_length]; omega)
         let l8:List Itm:=l6++[kf (qF c13),ko (Orc.elem (enc x6)),ko (Orc.elem (enc x6)),ko (Orc.elem (enc x8)),kp hz7,kp hz7,kp hz8,kv 27 (show Am.Sub (AV.sl 2 false (List.drop 1 (List.take (Int.toNat (↑(List.length (encs A)):Int)) (encs A)))) (AV.sl 2 false (encs (List.drop 1 A))) from (Sub.of_eq (by simp only [encs_length,encs_drop,encs_take,Int.toNat_natCast,List.take_length]))),kSl (1:Int) (↑(List.length (encs A)):Int) (↑(List.length (encs A)):Int) (by rw [encs_length]; omega),kv 29 hz12]
         by_cases c15:(tk x6.2 x8.2 > 0)
         · have h:=h.1 c15
           exact loop_next (l8++[ko (Orc.call [] (AOut.ret (Am.bool true)) (q1 f (List.drop 1 A) (List.drop 1 B) 0 [(x6.1,tk x6.2 x8.2)])),kp hz13,kp (ypC (hy (List.drop 1 A) (List.drop 1 B) x6.1 x6.2 x8.2) c15),kY]) (others 91 [0,1,2]) 8 h
         · have h:=h.2 c15
           exact loop_next (l8++[ko (Orc.call [] (AOut.ret (Am.bool true)) (q0 f (List.drop 1 A) (List.drop 1 B)++[AObj.box [int x6.1,int x6.2,int x8.2]])),kp hz13,kp (ynC (hy (List.drop 1 A) (List.drop 1 B) x6.1 x6.2 x8.2) c15),kY]) (others 91 [0,1,2]) 5 h
 · have h:=h.2 c1
   have hz1:=lenS (encs_length B)
   let l9:List Itm:=l1++[kf (qF c1),kv 10 hz1]
   by_cases c16:((B.length:Int) > 0)
   · have h:=h.1 c16
     obtain ⟨x19,o20,h⟩:=h
     have hz20:(0:Int)≤(0:Int)∧(encs B)[Int.toNat 0]? = some (enc x19):=(el_nat o20)
     let l10:List Itm:=l9++[kt (qT c16),kv 32 hz1,kf (show ((B.length:Int) == 0)=false from (qF (by omega))),kv 36 hz0,kf (qF c1),kY,kv 63 hz0,kt (show ((A.length:Int) == 0)=true from (qT (by omega))),kO,ko (Orc.elem (enc x19)),ko (Orc.elem (enc x19)),kp hz20,kp hz20,kv 86 (show Am.Sub (AV.sl 2 false (List.drop 1 (List.take (Int.toNat (↑(List.length (encs B)):Int)) (encs B)))) (AV.sl 2 false (encs (List.drop 1 B))) from (Sub.of_eq (by simp only [encs_length,encs_drop,encs_take,Int.toNat_natCast,List.take_length])))]
     by_cases c21:(tk 0 x19.2 > 0)
     · have h:=h.1 c21
       exact loop_next (l10++[ko (Orc.call [] (AOut.ret (Am.bool true)) (q1 f A (List.drop 1 B) 0 [(x19.1,tk 0 x19.2)])),kSl (1:Int) (↑(List.length (encs B)):Int) (↑(List.length (encs B)):Int) (by rw [encs_length]; omega),kp (ypC (hy A (List.drop 1 B) x19.1 0 x19.2) c21),kY]) (others 91 [0,1,2]) 8 h
     · have h:=h.2 c21
       exact loop_next (l10++[ko (Orc.call [] (AOut.ret (Am.bool true)) (q0 f A (List.drop 1 B)++[AObj.box [int x19.1,int 0,int x19.2]])),kSl (1:Int) (↑(List.length (encs B)):Int) (↑(List.length (encs B)):Int) (by rw [encs_length]; omega),kp (ynC (hy A (List.drop 1 B) x19.1 0 x19.2) c21),kY]) (others 91 [0,1,2]) 5 h
   · have h:=h.2 c16
     obtain ⟨eX,eS⟩:=h
     exact RunL.to ((show Rq 5 161 0 (plSt0 f A B) (AEx.exit 0) (sM 91 [] [jrng,.box [.sl 2 false (encs A)],.box [.sl 2 false (encs B)],.box [fnA f],.box [nilS]]) from loop_exit (l9++[kf (qF c16)]) (others 91 []) 5)) eX (SubS.of_eq eS)
end Go.Vec


namespace Go.Vec
open Go Go.Am Go.Proofs Go.Seat
theorem pl_w1 (f:Nat) (tk:Int→Int→Int) (A B:List D) (g:Nat) (v:List D) (hv:v.length≤3000000000) (hy:∀ A B v g d x y,v.length≤3000000000→YieldC P G 0 [.agg [int d,int x,int y]] (q1 f A B g v++[.box [int d,int x,int y]]) true (if tk x y > 0 then q1 f A B (g+1) (v++[(d,tk x y)])++[.box [int d,int x,int y]] else q1 f A B g v++[.box [int d,int x,int y]])) (hA:A.length≤1000000000) (hB:B.length≤1000000000) (ex:AEx) (s':St) (h:((((A.length:Int) > 0)→((((B.length:Int)=0)→(∃ x3:D,(A[0]? = some x3)∧(((tk x3.2 0 > 0)→Rq 5 161 0 (sM 91 [(0,.yl 0),(1,.ptr 1 0),(2,.ptr 2 0)] [jrng,.box [vec (List.drop 1 A)],.box [vec B],.box [fnA f],.box [.own 7 (g+1) 0 (List.length (v++[(x3.1,tk x3.2 0)]))],.gone,.gone,.arr (g+1) 2 false (encs (v++[(x3.1,tk x3.2 0)]))]) ex s')∧((¬tk x3.2 0 > 0)→Rq 5 161 0 (sM 91 [(0,.yl 0),(1,.ptr 1 0),(2,.ptr 2 0)] [jrng,.box [vec (List.drop 1 A)],.box [vec B],.box [fnA f],.box [.own 7 g 0 v.length],.gone,.gone,.arr g 2 false (encs v)]) ex s'))))∧((¬(B.length:Int)=0)→(∃ x6:D,(A[0]? = some x6)∧(∃ x8:D,(B[0]? = some x8)∧(((x6.1<x8.1)→(((tk x6.2 0 > 0)→Rq 5 161 0 (sM 91 [(0,.yl 0),(1,.ptr 1 0),(2,.ptr 2 0)] [jrng,.box [vec (List.drop 1 A)],.box [vec B],.box [fnA f],.box [.own 7 (g+1) 0 (List.length (v++[(x6.1,tk x6.2 0)]))],.gone,.gone,.arr (g+1) 2 false (encs (v++[(x6.1,tk x6.2 0)]))]) ex s')∧((¬tk x6.2 0 > 0)→Rq 5 161 0 (sM 91 [(0,.yl 0),(1,.ptr 1 0),(2,.ptr 2 0)] [jrng,.box [vec (List.drop 1 A)],.box [vec B],.box [fnA f],.box [.own 7 g 0 v.length],.gone,.gone,.arr g 2 false (encs v)]) ex s')))∧((¬x6.1<x8.1)→(((x8.1<x6.1)→(((tk 0 x8.2 > 0)→Rq 5 161 0 (sM 91 [(0,.yl 0),(1,.ptr 1 0),(2,.ptr 2 0)] [jrng,.box [vec A],.box [vec (List.drop 1 B)],.box [fnA f],.box [.own 7 (g+1) 0 (List.length (v++[(x8.1,tk 0 x8.2)]))],.gone,.gone,.arr (g+1) 2 false (encs (v++[(x8.1,tk 0 x8.2)]))]) ex s')∧((¬tk 0 x8.2 > 0)→Rq 5 161 0 (sM 91 [(0,.yl 0),(1,.ptr 1 0),(2,.ptr 2 0)] [jrng,.box [vec A],.box [vec (List.drop 1 B)],.box [fnA f],.box [.own 7 g 0 v.length],.gone,.gone,.arr g 2 false (encs v)]) ex s')))∧((¬x8.1<x6.1)→(((tk x6.2 x8.2 > 0)→Rq 5 161 0 (sM 91 [(0,.yl 0),(1,.ptr 1 0),(2,.ptr 2 0)] [jrng,.box [vec (List.drop 1 A)],.box [vec (List.drop 1 B)],.box [fnA f],.box [.own 7 (g+1) 0 (List.length (v++[(x6.1,tk x6.2 x8.2)]))],.gone,.gone,.arr (g+1) 2 false (encs (v++[(x6.1,tk x6.2 x8.2)]))]) ex s')∧((¬tk x6.2 x8.2 > 0)→Rq 5 161 0 (sM 91 [(0,.yl 0),(1,.ptr 1 0),(2,.ptr 2 0)] [jrng,.box [vec (List.drop 1 A)],.box [vec (List.drop 1 B)],.box [fnA f],.box [.own 7 g 0 v.length],.gone,.gone,.arr g 2 false (encs v)]) ex s')))))))))))∧((¬(A.length:Int) > 0)→((((B.length:Int) > 0)→(∃ x19:D,(B[0]? = some x19)∧(((tk 0 x19.2 > 0)→Rq 5 161 0 (sM 91 [(0,.yl 0),(1,.ptr 1 0),(2,.ptr 2 0)] [jrng,.box [vec A],.box [vec (List.drop 1 B)],.box [fnA f],.box [.own 7 (g+1) 0 (List.length (v++[(x19.1,tk 0 x19.2)]))],.gone,.gone,.arr (g+1) 2 false (encs (v++[(x19.1,tk 0 x19.2)]))]) ex s')∧((¬tk 0 x19.2 > 0)→Rq 5 161 0 (sM 91 [(0,.yl 0),(1,.ptr 1 0),(2,.ptr 2 0)] [jrng,.box [vec A],.box [vec (List.drop 1 B)],.box [fnA f],.box [.own 7 g 0 v.length],.gone,.gone,.arr g 2 false (encs v)]) ex s'))))∧((¬(B.length:Int) > 0)→(AEx.exit 0=ex)∧(sM 91 [] [jrng,.box [vec A],.box [vec B],.box [fnA f],.box [.own 7 g 0 v.length],.gone,.gone,.arr g 2 false (encs v)]=s')))))):Rq 5 161 0 (plSt1 f A B g v) ex s':=by
 have hz0:=lenS (encs_length A)
 have hz8:∀ (x:List AV),x∈encs v→AV.idsInL [] x=true:=(encs_ids _)
 let l1:List Itm:=[kv 6 hz0]
 by_cases c1:((A.length:Int) > 0)
 · have h:=h.1 c1
   have hz1:=lenS (encs_length B)
   let l2:List Itm:=l1++[kt (qT c1),kO,kv 32 hz1]
   by_cases c2:((B.length:Int)=0)
   · have h:=h.1 c2
     obtain ⟨x3,o4,h⟩:=h
     have hz2:(0:Int)≤(0:Int)∧(encs A)[Int.toNat 0]? = some (enc x3):=(el_nat o4)
     have hz4:(0:Int)≤(1:Int)∧(1:Int)≤(↑(List.length (encs A)):Int)∧(↑(List.length (encs A)):Int)≤(↑(List.length (encs A)):Int):=(by rw [encs_length]; omega)
     let l3:List Itm:=l2++[kt (qEq.2 c2),kO,ko (Orc.elem (enc x3)),ko (Orc.elem (enc x3)),kp hz2,kp hz2,kv 60 (show Am.Sub (AV.sl 2 false (List.drop 1 (List.take (Int.toNat (↑(List.length (encs A)):Int)) (encs A)))) (AV.sl 2 false (encs (List.drop 1 A))) from (Sub.of_eq (by simp only [encs_length,encs_drop,encs_take,Int.toNat_natCast,List.take_length])))]
     by_cases c5:(tk x3.2 0 > 0)
     · have h:=h.1 c5
       exact loop_next (l3++[ko (Orc.call [] (AOut.ret (Am.bool true)) (q1 f (List.drop 1 A) B (g+1) (v++[(x3.1,tk x3.2 0)])++[AObj.box [int x3.1,int x3.2,int 0]])),kp hz4,kp (ypC (hy (List.drop 1 A) B v g x3.1 x3.2 0 (by omega)) c5),kY,kp (show ∀ (x:List AV),x∈encs (v++[(x3.1,tk x3.2 0)])→AV.idsInL [] x=true from (encs_ids _))]) (others 91 [0,1,2]) 8 h
     · have h:=h.2 c5
       exact loop_next (l3++[ko (Orc.call [] (AOut.ret (Am.bool true)) (q1 f (List.drop 1 A) B g v++[AObj.box [int x3.1,int x3.2,int 0]])),kp hz4,kp (ynC (hy (List.drop 1 A) B v g x3.1 x3.2 0 (by omega)) c5),kY,kp hz8]) (others 91 [0,1,2]) 8 h
   · have h:=h.2 c2
     obtain ⟨x6,o7,h⟩:=h
     have hz9:(0:Int)≤(0:Int)∧(encs A)[Int.toNat 0]? = some (enc x6):=(el_nat o7)
     obtain ⟨x8,o9,h⟩:=h
     have hz10:(0:Int)≤(0:Int)∧(encs B)[Int.toNat 0]? = some (enc x8):=(el_nat o9)
     let l4:List Itm:=l2++[kf (qN.2 c2),kv 36 hz0,kt (qT c1),ko (Orc.elem (enc x6)),ko (Orc.elem (enc x8)),kp hz9,kp hz10]
     by_cases c10:(x6.1<x8.1)
     · have h:=h.1 c10
       let l5:List Itm:=l4++[kt (qT c10),ko (Orc.elem (enc x6)),ko (Orc.elem (enc x6)),kp hz9,kp hz9,kv 60 (show Am.Sub (AV.sl 2 false (List.drop 1 (List.take (Int.toNat (↑(List.length (encs A)):Int)) (encs A)))) (AV.sl 2 false (encs (List.drop 1 A))) from (Sub.of_eq (by simp only [encs_length,encs_drop,encs_take,Int.toNat_natCast,List.take_length])))]
       by_cases c11:(tk x6.2 0 > 0)
       · have h:=h.1 c11
         exact loop_next (l5++[ko (Orc.call [] (AOut.ret (Am.bool true)) (q1 f (List.drop 1 A) B (g+1) (v++[(x6.1,tk x6.2 0)])++[AObj.box [int x6.1,int x6.2,int 0]])),kSl (1:Int) (↑(List.length (encs A)):Int) (↑(List.length (encs A)):Int) (by rw [encs_length]; omega),kp (ypC (hy (List.drop 1 A) B v g x6.1 x6.2 0 (by omega)) c11),kY,kp (show ∀ (x:List AV),x∈encs (v++[(x6.1,tk x6.2 0)])→AV.idsInL [] x=true from (encs_ids _))]) (others 91 [0,1,2]) 8 h
       · have h:=h.2 c11
         exact loop_next (l5++[ko (Orc.call [] (AOut.ret (Am.bool true)) (q1 f (List.drop 1 A) B g v++[AObj.box [int x6.1,int x6.2,int 0]])),kSl (1:Int) (↑(List.length (encs A)):Int) (↑(List.length (encs A)):Int) (by rw [encs_length]; omega),kp (ynC (hy (List.drop 1 A) B v g x6.1 x6.2 0 (by omega)) c11),kY,kp hz8]) (others 91 [0,1,2]) 8 h
     · have h:=h.2 c10
       let l6:List Itm:=l4++[kf (qF c10),kv 63 hz0,kf (show ((A.length:Int) == 0)=false from (qF (by omega))),ko (Orc.elem (enc x8)),ko (Orc.elem (enc x6)),kp hz10,kp hz9]
       by_cases c13:(x8.1<x6.1)
       · have h:=h.1 c13
         have hz15:Am.Sub (AV.sl 2 false (List.drop 1 (List.take (Int.toNat (↑(List.length (encs B)):Int)) (encs B)))) (AV.sl 2 false (encs (List.drop 1 B))):=(Sub.of_eq (by simp only [encs_length,encs_drop,encs_take,Int.toNat_natCast,List.take_length]))
         have hz16:(0:Int)≤(1:Int)∧(1:Int)≤(↑(List.length (encs B)):Int)∧(↑(List.length (encs B)):Int)≤(↑(List.length (encs B)):Int):=(by rw [encs_length]; omega)
         let l7:List Itm:=l6++[kt (qT c13),ko (Orc.elem (enc x8)),ko (Orc.elem (enc x8)),kp hz10,kp hz10,kv 86 hz15]
         by_cases c14:(tk 0 x8.2 > 0)
         · have h:=h.1 c14
           exact loop_next (l7++[ko (Orc.call [] (AOut.ret (Am.bool true)) (q1 f A (List.drop 1 B) (g+1) (v++[(x8.1,tk 0 x8.2)])++[AObj.box [int x8.1,int 0,int x8.2]])),kp hz16,kp (ypC (hy A (List.drop 1 B) v g x8.1 0 x8.2 (by omega)) c14),kY,kp (show ∀ (x:List AV),x∈encs (v++[(x8.1,tk 0 x8.2)])→AV.idsInL [] x=true from (encs_ids _))]) (others 91 [0,1,2]) 8 h
         · have h:=h.2 c14
           exact loop_next (l7++[ko (Orc.call [] (AOut.ret (Am.bool true)) (q1 f A (List.drop 1 B) g v++[AObj.box [int x8.1,int 0,int x8.2]])),kp hz16,kp (ynC (hy A (List.drop 1 B) v g x8.1 0 x8.2 (by omega)) c14),kY,kp hz8]) (others 91 [0,1,2]) 8 h
       · have h:=h.2 c13
         have hz15:Am.Sub (AV.sl 2 false (List.drop 1 (List.take (Int.toNat (↑(List.length (encs B)):Int)) (encs B)))) (AV.sl 2 false (encs (List.drop 1 B))):=(Sub.of_eq (by simp only [encs_length,encs_drop,encs_take,Int.toNat_natCast,List.take_length]))
         have hz16:(0:Int)≤(1:Int)∧(1:Int)≤(↑(List.length (encs B)):Int)∧(↑(List.length (encs B)):Int)≤(↑(List.length (encs B)):Int):=(by rw [encs_length]; omega)
         let l8:List Itm:=l6++[kf (qF c13),ko (Orc.elem (enc x6)),ko (Orc.elem (enc x6)),ko (Orc.elem (enc x8)),kp hz9,kp hz9,kp hz10,kv 27 (show Am.Sub (AV.sl 2 false (List.drop 1 (List.take (Int.toNat (↑(List.length (encs A)):Int)) (encs A)))) (AV.sl 2 false (encs (List.drop 1 A))) from (Sub.of_eq (by simp only [encs_length,encs_drop,encs_take,Int.toNat_natCast,List.take_length]))),kSl (1:Int) (↑(List.length (encs A)):Int) (↑(List.length (encs A)):Int) (by rw [encs_length]; omega),kv 29 hz15]
         by_cases c15:(tk x6.2 x8.2 > 0)
         · have h:=h.1 c15
           exact loop_next (l8++[ko (Orc.call [] (AOut.ret (Am.bool true)) (q1 f (List.drop 1 A) (List.drop 1 B) (g+1) (v++[(x6.1,tk x6.2 x8.2)])++[AObj.box [int x6.1,int x6.2,int x8.2]])),kp hz16,kp (ypC (hy (List.drop 1 A) (List.drop 1 B) v g x6.1 x6.2 x8.2 (by omega)) c15),kY,kp (show ∀ (x:List AV),x∈encs (v++[(x6.1,tk x6.2 x8.2)])→AV.idsInL [] x=true from (encs_ids _))]) (others 91 [0,1,2]) 8 h
         · have h:=h.2 c15
           exact loop_next (l8++[ko (Orc.call [] (AOut.ret (Am.bool true)) (q1 f (List.drop 1 A) (List.drop 1 B) g v++[AObj.box [int x6.1,int x6.2,int x8.2]])),kp hz16,kp (ynC (hy (List.drop 1 A) (List.drop 1 B) v g x6.1 x6.2 x8.2 (by omega)) c15),kY,kp hz8]) (others 91 [0,1,2]) 8 h
 · have h:=h.2 c1
   have hz1:=lenS (encs_length B)
   let l9:List Itm:=l1++[kf (qF c1),kv 10 hz1]
   by_cases c16:((B.length:Int) > 0)
   · have h:=h.1 c16
     obtain ⟨x19,o20,h⟩:=h
     have hz25:(0:Int)≤(0:Int)∧(encs B)[Int.toNat 0]? = some (enc x19):=(el_nat o20)
     let l10:List Itm:=l9++[kt (qT c16),kv 32 hz1,kf (show ((B.length:Int) == 0)=false from (qF (by omega))),kv 36 hz0,kf (qF c1),kY,kv 63 hz0,kt (show ((A.length:Int) == 0)=true from (qT (by omega))),kO,ko (Orc.elem (enc x19)),ko (Orc.elem (enc x19)),kp hz25,kp hz25,kv 86 (show Am.Sub (AV.sl 2 false (List.drop 1 (List.take (Int.toNat (↑(List.length (encs B)):Int)) (encs B)))) (AV.sl 2 false (encs (List.drop 1 B))) from (Sub.of_eq (by simp only [encs_length,encs_drop,encs_take,Int.toNat_natCast,List.take_length])))]
     by_cases c21:(tk 0 x19.2 > 0)
     · have h:=h.1 c21
       exact loop_next (l10++[ko (Orc.call [] (AOut.ret (Am.bool true)) (q1 f A (List.drop 1 B) (g+1) (v++[(x19.1,tk 0 x19.2)])++[AObj.box [int x19.1,int 0,int x19.2]])),kSl (1:Int) (↑(List.length (encs B)):Int) (↑(List.length (encs B)):Int) (by rw [encs_length]; omega),kp (ypC (hy A (List.drop 1 B) v g x19.1 0 x19.2 (by omega)) c21),kY,kp (show ∀ (x:List AV),x∈encs (v++[(x19.1,tk 0 x19.2)])→AV.idsInL [] x=true from (encs_ids _))]) (others 91 [0,1,2]) 8 h
     · have h:=h.2 c21
       exact loop_next (l10++[ko (Orc.call [] (AOut.ret (Am.bool true)) (q1 f A (List.drop 1 B) g v++[AObj.box [int x19.1,int 0,int x19.2]])),kSl (1:Int) (↑(List.length (encs B)):Int) (↑(List.length (encs B)):Int) (by rw [encs_length]; omega),kp (ynC (hy A (List.drop 1 B) v g x19.1 0 x19.2 (by omega)) c21),kY,kp hz8]) (others 91 [0,1,2]) 8 h
   · have h:=h.2 c16
     obtain ⟨eX,eS⟩:=h
     exact RunL.to ((show Rq 5 161 0 (plSt1 f A B g v) (AEx.exit 0) (sM 91 [] [jrng,.box [.sl 2 false (encs A)],.box [.sl 2 false (encs B)],.box [fnA f],.box [.own 7 g 0 v.length],.gone,.gone,.arr g 2 false (encs v)]) from loop_exit (l9++[kf (qF c16)]) (others 91 []) 8)) eX (SubS.of_eq eS)
end Go.Vec


namespace Go.Vec
open Go Go.Am Go.Proofs Go.Seat
def prN:Nat→List D→List D→List (Int × Int × Int)
 | 0,_,_=>[]
 | _+1,[],[]=>[]
 | n+1,x::a,[]=>(x.1,x.2,0)::prN n a []
 | n+1,[],y::b=>(y.1,0,y.2)::prN n [] b
 | n+1,x::a,y::b=>if x.1<y.1 then (x.1,x.2,0)::prN n a (y::b) else if y.1<x.1 then (y.1,0,y.2)::prN n (x::a) b else (x.1,x.2,y.2)::prN n a b
def ruleF (tk:Int→Int→Int) (p:Int × Int × Int):Option D:=if tk p.2.1 p.2.2 > 0 then some (p.1,tk p.2.1 p.2.2) else none
def prStep (A B:List D) (p:Int × Int × Int) (A' B':List D):Prop:=A'.length+B'.length+1≤A.length+B.length∧A'.length≤A.length∧B'.length≤B.length∧∀ n,prN (n+1) A B=p::prN n A' B'
theorem pr_arms (A B:List D) :
 (∀ x,A[0]? = some x→B.length=0→prStep A B (x.1,x.2,0) (A.drop 1) B) ∧
 (∀ x y,A[0]? = some x→B[0]? = some y→x.1<y.1→prStep A B (x.1,x.2,0) (A.drop 1) B) ∧
 (∀ x y,A[0]? = some x→B[0]? = some y→¬ x.1<y.1→y.1<x.1→prStep A B (y.1,0,y.2) A (B.drop 1)) ∧
 (∀ x y,A[0]? = some x→B[0]? = some y→¬ x.1<y.1→¬ y.1<x.1→prStep A B (x.1,x.2,y.2) (A.drop 1) (B.drop 1)) ∧
 (∀ y,A.length=0→B[0]? = some y→prStep A B (y.1,0,y.2) A (B.drop 1)):=by
 have hd:∀ {l:List D} {x},l[0]? = some x→l=x::l.drop 1:=fun {l x} h=>by
  cases l with
  | nil=>simp at h
  | cons y t=>simp at h; simp [h]
 refine ⟨fun x hx hb=>?_,fun x y hx hy h1=>?_,fun x y hx hy h1 h2=>?_,fun x y hx hy h1 h2=>?_,fun y ha hy=>?_⟩
 · have eb:B=[]:=List.eq_nil_of_length_eq_zero hb
   subst eb
   have ea:=hd hx
   generalize hA:A.drop 1=A' at ea
   subst ea
   exact ⟨by simp,by simp,by simp,fun n=>rfl⟩
 · have ea:=hd hx
   generalize hA:A.drop 1=A' at ea
   subst ea
   have eb:=hd hy
   generalize hB:B.drop 1=B' at eb
   subst eb
   exact ⟨by simp; omega,by simp,by simp,fun n=>by simp only [prN]; rw [if_pos h1]⟩
 · have ea:=hd hx
   generalize hA:A.drop 1=A' at ea
   subst ea
   have eb:=hd hy
   generalize hB:B.drop 1=B' at eb ⊢
   subst eb
   exact ⟨by simp; omega,by simp,by simp,fun n=>by simp only [prN]; rw [if_neg h1,if_pos h2]⟩
 · have ea:=hd hx
   generalize hA:A.drop 1=A' at ea ⊢
   subst ea
   have eb:=hd hy
   generalize hB:B.drop 1=B' at eb ⊢
   subst eb
   exact ⟨by simp; omega,by simp,by simp,fun n=>by simp only [prN]; rw [if_neg h1,if_neg h2]⟩
 · have ea:A=[]:=List.eq_nil_of_length_eq_zero ha
   subst ea
   have eb:=hd hy
   generalize hB:B.drop 1=B' at eb ⊢
   subst eb
   exact ⟨by simp,by simp,by simp,fun n=>rfl⟩
noncomputable def plOut (f g:Nat) (v:List D):St:={ env:=slots 91 [],H:=q1 f [] [] g v }
noncomputable def plFin (f:Nat) (t:List D):St:={ env:=slots 91 [],H:=if t=[] then q0 f [] [] else q1 f [] [] (t.length - 1) t }
section
variable (f:Nat) (tk:Int→Int→Int)
 (hy0:∀ A B d x y,YieldC P G 0 [.agg [int d,int x,int y]] (q0 f A B++[.box [int d,int x,int y]]) true (if tk x y > 0 then q1 f A B 0 [(d,tk x y)] else q0 f A B++[.box [int d,int x,int y]]))
 (hy1:∀ A B v g d x y,v.length≤3000000000→YieldC P G 0 [.agg [int d,int x,int y]] (q1 f A B g v++[.box [int d,int x,int y]]) true (if tk x y > 0 then q1 f A B (g+1) (v++[(d,tk x y)])++[.box [int d,int x,int y]] else q1 f A B g v++[.box [int d,int x,int y]]))
 include hy1
theorem pl_loop1:∀ n A B g v,A.length+B.length≤n→A.length≤1000000000→B.length≤1000000000→v.length+n≤3000000000 →
 Rq 5 161 0 (plSt1 f A B g v) (.exit 0) (plOut f (g+((prN n A B).filterMap (ruleF tk)).length) (v++(prN n A B).filterMap (ruleF tk))):=by
 intro n
 induction n with
 | zero =>
  intro A B g v hn hA hB hv
  have ea:A=[]:=List.eq_nil_of_length_eq_zero (by omega)
  have eb:B=[]:=List.eq_nil_of_length_eq_zero (by omega)
  subst ea eb
  refine pl_w1 f tk [] [] g v (by omega) hy1 hA hB _ _ ⟨fun h=>absurd h (by simp),fun _=>⟨fun h=>absurd h (by simp),fun _=>⟨rfl,?_⟩⟩⟩
  simp only [prN,List.filterMap_nil,List.append_nil,List.length_nil,Nat.add_zero]
  rfl
 | succ n ih =>
  intro A B g v hn hA hB hv
  obtain ⟨s1,s2,s3,s4,s5⟩:=pr_arms A B
  have fin:∀ {p A' B'},prStep A B p A' B' →
   (tk p.2.1 p.2.2 > 0→Rq 5 161 0 (plSt1 f A' B' (g+1) (v++[(p.1,tk p.2.1 p.2.2)])) (.exit 0) (plOut f (g+((prN (n+1) A B).filterMap (ruleF tk)).length) (v++(prN (n+1) A B).filterMap (ruleF tk)))) ∧
   (¬ tk p.2.1 p.2.2 > 0→Rq 5 161 0 (plSt1 f A' B' g v) (.exit 0) (plOut f (g+((prN (n+1) A B).filterMap (ruleF tk)).length) (v++(prN (n+1) A B).filterMap (ruleF tk)))):=fun {p A' B'} h=>by
   refine ⟨fun hp=>?_,fun hp=>?_⟩
   · have:=ih A' B' (g+1) (v++[(p.1,tk p.2.1 p.2.2)]) (by have:=h.1; omega) (by have:=h.2.1; omega) (by have:=h.2.2.1; omega) (by simp; omega)
     have e:ruleF tk p=some (p.1,tk p.2.1 p.2.2):=if_pos hp
     rw [h.2.2.2 n,List.filterMap_cons_some e,List.length_cons,show g+(((prN n A' B').filterMap (ruleF tk)).length+1)=g+1+((prN n A' B').filterMap (ruleF tk)).length by omega,show v++(p.1,tk p.2.1 p.2.2)::(prN n A' B').filterMap (ruleF tk)=v++[(p.1,tk p.2.1 p.2.2)]++(prN n A' B').filterMap (ruleF tk) by simp]
     exact this
   · have:=ih A' B' g v (by have:=h.1; omega) (by have:=h.2.1; omega) (by have:=h.2.2.1; omega) (by omega)
     have e:ruleF tk p=none:=if_neg hp
     rw [h.2.2.2 n,List.filterMap_cons_none e]
     exact this
  have gx:∀ {l:List D},((l.length:Int) > 0)→∃ x,l[0]? = some x:=fun h=>⟨_,List.getElem?_eq_getElem (by omega)⟩
  refine pl_w1 f tk A B g v (by omega) hy1 hA hB _ _ ⟨fun h=>?_,fun h=>⟨fun h'=>?_,fun h'=>⟨rfl,?_⟩⟩⟩
  · obtain ⟨x,hx⟩:=gx h
    refine ⟨fun h'=>⟨x,hx,fin (s1 x hx (by omega))⟩,fun h'=>?_⟩
    obtain ⟨y,hy⟩:=gx (l:=B) (by omega)
    exact ⟨x,hx,y,hy,⟨fun h1=>fin (s2 x y hx hy h1),fun h1=>⟨fun h2=>fin (s3 x y hx hy h1 h2),fun h2=>fin (s4 x y hx hy h1 h2)⟩⟩⟩
  · obtain ⟨y,hy⟩:=gx h'
    exact ⟨y,hy,fin (s5 y (by omega) hy)⟩
  · have ea:A=[]:=List.eq_nil_of_length_eq_zero (by omega)
    have eb:B=[]:=List.eq_nil_of_length_eq_zero (by omega)
    subst ea eb
    simp only [prN,List.filterMap_nil,List.append_nil,List.length_nil,Nat.add_zero]
    rfl
 include hy0
theorem pl_loop0:∀ n A B,A.length+B.length≤n→A.length≤1000000000→B.length≤1000000000→n≤2000000000 →
 Rq 5 161 0 (plSt0 f A B) (.exit 0) (plFin f ((prN n A B).filterMap (ruleF tk))):=by
 intro n
 induction n with
 | zero =>
  intro A B hn hA hB hv
  have ea:A=[]:=List.eq_nil_of_length_eq_zero (by omega)
  have eb:B=[]:=List.eq_nil_of_length_eq_zero (by omega)
  subst ea eb
  refine pl_w0 f tk [] [] hy0 hA hB _ _ ⟨fun h=>absurd h (by simp),fun _=>⟨fun h=>absurd h (by simp),fun _=>⟨rfl,?_⟩⟩⟩
  rfl
 | succ n ih =>
  intro A B hn hA hB hv
  obtain ⟨s1,s2,s3,s4,s5⟩:=pr_arms A B
  have fin:∀ {p A' B'},prStep A B p A' B' →
   (tk p.2.1 p.2.2 > 0→Rq 5 161 0 (plSt1 f A' B' 0 [(p.1,tk p.2.1 p.2.2)]) (.exit 0) (plFin f ((prN (n+1) A B).filterMap (ruleF tk)))) ∧
   (¬ tk p.2.1 p.2.2 > 0→Rq 5 161 0 (plSt0 f A' B') (.exit 0) (plFin f ((prN (n+1) A B).filterMap (ruleF tk)))):=fun {p A' B'} h=>by
   refine ⟨fun hp=>?_,fun hp=>?_⟩
   · have:=pl_loop1 f tk hy1 n A' B' 0 [(p.1,tk p.2.1 p.2.2)] (by have:=h.1; omega) (by have:=h.2.1; omega) (by have:=h.2.2.1; omega) (by simp; omega)
     have e:ruleF tk p=some (p.1,tk p.2.1 p.2.2):=if_pos hp
     rw [h.2.2.2 n,List.filterMap_cons_some e]
     have hne:¬ (p.1,tk p.2.1 p.2.2)::(prN n A' B').filterMap (ruleF tk)=[]:=by simp
     unfold plFin
     rw [if_neg hne]
     rw [Nat.zero_add] at this
     exact this
   · have:=ih A' B' (by have:=h.1; omega) (by have:=h.2.1; omega) (by have:=h.2.2.1; omega) (by omega)
     have e:ruleF tk p=none:=if_neg hp
     rw [h.2.2.2 n,List.filterMap_cons_none e]
     exact this
  have gx:∀ {l:List D},((l.length:Int) > 0)→∃ x,l[0]? = some x:=fun h=>⟨_,List.getElem?_eq_getElem (by omega)⟩
  refine pl_w0 f tk A B hy0 hA hB _ _ ⟨fun h=>?_,fun h=>⟨fun h'=>?_,fun h'=>⟨rfl,?_⟩⟩⟩
  · obtain ⟨x,hx⟩:=gx h
    refine ⟨fun h'=>⟨x,hx,fin (s1 x hx (by omega))⟩,fun h'=>?_⟩
    obtain ⟨y,hy⟩:=gx (l:=B) (by omega)
    exact ⟨x,hx,y,hy,⟨fun h1=>fin (s2 x y hx hy h1),fun h1=>⟨fun h2=>fin (s3 x y hx hy h1 h2),fun h2=>fin (s4 x y hx hy h1 h2)⟩⟩⟩
  · obtain ⟨y,hy⟩:=gx h'
    exact ⟨y,hy,fin (s5 y (by omega) hy)⟩
  · have ea:A=[]:=List.eq_nil_of_length_eq_zero (by omega)
    have eb:B=[]:=List.eq_nil_of_length_eq_zero (by omega)
    subst ea eb
    rfl
end
def mergeV (tk:Int→Int→Int) (a b:List D):List D:=(prN (a.length+b.length) a b).filterMap (ruleF tk)
theorem pl_g (a b:List D) (ha:a.length≤1000000000) (hb:b.length≤1000000000):Rq 5 161 0 (plSt0 307 a b) (.exit 0) { env:=slots 91 [],H:=if mergeV gmax a b=[] then q0 307 [] [] else q1 307 [] [] ((mergeV gmax a b).length - 1) (mergeV gmax a b) } :=
 pl_loop0 307 gmax gy0 gy1 _ a b (Nat.le_refl _) ha hb (by omega)
theorem p37g_w (a b:List D) (ha:a.length≤1000000000) (hb:b.length≤1000000000) (h:(((mergeV gmax a b=[])→[jrng,AObj.box [AV.sl 2 false []],AObj.box [AV.sl 2 false []],AObj.box [fnA 307],AObj.box [nilS]]=if mergeV gmax a b=[] then q0 307 [] [] else q1 307 [] [] (List.length (mergeV gmax a b) - 1) (mergeV gmax a b))∧((¬mergeV gmax a b=[])→[jrng,AObj.box [AV.sl 2 false []],AObj.box [AV.sl 2 false []],AObj.box [fnA 307],AObj.box [AV.own 7 (List.length (mergeV gmax a b) - 1) 0 (List.length (mergeV gmax a b))],AObj.gone,AObj.gone,AObj.arr (List.length (mergeV gmax a b) - 1) 2 false (encs (mergeV gmax a b))]=if mergeV gmax a b=[] then q0 307 [] [] else q1 307 [] [] (List.length (mergeV gmax a b) - 1) (mergeV gmax a b)))):CallC P G 161 [.yl 0,.ptr 1 0,.ptr 2 0] (q0 307 a b) (AOut.ret (AV.tup [])) (if mergeV gmax a b=[] then q0 307 [] [] else q1 307 [] [] (List.length (mergeV gmax a b) - 1) (mergeV gmax a b)):=by
 by_cases c1:(mergeV gmax a b=[])
 · have h:=h.1 c1
   have eH:=h
   exact CallC.heap ((show CallC P G 161 [.yl 0,.ptr 1 0,.ptr 2 0] (q0 307 a b) (AOut.ret (AV.tup [])) [jrng,AObj.box [AV.sl 2 false []],AObj.box [AV.sl 2 false []],AObj.box [fnA 307],AObj.box [nilS]] from callC_of [kl (rG [(3,88)]) 5 (show Rq 5 161 0 (sM 91 [(0,.yl 0),(1,.ptr 1 0),(2,.ptr 2 0)] [jrng,.box [.sl 2 false (encs a)],.box [.sl 2 false (encs b)],.box [fnA 307],.box [nilS]]) (AEx.exit 0) (sM 91 [] [jrng,.box [.sl 2 false []],.box [.sl 2 false []],.box [fnA 307],.box [nilS]]) from (by have h0:=(@pl_g (a) (b) (by omega) (by omega)); simp only [if_pos c1] at h0; exact h0))])) eH
 · have h:=h.2 c1
   have eH:=h
   exact CallC.heap ((show CallC P G 161 [.yl 0,.ptr 1 0,.ptr 2 0] (q0 307 a b) (AOut.ret (AV.tup [])) [jrng,AObj.box [AV.sl 2 false []],AObj.box [AV.sl 2 false []],AObj.box [fnA 307],AObj.box [AV.own 7 (List.length (mergeV gmax a b) - 1) 0 (List.length (mergeV gmax a b))],AObj.gone,AObj.gone,AObj.arr (List.length (mergeV gmax a b) - 1) 2 false (encs (mergeV gmax a b))] from callC_of [kl (rG [(3,88)]) 5 (show Rq 5 161 0 (sM 91 [(0,.yl 0),(1,.ptr 1 0),(2,.ptr 2 0)] [jrng,.box [.sl 2 false (encs a)],.box [.sl 2 false (encs b)],.box [fnA 307],.box [nilS]]) (AEx.exit 0) (sM 91 [] [jrng,.box [.sl 2 false []],.box [.sl 2 false []],.box [fnA 307],.box [.own 7 (List.length (mergeV gmax a b) - 1) 0 (List.length (mergeV gmax a b))],.gone,.gone,.arr (List.length (mergeV gmax a b) - 1) 2 false (encs (mergeV gmax a b))]) from (by have h0:=(@pl_g (a) (b) (by omega) (by omega)); simp only [if_neg c1] at h0; exact h0))])) eH
theorem p37g_c (a b:List D) (ha:a.length≤1000000000) (hb:b.length≤1000000000):CallC P G 161 [.yl 0,.ptr 1 0,.ptr 2 0] (q0 307 a b) (.ret (.tup [])) (if mergeV gmax a b=[] then q0 307 [] [] else q1 307 [] [] ((mergeV gmax a b).length - 1) (mergeV gmax a b)) :=
 p37g_w a b ha hb ⟨fun h=>by rw [if_pos h]; rfl,fun h=>by rw [if_neg h]; rfl⟩
theorem mg_w (a b:List D) (ha:a.length≤1000000000) (hb:b.length≤1000000000) (he:check2E a b=0) (h:(((mergeV gmax a b=[])→([])=(mergeV gmax a b))∧((¬mergeV gmax a b=[])→True))):Cq 91 [.agg [rl 307],vec a,vec b] (.tup [vec (mergeV gmax a b),int 0]):=by
 have hz0:=(@check2_c (a) (b) (by omega) (by omega))
 have hz2:=(@pairs_c (a) (b))
 let l1:List Itm:=[kc [] hz0,kf (show (check2E a b != 0)=false from (congrArg Bool.not (qT (by omega)))),kc [] hz2,ko (Orc.range [0,1,2,4,5,7,8,9,10,11,12,13,14,15,16,17,18,19,20,21,22,23,24,25,26,27,28,29,30,31,32,33,34] 0 none AEx.normal [] [])]
 by_cases c2:(mergeV gmax a b=[])
 · have h:=h.1 c2
   have e1:=h
   exact CallC.out ((show Cq 91 [.agg [rl 307],vec a,vec b] (.tup [nilS,int 0]) from callC_of (l1++[kc [5,2,3,0,1] (show CallC P G 161 [.yl 0,.ptr 1 0,.ptr 2 0] [AObj.rng LoopState.ready none (slots 35 [(3,AV.ptr 3 0),(6,AV.ptr 4 0)]) (Array.mk [20]) (Code.region 5 #[Oper.mk (some 9) (Op.alloc 175) 0 "vector.go:80" #[] none,Oper.mk none (Op.store 175 (Operand.tmp 9) (Operand.tmp 20)) 0 "vector.go:80" #[Edge.mk 0 Ground.data,Edge.mk 0 Ground.phase] none] false) (rbodyAt P 91 0),AObj.box [AV.sl 2 false (encs a)],AObj.box [AV.sl 2 false (encs b)],AObj.box [fnA 307],AObj.box [nilS]] (AOut.ret (AV.tup [])) [jrng,AObj.box [AV.sl 2 false []],AObj.box [AV.sl 2 false []],AObj.box [fnA 307],AObj.box [nilS]] from (by have h0:=(@p37g_c (a) (b) (by omega) (by omega)); simp only [if_pos c2] at h0; exact h0))]))) (Sub.tups ⟨(Sub.nil_eq (congrArg (List.map enc) e1)),Sub.refl _,trivial⟩)
 · have h:=h.2 c2
   have _:=h
   exact callC_of (l1++[kc [5,2,3,0,1] (show CallC P G 161 [.yl 0,.ptr 1 0,.ptr 2 0] [AObj.rng LoopState.ready none (slots 35 [(3,AV.ptr 3 0),(6,AV.ptr 4 0)]) (Array.mk [20]) (Code.region 5 #[Oper.mk (some 9) (Op.alloc 175) 0 "vector.go:80" #[] none,Oper.mk none (Op.store 175 (Operand.tmp 9) (Operand.tmp 20)) 0 "vector.go:80" #[Edge.mk 0 Ground.data,Edge.mk 0 Ground.phase] none] false) (rbodyAt P 91 0),AObj.box [AV.sl 2 false (encs a)],AObj.box [AV.sl 2 false (encs b)],AObj.box [fnA 307],AObj.box [nilS]] (AOut.ret (AV.tup [])) [jrng,AObj.box [AV.sl 2 false []],AObj.box [AV.sl 2 false []],AObj.box [fnA 307],AObj.box [AV.own 7 (List.length (mergeV gmax a b) - 1) 0 (List.length (mergeV gmax a b))],AObj.gone,AObj.gone,AObj.arr (List.length (mergeV gmax a b) - 1) 2 false (encs (mergeV gmax a b))] from (by have h0:=(@p37g_c (a) (b) (by omega) (by omega)); simp only [if_neg c2] at h0; exact h0)),ko (Orc.fz (some 34) (encs (mergeV gmax a b))),kp (show ∀ (x:List AV),x∈encs (mergeV gmax a b)→AV.idsInL [] x=true from (encs_ids _)),kp (show List.length (mergeV gmax a b) - 1=List.length (mergeV gmax a b) - 1 from (rfl)),kp (show List.take (List.length (mergeV gmax a b)) (List.drop 0 (encs (mergeV gmax a b)))=encs (mergeV gmax a b) from (encs_all _)),kp (show List.length (encs (mergeV gmax a b))=List.length (mergeV gmax a b) from (encs_length _)),kp (show ∀ (c:List AV),c∈encs (mergeV gmax a b)→List.all c AV.pureB=true from (encs_pure _))])
end Go.Vec


namespace Go.Vec
open Go Go.Am Go.Proofs Go.Seat
def joinF (a b:List D) (d:Int):Option D:=some (d,if atV d b > atV d a then atV d b else atV d a)
def joinV (a b:List D):List D:=(devs a b).filterMap (joinF a b)
end Go.Vec


namespace Go.Vec
open Go Go.Am Go.Proofs Go.Seat
theorem mg_c (a b:List D) (ha:a.length≤1000000000) (hb:b.length≤1000000000) (he:check2E a b=0):Cq 91 [.agg [rl 307],vec a,vec b] (.tup [vec (mergeV gmax a b),int 0]) :=
 mg_w a b ha hb he ⟨fun h=>h.symm,fun _=>trivial⟩
theorem mg_e (a b:List D) (ha:a.length≤1000000000) (hb:b.length≤1000000000) (he:¬ check2E a b=0) (f:Nat) (h:True):Cq 91 [.agg [rl f],vec a,vec b] (.tup [vec [],int (check2E a b)]):=by
 have _:=h
 exact CallC.out ((show Cq 91 [.agg [rl f],vec a,vec b] (.tup [nilS,int (check2E a b)]) from callC_of [kc [] (@check2_c (a) (b) (by omega) (by omega)),kt (show (check2E a b != 0)=true from (congrArg Bool.not (qF (by omega))))])) (Sub.tups ⟨(Sub.nil _),Sub.refl _,trivial⟩)
theorem mg_ec (f:Nat) (a b:List D) (ha:a.length≤1000000000) (hb:b.length≤1000000000) (he:¬ check2E a b=0):Cq 91 [.agg [rl f],vec a,vec b] (.tup [vec [],int (check2E a b)]):=mg_e a b ha hb he f trivial
def joinE (a b:List D):List D:=if check2E a b=0 then mergeV gmax a b else []
theorem mg_j (a b:List D) (ha:a.length≤1000000000) (hb:b.length≤1000000000):Cq 91 [.agg [rl 307],vec a,vec b] (.tup [vec (joinE a b),int (check2E a b)]):=by
 unfold joinE
 by_cases h:check2E a b=0
 · rw [if_pos h,h]; exact mg_c a b ha hb h
 · rw [if_neg h]; exact mg_ec 307 a b ha hb h
theorem join_w (a b:List D) (ha:a.length≤1000000000) (hb:b.length≤1000000000) (h:True):Cq 58 [vec a,vec b] (.tup [vec (joinE a b),int (check2E a b)]):=by
 have _:=h
 exact callC_of [kc [] (@mg_j (a) (b) (by omega) (by omega))]
theorem join_c (a b:List D) (ha:a.length≤1000000000) (hb:b.length≤1000000000):Cq 58 [vec a,vec b] (.tup [vec (joinE a b),int (check2E a b)]):=join_w a b ha hb trivial
theorem with_w (a:List D) (x y:Int) (ha:a.length≤1000000000) (h:True):Cq 29 [vec a,dot (x,y)] (.tup [vec (joinE a [(x,y)]),int (check2E a [(x,y)])]):=by
 have _:=h
 exact callC_of [kc [] (show Cq 58 [.sl 2 false (encs a),.sl 2 true [[int x,int y]]] (.tup [.sl 2 false (encs (joinE a [(x,y)])),int (check2E a [(x,y)])]) from (CallC.args' (@join_c (a) ([(x,y)]) (by omega) (by simp only [List.length_append,List.length_cons,List.length_nil,List.length_map]<;>omega)) ⟨Sub.refl _,Sub.loose _ _ _,trivial⟩))]
theorem with_c (a:List D) (x y:Int) (ha:a.length≤1000000000):Cq 29 [vec a,dot (x,y)] (.tup [vec (joinE a [(x,y)]),int (check2E a [(x,y)])]):=with_w a x y ha trivial
end Go.Vec


namespace Go.Vec
open Go Go.Am Go.Proofs Go.Seat
def lessP (ps:List (Int × Int × Int)):Bool:=ps.any fun p=>decide (p.2.1<p.2.2)
def moreP (ps:List (Int × Int × Int)):Bool:=ps.any fun p=>decide (p.2.1 > p.2.2)
def lessV (a b:List D):Bool:=lessP (prN (a.length+b.length) a b)
def moreV (a b:List D):Bool:=moreP (prN (a.length+b.length) a b)
def cmpV (a b:List D):Int:=if lessV a b=true then (if moreV a b=true then 2 else -1) else if moreV a b=true then 1 else 0
end Go.Vec


namespace Go.Ops
open Go Go.Am Go.Proofs Go.Seat Go.Vec Go.Cdc
def zK:AV:=.lit (.agg #[.int .i64 0,.nilFunc])
theorem key_ok (k:Int) (h : -9223372036854775808≤k∧k<9223372036854775808):∃ l,keyOf P 3 (.int .i64 k)=some l :=
 ⟨_,Maps.keyOf_int_mk Tryz.underlying3 (by simp [Lit.wf,IntKind.min,IntKind.max,IntKind.signed,IntKind.bits]; omega)⟩
theorem kinds_ok:∀ e∈kindsE,∃ l,keyOf P 3 e.1=some l:=by
 intro e he
 simp only [kindsE,List.mem_cons,List.not_mem_nil,or_false] at he
 rcases he with rfl | rfl | rfl | rfl | rfl | rfl | rfl | rfl<;>exact key_ok _ (by decide)
def partOf (k:Int):Int:=if k=1∨k=2 then 1 else if k=3∨k=4 then 2 else if k=5 then 3 else if k=6∨k=7∨k=8 then 4 else 0
theorem kg {k p:Int} {f:Nat} (hk : -9223372036854775808≤k∧k<9223372036854775808) (h:(.int .i64 k,.agg [int p,fnV f])∈kindsE):MapGet P 3 kindsE (.int .i64 k) zK (.agg [int p,fnV f]) true :=
 ⟨Maps.int_keyed Tryz.underlying3,key_ok k hk,kinds_ok,.inl ⟨rfl,h⟩⟩
theorem kg1:MapGet P 3 kindsE (.int .i64 1) zK (.agg [int 1,fnV 297]) true:=kg (by decide) (by simp [kindsE])
theorem kg2:MapGet P 3 kindsE (.int .i64 2) zK (.agg [int 1,fnV 299]) true:=kg (by decide) (by simp [kindsE])
theorem kg3:MapGet P 3 kindsE (.int .i64 3) zK (.agg [int 2,fnV 301]) true:=kg (by decide) (by simp [kindsE])
theorem kg4:MapGet P 3 kindsE (.int .i64 4) zK (.agg [int 2,fnV 302]) true:=kg (by decide) (by simp [kindsE])
theorem kg5:MapGet P 3 kindsE (.int .i64 5) zK (.agg [int 3,fnV 303]) true:=kg (by decide) (by simp [kindsE])
theorem kg6:MapGet P 3 kindsE (.int .i64 6) zK (.agg [int 4,fnV 304]) true:=kg (by decide) (by simp [kindsE])
theorem kg7:MapGet P 3 kindsE (.int .i64 7) zK (.agg [int 4,fnV 305]) true:=kg (by decide) (by simp [kindsE])
theorem kg8:MapGet P 3 kindsE (.int .i64 8) zK (.agg [int 4,fnV 306]) true:=kg (by decide) (by simp [kindsE])
theorem kgn (k:Int) (hk : -9223372036854775808≤k∧k<9223372036854775808) (h:k<1∨8<k):MapGet P 3 kindsE (.int .i64 k) zK zK false :=
 ⟨Maps.int_keyed Tryz.underlying3,key_ok k hk,kinds_ok,.inr ⟨rfl,rfl,fun e he=>by
  simp only [kindsE,List.mem_cons,List.not_mem_nil,or_false] at he
  rcases he with rfl | rfl | rfl | rfl | rfl | rfl | rfl | rfl<;>(intro hq; simp only [Value.int.injEq,true_and] at hq; omega)⟩⟩
theorem chkA (o:OP) (l:List D) (f:Int) (hw:Cq 29 [nilS,dot (o.dv,o.sq)] (.tup [vec l,int f])) (hf:¬ f=0) (h:True):Cq 31 [op o] (int 170):=by
 have _:=h
 exact callC_of [kc [] hw,kt (show (f != 0)=true from (congrArg Bool.not (qF (by omega)))),kO,kO,kO,kO]
theorem chkB (o:OP) (l:List D) (hw:Cq 29 [nilS,dot (o.dv,o.sq)] (.tup [vec l,int 0])) (ht:o.tm<1) (h:True):Cq 31 [op o] (int 170):=by
 have _:=h
 exact callC_of [kc [] hw,kY,ki (o.tm<1),kO,kO,kO]
theorem chkC (o:OP) (l:List D) (hw:Cq 29 [nilS,dot (o.dv,o.sq)] (.tup [vec l,int 0])) (ht:1≤o.tm) (ht2:1099511627776<o.tm) (h:True):Cq 31 [op o] (int 170):=by
 have _:=h
 exact callC_of [kc [] hw,kY,kj (o.tm<1),ki (o.tm > 1099511627776),kO,kO]
theorem chkD (o:OP) (l:List D) (f:Int) (hw:Cq 29 [nilS,dot (o.dv,o.sq)] (.tup [vec l,int 0])) (ht:1≤o.tm) (ht2:o.tm≤1099511627776) (hv:Cq 46 [vec o.cx] (int f)) (hf:¬ f=0) (h:True):Cq 31 [op o] (int 170):=by
 have _:=h
 exact callC_of [kc [] hw,kY,kj (o.tm<1),kj (o.tm > 1099511627776),kc [] hv,kt (show (f != 0)=true from (congrArg Bool.not (qF (by omega)))),kO]
theorem chkE (o:OP) (l:List D) (hw:Cq 29 [nilS,dot (o.dv,o.sq)] (.tup [vec l,int 0])) (ht:1≤o.tm) (ht2:o.tm≤1099511627776) (hv:Cq 46 [vec o.cx] (int 0)) (hc:Cq 28 [vec o.cx,dot (o.dv,o.sq)] (bool true)) (h:True):Cq 31 [op o] (int 170):=by
 have _:=h
 exact callC_of [kc [] hw,kY,kj (o.tm<1),kj (o.tm > 1099511627776),kc [] hv,kY,kc [] hc,kO]
theorem chkF (o:OP) (l:List D) (hw:Cq 29 [nilS,dot (o.dv,o.sq)] (.tup [vec l,int 0])) (ht:1≤o.tm) (ht2:o.tm≤1099511627776) (hv:Cq 46 [vec o.cx] (int 0)) (hc:Cq 28 [vec o.cx,dot (o.dv,o.sq)] (bool false)) (hm:MapGet P 3 kindsE (.int .i64 o.kd) zK zK false) (h:True):Cq 31 [op o] (int 170):=by
 have _:=h
 exact callC_of [kc [] hw,kY,kj (o.tm<1),kj (o.tm > 1099511627776),kc [] hv,kY,kc [] hc,kY,ko (Orc.mget zK false),kp hm,kO,kO,kO,kO,kO]
theorem chk1 (o:OP) (l:List D) (b:Bool) (v:Int) (hcx:o.cx.length≤1000000000) (hw:Cq 29 [nilS,dot (o.dv,o.sq)] (.tup [vec l,int 0])) (ht:1≤o.tm) (ht2:o.tm≤1099511627776) (hv:Cq 46 [vec o.cx] (int 0)) (hc:Cq 28 [vec o.cx,dot (o.dv,o.sq)] (bool false)) (hk:Cq 297 [opk o 1] (bool b)) (hr:Cq 60 [opk o 1] (op (restO o 1))) (hs:Cq 59 [op (restO o 1),op zop] (bool (decide (restO o 1=zop)))) (h:(((o.pk=1)→((((↑(ByteArray.size o.pn):Int) > 64)→170=v)∧((¬(↑(ByteArray.size o.pn):Int) > 64)→((((b)=true)→(((restO o 1=zop)→0=v)∧((¬restO o 1=zop)→170=v)))∧(((b)=false)→170=v)))))∧((¬o.pk=1)→170=v))):Cq 31 [opk o 1] (int v):=by
 have hz10:Cq 59 [.agg [int (OP.dv (restO o 1)),int (OP.sq (restO o 1)),int (OP.tm (restO o 1)),.sl 2 false [],int (OP.pk (restO o 1)),str (OP.pn (restO o 1)),int (OP.kd (restO o 1)),int (OP.f1 (restO o 1)),int (OP.f2 (restO o 1)),int (OP.f3 (restO o 1)),int (OP.t1 (restO o 1)),int (OP.t2 (restO o 1)),int (OP.t3 (restO o 1)),str (OP.ky (restO o 1)),str (OP.vl (restO o 1)),int (OP.n (restO o 1)),Am.bool (OP.on (restO o 1))],.agg [int 0,int 0,int 0,nilS,int 0,str (ByteArray.mk #[]),int 0,int 0,int 0,int 0,int 0,int 0,int 0,str (ByteArray.mk #[]),str (ByteArray.mk #[]),int 0,Am.bool false]] (Am.bool (decide (restO o 1=zop))):=(CallC.args' hs ⟨Sub.refl _,Sub.aggs ⟨Sub.refl _,Sub.refl _,Sub.refl _,(Sub.nil _),Sub.refl _,Sub.refl _,Sub.refl _,Sub.refl _,Sub.refl _,Sub.refl _,Sub.refl _,Sub.refl _,Sub.refl _,Sub.refl _,Sub.refl _,Sub.refl _,Sub.refl _,trivial⟩,trivial⟩)
 let l1:List Itm:=[kc [] hw,kY,kj (o.tm<1),kj (o.tm > 1099511627776),kc [] hv,kY,kc [] hc,kY,ko (Orc.mget (AV.agg [int 1,fnV 297]) true),kp kg1,kY]
 by_cases c3:(o.pk=1)
 · have h:=h.1 c3
   have hz6:(o.pk != 1)=false:=(congrArg Bool.not (qEq.2 c3))
   by_cases c4:((↑(ByteArray.size o.pn):Int) > 64)
   · have h:=h.1 c4
     exact callC_out (Sub.int_eq h) (l1++[kf hz6,kt (qT c4),kO,kO])
   · have h:=h.2 c4
     let l2:List Itm:=l1++[kf hz6,kf (qF c4),kc [] hk]
     rcases Bool.eq_false_or_eq_true ((b)) with c5 | c5
     · have h:=h.1 c5
       have hz8:(!b)=false:=(congrArg Bool.not (c5))
       by_cases c6:(restO o 1=zop)
       · have h:=h.1 c6
         exact callC_out (Sub.int_eq h) (l2++[kf hz8,kc [] hr,kc [] hz10,kf (show (!decide (restO o 1=zop))=false from (congrArg Bool.not (qT c6)))])
       · have h:=h.2 c6
         exact callC_out (Sub.int_eq h) (l2++[kf hz8,kc [] hr,kc [] hz10,kt (show (!decide (restO o 1=zop))=true from (congrArg Bool.not (qF c6)))])
     · have h:=h.2 c5
       exact callC_out (Sub.int_eq h) (l2++[kt (show (!b)=true from (congrArg Bool.not (c5))),kO])
 · have h:=h.2 c3
   exact callC_out (Sub.int_eq h) (l1++[kt (show (o.pk != 1)=true from (congrArg Bool.not (qN.2 c3))),kO,kO,kO])
theorem chk2 (o:OP) (l:List D) (b:Bool) (v:Int) (hcx:o.cx.length≤1000000000) (hw:Cq 29 [nilS,dot (o.dv,o.sq)] (.tup [vec l,int 0])) (ht:1≤o.tm) (ht2:o.tm≤1099511627776) (hv:Cq 46 [vec o.cx] (int 0)) (hc:Cq 28 [vec o.cx,dot (o.dv,o.sq)] (bool false)) (hk:Cq 299 [opk o 2] (bool b)) (hr:Cq 60 [opk o 2] (op (restO o 2))) (hs:Cq 59 [op (restO o 2),op zop] (bool (decide (restO o 2=zop)))) (h:(((o.pk=1)→((((↑(ByteArray.size o.pn):Int) > 64)→170=v)∧((¬(↑(ByteArray.size o.pn):Int) > 64)→((((b)=true)→(((restO o 2=zop)→0=v)∧((¬restO o 2=zop)→170=v)))∧(((b)=false)→170=v)))))∧((¬o.pk=1)→170=v))):Cq 31 [opk o 2] (int v):=by
 have hz10:Cq 59 [.agg [int (OP.dv (restO o 2)),int (OP.sq (restO o 2)),int (OP.tm (restO o 2)),.sl 2 false [],int (OP.pk (restO o 2)),str (OP.pn (restO o 2)),int (OP.kd (restO o 2)),int (OP.f1 (restO o 2)),int (OP.f2 (restO o 2)),int (OP.f3 (restO o 2)),int (OP.t1 (restO o 2)),int (OP.t2 (restO o 2)),int (OP.t3 (restO o 2)),str (OP.ky (restO o 2)),str (OP.vl (restO o 2)),int (OP.n (restO o 2)),Am.bool (OP.on (restO o 2))],.agg [int 0,int 0,int 0,nilS,int 0,str (ByteArray.mk #[]),int 0,int 0,int 0,int 0,int 0,int 0,int 0,str (ByteArray.mk #[]),str (ByteArray.mk #[]),int 0,Am.bool false]] (Am.bool (decide (restO o 2=zop))):=(CallC.args' hs ⟨Sub.refl _,Sub.aggs ⟨Sub.refl _,Sub.refl _,Sub.refl _,(Sub.nil _),Sub.refl _,Sub.refl _,Sub.refl _,Sub.refl _,Sub.refl _,Sub.refl _,Sub.refl _,Sub.refl _,Sub.refl _,Sub.refl _,Sub.refl _,Sub.refl _,Sub.refl _,trivial⟩,trivial⟩)
 let l1:List Itm:=[kc [] hw,kY,kj (o.tm<1),kj (o.tm > 1099511627776),kc [] hv,kY,kc [] hc,kY,ko (Orc.mget (AV.agg [int 1,fnV 299]) true),kp kg2,kY]
 by_cases c3:(o.pk=1)
 · have h:=h.1 c3
   have hz6:(o.pk != 1)=false:=(congrArg Bool.not (qEq.2 c3))
   by_cases c4:((↑(ByteArray.size o.pn):Int) > 64)
   · have h:=h.1 c4
     exact callC_out (Sub.int_eq h) (l1++[kf hz6,kt (qT c4),kO,kO])
   · have h:=h.2 c4
     let l2:List Itm:=l1++[kf hz6,kf (qF c4),kc [] hk]
     rcases Bool.eq_false_or_eq_true ((b)) with c5 | c5
     · have h:=h.1 c5
       have hz8:(!b)=false:=(congrArg Bool.not (c5))
       by_cases c6:(restO o 2=zop)
       · have h:=h.1 c6
         exact callC_out (Sub.int_eq h) (l2++[kf hz8,kc [] hr,kc [] hz10,kf (show (!decide (restO o 2=zop))=false from (congrArg Bool.not (qT c6)))])
       · have h:=h.2 c6
         exact callC_out (Sub.int_eq h) (l2++[kf hz8,kc [] hr,kc [] hz10,kt (show (!decide (restO o 2=zop))=true from (congrArg Bool.not (qF c6)))])
     · have h:=h.2 c5
       exact callC_out (Sub.int_eq h) (l2++[kt (show (!b)=true from (congrArg Bool.not (c5))),kO])
 · have h:=h.2 c3
   exact callC_out (Sub.int_eq h) (l1++[kt (show (o.pk != 1)=true from (congrArg Bool.not (qN.2 c3))),kO,kO,kO])
theorem chk3 (o:OP) (l:List D) (b:Bool) (v:Int) (hcx:o.cx.length≤1000000000) (hw:Cq 29 [nilS,dot (o.dv,o.sq)] (.tup [vec l,int 0])) (ht:1≤o.tm) (ht2:o.tm≤1099511627776) (hv:Cq 46 [vec o.cx] (int 0)) (hc:Cq 28 [vec o.cx,dot (o.dv,o.sq)] (bool false)) (hk:Cq 301 [opk o 3] (bool b)) (hr:Cq 60 [opk o 3] (op (restO o 3))) (hs:Cq 59 [op (restO o 3),op zop] (bool (decide (restO o 3=zop)))) (h:(((o.pk=2)→((((↑(ByteArray.size o.pn):Int) > 64)→170=v)∧((¬(↑(ByteArray.size o.pn):Int) > 64)→((((b)=true)→(((restO o 3=zop)→0=v)∧((¬restO o 3=zop)→170=v)))∧(((b)=false)→170=v)))))∧((¬o.pk=2)→170=v))):Cq 31 [opk o 3] (int v):=by
 have hz10:Cq 59 [.agg [int (OP.dv (restO o 3)),int (OP.sq (restO o 3)),int (OP.tm (restO o 3)),.sl 2 false [],int (OP.pk (restO o 3)),str (OP.pn (restO o 3)),int (OP.kd (restO o 3)),int (OP.f1 (restO o 3)),int (OP.f2 (restO o 3)),int (OP.f3 (restO o 3)),int (OP.t1 (restO o 3)),int (OP.t2 (restO o 3)),int (OP.t3 (restO o 3)),str (OP.ky (restO o 3)),str (OP.vl (restO o 3)),int (OP.n (restO o 3)),Am.bool (OP.on (restO o 3))],.agg [int 0,int 0,int 0,nilS,int 0,str (ByteArray.mk #[]),int 0,int 0,int 0,int 0,int 0,int 0,int 0,str (ByteArray.mk #[]),str (ByteArray.mk #[]),int 0,Am.bool false]] (Am.bool (decide (restO o 3=zop))):=(CallC.args' hs ⟨Sub.refl _,Sub.aggs ⟨Sub.refl _,Sub.refl _,Sub.refl _,(Sub.nil _),Sub.refl _,Sub.refl _,Sub.refl _,Sub.refl _,Sub.refl _,Sub.refl _,Sub.refl _,Sub.refl _,Sub.refl _,Sub.refl _,Sub.refl _,Sub.refl _,Sub.refl _,trivial⟩,trivial⟩)
 let l1:List Itm:=[kc [] hw,kY,kj (o.tm<1),kj (o.tm > 1099511627776),kc [] hv,kY,kc [] hc,kY,ko (Orc.mget (AV.agg [int 2,fnV 301]) true),kp kg3,kY]
 by_cases c3:(o.pk=2)
 · have h:=h.1 c3
   have hz6:(o.pk != 2)=false:=(congrArg Bool.not (qEq.2 c3))
   by_cases c4:((↑(ByteArray.size o.pn):Int) > 64)
   · have h:=h.1 c4
     exact callC_out (Sub.int_eq h) (l1++[kf hz6,kt (qT c4),kO,kO])
   · have h:=h.2 c4
     let l2:List Itm:=l1++[kf hz6,kf (qF c4),kc [] hk]
     rcases Bool.eq_false_or_eq_true ((b)) with c5 | c5
     · have h:=h.1 c5
       have hz8:(!b)=false:=(congrArg Bool.not (c5))
       by_cases c6:(restO o 3=zop)
       · have h:=h.1 c6
         exact callC_out (Sub.int_eq h) (l2++[kf hz8,kc [] hr,kc [] hz10,kf (show (!decide (restO o 3=zop))=false from (congrArg Bool.not (qT c6)))])
       · have h:=h.2 c6
         exact callC_out (Sub.int_eq h) (l2++[kf hz8,kc [] hr,kc [] hz10,kt (show (!decide (restO o 3=zop))=true from (congrArg Bool.not (qF c6)))])
     · have h:=h.2 c5
       exact callC_out (Sub.int_eq h) (l2++[kt (show (!b)=true from (congrArg Bool.not (c5))),kO])
 · have h:=h.2 c3
   exact callC_out (Sub.int_eq h) (l1++[kt (show (o.pk != 2)=true from (congrArg Bool.not (qN.2 c3))),kO,kO,kO])
theorem chk4 (o:OP) (l:List D) (b:Bool) (v:Int) (hcx:o.cx.length≤1000000000) (hw:Cq 29 [nilS,dot (o.dv,o.sq)] (.tup [vec l,int 0])) (ht:1≤o.tm) (ht2:o.tm≤1099511627776) (hv:Cq 46 [vec o.cx] (int 0)) (hc:Cq 28 [vec o.cx,dot (o.dv,o.sq)] (bool false)) (hk:Cq 302 [opk o 4] (bool b)) (hr:Cq 60 [opk o 4] (op (restO o 4))) (hs:Cq 59 [op (restO o 4),op zop] (bool (decide (restO o 4=zop)))) (h:(((o.pk=2)→((((↑(ByteArray.size o.pn):Int) > 64)→170=v)∧((¬(↑(ByteArray.size o.pn):Int) > 64)→((((b)=true)→(((restO o 4=zop)→0=v)∧((¬restO o 4=zop)→170=v)))∧(((b)=false)→170=v)))))∧((¬o.pk=2)→170=v))):Cq 31 [opk o 4] (int v):=by
 have hz10:Cq 59 [.agg [int (OP.dv (restO o 4)),int (OP.sq (restO o 4)),int (OP.tm (restO o 4)),.sl 2 false [],int (OP.pk (restO o 4)),str (OP.pn (restO o 4)),int (OP.kd (restO o 4)),int (OP.f1 (restO o 4)),int (OP.f2 (restO o 4)),int (OP.f3 (restO o 4)),int (OP.t1 (restO o 4)),int (OP.t2 (restO o 4)),int (OP.t3 (restO o 4)),str (OP.ky (restO o 4)),str (OP.vl (restO o 4)),int (OP.n (restO o 4)),Am.bool (OP.on (restO o 4))],.agg [int 0,int 0,int 0,nilS,int 0,str (ByteArray.mk #[]),int 0,int 0,int 0,int 0,int 0,int 0,int 0,str (ByteArray.mk #[]),str (ByteArray.mk #[]),int 0,Am.bool false]] (Am.bool (decide (restO o 4=zop))):=(CallC.args' hs ⟨Sub.refl _,Sub.aggs ⟨Sub.refl _,Sub.refl _,Sub.refl _,(Sub.nil _),Sub.refl _,Sub.refl _,Sub.refl _,Sub.refl _,Sub.refl _,Sub.refl _,Sub.refl _,Sub.refl _,Sub.refl _,Sub.refl _,Sub.refl _,Sub.refl _,Sub.refl _,trivial⟩,trivial⟩)
 let l1:List Itm:=[kc [] hw,kY,kj (o.tm<1),kj (o.tm > 1099511627776),kc [] hv,kY,kc [] hc,kY,ko (Orc.mget (AV.agg [int 2,fnV 302]) true),kp kg4,kY]
 by_cases c3:(o.pk=2)
 · have h:=h.1 c3
   have hz6:(o.pk != 2)=false:=(congrArg Bool.not (qEq.2 c3))
   by_cases c4:((↑(ByteArray.size o.pn):Int) > 64)
   · have h:=h.1 c4
     exact callC_out (Sub.int_eq h) (l1++[kf hz6,kt (qT c4),kO,kO])
   · have h:=h.2 c4
     let l2:List Itm:=l1++[kf hz6,kf (qF c4),kc [] hk]
     rcases Bool.eq_false_or_eq_true ((b)) with c5 | c5
     · have h:=h.1 c5
       have hz8:(!b)=false:=(congrArg Bool.not (c5))
       by_cases c6:(restO o 4=zop)
       · have h:=h.1 c6
         exact callC_out (Sub.int_eq h) (l2++[kf hz8,kc [] hr,kc [] hz10,kf (show (!decide (restO o 4=zop))=false from (congrArg Bool.not (qT c6)))])
       · have h:=h.2 c6
         exact callC_out (Sub.int_eq h) (l2++[kf hz8,kc [] hr,kc [] hz10,kt (show (!decide (restO o 4=zop))=true from (congrArg Bool.not (qF c6)))])
     · have h:=h.2 c5
       exact callC_out (Sub.int_eq h) (l2++[kt (show (!b)=true from (congrArg Bool.not (c5))),kO])
 · have h:=h.2 c3
   exact callC_out (Sub.int_eq h) (l1++[kt (show (o.pk != 2)=true from (congrArg Bool.not (qN.2 c3))),kO,kO,kO])
theorem chk5 (o:OP) (l:List D) (b:Bool) (v:Int) (hcx:o.cx.length≤1000000000) (hw:Cq 29 [nilS,dot (o.dv,o.sq)] (.tup [vec l,int 0])) (ht:1≤o.tm) (ht2:o.tm≤1099511627776) (hv:Cq 46 [vec o.cx] (int 0)) (hc:Cq 28 [vec o.cx,dot (o.dv,o.sq)] (bool false)) (hk:Cq 303 [opk o 5] (bool b)) (hr:Cq 60 [opk o 5] (op (restO o 5))) (hs:Cq 59 [op (restO o 5),op zop] (bool (decide (restO o 5=zop)))) (h:(((o.pk=3)→((((↑(ByteArray.size o.pn):Int) > 64)→170=v)∧((¬(↑(ByteArray.size o.pn):Int) > 64)→((((b)=true)→(((restO o 5=zop)→0=v)∧((¬restO o 5=zop)→170=v)))∧(((b)=false)→170=v)))))∧((¬o.pk=3)→170=v))):Cq 31 [opk o 5] (int v):=by
 have hz10:Cq 59 [.agg [int (OP.dv (restO o 5)),int (OP.sq (restO o 5)),int (OP.tm (restO o 5)),.sl 2 false [],int (OP.pk (restO o 5)),str (OP.pn (restO o 5)),int (OP.kd (restO o 5)),int (OP.f1 (restO o 5)),int (OP.f2 (restO o 5)),int (OP.f3 (restO o 5)),int (OP.t1 (restO o 5)),int (OP.t2 (restO o 5)),int (OP.t3 (restO o 5)),str (OP.ky (restO o 5)),str (OP.vl (restO o 5)),int (OP.n (restO o 5)),Am.bool (OP.on (restO o 5))],.agg [int 0,int 0,int 0,nilS,int 0,str (ByteArray.mk #[]),int 0,int 0,int 0,int 0,int 0,int 0,int 0,str (ByteArray.mk #[]),str (ByteArray.mk #[]),int 0,Am.bool false]] (Am.bool (decide (restO o 5=zop))):=(CallC.args' hs ⟨Sub.refl _,Sub.aggs ⟨Sub.refl _,Sub.refl _,Sub.refl _,(Sub.nil _),Sub.refl _,Sub.refl _,Sub.refl _,Sub.refl _,Sub.refl _,Sub.refl _,Sub.refl _,Sub.refl _,Sub.refl _,Sub.refl _,Sub.refl _,Sub.refl _,Sub.refl _,trivial⟩,trivial⟩)
 let l1:List Itm:=[kc [] hw,kY,kj (o.tm<1),kj (o.tm > 1099511627776),kc [] hv,kY,kc [] hc,kY,ko (Orc.mget (AV.agg [int 3,fnV 303]) true),kp kg5,kY]
 by_cases c3:(o.pk=3)
 · have h:=h.1 c3
   have hz6:(o.pk != 3)=false:=(congrArg Bool.not (qEq.2 c3))
   by_cases c4:((↑(ByteArray.size o.pn):Int) > 64)
   · have h:=h.1 c4
     exact callC_out (Sub.int_eq h) (l1++[kf hz6,kt (qT c4),kO,kO])
   · have h:=h.2 c4
     let l2:List Itm:=l1++[kf hz6,kf (qF c4),kc [] hk]
     rcases Bool.eq_false_or_eq_true ((b)) with c5 | c5
     · have h:=h.1 c5
       have hz8:(!b)=false:=(congrArg Bool.not (c5))
       by_cases c6:(restO o 5=zop)
       · have h:=h.1 c6
         exact callC_out (Sub.int_eq h) (l2++[kf hz8,kc [] hr,kc [] hz10,kf (show (!decide (restO o 5=zop))=false from (congrArg Bool.not (qT c6)))])
       · have h:=h.2 c6
         exact callC_out (Sub.int_eq h) (l2++[kf hz8,kc [] hr,kc [] hz10,kt (show (!decide (restO o 5=zop))=true from (congrArg Bool.not (qF c6)))])
     · have h:=h.2 c5
       exact callC_out (Sub.int_eq h) (l2++[kt (show (!b)=true from (congrArg Bool.not (c5))),kO])
 · have h:=h.2 c3
   exact callC_out (Sub.int_eq h) (l1++[kt (show (o.pk != 3)=true from (congrArg Bool.not (qN.2 c3))),kO,kO,kO])
theorem chk6 (o:OP) (l:List D) (b:Bool) (v:Int) (hcx:o.cx.length≤1000000000) (hw:Cq 29 [nilS,dot (o.dv,o.sq)] (.tup [vec l,int 0])) (ht:1≤o.tm) (ht2:o.tm≤1099511627776) (hv:Cq 46 [vec o.cx] (int 0)) (hc:Cq 28 [vec o.cx,dot (o.dv,o.sq)] (bool false)) (hk:Cq 304 [opk o 6] (bool b)) (hr:Cq 60 [opk o 6] (op (restO o 6))) (hs:Cq 59 [op (restO o 6),op zop] (bool (decide (restO o 6=zop)))) (h:(((o.pk=4)→((((↑(ByteArray.size o.pn):Int) > 64)→170=v)∧((¬(↑(ByteArray.size o.pn):Int) > 64)→((((b)=true)→(((restO o 6=zop)→0=v)∧((¬restO o 6=zop)→170=v)))∧(((b)=false)→170=v)))))∧((¬o.pk=4)→170=v))):Cq 31 [opk o 6] (int v):=by
 have hz10:Cq 59 [.agg [int (OP.dv (restO o 6)),int (OP.sq (restO o 6)),int (OP.tm (restO o 6)),.sl 2 false [],int (OP.pk (restO o 6)),str (OP.pn (restO o 6)),int (OP.kd (restO o 6)),int (OP.f1 (restO o 6)),int (OP.f2 (restO o 6)),int (OP.f3 (restO o 6)),int (OP.t1 (restO o 6)),int (OP.t2 (restO o 6)),int (OP.t3 (restO o 6)),str (OP.ky (restO o 6)),str (OP.vl (restO o 6)),int (OP.n (restO o 6)),Am.bool (OP.on (restO o 6))],.agg [int 0,int 0,int 0,nilS,int 0,str (ByteArray.mk #[]),int 0,int 0,int 0,int 0,int 0,int 0,int 0,str (ByteArray.mk #[]),str (ByteArray.mk #[]),int 0,Am.bool false]] (Am.bool (decide (restO o 6=zop))):=(CallC.args' hs ⟨Sub.refl _,Sub.aggs ⟨Sub.refl _,Sub.refl _,Sub.refl _,(Sub.nil _),Sub.refl _,Sub.refl _,Sub.refl _,Sub.refl _,Sub.refl _,Sub.refl _,Sub.refl _,Sub.refl _,Sub.refl _,Sub.refl _,Sub.refl _,Sub.refl _,Sub.refl _,trivial⟩,trivial⟩)
 let l1:List Itm:=[kc [] hw,kY,kj (o.tm<1),kj (o.tm > 1099511627776),kc [] hv,kY,kc [] hc,kY,ko (Orc.mget (AV.agg [int 4,fnV 304]) true),kp kg6,kY]
 by_cases c3:(o.pk=4)
 · have h:=h.1 c3
   have hz6:(o.pk != 4)=false:=(congrArg Bool.not (qEq.2 c3))
   by_cases c4:((↑(ByteArray.size o.pn):Int) > 64)
   · have h:=h.1 c4
     exact callC_out (Sub.int_eq h) (l1++[kf hz6,kt (qT c4),kO,kO])
   · have h:=h.2 c4
     let l2:List Itm:=l1++[kf hz6,kf (qF c4),kc [] hk]
     rcases Bool.eq_false_or_eq_true ((b)) with c5 | c5
     · have h:=h.1 c5
       have hz8:(!b)=false:=(congrArg Bool.not (c5))
       by_cases c6:(restO o 6=zop)
       · have h:=h.1 c6
         exact callC_out (Sub.int_eq h) (l2++[kf hz8,kc [] hr,kc [] hz10,kf (show (!decide (restO o 6=zop))=false from (congrArg Bool.not (qT c6)))])
       · have h:=h.2 c6
         exact callC_out (Sub.int_eq h) (l2++[kf hz8,kc [] hr,kc [] hz10,kt (show (!decide (restO o 6=zop))=true from (congrArg Bool.not (qF c6)))])
     · have h:=h.2 c5
       exact callC_out (Sub.int_eq h) (l2++[kt (show (!b)=true from (congrArg Bool.not (c5))),kO])
 · have h:=h.2 c3
   exact callC_out (Sub.int_eq h) (l1++[kt (show (o.pk != 4)=true from (congrArg Bool.not (qN.2 c3))),kO,kO,kO])
theorem chk7 (o:OP) (l:List D) (b:Bool) (v:Int) (hcx:o.cx.length≤1000000000) (hw:Cq 29 [nilS,dot (o.dv,o.sq)] (.tup [vec l,int 0])) (ht:1≤o.tm) (ht2:o.tm≤1099511627776) (hv:Cq 46 [vec o.cx] (int 0)) (hc:Cq 28 [vec o.cx,dot (o.dv,o.sq)] (bool false)) (hk:Cq 305 [opk o 7] (bool b)) (hr:Cq 60 [opk o 7] (op (restO o 7))) (hs:Cq 59 [op (restO o 7),op zop] (bool (decide (restO o 7=zop)))) (h:(((o.pk=4)→((((↑(ByteArray.size o.pn):Int) > 64)→170=v)∧((¬(↑(ByteArray.size o.pn):Int) > 64)→((((b)=true)→(((restO o 7=zop)→0=v)∧((¬restO o 7=zop)→170=v)))∧(((b)=false)→170=v)))))∧((¬o.pk=4)→170=v))):Cq 31 [opk o 7] (int v):=by
 have hz10:Cq 59 [.agg [int (OP.dv (restO o 7)),int (OP.sq (restO o 7)),int (OP.tm (restO o 7)),.sl 2 false [],int (OP.pk (restO o 7)),str (OP.pn (restO o 7)),int (OP.kd (restO o 7)),int (OP.f1 (restO o 7)),int (OP.f2 (restO o 7)),int (OP.f3 (restO o 7)),int (OP.t1 (restO o 7)),int (OP.t2 (restO o 7)),int (OP.t3 (restO o 7)),str (OP.ky (restO o 7)),str (OP.vl (restO o 7)),int (OP.n (restO o 7)),Am.bool (OP.on (restO o 7))],.agg [int 0,int 0,int 0,nilS,int 0,str (ByteArray.mk #[]),int 0,int 0,int 0,int 0,int 0,int 0,int 0,str (ByteArray.mk #[]),str (ByteArray.mk #[]),int 0,Am.bool false]] (Am.bool (decide (restO o 7=zop))):=(CallC.args' hs ⟨Sub.refl _,Sub.aggs ⟨Sub.refl _,Sub.refl _,Sub.refl _,(Sub.nil _),Sub.refl _,Sub.refl _,Sub.refl _,Sub.refl _,Sub.refl _,Sub.refl _,Sub.refl _,Sub.refl _,Sub.refl _,Sub.refl _,Sub.refl _,Sub.refl _,Sub.refl _,trivial⟩,trivial⟩)
 let l1:List Itm:=[kc [] hw,kY,kj (o.tm<1),kj (o.tm > 1099511627776),kc [] hv,kY,kc [] hc,kY,ko (Orc.mget (AV.agg [int 4,fnV 305]) true),kp kg7,kY]
 by_cases c3:(o.pk=4)
 · have h:=h.1 c3
   have hz6:(o.pk != 4)=false:=(congrArg Bool.not (qEq.2 c3))
   by_cases c4:((↑(ByteArray.size o.pn):Int) > 64)
   · have h:=h.1 c4
     exact callC_out (Sub.int_eq h) (l1++[kf hz6,kt (qT c4),kO,kO])
   · have h:=h.2 c4
     let l2:List Itm:=l1++[kf hz6,kf (qF c4),kc [] hk]
     rcases Bool.eq_false_or_eq_true ((b)) with c5 | c5
     · have h:=h.1 c5
       have hz8:(!b)=false:=(congrArg Bool.not (c5))
       by_cases c6:(restO o 7=zop)
       · have h:=h.1 c6
         exact callC_out (Sub.int_eq h) (l2++[kf hz8,kc [] hr,kc [] hz10,kf (show (!decide (restO o 7=zop))=false from (congrArg Bool.not (qT c6)))])
       · have h:=h.2 c6
         exact callC_out (Sub.int_eq h) (l2++[kf hz8,kc [] hr,kc [] hz10,kt (show (!decide (restO o 7=zop))=true from (congrArg Bool.not (qF c6)))])
     · have h:=h.2 c5
       exact callC_out (Sub.int_eq h) (l2++[kt (show (!b)=true from (congrArg Bool.not (c5))),kO])
 · have h:=h.2 c3
   exact callC_out (Sub.int_eq h) (l1++[kt (show (o.pk != 4)=true from (congrArg Bool.not (qN.2 c3))),kO,kO,kO])
theorem chk8 (o:OP) (l:List D) (b:Bool) (v:Int) (hcx:o.cx.length≤1000000000) (hw:Cq 29 [nilS,dot (o.dv,o.sq)] (.tup [vec l,int 0])) (ht:1≤o.tm) (ht2:o.tm≤1099511627776) (hv:Cq 46 [vec o.cx] (int 0)) (hc:Cq 28 [vec o.cx,dot (o.dv,o.sq)] (bool false)) (hk:Cq 306 [opk o 8] (bool b)) (hr:Cq 60 [opk o 8] (op (restO o 8))) (hs:Cq 59 [op (restO o 8),op zop] (bool (decide (restO o 8=zop)))) (h:(((o.pk=4)→((((↑(ByteArray.size o.pn):Int) > 64)→170=v)∧((¬(↑(ByteArray.size o.pn):Int) > 64)→((((b)=true)→(((restO o 8=zop)→0=v)∧((¬restO o 8=zop)→170=v)))∧(((b)=false)→170=v)))))∧((¬o.pk=4)→170=v))):Cq 31 [opk o 8] (int v):=by
 have hz10:Cq 59 [.agg [int (OP.dv (restO o 8)),int (OP.sq (restO o 8)),int (OP.tm (restO o 8)),.sl 2 false [],int (OP.pk (restO o 8)),str (OP.pn (restO o 8)),int (OP.kd (restO o 8)),int (OP.f1 (restO o 8)),int (OP.f2 (restO o 8)),int (OP.f3 (restO o 8)),int (OP.t1 (restO o 8)),int (OP.t2 (restO o 8)),int (OP.t3 (restO o 8)),str (OP.ky (restO o 8)),str (OP.vl (restO o 8)),int (OP.n (restO o 8)),Am.bool false],.agg [int 0,int 0,int 0,nilS,int 0,str (ByteArray.mk #[]),int 0,int 0,int 0,int 0,int 0,int 0,int 0,str (ByteArray.mk #[]),str (ByteArray.mk #[]),int 0,Am.bool false]] (Am.bool (decide (restO o 8=zop))):=(CallC.args' hs ⟨Sub.refl _,Sub.aggs ⟨Sub.refl _,Sub.refl _,Sub.refl _,(Sub.nil _),Sub.refl _,Sub.refl _,Sub.refl _,Sub.refl _,Sub.refl _,Sub.refl _,Sub.refl _,Sub.refl _,Sub.refl _,Sub.refl _,Sub.refl _,Sub.refl _,Sub.refl _,trivial⟩,trivial⟩)
 let l1:List Itm:=[kc [] hw,kY,kj (o.tm<1),kj (o.tm > 1099511627776),kc [] hv,kY,kc [] hc,kY,ko (Orc.mget (AV.agg [int 4,fnV 306]) true),kp kg8,kY]
 by_cases c3:(o.pk=4)
 · have h:=h.1 c3
   have hz6:(o.pk != 4)=false:=(congrArg Bool.not (qEq.2 c3))
   by_cases c4:((↑(ByteArray.size o.pn):Int) > 64)
   · have h:=h.1 c4
     exact callC_out (Sub.int_eq h) (l1++[kf hz6,kt (qT c4),kO,kO])
   · have h:=h.2 c4
     let l2:List Itm:=l1++[kf hz6,kf (qF c4),kc [] hk]
     rcases Bool.eq_false_or_eq_true ((b)) with c5 | c5
     · have h:=h.1 c5
       have hz8:(!b)=false:=(congrArg Bool.not (c5))
       by_cases c6:(restO o 8=zop)
       · have h:=h.1 c6
         exact callC_out (Sub.int_eq h) (l2++[kf hz8,kc [] hr,kc [] hz10,kf (show (!decide (restO o 8=zop))=false from (congrArg Bool.not (qT c6)))])
       · have h:=h.2 c6
         exact callC_out (Sub.int_eq h) (l2++[kf hz8,kc [] hr,kc [] hz10,kt (show (!decide (restO o 8=zop))=true from (congrArg Bool.not (qF c6)))])
     · have h:=h.2 c5
       exact callC_out (Sub.int_eq h) (l2++[kt (show (!b)=true from (congrArg Bool.not (c5))),kO])
 · have h:=h.2 c3
   exact callC_out (Sub.int_eq h) (l1++[kt (show (o.pk != 4)=true from (congrArg Bool.not (qN.2 c3))),kO,kO,kO])
end Go.Ops


namespace Go.Ops
open Go Go.Am Go.Proofs Go.Seat Go.Vec Go.Cdc
end Go.Ops


namespace Go.Ops
open Go Go.Am Go.Proofs Go.Seat Go.Vec Go.Cdc
structure Okn (o:OP):Prop where
 cx:o.cx.length≤1000000000
 kd : -9223372036854775808≤o.kd∧o.kd<9223372036854775808
 f3 : -9223372036854775808≤o.f3∧o.f3<9223372036854775808
def stageB (o:OP):Bool:=isDotB (o.dv,o.sq) && decide (o.tm≥1) && decide (o.tm≤1099511627776) && okB o.cx && !coversB o.cx (o.dv,o.sq)
def kindB (o:OP):Bool:=decide (o.pk=partOf o.kd) && decide ((o.pn.size:Int)≤64) && fieldsB o o.kd && decide (restO o o.kd=zop)
def chkB' (o:OP):Bool:=stageB o && decide (1≤o.kd) && decide (o.kd≤8) && kindB o
def chkOE (o:OP):Int:=if chkB' o=true then 0 else 170
theorem dot1 (x:D):checkE [x]=if isDotB x=true then 0 else 120:=by
 unfold checkE okB
 simp [okN,okAt]
theorem with_nil (o:OP):∃ l:List D,Cq 29 [nilS,dot (o.dv,o.sq)] (.tup [vec l,int (if isDotB (o.dv,o.sq)=true then 0 else 120)]):=by
 have h:=with_c [] o.dv o.sq (by simp)
 refine ⟨joinE [] [(o.dv,o.sq)],?_⟩
 have e:check2E [] [(o.dv,o.sq)]=if isDotB (o.dv,o.sq)=true then 0 else 120:=by
  unfold check2E
  rw [if_pos (by rfl),dot1]
 rw [e] at h
 exact CallC.args' h ⟨Sub.nil 2,Sub.refl _,trivial⟩
theorem kind_c (o:OP) (k:Int) (b:Bool) (hb:b=fieldsB o k) (hk:o.kd=k) (hs:stageB o=true) (h1:1≤k) (h8:k≤8)
 (h:∀ v,(((o.pk=partOf k→((((o.pn.size:Int) > 64→170=v)∧(¬ (o.pn.size:Int) > 64→((b=true→((restO o k=zop→0=v)∧(¬ restO o k=zop→170=v)))∧(b=false→170=v))))))∧(¬ o.pk=partOf k→170=v)))→Cq 31 [opk o k] (int v)) :
 Cq 31 [op o] (int (chkOE o)):=by
 rw [← opk_op o k hk]
 apply h
 subst hk hb
 have e:chkB' o=kindB o:=by simp [chkB',hs,h1,h8]
 unfold chkOE
 rw [e]
 unfold kindB
 refine ⟨fun a=>⟨fun b=>?_,fun b=>⟨fun c=>⟨fun d=>?_,fun d=>?_⟩,fun c=>?_⟩⟩,fun a=>?_⟩
 · rw [if_neg]; intro hq; simp only [Bool.and_eq_true,decide_eq_true_eq] at hq; omega
 · rw [if_pos]; simp only [Bool.and_eq_true,decide_eq_true_eq]; exact ⟨⟨⟨a,by omega⟩,c⟩,d⟩
 · rw [if_neg]; intro hq; simp only [Bool.and_eq_true,decide_eq_true_eq] at hq; exact d hq.2
 · rw [if_neg]; intro hq; simp only [Bool.and_eq_true,decide_eq_true_eq] at hq; rw [c] at hq; exact absurd hq.1.2 (by decide)
 · rw [if_neg]; intro hq; simp only [Bool.and_eq_true,decide_eq_true_eq] at hq; exact a hq.1.1.1
theorem restO_cx (o:OP) (k:Int):(restO o k).cx=[]:=by unfold restO; split<;>rfl
theorem rest_same (o:OP) (k:Int):Cq 59 [op (restO o k),op zop] (bool (decide (restO o k=zop))):=same_c _ _ (by rw [restO_cx]; simp)
theorem bad_c (o:OP) (h:chkB' o=false) (hc:Cq 31 [op o] (int 170)):Cq 31 [op o] (int (chkOE o)):=by
 rw [show chkOE o=170 by unfold chkOE; rw [if_neg (by rw [h]; decide)]]; exact hc
theorem check_c (o:OP) (hn:Okn o):Cq 31 [op o] (int (chkOE o)):=by
 obtain ⟨l,hw⟩:=with_nil o
 by_cases hd:isDotB (o.dv,o.sq)=true
 · rw [if_pos hd] at hw
   by_cases t1:o.tm<1
   · exact bad_c o (by simp only [chkB',stageB]; simp [show ¬ o.tm≥1 by omega]) (chkB o l hw t1 trivial)
   by_cases t2:1099511627776<o.tm
   · exact bad_c o (by simp only [chkB',stageB]; simp [show ¬ o.tm≤1099511627776 by omega]) (chkC o l hw (by omega) t2 trivial)
   have hv:=Vec.check_c o.cx hn.cx
   by_cases hok:okB o.cx=true
   · have e0:checkE o.cx=0:=by unfold checkE; rw [if_pos hok]
     rw [e0] at hv
     have hcv:=covers_c o.cx o.dv o.sq hn.cx
     cases hcb:coversB o.cx (o.dv,o.sq) with
     | true =>
      rw [hcb] at hcv
      exact bad_c o (by simp only [chkB',stageB]; simp [hcb]) (chkE o l hw (by omega) (by omega) hv hcv trivial)
     | false =>
      rw [hcb] at hcv
      have hs:stageB o=true:=by simp only [stageB]; simp [hd,hok,hcb]; omega
      by_cases hk:o.kd<1∨8<o.kd
      · exact bad_c o (by
         unfold chkB'
         have:(decide (1≤o.kd) && decide (o.kd≤8))=false:=by
          rw [Bool.and_eq_false_iff]; simp; omega
         rw [Bool.and_assoc (stageB o),this]; simp) (chkF o l hw (by omega) (by omega) hv hcv (kgn o.kd hn.kd hk) trivial)
      · have hcase:o.kd=1∨o.kd=2∨o.kd=3∨o.kd=4∨o.kd=5∨o.kd=6∨o.kd=7∨o.kd=8:=by omega
        rcases hcase with h | h | h | h | h | h | h | h
        · exact kind_c o 1 _ rfl h hs (by decide) (by decide) fun v q=>chk1 o l _ v hn.cx hw (by omega) (by omega) hv hcv (k1_c { o with kd:=1 } hn.cx) (rest1_w o trivial) (rest_same o 1) q
        · exact kind_c o 2 _ rfl h hs (by decide) (by decide) fun v q=>chk2 o l _ v hn.cx hw (by omega) (by omega) hv hcv (k2_c { o with kd:=2 } hn.cx) (rest2_w o trivial) (rest_same o 2) q
        · exact kind_c o 3 _ rfl h hs (by decide) (by decide) fun v q=>chk3 o l _ v hn.cx hw (by omega) (by omega) hv hcv (k3_c { o with kd:=3 }) (rest3_w o trivial) (rest_same o 3) q
        · exact kind_c o 4 _ rfl h hs (by decide) (by decide) fun v q=>chk4 o l _ v hn.cx hw (by omega) (by omega) hv hcv (k4_c { o with kd:=4 }) (rest4_w o trivial) (rest_same o 4) q
        · exact kind_c o 5 _ rfl h hs (by decide) (by decide) fun v q=>chk5 o l _ v hn.cx hw (by omega) (by omega) hv hcv (k5_c { o with kd:=5 }) (rest5_w o trivial) (rest_same o 5) q
        · exact kind_c o 6 _ rfl h hs (by decide) (by decide) fun v q=>chk6 o l _ v hn.cx hw (by omega) (by omega) hv hcv (k6_c { o with kd:=6 } hn.cx) (rest6_w o trivial) (rest_same o 6) q
        · exact kind_c o 7 _ rfl h hs (by decide) (by decide) fun v q=>chk7 o l _ v hn.cx hw (by omega) (by omega) hv hcv (k7_c { o with kd:=7 } hn.cx hn.f3) (rest7_w o trivial) (rest_same o 7) q
        · exact kind_c o 8 _ rfl h hs (by decide) (by decide) fun v q=>chk8 o l _ v hn.cx hw (by omega) (by omega) hv hcv (k8_c { o with kd:=8 } hn.cx) (rest8_w o trivial) (rest_same o 8) q
   · have e0:¬ checkE o.cx=0:=by unfold checkE; rw [if_neg hok]; decide
     exact bad_c o (by simp only [chkB',stageB]; simp [hok]) (chkD o l _ hw (by omega) (by omega) hv e0 trivial)
 · rw [if_neg hd] at hw
   exact bad_c o (by simp only [chkB',stageB]; simp [hd]) (chkA o l 120 hw (by decide) trivial)
end Go.Ops


namespace Go.Cdc
open Go Go.Am Go.Proofs Go.Seat
theorem lstF_comp {p:List UInt8→Bool × CV × List UInt8}:∀ (l:List CV) (r:List UInt8),(∀ x∈l,∀ r,p (encB x++r)=(true,x,r))→lstF p l.length (encBL l++r)=(true,l,r)
 | [],r,_=>rfl
 | v::l,r,h=>by
  have h1:=h v List.mem_cons_self (encBL l++r)
  have ih:=lstF_comp l r fun x hx=>h x (List.mem_cons_of_mem _ hx)
  rw [encBL_cons,List.append_assoc]
  show lstF p (l.length+1) _=_
  simp only [lstF,h1,if_true,ih]
theorem valF_comp (v:CV):∀ (d:Nat) (r:List UInt8),wf v=true→Okv v→dp v≤d→valF d (encB v++r)=(true,v,r):=by
 refine CV.ind (p:=fun v=>∀ (d:Nat) (r:List UInt8),wf v=true→Okv v→dp v≤d→valF d (encB v++r)=(true,v,r)) (fun k n s l ih d r hw hok hd=>?_) v
 cases hok with
 | mk _ _ _ _ hn hs hl hall =>
 have hdeep:∃ deep p,valF d=valS deep p:=by cases d<;>exact ⟨_,_,rfl⟩
 obtain ⟨deep,p,hp⟩:=hdeep
 by_cases h1:k=1
 · subst h1
   simp only [wf,if_true,Bool.and_eq_true,decide_eq_true_eq] at hw
   obtain ⟨rfl,hl0⟩:=hw
   obtain rfl:=List.eq_nil_of_length_eq_zero hl0
   obtain ⟨k1,k2,k3⟩:=numF_num0 (uns n) (uns_lt hn) r
   have e:encB (.mk 1 n .empty [])++r=1::(num (uns n)++r):=by simp [encB]
   rw [hp,e,valS_1 (by decide),k1,k2,k3,sgn_uns]
   rfl
 by_cases h2:k=2
 · subst h2
   have hw':n=0∧l.length=0:=by simpa [wf] using hw
   obtain ⟨rfl,hl0⟩:=hw'
   obtain rfl:=List.eq_nil_of_length_eq_zero hl0
   obtain ⟨k1,k2,k3⟩:=numF_num0 s.size (by omega) (s.data.toList++r)
   have e:encB (.mk 2 0 s [])++r=2::(num s.size++(s.data.toList++r)):=by simp [encB]
   have hlen:s.data.toList.length=s.size:=rfl
   have ok:lenOk (num s.size++(s.data.toList++r))=true:=by
    simp only [lenOk,k1,k2,k3,Bool.true_and,decide_eq_true_eq,List.length_append,hlen]; omega
   rw [hp,e,valS_2 (by decide),ok,k2,k3,← hlen,List.take_left',List.drop_left']
   · rfl
   · rfl
   · rfl
 · have hk:k=3:=by
    rcases wf_k hw with h | h | h
    · exact absurd h h1
    · exact absurd h h2
    · exact h
   subst hk
   have hw':(n=0∧s = .empty)∧wfL l=true:=by simpa [wf,Bool.and_eq_true] using hw
   obtain ⟨⟨rfl,rfl⟩,hwl⟩:=hw'
   have hdl:dpL l+1≤d:=by simpa [dp] using hd
   obtain ⟨d',rfl⟩:∃ d',d=d'+1:=⟨d - 1,by omega⟩
   obtain ⟨k1,k2,k3⟩:=numF_num0 l.length (by omega) (encBL l++r)
   have e:encB (.mk 3 0 .empty l)++r=3::(num l.length++(encBL l++r)):=by simp [encB]
   have hle:=encBL_len l
   have ok:lenOk (num l.length++(encBL l++r))=true:=by
    simp only [lenOk,k1,k2,k3,Bool.true_and,decide_eq_true_eq,List.length_append]; omega
   show valS true (valF d') _=_
   rw [e,valS_3 (by decide),if_pos ⟨rfl,ok⟩,k2,k3,lstF_comp l r fun x hx r=>ih x hx d' r (wfL_mem hwl x hx) (hall x hx) (by have:=dp_mem hx; omega)]
   rfl
theorem dec_enc (v:CV) (hw:wf v=true) (hok:Okv v) (hd:dp v≤16):decV (encB v)=v∧decE (encB v)=0:=by
 have h:=valF_comp v 16 [] hw hok hd
 rw [List.append_nil] at h
 have hb:decB (encB v)=true:=by simp [decB,h]
 exact ⟨by simp [decV,hb,h],by simp [decE,hb]⟩
end Go.Cdc


namespace Go.Ops
open Go Go.Am Go.Proofs Go.Seat Go.Vec Go.Cdc
abbrev I64 (n:Int):Prop := -9223372036854775808≤n∧n<9223372036854775808
structure Okp (o:OP):Prop where
 dv:I64 o.dv
 sq:I64 o.sq
 tm:I64 o.tm
 cx:∀ d∈o.cx,I64 d.1∧I64 d.2
 pk:I64 o.pk
 kd:I64 o.kd
 f1:I64 o.f1
 f2:I64 o.f2
 f3:I64 o.f3
 t1:I64 o.t1
 t2:I64 o.t2
 t3:I64 o.t3
 n:I64 o.n
structure Few (B:Nat) (o:OP):Prop where
 cx:o.cx.length≤B
 ky:o.ky.size≤B
 vl:o.vl.size≤B
 pn:o.pn.size≤B
theorem wf_cvI (n:Int):wf (cvI n)=true:=by simp [cvI,wf]
theorem wf_cvT (s:ByteArray):wf (cvT s)=true:=by simp [cvT,wf]
theorem wf_cvL {l:List CV} (h:∀ x∈l,wf x=true):wf (cvL l)=true:=by simp [cvL,wf,wfL_of h]
theorem dp_cvI (n:Int):dp (cvI n)=0:=by simp [cvI,dp]
theorem dp_cvT (s:ByteArray):dp (cvT s)=0:=by simp [cvT,dp]
theorem dp_cvL {l:List CV} {d:Nat} (h:∀ x∈l,dp x≤d):dp (cvL l)≤d+1:=by
 have:=dpL_of h
 simp [cvL,dp]; exact this
theorem ok_cvI {n:Int} (h:I64 n):Okv (cvI n):=.mk _ _ _ _ h (by decide) (by decide) (fun x hx=>by cases hx)
theorem ok_cvT {s:ByteArray} (h:s.size≤9223372036854775807):Okv (cvT s):=.mk _ _ _ _ (by decide) h (by decide) (fun x hx=>by cases hx)
theorem ok_cvL {l:List CV} (h:l.length≤9223372036854775807) (hx:∀ x∈l,Okv x):Okv (cvL l):=.mk _ _ _ _ (by decide) (by decide) h hx
theorem len_cvI (n:Int):(encB (cvI n)).length≤11:=by
 have:=(num_len (uns n)).1
 simp only [cvI,encB,if_true,List.length_cons]; omega
theorem len_cvT (s:ByteArray):(encB (cvT s)).length≤11+s.size:=by
 have:=(num_len s.size).1
 have e:encB (cvT s)=2::(num s.size++s.data.toList):=by simp [cvT,encB]
 rw [e,List.length_cons,List.length_append,bdata_length]; omega
theorem len_cvL (l:List CV):(encB (cvL l)).length≤11+(encBL l).length:=by
 have:=(num_len l.length).1
 have e:encB (cvL l)=3::(num l.length++encBL l):=by simp [cvL,encB]
 rw [e,List.length_cons,List.length_append]; omega
theorem len_cvD (l:List D):(encBL (l.map cvD)).length≤33 * l.length:=by
 induction l with
 | nil=>simp [encBL]
 | cons d l ih =>
  rw [List.map_cons,encBL_cons,List.length_append,List.length_cons]
  have h1:=len_cvL [cvI d.1,cvI d.2]
  have h2:=len_cvI d.1
  have h3:=len_cvI d.2
  have e:(encBL [cvI d.1,cvI d.2]).length=(encB (cvI d.1)).length+(encB (cvI d.2)).length:=by simp [encBL]
  have e2:encB (cvD d)=encB (cvL [cvI d.1,cvI d.2]):=rfl
  rw [e2]; omega
theorem opV_wf (o:OP):wf (opV o)=true:=by
 refine wf_cvL fun x hx=>?_
 simp only [List.mem_cons,List.not_mem_nil,or_false] at hx
 rcases hx with rfl | rfl | rfl | rfl | rfl | rfl | rfl | rfl | rfl | rfl | rfl | rfl<;>first
  | exact wf_cvI _
  | exact wf_cvT _
  | skip
 · refine wf_cvL fun x hx=>?_
   obtain ⟨d,_,rfl⟩:=List.mem_map.1 hx
   exact wf_cvL fun x hx=>by
    simp only [List.mem_cons,List.not_mem_nil,or_false] at hx
    rcases hx with rfl | rfl<;>exact wf_cvI _
 · exact wf_cvL fun x hx=>by
    simp only [List.mem_cons,List.not_mem_nil,or_false] at hx
    rcases hx with rfl | rfl
    · exact wf_cvI _
    · exact wf_cvT _
 · exact wf_cvL fun x hx=>by
    simp only [List.mem_cons,List.not_mem_nil,or_false] at hx
    rcases hx with rfl | rfl | rfl<;>exact wf_cvI _
 · exact wf_cvL fun x hx=>by
    simp only [List.mem_cons,List.not_mem_nil,or_false] at hx
    rcases hx with rfl | rfl | rfl<;>exact wf_cvI _
theorem opV_dp (o:OP):dp (opV o)≤3:=by
 refine dp_cvL fun x hx=>?_
 simp only [List.mem_cons,List.not_mem_nil,or_false] at hx
 rcases hx with rfl | rfl | rfl | rfl | rfl | rfl | rfl | rfl | rfl | rfl | rfl | rfl<;>first
  | (rw [dp_cvI]; decide)
  | (rw [dp_cvT]; decide)
  | skip
 · refine dp_cvL fun x hx=>?_
   obtain ⟨d,_,rfl⟩:=List.mem_map.1 hx
   exact dp_cvL (d:=0) fun x hx=>by
    simp only [List.mem_cons,List.not_mem_nil,or_false] at hx
    rcases hx with rfl | rfl<;>(rw [dp_cvI]; decide)
 · exact Nat.le_trans (dp_cvL (d:=0) fun x hx=>by
    simp only [List.mem_cons,List.not_mem_nil,or_false] at hx
    rcases hx with rfl | rfl
    · rw [dp_cvI]; decide
    · rw [dp_cvT]; decide) (by decide)
 · exact Nat.le_trans (dp_cvL (d:=0) fun x hx=>by
    simp only [List.mem_cons,List.not_mem_nil,or_false] at hx
    rcases hx with rfl | rfl | rfl<;>(rw [dp_cvI]; decide)) (by decide)
 · exact Nat.le_trans (dp_cvL (d:=0) fun x hx=>by
    simp only [List.mem_cons,List.not_mem_nil,or_false] at hx
    rcases hx with rfl | rfl | rfl<;>(rw [dp_cvI]; decide)) (by decide)
theorem opV_ok {o:OP} {B:Nat} (hB:B≤1000000000) (h:Okp o) (f:Few B o):Okv (opV o):=by
 have s:=f.ky; have s2:=f.vl; have s3:=f.pn; have s4:=f.cx
 refine ok_cvL (by simp) fun x hx=>?_
 simp only [List.mem_cons,List.not_mem_nil,or_false] at hx
 rcases hx with rfl | rfl | rfl | rfl | rfl | rfl | rfl | rfl | rfl | rfl | rfl | rfl
 · exact ok_cvI h.dv
 · exact ok_cvI h.sq
 · exact ok_cvI h.tm
 · refine ok_cvL (by rw [List.length_map]; omega) fun x hx=>?_
   obtain ⟨d,hd,rfl⟩:=List.mem_map.1 hx
   exact ok_cvL (by simp) fun x hx=>by
    simp only [List.mem_cons,List.not_mem_nil,or_false] at hx
    rcases hx with rfl | rfl
    · exact ok_cvI (h.cx d hd).1
    · exact ok_cvI (h.cx d hd).2
 · exact ok_cvL (by simp) fun x hx=>by
    simp only [List.mem_cons,List.not_mem_nil,or_false] at hx
    rcases hx with rfl | rfl
    · exact ok_cvI h.pk
    · exact ok_cvT (by omega)
 · exact ok_cvI h.kd
 · exact ok_cvL (by simp) fun x hx=>by
    simp only [List.mem_cons,List.not_mem_nil,or_false] at hx
    rcases hx with rfl | rfl | rfl
    · exact ok_cvI h.f1
    · exact ok_cvI h.f2
    · exact ok_cvI h.f3
 · exact ok_cvL (by simp) fun x hx=>by
    simp only [List.mem_cons,List.not_mem_nil,or_false] at hx
    rcases hx with rfl | rfl | rfl
    · exact ok_cvI h.t1
    · exact ok_cvI h.t2
    · exact ok_cvI h.t3
 · exact ok_cvT (by omega)
 · exact ok_cvT (by omega)
 · exact ok_cvI h.n
 · exact ok_cvI (by split<;>decide)
theorem opV_len {o:OP} {B:Nat} (f:Few B o):(encB (opV o)).length≤36 * B+1000:=by
 have s:=f.ky; have s2:=f.vl; have s3:=f.pn; have s4:=f.cx
 have h0:=len_cvL [cvI o.dv,cvI o.sq,cvI o.tm,ctxV o,cvL [cvI o.pk,cvT o.pn],cvI o.kd,cvL [cvI o.f1,cvI o.f2,cvI o.f3],cvL [cvI o.t1,cvI o.t2,cvI o.t3],cvT o.ky,cvT o.vl,cvI o.n,cvI (if o.on=true then 1 else 0)]
 have a1:=len_cvI o.dv; have a2:=len_cvI o.sq; have a3:=len_cvI o.tm; have a4:=len_cvI o.pk; have a5:=len_cvT o.pn; have a6:=len_cvI o.kd
 have b1:=len_cvI o.f1; have b2:=len_cvI o.f2; have b3:=len_cvI o.f3; have b4:=len_cvI o.t1; have b5:=len_cvI o.t2; have b6:=len_cvI o.t3
 have c1:=len_cvT o.ky; have c2:=len_cvT o.vl; have c3:=len_cvI o.n; have c4:=len_cvI (if o.on=true then 1 else 0)
 have d1:=len_cvL (o.cx.map cvD); have d2:=len_cvD o.cx
 have d3:=len_cvL [cvI o.pk,cvT o.pn]; have d4:=len_cvL [cvI o.f1,cvI o.f2,cvI o.f3]; have d5:=len_cvL [cvI o.t1,cvI o.t2,cvI o.t3]
 have e:encB (opV o)=encB (cvL [cvI o.dv,cvI o.sq,cvI o.tm,ctxV o,cvL [cvI o.pk,cvT o.pn],cvI o.kd,cvL [cvI o.f1,cvI o.f2,cvI o.f3],cvL [cvI o.t1,cvI o.t2,cvI o.t3],cvT o.ky,cvT o.vl,cvI o.n,cvI (if o.on=true then 1 else 0)]):=rfl
 rw [e]
 have e2:encB (ctxV o)=encB (cvL (o.cx.map cvD)):=rfl
 simp only [encBL,List.length_append,List.length_nil] at h0 d3 d4 d5
 rw [e2] at h0
 have m:33 * o.cx.length≤33 * B:=Nat.mul_le_mul_left 33 s4
 omega
theorem decO_opV (o:OP):decO (opV o).l=o:=by
 have hc:(o.cx.map cvD).map decD=o.cx:=by
  rw [List.map_map]
  refine (List.map_congr_left fun d _=>?_).trans (List.map_id _)
  rfl
 obtain ⟨dv,sq,tm,cx,pk,pn,kd,f1,f2,f3,t1,t2,t3,ky,vl,n,on⟩:=o
 show (⟨dv,sq,tm,(cx.map cvD).map decD,pk,pn,kd,f1,f2,f3,t1,t2,t3,ky,vl,n,(if on=true then (1:Int) else 0) == 1⟩:OP)=_
 have h:(cx.map cvD).map decD=cx:=hc
 rw [h]
 cases on<;>rfl
end Go.Ops


namespace Go.Ops
open Go Go.Am Go.Proofs Go.Seat Go.Vec Go.Cdc
end Go.Ops


namespace Go.Ops
open Go Go.Am Go.Proofs Go.Seat Go.Vec Go.Cdc
end Go.Ops


namespace Go.Ops
open Go Go.Am Go.Proofs Go.Seat Go.Vec Go.Cdc
end Go.Ops


namespace Go.Ops
open Go Go.Am Go.Proofs Go.Seat Go.Vec Go.Cdc
end Go.Ops


namespace Go.Ops
open Go Go.Am Go.Proofs Go.Seat Go.Vec Go.Cdc
end Go.Ops


namespace Go.Ops
open Go Go.Am Go.Proofs Go.Seat Go.Vec Go.Cdc
end Go.Ops


namespace Go.Ops
open Go Go.Am Go.Proofs Go.Seat Go.Vec Go.Cdc
end Go.Ops


namespace Go.Ops
open Go Go.Am Go.Proofs Go.Seat Go.Vec Go.Cdc
theorem Okp.okn {o:OP} {B:Nat} (hB:B≤1000000000) (h:Okp o) (f:Few B o):Okn o:=⟨by have:=f.cx; omega,h.kd,h.f3⟩
def encO (o:OP):List UInt8:=if chkOE o=0 then encB (opV o) else []
theorem enc_c (o:OP) {B:Nat} (hB:B≤200000) (h:Okp o) (f:Few B o):Cq 96 [op o] (.tup [byt (encO o),int (chkOE o)]):=by
 have hc:=Ops.check_c o (h.okn (by omega) f)
 have hl:=f.cx
 by_cases h0:chkOE o=0
 · rw [h0] at hc
   have he:=encode_ok (opV o) (opV_ok (by omega) h f) (by have:=opV_dp o; omega) (opV_wf o) (by have:=opV_len f; omega)
   rw [encO,if_pos h0,h0]
   exact enc_ok o _ 0 (by omega) hc he
 · rw [encO,if_neg h0]
   exact enc_x o _ h0 hc trivial
def decOp (b:List UInt8):OP × Int:=if decE b=0 then (if chkOE (decO (decV b).l)=0∧b=encB (opV (decO (decV b).l)) then (decO (decV b).l,0) else (zop,170)) else (zop,decE b)
end Go.Ops


namespace Go.Ops
open Go Go.Am Go.Proofs Go.Seat Go.Vec Go.Cdc
end Go.Ops


namespace Go.Ops
open Go Go.Am Go.Proofs Go.Seat Go.Vec Go.Cdc
end Go.Ops


namespace Go.Ops
open Go Go.Am Go.Proofs Go.Seat Go.Vec Go.Cdc
end Go.Ops


namespace Go.Ops
open Go Go.Am Go.Proofs Go.Seat Go.Vec Go.Cdc
theorem dec_of_enc (o:OP) {B:Nat} (hB:B≤200000) (h:Okp o) (f:Few B o) (h0:chkOE o=0):decOp (encB (opV o))=(o,0):=by
 obtain ⟨e1,e2⟩:=dec_enc (opV o) (opV_wf o) (opV_ok (by omega) h f) (by have:=opV_dp o; omega)
 unfold decOp
 rw [e1,e2,decO_opV,if_pos rfl,if_pos ⟨h0,rfl⟩]
end Go.Ops


namespace Go.Ops
open Go Go.Am Go.Proofs Go.Seat Go.Vec Go.Cdc
end Go.Ops


namespace Go.Ops
open Go Go.Am Go.Proofs Go.Seat Go.Vec Go.Cdc
end Go.Ops


namespace Go.Ops
open Go Go.Am Go.Proofs Go.Seat Go.Vec Go.Cdc
end Go.Ops


namespace Go.Ops
open Go Go.Am Go.Proofs Go.Seat Go.Vec Go.Cdc
theorem cb_neg:∀ x y:List UInt8,Lib.compareBytes y x = -Lib.compareBytes x y
 | [],[]=>by simp [Lib.compareBytes]
 | [],_::_=>by simp [Lib.compareBytes]
 | _::_,[]=>by simp [Lib.compareBytes]
 | a::xs,b::ys=>by
  have ih:=cb_neg xs ys
  simp only [Lib.compareBytes]
  by_cases h1:a<b
  · have h2:¬ b<a:=UInt8.not_lt.2 (UInt8.le_of_lt h1)
    simp [h1,h2]
  · by_cases h2:b<a
    · simp [h1,h2]
    · simp [h1,h2,ih]
theorem cb_trans:∀ x y z:List UInt8,Lib.compareBytes x y≤0→Lib.compareBytes y z≤0→Lib.compareBytes x z≤0
 | [],_,[]=>by simp [Lib.compareBytes]
 | [],_,_::_=>by simp [Lib.compareBytes]
 | _::_,[],_=>by simp [Lib.compareBytes]
 | _::_,_::_,[]=>by simp [Lib.compareBytes]
 | a::xs,b::ys,c::zs=>by
  have ih:=cb_trans xs ys zs
  have ha:a<b↔a.toNat<b.toNat:=UInt8.lt_iff_toNat_lt
  have hb:b<a↔b.toNat<a.toNat:=UInt8.lt_iff_toNat_lt
  have hc:b<c↔b.toNat<c.toNat:=UInt8.lt_iff_toNat_lt
  have hd:c<b↔c.toNat<b.toNat:=UInt8.lt_iff_toNat_lt
  have he:a<c↔a.toNat<c.toNat:=UInt8.lt_iff_toNat_lt
  have hf:c<a↔c.toNat<a.toNat:=UInt8.lt_iff_toNat_lt
  simp only [Lib.compareBytes,ha,hb,hc,hd,he,hf]
  grind
theorem cmpOV_neg (a b:OP) (x y:List UInt8):cmpOV b a y x = -cmpOV a b x y:=by
 have:=cb_neg x y
 simp only [cmpOV,orV,cmpV]
 grind
theorem cmpOV_trans (a b c:OP) (x y z:List UInt8) (h1:cmpOV a b x y≤0) (h2:cmpOV b c y z≤0):cmpOV a c x z≤0:=by
 have:=cb_trans x y z
 rcases Int.lt_trichotomy a.tm b.tm with t1 | t1 | t1<;>rcases Int.lt_trichotomy b.tm c.tm with t2 | t2 | t2 <;>
  rcases Int.lt_trichotomy a.dv b.dv with d1 | d1 | d1<;>rcases Int.lt_trichotomy b.dv c.dv with d2 | d2 | d2 <;>
  simp only [cmpOV,orV,cmpV] at h1 h2⊢<;> grind (splits:=30)
theorem cmpOV_eq {a b:OP} {x y:List UInt8} (h:cmpOV a b x y=0):x=y:=by
 have:=cmp_eq0 x y
 simp only [cmpOV,orV,cmpV] at h
 grind
end Go.Ops


namespace Go.Mg
open Go Go.Am Go.Proofs Go.Seat Go.Vec Go.Cdc Go.Ops
abbrev dt (o:OP):Int × Int:=(o.dv,o.sq)
def cm (a b:OP):Int:=cmpOV a b (encB (opV a)) (encB (opV b))
def okO (o:OP):Bool:=decide (chkOE o=0)
abbrev Gd (o:OP):Prop:=Okp o∧Few 20000 o
abbrev Gds (l:List OP):Prop:=∀ o∈l,Gd o
theorem cm_neg (a b:OP):cm b a = -cm a b:=cmpOV_neg a b _ _
theorem cm_self (a:OP):cm a a=0:=by have:=cm_neg a a; omega
theorem cm_le_trans {a b c:OP} (h:cm a b≤0) (k:cm b c≤0):cm a c≤0:=cmpOV_trans a b c _ _ _ h k
theorem cm_trans {a b c:OP} (h:cm a b<0) (k:cm b c<0):cm a c<0:=by
 have h1:=cm_le_trans (a:=a) (b:=b) (c:=c) (by omega) (by omega)
 rcases Int.lt_or_eq_of_le h1 with h2 | h2
 · exact h2
 · exfalso
   have h3:cm c a≤0:=by have:=cm_neg a c; omega
   have:=cm_le_trans (a:=b) (b:=c) (c:=a) (by omega) h3
   have:=cm_neg a b
   omega
theorem cm_eq {a b:OP} (ha:Gd a) (hb:Gd b) (va:okO a=true) (vb:okO b=true) (h:cm a b=0):a=b:=by
 have e:=cmpOV_eq h
 have h1:=dec_of_enc a (by decide) ha.1 ha.2 (of_decide_eq_true va)
 have h2:=dec_of_enc b (by decide) hb.1 hb.2 (of_decide_eq_true vb)
 rw [e,h2] at h1
 injection h1 with h1 _
 exact h1.symm
def Min (l:List OP) (x:OP):Prop:=x∈l∧okO x=true∧∀ y∈l,okO y=true→dt y=dt x→cm x y≤0
structure Canon (l m:List OP):Prop where
 sorted:m.Pairwise fun a b=>cm a b<0
 mem:∀ x,x∈m↔Min l x
theorem sorted_ext:∀ {l m:List OP},l.Pairwise (fun a b=>cm a b<0)→m.Pairwise (fun a b=>cm a b<0)→(∀ x,x∈l↔x∈m)→l=m
 | [],[],_,_,_=>rfl
 | [],b::m,_,_,h=>absurd ((h b).2 List.mem_cons_self) (by simp)
 | a::l,[],_,_,h=>absurd ((h a).1 List.mem_cons_self) (by simp)
 | a::l,b::m,hl,hm,h=>by
  have hl':=List.pairwise_cons.1 hl
  have hm':=List.pairwise_cons.1 hm
  have e:a=b:=by
   rcases List.mem_cons.1 ((h a).1 List.mem_cons_self) with e | ha
   · exact e
   · rcases List.mem_cons.1 ((h b).2 List.mem_cons_self) with e | hb
     · exact e.symm
     · have h1:=hl'.1 b hb
       have h2:=hm'.1 a ha
       have:=cm_neg a b
       omega
  subst e
  congr 1
  refine sorted_ext hl'.2 hm'.2 fun x=>?_
  constructor
  · intro hx
    rcases List.mem_cons.1 ((h x).1 (List.mem_cons_of_mem _ hx)) with rfl | hx'
    · have:=hl'.1 x hx; have:=cm_self x; omega
    · exact hx'
  · intro hx
    rcases List.mem_cons.1 ((h x).2 (List.mem_cons_of_mem _ hx)) with rfl | hx'
    · have:=hm'.1 x hx; have:=cm_self x; omega
    · exact hx'
theorem Canon.one {l m n:List OP} (h:Canon l m) (k:Canon l n):m=n:=sorted_ext h.sorted k.sorted fun x=>(h.mem x).trans (k.mem x).symm
def kput:List OP→OP→List OP
 | [],o=>[o]
 | x::l,o=>if dt x=dt o then (if cm o x<0 then o::l else x::l) else x::kput l o
def kadd (m:List OP) (o:OP):List OP:=if okO o=true then kput m o else m
def known (m l:List OP):List OP:=l.foldl kadd m
abbrev Dots (m:List OP):Prop:=m.Pairwise fun a b=>dt a≠dt b
theorem kput_dots:∀ {m:List OP} {o:OP} {d:Int × Int},d∈(kput m o).map dt↔d∈m.map dt∨d=dt o
 | [],o,d=>by simp [kput]
 | x::m,o,d=>by
  unfold kput
  split
  · rename_i h
    split
    · simp only [List.map_cons,List.mem_cons,← h]; grind
    · simp only [List.map_cons,List.mem_cons,← h]; grind
  · simp only [List.map_cons,List.mem_cons,kput_dots (m:=m)]; grind
theorem kput_nd:∀ {m:List OP} {o:OP},Dots m→Dots (kput m o)
 | [],o,_=>by simp [kput]
 | x::m,o,h=>by
  have h':=List.pairwise_cons.1 h
  unfold kput
  split
  · rename_i e
    split
    · exact List.pairwise_cons.2 ⟨fun y hy=>e ▸ h'.1 y hy,h'.2⟩
    · exact h
  · rename_i e
    refine List.pairwise_cons.2 ⟨fun y hy e'=>?_,kput_nd h'.2⟩
    have:dt y∈(kput m o).map dt:=List.mem_map.2 ⟨y,hy,rfl⟩
    rcases kput_dots.1 this with h1 | h1
    · obtain ⟨z,hz,ez⟩:=List.mem_map.1 h1
      exact h'.1 z hz (e'.trans ez.symm)
    · exact e (e'.trans h1)
theorem kput_mem:∀ {m:List OP} {o:OP},Dots m→∀ x,x∈kput m o↔(x∈m∧(dt x=dt o→¬ cm o x<0))∨(x=o∧∀ y∈m,dt y=dt o→cm o y<0)
 | [],o,_,x=>by simp [kput]
 | y::m,o,h,x=>by
  have h':=List.pairwise_cons.1 h
  unfold kput
  split
  · rename_i e
    have hm:∀ z∈m,dt z≠dt o:=fun z hz he=>h'.1 z hz (e.trans he.symm)
    split
    · rename_i hc
      simp only [List.mem_cons]
      constructor
      · rintro (rfl | hx)
        · exact .inr ⟨rfl,fun z hz he=>by
           rcases hz with rfl | hz
           · exact hc
           · exact absurd he (hm z hz)⟩
        · exact .inl ⟨.inr hx,fun he=>absurd he (hm x hx)⟩
      · rintro (⟨rfl | hx,h1⟩ | ⟨rfl,h1⟩)
        · exact absurd hc (h1 e)
        · exact .inr hx
        · exact .inl rfl
    · rename_i hc
      simp only [List.mem_cons]
      constructor
      · rintro (rfl | hx)
        · exact .inl ⟨.inl rfl,fun _=>hc⟩
        · exact .inl ⟨.inr hx,fun he=>absurd he (hm x hx)⟩
      · rintro (⟨hx,h1⟩ | ⟨rfl,h1⟩)
        · exact hx
        · exact absurd (h1 y (.inl rfl) e) hc
  · rename_i e
    simp only [List.mem_cons,kput_mem h'.2]
    constructor
    · rintro (rfl | ⟨hx,h1⟩ | ⟨rfl,h1⟩)
      · exact .inl ⟨.inl rfl,fun he=>absurd he e⟩
      · exact .inl ⟨.inr hx,h1⟩
      · exact .inr ⟨rfl,fun z hz he=>by
         rcases hz with rfl | hz
         · exact absurd he e
         · exact h1 z hz he⟩
    · rintro (⟨rfl | hx,h1⟩ | ⟨rfl,h1⟩)
      · exact .inl rfl
      · exact .inr (.inl ⟨hx,h1⟩)
      · exact .inr (.inr ⟨rfl,fun z hz he=>h1 z (.inr hz) he⟩)
structure Keeps (l m:List OP):Prop where
 dots:Dots m
 mem:∀ x,x∈m↔Min l x
theorem Min.snoc {l:List OP} {o x:OP} (hl:Gds l) (ho:Gd o) (hd:okO o=true) {m:List OP} (k:Keeps l m):Min (l++[o]) x↔(x∈m∧(dt x=dt o→¬ cm o x<0))∨(x=o∧∀ y∈m,dt y=dt o→cm o y<0):=by
 constructor
 · rintro ⟨h1,h2,h3⟩
   have low:∀ y∈l,okO y=true→dt y=dt x→cm x y≤0:=fun y hy=>h3 y (List.mem_append_left _ hy)
   have ho3:=h3 o (by simp) hd
   rcases List.mem_append.1 h1 with hx | hx
   · exact .inl ⟨(k.mem x).2 ⟨hx,h2,low⟩,fun e=>by have:=ho3 e.symm; have:=cm_neg x o; omega⟩
   · obtain rfl:x=o:=by simpa using hx
     by_cases hm:x∈m
     · exact .inl ⟨hm,fun _=>by rw [cm_self]; omega⟩
     · refine .inr ⟨rfl,fun y hy e=>?_⟩
       obtain ⟨q1,q2,q3⟩:=(k.mem y).1 hy
       have h4:=low y q1 q2 e
       rcases Int.lt_or_eq_of_le h4 with h5 | h5
       · exact h5
       · exact absurd (cm_eq ho (hl y q1) hd q2 h5 ▸ hy) hm
 · rintro (⟨hx,h1⟩ | ⟨rfl,h1⟩)
   · obtain ⟨q1,q2,q3⟩:=(k.mem x).1 hx
     refine ⟨List.mem_append_left _ q1,q2,fun y hy vy e=>?_⟩
     rcases List.mem_append.1 hy with hy | hy
     · exact q3 y hy vy e
     · obtain rfl:y=o:=by simpa using hy
       have:=h1 e.symm
       have:=cm_neg x y
       omega
   · refine ⟨by simp,hd,fun y hy vy e=>?_⟩
     rcases List.mem_append.1 hy with hy | hy
     ·
      have:∃ z∈m,dt z=dt x∧cm z y≤0:=by
       obtain ⟨z,hz1,hz2⟩:=least l (dt x) ⟨y,hy,vy,e⟩
       exact ⟨z,(k.mem z).2 hz1,hz2.1,hz2.2 y hy vy e⟩
      obtain ⟨z,hz,ez,hzy⟩:=this
      exact cm_le_trans (by have:=h1 z hz ez; omega) hzy
     · obtain rfl:y=x:=by simpa using hy
       rw [cm_self]; exact Int.le_refl _
where
 least:∀ (l:List OP) (d:Int × Int),(∃ y∈l,okO y=true∧dt y=d)→∃ z,Min l z∧dt z=d∧∀ y∈l,okO y=true→dt y=d→cm z y≤0
  | [],d,h=>by obtain ⟨y,hy,_⟩:=h; cases hy
  | a::l,d,h=>by
   by_cases hl:∃ y∈l,okO y=true∧dt y=d
   · obtain ⟨z,⟨z1,z2,z3⟩,ez,hz⟩:=least l d hl
     by_cases ha:okO a=true∧dt a=d∧cm a z<0
     · refine ⟨a,⟨List.mem_cons_self,ha.1,fun y hy vy e=>?_⟩,ha.2.1,fun y hy vy e=>?_⟩ <;>
       · rcases List.mem_cons.1 hy with rfl | hy
         · rw [cm_self]; exact Int.le_refl _
         · have:=hz y hy vy (by first | exact e | exact e.trans ha.2.1)
           exact cm_le_trans (by omega) this
     · have key:∀ y∈a::l,okO y=true→dt y=d→cm z y≤0:=fun y hy vy e=>by
        rcases List.mem_cons.1 hy with rfl | hy
        · by_cases hc:cm y z<0
          · exact absurd ⟨vy,e,hc⟩ ha
          · have:=cm_neg z y; omega
        · exact hz y hy vy e
       exact ⟨z,⟨List.mem_cons_of_mem _ z1,z2,fun y hy vy e=>key y hy vy (e.trans ez)⟩,ez,key⟩
   · obtain ⟨y,hy,vy,e⟩:=h
     rcases List.mem_cons.1 hy with rfl | hy
     · have key:∀ z∈y::l,okO z=true→dt z=d→cm y z≤0:=fun z hz vz ez=>by
        rcases List.mem_cons.1 hz with rfl | hz
        · rw [cm_self]; exact Int.le_refl _
        · exact absurd ⟨z,hz,vz,ez⟩ hl
       exact ⟨y,⟨List.mem_cons_self,vy,fun z hz vz ez=>key z hz vz (ez.trans e)⟩,e,key⟩
     · exact absurd ⟨y,hy,vy,e⟩ hl
theorem Min.skip {l:List OP} {o x:OP} (hd:okO o=false):Min (l++[o]) x↔Min l x:=by
 constructor
 · rintro ⟨h1,h2,h3⟩
   rcases List.mem_append.1 h1 with hx | hx
   · exact ⟨hx,h2,fun y hy=>h3 y (List.mem_append_left _ hy)⟩
   · obtain rfl:x=o:=by simpa using hx
     rw [h2] at hd; cases hd
 · rintro ⟨h1,h2,h3⟩
   refine ⟨List.mem_append_left _ h1,h2,fun y hy vy e=>?_⟩
   rcases List.mem_append.1 hy with hy | hy
   · exact h3 y hy vy e
   · obtain rfl:y=o:=by simpa using hy
     rw [vy] at hd; cases hd
theorem Keeps.add {l m:List OP} (k:Keeps l m) {o:OP} (hl:Gds l) (ho:Gd o):Keeps (l++[o]) (kadd m o):=by
 unfold kadd
 split
 · rename_i hd
   exact ⟨kput_nd k.dots,fun x=>(kput_mem k.dots x).trans (Min.snoc hl ho hd k).symm⟩
 · rename_i hd
   exact ⟨k.dots,fun x=>(k.mem x).trans (Min.skip (by simpa using hd)).symm⟩
theorem Keeps.known:∀ {r l m:List OP},Keeps l m→Gds (l++r)→Keeps (l++r) (known m r)
 | [],l,m,k,_=>by simpa [Mg.known] using k
 | o::r,l,m,k,h=>by
  have:=Keeps.known (r:=r) (k.add (fun x hx=>h x (List.mem_append_left _ hx)) (h o (by simp))) (by simpa using h)
  rw [List.append_assoc] at this
  exact this
theorem Keeps.nil:Keeps [] []:=⟨.nil,fun x=>⟨fun h=>(by cases h),fun h=>(by cases h.1)⟩⟩
theorem Keeps.canon {l m s:List OP} (k:Keeps l m) (hl:Gds l) (hp:s.Perm m) (hs:s.Pairwise fun a b=>¬ cm b a<0):Canon l s:=by
 refine ⟨?_,fun x=>(hp.mem_iff).trans (k.mem x)⟩
 have hnd:s.Pairwise fun a b=>dt a≠dt b:=(hp.pairwise_iff (fun {a b} h=>fun e=>h e.symm)).2 k.dots
 refine (hs.and hnd).imp_of_mem fun {a b} ha hb ⟨h1,h2⟩=>?_
 obtain ⟨a1,a2,_⟩:=(k.mem a).1 (hp.mem_iff.1 ha)
 obtain ⟨b1,b2,_⟩:=(k.mem b).1 (hp.mem_iff.1 hb)
 have h3:=cm_neg a b
 rcases Int.lt_or_eq_of_le (show cm a b≤0 by omega) with h4 | h4
 · exact h4
 · exact absurd (congrArg dt (cm_eq (hl a a1) (hl b b1) a2 b2 h4)) h2
def rhas (l:List OP) (o:OP):Bool:=l.any fun x=>decide (dt x=dt o) && decide (cm x o≤0)
def rput:List OP→OP→List OP
 | [],o=>[o]
 | x::l,o=>if dt x=dt o then rput l o else if cm o x<0 then o::x::l.filter (fun y=>decide (dt y≠dt o)) else x::rput l o
def rins (l:List OP) (o:OP):List OP:=if rhas l o=true then l else rput l o
def radd (m:List OP) (o:OP):List OP:=if okO o=true then rins m o else m
def runion (m l:List OP):List OP:=l.foldl radd m
theorem rput_mem:∀ {l:List OP} {o x:OP},x∈rput l o↔x=o∨(x∈l∧dt x≠dt o)
 | [],o,x=>by simp [rput]
 | y::l,o,x=>by
  unfold rput
  split
  · rename_i e
    rw [rput_mem]; simp only [List.mem_cons]; grind
  · rename_i e
    split
    · simp only [List.mem_cons,List.mem_filter,decide_eq_true_eq]; grind
    · simp only [List.mem_cons,rput_mem (l:=l)]; grind
theorem rput_sorted:∀ {l:List OP} {o:OP},l.Pairwise (fun a b=>cm a b<0)→Gds l→Gd o→(∀ x∈l,okO x=true)→okO o=true→(rput l o).Pairwise fun a b=>cm a b<0
 | [],o,_,_,_,_,_=>by simp [rput]
 | y::l,o,h,g,go,v,vo=>by
  have h':=List.pairwise_cons.1 h
  have g':Gds l:=fun x hx=>g x (List.mem_cons_of_mem _ hx)
  have v':∀ x∈l,okO x=true:=fun x hx=>v x (List.mem_cons_of_mem _ hx)
  unfold rput
  split
  · exact rput_sorted h'.2 g' go v' vo
  · rename_i e
    split
    · rename_i hc
      refine List.pairwise_cons.2 ⟨fun z hz=>?_,List.pairwise_cons.2 ⟨fun z hz=>h'.1 z (List.mem_filter.1 hz).1,h'.2.filter _⟩⟩
      rcases List.mem_cons.1 hz with rfl | hz
      · exact hc
      · exact cm_trans hc (h'.1 z (List.mem_filter.1 hz).1)
    · rename_i hc
      refine List.pairwise_cons.2 ⟨fun z hz=>?_,rput_sorted h'.2 g' go v' vo⟩
      rcases rput_mem.1 hz with rfl | ⟨hz,_⟩
      · have h1:=cm_neg y z
        rcases Int.lt_or_eq_of_le (show cm y z≤0 by omega) with h4 | h4
        · exact h4
        · exact absurd (congrArg dt (cm_eq (g y List.mem_cons_self) go (v y List.mem_cons_self) vo h4)) e
      · exact h'.1 z hz
theorem Canon.keeps {l m:List OP} (k:Canon l m) (hl:Gds l):Keeps l m:=by
 refine ⟨?_,k.mem⟩
 refine k.sorted.imp_of_mem fun {a b} ha hb h e=>?_
 obtain ⟨a1,a2,a3⟩:=(k.mem a).1 ha
 obtain ⟨b1,b2,b3⟩:=(k.mem b).1 hb
 have:=b3 a a1 a2 e
 have:=cm_neg a b
 omega
theorem Canon.add {l m:List OP} (k:Canon l m) {o:OP} (hl:Gds l) (ho:Gd o):Canon (l++[o]) (radd m o):=by
 have kk:=k.keeps hl
 unfold radd
 split
 · rename_i hd
   have hin:∀ x∈m,Gd x∧okO x=true:=fun x hx=>let ⟨a,b,_⟩:=(k.mem x).1 hx; ⟨hl x a,b⟩
   unfold rins
   split
   · rename_i hh
     obtain ⟨z,hz,h⟩:=List.any_eq_true.1 hh
     simp only [Bool.and_eq_true,decide_eq_true_eq] at h
     refine ⟨k.sorted,fun x=>Iff.trans ?_ (Min.snoc hl ho hd kk).symm⟩
     constructor
     · intro hx
       refine .inl ⟨hx,fun e hc=>?_⟩
       have:x=z:=by
        have:=kk.dots
        by_cases hxz:x=z
        · exact hxz
        · exfalso
          rcases List.mem_iff_getElem.1 hx with ⟨i,hi,rfl⟩
          rcases List.mem_iff_getElem.1 hz with ⟨j,hj,rfl⟩
          have hp:=List.pairwise_iff_getElem.1 this
          rcases Nat.lt_trichotomy i j with hij | hij | hij
          · exact hp i j hi hj hij (e.trans h.1.symm)
          · subst hij; exact hxz rfl
          · exact hp j i hj hi hij (h.1.trans e.symm)
       subst this
       have:=cm_neg o x
       omega
     · rintro (⟨hx,_⟩ | ⟨rfl,h1⟩)
       · exact hx
       · have:=h1 z hz h.1
         have:=cm_neg x z
         omega
   · rename_i hh
     have hno:∀ z∈m,dt z=dt o→cm o z<0:=fun z hz e=>by
      by_cases hc:cm z o≤0
      · exact absurd (List.any_eq_true.2 ⟨z,hz,by simp [e,hc]⟩) hh
      · have:=cm_neg o z; omega
     refine ⟨rput_sorted k.sorted (fun x hx=>(hin x hx).1) ho (fun x hx=>(hin x hx).2) hd,fun x=>Iff.trans ?_ (Min.snoc hl ho hd kk).symm⟩
     rw [rput_mem]
     constructor
     · rintro (rfl | ⟨hx,e⟩)
       · exact .inr ⟨rfl,hno⟩
       · exact .inl ⟨hx,fun e'=>absurd e' e⟩
     · rintro (⟨hx,h1⟩ | ⟨rfl,_⟩)
       · exact .inr ⟨hx,fun e=>h1 e (hno x hx e)⟩
       · exact .inl rfl
 · rename_i hd
   exact ⟨k.sorted,fun x=>(k.mem x).trans (Min.skip (by simpa using hd)).symm⟩
theorem Canon.union:∀ {r l m:List OP},Canon l m→Gds (l++r)→Canon (l++r) (runion m r)
 | [],l,m,k,_=>by simpa [runion] using k
 | o::r,l,m,k,h=>by
  have:=Canon.union (r:=r) (k.add (fun x hx=>h x (List.mem_append_left _ hx)) (h o (by simp))) (by simpa using h)
  rw [List.append_assoc] at this
  exact this
theorem Canon.nil:Canon [] []:=⟨.nil,fun x=>⟨fun h=>(by cases h),fun h=>(by cases h.1)⟩⟩
def uni (l:List OP):List OP:=runion [] l
theorem uni_canon {l:List OP} (h:Gds l):Canon l (uni l):=by
 have:=Canon.nil.union (r:=l) (by simpa using h)
 simpa [uni] using this
theorem sort_uni {l s:List OP} (h:Gds l) (hp:s.Perm (known [] l)) (hs:s.Pairwise fun a b=>¬ cm b a<0):s=uni l:=by
 have k:=Keeps.nil.known (r:=l) (by simpa using h)
 rw [List.nil_append] at k
 exact (k.canon h hp hs).one (uni_canon h)
end Go.Mg
