import Derived.Test.YtihbnnkcemjflaaGreatDoorG19
import Derived.KernelRfl
set_option maxRecDepth 100000
set_option linter.unusedSimpArgs false
set_option linter.unusedVariables false

namespace Go.Ops
open Go Go.Am Go.Proofs Go.Seat Go.Vec Go.Cdc
def zK:AV:=.lit (.agg #[.int .i64 0,.nilFunc])
theorem key_ok (k:Int) (h : -9223372036854775808≤k∧k<9223372036854775808):∃ l,keyOf P 3 (.int .i64 k)=some l :=
 ⟨_,Maps.keyOf_int_mk Tryz.underlying3 (by simp [Lit.wf,IntKind.min,IntKind.max,IntKind.signed,IntKind.bits]; omega)⟩
theorem kinds_ok:∀ e∈kindsE,∃ l,keyOf P 3 e.1=some l:=by
 intro e he
 simp only [kindsE,List.mem_cons,List.not_mem_nil,or_false] at he
 rcases he with rfl | rfl | rfl | rfl | rfl | rfl | rfl | rfl<;>exact key_ok _ (by decide)
def partOf (k:Int):Int:=if k=1∨k=2 then 1 else if k=3∨k=4 then 2 else if k=5 then 3 else if k=6∨k=7∨k=8 then 4 else 0
theorem kg {k p:Int} {f:Nat} (hk : -9223372036854775808≤k∧k<9223372036854775808) (h:(.int .i64 k,.agg [int p,fnV f])∈kindsE):MapGet P 3 kindsE (.int .i64 k) zK (.agg [int p,fnV f]) true :=
 ⟨Maps.int_keyed Tryz.underlying3,key_ok k hk,kinds_ok,.inl ⟨rfl,h⟩⟩
theorem kg1:MapGet P 3 kindsE (.int .i64 1) zK (.agg [int 1,fnV 297]) true:=kg (by decide) (by simp [kindsE])
theorem kg2:MapGet P 3 kindsE (.int .i64 2) zK (.agg [int 1,fnV 299]) true:=kg (by decide) (by simp [kindsE])
theorem kg3:MapGet P 3 kindsE (.int .i64 3) zK (.agg [int 2,fnV 301]) true:=kg (by decide) (by simp [kindsE])
theorem kg4:MapGet P 3 kindsE (.int .i64 4) zK (.agg [int 2,fnV 302]) true:=kg (by decide) (by simp [kindsE])
theorem kg5:MapGet P 3 kindsE (.int .i64 5) zK (.agg [int 3,fnV 303]) true:=kg (by decide) (by simp [kindsE])
theorem kg6:MapGet P 3 kindsE (.int .i64 6) zK (.agg [int 4,fnV 304]) true:=kg (by decide) (by simp [kindsE])
theorem kg7:MapGet P 3 kindsE (.int .i64 7) zK (.agg [int 4,fnV 305]) true:=kg (by decide) (by simp [kindsE])
theorem kg8:MapGet P 3 kindsE (.int .i64 8) zK (.agg [int 4,fnV 306]) true:=kg (by decide) (by simp [kindsE])
theorem kgn (k:Int) (hk : -9223372036854775808≤k∧k<9223372036854775808) (h:k<1∨8<k):MapGet P 3 kindsE (.int .i64 k) zK zK false :=
 ⟨Maps.int_keyed Tryz.underlying3,key_ok k hk,kinds_ok,.inr ⟨rfl,rfl,fun e he=>by
  simp only [kindsE,List.mem_cons,List.not_mem_nil,or_false] at he
  rcases he with rfl | rfl | rfl | rfl | rfl | rfl | rfl | rfl<;>(intro hq; simp only [Value.int.injEq,true_and] at hq; omega)⟩⟩
theorem chkA (o:OP) (l:List D) (f:Int) (hw:Cq 29 [nilS,dot (o.dv,o.sq)] (.tup [vec l,int f])) (hf:¬ f=0) (h:True):Cq 31 [op o] (int 170):=by
 have _:=h
 exact callC_of [kc [] hw,kt (show (f != 0)=true from (congrArg Bool.not (qF (by omega)))),kO,kO,kO,kO]
theorem chkB (o:OP) (l:List D) (hw:Cq 29 [nilS,dot (o.dv,o.sq)] (.tup [vec l,int 0])) (ht:o.tm<1) (h:True):Cq 31 [op o] (int 170):=by
 have _:=h
 exact callC_of [kc [] hw,kY,ki (o.tm<1),kO,kO,kO]
theorem chkC (o:OP) (l:List D) (hw:Cq 29 [nilS,dot (o.dv,o.sq)] (.tup [vec l,int 0])) (ht:1≤o.tm) (ht2:1099511627776<o.tm) (h:True):Cq 31 [op o] (int 170):=by
 have _:=h
 exact callC_of [kc [] hw,kY,kj (o.tm<1),ki (o.tm > 1099511627776),kO,kO]
theorem chkD (o:OP) (l:List D) (f:Int) (hw:Cq 29 [nilS,dot (o.dv,o.sq)] (.tup [vec l,int 0])) (ht:1≤o.tm) (ht2:o.tm≤1099511627776) (hv:Cq 46 [vec o.cx] (int f)) (hf:¬ f=0) (h:True):Cq 31 [op o] (int 170):=by
 have _:=h
 exact callC_of [kc [] hw,kY,kj (o.tm<1),kj (o.tm > 1099511627776),kc [] hv,kt (show (f != 0)=true from (congrArg Bool.not (qF (by omega)))),kO]
theorem chkE (o:OP) (l:List D) (hw:Cq 29 [nilS,dot (o.dv,o.sq)] (.tup [vec l,int 0])) (ht:1≤o.tm) (ht2:o.tm≤1099511627776) (hv:Cq 46 [vec o.cx] (int 0)) (hc:Cq 28 [vec o.cx,dot (o.dv,o.sq)] (bool true)) (h:True):Cq 31 [op o] (int 170):=by
 have _:=h
 exact callC_of [kc [] hw,kY,kj (o.tm<1),kj (o.tm > 1099511627776),kc [] hv,kY,kc [] hc,kO]
theorem chkF (o:OP) (l:List D) (hw:Cq 29 [nilS,dot (o.dv,o.sq)] (.tup [vec l,int 0])) (ht:1≤o.tm) (ht2:o.tm≤1099511627776) (hv:Cq 46 [vec o.cx] (int 0)) (hc:Cq 28 [vec o.cx,dot (o.dv,o.sq)] (bool false)) (hm:MapGet P 3 kindsE (.int .i64 o.kd) zK zK false) (h:True):Cq 31 [op o] (int 170):=by
 have _:=h
 exact callC_of [kc [] hw,kY,kj (o.tm<1),kj (o.tm > 1099511627776),kc [] hv,kY,kc [] hc,kY,ko (Orc.mget zK false),kp hm,kO,kO,kO,kO,kO]
theorem chk1 (o:OP) (l:List D) (b:Bool) (v:Int) (hcx:o.cx.length≤1000000000) (hw:Cq 29 [nilS,dot (o.dv,o.sq)] (.tup [vec l,int 0])) (ht:1≤o.tm) (ht2:o.tm≤1099511627776) (hv:Cq 46 [vec o.cx] (int 0)) (hc:Cq 28 [vec o.cx,dot (o.dv,o.sq)] (bool false)) (hk:Cq 297 [opk o 1] (bool b)) (hr:Cq 60 [opk o 1] (op (restO o 1))) (hs:Cq 59 [op (restO o 1),op zop] (bool (decide (restO o 1=zop)))) (h:(((o.pk=1)→((((↑(ByteArray.size o.pn):Int) > 64)→170=v)∧((¬(↑(ByteArray.size o.pn):Int) > 64)→((((b)=true)→(((restO o 1=zop)→0=v)∧((¬restO o 1=zop)→170=v)))∧(((b)=false)→170=v)))))∧((¬o.pk=1)→170=v))):Cq 31 [opk o 1] (int v):=by
 have hz10:Cq 59 [.agg [int (OP.dv (restO o 1)),int (OP.sq (restO o 1)),int (OP.tm (restO o 1)),.sl 2 false [],int (OP.pk (restO o 1)),str (OP.pn (restO o 1)),int (OP.kd (restO o 1)),int (OP.f1 (restO o 1)),int (OP.f2 (restO o 1)),int (OP.f3 (restO o 1)),int (OP.t1 (restO o 1)),int (OP.t2 (restO o 1)),int (OP.t3 (restO o 1)),str (OP.ky (restO o 1)),str (OP.vl (restO o 1)),int (OP.n (restO o 1)),Am.bool (OP.on (restO o 1))],.agg [int 0,int 0,int 0,nilS,int 0,str (ByteArray.mk #[]),int 0,int 0,int 0,int 0,int 0,int 0,int 0,str (ByteArray.mk #[]),str (ByteArray.mk #[]),int 0,Am.bool false]] (Am.bool (decide (restO o 1=zop))):=(CallC.args' hs ⟨Sub.refl _,Sub.aggs ⟨Sub.refl _,Sub.refl _,Sub.refl _,(Sub.nil _),Sub.refl _,Sub.refl _,Sub.refl _,Sub.refl _,Sub.refl _,Sub.refl _,Sub.refl _,Sub.refl _,Sub.refl _,Sub.refl _,Sub.refl _,Sub.refl _,Sub.refl _,trivial⟩,trivial⟩)
 let l1:List Itm:=[kc [] hw,kY,kj (o.tm<1),kj (o.tm > 1099511627776),kc [] hv,kY,kc [] hc,kY,ko (Orc.mget (AV.agg [int 1,fnV 297]) true),kp kg1,kY]
 by_cases c3:(o.pk=1)
 · have h:=h.1 c3
   have hz6:(o.pk != 1)=false:=(congrArg Bool.not (qEq.2 c3))
   by_cases c4:((↑(ByteArray.size o.pn):Int) > 64)
   · have h:=h.1 c4
     exact callC_out (Sub.int_eq h) (l1++[kf hz6,kt (qT c4),kO,kO])
   · have h:=h.2 c4
     let l2:List Itm:=l1++[kf hz6,kf (qF c4),kc [] hk]
     rcases Bool.eq_false_or_eq_true ((b)) with c5 | c5
     · have h:=h.1 c5
       have hz8:(!b)=false:=(congrArg Bool.not (c5))
       by_cases c6:(restO o 1=zop)
       · have h:=h.1 c6
         exact callC_out (Sub.int_eq h) (l2++[kf hz8,kc [] hr,kc [] hz10,kf (show (!decide (restO o 1=zop))=false from (congrArg Bool.not (qT c6)))])
       · have h:=h.2 c6
         exact callC_out (Sub.int_eq h) (l2++[kf hz8,kc [] hr,kc [] hz10,kt (show (!decide (restO o 1=zop))=true from (congrArg Bool.not (qF c6)))])
     · have h:=h.2 c5
       exact callC_out (Sub.int_eq h) (l2++[kt (show (!b)=true from (congrArg Bool.not (c5))),kO])
 · have h:=h.2 c3
   exact callC_out (Sub.int_eq h) (l1++[kt (show (o.pk != 1)=true from (congrArg Bool.not (qN.2 c3))),kO,kO,kO])
theorem chk2 (o:OP) (l:List D) (b:Bool) (v:Int) (hcx:o.cx.length≤1000000000) (hw:Cq 29 [nilS,dot (o.dv,o.sq)] (.tup [vec l,int 0])) (ht:1≤o.tm) (ht2:o.tm≤1099511627776) (hv:Cq 46 [vec o.cx] (int 0)) (hc:Cq 28 [vec o.cx,dot (o.dv,o.sq)] (bool false)) (hk:Cq 299 [opk o 2] (bool b)) (hr:Cq 60 [opk o 2] (op (restO o 2))) (hs:Cq 59 [op (restO o 2),op zop] (bool (decide (restO o 2=zop)))) (h:(((o.pk=1)→((((↑(ByteArray.size o.pn):Int) > 64)→170=v)∧((¬(↑(ByteArray.size o.pn):Int) > 64)→((((b)=true)→(((restO o 2=zop)→0=v)∧((¬restO o 2=zop)→170=v)))∧(((b)=false)→170=v)))))∧((¬o.pk=1)→170=v))):Cq 31 [opk o 2] (int v):=by
 have hz10:Cq 59 [.agg [int (OP.dv (restO o 2)),int (OP.sq (restO o 2)),int (OP.tm (restO o 2)),.sl 2 false [],int (OP.pk (restO o 2)),str (OP.pn (restO o 2)),int (OP.kd (restO o 2)),int (OP.f1 (restO o 2)),int (OP.f2 (restO o 2)),int (OP.f3 (restO o 2)),int (OP.t1 (restO o 2)),int (OP.t2 (restO o 2)),int (OP.t3 (restO o 2)),str (OP.ky (restO o 2)),str (OP.vl (restO o 2)),int (OP.n (restO o 2)),Am.bool (OP.on (restO o 2))],.agg [int 0,int 0,int 0,nilS,int 0,str (ByteArray.mk #[]),int 0,int 0,int 0,int 0,int 0,int 0,int 0,str (ByteArray.mk #[]),str (ByteArray.mk #[]),int 0,Am.bool false]] (Am.bool (decide (restO o 2=zop))):=(CallC.args' hs ⟨Sub.refl _,Sub.aggs ⟨Sub.refl _,Sub.refl _,Sub.refl _,(Sub.nil _),Sub.refl _,Sub.refl _,Sub.refl _,Sub.refl _,Sub.refl _,Sub.refl _,Sub.refl _,Sub.refl _,Sub.refl _,Sub.refl _,Sub.refl _,Sub.refl _,Sub.refl _,trivial⟩,trivial⟩)
 let l1:List Itm:=[kc [] hw,kY,kj (o.tm<1),kj (o.tm > 1099511627776),kc [] hv,kY,kc [] hc,kY,ko (Orc.mget (AV.agg [int 1,fnV 299]) true),kp kg2,kY]
 by_cases c3:(o.pk=1)
 · have h:=h.1 c3
   have hz6:(o.pk != 1)=false:=(congrArg Bool.not (qEq.2 c3))
   by_cases c4:((↑(ByteArray.size o.pn):Int) > 64)
   · have h:=h.1 c4
     exact callC_out (Sub.int_eq h) (l1++[kf hz6,kt (qT c4),kO,kO])
   · have h:=h.2 c4
     let l2:List Itm:=l1++[kf hz6,kf (qF c4),kc [] hk]
     rcases Bool.eq_false_or_eq_true ((b)) with c5 | c5
     · have h:=h.1 c5
       have hz8:(!b)=false:=(congrArg Bool.not (c5))
       by_cases c6:(restO o 2=zop)
       · have h:=h.1 c6
         exact callC_out (Sub.int_eq h) (l2++[kf hz8,kc [] hr,kc [] hz10,kf (show (!decide (restO o 2=zop))=false from (congrArg Bool.not (qT c6)))])
       · have h:=h.2 c6
         exact callC_out (Sub.int_eq h) (l2++[kf hz8,kc [] hr,kc [] hz10,kt (show (!decide (restO o 2=zop))=true from (congrArg Bool.not (qF c6)))])
     · have h:=h.2 c5
       exact callC_out (Sub.int_eq h) (l2++[kt (show (!b)=true from (congrArg Bool.not (c5))),kO])
 · have h:=h.2 c3
   exact callC_out (Sub.int_eq h) (l1++[kt (show (o.pk != 1)=true from (congrArg Bool.not (qN.2 c3))),kO,kO,kO])
theorem chk3 (o:OP) (l:List D) (b:Bool) (v:Int) (hcx:o.cx.length≤1000000000) (hw:Cq 29 [nilS,dot (o.dv,o.sq)] (.tup [vec l,int 0])) (ht:1≤o.tm) (ht2:o.tm≤1099511627776) (hv:Cq 46 [vec o.cx] (int 0)) (hc:Cq 28 [vec o.cx,dot (o.dv,o.sq)] (bool false)) (hk:Cq 301 [opk o 3] (bool b)) (hr:Cq 60 [opk o 3] (op (restO o 3))) (hs:Cq 59 [op (restO o 3),op zop] (bool (decide (restO o 3=zop)))) (h:(((o.pk=2)→((((↑(ByteArray.size o.pn):Int) > 64)→170=v)∧((¬(↑(ByteArray.size o.pn):Int) > 64)→((((b)=true)→(((restO o 3=zop)→0=v)∧((¬restO o 3=zop)→170=v)))∧(((b)=false)→170=v)))))∧((¬o.pk=2)→170=v))):Cq 31 [opk o 3] (int v):=by
 have hz10:Cq 59 [.agg [int (OP.dv (restO o 3)),int (OP.sq (restO o 3)),int (OP.tm (restO o 3)),.sl 2 false [],int (OP.pk (restO o 3)),str (OP.pn (restO o 3)),int (OP.kd (restO o 3)),int (OP.f1 (restO o 3)),int (OP.f2 (restO o 3)),int (OP.f3 (restO o 3)),int (OP.t1 (restO o 3)),int (OP.t2 (restO o 3)),int (OP.t3 (restO o 3)),str (OP.ky (restO o 3)),str (OP.vl (restO o 3)),int (OP.n (restO o 3)),Am.bool (OP.on (restO o 3))],.agg [int 0,int 0,int 0,nilS,int 0,str (ByteArray.mk #[]),int 0,int 0,int 0,int 0,int 0,int 0,int 0,str (ByteArray.mk #[]),str (ByteArray.mk #[]),int 0,Am.bool false]] (Am.bool (decide (restO o 3=zop))):=(CallC.args' hs ⟨Sub.refl _,Sub.aggs ⟨Sub.refl _,Sub.refl _,Sub.refl _,(Sub.nil _),Sub.refl _,Sub.refl _,Sub.refl _,Sub.refl _,Sub.refl _,Sub.refl _,Sub.refl _,Sub.refl _,Sub.refl _,Sub.refl _,Sub.refl _,Sub.refl _,Sub.refl _,trivial⟩,trivial⟩)
 let l1:List Itm:=[kc [] hw,kY,kj (o.tm<1),kj (o.tm > 1099511627776),kc [] hv,kY,kc [] hc,kY,ko (Orc.mget (AV.agg [int 2,fnV 301]) true),kp kg3,kY]
 by_cases c3:(o.pk=2)
 · have h:=h.1 c3
   have hz6:(o.pk != 2)=false:=(congrArg Bool.not (qEq.2 c3))
   by_cases c4:((↑(ByteArray.size o.pn):Int) > 64)
   · have h:=h.1 c4
     exact callC_out (Sub.int_eq h) (l1++[kf hz6,kt (qT c4),kO,kO])
   · have h:=h.2 c4
     let l2:List Itm:=l1++[kf hz6,kf (qF c4),kc [] hk]
     rcases Bool.eq_false_or_eq_true ((b)) with c5 | c5
     · have h:=h.1 c5
       have hz8:(!b)=false:=(congrArg Bool.not (c5))
       by_cases c6:(restO o 3=zop)
       · have h:=h.1 c6
         exact callC_out (Sub.int_eq h) (l2++[kf hz8,kc [] hr,kc [] hz10,kf (show (!decide (restO o 3=zop))=false from (congrArg Bool.not (qT c6)))])
       · have h:=h.2 c6
         exact callC_out (Sub.int_eq h) (l2++[kf hz8,kc [] hr,kc [] hz10,kt (show (!decide (restO o 3=zop))=true from (congrArg Bool.not (qF c6)))])
     · have h:=h.2 c5
       exact callC_out (Sub.int_eq h) (l2++[kt (show (!b)=true from (congrArg Bool.not (c5))),kO])
 · have h:=h.2 c3
   exact callC_out (Sub.int_eq h) (l1++[kt (show (o.pk != 2)=true from (congrArg Bool.not (qN.2 c3))),kO,kO,kO])
theorem chk4 (o:OP) (l:List D) (b:Bool) (v:Int) (hcx:o.cx.length≤1000000000) (hw:Cq 29 [nilS,dot (o.dv,o.sq)] (.tup [vec l,int 0])) (ht:1≤o.tm) (ht2:o.tm≤1099511627776) (hv:Cq 46 [vec o.cx] (int 0)) (hc:Cq 28 [vec o.cx,dot (o.dv,o.sq)] (bool false)) (hk:Cq 302 [opk o 4] (bool b)) (hr:Cq 60 [opk o 4] (op (restO o 4))) (hs:Cq 59 [op (restO o 4),op zop] (bool (decide (restO o 4=zop)))) (h:(((o.pk=2)→((((↑(ByteArray.size o.pn):Int) > 64)→170=v)∧((¬(↑(ByteArray.size o.pn):Int) > 64)→((((b)=true)→(((restO o 4=zop)→0=v)∧((¬restO o 4=zop)→170=v)))∧(((b)=false)→170=v)))))∧((¬o.pk=2)→170=v))):Cq 31 [opk o 4] (int v):=by
 have hz10:Cq 59 [.agg [int (OP.dv (restO o 4)),int (OP.sq (restO o 4)),int (OP.tm (restO o 4)),.sl 2 false [],int (OP.pk (restO o 4)),str (OP.pn (restO o 4)),int (OP.kd (restO o 4)),int (OP.f1 (restO o 4)),int (OP.f2 (restO o 4)),int (OP.f3 (restO o 4)),int (OP.t1 (restO o 4)),int (OP.t2 (restO o 4)),int (OP.t3 (restO o 4)),str (OP.ky (restO o 4)),str (OP.vl (restO o 4)),int (OP.n (restO o 4)),Am.bool (OP.on (restO o 4))],.agg [int 0,int 0,int 0,nilS,int 0,str (ByteArray.mk #[]),int 0,int 0,int 0,int 0,int 0,int 0,int 0,str (ByteArray.mk #[]),str (ByteArray.mk #[]),int 0,Am.bool false]] (Am.bool (decide (restO o 4=zop))):=(CallC.args' hs ⟨Sub.refl _,Sub.aggs ⟨Sub.refl _,Sub.refl _,Sub.refl _,(Sub.nil _),Sub.refl _,Sub.refl _,Sub.refl _,Sub.refl _,Sub.refl _,Sub.refl _,Sub.refl _,Sub.refl _,Sub.refl _,Sub.refl _,Sub.refl _,Sub.refl _,Sub.refl _,trivial⟩,trivial⟩)
 let l1:List Itm:=[kc [] hw,kY,kj (o.tm<1),kj (o.tm > 1099511627776),kc [] hv,kY,kc [] hc,kY,ko (Orc.mget (AV.agg [int 2,fnV 302]) true),kp kg4,kY]
 by_cases c3:(o.pk=2)
 · have h:=h.1 c3
   have hz6:(o.pk != 2)=false:=(congrArg Bool.not (qEq.2 c3))
   by_cases c4:((↑(ByteArray.size o.pn):Int) > 64)
   · have h:=h.1 c4
     exact callC_out (Sub.int_eq h) (l1++[kf hz6,kt (qT c4),kO,kO])
   · have h:=h.2 c4
     let l2:List Itm:=l1++[kf hz6,kf (qF c4),kc [] hk]
     rcases Bool.eq_false_or_eq_true ((b)) with c5 | c5
     · have h:=h.1 c5
       have hz8:(!b)=false:=(congrArg Bool.not (c5))
       by_cases c6:(restO o 4=zop)
       · have h:=h.1 c6
         exact callC_out (Sub.int_eq h) (l2++[kf hz8,kc [] hr,kc [] hz10,kf (show (!decide (restO o 4=zop))=false from (congrArg Bool.not (qT c6)))])
       · have h:=h.2 c6
         exact callC_out (Sub.int_eq h) (l2++[kf hz8,kc [] hr,kc [] hz10,kt (show (!decide (restO o 4=zop))=true from (congrArg Bool.not (qF c6)))])
     · have h:=h.2 c5
       exact callC_out (Sub.int_eq h) (l2++[kt (show (!b)=true from (congrArg Bool.not (c5))),kO])
 · have h:=h.2 c3
   exact callC_out (Sub.int_eq h) (l1++[kt (show (o.pk != 2)=true from (congrArg Bool.not (qN.2 c3))),kO,kO,kO])
theorem chk5 (o:OP) (l:List D) (b:Bool) (v:Int) (hcx:o.cx.length≤1000000000) (hw:Cq 29 [nilS,dot (o.dv,o.sq)] (.tup [vec l,int 0])) (ht:1≤o.tm) (ht2:o.tm≤1099511627776) (hv:Cq 46 [vec o.cx] (int 0)) (hc:Cq 28 [vec o.cx,dot (o.dv,o.sq)] (bool false)) (hk:Cq 303 [opk o 5] (bool b)) (hr:Cq 60 [opk o 5] (op (restO o 5))) (hs:Cq 59 [op (restO o 5),op zop] (bool (decide (restO o 5=zop)))) (h:(((o.pk=3)→((((↑(ByteArray.size o.pn):Int) > 64)→170=v)∧((¬(↑(ByteArray.size o.pn):Int) > 64)→((((b)=true)→(((restO o 5=zop)→0=v)∧((¬restO o 5=zop)→170=v)))∧(((b)=false)→170=v)))))∧((¬o.pk=3)→170=v))):Cq 31 [opk o 5] (int v):=by
 have hz10:Cq 59 [.agg [int (OP.dv (restO o 5)),int (OP.sq (restO o 5)),int (OP.tm (restO o 5)),.sl 2 false [],int (OP.pk (restO o 5)),str (OP.pn (restO o 5)),int (OP.kd (restO o 5)),int (OP.f1 (restO o 5)),int (OP.f2 (restO o 5)),int (OP.f3 (restO o 5)),int (OP.t1 (restO o 5)),int (OP.t2 (restO o 5)),int (OP.t3 (restO o 5)),str (OP.ky (restO o 5)),str (OP.vl (restO o 5)),int (OP.n (restO o 5)),Am.bool (OP.on (restO o 5))],.agg [int 0,int 0,int 0,nilS,int 0,str (ByteArray.mk #[]),int 0,int 0,int 0,int 0,int 0,int 0,int 0,str (ByteArray.mk #[]),str (ByteArray.mk #[]),int 0,Am.bool false]] (Am.bool (decide (restO o 5=zop))):=(CallC.args' hs ⟨Sub.refl _,Sub.aggs ⟨Sub.refl _,Sub.refl _,Sub.refl _,(Sub.nil _),Sub.refl _,Sub.refl _,Sub.refl _,Sub.refl _,Sub.refl _,Sub.refl _,Sub.refl _,Sub.refl _,Sub.refl _,Sub.refl _,Sub.refl _,Sub.refl _,Sub.refl _,trivial⟩,trivial⟩)
 let l1:List Itm:=[kc [] hw,kY,kj (o.tm<1),kj (o.tm > 1099511627776),kc [] hv,kY,kc [] hc,kY,ko (Orc.mget (AV.agg [int 3,fnV 303]) true),kp kg5,kY]
 by_cases c3:(o.pk=3)
 · have h:=h.1 c3
   have hz6:(o.pk != 3)=false:=(congrArg Bool.not (qEq.2 c3))
   by_cases c4:((↑(ByteArray.size o.pn):Int) > 64)
   · have h:=h.1 c4
     exact callC_out (Sub.int_eq h) (l1++[kf hz6,kt (qT c4),kO,kO])
   · have h:=h.2 c4
     let l2:List Itm:=l1++[kf hz6,kf (qF c4),kc [] hk]
     rcases Bool.eq_false_or_eq_true ((b)) with c5 | c5
     · have h:=h.1 c5
       have hz8:(!b)=false:=(congrArg Bool.not (c5))
       by_cases c6:(restO o 5=zop)
       · have h:=h.1 c6
         exact callC_out (Sub.int_eq h) (l2++[kf hz8,kc [] hr,kc [] hz10,kf (show (!decide (restO o 5=zop))=false from (congrArg Bool.not (qT c6)))])
       · have h:=h.2 c6
         exact callC_out (Sub.int_eq h) (l2++[kf hz8,kc [] hr,kc [] hz10,kt (show (!decide (restO o 5=zop))=true from (congrArg Bool.not (qF c6)))])
     · have h:=h.2 c5
       exact callC_out (Sub.int_eq h) (l2++[kt (show (!b)=true from (congrArg Bool.not (c5))),kO])
 · have h:=h.2 c3
   exact callC_out (Sub.int_eq h) (l1++[kt (show (o.pk != 3)=true from (congrArg Bool.not (qN.2 c3))),kO,kO,kO])
theorem chk6 (o:OP) (l:List D) (b:Bool) (v:Int) (hcx:o.cx.length≤1000000000) (hw:Cq 29 [nilS,dot (o.dv,o.sq)] (.tup [vec l,int 0])) (ht:1≤o.tm) (ht2:o.tm≤1099511627776) (hv:Cq 46 [vec o.cx] (int 0)) (hc:Cq 28 [vec o.cx,dot (o.dv,o.sq)] (bool false)) (hk:Cq 304 [opk o 6] (bool b)) (hr:Cq 60 [opk o 6] (op (restO o 6))) (hs:Cq 59 [op (restO o 6),op zop] (bool (decide (restO o 6=zop)))) (h:(((o.pk=4)→((((↑(ByteArray.size o.pn):Int) > 64)→170=v)∧((¬(↑(ByteArray.size o.pn):Int) > 64)→((((b)=true)→(((restO o 6=zop)→0=v)∧((¬restO o 6=zop)→170=v)))∧(((b)=false)→170=v)))))∧((¬o.pk=4)→170=v))):Cq 31 [opk o 6] (int v):=by
 have hz10:Cq 59 [.agg [int (OP.dv (restO o 6)),int (OP.sq (restO o 6)),int (OP.tm (restO o 6)),.sl 2 false [],int (OP.pk (restO o 6)),str (OP.pn (restO o 6)),int (OP.kd (restO o 6)),int (OP.f1 (restO o 6)),int (OP.f2 (restO o 6)),int (OP.f3 (restO o 6)),int (OP.t1 (restO o 6)),int (OP.t2 (restO o 6)),int (OP.t3 (restO o 6)),str (OP.ky (restO o 6)),str (OP.vl (restO o 6)),int (OP.n (restO o 6)),Am.bool (OP.on (restO o 6))],.agg [int 0,int 0,int 0,nilS,int 0,str (ByteArray.mk #[]),int 0,int 0,int 0,int 0,int 0,int 0,int 0,str (ByteArray.mk #[]),str (ByteArray.mk #[]),int 0,Am.bool false]] (Am.bool (decide (restO o 6=zop))):=(CallC.args' hs ⟨Sub.refl _,Sub.aggs ⟨Sub.refl _,Sub.refl _,Sub.refl _,(Sub.nil _),Sub.refl _,Sub.refl _,Sub.refl _,Sub.refl _,Sub.refl _,Sub.refl _,Sub.refl _,Sub.refl _,Sub.refl _,Sub.refl _,Sub.refl _,Sub.refl _,Sub.refl _,trivial⟩,trivial⟩)
 let l1:List Itm:=[kc [] hw,kY,kj (o.tm<1),kj (o.tm > 1099511627776),kc [] hv,kY,kc [] hc,kY,ko (Orc.mget (AV.agg [int 4,fnV 304]) true),kp kg6,kY]
 by_cases c3:(o.pk=4)
 · have h:=h.1 c3
   have hz6:(o.pk != 4)=false:=(congrArg Bool.not (qEq.2 c3))
   by_cases c4:((↑(ByteArray.size o.pn):Int) > 64)
   · have h:=h.1 c4
     exact callC_out (Sub.int_eq h) (l1++[kf hz6,kt (qT c4),kO,kO])
   · have h:=h.2 c4
     let l2:List Itm:=l1++[kf hz6,kf (qF c4),kc [] hk]
     rcases Bool.eq_false_or_eq_true ((b)) with c5 | c5
     · have h:=h.1 c5
       have hz8:(!b)=false:=(congrArg Bool.not (c5))
       by_cases c6:(restO o 6=zop)
       · have h:=h.1 c6
         exact callC_out (Sub.int_eq h) (l2++[kf hz8,kc [] hr,kc [] hz10,kf (show (!decide (restO o 6=zop))=false from (congrArg Bool.not (qT c6)))])
       · have h:=h.2 c6
         exact callC_out (Sub.int_eq h) (l2++[kf hz8,kc [] hr,kc [] hz10,kt (show (!decide (restO o 6=zop))=true from (congrArg Bool.not (qF c6)))])
     · have h:=h.2 c5
       exact callC_out (Sub.int_eq h) (l2++[kt (show (!b)=true from (congrArg Bool.not (c5))),kO])
 · have h:=h.2 c3
   exact callC_out (Sub.int_eq h) (l1++[kt (show (o.pk != 4)=true from (congrArg Bool.not (qN.2 c3))),kO,kO,kO])
theorem chk7 (o:OP) (l:List D) (b:Bool) (v:Int) (hcx:o.cx.length≤1000000000) (hw:Cq 29 [nilS,dot (o.dv,o.sq)] (.tup [vec l,int 0])) (ht:1≤o.tm) (ht2:o.tm≤1099511627776) (hv:Cq 46 [vec o.cx] (int 0)) (hc:Cq 28 [vec o.cx,dot (o.dv,o.sq)] (bool false)) (hk:Cq 305 [opk o 7] (bool b)) (hr:Cq 60 [opk o 7] (op (restO o 7))) (hs:Cq 59 [op (restO o 7),op zop] (bool (decide (restO o 7=zop)))) (h:(((o.pk=4)→((((↑(ByteArray.size o.pn):Int) > 64)→170=v)∧((¬(↑(ByteArray.size o.pn):Int) > 64)→((((b)=true)→(((restO o 7=zop)→0=v)∧((¬restO o 7=zop)→170=v)))∧(((b)=false)→170=v)))))∧((¬o.pk=4)→170=v))):Cq 31 [opk o 7] (int v):=by
 have hz10:Cq 59 [.agg [int (OP.dv (restO o 7)),int (OP.sq (restO o 7)),int (OP.tm (restO o 7)),.sl 2 false [],int (OP.pk (restO o 7)),str (OP.pn (restO o 7)),int (OP.kd (restO o 7)),int (OP.f1 (restO o 7)),int (OP.f2 (restO o 7)),int (OP.f3 (restO o 7)),int (OP.t1 (restO o 7)),int (OP.t2 (restO o 7)),int (OP.t3 (restO o 7)),str (OP.ky (restO o 7)),str (OP.vl (restO o 7)),int (OP.n (restO o 7)),Am.bool (OP.on (restO o 7))],.agg [int 0,int 0,int 0,nilS,int 0,str (ByteArray.mk #[]),int 0,int 0,int 0,int 0,int 0,int 0,int 0,str (ByteArray.mk #[]),str (ByteArray.mk #[]),int 0,Am.bool false]] (Am.bool (decide (restO o 7=zop))):=(CallC.args' hs ⟨Sub.refl _,Sub.aggs ⟨Sub.refl _,Sub.refl _,Sub.refl _,(Sub.nil _),Sub.refl _,Sub.refl _,Sub.refl _,Sub.refl _,Sub.refl _,Sub.refl _,Sub.refl _,Sub.refl _,Sub.refl _,Sub.refl _,Sub.refl _,Sub.refl _,Sub.refl _,trivial⟩,trivial⟩)
 let l1:List Itm:=[kc [] hw,kY,kj (o.tm<1),kj (o.tm > 1099511627776),kc [] hv,kY,kc [] hc,kY,ko (Orc.mget (AV.agg [int 4,fnV 305]) true),kp kg7,kY]
 by_cases c3:(o.pk=4)
 · have h:=h.1 c3
   have hz6:(o.pk != 4)=false:=(congrArg Bool.not (qEq.2 c3))
   by_cases c4:((↑(ByteArray.size o.pn):Int) > 64)
   · have h:=h.1 c4
     exact callC_out (Sub.int_eq h) (l1++[kf hz6,kt (qT c4),kO,kO])
   · have h:=h.2 c4
     let l2:List Itm:=l1++[kf hz6,kf (qF c4),kc [] hk]
     rcases Bool.eq_false_or_eq_true ((b)) with c5 | c5
     · have h:=h.1 c5
       have hz8:(!b)=false:=(congrArg Bool.not (c5))
       by_cases c6:(restO o 7=zop)
       · have h:=h.1 c6
         exact callC_out (Sub.int_eq h) (l2++[kf hz8,kc [] hr,kc [] hz10,kf (show (!decide (restO o 7=zop))=false from (congrArg Bool.not (qT c6)))])
       · have h:=h.2 c6
         exact callC_out (Sub.int_eq h) (l2++[kf hz8,kc [] hr,kc [] hz10,kt (show (!decide (restO o 7=zop))=true from (congrArg Bool.not (qF c6)))])
     · have h:=h.2 c5
       exact callC_out (Sub.int_eq h) (l2++[kt (show (!b)=true from (congrArg Bool.not (c5))),kO])
 · have h:=h.2 c3
   exact callC_out (Sub.int_eq h) (l1++[kt (show (o.pk != 4)=true from (congrArg Bool.not (qN.2 c3))),kO,kO,kO])
theorem chk8 (o:OP) (l:List D) (b:Bool) (v:Int) (hcx:o.cx.length≤1000000000) (hw:Cq 29 [nilS,dot (o.dv,o.sq)] (.tup [vec l,int 0])) (ht:1≤o.tm) (ht2:o.tm≤1099511627776) (hv:Cq 46 [vec o.cx] (int 0)) (hc:Cq 28 [vec o.cx,dot (o.dv,o.sq)] (bool false)) (hk:Cq 306 [opk o 8] (bool b)) (hr:Cq 60 [opk o 8] (op (restO o 8))) (hs:Cq 59 [op (restO o 8),op zop] (bool (decide (restO o 8=zop)))) (h:(((o.pk=4)→((((↑(ByteArray.size o.pn):Int) > 64)→170=v)∧((¬(↑(ByteArray.size o.pn):Int) > 64)→((((b)=true)→(((restO o 8=zop)→0=v)∧((¬restO o 8=zop)→170=v)))∧(((b)=false)→170=v)))))∧((¬o.pk=4)→170=v))):Cq 31 [opk o 8] (int v):=by
 have hz10:Cq 59 [.agg [int (OP.dv (restO o 8)),int (OP.sq (restO o 8)),int (OP.tm (restO o 8)),.sl 2 false [],int (OP.pk (restO o 8)),str (OP.pn (restO o 8)),int (OP.kd (restO o 8)),int (OP.f1 (restO o 8)),int (OP.f2 (restO o 8)),int (OP.f3 (restO o 8)),int (OP.t1 (restO o 8)),int (OP.t2 (restO o 8)),int (OP.t3 (restO o 8)),str (OP.ky (restO o 8)),str (OP.vl (restO o 8)),int (OP.n (restO o 8)),Am.bool false],.agg [int 0,int 0,int 0,nilS,int 0,str (ByteArray.mk #[]),int 0,int 0,int 0,int 0,int 0,int 0,int 0,str (ByteArray.mk #[]),str (ByteArray.mk #[]),int 0,Am.bool false]] (Am.bool (decide (restO o 8=zop))):=(CallC.args' hs ⟨Sub.refl _,Sub.aggs ⟨Sub.refl _,Sub.refl _,Sub.refl _,(Sub.nil _),Sub.refl _,Sub.refl _,Sub.refl _,Sub.refl _,Sub.refl _,Sub.refl _,Sub.refl _,Sub.refl _,Sub.refl _,Sub.refl _,Sub.refl _,Sub.refl _,Sub.refl _,trivial⟩,trivial⟩)
 let l1:List Itm:=[kc [] hw,kY,kj (o.tm<1),kj (o.tm > 1099511627776),kc [] hv,kY,kc [] hc,kY,ko (Orc.mget (AV.agg [int 4,fnV 306]) true),kp kg8,kY]
 by_cases c3:(o.pk=4)
 · have h:=h.1 c3
   have hz6:(o.pk != 4)=false:=(congrArg Bool.not (qEq.2 c3))
   by_cases c4:((↑(ByteArray.size o.pn):Int) > 64)
   · have h:=h.1 c4
     exact callC_out (Sub.int_eq h) (l1++[kf hz6,kt (qT c4),kO,kO])
   · have h:=h.2 c4
     let l2:List Itm:=l1++[kf hz6,kf (qF c4),kc [] hk]
     rcases Bool.eq_false_or_eq_true ((b)) with c5 | c5
     · have h:=h.1 c5
       have hz8:(!b)=false:=(congrArg Bool.not (c5))
       by_cases c6:(restO o 8=zop)
       · have h:=h.1 c6
         exact callC_out (Sub.int_eq h) (l2++[kf hz8,kc [] hr,kc [] hz10,kf (show (!decide (restO o 8=zop))=false from (congrArg Bool.not (qT c6)))])
       · have h:=h.2 c6
         exact callC_out (Sub.int_eq h) (l2++[kf hz8,kc [] hr,kc [] hz10,kt (show (!decide (restO o 8=zop))=true from (congrArg Bool.not (qF c6)))])
     · have h:=h.2 c5
       exact callC_out (Sub.int_eq h) (l2++[kt (show (!b)=true from (congrArg Bool.not (c5))),kO])
 · have h:=h.2 c3
   exact callC_out (Sub.int_eq h) (l1++[kt (show (o.pk != 4)=true from (congrArg Bool.not (qN.2 c3))),kO,kO,kO])
end Go.Ops


namespace Go.Ops
open Go Go.Am Go.Proofs Go.Seat Go.Vec Go.Cdc
theorem part_w (k v:Int) (h:(((k=1)→1=v)∧((¬k=1)→(((k=2)→1=v)∧((¬k=2)→(((k=3)→2=v)∧((¬k=3)→(((k=4)→2=v)∧((¬k=4)→(((k=5)→3=v)∧((¬k=5)→(((k=6)→4=v)∧((¬k=6)→(((k=7)→4=v)∧((¬k=7)→(((k=8)→4=v)∧((¬k=8)→0=v))))))))))))))))):Cq 67 [int k] (int v):=by
 by_cases c1:(k=1)
 · have h:=h.1 c1
   exact callC_out (Sub.int_eq h) [kt (qEq.2 c1),kt (qEq.2 c1)]
 · have h:=h.2 c1
   let l1:List Itm:=[kf (qN.2 c1)]
   by_cases c2:(k=2)
   · have h:=h.1 c2
     exact callC_out (Sub.int_eq h) (l1++[kt (qEq.2 c2)])
   · have h:=h.2 c2
     let l2:List Itm:=l1++[kf (qN.2 c2)]
     by_cases c3:(k=3)
     · have h:=h.1 c3
       exact callC_out (Sub.int_eq h) (l2++[kt (qEq.2 c3),kt (qEq.2 c3)])
     · have h:=h.2 c3
       let l3:List Itm:=l2++[kf (qN.2 c3)]
       by_cases c4:(k=4)
       · have h:=h.1 c4
         exact callC_out (Sub.int_eq h) (l3++[kt (qEq.2 c4)])
       · have h:=h.2 c4
         let l4:List Itm:=l3++[kf (qN.2 c4)]
         by_cases c5:(k=5)
         · have h:=h.1 c5
           exact callC_out (Sub.int_eq h) (l4++[kt (qEq.2 c5)])
         · have h:=h.2 c5
           let l5:List Itm:=l4++[kf (qN.2 c5)]
           by_cases c6:(k=6)
           · have h:=h.1 c6
             exact callC_out (Sub.int_eq h) (l5++[kt (qEq.2 c6),kt (qEq.2 c6)])
           · have h:=h.2 c6
             by_cases c7:(k=7)
             · have h:=h.1 c7
               exact callC_out (Sub.int_eq h) (l5++[kf (qN.2 c6),kt (qEq.2 c7),kt (qEq.2 c7)])
             · have h:=h.2 c7
               by_cases c8:(k=8)
               · have h:=h.1 c8
                 exact callC_out (Sub.int_eq h) (l5++[kf (qN.2 c6),kf (qN.2 c7),kt (qEq.2 c8)])
               · have h:=h.2 c8
                 exact callC_out (Sub.int_eq h) (l5++[kf (qN.2 c6),kf (qN.2 c7),kf (qN.2 c8)])
theorem part_c (k:Int):Cq 67 [int k] (int (partOf k)):=part_w k _ (by
 unfold partOf
 grind)
def usesO (o:OP):Int→OP
 | 1=>{ zop with dv:=o.dv,sq:=o.sq,tm:=o.tm,cx:=o.cx,pk:=o.pk,pn:=o.pn,kd:=1,f1:=o.f1,f2:=o.f2,f3:=o.f3,vl:=o.vl }
 | 2=>{ zop with dv:=o.dv,sq:=o.sq,tm:=o.tm,cx:=o.cx,pk:=o.pk,pn:=o.pn,kd:=2,f1:=o.f1,f2:=o.f2,f3:=o.f3 }
 | 3=>{ zop with dv:=o.dv,sq:=o.sq,tm:=o.tm,cx:=o.cx,pk:=o.pk,pn:=o.pn,kd:=3,ky:=o.ky,vl:=o.vl }
 | 4=>{ zop with dv:=o.dv,sq:=o.sq,tm:=o.tm,cx:=o.cx,pk:=o.pk,pn:=o.pn,kd:=4,ky:=o.ky }
 | 5=>{ zop with dv:=o.dv,sq:=o.sq,tm:=o.tm,cx:=o.cx,pk:=o.pk,pn:=o.pn,kd:=5,n:=o.n }
 | 6=>{ zop with dv:=o.dv,sq:=o.sq,tm:=o.tm,cx:=o.cx,pk:=o.pk,pn:=o.pn,kd:=6,f1:=o.f1,f2:=o.f2,f3:=o.f3,vl:=o.vl }
 | 7=>{ zop with dv:=o.dv,sq:=o.sq,tm:=o.tm,cx:=o.cx,pk:=o.pk,pn:=o.pn,kd:=7,f1:=o.f1,f2:=o.f2,f3:=o.f3,n:=o.n }
 | _=>{ zop with dv:=o.dv,sq:=o.sq,tm:=o.tm,cx:=o.cx,pk:=o.pk,pn:=o.pn,kd:=8,f1:=o.f1,f2:=o.f2,f3:=o.f3,t1:=o.t1,t2:=o.t2,t3:=o.t3,n:=o.n,on:=o.on }
theorem uses1_w (o:OP) (h:True):Cq 69 [opk o 1] (op (usesO o 1)):=by
 have _:=h
 exact callC_of [kO,kO]
theorem rf1_w (o:OP) (v:Bool) (hc:o.cx.length≤1000000000) (h3 : -9223372036854775808≤o.f3∧o.f3<9223372036854775808) (h:((((o.f1 == 0 && (o.f2 == 0 && o.f3 == 0))=true)→(decide ((↑(ByteArray.size o.vl):Int)≤4096))=(v))∧(((o.f1 == 0 && (o.f2 == 0 && o.f3 == 0))=false)→((((knowsB (OP.mk o.dv o.sq o.tm o.cx o.pk o.pn 1 o.f1 o.f2 o.f3 o.t1 o.t2 o.t3 o.ky o.vl o.n o.on) o.f1 o.f2 o.f3)=true)→(decide ((↑(ByteArray.size o.vl):Int)≤4096))=(v))∧(((knowsB (OP.mk o.dv o.sq o.tm o.cx o.pk o.pn 1 o.f1 o.f2 o.f3 o.t1 o.t2 o.t3 o.ky o.vl o.n o.on) o.f1 o.f2 o.f3)=false)→(false)=(v)))))):Cq 68 [opk o 1] (Am.bool v):=by
 rcases Bool.eq_false_or_eq_true ((o.f1 == 0 && (o.f2 == 0 && o.f3 == 0))) with c1 | c1
 · have h:=h.1 c1
   exact callC_out (Sub.bool_eq h) [kO,kt c1,kO]
 · have h:=h.2 c1
   have hz0:=(@rknows_c (OP.mk o.dv o.sq o.tm o.cx o.pk o.pn 1 o.f1 o.f2 o.f3 o.t1 o.t2 o.t3 o.ky o.vl o.n o.on) o.f1 o.f2 o.f3 (by omega))
   rcases Bool.eq_false_or_eq_true ((knowsB (OP.mk o.dv o.sq o.tm o.cx o.pk o.pn 1 o.f1 o.f2 o.f3 o.t1 o.t2 o.t3 o.ky o.vl o.n o.on) o.f1 o.f2 o.f3)) with c2 | c2
   · have h:=h.1 c2
     exact callC_out (Sub.bool_eq h) [kO,kf c1,kc [] hz0,kt c2]
   · have h:=h.2 c2
     exact callC_out (Sub.bool_eq h) [kO,kf c1,kc [] hz0,kf c2]
theorem uses2_w (o:OP) (h:True):Cq 69 [opk o 2] (op (usesO o 2)):=by
 have _:=h
 exact callC_of [kY,kY,kO]
theorem rf2_w (o:OP) (v:Bool) (hc:o.cx.length≤1000000000) (h3 : -9223372036854775808≤o.f3∧o.f3<9223372036854775808) (h:(knowsB (OP.mk o.dv o.sq o.tm o.cx o.pk o.pn 2 o.f1 o.f2 o.f3 o.t1 o.t2 o.t3 o.ky o.vl o.n o.on) o.f1 o.f2 o.f3)=(v)):Cq 68 [opk o 2] (Am.bool v):=by
 exact callC_out (Sub.bool_eq h) [kY,kO,kc [] (@rknows_c (OP.mk o.dv o.sq o.tm o.cx o.pk o.pn 2 o.f1 o.f2 o.f3 o.t1 o.t2 o.t3 o.ky o.vl o.n o.on) o.f1 o.f2 o.f3 (by omega))]
theorem uses3_w (o:OP) (h:True):Cq 69 [opk o 3] (op (usesO o 3)):=by
 have _:=h
 exact callC_of [kY,kY,kY,kO]
theorem rf3_w (o:OP) (v:Bool) (hc:o.cx.length≤1000000000) (h3 : -9223372036854775808≤o.f3∧o.f3<9223372036854775808) (h:((((↑(ByteArray.size o.ky):Int)≤64)→(decide ((↑(ByteArray.size o.vl):Int)≤4096))=(v))∧((¬(↑(ByteArray.size o.ky):Int)≤64)→(false)=(v)))):Cq 68 [opk o 3] (Am.bool v):=by
 by_cases c1:((↑(ByteArray.size o.ky):Int)≤64)
 · have h:=h.1 c1
   exact callC_out (Sub.bool_eq h) [kY,kY,kO,kt (qT c1)]
 · have h:=h.2 c1
   exact callC_out (Sub.bool_eq h) [kY,kY,kO,kf (qF c1)]
theorem uses4_w (o:OP) (h:True):Cq 69 [opk o 4] (op (usesO o 4)):=by
 have _:=h
 exact callC_of [kY,kY,kY,kY,kO]
theorem rf4_w (o:OP) (v:Bool) (hc:o.cx.length≤1000000000) (h3 : -9223372036854775808≤o.f3∧o.f3<9223372036854775808) (h:(decide ((↑(ByteArray.size o.ky):Int)≤64))=(v)):Cq 68 [opk o 4] (Am.bool v):=by
 exact callC_out (Sub.bool_eq h) [kY,kY,kY,kO]
theorem uses5_w (o:OP) (h:True):Cq 69 [opk o 5] (op (usesO o 5)):=by
 have _:=h
 exact callC_of [kY,kY,kY,kY,kY,kO]
theorem rf5_w (o:OP) (v:Bool) (hc:o.cx.length≤1000000000) (h3 : -9223372036854775808≤o.f3∧o.f3<9223372036854775808) (h:(((o.n≥(-1125899906842624:Int))→(decide (o.n≤1125899906842624))=(v))∧((¬o.n≥(-1125899906842624:Int))→(false)=(v)))):Cq 68 [opk o 5] (Am.bool v):=by
 let l1:List Itm:=[kY,kY,kY,kY,kO]
 by_cases c1:(o.n≥(-1125899906842624:Int))
 · have h:=h.1 c1
   exact callC_out (Sub.bool_eq h) (l1++[kt (qT c1)])
 · have h:=h.2 c1
   exact callC_out (Sub.bool_eq h) (l1++[kf (qF c1)])
theorem uses6_w (o:OP) (h:True):Cq 69 [opk o 6] (op (usesO o 6)):=by
 have _:=h
 exact callC_of [kY,kO]
theorem rf6_w (o:OP) (v:Bool) (hc:o.cx.length≤1000000000) (h3 : -9223372036854775808≤o.f3∧o.f3<9223372036854775808) (h:((((o.f1 == 0 && (o.f2 == 0 && o.f3 == 0))=true)→((((↑(ByteArray.size o.vl):Int)≥1)→(decide ((↑(ByteArray.size o.vl):Int)≤64))=(v))∧((¬(↑(ByteArray.size o.vl):Int)≥1)→(false)=(v))))∧(((o.f1 == 0 && (o.f2 == 0 && o.f3 == 0))=false)→((((knowsB (OP.mk o.dv o.sq o.tm o.cx o.pk o.pn 6 o.f1 o.f2 o.f3 o.t1 o.t2 o.t3 o.ky o.vl o.n o.on) o.f1 o.f2 o.f3)=true)→((((↑(ByteArray.size o.vl):Int)≥1)→(decide ((↑(ByteArray.size o.vl):Int)≤64))=(v))∧((¬(↑(ByteArray.size o.vl):Int)≥1)→(false)=(v))))∧(((knowsB (OP.mk o.dv o.sq o.tm o.cx o.pk o.pn 6 o.f1 o.f2 o.f3 o.t1 o.t2 o.t3 o.ky o.vl o.n o.on) o.f1 o.f2 o.f3)=false)→(false)=(v)))))):Cq 68 [opk o 6] (Am.bool v):=by
 let l1:List Itm:=[kY,kY,kY,kY,kY,kO]
 rcases Bool.eq_false_or_eq_true ((o.f1 == 0 && (o.f2 == 0 && o.f3 == 0))) with c1 | c1
 · have h:=h.1 c1
   by_cases c2:((↑(ByteArray.size o.vl):Int)≥1)
   · have h:=h.1 c2
     exact callC_out (Sub.bool_eq h) (l1++[kt c1,kO,kt (qT c2)])
   · have h:=h.2 c2
     exact callC_out (Sub.bool_eq h) (l1++[kt c1,kO,kf (qF c2)])
 · have h:=h.2 c1
   have hz0:=(@rknows_c (OP.mk o.dv o.sq o.tm o.cx o.pk o.pn 6 o.f1 o.f2 o.f3 o.t1 o.t2 o.t3 o.ky o.vl o.n o.on) o.f1 o.f2 o.f3 (by omega))
   rcases Bool.eq_false_or_eq_true ((knowsB (OP.mk o.dv o.sq o.tm o.cx o.pk o.pn 6 o.f1 o.f2 o.f3 o.t1 o.t2 o.t3 o.ky o.vl o.n o.on) o.f1 o.f2 o.f3)) with c3 | c3
   · have h:=h.1 c3
     by_cases c4:((↑(ByteArray.size o.vl):Int)≥1)
     · have h:=h.1 c4
       exact callC_out (Sub.bool_eq h) (l1++[kf c1,kc [] hz0,kt c3,kt (qT c4)])
     · have h:=h.2 c4
       exact callC_out (Sub.bool_eq h) (l1++[kf c1,kc [] hz0,kt c3,kf (qF c4)])
   · have h:=h.2 c3
     exact callC_out (Sub.bool_eq h) (l1++[kf c1,kc [] hz0,kf c3,kY])
theorem uses7_w (o:OP) (h:True):Cq 69 [opk o 7] (op (usesO o 7)):=by
 have _:=h
 exact callC_of [kY,kY,kY,kY,kY,kY,kO]
theorem rf7_w (o:OP) (v:Bool) (hc:o.cx.length≤1000000000) (h3 : -9223372036854775808≤o.f3∧o.f3<9223372036854775808) (h:((((knowsB (OP.mk o.dv o.sq o.tm o.cx o.pk o.pn 7 o.f1 o.f2 o.f3 o.t1 o.t2 o.t3 o.ky o.vl o.n o.on) o.f1 o.f2 o.f3)=true)→(((o.n≥1)→(decide (o.n≤IntKind.wrap IntKind.i64 (64 - o.f3)))=(v))∧((¬o.n≥1)→(false)=(v))))∧(((knowsB (OP.mk o.dv o.sq o.tm o.cx o.pk o.pn 7 o.f1 o.f2 o.f3 o.t1 o.t2 o.t3 o.ky o.vl o.n o.on) o.f1 o.f2 o.f3)=false)→(false)=(v)))):Cq 68 [opk o 7] (Am.bool v):=by
 have hz0:=(@rknows_c (OP.mk o.dv o.sq o.tm o.cx o.pk o.pn 7 o.f1 o.f2 o.f3 o.t1 o.t2 o.t3 o.ky o.vl o.n o.on) o.f1 o.f2 o.f3 (by omega))
 let l1:List Itm:=[kY,kY,kY,kY,kY,kY,kO,kc [] hz0]
 rcases Bool.eq_false_or_eq_true ((knowsB (OP.mk o.dv o.sq o.tm o.cx o.pk o.pn 7 o.f1 o.f2 o.f3 o.t1 o.t2 o.t3 o.ky o.vl o.n o.on) o.f1 o.f2 o.f3)) with c1 | c1
 · have h:=h.1 c1
   by_cases c2:(o.n≥1)
   · have h:=h.1 c2
     exact callC_out (Sub.bool_eq h) (l1++[kt c1,kt (qT c2)])
   · have h:=h.2 c2
     exact callC_out (Sub.bool_eq h) (l1++[kt c1,kf (qF c2)])
 · have h:=h.2 c1
   exact callC_out (Sub.bool_eq h) (l1++[kf c1,kY])
theorem uses8_w (o:OP) (h:True):Cq 69 [opk o 8] (op (usesO o 8)):=by
 have _:=h
 exact callC_of [kY,kY,kY,kY,kY,kY,kY,kO]
theorem rf8_w (o:OP) (v:Bool) (hc:o.cx.length≤1000000000) (h3 : -9223372036854775808≤o.f3∧o.f3<9223372036854775808) (h:((((knowsB (OP.mk o.dv o.sq o.tm o.cx o.pk o.pn 8 o.f1 o.f2 o.f3 o.t1 o.t2 o.t3 o.ky o.vl o.n o.on) o.f1 o.f2 o.f3)=true)→((((knowsB (OP.mk o.dv o.sq o.tm o.cx o.pk o.pn 8 o.f1 o.f2 o.f3 o.t1 o.t2 o.t3 o.ky o.vl o.n o.on) o.t1 o.t2 o.t3)=true)→(((o.n≥0)→(decide (o.n≤15))=(v))∧((¬o.n≥0)→(false)=(v))))∧(((knowsB (OP.mk o.dv o.sq o.tm o.cx o.pk o.pn 8 o.f1 o.f2 o.f3 o.t1 o.t2 o.t3 o.ky o.vl o.n o.on) o.t1 o.t2 o.t3)=false)→(false)=(v))))∧(((knowsB (OP.mk o.dv o.sq o.tm o.cx o.pk o.pn 8 o.f1 o.f2 o.f3 o.t1 o.t2 o.t3 o.ky o.vl o.n o.on) o.f1 o.f2 o.f3)=false)→(false)=(v)))):Cq 68 [opk o 8] (Am.bool v):=by
 have hz0:=(@rknows_c (OP.mk o.dv o.sq o.tm o.cx o.pk o.pn 8 o.f1 o.f2 o.f3 o.t1 o.t2 o.t3 o.ky o.vl o.n o.on) o.f1 o.f2 o.f3 (by omega))
 let l1:List Itm:=[kY,kY,kY,kY,kY,kY,kY,kc [] hz0]
 rcases Bool.eq_false_or_eq_true ((knowsB (OP.mk o.dv o.sq o.tm o.cx o.pk o.pn 8 o.f1 o.f2 o.f3 o.t1 o.t2 o.t3 o.ky o.vl o.n o.on) o.f1 o.f2 o.f3)) with c1 | c1
 · have h:=h.1 c1
   have hz1:=(@rknows_c (OP.mk o.dv o.sq o.tm o.cx o.pk o.pn 8 o.f1 o.f2 o.f3 o.t1 o.t2 o.t3 o.ky o.vl o.n o.on) o.t1 o.t2 o.t3 (by omega))
   rcases Bool.eq_false_or_eq_true ((knowsB (OP.mk o.dv o.sq o.tm o.cx o.pk o.pn 8 o.f1 o.f2 o.f3 o.t1 o.t2 o.t3 o.ky o.vl o.n o.on) o.t1 o.t2 o.t3)) with c2 | c2
   · have h:=h.1 c2
     by_cases c3:(o.n≥0)
     · have h:=h.1 c3
       exact callC_out (Sub.bool_eq h) (l1++[kt c1,kc [] hz1,kt c2,kt (qT c3)])
     · have h:=h.2 c3
       exact callC_out (Sub.bool_eq h) (l1++[kt c1,kc [] hz1,kt c2,kf (qF c3)])
   · have h:=h.2 c2
     exact callC_out (Sub.bool_eq h) (l1++[kt c1,kc [] hz1,kf c2,kY])
 · have h:=h.2 c1
   exact callC_out (Sub.bool_eq h) (l1++[kf c1,kY,kY])
theorem rchk_w (o u:OP) (p c v:Int) (b1 b2 b3 b4:Bool) (hd:Cq 66 [dot (o.dv,o.sq)] (bool b1)) (hv:Cq 47 [vec o.cx] (int c)) (hc:Cq 48 [vec o.cx,dot (o.dv,o.sq)] (bool b2)) (hp:Cq 67 [int o.kd] (int p)) (hf:Cq 68 [op o] (bool b3)) (hu:Cq 69 [op o] (op u)) (hs:Cq 34 [op o,op u] (bool b4)) (h:((((b1)=true)→(((o.tm<1)→170=v)∧((¬o.tm<1)→(((o.tm > 1099511627776)→170=v)∧((¬o.tm > 1099511627776)→(((c=0)→((((b2)=true)→170=v)∧(((b2)=false)→(((p=0)→170=v)∧((¬p=0)→(((o.pk=p)→((((↑(ByteArray.size o.pn):Int) > 64)→170=v)∧((¬(↑(ByteArray.size o.pn):Int) > 64)→((((b3)=true)→((((b4)=true)→0=v)∧(((b4)=false)→170=v)))∧(((b3)=false)→170=v)))))∧((¬o.pk=p)→170=v)))))))∧((¬c=0)→170=v)))))))∧(((b1)=false)→170=v))):Cq 37 [op o] (int v):=by
 let l1:List Itm:=[kc [] hd]
 rcases Bool.eq_false_or_eq_true ((b1)) with c1 | c1
 · have h:=h.1 c1
   have hz1:(!b1)=false:=(congrArg Bool.not (c1))
   by_cases c2:(o.tm<1)
   · have h:=h.1 c2
     exact callC_out (Sub.int_eq h) (l1++[kf hz1,kt (qT c2),kO,kO,kO])
   · have h:=h.2 c2
     let l2:List Itm:=l1++[kf hz1,kf (qF c2)]
     by_cases c3:(o.tm > 1099511627776)
     · have h:=h.1 c3
       exact callC_out (Sub.int_eq h) (l2++[kt (qT c3),kO,kO])
     · have h:=h.2 c3
       let l3:List Itm:=l2++[kf (qF c3),kc [] hv]
       by_cases c4:(c=0)
       · have h:=h.1 c4
         let l4:List Itm:=l3++[kf (show (c != 0)=false from (congrArg Bool.not (qEq.2 c4))),kc [] hc]
         rcases Bool.eq_false_or_eq_true ((b2)) with c5 | c5
         · have h:=h.1 c5
           exact callC_out (Sub.int_eq h) (l4++[kt c5])
         · have h:=h.2 c5
           let l5:List Itm:=l4++[kf c5,kc [] hp]
           by_cases c6:(p=0)
           · have h:=h.1 c6
             exact callC_out (Sub.int_eq h) (l5++[kt (qEq.2 c6),kO,kO])
           · have h:=h.2 c6
             let l6:List Itm:=l5++[kf (qN.2 c6),kc [] hp]
             by_cases c7:(o.pk=p)
             · have h:=h.1 c7
               have hz6:(o.pk != p)=false:=(congrArg Bool.not (qEq.2 c7))
               by_cases c8:((↑(ByteArray.size o.pn):Int) > 64)
               · have h:=h.1 c8
                 exact callC_out (Sub.int_eq h) (l6++[kf hz6,kt (qT c8)])
               · have h:=h.2 c8
                 let l7:List Itm:=l6++[kf hz6,kf (qF c8),kc [] hf]
                 rcases Bool.eq_false_or_eq_true ((b3)) with c9 | c9
                 · have h:=h.1 c9
                   have hz8:(!b3)=false:=(congrArg Bool.not (c9))
                   rcases Bool.eq_false_or_eq_true ((b4)) with c10 | c10
                   · have h:=h.1 c10
                     exact callC_out (Sub.int_eq h) (l7++[kf hz8,kc [] hu,kc [] hs,kf (show (!b4)=false from (congrArg Bool.not (c10)))])
                   · have h:=h.2 c10
                     exact callC_out (Sub.int_eq h) (l7++[kf hz8,kc [] hu,kc [] hs,kt (show (!b4)=true from (congrArg Bool.not (c10)))])
                 · have h:=h.2 c9
                   exact callC_out (Sub.int_eq h) (l7++[kt (show (!b3)=true from (congrArg Bool.not (c9))),kO])
             · have h:=h.2 c7
               exact callC_out (Sub.int_eq h) (l6++[kt (show (o.pk != p)=true from (congrArg Bool.not (qN.2 c7))),kO])
       · have h:=h.2 c4
         exact callC_out (Sub.int_eq h) (l3++[kt (show (c != 0)=true from (congrArg Bool.not (qN.2 c4))),kO])
 · have h:=h.2 c1
   exact callC_out (Sub.int_eq h) (l1++[kt (show (!b1)=true from (congrArg Bool.not (c1))),kO,kO,kO,kO])
end Go.Ops


namespace Go.Ops
open Go Go.Am Go.Proofs Go.Seat Go.Vec Go.Cdc
structure Okn (o:OP):Prop where
 cx:o.cx.length≤1000000000
 kd : -9223372036854775808≤o.kd∧o.kd<9223372036854775808
 f3 : -9223372036854775808≤o.f3∧o.f3<9223372036854775808
def stageB (o:OP):Bool:=isDotB (o.dv,o.sq) && decide (o.tm≥1) && decide (o.tm≤1099511627776) && okB o.cx && !coversB o.cx (o.dv,o.sq)
def kindB (o:OP):Bool:=decide (o.pk=partOf o.kd) && decide ((o.pn.size:Int)≤64) && fieldsB o o.kd && decide (restO o o.kd=zop)
def chkB' (o:OP):Bool:=stageB o && decide (1≤o.kd) && decide (o.kd≤8) && kindB o
def chkOE (o:OP):Int:=if chkB' o=true then 0 else 170
theorem dot1 (x:D):checkE [x]=if isDotB x=true then 0 else 120:=by
 unfold checkE okB
 simp [okN,okAt]
theorem with_nil (o:OP):∃ l:List D,Cq 29 [nilS,dot (o.dv,o.sq)] (.tup [vec l,int (if isDotB (o.dv,o.sq)=true then 0 else 120)]):=by
 have h:=with_c [] o.dv o.sq (by simp)
 refine ⟨joinE [] [(o.dv,o.sq)],?_⟩
 have e:check2E [] [(o.dv,o.sq)]=if isDotB (o.dv,o.sq)=true then 0 else 120:=by
  unfold check2E
  rw [if_pos (by rfl),dot1]
 rw [e] at h
 exact CallC.args' h ⟨Sub.nil 2,Sub.refl _,trivial⟩
theorem kind_c (o:OP) (k:Int) (b:Bool) (hb:b=fieldsB o k) (hk:o.kd=k) (hs:stageB o=true) (h1:1≤k) (h8:k≤8)
 (h:∀ v,(((o.pk=partOf k→((((o.pn.size:Int) > 64→170=v)∧(¬ (o.pn.size:Int) > 64→((b=true→((restO o k=zop→0=v)∧(¬ restO o k=zop→170=v)))∧(b=false→170=v))))))∧(¬ o.pk=partOf k→170=v)))→Cq 31 [opk o k] (int v)) :
 Cq 31 [op o] (int (chkOE o)):=by
 rw [← opk_op o k hk]
 apply h
 subst hk hb
 have e:chkB' o=kindB o:=by simp [chkB',hs,h1,h8]
 unfold chkOE
 rw [e]
 unfold kindB
 refine ⟨fun a=>⟨fun b=>?_,fun b=>⟨fun c=>⟨fun d=>?_,fun d=>?_⟩,fun c=>?_⟩⟩,fun a=>?_⟩
 · rw [if_neg]; intro hq; simp only [Bool.and_eq_true,decide_eq_true_eq] at hq; omega
 · rw [if_pos]; simp only [Bool.and_eq_true,decide_eq_true_eq]; exact ⟨⟨⟨a,by omega⟩,c⟩,d⟩
 · rw [if_neg]; intro hq; simp only [Bool.and_eq_true,decide_eq_true_eq] at hq; exact d hq.2
 · rw [if_neg]; intro hq; simp only [Bool.and_eq_true,decide_eq_true_eq] at hq; rw [c] at hq; exact absurd hq.1.2 (by decide)
 · rw [if_neg]; intro hq; simp only [Bool.and_eq_true,decide_eq_true_eq] at hq; exact a hq.1.1.1
theorem restO_cx (o:OP) (k:Int):(restO o k).cx=[]:=by unfold restO; split<;>rfl
theorem rest_same (o:OP) (k:Int):Cq 59 [op (restO o k),op zop] (bool (decide (restO o k=zop))):=same_c _ _ (by rw [restO_cx]; simp)
theorem bad_c (o:OP) (h:chkB' o=false) (hc:Cq 31 [op o] (int 170)):Cq 31 [op o] (int (chkOE o)):=by
 rw [show chkOE o=170 by unfold chkOE; rw [if_neg (by rw [h]; decide)]]; exact hc
theorem check_c (o:OP) (hn:Okn o):Cq 31 [op o] (int (chkOE o)):=by
 obtain ⟨l,hw⟩:=with_nil o
 by_cases hd:isDotB (o.dv,o.sq)=true
 · rw [if_pos hd] at hw
   by_cases t1:o.tm<1
   · exact bad_c o (by simp only [chkB',stageB]; simp [show ¬ o.tm≥1 by omega]) (chkB o l hw t1 trivial)
   by_cases t2:1099511627776<o.tm
   · exact bad_c o (by simp only [chkB',stageB]; simp [show ¬ o.tm≤1099511627776 by omega]) (chkC o l hw (by omega) t2 trivial)
   have hv:=Vec.check_c o.cx hn.cx
   by_cases hok:okB o.cx=true
   · have e0:checkE o.cx=0:=by unfold checkE; rw [if_pos hok]
     rw [e0] at hv
     have hcv:=covers_c o.cx o.dv o.sq hn.cx
     cases hcb:coversB o.cx (o.dv,o.sq) with
     | true =>
      rw [hcb] at hcv
      exact bad_c o (by simp only [chkB',stageB]; simp [hcb]) (chkE o l hw (by omega) (by omega) hv hcv trivial)
     | false =>
      rw [hcb] at hcv
      have hs:stageB o=true:=by simp only [stageB]; simp [hd,hok,hcb]; omega
      by_cases hk:o.kd<1∨8<o.kd
      · exact bad_c o (by
         unfold chkB'
         have:(decide (1≤o.kd) && decide (o.kd≤8))=false:=by
          rw [Bool.and_eq_false_iff]; simp; omega
         rw [Bool.and_assoc (stageB o),this]; simp) (chkF o l hw (by omega) (by omega) hv hcv (kgn o.kd hn.kd hk) trivial)
      · have hcase:o.kd=1∨o.kd=2∨o.kd=3∨o.kd=4∨o.kd=5∨o.kd=6∨o.kd=7∨o.kd=8:=by omega
        rcases hcase with h | h | h | h | h | h | h | h
        · exact kind_c o 1 _ rfl h hs (by decide) (by decide) fun v q=>chk1 o l _ v hn.cx hw (by omega) (by omega) hv hcv (k1_c { o with kd:=1 } hn.cx) (rest1_w o trivial) (rest_same o 1) q
        · exact kind_c o 2 _ rfl h hs (by decide) (by decide) fun v q=>chk2 o l _ v hn.cx hw (by omega) (by omega) hv hcv (k2_c { o with kd:=2 } hn.cx) (rest2_w o trivial) (rest_same o 2) q
        · exact kind_c o 3 _ rfl h hs (by decide) (by decide) fun v q=>chk3 o l _ v hn.cx hw (by omega) (by omega) hv hcv (k3_c { o with kd:=3 }) (rest3_w o trivial) (rest_same o 3) q
        · exact kind_c o 4 _ rfl h hs (by decide) (by decide) fun v q=>chk4 o l _ v hn.cx hw (by omega) (by omega) hv hcv (k4_c { o with kd:=4 }) (rest4_w o trivial) (rest_same o 4) q
        · exact kind_c o 5 _ rfl h hs (by decide) (by decide) fun v q=>chk5 o l _ v hn.cx hw (by omega) (by omega) hv hcv (k5_c { o with kd:=5 }) (rest5_w o trivial) (rest_same o 5) q
        · exact kind_c o 6 _ rfl h hs (by decide) (by decide) fun v q=>chk6 o l _ v hn.cx hw (by omega) (by omega) hv hcv (k6_c { o with kd:=6 } hn.cx) (rest6_w o trivial) (rest_same o 6) q
        · exact kind_c o 7 _ rfl h hs (by decide) (by decide) fun v q=>chk7 o l _ v hn.cx hw (by omega) (by omega) hv hcv (k7_c { o with kd:=7 } hn.cx hn.f3) (rest7_w o trivial) (rest_same o 7) q
        · exact kind_c o 8 _ rfl h hs (by decide) (by decide) fun v q=>chk8 o l _ v hn.cx hw (by omega) (by omega) hv hcv (k8_c { o with kd:=8 } hn.cx) (rest8_w o trivial) (rest_same o 8) q
   · have e0:¬ checkE o.cx=0:=by unfold checkE; rw [if_neg hok]; decide
     exact bad_c o (by simp only [chkB',stageB]; simp [hok]) (chkD o l _ hw (by omega) (by omega) hv e0 trivial)
 · rw [if_neg hd] at hw
   exact bad_c o (by simp only [chkB',stageB]; simp [hd]) (chkA o l 120 hw (by decide) trivial)
theorem rchk0_w (o:OP) (c v:Int) (b1 b2:Bool) (hd:Cq 66 [dot (o.dv,o.sq)] (bool b1)) (hv:Cq 47 [vec o.cx] (int c)) (hc:Cq 48 [vec o.cx,dot (o.dv,o.sq)] (bool b2)) (hp:Cq 67 [int o.kd] (int 0)) (h:((((b1)=true)→(((o.tm<1)→170=v)∧((¬o.tm<1)→(((o.tm > 1099511627776)→170=v)∧((¬o.tm > 1099511627776)→(((c=0)→((((b2)=true)→170=v)∧(((b2)=false)→170=v)))∧((¬c=0)→170=v)))))))∧(((b1)=false)→170=v))):Cq 37 [op o] (int v):=by
 rcases Bool.eq_false_or_eq_true ((b1)) with c1 | c1
 · have h:=h.1 c1
   let l1:List Itm:=[kc [] hd,kf (show (!b1)=false from (congrArg Bool.not (c1)))]
   by_cases c2:(o.tm<1)
   · have h:=h.1 c2
     exact callC_out (Sub.int_eq h) (l1++[kt (qT c2),kO,kO,kO])
   · have h:=h.2 c2
     let l2:List Itm:=l1++[kf (qF c2)]
     by_cases c3:(o.tm > 1099511627776)
     · have h:=h.1 c3
       exact callC_out (Sub.int_eq h) (l2++[kt (qT c3),kO,kO])
     · have h:=h.2 c3
       let l3:List Itm:=l2++[kf (qF c3),kc [] hv]
       by_cases c4:(c=0)
       · have h:=h.1 c4
         have hz3:(c != 0)=false:=(congrArg Bool.not (qEq.2 c4))
         rcases Bool.eq_false_or_eq_true ((b2)) with c5 | c5
         · have h:=h.1 c5
           exact callC_out (Sub.int_eq h) (l3++[kf hz3,kc [] hc,kt c5])
         · have h:=h.2 c5
           exact callC_out (Sub.int_eq h) (l3++[kf hz3,kc [] hc,kf c5,kc [] hp,kO,kO,kO])
       · have h:=h.2 c4
         exact callC_out (Sub.int_eq h) (l3++[kt (show (c != 0)=true from (congrArg Bool.not (qN.2 c4))),kO])
 · have h:=h.2 c1
   exact callC_out (Sub.int_eq h) [kc [] hd,kt (show (!b1)=true from (congrArg Bool.not (c1))),kO,kO,kO,kO]
theorem knowsB_kd (o:OP) (k a b c:Int):knowsB { o with kd:=k } a b c=knowsB o a b c:=rfl
theorem rf1_c (o:OP) (hn:Okn o):Cq 68 [opk o 1] (bool (fieldsB o 1)):=rf1_w o _ hn.cx hn.f3 (by
 simp only [fieldsB,beginsB]
 have e:=fun a b c=>knowsB_kd o 1 a b c
 simp only [e]
 grind)
theorem rf2_c (o:OP) (hn:Okn o):Cq 68 [opk o 2] (bool (fieldsB o 2)):=rf2_w o _ hn.cx hn.f3 rfl
theorem rf3_c (o:OP) (hn:Okn o):Cq 68 [opk o 3] (bool (fieldsB o 3)):=rf3_w o _ hn.cx hn.f3 (by simp only [fieldsB]; exact ⟨fun h=>by simp [h],fun h=>by simp [h]⟩)
theorem rf4_c (o:OP) (hn:Okn o):Cq 68 [opk o 4] (bool (fieldsB o 4)):=rf4_w o _ hn.cx hn.f3 rfl
theorem rf5_c (o:OP) (hn:Okn o):Cq 68 [opk o 5] (bool (fieldsB o 5)):=rf5_w o _ hn.cx hn.f3 (by simp only [fieldsB]; exact ⟨fun h=>by simp [h],fun h=>by simp [h]⟩)
theorem rf6_c (o:OP) (hn:Okn o):Cq 68 [opk o 6] (bool (fieldsB o 6)):=rf6_w o _ hn.cx hn.f3 (by
 simp only [fieldsB,beginsB]
 have e:=fun a b c=>knowsB_kd o 6 a b c
 simp only [e]
 repeat' (first | refine And.intro ?_ ?_ | intro _)
 all_goals grind)
theorem rf7_c (o:OP) (hn:Okn o):Cq 68 [opk o 7] (bool (fieldsB o 7)):=rf7_w o _ hn.cx hn.f3 (by
 simp only [fieldsB]
 have e:=fun a b c=>knowsB_kd o 7 a b c
 simp only [e]
 refine ⟨fun h=>?_,fun h=>by simp [h]⟩
 have:=knowsB_at h
 rw [Am.wrap_ok (by omega) (by omega)]
 exact ⟨fun h2=>by simp [h,h2],fun h2=>by simp [h,h2]⟩)
theorem rf8_c (o:OP) (hn:Okn o):Cq 68 [opk o 8] (bool (fieldsB o 8)):=rf8_w o _ hn.cx hn.f3 (by
 simp only [fieldsB]
 have e:=fun a b c=>knowsB_kd o 8 a b c
 simp only [e]
 exact ⟨fun h=>⟨fun h1=>⟨fun h2=>by simp [h,h1,h2],fun h2=>by simp [h,h1,h2]⟩,fun h1=>by simp [h,h1]⟩,fun h=>by simp [h]⟩)
theorem partOf_pos {k:Int}:partOf k=0↔k<1∨8<k:=by unfold partOf; grind
theorem rfields_c (o:OP) (hn:Okn o) (hk:¬ (o.kd<1∨8<o.kd)):Cq 68 [op o] (bool (fieldsB o o.kd)):=by
 have hcase:o.kd=1∨o.kd=2∨o.kd=3∨o.kd=4∨o.kd=5∨o.kd=6∨o.kd=7∨o.kd=8:=by omega
 rcases hcase with h | h | h | h | h | h | h | h<;>rw [← opk_op o _ h,h]
 · exact rf1_c o hn
 · exact rf2_c o hn
 · exact rf3_c o hn
 · exact rf4_c o hn
 · exact rf5_c o hn
 · exact rf6_c o hn
 · exact rf7_c o hn
 · exact rf8_c o hn
theorem ruses_c (o:OP) (hk:¬ (o.kd<1∨8<o.kd)):Cq 69 [op o] (op (usesO o o.kd)):=by
 have hcase:o.kd=1∨o.kd=2∨o.kd=3∨o.kd=4∨o.kd=5∨o.kd=6∨o.kd=7∨o.kd=8:=by omega
 rcases hcase with h | h | h | h | h | h | h | h<;>rw [← opk_op o _ h,h]
 · exact uses1_w o trivial
 · exact uses2_w o trivial
 · exact uses3_w o trivial
 · exact uses4_w o trivial
 · exact uses5_w o trivial
 · exact uses6_w o trivial
 · exact uses7_w o trivial
 · exact uses8_w o trivial
theorem rest_uses (o:OP) (hk:¬ (o.kd<1∨8<o.kd)):restO o o.kd=zop↔o=usesO o o.kd:=by
 have hcase:o.kd=1∨o.kd=2∨o.kd=3∨o.kd=4∨o.kd=5∨o.kd=6∨o.kd=7∨o.kd=8:=by omega
 obtain ⟨dv,sq,tm,cx,pk,pn,kd,f1,f2,f3,t1,t2,t3,ky,vl,n,on⟩:=o
 simp only at hcase ⊢
 rcases hcase with h | h | h | h | h | h | h | h<;>subst h<;>simp [restO,usesO,zop]
theorem rcheck_c (o:OP) (hn:Okn o):Cq 37 [op o] (int (chkOE o)):=by
 have hd:=refDot_c o.dv o.sq
 have hv:=Vec.rcheck_c o.cx hn.cx
 have hc:=rcovers_c o.cx o.dv o.sq hn.cx
 have hp:=part_c o.kd
 have hst:∀ c,(if okB o.cx=true then (0:Int) else 120)=c→(c=0↔okB o.cx=true):=by
  intro c h; subst h; split<;>simp_all
 by_cases hk:o.kd<1∨8<o.kd
 · have hp0:partOf o.kd=0:=partOf_pos.2 hk
   rw [hp0] at hp
   have e:chkOE o=170:=by
    unfold chkOE
    rw [if_neg]
    unfold chkB'
    simp only [Bool.and_eq_true,decide_eq_true_eq]
    omega
   rw [e]
   exact rchk0_w o _ 170 _ _ hd hv hc hp (by simp)
 · have hf:=rfields_c o hn hk
   have hu:=ruses_c o hk
   have hs:=rsame_c o (usesO o o.kd) hn.cx
   refine rchk_w o _ _ _ _ _ _ _ _ hd hv hc hp hf hu hs ?_
   have e1:=rest_uses o hk
   have e2:¬ partOf o.kd=0:=fun h=>hk (partOf_pos.1 h)
   have e3:checkE o.cx=0↔okB o.cx=true:=hst _ rfl
   have e4:1≤o.kd∧o.kd≤8:=by omega
   unfold chkOE chkB' stageB kindB
   simp only [Bool.and_eq_true,decide_eq_true_eq,Bool.not_eq_true',← e3,e1]
   refine ⟨fun a1=>⟨fun a2=>?_,fun a2=>⟨fun a3=>?_,fun a3=>⟨fun a4=>⟨fun a5=>?_,fun a5=>⟨fun a6=>absurd a6 e2,fun _=>⟨fun a7=>⟨fun a8=>?_,fun a8=>⟨fun a9=>⟨fun b1=>?_,fun b1=>?_⟩,fun a9=>?_⟩⟩,fun a7=>?_⟩⟩⟩,fun a4=>?_⟩⟩⟩,fun a1=>?_⟩
   · rw [if_neg]; intro q; omega
   · rw [if_neg]; intro q; omega
   · rw [if_neg]; intro q; rw [a5] at q; exact absurd q.1.1.1.2 (by decide)
   · rw [if_neg]; intro q; omega
   · rw [if_pos]; exact ⟨⟨⟨⟨⟨⟨⟨a1,by omega⟩,by omega⟩,a4⟩,a5⟩,e4.1⟩,e4.2⟩,⟨⟨a7,by omega⟩,a9⟩,b1⟩
   · rw [if_neg]; intro q; exact (of_decide_eq_false b1) q.2.2
   · rw [if_neg]; intro q; rw [a9] at q; exact absurd q.2.1.2 (by decide)
   · rw [if_neg]; intro q; exact a7 q.2.1.1.1
   · rw [if_neg]; intro q; exact a4 q.1.1.1.1.2
   · rw [if_neg]; intro q; rw [a1] at q; exact absurd q.1.1.1.1.1.1.1 (by decide)
end Go.Ops


namespace Go.Cdc
open Go Go.Am Go.Proofs Go.Seat
theorem lstF_comp {p:List UInt8→Bool × CV × List UInt8}:∀ (l:List CV) (r:List UInt8),(∀ x∈l,∀ r,p (encB x++r)=(true,x,r))→lstF p l.length (encBL l++r)=(true,l,r)
 | [],r,_=>rfl
 | v::l,r,h=>by
  have h1:=h v List.mem_cons_self (encBL l++r)
  have ih:=lstF_comp l r fun x hx=>h x (List.mem_cons_of_mem _ hx)
  rw [encBL_cons,List.append_assoc]
  show lstF p (l.length+1) _=_
  simp only [lstF,h1,if_true,ih]
theorem valF_comp (v:CV):∀ (d:Nat) (r:List UInt8),wf v=true→Okv v→dp v≤d→valF d (encB v++r)=(true,v,r):=by
 refine CV.ind (p:=fun v=>∀ (d:Nat) (r:List UInt8),wf v=true→Okv v→dp v≤d→valF d (encB v++r)=(true,v,r)) (fun k n s l ih d r hw hok hd=>?_) v
 cases hok with
 | mk _ _ _ _ hn hs hl hall =>
 have hdeep:∃ deep p,valF d=valS deep p:=by cases d<;>exact ⟨_,_,rfl⟩
 obtain ⟨deep,p,hp⟩:=hdeep
 by_cases h1:k=1
 · subst h1
   simp only [wf,if_true,Bool.and_eq_true,decide_eq_true_eq] at hw
   obtain ⟨rfl,hl0⟩:=hw
   obtain rfl:=List.eq_nil_of_length_eq_zero hl0
   obtain ⟨k1,k2,k3⟩:=numF_num0 (uns n) (uns_lt hn) r
   have e:encB (.mk 1 n .empty [])++r=1::(num (uns n)++r):=by simp [encB]
   rw [hp,e,valS_1 (by decide),k1,k2,k3,sgn_uns]
   rfl
 by_cases h2:k=2
 · subst h2
   have hw':n=0∧l.length=0:=by simpa [wf] using hw
   obtain ⟨rfl,hl0⟩:=hw'
   obtain rfl:=List.eq_nil_of_length_eq_zero hl0
   obtain ⟨k1,k2,k3⟩:=numF_num0 s.size (by omega) (s.data.toList++r)
   have e:encB (.mk 2 0 s [])++r=2::(num s.size++(s.data.toList++r)):=by simp [encB]
   have hlen:s.data.toList.length=s.size:=rfl
   have ok:lenOk (num s.size++(s.data.toList++r))=true:=by
    simp only [lenOk,k1,k2,k3,Bool.true_and,decide_eq_true_eq,List.length_append,hlen]; omega
   rw [hp,e,valS_2 (by decide),ok,k2,k3,← hlen,List.take_left',List.drop_left']
   · rfl
   · rfl
   · rfl
 · have hk:k=3:=by
    rcases wf_k hw with h | h | h
    · exact absurd h h1
    · exact absurd h h2
    · exact h
   subst hk
   have hw':(n=0∧s = .empty)∧wfL l=true:=by simpa [wf,Bool.and_eq_true] using hw
   obtain ⟨⟨rfl,rfl⟩,hwl⟩:=hw'
   have hdl:dpL l+1≤d:=by simpa [dp] using hd
   obtain ⟨d',rfl⟩:∃ d',d=d'+1:=⟨d - 1,by omega⟩
   obtain ⟨k1,k2,k3⟩:=numF_num0 l.length (by omega) (encBL l++r)
   have e:encB (.mk 3 0 .empty l)++r=3::(num l.length++(encBL l++r)):=by simp [encB]
   have hle:=encBL_len l
   have ok:lenOk (num l.length++(encBL l++r))=true:=by
    simp only [lenOk,k1,k2,k3,Bool.true_and,decide_eq_true_eq,List.length_append]; omega
   show valS true (valF d') _=_
   rw [e,valS_3 (by decide),if_pos ⟨rfl,ok⟩,k2,k3,lstF_comp l r fun x hx r=>ih x hx d' r (wfL_mem hwl x hx) (hall x hx) (by have:=dp_mem hx; omega)]
   rfl
theorem dec_enc (v:CV) (hw:wf v=true) (hok:Okv v) (hd:dp v≤16):decV (encB v)=v∧decE (encB v)=0:=by
 have h:=valF_comp v 16 [] hw hok hd
 rw [List.append_nil] at h
 have hb:decB (encB v)=true:=by simp [decB,h]
 exact ⟨by simp [decV,hb,h],by simp [decE,hb]⟩
end Go.Cdc


namespace Go.Ops
open Go Go.Am Go.Proofs Go.Seat Go.Vec Go.Cdc
abbrev I64 (n:Int):Prop := -9223372036854775808≤n∧n<9223372036854775808
structure Okp (o:OP):Prop where
 dv:I64 o.dv
 sq:I64 o.sq
 tm:I64 o.tm
 cx:∀ d∈o.cx,I64 d.1∧I64 d.2
 pk:I64 o.pk
 kd:I64 o.kd
 f1:I64 o.f1
 f2:I64 o.f2
 f3:I64 o.f3
 t1:I64 o.t1
 t2:I64 o.t2
 t3:I64 o.t3
 n:I64 o.n
structure Few (B:Nat) (o:OP):Prop where
 cx:o.cx.length≤B
 ky:o.ky.size≤B
 vl:o.vl.size≤B
 pn:o.pn.size≤B
theorem wf_cvI (n:Int):wf (cvI n)=true:=by simp [cvI,wf]
theorem wf_cvT (s:ByteArray):wf (cvT s)=true:=by simp [cvT,wf]
theorem wf_cvL {l:List CV} (h:∀ x∈l,wf x=true):wf (cvL l)=true:=by simp [cvL,wf,wfL_of h]
theorem dp_cvI (n:Int):dp (cvI n)=0:=by simp [cvI,dp]
theorem dp_cvT (s:ByteArray):dp (cvT s)=0:=by simp [cvT,dp]
theorem dp_cvL {l:List CV} {d:Nat} (h:∀ x∈l,dp x≤d):dp (cvL l)≤d+1:=by
 have:=dpL_of h
 simp [cvL,dp]; exact this
theorem ok_cvI {n:Int} (h:I64 n):Okv (cvI n):=.mk _ _ _ _ h (by decide) (by decide) (fun x hx=>by cases hx)
theorem ok_cvT {s:ByteArray} (h:s.size≤9223372036854775807):Okv (cvT s):=.mk _ _ _ _ (by decide) h (by decide) (fun x hx=>by cases hx)
theorem ok_cvL {l:List CV} (h:l.length≤9223372036854775807) (hx:∀ x∈l,Okv x):Okv (cvL l):=.mk _ _ _ _ (by decide) (by decide) h hx
theorem len_cvI (n:Int):(encB (cvI n)).length≤11:=by
 have:=(num_len (uns n)).1
 simp only [cvI,encB,if_true,List.length_cons]; omega
theorem len_cvT (s:ByteArray):(encB (cvT s)).length≤11+s.size:=by
 have:=(num_len s.size).1
 have e:encB (cvT s)=2::(num s.size++s.data.toList):=by simp [cvT,encB]
 rw [e,List.length_cons,List.length_append,bdata_length]; omega
theorem len_cvL (l:List CV):(encB (cvL l)).length≤11+(encBL l).length:=by
 have:=(num_len l.length).1
 have e:encB (cvL l)=3::(num l.length++encBL l):=by simp [cvL,encB]
 rw [e,List.length_cons,List.length_append]; omega
theorem len_cvD (l:List D):(encBL (l.map cvD)).length≤33 * l.length:=by
 induction l with
 | nil=>simp [encBL]
 | cons d l ih =>
  rw [List.map_cons,encBL_cons,List.length_append,List.length_cons]
  have h1:=len_cvL [cvI d.1,cvI d.2]
  have h2:=len_cvI d.1
  have h3:=len_cvI d.2
  have e:(encBL [cvI d.1,cvI d.2]).length=(encB (cvI d.1)).length+(encB (cvI d.2)).length:=by simp [encBL]
  have e2:encB (cvD d)=encB (cvL [cvI d.1,cvI d.2]):=rfl
  rw [e2]; omega
theorem opV_wf (o:OP):wf (opV o)=true:=by
 refine wf_cvL fun x hx=>?_
 simp only [List.mem_cons,List.not_mem_nil,or_false] at hx
 rcases hx with rfl | rfl | rfl | rfl | rfl | rfl | rfl | rfl | rfl | rfl | rfl | rfl<;>first
  | exact wf_cvI _
  | exact wf_cvT _
  | skip
 · refine wf_cvL fun x hx=>?_
   obtain ⟨d,_,rfl⟩:=List.mem_map.1 hx
   exact wf_cvL fun x hx=>by
    simp only [List.mem_cons,List.not_mem_nil,or_false] at hx
    rcases hx with rfl | rfl<;>exact wf_cvI _
 · exact wf_cvL fun x hx=>by
    simp only [List.mem_cons,List.not_mem_nil,or_false] at hx
    rcases hx with rfl | rfl
    · exact wf_cvI _
    · exact wf_cvT _
 · exact wf_cvL fun x hx=>by
    simp only [List.mem_cons,List.not_mem_nil,or_false] at hx
    rcases hx with rfl | rfl | rfl<;>exact wf_cvI _
 · exact wf_cvL fun x hx=>by
    simp only [List.mem_cons,List.not_mem_nil,or_false] at hx
    rcases hx with rfl | rfl | rfl<;>exact wf_cvI _
theorem opV_dp (o:OP):dp (opV o)≤3:=by
 refine dp_cvL fun x hx=>?_
 simp only [List.mem_cons,List.not_mem_nil,or_false] at hx
 rcases hx with rfl | rfl | rfl | rfl | rfl | rfl | rfl | rfl | rfl | rfl | rfl | rfl<;>first
  | (rw [dp_cvI]; decide)
  | (rw [dp_cvT]; decide)
  | skip
 · refine dp_cvL fun x hx=>?_
   obtain ⟨d,_,rfl⟩:=List.mem_map.1 hx
   exact dp_cvL (d:=0) fun x hx=>by
    simp only [List.mem_cons,List.not_mem_nil,or_false] at hx
    rcases hx with rfl | rfl<;>(rw [dp_cvI]; decide)
 · exact Nat.le_trans (dp_cvL (d:=0) fun x hx=>by
    simp only [List.mem_cons,List.not_mem_nil,or_false] at hx
    rcases hx with rfl | rfl
    · rw [dp_cvI]; decide
    · rw [dp_cvT]; decide) (by decide)
 · exact Nat.le_trans (dp_cvL (d:=0) fun x hx=>by
    simp only [List.mem_cons,List.not_mem_nil,or_false] at hx
    rcases hx with rfl | rfl | rfl<;>(rw [dp_cvI]; decide)) (by decide)
 · exact Nat.le_trans (dp_cvL (d:=0) fun x hx=>by
    simp only [List.mem_cons,List.not_mem_nil,or_false] at hx
    rcases hx with rfl | rfl | rfl<;>(rw [dp_cvI]; decide)) (by decide)
theorem opV_ok {o:OP} {B:Nat} (hB:B≤1000000000) (h:Okp o) (f:Few B o):Okv (opV o):=by
 have s:=f.ky; have s2:=f.vl; have s3:=f.pn; have s4:=f.cx
 refine ok_cvL (by simp) fun x hx=>?_
 simp only [List.mem_cons,List.not_mem_nil,or_false] at hx
 rcases hx with rfl | rfl | rfl | rfl | rfl | rfl | rfl | rfl | rfl | rfl | rfl | rfl
 · exact ok_cvI h.dv
 · exact ok_cvI h.sq
 · exact ok_cvI h.tm
 · refine ok_cvL (by rw [List.length_map]; omega) fun x hx=>?_
   obtain ⟨d,hd,rfl⟩:=List.mem_map.1 hx
   exact ok_cvL (by simp) fun x hx=>by
    simp only [List.mem_cons,List.not_mem_nil,or_false] at hx
    rcases hx with rfl | rfl
    · exact ok_cvI (h.cx d hd).1
    · exact ok_cvI (h.cx d hd).2
 · exact ok_cvL (by simp) fun x hx=>by
    simp only [List.mem_cons,List.not_mem_nil,or_false] at hx
    rcases hx with rfl | rfl
    · exact ok_cvI h.pk
    · exact ok_cvT (by omega)
 · exact ok_cvI h.kd
 · exact ok_cvL (by simp) fun x hx=>by
    simp only [List.mem_cons,List.not_mem_nil,or_false] at hx
    rcases hx with rfl | rfl | rfl
    · exact ok_cvI h.f1
    · exact ok_cvI h.f2
    · exact ok_cvI h.f3
 · exact ok_cvL (by simp) fun x hx=>by
    simp only [List.mem_cons,List.not_mem_nil,or_false] at hx
    rcases hx with rfl | rfl | rfl
    · exact ok_cvI h.t1
    · exact ok_cvI h.t2
    · exact ok_cvI h.t3
 · exact ok_cvT (by omega)
 · exact ok_cvT (by omega)
 · exact ok_cvI h.n
 · exact ok_cvI (by split<;>decide)
theorem opV_len {o:OP} {B:Nat} (f:Few B o):(encB (opV o)).length≤36 * B+1000:=by
 have s:=f.ky; have s2:=f.vl; have s3:=f.pn; have s4:=f.cx
 have h0:=len_cvL [cvI o.dv,cvI o.sq,cvI o.tm,ctxV o,cvL [cvI o.pk,cvT o.pn],cvI o.kd,cvL [cvI o.f1,cvI o.f2,cvI o.f3],cvL [cvI o.t1,cvI o.t2,cvI o.t3],cvT o.ky,cvT o.vl,cvI o.n,cvI (if o.on=true then 1 else 0)]
 have a1:=len_cvI o.dv; have a2:=len_cvI o.sq; have a3:=len_cvI o.tm; have a4:=len_cvI o.pk; have a5:=len_cvT o.pn; have a6:=len_cvI o.kd
 have b1:=len_cvI o.f1; have b2:=len_cvI o.f2; have b3:=len_cvI o.f3; have b4:=len_cvI o.t1; have b5:=len_cvI o.t2; have b6:=len_cvI o.t3
 have c1:=len_cvT o.ky; have c2:=len_cvT o.vl; have c3:=len_cvI o.n; have c4:=len_cvI (if o.on=true then 1 else 0)
 have d1:=len_cvL (o.cx.map cvD); have d2:=len_cvD o.cx
 have d3:=len_cvL [cvI o.pk,cvT o.pn]; have d4:=len_cvL [cvI o.f1,cvI o.f2,cvI o.f3]; have d5:=len_cvL [cvI o.t1,cvI o.t2,cvI o.t3]
 have e:encB (opV o)=encB (cvL [cvI o.dv,cvI o.sq,cvI o.tm,ctxV o,cvL [cvI o.pk,cvT o.pn],cvI o.kd,cvL [cvI o.f1,cvI o.f2,cvI o.f3],cvL [cvI o.t1,cvI o.t2,cvI o.t3],cvT o.ky,cvT o.vl,cvI o.n,cvI (if o.on=true then 1 else 0)]):=rfl
 rw [e]
 have e2:encB (ctxV o)=encB (cvL (o.cx.map cvD)):=rfl
 simp only [encBL,List.length_append,List.length_nil] at h0 d3 d4 d5
 rw [e2] at h0
 have m:33 * o.cx.length≤33 * B:=Nat.mul_le_mul_left 33 s4
 omega
theorem decO_opV (o:OP):decO (opV o).l=o:=by
 have hc:(o.cx.map cvD).map decD=o.cx:=by
  rw [List.map_map]
  refine (List.map_congr_left fun d _=>?_).trans (List.map_id _)
  rfl
 obtain ⟨dv,sq,tm,cx,pk,pn,kd,f1,f2,f3,t1,t2,t3,ky,vl,n,on⟩:=o
 show (⟨dv,sq,tm,(cx.map cvD).map decD,pk,pn,kd,f1,f2,f3,t1,t2,t3,ky,vl,n,(if on=true then (1:Int) else 0) == 1⟩:OP)=_
 have h:(cx.map cvD).map decD=cx:=hc
 rw [h]
 cases on<;>rfl
end Go.Ops


namespace Go.Ops
open Go Go.Am Go.Proofs Go.Seat Go.Vec Go.Cdc
end Go.Ops


namespace Go.Ops
open Go Go.Am Go.Proofs Go.Seat Go.Vec Go.Cdc
end Go.Ops


namespace Go.Ops
open Go Go.Am Go.Proofs Go.Seat Go.Vec Go.Cdc
end Go.Ops


namespace Go.Ops
open Go Go.Am Go.Proofs Go.Seat Go.Vec Go.Cdc
end Go.Ops


namespace Go.Ops
open Go Go.Am Go.Proofs Go.Seat Go.Vec Go.Cdc
end Go.Ops


namespace Go.Ops
open Go Go.Am Go.Proofs Go.Seat Go.Vec Go.Cdc
end Go.Ops


namespace Go.Ops
open Go Go.Am Go.Proofs Go.Seat Go.Vec Go.Cdc
end Go.Ops


namespace Go.Ops
open Go Go.Am Go.Proofs Go.Seat Go.Vec Go.Cdc
theorem Okp.okn {o:OP} {B:Nat} (hB:B≤1000000000) (h:Okp o) (f:Few B o):Okn o:=⟨by have:=f.cx; omega,h.kd,h.f3⟩
def encO (o:OP):List UInt8:=if chkOE o=0 then encB (opV o) else []
theorem enc_c (o:OP) {B:Nat} (hB:B≤200000) (h:Okp o) (f:Few B o):Cq 96 [op o] (.tup [byt (encO o),int (chkOE o)]):=by
 have hc:=Ops.check_c o (h.okn (by omega) f)
 have hl:=f.cx
 by_cases h0:chkOE o=0
 · rw [h0] at hc
   have he:=encode_ok (opV o) (opV_ok (by omega) h f) (by have:=opV_dp o; omega) (opV_wf o) (by have:=opV_len f; omega)
   rw [encO,if_pos h0,h0]
   exact enc_ok o _ 0 (by omega) hc he
 · rw [encO,if_neg h0]
   exact enc_x o _ h0 hc trivial
theorem chkE_opV (o:OP):Cdc.chkE (opV o)=0:=by
 have:=opV_dp o
 simp only [Cdc.chkE,opV_wf,if_true]; rw [if_neg (by omega)]
theorem rencod_c (o:OP) {B:Nat} (hB:B≤200000) (h:Okp o) (f:Few B o):Cq 132 [op o] (byt (encB (opV o))):=by
 have he:=rencode_c (opV o) (opV_ok (by omega) h f) (by have:=opV_dp o; omega) (fun _=>by have:=opV_len f; omega)
 have hl:=f.cx
 rw [encE,if_pos (chkE_opV o)] at he
 exact renc_ok o _ _ (by omega) he
theorem renco_c (o:OP) {B:Nat} (hB:B≤200000) (h:Okp o) (f:Few B o):Cq 99 [op o] (.tup [byt (encO o),int (chkOE o)]):=by
 have hc:=Ops.rcheck_c o (h.okn (by omega) f)
 by_cases h0:chkOE o=0
 · rw [encO,if_pos h0,h0]
   exact rencode_w o _ _ hc (rencod_c o hB h f) h0 trivial
 · rw [encO,if_neg h0]
   exact rencode_x o _ hc h0 trivial
def Gd (N:Nat) (x:CV):Prop:=(wf x=true∧Okv x∧(encB x).length≤N)∨x=default
def decOp (b:List UInt8):OP × Int:=if decE b=0 then (if chkOE (decO (decV b).l)=0∧b=encB (opV (decO (decV b).l)) then (decO (decV b).l,0) else (zop,170)) else (zop,decE b)
end Go.Ops


namespace Go.Ops
open Go Go.Am Go.Proofs Go.Seat Go.Vec Go.Cdc
end Go.Ops


namespace Go.Ops
open Go Go.Am Go.Proofs Go.Seat Go.Vec Go.Cdc
end Go.Ops


namespace Go.Ops
open Go Go.Am Go.Proofs Go.Seat Go.Vec Go.Cdc
end Go.Ops


namespace Go.Ops
open Go Go.Am Go.Proofs Go.Seat Go.Vec Go.Cdc
theorem dec_of_enc (o:OP) {B:Nat} (hB:B≤200000) (h:Okp o) (f:Few B o) (h0:chkOE o=0):decOp (encB (opV o))=(o,0):=by
 obtain ⟨e1,e2⟩:=dec_enc (opV o) (opV_wf o) (opV_ok (by omega) h f) (by have:=opV_dp o; omega)
 unfold decOp
 rw [e1,e2,decO_opV,if_pos rfl,if_pos ⟨h0,rfl⟩]
end Go.Ops


namespace Go.Ops
open Go Go.Am Go.Proofs Go.Seat Go.Vec Go.Cdc
end Go.Ops


namespace Go.Ops
open Go Go.Am Go.Proofs Go.Seat Go.Vec Go.Cdc
end Go.Ops


namespace Go.Ops
open Go Go.Am Go.Proofs Go.Seat Go.Vec Go.Cdc
end Go.Ops


namespace Go.Ops
open Go Go.Am Go.Proofs Go.Seat Go.Vec Go.Cdc
theorem cb_neg:∀ x y:List UInt8,Lib.compareBytes y x = -Lib.compareBytes x y
 | [],[]=>by simp [Lib.compareBytes]
 | [],_::_=>by simp [Lib.compareBytes]
 | _::_,[]=>by simp [Lib.compareBytes]
 | a::xs,b::ys=>by
  have ih:=cb_neg xs ys
  simp only [Lib.compareBytes]
  by_cases h1:a<b
  · have h2:¬ b<a:=UInt8.not_lt.2 (UInt8.le_of_lt h1)
    simp [h1,h2]
  · by_cases h2:b<a
    · simp [h1,h2]
    · simp [h1,h2,ih]
theorem cb_trans:∀ x y z:List UInt8,Lib.compareBytes x y≤0→Lib.compareBytes y z≤0→Lib.compareBytes x z≤0
 | [],_,[]=>by simp [Lib.compareBytes]
 | [],_,_::_=>by simp [Lib.compareBytes]
 | _::_,[],_=>by simp [Lib.compareBytes]
 | _::_,_::_,[]=>by simp [Lib.compareBytes]
 | a::xs,b::ys,c::zs=>by
  have ih:=cb_trans xs ys zs
  have ha:a<b↔a.toNat<b.toNat:=UInt8.lt_iff_toNat_lt
  have hb:b<a↔b.toNat<a.toNat:=UInt8.lt_iff_toNat_lt
  have hc:b<c↔b.toNat<c.toNat:=UInt8.lt_iff_toNat_lt
  have hd:c<b↔c.toNat<b.toNat:=UInt8.lt_iff_toNat_lt
  have he:a<c↔a.toNat<c.toNat:=UInt8.lt_iff_toNat_lt
  have hf:c<a↔c.toNat<a.toNat:=UInt8.lt_iff_toNat_lt
  simp only [Lib.compareBytes,ha,hb,hc,hd,he,hf]
  grind
theorem cmpOV_neg (a b:OP) (x y:List UInt8):cmpOV b a y x = -cmpOV a b x y:=by
 have:=cb_neg x y
 simp only [cmpOV,orV,cmpV]
 grind
theorem cmpOV_trans (a b c:OP) (x y z:List UInt8) (h1:cmpOV a b x y≤0) (h2:cmpOV b c y z≤0):cmpOV a c x z≤0:=by
 have:=cb_trans x y z
 rcases Int.lt_trichotomy a.tm b.tm with t1 | t1 | t1<;>rcases Int.lt_trichotomy b.tm c.tm with t2 | t2 | t2 <;>
  rcases Int.lt_trichotomy a.dv b.dv with d1 | d1 | d1<;>rcases Int.lt_trichotomy b.dv c.dv with d2 | d2 | d2 <;>
  simp only [cmpOV,orV,cmpV] at h1 h2⊢<;> grind (splits:=30)
theorem cmpOV_eq {a b:OP} {x y:List UInt8} (h:cmpOV a b x y=0):x=y:=by
 have:=cmp_eq0 x y
 simp only [cmpOV,orV,cmpV] at h
 grind
end Go.Ops


namespace Go.Mg
open Go Go.Am Go.Proofs Go.Seat Go.Vec Go.Cdc Go.Ops
abbrev dt (o:OP):Int × Int:=(o.dv,o.sq)
def cm (a b:OP):Int:=cmpOV a b (encB (opV a)) (encB (opV b))
def okO (o:OP):Bool:=decide (chkOE o=0)
abbrev Gd (o:OP):Prop:=Okp o∧Few 20000 o
abbrev Gds (l:List OP):Prop:=∀ o∈l,Gd o
theorem cm_neg (a b:OP):cm b a = -cm a b:=cmpOV_neg a b _ _
theorem cm_self (a:OP):cm a a=0:=by have:=cm_neg a a; omega
theorem cm_le_trans {a b c:OP} (h:cm a b≤0) (k:cm b c≤0):cm a c≤0:=cmpOV_trans a b c _ _ _ h k
theorem cm_trans {a b c:OP} (h:cm a b<0) (k:cm b c<0):cm a c<0:=by
 have h1:=cm_le_trans (a:=a) (b:=b) (c:=c) (by omega) (by omega)
 rcases Int.lt_or_eq_of_le h1 with h2 | h2
 · exact h2
 · exfalso
   have h3:cm c a≤0:=by have:=cm_neg a c; omega
   have:=cm_le_trans (a:=b) (b:=c) (c:=a) (by omega) h3
   have:=cm_neg a b
   omega
theorem cm_eq {a b:OP} (ha:Gd a) (hb:Gd b) (va:okO a=true) (vb:okO b=true) (h:cm a b=0):a=b:=by
 have e:=cmpOV_eq h
 have h1:=dec_of_enc a (by decide) ha.1 ha.2 (of_decide_eq_true va)
 have h2:=dec_of_enc b (by decide) hb.1 hb.2 (of_decide_eq_true vb)
 rw [e,h2] at h1
 injection h1 with h1 _
 exact h1.symm
def Min (l:List OP) (x:OP):Prop:=x∈l∧okO x=true∧∀ y∈l,okO y=true→dt y=dt x→cm x y≤0
structure Canon (l m:List OP):Prop where
 sorted:m.Pairwise fun a b=>cm a b<0
 mem:∀ x,x∈m↔Min l x
theorem sorted_ext:∀ {l m:List OP},l.Pairwise (fun a b=>cm a b<0)→m.Pairwise (fun a b=>cm a b<0)→(∀ x,x∈l↔x∈m)→l=m
 | [],[],_,_,_=>rfl
 | [],b::m,_,_,h=>absurd ((h b).2 List.mem_cons_self) (by simp)
 | a::l,[],_,_,h=>absurd ((h a).1 List.mem_cons_self) (by simp)
 | a::l,b::m,hl,hm,h=>by
  have hl':=List.pairwise_cons.1 hl
  have hm':=List.pairwise_cons.1 hm
  have e:a=b:=by
   rcases List.mem_cons.1 ((h a).1 List.mem_cons_self) with e | ha
   · exact e
   · rcases List.mem_cons.1 ((h b).2 List.mem_cons_self) with e | hb
     · exact e.symm
     · have h1:=hl'.1 b hb
       have h2:=hm'.1 a ha
       have:=cm_neg a b
       omega
  subst e
  congr 1
  refine sorted_ext hl'.2 hm'.2 fun x=>?_
  constructor
  · intro hx
    rcases List.mem_cons.1 ((h x).1 (List.mem_cons_of_mem _ hx)) with rfl | hx'
    · have:=hl'.1 x hx; have:=cm_self x; omega
    · exact hx'
  · intro hx
    rcases List.mem_cons.1 ((h x).2 (List.mem_cons_of_mem _ hx)) with rfl | hx'
    · have:=hm'.1 x hx; have:=cm_self x; omega
    · exact hx'
theorem Canon.one {l m n:List OP} (h:Canon l m) (k:Canon l n):m=n:=sorted_ext h.sorted k.sorted fun x=>(h.mem x).trans (k.mem x).symm
def kput:List OP→OP→List OP
 | [],o=>[o]
 | x::l,o=>if dt x=dt o then (if cm o x<0 then o::l else x::l) else x::kput l o
def kadd (m:List OP) (o:OP):List OP:=if okO o=true then kput m o else m
def known (m l:List OP):List OP:=l.foldl kadd m
abbrev Dots (m:List OP):Prop:=m.Pairwise fun a b=>dt a≠dt b
theorem kput_dots:∀ {m:List OP} {o:OP} {d:Int × Int},d∈(kput m o).map dt↔d∈m.map dt∨d=dt o
 | [],o,d=>by simp [kput]
 | x::m,o,d=>by
  unfold kput
  split
  · rename_i h
    split
    · simp only [List.map_cons,List.mem_cons,← h]; grind
    · simp only [List.map_cons,List.mem_cons,← h]; grind
  · simp only [List.map_cons,List.mem_cons,kput_dots (m:=m)]; grind
theorem kput_nd:∀ {m:List OP} {o:OP},Dots m→Dots (kput m o)
 | [],o,_=>by simp [kput]
 | x::m,o,h=>by
  have h':=List.pairwise_cons.1 h
  unfold kput
  split
  · rename_i e
    split
    · exact List.pairwise_cons.2 ⟨fun y hy=>e ▸ h'.1 y hy,h'.2⟩
    · exact h
  · rename_i e
    refine List.pairwise_cons.2 ⟨fun y hy e'=>?_,kput_nd h'.2⟩
    have:dt y∈(kput m o).map dt:=List.mem_map.2 ⟨y,hy,rfl⟩
    rcases kput_dots.1 this with h1 | h1
    · obtain ⟨z,hz,ez⟩:=List.mem_map.1 h1
      exact h'.1 z hz (e'.trans ez.symm)
    · exact e (e'.trans h1)
theorem kput_mem:∀ {m:List OP} {o:OP},Dots m→∀ x,x∈kput m o↔(x∈m∧(dt x=dt o→¬ cm o x<0))∨(x=o∧∀ y∈m,dt y=dt o→cm o y<0)
 | [],o,_,x=>by simp [kput]
 | y::m,o,h,x=>by
  have h':=List.pairwise_cons.1 h
  unfold kput
  split
  · rename_i e
    have hm:∀ z∈m,dt z≠dt o:=fun z hz he=>h'.1 z hz (e.trans he.symm)
    split
    · rename_i hc
      simp only [List.mem_cons]
      constructor
      · rintro (rfl | hx)
        · exact .inr ⟨rfl,fun z hz he=>by
           rcases hz with rfl | hz
           · exact hc
           · exact absurd he (hm z hz)⟩
        · exact .inl ⟨.inr hx,fun he=>absurd he (hm x hx)⟩
      · rintro (⟨rfl | hx,h1⟩ | ⟨rfl,h1⟩)
        · exact absurd hc (h1 e)
        · exact .inr hx
        · exact .inl rfl
    · rename_i hc
      simp only [List.mem_cons]
      constructor
      · rintro (rfl | hx)
        · exact .inl ⟨.inl rfl,fun _=>hc⟩
        · exact .inl ⟨.inr hx,fun he=>absurd he (hm x hx)⟩
      · rintro (⟨hx,h1⟩ | ⟨rfl,h1⟩)
        · exact hx
        · exact absurd (h1 y (.inl rfl) e) hc
  · rename_i e
    simp only [List.mem_cons,kput_mem h'.2]
    constructor
    · rintro (rfl | ⟨hx,h1⟩ | ⟨rfl,h1⟩)
      · exact .inl ⟨.inl rfl,fun he=>absurd he e⟩
      · exact .inl ⟨.inr hx,h1⟩
      · exact .inr ⟨rfl,fun z hz he=>by
         rcases hz with rfl | hz
         · exact absurd he e
         · exact h1 z hz he⟩
    · rintro (⟨rfl | hx,h1⟩ | ⟨rfl,h1⟩)
      · exact .inl rfl
      · exact .inr (.inl ⟨hx,h1⟩)
      · exact .inr (.inr ⟨rfl,fun z hz he=>h1 z (.inr hz) he⟩)
structure Keeps (l m:List OP):Prop where
 dots:Dots m
 mem:∀ x,x∈m↔Min l x
theorem Min.snoc {l:List OP} {o x:OP} (hl:Gds l) (ho:Gd o) (hd:okO o=true) {m:List OP} (k:Keeps l m):Min (l++[o]) x↔(x∈m∧(dt x=dt o→¬ cm o x<0))∨(x=o∧∀ y∈m,dt y=dt o→cm o y<0):=by
 constructor
 · rintro ⟨h1,h2,h3⟩
   have low:∀ y∈l,okO y=true→dt y=dt x→cm x y≤0:=fun y hy=>h3 y (List.mem_append_left _ hy)
   have ho3:=h3 o (by simp) hd
   rcases List.mem_append.1 h1 with hx | hx
   · exact .inl ⟨(k.mem x).2 ⟨hx,h2,low⟩,fun e=>by have:=ho3 e.symm; have:=cm_neg x o; omega⟩
   · obtain rfl:x=o:=by simpa using hx
     by_cases hm:x∈m
     · exact .inl ⟨hm,fun _=>by rw [cm_self]; omega⟩
     · refine .inr ⟨rfl,fun y hy e=>?_⟩
       obtain ⟨q1,q2,q3⟩:=(k.mem y).1 hy
       have h4:=low y q1 q2 e
       rcases Int.lt_or_eq_of_le h4 with h5 | h5
       · exact h5
       · exact absurd (cm_eq ho (hl y q1) hd q2 h5 ▸ hy) hm
 · rintro (⟨hx,h1⟩ | ⟨rfl,h1⟩)
   · obtain ⟨q1,q2,q3⟩:=(k.mem x).1 hx
     refine ⟨List.mem_append_left _ q1,q2,fun y hy vy e=>?_⟩
     rcases List.mem_append.1 hy with hy | hy
     · exact q3 y hy vy e
     · obtain rfl:y=o:=by simpa using hy
       have:=h1 e.symm
       have:=cm_neg x y
       omega
   · refine ⟨by simp,hd,fun y hy vy e=>?_⟩
     rcases List.mem_append.1 hy with hy | hy
     ·
      have:∃ z∈m,dt z=dt x∧cm z y≤0:=by
       obtain ⟨z,hz1,hz2⟩:=least l (dt x) ⟨y,hy,vy,e⟩
       exact ⟨z,(k.mem z).2 hz1,hz2.1,hz2.2 y hy vy e⟩
      obtain ⟨z,hz,ez,hzy⟩:=this
      exact cm_le_trans (by have:=h1 z hz ez; omega) hzy
     · obtain rfl:y=x:=by simpa using hy
       rw [cm_self]; exact Int.le_refl _
where
 least:∀ (l:List OP) (d:Int × Int),(∃ y∈l,okO y=true∧dt y=d)→∃ z,Min l z∧dt z=d∧∀ y∈l,okO y=true→dt y=d→cm z y≤0
  | [],d,h=>by obtain ⟨y,hy,_⟩:=h; cases hy
  | a::l,d,h=>by
   by_cases hl:∃ y∈l,okO y=true∧dt y=d
   · obtain ⟨z,⟨z1,z2,z3⟩,ez,hz⟩:=least l d hl
     by_cases ha:okO a=true∧dt a=d∧cm a z<0
     · refine ⟨a,⟨List.mem_cons_self,ha.1,fun y hy vy e=>?_⟩,ha.2.1,fun y hy vy e=>?_⟩ <;>
       · rcases List.mem_cons.1 hy with rfl | hy
         · rw [cm_self]; exact Int.le_refl _
         · have:=hz y hy vy (by first | exact e | exact e.trans ha.2.1)
           exact cm_le_trans (by omega) this
     · have key:∀ y∈a::l,okO y=true→dt y=d→cm z y≤0:=fun y hy vy e=>by
        rcases List.mem_cons.1 hy with rfl | hy
        · by_cases hc:cm y z<0
          · exact absurd ⟨vy,e,hc⟩ ha
          · have:=cm_neg z y; omega
        · exact hz y hy vy e
       exact ⟨z,⟨List.mem_cons_of_mem _ z1,z2,fun y hy vy e=>key y hy vy (e.trans ez)⟩,ez,key⟩
   · obtain ⟨y,hy,vy,e⟩:=h
     rcases List.mem_cons.1 hy with rfl | hy
     · have key:∀ z∈y::l,okO z=true→dt z=d→cm y z≤0:=fun z hz vz ez=>by
        rcases List.mem_cons.1 hz with rfl | hz
        · rw [cm_self]; exact Int.le_refl _
        · exact absurd ⟨z,hz,vz,ez⟩ hl
       exact ⟨y,⟨List.mem_cons_self,vy,fun z hz vz ez=>key z hz vz (ez.trans e)⟩,e,key⟩
     · exact absurd ⟨y,hy,vy,e⟩ hl
theorem Min.skip {l:List OP} {o x:OP} (hd:okO o=false):Min (l++[o]) x↔Min l x:=by
 constructor
 · rintro ⟨h1,h2,h3⟩
   rcases List.mem_append.1 h1 with hx | hx
   · exact ⟨hx,h2,fun y hy=>h3 y (List.mem_append_left _ hy)⟩
   · obtain rfl:x=o:=by simpa using hx
     rw [h2] at hd; cases hd
 · rintro ⟨h1,h2,h3⟩
   refine ⟨List.mem_append_left _ h1,h2,fun y hy vy e=>?_⟩
   rcases List.mem_append.1 hy with hy | hy
   · exact h3 y hy vy e
   · obtain rfl:y=o:=by simpa using hy
     rw [vy] at hd; cases hd
theorem Keeps.add {l m:List OP} (k:Keeps l m) {o:OP} (hl:Gds l) (ho:Gd o):Keeps (l++[o]) (kadd m o):=by
 unfold kadd
 split
 · rename_i hd
   exact ⟨kput_nd k.dots,fun x=>(kput_mem k.dots x).trans (Min.snoc hl ho hd k).symm⟩
 · rename_i hd
   exact ⟨k.dots,fun x=>(k.mem x).trans (Min.skip (by simpa using hd)).symm⟩
theorem Keeps.known:∀ {r l m:List OP},Keeps l m→Gds (l++r)→Keeps (l++r) (known m r)
 | [],l,m,k,_=>by simpa [Mg.known] using k
 | o::r,l,m,k,h=>by
  have:=Keeps.known (r:=r) (k.add (fun x hx=>h x (List.mem_append_left _ hx)) (h o (by simp))) (by simpa using h)
  rw [List.append_assoc] at this
  exact this
theorem Keeps.nil:Keeps [] []:=⟨.nil,fun x=>⟨fun h=>(by cases h),fun h=>(by cases h.1)⟩⟩
theorem Keeps.canon {l m s:List OP} (k:Keeps l m) (hl:Gds l) (hp:s.Perm m) (hs:s.Pairwise fun a b=>¬ cm b a<0):Canon l s:=by
 refine ⟨?_,fun x=>(hp.mem_iff).trans (k.mem x)⟩
 have hnd:s.Pairwise fun a b=>dt a≠dt b:=(hp.pairwise_iff (fun {a b} h=>fun e=>h e.symm)).2 k.dots
 refine (hs.and hnd).imp_of_mem fun {a b} ha hb ⟨h1,h2⟩=>?_
 obtain ⟨a1,a2,_⟩:=(k.mem a).1 (hp.mem_iff.1 ha)
 obtain ⟨b1,b2,_⟩:=(k.mem b).1 (hp.mem_iff.1 hb)
 have h3:=cm_neg a b
 rcases Int.lt_or_eq_of_le (show cm a b≤0 by omega) with h4 | h4
 · exact h4
 · exact absurd (congrArg dt (cm_eq (hl a a1) (hl b b1) a2 b2 h4)) h2
def rhas (l:List OP) (o:OP):Bool:=l.any fun x=>decide (dt x=dt o) && decide (cm x o≤0)
def rput:List OP→OP→List OP
 | [],o=>[o]
 | x::l,o=>if dt x=dt o then rput l o else if cm o x<0 then o::x::l.filter (fun y=>decide (dt y≠dt o)) else x::rput l o
def rins (l:List OP) (o:OP):List OP:=if rhas l o=true then l else rput l o
def radd (m:List OP) (o:OP):List OP:=if okO o=true then rins m o else m
def runion (m l:List OP):List OP:=l.foldl radd m
theorem rput_mem:∀ {l:List OP} {o x:OP},x∈rput l o↔x=o∨(x∈l∧dt x≠dt o)
 | [],o,x=>by simp [rput]
 | y::l,o,x=>by
  unfold rput
  split
  · rename_i e
    rw [rput_mem]; simp only [List.mem_cons]; grind
  · rename_i e
    split
    · simp only [List.mem_cons,List.mem_filter,decide_eq_true_eq]; grind
    · simp only [List.mem_cons,rput_mem (l:=l)]; grind
theorem rput_sorted:∀ {l:List OP} {o:OP},l.Pairwise (fun a b=>cm a b<0)→Gds l→Gd o→(∀ x∈l,okO x=true)→okO o=true→(rput l o).Pairwise fun a b=>cm a b<0
 | [],o,_,_,_,_,_=>by simp [rput]
 | y::l,o,h,g,go,v,vo=>by
  have h':=List.pairwise_cons.1 h
  have g':Gds l:=fun x hx=>g x (List.mem_cons_of_mem _ hx)
  have v':∀ x∈l,okO x=true:=fun x hx=>v x (List.mem_cons_of_mem _ hx)
  unfold rput
  split
  · exact rput_sorted h'.2 g' go v' vo
  · rename_i e
    split
    · rename_i hc
      refine List.pairwise_cons.2 ⟨fun z hz=>?_,List.pairwise_cons.2 ⟨fun z hz=>h'.1 z (List.mem_filter.1 hz).1,h'.2.filter _⟩⟩
      rcases List.mem_cons.1 hz with rfl | hz
      · exact hc
      · exact cm_trans hc (h'.1 z (List.mem_filter.1 hz).1)
    · rename_i hc
      refine List.pairwise_cons.2 ⟨fun z hz=>?_,rput_sorted h'.2 g' go v' vo⟩
      rcases rput_mem.1 hz with rfl | ⟨hz,_⟩
      · have h1:=cm_neg y z
        rcases Int.lt_or_eq_of_le (show cm y z≤0 by omega) with h4 | h4
        · exact h4
        · exact absurd (congrArg dt (cm_eq (g y List.mem_cons_self) go (v y List.mem_cons_self) vo h4)) e
      · exact h'.1 z hz
theorem Canon.keeps {l m:List OP} (k:Canon l m) (hl:Gds l):Keeps l m:=by
 refine ⟨?_,k.mem⟩
 refine k.sorted.imp_of_mem fun {a b} ha hb h e=>?_
 obtain ⟨a1,a2,a3⟩:=(k.mem a).1 ha
 obtain ⟨b1,b2,b3⟩:=(k.mem b).1 hb
 have:=b3 a a1 a2 e
 have:=cm_neg a b
 omega
theorem Canon.add {l m:List OP} (k:Canon l m) {o:OP} (hl:Gds l) (ho:Gd o):Canon (l++[o]) (radd m o):=by
 have kk:=k.keeps hl
 unfold radd
 split
 · rename_i hd
   have hin:∀ x∈m,Gd x∧okO x=true:=fun x hx=>let ⟨a,b,_⟩:=(k.mem x).1 hx; ⟨hl x a,b⟩
   unfold rins
   split
   · rename_i hh
     obtain ⟨z,hz,h⟩:=List.any_eq_true.1 hh
     simp only [Bool.and_eq_true,decide_eq_true_eq] at h
     refine ⟨k.sorted,fun x=>Iff.trans ?_ (Min.snoc hl ho hd kk).symm⟩
     constructor
     · intro hx
       refine .inl ⟨hx,fun e hc=>?_⟩
       have:x=z:=by
        have:=kk.dots
        by_cases hxz:x=z
        · exact hxz
        · exfalso
          rcases List.mem_iff_getElem.1 hx with ⟨i,hi,rfl⟩
          rcases List.mem_iff_getElem.1 hz with ⟨j,hj,rfl⟩
          have hp:=List.pairwise_iff_getElem.1 this
          rcases Nat.lt_trichotomy i j with hij | hij | hij
          · exact hp i j hi hj hij (e.trans h.1.symm)
          · subst hij; exact hxz rfl
          · exact hp j i hj hi hij (h.1.trans e.symm)
       subst this
       have:=cm_neg o x
       omega
     · rintro (⟨hx,_⟩ | ⟨rfl,h1⟩)
       · exact hx
       · have:=h1 z hz h.1
         have:=cm_neg x z
         omega
   · rename_i hh
     have hno:∀ z∈m,dt z=dt o→cm o z<0:=fun z hz e=>by
      by_cases hc:cm z o≤0
      · exact absurd (List.any_eq_true.2 ⟨z,hz,by simp [e,hc]⟩) hh
      · have:=cm_neg o z; omega
     refine ⟨rput_sorted k.sorted (fun x hx=>(hin x hx).1) ho (fun x hx=>(hin x hx).2) hd,fun x=>Iff.trans ?_ (Min.snoc hl ho hd kk).symm⟩
     rw [rput_mem]
     constructor
     · rintro (rfl | ⟨hx,e⟩)
       · exact .inr ⟨rfl,hno⟩
       · exact .inl ⟨hx,fun e'=>absurd e' e⟩
     · rintro (⟨hx,h1⟩ | ⟨rfl,_⟩)
       · exact .inr ⟨hx,fun e=>h1 e (hno x hx e)⟩
       · exact .inl rfl
 · rename_i hd
   exact ⟨k.sorted,fun x=>(k.mem x).trans (Min.skip (by simpa using hd)).symm⟩
theorem Canon.union:∀ {r l m:List OP},Canon l m→Gds (l++r)→Canon (l++r) (runion m r)
 | [],l,m,k,_=>by simpa [runion] using k
 | o::r,l,m,k,h=>by
  have:=Canon.union (r:=r) (k.add (fun x hx=>h x (List.mem_append_left _ hx)) (h o (by simp))) (by simpa using h)
  rw [List.append_assoc] at this
  exact this
theorem Canon.nil:Canon [] []:=⟨.nil,fun x=>⟨fun h=>(by cases h),fun h=>(by cases h.1)⟩⟩
def uni (l:List OP):List OP:=runion [] l
theorem uni_canon {l:List OP} (h:Gds l):Canon l (uni l):=by
 have:=Canon.nil.union (r:=l) (by simpa using h)
 simpa [uni] using this
theorem sort_uni {l s:List OP} (h:Gds l) (hp:s.Perm (known [] l)) (hs:s.Pairwise fun a b=>¬ cm b a<0):s=uni l:=by
 have k:=Keeps.nil.known (r:=l) (by simpa using h)
 rw [List.nil_append] at k
 exact (k.canon h hp hs).one (uni_canon h)
end Go.Mg


namespace Go.Mg
open Go Go.Am Go.Proofs Go.Seat Go.Vec Go.Cdc Go.Ops Go.Sort
abbrev Gv (o:OP):Prop:=Gd o∧okO o=true
abbrev Gvs (l:List OP):Prop:=∀ o∈l,Gv o
theorem compare_c (a b:OP) (ha:Gv a) (hb:Gv b):Cq 65 [op a,op b] (int (cm a b)):=by
 have h1:=enc_c a (B:=20000) (by decide) ha.1.1 ha.1.2
 have h2:=enc_c b (B:=20000) (by decide) hb.1.1 hb.1.2
 have k1:chkOE a=0:=of_decide_eq_true ha.2
 have k2:chkOE b=0:=of_decide_eq_true hb.2
 have e1:encO a=encB (opV a):=by unfold encO; rw [if_pos k1]
 have e2:encO b=encB (opV b):=by unfold encO; rw [if_pos k2]
 rw [e1] at h1
 rw [e2] at h2
 exact cmp_c a b _ _ _ _ h1 h2
noncomputable def fns:Func:=(P.funcs[63]?).getD default
noncomputable def bds:Code:=bodyOf P 63
noncomputable def s0:Code:=Code.hd bds
noncomputable def ops1:Array Oper:=opsOf (Code.hd (Code.tl bds))
noncomputable def op1 (i:Nat):Oper:=ops1.toList.getD i default
noncomputable def s2:Code:=Code.hd (Code.tl (Code.tl bds))
noncomputable def ops2:Array Oper:=opsOf s2
noncomputable def op2 (i:Nat):Oper:=ops2.toList.getD i default
noncomputable def sE:Code:=Code.tl (Code.tl (Code.tl bds))
abbrev cmpF:AV:=fnV 65
section
variable (es:List (Value × AV))
theorem s_0:PieceC P G none 1 s0 ⟨[vsV,cmpF]++List.replicate (fns.ntmps - 2) (.lit undef),[.box [.md true es]],[]⟩ ⟨slots 12 [(0,vsV),(1,cmpF)],[.box [.md true es]],[]⟩:=piece_of [] (others 12 [0,1]) 1 (by kernel_rfl)
theorem s_1:runD P G none ops1 0 [op1 0] (slots 12 [(0,vsV),(1,cmpF)]) [.box [.md true es]] [] []=some (.normal,slots 12 [(0,vsV),(1,cmpF),(6,vsV)],[.box [.md true es]],[],[],[]):=by kernel_rfl
theorem s_2 (H:List AObj) (x:AV):runD P G none ops1 2 [op1 2] (slots 12 [(0,vsV),(1,cmpF),(6,vsV),(7,x)]) H [] []=some (.normal,slots 12 [(0,vsV),(1,cmpF),(5,x),(6,vsV),(7,x)],H,[],[],[]):=by kernel_rfl
theorem s_n (h:Cq 94 [nilS,cmpF] (.tup [])):PieceC P G none 1 s2 ⟨slots 12 [(0,vsV),(1,cmpF),(5,nilS),(6,vsV),(7,nilS)],[.box [.md true es]],[]⟩ ⟨slots 12 [(5,nilS)],[.box [.md true es]],[]⟩ :=
 piece_of [ko (.call [] (.ret (.tup [])) []),kp h] (others 12 [5]) 1 (by kernel_rfl)
theorem s_3 (H:List AObj) (x:AV):runD P G none ops2 0 [op2 0,op2 1] (slots 12 [(0,vsV),(1,cmpF),(5,x),(6,vsV),(7,x)]) H [] []=some (.normal,slots 12 [(0,vsV),(1,cmpF),(5,x),(6,vsV),(7,x),(8,x),(9,cmpF)],H,[],[],[]):=by kernel_rfl
theorem s_f0:tailF P G 1 fns sE ⟨slots 12 [(5,nilS)],[.box [.md true es]],[]⟩ []=some (.ret nilS,[.box [.md true es]],[]):=by kernel_rfl
theorem s_f1 (g n:Nat) (x:AV) (xs:List OP):tailF P G 1 fns sE ⟨slots 12 [(0,vsV),(1,cmpF),(5,.own 7 g 0 n),(6,vsV),(7,.own 7 g 0 n),(8,.own 7 g 0 n),(9,cmpF),(10,x)],[.box [.md true es],.gone,.gone,.gone,.gone,.gone,.gone,.arr g 17 false (ocs xs)],[]⟩ [] =
 some (.ret (.own 7 g 0 n),[.box [.md true es],.gone,.gone,.gone,.gone,.gone,.gone,.arr g 17 false (ocs xs)],[]):=by kernel_rfl
end
theorem cm_swo (V:View):SWO (ltOf fun a b:El V opc 17 Gv=>cm a.x b.x) where
 irrefl a:=by
  refine decide_eq_false ?_
  show ¬ cm a.x a.x<0
  rw [cm_self]
  omega
 trans a b c h k:=by
  unfold ltOf at *
  exact decide_eq_true (cm_trans (of_decide_eq_true h) (of_decide_eq_true k))
 ntrans a b c h k:=by
  unfold ltOf at *
  have h:¬ cm a.x b.x<0:=of_decide_eq_false h
  have k:¬ cm b.x c.x<0:=of_decide_eq_false k
  refine decide_eq_false ?_
  show ¬ cm a.x c.x<0
  have h1:=cm_neg a.x b.x
  have h2:=cm_neg b.x c.x
  have h3:=cm_neg a.x c.x
  have:=cm_le_trans (a:=c.x) (b:=b.x) (c:=a.x) (by omega) (by omega)
  omega
theorem sorted_c (os u:List OP) (hos:os.length≤1000000) (hg:Gvs os) (hu:∀ s:List OP,s.Perm os→s.Pairwise (fun a b=>¬ cm b a<0)→s=u) (hnil:Cq 94 [nilS,cmpF] (.tup []))
 (hcmp:∀ x y,Gv x→Gv y→Cq 65 [op x,op y] (int (cm x y))):CallC P G 63 [vsV,cmpF] [.box [.md true (os.map en)]] (.ret (cO u)) (dH (os.map en) u):=by
 have hfn:P.funcs[63]? = some fns:=by kernel_rfl
 have hb:fns.body=some (.seq s0 (.seq (.region 1 ops1 false) (.seq s2 sE))):=by kernel_rfl
 have hfc:P.funcs[93]? = some fnc:=by kernel_rfl
 refine callC_sem hfn hb fun V a hH hG hok=>?_
 have h0:V.H.length=1:=by rw [hH]; rfl
 refine PieceC.seq (s_0 (os.map en)) h0 (Step.refl V) hG hok fun V1 a1 st1 g1 k1=>?_
 refine Go.wpIn_seq ?_
 refine wpIn_region ?_
 refine runD_pre (os1:=[op1 0]) (os2:=[op1 1,op1 2]) (i:=0) (orc:=[]) (orc':=[]) (ps:=[]) (r:=none) (s_1 (os.map en)) trivial (by kernel_rfl) g1 k1.H k1.env k1.defs fun V2 a2 st2 g2 hh2 e2 d2=>?_
 have hrest:(List.range ops1.size).drop (0+[op1 0].length)=1::(List.range ops1.size).drop 2:=by kernel_rfl
 rw [hrest]
 have hC:=collect_f os hos
 have hargs:(#[Operand.tmp 6]:Array Operand).toList.map (evA G (slots 12 [(0,vsV),(1,cmpF),(6,vsV)]))=[vsV]:=by kernel_rfl
 rw [← hargs] at hC
 refine callF_op (o:=op1 1) (ts:=argT (op1 1)) (by kernel_rfl) (by kernel_rfl) (by kernel_rfl) hfc (by kernel_rfl) hC g2 hh2 e2 d2 (fun out H' ⟨v,_,h,_⟩=>⟨_,h⟩) ?_
 rintro x H' V3 a3 ⟨v,hp,hx,rfl⟩ st3 g3 hh3 e3 d3
 injection hx with hx
 subst hx
 have e3:EnvOk V3 (slots 12 [(0,vsV),(1,cmpF),(6,vsV),(7,cO v)]) a3:=e3
 refine runD_sound (s_2 (dH (os.map en) v) (cO v)) trivial (by kernel_rfl) g3 hh3 e3 d3 (fun _ V4 a4 st4 g4 hh4 e4 d4=>?_) fun x hx=>by cases hx
 show (Code.seq s2 sE).wpIn (fz none) 0 P _ a4 V4.w
 have hs4:Step V V4:=((st1.trans st2).trans st3).trans st4
 cases v with
 | nil =>
  have hu0:u=[]:=(hu [] hp .nil).symm
  subst hu0
  exact PieceC.seq (s_n (os.map en) hnil) h0 hs4 g4 ⟨e4,hh4,d4⟩ fun V5 a5 st5 g5 k5=>tail_run [] (s_f0 (os.map en)) h0 st5 g5 k5
 | cons o v =>
  have hs2:s2 = .region 2 ops2 false:=by kernel_rfl
  rw [hs2]
  refine Go.wpIn_seq ?_
  refine wpIn_region ?_
  refine runD_pre (os1:=[op2 0,op2 1]) (os2:=[op2 2]) (i:=0) (orc:=[]) (orc':=[]) (ps:=[]) (r:=none) (s_3 _ (cO (o::v))) trivial (by kernel_rfl) g4 hh4 e4 d4 fun V5 a5 st5 g5 hh5 e5 d5=>?_
  have hrest2:(List.range ops2.size).drop (0+[op2 0,op2 1].length)=2::(List.range ops2.size).drop 3:=by kernel_rfl
  rw [hrest2]
  have h9:a5.eval (.tmp 9) = .func (.func 65) #[] #[]:=rep_lit (e5.get 9)
  have hgv:Gvs (o::v):=fun x hx=>hg x (hp.mem_iff.1 hx)
  have hH5:V5.H[7]? = some (.arr v.length 17 false ((o::v).map opc)):=by rw [hh5]; rfl
  have hvl:(o::v).length≤1000000:=by rw [hp.length_eq]; exact hos
  have hsrt:=sort_own (V:=V5) Tryz.sortOp Tryz.isAgg55 Tryz.sizeOf55 (oc:=opc) (k:=17) (Q:=Gv) (cf:=cm) (fun _=>rfl) (fun _=>rfl) (cm_swo V5) (f:=65) (enters_of Tryz.func65 (by kernel_rfl) rfl) hcmp g5 hH5 (by simp) (by omega) hgv (e5.get 8:Rep V5 (.own 7 v.length 0 (o::v).length) (a5.eval (.tmp 8)))
  refine callV_wp (o:=op2 2) (g:=.func 94) (f:=94) (us:=#[]) (vs:=#[]) (args:=#[.tmp 8,.tmp 9]) (ts:=argT (op2 2)) (by kernel_rfl) (by kernel_rfl) (by kernel_rfl) Tryz.func94 (by kernel_rfl) rfl (by
   have e:(#[]++#[Operand.tmp 8,.tmp 9].map a5.eval++#[]:Array Value)=#[a5.eval (.tmp 8),.func (.func 65) #[] #[]]:=by simp [h9]
   rw [e]
   exact callsIn_wide.2 hsrt) ?_
  rintro e w' ⟨rfl,V6,xs',rfl,st6,g6,hh6,hp6,hs6⟩
  refine ⟨_,rfl,?_⟩
  have hrest3:(List.range ops2.size).drop 3=[]:=by kernel_rfl
  rw [hrest3]
  show sE.wpIn (fz none) 0 P _ (a5.put (op2 2).dst (.tuple #[])) V6.w
  have hux:xs'=u:=hu xs' (hp6.trans hp) hs6
  subst hux
  have e6:EnvOk V6 (slots 12 [(0,vsV),(1,cmpF),(5,cO (o::v)),(6,vsV),(7,cO (o::v)),(8,cO (o::v)),(9,cmpF),(10,.tup [])]) (a5.put (op2 2).dst (.tuple #[])) :=
   (e5.step st6).put (op2 2).dst (x:=.tup []) (.pure _ _ (.tup [] [] rfl fun j hj=>absurd hj (by simp)))
  have hl6:=hp6.length_eq
  have hH6:V6.H=[.box [.md true (os.map en)],.gone,.gone,.gone,.gone,.gone,.gone,.arr v.length 17 false (ocs xs')]:=by rw [hh6,hh5]; rfl
  have ht:=tail_run (P:=P) (G:=G) [] (s_f1 (os.map en) v.length (o::v).length (.tup []) xs') h0 ((hs4.trans st5).trans st6) g6 ⟨e6,hH6,by rw [put_def]; exact d5.step st6⟩
  cases xs' with
  | nil=>simp at hl6
  | cons o' v' =>
   have hl7:v'.length=v.length:=by simpa using hl6
   have hc:cO (o'::v') = .own 7 v.length 0 (o::v).length:=by
    show AV.own 7 v'.length 0 (o'::v').length=_
    rw [hl6,hl7]
   have hd:dH (os.map en) (o'::v')=[.box [.md true (os.map en)],.gone,.gone,.gone,.gone,.gone,.gone,.arr v.length 17 false (ocs (o'::v'))]:=by
    show [AObj.box [.md true (os.map en)],.gone,.gone,.gone,.gone,.gone,.gone,.arr v'.length 17 false (ocs (o'::v'))]=_
    rw [hl7]
   rw [hc,hd]
   exact ht
end Go.Mg


namespace Go.Mg
open Go Go.Am Go.Proofs Go.Seat Go.Vec Go.Cdc Go.Ops
theorem bl64_w  (h:True):Cq 143 [.lit (Value.int IntKind.u64 0)] (int 0):=by
 have _:=h
 exact callC_of [kY,kY,kY]
theorem blen_w  (h:True):Cq 104 [.lit (Value.int IntKind.u64 0)] (int 0):=by
 have _:=h
 exact callC_of [kY,kc [] (@bl64_w (trivial))]
theorem ins0_l (f:Nat) (h:True):Rq 0 162 0 (sM 53 [(0,nilS),(1,int 0),(2,int 0),(3,fnV f),(8,int 1),(10,int 0),(11,int 1)] []) (AEx.exit 0) (sM 53 [] []):=by
 have _:=h
 exact loop_exit [kY] (others 53 []) 0
theorem ins0_w (f:Nat) (h:True):Cq 162 [nilS,int 0,int 0,fnV f] (.tup []):=by
 have _:=h
 exact callC_of [kl (rG [(4,4),(9,1),(12,41)]) 0 (@ins0_l (f) (trivial))]
theorem pdq0_l (f:Nat) (h:True):Rq 0 124 0 (sM 148 [(0,nilS),(1,int 0),(2,int 0),(3,int 0),(4,fnV f),(10,Am.bool true),(11,Am.bool true)] []) AEx.ret (sM 148 [] []):=by
 have _:=h
 exact loop_exit [kO,kc [] (@ins0_w (f) (trivial))] (others 148 []) 0
theorem pdq0_w (f:Nat) (h:True):Cq 124 [nilS,int 0,int 0,int 0,fnV f] (.tup []):=by
 have _:=h
 exact callC_of [kl (rG [(5,5),(12,136)]) 0 (@pdq0_l (f) (trivial))]
theorem sortnil_w (f:Nat) (h:True):Cq 94 [nilS,fnV f] (.tup []):=by
 have _:=h
 exact callC_of [kc [] (@blen_w (trivial)),kc [] (@pdq0_w (f) (trivial))]
end Go.Mg


namespace Go.Mg
open Go Go.Am Go.Proofs Go.Seat Go.Vec Go.Cdc Go.Ops
theorem sorted_w0 (es:List (Value × AV)) (hs:CallC P G 63 [vsV,cmpF] [.box [.md true es]] (.ret nilS) [.box [.md true es]]):Cq 35 [.md true es] nilS :=
 callC_of [kc [] (@values_w (es) (trivial)),kc [0] (@hs)]
theorem sorted_w1 (es:List (Value × AV)) (g n:Nat) (u:List OP) (hs:CallC P G 63 [vsV,cmpF] [.box [.md true es]] (.ret (.own 7 g 0 n)) [.box [.md true es],.gone,.gone,.gone,.gone,.gone,.gone,.arr g 17 false (ocs u)]) :
 CallC P G 35 [.md true es] [] (.ret (.own 7 g 0 n)) [.box [.md true es],.gone,.gone,.gone,.gone,.gone,.gone,.arr g 17 false (ocs u)] :=
 callC_of [kc [] (@values_w (es) (trivial)),kc [0] (@hs),kp (show ∀ x∈ocs u,AV.idsInL [] x=true from ocs_ids u)]
end Go.Mg
