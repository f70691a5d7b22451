import Derived.Test.YtihbnnkcemjflaaGreatDoorG13
import Derived.Laws.Strings
import Derived.KernelRfl
set_option maxRecDepth 100000
set_option linter.unusedSimpArgs false
set_option linter.unusedVariables false

namespace Go.Cdc
open Go Go.Am Go.Proofs Go.Seat
inductive CV where
 | mk (k n:Int) (s:ByteArray) (l:List CV)
instance:Inhabited CV:=⟨.mk 0 0 .empty []⟩
def CV.k:CV→Int | .mk k _ _ _=>k
def CV.n:CV→Int | .mk _ n _ _=>n
def CV.s:CV→ByteArray | .mk _ _ s _=>s
def CV.l:CV→List CV | .mk _ _ _ l=>l
mutual
def CV.cells:CV→List AV
 | .mk k n s l=>[int k,int n,str s,.sl 4 false (encL l)]
def encL:List CV→List (List AV)
 | []=>[]
 | v::l=>v.cells::encL l
end
def enc (v:CV):List AV:=[int v.k,int v.n,str v.s,.sl 4 false (encL v.l)]
theorem cells_eq (v:CV):v.cells=enc v:=by cases v; simp [CV.cells,enc,CV.k,CV.n,CV.s,CV.l]
theorem encL_map:∀ l:List CV,encL l=l.map enc
 | []=>by simp [encL]
 | v::l=>by simp [encL,encL_map l,cells_eq]
def val (v:CV):AV:=.agg (enc v)
theorem encL_length (l:List CV):(encL l).length=l.length:=by simp [encL_map]
theorem encL_all (v:List CV):List.take v.length (List.drop 0 (encL v))=encL v:=by rw [← encL_length v]; simp
theorem str_eq (a b:ByteArray):(ByteArray.toList a == ByteArray.toList b)=decide (a=b):=by
 rw [ByteArray.toList_eq,ByteArray.toList_eq]
 by_cases h:a=b
 · subst h; simp
 · rw [decide_eq_false h]
   refine beq_eq_false_iff_ne.2 fun e=>h (ByteArray.ext (Array.toList_inj.1 e))
abbrev vmk (k n:Int) (s:ByteArray) (l:List CV):AV:=.agg [int k,int n,str s,.sl 4 false (encL l)]
theorem val_mk (k n:Int) (s:ByteArray) (l:List CV):val (.mk k n s l)=vmk k n s l:=rfl
abbrev u8 (c:UInt8):AV:=.lit (.int .u8 c.toNat)
def byt1 (c:UInt8):List AV:=[u8 c]
def bys (l:List UInt8):List (List AV):=l.map byt1
def byt (l:List UInt8):AV:=.sl 1 false (bys l)
theorem bys_length (l:List UInt8):(bys l).length=l.length:=by simp [bys]
theorem strB_ids (s:ByteArray):∀ c∈s.data.toList.map (fun c=>[AV.lit (Value.int IntKind.u8 (c.toNat:Int))]),AV.idsInL [] c=true:=by
 intro c hc
 obtain ⟨d,_,rfl⟩:=List.mem_map.1 hc
 rfl
theorem strB_pure (s:ByteArray):∀ c∈s.data.toList.map (fun c=>[AV.lit (Value.int IntKind.u8 (c.toNat:Int))]),c.all AV.pureB=true:=by
 intro c hc
 obtain ⟨d,_,rfl⟩:=List.mem_map.1 hc
 rfl
theorem bdata_length (s:ByteArray):s.data.toList.length=s.size:=rfl
theorem bys_append (a b:List UInt8):bys a++bys b=bys (a++b):=by simp [bys]
theorem bys_pure (v:List UInt8):∀ c∈bys v,c.all AV.pureB=true:=by
 intro c hc
 obtain ⟨d,_,rfl⟩:=List.mem_map.1 hc
 rfl
theorem bys_ids (v:List UInt8):∀ c∈bys v,AV.idsInL [] c=true:=by
 intro c hc
 obtain ⟨d,_,rfl⟩:=List.mem_map.1 hc
 rfl
abbrev u64 (n:Nat):AV:=.lit (.int .u64 n)
end Go.Cdc


namespace Go.Ops
open Go Go.Am Go.Proofs Go.Seat Go.Vec Go.Cdc
structure OP where
 dv:Int
 sq:Int
 tm:Int
 cx:List D
 pk:Int
 pn:ByteArray
 kd:Int
 f1:Int
 f2:Int
 f3:Int
 t1:Int
 t2:Int
 t3:Int
 ky:ByteArray
 vl:ByteArray
 n:Int
 on:Bool
 deriving DecidableEq
def opc (o:OP):List AV:=[int o.dv,int o.sq,int o.tm,vec o.cx,int o.pk,str o.pn,int o.kd,int o.f1,int o.f2,int o.f3,int o.t1,int o.t2,int o.t3,str o.ky,str o.vl,int o.n,bool o.on]
def op (o:OP):AV:=.agg (opc o)
def opk (o:OP) (k:Int):AV:=.agg [int o.dv,int o.sq,int o.tm,vec o.cx,int o.pk,str o.pn,int k,int o.f1,int o.f2,int o.f3,int o.t1,int o.t2,int o.t3,str o.ky,str o.vl,int o.n,bool o.on]
theorem opk_op (o:OP) (k:Int) (h:o.kd=k):opk o k=op o:=by subst h; rfl
abbrev ida (a b c:Int):AV:=.agg [int a,int b,int c]
def idB (a b c:Int):Bool:=decide (a≥0) && decide (a<512) && decide (b≥1) && decide (b≤1048576) && decide (c≥0) && decide (c≤63)
def knowsB (o:OP) (a b c:Int):Bool:=idB a b c && (coversB o.cx (a,b) || (decide (a=o.dv) && decide (b<o.sq)))
theorem knows_w (o:OP) (a b c:Int) (hc:o.cx.length≤1000000000) (h:(((a<0)→(false)=(knowsB o a b c))∧((¬a<0)→(((a≥512)→(false)=(knowsB o a b c))∧((¬a≥512)→(((b<1)→(false)=(knowsB o a b c))∧((¬b<1)→(((b > 1048576)→(false)=(knowsB o a b c))∧((¬b > 1048576)→(((c<0)→(false)=(knowsB o a b c))∧((¬c<0)→(((c > 63)→(false)=(knowsB o a b c))∧((¬c > 63)→((((coversB o.cx (a,b))=true)→(true)=(knowsB o a b c))∧(((coversB o.cx (a,b))=false)→(((a=o.dv)→(decide (b<o.sq))=(knowsB o a b c))∧((¬a=o.dv)→(false)=(knowsB o a b c)))))))))))))))))):Cq 300 [op o,ida a b c] (Am.bool (knowsB o a b c)):=by
 by_cases c1:(a<0)
 · have h:=h.1 c1
   exact callC_out (Sub.bool_eq h) [kt (qT c1),kO,kO,kO,kO,kO]
 · have h:=h.2 c1
   let l1:List Itm:=[kf (qF c1)]
   by_cases c2:(a≥512)
   · have h:=h.1 c2
     exact callC_out (Sub.bool_eq h) (l1++[kt (qT c2),kO,kO,kO,kO])
   · have h:=h.2 c2
     let l2:List Itm:=l1++[kf (qF c2)]
     by_cases c3:(b<1)
     · have h:=h.1 c3
       exact callC_out (Sub.bool_eq h) (l2++[kt (qT c3),kO,kO,kO])
     · have h:=h.2 c3
       let l3:List Itm:=l2++[kf (qF c3)]
       by_cases c4:(b > 1048576)
       · have h:=h.1 c4
         exact callC_out (Sub.bool_eq h) (l3++[kt (qT c4),kO,kO])
       · have h:=h.2 c4
         let l4:List Itm:=l3++[kf (qF c4)]
         by_cases c5:(c<0)
         · have h:=h.1 c5
           exact callC_out (Sub.bool_eq h) (l4++[kt (qT c5),kO])
         · have h:=h.2 c5
           let l5:List Itm:=l4++[kf (qF c5)]
           by_cases c6:(c > 63)
           · have h:=h.1 c6
             exact callC_out (Sub.bool_eq h) (l5++[kt (qT c6)])
           · have h:=h.2 c6
             have hz0:=(@Go.Vec.covers_c o.cx (a) (b) (by omega))
             let l6:List Itm:=l5++[kf (qF c6),kc [] hz0]
             rcases Bool.eq_false_or_eq_true ((coversB o.cx (a,b))) with c7 | c7
             · have h:=h.1 c7
               exact callC_out (Sub.bool_eq h) (l6++[kt c7])
             · have h:=h.2 c7
               by_cases c8:(a=o.dv)
               · have h:=h.1 c8
                 exact callC_out (Sub.bool_eq h) (l6++[kf c7,kt (qEq.2 c8)])
               · have h:=h.2 c8
                 exact callC_out (Sub.bool_eq h) (l6++[kf c7,kf (qN.2 c8)])
theorem knows_c (o:OP) (a b c:Int) (hc:o.cx.length≤1000000000):Cq 300 [op o,ida a b c] (bool (knowsB o a b c)):=knows_w o a b c hc (by
 unfold knowsB idB
 repeat' (first | refine And.intro ?_ ?_ | intro _)
 all_goals grind)
def beginsB (o:OP):Bool:=(decide (o.f1=0) && decide (o.f2=0) && decide (o.f3=0)) || knowsB o o.f1 o.f2 o.f3
theorem begins_w (o:OP) (hc:o.cx.length≤1000000000) (h:((((o.f1 == 0 && (o.f2 == 0 && o.f3 == 0))=true)→(true)=(beginsB o))∧(((o.f1 == 0 && (o.f2 == 0 && o.f3 == 0))=false)→(knowsB o o.f1 o.f2 o.f3)=(beginsB o)))):Cq 298 [op o] (Am.bool (beginsB o)):=by
 rcases Bool.eq_false_or_eq_true ((o.f1 == 0 && (o.f2 == 0 && o.f3 == 0))) with c1 | c1
 · have h:=h.1 c1
   exact callC_out (Sub.bool_eq h) [kt c1]
 · have h:=h.2 c1
   exact callC_out (Sub.bool_eq h) [kf c1,kc [] (@knows_c (o) o.f1 o.f2 o.f3 (by omega))]
theorem begins_c (o:OP) (hc:o.cx.length≤1000000000):Cq 298 [op o] (bool (beginsB o)):=begins_w o hc (by
 unfold beginsB
 grind)
def fieldsB (o:OP):Int→Bool
 | 1=>beginsB o && decide ((o.vl.size:Int)≤4096)
 | 2=>knowsB o o.f1 o.f2 o.f3
 | 3=>decide ((o.ky.size:Int)≤64) && decide ((o.vl.size:Int)≤4096)
 | 4=>decide ((o.ky.size:Int)≤64)
 | 5=>decide (o.n≥-1125899906842624) && decide (o.n≤1125899906842624)
 | 6=>beginsB o && decide ((o.vl.size:Int)≥1) && decide ((o.vl.size:Int)≤64)
 | 7=>knowsB o o.f1 o.f2 o.f3 && decide (o.n≥1) && decide (o.n≤64 - o.f3)
 | 8=>knowsB o o.f1 o.f2 o.f3 && knowsB o o.t1 o.t2 o.t3 && decide (o.n≥0) && decide (o.n≤15)
 | _=>false
theorem k1_w (o:OP) (hc:o.cx.length≤1000000000) (h:((((beginsB o)=true)→(decide ((↑(ByteArray.size o.vl):Int)≤4096))=(fieldsB o 1))∧(((beginsB o)=false)→(false)=(fieldsB o 1)))):Cq 297 [op o] (Am.bool (fieldsB o 1)):=by
 have hz0:=(@begins_c (o) (by omega))
 rcases Bool.eq_false_or_eq_true ((beginsB o)) with c1 | c1
 · have h:=h.1 c1
   exact callC_out (Sub.bool_eq h) [kc [] hz0,kt c1]
 · have h:=h.2 c1
   exact callC_out (Sub.bool_eq h) [kc [] hz0,kf c1]
theorem k2_w (o:OP) (hc:o.cx.length≤1000000000) (h:True):Cq 299 [op o] (Am.bool (fieldsB o 2)):=by
 have _:=h
 exact callC_of [kc [] (@knows_c (o) o.f1 o.f2 o.f3 (by omega))]
theorem k3_w (o:OP) (h:((((↑(ByteArray.size o.ky):Int)≤64)→(decide ((↑(ByteArray.size o.vl):Int)≤4096))=(fieldsB o 3))∧((¬(↑(ByteArray.size o.ky):Int)≤64)→(false)=(fieldsB o 3)))):Cq 301 [op o] (Am.bool (fieldsB o 3)):=by
 by_cases c1:((↑(ByteArray.size o.ky):Int)≤64)
 · have h:=h.1 c1
   exact callC_out (Sub.bool_eq h) [kt (qT c1)]
 · have h:=h.2 c1
   exact callC_out (Sub.bool_eq h) [kf (qF c1)]
theorem k4_w (o:OP) (h:True):Cq 302 [op o] (Am.bool (fieldsB o 4)):=by
 have _:=h
 exact callC_of []
theorem k5_w (o:OP) (h:(((o.n≥(-1125899906842624:Int))→(decide (o.n≤1125899906842624))=(fieldsB o 5))∧((¬o.n≥(-1125899906842624:Int))→(false)=(fieldsB o 5)))):Cq 303 [op o] (Am.bool (fieldsB o 5)):=by
 by_cases c1:(o.n≥(-1125899906842624:Int))
 · have h:=h.1 c1
   exact callC_out (Sub.bool_eq h) [kt (qT c1)]
 · have h:=h.2 c1
   exact callC_out (Sub.bool_eq h) [kf (qF c1)]
theorem k6_w (o:OP) (hc:o.cx.length≤1000000000) (h:((((beginsB o)=true)→((((↑(ByteArray.size o.vl):Int)≥1)→(decide ((↑(ByteArray.size o.vl):Int)≤64))=(fieldsB o 6))∧((¬(↑(ByteArray.size o.vl):Int)≥1)→(false)=(fieldsB o 6))))∧(((beginsB o)=false)→(false)=(fieldsB o 6)))):Cq 304 [op o] (Am.bool (fieldsB o 6)):=by
 have hz0:=(@begins_c (o) (by omega))
 rcases Bool.eq_false_or_eq_true ((beginsB o)) with c1 | c1
 · have h:=h.1 c1
   by_cases c2:((↑(ByteArray.size o.vl):Int)≥1)
   · have h:=h.1 c2
     exact callC_out (Sub.bool_eq h) [kc [] hz0,kt c1,kt (qT c2)]
   · have h:=h.2 c2
     exact callC_out (Sub.bool_eq h) [kc [] hz0,kt c1,kf (qF c2)]
 · have h:=h.2 c1
   exact callC_out (Sub.bool_eq h) [kc [] hz0,kf c1,kY]
theorem k7_w (o:OP) (hc:o.cx.length≤1000000000) (h3 : -9223372036854775808≤o.f3∧o.f3<9223372036854775808) (h:((((knowsB o o.f1 o.f2 o.f3)=true)→(((o.n≥1)→(decide (o.n≤IntKind.wrap IntKind.i64 (64 - o.f3)))=(fieldsB o 7))∧((¬o.n≥1)→(false)=(fieldsB o 7))))∧(((knowsB o o.f1 o.f2 o.f3)=false)→(false)=(fieldsB o 7)))):Cq 305 [op o] (Am.bool (fieldsB o 7)):=by
 have hz0:=(@knows_c (o) o.f1 o.f2 o.f3 (by omega))
 rcases Bool.eq_false_or_eq_true ((knowsB o o.f1 o.f2 o.f3)) with c1 | c1
 · have h:=h.1 c1
   by_cases c2:(o.n≥1)
   · have h:=h.1 c2
     exact callC_out (Sub.bool_eq h) [kc [] hz0,kt c1,kt (qT c2)]
   · have h:=h.2 c2
     exact callC_out (Sub.bool_eq h) [kc [] hz0,kt c1,kf (qF c2)]
 · have h:=h.2 c1
   exact callC_out (Sub.bool_eq h) [kc [] hz0,kf c1,kY]
theorem k8_w (o:OP) (hc:o.cx.length≤1000000000) (h:((((knowsB o o.f1 o.f2 o.f3)=true)→((((knowsB o o.t1 o.t2 o.t3)=true)→(((o.n≥0)→(decide (o.n≤15))=(fieldsB o 8))∧((¬o.n≥0)→(false)=(fieldsB o 8))))∧(((knowsB o o.t1 o.t2 o.t3)=false)→(false)=(fieldsB o 8))))∧(((knowsB o o.f1 o.f2 o.f3)=false)→(false)=(fieldsB o 8)))):Cq 306 [op o] (Am.bool (fieldsB o 8)):=by
 have hz0:=(@knows_c (o) o.f1 o.f2 o.f3 (by omega))
 rcases Bool.eq_false_or_eq_true ((knowsB o o.f1 o.f2 o.f3)) with c1 | c1
 · have h:=h.1 c1
   have hz1:=(@knows_c (o) o.t1 o.t2 o.t3 (by omega))
   rcases Bool.eq_false_or_eq_true ((knowsB o o.t1 o.t2 o.t3)) with c2 | c2
   · have h:=h.1 c2
     by_cases c3:(o.n≥0)
     · have h:=h.1 c3
       exact callC_out (Sub.bool_eq h) [kc [] hz0,kt c1,kc [] hz1,kt c2,kt (qT c3)]
     · have h:=h.2 c3
       exact callC_out (Sub.bool_eq h) [kc [] hz0,kt c1,kc [] hz1,kt c2,kf (qF c3)]
   · have h:=h.2 c2
     exact callC_out (Sub.bool_eq h) [kc [] hz0,kt c1,kc [] hz1,kf c2,kY]
 · have h:=h.2 c1
   exact callC_out (Sub.bool_eq h) [kc [] hz0,kf c1,kY,kY]
theorem k1_c (o:OP) (hc:o.cx.length≤1000000000):Cq 297 [op o] (bool (fieldsB o 1)):=k1_w o hc (by simp only [fieldsB]; exact ⟨fun h=>by simp [h],fun h=>by simp [h]⟩)
theorem k2_c (o:OP) (hc:o.cx.length≤1000000000):Cq 299 [op o] (bool (fieldsB o 2)):=k2_w o hc trivial
theorem k3_c (o:OP):Cq 301 [op o] (bool (fieldsB o 3)):=k3_w o (by simp only [fieldsB]; exact ⟨fun h=>by simp [h],fun h=>by simp [h]⟩)
theorem k4_c (o:OP):Cq 302 [op o] (bool (fieldsB o 4)):=k4_w o trivial
theorem k5_c (o:OP):Cq 303 [op o] (bool (fieldsB o 5)):=k5_w o (by simp only [fieldsB]; exact ⟨fun h=>by simp [h],fun h=>by simp [h]⟩)
theorem k6_c (o:OP) (hc:o.cx.length≤1000000000):Cq 304 [op o] (bool (fieldsB o 6)):=k6_w o hc (by simp only [fieldsB]; exact ⟨fun h=>⟨fun h2=>by simp [h,h2],fun h2=>by simp [h,h2]⟩,fun h=>by simp [h]⟩)
theorem knowsB_at {o:OP} {a b c:Int} (h:knowsB o a b c=true):0≤c∧c≤63:=by
 unfold knowsB idB at h
 grind
theorem k7_c (o:OP) (hc:o.cx.length≤1000000000) (h3 : -9223372036854775808≤o.f3∧o.f3<9223372036854775808):Cq 305 [op o] (bool (fieldsB o 7)):=k7_w o hc h3 (by
 simp only [fieldsB]
 refine ⟨fun h=>?_,fun h=>by simp [h]⟩
 have:=knowsB_at h
 rw [Am.wrap_ok (by omega) (by omega)]
 exact ⟨fun h2=>by simp [h,h2],fun h2=>by simp [h,h2]⟩)
theorem k8_c (o:OP) (hc:o.cx.length≤1000000000):Cq 306 [op o] (bool (fieldsB o 8)):=k8_w o hc (by
 simp only [fieldsB]
 exact ⟨fun h=>⟨fun h1=>⟨fun h2=>by simp [h,h1,h2],fun h2=>by simp [h,h1,h2]⟩,fun h1=>by simp [h,h1]⟩,fun h=>by simp [h]⟩)
end Go.Ops
