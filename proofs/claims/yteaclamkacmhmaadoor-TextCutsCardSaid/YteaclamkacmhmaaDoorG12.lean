import Derived.Test.YteaclamkacmhmaaDoorG11
import Derived.KernelRfl
set_option maxRecDepth 100000
set_option linter.unusedSimpArgs false
set_option linter.unusedVariables false

namespace Go.Sq
open Go Go.Am Go.Proofs Go.Seat
def idB (a b c:Int):Bool:=decide (a≥0) && decide (a<512) && decide (b≥1) && decide (b≤1048576) && decide (c≥0) && decide (c≤63)
def zeroB (a b c:Int):Bool:=decide (a=0) && decide (b=0) && decide (c=0)
def validB (x:CE):Bool:=idB x.dv x.sq x.at' && (zeroB x.ad x.as' x.aa || idB x.ad x.as' x.aa) && decide (x.tm≥1) && decide (x.tm≤1099511627776) && decide ((x.vl.size:Int)≤4096)
theorem vid_w (a b c:Int) (h:(((a≥(0:Int))→(((a<(512:Int))→(((b≥(1:Int))→(((b≤(1048576:Int))→(((c≥(0:Int))→(decide (c≤(63:Int)))=(idB a b c))∧((¬c≥(0:Int))→(false)=(idB a b c))))∧((¬b≤(1048576:Int))→(false)=(idB a b c))))∧((¬b≥(1:Int))→(false)=(idB a b c))))∧((¬a<(512:Int))→(false)=(idB a b c))))∧((¬a≥(0:Int))→(false)=(idB a b c)))):CallC P G 88 [ida a b c] [] (AOut.ret (Am.bool (idB a b c))) []:=by
 by_cases c1:(a≥(0:Int))
 · have h:=h.1 c1
   by_cases c2:(a<(512:Int))
   · have h:=h.1 c2
     by_cases c3:(b≥(1:Int))
     · have h:=h.1 c3
       by_cases c4:(b≤(1048576:Int))
       · have h:=h.1 c4
         by_cases c5:(c≥(0:Int))
         · have h:=h.1 c5
           have e1:=h
           exact callC_out (Sub.bool_eq e1) [kt (decide_eq_true c1),kt (decide_eq_true c2),kt (decide_eq_true c3),kt (decide_eq_true c4),kt (decide_eq_true c5)] (by kernel_rfl)
         · have h:=h.2 c5
           have e1:=h
           exact callC_out (Sub.bool_eq e1) [kt (decide_eq_true c1),kt (decide_eq_true c2),kt (decide_eq_true c3),kt (decide_eq_true c4),kf (decide_eq_false c5)] (by kernel_rfl)
       · have h:=h.2 c4
         have e1:=h
         exact callC_out (Sub.bool_eq e1) [kt (decide_eq_true c1),kt (decide_eq_true c2),kt (decide_eq_true c3),kf (decide_eq_false c4),kf (Eq.refl false)] (by kernel_rfl)
     · have h:=h.2 c3
       have e1:=h
       exact callC_out (Sub.bool_eq e1) [kt (decide_eq_true c1),kt (decide_eq_true c2),kf (decide_eq_false c3),kf (Eq.refl false),kf (Eq.refl false)] (by kernel_rfl)
   · have h:=h.2 c2
     have e1:=h
     exact callC_out (Sub.bool_eq e1) [kt (decide_eq_true c1),kf (decide_eq_false c2),kf (Eq.refl false),kf (Eq.refl false),kf (Eq.refl false)] (by kernel_rfl)
 · have h:=h.2 c1
   have e1:=h
   exact callC_out (Sub.bool_eq e1) [kf (decide_eq_false c1),kf (Eq.refl false),kf (Eq.refl false),kf (Eq.refl false),kf (Eq.refl false)] (by kernel_rfl)
theorem vid_c (a b c:Int):CallC P G 88 [ida a b c] [] (.ret (bool (idB a b c))) []:=vid_w a b c (by unfold idB; grind)
theorem valid_w (x:CE) (h:((((idB (CE.dv x) (CE.sq x) (CE.at' x))=true)→((((CE.ad x == 0 && (CE.as' x == 0 && CE.aa x == 0))=true)→(((CE.tm x≥(1:Int))→(((CE.tm x≤(1099511627776:Int))→(decide ((↑(ByteArray.size (CE.vl x)):Int)≤(4096:Int)))=(validB x))∧((¬CE.tm x≤(1099511627776:Int))→(false)=(validB x))))∧((¬CE.tm x≥(1:Int))→(false)=(validB x))))∧(((CE.ad x == 0 && (CE.as' x == 0 && CE.aa x == 0))=false)→((((idB (CE.ad x) (CE.as' x) (CE.aa x))=true)→(((CE.tm x≥(1:Int))→(((CE.tm x≤(1099511627776:Int))→(decide ((↑(ByteArray.size (CE.vl x)):Int)≤(4096:Int)))=(validB x))∧((¬CE.tm x≤(1099511627776:Int))→(false)=(validB x))))∧((¬CE.tm x≥(1:Int))→(false)=(validB x))))∧(((idB (CE.ad x) (CE.as' x) (CE.aa x))=false)→(false)=(validB x))))))∧(((idB (CE.dv x) (CE.sq x) (CE.at' x))=false)→(false)=(validB x)))):CallC P G 78 [cel x] [] (AOut.ret (Am.bool (validB x))) []:=by
 have hz0:=(@Go.Sq.vid_c (CE.dv x) (CE.sq x) (CE.at' x))
 have hz1:=(@Go.Sq.vid_c (CE.ad x) (CE.as' x) (CE.aa x))
 rcases Bool.eq_false_or_eq_true ((idB (CE.dv x) (CE.sq x) (CE.at' x))) with c1 | c1
 · have h:=h.1 c1
   rcases Bool.eq_false_or_eq_true ((CE.ad x == 0 && (CE.as' x == 0 && CE.aa x == 0))) with c2 | c2
   · have h:=h.1 c2
     by_cases c3:(CE.tm x≥(1:Int))
     · have h:=h.1 c3
       by_cases c4:(CE.tm x≤(1099511627776:Int))
       · have h:=h.1 c4
         have e1:=h
         exact callC_out (Sub.bool_eq e1) [kc [] hz0,kt c1,kt c2,kt (Eq.refl true),kt (decide_eq_true c3),kt (decide_eq_true c4)] (by kernel_rfl)
       · have h:=h.2 c4
         have e1:=h
         exact callC_out (Sub.bool_eq e1) [kc [] hz0,kt c1,kt c2,kt (Eq.refl true),kt (decide_eq_true c3),kf (decide_eq_false c4)] (by kernel_rfl)
     · have h:=h.2 c3
       have e1:=h
       exact callC_out (Sub.bool_eq e1) [kc [] hz0,kt c1,kt c2,kt (Eq.refl true),kf (decide_eq_false c3),kf (Eq.refl false)] (by kernel_rfl)
   · have h:=h.2 c2
     rcases Bool.eq_false_or_eq_true ((idB (CE.ad x) (CE.as' x) (CE.aa x))) with c5 | c5
     · have h:=h.1 c5
       by_cases c6:(CE.tm x≥(1:Int))
       · have h:=h.1 c6
         by_cases c7:(CE.tm x≤(1099511627776:Int))
         · have h:=h.1 c7
           have e1:=h
           exact callC_out (Sub.bool_eq e1) [kc [] hz0,kt c1,kf c2,kc [] hz1,kt c5,kt (decide_eq_true c6),kt (decide_eq_true c7)] (by kernel_rfl)
         · have h:=h.2 c7
           have e1:=h
           exact callC_out (Sub.bool_eq e1) [kc [] hz0,kt c1,kf c2,kc [] hz1,kt c5,kt (decide_eq_true c6),kf (decide_eq_false c7)] (by kernel_rfl)
       · have h:=h.2 c6
         have e1:=h
         exact callC_out (Sub.bool_eq e1) [kc [] hz0,kt c1,kf c2,kc [] hz1,kt c5,kf (decide_eq_false c6),kf (Eq.refl false)] (by kernel_rfl)
     · have h:=h.2 c5
       have e1:=h
       exact callC_out (Sub.bool_eq e1) [kc [] hz0,kt c1,kf c2,kc [] hz1,kf c5,kf (Eq.refl false),kf (Eq.refl false)] (by kernel_rfl)
 · have h:=h.2 c1
   have e1:=h
   exact callC_out (Sub.bool_eq e1) [kc [] hz0,kf c1,kf (Eq.refl false),kf (Eq.refl false),kf (Eq.refl false)] (by kernel_rfl)
theorem valid_c (x:CE):CallC P G 78 [cel x] [] (.ret (bool (validB x))) []:=valid_w x (by
 simp only [validB,zeroB]; grind)
def gtB (a b:CE):Bool:=decide (a.tm > b.tm) || (decide (a.tm=b.tm) && (decide (a.dv > b.dv) || (decide (a.dv=b.dv) && (decide (a.sq > b.sq) || (decide (a.sq=b.sq) && decide (a.at' > b.at'))))))
end Go.Sq


namespace Go.Sq
open Go Go.Am Go.Proofs Go.Seat
def pid (a b c:Int) (x:CE):Bool:=x.dv == a && (x.sq == b && x.at' == c)
def fI (p:CE→Bool) (v:List CE):Nat→Nat→Option Nat
 | 0,_=>none
 | n+1,k=>match v[k]? with
  | some c=>if p c=true then some k else fI p v n (k+1)
  | none=>none
def fX (p:CE→Bool) (v:List CE):Option Nat:=fI p v v.length 0
theorem fI_yes {p:CE→Bool} {v:List CE} {k n:Nat} {c:CE} (h:v[k]? = some c) (hp:p c=true):fI p v (n+1) k=some k:=by simp [fI,h,hp]
theorem fI_no {p:CE→Bool} {v:List CE} {k n:Nat} {c:CE} (h:v[k]? = some c) (hp:p c=false):fI p v (n+1) k=fI p v n (k+1):=by simp [fI,h,hp]
def fiO:Option Nat→Int × Bool
 | some k=>(k,true)
 | none=>(0,false)
def rfSt (v:List CE) (a b c:Int) (k:Nat):St:={ env:=slots 21 [(0,ces v),(1,ida a b c),(3,.ptr 0 0),(4,int 0),(5,bool false),(6,int k)],H:=[.box [int a,int b,int c]] }
theorem rf_w (v:List CE) (a b c:Int) (k:Nat) (hv:v.length≤1000000000) (ex:AEx) (r:Int) (o:Bool) (h:((((↑k:Int)<(↑(List.length v):Int))→(∃ x2:CE,(v[k]? = some x2)∧((((CE.dv x2 == a && (CE.sq x2 == b && CE.at' x2 == c))=true)→(AEx.ret=ex)∧(((↑k:Int):Int)=(r))∧((true)=(o)))∧(((CE.dv x2 == a && (CE.sq x2 == b && CE.at' x2 == c))=false)→RunL P G none 0 (loopAt P 99 0) (St.mk (slots 21 [(0,AV.sl 9 false (encs v)),(1,AV.agg [int a,int b,int c]),(3,AV.ptr 0 0),(4,int 0),(5,Am.bool false),(6,int (↑(k+1):Int))]) [AObj.box [int a,int b,int c]] []) ex (St.mk (slots 21 [(4,int r),(5,Am.bool o)]) [AObj.box [int a,int b,int c]] [])))))∧((¬(↑k:Int)<(↑(List.length v):Int))→(AEx.exit 0=ex)∧((0:Int)=(r))∧((false)=(o))))):RunL P G none 0 (loopAt P 99 0) (rfSt v a b c k) ex (St.mk (slots 21 [(4,int r),(5,Am.bool o)]) [AObj.box [int a,int b,int c]] []):=by
 have hz0:Am.Sub (int (↑(List.length (encs v)):Int)) (int (↑(List.length v):Int)):=(Sub.of_eq (by simp only [Go.Sq.encs_length]))
 by_cases c1:((↑k:Int)<(↑(List.length v):Int))
 · have h:=h.1 c1
   obtain ⟨x2,o3,h⟩:=h
   have hz1:(0:Int)≤(↑k:Int)∧(encs v)[Int.toNat (↑k:Int)]? = some (enc x2):=(el_nat o3)
   rcases Bool.eq_false_or_eq_true ((CE.dv x2 == a && (CE.sq x2 == b && CE.at' x2 == c))) with c4 | c4
   · have h:=h.1 c4
     obtain ⟨eX,e1,e2⟩:=h
     exact RunL.to ((show RunL P G none 0 (loopAt P 99 0) (rfSt v a b c k) AEx.ret (St.mk (slots 21 [(4,int (↑k:Int)),(5,Am.bool true)]) [AObj.box [int a,int b,int c]] []) from loop_exit [kv 9 hz0,kt (decide_eq_true c1),ko (Orc.elem (enc x2)),kp hz1,kt c4] (others 21 [4,5]) 1 (by kernel_rfl))) eX (SubS.slots ⟨rfl,(Sub.int_eq e1),rfl,(Sub.bool_eq e2),trivial⟩)
   · have h:=h.2 c4
     exact loop_next [kv 9 hz0,kt (decide_eq_true c1),ko (Orc.elem (enc x2)),kp hz1,kf c4,kv 12 (show Am.Sub (int (IntKind.wrap IntKind.i64 ((↑k:Int)+1))) (int (↑(k+1):Int)) from (Sub.of_wrap (by omega) (by omega) (by omega)))] (others 21 [0,1,3,4,5,6]) 1 h (by kernel_rfl)
 · have h:=h.2 c1
   obtain ⟨eX,e1,e2⟩:=h
   exact RunL.to ((show RunL P G none 0 (loopAt P 99 0) (rfSt v a b c k) (AEx.exit 0) (St.mk (slots 21 [(4,int 0),(5,Am.bool false)]) [AObj.box [int a,int b,int c]] []) from loop_exit [kv 9 hz0,kf (decide_eq_false c1)] (others 21 [4,5]) 1 (by kernel_rfl))) eX (SubS.slots ⟨rfl,(Sub.int_eq e1),rfl,(Sub.bool_eq e2),trivial⟩)
theorem rf_loop (v:List CE) (a b c:Int) (hv:v.length≤1000000000):∀ n k,v.length - k=n→k≤v.length→RunL P G none 0 (loopAt P 99 0) (rfSt v a b c k) (if (fI (pid a b c) v n k).isSome=true then .ret else .exit 0)
 { env:=slots 21 [(4,int (fiO (fI (pid a b c) v n k)).1),(5,bool (fiO (fI (pid a b c) v n k)).2)],H:=[.box [int a,int b,int c]] }:=by
 intro n
 induction n with
 | zero=>intro k hn hk; exact rf_w v a b c k hv _ _ _ ⟨fun h=>absurd h (by omega),fun _=>⟨rfl,rfl,rfl⟩⟩
 | succ n ih =>
  intro k hn hk
  have hlt:k<v.length:=by omega
  have hx:v[k]? = some v[k]:=List.getElem?_eq_getElem hlt
  refine rf_w v a b c k hv _ _ _ ⟨fun h=>⟨v[k],hx,⟨fun hq=>?_,fun hq=>?_⟩⟩,fun h=>absurd hlt (by omega)⟩
  · rw [fI_yes (p:=pid a b c) hx hq]; exact ⟨rfl,rfl,rfl⟩
  · rw [fI_no (p:=pid a b c) hx hq]; exact ih (k+1) (by omega) (by omega)
theorem rf_run (v:List CE) (a b c:Int) (hv:v.length≤1000000000):RunL P G none 0 (loopAt P 99 0) (rfSt v a b c 0) (if (fX (pid a b c) v).isSome=true then .ret else .exit 0)
 { env:=slots 21 [(4,int (fiO (fX (pid a b c) v)).1),(5,bool (fiO (fX (pid a b c) v)).2)],H:=[.box [int a,int b,int c]] }:=rf_loop v a b c hv v.length 0 (by omega) (by omega)
theorem fp_w (x:CE) (a b c:Int) (h:True):CallC P G 74 [cel x,AV.ptr 0 0] [AObj.box [int a,int b,int c]] (AOut.ret (Am.bool (pid a b c x))) [AObj.box [int a,int b,int c]]:=by
 have _:=h
 exact callC_of [] (by kernel_rfl)
def ixSt (v:List CE) (a b c:Int) (k:Nat):St:={ env:=slots 19 [(0,ces v),(1,.fn (.func 74) [] [.ptr 0 0]),(4,int 0),(6,ces v),(7,int v.length),(8,int k)],H:=[.box [int a,int b,int c]] }
theorem ix_w (v:List CE) (a b c:Int) (k:Nat) (hv:v.length≤1000000000) (hp:∀ x:CE,CallC P G 74 [cel x,.ptr 0 0] [.box [int a,int b,int c]] (.ret (bool (pid a b c x))) [.box [int a,int b,int c]]) (ex:AEx) (r:Int) (h:((((↑k:Int)<(↑(List.length v):Int))→(∃ x2:CE,(v[k]? = some x2)∧((((pid a b c x2)=true)→(AEx.ret=ex)∧(((↑k:Int):Int)=(r)))∧(((pid a b c x2)=false)→RunL P G none 1 (loopAt P 65 0) (St.mk (slots 19 [(0,AV.sl 9 false (encs v)),(1,AV.fn (Fn.func 74) [] [AV.ptr 0 0]),(4,int 0),(6,AV.sl 9 false (encs v)),(7,int (↑(List.length v):Int)),(8,int (↑(k+1):Int))]) [AObj.box [int a,int b,int c]] []) ex (St.mk (slots 19 [(4,int r)]) [AObj.box [int a,int b,int c]] [])))))∧((¬(↑k:Int)<(↑(List.length v):Int))→(AEx.exit 0=ex)∧((0:Int)=(r))))):RunL P G none 1 (loopAt P 65 0) (ixSt v a b c k) ex (St.mk (slots 19 [(4,int r)]) [AObj.box [int a,int b,int c]] []):=by
 by_cases c1:((↑k:Int)<(↑(List.length v):Int))
 · have h:=h.1 c1
   obtain ⟨x2,o3,h⟩:=h
   have hz0:(0:Int)≤(↑k:Int)∧(encs v)[Int.toNat (↑k:Int)]? = some (enc x2):=(el_nat o3)
   have hz1:=(@hp (x2))
   rcases Bool.eq_false_or_eq_true ((pid a b c x2)) with c4 | c4
   · have h:=h.1 c4
     obtain ⟨eX,e1⟩:=h
     exact RunL.to ((show RunL P G none 1 (loopAt P 65 0) (ixSt v a b c k) AEx.ret (St.mk (slots 19 [(4,int (↑k:Int))]) [AObj.box [int a,int b,int c]] []) from loop_exit [kt (decide_eq_true c1),ko (Orc.elem (enc x2)),kp hz0,kc [0] hz1,kt c4] (others 19 [4]) 1 (by kernel_rfl))) eX (SubS.slots ⟨rfl,(Sub.int_eq e1),trivial⟩)
   · have h:=h.2 c4
     exact loop_next [kt (decide_eq_true c1),ko (Orc.elem (enc x2)),kp hz0,kc [0] hz1,kf c4,kv 18 (show Am.Sub (int (IntKind.wrap IntKind.i64 ((↑k:Int)+1))) (int (↑(k+1):Int)) from (Sub.of_wrap (by omega) (by omega) (by omega)))] (others 19 [0,1,4,6,7,8]) 1 h (by kernel_rfl)
 · have h:=h.2 c1
   obtain ⟨eX,e1⟩:=h
   exact RunL.to ((show RunL P G none 1 (loopAt P 65 0) (ixSt v a b c k) (AEx.exit 0) (St.mk (slots 19 [(4,int 0)]) [AObj.box [int a,int b,int c]] []) from loop_exit [kf (decide_eq_false c1)] (others 19 [4]) 1 (by kernel_rfl))) eX (SubS.slots ⟨rfl,(Sub.int_eq e1),trivial⟩)
def ixV:Option Nat→Int
 | some k=>k
 | none => -1
theorem ix_loop (v:List CE) (a b c:Int) (hv:v.length≤1000000000):∀ n k,v.length - k=n→k≤v.length→RunL P G none 1 (loopAt P 65 0) (ixSt v a b c k) (if (fI (pid a b c) v n k).isSome=true then .ret else .exit 0)
 { env:=slots 19 [(4,int (match fI (pid a b c) v n k with | some j=>(j:Int) | none=>0))],H:=[.box [int a,int b,int c]] }:=by
 have hp:∀ x:CE,CallC P G 74 [cel x,.ptr 0 0] [.box [int a,int b,int c]] (.ret (bool (pid a b c x))) [.box [int a,int b,int c]]:=fun x=>fp_w x a b c trivial
 intro n
 induction n with
 | zero=>intro k hn hk; exact ix_w v a b c k hv hp _ _ ⟨fun h=>absurd h (by omega),fun _=>⟨rfl,rfl⟩⟩
 | succ n ih =>
  intro k hn hk
  have hlt:k<v.length:=by omega
  have hx:v[k]? = some v[k]:=List.getElem?_eq_getElem hlt
  refine ix_w v a b c k hv hp _ _ ⟨fun h=>⟨v[k],hx,⟨fun hq=>?_,fun hq=>?_⟩⟩,fun h=>absurd hlt (by omega)⟩
  · rw [fI_yes (p:=pid a b c) hx hq]; exact ⟨rfl,rfl⟩
  · rw [fI_no (p:=pid a b c) hx hq]; exact ih (k+1) (by omega) (by omega)
theorem ix_run (v:List CE) (a b c:Int) (hv:v.length≤1000000000):RunL P G none 1 (loopAt P 65 0) (ixSt v a b c 0) (if (fX (pid a b c) v).isSome=true then .ret else .exit 0)
 { env:=slots 19 [(4,int (match fX (pid a b c) v with | some j=>(j:Int) | none=>0))],H:=[.box [int a,int b,int c]] }:=ix_loop v a b c hv v.length 0 (by omega) (by omega)
theorem ixf_w (v:List CE) (a b c:Int) (r:Int) (hv:v.length≤1000000000) (h:(((Option.isSome (fX (pid a b c) v)=true)→(match fX (pid a b c) v with
| some j=>(↑j:Int)
| none=>0:Int)=(r))∧((¬Option.isSome (fX (pid a b c) v)=true)→(-1:Int)=(r)))):CallC P G 65 [ces v,AV.fn (Fn.func 74) [] [AV.ptr 0 0]] [AObj.box [int a,int b,int c]] (AOut.ret (int r)) [AObj.box [int a,int b,int c]]:=by
 have hz0:Am.Sub (int (↑(List.length (encs v)):Int)) (int (↑(List.length v):Int)):=(Sub.of_eq (by simp only [Go.Sq.encs_length]))
 by_cases c1:(Option.isSome (fX (pid a b c) v)=true)
 · have h:=h.1 c1
   have e1:=h
   exact callC_out (Sub.int_eq e1) [kv 7 hz0,kl [2,3,5,9,10,11,12,13,14,15,16,17,18] 1 (show RunL P G none 1 (loopAt P 65 0) (St.mk (slots 19 [(0,AV.sl 9 false (encs v)),(1,AV.fn (Fn.func 74) [] [AV.ptr 0 0]),(4,int 0),(6,AV.sl 9 false (encs v)),(7,int (↑(List.length v):Int)),(8,int 0)]) [AObj.box [int a,int b,int c]] []) AEx.ret
 (St.mk
  (slots 19
   [(4,
    int
     (match fX (pid a b c) v with
     | some j=>(↑j:Int)
     | none=>0))])
  [AObj.box [int a,int b,int c]] []) from (by have h0:=(@Go.Sq.ix_run (v) (a) (b) (c) (by omega)); simp only [if_pos c1] at h0; exact h0))] (by kernel_rfl)
 · have h:=h.2 c1
   have e1:=h
   exact callC_out (Sub.int_eq e1) [kv 7 hz0,kl [2,3,5,9,10,11,12,13,14,15,16,17,18] 1 (show RunL P G none 1 (loopAt P 65 0) (St.mk (slots 19 [(0,AV.sl 9 false (encs v)),(1,AV.fn (Fn.func 74) [] [AV.ptr 0 0]),(4,int 0),(6,AV.sl 9 false (encs v)),(7,int (↑(List.length v):Int)),(8,int 0)]) [AObj.box [int a,int b,int c]] []) (AEx.exit 0)
 (St.mk
  (slots 19
   [(4,
    int
     (match fX (pid a b c) v with
     | some j=>(↑j:Int)
     | none=>0))])
  [AObj.box [int a,int b,int c]] []) from (by have h0:=(@Go.Sq.ix_run (v) (a) (b) (c) (by omega)); simp only [if_neg c1] at h0; exact h0))] (by kernel_rfl)
theorem ixf_c (v:List CE) (a b c:Int) (hv:v.length≤1000000000):CallC P G 65 [ces v,.fn (.func 74) [] [.ptr 0 0]] [.box [int a,int b,int c]] (.ret (int (ixV (fX (pid a b c) v)))) [.box [int a,int b,int c]]:=by
 refine ixf_w v a b c _ hv ?_
 cases h:fX (pid a b c) v<;>simp [ixV]
theorem find_w (v:List CE) (a b c:Int) (r:Int) (o:Bool) (n:Int) (hv:v.length≤1000000000) (hx:CallC P G 65 [ces v,.fn (.func 74) [] [.ptr 0 0]] [.box [int a,int b,int c]] (.ret (int n)) [.box [int a,int b,int c]]) (h:((if (0:Int) > n then 0 else n:Int)=(r))∧((decide (n≥(0:Int)))=(o))):CallC P G 54 [ces v,ida a b c] [] (AOut.ret (AV.tup [int r,Am.bool o])) []:=by
 obtain ⟨e1,e2⟩:=h
 exact CallC.out ((show CallC P G 54 [ces v,ida a b c] [] (AOut.ret (AV.tup [int (if (0:Int) > n then 0 else n),Am.bool (decide (n≥(0:Int)))])) [] from callC_of [kc [0] (@hx )] (by kernel_rfl))) (Sub.tups ⟨(Sub.int_eq e1),(Sub.bool_eq e2),trivial⟩)
theorem find_c (v:List CE) (a b c:Int) (hv:v.length≤1000000000):CallC P G 54 [ces v,ida a b c] [] (.ret (.tup [int (fiO (fX (pid a b c) v)).1,bool (fiO (fX (pid a b c) v)).2])) []:=by
 refine find_w v a b c _ _ _ hv (ixf_c v a b c hv) ?_
 cases h:fX (pid a b c) v with
 | none=>simp [ixV,fiO]
 | some j=>simp [ixV,fiO]; omega
end Go.Sq


namespace Go.Vec
open Go Go.Am Go.Proofs Go.Seat
def isDotB (d:D):Bool:=decide (d.1≥0) && decide (d.1<512) && decide (d.2≥1) && decide (d.2≤1048576)
theorem isDot_w (a b:Int) (h:(((a≥(0:Int))→(((a<(512:Int))→(((b≥(1:Int))→(decide (b≤(1048576:Int)))=(isDotB (a,b)))∧((¬b≥(1:Int))→(false)=(isDotB (a,b)))))∧((¬a<(512:Int))→(false)=(isDotB (a,b)))))∧((¬a≥(0:Int))→(false)=(isDotB (a,b))))):CallC P G 82 [dot (a,b)] [] (AOut.ret (Am.bool (isDotB (a,b)))) []:=by
 by_cases c1:(a≥(0:Int))
 · have h:=h.1 c1
   by_cases c2:(a<(512:Int))
   · have h:=h.1 c2
     by_cases c3:(b≥(1:Int))
     · have h:=h.1 c3
       have e1:=h
       exact callC_out (Sub.bool_eq e1) [kt (decide_eq_true c1),kt (decide_eq_true c2),kt (decide_eq_true c3)] (by kernel_rfl)
     · have h:=h.2 c3
       have e1:=h
       exact callC_out (Sub.bool_eq e1) [kt (decide_eq_true c1),kt (decide_eq_true c2),kf (decide_eq_false c3)] (by kernel_rfl)
   · have h:=h.2 c2
     have e1:=h
     exact callC_out (Sub.bool_eq e1) [kt (decide_eq_true c1),kf (decide_eq_false c2),kf (Eq.refl false)] (by kernel_rfl)
 · have h:=h.2 c1
   have e1:=h
   exact callC_out (Sub.bool_eq e1) [kf (decide_eq_false c1),kf (Eq.refl false),kf (Eq.refl false)] (by kernel_rfl)
theorem isDot_c (a b:Int):CallC P G 82 [dot (a,b)] [] (.ret (bool (isDotB (a,b)))) []:=isDot_w a b (by
 simp only [isDotB]; refine ⟨fun h=>⟨fun h=>⟨fun h=>?_,fun h=>?_⟩,fun h=>?_⟩,fun h=>?_⟩<;>simp [*])
def okAt (v:List D) (k:Nat):Bool:=match v[k]? with
 | some x=>isDotB x && (k == 0 || match v[k - 1]? with | some y=>decide (y.1<x.1) | none=>false)
 | none=>true
def okN (v:List D):Nat→Nat→Bool
 | 0,_=>true
 | n+1,k=>okAt v k && okN v n (k+1)
def okB (v:List D):Bool:=okN v v.length 0
def checkE (v:List D):Int:=if okB v=true then 0 else 120
def chkSt (v:List D) (k:Nat):St:={ env:=slots 31 [(0,vec v),(2,int 0),(5,vec v),(6,int v.length),(7,int k)],H:=[] }
theorem chk_w (v:List D) (k:Nat) (hv:v.length≤1000000000) (ex:AEx) (r:Int) (h:((((↑k:Int)<(↑(List.length v):Int))→(∃ x2:D,(v[k]? = some x2)∧((((isDotB (Prod.fst x2,Prod.snd x2))=true)→((((↑k:Int) > (0:Int))→(∃ x6:D,((0:Int)≤(↑k:Int) - 1∧v[Int.toNat ((↑k:Int) - 1)]? = some x6)∧(((Prod.fst x2≤Prod.fst x6)→(AEx.ret=ex)∧((120:Int)=(r)))∧((¬Prod.fst x2≤Prod.fst x6)→RunL P G none 0 (loopAt P 66 0) (St.mk (slots 31 [(0,AV.sl 2 false (encs v)),(2,int 0),(5,AV.sl 2 false (encs v)),(6,int (↑(List.length v):Int)),(7,int (↑(k+1):Int))]) [] []) ex (St.mk (slots 31 [(2,int r)]) [] [])))))∧((¬(↑k:Int) > (0:Int))→RunL P G none 0 (loopAt P 66 0) (St.mk (slots 31 [(0,AV.sl 2 false (encs v)),(2,int 0),(5,AV.sl 2 false (encs v)),(6,int (↑(List.length v):Int)),(7,int (↑(k+1):Int))]) [] []) ex (St.mk (slots 31 [(2,int r)]) [] []))))∧(((isDotB (Prod.fst x2,Prod.snd x2))=false)→(AEx.ret=ex)∧((120:Int)=(r))))))∧((¬(↑k:Int)<(↑(List.length v):Int))→(AEx.exit 0=ex)∧((0:Int)=(r))))):RunL P G none 0 (loopAt P 66 0) (chkSt v k) ex (St.mk (slots 31 [(2,int r)]) [] []):=by
 by_cases c1:((↑k:Int)<(↑(List.length v):Int))
 · have h:=h.1 c1
   obtain ⟨x2,o3,h⟩:=h
   have hz0:(0:Int)≤(↑k:Int)∧(encs v)[Int.toNat (↑k:Int)]? = some (enc x2):=(el_nat o3)
   have hz1:=(@Go.Vec.isDot_c (Prod.fst x2) (Prod.snd x2))
   rcases Bool.eq_false_or_eq_true ((isDotB (Prod.fst x2,Prod.snd x2))) with c4 | c4
   · have h:=h.1 c4
     have hz2:(!isDotB (Prod.fst x2,Prod.snd x2))=false:=(congrArg Bool.not (c4))
     by_cases c5:((↑k:Int) > (0:Int))
     · have h:=h.1 c5
       have hz3:Am.Sub (int (IntKind.wrap IntKind.i64 ((↑k:Int) - 1))) (int ((↑k:Int) - 1)):=(Sub.of_wrap (by omega) (by omega) rfl)
       obtain ⟨x6,o7,h⟩:=h
       have hz4:(0:Int)≤(↑k:Int) - 1∧(encs v)[Int.toNat ((↑k:Int) - 1)]? = some (enc x6):=(el_int o7)
       by_cases c8:(Prod.fst x2≤Prod.fst x6)
       · have h:=h.1 c8
         obtain ⟨eX,e1⟩:=h
         exact RunL.to ((show RunL P G none 0 (loopAt P 66 0) (chkSt v k) AEx.ret (St.mk (slots 31 [(2,int 120)]) [] []) from loop_exit [kt (decide_eq_true c1),ko (Orc.elem (enc x2)),kp hz0,kc [] hz1,kf hz2,kt (decide_eq_true c5),kv 23 hz3,ko (Orc.elem (enc x6)),kp hz4,kt (decide_eq_true c8)] (others 31 [2]) 0 (by kernel_rfl))) eX (SubS.slots ⟨rfl,(Sub.int_eq e1),trivial⟩)
       · have h:=h.2 c8
         exact loop_next [kt (decide_eq_true c1),ko (Orc.elem (enc x2)),kp hz0,kc [] hz1,kf hz2,kt (decide_eq_true c5),kv 23 hz3,ko (Orc.elem (enc x6)),kp hz4,kf (decide_eq_false c8),kv 30 (show Am.Sub (int (IntKind.wrap IntKind.i64 ((↑k:Int)+1))) (int (↑(k+1):Int)) from (Sub.of_wrap (by omega) (by omega) (by omega)))] (others 31 [0,2,5,6,7]) 0 h (by kernel_rfl)
     · have h:=h.2 c5
       exact loop_next [kt (decide_eq_true c1),ko (Orc.elem (enc x2)),kp hz0,kc [] hz1,kf hz2,kf (decide_eq_false c5),kf (Eq.refl false),kv 30 (show Am.Sub (int (IntKind.wrap IntKind.i64 ((↑k:Int)+1))) (int (↑(k+1):Int)) from (Sub.of_wrap (by omega) (by omega) (by omega)))] (others 31 [0,2,5,6,7]) 0 h (by kernel_rfl)
   · have h:=h.2 c4
     obtain ⟨eX,e1⟩:=h
     exact RunL.to ((show RunL P G none 0 (loopAt P 66 0) (chkSt v k) AEx.ret (St.mk (slots 31 [(2,int 120)]) [] []) from loop_exit [kt (decide_eq_true c1),ko (Orc.elem (enc x2)),kp hz0,kc [] hz1,kt (show (!isDotB (Prod.fst x2,Prod.snd x2))=true from (congrArg Bool.not (c4))),kt (Eq.refl true)] (others 31 [2]) 0 (by kernel_rfl))) eX (SubS.slots ⟨rfl,(Sub.int_eq e1),trivial⟩)
 · have h:=h.2 c1
   obtain ⟨eX,e1⟩:=h
   exact RunL.to ((show RunL P G none 0 (loopAt P 66 0) (chkSt v k) (AEx.exit 0) (St.mk (slots 31 [(2,int 0)]) [] []) from loop_exit [kf (decide_eq_false c1)] (others 31 [2]) 0 (by kernel_rfl))) eX (SubS.slots ⟨rfl,(Sub.int_eq e1),trivial⟩)
theorem chk_loop (v:List D) (hv:v.length≤1000000000):∀ n k,v.length - k=n→k≤v.length →
 RunL P G none 0 (loopAt P 66 0) (chkSt v k) (if okN v n k=true then .exit 0 else .ret) { env:=slots 31 [(2,int (if okN v n k=true then 0 else 120))],H:=[] }:=by
 intro n
 induction n with
 | zero=>intro k hn hk; exact chk_w v k hv _ _ ⟨fun h=>absurd h (by omega),fun _=>⟨rfl,rfl⟩⟩
 | succ n ih =>
  intro k hn hk
  have hlt:k<v.length:=by omega
  have hx:v[k]? = some v[k]:=List.getElem?_eq_getElem hlt
  have nx:∀ {b:Bool},okAt v k=true→okN v (n+1) k=okN v n (k+1):=fun h=>by simp [okN,h]
  have bad:okAt v k=false→okN v (n+1) k=false:=fun h=>by simp [okN,h]
  refine chk_w v k hv _ _ ⟨fun h=>⟨v[k],hx,⟨fun hq=>⟨fun h0=>?_,fun h0=>?_⟩,fun hq=>?_⟩⟩,fun h=>absurd hlt (by omega)⟩
  · have hy:v[k - 1]? = some (v[k - 1]'(by omega)):=List.getElem?_eq_getElem (by omega)
    refine ⟨v[k - 1]'(by omega),⟨by omega,by rw [show ((k:Int) - 1).toNat=k - 1 by omega]; exact hy⟩,⟨fun hl=>?_,fun hl=>?_⟩⟩
    · have hb:okAt v k=false:=by simp only [okAt,hx,hy]; simp; exact fun _=>⟨by omega,by omega⟩
      rw [bad hb]; exact ⟨rfl,rfl⟩
    · have hb:okAt v k=true:=by simp only [okAt,hx,hy,Bool.and_eq_true]; exact ⟨hq,by simp; exact .inr (by omega)⟩
      rw [nx (b:=true) hb]; exact ih (k+1) (by omega) (by omega)
  · have hb:okAt v k=true:=by simp only [okAt,hx,Bool.and_eq_true]; exact ⟨hq,by simp; exact .inl (by omega)⟩
    rw [nx (b:=true) hb]; exact ih (k+1) (by omega) (by omega)
  · have hb:okAt v k=false:=by simp only [okAt,hx]; simp [hq]
    rw [bad hb]; exact ⟨rfl,rfl⟩
theorem chk_c (v:List D) (hv:v.length≤1000000000):RunL P G none 0 (loopAt P 66 0) (chkSt v 0) (if okB v=true then .exit 0 else .ret) { env:=slots 31 [(2,int (if okB v=true then 0 else 120))],H:=[] } :=
 chk_loop v hv v.length 0 (by omega) (by omega)
theorem check_w (v:List D) (hv:v.length≤1000000000) (h:(((okB v=true)→(0:Int)=(checkE v))∧((¬okB v=true)→(120:Int)=(checkE v)))):CallC P G 66 [vec v] [] (AOut.ret (int (checkE v))) []:=by
 have hz0:Am.Sub (int (↑(List.length (encs v)):Int)) (int (↑(List.length v):Int)):=(Sub.of_eq (by simp only [Go.Vec.encs_length]))
 by_cases c1:(okB v=true)
 · have h:=h.1 c1
   have e1:=h
   exact callC_out (Sub.int_eq e1) [kv 6 hz0,kl [1,3,4,8,9,10,11,12,13,14,15,16,17,18,19,20,21,22,23,24,25,26,27,28,29,30] 0 (show RunL P G none 0 (loopAt P 66 0) (St.mk (slots 31 [(0,AV.sl 2 false (encs v)),(2,int 0),(5,AV.sl 2 false (encs v)),(6,int (↑(List.length v):Int)),(7,int 0)]) [] []) (AEx.exit 0) (St.mk (slots 31 [(2,int 0)]) [] []) from (by have h0:=(@Go.Vec.chk_c (v) (by omega)); simp only [if_pos c1] at h0; exact h0))] (by kernel_rfl)
 · have h:=h.2 c1
   have e1:=h
   exact callC_out (Sub.int_eq e1) [kv 6 hz0,kl [1,3,4,8,9,10,11,12,13,14,15,16,17,18,19,20,21,22,23,24,25,26,27,28,29,30] 0 (show RunL P G none 0 (loopAt P 66 0) (St.mk (slots 31 [(0,AV.sl 2 false (encs v)),(2,int 0),(5,AV.sl 2 false (encs v)),(6,int (↑(List.length v):Int)),(7,int 0)]) [] []) AEx.ret (St.mk (slots 31 [(2,int 120)]) [] []) from (by have h0:=(@Go.Vec.chk_c (v) (by omega)); simp only [if_neg c1] at h0; exact h0))] (by kernel_rfl)
theorem check_c (v:List D) (hv:v.length≤1000000000):CallC P G 66 [vec v] [] (.ret (int (checkE v))) []:=check_w v hv ⟨fun h=>by simp [checkE,h],fun h=>by simp [checkE,h]⟩
def atV (dev:Int):List D→Int
 | []=>0
 | d::t=>if d.1=dev then d.2 else atV dev t
def ixV (dev:Int):Int→List D→Int
 | _,[] => -1
 | k,d::t=>if d.1=dev then k else ixV dev (k+1) t
end Go.Vec


namespace Go.Tx
open Go Go.Am Go.Proofs Go.Seat
open Go.Sq (CE cel ces ida idv pid fX fiO)
theorem find_c (v:List CE) (a b c:Int) (hv:v.length≤1000000000):CallC P G 54 [ces v,ida a b c] [] (.ret (.tup [int (fiO (fX (pid a b c) v)).1,bool (fiO (fX (pid a b c) v)).2])) []:=lift (Sq.find_c v a b c hv)
def lessM (a b:MK):Bool:=if a.tm≠b.tm then decide (a.tm<b.tm) else if a.dv≠b.dv then decide (a.dv<b.dv) else decide (a.sq<b.sq)
def cmpV (x y:Int):Int:=if x<y then -1 else if x > y then 1 else 0
def orV:List Int→Int
 | []=>0
 | x::t=>if x=0 then orV t else x
def ordM (a b:MK):Int:=orV [cmpV a.tm b.tm,cmpV a.dv b.dv,cmpV a.sq b.sq]
theorem isnan_w (x:Int) (h:(x != x)=(false)):CallC P G 83 [int x] [] (AOut.ret (Am.bool false)) []:=by
 have e1:=h
 exact callC_out (Sub.bool_eq e1) [] (by kernel_rfl)
theorem ccmp_w (x y v:Int) (hx:CallC P G 83 [int x] [] (.ret (bool false)) []) (hy:CallC P G 83 [int y] [] (.ret (bool false)) []) (h:(((x<y)→(-1:Int)=(v))∧((¬x<y)→(((x > y)→(1:Int)=(v))∧((¬x > y)→(0:Int)=(v)))))):CallC P G 68 [int x,int y] [] (AOut.ret (int v)) []:=by
 have hz0:=(@hx )
 have hz1:=(@hy )
 by_cases c1:(x<y)
 · have h:=h.1 c1
   have e1:=h
   exact callC_out (Sub.int_eq e1) [kc [] hz0,kc [] hz1,kf (Eq.refl false),kf (Eq.refl false),kt (decide_eq_true c1)] (by kernel_rfl)
 · have h:=h.2 c1
   by_cases c2:(x > y)
   · have h:=h.1 c2
     have e1:=h
     exact callC_out (Sub.int_eq e1) [kc [] hz0,kc [] hz1,kf (Eq.refl false),kf (Eq.refl false),kf (decide_eq_false c1),kt (decide_eq_true c2)] (by kernel_rfl)
   · have h:=h.2 c2
     have e1:=h
     exact callC_out (Sub.int_eq e1) [kc [] hz0,kc [] hz1,kf (Eq.refl false),kf (Eq.refl false),kf (decide_eq_false c1),kf (decide_eq_false c2)] (by kernel_rfl)
theorem ccmp_c (x y:Int):CallC P G 68 [int x,int y] [] (.ret (int (cmpV x y))) []:=ccmp_w x y _ (isnan_w x (by simp)) (isnan_w y (by simp)) (by
 unfold cmpV
 grind)
def orSt (l:List Int) (k:Nat):St:={ env:=slots 18 [(2,int 0),(3,int 0),(6,.sl 1 true (Vec.ints l)),(7,int l.length),(8,int k)],H:=[] }
theorem or_w (l:List Int) (k:Nat) (hl:l.length≤1000000) (ex:AEx) (r:Int) (h:((((↑k:Int)<(↑(List.length l):Int))→(∃ x2:Int,(l[k]? = some x2)∧(((x2=(0:Int))→RunL P G none 0 (loopAt P 67 0) (St.mk (slots 18 [(2,int 0),(3,int 0),(6,AV.sl 1 true (Vec.ints l)),(7,int (↑(List.length l):Int)),(8,int (↑(k+1):Int))]) [] []) ex (St.mk (slots 18 [(2,int r),(3,int 0)]) [] []))∧((¬x2=(0:Int))→(AEx.ret=ex)∧((x2:Int)=(r))))))∧((¬(↑k:Int)<(↑(List.length l):Int))→(AEx.exit 0=ex)∧((0:Int)=(r))))):RunL P G none 0 (loopAt P 67 0) (orSt l k) ex (St.mk (slots 18 [(2,int r),(3,int 0)]) [] []):=by
 by_cases c1:((↑k:Int)<(↑(List.length l):Int))
 · have h:=h.1 c1
   obtain ⟨x2,o3,h⟩:=h
   have hz0:(0:Int)≤(↑k:Int)∧(Vec.ints l)[Int.toNat (↑k:Int)]? = some (Vec.enc1 x2):=(el_nat o3)
   by_cases c4:(x2=(0:Int))
   · have h:=h.1 c4
     exact loop_next [kt (decide_eq_true c1),ko (Orc.elem (Vec.enc1 x2)),kp hz0,kf (show (x2 != 0)=false from (congrArg Bool.not (beq_iff_eq.2 c4))),kv 16 (show Am.Sub (int (IntKind.wrap IntKind.i64 ((↑k:Int)+1))) (int (↑(k+1):Int)) from (Sub.of_wrap (by omega) (by omega) (by omega)))] (others 18 [2,3,6,7,8]) 0 h (by kernel_rfl)
   · have h:=h.2 c4
     obtain ⟨eX,e1⟩:=h
     exact RunL.to ((show RunL P G none 0 (loopAt P 67 0) (orSt l k) AEx.ret (St.mk (slots 18 [(2,int x2),(3,int 0)]) [] []) from loop_exit [kt (decide_eq_true c1),ko (Orc.elem (Vec.enc1 x2)),kp hz0,kt (show (x2 != 0)=true from (congrArg Bool.not (beq_eq_false_iff_ne.2 c4)))] (others 18 [2,3]) 0 (by kernel_rfl))) eX (SubS.slots ⟨rfl,(Sub.int_eq e1),rfl,Sub.refl _,trivial⟩)
 · have h:=h.2 c1
   obtain ⟨eX,e1⟩:=h
   exact RunL.to ((show RunL P G none 0 (loopAt P 67 0) (orSt l k) (AEx.exit 0) (St.mk (slots 18 [(2,int 0),(3,int 0)]) [] []) from loop_exit [kf (decide_eq_false c1)] (others 18 [2,3]) 0 (by kernel_rfl))) eX (SubS.slots ⟨rfl,(Sub.int_eq e1),rfl,Sub.refl _,trivial⟩)
theorem or_loop (l:List Int) (hl:l.length≤1000000):∀ (m k:Nat),l.length - k=m→k≤l.length→RunL P G none 0 (loopAt P 67 0) (orSt l k) (if orV (l.drop k)=0 then .exit 0 else .ret) { env:=slots 18 [(2,int (orV (l.drop k))),(3,int 0)],H:=[] }:=by
 intro m
 induction m with
 | zero =>
  intro k hm hk
  have e:l.drop k=[]:=List.drop_of_length_le (by omega)
  rw [e]
  exact or_w l k hl _ _ ⟨fun h=>absurd h (by omega),fun _=>⟨rfl,rfl⟩⟩
 | succ m ih =>
  intro k hm hk
  have hlt:k<l.length:=by omega
  have e:=List.drop_eq_getElem_cons hlt
  refine or_w l k hl _ _ ⟨fun _=>⟨l[k],List.getElem?_eq_getElem hlt,⟨fun h0=>?_,fun h0=>?_⟩⟩,fun h=>absurd hlt (by omega)⟩
  · have:orV (l.drop k)=orV (l.drop (k+1)):=by rw [e,orV,if_pos h0]
    rw [this]
    exact ih (k+1) (by omega) (by omega)
  · have:orV (l.drop k)=l[k]:=by rw [e,orV,if_neg h0]
    rw [this,if_neg h0]
    exact ⟨rfl,rfl⟩
theorem or_f (l:List Int) (r:Int) (hL:RunL P G none 0 (loopAt P 67 0) (orSt l 0) (if r=0 then .exit 0 else .ret) { env:=slots 18 [(2,int r),(3,int 0)],H:=[] }) (h:(((r=(0:Int))→(0:Int)=(r))∧((¬r=(0:Int))→True))):CallC P G 67 [AV.sl 1 true (Vec.ints l)] [] (AOut.ret (int r)) []:=by
 have hz0:Am.Sub (int (↑(List.length (Vec.ints l)):Int)) (int (↑(List.length l):Int)):=(Sub.of_eq (by simp only [Go.Vec.ints_length]))
 by_cases c1:(r=(0:Int))
 · have h:=h.1 c1
   have e1:=h
   exact callC_out (Sub.int_eq e1) [kv 7 hz0,kl [0,1,4,5,9,10,11,12,13,14,15,16,17] 0 (show RunL P G none 0 (loopAt P 67 0) (St.mk (slots 18 [(2,int 0),(3,int 0),(6,AV.sl 1 true (Vec.ints l)),(7,int (↑(List.length l):Int)),(8,int 0)]) [] []) (AEx.exit 0) (St.mk (slots 18 [(2,int r),(3,int 0)]) [] []) from (by have h0:=(@hL ); simp only [if_pos c1] at h0; exact h0))] (by kernel_rfl)
 · have h:=h.2 c1
   have _:=h
   exact callC_of [kv 7 hz0,kl [0,1,4,5,9,10,11,12,13,14,15,16,17] 0 (show RunL P G none 0 (loopAt P 67 0) (St.mk (slots 18 [(2,int 0),(3,int 0),(6,AV.sl 1 true (Vec.ints l)),(7,int (↑(List.length l):Int)),(8,int 0)]) [] []) AEx.ret (St.mk (slots 18 [(2,int r),(3,int 0)]) [] []) from (by have h0:=(@hL ); simp only [if_neg c1] at h0; exact h0))] (by kernel_rfl)
theorem or3_c (a b c:Int):CallC P G 67 [.sl 1 true [[int a],[int b],[int c]]] [] (.ret (int (orV [a,b,c]))) [] :=
 or_f [a,b,c] _ (by have:=or_loop [a,b,c] (by simp) 3 0 rfl (by simp); exact this) ⟨fun h=>h.symm,fun _=>trivial⟩
theorem order_w (a b:MK) (h:True):CallC P G 43 [mke a,mke b] [] (AOut.ret (int (ordM a b))) []:=by
 have _:=h
 exact callC_of [kc [] (@Go.Tx.ccmp_c (MK.tm a) (MK.tm b)),kc [] (@Go.Tx.ccmp_c (MK.dv a) (MK.dv b)),kc [] (@Go.Tx.ccmp_c (MK.sq a) (MK.sq b)),kc [] (@Go.Tx.or3_c (cmpV (MK.tm a) (MK.tm b)) (cmpV (MK.dv a) (MK.dv b)) (cmpV (MK.sq a) (MK.sq b)))] (by kernel_rfl)
theorem order_c (a b:MK):CallC P G 43 [mke a,mke b] [] (.ret (int (ordM a b))) []:=order_w a b trivial
theorem ordM_lt (a b:MK):ordM a b<0↔lessM a b=true:=by
 unfold ordM lessM
 simp only [orV,cmpV]
 grind
theorem ordM_ge (a b:MK):ordM a b≥0↔lessM a b=false:=by
 have:=ordM_lt a b
 cases h:lessM a b<;>simp [h] at this⊢<;> omega
def isMk (l:List CE) (m:MK):Bool:=(fX (pid m.fd m.fs m.fa) l).isSome && (fX (pid m.td m.ts m.ta) l).isSome && Vec.isDotB (m.dv,m.sq) && decide (m.tm≥1) && decide (m.tm≤1099511627776) && decide (m.st≥0) && decide (m.st<16)
theorem vck_one (a b:Int):Vec.checkE [(a,b)]=if Vec.isDotB (a,b)=true then 0 else 120:=by
 unfold Vec.checkE Vec.okB
 simp [Vec.okN,Vec.okAt]
theorem vck_c (a b:Int):CallC P G 66 [.sl 2 true [[int a,int b]]] [] (.ret (int (if Vec.isDotB (a,b)=true then 0 else 120))) []:=by
 have:=lift (Vec.check_c [(a,b)] (by simp))
 rw [vck_one] at this
 refine this.args rfl fun j hj=>?_
 have:j<1:=hj
 obtain rfl:j=0:=by omega
 exact Sub.loose 2 true _
theorem fiO_some (o:Option Nat):(fiO o).2=o.isSome:=by cases o<;>rfl
theorem ismk_w (l:List CE) (m:MK) (hv:l.length≤1000000000) (f t:Int) (fb tb:Bool) (e:Int) (hf:CallC P G 54 [ces l,ida m.fd m.fs m.fa] [] (.ret (.tup [int f,bool fb])) []) (ht:CallC P G 54 [ces l,ida m.td m.ts m.ta] [] (.ret (.tup [int t,bool tb])) []) (hd:CallC P G 66 [.sl 2 true [[int m.dv,int m.sq]]] [] (.ret (int e)) []) (r:Bool) (h:((((fb)=true)→((((tb)=true)→(((e=(0:Int))→(((MK.tm m≥(1:Int))→(((MK.tm m≤(1099511627776:Int))→(((MK.st m≥(0:Int))→(decide (MK.st m<(16:Int)))=(r))∧((¬MK.st m≥(0:Int))→(false)=(r))))∧((¬MK.tm m≤(1099511627776:Int))→(false)=(r))))∧((¬MK.tm m≥(1:Int))→(false)=(r))))∧((¬e=(0:Int))→(false)=(r))))∧(((tb)=false)→(false)=(r))))∧(((fb)=false)→(false)=(r)))):CallC P G 42 [ces l,mke m] [] (AOut.ret (Am.bool r)) []:=by
 have hz0:=(@hf )
 have hz1:=(@ht )
 have hz2:=(@hd )
 rcases Bool.eq_false_or_eq_true ((fb)) with c1 | c1
 · have h:=h.1 c1
   rcases Bool.eq_false_or_eq_true ((tb)) with c2 | c2
   · have h:=h.1 c2
     by_cases c3:(e=(0:Int))
     · have h:=h.1 c3
       by_cases c4:(MK.tm m≥(1:Int))
       · have h:=h.1 c4
         by_cases c5:(MK.tm m≤(1099511627776:Int))
         · have h:=h.1 c5
           by_cases c6:(MK.st m≥(0:Int))
           · have h:=h.1 c6
             have e1:=h
             exact callC_out (Sub.bool_eq e1) [kc [] hz0,kc [] hz1,kt c1,kt c2,kc [] hz2,kt (beq_iff_eq.2 c3),kt (decide_eq_true c4),kt (decide_eq_true c5),kt (decide_eq_true c6)] (by kernel_rfl)
           · have h:=h.2 c6
             have e1:=h
             exact callC_out (Sub.bool_eq e1) [kc [] hz0,kc [] hz1,kt c1,kt c2,kc [] hz2,kt (beq_iff_eq.2 c3),kt (decide_eq_true c4),kt (decide_eq_true c5),kf (decide_eq_false c6)] (by kernel_rfl)
         · have h:=h.2 c5
           have e1:=h
           exact callC_out (Sub.bool_eq e1) [kc [] hz0,kc [] hz1,kt c1,kt c2,kc [] hz2,kt (beq_iff_eq.2 c3),kt (decide_eq_true c4),kf (decide_eq_false c5),kf (Eq.refl false)] (by kernel_rfl)
       · have h:=h.2 c4
         have e1:=h
         exact callC_out (Sub.bool_eq e1) [kc [] hz0,kc [] hz1,kt c1,kt c2,kc [] hz2,kt (beq_iff_eq.2 c3),kf (decide_eq_false c4),kf (Eq.refl false),kf (Eq.refl false)] (by kernel_rfl)
     · have h:=h.2 c3
       have e1:=h
       exact callC_out (Sub.bool_eq e1) [kc [] hz0,kc [] hz1,kt c1,kt c2,kc [] hz2,kf (beq_eq_false_iff_ne.2 c3),kf (Eq.refl false),kf (Eq.refl false),kf (Eq.refl false)] (by kernel_rfl)
   · have h:=h.2 c2
     have e1:=h
     exact callC_out (Sub.bool_eq e1) [kc [] hz0,kc [] hz1,kt c1,kf c2,kf (Eq.refl false),kf (Eq.refl false),kf (Eq.refl false),kf (Eq.refl false)] (by kernel_rfl)
 · have h:=h.2 c1
   have e1:=h
   exact callC_out (Sub.bool_eq e1) [kc [] hz0,kc [] hz1,kf c1,kf (Eq.refl false),kf (Eq.refl false),kf (Eq.refl false),kf (Eq.refl false),kf (Eq.refl false)] (by kernel_rfl)
theorem ismk_c (l:List CE) (m:MK) (hv:l.length≤1000000000):CallC P G 42 [ces l,mke m] [] (.ret (bool (isMk l m))) []:=by
 refine ismk_w l m hv _ _ _ _ _ (find_c l m.fd m.fs m.fa hv) (find_c l m.td m.ts m.ta hv) (vck_c m.dv m.sq) _ ?_
 simp only [fiO_some,isMk]
 grind
def ixV:Option Nat→Int
 | some k=>(k:Int)
 | none => -1
def ixP (l:List CE) (i:Sq.ID):Int:=ixV (fX (pid i.1 i.2.1 i.2.2) l)
end Go.Tx


namespace Go.Sq
open Go Go.Am Go.Proofs Go.Seat
theorem ce_eq (a b:CE):((a.dv == b.dv && (a.sq == b.sq && (a.at' == b.at' && (a.ad == b.ad && (a.as' == b.as' && (a.aa == b.aa && (a.tm == b.tm && (a.vl == b.vl && a.gn == b.gn))))))))=true)↔a=b:=by
 rw [ba_beq]
 cases a; cases b
 simp [CE.mk.injEq]
def rsSt (a b:List CE) (k:Nat):St:={ env:=slots 26 [(0,ces a),(1,ces b),(4,bool false),(5,int k)],H:=[] }
theorem rs_w (a b:List CE) (k:Nat) (hl:a.length=b.length) (hv:b.length≤1000000000) (ex:AEx) (o:Bool) (h:((((↑k:Int)<(↑(List.length a):Int))→(∃ x2:CE,(a[k]? = some x2)∧(∃ x4:CE,(b[k]? = some x4)∧((((CE.dv x2 == CE.dv x4 && (CE.sq x2 == CE.sq x4 && (CE.at' x2 == CE.at' x4 && (CE.ad x2 == CE.ad x4 && (CE.as' x2 == CE.as' x4 && (CE.aa x2 == CE.aa x4 && (CE.tm x2 == CE.tm x4 && (CE.vl x2 == CE.vl x4 && CE.gn x2 == CE.gn x4))))))))=true)→RunL P G none 0 (loopAt P 70 0) (St.mk (slots 26 [(0,AV.sl 9 false (encs a)),(1,AV.sl 9 false (encs b)),(4,Am.bool false),(5,int (↑(k+1):Int))]) [] []) ex (St.mk (slots 26 [(4,Am.bool o)]) [] []))∧(((CE.dv x2 == CE.dv x4 && (CE.sq x2 == CE.sq x4 && (CE.at' x2 == CE.at' x4 && (CE.ad x2 == CE.ad x4 && (CE.as' x2 == CE.as' x4 && (CE.aa x2 == CE.aa x4 && (CE.tm x2 == CE.tm x4 && (CE.vl x2 == CE.vl x4 && CE.gn x2 == CE.gn x4))))))))=false)→(AEx.ret=ex)∧((false)=(o)))))))∧((¬(↑k:Int)<(↑(List.length a):Int))→(AEx.exit 0=ex)∧((false)=(o))))):RunL P G none 0 (loopAt P 70 0) (rsSt a b k) ex (St.mk (slots 26 [(4,Am.bool o)]) [] []):=by
 have hz0:Am.Sub (int (↑(List.length (encs a)):Int)) (int (↑(List.length a):Int)):=(Sub.of_eq (by simp only [Go.Sq.encs_length]))
 by_cases c1:((↑k:Int)<(↑(List.length a):Int))
 · have h:=h.1 c1
   obtain ⟨x2,o3,h⟩:=h
   have hz1:(0:Int)≤(↑k:Int)∧(encs a)[Int.toNat (↑k:Int)]? = some (enc x2):=(el_nat o3)
   obtain ⟨x4,o5,h⟩:=h
   have hz2:(0:Int)≤(↑k:Int)∧(encs b)[Int.toNat (↑k:Int)]? = some (enc x4):=(el_nat o5)
   rcases Bool.eq_false_or_eq_true ((CE.dv x2 == CE.dv x4 && (CE.sq x2 == CE.sq x4 && (CE.at' x2 == CE.at' x4 && (CE.ad x2 == CE.ad x4 && (CE.as' x2 == CE.as' x4 && (CE.aa x2 == CE.aa x4 && (CE.tm x2 == CE.tm x4 && (CE.vl x2 == CE.vl x4 && CE.gn x2 == CE.gn x4))))))))) with c6 | c6
   · have h:=h.1 c6
     exact loop_next [kv 13 hz0,kt (decide_eq_true c1),ko (Orc.elem (enc x2)),ko (Orc.elem (enc x4)),kp hz1,kp hz2,kf (show (!(CE.dv x2 == CE.dv x4 && (CE.sq x2 == CE.sq x4 && (CE.at' x2 == CE.at' x4 && (CE.ad x2 == CE.ad x4 && (CE.as' x2 == CE.as' x4 && (CE.aa x2 == CE.aa x4 && (CE.tm x2 == CE.tm x4 && (CE.vl x2 == CE.vl x4 && CE.gn x2 == CE.gn x4)))))))))=false from (congrArg Bool.not (c6))),kv 16 (show Am.Sub (int (IntKind.wrap IntKind.i64 ((↑k:Int)+1))) (int (↑(k+1):Int)) from (Sub.of_wrap (by omega) (by omega) (by omega)))] (others 26 [0,1,4,5]) 0 h (by kernel_rfl)
   · have h:=h.2 c6
     obtain ⟨eX,e1⟩:=h
     exact RunL.to ((show RunL P G none 0 (loopAt P 70 0) (rsSt a b k) AEx.ret (St.mk (slots 26 [(4,Am.bool false)]) [] []) from loop_exit [kv 13 hz0,kt (decide_eq_true c1),ko (Orc.elem (enc x2)),ko (Orc.elem (enc x4)),kp hz1,kp hz2,kt (show (!(CE.dv x2 == CE.dv x4 && (CE.sq x2 == CE.sq x4 && (CE.at' x2 == CE.at' x4 && (CE.ad x2 == CE.ad x4 && (CE.as' x2 == CE.as' x4 && (CE.aa x2 == CE.aa x4 && (CE.tm x2 == CE.tm x4 && (CE.vl x2 == CE.vl x4 && CE.gn x2 == CE.gn x4)))))))))=true from (congrArg Bool.not (c6)))] (others 26 [4]) 0 (by kernel_rfl))) eX (SubS.slots ⟨rfl,(Sub.bool_eq e1),trivial⟩)
 · have h:=h.2 c1
   obtain ⟨eX,e1⟩:=h
   exact RunL.to ((show RunL P G none 0 (loopAt P 70 0) (rsSt a b k) (AEx.exit 0) (St.mk (slots 26 [(4,Am.bool false)]) [] []) from loop_exit [kv 13 hz0,kf (decide_eq_false c1)] (others 26 [4]) 0 (by kernel_rfl))) eX (SubS.slots ⟨rfl,(Sub.bool_eq e1),trivial⟩)
def eqSt (a b:List CE) (k:Nat):St:={ env:=slots 26 [(0,ces a),(1,ces b),(4,bool false),(11,ces a),(12,int a.length),(13,int k)],H:=[] }
theorem eq_w (a b:List CE) (k:Nat) (hl:a.length=b.length) (hv:b.length≤1000000000) (ex:AEx) (o:Bool) (h:((((↑k:Int)<(↑(List.length a):Int))→(∃ x2:CE,(a[k]? = some x2)∧(∃ x4:CE,(b[k]? = some x4)∧((((CE.dv x2 == CE.dv x4 && (CE.sq x2 == CE.sq x4 && (CE.at' x2 == CE.at' x4 && (CE.ad x2 == CE.ad x4 && (CE.as' x2 == CE.as' x4 && (CE.aa x2 == CE.aa x4 && (CE.tm x2 == CE.tm x4 && (CE.vl x2 == CE.vl x4 && CE.gn x2 == CE.gn x4))))))))=true)→RunL P G none 0 (loopAt P 64 0) (St.mk (slots 26 [(0,AV.sl 9 false (encs a)),(1,AV.sl 9 false (encs b)),(4,Am.bool false),(11,AV.sl 9 false (encs a)),(12,int (↑(List.length a):Int)),(13,int (↑(k+1):Int))]) [] []) ex (St.mk (slots 26 [(4,Am.bool o)]) [] []))∧(((CE.dv x2 == CE.dv x4 && (CE.sq x2 == CE.sq x4 && (CE.at' x2 == CE.at' x4 && (CE.ad x2 == CE.ad x4 && (CE.as' x2 == CE.as' x4 && (CE.aa x2 == CE.aa x4 && (CE.tm x2 == CE.tm x4 && (CE.vl x2 == CE.vl x4 && CE.gn x2 == CE.gn x4))))))))=false)→(AEx.ret=ex)∧((false)=(o)))))))∧((¬(↑k:Int)<(↑(List.length a):Int))→(AEx.exit 0=ex)∧((false)=(o))))):RunL P G none 0 (loopAt P 64 0) (eqSt a b k) ex (St.mk (slots 26 [(4,Am.bool o)]) [] []):=by
 by_cases c1:((↑k:Int)<(↑(List.length a):Int))
 · have h:=h.1 c1
   obtain ⟨x2,o3,h⟩:=h
   have hz0:(0:Int)≤(↑k:Int)∧(encs a)[Int.toNat (↑k:Int)]? = some (enc x2):=(el_nat o3)
   obtain ⟨x4,o5,h⟩:=h
   have hz1:(0:Int)≤(↑k:Int)∧(encs b)[Int.toNat (↑k:Int)]? = some (enc x4):=(el_nat o5)
   rcases Bool.eq_false_or_eq_true ((CE.dv x2 == CE.dv x4 && (CE.sq x2 == CE.sq x4 && (CE.at' x2 == CE.at' x4 && (CE.ad x2 == CE.ad x4 && (CE.as' x2 == CE.as' x4 && (CE.aa x2 == CE.aa x4 && (CE.tm x2 == CE.tm x4 && (CE.vl x2 == CE.vl x4 && CE.gn x2 == CE.gn x4))))))))) with c6 | c6
   · have h:=h.1 c6
     exact loop_next [kt (decide_eq_true c1),ko (Orc.elem (enc x2)),ko (Orc.elem (enc x4)),kp hz0,kp hz1,kf (show (!(CE.dv x2 == CE.dv x4 && (CE.sq x2 == CE.sq x4 && (CE.at' x2 == CE.at' x4 && (CE.ad x2 == CE.ad x4 && (CE.as' x2 == CE.as' x4 && (CE.aa x2 == CE.aa x4 && (CE.tm x2 == CE.tm x4 && (CE.vl x2 == CE.vl x4 && CE.gn x2 == CE.gn x4)))))))))=false from (congrArg Bool.not (c6))),kv 25 (show Am.Sub (int (IntKind.wrap IntKind.i64 ((↑k:Int)+1))) (int (↑(k+1):Int)) from (Sub.of_wrap (by omega) (by omega) (by omega)))] (others 26 [0,1,4,11,12,13]) 0 h (by kernel_rfl)
   · have h:=h.2 c6
     obtain ⟨eX,e1⟩:=h
     exact RunL.to ((show RunL P G none 0 (loopAt P 64 0) (eqSt a b k) AEx.ret (St.mk (slots 26 [(4,Am.bool false)]) [] []) from loop_exit [kt (decide_eq_true c1),ko (Orc.elem (enc x2)),ko (Orc.elem (enc x4)),kp hz0,kp hz1,kt (show (!(CE.dv x2 == CE.dv x4 && (CE.sq x2 == CE.sq x4 && (CE.at' x2 == CE.at' x4 && (CE.ad x2 == CE.ad x4 && (CE.as' x2 == CE.as' x4 && (CE.aa x2 == CE.aa x4 && (CE.tm x2 == CE.tm x4 && (CE.vl x2 == CE.vl x4 && CE.gn x2 == CE.gn x4)))))))))=true from (congrArg Bool.not (c6)))] (others 26 [4]) 0 (by kernel_rfl))) eX (SubS.slots ⟨rfl,(Sub.bool_eq e1),trivial⟩)
 · have h:=h.2 c1
   obtain ⟨eX,e1⟩:=h
   exact RunL.to ((show RunL P G none 0 (loopAt P 64 0) (eqSt a b k) (AEx.exit 0) (St.mk (slots 26 [(4,Am.bool false)]) [] []) from loop_exit [kf (decide_eq_false c1)] (others 26 [4]) 0 (by kernel_rfl))) eX (SubS.slots ⟨rfl,(Sub.bool_eq e1),trivial⟩)
def eqN {α:Type} [DecidableEq α] (a b:List α):Nat→Nat→Bool
 | 0,_=>true
 | n+1,k=>match a[k]?,b[k]? with
  | some x,some y=>decide (x=y) && eqN a b n (k+1)
  | _,_=>true
theorem eqN_iff {α:Type} [DecidableEq α] {a b:List α} (hl:a.length=b.length):∀ n k,a.length - k=n→k≤a.length→(eqN a b n k=true↔a.drop k=b.drop k)
 | 0,k,hn,hk=>by
  have h1:a.drop k=[]:=List.drop_eq_nil_of_le (by omega)
  have h2:b.drop k=[]:=List.drop_eq_nil_of_le (by omega)
  simp [eqN,h1,h2]
 | n+1,k,hn,hk=>by
  have ha:k<a.length:=by omega
  have hb:k<b.length:=by omega
  rw [eqN,List.getElem?_eq_getElem ha,List.getElem?_eq_getElem hb,List.drop_eq_getElem_cons ha,List.drop_eq_getElem_cons hb]
  simp only [Bool.and_eq_true,decide_eq_true_eq,List.cons.injEq,eqN_iff hl n (k+1) (by omega) (by omega)]
theorem eqN_all {α:Type} [DecidableEq α] {a b:List α} (hl:a.length=b.length):eqN a b a.length 0=decide (a=b):=by
 rw [Bool.eq_iff_iff,eqN_iff hl a.length 0 (by omega) (by omega)]; simp
theorem eqN_step {α:Type} [DecidableEq α] {a b:List α} {n k:Nat} {x y:α} (ha:a[k]? = some x) (hb:b[k]? = some y):eqN a b (n+1) k=(decide (x=y) && eqN a b n (k+1)):=by rw [eqN,ha,hb]
theorem rs_loop (a b:List CE) (hl:a.length=b.length) (hv:b.length≤1000000000):∀ n k,a.length - k=n→k≤a.length→RunL P G none 0 (loopAt P 70 0) (rsSt a b k) (if eqN a b n k=true then .exit 0 else .ret) { env:=slots 26 [(4,bool false)],H:=[] }:=by
 intro n
 induction n with
 | zero=>intro k hn hk; exact rs_w a b k hl hv _ _ ⟨fun h=>absurd h (by omega),fun _=>⟨rfl,rfl⟩⟩
 | succ n ih =>
  intro k hn hk
  have hlt:k<a.length:=by omega
  have hx:a[k]? = some a[k]:=List.getElem?_eq_getElem hlt
  have hy:b[k]? = some (b[k]'(by omega)):=List.getElem?_eq_getElem (by omega)
  refine rs_w a b k hl hv _ _ ⟨fun h=>⟨a[k],hx,b[k]'(by omega),hy,⟨fun hq=>?_,fun hq=>?_⟩⟩,fun h=>absurd hlt (by omega)⟩
  · rw [eqN_step hx hy,decide_eq_true ((ce_eq _ _).1 hq),Bool.true_and]; exact ih (k+1) (by omega) (by omega)
  · rw [eqN_step hx hy,decide_eq_false (fun e=>by rw [(ce_eq _ _).2 e] at hq; cases hq)]; exact ⟨rfl,rfl⟩
theorem rs_run (a b:List CE) (hl:a.length=b.length) (hv:b.length≤1000000000):RunL P G none 0 (loopAt P 70 0) (rsSt a b 0) (if a=b then .exit 0 else .ret) { env:=slots 26 [(4,bool false)],H:=[] }:=by
 have:=rs_loop a b hl hv a.length 0 (by omega) (by omega)
 rw [eqN_all hl] at this
 simpa using this
theorem eq_loop (a b:List CE) (hl:a.length=b.length) (hv:b.length≤1000000000):∀ n k,a.length - k=n→k≤a.length→RunL P G none 0 (loopAt P 64 0) (eqSt a b k) (if eqN a b n k=true then .exit 0 else .ret) { env:=slots 26 [(4,bool false)],H:=[] }:=by
 intro n
 induction n with
 | zero=>intro k hn hk; exact eq_w a b k hl hv _ _ ⟨fun h=>absurd h (by omega),fun _=>⟨rfl,rfl⟩⟩
 | succ n ih =>
  intro k hn hk
  have hlt:k<a.length:=by omega
  have hx:a[k]? = some a[k]:=List.getElem?_eq_getElem hlt
  have hy:b[k]? = some (b[k]'(by omega)):=List.getElem?_eq_getElem (by omega)
  refine eq_w a b k hl hv _ _ ⟨fun h=>⟨a[k],hx,b[k]'(by omega),hy,⟨fun hq=>?_,fun hq=>?_⟩⟩,fun h=>absurd hlt (by omega)⟩
  · rw [eqN_step hx hy,decide_eq_true ((ce_eq _ _).1 hq),Bool.true_and]; exact ih (k+1) (by omega) (by omega)
  · rw [eqN_step hx hy,decide_eq_false (fun e=>by rw [(ce_eq _ _).2 e] at hq; cases hq)]; exact ⟨rfl,rfl⟩
theorem eq_run (a b:List CE) (hl:a.length=b.length) (hv:b.length≤1000000000):RunL P G none 0 (loopAt P 64 0) (eqSt a b 0) (if a=b then .exit 0 else .ret) { env:=slots 26 [(4,bool false)],H:=[] }:=by
 have:=eq_loop a b hl hv a.length 0 (by omega) (by omega)
 rw [eqN_all hl] at this
 simpa using this
theorem rsame_w (a b:List CE) (hv:b.length≤1000000000) (o:Bool) (h:((((↑(List.length a):Int)=(↑(List.length b):Int))→(((a=b)→(true)=(o))∧((¬a=b)→(false)=(o))))∧((¬(↑(List.length a):Int)=(↑(List.length b):Int))→(false)=(o)))):CallC P G 70 [ces a,ces b] [] (AOut.ret (Am.bool o)) []:=by
 have hz0:Am.Sub (int (↑(List.length (encs a)):Int)) (int (↑(List.length a):Int)):=(Sub.of_eq (by simp only [Go.Sq.encs_length]))
 have hz1:Am.Sub (int (↑(List.length (encs b)):Int)) (int (↑(List.length b):Int)):=(Sub.of_eq (by simp only [Go.Sq.encs_length]))
 by_cases c1:((↑(List.length a):Int)=(↑(List.length b):Int))
 · have h:=h.1 c1
   have hz2:((↑(List.length a):Int) != (↑(List.length b):Int))=false:=(congrArg Bool.not (beq_iff_eq.2 c1))
   by_cases c2:(a=b)
   · have h:=h.1 c2
     have e1:=h
     exact callC_out (Sub.bool_eq e1) [kv 7 hz0,kv 9 hz1,kf hz2,kl [2,3,6,7,8,9,10,11,12,13,14,15,16,17,18,19,20,21,22,23,24,25] 0 (show RunL P G none 0 (loopAt P 70 0) (St.mk (slots 26 [(0,AV.sl 9 false (encs a)),(1,AV.sl 9 false (encs b)),(4,Am.bool false),(5,int 0)]) [] []) (AEx.exit 0) (St.mk (slots 26 [(4,Am.bool false)]) [] []) from (by have h0:=(@Go.Sq.rs_run (a) (b) (by omega) (by omega)); simp only [if_pos c2] at h0; exact h0))] (by kernel_rfl)
   · have h:=h.2 c2
     have e1:=h
     exact callC_out (Sub.bool_eq e1) [kv 7 hz0,kv 9 hz1,kf hz2,kl [2,3,6,7,8,9,10,11,12,13,14,15,16,17,18,19,20,21,22,23,24,25] 0 (show RunL P G none 0 (loopAt P 70 0) (St.mk (slots 26 [(0,AV.sl 9 false (encs a)),(1,AV.sl 9 false (encs b)),(4,Am.bool false),(5,int 0)]) [] []) AEx.ret (St.mk (slots 26 [(4,Am.bool false)]) [] []) from (by have h0:=(@Go.Sq.rs_run (a) (b) (by omega) (by omega)); simp only [if_neg c2] at h0; exact h0))] (by kernel_rfl)
 · have h:=h.2 c1
   have e1:=h
   exact callC_out (Sub.bool_eq e1) [kv 7 hz0,kv 9 hz1,kt (show ((↑(List.length a):Int) != (↑(List.length b):Int))=true from (congrArg Bool.not (beq_eq_false_iff_ne.2 c1)))] (by kernel_rfl)
theorem rsame_c (a b:List CE) (ha:a.length≤1000000000) (hv:b.length≤1000000000):CallC P G 70 [ces a,ces b] [] (.ret (bool (decide (a=b)))) []:=rsame_w a b hv _ (by
 by_cases h:a=b
 · subst h; simp
 · simp [h]
 )
theorem cl_w (v:List CE) (hne:encs v≠[]) (hv:v.length≤1000000) (h:(((encs v=[])→([])=(encs v))∧((¬encs v=[])→True))):CallC P G 53 [ces v] [] (AOut.ret (ces v)) []:=by
 have hz0:encs v≠[]:=(by omega)
 by_cases c1:(encs v=[])
 · have h:=h.1 c1
   have e1:=h
   exact CallC.out ((show CallC P G 53 [ces v] [] (AOut.ret (AV.sl 9 true [])) [] from callC_of [kp hz0,kf (Eq.refl false),ko (Orc.emp),kp c1] (by kernel_rfl))) (Sub.list_eq e1)
 · have h:=h.2 c1
   have _:=h
   exact callC_of [kp hz0,kf (Eq.refl false),kv 7 (show Am.Sub (AV.own 0 0 0 (0+List.length (encs v))) (AV.own 0 0 0 (List.length v)) from (Sub.of_eq (by simp [Go.Sq.encs_length,Go.Sq.encs_all,Go.Sq.encs_pure,Go.Sq.encs_ids]))),ko (Orc.frz (encs v)),kp c1,kp (show (0+List.length (encs v)) * 80≤140737488355328 from (by simp only [List.length_append,List.length_cons,List.length_nil,List.length_map,Go.Sq.encs_length,Go.Sq.encs_all,Go.Sq.encs_pure,Go.Sq.encs_ids]<;>omega)),kp (show 0=0 from (rfl)),kp (show List.take (List.length v) (List.drop 0 (encs v))=encs v from (Go.Sq.encs_all _)),kp (show List.length (encs v)=List.length v from (Go.Sq.encs_length _)),kp (show ∀ (c:List AV),c∈encs v→List.all c AV.pureB=true from (Go.Sq.encs_pure _))] (by kernel_rfl)
end Go.Sq


namespace Go.Sq
open Go Go.Am Go.Proofs Go.Seat
theorem eql_w (a b:List CE) (ha:a.length≤1000000000) (hv:b.length≤1000000000) (o:Bool) (h:((((↑(List.length a):Int)=(↑(List.length b):Int))→(((a=b)→(true)=(o))∧((¬a=b)→(false)=(o))))∧((¬(↑(List.length a):Int)=(↑(List.length b):Int))→(false)=(o)))):CallC P G 64 [ces a,ces b] [] (AOut.ret (Am.bool o)) []:=by
 have hz0:Am.Sub (int (↑(List.length (encs a)):Int)) (int (↑(List.length a):Int)):=(Sub.of_eq (by simp only [Go.Sq.encs_length]))
 have hz1:Am.Sub (int (↑(List.length (encs b)):Int)) (int (↑(List.length b):Int)):=(Sub.of_eq (by simp only [Go.Sq.encs_length]))
 by_cases c1:((↑(List.length a):Int)=(↑(List.length b):Int))
 · have h:=h.1 c1
   have hz2:((↑(List.length a):Int) != (↑(List.length b):Int))=false:=(congrArg Bool.not (beq_iff_eq.2 c1))
   by_cases c2:(a=b)
   · have h:=h.1 c2
     have e1:=h
     exact callC_out (Sub.bool_eq e1) [kv 7 hz0,kv 9 hz1,kf hz2,kv 12 hz0,kl [2,3,5,6,7,8,9,10,14,15,16,17,18,19,20,21,22,23,24,25] 0 (show RunL P G none 0 (loopAt P 64 0) (St.mk (slots 26 [(0,AV.sl 9 false (encs a)),(1,AV.sl 9 false (encs b)),(4,Am.bool false),(11,AV.sl 9 false (encs a)),(12,int (↑(List.length a):Int)),(13,int 0)]) [] []) (AEx.exit 0) (St.mk (slots 26 [(4,Am.bool false)]) [] []) from (by have h0:=(@Go.Sq.eq_run (a) (b) (by omega) (by omega)); simp only [if_pos c2] at h0; exact h0))] (by kernel_rfl)
   · have h:=h.2 c2
     have e1:=h
     exact callC_out (Sub.bool_eq e1) [kv 7 hz0,kv 9 hz1,kf hz2,kv 12 hz0,kl [2,3,5,6,7,8,9,10,14,15,16,17,18,19,20,21,22,23,24,25] 0 (show RunL P G none 0 (loopAt P 64 0) (St.mk (slots 26 [(0,AV.sl 9 false (encs a)),(1,AV.sl 9 false (encs b)),(4,Am.bool false),(11,AV.sl 9 false (encs a)),(12,int (↑(List.length a):Int)),(13,int 0)]) [] []) AEx.ret (St.mk (slots 26 [(4,Am.bool false)]) [] []) from (by have h0:=(@Go.Sq.eq_run (a) (b) (by omega) (by omega)); simp only [if_neg c2] at h0; exact h0))] (by kernel_rfl)
 · have h:=h.2 c1
   have e1:=h
   exact callC_out (Sub.bool_eq e1) [kv 7 hz0,kv 9 hz1,kt (show ((↑(List.length a):Int) != (↑(List.length b):Int))=true from (congrArg Bool.not (beq_eq_false_iff_ne.2 c1)))] (by kernel_rfl)
theorem eql_c (a b:List CE) (ha:a.length≤1000000000) (hv:b.length≤1000000000):CallC P G 64 [ces a,ces b] [] (.ret (bool (decide (a=b)))) []:=eql_w a b ha hv _ (by
 by_cases h:a=b
 · subst h; simp
 · simp [h])
end Go.Sq


namespace Go.Sq
open Go Go.Am Go.Proofs Go.Seat
theorem cl0_c (cap:Nat):CallC P G 53 [.lit (.slice none 0 cap)] [] (.ret (ces [])) [] :=
 CallC.out (show CallC P G 53 [.lit (.slice none 0 cap)] [] (.ret nilS) [] from callC_of [kt (Eq.refl true)] (by kernel_rfl)) (Sub.nil 9)
theorem cl1_c (a:Addr) (cap:Nat):CallC P G 53 [.lit (.slice (some a) 0 cap)] [] (.ret (ces [])) [] :=
 CallC.out (show CallC P G 53 [.lit (.slice (some a) 0 cap)] [] (.ret (.sl 9 true [])) [] from callC_of [kf (Eq.refl false),ko .emp,kp (rfl:([]:List (List AV))=[])] (by kernel_rfl)) (Sub.loose 9 true [])
theorem clone_c (v:List CE) (hv:v.length≤1000000):CallC P G 53 [ces v] [] (.ret (ces v)) []:=by
 cases v with
 | nil=>exact CallC.slEmpty cl0_c cl1_c
 | cons c v=>exact cl_w (c::v) (by simp [encs]) hv ⟨fun h=>by simp [encs] at h,fun _=>trivial⟩
def rootN (l:List CE):Nat→CE→Bool
 | 0,_=>false
 | n+1,c=>if (c.ad == 0 && (c.as' == 0 && c.aa == 0))=true then true else match fX (pid c.ad c.as' c.aa) l with
  | some j=>match l[j]? with
   | some y=>rootN l n y
   | none=>false
  | none=>false
def rootB (l:List CE) (c:CE):Bool:=rootN l (l.length+1) c
theorem fI_get {p:CE→Bool} {v:List CE}:∀ {n k j:Nat},fI p v n k=some j→∃ y,v[j]? = some y∧p y=true
 | 0,_,_,h=>by cases h
 | n+1,k,j,h=>by
  rw [fI] at h
  split at h
  · rename_i c hc
    split at h
    · rename_i hp; cases h; exact ⟨c,hc,hp⟩
    · exact fI_get h
  · cases h
theorem fX_get {p:CE→Bool} {v:List CE} {j:Nat} (h:fX p v=some j):∃ y,v[j]? = some y∧p y=true:=fI_get h
end Go.Sq
