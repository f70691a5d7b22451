import Derived.Test.YteaclamkacmhmaaDoorG12
import Derived.KernelRfl
import Derived.DeepKeys4
import Derived.Maps.Keyed
set_option maxRecDepth 100000
set_option linter.unusedSimpArgs false
set_option linter.unusedVariables false

namespace Go.Tx
open Go Go.Am Go.Proofs Go.Seat
open Go.Sq (CE cel ces ida idv pid fX fiO)
def InR (a:Int):Prop := -9223372036854775808≤a∧a<9223372036854775808
structure OkM (m:MK):Prop where
 dv:InR m.dv
 sq:InR m.sq
 tm:InR m.tm
 fd:InR m.fd
 fs:InR m.fs
 fa:InR m.fa
 td:InR m.td
 ts:InR m.ts
 ta:InR m.ta
 st:InR m.st
def OkMs (v:List MK):Prop:=∀ m∈v,OkM m
def okAt (l:List CE) (v:List MK) (k:Nat):Bool:=match v[k]? with
 | some x=>isMk l x && ((k == 0 || match v[k - 1]? with | some p=>lessM p x | none=>false) && !((v.take k).any fun c=>decide (c.dot=x.dot)))
 | none=>true
def okN (l:List CE) (v:List MK):Nat→Nat→Bool
 | 0,_=>true
 | n+1,k=>okAt l v k && okN l v n (k+1)
def okB (l:List CE) (v:List MK):Bool:=okN l v v.length 0
def oneB (c:CE):Bool:=decide (c.vl.size=1)
theorem c1_w (c:CE) (r:Bool) (h:((↑(ByteArray.size (CE.vl c)):Int) != 1)=(r)):CallC P G 41 [cel c] [] (AOut.ret (Am.bool r)) []:=by
 have e1:=h
 exact callC_out (Sub.bool_eq e1) [] (by kernel_rfl)
theorem c1_c (c:CE):CallC P G 41 [cel c] [] (.ret (bool (!oneB c))) []:=c1_w c _ (by
 unfold oneB
 grind)
def ciSt (v:List CE) (k:Nat):St:={ env:=slots 19 [(0,ces v),(1,.lit (.func (.func 41) #[] #[])),(4,int 0),(6,ces v),(7,int v.length),(8,int k)],H:=[] }
theorem ci_w (v:List CE) (k:Nat) (hv:v.length≤1000000000) (ex:AEx) (r:Int) (h:((((↑k:Int)<(↑(List.length v):Int))→(∃ x2:CE,(v[k]? = some x2)∧((((oneB x2)=true)→RunL P G none 0 (loopAt P 65 0) (St.mk (slots 19 [(0,AV.sl 9 false (Sq.encs v)),(1,AV.lit (Value.func (Fn.func 41) (Array.mk []) (Array.mk []))),(4,int 0),(6,AV.sl 9 false (Sq.encs v)),(7,int (↑(List.length v):Int)),(8,int (↑(k+1):Int))]) [] []) ex (St.mk (slots 19 [(4,int r)]) [] []))∧(((oneB x2)=false)→(AEx.ret=ex)∧(((↑k:Int):Int)=(r))))))∧((¬(↑k:Int)<(↑(List.length v):Int))→(AEx.exit 0=ex)∧((0:Int)=(r))))):RunL P G none 0 (loopAt P 65 0) (ciSt v k) ex (St.mk (slots 19 [(4,int r)]) [] []):=by
 by_cases c1:((↑k:Int)<(↑(List.length v):Int))
 · have h:=h.1 c1
   obtain ⟨x2,o3,h⟩:=h
   have hz0:(0:Int)≤(↑k:Int)∧(Sq.encs v)[Int.toNat (↑k:Int)]? = some (Sq.enc x2):=(el_nat o3)
   have hz1:=(@Go.Tx.c1_c (x2))
   rcases Bool.eq_false_or_eq_true ((oneB x2)) with c4 | c4
   · have h:=h.1 c4
     exact loop_next [kt (decide_eq_true c1),ko (Orc.elem (Sq.enc x2)),kp hz0,kc [] hz1,kf (show (!oneB x2)=false from (congrArg Bool.not (c4))),kv 18 (show Am.Sub (int (IntKind.wrap IntKind.i64 ((↑k:Int)+1))) (int (↑(k+1):Int)) from (Sub.of_wrap (by omega) (by omega) (by omega)))] (others 19 [0,1,4,6,7,8]) 0 h (by kernel_rfl)
   · have h:=h.2 c4
     obtain ⟨eX,e1⟩:=h
     exact RunL.to ((show RunL P G none 0 (loopAt P 65 0) (ciSt v k) AEx.ret (St.mk (slots 19 [(4,int (↑k:Int))]) [] []) from loop_exit [kt (decide_eq_true c1),ko (Orc.elem (Sq.enc x2)),kp hz0,kc [] hz1,kt (show (!oneB x2)=true from (congrArg Bool.not (c4)))] (others 19 [4]) 0 (by kernel_rfl))) eX (SubS.slots ⟨rfl,(Sub.int_eq e1),trivial⟩)
 · have h:=h.2 c1
   obtain ⟨eX,e1⟩:=h
   exact RunL.to ((show RunL P G none 0 (loopAt P 65 0) (ciSt v k) (AEx.exit 0) (St.mk (slots 19 [(4,int 0)]) [] []) from loop_exit [kf (decide_eq_false c1)] (others 19 [4]) 0 (by kernel_rfl))) eX (SubS.slots ⟨rfl,(Sub.int_eq e1),trivial⟩)
theorem ci_loop (v:List CE) (hv:v.length≤1000000000):∀ n k,v.length - k=n→k≤v.length→∃ j:Nat,RunL P G none 0 (loopAt P 65 0) (ciSt v k) (if (v.drop k).all oneB=true then .exit 0 else .ret) { env:=slots 19 [(4,int j)],H:=[] }:=by
 intro n
 induction n with
 | zero =>
  intro k hn hk
  rw [List.drop_eq_nil_of_le (by omega)]
  exact ⟨0,ci_w v k hv _ _ ⟨fun h=>absurd h (by omega),fun _=>⟨rfl,rfl⟩⟩⟩
 | succ n ih =>
  intro k hn hk
  have hlt:k<v.length:=by omega
  obtain ⟨j,hj⟩:=ih (k+1) (by omega) (by omega)
  rw [List.drop_eq_getElem_cons hlt,List.all_cons]
  cases hb:oneB v[k] with
  | true =>
   rw [Bool.true_and]
   exact ⟨j,ci_w v k hv _ _ ⟨fun _=>⟨v[k],List.getElem?_eq_getElem hlt,⟨fun _=>hj,fun h=>by rw [hb] at h; simp at h⟩⟩,fun h=>absurd hlt (by omega)⟩⟩
  | false =>
   rw [Bool.false_and]
   exact ⟨k,ci_w v k hv _ _ ⟨fun _=>⟨v[k],List.getElem?_eq_getElem hlt,⟨fun h=>by rw [hb] at h; simp at h,fun _=>⟨rfl,rfl⟩⟩⟩,fun h=>absurd hlt (by omega)⟩⟩
theorem cix_n (v:List CE) (j:Nat) (hL:RunL P G none 0 (loopAt P 65 0) (ciSt v 0) .ret { env:=slots 19 [(4,int j)],H:=[] }) (h:True):CallC P G 65 [ces v,AV.lit (Value.func (Fn.func 41) #[] #[])] [] (AOut.ret (int (↑j:Int))) []:=by
 have _:=h
 exact callC_of [kv 7 (show Am.Sub (int (↑(List.length (Sq.encs v)):Int)) (int (↑(List.length v):Int)) from (Sub.of_eq (by simp only [Go.Sq.encs_length]))),kl [2,3,5,9,10,11,12,13,14,15,16,17,18] 0 (@hL )] (by kernel_rfl)
theorem cix_y (v:List CE) (j:Nat) (hL:RunL P G none 0 (loopAt P 65 0) (ciSt v 0) (.exit 0) { env:=slots 19 [(4,int j)],H:=[] }) (h:True):CallC P G 65 [ces v,AV.lit (Value.func (Fn.func 41) #[] #[])] [] (AOut.ret (int (-1))) []:=by
 have _:=h
 exact callC_of [kv 7 (show Am.Sub (int (↑(List.length (Sq.encs v)):Int)) (int (↑(List.length v):Int)) from (Sub.of_eq (by simp only [Go.Sq.encs_length]))),kl [2,3,5,9,10,11,12,13,14,15,16,17,18] 0 (@hL )] (by kernel_rfl)
theorem ccn_w (v:List CE) (j:Int) (r:Bool) (h0:CallC P G 65 [ces v,.lit (.func (.func 41) #[] #[])] [] (.ret (int j)) []) (h:(decide (j≥(0:Int)))=(r)):CallC P G 40 [ces v,AV.lit (Value.func (Fn.func 41) #[] #[])] [] (AOut.ret (Am.bool r)) []:=by
 have e1:=h
 exact callC_out (Sub.bool_eq e1) [kc [] (@h0 )] (by kernel_rfl)
theorem contains_c (v:List CE) (hv:v.length≤1000000000):CallC P G 40 [ces v,.lit (.func (.func 41) #[] #[])] [] (.ret (bool (!v.all oneB))) []:=by
 obtain ⟨j,hj⟩:=ci_loop v hv v.length 0 (by omega) (by omega)
 rw [List.drop_zero] at hj
 cases hb:v.all oneB with
 | true=>rw [hb,if_pos rfl] at hj; exact ccn_w v _ _ (cix_y v j hj trivial) (by simp)
 | false=>rw [hb,if_neg (by decide)] at hj; exact ccn_w v _ _ (cix_n v j hj trivial) (by simp)
def dotV (a b:Int):Value:=.agg #[.int .i64 a,.int .i64 b]
def metE (v:List MK):List (Value × AV):=v.map fun x=>(dotV x.dv x.sq,bool true)
theorem met_ids2 (v:List MK):∀ e∈metE v,AV.idsLt 2 e.2=true:=by
 intro e he
 obtain ⟨x,_,rfl⟩:=List.mem_map.1 he
 rfl
def ckSt (l:List CE) (v:List MK) (k:Nat) (pre:List MK):St:={ env:=slots 55 [(1,.ptr 0 0),(4,.mp 1),(18,mks v),(19,int v.length),(20,int k)],H:=[.box [ces l,mks v],.map (metE pre)] }
def ckO:St:={ env:=slots 55 [],H:=[.gone,.gone] }
def ckR (r:Int):St:={ env:=slots 55 [(2,int r)],H:=[.gone,.gone] }
theorem ck_b (l:List CE) (v:List MK) (k:Nat) (x:MK) (pre:List MK) (hl:l.length≤1000000000) (hv:v.length≤1000000000) (hk:(k:Int)<(v.length:Int)) (hx:v[k]? = some x) (hm:MapGet P 43 (metE pre) (dotV x.dv x.sq) (bool false) (bool true) true) (h:True):RunL P G none 0 (loopAt P 17 0) (ckSt l v k pre) AEx.ret (ckR 160):=by
 have _:=h
 exact RunL.to (RunL.postH ((show RunL P G none 0 (loopAt P 17 0) (ckSt l v k pre) AEx.ret (St.mk (slots 55 [(2,int 160)]) [AObj.box [AV.sl 9 false (Sq.encs l),AV.sl 11 false (encs v)],AObj.map (metE pre)] []) from loop_exit [kt (show decide ((↑k:Int)<(↑(List.length v):Int))=true from (decide_eq_true (by omega))),ko (Orc.elem (enc x)),ko (Orc.mget (Am.bool true) true),kp (show (0:Int)≤(↑k:Int)∧(encs v)[Int.toNat (↑k:Int)]? = some (enc x) from (el_nat hx)),kp (@hm ),kt (Eq.refl true),kt (Eq.refl true),kt (Eq.refl true),kp (show ∀ (e:Value × AV),e∈metE pre→AV.idsLt 2 (Prod.snd e)=true from (Go.Tx.met_ids2 _))] (others 55 [2]) 2 (by kernel_rfl))) (by exact ⟨.inr trivial,.inr trivial,trivial⟩)) rfl (SubS.slots ⟨rfl,Sub.refl _,trivial⟩)
theorem ck_v (l:List CE) (v:List MK) (k:Nat) (x:MK) (pre:List MK) (hl:l.length≤1000000000) (hv:v.length≤1000000000) (hk:(k:Int)<(v.length:Int)) (hx:v[k]? = some x) (hq:isMk l x=false) (hm:MapGet P 43 (metE pre) (dotV x.dv x.sq) (bool false) (bool false) false) (h:True):RunL P G none 0 (loopAt P 17 0) (ckSt l v k pre) AEx.ret (ckR 160):=by
 have _:=h
 exact RunL.to (RunL.postH ((show RunL P G none 0 (loopAt P 17 0) (ckSt l v k pre) AEx.ret (St.mk (slots 55 [(2,int 160)]) [AObj.box [AV.sl 9 false (Sq.encs l),AV.sl 11 false (encs v)],AObj.map (metE pre)] []) from loop_exit [kt (show decide ((↑k:Int)<(↑(List.length v):Int))=true from (decide_eq_true (by omega))),ko (Orc.elem (enc x)),ko (Orc.mget (Am.bool false) false),kp (show (0:Int)≤(↑k:Int)∧(encs v)[Int.toNat (↑k:Int)]? = some (enc x) from (el_nat hx)),kp (@hm ),kf (Eq.refl false),kc [] (@Go.Tx.ismk_c (l) (x) (by omega)),kt (show (!isMk l x)=true from (congrArg Bool.not (hq))),kt (Eq.refl true),kp (show ∀ (e:Value × AV),e∈metE pre→AV.idsLt 2 (Prod.snd e)=true from (Go.Tx.met_ids2 _))] (others 55 [2]) 2 (by kernel_rfl))) (by exact ⟨.inr trivial,.inr trivial,trivial⟩)) rfl (SubS.slots ⟨rfl,Sub.refl _,trivial⟩)
theorem ck_e (l:List CE) (v:List MK) (k:Nat) (pre:List MK) (hv:v.length≤1000000000) (hk:¬ (k:Int)<(v.length:Int)) (h:True):RunL P G none 0 (loopAt P 17 0) (ckSt l v k pre) (AEx.exit 0) ckO:=by
 have _:=h
 exact RunL.to (RunL.postH ((show RunL P G none 0 (loopAt P 17 0) (ckSt l v k pre) (AEx.exit 0) (St.mk (slots 55 []) [AObj.box [AV.sl 9 false (Sq.encs l),AV.sl 11 false (encs v)],AObj.map (metE pre)] []) from loop_exit [kf (show decide ((↑k:Int)<(↑(List.length v):Int))=false from (decide_eq_false (by omega)))] (others 55 []) 2 (by kernel_rfl))) (by exact ⟨.inr trivial,.inr trivial,trivial⟩)) rfl (SubS.slots trivial)
theorem ck_o (l:List CE) (v:List MK) (k:Nat) (x:MK) (pre:List MK) (hl:l.length≤1000000000) (hv:v.length≤1000000000) (hk:(k:Int)<(v.length:Int)) (hx:v[k]? = some x) (hq:isMk l x=true) (hs:(k:Int) > 0) (hm:MapGet P 43 (metE pre) (dotV x.dv x.sq) (bool false) (bool false) false) (hp:MapPut P 43 (metE pre) (dotV x.dv x.sq) (bool true) (metE (pre++[x]))) (h:(∃ x3:MK,((0:Int)≤(↑k:Int) - 1∧v[Int.toNat ((↑k:Int) - 1)]? = some x3)∧(((ordM x3 x≥(0:Int))→True)∧((¬ordM x3 x≥(0:Int))→RunL P G none 0 (loopAt P 17 0) (St.mk (slots 55 [(1,AV.ptr 0 0),(4,AV.mp 1),(18,AV.sl 11 false (encs v)),(19,int (↑(List.length v):Int)),(20,int (↑(k+1):Int))]) [AObj.box [AV.sl 9 false (Sq.encs l),AV.sl 11 false (encs v)],AObj.map (metE (pre++[x]))] []) AEx.ret (ckR 160))))):RunL P G none 0 (loopAt P 17 0) (ckSt l v k pre) AEx.ret (ckR 160):=by
 have hz0:decide ((↑k:Int)<(↑(List.length v):Int))=true:=(decide_eq_true (by omega))
 have hz1:(0:Int)≤(↑k:Int)∧(encs v)[Int.toNat (↑k:Int)]? = some (enc x):=(el_nat hx)
 have hz2:=(@hm )
 have hz3:=(@Go.Tx.ismk_c (l) (x) (by omega))
 have hz4:(!isMk l x)=false:=(congrArg Bool.not (hq))
 have hz5:decide ((↑k:Int) > (0:Int))=true:=(decide_eq_true (by omega))
 have hz6:Am.Sub (int (IntKind.wrap IntKind.i64 ((↑k:Int) - 1))) (int ((↑k:Int) - 1)):=(Sub.of_wrap (by omega) (by omega) rfl)
 obtain ⟨x3,o4,h⟩:=h
 have hz7:(0:Int)≤(↑k:Int) - 1∧(encs v)[Int.toNat ((↑k:Int) - 1)]? = some (enc x3):=(el_int o4)
 have hz8:=(@Go.Tx.order_c (x3) (x))
 by_cases c5:(ordM x3 x≥(0:Int))
 · have h:=h.1 c5
   have _:=h
   exact RunL.to (RunL.postH ((show RunL P G none 0 (loopAt P 17 0) (ckSt l v k pre) AEx.ret (St.mk (slots 55 [(2,int 160)]) [AObj.box [AV.sl 9 false (Sq.encs l),AV.sl 11 false (encs v)],AObj.map (metE pre)] []) from loop_exit [kt hz0,ko (Orc.elem (enc x)),ko (Orc.mget (Am.bool false) false),kp hz1,kp hz2,kf (Eq.refl false),kc [] hz3,kf hz4,kt hz5,kv 43 hz6,ko (Orc.elem (enc x3)),kp hz7,kc [] hz8,kt (decide_eq_true c5),kp (show ∀ (e:Value × AV),e∈metE pre→AV.idsLt 2 (Prod.snd e)=true from (Go.Tx.met_ids2 _))] (others 55 [2]) 2 (by kernel_rfl))) (by exact ⟨.inr trivial,.inr trivial,trivial⟩)) rfl (SubS.slots ⟨rfl,Sub.refl _,trivial⟩)
 · have h:=h.2 c5
   exact loop_next [kt hz0,ko (Orc.elem (enc x)),ko (Orc.mget (Am.bool false) false),kp hz1,kp hz2,kf (Eq.refl false),kc [] hz3,kf hz4,kt hz5,kv 43 hz6,ko (Orc.elem (enc x3)),kp hz7,kc [] hz8,kf (decide_eq_false c5),ko (Orc.mput (metE (pre++[x]))),kp (@hp ),kv 54 (show Am.Sub (int (IntKind.wrap IntKind.i64 ((↑k:Int)+1))) (int (↑(k+1):Int)) from (Sub.of_wrap (by omega) (by omega) (by omega))),kp (show ∀ (e:Value × AV),e∈metE (pre++[x])→AV.idsLt 2 (Prod.snd e)=true from (Go.Tx.met_ids2 _))] (others 55 [1,4,18,19,20]) 2 h (by kernel_rfl)
theorem ck_n (l:List CE) (v:List MK) (k:Nat) (x:MK) (pre:List MK) (hl:l.length≤1000000000) (hv:v.length≤1000000000) (hk:(k:Int)<(v.length:Int)) (hx:v[k]? = some x) (hq:isMk l x=true) (hm:MapGet P 43 (metE pre) (dotV x.dv x.sq) (bool false) (bool false) false) (hp:MapPut P 43 (metE pre) (dotV x.dv x.sq) (bool true) (metE (pre++[x]))) (ex:AEx) (s:St) (h:((((↑k:Int) > (0:Int))→(∃ x3:MK,((0:Int)≤(↑k:Int) - 1∧v[Int.toNat ((↑k:Int) - 1)]? = some x3)∧(((ordM x3 x≥(0:Int))→(AEx.ret=ex)∧(St.mk (slots 55 []) [AObj.box [AV.sl 9 false (Sq.encs l),AV.sl 11 false (encs v)],AObj.map (metE pre)] []=s))∧((¬ordM x3 x≥(0:Int))→RunL P G none 0 (loopAt P 17 0) (St.mk (slots 55 [(1,AV.ptr 0 0),(4,AV.mp 1),(18,AV.sl 11 false (encs v)),(19,int (↑(List.length v):Int)),(20,int (↑(k+1):Int))]) [AObj.box [AV.sl 9 false (Sq.encs l),AV.sl 11 false (encs v)],AObj.map (metE (pre++[x]))] []) ex s))))∧((¬(↑k:Int) > (0:Int))→RunL P G none 0 (loopAt P 17 0) (St.mk (slots 55 [(1,AV.ptr 0 0),(4,AV.mp 1),(18,AV.sl 11 false (encs v)),(19,int (↑(List.length v):Int)),(20,int (↑(k+1):Int))]) [AObj.box [AV.sl 9 false (Sq.encs l),AV.sl 11 false (encs v)],AObj.map (metE (pre++[x]))] []) ex s))):RunL P G none 0 (loopAt P 17 0) (ckSt l v k pre) ex s:=by
 have hz0:decide ((↑k:Int)<(↑(List.length v):Int))=true:=(decide_eq_true (by omega))
 have hz1:(0:Int)≤(↑k:Int)∧(encs v)[Int.toNat (↑k:Int)]? = some (enc x):=(el_nat hx)
 have hz2:=(@hm )
 have hz3:=(@Go.Tx.ismk_c (l) (x) (by omega))
 have hz4:(!isMk l x)=false:=(congrArg Bool.not (hq))
 have hz9:=(@hp )
 have hz11:∀ (e:Value × AV),e∈metE (pre++[x])→AV.idsLt 2 (Prod.snd e)=true:=(Go.Tx.met_ids2 _)
 by_cases c2:((↑k:Int) > (0:Int))
 · have h:=h.1 c2
   have hz5:Am.Sub (int (IntKind.wrap IntKind.i64 ((↑k:Int) - 1))) (int ((↑k:Int) - 1)):=(Sub.of_wrap (by omega) (by omega) rfl)
   obtain ⟨x3,o4,h⟩:=h
   have hz6:(0:Int)≤(↑k:Int) - 1∧(encs v)[Int.toNat ((↑k:Int) - 1)]? = some (enc x3):=(el_int o4)
   have hz7:=(@Go.Tx.order_c (x3) (x))
   by_cases c5:(ordM x3 x≥(0:Int))
   · have h:=h.1 c5
     obtain ⟨eX,eS⟩:=h
     exact RunL.to ((show RunL P G none 0 (loopAt P 17 0) (ckSt l v k pre) AEx.ret (St.mk (slots 55 []) [AObj.box [AV.sl 9 false (Sq.encs l),AV.sl 11 false (encs v)],AObj.map (metE pre)] []) from loop_exit [kt hz0,ko (Orc.elem (enc x)),ko (Orc.mget (Am.bool false) false),kp hz1,kp hz2,kf (Eq.refl false),kc [] hz3,kf hz4,kt (decide_eq_true c2),kv 43 hz5,ko (Orc.elem (enc x3)),kp hz6,kc [] hz7,kt (decide_eq_true c5),kp (show ∀ (e:Value × AV),e∈metE pre→AV.idsLt 2 (Prod.snd e)=true from (Go.Tx.met_ids2 _))] (others 55 []) 2 (by kernel_rfl))) eX (SubS.of_eq eS)
   · have h:=h.2 c5
     exact loop_next [kt hz0,ko (Orc.elem (enc x)),ko (Orc.mget (Am.bool false) false),kp hz1,kp hz2,kf (Eq.refl false),kc [] hz3,kf hz4,kt (decide_eq_true c2),kv 43 hz5,ko (Orc.elem (enc x3)),kp hz6,kc [] hz7,kf (decide_eq_false c5),ko (Orc.mput (metE (pre++[x]))),kp hz9,kv 54 (show Am.Sub (int (IntKind.wrap IntKind.i64 ((↑k:Int)+1))) (int (↑(k+1):Int)) from (Sub.of_wrap (by omega) (by omega) (by omega))),kp hz11] (others 55 [1,4,18,19,20]) 2 h (by kernel_rfl)
 · have h:=h.2 c2
   exact loop_next [kt hz0,ko (Orc.elem (enc x)),ko (Orc.mget (Am.bool false) false),kp hz1,kp hz2,kf (Eq.refl false),kc [] hz3,kf hz4,kf (decide_eq_false c2),kf (Eq.refl false),ko (Orc.mput (metE (pre++[x]))),kp hz9,kv 54 (show Am.Sub (int (IntKind.wrap IntKind.i64 ((↑k:Int)+1))) (int (↑(k+1):Int)) from (Sub.of_wrap (by omega) (by omega) (by omega))),kp hz11] (others 55 [1,4,18,19,20]) 2 h (by kernel_rfl)
end Go.Tx


namespace Go.Sq
open Go Go.Am Go.Proofs Go.Seat
def clash (x y:CE):Bool:=(x.dv == y.dv && (x.sq == y.sq && x.at' == y.at')) || (decide (x.dv=y.dv) && decide (x.sq=y.sq) && !decide (x.tm=y.tm))
def clN (l:List CE) (x:CE):Nat→Nat→Bool
 | 0,_=>false
 | n+1,i=>match l[i]? with
  | some y=>clash x y || clN l x n (i+1)
  | none=>false
def okC (l:List CE) (k:Nat) (x:CE):Bool:=validB x && !clN l x k 0
def foN (l:List CE):Nat→Nat→Bool
 | 0,_=>true
 | n+1,k=>match l[k]? with
  | some x=>okC l k x && foN l n (k+1)
  | none=>true
def roN (l:List CE):Nat→Nat→Bool
 | 0,_=>true
 | n+1,k=>match l[k]? with
  | some x=>rootB l x && roN l n (k+1)
  | none=>true
def formsB (l:List CE):Bool:=foN l l.length 0 && roN l l.length 0
end Go.Sq


namespace Go.Sq
open Go Go.Am Go.Proofs Go.Seat
end Go.Sq


namespace Go.Sq
open Go Go.Am Go.Proofs Go.Seat
def ins (x:CE) (ch:List CE):List CE:=ch.takeWhile (fun y=>gtB y x)++x::ch.dropWhile (fun y=>gtB y x)
theorem ins_len (x:CE) (ch:List CE):(ins x ch).length=ch.length+1:=by
 have:=congrArg List.length (List.takeWhile_append_dropWhile (p:=fun y=>gtB y x) (l:=ch))
 simp only [ins,List.length_append,List.length_cons] at this ⊢
 omega
def isKid (a b c:Int) (x:CE):Bool:=x.ad == a && (x.as' == b && x.aa == c)
def kidsN (a b c:Int):List CE→List CE→List CE
 | [],acc=>acc
 | x::r,acc=>kidsN a b c r (if isKid a b c x=true then ins x acc else acc)
theorem kidsN_len (a b c:Int):∀ r acc,(kidsN a b c r acc).length≤r.length+acc.length
 | [],acc=>by simp [kidsN]
 | x::r,acc=>by
  rw [kidsN]
  have:=kidsN_len a b c r (if isKid a b c x=true then ins x acc else acc)
  split at this<;>(try rw [ins_len] at this)<;>simp only [List.length_cons]<;>rename_i h<;>simp only [h,if_true,if_false,Bool.false_eq_true] at this⊢<;> (try rw [ins_len] at this)<;>omega
def kids (l:List CE) (a b c:Int):List CE:=kidsN a b c l []
theorem kids_len (l:List CE) (a b c:Int):(kids l a b c).length≤l.length:=by have:=kidsN_len a b c l []; simpa [kids] using this
def belowF (l:List CE):Nat→Int→Int→Int→List CE
 | 0,_,_,_=>[]
 | n+1,a,b,c=>(kids l a b c).flatMap fun y=>y::belowF l n y.dv y.sq y.at'
def Deep (l:List CE):Nat→Int→Int→Int→Prop
 | 0,_,_,_=>False
 | n+1,a,b,c=>(belowF l (n+1) a b c).length≤1000000∧∀ y∈kids l a b c,Deep l n y.dv y.sq y.at'
theorem Deep.len {l:List CE}:∀ {n:Nat} {a b c:Int},Deep l n a b c→(belowF l n a b c).length≤1000000
 | 0,_,_,_,h=>h.elim
 | _+1,_,_,_,h=>h.1
theorem Deep.kid {l:List CE} {n:Nat} {a b c:Int} (h:Deep l (n+1) a b c) {y:CE} (hy:y∈kids l a b c):Deep l n y.dv y.sq y.at':=h.2 y hy
end Go.Sq


namespace Go.Sq
open Go Go.Am
theorem gt_iff {a b:CE}:gtB a b=true↔a.tm > b.tm∨a.tm=b.tm∧(a.dv > b.dv∨a.dv=b.dv∧(a.sq > b.sq∨a.sq=b.sq∧a.at' > b.at')):=by
 simp [gtB]
theorem gt_irrefl (a:CE):gtB a a=false:=by
 rw [Bool.eq_false_iff]; intro h; rw [gt_iff] at h; omega
theorem gt_trans {a b c:CE} (h:gtB a b=true) (k:gtB b c=true):gtB a c=true:=by
 rw [gt_iff] at *; omega
theorem gt_total {a b:CE} (h:a.id≠b.id):gtB a b=true∨gtB b a=true:=by
 simp only [gt_iff]
 by_cases h1:a.tm=b.tm<;>by_cases h2:a.dv=b.dv<;>by_cases h3:a.sq=b.sq<;>by_cases h4:a.at'=b.at'
 all_goals first | omega | exact absurd (by simp [CE.id,h2,h3,h4]) h
abbrev Desc (l:List CE):Prop:=l.Pairwise fun a b=>gtB a b=true
theorem Desc.ext:∀ {l m:List CE},Desc l→Desc m→(∀ x,x∈l↔x∈m)→l=m
 | [],[],_,_,_=>rfl
 | [],y::m,_,_,h=>absurd ((h y).2 (by simp)) (by simp)
 | x::l,[],_,_,h=>absurd ((h x).1 (by simp)) (by simp)
 | x::l,y::m,hl,hm,h=>by
  obtain ⟨h1,h2⟩:=List.pairwise_cons.1 hl
  obtain ⟨k1,k2⟩:=List.pairwise_cons.1 hm
  have exy:x=y:=by
   rcases List.mem_cons.1 ((h x).1 (by simp)) with e | e
   · exact e
   · rcases List.mem_cons.1 ((h y).2 (by simp)) with e' | e'
     · exact e'.symm
     · have:=gt_trans (h1 y e') (k1 x e)
       rw [gt_irrefl] at this; cases this
  subst exy
  have nx:x∉l:=fun hx=>by have:=h1 x hx; rw [gt_irrefl] at this; cases this
  have nm:x∉m:=fun hx=>by have:=k1 x hx; rw [gt_irrefl] at this; cases this
  rw [Desc.ext h2 k2 fun z=>?_]
  constructor
  · intro hz
    rcases List.mem_cons.1 ((h z).1 (List.mem_cons_of_mem _ hz)) with e | e
    · subst e; exact absurd hz nx
    · exact e
  · intro hz
    rcases List.mem_cons.1 ((h z).2 (List.mem_cons_of_mem _ hz)) with e | e
    · subst e; exact absurd hz nm
    · exact e
theorem Desc.nodup {l:List CE} (h:Desc l):l.Nodup:=h.imp fun {a b} hab e=>by subst e; rw [gt_irrefl] at hab; cases hab
theorem mem_ins {x y:CE} {ch:List CE}:y∈ins x ch↔y=x∨y∈ch:=by
 have:=List.takeWhile_append_dropWhile (p:=fun y=>gtB y x) (l:=ch)
 constructor
 · intro h
   rcases List.mem_append.1 h with h | h
   · exact .inr (by rw [← this]; exact List.mem_append_left _ h)
   · rcases List.mem_cons.1 h with h | h
     · exact .inl h
     · exact .inr (by rw [← this]; exact List.mem_append_right _ h)
 · rintro (rfl | h)
   · exact List.mem_append_right _ (by simp)
   · rw [← this] at h
     rcases List.mem_append.1 h with h | h
     · exact List.mem_append_left _ h
     · exact List.mem_append_right _ (List.mem_cons_of_mem _ h)
theorem ins_desc {x:CE}:∀ {ch:List CE},Desc ch→(∀ y∈ch,y.id≠x.id)→Desc (ins x ch)
 | [],_,_=>by simp [ins]
 | y::ch,h,hd=>by
  obtain ⟨h1,h2⟩:=List.pairwise_cons.1 h
  cases hg:gtB y x with
  | true =>
   have e:ins x (y::ch)=y::ins x ch:=by simp [ins,hg]
   rw [e]
   refine List.pairwise_cons.2 ⟨fun z hz=>?_,ins_desc h2 fun z hz=>hd z (List.mem_cons_of_mem _ hz)⟩
   rcases mem_ins.1 hz with rfl | hz
   · exact hg
   · exact h1 z hz
  | false =>
   have e:ins x (y::ch)=x::y::ch:=by simp [ins,hg]
   rw [e]
   have hxy:gtB x y=true:=(gt_total (hd y (by simp))).resolve_left (by rw [hg]; decide)
   refine List.pairwise_cons.2 ⟨fun z hz=>?_,h⟩
   rcases List.mem_cons.1 hz with rfl | hz
   · exact hxy
   · exact gt_trans hxy (h1 z hz)
abbrev Ids (l:List CE):Prop:=l.Pairwise fun a b=>a.id≠b.id
theorem kidsN_spec (a b c:Int):∀ r acc,Ids r→(∀ x∈r,∀ y∈acc,y.id≠x.id)→Desc acc→Desc (kidsN a b c r acc)∧∀ y,y∈kidsN a b c r acc↔y∈acc∨(y∈r∧isKid a b c y=true)
 | [],acc,_,_,h=>⟨h,fun y=>by simp [kidsN]⟩
 | x::r,acc,hi,hd,h=>by
  obtain ⟨i1,i2⟩:=List.pairwise_cons.1 hi
  rw [kidsN]
  cases hk:isKid a b c x with
  | true =>
   rw [if_pos rfl]
   obtain ⟨k1,k2⟩:=kidsN_spec a b c r (ins x acc) i2 (fun z hz y hy=>by
    rcases mem_ins.1 hy with rfl | hy
    · exact i1 z hz
    · exact hd z (List.mem_cons_of_mem _ hz) y hy) (ins_desc h fun y hy=>hd x (by simp) y hy)
   refine ⟨k1,fun y=>?_⟩
   rw [k2,mem_ins,List.mem_cons]
   constructor
   · rintro ((rfl | h) | ⟨h,h'⟩)
     · exact .inr ⟨.inl rfl,hk⟩
     · exact .inl h
     · exact .inr ⟨.inr h,h'⟩
   · rintro (h | ⟨rfl | h,h'⟩)
     · exact .inl (.inr h)
     · exact .inl (.inl rfl)
     · exact .inr ⟨h,h'⟩
  | false =>
   rw [if_neg (by decide)]
   obtain ⟨k1,k2⟩:=kidsN_spec a b c r acc i2 (fun z hz y hy=>hd z (List.mem_cons_of_mem _ hz) y hy) h
   refine ⟨k1,fun y=>?_⟩
   rw [k2,List.mem_cons]
   constructor
   · rintro (h | ⟨h,h'⟩)
     · exact .inl h
     · exact .inr ⟨.inr h,h'⟩
   · rintro (h | ⟨rfl | h,h'⟩)
     · exact .inl h
     · rw [hk] at h'; cases h'
     · exact .inr ⟨h,h'⟩
theorem kids_desc {l:List CE} (h:Ids l) (a b c:Int):Desc (kids l a b c):=(kidsN_spec a b c l [] h (by simp) .nil).1
theorem mem_kids {l:List CE} (h:Ids l) {a b c:Int} {y:CE}:y∈kids l a b c↔y∈l∧y.after=(a,b,c):=by
 rw [kids,(kidsN_spec a b c l [] h (by simp) .nil).2]
 simp [isKid,CE.after]
theorem kids_set {l m:List CE} (hl:Ids l) (hm:Ids m) (h:∀ x,x∈l↔x∈m) (a b c:Int):kids l a b c=kids m a b c :=
 (kids_desc hl a b c).ext (kids_desc hm a b c) fun x=>by rw [mem_kids hl,mem_kids hm,h]
theorem belowF_set {l m:List CE} (hl:Ids l) (hm:Ids m) (h:∀ x,x∈l↔x∈m):∀ n a b c,belowF l n a b c=belowF m n a b c
 | 0,_,_,_=>rfl
 | n+1,a,b,c=>by
  rw [belowF,belowF,kids_set hl hm h]
  congr 1
  funext y
  rw [belowF_set hl hm h n]
end Go.Sq


namespace Go.Sq
open Go Go.Am Go.Proofs Go.Seat
def stampL (c:CE):List AV:=[int c.tm,int c.dv,int c.sq,int c.at']
theorem stamp_w (c:CE) (h:True):CallC P G 81 [cel c] [] (AOut.ret (AV.agg (stampL c))) []:=by
 have _:=h
 exact callC_of [] (by kernel_rfl)
theorem stamp_c (c:CE):CallC P G 81 [cel c] [] (.ret (.agg [int c.tm,int c.dv,int c.sq,int c.at'])) []:=stamp_w c trivial
theorem nan_w (a:Int) (h:True):CallC P G 83 [int a] [] (AOut.ret (Am.bool (a != a))) []:=by
 have _:=h
 exact callC_of [] (by kernel_rfl)
theorem nan_c (a:Int):CallC P G 83 [int a] [] (.ret (bool false)) []:=by
 have:=nan_w a
 simpa using this
def cmpI (a b:Int):Int:=if a<b then -1 else if b<a then 1 else 0
theorem cmpI_w (a b:Int) (r:Int) (h:(((a<b)→(-1:Int)=(r))∧((¬a<b)→(((a > b)→(1:Int)=(r))∧((¬a > b)→(0:Int)=(r)))))):CallC P G 68 [int a,int b] [] (AOut.ret (int r)) []:=by
 have hz0:=(@Go.Sq.nan_c (a))
 have hz1:=(@Go.Sq.nan_c (b))
 by_cases c1:(a<b)
 · have h:=h.1 c1
   have e1:=h
   exact callC_out (Sub.int_eq e1) [kc [] hz0,kc [] hz1,kf (Eq.refl false),kf (Eq.refl false),kt (decide_eq_true c1)] (by kernel_rfl)
 · have h:=h.2 c1
   by_cases c2:(a > b)
   · have h:=h.1 c2
     have e1:=h
     exact callC_out (Sub.int_eq e1) [kc [] hz0,kc [] hz1,kf (Eq.refl false),kf (Eq.refl false),kf (decide_eq_false c1),kt (decide_eq_true c2)] (by kernel_rfl)
   · have h:=h.2 c2
     have e1:=h
     exact callC_out (Sub.int_eq e1) [kc [] hz0,kc [] hz1,kf (Eq.refl false),kf (Eq.refl false),kf (decide_eq_false c1),kf (decide_eq_false c2)] (by kernel_rfl)
theorem cmpI_c (a b:Int):CallC P G 68 [int a,int b] [] (.ret (int (cmpI a b))) []:=cmpI_w a b _ (by
 unfold cmpI; grind)
abbrev four (a b c d:Int):AV:=.sl 1 true [[int a],[int b],[int c],[int d]]
def cfSt (a b c d a' b' c' d':Int) (k:Nat):St:={ env:=slots 39 [(0,four a b c d),(1,four a' b' c' d'),(2,.lit (.func (.func 68) #[] #[])),(6,int 0),(11,four a b c d),(12,int 4),(13,int k)],H:=[] }
theorem cf4 (a b c d a' b' c' d':Int) (ex:AEx) (s':St) (h:(AEx.exit 0=ex)∧(St.mk (slots 39 [(0,AV.sl 1 true [[int a],[int b],[int c],[int d]]),(1,AV.sl 1 true [[int a'],[int b'],[int c'],[int d']]),(6,int 0)]) [] []=s')):RunL P G none 0 (loopAt P 91 0) (cfSt a b c d a' b' c' d' 4) ex s':=by
 obtain ⟨eX,eS⟩:=h
 exact RunL.to ((show RunL P G none 0 (loopAt P 91 0) (cfSt a b c d a' b' c' d' 4) (AEx.exit 0) (St.mk (slots 39 [(0,AV.sl 1 true [[int a],[int b],[int c],[int d]]),(1,AV.sl 1 true [[int a'],[int b'],[int c'],[int d']]),(6,int 0)]) [] []) from loop_exit [kf (Eq.refl false)] (others 39 [0,1,6]) 0 (by kernel_rfl))) eX (SubS.of_eq eS)
theorem cf3 (a b c d a' b' c' d':Int) (ex:AEx) (s':St) (h:(((cmpI d d'=(0:Int))→RunL P G none 0 (loopAt P 91 0) (St.mk (slots 39 [(0,AV.sl 1 true [[int a],[int b],[int c],[int d]]),(1,AV.sl 1 true [[int a'],[int b'],[int c'],[int d']]),(2,AV.lit (Value.func (Fn.func 68) (Array.mk []) (Array.mk []))),(6,int 0),(11,AV.sl 1 true [[int a],[int b],[int c],[int d]]),(12,int 4),(13,int 4)]) [] []) ex s')∧((¬cmpI d d'=(0:Int))→(AEx.ret=ex)∧(St.mk (slots 39 [(0,AV.sl 1 true [[int a],[int b],[int c],[int d]]),(1,AV.sl 1 true [[int a'],[int b'],[int c'],[int d']]),(6,int (cmpI d d'))]) [] []=s')))):RunL P G none 0 (loopAt P 91 0) (cfSt a b c d a' b' c' d' 3) ex s':=by
 have hz0:(0:Int)≤(3:Int)∧[[int a],[int b],[int c],[int d]][Int.toNat (↑3:Int)]? = some [int d]:=(⟨by decide,rfl⟩)
 have hz1:(0:Int)≤(3:Int)∧[[int a'],[int b'],[int c'],[int d']][Int.toNat (↑3:Int)]? = some [int d']:=(⟨by decide,rfl⟩)
 have hz2:=(@Go.Sq.cmpI_c (d) (d'))
 by_cases c1:(cmpI d d'=(0:Int))
 · have h:=h.1 c1
   exact loop_next [kt (Eq.refl true),ko (Orc.elem [int d]),kp hz0,kf (Eq.refl false),ko (Orc.elem [int d']),kp hz1,kc [] hz2,kf (show (cmpI d d' != 0)=false from (congrArg Bool.not (beq_iff_eq.2 c1)))] (others 39 [0,1,2,6,11,12,13]) 0 h (by kernel_rfl)
 · have h:=h.2 c1
   obtain ⟨eX,eS⟩:=h
   exact RunL.to ((show RunL P G none 0 (loopAt P 91 0) (cfSt a b c d a' b' c' d' 3) AEx.ret (St.mk (slots 39 [(0,AV.sl 1 true [[int a],[int b],[int c],[int d]]),(1,AV.sl 1 true [[int a'],[int b'],[int c'],[int d']]),(6,int (cmpI d d'))]) [] []) from loop_exit [kt (Eq.refl true),ko (Orc.elem [int d]),kp hz0,kf (Eq.refl false),ko (Orc.elem [int d']),kp hz1,kc [] hz2,kt (show (cmpI d d' != 0)=true from (congrArg Bool.not (beq_eq_false_iff_ne.2 c1)))] (others 39 [0,1,6]) 0 (by kernel_rfl))) eX (SubS.of_eq eS)
theorem cf2 (a b c d a' b' c' d':Int) (ex:AEx) (s':St) (h:(((cmpI c c'=(0:Int))→RunL P G none 0 (loopAt P 91 0) (St.mk (slots 39 [(0,AV.sl 1 true [[int a],[int b],[int c],[int d]]),(1,AV.sl 1 true [[int a'],[int b'],[int c'],[int d']]),(2,AV.lit (Value.func (Fn.func 68) (Array.mk []) (Array.mk []))),(6,int 0),(11,AV.sl 1 true [[int a],[int b],[int c],[int d]]),(12,int 4),(13,int 3)]) [] []) ex s')∧((¬cmpI c c'=(0:Int))→(AEx.ret=ex)∧(St.mk (slots 39 [(0,AV.sl 1 true [[int a],[int b],[int c],[int d]]),(1,AV.sl 1 true [[int a'],[int b'],[int c'],[int d']]),(6,int (cmpI c c'))]) [] []=s')))):RunL P G none 0 (loopAt P 91 0) (cfSt a b c d a' b' c' d' 2) ex s':=by
 have hz0:(0:Int)≤(2:Int)∧[[int a],[int b],[int c],[int d]][Int.toNat (↑2:Int)]? = some [int c]:=(⟨by decide,rfl⟩)
 have hz1:(0:Int)≤(2:Int)∧[[int a'],[int b'],[int c'],[int d']][Int.toNat (↑2:Int)]? = some [int c']:=(⟨by decide,rfl⟩)
 have hz2:=(@Go.Sq.cmpI_c (c) (c'))
 by_cases c1:(cmpI c c'=(0:Int))
 · have h:=h.1 c1
   exact loop_next [kt (Eq.refl true),ko (Orc.elem [int c]),kp hz0,kf (Eq.refl false),ko (Orc.elem [int c']),kp hz1,kc [] hz2,kf (show (cmpI c c' != 0)=false from (congrArg Bool.not (beq_iff_eq.2 c1)))] (others 39 [0,1,2,6,11,12,13]) 0 h (by kernel_rfl)
 · have h:=h.2 c1
   obtain ⟨eX,eS⟩:=h
   exact RunL.to ((show RunL P G none 0 (loopAt P 91 0) (cfSt a b c d a' b' c' d' 2) AEx.ret (St.mk (slots 39 [(0,AV.sl 1 true [[int a],[int b],[int c],[int d]]),(1,AV.sl 1 true [[int a'],[int b'],[int c'],[int d']]),(6,int (cmpI c c'))]) [] []) from loop_exit [kt (Eq.refl true),ko (Orc.elem [int c]),kp hz0,kf (Eq.refl false),ko (Orc.elem [int c']),kp hz1,kc [] hz2,kt (show (cmpI c c' != 0)=true from (congrArg Bool.not (beq_eq_false_iff_ne.2 c1)))] (others 39 [0,1,6]) 0 (by kernel_rfl))) eX (SubS.of_eq eS)
theorem cf1 (a b c d a' b' c' d':Int) (ex:AEx) (s':St) (h:(((cmpI b b'=(0:Int))→RunL P G none 0 (loopAt P 91 0) (St.mk (slots 39 [(0,AV.sl 1 true [[int a],[int b],[int c],[int d]]),(1,AV.sl 1 true [[int a'],[int b'],[int c'],[int d']]),(2,AV.lit (Value.func (Fn.func 68) (Array.mk []) (Array.mk []))),(6,int 0),(11,AV.sl 1 true [[int a],[int b],[int c],[int d]]),(12,int 4),(13,int 2)]) [] []) ex s')∧((¬cmpI b b'=(0:Int))→(AEx.ret=ex)∧(St.mk (slots 39 [(0,AV.sl 1 true [[int a],[int b],[int c],[int d]]),(1,AV.sl 1 true [[int a'],[int b'],[int c'],[int d']]),(6,int (cmpI b b'))]) [] []=s')))):RunL P G none 0 (loopAt P 91 0) (cfSt a b c d a' b' c' d' 1) ex s':=by
 have hz0:(0:Int)≤(1:Int)∧[[int a],[int b],[int c],[int d]][Int.toNat (↑1:Int)]? = some [int b]:=(⟨by decide,rfl⟩)
 have hz1:(0:Int)≤(1:Int)∧[[int a'],[int b'],[int c'],[int d']][Int.toNat (↑1:Int)]? = some [int b']:=(⟨by decide,rfl⟩)
 have hz2:=(@Go.Sq.cmpI_c (b) (b'))
 by_cases c1:(cmpI b b'=(0:Int))
 · have h:=h.1 c1
   exact loop_next [kt (Eq.refl true),ko (Orc.elem [int b]),kp hz0,kf (Eq.refl false),ko (Orc.elem [int b']),kp hz1,kc [] hz2,kf (show (cmpI b b' != 0)=false from (congrArg Bool.not (beq_iff_eq.2 c1)))] (others 39 [0,1,2,6,11,12,13]) 0 h (by kernel_rfl)
 · have h:=h.2 c1
   obtain ⟨eX,eS⟩:=h
   exact RunL.to ((show RunL P G none 0 (loopAt P 91 0) (cfSt a b c d a' b' c' d' 1) AEx.ret (St.mk (slots 39 [(0,AV.sl 1 true [[int a],[int b],[int c],[int d]]),(1,AV.sl 1 true [[int a'],[int b'],[int c'],[int d']]),(6,int (cmpI b b'))]) [] []) from loop_exit [kt (Eq.refl true),ko (Orc.elem [int b]),kp hz0,kf (Eq.refl false),ko (Orc.elem [int b']),kp hz1,kc [] hz2,kt (show (cmpI b b' != 0)=true from (congrArg Bool.not (beq_eq_false_iff_ne.2 c1)))] (others 39 [0,1,6]) 0 (by kernel_rfl))) eX (SubS.of_eq eS)
theorem cf0 (a b c d a' b' c' d':Int) (ex:AEx) (s':St) (h:(((cmpI a a'=(0:Int))→RunL P G none 0 (loopAt P 91 0) (St.mk (slots 39 [(0,AV.sl 1 true [[int a],[int b],[int c],[int d]]),(1,AV.sl 1 true [[int a'],[int b'],[int c'],[int d']]),(2,AV.lit (Value.func (Fn.func 68) (Array.mk []) (Array.mk []))),(6,int 0),(11,AV.sl 1 true [[int a],[int b],[int c],[int d]]),(12,int 4),(13,int 1)]) [] []) ex s')∧((¬cmpI a a'=(0:Int))→(AEx.ret=ex)∧(St.mk (slots 39 [(0,AV.sl 1 true [[int a],[int b],[int c],[int d]]),(1,AV.sl 1 true [[int a'],[int b'],[int c'],[int d']]),(6,int (cmpI a a'))]) [] []=s')))):RunL P G none 0 (loopAt P 91 0) (cfSt a b c d a' b' c' d' 0) ex s':=by
 have hz0:(0:Int)≤(0:Int)∧[[int a],[int b],[int c],[int d]][Int.toNat (↑0:Int)]? = some [int a]:=(⟨by decide,rfl⟩)
 have hz1:(0:Int)≤(0:Int)∧[[int a'],[int b'],[int c'],[int d']][Int.toNat (↑0:Int)]? = some [int a']:=(⟨by decide,rfl⟩)
 have hz2:=(@Go.Sq.cmpI_c (a) (a'))
 by_cases c1:(cmpI a a'=(0:Int))
 · have h:=h.1 c1
   exact loop_next [kt (Eq.refl true),ko (Orc.elem [int a]),kp hz0,kf (Eq.refl false),ko (Orc.elem [int a']),kp hz1,kc [] hz2,kf (show (cmpI a a' != 0)=false from (congrArg Bool.not (beq_iff_eq.2 c1)))] (others 39 [0,1,2,6,11,12,13]) 0 h (by kernel_rfl)
 · have h:=h.2 c1
   obtain ⟨eX,eS⟩:=h
   exact RunL.to ((show RunL P G none 0 (loopAt P 91 0) (cfSt a b c d a' b' c' d' 0) AEx.ret (St.mk (slots 39 [(0,AV.sl 1 true [[int a],[int b],[int c],[int d]]),(1,AV.sl 1 true [[int a'],[int b'],[int c'],[int d']]),(6,int (cmpI a a'))]) [] []) from loop_exit [kt (Eq.refl true),ko (Orc.elem [int a]),kp hz0,kf (Eq.refl false),ko (Orc.elem [int a']),kp hz1,kc [] hz2,kt (show (cmpI a a' != 0)=true from (congrArg Bool.not (beq_eq_false_iff_ne.2 c1)))] (others 39 [0,1,6]) 0 (by kernel_rfl))) eX (SubS.of_eq eS)
def cmp4 (a b c d a' b' c' d':Int):Int:=if cmpI a a'=0 then (if cmpI b b'=0 then (if cmpI c c'=0 then cmpI d d' else cmpI c c') else cmpI b b') else cmpI a a'
def cfE (a b c d a' b' c' d':Int) (r:Int):St:={ env:=slots 39 [(0,four a b c d),(1,four a' b' c' d'),(6,int r)],H:=[] }
theorem cf_run (a b c d a' b' c' d':Int):RunL P G none 0 (loopAt P 91 0) (cfSt a b c d a' b' c' d' 0) (if cmp4 a b c d a' b' c' d'=0 then .exit 0 else .ret) (cfE a b c d a' b' c' d' (cmp4 a b c d a' b' c' d')):=by
 unfold cmp4
 by_cases h1:cmpI a a'=0
 · rw [if_pos h1]
   by_cases h2:cmpI b b'=0
   · rw [if_pos h2]
     by_cases h3:cmpI c c'=0
     · rw [if_pos h3]
       refine cf0 a b c d a' b' c' d' _ _ ⟨fun _=>cf1 a b c d a' b' c' d' _ _ ⟨fun _=>cf2 a b c d a' b' c' d' _ _ ⟨fun _=>cf3 a b c d a' b' c' d' _ _ ⟨fun h4=>cf4 a b c d a' b' c' d' _ _ ?_,fun h4=>?_⟩,fun h=>absurd h3 h⟩,fun h=>absurd h2 h⟩,fun h=>absurd h1 h⟩
       · rw [if_pos h4,h4]; exact ⟨rfl,rfl⟩
       · rw [if_neg h4]; exact ⟨rfl,rfl⟩
     · rw [if_neg h3,if_neg h3]
       exact cf0 a b c d a' b' c' d' _ _ ⟨fun _=>cf1 a b c d a' b' c' d' _ _ ⟨fun _=>cf2 a b c d a' b' c' d' _ _ ⟨fun h=>absurd h h3,fun _=>⟨rfl,rfl⟩⟩,fun h=>absurd h2 h⟩,fun h=>absurd h1 h⟩
   · rw [if_neg h2,if_neg h2]
     exact cf0 a b c d a' b' c' d' _ _ ⟨fun _=>cf1 a b c d a' b' c' d' _ _ ⟨fun h=>absurd h h2,fun _=>⟨rfl,rfl⟩⟩,fun h=>absurd h1 h⟩
 · rw [if_neg h1,if_neg h1]
   exact cf0 a b c d a' b' c' d' _ _ ⟨fun h=>absurd h h1,fun _=>⟨rfl,rfl⟩⟩
theorem cff_w (a b c d a' b' c' d':Int) (r:Int) (hL:RunL P G none 0 (loopAt P 91 0) (cfSt a b c d a' b' c' d' 0) (if cmp4 a b c d a' b' c' d'=0 then .exit 0 else .ret) { env:=slots 39 [(0,four a b c d),(1,four a' b' c' d'),(6,int (cmp4 a b c d a' b' c' d'))],H:=[] }) (h:(((cmp4 a b c d a' b' c' d'=(0:Int))→(0:Int)=(r))∧((¬cmp4 a b c d a' b' c' d'=(0:Int))→(cmp4 a b c d a' b' c' d':Int)=(r)))):CallC P G 91 [four a b c d,four a' b' c' d',AV.lit (Value.func (Fn.func 68) #[] #[])] [] (AOut.ret (int r)) []:=by
 by_cases c1:(cmp4 a b c d a' b' c' d'=(0:Int))
 · have h:=h.1 c1
   have e1:=h
   exact callC_out (Sub.int_eq e1) [kl [3,4,5,7,8,9,10,14,15,16,17,18,19,20,21,22,23,24,25,26,27,28,29,30,31,32,33,34,35,36,37,38] 0 (show RunL P G none 0 (loopAt P 91 0) (St.mk (slots 39 [(0,AV.sl 1 true [[int a],[int b],[int c],[int d]]),(1,AV.sl 1 true [[int a'],[int b'],[int c'],[int d']]),(2,AV.lit (Value.func (Fn.func 68) (Array.mk []) (Array.mk []))),(6,int 0),(11,AV.sl 1 true [[int a],[int b],[int c],[int d]]),(12,int (↑(List.length [[int a],[int b],[int c],[int d]]):Int)),(13,int 0)]) [] []) (AEx.exit 0) (St.mk (slots 39 [(0,AV.sl 1 true [[int a],[int b],[int c],[int d]]),(1,AV.sl 1 true [[int a'],[int b'],[int c'],[int d']]),(6,int (cmp4 a b c d a' b' c' d'))]) [] []) from (by have h0:=(@hL ); simp only [if_pos c1] at h0; exact h0)),kf (Eq.refl false)] (by kernel_rfl)
 · have h:=h.2 c1
   have e1:=h
   exact callC_out (Sub.int_eq e1) [kl [3,4,5,7,8,9,10,14,15,16,17,18,19,20,21,22,23,24,25,26,27,28,29,30,31,32,33,34,35,36,37,38] 0 (show RunL P G none 0 (loopAt P 91 0) (St.mk (slots 39 [(0,AV.sl 1 true [[int a],[int b],[int c],[int d]]),(1,AV.sl 1 true [[int a'],[int b'],[int c'],[int d']]),(2,AV.lit (Value.func (Fn.func 68) (Array.mk []) (Array.mk []))),(6,int 0),(11,AV.sl 1 true [[int a],[int b],[int c],[int d]]),(12,int (↑(List.length [[int a],[int b],[int c],[int d]]):Int)),(13,int 0)]) [] []) AEx.ret (St.mk (slots 39 [(0,AV.sl 1 true [[int a],[int b],[int c],[int d]]),(1,AV.sl 1 true [[int a'],[int b'],[int c'],[int d']]),(6,int (cmp4 a b c d a' b' c' d'))]) [] []) from (by have h0:=(@hL ); simp only [if_neg c1] at h0; exact h0))] (by kernel_rfl)
theorem cff_c (a b c d a' b' c' d':Int):CallC P G 91 [four a b c d,four a' b' c' d',.lit (.func (.func 68) #[] #[])] [] (.ret (int (cmp4 a b c d a' b' c' d'))) []:=cff_w a b c d a' b' c' d' _ (cf_run a b c d a' b' c' d') ⟨fun h=>h.symm,fun _=>rfl⟩
end Go.Sq
