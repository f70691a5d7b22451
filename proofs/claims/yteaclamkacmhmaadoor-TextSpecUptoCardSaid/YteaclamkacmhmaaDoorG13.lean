import Derived.Test.YteaclamkacmhmaaDoorG12
import Derived.KernelRfl
import Derived.DeepKeys4
import Derived.Maps.Keyed
set_option maxRecDepth 100000
set_option linter.unusedSimpArgs false
set_option linter.unusedVariables false

namespace Go.Tx
open Go Go.Am Go.Proofs Go.Seat
open Go.Sq (CE cel ces ida idv pid fX fiO)
def InR (a:Int):Prop := -9223372036854775808≤a∧a<9223372036854775808
structure OkM (m:MK):Prop where
 dv:InR m.dv
 sq:InR m.sq
 tm:InR m.tm
 fd:InR m.fd
 fs:InR m.fs
 fa:InR m.fa
 td:InR m.td
 ts:InR m.ts
 ta:InR m.ta
 st:InR m.st
def OkMs (v:List MK):Prop:=∀ m∈v,OkM m
def okAt (l:List CE) (v:List MK) (k:Nat):Bool:=match v[k]? with
 | some x=>isMk l x && ((k == 0 || match v[k - 1]? with | some p=>lessM p x | none=>false) && !((v.take k).any fun c=>decide (c.dot=x.dot)))
 | none=>true
def okN (l:List CE) (v:List MK):Nat→Nat→Bool
 | 0,_=>true
 | n+1,k=>okAt l v k && okN l v n (k+1)
def okB (l:List CE) (v:List MK):Bool:=okN l v v.length 0
def oneB (c:CE):Bool:=decide (c.vl.size=1)
theorem c1_w (c:CE) (r:Bool) (h:((↑(ByteArray.size (CE.vl c)):Int) != 1)=(r)):CallC P G 41 [cel c] [] (AOut.ret (Am.bool r)) []:=by
 have e1:=h
 exact callC_out (Sub.bool_eq e1) [] (by kernel_rfl)
theorem c1_c (c:CE):CallC P G 41 [cel c] [] (.ret (bool (!oneB c))) []:=c1_w c _ (by
 unfold oneB
 grind)
def ciSt (v:List CE) (k:Nat):St:={ env:=slots 19 [(0,ces v),(1,.lit (.func (.func 41) #[] #[])),(4,int 0),(6,ces v),(7,int v.length),(8,int k)],H:=[] }
theorem ci_w (v:List CE) (k:Nat) (hv:v.length≤1000000000) (ex:AEx) (r:Int) (h:((((↑k:Int)<(↑(List.length v):Int))→(∃ x2:CE,(v[k]? = some x2)∧((((oneB x2)=true)→RunL P G none 0 (loopAt P 65 0) (St.mk (slots 19 [(0,AV.sl 9 false (Sq.encs v)),(1,AV.lit (Value.func (Fn.func 41) (Array.mk []) (Array.mk []))),(4,int 0),(6,AV.sl 9 false (Sq.encs v)),(7,int (↑(List.length v):Int)),(8,int (↑(k+1):Int))]) [] []) ex (St.mk (slots 19 [(4,int r)]) [] []))∧(((oneB x2)=false)→(AEx.ret=ex)∧(((↑k:Int):Int)=(r))))))∧((¬(↑k:Int)<(↑(List.length v):Int))→(AEx.exit 0=ex)∧((0:Int)=(r))))):RunL P G none 0 (loopAt P 65 0) (ciSt v k) ex (St.mk (slots 19 [(4,int r)]) [] []):=by
 by_cases c1:((↑k:Int)<(↑(List.length v):Int))
 · have h:=h.1 c1
   obtain ⟨x2,o3,h⟩:=h
   have hz0:(0:Int)≤(↑k:Int)∧(Sq.encs v)[Int.toNat (↑k:Int)]? = some (Sq.enc x2):=(el_nat o3)
   have hz1:=(@Go.Tx.c1_c (x2))
   rcases Bool.eq_false_or_eq_true ((oneB x2)) with c4 | c4
   · have h:=h.1 c4
     exact loop_next [kt (decide_eq_true c1),ko (Orc.elem (Sq.enc x2)),kp hz0,kc [] hz1,kf (show (!oneB x2)=false from (congrArg Bool.not (c4))),kv 18 (show Am.Sub (int (IntKind.wrap IntKind.i64 ((↑k:Int)+1))) (int (↑(k+1):Int)) from (Sub.of_wrap (by omega) (by omega) (by omega)))] (others 19 [0,1,4,6,7,8]) 0 h (by kernel_rfl)
   · have h:=h.2 c4
     obtain ⟨eX,e1⟩:=h
     exact RunL.to ((show RunL P G none 0 (loopAt P 65 0) (ciSt v k) AEx.ret (St.mk (slots 19 [(4,int (↑k:Int))]) [] []) from loop_exit [kt (decide_eq_true c1),ko (Orc.elem (Sq.enc x2)),kp hz0,kc [] hz1,kt (show (!oneB x2)=true from (congrArg Bool.not (c4)))] (others 19 [4]) 0 (by kernel_rfl))) eX (SubS.slots ⟨rfl,(Sub.int_eq e1),trivial⟩)
 · have h:=h.2 c1
   obtain ⟨eX,e1⟩:=h
   exact RunL.to ((show RunL P G none 0 (loopAt P 65 0) (ciSt v k) (AEx.exit 0) (St.mk (slots 19 [(4,int 0)]) [] []) from loop_exit [kf (decide_eq_false c1)] (others 19 [4]) 0 (by kernel_rfl))) eX (SubS.slots ⟨rfl,(Sub.int_eq e1),trivial⟩)
theorem ci_loop (v:List CE) (hv:v.length≤1000000000):∀ n k,v.length - k=n→k≤v.length→∃ j:Nat,RunL P G none 0 (loopAt P 65 0) (ciSt v k) (if (v.drop k).all oneB=true then .exit 0 else .ret) { env:=slots 19 [(4,int j)],H:=[] }:=by
 intro n
 induction n with
 | zero =>
  intro k hn hk
  rw [List.drop_eq_nil_of_le (by omega)]
  exact ⟨0,ci_w v k hv _ _ ⟨fun h=>absurd h (by omega),fun _=>⟨rfl,rfl⟩⟩⟩
 | succ n ih =>
  intro k hn hk
  have hlt:k<v.length:=by omega
  obtain ⟨j,hj⟩:=ih (k+1) (by omega) (by omega)
  rw [List.drop_eq_getElem_cons hlt,List.all_cons]
  cases hb:oneB v[k] with
  | true =>
   rw [Bool.true_and]
   exact ⟨j,ci_w v k hv _ _ ⟨fun _=>⟨v[k],List.getElem?_eq_getElem hlt,⟨fun _=>hj,fun h=>by rw [hb] at h; simp at h⟩⟩,fun h=>absurd hlt (by omega)⟩⟩
  | false =>
   rw [Bool.false_and]
   exact ⟨k,ci_w v k hv _ _ ⟨fun _=>⟨v[k],List.getElem?_eq_getElem hlt,⟨fun h=>by rw [hb] at h; simp at h,fun _=>⟨rfl,rfl⟩⟩⟩,fun h=>absurd hlt (by omega)⟩⟩
theorem cix_n (v:List CE) (j:Nat) (hL:RunL P G none 0 (loopAt P 65 0) (ciSt v 0) .ret { env:=slots 19 [(4,int j)],H:=[] }) (h:True):CallC P G 65 [ces v,AV.lit (Value.func (Fn.func 41) #[] #[])] [] (AOut.ret (int (↑j:Int))) []:=by
 have _:=h
 exact callC_of [kv 7 (show Am.Sub (int (↑(List.length (Sq.encs v)):Int)) (int (↑(List.length v):Int)) from (Sub.of_eq (by simp only [Go.Sq.encs_length]))),kl [2,3,5,9,10,11,12,13,14,15,16,17,18] 0 (@hL )] (by kernel_rfl)
theorem cix_y (v:List CE) (j:Nat) (hL:RunL P G none 0 (loopAt P 65 0) (ciSt v 0) (.exit 0) { env:=slots 19 [(4,int j)],H:=[] }) (h:True):CallC P G 65 [ces v,AV.lit (Value.func (Fn.func 41) #[] #[])] [] (AOut.ret (int (-1))) []:=by
 have _:=h
 exact callC_of [kv 7 (show Am.Sub (int (↑(List.length (Sq.encs v)):Int)) (int (↑(List.length v):Int)) from (Sub.of_eq (by simp only [Go.Sq.encs_length]))),kl [2,3,5,9,10,11,12,13,14,15,16,17,18] 0 (@hL )] (by kernel_rfl)
theorem ccn_w (v:List CE) (j:Int) (r:Bool) (h0:CallC P G 65 [ces v,.lit (.func (.func 41) #[] #[])] [] (.ret (int j)) []) (h:(decide (j≥(0:Int)))=(r)):CallC P G 40 [ces v,AV.lit (Value.func (Fn.func 41) #[] #[])] [] (AOut.ret (Am.bool r)) []:=by
 have e1:=h
 exact callC_out (Sub.bool_eq e1) [kc [] (@h0 )] (by kernel_rfl)
theorem contains_c (v:List CE) (hv:v.length≤1000000000):CallC P G 40 [ces v,.lit (.func (.func 41) #[] #[])] [] (.ret (bool (!v.all oneB))) []:=by
 obtain ⟨j,hj⟩:=ci_loop v hv v.length 0 (by omega) (by omega)
 rw [List.drop_zero] at hj
 cases hb:v.all oneB with
 | true=>rw [hb,if_pos rfl] at hj; exact ccn_w v _ _ (cix_y v j hj trivial) (by simp)
 | false=>rw [hb,if_neg (by decide)] at hj; exact ccn_w v _ _ (cix_n v j hj trivial) (by simp)
def dotV (a b:Int):Value:=.agg #[.int .i64 a,.int .i64 b]
def metE (v:List MK):List (Value × AV):=v.map fun x=>(dotV x.dv x.sq,bool true)
theorem met_ids2 (v:List MK):∀ e∈metE v,AV.idsLt 2 e.2=true:=by
 intro e he
 obtain ⟨x,_,rfl⟩:=List.mem_map.1 he
 rfl
def ckSt (l:List CE) (v:List MK) (k:Nat) (pre:List MK):St:={ env:=slots 55 [(1,.ptr 0 0),(4,.mp 1),(18,mks v),(19,int v.length),(20,int k)],H:=[.box [ces l,mks v],.map (metE pre)] }
def ckO:St:={ env:=slots 55 [],H:=[.gone,.gone] }
def ckR (r:Int):St:={ env:=slots 55 [(2,int r)],H:=[.gone,.gone] }
theorem ck_b (l:List CE) (v:List MK) (k:Nat) (x:MK) (pre:List MK) (hl:l.length≤1000000000) (hv:v.length≤1000000000) (hk:(k:Int)<(v.length:Int)) (hx:v[k]? = some x) (hm:MapGet P 43 (metE pre) (dotV x.dv x.sq) (bool false) (bool true) true) (h:True):RunL P G none 0 (loopAt P 17 0) (ckSt l v k pre) AEx.ret (ckR 160):=by
 have _:=h
 exact RunL.to (RunL.postH ((show RunL P G none 0 (loopAt P 17 0) (ckSt l v k pre) AEx.ret (St.mk (slots 55 [(2,int 160)]) [AObj.box [AV.sl 9 false (Sq.encs l),AV.sl 11 false (encs v)],AObj.map (metE pre)] []) from loop_exit [kt (show decide ((↑k:Int)<(↑(List.length v):Int))=true from (decide_eq_true (by omega))),ko (Orc.elem (enc x)),ko (Orc.mget (Am.bool true) true),kp (show (0:Int)≤(↑k:Int)∧(encs v)[Int.toNat (↑k:Int)]? = some (enc x) from (el_nat hx)),kp (@hm ),kt (Eq.refl true),kt (Eq.refl true),kt (Eq.refl true),kp (show ∀ (e:Value × AV),e∈metE pre→AV.idsLt 2 (Prod.snd e)=true from (Go.Tx.met_ids2 _))] (others 55 [2]) 2 (by kernel_rfl))) (by exact ⟨.inr trivial,.inr trivial,trivial⟩)) rfl (SubS.slots ⟨rfl,Sub.refl _,trivial⟩)
theorem ck_v (l:List CE) (v:List MK) (k:Nat) (x:MK) (pre:List MK) (hl:l.length≤1000000000) (hv:v.length≤1000000000) (hk:(k:Int)<(v.length:Int)) (hx:v[k]? = some x) (hq:isMk l x=false) (hm:MapGet P 43 (metE pre) (dotV x.dv x.sq) (bool false) (bool false) false) (h:True):RunL P G none 0 (loopAt P 17 0) (ckSt l v k pre) AEx.ret (ckR 160):=by
 have _:=h
 exact RunL.to (RunL.postH ((show RunL P G none 0 (loopAt P 17 0) (ckSt l v k pre) AEx.ret (St.mk (slots 55 [(2,int 160)]) [AObj.box [AV.sl 9 false (Sq.encs l),AV.sl 11 false (encs v)],AObj.map (metE pre)] []) from loop_exit [kt (show decide ((↑k:Int)<(↑(List.length v):Int))=true from (decide_eq_true (by omega))),ko (Orc.elem (enc x)),ko (Orc.mget (Am.bool false) false),kp (show (0:Int)≤(↑k:Int)∧(encs v)[Int.toNat (↑k:Int)]? = some (enc x) from (el_nat hx)),kp (@hm ),kf (Eq.refl false),kc [] (@Go.Tx.ismk_c (l) (x) (by omega)),kt (show (!isMk l x)=true from (congrArg Bool.not (hq))),kt (Eq.refl true),kp (show ∀ (e:Value × AV),e∈metE pre→AV.idsLt 2 (Prod.snd e)=true from (Go.Tx.met_ids2 _))] (others 55 [2]) 2 (by kernel_rfl))) (by exact ⟨.inr trivial,.inr trivial,trivial⟩)) rfl (SubS.slots ⟨rfl,Sub.refl _,trivial⟩)
theorem ck_e (l:List CE) (v:List MK) (k:Nat) (pre:List MK) (hv:v.length≤1000000000) (hk:¬ (k:Int)<(v.length:Int)) (h:True):RunL P G none 0 (loopAt P 17 0) (ckSt l v k pre) (AEx.exit 0) ckO:=by
 have _:=h
 exact RunL.to (RunL.postH ((show RunL P G none 0 (loopAt P 17 0) (ckSt l v k pre) (AEx.exit 0) (St.mk (slots 55 []) [AObj.box [AV.sl 9 false (Sq.encs l),AV.sl 11 false (encs v)],AObj.map (metE pre)] []) from loop_exit [kf (show decide ((↑k:Int)<(↑(List.length v):Int))=false from (decide_eq_false (by omega)))] (others 55 []) 2 (by kernel_rfl))) (by exact ⟨.inr trivial,.inr trivial,trivial⟩)) rfl (SubS.slots trivial)
theorem ck_o (l:List CE) (v:List MK) (k:Nat) (x:MK) (pre:List MK) (hl:l.length≤1000000000) (hv:v.length≤1000000000) (hk:(k:Int)<(v.length:Int)) (hx:v[k]? = some x) (hq:isMk l x=true) (hs:(k:Int) > 0) (hm:MapGet P 43 (metE pre) (dotV x.dv x.sq) (bool false) (bool false) false) (hp:MapPut P 43 (metE pre) (dotV x.dv x.sq) (bool true) (metE (pre++[x]))) (h:(∃ x3:MK,((0:Int)≤(↑k:Int) - 1∧v[Int.toNat ((↑k:Int) - 1)]? = some x3)∧(((ordM x3 x≥(0:Int))→True)∧((¬ordM x3 x≥(0:Int))→RunL P G none 0 (loopAt P 17 0) (St.mk (slots 55 [(1,AV.ptr 0 0),(4,AV.mp 1),(18,AV.sl 11 false (encs v)),(19,int (↑(List.length v):Int)),(20,int (↑(k+1):Int))]) [AObj.box [AV.sl 9 false (Sq.encs l),AV.sl 11 false (encs v)],AObj.map (metE (pre++[x]))] []) AEx.ret (ckR 160))))):RunL P G none 0 (loopAt P 17 0) (ckSt l v k pre) AEx.ret (ckR 160):=by
 have hz0:decide ((↑k:Int)<(↑(List.length v):Int))=true:=(decide_eq_true (by omega))
 have hz1:(0:Int)≤(↑k:Int)∧(encs v)[Int.toNat (↑k:Int)]? = some (enc x):=(el_nat hx)
 have hz2:=(@hm )
 have hz3:=(@Go.Tx.ismk_c (l) (x) (by omega))
 have hz4:(!isMk l x)=false:=(congrArg Bool.not (hq))
 have hz5:decide ((↑k:Int) > (0:Int))=true:=(decide_eq_true (by omega))
 have hz6:Am.Sub (int (IntKind.wrap IntKind.i64 ((↑k:Int) - 1))) (int ((↑k:Int) - 1)):=(Sub.of_wrap (by omega) (by omega) rfl)
 obtain ⟨x3,o4,h⟩:=h
 have hz7:(0:Int)≤(↑k:Int) - 1∧(encs v)[Int.toNat ((↑k:Int) - 1)]? = some (enc x3):=(el_int o4)
 have hz8:=(@Go.Tx.order_c (x3) (x))
 by_cases c5:(ordM x3 x≥(0:Int))
 · have h:=h.1 c5
   have _:=h
   exact RunL.to (RunL.postH ((show RunL P G none 0 (loopAt P 17 0) (ckSt l v k pre) AEx.ret (St.mk (slots 55 [(2,int 160)]) [AObj.box [AV.sl 9 false (Sq.encs l),AV.sl 11 false (encs v)],AObj.map (metE pre)] []) from loop_exit [kt hz0,ko (Orc.elem (enc x)),ko (Orc.mget (Am.bool false) false),kp hz1,kp hz2,kf (Eq.refl false),kc [] hz3,kf hz4,kt hz5,kv 43 hz6,ko (Orc.elem (enc x3)),kp hz7,kc [] hz8,kt (decide_eq_true c5),kp (show ∀ (e:Value × AV),e∈metE pre→AV.idsLt 2 (Prod.snd e)=true from (Go.Tx.met_ids2 _))] (others 55 [2]) 2 (by kernel_rfl))) (by exact ⟨.inr trivial,.inr trivial,trivial⟩)) rfl (SubS.slots ⟨rfl,Sub.refl _,trivial⟩)
 · have h:=h.2 c5
   exact loop_next [kt hz0,ko (Orc.elem (enc x)),ko (Orc.mget (Am.bool false) false),kp hz1,kp hz2,kf (Eq.refl false),kc [] hz3,kf hz4,kt hz5,kv 43 hz6,ko (Orc.elem (enc x3)),kp hz7,kc [] hz8,kf (decide_eq_false c5),ko (Orc.mput (metE (pre++[x]))),kp (@hp ),kv 54 (show Am.Sub (int (IntKind.wrap IntKind.i64 ((↑k:Int)+1))) (int (↑(k+1):Int)) from (Sub.of_wrap (by omega) (by omega) (by omega))),kp (show ∀ (e:Value × AV),e∈metE (pre++[x])→AV.idsLt 2 (Prod.snd e)=true from (Go.Tx.met_ids2 _))] (others 55 [1,4,18,19,20]) 2 h (by kernel_rfl)
theorem ck_n (l:List CE) (v:List MK) (k:Nat) (x:MK) (pre:List MK) (hl:l.length≤1000000000) (hv:v.length≤1000000000) (hk:(k:Int)<(v.length:Int)) (hx:v[k]? = some x) (hq:isMk l x=true) (hm:MapGet P 43 (metE pre) (dotV x.dv x.sq) (bool false) (bool false) false) (hp:MapPut P 43 (metE pre) (dotV x.dv x.sq) (bool true) (metE (pre++[x]))) (ex:AEx) (s:St) (h:((((↑k:Int) > (0:Int))→(∃ x3:MK,((0:Int)≤(↑k:Int) - 1∧v[Int.toNat ((↑k:Int) - 1)]? = some x3)∧(((ordM x3 x≥(0:Int))→(AEx.ret=ex)∧(St.mk (slots 55 []) [AObj.box [AV.sl 9 false (Sq.encs l),AV.sl 11 false (encs v)],AObj.map (metE pre)] []=s))∧((¬ordM x3 x≥(0:Int))→RunL P G none 0 (loopAt P 17 0) (St.mk (slots 55 [(1,AV.ptr 0 0),(4,AV.mp 1),(18,AV.sl 11 false (encs v)),(19,int (↑(List.length v):Int)),(20,int (↑(k+1):Int))]) [AObj.box [AV.sl 9 false (Sq.encs l),AV.sl 11 false (encs v)],AObj.map (metE (pre++[x]))] []) ex s))))∧((¬(↑k:Int) > (0:Int))→RunL P G none 0 (loopAt P 17 0) (St.mk (slots 55 [(1,AV.ptr 0 0),(4,AV.mp 1),(18,AV.sl 11 false (encs v)),(19,int (↑(List.length v):Int)),(20,int (↑(k+1):Int))]) [AObj.box [AV.sl 9 false (Sq.encs l),AV.sl 11 false (encs v)],AObj.map (metE (pre++[x]))] []) ex s))):RunL P G none 0 (loopAt P 17 0) (ckSt l v k pre) ex s:=by
 have hz0:decide ((↑k:Int)<(↑(List.length v):Int))=true:=(decide_eq_true (by omega))
 have hz1:(0:Int)≤(↑k:Int)∧(encs v)[Int.toNat (↑k:Int)]? = some (enc x):=(el_nat hx)
 have hz2:=(@hm )
 have hz3:=(@Go.Tx.ismk_c (l) (x) (by omega))
 have hz4:(!isMk l x)=false:=(congrArg Bool.not (hq))
 have hz9:=(@hp )
 have hz11:∀ (e:Value × AV),e∈metE (pre++[x])→AV.idsLt 2 (Prod.snd e)=true:=(Go.Tx.met_ids2 _)
 by_cases c2:((↑k:Int) > (0:Int))
 · have h:=h.1 c2
   have hz5:Am.Sub (int (IntKind.wrap IntKind.i64 ((↑k:Int) - 1))) (int ((↑k:Int) - 1)):=(Sub.of_wrap (by omega) (by omega) rfl)
   obtain ⟨x3,o4,h⟩:=h
   have hz6:(0:Int)≤(↑k:Int) - 1∧(encs v)[Int.toNat ((↑k:Int) - 1)]? = some (enc x3):=(el_int o4)
   have hz7:=(@Go.Tx.order_c (x3) (x))
   by_cases c5:(ordM x3 x≥(0:Int))
   · have h:=h.1 c5
     obtain ⟨eX,eS⟩:=h
     exact RunL.to ((show RunL P G none 0 (loopAt P 17 0) (ckSt l v k pre) AEx.ret (St.mk (slots 55 []) [AObj.box [AV.sl 9 false (Sq.encs l),AV.sl 11 false (encs v)],AObj.map (metE pre)] []) from loop_exit [kt hz0,ko (Orc.elem (enc x)),ko (Orc.mget (Am.bool false) false),kp hz1,kp hz2,kf (Eq.refl false),kc [] hz3,kf hz4,kt (decide_eq_true c2),kv 43 hz5,ko (Orc.elem (enc x3)),kp hz6,kc [] hz7,kt (decide_eq_true c5),kp (show ∀ (e:Value × AV),e∈metE pre→AV.idsLt 2 (Prod.snd e)=true from (Go.Tx.met_ids2 _))] (others 55 []) 2 (by kernel_rfl))) eX (SubS.of_eq eS)
   · have h:=h.2 c5
     exact loop_next [kt hz0,ko (Orc.elem (enc x)),ko (Orc.mget (Am.bool false) false),kp hz1,kp hz2,kf (Eq.refl false),kc [] hz3,kf hz4,kt (decide_eq_true c2),kv 43 hz5,ko (Orc.elem (enc x3)),kp hz6,kc [] hz7,kf (decide_eq_false c5),ko (Orc.mput (metE (pre++[x]))),kp hz9,kv 54 (show Am.Sub (int (IntKind.wrap IntKind.i64 ((↑k:Int)+1))) (int (↑(k+1):Int)) from (Sub.of_wrap (by omega) (by omega) (by omega))),kp hz11] (others 55 [1,4,18,19,20]) 2 h (by kernel_rfl)
 · have h:=h.2 c2
   exact loop_next [kt hz0,ko (Orc.elem (enc x)),ko (Orc.mget (Am.bool false) false),kp hz1,kp hz2,kf (Eq.refl false),kc [] hz3,kf hz4,kf (decide_eq_false c2),kf (Eq.refl false),ko (Orc.mput (metE (pre++[x]))),kp hz9,kv 54 (show Am.Sub (int (IntKind.wrap IntKind.i64 ((↑k:Int)+1))) (int (↑(k+1):Int)) from (Sub.of_wrap (by omega) (by omega) (by omega))),kp hz11] (others 55 [1,4,18,19,20]) 2 h (by kernel_rfl)
end Go.Tx


namespace Go.Sq
open Go Go.Am Go.Proofs Go.Seat
def foSt (l:List CE) (k:Nat):St:={ env:=slots 90 [(0,ces l),(2,bool false),(3,int k)],H:=[] }
def fiSt (l:List CE) (k i:Nat):St:={ env:=slots 90 [(0,ces l),(2,bool false),(3,int k),(4,int i)],H:=[] }
theorem fi_w (l:List CE) (x:CE) (k i:Nat) (hx:l[k]? = some x) (hv:l.length≤1000000) (hk:k≤1000000) (hi:i≤k) (ex:AEx) (s':St) (h:((((↑i:Int)<(↑k:Int))→(∃ x2:CE,(l[i]? = some x2)∧((((CE.dv x == CE.dv x2 && (CE.sq x == CE.sq x2 && CE.at' x == CE.at' x2))=true)→(AEx.ret=ex)∧(St.mk (slots 90 [(0,AV.sl 9 false (encs l)),(2,Am.bool false),(3,int (↑k:Int))]) [] []=s'))∧(((CE.dv x == CE.dv x2 && (CE.sq x == CE.sq x2 && CE.at' x == CE.at' x2))=false)→(((CE.dv x=CE.dv x2)→(((CE.sq x=CE.sq x2)→(((CE.tm x=CE.tm x2)→RunL P G none 0 (loopAt P 84 1) (St.mk (slots 90 [(0,AV.sl 9 false (encs l)),(2,Am.bool false),(3,int (↑k:Int)),(4,int (↑(i+1):Int))]) [] []) ex s')∧((¬CE.tm x=CE.tm x2)→(AEx.ret=ex)∧(St.mk (slots 90 [(0,AV.sl 9 false (encs l)),(2,Am.bool false),(3,int (↑k:Int))]) [] []=s'))))∧((¬CE.sq x=CE.sq x2)→RunL P G none 0 (loopAt P 84 1) (St.mk (slots 90 [(0,AV.sl 9 false (encs l)),(2,Am.bool false),(3,int (↑k:Int)),(4,int (↑(i+1):Int))]) [] []) ex s')))∧((¬CE.dv x=CE.dv x2)→RunL P G none 0 (loopAt P 84 1) (St.mk (slots 90 [(0,AV.sl 9 false (encs l)),(2,Am.bool false),(3,int (↑k:Int)),(4,int (↑(i+1):Int))]) [] []) ex s'))))))∧((¬(↑i:Int)<(↑k:Int))→(AEx.exit 2=ex)∧(St.mk (slots 90 [(0,AV.sl 9 false (encs l)),(2,Am.bool false),(3,int (↑k:Int))]) [] []=s')))):RunL P G none 0 (loopAt P 84 1) (fiSt l k i) ex s':=by
 have hz0:(0:Int)≤(↑k:Int)∧(encs l)[Int.toNat (↑k:Int)]? = some (enc x):=(el_nat hx)
 by_cases c1:((↑i:Int)<(↑k:Int))
 · have h:=h.1 c1
   obtain ⟨x2,o3,h⟩:=h
   have hz1:(0:Int)≤(↑i:Int)∧(encs l)[Int.toNat (↑i:Int)]? = some (enc x2):=(el_nat o3)
   rcases Bool.eq_false_or_eq_true ((CE.dv x == CE.dv x2 && (CE.sq x == CE.sq x2 && CE.at' x == CE.at' x2))) with c4 | c4
   · have h:=h.1 c4
     obtain ⟨eX,eS⟩:=h
     exact RunL.to ((show RunL P G none 0 (loopAt P 84 1) (fiSt l k i) AEx.ret (St.mk (slots 90 [(0,AV.sl 9 false (encs l)),(2,Am.bool false),(3,int (↑k:Int))]) [] []) from loop_exit [kt (decide_eq_true c1),ko (Orc.elem (enc x)),ko (Orc.elem (enc x2)),kp hz0,kp hz1,kt c4,kt (Eq.refl true)] (others 90 [0,2,3]) 0 (by kernel_rfl))) eX (SubS.of_eq eS)
   · have h:=h.2 c4
     by_cases c5:(CE.dv x=CE.dv x2)
     · have h:=h.1 c5
       by_cases c6:(CE.sq x=CE.sq x2)
       · have h:=h.1 c6
         by_cases c7:(CE.tm x=CE.tm x2)
         · have h:=h.1 c7
           exact loop_next [kt (decide_eq_true c1),ko (Orc.elem (enc x)),ko (Orc.elem (enc x2)),kp hz0,kp hz1,kf c4,ko (Orc.elem (enc x)),ko (Orc.elem (enc x2)),kp hz0,kp hz1,kt (beq_iff_eq.2 c5),ko (Orc.elem (enc x)),ko (Orc.elem (enc x2)),kp hz0,kp hz1,kt (beq_iff_eq.2 c6),ko (Orc.elem (enc x)),ko (Orc.elem (enc x2)),kp hz0,kp hz1,kf (show (CE.tm x != CE.tm x2)=false from (congrArg Bool.not (beq_iff_eq.2 c7))),kv 22 (show Am.Sub (int (IntKind.wrap IntKind.i64 ((↑i:Int)+1))) (int (↑(i+1):Int)) from (Sub.of_wrap (by omega) (by omega) (by omega)))] (others 90 [0,2,3,4]) 0 h (by kernel_rfl)
         · have h:=h.2 c7
           obtain ⟨eX,eS⟩:=h
           exact RunL.to ((show RunL P G none 0 (loopAt P 84 1) (fiSt l k i) AEx.ret (St.mk (slots 90 [(0,AV.sl 9 false (encs l)),(2,Am.bool false),(3,int (↑k:Int))]) [] []) from loop_exit [kt (decide_eq_true c1),ko (Orc.elem (enc x)),ko (Orc.elem (enc x2)),kp hz0,kp hz1,kf c4,ko (Orc.elem (enc x)),ko (Orc.elem (enc x2)),kp hz0,kp hz1,kt (beq_iff_eq.2 c5),ko (Orc.elem (enc x)),ko (Orc.elem (enc x2)),kp hz0,kp hz1,kt (beq_iff_eq.2 c6),ko (Orc.elem (enc x)),ko (Orc.elem (enc x2)),kp hz0,kp hz1,kt (show (CE.tm x != CE.tm x2)=true from (congrArg Bool.not (beq_eq_false_iff_ne.2 c7)))] (others 90 [0,2,3]) 0 (by kernel_rfl))) eX (SubS.of_eq eS)
       · have h:=h.2 c6
         exact loop_next [kt (decide_eq_true c1),ko (Orc.elem (enc x)),ko (Orc.elem (enc x2)),kp hz0,kp hz1,kf c4,ko (Orc.elem (enc x)),ko (Orc.elem (enc x2)),kp hz0,kp hz1,kt (beq_iff_eq.2 c5),ko (Orc.elem (enc x)),ko (Orc.elem (enc x2)),kp hz0,kp hz1,kf (beq_eq_false_iff_ne.2 c6),kf (Eq.refl false),kv 22 (show Am.Sub (int (IntKind.wrap IntKind.i64 ((↑i:Int)+1))) (int (↑(i+1):Int)) from (Sub.of_wrap (by omega) (by omega) (by omega)))] (others 90 [0,2,3,4]) 0 h (by kernel_rfl)
     · have h:=h.2 c5
       exact loop_next [kt (decide_eq_true c1),ko (Orc.elem (enc x)),ko (Orc.elem (enc x2)),kp hz0,kp hz1,kf c4,ko (Orc.elem (enc x)),ko (Orc.elem (enc x2)),kp hz0,kp hz1,kf (beq_eq_false_iff_ne.2 c5),kf (Eq.refl false),kf (Eq.refl false),kv 22 (show Am.Sub (int (IntKind.wrap IntKind.i64 ((↑i:Int)+1))) (int (↑(i+1):Int)) from (Sub.of_wrap (by omega) (by omega) (by omega)))] (others 90 [0,2,3,4]) 0 h (by kernel_rfl)
 · have h:=h.2 c1
   obtain ⟨eX,eS⟩:=h
   exact RunL.to ((show RunL P G none 0 (loopAt P 84 1) (fiSt l k i) (AEx.exit 2) (St.mk (slots 90 [(0,AV.sl 9 false (encs l)),(2,Am.bool false),(3,int (↑k:Int))]) [] []) from loop_exit [kf (decide_eq_false c1)] (others 90 [0,2,3]) 0 (by kernel_rfl))) eX (SubS.of_eq eS)
theorem fo_bad (l:List CE) (x:CE) (k:Nat) (hx:l[k]? = some x) (hlt:k<l.length) (hv:l.length≤1000000) (hb:CallC P G 92 [cel x] [] (.ret (bool false)) []) (h:True):RunL P G none 0 (loopAt P 84 0) (foSt l k) AEx.ret (St.mk (slots 90 [(0,ces l),(2,Am.bool false)]) [] []):=by
 have _:=h
 exact loop_exit [kv 8 (show Am.Sub (int (↑(List.length (encs l)):Int)) (int (↑(List.length l):Int)) from (Sub.of_eq (by simp only [Go.Sq.encs_length]))),kt (show decide ((↑k:Int)<(↑(List.length l):Int))=true from (decide_eq_true (by omega))),ko (Orc.elem (enc x)),kp (show (0:Int)≤(↑k:Int)∧(encs l)[Int.toNat (↑k:Int)]? = some (enc x) from (el_nat hx)),kc [] (@hb ),kt (Eq.refl true)] (others 90 [0,2]) 0 (by kernel_rfl)
theorem fo_dup (l:List CE) (x:CE) (k:Nat) (hx:l[k]? = some x) (hlt:k<l.length) (hv:l.length≤1000000) (hb:CallC P G 92 [cel x] [] (.ret (bool true)) []) (hL:RunL P G none 0 (loopAt P 84 1) (fiSt l k 0) .ret { env:=slots 90 [(0,ces l),(2,bool false),(3,int k)],H:=[] }) (h:True):RunL P G none 0 (loopAt P 84 0) (foSt l k) AEx.ret (St.mk (slots 90 [(0,ces l),(2,Am.bool false)]) [] []):=by
 have _:=h
 exact loop_exit [kv 8 (show Am.Sub (int (↑(List.length (encs l)):Int)) (int (↑(List.length l):Int)) from (Sub.of_eq (by simp only [Go.Sq.encs_length]))),kt (show decide ((↑k:Int)<(↑(List.length l):Int))=true from (decide_eq_true (by omega))),ko (Orc.elem (enc x)),kp (show (0:Int)≤(↑k:Int)∧(encs l)[Int.toNat (↑k:Int)]? = some (enc x) from (el_nat hx)),kc [] (@hb ),kf (Eq.refl false),kl [6,7,8,9,12,13,14,15,16,17] 0 (@hL )] (others 90 [0,2]) 0 (by kernel_rfl)
theorem fo_ok (l:List CE) (x:CE) (k:Nat) (hx:l[k]? = some x) (hlt:k<l.length) (hv:l.length≤1000000) (hb:CallC P G 92 [cel x] [] (.ret (bool true)) []) (hL:RunL P G none 0 (loopAt P 84 1) (fiSt l k 0) (.exit 2) { env:=slots 90 [(0,ces l),(2,bool false),(3,int k)],H:=[] }) (ex:AEx) (s':St) (h:RunL P G none 0 (loopAt P 84 0) (St.mk (slots 90 [(0,AV.sl 9 false (encs l)),(2,Am.bool false),(3,int (↑(k+1):Int))]) [] []) ex s'):RunL P G none 0 (loopAt P 84 0) (foSt l k) ex s':=by
 exact loop_next [kv 8 (show Am.Sub (int (↑(List.length (encs l)):Int)) (int (↑(List.length l):Int)) from (Sub.of_eq (by simp only [Go.Sq.encs_length]))),kt (show decide ((↑k:Int)<(↑(List.length l):Int))=true from (decide_eq_true (by omega))),ko (Orc.elem (enc x)),kp (show (0:Int)≤(↑k:Int)∧(encs l)[Int.toNat (↑k:Int)]? = some (enc x) from (el_nat hx)),kc [] (@hb ),kf (Eq.refl false),kl [6,7,8,9,12,13,14,15,16,17] 0 (@hL ),kv 11 (show Am.Sub (int (IntKind.wrap IntKind.i64 ((↑k:Int)+1))) (int (↑(k+1):Int)) from (Sub.of_wrap (by omega) (by omega) (by omega)))] (others 90 [0,2,3]) 0 h (by kernel_rfl)
theorem fo_end (l:List CE) (k:Nat) (hlt:l.length≤k) (hv:l.length≤1000000) (h:True):RunL P G none 0 (loopAt P 84 0) (foSt l k) (AEx.exit 0) (St.mk (slots 90 [(0,ces l),(2,Am.bool false)]) [] []):=by
 have _:=h
 exact loop_exit [kv 8 (show Am.Sub (int (↑(List.length (encs l)):Int)) (int (↑(List.length l):Int)) from (Sub.of_eq (by simp only [Go.Sq.encs_length]))),kf (show decide ((↑k:Int)<(↑(List.length l):Int))=false from (decide_eq_false (by omega)))] (others 90 [0,2]) 0 (by kernel_rfl)
def clash (x y:CE):Bool:=(x.dv == y.dv && (x.sq == y.sq && x.at' == y.at')) || (decide (x.dv=y.dv) && decide (x.sq=y.sq) && !decide (x.tm=y.tm))
def clN (l:List CE) (x:CE):Nat→Nat→Bool
 | 0,_=>false
 | n+1,i=>match l[i]? with
  | some y=>clash x y || clN l x n (i+1)
  | none=>false
theorem fi_loop (l:List CE) (x:CE) (k:Nat) (hx:l[k]? = some x) (hv:l.length≤1000000):∀ n i,k - i=n→i≤k→RunL P G none 0 (loopAt P 84 1) (fiSt l k i) (if clN l x n i=true then .ret else .exit 2) { env:=slots 90 [(0,ces l),(2,bool false),(3,int k)],H:=[] }:=by
 have hlt:=(List.getElem?_eq_some_iff.1 hx).1
 intro n
 induction n with
 | zero=>intro i hn hi; exact fi_w l x k i hx hv (by omega) hi _ _ ⟨fun h=>absurd h (by omega),fun _=>⟨rfl,rfl⟩⟩
 | succ n ih =>
  intro i hn hi
  have hil:i<l.length:=by omega
  have hy:l[i]? = some l[i]:=List.getElem?_eq_getElem hil
  have e:clN l x (n+1) i=(clash x l[i] || clN l x n (i+1)):=by rw [clN,hy]
  have nx:clash x l[i]=false→RunL P G none 0 (loopAt P 84 1) (fiSt l k (i+1)) (if clN l x (n+1) i=true then .ret else .exit 2) { env:=slots 90 [(0,ces l),(2,bool false),(3,int k)],H:=[] }:=fun h=>by
   rw [e,h,Bool.false_or]; exact ih (i+1) (by omega) (by omega)
  have st:clash x l[i]=true→AEx.ret=(if clN l x (n+1) i=true then .ret else .exit 2):=fun h=>by
   rw [e,h]; rfl
  refine fi_w l x k i hx hv (by omega) hi _ _ ⟨fun _=>⟨l[i],hy,⟨fun hq=>⟨st (by simp [clash,hq]),rfl⟩,fun hq=>⟨fun h1=>⟨fun h2=>⟨fun h3=>nx (by simp [clash,hq,h3]),fun h3=>⟨st (by simp [clash,h1,h2,h3]),rfl⟩⟩,fun h2=>nx (by simp [clash,hq,h2])⟩,fun h1=>nx (by simp [clash,hq,h1])⟩⟩⟩,fun h=>absurd h (by omega)⟩
def okC (l:List CE) (k:Nat) (x:CE):Bool:=validB x && !clN l x k 0
def foN (l:List CE):Nat→Nat→Bool
 | 0,_=>true
 | n+1,k=>match l[k]? with
  | some x=>okC l k x && foN l n (k+1)
  | none=>true
theorem fo_loop (l:List CE) (hv:l.length≤1000000):∀ n k,l.length - k=n→k≤l.length→RunL P G none 0 (loopAt P 84 0) (foSt l k) (if foN l n k=true then .exit 0 else .ret) { env:=slots 90 [(0,ces l),(2,bool false)],H:=[] }:=by
 intro n
 induction n with
 | zero=>intro k hn hk; exact fo_end l k (by omega) hv trivial
 | succ n ih =>
  intro k hn hk
  have hlt:k<l.length:=by omega
  have hx:l[k]? = some l[k]:=List.getElem?_eq_getElem hlt
  have hb:=rvalid_c l[k]
  have hL:=fi_loop l l[k] k hx hv k 0 (by omega) (by omega)
  have e:foN l (n+1) k=(okC l k l[k] && foN l n (k+1)):=by rw [foN,hx]
  cases hv1:validB l[k] with
  | false =>
   rw [hv1] at hb
   rw [e,show okC l k l[k]=false by simp [okC,hv1]]
   exact fo_bad l l[k] k hx hlt hv hb trivial
  | true =>
   rw [hv1] at hb
   cases hc:clN l l[k] k 0 with
   | true =>
    rw [hc] at hL
    rw [e,show okC l k l[k]=false by simp [okC,hc]]
    exact fo_dup l l[k] k hx hlt hv hb hL trivial
   | false =>
    rw [hc] at hL
    rw [e,show okC l k l[k]=true by simp [okC,hc,hv1],Bool.true_and]
    exact fo_ok l l[k] k hx hlt hv hb hL _ _ (ih (k+1) (by omega) (by omega))
theorem fo_run (l:List CE) (hv:l.length≤1000000):RunL P G none 0 (loopAt P 84 0) (foSt l 0) (if foN l l.length 0=true then .exit 0 else .ret) { env:=slots 90 [(0,ces l),(2,bool false)],H:=[] }:=fo_loop l hv l.length 0 (by omega) (by omega)
def roSt (l:List CE) (k:Nat):St:={ env:=slots 90 [(0,ces l),(2,bool false),(5,int k)],H:=[] }
theorem ro_w (l:List CE) (k:Nat) (hv:l.length≤1000000) (ex:AEx) (s':St) (h:((((↑k:Int)<(↑(List.length l):Int))→(∃ x2:CE,(l[k]? = some x2)∧((((rootB l x2)=true)→RunL P G none 0 (loopAt P 84 2) (St.mk (slots 90 [(0,AV.sl 9 false (encs l)),(2,Am.bool false),(5,int (↑(k+1):Int))]) [] []) ex s')∧(((rootB l x2)=false)→(AEx.ret=ex)∧(St.mk (slots 90 [(2,Am.bool false)]) [] []=s')))))∧((¬(↑k:Int)<(↑(List.length l):Int))→(AEx.exit 4=ex)∧(St.mk (slots 90 [(2,Am.bool false)]) [] []=s')))):RunL P G none 0 (loopAt P 84 2) (roSt l k) ex s':=by
 have hz0:Am.Sub (int (↑(List.length (encs l)):Int)) (int (↑(List.length l):Int)):=(Sub.of_eq (by simp only [Go.Sq.encs_length]))
 by_cases c1:((↑k:Int)<(↑(List.length l):Int))
 · have h:=h.1 c1
   obtain ⟨x2,o3,h⟩:=h
   have hz1:(0:Int)≤(↑k:Int)∧(encs l)[Int.toNat (↑k:Int)]? = some (enc x2):=(el_nat o3)
   have hz2:=(@Go.Sq.root_c (l) (x2) (by omega))
   rcases Bool.eq_false_or_eq_true ((rootB l x2)) with c4 | c4
   · have h:=h.1 c4
     exact loop_next [kv 79 hz0,kt (decide_eq_true c1),ko (Orc.elem (enc x2)),kp hz1,kc [] hz2,kf (show (!rootB l x2)=false from (congrArg Bool.not (c4))),kv 82 (show Am.Sub (int (IntKind.wrap IntKind.i64 ((↑k:Int)+1))) (int (↑(k+1):Int)) from (Sub.of_wrap (by omega) (by omega) (by omega)))] (others 90 [0,2,5]) 0 h (by kernel_rfl)
   · have h:=h.2 c4
     obtain ⟨eX,eS⟩:=h
     exact RunL.to ((show RunL P G none 0 (loopAt P 84 2) (roSt l k) AEx.ret (St.mk (slots 90 [(2,Am.bool false)]) [] []) from loop_exit [kv 79 hz0,kt (decide_eq_true c1),ko (Orc.elem (enc x2)),kp hz1,kc [] hz2,kt (show (!rootB l x2)=true from (congrArg Bool.not (c4)))] (others 90 [2]) 0 (by kernel_rfl))) eX (SubS.of_eq eS)
 · have h:=h.2 c1
   obtain ⟨eX,eS⟩:=h
   exact RunL.to ((show RunL P G none 0 (loopAt P 84 2) (roSt l k) (AEx.exit 4) (St.mk (slots 90 [(2,Am.bool false)]) [] []) from loop_exit [kv 79 hz0,kf (decide_eq_false c1)] (others 90 [2]) 0 (by kernel_rfl))) eX (SubS.of_eq eS)
def roN (l:List CE):Nat→Nat→Bool
 | 0,_=>true
 | n+1,k=>match l[k]? with
  | some x=>rootB l x && roN l n (k+1)
  | none=>true
theorem ro_loop (l:List CE) (hv:l.length≤1000000):∀ n k,l.length - k=n→k≤l.length→RunL P G none 0 (loopAt P 84 2) (roSt l k) (if roN l n k=true then .exit 4 else .ret) { env:=slots 90 [(2,bool false)],H:=[] }:=by
 intro n
 induction n with
 | zero=>intro k hn hk; exact ro_w l k hv _ _ ⟨fun h=>absurd h (by omega),fun _=>⟨rfl,rfl⟩⟩
 | succ n ih =>
  intro k hn hk
  have hlt:k<l.length:=by omega
  have hx:l[k]? = some l[k]:=List.getElem?_eq_getElem hlt
  have e:roN l (n+1) k=(rootB l l[k] && roN l n (k+1)):=by rw [roN,hx]
  refine ro_w l k hv _ _ ⟨fun _=>⟨l[k],hx,⟨fun hq=>?_,fun hq=>?_⟩⟩,fun h=>absurd h (by omega)⟩
  · rw [e,hq,Bool.true_and]; exact ih (k+1) (by omega) (by omega)
  · rw [e,hq]; exact ⟨rfl,rfl⟩
theorem ro_run (l:List CE) (hv:l.length≤1000000):RunL P G none 0 (loopAt P 84 2) (roSt l 0) (if roN l l.length 0=true then .exit 4 else .ret) { env:=slots 90 [(2,bool false)],H:=[] }:=ro_loop l hv l.length 0 (by omega) (by omega)
theorem forms_x (l:List CE) (hv:l.length≤1000000) (o:Bool) (h:(((foN l (List.length l) 0=true)→(((roN l (List.length l) 0=true)→(true)=(o))∧((¬roN l (List.length l) 0=true)→(false)=(o))))∧((¬foN l (List.length l) 0=true)→(false)=(o)))):CallC P G 84 [ces l] [] (AOut.ret (Am.bool o)) []:=by
 by_cases c1:(foN l (List.length l) 0=true)
 · have h:=h.1 c1
   have hz0:RunL P G none 0 (loopAt P 84 0) (St.mk (slots 90 [(0,AV.sl 9 false (encs l)),(2,Am.bool false),(3,int 0)]) [] []) (AEx.exit 0) (St.mk (slots 90 [(0,AV.sl 9 false (encs l)),(2,Am.bool false)]) [] []):=(by have h0:=(@Go.Sq.fo_run (l) (by omega)); simp only [if_pos c1] at h0; exact h0)
   by_cases c2:(roN l (List.length l) 0=true)
   · have h:=h.1 c2
     have e1:=h
     exact callC_out (Sub.bool_eq e1) [kl [1,4,5,6,7,8,9,10,11,12,13,14,15,16,17,18,19,20,21,22,23,24,25,26,27,28,29,30,31,32,33,34,35,36,37,38,39,40,41,42,43,44,45,46,47,48,49,50,51,52,53,54,55,56,57,58,59,60,61,62,63,64,65,66,67,68,69,70,71,72,73,74,75,76,77,78,79,80,81,82,83,84,85,86,87,88,89] 0 hz0,kl [] 0 (show RunL P G none 0 (loopAt P 84 2) (St.mk (slots 90 [(0,AV.sl 9 false (encs l)),(2,Am.bool false),(5,int 0)]) [] []) (AEx.exit 4) (St.mk (slots 90 [(2,Am.bool false)]) [] []) from (by have h0:=(@Go.Sq.ro_run (l) (by omega)); simp only [if_pos c2] at h0; exact h0))] (by kernel_rfl)
   · have h:=h.2 c2
     have e1:=h
     exact callC_out (Sub.bool_eq e1) [kl [1,4,5,6,7,8,9,10,11,12,13,14,15,16,17,18,19,20,21,22,23,24,25,26,27,28,29,30,31,32,33,34,35,36,37,38,39,40,41,42,43,44,45,46,47,48,49,50,51,52,53,54,55,56,57,58,59,60,61,62,63,64,65,66,67,68,69,70,71,72,73,74,75,76,77,78,79,80,81,82,83,84,85,86,87,88,89] 0 hz0,kl [] 0 (show RunL P G none 0 (loopAt P 84 2) (St.mk (slots 90 [(0,AV.sl 9 false (encs l)),(2,Am.bool false),(5,int 0)]) [] []) AEx.ret (St.mk (slots 90 [(2,Am.bool false)]) [] []) from (by have h0:=(@Go.Sq.ro_run (l) (by omega)); simp only [if_neg c2] at h0; exact h0))] (by kernel_rfl)
 · have h:=h.2 c1
   have e1:=h
   exact callC_out (Sub.bool_eq e1) [kl [1,4,5,6,7,8,9,10,11,12,13,14,15,16,17,18,19,20,21,22,23,24,25,26,27,28,29,30,31,32,33,34,35,36,37,38,39,40,41,42,43,44,45,46,47,48,49,50,51,52,53,54,55,56,57,58,59,60,61,62,63,64,65,66,67,68,69,70,71,72,73,74,75,76,77,78,79,80,81,82,83,84,85,86,87,88,89] 0 (show RunL P G none 0 (loopAt P 84 0) (St.mk (slots 90 [(0,AV.sl 9 false (encs l)),(2,Am.bool false),(3,int 0)]) [] []) AEx.ret (St.mk (slots 90 [(0,AV.sl 9 false (encs l)),(2,Am.bool false)]) [] []) from (by have h0:=(@Go.Sq.fo_run (l) (by omega)); simp only [if_neg c1] at h0; exact h0))] (by kernel_rfl)
def formsB (l:List CE):Bool:=foN l l.length 0 && roN l l.length 0
end Go.Sq


namespace Go.Sq
open Go Go.Am Go.Proofs Go.Seat
def lpSt (l ch:List CE) (a b c:Int) (k j:Nat):St:={ env:=slots 83 [(0,ces l),(3,.ptr 0 0),(4,nilS),(5,ces ch),(6,int k),(7,int j)],H:=[.box [int a,int b,int c]] }
theorem lp_w (l ch:List CE) (x:CE) (a b c:Int) (k j:Nat) (hx:l[k]? = some x) (hv:l.length≤1000000) (hc:ch.length≤1000000) (hj:j≤ch.length) (ex:AEx) (s':St) (h:((((↑j:Int)<(↑(List.length ch):Int))→(∃ x2:CE,(ch[j]? = some x2)∧((((gtB x2 x)=true)→RunL P G none 0 (loopAt P 85 1) (St.mk (slots 83 [(0,AV.sl 9 false (encs l)),(3,AV.ptr 0 0),(4,nilS),(5,AV.sl 9 false (encs ch)),(6,int (↑k:Int)),(7,int (↑(j+1):Int))]) [AObj.box [int a,int b,int c]] []) ex s')∧(((gtB x2 x)=false)→(AEx.exit 2=ex)∧(St.mk (slots 83 [(0,AV.sl 9 false (encs l)),(3,AV.ptr 0 0),(4,nilS),(5,AV.sl 9 false (encs ch)),(6,int (↑k:Int)),(7,int (↑j:Int))]) [AObj.box [int a,int b,int c]] []=s')))))∧((¬(↑j:Int)<(↑(List.length ch):Int))→(AEx.exit 2=ex)∧(St.mk (slots 83 [(0,AV.sl 9 false (encs l)),(3,AV.ptr 0 0),(4,nilS),(5,AV.sl 9 false (encs ch)),(6,int (↑k:Int)),(7,int (↑j:Int))]) [AObj.box [int a,int b,int c]] []=s')))):RunL P G none 0 (loopAt P 85 1) (lpSt l ch a b c k j) ex s':=by
 have hz0:Am.Sub (int (↑(List.length (encs ch)):Int)) (int (↑(List.length ch):Int)):=(Sub.of_eq (by simp only [Go.Sq.encs_length]))
 have hz2:(0:Int)≤(↑k:Int)∧(encs l)[Int.toNat (↑k:Int)]? = some (enc x):=(el_nat hx)
 by_cases c1:((↑j:Int)<(↑(List.length ch):Int))
 · have h:=h.1 c1
   obtain ⟨x2,o3,h⟩:=h
   have hz1:(0:Int)≤(↑j:Int)∧(encs ch)[Int.toNat (↑j:Int)]? = some (enc x2):=(el_nat o3)
   have hz3:=(@Go.Sq.gt_c (x2) (x))
   rcases Bool.eq_false_or_eq_true ((gtB x2 x)) with c4 | c4
   · have h:=h.1 c4
     exact loop_next [kv 27 hz0,kt (decide_eq_true c1),ko (Orc.elem (enc x2)),ko (Orc.elem (enc x)),kp hz1,kp hz2,kc [] hz3,kt c4,kv 41 (show Am.Sub (int (IntKind.wrap IntKind.i64 ((↑j:Int)+1))) (int (↑(j+1):Int)) from (Sub.of_wrap (by omega) (by omega) (by omega)))] (others 83 [0,3,4,5,6,7]) 1 h (by kernel_rfl)
   · have h:=h.2 c4
     obtain ⟨eX,eS⟩:=h
     exact RunL.to ((show RunL P G none 0 (loopAt P 85 1) (lpSt l ch a b c k j) (AEx.exit 2) (St.mk (slots 83 [(0,AV.sl 9 false (encs l)),(3,AV.ptr 0 0),(4,nilS),(5,AV.sl 9 false (encs ch)),(6,int (↑k:Int)),(7,int (↑j:Int))]) [AObj.box [int a,int b,int c]] []) from loop_exit [kv 27 hz0,kt (decide_eq_true c1),ko (Orc.elem (enc x2)),ko (Orc.elem (enc x)),kp hz1,kp hz2,kc [] hz3,kf c4] (others 83 [0,3,4,5,6,7]) 1 (by kernel_rfl))) eX (SubS.of_eq eS)
 · have h:=h.2 c1
   obtain ⟨eX,eS⟩:=h
   exact RunL.to ((show RunL P G none 0 (loopAt P 85 1) (lpSt l ch a b c k j) (AEx.exit 2) (St.mk (slots 83 [(0,AV.sl 9 false (encs l)),(3,AV.ptr 0 0),(4,nilS),(5,AV.sl 9 false (encs ch)),(6,int (↑k:Int)),(7,int (↑j:Int))]) [AObj.box [int a,int b,int c]] []) from loop_exit [kv 27 hz0,kf (decide_eq_false c1),kf (Eq.refl false)] (others 83 [0,3,4,5,6,7]) 1 (by kernel_rfl))) eX (SubS.of_eq eS)
def beSt (l:List CE) (a b c:Int) (k:Nat) (ch:List CE):St:={ env:=slots 83 [(0,ces l),(3,.ptr 0 0),(4,nilS),(5,ces ch),(6,int k)],H:=[.box [int a,int b,int c]] }
theorem be_end (l ch:List CE) (a b c:Int) (k:Nat) (hk:l.length≤k) (h:True):RunL P G none 0 (loopAt P 85 0) (beSt l a b c k ch) (AEx.exit 0) (St.mk (slots 83 [(0,ces l),(4,nilS),(5,ces ch)]) [AObj.box [int a,int b,int c]] []):=by
 have _:=h
 exact loop_exit [kv 14 (show Am.Sub (int (↑(List.length (encs l)):Int)) (int (↑(List.length l):Int)) from (Sub.of_eq (by simp only [Go.Sq.encs_length]))),kf (show decide ((↑k:Int)<(↑(List.length l):Int))=false from (decide_eq_false (by omega)))] (others 83 [0,4,5]) 1 (by kernel_rfl)
theorem be_skip (l ch:List CE) (x:CE) (a b c:Int) (k:Nat) (hx:l[k]? = some x) (hlt:k<l.length) (hv:l.length≤1000000) (hne:(x.ad == a && (x.as' == b && x.aa == c))=false) (ex:AEx) (s':St) (h:RunL P G none 0 (loopAt P 85 0) (St.mk (slots 83 [(0,AV.sl 9 false (encs l)),(3,AV.ptr 0 0),(4,nilS),(5,AV.sl 9 false (encs ch)),(6,int (↑(k+1):Int))]) [AObj.box [int a,int b,int c]] []) ex s'):RunL P G none 0 (loopAt P 85 0) (beSt l a b c k ch) ex s':=by
 exact loop_next [kv 14 (show Am.Sub (int (↑(List.length (encs l)):Int)) (int (↑(List.length l):Int)) from (Sub.of_eq (by simp only [Go.Sq.encs_length]))),kt (show decide ((↑k:Int)<(↑(List.length l):Int))=true from (decide_eq_true (by omega))),ko (Orc.elem (enc x)),kp (show (0:Int)≤(↑k:Int)∧(encs l)[Int.toNat (↑k:Int)]? = some (enc x) from (el_nat hx)),kt (show (!(CE.ad x == a && (CE.as' x == b && CE.aa x == c)))=true from (congrArg Bool.not (hne))),kv 17 (show Am.Sub (int (IntKind.wrap IntKind.i64 ((↑k:Int)+1))) (int (↑(k+1):Int)) from (Sub.of_wrap (by omega) (by omega) (by omega)))] (others 83 [0,3,4,5,6]) 1 h (by kernel_rfl)
theorem be_ins (l ch:List CE) (x:CE) (a b c:Int) (k j:Nat) (hx:l[k]? = some x) (hlt:k<l.length) (hv:l.length≤1000000) (hc:ch.length≤1000000) (hj:j≤ch.length) (heq:(x.ad == a && (x.as' == b && x.aa == c))=true) (hL:RunL P G none 0 (loopAt P 85 1) (lpSt l ch a b c k 0) (.exit 2) (lpSt l ch a b c k j)) (ex:AEx) (s':St) (h:(((encs (List.take j ch)=[])→RunL P G none 0 (loopAt P 85 0) (St.mk (slots 83 [(0,AV.sl 9 false (encs l)),(3,AV.ptr 0 0),(4,nilS),(5,AV.own 1 1 0 (1+List.length (List.drop j ch))),(6,int (↑(k+1):Int))]) [AObj.box [int a,int b,int c],AObj.arr 1 9 false ([int (CE.dv x),int (CE.sq x),int (CE.at' x),int (CE.ad x),int (CE.as' x),int (CE.aa x),int (CE.tm x),str (CE.vl x),Am.bool (CE.gn x)]::encs (List.drop j ch))] []) ex s')∧((¬encs (List.take j ch)=[])→RunL P G none 0 (loopAt P 85 0) (St.mk (slots 83 [(0,AV.sl 9 false (encs l)),(3,AV.ptr 0 0),(4,nilS),(5,AV.own 1 2 0 (List.length (List.take j ch++[CE.mk (CE.dv x) (CE.sq x) (CE.at' x) (CE.ad x) (CE.as' x) (CE.aa x) (CE.tm x) (CE.vl x) (CE.gn x)])+List.length (List.drop j ch))),(6,int (↑(k+1):Int))]) [AObj.box [int a,int b,int c],AObj.arr 2 9 false (encs (List.take j ch++[CE.mk (CE.dv x) (CE.sq x) (CE.at' x) (CE.ad x) (CE.as' x) (CE.aa x) (CE.tm x) (CE.vl x) (CE.gn x)]++List.drop j ch))] []) ex s'))):RunL P G none 0 (loopAt P 85 0) (beSt l a b c k ch) ex s':=by
 have hz0:Am.Sub (int (↑(List.length (encs l)):Int)) (int (↑(List.length l):Int)):=(Sub.of_eq (by simp only [Int.toNat_natCast,Go.Sq.encs_length]))
 have hz1:decide ((↑k:Int)<(↑(List.length l):Int))=true:=(decide_eq_true (by omega))
 have hz2:(0:Int)≤(↑k:Int)∧(encs l)[Int.toNat (↑k:Int)]? = some (enc x):=(el_nat hx)
 have hz3:(!(CE.ad x == a && (CE.as' x == b && CE.aa x == c)))=false:=(congrArg Bool.not (heq))
 have hz4:=(@hL )
 have hz5:Am.Sub (AV.sl 9 false (List.drop 0 (List.take (Int.toNat (↑j:Int)) (encs ch)))) (AV.sl 9 false (encs (List.take j ch))):=(Sub.of_eq (by simp only [Int.toNat_natCast,List.drop_zero,Go.Sq.encs_take]))
 have hz6:(0:Int)≤(0:Int)∧(0:Int)≤(↑j:Int)∧(↑j:Int)≤(↑(List.length (encs ch)):Int):=(by rw [Go.Sq.encs_length]; omega)
 have hz12:0=0:=(rfl)
 have hz13:1=1:=(rfl)
 by_cases c2:(encs (List.take j ch)=[])
 · have h:=h.1 c2
   exact loop_next [kv 14 hz0,kt hz1,ko (Orc.elem (enc x)),kp hz2,kf hz3,kl [12,13,14,15,18,19,20,21,22,23,24] 1 hz4,kv 45 hz5,ko (Orc.emp),ko (Orc.elem (enc x)),kp hz6,kp c2,kp hz2,kp (show [[int (CE.dv x),int (CE.sq x),int (CE.at' x),int (CE.ad x),int (CE.as' x),int (CE.aa x),int (CE.tm x),str (CE.vl x),Am.bool (CE.gn x)]]≠[] from (by simp)),kp (show 80≤140737488355328 from (by omega)),kv 57 (show Am.Sub (AV.sl 9 false (List.drop (Int.toNat (↑j:Int)) (List.take (Int.toNat (↑(List.length (encs ch)):Int)) (encs ch)))) (AV.sl 9 false (encs (List.drop j ch))) from (Sub.of_eq (by simp only [Int.toNat_natCast,List.take_length,Go.Sq.encs_length,Go.Sq.encs_take,Go.Sq.encs_drop]))),kp (show (0:Int)≤(↑j:Int)∧(↑j:Int)≤(↑(List.length (encs ch)):Int)∧(↑(List.length (encs ch)):Int)≤(↑(List.length (encs ch)):Int) from (by rw [Go.Sq.encs_length]; omega)),kv 58 (show Am.Sub (AV.own 1 1 0 (1+List.length (encs (List.drop j ch)))) (AV.own 1 1 0 (1+List.length (List.drop j ch))) from (Sub.of_eq (by simp only [Int.toNat_natCast,Go.Sq.encs_length]))),kp hz12,kp hz13,kp (show (1+List.length (encs (List.drop j ch))) * 80≤140737488355328 from (by simp only [List.length_append,List.length_cons,List.length_nil,List.length_map,Go.Sq.encs_length,List.length_drop,List.length_take]<;>omega)),kv 17 (show Am.Sub (int (IntKind.wrap IntKind.i64 ((↑k:Int)+1))) (int (↑(k+1):Int)) from (Sub.of_wrap (by omega) (by omega) (by omega)))] (others 83 [0,3,4,5,6]) 2 h (by kernel_rfl)
 · have h:=h.2 c2
   exact loop_next [kv 14 hz0,kt hz1,ko (Orc.elem (enc x)),kp hz2,kf hz3,kl [12,13,14,15,18,19,20,21,22,23,24] 1 hz4,kv 45 hz5,kp hz6,kv 46 (show Am.Sub (AV.own 1 0 0 (0+List.length (encs (List.take j ch)))) (AV.own 1 0 0 (List.length (List.take j ch))) from (Sub.of_eq (by simp [Go.Sq.encs_length,List.length_drop,List.length_take]))),ko (Orc.elem (enc x)),ko (Orc.hp (some 53) (AV.own 1 1 0 (List.length (List.take j ch++[CE.mk (CE.dv x) (CE.sq x) (CE.at' x) (CE.ad x) (CE.as' x) (CE.aa x) (CE.tm x) (CE.vl x) (CE.gn x)]))) [AObj.box [int a,int b,int c],AObj.arr 1 9 false (encs (List.take j ch++[CE.mk (CE.dv x) (CE.sq x) (CE.at' x) (CE.ad x) (CE.as' x) (CE.aa x) (CE.tm x) (CE.vl x) (CE.gn x)]))]),kp c2,kp (show (0+List.length (encs (List.take j ch))) * 80≤140737488355328 from (by simp only [List.length_append,List.length_cons,List.length_nil,List.length_map,Go.Sq.encs_length,List.length_drop,List.length_take]<;>omega)),kp hz2,kp (show Am.Sub (AV.own 1 1 0 (List.length (List.take j ch)+1)) (AV.own 1 1 0 (List.length (List.take j ch++[CE.mk (CE.dv x) (CE.sq x) (CE.at' x) (CE.ad x) (CE.as' x) (CE.aa x) (CE.tm x) (CE.vl x) (CE.gn x)]))) from (Sub.of_eq (by simp [Go.Sq.encs_length,List.length_drop,List.length_take]))),kp (show Am.HSub [AObj.box [int a,int b,int c],AObj.arr 1 9 false (encs (List.take j ch)++[[int (CE.dv x),int (CE.sq x),int (CE.at' x),int (CE.ad x),int (CE.as' x),int (CE.aa x),int (CE.tm x),str (CE.vl x),Am.bool (CE.gn x)]])] [AObj.box [int a,int b,int c],AObj.arr 1 9 false (encs (List.take j ch++[CE.mk (CE.dv x) (CE.sq x) (CE.at' x) (CE.ad x) (CE.as' x) (CE.aa x) (CE.tm x) (CE.vl x) (CE.gn x)]))] from (⟨.inl rfl,.inl (by simp only [Int.toNat_natCast,Go.Sq.encs_append,Go.Sq.encs_mk]),trivial⟩)),kp hz12,kp (show List.length (List.take j ch)=List.length (encs (List.take j ch)) from ((Go.Sq.encs_length _).symm)),kp (show (List.length (List.take j ch)+1) * 80≤140737488355328 from (by simp only [List.length_append,List.length_cons,List.length_nil,List.length_map,Go.Sq.encs_length,List.length_drop,List.length_take]<;>omega)),kv 57 (show Am.Sub (AV.sl 9 false (List.drop (Int.toNat (↑j:Int)) (List.take (Int.toNat (↑(List.length (encs ch)):Int)) (encs ch)))) (AV.sl 9 false (encs (List.drop j ch))) from (Sub.of_eq (by simp only [Int.toNat_natCast,List.take_length,Go.Sq.encs_length,Go.Sq.encs_take,Go.Sq.encs_drop]))),ko (Orc.hp (some 58) (AV.own 1 2 0 (List.length (List.take j ch++[CE.mk (CE.dv x) (CE.sq x) (CE.at' x) (CE.ad x) (CE.as' x) (CE.aa x) (CE.tm x) (CE.vl x) (CE.gn x)])+List.length (List.drop j ch))) [AObj.box [int a,int b,int c],AObj.arr 2 9 false (encs (List.take j ch++[CE.mk (CE.dv x) (CE.sq x) (CE.at' x) (CE.ad x) (CE.as' x) (CE.aa x) (CE.tm x) (CE.vl x) (CE.gn x)]++List.drop j ch))]),kp (show (0:Int)≤(↑j:Int)∧(↑j:Int)≤(↑(List.length (encs ch)):Int)∧(↑(List.length (encs ch)):Int)≤(↑(List.length (encs ch)):Int) from (by rw [Go.Sq.encs_length]; omega)),kp (show Am.Sub (AV.own 1 2 0 (List.length (List.take j ch++[CE.mk (CE.dv x) (CE.sq x) (CE.at' x) (CE.ad x) (CE.as' x) (CE.aa x) (CE.tm x) (CE.vl x) (CE.gn x)])+List.length (encs (List.drop j ch)))) (AV.own 1 2 0 (List.length (List.take j ch++[CE.mk (CE.dv x) (CE.sq x) (CE.at' x) (CE.ad x) (CE.as' x) (CE.aa x) (CE.tm x) (CE.vl x) (CE.gn x)])+List.length (List.drop j ch))) from (Sub.of_eq (by simp only [Int.toNat_natCast,Go.Sq.encs_length]))),kp (show Am.HSub [AObj.box [int a,int b,int c],AObj.arr 2 9 false (encs (List.take j ch++[CE.mk (CE.dv x) (CE.sq x) (CE.at' x) (CE.ad x) (CE.as' x) (CE.aa x) (CE.tm x) (CE.vl x) (CE.gn x)])++encs (List.drop j ch))] [AObj.box [int a,int b,int c],AObj.arr 2 9 false (encs (List.take j ch++[CE.mk (CE.dv x) (CE.sq x) (CE.at' x) (CE.ad x) (CE.as' x) (CE.aa x) (CE.tm x) (CE.vl x) (CE.gn x)]++List.drop j ch))] from (⟨.inl rfl,.inl (by simp only [Int.toNat_natCast,Go.Sq.encs_append]),trivial⟩)),kp hz13,kp (show List.length (List.take j ch++[CE.mk (CE.dv x) (CE.sq x) (CE.at' x) (CE.ad x) (CE.as' x) (CE.aa x) (CE.tm x) (CE.vl x) (CE.gn x)])=List.length (encs (List.take j ch++[CE.mk (CE.dv x) (CE.sq x) (CE.at' x) (CE.ad x) (CE.as' x) (CE.aa x) (CE.tm x) (CE.vl x) (CE.gn x)])) from ((Go.Sq.encs_length _).symm)),kp (show (List.length (List.take j ch++[CE.mk (CE.dv x) (CE.sq x) (CE.at' x) (CE.ad x) (CE.as' x) (CE.aa x) (CE.tm x) (CE.vl x) (CE.gn x)])+List.length (encs (List.drop j ch))) * 80≤140737488355328 from (by simp only [List.length_append,List.length_cons,List.length_nil,List.length_map,Go.Sq.encs_length,List.length_drop,List.length_take]<;>omega)),kv 17 (show Am.Sub (int (IntKind.wrap IntKind.i64 ((↑k:Int)+1))) (int (↑(k+1):Int)) from (Sub.of_wrap (by omega) (by omega) (by omega)))] (others 83 [0,3,4,5,6]) 2 h (by kernel_rfl)
theorem be_fr (l ys:List CE) (a b c:Int) (k g n:Nat) (xs:List (List AV)) (hxs:xs=encs ys) (hn:n=ys.length) {ex:AEx} {s':St} (h:RunL P G none 0 (loopAt P 85 0) (beSt l a b c k ys) ex s') :
 RunL P G none 0 (loopAt P 85 0) { env:=slots 83 [(0,ces l),(3,.ptr 0 0),(4,nilS),(5,.own 1 g 0 n),(6,int k)],H:=[.box [int a,int b,int c],.arr g 9 false xs] } ex s':=by
 subst hxs hn
 refine RunL.frzSlot (t:=5) (z:=encs ys) (y:=ces ys) (H1:=[.box [int a,int b,int c],.arr g 9 true (encs ys)]) (ps:=_) rfl rfl ?_ ?_
 · exact ⟨rfl,encs_all ys,encs_length ys,encs_pure ys,trivial⟩
 · exact RunL.weakPre [] 1 (s2:=beSt l a b c k ys) (ps:=_) rfl trivial h
def bo0 (l ch:List CE) (a b c:Int) (k:Nat):St:={ env:=slots 83 [(0,ces l),(4,nilS),(5,ces ch),(9,.sl 9 true []),(10,int k)],H:=[.box [int a,int b,int c]] }
def bo1 (l ch:List CE) (a b c:Int) (k g:Nat) (t:List CE):St:={ env:=slots 83 [(0,ces l),(4,nilS),(5,ces ch),(9,.own 1 g 0 t.length),(10,int k)],H:=[.box [int a,int b,int c],.arr g 9 false (encs t)] }
theorem bo0_end (l ch:List CE) (a b c:Int) (k:Nat) (hk:ch.length≤k) (h:True):RunL P G none 0 (loopAt P 85 2) (bo0 l ch a b c k) (AEx.exit 4) (St.mk (slots 83 [(4,nilS),(9,AV.sl 9 true [])]) [AObj.box [int a,int b,int c]] []):=by
 have _:=h
 exact loop_exit [kv 62 (show Am.Sub (int (↑(List.length (encs ch)):Int)) (int (↑(List.length ch):Int)) from (Sub.of_eq (by simp only [Go.Sq.encs_length]))),kf (show decide ((↑k:Int)<(↑(List.length ch):Int))=false from (decide_eq_false (by omega)))] (others 83 [4,9]) 1 (by kernel_rfl)
theorem bo1_end (l ch:List CE) (a b c:Int) (k g:Nat) (t:List CE) (hk:ch.length≤k) (h:True):RunL P G none 0 (loopAt P 85 2) (bo1 l ch a b c k g t) (AEx.exit 4) (St.mk (slots 83 [(4,nilS),(9,AV.own 1 g 0 (List.length t))]) [AObj.box [int a,int b,int c],AObj.arr g 9 false (encs t)] []):=by
 have _:=h
 exact loop_exit [kv 62 (show Am.Sub (int (↑(List.length (encs ch)):Int)) (int (↑(List.length ch):Int)) from (Sub.of_eq (by simp only [Go.Sq.encs_length]))),kf (show decide ((↑k:Int)<(↑(List.length ch):Int))=false from (decide_eq_false (by omega)))] (others 83 [4,9]) 2 (by kernel_rfl)
theorem bo0_s (l ch:List CE) (y:CE) (ys:List CE) (a b c:Int) (k:Nat) (hy:ch[k]? = some y) (hlt:k<ch.length) (hc:ch.length≤1000000) (hl:ys.length≤1000000) (hb:CallC P G 85 [ces l,ida y.dv y.sq y.at'] [] (.ret (ces ys)) []) (ex:AEx) (s':St) (h:RunL P G none 0 (loopAt P 85 2) (St.mk (slots 83 [(0,AV.sl 9 false (encs l)),(4,nilS),(5,AV.sl 9 false (encs ch)),(9,AV.own 1 1 0 (1+List.length ys)),(10,int (↑(k+1):Int))]) [AObj.box [int a,int b,int c],AObj.arr 1 9 false ([int (CE.dv y),int (CE.sq y),int (CE.at' y),int (CE.ad y),int (CE.as' y),int (CE.aa y),int (CE.tm y),str (CE.vl y),Am.bool (CE.gn y)]::encs ys)] []) ex s'):RunL P G none 0 (loopAt P 85 2) (bo0 l ch a b c k) ex s':=by
 have hz2:(0:Int)≤(↑k:Int)∧(encs ch)[Int.toNat (↑k:Int)]? = some (enc y):=(el_nat hy)
 exact loop_next [kv 62 (show Am.Sub (int (↑(List.length (encs ch)):Int)) (int (↑(List.length ch):Int)) from (Sub.of_eq (by simp only [Int.toNat_natCast,Go.Sq.encs_length]))),kt (show decide ((↑k:Int)<(↑(List.length ch):Int))=true from (decide_eq_true (by omega))),ko (Orc.elem (enc y)),ko (Orc.elem (enc y)),kp hz2,kp (show [[int (CE.dv y),int (CE.sq y),int (CE.at' y),int (CE.ad y),int (CE.as' y),int (CE.aa y),int (CE.tm y),str (CE.vl y),Am.bool (CE.gn y)]]≠[] from (by simp)),kp (show 80≤140737488355328 from (by omega)),kp hz2,kc [] (@hb ),kv 81 (show Am.Sub (AV.own 1 1 0 (1+List.length (encs ys))) (AV.own 1 1 0 (1+List.length ys)) from (Sub.of_eq (by simp only [Int.toNat_natCast,Go.Sq.encs_length]))),kp (show 0=0 from (rfl)),kp (show 1=1 from (rfl)),kp (show (1+List.length (encs ys)) * 80≤140737488355328 from (by simp only [List.length_append,List.length_cons,List.length_nil,List.length_map,Go.Sq.encs_length]<;>omega)),kv 65 (show Am.Sub (int (IntKind.wrap IntKind.i64 ((↑k:Int)+1))) (int (↑(k+1):Int)) from (Sub.of_wrap (by omega) (by omega) (by omega)))] (others 83 [0,4,5,9,10]) 2 h (by kernel_rfl)
theorem bo1_s (l ch:List CE) (y:CE) (ys t:List CE) (a b c:Int) (k g:Nat) (ht:t.length≤1000000000) (hy:ch[k]? = some y) (hlt:k<ch.length) (hc:ch.length≤1000000) (hl:ys.length≤1000000) (hb:CallC P G 85 [ces l,ida y.dv y.sq y.at'] [] (.ret (ces ys)) []) (ex:AEx) (s':St) (h:RunL P G none 0 (loopAt P 85 2) (St.mk (slots 83 [(0,AV.sl 9 false (encs l)),(4,nilS),(5,AV.sl 9 false (encs ch)),(9,AV.own 1 (g+1+1) 0 (List.length (t++[CE.mk (CE.dv y) (CE.sq y) (CE.at' y) (CE.ad y) (CE.as' y) (CE.aa y) (CE.tm y) (CE.vl y) (CE.gn y)])+List.length ys)),(10,int (↑(k+1):Int))]) [AObj.box [int a,int b,int c],AObj.arr (g+1+1) 9 false (encs (t++[CE.mk (CE.dv y) (CE.sq y) (CE.at' y) (CE.ad y) (CE.as' y) (CE.aa y) (CE.tm y) (CE.vl y) (CE.gn y)]++ys))] []) ex s'):RunL P G none 0 (loopAt P 85 2) (bo1 l ch a b c k g t) ex s':=by
 have hz2:(0:Int)≤(↑k:Int)∧(encs ch)[Int.toNat (↑k:Int)]? = some (enc y):=(el_nat hy)
 exact loop_next [kv 62 (show Am.Sub (int (↑(List.length (encs ch)):Int)) (int (↑(List.length ch):Int)) from (Sub.of_eq (by simp only [Int.toNat_natCast,Go.Sq.encs_length]))),kt (show decide ((↑k:Int)<(↑(List.length ch):Int))=true from (decide_eq_true (by omega))),ko (Orc.elem (enc y)),ko (Orc.hp (some 72) (AV.own 1 (g+1) 0 (List.length (t++[CE.mk (CE.dv y) (CE.sq y) (CE.at' y) (CE.ad y) (CE.as' y) (CE.aa y) (CE.tm y) (CE.vl y) (CE.gn y)]))) [AObj.box [int a,int b,int c],AObj.arr (g+1) 9 false (encs (t++[CE.mk (CE.dv y) (CE.sq y) (CE.at' y) (CE.ad y) (CE.as' y) (CE.aa y) (CE.tm y) (CE.vl y) (CE.gn y)]))]),ko (Orc.elem (enc y)),kp hz2,kp (show Am.Sub (AV.own 1 (g+1) 0 (List.length t+1)) (AV.own 1 (g+1) 0 (List.length (t++[CE.mk (CE.dv y) (CE.sq y) (CE.at' y) (CE.ad y) (CE.as' y) (CE.aa y) (CE.tm y) (CE.vl y) (CE.gn y)]))) from (Sub.of_eq (by simp [Go.Sq.encs_length,List.length_append,Go.Sq.encs_ids]))),kp (show Am.HSub [AObj.box [int a,int b,int c],AObj.arr (g+1) 9 false (encs t++[[int (CE.dv y),int (CE.sq y),int (CE.at' y),int (CE.ad y),int (CE.as' y),int (CE.aa y),int (CE.tm y),str (CE.vl y),Am.bool (CE.gn y)]])] [AObj.box [int a,int b,int c],AObj.arr (g+1) 9 false (encs (t++[CE.mk (CE.dv y) (CE.sq y) (CE.at' y) (CE.ad y) (CE.as' y) (CE.aa y) (CE.tm y) (CE.vl y) (CE.gn y)]))] from (⟨.inl rfl,.inl (by simp only [Int.toNat_natCast,Go.Sq.encs_append,Go.Sq.encs_mk]),trivial⟩)),kp (show g=g from (rfl)),kp (show List.length t=List.length (encs t) from ((Go.Sq.encs_length _).symm)),kp (show (List.length t+1) * 80≤140737488355328 from (by omega)),kp hz2,kc [] (@hb ),ko (Orc.hp (some 81) (AV.own 1 (g+1+1) 0 (List.length (t++[CE.mk (CE.dv y) (CE.sq y) (CE.at' y) (CE.ad y) (CE.as' y) (CE.aa y) (CE.tm y) (CE.vl y) (CE.gn y)])+List.length ys)) [AObj.box [int a,int b,int c],AObj.arr (g+1+1) 9 false (encs (t++[CE.mk (CE.dv y) (CE.sq y) (CE.at' y) (CE.ad y) (CE.as' y) (CE.aa y) (CE.tm y) (CE.vl y) (CE.gn y)]++ys))]),kp (show Am.Sub (AV.own 1 (g+1+1) 0 (List.length (t++[CE.mk (CE.dv y) (CE.sq y) (CE.at' y) (CE.ad y) (CE.as' y) (CE.aa y) (CE.tm y) (CE.vl y) (CE.gn y)])+List.length (encs ys))) (AV.own 1 (g+1+1) 0 (List.length (t++[CE.mk (CE.dv y) (CE.sq y) (CE.at' y) (CE.ad y) (CE.as' y) (CE.aa y) (CE.tm y) (CE.vl y) (CE.gn y)])+List.length ys)) from (Sub.of_eq (by simp only [Int.toNat_natCast,Go.Sq.encs_length]))),kp (show Am.HSub [AObj.box [int a,int b,int c],AObj.arr (g+1+1) 9 false (encs (t++[CE.mk (CE.dv y) (CE.sq y) (CE.at' y) (CE.ad y) (CE.as' y) (CE.aa y) (CE.tm y) (CE.vl y) (CE.gn y)])++encs ys)] [AObj.box [int a,int b,int c],AObj.arr (g+1+1) 9 false (encs (t++[CE.mk (CE.dv y) (CE.sq y) (CE.at' y) (CE.ad y) (CE.as' y) (CE.aa y) (CE.tm y) (CE.vl y) (CE.gn y)]++ys))] from (⟨.inl rfl,.inl (by simp only [Int.toNat_natCast,Go.Sq.encs_append]),trivial⟩)),kp (show g+1=g+1 from (rfl)),kp (show List.length (t++[CE.mk (CE.dv y) (CE.sq y) (CE.at' y) (CE.ad y) (CE.as' y) (CE.aa y) (CE.tm y) (CE.vl y) (CE.gn y)])=List.length (encs (t++[CE.mk (CE.dv y) (CE.sq y) (CE.at' y) (CE.ad y) (CE.as' y) (CE.aa y) (CE.tm y) (CE.vl y) (CE.gn y)])) from ((Go.Sq.encs_length _).symm)),kp (show (List.length (t++[CE.mk (CE.dv y) (CE.sq y) (CE.at' y) (CE.ad y) (CE.as' y) (CE.aa y) (CE.tm y) (CE.vl y) (CE.gn y)])+List.length (encs ys)) * 80≤140737488355328 from (by simp only [List.length_append,List.length_cons,List.length_nil,List.length_map,Go.Sq.encs_length,List.length_append,Go.Sq.encs_ids]<;>omega)),kv 65 (show Am.Sub (int (IntKind.wrap IntKind.i64 ((↑k:Int)+1))) (int (↑(k+1):Int)) from (Sub.of_wrap (by omega) (by omega) (by omega)))] (others 83 [0,4,5,9,10]) 2 h (by kernel_rfl)
theorem bf0_w (l ch:List CE) (a b c:Int) (hv:l.length≤1000000) (hc:ch.length≤1000000) (hL:RunL P G none 0 (loopAt P 85 0) (beSt l a b c 0 []) (.exit 0) { env:=slots 83 [(0,ces l),(4,nilS),(5,ces ch)],H:=[.box [int a,int b,int c]] }) (hM:RunL P G none 0 (loopAt P 85 2) (bo0 l ch a b c 0) (.exit 4) { env:=slots 83 [(4,nilS),(9,.sl 9 true [])],H:=[.box [int a,int b,int c]] }) (h:True):CallC P G 85 [ces l,ida a b c] [] (AOut.ret (ces [])) []:=by
 have _:=h
 exact CallC.out ((show CallC P G 85 [ces l,ida a b c] [] (AOut.ret (AV.sl 9 true [])) [] from callC_of [kl [1,2,7,8,9,10,11,12,13,14,15,16,17,18,19,20,21,22,23,24,25,26,27,28,29,30,31,32,33,34,35,36,37,38,39,40,41,42,43,44,45,46,47,48,49,50,51,52,53,54,55,56,57,58,59,60,61,62,63,64,65,66,67,68,69,70,71,72,73,74,75,76,77,78,79,80,81,82] 1 (show RunL P G none 0 (loopAt P 85 0) (St.mk (slots 83 [(0,AV.sl 9 false (encs l)),(3,AV.ptr 0 0),(4,nilS),(5,AV.sl 9 true []),(6,int 0)]) [AObj.box [int a,int b,int c]] []) (AEx.exit 0) (St.mk (slots 83 [(0,AV.sl 9 false (encs l)),(4,nilS),(5,AV.sl 9 false (encs ch))]) [AObj.box [int a,int b,int c]] []) from (RunL.pre (@hL ) (SubS.slots ⟨rfl,Sub.refl _,rfl,Sub.refl _,rfl,Sub.refl _,rfl,Sub.loose _ _ _,rfl,Sub.refl _,trivial⟩))),kl [59] 1 (@hM )] (by kernel_rfl))) (Sub.loose _ _ _)
theorem bf1_w (l ch t:List CE) (a b c:Int) (g:Nat) (hv:l.length≤1000000) (hc:ch.length≤1000000) (ht:t.length≤1000000000) (hL:RunL P G none 0 (loopAt P 85 0) (beSt l a b c 0 []) (.exit 0) { env:=slots 83 [(0,ces l),(4,nilS),(5,ces ch)],H:=[.box [int a,int b,int c]] }) (hM:RunL P G none 0 (loopAt P 85 2) (bo0 l ch a b c 0) (.exit 4) { env:=slots 83 [(4,nilS),(9,.own 1 g 0 t.length)],H:=[.box [int a,int b,int c],.arr g 9 false (encs t)] }) (h:True):CallC P G 85 [ces l,ida a b c] [] (AOut.ret (ces t)) []:=by
 have _:=h
 exact callC_of [kl [1,2,7,8,9,10,11,12,13,14,15,16,17,18,19,20,21,22,23,24,25,26,27,28,29,30,31,32,33,34,35,36,37,38,39,40,41,42,43,44,45,46,47,48,49,50,51,52,53,54,55,56,57,58,59,60,61,62,63,64,65,66,67,68,69,70,71,72,73,74,75,76,77,78,79,80,81,82] 1 (show RunL P G none 0 (loopAt P 85 0) (St.mk (slots 83 [(0,AV.sl 9 false (encs l)),(3,AV.ptr 0 0),(4,nilS),(5,AV.sl 9 true []),(6,int 0)]) [AObj.box [int a,int b,int c]] []) (AEx.exit 0) (St.mk (slots 83 [(0,AV.sl 9 false (encs l)),(4,nilS),(5,AV.sl 9 false (encs ch))]) [AObj.box [int a,int b,int c]] []) from (RunL.pre (@hL ) (SubS.slots ⟨rfl,Sub.refl _,rfl,Sub.refl _,rfl,Sub.refl _,rfl,Sub.loose _ _ _,rfl,Sub.refl _,trivial⟩))),kl [59] 1 (@hM ),ko (Orc.frz (encs t)),kp (show g=g from (rfl)),kp (show List.take (List.length t) (List.drop 0 (encs t))=encs t from (Go.Sq.encs_all _)),kp (show List.length (encs t)=List.length t from (Go.Sq.encs_length _)),kp (show ∀ (c:List AV),c∈encs t→List.all c AV.pureB=true from (Go.Sq.encs_pure _))] (by kernel_rfl)
end Go.Sq


namespace Go.Sq
open Go Go.Am Go.Proofs Go.Seat
def ins (x:CE) (ch:List CE):List CE:=ch.takeWhile (fun y=>gtB y x)++x::ch.dropWhile (fun y=>gtB y x)
theorem ins_len (x:CE) (ch:List CE):(ins x ch).length=ch.length+1:=by
 have:=congrArg List.length (List.takeWhile_append_dropWhile (p:=fun y=>gtB y x) (l:=ch))
 simp only [ins,List.length_append,List.length_cons] at this ⊢
 omega
theorem take_tw {α:Type} (p:α→Bool):∀ l:List α,l.take (l.takeWhile p).length=l.takeWhile p
 | []=>rfl
 | x::l=>by
  rw [List.takeWhile_cons]
  split
  · simp [take_tw p l]
  · rfl
theorem drop_tw {α:Type} (p:α→Bool):∀ l:List α,l.drop (l.takeWhile p).length=l.dropWhile p
 | []=>rfl
 | x::l=>by
  rw [List.takeWhile_cons,List.dropWhile_cons]
  split
  · simp [drop_tw p l]
  · rfl
theorem lp_loop (l ch:List CE) (x:CE) (a b c:Int) (k:Nat) (hx:l[k]? = some x) (hv:l.length≤1000000) (hc:ch.length≤1000000):∀ n j,ch.length - j=n→j≤ch.length →
 RunL P G none 0 (loopAt P 85 1) (lpSt l ch a b c k j) (.exit 2) (lpSt l ch a b c k (j+((ch.drop j).takeWhile (fun y=>gtB y x)).length)):=by
 intro n
 induction n with
 | zero =>
  intro j hn hj
  refine lp_w l ch x a b c k j hx hv hc hj _ _ ⟨fun h=>absurd h (by omega),fun _=>⟨rfl,?_⟩⟩
  rw [List.drop_eq_nil_of_le (by omega)]; rfl
 | succ n ih =>
  intro j hn hj
  have hlt:j<ch.length:=by omega
  have hy:ch[j]? = some ch[j]:=List.getElem?_eq_getElem hlt
  refine lp_w l ch x a b c k j hx hv hc hj _ _ ⟨fun _=>⟨ch[j],hy,⟨fun hq=>?_,fun hq=>⟨rfl,?_⟩⟩⟩,fun h=>absurd h (by omega)⟩
  · rw [List.drop_eq_getElem_cons hlt,List.takeWhile_cons,if_pos hq,List.length_cons,show j+(((ch.drop (j+1)).takeWhile (fun y=>gtB y x)).length+1)=(j+1)+((ch.drop (j+1)).takeWhile (fun y=>gtB y x)).length by omega]
    exact ih (j+1) (by omega) (by omega)
  · rw [List.drop_eq_getElem_cons hlt,List.takeWhile_cons,if_neg (by rw [hq]; decide)]; rfl
def isKid (a b c:Int) (x:CE):Bool:=x.ad == a && (x.as' == b && x.aa == c)
def kidsN (a b c:Int):List CE→List CE→List CE
 | [],acc=>acc
 | x::r,acc=>kidsN a b c r (if isKid a b c x=true then ins x acc else acc)
theorem kidsN_len (a b c:Int):∀ r acc,(kidsN a b c r acc).length≤r.length+acc.length
 | [],acc=>by simp [kidsN]
 | x::r,acc=>by
  rw [kidsN]
  have:=kidsN_len a b c r (if isKid a b c x=true then ins x acc else acc)
  split at this<;>(try rw [ins_len] at this)<;>simp only [List.length_cons]<;>rename_i h<;>simp only [h,if_true,if_false,Bool.false_eq_true] at this⊢<;> (try rw [ins_len] at this)<;>omega
def kids (l:List CE) (a b c:Int):List CE:=kidsN a b c l []
theorem kids_len (l:List CE) (a b c:Int):(kids l a b c).length≤l.length:=by have:=kidsN_len a b c l []; simpa [kids] using this
theorem be_loop (l:List CE) (a b c:Int) (hv:l.length≤1000000):∀ n k ch,l.length - k=n→k≤l.length→ch.length≤k →
 RunL P G none 0 (loopAt P 85 0) (beSt l a b c k ch) (.exit 0) { env:=slots 83 [(0,ces l),(4,nilS),(5,ces (kidsN a b c (l.drop k) ch))],H:=[.box [int a,int b,int c]] }:=by
 intro n
 induction n with
 | zero =>
  intro k ch hn hk hc
  rw [List.drop_eq_nil_of_le (by omega)]
  exact be_end l ch a b c k (by omega) trivial
 | succ n ih =>
  intro k ch hn hk hc
  have hlt:k<l.length:=by omega
  have hx:l[k]? = some l[k]:=List.getElem?_eq_getElem hlt
  rw [List.drop_eq_getElem_cons hlt,kidsN]
  cases hq:isKid a b c l[k] with
  | false =>
   rw [if_neg (by decide)]
   exact be_skip l ch l[k] a b c k hx hlt hv hq _ _ (ih (k+1) ch (by omega) (by omega) (by omega))
  | true =>
   rw [if_pos rfl]
   have hj:(ch.takeWhile (fun y=>gtB y l[k])).length≤ch.length:=(List.takeWhile_sublist _).length_le
   have hL:=lp_loop l ch l[k] a b c k hx hv (by omega) ch.length 0 (by omega) (by omega)
   rw [List.drop_zero,Nat.zero_add] at hL
   have next:=ih (k+1) (ins l[k] ch) (by omega) (by omega) (by rw [ins_len]; omega)
   refine be_ins l ch l[k] a b c k _ hx hlt hv (by omega) hj hq hL _ _ ?_
   rw [take_tw,drop_tw]
   refine ⟨fun h=>?_,fun h=>?_⟩
   · have h0:ch.takeWhile (fun y=>gtB y l[k])=[]:=by simpa [encs] using h
     exact be_fr l (ins l[k] ch) a b c (k+1) 1 _ _ (by simp [ins,h0,encs,enc]) (by simp [ins,h0]; omega) next
   · exact be_fr l (ins l[k] ch) a b c (k+1) 2 _ _ (by simp [ins]) (by simp [ins]; omega) next
def belowF (l:List CE):Nat→Int→Int→Int→List CE
 | 0,_,_,_=>[]
 | n+1,a,b,c=>(kids l a b c).flatMap fun y=>y::belowF l n y.dv y.sq y.at'
def Deep (l:List CE):Nat→Int→Int→Int→Prop
 | 0,_,_,_=>False
 | n+1,a,b,c=>(belowF l (n+1) a b c).length≤1000000∧∀ y∈kids l a b c,Deep l n y.dv y.sq y.at'
theorem Deep.len {l:List CE}:∀ {n:Nat} {a b c:Int},Deep l n a b c→(belowF l n a b c).length≤1000000
 | 0,_,_,_,h=>h.elim
 | _+1,_,_,_,h=>h.1
theorem Deep.kid {l:List CE} {n:Nat} {a b c:Int} (h:Deep l (n+1) a b c) {y:CE} (hy:y∈kids l a b c):Deep l n y.dv y.sq y.at':=h.2 y hy
theorem bo1_loop (l ch:List CE) (a b c:Int) (rec:CE→List CE) (hc:ch.length≤1000000) (hb:∀ y∈ch,(rec y).length≤1000000∧CallC P G 85 [ces l,ida y.dv y.sq y.at'] [] (.ret (ces (rec y))) []):∀ n k g t,ch.length - k=n→k≤ch.length→t.length+((ch.drop k).flatMap fun y=>y::rec y).length≤1000000000 →
 ∃ g',RunL P G none 0 (loopAt P 85 2) (bo1 l ch a b c k g t) (.exit 4) { env:=slots 83 [(4,nilS),(9,.own 1 g' 0 (t++(ch.drop k).flatMap fun y=>y::rec y).length)],H:=[.box [int a,int b,int c],.arr g' 9 false (encs (t++(ch.drop k).flatMap fun y=>y::rec y))] }:=by
 intro n
 induction n with
 | zero =>
  intro k g t hn hk ht
  rw [List.drop_eq_nil_of_le (by omega)]
  rw [List.flatMap_nil,List.append_nil]
  exact ⟨g,bo1_end l ch a b c k g t (by omega) trivial⟩
 | succ n ih =>
  intro k g t hn hk ht
  have hlt:k<ch.length:=by omega
  have hy:ch[k]? = some ch[k]:=List.getElem?_eq_getElem hlt
  obtain ⟨h1,h2⟩:=hb _ (List.getElem_mem hlt)
  rw [List.drop_eq_getElem_cons hlt] at ht ⊢
  rw [List.flatMap_cons] at ht ⊢
  have e:t++(ch[k]::rec ch[k]++(ch.drop (k+1)).flatMap fun y=>y::rec y)=(t++[ch[k]]++rec ch[k])++(ch.drop (k+1)).flatMap fun y=>y::rec y:=by simp
  simp only [List.length_append,List.length_cons] at ht
  obtain ⟨g',h⟩:=ih (k+1) (g+1+1) (t++[ch[k]]++rec ch[k]) (by omega) (by omega) (by simp only [List.length_append,List.length_cons,List.length_nil]; omega)
  rw [← e] at h
  refine ⟨g',bo1_s l ch ch[k] (rec ch[k]) t a b c k g (by omega) hy hlt hc h1 h2 _ _ ?_⟩
  have e2:(t++[ch[k]]).length+(rec ch[k]).length=(t++[ch[k]]++rec ch[k]).length:=by simp only [List.length_append]
  rw [show (CE.mk ch[k].dv ch[k].sq ch[k].at' ch[k].ad ch[k].as' ch[k].aa ch[k].tm ch[k].vl ch[k].gn)=ch[k] from rfl,e2]
  exact h
theorem below_ch (l:List CE) (a b c:Int) (hv:l.length≤1000000) (rec:CE→List CE) (hb:∀ y∈kids l a b c,(rec y).length≤1000000∧CallC P G 85 [ces l,ida y.dv y.sq y.at'] [] (.ret (ces (rec y))) []) (ht:((kids l a b c).flatMap fun y=>y::rec y).length≤1000000) :
 CallC P G 85 [ces l,ida a b c] [] (.ret (ces ((kids l a b c).flatMap fun y=>y::rec y))) []:=by
 have hL:=be_loop l a b c hv l.length 0 [] (by omega) (by omega) (by simp)
 rw [List.drop_zero] at hL
 have hkl:=kids_len l a b c
 change RunL P G none 0 _ _ _ { env:=slots 83 [(0,ces l),(4,nilS),(5,ces (kids l a b c))],H:=[.box [int a,int b,int c]] } at hL
 generalize kids l a b c=ch at *
 cases ch with
 | nil=>exact bf0_w l [] a b c hv (by simp) hL (bo0_end l [] a b c 0 (by simp) trivial) trivial
 | cons y r =>
  obtain ⟨h1,h2⟩:=hb y (by simp)
  rw [List.flatMap_cons] at ht
  simp only [List.length_append,List.length_cons] at ht
  obtain ⟨g',h⟩:=bo1_loop l (y::r) a b c rec (by omega) hb r.length 1 1 ([y]++rec y) (by simp) (by simp) (by simp only [List.length_append,List.length_cons,List.length_nil,List.drop_succ_cons,List.drop_zero]; omega)
  have e:([y]++rec y)++((y::r).drop 1).flatMap (fun y=>y::rec y)=(y::r).flatMap fun y=>y::rec y:=by simp
  rw [e] at h
  refine bf1_w l (y::r) _ a b c g' hv (by omega) (by rw [List.flatMap_cons]; simp only [List.length_append,List.length_cons]; omega) hL (bo0_s l (y::r) y (rec y) a b c 0 rfl (by simp) (by omega) h1 h2 _ _ ?_) trivial
  have e2:1+(rec y).length=([y]++rec y).length:=by simp; omega
  rw [e2]
  exact h
theorem below_c (l:List CE) (hv:l.length≤1000000):∀ n a b c,Deep l n a b c→CallC P G 85 [ces l,ida a b c] [] (.ret (ces (belowF l n a b c))) []:=by
 intro n
 induction n with
 | zero=>intro a b c h; exact h.elim
 | succ n ih =>
  intro a b c h
  exact below_ch l a b c hv (fun y=>belowF l n y.dv y.sq y.at') (fun y hy=>⟨(h.kid hy).len,ih _ _ _ (h.kid hy)⟩) h.1
end Go.Sq


namespace Go.Sq
open Go Go.Am
theorem gt_iff {a b:CE}:gtB a b=true↔a.tm > b.tm∨a.tm=b.tm∧(a.dv > b.dv∨a.dv=b.dv∧(a.sq > b.sq∨a.sq=b.sq∧a.at' > b.at')):=by
 simp [gtB]
theorem gt_irrefl (a:CE):gtB a a=false:=by
 rw [Bool.eq_false_iff]; intro h; rw [gt_iff] at h; omega
theorem gt_trans {a b c:CE} (h:gtB a b=true) (k:gtB b c=true):gtB a c=true:=by
 rw [gt_iff] at *; omega
theorem gt_total {a b:CE} (h:a.id≠b.id):gtB a b=true∨gtB b a=true:=by
 simp only [gt_iff]
 by_cases h1:a.tm=b.tm<;>by_cases h2:a.dv=b.dv<;>by_cases h3:a.sq=b.sq<;>by_cases h4:a.at'=b.at'
 all_goals first | omega | exact absurd (by simp [CE.id,h2,h3,h4]) h
abbrev Desc (l:List CE):Prop:=l.Pairwise fun a b=>gtB a b=true
theorem Desc.ext:∀ {l m:List CE},Desc l→Desc m→(∀ x,x∈l↔x∈m)→l=m
 | [],[],_,_,_=>rfl
 | [],y::m,_,_,h=>absurd ((h y).2 (by simp)) (by simp)
 | x::l,[],_,_,h=>absurd ((h x).1 (by simp)) (by simp)
 | x::l,y::m,hl,hm,h=>by
  obtain ⟨h1,h2⟩:=List.pairwise_cons.1 hl
  obtain ⟨k1,k2⟩:=List.pairwise_cons.1 hm
  have exy:x=y:=by
   rcases List.mem_cons.1 ((h x).1 (by simp)) with e | e
   · exact e
   · rcases List.mem_cons.1 ((h y).2 (by simp)) with e' | e'
     · exact e'.symm
     · have:=gt_trans (h1 y e') (k1 x e)
       rw [gt_irrefl] at this; cases this
  subst exy
  have nx:x∉l:=fun hx=>by have:=h1 x hx; rw [gt_irrefl] at this; cases this
  have nm:x∉m:=fun hx=>by have:=k1 x hx; rw [gt_irrefl] at this; cases this
  rw [Desc.ext h2 k2 fun z=>?_]
  constructor
  · intro hz
    rcases List.mem_cons.1 ((h z).1 (List.mem_cons_of_mem _ hz)) with e | e
    · subst e; exact absurd hz nx
    · exact e
  · intro hz
    rcases List.mem_cons.1 ((h z).2 (List.mem_cons_of_mem _ hz)) with e | e
    · subst e; exact absurd hz nm
    · exact e
theorem Desc.nodup {l:List CE} (h:Desc l):l.Nodup:=h.imp fun {a b} hab e=>by subst e; rw [gt_irrefl] at hab; cases hab
theorem mem_ins {x y:CE} {ch:List CE}:y∈ins x ch↔y=x∨y∈ch:=by
 have:=List.takeWhile_append_dropWhile (p:=fun y=>gtB y x) (l:=ch)
 constructor
 · intro h
   rcases List.mem_append.1 h with h | h
   · exact .inr (by rw [← this]; exact List.mem_append_left _ h)
   · rcases List.mem_cons.1 h with h | h
     · exact .inl h
     · exact .inr (by rw [← this]; exact List.mem_append_right _ h)
 · rintro (rfl | h)
   · exact List.mem_append_right _ (by simp)
   · rw [← this] at h
     rcases List.mem_append.1 h with h | h
     · exact List.mem_append_left _ h
     · exact List.mem_append_right _ (List.mem_cons_of_mem _ h)
theorem ins_desc {x:CE}:∀ {ch:List CE},Desc ch→(∀ y∈ch,y.id≠x.id)→Desc (ins x ch)
 | [],_,_=>by simp [ins]
 | y::ch,h,hd=>by
  obtain ⟨h1,h2⟩:=List.pairwise_cons.1 h
  cases hg:gtB y x with
  | true =>
   have e:ins x (y::ch)=y::ins x ch:=by simp [ins,hg]
   rw [e]
   refine List.pairwise_cons.2 ⟨fun z hz=>?_,ins_desc h2 fun z hz=>hd z (List.mem_cons_of_mem _ hz)⟩
   rcases mem_ins.1 hz with rfl | hz
   · exact hg
   · exact h1 z hz
  | false =>
   have e:ins x (y::ch)=x::y::ch:=by simp [ins,hg]
   rw [e]
   have hxy:gtB x y=true:=(gt_total (hd y (by simp))).resolve_left (by rw [hg]; decide)
   refine List.pairwise_cons.2 ⟨fun z hz=>?_,h⟩
   rcases List.mem_cons.1 hz with rfl | hz
   · exact hxy
   · exact gt_trans hxy (h1 z hz)
abbrev Ids (l:List CE):Prop:=l.Pairwise fun a b=>a.id≠b.id
theorem kidsN_spec (a b c:Int):∀ r acc,Ids r→(∀ x∈r,∀ y∈acc,y.id≠x.id)→Desc acc→Desc (kidsN a b c r acc)∧∀ y,y∈kidsN a b c r acc↔y∈acc∨(y∈r∧isKid a b c y=true)
 | [],acc,_,_,h=>⟨h,fun y=>by simp [kidsN]⟩
 | x::r,acc,hi,hd,h=>by
  obtain ⟨i1,i2⟩:=List.pairwise_cons.1 hi
  rw [kidsN]
  cases hk:isKid a b c x with
  | true =>
   rw [if_pos rfl]
   obtain ⟨k1,k2⟩:=kidsN_spec a b c r (ins x acc) i2 (fun z hz y hy=>by
    rcases mem_ins.1 hy with rfl | hy
    · exact i1 z hz
    · exact hd z (List.mem_cons_of_mem _ hz) y hy) (ins_desc h fun y hy=>hd x (by simp) y hy)
   refine ⟨k1,fun y=>?_⟩
   rw [k2,mem_ins,List.mem_cons]
   constructor
   · rintro ((rfl | h) | ⟨h,h'⟩)
     · exact .inr ⟨.inl rfl,hk⟩
     · exact .inl h
     · exact .inr ⟨.inr h,h'⟩
   · rintro (h | ⟨rfl | h,h'⟩)
     · exact .inl (.inr h)
     · exact .inl (.inl rfl)
     · exact .inr ⟨h,h'⟩
  | false =>
   rw [if_neg (by decide)]
   obtain ⟨k1,k2⟩:=kidsN_spec a b c r acc i2 (fun z hz y hy=>hd z (List.mem_cons_of_mem _ hz) y hy) h
   refine ⟨k1,fun y=>?_⟩
   rw [k2,List.mem_cons]
   constructor
   · rintro (h | ⟨h,h'⟩)
     · exact .inl h
     · exact .inr ⟨.inr h,h'⟩
   · rintro (h | ⟨rfl | h,h'⟩)
     · exact .inl h
     · rw [hk] at h'; cases h'
     · exact .inr ⟨h,h'⟩
theorem kids_desc {l:List CE} (h:Ids l) (a b c:Int):Desc (kids l a b c):=(kidsN_spec a b c l [] h (by simp) .nil).1
theorem mem_kids {l:List CE} (h:Ids l) {a b c:Int} {y:CE}:y∈kids l a b c↔y∈l∧y.after=(a,b,c):=by
 rw [kids,(kidsN_spec a b c l [] h (by simp) .nil).2]
 simp [isKid,CE.after]
end Go.Sq


namespace Go.Sq
open Go Go.Am Go.Proofs Go.Seat
def stampL (c:CE):List AV:=[int c.tm,int c.dv,int c.sq,int c.at']
theorem stamp_w (c:CE) (h:True):CallC P G 81 [cel c] [] (AOut.ret (AV.agg (stampL c))) []:=by
 have _:=h
 exact callC_of [] (by kernel_rfl)
theorem stamp_c (c:CE):CallC P G 81 [cel c] [] (.ret (.agg [int c.tm,int c.dv,int c.sq,int c.at'])) []:=stamp_w c trivial
theorem nan_w (a:Int) (h:True):CallC P G 83 [int a] [] (AOut.ret (Am.bool (a != a))) []:=by
 have _:=h
 exact callC_of [] (by kernel_rfl)
theorem nan_c (a:Int):CallC P G 83 [int a] [] (.ret (bool false)) []:=by
 have:=nan_w a
 simpa using this
def cmpI (a b:Int):Int:=if a<b then -1 else if b<a then 1 else 0
theorem cmpI_w (a b:Int) (r:Int) (h:(((a<b)→(-1:Int)=(r))∧((¬a<b)→(((a > b)→(1:Int)=(r))∧((¬a > b)→(0:Int)=(r)))))):CallC P G 68 [int a,int b] [] (AOut.ret (int r)) []:=by
 have hz0:=(@Go.Sq.nan_c (a))
 have hz1:=(@Go.Sq.nan_c (b))
 by_cases c1:(a<b)
 · have h:=h.1 c1
   have e1:=h
   exact callC_out (Sub.int_eq e1) [kc [] hz0,kc [] hz1,kf (Eq.refl false),kf (Eq.refl false),kt (decide_eq_true c1)] (by kernel_rfl)
 · have h:=h.2 c1
   by_cases c2:(a > b)
   · have h:=h.1 c2
     have e1:=h
     exact callC_out (Sub.int_eq e1) [kc [] hz0,kc [] hz1,kf (Eq.refl false),kf (Eq.refl false),kf (decide_eq_false c1),kt (decide_eq_true c2)] (by kernel_rfl)
   · have h:=h.2 c2
     have e1:=h
     exact callC_out (Sub.int_eq e1) [kc [] hz0,kc [] hz1,kf (Eq.refl false),kf (Eq.refl false),kf (decide_eq_false c1),kf (decide_eq_false c2)] (by kernel_rfl)
theorem cmpI_c (a b:Int):CallC P G 68 [int a,int b] [] (.ret (int (cmpI a b))) []:=cmpI_w a b _ (by
 unfold cmpI; grind)
abbrev four (a b c d:Int):AV:=.sl 1 true [[int a],[int b],[int c],[int d]]
def cfSt (a b c d a' b' c' d':Int) (k:Nat):St:={ env:=slots 39 [(0,four a b c d),(1,four a' b' c' d'),(2,.lit (.func (.func 68) #[] #[])),(6,int 0),(11,four a b c d),(12,int 4),(13,int k)],H:=[] }
theorem cf4 (a b c d a' b' c' d':Int) (ex:AEx) (s':St) (h:(AEx.exit 0=ex)∧(St.mk (slots 39 [(0,AV.sl 1 true [[int a],[int b],[int c],[int d]]),(1,AV.sl 1 true [[int a'],[int b'],[int c'],[int d']]),(6,int 0)]) [] []=s')):RunL P G none 0 (loopAt P 91 0) (cfSt a b c d a' b' c' d' 4) ex s':=by
 obtain ⟨eX,eS⟩:=h
 exact RunL.to ((show RunL P G none 0 (loopAt P 91 0) (cfSt a b c d a' b' c' d' 4) (AEx.exit 0) (St.mk (slots 39 [(0,AV.sl 1 true [[int a],[int b],[int c],[int d]]),(1,AV.sl 1 true [[int a'],[int b'],[int c'],[int d']]),(6,int 0)]) [] []) from loop_exit [kf (Eq.refl false)] (others 39 [0,1,6]) 0 (by kernel_rfl))) eX (SubS.of_eq eS)
theorem cf3 (a b c d a' b' c' d':Int) (ex:AEx) (s':St) (h:(((cmpI d d'=(0:Int))→RunL P G none 0 (loopAt P 91 0) (St.mk (slots 39 [(0,AV.sl 1 true [[int a],[int b],[int c],[int d]]),(1,AV.sl 1 true [[int a'],[int b'],[int c'],[int d']]),(2,AV.lit (Value.func (Fn.func 68) (Array.mk []) (Array.mk []))),(6,int 0),(11,AV.sl 1 true [[int a],[int b],[int c],[int d]]),(12,int 4),(13,int 4)]) [] []) ex s')∧((¬cmpI d d'=(0:Int))→(AEx.ret=ex)∧(St.mk (slots 39 [(0,AV.sl 1 true [[int a],[int b],[int c],[int d]]),(1,AV.sl 1 true [[int a'],[int b'],[int c'],[int d']]),(6,int (cmpI d d'))]) [] []=s')))):RunL P G none 0 (loopAt P 91 0) (cfSt a b c d a' b' c' d' 3) ex s':=by
 have hz0:(0:Int)≤(3:Int)∧[[int a],[int b],[int c],[int d]][Int.toNat (↑3:Int)]? = some [int d]:=(⟨by decide,rfl⟩)
 have hz1:(0:Int)≤(3:Int)∧[[int a'],[int b'],[int c'],[int d']][Int.toNat (↑3:Int)]? = some [int d']:=(⟨by decide,rfl⟩)
 have hz2:=(@Go.Sq.cmpI_c (d) (d'))
 by_cases c1:(cmpI d d'=(0:Int))
 · have h:=h.1 c1
   exact loop_next [kt (Eq.refl true),ko (Orc.elem [int d]),kp hz0,kf (Eq.refl false),ko (Orc.elem [int d']),kp hz1,kc [] hz2,kf (show (cmpI d d' != 0)=false from (congrArg Bool.not (beq_iff_eq.2 c1)))] (others 39 [0,1,2,6,11,12,13]) 0 h (by kernel_rfl)
 · have h:=h.2 c1
   obtain ⟨eX,eS⟩:=h
   exact RunL.to ((show RunL P G none 0 (loopAt P 91 0) (cfSt a b c d a' b' c' d' 3) AEx.ret (St.mk (slots 39 [(0,AV.sl 1 true [[int a],[int b],[int c],[int d]]),(1,AV.sl 1 true [[int a'],[int b'],[int c'],[int d']]),(6,int (cmpI d d'))]) [] []) from loop_exit [kt (Eq.refl true),ko (Orc.elem [int d]),kp hz0,kf (Eq.refl false),ko (Orc.elem [int d']),kp hz1,kc [] hz2,kt (show (cmpI d d' != 0)=true from (congrArg Bool.not (beq_eq_false_iff_ne.2 c1)))] (others 39 [0,1,6]) 0 (by kernel_rfl))) eX (SubS.of_eq eS)
theorem cf2 (a b c d a' b' c' d':Int) (ex:AEx) (s':St) (h:(((cmpI c c'=(0:Int))→RunL P G none 0 (loopAt P 91 0) (St.mk (slots 39 [(0,AV.sl 1 true [[int a],[int b],[int c],[int d]]),(1,AV.sl 1 true [[int a'],[int b'],[int c'],[int d']]),(2,AV.lit (Value.func (Fn.func 68) (Array.mk []) (Array.mk []))),(6,int 0),(11,AV.sl 1 true [[int a],[int b],[int c],[int d]]),(12,int 4),(13,int 3)]) [] []) ex s')∧((¬cmpI c c'=(0:Int))→(AEx.ret=ex)∧(St.mk (slots 39 [(0,AV.sl 1 true [[int a],[int b],[int c],[int d]]),(1,AV.sl 1 true [[int a'],[int b'],[int c'],[int d']]),(6,int (cmpI c c'))]) [] []=s')))):RunL P G none 0 (loopAt P 91 0) (cfSt a b c d a' b' c' d' 2) ex s':=by
 have hz0:(0:Int)≤(2:Int)∧[[int a],[int b],[int c],[int d]][Int.toNat (↑2:Int)]? = some [int c]:=(⟨by decide,rfl⟩)
 have hz1:(0:Int)≤(2:Int)∧[[int a'],[int b'],[int c'],[int d']][Int.toNat (↑2:Int)]? = some [int c']:=(⟨by decide,rfl⟩)
 have hz2:=(@Go.Sq.cmpI_c (c) (c'))
 by_cases c1:(cmpI c c'=(0:Int))
 · have h:=h.1 c1
   exact loop_next [kt (Eq.refl true),ko (Orc.elem [int c]),kp hz0,kf (Eq.refl false),ko (Orc.elem [int c']),kp hz1,kc [] hz2,kf (show (cmpI c c' != 0)=false from (congrArg Bool.not (beq_iff_eq.2 c1)))] (others 39 [0,1,2,6,11,12,13]) 0 h (by kernel_rfl)
 · have h:=h.2 c1
   obtain ⟨eX,eS⟩:=h
   exact RunL.to ((show RunL P G none 0 (loopAt P 91 0) (cfSt a b c d a' b' c' d' 2) AEx.ret (St.mk (slots 39 [(0,AV.sl 1 true [[int a],[int b],[int c],[int d]]),(1,AV.sl 1 true [[int a'],[int b'],[int c'],[int d']]),(6,int (cmpI c c'))]) [] []) from loop_exit [kt (Eq.refl true),ko (Orc.elem [int c]),kp hz0,kf (Eq.refl false),ko (Orc.elem [int c']),kp hz1,kc [] hz2,kt (show (cmpI c c' != 0)=true from (congrArg Bool.not (beq_eq_false_iff_ne.2 c1)))] (others 39 [0,1,6]) 0 (by kernel_rfl))) eX (SubS.of_eq eS)
theorem cf1 (a b c d a' b' c' d':Int) (ex:AEx) (s':St) (h:(((cmpI b b'=(0:Int))→RunL P G none 0 (loopAt P 91 0) (St.mk (slots 39 [(0,AV.sl 1 true [[int a],[int b],[int c],[int d]]),(1,AV.sl 1 true [[int a'],[int b'],[int c'],[int d']]),(2,AV.lit (Value.func (Fn.func 68) (Array.mk []) (Array.mk []))),(6,int 0),(11,AV.sl 1 true [[int a],[int b],[int c],[int d]]),(12,int 4),(13,int 2)]) [] []) ex s')∧((¬cmpI b b'=(0:Int))→(AEx.ret=ex)∧(St.mk (slots 39 [(0,AV.sl 1 true [[int a],[int b],[int c],[int d]]),(1,AV.sl 1 true [[int a'],[int b'],[int c'],[int d']]),(6,int (cmpI b b'))]) [] []=s')))):RunL P G none 0 (loopAt P 91 0) (cfSt a b c d a' b' c' d' 1) ex s':=by
 have hz0:(0:Int)≤(1:Int)∧[[int a],[int b],[int c],[int d]][Int.toNat (↑1:Int)]? = some [int b]:=(⟨by decide,rfl⟩)
 have hz1:(0:Int)≤(1:Int)∧[[int a'],[int b'],[int c'],[int d']][Int.toNat (↑1:Int)]? = some [int b']:=(⟨by decide,rfl⟩)
 have hz2:=(@Go.Sq.cmpI_c (b) (b'))
 by_cases c1:(cmpI b b'=(0:Int))
 · have h:=h.1 c1
   exact loop_next [kt (Eq.refl true),ko (Orc.elem [int b]),kp hz0,kf (Eq.refl false),ko (Orc.elem [int b']),kp hz1,kc [] hz2,kf (show (cmpI b b' != 0)=false from (congrArg Bool.not (beq_iff_eq.2 c1)))] (others 39 [0,1,2,6,11,12,13]) 0 h (by kernel_rfl)
 · have h:=h.2 c1
   obtain ⟨eX,eS⟩:=h
   exact RunL.to ((show RunL P G none 0 (loopAt P 91 0) (cfSt a b c d a' b' c' d' 1) AEx.ret (St.mk (slots 39 [(0,AV.sl 1 true [[int a],[int b],[int c],[int d]]),(1,AV.sl 1 true [[int a'],[int b'],[int c'],[int d']]),(6,int (cmpI b b'))]) [] []) from loop_exit [kt (Eq.refl true),ko (Orc.elem [int b]),kp hz0,kf (Eq.refl false),ko (Orc.elem [int b']),kp hz1,kc [] hz2,kt (show (cmpI b b' != 0)=true from (congrArg Bool.not (beq_eq_false_iff_ne.2 c1)))] (others 39 [0,1,6]) 0 (by kernel_rfl))) eX (SubS.of_eq eS)
theorem cf0 (a b c d a' b' c' d':Int) (ex:AEx) (s':St) (h:(((cmpI a a'=(0:Int))→RunL P G none 0 (loopAt P 91 0) (St.mk (slots 39 [(0,AV.sl 1 true [[int a],[int b],[int c],[int d]]),(1,AV.sl 1 true [[int a'],[int b'],[int c'],[int d']]),(2,AV.lit (Value.func (Fn.func 68) (Array.mk []) (Array.mk []))),(6,int 0),(11,AV.sl 1 true [[int a],[int b],[int c],[int d]]),(12,int 4),(13,int 1)]) [] []) ex s')∧((¬cmpI a a'=(0:Int))→(AEx.ret=ex)∧(St.mk (slots 39 [(0,AV.sl 1 true [[int a],[int b],[int c],[int d]]),(1,AV.sl 1 true [[int a'],[int b'],[int c'],[int d']]),(6,int (cmpI a a'))]) [] []=s')))):RunL P G none 0 (loopAt P 91 0) (cfSt a b c d a' b' c' d' 0) ex s':=by
 have hz0:(0:Int)≤(0:Int)∧[[int a],[int b],[int c],[int d]][Int.toNat (↑0:Int)]? = some [int a]:=(⟨by decide,rfl⟩)
 have hz1:(0:Int)≤(0:Int)∧[[int a'],[int b'],[int c'],[int d']][Int.toNat (↑0:Int)]? = some [int a']:=(⟨by decide,rfl⟩)
 have hz2:=(@Go.Sq.cmpI_c (a) (a'))
 by_cases c1:(cmpI a a'=(0:Int))
 · have h:=h.1 c1
   exact loop_next [kt (Eq.refl true),ko (Orc.elem [int a]),kp hz0,kf (Eq.refl false),ko (Orc.elem [int a']),kp hz1,kc [] hz2,kf (show (cmpI a a' != 0)=false from (congrArg Bool.not (beq_iff_eq.2 c1)))] (others 39 [0,1,2,6,11,12,13]) 0 h (by kernel_rfl)
 · have h:=h.2 c1
   obtain ⟨eX,eS⟩:=h
   exact RunL.to ((show RunL P G none 0 (loopAt P 91 0) (cfSt a b c d a' b' c' d' 0) AEx.ret (St.mk (slots 39 [(0,AV.sl 1 true [[int a],[int b],[int c],[int d]]),(1,AV.sl 1 true [[int a'],[int b'],[int c'],[int d']]),(6,int (cmpI a a'))]) [] []) from loop_exit [kt (Eq.refl true),ko (Orc.elem [int a]),kp hz0,kf (Eq.refl false),ko (Orc.elem [int a']),kp hz1,kc [] hz2,kt (show (cmpI a a' != 0)=true from (congrArg Bool.not (beq_eq_false_iff_ne.2 c1)))] (others 39 [0,1,6]) 0 (by kernel_rfl))) eX (SubS.of_eq eS)
def cmp4 (a b c d a' b' c' d':Int):Int:=if cmpI a a'=0 then (if cmpI b b'=0 then (if cmpI c c'=0 then cmpI d d' else cmpI c c') else cmpI b b') else cmpI a a'
def cfE (a b c d a' b' c' d':Int) (r:Int):St:={ env:=slots 39 [(0,four a b c d),(1,four a' b' c' d'),(6,int r)],H:=[] }
theorem cf_run (a b c d a' b' c' d':Int):RunL P G none 0 (loopAt P 91 0) (cfSt a b c d a' b' c' d' 0) (if cmp4 a b c d a' b' c' d'=0 then .exit 0 else .ret) (cfE a b c d a' b' c' d' (cmp4 a b c d a' b' c' d')):=by
 unfold cmp4
 by_cases h1:cmpI a a'=0
 · rw [if_pos h1]
   by_cases h2:cmpI b b'=0
   · rw [if_pos h2]
     by_cases h3:cmpI c c'=0
     · rw [if_pos h3]
       refine cf0 a b c d a' b' c' d' _ _ ⟨fun _=>cf1 a b c d a' b' c' d' _ _ ⟨fun _=>cf2 a b c d a' b' c' d' _ _ ⟨fun _=>cf3 a b c d a' b' c' d' _ _ ⟨fun h4=>cf4 a b c d a' b' c' d' _ _ ?_,fun h4=>?_⟩,fun h=>absurd h3 h⟩,fun h=>absurd h2 h⟩,fun h=>absurd h1 h⟩
       · rw [if_pos h4,h4]; exact ⟨rfl,rfl⟩
       · rw [if_neg h4]; exact ⟨rfl,rfl⟩
     · rw [if_neg h3,if_neg h3]
       exact cf0 a b c d a' b' c' d' _ _ ⟨fun _=>cf1 a b c d a' b' c' d' _ _ ⟨fun _=>cf2 a b c d a' b' c' d' _ _ ⟨fun h=>absurd h h3,fun _=>⟨rfl,rfl⟩⟩,fun h=>absurd h2 h⟩,fun h=>absurd h1 h⟩
   · rw [if_neg h2,if_neg h2]
     exact cf0 a b c d a' b' c' d' _ _ ⟨fun _=>cf1 a b c d a' b' c' d' _ _ ⟨fun h=>absurd h h2,fun _=>⟨rfl,rfl⟩⟩,fun h=>absurd h1 h⟩
 · rw [if_neg h1,if_neg h1]
   exact cf0 a b c d a' b' c' d' _ _ ⟨fun h=>absurd h h1,fun _=>⟨rfl,rfl⟩⟩
theorem cff_w (a b c d a' b' c' d':Int) (r:Int) (hL:RunL P G none 0 (loopAt P 91 0) (cfSt a b c d a' b' c' d' 0) (if cmp4 a b c d a' b' c' d'=0 then .exit 0 else .ret) { env:=slots 39 [(0,four a b c d),(1,four a' b' c' d'),(6,int (cmp4 a b c d a' b' c' d'))],H:=[] }) (h:(((cmp4 a b c d a' b' c' d'=(0:Int))→(0:Int)=(r))∧((¬cmp4 a b c d a' b' c' d'=(0:Int))→(cmp4 a b c d a' b' c' d':Int)=(r)))):CallC P G 91 [four a b c d,four a' b' c' d',AV.lit (Value.func (Fn.func 68) #[] #[])] [] (AOut.ret (int r)) []:=by
 by_cases c1:(cmp4 a b c d a' b' c' d'=(0:Int))
 · have h:=h.1 c1
   have e1:=h
   exact callC_out (Sub.int_eq e1) [kl [3,4,5,7,8,9,10,14,15,16,17,18,19,20,21,22,23,24,25,26,27,28,29,30,31,32,33,34,35,36,37,38] 0 (show RunL P G none 0 (loopAt P 91 0) (St.mk (slots 39 [(0,AV.sl 1 true [[int a],[int b],[int c],[int d]]),(1,AV.sl 1 true [[int a'],[int b'],[int c'],[int d']]),(2,AV.lit (Value.func (Fn.func 68) (Array.mk []) (Array.mk []))),(6,int 0),(11,AV.sl 1 true [[int a],[int b],[int c],[int d]]),(12,int (↑(List.length [[int a],[int b],[int c],[int d]]):Int)),(13,int 0)]) [] []) (AEx.exit 0) (St.mk (slots 39 [(0,AV.sl 1 true [[int a],[int b],[int c],[int d]]),(1,AV.sl 1 true [[int a'],[int b'],[int c'],[int d']]),(6,int (cmp4 a b c d a' b' c' d'))]) [] []) from (by have h0:=(@hL ); simp only [if_pos c1] at h0; exact h0)),kf (Eq.refl false)] (by kernel_rfl)
 · have h:=h.2 c1
   have e1:=h
   exact callC_out (Sub.int_eq e1) [kl [3,4,5,7,8,9,10,14,15,16,17,18,19,20,21,22,23,24,25,26,27,28,29,30,31,32,33,34,35,36,37,38] 0 (show RunL P G none 0 (loopAt P 91 0) (St.mk (slots 39 [(0,AV.sl 1 true [[int a],[int b],[int c],[int d]]),(1,AV.sl 1 true [[int a'],[int b'],[int c'],[int d']]),(2,AV.lit (Value.func (Fn.func 68) (Array.mk []) (Array.mk []))),(6,int 0),(11,AV.sl 1 true [[int a],[int b],[int c],[int d]]),(12,int (↑(List.length [[int a],[int b],[int c],[int d]]):Int)),(13,int 0)]) [] []) AEx.ret (St.mk (slots 39 [(0,AV.sl 1 true [[int a],[int b],[int c],[int d]]),(1,AV.sl 1 true [[int a'],[int b'],[int c'],[int d']]),(6,int (cmp4 a b c d a' b' c' d'))]) [] []) from (by have h0:=(@hL ); simp only [if_neg c1] at h0; exact h0))] (by kernel_rfl)
theorem cff_c (a b c d a' b' c' d':Int):CallC P G 91 [four a b c d,four a' b' c' d',.lit (.func (.func 68) #[] #[])] [] (.ret (int (cmp4 a b c d a' b' c' d'))) []:=cff_w a b c d a' b' c' d' _ (cf_run a b c d a' b' c' d') ⟨fun h=>h.symm,fun _=>rfl⟩
end Go.Sq
