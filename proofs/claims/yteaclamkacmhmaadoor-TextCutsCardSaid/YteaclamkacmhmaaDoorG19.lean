import Derived.Test.YteaclamkacmhmaaDoorG18
import Derived.KernelRfl
set_option maxRecDepth 100000
set_option linter.unusedSimpArgs false
set_option linter.unusedVariables false

namespace Go.Tx
open Go Go.Am Go.Proofs Go.Seat
open Go.Sq (CE cel ces ida idv pid fX fiO OkRs chkE)
open Go.Cdc (CV encL)
noncomputable def ouQ (t:TE) (v:List IV) (n k:Nat) (H:List AObj):St:={ env:=slots 47 [(0,.yl 0),(1,.imm [ces t.cells,mks t.marks]),(2,.imm [ivA v]),(11,int n),(12,int k)],H:=H }
noncomputable def ouQX (H:List AObj):St:={ env:=slots 47 [],H:=H }
noncomputable def piQ (t:TE) (v:List IV) (n k:Nat) (H:List AObj) (b:Nat) (x:Int) (j:Nat):St:={ env:=slots 47 [(0,.yl 0),(1,.imm [ces t.cells,mks t.marks]),(2,.imm [ivA v]),(4,int k),(5,.ptr b 0),(6,putF b),(11,int n),(12,int k),(16,ivA v),(17,int v.length),(18,int j)],H:=H++[.box [u32 x]] }
noncomputable def piQX (t:TE) (v:List IV) (n k:Nat) (H:List AObj) (b:Nat) (x:Int):St:={ env:=slots 47 [(0,.yl 0),(1,.imm [ces t.cells,mks t.marks]),(2,.imm [ivA v]),(4,int k),(5,.ptr b 0),(11,int n),(12,int k)],H:=H++[.box [u32 x]] }
noncomputable def hA1 (t:TE) (y:Int) (l:List Int) (c:CE):List AObj:=[jrR,sbT t,.box [int 3,int 0,str ByteArray.empty,.own 8 0 0 1],.box [u32 y],.box [u32 y],.box (Sq.enc c),.box [int 3,int 0,str ByteArray.empty,.sl 4 false (encL (l.map iV))],.arr 0 4 false (pairC c.vl l),.arr 0 4 false [[int 3,int 0,str ByteArray.empty,.own 7 0 0 2]]]
noncomputable def hC1 (t:TE) (y:Int) (g:Nat) (rs:List CV) (l:List Int) (c:CE):List AObj:=[jrR,sbT t,.box [int 3,int 0,str ByteArray.empty,.own 4 (g+1) 0 (rs.length+1)],.box [u32 y],.arr (g+1) 4 false (encL rs++[[int 3,int 0,str ByteArray.empty,.own 8 0 0 2]]),.box [u32 y],.box (Sq.enc c),.box [int 3,int 0,str ByteArray.empty,.sl 4 false (encL (l.map iV))],.arr 0 4 false (pairC c.vl l)]
theorem piA_e (t:TE) (x0:Int) (v:List IV) (n k:Nat) (x:Int) (j:Nat) (hj:¬ (j:Int)<(v.length:Int)) (h:True):RunL P G none 4 (loopAt P 60 1) (piQ t v n k (hA t x0) 4 x j) (AEx.exit 2) (piQX t v n k (hA t x0) 4 x):=by
 have _:=h
 exact loop_exit [kf (show decide ((↑j:Int)<(↑(List.length v):Int))=false from (decide_eq_false (by omega)))] (others 47 [0,1,2,4,5,11,12]) 5 (by kernel_rfl)
theorem piA_n (t:TE) (x0:Int) (v:List IV) (n k:Nat) (x:Int) (j:Nat) (y:IV) (hj:(j:Int)<(v.length:Int)) (hv:v.length≤1000000) (hy:v[j]? = some y) (hst:0≤y.m.st) (ex:AEx) (s:St) (h:(((IV.f y≤(↑k:Int))→((((↑k:Int)≤IV.t y)→RunL P G none 4 (loopAt P 60 1) (St.mk (slots 47 [(0,AV.yl 0),(1,AV.imm [AV.sl 9 false (Sq.encs (TE.cells t)),AV.sl 11 false (encs (TE.marks t))]),(2,AV.imm [AV.sl 13 false (encI v)]),(4,int (↑k:Int)),(5,AV.ptr 4 0),(6,AV.fn (Fn.func 61) [AV.ptr 4 0] []),(11,int (↑n:Int)),(12,int (↑k:Int)),(16,AV.sl 13 false (encI v)),(17,int (↑(List.length v):Int)),(18,int (↑(j+1):Int))]) [jrR,AObj.box [AV.sl 9 false (Sq.encs (TE.cells t)),AV.sl 11 false (encs (TE.marks t))],AObj.box [int 3,int 0,str ByteArray.empty,nilS],AObj.box [AV.lit (Value.int IntKind.u32 x0)],AObj.box [AV.lit (Value.int IntKind.u32 (putV x (MK.st (IV.m y)) (MK.on (IV.m y))))]] []) ex s)∧((¬(↑k:Int)≤IV.t y)→RunL P G none 4 (loopAt P 60 1) (St.mk (slots 47 [(0,AV.yl 0),(1,AV.imm [AV.sl 9 false (Sq.encs (TE.cells t)),AV.sl 11 false (encs (TE.marks t))]),(2,AV.imm [AV.sl 13 false (encI v)]),(4,int (↑k:Int)),(5,AV.ptr 4 0),(6,AV.fn (Fn.func 61) [AV.ptr 4 0] []),(11,int (↑n:Int)),(12,int (↑k:Int)),(16,AV.sl 13 false (encI v)),(17,int (↑(List.length v):Int)),(18,int (↑(j+1):Int))]) [jrR,AObj.box [AV.sl 9 false (Sq.encs (TE.cells t)),AV.sl 11 false (encs (TE.marks t))],AObj.box [int 3,int 0,str ByteArray.empty,nilS],AObj.box [AV.lit (Value.int IntKind.u32 x0)],AObj.box [AV.lit (Value.int IntKind.u32 x)]] []) ex s)))∧((¬IV.f y≤(↑k:Int))→RunL P G none 4 (loopAt P 60 1) (St.mk (slots 47 [(0,AV.yl 0),(1,AV.imm [AV.sl 9 false (Sq.encs (TE.cells t)),AV.sl 11 false (encs (TE.marks t))]),(2,AV.imm [AV.sl 13 false (encI v)]),(4,int (↑k:Int)),(5,AV.ptr 4 0),(6,AV.fn (Fn.func 61) [AV.ptr 4 0] []),(11,int (↑n:Int)),(12,int (↑k:Int)),(16,AV.sl 13 false (encI v)),(17,int (↑(List.length v):Int)),(18,int (↑(j+1):Int))]) [jrR,AObj.box [AV.sl 9 false (Sq.encs (TE.cells t)),AV.sl 11 false (encs (TE.marks t))],AObj.box [int 3,int 0,str ByteArray.empty,nilS],AObj.box [AV.lit (Value.int IntKind.u32 x0)],AObj.box [AV.lit (Value.int IntKind.u32 x)]] []) ex s))):RunL P G none 4 (loopAt P 60 1) (piQ t v n k (hA t x0) 4 x j) ex s:=by
 have hz0:decide ((↑j:Int)<(↑(List.length v):Int))=true:=(decide_eq_true (by omega))
 have hz1:(0:Int)≤(↑j:Int)∧(encI v)[Int.toNat (↑j:Int)]? = some (encI1 y):=(el_nat hy)
 by_cases c2:(IV.f y≤(↑k:Int))
 · have h:=h.1 c2
   by_cases c3:((↑k:Int)≤IV.t y)
   · have h:=h.1 c3
     exact loop_next [kt hz0,ko (Orc.elem (encI1 y)),kp hz1,kt (decide_eq_true c2),kt (decide_eq_true c3),kc [4] (@Go.Tx.put_c (x) (MK.st (IV.m y)) (MK.on (IV.m y)) (by omega)),kv 40 (show Am.Sub (int (IntKind.wrap IntKind.i64 ((↑j:Int)+1))) (int (↑(j+1):Int)) from (Sub.of_wrap (by omega) (by omega) (by omega)))] (others 47 [0,1,2,4,5,6,11,12,16,17,18]) 5 h (by kernel_rfl)
   · have h:=h.2 c3
     exact loop_next [kt hz0,ko (Orc.elem (encI1 y)),kp hz1,kt (decide_eq_true c2),kf (decide_eq_false c3),kv 40 (show Am.Sub (int (IntKind.wrap IntKind.i64 ((↑j:Int)+1))) (int (↑(j+1):Int)) from (Sub.of_wrap (by omega) (by omega) (by omega)))] (others 47 [0,1,2,4,5,6,11,12,16,17,18]) 5 h (by kernel_rfl)
 · have h:=h.2 c2
   exact loop_next [kt hz0,ko (Orc.elem (encI1 y)),kp hz1,kf (decide_eq_false c2),kf (Eq.refl false),kv 40 (show Am.Sub (int (IntKind.wrap IntKind.i64 ((↑j:Int)+1))) (int (↑(j+1):Int)) from (Sub.of_wrap (by omega) (by omega) (by omega)))] (others 47 [0,1,2,4,5,6,11,12,16,17,18]) 5 h (by kernel_rfl)
theorem piB_e (t:TE) (x0:Int) (g:Nat) (rs:List CV) (s0:ByteArray) (ls:List Int) (v:List IV) (n k:Nat) (x:Int) (j:Nat) (hj:¬ (j:Int)<(v.length:Int)) (h:True):RunL P G none 4 (loopAt P 60 1) (piQ t v n k (hB t x0 g rs s0 ls) 6 x j) (AEx.exit 2) (piQX t v n k (hB t x0 g rs s0 ls) 6 x):=by
 have _:=h
 exact loop_exit [kf (show decide ((↑j:Int)<(↑(List.length v):Int))=false from (decide_eq_false (by omega)))] (others 47 [0,1,2,4,5,11,12]) 7 (by kernel_rfl)
theorem piB_n (t:TE) (x0:Int) (g:Nat) (rs:List CV) (s0:ByteArray) (ls:List Int) (v:List IV) (n k:Nat) (x:Int) (j:Nat) (y:IV) (hj:(j:Int)<(v.length:Int)) (hv:v.length≤1000000) (hy:v[j]? = some y) (hst:0≤y.m.st) (ex:AEx) (s:St) (h:(((IV.f y≤(↑k:Int))→((((↑k:Int)≤IV.t y)→((∀ (x:List AV),x∈pairC s0 ls→AV.idsLtL 7 x=true)∧RunL P G none 4 (loopAt P 60 1) (St.mk (slots 47 [(0,AV.yl 0),(1,AV.imm [AV.sl 9 false (Sq.encs (TE.cells t)),AV.sl 11 false (encs (TE.marks t))]),(2,AV.imm [AV.sl 13 false (encI v)]),(4,int (↑k:Int)),(5,AV.ptr 6 0),(6,AV.fn (Fn.func 61) [AV.ptr 6 0] []),(11,int (↑n:Int)),(12,int (↑k:Int)),(16,AV.sl 13 false (encI v)),(17,int (↑(List.length v):Int)),(18,int (↑(j+1):Int))]) [jrR,AObj.box [AV.sl 9 false (Sq.encs (TE.cells t)),AV.sl 11 false (encs (TE.marks t))],AObj.box [int 3,int 0,str ByteArray.empty,AV.own 4 g 0 (List.length rs+1)],AObj.box [AV.lit (Value.int IntKind.u32 x0)],AObj.arr g 4 false (encL rs++[[int 3,int 0,str ByteArray.empty,AV.own 5 0 0 2]]),AObj.arr 0 4 false [[int 2,int 0,str s0,nilS],[int 3,int 0,str ByteArray.empty,AV.sl 4 false (encL (List.map iV ls))]],AObj.box [AV.lit (Value.int IntKind.u32 (putV x (MK.st (IV.m y)) (MK.on (IV.m y))))]] []) ex s))∧((¬(↑k:Int)≤IV.t y)→((∀ (x:List AV),x∈pairC s0 ls→AV.idsLtL 7 x=true)∧RunL P G none 4 (loopAt P 60 1) (St.mk (slots 47 [(0,AV.yl 0),(1,AV.imm [AV.sl 9 false (Sq.encs (TE.cells t)),AV.sl 11 false (encs (TE.marks t))]),(2,AV.imm [AV.sl 13 false (encI v)]),(4,int (↑k:Int)),(5,AV.ptr 6 0),(6,AV.fn (Fn.func 61) [AV.ptr 6 0] []),(11,int (↑n:Int)),(12,int (↑k:Int)),(16,AV.sl 13 false (encI v)),(17,int (↑(List.length v):Int)),(18,int (↑(j+1):Int))]) [jrR,AObj.box [AV.sl 9 false (Sq.encs (TE.cells t)),AV.sl 11 false (encs (TE.marks t))],AObj.box [int 3,int 0,str ByteArray.empty,AV.own 4 g 0 (List.length rs+1)],AObj.box [AV.lit (Value.int IntKind.u32 x0)],AObj.arr g 4 false (encL rs++[[int 3,int 0,str ByteArray.empty,AV.own 5 0 0 2]]),AObj.arr 0 4 false [[int 2,int 0,str s0,nilS],[int 3,int 0,str ByteArray.empty,AV.sl 4 false (encL (List.map iV ls))]],AObj.box [AV.lit (Value.int IntKind.u32 x)]] []) ex s))))∧((¬IV.f y≤(↑k:Int))→((∀ (x:List AV),x∈pairC s0 ls→AV.idsLtL 7 x=true)∧RunL P G none 4 (loopAt P 60 1) (St.mk (slots 47 [(0,AV.yl 0),(1,AV.imm [AV.sl 9 false (Sq.encs (TE.cells t)),AV.sl 11 false (encs (TE.marks t))]),(2,AV.imm [AV.sl 13 false (encI v)]),(4,int (↑k:Int)),(5,AV.ptr 6 0),(6,AV.fn (Fn.func 61) [AV.ptr 6 0] []),(11,int (↑n:Int)),(12,int (↑k:Int)),(16,AV.sl 13 false (encI v)),(17,int (↑(List.length v):Int)),(18,int (↑(j+1):Int))]) [jrR,AObj.box [AV.sl 9 false (Sq.encs (TE.cells t)),AV.sl 11 false (encs (TE.marks t))],AObj.box [int 3,int 0,str ByteArray.empty,AV.own 4 g 0 (List.length rs+1)],AObj.box [AV.lit (Value.int IntKind.u32 x0)],AObj.arr g 4 false (encL rs++[[int 3,int 0,str ByteArray.empty,AV.own 5 0 0 2]]),AObj.arr 0 4 false [[int 2,int 0,str s0,nilS],[int 3,int 0,str ByteArray.empty,AV.sl 4 false (encL (List.map iV ls))]],AObj.box [AV.lit (Value.int IntKind.u32 x)]] []) ex s)))):RunL P G none 4 (loopAt P 60 1) (piQ t v n k (hB t x0 g rs s0 ls) 6 x j) ex s:=by
 have hz0:decide ((↑j:Int)<(↑(List.length v):Int))=true:=(decide_eq_true (by omega))
 have hz1:(0:Int)≤(↑j:Int)∧(encI v)[Int.toNat (↑j:Int)]? = some (encI1 y):=(el_nat hy)
 have hz4:∀ (x:List AV),x∈encL rs++[[int 3,int 0,str ByteArray.empty,AV.own 5 0 0 2]]→AV.idsLtL 7 x=true:=(by exact (Am.allm_append (Am.ids_lt (Go.Cdc.encL_ids _) _) (Am.allm_cons rfl Am.allm_nil)))
 by_cases c2:(IV.f y≤(↑k:Int))
 · have h:=h.1 c2
   by_cases c3:((↑k:Int)≤IV.t y)
   · have h:=h.1 c3
     obtain ⟨o4,h⟩:=h
     exact loop_next [kt hz0,ko (Orc.elem (encI1 y)),kp hz1,kt (decide_eq_true c2),kt (decide_eq_true c3),kc [6] (@Go.Tx.put_c (x) (MK.st (IV.m y)) (MK.on (IV.m y)) (by omega)),kv 40 (show Am.Sub (int (IntKind.wrap IntKind.i64 ((↑j:Int)+1))) (int (↑(j+1):Int)) from (Sub.of_wrap (by omega) (by omega) (by omega))),kp hz4,kp o4] (others 47 [0,1,2,4,5,6,11,12,16,17,18]) 7 h (by kernel_rfl)
   · have h:=h.2 c3
     obtain ⟨o5,h⟩:=h
     exact loop_next [kt hz0,ko (Orc.elem (encI1 y)),kp hz1,kt (decide_eq_true c2),kf (decide_eq_false c3),kv 40 (show Am.Sub (int (IntKind.wrap IntKind.i64 ((↑j:Int)+1))) (int (↑(j+1):Int)) from (Sub.of_wrap (by omega) (by omega) (by omega))),kp hz4,kp o5] (others 47 [0,1,2,4,5,6,11,12,16,17,18]) 7 h (by kernel_rfl)
 · have h:=h.2 c2
   obtain ⟨o6,h⟩:=h
   exact loop_next [kt hz0,ko (Orc.elem (encI1 y)),kp hz1,kf (decide_eq_false c2),kf (Eq.refl false),kv 40 (show Am.Sub (int (IntKind.wrap IntKind.i64 ((↑j:Int)+1))) (int (↑(j+1):Int)) from (Sub.of_wrap (by omega) (by omega) (by omega))),kp hz4,kp o6] (others 47 [0,1,2,4,5,6,11,12,16,17,18]) 7 h (by kernel_rfl)
theorem piC_e (t:TE) (x0:Int) (g:Nat) (rs:List CV) (v:List IV) (n k:Nat) (x:Int) (j:Nat) (hj:¬ (j:Int)<(v.length:Int)) (h:True):RunL P G none 4 (loopAt P 60 1) (piQ t v n k (hC t x0 g rs) 5 x j) (AEx.exit 2) (piQX t v n k (hC t x0 g rs) 5 x):=by
 have _:=h
 exact loop_exit [kf (show decide ((↑j:Int)<(↑(List.length v):Int))=false from (decide_eq_false (by omega)))] (others 47 [0,1,2,4,5,11,12]) 6 (by kernel_rfl)
theorem piC_n (t:TE) (x0:Int) (g:Nat) (rs:List CV) (v:List IV) (n k:Nat) (x:Int) (j:Nat) (y:IV) (hj:(j:Int)<(v.length:Int)) (hv:v.length≤1000000) (hy:v[j]? = some y) (hst:0≤y.m.st) (ex:AEx) (s:St) (h:(((IV.f y≤(↑k:Int))→((((↑k:Int)≤IV.t y)→RunL P G none 4 (loopAt P 60 1) (St.mk (slots 47 [(0,AV.yl 0),(1,AV.imm [AV.sl 9 false (Sq.encs (TE.cells t)),AV.sl 11 false (encs (TE.marks t))]),(2,AV.imm [AV.sl 13 false (encI v)]),(4,int (↑k:Int)),(5,AV.ptr 5 0),(6,AV.fn (Fn.func 61) [AV.ptr 5 0] []),(11,int (↑n:Int)),(12,int (↑k:Int)),(16,AV.sl 13 false (encI v)),(17,int (↑(List.length v):Int)),(18,int (↑(j+1):Int))]) [jrR,AObj.box [AV.sl 9 false (Sq.encs (TE.cells t)),AV.sl 11 false (encs (TE.marks t))],AObj.box [int 3,int 0,str ByteArray.empty,AV.own 4 g 0 (List.length rs)],AObj.box [AV.lit (Value.int IntKind.u32 x0)],AObj.arr g 4 false (encL rs),AObj.box [AV.lit (Value.int IntKind.u32 (putV x (MK.st (IV.m y)) (MK.on (IV.m y))))]] []) ex s)∧((¬(↑k:Int)≤IV.t y)→RunL P G none 4 (loopAt P 60 1) (St.mk (slots 47 [(0,AV.yl 0),(1,AV.imm [AV.sl 9 false (Sq.encs (TE.cells t)),AV.sl 11 false (encs (TE.marks t))]),(2,AV.imm [AV.sl 13 false (encI v)]),(4,int (↑k:Int)),(5,AV.ptr 5 0),(6,AV.fn (Fn.func 61) [AV.ptr 5 0] []),(11,int (↑n:Int)),(12,int (↑k:Int)),(16,AV.sl 13 false (encI v)),(17,int (↑(List.length v):Int)),(18,int (↑(j+1):Int))]) [jrR,AObj.box [AV.sl 9 false (Sq.encs (TE.cells t)),AV.sl 11 false (encs (TE.marks t))],AObj.box [int 3,int 0,str ByteArray.empty,AV.own 4 g 0 (List.length rs)],AObj.box [AV.lit (Value.int IntKind.u32 x0)],AObj.arr g 4 false (encL rs),AObj.box [AV.lit (Value.int IntKind.u32 x)]] []) ex s)))∧((¬IV.f y≤(↑k:Int))→RunL P G none 4 (loopAt P 60 1) (St.mk (slots 47 [(0,AV.yl 0),(1,AV.imm [AV.sl 9 false (Sq.encs (TE.cells t)),AV.sl 11 false (encs (TE.marks t))]),(2,AV.imm [AV.sl 13 false (encI v)]),(4,int (↑k:Int)),(5,AV.ptr 5 0),(6,AV.fn (Fn.func 61) [AV.ptr 5 0] []),(11,int (↑n:Int)),(12,int (↑k:Int)),(16,AV.sl 13 false (encI v)),(17,int (↑(List.length v):Int)),(18,int (↑(j+1):Int))]) [jrR,AObj.box [AV.sl 9 false (Sq.encs (TE.cells t)),AV.sl 11 false (encs (TE.marks t))],AObj.box [int 3,int 0,str ByteArray.empty,AV.own 4 g 0 (List.length rs)],AObj.box [AV.lit (Value.int IntKind.u32 x0)],AObj.arr g 4 false (encL rs),AObj.box [AV.lit (Value.int IntKind.u32 x)]] []) ex s))):RunL P G none 4 (loopAt P 60 1) (piQ t v n k (hC t x0 g rs) 5 x j) ex s:=by
 have hz0:decide ((↑j:Int)<(↑(List.length v):Int))=true:=(decide_eq_true (by omega))
 have hz1:(0:Int)≤(↑j:Int)∧(encI v)[Int.toNat (↑j:Int)]? = some (encI1 y):=(el_nat hy)
 have hz4:∀ (x:List AV),x∈encL rs→AV.idsLtL 6 x=true:=(by exact (Am.ids_lt (Go.Cdc.encL_ids _) _))
 by_cases c2:(IV.f y≤(↑k:Int))
 · have h:=h.1 c2
   by_cases c3:((↑k:Int)≤IV.t y)
   · have h:=h.1 c3
     exact loop_next [kt hz0,ko (Orc.elem (encI1 y)),kp hz1,kt (decide_eq_true c2),kt (decide_eq_true c3),kc [5] (@Go.Tx.put_c (x) (MK.st (IV.m y)) (MK.on (IV.m y)) (by omega)),kv 40 (show Am.Sub (int (IntKind.wrap IntKind.i64 ((↑j:Int)+1))) (int (↑(j+1):Int)) from (Sub.of_wrap (by omega) (by omega) (by omega))),kp hz4] (others 47 [0,1,2,4,5,6,11,12,16,17,18]) 6 h (by kernel_rfl)
   · have h:=h.2 c3
     exact loop_next [kt hz0,ko (Orc.elem (encI1 y)),kp hz1,kt (decide_eq_true c2),kf (decide_eq_false c3),kv 40 (show Am.Sub (int (IntKind.wrap IntKind.i64 ((↑j:Int)+1))) (int (↑(j+1):Int)) from (Sub.of_wrap (by omega) (by omega) (by omega))),kp hz4] (others 47 [0,1,2,4,5,6,11,12,16,17,18]) 6 h (by kernel_rfl)
 · have h:=h.2 c2
   exact loop_next [kt hz0,ko (Orc.elem (encI1 y)),kp hz1,kf (decide_eq_false c2),kf (Eq.refl false),kv 40 (show Am.Sub (int (IntKind.wrap IntKind.i64 ((↑j:Int)+1))) (int (↑(j+1):Int)) from (Sub.of_wrap (by omega) (by omega) (by omega))),kp hz4] (others 47 [0,1,2,4,5,6,11,12,16,17,18]) 6 h (by kernel_rfl)
theorem ouA_e (t:TE) (x0:Int) (v:List IV) (n k:Nat) (hk:¬ (k:Int)<(n:Int)) (h:True):RunL P G none 4 (loopAt P 60 0) (ouQ t v n k (hA t x0)) (AEx.exit 0) (ouQX (hA t x0)):=by
 have _:=h
 exact loop_exit [kf (show decide ((↑k:Int)<(↑n:Int))=false from (decide_eq_false (by omega)))] (others 47 []) 4 (by kernel_rfl)
theorem ouC_e (t:TE) (x0:Int) (g:Nat) (rs:List CV) (v:List IV) (n k:Nat) (hk:¬ (k:Int)<(n:Int)) (h:True):RunL P G none 4 (loopAt P 60 0) (ouQ t v n k (hC t x0 g rs)) (AEx.exit 0) (ouQX (hC t x0 g rs)):=by
 have _:=h
 exact loop_exit [kf (show decide ((↑k:Int)<(↑n:Int))=false from (decide_eq_false (by omega)))] (others 47 []) 5 (by kernel_rfl)
theorem ouA_n (t:TE) (x0:Int) (v:List IV) (n k:Nat) (y:Int) (hk:(k:Int)<(n:Int)) (hn:n≤1000000) (hI:RunL P G none 4 (loopAt P 60 1) (piQ t v n k (hA t x0) 4 0 0) (.exit 2) (piQX t v n k (hA t x0) 4 y)) (hy:YieldC P G 0 [int k,u32 y] (hA t x0++[.box [u32 y]]) true (hA t x0++[.box [u32 y]])) (ex:AEx) (s:St) (h:RunL P G none 4 (loopAt P 60 0) (St.mk (slots 47 [(0,AV.yl 0),(1,AV.imm [AV.sl 9 false (Sq.encs (TE.cells t)),AV.sl 11 false (encs (TE.marks t))]),(2,AV.imm [AV.sl 13 false (encI v)]),(11,int (↑n:Int)),(12,int (↑(k+1):Int))]) [jrR,AObj.box [AV.sl 9 false (Sq.encs (TE.cells t)),AV.sl 11 false (encs (TE.marks t))],AObj.box [int 3,int 0,str ByteArray.empty,nilS],AObj.box [AV.lit (Value.int IntKind.u32 x0)]] []) ex s):RunL P G none 4 (loopAt P 60 0) (ouQ t v n k (hA t x0)) ex s:=by
 exact loop_next [kt (show decide ((↑k:Int)<(↑n:Int))=true from (decide_eq_true (by omega))),kv 17 (show Am.Sub (int (↑(List.length (encI v)):Int)) (int (↑(List.length v):Int)) from (Sub.of_eq (by simp only [Go.Tx.encI_length]))),kl [13,14,15] 5 (@hI ),ko (Orc.call [] (AOut.ret (Am.bool true)) (hA t x0++[AObj.box [u32 y]])),kp (@hy ),kf (Eq.refl false),kv 46 (show Am.Sub (int (IntKind.wrap IntKind.i64 ((↑k:Int)+1))) (int (↑(k+1):Int)) from (Sub.of_wrap (by omega) (by omega) (by omega)))] (others 47 [0,1,2,11,12]) 4 h (by kernel_rfl)
theorem ouA_1 (t:TE) (x0:Int) (v:List IV) (n k:Nat) (y:Int) (l:List Int) (c:CE) (hk:(k:Int)<(n:Int)) (hn:n≤1000000) (hI:RunL P G none 4 (loopAt P 60 1) (piQ t v n k (hA t x0) 4 0 0) (.exit 2) (piQX t v n k (hA t x0) 4 y)) (hy:YieldC P G 0 [int k,u32 y] (hA t x0++[.box [u32 y]]) true (hA1 t y l c)) (ex:AEx) (s:St) (h:RunL P G none 4 (loopAt P 60 0) (St.mk (slots 47 [(0,AV.yl 0),(1,AV.imm [AV.sl 9 false (Sq.encs (TE.cells t)),AV.sl 11 false (encs (TE.marks t))]),(2,AV.imm [AV.sl 13 false (encI v)]),(11,int (↑n:Int)),(12,int (↑(k+1):Int))]) [jrR,AObj.box [AV.sl 9 false (Sq.encs (TE.cells t)),AV.sl 11 false (encs (TE.marks t))],AObj.box [int 3,int 0,str ByteArray.empty,AV.own 8 0 0 1],AObj.box [AV.lit (Value.int IntKind.u32 y)],AObj.box [AV.lit (Value.int IntKind.u32 y)],AObj.box [int (CE.dv c),int (CE.sq c),int (CE.at' c),int (CE.ad c),int (CE.as' c),int (CE.aa c),int (CE.tm c),str (CE.vl c),Am.bool (CE.gn c)],AObj.box [int 3,int 0,str ByteArray.empty,AV.sl 4 false (encL (List.map iV l))],AObj.arr 0 4 false [[int 2,int 0,str (CE.vl c),nilS],[int 3,int 0,str ByteArray.empty,AV.sl 4 false (encL (List.map iV l))]],AObj.arr 0 4 false [[int 3,int 0,str ByteArray.empty,AV.own 7 0 0 2]]] []) ex s):RunL P G none 4 (loopAt P 60 0) (ouQ t v n k (hA t x0)) ex s:=by
 exact loop_next [kt (show decide ((↑k:Int)<(↑n:Int))=true from (decide_eq_true (by omega))),kv 17 (show Am.Sub (int (↑(List.length (encI v)):Int)) (int (↑(List.length v):Int)) from (Sub.of_eq (by simp only [Go.Tx.encI_length]))),kl [13,14,15] 5 (@hI ),ko (Orc.call [] (AOut.ret (Am.bool true)) (hA1 t y l c)),kp (@hy ),kf (Eq.refl false),kv 46 (show Am.Sub (int (IntKind.wrap IntKind.i64 ((↑k:Int)+1))) (int (↑(k+1):Int)) from (Sub.of_wrap (by omega) (by omega) (by omega)))] (others 47 [0,1,2,11,12]) 9 h (by kernel_rfl)
theorem ouB_n (t:TE) (x0:Int) (g:Nat) (rs:List CV) (s0:ByteArray) (ls:List Int) (v:List IV) (n k:Nat) (y:Int) (s1:ByteArray) (hk:(k:Int)<(n:Int)) (hn:n≤1000000) (hI:RunL P G none 4 (loopAt P 60 1) (piQ t v n k (hB t x0 g rs s0 ls) 6 0 0) (.exit 2) (piQX t v n k (hB t x0 g rs s0 ls) 6 y)) (hy:YieldC P G 0 [int k,u32 y] (hB t x0 g rs s0 ls++[.box [u32 y]]) true (hB t x0 g rs s1 ls++[.box [u32 y]])) (ex:AEx) (s:St) (h:((∀ (x:List AV),x∈pairC s1 ls→AV.idsLtL 6 x=true)∧RunL P G none 4 (loopAt P 60 0) (St.mk (slots 47 [(0,AV.yl 0),(1,AV.imm [AV.sl 9 false (Sq.encs (TE.cells t)),AV.sl 11 false (encs (TE.marks t))]),(2,AV.imm [AV.sl 13 false (encI v)]),(11,int (↑n:Int)),(12,int (↑(k+1):Int))]) [jrR,AObj.box [AV.sl 9 false (Sq.encs (TE.cells t)),AV.sl 11 false (encs (TE.marks t))],AObj.box [int 3,int 0,str ByteArray.empty,AV.own 4 g 0 (List.length rs+1)],AObj.box [AV.lit (Value.int IntKind.u32 x0)],AObj.arr g 4 false (encL rs++[[int 3,int 0,str ByteArray.empty,AV.own 5 0 0 2]]),AObj.arr 0 4 false [[int 2,int 0,str s1,nilS],[int 3,int 0,str ByteArray.empty,AV.sl 4 false (encL (List.map iV ls))]]] []) ex s)):RunL P G none 4 (loopAt P 60 0) (ouQ t v n k (hB t x0 g rs s0 ls)) ex s:=by
 obtain ⟨o2,h⟩:=h
 exact loop_next [kt (show decide ((↑k:Int)<(↑n:Int))=true from (decide_eq_true (by omega))),kv 17 (show Am.Sub (int (↑(List.length (encI v)):Int)) (int (↑(List.length v):Int)) from (Sub.of_eq (by simp only [Go.Tx.encI_length]))),kl [13,14,15] 7 (@hI ),ko (Orc.call [] (AOut.ret (Am.bool true)) (hB t x0 g rs s1 ls++[AObj.box [u32 y]])),kp (@hy ),kf (Eq.refl false),kv 46 (show Am.Sub (int (IntKind.wrap IntKind.i64 ((↑k:Int)+1))) (int (↑(k+1):Int)) from (Sub.of_wrap (by omega) (by omega) (by omega))),kp (show ∀ (x:List AV),x∈encL rs++[[int 3,int 0,str ByteArray.empty,AV.own 5 0 0 2]]→AV.idsLtL 6 x=true from (by exact (Am.allm_append (Am.ids_lt (Go.Cdc.encL_ids _) _) (Am.allm_cons rfl Am.allm_nil)))),kp o2] (others 47 [0,1,2,11,12]) 6 h (by kernel_rfl)
theorem ouC_1 (t:TE) (x0:Int) (g:Nat) (rs:List CV) (v:List IV) (n k:Nat) (y:Int) (l:List Int) (c:CE) (hk:(k:Int)<(n:Int)) (hn:n≤1000000) (hI:RunL P G none 4 (loopAt P 60 1) (piQ t v n k (hC t x0 g rs) 5 0 0) (.exit 2) (piQX t v n k (hC t x0 g rs) 5 y)) (hy:YieldC P G 0 [int k,u32 y] (hC t x0 g rs++[.box [u32 y]]) true (hC1 t y g rs l c)) (ex:AEx) (s:St) (h:RunL P G none 4 (loopAt P 60 0) (St.mk (slots 47 [(0,AV.yl 0),(1,AV.imm [AV.sl 9 false (Sq.encs (TE.cells t)),AV.sl 11 false (encs (TE.marks t))]),(2,AV.imm [AV.sl 13 false (encI v)]),(11,int (↑n:Int)),(12,int (↑(k+1):Int))]) [jrR,AObj.box [AV.sl 9 false (Sq.encs (TE.cells t)),AV.sl 11 false (encs (TE.marks t))],AObj.box [int 3,int 0,str ByteArray.empty,AV.own 4 (g+1) 0 (List.length rs+1)],AObj.box [AV.lit (Value.int IntKind.u32 y)],AObj.arr (g+1) 4 false (encL rs++[[int 3,int 0,str ByteArray.empty,AV.own 8 0 0 2]]),AObj.box [AV.lit (Value.int IntKind.u32 y)],AObj.box [int (CE.dv c),int (CE.sq c),int (CE.at' c),int (CE.ad c),int (CE.as' c),int (CE.aa c),int (CE.tm c),str (CE.vl c),Am.bool (CE.gn c)],AObj.box [int 3,int 0,str ByteArray.empty,AV.sl 4 false (encL (List.map iV l))],AObj.arr 0 4 false [[int 2,int 0,str (CE.vl c),nilS],[int 3,int 0,str ByteArray.empty,AV.sl 4 false (encL (List.map iV l))]]] []) ex s):RunL P G none 4 (loopAt P 60 0) (ouQ t v n k (hC t x0 g rs)) ex s:=by
 exact loop_next [kt (show decide ((↑k:Int)<(↑n:Int))=true from (decide_eq_true (by omega))),kv 17 (show Am.Sub (int (↑(List.length (encI v)):Int)) (int (↑(List.length v):Int)) from (Sub.of_eq (by simp only [Go.Tx.encI_length]))),kl [13,14,15] 6 (@hI ),ko (Orc.call [] (AOut.ret (Am.bool true)) (hC1 t y g rs l c)),kp (@hy ),kf (Eq.refl false),kv 46 (show Am.Sub (int (IntKind.wrap IntKind.i64 ((↑k:Int)+1))) (int (↑(k+1):Int)) from (Sub.of_wrap (by omega) (by omega) (by omega)))] (others 47 [0,1,2,11,12]) 9 h (by kernel_rfl)
theorem itA (t:TE) (v:List IV) (hL:RunL P G none 4 (loopAt P 60 0) (ouQ t v t.cells.length 0 (hA t 0)) (.exit 0) (ouQX (hA t 0))) (h:True):CallC P G 60 [AV.yl 0,AV.imm [ces (TE.cells t),mks (TE.marks t)],AV.imm [ivA v]] (hA t 0) (AOut.ret (AV.tup [])) (hA t 0):=by
 have _:=h
 exact callC_of [kv 11 (show Am.Sub (int (↑(List.length (Sq.encs (TE.cells t))):Int)) (int (↑(List.length (TE.cells t)):Int)) from (Sub.of_eq (by simp only [Go.Sq.encs_length]))),kl [3,4,5,6,7,8,9,10,13,14,15,16,17,18,19,20,21,22,23,24,25,26,27,28,29,30,31,32,33,34,35,36,37,38,39,40,41,42,43,44,45,46] 4 (@hL )] (by kernel_rfl)
theorem itC (t:TE) (v:List IV) (x0:Int) (g:Nat) (rs:List CV) (hL:RunL P G none 4 (loopAt P 60 0) (ouQ t v t.cells.length 0 (hA t 0)) (.exit 0) (ouQX (hC t x0 g rs))) (h:True):CallC P G 60 [AV.yl 0,AV.imm [ces (TE.cells t),mks (TE.marks t)],AV.imm [ivA v]] (hA t 0) (AOut.ret (AV.tup [])) (hC t x0 g rs):=by
 have _:=h
 exact callC_of [kv 11 (show Am.Sub (int (↑(List.length (Sq.encs (TE.cells t))):Int)) (int (↑(List.length (TE.cells t)):Int)) from (Sub.of_eq (by simp only [Go.Sq.encs_length]))),kl [3,4,5,6,7,8,9,10,13,14,15,16,17,18,19,20,21,22,23,24,25,26,27,28,29,30,31,32,33,34,35,36,37,38,39,40,41,42,43,44,45,46] 4 (@hL )] (by kernel_rfl)
theorem ren_a (t:TE) (e:Int) (he:e≠0) (hc:CallC P G 17 [txt t] [] (.ret (int e)) []) (o:AOut) (H':List AObj) (h:(AOut.ret (AV.tup [AV.agg [int 0,int 0,str (ByteArray.mk #[]),nilS],int e])=o)∧([]=H')):CallC P G 15 [txt t] [] o H':=by
 obtain ⟨e1,eH⟩:=h
 exact CallC.heap (e1 ▸ ((show CallC P G 15 [txt t] [] (AOut.ret (AV.tup [AV.agg [int 0,int 0,str (ByteArray.mk #[]),nilS],int e])) [] from callC_of [kc [] (@hc ),kt (show (e != 0)=true from (congrArg Bool.not (decide_eq_false (by omega))))] (by kernel_rfl)))) eH
theorem ren_A (t:TE) (v:List IV) (hc:CallC P G 17 [txt t] [] (.ret (int 0)) []) (hs:CallC P G 36 [txt t] [] (.ret (sfn t v)) []) (hi:CallC P G 60 [.yl 0,.imm [ces t.cells,mks t.marks],.imm [ivA v]] (hA t 0) (.ret (.tup [])) (hA t 0)) (o:AOut) (H':List AObj) (h:(AOut.ret (AV.tup [AV.agg [int 3,int 0,str ByteArray.empty,nilS],int 0])=o)∧([]=H')):CallC P G 15 [txt t] [] o H':=by
 obtain ⟨e1,eH⟩:=h
 exact CallC.heap (e1 ▸ ((show CallC P G 15 [txt t] [] (AOut.ret (AV.tup [AV.agg [int 3,int 0,str ByteArray.empty,nilS],int 0])) [] from callC_of [kc [] (@hc ),kf (Eq.refl false),kc [] (@hs ),ko (Orc.range [0,3,4,6,7,8,9,10,11,12,13,14,15,16,17,18,19,20,21,22,23,24,25,26,27,28,29,30,31,32,33,34,35,36,37,38,39,40,41,42,43,44,45,46,47,48,49,50,51,52,53,54,55,56,57,58,59,60,61,62,63,64,65,66,67,68,69,70,71,72,73,74,75,76,77,78,79,80,81,82,83,84,85,86] 0 none AEx.normal [] []),kc [4,0,1,2] (@hi )] (by kernel_rfl)))) eH
theorem ren_C (t:TE) (v:List IV) (x0:Int) (g:Nat) (rs:List CV) (hc:CallC P G 17 [txt t] [] (.ret (int 0)) []) (hs:CallC P G 36 [txt t] [] (.ret (sfn t v)) []) (hi:CallC P G 60 [.yl 0,.imm [ces t.cells,mks t.marks],.imm [ivA v]] (hA t 0) (.ret (.tup [])) (hC t x0 g rs)) (o:AOut) (H':List AObj) (h:(AOut.ret (AV.tup [AV.agg [int 3,int 0,str ByteArray.empty,AV.sl 4 false (encL rs)],int 0])=o)∧([]=H')):CallC P G 15 [txt t] [] o H':=by
 obtain ⟨e1,eH⟩:=h
 exact CallC.heap (e1 ▸ ((show CallC P G 15 [txt t] [] (AOut.ret (AV.tup [AV.agg [int 3,int 0,str ByteArray.empty,AV.sl 4 false (encL rs)],int 0])) [] from callC_of [kc [] (@hc ),kf (Eq.refl false),kc [] (@hs ),ko (Orc.range [0,3,4,6,7,8,9,10,11,12,13,14,15,16,17,18,19,20,21,22,23,24,25,26,27,28,29,30,31,32,33,34,35,36,37,38,39,40,41,42,43,44,45,46,47,48,49,50,51,52,53,54,55,56,57,58,59,60,61,62,63,64,65,66,67,68,69,70,71,72,73,74,75,76,77,78,79,80,81,82,83,84,85,86] 0 none AEx.normal [] []),kc [4,0,1,2] (@hi ),ko (Orc.fz (some 86) (encL rs)),kp (show ∀ (x:List AV),x∈encL rs→AV.idsInL [] x=true from (Go.Cdc.encL_ids _)),kp (show g=g from (rfl)),kp (show List.take (List.length rs) (List.drop 0 (encL rs))=encL rs from (Go.Cdc.encL_all _)),kp (show List.length (encL rs)=List.length rs from (Go.Cdc.encL_length _)),kp (show ∀ (c:List AV),c∈encL rs→List.all c AV.pureB=true from (Go.Cdc.encL_pure _))] (by kernel_rfl)))) eH
end Go.Tx


namespace Go.Tx
open Go Go.Am Go.Proofs Go.Seat
open Go.Sq (CE cel ces ida idv pid fX fiO OkRs chkE)
open Go.Cdc (CV encL)
def prV (s:ByteArray) (ls:List Int):CV:=lV [tV s,lV (ls.map iV)]
def rn (sty:Nat→List Int):List CE→Nat→Option (List CV × ByteArray × List Int)→List CV
 | [],_,none=>[]
 | [],_,some (rs,s,ls)=>rs++[prV s ls]
 | c::l,k,st=>if c.gn=true then rn sty l (k+1) st else match st with
  | none=>rn sty l (k+1) (some ([],c.vl,sty k))
  | some (rs,s,ls)=>if sty k=ls then rn sty l (k+1) (some (rs,s++c.vl,ls)) else rn sty l (k+1) (some (rs++[prV s ls],c.vl,sty k))
theorem bitF_mem (p:Nat→Bool):∀ m s i,((i:Nat):Int)∈bitF p m s↔s≤i∧i<s+m∧p i=true
 | 0,s,i=>by simp only [bitF,List.not_mem_nil,false_iff]; omega
 | m+1,s,i=>by
  rw [bitF]
  have ih:=bitF_mem p m (s+1) i
  by_cases h:p s=true
  · rw [if_pos h,List.mem_cons,ih]
    constructor
    · rintro (e | ⟨a,b,c⟩)
      · have e:i=s:=by omega
        subst e; exact ⟨Nat.le_refl _,by omega,h⟩
      · exact ⟨by omega,by omega,c⟩
    · rintro ⟨a,b,c⟩
      by_cases e:i=s
      · left; rw [e]
      · right; exact ⟨by omega,by omega,c⟩
  · rw [if_neg h,ih]
    constructor
    · rintro ⟨a,b,c⟩; exact ⟨by omega,by omega,c⟩
    · rintro ⟨a,b,c⟩
      have:i≠s:=fun e=>h (e ▸ c)
      exact ⟨by omega,by omega,c⟩
theorem bitF_inj {a b:Nat} (ha:a<65536) (hb:b<65536) (h:bitF a.testBit 16 0=bitF b.testBit 16 0):a=b:=by
 apply Nat.eq_of_testBit_eq
 intro i
 by_cases hi:i<16
 · have h1:=bitF_mem a.testBit 16 0 i
   have h2:=bitF_mem b.testBit 16 0 i
   rw [h] at h1
   have h3:=h1.symm.trans h2
   cases e1:a.testBit i<;>cases e2:b.testBit i<;>simp [e1,e2,hi] at h3 ⊢
 · have e:(65536:Nat)=2 ^ 16:=rfl
   have h3:(65536:Nat)≤2 ^ i:=by rw [e]; exact Nat.pow_le_pow_right (by decide) (by omega)
   rw [Nat.testBit_lt_two_pow (by omega),Nat.testBit_lt_two_pow (by omega)]
noncomputable abbrev lpI:Code:=loopAt P 60 1
noncomputable abbrev lpO:Code:=loopAt P 60 0
theorem pair_ids (n:Nat) (s:ByteArray) (ls:List Int):∀ x∈pairC s ls,AV.idsLtL n x=true:=by
 intro x hx
 simp only [List.mem_cons,List.not_mem_nil,or_false] at hx
 rcases hx with rfl | rfl<;>rfl
theorem piA_all (t:TE) (x0:Int) (v:List IV) (n k:Nat) (hv:v.length≤1000000) (hst:∀ y∈v,0≤y.m.st):∀ d j x,v.length - j=d→j≤v.length→RunL P G none 4 lpI (piQ t v n k (hA t x0) 4 x j) (.exit 2) (piQX t v n k (hA t x0) 4 (stN (k:Int) x (v.drop j))):=by
 intro d
 induction d with
 | zero =>
  intro j x hd hj
  rw [List.drop_eq_nil_of_le (by omega)]
  exact piA_e t x0 v n k x j (by omega) trivial
 | succ d ih =>
  intro j x hd hj
  have hlt:j<v.length:=by omega
  have hy:v[j]? = some v[j]:=List.getElem?_eq_getElem hlt
  rw [List.drop_eq_getElem_cons hlt,stN]
  refine piA_n t x0 v n k x j v[j] (by omega) hv hy (hst _ (List.getElem_mem hlt)) _ _ ⟨fun h1=>⟨fun h2=>?_,fun h2=>?_⟩,fun h1=>?_⟩
  · rw [if_pos ⟨h1,h2⟩]; exact ih (j+1) _ (by omega) (by omega)
  · rw [if_neg (fun h=>h2 h.2)]; exact ih (j+1) _ (by omega) (by omega)
  · rw [if_neg (fun h=>h1 h.1)]; exact ih (j+1) _ (by omega) (by omega)
theorem piB_all (t:TE) (x0:Int) (g:Nat) (rs:List CV) (s0:ByteArray) (ls:List Int) (v:List IV) (n k:Nat) (hv:v.length≤1000000) (hst:∀ y∈v,0≤y.m.st):∀ d j x,v.length - j=d→j≤v.length→RunL P G none 4 lpI (piQ t v n k (hB t x0 g rs s0 ls) 6 x j) (.exit 2) (piQX t v n k (hB t x0 g rs s0 ls) 6 (stN (k:Int) x (v.drop j))):=by
 intro d
 induction d with
 | zero =>
  intro j x hd hj
  rw [List.drop_eq_nil_of_le (by omega)]
  exact piB_e t x0 g rs s0 ls v n k x j (by omega) trivial
 | succ d ih =>
  intro j x hd hj
  have hlt:j<v.length:=by omega
  have hy:v[j]? = some v[j]:=List.getElem?_eq_getElem hlt
  rw [List.drop_eq_getElem_cons hlt,stN]
  refine piB_n t x0 g rs s0 ls v n k x j v[j] (by omega) hv hy (hst _ (List.getElem_mem hlt)) _ _ ⟨fun h1=>⟨fun h2=>⟨pair_ids _ _ _,?_⟩,fun h2=>⟨pair_ids _ _ _,?_⟩⟩,fun h1=>⟨pair_ids _ _ _,?_⟩⟩
  · rw [if_pos ⟨h1,h2⟩]; exact ih (j+1) _ (by omega) (by omega)
  · rw [if_neg (fun h=>h2 h.2)]; exact ih (j+1) _ (by omega) (by omega)
  · rw [if_neg (fun h=>h1 h.1)]; exact ih (j+1) _ (by omega) (by omega)
theorem piC_all (t:TE) (x0:Int) (g:Nat) (rs:List CV) (v:List IV) (n k:Nat) (hv:v.length≤1000000) (hst:∀ y∈v,0≤y.m.st):∀ d j x,v.length - j=d→j≤v.length→RunL P G none 4 lpI (piQ t v n k (hC t x0 g rs) 5 x j) (.exit 2) (piQX t v n k (hC t x0 g rs) 5 (stN (k:Int) x (v.drop j))):=by
 intro d
 induction d with
 | zero =>
  intro j x hd hj
  rw [List.drop_eq_nil_of_le (by omega)]
  exact piC_e t x0 g rs v n k x j (by omega) trivial
 | succ d ih =>
  intro j x hd hj
  have hlt:j<v.length:=by omega
  have hy:v[j]? = some v[j]:=List.getElem?_eq_getElem hlt
  rw [List.drop_eq_getElem_cons hlt,stN]
  refine piC_n t x0 g rs v n k x j v[j] (by omega) hv hy (hst _ (List.getElem_mem hlt)) _ _ ⟨fun h1=>⟨fun h2=>?_,fun h2=>?_⟩,fun h1=>?_⟩
  · rw [if_pos ⟨h1,h2⟩]; exact ih (j+1) _ (by omega) (by omega)
  · rw [if_neg (fun h=>h2 h.2)]; exact ih (j+1) _ (by omega) (by omega)
  · rw [if_neg (fun h=>h1 h.1)]; exact ih (j+1) _ (by omega) (by omega)
theorem encL_snoc (rs:List CV) (s:ByteArray) (ls:List Int):encL (rs++[prV s ls])=encL rs++[[int 3,int 0,str ByteArray.empty,.sl 4 false (encL [tV s,lV (ls.map iV)])]]:=by
 rw [← Cdc.encL_append]; simp only [prV,lV,encL,CV.cells]
theorem pair_enc (s:ByteArray) (ls:List Int):encL [tV s,lV (ls.map iV)]=[[int 2,int 0,str s,.sl 4 false []],[int 3,int 0,str ByteArray.empty,.sl 4 false (encL (ls.map iV))]]:=by
 simp only [tV,lV,encL,CV.cells]
theorem idsL_free {xs:List (List AV)} (h:∀ c∈xs,AV.idsInL [] c=true) (σ:Nat→Nat):xs.map (AV.renL σ)=xs:=ren_free σ (ids_lt h 0)
theorem hB_hC {t:TE} {x:Int} {g:Nat} {rs:List CV} {s:ByteArray} {ls:List Int} {v:List IV} {n k:Nat} {ex:AEx} {s':St} (h:RunL P G none 4 lpO (ouQ t v n k (hC t x g (rs++[prV s ls]))) ex s'):RunL P G none 4 lpO (ouQ t v n k (hB t x g rs s ls)) ex s':=by
 refine RunL.subArrPre (b:=5) (k:=0) (j:=3) (y:=.sl 4 false []) rfl rfl rfl (Sub.emptyL 4 none 0) ?_
 let z:=encL [tV s,lV (ls.map iV)]
 let H0:List AObj:=[jrR,sbT t,.box [int 3,int 0,str ByteArray.empty,.own 4 g 0 (rs.length+1)],.box [u32 x],.arr g 4 false (encL rs++[[int 3,int 0,str ByteArray.empty,.own 5 0 0 2]])]
 have e:evalFrz (H0++[.arr 0 4 false z]) (.own 5 0 0 2) z=some (.sl 4 false z,H0++[.arr 0 4 true z],[(0:Nat)=0,(z.drop 0).take 2=z,z.length=2,∀ c∈z,c.all AV.pureB=true]):=rfl
 have hp:AllP [(0:Nat)=0,(z.drop 0).take 2=z,z.length=2,∀ c∈z,c.all AV.pureB=true]:=⟨rfl,Cdc.encL_all [tV s,lV (ls.map iV)],Cdc.encL_length _,Cdc.encL_pure _,trivial⟩
 have hs:RunL P G none 4 lpO (ouQ t v n k (H0++[.arr 0 4 false z])) ex s':=by
  refine RunL.frzArrPre (b:=4) (k:=rs.length) (j:=3) (cells:=[int 3,int 0,str ByteArray.empty,.own 5 0 0 2]) (x:=AV.own 5 0 0 2) (y:=AV.sl 4 false z) (z:=z) (s:=ouQ t v n k (H0++[AObj.arr 0 4 false z])) (H1:=H0++[AObj.arr 0 4 true z]) rfl rfl (get_last _ _ _ (Cdc.encL_length _).symm) rfl e hp ?_
  refine RunL.renPre (s2:=ouQ t v n k (hC t x g (rs++[prV s ls]))) (fun i=>i) (fun i _=>rfl) (by show 4≤5; decide) (fun i h _=>h) (fun i j _ _ h=>h) (fun i o ho=>?_) (fun i o ho=>?_) rfl rfl rfl rfl h
  · match i,ho with
    | 0,ho=>cases ho; rfl
    | 1,ho=>cases ho; rfl
    | 2,ho=>cases ho; show _=some (AObj.box [int 3,int 0,str ByteArray.empty,.own 4 g 0 (rs++[prV s ls]).length]); rw [List.length_append]; rfl
    | 3,ho=>cases ho; rfl
    | 4,ho =>
     cases ho
     show some (AObj.arr g 4 false ((encL rs++[[int 3,int 0,str ByteArray.empty,.own 5 0 0 2]]).set rs.length [int 3,int 0,str ByteArray.empty,.sl 4 false z]))=some (AObj.arr g 4 false ((encL (rs++[prV s ls])).map (AV.renL fun i=>i)))
     rw [idsL_free (Cdc.encL_ids _),set_last _ _ _ _ (Cdc.encL_length _).symm,encL_snoc]
    | n+5,ho=>cases ho
  · match i,ho with
    | 0,ho=>cases ho; show AV.idsLtL _ _=true; rfl
    | 1,ho=>cases ho; show AV.idsLtL _ _=true; rfl
    | 2,ho=>cases ho; show AV.idsLtL _ _=true; rfl
    | 3,ho=>cases ho; show AV.idsLtL _ _=true; rfl
    | 4,ho=>cases ho; exact ids_lt (Cdc.encL_ids _) _
    | n+5,ho=>cases ho
 have he:(ouQ t v n k (hB t x g rs s ls)).H.set 5 (.arr 0 4 false ((pairC s ls).set 0 ([int 2,int 0,str s,nilS].set 3 (.sl 4 false []))))=H0++[.arr 0 4 false z]:=by
  show H0++[_]=_
  rw [show z=_ from pair_enc s ls]
  rfl
 have e2:({ env:=(ouQ t v n k (hB t x g rs s ls)).env,H:=(ouQ t v n k (hB t x g rs s ls)).H.set 5 (.arr 0 4 false ((pairC s ls).set 0 ([int 2,int 0,str s,nilS].set 3 (.sl 4 false [])))),defs:=(ouQ t v n k (hB t x g rs s ls)).defs }:St)=ouQ t v n k (H0++[.arr 0 4 false z]):=by
  rw [he]; rfl
 exact e2 ▸ hs
theorem hA1_hB {t:TE} {y:Int} {l:List Int} {c:CE} {v:List IV} {n k:Nat} {ex:AEx} {s':St} (h:RunL P G none 4 lpO (ouQ t v n k (hB t y 0 [] c.vl l)) ex s'):RunL P G none 4 lpO (ouQ t v n k (hA1 t y l c)) ex s':=by
 refine RunL.renPre (s2:=ouQ t v n k (hB t y 0 [] c.vl l)) (fun i=>if i=4 then 8 else if i=5 then 7 else i) (fun i hi=>by show (if i=4 then 8 else if i=5 then 7 else i)=i; rw [if_neg (by omega),if_neg (by omega)]) (by show 4≤6; decide) (fun i h1 h2=>by show 4≤(if i=4 then 8 else if i=5 then 7 else i); split<;>(try split)<;>omega) (fun i j h1 h2 h=>by
  have h1:i<6:=h1
  have h2:j<6:=h2
  have h:(if i=4 then 8 else if i=5 then 7 else i)=(if j=4 then 8 else if j=5 then 7 else j):=h
  split at h<;>split at h<;>(try split at h)<;>(try split at h)<;>omega) (fun i o ho=>?_) (fun i o ho=>?_) rfl rfl rfl rfl h
 · match i,ho with
   | 0,ho=>cases ho; rfl
   | 1,ho=>cases ho; rfl
   | 2,ho=>cases ho; rfl
   | 3,ho=>cases ho; rfl
   | 4,ho=>cases ho; rfl
   | 5,ho=>cases ho; rfl
   | n+6,ho=>cases ho
 · match i,ho with
   | 0,ho=>cases ho; show AV.idsLtL _ _=true; rfl
   | 1,ho=>cases ho; show AV.idsLtL _ _=true; rfl
   | 2,ho=>cases ho; show AV.idsLtL _ _=true; rfl
   | 3,ho=>cases ho; show AV.idsLtL _ _=true; rfl
   | 4,ho =>
    cases ho
    intro x hx
    have hx:x∈[[int 3,int 0,str ByteArray.empty,AV.own 5 0 0 2]]:=hx
    simp only [List.mem_cons,List.not_mem_nil,or_false] at hx
    subst hx; rfl
   | 5,ho=>cases ho; exact pair_ids _ _ _
   | n+6,ho=>cases ho
theorem hC1_hB {t:TE} {y:Int} {g:Nat} {rs:List CV} {l:List Int} {c:CE} {v:List IV} {n k:Nat} {ex:AEx} {s':St} (h:RunL P G none 4 lpO (ouQ t v n k (hB t y (g+1) rs c.vl l)) ex s'):RunL P G none 4 lpO (ouQ t v n k (hC1 t y g rs l c)) ex s':=by
 refine RunL.renPre (s2:=ouQ t v n k (hB t y (g+1) rs c.vl l)) (fun i=>if i=5 then 8 else i) (fun i hi=>by show (if i=5 then 8 else i)=i; rw [if_neg (by omega)]) (by show 4≤6; decide) (fun i h1 h2=>by show 4≤(if i=5 then 8 else i); split<;>omega) (fun i j h1 h2 h=>by
  have h1:i<6:=h1
  have h2:j<6:=h2
  have h:(if i=5 then 8 else i)=(if j=5 then 8 else j):=h
  split at h<;>split at h<;>omega) (fun i o ho=>?_) (fun i o ho=>?_) rfl rfl rfl rfl h
 · match i,ho with
   | 0,ho=>cases ho; rfl
   | 1,ho=>cases ho; rfl
   | 2,ho=>cases ho; rfl
   | 3,ho=>cases ho; rfl
   | 4,ho =>
    cases ho
    show some (AObj.arr (g+1) 4 false (encL rs++[[int 3,int 0,str ByteArray.empty,.own 8 0 0 2]]))=some (AObj.arr (g+1) 4 false ((encL rs++[[int 3,int 0,str ByteArray.empty,.own 5 0 0 2]]).map (AV.renL _)))
    rw [List.map_append,idsL_free (Cdc.encL_ids _)]
    rfl
   | 5,ho=>cases ho; rfl
   | n+6,ho=>cases ho
 · match i,ho with
   | 0,ho=>cases ho; show AV.idsLtL _ _=true; rfl
   | 1,ho=>cases ho; show AV.idsLtL _ _=true; rfl
   | 2,ho=>cases ho; show AV.idsLtL _ _=true; rfl
   | 3,ho=>cases ho; show AV.idsLtL _ _=true; rfl
   | 4,ho =>
    cases ho
    intro x hx
    have hx:x∈encL rs++[[int 3,int 0,str ByteArray.empty,AV.own 5 0 0 2]]:=hx
    rcases List.mem_append.1 hx with hx | hx
    · exact ids_lt (Cdc.encL_ids _) _ x hx
    · simp only [List.mem_cons,List.not_mem_nil,or_false] at hx
      subst hx; rfl
   | 5,ho=>cases ho; exact pair_ids _ _ _
   | n+6,ho=>cases ho
end Go.Tx


namespace Go.Tx
open Go Go.Am Go.Proofs Go.Seat
open Go.Sq (CE cel ces ida idv pid fX fiO OkRs chkE)
open Go.Cdc (CV encL)
def styN (t:TE) (k:Nat):List Int:=styV t (k:Int)
def renV (t:TE):CV:=lV (rn (styN t) t.cells 0 none)
theorem B_loop (t:TE) (h:Val t) (hc:t.cells.length≤900000) (hv:t.marks.length≤900000):∀ d k,t.cells.length - k=d→k≤t.cells.length→∀ (r0 g:Nat) (rs:List CV) (s:ByteArray),r0<65536→rs.length+1≤k→s.size≤k →
 ∃ (x':Int) (g':Nat),RunL P G none 4 lpO (ouQ t (ivsV t) t.cells.length k (hB t (r0:Int) g rs s (bitF r0.testBit 16 0))) (.exit 0) (ouQX (hC t x' g' (rn (styN t) (t.cells.drop k) k (some (rs,s,bitF r0.testBit 16 0))))):=by
 have hlv:(ivsV t).length≤1000000:=by unfold ivsV; rw [List.length_map]; omega
 intro d
 induction d with
 | zero =>
  intro k hd hk r0 g rs s h0 hr hs
  rw [List.drop_eq_nil_of_le (by omega)]
  exact ⟨_,g,hB_hC (ouC_e t _ g _ _ _ k (by omega) trivial)⟩
 | succ d ih =>
  intro k hd hk r0 g rs s h0 hr hs
  have hlt:k<t.cells.length:=by omega
  have hx:t.cells[k]? = some t.cells[k]:=List.getElem?_eq_getElem hlt
  have hone:t.cells[k].vl.size=1:=h.one _ (List.getElem_mem hlt)
  obtain ⟨r,e1,e2,e3⟩:=set_is t (k:Int) h
  have hI:=piB_all t (r0:Int) g rs s (bitF r0.testBit 16 0) (ivsV t) t.cells.length k hlv (ivs_st h) _ 0 0 rfl (Nat.zero_le _)
  rw [List.drop_zero,e1] at hI
  have esty:styN t k=bitF r.testBit 16 0:=e3.symm
  rw [List.drop_eq_getElem_cons hlt,rn]
  cases hg:t.cells[k].gn with
  | true =>
   rw [if_pos rfl]
   obtain ⟨x',g',nx⟩:=ih (k+1) (by omega) (by omega) r0 g rs s h0 (by omega) (by omega)
   have hy:=ya_B t (r0:Int) (r:Int) g rs s (bitF r0.testBit 16 0) k _ hx hg true (hB t (r0:Int) g rs s (bitF r0.testBit 16 0)++[.box [u32 (r:Int)]]) ⟨pair_ids _ _ _,rfl,rfl⟩
   exact ⟨x',g',ouB_n t _ g rs s _ _ _ k _ s (by omega) (by omega) hI hy _ _ ⟨pair_ids _ _ _,nx⟩⟩
  | false =>
   rw [if_neg (by decide)]
   by_cases he:r=r0
   · rw [if_pos (by rw [esty,he])]
     subst he
     obtain ⟨x',g',nx⟩:=ih (k+1) (by omega) (by omega) r g rs (s++t.cells[k].vl) h0 (by omega) (by rw [ByteArray.size_append]; omega)
     have hy:=yc_B t (r:Int) (r:Int) g rs s (bitF r.testBit 16 0) k _ (by omega) hx hg rfl (by omega) (by
      have e:0+Int.toNat (((rs.length+1:Nat):Int) - 1)=rs.length:=by omega
      rw [e]
      exact get_last _ _ _ (Cdc.encL_length _).symm) true (hB t (r:Int) g rs (s++t.cells[k].vl) (bitF r.testBit 16 0)++[.box [u32 (r:Int)]]) ⟨pair_ids _ (s++t.cells[k].vl) _,rfl,rfl⟩
     exact ⟨x',g',ouB_n t _ g rs s _ _ _ k _ (s++t.cells[k].vl) (by omega) (by omega) hI hy _ _ ⟨pair_ids _ _ _,nx⟩⟩
   · rw [if_neg (by rw [esty]; exact fun e=>he (bitF_inj e2 h0 e)),esty]
     have hlen:(rs++[prV s (bitF r0.testBit 16 0)]).length=rs.length+1:=by rw [List.length_append]; rfl
     have hIC:=piC_all t (r0:Int) g (rs++[prV s (bitF r0.testBit 16 0)]) (ivsV t) t.cells.length k hlv (ivs_st h) _ 0 0 rfl (Nat.zero_le _)
     rw [List.drop_zero,e1] at hIC
     obtain ⟨x',g',nx⟩:=ih (k+1) (by omega) (by omega) r (g+1) (rs++[prV s (bitF r0.testBit 16 0)]) t.cells[k].vl e2 (by omega) (by omega)
     have hy:=yd_C t (r0:Int) (r:Int) g (rs++[prV s (bitF r0.testBit 16 0)]) (bitF r.testBit 16 0) k _ (by omega) (by omega) hx hg (by omega) (bitF_len _ _ _) (get_last _ _ _ (by rw [Cdc.encL_length]; omega)) (list_c r e2) (fun r2=>inC_all t _ _ g _ _ _ (bitF_len _ _ _) r2) true (hC1 t (r:Int) g (rs++[prV s (bitF r0.testBit 16 0)]) (bitF r.testBit 16 0) t.cells[k]) ⟨rfl,by
      rw [set_last _ _ _ _ (by rw [Cdc.encL_length]; omega)]
      rfl⟩
     exact ⟨x',g',hB_hC (ouC_1 t _ g _ _ _ k _ _ _ (by omega) (by omega) hIC hy _ _ (hC1_hB nx))⟩
theorem A_loop (t:TE) (h:Val t) (hc:t.cells.length≤900000) (hv:t.marks.length≤900000):∀ d k,t.cells.length - k=d→k≤t.cells.length →
 (rn (styN t) (t.cells.drop k) k none=[]∧RunL P G none 4 lpO (ouQ t (ivsV t) t.cells.length k (hA t 0)) (.exit 0) (ouQX (hA t 0))) ∨
 ∃ (x':Int) (g':Nat),RunL P G none 4 lpO (ouQ t (ivsV t) t.cells.length k (hA t 0)) (.exit 0) (ouQX (hC t x' g' (rn (styN t) (t.cells.drop k) k none))):=by
 have hlv:(ivsV t).length≤1000000:=by unfold ivsV; rw [List.length_map]; omega
 intro d
 induction d with
 | zero =>
  intro k hd hk
  rw [List.drop_eq_nil_of_le (by omega)]
  exact .inl ⟨rfl,ouA_e t _ _ _ k (by omega) trivial⟩
 | succ d ih =>
  intro k hd hk
  have hlt:k<t.cells.length:=by omega
  have hx:t.cells[k]? = some t.cells[k]:=List.getElem?_eq_getElem hlt
  have hone:t.cells[k].vl.size=1:=h.one _ (List.getElem_mem hlt)
  obtain ⟨r,e1,e2,e3⟩:=set_is t (k:Int) h
  have hI:=piA_all t 0 (ivsV t) t.cells.length k hlv (ivs_st h) _ 0 0 rfl (Nat.zero_le _)
  rw [List.drop_zero,e1] at hI
  have esty:styN t k=bitF r.testBit 16 0:=e3.symm
  rw [List.drop_eq_getElem_cons hlt,rn]
  cases hg:t.cells[k].gn with
  | true =>
   rw [if_pos rfl]
   have hy:=ya_A t 0 (r:Int) k _ hx hg true (hA t 0++[.box [u32 (r:Int)]]) ⟨rfl,rfl⟩
   rcases ih (k+1) (by omega) (by omega) with ⟨q1,q2⟩ | ⟨x',g',nx⟩
   · exact .inl ⟨q1,ouA_n t _ _ _ k _ (by omega) (by omega) hI hy _ _ q2⟩
   · exact .inr ⟨x',g',ouA_n t _ _ _ k _ (by omega) (by omega) hI hy _ _ nx⟩
  | false =>
   rw [if_neg (by decide)]
   rw [esty]
   obtain ⟨x',g',nx⟩:=B_loop t h hc hv d (k+1) (by omega) (by omega) r 0 [] t.cells[k].vl e2 (by simp) (by omega)
   have hy:=yb_A t 0 (r:Int) (bitF r.testBit 16 0) k _ hx hg (bitF_len _ _ _) (list_c r e2) (fun r2=>inA_all t _ _ _ _ (bitF_len _ _ _) r2) true (hA1 t (r:Int) (bitF r.testBit 16 0) t.cells[k]) ⟨rfl,rfl⟩
   exact .inr ⟨x',g',ouA_1 t _ _ _ k _ _ _ (by omega) (by omega) hI hy _ _ (hA1_hB nx)⟩
def renE (t:TE):CV:=if chkT t=0 then renV t else .mk 0 0 .empty []
theorem render_c (t:TE) (hl:LenT t) (hO:OkT t):CallC P G 15 [txt t] [] (.ret (.tup [Cdc.val (renE t),int (chkT t)])) []:=by
 have hk:=check_c t hl hO
 have h1:=hl.cells
 have h2:=hl.marks
 unfold renE
 by_cases h0:chkT t=0
 · rw [if_pos h0,h0]
   rw [h0] at hk
   have hs:=styled_c t (by omega) (by omega)
   rcases A_loop t (chkT_iff.1 h0) (by omega) (by omega) _ 0 rfl (Nat.zero_le _) with ⟨q1,q2⟩ | ⟨x',g',q⟩
   · rw [List.drop_zero] at q1
     have:=ren_A t (ivsV t) hk hs (itA t _ q2 trivial) _ _ ⟨rfl,rfl⟩
     unfold renV
     rw [q1]
     exact this.out (.tup2 (.aggs ⟨Sub.refl _,Sub.refl _,Sub.refl _,Sub.nil 4,trivial⟩) (Sub.refl _))
   · rw [List.drop_zero] at q
     exact ren_C t (ivsV t) x' g' _ hk hs (itC t _ x' g' _ q trivial) _ _ ⟨rfl,rfl⟩
 · rw [if_neg h0]
   have:=ren_a t _ h0 hk _ _ ⟨rfl,rfl⟩
   exact this.out (.tup2 (.aggs ⟨Sub.refl _,Sub.refl _,Sub.refl _,Sub.nil 4,trivial⟩) (Sub.refl _))
end Go.Tx


namespace Go.Tx
open Go Go.Am Go.Proofs Go.Seat
open Go.Sq (CE cel ces ida idv pid fX fiO OkRs chkE)
open Go.Cdc (CV encL)
abbrev vZ:AObj:=.box [int 0,int 0,str (ByteArray.mk #[]),nilS]
abbrev wB (L:AV):AObj:=.box [int 3,int 0,str (ByteArray.mk #[]),L]
end Go.Tx


namespace Go.Am
open Go
def PSub (x y:AV):Prop:=∀ w M v,PRep w M x v→PRep w M y v
theorem PSub.refl (x:AV):PSub x x:=fun _ _ _ h=>h
theorem PSub.nil (sz:Nat):PSub (.lit (.slice none 0 0)) (.sl sz false []):=fun w M v h=>by
 cases h
 exact .sl sz false [] none 0 0 0 (fun _ _=>undef) (fun h=>absurd rfl h) (fun h=>absurd rfl h) (Nat.le_refl _) (fun h=>by cases h) (fun x hx=>by cases hx) (fun k j hk=>absurd hk (Nat.not_lt_zero _)) (fun k j hk=>absurd hk (Nat.not_lt_zero _)) (fun k j hk=>absurd hk (Nat.not_lt_zero _))
theorem Sub.slP {sz:Nat} {t:Bool} {xs ys:List (List AV)} (hl:ys.length=xs.length) (hsz:∀ y∈ys,y.length=sz) (h:∀ k j,k<xs.length→j<sz→PSub ((xs.getD k []).getD j .dead) ((ys.getD k []).getD j .dead)):Sub (.sl sz t xs) (.sl sz false ys):=fun V v h9=>by
 have hp:=rep_sl h9
 cases hp with
 | sl _ _ _ A cap b o vs hA hb hcap ht h1 hc ho hr =>
  have hne:ys≠[]→xs≠[]:=fun h1 h2=>h1 (List.eq_nil_of_length_eq_zero (by rw [hl,h2]; rfl))
  have:PRep V.w V.M (.sl sz false ys) (.slice A ys.length cap):=.sl sz false ys A cap b o vs (fun h=>hA (hne h)) (fun h=>hb (hne h)) (by omega) (fun h=>by cases h) hsz (fun k j hk hj=>hc k j (by omega) hj) (fun k j hk hj=>ho k j (by omega) hj) (fun k j hk hj=>h k j (by omega) hj _ _ _ (hr k j (by omega) hj))
  rw [hl] at this
  exact .pure _ _ this
end Go.Am
namespace Go.Tx
open Go Go.Am Go.Proofs Go.Seat
open Go.Sq (CE cel ces ida idv pid fX fiO OkRs chkE)
open Go.Cdc (CV encL)
theorem pair_sub (s:ByteArray) (ls:List Int):Sub (.sl 4 true [[int 2,int 0,str s,nilS],[int 3,int 0,str ByteArray.empty,.sl 4 false (encL (ls.map iV))]]) (.sl 4 false (encL [tV s,lV (ls.map iV)])):=by
 rw [pair_enc]
 refine Sub.slP rfl (fun y hy=>?_) fun k j hk hj=>?_
 · simp only [List.mem_cons,List.not_mem_nil,or_false] at hy
   rcases hy with rfl | rfl<;>rfl
 · match k,hk with
   | 0,_=>match j,hj with
    | 0,_=>exact PSub.refl _
    | 1,_=>exact PSub.refl _
    | 2,_=>exact PSub.refl _
    | 3,_=>exact PSub.nil 4
   | 1,_=>exact PSub.refl _
end Go.Tx


namespace Go.Tx
open Go Go.Am Go.Proofs Go.Seat
open Go.Sq (CE cel ces ida idv pid fX fiO OkRs chkE)
open Go.Cdc (CV encL)
end Go.Tx


namespace Go.Tx
open Go Go.Am Go.Proofs Go.Seat
open Go.Sq (CE cel ces ida idv pid fX fiO OkRs chkE)
open Go.Cdc (CV encL enc val vmk encL_length)
mutual
def sm:CV→CV→Bool
 | .mk k n s l,.mk k' n' s' l'=>decide (k=k') && decide (n=n') && decide (s=s') && smL l l'
def smL:List CV→List CV→Bool
 | [],[]=>true
 | a::l,b::m=>sm a b && smL l m
 | [],_::_=>false
 | _::_,[]=>false
end
inductive OkS:CV→Prop
 | mk (k n:Int) (s:ByteArray) (l:List CV) (hl:l.length≤1000000) (h:∀ x∈l,OkS x):OkS (.mk k n s l)
theorem vs_ne1 (k n k' n':Int) (s s':ByteArray) (l l':List CV) (hn:¬ (k=k'∧n=n'∧l.length=l'.length)) (h:(((k=k')→(((n=n')→(((s=s')→True)∧((¬s=s')→True)))∧((¬n=n')→True)))∧((¬k=k')→True))):CallC P G 22 [vmk k n s l,vmk k' n' s' l'] [] (AOut.ret (Am.bool false)) []:=by
 by_cases c1:(k=k')
 · have h:=h.1 c1
   have hz0:(k != k')=false:=(congrArg Bool.not (beq_iff_eq.2 c1))
   by_cases c2:(n=n')
   · have h:=h.1 c2
     have hz1:(n != n')=false:=(congrArg Bool.not (beq_iff_eq.2 c2))
     have hz2:Am.Sub (Am.bool !ByteArray.toList s == ByteArray.toList s') (Am.bool !decide (s=s')):=(Sub.of_eq (by simp only [Go.Cdc.str_eq]))
     by_cases c3:(s=s')
     · have h:=h.1 c3
       have _:=h
       exact callC_of [kf hz0,kf hz1,kv 23 hz2,kf (show (!decide (s=s'))=false from (congrArg Bool.not (decide_eq_true c3))),kv 28 (show Am.Sub (int (↑(List.length (encL l)):Int)) (int (↑(List.length l):Int)) from (Sub.of_eq (by simp only [Go.Cdc.encL_length]))),kv 31 (show Am.Sub (int (↑(List.length (encL l')):Int)) (int (↑(List.length l'):Int)) from (Sub.of_eq (by simp only [Go.Cdc.encL_length]))),kt (show ((↑(List.length l):Int) != (↑(List.length l'):Int))=true from (congrArg Bool.not (decide_eq_false (by omega))))] (by kernel_rfl)
     · have h:=h.2 c3
       have _:=h
       exact callC_of [kf hz0,kf hz1,kv 23 hz2,kt (show (!decide (s=s'))=true from (congrArg Bool.not (decide_eq_false c3))),kt (Eq.refl true)] (by kernel_rfl)
   · have h:=h.2 c2
     have _:=h
     exact callC_of [kf hz0,kt (show (n != n')=true from (congrArg Bool.not (beq_eq_false_iff_ne.2 c2))),kt (Eq.refl true),kt (Eq.refl true)] (by kernel_rfl)
 · have h:=h.2 c1
   have _:=h
   exact callC_of [kt (show (k != k')=true from (congrArg Bool.not (beq_eq_false_iff_ne.2 c1))),kt (Eq.refl true),kt (Eq.refl true),kt (Eq.refl true)] (by kernel_rfl)
theorem vs_ne2 (k n k' n':Int) (s s':ByteArray) (l l':List CV) (hs:decide (s=s')=false) (h:(((k=k')→(((n=n')→True)∧((¬n=n')→True)))∧((¬k=k')→True))):CallC P G 22 [vmk k n s l,vmk k' n' s' l'] [] (AOut.ret (Am.bool false)) []:=by
 by_cases c1:(k=k')
 · have h:=h.1 c1
   have hz0:(k != k')=false:=(congrArg Bool.not (beq_iff_eq.2 c1))
   by_cases c2:(n=n')
   · have h:=h.1 c2
     have _:=h
     exact callC_of [kf hz0,kf (show (n != n')=false from (congrArg Bool.not (beq_iff_eq.2 c2))),kv 23 (show Am.Sub (Am.bool !ByteArray.toList s == ByteArray.toList s') (Am.bool !decide (s=s')) from (Sub.of_eq (by simp only [Go.Cdc.str_eq]))),kt (show (!decide (s=s'))=true from (congrArg Bool.not (hs))),kt (Eq.refl true)] (by kernel_rfl)
   · have h:=h.2 c2
     have _:=h
     exact callC_of [kf hz0,kt (show (n != n')=true from (congrArg Bool.not (beq_eq_false_iff_ne.2 c2))),kt (Eq.refl true),kt (Eq.refl true)] (by kernel_rfl)
 · have h:=h.2 c1
   have _:=h
   exact callC_of [kt (show (k != k')=true from (congrArg Bool.not (beq_eq_false_iff_ne.2 c1))),kt (Eq.refl true),kt (Eq.refl true),kt (Eq.refl true)] (by kernel_rfl)
noncomputable def smSt (k n:Int) (s:ByteArray) (l l':List CV) (i:Nat):St:={ env:=slots 53 [(2,.ptr 0 0),(3,.ptr 1 0),(4,bool false),(5,int i)],H:=[.box [int k,int n,str s,.sl 4 false (encL l)],.box [int k,int n,str s,.sl 4 false (encL l')]] }
theorem vs_end (k n:Int) (s:ByteArray) (l m:List CV) (i:Nat) (hi:l.length≤i) (h:True):RunL P G none 0 (loopAt P 22 0) (smSt k n s l m i) (AEx.exit 0) (St.mk (slots 53 [(4,Am.bool false)]) [AObj.gone,AObj.gone] []):=by
 have _:=h
 exact RunL.to (RunL.postH ((show RunL P G none 0 (loopAt P 22 0) (smSt k n s l m i) (AEx.exit 0) (St.mk (slots 53 [(4,Am.bool false)]) [AObj.box [int k,int n,str s,AV.sl 4 false (encL l)],AObj.box [int k,int n,str s,AV.sl 4 false (encL m)]] []) from loop_exit [kv 37 (show Am.Sub (int (↑(List.length (encL l)):Int)) (int (↑(List.length l):Int)) from (Sub.of_eq (by simp only [Go.Cdc.encL_length]))),kf (show decide ((↑i:Int)<(↑(List.length l):Int))=false from (decide_eq_false (by omega)))] (others 53 [4]) 2 (by kernel_rfl))) (by exact ⟨.inr trivial,.inr trivial,trivial⟩)) rfl (SubS.slots ⟨rfl,Sub.refl _,trivial⟩)
theorem vs_step (k n:Int) (s:ByteArray) (l m:List CV) (i:Nat) (a b:CV) (c:Bool) (hi:i<l.length) (hl:l.length≤1000000) (ha:l[i]? = some a) (hb:m[i]? = some b) (hv:CallC P G 22 [val a,val b] [] (.ret (bool c)) []) (ex:AEx) (h:((((c)=true)→RunL P G none 0 (loopAt P 22 0) (St.mk (slots 53 [(2,AV.ptr 0 0),(3,AV.ptr 1 0),(4,Am.bool false),(5,int (↑(i+1):Int))]) [AObj.box [int k,int n,str s,AV.sl 4 false (encL l)],AObj.box [int k,int n,str s,AV.sl 4 false (encL m)]] []) ex (St.mk (slots 53 [(4,Am.bool false)]) [AObj.gone,AObj.gone] []))∧(((c)=false)→AEx.ret=ex))):RunL P G none 0 (loopAt P 22 0) (smSt k n s l m i) ex (St.mk (slots 53 [(4,Am.bool false)]) [AObj.gone,AObj.gone] []):=by
 have hz0:Am.Sub (int (↑(List.length (encL l)):Int)) (int (↑(List.length l):Int)):=(Sub.of_eq (by simp only [Go.Cdc.encL_length]))
 have hz1:decide ((↑i:Int)<(↑(List.length l):Int))=true:=(decide_eq_true (by omega))
 have hz2:(0:Int)≤(↑i:Int)∧(encL l)[Int.toNat (↑i:Int)]? = some (Cdc.enc a):=(by rw [Go.Cdc.encL_map]; exact el_nat ha)
 have hz3:(0:Int)≤(↑i:Int)∧(encL m)[Int.toNat (↑i:Int)]? = some (Cdc.enc b):=(by rw [Go.Cdc.encL_map]; exact el_nat hb)
 have hz4:=(@hv )
 rcases Bool.eq_false_or_eq_true ((c)) with c2 | c2
 · have h:=h.1 c2
   exact loop_next [kv 37 hz0,kt hz1,ko (Orc.elem (Cdc.enc a)),ko (Orc.elem (Cdc.enc b)),kp hz2,kp hz3,kc [] hz4,kf (show (!c)=false from (congrArg Bool.not (c2))),kv 40 (show Am.Sub (int (IntKind.wrap IntKind.i64 ((↑i:Int)+1))) (int (↑(i+1):Int)) from (Sub.of_wrap (by omega) (by omega) (by omega)))] (others 53 [2,3,4,5]) 2 h (by kernel_rfl)
 · have h:=h.2 c2
   have eX:=h
   exact RunL.to (RunL.postH ((show RunL P G none 0 (loopAt P 22 0) (smSt k n s l m i) AEx.ret (St.mk (slots 53 [(4,Am.bool false)]) [AObj.box [int k,int n,str s,AV.sl 4 false (encL l)],AObj.box [int k,int n,str s,AV.sl 4 false (encL m)]] []) from loop_exit [kv 37 hz0,kt hz1,ko (Orc.elem (Cdc.enc a)),ko (Orc.elem (Cdc.enc b)),kp hz2,kp hz3,kc [] hz4,kt (show (!c)=true from (congrArg Bool.not (c2)))] (others 53 [4]) 2 (by kernel_rfl))) (by exact ⟨.inr trivial,.inr trivial,trivial⟩)) eX (SubS.slots ⟨rfl,Sub.refl _,trivial⟩)
theorem vs_w (k n:Int) (s:ByteArray) (l m:List CV) (hn:l.length=m.length) (c b:Bool) (hL:RunL P G none 0 (loopAt P 22 0) (smSt k n s l m 0) (if c=true then .exit 0 else .ret) { env:=slots 53 [(4,bool false)],H:=[.gone,.gone] }) (h:(((s=s)→(((c=true)→(true)=(b))∧((¬c=true)→(false)=(b))))∧((¬s=s)→(false)=(b)))):CallC P G 22 [vmk k n s l,vmk k n s m] [] (AOut.ret (Am.bool b)) []:=by
 have hz0:(k != k)=false:=(congrArg Bool.not (decide_eq_true (by omega)))
 have hz1:(n != n)=false:=(congrArg Bool.not (decide_eq_true (by omega)))
 have hz2:Am.Sub (Am.bool !ByteArray.toList s == ByteArray.toList s) (Am.bool !decide (s=s)):=(Sub.of_eq (by simp only [Go.Cdc.str_eq]))
 by_cases c3:(s=s)
 · have h:=h.1 c3
   have hz3:(!decide (s=s))=false:=(congrArg Bool.not (decide_eq_true c3))
   have hz4:Am.Sub (int (↑(List.length (encL l)):Int)) (int (↑(List.length l):Int)):=(Sub.of_eq (by simp only [Go.Cdc.encL_length]))
   have hz5:Am.Sub (int (↑(List.length (encL m)):Int)) (int (↑(List.length m):Int)):=(Sub.of_eq (by simp only [Go.Cdc.encL_length]))
   have hz6:((↑(List.length l):Int) != (↑(List.length m):Int))=false:=(congrArg Bool.not (decide_eq_true (by omega)))
   by_cases c5:(c=true)
   · have h:=h.1 c5
     have e1:=h
     exact callC_out (Sub.bool_eq e1) [kf hz0,kf hz1,kv 23 hz2,kf hz3,kv 28 hz4,kv 31 hz5,kf hz6,kl [0,1,6,7,8,9,10,11,12,13,14,15,16,17,18,19,20,21,22,23,24,25,26,27,28,29,30,31,32,33,34,35,36,37,38,39,40,41,42,43,44,45,46,47,48,49,50,51,52] 2 (show RunL P G none 0 (loopAt P 22 0) (St.mk (slots 53 [(2,AV.ptr 0 0),(3,AV.ptr 1 0),(4,Am.bool false),(5,int 0)]) [AObj.box [int k,int n,str s,AV.sl 4 false (encL l)],AObj.box [int k,int n,str s,AV.sl 4 false (encL m)]] []) (AEx.exit 0) (St.mk (slots 53 [(4,Am.bool false)]) [AObj.gone,AObj.gone] []) from (by have h0:=(@hL ); simp only [if_pos c5] at h0; exact h0))] (by kernel_rfl)
   · have h:=h.2 c5
     have e1:=h
     exact callC_out (Sub.bool_eq e1) [kf hz0,kf hz1,kv 23 hz2,kf hz3,kv 28 hz4,kv 31 hz5,kf hz6,kl [0,1,6,7,8,9,10,11,12,13,14,15,16,17,18,19,20,21,22,23,24,25,26,27,28,29,30,31,32,33,34,35,36,37,38,39,40,41,42,43,44,45,46,47,48,49,50,51,52] 2 (show RunL P G none 0 (loopAt P 22 0) (St.mk (slots 53 [(2,AV.ptr 0 0),(3,AV.ptr 1 0),(4,Am.bool false),(5,int 0)]) [AObj.box [int k,int n,str s,AV.sl 4 false (encL l)],AObj.box [int k,int n,str s,AV.sl 4 false (encL m)]] []) AEx.ret (St.mk (slots 53 [(4,Am.bool false)]) [AObj.gone,AObj.gone] []) from (by have h0:=(@hL ); simp only [if_neg c5] at h0; exact h0))] (by kernel_rfl)
 · have h:=h.2 c3
   have e1:=h
   exact callC_out (Sub.bool_eq e1) [kf hz0,kf hz1,kv 23 hz2,kt (show (!decide (s=s))=true from (congrArg Bool.not (decide_eq_false c3))),kt (Eq.refl true)] (by kernel_rfl)
end Go.Tx


namespace Go.Tx
open Go Go.Am Go.Proofs Go.Seat
open Go.Sq (CE cel ces ida idv pid fX fiO OkRs chkE)
open Go.Cdc (CV encL enc val vmk encL_length)
theorem smL_len:∀ {l m:List CV},smL l m=true→l.length=m.length
 | [],[],_=>rfl
 | a::l,b::m,h=>by
  simp only [smL,Bool.and_eq_true] at h
  simp only [List.length_cons,smL_len h.2]
 | [],_::_,h=>by simp [smL] at h
 | _::_,[],h=>by simp [smL] at h
theorem CV.ind {p:CV→Prop} (h:∀ k n s l,(∀ x∈l,p x)→p (.mk k n s l)) (v:CV):p v :=
 CV.rec (motive_1:=p) (motive_2:=fun l=>∀ x∈l,p x) (fun k n s l ih=>h k n s l ih) (fun _ hx=>by cases hx) (fun a l ha hl x hx=>by
  rcases List.mem_cons.1 hx with rfl | hx
  · exact ha
  · exact hl x hx) v
theorem sm_iff_all:(∀ a:CV,∀ b:CV,sm a b=true↔a=b):=by
 refine fun a=>CV.ind (p:=fun a=>∀ b:CV,sm a b=true↔a=b) (fun k n s l ih=>?_) a
 have hl:∀ (l m:List CV),(∀ x∈l,∀ b:CV,sm x b=true↔x=b)→(smL l m=true↔l=m):=by
  intro l
  induction l with
  | nil=>intro m _; cases m<;>simp [smL]
  | cons x l ihl =>
   intro m hx
   cases m with
   | nil=>simp [smL]
   | cons y m =>
    simp only [smL,Bool.and_eq_true,hx x (List.mem_cons_self) y,ihl m fun z hz=>hx z (List.mem_cons_of_mem _ hz),List.cons.injEq]
 intro b
 cases b with
 | mk k' n' s' l' =>
  simp only [sm,Bool.and_eq_true,decide_eq_true_eq,hl l l' ih,CV.mk.injEq]
  constructor
  · rintro ⟨⟨⟨h1,h2⟩,h3⟩,h4⟩; exact ⟨h1,h2,h3,h4⟩
  · rintro ⟨h1,h2,h3,h4⟩; exact ⟨⟨⟨h1,h2⟩,h3⟩,h4⟩
theorem sm_iff {a b:CV}:sm a b=true↔a=b:=sm_iff_all a b
theorem drop_get {α:Type} {l:List α} {i:Nat} (h:i<l.length):l.drop i=l[i]::l.drop (i+1):=List.drop_eq_getElem_cons h
theorem vs_loop (k n:Int) (s:ByteArray) (l m:List CV) (hl:l.length≤1000000) (hlm:l.length=m.length) (hv:∀ x∈l,∀ y∈m,CallC P G 22 [val x,val y] [] (.ret (bool (sm x y))) []):∀ (c i:Nat),l.length - i=c→i≤l.length →
 RunL P G none 0 (loopAt P 22 0) (smSt k n s l m i) (if smL (l.drop i) (m.drop i)=true then .exit 0 else .ret) { env:=slots 53 [(4,bool false)],H:=[.gone,.gone] }:=by
 intro c
 induction c with
 | zero =>
  intro i hc hi
  rw [List.drop_of_length_le (by omega),List.drop_of_length_le (by omega)]
  simp only [smL,if_true]
  exact vs_end k n s l m i (by omega) trivial
 | succ c ih =>
  intro i hc hi
  have hlt:i<l.length:=by omega
  have hlt':i<m.length:=by omega
  rw [drop_get hlt,drop_get hlt']
  refine vs_step k n s l m i l[i] m[i] (sm l[i] m[i]) hlt hl (List.getElem?_eq_getElem hlt) (List.getElem?_eq_getElem hlt') (hv _ (List.getElem_mem hlt) _ (List.getElem_mem hlt')) _ ⟨fun h=>?_,fun h=>?_⟩
  · simp only [smL,h,Bool.true_and]; exact ih (i+1) (by omega) (by omega)
  · simp [smL,h]
theorem vsame_b (a:CV):OkS a→∀ b:CV,CallC P G 22 [val a,val b] [] (.ret (bool (sm a b))) []:=by
 refine CV.ind (p:=fun a=>OkS a→∀ b:CV,CallC P G 22 [val a,val b] [] (.ret (bool (sm a b))) []) (fun k n s l ih hok b=>?_) a
 cases hok with
 | mk _ _ _ _ hl hall =>
  cases b with
  | mk k' n' s' l' =>
   rw [Cdc.val_mk,Cdc.val_mk]
   by_cases hc:k=k'∧n=n'∧l.length=l'.length
   · obtain ⟨rfl,rfl,hll⟩:=hc
     by_cases he:s=s'
     · subst he
       have:=vs_loop k n s l l' hl hll (fun x hx y _=>ih x hx (hall x hx) y) l.length 0 (by omega) (by omega)
       rw [List.drop_zero,List.drop_zero] at this
       exact vs_w k n s l l' hll _ _ this ⟨fun _=>⟨fun h=>by simp [sm,h],fun h=>by simp [sm,h]⟩,fun h=>absurd rfl h⟩
     · have:sm (.mk k n s l) (.mk k n s' l')=false:=by simp [sm,he]
       rw [this]
       exact vs_ne2 k n k n s s' l l' (decide_eq_false he) ⟨fun _=>⟨fun _=>trivial,fun _=>trivial⟩,fun _=>trivial⟩
   · have:sm (.mk k n s l) (.mk k' n' s' l')=false:=by
      refine Bool.eq_false_iff.2 fun h=>hc ?_
      simp only [sm,Bool.and_eq_true,decide_eq_true_eq] at h
      exact ⟨h.1.1.1,h.1.1.2,smL_len h.2⟩
     rw [this]
     exact vs_ne1 k n k' n' s s' l l' hc ⟨fun _=>⟨fun _=>⟨fun _=>trivial,fun _=>trivial⟩,fun _=>trivial⟩,fun _=>trivial⟩
instance:DecidableEq CV:=fun a b=>if h:sm a b=true then .isTrue (sm_iff.1 h) else .isFalse fun e=>h (sm_iff.2 e)
theorem vsame_c (a b:CV) (h:OkS a):CallC P G 22 [val a,val b] [] (.ret (bool (decide (a=b)))) []:=by
 have e:decide (a=b)=sm a b:=by
  cases hs:sm a b with
  | true=>exact decide_eq_true (sm_iff.1 hs)
  | false=>exact decide_eq_false fun e=>by rw [sm_iff.2 e] at hs; cases hs
 rw [e]
 exact vsame_b a h b
theorem OkS_iV (x:Int):OkS (iV x):=.mk _ _ _ _ (by simp) (fun x hx=>by cases hx)
theorem OkS_lV {l:List CV} (hl:l.length≤1000000) (h:∀ x∈l,OkS x):OkS (lV l):=.mk _ _ _ _ hl h
theorem OkS_prV (s:ByteArray) (ls:List Int) (h:ls.length≤16):OkS (prV s ls):=by
 refine OkS_lV (by simp) fun x hx=>?_
 simp only [List.mem_cons,List.not_mem_nil,or_false] at hx
 rcases hx with rfl | rfl
 · exact .mk _ _ _ _ (by simp) (fun x hx=>by cases hx)
 · refine OkS_lV (by simp; omega) fun x hx=>?_
   obtain ⟨y,_,rfl⟩:=List.mem_map.1 hx
   exact OkS_iV y
end Go.Tx
