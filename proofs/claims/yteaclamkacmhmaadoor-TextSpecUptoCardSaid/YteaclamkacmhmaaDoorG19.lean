import Derived.Test.YteaclamkacmhmaaDoorG18
import Derived.KernelRfl
set_option maxRecDepth 100000
set_option linter.unusedSimpArgs false
set_option linter.unusedVariables false

namespace Go.Tx
open Go Go.Am Go.Proofs Go.Seat
open Go.Sq (CE cel ces ida idv pid fX fiO OkRs chkE)
open Go.Cdc (CV encL)
def iV (x:Int):CV:=.mk 1 x ByteArray.empty []
def tV (s:ByteArray):CV:=.mk 2 0 s []
def lV (l:List CV):CV:=.mk 3 0 ByteArray.empty l
abbrev pairC (s:ByteArray) (ls:List Int):List (List AV):=[[int 2,int 0,str s,nilS],[int 3,int 0,str ByteArray.empty,.sl 4 false (encL (ls.map iV))]]
noncomputable def jrR:AObj:=.rng .ready none (slots 87 [(1,.ptr 1 0),(2,.ptr 2 0),(5,.ptr 3 0)]) #[22,23] (asgAt P 15 0) (rbodyAt P 15 0)
noncomputable def hA (t:TE) (x:Int):List AObj:=[jrR,sbT t,.box [int 3,int 0,str ByteArray.empty,nilS],.box [u32 x]]
noncomputable def hB (t:TE) (x:Int) (g:Nat) (rs:List CV) (s:ByteArray) (ls:List Int):List AObj:=[jrR,sbT t,.box [int 3,int 0,str ByteArray.empty,.own 4 g 0 (rs.length+1)],.box [u32 x],.arr g 4 false (encL rs++[[int 3,int 0,str ByteArray.empty,.own 5 0 0 2]]),.arr 0 4 false (pairC s ls)]
noncomputable def hC (t:TE) (x:Int) (g:Nat) (rs:List CV):List AObj:=[jrR,sbT t,.box [int 3,int 0,str ByteArray.empty,.own 4 g 0 rs.length],.box [u32 x],.arr g 4 false (encL rs)]
theorem ya_A (t:TE) (x y:Int) (k:Nat) (c:CE) (hx:t.cells[k]? = some c) (hg:c.gn=true) (b:Bool) (H':List AObj) (h:(true=b)∧([jrR,AObj.box [AV.sl 9 false (Sq.encs (TE.cells t)),AV.sl 11 false (encs (TE.marks t))],AObj.box [int 3,int 0,str ByteArray.empty,nilS],AObj.box [AV.lit (Value.int IntKind.u32 x)],AObj.box [AV.lit (Value.int IntKind.u32 y)]]=H')):YieldC P G 0 [int (↑k:Int),u32 y] (hA t x++[AObj.box [u32 y]]) b H':=by
 obtain ⟨e1,e2⟩:=h
 exact YieldC.to ((show YieldC P G 0 [int (↑k:Int),u32 y] (hA t x++[AObj.box [u32 y]]) true [jrR,AObj.box [AV.sl 9 false (Sq.encs (TE.cells t)),AV.sl 11 false (encs (TE.marks t))],AObj.box [int 3,int 0,str ByteArray.empty,nilS],AObj.box [AV.lit (Value.int IntKind.u32 x)],AObj.box [AV.lit (Value.int IntKind.u32 y)]] from yieldC_of (fun _=>[ko (Orc.elem (Sq.enc c)),kp (show (0:Int)≤(↑k:Int)∧(Sq.encs (TE.cells t))[Int.toNat (↑k:Int)]? = some (Sq.enc c) from (el_nat hx)),kt hg]) (fun _=>by kernel_rfl))) e1 e2
theorem ya_B (t:TE) (x y:Int) (g:Nat) (rs:List CV) (s:ByteArray) (ls:List Int) (k:Nat) (c:CE) (hx:t.cells[k]? = some c) (hg:c.gn=true) (b:Bool) (H':List AObj) (h:((∀ (x_1:List AV),x_1∈pairC s ls→AV.idsLtL (List.length (hB t x g rs s ls++[AObj.box [u32 y]])) x_1=true)∧(true=b)∧([jrR,AObj.box [AV.sl 9 false (Sq.encs (TE.cells t)),AV.sl 11 false (encs (TE.marks t))],AObj.box [int 3,int 0,str ByteArray.empty,AV.own 4 g 0 (List.length rs+1)],AObj.box [AV.lit (Value.int IntKind.u32 x)],AObj.arr g 4 false (encL rs++[[int 3,int 0,str ByteArray.empty,AV.own 5 0 0 2]]),AObj.arr 0 4 false [[int 2,int 0,str s,nilS],[int 3,int 0,str ByteArray.empty,AV.sl 4 false (encL (List.map iV ls))]],AObj.box [AV.lit (Value.int IntKind.u32 y)]]=H'))):YieldC P G 0 [int (↑k:Int),u32 y] (hB t x g rs s ls++[AObj.box [u32 y]]) b H':=by
 obtain ⟨o1,h⟩:=h
 obtain ⟨e1,e2⟩:=h
 exact YieldC.to ((show YieldC P G 0 [int (↑k:Int),u32 y] (hB t x g rs s ls++[AObj.box [u32 y]]) true [jrR,AObj.box [AV.sl 9 false (Sq.encs (TE.cells t)),AV.sl 11 false (encs (TE.marks t))],AObj.box [int 3,int 0,str ByteArray.empty,AV.own 4 g 0 (List.length rs+1)],AObj.box [AV.lit (Value.int IntKind.u32 x)],AObj.arr g 4 false (encL rs++[[int 3,int 0,str ByteArray.empty,AV.own 5 0 0 2]]),AObj.arr 0 4 false [[int 2,int 0,str s,nilS],[int 3,int 0,str ByteArray.empty,AV.sl 4 false (encL (List.map iV ls))]],AObj.box [AV.lit (Value.int IntKind.u32 y)]] from yieldC_of (fun _=>[ko (Orc.elem (Sq.enc c)),kp (show (0:Int)≤(↑k:Int)∧(Sq.encs (TE.cells t))[Int.toNat (↑k:Int)]? = some (Sq.enc c) from (el_nat hx)),kt hg,kp (show ∀ (x_1:List AV),x_1∈encL rs++[[int 3,int 0,str ByteArray.empty,AV.own 5 0 0 2]]→AV.idsLtL (List.length (hB t x g rs s ls++[AObj.box [u32 y]])) x_1=true from (by exact (Am.allm_append (Am.ids_lt (Go.Cdc.encL_ids _) _) (Am.allm_cons rfl Am.allm_nil)))),kp o1]) (fun _=>by kernel_rfl))) e1 e2
theorem yc_B (t:TE) (x y:Int) (g:Nat) (rs:List CV) (s:ByteArray) (ls:List Int) (k:Nat) (c:CE) (hr:rs.length≤1000000) (hx:t.cells[k]? = some c) (hg:c.gn=false) (he:y=x) (hs:s.size+c.vl.size≤9223372036854775807) (hL:(encL rs++[[int 3,int 0,str ByteArray.empty,.own 5 0 0 2]])[0+Int.toNat (((rs.length+1:Nat):Int) - 1)]? = some [int 3,int 0,str ByteArray.empty,.own 5 0 0 2]) (b:Bool) (H':List AObj) (h:((∀ (x_1:List AV),x_1∈List.set (pairC s ls) (0+Int.toNat 0) (splice [int 2,int 0,str s,nilS] (0+Field.offset #[Field.mk "Kind" 3 0 false "" "" 0,Field.mk "N" 3 1 false "" "" 8,Field.mk "S" 9 2 false "" "" 16,Field.mk "L" 32 3 false "" "" 32][2]) [str (s++CE.vl c)])→AV.idsLtL (List.length (hB t x g rs s ls++[AObj.box [u32 y]])) x_1=true)∧(true=b)∧([jrR,AObj.box [AV.sl 9 false (Sq.encs (TE.cells t)),AV.sl 11 false (encs (TE.marks t))],AObj.box [int 3,int 0,str ByteArray.empty,AV.own 4 g 0 (List.length rs+1)],AObj.box [AV.lit (Value.int IntKind.u32 x)],AObj.arr g 4 false (encL rs++[[int 3,int 0,str ByteArray.empty,AV.own 5 0 0 2]]),AObj.arr 0 4 false [[int 2,int 0,str (s++CE.vl c),nilS],[int 3,int 0,str ByteArray.empty,AV.sl 4 false (encL (List.map iV ls))]],AObj.box [AV.lit (Value.int IntKind.u32 y)]]=H'))):YieldC P G 0 [int (↑k:Int),u32 y] (hB t x g rs s ls++[AObj.box [u32 y]]) b H':=by
 have hz1:g=g:=(rfl)
 have hz6:0=0:=(rfl)
 have hz7:(0:Int)≤(0:Int)∧(0:Int)<(2:Int):=(by omega)
 have hz8:(pairC s ls)[0+Int.toNat 0]? = some [int 2,int 0,str s,nilS]:=(rfl)
 obtain ⟨o3,h⟩:=h
 obtain ⟨e1,e2⟩:=h
 exact YieldC.to ((show YieldC P G 0 [int (↑k:Int),u32 y] (hB t x g rs s ls++[AObj.box [u32 y]]) true [jrR,AObj.box [AV.sl 9 false (Sq.encs (TE.cells t)),AV.sl 11 false (encs (TE.marks t))],AObj.box [int 3,int 0,str ByteArray.empty,AV.own 4 g 0 (List.length rs+1)],AObj.box [AV.lit (Value.int IntKind.u32 x)],AObj.arr g 4 false (encL rs++[[int 3,int 0,str ByteArray.empty,AV.own 5 0 0 2]]),AObj.arr 0 4 false [[int 2,int 0,str (s++CE.vl c),nilS],[int 3,int 0,str ByteArray.empty,AV.sl 4 false (encL (List.map iV ls))]],AObj.box [AV.lit (Value.int IntKind.u32 y)]] from yieldC_of (fun _=>[ko (Orc.elem (Sq.enc c)),kp (show (0:Int)≤(↑k:Int)∧(Sq.encs (TE.cells t))[Int.toNat (↑k:Int)]? = some (Sq.enc c) from (el_nat hx)),kf hg,kp hz1,kt (show decide ((↑(List.length rs+1):Int) > (0:Int))=true from (decide_eq_true (by omega))),kt (show (y == x)=true from (decide_eq_true (by omega))),kv 44 (show Am.Sub (int (IntKind.wrap IntKind.i64 ((↑(List.length rs+1):Int) - 1))) (int ((↑(List.length rs+1):Int) - 1)) from (Sub.of_wrap (by omega) (by omega) rfl)),ko (Orc.elem [int 3,int 0,str ByteArray.empty,AV.own 5 0 0 2]),ko (Orc.elem [int 2,int 0,str s,nilS]),ko (Orc.elem [int 2,int 0,str s,nilS]),kp hz1,kp (show (0:Int)≤(↑(List.length rs+1):Int) - 1∧(↑(List.length rs+1):Int) - 1<(↑(List.length rs+1):Int) from (by omega)),kp hz1,kp hz1,kp hL,kp hz6,kp hz7,kp hz6,kp hz6,kp hz8,kp (show (↑(ByteArray.size s+ByteArray.size (CE.vl c)):Int)≤(9223372036854775807:Int) from (by omega)),kp hz6,kp hz7,kp hz6,kp hz6,kp hz8,kp (show ∀ (x_1:List AV),x_1∈encL rs++[[int 3,int 0,str ByteArray.empty,AV.own 5 0 0 2]]→AV.idsLtL (List.length (hB t x g rs s ls++[AObj.box [u32 y]])) x_1=true from (by exact (Am.allm_append (Am.ids_lt (Go.Cdc.encL_ids _) _) (Am.allm_cons rfl Am.allm_nil)))),kp o3]) (fun _=>by kernel_rfl))) e1 e2
noncomputable def inS (t:TE) (y:Int) (Hy:List AObj) (c:CE) (l:List Int) (L:AV) (k:Nat) (K:List AObj) (cid sid:Nat):St:={ env:=slots 87 [(2,.ptr 2 0),(5,.ptr 3 0),(7,u32 y),(8,.ptr cid 0),(10,.ptr sid 0),(58,ils l),(59,int l.length),(60,int k)],H:=Hy++[.box (Sq.enc c),.box [int 3,int 0,str ByteArray.empty,L]]++K }
noncomputable def jrU:AObj:=.rng .busy none (slots 87 [(1,.ptr 1 0),(2,.ptr 2 0),(5,.ptr 3 0)]) #[22,23] (asgAt P 15 0) (rbodyAt P 15 0)
noncomputable def uA (t:TE) (x y:Int):List AObj:=[jrU,sbT t,.box [int 3,int 0,str ByteArray.empty,nilS],.box [u32 x],.box [u32 y]]
noncomputable def uC (t:TE) (x:Int) (g:Nat) (rs:List CV) (y:Int):List AObj:=[jrU,sbT t,.box [int 3,int 0,str ByteArray.empty,.own 4 g 0 rs.length],.box [u32 x],.arr g 4 false (encL rs),.box [u32 y]]
theorem inA_0 (t:TE) (x y:Int) (c:CE) (l:List Int) (v:Int) (r:Option Nat) (hx:l[0]? = some v) (hl:l.length≤16) (ex:AEx) (s':St) (h:((((0:Int)<(↑(List.length l):Int))→RunL P G r 5 (loopAt P 15 0) (St.mk (slots 87 [(2,AV.ptr 2 0),(5,AV.ptr 3 0),(7,AV.lit (Value.int IntKind.u32 y)),(8,AV.ptr 5 0),(10,AV.ptr 6 0),(58,AV.sl 1 false (Vec.ints l)),(59,int (↑(List.length l):Int)),(60,int 1)]) [jrU,AObj.box [AV.sl 9 false (Sq.encs (TE.cells t)),AV.sl 11 false (encs (TE.marks t))],AObj.box [int 3,int 0,str ByteArray.empty,nilS],AObj.box [AV.lit (Value.int IntKind.u32 x)],AObj.box [AV.lit (Value.int IntKind.u32 y)],AObj.box [int (CE.dv c),int (CE.sq c),int (CE.at' c),int (CE.ad c),int (CE.as' c),int (CE.aa c),int (CE.tm c),str (CE.vl c),Am.bool (CE.gn c)],AObj.box [int 3,int 0,str ByteArray.empty,AV.own 7 0 0 1],AObj.arr 0 4 false [[int 1,int v,str (ByteArray.mk #[]),nilS]]] []) ex s')∧((¬(0:Int)<(↑(List.length l):Int))→(AEx.exit 2=ex)∧(St.mk (slots 87 [(2,AV.ptr 2 0),(5,AV.ptr 3 0),(7,AV.lit (Value.int IntKind.u32 y)),(8,AV.ptr 5 0),(10,AV.ptr 6 0)]) [jrU,AObj.box [AV.sl 9 false (Sq.encs (TE.cells t)),AV.sl 11 false (encs (TE.marks t))],AObj.box [int 3,int 0,str ByteArray.empty,nilS],AObj.box [AV.lit (Value.int IntKind.u32 x)],AObj.box [AV.lit (Value.int IntKind.u32 y)],AObj.box [int (CE.dv c),int (CE.sq c),int (CE.at' c),int (CE.ad c),int (CE.as' c),int (CE.aa c),int (CE.tm c),str (CE.vl c),Am.bool (CE.gn c)],AObj.box [int 3,int 0,str ByteArray.empty,nilS]] []=s')))):RunL P G r 5 (loopAt P 15 0) (inS t y (uA t x y) c l nilS 0 [] 5 6) ex s':=by
 by_cases c1:((0:Int)<(↑(List.length l):Int))
 · have h:=h.1 c1
   exact loop_next [kt (decide_eq_true c1),ko (Orc.elem (Vec.enc1 v)),kp (show (0:Int)≤(0:Int)∧(Vec.ints l)[Int.toNat (↑0:Int)]? = some (Vec.enc1 v) from (el_nat hx)),kp (show [[int 1,int v,str (ByteArray.mk #[]),nilS]]≠[] from (by simp)),kp (show 56≤140737488355328 from (by omega))] (others 87 [2,5,7,8,10,58,59,60]) 8 h (by kernel_rfl)
 · have h:=h.2 c1
   obtain ⟨eX,eS⟩:=h
   exact RunL.to ((show RunL P G r 5 (loopAt P 15 0) (inS t y (uA t x y) c l nilS 0 [] 5 6) (AEx.exit 2) (St.mk (slots 87 [(2,AV.ptr 2 0),(5,AV.ptr 3 0),(7,AV.lit (Value.int IntKind.u32 y)),(8,AV.ptr 5 0),(10,AV.ptr 6 0)]) [jrU,AObj.box [AV.sl 9 false (Sq.encs (TE.cells t)),AV.sl 11 false (encs (TE.marks t))],AObj.box [int 3,int 0,str ByteArray.empty,nilS],AObj.box [AV.lit (Value.int IntKind.u32 x)],AObj.box [AV.lit (Value.int IntKind.u32 y)],AObj.box [int (CE.dv c),int (CE.sq c),int (CE.at' c),int (CE.ad c),int (CE.as' c),int (CE.aa c),int (CE.tm c),str (CE.vl c),Am.bool (CE.gn c)],AObj.box [int 3,int 0,str ByteArray.empty,nilS]] []) from loop_exit [kf (decide_eq_false c1)] (others 87 [2,5,7,8,10]) 7 (by kernel_rfl))) eX (SubS.of_eq eS)
theorem inA_n (t:TE) (x y:Int) (c:CE) (l:List Int) (v:Int) (r:Option Nat) (k g:Nat) (z:List CV) (hz:z.length≤16) (hx:l[k]? = some v) (hl:l.length≤16) (ex:AEx) (s':St) (h:((((↑k:Int)<(↑(List.length l):Int))→RunL P G r 5 (loopAt P 15 0) (St.mk (slots 87 [(2,AV.ptr 2 0),(5,AV.ptr 3 0),(7,AV.lit (Value.int IntKind.u32 y)),(8,AV.ptr 5 0),(10,AV.ptr 6 0),(58,AV.sl 1 false (Vec.ints l)),(59,int (↑(List.length l):Int)),(60,int (↑(k+1):Int))]) [jrU,AObj.box [AV.sl 9 false (Sq.encs (TE.cells t)),AV.sl 11 false (encs (TE.marks t))],AObj.box [int 3,int 0,str ByteArray.empty,nilS],AObj.box [AV.lit (Value.int IntKind.u32 x)],AObj.box [AV.lit (Value.int IntKind.u32 y)],AObj.box [int (CE.dv c),int (CE.sq c),int (CE.at' c),int (CE.ad c),int (CE.as' c),int (CE.aa c),int (CE.tm c),str (CE.vl c),Am.bool (CE.gn c)],AObj.box [int 3,int 0,str ByteArray.empty,AV.own 7 (g+1) 0 (List.length z+1)],AObj.arr (g+1) 4 false (encL z++[[int 1,int v,str (ByteArray.mk #[]),nilS]])] []) ex s')∧((¬(↑k:Int)<(↑(List.length l):Int))→(AEx.exit 2=ex)∧(St.mk (slots 87 [(2,AV.ptr 2 0),(5,AV.ptr 3 0),(7,AV.lit (Value.int IntKind.u32 y)),(8,AV.ptr 5 0),(10,AV.ptr 6 0)]) [jrU,AObj.box [AV.sl 9 false (Sq.encs (TE.cells t)),AV.sl 11 false (encs (TE.marks t))],AObj.box [int 3,int 0,str ByteArray.empty,nilS],AObj.box [AV.lit (Value.int IntKind.u32 x)],AObj.box [AV.lit (Value.int IntKind.u32 y)],AObj.box [int (CE.dv c),int (CE.sq c),int (CE.at' c),int (CE.ad c),int (CE.as' c),int (CE.aa c),int (CE.tm c),str (CE.vl c),Am.bool (CE.gn c)],AObj.box [int 3,int 0,str ByteArray.empty,AV.own 7 g 0 (List.length z)],AObj.arr g 4 false (encL z)] []=s')))):RunL P G r 5 (loopAt P 15 0) (inS t y (uA t x y) c l (AV.own 7 g 0 (List.length z)) k [AObj.arr g 4 false (encL z)] 5 6) ex s':=by
 by_cases c1:((↑k:Int)<(↑(List.length l):Int))
 · have h:=h.1 c1
   exact loop_next [kt (decide_eq_true c1),ko (Orc.elem (Vec.enc1 v)),kp (show (0:Int)≤(↑k:Int)∧(Vec.ints l)[Int.toNat (↑k:Int)]? = some (Vec.enc1 v) from (el_nat hx)),kp (show g=g from (rfl)),kp (show List.length z=List.length (encL z) from ((Go.Cdc.encL_length _).symm)),kp (show (List.length z+1) * 56≤140737488355328 from (by omega)),kv 71 (show Am.Sub (int (IntKind.wrap IntKind.i64 ((↑k:Int)+1))) (int (↑(k+1):Int)) from (Sub.of_wrap (by omega) (by omega) (by omega)))] (others 87 [2,5,7,8,10,58,59,60]) 8 h (by kernel_rfl)
 · have h:=h.2 c1
   obtain ⟨eX,eS⟩:=h
   exact RunL.to ((show RunL P G r 5 (loopAt P 15 0) (inS t y (uA t x y) c l (AV.own 7 g 0 (List.length z)) k [AObj.arr g 4 false (encL z)] 5 6) (AEx.exit 2) (St.mk (slots 87 [(2,AV.ptr 2 0),(5,AV.ptr 3 0),(7,AV.lit (Value.int IntKind.u32 y)),(8,AV.ptr 5 0),(10,AV.ptr 6 0)]) [jrU,AObj.box [AV.sl 9 false (Sq.encs (TE.cells t)),AV.sl 11 false (encs (TE.marks t))],AObj.box [int 3,int 0,str ByteArray.empty,nilS],AObj.box [AV.lit (Value.int IntKind.u32 x)],AObj.box [AV.lit (Value.int IntKind.u32 y)],AObj.box [int (CE.dv c),int (CE.sq c),int (CE.at' c),int (CE.ad c),int (CE.as' c),int (CE.aa c),int (CE.tm c),str (CE.vl c),Am.bool (CE.gn c)],AObj.box [int 3,int 0,str ByteArray.empty,AV.own 7 g 0 (List.length z)],AObj.arr g 4 false (encL z)] []) from loop_exit [kf (decide_eq_false c1)] (others 87 [2,5,7,8,10]) 8 (by kernel_rfl))) eX (SubS.of_eq eS)
noncomputable def inX (y:Int) (Hy:List AObj) (c:CE) (l:List Int) (cid sid:Nat):St:={ env:=slots 87 [(2,.ptr 2 0),(5,.ptr 3 0),(7,u32 y),(8,.ptr cid 0),(10,.ptr sid 0)],H:=Hy++[.box (Sq.enc c),.box [int 3,int 0,str ByteArray.empty,.sl 4 false (encL (l.map iV))]] }
theorem yb_A (t:TE) (x y:Int) (l:List Int) (k:Nat) (c:CE) (hx:t.cells[k]? = some c) (hg:c.gn=false) (hl:l.length≤16) (hls:CallC P G 37 [u32 y] [] (.ret (ils l)) []) (hI:∀ r,RunL P G r 5 (loopAt P 15 0) (inS t y (uA t x y) c l nilS 0 [] 5 6) (.exit 2) (inX y (uA t x y) c l 5 6)) (b:Bool) (H':List AObj) (h:(true=b)∧([jrR,AObj.box [AV.sl 9 false (Sq.encs (TE.cells t)),AV.sl 11 false (encs (TE.marks t))],AObj.box [int 3,int 0,str ByteArray.empty,AV.own 8 0 0 1],AObj.box [AV.lit (Value.int IntKind.u32 y)],AObj.box [AV.lit (Value.int IntKind.u32 y)],AObj.box [int (CE.dv c),int (CE.sq c),int (CE.at' c),int (CE.ad c),int (CE.as' c),int (CE.aa c),int (CE.tm c),str (CE.vl c),Am.bool (CE.gn c)],AObj.box [int 3,int 0,str ByteArray.empty,AV.sl 4 false (encL (List.map iV l))],AObj.arr 0 4 false [[int 2,int 0,str (CE.vl c),nilS],[int 3,int 0,str ByteArray.empty,AV.sl 4 false (encL (List.map iV l))]],AObj.arr 0 4 false [[int 3,int 0,str (ByteArray.mk #[]),AV.own 7 0 0 2]]]=H')):YieldC P G 0 [int (↑k:Int),u32 y] (hA t x++[AObj.box [u32 y]]) b H':=by
 have hz5:0=0:=(rfl)
 obtain ⟨e1,e2⟩:=h
 exact YieldC.to ((show YieldC P G 0 [int (↑k:Int),u32 y] (hA t x++[AObj.box [u32 y]]) true [jrR,AObj.box [AV.sl 9 false (Sq.encs (TE.cells t)),AV.sl 11 false (encs (TE.marks t))],AObj.box [int 3,int 0,str ByteArray.empty,AV.own 8 0 0 1],AObj.box [AV.lit (Value.int IntKind.u32 y)],AObj.box [AV.lit (Value.int IntKind.u32 y)],AObj.box [int (CE.dv c),int (CE.sq c),int (CE.at' c),int (CE.ad c),int (CE.as' c),int (CE.aa c),int (CE.tm c),str (CE.vl c),Am.bool (CE.gn c)],AObj.box [int 3,int 0,str ByteArray.empty,AV.sl 4 false (encL (List.map iV l))],AObj.arr 0 4 false [[int 2,int 0,str (CE.vl c),nilS],[int 3,int 0,str ByteArray.empty,AV.sl 4 false (encL (List.map iV l))]],AObj.arr 0 4 false [[int 3,int 0,str (ByteArray.mk #[]),AV.own 7 0 0 2]]] from yieldC_of (fun r=>[ko (Orc.elem (Sq.enc c)),kp (show (0:Int)≤(↑k:Int)∧(Sq.encs (TE.cells t))[Int.toNat (↑k:Int)]? = some (Sq.enc c) from (el_nat hx)),kf hg,kf (Eq.refl false),kf (Eq.refl false),kc [] (@hls ),kv 59 (show Am.Sub (int (↑(List.length (Vec.ints l)):Int)) (int (↑(List.length l):Int)) from (Sub.of_eq (by simp only [Go.Vec.ints_length]))),kl [1,6,9,22,23,24,25,26,27,28,29,30,31,32,33,34,35,36,37,38,39,40,56,57] 7 (@hI (r)),ko (Orc.own),ko (Orc.elem [int 0,int 0,str (ByteArray.mk #[]),nilS]),ko (Orc.emp),kp (show [[int 0,int 0,str (ByteArray.mk #[]),nilS]]≠[] from (by simp)),kp (show 56≤140737488355328 from (by omega)),kp hz5,kp (show (0:Int)≤(0:Int)∧(0:Int)<(1:Int) from (by omega)),kp hz5,kp (show (chunks (TypeInfo.size (Tables.types (Program.toTables P))[34]) 1 (splice (zerosA (List.map AV.lit (Array.toList (Value.cells (Value.agg #[Value.int IntKind.i64 0,Value.int IntKind.i64 0,Value.string (ByteArray.mk #[]),Value.slice none 0 0])))) (1 * TypeInfo.size (Tables.types (Program.toTables P))[34])) (0 * TypeInfo.size (Tables.types (Program.toTables P))[34]) (List.map AV.lit (Array.toList #[Value.int IntKind.i64 0,Value.int IntKind.i64 0,Value.string (ByteArray.mk #[]),Value.slice none 0 0]))))[0+Int.toNat (↑0:Int)]? = some [int 0,int 0,str (ByteArray.mk #[]),nilS] from (rfl))]) (fun _=>by kernel_rfl))) e1 e2
theorem yd_C (t:TE) (x y:Int) (g:Nat) (rs:List CV) (l:List Int) (k:Nat) (c:CE) (hr:rs.length≤1000000) (hr0:0<rs.length) (hx:t.cells[k]? = some c) (hg:c.gn=false) (hne:¬ y=x) (hl:l.length≤16) (hL:(encL rs++[[int 0,int 0,str (ByteArray.mk #[]),nilS]])[0+Int.toNat ((rs.length:Nat):Int)]? = some [int 0,int 0,str (ByteArray.mk #[]),nilS]) (hls:CallC P G 37 [u32 y] [] (.ret (ils l)) []) (hI:∀ r,RunL P G r 6 (loopAt P 15 0) (inS t y (uC t x g rs y) c l nilS 0 [] 6 7) (.exit 2) (inX y (uC t x g rs y) c l 6 7)) (b:Bool) (H':List AObj) (h:(true=b)∧([jrR,AObj.box [AV.sl 9 false (Sq.encs (TE.cells t)),AV.sl 11 false (encs (TE.marks t))],AObj.box [int 3,int 0,str ByteArray.empty,AV.own 4 (g+1) 0 (List.length rs+1)],AObj.box [AV.lit (Value.int IntKind.u32 y)],AObj.arr (g+1) 4 false (List.set (encL rs++[[int 0,int 0,str (ByteArray.mk #[]),nilS]]) (0+Int.toNat (↑(List.length rs):Int)) [int 3,int 0,str (ByteArray.mk #[]),AV.own 8 0 0 2]),AObj.box [AV.lit (Value.int IntKind.u32 y)],AObj.box [int (CE.dv c),int (CE.sq c),int (CE.at' c),int (CE.ad c),int (CE.as' c),int (CE.aa c),int (CE.tm c),str (CE.vl c),Am.bool (CE.gn c)],AObj.box [int 3,int 0,str ByteArray.empty,AV.sl 4 false (encL (List.map iV l))],AObj.arr 0 4 false [[int 2,int 0,str (CE.vl c),nilS],[int 3,int 0,str ByteArray.empty,AV.sl 4 false (encL (List.map iV l))]]]=H')):YieldC P G 0 [int (↑k:Int),u32 y] (hC t x g rs++[AObj.box [u32 y]]) b H':=by
 have hz1:g=g:=(rfl)
 have hz8:g+1=g+1:=(rfl)
 obtain ⟨e1,e2⟩:=h
 exact YieldC.to ((show YieldC P G 0 [int (↑k:Int),u32 y] (hC t x g rs++[AObj.box [u32 y]]) true [jrR,AObj.box [AV.sl 9 false (Sq.encs (TE.cells t)),AV.sl 11 false (encs (TE.marks t))],AObj.box [int 3,int 0,str ByteArray.empty,AV.own 4 (g+1) 0 (List.length rs+1)],AObj.box [AV.lit (Value.int IntKind.u32 y)],AObj.arr (g+1) 4 false (List.set (encL rs++[[int 0,int 0,str (ByteArray.mk #[]),nilS]]) (0+Int.toNat (↑(List.length rs):Int)) [int 3,int 0,str (ByteArray.mk #[]),AV.own 8 0 0 2]),AObj.box [AV.lit (Value.int IntKind.u32 y)],AObj.box [int (CE.dv c),int (CE.sq c),int (CE.at' c),int (CE.ad c),int (CE.as' c),int (CE.aa c),int (CE.tm c),str (CE.vl c),Am.bool (CE.gn c)],AObj.box [int 3,int 0,str ByteArray.empty,AV.sl 4 false (encL (List.map iV l))],AObj.arr 0 4 false [[int 2,int 0,str (CE.vl c),nilS],[int 3,int 0,str ByteArray.empty,AV.sl 4 false (encL (List.map iV l))]]] from yieldC_of (fun r=>[ko (Orc.elem (Sq.enc c)),kp (show (0:Int)≤(↑k:Int)∧(Sq.encs (TE.cells t))[Int.toNat (↑k:Int)]? = some (Sq.enc c) from (el_nat hx)),kf hg,kp hz1,kt (show decide ((↑(List.length rs):Int) > (0:Int))=true from (decide_eq_true (by omega))),kf (show (y == x)=false from (decide_eq_false (by omega))),kc [] (@hls ),kv 59 (show Am.Sub (int (↑(List.length (Vec.ints l)):Int)) (int (↑(List.length l):Int)) from (Sub.of_eq (by simp only [Go.Vec.ints_length]))),kl [1,6,9,22,23,24,25,26,27,28,29,30,31,32,33,34,35,36,37,38,39,40,56,57] 8 (@hI (r)),ko (Orc.own),ko (Orc.elem [int 0,int 0,str (ByteArray.mk #[]),nilS]),ko (Orc.emp),kp hz1,kp hz1,kp (show List.length rs=List.length (encL rs) from ((Go.Cdc.encL_length _).symm)),kp (show (List.length rs+1) * 56≤140737488355328 from (by omega)),kp hz8,kp (show (0:Int)≤(↑(List.length rs):Int)∧(↑(List.length rs):Int)<(↑(List.length rs+1):Int) from (by omega)),kp hz8,kp hL]) (fun _=>by kernel_rfl))) e1 e2
theorem inC_0 (t:TE) (x y:Int) (g0:Nat) (rs:List CV) (c:CE) (l:List Int) (v:Int) (r:Option Nat) (hx:l[0]? = some v) (hl:l.length≤16) (ex:AEx) (s':St) (h:((((0:Int)<(↑(List.length l):Int))→RunL P G r 6 (loopAt P 15 0) (St.mk (slots 87 [(2,AV.ptr 2 0),(5,AV.ptr 3 0),(7,AV.lit (Value.int IntKind.u32 y)),(8,AV.ptr 6 0),(10,AV.ptr 7 0),(58,AV.sl 1 false (Vec.ints l)),(59,int (↑(List.length l):Int)),(60,int 1)]) [jrU,AObj.box [AV.sl 9 false (Sq.encs (TE.cells t)),AV.sl 11 false (encs (TE.marks t))],AObj.box [int 3,int 0,str ByteArray.empty,AV.own 4 g0 0 (List.length rs)],AObj.box [AV.lit (Value.int IntKind.u32 x)],AObj.arr g0 4 false (encL rs),AObj.box [AV.lit (Value.int IntKind.u32 y)],AObj.box [int (CE.dv c),int (CE.sq c),int (CE.at' c),int (CE.ad c),int (CE.as' c),int (CE.aa c),int (CE.tm c),str (CE.vl c),Am.bool (CE.gn c)],AObj.box [int 3,int 0,str ByteArray.empty,AV.own 8 0 0 1],AObj.arr 0 4 false [[int 1,int v,str (ByteArray.mk #[]),nilS]]] []) ex s')∧((¬(0:Int)<(↑(List.length l):Int))→(AEx.exit 2=ex)∧(St.mk (slots 87 [(2,AV.ptr 2 0),(5,AV.ptr 3 0),(7,AV.lit (Value.int IntKind.u32 y)),(8,AV.ptr 6 0),(10,AV.ptr 7 0)]) [jrU,AObj.box [AV.sl 9 false (Sq.encs (TE.cells t)),AV.sl 11 false (encs (TE.marks t))],AObj.box [int 3,int 0,str ByteArray.empty,AV.own 4 g0 0 (List.length rs)],AObj.box [AV.lit (Value.int IntKind.u32 x)],AObj.arr g0 4 false (encL rs),AObj.box [AV.lit (Value.int IntKind.u32 y)],AObj.box [int (CE.dv c),int (CE.sq c),int (CE.at' c),int (CE.ad c),int (CE.as' c),int (CE.aa c),int (CE.tm c),str (CE.vl c),Am.bool (CE.gn c)],AObj.box [int 3,int 0,str ByteArray.empty,nilS]] []=s')))):RunL P G r 6 (loopAt P 15 0) (inS t y (uC t x g0 rs y) c l nilS 0 [] 6 7) ex s':=by
 by_cases c1:((0:Int)<(↑(List.length l):Int))
 · have h:=h.1 c1
   exact loop_next [kt (decide_eq_true c1),ko (Orc.elem (Vec.enc1 v)),kp (show (0:Int)≤(0:Int)∧(Vec.ints l)[Int.toNat (↑0:Int)]? = some (Vec.enc1 v) from (el_nat hx)),kp (show [[int 1,int v,str (ByteArray.mk #[]),nilS]]≠[] from (by simp)),kp (show 56≤140737488355328 from (by omega))] (others 87 [2,5,7,8,10,58,59,60]) 9 h (by kernel_rfl)
 · have h:=h.2 c1
   obtain ⟨eX,eS⟩:=h
   exact RunL.to ((show RunL P G r 6 (loopAt P 15 0) (inS t y (uC t x g0 rs y) c l nilS 0 [] 6 7) (AEx.exit 2) (St.mk (slots 87 [(2,AV.ptr 2 0),(5,AV.ptr 3 0),(7,AV.lit (Value.int IntKind.u32 y)),(8,AV.ptr 6 0),(10,AV.ptr 7 0)]) [jrU,AObj.box [AV.sl 9 false (Sq.encs (TE.cells t)),AV.sl 11 false (encs (TE.marks t))],AObj.box [int 3,int 0,str ByteArray.empty,AV.own 4 g0 0 (List.length rs)],AObj.box [AV.lit (Value.int IntKind.u32 x)],AObj.arr g0 4 false (encL rs),AObj.box [AV.lit (Value.int IntKind.u32 y)],AObj.box [int (CE.dv c),int (CE.sq c),int (CE.at' c),int (CE.ad c),int (CE.as' c),int (CE.aa c),int (CE.tm c),str (CE.vl c),Am.bool (CE.gn c)],AObj.box [int 3,int 0,str ByteArray.empty,nilS]] []) from loop_exit [kf (decide_eq_false c1)] (others 87 [2,5,7,8,10]) 8 (by kernel_rfl))) eX (SubS.of_eq eS)
theorem inC_n (t:TE) (x y:Int) (g0:Nat) (rs:List CV) (c:CE) (l:List Int) (v:Int) (r:Option Nat) (k g:Nat) (z:List CV) (hz:z.length≤16) (hx:l[k]? = some v) (hl:l.length≤16) (ex:AEx) (s':St) (h:((((↑k:Int)<(↑(List.length l):Int))→RunL P G r 6 (loopAt P 15 0) (St.mk (slots 87 [(2,AV.ptr 2 0),(5,AV.ptr 3 0),(7,AV.lit (Value.int IntKind.u32 y)),(8,AV.ptr 6 0),(10,AV.ptr 7 0),(58,AV.sl 1 false (Vec.ints l)),(59,int (↑(List.length l):Int)),(60,int (↑(k+1):Int))]) [jrU,AObj.box [AV.sl 9 false (Sq.encs (TE.cells t)),AV.sl 11 false (encs (TE.marks t))],AObj.box [int 3,int 0,str ByteArray.empty,AV.own 4 g0 0 (List.length rs)],AObj.box [AV.lit (Value.int IntKind.u32 x)],AObj.arr g0 4 false (encL rs),AObj.box [AV.lit (Value.int IntKind.u32 y)],AObj.box [int (CE.dv c),int (CE.sq c),int (CE.at' c),int (CE.ad c),int (CE.as' c),int (CE.aa c),int (CE.tm c),str (CE.vl c),Am.bool (CE.gn c)],AObj.box [int 3,int 0,str ByteArray.empty,AV.own 8 (g+1) 0 (List.length z+1)],AObj.arr (g+1) 4 false (encL z++[[int 1,int v,str (ByteArray.mk #[]),nilS]])] []) ex s')∧((¬(↑k:Int)<(↑(List.length l):Int))→(AEx.exit 2=ex)∧(St.mk (slots 87 [(2,AV.ptr 2 0),(5,AV.ptr 3 0),(7,AV.lit (Value.int IntKind.u32 y)),(8,AV.ptr 6 0),(10,AV.ptr 7 0)]) [jrU,AObj.box [AV.sl 9 false (Sq.encs (TE.cells t)),AV.sl 11 false (encs (TE.marks t))],AObj.box [int 3,int 0,str ByteArray.empty,AV.own 4 g0 0 (List.length rs)],AObj.box [AV.lit (Value.int IntKind.u32 x)],AObj.arr g0 4 false (encL rs),AObj.box [AV.lit (Value.int IntKind.u32 y)],AObj.box [int (CE.dv c),int (CE.sq c),int (CE.at' c),int (CE.ad c),int (CE.as' c),int (CE.aa c),int (CE.tm c),str (CE.vl c),Am.bool (CE.gn c)],AObj.box [int 3,int 0,str ByteArray.empty,AV.own 8 g 0 (List.length z)],AObj.arr g 4 false (encL z)] []=s')))):RunL P G r 6 (loopAt P 15 0) (inS t y (uC t x g0 rs y) c l (AV.own 8 g 0 (List.length z)) k [AObj.arr g 4 false (encL z)] 6 7) ex s':=by
 by_cases c1:((↑k:Int)<(↑(List.length l):Int))
 · have h:=h.1 c1
   exact loop_next [kt (decide_eq_true c1),ko (Orc.elem (Vec.enc1 v)),kp (show (0:Int)≤(↑k:Int)∧(Vec.ints l)[Int.toNat (↑k:Int)]? = some (Vec.enc1 v) from (el_nat hx)),kp (show g=g from (rfl)),kp (show List.length z=List.length (encL z) from ((Go.Cdc.encL_length _).symm)),kp (show (List.length z+1) * 56≤140737488355328 from (by omega)),kv 71 (show Am.Sub (int (IntKind.wrap IntKind.i64 ((↑k:Int)+1))) (int (↑(k+1):Int)) from (Sub.of_wrap (by omega) (by omega) (by omega)))] (others 87 [2,5,7,8,10,58,59,60]) 9 h (by kernel_rfl)
 · have h:=h.2 c1
   obtain ⟨eX,eS⟩:=h
   exact RunL.to ((show RunL P G r 6 (loopAt P 15 0) (inS t y (uC t x g0 rs y) c l (AV.own 8 g 0 (List.length z)) k [AObj.arr g 4 false (encL z)] 6 7) (AEx.exit 2) (St.mk (slots 87 [(2,AV.ptr 2 0),(5,AV.ptr 3 0),(7,AV.lit (Value.int IntKind.u32 y)),(8,AV.ptr 6 0),(10,AV.ptr 7 0)]) [jrU,AObj.box [AV.sl 9 false (Sq.encs (TE.cells t)),AV.sl 11 false (encs (TE.marks t))],AObj.box [int 3,int 0,str ByteArray.empty,AV.own 4 g0 0 (List.length rs)],AObj.box [AV.lit (Value.int IntKind.u32 x)],AObj.arr g0 4 false (encL rs),AObj.box [AV.lit (Value.int IntKind.u32 y)],AObj.box [int (CE.dv c),int (CE.sq c),int (CE.at' c),int (CE.ad c),int (CE.as' c),int (CE.aa c),int (CE.tm c),str (CE.vl c),Am.bool (CE.gn c)],AObj.box [int 3,int 0,str ByteArray.empty,AV.own 8 g 0 (List.length z)],AObj.arr g 4 false (encL z)] []) from loop_exit [kf (decide_eq_false c1)] (others 87 [2,5,7,8,10]) 9 (by kernel_rfl))) eX (SubS.of_eq eS)
noncomputable def inN (y:Int) (Hy:List AObj) (c:CE) (cid sid:Nat):St:={ env:=slots 87 [(2,.ptr 2 0),(5,.ptr 3 0),(7,u32 y),(8,.ptr cid 0),(10,.ptr sid 0)],H:=Hy++[.box (Sq.enc c),.box [int 3,int 0,str ByteArray.empty,nilS]] }
theorem inA_z (t:TE) (x y:Int) (c:CE) (l:List Int) (r:Option Nat) (hx:l.length=0) (h:True):RunL P G r 5 (loopAt P 15 0) (inS t y (uA t x y) c l nilS 0 [] 5 6) (AEx.exit 2) (inN y (uA t x y) c 5 6):=by
 have _:=h
 exact loop_exit [kf (show decide ((↑0:Int)<(↑(List.length l):Int))=false from (decide_eq_false (by omega)))] (others 87 [2,5,7,8,10]) 7 (by kernel_rfl)
theorem inC_z (t:TE) (x y:Int) (g0:Nat) (rs:List CV) (c:CE) (l:List Int) (r:Option Nat) (hx:l.length=0) (h:True):RunL P G r 6 (loopAt P 15 0) (inS t y (uC t x g0 rs y) c l nilS 0 [] 6 7) (AEx.exit 2) (inN y (uC t x g0 rs y) c 6 7):=by
 have _:=h
 exact loop_exit [kf (show decide ((↑0:Int)<(↑(List.length l):Int))=false from (decide_eq_false (by omega)))] (others 87 [2,5,7,8,10]) 8 (by kernel_rfl)
noncomputable def inP (y:Int) (Hy:List AObj) (c:CE) (g:Nat) (z:List CV) (cid sid aid:Nat):St:={ env:=slots 87 [(2,.ptr 2 0),(5,.ptr 3 0),(7,u32 y),(8,.ptr cid 0),(10,.ptr sid 0)],H:=Hy++[.box (Sq.enc c),.box [int 3,int 0,str ByteArray.empty,.own aid g 0 z.length],.arr g 4 false (encL z)] }
theorem inA_e (t:TE) (x y:Int) (c:CE) (l:List Int) (r:Option Nat) (k g:Nat) (z:List CV) (hx:l.length≤k) (h:True):RunL P G r 5 (loopAt P 15 0) (inS t y (uA t x y) c l (AV.own 7 g 0 (List.length z)) k [AObj.arr g 4 false (encL z)] 5 6) (AEx.exit 2) (inP y (uA t x y) c g z 5 6 7):=by
 have _:=h
 exact loop_exit [kf (show decide ((↑k:Int)<(↑(List.length l):Int))=false from (decide_eq_false (by omega)))] (others 87 [2,5,7,8,10]) 8 (by kernel_rfl)
theorem inC_e (t:TE) (x y:Int) (g0:Nat) (rs:List CV) (c:CE) (l:List Int) (r:Option Nat) (k g:Nat) (z:List CV) (hx:l.length≤k) (h:True):RunL P G r 6 (loopAt P 15 0) (inS t y (uC t x g0 rs y) c l (AV.own 8 g 0 (List.length z)) k [AObj.arr g 4 false (encL z)] 6 7) (AEx.exit 2) (inP y (uC t x g0 rs y) c g z 6 7 8):=by
 have _:=h
 exact loop_exit [kf (show decide ((↑k:Int)<(↑(List.length l):Int))=false from (decide_eq_false (by omega)))] (others 87 [2,5,7,8,10]) 9 (by kernel_rfl)
end Go.Tx


namespace Go.Tx
open Go Go.Am Go.Proofs Go.Seat
open Go.Sq (CE cel ces ida idv pid fX fiO OkRs chkE)
open Go.Cdc (CV encL)
theorem inA_loop (t:TE) (x y:Int) (c:CE) (l:List Int) (hl:l.length≤16) (r:Option Nat):∀ d k g,l.length - k=d→k≤l.length→∃ g',RunL P G r 5 (loopAt P 15 0) (inS t y (uA t x y) c l (.own 7 g 0 ((l.take k).map iV).length) k [.arr g 4 false (encL ((l.take k).map iV))] 5 6) (.exit 2) (inP y (uA t x y) c g' (l.map iV) 5 6 7):=by
 intro d
 induction d with
 | zero =>
  intro k g hd hk
  rw [List.take_of_length_le (by omega)]
  exact ⟨g,inA_e t x y c l r k g (l.map iV) (by omega) trivial⟩
 | succ d ih =>
  intro k g hd hk
  have hlt:k<l.length:=by omega
  have hx:l[k]? = some l[k]:=List.getElem?_eq_getElem hlt
  obtain ⟨g',nx⟩:=ih (k+1) (g+1) (by omega) (by omega)
  have e:(l.take (k+1)).map iV=(l.take k).map iV++[iV l[k]]:=by rw [List.take_succ_eq_append_getElem hlt,List.map_append]; rfl
  refine ⟨g',inA_n t x y c l l[k] r k g ((l.take k).map iV) (by simp; omega) hx hl _ _ ⟨fun _=>?_,fun h=>absurd (by omega) h⟩⟩
  refine RunL.subArrPre (b:=7) (k:=((l.take k).map iV).length) (j:=3) rfl (get_last _ _ _ (Cdc.encL_length _).symm) rfl (Sub.emptyL 4 none 0) ?_
  rw [set_last _ _ _ _ (Cdc.encL_length _).symm]
  rw [e,List.length_append,← Cdc.encL_append] at nx
  exact nx
theorem inC_loop (t:TE) (x y:Int) (g0:Nat) (rs:List CV) (c:CE) (l:List Int) (hl:l.length≤16) (r:Option Nat):∀ d k g,l.length - k=d→k≤l.length→∃ g',RunL P G r 6 (loopAt P 15 0) (inS t y (uC t x g0 rs y) c l (.own 8 g 0 ((l.take k).map iV).length) k [.arr g 4 false (encL ((l.take k).map iV))] 6 7) (.exit 2) (inP y (uC t x g0 rs y) c g' (l.map iV) 6 7 8):=by
 intro d
 induction d with
 | zero =>
  intro k g hd hk
  rw [List.take_of_length_le (by omega)]
  exact ⟨g,inC_e t x y g0 rs c l r k g (l.map iV) (by omega) trivial⟩
 | succ d ih =>
  intro k g hd hk
  have hlt:k<l.length:=by omega
  have hx:l[k]? = some l[k]:=List.getElem?_eq_getElem hlt
  obtain ⟨g',nx⟩:=ih (k+1) (g+1) (by omega) (by omega)
  have e:(l.take (k+1)).map iV=(l.take k).map iV++[iV l[k]]:=by rw [List.take_succ_eq_append_getElem hlt,List.map_append]; rfl
  refine ⟨g',inC_n t x y g0 rs c l l[k] r k g ((l.take k).map iV) (by simp; omega) hx hl _ _ ⟨fun _=>?_,fun h=>absurd (by omega) h⟩⟩
  refine RunL.subArrPre (b:=8) (k:=((l.take k).map iV).length) (j:=3) rfl (get_last _ _ _ (Cdc.encL_length _).symm) rfl (Sub.emptyL 4 none 0) ?_
  rw [set_last _ _ _ _ (Cdc.encL_length _).symm]
  rw [e,List.length_append,← Cdc.encL_append] at nx
  exact nx
theorem encL_take (l:List CV):((encL l).drop 0).take l.length=encL l:=by
 rw [List.drop_zero,← Cdc.encL_length l,List.take_length]
theorem inA_all (t:TE) (x y:Int) (c:CE) (l:List Int) (hl:l.length≤16) (r:Option Nat):RunL P G r 5 (loopAt P 15 0) (inS t y (uA t x y) c l nilS 0 [] 5 6) (.exit 2) (inX y (uA t x y) c l 5 6):=by
 cases l with
 | nil =>
  have h:=inA_z t x y c [] r rfl trivial
  exact RunL.subBox (b:=6) (j:=3) h rfl rfl (Sub.emptyL 4 none 0)
 | cons v l =>
  obtain ⟨g',h⟩:=inA_loop t x y c (v::l) hl r _ 1 0 rfl (by simp)
  have h0:=inA_0 t x y c (v::l) v r rfl hl _ _ ⟨fun _=>RunL.subArrPre (b:=7) (k:=0) (j:=3) rfl rfl rfl (Sub.emptyL 4 none 0) h,fun h=>absurd (by simp) h⟩
  have e:evalFrz (inP y (uA t x y) c g' ((v::l).map iV) 5 6 7).H (.own 7 g' 0 ((v::l).map iV).length) (encL ((v::l).map iV))=some (.sl 4 false (encL ((v::l).map iV)),uA t x y++[.box (Sq.enc c),.box [int 3,int 0,str ByteArray.empty,.own 7 g' 0 ((v::l).map iV).length],.arr g' 4 true (encL ((v::l).map iV))],[g'=g',((encL ((v::l).map iV)).drop 0).take ((v::l).map iV).length=encL ((v::l).map iV),(encL ((v::l).map iV)).length=((v::l).map iV).length,∀ c∈encL ((v::l).map iV),c.all AV.pureB=true]):=rfl
  have hp:AllP [g'=g',((encL ((v::l).map iV)).drop 0).take ((v::l).map iV).length=encL ((v::l).map iV),(encL ((v::l).map iV)).length=((v::l).map iV).length,∀ c∈encL ((v::l).map iV),c.all AV.pureB=true]:=⟨rfl,encL_take _,Cdc.encL_length _,Cdc.encL_pure _,trivial⟩
  have h1:=RunL.frzBox (b:=6) (j:=3) (cells:=[int 3,int 0,str ByteArray.empty,.own 7 g' 0 ((v::l).map iV).length]) h0 rfl (H1:=uA t x y++[.box (Sq.enc c),.box [int 3,int 0,str ByteArray.empty,.own 7 g' 0 ((v::l).map iV).length],.arr g' 4 true (encL ((v::l).map iV))]) rfl rfl e hp
  exact RunL.cut 7 h1 (fun x h=>by cases h) rfl trivial
theorem inC_all (t:TE) (x y:Int) (g0:Nat) (rs:List CV) (c:CE) (l:List Int) (hl:l.length≤16) (r:Option Nat):RunL P G r 6 (loopAt P 15 0) (inS t y (uC t x g0 rs y) c l nilS 0 [] 6 7) (.exit 2) (inX y (uC t x g0 rs y) c l 6 7):=by
 cases l with
 | nil =>
  have h:=inC_z t x y g0 rs c [] r rfl trivial
  exact RunL.subBox (b:=7) (j:=3) h rfl rfl (Sub.emptyL 4 none 0)
 | cons v l =>
  obtain ⟨g',h⟩:=inC_loop t x y g0 rs c (v::l) hl r _ 1 0 rfl (by simp)
  have h0:=inC_0 t x y g0 rs c (v::l) v r rfl hl _ _ ⟨fun _=>RunL.subArrPre (b:=8) (k:=0) (j:=3) rfl rfl rfl (Sub.emptyL 4 none 0) h,fun h=>absurd (by simp) h⟩
  have e:evalFrz (inP y (uC t x g0 rs y) c g' ((v::l).map iV) 6 7 8).H (.own 8 g' 0 ((v::l).map iV).length) (encL ((v::l).map iV))=some (.sl 4 false (encL ((v::l).map iV)),uC t x g0 rs y++[.box (Sq.enc c),.box [int 3,int 0,str ByteArray.empty,.own 8 g' 0 ((v::l).map iV).length],.arr g' 4 true (encL ((v::l).map iV))],[g'=g',((encL ((v::l).map iV)).drop 0).take ((v::l).map iV).length=encL ((v::l).map iV),(encL ((v::l).map iV)).length=((v::l).map iV).length,∀ c∈encL ((v::l).map iV),c.all AV.pureB=true]):=rfl
  have hp:AllP [g'=g',((encL ((v::l).map iV)).drop 0).take ((v::l).map iV).length=encL ((v::l).map iV),(encL ((v::l).map iV)).length=((v::l).map iV).length,∀ c∈encL ((v::l).map iV),c.all AV.pureB=true]:=⟨rfl,encL_take _,Cdc.encL_length _,Cdc.encL_pure _,trivial⟩
  have h1:=RunL.frzBox (b:=7) (j:=3) (cells:=[int 3,int 0,str ByteArray.empty,.own 8 g' 0 ((v::l).map iV).length]) h0 rfl (H1:=uC t x g0 rs y++[.box (Sq.enc c),.box [int 3,int 0,str ByteArray.empty,.own 8 g' 0 ((v::l).map iV).length],.arr g' 4 true (encL ((v::l).map iV))]) rfl rfl e hp
  exact RunL.cut 8 h1 (fun x h=>by cases h) rfl ⟨ids_lt (Cdc.encL_ids _) 8,trivial⟩
end Go.Tx


namespace Go.Tx
open Go Go.Am Go.Proofs Go.Seat
open Go.Sq (CE cel ces ida idv pid fX fiO OkRs chkE)
open Go.Cdc (CV encL)
noncomputable def ouQ (t:TE) (v:List IV) (n k:Nat) (H:List AObj):St:={ env:=slots 47 [(0,.yl 0),(1,.imm [ces t.cells,mks t.marks]),(2,.imm [ivA v]),(11,int n),(12,int k)],H:=H }
noncomputable def ouQX (H:List AObj):St:={ env:=slots 47 [],H:=H }
noncomputable def piQ (t:TE) (v:List IV) (n k:Nat) (H:List AObj) (b:Nat) (x:Int) (j:Nat):St:={ env:=slots 47 [(0,.yl 0),(1,.imm [ces t.cells,mks t.marks]),(2,.imm [ivA v]),(4,int k),(5,.ptr b 0),(6,putF b),(11,int n),(12,int k),(16,ivA v),(17,int v.length),(18,int j)],H:=H++[.box [u32 x]] }
noncomputable def piQX (t:TE) (v:List IV) (n k:Nat) (H:List AObj) (b:Nat) (x:Int):St:={ env:=slots 47 [(0,.yl 0),(1,.imm [ces t.cells,mks t.marks]),(2,.imm [ivA v]),(4,int k),(5,.ptr b 0),(11,int n),(12,int k)],H:=H++[.box [u32 x]] }
noncomputable def hA1 (t:TE) (y:Int) (l:List Int) (c:CE):List AObj:=[jrR,sbT t,.box [int 3,int 0,str ByteArray.empty,.own 8 0 0 1],.box [u32 y],.box [u32 y],.box (Sq.enc c),.box [int 3,int 0,str ByteArray.empty,.sl 4 false (encL (l.map iV))],.arr 0 4 false (pairC c.vl l),.arr 0 4 false [[int 3,int 0,str ByteArray.empty,.own 7 0 0 2]]]
noncomputable def hC1 (t:TE) (y:Int) (g:Nat) (rs:List CV) (l:List Int) (c:CE):List AObj:=[jrR,sbT t,.box [int 3,int 0,str ByteArray.empty,.own 4 (g+1) 0 (rs.length+1)],.box [u32 y],.arr (g+1) 4 false (encL rs++[[int 3,int 0,str ByteArray.empty,.own 8 0 0 2]]),.box [u32 y],.box (Sq.enc c),.box [int 3,int 0,str ByteArray.empty,.sl 4 false (encL (l.map iV))],.arr 0 4 false (pairC c.vl l)]
theorem piA_e (t:TE) (x0:Int) (v:List IV) (n k:Nat) (x:Int) (j:Nat) (hj:¬ (j:Int)<(v.length:Int)) (h:True):RunL P G none 4 (loopAt P 60 1) (piQ t v n k (hA t x0) 4 x j) (AEx.exit 2) (piQX t v n k (hA t x0) 4 x):=by
 have _:=h
 exact loop_exit [kf (show decide ((↑j:Int)<(↑(List.length v):Int))=false from (decide_eq_false (by omega)))] (others 47 [0,1,2,4,5,11,12]) 5 (by kernel_rfl)
theorem piA_n (t:TE) (x0:Int) (v:List IV) (n k:Nat) (x:Int) (j:Nat) (y:IV) (hj:(j:Int)<(v.length:Int)) (hv:v.length≤1000000) (hy:v[j]? = some y) (hst:0≤y.m.st) (ex:AEx) (s:St) (h:(((IV.f y≤(↑k:Int))→((((↑k:Int)≤IV.t y)→RunL P G none 4 (loopAt P 60 1) (St.mk (slots 47 [(0,AV.yl 0),(1,AV.imm [AV.sl 9 false (Sq.encs (TE.cells t)),AV.sl 11 false (encs (TE.marks t))]),(2,AV.imm [AV.sl 13 false (encI v)]),(4,int (↑k:Int)),(5,AV.ptr 4 0),(6,AV.fn (Fn.func 61) [AV.ptr 4 0] []),(11,int (↑n:Int)),(12,int (↑k:Int)),(16,AV.sl 13 false (encI v)),(17,int (↑(List.length v):Int)),(18,int (↑(j+1):Int))]) [jrR,AObj.box [AV.sl 9 false (Sq.encs (TE.cells t)),AV.sl 11 false (encs (TE.marks t))],AObj.box [int 3,int 0,str ByteArray.empty,nilS],AObj.box [AV.lit (Value.int IntKind.u32 x0)],AObj.box [AV.lit (Value.int IntKind.u32 (putV x (MK.st (IV.m y)) (MK.on (IV.m y))))]] []) ex s)∧((¬(↑k:Int)≤IV.t y)→RunL P G none 4 (loopAt P 60 1) (St.mk (slots 47 [(0,AV.yl 0),(1,AV.imm [AV.sl 9 false (Sq.encs (TE.cells t)),AV.sl 11 false (encs (TE.marks t))]),(2,AV.imm [AV.sl 13 false (encI v)]),(4,int (↑k:Int)),(5,AV.ptr 4 0),(6,AV.fn (Fn.func 61) [AV.ptr 4 0] []),(11,int (↑n:Int)),(12,int (↑k:Int)),(16,AV.sl 13 false (encI v)),(17,int (↑(List.length v):Int)),(18,int (↑(j+1):Int))]) [jrR,AObj.box [AV.sl 9 false (Sq.encs (TE.cells t)),AV.sl 11 false (encs (TE.marks t))],AObj.box [int 3,int 0,str ByteArray.empty,nilS],AObj.box [AV.lit (Value.int IntKind.u32 x0)],AObj.box [AV.lit (Value.int IntKind.u32 x)]] []) ex s)))∧((¬IV.f y≤(↑k:Int))→RunL P G none 4 (loopAt P 60 1) (St.mk (slots 47 [(0,AV.yl 0),(1,AV.imm [AV.sl 9 false (Sq.encs (TE.cells t)),AV.sl 11 false (encs (TE.marks t))]),(2,AV.imm [AV.sl 13 false (encI v)]),(4,int (↑k:Int)),(5,AV.ptr 4 0),(6,AV.fn (Fn.func 61) [AV.ptr 4 0] []),(11,int (↑n:Int)),(12,int (↑k:Int)),(16,AV.sl 13 false (encI v)),(17,int (↑(List.length v):Int)),(18,int (↑(j+1):Int))]) [jrR,AObj.box [AV.sl 9 false (Sq.encs (TE.cells t)),AV.sl 11 false (encs (TE.marks t))],AObj.box [int 3,int 0,str ByteArray.empty,nilS],AObj.box [AV.lit (Value.int IntKind.u32 x0)],AObj.box [AV.lit (Value.int IntKind.u32 x)]] []) ex s))):RunL P G none 4 (loopAt P 60 1) (piQ t v n k (hA t x0) 4 x j) ex s:=by
 have hz0:decide ((↑j:Int)<(↑(List.length v):Int))=true:=(decide_eq_true (by omega))
 have hz1:(0:Int)≤(↑j:Int)∧(encI v)[Int.toNat (↑j:Int)]? = some (encI1 y):=(el_nat hy)
 by_cases c2:(IV.f y≤(↑k:Int))
 · have h:=h.1 c2
   by_cases c3:((↑k:Int)≤IV.t y)
   · have h:=h.1 c3
     exact loop_next [kt hz0,ko (Orc.elem (encI1 y)),kp hz1,kt (decide_eq_true c2),kt (decide_eq_true c3),kc [4] (@Go.Tx.put_c (x) (MK.st (IV.m y)) (MK.on (IV.m y)) (by omega)),kv 40 (show Am.Sub (int (IntKind.wrap IntKind.i64 ((↑j:Int)+1))) (int (↑(j+1):Int)) from (Sub.of_wrap (by omega) (by omega) (by omega)))] (others 47 [0,1,2,4,5,6,11,12,16,17,18]) 5 h (by kernel_rfl)
   · have h:=h.2 c3
     exact loop_next [kt hz0,ko (Orc.elem (encI1 y)),kp hz1,kt (decide_eq_true c2),kf (decide_eq_false c3),kv 40 (show Am.Sub (int (IntKind.wrap IntKind.i64 ((↑j:Int)+1))) (int (↑(j+1):Int)) from (Sub.of_wrap (by omega) (by omega) (by omega)))] (others 47 [0,1,2,4,5,6,11,12,16,17,18]) 5 h (by kernel_rfl)
 · have h:=h.2 c2
   exact loop_next [kt hz0,ko (Orc.elem (encI1 y)),kp hz1,kf (decide_eq_false c2),kf (Eq.refl false),kv 40 (show Am.Sub (int (IntKind.wrap IntKind.i64 ((↑j:Int)+1))) (int (↑(j+1):Int)) from (Sub.of_wrap (by omega) (by omega) (by omega)))] (others 47 [0,1,2,4,5,6,11,12,16,17,18]) 5 h (by kernel_rfl)
theorem piB_e (t:TE) (x0:Int) (g:Nat) (rs:List CV) (s0:ByteArray) (ls:List Int) (v:List IV) (n k:Nat) (x:Int) (j:Nat) (hj:¬ (j:Int)<(v.length:Int)) (h:True):RunL P G none 4 (loopAt P 60 1) (piQ t v n k (hB t x0 g rs s0 ls) 6 x j) (AEx.exit 2) (piQX t v n k (hB t x0 g rs s0 ls) 6 x):=by
 have _:=h
 exact loop_exit [kf (show decide ((↑j:Int)<(↑(List.length v):Int))=false from (decide_eq_false (by omega)))] (others 47 [0,1,2,4,5,11,12]) 7 (by kernel_rfl)
theorem piB_n (t:TE) (x0:Int) (g:Nat) (rs:List CV) (s0:ByteArray) (ls:List Int) (v:List IV) (n k:Nat) (x:Int) (j:Nat) (y:IV) (hj:(j:Int)<(v.length:Int)) (hv:v.length≤1000000) (hy:v[j]? = some y) (hst:0≤y.m.st) (ex:AEx) (s:St) (h:(((IV.f y≤(↑k:Int))→((((↑k:Int)≤IV.t y)→((∀ (x:List AV),x∈pairC s0 ls→AV.idsLtL 7 x=true)∧RunL P G none 4 (loopAt P 60 1) (St.mk (slots 47 [(0,AV.yl 0),(1,AV.imm [AV.sl 9 false (Sq.encs (TE.cells t)),AV.sl 11 false (encs (TE.marks t))]),(2,AV.imm [AV.sl 13 false (encI v)]),(4,int (↑k:Int)),(5,AV.ptr 6 0),(6,AV.fn (Fn.func 61) [AV.ptr 6 0] []),(11,int (↑n:Int)),(12,int (↑k:Int)),(16,AV.sl 13 false (encI v)),(17,int (↑(List.length v):Int)),(18,int (↑(j+1):Int))]) [jrR,AObj.box [AV.sl 9 false (Sq.encs (TE.cells t)),AV.sl 11 false (encs (TE.marks t))],AObj.box [int 3,int 0,str ByteArray.empty,AV.own 4 g 0 (List.length rs+1)],AObj.box [AV.lit (Value.int IntKind.u32 x0)],AObj.arr g 4 false (encL rs++[[int 3,int 0,str ByteArray.empty,AV.own 5 0 0 2]]),AObj.arr 0 4 false [[int 2,int 0,str s0,nilS],[int 3,int 0,str ByteArray.empty,AV.sl 4 false (encL (List.map iV ls))]],AObj.box [AV.lit (Value.int IntKind.u32 (putV x (MK.st (IV.m y)) (MK.on (IV.m y))))]] []) ex s))∧((¬(↑k:Int)≤IV.t y)→((∀ (x:List AV),x∈pairC s0 ls→AV.idsLtL 7 x=true)∧RunL P G none 4 (loopAt P 60 1) (St.mk (slots 47 [(0,AV.yl 0),(1,AV.imm [AV.sl 9 false (Sq.encs (TE.cells t)),AV.sl 11 false (encs (TE.marks t))]),(2,AV.imm [AV.sl 13 false (encI v)]),(4,int (↑k:Int)),(5,AV.ptr 6 0),(6,AV.fn (Fn.func 61) [AV.ptr 6 0] []),(11,int (↑n:Int)),(12,int (↑k:Int)),(16,AV.sl 13 false (encI v)),(17,int (↑(List.length v):Int)),(18,int (↑(j+1):Int))]) [jrR,AObj.box [AV.sl 9 false (Sq.encs (TE.cells t)),AV.sl 11 false (encs (TE.marks t))],AObj.box [int 3,int 0,str ByteArray.empty,AV.own 4 g 0 (List.length rs+1)],AObj.box [AV.lit (Value.int IntKind.u32 x0)],AObj.arr g 4 false (encL rs++[[int 3,int 0,str ByteArray.empty,AV.own 5 0 0 2]]),AObj.arr 0 4 false [[int 2,int 0,str s0,nilS],[int 3,int 0,str ByteArray.empty,AV.sl 4 false (encL (List.map iV ls))]],AObj.box [AV.lit (Value.int IntKind.u32 x)]] []) ex s))))∧((¬IV.f y≤(↑k:Int))→((∀ (x:List AV),x∈pairC s0 ls→AV.idsLtL 7 x=true)∧RunL P G none 4 (loopAt P 60 1) (St.mk (slots 47 [(0,AV.yl 0),(1,AV.imm [AV.sl 9 false (Sq.encs (TE.cells t)),AV.sl 11 false (encs (TE.marks t))]),(2,AV.imm [AV.sl 13 false (encI v)]),(4,int (↑k:Int)),(5,AV.ptr 6 0),(6,AV.fn (Fn.func 61) [AV.ptr 6 0] []),(11,int (↑n:Int)),(12,int (↑k:Int)),(16,AV.sl 13 false (encI v)),(17,int (↑(List.length v):Int)),(18,int (↑(j+1):Int))]) [jrR,AObj.box [AV.sl 9 false (Sq.encs (TE.cells t)),AV.sl 11 false (encs (TE.marks t))],AObj.box [int 3,int 0,str ByteArray.empty,AV.own 4 g 0 (List.length rs+1)],AObj.box [AV.lit (Value.int IntKind.u32 x0)],AObj.arr g 4 false (encL rs++[[int 3,int 0,str ByteArray.empty,AV.own 5 0 0 2]]),AObj.arr 0 4 false [[int 2,int 0,str s0,nilS],[int 3,int 0,str ByteArray.empty,AV.sl 4 false (encL (List.map iV ls))]],AObj.box [AV.lit (Value.int IntKind.u32 x)]] []) ex s)))):RunL P G none 4 (loopAt P 60 1) (piQ t v n k (hB t x0 g rs s0 ls) 6 x j) ex s:=by
 have hz0:decide ((↑j:Int)<(↑(List.length v):Int))=true:=(decide_eq_true (by omega))
 have hz1:(0:Int)≤(↑j:Int)∧(encI v)[Int.toNat (↑j:Int)]? = some (encI1 y):=(el_nat hy)
 have hz4:∀ (x:List AV),x∈encL rs++[[int 3,int 0,str ByteArray.empty,AV.own 5 0 0 2]]→AV.idsLtL 7 x=true:=(by exact (Am.allm_append (Am.ids_lt (Go.Cdc.encL_ids _) _) (Am.allm_cons rfl Am.allm_nil)))
 by_cases c2:(IV.f y≤(↑k:Int))
 · have h:=h.1 c2
   by_cases c3:((↑k:Int)≤IV.t y)
   · have h:=h.1 c3
     obtain ⟨o4,h⟩:=h
     exact loop_next [kt hz0,ko (Orc.elem (encI1 y)),kp hz1,kt (decide_eq_true c2),kt (decide_eq_true c3),kc [6] (@Go.Tx.put_c (x) (MK.st (IV.m y)) (MK.on (IV.m y)) (by omega)),kv 40 (show Am.Sub (int (IntKind.wrap IntKind.i64 ((↑j:Int)+1))) (int (↑(j+1):Int)) from (Sub.of_wrap (by omega) (by omega) (by omega))),kp hz4,kp o4] (others 47 [0,1,2,4,5,6,11,12,16,17,18]) 7 h (by kernel_rfl)
   · have h:=h.2 c3
     obtain ⟨o5,h⟩:=h
     exact loop_next [kt hz0,ko (Orc.elem (encI1 y)),kp hz1,kt (decide_eq_true c2),kf (decide_eq_false c3),kv 40 (show Am.Sub (int (IntKind.wrap IntKind.i64 ((↑j:Int)+1))) (int (↑(j+1):Int)) from (Sub.of_wrap (by omega) (by omega) (by omega))),kp hz4,kp o5] (others 47 [0,1,2,4,5,6,11,12,16,17,18]) 7 h (by kernel_rfl)
 · have h:=h.2 c2
   obtain ⟨o6,h⟩:=h
   exact loop_next [kt hz0,ko (Orc.elem (encI1 y)),kp hz1,kf (decide_eq_false c2),kf (Eq.refl false),kv 40 (show Am.Sub (int (IntKind.wrap IntKind.i64 ((↑j:Int)+1))) (int (↑(j+1):Int)) from (Sub.of_wrap (by omega) (by omega) (by omega))),kp hz4,kp o6] (others 47 [0,1,2,4,5,6,11,12,16,17,18]) 7 h (by kernel_rfl)
theorem piC_e (t:TE) (x0:Int) (g:Nat) (rs:List CV) (v:List IV) (n k:Nat) (x:Int) (j:Nat) (hj:¬ (j:Int)<(v.length:Int)) (h:True):RunL P G none 4 (loopAt P 60 1) (piQ t v n k (hC t x0 g rs) 5 x j) (AEx.exit 2) (piQX t v n k (hC t x0 g rs) 5 x):=by
 have _:=h
 exact loop_exit [kf (show decide ((↑j:Int)<(↑(List.length v):Int))=false from (decide_eq_false (by omega)))] (others 47 [0,1,2,4,5,11,12]) 6 (by kernel_rfl)
theorem piC_n (t:TE) (x0:Int) (g:Nat) (rs:List CV) (v:List IV) (n k:Nat) (x:Int) (j:Nat) (y:IV) (hj:(j:Int)<(v.length:Int)) (hv:v.length≤1000000) (hy:v[j]? = some y) (hst:0≤y.m.st) (ex:AEx) (s:St) (h:(((IV.f y≤(↑k:Int))→((((↑k:Int)≤IV.t y)→RunL P G none 4 (loopAt P 60 1) (St.mk (slots 47 [(0,AV.yl 0),(1,AV.imm [AV.sl 9 false (Sq.encs (TE.cells t)),AV.sl 11 false (encs (TE.marks t))]),(2,AV.imm [AV.sl 13 false (encI v)]),(4,int (↑k:Int)),(5,AV.ptr 5 0),(6,AV.fn (Fn.func 61) [AV.ptr 5 0] []),(11,int (↑n:Int)),(12,int (↑k:Int)),(16,AV.sl 13 false (encI v)),(17,int (↑(List.length v):Int)),(18,int (↑(j+1):Int))]) [jrR,AObj.box [AV.sl 9 false (Sq.encs (TE.cells t)),AV.sl 11 false (encs (TE.marks t))],AObj.box [int 3,int 0,str ByteArray.empty,AV.own 4 g 0 (List.length rs)],AObj.box [AV.lit (Value.int IntKind.u32 x0)],AObj.arr g 4 false (encL rs),AObj.box [AV.lit (Value.int IntKind.u32 (putV x (MK.st (IV.m y)) (MK.on (IV.m y))))]] []) ex s)∧((¬(↑k:Int)≤IV.t y)→RunL P G none 4 (loopAt P 60 1) (St.mk (slots 47 [(0,AV.yl 0),(1,AV.imm [AV.sl 9 false (Sq.encs (TE.cells t)),AV.sl 11 false (encs (TE.marks t))]),(2,AV.imm [AV.sl 13 false (encI v)]),(4,int (↑k:Int)),(5,AV.ptr 5 0),(6,AV.fn (Fn.func 61) [AV.ptr 5 0] []),(11,int (↑n:Int)),(12,int (↑k:Int)),(16,AV.sl 13 false (encI v)),(17,int (↑(List.length v):Int)),(18,int (↑(j+1):Int))]) [jrR,AObj.box [AV.sl 9 false (Sq.encs (TE.cells t)),AV.sl 11 false (encs (TE.marks t))],AObj.box [int 3,int 0,str ByteArray.empty,AV.own 4 g 0 (List.length rs)],AObj.box [AV.lit (Value.int IntKind.u32 x0)],AObj.arr g 4 false (encL rs),AObj.box [AV.lit (Value.int IntKind.u32 x)]] []) ex s)))∧((¬IV.f y≤(↑k:Int))→RunL P G none 4 (loopAt P 60 1) (St.mk (slots 47 [(0,AV.yl 0),(1,AV.imm [AV.sl 9 false (Sq.encs (TE.cells t)),AV.sl 11 false (encs (TE.marks t))]),(2,AV.imm [AV.sl 13 false (encI v)]),(4,int (↑k:Int)),(5,AV.ptr 5 0),(6,AV.fn (Fn.func 61) [AV.ptr 5 0] []),(11,int (↑n:Int)),(12,int (↑k:Int)),(16,AV.sl 13 false (encI v)),(17,int (↑(List.length v):Int)),(18,int (↑(j+1):Int))]) [jrR,AObj.box [AV.sl 9 false (Sq.encs (TE.cells t)),AV.sl 11 false (encs (TE.marks t))],AObj.box [int 3,int 0,str ByteArray.empty,AV.own 4 g 0 (List.length rs)],AObj.box [AV.lit (Value.int IntKind.u32 x0)],AObj.arr g 4 false (encL rs),AObj.box [AV.lit (Value.int IntKind.u32 x)]] []) ex s))):RunL P G none 4 (loopAt P 60 1) (piQ t v n k (hC t x0 g rs) 5 x j) ex s:=by
 have hz0:decide ((↑j:Int)<(↑(List.length v):Int))=true:=(decide_eq_true (by omega))
 have hz1:(0:Int)≤(↑j:Int)∧(encI v)[Int.toNat (↑j:Int)]? = some (encI1 y):=(el_nat hy)
 have hz4:∀ (x:List AV),x∈encL rs→AV.idsLtL 6 x=true:=(by exact (Am.ids_lt (Go.Cdc.encL_ids _) _))
 by_cases c2:(IV.f y≤(↑k:Int))
 · have h:=h.1 c2
   by_cases c3:((↑k:Int)≤IV.t y)
   · have h:=h.1 c3
     exact loop_next [kt hz0,ko (Orc.elem (encI1 y)),kp hz1,kt (decide_eq_true c2),kt (decide_eq_true c3),kc [5] (@Go.Tx.put_c (x) (MK.st (IV.m y)) (MK.on (IV.m y)) (by omega)),kv 40 (show Am.Sub (int (IntKind.wrap IntKind.i64 ((↑j:Int)+1))) (int (↑(j+1):Int)) from (Sub.of_wrap (by omega) (by omega) (by omega))),kp hz4] (others 47 [0,1,2,4,5,6,11,12,16,17,18]) 6 h (by kernel_rfl)
   · have h:=h.2 c3
     exact loop_next [kt hz0,ko (Orc.elem (encI1 y)),kp hz1,kt (decide_eq_true c2),kf (decide_eq_false c3),kv 40 (show Am.Sub (int (IntKind.wrap IntKind.i64 ((↑j:Int)+1))) (int (↑(j+1):Int)) from (Sub.of_wrap (by omega) (by omega) (by omega))),kp hz4] (others 47 [0,1,2,4,5,6,11,12,16,17,18]) 6 h (by kernel_rfl)
 · have h:=h.2 c2
   exact loop_next [kt hz0,ko (Orc.elem (encI1 y)),kp hz1,kf (decide_eq_false c2),kf (Eq.refl false),kv 40 (show Am.Sub (int (IntKind.wrap IntKind.i64 ((↑j:Int)+1))) (int (↑(j+1):Int)) from (Sub.of_wrap (by omega) (by omega) (by omega))),kp hz4] (others 47 [0,1,2,4,5,6,11,12,16,17,18]) 6 h (by kernel_rfl)
theorem ouA_e (t:TE) (x0:Int) (v:List IV) (n k:Nat) (hk:¬ (k:Int)<(n:Int)) (h:True):RunL P G none 4 (loopAt P 60 0) (ouQ t v n k (hA t x0)) (AEx.exit 0) (ouQX (hA t x0)):=by
 have _:=h
 exact loop_exit [kf (show decide ((↑k:Int)<(↑n:Int))=false from (decide_eq_false (by omega)))] (others 47 []) 4 (by kernel_rfl)
theorem ouC_e (t:TE) (x0:Int) (g:Nat) (rs:List CV) (v:List IV) (n k:Nat) (hk:¬ (k:Int)<(n:Int)) (h:True):RunL P G none 4 (loopAt P 60 0) (ouQ t v n k (hC t x0 g rs)) (AEx.exit 0) (ouQX (hC t x0 g rs)):=by
 have _:=h
 exact loop_exit [kf (show decide ((↑k:Int)<(↑n:Int))=false from (decide_eq_false (by omega)))] (others 47 []) 5 (by kernel_rfl)
theorem ouA_n (t:TE) (x0:Int) (v:List IV) (n k:Nat) (y:Int) (hk:(k:Int)<(n:Int)) (hn:n≤1000000) (hI:RunL P G none 4 (loopAt P 60 1) (piQ t v n k (hA t x0) 4 0 0) (.exit 2) (piQX t v n k (hA t x0) 4 y)) (hy:YieldC P G 0 [int k,u32 y] (hA t x0++[.box [u32 y]]) true (hA t x0++[.box [u32 y]])) (ex:AEx) (s:St) (h:RunL P G none 4 (loopAt P 60 0) (St.mk (slots 47 [(0,AV.yl 0),(1,AV.imm [AV.sl 9 false (Sq.encs (TE.cells t)),AV.sl 11 false (encs (TE.marks t))]),(2,AV.imm [AV.sl 13 false (encI v)]),(11,int (↑n:Int)),(12,int (↑(k+1):Int))]) [jrR,AObj.box [AV.sl 9 false (Sq.encs (TE.cells t)),AV.sl 11 false (encs (TE.marks t))],AObj.box [int 3,int 0,str ByteArray.empty,nilS],AObj.box [AV.lit (Value.int IntKind.u32 x0)]] []) ex s):RunL P G none 4 (loopAt P 60 0) (ouQ t v n k (hA t x0)) ex s:=by
 exact loop_next [kt (show decide ((↑k:Int)<(↑n:Int))=true from (decide_eq_true (by omega))),kv 17 (show Am.Sub (int (↑(List.length (encI v)):Int)) (int (↑(List.length v):Int)) from (Sub.of_eq (by simp only [Go.Tx.encI_length]))),kl [13,14,15] 5 (@hI ),ko (Orc.call [] (AOut.ret (Am.bool true)) (hA t x0++[AObj.box [u32 y]])),kp (@hy ),kf (Eq.refl false),kv 46 (show Am.Sub (int (IntKind.wrap IntKind.i64 ((↑k:Int)+1))) (int (↑(k+1):Int)) from (Sub.of_wrap (by omega) (by omega) (by omega)))] (others 47 [0,1,2,11,12]) 4 h (by kernel_rfl)
theorem ouA_1 (t:TE) (x0:Int) (v:List IV) (n k:Nat) (y:Int) (l:List Int) (c:CE) (hk:(k:Int)<(n:Int)) (hn:n≤1000000) (hI:RunL P G none 4 (loopAt P 60 1) (piQ t v n k (hA t x0) 4 0 0) (.exit 2) (piQX t v n k (hA t x0) 4 y)) (hy:YieldC P G 0 [int k,u32 y] (hA t x0++[.box [u32 y]]) true (hA1 t y l c)) (ex:AEx) (s:St) (h:RunL P G none 4 (loopAt P 60 0) (St.mk (slots 47 [(0,AV.yl 0),(1,AV.imm [AV.sl 9 false (Sq.encs (TE.cells t)),AV.sl 11 false (encs (TE.marks t))]),(2,AV.imm [AV.sl 13 false (encI v)]),(11,int (↑n:Int)),(12,int (↑(k+1):Int))]) [jrR,AObj.box [AV.sl 9 false (Sq.encs (TE.cells t)),AV.sl 11 false (encs (TE.marks t))],AObj.box [int 3,int 0,str ByteArray.empty,AV.own 8 0 0 1],AObj.box [AV.lit (Value.int IntKind.u32 y)],AObj.box [AV.lit (Value.int IntKind.u32 y)],AObj.box [int (CE.dv c),int (CE.sq c),int (CE.at' c),int (CE.ad c),int (CE.as' c),int (CE.aa c),int (CE.tm c),str (CE.vl c),Am.bool (CE.gn c)],AObj.box [int 3,int 0,str ByteArray.empty,AV.sl 4 false (encL (List.map iV l))],AObj.arr 0 4 false [[int 2,int 0,str (CE.vl c),nilS],[int 3,int 0,str ByteArray.empty,AV.sl 4 false (encL (List.map iV l))]],AObj.arr 0 4 false [[int 3,int 0,str ByteArray.empty,AV.own 7 0 0 2]]] []) ex s):RunL P G none 4 (loopAt P 60 0) (ouQ t v n k (hA t x0)) ex s:=by
 exact loop_next [kt (show decide ((↑k:Int)<(↑n:Int))=true from (decide_eq_true (by omega))),kv 17 (show Am.Sub (int (↑(List.length (encI v)):Int)) (int (↑(List.length v):Int)) from (Sub.of_eq (by simp only [Go.Tx.encI_length]))),kl [13,14,15] 5 (@hI ),ko (Orc.call [] (AOut.ret (Am.bool true)) (hA1 t y l c)),kp (@hy ),kf (Eq.refl false),kv 46 (show Am.Sub (int (IntKind.wrap IntKind.i64 ((↑k:Int)+1))) (int (↑(k+1):Int)) from (Sub.of_wrap (by omega) (by omega) (by omega)))] (others 47 [0,1,2,11,12]) 9 h (by kernel_rfl)
theorem ouB_n (t:TE) (x0:Int) (g:Nat) (rs:List CV) (s0:ByteArray) (ls:List Int) (v:List IV) (n k:Nat) (y:Int) (s1:ByteArray) (hk:(k:Int)<(n:Int)) (hn:n≤1000000) (hI:RunL P G none 4 (loopAt P 60 1) (piQ t v n k (hB t x0 g rs s0 ls) 6 0 0) (.exit 2) (piQX t v n k (hB t x0 g rs s0 ls) 6 y)) (hy:YieldC P G 0 [int k,u32 y] (hB t x0 g rs s0 ls++[.box [u32 y]]) true (hB t x0 g rs s1 ls++[.box [u32 y]])) (ex:AEx) (s:St) (h:((∀ (x:List AV),x∈pairC s1 ls→AV.idsLtL 6 x=true)∧RunL P G none 4 (loopAt P 60 0) (St.mk (slots 47 [(0,AV.yl 0),(1,AV.imm [AV.sl 9 false (Sq.encs (TE.cells t)),AV.sl 11 false (encs (TE.marks t))]),(2,AV.imm [AV.sl 13 false (encI v)]),(11,int (↑n:Int)),(12,int (↑(k+1):Int))]) [jrR,AObj.box [AV.sl 9 false (Sq.encs (TE.cells t)),AV.sl 11 false (encs (TE.marks t))],AObj.box [int 3,int 0,str ByteArray.empty,AV.own 4 g 0 (List.length rs+1)],AObj.box [AV.lit (Value.int IntKind.u32 x0)],AObj.arr g 4 false (encL rs++[[int 3,int 0,str ByteArray.empty,AV.own 5 0 0 2]]),AObj.arr 0 4 false [[int 2,int 0,str s1,nilS],[int 3,int 0,str ByteArray.empty,AV.sl 4 false (encL (List.map iV ls))]]] []) ex s)):RunL P G none 4 (loopAt P 60 0) (ouQ t v n k (hB t x0 g rs s0 ls)) ex s:=by
 obtain ⟨o2,h⟩:=h
 exact loop_next [kt (show decide ((↑k:Int)<(↑n:Int))=true from (decide_eq_true (by omega))),kv 17 (show Am.Sub (int (↑(List.length (encI v)):Int)) (int (↑(List.length v):Int)) from (Sub.of_eq (by simp only [Go.Tx.encI_length]))),kl [13,14,15] 7 (@hI ),ko (Orc.call [] (AOut.ret (Am.bool true)) (hB t x0 g rs s1 ls++[AObj.box [u32 y]])),kp (@hy ),kf (Eq.refl false),kv 46 (show Am.Sub (int (IntKind.wrap IntKind.i64 ((↑k:Int)+1))) (int (↑(k+1):Int)) from (Sub.of_wrap (by omega) (by omega) (by omega))),kp (show ∀ (x:List AV),x∈encL rs++[[int 3,int 0,str ByteArray.empty,AV.own 5 0 0 2]]→AV.idsLtL 6 x=true from (by exact (Am.allm_append (Am.ids_lt (Go.Cdc.encL_ids _) _) (Am.allm_cons rfl Am.allm_nil)))),kp o2] (others 47 [0,1,2,11,12]) 6 h (by kernel_rfl)
theorem ouC_1 (t:TE) (x0:Int) (g:Nat) (rs:List CV) (v:List IV) (n k:Nat) (y:Int) (l:List Int) (c:CE) (hk:(k:Int)<(n:Int)) (hn:n≤1000000) (hI:RunL P G none 4 (loopAt P 60 1) (piQ t v n k (hC t x0 g rs) 5 0 0) (.exit 2) (piQX t v n k (hC t x0 g rs) 5 y)) (hy:YieldC P G 0 [int k,u32 y] (hC t x0 g rs++[.box [u32 y]]) true (hC1 t y g rs l c)) (ex:AEx) (s:St) (h:RunL P G none 4 (loopAt P 60 0) (St.mk (slots 47 [(0,AV.yl 0),(1,AV.imm [AV.sl 9 false (Sq.encs (TE.cells t)),AV.sl 11 false (encs (TE.marks t))]),(2,AV.imm [AV.sl 13 false (encI v)]),(11,int (↑n:Int)),(12,int (↑(k+1):Int))]) [jrR,AObj.box [AV.sl 9 false (Sq.encs (TE.cells t)),AV.sl 11 false (encs (TE.marks t))],AObj.box [int 3,int 0,str ByteArray.empty,AV.own 4 (g+1) 0 (List.length rs+1)],AObj.box [AV.lit (Value.int IntKind.u32 y)],AObj.arr (g+1) 4 false (encL rs++[[int 3,int 0,str ByteArray.empty,AV.own 8 0 0 2]]),AObj.box [AV.lit (Value.int IntKind.u32 y)],AObj.box [int (CE.dv c),int (CE.sq c),int (CE.at' c),int (CE.ad c),int (CE.as' c),int (CE.aa c),int (CE.tm c),str (CE.vl c),Am.bool (CE.gn c)],AObj.box [int 3,int 0,str ByteArray.empty,AV.sl 4 false (encL (List.map iV l))],AObj.arr 0 4 false [[int 2,int 0,str (CE.vl c),nilS],[int 3,int 0,str ByteArray.empty,AV.sl 4 false (encL (List.map iV l))]]] []) ex s):RunL P G none 4 (loopAt P 60 0) (ouQ t v n k (hC t x0 g rs)) ex s:=by
 exact loop_next [kt (show decide ((↑k:Int)<(↑n:Int))=true from (decide_eq_true (by omega))),kv 17 (show Am.Sub (int (↑(List.length (encI v)):Int)) (int (↑(List.length v):Int)) from (Sub.of_eq (by simp only [Go.Tx.encI_length]))),kl [13,14,15] 6 (@hI ),ko (Orc.call [] (AOut.ret (Am.bool true)) (hC1 t y g rs l c)),kp (@hy ),kf (Eq.refl false),kv 46 (show Am.Sub (int (IntKind.wrap IntKind.i64 ((↑k:Int)+1))) (int (↑(k+1):Int)) from (Sub.of_wrap (by omega) (by omega) (by omega)))] (others 47 [0,1,2,11,12]) 9 h (by kernel_rfl)
theorem itA (t:TE) (v:List IV) (hL:RunL P G none 4 (loopAt P 60 0) (ouQ t v t.cells.length 0 (hA t 0)) (.exit 0) (ouQX (hA t 0))) (h:True):CallC P G 60 [AV.yl 0,AV.imm [ces (TE.cells t),mks (TE.marks t)],AV.imm [ivA v]] (hA t 0) (AOut.ret (AV.tup [])) (hA t 0):=by
 have _:=h
 exact callC_of [kv 11 (show Am.Sub (int (↑(List.length (Sq.encs (TE.cells t))):Int)) (int (↑(List.length (TE.cells t)):Int)) from (Sub.of_eq (by simp only [Go.Sq.encs_length]))),kl [3,4,5,6,7,8,9,10,13,14,15,16,17,18,19,20,21,22,23,24,25,26,27,28,29,30,31,32,33,34,35,36,37,38,39,40,41,42,43,44,45,46] 4 (@hL )] (by kernel_rfl)
theorem itC (t:TE) (v:List IV) (x0:Int) (g:Nat) (rs:List CV) (hL:RunL P G none 4 (loopAt P 60 0) (ouQ t v t.cells.length 0 (hA t 0)) (.exit 0) (ouQX (hC t x0 g rs))) (h:True):CallC P G 60 [AV.yl 0,AV.imm [ces (TE.cells t),mks (TE.marks t)],AV.imm [ivA v]] (hA t 0) (AOut.ret (AV.tup [])) (hC t x0 g rs):=by
 have _:=h
 exact callC_of [kv 11 (show Am.Sub (int (↑(List.length (Sq.encs (TE.cells t))):Int)) (int (↑(List.length (TE.cells t)):Int)) from (Sub.of_eq (by simp only [Go.Sq.encs_length]))),kl [3,4,5,6,7,8,9,10,13,14,15,16,17,18,19,20,21,22,23,24,25,26,27,28,29,30,31,32,33,34,35,36,37,38,39,40,41,42,43,44,45,46] 4 (@hL )] (by kernel_rfl)
theorem ren_a (t:TE) (e:Int) (he:e≠0) (hc:CallC P G 17 [txt t] [] (.ret (int e)) []) (o:AOut) (H':List AObj) (h:(AOut.ret (AV.tup [AV.agg [int 0,int 0,str (ByteArray.mk #[]),nilS],int e])=o)∧([]=H')):CallC P G 15 [txt t] [] o H':=by
 obtain ⟨e1,eH⟩:=h
 exact CallC.heap (e1 ▸ ((show CallC P G 15 [txt t] [] (AOut.ret (AV.tup [AV.agg [int 0,int 0,str (ByteArray.mk #[]),nilS],int e])) [] from callC_of [kc [] (@hc ),kt (show (e != 0)=true from (congrArg Bool.not (decide_eq_false (by omega))))] (by kernel_rfl)))) eH
theorem ren_A (t:TE) (v:List IV) (hc:CallC P G 17 [txt t] [] (.ret (int 0)) []) (hs:CallC P G 36 [txt t] [] (.ret (sfn t v)) []) (hi:CallC P G 60 [.yl 0,.imm [ces t.cells,mks t.marks],.imm [ivA v]] (hA t 0) (.ret (.tup [])) (hA t 0)) (o:AOut) (H':List AObj) (h:(AOut.ret (AV.tup [AV.agg [int 3,int 0,str ByteArray.empty,nilS],int 0])=o)∧([]=H')):CallC P G 15 [txt t] [] o H':=by
 obtain ⟨e1,eH⟩:=h
 exact CallC.heap (e1 ▸ ((show CallC P G 15 [txt t] [] (AOut.ret (AV.tup [AV.agg [int 3,int 0,str ByteArray.empty,nilS],int 0])) [] from callC_of [kc [] (@hc ),kf (Eq.refl false),kc [] (@hs ),ko (Orc.range [0,3,4,6,7,8,9,10,11,12,13,14,15,16,17,18,19,20,21,22,23,24,25,26,27,28,29,30,31,32,33,34,35,36,37,38,39,40,41,42,43,44,45,46,47,48,49,50,51,52,53,54,55,56,57,58,59,60,61,62,63,64,65,66,67,68,69,70,71,72,73,74,75,76,77,78,79,80,81,82,83,84,85,86] 0 none AEx.normal [] []),kc [4,0,1,2] (@hi )] (by kernel_rfl)))) eH
theorem ren_C (t:TE) (v:List IV) (x0:Int) (g:Nat) (rs:List CV) (hc:CallC P G 17 [txt t] [] (.ret (int 0)) []) (hs:CallC P G 36 [txt t] [] (.ret (sfn t v)) []) (hi:CallC P G 60 [.yl 0,.imm [ces t.cells,mks t.marks],.imm [ivA v]] (hA t 0) (.ret (.tup [])) (hC t x0 g rs)) (o:AOut) (H':List AObj) (h:(AOut.ret (AV.tup [AV.agg [int 3,int 0,str ByteArray.empty,AV.sl 4 false (encL rs)],int 0])=o)∧([]=H')):CallC P G 15 [txt t] [] o H':=by
 obtain ⟨e1,eH⟩:=h
 exact CallC.heap (e1 ▸ ((show CallC P G 15 [txt t] [] (AOut.ret (AV.tup [AV.agg [int 3,int 0,str ByteArray.empty,AV.sl 4 false (encL rs)],int 0])) [] from callC_of [kc [] (@hc ),kf (Eq.refl false),kc [] (@hs ),ko (Orc.range [0,3,4,6,7,8,9,10,11,12,13,14,15,16,17,18,19,20,21,22,23,24,25,26,27,28,29,30,31,32,33,34,35,36,37,38,39,40,41,42,43,44,45,46,47,48,49,50,51,52,53,54,55,56,57,58,59,60,61,62,63,64,65,66,67,68,69,70,71,72,73,74,75,76,77,78,79,80,81,82,83,84,85,86] 0 none AEx.normal [] []),kc [4,0,1,2] (@hi ),ko (Orc.fz (some 86) (encL rs)),kp (show ∀ (x:List AV),x∈encL rs→AV.idsInL [] x=true from (Go.Cdc.encL_ids _)),kp (show g=g from (rfl)),kp (show List.take (List.length rs) (List.drop 0 (encL rs))=encL rs from (Go.Cdc.encL_all _)),kp (show List.length (encL rs)=List.length rs from (Go.Cdc.encL_length _)),kp (show ∀ (c:List AV),c∈encL rs→List.all c AV.pureB=true from (Go.Cdc.encL_pure _))] (by kernel_rfl)))) eH
end Go.Tx


namespace Go.Tx
open Go Go.Am Go.Proofs Go.Seat
open Go.Sq (CE cel ces ida idv pid fX fiO OkRs chkE)
open Go.Cdc (CV encL)
def prV (s:ByteArray) (ls:List Int):CV:=lV [tV s,lV (ls.map iV)]
def rn (sty:Nat→List Int):List CE→Nat→Option (List CV × ByteArray × List Int)→List CV
 | [],_,none=>[]
 | [],_,some (rs,s,ls)=>rs++[prV s ls]
 | c::l,k,st=>if c.gn=true then rn sty l (k+1) st else match st with
  | none=>rn sty l (k+1) (some ([],c.vl,sty k))
  | some (rs,s,ls)=>if sty k=ls then rn sty l (k+1) (some (rs,s++c.vl,ls)) else rn sty l (k+1) (some (rs++[prV s ls],c.vl,sty k))
theorem bitF_mem (p:Nat→Bool):∀ m s i,((i:Nat):Int)∈bitF p m s↔s≤i∧i<s+m∧p i=true
 | 0,s,i=>by simp only [bitF,List.not_mem_nil,false_iff]; omega
 | m+1,s,i=>by
  rw [bitF]
  have ih:=bitF_mem p m (s+1) i
  by_cases h:p s=true
  · rw [if_pos h,List.mem_cons,ih]
    constructor
    · rintro (e | ⟨a,b,c⟩)
      · have e:i=s:=by omega
        subst e; exact ⟨Nat.le_refl _,by omega,h⟩
      · exact ⟨by omega,by omega,c⟩
    · rintro ⟨a,b,c⟩
      by_cases e:i=s
      · left; rw [e]
      · right; exact ⟨by omega,by omega,c⟩
  · rw [if_neg h,ih]
    constructor
    · rintro ⟨a,b,c⟩; exact ⟨by omega,by omega,c⟩
    · rintro ⟨a,b,c⟩
      have:i≠s:=fun e=>h (e ▸ c)
      exact ⟨by omega,by omega,c⟩
theorem bitF_inj {a b:Nat} (ha:a<65536) (hb:b<65536) (h:bitF a.testBit 16 0=bitF b.testBit 16 0):a=b:=by
 apply Nat.eq_of_testBit_eq
 intro i
 by_cases hi:i<16
 · have h1:=bitF_mem a.testBit 16 0 i
   have h2:=bitF_mem b.testBit 16 0 i
   rw [h] at h1
   have h3:=h1.symm.trans h2
   cases e1:a.testBit i<;>cases e2:b.testBit i<;>simp [e1,e2,hi] at h3 ⊢
 · have e:(65536:Nat)=2 ^ 16:=rfl
   have h3:(65536:Nat)≤2 ^ i:=by rw [e]; exact Nat.pow_le_pow_right (by decide) (by omega)
   rw [Nat.testBit_lt_two_pow (by omega),Nat.testBit_lt_two_pow (by omega)]
noncomputable abbrev lpI:Code:=loopAt P 60 1
noncomputable abbrev lpO:Code:=loopAt P 60 0
theorem pair_ids (n:Nat) (s:ByteArray) (ls:List Int):∀ x∈pairC s ls,AV.idsLtL n x=true:=by
 intro x hx
 simp only [List.mem_cons,List.not_mem_nil,or_false] at hx
 rcases hx with rfl | rfl<;>rfl
theorem piA_all (t:TE) (x0:Int) (v:List IV) (n k:Nat) (hv:v.length≤1000000) (hst:∀ y∈v,0≤y.m.st):∀ d j x,v.length - j=d→j≤v.length→RunL P G none 4 lpI (piQ t v n k (hA t x0) 4 x j) (.exit 2) (piQX t v n k (hA t x0) 4 (stN (k:Int) x (v.drop j))):=by
 intro d
 induction d with
 | zero =>
  intro j x hd hj
  rw [List.drop_eq_nil_of_le (by omega)]
  exact piA_e t x0 v n k x j (by omega) trivial
 | succ d ih =>
  intro j x hd hj
  have hlt:j<v.length:=by omega
  have hy:v[j]? = some v[j]:=List.getElem?_eq_getElem hlt
  rw [List.drop_eq_getElem_cons hlt,stN]
  refine piA_n t x0 v n k x j v[j] (by omega) hv hy (hst _ (List.getElem_mem hlt)) _ _ ⟨fun h1=>⟨fun h2=>?_,fun h2=>?_⟩,fun h1=>?_⟩
  · rw [if_pos ⟨h1,h2⟩]; exact ih (j+1) _ (by omega) (by omega)
  · rw [if_neg (fun h=>h2 h.2)]; exact ih (j+1) _ (by omega) (by omega)
  · rw [if_neg (fun h=>h1 h.1)]; exact ih (j+1) _ (by omega) (by omega)
theorem piB_all (t:TE) (x0:Int) (g:Nat) (rs:List CV) (s0:ByteArray) (ls:List Int) (v:List IV) (n k:Nat) (hv:v.length≤1000000) (hst:∀ y∈v,0≤y.m.st):∀ d j x,v.length - j=d→j≤v.length→RunL P G none 4 lpI (piQ t v n k (hB t x0 g rs s0 ls) 6 x j) (.exit 2) (piQX t v n k (hB t x0 g rs s0 ls) 6 (stN (k:Int) x (v.drop j))):=by
 intro d
 induction d with
 | zero =>
  intro j x hd hj
  rw [List.drop_eq_nil_of_le (by omega)]
  exact piB_e t x0 g rs s0 ls v n k x j (by omega) trivial
 | succ d ih =>
  intro j x hd hj
  have hlt:j<v.length:=by omega
  have hy:v[j]? = some v[j]:=List.getElem?_eq_getElem hlt
  rw [List.drop_eq_getElem_cons hlt,stN]
  refine piB_n t x0 g rs s0 ls v n k x j v[j] (by omega) hv hy (hst _ (List.getElem_mem hlt)) _ _ ⟨fun h1=>⟨fun h2=>⟨pair_ids _ _ _,?_⟩,fun h2=>⟨pair_ids _ _ _,?_⟩⟩,fun h1=>⟨pair_ids _ _ _,?_⟩⟩
  · rw [if_pos ⟨h1,h2⟩]; exact ih (j+1) _ (by omega) (by omega)
  · rw [if_neg (fun h=>h2 h.2)]; exact ih (j+1) _ (by omega) (by omega)
  · rw [if_neg (fun h=>h1 h.1)]; exact ih (j+1) _ (by omega) (by omega)
theorem piC_all (t:TE) (x0:Int) (g:Nat) (rs:List CV) (v:List IV) (n k:Nat) (hv:v.length≤1000000) (hst:∀ y∈v,0≤y.m.st):∀ d j x,v.length - j=d→j≤v.length→RunL P G none 4 lpI (piQ t v n k (hC t x0 g rs) 5 x j) (.exit 2) (piQX t v n k (hC t x0 g rs) 5 (stN (k:Int) x (v.drop j))):=by
 intro d
 induction d with
 | zero =>
  intro j x hd hj
  rw [List.drop_eq_nil_of_le (by omega)]
  exact piC_e t x0 g rs v n k x j (by omega) trivial
 | succ d ih =>
  intro j x hd hj
  have hlt:j<v.length:=by omega
  have hy:v[j]? = some v[j]:=List.getElem?_eq_getElem hlt
  rw [List.drop_eq_getElem_cons hlt,stN]
  refine piC_n t x0 g rs v n k x j v[j] (by omega) hv hy (hst _ (List.getElem_mem hlt)) _ _ ⟨fun h1=>⟨fun h2=>?_,fun h2=>?_⟩,fun h1=>?_⟩
  · rw [if_pos ⟨h1,h2⟩]; exact ih (j+1) _ (by omega) (by omega)
  · rw [if_neg (fun h=>h2 h.2)]; exact ih (j+1) _ (by omega) (by omega)
  · rw [if_neg (fun h=>h1 h.1)]; exact ih (j+1) _ (by omega) (by omega)
theorem encL_snoc (rs:List CV) (s:ByteArray) (ls:List Int):encL (rs++[prV s ls])=encL rs++[[int 3,int 0,str ByteArray.empty,.sl 4 false (encL [tV s,lV (ls.map iV)])]]:=by
 rw [← Cdc.encL_append]; simp only [prV,lV,encL,CV.cells]
theorem pair_enc (s:ByteArray) (ls:List Int):encL [tV s,lV (ls.map iV)]=[[int 2,int 0,str s,.sl 4 false []],[int 3,int 0,str ByteArray.empty,.sl 4 false (encL (ls.map iV))]]:=by
 simp only [tV,lV,encL,CV.cells]
theorem idsL_free {xs:List (List AV)} (h:∀ c∈xs,AV.idsInL [] c=true) (σ:Nat→Nat):xs.map (AV.renL σ)=xs:=ren_free σ (ids_lt h 0)
theorem hB_hC {t:TE} {x:Int} {g:Nat} {rs:List CV} {s:ByteArray} {ls:List Int} {v:List IV} {n k:Nat} {ex:AEx} {s':St} (h:RunL P G none 4 lpO (ouQ t v n k (hC t x g (rs++[prV s ls]))) ex s'):RunL P G none 4 lpO (ouQ t v n k (hB t x g rs s ls)) ex s':=by
 refine RunL.subArrPre (b:=5) (k:=0) (j:=3) (y:=.sl 4 false []) rfl rfl rfl (Sub.emptyL 4 none 0) ?_
 let z:=encL [tV s,lV (ls.map iV)]
 let H0:List AObj:=[jrR,sbT t,.box [int 3,int 0,str ByteArray.empty,.own 4 g 0 (rs.length+1)],.box [u32 x],.arr g 4 false (encL rs++[[int 3,int 0,str ByteArray.empty,.own 5 0 0 2]])]
 have e:evalFrz (H0++[.arr 0 4 false z]) (.own 5 0 0 2) z=some (.sl 4 false z,H0++[.arr 0 4 true z],[(0:Nat)=0,(z.drop 0).take 2=z,z.length=2,∀ c∈z,c.all AV.pureB=true]):=rfl
 have hp:AllP [(0:Nat)=0,(z.drop 0).take 2=z,z.length=2,∀ c∈z,c.all AV.pureB=true]:=⟨rfl,Cdc.encL_all [tV s,lV (ls.map iV)],Cdc.encL_length _,Cdc.encL_pure _,trivial⟩
 have hs:RunL P G none 4 lpO (ouQ t v n k (H0++[.arr 0 4 false z])) ex s':=by
  refine RunL.frzArrPre (b:=4) (k:=rs.length) (j:=3) (cells:=[int 3,int 0,str ByteArray.empty,.own 5 0 0 2]) (x:=AV.own 5 0 0 2) (y:=AV.sl 4 false z) (z:=z) (s:=ouQ t v n k (H0++[AObj.arr 0 4 false z])) (H1:=H0++[AObj.arr 0 4 true z]) rfl rfl (get_last _ _ _ (Cdc.encL_length _).symm) rfl e hp ?_
  refine RunL.renPre (s2:=ouQ t v n k (hC t x g (rs++[prV s ls]))) (fun i=>i) (fun i _=>rfl) (by show 4≤5; decide) (fun i h _=>h) (fun i j _ _ h=>h) (fun i o ho=>?_) (fun i o ho=>?_) rfl rfl rfl rfl h
  · match i,ho with
    | 0,ho=>cases ho; rfl
    | 1,ho=>cases ho; rfl
    | 2,ho=>cases ho; show _=some (AObj.box [int 3,int 0,str ByteArray.empty,.own 4 g 0 (rs++[prV s ls]).length]); rw [List.length_append]; rfl
    | 3,ho=>cases ho; rfl
    | 4,ho =>
     cases ho
     show some (AObj.arr g 4 false ((encL rs++[[int 3,int 0,str ByteArray.empty,.own 5 0 0 2]]).set rs.length [int 3,int 0,str ByteArray.empty,.sl 4 false z]))=some (AObj.arr g 4 false ((encL (rs++[prV s ls])).map (AV.renL fun i=>i)))
     rw [idsL_free (Cdc.encL_ids _),set_last _ _ _ _ (Cdc.encL_length _).symm,encL_snoc]
    | n+5,ho=>cases ho
  · match i,ho with
    | 0,ho=>cases ho; show AV.idsLtL _ _=true; rfl
    | 1,ho=>cases ho; show AV.idsLtL _ _=true; rfl
    | 2,ho=>cases ho; show AV.idsLtL _ _=true; rfl
    | 3,ho=>cases ho; show AV.idsLtL _ _=true; rfl
    | 4,ho=>cases ho; exact ids_lt (Cdc.encL_ids _) _
    | n+5,ho=>cases ho
 have he:(ouQ t v n k (hB t x g rs s ls)).H.set 5 (.arr 0 4 false ((pairC s ls).set 0 ([int 2,int 0,str s,nilS].set 3 (.sl 4 false []))))=H0++[.arr 0 4 false z]:=by
  show H0++[_]=_
  rw [show z=_ from pair_enc s ls]
  rfl
 have e2:({ env:=(ouQ t v n k (hB t x g rs s ls)).env,H:=(ouQ t v n k (hB t x g rs s ls)).H.set 5 (.arr 0 4 false ((pairC s ls).set 0 ([int 2,int 0,str s,nilS].set 3 (.sl 4 false [])))),defs:=(ouQ t v n k (hB t x g rs s ls)).defs }:St)=ouQ t v n k (H0++[.arr 0 4 false z]):=by
  rw [he]; rfl
 exact e2 ▸ hs
theorem hA1_hB {t:TE} {y:Int} {l:List Int} {c:CE} {v:List IV} {n k:Nat} {ex:AEx} {s':St} (h:RunL P G none 4 lpO (ouQ t v n k (hB t y 0 [] c.vl l)) ex s'):RunL P G none 4 lpO (ouQ t v n k (hA1 t y l c)) ex s':=by
 refine RunL.renPre (s2:=ouQ t v n k (hB t y 0 [] c.vl l)) (fun i=>if i=4 then 8 else if i=5 then 7 else i) (fun i hi=>by show (if i=4 then 8 else if i=5 then 7 else i)=i; rw [if_neg (by omega),if_neg (by omega)]) (by show 4≤6; decide) (fun i h1 h2=>by show 4≤(if i=4 then 8 else if i=5 then 7 else i); split<;>(try split)<;>omega) (fun i j h1 h2 h=>by
  have h1:i<6:=h1
  have h2:j<6:=h2
  have h:(if i=4 then 8 else if i=5 then 7 else i)=(if j=4 then 8 else if j=5 then 7 else j):=h
  split at h<;>split at h<;>(try split at h)<;>(try split at h)<;>omega) (fun i o ho=>?_) (fun i o ho=>?_) rfl rfl rfl rfl h
 · match i,ho with
   | 0,ho=>cases ho; rfl
   | 1,ho=>cases ho; rfl
   | 2,ho=>cases ho; rfl
   | 3,ho=>cases ho; rfl
   | 4,ho=>cases ho; rfl
   | 5,ho=>cases ho; rfl
   | n+6,ho=>cases ho
 · match i,ho with
   | 0,ho=>cases ho; show AV.idsLtL _ _=true; rfl
   | 1,ho=>cases ho; show AV.idsLtL _ _=true; rfl
   | 2,ho=>cases ho; show AV.idsLtL _ _=true; rfl
   | 3,ho=>cases ho; show AV.idsLtL _ _=true; rfl
   | 4,ho =>
    cases ho
    intro x hx
    have hx:x∈[[int 3,int 0,str ByteArray.empty,AV.own 5 0 0 2]]:=hx
    simp only [List.mem_cons,List.not_mem_nil,or_false] at hx
    subst hx; rfl
   | 5,ho=>cases ho; exact pair_ids _ _ _
   | n+6,ho=>cases ho
theorem hC1_hB {t:TE} {y:Int} {g:Nat} {rs:List CV} {l:List Int} {c:CE} {v:List IV} {n k:Nat} {ex:AEx} {s':St} (h:RunL P G none 4 lpO (ouQ t v n k (hB t y (g+1) rs c.vl l)) ex s'):RunL P G none 4 lpO (ouQ t v n k (hC1 t y g rs l c)) ex s':=by
 refine RunL.renPre (s2:=ouQ t v n k (hB t y (g+1) rs c.vl l)) (fun i=>if i=5 then 8 else i) (fun i hi=>by show (if i=5 then 8 else i)=i; rw [if_neg (by omega)]) (by show 4≤6; decide) (fun i h1 h2=>by show 4≤(if i=5 then 8 else i); split<;>omega) (fun i j h1 h2 h=>by
  have h1:i<6:=h1
  have h2:j<6:=h2
  have h:(if i=5 then 8 else i)=(if j=5 then 8 else j):=h
  split at h<;>split at h<;>omega) (fun i o ho=>?_) (fun i o ho=>?_) rfl rfl rfl rfl h
 · match i,ho with
   | 0,ho=>cases ho; rfl
   | 1,ho=>cases ho; rfl
   | 2,ho=>cases ho; rfl
   | 3,ho=>cases ho; rfl
   | 4,ho =>
    cases ho
    show some (AObj.arr (g+1) 4 false (encL rs++[[int 3,int 0,str ByteArray.empty,.own 8 0 0 2]]))=some (AObj.arr (g+1) 4 false ((encL rs++[[int 3,int 0,str ByteArray.empty,.own 5 0 0 2]]).map (AV.renL _)))
    rw [List.map_append,idsL_free (Cdc.encL_ids _)]
    rfl
   | 5,ho=>cases ho; rfl
   | n+6,ho=>cases ho
 · match i,ho with
   | 0,ho=>cases ho; show AV.idsLtL _ _=true; rfl
   | 1,ho=>cases ho; show AV.idsLtL _ _=true; rfl
   | 2,ho=>cases ho; show AV.idsLtL _ _=true; rfl
   | 3,ho=>cases ho; show AV.idsLtL _ _=true; rfl
   | 4,ho =>
    cases ho
    intro x hx
    have hx:x∈encL rs++[[int 3,int 0,str ByteArray.empty,AV.own 5 0 0 2]]:=hx
    rcases List.mem_append.1 hx with hx | hx
    · exact ids_lt (Cdc.encL_ids _) _ x hx
    · simp only [List.mem_cons,List.not_mem_nil,or_false] at hx
      subst hx; rfl
   | 5,ho=>cases ho; exact pair_ids _ _ _
   | n+6,ho=>cases ho
end Go.Tx


namespace Go.Tx
open Go Go.Am Go.Proofs Go.Seat
open Go.Sq (CE cel ces ida idv pid fX fiO OkRs chkE)
open Go.Cdc (CV encL)
def styN (t:TE) (k:Nat):List Int:=styV t (k:Int)
def renV (t:TE):CV:=lV (rn (styN t) t.cells 0 none)
theorem B_loop (t:TE) (h:Val t) (hc:t.cells.length≤900000) (hv:t.marks.length≤900000):∀ d k,t.cells.length - k=d→k≤t.cells.length→∀ (r0 g:Nat) (rs:List CV) (s:ByteArray),r0<65536→rs.length+1≤k→s.size≤k →
 ∃ (x':Int) (g':Nat),RunL P G none 4 lpO (ouQ t (ivsV t) t.cells.length k (hB t (r0:Int) g rs s (bitF r0.testBit 16 0))) (.exit 0) (ouQX (hC t x' g' (rn (styN t) (t.cells.drop k) k (some (rs,s,bitF r0.testBit 16 0))))):=by
 have hlv:(ivsV t).length≤1000000:=by unfold ivsV; rw [List.length_map]; omega
 intro d
 induction d with
 | zero =>
  intro k hd hk r0 g rs s h0 hr hs
  rw [List.drop_eq_nil_of_le (by omega)]
  exact ⟨_,g,hB_hC (ouC_e t _ g _ _ _ k (by omega) trivial)⟩
 | succ d ih =>
  intro k hd hk r0 g rs s h0 hr hs
  have hlt:k<t.cells.length:=by omega
  have hx:t.cells[k]? = some t.cells[k]:=List.getElem?_eq_getElem hlt
  have hone:t.cells[k].vl.size=1:=h.one _ (List.getElem_mem hlt)
  obtain ⟨r,e1,e2,e3⟩:=set_is t (k:Int) h
  have hI:=piB_all t (r0:Int) g rs s (bitF r0.testBit 16 0) (ivsV t) t.cells.length k hlv (ivs_st h) _ 0 0 rfl (Nat.zero_le _)
  rw [List.drop_zero,e1] at hI
  have esty:styN t k=bitF r.testBit 16 0:=e3.symm
  rw [List.drop_eq_getElem_cons hlt,rn]
  cases hg:t.cells[k].gn with
  | true =>
   rw [if_pos rfl]
   obtain ⟨x',g',nx⟩:=ih (k+1) (by omega) (by omega) r0 g rs s h0 (by omega) (by omega)
   have hy:=ya_B t (r0:Int) (r:Int) g rs s (bitF r0.testBit 16 0) k _ hx hg true (hB t (r0:Int) g rs s (bitF r0.testBit 16 0)++[.box [u32 (r:Int)]]) ⟨pair_ids _ _ _,rfl,rfl⟩
   exact ⟨x',g',ouB_n t _ g rs s _ _ _ k _ s (by omega) (by omega) hI hy _ _ ⟨pair_ids _ _ _,nx⟩⟩
  | false =>
   rw [if_neg (by decide)]
   by_cases he:r=r0
   · rw [if_pos (by rw [esty,he])]
     subst he
     obtain ⟨x',g',nx⟩:=ih (k+1) (by omega) (by omega) r g rs (s++t.cells[k].vl) h0 (by omega) (by rw [ByteArray.size_append]; omega)
     have hy:=yc_B t (r:Int) (r:Int) g rs s (bitF r.testBit 16 0) k _ (by omega) hx hg rfl (by omega) (by
      have e:0+Int.toNat (((rs.length+1:Nat):Int) - 1)=rs.length:=by omega
      rw [e]
      exact get_last _ _ _ (Cdc.encL_length _).symm) true (hB t (r:Int) g rs (s++t.cells[k].vl) (bitF r.testBit 16 0)++[.box [u32 (r:Int)]]) ⟨pair_ids _ (s++t.cells[k].vl) _,rfl,rfl⟩
     exact ⟨x',g',ouB_n t _ g rs s _ _ _ k _ (s++t.cells[k].vl) (by omega) (by omega) hI hy _ _ ⟨pair_ids _ _ _,nx⟩⟩
   · rw [if_neg (by rw [esty]; exact fun e=>he (bitF_inj e2 h0 e)),esty]
     have hlen:(rs++[prV s (bitF r0.testBit 16 0)]).length=rs.length+1:=by rw [List.length_append]; rfl
     have hIC:=piC_all t (r0:Int) g (rs++[prV s (bitF r0.testBit 16 0)]) (ivsV t) t.cells.length k hlv (ivs_st h) _ 0 0 rfl (Nat.zero_le _)
     rw [List.drop_zero,e1] at hIC
     obtain ⟨x',g',nx⟩:=ih (k+1) (by omega) (by omega) r (g+1) (rs++[prV s (bitF r0.testBit 16 0)]) t.cells[k].vl e2 (by omega) (by omega)
     have hy:=yd_C t (r0:Int) (r:Int) g (rs++[prV s (bitF r0.testBit 16 0)]) (bitF r.testBit 16 0) k _ (by omega) (by omega) hx hg (by omega) (bitF_len _ _ _) (get_last _ _ _ (by rw [Cdc.encL_length]; omega)) (list_c r e2) (fun r2=>inC_all t _ _ g _ _ _ (bitF_len _ _ _) r2) true (hC1 t (r:Int) g (rs++[prV s (bitF r0.testBit 16 0)]) (bitF r.testBit 16 0) t.cells[k]) ⟨rfl,by
      rw [set_last _ _ _ _ (by rw [Cdc.encL_length]; omega)]
      rfl⟩
     exact ⟨x',g',hB_hC (ouC_1 t _ g _ _ _ k _ _ _ (by omega) (by omega) hIC hy _ _ (hC1_hB nx))⟩
theorem A_loop (t:TE) (h:Val t) (hc:t.cells.length≤900000) (hv:t.marks.length≤900000):∀ d k,t.cells.length - k=d→k≤t.cells.length →
 (rn (styN t) (t.cells.drop k) k none=[]∧RunL P G none 4 lpO (ouQ t (ivsV t) t.cells.length k (hA t 0)) (.exit 0) (ouQX (hA t 0))) ∨
 ∃ (x':Int) (g':Nat),RunL P G none 4 lpO (ouQ t (ivsV t) t.cells.length k (hA t 0)) (.exit 0) (ouQX (hC t x' g' (rn (styN t) (t.cells.drop k) k none))):=by
 have hlv:(ivsV t).length≤1000000:=by unfold ivsV; rw [List.length_map]; omega
 intro d
 induction d with
 | zero =>
  intro k hd hk
  rw [List.drop_eq_nil_of_le (by omega)]
  exact .inl ⟨rfl,ouA_e t _ _ _ k (by omega) trivial⟩
 | succ d ih =>
  intro k hd hk
  have hlt:k<t.cells.length:=by omega
  have hx:t.cells[k]? = some t.cells[k]:=List.getElem?_eq_getElem hlt
  have hone:t.cells[k].vl.size=1:=h.one _ (List.getElem_mem hlt)
  obtain ⟨r,e1,e2,e3⟩:=set_is t (k:Int) h
  have hI:=piA_all t 0 (ivsV t) t.cells.length k hlv (ivs_st h) _ 0 0 rfl (Nat.zero_le _)
  rw [List.drop_zero,e1] at hI
  have esty:styN t k=bitF r.testBit 16 0:=e3.symm
  rw [List.drop_eq_getElem_cons hlt,rn]
  cases hg:t.cells[k].gn with
  | true =>
   rw [if_pos rfl]
   have hy:=ya_A t 0 (r:Int) k _ hx hg true (hA t 0++[.box [u32 (r:Int)]]) ⟨rfl,rfl⟩
   rcases ih (k+1) (by omega) (by omega) with ⟨q1,q2⟩ | ⟨x',g',nx⟩
   · exact .inl ⟨q1,ouA_n t _ _ _ k _ (by omega) (by omega) hI hy _ _ q2⟩
   · exact .inr ⟨x',g',ouA_n t _ _ _ k _ (by omega) (by omega) hI hy _ _ nx⟩
  | false =>
   rw [if_neg (by decide)]
   rw [esty]
   obtain ⟨x',g',nx⟩:=B_loop t h hc hv d (k+1) (by omega) (by omega) r 0 [] t.cells[k].vl e2 (by simp) (by omega)
   have hy:=yb_A t 0 (r:Int) (bitF r.testBit 16 0) k _ hx hg (bitF_len _ _ _) (list_c r e2) (fun r2=>inA_all t _ _ _ _ (bitF_len _ _ _) r2) true (hA1 t (r:Int) (bitF r.testBit 16 0) t.cells[k]) ⟨rfl,rfl⟩
   exact .inr ⟨x',g',ouA_1 t _ _ _ k _ _ _ (by omega) (by omega) hI hy _ _ (hA1_hB nx)⟩
def renE (t:TE):CV:=if chkT t=0 then renV t else .mk 0 0 .empty []
theorem render_c (t:TE) (hl:LenT t) (hO:OkT t):CallC P G 15 [txt t] [] (.ret (.tup [Cdc.val (renE t),int (chkT t)])) []:=by
 have hk:=check_c t hl hO
 have h1:=hl.cells
 have h2:=hl.marks
 unfold renE
 by_cases h0:chkT t=0
 · rw [if_pos h0,h0]
   rw [h0] at hk
   have hs:=styled_c t (by omega) (by omega)
   rcases A_loop t (chkT_iff.1 h0) (by omega) (by omega) _ 0 rfl (Nat.zero_le _) with ⟨q1,q2⟩ | ⟨x',g',q⟩
   · rw [List.drop_zero] at q1
     have:=ren_A t (ivsV t) hk hs (itA t _ q2 trivial) _ _ ⟨rfl,rfl⟩
     unfold renV
     rw [q1]
     exact this.out (.tup2 (.aggs ⟨Sub.refl _,Sub.refl _,Sub.refl _,Sub.nil 4,trivial⟩) (Sub.refl _))
   · rw [List.drop_zero] at q
     exact ren_C t (ivsV t) x' g' _ hk hs (itC t _ x' g' _ q trivial) _ _ ⟨rfl,rfl⟩
 · rw [if_neg h0]
   have:=ren_a t _ h0 hk _ _ ⟨rfl,rfl⟩
   exact this.out (.tup2 (.aggs ⟨Sub.refl _,Sub.refl _,Sub.refl _,Sub.nil 4,trivial⟩) (Sub.refl _))
end Go.Tx


namespace Go.Tx
open Go Go.Am Go.Proofs Go.Seat
open Go.Sq (CE cel ces ida idv pid fX fiO OkRs chkE)
open Go.Cdc (CV encL)
def stE (l:List ByteArray):List (List AV):=l.map fun s=>[str s]
def alE (l:List (List Int)):List (List AV):=l.map fun x=>[ils x]
theorem stE_length (l:List ByteArray):(stE l).length=l.length:=by simp [stE]
theorem alE_length (l:List (List Int)):(alE l).length=l.length:=by simp [alE]
theorem stE_ids (l:List ByteArray):∀ c∈stE l,AV.idsInL [] c=true:=by
 intro c hc
 obtain ⟨d,_,rfl⟩:=List.mem_map.1 hc
 rfl
theorem alE_ids (l:List (List Int)):∀ c∈alE l,AV.idsInL [] c=true:=by
 intro c hc
 obtain ⟨d,_,rfl⟩:=List.mem_map.1 hc
 rfl
theorem stE_snoc (l:List ByteArray) (s:ByteArray):stE l++[[str s]]=stE (l++[s]):=by simp [stE]
theorem alE_snoc (l:List (List Int)) (x:List Int):alE l++[[ils x]]=alE (l++[x]):=by simp [alE]
abbrev vZ:AObj:=.box [int 0,int 0,str (ByteArray.mk #[]),nilS]
noncomputable def rA (t:TE) (k:Nat):St:={ env:=slots 122 [(1,.ptr 0 0),(2,.ptr 1 0),(5,nilS),(6,nilS),(7,int k)],H:=[sbT t,vZ] }
noncomputable def rAX (t:TE):St:={ env:=slots 122 [(2,.ptr 1 0),(5,nilS),(6,nilS)],H:=[sbT t,vZ] }
noncomputable def rB (t:TE) (k g:Nat) (ts:List ByteArray) (s:ByteArray) (g':Nat) (az:List (List Int)) (ls:List Int):St:={ env:=slots 122 [(1,.ptr 0 0),(2,.ptr 1 0),(5,.own 2 g 0 (ts.length+1)),(6,.own 3 g' 0 (az.length+1)),(7,int k)],H:=[sbT t,vZ,.arr g 1 false (stE ts++[[str s]]),.arr g' 1 false (alE az++[[ils ls]])] }
noncomputable def rBX (t:TE) (g:Nat) (ts:List ByteArray) (g':Nat) (az:List (List Int)):St:={ env:=slots 122 [(2,.ptr 1 0),(5,.own 2 g 0 ts.length),(6,.own 3 g' 0 az.length)],H:=[sbT t,vZ,.arr g 1 false (stE ts),.arr g' 1 false (alE az)] }
theorem xa_e (t:TE) (k:Nat) (hk:¬ (k:Int)<(t.cells.length:Int)) (h:True):RunL P G none 0 (loopAt P 16 0) (rA t k) (AEx.exit 0) (rAX t):=by
 have _:=h
 exact loop_exit [kv 23 (show Am.Sub (int (↑(List.length (Sq.encs (TE.cells t))):Int)) (int (↑(List.length (TE.cells t)):Int)) from (Sub.of_eq (by simp only [Go.Sq.encs_length]))),kf (show decide ((↑k:Int)<(↑(List.length (TE.cells t)):Int))=false from (decide_eq_false (by omega)))] (others 122 [2,5,6]) 2 (by kernel_rfl)
theorem xa_g (t:TE) (k:Nat) (c:CE) (hc:t.cells.length≤1000000) (hk:(k:Int)<(t.cells.length:Int)) (hx:t.cells[k]? = some c) (hg:c.gn=true) (ex:AEx) (s2:St) (h:RunL P G none 0 (loopAt P 16 0) (St.mk (slots 122 [(1,AV.ptr 0 0),(2,AV.ptr 1 0),(5,nilS),(6,nilS),(7,int (↑(k+1):Int))]) [AObj.box [AV.sl 9 false (Sq.encs (TE.cells t)),AV.sl 11 false (encs (TE.marks t))],AObj.box [int 0,int 0,str (ByteArray.mk #[]),nilS]] []) ex s2):RunL P G none 0 (loopAt P 16 0) (rA t k) ex s2:=by
 exact loop_next [kv 23 (show Am.Sub (int (↑(List.length (Sq.encs (TE.cells t))):Int)) (int (↑(List.length (TE.cells t)):Int)) from (Sub.of_eq (by simp only [Go.Sq.encs_length]))),kt (show decide ((↑k:Int)<(↑(List.length (TE.cells t)):Int))=true from (decide_eq_true (by omega))),ko (Orc.elem (Sq.enc c)),kp (show (0:Int)≤(↑k:Int)∧(Sq.encs (TE.cells t))[Int.toNat (↑k:Int)]? = some (Sq.enc c) from (el_nat hx)),kt hg,kv 26 (show Am.Sub (int (IntKind.wrap IntKind.i64 ((↑k:Int)+1))) (int (↑(k+1):Int)) from (Sub.of_wrap (by omega) (by omega) (by omega)))] (others 122 [1,2,5,6,7]) 2 h (by kernel_rfl)
theorem xa_n (t:TE) (k:Nat) (c:CE) (ls:List Int) (hc:t.cells.length≤1000000) (hk:(k:Int)<(t.cells.length:Int)) (hx:t.cells[k]? = some c) (hg:c.gn=false) (hst:CallC P G 38 [txt t,int k] [] (.ret (ils ls)) []) (ex:AEx) (s2:St) (h:RunL P G none 0 (loopAt P 16 0) (St.mk (slots 122 [(1,AV.ptr 0 0),(2,AV.ptr 1 0),(5,AV.own 2 0 0 1),(6,AV.own 3 0 0 1),(7,int (↑(k+1):Int))]) [AObj.box [AV.sl 9 false (Sq.encs (TE.cells t)),AV.sl 11 false (encs (TE.marks t))],AObj.box [int 0,int 0,str (ByteArray.mk #[]),nilS],AObj.arr 0 1 false [[str (CE.vl c)]],AObj.arr 0 1 false [[AV.sl 1 false (Vec.ints ls)]]] []) ex s2):RunL P G none 0 (loopAt P 16 0) (rA t k) ex s2:=by
 have hz2:(0:Int)≤(↑k:Int)∧(Sq.encs (TE.cells t))[Int.toNat (↑k:Int)]? = some (Sq.enc c):=(el_nat hx)
 exact loop_next [kv 23 (show Am.Sub (int (↑(List.length (Sq.encs (TE.cells t))):Int)) (int (↑(List.length (TE.cells t)):Int)) from (Sub.of_eq (by simp only [Go.Sq.encs_length]))),kt (show decide ((↑k:Int)<(↑(List.length (TE.cells t)):Int))=true from (decide_eq_true (by omega))),ko (Orc.elem (Sq.enc c)),kp hz2,kf hg,kc [] (@hst ),kf (Eq.refl false),kf (Eq.refl false),ko (Orc.elem (Sq.enc c)),kp hz2,kp (show [[str (CE.vl c)]]≠[] from (by simp)),kp (show 16≤140737488355328 from (by omega)),kp (show [[AV.sl 1 false (Vec.ints ls)]]≠[] from (by simp)),kp (show 24≤140737488355328 from (by omega)),kv 26 (show Am.Sub (int (IntKind.wrap IntKind.i64 ((↑k:Int)+1))) (int (↑(k+1):Int)) from (Sub.of_wrap (by omega) (by omega) (by omega)))] (others 122 [1,2,5,6,7]) 4 h (by kernel_rfl)
theorem xb_e (t:TE) (k:Nat) (g:Nat) (ts:List ByteArray) (s:ByteArray) (g':Nat) (az:List (List Int)) (l0:List Int) (hk:¬ (k:Int)<(t.cells.length:Int)) (ex:AEx) (s2:St) (h:(AEx.exit 0=ex)∧(St.mk (slots 122 [(2,AV.ptr 1 0),(5,AV.own 2 g 0 (List.length ts+1)),(6,AV.own 3 g' 0 (List.length az+1))]) [AObj.box [AV.sl 9 false (Sq.encs (TE.cells t)),AV.sl 11 false (encs (TE.marks t))],AObj.box [int 0,int 0,str (ByteArray.mk #[]),nilS],AObj.arr g 1 false (stE ts++[[str s]]),AObj.arr g' 1 false (alE az++[[AV.sl 1 false (Vec.ints l0)]])] []=s2)):RunL P G none 0 (loopAt P 16 0) (rB t k g ts s g' az l0) ex s2:=by
 obtain ⟨eX,eS⟩:=h
 exact RunL.to ((show RunL P G none 0 (loopAt P 16 0) (rB t k g ts s g' az l0) (AEx.exit 0) (St.mk (slots 122 [(2,AV.ptr 1 0),(5,AV.own 2 g 0 (List.length ts+1)),(6,AV.own 3 g' 0 (List.length az+1))]) [AObj.box [AV.sl 9 false (Sq.encs (TE.cells t)),AV.sl 11 false (encs (TE.marks t))],AObj.box [int 0,int 0,str (ByteArray.mk #[]),nilS],AObj.arr g 1 false (stE ts++[[str s]]),AObj.arr g' 1 false (alE az++[[AV.sl 1 false (Vec.ints l0)]])] []) from loop_exit [kv 23 (show Am.Sub (int (↑(List.length (Sq.encs (TE.cells t))):Int)) (int (↑(List.length (TE.cells t)):Int)) from (Sub.of_eq (by simp only [Go.Sq.encs_length]))),kf (show decide ((↑k:Int)<(↑(List.length (TE.cells t)):Int))=false from (decide_eq_false (by omega)))] (others 122 [2,5,6]) 4 (by kernel_rfl))) eX (SubS.of_eq eS)
theorem xb_g (t:TE) (k:Nat) (g:Nat) (ts:List ByteArray) (s:ByteArray) (g':Nat) (az:List (List Int)) (l0:List Int) (c:CE) (hc:t.cells.length≤1000000) (hk:(k:Int)<(t.cells.length:Int)) (hx:t.cells[k]? = some c) (hg:c.gn=true) (ex:AEx) (s2:St) (h:RunL P G none 0 (loopAt P 16 0) (St.mk (slots 122 [(1,AV.ptr 0 0),(2,AV.ptr 1 0),(5,AV.own 2 g 0 (List.length ts+1)),(6,AV.own 3 g' 0 (List.length az+1)),(7,int (↑(k+1):Int))]) [AObj.box [AV.sl 9 false (Sq.encs (TE.cells t)),AV.sl 11 false (encs (TE.marks t))],AObj.box [int 0,int 0,str (ByteArray.mk #[]),nilS],AObj.arr g 1 false (stE ts++[[str s]]),AObj.arr g' 1 false (alE az++[[AV.sl 1 false (Vec.ints l0)]])] []) ex s2):RunL P G none 0 (loopAt P 16 0) (rB t k g ts s g' az l0) ex s2:=by
 exact loop_next [kv 23 (show Am.Sub (int (↑(List.length (Sq.encs (TE.cells t))):Int)) (int (↑(List.length (TE.cells t)):Int)) from (Sub.of_eq (by simp only [Go.Sq.encs_length]))),kt (show decide ((↑k:Int)<(↑(List.length (TE.cells t)):Int))=true from (decide_eq_true (by omega))),ko (Orc.elem (Sq.enc c)),kp (show (0:Int)≤(↑k:Int)∧(Sq.encs (TE.cells t))[Int.toNat (↑k:Int)]? = some (Sq.enc c) from (el_nat hx)),kt hg,kv 26 (show Am.Sub (int (IntKind.wrap IntKind.i64 ((↑k:Int)+1))) (int (↑(k+1):Int)) from (Sub.of_wrap (by omega) (by omega) (by omega)))] (others 122 [1,2,5,6,7]) 4 h (by kernel_rfl)
theorem xb_s (t:TE) (k:Nat) (g:Nat) (ts:List ByteArray) (s:ByteArray) (g':Nat) (az:List (List Int)) (l0:List Int) (c:CE) (ls:List Int) (hc:t.cells.length≤1000000) (hk:(k:Int)<(t.cells.length:Int)) (hts:ts.length≤1000000) (has:az.length=ts.length) (hx:t.cells[k]? = some c) (hg:c.gn=false) (hs:s.size+c.vl.size≤9223372036854775807) (hL1:(stE ts++[[str s]])[0+Int.toNat (((ts.length+1:Nat):Int) - 1)]? = some [str s]) (hL2:(alE az++[[ils l0]])[0+Int.toNat (((ts.length+1:Nat):Int) - 1)]? = some [ils l0]) (hst:CallC P G 38 [txt t,int k] [] (.ret (ils ls)) []) (hsl:CallC P G 21 [ils l0,ils ls] [] (.ret (bool true)) []) (ex:AEx) (s2:St) (h:RunL P G none 0 (loopAt P 16 0) (St.mk (slots 122 [(1,AV.ptr 0 0),(2,AV.ptr 1 0),(5,AV.own 2 g 0 (List.length ts+1)),(6,AV.own 3 g' 0 (List.length az+1)),(7,int (↑(k+1):Int))]) [AObj.box [AV.sl 9 false (Sq.encs (TE.cells t)),AV.sl 11 false (encs (TE.marks t))],AObj.box [int 0,int 0,str (ByteArray.mk #[]),nilS],AObj.arr g 1 false (List.set (stE ts++[[str s]]) (0+Int.toNat ((↑(List.length ts+1):Int) - 1)) [str (s++CE.vl c)]),AObj.arr g' 1 false (alE az++[[AV.sl 1 false (Vec.ints l0)]])] []) ex s2):RunL P G none 0 (loopAt P 16 0) (rB t k g ts s g' az l0) ex s2:=by
 have hz2:(0:Int)≤(↑k:Int)∧(Sq.encs (TE.cells t))[Int.toNat (↑k:Int)]? = some (Sq.enc c):=(el_nat hx)
 have hz4:g=g:=(rfl)
 have hz6:Am.Sub (int (IntKind.wrap IntKind.i64 ((↑(List.length ts+1):Int) - 1))) (int ((↑(List.length ts+1):Int) - 1)):=(Sub.of_wrap (by omega) (by omega) rfl)
 have hz7:g'=g':=(rfl)
 have hz10:(0:Int)≤(↑(List.length ts+1):Int) - 1∧(↑(List.length ts+1):Int) - 1<(↑(List.length ts+1):Int):=(by omega)
 exact loop_next [kv 23 (show Am.Sub (int (↑(List.length (Sq.encs (TE.cells t))):Int)) (int (↑(List.length (TE.cells t)):Int)) from (Sub.of_eq (by simp only [Go.Sq.encs_length]))),kt (show decide ((↑k:Int)<(↑(List.length (TE.cells t)):Int))=true from (decide_eq_true (by omega))),ko (Orc.elem (Sq.enc c)),kp hz2,kf hg,kc [] (@hst ),kp hz4,kt (show decide ((↑(List.length ts+1):Int) > (0:Int))=true from (decide_eq_true (by omega))),kv 43 hz6,ko (Orc.elem [ils l0]),kp hz7,kp (show (0:Int)≤(↑(List.length ts+1):Int) - 1∧(↑(List.length ts+1):Int) - 1<(↑(List.length az+1):Int) from (by omega)),kp hz7,kp hL2,kc [] (@hsl ),kt (Eq.refl true),kv 51 hz6,kv 54 hz6,ko (Orc.elem [str s]),ko (Orc.elem (Sq.enc c)),ko (Orc.elem [str s]),kp hz4,kp hz10,kp hz4,kp hL1,kp hz2,kp (show (↑(ByteArray.size s+ByteArray.size (CE.vl c)):Int)≤(9223372036854775807:Int) from (by omega)),kp hz4,kp hz10,kp hz4,kp hL1,kv 26 (show Am.Sub (int (IntKind.wrap IntKind.i64 ((↑k:Int)+1))) (int (↑(k+1):Int)) from (Sub.of_wrap (by omega) (by omega) (by omega)))] (others 122 [1,2,5,6,7]) 4 h (by kernel_rfl)
theorem xb_d (t:TE) (k:Nat) (g:Nat) (ts:List ByteArray) (s:ByteArray) (g':Nat) (az:List (List Int)) (l0:List Int) (c:CE) (ls:List Int) (hc:t.cells.length≤1000000) (hk:(k:Int)<(t.cells.length:Int)) (hts:ts.length≤1000000) (has:az.length=ts.length) (hx:t.cells[k]? = some c) (hg:c.gn=false) (hL2:(alE az++[[ils l0]])[0+Int.toNat (((ts.length+1:Nat):Int) - 1)]? = some [ils l0]) (hst:CallC P G 38 [txt t,int k] [] (.ret (ils ls)) []) (hsl:CallC P G 21 [ils l0,ils ls] [] (.ret (bool false)) []) (ex:AEx) (s2:St) (h:RunL P G none 0 (loopAt P 16 0) (St.mk (slots 122 [(1,AV.ptr 0 0),(2,AV.ptr 1 0),(5,AV.own 2 (g+1) 0 (List.length ts+1+1)),(6,AV.own 3 (g'+1) 0 (List.length az+1+1)),(7,int (↑(k+1):Int))]) [AObj.box [AV.sl 9 false (Sq.encs (TE.cells t)),AV.sl 11 false (encs (TE.marks t))],AObj.box [int 0,int 0,str (ByteArray.mk #[]),nilS],AObj.arr (g+1) 1 false (stE ts++[[str s]]++[[str (CE.vl c)]]),AObj.arr (g'+1) 1 false (alE az++[[AV.sl 1 false (Vec.ints l0)]]++[[AV.sl 1 false (Vec.ints ls)]])] []) ex s2):RunL P G none 0 (loopAt P 16 0) (rB t k g ts s g' az l0) ex s2:=by
 have hz2:(0:Int)≤(↑k:Int)∧(Sq.encs (TE.cells t))[Int.toNat (↑k:Int)]? = some (Sq.enc c):=(el_nat hx)
 have hz4:g=g:=(rfl)
 have hz7:g'=g':=(rfl)
 exact loop_next [kv 23 (show Am.Sub (int (↑(List.length (Sq.encs (TE.cells t))):Int)) (int (↑(List.length (TE.cells t)):Int)) from (Sub.of_eq (by simp only [Go.Sq.encs_length]))),kt (show decide ((↑k:Int)<(↑(List.length (TE.cells t)):Int))=true from (decide_eq_true (by omega))),ko (Orc.elem (Sq.enc c)),kp hz2,kf hg,kc [] (@hst ),kp hz4,kt (show decide ((↑(List.length ts+1):Int) > (0:Int))=true from (decide_eq_true (by omega))),kv 43 (show Am.Sub (int (IntKind.wrap IntKind.i64 ((↑(List.length ts+1):Int) - 1))) (int ((↑(List.length ts+1):Int) - 1)) from (Sub.of_wrap (by omega) (by omega) rfl)),ko (Orc.elem [ils l0]),kp hz7,kp (show (0:Int)≤(↑(List.length ts+1):Int) - 1∧(↑(List.length ts+1):Int) - 1<(↑(List.length az+1):Int) from (by omega)),kp hz7,kp hL2,kc [] (@hsl ),kf (Eq.refl false),ko (Orc.elem (Sq.enc c)),kp hz2,kp hz4,kp (show List.length ts+1=List.length (stE ts++[[str s]]) from (by simp only [List.length_append,List.length_cons,List.length_nil,List.length_map,Go.Tx.stE_length,Go.Tx.alE_length,Go.Tx.stE_ids,Go.Tx.alE_ids]<;>omega)),kp (show (List.length ts+1+1) * 16≤140737488355328 from (by omega)),kp hz7,kp (show List.length az+1=List.length (alE az++[[AV.sl 1 false (Vec.ints l0)]]) from (by simp only [List.length_append,List.length_cons,List.length_nil,List.length_map,Go.Tx.stE_length,Go.Tx.alE_length,Go.Tx.stE_ids,Go.Tx.alE_ids]<;>omega)),kp (show (List.length az+1+1) * 24≤140737488355328 from (by omega)),kv 26 (show Am.Sub (int (IntKind.wrap IntKind.i64 ((↑k:Int)+1))) (int (↑(k+1):Int)) from (Sub.of_wrap (by omega) (by omega) (by omega)))] (others 122 [1,2,5,6,7]) 4 h (by kernel_rfl)
noncomputable def rH (t:TE) (g:Nat) (ts:List ByteArray) (g':Nat) (az:List (List Int)):List AObj:=[sbT t,vZ,.arr g 1 false (stE ts),.arr g' 1 false (alE az)]
abbrev wB (L:AV):AObj:=.box [int 3,int 0,str (ByteArray.mk #[]),L]
noncomputable def rC (t:TE) (g:Nat) (ts:List ByteArray) (g':Nat) (az:List (List Int)) (i:Nat) (L:AV) (K:List AObj):St:={ env:=slots 122 [(2,.ptr 1 0),(5,.own 2 g 0 ts.length),(6,.own 3 g' 0 az.length),(10,.ptr 4 0),(11,int i)],H:=rH t g ts g' az++[wB L]++K }
noncomputable def rCX (t:TE) (g:Nat) (ts:List ByteArray) (g':Nat) (az:List (List Int)) (L:AV) (K:List AObj):St:={ env:=slots 122 [(2,.ptr 1 0),(10,.ptr 4 0)],H:=rH t g ts g' az++[wB L]++K }
noncomputable def rD (t:TE) (g:Nat) (ts:List ByteArray) (g':Nat) (az:List (List Int)) (i:Nat) (Lw:AV) (K:List AObj) (lb:Nat) (L:AV) (k:Nat) (K2:List AObj):St:={ env:=slots 122 [(2,.ptr 1 0),(5,.own 2 g 0 ts.length),(6,.own 3 g' 0 az.length),(10,.ptr 4 0),(11,int i),(12,.ptr lb 0),(13,int k)],H:=rH t g ts g' az++[wB Lw]++K++[wB L]++K2 }
noncomputable def rDX (t:TE) (g:Nat) (ts:List ByteArray) (g':Nat) (az:List (List Int)) (i:Nat) (Lw:AV) (K:List AObj) (lb:Nat) (L:AV) (K2:List AObj):St:={ env:=slots 122 [(2,.ptr 1 0),(5,.own 2 g 0 ts.length),(6,.own 3 g' 0 az.length),(10,.ptr 4 0),(11,int i),(12,.ptr lb 0)],H:=rH t g ts g' az++[wB Lw]++K++[wB L]++K2 }
theorem dP_0 (t:TE) (g:Nat) (ts:List ByteArray) (g':Nat) (az:List (List Int)) (i:Nat) (ls:List Int) (x:Int) (hA:az[0+Int.toNat (i:Int)]? = some ls) (hi:i<ts.length) (has:az.length=ts.length) (hts:ts.length≤1000000) (hl:ls.length≤16) (hx:ls[0]? = some x) (ex:AEx) (s2:St) (h:((((0:Int)<(↑(List.length ls):Int))→RunL P G none 0 (loopAt P 16 2) (St.mk (slots 122 [(2,AV.ptr 1 0),(5,AV.own 2 g 0 (List.length ts)),(6,AV.own 3 g' 0 (List.length az)),(10,AV.ptr 4 0),(11,int (↑i:Int)),(12,AV.ptr 5 0),(13,int 1)]) [AObj.box [AV.sl 9 false (Sq.encs (TE.cells t)),AV.sl 11 false (encs (TE.marks t))],AObj.box [int 0,int 0,str (ByteArray.mk #[]),nilS],AObj.arr g 1 false (stE ts),AObj.arr g' 1 false (alE az),AObj.box [int 3,int 0,str (ByteArray.mk #[]),nilS],AObj.box [int 3,int 0,str (ByteArray.mk #[]),AV.own 6 0 0 1],AObj.arr 0 4 false [[int 1,int x,str (ByteArray.mk #[]),nilS]]] []) ex s2)∧((¬(0:Int)<(↑(List.length ls):Int))→(AEx.exit 4=ex)∧(St.mk (slots 122 []) [AObj.box [AV.sl 9 false (Sq.encs (TE.cells t)),AV.sl 11 false (encs (TE.marks t))],AObj.box [int 0,int 0,str (ByteArray.mk #[]),nilS],AObj.arr g 1 false (stE ts),AObj.arr g' 1 false (alE az),AObj.box [int 3,int 0,str (ByteArray.mk #[]),nilS],AObj.box [int 3,int 0,str (ByteArray.mk #[]),nilS]] []=s2)))):RunL P G none 0 (loopAt P 16 2) (rD t g ts g' az i nilS [] 5 nilS 0 []) ex s2:=by
 have hz0:g'=g':=(rfl)
 have hz1:(0:Int)≤(↑i:Int)∧(↑i:Int)<(↑(List.length az):Int):=(by omega)
 have hz2:(alE az)[0+Int.toNat (↑i:Int)]? = some [ils ls]:=(el_get hA)
 have hz3:Am.Sub (int (↑(List.length (Vec.ints ls)):Int)) (int (↑(List.length ls):Int)):=(Sub.of_eq (by simp only [Go.Vec.ints_length]))
 by_cases c1:((0:Int)<(↑(List.length ls):Int))
 · have h:=h.1 c1
   exact loop_next [ko (Orc.elem [ils ls]),kp hz0,kp hz1,kp hz0,kp hz2,kv 91 hz3,kt (decide_eq_true c1),ko (Orc.elem [ils ls]),ko (Orc.elem (Vec.enc1 x)),kp hz0,kp hz1,kp hz0,kp hz2,kp (show (0:Int)≤(0:Int)∧(Vec.ints ls)[Int.toNat (↑0:Int)]? = some (Vec.enc1 x) from (el_nat hx)),kp (show [[int 1,int x,str (ByteArray.mk #[]),nilS]]≠[] from (by simp)),kp (show 56≤140737488355328 from (by omega))] (others 122 [2,5,6,10,11,12,13]) 7 h (by kernel_rfl)
 · have h:=h.2 c1
   obtain ⟨eX,eS⟩:=h
   exact RunL.to ((show RunL P G none 0 (loopAt P 16 2) (rD t g ts g' az i nilS [] 5 nilS 0 []) (AEx.exit 4) (St.mk (slots 122 []) [AObj.box [AV.sl 9 false (Sq.encs (TE.cells t)),AV.sl 11 false (encs (TE.marks t))],AObj.box [int 0,int 0,str (ByteArray.mk #[]),nilS],AObj.arr g 1 false (stE ts),AObj.arr g' 1 false (alE az),AObj.box [int 3,int 0,str (ByteArray.mk #[]),nilS],AObj.box [int 3,int 0,str (ByteArray.mk #[]),nilS]] []) from loop_exit [ko (Orc.elem [ils ls]),kp hz0,kp hz1,kp hz0,kp hz2,kv 91 hz3,kf (decide_eq_false c1)] (others 122 []) 6 (by kernel_rfl))) eX (SubS.of_eq eS)
theorem dP_z (t:TE) (g:Nat) (ts:List ByteArray) (g':Nat) (az:List (List Int)) (i:Nat) (ls:List Int) (hA:az[0+Int.toNat (i:Int)]? = some ls) (hi:i<ts.length) (has:az.length=ts.length) (hts:ts.length≤1000000) (hl:ls.length≤16) (hx:ls.length=0) (h:True):RunL P G none 0 (loopAt P 16 2) (rD t g ts g' az i nilS [] 5 nilS 0 []) (AEx.exit 4) (rDX t g ts g' az i nilS [] 5 nilS []):=by
 have hz0:g'=g':=(rfl)
 have _:=h
 exact loop_exit [ko (Orc.elem [ils ls]),kp hz0,kp (show (0:Int)≤(↑i:Int)∧(↑i:Int)<(↑(List.length az):Int) from (by omega)),kp hz0,kp (show (alE az)[0+Int.toNat (↑i:Int)]? = some [ils ls] from (el_get hA)),kv 91 (show Am.Sub (int (↑(List.length (Vec.ints ls)):Int)) (int (↑(List.length ls):Int)) from (Sub.of_eq (by simp only [Go.Vec.ints_length]))),kf (show decide ((↑0:Int)<(↑(List.length ls):Int))=false from (decide_eq_false (by omega)))] (others 122 [2,5,6,10,11,12]) 6 (by kernel_rfl)
theorem dP_n (t:TE) (g:Nat) (ts:List ByteArray) (g':Nat) (az:List (List Int)) (i:Nat) (ls:List Int) (k:Nat) (x:Int) (g3:Nat) (z:List CV) (hA:az[0+Int.toNat (i:Int)]? = some ls) (hi:i<ts.length) (has:az.length=ts.length) (hts:ts.length≤1000000) (hl:ls.length≤16) (hz:z.length≤16) (hk:k<ls.length) (hx:ls[k]? = some x) (ex:AEx) (s2:St) (h:RunL P G none 0 (loopAt P 16 2) (St.mk (slots 122 [(2,AV.ptr 1 0),(5,AV.own 2 g 0 (List.length ts)),(6,AV.own 3 g' 0 (List.length az)),(10,AV.ptr 4 0),(11,int (↑i:Int)),(12,AV.ptr 5 0),(13,int (↑(k+1):Int))]) [AObj.box [AV.sl 9 false (Sq.encs (TE.cells t)),AV.sl 11 false (encs (TE.marks t))],AObj.box [int 0,int 0,str (ByteArray.mk #[]),nilS],AObj.arr g 1 false (stE ts),AObj.arr g' 1 false (alE az),AObj.box [int 3,int 0,str (ByteArray.mk #[]),nilS],AObj.box [int 3,int 0,str (ByteArray.mk #[]),AV.own 6 (g3+1) 0 (List.length z+1)],AObj.arr (g3+1) 4 false (encL z++[[int 1,int x,str (ByteArray.mk #[]),nilS]])] []) ex s2):RunL P G none 0 (loopAt P 16 2) (rD t g ts g' az i nilS [] 5 (AV.own 6 g3 0 (List.length z)) k [AObj.arr g3 4 false (encL z)]) ex s2:=by
 have hz0:g'=g':=(rfl)
 have hz1:(0:Int)≤(↑i:Int)∧(↑i:Int)<(↑(List.length az):Int):=(by omega)
 have hz2:(alE az)[0+Int.toNat (↑i:Int)]? = some [ils ls]:=(el_get hA)
 exact loop_next [ko (Orc.elem [ils ls]),kp hz0,kp hz1,kp hz0,kp hz2,kv 91 (show Am.Sub (int (↑(List.length (Vec.ints ls)):Int)) (int (↑(List.length ls):Int)) from (Sub.of_eq (by simp only [Go.Vec.ints_length]))),kt (show decide ((↑k:Int)<(↑(List.length ls):Int))=true from (decide_eq_true (by omega))),ko (Orc.elem [ils ls]),ko (Orc.elem (Vec.enc1 x)),kp hz0,kp hz1,kp hz0,kp hz2,kp (show (0:Int)≤(↑k:Int)∧(Vec.ints ls)[Int.toNat (↑k:Int)]? = some (Vec.enc1 x) from (el_nat hx)),kp (show g3=g3 from (rfl)),kp (show List.length z=List.length (encL z) from ((Go.Cdc.encL_length _).symm)),kp (show (List.length z+1) * 56≤140737488355328 from (by omega)),kv 94 (show Am.Sub (int (IntKind.wrap IntKind.i64 ((↑k:Int)+1))) (int (↑(k+1):Int)) from (Sub.of_wrap (by omega) (by omega) (by omega)))] (others 122 [2,5,6,10,11,12,13]) 7 h (by kernel_rfl)
theorem dP_e (t:TE) (g:Nat) (ts:List ByteArray) (g':Nat) (az:List (List Int)) (i:Nat) (ls:List Int) (k:Nat) (g3:Nat) (z:List CV) (hA:az[0+Int.toNat (i:Int)]? = some ls) (hi:i<ts.length) (has:az.length=ts.length) (hts:ts.length≤1000000) (hl:ls.length≤16) (hk:ls.length≤k) (h:True):RunL P G none 0 (loopAt P 16 2) (rD t g ts g' az i nilS [] 5 (AV.own 6 g3 0 (List.length z)) k [AObj.arr g3 4 false (encL z)]) (AEx.exit 4) (rDX t g ts g' az i nilS [] 5 (AV.own 6 g3 0 (List.length z)) [AObj.arr g3 4 false (encL z)]):=by
 have hz0:g'=g':=(rfl)
 have _:=h
 exact loop_exit [ko (Orc.elem [ils ls]),kp hz0,kp (show (0:Int)≤(↑i:Int)∧(↑i:Int)<(↑(List.length az):Int) from (by omega)),kp hz0,kp (show (alE az)[0+Int.toNat (↑i:Int)]? = some [ils ls] from (el_get hA)),kv 91 (show Am.Sub (int (↑(List.length (Vec.ints ls)):Int)) (int (↑(List.length ls):Int)) from (Sub.of_eq (by simp only [Go.Vec.ints_length]))),kf (show decide ((↑k:Int)<(↑(List.length ls):Int))=false from (decide_eq_false (by omega)))] (others 122 [2,5,6,10,11,12]) 7 (by kernel_rfl)
theorem cP_n (t:TE) (g:Nat) (ts:List ByteArray) (g':Nat) (az:List (List Int)) (i:Nat) (ls:List Int) (s:ByteArray) (hS:ts[0+Int.toNat (i:Int)]? = some s) (hi:i<ts.length) (hts:ts.length≤1000000) (hI:RunL P G none 0 (loopAt P 16 2) (rD t g ts g' az i nilS [] 5 nilS 0 []) (.exit 4) (rDX t g ts g' az i nilS [] 5 (.sl 4 false (encL (ls.map iV))) [])) (ex:AEx) (s2:St) (h:RunL P G none 0 (loopAt P 16 1) (St.mk (slots 122 [(2,AV.ptr 1 0),(5,AV.own 2 g 0 (List.length ts)),(6,AV.own 3 g' 0 (List.length az)),(10,AV.ptr 4 0),(11,int (↑(i+1):Int))]) [AObj.box [AV.sl 9 false (Sq.encs (TE.cells t)),AV.sl 11 false (encs (TE.marks t))],AObj.box [int 0,int 0,str (ByteArray.mk #[]),nilS],AObj.arr g 1 false (stE ts),AObj.arr g' 1 false (alE az),AObj.box [int 3,int 0,str (ByteArray.mk #[]),AV.own 6 0 0 1],AObj.box [int 3,int 0,str (ByteArray.mk #[]),AV.sl 4 false (encL (List.map iV ls))],AObj.arr 0 4 false [[int 3,int 0,str (ByteArray.mk #[]),AV.sl 4 true [[int 2,int 0,str s,nilS],[int 3,int 0,str (ByteArray.mk #[]),AV.sl 4 false (encL (List.map iV ls))]]]]] []) ex s2):RunL P G none 0 (loopAt P 16 1) (rC t g ts g' az i nilS []) ex s2:=by
 have hz0:g=g:=(rfl)
 exact loop_next [kp hz0,kt (show decide ((↑i:Int)<(↑(List.length ts):Int))=true from (decide_eq_true (by omega))),kl [79,80,81,82,85] 6 (@hI ),ko (Orc.elem [str s]),kp hz0,kp (show (0:Int)≤(↑i:Int)∧(↑i:Int)<(↑(List.length ts):Int) from (by omega)),kp hz0,kp (show (stE ts)[0+Int.toNat (↑i:Int)]? = some [str s] from (el_get hS)),kp (show [[int 3,int 0,str (ByteArray.mk #[]),AV.sl 4 true [[int 2,int 0,str s,nilS],[int 3,int 0,str (ByteArray.mk #[]),AV.sl 4 false (encL (List.map iV ls))]]]]≠[] from (by simp)),kp (show 56≤140737488355328 from (by omega)),kv 84 (show Am.Sub (int (IntKind.wrap IntKind.i64 ((↑i:Int)+1))) (int (↑(i+1):Int)) from (Sub.of_wrap (by omega) (by omega) (by omega)))] (others 122 [2,5,6,10,11]) 7 h (by kernel_rfl)
theorem dQ_0 (t:TE) (g:Nat) (ts:List ByteArray) (g':Nat) (az:List (List Int)) (i:Nat) (g2:Nat) (rs:List CV) (ls:List Int) (x:Int) (hA:az[0+Int.toNat (i:Int)]? = some ls) (hi:i<ts.length) (has:az.length=ts.length) (hts:ts.length≤1000000) (hl:ls.length≤16) (hx:ls[0]? = some x) (ex:AEx) (s2:St) (h:((((0:Int)<(↑(List.length ls):Int))→RunL P G none 0 (loopAt P 16 2) (St.mk (slots 122 [(2,AV.ptr 1 0),(5,AV.own 2 g 0 (List.length ts)),(6,AV.own 3 g' 0 (List.length az)),(10,AV.ptr 4 0),(11,int (↑i:Int)),(12,AV.ptr 6 0),(13,int 1)]) [AObj.box [AV.sl 9 false (Sq.encs (TE.cells t)),AV.sl 11 false (encs (TE.marks t))],AObj.box [int 0,int 0,str (ByteArray.mk #[]),nilS],AObj.arr g 1 false (stE ts),AObj.arr g' 1 false (alE az),AObj.box [int 3,int 0,str (ByteArray.mk #[]),AV.own 5 g2 0 (List.length rs)],AObj.arr g2 4 false (encL rs),AObj.box [int 3,int 0,str (ByteArray.mk #[]),AV.own 7 0 0 1],AObj.arr 0 4 false [[int 1,int x,str (ByteArray.mk #[]),nilS]]] []) ex s2)∧((¬(0:Int)<(↑(List.length ls):Int))→(AEx.exit 4=ex)∧(St.mk (slots 122 []) [AObj.box [AV.sl 9 false (Sq.encs (TE.cells t)),AV.sl 11 false (encs (TE.marks t))],AObj.box [int 0,int 0,str (ByteArray.mk #[]),nilS],AObj.arr g 1 false (stE ts),AObj.arr g' 1 false (alE az),AObj.box [int 3,int 0,str (ByteArray.mk #[]),AV.own 5 g2 0 (List.length rs)],AObj.arr g2 4 false (encL rs),AObj.box [int 3,int 0,str (ByteArray.mk #[]),nilS]] []=s2)))):RunL P G none 0 (loopAt P 16 2) (rD t g ts g' az i (AV.own 5 g2 0 (List.length rs)) [AObj.arr g2 4 false (encL rs)] 6 nilS 0 []) ex s2:=by
 have hz0:g'=g':=(rfl)
 have hz1:(0:Int)≤(↑i:Int)∧(↑i:Int)<(↑(List.length az):Int):=(by omega)
 have hz2:(alE az)[0+Int.toNat (↑i:Int)]? = some [ils ls]:=(el_get hA)
 have hz3:Am.Sub (int (↑(List.length (Vec.ints ls)):Int)) (int (↑(List.length ls):Int)):=(Sub.of_eq (by simp only [Go.Vec.ints_length]))
 by_cases c1:((0:Int)<(↑(List.length ls):Int))
 · have h:=h.1 c1
   exact loop_next [ko (Orc.elem [ils ls]),kp hz0,kp hz1,kp hz0,kp hz2,kv 91 hz3,kt (decide_eq_true c1),ko (Orc.elem [ils ls]),ko (Orc.elem (Vec.enc1 x)),kp hz0,kp hz1,kp hz0,kp hz2,kp (show (0:Int)≤(0:Int)∧(Vec.ints ls)[Int.toNat (↑0:Int)]? = some (Vec.enc1 x) from (el_nat hx)),kp (show [[int 1,int x,str (ByteArray.mk #[]),nilS]]≠[] from (by simp)),kp (show 56≤140737488355328 from (by omega))] (others 122 [2,5,6,10,11,12,13]) 8 h (by kernel_rfl)
 · have h:=h.2 c1
   obtain ⟨eX,eS⟩:=h
   exact RunL.to ((show RunL P G none 0 (loopAt P 16 2) (rD t g ts g' az i (AV.own 5 g2 0 (List.length rs)) [AObj.arr g2 4 false (encL rs)] 6 nilS 0 []) (AEx.exit 4) (St.mk (slots 122 []) [AObj.box [AV.sl 9 false (Sq.encs (TE.cells t)),AV.sl 11 false (encs (TE.marks t))],AObj.box [int 0,int 0,str (ByteArray.mk #[]),nilS],AObj.arr g 1 false (stE ts),AObj.arr g' 1 false (alE az),AObj.box [int 3,int 0,str (ByteArray.mk #[]),AV.own 5 g2 0 (List.length rs)],AObj.arr g2 4 false (encL rs),AObj.box [int 3,int 0,str (ByteArray.mk #[]),nilS]] []) from loop_exit [ko (Orc.elem [ils ls]),kp hz0,kp hz1,kp hz0,kp hz2,kv 91 hz3,kf (decide_eq_false c1)] (others 122 []) 7 (by kernel_rfl))) eX (SubS.of_eq eS)
theorem dQ_z (t:TE) (g:Nat) (ts:List ByteArray) (g':Nat) (az:List (List Int)) (i:Nat) (g2:Nat) (rs:List CV) (ls:List Int) (hA:az[0+Int.toNat (i:Int)]? = some ls) (hi:i<ts.length) (has:az.length=ts.length) (hts:ts.length≤1000000) (hl:ls.length≤16) (hx:ls.length=0) (h:True):RunL P G none 0 (loopAt P 16 2) (rD t g ts g' az i (AV.own 5 g2 0 (List.length rs)) [AObj.arr g2 4 false (encL rs)] 6 nilS 0 []) (AEx.exit 4) (rDX t g ts g' az i (AV.own 5 g2 0 (List.length rs)) [AObj.arr g2 4 false (encL rs)] 6 nilS []):=by
 have hz0:g'=g':=(rfl)
 have _:=h
 exact loop_exit [ko (Orc.elem [ils ls]),kp hz0,kp (show (0:Int)≤(↑i:Int)∧(↑i:Int)<(↑(List.length az):Int) from (by omega)),kp hz0,kp (show (alE az)[0+Int.toNat (↑i:Int)]? = some [ils ls] from (el_get hA)),kv 91 (show Am.Sub (int (↑(List.length (Vec.ints ls)):Int)) (int (↑(List.length ls):Int)) from (Sub.of_eq (by simp only [Go.Vec.ints_length]))),kf (show decide ((↑0:Int)<(↑(List.length ls):Int))=false from (decide_eq_false (by omega)))] (others 122 [2,5,6,10,11,12]) 7 (by kernel_rfl)
theorem dQ_n (t:TE) (g:Nat) (ts:List ByteArray) (g':Nat) (az:List (List Int)) (i:Nat) (g2:Nat) (rs:List CV) (ls:List Int) (k:Nat) (x:Int) (g3:Nat) (z:List CV) (hA:az[0+Int.toNat (i:Int)]? = some ls) (hi:i<ts.length) (has:az.length=ts.length) (hts:ts.length≤1000000) (hl:ls.length≤16) (hz:z.length≤16) (hk:k<ls.length) (hx:ls[k]? = some x) (ex:AEx) (s2:St) (h:RunL P G none 0 (loopAt P 16 2) (St.mk (slots 122 [(2,AV.ptr 1 0),(5,AV.own 2 g 0 (List.length ts)),(6,AV.own 3 g' 0 (List.length az)),(10,AV.ptr 4 0),(11,int (↑i:Int)),(12,AV.ptr 6 0),(13,int (↑(k+1):Int))]) [AObj.box [AV.sl 9 false (Sq.encs (TE.cells t)),AV.sl 11 false (encs (TE.marks t))],AObj.box [int 0,int 0,str (ByteArray.mk #[]),nilS],AObj.arr g 1 false (stE ts),AObj.arr g' 1 false (alE az),AObj.box [int 3,int 0,str (ByteArray.mk #[]),AV.own 5 g2 0 (List.length rs)],AObj.arr g2 4 false (encL rs),AObj.box [int 3,int 0,str (ByteArray.mk #[]),AV.own 7 (g3+1) 0 (List.length z+1)],AObj.arr (g3+1) 4 false (encL z++[[int 1,int x,str (ByteArray.mk #[]),nilS]])] []) ex s2):RunL P G none 0 (loopAt P 16 2) (rD t g ts g' az i (AV.own 5 g2 0 (List.length rs)) [AObj.arr g2 4 false (encL rs)] 6 (AV.own 7 g3 0 (List.length z)) k [AObj.arr g3 4 false (encL z)]) ex s2:=by
 have hz0:g'=g':=(rfl)
 have hz1:(0:Int)≤(↑i:Int)∧(↑i:Int)<(↑(List.length az):Int):=(by omega)
 have hz2:(alE az)[0+Int.toNat (↑i:Int)]? = some [ils ls]:=(el_get hA)
 exact loop_next [ko (Orc.elem [ils ls]),kp hz0,kp hz1,kp hz0,kp hz2,kv 91 (show Am.Sub (int (↑(List.length (Vec.ints ls)):Int)) (int (↑(List.length ls):Int)) from (Sub.of_eq (by simp only [Go.Vec.ints_length]))),kt (show decide ((↑k:Int)<(↑(List.length ls):Int))=true from (decide_eq_true (by omega))),ko (Orc.elem [ils ls]),ko (Orc.elem (Vec.enc1 x)),kp hz0,kp hz1,kp hz0,kp hz2,kp (show (0:Int)≤(↑k:Int)∧(Vec.ints ls)[Int.toNat (↑k:Int)]? = some (Vec.enc1 x) from (el_nat hx)),kp (show g3=g3 from (rfl)),kp (show List.length z=List.length (encL z) from ((Go.Cdc.encL_length _).symm)),kp (show (List.length z+1) * 56≤140737488355328 from (by omega)),kv 94 (show Am.Sub (int (IntKind.wrap IntKind.i64 ((↑k:Int)+1))) (int (↑(k+1):Int)) from (Sub.of_wrap (by omega) (by omega) (by omega)))] (others 122 [2,5,6,10,11,12,13]) 8 h (by kernel_rfl)
theorem dQ_e (t:TE) (g:Nat) (ts:List ByteArray) (g':Nat) (az:List (List Int)) (i:Nat) (g2:Nat) (rs:List CV) (ls:List Int) (k:Nat) (g3:Nat) (z:List CV) (hA:az[0+Int.toNat (i:Int)]? = some ls) (hi:i<ts.length) (has:az.length=ts.length) (hts:ts.length≤1000000) (hl:ls.length≤16) (hk:ls.length≤k) (h:True):RunL P G none 0 (loopAt P 16 2) (rD t g ts g' az i (AV.own 5 g2 0 (List.length rs)) [AObj.arr g2 4 false (encL rs)] 6 (AV.own 7 g3 0 (List.length z)) k [AObj.arr g3 4 false (encL z)]) (AEx.exit 4) (rDX t g ts g' az i (AV.own 5 g2 0 (List.length rs)) [AObj.arr g2 4 false (encL rs)] 6 (AV.own 7 g3 0 (List.length z)) [AObj.arr g3 4 false (encL z)]):=by
 have hz0:g'=g':=(rfl)
 have _:=h
 exact loop_exit [ko (Orc.elem [ils ls]),kp hz0,kp (show (0:Int)≤(↑i:Int)∧(↑i:Int)<(↑(List.length az):Int) from (by omega)),kp hz0,kp (show (alE az)[0+Int.toNat (↑i:Int)]? = some [ils ls] from (el_get hA)),kv 91 (show Am.Sub (int (↑(List.length (Vec.ints ls)):Int)) (int (↑(List.length ls):Int)) from (Sub.of_eq (by simp only [Go.Vec.ints_length]))),kf (show decide ((↑k:Int)<(↑(List.length ls):Int))=false from (decide_eq_false (by omega)))] (others 122 [2,5,6,10,11,12]) 8 (by kernel_rfl)
theorem cQ_n (t:TE) (g:Nat) (ts:List ByteArray) (g':Nat) (az:List (List Int)) (i:Nat) (g2:Nat) (rs:List CV) (ls:List Int) (s:ByteArray) (hS:ts[0+Int.toNat (i:Int)]? = some s) (hi:i<ts.length) (hts:ts.length≤1000000) (hr:rs.length≤1000000) (hI:RunL P G none 0 (loopAt P 16 2) (rD t g ts g' az i (.own 5 g2 0 rs.length) [.arr g2 4 false (encL rs)] 6 nilS 0 []) (.exit 4) (rDX t g ts g' az i (.own 5 g2 0 rs.length) [.arr g2 4 false (encL rs)] 6 (.sl 4 false (encL (ls.map iV))) [])) (ex:AEx) (s2:St) (h:RunL P G none 0 (loopAt P 16 1) (St.mk (slots 122 [(2,AV.ptr 1 0),(5,AV.own 2 g 0 (List.length ts)),(6,AV.own 3 g' 0 (List.length az)),(10,AV.ptr 4 0),(11,int (↑(i+1):Int))]) [AObj.box [AV.sl 9 false (Sq.encs (TE.cells t)),AV.sl 11 false (encs (TE.marks t))],AObj.box [int 0,int 0,str (ByteArray.mk #[]),nilS],AObj.arr g 1 false (stE ts),AObj.arr g' 1 false (alE az),AObj.box [int 3,int 0,str (ByteArray.mk #[]),AV.own 5 (g2+1) 0 (List.length rs+1)],AObj.arr (g2+1) 4 false (encL rs++[[int 3,int 0,str (ByteArray.mk #[]),AV.sl 4 true [[int 2,int 0,str s,nilS],[int 3,int 0,str (ByteArray.mk #[]),AV.sl 4 false (encL (List.map iV ls))]]]])] []) ex s2):RunL P G none 0 (loopAt P 16 1) (rC t g ts g' az i (AV.own 5 g2 0 (List.length rs)) [AObj.arr g2 4 false (encL rs)]) ex s2:=by
 have hz0:g=g:=(rfl)
 exact loop_next [kp hz0,kt (show decide ((↑i:Int)<(↑(List.length ts):Int))=true from (decide_eq_true (by omega))),kl [79,80,81,82,85] 7 (@hI ),ko (Orc.elem [str s]),kp hz0,kp (show (0:Int)≤(↑i:Int)∧(↑i:Int)<(↑(List.length ts):Int) from (by omega)),kp hz0,kp (show (stE ts)[0+Int.toNat (↑i:Int)]? = some [str s] from (el_get hS)),kp (show g2=g2 from (rfl)),kp (show List.length rs=List.length (encL rs) from ((Go.Cdc.encL_length _).symm)),kp (show (List.length rs+1) * 56≤140737488355328 from (by omega)),kv 84 (show Am.Sub (int (IntKind.wrap IntKind.i64 ((↑i:Int)+1))) (int (↑(i+1):Int)) from (Sub.of_wrap (by omega) (by omega) (by omega))),kp (show ∀ (x:List AV),x∈stE ts→AV.idsInL [] x=true from (Go.Tx.stE_ids _)),kp (show ∀ (x:List AV),x∈alE az→AV.idsInL [] x=true from (Go.Tx.alE_ids _)),kp (show ∀ (x:List AV),x∈encL rs++[[int 3,int 0,str (ByteArray.mk #[]),AV.sl 4 true [[int 2,int 0,str s,nilS],[int 3,int 0,str (ByteArray.mk #[]),AV.sl 4 false (encL (List.map iV ls))]]]]→AV.idsLtL 6 x=true from (by exact (Am.allm_append (Am.ids_lt (Go.Cdc.encL_ids _) _) (Am.allm_cons rfl Am.allm_nil))))] (others 122 [2,5,6,10,11]) 6 h (by kernel_rfl)
theorem cQ_e (t:TE) (g:Nat) (ts:List ByteArray) (g':Nat) (az:List (List Int)) (i:Nat) (g2:Nat) (rs:List CV) (hi:ts.length≤i) (h:True):RunL P G none 0 (loopAt P 16 1) (rC t g ts g' az i (AV.own 5 g2 0 (List.length rs)) [AObj.arr g2 4 false (encL rs)]) (AEx.exit 2) (rCX t g ts g' az (AV.own 5 g2 0 (List.length rs)) [AObj.arr g2 4 false (encL rs)]):=by
 have _:=h
 exact loop_exit [kp (show g=g from (rfl)),kf (show decide ((↑i:Int)<(↑(List.length ts):Int))=false from (decide_eq_false (by omega)))] (others 122 [2,10]) 6 (by kernel_rfl)
theorem rrn_a (t:TE) (e:Int) (he:e≠0) (hc:CallC P G 18 [txt t] [] (.ret (int e)) []) (o:AOut) (H':List AObj) (h:(AOut.ret (AV.tup [AV.agg [int 0,int 0,str (ByteArray.mk #[]),nilS],int e])=o)∧([]=H')):CallC P G 16 [txt t] [] o H':=by
 obtain ⟨e1,eH⟩:=h
 exact CallC.heap (e1 ▸ ((show CallC P G 16 [txt t] [] (AOut.ret (AV.tup [AV.agg [int 0,int 0,str (ByteArray.mk #[]),nilS],int e])) [] from callC_of [kc [] (@hc ),kt (show (e != 0)=true from (congrArg Bool.not (decide_eq_false (by omega))))] (by kernel_rfl)))) eH
theorem rrn_A (t:TE) (hc:CallC P G 18 [txt t] [] (.ret (int 0)) []) (hL:RunL P G none 0 (loopAt P 16 0) (rA t 0) (.exit 0) (rAX t)) (hM:RunL P G none 0 (loopAt P 16 1) { env:=slots 122 [(2,.ptr 1 0),(5,nilS),(6,nilS),(10,.ptr 2 0),(11,int 0)],H:=[sbT t,vZ,wB nilS] } (.exit 2) { env:=slots 122 [(2,.ptr 1 0),(10,.ptr 2 0)],H:=[sbT t,vZ,wB nilS] }) (o:AOut) (H':List AObj) (h:(AOut.ret (AV.tup [AV.agg [int 3,int 0,str (ByteArray.mk #[]),nilS],int 0])=o)∧([]=H')):CallC P G 16 [txt t] [] o H':=by
 obtain ⟨e1,eH⟩:=h
 exact CallC.heap (e1 ▸ ((show CallC P G 16 [txt t] [] (AOut.ret (AV.tup [AV.agg [int 3,int 0,str (ByteArray.mk #[]),nilS],int 0])) [] from callC_of [kc [] (@hc ),kf (Eq.refl false),kl [0,3,4,8,9,10,11,12,13,14,15,16,17,18,19,20,21,22,23,24,25,26,27,28,29,30,31,32,33,34,35,36,37,38,39,40,41,42,43,44,45,46,47,48,49,50,51,52,53,54,55,56,57,58,59,60,61,62,63,64,65,66,67,68,69,70,71,72,73,74,75,76,77,78,79,80,81,82,83,84,85,86,87,88,89,90,91,92,93,94,95,96,97,98,99,100,101,102,103,104,105,106,107,108,109,110,111,112,113,114,115,116,117,118,119,120,121] 2 (@hL ),kl [78] 3 (@hM )] (by kernel_rfl)))) eH
theorem cA_e (t:TE) (h:True):RunL P G none 0 (loopAt P 16 1) (St.mk (slots 122 [(2,AV.ptr 1 0),(5,nilS),(6,nilS),(10,AV.ptr 2 0),(11,int 0)]) [sbT t,vZ,wB nilS] []) (AEx.exit 2) (St.mk (slots 122 [(2,AV.ptr 1 0),(10,AV.ptr 2 0)]) [sbT t,vZ,wB nilS] []):=by
 have _:=h
 exact loop_exit [kf (Eq.refl false)] (others 122 [2,10]) 3 (by kernel_rfl)
theorem rrn_B (t:TE) (g:Nat) (ts:List ByteArray) (g':Nat) (az:List (List Int)) (g2:Nat) (rs:List CV) (hc:CallC P G 18 [txt t] [] (.ret (int 0)) []) (hL:RunL P G none 0 (loopAt P 16 0) (rA t 0) (.exit 0) (rBX t g ts g' az)) (hM:RunL P G none 0 (loopAt P 16 1) (rC t g ts g' az 0 nilS []) (.exit 2) (rCX t g ts g' az (.own 5 g2 0 rs.length) [.arr g2 4 false (encL rs)])) (o:AOut) (H':List AObj) (h:(AOut.ret (AV.tup [AV.agg [int 3,int 0,str (ByteArray.mk #[]),AV.sl 4 false (encL rs)],int 0])=o)∧([]=H')):CallC P G 16 [txt t] [] o H':=by
 obtain ⟨e1,eH⟩:=h
 exact CallC.heap (e1 ▸ ((show CallC P G 16 [txt t] [] (AOut.ret (AV.tup [AV.agg [int 3,int 0,str (ByteArray.mk #[]),AV.sl 4 false (encL rs)],int 0])) [] from callC_of [kc [] (@hc ),kf (Eq.refl false),kl [0,3,4,8,9,10,11,12,13,14,15,16,17,18,19,20,21,22,23,24,25,26,27,28,29,30,31,32,33,34,35,36,37,38,39,40,41,42,43,44,45,46,47,48,49,50,51,52,53,54,55,56,57,58,59,60,61,62,63,64,65,66,67,68,69,70,71,72,73,74,75,76,77,78,79,80,81,82,83,84,85,86,87,88,89,90,91,92,93,94,95,96,97,98,99,100,101,102,103,104,105,106,107,108,109,110,111,112,113,114,115,116,117,118,119,120,121] 2 (@hL ),kl [78] 5 (@hM ),ko (Orc.fz (some 121) (encL rs)),kp (show g2=g2 from (rfl)),kp (show List.take (List.length rs) (List.drop 0 (encL rs))=encL rs from (Go.Cdc.encL_all _)),kp (show List.length (encL rs)=List.length rs from (Go.Cdc.encL_length _)),kp (show ∀ (c:List AV),c∈encL rs→List.all c AV.pureB=true from (Go.Cdc.encL_pure _))] (by kernel_rfl)))) eH
end Go.Tx


namespace Go.Am
open Go
def PSub (x y:AV):Prop:=∀ w M v,PRep w M x v→PRep w M y v
theorem PSub.refl (x:AV):PSub x x:=fun _ _ _ h=>h
theorem PSub.nil (sz:Nat):PSub (.lit (.slice none 0 0)) (.sl sz false []):=fun w M v h=>by
 cases h
 exact .sl sz false [] none 0 0 0 (fun _ _=>undef) (fun h=>absurd rfl h) (fun h=>absurd rfl h) (Nat.le_refl _) (fun h=>by cases h) (fun x hx=>by cases hx) (fun k j hk=>absurd hk (Nat.not_lt_zero _)) (fun k j hk=>absurd hk (Nat.not_lt_zero _)) (fun k j hk=>absurd hk (Nat.not_lt_zero _))
theorem Sub.slP {sz:Nat} {t:Bool} {xs ys:List (List AV)} (hl:ys.length=xs.length) (hsz:∀ y∈ys,y.length=sz) (h:∀ k j,k<xs.length→j<sz→PSub ((xs.getD k []).getD j .dead) ((ys.getD k []).getD j .dead)):Sub (.sl sz t xs) (.sl sz false ys):=fun V v h9=>by
 have hp:=rep_sl h9
 cases hp with
 | sl _ _ _ A cap b o vs hA hb hcap ht h1 hc ho hr =>
  have hne:ys≠[]→xs≠[]:=fun h1 h2=>h1 (List.eq_nil_of_length_eq_zero (by rw [hl,h2]; rfl))
  have:PRep V.w V.M (.sl sz false ys) (.slice A ys.length cap):=.sl sz false ys A cap b o vs (fun h=>hA (hne h)) (fun h=>hb (hne h)) (by omega) (fun h=>by cases h) hsz (fun k j hk hj=>hc k j (by omega) hj) (fun k j hk hj=>ho k j (by omega) hj) (fun k j hk hj=>h k j (by omega) hj _ _ _ (hr k j (by omega) hj))
  rw [hl] at this
  exact .pure _ _ this
end Go.Am
namespace Go.Tx
open Go Go.Am Go.Proofs Go.Seat
open Go.Sq (CE cel ces ida idv pid fX fiO OkRs chkE)
open Go.Cdc (CV encL)
theorem pair_sub (s:ByteArray) (ls:List Int):Sub (.sl 4 true [[int 2,int 0,str s,nilS],[int 3,int 0,str ByteArray.empty,.sl 4 false (encL (ls.map iV))]]) (.sl 4 false (encL [tV s,lV (ls.map iV)])):=by
 rw [pair_enc]
 refine Sub.slP rfl (fun y hy=>?_) fun k j hk hj=>?_
 · simp only [List.mem_cons,List.not_mem_nil,or_false] at hy
   rcases hy with rfl | rfl<;>rfl
 · match k,hk with
   | 0,_=>match j,hj with
    | 0,_=>exact PSub.refl _
    | 1,_=>exact PSub.refl _
    | 2,_=>exact PSub.refl _
    | 3,_=>exact PSub.nil 4
   | 1,_=>exact PSub.refl _
theorem dP_loop (t:TE) (g:Nat) (ts:List ByteArray) (g':Nat) (az:List (List Int)) (i:Nat) (ls:List Int) (hA:az[0+Int.toNat (i:Int)]? = some ls) (hi:i<ts.length) (haz:az.length=ts.length) (hts:ts.length≤1000000) (hl:ls.length≤16):∀ d k g3,ls.length - k=d→k≤ls.length→∃ g4,RunL P G none 0 (loopAt P 16 2) (rD t g ts g' az i nilS [] 5 (.own 6 g3 0 ((ls.take k).map iV).length) k [.arr g3 4 false (encL ((ls.take k).map iV))]) (.exit 4) (rDX t g ts g' az i nilS [] 5 (.own 6 g4 0 (ls.map iV).length) [.arr g4 4 false (encL (ls.map iV))]):=by
 intro d
 induction d with
 | zero =>
  intro k g3 hd hk
  rw [List.take_of_length_le (by omega)]
  exact ⟨g3,dP_e t g ts g' az i ls k g3 _ hA hi haz hts hl (by omega) trivial⟩
 | succ d ih =>
  intro k g3 hd hk
  have hlt:k<ls.length:=by omega
  have hx:ls[k]? = some ls[k]:=List.getElem?_eq_getElem hlt
  obtain ⟨g4,nx⟩:=ih (k+1) (g3+1) (by omega) (by omega)
  have e:(ls.take (k+1)).map iV=(ls.take k).map iV++[iV ls[k]]:=by rw [List.take_succ_eq_append_getElem hlt,List.map_append]; rfl
  refine ⟨g4,dP_n t g ts g' az i ls k ls[k] g3 _ hA hi haz hts hl (by simp; omega) hlt hx _ _ ?_⟩
  refine RunL.subArrPre (b:=6) (k:=((ls.take k).map iV).length) (j:=3) rfl (get_last _ _ _ (Cdc.encL_length _).symm) rfl (Sub.emptyL 4 none 0) ?_
  rw [set_last _ _ _ _ (Cdc.encL_length _).symm]
  rw [e,List.length_append,← Cdc.encL_append] at nx
  exact nx
theorem dQ_loop (t:TE) (g:Nat) (ts:List ByteArray) (g':Nat) (az:List (List Int)) (i g2:Nat) (rs:List CV) (ls:List Int) (hA:az[0+Int.toNat (i:Int)]? = some ls) (hi:i<ts.length) (haz:az.length=ts.length) (hts:ts.length≤1000000) (hl:ls.length≤16):∀ d k g3,ls.length - k=d→k≤ls.length→∃ g4,RunL P G none 0 (loopAt P 16 2) (rD t g ts g' az i (.own 5 g2 0 rs.length) [.arr g2 4 false (encL rs)] 6 (.own 7 g3 0 ((ls.take k).map iV).length) k [.arr g3 4 false (encL ((ls.take k).map iV))]) (.exit 4) (rDX t g ts g' az i (.own 5 g2 0 rs.length) [.arr g2 4 false (encL rs)] 6 (.own 7 g4 0 (ls.map iV).length) [.arr g4 4 false (encL (ls.map iV))]):=by
 intro d
 induction d with
 | zero =>
  intro k g3 hd hk
  rw [List.take_of_length_le (by omega)]
  exact ⟨g3,dQ_e t g ts g' az i g2 rs ls k g3 _ hA hi haz hts hl (by omega) trivial⟩
 | succ d ih =>
  intro k g3 hd hk
  have hlt:k<ls.length:=by omega
  have hx:ls[k]? = some ls[k]:=List.getElem?_eq_getElem hlt
  obtain ⟨g4,nx⟩:=ih (k+1) (g3+1) (by omega) (by omega)
  have e:(ls.take (k+1)).map iV=(ls.take k).map iV++[iV ls[k]]:=by rw [List.take_succ_eq_append_getElem hlt,List.map_append]; rfl
  refine ⟨g4,dQ_n t g ts g' az i g2 rs ls k ls[k] g3 _ hA hi haz hts hl (by simp; omega) hlt hx _ _ ?_⟩
  refine RunL.subArrPre (b:=7) (k:=((ls.take k).map iV).length) (j:=3) rfl (get_last _ _ _ (Cdc.encL_length _).symm) rfl (Sub.emptyL 4 none 0) ?_
  rw [set_last _ _ _ _ (Cdc.encL_length _).symm]
  rw [e,List.length_append,← Cdc.encL_append] at nx
  exact nx
theorem dP_all (t:TE) (g:Nat) (ts:List ByteArray) (g':Nat) (az:List (List Int)) (i:Nat) (ls:List Int) (hA:az[0+Int.toNat (i:Int)]? = some ls) (hi:i<ts.length) (haz:az.length=ts.length) (hts:ts.length≤1000000) (hl:ls.length≤16):RunL P G none 0 (loopAt P 16 2) (rD t g ts g' az i nilS [] 5 nilS 0 []) (.exit 4) (rDX t g ts g' az i nilS [] 5 (.sl 4 false (encL (ls.map iV))) []):=by
 cases ls with
 | nil=>exact RunL.subBox (b:=5) (j:=3) (dP_z t g ts g' az i [] hA hi haz hts hl rfl trivial) rfl rfl (Sub.emptyL 4 none 0)
 | cons v l =>
  obtain ⟨g4,h⟩:=dP_loop t g ts g' az i (v::l) hA hi haz hts hl _ 1 0 rfl (by simp)
  have h0:=dP_0 t g ts g' az i (v::l) v hA hi haz hts hl rfl _ _ ⟨fun _=>RunL.subArrPre (b:=6) (k:=0) (j:=3) rfl rfl rfl (Sub.emptyL 4 none 0) h,fun h=>absurd (by simp) h⟩
  let z:=encL ((v::l).map iV)
  let HF:List AObj:=rH t g ts g' az++[wB nilS]++[]++[wB (.own 6 g4 0 ((v::l).map iV).length)]++[.arr g4 4 true z]
  have e:evalFrz (rDX t g ts g' az i nilS [] 5 (.own 6 g4 0 ((v::l).map iV).length) [.arr g4 4 false z]).H (.own 6 g4 0 ((v::l).map iV).length) z=some (.sl 4 false z,HF,[g4=g4,(z.drop 0).take ((v::l).map iV).length=z,z.length=((v::l).map iV).length,∀ c∈z,c.all AV.pureB=true]):=rfl
  have hp:AllP [g4=g4,(z.drop 0).take ((v::l).map iV).length=z,z.length=((v::l).map iV).length,∀ c∈z,c.all AV.pureB=true]:=⟨rfl,encL_take _,Cdc.encL_length _,Cdc.encL_pure _,trivial⟩
  have h1:=RunL.frzBox (b:=5) (j:=3) (cells:=[int 3,int 0,str (ByteArray.mk #[]),.own 6 g4 0 ((v::l).map iV).length]) h0 rfl (H1:=HF) rfl rfl e hp
  exact RunL.cut 6 h1 (fun x h=>by cases h) rfl ⟨stE_ids _,alE_ids _,trivial⟩
theorem dQ_all (t:TE) (g:Nat) (ts:List ByteArray) (g':Nat) (az:List (List Int)) (i g2:Nat) (rs:List CV) (ls:List Int) (hA:az[0+Int.toNat (i:Int)]? = some ls) (hi:i<ts.length) (haz:az.length=ts.length) (hts:ts.length≤1000000) (hl:ls.length≤16):RunL P G none 0 (loopAt P 16 2) (rD t g ts g' az i (.own 5 g2 0 rs.length) [.arr g2 4 false (encL rs)] 6 nilS 0 []) (.exit 4) (rDX t g ts g' az i (.own 5 g2 0 rs.length) [.arr g2 4 false (encL rs)] 6 (.sl 4 false (encL (ls.map iV))) []):=by
 cases ls with
 | nil=>exact RunL.subBox (b:=6) (j:=3) (dQ_z t g ts g' az i g2 rs [] hA hi haz hts hl rfl trivial) rfl rfl (Sub.emptyL 4 none 0)
 | cons v l =>
  obtain ⟨g4,h⟩:=dQ_loop t g ts g' az i g2 rs (v::l) hA hi haz hts hl _ 1 0 rfl (by simp)
  have h0:=dQ_0 t g ts g' az i g2 rs (v::l) v hA hi haz hts hl rfl _ _ ⟨fun _=>RunL.subArrPre (b:=7) (k:=0) (j:=3) rfl rfl rfl (Sub.emptyL 4 none 0) h,fun h=>absurd (by simp) h⟩
  let z:=encL ((v::l).map iV)
  let HF:List AObj:=rH t g ts g' az++[wB (.own 5 g2 0 rs.length)]++[.arr g2 4 false (encL rs)]++[wB (.own 7 g4 0 ((v::l).map iV).length)]++[.arr g4 4 true z]
  have e:evalFrz (rDX t g ts g' az i (.own 5 g2 0 rs.length) [.arr g2 4 false (encL rs)] 6 (.own 7 g4 0 ((v::l).map iV).length) [.arr g4 4 false z]).H (.own 7 g4 0 ((v::l).map iV).length) z=some (.sl 4 false z,HF,[g4=g4,(z.drop 0).take ((v::l).map iV).length=z,z.length=((v::l).map iV).length,∀ c∈z,c.all AV.pureB=true]):=rfl
  have hp:AllP [g4=g4,(z.drop 0).take ((v::l).map iV).length=z,z.length=((v::l).map iV).length,∀ c∈z,c.all AV.pureB=true]:=⟨rfl,encL_take _,Cdc.encL_length _,Cdc.encL_pure _,trivial⟩
  have h1:=RunL.frzBox (b:=6) (j:=3) (cells:=[int 3,int 0,str (ByteArray.mk #[]),.own 7 g4 0 ((v::l).map iV).length]) h0 rfl (H1:=HF) rfl rfl e hp
  exact RunL.cut 7 h1 (fun x h=>by cases h) rfl ⟨stE_ids _,alE_ids _,ids_lt (Cdc.encL_ids _) 7,trivial⟩
end Go.Tx


namespace Go.Tx
open Go Go.Am Go.Proofs Go.Seat
open Go.Sq (CE cel ces ida idv pid fX fiO OkRs chkE)
open Go.Cdc (CV encL)
def prs (ts:List ByteArray) (az:List (List Int)):List CV:=List.zipWith prV ts az
theorem prs_length {ts:List ByteArray} {az:List (List Int)} (h:az.length=ts.length):(prs ts az).length=ts.length:=by
 unfold prs; rw [List.length_zipWith]; omega
theorem prs_take {ts:List ByteArray} {az:List (List Int)} (h:az.length=ts.length) {i:Nat} (hi:i<ts.length):(prs ts az).take (i+1)=(prs ts az).take i++[prV ts[i] (az[i]'(by omega))]:=by
 rw [List.take_succ_eq_append_getElem (by rw [prs_length h]; exact hi)]
 unfold prs
 rw [List.getElem_zipWith]
theorem prs_snoc {ts:List ByteArray} {az:List (List Int)} (h:az.length=ts.length) (s:ByteArray) (ls:List Int):prs (ts++[s]) (az++[ls])=prs ts az++[prV s ls]:=by
 unfold prs
 rw [List.zipWith_append h.symm]
 rfl
theorem el0 {α:Type} {l:List α} {i:Nat} (h:i<l.length):l[0+Int.toNat (i:Int)]? = some l[i]:=by
 rw [show 0+Int.toNat (i:Int)=i by omega]
 exact List.getElem?_eq_getElem h
theorem C_loop (t:TE) (g:Nat) (ts:List ByteArray) (g':Nat) (az:List (List Int)) (haz:az.length=ts.length) (hts:ts.length≤1000000) (hl:∀ ls∈az,ls.length≤16):∀ d i g2,ts.length - i=d→i≤ts.length→∃ g3,RunL P G none 0 (loopAt P 16 1) (rC t g ts g' az i (.own 5 g2 0 ((prs ts az).take i).length) [.arr g2 4 false (encL ((prs ts az).take i))]) (.exit 2) (rCX t g ts g' az (.own 5 g3 0 (prs ts az).length) [.arr g3 4 false (encL (prs ts az))]):=by
 intro d
 induction d with
 | zero =>
  intro i g2 hd hi
  rw [List.take_of_length_le (by rw [prs_length haz]; omega)]
  exact ⟨g2,cQ_e t g ts g' az i g2 _ (by omega) trivial⟩
 | succ d ih =>
  intro i g2 hd hi
  have hlt:i<ts.length:=by omega
  have hlz:i<az.length:=by omega
  obtain ⟨g3,nx⟩:=ih (i+1) (g2+1) (by omega) (by omega)
  have hls:=hl az[i] (List.getElem_mem hlz)
  refine ⟨g3,cQ_n t g ts g' az i g2 ((prs ts az).take i) az[i] ts[i] (el0 hlt) hlt hts (by rw [List.length_take]; omega) (dQ_all t g ts g' az i g2 _ az[i] (el0 hlz) hlt haz hts hls) _ _ ?_⟩
  refine RunL.subArrPre (b:=5) (k:=((prs ts az).take i).length) (j:=3) rfl (get_last _ _ _ (Cdc.encL_length _).symm) rfl (pair_sub _ _) ?_
  rw [set_last _ _ _ _ (Cdc.encL_length _).symm]
  rw [prs_take haz hlt,List.length_append,encL_snoc] at nx
  exact nx
theorem C_all (t:TE) (g:Nat) (ts:List ByteArray) (g':Nat) (az:List (List Int)) (haz:az.length=ts.length) (h0:0<ts.length) (hts:ts.length≤1000000) (hl:∀ ls∈az,ls.length≤16):∃ g3,RunL P G none 0 (loopAt P 16 1) (rC t g ts g' az 0 nilS []) (.exit 2) (rCX t g ts g' az (.own 5 g3 0 (prs ts az).length) [.arr g3 4 false (encL (prs ts az))]):=by
 have hz:0<az.length:=by omega
 obtain ⟨g3,nx⟩:=C_loop t g ts g' az haz hts hl _ 1 0 rfl (by omega)
 refine ⟨g3,cP_n t g ts g' az 0 az[0] ts[0] (el0 h0) h0 hts (dP_all t g ts g' az 0 az[0] (el0 hz) h0 haz hts (hl _ (List.getElem_mem hz))) _ _ ?_⟩
 have e:(prs ts az).take 1=[prV ts[0] az[0]]:=by
  have:=prs_take haz h0
  rwa [List.take_zero,List.nil_append] at this
 have nx2:RunL P G none 0 (loopAt P 16 1) (rC t g ts g' az 1 (.own 5 0 0 1) [.arr 0 4 false [[int 3,int 0,str ByteArray.empty,.sl 4 true [[int 2,int 0,str ts[0],nilS],[int 3,int 0,str ByteArray.empty,.sl 4 false (encL (az[0].map iV))]]]]]) (.exit 2) (rCX t g ts g' az (.own 5 g3 0 (prs ts az).length) [.arr g3 4 false (encL (prs ts az))]):=by
  refine RunL.subArrPre (b:=5) (k:=0) (j:=3) rfl rfl rfl (pair_sub _ _) ?_
  rw [e] at nx
  have e2:encL [prV ts[0] az[0]]=[[int 3,int 0,str ByteArray.empty,.sl 4 false (encL [tV ts[0],lV (az[0].map iV)])]]:=by
   have:=encL_snoc [] ts[0] az[0]
   rw [List.nil_append] at this
   rw [this]
   simp [encL]
  rw [e2] at nx
  exact nx
 refine RunL.renPre (s2:=rC t g ts g' az 1 (.own 5 0 0 1) [.arr 0 4 false [[int 3,int 0,str ByteArray.empty,.sl 4 true [[int 2,int 0,str ts[0],nilS],[int 3,int 0,str ByteArray.empty,.sl 4 false (encL (az[0].map iV))]]]]]) (fun i=>if i=5 then 6 else i) (fun i hi=>absurd hi (Nat.not_lt_zero _)) (Nat.zero_le _) (fun i h1 h2=>Nat.zero_le _) (fun i j h1 h2 h=>by
  have h1:i<6:=h1
  have h2:j<6:=h2
  have h:(if i=5 then 6 else i)=(if j=5 then 6 else j):=h
  split at h<;>split at h<;>omega) (fun i o ho=>?_) (fun i o ho=>?_) rfl rfl rfl rfl nx2
 · match i,ho with
   | 0,ho=>cases ho; rfl
   | 1,ho=>cases ho; rfl
   | 2,ho =>
    cases ho
    show some (AObj.arr g 1 false (stE ts))=some (AObj.arr g 1 false ((stE ts).map (AV.renL _)))
    rw [idsL_free (stE_ids _)]
   | 3,ho =>
    cases ho
    show some (AObj.arr g' 1 false (alE az))=some (AObj.arr g' 1 false ((alE az).map (AV.renL _)))
    rw [idsL_free (alE_ids _)]
   | 4,ho=>cases ho; rfl
   | 5,ho=>cases ho; rfl
   | n+6,ho=>cases ho
 · match i,ho with
   | 0,ho=>cases ho; show AV.idsLtL _ _=true; rfl
   | 1,ho=>cases ho; show AV.idsLtL _ _=true; rfl
   | 2,ho=>cases ho; exact ids_lt (stE_ids _) _
   | 3,ho=>cases ho; exact ids_lt (alE_ids _) _
   | 4,ho=>cases ho; show AV.idsLtL _ _=true; rfl
   | 5,ho =>
    cases ho
    intro x hx
    have hx:x∈[[int 3,int 0,str ByteArray.empty,AV.sl 4 true [[int 2,int 0,str ts[0],nilS],[int 3,int 0,str ByteArray.empty,.sl 4 false (encL (az[0].map iV))]]]]:=hx
    simp only [List.mem_cons,List.not_mem_nil,or_false] at hx
    subst hx; rfl
   | n+6,ho=>cases ho
theorem rB_loop (t:TE) (h:Val t) (hc:t.cells.length≤900000) (hv:t.marks.length≤900000):∀ d k,t.cells.length - k=d→k≤t.cells.length→∀ (g:Nat) (ts:List ByteArray) (s:ByteArray) (g':Nat) (az:List (List Int)) (l0:List Int),az.length=ts.length→ts.length+1≤k→s.size≤k→(∀ ls∈az++[l0],ls.length≤16) →
 ∃ g2 ts2 g3 az2,RunL P G none 0 (loopAt P 16 0) (rB t k g ts s g' az l0) (.exit 0) (rBX t g2 ts2 g3 az2)∧az2.length=ts2.length∧0<ts2.length∧ts2.length≤t.cells.length∧(∀ ls∈az2,ls.length≤16)∧prs ts2 az2=rn (styN t) (t.cells.drop k) k (some (prs ts az,s,l0)):=by
 intro d
 induction d with
 | zero =>
  intro k hd hk g ts s g' az l0 haz hts hs hl
  rw [List.drop_eq_nil_of_le (by omega)]
  refine ⟨g,ts++[s],g',az++[l0],?_,by simp [haz],by simp,by simp; omega,hl,prs_snoc haz s l0⟩
  refine xb_e t k g ts s g' az l0 (by omega) _ _ ⟨rfl,?_⟩
  unfold rBX
  rw [← stE_snoc,← alE_snoc,List.length_append,List.length_append]
  rfl
 | succ d ih =>
  intro k hd hk g ts s g' az l0 haz hts hs hl
  have hlt:k<t.cells.length:=by omega
  have hx:t.cells[k]? = some t.cells[k]:=List.getElem?_eq_getElem hlt
  have hone:t.cells[k].vl.size=1:=h.one _ (List.getElem_mem hlt)
  rw [List.drop_eq_getElem_cons hlt,rn]
  cases hg:t.cells[k].gn with
  | true =>
   rw [if_pos rfl]
   obtain ⟨g2,ts2,g3,az2,nx,p⟩:=ih (k+1) (by omega) (by omega) g ts s g' az l0 haz (by omega) (by omega) hl
   exact ⟨g2,ts2,g3,az2,xb_g t k g ts s g' az l0 _ (by omega) (by omega) hx hg _ _ nx,p⟩
  | false =>
   rw [if_neg (by decide)]
   have hst:=rstyles0_c t (k:Int) (by omega) (by omega)
   have hll:l0.length≤16:=hl l0 (by simp)
   have hsl:=slist_c l0 (styN t k) (by omega) (by have:=styV_len t (k:Int); unfold styN; omega)
   have hL2:(alE az++[[ils l0]])[0+Int.toNat (((ts.length+1:Nat):Int) - 1)]? = some [ils l0]:=by
    rw [show 0+Int.toNat (((ts.length+1:Nat):Int) - 1)=ts.length by omega]
    exact get_last _ _ _ (by rw [alE_length]; omega)
   by_cases he:styN t k=l0
   · rw [if_pos he]
     rw [decide_eq_true he.symm] at hsl
     obtain ⟨g2,ts2,g3,az2,nx,p⟩:=ih (k+1) (by omega) (by omega) g ts (s++t.cells[k].vl) g' az l0 haz (by omega) (by rw [ByteArray.size_append]; omega) hl
     refine ⟨g2,ts2,g3,az2,xb_s t k g ts s g' az l0 _ (styN t k) (by omega) (by omega) (by omega) haz hx hg (by omega) (by
      rw [show 0+Int.toNat (((ts.length+1:Nat):Int) - 1)=ts.length by omega]
      exact get_last _ _ _ (by rw [stE_length])) hL2 hst hsl _ _ ?_,p⟩
     have e:(stE ts++[[str s]]).set (0+Int.toNat (((ts.length+1:Nat):Int) - 1)) [str (s++t.cells[k].vl)]=stE ts++[[str (s++t.cells[k].vl)]]:=by
      rw [show 0+Int.toNat (((ts.length+1:Nat):Int) - 1)=ts.length by omega]
      exact set_last _ _ _ _ (by rw [stE_length])
     first
      | exact nx
      | (rw [e]; exact nx)
   · rw [if_neg he]
     rw [decide_eq_false (fun e=>he e.symm)] at hsl
     obtain ⟨g2,ts2,g3,az2,nx,p⟩:=ih (k+1) (by omega) (by omega) (g+1) (ts++[s]) t.cells[k].vl (g'+1) (az++[l0]) (styN t k) (by simp [haz]) (by simp; omega) (by omega) (fun ls hls=>by
      rcases List.mem_append.1 hls with h1 | h1
      · exact hl ls h1
      · rw [List.mem_singleton.1 h1]; exact styV_len t _)
     rw [prs_snoc haz] at p
     refine ⟨g2,ts2,g3,az2,xb_d t k g ts s g' az l0 _ (styN t k) (by omega) (by omega) (by omega) haz hx hg hL2 hst hsl _ _ ?_,p⟩
     unfold rB at nx
     rw [← stE_snoc,← alE_snoc,List.length_append,List.length_append] at nx
     exact nx
theorem rA_loop (t:TE) (h:Val t) (hc:t.cells.length≤900000) (hv:t.marks.length≤900000):∀ d k,t.cells.length - k=d→k≤t.cells.length →
 (rn (styN t) (t.cells.drop k) k none=[]∧RunL P G none 0 (loopAt P 16 0) (rA t k) (.exit 0) (rAX t)) ∨
 ∃ g2 ts2 g3 az2,RunL P G none 0 (loopAt P 16 0) (rA t k) (.exit 0) (rBX t g2 ts2 g3 az2)∧az2.length=ts2.length∧0<ts2.length∧ts2.length≤t.cells.length∧(∀ ls∈az2,ls.length≤16)∧prs ts2 az2=rn (styN t) (t.cells.drop k) k none:=by
 intro d
 induction d with
 | zero =>
  intro k hd hk
  rw [List.drop_eq_nil_of_le (by omega)]
  exact .inl ⟨rfl,xa_e t k (by omega) trivial⟩
 | succ d ih =>
  intro k hd hk
  have hlt:k<t.cells.length:=by omega
  have hx:t.cells[k]? = some t.cells[k]:=List.getElem?_eq_getElem hlt
  have hone:t.cells[k].vl.size=1:=h.one _ (List.getElem_mem hlt)
  rw [List.drop_eq_getElem_cons hlt,rn]
  cases hg:t.cells[k].gn with
  | true =>
   rw [if_pos rfl]
   rcases ih (k+1) (by omega) (by omega) with ⟨q1,q2⟩ | ⟨g2,ts2,g3,az2,nx,p⟩
   · exact .inl ⟨q1,xa_g t k _ (by omega) (by omega) hx hg _ _ q2⟩
   · exact .inr ⟨g2,ts2,g3,az2,xa_g t k _ (by omega) (by omega) hx hg _ _ nx,p⟩
  | false =>
   rw [if_neg (by decide)]
   have hst:=rstyles0_c t (k:Int) (by omega) (by omega)
   obtain ⟨g2,ts2,g3,az2,nx,p⟩:=rB_loop t h hc hv d (k+1) (by omega) (by omega) 0 [] t.cells[k].vl 0 [] (styN t k) rfl (by simp) (by omega) (fun ls hls=>by
    rw [List.nil_append] at hls
    rw [List.mem_singleton.1 hls]; exact styV_len t _)
   exact .inr ⟨g2,ts2,g3,az2,xa_n t k _ (styN t k) (by omega) (by omega) hx hg hst _ _ nx,p⟩
theorem rrender_c (t:TE) (hl:LenT t):CallC P G 16 [txt t] [] (.ret (.tup [Cdc.val (renE t),int (chkT t)])) []:=by
 have hk:=rcheck_c t hl
 have h1:=hl.cells
 have h2:=hl.marks
 unfold renE
 by_cases h0:chkT t=0
 · rw [if_pos h0,h0]
   rw [h0] at hk
   rcases rA_loop t (chkT_iff.1 h0) (by omega) (by omega) _ 0 rfl (Nat.zero_le _) with ⟨q1,q2⟩ | ⟨g2,ts2,g3,az2,q,p1,p2,p3,p4,p5⟩
   · rw [List.drop_zero] at q1
     have:=rrn_A t hk q2 (cA_e t trivial) _ _ ⟨rfl,rfl⟩
     unfold renV
     rw [q1]
     exact this.out (.tup2 (.aggs ⟨Sub.refl _,Sub.refl _,Sub.refl _,Sub.nil 4,trivial⟩) (Sub.refl _))
   · rw [List.drop_zero] at p5
     obtain ⟨g4,hM⟩:=C_all t g2 ts2 g3 az2 p1 p2 (by omega) p4
     have:=rrn_B t g2 ts2 g3 az2 g4 (prs ts2 az2) hk q hM _ _ ⟨rfl,rfl⟩
     unfold renV
     rw [← p5]
     exact this
 · rw [if_neg h0]
   have:=rrn_a t _ h0 hk _ _ ⟨rfl,rfl⟩
   exact this.out (.tup2 (.aggs ⟨Sub.refl _,Sub.refl _,Sub.refl _,Sub.nil 4,trivial⟩) (Sub.refl _))
end Go.Tx


namespace Go.Tx
open Go Go.Am Go.Proofs Go.Seat
open Go.Sq (CE cel ces ida idv pid fX fiO OkRs chkE)
open Go.Cdc (CV encL enc val vmk encL_length)
mutual
def sm:CV→CV→Bool
 | .mk k n s l,.mk k' n' s' l'=>decide (k=k') && decide (n=n') && decide (s=s') && smL l l'
def smL:List CV→List CV→Bool
 | [],[]=>true
 | a::l,b::m=>sm a b && smL l m
 | [],_::_=>false
 | _::_,[]=>false
end
inductive OkS:CV→Prop
 | mk (k n:Int) (s:ByteArray) (l:List CV) (hl:l.length≤1000000) (h:∀ x∈l,OkS x):OkS (.mk k n s l)
theorem vs_ne1 (k n k' n':Int) (s s':ByteArray) (l l':List CV) (hn:¬ (k=k'∧n=n'∧l.length=l'.length)) (h:(((k=k')→(((n=n')→(((s=s')→True)∧((¬s=s')→True)))∧((¬n=n')→True)))∧((¬k=k')→True))):CallC P G 22 [vmk k n s l,vmk k' n' s' l'] [] (AOut.ret (Am.bool false)) []:=by
 by_cases c1:(k=k')
 · have h:=h.1 c1
   have hz0:(k != k')=false:=(congrArg Bool.not (beq_iff_eq.2 c1))
   by_cases c2:(n=n')
   · have h:=h.1 c2
     have hz1:(n != n')=false:=(congrArg Bool.not (beq_iff_eq.2 c2))
     have hz2:Am.Sub (Am.bool !ByteArray.toList s == ByteArray.toList s') (Am.bool !decide (s=s')):=(Sub.of_eq (by simp only [Go.Cdc.str_eq]))
     by_cases c3:(s=s')
     · have h:=h.1 c3
       have _:=h
       exact callC_of [kf hz0,kf hz1,kv 23 hz2,kf (show (!decide (s=s'))=false from (congrArg Bool.not (decide_eq_true c3))),kv 28 (show Am.Sub (int (↑(List.length (encL l)):Int)) (int (↑(List.length l):Int)) from (Sub.of_eq (by simp only [Go.Cdc.encL_length]))),kv 31 (show Am.Sub (int (↑(List.length (encL l')):Int)) (int (↑(List.length l'):Int)) from (Sub.of_eq (by simp only [Go.Cdc.encL_length]))),kt (show ((↑(List.length l):Int) != (↑(List.length l'):Int))=true from (congrArg Bool.not (decide_eq_false (by omega))))] (by kernel_rfl)
     · have h:=h.2 c3
       have _:=h
       exact callC_of [kf hz0,kf hz1,kv 23 hz2,kt (show (!decide (s=s'))=true from (congrArg Bool.not (decide_eq_false c3))),kt (Eq.refl true)] (by kernel_rfl)
   · have h:=h.2 c2
     have _:=h
     exact callC_of [kf hz0,kt (show (n != n')=true from (congrArg Bool.not (beq_eq_false_iff_ne.2 c2))),kt (Eq.refl true),kt (Eq.refl true)] (by kernel_rfl)
 · have h:=h.2 c1
   have _:=h
   exact callC_of [kt (show (k != k')=true from (congrArg Bool.not (beq_eq_false_iff_ne.2 c1))),kt (Eq.refl true),kt (Eq.refl true),kt (Eq.refl true)] (by kernel_rfl)
theorem vs_ne2 (k n k' n':Int) (s s':ByteArray) (l l':List CV) (hs:decide (s=s')=false) (h:(((k=k')→(((n=n')→True)∧((¬n=n')→True)))∧((¬k=k')→True))):CallC P G 22 [vmk k n s l,vmk k' n' s' l'] [] (AOut.ret (Am.bool false)) []:=by
 by_cases c1:(k=k')
 · have h:=h.1 c1
   have hz0:(k != k')=false:=(congrArg Bool.not (beq_iff_eq.2 c1))
   by_cases c2:(n=n')
   · have h:=h.1 c2
     have _:=h
     exact callC_of [kf hz0,kf (show (n != n')=false from (congrArg Bool.not (beq_iff_eq.2 c2))),kv 23 (show Am.Sub (Am.bool !ByteArray.toList s == ByteArray.toList s') (Am.bool !decide (s=s')) from (Sub.of_eq (by simp only [Go.Cdc.str_eq]))),kt (show (!decide (s=s'))=true from (congrArg Bool.not (hs))),kt (Eq.refl true)] (by kernel_rfl)
   · have h:=h.2 c2
     have _:=h
     exact callC_of [kf hz0,kt (show (n != n')=true from (congrArg Bool.not (beq_eq_false_iff_ne.2 c2))),kt (Eq.refl true),kt (Eq.refl true)] (by kernel_rfl)
 · have h:=h.2 c1
   have _:=h
   exact callC_of [kt (show (k != k')=true from (congrArg Bool.not (beq_eq_false_iff_ne.2 c1))),kt (Eq.refl true),kt (Eq.refl true),kt (Eq.refl true)] (by kernel_rfl)
noncomputable def smSt (k n:Int) (s:ByteArray) (l l':List CV) (i:Nat):St:={ env:=slots 53 [(2,.ptr 0 0),(3,.ptr 1 0),(4,bool false),(5,int i)],H:=[.box [int k,int n,str s,.sl 4 false (encL l)],.box [int k,int n,str s,.sl 4 false (encL l')]] }
theorem vs_end (k n:Int) (s:ByteArray) (l m:List CV) (i:Nat) (hi:l.length≤i) (h:True):RunL P G none 0 (loopAt P 22 0) (smSt k n s l m i) (AEx.exit 0) (St.mk (slots 53 [(4,Am.bool false)]) [AObj.gone,AObj.gone] []):=by
 have _:=h
 exact RunL.to (RunL.postH ((show RunL P G none 0 (loopAt P 22 0) (smSt k n s l m i) (AEx.exit 0) (St.mk (slots 53 [(4,Am.bool false)]) [AObj.box [int k,int n,str s,AV.sl 4 false (encL l)],AObj.box [int k,int n,str s,AV.sl 4 false (encL m)]] []) from loop_exit [kv 37 (show Am.Sub (int (↑(List.length (encL l)):Int)) (int (↑(List.length l):Int)) from (Sub.of_eq (by simp only [Go.Cdc.encL_length]))),kf (show decide ((↑i:Int)<(↑(List.length l):Int))=false from (decide_eq_false (by omega)))] (others 53 [4]) 2 (by kernel_rfl))) (by exact ⟨.inr trivial,.inr trivial,trivial⟩)) rfl (SubS.slots ⟨rfl,Sub.refl _,trivial⟩)
theorem vs_step (k n:Int) (s:ByteArray) (l m:List CV) (i:Nat) (a b:CV) (c:Bool) (hi:i<l.length) (hl:l.length≤1000000) (ha:l[i]? = some a) (hb:m[i]? = some b) (hv:CallC P G 22 [val a,val b] [] (.ret (bool c)) []) (ex:AEx) (h:((((c)=true)→RunL P G none 0 (loopAt P 22 0) (St.mk (slots 53 [(2,AV.ptr 0 0),(3,AV.ptr 1 0),(4,Am.bool false),(5,int (↑(i+1):Int))]) [AObj.box [int k,int n,str s,AV.sl 4 false (encL l)],AObj.box [int k,int n,str s,AV.sl 4 false (encL m)]] []) ex (St.mk (slots 53 [(4,Am.bool false)]) [AObj.gone,AObj.gone] []))∧(((c)=false)→AEx.ret=ex))):RunL P G none 0 (loopAt P 22 0) (smSt k n s l m i) ex (St.mk (slots 53 [(4,Am.bool false)]) [AObj.gone,AObj.gone] []):=by
 have hz0:Am.Sub (int (↑(List.length (encL l)):Int)) (int (↑(List.length l):Int)):=(Sub.of_eq (by simp only [Go.Cdc.encL_length]))
 have hz1:decide ((↑i:Int)<(↑(List.length l):Int))=true:=(decide_eq_true (by omega))
 have hz2:(0:Int)≤(↑i:Int)∧(encL l)[Int.toNat (↑i:Int)]? = some (Cdc.enc a):=(by rw [Go.Cdc.encL_map]; exact el_nat ha)
 have hz3:(0:Int)≤(↑i:Int)∧(encL m)[Int.toNat (↑i:Int)]? = some (Cdc.enc b):=(by rw [Go.Cdc.encL_map]; exact el_nat hb)
 have hz4:=(@hv )
 rcases Bool.eq_false_or_eq_true ((c)) with c2 | c2
 · have h:=h.1 c2
   exact loop_next [kv 37 hz0,kt hz1,ko (Orc.elem (Cdc.enc a)),ko (Orc.elem (Cdc.enc b)),kp hz2,kp hz3,kc [] hz4,kf (show (!c)=false from (congrArg Bool.not (c2))),kv 40 (show Am.Sub (int (IntKind.wrap IntKind.i64 ((↑i:Int)+1))) (int (↑(i+1):Int)) from (Sub.of_wrap (by omega) (by omega) (by omega)))] (others 53 [2,3,4,5]) 2 h (by kernel_rfl)
 · have h:=h.2 c2
   have eX:=h
   exact RunL.to (RunL.postH ((show RunL P G none 0 (loopAt P 22 0) (smSt k n s l m i) AEx.ret (St.mk (slots 53 [(4,Am.bool false)]) [AObj.box [int k,int n,str s,AV.sl 4 false (encL l)],AObj.box [int k,int n,str s,AV.sl 4 false (encL m)]] []) from loop_exit [kv 37 hz0,kt hz1,ko (Orc.elem (Cdc.enc a)),ko (Orc.elem (Cdc.enc b)),kp hz2,kp hz3,kc [] hz4,kt (show (!c)=true from (congrArg Bool.not (c2)))] (others 53 [4]) 2 (by kernel_rfl))) (by exact ⟨.inr trivial,.inr trivial,trivial⟩)) eX (SubS.slots ⟨rfl,Sub.refl _,trivial⟩)
theorem vs_w (k n:Int) (s:ByteArray) (l m:List CV) (hn:l.length=m.length) (c b:Bool) (hL:RunL P G none 0 (loopAt P 22 0) (smSt k n s l m 0) (if c=true then .exit 0 else .ret) { env:=slots 53 [(4,bool false)],H:=[.gone,.gone] }) (h:(((s=s)→(((c=true)→(true)=(b))∧((¬c=true)→(false)=(b))))∧((¬s=s)→(false)=(b)))):CallC P G 22 [vmk k n s l,vmk k n s m] [] (AOut.ret (Am.bool b)) []:=by
 have hz0:(k != k)=false:=(congrArg Bool.not (decide_eq_true (by omega)))
 have hz1:(n != n)=false:=(congrArg Bool.not (decide_eq_true (by omega)))
 have hz2:Am.Sub (Am.bool !ByteArray.toList s == ByteArray.toList s) (Am.bool !decide (s=s)):=(Sub.of_eq (by simp only [Go.Cdc.str_eq]))
 by_cases c3:(s=s)
 · have h:=h.1 c3
   have hz3:(!decide (s=s))=false:=(congrArg Bool.not (decide_eq_true c3))
   have hz4:Am.Sub (int (↑(List.length (encL l)):Int)) (int (↑(List.length l):Int)):=(Sub.of_eq (by simp only [Go.Cdc.encL_length]))
   have hz5:Am.Sub (int (↑(List.length (encL m)):Int)) (int (↑(List.length m):Int)):=(Sub.of_eq (by simp only [Go.Cdc.encL_length]))
   have hz6:((↑(List.length l):Int) != (↑(List.length m):Int))=false:=(congrArg Bool.not (decide_eq_true (by omega)))
   by_cases c5:(c=true)
   · have h:=h.1 c5
     have e1:=h
     exact callC_out (Sub.bool_eq e1) [kf hz0,kf hz1,kv 23 hz2,kf hz3,kv 28 hz4,kv 31 hz5,kf hz6,kl [0,1,6,7,8,9,10,11,12,13,14,15,16,17,18,19,20,21,22,23,24,25,26,27,28,29,30,31,32,33,34,35,36,37,38,39,40,41,42,43,44,45,46,47,48,49,50,51,52] 2 (show RunL P G none 0 (loopAt P 22 0) (St.mk (slots 53 [(2,AV.ptr 0 0),(3,AV.ptr 1 0),(4,Am.bool false),(5,int 0)]) [AObj.box [int k,int n,str s,AV.sl 4 false (encL l)],AObj.box [int k,int n,str s,AV.sl 4 false (encL m)]] []) (AEx.exit 0) (St.mk (slots 53 [(4,Am.bool false)]) [AObj.gone,AObj.gone] []) from (by have h0:=(@hL ); simp only [if_pos c5] at h0; exact h0))] (by kernel_rfl)
   · have h:=h.2 c5
     have e1:=h
     exact callC_out (Sub.bool_eq e1) [kf hz0,kf hz1,kv 23 hz2,kf hz3,kv 28 hz4,kv 31 hz5,kf hz6,kl [0,1,6,7,8,9,10,11,12,13,14,15,16,17,18,19,20,21,22,23,24,25,26,27,28,29,30,31,32,33,34,35,36,37,38,39,40,41,42,43,44,45,46,47,48,49,50,51,52] 2 (show RunL P G none 0 (loopAt P 22 0) (St.mk (slots 53 [(2,AV.ptr 0 0),(3,AV.ptr 1 0),(4,Am.bool false),(5,int 0)]) [AObj.box [int k,int n,str s,AV.sl 4 false (encL l)],AObj.box [int k,int n,str s,AV.sl 4 false (encL m)]] []) AEx.ret (St.mk (slots 53 [(4,Am.bool false)]) [AObj.gone,AObj.gone] []) from (by have h0:=(@hL ); simp only [if_neg c5] at h0; exact h0))] (by kernel_rfl)
 · have h:=h.2 c3
   have e1:=h
   exact callC_out (Sub.bool_eq e1) [kf hz0,kf hz1,kv 23 hz2,kt (show (!decide (s=s))=true from (congrArg Bool.not (decide_eq_false c3))),kt (Eq.refl true)] (by kernel_rfl)
end Go.Tx


namespace Go.Tx
open Go Go.Am Go.Proofs Go.Seat
open Go.Sq (CE cel ces ida idv pid fX fiO OkRs chkE)
open Go.Cdc (CV encL enc val vmk encL_length)
theorem smL_len:∀ {l m:List CV},smL l m=true→l.length=m.length
 | [],[],_=>rfl
 | a::l,b::m,h=>by
  simp only [smL,Bool.and_eq_true] at h
  simp only [List.length_cons,smL_len h.2]
 | [],_::_,h=>by simp [smL] at h
 | _::_,[],h=>by simp [smL] at h
theorem CV.ind {p:CV→Prop} (h:∀ k n s l,(∀ x∈l,p x)→p (.mk k n s l)) (v:CV):p v :=
 CV.rec (motive_1:=p) (motive_2:=fun l=>∀ x∈l,p x) (fun k n s l ih=>h k n s l ih) (fun _ hx=>by cases hx) (fun a l ha hl x hx=>by
  rcases List.mem_cons.1 hx with rfl | hx
  · exact ha
  · exact hl x hx) v
theorem sm_iff_all:(∀ a:CV,∀ b:CV,sm a b=true↔a=b):=by
 refine fun a=>CV.ind (p:=fun a=>∀ b:CV,sm a b=true↔a=b) (fun k n s l ih=>?_) a
 have hl:∀ (l m:List CV),(∀ x∈l,∀ b:CV,sm x b=true↔x=b)→(smL l m=true↔l=m):=by
  intro l
  induction l with
  | nil=>intro m _; cases m<;>simp [smL]
  | cons x l ihl =>
   intro m hx
   cases m with
   | nil=>simp [smL]
   | cons y m =>
    simp only [smL,Bool.and_eq_true,hx x (List.mem_cons_self) y,ihl m fun z hz=>hx z (List.mem_cons_of_mem _ hz),List.cons.injEq]
 intro b
 cases b with
 | mk k' n' s' l' =>
  simp only [sm,Bool.and_eq_true,decide_eq_true_eq,hl l l' ih,CV.mk.injEq]
  constructor
  · rintro ⟨⟨⟨h1,h2⟩,h3⟩,h4⟩; exact ⟨h1,h2,h3,h4⟩
  · rintro ⟨h1,h2,h3,h4⟩; exact ⟨⟨⟨h1,h2⟩,h3⟩,h4⟩
theorem sm_iff {a b:CV}:sm a b=true↔a=b:=sm_iff_all a b
theorem drop_get {α:Type} {l:List α} {i:Nat} (h:i<l.length):l.drop i=l[i]::l.drop (i+1):=List.drop_eq_getElem_cons h
theorem vs_loop (k n:Int) (s:ByteArray) (l m:List CV) (hl:l.length≤1000000) (hlm:l.length=m.length) (hv:∀ x∈l,∀ y∈m,CallC P G 22 [val x,val y] [] (.ret (bool (sm x y))) []):∀ (c i:Nat),l.length - i=c→i≤l.length →
 RunL P G none 0 (loopAt P 22 0) (smSt k n s l m i) (if smL (l.drop i) (m.drop i)=true then .exit 0 else .ret) { env:=slots 53 [(4,bool false)],H:=[.gone,.gone] }:=by
 intro c
 induction c with
 | zero =>
  intro i hc hi
  rw [List.drop_of_length_le (by omega),List.drop_of_length_le (by omega)]
  simp only [smL,if_true]
  exact vs_end k n s l m i (by omega) trivial
 | succ c ih =>
  intro i hc hi
  have hlt:i<l.length:=by omega
  have hlt':i<m.length:=by omega
  rw [drop_get hlt,drop_get hlt']
  refine vs_step k n s l m i l[i] m[i] (sm l[i] m[i]) hlt hl (List.getElem?_eq_getElem hlt) (List.getElem?_eq_getElem hlt') (hv _ (List.getElem_mem hlt) _ (List.getElem_mem hlt')) _ ⟨fun h=>?_,fun h=>?_⟩
  · simp only [smL,h,Bool.true_and]; exact ih (i+1) (by omega) (by omega)
  · simp [smL,h]
theorem vsame_b (a:CV):OkS a→∀ b:CV,CallC P G 22 [val a,val b] [] (.ret (bool (sm a b))) []:=by
 refine CV.ind (p:=fun a=>OkS a→∀ b:CV,CallC P G 22 [val a,val b] [] (.ret (bool (sm a b))) []) (fun k n s l ih hok b=>?_) a
 cases hok with
 | mk _ _ _ _ hl hall =>
  cases b with
  | mk k' n' s' l' =>
   rw [Cdc.val_mk,Cdc.val_mk]
   by_cases hc:k=k'∧n=n'∧l.length=l'.length
   · obtain ⟨rfl,rfl,hll⟩:=hc
     by_cases he:s=s'
     · subst he
       have:=vs_loop k n s l l' hl hll (fun x hx y _=>ih x hx (hall x hx) y) l.length 0 (by omega) (by omega)
       rw [List.drop_zero,List.drop_zero] at this
       exact vs_w k n s l l' hll _ _ this ⟨fun _=>⟨fun h=>by simp [sm,h],fun h=>by simp [sm,h]⟩,fun h=>absurd rfl h⟩
     · have:sm (.mk k n s l) (.mk k n s' l')=false:=by simp [sm,he]
       rw [this]
       exact vs_ne2 k n k n s s' l l' (decide_eq_false he) ⟨fun _=>⟨fun _=>trivial,fun _=>trivial⟩,fun _=>trivial⟩
   · have:sm (.mk k n s l) (.mk k' n' s' l')=false:=by
      refine Bool.eq_false_iff.2 fun h=>hc ?_
      simp only [sm,Bool.and_eq_true,decide_eq_true_eq] at h
      exact ⟨h.1.1.1,h.1.1.2,smL_len h.2⟩
     rw [this]
     exact vs_ne1 k n k' n' s s' l l' hc ⟨fun _=>⟨fun _=>⟨fun _=>trivial,fun _=>trivial⟩,fun _=>trivial⟩,fun _=>trivial⟩
instance:DecidableEq CV:=fun a b=>if h:sm a b=true then .isTrue (sm_iff.1 h) else .isFalse fun e=>h (sm_iff.2 e)
theorem vsame_c (a b:CV) (h:OkS a):CallC P G 22 [val a,val b] [] (.ret (bool (decide (a=b)))) []:=by
 have e:decide (a=b)=sm a b:=by
  cases hs:sm a b with
  | true=>exact decide_eq_true (sm_iff.1 hs)
  | false=>exact decide_eq_false fun e=>by rw [sm_iff.2 e] at hs; cases hs
 rw [e]
 exact vsame_b a h b
theorem OkS_iV (x:Int):OkS (iV x):=.mk _ _ _ _ (by simp) (fun x hx=>by cases hx)
theorem OkS_lV {l:List CV} (hl:l.length≤1000000) (h:∀ x∈l,OkS x):OkS (lV l):=.mk _ _ _ _ hl h
theorem OkS_prV (s:ByteArray) (ls:List Int) (h:ls.length≤16):OkS (prV s ls):=by
 refine OkS_lV (by simp) fun x hx=>?_
 simp only [List.mem_cons,List.not_mem_nil,or_false] at hx
 rcases hx with rfl | rfl
 · exact .mk _ _ _ _ (by simp) (fun x hx=>by cases hx)
 · refine OkS_lV (by simp; omega) fun x hx=>?_
   obtain ⟨y,_,rfl⟩:=List.mem_map.1 hx
   exact OkS_iV y
theorem rn_small (sty:Nat→List Int) (hs:∀ k,(sty k).length≤16):∀ (l:List CE) k (st:Option (List CV × ByteArray × List Int)),(∀ rs s ls,st=some (rs,s,ls)→ls.length≤16∧∀ x∈rs,OkS x) →
 (rn sty l k st).length≤l.length+(match st with | none=>0 | some (rs,_,_)=>rs.length+1)∧∀ x∈rn sty l k st,OkS x
 | [],k,none,_=>by simp [rn]
 | [],k,some (rs,s,ls),h=>by
  obtain ⟨h1,h2⟩:=h rs s ls rfl
  refine ⟨by simp [rn],fun x hx=>?_⟩
  rw [rn] at hx
  rcases List.mem_append.1 hx with hx | hx
  · exact h2 x hx
  · rw [List.mem_singleton.1 hx]; exact OkS_prV _ _ h1
 | c::l,k,none,h=>by
  rw [rn]
  split
  · have:=rn_small sty hs l (k+1) none h
    exact ⟨by simp at this ⊢; omega,this.2⟩
  · have:=rn_small sty hs l (k+1) (some ([],c.vl,sty k)) (fun rs s ls e=>by
     simp only [Option.some.injEq,Prod.mk.injEq] at e
     obtain ⟨rfl,rfl,rfl⟩:=e
     exact ⟨hs k,fun x hx=>by cases hx⟩)
    exact ⟨by simp at this ⊢; omega,this.2⟩
 | c::l,k,some (rs,s,ls),h=>by
  obtain ⟨h1,h2⟩:=h rs s ls rfl
  rw [rn]
  split
  · have:=rn_small sty hs l (k+1) (some (rs,s,ls)) h
    exact ⟨by simp at this ⊢; omega,this.2⟩
  · split
    · have:=rn_small sty hs l (k+1) (some (rs,s++c.vl,ls)) (fun rs' s' ls' e=>by
       simp only [Option.some.injEq,Prod.mk.injEq] at e
       obtain ⟨rfl,rfl,rfl⟩:=e
       exact ⟨h1,h2⟩)
      exact ⟨by simp at this ⊢; omega,this.2⟩
    · have:=rn_small sty hs l (k+1) (some (rs++[prV s ls],c.vl,sty k)) (fun rs' s' ls' e=>by
       simp only [Option.some.injEq,Prod.mk.injEq] at e
       obtain ⟨rfl,rfl,rfl⟩:=e
       refine ⟨hs k,fun x hx=>?_⟩
       rcases List.mem_append.1 hx with hx | hx
       · exact h2 x hx
       · rw [List.mem_singleton.1 hx]; exact OkS_prV _ _ h1)
      exact ⟨by simp at this ⊢; omega,this.2⟩
theorem renE_small (t:TE) (hl:LenT t):OkS (renE t):=by
 unfold renE
 split
 · have:=rn_small (styN t) (fun k=>styV_len t _) t.cells 0 none (fun _ _ _ e=>by cases e)
   have hc:=hl.cells
   exact OkS_lV (by have:=this.1; simp at this; omega) this.2
 · exact .mk _ _ _ _ (by simp) (fun x hx=>by cases hx)
end Go.Tx
