import Derived.Test.YteaclamkacmhmaaDoorG21
import Derived.Below
import Derived.WalkKit
import Derived.WalkLawsBesides
import Derived.KernelRfl
set_option maxRecDepth 100000
set_option linter.unusedSimpArgs false
set_option linter.unusedVariables false

namespace Go.Am
open Go
theorem below_call {P:Program} {G:Nat→Option (List AV)} {f:FuncId} {args:Array Value} {V:View} {v:Value} {x:AV} (hH:V.H=[]) (hG:HeapRep G V) (h:Calls P f args V.w fun e w'=>e = .returned v∧RowKit.Below V.w.heap.size V.w w') (hx:∀ V',Rep V' x v) :
 CallsIn Fence.wide 0 P f args V.w (Goes G V [] (.ret x)):=by
 refine callsIn_wide.2 (h.drawn.mono ?_)
 rintro e w' ⟨⟨rfl,hb⟩,hd⟩
 have hd:V.w.drawn≤w'.drawn:=hd.elim (fun h=>by cases h) id
 have hst:Step V { V with w:=w' }:={
  os:=hb.os
  tape:=hb.tape
  output:=hb.output
  size:=hb.size
  drawn:=hd
  keep:=fun b hl _=>⟨hb.block b hl,Iff.rfl⟩
  data:=fun b hl hn=>⟨hb.block b hl,hn⟩
  hlen:=Nat.le_refl _
  fresh:=fun id hid=>.inl ⟨hid,rfl⟩
  obj:=fun id hid=>by rw [hH] at hid; exact absurd hid (by simp) }
 refine ⟨{ V with w:=w' },rfl,hst,?_,hH,hx _⟩
 exact {
  lt:=fun id hid=>Nat.lt_of_lt_of_le (hG.lt id hid) hb.size
  obj:=fun id o ho=>by
   have ho:V.H[id]? = some o:=ho
   rw [hH] at ho
   simp at ho
  inj:=fun i j hi _ _=>by
   have hi:i<V.H.length:=hi
   rw [hH] at hi
   exact absurd hi (by simp)
  mutb:=hG.mutb
  glob:=hG.glob_step hst }
end Go.Am


namespace Go.Tx
open Go Go.Am Go.Proofs Go.Seat Go.Lib Go.Sort Go.RowKit
theorem be0:ByteArray.empty.data=#[]:=rfl
theorem catV_data (s:ByteArray):∀ l:List Sq.CE,(catV s l).data.toList=s.data.toList++(catV ByteArray.empty l).data.toList:=by
 intro l
 induction l generalizing s with
 | nil=>simp [catV,be0]
 | cons c l ih =>
  rw [catV,catV,ih,ih (if c.gn=true then ByteArray.empty else ByteArray.empty++c.vl)]
  split<;>simp
def bsV (l:List Sq.CE) (k:Nat):List UInt8:=(catV ByteArray.empty (l.take k)).data.toList
theorem catV_append (s:ByteArray) (a b:List Sq.CE):catV s (a++b)=catV (catV s a) b:=by
 induction a generalizing s with
 | nil=>rfl
 | cons c a ih=>exact ih _
theorem bsV_succ (l:List Sq.CE) (k:Nat) (x:Sq.CE) (h:l[k]? = some x):bsV l (k+1)=if x.gn=true then bsV l k else bsV l k++x.vl.data.toList:=by
 unfold bsV
 obtain ⟨hk,rfl⟩:=List.getElem?_eq_some_iff.1 h
 rw [List.take_succ_eq_append_getElem hk,catV_append]
 show (catV (if l[k].gn=true then _ else _) []).data.toList=_
 rw [catV]
 split
 · rfl
 · simp
theorem bsV_len (l:List Sq.CE) (k:Nat):(bsV l k).length≤sumS l:=by
 unfold bsV
 induction l generalizing k with
 | nil=>simp [catV,be0]
 | cons c l ih =>
  rw [sumS_cons]
  cases k with
  | zero=>simp [catV,be0]
  | succ k =>
   rw [List.take_succ_cons,catV,catV_data]
   have:=ih k
   have hz:c.vl.data.toList.length=c.vl.size:=by simp
   split
   · rw [be0]
     simp only [Array.toList_empty,List.nil_append]
     omega
   · rw [List.length_append]
     have h2:(ByteArray.empty++c.vl).data.toList.length=c.vl.size:=by simp
     omega
theorem isb_alloc {T e:TypeId} {B b:Nat} {bs:List Value} {w:World} (h:IsBuilder T e B b bs w) (o:Obj):IsBuilder T e B b bs (w.alloc o):=by
 rcases h with ⟨hB,v,hb,hown,hne⟩ | ⟨hB,v,hb,hown,hne⟩
 · exact .inl ⟨hB,v,(alloc_old w o b (Array.getElem?_eq_some_iff.1 hb).1).trans hb,hown.alloc o,hne⟩
 · exact .inr ⟨hB,v,(alloc_old w o b (Array.getElem?_eq_some_iff.1 hb).1).trans hb,hown.alloc o,hne⟩
set_option maxHeartbeats 4000000 in
theorem str_calls (w:World) (cb co cap:Nat) (mv:Value) (hmv:mv.oneCell'=true) (l:List Sq.CE) (hl:l.length≤1000000) (hs:sumS l≤140737488355328)
 (hc:∀ k x j,l[k]? = some x→j<9→w.cell? ⟨cb,co+k * 9+j,none⟩=some ((Sq.encV x).getD j undef)) :
 Calls Tryd.prog 19 #[.agg #[.slice (some ⟨cb,co,none⟩) l.length cap,mv]] w fun e w'=>e = .returned (.string ⟨(bsV l l.length).toArray⟩)∧Below w.heap.size w w':=by
 go_enter Tryd.func19,Tryd.ntmps19
 go_wp2_with fail
 go_loopw [9] (fun i wr=>∃ k:Nat,k≤l.length∧i = .int .i64 k∧Lib.IsBuilder 89 5 w.heap.size (w.heap.size+1) (Lib.byteCells (bsV l k)) wr∧Below w.heap.size w wr) (fun i _=>l.length - (Go.RowKit.intOf i).toNat)
 case atStart =>
  refine ⟨0,Nat.zero_le _,rfl,.inl ⟨by omega,.slice none 0 0,?_,?_,by simp [Value.ownBlock]⟩,(Below.refl _ _).alloc (Nat.le_refl _) _ |>.trans ((Below.refl _ _).alloc (by simp) _)⟩
  · have:=heap_alloc_new (w.alloc (.cells #[.slice (some ⟨cb,co,none⟩) l.length cap,mv] 25)) (.cells #[.pointer none,.slice none 0 0] 89)
    simpa using this
  · exact World.ownsRow_nil _ _ _ _
 case round =>
  obtain ⟨k,hk,rfl,hI,hb⟩:=hrel
  by_cases hlt:k<l.length
  · have hx:l[k]? = some l[k]:=List.getElem?_eq_getElem hlt
    have hcb:cb<w.heap.size:=block_lt_of_cell (hc k _ 0 hx (by decide))
    have cc:∀ j,j<9→wr.cell? ⟨cb,co+k * 9+j,none⟩=some ((Sq.encV l[k]).getD j undef):=fun j hj=>(hb.cell hcb).trans (hc k _ j hx hj)
    have c0:=cc 0 (by decide)
    have c1:=cc 1 (by decide)
    have c2:=cc 2 (by decide)
    have c3:=cc 3 (by decide)
    have c4:=cc 4 (by decide)
    have c5:=cc 5 (by decide)
    have c6:=cc 6 (by decide)
    have c7:=cc 7 (by decide)
    have c8:=cc 8 (by decide)
    clear cc
    simp only [Sq.encV,List.getD_cons_zero,List.getD_cons_succ,Nat.add_zero] at c0 c1 c2 c3 c4 c5 c6 c7 c8
    have hlt':(k:Int)<(l.length:Int):=by omega
    have hbs:=bsV_succ l k _ hx
    have hsum:=bsV_len l (k+1)
    have hIa:=isb_alloc hI
    have hba:∀ o,Below w.heap.size w (wr.alloc o):=fun o=>hb.trans ((Below.refl _ _).alloc hb.size _)
    cases hg:l[k].gn with
    | true =>
     rw [hg] at c8
     rw [hg,if_pos rfl] at hbs
     have hI2:=fun o=>hIa o
     go_wp2
     refine ⟨⟨k+1,by omega,rfl,?_,hba _⟩,?_⟩
     · rw [hbs]; exact hIa _
     · simp [Go.RowKit.intOf]; omega
    | false =>
     rw [hg] at c8
     rw [hg,if_neg (by decide)] at hbs
     go_wp2_with (go_at_call 47; refine (Tryd.bld_write _ _ _ _ _ (hIa _) ?_ ?_).mono ?_)
     · rw [Lib.byteCells_length]
       have hl2:=bsV_len l (k+1)
       rw [hbs,List.length_append] at hl2
       have hz:(l[k]).vl.data.toList.length=(l[k]).vl.size:=by simp
       omega
     · simp
       have:=hb.size
       omega
     · rintro e w' ⟨rfl,h1,h2⟩
       go_wp2
       refine ⟨⟨k+1,by omega,rfl,.inr ?_,(hba _).trans h2⟩,?_⟩
       · rw [hbs,Lib.byteCells_append]
         exact h1
       · simp [Go.RowKit.intOf]; omega
  · have hke:k=l.length:=by omega
    subst hke
    go_wp2_with (go_at_call 48; refine (Tryd.bld_string w.heap.size (w.heap.size+1) _ _ hI hb.size).mono ?_; rintro e w' ⟨rfl,hb'⟩)
    go_ret
    exact ⟨rfl,hb.trans hb'⟩
set_option maxHeartbeats 4000000 in
theorem str_calls0 (w:World) (A:Option Addr) (cap:Nat) (mv:Value) (hmv:mv.oneCell'=true) :
 Calls Tryd.prog 19 #[.agg #[.slice A 0 cap,mv]] w fun e w'=>e = .returned (.string ⟨#[]⟩)∧Below w.heap.size w w':=by
 have hI:Lib.IsBuilder 89 5 w.heap.size (w.heap.size+1) (Lib.byteCells []) ((w.alloc (.cells #[.slice A 0 cap,mv] 25)).alloc (.cells #[.pointer none,.slice none 0 0] 89)):=by
  refine .inl ⟨by omega,.slice none 0 0,?_,?_,by simp [Value.ownBlock]⟩
  · have:=heap_alloc_new (w.alloc (.cells #[.slice A 0 cap,mv] 25)) (.cells #[.pointer none,.slice none 0 0] 89)
    simpa using this
  · exact World.ownsRow_nil _ _ _ _
 have hb:Below w.heap.size w ((w.alloc (.cells #[.slice A 0 cap,mv] 25)).alloc (.cells #[.pointer none,.slice none 0 0] 89)):=(Below.refl _ _).alloc (Nat.le_refl _) _ |>.trans ((Below.refl _ _).alloc (by simp) _)
 go_enter Tryd.func19,Tryd.ntmps19
 go_wp2_with fail
 refine wp_loop_rounds 1 ?_
 rw [rounds_succ]
 go_wp2_with (go_at_call 48; refine (Tryd.bld_string w.heap.size (w.heap.size+1) [] _ hI hb.size).mono ?_; rintro e w' ⟨rfl,hb'⟩)
 go_ret
 exact ⟨rfl,hb.trans hb'⟩
theorem bsV_all (t:TE):(⟨(bsV t.cells t.cells.length).toArray⟩:ByteArray)=strV t:=by
 unfold bsV strV
 rw [List.take_length,Array.toArray_toList]
theorem str_c (t:TE) (hl:t.cells.length≤1000000) (hs:sumS t.cells≤140737488355328):CallC P G 19 [txt t] [] (.ret (str (strV t))) []:=by
 intro V vs hH hG hr
 obtain ⟨v0,rfl⟩:∃ v0,vs=[v0]:=by
  have:=hr.1
  match vs,this with
  | [a],_=>exact ⟨a,rfl⟩
 obtain ⟨us,rfl,hu⟩:=rep_agg hr.head
 obtain ⟨c0,m0,rfl⟩:∃ c0 m0,us=[c0,m0]:=by
  have:=hu.1
  match us,this with
  | [a,b],_=>exact ⟨a,b,rfl⟩
 have hc:=rep_sl (hu.2 0 (Nat.zero_lt_succ 1))
 have hm:=rep_sl (hu.2 1 (Nat.lt_succ_self 1))
 have hm1:m0.oneCell'=true:=by cases hm; rfl
 refine below_call hH hG (v:=.string (strV t)) ?_ (fun V'=>.pure _ _ (.lit _))
 change PRep V.w V.M (.sl 9 false (Sq.encs t.cells)) c0 at hc
 cases hc with
 | sl _ _ _ A cap b o vf hA hb hcap ht hsz hcell ho hrep =>
  rcases List.eq_nil_or_concat t.cells with hcs | ⟨r,x,hcs⟩
  · have e:Sq.encs t.cells=[]:=by rw [hcs]; rfl
    have es:strV t=⟨#[]⟩:=by unfold strV; rw [hcs]; rfl
    rw [es,e]
    exact str_calls0 V.w A cap m0 hm1
  · have hne:Sq.encs t.cells≠[]:=by rw [hcs]; simp [Sq.encs]
    rw [hA hne,Sq.encs_length,← bsV_all]
    refine str_calls V.w b o cap m0 hm1 t.cells hl hs fun k y j hk hj=>?_
    have hkl:k<(Sq.encs t.cells).length:=by rw [Sq.encs_length]; exact (List.getElem?_eq_some_iff.1 hk).1
    have h1:=hcell k j hkl hj
    have h2:=hrep k j hkl hj
    have e:(Sq.encs t.cells).getD k []=Sq.enc y:=by rw [List.getD_eq_getElem?_getD,Sq.encs_get?,hk]; rfl
    rw [e] at h2
    rw [h1]
    congr 1
    match j,hj,h2 with
    | 0,_,h2=>exact rep_lit (V:=V) (.pure _ _ h2)
    | 1,_,h2=>exact rep_lit (V:=V) (.pure _ _ h2)
    | 2,_,h2=>exact rep_lit (V:=V) (.pure _ _ h2)
    | 3,_,h2=>exact rep_lit (V:=V) (.pure _ _ h2)
    | 4,_,h2=>exact rep_lit (V:=V) (.pure _ _ h2)
    | 5,_,h2=>exact rep_lit (V:=V) (.pure _ _ h2)
    | 6,_,h2=>exact rep_lit (V:=V) (.pure _ _ h2)
    | 7,_,h2=>exact rep_lit (V:=V) (.pure _ _ h2)
    | 8,_,h2=>exact rep_lit (V:=V) (.pure _ _ h2)
end Go.Tx


namespace Go.Tx
open Go Go.Am Go.Proofs Go.Seat
open Go.Sq (CE cel ces ida idv pid fX fiO OkRs chkE)
open Go.Cdc (CV encL enc val vmk encL_length)
noncomputable def rnS (s:ByteArray) (l:List Int) (L:AV) (k:Nat) (K:List AObj):St:={ env:=slots 28 [(0,str s),(4,.ptr 0 0),(5,.ptr 1 0),(9,ils l),(10,int l.length),(11,int k)],H:=[vZ,wB L]++K }
noncomputable def rnX (s:ByteArray) (L:AV) (K:List AObj):St:={ env:=slots 28 [(0,str s),(4,.ptr 0 0),(5,.ptr 1 0)],H:=[vZ,wB L]++K }
theorem rn_0 (s:ByteArray) (l:List Int) (v:Int) (hx:l[0]? = some v) (hl:l.length≤16) (ex:AEx) (s':St) (h:((((0:Int)<(↑(List.length l):Int))→RunL P G none 0 (loopAt P 35 0) (St.mk (slots 28 [(0,str s),(4,AV.ptr 0 0),(5,AV.ptr 1 0),(9,AV.sl 1 false (Vec.ints l)),(10,int (↑(List.length l):Int)),(11,int 1)]) [AObj.box [int 0,int 0,str (ByteArray.mk #[]),nilS],AObj.box [int 3,int 0,str (ByteArray.mk #[]),AV.own 2 0 0 1],AObj.arr 0 4 false [[int 1,int v,str (ByteArray.mk #[]),nilS]]] []) ex s')∧((¬(0:Int)<(↑(List.length l):Int))→(AEx.exit 0=ex)∧(St.mk (slots 28 [(0,str s),(4,AV.ptr 0 0),(5,AV.ptr 1 0)]) [AObj.box [int 0,int 0,str (ByteArray.mk #[]),nilS],AObj.box [int 3,int 0,str (ByteArray.mk #[]),nilS]] []=s')))):RunL P G none 0 (loopAt P 35 0) (rnS s l nilS 0 []) ex s':=by
 by_cases c1:((0:Int)<(↑(List.length l):Int))
 · have h:=h.1 c1
   exact loop_next [kt (decide_eq_true c1),ko (Orc.elem (Vec.enc1 v)),kp (show (0:Int)≤(0:Int)∧(Vec.ints l)[Int.toNat (↑0:Int)]? = some (Vec.enc1 v) from (el_nat hx)),kp (show [[int 1,int v,str (ByteArray.mk #[]),nilS]]≠[] from (by simp)),kp (show 56≤140737488355328 from (by omega))] (others 28 [0,4,5,9,10,11]) 3 h (by kernel_rfl)
 · have h:=h.2 c1
   obtain ⟨eX,eS⟩:=h
   exact RunL.to ((show RunL P G none 0 (loopAt P 35 0) (rnS s l nilS 0 []) (AEx.exit 0) (St.mk (slots 28 [(0,str s),(4,AV.ptr 0 0),(5,AV.ptr 1 0)]) [AObj.box [int 0,int 0,str (ByteArray.mk #[]),nilS],AObj.box [int 3,int 0,str (ByteArray.mk #[]),nilS]] []) from loop_exit [kf (decide_eq_false c1)] (others 28 [0,4,5]) 2 (by kernel_rfl))) eX (SubS.of_eq eS)
theorem rn_n (s:ByteArray) (l:List Int) (v:Int) (k g:Nat) (z:List CV) (hz:z.length≤16) (hx:l[k]? = some v) (hl:l.length≤16) (ex:AEx) (s':St) (h:((((↑k:Int)<(↑(List.length l):Int))→RunL P G none 0 (loopAt P 35 0) (St.mk (slots 28 [(0,str s),(4,AV.ptr 0 0),(5,AV.ptr 1 0),(9,AV.sl 1 false (Vec.ints l)),(10,int (↑(List.length l):Int)),(11,int (↑(k+1):Int))]) [AObj.box [int 0,int 0,str (ByteArray.mk #[]),nilS],AObj.box [int 3,int 0,str (ByteArray.mk #[]),AV.own 2 (g+1) 0 (List.length z+1)],AObj.arr (g+1) 4 false (encL z++[[int 1,int v,str (ByteArray.mk #[]),nilS]])] []) ex s')∧((¬(↑k:Int)<(↑(List.length l):Int))→(AEx.exit 0=ex)∧(St.mk (slots 28 [(0,str s),(4,AV.ptr 0 0),(5,AV.ptr 1 0)]) [AObj.box [int 0,int 0,str (ByteArray.mk #[]),nilS],AObj.box [int 3,int 0,str (ByteArray.mk #[]),AV.own 2 g 0 (List.length z)],AObj.arr g 4 false (encL z)] []=s')))):RunL P G none 0 (loopAt P 35 0) (rnS s l (AV.own 2 g 0 (List.length z)) k [AObj.arr g 4 false (encL z)]) ex s':=by
 by_cases c1:((↑k:Int)<(↑(List.length l):Int))
 · have h:=h.1 c1
   exact loop_next [kt (decide_eq_true c1),ko (Orc.elem (Vec.enc1 v)),kp (show (0:Int)≤(↑k:Int)∧(Vec.ints l)[Int.toNat (↑k:Int)]? = some (Vec.enc1 v) from (el_nat hx)),kp (show g=g from (rfl)),kp (show List.length z=List.length (encL z) from ((Go.Cdc.encL_length _).symm)),kp (show (List.length z+1) * 56≤140737488355328 from (by omega)),kv 22 (show Am.Sub (int (IntKind.wrap IntKind.i64 ((↑k:Int)+1))) (int (↑(k+1):Int)) from (Sub.of_wrap (by omega) (by omega) (by omega)))] (others 28 [0,4,5,9,10,11]) 3 h (by kernel_rfl)
 · have h:=h.2 c1
   obtain ⟨eX,eS⟩:=h
   exact RunL.to ((show RunL P G none 0 (loopAt P 35 0) (rnS s l (AV.own 2 g 0 (List.length z)) k [AObj.arr g 4 false (encL z)]) (AEx.exit 0) (St.mk (slots 28 [(0,str s),(4,AV.ptr 0 0),(5,AV.ptr 1 0)]) [AObj.box [int 0,int 0,str (ByteArray.mk #[]),nilS],AObj.box [int 3,int 0,str (ByteArray.mk #[]),AV.own 2 g 0 (List.length z)],AObj.arr g 4 false (encL z)] []) from loop_exit [kf (decide_eq_false c1)] (others 28 [0,4,5]) 3 (by kernel_rfl))) eX (SubS.of_eq eS)
theorem rn_z (s:ByteArray) (l:List Int) (hx:l.length=0) (h:True):RunL P G none 0 (loopAt P 35 0) (rnS s l nilS 0 []) (AEx.exit 0) (rnX s nilS []):=by
 have _:=h
 exact loop_exit [kf (show decide ((↑0:Int)<(↑(List.length l):Int))=false from (decide_eq_false (by omega)))] (others 28 [0,4,5]) 2 (by kernel_rfl)
theorem rn_e (s:ByteArray) (l:List Int) (k g:Nat) (z:List CV) (hx:l.length≤k) (h:True):RunL P G none 0 (loopAt P 35 0) (rnS s l (AV.own 2 g 0 (List.length z)) k [AObj.arr g 4 false (encL z)]) (AEx.exit 0) (rnX s (AV.own 2 g 0 (List.length z)) [AObj.arr g 4 false (encL z)]):=by
 have _:=h
 exact loop_exit [kf (show decide ((↑k:Int)<(↑(List.length l):Int))=false from (decide_eq_false (by omega)))] (others 28 [0,4,5]) 3 (by kernel_rfl)
theorem run_w (s:ByteArray) (l:List Int) (hL:RunL P G none 0 (loopAt P 35 0) (rnS s l nilS 0 []) (.exit 0) (rnX s (.sl 4 false (encL (l.map iV))) [])) (o:AOut) (H':List AObj) (h:(AOut.ret (AV.agg [int 3,int 0,str (ByteArray.mk #[]),AV.sl 4 true [[int 2,int 0,str s,nilS],[int 3,int 0,str (ByteArray.mk #[]),AV.sl 4 false (encL (List.map iV l))]]])=o)∧([]=H')):CallC P G 35 [str s,ils l] [] o H':=by
 obtain ⟨e1,eH⟩:=h
 exact CallC.heap (e1 ▸ ((show CallC P G 35 [str s,ils l] [] (AOut.ret (AV.agg [int 3,int 0,str (ByteArray.mk #[]),AV.sl 4 true [[int 2,int 0,str s,nilS],[int 3,int 0,str (ByteArray.mk #[]),AV.sl 4 false (encL (List.map iV l))]]])) [] from callC_of [kv 10 (show Am.Sub (int (↑(List.length (Vec.ints l)):Int)) (int (↑(List.length l):Int)) from (Sub.of_eq (by simp only [Go.Vec.ints_length]))),kl [1,2,3,6,7,8,12,13,14,15,16,17,18,19,20,21,22,23,24,25,26,27] 2 (@hL )] (by kernel_rfl)))) eH
end Go.Tx


namespace Go.Tx
open Go Go.Am Go.Proofs Go.Seat
open Go.Sq (CE cel ces ida idv pid fX fiO OkRs chkE)
open Go.Cdc (CV encL enc val vmk encL_length)
theorem run_loop (s:ByteArray) (l:List Int) (hl:l.length≤16):∀ d k g,l.length - k=d→k≤l.length→∃ g',RunL P G none 0 (loopAt P 35 0) (rnS s l (.own 2 g 0 ((l.take k).map iV).length) k [.arr g 4 false (encL ((l.take k).map iV))]) (.exit 0) (rnX s (.own 2 g' 0 (l.map iV).length) [.arr g' 4 false (encL (l.map iV))]):=by
 intro d
 induction d with
 | zero =>
  intro k g hd hk
  rw [List.take_of_length_le (by omega)]
  exact ⟨g,rn_e s l k g (l.map iV) (by omega) trivial⟩
 | succ d ih =>
  intro k g hd hk
  have hlt:k<l.length:=by omega
  have hx:l[k]? = some l[k]:=List.getElem?_eq_getElem hlt
  obtain ⟨g',nx⟩:=ih (k+1) (g+1) (by omega) (by omega)
  have e:(l.take (k+1)).map iV=(l.take k).map iV++[iV l[k]]:=by rw [List.take_succ_eq_append_getElem hlt,List.map_append]; rfl
  refine ⟨g',rn_n s l l[k] k g ((l.take k).map iV) (by simp; omega) hx hl _ _ ⟨fun _=>?_,fun h=>absurd (by omega) h⟩⟩
  refine RunL.subArrPre (b:=2) (k:=((l.take k).map iV).length) (j:=3) rfl (get_last _ _ _ (Cdc.encL_length _).symm) rfl (Sub.emptyL 4 none 0) ?_
  rw [set_last _ _ _ _ (Cdc.encL_length _).symm]
  rw [e,List.length_append,← Cdc.encL_append] at nx
  exact nx
theorem run_all (s:ByteArray) (l:List Int) (hl:l.length≤16):RunL P G none 0 (loopAt P 35 0) (rnS s l nilS 0 []) (.exit 0) (rnX s (.sl 4 false (encL (l.map iV))) []):=by
 cases l with
 | nil =>
  have h:=rn_z s [] rfl trivial
  exact RunL.subBox (b:=1) (j:=3) h rfl rfl (Sub.emptyL 4 none 0)
 | cons v l =>
  obtain ⟨g',h⟩:=run_loop s (v::l) hl _ 1 0 rfl (by simp)
  have h0:=rn_0 s (v::l) v rfl hl _ _ ⟨fun _=>RunL.subArrPre (b:=2) (k:=0) (j:=3) rfl rfl rfl (Sub.emptyL 4 none 0) h,fun h=>absurd (by simp) h⟩
  have e:evalFrz (rnX s (.own 2 g' 0 ((v::l).map iV).length) [.arr g' 4 false (encL ((v::l).map iV))]).H (.own 2 g' 0 ((v::l).map iV).length) (encL ((v::l).map iV))=some (.sl 4 false (encL ((v::l).map iV)),[vZ,wB (.own 2 g' 0 ((v::l).map iV).length),.arr g' 4 true (encL ((v::l).map iV))],[g'=g',((encL ((v::l).map iV)).drop 0).take ((v::l).map iV).length=encL ((v::l).map iV),(encL ((v::l).map iV)).length=((v::l).map iV).length,∀ c∈encL ((v::l).map iV),c.all AV.pureB=true]):=rfl
  have hp:AllP [g'=g',((encL ((v::l).map iV)).drop 0).take ((v::l).map iV).length=encL ((v::l).map iV),(encL ((v::l).map iV)).length=((v::l).map iV).length,∀ c∈encL ((v::l).map iV),c.all AV.pureB=true]:=⟨rfl,encL_take _,Cdc.encL_length _,Cdc.encL_pure _,trivial⟩
  have h1:=RunL.frzBox (b:=1) (j:=3) (cells:=[int 3,int 0,str ByteArray.empty,.own 2 g' 0 ((v::l).map iV).length]) h0 rfl (H1:=[vZ,wB (.own 2 g' 0 ((v::l).map iV).length),.arr g' 4 true (encL ((v::l).map iV))]) rfl rfl e hp
  exact RunL.cut 2 h1 (fun x h=>by cases h) rfl trivial
theorem run_c (s:ByteArray) (l:List Int) (hl:l.length≤16):CallC P G 35 [str s,ils l] [] (.ret (val (prV s l))) []:=by
 have h:=run_w s l (run_all s l hl) _ _ ⟨rfl,rfl⟩
 have:CallC P G 35 [str s,ils l] [] (.ret (.agg [int 3,int 0,str ByteArray.empty,.sl 4 false (encL [tV s,lV (l.map iV)])])) []:=h.out (.aggs ⟨Sub.refl _,Sub.refl _,Sub.refl _,pair_sub s l,trivial⟩)
 unfold prV lV
 rw [Cdc.val_mk]
 exact this
abbrev sA:CE:=⟨1,1,0,0,0,0,1,⟨#[97]⟩,false⟩
abbrev sA':CE:=⟨1,1,0,0,0,0,1,⟨#[97]⟩,true⟩
abbrev sB:CE:=⟨1,1,1,1,1,0,1,⟨#[98]⟩,false⟩
abbrev mA:MK:=⟨1,2,2,1,1,0,1,1,1,3,true⟩
abbrev mB:MK:=⟨2,1,3,1,1,1,1,1,1,3,false⟩
abbrev mZ:MK:=⟨1,1,1,0,0,0,0,0,0,0,false⟩
theorem q1:typR zT 1 1 1 (0,0,0) ⟨#[97,98]⟩=(⟨[sA,sB],[]⟩,0):=by decide +kernel
theorem q2:cutR ⟨[sA,sB],[]⟩ (1,1,0) 1=(⟨[sA',sB],[]⟩,0):=by decide +kernel
theorem q3:addR ⟨[sA,sB],[]⟩ mA=(⟨[sA,sB],[mA]⟩,0):=by decide +kernel
theorem q4:addR ⟨[sA,sB],[mA]⟩ mB=(⟨[sA,sB],[mA,mB]⟩,0):=by decide +kernel
theorem q5:renE ⟨[sA,sB],[mA,mB]⟩=lV [prV ⟨#[97]⟩ [3],prV ⟨#[98]⟩ []]:=by decide +kernel
theorem q6:renE zT=lV []:=by decide +kernel
theorem q7:chkT ⟨[sA,sB],[mA,mB]⟩=0:=by decide +kernel
theorem q8:chkT zT=0:=by decide +kernel
theorem q9:styR zT 0=([],1):=by decide +kernel
theorem q10:typR zT 1 1 1 (0,0,0) ⟨#[]⟩=(zT,160):=by decide +kernel
theorem q11:chkT ⟨[],[mZ]⟩=160:=by decide +kernel
theorem q12:strV ⟨[sA,sB],[]⟩=⟨#[97,98]⟩:=by decide +kernel
theorem q13:strV ⟨[sA',sB],[]⟩=⟨#[98]⟩:=by decide +kernel
theorem q14:strV zT=⟨#[]⟩:=by decide +kernel
end Go.Tx


namespace Go.Tx
open Go Go.Am Go.Proofs Go.Seat
open Go.Sq (CE cel ces ida idv pid fX fiO OkRs OkR chkE)
open Go.Cdc (CV encL enc val vmk encL_length)
theorem okc:∀ x∈[sA,sA',sB],OkR x:=by
 intro x hx
 simp only [List.mem_cons,List.not_mem_nil,or_false] at hx
 rcases hx with rfl | rfl | rfl<;>(unfold OkR Sq.InR; decide)
theorem okm:∀ x∈[mA,mB,mZ],OkM x:=by
 intro x hx
 simp only [List.mem_cons,List.not_mem_nil,or_false] at hx
 rcases hx with rfl | rfl | rfl<;>constructor<;>(unfold InR; decide)
theorem okT_of {l:List CE} {v:List MK} (h:∀ x∈l,x∈[sA,sA',sB]) (h':∀ x∈v,x∈[mA,mB,mZ]):OkT ⟨l,v⟩:=⟨fun x hx=>okc x (h x hx),fun x hx=>okm x (h' x hx)⟩
theorem zT_sub:Sub (.agg [nilS,nilS]) (txt zT):=.aggs ⟨Sub.nil 9,Sub.nil 11,trivial⟩
theorem ir (n:Int) (h : -9223372036854775808≤n∧n<9223372036854775808:=by decide):InR n:=h
theorem sn_1:CallC P G 28 [.agg [nilS,nilS],dta 1 1,int 1,ida 0 0 0,str ⟨#[97,98]⟩] [] (.ret (.tup [.agg [ces [sA,sB],mks []],int 0])) []:=by
 have h:=type_c zT 1 1 1 0 0 0 ⟨#[97,98]⟩ ⟨by decide,by decide⟩ (okT_of (by decide) (by decide)) (ir _) (ir _) (ir _) (ir _) (ir _)
 rw [q1] at h
 exact h.args' ⟨zT_sub,Sub.refl _,Sub.refl _,Sub.refl _,Sub.refl _,trivial⟩
theorem sn_2:CallC P G 31 [.agg [ces [sA,sB],mks []],ida 1 1 0,int 1] [] (.ret (.tup [.agg [ces [sA',sB],mks []],int 0])) []:=by
 have h:=cut_c ⟨[sA,sB],[]⟩ 1 1 0 1 ⟨by decide,by decide⟩ (okT_of (by decide) (by decide))
 rw [q2] at h
 exact h
theorem sn_3:CallC P G 32 [.agg [ces [sA,sB],mks []],mke mA] [] (.ret (.tup [.agg [ces [sA,sB],mks [mA]],int 0])) []:=by
 have h:=add_c ⟨[sA,sB],[]⟩ mA ⟨by decide,by decide⟩ (okT_of (by decide) (by decide))
 rw [q3] at h
 exact h
theorem sn_4:CallC P G 32 [.agg [ces [sA,sB],mks [mA]],mke mB] [] (.ret (.tup [.agg [ces [sA,sB],mks [mA,mB]],int 0])) []:=by
 have h:=add_c ⟨[sA,sB],[mA]⟩ mB ⟨by decide,by decide⟩ (okT_of (by decide) (by decide))
 rw [q4] at h
 exact h
theorem sn_5:CallC P G 15 [.agg [ces [sA,sB],mks [mA,mB]]] [] (.ret (.tup [vmk 3 0 ByteArray.empty [prV ⟨#[97]⟩ [3],prV ⟨#[98]⟩ []],int 0])) []:=by
 have h:=render_c ⟨[sA,sB],[mA,mB]⟩ ⟨by decide,by decide⟩ (okT_of (by decide) (by decide))
 rw [q5,q7] at h
 exact h
theorem sn_6:CallC P G 15 [.agg [nilS,nilS]] [] (.ret (.tup [vmk 3 0 ByteArray.empty [],int 0])) []:=by
 have h:=render_c zT ⟨by decide,by decide⟩ (okT_of (by decide) (by decide))
 rw [q6,q8] at h
 exact h.args' ⟨zT_sub,trivial⟩
theorem sn_7:CallC P G 13 [.agg [nilS,nilS],int 0] [] (.ret (.tup [ils [],int 1])) []:=by
 have h:=styles_c zT 0 ⟨by decide,by decide⟩ (okT_of (by decide) (by decide))
 rw [q9] at h
 exact h.args' ⟨zT_sub,Sub.refl _,trivial⟩
theorem sn_8:CallC P G 28 [.agg [nilS,nilS],dta 1 1,int 1,ida 0 0 0,str ⟨#[]⟩] [] (.ret (.tup [.agg [ces [],mks []],int 160])) []:=by
 have h:=type_c zT 1 1 1 0 0 0 ⟨#[]⟩ ⟨by decide,by decide⟩ (okT_of (by decide) (by decide)) (ir _) (ir _) (ir _) (ir _) (ir _)
 rw [q10] at h
 exact h.args' ⟨zT_sub,Sub.refl _,Sub.refl _,Sub.refl _,Sub.refl _,trivial⟩
theorem sn_9:CallC P G 17 [.agg [nilS,nilS]] [] (.ret (int 0)) []:=by
 have h:=check_c zT ⟨by decide,by decide⟩ (okT_of (by decide) (by decide))
 rw [q8] at h
 exact h.args' ⟨zT_sub,trivial⟩
theorem sn_10:CallC P G 17 [.agg [nilS,mks [mZ]]] [] (.ret (int 160)) []:=by
 have h:=check_c ⟨[],[mZ]⟩ ⟨by decide,by decide⟩ (okT_of (by decide) (by decide))
 rw [q11] at h
 exact h.args' ⟨.aggs ⟨Sub.nil 9,Sub.refl _,trivial⟩,trivial⟩
theorem sn_11:CallC P G 19 [.agg [ces [sA,sB],mks []]] [] (.ret (str ⟨#[97,98]⟩)) []:=by
 have h:=str_c ⟨[sA,sB],[]⟩ (by decide) (by decide)
 rw [q12] at h
 exact h
theorem sn_12:CallC P G 19 [.agg [ces [sA',sB],mks []]] [] (.ret (str ⟨#[98]⟩)) []:=by
 have h:=str_c ⟨[sA',sB],[]⟩ (by decide) (by decide)
 rw [q13] at h
 exact h
theorem sn_13:CallC P G 19 [.agg [nilS,nilS]] [] (.ret (str ⟨#[]⟩)) []:=by
 have h:=str_c zT (by decide) (by decide)
 rw [q14] at h
 exact h.args' ⟨zT_sub,trivial⟩
theorem sn_14:CallC P G 35 [str ⟨#[97]⟩,.sl 1 true [[int 3]]] [] (.ret (vmk 3 0 ByteArray.empty [tV ⟨#[97]⟩,lV [iV 3]])) []:=by
 have h:=(run_c ⟨#[97]⟩ [3] (by decide)).args' (xs:=[str ⟨#[97]⟩,.sl 1 true [[int 3]]]) ⟨Sub.refl _,Sub.loose 1 true _,trivial⟩
 exact h
theorem sn_15:CallC P G 35 [str ⟨#[98]⟩,nilS] [] (.ret (vmk 3 0 ByteArray.empty [tV ⟨#[98]⟩,lV []])) []:=by
 have h:=(run_c ⟨#[98]⟩ [] (by decide)).args' (xs:=[str ⟨#[98]⟩,nilS]) ⟨Sub.refl _,Sub.nil 1,trivial⟩
 exact h
theorem sn_16:CallC P G 22 [.agg [int 3,int 0,str ByteArray.empty,.sl 4 false (encL [prV ⟨#[97]⟩ [3],prV ⟨#[98]⟩ []])],.agg [int 3,int 0,str (ByteArray.mk #[]),.sl 4 true [[int 3,int 0,str ByteArray.empty,.sl 4 false (encL [tV ⟨#[97]⟩,lV [iV 3]])],[int 3,int 0,str ByteArray.empty,.sl 4 false (encL [tV ⟨#[98]⟩,lV []])]]]] [] (.ret (bool true)) []:=by
 have h:=vsame_c (lV [prV ⟨#[97]⟩ [3],prV ⟨#[98]⟩ []]) (lV [prV ⟨#[97]⟩ [3],prV ⟨#[98]⟩ []]) (OkS_lV (by decide) fun x hx=>by
  simp only [List.mem_cons,List.not_mem_nil,or_false] at hx
  rcases hx with rfl | rfl
  · exact OkS_prV _ _ (by decide)
  · exact OkS_prV _ _ (by decide))
 rw [decide_eq_true rfl] at h
 exact h.args' ⟨Sub.refl _,.aggs ⟨Sub.refl _,Sub.refl _,Sub.refl _,Sub.list_eq rfl,trivial⟩,trivial⟩
theorem sn_17:CallC P G 22 [.agg [int 3,int 0,str ByteArray.empty,.sl 4 false (encL [])],.agg [int 3,int 0,str (ByteArray.mk #[]),nilS]] [] (.ret (bool true)) []:=by
 have h:=vsame_c (lV []) (lV []) (OkS_lV (by decide) fun x hx=>by cases hx)
 rw [decide_eq_true rfl] at h
 exact h.args' ⟨Sub.refl _,.aggs ⟨Sub.refl _,Sub.refl _,Sub.refl _,Sub.nil 4,trivial⟩,trivial⟩
end Go.Tx


namespace Go.Tx
open Go Go.Am Go.Proofs Go.Seat
open Go.Sq (CE cel ces ida idv pid fX fiO OkRs OkR chkE)
open Go.Cdc (CV encL enc val vmk encL_length)
theorem sane_w  (h:True):CallC P G 11 [] [] (AOut.ret (Am.bool true)) []:=by
 have _:=h
 exact callC_of [kc [] (@Go.Tx.sn_1 ),kc [] (@Go.Tx.sn_2 ),kc [] (@Go.Tx.sn_3 ),kc [] (@Go.Tx.sn_4 ),kc [] (@Go.Tx.sn_5 ),kc [] (@Go.Tx.sn_6 ),kc [] (@Go.Tx.sn_7 ),kc [] (@Go.Tx.sn_8 ),kf (Eq.refl false),kf (Eq.refl false),kf (Eq.refl false),kf (Eq.refl false),kf (Eq.refl false),kf (Eq.refl false),kf (Eq.refl false),kf (Eq.refl false),kc [] (@Go.Tx.sn_9 ),kf (Eq.refl false),kc [] (show CallC P G 17 [AV.agg [nilS,AV.sl 11 true [[int 1,int 1,int 1,int 0,int 0,int 0,int 0,int 0,int 0,int 0,Am.bool false]]]] [] (AOut.ret (int 160)) [] from (CallC.args' (@Go.Tx.sn_10 ) ⟨Sub.aggs ⟨Sub.refl _,Sub.loose _ _ _,trivial⟩,trivial⟩)),kf (Eq.refl false),kc [] (@Go.Tx.sn_11 ),kt (Eq.refl true),kc [] (@Go.Tx.sn_12 ),kt (Eq.refl true),kt (Eq.refl true),kc [] (@Go.Tx.sn_13 ),kt (Eq.refl true),kc [] (@Go.Tx.sn_14 ),kc [] (@Go.Tx.sn_15 ),kc [] (@Go.Tx.sn_16 ),kt (Eq.refl true),kc [] (@Go.Tx.sn_17 )] (by kernel_rfl)
end Go.Tx


namespace Go.Tx
open Go Go.Am Go.Proofs Go.Seat
open Go.Sq (CE cel ces ida idv pid fX fiO OkRs OkR chkE)
structure ED where
 kd:Int
 tm:Int
 n:Int
 dv:Int
 sq:Int
 a:Int
 b:Int
 c:Int
 s:ByteArray
 m:MK
def edR (t:TE) (e:ED):TE × Int:=if e.kd=0 then typR t e.dv e.sq e.tm (e.a,e.b,e.c) e.s else if e.kd=1 then cutR t (e.a,e.b,e.c) e.n else addR t e.m
structure OkE (e:ED):Prop where
 kd:InR e.kd
 tm:InR e.tm
 n:InR e.n
 dv:InR e.dv
 sq:InR e.sq
 a:InR e.a
 b:InR e.b
 c:InR e.c
 m:OkM e.m
 s:e.s.size≤9223372036854775807
end Go.Tx
