import Derived.Test.YteaclamkacmhmaaDoorG22
import Derived.OpenShut
import Derived.LaidMore
import Derived.Test.YteaclamkacmhmaaDoorRows
import Derived.KernelRfl
set_option maxRecDepth 100000
set_option linter.unusedSimpArgs false
set_option linter.unusedVariables false

namespace Go.Tx
open Go Go.Am Go.Proofs Go.Seat
open Go.Sq (CE cel ces ida idv pid fX fiO OkRs OkR chkE)
theorem cz3:Tryd.prog.cellsOf 3=1:=by kernel_rfl
theorem cz4:Tryd.prog.cellsOf 4=1:=by kernel_rfl
theorem cz5:Tryd.prog.cellsOf 5=1:=by kernel_rfl
theorem cz9:Tryd.prog.cellsOf 9=1:=by kernel_rfl
theorem czCs:Tryd.prog.cellsOf 22=1:=by kernel_rfl
theorem czMs:Tryd.prog.cellsOf 23=1:=by kernel_rfl
theorem czID:Tryd.prog.cellsOf 45=3:=by kernel_rfl
theorem czD:Tryd.prog.cellsOf 43=2:=by kernel_rfl
theorem czC:Tryd.prog.cellsOf 58=9:=by kernel_rfl
theorem czM:Tryd.prog.cellsOf 47=11:=by kernel_rfl
theorem czT:Tryd.prog.cellsOf 25=2:=by kernel_rfl
noncomputable def cInt:Cod Tryd.prog 3 Int:=Cod.int Tryd.underlying3 cz3
noncomputable def cStr:Cod Tryd.prog 9 ByteArray:=Cod.str Tryd.underlying9 cz9
noncomputable def cBool:Cod Tryd.prog 4 Bool:=Cod.bool Tryd.underlying4 cz4
noncomputable def cDot:Cod Tryd.prog 43 (Int × Int):=Cod.struct Tryd.underlying43 (by kernel_rfl) (FCod.cons cInt rfl (FCod.cons cInt (by kernel_rfl) FCod.nil)) (fun a=>(a.1,a.2.1)) (fun a=>[Am.int a.1,Am.int a.2]) (fun _=>rfl) (fun _=>czD.symm)
noncomputable def cID:Cod Tryd.prog 45 (Int × Int × Int):=Cod.struct Tryd.underlying45 (by kernel_rfl) (FCod.cons cInt rfl (FCod.cons cInt (by kernel_rfl) (FCod.cons cInt (by kernel_rfl) FCod.nil))) (fun a=>(a.1,a.2.1,a.2.2.1)) (fun a=>[Am.int a.1,Am.int a.2.1,Am.int a.2.2]) (fun _=>rfl) (fun _=>czID.symm)
abbrev AC:=(Int × Int × Int) × (Int × Int × Int) × Int × ByteArray × Bool × Unit
noncomputable def cCE:Cod Tryd.prog 58 CE:=Cod.struct Tryd.underlying58 (by kernel_rfl) (FCod.cons cID rfl (FCod.cons cID (by kernel_rfl) (FCod.cons cInt (by kernel_rfl) (FCod.cons cStr (by kernel_rfl) (FCod.cons cBool (by kernel_rfl) FCod.nil)))))
 (fun a:AC=>⟨a.1.1,a.1.2.1,a.1.2.2,a.2.1.1,a.2.1.2.1,a.2.1.2.2,a.2.2.1,a.2.2.2.1,a.2.2.2.2.1⟩) Sq.enc (fun a:AC=>rfl) (fun _=>czC.symm)
noncomputable def cCells:Cod Tryd.prog 22 (List CE):=Cod.slice Tryd.underlying22 czCs (by rw [czC]; decide) cCE
theorem cCells_enc (v:List CE):cCells.enc v=[ces v]:=by
 show [AV.sl (Tryd.prog.cellsOf 58) false (v.map Sq.enc)]=[AV.sl 9 false (v.map Sq.enc)]
 rw [czC]
abbrev AMk:=(Int × Int) × Int × (Int × Int × Int) × (Int × Int × Int) × Int × Bool × Unit
noncomputable def cMK:Cod Tryd.prog 47 MK:=Cod.struct Tryd.underlying47 (by kernel_rfl) (FCod.cons cDot rfl (FCod.cons cInt (by kernel_rfl) (FCod.cons cID (by kernel_rfl) (FCod.cons cID (by kernel_rfl) (FCod.cons cInt (by kernel_rfl) (FCod.cons cBool (by kernel_rfl) FCod.nil))))))
 (fun a:AMk=>⟨a.1.1,a.1.2,a.2.1,a.2.2.1.1,a.2.2.1.2.1,a.2.2.1.2.2,a.2.2.2.1.1,a.2.2.2.1.2.1,a.2.2.2.1.2.2,a.2.2.2.2.1,a.2.2.2.2.2.1⟩) enc (fun a:AMk=>rfl) (fun _=>czM.symm)
noncomputable def cMarks:Cod Tryd.prog 23 (List MK):=Cod.slice Tryd.underlying23 czMs (by rw [czM]; decide) cMK
theorem cMarks_enc (v:List MK):cMarks.enc v=[mks v]:=by
 show [AV.sl (Tryd.prog.cellsOf 47) false (v.map enc)]=[AV.sl 11 false (v.map enc)]
 rw [czM]
abbrev AT:=List CE × List MK × Unit
noncomputable def cTE:Cod Tryd.prog 25 TE:=Cod.struct Tryd.underlying25 (by kernel_rfl) (FCod.cons cCells rfl (FCod.cons cMarks (by kernel_rfl) FCod.nil)) (fun a:AT=>⟨a.1,a.2.1⟩) (fun t=>[ces t.cells,mks t.marks]) (fun a:AT=>by
 show [ces a.1,mks a.2.1]=cCells.enc a.1++(cMarks.enc a.2.1++[])
 rw [cCells_enc,cMarks_enc]; rfl) (fun _=>czT.symm)
theorem cDot_ok {i:Int × Int} (h:cDot.good i):InR i.1∧InR i.2:=by
 obtain ⟨⟨_,_,_⟩,rfl,f1,f2,_⟩:=h
 exact ⟨f1,f2⟩
theorem cID_ok {i:Int × Int × Int} (h:cID.good i):InR i.1∧InR i.2.1∧InR i.2.2:=by
 obtain ⟨⟨_,_,_,_⟩,rfl,f1,f2,f3,_⟩:=h
 exact ⟨f1,f2,f3⟩
def SzC (l:List CE):Prop:=∀ x∈l,x.vl.size≤9223372036854775807
theorem cCE_ok {c:CE} (h:cCE.good c):OkR c∧c.vl.size≤9223372036854775807∧InR c.tm:=by
 obtain ⟨⟨_,_,_,_,_,_⟩,rfl,f1,f2,f3,f4,_⟩:=h
 exact ⟨⟨cID_ok f1,cID_ok f2⟩,f4,f3⟩
theorem cMK_ok {m:MK} (h:cMK.good m):OkM m:=by
 obtain ⟨⟨_,_,_,_,_,_,_⟩,rfl,f1,f2,f3,f4,f5,_⟩:=h
 have h1:=cDot_ok f1
 have h3:=cID_ok f3
 have h4:=cID_ok f4
 exact ⟨h1.1,h1.2,f2,h3.1,h3.2.1,h3.2.2,h4.1,h4.2.1,h4.2.2,f5⟩
theorem cTE_ok {t:TE} (h:cTE.good t):OkT t∧SzC t.cells∧∀ x∈t.cells,InR x.tm:=by
 obtain ⟨⟨_,_,_⟩,rfl,f1,f2,_⟩:=h
 exact ⟨⟨fun x hx=>(cCE_ok (f1.2 x hx)).1,fun x hx=>cMK_ok (f2.2 x hx)⟩,fun x hx=>(cCE_ok (f1.2 x hx)).2.1,fun x hx=>(cCE_ok (f1.2 x hx)).2.2⟩
section
variable {H:Type} {en:TypeId × Value→H} {W:World} {base:Nat} {v:Value} {d:DataW H} {ps:List MemPlace}
theorem reads_agg {α:Type} {t:TypeId} {fs:Array Field} (c:Cod Tryd.prog t α) (hu:Tryd.prog.underlying t=some (.struct fs)) (hv:Value.okWide Tryd.prog W .any base t v) (h:DataW.Trod en Tryd.prog W 0 (fun _=>true) true t v d ps):∃ a,c.good a∧Rep (view0 W) (.agg (c.enc a)) v:=by
 have hagg:∃ cs,v = .agg cs:=by
  unfold Value.okWide at hv
  rw [hu] at hv
  exact ⟨_,hv.choose_spec.1⟩
 obtain ⟨⟨cs⟩,rfl⟩:=hagg
 obtain ⟨n,hn⟩:=h
 have hn':DataW.trod en Tryd.prog W 0 (fun _=>true) true n t cs=some (d,ps):=hn
 obtain ⟨o,g,hl,hp⟩:=c.rd hn'
 exact ⟨o,g,.agg _ _ hl fun j hj=>.pure _ _ (hp j (by rw [hl]; exact hj)).1⟩
theorem reads_text (hv:Value.okWide Tryd.prog W .any base 25 v) (h:DataW.Trod en Tryd.prog W 0 (fun _=>true) true 25 v d ps):∃ t:TE,(OkT t∧SzC t.cells∧∀ x∈t.cells,InR x.tm)∧Rep (view0 W) (txt t) v:=by
 obtain ⟨a,h1,h2⟩:=reads_agg cTE Tryd.underlying25 hv h
 exact ⟨a,cTE_ok h1,h2⟩
end
theorem gT:Tryd.prog.globalNamed "math/bits.deBruijn32tab" = some 0:=by kernel_rfl
theorem tT:(Tryd.prog.globals[0]?).map (·.type)=some 124:=by kernel_rfl
theorem globs {W:World} (h:laidMetH Tryd.prog [("math/bits.deBruijn32tab",Go.Proofs.YteaclamkacmhmaaDoor.Rows.laid_math_bits_deBruijn32tab)] W):∀ g cs,G g=some cs→PRep W (fun _=>False) (.imm cs) (.pointer (some ⟨g,0,none⟩)):=by
 have h:laidMet Tryd.prog [("math/bits.deBruijn32tab",Go.Proofs.YteaclamkacmhmaaDoor.Rows.laid_math_bits_deBruijn32tab)] W:=h
 obtain ⟨_,⟨g',t,cs,fuel,p,q,hg,ht,hv,hd,_,_⟩,_⟩:=h
 obtain rfl:=Option.some.inj (gT.symm.trans hg)
 obtain rfl:=Option.some.inj (tT.symm.trans ht)
 obtain ⟨xs,m,_,hx,hl,hxl,hf⟩:=DataW.trod_array Tryd.underlying124 hd
 have hx1:xs.map (·.1)=tabB.map fun n=>DataW.lit (.int .u8 n):=by
  have:=(Prod.mk.inj hx).1
  exact (DataW.agg.inj this).symm
 have hlen:cs.toList.length=32:=hl.trans (by kernel_rfl)
 have cell:∀ j (hj:j<32),W.cell? ⟨0,j,none⟩=some (.int .u8 (tabB.getD j 0)):=fun j hj=>by
  have h1:=hf j hj
  have hjx:j<xs.length:=by omega
  rw [cz5,Nat.mul_one,List.getElem?_eq_getElem hjx] at h1
  obtain ⟨n,e1,e2,_⟩:=DataW.trod_int Tryd.underlying5 h1
  have hj2:j<cs.toList.length:=by omega
  rw [List.take_one,List.head?_drop,List.getElem?_eq_getElem hj2] at e1
  have e1:cs.toList[j] = .int .u8 n:=by simpa using e1
  have e3:(xs.map (·.1))[j]? = some (.lit (.int .u8 n)):=by rw [List.getElem?_map,List.getElem?_eq_getElem hjx,e2]; rfl
  rw [hx1,List.getElem?_map] at e3
  have hjt:j<tabB.length:=hj
  rw [List.getElem?_eq_getElem hjt] at e3
  have e4:tabB[j]=n:=by simpa using e3
  have:=World.var?_cell gT hv j
  rw [this,List.getD_eq_getElem?_getD,List.getElem?_eq_getElem hjt]
  have h5:cs[j]? = some cs.toList[j]:=by rw [← Array.getElem?_toList,List.getElem?_eq_getElem hj2]
  rw [h5,e1,← e4]
  rfl
 intro g cs' hg'
 unfold G at hg'
 split at hg'
 · rename_i e
   subst e
   cases hg'
   exact .imm _ _ (fun j=>.int .u8 (tabB.getD j 0)) rfl (fun _ h=>h) (fun j hj=>by rw [Nat.zero_add]; exact cell j (by simpa [tab,tabB] using hj)) (fun j hj=>by
    have hj:j<32:=by simpa [tab,tabB] using hj
    have:tab.getD j .dead = .lit (.int .u8 (tabB.getD j 0)):=by
     unfold tab
     rw [List.getD_eq_getElem?_getD,List.getElem?_map,List.getD_eq_getElem?_getD,List.getElem?_eq_getElem (show j<tabB.length from hj)]
     rfl
    rw [this]
    exact .lit _)
 · cases hg'
theorem door_met (os:Os) (args:Array Value):laidMetH Tryd.prog [("math/bits.deBruijn32tab",Go.Proofs.YteaclamkacmhmaaDoor.Rows.laid_math_bits_deBruijn32tab)] ((World.doorLaid Tryd.prog 600 os).forCall (fun _ _=>0) ⟨#[],args,[]⟩).memory :=
 laidMetH_of_parts3 (fuel:=8) (laidMet_of_run' 8 (by kernel_rfl) (by kernel_rfl)) (by kernel_rfl) (by kernel_rfl)
end Go.Tx


namespace Go.Tx
open Go Go.Am Go.Proofs Go.Seat
open Go.Sq (CE cel ces ida idv pid fX fiO OkRs OkR chkE)
open Go.Cdc (CV encL vmk val)
abbrev sl0:AV:=.sl 4 false []
def ivE (l:List Int):List (List AV):=l.map fun x=>[int 1,int x,str ByteArray.empty,sl0]
def prE (l:List (ByteArray × List Int)):List (List AV):=l.map fun p=>[int 3,int 0,str ByteArray.empty,.sl 4 false [[int 2,int 0,str p.1,sl0],[int 3,int 0,str ByteArray.empty,.sl 4 false (ivE p.2)]]]
theorem ivE_length (l:List Int):(ivE l).length=l.length:=by simp [ivE]
theorem prE_length (l:List (ByteArray × List Int)):(prE l).length=l.length:=by simp [prE]
abbrev vB (rs:List (ByteArray × List Int)):AObj:=.box [int 3,int 0,str ByteArray.empty,.sl 4 false (prE rs)]
def rrH (t:TE) (rs:List (ByteArray × List Int)):List AObj:=[sbT t,vB rs]
def r0S (t:TE) (rs:List (ByteArray × List Int)) (s:ByteArray) (k:Nat):St:={ env:=slots 186 [(1,.ptr 0 0),(3,.ptr 1 0),(5,nilS),(6,str s),(7,int k)],H:=rrH t rs }
theorem tr_0 (t:TE) (hf:CallC P G 12 [txt t] [] (.ret (bool false)) []) (h:True):CallC P G 9 [txt t] [] (AOut.ret (Am.bool true)) []:=by
 have _:=h
 exact callC_of [kc [] (@Go.Tx.sane_w (trivial)),kf (Eq.refl false),kc [] (@hf ),kt (Eq.refl true)] (by kernel_rfl)
theorem tr_1 (t:TE) (e:Int) (he:e≠0) (hf:CallC P G 12 [txt t] [] (.ret (bool true)) []) (hr:CallC P G 15 [txt t] [] (.ret (.tup [vmk 0 0 ByteArray.empty [],int e])) []) (hc:CallC P G 17 [txt t] [] (.ret (int e)) []) (hs:CallC P G 22 [vmk 0 0 ByteArray.empty [],.agg [int 0,int 0,str (ByteArray.mk #[]),nilS]] [] (.ret (bool true)) []) (h:True):CallC P G 9 [txt t] [] (AOut.ret (Am.bool true)) []:=by
 have _:=h
 exact callC_of [kc [] (@Go.Tx.sane_w (trivial)),kf (Eq.refl false),kc [] (@hf ),kf (Eq.refl false),kc [] (@hr ),kt (show (e != 0)=true from (congrArg Bool.not (decide_eq_false (by omega)))),kc [] (@hc ),kt (show (e == e)=true from (decide_eq_true (by omega))),kc [] (@hs )] (by kernel_rfl)
def l1S (t:TE) (rs:List (ByteArray × List Int)) (st:AV) (s:ByteArray) (k:Nat) (L:AV) (j:Nat) (K:List AObj):St:={ env:=slots 186 [(1,.ptr 0 0),(3,.ptr 1 0),(5,st),(6,str s),(7,int k),(8,L),(9,int j)],H:=rrH t rs++K }
def l1X (t:TE) (rs:List (ByteArray × List Int)) (st:AV) (s:ByteArray) (k:Nat) (L:AV) (K:List AObj):St:={ env:=slots 186 [(1,.ptr 0 0),(3,.ptr 1 0),(5,st),(6,str s),(7,int k),(8,L)],H:=rrH t rs++K }
theorem laA_0 (t:TE) (rs:List (ByteArray × List Int)) (s:ByteArray) (k:Nat) (p:ByteArray × List Int) (v:Int) (hx:rs[k]? = some p) (hk:(k:Int)<(rs.length:Int)) (hv:p.2[0]? = some v) (hl:(p.2.length:Int)≤16) (hl0:(0:Int)<(p.2.length:Int)) (ex:AEx) (s':St) (h:RunL P G none 0 (loopAt P 9 1) (St.mk (slots 186 [(1,AV.ptr 0 0),(3,AV.ptr 1 0),(5,nilS),(6,str s),(7,int (↑k:Int)),(8,AV.own 2 0 0 (List.length [v])),(9,int 1)]) [AObj.box [AV.sl 9 false (Sq.encs (TE.cells t)),AV.sl 11 false (encs (TE.marks t))],AObj.box [int 3,int 0,str ByteArray.empty,AV.sl 4 false (prE rs)],AObj.arr 0 1 false (Vec.ints [v])] []) ex s'):RunL P G none 0 (loopAt P 9 1) (l1S t rs nilS s k nilS 0 []) ex s':=by
 have hz0:(0:Int)≤(↑k:Int)∧(prE rs)[Int.toNat (↑k:Int)]? = some [int 3,int 0,str ByteArray.empty,AV.sl 4 false [[int 2,int 0,str (Prod.fst p),sl0],[int 3,int 0,str ByteArray.empty,AV.sl 4 false (ivE (Prod.snd p))]]]:=(el_nat hx)
 have hz1:(0:Int)≤(1:Int)∧[[int 2,int 0,str (Prod.fst p),sl0],[int 3,int 0,str ByteArray.empty,AV.sl 4 false (ivE (Prod.snd p))]][Int.toNat 1]? = some [int 3,int 0,str ByteArray.empty,AV.sl 4 false (ivE (Prod.snd p))]:=(⟨by decide,rfl⟩)
 exact loop_next [ko (Orc.elem [int 3,int 0,str ByteArray.empty,AV.sl 4 false [[int 2,int 0,str (Prod.fst p),sl0],[int 3,int 0,str ByteArray.empty,AV.sl 4 false (ivE (Prod.snd p))]]]),ko (Orc.elem [int 3,int 0,str ByteArray.empty,AV.sl 4 false (ivE (Prod.snd p))]),kp hz0,kp hz1,kv 74 (show Am.Sub (int (↑(List.length (ivE (Prod.snd p))):Int)) (int (↑(List.length (Prod.snd p)):Int)) from (Sub.of_eq (by simp only [Go.Tx.ivE_length]))),kt (show decide ((↑0:Int)<(↑(List.length (Prod.snd p)):Int))=true from (decide_eq_true (by omega))),ko (Orc.elem [int 3,int 0,str ByteArray.empty,AV.sl 4 false [[int 2,int 0,str (Prod.fst p),sl0],[int 3,int 0,str ByteArray.empty,AV.sl 4 false (ivE (Prod.snd p))]]]),ko (Orc.elem [int 3,int 0,str ByteArray.empty,AV.sl 4 false (ivE (Prod.snd p))]),ko (Orc.elem [int 1,int v,str ByteArray.empty,sl0]),kp hz0,kp hz1,kp (show (0:Int)≤(0:Int)∧(ivE (Prod.snd p))[Int.toNat (↑0:Int)]? = some [int 1,int v,str ByteArray.empty,sl0] from (el_nat hv)),kp (show [[int v]]≠[] from (by simp)),kp (show 8≤140737488355328 from (by omega))] (others 186 [1,3,5,6,7,8,9]) 3 h (by kernel_rfl)
theorem laA_n (t:TE) (rs:List (ByteArray × List Int)) (s:ByteArray) (k:Nat) (p:ByteArray × List Int) (v:Int) (j g:Nat) (z:List Int) (hz:z.length≤16) (hx:rs[k]? = some p) (hk:(k:Int)<(rs.length:Int)) (hv:p.2[j]? = some v) (hl:(p.2.length:Int)≤16) (hj:(j:Int)<(p.2.length:Int)) (ex:AEx) (s':St) (h:RunL P G none 0 (loopAt P 9 1) (St.mk (slots 186 [(1,AV.ptr 0 0),(3,AV.ptr 1 0),(5,nilS),(6,str s),(7,int (↑k:Int)),(8,AV.own 2 (g+1) 0 (List.length (z++[v]))),(9,int (↑(j+1):Int))]) [AObj.box [AV.sl 9 false (Sq.encs (TE.cells t)),AV.sl 11 false (encs (TE.marks t))],AObj.box [int 3,int 0,str ByteArray.empty,AV.sl 4 false (prE rs)],AObj.arr (g+1) 1 false (Vec.ints (z++[v]))] []) ex s'):RunL P G none 0 (loopAt P 9 1) (l1S t rs nilS s k (AV.own 2 g 0 (List.length z)) j [AObj.arr g 1 false (Vec.ints z)]) ex s':=by
 have hz0:(0:Int)≤(↑k:Int)∧(prE rs)[Int.toNat (↑k:Int)]? = some [int 3,int 0,str ByteArray.empty,AV.sl 4 false [[int 2,int 0,str (Prod.fst p),sl0],[int 3,int 0,str ByteArray.empty,AV.sl 4 false (ivE (Prod.snd p))]]]:=(el_nat hx)
 have hz1:(0:Int)≤(1:Int)∧[[int 2,int 0,str (Prod.fst p),sl0],[int 3,int 0,str ByteArray.empty,AV.sl 4 false (ivE (Prod.snd p))]][Int.toNat 1]? = some [int 3,int 0,str ByteArray.empty,AV.sl 4 false (ivE (Prod.snd p))]:=(⟨by decide,rfl⟩)
 exact loop_next [ko (Orc.elem [int 3,int 0,str ByteArray.empty,AV.sl 4 false [[int 2,int 0,str (Prod.fst p),sl0],[int 3,int 0,str ByteArray.empty,AV.sl 4 false (ivE (Prod.snd p))]]]),ko (Orc.elem [int 3,int 0,str ByteArray.empty,AV.sl 4 false (ivE (Prod.snd p))]),kp hz0,kp hz1,kv 74 (show Am.Sub (int (↑(List.length (ivE (Prod.snd p))):Int)) (int (↑(List.length (Prod.snd p)):Int)) from (Sub.of_eq (by simp only [Go.Tx.ivE_length]))),kt (show decide ((↑j:Int)<(↑(List.length (Prod.snd p)):Int))=true from (decide_eq_true (by omega))),ko (Orc.elem [int 3,int 0,str ByteArray.empty,AV.sl 4 false [[int 2,int 0,str (Prod.fst p),sl0],[int 3,int 0,str ByteArray.empty,AV.sl 4 false (ivE (Prod.snd p))]]]),ko (Orc.elem [int 3,int 0,str ByteArray.empty,AV.sl 4 false (ivE (Prod.snd p))]),ko (Orc.elem [int 1,int v,str ByteArray.empty,sl0]),ko (Orc.hp (some 93) (AV.own 2 (g+1) 0 (List.length (z++[v]))) [AObj.box [AV.sl 9 false (Sq.encs (TE.cells t)),AV.sl 11 false (encs (TE.marks t))],AObj.box [int 3,int 0,str ByteArray.empty,AV.sl 4 false (prE rs)],AObj.arr (g+1) 1 false (Vec.ints (z++[v]))]),kp hz0,kp hz1,kp (show (0:Int)≤(↑j:Int)∧(ivE (Prod.snd p))[Int.toNat (↑j:Int)]? = some [int 1,int v,str ByteArray.empty,sl0] from (el_nat hv)),kp (show Am.Sub (AV.own 2 (g+1) 0 (List.length z+1)) (AV.own 2 (g+1) 0 (List.length (z++[v]))) from (Sub.of_eq (by simp [Go.Vec.ints_length,Go.Vec.ints_ids]))),kp (show Am.HSub [AObj.box [AV.sl 9 false (Sq.encs (TE.cells t)),AV.sl 11 false (encs (TE.marks t))],AObj.box [int 3,int 0,str ByteArray.empty,AV.sl 4 false (prE rs)],AObj.arr (g+1) 1 false (Vec.ints z++[[int v]])] [AObj.box [AV.sl 9 false (Sq.encs (TE.cells t)),AV.sl 11 false (encs (TE.marks t))],AObj.box [int 3,int 0,str ByteArray.empty,AV.sl 4 false (prE rs)],AObj.arr (g+1) 1 false (Vec.ints (z++[v]))] from (⟨.inl rfl,.inl rfl,.inl (by simp only [Go.Vec.ints_append,Go.Vec.ints_one]),trivial⟩)),kp (show g=g from (rfl)),kp (show List.length z=List.length (Vec.ints z) from ((Go.Vec.ints_length _).symm)),kp (show (List.length z+1) * 8≤140737488355328 from (by omega)),kv 77 (show Am.Sub (int (IntKind.wrap IntKind.i64 ((↑j:Int)+1))) (int (↑(j+1):Int)) from (Sub.of_wrap (by omega) (by omega) (by omega)))] (others 186 [1,3,5,6,7,8,9]) 3 h (by kernel_rfl)
theorem laA_z (t:TE) (rs:List (ByteArray × List Int)) (s:ByteArray) (k:Nat) (p:ByteArray × List Int) (hx:rs[k]? = some p) (hk:(k:Int)<(rs.length:Int)) (hl:¬ (0:Int)<(p.2.length:Int)) (h:True):RunL P G none 0 (loopAt P 9 1) (l1S t rs nilS s k nilS 0 []) (AEx.exit 2) (l1X t rs nilS s k nilS []):=by
 have _:=h
 exact loop_exit [ko (Orc.elem [int 3,int 0,str ByteArray.empty,AV.sl 4 false [[int 2,int 0,str (Prod.fst p),sl0],[int 3,int 0,str ByteArray.empty,AV.sl 4 false (ivE (Prod.snd p))]]]),ko (Orc.elem [int 3,int 0,str ByteArray.empty,AV.sl 4 false (ivE (Prod.snd p))]),kp (show (0:Int)≤(↑k:Int)∧(prE rs)[Int.toNat (↑k:Int)]? = some [int 3,int 0,str ByteArray.empty,AV.sl 4 false [[int 2,int 0,str (Prod.fst p),sl0],[int 3,int 0,str ByteArray.empty,AV.sl 4 false (ivE (Prod.snd p))]]] from (el_nat hx)),kp (show (0:Int)≤(1:Int)∧[[int 2,int 0,str (Prod.fst p),sl0],[int 3,int 0,str ByteArray.empty,AV.sl 4 false (ivE (Prod.snd p))]][Int.toNat 1]? = some [int 3,int 0,str ByteArray.empty,AV.sl 4 false (ivE (Prod.snd p))] from (⟨by decide,rfl⟩)),kv 74 (show Am.Sub (int (↑(List.length (ivE (Prod.snd p))):Int)) (int (↑(List.length (Prod.snd p)):Int)) from (Sub.of_eq (by simp only [Go.Tx.ivE_length]))),kf (show decide ((↑0:Int)<(↑(List.length (Prod.snd p)):Int))=false from (decide_eq_false (by omega)))] (others 186 [1,3,5,6,7,8]) 2 (by kernel_rfl)
theorem laA_e (t:TE) (rs:List (ByteArray × List Int)) (s:ByteArray) (k:Nat) (p:ByteArray × List Int) (j g:Nat) (z:List Int) (hx:rs[k]? = some p) (hk:(k:Int)<(rs.length:Int)) (hj:¬ (j:Int)<(p.2.length:Int)) (h:True):RunL P G none 0 (loopAt P 9 1) (l1S t rs nilS s k (AV.own 2 g 0 (List.length z)) j [AObj.arr g 1 false (Vec.ints z)]) (AEx.exit 2) (l1X t rs nilS s k (AV.own 2 g 0 (List.length z)) [AObj.arr g 1 false (Vec.ints z)]):=by
 have _:=h
 exact loop_exit [ko (Orc.elem [int 3,int 0,str ByteArray.empty,AV.sl 4 false [[int 2,int 0,str (Prod.fst p),sl0],[int 3,int 0,str ByteArray.empty,AV.sl 4 false (ivE (Prod.snd p))]]]),ko (Orc.elem [int 3,int 0,str ByteArray.empty,AV.sl 4 false (ivE (Prod.snd p))]),kp (show (0:Int)≤(↑k:Int)∧(prE rs)[Int.toNat (↑k:Int)]? = some [int 3,int 0,str ByteArray.empty,AV.sl 4 false [[int 2,int 0,str (Prod.fst p),sl0],[int 3,int 0,str ByteArray.empty,AV.sl 4 false (ivE (Prod.snd p))]]] from (el_nat hx)),kp (show (0:Int)≤(1:Int)∧[[int 2,int 0,str (Prod.fst p),sl0],[int 3,int 0,str ByteArray.empty,AV.sl 4 false (ivE (Prod.snd p))]][Int.toNat 1]? = some [int 3,int 0,str ByteArray.empty,AV.sl 4 false (ivE (Prod.snd p))] from (⟨by decide,rfl⟩)),kv 74 (show Am.Sub (int (↑(List.length (ivE (Prod.snd p))):Int)) (int (↑(List.length (Prod.snd p)):Int)) from (Sub.of_eq (by simp only [Go.Tx.ivE_length]))),kf (show decide ((↑j:Int)<(↑(List.length (Prod.snd p)):Int))=false from (decide_eq_false (by omega)))] (others 186 [1,3,5,6,7,8]) 3 (by kernel_rfl)
end Go.Tx


namespace Go.Tx
open Go Go.Am Go.Proofs Go.Seat
open Go.Sq (CE cel ces ida idv pid fX fiO OkRs OkR chkE)
open Go.Cdc (CV encL vmk val)
theorem laB_0 (t:TE) (rs:List (ByteArray × List Int)) (sg:Nat) (sty:List (List Int)) (s:ByteArray) (k:Nat) (p:ByteArray × List Int) (v:Int) (hx:rs[k]? = some p) (hk:(k:Int)<(rs.length:Int)) (hv:p.2[0]? = some v) (hl:(p.2.length:Int)≤16) (hl0:(0:Int)<(p.2.length:Int)) (ex:AEx) (s':St) (h:RunL P G none 0 (loopAt P 9 1) (St.mk (slots 186 [(1,AV.ptr 0 0),(3,AV.ptr 1 0),(5,AV.own 2 sg 0 (List.length sty)),(6,str s),(7,int (↑k:Int)),(8,AV.own 3 0 0 (List.length [v])),(9,int 1)]) [AObj.box [AV.sl 9 false (Sq.encs (TE.cells t)),AV.sl 11 false (encs (TE.marks t))],AObj.box [int 3,int 0,str ByteArray.empty,AV.sl 4 false (prE rs)],AObj.arr sg 1 false (alE sty),AObj.arr 0 1 false (Vec.ints [v])] []) ex s'):RunL P G none 0 (loopAt P 9 1) (l1S t rs (AV.own 2 sg 0 (List.length sty)) s k nilS 0 [AObj.arr sg 1 false (alE sty)]) ex s':=by
 have hz0:(0:Int)≤(↑k:Int)∧(prE rs)[Int.toNat (↑k:Int)]? = some [int 3,int 0,str ByteArray.empty,AV.sl 4 false [[int 2,int 0,str (Prod.fst p),sl0],[int 3,int 0,str ByteArray.empty,AV.sl 4 false (ivE (Prod.snd p))]]]:=(el_nat hx)
 have hz1:(0:Int)≤(1:Int)∧[[int 2,int 0,str (Prod.fst p),sl0],[int 3,int 0,str ByteArray.empty,AV.sl 4 false (ivE (Prod.snd p))]][Int.toNat 1]? = some [int 3,int 0,str ByteArray.empty,AV.sl 4 false (ivE (Prod.snd p))]:=(⟨by decide,rfl⟩)
 exact loop_next [ko (Orc.elem [int 3,int 0,str ByteArray.empty,AV.sl 4 false [[int 2,int 0,str (Prod.fst p),sl0],[int 3,int 0,str ByteArray.empty,AV.sl 4 false (ivE (Prod.snd p))]]]),ko (Orc.elem [int 3,int 0,str ByteArray.empty,AV.sl 4 false (ivE (Prod.snd p))]),kp hz0,kp hz1,kv 74 (show Am.Sub (int (↑(List.length (ivE (Prod.snd p))):Int)) (int (↑(List.length (Prod.snd p)):Int)) from (Sub.of_eq (by simp only [Go.Tx.ivE_length]))),kt (show decide ((↑0:Int)<(↑(List.length (Prod.snd p)):Int))=true from (decide_eq_true (by omega))),ko (Orc.elem [int 3,int 0,str ByteArray.empty,AV.sl 4 false [[int 2,int 0,str (Prod.fst p),sl0],[int 3,int 0,str ByteArray.empty,AV.sl 4 false (ivE (Prod.snd p))]]]),ko (Orc.elem [int 3,int 0,str ByteArray.empty,AV.sl 4 false (ivE (Prod.snd p))]),ko (Orc.elem [int 1,int v,str ByteArray.empty,sl0]),kp hz0,kp hz1,kp (show (0:Int)≤(0:Int)∧(ivE (Prod.snd p))[Int.toNat (↑0:Int)]? = some [int 1,int v,str ByteArray.empty,sl0] from (el_nat hv)),kp (show [[int v]]≠[] from (by simp)),kp (show 8≤140737488355328 from (by omega))] (others 186 [1,3,5,6,7,8,9]) 4 h (by kernel_rfl)
theorem laB_n (t:TE) (rs:List (ByteArray × List Int)) (sg:Nat) (sty:List (List Int)) (s:ByteArray) (k:Nat) (p:ByteArray × List Int) (v:Int) (j g:Nat) (z:List Int) (hz:z.length≤16) (hx:rs[k]? = some p) (hk:(k:Int)<(rs.length:Int)) (hv:p.2[j]? = some v) (hl:(p.2.length:Int)≤16) (hj:(j:Int)<(p.2.length:Int)) (ex:AEx) (s':St) (h:RunL P G none 0 (loopAt P 9 1) (St.mk (slots 186 [(1,AV.ptr 0 0),(3,AV.ptr 1 0),(5,AV.own 2 sg 0 (List.length sty)),(6,str s),(7,int (↑k:Int)),(8,AV.own 3 (g+1) 0 (List.length (z++[v]))),(9,int (↑(j+1):Int))]) [AObj.box [AV.sl 9 false (Sq.encs (TE.cells t)),AV.sl 11 false (encs (TE.marks t))],AObj.box [int 3,int 0,str ByteArray.empty,AV.sl 4 false (prE rs)],AObj.arr sg 1 false (alE sty),AObj.arr (g+1) 1 false (Vec.ints (z++[v]))] []) ex s'):RunL P G none 0 (loopAt P 9 1) (l1S t rs (AV.own 2 sg 0 (List.length sty)) s k (AV.own 3 g 0 (List.length z)) j [AObj.arr sg 1 false (alE sty),AObj.arr g 1 false (Vec.ints z)]) ex s':=by
 have hz0:(0:Int)≤(↑k:Int)∧(prE rs)[Int.toNat (↑k:Int)]? = some [int 3,int 0,str ByteArray.empty,AV.sl 4 false [[int 2,int 0,str (Prod.fst p),sl0],[int 3,int 0,str ByteArray.empty,AV.sl 4 false (ivE (Prod.snd p))]]]:=(el_nat hx)
 have hz1:(0:Int)≤(1:Int)∧[[int 2,int 0,str (Prod.fst p),sl0],[int 3,int 0,str ByteArray.empty,AV.sl 4 false (ivE (Prod.snd p))]][Int.toNat 1]? = some [int 3,int 0,str ByteArray.empty,AV.sl 4 false (ivE (Prod.snd p))]:=(⟨by decide,rfl⟩)
 exact loop_next [ko (Orc.elem [int 3,int 0,str ByteArray.empty,AV.sl 4 false [[int 2,int 0,str (Prod.fst p),sl0],[int 3,int 0,str ByteArray.empty,AV.sl 4 false (ivE (Prod.snd p))]]]),ko (Orc.elem [int 3,int 0,str ByteArray.empty,AV.sl 4 false (ivE (Prod.snd p))]),kp hz0,kp hz1,kv 74 (show Am.Sub (int (↑(List.length (ivE (Prod.snd p))):Int)) (int (↑(List.length (Prod.snd p)):Int)) from (Sub.of_eq (by simp only [Go.Tx.ivE_length]))),kt (show decide ((↑j:Int)<(↑(List.length (Prod.snd p)):Int))=true from (decide_eq_true (by omega))),ko (Orc.elem [int 3,int 0,str ByteArray.empty,AV.sl 4 false [[int 2,int 0,str (Prod.fst p),sl0],[int 3,int 0,str ByteArray.empty,AV.sl 4 false (ivE (Prod.snd p))]]]),ko (Orc.elem [int 3,int 0,str ByteArray.empty,AV.sl 4 false (ivE (Prod.snd p))]),ko (Orc.elem [int 1,int v,str ByteArray.empty,sl0]),ko (Orc.hp (some 93) (AV.own 3 (g+1) 0 (List.length (z++[v]))) [AObj.box [AV.sl 9 false (Sq.encs (TE.cells t)),AV.sl 11 false (encs (TE.marks t))],AObj.box [int 3,int 0,str ByteArray.empty,AV.sl 4 false (prE rs)],AObj.arr sg 1 false (alE sty),AObj.arr (g+1) 1 false (Vec.ints (z++[v]))]),kp hz0,kp hz1,kp (show (0:Int)≤(↑j:Int)∧(ivE (Prod.snd p))[Int.toNat (↑j:Int)]? = some [int 1,int v,str ByteArray.empty,sl0] from (el_nat hv)),kp (show Am.Sub (AV.own 3 (g+1) 0 (List.length z+1)) (AV.own 3 (g+1) 0 (List.length (z++[v]))) from (Sub.of_eq (by simp [Go.Vec.ints_length,Go.Vec.ints_ids,Go.Tx.alE_length,Go.Tx.alE_ids]))),kp (show Am.HSub [AObj.box [AV.sl 9 false (Sq.encs (TE.cells t)),AV.sl 11 false (encs (TE.marks t))],AObj.box [int 3,int 0,str ByteArray.empty,AV.sl 4 false (prE rs)],AObj.arr sg 1 false (alE sty),AObj.arr (g+1) 1 false (Vec.ints z++[[int v]])] [AObj.box [AV.sl 9 false (Sq.encs (TE.cells t)),AV.sl 11 false (encs (TE.marks t))],AObj.box [int 3,int 0,str ByteArray.empty,AV.sl 4 false (prE rs)],AObj.arr sg 1 false (alE sty),AObj.arr (g+1) 1 false (Vec.ints (z++[v]))] from (⟨.inl rfl,.inl rfl,.inl rfl,.inl (by simp only [Go.Vec.ints_append,Go.Vec.ints_one]),trivial⟩)),kp (show g=g from (rfl)),kp (show List.length z=List.length (Vec.ints z) from ((Go.Vec.ints_length _).symm)),kp (show (List.length z+1) * 8≤140737488355328 from (by omega)),kv 77 (show Am.Sub (int (IntKind.wrap IntKind.i64 ((↑j:Int)+1))) (int (↑(j+1):Int)) from (Sub.of_wrap (by omega) (by omega) (by omega)))] (others 186 [1,3,5,6,7,8,9]) 4 h (by kernel_rfl)
theorem laB_z (t:TE) (rs:List (ByteArray × List Int)) (sg:Nat) (sty:List (List Int)) (s:ByteArray) (k:Nat) (p:ByteArray × List Int) (hx:rs[k]? = some p) (hk:(k:Int)<(rs.length:Int)) (hl:¬ (0:Int)<(p.2.length:Int)) (h:True):RunL P G none 0 (loopAt P 9 1) (l1S t rs (AV.own 2 sg 0 (List.length sty)) s k nilS 0 [AObj.arr sg 1 false (alE sty)]) (AEx.exit 2) (l1X t rs (AV.own 2 sg 0 (List.length sty)) s k nilS [AObj.arr sg 1 false (alE sty)]):=by
 have _:=h
 exact loop_exit [ko (Orc.elem [int 3,int 0,str ByteArray.empty,AV.sl 4 false [[int 2,int 0,str (Prod.fst p),sl0],[int 3,int 0,str ByteArray.empty,AV.sl 4 false (ivE (Prod.snd p))]]]),ko (Orc.elem [int 3,int 0,str ByteArray.empty,AV.sl 4 false (ivE (Prod.snd p))]),kp (show (0:Int)≤(↑k:Int)∧(prE rs)[Int.toNat (↑k:Int)]? = some [int 3,int 0,str ByteArray.empty,AV.sl 4 false [[int 2,int 0,str (Prod.fst p),sl0],[int 3,int 0,str ByteArray.empty,AV.sl 4 false (ivE (Prod.snd p))]]] from (el_nat hx)),kp (show (0:Int)≤(1:Int)∧[[int 2,int 0,str (Prod.fst p),sl0],[int 3,int 0,str ByteArray.empty,AV.sl 4 false (ivE (Prod.snd p))]][Int.toNat 1]? = some [int 3,int 0,str ByteArray.empty,AV.sl 4 false (ivE (Prod.snd p))] from (⟨by decide,rfl⟩)),kv 74 (show Am.Sub (int (↑(List.length (ivE (Prod.snd p))):Int)) (int (↑(List.length (Prod.snd p)):Int)) from (Sub.of_eq (by simp only [Go.Tx.ivE_length]))),kf (show decide ((↑0:Int)<(↑(List.length (Prod.snd p)):Int))=false from (decide_eq_false (by omega)))] (others 186 [1,3,5,6,7,8]) 3 (by kernel_rfl)
theorem laB_e (t:TE) (rs:List (ByteArray × List Int)) (sg:Nat) (sty:List (List Int)) (s:ByteArray) (k:Nat) (p:ByteArray × List Int) (j g:Nat) (z:List Int) (hx:rs[k]? = some p) (hk:(k:Int)<(rs.length:Int)) (hj:¬ (j:Int)<(p.2.length:Int)) (h:True):RunL P G none 0 (loopAt P 9 1) (l1S t rs (AV.own 2 sg 0 (List.length sty)) s k (AV.own 3 g 0 (List.length z)) j [AObj.arr sg 1 false (alE sty),AObj.arr g 1 false (Vec.ints z)]) (AEx.exit 2) (l1X t rs (AV.own 2 sg 0 (List.length sty)) s k (AV.own 3 g 0 (List.length z)) [AObj.arr sg 1 false (alE sty),AObj.arr g 1 false (Vec.ints z)]):=by
 have _:=h
 exact loop_exit [ko (Orc.elem [int 3,int 0,str ByteArray.empty,AV.sl 4 false [[int 2,int 0,str (Prod.fst p),sl0],[int 3,int 0,str ByteArray.empty,AV.sl 4 false (ivE (Prod.snd p))]]]),ko (Orc.elem [int 3,int 0,str ByteArray.empty,AV.sl 4 false (ivE (Prod.snd p))]),kp (show (0:Int)≤(↑k:Int)∧(prE rs)[Int.toNat (↑k:Int)]? = some [int 3,int 0,str ByteArray.empty,AV.sl 4 false [[int 2,int 0,str (Prod.fst p),sl0],[int 3,int 0,str ByteArray.empty,AV.sl 4 false (ivE (Prod.snd p))]]] from (el_nat hx)),kp (show (0:Int)≤(1:Int)∧[[int 2,int 0,str (Prod.fst p),sl0],[int 3,int 0,str ByteArray.empty,AV.sl 4 false (ivE (Prod.snd p))]][Int.toNat 1]? = some [int 3,int 0,str ByteArray.empty,AV.sl 4 false (ivE (Prod.snd p))] from (⟨by decide,rfl⟩)),kv 74 (show Am.Sub (int (↑(List.length (ivE (Prod.snd p))):Int)) (int (↑(List.length (Prod.snd p)):Int)) from (Sub.of_eq (by simp only [Go.Tx.ivE_length]))),kf (show decide ((↑j:Int)<(↑(List.length (Prod.snd p)):Int))=false from (decide_eq_false (by omega)))] (others 186 [1,3,5,6,7,8]) 4 (by kernel_rfl)
end Go.Tx


namespace Go.Tx
open Go Go.Am Go.Proofs Go.Seat
open Go.Sq (CE cel ces ida idv pid fX fiO OkRs OkR chkE)
open Go.Cdc (CV encL vmk val)
def l2S (t:TE) (rs:List (ByteArray × List Int)) (st:AV) (s:ByteArray) (k:Nat) (L:AV) (j:Nat) (K:List AObj):St:={ env:=slots 186 [(1,.ptr 0 0),(3,.ptr 1 0),(5,st),(6,str s),(7,int k),(8,L),(10,int j)],H:=rrH t rs++K }
def l2X (t:TE) (rs:List (ByteArray × List Int)) (s:ByteArray) (k:Nat) (g:Nat) (sty:List (List Int)):St:={ env:=slots 186 [(1,.ptr 0 0),(3,.ptr 1 0),(5,.own 2 g 0 sty.length),(6,str s),(7,int k)],H:=rrH t rs++[.arr g 1 false (alE sty)] }
theorem lb_0 (t:TE) (rs:List (ByteArray × List Int)) (s:ByteArray) (k:Nat) (p:ByteArray × List Int) (l:List Int) (hx:rs[k]? = some p) (hk:(k:Int)<(rs.length:Int)) (hrl:rs.length≤40) (hz:(p.1.size:Int)≤40) (h0:(0:Int)<(p.1.size:Int)) (ex:AEx) (s':St) (h:RunL P G none 0 (loopAt P 9 2) (St.mk (slots 186 [(1,AV.ptr 0 0),(3,AV.ptr 1 0),(5,AV.own 2 0 0 1),(6,str s),(7,int (↑k:Int)),(8,AV.sl 1 false (Vec.ints l)),(10,int 1)]) [AObj.box [AV.sl 9 false (Sq.encs (TE.cells t)),AV.sl 11 false (encs (TE.marks t))],AObj.box [int 3,int 0,str ByteArray.empty,AV.sl 4 false (prE rs)],AObj.arr 0 1 false [[AV.sl 1 false (Vec.ints l)]]] []) ex s'):RunL P G none 0 (loopAt P 9 2) (l2S t rs nilS s k (ils l) 0 []) ex s':=by
 exact loop_next [ko (Orc.elem [int 3,int 0,str ByteArray.empty,AV.sl 4 false [[int 2,int 0,str (Prod.fst p),sl0],[int 3,int 0,str ByteArray.empty,AV.sl 4 false (ivE (Prod.snd p))]]]),ko (Orc.elem [int 2,int 0,str (Prod.fst p),AV.sl 4 false []]),kp (show (0:Int)≤(↑k:Int)∧(prE rs)[Int.toNat (↑k:Int)]? = some [int 3,int 0,str ByteArray.empty,AV.sl 4 false [[int 2,int 0,str (Prod.fst p),sl0],[int 3,int 0,str ByteArray.empty,AV.sl 4 false (ivE (Prod.snd p))]]] from (el_nat hx)),kp (show (0:Int)≤(0:Int)∧[[int 2,int 0,str (Prod.fst p),sl0],[int 3,int 0,str ByteArray.empty,AV.sl 4 false (ivE (Prod.snd p))]][Int.toNat 0]? = some [int 2,int 0,str (Prod.fst p),AV.sl 4 false []] from (⟨by decide,rfl⟩)),kt (show decide ((↑0:Int)<(↑(ByteArray.size (Prod.fst p)):Int))=true from (decide_eq_true (by omega))),kp (show [[AV.sl 1 false (Vec.ints l)]]≠[] from (by simp)),kp (show 24≤140737488355328 from (by omega))] (others 186 [1,3,5,6,7,8,10]) 3 h (by kernel_rfl)
theorem lb_n (t:TE) (rs:List (ByteArray × List Int)) (s:ByteArray) (k:Nat) (p:ByteArray × List Int) (l:List Int) (j g:Nat) (sty:List (List Int)) (hsl:sty.length≤4000) (hx:rs[k]? = some p) (hk:(k:Int)<(rs.length:Int)) (hrl:rs.length≤40) (hz:(p.1.size:Int)≤40) (hj:(j:Int)<(p.1.size:Int)) (ex:AEx) (s':St) (h:RunL P G none 0 (loopAt P 9 2) (St.mk (slots 186 [(1,AV.ptr 0 0),(3,AV.ptr 1 0),(5,AV.own 2 (g+1) 0 (List.length (sty++[l]))),(6,str s),(7,int (↑k:Int)),(8,AV.sl 1 false (Vec.ints l)),(10,int (↑(j+1):Int))]) [AObj.box [AV.sl 9 false (Sq.encs (TE.cells t)),AV.sl 11 false (encs (TE.marks t))],AObj.box [int 3,int 0,str ByteArray.empty,AV.sl 4 false (prE rs)],AObj.arr (g+1) 1 false (alE (sty++[l]))] []) ex s'):RunL P G none 0 (loopAt P 9 2) (l2S t rs (AV.own 2 g 0 (List.length sty)) s k (ils l) j [AObj.arr g 1 false (alE sty)]) ex s':=by
 exact loop_next [ko (Orc.elem [int 3,int 0,str ByteArray.empty,AV.sl 4 false [[int 2,int 0,str (Prod.fst p),sl0],[int 3,int 0,str ByteArray.empty,AV.sl 4 false (ivE (Prod.snd p))]]]),ko (Orc.elem [int 2,int 0,str (Prod.fst p),AV.sl 4 false []]),kp (show (0:Int)≤(↑k:Int)∧(prE rs)[Int.toNat (↑k:Int)]? = some [int 3,int 0,str ByteArray.empty,AV.sl 4 false [[int 2,int 0,str (Prod.fst p),sl0],[int 3,int 0,str ByteArray.empty,AV.sl 4 false (ivE (Prod.snd p))]]] from (el_nat hx)),kp (show (0:Int)≤(0:Int)∧[[int 2,int 0,str (Prod.fst p),sl0],[int 3,int 0,str ByteArray.empty,AV.sl 4 false (ivE (Prod.snd p))]][Int.toNat 0]? = some [int 2,int 0,str (Prod.fst p),AV.sl 4 false []] from (⟨by decide,rfl⟩)),kt (show decide ((↑j:Int)<(↑(ByteArray.size (Prod.fst p)):Int))=true from (decide_eq_true (by omega))),ko (Orc.hp (some 128) (AV.own 2 (g+1) 0 (List.length (sty++[l]))) [AObj.box [AV.sl 9 false (Sq.encs (TE.cells t)),AV.sl 11 false (encs (TE.marks t))],AObj.box [int 3,int 0,str ByteArray.empty,AV.sl 4 false (prE rs)],AObj.arr (g+1) 1 false (alE (sty++[l]))]),kp (show Am.Sub (AV.own 2 (g+1) 0 (List.length sty+1)) (AV.own 2 (g+1) 0 (List.length (sty++[l]))) from (Sub.of_eq (by simp [Go.Vec.ints_length,Go.Vec.ints_ids,Go.Tx.alE_length,Go.Tx.alE_ids]))),kp (show Am.HSub [AObj.box [AV.sl 9 false (Sq.encs (TE.cells t)),AV.sl 11 false (encs (TE.marks t))],AObj.box [int 3,int 0,str ByteArray.empty,AV.sl 4 false (prE rs)],AObj.arr (g+1) 1 false (alE sty++[[AV.sl 1 false (Vec.ints l)]])] [AObj.box [AV.sl 9 false (Sq.encs (TE.cells t)),AV.sl 11 false (encs (TE.marks t))],AObj.box [int 3,int 0,str ByteArray.empty,AV.sl 4 false (prE rs)],AObj.arr (g+1) 1 false (alE (sty++[l]))] from (⟨.inl rfl,.inl rfl,.inl (by simp only [Go.Tx.alE_snoc]),trivial⟩)),kp (show g=g from (rfl)),kp (show List.length sty=List.length (alE sty) from ((Go.Tx.alE_length _).symm)),kp (show (List.length sty+1) * 24≤140737488355328 from (by omega)),kv 124 (show Am.Sub (int (IntKind.wrap IntKind.i64 ((↑j:Int)+1))) (int (↑(j+1):Int)) from (Sub.of_wrap (by omega) (by omega) (by omega)))] (others 186 [1,3,5,6,7,8,10]) 3 h (by kernel_rfl)
theorem lb_e (t:TE) (rs:List (ByteArray × List Int)) (s:ByteArray) (k:Nat) (p:ByteArray × List Int) (l:List Int) (j g:Nat) (sty:List (List Int)) (hx:rs[k]? = some p) (hk:(k:Int)<(rs.length:Int)) (hrl:rs.length≤40) (hj:¬ (j:Int)<(p.1.size:Int)) (h:True):RunL P G none 0 (loopAt P 9 2) (l2S t rs (AV.own 2 g 0 (List.length sty)) s k (ils l) j [AObj.arr g 1 false (alE sty)]) (AEx.exit 4) (l2X t rs s k g sty):=by
 have _:=h
 exact loop_exit [ko (Orc.elem [int 3,int 0,str ByteArray.empty,AV.sl 4 false [[int 2,int 0,str (Prod.fst p),sl0],[int 3,int 0,str ByteArray.empty,AV.sl 4 false (ivE (Prod.snd p))]]]),ko (Orc.elem [int 2,int 0,str (Prod.fst p),AV.sl 4 false []]),kp (show (0:Int)≤(↑k:Int)∧(prE rs)[Int.toNat (↑k:Int)]? = some [int 3,int 0,str ByteArray.empty,AV.sl 4 false [[int 2,int 0,str (Prod.fst p),sl0],[int 3,int 0,str ByteArray.empty,AV.sl 4 false (ivE (Prod.snd p))]]] from (el_nat hx)),kp (show (0:Int)≤(0:Int)∧[[int 2,int 0,str (Prod.fst p),sl0],[int 3,int 0,str ByteArray.empty,AV.sl 4 false (ivE (Prod.snd p))]][Int.toNat 0]? = some [int 2,int 0,str (Prod.fst p),AV.sl 4 false []] from (⟨by decide,rfl⟩)),kf (show decide ((↑j:Int)<(↑(ByteArray.size (Prod.fst p)):Int))=false from (decide_eq_false (by omega)))] (others 186 [1,3,5,6,7]) 3 (by kernel_rfl)
end Go.Tx


namespace Go.Tx
open Go Go.Am Go.Proofs Go.Seat
open Go.Sq (CE cel ces ida idv pid fX fiO OkRs OkR chkE)
open Go.Cdc (CV encL vmk val)
def r1S (t:TE) (rs:List (ByteArray × List Int)) (s:ByteArray) (k:Nat) (g:Nat) (sty:List (List Int)):St:={ env:=slots 186 [(1,.ptr 0 0),(3,.ptr 1 0),(5,.own 2 g 0 sty.length),(6,str s),(7,int k)],H:=rrH t rs++[.arr g 1 false (alE sty)] }
theorem roA_o (t:TE) (rs:List (ByteArray × List Int)) (s:ByteArray) (k:Nat) (p:ByteArray × List Int) (g1 g2:Nat) (z:List Int) (sty:List (List Int)) (hk0:k=0) (hx:rs[k]? = some p) (hk:(k:Int)<(rs.length:Int)) (hrl:rs.length≤40) (hp0:¬ (p.1.size:Int)=0) (hss:s.size+p.1.size≤1000000) (hI1:RunL P G none 0 (loopAt P 9 1) (l1S t rs nilS s k nilS 0 []) (.exit 2) (l1X t rs nilS s k (.own 2 g1 0 z.length) [.arr g1 1 false (Vec.ints z)])) (hI2:RunL P G none 0 (loopAt P 9 2) (l2S t rs nilS s k (.own 2 g1 0 z.length) 0 [.arr g1 1 false (Vec.ints z)]) (.exit 4) (l2X t rs s k g2 sty)) (ex:AEx) (s':St) (h:RunL P G none 0 (loopAt P 9 0) (St.mk (slots 186 [(1,AV.ptr 0 0),(3,AV.ptr 1 0),(5,AV.own 2 g2 0 (List.length sty)),(6,str (s++Prod.fst p)),(7,int (↑(k+1):Int))]) [AObj.box [AV.sl 9 false (Sq.encs (TE.cells t)),AV.sl 11 false (encs (TE.marks t))],AObj.box [int 3,int 0,str ByteArray.empty,AV.sl 4 false (prE rs)],AObj.arr g2 1 false (alE sty)] []) ex s'):RunL P G none 0 (loopAt P 9 0) (r0S t rs s k) ex s':=by
 have hz2:(0:Int)≤(↑k:Int)∧(prE rs)[Int.toNat (↑k:Int)]? = some [int 3,int 0,str ByteArray.empty,AV.sl 4 false [[int 2,int 0,str (Prod.fst p),sl0],[int 3,int 0,str ByteArray.empty,AV.sl 4 false (ivE (Prod.snd p))]]]:=(el_nat hx)
 have hz3:(0:Int)≤(0:Int)∧[[int 2,int 0,str (Prod.fst p),sl0],[int 3,int 0,str ByteArray.empty,AV.sl 4 false (ivE (Prod.snd p))]][Int.toNat 0]? = some [int 2,int 0,str (Prod.fst p),AV.sl 4 false []]:=(⟨by decide,rfl⟩)
 exact loop_next [kv 39 (show Am.Sub (int (↑(List.length (prE rs)):Int)) (int (↑(List.length rs):Int)) from (Sub.of_eq (by simp only [Go.Tx.prE_length]))),kt (show decide ((↑k:Int)<(↑(List.length rs):Int))=true from (decide_eq_true (by omega))),ko (Orc.elem [int 3,int 0,str ByteArray.empty,AV.sl 4 false [[int 2,int 0,str (Prod.fst p),sl0],[int 3,int 0,str ByteArray.empty,AV.sl 4 false (ivE (Prod.snd p))]]]),kp hz2,kf (Eq.refl false),ko (Orc.elem [int 3,int 0,str ByteArray.empty,AV.sl 4 false [[int 2,int 0,str (Prod.fst p),sl0],[int 3,int 0,str ByteArray.empty,AV.sl 4 false (ivE (Prod.snd p))]]]),ko (Orc.elem [int 2,int 0,str (Prod.fst p),AV.sl 4 false []]),kp hz2,kp hz3,kf (show ((↑(ByteArray.size (Prod.fst p)):Int) == 0)=false from (decide_eq_false (by omega))),kl [36,37,38,39,40,43,44,45,46,47,48,49,50,51,52,53,54,55,56,57,58,59,60,61,62,63] 2 (@hI1 ),kf (show decide ((↑k:Int) > (0:Int))=false from (decide_eq_false (by omega))),kf (Eq.refl false),kf (Eq.refl false),kl [94,95,96,97,98,99,100,101,102,103,104,105,106,107,108,109,110] 3 (@hI2 ),ko (Orc.elem [int 3,int 0,str ByteArray.empty,AV.sl 4 false [[int 2,int 0,str (Prod.fst p),sl0],[int 3,int 0,str ByteArray.empty,AV.sl 4 false (ivE (Prod.snd p))]]]),ko (Orc.elem [int 2,int 0,str (Prod.fst p),AV.sl 4 false []]),kp hz2,kp hz3,kp (show (↑(ByteArray.size s+ByteArray.size (Prod.fst p)):Int)≤(9223372036854775807:Int) from (by omega)),kv 42 (show Am.Sub (int (IntKind.wrap IntKind.i64 ((↑k:Int)+1))) (int (↑(k+1):Int)) from (Sub.of_wrap (by omega) (by omega) (by omega)))] (others 186 [1,3,5,6,7]) 3 h (by kernel_rfl)
theorem roA_n (t:TE) (rs:List (ByteArray × List Int)) (s:ByteArray) (k:Nat) (p:ByteArray × List Int) (g2:Nat) (sty:List (List Int)) (hk0:k=0) (hx:rs[k]? = some p) (hk:(k:Int)<(rs.length:Int)) (hrl:rs.length≤40) (hp0:¬ (p.1.size:Int)=0) (hss:s.size+p.1.size≤1000000) (hI1:RunL P G none 0 (loopAt P 9 1) (l1S t rs nilS s k nilS 0 []) (.exit 2) (l1X t rs nilS s k nilS [])) (hI2:RunL P G none 0 (loopAt P 9 2) (l2S t rs nilS s k nilS 0 []) (.exit 4) (l2X t rs s k g2 sty)) (ex:AEx) (s':St) (h:RunL P G none 0 (loopAt P 9 0) (St.mk (slots 186 [(1,AV.ptr 0 0),(3,AV.ptr 1 0),(5,AV.own 2 g2 0 (List.length sty)),(6,str (s++Prod.fst p)),(7,int (↑(k+1):Int))]) [AObj.box [AV.sl 9 false (Sq.encs (TE.cells t)),AV.sl 11 false (encs (TE.marks t))],AObj.box [int 3,int 0,str ByteArray.empty,AV.sl 4 false (prE rs)],AObj.arr g2 1 false (alE sty)] []) ex s'):RunL P G none 0 (loopAt P 9 0) (r0S t rs s k) ex s':=by
 have hz2:(0:Int)≤(↑k:Int)∧(prE rs)[Int.toNat (↑k:Int)]? = some [int 3,int 0,str ByteArray.empty,AV.sl 4 false [[int 2,int 0,str (Prod.fst p),sl0],[int 3,int 0,str ByteArray.empty,AV.sl 4 false (ivE (Prod.snd p))]]]:=(el_nat hx)
 have hz3:(0:Int)≤(0:Int)∧[[int 2,int 0,str (Prod.fst p),sl0],[int 3,int 0,str ByteArray.empty,AV.sl 4 false (ivE (Prod.snd p))]][Int.toNat 0]? = some [int 2,int 0,str (Prod.fst p),AV.sl 4 false []]:=(⟨by decide,rfl⟩)
 exact loop_next [kv 39 (show Am.Sub (int (↑(List.length (prE rs)):Int)) (int (↑(List.length rs):Int)) from (Sub.of_eq (by simp only [Go.Tx.prE_length]))),kt (show decide ((↑k:Int)<(↑(List.length rs):Int))=true from (decide_eq_true (by omega))),ko (Orc.elem [int 3,int 0,str ByteArray.empty,AV.sl 4 false [[int 2,int 0,str (Prod.fst p),sl0],[int 3,int 0,str ByteArray.empty,AV.sl 4 false (ivE (Prod.snd p))]]]),kp hz2,kf (Eq.refl false),ko (Orc.elem [int 3,int 0,str ByteArray.empty,AV.sl 4 false [[int 2,int 0,str (Prod.fst p),sl0],[int 3,int 0,str ByteArray.empty,AV.sl 4 false (ivE (Prod.snd p))]]]),ko (Orc.elem [int 2,int 0,str (Prod.fst p),AV.sl 4 false []]),kp hz2,kp hz3,kf (show ((↑(ByteArray.size (Prod.fst p)):Int) == 0)=false from (decide_eq_false (by omega))),kl [36,37,38,39,40,43,44,45,46,47,48,49,50,51,52,53,54,55,56,57,58,59,60,61,62,63] 2 (@hI1 ),kf (show decide ((↑k:Int) > (0:Int))=false from (decide_eq_false (by omega))),kf (Eq.refl false),kf (Eq.refl false),kl [94,95,96,97,98,99,100,101,102,103,104,105,106,107,108,109,110] 2 (@hI2 ),ko (Orc.elem [int 3,int 0,str ByteArray.empty,AV.sl 4 false [[int 2,int 0,str (Prod.fst p),sl0],[int 3,int 0,str ByteArray.empty,AV.sl 4 false (ivE (Prod.snd p))]]]),ko (Orc.elem [int 2,int 0,str (Prod.fst p),AV.sl 4 false []]),kp hz2,kp hz3,kp (show (↑(ByteArray.size s+ByteArray.size (Prod.fst p)):Int)≤(9223372036854775807:Int) from (by omega)),kv 42 (show Am.Sub (int (IntKind.wrap IntKind.i64 ((↑k:Int)+1))) (int (↑(k+1):Int)) from (Sub.of_wrap (by omega) (by omega) (by omega)))] (others 186 [1,3,5,6,7]) 3 h (by kernel_rfl)
theorem roA_e (t:TE) (s:ByteArray) (k:Nat) (h:True):RunL P G none 0 (loopAt P 9 0) (r0S t [] s k) (AEx.exit 0) (St.mk (slots 186 [(1,AV.ptr 0 0),(5,nilS),(6,str s)]) (rrH t []) []):=by
 have _:=h
 exact loop_exit [kf (Eq.refl false)] (others 186 [1,5,6]) 2 (by kernel_rfl)
theorem roB_e (t:TE) (rs:List (ByteArray × List Int)) (s:ByteArray) (k g:Nat) (sty:List (List Int)) (hk:¬ (k:Int)<(rs.length:Int)) (h:True):RunL P G none 0 (loopAt P 9 0) (r1S t rs s k g sty) (AEx.exit 0) (St.mk (slots 186 [(1,AV.ptr 0 0),(5,AV.own 2 g 0 (List.length sty)),(6,str s)]) (rrH t rs++[AObj.arr g 1 false (alE sty)]) []):=by
 have _:=h
 exact loop_exit [kv 39 (show Am.Sub (int (↑(List.length (prE rs)):Int)) (int (↑(List.length rs):Int)) from (Sub.of_eq (by simp only [Go.Tx.prE_length]))),kf (show decide ((↑k:Int)<(↑(List.length rs):Int))=false from (decide_eq_false (by omega)))] (others 186 [1,5,6]) 3 (by kernel_rfl)
end Go.Tx


namespace Go.Tx
open Go Go.Am Go.Proofs Go.Seat
open Go.Sq (CE cel ces ida idv pid fX fiO OkRs OkR chkE)
open Go.Cdc (CV encL vmk val)
theorem roB_o (t:TE) (rs:List (ByteArray × List Int)) (s:ByteArray) (k:Nat) (p:ByteArray × List Int) (g g1 g2:Nat) (z lp:List Int) (sty sty2:List (List Int)) (hk0:(0:Int)<(k:Int)) (hx:rs[k]? = some p) (hk:(k:Int)<(rs.length:Int)) (hrl:rs.length≤40) (hL:sty[0+Int.toNat ((sty.length:Int) - 1)]? = some lp) (hsn:(0:Int)<(sty.length:Int)) (hsl:sty.length≤4000) (hp0:¬ (p.1.size:Int)=0) (hss:s.size+p.1.size≤1000000) (hS:CallC P G 21 [ils lp,ils z] [] (.ret (bool false)) []) (hI1:RunL P G none 0 (loopAt P 9 1) (l1S t rs (.own 2 g 0 sty.length) s k nilS 0 [.arr g 1 false (alE sty)]) (.exit 2) (l1X t rs (.own 2 g 0 sty.length) s k (.own 3 g1 0 z.length) [.arr g 1 false (alE sty),.arr g1 1 false (Vec.ints z)])) (hI2:RunL P G none 0 (loopAt P 9 2) (l2S t rs (.own 2 g 0 sty.length) s k (.own 3 g1 0 z.length) 0 [.arr g 1 false (alE sty),.arr g1 1 false (Vec.ints z)]) (.exit 4) (l2X t rs s k g2 sty2)) (ex:AEx) (s':St) (h:RunL P G none 0 (loopAt P 9 0) (St.mk (slots 186 [(1,AV.ptr 0 0),(3,AV.ptr 1 0),(5,AV.own 2 g2 0 (List.length sty2)),(6,str (s++Prod.fst p)),(7,int (↑(k+1):Int))]) [AObj.box [AV.sl 9 false (Sq.encs (TE.cells t)),AV.sl 11 false (encs (TE.marks t))],AObj.box [int 3,int 0,str ByteArray.empty,AV.sl 4 false (prE rs)],AObj.arr g2 1 false (alE sty2)] []) ex s'):RunL P G none 0 (loopAt P 9 0) (r1S t rs s k g sty) ex s':=by
 have hz2:(0:Int)≤(↑k:Int)∧(prE rs)[Int.toNat (↑k:Int)]? = some [int 3,int 0,str ByteArray.empty,AV.sl 4 false [[int 2,int 0,str (Prod.fst p),sl0],[int 3,int 0,str ByteArray.empty,AV.sl 4 false (ivE (Prod.snd p))]]]:=(el_nat hx)
 have hz3:(0:Int)≤(0:Int)∧[[int 2,int 0,str (Prod.fst p),sl0],[int 3,int 0,str ByteArray.empty,AV.sl 4 false (ivE (Prod.snd p))]][Int.toNat 0]? = some [int 2,int 0,str (Prod.fst p),AV.sl 4 false []]:=(⟨by decide,rfl⟩)
 have hz7:g=g:=(rfl)
 exact loop_next [kv 39 (show Am.Sub (int (↑(List.length (prE rs)):Int)) (int (↑(List.length rs):Int)) from (Sub.of_eq (by simp only [Go.Tx.prE_length]))),kt (show decide ((↑k:Int)<(↑(List.length rs):Int))=true from (decide_eq_true (by omega))),ko (Orc.elem [int 3,int 0,str ByteArray.empty,AV.sl 4 false [[int 2,int 0,str (Prod.fst p),sl0],[int 3,int 0,str ByteArray.empty,AV.sl 4 false (ivE (Prod.snd p))]]]),kp hz2,kf (Eq.refl false),ko (Orc.elem [int 3,int 0,str ByteArray.empty,AV.sl 4 false [[int 2,int 0,str (Prod.fst p),sl0],[int 3,int 0,str ByteArray.empty,AV.sl 4 false (ivE (Prod.snd p))]]]),ko (Orc.elem [int 2,int 0,str (Prod.fst p),AV.sl 4 false []]),kp hz2,kp hz3,kf (show ((↑(ByteArray.size (Prod.fst p)):Int) == 0)=false from (decide_eq_false (by omega))),kl [36,37,38,39,40,43,44,45,46,47,48,49,50,51,52,53,54,55,56,57,58,59,60,61,62,63] 3 (@hI1 ),kt (show decide ((↑k:Int) > (0:Int))=true from (decide_eq_true (by omega))),kp hz7,kt (show decide ((↑(List.length sty):Int) > (0:Int))=true from (decide_eq_true (by omega))),kp hz7,kv 105 (show Am.Sub (int (IntKind.wrap IntKind.i64 ((↑(List.length sty):Int) - 1))) (int ((↑(List.length sty):Int) - 1)) from (Sub.of_wrap (by omega) (by omega) rfl)),ko (Orc.elem [ils lp]),ko (Orc.pure [Vec.ints z] (Am.bool false)),kp hz7,kp (show (0:Int)≤(↑(List.length sty):Int) - 1∧(↑(List.length sty):Int) - 1<(↑(List.length sty):Int) from (by omega)),kp hz7,kp (show (alE sty)[0+Int.toNat ((↑(List.length sty):Int) - 1)]? = some [ils lp] from (el_get hL)),kp (@hS ),kp (show g1=g1 from (rfl)),kp (show List.take (List.length z) (List.drop 0 (Vec.ints z))=Vec.ints z from (Go.Vec.ints_all _)),kp (show List.length (Vec.ints z)=List.length z from (Go.Vec.ints_length _)),kp (show ∀ (c:List AV),c∈Vec.ints z→List.all c AV.pureB=true from (Go.Vec.ints_pure _)),kf (Eq.refl false),kl [94,95,96,97,98,99,100,101,102,103,104,105,106,107,108,109,110] 4 (@hI2 ),ko (Orc.elem [int 3,int 0,str ByteArray.empty,AV.sl 4 false [[int 2,int 0,str (Prod.fst p),sl0],[int 3,int 0,str ByteArray.empty,AV.sl 4 false (ivE (Prod.snd p))]]]),ko (Orc.elem [int 2,int 0,str (Prod.fst p),AV.sl 4 false []]),kp hz2,kp hz3,kp (show (↑(ByteArray.size s+ByteArray.size (Prod.fst p)):Int)≤(9223372036854775807:Int) from (by omega)),kv 42 (show Am.Sub (int (IntKind.wrap IntKind.i64 ((↑k:Int)+1))) (int (↑(k+1):Int)) from (Sub.of_wrap (by omega) (by omega) (by omega)))] (others 186 [1,3,5,6,7]) 3 h (by kernel_rfl)
theorem roB_n (t:TE) (rs:List (ByteArray × List Int)) (s:ByteArray) (k:Nat) (p:ByteArray × List Int) (g g2:Nat) (lp:List Int) (sty sty2:List (List Int)) (hk0:(0:Int)<(k:Int)) (hx:rs[k]? = some p) (hk:(k:Int)<(rs.length:Int)) (hrl:rs.length≤40) (hL:sty[0+Int.toNat ((sty.length:Int) - 1)]? = some lp) (hsn:(0:Int)<(sty.length:Int)) (hsl:sty.length≤4000) (hp0:¬ (p.1.size:Int)=0) (hss:s.size+p.1.size≤1000000) (hS:CallC P G 21 [ils lp,nilS] [] (.ret (bool false)) []) (hI1:RunL P G none 0 (loopAt P 9 1) (l1S t rs (.own 2 g 0 sty.length) s k nilS 0 [.arr g 1 false (alE sty)]) (.exit 2) (l1X t rs (.own 2 g 0 sty.length) s k nilS [.arr g 1 false (alE sty)])) (hI2:RunL P G none 0 (loopAt P 9 2) (l2S t rs (.own 2 g 0 sty.length) s k nilS 0 [.arr g 1 false (alE sty)]) (.exit 4) (l2X t rs s k g2 sty2)) (ex:AEx) (s':St) (h:RunL P G none 0 (loopAt P 9 0) (St.mk (slots 186 [(1,AV.ptr 0 0),(3,AV.ptr 1 0),(5,AV.own 2 g2 0 (List.length sty2)),(6,str (s++Prod.fst p)),(7,int (↑(k+1):Int))]) [AObj.box [AV.sl 9 false (Sq.encs (TE.cells t)),AV.sl 11 false (encs (TE.marks t))],AObj.box [int 3,int 0,str ByteArray.empty,AV.sl 4 false (prE rs)],AObj.arr g2 1 false (alE sty2)] []) ex s'):RunL P G none 0 (loopAt P 9 0) (r1S t rs s k g sty) ex s':=by
 have hz2:(0:Int)≤(↑k:Int)∧(prE rs)[Int.toNat (↑k:Int)]? = some [int 3,int 0,str ByteArray.empty,AV.sl 4 false [[int 2,int 0,str (Prod.fst p),sl0],[int 3,int 0,str ByteArray.empty,AV.sl 4 false (ivE (Prod.snd p))]]]:=(el_nat hx)
 have hz3:(0:Int)≤(0:Int)∧[[int 2,int 0,str (Prod.fst p),sl0],[int 3,int 0,str ByteArray.empty,AV.sl 4 false (ivE (Prod.snd p))]][Int.toNat 0]? = some [int 2,int 0,str (Prod.fst p),AV.sl 4 false []]:=(⟨by decide,rfl⟩)
 have hz7:g=g:=(rfl)
 exact loop_next [kv 39 (show Am.Sub (int (↑(List.length (prE rs)):Int)) (int (↑(List.length rs):Int)) from (Sub.of_eq (by simp only [Go.Tx.prE_length]))),kt (show decide ((↑k:Int)<(↑(List.length rs):Int))=true from (decide_eq_true (by omega))),ko (Orc.elem [int 3,int 0,str ByteArray.empty,AV.sl 4 false [[int 2,int 0,str (Prod.fst p),sl0],[int 3,int 0,str ByteArray.empty,AV.sl 4 false (ivE (Prod.snd p))]]]),kp hz2,kf (Eq.refl false),ko (Orc.elem [int 3,int 0,str ByteArray.empty,AV.sl 4 false [[int 2,int 0,str (Prod.fst p),sl0],[int 3,int 0,str ByteArray.empty,AV.sl 4 false (ivE (Prod.snd p))]]]),ko (Orc.elem [int 2,int 0,str (Prod.fst p),AV.sl 4 false []]),kp hz2,kp hz3,kf (show ((↑(ByteArray.size (Prod.fst p)):Int) == 0)=false from (decide_eq_false (by omega))),kl [36,37,38,39,40,43,44,45,46,47,48,49,50,51,52,53,54,55,56,57,58,59,60,61,62,63] 3 (@hI1 ),kt (show decide ((↑k:Int) > (0:Int))=true from (decide_eq_true (by omega))),kp hz7,kt (show decide ((↑(List.length sty):Int) > (0:Int))=true from (decide_eq_true (by omega))),kp hz7,kv 105 (show Am.Sub (int (IntKind.wrap IntKind.i64 ((↑(List.length sty):Int) - 1))) (int ((↑(List.length sty):Int) - 1)) from (Sub.of_wrap (by omega) (by omega) rfl)),ko (Orc.elem [ils lp]),kp hz7,kp (show (0:Int)≤(↑(List.length sty):Int) - 1∧(↑(List.length sty):Int) - 1<(↑(List.length sty):Int) from (by omega)),kp hz7,kp (show (alE sty)[0+Int.toNat ((↑(List.length sty):Int) - 1)]? = some [ils lp] from (el_get hL)),kc [] (@hS ),kf (Eq.refl false),kl [94,95,96,97,98,99,100,101,102,103,104,105,106,107,108,109,110] 3 (@hI2 ),ko (Orc.elem [int 3,int 0,str ByteArray.empty,AV.sl 4 false [[int 2,int 0,str (Prod.fst p),sl0],[int 3,int 0,str ByteArray.empty,AV.sl 4 false (ivE (Prod.snd p))]]]),ko (Orc.elem [int 2,int 0,str (Prod.fst p),AV.sl 4 false []]),kp hz2,kp hz3,kp (show (↑(ByteArray.size s+ByteArray.size (Prod.fst p)):Int)≤(9223372036854775807:Int) from (by omega)),kv 42 (show Am.Sub (int (IntKind.wrap IntKind.i64 ((↑k:Int)+1))) (int (↑(k+1):Int)) from (Sub.of_wrap (by omega) (by omega) (by omega)))] (others 186 [1,3,5,6,7]) 3 h (by kernel_rfl)
end Go.Tx


namespace Go.Tx
open Go Go.Am Go.Proofs Go.Seat
open Go.Sq (CE cel ces ida idv pid fX fiO OkRs OkR chkE)
open Go.Cdc (CV encL vmk val)
def f1S (t:TE) (rs:List (ByteArray × List Int)) (g:Nat) (sty:List (List Int)) (n i:Nat):St:={ env:=slots 186 [(1,.ptr 0 0),(5,.own 2 g 0 sty.length),(11,int n),(12,int i)],H:=rrH t rs++[.arr g 1 false (alE sty)] }
def f1X (t:TE) (rs:List (ByteArray × List Int)) (g:Nat) (sty:List (List Int)) (n:Nat):St:={ env:=slots 186 [(5,.own 2 g 0 sty.length),(11,int n)],H:=rrH t rs++[.arr g 1 false (alE sty)] }
def f0S (t:TE) (i:Nat):St:={ env:=slots 186 [(1,.ptr 0 0),(5,nilS),(11,int 0),(12,int i)],H:=rrH t [] }
def f0X (t:TE):St:={ env:=slots 186 [(5,nilS),(11,int 0)],H:=rrH t [] }
theorem fA_g (t:TE) (i:Nat) (c:CE) (hl:t.cells.length≤40) (hx:t.cells[i]? = some c) (hi:(i:Int)<(t.cells.length:Int)) (hg:c.gn=true) (ex:AEx) (s':St) (h:RunL P G none 0 (loopAt P 9 3) (St.mk (slots 186 [(1,AV.ptr 0 0),(5,nilS),(11,int 0),(12,int (↑(i+1):Int))]) [AObj.box [AV.sl 9 false (Sq.encs (TE.cells t)),AV.sl 11 false (encs (TE.marks t))],AObj.box [int 3,int 0,str ByteArray.empty,AV.sl 4 false []]] []) ex s'):RunL P G none 0 (loopAt P 9 3) (f0S t i) ex s':=by
 exact loop_next [kv 147 (show Am.Sub (int (↑(List.length (Sq.encs (TE.cells t))):Int)) (int (↑(List.length (TE.cells t)):Int)) from (Sub.of_eq (by simp only [Go.Sq.encs_length]))),kt (show decide ((↑i:Int)<(↑(List.length (TE.cells t)):Int))=true from (decide_eq_true (by omega))),ko (Orc.elem (Sq.enc c)),kp (show (0:Int)≤(↑i:Int)∧(Sq.encs (TE.cells t))[Int.toNat (↑i:Int)]? = some (Sq.enc c) from (el_nat hx)),kt hg,kv 150 (show Am.Sub (int (IntKind.wrap IntKind.i64 ((↑i:Int)+1))) (int (↑(i+1):Int)) from (Sub.of_wrap (by omega) (by omega) (by omega)))] (others 186 [1,5,11,12]) 2 h (by kernel_rfl)
theorem fA_e (t:TE) (i:Nat) (hi:¬ (i:Int)<(t.cells.length:Int)) (h:True):RunL P G none 0 (loopAt P 9 3) (f0S t i) (AEx.exit 6) (f0X t):=by
 have _:=h
 exact loop_exit [kv 147 (show Am.Sub (int (↑(List.length (Sq.encs (TE.cells t))):Int)) (int (↑(List.length (TE.cells t)):Int)) from (Sub.of_eq (by simp only [Go.Sq.encs_length]))),kf (show decide ((↑i:Int)<(↑(List.length (TE.cells t)):Int))=false from (decide_eq_false (by omega)))] (others 186 [5,11]) 2 (by kernel_rfl)
theorem fB_g (t:TE) (rs:List (ByteArray × List Int)) (g:Nat) (sty:List (List Int)) (n i:Nat) (c:CE) (hl:t.cells.length≤40) (hx:t.cells[i]? = some c) (hi:(i:Int)<(t.cells.length:Int)) (hg:c.gn=true) (ex:AEx) (s':St) (h:RunL P G none 0 (loopAt P 9 3) (St.mk (slots 186 [(1,AV.ptr 0 0),(5,AV.own 2 g 0 (List.length sty)),(11,int (↑n:Int)),(12,int (↑(i+1):Int))]) [AObj.box [AV.sl 9 false (Sq.encs (TE.cells t)),AV.sl 11 false (encs (TE.marks t))],AObj.box [int 3,int 0,str ByteArray.empty,AV.sl 4 false (prE rs)],AObj.arr g 1 false (alE sty)] []) ex s'):RunL P G none 0 (loopAt P 9 3) (f1S t rs g sty n i) ex s':=by
 exact loop_next [kv 147 (show Am.Sub (int (↑(List.length (Sq.encs (TE.cells t))):Int)) (int (↑(List.length (TE.cells t)):Int)) from (Sub.of_eq (by simp only [Go.Sq.encs_length]))),kt (show decide ((↑i:Int)<(↑(List.length (TE.cells t)):Int))=true from (decide_eq_true (by omega))),ko (Orc.elem (Sq.enc c)),kp (show (0:Int)≤(↑i:Int)∧(Sq.encs (TE.cells t))[Int.toNat (↑i:Int)]? = some (Sq.enc c) from (el_nat hx)),kt hg,kv 150 (show Am.Sub (int (IntKind.wrap IntKind.i64 ((↑i:Int)+1))) (int (↑(i+1):Int)) from (Sub.of_wrap (by omega) (by omega) (by omega)))] (others 186 [1,5,11,12]) 3 h (by kernel_rfl)
theorem fB_n (t:TE) (rs:List (ByteArray × List Int)) (g:Nat) (sty:List (List Int)) (n i:Nat) (c:CE) (l l2:List Int) (hl:t.cells.length≤40) (hx:t.cells[i]? = some c) (hi:(i:Int)<(t.cells.length:Int)) (hg:c.gn=false) (hn:(n:Int)<(sty.length:Int)) (hn2:n≤4000) (hy:sty[0+Int.toNat (n:Int)]? = some l2) (hS:CallC P G 13 [txt t,int i] [] (.ret (.tup [ils l,int 0])) []) (hE:CallC P G 21 [ils l,ils l2] [] (.ret (bool true)) []) (ex:AEx) (s':St) (h:RunL P G none 0 (loopAt P 9 3) (St.mk (slots 186 [(1,AV.ptr 0 0),(5,AV.own 2 g 0 (List.length sty)),(11,int (↑(n+1):Int)),(12,int (↑(i+1):Int))]) [AObj.box [AV.sl 9 false (Sq.encs (TE.cells t)),AV.sl 11 false (encs (TE.marks t))],AObj.box [int 3,int 0,str ByteArray.empty,AV.sl 4 false (prE rs)],AObj.arr g 1 false (alE sty)] []) ex s'):RunL P G none 0 (loopAt P 9 3) (f1S t rs g sty n i) ex s':=by
 have hz4:g=g:=(rfl)
 exact loop_next [kv 147 (show Am.Sub (int (↑(List.length (Sq.encs (TE.cells t))):Int)) (int (↑(List.length (TE.cells t)):Int)) from (Sub.of_eq (by simp only [Go.Sq.encs_length]))),kt (show decide ((↑i:Int)<(↑(List.length (TE.cells t)):Int))=true from (decide_eq_true (by omega))),ko (Orc.elem (Sq.enc c)),kp (show (0:Int)≤(↑i:Int)∧(Sq.encs (TE.cells t))[Int.toNat (↑i:Int)]? = some (Sq.enc c) from (el_nat hx)),kf hg,kc [] (@hS ),kf (Eq.refl false),kp hz4,kf (show decide ((↑n:Int)≥(↑(List.length sty):Int))=false from (decide_eq_false (by omega))),ko (Orc.elem [ils l2]),kp hz4,kp (show (0:Int)≤(↑n:Int)∧(↑n:Int)<(↑(List.length sty):Int) from (by omega)),kp hz4,kp (show (alE sty)[0+Int.toNat (↑n:Int)]? = some [ils l2] from (el_get hy)),kc [] (@hE ),kf (Eq.refl false),kv 181 (show Am.Sub (int (IntKind.wrap IntKind.i64 ((↑n:Int)+1))) (int (↑(n+1):Int)) from (Sub.of_wrap (by omega) (by omega) (by omega))),kv 150 (show Am.Sub (int (IntKind.wrap IntKind.i64 ((↑i:Int)+1))) (int (↑(i+1):Int)) from (Sub.of_wrap (by omega) (by omega) (by omega)))] (others 186 [1,5,11,12]) 3 h (by kernel_rfl)
theorem fB_e (t:TE) (rs:List (ByteArray × List Int)) (g:Nat) (sty:List (List Int)) (n i:Nat) (hi:¬ (i:Int)<(t.cells.length:Int)) (h:True):RunL P G none 0 (loopAt P 9 3) (f1S t rs g sty n i) (AEx.exit 6) (f1X t rs g sty n):=by
 have _:=h
 exact loop_exit [kv 147 (show Am.Sub (int (↑(List.length (Sq.encs (TE.cells t))):Int)) (int (↑(List.length (TE.cells t)):Int)) from (Sub.of_eq (by simp only [Go.Sq.encs_length]))),kf (show decide ((↑i:Int)<(↑(List.length (TE.cells t)):Int))=false from (decide_eq_false (by omega)))] (others 186 [5,11]) 3 (by kernel_rfl)
theorem tr_A (t:TE) (s:ByteArray) (hf:CallC P G 12 [txt t] [] (.ret (bool true)) []) (hr:CallC P G 15 [txt t] [] (.ret (.tup [.agg [int 3,int 0,str ByteArray.empty,.sl 4 false (prE [])],int 0])) []) (hL:RunL P G none 0 (loopAt P 9 0) (r0S t [] (ByteArray.mk #[]) 0) (.exit 0) { env:=slots 186 [(1,.ptr 0 0),(5,nilS),(6,str s)],H:=rrH t [] }) (hs:CallC P G 19 [txt t] [] (.ret (str s)) []) (hM:RunL P G none 0 (loopAt P 9 3) (f0S t 0) (.exit 6) (f0X t)) (o:Bool) (h:((((ByteArray.toList s == ByteArray.toList s)=true)→(true)=(o))∧(((ByteArray.toList s == ByteArray.toList s)=false)→(false)=(o)))):CallC P G 9 [txt t] [] (AOut.ret (Am.bool o)) []:=by
 have hz0:=(@Go.Tx.sane_w (trivial))
 have hz1:=(@hf )
 have hz2:=(@hr )
 have hz3:=(@hL )
 have hz4:=(@hs )
 rcases Bool.eq_false_or_eq_true ((ByteArray.toList s == ByteArray.toList s)) with c1 | c1
 · have h:=h.1 c1
   have e1:=h
   exact callC_out (Sub.bool_eq e1) [kc [] hz0,kf (Eq.refl false),kc [] hz1,kf (Eq.refl false),kc [] hz2,kf (Eq.refl false),kl [0,2,4,8,9,10,11,12,13,14,15,16,17,18,19,20,21,22,23,24,25,26,27,28,29,30,31,32,33,34,35,36,37,38,39,40,41,42,43,44,45,46,47,48,49,50,51,52,53,54,55,56,57,58,59,60,61,62,63,64,65,66,67,68,69,70,71,72,73,74,75,76,77,78,79,80,81,82,83,84,85,86,87,88,89,90,91,92,93,94,95,96,97,98,99,100,101,102,103,104,105,106,107,108,109,110,111,112,113,114,115,116,117,118,119,120,121,122,123,124,125,126,127,128,129,130,131,132,133,134,135,136,137,138,139,140,141,142,143,144,145,146,147,148,149,150,151,152,153,154,155,156,157,158,159,160,161,162,163,164,165,166,167,168,169,170,171,172,173,174,175,176,177,178,179,180,181,182,183,184,185] 2 hz3,kc [] hz4,kf (show (!ByteArray.toList s == ByteArray.toList s)=false from (congrArg Bool.not (c1))),kl [6,140,141,142,143] 2 (@hM )] (by kernel_rfl)
 · have h:=h.2 c1
   have e1:=h
   exact callC_out (Sub.bool_eq e1) [kc [] hz0,kf (Eq.refl false),kc [] hz1,kf (Eq.refl false),kc [] hz2,kf (Eq.refl false),kl [0,2,4,8,9,10,11,12,13,14,15,16,17,18,19,20,21,22,23,24,25,26,27,28,29,30,31,32,33,34,35,36,37,38,39,40,41,42,43,44,45,46,47,48,49,50,51,52,53,54,55,56,57,58,59,60,61,62,63,64,65,66,67,68,69,70,71,72,73,74,75,76,77,78,79,80,81,82,83,84,85,86,87,88,89,90,91,92,93,94,95,96,97,98,99,100,101,102,103,104,105,106,107,108,109,110,111,112,113,114,115,116,117,118,119,120,121,122,123,124,125,126,127,128,129,130,131,132,133,134,135,136,137,138,139,140,141,142,143,144,145,146,147,148,149,150,151,152,153,154,155,156,157,158,159,160,161,162,163,164,165,166,167,168,169,170,171,172,173,174,175,176,177,178,179,180,181,182,183,184,185] 2 hz3,kc [] hz4,kt (show (!ByteArray.toList s == ByteArray.toList s)=true from (congrArg Bool.not (c1)))] (by kernel_rfl)
theorem tr_B (t:TE) (rs:List (ByteArray × List Int)) (s:ByteArray) (g:Nat) (sty:List (List Int)) (hf:CallC P G 12 [txt t] [] (.ret (bool true)) []) (hr:CallC P G 15 [txt t] [] (.ret (.tup [.agg [int 3,int 0,str ByteArray.empty,.sl 4 false (prE rs)],int 0])) []) (hL:RunL P G none 0 (loopAt P 9 0) (r0S t rs (ByteArray.mk #[]) 0) (.exit 0) { env:=slots 186 [(1,.ptr 0 0),(5,.own 2 g 0 sty.length),(6,str s)],H:=rrH t rs++[.arr g 1 false (alE sty)] }) (hs:CallC P G 19 [txt t] [] (.ret (str s)) []) (hM:RunL P G none 0 (loopAt P 9 3) (f1S t rs g sty 0 0) (.exit 6) (f1X t rs g sty sty.length)) (o:Bool) (h:((((ByteArray.toList s == ByteArray.toList s)=true)→((↑(List.length sty):Int) == (↑(List.length sty):Int))=(o))∧(((ByteArray.toList s == ByteArray.toList s)=false)→(false)=(o)))):CallC P G 9 [txt t] [] (AOut.ret (Am.bool o)) []:=by
 have hz0:=(@Go.Tx.sane_w (trivial))
 have hz1:=(@hf )
 have hz2:=(@hr )
 have hz3:=(@hL )
 have hz4:=(@hs )
 rcases Bool.eq_false_or_eq_true ((ByteArray.toList s == ByteArray.toList s)) with c1 | c1
 · have h:=h.1 c1
   have e1:=h
   exact callC_out (Sub.bool_eq e1) [kc [] hz0,kf (Eq.refl false),kc [] hz1,kf (Eq.refl false),kc [] hz2,kf (Eq.refl false),kl [0,2,4,8,9,10,11,12,13,14,15,16,17,18,19,20,21,22,23,24,25,26,27,28,29,30,31,32,33,34,35,36,37,38,39,40,41,42,43,44,45,46,47,48,49,50,51,52,53,54,55,56,57,58,59,60,61,62,63,64,65,66,67,68,69,70,71,72,73,74,75,76,77,78,79,80,81,82,83,84,85,86,87,88,89,90,91,92,93,94,95,96,97,98,99,100,101,102,103,104,105,106,107,108,109,110,111,112,113,114,115,116,117,118,119,120,121,122,123,124,125,126,127,128,129,130,131,132,133,134,135,136,137,138,139,140,141,142,143,144,145,146,147,148,149,150,151,152,153,154,155,156,157,158,159,160,161,162,163,164,165,166,167,168,169,170,171,172,173,174,175,176,177,178,179,180,181,182,183,184,185] 2 hz3,kc [] hz4,kf (show (!ByteArray.toList s == ByteArray.toList s)=false from (congrArg Bool.not (c1))),kl [6,140,141,142,143] 3 (@hM ),kp (show g=g from (rfl))] (by kernel_rfl)
 · have h:=h.2 c1
   have e1:=h
   exact callC_out (Sub.bool_eq e1) [kc [] hz0,kf (Eq.refl false),kc [] hz1,kf (Eq.refl false),kc [] hz2,kf (Eq.refl false),kl [0,2,4,8,9,10,11,12,13,14,15,16,17,18,19,20,21,22,23,24,25,26,27,28,29,30,31,32,33,34,35,36,37,38,39,40,41,42,43,44,45,46,47,48,49,50,51,52,53,54,55,56,57,58,59,60,61,62,63,64,65,66,67,68,69,70,71,72,73,74,75,76,77,78,79,80,81,82,83,84,85,86,87,88,89,90,91,92,93,94,95,96,97,98,99,100,101,102,103,104,105,106,107,108,109,110,111,112,113,114,115,116,117,118,119,120,121,122,123,124,125,126,127,128,129,130,131,132,133,134,135,136,137,138,139,140,141,142,143,144,145,146,147,148,149,150,151,152,153,154,155,156,157,158,159,160,161,162,163,164,165,166,167,168,169,170,171,172,173,174,175,176,177,178,179,180,181,182,183,184,185] 2 hz3,kc [] hz4,kt (show (!ByteArray.toList s == ByteArray.toList s)=true from (congrArg Bool.not (c1)))] (by kernel_rfl)
end Go.Tx


namespace Go.Tx
open Go Go.Am Go.Proofs Go.Seat
open Go.Sq (CE cel ces ida idv pid fX fiO OkRs OkR chkE)
end Go.Tx


namespace Go.Tx
open Go Go.Am Go.Proofs Go.Seat
open Go.Sq (CE cel ces ida idv pid fX fiO OkRs OkR chkE insE insV formsB Ok Ids lvl all clash More ers goneAt)
def cutF (a b c:Int):Nat→Nat→CE→CE
 | 0,_,x=>x
 | n+1,k,x=>cutF a b c n (k+1) (ers (a,b,wr c k) x)
end Go.Tx


namespace Go.Tx
open Go Go.Am Go.Proofs Go.Seat
open Go.Sq (CE cel ces ida idv pid fX fiO OkRs OkR chkE insE insV formsB Ok Ids lvl all clash More ers goneAt)
theorem Val.chk {t:TE} (h:Val t):chkT t=0:=chkT_iff.2 h
theorem Val.ids {t:TE} (h:Val t):Ids t.cells:=(Sq.forms_iff.1 (Sq.chk_iff.1 h.cells).1).1.ids
end Go.Tx


namespace Go.Tx
open Go Go.Am Go.Proofs Go.Seat
open Go.Sq (CE cel ces ida idv pid fX fiO OkRs OkR chkE)
end Go.Tx


namespace Go.Tx
open Go Go.Am Go.Proofs Go.Seat
abbrev OkA (t:TE):Prop:=OkT t∧SzC t.cells∧∀ x∈t.cells,InR x.tm
end Go.Tx


namespace Go.Tx
open Go Go.Am Go.Proofs Go.Seat
open Go.Sq (CE cel ces ida idv pid fX fiO OkRs OkR chkE insE insV formsB Ok Ids lvl all clash More ers goneAt)
end Go.Tx


namespace Go.Tx
open Go Go.Am Go.Proofs Go.Seat
open Go.Sq (CE cel ces ida idv pid fX fiO OkRs OkR chkE insE insV formsB Ok Ids lvl all clash More ers goneAt)
theorem sumS_one:∀ {l:List CE},(∀ c∈l,c.vl.size=1)→sumS l=l.length
 | [],_=>rfl
 | c::l,h=>by rw [sumS_cons,h c (by simp),sumS_one fun x hx=>h x (List.mem_cons_of_mem _ hx),List.length_cons]; omega
theorem styR_ok {t:TE} (hV:Val t) {k:Nat} (hk:k<t.cells.length):styR t k=(styV t k,0):=by
 unfold styR
 rw [if_neg (by simpa using hV.chk),if_neg (by omega)]
end Go.Tx


namespace Go.Tx
open Go Go.Am Go.Proofs Go.Seat
open Go.Sq (CE cel ces ida idv pid fX fiO OkRs OkR chkE insE insV formsB Ok Ids lvl all clash More ers goneAt)
end Go.Tx


namespace Go.Tx
open Go Go.Am Go.Proofs Go.Seat
open Go.Sq (CE cel ces ida idv pid fX fiO OkRs OkR chkE)
open Go.Cdc (CV encL vmk val)
abbrev RP:=ByteArray × List Int
def prV' (p:RP):CV:=prV p.1 p.2
def rq (sty:Nat→List Int):List CE→Nat→ByteArray→List Int→List RP
 | [],_,s,ls=>[(s,ls)]
 | c::l,k,s,ls=>if c.gn=true then rq sty l (k+1) s ls else if sty k=ls then rq sty l (k+1) (s++c.vl) ls else (s,ls)::rq sty l (k+1) c.vl (sty k)
def rp (sty:Nat→List Int):List CE→Nat→List RP
 | [],_=>[]
 | c::l,k=>if c.gn=true then rp sty l (k+1) else rq sty l (k+1) c.vl (sty k)
def stys (sty:Nat→List Int):List CE→Nat→List (List Int)
 | [],_=>[]
 | c::l,k=>if c.gn=true then stys sty l (k+1) else sty k::stys sty l (k+1)
def flS:List RP→List (List Int)
 | []=>[]
 | p::ps=>List.replicate p.1.size p.2++flS ps
def cpS:ByteArray→List RP→ByteArray
 | e,[]=>e
 | e,p::ps=>cpS (e++p.1) ps
def Nb:List Int→List RP→Prop
 | _,[]=>True
 | lp,p::ps=>¬ lp=p.2∧0<p.1.size∧Nb p.2 ps
theorem rn_rq (sty:Nat→List Int):∀ (l:List CE) k rs s ls,rn sty l k (some (rs,s,ls))=rs++(rq sty l k s ls).map prV'
 | [],_,rs,s,ls=>rfl
 | c::l,k,rs,s,ls=>by
  rw [rn,rq]
  split
  · exact rn_rq sty l _ _ _ _
  · show (if sty k=ls then _ else _)=_
    split
    · exact rn_rq sty l _ _ _ _
    · rw [rn_rq sty l,List.append_assoc]; rfl
theorem rn_rp (sty:Nat→List Int):∀ (l:List CE) k,rn sty l k none=(rp sty l k).map prV'
 | [],_=>rfl
 | c::l,k=>by
  rw [rn,rp]
  split
  · exact rn_rp sty l _
  · show rn sty l (k+1) (some ([],c.vl,sty k))=_
    rw [rn_rq]; rfl
theorem encL_ivE:∀ l:List Int,encL (l.map iV)=ivE l
 | []=>rfl
 | x::l=>by
  have h:=encL_ivE l
  rw [List.map_cons,← List.singleton_append,← Cdc.encL_append,h]; rfl
theorem encL_prE:∀ ps:List RP,encL (ps.map prV')=prE ps
 | []=>rfl
 | p::ps=>by
  have h:=encL_prE ps
  have h1:=encL_snoc [] p.1 p.2
  rw [List.map_cons,← List.singleton_append,← Cdc.encL_append,h]
  show encL ([]++[prV p.1 p.2])++prE ps=_
  rw [h1]
  have h2:encL [tV p.1,lV (p.2.map iV)]=[[int 2,int 0,str p.1,sl0],[int 3,int 0,str ByteArray.empty,.sl 4 false (encL (p.2.map iV))]]:=rfl
  rw [h2,encL_ivE]; rfl
theorem rq_fl (sty:Nat→List Int):∀ (l:List CE) (k:Nat) (s:ByteArray) (ls:List Int),(∀ c∈l,c.vl.size=1)→flS (rq sty l k s ls)=List.replicate s.size ls++stys sty l k
 | [],_,s,ls,_=>rfl
 | c::l,k,s,ls,h=>by
  have ih:=fun k s ls=>rq_fl sty l k s ls fun x hx=>h x (List.mem_cons_of_mem _ hx)
  have h1:=h c (List.mem_cons_self ..)
  rw [rq,stys]
  split
  · exact ih _ _ _
  · split
    · rename_i e
      rw [ih,ByteArray.size_append,h1,e,List.replicate_succ',List.append_assoc]; rfl
    · show List.replicate s.size ls++flS _=_
      rw [ih,h1]; rfl
theorem rp_fl (sty:Nat→List Int):∀ (l:List CE) (k:Nat),(∀ c∈l,c.vl.size=1)→flS (rp sty l k)=stys sty l k
 | [],_,_=>rfl
 | c::l,k,h=>by
  have h2:=fun x hx=>h x (List.mem_cons_of_mem c hx)
  rw [rp,stys]
  split
  · exact rp_fl sty l _ h2
  · rw [rq_fl sty l _ _ _ h2,h c (List.mem_cons_self ..)]; rfl
theorem rq_cp (sty:Nat→List Int):∀ (l:List CE) (k:Nat) (s:ByteArray) (ls:List Int) (e:ByteArray),cpS e (rq sty l k s ls)=catV (e++s) l
 | [],_,s,ls,e=>rfl
 | c::l,k,s,ls,e=>by
  rw [rq,catV]
  split
  · exact rq_cp sty l _ _ _ _
  · split
    · rw [rq_cp sty l,ByteArray.append_assoc]
    · show cpS (e++s) _=_
      rw [rq_cp sty l]
theorem rp_cp (sty:Nat→List Int):∀ (l:List CE) (k:Nat) (e:ByteArray),cpS e (rp sty l k)=catV e l
 | [],_,_=>rfl
 | c::l,k,e=>by
  rw [rp,catV]
  split
  · exact rp_cp sty l _ _
  · exact rq_cp sty l _ _ _ _
theorem rq_nb (sty:Nat→List Int):∀ (l:List CE) (k:Nat) (s:ByteArray) (ls:List Int),(∀ c∈l,c.vl.size=1)→0<s.size→∃ p ps,rq sty l k s ls=p::ps∧p.2=ls∧0<p.1.size∧Nb ls ps
 | [],_,s,ls,_,hs=>⟨(s,ls),[],rfl,rfl,hs,trivial⟩
 | c::l,k,s,ls,h,hs=>by
  have h2:=fun x hx=>h x (List.mem_cons_of_mem c hx)
  have h1:=h c (List.mem_cons_self ..)
  rw [rq]
  split
  · exact rq_nb sty l _ _ _ h2 hs
  · split
    · exact rq_nb sty l _ _ _ h2 (by rw [ByteArray.size_append]; omega)
    · rename_i hn
      obtain ⟨p,ps,e,e2,e3,e4⟩:=rq_nb sty l (k+1) c.vl (sty k) h2 (by omega)
      exact ⟨(s,ls),p::ps,by rw [e],rfl,hs,fun x=>hn (by rw [x,e2]),e3,by rw [e2]; exact e4⟩
theorem rp_nb (sty:Nat→List Int):∀ (l:List CE) (k:Nat),(∀ c∈l,c.vl.size=1)→rp sty l k=[]∨∃ p ps,rp sty l k=p::ps∧0<p.1.size∧Nb p.2 ps
 | [],_,_=>.inl rfl
 | c::l,k,h=>by
  have h2:=fun x hx=>h x (List.mem_cons_of_mem c hx)
  rw [rp]
  split
  · exact rp_nb sty l _ h2
  · obtain ⟨p,ps,e,e2,e3,e4⟩:=rq_nb sty l (k+1) c.vl (sty k) h2 (by have:=h c (List.mem_cons_self ..); omega)
    exact .inr ⟨p,ps,e,e3,by rw [e2]; exact e4⟩
theorem rq_sty (sty:Nat→List Int):∀ (l:List CE) (k:Nat) (s:ByteArray) (ls:List Int),∀ p∈rq sty l k s ls,p.2=ls∨∃ j,p.2=sty j
 | [],_,s,ls,p,h=>by
  rw [rq,List.mem_singleton] at h
  exact .inl (by rw [h])
 | c::l,k,s,ls,p,h=>by
  rw [rq] at h
  split at h
  · exact rq_sty sty l _ _ _ p h
  · split at h
    · exact rq_sty sty l _ _ _ p h
    · rcases List.mem_cons.1 h with e | h
      · exact .inl (by rw [e])
      · rcases rq_sty sty l _ _ _ p h with e | e
        · exact .inr ⟨k,e⟩
        · exact .inr e
theorem rp_sty (sty:Nat→List Int):∀ (l:List CE) (k:Nat),∀ p∈rp sty l k,∃ j,p.2=sty j
 | [],_,p,h=>by cases h
 | c::l,k,p,h=>by
  rw [rp] at h
  split at h
  · exact rp_sty sty l _ p h
  · rcases rq_sty sty l _ _ _ p h with e | e
    · exact ⟨k,e⟩
    · exact e
theorem stys_len (sty:Nat→List Int):∀ (l:List CE) (k:Nat),(stys sty l k).length≤l.length
 | [],_=>Nat.le_refl _
 | c::l,k=>by
  have:=stys_len sty l (k+1)
  rw [stys]
  split<;>simp<;>omega
theorem flS_append:∀ a b:List RP,flS (a++b)=flS a++flS b
 | [],_=>rfl
 | p::a,b=>by
  show List.replicate p.1.size p.2++flS (a++b)=(List.replicate p.1.size p.2++flS a)++flS b
  rw [flS_append a b,List.append_assoc]
theorem cpS_append:∀ (a b:List RP) (e:ByteArray),cpS e (a++b)=cpS (cpS e a) b
 | [],_,_=>rfl
 | p::a,b,e=>cpS_append a b _
theorem cpS_size:∀ (a:List RP) (e:ByteArray),(cpS e a).size=e.size+(flS a).length
 | [],_=>rfl
 | p::a,e=>by
  show (cpS (e++p.1) a).size=e.size+(List.replicate p.1.size p.2++flS a).length
  rw [cpS_size a,ByteArray.size_append,List.length_append,List.length_replicate]; omega
theorem Nb_len:∀ (ps:List RP) (lp:List Int),Nb lp ps→ps.length≤(flS ps).length
 | [],_,_=>Nat.le_refl _
 | p::ps,_,h=>by
  have:=Nb_len ps _ h.2.2
  have:=h.2.1
  show ps.length+1≤(List.replicate p.1.size p.2++flS ps).length
  rw [List.length_append,List.length_replicate]; omega
end Go.Tx


namespace Go.Tx
open Go Go.Am Go.Proofs Go.Seat
open Go.Sq (CE cel ces ida idv pid fX fiO OkRs OkR chkE)
open Go.Cdc (CV encL vmk val)
theorem RunL.subSlotPre {r:Option Nat} {n0:Nat} {c:Code} {env:List AV} {H:List AObj} {defs:List ADef} {s':St} {ex:AEx} {t:Nat} {x y:AV} (hx:env.getD t .dead=x) (hs:Sub x y)
 (h:RunL P G r n0 c { env:=env.set t y,H:=H,defs:=defs } ex s'):RunL P G r n0 c { env:=env,H:=H,defs:=defs } ex s':=by
 intro V0 V a h0 hst hG hok
 have hr:Rep V x (a.tmps.getD t undef):=hx ▸ hok.env.get t
 exact h V0 V a h0 hst hG ⟨EnvOk.setAt hok.env (Step.refl V) (hs V _ hr),hok.H,hok.defs⟩
theorem tk1 {α:Type} {l:List α} (h:0<l.length):l.take 1=[l[0]]:=by
 have:=List.take_succ_eq_append_getElem h
 simpa using this
section
variable (t:TE) (rs:List RP) (s:ByteArray) (k:Nat) (p:RP) (hx:rs[k]? = some p) (hk:(k:Int)<(rs.length:Int)) (hl:p.2.length≤16)
include hx hk hl
theorem laA_loop:∀ d j g,p.2.length - j=d→j≤p.2.length→∃ g',RunL P G none 0 (loopAt P 9 1) (l1S t rs nilS s k (.own 2 g 0 (p.2.take j).length) j [.arr g 1 false (Vec.ints (p.2.take j))]) (.exit 2) (l1X t rs nilS s k (.own 2 g' 0 p.2.length) [.arr g' 1 false (Vec.ints p.2)]):=by
 intro d
 induction d with
 | zero =>
  intro j g hd hj
  rw [List.take_of_length_le (by omega)]
  exact ⟨g,laA_e t rs s k p j g p.2 hx hk (by omega) trivial⟩
 | succ d ih =>
  intro j g hd hj
  have hlt:j<p.2.length:=by omega
  obtain ⟨g',nx⟩:=ih (j+1) (g+1) (by omega) (by omega)
  rw [List.take_succ_eq_append_getElem hlt] at nx
  exact ⟨g',laA_n t rs s k p p.2[j] j g (p.2.take j) (by simp; omega) hx hk (List.getElem?_eq_getElem hlt) (by omega) (by omega) _ _ nx⟩
theorem laA_all (h0:0<p.2.length):∃ g',RunL P G none 0 (loopAt P 9 1) (l1S t rs nilS s k nilS 0 []) (.exit 2) (l1X t rs nilS s k (.own 2 g' 0 p.2.length) [.arr g' 1 false (Vec.ints p.2)]):=by
 obtain ⟨g',nx⟩:=laA_loop t rs s k p hx hk hl _ 1 0 rfl h0
 rw [tk1 h0] at nx
 exact ⟨g',laA_0 t rs s k p p.2[0] hx hk (List.getElem?_eq_getElem h0) (by omega) (by omega) _ _ nx⟩
variable (sg:Nat) (sty:List (List Int))
theorem laB_loop:∀ d j g,p.2.length - j=d→j≤p.2.length→∃ g',RunL P G none 0 (loopAt P 9 1) (l1S t rs (.own 2 sg 0 sty.length) s k (.own 3 g 0 (p.2.take j).length) j [.arr sg 1 false (alE sty),.arr g 1 false (Vec.ints (p.2.take j))]) (.exit 2) (l1X t rs (.own 2 sg 0 sty.length) s k (.own 3 g' 0 p.2.length) [.arr sg 1 false (alE sty),.arr g' 1 false (Vec.ints p.2)]):=by
 intro d
 induction d with
 | zero =>
  intro j g hd hj
  rw [List.take_of_length_le (by omega)]
  exact ⟨g,laB_e t rs sg sty s k p j g p.2 hx hk (by omega) trivial⟩
 | succ d ih =>
  intro j g hd hj
  have hlt:j<p.2.length:=by omega
  obtain ⟨g',nx⟩:=ih (j+1) (g+1) (by omega) (by omega)
  rw [List.take_succ_eq_append_getElem hlt] at nx
  exact ⟨g',laB_n t rs sg sty s k p p.2[j] j g (p.2.take j) (by simp; omega) hx hk (List.getElem?_eq_getElem hlt) (by omega) (by omega) _ _ nx⟩
theorem laB_all (h0:0<p.2.length):∃ g',RunL P G none 0 (loopAt P 9 1) (l1S t rs (.own 2 sg 0 sty.length) s k nilS 0 [.arr sg 1 false (alE sty)]) (.exit 2) (l1X t rs (.own 2 sg 0 sty.length) s k (.own 3 g' 0 p.2.length) [.arr sg 1 false (alE sty),.arr g' 1 false (Vec.ints p.2)]):=by
 obtain ⟨g',nx⟩:=laB_loop t rs s k p hx hk hl sg sty _ 1 0 rfl h0
 rw [tk1 h0] at nx
 exact ⟨g',laB_0 t rs sg sty s k p p.2[0] hx hk (List.getElem?_eq_getElem h0) (by omega) (by omega) _ _ nx⟩
end
section
variable (t:TE) (rs:List RP) (s:ByteArray) (k:Nat) (p:RP) (l:List Int) (hx:rs[k]? = some p) (hk:(k:Int)<(rs.length:Int)) (hrl:rs.length≤40) (hz:p.1.size≤40)
include hx hk hrl hz
theorem lb_loop:∀ d j g (sty:List (List Int)),p.1.size - j=d→j≤p.1.size→sty.length+d≤4000→∃ g',RunL P G none 0 (loopAt P 9 2) (l2S t rs (.own 2 g 0 sty.length) s k (ils l) j [.arr g 1 false (alE sty)]) (.exit 4) (l2X t rs s k g' (sty++List.replicate d l)):=by
 intro d
 induction d with
 | zero =>
  intro j g sty hd hj hs
  rw [List.replicate_zero,List.append_nil]
  exact ⟨g,lb_e t rs s k p l j g sty hx hk hrl (by omega) trivial⟩
 | succ d ih =>
  intro j g sty hd hj hs
  obtain ⟨g',nx⟩:=ih (j+1) (g+1) (sty++[l]) (by omega) (by omega) (by simp; omega)
  rw [List.append_assoc] at nx
  exact ⟨g',lb_n t rs s k p l j g sty (by omega) hx hk hrl (by omega) (by omega) _ _ nx⟩
theorem lb_all (h0:0<p.1.size):∃ g',RunL P G none 0 (loopAt P 9 2) (l2S t rs nilS s k (ils l) 0 []) (.exit 4) (l2X t rs s k g' (List.replicate p.1.size l)):=by
 obtain ⟨n,hn⟩:∃ n,p.1.size=n+1:=⟨p.1.size - 1,by omega⟩
 obtain ⟨g',nx⟩:=lb_loop t rs s k p l hx hk hrl hz n 1 0 [l] (by omega) (by omega) (by simp; omega)
 rw [hn]
 exact ⟨g',lb_0 t rs s k p l hx hk hrl (by omega) (by omega) _ _ nx⟩
end
theorem frA {t:TE} {rs:List RP} {s:ByteArray} {k g1:Nat} {z:List Int} {ex:AEx} {s':St} (h:RunL P G none 0 (loopAt P 9 2) (l2S t rs nilS s k (ils z) 0 []) ex s'):RunL P G none 0 (loopAt P 9 2) (l2S t rs nilS s k (.own 2 g1 0 z.length) 0 [.arr g1 1 false (Vec.ints z)]) ex s':=by
 refine RunL.frzSlot (t:=8) (z:=Vec.ints z) (y:=ils z) (H1:=rrH t rs++[.arr g1 1 true (Vec.ints z)]) (ps:=_) rfl rfl ?_ ?_
 · exact ⟨rfl,Vec.ints_all z,Vec.ints_length z,Vec.ints_pure z,trivial⟩
 · exact RunL.weakPre [] 2 (s2:=l2S t rs nilS s k (ils z) 0 []) (ps:=_) rfl trivial h
theorem frB {t:TE} {rs:List RP} {s:ByteArray} {k g g1:Nat} {z:List Int} {sty:List (List Int)} {ex:AEx} {s':St} (h:RunL P G none 0 (loopAt P 9 2) (l2S t rs (.own 2 g 0 sty.length) s k (ils z) 0 [.arr g 1 false (alE sty)]) ex s'):RunL P G none 0 (loopAt P 9 2) (l2S t rs (.own 2 g 0 sty.length) s k (.own 3 g1 0 z.length) 0 [.arr g 1 false (alE sty),.arr g1 1 false (Vec.ints z)]) ex s':=by
 refine RunL.frzSlot (t:=8) (z:=Vec.ints z) (y:=ils z) (H1:=rrH t rs++[.arr g 1 false (alE sty),.arr g1 1 true (Vec.ints z)]) (ps:=_) rfl rfl ?_ ?_
 · exact ⟨rfl,Vec.ints_all z,Vec.ints_length z,Vec.ints_pure z,trivial⟩
 · exact RunL.weakPre [] 3 (s2:=l2S t rs (.own 2 g 0 sty.length) s k (ils z) 0 [.arr g 1 false (alE sty)]) (ps:=_) rfl ⟨alE_ids _,trivial⟩ h
theorem niA {t:TE} {rs:List RP} {s:ByteArray} {k:Nat} {ex:AEx} {s':St} (h:RunL P G none 0 (loopAt P 9 2) (l2S t rs nilS s k (ils []) 0 []) ex s'):RunL P G none 0 (loopAt P 9 2) (l2S t rs nilS s k nilS 0 []) ex s' :=
 RunL.subSlotPre (t:=8) (y:=ils []) rfl (Sub.nil 1) h
theorem niB {t:TE} {rs:List RP} {s:ByteArray} {k g:Nat} {sty:List (List Int)} {ex:AEx} {s':St} (h:RunL P G none 0 (loopAt P 9 2) (l2S t rs (.own 2 g 0 sty.length) s k (ils []) 0 [.arr g 1 false (alE sty)]) ex s'):RunL P G none 0 (loopAt P 9 2) (l2S t rs (.own 2 g 0 sty.length) s k nilS 0 [.arr g 1 false (alE sty)]) ex s' :=
 RunL.subSlotPre (t:=8) (y:=ils []) rfl (Sub.nil 1) h
def roX (t:TE) (rs:List RP) (g:Nat):St:={ env:=slots 186 [(1,.ptr 0 0),(5,.own 2 g 0 (flS rs).length),(6,str (cpS (ByteArray.mk #[]) rs))],H:=rrH t rs++[.arr g 1 false (alE (flS rs))] }
theorem flS1 (pre:List RP) (p:RP):flS (pre++[p])=flS pre++List.replicate p.1.size p.2:=by
 rw [flS_append]
 show _++(_++[])=_
 rw [List.append_nil]
theorem ro_loop (t:TE) (rs:List RP) (hrl:rs.length≤40) (hst:∀ p∈rs,p.2.length≤16) (hf:(flS rs).length≤40):∀ (suf pre:List RP) (lp:List Int) (z:List (List Int)) (g:Nat),rs=pre++suf→flS pre=z++[lp]→Nb lp suf→lp.length≤16→0<pre.length →
 ∃ g',RunL P G none 0 (loopAt P 9 0) (r1S t rs (cpS (ByteArray.mk #[]) pre) pre.length g (flS pre)) (.exit 0) (roX t rs g')
 | [],pre,lp,z,g,e,hz,hn,hlp,hp=>by
  rw [List.append_nil] at e
  subst e
  exact ⟨g,roB_e t rs _ rs.length g (flS rs) (by omega) trivial⟩
 | p::suf,pre,lp,z,g,e,hz,hn,hlp,hpr=>by
  have hx:rs[pre.length]? = some p:=by rw [e]; simp
  have hlen:rs.length=pre.length+(suf.length+1):=by rw [e]; simp
  have hk:(pre.length:Int)<(rs.length:Int):=by omega
  have hp:=hst p (by rw [e]; simp)
  have hzl:(flS pre).length=z.length+1:=by rw [hz]; simp
  have hL:(flS pre)[0+Int.toNat (((flS pre).length:Int) - 1)]? = some lp:=by
   rw [show 0+Int.toNat (((flS pre).length:Int) - 1)=z.length by omega,hz]; simp
  have e2:=flS1 pre p
  have hfl:(flS rs).length=(flS pre).length+(p.1.size+(flS suf).length):=by
   rw [e,flS_append]
   show (flS pre++(List.replicate p.1.size p.2++flS suf)).length=_
   simp
  have hcs:=cpS_size pre (ByteArray.mk #[])
  have hc0:(ByteArray.mk #[]).size=0:=rfl
  have hps:=hn.2.1
  obtain ⟨g2,hB⟩:=lb_loop t rs (cpS (ByteArray.mk #[]) pre) pre.length p p.2 hx hk hrl (by omega) p.1.size 0 g (flS pre) (by omega) (by omega) (by omega)
  obtain ⟨g',nx⟩:=ro_loop t rs hrl hst hf suf (pre++[p]) p.2 (flS pre++List.replicate (p.1.size - 1) p.2) g2 (by rw [e]; simp) (by
   obtain ⟨n,hn⟩:∃ n,p.1.size=n+1:=⟨p.1.size - 1,by omega⟩
   rw [e2,hn,List.replicate_succ',List.append_assoc]; rfl) hn.2.2 hp (by simp)
  rw [e2,cpS_append,List.length_append] at nx
  have hS:=slist_c lp p.2 (by omega) (by omega)
  rw [decide_eq_false hn.1] at hS
  refine ⟨g',?_⟩
  by_cases h0:p.2=[]
  · have hI1:=laB_z t rs g (flS pre) (cpS (ByteArray.mk #[]) pre) pre.length p hx hk (by rw [h0]; simp) trivial
    rw [h0] at hB hS
    have hS':CallC P G 21 [ils lp,nilS] [] (.ret (bool false)) []:=hS.args' ⟨Sub.refl _,Sub.nil 1,trivial⟩
    rw [h0] at nx
    exact roB_n t rs _ pre.length p g g2 lp (flS pre) _ (by omega) hx hk hrl hL (by omega) (by omega) (by omega) (by omega) hS' hI1 (niB hB) _ _ nx
  · have h1:0<p.2.length:=List.length_pos_iff.2 h0
    obtain ⟨g1,hI1⟩:=laB_all t rs (cpS (ByteArray.mk #[]) pre) pre.length p hx hk hp g (flS pre) h1
    exact roB_o t rs _ pre.length p g g1 g2 p.2 lp (flS pre) _ (by omega) hx hk hrl hL (by omega) (by omega) (by omega) (by omega) hS hI1 (frB hB) _ _ nx
theorem ro_all (t:TE) (p:RP) (ps:List RP) (hrl:(p::ps).length≤40) (hst:∀ q∈p::ps,q.2.length≤16) (hf:(flS (p::ps)).length≤40) (h0:0<p.1.size) (hn:Nb p.2 ps) :
 ∃ g',RunL P G none 0 (loopAt P 9 0) (r0S t (p::ps) (ByteArray.mk #[]) 0) (.exit 0) (roX t (p::ps) g'):=by
 have hp:=hst p (by simp)
 have hfl:(flS (p::ps)).length=p.1.size+(flS ps).length:=by
  show (List.replicate p.1.size p.2++flS ps).length=_
  simp
 have e1:flS [p]=List.replicate p.1.size p.2:=flS1 [] p
 have hx:(p::ps)[0]? = some p:=rfl
 have hk:((0:Nat):Int)<((p::ps).length:Int):=by rw [List.length_cons]; omega
 have hc0:(ByteArray.mk #[]).size=0:=rfl
 obtain ⟨g2,hB⟩:=lb_all t (p::ps) (ByteArray.mk #[]) 0 p p.2 hx hk hrl (by omega) h0
 obtain ⟨g',nx⟩:=ro_loop t (p::ps) hrl hst hf ps [p] p.2 (List.replicate (p.1.size - 1) p.2) g2 rfl (by
  obtain ⟨n,hn⟩:∃ n,p.1.size=n+1:=⟨p.1.size - 1,by omega⟩
  rw [e1,hn,List.replicate_succ']; rfl) hn hp (by simp)
 rw [e1] at nx
 refine ⟨g',?_⟩
 by_cases hz:p.2=[]
 · have hI1:=laA_z t (p::ps) (ByteArray.mk #[]) 0 p hx hk (by rw [hz]; simp) trivial
   rw [hz] at hB nx
   exact roA_n t (p::ps) (ByteArray.mk #[]) 0 p g2 _ rfl hx hk hrl (by omega) (by omega) hI1 (niA hB) _ _ nx
 · have h1:0<p.2.length:=List.length_pos_iff.2 hz
   obtain ⟨g1,hI1⟩:=laA_all t (p::ps) (ByteArray.mk #[]) 0 p hx hk hp h1
   exact roA_o t (p::ps) (ByteArray.mk #[]) 0 p g1 g2 p.2 _ rfl hx hk hrl (by omega) (by omega) hI1 (frA hB) _ _ nx
theorem f_loopB (t:TE) (rs:List RP) (g:Nat) (sty:List (List Int)) (hl:t.cells.length≤40) (hs:sty.length≤4000) (h16:∀ k,(styN t k).length≤16) (hS:∀ k,k<t.cells.length→CallC P G 13 [txt t,int k] [] (.ret (.tup [ils (styN t k),int 0])) []):∀ d i n,t.cells.length - i=d→i≤t.cells.length→n≤sty.length→sty.drop n=stys (styN t) (t.cells.drop i) i →
 RunL P G none 0 (loopAt P 9 3) (f1S t rs g sty n i) (.exit 6) (f1X t rs g sty sty.length):=by
 intro d
 induction d with
 | zero =>
  intro i n hd hi hn e
  rw [List.drop_eq_nil_of_le (by omega:t.cells.length≤i)] at e
  have:=List.drop_eq_nil_iff.1 e
  have hn2:n=sty.length:=by omega
  subst hn2
  exact fB_e t rs g sty sty.length i (by omega) trivial
 | succ d ih =>
  intro i n hd hi hn e
  have hlt:i<t.cells.length:=by omega
  have hx:t.cells[i]? = some t.cells[i]:=List.getElem?_eq_getElem hlt
  rw [List.drop_eq_getElem_cons hlt,stys] at e
  cases hg:t.cells[i].gn with
  | true =>
   rw [if_pos hg] at e
   exact fB_g t rs g sty n i t.cells[i] hl hx (by omega) hg _ _ (ih (i+1) n (by omega) (by omega) hn e)
  | false =>
   rw [if_neg (by rw [hg]; decide)] at e
   have hnl:n<sty.length:=by
    apply Nat.lt_of_not_le
    intro hle
    rw [List.drop_eq_nil_of_le hle] at e
    cases e
   rw [List.drop_eq_getElem_cons hnl] at e
   obtain ⟨e1,e2⟩:=List.cons.inj e
   have hy:sty[0+Int.toNat (n:Int)]? = some (styN t i):=by
    rw [show 0+Int.toNat (n:Int)=n by omega,List.getElem?_eq_getElem hnl,e1]
   have h1:=h16 i
   have hE:=slist_c (styN t i) (styN t i) (by omega) (by omega)
   rw [decide_eq_true rfl] at hE
   exact fB_n t rs g sty n i t.cells[i] (styN t i) (styN t i) hl hx (by omega) hg (by omega) (by omega) hy (hS i hlt) hE _ _ (ih (i+1) (n+1) (by omega) (by omega) (by omega) e2)
theorem f_loopA (t:TE) (hl:t.cells.length≤40):∀ d i,t.cells.length - i=d→i≤t.cells.length→stys (styN t) (t.cells.drop i) i=[] →
 RunL P G none 0 (loopAt P 9 3) (f0S t i) (.exit 6) (f0X t):=by
 intro d
 induction d with
 | zero =>
  intro i hd hi e
  exact fA_e t i (by omega) trivial
 | succ d ih =>
  intro i hd hi e
  have hlt:i<t.cells.length:=by omega
  have hx:t.cells[i]? = some t.cells[i]:=List.getElem?_eq_getElem hlt
  rw [List.drop_eq_getElem_cons hlt,stys] at e
  cases hg:t.cells[i].gn with
  | true =>
   rw [if_pos hg] at e
   exact fA_g t i t.cells[i] hl hx (by omega) hg _ _ (ih (i+1) (by omega) (by omega) e)
  | false =>
   rw [if_neg (by rw [hg]; decide)] at e
   cases e
theorem same0_c:CallC P G 22 [vmk 0 0 ByteArray.empty [],.agg [int 0,int 0,str (ByteArray.mk #[]),nilS]] [] (.ret (bool true)) []:=by
 have h:=vsame_c (.mk 0 0 ByteArray.empty []) (.mk 0 0 ByteArray.empty []) (.mk _ _ _ _ (by simp) fun x hx=>by cases hx)
 rw [decide_eq_true rfl] at h
 exact h.args' ⟨Sub.refl _,.aggs ⟨Sub.refl _,Sub.refl _,Sub.refl _,Sub.nil 4,trivial⟩,trivial⟩
theorem truns_h (t:TE) (h:OkA t):CallC P G 9 [txt t] [] (.ret (bool true)) []:=by
 have hf:=few_c t
 by_cases hF:t.cells.length≤40∧t.marks.length≤12
 · rw [decide_eq_true hF] at hf
   obtain ⟨l1,l2⟩:=hF
   have hL:LenT t:=⟨by omega,by omega⟩
   have hr:=render_c t hL h.1
   by_cases h0:chkT t=0
   · have hV:=chkT_iff.1 h0
     have hr2:CallC P G 15 [txt t] [] (.ret (.tup [.agg [int 3,int 0,str ByteArray.empty,.sl 4 false (prE (rp (styN t) t.cells 0))],int 0])) []:=by
      have e:val (renE t) = .agg [int 3,int 0,str ByteArray.empty,.sl 4 false (prE (rp (styN t) t.cells 0))]:=by
       unfold renE renV
       rw [if_pos h0,rn_rp]
       unfold lV
       rw [Cdc.val_mk]
       show AV.agg [int 3,int 0,str ByteArray.empty,.sl 4 false (encL ((rp (styN t) t.cells 0).map prV'))]=_
       rw [encL_prE]
      rw [e,h0] at hr
      exact hr
     have hst:sumS t.cells=t.cells.length:=sumS_one hV.one
     have hs:=str_c t (by omega) (by omega)
     have hfl:=rp_fl (styN t) t.cells 0 hV.one
     have hcp:cpS (ByteArray.mk #[]) (rp (styN t) t.cells 0)=strV t:=rp_cp (styN t) t.cells 0 _
     have hsl:=stys_len (styN t) t.cells 0
     have h16:∀ k,(styN t k).length≤16:=fun k=>styV_len t _
     have hSt:∀ k,k<t.cells.length→CallC P G 13 [txt t,int k] [] (.ret (.tup [ils (styN t k),int 0])) []:=fun k hk=>by
      have:=styles_c t k hL h.1
      rw [styR_ok hV hk] at this
      exact this
     rcases rp_nb (styN t) t.cells 0 hV.one with e | ⟨p,ps,e,e3,e4⟩
     · rw [e] at hfl hcp hr2
       have hM:=f_loopA t l1 _ 0 rfl (Nat.zero_le _) (by rw [List.drop_zero,← hfl]; rfl)
       rw [← hcp] at hs
       exact tr_A t (ByteArray.mk #[]) hf hr2 (roA_e t (ByteArray.mk #[]) 0 trivial) hs hM true ⟨fun _=>by simp,fun h=>by simp at h⟩
     · have hln:=Nb_len ps _ e4
       have hsm:∀ q∈rp (styN t) t.cells 0,q.2.length≤16:=fun q hq=>by
        obtain ⟨j,ej⟩:=rp_sty (styN t) t.cells 0 q hq
        rw [ej]; exact h16 j
       rw [e] at hfl hcp hr2 hsm
       have hfl2:(flS (p::ps)).length=p.1.size+(flS ps).length:=by
        show (List.replicate p.1.size p.2++flS ps).length=_
        simp
       have hf40:(flS (p::ps)).length≤40:=by rw [hfl]; omega
       obtain ⟨g',hO⟩:=ro_all t p ps (by simp; omega) hsm hf40 e3 e4
       have hM:=f_loopB t (p::ps) g' (flS (p::ps)) l1 (by omega) h16 hSt _ 0 0 rfl (Nat.zero_le _) (Nat.zero_le _) (by rw [List.drop_zero,List.drop_zero]; exact hfl)
       rw [← hcp] at hs
       exact tr_B t (p::ps) (cpS (ByteArray.mk #[]) (p::ps)) g' (flS (p::ps)) hf hr2 hO hs hM true ⟨fun _=>by simp,fun h=>by simp at h⟩
   · have hc:=check_c t hL h.1
     have hr2:CallC P G 15 [txt t] [] (.ret (.tup [vmk 0 0 ByteArray.empty [],int (chkT t)])) []:=by
      unfold renE at hr
      rw [if_neg h0] at hr
      exact hr
     exact tr_1 t (chkT t) h0 hf hr2 hc same0_c trivial
 · rw [decide_eq_false hF] at hf
   exact tr_0 t hf trivial
end Go.Tx
