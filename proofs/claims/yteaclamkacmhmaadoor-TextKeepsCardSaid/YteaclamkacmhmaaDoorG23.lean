import Derived.Test.YteaclamkacmhmaaDoorG22
import Derived.OpenShut
import Derived.LaidMore
import Derived.Test.YteaclamkacmhmaaDoorRows
import Derived.KernelRfl
set_option maxRecDepth 100000
set_option linter.unusedSimpArgs false
set_option linter.unusedVariables false

namespace Go.Tx
open Go Go.Am Go.Proofs Go.Seat
open Go.Sq (CE cel ces ida idv pid fX fiO OkRs OkR chkE)
theorem cz3:Tryd.prog.cellsOf 3=1:=by kernel_rfl
theorem cz4:Tryd.prog.cellsOf 4=1:=by kernel_rfl
theorem cz5:Tryd.prog.cellsOf 5=1:=by kernel_rfl
theorem cz9:Tryd.prog.cellsOf 9=1:=by kernel_rfl
theorem czCs:Tryd.prog.cellsOf 22=1:=by kernel_rfl
theorem czMs:Tryd.prog.cellsOf 23=1:=by kernel_rfl
theorem czID:Tryd.prog.cellsOf 45=3:=by kernel_rfl
theorem czD:Tryd.prog.cellsOf 43=2:=by kernel_rfl
theorem czC:Tryd.prog.cellsOf 58=9:=by kernel_rfl
theorem czM:Tryd.prog.cellsOf 47=11:=by kernel_rfl
theorem czT:Tryd.prog.cellsOf 25=2:=by kernel_rfl
theorem czE:Tryd.prog.cellsOf 49=20:=by kernel_rfl
noncomputable def cInt:Cod Tryd.prog 3 Int:=Cod.int Tryd.underlying3 cz3
noncomputable def cStr:Cod Tryd.prog 9 ByteArray:=Cod.str Tryd.underlying9 cz9
noncomputable def cBool:Cod Tryd.prog 4 Bool:=Cod.bool Tryd.underlying4 cz4
noncomputable def cDot:Cod Tryd.prog 43 (Int × Int):=Cod.struct Tryd.underlying43 (by kernel_rfl) (FCod.cons cInt rfl (FCod.cons cInt (by kernel_rfl) FCod.nil)) (fun a=>(a.1,a.2.1)) (fun a=>[Am.int a.1,Am.int a.2]) (fun _=>rfl) (fun _=>czD.symm)
noncomputable def cID:Cod Tryd.prog 45 (Int × Int × Int):=Cod.struct Tryd.underlying45 (by kernel_rfl) (FCod.cons cInt rfl (FCod.cons cInt (by kernel_rfl) (FCod.cons cInt (by kernel_rfl) FCod.nil))) (fun a=>(a.1,a.2.1,a.2.2.1)) (fun a=>[Am.int a.1,Am.int a.2.1,Am.int a.2.2]) (fun _=>rfl) (fun _=>czID.symm)
abbrev AC:=(Int × Int × Int) × (Int × Int × Int) × Int × ByteArray × Bool × Unit
noncomputable def cCE:Cod Tryd.prog 58 CE:=Cod.struct Tryd.underlying58 (by kernel_rfl) (FCod.cons cID rfl (FCod.cons cID (by kernel_rfl) (FCod.cons cInt (by kernel_rfl) (FCod.cons cStr (by kernel_rfl) (FCod.cons cBool (by kernel_rfl) FCod.nil)))))
 (fun a:AC=>⟨a.1.1,a.1.2.1,a.1.2.2,a.2.1.1,a.2.1.2.1,a.2.1.2.2,a.2.2.1,a.2.2.2.1,a.2.2.2.2.1⟩) Sq.enc (fun a:AC=>rfl) (fun _=>czC.symm)
noncomputable def cCells:Cod Tryd.prog 22 (List CE):=Cod.slice Tryd.underlying22 czCs (by rw [czC]; decide) cCE
theorem cCells_enc (v:List CE):cCells.enc v=[ces v]:=by
 show [AV.sl (Tryd.prog.cellsOf 58) false (v.map Sq.enc)]=[AV.sl 9 false (v.map Sq.enc)]
 rw [czC]
abbrev AMk:=(Int × Int) × Int × (Int × Int × Int) × (Int × Int × Int) × Int × Bool × Unit
noncomputable def cMK:Cod Tryd.prog 47 MK:=Cod.struct Tryd.underlying47 (by kernel_rfl) (FCod.cons cDot rfl (FCod.cons cInt (by kernel_rfl) (FCod.cons cID (by kernel_rfl) (FCod.cons cID (by kernel_rfl) (FCod.cons cInt (by kernel_rfl) (FCod.cons cBool (by kernel_rfl) FCod.nil))))))
 (fun a:AMk=>⟨a.1.1,a.1.2,a.2.1,a.2.2.1.1,a.2.2.1.2.1,a.2.2.1.2.2,a.2.2.2.1.1,a.2.2.2.1.2.1,a.2.2.2.1.2.2,a.2.2.2.2.1,a.2.2.2.2.2.1⟩) enc (fun a:AMk=>rfl) (fun _=>czM.symm)
noncomputable def cMarks:Cod Tryd.prog 23 (List MK):=Cod.slice Tryd.underlying23 czMs (by rw [czM]; decide) cMK
theorem cMarks_enc (v:List MK):cMarks.enc v=[mks v]:=by
 show [AV.sl (Tryd.prog.cellsOf 47) false (v.map enc)]=[AV.sl 11 false (v.map enc)]
 rw [czM]
abbrev AT:=List CE × List MK × Unit
noncomputable def cTE:Cod Tryd.prog 25 TE:=Cod.struct Tryd.underlying25 (by kernel_rfl) (FCod.cons cCells rfl (FCod.cons cMarks (by kernel_rfl) FCod.nil)) (fun a:AT=>⟨a.1,a.2.1⟩) (fun t=>[ces t.cells,mks t.marks]) (fun a:AT=>by
 show [ces a.1,mks a.2.1]=cCells.enc a.1++(cMarks.enc a.2.1++[])
 rw [cCells_enc,cMarks_enc]; rfl) (fun _=>czT.symm)
abbrev AE:=Int × Int × Int × (Int × Int) × (Int × Int × Int) × ByteArray × MK × Unit
noncomputable def cED:Cod Tryd.prog 49 ED:=Cod.struct Tryd.underlying49 (by kernel_rfl) (FCod.cons cInt rfl (FCod.cons cInt (by kernel_rfl) (FCod.cons cInt (by kernel_rfl) (FCod.cons cDot (by kernel_rfl) (FCod.cons cID (by kernel_rfl) (FCod.cons cStr (by kernel_rfl) (FCod.cons cMK (by kernel_rfl) FCod.nil)))))))
 (fun a:AE=>⟨a.1,a.2.1,a.2.2.1,a.2.2.2.1.1,a.2.2.2.1.2,a.2.2.2.2.1.1,a.2.2.2.2.1.2.1,a.2.2.2.2.1.2.2,a.2.2.2.2.2.1,a.2.2.2.2.2.2.1⟩) (fun e=>[Am.int e.kd,Am.int e.tm,Am.int e.n,Am.int e.dv,Am.int e.sq,Am.int e.a,Am.int e.b,Am.int e.c,Am.str e.s]++enc e.m) (fun a:AE=>rfl) (fun _=>czE.symm)
theorem cDot_ok {i:Int × Int} (h:cDot.good i):InR i.1∧InR i.2:=by
 obtain ⟨⟨_,_,_⟩,rfl,f1,f2,_⟩:=h
 exact ⟨f1,f2⟩
theorem cID_ok {i:Int × Int × Int} (h:cID.good i):InR i.1∧InR i.2.1∧InR i.2.2:=by
 obtain ⟨⟨_,_,_,_⟩,rfl,f1,f2,f3,_⟩:=h
 exact ⟨f1,f2,f3⟩
def SzC (l:List CE):Prop:=∀ x∈l,x.vl.size≤9223372036854775807
theorem cCE_ok {c:CE} (h:cCE.good c):OkR c∧c.vl.size≤9223372036854775807∧InR c.tm:=by
 obtain ⟨⟨_,_,_,_,_,_⟩,rfl,f1,f2,f3,f4,_⟩:=h
 exact ⟨⟨cID_ok f1,cID_ok f2⟩,f4,f3⟩
theorem cMK_ok {m:MK} (h:cMK.good m):OkM m:=by
 obtain ⟨⟨_,_,_,_,_,_,_⟩,rfl,f1,f2,f3,f4,f5,_⟩:=h
 have h1:=cDot_ok f1
 have h3:=cID_ok f3
 have h4:=cID_ok f4
 exact ⟨h1.1,h1.2,f2,h3.1,h3.2.1,h3.2.2,h4.1,h4.2.1,h4.2.2,f5⟩
theorem cTE_ok {t:TE} (h:cTE.good t):OkT t∧SzC t.cells∧∀ x∈t.cells,InR x.tm:=by
 obtain ⟨⟨_,_,_⟩,rfl,f1,f2,_⟩:=h
 exact ⟨⟨fun x hx=>(cCE_ok (f1.2 x hx)).1,fun x hx=>cMK_ok (f2.2 x hx)⟩,fun x hx=>(cCE_ok (f1.2 x hx)).2.1,fun x hx=>(cCE_ok (f1.2 x hx)).2.2⟩
theorem cED_ok {e:ED} (h:cED.good e):OkE e:=by
 obtain ⟨⟨_,_,_,_,_,_,_,_⟩,rfl,f1,f2,f3,f4,f5,f6,f7,_⟩:=h
 have h4:=cDot_ok f4
 have h5:=cID_ok f5
 exact ⟨f1,f2,f3,h4.1,h4.2,h5.1,h5.2.1,h5.2.2,cMK_ok f7,f6⟩
section
variable {H:Type} {en:TypeId × Value→H} {W:World} {base:Nat} {v:Value} {d:DataW H} {ps:List MemPlace}
theorem reads_agg {α:Type} {t:TypeId} {fs:Array Field} (c:Cod Tryd.prog t α) (hu:Tryd.prog.underlying t=some (.struct fs)) (hv:Value.okWide Tryd.prog W .any base t v) (h:DataW.Trod en Tryd.prog W 0 (fun _=>true) true t v d ps):∃ a,c.good a∧Rep (view0 W) (.agg (c.enc a)) v:=by
 have hagg:∃ cs,v = .agg cs:=by
  unfold Value.okWide at hv
  rw [hu] at hv
  exact ⟨_,hv.choose_spec.1⟩
 obtain ⟨⟨cs⟩,rfl⟩:=hagg
 obtain ⟨n,hn⟩:=h
 have hn':DataW.trod en Tryd.prog W 0 (fun _=>true) true n t cs=some (d,ps):=hn
 obtain ⟨o,g,hl,hp⟩:=c.rd hn'
 exact ⟨o,g,.agg _ _ hl fun j hj=>.pure _ _ (hp j (by rw [hl]; exact hj)).1⟩
theorem reads_text (hv:Value.okWide Tryd.prog W .any base 25 v) (h:DataW.Trod en Tryd.prog W 0 (fun _=>true) true 25 v d ps):∃ t:TE,(OkT t∧SzC t.cells∧∀ x∈t.cells,InR x.tm)∧Rep (view0 W) (txt t) v:=by
 obtain ⟨a,h1,h2⟩:=reads_agg cTE Tryd.underlying25 hv h
 exact ⟨a,cTE_ok h1,h2⟩
theorem reads_edit (hv:Value.okWide Tryd.prog W .any base 49 v) (h:DataW.Trod en Tryd.prog W 0 (fun _=>true) true 49 v d ps):∃ e:ED,OkE e∧Rep (view0 W) (edt e) v:=by
 obtain ⟨a,h1,h2⟩:=reads_agg cED Tryd.underlying49 hv h
 exact ⟨a,cED_ok h1,h2⟩
end
theorem gT:Tryd.prog.globalNamed "math/bits.deBruijn32tab" = some 0:=by kernel_rfl
theorem tT:(Tryd.prog.globals[0]?).map (·.type)=some 124:=by kernel_rfl
theorem globs {W:World} (h:laidMetH Tryd.prog [("math/bits.deBruijn32tab",Go.Proofs.YteaclamkacmhmaaDoor.Rows.laid_math_bits_deBruijn32tab)] W):∀ g cs,G g=some cs→PRep W (fun _=>False) (.imm cs) (.pointer (some ⟨g,0,none⟩)):=by
 have h:laidMet Tryd.prog [("math/bits.deBruijn32tab",Go.Proofs.YteaclamkacmhmaaDoor.Rows.laid_math_bits_deBruijn32tab)] W:=h
 obtain ⟨_,⟨g',t,cs,fuel,p,q,hg,ht,hv,hd,_,_⟩,_⟩:=h
 obtain rfl:=Option.some.inj (gT.symm.trans hg)
 obtain rfl:=Option.some.inj (tT.symm.trans ht)
 obtain ⟨xs,m,_,hx,hl,hxl,hf⟩:=DataW.trod_array Tryd.underlying124 hd
 have hx1:xs.map (·.1)=tabB.map fun n=>DataW.lit (.int .u8 n):=by
  have:=(Prod.mk.inj hx).1
  exact (DataW.agg.inj this).symm
 have hlen:cs.toList.length=32:=hl.trans (by kernel_rfl)
 have cell:∀ j (hj:j<32),W.cell? ⟨0,j,none⟩=some (.int .u8 (tabB.getD j 0)):=fun j hj=>by
  have h1:=hf j hj
  have hjx:j<xs.length:=by omega
  rw [cz5,Nat.mul_one,List.getElem?_eq_getElem hjx] at h1
  obtain ⟨n,e1,e2,_⟩:=DataW.trod_int Tryd.underlying5 h1
  have hj2:j<cs.toList.length:=by omega
  rw [List.take_one,List.head?_drop,List.getElem?_eq_getElem hj2] at e1
  have e1:cs.toList[j] = .int .u8 n:=by simpa using e1
  have e3:(xs.map (·.1))[j]? = some (.lit (.int .u8 n)):=by rw [List.getElem?_map,List.getElem?_eq_getElem hjx,e2]; rfl
  rw [hx1,List.getElem?_map] at e3
  have hjt:j<tabB.length:=hj
  rw [List.getElem?_eq_getElem hjt] at e3
  have e4:tabB[j]=n:=by simpa using e3
  have:=World.var?_cell gT hv j
  rw [this,List.getD_eq_getElem?_getD,List.getElem?_eq_getElem hjt]
  have h5:cs[j]? = some cs.toList[j]:=by rw [← Array.getElem?_toList,List.getElem?_eq_getElem hj2]
  rw [h5,e1,← e4]
  rfl
 intro g cs' hg'
 unfold G at hg'
 split at hg'
 · rename_i e
   subst e
   cases hg'
   exact .imm _ _ (fun j=>.int .u8 (tabB.getD j 0)) rfl (fun _ h=>h) (fun j hj=>by rw [Nat.zero_add]; exact cell j (by simpa [tab,tabB] using hj)) (fun j hj=>by
    have hj:j<32:=by simpa [tab,tabB] using hj
    have:tab.getD j .dead = .lit (.int .u8 (tabB.getD j 0)):=by
     unfold tab
     rw [List.getD_eq_getElem?_getD,List.getElem?_map,List.getD_eq_getElem?_getD,List.getElem?_eq_getElem (show j<tabB.length from hj)]
     rfl
    rw [this]
    exact .lit _)
 · cases hg'
theorem door_met (os:Os) (args:Array Value):laidMetH Tryd.prog [("math/bits.deBruijn32tab",Go.Proofs.YteaclamkacmhmaaDoor.Rows.laid_math_bits_deBruijn32tab)] ((World.doorLaid Tryd.prog 600 os).forCall (fun _ _=>0) ⟨#[],args,[]⟩).memory :=
 laidMetH_of_parts3 (fuel:=8) (laidMet_of_run' 8 (by kernel_rfl) (by kernel_rfl)) (by kernel_rfl) (by kernel_rfl)
end Go.Tx


namespace Go.Tx
open Go Go.Am Go.Proofs Go.Seat
open Go.Sq (CE cel ces ida idv pid fX fiO OkRs OkR chkE)
def edC (e:ED):List AV:=[int e.kd,int e.tm,int e.n,int e.dv,int e.sq,int e.a,int e.b,int e.c,str e.s,int e.m.dv,int e.m.sq,int e.m.tm,int e.m.fd,int e.m.fs,int e.m.fa,int e.m.td,int e.m.ts,int e.m.ta,int e.m.st,bool e.m.on]
def kpH (t x:TE) (e:ED):List AObj:=[sbT t,.box (edC e),sbT x]
def kcS (t x:TE) (e:ED) (la:Int) (k:Nat):St:={ env:=slots 138 [(2,.ptr 0 0),(3,.ptr 1 0),(5,.ptr 2 0),(7,int la),(8,int k)],H:=kpH t x e }
def kcX (t x:TE) (e:ED):St:={ env:=slots 138 [(2,.ptr 0 0),(5,.ptr 2 0)],H:=kpH t x e }
def kmS (t x:TE) (e:ED) (k:Nat):St:={ env:=slots 138 [(2,.ptr 0 0),(5,.ptr 2 0),(14,int k)],H:=kpH t x e }
def kmX (t x:TE) (e:ED):St:={ env:=slots 138 [],H:=kpH t x e }
def knS (t x:TE) (e:ED) (k:Nat) (b:Bool) (j:Nat):St:={ env:=slots 138 [(2,.ptr 0 0),(5,.ptr 2 0),(14,int k),(15,bool b),(16,int j)],H:=kpH t x e }
def knX (t x:TE) (e:ED) (k:Nat) (b:Bool):St:={ env:=slots 138 [(2,.ptr 0 0),(5,.ptr 2 0),(14,int k),(15,bool b)],H:=kpH t x e }
theorem kc_e (t x:TE) (e:ED) (la:Int) (k:Nat) (hk:¬ (k:Int)<(t.cells.length:Int)) (h:True):RunL P G none 0 (loopAt P 10 0) (kcS t x e la k) (AEx.exit 0) (kcX t x e):=by
 have _:=h
 exact loop_exit [kv 45 (show Am.Sub (int (↑(List.length (Sq.encs (TE.cells t))):Int)) (int (↑(List.length (TE.cells t)):Int)) from (Sub.of_eq (by simp only [Go.Sq.encs_length]))),kf (show decide ((↑k:Int)<(↑(List.length (TE.cells t)):Int))=false from (decide_eq_false (by omega)))] (others 138 [2,5]) 3 (by kernel_rfl)
theorem kc_a0 (t x:TE) (e:ED) (la:Int) (k j:Nat) (c y:CE) (l1 l2:List Int) (hl:t.cells.length≤40) (hxl:x.cells.length≤1000000) (hk:(k:Int)<(t.cells.length:Int)) (hx:t.cells[k]? = some c) (hy:x.cells[j]? = some y) (hj:(j:Int)<(x.cells.length:Int)) (hla:¬ (j:Int)≤la) (hg:c.gn=true) (hg2:y.gn=true) (h0:e.kd=0) (h3:CallC P G 21 [ils l1,ils l2] [] (.ret (bool true)) []) (hi:CallC P G 29 [ces x.cells,ida c.dv c.sq c.at'] [] (.ret (int j)) []) (h1:CallC P G 13 [txt t,int k] [] (.ret (.tup [ils l1,int 0])) []) (h2:CallC P G 13 [txt x,int j] [] (.ret (.tup [ils l2,int 0])) []) (ex:AEx) (s':St) (h:RunL P G none 0 (loopAt P 10 0) (St.mk (slots 138 [(2,AV.ptr 0 0),(3,AV.ptr 1 0),(5,AV.ptr 2 0),(7,int (↑j:Int)),(8,int (↑(k+1):Int))]) [AObj.box [AV.sl 9 false (Sq.encs (TE.cells t)),AV.sl 11 false (encs (TE.marks t))],AObj.box [int (ED.kd e),int (ED.tm e),int (ED.n e),int (ED.dv e),int (ED.sq e),int (ED.a e),int (ED.b e),int (ED.c e),str (ED.s e),int (MK.dv (ED.m e)),int (MK.sq (ED.m e)),int (MK.tm (ED.m e)),int (MK.fd (ED.m e)),int (MK.fs (ED.m e)),int (MK.fa (ED.m e)),int (MK.td (ED.m e)),int (MK.ts (ED.m e)),int (MK.ta (ED.m e)),int (MK.st (ED.m e)),Am.bool (MK.on (ED.m e))],AObj.box [AV.sl 9 false (Sq.encs (TE.cells x)),AV.sl 11 false (encs (TE.marks x))]] []) ex s'):RunL P G none 0 (loopAt P 10 0) (kcS t x e la k) ex s':=by
 have hz2:(0:Int)≤(↑k:Int)∧(Sq.encs (TE.cells t))[Int.toNat (↑k:Int)]? = some (Sq.enc c):=(el_nat hx)
 exact loop_next [kv 45 (show Am.Sub (int (↑(List.length (Sq.encs (TE.cells t))):Int)) (int (↑(List.length (TE.cells t)):Int)) from (Sub.of_eq (by simp only [Go.Sq.encs_length]))),kt (show decide ((↑k:Int)<(↑(List.length (TE.cells t)):Int))=true from (decide_eq_true (by omega))),ko (Orc.elem (Sq.enc c)),kp hz2,kc [] (@hi ),kf (show decide ((↑j:Int)≤la)=false from (decide_eq_false (by omega))),ko (Orc.elem (Sq.enc c)),kp hz2,kt hg,ko (Orc.elem (Sq.enc y)),kp (show (0:Int)≤(↑j:Int)∧(Sq.encs (TE.cells x))[Int.toNat (↑j:Int)]? = some (Sq.enc y) from (el_nat hy)),kf (show (!CE.gn y)=false from (congrArg Bool.not (hg2))),kc [] (@h1 ),kc [] (@h2 ),kf (Eq.refl false),kf (Eq.refl false),kt (show (ED.kd e == 0)=true from (decide_eq_true (by omega))),kc [] (@h3 ),kf (Eq.refl false),kv 48 (show Am.Sub (int (IntKind.wrap IntKind.i64 ((↑k:Int)+1))) (int (↑(k+1):Int)) from (Sub.of_wrap (by omega) (by omega) (by omega)))] (others 138 [2,3,5,7,8]) 3 h (by kernel_rfl)
theorem kc_a1 (t x:TE) (e:ED) (la:Int) (k j:Nat) (c y:CE) (l1 l2:List Int) (hl:t.cells.length≤40) (hxl:x.cells.length≤1000000) (hk:(k:Int)<(t.cells.length:Int)) (hx:t.cells[k]? = some c) (hy:x.cells[j]? = some y) (hj:(j:Int)<(x.cells.length:Int)) (hla:¬ (j:Int)≤la) (hg:c.gn=true) (hg2:y.gn=true) (h0:¬ e.kd=0) (hi:CallC P G 29 [ces x.cells,ida c.dv c.sq c.at'] [] (.ret (int j)) []) (h1:CallC P G 13 [txt t,int k] [] (.ret (.tup [ils l1,int 0])) []) (h2:CallC P G 13 [txt x,int j] [] (.ret (.tup [ils l2,int 0])) []) (ex:AEx) (s':St) (h:RunL P G none 0 (loopAt P 10 0) (St.mk (slots 138 [(2,AV.ptr 0 0),(3,AV.ptr 1 0),(5,AV.ptr 2 0),(7,int (↑j:Int)),(8,int (↑(k+1):Int))]) [AObj.box [AV.sl 9 false (Sq.encs (TE.cells t)),AV.sl 11 false (encs (TE.marks t))],AObj.box [int (ED.kd e),int (ED.tm e),int (ED.n e),int (ED.dv e),int (ED.sq e),int (ED.a e),int (ED.b e),int (ED.c e),str (ED.s e),int (MK.dv (ED.m e)),int (MK.sq (ED.m e)),int (MK.tm (ED.m e)),int (MK.fd (ED.m e)),int (MK.fs (ED.m e)),int (MK.fa (ED.m e)),int (MK.td (ED.m e)),int (MK.ts (ED.m e)),int (MK.ta (ED.m e)),int (MK.st (ED.m e)),Am.bool (MK.on (ED.m e))],AObj.box [AV.sl 9 false (Sq.encs (TE.cells x)),AV.sl 11 false (encs (TE.marks x))]] []) ex s'):RunL P G none 0 (loopAt P 10 0) (kcS t x e la k) ex s':=by
 have hz2:(0:Int)≤(↑k:Int)∧(Sq.encs (TE.cells t))[Int.toNat (↑k:Int)]? = some (Sq.enc c):=(el_nat hx)
 exact loop_next [kv 45 (show Am.Sub (int (↑(List.length (Sq.encs (TE.cells t))):Int)) (int (↑(List.length (TE.cells t)):Int)) from (Sub.of_eq (by simp only [Go.Sq.encs_length]))),kt (show decide ((↑k:Int)<(↑(List.length (TE.cells t)):Int))=true from (decide_eq_true (by omega))),ko (Orc.elem (Sq.enc c)),kp hz2,kc [] (@hi ),kf (show decide ((↑j:Int)≤la)=false from (decide_eq_false (by omega))),ko (Orc.elem (Sq.enc c)),kp hz2,kt hg,ko (Orc.elem (Sq.enc y)),kp (show (0:Int)≤(↑j:Int)∧(Sq.encs (TE.cells x))[Int.toNat (↑j:Int)]? = some (Sq.enc y) from (el_nat hy)),kf (show (!CE.gn y)=false from (congrArg Bool.not (hg2))),kc [] (@h1 ),kc [] (@h2 ),kf (Eq.refl false),kf (Eq.refl false),kf (show (ED.kd e == 0)=false from (decide_eq_false (by omega))),kf (Eq.refl false),kv 48 (show Am.Sub (int (IntKind.wrap IntKind.i64 ((↑k:Int)+1))) (int (↑(k+1):Int)) from (Sub.of_wrap (by omega) (by omega) (by omega)))] (others 138 [2,3,5,7,8]) 3 h (by kernel_rfl)
theorem kc_b0 (t x:TE) (e:ED) (la:Int) (k j:Nat) (c y:CE) (l1 l2:List Int) (hl:t.cells.length≤40) (hxl:x.cells.length≤1000000) (hk:(k:Int)<(t.cells.length:Int)) (hx:t.cells[k]? = some c) (hy:x.cells[j]? = some y) (hj:(j:Int)<(x.cells.length:Int)) (hla:¬ (j:Int)≤la) (hg:c.gn=false) (h0:e.kd=0) (h3:CallC P G 21 [ils l1,ils l2] [] (.ret (bool true)) []) (hi:CallC P G 29 [ces x.cells,ida c.dv c.sq c.at'] [] (.ret (int j)) []) (h1:CallC P G 13 [txt t,int k] [] (.ret (.tup [ils l1,int 0])) []) (h2:CallC P G 13 [txt x,int j] [] (.ret (.tup [ils l2,int 0])) []) (ex:AEx) (s':St) (h:RunL P G none 0 (loopAt P 10 0) (St.mk (slots 138 [(2,AV.ptr 0 0),(3,AV.ptr 1 0),(5,AV.ptr 2 0),(7,int (↑j:Int)),(8,int (↑(k+1):Int))]) [AObj.box [AV.sl 9 false (Sq.encs (TE.cells t)),AV.sl 11 false (encs (TE.marks t))],AObj.box [int (ED.kd e),int (ED.tm e),int (ED.n e),int (ED.dv e),int (ED.sq e),int (ED.a e),int (ED.b e),int (ED.c e),str (ED.s e),int (MK.dv (ED.m e)),int (MK.sq (ED.m e)),int (MK.tm (ED.m e)),int (MK.fd (ED.m e)),int (MK.fs (ED.m e)),int (MK.fa (ED.m e)),int (MK.td (ED.m e)),int (MK.ts (ED.m e)),int (MK.ta (ED.m e)),int (MK.st (ED.m e)),Am.bool (MK.on (ED.m e))],AObj.box [AV.sl 9 false (Sq.encs (TE.cells x)),AV.sl 11 false (encs (TE.marks x))]] []) ex s'):RunL P G none 0 (loopAt P 10 0) (kcS t x e la k) ex s':=by
 have hz2:(0:Int)≤(↑k:Int)∧(Sq.encs (TE.cells t))[Int.toNat (↑k:Int)]? = some (Sq.enc c):=(el_nat hx)
 exact loop_next [kv 45 (show Am.Sub (int (↑(List.length (Sq.encs (TE.cells t))):Int)) (int (↑(List.length (TE.cells t)):Int)) from (Sub.of_eq (by simp only [Go.Sq.encs_length]))),kt (show decide ((↑k:Int)<(↑(List.length (TE.cells t)):Int))=true from (decide_eq_true (by omega))),ko (Orc.elem (Sq.enc c)),kp hz2,kc [] (@hi ),kf (show decide ((↑j:Int)≤la)=false from (decide_eq_false (by omega))),ko (Orc.elem (Sq.enc c)),kp hz2,kf hg,kf (Eq.refl false),kc [] (@h1 ),kc [] (@h2 ),kf (Eq.refl false),kf (Eq.refl false),kt (show (ED.kd e == 0)=true from (decide_eq_true (by omega))),kc [] (@h3 ),kf (Eq.refl false),kv 48 (show Am.Sub (int (IntKind.wrap IntKind.i64 ((↑k:Int)+1))) (int (↑(k+1):Int)) from (Sub.of_wrap (by omega) (by omega) (by omega)))] (others 138 [2,3,5,7,8]) 3 h (by kernel_rfl)
theorem kc_b1 (t x:TE) (e:ED) (la:Int) (k j:Nat) (c y:CE) (l1 l2:List Int) (hl:t.cells.length≤40) (hxl:x.cells.length≤1000000) (hk:(k:Int)<(t.cells.length:Int)) (hx:t.cells[k]? = some c) (hy:x.cells[j]? = some y) (hj:(j:Int)<(x.cells.length:Int)) (hla:¬ (j:Int)≤la) (hg:c.gn=false) (h0:¬ e.kd=0) (hi:CallC P G 29 [ces x.cells,ida c.dv c.sq c.at'] [] (.ret (int j)) []) (h1:CallC P G 13 [txt t,int k] [] (.ret (.tup [ils l1,int 0])) []) (h2:CallC P G 13 [txt x,int j] [] (.ret (.tup [ils l2,int 0])) []) (ex:AEx) (s':St) (h:RunL P G none 0 (loopAt P 10 0) (St.mk (slots 138 [(2,AV.ptr 0 0),(3,AV.ptr 1 0),(5,AV.ptr 2 0),(7,int (↑j:Int)),(8,int (↑(k+1):Int))]) [AObj.box [AV.sl 9 false (Sq.encs (TE.cells t)),AV.sl 11 false (encs (TE.marks t))],AObj.box [int (ED.kd e),int (ED.tm e),int (ED.n e),int (ED.dv e),int (ED.sq e),int (ED.a e),int (ED.b e),int (ED.c e),str (ED.s e),int (MK.dv (ED.m e)),int (MK.sq (ED.m e)),int (MK.tm (ED.m e)),int (MK.fd (ED.m e)),int (MK.fs (ED.m e)),int (MK.fa (ED.m e)),int (MK.td (ED.m e)),int (MK.ts (ED.m e)),int (MK.ta (ED.m e)),int (MK.st (ED.m e)),Am.bool (MK.on (ED.m e))],AObj.box [AV.sl 9 false (Sq.encs (TE.cells x)),AV.sl 11 false (encs (TE.marks x))]] []) ex s'):RunL P G none 0 (loopAt P 10 0) (kcS t x e la k) ex s':=by
 have hz2:(0:Int)≤(↑k:Int)∧(Sq.encs (TE.cells t))[Int.toNat (↑k:Int)]? = some (Sq.enc c):=(el_nat hx)
 exact loop_next [kv 45 (show Am.Sub (int (↑(List.length (Sq.encs (TE.cells t))):Int)) (int (↑(List.length (TE.cells t)):Int)) from (Sub.of_eq (by simp only [Go.Sq.encs_length]))),kt (show decide ((↑k:Int)<(↑(List.length (TE.cells t)):Int))=true from (decide_eq_true (by omega))),ko (Orc.elem (Sq.enc c)),kp hz2,kc [] (@hi ),kf (show decide ((↑j:Int)≤la)=false from (decide_eq_false (by omega))),ko (Orc.elem (Sq.enc c)),kp hz2,kf hg,kf (Eq.refl false),kc [] (@h1 ),kc [] (@h2 ),kf (Eq.refl false),kf (Eq.refl false),kf (show (ED.kd e == 0)=false from (decide_eq_false (by omega))),kf (Eq.refl false),kv 48 (show Am.Sub (int (IntKind.wrap IntKind.i64 ((↑k:Int)+1))) (int (↑(k+1):Int)) from (Sub.of_wrap (by omega) (by omega) (by omega)))] (others 138 [2,3,5,7,8]) 3 h (by kernel_rfl)
theorem km_e (t x:TE) (e:ED) (k:Nat) (hk:¬ (k:Int)<(t.marks.length:Int)) (h:True):RunL P G none 0 (loopAt P 10 1) (kmS t x e k) (AEx.exit 2) (kmX t x e):=by
 have _:=h
 exact loop_exit [kv 111 (show Am.Sub (int (↑(List.length (encs (TE.marks t))):Int)) (int (↑(List.length (TE.marks t)):Int)) from (Sub.of_eq (by simp only [Go.Tx.encs_length]))),kf (show decide ((↑k:Int)<(↑(List.length (TE.marks t)):Int))=false from (decide_eq_false (by omega)))] (others 138 []) 3 (by kernel_rfl)
theorem kn_e (t x:TE) (e:ED) (k:Nat) (b:Bool) (j:Nat) (hj:¬ (j:Int)<(x.marks.length:Int)) (h:True):RunL P G none 0 (loopAt P 10 2) (knS t x e k b j) (AEx.exit 4) (knX t x e k b):=by
 have _:=h
 exact loop_exit [kv 118 (show Am.Sub (int (↑(List.length (encs (TE.marks x))):Int)) (int (↑(List.length (TE.marks x)):Int)) from (Sub.of_eq (by simp only [Go.Tx.encs_length]))),kf (show decide ((↑j:Int)<(↑(List.length (TE.marks x)):Int))=false from (decide_eq_false (by omega)))] (others 138 [2,5,14,15]) 3 (by kernel_rfl)
theorem kn_t (t x:TE) (e:ED) (k:Nat) (j:Nat) (hxm:x.marks.length≤1000000) (hj:(j:Int)<(x.marks.length:Int)) (ex:AEx) (s':St) (h:RunL P G none 0 (loopAt P 10 2) (St.mk (slots 138 [(2,AV.ptr 0 0),(5,AV.ptr 2 0),(14,int (↑k:Int)),(15,Am.bool true),(16,int (↑(j+1):Int))]) [AObj.box [AV.sl 9 false (Sq.encs (TE.cells t)),AV.sl 11 false (encs (TE.marks t))],AObj.box [int (ED.kd e),int (ED.tm e),int (ED.n e),int (ED.dv e),int (ED.sq e),int (ED.a e),int (ED.b e),int (ED.c e),str (ED.s e),int (MK.dv (ED.m e)),int (MK.sq (ED.m e)),int (MK.tm (ED.m e)),int (MK.fd (ED.m e)),int (MK.fs (ED.m e)),int (MK.fa (ED.m e)),int (MK.td (ED.m e)),int (MK.ts (ED.m e)),int (MK.ta (ED.m e)),int (MK.st (ED.m e)),Am.bool (MK.on (ED.m e))],AObj.box [AV.sl 9 false (Sq.encs (TE.cells x)),AV.sl 11 false (encs (TE.marks x))]] []) ex s'):RunL P G none 0 (loopAt P 10 2) (knS t x e k true j) ex s':=by
 exact loop_next [kv 118 (show Am.Sub (int (↑(List.length (encs (TE.marks x))):Int)) (int (↑(List.length (TE.marks x)):Int)) from (Sub.of_eq (by simp only [Go.Tx.encs_length]))),kt (show decide ((↑j:Int)<(↑(List.length (TE.marks x)):Int))=true from (decide_eq_true (by omega))),kt (Eq.refl true),kv 121 (show Am.Sub (int (IntKind.wrap IntKind.i64 ((↑j:Int)+1))) (int (↑(j+1):Int)) from (Sub.of_wrap (by omega) (by omega) (by omega)))] (others 138 [2,5,14,15,16]) 3 h (by kernel_rfl)
theorem kn_f (t x:TE) (e:ED) (k:Nat) (j:Nat) (m a:MK) (hxm:x.marks.length≤1000000) (hk:t.marks[k]? = some m) (hk2:(k:Int)<(t.marks.length:Int)) (ha:x.marks[j]? = some a) (hj:(j:Int)<(x.marks.length:Int)) (ex:AEx) (s':St) (h:RunL P G none 0 (loopAt P 10 2) (St.mk (slots 138 [(2,AV.ptr 0 0),(5,AV.ptr 2 0),(14,int (↑k:Int)),(15,Am.bool (MK.dv a == MK.dv m && (MK.sq a == MK.sq m && (MK.tm a == MK.tm m && (MK.fd a == MK.fd m && (MK.fs a == MK.fs m && (MK.fa a == MK.fa m && (MK.td a == MK.td m && (MK.ts a == MK.ts m && (MK.ta a == MK.ta m && (MK.st a == MK.st m && MK.on a == MK.on m))))))))))),(16,int (↑(j+1):Int))]) [AObj.box [AV.sl 9 false (Sq.encs (TE.cells t)),AV.sl 11 false (encs (TE.marks t))],AObj.box [int (ED.kd e),int (ED.tm e),int (ED.n e),int (ED.dv e),int (ED.sq e),int (ED.a e),int (ED.b e),int (ED.c e),str (ED.s e),int (MK.dv (ED.m e)),int (MK.sq (ED.m e)),int (MK.tm (ED.m e)),int (MK.fd (ED.m e)),int (MK.fs (ED.m e)),int (MK.fa (ED.m e)),int (MK.td (ED.m e)),int (MK.ts (ED.m e)),int (MK.ta (ED.m e)),int (MK.st (ED.m e)),Am.bool (MK.on (ED.m e))],AObj.box [AV.sl 9 false (Sq.encs (TE.cells x)),AV.sl 11 false (encs (TE.marks x))]] []) ex s'):RunL P G none 0 (loopAt P 10 2) (knS t x e k false j) ex s':=by
 exact loop_next [kv 118 (show Am.Sub (int (↑(List.length (encs (TE.marks x))):Int)) (int (↑(List.length (TE.marks x)):Int)) from (Sub.of_eq (by simp only [Go.Tx.encs_length]))),kt (show decide ((↑j:Int)<(↑(List.length (TE.marks x)):Int))=true from (decide_eq_true (by omega))),kf (Eq.refl false),ko (Orc.elem (enc a)),ko (Orc.elem (enc m)),kp (show (0:Int)≤(↑j:Int)∧(encs (TE.marks x))[Int.toNat (↑j:Int)]? = some (enc a) from (el_nat ha)),kp (show (0:Int)≤(↑k:Int)∧(encs (TE.marks t))[Int.toNat (↑k:Int)]? = some (enc m) from (el_nat hk)),kv 121 (show Am.Sub (int (IntKind.wrap IntKind.i64 ((↑j:Int)+1))) (int (↑(j+1):Int)) from (Sub.of_wrap (by omega) (by omega) (by omega)))] (others 138 [2,5,14,15,16]) 3 h (by kernel_rfl)
theorem km_n (t x:TE) (e:ED) (k:Nat) (hl:t.marks.length≤12) (hk:(k:Int)<(t.marks.length:Int)) (hI:RunL P G none 0 (loopAt P 10 2) (knS t x e k false 0) (.exit 4) (knX t x e k true)) (ex:AEx) (s':St) (h:RunL P G none 0 (loopAt P 10 1) (St.mk (slots 138 [(2,AV.ptr 0 0),(5,AV.ptr 2 0),(14,int (↑(k+1):Int))]) [AObj.box [AV.sl 9 false (Sq.encs (TE.cells t)),AV.sl 11 false (encs (TE.marks t))],AObj.box [int (ED.kd e),int (ED.tm e),int (ED.n e),int (ED.dv e),int (ED.sq e),int (ED.a e),int (ED.b e),int (ED.c e),str (ED.s e),int (MK.dv (ED.m e)),int (MK.sq (ED.m e)),int (MK.tm (ED.m e)),int (MK.fd (ED.m e)),int (MK.fs (ED.m e)),int (MK.fa (ED.m e)),int (MK.td (ED.m e)),int (MK.ts (ED.m e)),int (MK.ta (ED.m e)),int (MK.st (ED.m e)),Am.bool (MK.on (ED.m e))],AObj.box [AV.sl 9 false (Sq.encs (TE.cells x)),AV.sl 11 false (encs (TE.marks x))]] []) ex s'):RunL P G none 0 (loopAt P 10 1) (kmS t x e k) ex s':=by
 exact loop_next [kv 111 (show Am.Sub (int (↑(List.length (encs (TE.marks t))):Int)) (int (↑(List.length (TE.marks t)):Int)) from (Sub.of_eq (by simp only [Go.Tx.encs_length]))),kt (show decide ((↑k:Int)<(↑(List.length (TE.marks t)):Int))=true from (decide_eq_true (by omega))),kl [108,109,110,111,112] 3 (@hI ),kf (Eq.refl false),kv 114 (show Am.Sub (int (IntKind.wrap IntKind.i64 ((↑k:Int)+1))) (int (↑(k+1):Int)) from (Sub.of_wrap (by omega) (by omega) (by omega)))] (others 138 [2,5,14]) 3 h (by kernel_rfl)
theorem kp_0 (t:TE) (e:ED) (hf:CallC P G 23 [txt t,edt e] [] (.ret (bool false)) []) (h:True):CallC P G 10 [txt t,edt e] [] (AOut.ret (Am.bool true)) []:=by
 have _:=h
 exact callC_of [kc [] (@Go.Tx.sane_w (trivial)),kf (Eq.refl false),kc [] (@hf ),kt (Eq.refl true)] (by kernel_rfl)
theorem kp_1 (t x:TE) (e:ED) (r:Int) (hr:r≠0) (hf:CallC P G 23 [txt t,edt e] [] (.ret (bool true)) []) (hp:CallC P G 24 [txt t,edt e] [] (.ret (.tup [txt x,int r])) []) (h:(r != 0)=(true)):CallC P G 10 [txt t,edt e] [] (AOut.ret (Am.bool true)) []:=by
 have e1:=h
 exact callC_out (Sub.bool_eq e1) [kc [] (@Go.Tx.sane_w (trivial)),kf (Eq.refl false),kc [] (@hf ),kf (Eq.refl false),kc [] (@hp ),kt (show (r != 0)=true from (congrArg Bool.not (decide_eq_false (by omega)))),kt (Eq.refl true)] (by kernel_rfl)
theorem kp_2 (t x:TE) (e:ED) (hm:¬ (x.marks.length:Int)<(t.marks.length:Int)) (hf:CallC P G 23 [txt t,edt e] [] (.ret (bool true)) []) (hp:CallC P G 24 [txt t,edt e] [] (.ret (.tup [txt x,int 0])) []) (hC:RunL P G none 0 (loopAt P 10 0) (kcS t x e (-1) 0) (.exit 0) (kcX t x e)) (hM:RunL P G none 0 (loopAt P 10 1) (kmS t x e 0) (.exit 2) (kmX t x e)) (h:True):CallC P G 10 [txt t,edt e] [] (AOut.ret (Am.bool true)) []:=by
 have _:=h
 exact callC_of [kc [] (@Go.Tx.sane_w (trivial)),kf (Eq.refl false),kc [] (@hf ),kf (Eq.refl false),kc [] (@hp ),kf (Eq.refl false),kv 34 (show Am.Sub (int (↑(List.length (encs (TE.marks x))):Int)) (int (↑(List.length (TE.marks x)):Int)) from (Sub.of_eq (by simp only [Go.Tx.encs_length]))),kv 37 (show Am.Sub (int (↑(List.length (encs (TE.marks t))):Int)) (int (↑(List.length (TE.marks t)):Int)) from (Sub.of_eq (by simp only [Go.Tx.encs_length]))),kf (show decide ((↑(List.length (TE.marks x)):Int)<(↑(List.length (TE.marks t)):Int))=false from (decide_eq_false (by omega))),kl [0,1,4,6,9,10,11,12,13,14,15,16,17,18,19,20,21,22,23,24,25,26,27,28,29,30,31,32,33,34,35,36,37,38,39,40,41,42,43,44,45,46,47,48,49,50,51,52,53,54,55,56,57,58,59,60,61,62,63,64,65,66,67,68,69,70,71,72,73,74,75,76,77,78,79,80,81,82,83,84,85,86,87,88,89,90,91,92,93,94,95,96,97,98,99,100,101,102,103,104,105,106,107,108,109,110,111,112,113,114,115,116,117,118,119,120,121,122,123,124,125,126,127,128,129,130,131,132,133,134,135,136,137] 3 (@hC ),kl [] 3 (@hM )] (by kernel_rfl)
end Go.Tx


namespace Go.Tx
open Go Go.Am Go.Proofs Go.Seat
open Go.Sq (CE cel ces ida idv pid fX fiO OkRs OkR chkE)
end Go.Tx


namespace Go.Tx
open Go Go.Am Go.Proofs Go.Seat
open Go.Sq (CE cel ces ida idv pid fX fiO OkRs OkR chkE insE insV formsB Ok Ids lvl all clash More ers goneAt)
def tyL (dv sq tm:Int) (s:ByteArray):Nat→Nat→Sq.ID→List CE
 | 0,_,_=>[]
 | n+1,k,i=>tyC dv sq tm k i s::tyL dv sq tm s n (k+1) (dv,sq,(k:Int))
theorem ins_iff {l:List CE} {c:CE} (hg:c.gn=false):insE l c=0↔chkE l=0∧formsB (l++[c])=true:=by
 rcases Sq.ins_cases l c with ⟨h1,h2,h3,_⟩ | ⟨h1,_⟩
 · exact ⟨fun _=>⟨h2,h3⟩,fun _=>h1⟩
 · refine ⟨fun h=>absurd h h1,fun ⟨h2,h3⟩=>?_⟩
   unfold Sq.insE Sq.ordE
   simp [h2,hg,h3]
theorem ins_all {l:List CE} {c:CE} (h:insE l c=0):insV l c=all (l++[c]):=by
 rcases Sq.ins_cases l c with ⟨_,_,_,h4⟩ | ⟨h1,_⟩
 · exact h4
 · exact absurd h h1
theorem lvl_up {l m:List CE} (h:∀ x∈l,x∈m):∀ {n:Nat} {c:CE},lvl l n c→lvl m n c
 | 0,_,k=>k
 | n+1,_,⟨p,hp,e,k⟩=>⟨p,h p hp,e,lvl_up h k⟩
theorem forms_up {l l':List CE} {c:CE} (h:More l c) (h':formsB l'=true) (hs:∀ x∈l,x∈l') (hc:∀ y∈l',y∉l→clash c y=false):formsB (l'++[c])=true:=by
 obtain ⟨o1,o2⟩:=Sq.forms_iff.1 h'
 have hm:=h.okm
 have cl:∀ y∈l',clash c y=false:=fun y hy=>by
  by_cases hyl:y∈l
  · exact (List.pairwise_append.1 hm.apart).2.2 y hyl c (by simp)
  · exact hc y hy hyl
 refine Sq.forms_iff.2 ⟨⟨fun x hx=>?_,?_⟩,fun x hx=>?_⟩
 · rcases List.mem_append.1 hx with hx | hx
   · exact o1.valid x hx
   · exact hm.valid x (List.mem_append_right _ hx)
 · refine List.pairwise_append.2 ⟨o1.apart,List.pairwise_singleton _ _,fun a ha b hb=>?_⟩
   rw [List.mem_singleton.1 hb]
   exact cl a ha
 · rcases List.mem_append.1 hx with hx | hx
   · obtain ⟨n,hn⟩:=o2 x hx
     exact ⟨n,lvl_up (fun y hy=>List.mem_append_left _ hy) hn⟩
   · rw [List.mem_singleton.1 hx]
     rcases h.parent with e | ⟨p,hp,e⟩
     · exact ⟨0,e⟩
     · obtain ⟨n,hn⟩:=o2 p (hs p hp)
       exact ⟨n+1,p,List.mem_append_left _ (hs p hp),e,lvl_up (fun y hy=>List.mem_append_left _ hy) hn⟩
theorem ty_up {dv sq tm:Int} {s:ByteArray}:∀ {n k:Nat} {i:Sq.ID} {l l':List CE},chkE l=0→(tyN dv sq tm s n k i l).2=0→chkE l'=0→(∀ x∈l,x∈l')→(∀ c∈tyL dv sq tm s n k i,∀ y∈l',y∉l→clash c y=false) →
 tyN dv sq tm s n k i l'=(all (l'++tyL dv sq tm s n k i),0)∧formsB (l'++tyL dv sq tm s n k i)=true
 | 0,k,i,l,l',_,_,h',_,_=>by
  obtain ⟨f1,f2⟩:=Sq.chk_iff.1 h'
  refine ⟨?_,by simpa [tyL] using f1⟩
  simp [tyN,tyL,f2]
 | n+1,k,i,l,l',h,ht,h',hs,hc=>by
  rw [tyN] at ht
  split at ht
  · rename_i hne
    exact absurd ht hne
  · rename_i h0
    have h0:insE l (tyC dv sq tm k i s)=0:=by simpa using h0
    obtain ⟨_,f1⟩:=(ins_iff (c:=tyC dv sq tm k i s) rfl).1 h0
    have hM:More l (tyC dv sq tm k i s):=⟨(Sq.chk_iff.1 h).1,f1⟩
    have f2:=forms_up hM (Sq.chk_iff.1 h').1 hs (hc _ (List.mem_cons_self ..))
    have h1:=(ins_iff (l:=l') (c:=tyC dv sq tm k i s) rfl).2 ⟨h',f2⟩
    rw [ins_all h0] at ht
    have mem1:∀ {x},x∈all (l++[tyC dv sq tm k i s])↔x∈l∨x=tyC dv sq tm k i s:=fun {x}=>by rw [(Sq.all_is f1).mem_iff]; simp
    have mem2:∀ {x},x∈all (l'++[tyC dv sq tm k i s])↔x∈l'∨x=tyC dv sq tm k i s:=fun {x}=>by rw [(Sq.all_is f2).mem_iff]; simp
    obtain ⟨a1,a2⟩:=ty_up (l':=all (l'++[tyC dv sq tm k i s])) (Sq.ord_ord f1).2.2 ht (Sq.ord_ord f2).2.2 (fun x hx=>mem2.2 ((mem1.1 hx).imp (hs x) id)) (fun c hcm y hy hn=>by
     rcases mem2.1 hy with hy | hy
     · exact hc c (List.mem_cons_of_mem _ hcm) y hy fun hyl=>hn (mem1.2 (.inl hyl))
     · exact absurd (mem1.2 (.inr hy)) hn)
    have hp:(all (l'++[tyC dv sq tm k i s])++tyL dv sq tm s n (k+1) (dv,sq,(k:Int))).Perm (l'++tyL dv sq tm s (n+1) k i):=by
     have:=(Sq.all_is f2).append_right (tyL dv sq tm s n (k+1) (dv,sq,(k:Int)))
     rw [List.append_assoc] at this
     exact this
    have f3:formsB (l'++tyL dv sq tm s (n+1) k i)=true:=by rw [← Sq.forms_perm hp]; exact a2
    refine ⟨?_,f3⟩
    rw [tyN,if_neg (by simpa using h1),ins_all h1,a1,Sq.all_perm (Sq.forms_iff.1 a2).1 hp]
theorem ty_is {dv sq tm:Int} {s:ByteArray} {n k:Nat} {i:Sq.ID} {l:List CE} (h:chkE l=0) (ht:(tyN dv sq tm s n k i l).2=0):tyN dv sq tm s n k i l=(all (l++tyL dv sq tm s n k i),0)∧formsB (l++tyL dv sq tm s n k i)=true :=
 ty_up h ht h (fun _ hx=>hx) fun _ _ _ hy hn=>absurd hy hn
def cutF (a b c:Int):Nat→Nat→CE→CE
 | 0,_,x=>x
 | n+1,k,x=>cutF a b c n (k+1) (ers (a,b,wr c k) x)
theorem cutF_alike {a b c:Int}:∀ {n k:Nat},Sq.Alike (cutF a b c n k)
 | 0,_=>⟨fun _=>rfl,fun _=>rfl,fun _=>rfl,fun _=>rfl,fun _=>rfl,fun _=>rfl,fun _=>rfl,fun _=>rfl⟩
 | n+1,k=>by
  have h:=Sq.ers_alike (a,b,wr c k)
  have k:=cutF_alike (a:=a) (b:=b) (c:=c) (n:=n) (k:=k+1)
  constructor<;>intro x<;>simp only [cutF]
  · rw [k.dv,h.dv]
  · rw [k.sq,h.sq]
  · rw [k.at',h.at']
  · rw [k.ad,h.ad]
  · rw [k.as',h.as']
  · rw [k.aa,h.aa]
  · rw [k.tm,h.tm]
  · rw [k.vl,h.vl]
theorem cutF_gn {a b c:Int}:∀ {n k:Nat} {x:CE},(cutF a b c n k x).gn=true↔x.gn=true∨∃ j,j<n∧x.id=(a,b,wr c (k+j))
 | 0,k,x=>by simp [cutF]
 | n+1,k,x=>by
  rw [cutF,cutF_gn,(Sq.ers_alike _).id]
  have h1:(ers (a,b,wr c k) x).gn=true↔x.gn=true∨x.id=(a,b,wr c k):=by
   by_cases h:x.id=(a,b,wr c k)
   · rw [Sq.ers_yes h]; simp [h]
   · rw [Sq.ers_no h]; simp [h]
  rw [h1]
  constructor
  · rintro ((h | h) | ⟨j,hj,h⟩)
    · exact .inl h
    · exact .inr ⟨0,by omega,h⟩
    · exact .inr ⟨j+1,by omega,by rw [h,show k+1+j=k+(j+1) by omega]⟩
  · rintro (h | ⟨j,hj,h⟩)
    · exact .inl (.inl h)
    · cases j with
      | zero=>exact .inl (.inr h)
      | succ j=>exact .inr ⟨j,by omega,by rw [h,show k+1+j=k+(j+1) by omega]⟩
def CutOk (a b c:Int) (n k:Nat) (l:List CE):Prop:=∀ j,j<n→∃ x∈l,x.id=(a,b,wr c (k+j))
theorem cut_is {a b c:Int}:∀ {n k:Nat} {l:List CE},Ids l→(CutOk a b c n k l→cutN a b c n k l=some (l.map (cutF a b c n k)))∧∀ {r},cutN a b c n k l=some r→CutOk a b c n k l
 | 0,k,l,_=>⟨fun _=>by simp [cutN,cutF],fun _ j hj=>absurd hj (by omega)⟩
 | n+1,k,l,hl=>by
  have ha:=Sq.ers_alike (a,b,wr c k)
  have hl2:Ids (l.map (ers (a,b,wr c k))):=List.pairwise_map.2 (hl.imp fun {x y} q=>by rw [ha.id,ha.id]; exact q)
  obtain ⟨i1,i2⟩:=cut_is (a:=a) (b:=b) (c:=c) (n:=n) (k:=k+1) hl2
  constructor
  · intro h
    obtain ⟨x,hx,e⟩:=h 0 (by omega)
    obtain ⟨m,hm⟩:=Sq.fX_mem hx e
    have hm:fX (pid a b (wr c k)) l=some m:=hm
    rw [cutN,hm]
    show cutN a b c n (k+1) (goneAt l m)=_
    rw [Sq.goneAt_map hl hm,i1 fun j hj=>?_,List.map_map]
    · rfl
    · obtain ⟨y,hy,e⟩:=h (j+1) (by omega)
      exact ⟨_,List.mem_map.2 ⟨y,hy,rfl⟩,by rw [ha.id,e,show k+1+j=k+(j+1) by omega]⟩
  · intro r h j hj
    rw [cutN] at h
    split at h
    · rename_i m hm
      rw [Sq.goneAt_map hl hm] at h
      cases j with
      | zero =>
       obtain ⟨x,hx,e⟩:=Sq.fX_some hm
       exact ⟨x,List.mem_of_getElem? hx,e⟩
      | succ j =>
       obtain ⟨y,hy,e⟩:=i2 h j (by omega)
       obtain ⟨x,hx,rfl⟩:=List.mem_map.1 hy
       exact ⟨x,hx,by rw [ha.id] at e; rw [e,show k+1+j=k+(j+1) by omega]⟩
    · cases h
def addM (m:MK) (v:List MK):List MK:=v.take (plcM m v)++[m]++v.drop (plcM m v)
theorem addM_perm (m:MK) (v:List MK):(addM m v).Perm (m::v):=by
 unfold addM
 have:(v.take (plcM m v)++[m]++v.drop (plcM m v)).Perm (m::(v.take (plcM m v)++v.drop (plcM m v))):=by
  rw [List.append_assoc]
  exact List.perm_middle
 rw [List.take_append_drop] at this
 exact this
theorem less_or {a b:MK} (h:a.dot≠b.dot):lessM a b=true∨lessM b a=true:=by
 rw [less_iff,less_iff]
 simp only [MK.dot,ne_eq,Prod.mk.injEq,not_and] at h
 by_cases e:a.dv=b.dv
 · have:=h e; omega
 · omega
theorem addM_sorted {m:MK} {v:List MK} (h:v.Pairwise fun a c=>lessM a c=true) (hd:∀ a∈v,a.dot≠m.dot):(addM m v).Pairwise fun a c=>lessM a c=true:=by
 have h1:∀ a∈v.take (plcM m v),lessM a m=true:=fun a ha=>by
  obtain ⟨j,hj,rfl⟩:=List.getElem_of_mem ha
  rw [List.length_take] at hj
  rw [List.getElem_take]
  exact (plcM_lt h (by omega)).2 (by omega)
 have h2:∀ a∈v.drop (plcM m v),lessM m a=true:=fun a ha=>by
  obtain ⟨j,hj,rfl⟩:=List.getElem_of_mem ha
  rw [List.length_drop] at hj
  rw [List.getElem_drop]
  have hlt:plcM m v+j<v.length:=by omega
  rcases less_or (hd _ (List.getElem_mem hlt)) with k | k
  · have:=(plcM_lt h hlt).1 k; omega
  · exact k
 have hs:=h
 rw [← List.take_append_drop (plcM m v) v] at hs
 obtain ⟨s1,s2,s3⟩:=List.pairwise_append.1 hs
 unfold addM
 refine List.pairwise_append.2 ⟨List.pairwise_append.2 ⟨s1,List.pairwise_singleton _ _,fun a ha b hb=>?_⟩,s2,fun a ha b hb=>?_⟩
 · rw [List.mem_singleton.1 hb]; exact h1 a ha
 · rcases List.mem_append.1 ha with ha | ha
   · exact s3 a ha b hb
   · rw [List.mem_singleton.1 ha]; exact h2 b hb
theorem addM_ok {l:List CE} {m:MK} {v:List MK} (h:OkV l v) (hm:isMk l m=true) (hd:∀ a∈v,a.dot≠m.dot):OkV l (addM m v):=by
 refine ⟨fun a ha=>?_,addM_sorted h.sorted hd,?_⟩
 · rcases List.mem_cons.1 ((addM_perm m v).mem_iff.1 ha) with rfl | ha
   · exact hm
   · exact h.isM a ha
 · have:(m::v).Pairwise fun a b=>a.dot≠b.dot:=List.pairwise_cons.2 ⟨fun a ha e=>hd a ha e.symm,h.dots⟩
   exact (List.Perm.pairwise_iff (fun {a b} h e=>h e.symm) (addM_perm m v)).2 this
theorem isMk_iff {l:List CE} {m:MK}:isMk l m=true↔(∃ x∈l,x.id=m.frm)∧(∃ x∈l,x.id=m.upto)∧(Vec.isDotB (m.dv,m.sq) && decide (m.tm≥1) && decide (m.tm≤1099511627776) && decide (m.st≥0) && decide (m.st<16))=true:=by
 have key:∀ i j k:Int,(fX (pid i j k) l).isSome=true↔∃ x∈l,x.id=(i,j,k):=fun i j k=>by
  constructor
  · intro h
    obtain ⟨m,hm⟩:=Option.isSome_iff_exists.1 h
    obtain ⟨x,hx,e⟩:=Sq.fX_some hm
    exact ⟨x,List.mem_of_getElem? hx,e⟩
  · rintro ⟨x,hx,e⟩
    obtain ⟨m,hm⟩:=Sq.fX_mem hx e
    rw [hm]; rfl
 unfold isMk MK.frm MK.upto
 rw [← key,← key]
 simp only [Bool.and_eq_true]
 constructor
 · rintro ⟨⟨⟨⟨⟨⟨h1,h2⟩,h3⟩,h4⟩,h5⟩,h6⟩,h7⟩
   exact ⟨h1,h2,⟨⟨⟨h3,h4⟩,h5⟩,h6⟩,h7⟩
 · rintro ⟨h1,h2,⟨⟨⟨h3,h4⟩,h5⟩,h6⟩,h7⟩
   exact ⟨⟨⟨⟨⟨⟨h1,h2⟩,h3⟩,h4⟩,h5⟩,h6⟩,h7⟩
theorem isMk_up {l l':List CE} {m:MK} (h:∀ x∈l,∃ y∈l',y.id=x.id) (hm:isMk l m=true):isMk l' m=true:=by
 obtain ⟨⟨x,hx,e⟩,⟨x',hx',e'⟩,k⟩:=isMk_iff.1 hm
 obtain ⟨y,hy,e2⟩:=h x hx
 obtain ⟨y',hy',e2'⟩:=h x' hx'
 exact isMk_iff.2 ⟨⟨y,hy,e2.trans e⟩,⟨y',hy',e2'.trans e'⟩,k⟩
theorem OkV.up {l l':List CE} {v:List MK} (h:OkV l v) (hs:∀ x∈l,∃ y∈l',y.id=x.id):OkV l' v:=⟨fun m hm=>isMk_up hs (h.isM m hm),h.sorted,h.dots⟩
end Go.Tx


namespace Go.Tx
open Go Go.Am Go.Proofs Go.Seat
open Go.Sq (CE cel ces ida idv pid fX fiO OkRs OkR chkE insE insV formsB Ok Ids lvl all clash More ers goneAt)
def TL (e:ED):List CE:=tyL e.dv e.sq e.tm e.s e.s.size 0 (e.a,e.b,e.c)
def CF (e:ED):CE→CE:=cutF e.a e.b e.c e.n.toNat 0
def TyOk (t:TE) (e:ED):Prop:=(1≤e.s.size∧e.s.size≤64)∧(tyN e.dv e.sq e.tm e.s e.s.size 0 (e.a,e.b,e.c) t.cells).2=0
def CuOk (t:TE) (e:ED):Prop:=(1≤e.n∧e.n≤64)∧CutOk e.a e.b e.c e.n.toNat 0 t.cells
def AdOk (t:TE) (e:ED):Prop:=isMk t.cells e.m=true∧∀ a∈t.marks,a.dot≠e.m.dot
theorem Val.chk {t:TE} (h:Val t):chkT t=0:=chkT_iff.2 h
theorem Val.ids {t:TE} (h:Val t):Ids t.cells:=(Sq.forms_iff.1 (Sq.chk_iff.1 h.cells).1).1.ids
theorem typ_mk {t:TE} {e:ED} (hV:Val t) (h:TyOk t e):typR t e.dv e.sq e.tm (e.a,e.b,e.c) e.s=(⟨(tyN e.dv e.sq e.tm e.s e.s.size 0 (e.a,e.b,e.c) t.cells).1,t.marks⟩,0):=by
 obtain ⟨⟨h1,h2⟩,h3⟩:=h
 unfold typR
 rw [if_neg (by simpa using hV.chk),if_neg (by omega),if_pos h3]
theorem cut_mk {t:TE} {e:ED} (hV:Val t) (h:CuOk t e):cutR t (e.a,e.b,e.c) e.n=(⟨t.cells.map (CF e),t.marks⟩,0):=by
 obtain ⟨⟨h1,h2⟩,h3⟩:=h
 unfold cutR
 rw [if_neg (by simpa using hV.chk),if_neg (by omega),(cut_is hV.ids).1 h3]
 rfl
theorem add_mk {t:TE} {e:ED} (hV:Val t) (h:AdOk t e):addR t e.m=(⟨t.cells,addM e.m t.marks⟩,0):=by
 obtain ⟨h1,h2⟩:=h
 unfold addR
 rw [if_neg (by simpa using hV.chk),if_neg (by rw [h1]; decide),if_neg]
 · rfl
 · intro hc
   obtain ⟨a,ha,e⟩:=List.any_eq_true.1 hc
   exact h2 a ha (of_decide_eq_true e)
theorem ed_inv {t:TE} {e:ED} (h:(edR t e).2=0):Val t∧(e.kd=0∧TyOk t e∧edR t e=(⟨all (t.cells++TL e),t.marks⟩,0)∨e.kd≠0∧e.kd=1∧CuOk t e∧edR t e=(⟨t.cells.map (CF e),t.marks⟩,0)∨e.kd≠0∧e.kd≠1∧AdOk t e∧edR t e=(⟨t.cells,addM e.m t.marks⟩,0)):=by
 have hv:chkT t=0:=by
  unfold edR at h
  split at h
  · unfold typR at h
    split at h
    · rename_i hc; exact absurd h hc
    · rename_i hc; simpa using hc
  · split at h
    · unfold cutR at h
      split at h
      · rename_i hc; exact absurd h hc
      · rename_i hc; simpa using hc
    · unfold addR at h
      split at h
      · rename_i hc; exact absurd h hc
      · rename_i hc; simpa using hc
 have hV:=chkT_iff.1 hv
 refine ⟨hV,?_⟩
 by_cases h0:e.kd=0
 · have e1:edR t e=typR t e.dv e.sq e.tm (e.a,e.b,e.c) e.s:=by unfold edR; rw [if_pos h0]
   rw [e1] at h ⊢
   have hT:TyOk t e:=by
    unfold typR at h
    rw [if_neg (by simpa using hv)] at h
    split at h
    · cases h
    · rename_i hs
      split at h
      · rename_i ht; exact ⟨by omega,ht⟩
      · rename_i ht; exact absurd h ht
   refine .inl ⟨h0,hT,?_⟩
   rw [typ_mk hV hT,(ty_is hV.cells hT.2).1]
   rfl
 · by_cases h1:e.kd=1
   · have e1:edR t e=cutR t (e.a,e.b,e.c) e.n:=by unfold edR; rw [if_neg h0,if_pos h1]
     rw [e1] at h ⊢
     have hC:CuOk t e:=by
      unfold cutR at h
      rw [if_neg (by simpa using hv)] at h
      split at h
      · cases h
      · rename_i hs
        split at h
        · rename_i hr; exact ⟨by omega,(cut_is hV.ids).2 hr⟩
        · cases h
     exact .inr (.inl ⟨h0,h1,hC,cut_mk hV hC⟩)
   · have e1:edR t e=addR t e.m:=by unfold edR; rw [if_neg h0,if_neg h1]
     rw [e1] at h ⊢
     have hA:AdOk t e:=by
      unfold addR at h
      rw [if_neg (by simpa using hv)] at h
      split at h
      · cases h
      · rename_i hs
        split at h
        · cases h
        · rename_i ha
          refine ⟨by simpa using hs,fun a hm e=>ha (List.any_eq_true.2 ⟨a,hm,decide_eq_true e⟩)⟩
     exact .inr (.inr ⟨h0,h1,hA,add_mk hV hA⟩)
theorem tyL_one {dv sq tm:Int} {s:ByteArray}:∀ {n k:Nat} {i:Sq.ID},k+n=s.size→∀ x∈tyL dv sq tm s n k i,x.vl.size=1
 | 0,_,_,_,x,hx=>by cases hx
 | n+1,k,i,h,x,hx=>by
  rcases List.mem_cons.1 hx with rfl | hx
  · show (s.extract k (k+1)).size=1
    rw [ByteArray.size_extract]
    omega
  · exact tyL_one (by omega) x hx
theorem val_ty {t:TE} {e:ED} (hV:Val t) (h:TyOk t e):Val ⟨all (t.cells++TL e),t.marks⟩∧formsB (t.cells++TL e)=true:=by
 obtain ⟨a1,a2⟩:=ty_is hV.cells h.2
 refine ⟨⟨(Sq.ord_ord a2).2.2,fun c hc=>?_,hV.marks.up fun x hx=>⟨x,(Sq.all_is a2).mem_iff.2 (List.mem_append_left _ hx),rfl⟩⟩,a2⟩
 rcases List.mem_append.1 ((Sq.all_is a2).mem_iff.1 hc) with hc | hc
 · exact hV.one c hc
 · exact tyL_one (by omega) c hc
theorem val_map {t:TE} {g:CE→CE} (hg:Sq.Alike g) (hV:Val t):Val ⟨t.cells.map g,t.marks⟩:=by
 refine ⟨hg.chk hV.cells,fun c hc=>?_,hV.marks.up fun x hx=>⟨g x,List.mem_map.2 ⟨x,hx,rfl⟩,hg.id x⟩⟩
 obtain ⟨x,hx,rfl⟩:=List.mem_map.1 hc
 rw [hg.vl]; exact hV.one x hx
theorem val_ad {t:TE} {e:ED} (hV:Val t) (h:AdOk t e):Val ⟨t.cells,addM e.m t.marks⟩:=⟨hV.cells,hV.one,addM_ok hV.marks h.1 h.2⟩
theorem ed_val {t:TE} {e:ED} (h:(edR t e).2=0):Val (edR t e).1:=by
 obtain ⟨hV,⟨_,h1,e1⟩ | ⟨_,_,h1,e1⟩ | ⟨_,_,h1,e1⟩⟩:=ed_inv h
 · rw [e1]; exact (val_ty hV h1).1
 · rw [e1]; exact val_map cutF_alike hV
 · rw [e1]; exact val_ad hV h1
theorem CutOk.up {a b c:Int} {n k:Nat} {l l':List CE} (h:CutOk a b c n k l) (hs:∀ x∈l,∃ y∈l',y.id=x.id):CutOk a b c n k l':=fun j hj=>by
 obtain ⟨x,hx,e⟩:=h j hj
 obtain ⟨y,hy,e'⟩:=hs x hx
 exact ⟨y,hy,e'.trans e⟩
end Go.Tx


namespace Go.Tx
open Go Go.Am Go.Proofs Go.Seat
open Go.Sq (CE cel ces ida idv pid fX fiO OkRs OkR chkE)
end Go.Tx


namespace Go.Tx
open Go Go.Am Go.Proofs Go.Seat
abbrev OkA (t:TE):Prop:=OkT t∧SzC t.cells∧∀ x∈t.cells,InR x.tm
end Go.Tx


namespace Go.Tx
open Go Go.Am Go.Proofs Go.Seat
open Go.Sq (CE cel ces ida idv pid fX fiO OkRs OkR chkE insE insV formsB Ok Ids lvl all clash More ers goneAt)
theorem gone_ok {l:List CE} {j:Nat} (h:OkRs l):OkRs (goneAt l j):=fun x hx=>by
 unfold Sq.goneAt at hx
 obtain ⟨i,hi⟩:=List.mem_iff_getElem?.1 hx
 rw [List.getElem?_modify] at hi
 split at hi
 · obtain ⟨y,hy,rfl⟩:=Option.map_eq_some_iff.1 hi
   exact h y (List.mem_of_getElem? hy)
 · obtain ⟨y,hy,rfl⟩:=Option.map_eq_some_iff.1 hi
   exact h y (List.mem_of_getElem? hy)
theorem cutN_ok {a b c:Int}:∀ {n k:Nat} {l r:List CE},OkRs l→cutN a b c n k l=some r→OkRs r
 | 0,_,_,_,h,e=>by simp [cutN] at e; rw [← e]; exact h
 | n+1,k,l,r,h,e=>by
  rw [cutN] at e
  split at e
  · exact cutN_ok (gone_ok h) e
  · cases e
theorem tyN_ok {dv sq tm:Int} {s:ByteArray} (h1:InR dv) (h2:InR sq):∀ {n k:Nat} {i:Sq.ID} {l:List CE},k+n≤64→InR i.1→InR i.2.1→InR i.2.2→OkRs l→OkRs (tyN dv sq tm s n k i l).1
 | 0,_,_,_,_,_,_,_,h=>h
 | n+1,k,i,l,hk,g1,g2,g3,h=>by
  rw [tyN]
  split
  · exact fun x hx=>by cases hx
  · exact tyN_ok h1 h2 (by omega) h1 h2 (by show InR (k:Int); unfold InR; omega) (insV_ok h (tyC_ok h1 h2 (by omega) g1 g2 g3))
theorem zT_ok:OkT zT:=⟨fun x hx=>(by cases hx),fun x hx=>(by cases hx)⟩
theorem edR_ok {t:TE} {e:ED} (h:OkT t) (hE:OkE e):OkT (edR t e).1:=by
 unfold edR
 split
 · unfold typR
   split
   · exact zT_ok
   · split
     · exact zT_ok
     · split
       · exact ⟨tyN_ok hE.dv hE.sq (by omega) hE.a hE.b hE.c h.cells,h.marks⟩
       · exact zT_ok
 · split
   · unfold cutR
     split
     · exact zT_ok
     · split
       · exact zT_ok
       · split
         · rename_i hr; exact ⟨cutN_ok h.cells hr,h.marks⟩
         · exact zT_ok
   · unfold addR
     split
     · exact zT_ok
     · split
       · exact zT_ok
       · split
         · exact zT_ok
         · refine ⟨h.cells,fun m hm=>?_⟩
           have hm:m∈addM e.m t.marks:=hm
           rcases List.mem_cons.1 ((addM_perm _ _).mem_iff.1 hm) with rfl | hm
           · exact hE.m
           · exact h.marks m hm
theorem fewE_iff {t:TE} {e:ED} (h:fewE t e=true):t.cells.length≤40∧t.marks.length≤12∧e.s.size≤100:=by unfold fewE fewT at h; grind
end Go.Tx


namespace Go.Tx
open Go Go.Am Go.Proofs Go.Seat
open Go.Sq (CE cel ces ida idv pid fX fiO OkRs OkR chkE insE insV formsB Ok Ids lvl all clash More ers goneAt)
theorem styR_ok {t:TE} (hV:Val t) {k:Nat} (hk:k<t.cells.length):styR t k=(styV t k,0):=by
 unfold styR
 rw [if_neg (by simpa using hV.chk),if_neg (by omega)]
end Go.Tx


namespace Go.Tx
open Go Go.Am Go.Proofs Go.Seat
open Go.Sq (CE cel ces ida idv pid fX fiO OkRs OkR chkE insE insV formsB Ok Ids lvl all clash More ers goneAt)
theorem sub_at {α:Type} {l m:List α} (h:l.Sublist m):∃ f:Nat→Nat,(∀ i j,i<j→f i<f j)∧∀ i x,l[i]? = some x→m[f i]? = some x:=by
 induction h with
 | slnil=>exact ⟨id,fun _ _ h=>h,fun i x h=>by simp at h⟩
 | cons a _ ih =>
  obtain ⟨f,h1,h2⟩:=ih
  exact ⟨fun i=>f i+1,fun i j h=>Nat.succ_lt_succ (h1 i j h),fun i x h=>by rw [List.getElem?_cons_succ]; exact h2 i x h⟩
 | cons_cons a _ ih =>
  obtain ⟨f,h1,h2⟩:=ih
  refine ⟨fun i=>match i with | 0=>0 | i+1=>f i+1,fun i j h=>?_,fun i x h=>?_⟩
  · cases j with
    | zero=>omega
    | succ j=>cases i with
     | zero=>exact Nat.succ_pos _
     | succ i=>exact Nat.succ_lt_succ (h1 i j (by omega))
  · cases i with
    | zero=>exact h
    | succ i=>rw [List.getElem?_cons_succ] at h; exact h2 i x h
theorem fX_ids {l:List CE} (hi:Ids l) {j:Nat} {y:CE} {a b c:Int} (hj:l[j]? = some y) (e:y.id=(a,b,c)):fX (pid a b c) l=some j:=by
 obtain ⟨hlt,hy⟩:=List.getElem?_eq_some_iff.1 hj
 have es:l=l.take j++y::l.drop (j+1):=by rw [← hy,← List.drop_eq_getElem_cons hlt,List.take_append_drop]
 have hp:∀ z∈l.take j,z.id≠(a,b,c):=fun z hz hzid=>by
  rw [es] at hi
  exact (List.pairwise_append.1 hi).2.2 z hz y (List.mem_cons_self ..) (hzid.trans e.symm)
 have:=Sq.fX_at (p:=l.take j) (q:=l.drop (j+1)) (c:=y) e hp
 rw [← es,List.length_take,Nat.min_eq_left (by omega)] at this
 exact this
theorem ixP_ids {l:List CE} (hi:Ids l) {j:Nat} {y:CE} {i:Sq.ID} (hj:l[j]? = some y) (e:y.id=i):ixP l i=(j:Int):=by
 unfold ixP
 rw [fX_ids hi hj (show y.id=(i.1,i.2.1,i.2.2) from e)]
 rfl
theorem ty_sub {dv sq tm:Int} {s:ByteArray}:∀ {n k:Nat} {i:Sq.ID} {l:List CE},chkE l=0→l.length+n≤999999→(tyN dv sq tm s n k i l).2=0→l.Sublist (tyN dv sq tm s n k i l).1
 | 0,_,_,_,_,_,_=>.refl _
 | n+1,k,i,l,h,hl,ht=>by
  rw [tyN] at ht ⊢
  split at ht
  · rename_i hne; exact absurd ht hne
  · rename_i h0
    rw [if_neg h0]
    have h0:insE l (tyC dv sq tm k i s)=0:=by simpa using h0
    obtain ⟨_,f1⟩:=(ins_iff (c:=tyC dv sq tm k i s) rfl).1 h0
    have hM:More l (tyC dv sq tm k i s):=⟨(Sq.chk_iff.1 h).1,f1⟩
    have hlen:=Sq.insV_len l (tyC dv sq tm k i s)
    rw [ins_all h0] at ht hlen ⊢
    refine List.Sublist.trans ?_ (ty_sub (Sq.ord_ord f1).2.2 (by omega) ht)
    have:=hM.flt (by omega)
    rw [(Sq.chk_iff.1 h).2] at this
    have hsub:((all (l++[tyC dv sq tm k i s])).filter (Sq.notC (tyC dv sq tm k i s))).Sublist (all (l++[tyC dv sq tm k i s])):=List.filter_sublist
    rw [this] at hsub
    exact hsub
theorem onF_congr {l l':List CE} {i j s:Int}:∀ {v:List MK} {b:Bool},(∀ m∈v,conB l m i=conB l' m j)→onF l i s b v=onF l' j s b v
 | [],_,_=>rfl
 | m::v,b,h=>by
  rw [onF,onF,h m (List.mem_cons_self ..)]
  exact onF_congr fun x hx=>h x (List.mem_cons_of_mem _ hx)
theorem stF_congr {t x:TE} {i j:Int} (hm:t.marks=x.marks) (h:∀ m∈t.marks,conB t.cells m i=conB x.cells m j):∀ n s,stF t i n s=stF x j n s
 | 0,_=>rfl
 | n+1,s=>by
  have e:onF t.cells i (s:Int) false t.marks=onF x.cells j (s:Int) false x.marks:=by rw [← hm]; exact onF_congr h
  rw [stF,stF,e,stF_congr hm h n (s+1)]
structure Keep (t x:TE) (kd:Int) (f:Nat→Nat):Prop where
 mono:∀ i j,i<j→f i<f j
 at_:∀ i c,t.cells[i]? = some c→∃ y,x.cells[f i]? = some y∧y.id=c.id∧(c.gn=true→y.gn=true)
 sty:kd=0→∀ i,i<t.cells.length→styV t i=styV x (f i:Nat)
 mem:∀ m∈t.marks,m∈x.marks
 len:t.marks.length≤x.marks.length
theorem ed_keep {t:TE} {e:ED} (h:(edR t e).2=0) (hl:t.cells.length≤40):∃ f,Keep t (edR t e).1 e.kd f:=by
 have hv:=ed_val h
 obtain ⟨hV,⟨h0,h1,e1⟩ | ⟨h0,_,h1,e1⟩ | ⟨h0,_,h1,e1⟩⟩:=ed_inv h
 · have hs:=ty_sub hV.cells (by have:=h1.1; omega) h1.2
   rw [(ty_is hV.cells h1.2).1] at hs
   obtain ⟨f,f1,f2⟩:=sub_at hs
   rw [e1] at hv ⊢
   have hx:Ids (all (t.cells++TL e)):=hv.ids
   refine ⟨f,f1,fun i c hc=>⟨c,f2 i c hc,rfl,id⟩,fun _ i hi=>?_,fun m hm=>hm,Nat.le_refl _⟩
   unfold styV
   refine stF_congr (t:=t) (x:=⟨all (t.cells++TL e),t.marks⟩) rfl (fun m hm=>?_) 16 0
   obtain ⟨⟨p,hp,ep⟩,⟨q,hq,eq⟩,_⟩:=isMk_iff.1 (hV.marks.isM m hm)
   obtain ⟨a,ha⟩:=List.mem_iff_getElem?.1 hp
   obtain ⟨b,hb⟩:=List.mem_iff_getElem?.1 hq
   have k1:=ixP_ids hV.ids ha ep
   have k2:=ixP_ids hV.ids hb eq
   have k3:=ixP_ids hx (f2 a p ha) ep
   have k4:=ixP_ids hx (f2 b q hb) eq
   unfold conB
   show (decide (ixP t.cells m.frm≤(i:Int)) && decide ((i:Int)≤ixP t.cells m.upto))=(decide (ixP (all (t.cells++TL e)) m.frm≤((f i:Nat):Int)) && decide (((f i:Nat):Int)≤ixP (all (t.cells++TL e)) m.upto))
   rw [k1,k2,k3,k4]
   have mono_le:∀ u w,(u:Nat)≤w↔f u≤f w:=fun u w=>by
    rcases Nat.lt_trichotomy u w with h | h | h
    · have:=f1 u w h; omega
    · subst h; omega
    · have:=f1 w u h; omega
   have m1:((a:Nat):Int)≤((i:Nat):Int)↔((f a:Nat):Int)≤((f i:Nat):Int):=by have:=mono_le a i; omega
   have m2:((i:Nat):Int)≤((b:Nat):Int)↔((f i:Nat):Int)≤((f b:Nat):Int):=by have:=mono_le i b; omega
   rw [decide_eq_decide.2 m1,decide_eq_decide.2 m2]
 · rw [e1]
   refine ⟨fun i=>i,fun _ _ h=>h,fun i c hc=>⟨CF e c,by show (t.cells.map (CF e))[i]? = _; rw [List.getElem?_map,hc]; rfl,cutF_alike.id c,fun hg=>cutF_gn.2 (.inl hg)⟩,fun hk=>absurd hk h0,fun m hm=>hm,Nat.le_refl _⟩
 · rw [e1]
   refine ⟨fun i=>i,fun _ _ h=>h,fun i c hc=>⟨c,hc,rfl,id⟩,fun hk=>absurd hk h0,fun m hm=>(addM_perm e.m t.marks).mem_iff.2 (List.mem_cons_of_mem _ hm),?_⟩
   have:=(addM_perm e.m t.marks).length_eq
   show t.marks.length≤(addM e.m t.marks).length
   rw [this,List.length_cons]; omega
theorem kc_loop (t x:TE) (e:ED) (f:Nat→Nat) (hK:Keep t x e.kd f) (hl:t.cells.length≤40) (hxl:x.cells.length≤1000000) (hx:Ids x.cells)
 (hS1:∀ k:Nat,k<t.cells.length→CallC P G 13 [txt t,int k] [] (.ret (.tup [ils (styV t k),int 0])) [])
 (hS2:∀ k:Nat,k<x.cells.length→CallC P G 13 [txt x,int k] [] (.ret (.tup [ils (styV x k),int 0])) []):∀ n k (la:Int),t.cells.length - k=n→k≤t.cells.length→la<(f k:Nat)→RunL P G none 0 (loopAt P 10 0) (kcS t x e la k) (.exit 0) (kcX t x e):=by
 intro n
 induction n with
 | zero=>intro k la hn hk _; exact kc_e t x e la k (by omega) trivial
 | succ n ih =>
  intro k la hn hk hla
  have hlt:k<t.cells.length:=by omega
  have hc:t.cells[k]? = some t.cells[k]:=List.getElem?_eq_getElem hlt
  obtain ⟨y,hy,hid,hgn⟩:=hK.at_ k _ hc
  have hyl:=(List.getElem?_eq_some_iff.1 hy).1
  have hi:=rindex_c x.cells t.cells[k].dv t.cells[k].sq t.cells[k].at' (by omega)
  have hix:ixP x.cells (t.cells[k].dv,t.cells[k].sq,t.cells[k].at')=(f k:Nat):=ixP_ids hx hy hid
  rw [hix] at hi
  have nx:=ih (k+1) (f k:Nat) (by omega) (by omega) (by have:=hK.mono k (k+1) (by omega); omega)
  by_cases h0:e.kd=0
  · have h3:=slist_c (styV t k) (styV x (f k:Nat)) (by have:=styV_len t k; omega) (by have:=styV_len x (f k:Nat); omega)
    rw [decide_eq_true (hK.sty h0 k hlt)] at h3
    cases hg:t.cells[k].gn with
    | true=>exact kc_a0 t x e la k (f k) _ y _ _ hl hxl (by omega) hc hy (by omega) (by omega) hg (hgn hg) h0 h3 hi (hS1 k hlt) (hS2 _ hyl) _ _ nx
    | false=>exact kc_b0 t x e la k (f k) _ y _ _ hl hxl (by omega) hc hy (by omega) (by omega) hg h0 h3 hi (hS1 k hlt) (hS2 _ hyl) _ _ nx
  · cases hg:t.cells[k].gn with
    | true=>exact kc_a1 t x e la k (f k) _ y _ _ hl hxl (by omega) hc hy (by omega) (by omega) hg (hgn hg) h0 hi (hS1 k hlt) (hS2 _ hyl) _ _ nx
    | false=>exact kc_b1 t x e la k (f k) _ y _ _ hl hxl (by omega) hc hy (by omega) (by omega) hg h0 hi (hS1 k hlt) (hS2 _ hyl) _ _ nx
theorem mk_beq (a m:MK):(MK.dv a == MK.dv m && (MK.sq a == MK.sq m && (MK.tm a == MK.tm m && (MK.fd a == MK.fd m && (MK.fs a == MK.fs m && (MK.fa a == MK.fa m && (MK.td a == MK.td m && (MK.ts a == MK.ts m && (MK.ta a == MK.ta m && (MK.st a == MK.st m && MK.on a == MK.on m))))))))))=decide (a=m):=by
 rw [Bool.eq_iff_iff]
 cases a; cases m
 simp [MK.mk.injEq]
theorem kn_loop (t x:TE) (e:ED) (k:Nat) (m:MK) (hxm:x.marks.length≤1000000) (hk:t.marks[k]? = some m):∀ n j (b:Bool),x.marks.length - j=n→j≤x.marks.length→RunL P G none 0 (loopAt P 10 2) (knS t x e k b j) (.exit 4) (knX t x e k (b || (x.marks.drop j).any fun a=>decide (a=m))):=by
 intro n
 induction n with
 | zero =>
  intro j b hn hj
  rw [List.drop_eq_nil_of_le (by omega),List.any_nil,Bool.or_false]
  exact kn_e t x e k b j (by omega) trivial
 | succ n ih =>
  intro j b hn hj
  have hlt:j<x.marks.length:=by omega
  have hkl:=(List.getElem?_eq_some_iff.1 hk).1
  rw [List.drop_eq_getElem_cons hlt,List.any_cons]
  cases b with
  | true =>
   have:=ih (j+1) true (by omega) (by omega)
   rw [Bool.true_or] at this ⊢
   exact kn_t t x e k j hxm (by omega) _ _ this
  | false =>
   have:=ih (j+1) (decide (x.marks[j]=m)) (by omega) (by omega)
   rw [Bool.false_or]
   refine kn_f t x e k j m _ hxm hk (by omega) (List.getElem?_eq_getElem hlt) (by omega) _ _ ?_
   rw [mk_beq]
   exact this
theorem km_loop (t x:TE) (e:ED) (hl:t.marks.length≤12) (hxm:x.marks.length≤1000000) (hm:∀ m∈t.marks,m∈x.marks):∀ n k,t.marks.length - k=n→k≤t.marks.length→RunL P G none 0 (loopAt P 10 1) (kmS t x e k) (.exit 2) (kmX t x e):=by
 intro n
 induction n with
 | zero=>intro k hn hk; exact km_e t x e k (by omega) trivial
 | succ n ih =>
  intro k hn hk
  have hlt:k<t.marks.length:=by omega
  have h:=kn_loop t x e k _ hxm (List.getElem?_eq_getElem hlt) x.marks.length 0 false rfl (by omega)
  have ha:((x.marks.drop 0).any fun a=>decide (a=t.marks[k]))=true:=List.any_eq_true.2 ⟨_,hm _ (List.getElem_mem hlt),decide_eq_true rfl⟩
  rw [ha] at h
  exact km_n t x e k hl (by omega) h _ _ (ih (k+1) (by omega) (by omega))
theorem tkeep_h (t:TE) (e:ED) (h:OkA t) (hE:OkE e):CallC P G 10 [txt t,edt e] [] (.ret (bool true)) []:=by
 have hf:=fewE_c t e hE.s
 cases hb:fewE t e with
 | false=>rw [hb] at hf; exact kp_0 t e hf trivial
 | true =>
  rw [hb] at hf
  obtain ⟨l1,l2,l3⟩:=fewE_iff hb
  have hL:LenT t:=⟨by omega,by omega⟩
  have lx:=edR_len t e
  have hLx:LenT (edR t e).1:=⟨by omega,by omega⟩
  have okx:=edR_ok h.1 hE
  have hp:=perf_c t e hL h.1 hE
  by_cases hr:(edR t e).2=0
  · obtain ⟨hV,_⟩:=ed_inv hr
    have hVx:=ed_val hr
    obtain ⟨f,hK⟩:=ed_keep hr l1
    rw [hr] at hp
    refine kp_2 t _ e (by have:=hK.len; omega) hf hp (kc_loop t _ e f hK l1 (by omega) hVx.ids (fun k hk=>?_) (fun k hk=>?_) t.cells.length 0 (-1) rfl (by omega) (by omega)) (km_loop t _ e l2 (by omega) hK.mem t.marks.length 0 rfl (by omega)) trivial
    · have:=styles_c t k hL h.1
      rw [styR_ok hV hk] at this
      exact this
    · have:=styles_c (edR t e).1 k hLx okx
      rw [styR_ok hVx hk] at this
      exact this
  · exact kp_1 t _ e _ hr hf hp (by simpa using hr)
end Go.Tx
